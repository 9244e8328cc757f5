/- Append of one element of several cells; the reference's right. -/
import Derived.Test.YtaadipccgckehaaGreatDoorBE
namespace Go.Proofs.YtaadipccgckehaaGreatDoor
open Go Go.RowKit Pl

/-- append(out, x), x of several cells, out being nil or of the call's own. -/
theorem appN {ops : Array Oper} {rest : List Oper} {o : Oper} {a : Act} {Q : Exit → Act → World → Prop} (hgd : o.guard = none) (s x : Operand) {t e : TypeId}
    (ho : o.op = .call { callee := .builtin .append, args := #[s, x], argTypes := #[t, t] }) {i : TypeInfo} {z : Value} {size bytes : Nat} (ht : Tryz.prog.underlying t = some (.slice e)) (hi : Tryz.prog.info? e = some i) (hz : i.zero = some z) (hsize : i.size = size) (hby : i.bytes = bytes) (hzs : z.cells.size = size) (hsz : 0 < size)
    (wr : World) (base : Nat) (v : Value) (n : Nat) (xs : List Value) (cs : List Value) (hcs : cs.length = size) (hc : ∀ u ∈ cs, u.oneCell' = true)
    (hs : a.eval s = v) (hx : a.eval x = .slice (some ⟨wr.heap.size, 0, none⟩) 1 1) (hown : wr.ownsRow base e size v n xs) (hb : base ≤ wr.heap.size) (hn : n ≤ 1000000) (hby2 : bytes ≤ 1000000)
    (h : ∀ v' w', w'.ownsRow base e size v' (n + 1) (xs ++ cs) → Below base wr w' → wpList Tryz.prog ops Q rest (a.put o.dst v') w') :
    wpList Tryz.prog ops Q (o :: rest) a (wr.alloc (.cells cs.toArray e)) := by
  have hlt : (n + 1) * bytes ≤ 1000001 * 1000000 := Nat.mul_le_mul (by omega) hby2
  refine wpList_append_own_at _ hgd s x t ho base e i z size bytes ht hi hz hsize hby hzs hsz v n xs hs (hown.alloc _) ⟨wr.heap.size, 0, none⟩ 1 1 cs hx (by omega) ?_ hc (by simp only [maxLen]; omega) (by omega) (by simp; omega) ?_
  · intro j u hj
    rw [add_at, Nat.zero_add]
    exact (Blk.new wr e cs.toArray).cell (by simpa using hj)
  · intro v' w' h1 h2 _ _
    refine h v' w' h1 ?_
    exact ((Below.refl base wr).alloc hb _).grown h2 (by simp; omega) fun k hk => (hown.lt k hk).1
set_option maxRecDepth 100000 in
theorem rright_any (D : Nat → Nat) (hD : D64 D) (w : World) : Calls Tryz.prog 36 #[.agg #[.int .u64 (D 0 : Nat), .int .u64 (D 1 : Nat), .int .u64 (D 2 : Nat), .int .u64 (D 3 : Nat)]] w (fun e w' => e = .returned (.bool (rightB D)) ∧ Below w.heap.size w w') := by
  have PA := Lib.hid (fun W => rpart_any D hD W)
  have M0 := Lib.hid (fun W => many_any (D 0) (hD 0 (by omega)) W)
  have M1 := Lib.hid (fun W => many_any (D 1) (hD 1 (by omega)) W)
  have M2 := Lib.hid (fun W => many_any (D 2) (hD 2 (by omega)) W)
  have M3 := Lib.hid (fun W => many_any (D 3) (hD 3 (by omega)) W)
  have HR := Lib.hid (right_ref D)
  rcases hp : partB D with _ | _
  · rw [hp] at PA HR
    have HX : Hid (false = rightB D) := Lib.hid (by rw [HR.out]; rfl)
    clear hp hD M0 M1 M2 M3 HR
    go_enter Tryz.func36, Tryz.ntmps36
    go_wp2_with fail
    refine (PA.out _).mono ?_
    rintro e w' ⟨rfl, hb⟩
    have HB := Lib.hid ((below1 w _).trans (hb.mono (below1 w _).size))
    clear hb
    go_wp2_with fail
    go_ret
    exact ⟨ret_b HX.out, HB.out⟩
  · rw [hp] at PA HR
    clear hp hD
    obtain ⟨p0, hp0⟩ : ∃ p, pc 52 (D 0) = p := ⟨_, rfl⟩
    obtain ⟨p1, hp1⟩ : ∃ p, pc 52 (D 1) = p := ⟨_, rfl⟩
    obtain ⟨p2, hp2⟩ : ∃ p, pc 52 (D 2) = p := ⟨_, rfl⟩
    obtain ⟨p3, hp3⟩ : ∃ p, pc 52 (D 3) = p := ⟨_, rfl⟩
    rw [hp0] at M0 HR
    rw [hp1] at M1 HR
    rw [hp2] at M2 HR
    rw [hp3] at M3 HR
    clear hp0 hp1 hp2 hp3
    generalize rightB D = RB at *
    generalize D 0 = a at *
    generalize D 1 = b at *
    generalize D 2 = c at *
    generalize D 3 = d at *
    have BW := Lib.hid (below1 w (.cells #[.int .u64 (a : Nat), .int .u64 (b : Nat), .int .u64 (c : Nat), .int .u64 (d : Nat)] 23))
    have HK := Lib.hid (Blk.new w 23 #[.int .u64 (a : Nat), .int .u64 (b : Nat), .int .u64 (c : Nat), .int .u64 (d : Nat)])
    go_enter Tryz.func36, Tryz.ntmps36
    go_wp2_with fail
    refine (PA.out _).mono ?_
    rintro e w' ⟨rfl, hb⟩
    have HB := Lib.hid (BW.out.trans (hb.mono BW.out.size))
    have x0 := keepW hb (HK.out.cell (j := 0) rfl)
    have x1 := keepW hb (HK.out.cell (j := 1) rfl)
    have x2 := keepW hb (HK.out.cell (j := 2) rfl)
    have x3 := keepW hb (HK.out.cell (j := 3) rfl)
    clear hb HK BW PA
    by_cases c0 : p0 = 13
    case neg =>
      have t0 : ((p0 : Int) == 13) = false := beq_eq_false_iff_ne.2 (by omega)
      have HX : Hid (false = RB) := Lib.hid (by rw [HR.out]; simp [c0])
      clear c0 HR
      go_wp2_with (go_at_call 55; refine (M0.out _).mono ?_; rintro e w' ⟨rfl, rfl⟩)
      go_ret
      exact ⟨ret_b HX.out, HB.out⟩
    have t0 : ((p0 : Int) == 13) = true := beq_iff_eq.2 (by omega)
    by_cases c1 : p1 = 13
    case neg =>
      have t1 : ((p1 : Int) == 13) = false := beq_eq_false_iff_ne.2 (by omega)
      have HX : Hid (false = RB) := Lib.hid (by rw [HR.out]; simp [c1])
      clear c0 c1 HR
      go_wp2_with (first
        | (go_at_call 55; with_reducible refine (M0.out _).mono ?_; rintro e w' ⟨rfl, rfl⟩)
        | (go_at_call 55; with_reducible refine (M1.out _).mono ?_; rintro e w' ⟨rfl, rfl⟩))
      go_ret
      exact ⟨ret_b HX.out, HB.out⟩
    have t1 : ((p1 : Int) == 13) = true := beq_iff_eq.2 (by omega)
    by_cases c2 : p2 = 13
    case neg =>
      have t2 : ((p2 : Int) == 13) = false := beq_eq_false_iff_ne.2 (by omega)
      have HX : Hid (false = RB) := Lib.hid (by rw [HR.out]; simp [c2])
      clear c0 c1 c2 HR
      go_wp2_with (first
        | (go_at_call 55; with_reducible refine (M0.out _).mono ?_; rintro e w' ⟨rfl, rfl⟩)
        | (go_at_call 55; with_reducible refine (M1.out _).mono ?_; rintro e w' ⟨rfl, rfl⟩)
        | (go_at_call 55; with_reducible refine (M2.out _).mono ?_; rintro e w' ⟨rfl, rfl⟩))
      go_ret
      exact ⟨ret_b HX.out, HB.out⟩
    have t2 : ((p2 : Int) == 13) = true := beq_iff_eq.2 (by omega)
    have HX : Hid (((p3 : Int) == 13) = RB) := Lib.hid (by
      rw [HR.out, c0, c1, c2]
      by_cases c3 : p3 = 13
      · rw [c3]; rfl
      · rw [decide_eq_false c3]; exact beq_eq_false_iff_ne.2 (by omega))
    clear c0 c1 c2 HR
    go_wp2_with (first
      | (go_at_call 55; with_reducible refine (M0.out _).mono ?_; rintro e w' ⟨rfl, rfl⟩)
      | (go_at_call 55; with_reducible refine (M1.out _).mono ?_; rintro e w' ⟨rfl, rfl⟩)
      | (go_at_call 55; with_reducible refine (M2.out _).mono ?_; rintro e w' ⟨rfl, rfl⟩)
      | (go_at_call 55; with_reducible refine (M3.out _).mono ?_; rintro e w' ⟨rfl, rfl⟩))
    go_ret
    exact ⟨ret_b HX.out, HB.out⟩
end Go.Proofs.YtaadipccgckehaaGreatDoor
