/- The contract of the reference's scale (a number times a digit); append of one number. -/
import Derived.Test.YtfhkgpipbegpgaaGreatDoorRefA
namespace Go.Proofs.YtfhkgpipbegpgaaGreatDoor
open Go Go.RowKit

theorem digN_nil (n : Nat) : digN n 0 = [] := by unfold digN; rfl
/-- append(out, x), out being nil or of the call's own. -/
theorem app1 {ops : Array Oper} {rest : List Oper} {o : Oper} {a : Act} {Q : Exit → Act → World → Prop} (hgd : o.guard = none) (s x : Operand)
    (ho : o.op = .call { callee := .builtin .append, args := #[s, x], argTypes := #[29, 29] }) (wr : World) (base : Nat) (v : Value) (n : Nat) (L : List Nat) (c : Nat)
    (hs : a.eval s = v) (hx : a.eval x = .slice (some ⟨wr.heap.size, 0, none⟩) 1 1) (hown : wr.ownsRow base 3 1 v n (L.map iv)) (hb : base ≤ wr.heap.size) (hn : n ≤ 1000000)
    (h : ∀ v' w', w'.ownsRow base 3 1 v' (n + 1) ((L ++ [c]).map iv) → Below base wr w' → wpList Tryz.prog ops Q rest (a.put o.dst v') w') :
    wpList Tryz.prog ops Q (o :: rest) a (wr.alloc (.cells #[.int .i64 (c : Int)] 3)) := by
  obtain ⟨i0, hi0, hz0, hz1, hz2⟩ := info_parts info_int
  refine wpList_append_own _ hgd s x 29 ho base 3 i0 (.int .i64 0) 1 8 Tryz.underlying29 hi0 hz0 hz1 hz2 rfl (by decide) v n (L.map iv) hs (hown.alloc _) ⟨wr.heap.size, 0, none⟩ 1 1 [iv c] hx rfl ?_ ?_ (by simp only [maxLen]; omega) (by omega) (by simp; omega) ?_
  · intro j u hj
    cases j with
    | zero =>
      have hu : iv c = u := by simpa using hj
      subst hu
      have := (Blk.new wr 3 #[.int .i64 (c : Int)]).cell (j := 0) (v := .int .i64 (c : Int)) rfl
      exact this
    | succ j => simp at hj
  · intro u hu
    have hu : u = iv c := by simpa using hu
    subst hu
    rfl
  · intro v' w' h1 h2 _
    refine h v' w' (by rw [List.map_append]; exact h1) ?_
    refine (((Below.refl base wr).alloc hb _).grown h2 (by simp; omega) fun k hk => ?_)
    exact (hown.lt k hk).1
set_option maxRecDepth 100000 in
set_option maxHeartbeats 4000000 in
theorem scale_any (A : Option Addr) (ca n b : Nat) (hb : b < 65536) (hk : nd n ≤ 1000) (w : World) (hA : Dg w A ca n) :
    Calls Tryz.prog 56 #[.slice A (nd n) ca, .int .i64 (b : Int)] w (RetD (n * b) w) := by
  have h1 := hA.room
  have h2 := hA.top
  unfold maxLen at h2
  obtain ⟨N, hN⟩ : ∃ N, nd n = N := ⟨_, rfl⟩
  have HN := Lib.hid hN
  have HA := Lib.hid hA
  rw [hN] at h1 hk ⊢
  clear hN hA
  go_enter Tryz.func56, Tryz.ntmps56
  go_wp2
  go_loopw [5, 6, 7] (fun s5 s6 s7 wr => ∃ i : Nat, i ≤ N + 1 ∧ s7 = .int .i64 i ∧ s6 = .int .i64 (car n b i : Int) ∧ wr.ownsRow w.heap.size 3 1 s5 i ((digN (n * b) i).map iv) ∧ Below w.heap.size w wr ∧ (N < i → car n b i = 0)) (fun _ _ s7 _ => N + 2 - (intOf s7).toNat)
  case atStart => exact ⟨0, by omega, rfl, by rw [car_zero]; rfl, by rw [digN_nil]; exact World.ownsRow_nil _ _ _ _, Below.refl _ _, fun h => by omega⟩
  case round =>
    obtain ⟨i, hi, rfl, rfl, hown, hbw, hlast⟩ := hrel
    obtain ⟨C, hC⟩ : ∃ C, car n b i = C := ⟨_, rfl⟩
    have hCb := car_le n b i
    have HO := Lib.hid hown
    have HW := Lib.hid hbw
    rw [hC] at hCb hlast ⊢
    have HC := Lib.hid hC
    clear hown hbw hC
    by_cases hgo : i < N ∨ 0 < C
    case neg =>
      have hi1 : ¬ i < N := fun h => hgo (.inl h)
      have hc0 : C = 0 := by omega
      have HE := Lib.hid (car_end (n := n) (b := b) (i := i) (by rw [HN.out]; omega) (by rw [HC.out]; exact hc0))
      subst hc0
      have t1 : decide ((i : Int) < (N : Int)) = false := decide_eq_false (by omega)
      have t2 : decide ((0 : Int) < ((0 : Nat) : Int)) = false := by decide
      clear hgo hlast
      obtain ⟨hl, A', cap', rfl, hcap, hmax, hrow⟩ := RowI.own HO.out
      have TR := Lib.hid (trim_any A' cap' (n * b) i HE.out hcap hmax _ hrow)
      clear hl hrow
      go_wp2_with fail
      refine TR.out.mono ?_
      rintro e w' ⟨A2, cap2, rfl, hD, hb2⟩
      have HD := Lib.hid hD
      have HB := Lib.hid (bchain HW.out hb2)
      clear hD hb2
      go_wp2
      go_ret
      exact ⟨A2, cap2, rfl, HD.out, HB.out⟩
    case pos =>
      have hiN : i ≤ N := by
        rcases hgo with h | h
        · omega
        · rcases Nat.lt_or_ge N i with h' | h'
          · have := hlast h'; omega
          · exact h'
      have hnext : N < i + 1 → (C + dg n i * b) / 65536 = 0 := fun h => by
        rw [dg_over (lt_of_nd (by rw [HN.out]; omega))]
        omega
      have HS := Lib.hid (car_succ n b i)
      have HT := Lib.hid (car_digit n b i)
      rw [HC.out] at HS HT
      have HX := Lib.hid (digN_succ (n * b) i)
      have hdl := dg_lt n i
      by_cases hlt : i < N
      · obtain ⟨g, off, rfl, hg, hcc⟩ := HA.out.at_ (k := i) (by rw [HN.out]; omega)
        have c0 := (HA.out.keep HW.out).cell (j := i) (by rw [HN.out]; omega)
        clear hcc hg
        obtain ⟨D, hD⟩ : ∃ D, dg n i = D := ⟨_, rfl⟩
        have hp : D * b ≤ 65535 * 65535 := Nat.mul_le_mul (by omega) (by omega)
        rw [hD] at c0 hnext HS HT hdl
        obtain ⟨P, hP⟩ : ∃ P, D * b = P := ⟨_, rfl⟩
        rw [hP] at hp hnext HS HT
        obtain ⟨d, hd⟩ : ∃ d, (C + P) % 65536 = d := ⟨_, rfl⟩
        obtain ⟨q, hq⟩ : ∃ d, (C + P) / 65536 = d := ⟨_, rfl⟩
        rw [hq] at HS hnext
        rw [hd] at HT
        have e1 : (D : Int) * (b : Int) = (P : Int) := by rw [← hP]; simp
        have e2 : ((C : Int) + (P : Int)) % 65536 = (d : Int) := by omega
        have e3 : ((C : Int) + (P : Int)) / 65536 = (q : Int) := by omega
        have t1 : decide ((i : Int) < (N : Int)) = true := decide_eq_true (by omega)
        have HN2 := Lib.hid hnext
        clear hD hP hd hq hgo hlast hnext
        go_wp2_with (at_builtin; refine app1 rfl (.tmp 30) (.tmp 33) rfl _ w.heap.size _ i _ d rfl rfl HO.out HW.out.size (by omega) ?_; intro v' w1 hown' hb')
        go_roundw
        case rel => exact ⟨i + 1, by omega, by go_num, by rw [HS.out, e3], by rw [HX.out, HT.out]; exact hown', HW.out.trans hb', by rw [HS.out]; exact HN2.out⟩
        case measure => simp [intOf]; omega
      · have hiN' : i = N := by omega
        subst hiN'
        have hz : dg n i = 0 := dg_over (lt_of_nd (by rw [HN.out]; exact Nat.le_refl _))
        rw [hz] at hnext HS HT
        rw [Nat.zero_mul] at hnext HS HT
        rw [Nat.add_zero C] at hnext HS HT
        obtain ⟨d, hd⟩ : ∃ d, C % 65536 = d := ⟨_, rfl⟩
        have hq : C / 65536 = 0 := by omega
        rw [hq] at HS
        rw [hd] at HT
        have hC0 : 0 < C := by rcases hgo with h | h <;> omega
        have e2 : (C : Int) % 65536 = (d : Int) := by omega
        have e3 : (C : Int) / 65536 = ((0 : Nat) : Int) := by omega
        have t1 : decide ((i : Int) < (i : Int)) = false := decide_eq_false (by omega)
        have t2 : decide (0 < C) = true := decide_eq_true hC0
        clear hd hq hgo hlast hnext hlt hC0 hdl
        go_wp2_with (at_builtin; refine app1 rfl (.tmp 30) (.tmp 33) rfl _ w.heap.size _ i _ d rfl rfl HO.out HW.out.size (by omega) ?_; intro v' w1 hown' hb')
        go_roundw
        case rel => exact ⟨i + 1, by omega, by go_num, by rw [HS.out]; rfl, by rw [HX.out, HT.out]; exact hown', HW.out.trans hb', fun _ => HS.out⟩
        case measure => simp [intOf]
end Go.Proofs.YtfhkgpipbegpgaaGreatDoor
