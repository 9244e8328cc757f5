/- Rows, movements and sessions lent and kept (chapter 30's texts, turned). Sessions lent. A session that came in. -/
import Derived.Test.YtpkmibmombpjpaaGreatDoorED
import Derived.Test.YtpkmibmombpjpaaGreatDoorApp
import Derived.Test.YtpkmibmombpjpaaGreatDoorQt
import Derived.BigQuiet
import Derived.IntWalk
import Derived.Deep.CutBlock
import Derived.OwnWalk
import Derived.Test.YtpkmibmombpjpaaGreatDoorOpL
set_option linter.unusedSimpArgs false
namespace Go.Proofs.YtpkmibmombpjpaaGreatDoor
open Go Go.RowKit

structure Mv where
  tab : Int
  rou : Int
  set : Int
  cop : Int
  win : Int
  rows : List Rw
inductive MR (W : World) : Value → List Rw → Prop
  | none_ : MR W (.slice none 0 0) []
  | some_ (b o cap : Nat) (l : List Rw) (hb : b < W.heap.size) (h : ∀ i r, l[i]? = some r → W.cell? ⟨b, o + i * 5, none⟩ = some (.int .i64 r.rd) ∧ W.cell? ⟨b, o + i * 5 + 1, none⟩ = some (.int .i64 r.tb) ∧ W.cell? ⟨b, o + i * 5 + 2, none⟩ = some (.int .i64 r.ns) ∧ W.cell? ⟨b, o + i * 5 + 3, none⟩ = some (.int .i64 r.ew) ∧ W.cell? ⟨b, o + i * 5 + 4, none⟩ = some (.int .i64 r.st)) : MR W (.slice (some ⟨b, o, none⟩) l.length cap) l
theorem MR.keep {W W' : World} {v : Value} {l : List Rw} (h : MR W v l) (hb : Below W.heap.size W W') : MR W' v l := by
  cases h with
  | none_ => exact .none_
  | some_ b o cap l hlt h =>
    refine .some_ b o cap l (Nat.lt_of_lt_of_le hlt hb.size) (fun i r hi => ?_)
    obtain ⟨a, b, c, d, e⟩ := h i r hi
    exact ⟨keepW hb a, keepW hb b, keepW hb c, keepW hb d, keepW hb e⟩
theorem MR.len {W : World} {v : Value} {l : List Rw} (h : MR W v l) : ∃ A cap, v = .slice A l.length cap := by
  cases h with
  | none_ => exact ⟨_, _, rfl⟩
  | some_ b o cap l _ h => exact ⟨_, _, rfl⟩
theorem MR.at {W : World} {A : Option Addr} {n cap i : Nat} {l : List Rw} {r : Rw} (h : MR W (.slice A n cap) l) (hi : l[i]? = some r) : ∃ b o, A = some ⟨b, o, none⟩ ∧ W.cell? ⟨b, o + i * 5, none⟩ = some (.int .i64 r.rd) ∧ W.cell? ⟨b, o + i * 5 + 1, none⟩ = some (.int .i64 r.tb) ∧ W.cell? ⟨b, o + i * 5 + 2, none⟩ = some (.int .i64 r.ns) ∧ W.cell? ⟨b, o + i * 5 + 3, none⟩ = some (.int .i64 r.ew) ∧ W.cell? ⟨b, o + i * 5 + 4, none⟩ = some (.int .i64 r.st) := by
  cases h with
  | none_ => simp at hi
  | some_ b o cap l hlt h => obtain ⟨h1, h2, h3, h4, h5⟩ := h i r hi; exact ⟨b, o, rfl, h1, h2, h3, h4, h5⟩
/-- A movement as a value. -/
def mvV (m : Mv) (rv : Value) : Value := .agg #[.int .i64 m.tab, .int .i64 m.rou, .int .i64 m.set, .int .i64 m.cop, .int .i64 m.win, rv]
set_option maxRecDepth 100000 in
set_option maxHeartbeats 4000000 in
theorem sameRows_any (v1 v2 : Value) (l : List Rw) (hl : l.length ≤ 1000000) (w : World) (h1 : MR w v1 l) (h2 : MR w v2 l) : Calls Tryz.prog 136 #[v1, v2] w (fun e w' => e = .returned (.bool true) ∧ Below w.heap.size w w') := by
  obtain ⟨A1, c1, rfl⟩ := h1.len
  obtain ⟨A2, c2, rfl⟩ := h2.len
  have H1 := Lib.hid h1
  have H2 := Lib.hid h2
  obtain ⟨N, hN⟩ : ∃ N, l.length = N := ⟨_, rfl⟩
  have HN := Lib.hid hN
  rw [hN] at hl H1 H2 ⊢
  clear h1 h2 hN
  go_enter Tryz.func136, Tryz.ntmps136
  go_wp2_with fail
  go_loopw [5] (fun s5 wr => ∃ k : Nat, k ≤ N ∧ s5 = .int .i64 (k : Int) ∧ Hid (Below w.heap.size w wr)) (fun s5 _ => N - (intOf s5).toNat)
  case atStart => exact ⟨0, Nat.zero_le _, rfl, Lib.hid (Below.refl _ _)⟩
  case round =>
    obtain ⟨k, hk, rfl, BR⟩ := hrel
    by_cases hlt : k < N
    case neg =>
      obtain rfl : k = N := by omega
      have t1 : decide ((k : Int) < (k : Int)) = false := decide_eq_false (by omega)
      go_wp2
      go_ret
      exact ⟨rfl, BR.out⟩
    have t1 : decide ((k : Int) < (N : Int)) = true := decide_eq_true (by omega)
    obtain ⟨r, hx⟩ : ∃ r, l[k]? = some r := ⟨_, List.getElem?_eq_getElem (by rw [HN.out]; exact hlt)⟩
    obtain ⟨b1, o1, rfl, c0, c1', c2', c3, c4⟩ := (H1.out.keep BR.out).at hx
    obtain ⟨b2, o2, rfl, d0, d1, d2, d3, d4⟩ := (H2.out.keep BR.out).at hx
    have i1 : (k : Int) < (N : Int) := by omega
    have i2 : (0 : Int) ≤ (k : Int) := by omega
    clear hx
    go_upto_region 6 with fail
    go_quiet (fail)
    have B2 := Lib.hid (below_drewN BR.out nq)
    clear c0 c1' c2' c3 c4 d0 d1 d2 d3 d4
    generalize wr.drewN nq = w2 at *
    go_wp2_with fail
    go_roundw
    case rel => exact ⟨k + 1, by omega, by go_num, B2⟩
    case measure => simp [intOf]; omega
theorem mark_one (i : Int) (h : 0 ≤ i ∧ i < 1000) (w : World) : Calls Tryz.prog 113 #[.int .i64 1, .int .i64 i] w (fun e w' => e = .returned (.int .i64 (8000024 + i)) ∧ w' = w) := by
  have g1 : IntKind.i64.wrap (8000024 + i) = 8000024 + i := IntWalk.i64_in _ (by omega)
  go_enter Tryz.func113, Tryz.ntmps113
  go_wp2
  go_ret
  exact ⟨rfl, rfl⟩
theorem markRow_one (i : Int) (h : 0 ≤ i ∧ i < 1000) (w : World) : Calls Tryz.prog 135 #[.int .i64 1, .int .i64 i] w (fun e w' => e = .returned (.agg #[.int .i64 0, .int .i64 0, .int .i64 (8000024 + i), .int .i64 0, .int .i64 0]) ∧ Below w.heap.size w w') := by
  have M1 := Lib.hid (fun w => mark_one i h w)
  clear h
  go_enter Tryz.func135, Tryz.ntmps135
  go_wp2_with fail
  refine (M1.out _).mono ?_
  rintro e w1 ⟨rfl, rfl⟩
  go_wp2
  simp [bodyPost, results, Tryz.results135, go_sem]
  exact (Below.refl _ _).alloc (Nat.le_refl _) _
/-- The cells of rows. -/
def rw5 (l : List Rw) : List Value := l.flatMap fun x => [.int .i64 x.rd, .int .i64 x.tb, .int .i64 x.ns, .int .i64 x.ew, .int .i64 x.st]
theorem rw5_len (l : List Rw) : (rw5 l).length = l.length * 5 := by
  induction l with
  | nil => rfl
  | cons x t ih => simp only [rw5, List.flatMap_cons, List.length_append, List.length_cons, List.length_nil] at ih ⊢; omega
theorem rw5_app (l m : List Rw) : rw5 (l ++ m) = rw5 l ++ rw5 m := by simp [rw5]
theorem rw5_at (l : List Rw) : ∀ (i : Nat) (r : Rw), l[i]? = some r → (rw5 l)[i * 5]? = some (.int .i64 r.rd) ∧ (rw5 l)[i * 5 + 1]? = some (.int .i64 r.tb) ∧ (rw5 l)[i * 5 + 2]? = some (.int .i64 r.ns) ∧ (rw5 l)[i * 5 + 3]? = some (.int .i64 r.ew) ∧ (rw5 l)[i * 5 + 4]? = some (.int .i64 r.st) := by
  induction l with
  | nil => intro i r h; simp at h
  | cons x t ih =>
    intro i r h
    have e : rw5 (x :: t) = .int .i64 x.rd :: .int .i64 x.tb :: .int .i64 x.ns :: .int .i64 x.ew :: .int .i64 x.st :: rw5 t := by simp [rw5]
    cases i with
    | zero => simp at h; subst h; rw [e]; exact ⟨rfl, rfl, rfl, rfl, rfl⟩
    | succ i =>
      have := ih i r (by simpa using h)
      rw [e, show (i + 1) * 5 = i * 5 + 1 + 1 + 1 + 1 + 1 by omega]
      exact ⟨by simpa using this.1, by simpa using this.2.1, by simpa using this.2.2.1, by simpa using this.2.2.2.1, by simpa using this.2.2.2.2⟩
theorem rw5_one (l : List Rw) : ∀ u ∈ rw5 l, u.oneCell' = true := by
  intro u hu
  simp only [rw5, List.mem_flatMap, List.mem_cons, List.not_mem_nil, or_false] at hu
  obtain ⟨x, _, rfl | rfl | rfl | rfl | rfl⟩ := hu <;> rfl
/-- Rows as a source. -/
theorem src_rows {W : World} {v : Value} {l : List Rw} (h : MR W v l) : SrcR W 5 v l.length (rw5 l) := by
  cases h with
  | none_ => exact .none_
  | some_ b o cap l hb h =>
    refine .some_ b o l.length cap (rw5 l) (rw5_len l) (fun j u hu => ?_)
    have hlen := (List.getElem?_eq_some_iff.1 hu).1
    rw [rw5_len] at hlen
    obtain ⟨r, hr⟩ : ∃ x, l[j / 5]? = some x := ⟨_, List.getElem?_eq_getElem (by omega)⟩
    obtain ⟨f0, f1, f2, f3, f4⟩ := rw5_at l _ _ hr
    obtain ⟨c0, c1, c2, c3, c4⟩ := h _ _ hr
    rcases (by omega : j % 5 = 0 ∨ j % 5 = 1 ∨ j % 5 = 2 ∨ j % 5 = 3 ∨ j % 5 = 4) with hm | hm | hm | hm | hm
    · rw [show j / 5 * 5 = j by omega] at f0 c0
      rw [f0] at hu; obtain rfl := Option.some.inj hu; exact c0
    · rw [show j / 5 * 5 + 1 = j by omega] at f1
      rw [show o + j / 5 * 5 + 1 = o + j by omega] at c1
      rw [f1] at hu; obtain rfl := Option.some.inj hu; exact c1
    · rw [show j / 5 * 5 + 2 = j by omega] at f2
      rw [show o + j / 5 * 5 + 2 = o + j by omega] at c2
      rw [f2] at hu; obtain rfl := Option.some.inj hu; exact c2
    · rw [show j / 5 * 5 + 3 = j by omega] at f3
      rw [show o + j / 5 * 5 + 3 = o + j by omega] at c3
      rw [f3] at hu; obtain rfl := Option.some.inj hu; exact c3
    · rw [show j / 5 * 5 + 4 = j by omega] at f4
      rw [show o + j / 5 * 5 + 4 = o + j by omega] at c4
      rw [f4] at hu; obtain rfl := Option.some.inj hu; exact c4
/-- Rows of the call's own, whole. -/
theorem mr_of_own {w : World} {base g n c : Nat} {l : List Rw} (h : w.ownsRow base 90 5 (.slice (some ⟨g, 0, none⟩) n c) n (rw5 l)) : g < w.heap.size ∧ base ≤ g ∧ ∀ i r, l[i]? = some r → w.cell? ⟨g, i * 5, none⟩ = some (.int .i64 r.rd) ∧ w.cell? ⟨g, i * 5 + 1, none⟩ = some (.int .i64 r.tb) ∧ w.cell? ⟨g, i * 5 + 2, none⟩ = some (.int .i64 r.ns) ∧ w.cell? ⟨g, i * 5 + 3, none⟩ = some (.int .i64 r.ew) ∧ w.cell? ⟨g, i * 5 + 4, none⟩ = some (.int .i64 r.st) := by
  rcases h.2 with ⟨h1, _⟩ | ⟨g', cap', cur, e, hb, hg, h1, h2, h3, h4⟩
  · cases h1
  · injection e with e1 _ _
    have e1 := Option.some.inj e1
    injection e1 with e1 _ _
    subst e1
    have hat : ∀ (j : Nat) (v : Value), (rw5 l)[j]? = some v → w.cell? ⟨g, j, none⟩ = some v := by
      intro j v hj
      rw [← h4, List.getElem?_take] at hj
      split at hj
      · have : cur[j]? = some v := by simpa using hj
        simp [World.cell?, hg, this]
      · cases hj
    refine ⟨(Array.getElem?_eq_some_iff.1 hg).1, hb, fun i r hi => ?_⟩
    obtain ⟨f0, f1, f2, f3, f4⟩ := rw5_at l i r hi
    exact ⟨hat _ _ f0, hat _ _ f1, hat _ _ f2, hat _ _ f3, hat _ _ f4⟩
theorem info_rowL : (Tryz.prog.info? 90).map (fun i => (i.zero, i.size, i.bytes)) = some (some (.agg #[.int .i64 0, .int .i64 0, .int .i64 0, .int .i64 0, .int .i64 0]), 5, 40) := by kernel_rfl
theorem info_parts_rowL : ∃ i, Tryz.prog.info? 90 = some i ∧ i.zero = some (.agg #[.int .i64 0, .int .i64 0, .int .i64 0, .int .i64 0, .int .i64 0]) ∧ i.size = 5 ∧ i.bytes = 40 := by
  have h := info_rowL
  cases hi : Tryz.prog.info? 90 with
  | none => rw [hi] at h; cases h
  | some i =>
    rw [hi] at h
    simp only [Option.map_some, Option.some.injEq, Prod.mk.injEq] at h
    exact ⟨i, rfl, h.1, h.2.1, h.2.2⟩
def markR (i : Nat) : Rw := ⟨0, 0, 8000024 + (i : Int), 0, 0⟩
def marks (k : Nat) : List Rw := (List.range k).map markR
theorem marks_succ (k : Nat) : marks (k + 1) = marks k ++ [markR k] := by simp [marks, List.range_succ]
/-- append of what lies somewhere, nil or not, where there is room. -/
theorem app_fits {ops : Array Oper} {rest : List Oper} {o : Oper} {a : Act} {Q : Exit → Act → World → Prop} (hgd : o.guard = none) (s x : Operand)
    (ho : o.op = .call { callee := .builtin .append, args := #[s, x], argTypes := #[22, 22] }) (W : World) (base g k cap : Nat) (xs : List Value) (hs : a.eval s = .slice (some ⟨g, 0, none⟩) k cap)
    (hown : W.ownsRow base 90 5 (.slice (some ⟨g, 0, none⟩) k cap) k xs) (u : Value) (m : Nat) (news : List Value) (hx : a.eval x = u) (hsrc : SrcR W 5 u m news) (h1 : ∀ u ∈ news, u.oneCell' = true) (b1 : k + m ≤ cap)
    (hK : ∀ w', w'.ownsRow base 90 5 (.slice (some ⟨g, 0, none⟩) (k + m) cap) (k + m) (xs ++ news) → W.grownBy w' (some g) → wpList Tryz.prog ops Q rest (a.put o.dst (.slice (some ⟨g, 0, none⟩) (k + m) cap)) w') : wpList Tryz.prog ops Q (o :: rest) a W := by
  obtain ⟨i0, hi0, hz0, hz1, hz2⟩ := info_parts_rowL
  cases hsrc with
  | none_ =>
    refine wpList_plain hgd fun K hK2 => ?_
    have hx' : a.eval x = .slice none 0 0 := hx
    unfold Oper.wp
    simp [execOp, ho, resolve, invoke, builtin, hs, hx', run_append_owned_none W base 22 o.type 90 i0 5 Tryz.underlying22 hi0 _ k xs hown, Result.andThen]
    exact hK2 _ _ (hK W (by simpa using hown) (World.grownBy.refl _ _))
  | some_ b off m c cs hl hcell =>
    exact wpList_append_fits W hgd s x 22 ho base 90 i0 5 Tryz.underlying22 hi0 hz1 g k cap xs hs hown ⟨b, off, none⟩ m c news hx hl (fun j u hj => by rw [add_at]; exact hcell j u hj) h1 b1 hK
/-- Rows that were lent: themselves, and twelve marks behind. -/
def LR (w : World) (g : Nat) (l : List Rw) : Prop := g < w.heap.size ∧ ∀ i r, (l ++ marks 12)[i]? = some r → w.cell? ⟨g, i * 5, none⟩ = some (.int .i64 r.rd) ∧ w.cell? ⟨g, i * 5 + 1, none⟩ = some (.int .i64 r.tb) ∧ w.cell? ⟨g, i * 5 + 2, none⟩ = some (.int .i64 r.ns) ∧ w.cell? ⟨g, i * 5 + 3, none⟩ = some (.int .i64 r.ew) ∧ w.cell? ⟨g, i * 5 + 4, none⟩ = some (.int .i64 r.st)
theorem LR.keep {w w' : World} {g : Nat} {l : List Rw} (h : LR w g l) (hb : Below w.heap.size w w') : LR w' g l := ⟨Nat.lt_of_lt_of_le h.1 hb.size, fun i r hi => by
  obtain ⟨a, b, c, d, e⟩ := h.2 i r hi
  exact ⟨keepW hb a, keepW hb b, keepW hb c, keepW hb d, keepW hb e⟩⟩
theorem LR.mr {w : World} {g : Nat} {l : List Rw} (h : LR w g l) : MR w (.slice (some ⟨g, 0, none⟩) l.length (l.length + 12)) l := by
  refine .some_ g 0 _ l h.1 (fun i r hi => ?_)
  have hlt := (List.getElem?_eq_some_iff.1 hi).1
  have := h.2 i r (by rw [List.getElem?_append_left hlt]; exact hi)
  rw [Nat.zero_add]
  exact this
structure LQ (w W : World) (N k : Nat) (l : List Rw) : Prop where
  own : W.ownsRow w.heap.size 90 5 (.slice (some ⟨w.heap.size, 0, none⟩) (N + k) (N + 12)) (N + k) (rw5 (l ++ marks k))
  below : Below w.heap.size w W
set_option maxRecDepth 100000 in
set_option maxHeartbeats 4000000 in
theorem lentRows_any (v : Value) (l : List Rw) (hl : l.length ≤ 100000) (w : World) (h : MR w v l) : Calls Tryz.prog 96 #[v] w (fun e w' => e = .returned (.slice (some ⟨w.heap.size, 0, none⟩) l.length (l.length + 12)) ∧ LR w' w.heap.size l ∧ Below w.heap.size w w') := by
  obtain ⟨i0, hi0, hz0, hz1, hz2⟩ := info_parts_rowL
  have HS := Lib.hid h
  obtain ⟨A, c, rfl⟩ := h.len
  obtain ⟨N, hN⟩ : ∃ N, l.length = N := ⟨_, rfl⟩
  have HN := Lib.hid hN
  rw [hN] at hl HS ⊢
  have wd : IntKind.i64.wrap ((N : Int) + 12) = (N : Int) + 12 := IntWalk.i64_in _ (by omega)
  clear h hN
  go_enter Tryz.func96, Tryz.ntmps96
  go_wp2_with (first
    | (at_make; refine wpList_make_own _ rfl _ _ 22 rfl w.heap.size 90 i0 (.agg #[.int .i64 0, .int .i64 0, .int .i64 0, .int .i64 0, .int .i64 0]) 5 Tryz.underlying22 hi0 hz0 hz1 .i64 .i64 _ (N + 12) rfl rfl (by simp) (by rw [hz2]; omega) (by unfold maxLen; omega) (Nat.le_refl _) ?_; intro w0 hown0 hgrow0)
    | (at_builtin; refine app_fits rfl _ _ rfl _ w.heap.size w.heap.size 0 (N + 12) [] rfl hown0 _ N (rw5 l) rfl (by have h9 := (src_rows HS.out).keep ((Below.refl w.heap.size w).grown hgrow0 (Nat.le_refl _) (fun k hk => by cases hk)); rw [HN.out] at h9; exact h9) (rw5_one l) (by omega) ?_; intro w1 hown1 hgrow1))
  have hb0 : Below w.heap.size w w0 := (Below.refl w.heap.size w).grown hgrow0 (Nat.le_refl _) (fun k hk => by cases hk)
  have hb1 : Below w.heap.size w w1 := hb0.grown hgrow1 hb0.size (fun k hk => by cases hk; exact Nat.le_refl _)
  have HQ : Hid (LQ w w1 N 0 l) := Lib.hid ⟨by simpa [marks] using hown1, hb1⟩
  clear hown0 hgrow0 hown1 hgrow1 hb0 hb1 hi0 hz0 hz1 hz2
  clear i0
  go_wp2_with fail
  go_loopw [3, 4] (fun s3 s4 wr => ∃ k : Nat, k ≤ 12 ∧ s3 = .slice (some ⟨w.heap.size, 0, none⟩) (N + k) (N + 12) ∧ s4 = .int .i64 (k : Int) ∧ Hid (LQ w wr N k l)) (fun _ s4 _ => 12 - (intOf s4).toNat)
  case atStart => exact ⟨0, by omega, by simp, rfl, HQ⟩
  case round =>
    obtain ⟨k, hk, rfl, rfl, HQ1⟩ := hrel
    clear HQ
    by_cases hlt : k < 12
    · have t1 : decide ((k : Int) < 12) = true := decide_eq_true (by omega)
      have M1 := Lib.hid (fun W => markRow_one (k : Int) (by omega) W)
      go_wp2_with fail
      refine (M1.out _).mono ?_
      rintro e w2 ⟨rfl, hb⟩
      have HO := Lib.hid (own_keep HQ1.out.own (bchain hb (below1 w2 (.cells #[.int .i64 0, .int .i64 0, .int .i64 (8000024 + (k : Int)), .int .i64 0, .int .i64 0] 90))))
      have HB := Lib.hid (bchain HQ1.out.below (bchain hb (below1 w2 (.cells #[.int .i64 0, .int .i64 0, .int .i64 (8000024 + (k : Int)), .int .i64 0, .int .i64 0] 90))))
      have HW : Hid (SrcR (w2.alloc (.cells #[.int .i64 0, .int .i64 0, .int .i64 (8000024 + (k : Int)), .int .i64 0, .int .i64 0] 90)) 5 (.slice (some ⟨w2.heap.size, 0, none⟩) 1 1) 1 (rw5 [markR k])) := Lib.hid (.some_ w2.heap.size 0 1 1 _ rfl (fun j u hj => by
        rw [Nat.zero_add]
        exact (Blk.new w2 90 #[.int .i64 0, .int .i64 0, .int .i64 (8000024 + (k : Int)), .int .i64 0, .int .i64 0]).cell (by
          match j, hj with
          | 0, hj => exact hj
          | 1, hj => exact hj
          | 2, hj => exact hj
          | 3, hj => exact hj
          | 4, hj => exact hj
          | j + 5, hj => exact hj)))
      clear hb
      go_wp2_with (at_builtin; refine app_fits rfl _ _ rfl _ w.heap.size w.heap.size (N + k) (N + 12) _ rfl HO.out _ 1 (rw5 [markR k]) rfl HW.out (rw5_one _) (by omega) ?_; intro w4 hown4 hgrow4)
      have HQ4 : Hid (LQ w w4 N (k + 1) l) := Lib.hid ⟨by rw [marks_succ, ← List.append_assoc, rw5_app, ← Nat.add_assoc]; exact hown4, HB.out.grown hgrow4 HB.out.size (fun k hk => by cases hk; exact Nat.le_refl _)⟩
      clear hown4 hgrow4 HO HB HW
      go_wp2_with fail
      go_roundw
      case rel => exact ⟨k + 1, by omega, by rw [Nat.add_assoc], by go_num, HQ4⟩
      case measure => simp [intOf]; omega
    · obtain rfl : k = 12 := by omega
      rw [show ((12 : Nat) : Int) = 12 from rfl]
      have hr := mr_of_own HQ1.out.own
      have HR := Lib.hid hr
      have i1 : (N : Int) ≤ (N : Int) + 12 := by omega
      have i2 : N ≤ N + 12 := by omega
      clear hr
      go_wp2_with fail
      go_ret
      exact ⟨rfl, ⟨HR.out.1, HR.out.2.2⟩, HQ1.out.below⟩
theorem LR.other {w : World} {g p : Nat} {l : List Rw} (h : LR w g l) (hp : p ≠ g) (j : Nat) (v : Value) : LR (w.setCell ⟨p, j, none⟩ v) g l := by
  have key : ∀ (i : Nat) (u : Value), w.cell? ⟨g, i, none⟩ = some u → (w.setCell ⟨p, j, none⟩ v).cell? ⟨g, i, none⟩ = some u := fun i u hu => by
    rw [← hu]
    exact World.cell?_of_block (Below.heap_setCell w ⟨p, j, none⟩ v g (fun e => hp e.symm))
  refine ⟨by simpa using h.1, fun i r hi => ?_⟩
  obtain ⟨a, b, c, d, e⟩ := h.2 i r hi
  exact ⟨key _ _ a, key _ _ b, key _ _ c, key _ _ d, key _ _ e⟩
theorem marks_at (l : List Rw) (k : Nat) (h : l.length ≤ k) (h' : k < l.length + 12) : (l ++ marks 12)[k]? = some ⟨0, 0, 8000024 + ((k : Int) - (l.length : Int)), 0, 0⟩ := by
  rw [List.getElem?_append_right h]
  unfold marks
  rw [List.getElem?_map, List.getElem?_range (by omega)]
  simp only [Option.map_some, markR]
  congr 2
  omega
set_option maxRecDepth 100000 in
set_option maxHeartbeats 4000000 in
theorem keptRows_any (g : Nat) (v : Value) (l : List Rw) (hn : l.length ≤ 900) (w : World) (hG : LR w g l) (hR : MR w v l) :
    Calls Tryz.prog 98 #[.slice (some ⟨g, 0, none⟩) l.length (l.length + 12), v] w (fun e w' => e = .returned (.bool true) ∧ Below w.heap.size w w') := by
  obtain ⟨A, c, rfl⟩ := hR.len
  obtain ⟨N, hN⟩ : ∃ N, l.length = N := ⟨_, rfl⟩
  have HR := Lib.hid hR
  have HG := Lib.hid hG
  have HM := Lib.hid (fun k => marks_at l k)
  have HN := Lib.hid hN
  rw [hN] at hn HR HM ⊢
  have wd : IntKind.i64.wrap ((N : Int) + 12) = (N : Int) + 12 := IntWalk.i64_in _ (by omega)
  clear hN hR hG
  go_enter Tryz.func98, Tryz.ntmps98
  go_wp2_with fail
  go_loopw [6] (fun s6 wr => ∃ k : Nat, k ≤ N + 12 ∧ s6 = .int .i64 (k : Int) ∧ Hid (Below w.heap.size w wr)) (fun s6 _ => N + 12 - (intOf s6).toNat)
  case atStart => exact ⟨0, by omega, rfl, Lib.hid (Below.refl _ _)⟩
  case round =>
    obtain ⟨k, hk, rfl, HB⟩ := hrel
    by_cases hlt : k < N + 12
    · have t1 : decide ((k : Int) < (N : Int) + 12) = true := decide_eq_true (by omega)
      have i1 : 0 ≤ (k : Int) := by omega
      by_cases hin : k < N
      · obtain ⟨r, hx⟩ : ∃ x, l[k]? = some x := ⟨_, List.getElem?_eq_getElem (by rw [HN.out]; exact hin)⟩
        obtain ⟨b, o, rfl, c0, c1, c2, c3, c4⟩ := (HR.out.keep HB.out).at hx
        have hy : (l ++ marks 12)[k]? = some r := by rw [List.getElem?_append_left (by rw [HN.out]; exact hin)]; exact hx
        obtain ⟨e0, e1, e2, e3, e4⟩ := (HG.out.keep HB.out).2 k r hy
        have t2 : decide (k < N) = true := decide_eq_true hin
        have t3 : decide (N ≤ k) = false := decide_eq_false (by omega)
        clear hx hy
        go_upto_region 7 with fail
        go_quiet (fail)
        have HB2 := Lib.hid (below_drewN HB.out nq)
        clear c0 c1 c2 c3 c4 e0 e1 e2 e3 e4
        generalize wr.drewN nq = w5 at *
        go_wp2_with fail
        go_roundw
        case rel => exact ⟨k + 1, by omega, by go_num, HB2⟩
        case measure => simp [intOf]; omega
      · have hx := HM.out k (by omega) (by omega)
        obtain ⟨e0, e1, e2, e3, e4⟩ := (HG.out.keep HB.out).2 k _ hx
        have t2 : decide (k < N) = false := decide_eq_false hin
        have t3 : decide (N ≤ k) = true := decide_eq_true (by omega)
        have w3 : IntKind.i64.wrap ((k : Int) - (N : Int)) = (k : Int) - (N : Int) := IntWalk.i64_in _ (by omega)
        have M1 := Lib.hid (fun W => markRow_one ((k : Int) - (N : Int)) (by omega) W)
        clear hx
        go_upto_region 7 with fail
        have m0 := Since.cell e0
        have m1 := Since.cell e1
        have m2 := Since.cell e2
        have m3 := Since.cell e3
        have m4 := Since.cell e4
        refine region_since (by kernel_rfl) (by kernel_rfl) ?_
        repeat (go_big_quiet_step ((go_at_call 135; exact Calls.since (M1.out _))))
        refine wpQuiet_nil ?_
        rintro w' ⟨u', rfl⟩
        have HB2 := Lib.hid (bchain HB.out u'.property)
        clear m0 m1 m2 m3 m4 e0 e1 e2 e3 e4
        generalize u'.val = w6 at *
        go_wp2_with fail
        go_roundw
        case rel => exact ⟨k + 1, by omega, by go_num, HB2⟩
        case measure => simp [intOf]; omega
    · obtain rfl : k = N + 12 := by omega
      have t1 : decide (((N + 12 : Nat) : Int) < (N : Int) + 12) = false := decide_eq_false (by omega)
      go_wp2
      go_ret
      exact ⟨rfl, HB.out⟩
set_option maxRecDepth 100000 in
set_option maxHeartbeats 4000000 in
theorem sameMv_any (m : Mv) (v1 v2 : Value) (hl : m.rows.length ≤ 1000000) (w : World) (h1 : MR w v1 m.rows) (h2 : MR w v2 m.rows) : Calls Tryz.prog 97 #[mvV m v1, mvV m v2] w (fun e w' => e = .returned (.bool true) ∧ Below w.heap.size w w') := by
  have SR := Lib.hid (fun wx (hb : Below w.heap.size w wx) => sameRows_any v1 v2 m.rows hl wx (h1.keep hb) (h2.keep hb))
  clear h1 h2
  unfold mvV
  have q0 : (m.tab == m.tab) = true := beq_self_eq_true _
  have q1 : (m.rou == m.rou) = true := beq_self_eq_true _
  have q2 : (m.set == m.set) = true := beq_self_eq_true _
  have q3 : (m.cop == m.cop) = true := beq_self_eq_true _
  have q4 : (m.win == m.win) = true := beq_self_eq_true _
  go_enter Tryz.func97, Tryz.ntmps97
  go_wp2_with fail
  refine (SR.out _ (bchain (below1 w _) (below1 _ _))).mono ?_
  rintro e w1 ⟨rfl, hb⟩
  have B1 := Lib.hid (bchain (bchain (below1 w _) (below1 _ _)) hb)
  clear hb
  go_wp2_with fail
  go_ret
  exact ⟨rfl, B1.out⟩
set_option maxRecDepth 100000 in
set_option maxHeartbeats 4000000 in
theorem keptMv_any (m : Mv) (g : Nat) (v : Value) (hl : m.rows.length ≤ 900) (w : World) (hG : LR w g m.rows) (hR : MR w v m.rows) : Calls Tryz.prog 67 #[mvV m (.slice (some ⟨g, 0, none⟩) m.rows.length (m.rows.length + 12)), mvV m v] w (fun e w' => e = .returned (.bool true) ∧ Below w.heap.size w w') := by
  have SM := Lib.hid (fun wx (hb : Below w.heap.size w wx) => sameMv_any m _ v (by omega) wx (hG.keep hb).mr (hR.keep hb))
  have KR := Lib.hid (fun wx (hb : Below w.heap.size w wx) => keptRows_any g v m.rows hl wx (hG.keep hb) (hR.keep hb))
  obtain ⟨A, c, rfl⟩ := hR.len
  obtain ⟨N, hN⟩ : ∃ N, m.rows.length = N := ⟨_, rfl⟩
  rw [hN] at SM KR ⊢
  clear hG hR hN
  unfold mvV at SM ⊢
  go_enter Tryz.func67, Tryz.ntmps67
  go_wp2_with fail
  have HB1 := Lib.hid ((Blk.new w 24 #[.int .i64 m.tab, .int .i64 m.rou, .int .i64 m.set, .int .i64 m.cop, .int .i64 m.win, .slice (some ⟨g, 0, none⟩) N (N + 12)]).alloc (.cells #[.int .i64 m.tab, .int .i64 m.rou, .int .i64 m.set, .int .i64 m.cop, .int .i64 m.win, .slice A N c] 24))
  have HB2 := Lib.hid (Blk.new (w.alloc (.cells #[.int .i64 m.tab, .int .i64 m.rou, .int .i64 m.set, .int .i64 m.cop, .int .i64 m.win, .slice (some ⟨g, 0, none⟩) N (N + 12)] 24)) 24 #[.int .i64 m.tab, .int .i64 m.rou, .int .i64 m.set, .int .i64 m.cop, .int .i64 m.win, .slice A N c])
  have BA := Lib.hid (bchain (below1 w (.cells #[.int .i64 m.tab, .int .i64 m.rou, .int .i64 m.set, .int .i64 m.cop, .int .i64 m.win, .slice (some ⟨g, 0, none⟩) N (N + 12)] 24)) (below1 _ (.cells #[.int .i64 m.tab, .int .i64 m.rou, .int .i64 m.set, .int .i64 m.cop, .int .i64 m.win, .slice A N c] 24)))
  refine (SM.out _ BA.out).mono ?_
  rintro e w1 ⟨rfl, hb⟩
  have B1 := Lib.hid (bchain BA.out hb)
  rw [size_al] at HB2
  have x5 := (HB1.out.keep hb HB1.out.lt).cell (j := 5) (v := .slice (some ⟨g, 0, none⟩) N (N + 12)) rfl
  have y5 := (HB2.out.keep hb HB2.out.lt).cell (j := 5) (v := .slice A N c) rfl
  clear hb HB1 HB2 BA SM
  go_wp2_with fail
  refine (KR.out _ B1.out).mono ?_
  rintro e w2 ⟨rfl, hb⟩
  have B2 := Lib.hid (bchain B1.out hb)
  clear hb B1 x5 y5 KR
  go_wp2_with fail
  go_ret
  exact ⟨rfl, B2.out⟩
set_option maxRecDepth 100000 in
set_option maxHeartbeats 4000000 in
theorem lentMv_any (m : Mv) (v : Value) (hl : m.rows.length ≤ 100000) (w : World) (h : MR w v m.rows) : Calls Tryz.prog 64 #[mvV m v] w (fun e w' => ∃ g, e = .returned (mvV m (.slice (some ⟨g, 0, none⟩) m.rows.length (m.rows.length + 12))) ∧ LR w' g m.rows ∧ w.heap.size ≤ g ∧ Below w.heap.size w w') := by
  have LE := Lib.hid (fun wx (hb : Below w.heap.size w wx) => lentRows_any v m.rows hl wx (h.keep hb))
  obtain ⟨A, c, rfl⟩ := h.len
  obtain ⟨N, hN⟩ : ∃ N, m.rows.length = N := ⟨_, rfl⟩
  rw [hN] at LE ⊢
  clear h hN
  unfold mvV
  go_enter Tryz.func64, Tryz.ntmps64
  go_upto_region 1 with fail
  have HB1 := Lib.hid ((Blk.new w 24 #[.int .i64 m.tab, .int .i64 m.rou, .int .i64 m.set, .int .i64 m.cop, .int .i64 m.win, .slice A N c]).alloc (.cells #[.int .i64 0, .int .i64 0, .int .i64 0, .int .i64 0, .int .i64 0, .slice none 0 0] 24))
  have HB2 := Lib.hid (Blk.new (w.alloc (.cells #[.int .i64 m.tab, .int .i64 m.rou, .int .i64 m.set, .int .i64 m.cop, .int .i64 m.win, .slice A N c] 24)) 24 #[.int .i64 0, .int .i64 0, .int .i64 0, .int .i64 0, .int .i64 0, .slice none 0 0])
  have BA := Lib.hid (bchain (below1 w (.cells #[.int .i64 m.tab, .int .i64 m.rou, .int .i64 m.set, .int .i64 m.cop, .int .i64 m.win, .slice A N c] 24)) (below1 _ (.cells #[.int .i64 0, .int .i64 0, .int .i64 0, .int .i64 0, .int .i64 0, .slice none 0 0] 24)))
  have HSZ : Hid (((w.alloc (.cells #[.int .i64 m.tab, .int .i64 m.rou, .int .i64 m.set, .int .i64 m.cop, .int .i64 m.win, .slice A N c] 24)).alloc (.cells #[.int .i64 0, .int .i64 0, .int .i64 0, .int .i64 0, .int .i64 0, .slice none 0 0] 24)).heap.size = w.heap.size + 1 + 1) := Lib.hid (by rw [size_al, size_al])
  rw [size_al] at HB2
  generalize (w.alloc (.cells #[.int .i64 m.tab, .int .i64 m.rou, .int .i64 m.set, .int .i64 m.cop, .int .i64 m.win, .slice A N c] 24)).alloc (.cells #[.int .i64 0, .int .i64 0, .int .i64 0, .int .i64 0, .int .i64 0, .slice none 0 0] 24) = wa at *
  obtain ⟨p, hp⟩ : ∃ p, w.heap.size = p := ⟨_, rfl⟩
  obtain ⟨q, hq⟩ : ∃ q, p + 1 = q := ⟨_, rfl⟩
  rw [hp] at HB1 HB2 HSZ ⊢
  rw [hq] at HB2 HSZ ⊢
  have HPQ := Lib.hid (And.intro hp hq)
  clear hp hq
  have x5 := HB1.out.cell (j := 5) (v := .slice A N c) rfl
  go_wp2_with fail
  refine (LE.out _ BA.out).mono ?_
  rintro e w1 ⟨rfl, hG, hb⟩
  have B1 := Lib.hid (bchain BA.out hb)
  replace HB1 := Lib.hid (HB1.out.keep hb HB1.out.lt)
  replace HB2 := Lib.hid (HB2.out.keep hb HB2.out.lt)
  obtain ⟨g, hg⟩ : ∃ g, wa.heap.size = g := ⟨_, rfl⟩
  rw [hg] at hG HSZ ⊢
  have HG := Lib.hid hG
  clear hG hb hg x5 BA LE
  have x5 := HB1.out.cell (j := 5) (v := .slice A N c) rfl
  have f5 := HB1.out.free 5
  go_upto_region 2 with fail
  have hpg : p ≠ q ∧ p ≠ g ∧ q ≠ g ∧ w.heap.size ≤ p ∧ w.heap.size ≤ q := by have := HPQ.out; have := HSZ.out; omega
  have HNE := Lib.hid hpg
  replace HB2 := Lib.hid (HB2.out.other hpg.1.symm 5 (.slice (some ⟨g, 0, none⟩) N (N + 12)))
  replace HB1 := Lib.hid (HB1.out.set 5 (.slice (some ⟨g, 0, none⟩) N (N + 12)))
  replace B1 := Lib.hid (B1.out.setCell (p := ⟨p, 5, none⟩) hpg.2.2.2.1 (.slice (some ⟨g, 0, none⟩) N (N + 12)))
  replace HG := Lib.hid (HG.out.other hpg.2.1 5 (.slice (some ⟨g, 0, none⟩) N (N + 12)))
  clear x5 f5 hpg
  generalize w1.setCell ⟨p, 5, none⟩ (.slice (some ⟨g, 0, none⟩) N (N + 12)) = w2 at *
  have x0 := HB1.out.cell (j := 0) (v := .int .i64 m.tab) rfl
  have x1 := HB1.out.cell (j := 1) (v := .int .i64 m.rou) rfl
  have x2 := HB1.out.cell (j := 2) (v := .int .i64 m.set) rfl
  have x3 := HB1.out.cell (j := 3) (v := .int .i64 m.cop) rfl
  have x4 := HB1.out.cell (j := 4) (v := .int .i64 m.win) rfl
  have x5 := HB1.out.cell (j := 5) (v := .slice (some ⟨g, 0, none⟩) N (N + 12)) rfl
  have y0 := HB2.out.cell (j := 0) (v := .int .i64 0) rfl
  have y1 := HB2.out.cell (j := 1) (v := .int .i64 0) rfl
  have y2 := HB2.out.cell (j := 2) (v := .int .i64 0) rfl
  have y3 := HB2.out.cell (j := 3) (v := .int .i64 0) rfl
  have y4 := HB2.out.cell (j := 4) (v := .int .i64 0) rfl
  have y5 := HB2.out.cell (j := 5) (v := .slice none 0 0) rfl
  have f0 := HB2.out.free 0
  have f1 := HB2.out.free 1
  have f2 := HB2.out.free 2
  have f3 := HB2.out.free 3
  have f4 := HB2.out.free 4
  have f5 := HB2.out.free 5
  go_wp2_with fail
  clear x0 x1 x2 x3 x4 x5 y0 y1 y2 y3 y4 y5 f0 f1 f2 f3 f4 f5
  replace HB2 := Lib.hid ((((((HB2.out.set 0 (.int .i64 m.tab)).set 1 (.int .i64 m.rou)).set 2 (.int .i64 m.set)).set 3 (.int .i64 m.cop)).set 4 (.int .i64 m.win)).set 5 (.slice (some ⟨g, 0, none⟩) N (N + 12)))
  replace B1 := Lib.hid ((((((B1.out.setCell (p := ⟨q, 0, none⟩) HNE.out.2.2.2.2 (.int .i64 m.tab)).setCell (p := ⟨q, 1, none⟩) HNE.out.2.2.2.2 (.int .i64 m.rou)).setCell (p := ⟨q, 2, none⟩) HNE.out.2.2.2.2 (.int .i64 m.set)).setCell (p := ⟨q, 3, none⟩) HNE.out.2.2.2.2 (.int .i64 m.cop)).setCell (p := ⟨q, 4, none⟩) HNE.out.2.2.2.2 (.int .i64 m.win)).setCell (p := ⟨q, 5, none⟩) HNE.out.2.2.2.2 (.slice (some ⟨g, 0, none⟩) N (N + 12)))
  replace HG := Lib.hid ((((((HG.out.other HNE.out.2.2.1 0 (.int .i64 m.tab)).other HNE.out.2.2.1 1 (.int .i64 m.rou)).other HNE.out.2.2.1 2 (.int .i64 m.set)).other HNE.out.2.2.1 3 (.int .i64 m.cop)).other HNE.out.2.2.1 4 (.int .i64 m.win)).other HNE.out.2.2.1 5 (.slice (some ⟨g, 0, none⟩) N (N + 12)))
  generalize (((((w2.setCell ⟨q, 0, none⟩ (.int .i64 m.tab)).setCell ⟨q, 1, none⟩ (.int .i64 m.rou)).setCell ⟨q, 2, none⟩ (.int .i64 m.set)).setCell ⟨q, 3, none⟩ (.int .i64 m.cop)).setCell ⟨q, 4, none⟩ (.int .i64 m.win)).setCell ⟨q, 5, none⟩ (.slice (some ⟨g, 0, none⟩) N (N + 12)) = w3 at *
  have y0 := HB2.out.cell (j := 0) (v := .int .i64 m.tab) rfl
  have y1 := HB2.out.cell (j := 1) (v := .int .i64 m.rou) rfl
  have y2 := HB2.out.cell (j := 2) (v := .int .i64 m.set) rfl
  have y3 := HB2.out.cell (j := 3) (v := .int .i64 m.cop) rfl
  have y4 := HB2.out.cell (j := 4) (v := .int .i64 m.win) rfl
  have y5 := HB2.out.cell (j := 5) (v := .slice (some ⟨g, 0, none⟩) N (N + 12)) rfl
  refine bodyPost_ret (by simp [results, Tryz.results64, go_sem, y0, y1, y2, y3, y4, y5]; try rfl) rfl ?_
  exact ⟨g, rfl, HG.out, by have := HSZ.out; have := HPQ.out; omega, B1.out⟩
theorem mr_of_ws {W : World} {v : Value} {l : List Rw} (h : WS W v l) : MR W v l := by
  cases h with
  | none_ => exact .none_
  | some_ b o cap l hb hc h => exact .some_ b o cap l hb (fun i r hi => ⟨h i r hi 0 _ rfl, h i r hi 1 _ rfl, h i r hi 2 _ rfl, h i r hi 3 _ rfl, h i r hi 4 _ rfl⟩)
theorem ws_of_lr {w : World} {g : Nat} {l : List Rw} (h : LR w g l) : WS w (.slice (some ⟨g, 0, none⟩) l.length (l.length + 12)) l :=
  .some_ g 0 _ l h.1 (by omega) (fun i r hi j v hj => by
    have hlt := (List.getElem?_eq_some_iff.1 hi).1
    obtain ⟨c0, c1, c2, c3, c4⟩ := h.2 i r (by rw [List.getElem?_append_left hlt]; exact hi)
    rw [Nat.zero_add]
    match j, hj with
    | 0, hj => injection hj with hj; subst hj; exact c0
    | 1, hj => injection hj with hj; subst hj; exact c1
    | 2, hj => injection hj with hj; subst hj; exact c2
    | 3, hj => injection hj with hj; subst hj; exact c3
    | 4, hj => injection hj with hj; subst hj; exact c4
    | n + 5, hj => simp [rwC] at hj)
/-- A session as a value. -/
def seV (m : Mv) (v : Value) (bd : Int) : Value := .agg (snC m.tab m.rou m.set m.cop m.win v bd)
set_option maxRecDepth 100000 in
set_option maxHeartbeats 4000000 in
theorem sameSe_any (m : Mv) (bd : Int) (v1 v2 : Value) (hl : m.rows.length ≤ 1000000) (w : World) (h1 : MR w v1 m.rows) (h2 : MR w v2 m.rows) : Calls Tryz.prog 66 #[seV m v1 bd, seV m v2 bd] w (fun e w' => e = .returned (.bool true) ∧ Below w.heap.size w w') := by
  have SR := Lib.hid (fun wx (hb : Below w.heap.size w wx) => sameMv_any m v1 v2 hl wx (h1.keep hb) (h2.keep hb))
  obtain ⟨A1, c1, rfl⟩ := h1.len
  obtain ⟨A2, c2, rfl⟩ := h2.len
  obtain ⟨N, hN⟩ : ∃ N, m.rows.length = N := ⟨_, rfl⟩
  rw [hN] at SR ⊢
  clear h1 h2 hN
  unfold mvV at SR
  unfold seV snC
  have q0 : (bd == bd) = true := beq_self_eq_true _
  go_enter Tryz.func66, Tryz.ntmps66
  go_wp2_with fail
  have HB1 := Lib.hid ((Blk.new w 26 #[.int .i64 m.tab, .int .i64 m.rou, .int .i64 m.set, .int .i64 m.cop, .int .i64 m.win, .slice A1 N c1, .int .i64 bd]).alloc (.cells #[.int .i64 m.tab, .int .i64 m.rou, .int .i64 m.set, .int .i64 m.cop, .int .i64 m.win, .slice A2 N c2, .int .i64 bd] 26))
  have HB2 := Lib.hid (Blk.new (w.alloc (.cells #[.int .i64 m.tab, .int .i64 m.rou, .int .i64 m.set, .int .i64 m.cop, .int .i64 m.win, .slice A1 N c1, .int .i64 bd] 26)) 26 #[.int .i64 m.tab, .int .i64 m.rou, .int .i64 m.set, .int .i64 m.cop, .int .i64 m.win, .slice A2 N c2, .int .i64 bd])
  have BA := Lib.hid (bchain (below1 w (.cells #[.int .i64 m.tab, .int .i64 m.rou, .int .i64 m.set, .int .i64 m.cop, .int .i64 m.win, .slice A1 N c1, .int .i64 bd] 26)) (below1 _ (.cells #[.int .i64 m.tab, .int .i64 m.rou, .int .i64 m.set, .int .i64 m.cop, .int .i64 m.win, .slice A2 N c2, .int .i64 bd] 26)))
  rw [size_al] at HB2
  refine (SR.out _ BA.out).mono ?_
  rintro e w1 ⟨rfl, hb⟩
  have B1 := Lib.hid (bchain BA.out hb)
  have x6 := (HB1.out.keep hb HB1.out.lt).cell (j := 6) (v := .int .i64 bd) rfl
  have y6 := (HB2.out.keep hb HB2.out.lt).cell (j := 6) (v := .int .i64 bd) rfl
  clear hb HB1 HB2 BA SR
  go_wp2_with fail
  go_ret
  exact ⟨rfl, B1.out⟩
set_option maxRecDepth 100000 in
set_option maxHeartbeats 4000000 in
theorem keptSe_any (m : Mv) (bd : Int) (g : Nat) (v : Value) (hl : m.rows.length ≤ 900) (w : World) (hG : LR w g m.rows) (hR : MR w v m.rows) : Calls Tryz.prog 33 #[seV m (.slice (some ⟨g, 0, none⟩) m.rows.length (m.rows.length + 12)) bd, seV m v bd] w (fun e w' => e = .returned (.bool true) ∧ Below w.heap.size w w') := by
  have SM := Lib.hid (fun wx (hb : Below w.heap.size w wx) => sameSe_any m bd _ v (by omega) wx (hG.keep hb).mr (hR.keep hb))
  have KR := Lib.hid (fun wx (hb : Below w.heap.size w wx) => keptMv_any m g v hl wx (hG.keep hb) (hR.keep hb))
  obtain ⟨A2, c2, rfl⟩ := hR.len
  obtain ⟨N, hN⟩ : ∃ N, m.rows.length = N := ⟨_, rfl⟩
  rw [hN] at SM KR ⊢
  clear hG hR hN
  obtain ⟨A1, hA1⟩ : ∃ A1 : Option Addr, some ⟨g, 0, none⟩ = A1 := ⟨_, rfl⟩
  obtain ⟨c1, hc1⟩ : ∃ c1, N + 12 = c1 := ⟨_, rfl⟩
  rw [hA1, hc1] at SM KR ⊢
  clear hA1 hc1
  unfold mvV at KR
  unfold seV snC at SM ⊢
  go_enter Tryz.func33, Tryz.ntmps33
  go_wp2_with fail
  have HB1 := Lib.hid ((Blk.new w 26 #[.int .i64 m.tab, .int .i64 m.rou, .int .i64 m.set, .int .i64 m.cop, .int .i64 m.win, .slice A1 N c1, .int .i64 bd]).alloc (.cells #[.int .i64 m.tab, .int .i64 m.rou, .int .i64 m.set, .int .i64 m.cop, .int .i64 m.win, .slice A2 N c2, .int .i64 bd] 26))
  have HB2 := Lib.hid (Blk.new (w.alloc (.cells #[.int .i64 m.tab, .int .i64 m.rou, .int .i64 m.set, .int .i64 m.cop, .int .i64 m.win, .slice A1 N c1, .int .i64 bd] 26)) 26 #[.int .i64 m.tab, .int .i64 m.rou, .int .i64 m.set, .int .i64 m.cop, .int .i64 m.win, .slice A2 N c2, .int .i64 bd])
  have BA := Lib.hid (bchain (below1 w (.cells #[.int .i64 m.tab, .int .i64 m.rou, .int .i64 m.set, .int .i64 m.cop, .int .i64 m.win, .slice A1 N c1, .int .i64 bd] 26)) (below1 _ (.cells #[.int .i64 m.tab, .int .i64 m.rou, .int .i64 m.set, .int .i64 m.cop, .int .i64 m.win, .slice A2 N c2, .int .i64 bd] 26)))
  rw [size_al] at HB2
  refine (SM.out _ BA.out).mono ?_
  rintro e w1 ⟨rfl, hb⟩
  have B1 := Lib.hid (bchain BA.out hb)
  have x0 := (HB1.out.keep hb HB1.out.lt).cell (j := 0) (v := .int .i64 m.tab) rfl
  have y0 := (HB2.out.keep hb HB2.out.lt).cell (j := 0) (v := .int .i64 m.tab) rfl
  have x1 := (HB1.out.keep hb HB1.out.lt).cell (j := 1) (v := .int .i64 m.rou) rfl
  have y1 := (HB2.out.keep hb HB2.out.lt).cell (j := 1) (v := .int .i64 m.rou) rfl
  have x2 := (HB1.out.keep hb HB1.out.lt).cell (j := 2) (v := .int .i64 m.set) rfl
  have y2 := (HB2.out.keep hb HB2.out.lt).cell (j := 2) (v := .int .i64 m.set) rfl
  have x3 := (HB1.out.keep hb HB1.out.lt).cell (j := 3) (v := .int .i64 m.cop) rfl
  have y3 := (HB2.out.keep hb HB2.out.lt).cell (j := 3) (v := .int .i64 m.cop) rfl
  have x4 := (HB1.out.keep hb HB1.out.lt).cell (j := 4) (v := .int .i64 m.win) rfl
  have y4 := (HB2.out.keep hb HB2.out.lt).cell (j := 4) (v := .int .i64 m.win) rfl
  have x5 := (HB1.out.keep hb HB1.out.lt).cell (j := 5) (v := .slice A1 N c1) rfl
  have y5 := (HB2.out.keep hb HB2.out.lt).cell (j := 5) (v := .slice A2 N c2) rfl
  clear hb HB1 HB2 BA SM
  go_wp2_with fail
  refine (KR.out _ B1.out).mono ?_
  rintro e w2 ⟨rfl, hb⟩
  have B2 := Lib.hid (bchain B1.out hb)
  clear hb B1 x0 x1 x2 x3 x4 x5 y0 y1 y2 y3 y4 y5 KR
  go_wp2_with fail
  go_ret
  exact ⟨rfl, B2.out⟩
end Go.Proofs.YtpkmibmombpjpaaGreatDoor
set_option linter.unusedSimpArgs false
namespace Go.Proofs.YtpkmibmombpjpaaGreatDoor
open Go Go.RowKit

theorem LR.otherRow {w : World} {g p : Nat} {l : List Rw} (h : LR w g l) (hp : g ≠ p) (C : Array Value) : LR (w.setRow p C) g l := by
  have key : ∀ (i : Nat) (u : Value), w.cell? ⟨g, i, none⟩ = some u → (w.setRow p C).cell? ⟨g, i, none⟩ = some u := fun i u hu => by
    rw [← hu]
    exact World.cell?_of_block (show (w.heap.modify p _)[g]? = _ by rw [Array.getElem?_modify, if_neg (fun e => hp e.symm)])
  refine ⟨by have := h.1; simpa [World.setRow] using this, fun i r hi => ?_⟩
  obtain ⟨a, b, c, d, e⟩ := h.2 i r hi
  exact ⟨key _ _ a, key _ _ b, key _ _ c, key _ _ d, key _ _ e⟩
set_option maxRecDepth 100000 in
set_option maxHeartbeats 4000000 in
theorem lentSe_any (m : Mv) (bd : Int) (v : Value) (hl : m.rows.length ≤ 100000) (w : World) (h : MR w v m.rows) : Calls Tryz.prog 30 #[seV m v bd] w (fun e w' => ∃ g, e = .returned (seV m (.slice (some ⟨g, 0, none⟩) m.rows.length (m.rows.length + 12)) bd) ∧ LR w' g m.rows ∧ w.heap.size ≤ g ∧ Below w.heap.size w w') := by
  have LE := Lib.hid (fun wx (hb : Below w.heap.size w wx) => lentMv_any m v hl wx (h.keep hb))
  obtain ⟨A, c, rfl⟩ := h.len
  obtain ⟨N, hN⟩ : ∃ N, m.rows.length = N := ⟨_, rfl⟩
  rw [hN] at LE ⊢
  clear h hN
  unfold mvV at LE
  unfold seV snC
  go_enter Tryz.func30, Tryz.ntmps30
  go_upto_region 1 with fail
  have HB1 := Lib.hid ((Blk.new w 26 #[.int .i64 m.tab, .int .i64 m.rou, .int .i64 m.set, .int .i64 m.cop, .int .i64 m.win, .slice A N c, .int .i64 bd]).alloc (.cells #[.int .i64 0, .int .i64 0, .int .i64 0, .int .i64 0, .int .i64 0, .slice none 0 0, .int .i64 0] 26))
  have HB2 := Lib.hid (Blk.new (w.alloc (.cells #[.int .i64 m.tab, .int .i64 m.rou, .int .i64 m.set, .int .i64 m.cop, .int .i64 m.win, .slice A N c, .int .i64 bd] 26)) 26 #[.int .i64 0, .int .i64 0, .int .i64 0, .int .i64 0, .int .i64 0, .slice none 0 0, .int .i64 0])
  have BA := Lib.hid (bchain (below1 w (.cells #[.int .i64 m.tab, .int .i64 m.rou, .int .i64 m.set, .int .i64 m.cop, .int .i64 m.win, .slice A N c, .int .i64 bd] 26)) (below1 _ (.cells #[.int .i64 0, .int .i64 0, .int .i64 0, .int .i64 0, .int .i64 0, .slice none 0 0, .int .i64 0] 26)))
  have HSZ : Hid (((w.alloc (.cells #[.int .i64 m.tab, .int .i64 m.rou, .int .i64 m.set, .int .i64 m.cop, .int .i64 m.win, .slice A N c, .int .i64 bd] 26)).alloc (.cells #[.int .i64 0, .int .i64 0, .int .i64 0, .int .i64 0, .int .i64 0, .slice none 0 0, .int .i64 0] 26)).heap.size = w.heap.size + 1 + 1) := Lib.hid (by rw [size_al, size_al])
  rw [size_al] at HB2
  generalize (w.alloc (.cells #[.int .i64 m.tab, .int .i64 m.rou, .int .i64 m.set, .int .i64 m.cop, .int .i64 m.win, .slice A N c, .int .i64 bd] 26)).alloc (.cells #[.int .i64 0, .int .i64 0, .int .i64 0, .int .i64 0, .int .i64 0, .slice none 0 0, .int .i64 0] 26) = wa at *
  obtain ⟨p, hp⟩ : ∃ p, w.heap.size = p := ⟨_, rfl⟩
  obtain ⟨q, hq⟩ : ∃ q, p + 1 = q := ⟨_, rfl⟩
  rw [hp] at HB1 HB2 HSZ ⊢
  rw [hq] at HB2 HSZ ⊢
  have HPQ := Lib.hid (And.intro hp hq)
  clear hp hq
  have x0 := HB1.out.cell (j := 0) (v := .int .i64 m.tab) rfl
  have x1 := HB1.out.cell (j := 1) (v := .int .i64 m.rou) rfl
  have x2 := HB1.out.cell (j := 2) (v := .int .i64 m.set) rfl
  have x3 := HB1.out.cell (j := 3) (v := .int .i64 m.cop) rfl
  have x4 := HB1.out.cell (j := 4) (v := .int .i64 m.win) rfl
  have x5 := HB1.out.cell (j := 5) (v := .slice A N c) rfl
  go_wp2_with fail
  refine (LE.out _ BA.out).mono ?_
  rintro e w1 ⟨g, rfl, hG, hge, hb⟩
  have B1 := Lib.hid (bchain BA.out hb)
  replace HB1 := Lib.hid (HB1.out.keep hb HB1.out.lt)
  replace HB2 := Lib.hid (HB2.out.keep hb HB2.out.lt)
  have hpg : p ≠ q ∧ p ≠ g ∧ q ≠ g ∧ w.heap.size ≤ p ∧ w.heap.size ≤ q ∧ w.heap.size ≤ g := by have := HPQ.out; have := HSZ.out; omega
  have HNE := Lib.hid hpg
  have HG := Lib.hid hG
  clear hG hge hb hpg x0 x1 x2 x3 x4 x5 BA LE
  have x0 := HB1.out.cell (j := 0) (v := .int .i64 m.tab) rfl
  have x1 := HB1.out.cell (j := 1) (v := .int .i64 m.rou) rfl
  have x2 := HB1.out.cell (j := 2) (v := .int .i64 m.set) rfl
  have x3 := HB1.out.cell (j := 3) (v := .int .i64 m.cop) rfl
  have x4 := HB1.out.cell (j := 4) (v := .int .i64 m.win) rfl
  have x5 := HB1.out.cell (j := 5) (v := .slice A N c) rfl
  have f0 := HB1.out.free 0
  have f1 := HB1.out.free 1
  have f2 := HB1.out.free 2
  have f3 := HB1.out.free 3
  have f4 := HB1.out.free 4
  have f5 := HB1.out.free 5
  go_upto_region 2 with fail
  clear x0 x1 x2 x3 x4 x5 f0 f1 f2 f3 f4 f5
  replace HB2 := Lib.hid ((((((HB2.out.other HNE.out.1.symm 0 (.int .i64 m.tab)).other HNE.out.1.symm 1 (.int .i64 m.rou)).other HNE.out.1.symm 2 (.int .i64 m.set)).other HNE.out.1.symm 3 (.int .i64 m.cop)).other HNE.out.1.symm 4 (.int .i64 m.win)).other HNE.out.1.symm 5 (.slice (some ⟨g, 0, none⟩) N (N + 12)))
  replace HB1 := Lib.hid ((((((HB1.out.set 0 (.int .i64 m.tab)).set 1 (.int .i64 m.rou)).set 2 (.int .i64 m.set)).set 3 (.int .i64 m.cop)).set 4 (.int .i64 m.win)).set 5 (.slice (some ⟨g, 0, none⟩) N (N + 12)))
  replace B1 := Lib.hid ((((((B1.out.setCell (p := ⟨p, 0, none⟩) HNE.out.2.2.2.1 (.int .i64 m.tab)).setCell (p := ⟨p, 1, none⟩) HNE.out.2.2.2.1 (.int .i64 m.rou)).setCell (p := ⟨p, 2, none⟩) HNE.out.2.2.2.1 (.int .i64 m.set)).setCell (p := ⟨p, 3, none⟩) HNE.out.2.2.2.1 (.int .i64 m.cop)).setCell (p := ⟨p, 4, none⟩) HNE.out.2.2.2.1 (.int .i64 m.win)).setCell (p := ⟨p, 5, none⟩) HNE.out.2.2.2.1 (.slice (some ⟨g, 0, none⟩) N (N + 12)))
  replace HG := Lib.hid ((((((HG.out.other HNE.out.2.1 0 (.int .i64 m.tab)).other HNE.out.2.1 1 (.int .i64 m.rou)).other HNE.out.2.1 2 (.int .i64 m.set)).other HNE.out.2.1 3 (.int .i64 m.cop)).other HNE.out.2.1 4 (.int .i64 m.win)).other HNE.out.2.1 5 (.slice (some ⟨g, 0, none⟩) N (N + 12)))
  generalize (((((w1.setCell ⟨p, 0, none⟩ (.int .i64 m.tab)).setCell ⟨p, 1, none⟩ (.int .i64 m.rou)).setCell ⟨p, 2, none⟩ (.int .i64 m.set)).setCell ⟨p, 3, none⟩ (.int .i64 m.cop)).setCell ⟨p, 4, none⟩ (.int .i64 m.win)).setCell ⟨p, 5, none⟩ (.slice (some ⟨g, 0, none⟩) N (N + 12)) = w2 at *
  have HB1' : Blk w2 p 26 #[.int .i64 m.tab, .int .i64 m.rou, .int .i64 m.set, .int .i64 m.cop, .int .i64 m.win, .slice (some ⟨g, 0, none⟩) N (N + 12), .int .i64 bd] := HB1.out
  have la := loadAt_blk (T := 26) HB1' Tryz.underlying26 rfl (by kernel_rfl)
  have st := storeAt_row (T := 26) (C := #[.int .i64 m.tab, .int .i64 m.rou, .int .i64 m.set, .int .i64 m.cop, .int .i64 m.win, .slice (some ⟨g, 0, none⟩) N (N + 12), .int .i64 bd]) HB2.out (by kernel_rfl) rfl (by kernel_rfl)
  go_wp2_with (first
    | refine op_load (p := .pointer (some ⟨p, 0, none⟩)) (C := .agg #[.int .i64 m.tab, .int .i64 m.rou, .int .i64 m.set, .int .i64 m.cop, .int .i64 m.win, .slice (some ⟨g, 0, none⟩) N (N + 12), .int .i64 bd]) 26 (.tmp 1) rfl rfl rfl la ?_
    | refine op_store (p := .pointer (some ⟨q, 0, none⟩)) (C := .agg #[.int .i64 m.tab, .int .i64 m.rou, .int .i64 m.set, .int .i64 m.cop, .int .i64 m.win, .slice (some ⟨g, 0, none⟩) N (N + 12), .int .i64 bd]) 26 (.tmp 2) (.tmp 7) rfl rfl rfl rfl rfl st ?_)
  clear la st
  replace HB2 := Lib.hid (HB2.out.row #[.int .i64 m.tab, .int .i64 m.rou, .int .i64 m.set, .int .i64 m.cop, .int .i64 m.win, .slice (some ⟨g, 0, none⟩) N (N + 12), .int .i64 bd])
  replace B1 := Lib.hid (Below.setRow' HNE.out.2.2.2.2.1 B1.out #[.int .i64 m.tab, .int .i64 m.rou, .int .i64 m.set, .int .i64 m.cop, .int .i64 m.win, .slice (some ⟨g, 0, none⟩) N (N + 12), .int .i64 bd])
  replace HG := Lib.hid (HG.out.otherRow HNE.out.2.2.1.symm #[.int .i64 m.tab, .int .i64 m.rou, .int .i64 m.set, .int .i64 m.cop, .int .i64 m.win, .slice (some ⟨g, 0, none⟩) N (N + 12), .int .i64 bd])
  generalize w2.setRow q #[.int .i64 m.tab, .int .i64 m.rou, .int .i64 m.set, .int .i64 m.cop, .int .i64 m.win, .slice (some ⟨g, 0, none⟩) N (N + 12), .int .i64 bd] = w3 at *
  have y0 := HB2.out.cell (j := 0) (v := .int .i64 m.tab) rfl
  have y1 := HB2.out.cell (j := 1) (v := .int .i64 m.rou) rfl
  have y2 := HB2.out.cell (j := 2) (v := .int .i64 m.set) rfl
  have y3 := HB2.out.cell (j := 3) (v := .int .i64 m.cop) rfl
  have y4 := HB2.out.cell (j := 4) (v := .int .i64 m.win) rfl
  have y5 := HB2.out.cell (j := 5) (v := .slice (some ⟨g, 0, none⟩) N (N + 12)) rfl
  have y6 := HB2.out.cell (j := 6) (v := .int .i64 bd) rfl
  refine bodyPost_ret (by simp [results, Tryz.results30, go_sem, y0, y1, y2, y3, y4, y5, y6]; try rfl) rfl ?_
  exact ⟨g, rfl, HG.out, HNE.out.2.2.2.2.2, B1.out⟩
end Go.Proofs.YtpkmibmombpjpaaGreatDoor
namespace Go.Proofs.YtpkmibmombpjpaaGreatDoor
section
open Go Go.ChangeShapes Go.ChangeMaps Go.WideShapes Go.ChangeAt Go.WideMaps Go.WideElems Go.RowKit

theorem c5R : Tryz.prog.cellsOf 90 = 5 := by kernel_rfl
theorem c7S : Tryz.prog.cellsOf 26 = 7 := by kernel_rfl
theorem array7 {α : Type} {a : Array α} (h : a.size = 7) : ∃ x0 x1 x2 x3 x4 x5 x6, a = #[x0, x1, x2, x3, x4, x5, x6] := by
  obtain ⟨l⟩ := a
  match l, h with
  | [x0, x1, x2, x3, x4, x5, x6], _ => exact ⟨x0, x1, x2, x3, x4, x5, x6, rfl⟩
variable {H : Type} {enc : TypeId × Value → H} {w : World} {base b0 : Nat} {held : Bool}
set_option maxRecDepth 100000 in
theorem open_ws {v : Value} {d : DataW H} {p : List MemPlace} (hv : Value.okWide Tryz.prog w .any b0 22 v) (h : DataW.Trod enc Tryz.prog w base (fun _ => true) held 22 v d p) :
    ∃ l : List Rw, WS w v l := by
  obtain ⟨fuel, hf⟩ := h
  obtain ⟨A, n, c, rfl⟩ := okWide_slice Tryz.underlying22 hv
  rcases open_slice_fields Tryz.underlying22 Tryz.underlying90 (by kernel_rfl) c5R hf with ⟨h0, _⟩ | ⟨a, len, cap, m, D, Pl, hcs, _, hl, _, hm, _, hi⟩
  · have h1 : A = none ∧ n = 0 ∧ c = 0 := by simpa [Value.cells] using h0
    obtain ⟨rfl, rfl, rfl⟩ := h1
    exact ⟨[], .none_⟩
  · have hcs' : A = some a ∧ n = len ∧ c = cap := by simpa [Value.cells] using hcs
    obtain ⟨rfl, rfl, rfl⟩ := hcs'
    have hok : w.has Tryz.prog .any b0 a 90 c := by
      simp only [Value.okWide, Tryz.underlying22, Cell.okWide, Cell.ok] at hv
      exact hv.2.2
    obtain ⟨_, hsp, row, cells, hshape, _⟩ := hok
    obtain ⟨b, off, sp⟩ := a
    obtain rfl : sp = none := hsp
    have hlt : b < w.heap.size := by
      simp only [World.shape?] at hshape
      rcases hh : w.heap[b]? with _ | o
      · rw [hh] at hshape; cases hshape
      · exact (Array.getElem?_eq_some_iff.1 hh).1
    simp only [ite_true] at hm
    obtain ⟨l, hlen, hls⟩ := list_of (Q := fun i (x : Rw) => w.cell? ⟨b, off + i * 5, none⟩ = some (.int .i64 x.rd) ∧ w.cell? ⟨b, off + i * 5 + 1, none⟩ = some (.int .i64 x.tb) ∧ w.cell? ⟨b, off + i * 5 + 2, none⟩ = some (.int .i64 x.ns) ∧ w.cell? ⟨b, off + i * 5 + 3, none⟩ = some (.int .i64 x.ew) ∧ w.cell? ⟨b, off + i * 5 + 4, none⟩ = some (.int .i64 x.st)) n (fun i hin => by
      obtain ⟨ys, k, _, _, _, hf⟩ := hi i (by omega)
      obtain ⟨v0, y0, c0, _, t0⟩ := hf 0 _ rfl
      obtain ⟨v1, y1, c1, _, t1⟩ := hf 1 _ rfl
      obtain ⟨v2, y2, c2, _, t2⟩ := hf 2 _ rfl
      obtain ⟨v3, y3, c3, _, t3⟩ := hf 3 _ rfl
      obtain ⟨v4, y4, c4, _, t4⟩ := hf 4 _ rfl
      rw [add_at] at c0 c1 c2 c3 c4
      obtain ⟨x0, e0, _, w0⟩ := DataW.trod_int Tryz.underlying3 t0
      obtain ⟨x1, e1, _, w1⟩ := DataW.trod_int Tryz.underlying3 t1
      obtain ⟨x2, e2, _, w2⟩ := DataW.trod_int Tryz.underlying3 t2
      obtain ⟨x3, e3, _, w3⟩ := DataW.trod_int Tryz.underlying3 t3
      obtain ⟨x4, e4, _, w4⟩ := DataW.trod_int Tryz.underlying3 t4
      simp only [List.cons.injEq, and_true] at e0 e1 e2 e3 e4
      subst e0 e1 e2 e3 e4
      refine ⟨⟨x0, x1, x2, x3, x4⟩, c0, c1, c2, c3, c4⟩)
    subst hlen
    refine ⟨l, .some_ b off c l hlt (by omega) (fun i s hs j v hj => ?_)⟩
    obtain ⟨c0, c1, c2, c3, c4⟩ := hls i s hs
    match j, hj with
    | 0, hj => injection hj with hj; subst hj; exact c0
    | 1, hj => injection hj with hj; subst hj; exact c1
    | 2, hj => injection hj with hj; subst hj; exact c2
    | 3, hj => injection hj with hj; subst hj; exact c3
    | 4, hj => injection hj with hj; subst hj; exact c4
    | n + 5, hj => simp [rwC] at hj
set_option maxRecDepth 100000 in
theorem open_se {v : Value} {d : DataW H} {p : List MemPlace} (hv : Value.okWide Tryz.prog w .any b0 26 v) (h : DataW.Trod enc Tryz.prog w base (fun _ => true) held 26 v d p) :
    ∃ (m : Mv) (rv : Value) (bd : Int), v = seV m rv bd ∧ WS w rv m.rows := by
  have hv' := hv
  simp only [Value.okWide, Tryz.underlying26] at hv'
  obtain ⟨cs, rfl, hsz, hrow⟩ := hv'
  obtain ⟨c0, c1, c2, c3, c4, c5, c6, rfl⟩ := array7 (hsz.trans c7S)
  obtain ⟨fuel, hf⟩ := h
  obtain ⟨xs, n, _, _, _, hlen, hat⟩ := DataW.trod_struct Tryz.underlying26 hf
  have hx : ∀ i, i < 2 → ∃ y, xs[i]? = some y := fun i hi => ⟨_, List.getElem?_eq_getElem (by rw [hlen]; exact hi)⟩
  obtain ⟨y0, z0⟩ := hx 0 (by omega)
  obtain ⟨y6, z6⟩ := hx 1 (by omega)
  have t9 : DataW.trod enc Tryz.prog w base (fun _ => true) held n 24 [c0, c1, c2, c3, c4, c5] = some y0 := (hat 0 _ rfl).trans z0
  have t6 : DataW.trod enc Tryz.prog w base (fun _ => true) held n 3 [c6] = some y6 := (hat 1 _ rfl).trans z6
  obtain ⟨xs2, n2, _, _, _, hlen2, hat2⟩ := DataW.trod_struct Tryz.underlying24 t9
  have hx2 : ∀ i, i < 6 → ∃ y, xs2[i]? = some y := fun i hi => ⟨_, List.getElem?_eq_getElem (by rw [hlen2]; exact hi)⟩
  obtain ⟨u0, q0⟩ := hx2 0 (by omega)
  obtain ⟨u1, q1⟩ := hx2 1 (by omega)
  obtain ⟨u2, q2⟩ := hx2 2 (by omega)
  obtain ⟨u3, q3⟩ := hx2 3 (by omega)
  obtain ⟨u4, q4⟩ := hx2 4 (by omega)
  obtain ⟨u5, q5⟩ := hx2 5 (by omega)
  have t0 : DataW.trod enc Tryz.prog w base (fun _ => true) held n2 3 [c0] = some u0 := (hat2 0 _ rfl).trans q0
  have t1 : DataW.trod enc Tryz.prog w base (fun _ => true) held n2 3 [c1] = some u1 := (hat2 1 _ rfl).trans q1
  have t2 : DataW.trod enc Tryz.prog w base (fun _ => true) held n2 3 [c2] = some u2 := (hat2 2 _ rfl).trans q2
  have t3 : DataW.trod enc Tryz.prog w base (fun _ => true) held n2 3 [c3] = some u3 := (hat2 3 _ rfl).trans q3
  have t4 : DataW.trod enc Tryz.prog w base (fun _ => true) held n2 3 [c4] = some u4 := (hat2 4 _ rfl).trans q4
  have t5 : DataW.trod enc Tryz.prog w base (fun _ => true) held n2 22 [c5] = some u5 := (hat2 5 _ rfl).trans q5
  obtain ⟨a0, e0, _, _⟩ := DataW.trod_int Tryz.underlying3 t0
  obtain ⟨a1, e1, _, _⟩ := DataW.trod_int Tryz.underlying3 t1
  obtain ⟨a2, e2, _, _⟩ := DataW.trod_int Tryz.underlying3 t2
  obtain ⟨a3, e3, _, _⟩ := DataW.trod_int Tryz.underlying3 t3
  obtain ⟨a4, e4, _, _⟩ := DataW.trod_int Tryz.underlying3 t4
  obtain ⟨a6, e6, _, _⟩ := DataW.trod_int Tryz.underlying3 t6
  simp only [List.cons.injEq, and_true] at e0 e1 e2 e3 e4 e6
  subst e0 e1 e2 e3 e4 e6
  have hc5 : Value.okWide Tryz.prog w .any b0 22 c5 := by
    obtain ⟨ts, hts, _, hf5⟩ := hrow
    have hts2 : Tryz.prog.cellTypes Tryz.prog.depth 26 = some [3, 3, 3, 3, 3, 22, 3] := by kernel_rfl
    obtain rfl := Option.some.inj (hts.symm.trans hts2)
    obtain ⟨u, hu, h5⟩ := hf5 5 c5 rfl
    obtain rfl : 22 = u := Option.some.inj hu
    simpa only [Value.okWide, Tryz.underlying22] using h5
  have hcl : c5.cells.toList = [c5] := by
    obtain ⟨A, k, c, rfl⟩ := okWide_slice (P := Tryz.prog) (w := w) (r := .any) (base := b0) (t := 22) Tryz.underlying22 hc5
    rfl
  obtain ⟨l, hl⟩ := open_ws hc5 ⟨n2, by rw [hcl]; exact t5⟩
  exact ⟨⟨a0, a1, a2, a3, a4, l⟩, c5, a6, rfl, hl⟩
end
end Go.Proofs.YtpkmibmombpjpaaGreatDoor
