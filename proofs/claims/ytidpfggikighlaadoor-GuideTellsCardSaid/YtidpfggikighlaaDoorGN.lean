/- Rows lent out: mark, markRow, LentRows. -/
import Derived.Test.YtidpfggikighlaaDoorGX
import Derived.Test.YtidpfggikighlaaDoorApp
import Derived.OwnWalk
namespace Go.Proofs.YtidpfggikighlaaDoor
open Go Go.RowKit

theorem mark_one (i : Int) (h : 0 ≤ i ∧ i < 1000) (w : World) : Calls Tryd.prog 79 #[.int .i64 1, .int .i64 i] w (fun e w' => e = .returned (.int .i64 (8000024 + i)) ∧ w' = w) := by
  have g1 : IntKind.i64.wrap (8000024 + i) = 8000024 + i := IntWalk.i64_in _ (by omega)
  go_enter Tryd.func79, Tryd.ntmps79
  go_wp2
  go_ret
  exact ⟨rfl, rfl⟩
theorem markRow_one (i : Int) (h : 0 ≤ i ∧ i < 1000) (w : World) : Calls Tryd.prog 69 #[.int .i64 1, .int .i64 i] w (fun e w' => e = .returned (.agg #[.int .i64 0, .int .i64 0, .int .i64 (8000024 + i), .int .i64 0, .int .i64 0]) ∧ Below w.heap.size w w') := by
  have M1 := Lib.hid (fun w => mark_one i h w)
  clear h
  go_enter Tryd.func69, Tryd.ntmps69
  go_wp2_with fail
  refine (M1.out _).mono ?_
  rintro e w1 ⟨rfl, rfl⟩
  go_wp2
  simp [bodyPost, results, Tryd.results69, go_sem]
  exact (Below.refl _ _).alloc (Nat.le_refl _) _
/-- The cells of rows. -/
def rv (l : List Rw) : List Value := l.flatMap fun x => [.int .i64 x.rd, .int .i64 x.tb, .int .i64 x.ns, .int .i64 x.ew, .int .i64 x.st]
theorem rv_len (l : List Rw) : (rv l).length = l.length * 5 := by
  induction l with
  | nil => rfl
  | cons x t ih => simp only [rv, List.flatMap_cons, List.length_append, List.length_cons, List.length_nil] at ih ⊢; omega
theorem rv_app (l m : List Rw) : rv (l ++ m) = rv l ++ rv m := by simp [rv]
theorem rv_at (l : List Rw) : ∀ (i : Nat) (r : Rw), l[i]? = some r → (rv l)[i * 5]? = some (.int .i64 r.rd) ∧ (rv l)[i * 5 + 1]? = some (.int .i64 r.tb) ∧ (rv l)[i * 5 + 2]? = some (.int .i64 r.ns) ∧ (rv l)[i * 5 + 3]? = some (.int .i64 r.ew) ∧ (rv l)[i * 5 + 4]? = some (.int .i64 r.st) := by
  induction l with
  | nil => intro i r h; simp at h
  | cons x t ih =>
    intro i r h
    have e : rv (x :: t) = .int .i64 x.rd :: .int .i64 x.tb :: .int .i64 x.ns :: .int .i64 x.ew :: .int .i64 x.st :: rv t := by simp [rv]
    cases i with
    | zero => simp at h; subst h; rw [e]; exact ⟨rfl, rfl, rfl, rfl, rfl⟩
    | succ i =>
      have := ih i r (by simpa using h)
      rw [e, show (i + 1) * 5 = i * 5 + 1 + 1 + 1 + 1 + 1 by omega]
      exact ⟨by simpa using this.1, by simpa using this.2.1, by simpa using this.2.2.1, by simpa using this.2.2.2.1, by simpa using this.2.2.2.2⟩
theorem rv_one (l : List Rw) : ∀ u ∈ rv l, u.oneCell' = true := by
  intro u hu
  simp only [rv, List.mem_flatMap, List.mem_cons, List.not_mem_nil, or_false] at hu
  obtain ⟨x, _, rfl | rfl | rfl | rfl | rfl⟩ := hu <;> rfl
/-- Rows as a source. -/
theorem src_rows {W : World} {v : Value} {l : List Rw} (h : MR W v l) : SrcR W 5 v l.length (rv l) := by
  cases h with
  | none_ => exact .none_
  | some_ b o cap l hb h =>
    refine .some_ b o l.length cap (rv l) (rv_len l) (fun j u hu => ?_)
    have hlen := (List.getElem?_eq_some_iff.1 hu).1
    rw [rv_len] at hlen
    obtain ⟨r, hr⟩ : ∃ x, l[j / 5]? = some x := ⟨_, List.getElem?_eq_getElem (by omega)⟩
    obtain ⟨f0, f1, f2, f3, f4⟩ := rv_at l _ _ hr
    obtain ⟨c0, c1, c2, c3, c4⟩ := h _ _ hr
    rcases (by omega : j % 5 = 0 ∨ j % 5 = 1 ∨ j % 5 = 2 ∨ j % 5 = 3 ∨ j % 5 = 4) with hm | hm | hm | hm | hm
    · rw [show j / 5 * 5 = j by omega] at f0 c0
      rw [f0] at hu; obtain rfl := Option.some.inj hu; exact c0
    · rw [show j / 5 * 5 + 1 = j by omega] at f1
      rw [show o + j / 5 * 5 + 1 = o + j by omega] at c1
      rw [f1] at hu; obtain rfl := Option.some.inj hu; exact c1
    · rw [show j / 5 * 5 + 2 = j by omega] at f2
      rw [show o + j / 5 * 5 + 2 = o + j by omega] at c2
      rw [f2] at hu; obtain rfl := Option.some.inj hu; exact c2
    · rw [show j / 5 * 5 + 3 = j by omega] at f3
      rw [show o + j / 5 * 5 + 3 = o + j by omega] at c3
      rw [f3] at hu; obtain rfl := Option.some.inj hu; exact c3
    · rw [show j / 5 * 5 + 4 = j by omega] at f4
      rw [show o + j / 5 * 5 + 4 = o + j by omega] at c4
      rw [f4] at hu; obtain rfl := Option.some.inj hu; exact c4
/-- Rows of the call's own, whole. -/
theorem mr_of_own {w : World} {base g n c : Nat} {l : List Rw} (h : w.ownsRow base 45 5 (.slice (some ⟨g, 0, none⟩) n c) n (rv l)) : g < w.heap.size ∧ base ≤ g ∧ ∀ i r, l[i]? = some r → w.cell? ⟨g, i * 5, none⟩ = some (.int .i64 r.rd) ∧ w.cell? ⟨g, i * 5 + 1, none⟩ = some (.int .i64 r.tb) ∧ w.cell? ⟨g, i * 5 + 2, none⟩ = some (.int .i64 r.ns) ∧ w.cell? ⟨g, i * 5 + 3, none⟩ = some (.int .i64 r.ew) ∧ w.cell? ⟨g, i * 5 + 4, none⟩ = some (.int .i64 r.st) := by
  rcases h.2 with ⟨h1, _⟩ | ⟨g', cap', cur, e, hb, hg, h1, h2, h3, h4⟩
  · cases h1
  · injection e with e1 _ _
    have e1 := Option.some.inj e1
    injection e1 with e1 _ _
    subst e1
    have hat : ∀ (j : Nat) (v : Value), (rv l)[j]? = some v → w.cell? ⟨g, j, none⟩ = some v := by
      intro j v hj
      rw [← h4, List.getElem?_take] at hj
      split at hj
      · have : cur[j]? = some v := by simpa using hj
        simp [World.cell?, hg, this]
      · cases hj
    refine ⟨(Array.getElem?_eq_some_iff.1 hg).1, hb, fun i r hi => ?_⟩
    obtain ⟨f0, f1, f2, f3, f4⟩ := rv_at l i r hi
    exact ⟨hat _ _ f0, hat _ _ f1, hat _ _ f2, hat _ _ f3, hat _ _ f4⟩
theorem info_row : (Tryd.prog.info? 45).map (fun i => (i.zero, i.size, i.bytes)) = some (some (.agg #[.int .i64 0, .int .i64 0, .int .i64 0, .int .i64 0, .int .i64 0]), 5, 40) := by kernel_rfl
theorem info_parts_row : ∃ i, Tryd.prog.info? 45 = some i ∧ i.zero = some (.agg #[.int .i64 0, .int .i64 0, .int .i64 0, .int .i64 0, .int .i64 0]) ∧ i.size = 5 ∧ i.bytes = 40 := by
  have h := info_row
  cases hi : Tryd.prog.info? 45 with
  | none => rw [hi] at h; cases h
  | some i =>
    rw [hi] at h
    simp only [Option.map_some, Option.some.injEq, Prod.mk.injEq] at h
    exact ⟨i, rfl, h.1, h.2.1, h.2.2⟩
def markR (i : Nat) : Rw := ⟨0, 0, 8000024 + (i : Int), 0, 0⟩
def marks (k : Nat) : List Rw := (List.range k).map markR
theorem marks_succ (k : Nat) : marks (k + 1) = marks k ++ [markR k] := by simp [marks, List.range_succ]
end Go.Proofs.YtidpfggikighlaaDoor
