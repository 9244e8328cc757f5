/- The contracts of finessekit's mark, markFrac and LentFracs. -/
import Derived.Test.YtfhkgpipbegpgaaGreatDoorSumW
import Derived.Test.YtfhkgpipbegpgaaGreatDoorInv
import Derived.Test.YtfhkgpipbegpgaaGreatDoorDg
import Derived.OwnWalk
namespace Go.Proofs.YtfhkgpipbegpgaaGreatDoor
open Go Go.RowKit

theorem mark_one (i : Int) (h : 0 ≤ i ∧ i < 1000) (w : World) : Calls Tryz.prog 84 #[.int .i64 1, .int .i64 i] w (fun e w' => e = .returned (.int .i64 (8000024 + i)) ∧ w' = w) := by
  have g1 : IntKind.i64.wrap (8000024 + i) = 8000024 + i := IntWalk.i64_in _ (by omega)
  go_enter Tryz.func84, Tryz.ntmps84
  go_wp2
  go_ret
  exact ⟨rfl, rfl⟩
theorem markFrac_one (i : Int) (h : 0 ≤ i ∧ i < 1000) (w : World) : Calls Tryz.prog 63 #[.int .i64 1, .int .i64 i] w (fun e w' => e = .returned (.agg #[.int .i64 (8000024 + i), .int .i64 1]) ∧ Below w.heap.size w w') := by
  have M1 := Lib.hid (fun w => mark_one i h w)
  clear h
  go_enter Tryz.func63, Tryz.ntmps63
  go_wp2_with fail
  refine (M1.out _).mono ?_
  rintro e w1 ⟨rfl, rfl⟩
  go_wp2
  simp [bodyPost, results, Tryz.results63, go_sem]
  exact (Below.refl _ _).alloc (Nat.le_refl _) _
/-- The cells of a row of fractions. -/
def fv (l : List (Int × Int)) : List Value := l.flatMap fun x => [.int .i64 x.1, .int .i64 x.2]
theorem fv_len (l : List (Int × Int)) : (fv l).length = l.length * 2 := by
  induction l with
  | nil => rfl
  | cons x t ih => simp only [fv, List.flatMap_cons, List.length_append, List.length_cons, List.length_nil] at ih ⊢; omega
theorem fv_app (l m : List (Int × Int)) : fv (l ++ m) = fv l ++ fv m := by simp [fv]
theorem fv_at (l : List (Int × Int)) : ∀ (i : Nat) (n d : Int), l[i]? = some (n, d) → (fv l)[i * 2]? = some (.int .i64 n) ∧ (fv l)[i * 2 + 1]? = some (.int .i64 d) := by
  induction l with
  | nil => intro i n d h; simp at h
  | cons x t ih =>
    intro i n d h
    have e : fv (x :: t) = .int .i64 x.1 :: .int .i64 x.2 :: fv t := by simp [fv]
    cases i with
    | zero => simp at h; subst h; rw [e]; exact ⟨rfl, rfl⟩
    | succ i =>
      have := ih i n d (by simpa using h)
      rw [e, show (i + 1) * 2 = i * 2 + 1 + 1 by omega]
      exact ⟨by simpa using this.1, by simpa using this.2⟩
theorem fv_one (l : List (Int × Int)) : ∀ u ∈ fv l, u.oneCell' = true := by
  intro u hu
  simp only [fv, List.mem_flatMap] at hu
  obtain ⟨x, _, hx⟩ := hu
  rcases List.mem_cons.1 hx with rfl | hx
  · rfl
  · obtain rfl := List.mem_singleton.1 hx
    rfl
/-- The marks behind a row. -/
def marks (k : Nat) : List (Int × Int) := (List.range k).map fun (i : Nat) => (8000024 + (i : Int), 1)
theorem marks_succ (k : Nat) : marks (k + 1) = marks k ++ [(8000024 + (k : Int), 1)] := by simp [marks, List.range_succ]
theorem row_of_own {w : World} {base g n cap : Nat} {l : List (Int × Int)} (h : w.ownsRow base 23 2 (.slice (some ⟨g, 0, none⟩) n cap) n (fv l)) : RowF w g 0 l ∧ base ≤ g := by
  rcases h.2 with ⟨h1, _⟩ | ⟨g', cap', cur, e, hb, hg, h1, h2, h3, h4⟩
  · cases h1
  · injection e with e1 _ _
    have e1 := Option.some.inj e1
    injection e1 with e1 _ _
    subst e1
    have hlt : g < w.heap.size := (Array.getElem?_eq_some_iff.1 hg).1
    have hat : ∀ (j : Nat) (v : Value), (fv l)[j]? = some v → w.cell? ⟨g, j, none⟩ = some v := by
      intro j v hj
      rw [← h4, List.getElem?_take] at hj
      split at hj
      · have : cur[j]? = some v := by simpa using hj
        simp [World.cell?, hg, this]
      · cases hj
    exact ⟨⟨hlt, fun i n d hi => by rw [Nat.zero_add]; exact hat _ _ (fv_at l i n d hi).1, fun i n d hi => by rw [Nat.zero_add]; exact hat _ _ (fv_at l i n d hi).2⟩, hb⟩
theorem cells_of_row {w : World} {b off : Nat} {l : List (Int × Int)} (h : RowF w b off l) : ∀ j u, (fv l)[j]? = some u → w.cell? ((⟨b, off, none⟩ : Addr).add j) = some u := by
  intro j u hu
  rw [add_at]
  have hlen := (List.getElem?_eq_some_iff.1 hu).1
  rw [fv_len] at hlen
  obtain ⟨⟨n, d⟩, hx⟩ : ∃ x, l[j / 2]? = some x := ⟨_, List.getElem?_eq_getElem (by omega)⟩
  obtain ⟨f0, f1⟩ := fv_at l _ _ _ hx
  rcases Nat.mod_two_eq_zero_or_one j with hm | hm
  · rw [show j / 2 * 2 = j by omega] at f0
    rw [f0] at hu
    obtain rfl := Option.some.inj hu
    have := h.num _ _ _ hx
    rwa [show off + j / 2 * 2 = off + j by omega] at this
  · rw [show j / 2 * 2 + 1 = j by omega] at f1
    rw [f1] at hu
    obtain rfl := Option.some.inj hu
    have := h.den _ _ _ hx
    rwa [show off + j / 2 * 2 + 1 = off + j by omega] at this
theorem info_frac : (Tryz.prog.info? 23).map (fun i => (i.zero, i.size, i.bytes)) = some (some (.agg #[.int .i64 0, .int .i64 0]), 2, 16) := by kernel_rfl
end Go.Proofs.YtfhkgpipbegpgaaGreatDoor
