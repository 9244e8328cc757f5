/- The examples: what the functions answer there. -/
import Derived.Test.YtaadipccgckehaaGreatDoorCI
namespace Go.Proofs.YtaadipccgckehaaGreatDoor
open Go Go.RowKit Go.Shelf Pl

theorem d64_four {x : Four} (h : x.1 < 18446744073709551616 ∧ x.2.1 < 18446744073709551616 ∧ x.2.2.1 < 18446744073709551616 ∧ x.2.2.2 < 18446744073709551616) : D64 (ofF x) := by
  intro k hk
  rcases (by omega : k = 0 ∨ k = 1 ∨ k = 2 ∨ k = 3) with rfl | rfl | rfl | rfl
  · exact h.1
  · exact h.2.1
  · exact h.2.2.1
  · exact h.2.2.2
theorem suit_64 : D64 (ofF suitF) := d64_four (by decide)
theorem swap_64 : D64 (ofF swapF) := d64_four (by decide)
theorem find_ex (w : World) : Calls Tryz.prog 13 #[.int .u8 2, .int .u8 3] w (fun e w' => e = .returned (.tuple #[.int .i64 7, .int .i64 0]) ∧ w = w') := by
  have h := find_ok' 2 3 (by omega) (by omega) w
  rw [show findP 2 3 = 7 from by decide +kernel] at h
  exact h
theorem chg_ex (w : World) : Calls Tryz.prog 25 #[.agg #[.int .u64 8191, .int .u64 67100672, .int .u64 549688705024, .int .u64 4503049871556608], .agg #[.int .u64 16382, .int .u64 67092481, .int .u64 549688705024, .int .u64 4503049871556608]] w (fun e w' => ∃ g c, e = .returned (.tuple #[.slice (some ⟨g, 0, none⟩) 2 c, .int .i64 0]) ∧ Below w.heap.size w w' ∧
    (∀ i v, ([.int .u8 0, .int .u8 0, .int .u8 1, .int .u8 13, .int .u8 1, .int .u8 0] : List Value)[i]? = some v → w'.cell? ⟨g, i, none⟩ = some v)) := by
  have h := changes_any (ofF suitF) (ofF swapF) suit_64 swap_64 w
  refine Calls.mono h ?_
  intro e w' hr
  unfold RetChg at hr
  rw [if_pos (show bothR (ofF suitF) (ofF swapF) = true by unfold bothR; rw [suit_right, swap_right]; rfl), suit_chg] at hr
  obtain ⟨hb, A, c, he, ho⟩ := hr
  have ho2 : w'.ownsRow w.heap.size 64 3 (.slice A 2 c) 2 [.int .u8 0, .int .u8 0, .int .u8 1, .int .u8 13, .int .u8 1, .int .u8 0] := by
    have e1 : chVs (ofF suitF) (ofF swapF) [0, 13] = [.int .u8 0, .int .u8 0, .int .u8 1, .int .u8 13, .int .u8 1, .int .u8 0] := by
      simp only [chVs, chV, List.flatMap_cons, List.flatMap_nil, List.append_nil, List.cons_append, List.nil_append]
      rw [show owner (ofF suitF) 0 = 0 from by decide +kernel, show owner (ofF suitF) 13 = 1 from by decide +kernel, show owner (ofF swapF) 0 = 1 from by decide +kernel, show owner (ofF swapF) 13 = 0 from by decide +kernel]
      rfl
    rw [e1] at ho
    exact ho
  obtain ⟨g, cap, e2, _, _⟩ := own_some ho2 (by omega)
  injection e2 with e3 _ _
  subst e3
  refine ⟨g, c, he, hb, fun i v hi => ?_⟩
  have := ho2.cells (g := g) rfl i v hi
  rwa [add_at, Nat.zero_add] at this
theorem cls_ex (v : Value) (w : World) (hd : DR 24 w v [suitF, swapF, suitF]) : Calls Tryz.prog 26 #[v] w (fun e w' => ∃ g o c, e = .returned (.tuple #[.slice (some ⟨g, o, none⟩) 3 c, .int .i64 0]) ∧ Below w.heap.size w w' ∧
    w'.cell? ⟨g, o, none⟩ = some (.int .i64 0) ∧ w'.cell? ⟨g, o + 1, none⟩ = some (.int .i64 1) ∧ w'.cell? ⟨g, o + 2, none⟩ = some (.int .i64 0)) := by
  have h := classes_any v [suitF, swapF, suitF] (by decide) (fun j y hy => by
    have hj : j < 3 := (List.getElem?_eq_some_iff.1 hy).1
    rcases (by omega : j = 0 ∨ j = 1 ∨ j = 2) with rfl | rfl | rfl
    · cases hy; exact suit_64
    · cases hy; exact swap_64
    · cases hy; exact suit_64) w hd
  refine Calls.mono h ?_
  intro e w' hr
  unfold RetCls at hr
  rw [if_neg (by decide), if_pos (show allRight [suitF, swapF, suitF] = true by decide +kernel)] at hr
  obtain ⟨hb, A, c, he, hn⟩ := hr
  have e1 : classL [suitF, swapF, suitF] = [0, 1, 0] := by decide +kernel
  rw [e1] at hn
  obtain ⟨g, o, rfl, h0⟩ := hn.at (i := 0) (m := 0) rfl
  obtain ⟨g1, o1, eq1, h1⟩ := hn.at (i := 1) (m := 1) rfl
  obtain ⟨g2, o2, eq2, h2⟩ := hn.at (i := 2) (m := 0) rfl
  cases eq1
  cases eq2
  exact ⟨g, o, c, he, hb, h0, h1, h2⟩
def exS : List UInt8 := [55, 32, 83, 32, 98, 111, 116, 104, 32, 78, 58, 46, 46, 46, 65, 75, 81, 74, 84, 57, 56, 55, 54, 53, 52, 51, 50, 32, 46, 46, 65, 75, 81, 74, 84, 57, 56, 55, 54, 53, 52, 51, 50, 46, 32, 46, 65, 75, 81, 74, 84, 57, 56, 55, 54, 53, 52, 51, 50, 46, 46, 32, 65, 75, 81, 74, 84, 57, 56, 55, 54, 53, 52, 51, 50, 46, 46, 46]
theorem ex_text : textB 7 (ofF suitF) = exS := by decide +kernel
end Go.Proofs.YtaadipccgckehaaGreatDoor
