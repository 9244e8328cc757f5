/- Contracts of the reference's small functions: the same plain functions as the program's. -/
import Derived.Test.YtgmofikhndlhcaaDoorRes
import Derived.Test.YtgmofikhndlhcaaDoorMiss
namespace Go.Proofs.YtgmofikhndlhcaaDoor
open Go.RowKit

theorem rgt_eq (l d r s : Nat) : rgt l d r s = decide ((l = 0 ∧ d = 0 ∧ r = 0 ∧ s = 0) ∨ (1 ≤ l ∧ l ≤ 7 ∧ d ≤ 4 ∧ r ≤ 2 ∧ s ≤ 3)) := by unfold rgt; rfl
set_option maxHeartbeats 1000000 in
theorem rright_any (l d r s : Nat) (w : World) :
    Calls Tryd.prog 27 #[.agg #[.int .u8 l, .int .u8 d, .int .u8 r, .int .u8 s]] w fun e w' => e = .returned (.bool (rgt l d r s)) ∧ Below w.heap.size w w' := by
  have HR := Lib.hid (rgt_eq l d r s)
  go_enter Tryd.func27, Tryd.ntmps27
  go_wp2_with fail
  all_goals
    go_ret
    refine ⟨ret_bool ?_, (Below.refl _ _).alloc (Nat.le_refl _) _⟩
    rw [HR.out]
    grind
set_option maxHeartbeats 1000000 in
theorem rneed_any (l d r s : Nat) (w : World) (hl : l < 256) :
    Calls Tryd.prog 28 #[.agg #[.int .u8 l, .int .u8 d, .int .u8 r, .int .u8 s]] w fun e w' => e = .returned (.int .i64 (needP l d r s : Nat)) ∧ Below w.heap.size w w' := by
  cases hr : rgt l d r s
  · have hn : Hid (needP l d r s = 0) := Lib.hid (by simp [needP, hr])
    have HR := Lib.hid hr
    clear hr
    go_enter Tryd.func28, Tryd.ntmps28
    go_wp2_with fail
    refine (rright_any l d r s _).mono ?_
    rintro e w1 ⟨rfl, hb⟩
    rw [HR.out]
    go_wp2_with fail
    go_ret
    exact ⟨by rw [hn.out]; rfl, ((Below.refl _ _).alloc (Nat.le_refl _) _).trans (hb.mono (by simp))⟩
  · rcases Nat.eq_zero_or_pos l with rfl | h0
    · have hn : Hid (needP 0 d r s = 0) := Lib.hid (by simp [needP])
      have HR := Lib.hid hr
      clear hr
      go_enter Tryd.func28, Tryd.ntmps28
      go_wp2_with fail
      refine (rright_any 0 d r s _).mono ?_
      rintro e w1 ⟨rfl, hb⟩
      rw [HR.out]
      have c0 := hb.cell (p := ⟨w.heap.size, 0, none⟩) (by simp)
      simp at c0
      go_wp2_with fail
      go_ret
      exact ⟨by rw [hn.out]; rfl, ((Below.refl _ _).alloc (Nat.le_refl _) _).trans (hb.mono (by simp))⟩
    · have hn : Hid (needP l d r s = 6 + l) := Lib.hid (rgt_need l d r s hr (by omega))
      have f0 : ((l : Int) == 0) = false := beq_eq_false_iff_ne.2 (by omega)
      have HR := Lib.hid hr
      clear hr
      go_enter Tryd.func28, Tryd.ntmps28
      go_wp2_with fail
      refine (rright_any l d r s _).mono ?_
      rintro e w1 ⟨rfl, hb⟩
      rw [HR.out]
      have c0 := hb.cell (p := ⟨w.heap.size, 0, none⟩) (by simp)
      simp at c0
      go_wp2_with fail
      go_ret
      exact ⟨by rw [hn.out]; first | rfl | (simp; omega), ((Below.refl _ _).alloc (Nat.le_refl _) _).trans (hb.mono (by simp))⟩
theorem vulP_eq (v s : Nat) : vulP v s = decide (v ≤ 3 ∧ s ≤ 3 ∧ ((s % 2 = 0 ∧ v % 2 = 1) ∨ (s % 2 = 1 ∧ 2 ≤ v))) := by unfold vulP; rfl
set_option maxHeartbeats 1000000 in
theorem rvul_any (v s : Nat) (w : World) :
    Calls Tryd.prog 29 #[.int .u8 v, .int .u8 s] w fun e w' => e = .returned (.bool (vulP v s)) ∧ w = w' := by
  have HR := Lib.hid (vulP_eq v s)
  go_enter Tryd.func29, Tryd.ntmps29
  go_wp2_with fail
  all_goals
    go_ret
    refine ⟨ret_bool ?_, rfl⟩
    rw [HR.out]
    grind
theorem resP_eq (l d r s : Nat) (k : Int) : resP l d r s k = (rgt l d r s && decide (0 ≤ k ∧ k ≤ 13 ∧ (0 < l ∨ k = 0))) := by unfold resP; rfl
set_option maxHeartbeats 1000000 in
theorem rresult_any (l d r s : Nat) (k : Int) (w : World) :
    Calls Tryd.prog 42 #[.agg #[.int .u8 l, .int .u8 d, .int .u8 r, .int .u8 s], .int .i64 k] w fun e w' => e = .returned (.bool (resP l d r s k)) ∧ Below w.heap.size w w' := by
  cases hr : rgt l d r s
  · have hn : Hid (resP l d r s k = false) := Lib.hid (by rw [resP_eq]; simp [hr])
    have HR := Lib.hid hr
    clear hr
    go_enter Tryd.func42, Tryd.ntmps42
    go_wp2_with fail
    refine (rright_any l d r s _).mono ?_
    rintro e w1 ⟨rfl, hb⟩
    rw [HR.out]
    go_wp2_with fail
    go_ret
    exact ⟨by rw [hn.out]; rfl, ((Below.refl _ _).alloc (Nat.le_refl _) _).trans (hb.mono (by simp))⟩
  · have hn : Hid (resP l d r s k = decide (0 ≤ k ∧ k ≤ 13 ∧ (0 < l ∨ k = 0))) := Lib.hid (by rw [resP_eq]; simp [hr])
    have HR := Lib.hid hr
    clear hr
    go_enter Tryd.func42, Tryd.ntmps42
    go_wp2_with fail
    refine (rright_any l d r s _).mono ?_
    rintro e w1 ⟨rfl, hb⟩
    rw [HR.out]
    have c0 := hb.cell (p := ⟨w.heap.size, 0, none⟩) (by simp)
    simp at c0
    go_wp2_with fail
    all_goals
      go_ret
      refine ⟨ret_bool ?_, ((Below.refl _ _).alloc (Nat.le_refl _) _).trans (hb.mono (by simp))⟩
      rw [hn.out]
      grind
theorem val_lo (d : Nat) (h : d < 2) : val d = 20 := if_pos h
theorem val_hi (d : Nat) (h : ¬ d < 2) : val d = 30 := if_neg h
theorem rvalue_any (d : Nat) (w : World) :
    Calls Tryd.prog 59 #[.int .u8 d] w fun e w' => e = .returned (.int .i64 (val d : Nat)) ∧ w = w' := by
  go_enter Tryd.func59, Tryd.ntmps59
  go_wp2_with fail
  · go_ret
    exact ⟨ret_i (by rw [val_lo d (by omega)]; rfl), rfl⟩
  · go_ret
    exact ⟨ret_i (by rw [val_hi d (by omega)]; rfl), rfl⟩
/-- The points of the missing trick with a number. -/
def lostK (r k : Nat) (v : Bool) : Nat := if r = 2 then 2 * trickP r v (k - 1) else trickP r v (k - 1)
set_option maxHeartbeats 2000000 in
theorem rlost_any (r k : Nat) (v : Bool) (w : World) (hk : 1 ≤ k) :
    Calls Tryd.prog 44 #[.int .u8 r, .int .i64 k, .bool v] w fun e w' => e = .returned (.int .i64 (lostK r k v : Nat)) ∧ w = w' := by
  cases v
  all_goals
    go_enter Tryd.func44, Tryd.ntmps44
    go_wp2_with fail
    all_goals
      go_ret
      refine ⟨ret_i ?_, rfl⟩
      unfold lostK trickP
      grind
theorem lostP_succ (r j : Nat) (v : Bool) : lostP r (j + 1) v = lostP r j v + lostK r (j + 1) v := by
  unfold lostK
  by_cases h : r = 2
  · rw [lost_two _ _ _ h, lost_two _ _ _ h, sm_s, if_pos h, Nat.add_sub_cancel]; omega
  · rw [lost_one _ _ _ h, lost_one _ _ _ h, sm_s, if_neg h, Nat.add_sub_cancel]
theorem lostP_zero (r : Nat) (v : Bool) : lostP r 0 v = 0 := by
  by_cases h : r = 2
  · rw [lost_two _ _ _ h, sm_0]
  · rw [lost_one _ _ _ h, sm_0]
theorem lostK_le (r k : Nat) (v : Bool) : lostK r k v ≤ 600 := by
  have := trickP_le r v (k - 1)
  unfold lostK; split <;> omega
attribute [irreducible] lostK
end Go.Proofs.YtgmofikhndlhcaaDoor
