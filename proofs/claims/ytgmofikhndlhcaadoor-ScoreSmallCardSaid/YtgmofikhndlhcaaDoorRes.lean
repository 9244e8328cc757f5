/- Contracts of result, Vulnerable. -/
import Derived.Test.YtgmofikhndlhcaaDoorRight
import Derived.Lib.Hide
namespace Go.Proofs.YtgmofikhndlhcaaDoor
open Go.RowKit

def resP (l d r s : Nat) (k : Int) : Bool := rgt l d r s && decide (0 ≤ k ∧ k ≤ 13 ∧ (0 < l ∨ k = 0))
def vulP (v s : Nat) : Bool := decide (v ≤ 3 ∧ s ≤ 3 ∧ ((s % 2 = 0 ∧ v % 2 = 1) ∨ (s % 2 = 1 ∧ 2 ≤ v)))
set_option maxHeartbeats 1000000 in
theorem result_any (l d r s : Nat) (k : Int) (w : World) :
    Calls Tryd.prog 35 #[.agg #[.int .u8 l, .int .u8 d, .int .u8 r, .int .u8 s], .int .i64 k] w fun e w' => e = .returned (.bool (resP l d r s k)) ∧ Below w.heap.size w w' := by
  cases hr : rgt l d r s
  · have hn : Hid (resP l d r s k = false) := Lib.hid (by simp [resP, hr])
    have HR := Lib.hid hr
    clear hr
    go_enter Tryd.func35, Tryd.ntmps35
    go_wp2_with fail
    refine (right_any l d r s _).mono ?_
    rintro e w1 ⟨rfl, hb⟩
    rw [HR.out]
    go_wp2_with fail
    go_ret
    exact ⟨by rw [hn.out]; rfl, ((Below.refl _ _).alloc (Nat.le_refl _) _).trans (hb.mono (by simp))⟩
  · have hn : Hid (resP l d r s k = decide (0 ≤ k ∧ k ≤ 13 ∧ (0 < l ∨ k = 0))) := Lib.hid (by simp [resP, hr])
    have HR := Lib.hid hr
    clear hr
    go_enter Tryd.func35, Tryd.ntmps35
    go_wp2_with fail
    refine (right_any l d r s _).mono ?_
    rintro e w1 ⟨rfl, hb⟩
    rw [HR.out]
    have c0 := hb.cell (p := ⟨w.heap.size, 0, none⟩) (by simp)
    simp at c0
    go_wp2_with fail
    all_goals
      go_ret
      refine ⟨ret_bool ?_, ((Below.refl _ _).alloc (Nat.le_refl _) _).trans (hb.mono (by simp))⟩
      rw [hn.out, Bool.eq_iff_iff]
      simp only [decide_eq_true_eq, Bool.false_eq_true, true_iff, false_iff, beq_iff_eq]
      omega
theorem vul_fin : ∀ v s : Fin 4, (bits BinOp.and IntKind.u8 ((v.val : Int) / (2 : Int) ^ (s.val % 2)) 1 != 0) = vulP v.val s.val := by decide
theorem vul_out (v s : Nat) (h : ¬ (v ≤ 3 ∧ s ≤ 3)) : vulP v s = false := decide_eq_false (fun h' => h ⟨h'.1, h'.2.1⟩)

set_option maxHeartbeats 1000000 in
theorem vul_any (v s : Nat) (w : World) :
    Calls Tryd.prog 19 #[.int .u8 v, .int .u8 s] w fun e w' => e = .returned (.bool (vulP v s)) ∧ w = w' := by
  go_enter Tryd.func19, Tryd.ntmps19
  go_wp2_with fail
  · go_ret
    exact ⟨ret_bool (vul_fin ⟨v, by omega⟩ ⟨s, by omega⟩), rfl⟩
  · go_ret
    exact ⟨ret_bool (vul_out v s (by omega)).symm, rfl⟩
  · go_ret
    exact ⟨ret_bool (vul_out v s (by omega)).symm, rfl⟩
theorem res_of {l d r s : Nat} {k : Int} (h : resP l d r s k = true) : 0 ≤ k ∧ k ≤ 13 ∧ (0 < l ∨ k = 0) := by
  unfold resP at h
  rw [Bool.and_eq_true, decide_eq_true_eq] at h
  exact h.2
theorem res_rgt {l d r s : Nat} {k : Int} (h : resP l d r s k = true) : rgt l d r s = true := by
  unfold resP at h
  rw [Bool.and_eq_true] at h
  exact h.1
theorem res_mk {l d r s : Nat} {k : Int} (h : rgt l d r s = true) (h1 : 0 ≤ k) (h2 : k ≤ 13) (h3 : 0 < l ∨ k = 0) : resP l d r s k = true := by
  unfold resP
  rw [h, decide_eq_true ⟨h1, h2, h3⟩]; rfl
attribute [irreducible] vulP resP
end Go.Proofs.YtgmofikhndlhcaaDoor
