/- Contracts of Right, Need, result, Vulnerable, column. -/
import Derived.Test.YtgmofikhndlhcaaDoorProg
import Derived.Test.YtgmofikhndlhcaaDoorKit
import Derived.Lib.Hide
namespace Go.Proofs.YtgmofikhndlhcaaDoor
open Go.RowKit

/-- A contract's four numbers as a value. -/
def conV (l d r s : Nat) : Value := .agg #[.int .u8 l, .int .u8 d, .int .u8 r, .int .u8 s]
def rgt (l d r s : Nat) : Bool := decide ((l = 0 ∧ d = 0 ∧ r = 0 ∧ s = 0) ∨ (1 ≤ l ∧ l ≤ 7 ∧ d ≤ 4 ∧ r ≤ 2 ∧ s ≤ 3))
def needP (l d r s : Nat) : Nat := if rgt l d r s = true ∧ l ≠ 0 then 6 + l else 0
theorem ret_bool {a b : Bool} (h : a = b) : Ending.returned (.bool a) = .returned (.bool b) := by rw [h]
theorem ret_i {k : IntKind} {a b : Int} (h : a = b) : Ending.returned (.int k a) = .returned (.int k b) := by rw [h]

set_option maxHeartbeats 1000000 in
theorem right_any (l d r s : Nat) (w : World) :
    Calls Tryd.prog 24 #[.agg #[.int .u8 l, .int .u8 d, .int .u8 r, .int .u8 s]] w fun e w' => e = .returned (.bool (rgt l d r s)) ∧ Below w.heap.size w w' := by
  go_enter Tryd.func24, Tryd.ntmps24
  go_wp2_with fail
  all_goals
    go_ret
    refine ⟨ret_bool ?_, (Below.refl _ _).alloc (Nat.le_refl _) _⟩
    rw [Bool.eq_iff_iff]
    unfold rgt
    simp only [decide_eq_true_eq, Bool.false_eq_true, true_iff, false_iff]
    omega
theorem rgt_need (l d r s : Nat) (h : rgt l d r s = true) (hl : l ≠ 0) : needP l d r s = 6 + l := by simp [needP, h, hl]
theorem rgt_mk (l d r s : Nat) (h1 : 1 ≤ l) (h2 : l ≤ 7) (h3 : d ≤ 4) (h4 : r ≤ 2) (h5 : s ≤ 3) : rgt l d r s = true := decide_eq_true (.inr ⟨h1, h2, h3, h4, h5⟩)
theorem rgt_of (l d r s : Nat) (h : rgt l d r s = true) : (l = 0 ∧ d = 0 ∧ r = 0 ∧ s = 0) ∨ (1 ≤ l ∧ l ≤ 7 ∧ d ≤ 4 ∧ r ≤ 2 ∧ s ≤ 3) := of_decide_eq_true h
theorem rgt_zero : rgt 0 0 0 0 = true := rfl
attribute [irreducible] rgt
set_option maxHeartbeats 1000000 in
theorem need_any (l d r s : Nat) (w : World) (hl : l < 256) :
    Calls Tryd.prog 16 #[.agg #[.int .u8 l, .int .u8 d, .int .u8 r, .int .u8 s]] w fun e w' => e = .returned (.int .i64 (needP l d r s : Nat)) ∧ Below w.heap.size w w' := by
  cases hr : rgt l d r s
  · have hn : Hid (needP l d r s = 0) := Lib.hid (by simp [needP, hr])
    have HR := Lib.hid hr
    clear hr
    go_enter Tryd.func16, Tryd.ntmps16
    go_wp2_with fail
    refine (right_any l d r s _).mono ?_
    rintro e w1 ⟨rfl, hb⟩
    rw [HR.out]
    go_wp2_with fail
    go_ret
    exact ⟨by rw [hn.out]; rfl, ((Below.refl _ _).alloc (Nat.le_refl _) _).trans (hb.mono (by simp))⟩
  · rcases Nat.eq_zero_or_pos l with rfl | h0
    · have hn : Hid (needP 0 d r s = 0) := Lib.hid (by simp [needP])
      have HR := Lib.hid hr
      clear hr
      go_enter Tryd.func16, Tryd.ntmps16
      go_wp2_with fail
      refine (right_any 0 d r s _).mono ?_
      rintro e w1 ⟨rfl, hb⟩
      rw [HR.out]
      have c0 := hb.cell (p := ⟨w.heap.size, 0, none⟩) (by simp)
      simp at c0
      go_wp2_with fail
      go_ret
      exact ⟨by rw [hn.out]; rfl, ((Below.refl _ _).alloc (Nat.le_refl _) _).trans (hb.mono (by simp))⟩
    · have hn : Hid (needP l d r s = 6 + l) := Lib.hid (rgt_need l d r s hr (by omega))
      have f0 : ((l : Int) == 0) = false := beq_eq_false_iff_ne.2 (by omega)
      have HR := Lib.hid hr
      clear hr
      go_enter Tryd.func16, Tryd.ntmps16
      go_wp2_with fail
      refine (right_any l d r s _).mono ?_
      rintro e w1 ⟨rfl, hb⟩
      rw [HR.out]
      have c0 := hb.cell (p := ⟨w.heap.size, 0, none⟩) (by simp)
      simp at c0
      go_wp2_with fail
      go_ret
      exact ⟨by rw [hn.out]; rfl, ((Below.refl _ _).alloc (Nat.le_refl _) _).trans (hb.mono (by simp))⟩
end Go.Proofs.YtgmofikhndlhcaaDoor
