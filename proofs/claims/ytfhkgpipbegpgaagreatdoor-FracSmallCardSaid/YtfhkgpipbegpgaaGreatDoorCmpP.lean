/- The order of fractions. Plain Lean, no program. -/
import Derived.Test.YtfhkgpipbegpgaaGreatDoorBd
namespace Go.Proofs.YtfhkgpipbegpgaaGreatDoor

theorem cmp_self (x : Rat) : cmpR x x = 0 := by unfold cmpR; rw [if_neg Rat.lt_irrefl, if_pos rfl]
theorem cmp_zero {x y : Rat} : cmpR x y = 0 ↔ x = y := by
  unfold cmpR
  by_cases h : x < y
  · rw [if_pos h]; constructor
    · intro h; cases h
    · rintro rfl; exact absurd h Rat.lt_irrefl
  · rw [if_neg h]
    by_cases h2 : x = y
    · simp [h2]
    · simp [h2]
theorem cmp_back (x y : Rat) : cmpR y x = -cmpR x y := by unfold cmpR; grind
theorem cmp_add (x y z : Rat) : cmpR (x + z) (y + z) = cmpR x y := by unfold cmpR; grind
theorem cmp_mul_pos (x y z : Rat) (hz : 0 < z) : cmpR (x * z) (y * z) = cmpR x y := by
  unfold cmpR
  by_cases h : x < y
  · rw [if_pos h, if_pos (Rat.mul_lt_mul_of_pos_right h hz)]
  · rw [if_neg h]
    have h' : ¬ x * z < y * z := fun h2 => h ((Rat.mul_lt_mul_right hz).1 h2)
    rw [if_neg h']
    by_cases e : x = y
    · rw [if_pos e, if_pos (by rw [e])]
    · rw [if_neg e, if_neg]
      intro h3
      have : y < x := by grind
      have := (Rat.mul_lt_mul_right hz).2 this
      grind
theorem cmp_neg (x y : Rat) : cmpR (-x) (-y) = -cmpR x y := by unfold cmpR; grind
theorem cmp_mul_neg (x y z : Rat) (hz : z < 0) : cmpR (x * z) (y * z) = -cmpR x y := by
  have h := cmp_mul_pos x y (-z) (by grind)
  rw [← h, ← cmp_neg]
  congr 1 <;> grind
theorem cmp_trans (x y z : Rat) (h : cmpR x y = cmpR y z) : cmpR x z = cmpR x y := by
  revert h; unfold cmpR; grind
theorem num_neg (x : Rat) : x.num < 0 ↔ x < 0 := by
  have h := @Rat.num_nonneg x
  constructor
  · intro h1; rw [← Rat.not_le]; intro h2; have := h.2 h2; omega
  · intro h1; rw [← Rat.not_le] at h1; have : ¬ 0 ≤ x.num := fun h2 => h1 (h.1 h2); omega
theorem num_pos (x : Rat) : 0 < x.num ↔ 0 < x := by
  have h := num_neg (-x)
  rw [Rat.neg_num] at h
  constructor
  · intro h1; have := h.1 (by omega); grind
  · intro h1; have := h.2 (by grind); omega
theorem den_pos' (x : Rat) : (0 : Int) < x.den := by have := x.den_pos; omega
/-- The products across: less. -/
theorem lt_prod (x y : Rat) : x < y ↔ x.num * y.den < y.num * x.den := Rat.lt_iff x y
/-- The sign of the difference. -/
theorem cmp_sub (x y : Rat) : cmpR x y = if 0 < (x - y).num then 1 else if (x - y).num < 0 then -1 else 0 := by
  rw [cmpR]
  by_cases h1 : x < y
  · rw [if_pos h1, if_neg (by rw [num_pos]; grind), if_pos (by rw [num_neg]; grind)]
  · rw [if_neg h1]
    by_cases h2 : x = y
    · rw [if_pos h2, if_neg (by rw [num_pos]; grind), if_neg (by rw [num_neg]; grind)]
    · rw [if_neg h2, if_pos (by rw [num_pos]; grind)]
end Go.Proofs.YtfhkgpipbegpgaaGreatDoor
