/- Plain law of the reference of chapter 05: bits, lengths, points. -/
import Derived.Test.YtdebhdjcacojeaaDoorHand
import Derived.Test.YtdebhdjcacojeaaDoorPlain
namespace Go.Proofs.YtdebhdjcacojeaaDoor

/-- The reference's Has. -/
def hb (m s r : Nat) : Bool := decide (Pl.hold m s / 2 ^ r % 2 = 1)
theorem hb_eq (m s r : Nat) (hr : r < 13) : hb m s r = decide (m / 2 ^ (13 * s + r) % 2 = 1) := by
  unfold hb; rw [Pl.hold_bit m s r hr]
theorem hb_bit (m s r : Nat) : Pl.hold m s / 2 ^ r % 2 = if hb m s r = true then 1 else 0 := by
  unfold hb
  by_cases h : Pl.hold m s / 2 ^ r % 2 = 1
  · rw [if_pos (decide_eq_true h), h]
  · rw [if_neg (by simpa using h)]; omega
theorem pc_succ (k x : Nat) : Pl.pc (k + 1) x = Pl.pc k x + x / 2 ^ k % 2 := by
  rw [Pl.pc_add k 1 x]
  unfold Pl.pc Pl.pc
  rfl
/-- The cards of a suit among the lowest k ranks. -/
def lenTo (m s k : Nat) : Nat := Pl.pc k (Pl.hold m s)
theorem lenTo_0 (m s : Nat) : lenTo m s 0 = 0 := by unfold lenTo Pl.pc; rfl
theorem lenTo_s (m s k : Nat) : lenTo m s (k + 1) = lenTo m s k + if hb m s k = true then 1 else 0 := by
  unfold lenTo; rw [pc_succ, hb_bit]
theorem lenTo_13 (m s : Nat) : lenTo m s 13 = shp m s := by
  have e := Pl.pc_add 13 3 (Pl.hold m s)
  have d : Pl.hold m s / 2 ^ 13 = 0 := Nat.div_eq_of_lt (Pl.hold_lt m s)
  rw [d, Pl.pc_zero] at e
  unfold lenTo shp
  rw [show (16 : Nat) = 13 + 3 from rfl, e, Nat.add_zero]
theorem lenTo_le (m s k : Nat) : lenTo m s k ≤ k := Pl.pc_le k _
theorem shp13 (m s : Nat) : shp m s = Pl.pc 13 (m / 2 ^ (13 * s)) := by
  rw [← lenTo_13]
  unfold lenTo Pl.hold
  rw [show (8192 : Nat) = 2 ^ 13 from rfl, Pl.pc_mod]
theorem pc64 (m : Nat) (hm : m < 4503599627370496) : Pl.pc 64 m = shp m 0 + shp m 1 + shp m 2 + shp m 3 := by
  rw [show (64 : Nat) = 13 + (13 + (13 + (13 + 12))) from rfl, Pl.pc_add, Pl.pc_add, Pl.pc_add, Pl.pc_add]
  simp only [Nat.div_div_eq_div_mul, ← Nat.pow_add]
  rw [show m / 2 ^ (13 + 13 + 13 + 13) = 0 from Nat.div_eq_of_lt (by simpa using hm), Pl.pc_zero]
  rw [shp13, shp13, shp13, shp13]
  simp only [Nat.mul_zero, Nat.pow_zero, Nat.div_one, Nat.mul_one, Nat.add_zero]
  rw [show 13 * 2 = 13 + 13 from rfl, show 13 * 3 = 13 + 13 + 13 from rfl]
  omega
theorem right_ref (m : Nat) : rightB m = decide (shp m 0 + shp m 1 + shp m 2 + shp m 3 = 13 ∧ m < 4503599627370496) := by
  unfold rightB
  by_cases h : m < 4503599627370496
  · rw [pc64 m h]; simp [h]
  · simp [h]
/-- The lengths of the first k suits together. -/
def sumTo (m : Nat) : Nat → Nat
  | 0 => 0
  | k + 1 => sumTo m k + shp m k
theorem sumTo_0 (m : Nat) : sumTo m 0 = 0 := rfl
theorem sumTo_s (m k : Nat) : sumTo m (k + 1) = sumTo m k + shp m k := rfl
theorem sumTo_4 (m : Nat) : sumTo m 4 = shp m 0 + shp m 1 + shp m 2 + shp m 3 := by simp [sumTo]
theorem sumTo_le (m : Nat) : ∀ k, sumTo m k ≤ 13 * k
  | 0 => by simp [sumTo]
  | k + 1 => by have := sumTo_le m k; have := shp_le m k; simp only [sumTo]; omega
theorem hb9 (m s : Nat) : Pl.hold m s / 512 % 2 = if hb m s 9 = true then 1 else 0 := hb_bit m s 9
theorem hb10 (m s : Nat) : Pl.hold m s / 1024 % 2 = if hb m s 10 = true then 1 else 0 := hb_bit m s 10
theorem hb11 (m s : Nat) : Pl.hold m s / 2048 % 2 = if hb m s 11 = true then 1 else 0 := hb_bit m s 11
theorem hb12 (m s : Nat) : Pl.hold m s / 4096 % 2 = if hb m s 12 = true then 1 else 0 := hb_bit m s 12
def b1 (x : Bool) : Nat := if x then 1 else 0
/-- The points of the honours from the jack up to rank 8 + k. -/
def ptTo (m s : Nat) : Nat → Nat
  | 0 => 0
  | k + 1 => ptTo m s k + (if hb m s (9 + k) = true then k + 1 else 0)
theorem ptTo_0 (m s : Nat) : ptTo m s 0 = 0 := rfl
theorem ptTo_s (m s k : Nat) : ptTo m s (k + 1) = ptTo m s k + (if hb m s (9 + k) = true then k + 1 else 0) := rfl
theorem ptTo_4 (m s : Nat) : ptTo m s 4 = Pl.hon 1 2 3 4 (Pl.hold m s) := by
  unfold Pl.hon
  rw [hb9, hb10, hb11, hb12]
  simp only [ptTo]
  repeat' split
  all_goals simp_all
theorem ptTo_le (m s k : Nat) (hk : k ≤ 4) : ptTo m s k ≤ 10 := by
  rcases (by omega : k = 0 ∨ k = 1 ∨ k = 2 ∨ k = 3 ∨ k = 4) with rfl | rfl | rfl | rfl | rfl <;> simp only [ptTo] <;> (repeat' split) <;> omega
theorem ctl_ref (m s : Nat) : Pl.hon 0 0 1 2 (Pl.hold m s) = (if hb m s 11 = true then 1 else 0) + (if hb m s 12 = true then 2 else 0) := by
  unfold Pl.hon
  rw [hb11, hb12]
  repeat' split
  all_goals simp_all
theorem los_ref (m s : Nat) : Pl.los (Pl.hold m s) = (if 1 ≤ shp m s ∧ hb m s 12 = false then 1 else 0) + (if 2 ≤ shp m s ∧ hb m s 11 = false then 1 else 0) + (if 3 ≤ shp m s ∧ hb m s 10 = false then 1 else 0) := by
  unfold Pl.los Pl.los1
  rw [hb10, hb11, hb12]
  unfold shp
  cases hb m s 10 <;> cases hb m s 11 <;> cases hb m s 12 <;> grind
theorem qck_ref (m s : Nat) : Pl.qck (Pl.hold m s) = if hb m s 12 = true ∧ hb m s 11 = true then 4 else if hb m s 12 = true ∧ hb m s 10 = true then 3 else if hb m s 12 = true ∨ hb m s 11 = true ∧ hb m s 10 = true then 2
    else if hb m s 11 = true ∧ 2 ≤ shp m s then 1 else 0 := by
  unfold Pl.qck
  rw [hb10, hb11, hb12]
  unfold shp
  cases hb m s 10 <;> cases hb m s 11 <;> cases hb m s 12 <;> grind
theorem holdTo_s (m s r : Nat) : Pl.hold m s / 2 ^ r = 2 * (Pl.hold m s / 2 ^ (r + 1)) + (if hb m s r = true then 1 else 0) := by
  rw [← hb_bit, Nat.pow_succ, ← Nat.div_div_eq_div_mul]
  omega
attribute [irreducible] hb lenTo sumTo ptTo
end Go.Proofs.YtdebhdjcacojeaaDoor
