/- Division of a number of 128 bits by one of 64: one digit of the quotient to the base 2^32, found by trial. Plain Lean, no program. -/
import Init
namespace Go.Proofs.YtfhkgpipbegpgaaGreatDoor

/-- The trial digit: q is at most one or two too great; u = q * y1 + r. -/
structure Trial (u d y1 y0 q r : Nat) : Prop where
  sum : q * y1 + r = u
  r_lt : r < 4294967296
  q_le : q ≤ 4294967297
  ge : (u * 4294967296 + d) / (y1 * 4294967296 + y0) ≤ q
/-- What a divisor, a rest and a digit are. -/
structure Digit (u d y1 y0 : Nat) : Prop where
  y1_ge : 2147483648 ≤ y1
  y1_lt : y1 < 4294967296
  y0_lt : y0 < 4294967296
  d_lt : d < 4294967296
  u_lt : u < y1 * 4294967296 + y0
variable {u d y1 y0 q r : Nat}
theorem Digit.q_lt (h : Digit u d y1 y0) : (u * 4294967296 + d) / (y1 * 4294967296 + y0) < 4294967296 := by
  have := h.u_lt
  have := h.d_lt
  rw [Nat.div_lt_iff_lt_mul (by have := h.y1_ge; omega)]
  omega
theorem Trial.first (h : Digit u d y1 y0) : Trial u d y1 y0 (u / y1) (u - u / y1 * y1) := by
  have h1 := h.y1_ge
  have hm := Nat.div_add_mod u y1
  have hl := Nat.mod_lt u (by omega : y1 > 0)
  rw [Nat.mul_comm] at hm
  have e : u - u / y1 * y1 = u % y1 := by omega
  rw [e]
  refine ⟨hm, by have := h.y1_lt; omega, ?_, ?_⟩
  · have : u / y1 < 4294967298 := by
      rw [Nat.div_lt_iff_lt_mul (by omega)]
      have := h.u_lt; have := h.y0_lt
      omega
    omega
  · rw [Nat.le_div_iff_mul_le (by omega)]
    have h2 := Nat.div_mul_le_self (u * 4294967296 + d) (y1 * 4294967296 + y0)
    generalize (u * 4294967296 + d) / (y1 * 4294967296 + y0) = k at *
    have h3 : k * (y1 * 4294967296 + y0) = k * y1 * 4294967296 + k * y0 := by rw [Nat.mul_add, Nat.mul_assoc]
    have := h.d_lt
    generalize k * y1 = a at *
    generalize k * y0 = b at *
    omega
/-- The test says that the digit is too great. -/
theorem Trial.more (t : Trial u d y1 y0 q r) (h : Digit u d y1 y0) (hc : 4294967296 ≤ q ∨ 4294967296 * r + d < q * y0) : (u * 4294967296 + d) / (y1 * 4294967296 + y0) < q := by
  rcases hc with hc | hc
  · exact Nat.lt_of_lt_of_le h.q_lt hc
  · rw [Nat.div_lt_iff_lt_mul (by have := h.y1_ge; omega)]
    have hs := t.sum
    have h3 : q * (y1 * 4294967296 + y0) = q * y1 * 4294967296 + q * y0 := by rw [Nat.mul_add, Nat.mul_assoc]
    rw [h3]
    generalize q * y1 = a at *
    generalize q * y0 = b at *
    omega
theorem Trial.enough (t : Trial u d y1 y0 q r) (h : Digit u d y1 y0) (hc : q * y0 ≤ 4294967296 * r + d) : (u * 4294967296 + d) / (y1 * 4294967296 + y0) = q := by
  refine Nat.le_antisymm t.ge ?_
  rw [Nat.le_div_iff_mul_le (by have := h.y1_ge; omega)]
  have hs := t.sum
  have h3 : q * (y1 * 4294967296 + y0) = q * y1 * 4294967296 + q * y0 := by rw [Nat.mul_add, Nat.mul_assoc]
  rw [h3]
  generalize q * y1 = a at *
  generalize q * y0 = b at *
  omega
theorem Trial.next_sum (t : Trial u d y1 y0 q r) (hq : 0 < q) : (q - 1) * y1 + (r + y1) = u := by
  have hs := t.sum
  obtain ⟨k, rfl⟩ : ∃ k, q = k + 1 := ⟨q - 1, by omega⟩
  rw [Nat.add_sub_cancel, ← hs, Nat.succ_mul]
  omega
/-- One less, and the rest stays below 2^32. -/
theorem Trial.next (t : Trial u d y1 y0 q r) (h : Digit u d y1 y0) (hc : 4294967296 ≤ q ∨ 4294967296 * r + d < q * y0) (hr : r + y1 < 4294967296) : Trial u d y1 y0 (q - 1) (r + y1) := by
  have hm := t.more h hc
  exact ⟨t.next_sum (Nat.zero_lt_of_lt hm), hr, by have := t.q_le; omega, Nat.le_sub_one_of_lt hm⟩
/-- One less, and the rest passes 2^32. -/
theorem Trial.last (t : Trial u d y1 y0 q r) (h : Digit u d y1 y0) (hc : 4294967296 ≤ q ∨ 4294967296 * r + d < q * y0) (hr : 4294967296 ≤ r + y1) : (u * 4294967296 + d) / (y1 * 4294967296 + y0) = q - 1 := by
  have hm := t.more h hc
  refine Nat.le_antisymm (Nat.le_sub_one_of_lt hm) ?_
  rw [Nat.le_div_iff_mul_le (by have := h.y1_ge; omega)]
  have hs := t.next_sum (Nat.zero_lt_of_lt hm)
  have h3 : (q - 1) * (y1 * 4294967296 + y0) = (q - 1) * y1 * 4294967296 + (q - 1) * y0 := by rw [Nat.mul_add, Nat.mul_assoc]
  rw [h3]
  have h4 : (q - 1) * y0 ≤ 4294967296 * 4294967295 := Nat.mul_le_mul (by have := t.q_le; omega) (by have := h.y0_lt; omega)
  generalize (q - 1) * y1 = a at *
  generalize (q - 1) * y0 = b at *
  omega
/-- The two digits together, for a divisor that was shifted to the left. -/
theorem div_two (u d1 d0 y : Nat) (hy : 0 < y) :
    (u * 18446744073709551616 + (d1 * 4294967296 + d0)) / y = (u * 4294967296 + d1) / y * 4294967296 + ((u * 4294967296 + d1) % y * 4294967296 + d0) / y
    ∧ (u * 18446744073709551616 + (d1 * 4294967296 + d0)) % y = ((u * 4294967296 + d1) % y * 4294967296 + d0) % y := by
  have e : u * 18446744073709551616 + (d1 * 4294967296 + d0) = ((u * 4294967296 + d1) % y * 4294967296 + d0) + y * ((u * 4294967296 + d1) / y * 4294967296) := by
    have h := Nat.div_add_mod (u * 4294967296 + d1) y
    generalize (u * 4294967296 + d1) / y = q at *
    generalize (u * 4294967296 + d1) % y = r at *
    rw [← Nat.mul_assoc]
    generalize y * q = a at *
    omega
  rw [e, Nat.add_mul_div_left _ _ hy, Nat.add_mul_mod_self_left]
  exact ⟨Nat.add_comm _ _, rfl⟩
theorem div_shift (U y k : Nat) (hk : 0 < k) : U * k / (y * k) = U / y ∧ U * k % (y * k) / k = U % y := by
  refine ⟨Nat.mul_div_mul_right _ _ hk, ?_⟩
  rw [Nat.mul_mod_mul_right, Nat.mul_div_cancel _ hk]
end Go.Proofs.YtfhkgpipbegpgaaGreatDoor
