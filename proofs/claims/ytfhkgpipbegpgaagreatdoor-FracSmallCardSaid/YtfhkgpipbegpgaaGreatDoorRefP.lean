/- Plain: what the reference's loops keep (comparison, division, value of digits, decimal digits). No program. -/
import Derived.Test.YtfhkgpipbegpgaaGreatDoorDigP
namespace Go.Proofs.YtfhkgpipbegpgaaGreatDoor

theorem div_split (n i : Nat) : n / 65536 ^ i = n / 65536 ^ (i + 1) * 65536 + dg n i := by
  unfold dg
  rw [Nat.pow_succ, ← Nat.div_div_eq_div_mul]; omega
/-- The highest digit at which two numbers differ decides. -/
theorem less_at {n m i : Nat} (h : n / 65536 ^ (i + 1) = m / 65536 ^ (i + 1)) (hd : dg n i ≠ dg m i) : n < m ↔ dg n i < dg m i := by
  have h1 := div_split n i
  have h2 := div_split m i
  rw [h] at h1
  constructor
  · intro hlt
    have := Nat.div_le_div_right (c := 65536 ^ i) (Nat.le_of_lt hlt)
    omega
  · intro hlt
    rcases Nat.lt_or_ge n m with h3 | h3
    · exact h3
    · have := Nat.div_le_div_right (c := 65536 ^ i) h3
      omega
theorem eq_at {n m i : Nat} (h : n / 65536 ^ (i + 1) = m / 65536 ^ (i + 1)) (hd : dg n i = dg m i) : n / 65536 ^ i = m / 65536 ^ i := by
  rw [div_split n i, div_split m i, h, hd]
theorem top_zero (n : Nat) : n / 65536 ^ nd n = 0 := Nat.div_eq_of_lt (lt_pow_nd n)
theorem lt_of_nd_lt {n m : Nat} (h : nd n < nd m) : n < m := by
  rcases Nat.lt_or_ge n m with h1 | h1
  · exact h1
  · have := nd_mono h1; omega
/-- The quotient's digit. -/
theorem q_step (a b i q rest : Nat) (hb : 0 < b) (hr : rest = a / 65536 ^ (i + 1) % b * 65536 + dg a i) (hq : q = rest / b) :
    q < 65536 ∧ dg (a / b) i = q ∧ rest - b * q = a / 65536 ^ i % b ∧ rest < b * 65536 := by
  have hm := Nat.mod_lt (a / 65536 ^ (i + 1)) hb
  have hd := dg_lt a i
  obtain ⟨h1, h2⟩ := long_step a b i hb
  rw [← hr] at h1 h2
  have h3 : rest < b * 65536 := by
    have : (a / 65536 ^ (i + 1) % b + 1) * 65536 ≤ b * 65536 := Nat.mul_le_mul hm (Nat.le_refl _)
    omega
  have hq2 : q < 65536 := hq ▸ q_digit rest b hb h3
  refine ⟨hq2, ?_, ?_, h3⟩
  · unfold dg
    rw [Nat.div_div_eq_div_mul, Nat.mul_comm, ← Nat.div_div_eq_div_mul, h1, ← hq]; omega
  · rw [h2, hq]
    have := Nat.div_add_mod rest b
    omega
theorem q_start (a b : Nat) (hb : 0 < b) (hle : b ≤ a) : a / 65536 ^ (nd a - nd b + 1) % b = a / 65536 ^ (nd a - nd b + 1) ∧ a / b < 65536 ^ (nd a - nd b + 1) ∧ nd b ≤ nd a := by
  have h0 := nd_mono hle
  have hn : nd b ≠ 0 := fun h => by have := (nd_zero_iff b).1 h; omega
  have h1 : nd (a / 65536 ^ (nd a - nd b + 1)) = nd b - 1 := by rw [nd_div]; omega
  have h2 : a / 65536 ^ (nd a - nd b + 1) < b := lt_of_nd_lt (by omega)
  refine ⟨Nat.mod_eq_of_lt h2, ?_, h0⟩
  rw [Nat.div_lt_iff_lt_mul hb]
  have h3 : 65536 ^ (nd b - 1) ≤ b := le_of_nd (by omega)
  calc a < 65536 ^ nd a := lt_pow_nd a
    _ = 65536 ^ (nd a - nd b + 1) * 65536 ^ (nd b - 1) := by rw [← Nat.pow_add]; congr 1; omega
    _ ≤ 65536 ^ (nd a - nd b + 1) * b := Nat.mul_le_mul (Nat.le_refl _) h3
/-- The digits above the lowest one of a divisor. -/
theorem top_two (rest b : Nat) (hb : 0 < b) (h : rest < b * 65536) : nd rest ≤ nd b + 1 ∧ rest / 65536 ^ (nd b - 1) < 4294967296 ∧ 0 < b / 65536 ^ (nd b - 1) ∧ b / 65536 ^ (nd b - 1) < 65536 ∧ dg b (nd b - 1) = b / 65536 ^ (nd b - 1) := by
  have hn : nd b ≠ 0 := fun h => by have := (nd_zero_iff b).1 h; omega
  have h1 := lt_pow_nd b
  have h2 : rest < 65536 ^ (nd b + 1) := by
    rw [Nat.pow_succ]
    exact Nat.lt_of_lt_of_le h (Nat.mul_le_mul (Nat.le_of_lt h1) (Nat.le_refl _))
  have e : 65536 ^ (nd b + 1) = 65536 ^ (nd b - 1) * 4294967296 := by
    rw [show (4294967296 : Nat) = 65536 ^ 2 by decide, ← Nat.pow_add]; congr 1; omega
  have e1 : 65536 ^ nd b = 65536 ^ (nd b - 1) * 65536 := by
    rw [← Nat.pow_succ]; congr 1; omega
  refine ⟨nd_le _ _ h2, ?_, Nat.div_pos (le_of_nd (by omega)) (pp _), ?_, ?_⟩
  · rw [Nat.div_lt_iff_lt_mul (pp _), Nat.mul_comm, ← e]; exact h2
  · rw [Nat.div_lt_iff_lt_mul (pp _), Nat.mul_comm, ← e1]; exact h1
  · exact dg_top (by rw [show nd b - 1 + 1 = nd b by omega]; exact h1)
/-- Halving: the bounds stay about the quotient. -/
theorem half_low {rest b mid : Nat} (hb : 0 < b) (h : rest < b * mid) : rest / b ≤ mid - 1 := by
  have : rest / b < mid := by rw [Nat.div_lt_iff_lt_mul hb, Nat.mul_comm]; exact h
  omega
theorem half_high {rest b mid : Nat} (hb : 0 < b) (h : ¬ rest < b * mid) : mid ≤ rest / b := by
  rw [Nat.le_div_iff_mul_le hb, Nat.mul_comm]; omega
/-- A list of zeros above which a number's digits stand. -/
def outD (q i k : Nat) : List Nat := (List.range k).map (fun j => if i ≤ j then dg q j else 0)
theorem outD_zero (q k : Nat) : outD q k k = List.replicate k 0 := by
  unfold outD
  rw [List.eq_replicate_iff]
  refine ⟨by simp, fun b hb => ?_⟩
  rw [List.mem_map] at hb
  obtain ⟨j, hj, rfl⟩ := hb
  rw [List.mem_range] at hj
  rw [if_neg (by omega)]
theorem outD_all (q k : Nat) : outD q 0 k = digN q k := by
  unfold outD digN
  exact List.map_congr_left fun j _ => by rw [if_pos (by omega)]
theorem outD_len (q i k : Nat) : (outD q i k).length = k := by simp [outD]
theorem outD_get (q i k j : Nat) (h : j < k) : (outD q i k)[j]? = some (if i ≤ j then dg q j else 0) := by simp [outD, h]
theorem outD_set (q i k : Nat) (h : i < k) : (outD q (i + 1) k).set i (dg q i) = outD q i k := by
  refine List.ext_getElem? fun j => ?_
  rw [List.getElem?_set]
  by_cases hj : j < k
  · rw [outD_get _ _ _ _ hj, outD_get _ _ _ _ hj, outD_len]
    by_cases e : i = j
    · subst e; simp [hj]
    · rw [if_neg e]
      congr 1
      by_cases h1 : i ≤ j
      · rw [if_pos h1, if_pos (by omega)]
      · rw [if_neg h1, if_neg (by omega)]
  · rw [List.getElem?_eq_none (l := outD q i k) (by rw [outD_len]; omega), List.getElem?_eq_none (l := outD q (i + 1) k) (by rw [outD_len]; omega)]
    rw [if_neg (by omega)]
theorem nd_mul (n m : Nat) : nd (n * m) ≤ nd n + nd m := by
  refine nd_le _ _ ?_
  rw [Nat.pow_add]
  exact Nat.mul_lt_mul'' (lt_pow_nd n) (lt_pow_nd m)
theorem nd_add (n m k : Nat) (h1 : nd n ≤ k) (h2 : nd m ≤ k) : nd (n + m) ≤ k + 1 := by
  refine nd_le _ _ ?_
  have a := lt_of_nd h1
  have b := lt_of_nd h2
  rw [Nat.pow_succ]; omega
theorem nd_small {n : Nat} (h : n < 65536) : nd n ≤ 1 := nd_le _ _ (by simpa using h)
theorem pow_four : (65536 : Nat) ^ 4 = 18446744073709551616 := by decide
theorem nd_64 {n : Nat} (h : n < 18446744073709551616) : nd n ≤ 4 := by
  rw [← pow_four] at h
  exact nd_le _ _ h
theorem dig_zero : dig 0 = [] := by unfold dig; rw [nd_zero]; simp [digN]
theorem dig_one {d : Nat} (h : d < 65536) (h0 : d ≠ 0) : dig d = [d] := by
  unfold dig
  rw [nd_pos h0, show d / 65536 = 0 by omega, nd_zero]
  simp [digN, dg, List.range_succ]
  omega
theorem dig_push (x d : Nat) (hd : d < 65536) (h : x ≠ 0) : dig (x * 65536 + d) = d :: dig x := by
  unfold dig
  rw [nd_pos (by omega), show (x * 65536 + d) / 65536 = x by omega, digN_cons _ _ _ hd]
theorem digN_push (x d : Nat) (hd : d < 65536) : digN (x * 65536 + d) (nd x + 1) = d :: dig x := by rw [digN_cons _ _ _ hd]; unfold dig; rfl
theorem push_lt (x d : Nat) (hd : d < 65536) : x * 65536 + d < 65536 ^ (nd x + 1) := by
  have := lt_pow_nd x
  rw [Nat.pow_succ]; omega
theorem digN_take (n k : Nat) : (digN n (k + 1)).take k = digN n k := by
  rw [digN_succ, List.take_append_of_le_length (Nat.le_of_eq (digN_len n k).symm), List.take_of_length_le (Nat.le_of_eq (digN_len n k))]
attribute [irreducible] outD
end Go.Proofs.YtfhkgpipbegpgaaGreatDoor
