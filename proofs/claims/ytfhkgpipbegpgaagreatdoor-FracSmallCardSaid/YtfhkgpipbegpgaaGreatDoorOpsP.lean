/- What Add, Sub, Mul, Div, Neg and Cmp compute, as rational numbers. Plain Lean, no program. -/
import Derived.Test.YtfhkgpipbegpgaaGreatDoorCmpP
namespace Go.Proofs.YtfhkgpipbegpgaaGreatDoor

/-- Numbers of 64 bits. -/
structure FB (n d : Int) : Prop where
  n0 : -9223372036854775808 ≤ n
  n1 : n ≤ 9223372036854775807
  d0 : -9223372036854775808 ≤ d
  d1 : d ≤ 9223372036854775807
theorem right_pos {n d : Int} (h : rightB n d = true) : 0 < d := by
  unfold rightB at h; simp only [Bool.and_eq_true, decide_eq_true_eq] at h; exact h.1
theorem right_gcd {n d : Int} (h : rightB n d = true) : Nat.gcd n.natAbs d.natAbs = 1 := by
  unfold rightB at h; simp only [Bool.and_eq_true, beq_iff_eq] at h; exact h.2
theorem sgn_neg (n : Int) : sgn (decide (n < 0)) n.natAbs = n := by
  unfold sgn; by_cases h : n < 0 <;> simp [h] <;> omega
theorem sgn_pos (n : Int) : sgn (decide (0 < n)) n.natAbs = -n := by
  unfold sgn; by_cases h : 0 < n <;> simp [h] <;> omega
theorem toNat_abs {d : Int} (h : 0 < d) : d.natAbs = d.toNat := by omega
theorem add_val {n d m k : Int} (h : rightB n d = true) (g : rightB m k = true) : addP (decide (n < 0)) (decide (m < 0)) n.natAbs d.natAbs m.natAbs k.natAbs = outF (toR n d + toR m k) := by
  have hd := right_pos h
  have hk := right_pos g
  rw [add_out _ _ _ _ _ _ (by omega) (by omega) (right_gcd h) (right_gcd g), sgn_neg, sgn_neg]
  unfold toR
  rw [Rat.mkRat_add_mkRat _ _ (by omega) (by omega), toNat_abs hd, toNat_abs hk]
theorem sub_val {n d m k : Int} (h : rightB n d = true) (g : rightB m k = true) : addP (decide (n < 0)) (decide (0 < m)) n.natAbs d.natAbs m.natAbs k.natAbs = outF (toR n d - toR m k) := by
  have hd := right_pos h
  have hk := right_pos g
  rw [add_out _ _ _ _ _ _ (by omega) (by omega) (right_gcd h) (right_gcd g), sgn_neg, sgn_pos, Rat.sub_eq_add_neg]
  unfold toR
  rw [Rat.neg_mkRat, Rat.mkRat_add_mkRat _ _ (by omega) (by omega), toNat_abs hd, toNat_abs hk]
theorem sgn_both (n m : Int) : sgn (decide (n < 0) != decide (m < 0)) (n.natAbs * m.natAbs) = n * m := by
  rw [← Int.natAbs_mul]
  unfold sgn
  by_cases h1 : n < 0 <;> by_cases h2 : m < 0 <;> simp [h1, h2]
  · have : 0 ≤ n * m := Int.mul_nonneg_of_nonpos_of_nonpos (by omega) (by omega)
    omega
  · have : n * m ≤ 0 := Int.mul_nonpos_of_nonpos_of_nonneg (by omega) (by omega)
    omega
  · have : n * m ≤ 0 := Int.mul_nonpos_of_nonneg_of_nonpos (by omega) (by omega)
    omega
  · have : 0 ≤ n * m := Int.mul_nonneg (by omega) (by omega)
    omega
theorem mul_val {n d m k : Int} (h : rightB n d = true) (g : rightB m k = true) : timesP (decide (n < 0) != decide (m < 0)) n.natAbs d.natAbs m.natAbs k.natAbs = outF (toR n d * toR m k) := by
  have hd := right_pos h
  have hk := right_pos g
  rw [times_out _ _ _ _ _ (by omega) (by omega) (right_gcd h) (right_gcd g), sgn_both]
  unfold toR
  rw [Rat.mkRat_mul_mkRat, toNat_abs hd, toNat_abs hk]
theorem toR_divInt {n d : Int} (h : 0 < d) : toR n d = Rat.divInt n d := by
  obtain ⟨k, rfl⟩ : ∃ k : Nat, d = k := ⟨d.toNat, by omega⟩
  rw [Rat.divInt_ofNat]; rfl
theorem div_val {n d m k : Int} (h : rightB n d = true) (g : rightB m k = true) (hm : m ≠ 0) : timesP (decide (n < 0) != decide (m < 0)) n.natAbs d.natAbs k.natAbs m.natAbs = outF (toR n d / toR m k) := by
  have hd := right_pos h
  have hk := right_pos g
  rw [times_out _ _ _ _ _ (by omega) (by omega) (right_gcd h) (by rw [Nat.gcd_comm]; exact right_gcd g)]
  congr 1
  rw [Rat.div_def, toR_divInt hd, toR_divInt hk, Rat.inv_divInt, Rat.divInt_mul_divInt]
  have hdm : d * m ≠ 0 := Int.mul_ne_zero (by omega) hm
  obtain ⟨k', rfl⟩ : ∃ k' : Nat, k = k' := ⟨k.toNat, by omega⟩
  obtain ⟨d', rfl⟩ : ∃ k' : Nat, d = k' := ⟨d.toNat, by omega⟩
  rw [Int.natAbs_natCast, Int.natAbs_natCast]
  rcases (by omega : 0 < m ∨ m < 0) with hm' | hm'
  · obtain ⟨m', rfl⟩ : ∃ k' : Nat, m = k' := ⟨m.toNat, by omega⟩
    rw [Int.natAbs_natCast, ← Int.natCast_mul d' m', Rat.divInt_ofNat]
    congr 1
    rw [show decide ((m' : Int) < 0) = false from decide_eq_false (by omega), Bool.bne_false, sgn_mul, sgn_neg]
  · obtain ⟨m', rfl⟩ : ∃ k' : Nat, m = -(k' : Int) := ⟨m.natAbs, by omega⟩
    rw [Int.natAbs_neg, Int.natAbs_natCast, Int.mul_neg, Rat.divInt_neg', ← Int.natCast_mul d' m', Rat.divInt_ofNat]
    congr 1
    rw [show decide (-(m' : Int) < 0) = true from decide_eq_true (by omega), sgn_mul]
    unfold sgn
    by_cases hn : n < 0
    · simp [hn]; rw [← Int.neg_mul]; congr 1; omega
    · simp [hn]; rw [← Int.neg_mul]; congr 1; omega
theorem neg_val {n d : Int} (h : rightB n d = true) : packP (decide (0 < n)) n.natAbs d.natAbs = outF (-toR n d) := by
  have hd := right_pos h
  rw [pack_out _ _ _ (by omega) (right_gcd h), sgn_pos]
  unfold toR
  rw [Rat.neg_mkRat, toNat_abs hd]
/-- The products across. -/
theorem cmp_val {n d m k : Int} (h : rightB n d = true) (g : rightB m k = true) : cmpR (toR n d) (toR m k) = if n * k < m * d then -1 else if n * k = m * d then 0 else 1 := by
  unfold cmpR
  have e1 : toR n d < toR m k ↔ n * k < m * d := by rw [Rat.lt_iff, toR_num h, toR_num g, toR_den h, toR_den g]
  have e2 : toR n d = toR m k ↔ n * k = m * d := by rw [Rat.eq_iff_mul_eq_mul, toR_num h, toR_num g, toR_den h, toR_den g]
  simp only [e1, e2]
/-- A zero that is right. -/
theorem right_zero {k : Int} (g : rightB 0 k = true) : k = 1 := by
  have h1 := right_pos g
  have h2 := right_gcd g
  simp at h2
  omega
end Go.Proofs.YtfhkgpipbegpgaaGreatDoor
