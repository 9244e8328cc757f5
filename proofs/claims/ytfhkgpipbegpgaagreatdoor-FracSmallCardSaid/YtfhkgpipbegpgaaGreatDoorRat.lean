/- Fractions in lowest terms as rational numbers: what pack, times and add compute. Plain Lean, no program. -/
import Init
namespace Go.Proofs.YtfhkgpipbegpgaaGreatDoor

/-- Is it in lowest terms, with a denominator above 0? -/
def rightB (n d : Int) : Bool := decide (0 < d) && Nat.gcd n.natAbs d.natAbs == 1
def fits (x : Rat) : Bool := decide (-9223372036854775808 ≤ x.num) && decide (x.num ≤ 9223372036854775807) && decide (x.den ≤ 9223372036854775807)
/-- What is returned for a rational number: itself, or 'too long'. -/
def outF (x : Rat) : Int × Int × Int := if fits x then (x.num, (x.den : Int), 0) else (0, 0, 3)
/-- A number with a sign. -/
def sgn (minus : Bool) (N : Nat) : Int := if minus then -(N : Int) else N
def packP (minus : Bool) (N D : Nat) : Int × Int × Int :=
  if N ≤ 9223372036854775807 + (if minus then 1 else 0) ∧ D ≤ 9223372036854775807 then (sgn minus N, D, 0) else (0, 0, 3)
def toR (n d : Int) : Rat := mkRat n d.toNat

theorem natAbs_sgn (minus : Bool) (N : Nat) : (sgn minus N).natAbs = N := by unfold sgn; split <;> omega
theorem num_of {n : Int} {d : Nat} (hd : d ≠ 0) (h : Nat.gcd n.natAbs d = 1) : (mkRat n d).num = n := by
  rw [Rat.num_mkRat, if_neg hd, Nat.gcd_comm, h]; simp
theorem den_of {n : Int} {d : Nat} (hd : d ≠ 0) (h : Nat.gcd n.natAbs d = 1) : (mkRat n d).den = d := by
  rw [Rat.den_mkRat, if_neg hd, Nat.gcd_comm, h]; simp
theorem pack_out (minus : Bool) (N D : Nat) (hD : D ≠ 0) (hc : Nat.gcd N D = 1) : packP minus N D = outF (mkRat (sgn minus N) D) := by
  have h := natAbs_sgn minus N
  have h1 := num_of hD (h.symm ▸ hc : Nat.gcd (sgn minus N).natAbs D = 1)
  have h2 := den_of hD (h.symm ▸ hc : Nat.gcd (sgn minus N).natAbs D = 1)
  unfold packP outF fits
  rw [h1, h2]
  simp only [Bool.and_eq_true, decide_eq_true_eq]
  cases minus <;> unfold sgn <;> simp only [if_true, if_false, Bool.false_eq_true]
  · by_cases hx : N ≤ 9223372036854775807 + 0 ∧ D ≤ 9223372036854775807
    · rw [if_pos hx, if_pos (by omega)]
    · rw [if_neg hx, if_neg (by omega)]
  · by_cases hx : N ≤ 9223372036854775807 + 1 ∧ D ≤ 9223372036854775807
    · rw [if_pos hx, if_pos (by omega)]
    · rw [if_neg hx, if_neg (by omega)]
theorem sgn_mul (minus : Bool) (N g : Nat) : sgn minus (N * g) = sgn minus N * g := by
  cases minus <;> simp [sgn, Int.neg_mul]
/-- Divided by the greatest common divisor. -/
theorem red_out (minus : Bool) (P Q : Nat) (hQ : Q ≠ 0) : packP minus (P / Nat.gcd P Q) (Q / Nat.gcd P Q) = outF (mkRat (sgn minus P) Q) := by
  have hg : 0 < Nat.gcd P Q := Nat.gcd_pos_of_pos_right _ (Nat.pos_of_ne_zero hQ)
  rw [pack_out _ _ _ (by
    have := Nat.div_pos (Nat.gcd_le_right P (Nat.pos_of_ne_zero hQ)) hg
    omega) (Nat.coprime_div_gcd_div_gcd hg)]
  rw [← Rat.mkRat_mul_right (a := Nat.gcd P Q) (by omega : Nat.gcd P Q ≠ 0), ← sgn_mul, Nat.div_mul_cancel (Nat.gcd_dvd_left _ _), Nat.div_mul_cancel (Nat.gcd_dvd_right _ _)]

def makeP (a b : Int) : Int × Int × Int :=
  if b = 0 then (0, 0, 2) else packP (decide (a < 0) != decide (b < 0)) (a.natAbs / Nat.gcd a.natAbs b.natAbs) (b.natAbs / Nat.gcd a.natAbs b.natAbs)
theorem make_out (a b : Int) (hb : b ≠ 0) : makeP a b = outF (Rat.divInt a b) := by
  unfold makeP
  rw [if_neg hb, red_out _ _ _ (by omega)]
  congr 1
  rcases (by omega : 0 < b ∨ b < 0) with h | h
  · obtain ⟨d, rfl⟩ : ∃ d : Nat, b = d := ⟨b.toNat, by omega⟩
    rw [Rat.divInt_ofNat]
    congr 1
    have hd : decide ((d : Int) < 0) = false := decide_eq_false (by omega)
    unfold sgn
    rw [hd]
    by_cases ha : a < 0
    · simp [ha]; omega
    · simp [ha]; omega
  · obtain ⟨d, rfl⟩ : ∃ d : Nat, b = -(d : Int) := ⟨b.natAbs, by omega⟩
    rw [Rat.divInt_neg', Rat.divInt_ofNat]
    have hd : decide (-(d : Int) < 0) = true := decide_eq_true (by omega)
    unfold sgn
    rw [hd]
    congr 1
    · by_cases ha : a < 0
      · simp [ha]; omega
      · simp [ha]; omega
    · omega

/-- What times returns. -/
def timesP (minus : Bool) (a b c d : Nat) : Int × Int × Int :=
  packP minus (a / Nat.gcd a d * (c / Nat.gcd c b)) (b / Nat.gcd c b * (d / Nat.gcd a d))
theorem times_out (minus : Bool) (a b c d : Nat) (hb : b ≠ 0) (hd : d ≠ 0) (h1 : Nat.gcd a b = 1) (h2 : Nat.gcd c d = 1) :
    timesP minus a b c d = outF (mkRat (sgn minus (a * c)) (b * d)) := by
  unfold timesP
  have hg : 0 < Nat.gcd a d := Nat.gcd_pos_of_pos_right _ (Nat.pos_of_ne_zero hd)
  have hh : 0 < Nat.gcd c b := Nat.gcd_pos_of_pos_right _ (Nat.pos_of_ne_zero hb)
  obtain ⟨a', ha⟩ : ∃ x, a = x * Nat.gcd a d := ⟨_, (Nat.div_mul_cancel (Nat.gcd_dvd_left a d)).symm⟩
  obtain ⟨d', hd'⟩ : ∃ x, d = x * Nat.gcd a d := ⟨_, (Nat.div_mul_cancel (Nat.gcd_dvd_right a d)).symm⟩
  obtain ⟨c', hc⟩ : ∃ x, c = x * Nat.gcd c b := ⟨_, (Nat.div_mul_cancel (Nat.gcd_dvd_left c b)).symm⟩
  obtain ⟨b', hb'⟩ : ∃ x, b = x * Nat.gcd c b := ⟨_, (Nat.div_mul_cancel (Nat.gcd_dvd_right c b)).symm⟩
  have e1 : a / Nat.gcd a d = a' := Nat.div_eq_of_eq_mul_left hg ha
  have e2 : d / Nat.gcd a d = d' := Nat.div_eq_of_eq_mul_left hg hd'
  have e3 : c / Nat.gcd c b = c' := Nat.div_eq_of_eq_mul_left hh hc
  have e4 : b / Nat.gcd c b = b' := Nat.div_eq_of_eq_mul_left hh hb'
  have k1 : Nat.Coprime a' d' := e1 ▸ e2 ▸ Nat.coprime_div_gcd_div_gcd hg
  have k2 : Nat.Coprime c' b' := e3 ▸ e4 ▸ Nat.coprime_div_gcd_div_gcd hh
  have k3 : Nat.Coprime a' b' := Nat.Coprime.coprime_dvd_left ⟨_, ha⟩ (Nat.Coprime.coprime_dvd_right ⟨_, hb'⟩ h1)
  have k4 : Nat.Coprime c' d' := Nat.Coprime.coprime_dvd_left ⟨_, hc⟩ (Nat.Coprime.coprime_dvd_right ⟨_, hd'⟩ h2)
  rw [e1, e2, e3, e4]
  have hb0 : b' ≠ 0 := fun h => hb (by rw [hb', h]; simp)
  have hd0 : d' ≠ 0 := fun h => hd (by rw [hd', h]; simp)
  rw [pack_out _ _ _ (Nat.mul_ne_zero hb0 hd0) (Nat.Coprime.mul_left (Nat.Coprime.mul_right k3 k1) (Nat.Coprime.mul_right k2 k4))]
  rw [← Rat.mkRat_mul_right (a := Nat.gcd a d * Nat.gcd c b) (Nat.mul_ne_zero (by omega) (by omega)), ← sgn_mul]
  congr 2
  · congr 1
    calc a' * c' * (Nat.gcd a d * Nat.gcd c b) = (a' * Nat.gcd a d) * (c' * Nat.gcd c b) := by ac_rfl
      _ = a * c := by rw [← ha, ← hc]
  · calc b' * d' * (Nat.gcd a d * Nat.gcd c b) = (b' * Nat.gcd c b) * (d' * Nat.gcd a d) := by ac_rfl
      _ = b * d := by rw [← hb', ← hd']

/-- The sum of two numbers with signs: its sign and how far it is from 0. -/
def sumP (s t : Bool) (a b : Nat) : Bool × Nat := if s = t then (s, a + b) else if b ≤ a then (s, a - b) else (t, b - a)
theorem sum_val (s t : Bool) (a b : Nat) : sgn (sumP s t a b).1 (sumP s t a b).2 = sgn s a + sgn t b := by
  unfold sumP sgn
  by_cases h : b ≤ a <;> cases s <;> cases t <;> simp [h] <;> omega
/-- What add returns, for denominators D and K. -/
def addP (s t : Bool) (N D M K : Nat) : Int × Int × Int :=
  let q := sumP s t (N * (K / Nat.gcd D K)) (M * (D / Nat.gcd D K))
  let g := Nat.gcd (Nat.gcd D K) (q.2 % Nat.gcd D K)
  packP q.1 (q.2 / g) (D / Nat.gcd D K * (K / g))
theorem add_out (s t : Bool) (N D M K : Nat) (hD : D ≠ 0) (hK : K ≠ 0) (h1 : Nat.gcd N D = 1) (h2 : Nat.gcd M K = 1) :
    addP s t N D M K = outF (mkRat (sgn s N * K + sgn t M * D) (D * K)) := by
  unfold addP
  obtain ⟨c, hc⟩ : ∃ c, c = Nat.gcd D K := ⟨_, rfl⟩
  have hcp : 0 < c := hc ▸ Nat.gcd_pos_of_pos_right _ (Nat.pos_of_ne_zero hK)
  obtain ⟨D', hD'⟩ : ∃ x, D = x * c := ⟨_, (Nat.div_mul_cancel (hc ▸ Nat.gcd_dvd_left D K)).symm⟩
  obtain ⟨K', hK'⟩ : ∃ x, K = x * c := ⟨_, (Nat.div_mul_cancel (hc ▸ Nat.gcd_dvd_right D K)).symm⟩
  have e1 : D / c = D' := Nat.div_eq_of_eq_mul_left hcp hD'
  have e2 : K / c = K' := Nat.div_eq_of_eq_mul_left hcp hK'
  have k0 : Nat.Coprime D' K' := by
    have := Nat.coprime_div_gcd_div_gcd (m := D) (n := K) (hc ▸ hcp)
    rwa [← hc, e1, e2] at this
  simp only [← hc, e1, e2]
  have n1 : Nat.gcd N D' = 1 := Nat.Coprime.coprime_dvd_right (k := N) ⟨_, hD'⟩ h1
  have n2 : Nat.gcd M K' = 1 := Nat.Coprime.coprime_dvd_right (k := M) ⟨_, hK'⟩ h2
  have hv := sum_val s t (N * K') (M * D')
  have p1 : Nat.gcd (sumP s t (N * K') (M * D')).2 D' = 1 := by
    have base : Nat.gcd (N * K') D' = 1 := Nat.Coprime.mul_left n1 k0.symm
    unfold sumP
    split
    · simpa using base
    · split
      · rename_i hle; simp only; rw [Nat.gcd_sub_mul_right_left hle]; exact base
      · rename_i hle; simp only; rw [Nat.gcd_mul_right_sub_left (by omega)]; exact base
  have p2 : Nat.gcd (sumP s t (N * K') (M * D')).2 K' = 1 := by
    have base : Nat.gcd (M * D') K' = 1 := Nat.Coprime.mul_left n2 k0
    unfold sumP
    split
    · simpa using base
    · split
      · rename_i hle; simp only; rw [Nat.gcd_mul_right_sub_left hle]; exact base
      · rename_i hle; simp only; rw [Nat.gcd_sub_mul_right_left (by omega)]; exact base
  obtain ⟨q, hq⟩ : ∃ q, q = sumP s t (N * K') (M * D') := ⟨_, rfl⟩
  rw [← hq] at hv p1 p2 ⊢
  have hg : Nat.gcd c (q.2 % c) = Nat.gcd q.2 c := by rw [Nat.gcd_comm, Nat.gcd_comm q.2 c, ← Nat.gcd_rec]
  rw [hg]
  obtain ⟨e, he⟩ : ∃ x, c = x * Nat.gcd q.2 c := ⟨_, (Nat.div_mul_cancel (Nat.gcd_dvd_right q.2 c)).symm⟩
  have hgp : 0 < Nat.gcd q.2 c := Nat.gcd_pos_of_pos_right _ hcp
  have G : Nat.gcd q.2 (c * (D' * K')) = Nat.gcd q.2 c := Nat.Coprime.gcd_mul_right_cancel_right _ (Nat.Coprime.mul_left (Nat.Coprime.symm p1) (Nat.Coprime.symm p2))
  have Q0 : c * (D' * K') ≠ 0 := by
    refine Nat.mul_ne_zero (by omega) (Nat.mul_ne_zero ?_ ?_)
    · intro h; exact hD (by rw [hD', h]; simp)
    · intro h; exact hK (by rw [hK', h]; simp)
  have R := red_out q.1 q.2 _ Q0
  rw [G] at R
  have m1 : c * (D' * K') / Nat.gcd q.2 c = e * (D' * K') := by
    refine Nat.div_eq_of_eq_mul_left hgp ?_
    calc c * (D' * K') = (e * Nat.gcd q.2 c) * (D' * K') := by rw [← he]
      _ = e * (D' * K') * Nat.gcd q.2 c := by ac_rfl
  have m2 : K / Nat.gcd q.2 c = e * K' := by
    refine Nat.div_eq_of_eq_mul_left hgp ?_
    calc K = K' * c := hK'
      _ = K' * (e * Nat.gcd q.2 c) := by rw [← he]
      _ = e * K' * Nat.gcd q.2 c := by ac_rfl
  rw [m1, hv] at R
  rw [m2, show D' * (e * K') = e * (D' * K') by ac_rfl, R]
  congr 1
  rw [← Rat.mkRat_mul_left (a := c) (by omega : c ≠ 0)]
  congr 1
  · rw [sgn_mul, sgn_mul, hK', hD']
    simp only [Int.natCast_mul, Int.mul_add]
    congr 1 <;> ac_rfl
  · rw [hD', hK']; ac_rfl

/-- The fraction as a rational number. -/
theorem toR_num {n d : Int} (h : rightB n d = true) : (toR n d).num = n := by
  unfold rightB at h
  simp only [Bool.and_eq_true, decide_eq_true_eq, beq_iff_eq] at h
  exact num_of (by omega) (by rw [show d.toNat = d.natAbs by omega]; exact h.2)
theorem toR_den {n d : Int} (h : rightB n d = true) : ((toR n d).den : Int) = d := by
  unfold rightB at h
  simp only [Bool.and_eq_true, decide_eq_true_eq, beq_iff_eq] at h
  unfold toR
  rw [den_of (by omega) (by rw [show d.toNat = d.natAbs by omega]; exact h.2)]
  omega
theorem right_R (x : Rat) : rightB x.num x.den = true := by
  unfold rightB
  simp only [Bool.and_eq_true, decide_eq_true_eq, beq_iff_eq]
  exact ⟨by have := x.den_pos; omega, by simpa using x.reduced⟩
theorem toR_R (x : Rat) : toR x.num x.den = x := by
  unfold toR; rw [Int.toNat_natCast]; exact Rat.mkRat_self x
end Go.Proofs.YtfhkgpipbegpgaaGreatDoor
