/- Plain: what Near and Round return is next to the fraction; their texts are read as they were. -/
import Derived.Test.YtfhkgpipbegpgaaGreatDoorBackP
namespace Go.Proofs.YtfhkgpipbegpgaaGreatDoor
open Go

theorem near_two (N D : Nat) (hD : 0 < D) : 2 * N ≤ 2 * (nearN N D * D) + D ∧ 2 * (nearN N D * D) ≤ 2 * N + D ∧ 2 * (nearN N D * D) + D ≠ 2 * N := by
  unfold nearN
  have h1 := Nat.div_add_mod N D
  have h2 := Nat.mod_lt N hD
  rw [Nat.mul_comm] at h1
  split
  · rw [Nat.add_mul]; omega
  · rw [Nat.add_mul]; omega
/-- The number is next to the fraction; equally near, away from 0. -/
theorem near_diff (n d : Int) (hd : 0 < d) (e : Int) (he : e = 2 * (nearP n d * d - n)) :
    e ≤ d ∧ -d ≤ e ∧ (e = d → 0 < nearP n d) ∧ (e = -d → ¬ 0 < nearP n d) := by
  subst he
  obtain ⟨D, rfl⟩ : ∃ D : Nat, d = D := ⟨d.toNat, by omega⟩
  have hD : 0 < D := by omega
  have h := near_two n.natAbs D hD
  have hq : ∀ q : Nat, nearN n.natAbs D = q → ((q * D : Nat) : Int) = (q : Int) * D := fun q _ => by simp
  unfold nearP
  rw [Int.natAbs_natCast]
  obtain ⟨q, hq⟩ : ∃ q, nearN n.natAbs D = q := ⟨_, rfl⟩
  rw [hq] at h ⊢
  obtain ⟨r, hr⟩ : ∃ r, q * D = r := ⟨_, rfl⟩
  have hr' : (q : Int) * D = r := by rw [← hr]; simp
  have hz : q = 0 → r = 0 := fun h => by rw [← hr, h]; simp
  rw [hr] at h
  split
  · rw [Int.neg_mul, hr']
    refine ⟨by omega, by omega, fun _ => by omega, fun _ => by omega⟩
  · rw [hr']
    refine ⟨by omega, by omega, fun _ => by omega, fun _ => by omega⟩
theorem parse_rep (c a : Nat) : ∀ (r : List UInt8), a * 10 ^ c < 18446744073709551616 → Lib.parseUint10 a (List.replicate c 48 ++ r) = Lib.parseUint10 (a * 10 ^ c) r := by
  induction c generalizing a with
  | zero => intro r _; simp
  | succ c ih =>
    intro r h
    have e : a * 10 ^ (c + 1) = a * 10 * 10 ^ c := by rw [Nat.pow_succ, Nat.mul_comm (10 ^ c), Nat.mul_assoc]
    have hp : 0 < 10 ^ c := Nat.pow_pos (by omega)
    have ha : a * 10 ≤ a * 10 * 10 ^ c := Nat.le_mul_of_pos_right _ hp
    rw [List.replicate_succ, List.cons_append, Lib.parseUint10, show (48 : UInt8).toNat = 48 from rfl, if_pos (by omega), if_neg (by omega), if_neg (by omega)]
    rw [show a * 10 + (48 - 48) = a * 10 by omega, ih (a * 10) r (by omega), e]
theorem parse_more (u : Nat) : ∀ (a : Nat) (r : List UInt8), a * 10 ^ Lib.nDigits u + u < 18446744073709551616 → Lib.parseUint10 a (Lib.decDigits u ++ r) = Lib.parseUint10 (a * 10 ^ Lib.nDigits u + u) r := by
  induction u using Nat.strongRecOn with
  | ind u ih =>
    intro a r hu
    have hl := Lib.decDigits_length u
    rw [Lib.decDigits]
    rw [Lib.decDigits] at hl
    by_cases h : u < 10
    · rw [dif_pos h] at hl ⊢
      have hn : Lib.nDigits u = 1 := by simpa using hl.symm
      rw [hn] at hu ⊢
      rw [List.singleton_append, Lib.parseUint10, dig_nat h, if_pos (by omega), if_neg (by omega), if_neg (by omega)]
      congr 1; omega
    · rw [dif_neg h] at hl ⊢
      have hn : Lib.nDigits u = Lib.nDigits (u / 10) + 1 := by
        rw [List.length_append, Lib.decDigits_length] at hl; simpa using hl.symm
      obtain ⟨k, hk⟩ : ∃ k, Lib.nDigits (u / 10) = k := ⟨_, rfl⟩
      have e : a * 10 ^ (k + 1) = 10 * (a * 10 ^ k) := by rw [Nat.pow_succ]; ac_rfl
      rw [hn, hk, e] at hu
      rw [List.append_assoc, ih (u / 10) (by omega) a _ (by rw [hk]; omega), hk, hn, hk, e]
      rw [List.singleton_append, Lib.parseUint10, dig_nat (by omega), if_pos (by omega), if_neg (by omega), if_neg (by omega)]
      congr 1; omega
/-- So many digits. -/
def padD (k b : Nat) : List UInt8 := List.replicate (k - (Lib.decDigits b).length) 48 ++ Lib.decDigits b
theorem ndig_le {k b : Nat} (hk : 0 < k) (h : b < p10 k) : Lib.nDigits b ≤ k := nDigits_le k b (by rw [p10_eq] at h; exact h) hk
theorem padD_len {k b : Nat} (hk : 0 < k) (h : b < p10 k) : (padD k b).length = k := by
  have := ndig_le hk h
  unfold padD
  rw [List.length_append, List.length_replicate, Lib.decDigits_length]; omega
theorem parse_pad {k b a : Nat} (hk : 0 < k) (h : b < p10 k) (hs : a * p10 k + b < 18446744073709551616) : Lib.parseUint10 a (padD k b) = .ok (a * p10 k + b) := by
  have hn := ndig_le hk h
  unfold padD
  rw [Lib.decDigits_length]
  have e : a * 10 ^ (k - Lib.nDigits b) * 10 ^ Lib.nDigits b = a * p10 k := by
    rw [p10_eq, Nat.mul_assoc, ← Nat.pow_add]
    congr 2; omega
  have h1 : a * 10 ^ (k - Lib.nDigits b) ≤ a * p10 k := by rw [← e]; exact Nat.le_mul_of_pos_right _ (Nat.pow_pos (by omega))
  rw [parse_rep _ _ _ (by omega)]
  have := parse_more b (a * 10 ^ (k - Lib.nDigits b)) [] (by rw [e]; omega)
  rw [List.append_nil, e] at this
  exact this
/-- The digits behind the point. -/
def partD (k b : Nat) : List UInt8 := if k = 0 then [] else padD k b
theorem partD_len {k b : Nat} (h : b < p10 k) : (partD k b).length = k := by
  unfold partD
  split
  · simp; omega
  · exact padD_len (by omega) h
theorem mag_all {k a b : Nat} (h : b < p10 k) (hs : a * p10 k + b < 18446744073709551616) : Lib.parseMag (Lib.decDigits a ++ partD k b) = .ok (a * p10 k + b) := by
  have hp := p10_pos k
  have ha : a ≤ a * p10 k := Nat.le_mul_of_pos_right _ hp
  unfold Lib.parseMag
  rw [if_neg (by have := dec_ne a; simp [this]), parse_dec a _ (by omega)]
  unfold partD
  split
  · rename_i hk
    subst hk
    rw [p10_zero] at *
    rw [Lib.parseUint10]
    congr 1; omega
  · exact parse_pad (by omega) h hs
/-- Digits before the point and behind it are read as one number. -/
theorem atoi_all {k a b : Nat} (h : b < p10 k) (hs : a * p10 k + b ≤ 9223372036854775807) : Lib.atoiAll (Lib.decDigits a ++ partD k b) = .ok ((a * p10 k + b : Nat) : Int) := by
  have hm := mag_all h (by omega : a * p10 k + b < 18446744073709551616)
  rcases hd : Lib.decDigits a with _ | ⟨c, r⟩
  · exact absurd hd (dec_ne _)
  · have hc := dec_digit a c (by rw [hd]; exact List.mem_cons_self ..)
    rw [hd, List.cons_append] at hm
    rw [List.cons_append]
    unfold Lib.atoiAll
    simp only
    rw [if_neg (by omega), hm]
    simp only
    rw [if_neg (by rintro ⟨_, h⟩; omega), if_neg (by rintro ⟨h, _⟩; omega), if_neg (by omega)]
/-- What Round writes, in its parts. -/
def bodyL (k T : Nat) : List UInt8 := Lib.decDigits (T / p10 k) ++ if k = 0 then [] else 46 :: padD k (T % p10 k)
theorem round_body (neg : Bool) (k T : Nat) : roundL neg k T = (if neg = true ∧ 0 < T then [45] else []) ++ bodyL k T := rfl
theorem idx46 : ∀ (a b : List UInt8), (46 : UInt8) ∉ a → Lib.index (a ++ 46 :: b) [46] = a.length
  | [], b, _ => by simp [Lib.index]
  | c :: a, b, h => by
    have hc : (46 : UInt8) ≠ c := fun e => h (by rw [e]; exact List.mem_cons_self ..)
    have ha : (46 : UInt8) ∉ a := fun e => h (List.mem_cons_of_mem _ e)
    rw [List.cons_append, Lib.index, idx46 a b ha]
    rw [if_neg (by simp [List.isPrefixOf, hc]), if_neg (by simp)]
    simp
theorem idx46_miss : ∀ (a : List UInt8), (46 : UInt8) ∉ a → Lib.index a [46] = -1
  | [], _ => by simp [Lib.index]
  | c :: a, h => by
    have hc : (46 : UInt8) ≠ c := fun e => h (by rw [e]; exact List.mem_cons_self ..)
    have ha : (46 : UInt8) ∉ a := fun e => h (List.mem_cons_of_mem _ e)
    rw [Lib.index, idx46_miss a ha]
    rw [if_neg (by simp [List.isPrefixOf, hc]), if_pos (by simp)]
theorem dec_free (c : UInt8) (hc : ¬ (48 ≤ c.toNat ∧ c.toNat ≤ 57)) (u : Nat) : c ∉ Lib.decDigits u := fun h => hc (dec_digit u c h)
theorem cut_body (k T : Nat) : Lib.cut (bodyL k T) [46] = (Lib.decDigits (T / p10 k), partD k (T % p10 k), decide (0 < k)) := by
  have hf := dec_free 46 (by decide) (T / p10 k)
  unfold bodyL partD
  by_cases hk : k = 0
  · rw [if_pos hk, if_pos hk, List.append_nil]
    unfold Lib.cut
    rw [idx46_miss _ hf, if_neg (by omega), decide_eq_false (by omega)]
  · rw [if_neg hk, if_neg hk]
    unfold Lib.cut
    rw [idx46 _ _ hf, if_pos (by omega), decide_eq_true (by omega)]
    simp
theorem near_zero (N D : Nat) : roundT N D 0 = nearN N D := by
  unfold roundT; rw [p10_zero, Nat.mul_one]
/-- Round of 0 places is Near. -/
theorem zero_is (n d : Int) : roundL (decide (n < 0)) 0 (roundT n.natAbs d.natAbs 0) = Lib.itoa (nearP n d) := by
  rw [near_zero, round_body]
  unfold bodyL nearP Lib.itoa
  rw [if_pos rfl, List.append_nil, p10_zero, Nat.div_one]
  obtain ⟨q, hq⟩ : ∃ q, nearN n.natAbs d.natAbs = q := ⟨_, rfl⟩
  rw [hq]
  by_cases hn : n < 0
  · rw [if_pos hn, decide_eq_true hn]
    by_cases h0 : 0 < q
    · rw [if_pos ⟨rfl, h0⟩, if_pos (by omega)]
      simp
    · rw [if_neg (fun h => h0 h.2), if_neg (by omega), show q = 0 by omega]
      simp
  · rw [if_neg hn, decide_eq_false hn, if_neg (fun h => Bool.noConfusion h.1), if_neg (by omega)]
    simp
/-- A decimal number of so many places is written as it is. -/
theorem again_is (x : Rat) (T : Int) (k : Nat) (hx : x = Rat.divInt T (p10 k)) : roundT x.num.natAbs x.den k = T.natAbs := by
  have hp := p10_pos k
  have h1 : x.num * (p10 k : Int) = T * (x.den : Nat) := by
    have h : Rat.divInt x.num x.den = Rat.divInt T (p10 k) := by rw [Rat.num_divInt_den]; exact hx
    exact (Rat.divInt_eq_divInt_iff (by have := x.den_nz; omega) (by omega)).1 h
  have h2 : x.num.natAbs * p10 k = T.natAbs * x.den := by
    have := congrArg Int.natAbs h1
    rw [Int.natAbs_mul, Int.natAbs_mul, Int.natAbs_natCast, Int.natAbs_natCast] at this
    exact this
  unfold roundT nearN
  rw [h2, Nat.mul_div_cancel _ x.den_pos, Nat.mul_mod_left, if_neg (by have := x.den_pos; omega)]
  omega
theorem again_neg (x : Rat) (T : Int) (k : Nat) (hx : x = Rat.divInt T (p10 k)) : x.num < 0 ↔ T < 0 := by
  have hp := p10_pos k
  have h1 : x.num * (p10 k : Int) = T * (x.den : Nat) := by
    have h : Rat.divInt x.num x.den = Rat.divInt T (p10 k) := by rw [Rat.num_divInt_den]; exact hx
    exact (Rat.divInt_eq_divInt_iff (by have := x.den_nz; omega) (by omega)).1 h
  have hd : (0 : Int) < x.den := by have := x.den_pos; omega
  have hq : (0 : Int) < p10 k := by omega
  constructor
  · intro h
    have : x.num * (p10 k : Int) < 0 := Int.mul_neg_of_neg_of_pos h hq
    rw [h1] at this
    exact Int.neg_of_mul_neg_left this (by omega)
  · intro h
    have : T * (x.den : Int) < 0 := Int.mul_neg_of_neg_of_pos h hd
    rw [← h1] at this
    exact Int.neg_of_mul_neg_left this (by omega)
/-- How far it is from 0. -/
def absR (a : Rat) : Rat := if a.num < 0 then -a else a
theorem half_le (m : Int) (p q : Nat) (hp : 0 < p) (hq : 0 < q) (h : 2 * m ≤ q) : Rat.divInt m (p * q) ≤ Rat.divInt 1 (2 * p) := by
  have hp' : (0 : Int) < p := by omega
  have hq' : (0 : Int) < q := by omega
  have h1 : (0 : Int) < p * q := Int.mul_pos hp' hq'
  rw [Rat.le_iff_sub_nonneg, Rat.divInt_sub_divInt _ _ (by omega) (by omega)]
  rw [Rat.divInt_nonneg_iff_of_pos_right (Int.mul_pos (by omega) h1)]
  have : (1 : Int) * (p * q) - m * (2 * p) = p * (q - 2 * m) := by grind
  rw [this]
  exact Int.mul_nonneg (by omega) (by omega)
theorem near_far (x : Rat) (k T : Nat) (T' : Int) (hT : T = roundT x.num.natAbs x.den k) (hT' : T' = if x.num < 0 then -(T : Int) else T) :
    ∃ m : Int, Rat.divInt T' (p10 k) - x = Rat.divInt m (p10 k * x.den) ∧ 2 * m ≤ x.den ∧ -(x.den : Int) ≤ 2 * m := by
  have hp := p10_pos k
  have hd := x.den_pos
  have hn := near_two (x.num.natAbs * p10 k) x.den hd
  have hT2 : nearN (x.num.natAbs * p10 k) x.den = T := hT.symm
  rw [hT2] at hn
  refine ⟨T' * x.den - x.num * p10 k, ?_, ?_⟩
  · have := Rat.divInt_sub_divInt T' x.num (d₁ := p10 k) (d₂ := x.den) (by omega) (by omega)
    rw [Rat.num_divInt_den] at this
    exact this
  · obtain ⟨r, hr⟩ : ∃ r, T * x.den = r := ⟨_, rfl⟩
    obtain ⟨s, hs⟩ : ∃ s, x.num.natAbs * p10 k = s := ⟨_, rfl⟩
    have hr' : (T : Int) * x.den = r := by rw [← hr]; simp
    rw [hr, hs] at hn
    subst hT'
    split
    · have : x.num * (p10 k : Int) = -(s : Int) := by
        have e : x.num = -(x.num.natAbs : Int) := by omega
        rw [e, Int.neg_mul, ← hs]; simp
      rw [Int.neg_mul, hr', this]
      omega
    · have : x.num * (p10 k : Int) = (s : Int) := by
        have e : x.num = (x.num.natAbs : Int) := by omega
        rw [e, ← hs]; simp
      rw [hr', this]
      omega
/-- What is written differs by half a unit at most. -/
theorem half_cmp (x : Rat) (k T : Nat) (T' : Int) (hT : T = roundT x.num.natAbs x.den k) (hT' : T' = if x.num < 0 then -(T : Int) else T) :
    cmpR (absR (Rat.divInt T' (p10 k) - x)) (Rat.divInt 1 (2 * p10 k)) ≤ 0 := by
  obtain ⟨m, h1, h2, h3⟩ := near_far x k T T' hT hT'
  have hle : absR (Rat.divInt T' (p10 k) - x) ≤ Rat.divInt 1 (2 * p10 k) := by
    unfold absR
    rw [h1]
    split
    · rw [Rat.neg_divInt]; exact half_le _ _ _ (p10_pos k) x.den_pos (by omega)
    · exact half_le _ _ _ (p10_pos k) x.den_pos h2
  unfold cmpR
  split
  · omega
  · split
    · omega
    · rename_i a b
      exact absurd (Rat.le_antisymm hle (Rat.not_lt.1 a)) b
theorem abs_num (a : Rat) : (absR a).num = if a.num < 0 then -a.num else a.num := by
  unfold absR; split <;> simp_all
theorem abs_den (a : Rat) : (absR a).den = a.den := by
  unfold absR; split <;> simp
theorem round_le (N D k : Nat) (hD : 0 < D) (hN : N ≤ 8388608) (hk : k ≤ 9) : roundT N D k ≤ 8388608000000000 := by
  have h1 := nearN_le (N * p10 k) D hD
  have h2 := p10_le k hk
  have h3 : N * p10 k ≤ 8388608 * 1000000000 := Nat.mul_le_mul hN h2
  unfold roundT
  omega
theorem far_fits (x : Rat) (k T : Nat) (T' : Int) (hT : T = roundT x.num.natAbs x.den k) (hT' : T' = if x.num < 0 then -(T : Int) else T) (hk : k ≤ 9) (hd : x.den ≤ 32768) :
    fits (Rat.divInt T' (p10 k) - x) = true ∧ fits (absR (Rat.divInt T' (p10 k) - x)) = true := by
  obtain ⟨m, h1, h2, h3⟩ := near_far x k T T' hT hT'
  have hp := p10_pos k
  have hp2 := p10_le k hk
  have hx := x.den_pos
  have hb : Bd (Rat.divInt m (p10 k * x.den)) 32768 32768000000000 := by
    rw [show ((p10 k : Int) * (x.den : Int)) = ((p10 k * x.den : Nat) : Int) by simp]
    have hm : p10 k * x.den ≤ 1000000000 * 32768 := Nat.mul_le_mul hp2 hd
    have hm0 : 0 < p10 k * x.den := Nat.mul_pos hp hx
    exact Bd.divInt (by omega) (by omega) (by omega)
  rw [h1]
  refine ⟨hb.fits (by decide) (by decide), ?_⟩
  unfold absR
  split
  · exact hb.neg.fits (by decide) (by decide)
  · exact hb.fits (by decide) (by decide)
theorem got_fits (x : Rat) (k T : Nat) (T' : Int) (hT : T = roundT x.num.natAbs x.den k) (hT' : T' = if x.num < 0 then -(T : Int) else T) (hk : k ≤ 9) (hn : x.num.natAbs ≤ 8388608) :
    fits (Rat.divInt T' (p10 k)) = true := by
  have hp := p10_pos k
  have hp2 := p10_le k hk
  have h := round_le x.num.natAbs x.den k x.den_pos hn hk
  have hb : Bd (Rat.divInt T' (p10 k)) 8388608000000000 1000000000 := Bd.divInt (by omega) (by rw [hT']; split <;> omega) (by omega)
  exact hb.fits (by decide) (by decide)
theorem half_fits (k : Nat) (hk : k ≤ 9) : fits (Rat.divInt 1 (2 * p10 k)) = true := by
  have hp := p10_pos k
  have hp2 := p10_le k hk
  have hb : Bd (Rat.divInt 1 (2 * p10 k)) 1 2000000000 := Bd.divInt (by omega) (by omega) (by omega)
  exact hb.fits (by decide) (by decide)
/-- The text again. -/
theorem again_same (x y : Rat) (k T : Nat) (T' : Int) (hT : T = roundT x.num.natAbs x.den k) (hT' : T' = if x.num < 0 then -(T : Int) else T) (hy : y = Rat.divInt T' (p10 k)) :
    roundL (decide (y.num < 0)) k (roundT y.num.natAbs y.den k) = roundL (decide (x.num < 0)) k T := by
  rw [again_is y T' k hy]
  have h1 : T'.natAbs = T := by rw [hT']; split <;> omega
  rw [h1]
  have h2 : (y.num < 0 ∧ 0 < T) ↔ (x.num < 0 ∧ 0 < T) := by
    rw [again_neg y T' k hy, hT']
    split <;> omega
  unfold roundL
  simp only [decide_eq_true_eq, h2]
theorem strip_body (neg : Bool) (k T : Nat) : Lib.trimPrefix (roundL neg k T) [45] = bodyL k T ∧ Lib.hasPrefix (roundL neg k T) [45] = (neg && decide (0 < T)) := by
  have hb : ∃ c r, bodyL k T = c :: r ∧ c ≠ 45 := by
    unfold bodyL
    rcases hd : Lib.decDigits (T / p10 k) with _ | ⟨c, r⟩
    · exact absurd hd (dec_ne _)
    · refine ⟨c, _, by rw [List.cons_append], fun h => ?_⟩
      have := dec_digit (T / p10 k) c (by rw [hd]; exact List.mem_cons_self ..)
      rw [h] at this
      exact absurd this.1 (by decide)
  obtain ⟨c, r, hc, hne⟩ := hb
  rw [round_body]
  by_cases h : neg = true ∧ 0 < T
  · rw [if_pos h, h.1]
    simp [Lib.trimPrefix, Lib.hasPrefix, h.2]
  · rw [if_neg h, List.nil_append, hc]
    have h2 : (neg && decide (0 < T)) = false := by
      cases neg
      · rfl
      · simp at h ⊢; omega
    rw [h2]
    have : ((45 : UInt8) == c) = false := beq_eq_false_iff_ne.2 (fun e => hne e.symm)
    simp [Lib.trimPrefix, Lib.hasPrefix, List.isPrefixOf, this]
end Go.Proofs.YtfhkgpipbegpgaaGreatDoor
