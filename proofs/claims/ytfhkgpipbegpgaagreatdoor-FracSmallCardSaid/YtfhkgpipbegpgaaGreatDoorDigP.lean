/- Numbers as lists of digits to the base 65536, the lowest one first: what the rounds of addition, subtraction, multiplication by a digit and division keep. Plain Lean, no program. -/
import Init
namespace Go.Proofs.YtfhkgpipbegpgaaGreatDoor

/-- The digit of n at place i. -/
def dg (n i : Nat) : Nat := n / 65536 ^ i % 65536
/-- The k lowest digits. -/
def digN (n k : Nat) : List Nat := (List.range k).map (dg n)
/-- How many digits n has. -/
def nd (n : Nat) : Nat := if n = 0 then 0 else nd (n / 65536) + 1
termination_by n
/-- The digits of n, none of them needless. -/
def dig (n : Nat) : List Nat := digN n (nd n)

theorem pp (i : Nat) : 0 < 65536 ^ i := Nat.pow_pos (by omega)
theorem dg_lt (n i : Nat) : dg n i < 65536 := Nat.mod_lt _ (by omega)
theorem digN_len (n k : Nat) : (digN n k).length = k := by simp [digN]
theorem dig_len (n : Nat) : (dig n).length = nd n := digN_len _ _
theorem digN_succ (n k : Nat) : digN n (k + 1) = digN n k ++ [dg n k] := by simp [digN, List.range_succ]
theorem digN_get (n k i : Nat) (h : i < k) : (digN n k)[i]? = some (dg n i) := by
  simp [digN, h]
theorem nd_zero : nd 0 = 0 := by rw [nd, if_pos rfl]
theorem nd_pos {n : Nat} (h : n ≠ 0) : nd n = nd (n / 65536) + 1 := by rw [nd, if_neg h]
theorem lt_pow_nd (n : Nat) : n < 65536 ^ nd n := by
  induction n using Nat.strongRecOn with
  | _ n ih =>
    by_cases h : n = 0
    · subst h; rw [nd_zero]; decide
    · rw [nd_pos h, Nat.pow_succ]
      have := ih (n / 65536) (by omega)
      omega
theorem nd_le (n : Nat) : ∀ k, n < 65536 ^ k → nd n ≤ k := by
  induction n using Nat.strongRecOn with
  | _ n ih =>
    intro k hk
    by_cases h : n = 0
    · subst h; rw [nd_zero]; omega
    · rw [nd_pos h]
      cases k with
      | zero => simp at hk; omega
      | succ k =>
        rw [Nat.pow_succ] at hk
        have := ih (n / 65536) (by omega) k (by omega)
        omega
theorem lt_of_nd {n k : Nat} (h : nd n ≤ k) : n < 65536 ^ k := Nat.lt_of_lt_of_le (lt_pow_nd n) (Nat.pow_le_pow_right (by omega) h)
theorem le_of_nd {n k : Nat} (h : k < nd n) : 65536 ^ k ≤ n := by
  rcases Nat.lt_or_ge n (65536 ^ k) with h1 | h1
  · have := nd_le n k h1; omega
  · exact h1
theorem nd_eq {n k : Nat} (h1 : 65536 ^ k ≤ n) (h2 : n < 65536 ^ (k + 1)) : nd n = k + 1 := by
  have a := nd_le n _ h2
  rcases Nat.lt_or_ge k (nd n) with h | h
  · omega
  · have := lt_of_nd h; omega
theorem nd_zero_iff (n : Nat) : nd n = 0 ↔ n = 0 := by
  constructor
  · intro h; have := lt_of_nd (n := n) (k := 0) (by omega); simpa using this
  · rintro rfl; exact nd_zero
theorem nd_mono {n m : Nat} (h : n ≤ m) : nd n ≤ nd m := nd_le _ _ (Nat.lt_of_le_of_lt h (lt_pow_nd m))
/-- The highest digit. -/
theorem dg_top {n k : Nat} (h : n < 65536 ^ (k + 1)) : dg n k = n / 65536 ^ k := by
  unfold dg
  refine Nat.mod_eq_of_lt ?_
  rw [Nat.div_lt_iff_lt_mul (pp k)]
  rwa [Nat.pow_succ, Nat.mul_comm] at h
theorem dg_over {n k : Nat} (h : n < 65536 ^ k) : dg n k = 0 := by unfold dg; rw [Nat.div_eq_of_lt h]
theorem dg_top_zero {n k : Nat} (h : n < 65536 ^ (k + 1)) (hz : dg n k = 0) : n < 65536 ^ k := by
  rw [dg_top h] at hz
  rcases Nat.lt_or_ge n (65536 ^ k) with h1 | h1
  · exact h1
  · have := Nat.div_pos h1 (pp k); omega
theorem dg_top_pos {n k : Nat} (h : n < 65536 ^ (k + 1)) (hz : dg n k ≠ 0) : nd n = k + 1 := by
  refine nd_eq ?_ h
  rcases Nat.lt_or_ge n (65536 ^ k) with h1 | h1
  · rw [dg_over h1] at hz; exact absurd rfl hz
  · exact h1
theorem dig_of {n k : Nat} (h : nd n = k) : digN n k = dig n := by subst h; rfl
theorem dg_last_ne {n : Nat} (h : n ≠ 0) : dg n (nd n - 1) ≠ 0 := by
  intro hz
  have h0 : nd n ≠ 0 := fun e => h ((nd_zero_iff n).1 e)
  have h1 := lt_pow_nd n
  rw [show nd n = nd n - 1 + 1 by omega] at h1
  have := nd_le n _ (dg_top_zero h1 hz)
  omega
/-- One digit more in front of the others. -/
theorem dg_cons_zero (x d : Nat) (hd : d < 65536) : dg (x * 65536 + d) 0 = d := by unfold dg; rw [Nat.pow_zero, Nat.div_one]; omega
theorem dg_cons_succ (x d i : Nat) (hd : d < 65536) : dg (x * 65536 + d) (i + 1) = dg x i := by
  unfold dg
  rw [Nat.pow_succ, Nat.mul_comm (65536 ^ i), ← Nat.div_div_eq_div_mul, show (x * 65536 + d) / 65536 = x by omega]
theorem digN_cons (x d k : Nat) (hd : d < 65536) : digN (x * 65536 + d) (k + 1) = d :: digN x k := by
  unfold digN
  rw [List.range_succ_eq_map, List.map_cons, dg_cons_zero x d hd, List.map_map]
  congr 1
  refine List.map_congr_left fun i _ => ?_
  exact dg_cons_succ x d i hd
theorem digN_drop (n j k : Nat) : (digN n (j + k)).drop j = digN (n / 65536 ^ j) k := by
  unfold digN
  rw [← List.map_drop, List.range_eq_range', List.drop_range', List.range_eq_range']
  refine List.ext_getElem (by simp) fun i h1 h2 => ?_
  simp [dg, Nat.div_div_eq_div_mul, ← Nat.pow_add]
theorem nd_div (n j : Nat) : nd (n / 65536 ^ j) = nd n - j := by
  induction j generalizing n with
  | zero => simp
  | succ j ih =>
    rw [Nat.pow_succ, Nat.mul_comm, ← Nat.div_div_eq_div_mul, ih]
    by_cases h : n = 0
    · subst h; simp [nd_zero]
    · rw [nd_pos h]; omega
theorem dig_drop (n j : Nat) : (dig n).drop j = dig (n / 65536 ^ j) := by
  unfold dig
  rw [nd_div]
  rcases Nat.le_total j (nd n) with h | h
  · have := digN_drop n j (nd n - j)
    rwa [show j + (nd n - j) = nd n by omega] at this
  · rw [List.drop_eq_nil_of_le (by rw [digN_len]; exact h), show nd n - j = 0 by omega]; rfl

/-! ### Times a digit -/
def car (n b i : Nat) : Nat := (n % 65536 ^ i) * b / 65536 ^ i
theorem mod_succ (n i : Nat) : n % 65536 ^ (i + 1) = n % 65536 ^ i + 65536 ^ i * dg n i := by
  rw [Nat.pow_succ, Nat.mod_mul]; rfl
theorem car_zero (n b : Nat) : car n b 0 = 0 := by simp [car, Nat.mod_one]
theorem car_mid (n b i : Nat) : (n % 65536 ^ (i + 1)) * b / 65536 ^ i = car n b i + dg n i * b := by
  rw [mod_succ, Nat.add_mul, Nat.mul_assoc, Nat.add_mul_div_left _ _ (pp i)]; rfl
theorem car_succ (n b i : Nat) : car n b (i + 1) = (car n b i + dg n i * b) / 65536 := by
  rw [← car_mid]
  unfold car
  rw [Nat.div_div_eq_div_mul, ← Nat.pow_succ]
theorem car_digit (n b i : Nat) : dg (n * b) i = (car n b i + dg n i * b) % 65536 := by
  rw [← car_mid]
  unfold dg
  have h := Nat.div_add_mod n (65536 ^ (i + 1))
  have e : n * b = (n % 65536 ^ (i + 1)) * b + 65536 ^ i * (65536 * (n / 65536 ^ (i + 1) * b)) := by
    calc n * b = (65536 ^ (i + 1) * (n / 65536 ^ (i + 1)) + n % 65536 ^ (i + 1)) * b := by rw [h]
      _ = _ := by rw [Nat.add_mul, Nat.add_comm, Nat.pow_succ]; congr 1; ac_rfl
  rw [e, Nat.add_mul_div_left _ _ (pp i), Nat.add_mul_mod_self_left]
theorem car_le (n b i : Nat) : car n b i ≤ b := by
  unfold car
  refine Nat.div_le_of_le_mul ?_
  exact Nat.mul_le_mul (Nat.le_of_lt (Nat.mod_lt _ (pp i))) (Nat.le_refl _)
/-- Behind the last digit, with nothing left to carry. -/
theorem car_end {n b i : Nat} (h : nd n ≤ i) (hc : car n b i = 0) : n * b < 65536 ^ i := by
  unfold car at hc
  rw [Nat.mod_eq_of_lt (lt_of_nd h)] at hc
  rcases Nat.lt_or_ge (n * b) (65536 ^ i) with h1 | h1
  · exact h1
  · have := Nat.div_pos h1 (pp i); omega

/-! ### Sums -/
def cad (n m i : Nat) : Nat := (n % 65536 ^ i + m % 65536 ^ i) / 65536 ^ i
theorem cad_zero (n m : Nat) : cad n m 0 = 0 := by simp [cad, Nat.mod_one]
theorem cad_mid (n m i : Nat) : (n % 65536 ^ (i + 1) + m % 65536 ^ (i + 1)) / 65536 ^ i = cad n m i + dg n i + dg m i := by
  rw [mod_succ, mod_succ, show n % 65536 ^ i + 65536 ^ i * dg n i + (m % 65536 ^ i + 65536 ^ i * dg m i) = n % 65536 ^ i + m % 65536 ^ i + 65536 ^ i * (dg n i + dg m i) by rw [Nat.mul_add]; omega, Nat.add_mul_div_left _ _ (pp i), Nat.add_assoc]; rfl
theorem cad_succ (n m i : Nat) : cad n m (i + 1) = (cad n m i + dg n i + dg m i) / 65536 := by
  rw [← cad_mid]
  unfold cad
  rw [Nat.div_div_eq_div_mul, ← Nat.pow_succ]
theorem cad_digit (n m i : Nat) : dg (n + m) i = (cad n m i + dg n i + dg m i) % 65536 := by
  rw [← cad_mid]
  unfold dg
  have h := Nat.div_add_mod n (65536 ^ (i + 1))
  have h' := Nat.div_add_mod m (65536 ^ (i + 1))
  have e : n + m = (n % 65536 ^ (i + 1) + m % 65536 ^ (i + 1)) + 65536 ^ i * (65536 * (n / 65536 ^ (i + 1) + m / 65536 ^ (i + 1))) := by
    have hp : 65536 ^ i * 65536 = 65536 ^ (i + 1) := (Nat.pow_succ ..).symm
    rw [← Nat.mul_assoc, hp, Nat.mul_add]; omega
  rw [e, Nat.add_mul_div_left _ _ (pp i), Nat.add_mul_mod_self_left]
theorem cad_le (n m i : Nat) : cad n m i ≤ 1 := by
  unfold cad
  have h1 := Nat.mod_lt n (pp i)
  have h2 := Nat.mod_lt m (pp i)
  refine Nat.le_of_lt_succ ?_
  rw [Nat.div_lt_iff_lt_mul (pp i)]
  omega
/-- The sum ends where both numbers have ended and nothing is to carry: it has just so many digits. -/
theorem cad_end {n m i : Nat} (h1 : nd n ≤ i) (h2 : nd m ≤ i) (hc : cad n m i = 0) (hlast : i = 0 ∨ nd n = i ∨ nd m = i ∨ cad n m (i - 1) + dg n (i - 1) + dg m (i - 1) ≠ 0) : nd (n + m) = i := by
  have hlt : n + m < 65536 ^ i := by
    unfold cad at hc
    rw [Nat.mod_eq_of_lt (lt_of_nd h1), Nat.mod_eq_of_lt (lt_of_nd h2)] at hc
    rcases Nat.lt_or_ge (n + m) (65536 ^ i) with h | h
    · exact h
    · have := Nat.div_pos h (pp i); omega
  refine Nat.le_antisymm (nd_le _ _ hlt) ?_
  rcases hlast with h | h | h | h
  · omega
  · rw [← h]; exact nd_mono (by omega)
  · rw [← h]; exact nd_mono (by omega)
  · cases i with
    | zero => omega
    | succ k =>
      rw [Nat.add_sub_cancel] at h
      have h3 := cad_succ n m k
      rw [hc] at h3
      have h4 := cad_digit n m k
      have h5 : dg (n + m) k ≠ 0 := by omega
      have := dg_top_pos hlt h5
      omega

/-! ### Differences -/
def owe (n m i : Nat) : Nat := if n % 65536 ^ i < m % 65536 ^ i then 1 else 0
theorem owe_zero (n m : Nat) : owe n m 0 = 0 := by simp [owe, Nat.mod_one]
theorem owe_le (n m i : Nat) : owe n m i ≤ 1 := by unfold owe; split <;> omega
theorem owe_succ (n m i : Nat) : owe n m (i + 1) = if dg n i < dg m i + owe n m i then 1 else 0 := by
  unfold owe
  rw [mod_succ, mod_succ]
  have h1 := Nat.mod_lt n (pp i)
  have h2 := Nat.mod_lt m (pp i)
  generalize n % 65536 ^ i = r at *
  generalize m % 65536 ^ i = s at *
  generalize dg n i = x
  generalize dg m i = y
  generalize 65536 ^ i = P at *
  have key : r + P * x < s + P * y ↔ x < y + (if r < s then 1 else 0) := by
    rcases Nat.lt_trichotomy x y with h | h | h
    · have : P * (x + 1) ≤ P * y := Nat.mul_le_mul (Nat.le_refl _) h
      rw [Nat.mul_succ] at this
      generalize P * x = a at *; generalize P * y = b at *
      split <;> omega
    · subst h
      split <;> omega
    · have : P * (y + 1) ≤ P * x := Nat.mul_le_mul (Nat.le_refl _) h
      rw [Nat.mul_succ] at this
      generalize P * x = a at *; generalize P * y = b at *
      split <;> omega
  by_cases h : r + P * x < s + P * y
  · rw [if_pos h, if_pos (key.1 h)]
  · rw [if_neg h, if_neg (fun h' => h (key.2 h'))]
theorem owe_digit (n m i : Nat) (hle : m ≤ n) : (dg (n - m) i : Int) = (dg n i : Int) - owe n m i - dg m i + (if dg n i < dg m i + owe n m i then 65536 else 0) := by
  have hn := Nat.div_add_mod n (65536 ^ (i + 1))
  have hm := Nat.div_add_mod m (65536 ^ (i + 1))
  rw [mod_succ] at hn hm
  have hx := dg_lt n i
  have hy := dg_lt m i
  have h1 := Nat.mod_lt n (pp i)
  have h2 := Nat.mod_lt m (pp i)
  unfold owe
  rw [show dg (n - m) i = (n - m) / 65536 ^ i % 65536 from rfl]
  rw [Nat.pow_succ] at hn hm
  generalize hr : n % 65536 ^ i = r at *
  generalize hs : m % 65536 ^ i = s at *
  generalize dg n i = x at *
  generalize dg m i = y at *
  generalize n / (65536 ^ i * 65536) = a at *
  generalize m / (65536 ^ i * 65536) = b at *
  generalize 65536 ^ i = P at *
  have hnZ : (n : Int) = P * (65536 * a + x) + r := by
    have := congrArg (Nat.cast : Nat → Int) hn
    simp only [Int.natCast_add, Int.natCast_mul, show ((65536 : Nat) : Int) = 65536 from rfl] at this
    rw [Int.mul_add, ← Int.mul_assoc, ← this]; omega
  have hmZ : (m : Int) = P * (65536 * b + y) + s := by
    have := congrArg (Nat.cast : Nat → Int) hm
    simp only [Int.natCast_add, Int.natCast_mul, show ((65536 : Nat) : Int) = 65536 from rfl] at this
    rw [Int.mul_add, ← Int.mul_assoc, ← this]; omega
  obtain ⟨T, hT⟩ : ∃ T : Int, T = 65536 * ((a : Int) - b) + (x - y) := ⟨_, rfl⟩
  have hD : ((n - m : Nat) : Int) = P * T + (r - s) := by
    rw [Int.ofNat_sub hle, hnZ, hmZ, hT, show (65536 * ((a : Int) - b) + (x - y)) = (65536 * a + x) - (65536 * b + y) by omega, Int.mul_sub]; omega
  have hPos : (0 : Int) < P := by omega
  have goal2 : (((n - m) / P : Nat) : Int) = T - (if r < s then 1 else 0) := by
    rw [Int.natCast_ediv, hD]
    by_cases hrs : r < s
    · rw [if_pos hrs, show (P : Int) * T + (r - s) = (P + r - s) + P * (T - 1) by rw [Int.mul_sub]; omega, Int.add_mul_ediv_left _ _ (by omega), Int.ediv_eq_zero_of_lt (by omega) (by omega)]; omega
    · rw [if_neg hrs, show (P : Int) * T + (r - s) = (r - s) + P * T by omega, Int.add_mul_ediv_left _ _ (by omega), Int.ediv_eq_zero_of_lt (by omega) (by omega)]; omega
  generalize (n - m) / P = Q at *
  split at goal2 <;> rename_i hrs <;> simp only [hrs, if_true, if_false] <;> split <;> omega

/-! ### Products -/
theorem horner (a b i : Nat) : a * (b / 65536 ^ (i + 1)) * 65536 + 0 + a * dg b i = a * (b / 65536 ^ i) := by
  unfold dg
  rw [Nat.pow_succ, ← Nat.div_div_eq_div_mul]
  have h := Nat.div_add_mod (b / 65536 ^ i) 65536
  generalize b / 65536 ^ i = c at *
  calc a * (c / 65536) * 65536 + 0 + a * (c % 65536) = a * (65536 * (c / 65536) + c % 65536) := by rw [Nat.mul_add, Nat.add_zero, Nat.mul_comm 65536, Nat.mul_assoc]
    _ = a * c := by rw [h]

/-! ### Quotients -/
/-- The bounds of a digit of the quotient. -/
theorem q_low (rest b k : Nat) (hb : 0 < b) : rest / 65536 ^ k / (b / 65536 ^ k + 1) ≤ rest / b := by
  rw [Nat.le_div_iff_mul_le hb]
  have h1 : b ≤ (b / 65536 ^ k + 1) * 65536 ^ k := by
    have := Nat.div_add_mod b (65536 ^ k)
    have := Nat.mod_lt b (pp k)
    rw [Nat.succ_mul, Nat.mul_comm]
    omega
  have h2 := Nat.div_mul_le_self (rest / 65536 ^ k) (b / 65536 ^ k + 1)
  have h3 := Nat.div_mul_le_self rest (65536 ^ k)
  calc rest / 65536 ^ k / (b / 65536 ^ k + 1) * b ≤ rest / 65536 ^ k / (b / 65536 ^ k + 1) * ((b / 65536 ^ k + 1) * 65536 ^ k) := Nat.mul_le_mul (Nat.le_refl _) h1
    _ = rest / 65536 ^ k / (b / 65536 ^ k + 1) * (b / 65536 ^ k + 1) * 65536 ^ k := by rw [Nat.mul_assoc]
    _ ≤ rest / 65536 ^ k * 65536 ^ k := Nat.mul_le_mul h2 (Nat.le_refl _)
    _ ≤ rest := h3
theorem q_high (rest b k : Nat) (ht : 0 < b / 65536 ^ k) : rest / b ≤ rest / 65536 ^ k / (b / 65536 ^ k) := by
  have hb : 0 < b := by
    rcases Nat.eq_zero_or_pos b with h | h
    · subst h; simp at ht
    · exact h
  rw [Nat.le_div_iff_mul_le ht, Nat.le_div_iff_mul_le (pp k)]
  have h1 := Nat.div_mul_le_self b (65536 ^ k)
  calc rest / b * (b / 65536 ^ k) * 65536 ^ k = rest / b * (b / 65536 ^ k * 65536 ^ k) := by rw [Nat.mul_assoc]
    _ ≤ rest / b * b := Nat.mul_le_mul (Nat.le_refl _) h1
    _ ≤ rest := Nat.div_mul_le_self _ _
theorem q_digit (rest b : Nat) (hb : 0 < b) (h : rest < b * 65536) : rest / b < 65536 := by
  rw [Nat.div_lt_iff_lt_mul hb, Nat.mul_comm]; exact h
/-- A long division: the next digit. -/
theorem long_step (a b i : Nat) (hb : 0 < b) :
    (a / 65536 ^ i) / b = ((a / 65536 ^ (i + 1)) / b) * 65536 + ((a / 65536 ^ (i + 1)) % b * 65536 + dg a i) / b
    ∧ (a / 65536 ^ i) % b = ((a / 65536 ^ (i + 1)) % b * 65536 + dg a i) % b := by
  unfold dg
  rw [Nat.pow_succ, ← Nat.div_div_eq_div_mul]
  generalize a / 65536 ^ i = c
  have h := Nat.div_add_mod (c / 65536) b
  have h2 := Nat.div_add_mod c 65536
  have e : c = (c / 65536 % b * 65536 + c % 65536) + b * (c / 65536 / b * 65536) := by
    rw [← Nat.mul_assoc]
    generalize b * (c / 65536 / b) = t at *
    generalize c / 65536 % b = u at *
    omega
  constructor
  · conv => lhs; rw [e]
    rw [Nat.add_mul_div_left _ _ hb]; omega
  · conv => lhs; rw [e]
    rw [Nat.add_mul_mod_self_left]
attribute [irreducible] dg dig digN car cad owe
end Go.Proofs.YtfhkgpipbegpgaaGreatDoor
