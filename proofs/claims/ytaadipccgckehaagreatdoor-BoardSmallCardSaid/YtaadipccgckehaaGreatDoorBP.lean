/- Plain: deals of four hands: partial, right, the owner of a card, as the program and as the reference ask for them. No program. -/
import Derived.Test.YtaadipccgckehaaGreatDoorBits
namespace Go.Proofs.YtaadipccgckehaaGreatDoor
namespace Pl

theorem pc_last (k x : Nat) : pc (k + 1) x = pc k x + x / 2 ^ k % 2 := by
  rw [pc_add k 1 x]; simp [pc]
theorem and_half {a b : Nat} (h : a &&& b = 0) : (a / 2) &&& (b / 2) = 0 := by
  apply Nat.eq_of_testBit_eq
  intro i
  have h2 : (a &&& b).testBit (i + 1) = false := by rw [h]; exact Nat.zero_testBit _
  rw [Nat.testBit_and, Nat.testBit_succ, Nat.testBit_succ] at h2
  rw [Nat.testBit_and, Nat.zero_testBit]
  exact h2
theorem or_half (a b : Nat) : (a ||| b) / 2 = a / 2 ||| b / 2 := by
  apply Nat.eq_of_testBit_eq
  intro i
  simp [Nat.testBit_or, ← Nat.testBit_succ]
theorem or_low {a b : Nat} (h : a &&& b = 0) : (a ||| b) % 2 = a % 2 + b % 2 := by
  have h1 : (a &&& b).testBit 0 = false := by rw [h]; exact Nat.zero_testBit _
  have h2 : (a ||| b).testBit 0 = (a.testBit 0 || b.testBit 0) := Nat.testBit_or ..
  rw [Nat.testBit_and] at h1
  rw [Nat.testBit_zero, Nat.testBit_zero] at h1
  rw [Nat.testBit_zero, Nat.testBit_zero, Nat.testBit_zero] at h2
  rcases Nat.mod_two_eq_zero_or_one a with ha | ha <;> rcases Nat.mod_two_eq_zero_or_one b with hb | hb <;> rcases Nat.mod_two_eq_zero_or_one (a ||| b) with hc | hc <;> rw [ha, hb] at h1 <;> rw [ha, hb, hc] at h2 <;> rw [ha, hb, hc] <;> simp at h1 h2
theorem pc_or : ∀ (k a b : Nat), a &&& b = 0 → pc k (a ||| b) = pc k a + pc k b
  | 0, _, _, _ => by simp [pc]
  | k + 1, a, b, h => by
    simp only [pc]
    rw [or_low h, or_half, pc_or k _ _ (and_half h)]
    omega
theorem pc_full : ∀ (k x : Nat), pc k x = k → x % 2 ^ k = 2 ^ k - 1
  | 0, x, _ => by simp [Nat.mod_one]
  | k + 1, x, h => by
    have h1 := pc_le k (x / 2)
    simp only [pc] at h
    have h2 : x % 2 = 1 := by omega
    have h3 := pc_full k (x / 2) (by omega)
    have h4 : x % 2 ^ (k + 1) = x % 2 + 2 * (x / 2 % 2 ^ k) := by
      rw [Nat.pow_succ', Nat.mod_mul]
    have h5 := Nat.two_pow_pos k
    rw [h4, h3, h2, Nat.pow_succ]
    omega
theorem pc_low (m : Nat) (h : m < 4503599627370496) : pc 64 m = pc 52 m := by
  have h0 : m / 2 ^ 52 = 0 := Nat.div_eq_of_lt h
  rw [show (64 : Nat) = 52 + 12 from rfl, pc_add, h0, pc_zero, Nat.add_zero]
theorem bit_high {m i : Nat} (h : m < 4503599627370496) (hi : 52 ≤ i) : m.testBit i = false :=
  Nat.testBit_lt_two_pow (Nat.lt_of_lt_of_le (show m < 2 ^ 52 from h) (Nat.pow_le_pow_right (by omega) hi))
/-- The cards of the first hands. -/
def usedTo (D : Nat → Nat) : Nat → Nat
  | 0 => 0
  | k + 1 => usedTo D k ||| D k
theorem used_0 (D : Nat → Nat) : usedTo D 0 = 0 := rfl
theorem used_s (D : Nat → Nat) (k : Nat) : usedTo D (k + 1) = usedTo D k ||| D k := rfl
theorem used_bit (D : Nat → Nat) (c : Nat) : ∀ k, (usedTo D k).testBit c = true ↔ ∃ j, j < k ∧ (D j).testBit c = true
  | 0 => by simp [usedTo]
  | k + 1 => by
    rw [used_s, Nat.testBit_or, Bool.or_eq_true, used_bit D c k]
    constructor
    · rintro (⟨j, h1, h2⟩ | h)
      · exact ⟨j, by omega, h2⟩
      · exact ⟨k, by omega, h⟩
    · rintro ⟨j, h1, h2⟩
      rcases Nat.lt_or_ge j k with h3 | h3
      · exact .inl ⟨j, h3, h2⟩
      · obtain rfl : j = k := by omega
        exact .inr h2
def okAt (D : Nat → Nat) (k : Nat) : Bool := decide (D k ≤ 4503599627370495 ∧ pc 64 (D k) ≤ 13 ∧ D k &&& usedTo D k = 0)
def partTo (D : Nat → Nat) : Nat → Bool
  | 0 => true
  | k + 1 => partTo D k && okAt D k
def partB (D : Nat → Nat) : Bool := partTo D 4
def rightB (D : Nat → Nat) : Bool := partB D && decide (usedTo D 4 = 4503599627370495)
theorem part_le (D : Nat → Nat) : ∀ k, partTo D k = true ↔ ∀ j, j < k → okAt D j = true
  | 0 => by simp [partTo]
  | k + 1 => by
    rw [partTo, Bool.and_eq_true, part_le D k]
    constructor
    · rintro ⟨h1, h2⟩ j hj
      rcases Nat.lt_or_ge j k with h3 | h3
      · exact h1 j h3
      · obtain rfl : j = k := by omega
        exact h2
    · intro h
      exact ⟨fun j hj => h j (by omega), h k (by omega)⟩
theorem part_no (D : Nat → Nat) (k n : Nat) (hk : k < n) (h : okAt D k = false) : partTo D n = false := by
  rcases hp : partTo D n with _ | _
  · rfl
  · rw [(part_le D n).1 hp k hk] at h; cases h
theorem part_iff (D : Nat → Nat) : partB D = true ↔ ∀ k, k < 4 → D k ≤ 4503599627370495 ∧ pc 64 (D k) ≤ 13 ∧ D k &&& usedTo D k = 0 := by
  unfold partB
  rw [part_le]
  constructor
  · intro h k hk; exact of_decide_eq_true (h k hk)
  · intro h k hk; exact decide_eq_true (h k hk)
theorem used_lt (D : Nat → Nat) (h : ∀ k, k < 4 → D k ≤ 4503599627370495) : ∀ n, n ≤ 4 → usedTo D n < 4503599627370496
  | 0, _ => by rw [used_0]; omega
  | n + 1, hn => by
    rw [used_s]
    exact Nat.or_lt_two_pow (n := 52) (used_lt D h n (by omega)) (by have := h n (by omega); omega)
/-- How many hands have a card. -/
def b1 (x : Bool) : Nat := if x then 1 else 0
def holdTo (D : Nat → Nat) (c : Nat) : Nat → Nat
  | 0 => 0
  | k + 1 => holdTo D c k + b1 ((D k).testBit c)
def holders (D : Nat → Nat) (c : Nat) : Nat := holdTo D c 4
theorem hold_le (D : Nat → Nat) (c : Nat) : ∀ k, holdTo D c k ≤ k
  | 0 => Nat.le_refl _
  | k + 1 => by have := hold_le D c k; unfold holdTo b1; split <;> omega
theorem hold_iff (D : Nat → Nat) (c : Nat) : ∀ k, holdTo D c k = 0 ↔ ∀ j, j < k → (D j).testBit c = false
  | 0 => by simp [holdTo]
  | k + 1 => by
    rw [holdTo]
    constructor
    · intro h j hj
      have h0 : holdTo D c k = 0 := by omega
      rcases Nat.lt_or_ge j k with h3 | h3
      · exact (hold_iff D c k).1 h0 j h3
      · obtain rfl : j = k := by omega
        rcases hb : (D j).testBit c with _ | _
        · rfl
        · rw [hb] at h; simp [b1] at h
    · intro h
      rw [(hold_iff D c k).2 (fun j hj => h j (by omega)), h k (by omega)]; rfl
/-- Disjoint, card by card. -/
theorem apart_hold (D : Nat → Nat) (h : ∀ k, k < 4 → D k < 4503599627370496) : (∀ k, k < 4 → D k &&& usedTo D k = 0) ↔ ∀ c, c < 52 → holders D c ≤ 1 := by
  constructor
  · intro hd c hc
    have key : ∀ k, k ≤ 4 → holdTo D c k ≤ 1 := by
      intro k
      induction k with
      | zero => intro _; simp [holdTo]
      | succ k ih =>
        intro hk
        have h1 := ih (by omega)
        rw [holdTo]
        rcases hb : (D k).testBit c with _ | _
        · simpa [b1] using h1
        · have h2 := congrArg (fun x => x.testBit c) (hd k (by omega))
          simp only [Nat.testBit_and, hb, Bool.true_and, Nat.zero_testBit] at h2
          have h3 : holdTo D c k = 0 := (hold_iff D c k).2 (fun j hj => by
            rcases hj2 : (D j).testBit c with _ | _
            · rfl
            · rw [(used_bit D c k).2 ⟨j, hj, hj2⟩] at h2; cases h2)
          rw [h3]; simp [b1]
    exact key 4 (Nat.le_refl _)
  · intro hd k hk
    apply Nat.eq_of_testBit_eq
    intro i
    rw [Nat.testBit_and, Nat.zero_testBit, Bool.and_eq_false_iff]
    rcases Nat.lt_or_ge i 52 with hi | hi
    · rcases hb : (D k).testBit i with _ | _
      · exact .inl rfl
      · right
        rcases hu : (usedTo D k).testBit i with _ | _
        · rfl
        · obtain ⟨j, hj, hjb⟩ := (used_bit D i k).1 hu
          have h1 := hd i hi
          have mono : ∀ a b, a ≤ b → holdTo D i a ≤ holdTo D i b := by
            intro a b hab
            induction b with
            | zero => obtain rfl : a = 0 := by omega
                      exact Nat.le_refl _
            | succ b ih =>
              rcases Nat.lt_or_ge a (b + 1) with h3 | h3
              · have := ih (by omega); rw [holdTo]; omega
              · obtain rfl : a = b + 1 := by omega
                exact Nat.le_refl _
          have s1 : holdTo D i (k + 1) = holdTo D i k + 1 := by rw [holdTo, hb]; rfl
          have s2 : holdTo D i (j + 1) = holdTo D i j + 1 := by rw [holdTo, hjb]; rfl
          have m1 := mono (j + 1) k (by omega)
          have m2 := mono (k + 1) 4 (by omega)
          unfold holders at h1
          omega
    · exact .inl (bit_high (h k hk) hi)
/-- Partial, as the reference asks. -/
theorem part_ref (D : Nat → Nat) : partB D = true ↔ (∀ k, k < 4 → D k < 4503599627370496 ∧ pc 52 (D k) ≤ 13) ∧ ∀ c, c < 52 → holders D c ≤ 1 := by
  rw [part_iff]
  constructor
  · intro h
    have hl : ∀ k, k < 4 → D k < 4503599627370496 := fun k hk => by have := (h k hk).1; omega
    exact ⟨fun k hk => ⟨hl k hk, by rw [← pc_low _ (hl k hk)]; exact (h k hk).2.1⟩, (apart_hold D hl).1 (fun k hk => (h k hk).2.2)⟩
  · rintro ⟨h1, h2⟩ k hk
    have hl : ∀ k, k < 4 → D k < 4503599627370496 := fun k hk => (h1 k hk).1
    exact ⟨by have := hl k hk; omega, by rw [pc_low _ (hl k hk)]; exact (h1 k hk).2, (apart_hold D hl).2 h2 k hk⟩
theorem pc_used (D : Nat → Nat) (h : ∀ k, k < 4 → D k &&& usedTo D k = 0) (K : Nat) : ∀ n, n ≤ 4 → pc K (usedTo D n) = (List.range n).foldl (fun s k => s + pc K (D k)) 0
  | 0, _ => by rw [used_0, pc_zero]; rfl
  | n + 1, hn => by
    rw [used_s, pc_or _ _ _ (by rw [Nat.and_comm]; exact h n (by omega)), pc_used D h K n (by omega), List.range_succ, List.foldl_append]
    rfl
/-- Right, as the reference asks. -/
theorem right_ref (D : Nat → Nat) : rightB D = (partB D && decide (pc 52 (D 0) = 13) && decide (pc 52 (D 1) = 13) && decide (pc 52 (D 2) = 13) && decide (pc 52 (D 3) = 13)) := by
  unfold rightB
  rcases hp : partB D with _ | _
  · rfl
  · have h := (part_iff D).1 hp
    have hl : ∀ k, k < 4 → D k < 4503599627370496 := fun k hk => by have := (h k hk).1; omega
    have hs := pc_used D (fun k hk => (h k hk).2.2) 52 4 (Nat.le_refl _)
    have b0 := pc_low _ (hl 0 (by omega)) ▸ (h 0 (by omega)).2.1
    have b1 := pc_low _ (hl 1 (by omega)) ▸ (h 1 (by omega)).2.1
    have b2 := pc_low _ (hl 2 (by omega)) ▸ (h 2 (by omega)).2.1
    have b3 := pc_low _ (hl 3 (by omega)) ▸ (h 3 (by omega)).2.1
    have hs' : pc 52 (usedTo D 4) = pc 52 (D 0) + pc 52 (D 1) + pc 52 (D 2) + pc 52 (D 3) := by
      rw [hs]; simp [List.range_succ]
    have hu := used_lt D (fun k hk => (h k hk).1) 4 (Nat.le_refl _)
    have hiff : usedTo D 4 = 4503599627370495 ↔ pc 52 (usedTo D 4) = 52 := by
      constructor
      · intro e; rw [e]; decide +kernel
      · intro e
        have := pc_full 52 _ e
        rw [Nat.mod_eq_of_lt (show usedTo D 4 < 2 ^ 52 from hu)] at this
        exact this
    simp only [Bool.true_and]
    rw [← Bool.decide_and, ← Bool.decide_and, ← Bool.decide_and]
    exact decide_eq_decide.2 (by rw [hiff, hs']; omega)
/-- The first seat that has a card. -/
def owner (D : Nat → Nat) (c : Nat) : Nat := if (D 0).testBit c then 0 else if (D 1).testBit c then 1 else if (D 2).testBit c then 2 else if (D 3).testBit c then 3 else 0
def owned (D : Nat → Nat) (c : Nat) : Bool := (D 0).testBit c || (D 1).testBit c || (D 2).testBit c || (D 3).testBit c
theorem owner_lt (D : Nat → Nat) (c : Nat) : owner D c < 4 := by
  unfold owner; repeat' split
  all_goals omega
theorem bit_div (m c : Nat) : m.testBit c = decide (m / 2 ^ c % 2 = 1) := Nat.testBit_eq_decide_div_mod_eq ..
end Pl
end Go.Proofs.YtaadipccgckehaaGreatDoor
