/- Plain laws of deals: an order of the 52 cards, cut into four hands of 13; they make a right deal. No program. -/
import Derived.Test.YtaadipccgckehaaDoorBP
namespace Go.Proofs.YtaadipccgckehaaDoor
namespace Pl
theorem pc_put (r : Nat) : ∀ k x, r < k → x / 2 ^ r % 2 = 0 → pc k (x + 2 ^ r) = pc k x + 1 := by
  induction r with
  | zero =>
    intro k x hk hx
    cases k with
    | zero => omega
    | succ k =>
      simp only [Nat.pow_zero, Nat.div_one] at hx
      have h1 : (x + 1) % 2 = 1 := by omega
      have h2 : (x + 1) / 2 = x / 2 := by omega
      simp only [pc, Nat.pow_zero, h1, h2]; omega
  | succ r ih =>
    intro k x hk hx
    cases k with
    | zero => omega
    | succ k =>
      have e : 2 ^ (r + 1) = 2 * 2 ^ r := by rw [Nat.pow_succ, Nat.mul_comm]
      have h1 : (x + 2 ^ (r + 1)) % 2 = x % 2 := by rw [e]; omega
      have h2 : (x + 2 ^ (r + 1)) / 2 = x / 2 + 2 ^ r := by rw [e]; omega
      have h3 : x / 2 / 2 ^ r % 2 = 0 := by rw [Nat.div_div_eq_div_mul, ← e]; exact hx
      have := ih k (x / 2) (by omega) h3
      simp only [pc, h1, h2, this]; omega
theorem or_lane (k a b c d : Nat) (ha : a < 2 ^ k) (hc : c < 2 ^ k) : (a + 2 ^ k * b) ||| (c + 2 ^ k * d) = (a ||| c) + 2 ^ k * (b ||| d) := by
  have hac : a ||| c < 2 ^ k := Nat.or_lt_two_pow ha hc
  apply Nat.eq_of_testBit_eq
  intro i
  have t : ∀ x y : Nat, x < 2 ^ k → (x + 2 ^ k * y).testBit i = if i < k then x.testBit i else y.testBit (i - k) := fun x y hx => by
    rw [Nat.add_comm]; exact Nat.testBit_two_pow_mul_add y hx i
  rw [Nat.testBit_or, t a b ha, t c d hc, t _ _ hac]
  split <;> simp
theorem or_even (q : Nat) : (2 * q) ||| 1 = 2 * q + 1 := by
  have := or_lane 1 0 q 1 0 (by omega) (by omega)
  simp at this
  omega
theorem or_put (x c : Nat) (h : x / 2 ^ c % 2 = 0) : x ||| 2 ^ c = x + 2 ^ c := by
  have hp : 0 < 2 ^ c := Nat.pos_of_ne_zero (by simp)
  have f := or_lane c (x % 2 ^ c) (x / 2 ^ c) 0 1 (Nat.mod_lt _ hp) hp
  rw [Nat.mod_add_div, Nat.or_zero, Nat.zero_add, Nat.mul_one] at f
  have e : x / 2 ^ c = 2 * (x / 2 ^ c / 2) := by omega
  rw [f]
  conv => lhs; rw [e]
  rw [or_even, ← e, Nat.mul_add, Nat.mul_one, ← Nat.add_assoc, Nat.mod_add_div]
/-- The hand j after k cards. -/
def maskTo (d : Nat → Nat) : Nat → Nat → Nat
  | 0, _ => 0
  | k + 1, j => if k / 13 = j then maskTo d k j ||| 2 ^ d k else maskTo d k j
theorem mask_0 (d : Nat → Nat) (j : Nat) : maskTo d 0 j = 0 := rfl
theorem mask_bit (d : Nat → Nat) (b j : Nat) : ∀ k, (maskTo d k j).testBit b = true ↔ ∃ i, i < k ∧ i / 13 = j ∧ d i = b
  | 0 => by simp [maskTo]
  | k + 1 => by
    rw [maskTo]
    by_cases h : k / 13 = j
    · rw [if_pos h, Nat.testBit_or, Bool.or_eq_true, mask_bit d b j k, Nat.testBit_two_pow, decide_eq_true_eq]
      constructor
      · rintro (⟨i, h1, h2, h3⟩ | h3)
        · exact ⟨i, by omega, h2, h3⟩
        · exact ⟨k, by omega, h, h3⟩
      · rintro ⟨i, h1, h2, h3⟩
        rcases Nat.lt_or_ge i k with h4 | h4
        · exact .inl ⟨i, h4, h2, h3⟩
        · obtain rfl : i = k := by omega
          exact .inr h3
    · rw [if_neg h, mask_bit d b j k]
      constructor
      · rintro ⟨i, h1, h2, h3⟩
        exact ⟨i, by omega, h2, h3⟩
      · rintro ⟨i, h1, h2, h3⟩
        rcases Nat.lt_or_ge i k with h4 | h4
        · exact ⟨i, h4, h2, h3⟩
        · obtain rfl : i = k := by omega
          exact absurd h2 h
/-- Fifty-two numbers below 52, each another one. -/
def Deck (d : Nat → Nat) : Prop := (∀ i, i < 52 → d i < 52) ∧ ∀ i j, i < 52 → j < 52 → d i = d j → i = j
theorem mask_lt (d : Nat → Nat) (h : Deck d) (j : Nat) : ∀ k, k ≤ 52 → maskTo d k j < 2 ^ 52
  | 0, _ => by rw [mask_0]; exact Nat.two_pow_pos 52
  | k + 1, hk => by
    have ih := mask_lt d h j k (by omega)
    rw [maskTo]
    split
    · exact Nat.or_lt_two_pow ih (Nat.pow_lt_pow_right (by omega) (h.1 k (by omega)))
    · exact ih
theorem mask_fresh (d : Nat → Nat) (h : Deck d) (j k : Nat) (hk : k < 52) : maskTo d k j / 2 ^ d k % 2 = 0 := by
  have hb : (maskTo d k j).testBit (d k) = false := by
    rw [← Bool.not_eq_true, mask_bit]
    rintro ⟨i, h1, -, h3⟩
    have := h.2 i k (by omega) hk h3
    omega
  rw [Nat.testBit_eq_decide_div_mod_eq, decide_eq_false_iff_not] at hb
  omega
theorem mask_put (d : Nat → Nat) (h : Deck d) (j k : Nat) (hk : k < 52) : maskTo d (k + 1) j = if k / 13 = j then maskTo d k j + 2 ^ d k else maskTo d k j := by
  rw [maskTo, or_put _ _ (mask_fresh d h j k hk)]
def cnt13 : Nat → Nat → Nat
  | 0, _ => 0
  | k + 1, j => if k / 13 = j then cnt13 k j + 1 else cnt13 k j
theorem pc_deal (d : Nat → Nat) (h : Deck d) (j : Nat) : ∀ k, k ≤ 52 → pc 64 (maskTo d k j) = cnt13 k j
  | 0, _ => by rw [mask_0, pc_zero]; rfl
  | k + 1, hk => by
    have ih := pc_deal d h j k (by omega)
    rw [mask_put d h j k (by omega), cnt13]
    split
    · rw [pc_put _ _ _ (by have := h.1 k (by omega); omega) (mask_fresh d h j k (by omega)), ih]
    · exact ih
theorem deck_of (L : List Nat) (h : L.Perm (List.range 52)) : Deck (fun i => L.getD i 0) := by
  have hl : L.length = 52 := by simpa using h.length_eq
  refine ⟨fun i hi => ?_, fun i j hi hj e => ?_⟩
  · simp only [List.getD, List.getElem?_eq_getElem (show i < L.length by omega), Option.getD_some]
    have := h.mem_iff.1 (List.getElem_mem (show i < L.length by omega))
    simpa using this
  · simp only [List.getD, List.getElem?_eq_getElem (show i < L.length by omega), List.getElem?_eq_getElem (show j < L.length by omega), Option.getD_some] at e
    exact (List.getElem_inj (h.nodup_iff.2 List.nodup_range)).mp e
/-- The deal that an order of the cards makes. -/
def made (L : List Nat) (k : Nat) : Nat := maskTo (fun i => L.getD i 0) 52 k
theorem made_right (L : List Nat) (h : L.Perm (List.range 52)) : rightB (made L) = true := by
  have hd := deck_of L h
  have hl : L.length = 52 := by simpa using h.length_eq
  have hlt : ∀ k, made L k < 2 ^ 52 := fun k => mask_lt _ hd k 52 (by omega)
  have hbit : ∀ k b, (made L k).testBit b = true ↔ ∃ i, i < 52 ∧ i / 13 = k ∧ L.getD i 0 = b := fun k b => mask_bit _ b k 52
  have e52 : (2 : Nat) ^ 52 = 4503599627370496 := by decide
  have hub : ∀ n, n ≤ 4 → usedTo (made L) n < 4503599627370496 := used_lt _ (fun k _ => by have := hlt k; omega)
  unfold rightB
  rw [Bool.and_eq_true, decide_eq_true_eq, part_iff]
  refine ⟨fun k hk => ⟨by have := hlt k; omega, ?_, ?_⟩, ?_⟩
  · have h1 : pc 64 (made L k) = cnt13 52 k := pc_deal _ hd k 52 (by omega)
    rw [h1]
    rcases (by omega : k = 0 ∨ k = 1 ∨ k = 2 ∨ k = 3) with rfl | rfl | rfl | rfl <;> decide
  · apply Nat.eq_of_testBit_eq
    intro b
    rw [Nat.testBit_and, Nat.zero_testBit]
    rw [← Bool.not_eq_true]
    intro hh
    rw [Bool.and_eq_true] at hh
    obtain ⟨i, h1, h2, h3⟩ := (hbit k b).1 hh.1
    obtain ⟨j, h4, h5⟩ := (used_bit _ b k).1 hh.2
    obtain ⟨i', h6, h7, h8⟩ := (hbit j b).1 h5
    have := hd.2 i i' h1 h6 (h3.trans h8.symm)
    omega
  · apply Nat.eq_of_testBit_eq
    intro b
    rcases Nat.lt_or_ge b 52 with hb | hb
    · have h1 : (usedTo (made L) 4).testBit b = true := by
        rw [used_bit]
        have hm : b ∈ L := h.mem_iff.2 (by simpa using hb)
        obtain ⟨i, hi, hv⟩ := List.getElem_of_mem hm
        exact ⟨i / 13, by omega, (hbit _ _).2 ⟨i, by omega, rfl, by simp [List.getD, List.getElem?_eq_getElem hi, hv]⟩⟩
      rw [h1, show (4503599627370495 : Nat) = 2 ^ 52 - 1 from by decide, Nat.testBit_two_pow_sub_one]
      simp [hb]
    · rw [bit_high (hub 4 (by omega)) hb, bit_high (by omega) hb]
end Pl
end Go.Proofs.YtaadipccgckehaaDoor
