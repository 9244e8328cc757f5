/- Plain laws of deals: an order of the 52 cards, cut into four hands of 13. No program. -/
import Derived.Test.YtdebhdjcacojeaaDoorPlain
import Derived.Test.YtdebhdjcacojeaaDoorTurnP
namespace Go.Proofs.YtdebhdjcacojeaaDoor
namespace Pl
/-- The hand j after k cards. -/
def maskTo (d : Nat → Nat) : Nat → Nat → Nat
  | 0, _ => 0
  | k + 1, j => if k / 13 = j then maskTo d k j ||| 2 ^ d k else maskTo d k j
theorem mask_0 (d : Nat → Nat) (j : Nat) : maskTo d 0 j = 0 := rfl
theorem mask_bit (d : Nat → Nat) (b j : Nat) : ∀ k, (maskTo d k j).testBit b = true ↔ ∃ i, i < k ∧ i / 13 = j ∧ d i = b
  | 0 => by simp [maskTo]
  | k + 1 => by
    rw [maskTo]
    by_cases h : k / 13 = j
    · rw [if_pos h, Nat.testBit_or, Bool.or_eq_true, mask_bit d b j k, Nat.testBit_two_pow, decide_eq_true_eq]
      constructor
      · rintro (⟨i, h1, h2, h3⟩ | h3)
        · exact ⟨i, by omega, h2, h3⟩
        · exact ⟨k, by omega, h, h3⟩
      · rintro ⟨i, h1, h2, h3⟩
        rcases Nat.lt_or_ge i k with h4 | h4
        · exact .inl ⟨i, h4, h2, h3⟩
        · obtain rfl : i = k := by omega
          exact .inr h3
    · rw [if_neg h, mask_bit d b j k]
      constructor
      · rintro ⟨i, h1, h2, h3⟩
        exact ⟨i, by omega, h2, h3⟩
      · rintro ⟨i, h1, h2, h3⟩
        rcases Nat.lt_or_ge i k with h4 | h4
        · exact ⟨i, h4, h2, h3⟩
        · obtain rfl : i = k := by omega
          exact absurd h2 h
/-- Fifty-two numbers below 52, each another one. -/
def Deck (d : Nat → Nat) : Prop := (∀ i, i < 52 → d i < 52) ∧ ∀ i j, i < 52 → j < 52 → d i = d j → i = j
theorem mask_lt (d : Nat → Nat) (h : Deck d) (j : Nat) : ∀ k, k ≤ 52 → maskTo d k j < 2 ^ 52
  | 0, _ => by rw [mask_0]; exact Nat.two_pow_pos 52
  | k + 1, hk => by
    have ih := mask_lt d h j k (by omega)
    rw [maskTo]
    split
    · exact Nat.or_lt_two_pow ih (Nat.pow_lt_pow_right (by omega) (h.1 k (by omega)))
    · exact ih
theorem mask_fresh (d : Nat → Nat) (h : Deck d) (j k : Nat) (hk : k < 52) : maskTo d k j / 2 ^ d k % 2 = 0 := by
  have hb : (maskTo d k j).testBit (d k) = false := by
    rw [← Bool.not_eq_true, mask_bit]
    rintro ⟨i, h1, -, h3⟩
    have := h.2 i k (by omega) hk h3
    omega
  rw [Nat.testBit_eq_decide_div_mod_eq, decide_eq_false_iff_not] at hb
  omega
theorem mask_put (d : Nat → Nat) (h : Deck d) (j k : Nat) (hk : k < 52) : maskTo d (k + 1) j = if k / 13 = j then maskTo d k j + 2 ^ d k else maskTo d k j := by
  rw [maskTo, or_put _ _ (mask_fresh d h j k hk)]
/-- A sum over numbers. -/
def sm (W : Nat → Nat) : Nat → Nat
  | 0 => 0
  | k + 1 => sm W k + W k
theorem tot_deal (f : Nat → Nat) (W : Nat → Nat) (h0 : f 0 = 0) (hf : ∀ x r, x < 8192 → r < 13 → x / 2 ^ r % 2 = 0 → f (x + 2 ^ r) = f x + W r) (d : Nat → Nat) (h : Deck d) :
    ∀ k, k ≤ 52 → tot f (maskTo d k 0) + tot f (maskTo d k 1) + tot f (maskTo d k 2) + tot f (maskTo d k 3) = sm (fun i => W (d i % 13)) k
  | 0, _ => by simp [mask_0, tot, hold_none, h0, sm]
  | k + 1, hk => by
    have ih := tot_deal f W h0 hf d h k (by omega)
    have hd := h.1 k (by omega)
    have hput : ∀ j, tot f (maskTo d k j + 2 ^ d k) = tot f (maskTo d k j) + W (d k % 13) := fun j => by
      have hfr := mask_fresh d h j k (by omega)
      have e : d k = 13 * (d k / 13) + d k % 13 := by omega
      have hb : hold (maskTo d k j) (d k / 13) / 2 ^ (d k % 13) % 2 = 0 := by rw [hold_bit _ _ _ (by omega), ← e]; exact hfr
      have := tot_put f (maskTo d k j) (d k / 13) (d k % 13) _ (by omega) (by omega) hb (hf _ _ (hold_lt _ _) (by omega) hb)
      rw [← e] at this
      exact this
    simp only [mask_put d h _ k (by omega), sm]
    rcases (by omega : k / 13 = 0 ∨ k / 13 = 1 ∨ k / 13 = 2 ∨ k / 13 = 3) with e | e | e | e <;> rw [e] <;> simp [hput] <;> omega
theorem len_deal (d : Nat → Nat) (h : Deck d) (s : Nat) (hs : s < 4) :
    ∀ k, k ≤ 52 → pc 16 (hold (maskTo d k 0) s) + pc 16 (hold (maskTo d k 1) s) + pc 16 (hold (maskTo d k 2) s) + pc 16 (hold (maskTo d k 3) s) = sm (fun i => if d i / 13 = s then 1 else 0) k
  | 0, _ => by simp [mask_0, hold_none, pc_zero, sm]
  | k + 1, hk => by
    have ih := len_deal d h s hs k (by omega)
    have hd := h.1 k (by omega)
    have hput : ∀ j, pc 16 (hold (maskTo d k j + 2 ^ d k) s) = pc 16 (hold (maskTo d k j) s) + (if d k / 13 = s then 1 else 0) := fun j => by
      have hfr := mask_fresh d h j k (by omega)
      have e : d k = 13 * (d k / 13) + d k % 13 := by omega
      have hb : hold (maskTo d k j) (d k / 13) / 2 ^ (d k % 13) % 2 = 0 := by rw [hold_bit _ _ _ (by omega), ← e]; exact hfr
      have := hold_put (maskTo d k j) (d k / 13) (d k % 13) s (by omega) hs (by omega) hb
      rw [← e] at this
      rw [this]
      by_cases hq : d k / 13 = s
      · rw [if_pos hq.symm, if_pos hq, hq, pc_put _ _ _ (by omega) (by rw [← hq]; exact hb)]
      · rw [if_neg (Ne.symm hq), if_neg hq]; rfl
    simp only [mask_put d h _ k (by omega), sm]
    rcases (by omega : k / 13 = 0 ∨ k / 13 = 1 ∨ k / 13 = 2 ∨ k / 13 = 3) with e | e | e | e <;> rw [e] <;> simp [hput] <;> omega
def cnt : Nat → Nat → Nat
  | 0, _ => 0
  | k + 1, j => if k / 13 = j then cnt k j + 1 else cnt k j
theorem pc_deal (d : Nat → Nat) (h : Deck d) (j : Nat) : ∀ k, k ≤ 52 → pc 64 (maskTo d k j) = cnt k j
  | 0, _ => by rw [mask_0, pc_zero]; rfl
  | k + 1, hk => by
    have ih := pc_deal d h j k (by omega)
    rw [mask_put d h j k (by omega), cnt]
    split
    · rw [pc_put _ _ _ (by have := h.1 k (by omega); omega) (mask_fresh d h j k (by omega)), ih]
    · exact ih
theorem sm_list (W : Nat → Nat) (L : List Nat) : ∀ k, k ≤ L.length → sm (fun i => W (L.getD i 0)) k = ((L.take k).map W).sum
  | 0, _ => by simp [sm]
  | k + 1, hk => by
    rw [sm, sm_list W L k (by omega), List.take_succ_eq_append_getElem (by omega), List.map_append, List.sum_append]
    simp only [List.getD, List.getElem?_eq_getElem (show k < L.length by omega), Option.getD_some, List.map_cons, List.map_nil, List.sum_cons, List.sum_nil, Nat.add_zero]
theorem deck_of (L : List Nat) (h : L.Perm (List.range 52)) : Deck (fun i => L.getD i 0) := by
  have hl : L.length = 52 := by simpa using h.length_eq
  refine ⟨fun i hi => ?_, fun i j hi hj e => ?_⟩
  · simp only [List.getD, List.getElem?_eq_getElem (show i < L.length by omega), Option.getD_some]
    have := h.mem_iff.1 (List.getElem_mem (show i < L.length by omega))
    simpa using this
  · simp only [List.getD, List.getElem?_eq_getElem (show i < L.length by omega), List.getElem?_eq_getElem (show j < L.length by omega), Option.getD_some] at e
    exact (List.getElem_inj (h.nodup_iff.2 List.nodup_range)).mp e
theorem sm_deck (W : Nat → Nat) (L : List Nat) (h : L.Perm (List.range 52)) : sm (fun i => W (L.getD i 0)) 52 = ((List.range 52).map W).sum := by
  have hl : L.length = 52 := by simpa using h.length_eq
  have := sm_list W L 52 (by omega)
  rw [this, List.take_of_length_le (by omega)]
  exact List.Perm.sum_nat (h.map W)
/-- What the four hands of a deal have together. -/
theorem deal_all (L : List Nat) (h : L.Perm (List.range 52)) (m0 m1 m2 m3 : Nat) (e0 : m0 = maskTo (fun i => L.getD i 0) 52 0) (e1 : m1 = maskTo (fun i => L.getD i 0) 52 1)
    (e2 : m2 = maskTo (fun i => L.getD i 0) 52 2) (e3 : m3 = maskTo (fun i => L.getD i 0) 52 3) :
    (m0 < 4503599627370496 ∧ m1 < 4503599627370496 ∧ m2 < 4503599627370496 ∧ m3 < 4503599627370496) ∧ (pc 64 m0 = 13 ∧ pc 64 m1 = 13 ∧ pc 64 m2 = 13 ∧ pc 64 m3 = 13) ∧
    tot (hon 1 2 3 4) m0 + tot (hon 1 2 3 4) m1 + tot (hon 1 2 3 4) m2 + tot (hon 1 2 3 4) m3 = 40 ∧
    tot (hon 0 0 1 2) m0 + tot (hon 0 0 1 2) m1 + tot (hon 0 0 1 2) m2 + tot (hon 0 0 1 2) m3 = 12 ∧
    ∀ s, s < 4 → pc 16 (hold m0 s) + pc 16 (hold m1 s) + pc 16 (hold m2 s) + pc 16 (hold m3 s) = 13 := by
  have hd := deck_of L h
  subst e0 e1 e2 e3
  have e52 : (2 : Nat) ^ 52 = 4503599627370496 := by decide
  refine ⟨⟨e52 ▸ mask_lt _ hd 0 52 (by omega), e52 ▸ mask_lt _ hd 1 52 (by omega), e52 ▸ mask_lt _ hd 2 52 (by omega), e52 ▸ mask_lt _ hd 3 52 (by omega)⟩, ⟨?_, ?_, ?_, ?_⟩, ?_, ?_, fun s hs => ?_⟩
  · rw [pc_deal _ hd 0 52 (by omega)]; decide
  · rw [pc_deal _ hd 1 52 (by omega)]; decide
  · rw [pc_deal _ hd 2 52 (by omega)]; decide
  · rw [pc_deal _ hd 3 52 (by omega)]; decide
  · rw [tot_deal (hon 1 2 3 4) (fun r => r - 8) (hon_0 ..) (fun x r _ hr hb => (hon_put x r hr hb).1) _ hd 52 (by omega), sm_deck (fun c => c % 13 - 8) L h]; decide
  · rw [tot_deal (hon 0 0 1 2) (fun r => r - 10) (hon_0 ..) (fun x r _ hr hb => (hon_put x r hr hb).2) _ hd 52 (by omega), sm_deck (fun c => c % 13 - 10) L h]; decide
  · rw [len_deal _ hd s hs 52 (by omega), sm_deck (fun c => if c / 13 = s then 1 else 0) L h]
    rcases (by omega : s = 0 ∨ s = 1 ∨ s = 2 ∨ s = 3) with rfl | rfl | rfl | rfl <;> decide
theorem sm_0 (W : Nat → Nat) : Pl.sm W 0 = 0 := rfl
theorem sm_succ (W : Nat → Nat) (k : Nat) : Pl.sm W (k + 1) = Pl.sm W k + W k := rfl
theorem sm_4 (W : Nat → Nat) : Pl.sm W 4 = W 0 + W 1 + W 2 + W 3 := by simp [Pl.sm]
theorem sm_le (W : Nat → Nat) (h : ∀ i, W i ≤ 100) : ∀ k, Pl.sm W k ≤ 100 * k
  | 0 => by simp [Pl.sm]
  | k + 1 => by have := Pl.sm_le W h k; have := h k; rw [Pl.sm_succ]; omega
attribute [irreducible] sm
end Pl
end Go.Proofs.YtdebhdjcacojeaaDoor
