/- Plain: the text of a hand; reading it as the program does and as the reference does. No program. -/
import Derived.Test.YtaadipccgckehaaDoorBP
import Derived.Lib.Bytealg
namespace Go.Proofs.YtaadipccgckehaaDoor
namespace Pl

/-- The signs of the ranks. -/
def rankS : List UInt8 := [50, 51, 52, 53, 54, 55, 56, 57, 84, 74, 81, 75, 65]
def sign (r : Nat) : UInt8 := rankS.getD r 0
def rkI (c : UInt8) : Int := Lib.indexByte rankS c
theorem rk_sign : ∀ r, r < 13 → rkI (sign r) = (r : Int) := by decide
theorem sign_46 : ∀ r, r < 13 → sign r ≠ 46 ∧ sign r ≠ 32 := by decide
theorem sign_rk (c : UInt8) (h : 0 ≤ rkI c) : (rkI c).toNat < 13 ∧ sign (rkI c).toNat = c := by
  have key : ∀ n, n < 256 → rkI (UInt8.ofNat n) < 0 ∨ ((rkI (UInt8.ofNat n)).toNat < 13 ∧ sign (rkI (UInt8.ofNat n)).toNat = UInt8.ofNat n) := by decide +kernel
  have := key c.toNat c.toNat_lt
  rw [UInt8.ofNat_toNat] at this
  rcases this with h1 | h1
  · omega
  · exact h1
theorem rk_iff (c : UInt8) (k : Nat) (hk : k < 13) : sign k = c ↔ rkI c = k := by
  constructor
  · rintro rfl; exact rk_sign k hk
  · intro h
    have := (sign_rk c (by omega)).2
    rw [h] at this
    exact this
theorem rk_lt (c : UInt8) : rkI c < 13 := by
  rcases Int.lt_or_le (rkI c) 0 with h | h
  · omega
  · have := (sign_rk c h).1; omega
theorem rk_ge (c : UInt8) : -1 ≤ rkI c := by
  have key : ∀ n, n < 256 → -1 ≤ rkI (UInt8.ofNat n) := by decide +kernel
  have := key c.toNat c.toNat_lt
  rwa [UInt8.ofNat_toNat] at this
/-- The cards of a hand, the greatest first. -/
def cardsL (m : Nat) : List Nat := (List.range 52).reverse.filter m.testBit
/-- The signs of a suit. -/
def suitR (m s : Nat) : List Nat := (List.range 13).reverse.filter (fun r => m.testBit (13 * s + r))
def suitL (m s : Nat) : List UInt8 := (suitR m s).map sign
def writeL (m : Nat) : List UInt8 := suitL m 3 ++ 46 :: (suitL m 2 ++ 46 :: (suitL m 1 ++ 46 :: suitL m 0))
theorem suit_lt (m s : Nat) : ∀ r ∈ suitR m s, r < 13 ∧ m.testBit (13 * s + r) = true := by
  intro r hr
  unfold suitR at hr
  rw [List.mem_filter, List.mem_reverse, List.mem_range] at hr
  exact hr
theorem suit_len (m s : Nat) : (suitL m s).length ≤ 13 := by
  unfold suitL suitR
  rw [List.length_map]
  exact Nat.le_trans (List.length_filter_le _ _) (by simp)
theorem suit_no (m s : Nat) : ∀ c ∈ suitL m s, c ≠ 46 ∧ c ≠ 32 := by
  intro c hc
  unfold suitL at hc
  obtain ⟨r, hr, rfl⟩ := List.mem_map.1 hc
  exact sign_46 r (suit_lt m s r hr).1
theorem range_suit : ∀ s, s < 4 → ((List.range 52).reverse.filter (fun c => decide (c / 13 = s))).map (· % 13) = (List.range 13).reverse ∧ ((List.range 52).reverse.filter (fun c => decide (c / 13 = s))) = (List.range 13).reverse.map (13 * s + ·) := by decide
/-- The cards of a suit, card by card. -/
theorem cards_suit (m s : Nat) (hs : s < 4) : ((cardsL m).filter (fun c => decide (c / 13 = s))).map (fun c => sign (c % 13)) = suitL m s := by
  unfold cardsL suitL suitR
  rw [List.filter_filter]
  rw [show (fun a => decide (a / 13 = s) && m.testBit a) = (fun a => m.testBit a && decide (a / 13 = s)) from funext fun a => Bool.and_comm _ _, ← List.filter_filter, (range_suit s hs).2, List.filter_map, List.map_map]
  apply List.map_congr_left
  intro r hr
  have h := (List.mem_filter.1 hr).1
  rw [List.mem_reverse, List.mem_range] at h
  show sign ((13 * s + r) % 13) = sign r
  rw [Nat.mul_add_mod, Nat.mod_eq_of_lt h]
/-- One character of a part. -/
def pstep (b : Nat) (st : Option (Nat × Int)) (c : UInt8) : Option (Nat × Int) :=
  match st with
  | none => none
  | some (m, last) => if rkI c < 0 ∨ last ≤ rkI c then none else some (m ||| 2 ^ (b + (rkI c).toNat), rkI c)
def partF (b m : Nat) (l : List UInt8) : Option (Nat × Int) := l.foldl (pstep b) (some (m, 13))
def parseTo (ps : Nat → List UInt8) : Nat → Option Nat
  | 0 => some 0
  | i + 1 => (parseTo ps i).bind fun m => (partF ((3 - i) * 13) m (ps i)).map (·.1)
def orAll (b : Nat) (m : Nat) (L : List Nat) : Nat := L.foldl (fun m r => m ||| 2 ^ (b + r)) m
theorem or_bit (b i : Nat) : ∀ (L : List Nat) (m : Nat), (orAll b m L).testBit i = true ↔ m.testBit i = true ∨ ∃ r ∈ L, i = b + r
  | [], m => by simp [orAll]
  | r :: L, m => by
    show (orAll b (m ||| 2 ^ (b + r)) L).testBit i = true ↔ _
    rw [or_bit b i L, Nat.testBit_or, Bool.or_eq_true, Nat.testBit_two_pow, decide_eq_true_eq]
    constructor
    · rintro ((h | h) | ⟨x, hx, h⟩)
      · exact .inl h
      · exact .inr ⟨r, by simp, h.symm⟩
      · exact .inr ⟨x, by simp [hx], h⟩
    · rintro (h | ⟨x, hx, h⟩)
      · exact .inl (.inl h)
      · rcases List.mem_cons.1 hx with rfl | hx
        · exact .inl (.inr h.symm)
        · exact .inr ⟨x, hx, h⟩
theorem part_of (b : Nat) : ∀ (L : List Nat) (m : Nat) (last : Int), L.Pairwise (· > ·) → (∀ r ∈ L, r < 13 ∧ (r : Int) < last) → ∃ l', (L.map sign).foldl (pstep b) (some (m, last)) = some (orAll b m L, l')
  | [], m, last, _, _ => ⟨last, rfl⟩
  | r :: L, m, last, hp, hl => by
    have h0 := hl r (by simp)
    have h1 : rkI (sign r) = r := rk_sign r h0.1
    have h2 : pstep b (some (m, last)) (sign r) = some (m ||| 2 ^ (b + r), (r : Int)) := by
      unfold pstep
      simp only [h1]
      rw [if_neg (by omega)]
      simp
    rw [List.pairwise_cons] at hp
    obtain ⟨l', h⟩ := part_of b L (m ||| 2 ^ (b + r)) r hp.2 (fun x hx => ⟨(hl x (by simp [hx])).1, by have := hp.1 x hx; omega⟩)
    exact ⟨l', by rw [List.map_cons, List.foldl_cons, h2, h]; rfl⟩
theorem suit_desc (m s : Nat) : (suitR m s).Pairwise (· > ·) := by
  unfold suitR
  apply List.Pairwise.filter
  rw [List.pairwise_reverse]
  exact List.pairwise_lt_range
/-- The text of a hand is read as it was. -/
theorem parse_write (M : Nat) (hM : M < 4503599627370496) (ps : Nat → List UInt8) (h : ∀ i, i < 4 → ps i = suitL M (3 - i)) : parseTo ps 4 = some M := by
  have key : ∀ k, k ≤ 4 → ∃ m, parseTo ps k = some m ∧ ∀ i, m.testBit i = true ↔ (M.testBit i = true ∧ 13 * (4 - k) ≤ i) := by
    intro k
    induction k with
    | zero =>
      intro _
      refine ⟨0, rfl, fun i => ?_⟩
      rw [Nat.zero_testBit]
      constructor
      · intro h; cases h
      · rintro ⟨h1, h2⟩
        rw [bit_high hM (by omega)] at h1
        cases h1
    | succ k ih =>
      intro hk
      obtain ⟨m, h1, h2⟩ := ih (by omega)
      obtain ⟨l', h3⟩ := part_of ((3 - k) * 13) (suitR M (3 - k)) m 13 (suit_desc _ _) (fun r hr => by have := (suit_lt _ _ r hr).1; omega)
      refine ⟨orAll ((3 - k) * 13) m (suitR M (3 - k)), ?_, fun i => ?_⟩
      · rw [parseTo, h1]
        show (partF ((3 - k) * 13) m (ps k)).map (·.1) = _
        unfold partF
        rw [h k (by omega)]
        unfold suitL
        rw [h3]
        rfl
      · rw [or_bit, h2]
        constructor
        · rintro (⟨h4, h5⟩ | ⟨r, hr, rfl⟩)
          · exact ⟨h4, by omega⟩
          · have := suit_lt _ _ r hr
            rw [Nat.mul_comm (3 - k) 13]
            exact ⟨this.2, by omega⟩
        · rintro ⟨h4, h5⟩
          by_cases h6 : 13 * (4 - k) ≤ i
          · exact .inl ⟨h4, h6⟩
          · right
            refine ⟨i - (3 - k) * 13, ?_, by omega⟩
            unfold suitR
            rw [List.mem_filter, List.mem_reverse, List.mem_range]
            exact ⟨by omega, by rw [show 13 * (3 - k) + (i - (3 - k) * 13) = i by omega]; exact h4⟩
  obtain ⟨m, h1, h2⟩ := key 4 (Nat.le_refl _)
  rw [h1]
  congr 1
  apply Nat.eq_of_testBit_eq
  intro i
  have := h2 i
  rcases ha : m.testBit i with _ | _ <;> rcases hb : M.testBit i with _ | _
  · rfl
  · rw [this.2 ⟨hb, by omega⟩] at ha; cases ha
  · rw [(this.1 ha).1] at hb; cases hb
  · rfl
end Pl
end Go.Proofs.YtaadipccgckehaaDoor
