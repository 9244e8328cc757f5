/- Plain: the cards of a hand, the greatest first. No program. -/
import Derived.Test.YtaadipccgckehaaGreatDoorPlM
import Derived.Lib.ItoaNum
namespace Go.Proofs.YtaadipccgckehaaGreatDoor
namespace Pl

theorem top_range (m Y c : Nat) (hm : m = 2 ^ c + Y) (hY : Y < 2 ^ c) : ∀ n, c + 1 ≤ n → (List.range n).reverse.filter m.testBit = c :: (List.range n).reverse.filter Y.testBit := by
  have e : ∀ i, m.testBit i = (decide (c = i) || Y.testBit i) := fun i => by
    have h1 := Nat.two_pow_add_eq_or_of_lt hY 1
    rw [Nat.mul_one] at h1
    rw [hm, h1, Nat.testBit_or, Nat.testBit_two_pow]
  have hc : Y.testBit c = false := Nat.testBit_lt_two_pow hY
  intro n
  induction n with
  | zero => intro h; omega
  | succ n ih =>
    intro hn
    rw [range_rev]
    rcases Nat.lt_or_ge c n with h | h
    · have h1 : m.testBit n = false := by
        rw [e, Nat.testBit_lt_two_pow (Nat.lt_of_lt_of_le hY (Nat.pow_le_pow_right (by omega) (by omega)))]
        simp; omega
      have h2 : Y.testBit n = false := Nat.testBit_lt_two_pow (Nat.lt_of_lt_of_le hY (Nat.pow_le_pow_right (by omega) (by omega)))
      rw [List.filter_cons_of_neg (by simp [h1]), List.filter_cons_of_neg (by simp [h2])]
      exact ih (by omega)
    · obtain rfl : c = n := by omega
      rw [List.filter_cons_of_pos (by rw [e]; simp), List.filter_cons_of_neg (by simp [hc])]
      congr 1
      apply List.filter_congr
      intro r hr
      rw [List.mem_reverse, List.mem_range] at hr
      rw [e, decide_eq_false (by omega), Bool.false_or]
/-- The greatest card first. -/
theorem cards_top (m c : Nat) (h1 : 2 ^ c ≤ m) (h2 : m < 2 ^ (c + 1)) (hc : c < 52) : cardsL m = c :: cardsL (m - 2 ^ c) := by
  rw [Nat.pow_succ] at h2
  exact top_range m (m - 2 ^ c) c (by omega) (by omega) 52 (by omega)
theorem cards_0 : cardsL 0 = [] := by
  unfold cardsL
  rw [List.filter_eq_nil_iff]
  intro a _
  simp
theorem cards_lt (m : Nat) : ∀ c ∈ cardsL m, c < 52 := by
  intro c hc
  unfold cardsL at hc
  have := (List.mem_filter.1 hc).1
  rw [List.mem_reverse, List.mem_range] at this
  exact this
theorem cards_len (m : Nat) : (cardsL m).length ≤ 52 := by
  unfold cardsL
  exact Nat.le_trans (List.length_filter_le _ _) (by simp)
/-- The place of the greatest card. -/
theorem len_top (m : Nat) (h0 : m ≠ 0) (h : m < 4503599627370496) : ∃ c, c < 52 ∧ Lib.bitLen m = c + 1 ∧ 2 ^ c ≤ m ∧ m < 2 ^ (c + 1) := by
  have hb := Lib.bitLenAux_bounds 64 m (by omega) h0
  have he : Lib.bitLen m = Lib.bitLenAux 64 m := rfl
  obtain ⟨b1, b2, b3⟩ := hb
  refine ⟨Lib.bitLenAux 64 m - 1, ?_, by rw [he]; omega, b2, by rw [show Lib.bitLenAux 64 m - 1 + 1 = Lib.bitLenAux 64 m by omega]; exact b3⟩
  rcases Nat.lt_or_ge (Lib.bitLenAux 64 m - 1) 52 with h1 | h1
  · exact h1
  · have : 2 ^ 52 ≤ 2 ^ (Lib.bitLenAux 64 m - 1) := Nat.pow_le_pow_right (by omega) h1
    omega
/-- The parts of a hand's text behind some cards. -/
def partOf (pre : List Nat) (s : Nat) : List UInt8 := (pre.filter (fun c => decide (c / 13 = s))).map (fun c => sign (c % 13))
theorem part_nil (s : Nat) : partOf [] s = [] := rfl
theorem part_yes (pre : List Nat) (c : Nat) : partOf (pre ++ [c]) (c / 13) = partOf pre (c / 13) ++ [sign (c % 13)] := by
  unfold partOf
  rw [List.filter_append, List.map_append]
  simp
theorem part_other (pre : List Nat) (c s : Nat) (h : c / 13 ≠ s) : partOf (pre ++ [c]) s = partOf pre s := by
  unfold partOf
  rw [List.filter_append, List.map_append]
  simp [h]
theorem part_all (m s : Nat) (hs : s < 4) : partOf (cardsL m) s = suitL m s := cards_suit m s hs
theorem part_len (pre : List Nat) (s : Nat) : (partOf pre s).length ≤ pre.length := by
  unfold partOf
  rw [List.length_map]
  exact List.length_filter_le _ _
end Pl
end Go.Proofs.YtaadipccgckehaaGreatDoor
