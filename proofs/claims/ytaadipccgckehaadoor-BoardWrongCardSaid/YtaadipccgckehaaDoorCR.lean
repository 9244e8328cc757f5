/- What board.Read makes of a string. No program. -/
import Derived.Test.YtaadipccgckehaaDoorCQ
import Derived.Lib.CutLaws
import Derived.Lib.AtoiAll
namespace Go.Proofs.YtaadipccgckehaaDoor.Pl
open Go Go.Lib

theorem cut_first (c : UInt8) (a r : List UInt8) (h : ∀ x ∈ a, x ≠ c) : cut (a ++ c :: r) [c] = (a, r, true) := by
  unfold cut
  rw [index_one, index_first c r a h]
  rw [if_pos (by simp)]
  simp
theorem cut_none (c : UInt8) (a : List UInt8) (h : ∀ x ∈ a, x ≠ c) : cut a [c] = (a, [], false) := by
  unfold cut
  rw [index_one, index_no c a h]
  rfl
theorem cut_le (c : UInt8) (s : List UInt8) : (cut s [c]).1.length ≤ s.length ∧ (cut s [c]).2.1.length ≤ s.length := by
  unfold cut
  split
  · simp only [List.length_take, List.length_drop]; omega
  · simp
def okInt : NumEnd Int → Option Int
  | .ok n => some n
  | _ => none
def bnum (s : List UInt8) : Option Int := okInt (atoiAll (cut s [32]).1)
def brest (s : List UInt8) : List UInt8 := (cut (cut (cut s [32]).2.1 [32]).2.1 [32]).2.1
theorem brest_le (s : List UInt8) : (brest s).length ≤ s.length := by
  unfold brest
  have h1 := (cut_le 32 s).2
  have h2 := (cut_le 32 (cut s [32]).2.1).2
  have h3 := (cut_le 32 (cut (cut s [32]).2.1 [32]).2.1).2
  omega
def bokn (s : List UInt8) (n : Int) : Bool := decide (1 ≤ n ∧ n ≤ 128) && (rightB (dval (brest s)) && decide (textB n.toNat (dval (brest s)) = s))
def bok (s : List UInt8) : Bool := match bnum s with
  | none => false
  | some n => dok (brest s) && bokn s n
theorem num_atoi : ∀ n, n < 129 → atoiAll (numL n) = .ok (n : Int) := by decide +kernel
theorem seat_no (d : Nat) (hd : d < 4) : ∀ c ∈ seatW d, c ≠ 32 := by
  rcases (by omega : d = 0 ∨ d = 1 ∨ d = 2 ∨ d = 3) with rfl | rfl | rfl | rfl <;> decide
theorem word_no (d : Nat) : ∀ c ∈ wordW d, c ≠ 32 := by
  unfold wordW
  split
  · decide
  · split
    · decide
    · split <;> decide
theorem text_parts (n : Nat) (D : Nat → Nat) (h : n < 129) : bnum (textB n D) = some (n : Int) ∧ brest (textB n D) = textD D := by
  have e : textB n D = numL n ++ 32 :: (seatW (dealP n) ++ 32 :: (wordW (vulP n) ++ 32 :: textD D)) := by
    unfold textB
    simp only [sp_cons2, sp_one]
  have c1 : cut (textB n D) [32] = (numL n, seatW (dealP n) ++ 32 :: (wordW (vulP n) ++ 32 :: textD D), true) := by
    rw [e]; exact cut_first 32 _ _ (num_no n h)
  have c2 := cut_first 32 (seatW (dealP n)) (wordW (vulP n) ++ 32 :: textD D) (seat_no _ (Nat.mod_lt _ (by omega)))
  have c3 := cut_first 32 (wordW (vulP n)) (textD D) (word_no _)
  refine ⟨?_, ?_⟩
  · unfold bnum
    rw [c1]
    show okInt (atoiAll (numL n)) = _
    rw [num_atoi n h]
    rfl
  · unfold brest
    rw [c1]
    show (cut (cut (seatW (dealP n) ++ 32 :: (wordW (vulP n) ++ 32 :: textD D)) [32]).2.1 [32]).2.1 = _
    rw [c2]
    show (cut (wordW (vulP n) ++ 32 :: textD D) [32]).2.1 = _
    rw [c3]
theorem text_same {D E : Nat → Nat} (n : Nat) (h : ∀ k, k < 4 → D k = E k) : textB n D = textB n E := by
  unfold textB textD dealT
  rw [h 0 (by omega), h 1 (by omega), h 2 (by omega), h 3 (by omega)]
theorem bok_of {s : List UInt8} {n : Nat} {D : Nat → Nat} (h : IsB s n D) : bok s = true ∧ bnum s = some (n : Int) ∧ ∀ k, k < 4 → dval (brest s) k = D k := by
  obtain ⟨h1, h2, hr, rfl⟩ := h
  obtain ⟨e1, e2⟩ := text_parts n D (by omega)
  have hv : ∀ k, k < 4 → dval (brest (textB n D)) k = D k := by
    intro k hk
    rw [e2]
    exact dval_text D hr k hk
  refine ⟨?_, e1, hv⟩
  unfold bok
  rw [e1]
  show (dok (brest (textB n D)) && bokn (textB n D) (n : Int)) = true
  unfold bokn
  rw [right_same hv, Int.toNat_natCast, text_same n hv, e2, dok_text D hr, hr]
  simp
  omega
theorem bok_is {s : List UInt8} (h : bok s = true) : ∃ n : Nat, bnum s = some (n : Int) ∧ IsB s n (dval (brest s)) := by
  unfold bok at h
  cases hb : bnum s with
  | none => rw [hb] at h; cases h
  | some n =>
    rw [hb] at h
    simp only [bokn, Bool.and_eq_true, decide_eq_true_eq] at h
    obtain ⟨_, ⟨h1, h2⟩, h3, h4⟩ := h
    refine ⟨n.toNat, by rw [Int.toNat_of_nonneg (by omega)], by omega, by omega, h3, h4.symm⟩
end Go.Proofs.YtaadipccgckehaaDoor.Pl
