/- Strings split at one byte; what card.Parse makes of a string. No program. -/
import Derived.Test.YtaadipccgckehaaDoorBV
import Derived.Lib.SplitLaws
import Derived.Lib.IndexBytes
namespace Go.Proofs.YtaadipccgckehaaDoor.Pl
open Go Go.Lib

theorem index_first (c : UInt8) (r : List UInt8) : ∀ a : List UInt8, (∀ x ∈ a, x ≠ c) → indexByte (a ++ c :: r) c = (a.length : Int)
  | [], _ => by simp [indexByte]
  | x :: a, h => by
    have h1 := index_first c r a (fun y hy => h y (by simp [hy]))
    have h2 := h x (by simp)
    simp only [List.cons_append, indexByte, h1]
    rw [if_neg (by simpa using h2), if_neg (by simp)]
    simp
theorem index_no (c : UInt8) : ∀ a : List UInt8, (∀ x ∈ a, x ≠ c) → indexByte a c = -1
  | [], _ => rfl
  | x :: a, h => by
    have h1 := index_no c a (fun y hy => h y (by simp [hy]))
    simp only [indexByte, h1]
    rw [if_neg (by simpa using h x (by simp))]
    rfl
theorem split_word (c : UInt8) (k : Nat) (a r : List UInt8) (h : ∀ x ∈ a, x ≠ c) : splitK [c] 0 (k + 1) (a ++ c :: r) = a :: splitK [c] 0 k r := by
  rw [splitK, index_one, index_first c r a h]
  rw [if_neg (by simp)]
  simp
theorem split_last (c : UInt8) (k : Nat) (a : List UInt8) (h : ∀ x ∈ a, x ≠ c) : splitK [c] 0 k a = [a] := by
  cases k with
  | zero => rfl
  | succ k => unfold splitK; rw [index_one, index_no c a h]; rfl
/-- The pieces of a string at a byte, 3 cuts at most. -/
def pieces (c : UInt8) (s : List UInt8) (i : Nat) : List UInt8 := (splitK [c] 0 3 s).getD i []
theorem pieces_four (c : UInt8) (a b d e : List UInt8) (ha : ∀ x ∈ a, x ≠ c) (hb : ∀ x ∈ b, x ≠ c) (hd : ∀ x ∈ d, x ≠ c) (he : ∀ x ∈ e, x ≠ c) : splitK [c] 0 3 (a ++ c :: (b ++ c :: (d ++ c :: e))) = [a, b, d, e] := by
  rw [split_word c 2 a _ ha, split_word c 1 b _ hb, split_word c 0 d _ hd, split_last c 0 e he]
theorem count_no (c : UInt8) (a : List UInt8) (h : ∀ x ∈ a, x ≠ c) : a.count c = 0 := List.count_eq_zero.2 (fun hm => h c hm rfl)
theorem count_four (c : UInt8) (a b d e : List UInt8) (ha : ∀ x ∈ a, x ≠ c) (hb : ∀ x ∈ b, x ≠ c) (hd : ∀ x ∈ d, x ≠ c) (he : ∀ x ∈ e, x ≠ c) : (a ++ c :: (b ++ c :: (d ++ c :: e))).count c = 3 := by
  simp [List.count_append, count_no c a ha, count_no c b hb, count_no c d hd, count_no c e he]
/-- card.Parse. -/
def cparse (s : List UInt8) : Option Nat := if 55 < s.length ∨ s.count 46 ≠ 3 then none else parseTo (pieces 46 s) 4
theorem write_len (m : Nat) : (writeL m).length ≤ 55 := by
  have h0 := suit_len m 0
  have h1 := suit_len m 1
  have h2 := suit_len m 2
  have h3 := suit_len m 3
  unfold writeL
  simp only [List.length_append, List.length_cons]
  omega
theorem cparse_write (M : Nat) (hM : M < 4503599627370496) : cparse (writeL M) = some M := by
  have n := fun s x hx => (suit_no M s x hx).1
  unfold cparse
  rw [if_neg]
  · refine parse_write M hM _ (fun i hi => ?_)
    unfold pieces writeL
    rw [pieces_four 46 _ _ _ _ (n 3) (n 2) (n 1) (n 0)]
    rcases (by omega : i = 0 ∨ i = 1 ∨ i = 2 ∨ i = 3) with rfl | rfl | rfl | rfl <;> rfl
  · have h1 := write_len M
    have h2 : (writeL M).count 46 = 3 := by unfold writeL; exact count_four 46 _ _ _ _ (n 3) (n 2) (n 1) (n 0)
    omega
theorem parseTo_no (ps : Nat → List UInt8) (k : Nat) (h : parseTo ps k = none) : ∀ n, k ≤ n → parseTo ps n = none := by
  intro n
  induction n with
  | zero => intro hk; have e : k = 0 := by omega
            rw [← e]; exact h
  | succ n ih =>
    intro hk
    by_cases hkn : k = n + 1
    · rw [← hkn]; exact h
    · rw [parseTo, ih (by omega)]; rfl
theorem pfold_none (b : Nat) : ∀ l : List UInt8, l.foldl (pstep b) none = none
  | [] => rfl
  | _ :: l => by rw [List.foldl_cons]; exact pfold_none b l
theorem pfold_no (b : Nat) (l : List UInt8) (j : Nat) (st : Option (Nat × Int)) (h : (l.take j).foldl (pstep b) st = none) : l.foldl (pstep b) st = none := by
  rw [← List.take_append_drop j l, List.foldl_append, h]; exact pfold_none b _
theorem pfold_next (b : Nat) (l : List UInt8) (j : Nat) (c : UInt8) (st : Option (Nat × Int)) (hc : l[j]? = some c) : (l.take (j + 1)).foldl (pstep b) st = pstep b ((l.take j).foldl (pstep b) st) c := by
  rw [List.take_add_one, hc]; simp
theorem pstep_no (b m : Nat) (last : Int) (c : UInt8) (h : rkI c < 0 ∨ last ≤ rkI c) : pstep b (some (m, last)) c = none := by simp [pstep, h]
theorem pstep_ok (b m : Nat) (last : Int) (c : UInt8) (h : ¬ (rkI c < 0 ∨ last ≤ rkI c)) : pstep b (some (m, last)) c = some (m ||| 2 ^ (b + (rkI c).toNat), rkI c) := by simp [pstep, h]
theorem parseTo_step (ps : Nat → List UInt8) (k m m' : Nat) (l : Int) (h : parseTo ps k = some m) (h2 : (ps k).foldl (pstep ((3 - k) * 13)) (some (m, 13)) = some (m', l)) : parseTo ps (k + 1) = some m' := by
  rw [parseTo, h]; simp [partF, h2]
theorem parseTo_fail (ps : Nat → List UInt8) (k m : Nat) (h : parseTo ps k = some m) (h2 : (ps k).foldl (pstep ((3 - k) * 13)) (some (m, 13)) = none) : parseTo ps (k + 1) = none := by
  rw [parseTo, h]; simp [partF, h2]
end Go.Proofs.YtaadipccgckehaaDoor.Pl
