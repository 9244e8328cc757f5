/- The journal's records, checks and lines as lists of bytes. Plain Lean, no program. -/
import Derived.Lib.ItoaNum
import Derived.Lib.Bytealg
namespace Go.Proofs.YtbompgfjlllioaaDoor

/-- Is it a byte of a record? -/
def okB (b : UInt8) : Bool := decide (32 ≤ b.toNat) && decide (b.toNat ≤ 126)
def rightL (l : List UInt8) : Bool := decide (l.length ≤ 200) && l.all okB
def sumF (x : Nat) (l : List UInt8) : Nat := l.foldl (fun x b => (31 * x + b.toNat) % 9973) x
def sumL (x : Nat) (l : List UInt8) : Nat := (31 * sumF x l + l.length) % 9973
def figL (c : Nat) : List UInt8 := [UInt8.ofNat (48 + c / 1000), UInt8.ofNat (48 + c / 100 % 10), UInt8.ofNat (48 + c / 10 % 10), UInt8.ofNat (48 + c % 10)]
def lineL (x : Nat) (l : List UInt8) : List UInt8 := figL (sumL x l) ++ [32] ++ l ++ [10]
/-- Why there is no check. -/
def failP (x : Int) (l : List UInt8) : Int := if x < 0 ∨ 9973 ≤ x then 2 else if rightL l then 0 else 422
def checkP (x : Int) (l : List UInt8) : Int × Int := if failP x l = 0 then ((sumL x.toNat l : Nat), 0) else (0, failP x l)
def lineP (x : Int) (l : List UInt8) : List UInt8 × Int := if failP x l = 0 then (lineL x.toNat l, 0) else ([], failP x l)

theorem rightL_nil : rightL [] = true := rfl
theorem sumF_nil (x : Nat) : sumF x [] = x := rfl
theorem sumF_snoc (x : Nat) (l : List UInt8) (b : UInt8) : sumF x (l ++ [b]) = (31 * sumF x l + b.toNat) % 9973 := by
  unfold sumF; rw [List.foldl_append]; rfl
theorem sumF_lt (x : Nat) (l : List UInt8) (h : x < 9973) : sumF x l < 9973 := by
  unfold sumF
  induction l generalizing x with
  | nil => exact h
  | cons b r ih => exact ih _ (Nat.mod_lt _ (by decide))
theorem sumL_lt (x : Nat) (l : List UInt8) : sumL x l < 9973 := Nat.mod_lt _ (by decide)
theorem figL_len (c : Nat) : (figL c).length = 4 := rfl
theorem lineL_len (x : Nat) (l : List UInt8) : (lineL x l).length = l.length + 6 := by
  unfold lineL; simp only [List.length_append, figL_len, List.length_cons, List.length_nil]; omega
theorem take_next (l : List UInt8) (k : Nat) (h : k < l.length) : l.take (k + 1) = l.take k ++ [l[k]] := by
  rw [List.take_add_one, List.getElem?_eq_getElem h]; rfl
theorem all_take {l : List UInt8} {k : Nat} (h : k < l.length) (h0 : (l.take k).all okB = true) (h1 : okB l[k] = true) : (l.take (k + 1)).all okB = true := by
  rw [take_next l k h, List.all_append, h0]; simp [h1]
theorem not_all {l : List UInt8} {k : Nat} (h : k < l.length) (h1 : okB l[k] = false) : l.all okB = false := by
  rw [List.all_eq_false]
  exact ⟨l[k], List.getElem_mem h, by simp [h1]⟩
theorem okB_t {b : UInt8} (h0 : 32 ≤ b.toNat) (h1 : b.toNat ≤ 126) : okB b = true := by unfold okB; simp [h0, h1]
theorem okB_f {b : UInt8} (h : b.toNat < 32 ∨ 126 < b.toNat) : okB b = false := by
  unfold okB
  rcases h with h | h
  · have : decide (32 ≤ b.toNat) = false := decide_eq_false (by omega)
    rw [this]; rfl
  · have : decide (b.toNat ≤ 126) = false := decide_eq_false (by omega)
    rw [this, Bool.and_false]
theorem okB_of {b : UInt8} (h : okB b = true) : 32 ≤ b.toNat ∧ b.toNat ≤ 126 := by
  unfold okB at h; simpa using h
theorem rightL_long {l : List UInt8} (h : 200 < l.length) : rightL l = false := by
  unfold rightL
  have : decide (l.length ≤ 200) = false := decide_eq_false (by omega)
  rw [this]; rfl
theorem rightL_short {l : List UInt8} (h : l.length ≤ 200) : rightL l = l.all okB := by
  unfold rightL
  have : decide (l.length ≤ 200) = true := decide_eq_true h
  rw [this]; rfl
theorem rightL_len {l : List UInt8} (h : rightL l = true) : l.length ≤ 200 := by
  unfold rightL at h; simp only [Bool.and_eq_true, decide_eq_true_eq] at h; exact h.1
theorem rightL_all {l : List UInt8} (h : rightL l = true) : l.all okB = true := by
  unfold rightL at h; simp only [Bool.and_eq_true, decide_eq_true_eq] at h; exact h.2
theorem dec1 (u : Nat) (h : ¬ u < 10) : Lib.decDigits u = Lib.decDigits (u / 10) ++ [UInt8.ofNat (48 + u % 10)] := by
  rw [Lib.decDigits, dif_neg h]
theorem dec0 (u : Nat) (h : u < 10) : Lib.decDigits u = [UInt8.ofNat (48 + u)] := by
  rw [Lib.decDigits, dif_pos h]
/-- The four last digits of 10000 + c. -/
theorem itoa_fig (c : Nat) (h : c < 10000) : Lib.itoa (10000 + (c : Int)) = 49 :: figL c := by
  unfold Lib.itoa
  rw [if_neg (by omega), show (10000 + (c : Int)).toNat = 10000 + c by omega]
  rw [dec1 _ (by omega), dec1 _ (by omega), dec1 _ (by omega), dec1 _ (by omega), dec0 _ (by omega)]
  rw [show (10000 + c) / 10 / 10 / 10 / 10 = 1 by omega, show (10000 + c) / 10 / 10 / 10 % 10 = c / 1000 by omega, show (10000 + c) / 10 / 10 % 10 = c / 100 % 10 by omega, show (10000 + c) / 10 % 10 = c / 10 % 10 by omega, show (10000 + c) % 10 = c % 10 by omega]
  rfl
end Go.Proofs.YtbompgfjlllioaaDoor
