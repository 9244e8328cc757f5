/- Plain: decimal digits read one by one. -/
import Derived.Test.YtfhkgpipbegpgaaDoorBackP
namespace Go.Proofs.YtfhkgpipbegpgaaDoor

def foldN (l : List UInt8) : Nat := l.foldl (fun v c => 10 * v + (c.toNat - 48)) 0
def digB (l : List UInt8) : Bool := l.all (fun c => decide (48 ≤ c.toNat) && decide (c.toNat ≤ 57))
theorem foldN_nil : foldN [] = 0 := rfl
theorem foldN_snoc (l : List UInt8) (c : UInt8) : foldN (l ++ [c]) = 10 * foldN l + (c.toNat - 48) := by
  unfold foldN; rw [List.foldl_append]; rfl
theorem digB_snoc (l : List UInt8) (c : UInt8) : digB (l ++ [c]) = (digB l && (decide (48 ≤ c.toNat) && decide (c.toNat ≤ 57))) := by
  unfold digB; rw [List.all_append]; simp
theorem digB_nil : digB [] = true := rfl
theorem digB_take {l : List UInt8} {k : Nat} (h : digB (l.take k) = false) : digB l = false := by
  rw [← List.take_append_drop k l]
  unfold digB at h ⊢
  rw [List.all_append, h, Bool.false_and]
theorem foldN_lt_n (n : Nat) : ∀ l : List UInt8, l.length = n → digB l = true → foldN l < 10 ^ n := by
  induction n with
  | zero =>
    intro l hl _
    rw [List.eq_nil_of_length_eq_zero hl]; decide
  | succ n ih =>
    intro l hl h
    rcases List.eq_nil_or_concat l with e | ⟨m, c, e⟩
    · subst e; cases hl
    · rw [List.concat_eq_append] at e
      subst e
      rw [digB_snoc] at h
      simp only [Bool.and_eq_true, decide_eq_true_eq] at h
      have := ih m (by simpa using hl) h.1
      rw [foldN_snoc, Nat.pow_succ]
      omega
theorem foldN_lt (l : List UInt8) (h : digB l = true) : foldN l < 10 ^ l.length := foldN_lt_n _ l rfl h
/-- What natural returns. -/
def natF (l : List UInt8) : Nat × Bool := if (l.length = 0 ∨ 19 < l.length ∨ (1 < l.length ∧ l.head? = some 48)) ∨ digB l = false then (0, false) else (foldN l, true)
theorem natF_bad {l : List UInt8} (h : (l.length = 0 ∨ 19 < l.length ∨ (1 < l.length ∧ l.head? = some 48)) ∨ digB l = false) : natF l = (0, false) := by unfold natF; rw [if_pos h]
theorem natF_ok {l : List UInt8} (h : ¬ (l.length = 0 ∨ 19 < l.length ∨ (1 < l.length ∧ l.head? = some 48))) (h2 : digB l = true) : natF l = (foldN l, true) := by
  unfold natF; rw [if_neg (by rw [h2]; rintro (h' | h'); exact h h'; cases h')]
theorem fold_dec (u : Nat) : foldN (Lib.decDigits u) = u := by
  induction u using Nat.strongRecOn with
  | ind u ih =>
    rw [Lib.decDigits]
    by_cases h : u < 10
    · rw [dif_pos h, show [UInt8.ofNat (48 + u)] = [] ++ [UInt8.ofNat (48 + u)] from rfl, foldN_snoc, dig_nat h, foldN_nil]; omega
    · rw [dif_neg h, foldN_snoc, ih _ (by omega), dig_nat (by omega)]; omega
theorem digB_dec (u : Nat) : digB (Lib.decDigits u) = true := by
  unfold digB
  rw [List.all_eq_true]
  intro c hc
  have := dec_digit u c hc
  simp [this.1, this.2]
theorem natF_dec (k : Nat) (h : k < 10 ^ 19) : natF (Lib.decDigits k) = (k, true) := by
  have hl : (Lib.decDigits k).length ≤ 19 := dec19 k (by simpa using h)
  have hp := List.length_pos_iff.2 (dec_ne k)
  have := natF_ok (l := Lib.decDigits k) (by
    rintro (h' | h' | ⟨h1, h2⟩)
    · omega
    · omega
    · rcases hd : Lib.decDigits k with _ | ⟨c, r⟩
      · exact dec_ne _ hd
      · rw [hd] at h2
        have hc : c = 48 := by simpa using h2
        subst hc
        have hk := dec_lead k r hd
        subst hk
        rw [Lib.decDigits, dif_pos (by omega)] at h1
        simp at h1) (digB_dec k)
  rw [this, fold_dec]
attribute [irreducible] foldN digB natF
end Go.Proofs.YtfhkgpipbegpgaaDoor
