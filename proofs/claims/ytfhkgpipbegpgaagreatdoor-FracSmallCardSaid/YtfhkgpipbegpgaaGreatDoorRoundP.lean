/- What Round writes. Plain Lean, no program. -/
import Derived.Test.YtfhkgpipbegpgaaGreatDoorOps3
import Derived.Lib.Repeat
namespace Go.Proofs.YtfhkgpipbegpgaaGreatDoor

def p10 (k : Nat) : Nat := 10 ^ k
theorem p10_zero : p10 0 = 1 := rfl
theorem p10_succ (k : Nat) : p10 (k + 1) = p10 k * 10 := rfl
theorem p10_pos (k : Nat) : 0 < p10 k := Nat.pow_pos (by omega)
theorem p10_le (k : Nat) (h : k ≤ 9) : p10 k ≤ 1000000000 := Nat.pow_le_pow_right (n := 10) (by omega) h
theorem p10_eq (k : Nat) : p10 k = 10 ^ k := rfl
attribute [irreducible] p10
/-- The number that is written, without its point. -/
def roundT (N D k : Nat) : Nat := nearN (N * p10 k) D
theorem round_parts (N D k : Nat) (hD : 0 < D) (p1 wh pt : Nat)
    (h1 : p1 = (N % D * p10 k) / D + if D ≤ 2 * ((N % D * p10 k) % D) then 1 else 0)
    (h2 : wh = if p1 = p10 k then N / D + 1 else N / D) (h3 : pt = if p1 = p10 k then 0 else p1) :
    wh = roundT N D k / p10 k ∧ pt = roundT N D k % p10 k ∧ pt < p10 k := by
  have hU := p10_pos k
  have hlt : (N % D * p10 k) / D < p10 k := by
    rw [Nat.div_lt_iff_lt_mul hD, Nat.mul_comm (p10 k)]
    exact Nat.mul_lt_mul_of_pos_right (Nat.mod_lt _ hD) hU
  have e : N * p10 k = N % D * p10 k + D * (N / D * p10 k) := by
    have h := Nat.div_add_mod N D
    calc N * p10 k = (D * (N / D) + N % D) * p10 k := by rw [h]
      _ = _ := by rw [Nat.add_mul, Nat.add_comm, Nat.mul_assoc]
  have eT : roundT N D k = N / D * p10 k + p1 := by
    unfold roundT nearN
    rw [e, Nat.add_mul_div_left _ _ hD, Nat.add_mul_mod_self_left, h1]
    omega
  have hp : p1 ≤ p10 k := by rw [h1]; split <;> omega
  rw [eT, h2, h3]
  by_cases hx : p1 = p10 k
  · simp only [if_pos hx]
    rw [hx, show N / D * p10 k + p10 k = (N / D + 1) * p10 k by rw [Nat.succ_mul]]
    exact ⟨(Nat.mul_div_cancel _ hU).symm, (Nat.mul_mod_left _ _).symm, hU⟩
  · simp only [if_neg hx]
    have : p1 < p10 k := by omega
    rw [Nat.add_comm, Nat.add_mul_div_right _ _ hU, Nat.add_mul_mod_self_right, Nat.div_eq_of_lt this, Nat.mod_eq_of_lt this]
    exact ⟨by omega, rfl, this⟩
/-- The text with so many digits behind the point. -/
def roundL (neg : Bool) (k T : Nat) : List UInt8 :=
  (if neg = true ∧ 0 < T then [45] else []) ++ (Lib.decDigits (T / p10 k) ++ if k = 0 then [] else 46 :: (List.replicate (k - (Lib.decDigits (T % p10 k)).length) 48 ++ Lib.decDigits (T % p10 k)))
theorem repeat48 (c : Nat) : Lib.repeatL [48] c = List.replicate c 48 := by
  induction c with
  | zero => rfl
  | succ c ih =>
    rw [List.replicate_succ]
    have : Lib.repeatL [48] (c + 1) = [48] ++ Lib.repeatL [48] c := by
      simp [Lib.repeatL]
    rw [this, ih]; rfl
end Go.Proofs.YtfhkgpipbegpgaaGreatDoor
