/- What made computes, in plain numbers. -/
import Derived.Test.YtgmofikhndlhcaaDoorNums
namespace Go.Proofs.YtgmofikhndlhcaaDoor
def madeP (l d r o : Nat) (v : Bool) : Nat :=
  base l d r + (if 100 ≤ base l d r then (if v then 500 else 300) else 50) + (if l = 6 then (if v then 750 else 500) else if l = 7 then (if v then 1500 else 1000) else 0) + 50 * r + o * each d r v
theorem madeP_eq (l d r o : Nat) (v : Bool) : madeP l d r o v = base l d r + (if 100 ≤ base l d r then (if v then 500 else 300) else 50) + (if l = 6 then (if v then 750 else 500) else if l = 7 then (if v then 1500 else 1000) else 0) + 50 * r + o * each d r v := rfl
theorem madeP_le (l d r o : Nat) (v : Bool) (hl : l ≤ 7) (hd : d ≤ 4) (hr : r ≤ 2) (ho : o ≤ 13) : madeP l d r o v ≤ 10000 := by
  have h1 : base l d r ≤ 220 * 4 := Nat.mul_le_mul (by have := Nat.mul_le_mul hl (val_le d); split <;> omega) (fac_le r)
  have h2 : each d r v ≤ 400 := by have := val_le d; have := moreP_le r v; unfold each; split <;> omega
  have h3 := Nat.mul_le_mul ho h2
  unfold madeP
  have a1 : (if 100 ≤ base l d r then (if v then 500 else 300) else 50) ≤ 500 := by
    repeat' split
    all_goals omega
  have a2 : (if l = 6 then (if v then 750 else 500) else if l = 7 then (if v then 1500 else 1000) else 0) ≤ 1500 := by
    repeat' split
    all_goals omega
  omega
attribute [irreducible] madeP
end Go.Proofs.YtgmofikhndlhcaaDoor
