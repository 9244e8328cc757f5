/- The plain law of ScoreParts. -/
import Derived.Test.YtgmofikhndlhcaaDoorGrowP
namespace Go.Proofs.YtgmofikhndlhcaaDoor

def gameP (d : Nat) : Nat := if d ≤ 1 then 5 else if d ≤ 3 then 4 else 3
def bonusP (l d : Nat) (v : Bool) : Int := if l = gameP d then (if v then 450 else 250) else 0
def eachP (v : Bool) (j : Nat) : Int := if j = 1 then (if v then 200 else 100) else if v then 300 else if j ≤ 3 then 200 else 300
def lastP (l d : Nat) (v : Bool) (j : Nat) : Int := if j = 0 then 0 else (ptsP l d 1 0 ((6 + l - j : Nat) : Int) v).1
def partB (l d k : Nat) (v : Bool) : Bool :=
  decide (k < 6 + l) || ((ptsP l d 0 0 k v).2 == 0 && (ptsP (l - 1) d 0 0 k v).2 == 0 && (ptsP l d 0 0 k v).1 == (ptsP (l - 1) d 0 0 k v).1 + bonusP l d v)
def lossB (l d j : Nat) (v : Bool) : Bool :=
  decide (6 + l < j) || ((ptsP l d 1 0 ((6 + l - j : Nat) : Int) v).2 == 0 && (ptsP l d 1 0 ((6 + l - j : Nat) : Int) v).1 == lastP l d v (j - 1) - eachP v j)
theorem part_fin : ∀ (l : Fin 4) (d : Fin 5) (k : Fin 14), partB (l.val + 2) d.val k.val false = true ∧ partB (l.val + 2) d.val k.val true = true := by decide +kernel
theorem loss_fin : ∀ (l : Fin 6) (d : Fin 5) (j : Fin 13), lossB (l.val + 2) d.val (j.val + 1) false = true ∧ lossB (l.val + 2) d.val (j.val + 1) true = true := by decide +kernel
end Go.Proofs.YtgmofikhndlhcaaDoor
