/- Plain law: points grow with the tricks, and with the risk. -/
import Derived.Test.YtgmofikhndlhcaaDoorMadeC
namespace Go.Proofs.YtgmofikhndlhcaaDoor
theorem ptsP_s (l d r s : Nat) (k : Int) (v : Bool) (hl : 1 ≤ l) (hs : s ≤ 3) : ptsP l d r s k v = ptsP l d r 0 k v := by
  have h1 : rgt l d r s = rgt l d r 0 := by
    unfold rgt
    rw [decide_eq_decide]
    omega
  have h2 : resP l d r s k = resP l d r 0 k := by
    unfold resP
    rw [h1]
  unfold ptsP
  rw [h2]
def growB (l d r k : Nat) (v : Bool) : Bool :=
  (ptsP l d r 0 k v).2 == 0 && (ptsP l d r 0 k v).1.tmod 10 == 0 && decide (-7600 ≤ (ptsP l d r 0 k v).1) && decide ((ptsP l d r 0 k v).1 ≤ 3160) && (ptsP l d r 0 k v).1 != 0 &&
  (decide (13 ≤ k) || (ptsP l d r 0 (k + 1 : Nat) v).2 == 0 && decide ((ptsP l d r 0 k v).1 < (ptsP l d r 0 (k + 1 : Nat) v).1)) &&
  (decide (0 < (ptsP l d r 0 k v).1) == decide (6 + l ≤ k)) &&
  (decide (2 ≤ r) || (ptsP l d (r + 1) 0 k v).2 == 0 && (ptsP l d (r + 1) 0 k v).1 != (ptsP l d r 0 k v).1 && (decide ((ptsP l d r 0 k v).1 < (ptsP l d (r + 1) 0 k v).1) == decide (6 + l ≤ k))) &&
  (ptsP l d r 0 k false).2 == 0 && (ptsP l d r 0 k true).2 == 0 && (decide ((ptsP l d r 0 k true).1 < (ptsP l d r 0 k false).1) == !decide (6 + l ≤ k))
theorem grow_fin : ∀ (l : Fin 7) (d : Fin 5) (r : Fin 3) (k : Fin 14), growB (l.val + 1) d.val r.val k.val false = true ∧ growB (l.val + 1) d.val r.val k.val true = true := by decide +kernel
end Go.Proofs.YtgmofikhndlhcaaDoor
