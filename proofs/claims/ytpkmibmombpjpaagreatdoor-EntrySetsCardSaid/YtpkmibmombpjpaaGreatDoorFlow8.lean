/- Guarded operations of a drawn region that are passed over, in a flow. No program. -/
import Derived.Test.YtpkmibmombpjpaaGreatDoorFlow5
namespace Go.Proofs.YtpkmibmombpjpaaGreatDoor
open Go Go.RowKit
section
variable {P : Program} {ops : Array Oper}
theorem unwanted_of {o : Oper} {a : Act} {j s : Nat} {b : Bool} (hg : o.guard = some (j, b)) (hd : (ops[j]?).bind (·.dst) = some s) (hv : a.eval (.tmp s) = .bool (!b)) : Region.wanted o (yielded ops a.tmps) = false := by
  have h : a.tmps[s]? = some (.bool (!b)) := by
    have e := eval_get hv
    cases ht : a.tmps[s]? with
    | none => rw [ht] at e; cases e
    | some v => rw [ht] at e; exact congrArg some e
  unfold Region.wanted yielded
  cases b <;> simp_all
theorem op_pass {o : Oper} {a : Act} {w : World} {K : Act → World → Prop} {Q : Exit → Act → World → Prop} (hw : Region.wanted o (yielded ops a.tmps) = false) (hK : K (a.put o.dst undef) w) : wpList P ops (Exit.then K Q) [o] a w := by
  refine wpList_step fun K' hK' => ?_
  rw [if_neg (by rw [hw]; simp)]
  exact hK' _ _ hK
end
end Go.Proofs.YtpkmibmombpjpaaGreatDoor
