/- Guarded operations of a drawn region, walked in a flow: their guard is known to hold. No program. -/
import Derived.Test.YtpkmibmombpjpaaGreatDoorFlM
namespace Go.Proofs.YtpkmibmombpjpaaGreatDoor
open Go Go.RowKit
section
variable {P : Program} {ops : Array Oper}
theorem wanted_of {o : Oper} {a : Act} {j s : Nat} {b : Bool} (hg : o.guard = some (j, b)) (hd : (ops[j]?).bind (·.dst) = some s) (hv : a.eval (.tmp s) = .bool b) : Region.wanted o (yielded ops a.tmps) = true := by
  have h : a.tmps[s]? = some (.bool b) := by
    have e := eval_get hv
    cases ht : a.tmps[s]? with
    | none => rw [ht] at e; cases e
    | some v => rw [ht] at e; exact congrArg some e
  unfold Region.wanted yielded
  simp [hg, hd, h]
theorem op_val_w {o : Oper} {a : Act} {w : World} {K : Act → World → Prop} {Q : Exit → Act → World → Prop} {v : Value} {w' : World} (hw : Region.wanted o (yielded ops a.tmps) = true) (hrun : (execOp a.eval o).run P w = .ok (.value v) w') (hK : K (a.put o.dst v) w') : wpList P ops (Exit.then K Q) [o] a w := by
  refine wpList_step fun K' hK' => ?_
  rw [if_pos hw]
  unfold Oper.wp
  rw [hrun, Oper.upon_value]
  exact hK' _ _ hK
theorem op_call_w {o : Oper} {a : Act} {w : World} {K : Act → World → Prop} {Q : Exit → Act → World → Prop} {f : FuncId} {args : Array Value} {R : Value → World → Prop} (hw : Region.wanted o (yielded ops a.tmps) = true) (hrun : (execOp a.eval o).run P w = .ok (.enter f args) w) (hc : Calls P f args w fun e w'' => ∃ v, e = .returned v ∧ R v w'') (hK : ∀ v w'', R v w'' → K (a.put o.dst v) w'') : wpList P ops (Exit.then K Q) [o] a w := by
  refine wpList_step fun K' hK' => ?_
  rw [if_pos hw]
  unfold Oper.wp
  rw [hrun, Oper.upon_enter]
  refine hc.mono fun e w'' hh => ?_
  obtain ⟨v, rfl, hR⟩ := hh
  exact hK' _ _ (hK _ _ hR)
end
end Go.Proofs.YtpkmibmombpjpaaGreatDoor
