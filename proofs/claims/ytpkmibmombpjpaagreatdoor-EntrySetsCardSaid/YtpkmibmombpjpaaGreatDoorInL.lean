/- Whole loads and stores inside the fence that asks nothing. -/
import Derived.Test.YtpkmibmombpjpaaGreatDoorRow
import Derived.Test.YtpkmibmombpjpaaGreatDoorIn
namespace Go.Proofs.YtpkmibmombpjpaaGreatDoor
open Go Go.RowKit

section
variable {n : Nat} {ops : Array Oper} {rest : List Oper} {o : Oper} {a : Act} {Q : Exit → Act → World → Prop} {w w' : World} {p C : Value}
theorem in_load (T : TypeId) (s : Operand) (hg : o.guard = none) (ho : o.op = .load T s) (hs : a.eval s = p) (hr : (Instr.loadAt T p).run Tryz.prog w = .ok C w)
    (h : wpListIn Fence.wide n Tryz.prog ops Q rest (a.put o.dst C) w) : wpListIn Fence.wide n Tryz.prog ops Q (o :: rest) a w := by
  refine wpListIn_plain hg fun K hK => ⟨fun _ _ => trivial, ?_⟩
  have e : (o.semAt Fence.wide.round a.eval).run Tryz.prog w = .ok (.value C) w := exec_load ho hs hr
  rw [e, Oper.uponIn_value]
  exact hK _ _ h
theorem round_load {l : Nat} (T : TypeId) (s : Operand) (hg : o.guard = none) (ho : o.op = .load T s) (hs : a.eval s = p) (hr : (Instr.loadAt T p).run Tryz.prog w = .ok C w)
    (h : wpListIn (Fence.wide.inRound l) n Tryz.prog ops Q rest (a.put o.dst C) w) : wpListIn (Fence.wide.inRound l) n Tryz.prog ops Q (o :: rest) a w := by
  refine wpListIn_plain hg fun K hK => ⟨fun _ _ => trivial, ?_⟩
  have e : (o.semAt (Fence.wide.inRound l).round a.eval).run Tryz.prog w = .ok (.value C) w := by
    rw [Fence.inRound_round, Oper.semAt_some l _ _ (fun c hc => by rw [ho] at hc; cases hc)]
    exact exec_load ho hs hr
  rw [e, Oper.uponIn_value]
  exact hK _ _ h
theorem in_store (T : TypeId) (s x : Operand) (hg : o.guard = none) (hd : o.dst = none) (ho : o.op = .store T s x) (hs : a.eval s = p) (hx : a.eval x = C) (hr : (Instr.storeAt T p C).run Tryz.prog w = .ok () w')
    (h : wpListIn Fence.wide n Tryz.prog ops Q rest a w') : wpListIn Fence.wide n Tryz.prog ops Q (o :: rest) a w := by
  refine wpListIn_plain hg fun K hK => ⟨fun _ _ => trivial, ?_⟩
  have e : (o.semAt Fence.wide.round a.eval).run Tryz.prog w = .ok .skip w' := exec_store ho hs hx hr
  rw [e, Oper.uponIn_skip, hd]
  exact hK _ _ h
end
end Go.Proofs.YtpkmibmombpjpaaGreatDoor
