/- Whole loads, slices, structs and comparisons at operations that may be guarded. -/
import Derived.Test.YtpkmibmombpjpaaGreatDoorEQ
namespace Go.Proofs.YtpkmibmombpjpaaGreatDoor
open Go Go.RowKit

section
variable {ops : Array Oper} {rest : List Oper} {o : Oper} {a : Act} {Q : Exit → Act → World → Prop} {w w' : World}
theorem wpList_w (hw : Region.wanted o (yielded ops a.tmps) = true) (h : ∀ K : Act → World → Prop, (∀ a w, wpList Tryz.prog ops Q rest a w → K a w) → o.wp Tryz.prog a w K Q) : wpList Tryz.prog ops Q (o :: rest) a w :=
  wpList_step fun K hK => by rw [if_pos hw]; exact h K hK
theorem opl_val_w {v : Value} (hw : Region.wanted o (yielded ops a.tmps) = true) (hr : (execOp a.eval o).run Tryz.prog w = .ok (.value v) w') (h : wpList Tryz.prog ops Q rest (a.put o.dst v) w') : wpList Tryz.prog ops Q (o :: rest) a w := by
  refine wpList_w hw fun K hK => ?_
  unfold Oper.wp
  rw [hr, Oper.upon_value]
  exact hK _ _ h
theorem op_load_w {p C : Value} (T : TypeId) (s : Operand) (hw : Region.wanted o (yielded ops a.tmps) = true) (ho : o.op = .load T s) (hs : a.eval s = p) (hr : (Instr.loadAt T p).run Tryz.prog w = .ok C w)
    (h : wpList Tryz.prog ops Q rest (a.put o.dst C) w) : wpList Tryz.prog ops Q (o :: rest) a w := opl_val_w hw (exec_load ho hs hr) h
theorem op_bin_w {X Y : Array Value} {v : Value} (op : BinOp) (T U : TypeId) (x y : Operand) (hw : Region.wanted o (yielded ops a.tmps) = true) (ho : o.op = .binOp op T x y U) (hx : a.eval x = .agg X) (hy : a.eval y = .agg Y) (hm : Tryz.prog.eqGuardType Tryz.prog.depth T = false) (hr : (binOp op T (.agg X) (.agg Y)).run Tryz.prog w = .ok v w)
    (h : wpList Tryz.prog ops Q rest (a.put o.dst v) w) : wpList Tryz.prog ops Q (o :: rest) a w := opl_val_w hw (exec_bin ho hx hy hm hr) h
theorem op_agg_w {C : Array Value} (hw : Region.wanted o (yielded ops a.tmps) = true) (hr : (execOp a.eval o).run Tryz.prog w = .ok (.value (.agg C)) w)
    (h : wpList Tryz.prog ops Q rest (a.put o.dst (.agg C)) w) : wpList Tryz.prog ops Q (o :: rest) a w := opl_val_w hw hr h
end
end Go.Proofs.YtpkmibmombpjpaaGreatDoor
