/- From the listed variables to the cells of the two tables; the heap that the program's door leaves meets the list. -/
import Derived.Test.YtdebhdjcacojeaaDoorRows
import Derived.Test.YtdebhdjcacojeaaDoorHand
import Derived.ProofKit
import Derived.LaidMore
import Derived.LaidSub
import Derived.OpenShut
import Derived.Stop.Joined
import Derived.Lib.LaidTab
namespace Go.Proofs.YtdebhdjcacojeaaDoor
open Go.ChangeShapes Go.WideShapes Go.ChangeAt Go.RowKit

theorem own : ownKnob Tryd.prog.godebug = none := by kernel_rfl
/-- What the rows list. -/
def laids : List (String × DataW Unit) := [("math/bits.deBruijn32tab", Rows.laid_math_bits_deBruijn32tab), ("math/bits.deBruijn64tab", Rows.laid_math_bits_deBruijn64tab), ("internal/strconv.uint64pow10", Rows.laid_internal_strconv_uint64pow10), ("finesse/hand.points", Rows.laid_finesse_hand_points), ("finesse/hand.controls", Rows.laid_finesse_hand_controls)]
theorem gPts : Tryd.prog.globalNamed "finesse/hand.points" = some 0 := by kernel_rfl
theorem gCtl : Tryd.prog.globalNamed "finesse/hand.controls" = some 1 := by kernel_rfl
theorem tPts : (Tryd.prog.globals[0]?).map (·.type) = some 31 := by kernel_rfl
theorem tCtl : (Tryd.prog.globals[1]?).map (·.type) = some 31 := by kernel_rfl
theorem cArr : Tryd.prog.cellsOf 31 = 4 := by kernel_rfl
theorem cInt : Tryd.prog.cellsOf 3 = 1 := by kernel_rfl

theorem tabs_of_laid {W : World} (h : laidMetH Tryd.prog laids W) : Tabs W := by
  rw [MakeChecks.laidMetH_plain _ _ _ (by kernel_rfl)] at h
  have h1 : laidMet Tryd.prog [("finesse/hand.points", Lib.tabData .i64 [1, 2, 3, 4])] W := h.filter (fun x => x.1 == "finesse/hand.points")
  have h2 : laidMet Tryd.prog [("finesse/hand.controls", Lib.tabData .i64 [0, 0, 1, 2])] W := h.filter (fun x => x.1 == "finesse/hand.controls")
  have t1 := Lib.tabIs_of_head gPts tPts Tryd.underlying31 Tryd.underlying3 cInt cArr h1
  have t2 := Lib.tabIs_of_head gCtl tCtl Tryd.underlying31 Tryd.underlying3 cInt cArr h2
  exact ⟨t1.cell gPts 0 (by decide), t1.cell gPts 1 (by decide), t1.cell gPts 2 (by decide), t1.cell gPts 3 (by decide), t2.cell gCtl 0 (by decide), t2.cell gCtl 1 (by decide), t2.cell gCtl 2 (by decide), t2.cell gCtl 3 (by decide)⟩
theorem door_met (os : Os) (args : Array Value) : laidMetH Tryd.prog laids ((World.doorLaid Tryd.prog 400 os).forCall (fun _ _ => 0) ⟨#[], args, []⟩).memory :=
  laidMetH_of_parts3 (fuel := 8) (laidMet_of_run' 8 (by kernel_rfl) (by kernel_rfl)) (by kernel_rfl) (by kernel_rfl)
theorem nat_of_u64 {n : Int} (h : (Lit.int .u64 n).wf = true) : ∃ b : Nat, n = (b : Int) := by
  have := bounds_u64 h
  exact ⟨n.toNat, by omega⟩
theorem nat_of_u8 {n : Int} (h : (Lit.int .u8 n).wf = true) : ∃ b : Nat, n = (b : Int) := by
  have := bounds_u8 h
  exact ⟨n.toNat, by omega⟩
end Go.Proofs.YtdebhdjcacojeaaDoor
