/- From the listed variables to the cells of the table; the heap that the program's door leaves meets the list. -/
import Derived.Test.YtidpfggikighlaaDoorRows
import Derived.Test.YtidpfggikighlaaDoorGL
import Derived.ProofKit
import Derived.LaidMore
import Derived.LaidSub
import Derived.OpenShut
import Derived.Stop.Joined
import Derived.Lib.LaidTab
namespace Go.Proofs.YtidpfggikighlaaDoor
open Go.ChangeShapes Go.WideShapes Go.ChangeAt Go.RowKit

theorem own : ownKnob Tryd.prog.godebug = none := by kernel_rfl
/-- What the rows list. -/
def laids : List (String × DataW Unit) := [("math/bits.deBruijn32tab", Rows.laid_math_bits_deBruijn32tab), ("math/bits.deBruijn64tab", Rows.laid_math_bits_deBruijn64tab), ("internal/strconv.uint64pow10", Lib.tabData .u64 Lib.pow10Tab)]
theorem tPow : (Tryd.prog.globals[2]?).map (·.type) = some 149 := by kernel_rfl
theorem cU64 : Tryd.prog.cellsOf 133 = 1 := by kernel_rfl
theorem c20 : Tryd.prog.cellsOf 149 = 20 := by kernel_rfl
theorem env_of_laid {W : World} (h : laidMetH Tryd.prog laids W) : Env W := by
  rw [MakeChecks.laidMetH_plain _ _ _ (by kernel_rfl)] at h
  have h0 : laidMet Tryd.prog [("internal/strconv.uint64pow10", Lib.tabData .u64 Lib.pow10Tab)] W := h.filter (fun x => x.1 == "internal/strconv.uint64pow10")
  exact Lib.tabIs_of_head gPow tPow Tryd.underlying149 Tryd.underlying133 cU64 c20 h0
theorem door_met (os : Os) (args : Array Value) : laidMetH Tryd.prog laids ((World.doorLaid Tryd.prog 400 os).forCall (fun _ _ => 0) ⟨#[], args, []⟩).memory :=
  laidMetH_of_parts3 (fuel := 8) (laidMet_of_run' 8 (by kernel_rfl) (by kernel_rfl)) (by kernel_rfl) (by kernel_rfl)
theorem nat_of_u32 {n : Int} (h : (Lit.int .u32 n).wf = true) : ∃ b : Nat, n = (b : Int) := by
  have := bounds_u32 h
  exact ⟨n.toNat, by omega⟩
theorem u32_lt {b : Nat} (h : (Lit.int .u32 (b : Int)).wf = true) : b < 4294967296 := by
  have := bounds_u32 h
  omega
theorem nat_of_u8 {n : Int} (h : (Lit.int .u8 n).wf = true) : ∃ b : Nat, n = (b : Int) := by
  have := bounds_u8 h
  exact ⟨n.toNat, by omega⟩
theorem u8_lt {b : Nat} (h : (Lit.int .u8 (b : Int)).wf = true) : b < 256 := by
  have := bounds_u8 h
  omega
end Go.Proofs.YtidpfggikighlaaDoor
