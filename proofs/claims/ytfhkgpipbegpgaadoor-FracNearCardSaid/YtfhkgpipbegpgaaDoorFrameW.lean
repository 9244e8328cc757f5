/- Bounds of the laws' wide parameters. -/
import Derived.Test.YtfhkgpipbegpgaaDoorFrame
namespace Go.Proofs.YtfhkgpipbegpgaaDoor
open Go Go.ChangeShapes Go.ChangeMaps Go.WideShapes Go.ChangeAt Go.WideMaps Go.WideElems Go.RowKit
theorem i64_of {n : Int} (h : (Lit.int .i64 n).wf = true) : -9223372036854775808 ≤ n ∧ n ≤ 9223372036854775807 := by
  have := bounds_i64 h
  omega
theorem u8_of {n : Int} (h : (Lit.int .u8 n).wf = true) : 0 ≤ n ∧ n ≤ 255 := by
  have := bounds_u8 h
  omega
end Go.Proofs.YtfhkgpipbegpgaaDoor
