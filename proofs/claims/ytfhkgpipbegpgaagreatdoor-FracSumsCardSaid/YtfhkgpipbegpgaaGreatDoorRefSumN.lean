/- The reference's Sum of no fraction. -/
import Derived.Test.YtfhkgpipbegpgaaGreatDoorSumW
import Derived.Test.YtfhkgpipbegpgaaGreatDoorInv
namespace Go.Proofs.YtfhkgpipbegpgaaGreatDoor
open Go Go.RowKit
set_option maxRecDepth 100000 in
set_option maxHeartbeats 1000000 in
theorem rsumn_nil (w : World) : Calls Tryz.prog 36 #[.slice none 0 0] w (RetF (0, 1, 0) w) := by
  go_enter Tryz.func36, Tryz.ntmps36
  go_wp2
  refine wp_loop_rounds 1 ?_
  rw [rounds_succ]
  go_wp2
  refine wp_loop_rounds 1 ?_
  rw [rounds_succ]
  go_wp2
  refine bodyPost_ret (v := .tuple #[.agg #[.int .i64 0, .int .i64 1], .int .i64 0]) (by simp [results, Tryz.results36, go_sem]) rfl ?_
  exact retF_mk rfl ((below1 w _).alloc (by simp) _)
end Go.Proofs.YtfhkgpipbegpgaaGreatDoor
