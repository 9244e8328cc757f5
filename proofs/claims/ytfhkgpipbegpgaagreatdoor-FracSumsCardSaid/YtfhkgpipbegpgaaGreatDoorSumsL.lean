/- FracSums returns true, if sums does. -/
import Derived.Test.YtfhkgpipbegpgaaGreatDoorSums
import Derived.Test.YtfhkgpipbegpgaaGreatDoorAwake
namespace Go.Proofs.YtfhkgpipbegpgaaGreatDoor
open Go Go.RowKit

set_option maxRecDepth 100000 in
set_option maxHeartbeats 4000000 in
theorem fracsums_of (n d : Int) (A : Option Addr) (N cap : Nat) (w : World) (he : Env w) (S : Calls Tryz.prog 8 #[.int .i64 n, .int .i64 d, .slice A N cap] w (RetBool true w)) :
    Calls Tryz.prog 4 #[.int .i64 n, .int .i64 d, .slice A N cap] w (RetBool true w) := by
  have HE := Lib.hid he
  have R1 := Lib.hid S
  clear he S
  go_enter Tryz.func4, Tryz.ntmps4
  go_wp2_with fail
  refine R1.out.mono ?_
  rintro e w1 ⟨rfl, hb⟩
  have AW := Lib.hid (awake_any w1 (HE.out.keep hb))
  have HB := Lib.hid hb
  clear hb R1
  go_wp2_with fail
  refine AW.out.mono ?_
  rintro e w2 ⟨rfl, hb⟩
  have HB2 := Lib.hid (bchain HB.out hb)
  clear hb AW
  go_wp2
  go_ret
  exact ⟨rfl, HB2.out⟩
end Go.Proofs.YtfhkgpipbegpgaaGreatDoor
