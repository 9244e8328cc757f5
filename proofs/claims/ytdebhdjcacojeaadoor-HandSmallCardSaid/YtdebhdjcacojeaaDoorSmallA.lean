/- The walk of HandSmall. -/
import Derived.Test.YtdebhdjcacojeaaDoorSame
import Derived.Deep.CutBlock
namespace Go.Proofs.YtdebhdjcacojeaaDoor
open Go.RowKit

theorem u64_w (e : Int) : 0 ≤ IntKind.u64.wrap e ∧ IntKind.u64.wrap e < 18446744073709551616 := by have := bounds_u64 (wf_wrap .u64 e); omega
theorem u64_b (op : BinOp) (x y : Int) : 0 ≤ bits op IntKind.u64 x y ∧ bits op IntKind.u64 x y < 18446744073709551616 := by unfold bits; exact u64_w _
theorem same_e (E : Int) (hE : 0 ≤ E ∧ E < 18446744073709551616) {w0 w : World} (hi : Inv w0 w) :
    Calls Tryd.prog 10 #[.int .u64 E] w fun e w' => e = .returned (.bool true) ∧ Inv w0 w' := by
  obtain ⟨m, rfl⟩ : ∃ m : Nat, E = (m : Int) := ⟨E.toNat, by omega⟩
  exact same_i m (by omega) hi
def OfPost (w : World) (e : Ending) (w' : World) : Prop := ∃ M : Int, (0 ≤ M ∧ M < 18446744073709551616) ∧ e = .returned (.int .u64 M) ∧ w = w'
theorem ofPost_mk (w : World) (E : Int) (h : 0 ≤ E ∧ E < 18446744073709551616) : OfPost w (.returned (.int .u64 E)) w := ⟨E, h, rfl, rfl⟩
set_option maxHeartbeats 2000000 in
theorem of_any (a b c d : Int) (w : World) :
    Calls Tryd.prog 13 #[.int .u64 a, .int .u64 b, .int .u64 c, .int .u64 d] w (OfPost w) := by
  go_enter Tryd.func13, Tryd.ntmps13
  go_wp2_with fail
  go_ret
  exact ofPost_mk _ _ (u64_b _ _ _)
set_option maxHeartbeats 2000000 in
theorem low_any (n : Nat) (w : World) (h : n ≤ 13) :
    Calls Tryd.prog 11 #[.int .i64 (n : Nat)] w (OfPost w) := by
  rcases (by omega : n = 0 ∨ n = 1 ∨ n = 2 ∨ n = 3 ∨ n = 4 ∨ n = 5 ∨ n = 6 ∨ n = 7 ∨ n = 8 ∨ n = 9 ∨ n = 10 ∨ n = 11 ∨ n = 12 ∨ n = 13) with rfl | rfl | rfl | rfl | rfl | rfl | rfl | rfl | rfl | rfl | rfl | rfl | rfl | rfl
  all_goals
    go_enter Tryd.func11, Tryd.ntmps11
    go_wp2_with fail
    go_ret
    exact ofPost_mk _ _ (by decide)
set_option maxHeartbeats 2000000 in
theorem high_any (n : Nat) (w : World) (h : n ≤ 13) :
    Calls Tryd.prog 12 #[.int .i64 (n : Nat)] w (OfPost w) := by
  rcases (by omega : n = 0 ∨ n = 1 ∨ n = 2 ∨ n = 3 ∨ n = 4 ∨ n = 5 ∨ n = 6 ∨ n = 7 ∨ n = 8 ∨ n = 9 ∨ n = 10 ∨ n = 11 ∨ n = 12 ∨ n = 13) with rfl | rfl | rfl | rfl | rfl | rfl | rfl | rfl | rfl | rfl | rfl | rfl | rfl | rfl
  all_goals
    go_enter Tryd.func12, Tryd.ntmps12
    go_wp2_with fail
    go_ret
    exact ofPost_mk _ _ (by decide)
end Go.Proofs.YtdebhdjcacojeaaDoor
