/- The contract of KeptFracs, no fraction. -/
import Derived.Test.YtfhkgpipbegpgaaGreatDoorKept
namespace Go.Proofs.YtfhkgpipbegpgaaGreatDoor
open Go Go.RowKit

set_option maxRecDepth 100000 in
set_option maxHeartbeats 4000000 in
theorem kept_nil (g : Nat) (w : World) (hG : RowF w g 0 (marks 12)) :
    Calls Tryz.prog 37 #[.slice (some ⟨g, 0, none⟩) 0 12, .slice none 0 0] w (fun e w' => e = .returned (.bool true) ∧ Below w.heap.size w w') := by
  have HG := Lib.hid hG
  have HM := Lib.hid (fun k => marks_at [] k)
  clear hG
  go_enter Tryz.func37, Tryz.ntmps37
  go_wp2_with fail
  go_loopw [6] (fun s6 wr => ∃ k : Nat, k ≤ 12 ∧ s6 = .int .i64 k ∧ Below w.heap.size w wr) (fun s6 _ => 12 - (intOf s6).toNat)
  case atStart => exact ⟨0, by omega, rfl, Below.refl _ _⟩
  case round =>
    obtain ⟨k, hk, rfl, hb⟩ := hrel
    have HB := Lib.hid hb
    clear hb
    by_cases hlt : k < 12
    · have t1 : decide ((k : Int) < 12) = true := decide_eq_true (by omega)
      have i1 : 0 ≤ (k : Int) := by omega
      have hx := HM.out k (by simp) (by simpa using hlt)
      have e0 : wr.cell? ⟨g, 0 + k * 2, none⟩ = some (.int .i64 (8000024 + ((k : Int) - 0))) := (HG.out.keep HB.out).num k _ _ hx
      have e1 : wr.cell? ⟨g, 0 + k * 2 + 1, none⟩ = some (.int .i64 1) := (HG.out.keep HB.out).den k _ _ hx
      rw [Nat.zero_add] at e0 e1
      have t2 : decide ((k : Int) < 0) = false := decide_eq_false (by omega)
      have t3 : decide (0 ≤ (k : Int)) = true := decide_eq_true (by omega)
      have w3 : IntKind.i64.wrap ((k : Int) - 0) = (k : Int) - 0 := IntWalk.i64_in _ (by omega)
      have M1 := Lib.hid (fun W => markFrac_one ((k : Int) - 0) (by omega) W)
      clear hx
      rw [Int.sub_zero] at e0 w3
      have M2 : Hid (∀ W, Calls Tryz.prog 63 #[.int .i64 1, .int .i64 (k : Int)] W (fun e w' => e = .returned (.agg #[.int .i64 (8000024 + (k : Int)), .int .i64 1]) ∧ Below W.heap.size W w')) := Lib.hid fun W => markFrac_one (k : Int) (by omega) W
      clear M1
      go_wp2_with fail
      have m0 := Since.cell e0
      have m1 := Since.cell e1
      refine region_since (by kernel_rfl) (by kernel_rfl) ?_
      repeat (go_big_quiet_step ((go_at_call 63; exact Calls.since (M2.out _))))
      refine wpQuiet_nil ?_
      rintro w' ⟨u', rfl⟩
      have HB2 := Lib.hid (bchain HB.out u'.property)
      clear m0 m1 e0 e1
      generalize u'.val = w6 at *
      go_wp2
      go_roundw
      case rel => exact ⟨k + 1, by omega, by go_num, HB2.out⟩
      case measure => simp [intOf]; omega
    · obtain rfl : k = 12 := by omega
      have t1 : decide (((12 : Nat) : Int) < 12) = false := decide_eq_false (by omega)
      go_wp2
      go_ret
      exact ⟨rfl, HB.out⟩
end Go.Proofs.YtfhkgpipbegpgaaGreatDoor
