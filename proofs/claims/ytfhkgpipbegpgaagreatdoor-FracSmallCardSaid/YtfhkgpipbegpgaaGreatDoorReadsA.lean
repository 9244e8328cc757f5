/- The contract of reads. -/
import Derived.Test.YtfhkgpipbegpgaaGreatDoorRefO
import Derived.Test.YtfhkgpipbegpgaaGreatDoorAwake
namespace Go.Proofs.YtfhkgpipbegpgaaGreatDoor
open Go Go.RowKit

set_option maxRecDepth 100000 in
set_option maxHeartbeats 4000000 in
theorem reads_any (s : ByteArray) (w : World) (he : Env w) : Calls Tryz.prog 11 #[.string s] w (RetBool true w) := by
  by_cases hl : 60 < s.size
  · have t1 : decide (60 < (s.size : Int)) = true := decide_eq_true (by omega)
    clear he
    go_enter Tryz.func11, Tryz.ntmps11
    go_wp2
    go_ret
    exact ⟨rfl, Below.refl _ _⟩
  · have t1 : decide (60 < (s.size : Int)) = false := decide_eq_false (by omega)
    have h0 := InvL.start he
    have R1 : Hid (∀ w, Env w → Calls Tryz.prog 33 #[.string s] w (RetF (readF s.data.toList) w)) := Lib.hid fun w hw => by
      have := read_any s.data.toList (by simp; omega) w hw
      exact this
    have R2 : Hid (∀ w, Env w → Calls Tryz.prog 40 #[.string s] w (RetF (readF s.data.toList) w)) := Lib.hid fun w _ => rread_any s (by omega) w
    obtain ⟨⟨a, b, c⟩, hq⟩ : ∃ q, readF s.data.toList = q := ⟨_, rfl⟩
    rw [hq] at R1 R2
    clear he hq hl
    go_enter Tryz.func11, Tryz.ntmps11
    go_wp2_with fail
    refine (invF R1.out rfl h0).mono ?_
    rintro e w1 ⟨rfl, h1⟩
    clear h0 R1
    have h2 := h1.push 23 #[.int .i64 a, .int .i64 b]
    clear h1
    go_upto_region 4 with fail
    generalize w1.alloc (.cells #[.int .i64 a, .int .i64 b] 23) = W2 at *
    generalize w1.heap.size = P2 at *
    go_wp2_with fail
    refine (invF R2.out rfl h2).mono ?_
    rintro e w3 ⟨rfl, h3⟩
    clear h2 R2
    have h4 := h3.push 23 #[.int .i64 a, .int .i64 b]
    clear h3
    go_upto_region 5 with fail
    generalize w3.alloc (.cells #[.int .i64 a, .int .i64 b] 23) = W4 at *
    generalize w3.heap.size = P4 at *
    have x0 := h4.cell (i := 1) rfl (j := 0) (v := .int .i64 a) rfl
    have x1 := h4.cell (i := 1) rfl (j := 1) (v := .int .i64 b) rfl
    have y0 := h4.cell (i := 0) rfl (j := 0) (v := .int .i64 a) rfl
    have y1 := h4.cell (i := 0) rfl (j := 1) (v := .int .i64 b) rfl
    have HB := Lib.hid h4.below
    clear h4
    go_wp2
    go_ret
    exact ⟨rfl, HB.out⟩
end Go.Proofs.YtfhkgpipbegpgaaGreatDoor
