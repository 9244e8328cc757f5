/- FracTells returns true; the bounds of wide parameters; a fraction as an argument, opened and shut. -/
import Derived.Test.YtfhkgpipbegpgaaGreatDoorFrame
import Derived.Test.YtfhkgpipbegpgaaGreatDoorTells
import Derived.Test.YtfhkgpipbegpgaaGreatDoorAwake
import Derived.Lib.SmallJoins
namespace Go.Proofs.YtfhkgpipbegpgaaGreatDoor
section
open Go Go.ChangeShapes Go.ChangeMaps Go.WideShapes Go.ChangeAt Go.WideMaps Go.WideElems Go.RowKit
theorem i64_of {n : Int} (h : (Lit.int .i64 n).wf = true) : -9223372036854775808 ≤ n ∧ n ≤ 9223372036854775807 := by
  have := bounds_i64 h
  omega
theorem u8_of {n : Int} (h : (Lit.int .u8 n).wf = true) : 0 ≤ n ∧ n ≤ 255 := by
  have := bounds_u8 h
  omega
end
section
open Go Go.ChangeShapes Go.WideShapes Go.ChangeAt Go.RowKit

theorem c2F : Tryz.prog.cellsOf 23 = 2 := by kernel_rfl
section
variable {H : Type} {enc : TypeId × Value → H} {w : World} {base : Nat} {spare : TypeId → Bool} {held : Bool}
theorem intF_of {n : Nat} {v : Value} {y : DataW H × List MemPlace} (h : DataW.trod enc Tryz.prog w base spare held n 3 [v] = some y) :
    ∃ b : Int, v = .int .i64 b ∧ y = (.lit (.int .i64 b), []) ∧ (Lit.int .i64 b).wf = true := by
  obtain ⟨m, hc, hy, hw⟩ := DataW.trod_int Tryz.underlying3 h
  simp only [List.cons.injEq, and_true] at hc
  exact ⟨m, hc, hy, hw⟩
set_option maxRecDepth 100000 in
theorem open_frac {r : Reach} {b0 : Nat} {v : Value} {d : DataW H} {p : List MemPlace} (hv : Value.okWide Tryz.prog w r b0 23 v) (h : DataW.Trod enc Tryz.prog w base spare held 23 v d p) :
    ∃ a b : Int, v = .agg #[.int .i64 a, .int .i64 b] ∧ d = .agg [.lit (.int .i64 a), .lit (.int .i64 b)] ∧ p = [] ∧
      (Lit.int .i64 a).wf = true ∧ (Lit.int .i64 b).wf = true := by
  obtain ⟨v0, v1, y0, y1, n, rfl, rfl, rfl, t0, t1⟩ := Joins.open_agg2 Tryz.underlying23 (by kernel_rfl) c2F hv h
  obtain ⟨a, rfl, rfl, w0⟩ := intF_of t0
  obtain ⟨b, rfl, rfl, w1⟩ := intF_of t1
  exact ⟨a, b, rfl, rfl, rfl, w0, w1⟩
set_option maxRecDepth 100000 in
theorem shut_frac {a b : Int} (w0 : (Lit.int .i64 a).wf = true) (w1 : (Lit.int .i64 b).wf = true) :
    DataW.Trod enc Tryz.prog w base spare held 23 (.agg #[.int .i64 a, .int .i64 b]) (.agg [.lit (.int .i64 a), .lit (.int .i64 b)]) [] :=
  Joins.shut_agg2 (y0 := (.lit (.int .i64 a), [])) (y1 := (.lit (.int .i64 b), [])) Tryz.underlying23 (by kernel_rfl) c2F
    ⟨1, trod_int_mk 0 Tryz.underlying3 w0⟩ ⟨1, trod_int_mk 0 Tryz.underlying3 w1⟩
end
end
section
open Go Go.RowKit

set_option maxRecDepth 100000 in
set_option maxHeartbeats 4000000 in
theorem fractells_walk (n d m k p : Int) (hn : -9223372036854775808 ≤ n ∧ n ≤ 9223372036854775807) (hd : -9223372036854775808 ≤ d ∧ d ≤ 9223372036854775807) (hm : -9223372036854775808 ≤ m ∧ m ≤ 9223372036854775807) (hk : -9223372036854775808 ≤ k ∧ k ≤ 9223372036854775807) (w : World) (he : Env w) :
    Calls Tryz.prog 3 #[.agg #[.int .i64 n, .int .i64 d], .agg #[.int .i64 m, .int .i64 k], .int .i64 p] w (RetBool true w) := by
  have TE := Lib.hid (fun W he => tells_any n d m k p ⟨hn.1, hn.2, hd.1, hd.2⟩ ⟨hm.1, hm.2, hk.1, hk.2⟩ W he)
  have HE := Lib.hid he
  have h0 := ((InvL.start he).push 23 #[.int .i64 n, .int .i64 d]).push 23 #[.int .i64 m, .int .i64 k]
  clear he hn hd hm hk
  go_enter Tryz.func3, Tryz.ntmps3
  go_upto_region 1 with fail
  simp only [size_al] at h0
  generalize (w.alloc (.cells #[.int .i64 n, .int .i64 d] 23)).alloc (.cells #[.int .i64 m, .int .i64 k] 23) = W0 at *
  generalize w.heap.size = P at *
  have xf0 := h0.cell (i := 1) rfl (j := 0) (v := .int .i64 n) rfl
  have xf1 := h0.cell (i := 1) rfl (j := 1) (v := .int .i64 d) rfl
  have xg0 := h0.cell (i := 0) rfl (j := 0) (v := .int .i64 m) rfl
  have xg1 := h0.cell (i := 0) rfl (j := 1) (v := .int .i64 k) rfl
  go_wp2_with fail
  refine (invV TE.out h0).mono ?_
  rintro e w1 ⟨rfl, h1⟩
  clear xf0 xf1 xg0 xg1 h0 TE
  go_wp2_with fail
  refine (invV (fun w hw => awake_any w hw) h1).mono ?_
  rintro e w2 ⟨rfl, h2⟩
  have HB := Lib.hid h2.below
  clear h1 h2
  go_wp2
  go_ret
  exact ⟨rfl, HB.out⟩
end
end Go.Proofs.YtfhkgpipbegpgaaGreatDoor
