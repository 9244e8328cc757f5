/- The contracts of the four functions at two rational numbers that fit; the sum of three. -/
import Derived.Test.YtfhkgpipbegpgaaDoorSome
namespace Go.Proofs.YtfhkgpipbegpgaaDoor
open Go Go.RowKit

theorem size_al (w : World) (o : Obj) : (w.alloc o).heap.size = w.heap.size + 1 := by simp
/-- Two rational numbers that fit, through one of the four functions. -/
theorem fb_R {x : Rat} (h : fits x = true) : FB x.num x.den := (right_of h rfl rfl).1
theorem add_RR (x y s : Rat) (hx : fits x = true) (hy : fits y = true) (hs : x + y = s) (hf : fits s = true) (w : World) :
    Calls Tryd.prog 15 #[.agg #[.int .i64 x.num, .int .i64 (x.den : Nat)], .agg #[.int .i64 y.num, .int .i64 (y.den : Nat)]] w (fun e w' => e = .returned (.tuple #[.agg #[.int .i64 s.num, .int .i64 (s.den : Nat)], .int .i64 0]) ∧ Below w.heap.size w w') := by
  have := oadd_ok x.num x.den y.num y.den (fb_R hx) (fb_R hy) (right_R x) (right_R y) w
  rw [toR_R, toR_R, hs, outF_fits hf] at this
  exact this
theorem sub_RR (x y s : Rat) (hx : fits x = true) (hy : fits y = true) (hs : x - y = s) (hf : fits s = true) (w : World) :
    Calls Tryd.prog 14 #[.agg #[.int .i64 x.num, .int .i64 (x.den : Nat)], .agg #[.int .i64 y.num, .int .i64 (y.den : Nat)]] w (fun e w' => e = .returned (.tuple #[.agg #[.int .i64 s.num, .int .i64 (s.den : Nat)], .int .i64 0]) ∧ Below w.heap.size w w') := by
  have := osub_ok x.num x.den y.num y.den (fb_R hx) (fb_R hy) (right_R x) (right_R y) w
  rw [toR_R, toR_R, hs, outF_fits hf] at this
  exact this
theorem mul_RR (x y s : Rat) (hx : fits x = true) (hy : fits y = true) (hs : x * y = s) (hf : fits s = true) (w : World) :
    Calls Tryd.prog 16 #[.agg #[.int .i64 x.num, .int .i64 (x.den : Nat)], .agg #[.int .i64 y.num, .int .i64 (y.den : Nat)]] w (fun e w' => e = .returned (.tuple #[.agg #[.int .i64 s.num, .int .i64 (s.den : Nat)], .int .i64 0]) ∧ Below w.heap.size w w') := by
  have := omul_ok x.num x.den y.num y.den (fb_R hx) (fb_R hy) (right_R x) (right_R y) w
  rw [toR_R, toR_R, hs, outF_fits hf] at this
  exact this
theorem div_RR (x y s : Rat) (hx : fits x = true) (hy : fits y = true) (h0 : y ≠ 0) (hs : x / y = s) (hf : fits s = true) (w : World) :
    Calls Tryd.prog 20 #[.agg #[.int .i64 x.num, .int .i64 (x.den : Nat)], .agg #[.int .i64 y.num, .int .i64 (y.den : Nat)]] w (fun e w' => e = .returned (.tuple #[.agg #[.int .i64 s.num, .int .i64 (s.den : Nat)], .int .i64 0]) ∧ Below w.heap.size w w') := by
  have := odiv_ok x.num x.den y.num y.den (fb_R hx) (fb_R hy) (right_R x) (right_R y) (fun h => h0 (Rat.num_eq_zero.1 h)) w
  rw [toR_R, toR_R, hs, outF_fits hf] at this
  exact this
theorem neg_RR (x s : Rat) (hx : fits x = true) (hs : -x = s) (hf : fits s = true) (w : World) :
    Calls Tryd.prog 30 #[.agg #[.int .i64 x.num, .int .i64 (x.den : Nat)]] w (fun e w' => e = .returned (.tuple #[.agg #[.int .i64 s.num, .int .i64 (s.den : Nat)], .int .i64 0]) ∧ Below w.heap.size w w') := by
  have := oneg_ok x.num x.den (fb_R hx) (right_R x) w
  rw [toR_R, hs, outF_fits hf] at this
  exact this
theorem right_RR (x : Rat) (hx : fits x = true) (w : World) :
    Calls Tryd.prog 21 #[.agg #[.int .i64 x.num, .int .i64 (x.den : Nat)]] w (fun e w' => e = .returned (.bool true) ∧ Below w.heap.size w w') :=
  (right_hid (fb_R hx) (right_R x)).out w
/-- The sum of three. -/
theorem sum_three (x y z : Rat) (hx : fits (x + y) = true) (hz : fits (x + y + z) = true) (h1 : fits x = true) :
    sumF [(x.num, (x.den : Int)), (y.num, (y.den : Int)), (z.num, (z.den : Int))] = ((x + y + z).num, ((x + y + z).den : Int), 0) := by
  unfold sumF
  rw [if_pos (by simp [right_R])]
  simp only [sumR, toR_R]
  rw [Rat.zero_add, if_pos h1, if_pos hx, if_pos hz]
theorem fit0 : fits 0 = true := by decide
theorem fit1 : fits 1 = true := by decide
end Go.Proofs.YtfhkgpipbegpgaaDoor
