/- FracWrong returns true. -/
import Derived.Test.YtfhkgpipbegpgaaDoorSumNil
import Derived.Test.YtfhkgpipbegpgaaDoorOrder
import Derived.Deep.DeepCutAuto
namespace Go.Proofs.YtfhkgpipbegpgaaDoor
open Go Go.RowKit

theorem even_bad (x y : Int) : rightB (2 * x) (2 * y) = false := by
  unfold rightB
  rw [Bool.and_eq_false_iff]
  right
  rw [beq_eq_false_iff_ne]
  intro h
  have : 2 ∣ Nat.gcd (2 * x).natAbs (2 * y).natAbs := Nat.dvd_gcd (by omega) (by omega)
  rw [h] at this
  omega
theorem neg_bad (x y : Int) (h : y ≤ 0) : rightB x y = false := by
  unfold rightB
  rw [show decide (0 < y) = false from decide_eq_false (by omega)]; rfl
theorem zero_bad (y : Int) (h : 2 ≤ y) : rightB 0 y = false := by
  unfold rightB
  rw [Bool.and_eq_false_iff]
  right
  rw [beq_eq_false_iff_ne]
  simp only [Int.natAbs_zero, Nat.gcd_zero_left]
  omega
theorem mask_i16 (d : Int) : bits BinOp.and IntKind.i64 d 65535 = d % 65536 := by
  show IntKind.i64.wrap ((BitVec.ofInt 64 d &&& BitVec.ofInt 64 65535).toNat : Int) = _
  rw [BitVec.toNat_and, BitVec.toNat_ofInt, show (BitVec.ofInt 64 65535).toNat = 2 ^ 16 - 1 by decide, Nat.and_two_pow_sub_one_eq_mod, IntKind.wrap_i64]
  omega
theorem sum_bad (n d m k : Int) (h : rightB m k = false) : sumF [(n, d), (m, k), (n, d)] = (0, 0, 2) := by
  unfold sumF
  rw [if_neg]
  intro e
  have := List.all_eq_true.1 e (m, k) (by simp)
  rw [h] at this; cases this
set_option maxRecDepth 100000 in
set_option maxHeartbeats 8000000 in
theorem wrong_walk (a b n v : Int) (ha : -9223372036854775808 ≤ a ∧ a ≤ 9223372036854775807) (hb : -9223372036854775808 ≤ b ∧ b ≤ 9223372036854775807) (hn : -32768 ≤ n ∧ n ≤ 32767) (hv : 0 ≤ v ∧ v ≤ 255) (w : World) (he : Env w) :
    Calls Tryd.prog 9 #[.int .i64 a, .int .i64 b, .int .i16 n, .int .u8 v] w (RetBool true w) := by
  have SX := Lib.hid (fun w => some_any n 5 hn.1 hn.2 (by decide) (by decide) w)
  obtain ⟨x, hx⟩ : ∃ x, someR n 5 = x := ⟨_, rfl⟩
  have bx : Bd x 32768 32768 := hx ▸ some_bd n 5 hn.1 hn.2
  rw [hx] at SX
  clear hx hn
  have f_x := bd_fits bx
  have e1 := mask_i16 b
  obtain ⟨c, hc⟩ : ∃ c, b % 65536 = c := ⟨_, rfl⟩
  have bc : 0 ≤ c ∧ c < 65536 := by omega
  rw [hc] at e1
  obtain ⟨p, q, hI, fb, hbad⟩ : ∃ p q : Int, (∀ w, (Instr.index 58 (.agg #[.int .i64 a, .int .i64 0, .int .i64 a, .int .i64 (min b (-1)), .int .i64 (2 * (a / 4)), .int .i64 (2 * (1 + c)), .int .i64 0, .int .i64 (2 + c), .int .i64 0, .int .i64 0, .int .i64 1, .int .i64 (-1)]) (.int .u8 (v % 6))).run Tryd.prog w = .ok (.agg #[.int .i64 p, .int .i64 q]) w) ∧ FB p q ∧ rightB p q = false := by
    rcases (by omega : v % 6 = 0 ∨ v % 6 = 1 ∨ v % 6 = 2 ∨ v % 6 = 3 ∨ v % 6 = 4 ∨ v % 6 = 5) with h | h | h | h | h | h <;> rw [h]
    · exact ⟨a, 0, fun w => by kernel_rfl, ⟨by omega, by omega, by omega, by omega⟩, neg_bad _ _ (by omega)⟩
    · exact ⟨a, min b (-1), fun w => by kernel_rfl, ⟨by omega, by omega, by omega, by omega⟩, neg_bad _ _ (by omega)⟩
    · exact ⟨2 * (a / 4), 2 * (1 + c), fun w => by kernel_rfl, ⟨by omega, by omega, by omega, by omega⟩, even_bad _ _⟩
    · exact ⟨0, 2 + c, fun w => by kernel_rfl, ⟨by omega, by omega, by omega, by omega⟩, zero_bad _ (by omega)⟩
    · exact ⟨0, 0, fun w => by kernel_rfl, ⟨by omega, by omega, by omega, by omega⟩, neg_bad _ _ (by omega)⟩
    · exact ⟨1, -1, fun w => by kernel_rfl, ⟨by omega, by omega, by omega, by omega⟩, neg_bad _ _ (by omega)⟩
  have w1 : IntKind.i64.wrap (2 * (a / 4)) = 2 * (a / 4) := IntWalk.i64_in _ (by omega)
  have w2 : IntKind.i64.wrap (1 + c) = 1 + c := IntWalk.i64_in _ (by omega)
  have w3 : IntKind.i64.wrap (2 * (1 + c)) = 2 * (1 + c) := IntWalk.i64_in _ (by omega)
  have w4 : IntKind.i64.wrap (2 + c) = 2 + c := IntWalk.i64_in _ (by omega)
  have HA := Lib.hid ha
  have HB := Lib.hid hb
  clear hb hc bc
  have fx := fb_R f_x
  have rx := right_R x
  clear bx f_x
  obtain ⟨xn, hxn⟩ : ∃ o, x.num = o := ⟨_, rfl⟩
  obtain ⟨xd, hxd⟩ : ∃ o : Int, (x.den : Int) = o := ⟨_, rfl⟩
  rw [hxn, hxd] at fx rx
  rw [hxn, hxd] at SX
  clear hxn hxd
  have C1 := Lib.hid (fun w => oadd_bad2 xn xd p q fx fb rx hbad w)
  have C2 := Lib.hid (fun w => osub_bad1 p q xn xd fb hbad w)
  have C3 := Lib.hid (fun w => omul_bad2 xn xd p q fx fb rx hbad w)
  have C4 := Lib.hid (fun w => odiv_bad1 p q 1 1 fb hbad w)
  have C6 := Lib.hid (fun w => ocmp_bad1 p q xn xd fb hbad w)
  have C7 := Lib.hid (fun w => onear_bad p q fb hbad w)
  have C8 := Lib.hid (fun w => oround_bad p q 2 fb hbad w)
  have C9 := Lib.hid (fun w => otext_bad p q fb hbad w)
  have C10 := Lib.hid (fun w => oneg_bad p q fb hbad w)
  have C11 := Lib.hid (fun w => oround_out xn xd (min a (-1)) fx rx (by omega) w)
  have C12 := Lib.hid (fun w => oround_out xn xd (max a 10) fx rx (by omega) w)
  have C13 := Lib.hid (fun w => make_any a 0 ⟨ha.1, ha.2, by decide, by decide⟩ w)
  have C14 := Lib.hid (fun w => odiv_zero xn xd fx rx w)
  have D1 := right_hid fb hbad
  have D2 := right_hid fx rx
  have FB0 := Lib.hid fb
  have FX0 := Lib.hid fx
  have BAD := Lib.hid hbad
  clear fb fx rx hbad ha
  have HE0 := Lib.hid he
  have h0 := InvL.start he
  clear he
  go_enter Tryd.func9, Tryd.ntmps9
  go_wp2_with fail
  refine (invV (fun w hw => (awake_any w hw)) h0).mono ?_
  rintro e w1 ⟨rfl, h1⟩
  clear h0
  go_wp2_with fail
  refine (invV (fun w _ => SX.out w) h1).mono ?_
  rintro e w2 ⟨rfl, h2⟩
  clear h1 SX
  have h3 := h2.push 26 #[.int .i64 xn, .int .i64 xd]
  clear h2
  go_upto_region 4 with fail
  generalize w2.alloc (.cells #[.int .i64 xn, .int .i64 xd] 26) = W3 at *
  generalize w2.heap.size = B at *
  have h4 := h3.push 26 #[.int .i64 p, .int .i64 q]
  clear h3
  go_upto_region 5 with fail
  clear hI e1 w1 w2 w3 w4
  generalize W3.alloc (.cells #[.int .i64 p, .int .i64 q] 26) = W4 at *
  generalize W3.heap.size = G at *
  have x0 := h4.cell (i := 1) rfl (j := 0) (v := .int .i64 xn) rfl
  have x1 := h4.cell (i := 1) rfl (j := 1) (v := .int .i64 xd) rfl
  have y0 := h4.cell (i := 0) rfl (j := 0) (v := .int .i64 p) rfl
  have y1 := h4.cell (i := 0) rfl (j := 1) (v := .int .i64 q) rfl
  go_wp2_with fail
  refine (invF (fun w _ => C1.out w) rfl h4).mono ?_
  rintro e W5 ⟨rfl, h5⟩
  clear x0 x1 y0 y1 h4
  have h6 := h5.alloc (.cells #[.int .i64 0, .int .i64 0] 26)
  clear h5
  go_upto_region 6 with fail
  generalize W5.alloc (.cells #[.int .i64 0, .int .i64 0] 26) = W6 at *
  generalize W5.heap.size = R5 at *
  have x0 := h6.cell (i := 1) rfl (j := 0) (v := .int .i64 xn) rfl
  have x1 := h6.cell (i := 1) rfl (j := 1) (v := .int .i64 xd) rfl
  have y0 := h6.cell (i := 0) rfl (j := 0) (v := .int .i64 p) rfl
  have y1 := h6.cell (i := 0) rfl (j := 1) (v := .int .i64 q) rfl
  go_wp2_with fail
  refine (invF (fun w _ => C2.out w) rfl h6).mono ?_
  rintro e W7 ⟨rfl, h7⟩
  clear x0 x1 y0 y1 h6
  have h8 := h7.alloc (.cells #[.int .i64 0, .int .i64 0] 26)
  clear h7
  go_upto_region 7 with fail
  generalize W7.alloc (.cells #[.int .i64 0, .int .i64 0] 26) = W8 at *
  generalize W7.heap.size = R7 at *
  have x0 := h8.cell (i := 1) rfl (j := 0) (v := .int .i64 xn) rfl
  have x1 := h8.cell (i := 1) rfl (j := 1) (v := .int .i64 xd) rfl
  have y0 := h8.cell (i := 0) rfl (j := 0) (v := .int .i64 p) rfl
  have y1 := h8.cell (i := 0) rfl (j := 1) (v := .int .i64 q) rfl
  go_wp2_with fail
  refine (invF (fun w _ => C3.out w) rfl h8).mono ?_
  rintro e W9 ⟨rfl, h9⟩
  clear x0 x1 y0 y1 h8
  have h10 := h9.alloc (.cells #[.int .i64 0, .int .i64 0] 26)
  clear h9
  go_upto_region 8 with fail
  generalize W9.alloc (.cells #[.int .i64 0, .int .i64 0] 26) = W10 at *
  generalize W9.heap.size = R9 at *
  have x0 := h10.cell (i := 1) rfl (j := 0) (v := .int .i64 xn) rfl
  have x1 := h10.cell (i := 1) rfl (j := 1) (v := .int .i64 xd) rfl
  have y0 := h10.cell (i := 0) rfl (j := 0) (v := .int .i64 p) rfl
  have y1 := h10.cell (i := 0) rfl (j := 1) (v := .int .i64 q) rfl
  go_wp2_with fail
  refine (invF (fun w _ => C4.out w) rfl h10).mono ?_
  rintro e W11 ⟨rfl, h11⟩
  clear x0 x1 y0 y1 h10
  have h12 := h11.alloc (.cells #[.int .i64 0, .int .i64 0] 26)
  clear h11
  go_upto_region 9 with fail
  generalize W11.alloc (.cells #[.int .i64 0, .int .i64 0] 26) = W12 at *
  generalize W11.heap.size = R11 at *
  have x0 := h12.cell (i := 1) rfl (j := 0) (v := .int .i64 xn) rfl
  have x1 := h12.cell (i := 1) rfl (j := 1) (v := .int .i64 xd) rfl
  have y0 := h12.cell (i := 0) rfl (j := 0) (v := .int .i64 p) rfl
  have y1 := h12.cell (i := 0) rfl (j := 1) (v := .int .i64 q) rfl
  go_wp2_with fail
  have h13 := h12.push 26 #[.int .i64 xn, .int .i64 xd, .int .i64 p, .int .i64 q, .int .i64 xn, .int .i64 xd]
  have hrow : RowF (W12.alloc (.cells #[.int .i64 xn, .int .i64 xd, .int .i64 p, .int .i64 q, .int .i64 xn, .int .i64 xd] 26)) W12.heap.size 0 [(xn, xd), (p, q), (xn, xd)] := by
    refine ⟨by simp, fun i n d hi => ?_, fun i n d hi => ?_⟩
    · rcases (by have := (List.getElem?_eq_some_iff.1 hi).1; simp at this; omega : i = 0 ∨ i = 1 ∨ i = 2) with rfl | rfl | rfl <;> cases hi
      · exact h13.cell (i := 0) rfl (j := 0) rfl
      · exact h13.cell (i := 0) rfl (j := 2) rfl
      · exact h13.cell (i := 0) rfl (j := 4) rfl
    · rcases (by have := (List.getElem?_eq_some_iff.1 hi).1; simp at this; omega : i = 0 ∨ i = 1 ∨ i = 2) with rfl | rfl | rfl <;> cases hi
      · exact h13.cell (i := 0) rfl (j := 1) rfl
      · exact h13.cell (i := 0) rfl (j := 3) rfl
      · exact h13.cell (i := 0) rfl (j := 5) rfl
  have hsum := sum_any W12.heap.size 0 [(xn, xd), (p, q), (xn, xd)] 3 (by simp) (by
    intro o ho
    simp only [List.mem_cons, List.not_mem_nil, or_false] at ho
    rcases ho with rfl | rfl | rfl
    · exact FX0.out
    · exact FB0.out
    · exact FX0.out) _ hrow
  rw [sum_bad xn xd p q BAD.out] at hsum
  refine hsum.mono ?_
  rintro e W14 ⟨rfl, hb⟩
  have h14 := ((h13.tail).keep hb).alloc (.cells #[.int .i64 0, .int .i64 0] 26)
  clear hb h13 h12 hrow hsum x0 x1 y0 y1
  go_upto_region 10 with fail
  generalize W14.alloc (.cells #[.int .i64 0, .int .i64 0] 26) = V14 at *
  generalize W14.heap.size = R14 at *
  have x0 := h14.cell (i := 1) rfl (j := 0) (v := .int .i64 xn) rfl
  have x1 := h14.cell (i := 1) rfl (j := 1) (v := .int .i64 xd) rfl
  have y0 := h14.cell (i := 0) rfl (j := 0) (v := .int .i64 p) rfl
  have y1 := h14.cell (i := 0) rfl (j := 1) (v := .int .i64 q) rfl
  go_wp2_with fail
  refine (invP (fun w _ => C6.out w) rfl h14).mono ?_
  rintro e W15 ⟨rfl, h15⟩
  clear x0 x1 y0 y1 h14
  go_upto_region 11 with fail
  have x0 := h15.cell (i := 1) rfl (j := 0) (v := .int .i64 xn) rfl
  have x1 := h15.cell (i := 1) rfl (j := 1) (v := .int .i64 xd) rfl
  have y0 := h15.cell (i := 0) rfl (j := 0) (v := .int .i64 p) rfl
  have y1 := h15.cell (i := 0) rfl (j := 1) (v := .int .i64 q) rfl
  go_wp2_with fail
  refine (invP (fun w _ => C7.out w) rfl h15).mono ?_
  rintro e W16 ⟨rfl, h16⟩
  clear x0 x1 y0 y1 h15
  go_upto_region 12 with fail
  have x0 := h16.cell (i := 1) rfl (j := 0) (v := .int .i64 xn) rfl
  have x1 := h16.cell (i := 1) rfl (j := 1) (v := .int .i64 xd) rfl
  have y0 := h16.cell (i := 0) rfl (j := 0) (v := .int .i64 p) rfl
  have y1 := h16.cell (i := 0) rfl (j := 1) (v := .int .i64 q) rfl
  go_wp2_with fail
  refine (invS (b := #[]) (fun w _ => C8.out w) rfl h16).mono ?_
  rintro e W17 ⟨rfl, h17⟩
  clear x0 x1 y0 y1 h16
  go_upto_region 13 with fail
  have x0 := h17.cell (i := 1) rfl (j := 0) (v := .int .i64 xn) rfl
  have x1 := h17.cell (i := 1) rfl (j := 1) (v := .int .i64 xd) rfl
  have y0 := h17.cell (i := 0) rfl (j := 0) (v := .int .i64 p) rfl
  have y1 := h17.cell (i := 0) rfl (j := 1) (v := .int .i64 q) rfl
  go_wp2_with fail
  refine (invS (b := #[]) (fun w _ => C9.out w) rfl h17).mono ?_
  rintro e W18 ⟨rfl, h18⟩
  clear x0 x1 y0 y1 h17
  go_upto_region 14 with fail
  have x0 := h18.cell (i := 1) rfl (j := 0) (v := .int .i64 xn) rfl
  have x1 := h18.cell (i := 1) rfl (j := 1) (v := .int .i64 xd) rfl
  have y0 := h18.cell (i := 0) rfl (j := 0) (v := .int .i64 p) rfl
  have y1 := h18.cell (i := 0) rfl (j := 1) (v := .int .i64 q) rfl
  go_wp2_with fail
  refine (invF (fun w _ => C10.out w) rfl h18).mono ?_
  rintro e W19 ⟨rfl, h19⟩
  clear x0 x1 y0 y1 h18
  have h20 := h19.alloc (.cells #[.int .i64 0, .int .i64 0] 26)
  clear h19
  go_upto_region 15 with fail
  generalize W19.alloc (.cells #[.int .i64 0, .int .i64 0] 26) = W20 at *
  generalize W19.heap.size = R19 at *
  have x0 := h20.cell (i := 1) rfl (j := 0) (v := .int .i64 xn) rfl
  have x1 := h20.cell (i := 1) rfl (j := 1) (v := .int .i64 xd) rfl
  have y0 := h20.cell (i := 0) rfl (j := 0) (v := .int .i64 p) rfl
  have y1 := h20.cell (i := 0) rfl (j := 1) (v := .int .i64 q) rfl
  go_wp2_with fail
  refine (invS (b := #[]) (fun w _ => C11.out w) rfl h20).mono ?_
  rintro e W21 ⟨rfl, h21⟩
  clear x0 x1 y0 y1 h20
  go_upto_region 16 with fail
  have x0 := h21.cell (i := 1) rfl (j := 0) (v := .int .i64 xn) rfl
  have x1 := h21.cell (i := 1) rfl (j := 1) (v := .int .i64 xd) rfl
  have y0 := h21.cell (i := 0) rfl (j := 0) (v := .int .i64 p) rfl
  have y1 := h21.cell (i := 0) rfl (j := 1) (v := .int .i64 q) rfl
  go_wp2_with fail
  refine (invS (b := #[]) (fun w _ => C12.out w) rfl h21).mono ?_
  rintro e W22 ⟨rfl, h22⟩
  clear x0 x1 y0 y1 h21
  go_upto_region 17 with fail
  have x0 := h22.cell (i := 1) rfl (j := 0) (v := .int .i64 xn) rfl
  have x1 := h22.cell (i := 1) rfl (j := 1) (v := .int .i64 xd) rfl
  have y0 := h22.cell (i := 0) rfl (j := 0) (v := .int .i64 p) rfl
  have y1 := h22.cell (i := 0) rfl (j := 1) (v := .int .i64 q) rfl
  go_wp2_with fail
  refine (invF (fun w _ => C13.out w) rfl h22).mono ?_
  rintro e W23 ⟨rfl, h23⟩
  clear x0 x1 y0 y1 h22
  have h24 := h23.alloc (.cells #[.int .i64 0, .int .i64 0] 26)
  clear h23
  go_upto_region 18 with fail
  generalize W23.alloc (.cells #[.int .i64 0, .int .i64 0] 26) = W24 at *
  generalize W23.heap.size = R23 at *
  have x0 := h24.cell (i := 1) rfl (j := 0) (v := .int .i64 xn) rfl
  have x1 := h24.cell (i := 1) rfl (j := 1) (v := .int .i64 xd) rfl
  have y0 := h24.cell (i := 0) rfl (j := 0) (v := .int .i64 p) rfl
  have y1 := h24.cell (i := 0) rfl (j := 1) (v := .int .i64 q) rfl
  go_wp2_with fail
  refine (invF (fun w _ => C14.out w) rfl h24).mono ?_
  rintro e W25 ⟨rfl, h25⟩
  clear x0 x1 y0 y1 h24
  have h26 := h25.alloc (.cells #[.int .i64 0, .int .i64 0] 26)
  clear h25
  go_upto_region 19 with fail
  generalize W25.alloc (.cells #[.int .i64 0, .int .i64 0] 26) = W26 at *
  generalize W25.heap.size = R25 at *
  have hE : ∀ k : Nat, k < 14 → (W26.alloc (.cells #[.int .i64 2, .int .i64 2, .int .i64 2, .int .i64 2, .int .i64 2, .int .i64 2, .int .i64 2, .int .i64 2, .int .i64 2, .int .i64 2, .int .i64 2, .int .i64 2, .int .i64 2, .int .i64 2] 28)).cell? ⟨W26.heap.size, k, none⟩ = some (.int .i64 2) := by
    intro k hk
    refine (Blk.new W26 28 #[.int .i64 2, .int .i64 2, .int .i64 2, .int .i64 2, .int .i64 2, .int .i64 2, .int .i64 2, .int .i64 2, .int .i64 2, .int .i64 2, .int .i64 2, .int .i64 2, .int .i64 2, .int .i64 2]).cell ?_
    rw [show (#[.int .i64 2, .int .i64 2, .int .i64 2, .int .i64 2, .int .i64 2, .int .i64 2, .int .i64 2, .int .i64 2, .int .i64 2, .int .i64 2, .int .i64 2, .int .i64 2, .int .i64 2, .int .i64 2] : Array Value) = Array.replicate 14 (.int .i64 2) from rfl, Array.getElem?_replicate, if_pos hk]
  have h27 := h26.alloc (.cells #[.int .i64 2, .int .i64 2, .int .i64 2, .int .i64 2, .int .i64 2, .int .i64 2, .int .i64 2, .int .i64 2, .int .i64 2, .int .i64 2, .int .i64 2, .int .i64 2, .int .i64 2, .int .i64 2] 28)
  clear h26
  go_wp2_with fail
  generalize W26.alloc (.cells #[.int .i64 2, .int .i64 2, .int .i64 2, .int .i64 2, .int .i64 2, .int .i64 2, .int .i64 2, .int .i64 2, .int .i64 2, .int .i64 2, .int .i64 2, .int .i64 2, .int .i64 2, .int .i64 2] 28) = W27 at *
  generalize W26.heap.size = R26 at *
  have HI := Lib.hid h27
  have HE := Lib.hid hE
  clear h27 hE
  go_loopw [170] (fun s170 wr => ∃ k : Nat, k ≤ 14 ∧ s170 = .int .i64 k ∧ wr = W27) (fun s170 _ => 14 - (intOf s170).toNat)
  case atStart => exact ⟨0, by omega, rfl, rfl⟩
  case round =>
    obtain ⟨k, hk, rfl, rfl⟩ := hrel
    by_cases hlt : k < 14
    · have t1 : decide ((k : Int) < 14) = true := decide_eq_true (by omega)
      have c0 := HE.out k hlt
      go_wp2
      go_roundw
      case rel => exact ⟨k + 1, by omega, by go_num, trivial⟩
      case measure => simp [intOf]; omega
    · obtain rfl : k = 14 := by omega
      have t1 : decide (((14 : Nat) : Int) < 14) = false := by decide
      have h28 := HI.out
      go_wp2_with fail
      refine (invF (fun w _ => sum_nil w) rfl h28).mono ?_
      rintro e V1 ⟨rfl, v1⟩
      clear h28
      have v2 := v1.push 26 #[.int .i64 0, .int .i64 1]
      clear v1
      go_upto_region 26 with fail
      generalize V1.alloc (.cells #[.int .i64 0, .int .i64 1] 26) = V2 at *
      generalize V1.heap.size = T at *
      have y0 := v2.cell (i := 1) rfl (j := 0) (v := .int .i64 p) rfl
      have y1 := v2.cell (i := 1) rfl (j := 1) (v := .int .i64 q) rfl
      go_wp2_with fail
      refine (invV (fun w _ => D1.out w) v2).mono ?_
      rintro e V3 ⟨rfl, v3⟩
      clear v2 y0 y1
      have x0 := v3.cell (i := 2) rfl (j := 0) (v := .int .i64 xn) rfl
      have x1 := v3.cell (i := 2) rfl (j := 1) (v := .int .i64 xd) rfl
      go_wp2_with fail
      refine (invV (fun w _ => D2.out w) v3).mono ?_
      rintro e V4 ⟨rfl, v4⟩
      clear v3 x0 x1
      have z0 := v4.cell (i := 0) rfl (j := 0) (v := .int .i64 0) rfl
      have z1 := v4.cell (i := 0) rfl (j := 1) (v := .int .i64 1) rfl
      have hB9 := v4.below
      clear v4
      go_wp2
      go_ret
      exact ⟨rfl, hB9⟩
end Go.Proofs.YtfhkgpipbegpgaaDoor
