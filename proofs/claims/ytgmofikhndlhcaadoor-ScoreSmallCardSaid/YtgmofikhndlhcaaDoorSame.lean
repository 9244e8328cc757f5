/- The chapter's comparison: same returns true. -/
import Derived.Test.YtgmofikhndlhcaaDoorRefG
import Derived.Test.YtgmofikhndlhcaaDoorAwake
namespace Go.Proofs.YtgmofikhndlhcaaDoor
open Go.RowKit

set_option maxRecDepth 100000 in
set_option maxHeartbeats 8000000 in
theorem same_any (l d r s u : Nat) (k : Int) (w : World) (hE : Env w) (hl : l < 256) :
    Calls Tryd.prog 11 #[.agg #[.int .u8 (l : Nat), .int .u8 (d : Nat), .int .u8 (r : Nat), .int .u8 (s : Nat)], .int .i64 k, .int .u8 u] w fun e w' => e = .returned (.bool true) ∧ Below w.heap.size w w' := by
  have HE := Lib.hid hE
  clear hE
  obtain ⟨V, hV⟩ : ∃ V : Bool, V = (((u : Int) % 2) == 1) := ⟨_, rfl⟩
  have P1 : Hid (∀ w, Env w → Calls Tryd.prog 18 #[.agg #[.int .u8 (l : Nat), .int .u8 (d : Nat), .int .u8 (r : Nat), .int .u8 (s : Nat)], .int .i64 k, .bool V] w fun e w' => e = .returned (.tuple #[.int .i64 (ptsP l d r s k V).1, .int .i64 (ptsP l d r s k V).2]) ∧ Below w.heap.size w w') := Lib.hid fun w hw => (points_any l d r s k V w hw.tabs hl).mono fun e w' ⟨he, hb⟩ => ⟨by rw [he], hb⟩
  have P2 : Hid (∀ w, Env w → Calls Tryd.prog 25 #[.agg #[.int .u8 (l : Nat), .int .u8 (d : Nat), .int .u8 (r : Nat), .int .u8 (s : Nat)], .int .i64 k, .bool V] w fun e w' => e = .returned (.tuple #[.int .i64 (ptsP l d r s k V).1, .int .i64 (ptsP l d r s k V).2]) ∧ Below w.heap.size w w') := Lib.hid fun w hw => (rpoints_any l d r s k V w hl).mono fun e w' ⟨he, hb⟩ => ⟨by rw [he], hb⟩
  have S1 : Hid (∀ w, Env w → Calls Tryd.prog 17 #[.agg #[.int .u8 (l : Nat), .int .u8 (d : Nat), .int .u8 (r : Nat), .int .u8 (s : Nat)], .int .i64 k, .int .u8 u] w fun e w' => e = .returned (.tuple #[.int .i64 (scoreP l d r s k u).1, .int .i64 (scoreP l d r s k u).2]) ∧ Below w.heap.size w w') := Lib.hid fun w hw => (score_any l d r s k u w hw.tabs hl).mono fun e w' ⟨he, hb⟩ => ⟨by rw [he], hb⟩
  have S2 : Hid (∀ w, Env w → Calls Tryd.prog 26 #[.agg #[.int .u8 (l : Nat), .int .u8 (d : Nat), .int .u8 (r : Nat), .int .u8 (s : Nat)], .int .i64 k, .int .u8 u] w fun e w' => e = .returned (.tuple #[.int .i64 (scoreP l d r s k u).1, .int .i64 (scoreP l d r s k u).2]) ∧ Below w.heap.size w w') := Lib.hid fun w hw => (rscore_any l d r s k u w hl).mono fun e w' ⟨he, hb⟩ => ⟨by rw [he], hb⟩
  have R1 : Hid (∀ w, Env w → Calls Tryd.prog 24 #[.agg #[.int .u8 (l : Nat), .int .u8 (d : Nat), .int .u8 (r : Nat), .int .u8 (s : Nat)]] w fun e w' => e = .returned (.bool (rgt l d r s)) ∧ Below w.heap.size w w') := Lib.hid fun w hw => (right_any l d r s w).mono fun e w' ⟨he, hb⟩ => ⟨by rw [he], hb⟩
  have R2 : Hid (∀ w, Env w → Calls Tryd.prog 27 #[.agg #[.int .u8 (l : Nat), .int .u8 (d : Nat), .int .u8 (r : Nat), .int .u8 (s : Nat)]] w fun e w' => e = .returned (.bool (rgt l d r s)) ∧ Below w.heap.size w w') := Lib.hid fun w hw => (rright_any l d r s w).mono fun e w' ⟨he, hb⟩ => ⟨by rw [he], hb⟩
  have N1 : Hid (∀ w, Env w → Calls Tryd.prog 16 #[.agg #[.int .u8 (l : Nat), .int .u8 (d : Nat), .int .u8 (r : Nat), .int .u8 (s : Nat)]] w fun e w' => e = .returned (.int .i64 (needP l d r s : Nat)) ∧ Below w.heap.size w w') := Lib.hid fun w hw => (need_any l d r s w hl).mono fun e w' ⟨he, hb⟩ => ⟨by rw [he], hb⟩
  have N2 : Hid (∀ w, Env w → Calls Tryd.prog 28 #[.agg #[.int .u8 (l : Nat), .int .u8 (d : Nat), .int .u8 (r : Nat), .int .u8 (s : Nat)]] w fun e w' => e = .returned (.int .i64 (needP l d r s : Nat)) ∧ Below w.heap.size w w') := Lib.hid fun w hw => (rneed_any l d r s w hl).mono fun e w' ⟨he, hb⟩ => ⟨by rw [he], hb⟩
  have V1 : Hid (∀ w, Calls Tryd.prog 19 #[.int .u8 u, .int .u8 s] w fun e w' => e = .returned (.bool (vulP u s)) ∧ Below w.heap.size w w') := Lib.hid fun w => (vul_any u s w).mono fun e w' ⟨he, hb⟩ => ⟨he, below_pure hb⟩
  have V2 : Hid (∀ w, Calls Tryd.prog 29 #[.int .u8 u, .int .u8 s] w fun e w' => e = .returned (.bool (vulP u s)) ∧ Below w.heap.size w w') := Lib.hid fun w => (rvul_any u s w).mono fun e w' ⟨he, hb⟩ => ⟨he, below_pure hb⟩
  have T1 : Hid (∀ w, Env w → Calls Tryd.prog 22 #[.agg #[.int .u8 (l : Nat), .int .u8 (d : Nat), .int .u8 (r : Nat), .int .u8 (s : Nat)]] w fun e w' => e = .returned (.tuple #[.string ⟨(textR l d r s).1.toArray⟩, .int .i64 (textR l d r s).2]) ∧ Below w.heap.size w w') := Lib.hid fun w hw => (text_any l d r s w).mono fun e w' ⟨he, hb⟩ => ⟨by rw [he], hb⟩
  have T2 : Hid (∀ w, Env w → Calls Tryd.prog 30 #[.agg #[.int .u8 (l : Nat), .int .u8 (d : Nat), .int .u8 (r : Nat), .int .u8 (s : Nat)]] w fun e w' => e = .returned (.tuple #[.string ⟨(textR l d r s).1.toArray⟩, .int .i64 (textR l d r s).2]) ∧ Below w.heap.size w w') := Lib.hid fun w hw => (rtext_any l d r s w).mono fun e w' ⟨he, hb⟩ => ⟨by rw [he], hb⟩
  have W1 : Hid (∀ w, Env w → Calls Tryd.prog 20 #[.agg #[.int .u8 (l : Nat), .int .u8 (d : Nat), .int .u8 (r : Nat), .int .u8 (s : Nat)], .int .i64 k] w fun e w' => e = .returned (.tuple #[.string ⟨(writeP l d r s k).1.toArray⟩, .int .i64 (writeP l d r s k).2]) ∧ Below w.heap.size w w') := Lib.hid fun w hw => (write_any l d r s k w hw hl).mono fun e w' ⟨he, hb⟩ => ⟨by rw [he], hb⟩
  have W2 : Hid (∀ w, Env w → Calls Tryd.prog 31 #[.agg #[.int .u8 (l : Nat), .int .u8 (d : Nat), .int .u8 (r : Nat), .int .u8 (s : Nat)], .int .i64 k] w fun e w' => e = .returned (.tuple #[.string ⟨(writeP l d r s k).1.toArray⟩, .int .i64 (writeP l d r s k).2]) ∧ Below w.heap.size w w') := Lib.hid fun w hw => (rwrite_any l d r s k w hl).mono fun e w' ⟨he, hb⟩ => ⟨by rw [he], hb⟩
  generalize hp : ptsP l d r s k V = p at *
  generalize hq : scoreP l d r s k u = q at *
  generalize hg : rgt l d r s = g at *
  generalize hn : needP l d r s = n at *
  generalize hv : vulP u s = vv at *
  generalize ht : textR l d r s = t at *
  generalize hx : writeP l d r s k = x at *
  obtain ⟨p1, p2⟩ := p
  obtain ⟨q1, q2⟩ := q
  obtain ⟨t1, t2⟩ := t
  obtain ⟨x1, x2⟩ := x
  clear hp hq hg hn hv ht hx
  have c1 : (g != g) = false := bne_self_eq_false g
  have c2 : ((n : Int) != (n : Int)) = false := bne_self_eq_false _
  have c3 : (vv != vv) = false := bne_self_eq_false vv
  have c4 : (p1 != p1) = false := bne_self_eq_false _
  have c5 : (p2 != p2) = false := bne_self_eq_false _
  have c6 : (q1 != q1) = false := bne_self_eq_false _
  have c7 : (q2 != q2) = false := bne_self_eq_false _
  have hV' : (((u : Int) % 2) == 1) = V := hV.symm
  clear hV
  simp only at P1 P2 S1 S2 T1 T2 W1 W2
  go_enter Tryd.func11, Tryd.ntmps11
  go_upto_region 1 with fail
  have H1 : Hid (InvB w (w.alloc (.cells #[.int .u8 (l : Nat), .int .u8 (d : Nat), .int .u8 (r : Nat), .int .u8 (s : Nat)] 23)) w.heap.size 23 #[.int .u8 (l : Nat), .int .u8 (d : Nat), .int .u8 (r : Nat), .int .u8 (s : Nat)]) := Lib.hid ⟨Inv.alloc ⟨HE.out, Below.refl _ _⟩ _, Blk.new _ _ _⟩
  generalize w.alloc (.cells #[.int .u8 (l : Nat), .int .u8 (d : Nat), .int .u8 (r : Nat), .int .u8 (s : Nat)] 23) = w1 at *
  generalize w.heap.size = b0 at *
  have k0 := H1.out.blk.cell (j := 0) (v := .int .u8 (l : Nat)) rfl
  have k1 := H1.out.blk.cell (j := 1) (v := .int .u8 (d : Nat)) rfl
  have k2 := H1.out.blk.cell (j := 2) (v := .int .u8 (r : Nat)) rfl
  have k3 := H1.out.blk.cell (j := 3) (v := .int .u8 (s : Nat)) rfl
  go_wp2_with fail
  refine (invb_of P1.out H1.out).mono ?_
  rintro e w2 ⟨rfl, h⟩
  clear k0 k1 k2 k3 H1
  have H2 := Lib.hid h
  clear h
  have k0 := H2.out.blk.cell (j := 0) (v := .int .u8 (l : Nat)) rfl
  have k1 := H2.out.blk.cell (j := 1) (v := .int .u8 (d : Nat)) rfl
  have k2 := H2.out.blk.cell (j := 2) (v := .int .u8 (r : Nat)) rfl
  have k3 := H2.out.blk.cell (j := 3) (v := .int .u8 (s : Nat)) rfl
  go_wp2_with fail
  refine (invb_of P2.out H2.out).mono ?_
  rintro e w3 ⟨rfl, h⟩
  clear k0 k1 k2 k3 H2
  have H3 := Lib.hid h
  clear h
  have k0 := H3.out.blk.cell (j := 0) (v := .int .u8 (l : Nat)) rfl
  have k1 := H3.out.blk.cell (j := 1) (v := .int .u8 (d : Nat)) rfl
  have k2 := H3.out.blk.cell (j := 2) (v := .int .u8 (r : Nat)) rfl
  have k3 := H3.out.blk.cell (j := 3) (v := .int .u8 (s : Nat)) rfl
  go_wp2_with fail
  refine (invb_of S1.out H3.out).mono ?_
  rintro e w4 ⟨rfl, h⟩
  clear k0 k1 k2 k3 H3
  have H4 := Lib.hid h
  clear h
  have k0 := H4.out.blk.cell (j := 0) (v := .int .u8 (l : Nat)) rfl
  have k1 := H4.out.blk.cell (j := 1) (v := .int .u8 (d : Nat)) rfl
  have k2 := H4.out.blk.cell (j := 2) (v := .int .u8 (r : Nat)) rfl
  have k3 := H4.out.blk.cell (j := 3) (v := .int .u8 (s : Nat)) rfl
  go_wp2_with fail
  refine (invb_of S2.out H4.out).mono ?_
  rintro e w5 ⟨rfl, h⟩
  clear k0 k1 k2 k3 H4
  have H5 := Lib.hid h
  clear h
  have k0 := H5.out.blk.cell (j := 0) (v := .int .u8 (l : Nat)) rfl
  have k1 := H5.out.blk.cell (j := 1) (v := .int .u8 (d : Nat)) rfl
  have k2 := H5.out.blk.cell (j := 2) (v := .int .u8 (r : Nat)) rfl
  have k3 := H5.out.blk.cell (j := 3) (v := .int .u8 (s : Nat)) rfl
  have m0 := Since.cell k0
  have m1 := Since.cell k1
  have m2 := Since.cell k2
  have m3 := Since.cell k3
  go_upto_region 5 with fail
  refine region_since (by kernel_rfl) (by kernel_rfl) ?_
  repeat (quiet_step ((first
    | (go_at_call 24; exact Calls.since (R1.out _ (H5.out.inv.env.keep (Since.property _))))
    | (go_at_call 27; exact Calls.since (R2.out _ (H5.out.inv.env.keep (Since.property _))))
    | (go_at_call 16; exact Calls.since (N1.out _ (H5.out.inv.env.keep (Since.property _))))
    | (go_at_call 28; exact Calls.since (N2.out _ (H5.out.inv.env.keep (Since.property _))))
    | (go_at_call 19; exact Calls.since (V1.out _))
    | (go_at_call 29; exact Calls.since (V2.out _)))))
  refine wpQuiet_nil ?_
  rintro w' ⟨u', rfl⟩
  clear m0 m1 m2 m3 k0 k1 k2 k3
  have H6 : Hid (InvB w u'.val b0 23 #[.int .u8 (l : Nat), .int .u8 (d : Nat), .int .u8 (r : Nat), .int .u8 (s : Nat)]) := Lib.hid ⟨⟨H5.out.inv.env.keep u'.property, bchain H5.out.inv.below u'.property⟩, H5.out.blk.keep u'.property H5.out.blk.lt⟩
  clear H5
  generalize u'.val = w6 at *
  have k0 := H6.out.blk.cell (j := 0) (v := .int .u8 (l : Nat)) rfl
  have k1 := H6.out.blk.cell (j := 1) (v := .int .u8 (d : Nat)) rfl
  have k2 := H6.out.blk.cell (j := 2) (v := .int .u8 (r : Nat)) rfl
  have k3 := H6.out.blk.cell (j := 3) (v := .int .u8 (s : Nat)) rfl
  go_wp2_with fail
  refine (invb_of T1.out H6.out).mono ?_
  rintro e w7 ⟨rfl, h⟩
  clear k0 k1 k2 k3 H6
  have H7 := Lib.hid h
  clear h
  have k0 := H7.out.blk.cell (j := 0) (v := .int .u8 (l : Nat)) rfl
  have k1 := H7.out.blk.cell (j := 1) (v := .int .u8 (d : Nat)) rfl
  have k2 := H7.out.blk.cell (j := 2) (v := .int .u8 (r : Nat)) rfl
  have k3 := H7.out.blk.cell (j := 3) (v := .int .u8 (s : Nat)) rfl
  go_wp2_with fail
  refine (invb_of T2.out H7.out).mono ?_
  rintro e w8 ⟨rfl, h⟩
  clear k0 k1 k2 k3 H7
  have H8 := Lib.hid h
  clear h
  have k0 := H8.out.blk.cell (j := 0) (v := .int .u8 (l : Nat)) rfl
  have k1 := H8.out.blk.cell (j := 1) (v := .int .u8 (d : Nat)) rfl
  have k2 := H8.out.blk.cell (j := 2) (v := .int .u8 (r : Nat)) rfl
  have k3 := H8.out.blk.cell (j := 3) (v := .int .u8 (s : Nat)) rfl
  go_wp2_with fail
  refine (invb_of W1.out H8.out).mono ?_
  rintro e w9 ⟨rfl, h⟩
  clear k0 k1 k2 k3 H8
  have H9 := Lib.hid h
  clear h
  have k0 := H9.out.blk.cell (j := 0) (v := .int .u8 (l : Nat)) rfl
  have k1 := H9.out.blk.cell (j := 1) (v := .int .u8 (d : Nat)) rfl
  have k2 := H9.out.blk.cell (j := 2) (v := .int .u8 (r : Nat)) rfl
  have k3 := H9.out.blk.cell (j := 3) (v := .int .u8 (s : Nat)) rfl
  go_wp2_with fail
  refine (invb_of W2.out H9.out).mono ?_
  rintro e w10 ⟨rfl, h⟩
  clear k0 k1 k2 k3 H9
  have H10 := Lib.hid h
  clear h
  go_wp2_with fail
  go_ret
  exact ⟨rfl, H10.out.inv.below⟩
end Go.Proofs.YtgmofikhndlhcaaDoor
