/- Contracts of the reference's Text and Write. -/
import Derived.Test.YtgmofikhndlhcaaDoorRefC
import Derived.Test.YtgmofikhndlhcaaDoorWrite
namespace Go.Proofs.YtgmofikhndlhcaaDoor
open Go.RowKit

theorem cut_ll (i : Nat) (hi : i < 8) (w : World) : (Instr.slice 9 (.string ⟨#[48, 49, 50, 51, 52, 53, 54, 55]⟩) (some (.int .u8 (i : Nat))) (some (.int .u8 ((i : Int) + 1))) none).run Tryd.prog w = .ok (.string ⟨#[48 + UInt8.ofNat i]⟩) w := by
  rcases (by omega : i = 0 ∨ i = 1 ∨ i = 2 ∨ i = 3 ∨ i = 4 ∨ i = 5 ∨ i = 6 ∨ i = 7) with rfl | rfl | rfl | rfl | rfl | rfl | rfl | rfl <;> kernel_rfl
set_option maxHeartbeats 1000000 in
theorem pick_l (i : Nat) (hi : i < 8) (w : World) : Calls Tryd.prog 45 #[.string ⟨#[48, 49, 50, 51, 52, 53, 54, 55]⟩, .int .u8 (i : Nat)] w fun e w' => e = .returned (.string ⟨#[48 + UInt8.ofNat i]⟩) ∧ w' = w := by
  have hc := fun w => cut_ll i hi w
  go_enter Tryd.func45, Tryd.ntmps45
  go_wp2_with fail
  go_ret
  exact ⟨rfl, rfl⟩
theorem cut_dd (i : Nat) (hi : i < 5) (w : World) : (Instr.slice 9 (.string ⟨#[67, 68, 72, 83, 78]⟩) (some (.int .u8 (i : Nat))) (some (.int .u8 ((i : Int) + 1))) none).run Tryd.prog w = .ok (.string ⟨#[dch i]⟩) w := by
  rcases (by omega : i = 0 ∨ i = 1 ∨ i = 2 ∨ i = 3 ∨ i = 4) with rfl | rfl | rfl | rfl | rfl <;> kernel_rfl
set_option maxHeartbeats 1000000 in
theorem pick_d (i : Nat) (hi : i < 5) (w : World) : Calls Tryd.prog 45 #[.string ⟨#[67, 68, 72, 83, 78]⟩, .int .u8 (i : Nat)] w fun e w' => e = .returned (.string ⟨#[dch i]⟩) ∧ w' = w := by
  have hc := fun w => cut_dd i hi w
  go_enter Tryd.func45, Tryd.ntmps45
  go_wp2_with fail
  go_ret
  exact ⟨rfl, rfl⟩
theorem cut_ss (i : Nat) (hi : i < 4) (w : World) : (Instr.slice 9 (.string ⟨#[78, 69, 83, 87]⟩) (some (.int .u8 (i : Nat))) (some (.int .u8 ((i : Int) + 1))) none).run Tryd.prog w = .ok (.string ⟨#[sch i]⟩) w := by
  rcases (by omega : i = 0 ∨ i = 1 ∨ i = 2 ∨ i = 3) with rfl | rfl | rfl | rfl <;> kernel_rfl
set_option maxHeartbeats 1000000 in
theorem pick_s (i : Nat) (hi : i < 4) (w : World) : Calls Tryd.prog 45 #[.string ⟨#[78, 69, 83, 87]⟩, .int .u8 (i : Nat)] w fun e w' => e = .returned (.string ⟨#[sch i]⟩) ∧ w' = w := by
  have hc := fun w => cut_ss i hi w
  go_enter Tryd.func45, Tryd.ntmps45
  go_wp2_with fail
  go_ret
  exact ⟨rfl, rfl⟩
theorem cut_nn (i : Nat) (hi : i < 10) (w : World) : (Instr.slice 9 (.string ⟨#[48, 49, 50, 51, 52, 53, 54, 55, 56, 57]⟩) (some (.int .u8 (i : Nat))) (some (.int .u8 ((i : Int) + 1))) none).run Tryd.prog w = .ok (.string ⟨#[48 + UInt8.ofNat i]⟩) w := by
  rcases (by omega : i = 0 ∨ i = 1 ∨ i = 2 ∨ i = 3 ∨ i = 4 ∨ i = 5 ∨ i = 6 ∨ i = 7 ∨ i = 8 ∨ i = 9) with rfl | rfl | rfl | rfl | rfl | rfl | rfl | rfl | rfl | rfl <;> kernel_rfl
set_option maxHeartbeats 1000000 in
theorem pick_n (i : Nat) (hi : i < 10) (w : World) : Calls Tryd.prog 45 #[.string ⟨#[48, 49, 50, 51, 52, 53, 54, 55, 56, 57]⟩, .int .u8 (i : Nat)] w fun e w' => e = .returned (.string ⟨#[48 + UInt8.ofNat i]⟩) ∧ w' = w := by
  have hc := fun w => cut_nn i hi w
  go_enter Tryd.func45, Tryd.ntmps45
  go_wp2_with fail
  go_ret
  exact ⟨rfl, rfl⟩
theorem textR_bad (l d r s : Nat) (h : rgt l d r s = false) : textR l d r s = ([], 2) := by unfold textR; rw [if_neg (by rw [h]; decide)]
theorem textR_ok (l d r s : Nat) (h : rgt l d r s = true) : textR l d r s = (textP l d r s, 0) := by unfold textR; rw [if_pos h]
theorem textP_0 : textP 0 0 0 0 = [112, 97, 115, 115] := by decide +kernel
theorem textP_pos (l d r s : Nat) (h : 1 ≤ l) : textP l d r s = [UInt8.ofNat (48 + l), dch d] ++ List.replicate r 88 ++ [32, sch s] := by unfold textP; rw [if_neg (by omega)]
theorem rtx_0 (l : Nat) (c e : UInt8) : ((⟨#[48 + UInt8.ofNat l]⟩ : ByteArray) ++ ⟨#[c]⟩ ++ ⟨#[32]⟩ ++ ⟨#[e]⟩) = ⟨([UInt8.ofNat (48 + l), c] ++ List.replicate 0 88 ++ [32, e]).toArray⟩ := by
  apply ByteArray.ext; simp
theorem rtx_1 (l : Nat) (c e : UInt8) : ((⟨#[48 + UInt8.ofNat l]⟩ : ByteArray) ++ ⟨#[c]⟩ ++ ⟨#[88]⟩ ++ ⟨#[32]⟩ ++ ⟨#[e]⟩) = ⟨([UInt8.ofNat (48 + l), c] ++ List.replicate 1 88 ++ [32, e]).toArray⟩ := by
  apply ByteArray.ext; simp
theorem rtx_2 (l : Nat) (c e : UInt8) : ((⟨#[48 + UInt8.ofNat l]⟩ : ByteArray) ++ ⟨#[c]⟩ ++ ⟨#[88, 88]⟩ ++ ⟨#[32]⟩ ++ ⟨#[e]⟩) = ⟨([UInt8.ofNat (48 + l), c] ++ List.replicate 2 88 ++ [32, e]).toArray⟩ := by
  apply ByteArray.ext; simp
set_option maxRecDepth 100000 in
set_option maxHeartbeats 4000000 in
theorem rtext_0 (l d s : Nat) (w : World) (h1 : 1 ≤ l) (h2 : l ≤ 7) (h3 : d ≤ 4) (h5 : s ≤ 3) :
    Calls Tryd.prog 30 #[.agg #[.int .u8 (l : Nat), .int .u8 (d : Nat), .int .u8 0, .int .u8 (s : Nat)]] w fun e w' => e = .returned (.tuple #[.string ⟨(textP l d 0 s).toArray⟩, .int .i64 0]) ∧ Below w.heap.size w w' := by
  have HP := Lib.hid (textP_pos l d 0 s h1)
  have HR := Lib.hid (rgt_mk l d 0 s h1 h2 h3 (by omega) h5)
  have f0 : ((l : Int) == 0) = false := beq_eq_false_iff_ne.2 (by omega)
  go_enter Tryd.func30, Tryd.ntmps30
  go_wp2_with fail
  have H1 := Lib.hid (Own.start w 23 #[.int .u8 (l : Nat), .int .u8 (d : Nat), .int .u8 0, .int .u8 (s : Nat)])
  generalize w.alloc (.cells #[.int .u8 (l : Nat), .int .u8 (d : Nat), .int .u8 0, .int .u8 (s : Nat)] 23) = W1 at *
  generalize w.heap.size = b0 at *
  have x0 := H1.out.blk.cell (j := 0) (v := .int .u8 (l : Nat)) rfl
  have x1 := H1.out.blk.cell (j := 1) (v := .int .u8 (d : Nat)) rfl
  have x2 := H1.out.blk.cell (j := 2) (v := .int .u8 0) rfl
  have x3 := H1.out.blk.cell (j := 3) (v := .int .u8 (s : Nat)) rfl
  go_wp2_with fail
  refine (own_of (rright_any l d 0 s _) H1.out).mono ?_
  rintro e W2 ⟨rfl, h2'⟩
  rw [HR.out]
  clear x0 x1 x2 x3 H1
  have H2 := Lib.hid h2'
  clear h2'
  have x0 := H2.out.blk.cell (j := 0) (v := .int .u8 (l : Nat)) rfl
  have x1 := H2.out.blk.cell (j := 1) (v := .int .u8 (d : Nat)) rfl
  have x2 := H2.out.blk.cell (j := 2) (v := .int .u8 0) rfl
  have x3 := H2.out.blk.cell (j := 3) (v := .int .u8 (s : Nat)) rfl
  go_wp2_with fail
  go_quiet ((first | (go_at_call 45; with_reducible exact Calls.quiet_of_same (pick_l l (by omega) _)) | (go_at_call 45; with_reducible exact Calls.quiet_of_same (pick_d d (by omega) _))))
  have h3' : Own w (W2.drewN nq) b0 23 #[.int .u8 (l : Nat), .int .u8 (d : Nat), .int .u8 0, .int .u8 (s : Nat)] := H2.out.keep (below_drewN (Below.refl _ _) _)
  generalize W2.drewN nq = W3 at *
  clear x0 x1 x2 x3 H2
  have H3 := Lib.hid h3'
  clear h3'
  have x0 := H3.out.blk.cell (j := 0) (v := .int .u8 (l : Nat)) rfl
  have x1 := H3.out.blk.cell (j := 1) (v := .int .u8 (d : Nat)) rfl
  have x2 := H3.out.blk.cell (j := 2) (v := .int .u8 0) rfl
  have x3 := H3.out.blk.cell (j := 3) (v := .int .u8 (s : Nat)) rfl
  go_wp2_with fail
  refine (pick_s s (by omega) _).mono ?_
  rintro e W4 ⟨rfl, rfl⟩
  go_wp2_with fail
  go_ret2
  exact ⟨by rw [HP.out]; exact ret_txt _ _ 0 (rtx_0 l (dch d) (sch s)), H3.out.below⟩
set_option maxRecDepth 100000 in
set_option maxHeartbeats 4000000 in
theorem rtext_1 (l d s : Nat) (w : World) (h1 : 1 ≤ l) (h2 : l ≤ 7) (h3 : d ≤ 4) (h5 : s ≤ 3) :
    Calls Tryd.prog 30 #[.agg #[.int .u8 (l : Nat), .int .u8 (d : Nat), .int .u8 1, .int .u8 (s : Nat)]] w fun e w' => e = .returned (.tuple #[.string ⟨(textP l d 1 s).toArray⟩, .int .i64 0]) ∧ Below w.heap.size w w' := by
  have HP := Lib.hid (textP_pos l d 1 s h1)
  have HR := Lib.hid (rgt_mk l d 1 s h1 h2 h3 (by omega) h5)
  have f0 : ((l : Int) == 0) = false := beq_eq_false_iff_ne.2 (by omega)
  go_enter Tryd.func30, Tryd.ntmps30
  go_wp2_with fail
  have H1 := Lib.hid (Own.start w 23 #[.int .u8 (l : Nat), .int .u8 (d : Nat), .int .u8 1, .int .u8 (s : Nat)])
  generalize w.alloc (.cells #[.int .u8 (l : Nat), .int .u8 (d : Nat), .int .u8 1, .int .u8 (s : Nat)] 23) = W1 at *
  generalize w.heap.size = b0 at *
  have x0 := H1.out.blk.cell (j := 0) (v := .int .u8 (l : Nat)) rfl
  have x1 := H1.out.blk.cell (j := 1) (v := .int .u8 (d : Nat)) rfl
  have x2 := H1.out.blk.cell (j := 2) (v := .int .u8 1) rfl
  have x3 := H1.out.blk.cell (j := 3) (v := .int .u8 (s : Nat)) rfl
  go_wp2_with fail
  refine (own_of (rright_any l d 1 s _) H1.out).mono ?_
  rintro e W2 ⟨rfl, h2'⟩
  rw [HR.out]
  clear x0 x1 x2 x3 H1
  have H2 := Lib.hid h2'
  clear h2'
  have x0 := H2.out.blk.cell (j := 0) (v := .int .u8 (l : Nat)) rfl
  have x1 := H2.out.blk.cell (j := 1) (v := .int .u8 (d : Nat)) rfl
  have x2 := H2.out.blk.cell (j := 2) (v := .int .u8 1) rfl
  have x3 := H2.out.blk.cell (j := 3) (v := .int .u8 (s : Nat)) rfl
  go_wp2_with fail
  go_quiet ((first | (go_at_call 45; with_reducible exact Calls.quiet_of_same (pick_l l (by omega) _)) | (go_at_call 45; with_reducible exact Calls.quiet_of_same (pick_d d (by omega) _))))
  have h3' : Own w (W2.drewN nq) b0 23 #[.int .u8 (l : Nat), .int .u8 (d : Nat), .int .u8 1, .int .u8 (s : Nat)] := H2.out.keep (below_drewN (Below.refl _ _) _)
  generalize W2.drewN nq = W3 at *
  clear x0 x1 x2 x3 H2
  have H3 := Lib.hid h3'
  clear h3'
  have x0 := H3.out.blk.cell (j := 0) (v := .int .u8 (l : Nat)) rfl
  have x1 := H3.out.blk.cell (j := 1) (v := .int .u8 (d : Nat)) rfl
  have x2 := H3.out.blk.cell (j := 2) (v := .int .u8 1) rfl
  have x3 := H3.out.blk.cell (j := 3) (v := .int .u8 (s : Nat)) rfl
  go_wp2_with fail
  refine (pick_s s (by omega) _).mono ?_
  rintro e W4 ⟨rfl, rfl⟩
  go_wp2_with fail
  go_ret2
  exact ⟨by rw [HP.out]; exact ret_txt _ _ 0 (rtx_1 l (dch d) (sch s)), H3.out.below⟩
set_option maxRecDepth 100000 in
set_option maxHeartbeats 4000000 in
theorem rtext_2 (l d s : Nat) (w : World) (h1 : 1 ≤ l) (h2 : l ≤ 7) (h3 : d ≤ 4) (h5 : s ≤ 3) :
    Calls Tryd.prog 30 #[.agg #[.int .u8 (l : Nat), .int .u8 (d : Nat), .int .u8 2, .int .u8 (s : Nat)]] w fun e w' => e = .returned (.tuple #[.string ⟨(textP l d 2 s).toArray⟩, .int .i64 0]) ∧ Below w.heap.size w w' := by
  have HP := Lib.hid (textP_pos l d 2 s h1)
  have HR := Lib.hid (rgt_mk l d 2 s h1 h2 h3 (by omega) h5)
  have f0 : ((l : Int) == 0) = false := beq_eq_false_iff_ne.2 (by omega)
  go_enter Tryd.func30, Tryd.ntmps30
  go_wp2_with fail
  have H1 := Lib.hid (Own.start w 23 #[.int .u8 (l : Nat), .int .u8 (d : Nat), .int .u8 2, .int .u8 (s : Nat)])
  generalize w.alloc (.cells #[.int .u8 (l : Nat), .int .u8 (d : Nat), .int .u8 2, .int .u8 (s : Nat)] 23) = W1 at *
  generalize w.heap.size = b0 at *
  have x0 := H1.out.blk.cell (j := 0) (v := .int .u8 (l : Nat)) rfl
  have x1 := H1.out.blk.cell (j := 1) (v := .int .u8 (d : Nat)) rfl
  have x2 := H1.out.blk.cell (j := 2) (v := .int .u8 2) rfl
  have x3 := H1.out.blk.cell (j := 3) (v := .int .u8 (s : Nat)) rfl
  go_wp2_with fail
  refine (own_of (rright_any l d 2 s _) H1.out).mono ?_
  rintro e W2 ⟨rfl, h2'⟩
  rw [HR.out]
  clear x0 x1 x2 x3 H1
  have H2 := Lib.hid h2'
  clear h2'
  have x0 := H2.out.blk.cell (j := 0) (v := .int .u8 (l : Nat)) rfl
  have x1 := H2.out.blk.cell (j := 1) (v := .int .u8 (d : Nat)) rfl
  have x2 := H2.out.blk.cell (j := 2) (v := .int .u8 2) rfl
  have x3 := H2.out.blk.cell (j := 3) (v := .int .u8 (s : Nat)) rfl
  go_wp2_with fail
  go_quiet ((first | (go_at_call 45; with_reducible exact Calls.quiet_of_same (pick_l l (by omega) _)) | (go_at_call 45; with_reducible exact Calls.quiet_of_same (pick_d d (by omega) _))))
  have h3' : Own w (W2.drewN nq) b0 23 #[.int .u8 (l : Nat), .int .u8 (d : Nat), .int .u8 2, .int .u8 (s : Nat)] := H2.out.keep (below_drewN (Below.refl _ _) _)
  generalize W2.drewN nq = W3 at *
  clear x0 x1 x2 x3 H2
  have H3 := Lib.hid h3'
  clear h3'
  have x0 := H3.out.blk.cell (j := 0) (v := .int .u8 (l : Nat)) rfl
  have x1 := H3.out.blk.cell (j := 1) (v := .int .u8 (d : Nat)) rfl
  have x2 := H3.out.blk.cell (j := 2) (v := .int .u8 2) rfl
  have x3 := H3.out.blk.cell (j := 3) (v := .int .u8 (s : Nat)) rfl
  go_wp2_with fail
  refine (pick_s s (by omega) _).mono ?_
  rintro e W4 ⟨rfl, rfl⟩
  go_wp2_with fail
  go_ret2
  exact ⟨by rw [HP.out]; exact ret_txt _ _ 0 (rtx_2 l (dch d) (sch s)), H3.out.below⟩
set_option maxRecDepth 100000 in
set_option maxHeartbeats 4000000 in
theorem rtext_any (l d r s : Nat) (w : World) :
    Calls Tryd.prog 30 #[.agg #[.int .u8 (l : Nat), .int .u8 (d : Nat), .int .u8 (r : Nat), .int .u8 (s : Nat)]] w fun e w' => e = .returned (.tuple #[.string ⟨(textR l d r s).1.toArray⟩, .int .i64 (textR l d r s).2]) ∧ Below w.heap.size w w' := by
  cases hr : rgt l d r s
  · have HP := Lib.hid (textR_bad l d r s hr)
    have HR := Lib.hid hr
    clear hr
    go_enter Tryd.func30, Tryd.ntmps30
    go_wp2_with fail
    have H1 := Lib.hid (Own.start w 23 #[.int .u8 (l : Nat), .int .u8 (d : Nat), .int .u8 (r : Nat), .int .u8 (s : Nat)])
    generalize w.alloc (.cells #[.int .u8 (l : Nat), .int .u8 (d : Nat), .int .u8 (r : Nat), .int .u8 (s : Nat)] 23) = W1 at *
    generalize w.heap.size = b0 at *
    have x0 := H1.out.blk.cell (j := 0) (v := .int .u8 (l : Nat)) rfl
    have x1 := H1.out.blk.cell (j := 1) (v := .int .u8 (d : Nat)) rfl
    have x2 := H1.out.blk.cell (j := 2) (v := .int .u8 (r : Nat)) rfl
    have x3 := H1.out.blk.cell (j := 3) (v := .int .u8 (s : Nat)) rfl
    go_wp2_with fail
    refine (own_of (rright_any l d r s _) H1.out).mono ?_
    rintro e W2 ⟨rfl, h2⟩
    rw [HR.out]
    go_wp2_with fail
    go_ret2
    exact ⟨by rw [HP.out]; rfl, h2.below⟩
  · have HP := Lib.hid (textR_ok l d r s hr)
    rcases rgt_of l d r s hr with ⟨rfl, rfl, rfl, rfl⟩ | ⟨h1, h2, h3, h4, h5⟩
    · have HR := Lib.hid hr
      have HT := Lib.hid textP_0
      clear hr
      go_enter Tryd.func30, Tryd.ntmps30
      go_wp2_with fail
      have H1 := Lib.hid (Own.start w 23 #[.int .u8 0, .int .u8 0, .int .u8 0, .int .u8 0])
      generalize w.alloc (.cells #[.int .u8 0, .int .u8 0, .int .u8 0, .int .u8 0] 23) = W1 at *
      generalize w.heap.size = b0 at *
      have x0 := H1.out.blk.cell (j := 0) (v := .int .u8 0) rfl
      have x1 := H1.out.blk.cell (j := 1) (v := .int .u8 0) rfl
      have x2 := H1.out.blk.cell (j := 2) (v := .int .u8 0) rfl
      have x3 := H1.out.blk.cell (j := 3) (v := .int .u8 0) rfl
      go_wp2_with fail
      refine (own_of (rright_any 0 0 0 0 _) H1.out).mono ?_
      rintro e W2 ⟨rfl, h2⟩
      rw [HR.out]
      clear x0 x1 x2 x3 H1
      have x0 := h2.blk.cell (j := 0) (v := .int .u8 0) rfl
      go_wp2_with fail
      go_ret2
      exact ⟨by rw [HP.out, HT.out]; rfl, h2.below⟩
    · rw [HP.out]
      rcases (by omega : r = 0 ∨ r = 1 ∨ r = 2) with rfl | rfl | rfl
      · exact rtext_0 l d s w h1 h2 h3 h5
      · exact rtext_1 l d s w h1 h2 h3 h5
      · exact rtext_2 l d s w h1 h2 h3 h5
theorem itoa_pos_fin : ∀ n : Fin 14, Lib.itoa (n.val : Int) = (if n.val < 10 then [UInt8.ofNat (48 + n.val)] else [49, UInt8.ofNat (48 + (n.val - 10))]) := by decide +kernel
theorem itoa_neg_fin : ∀ n : Fin 13, Lib.itoa (-((n.val : Int) + 1)) = 45 :: Lib.itoa ((n.val : Int) + 1) := by decide +kernel
set_option maxHeartbeats 1000000 in
theorem rnumber_any (n : Nat) (w : World) (h1 : n ≤ 13) :
    Calls Tryd.prog 46 #[.int .i64 (n : Nat)] w fun e w' => e = .returned (.string ⟨(Lib.itoa (n : Nat)).toArray⟩) ∧ w' = w := by
  have HF := Lib.hid (itoa_pos_fin ⟨n, by omega⟩)
  rcases Nat.lt_or_ge n 10 with h | h
  · have u0 : IntKind.u8.wrap (n : Int) = (n : Int) := IntWalk.u8_in _ (by omega)
    go_enter Tryd.func46, Tryd.ntmps46
    go_wp2_with fail
    refine (pick_n n h _).mono ?_
    rintro e W ⟨rfl, rfl⟩
    go_wp2_with fail
    go_ret
    exact ⟨by rw [HF.out]; simp only; rw [if_pos h]; simp, rfl⟩
  · obtain ⟨m, rfl⟩ : ∃ m, n = m + 10 := ⟨n - 10, by omega⟩
    have u0 : IntKind.u8.wrap (m : Int) = (m : Int) := IntWalk.u8_in _ (by omega)
    have u1 : (m : Int) + 10 - 10 = (m : Int) := by omega
    go_enter Tryd.func46, Tryd.ntmps46
    go_wp2_with fail
    refine (pick_n m (by omega) _).mono ?_
    rintro e W ⟨rfl, rfl⟩
    go_wp2_with fail
    go_ret
    exact ⟨by rw [HF.out]; simp only; rw [if_neg (by omega), Nat.add_sub_cancel]; simp; first | done | (apply ByteArray.ext; simp), rfl⟩
end Go.Proofs.YtgmofikhndlhcaaDoor
