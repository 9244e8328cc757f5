/- The contract of the reference's Write. -/
import Derived.Test.YtgmofikhndlhcaaDoorRefD
namespace Go.Proofs.YtgmofikhndlhcaaDoor
open Go.RowKit

theorem writeP_bad (l d r s : Nat) (k : Int) (h : resP l d r s k = false) : writeP l d r s k = ([], 2) := by unfold writeP; rw [if_pos h]
theorem writeP_0 (k : Int) (h : resP 0 0 0 0 k = true) : writeP 0 0 0 0 k = ([112, 97, 115, 115], 0) := by unfold writeP; rw [if_neg (by rw [h]; decide), if_pos rfl]
theorem writeP_pos (l d r s : Nat) (k : Int) (h : resP l d r s k = true) (h1 : 1 ≤ l) : writeP l d r s k = (textP l d r s ++ tailP (k - (6 + (l : Int))), 0) := by
  unfold writeP
  rw [if_neg (by rw [h]; decide), if_neg (by omega)]
set_option maxRecDepth 100000 in
set_option maxHeartbeats 8000000 in
theorem rwrite_any (l d r s : Nat) (k : Int) (w : World) (hl256 : l < 256) :
    Calls Tryd.prog 31 #[.agg #[.int .u8 (l : Nat), .int .u8 (d : Nat), .int .u8 (r : Nat), .int .u8 (s : Nat)], .int .i64 k] w fun e w' => e = .returned (.tuple #[.string ⟨(writeP l d r s k).1.toArray⟩, .int .i64 (writeP l d r s k).2]) ∧ Below w.heap.size w w' := by
  cases hr : resP l d r s k
  · have hP := Lib.hid (writeP_bad l d r s k hr)
    have HR := Lib.hid hr
    clear hr
    go_enter Tryd.func31, Tryd.ntmps31
    go_wp2_with fail
    have H1 := Lib.hid (Own.start w 23 #[.int .u8 (l : Nat), .int .u8 (d : Nat), .int .u8 (r : Nat), .int .u8 (s : Nat)])
    generalize w.alloc (.cells #[.int .u8 (l : Nat), .int .u8 (d : Nat), .int .u8 (r : Nat), .int .u8 (s : Nat)] 23) = W1 at *
    generalize w.heap.size = b0 at *
    have x0 := H1.out.blk.cell (j := 0) (v := .int .u8 (l : Nat)) rfl
    have x1 := H1.out.blk.cell (j := 1) (v := .int .u8 (d : Nat)) rfl
    have x2 := H1.out.blk.cell (j := 2) (v := .int .u8 (r : Nat)) rfl
    have x3 := H1.out.blk.cell (j := 3) (v := .int .u8 (s : Nat)) rfl
    go_wp2_with fail
    refine (own_of (rresult_any l d r s k _) H1.out).mono ?_
    rintro e W2 ⟨rfl, h2⟩
    rw [HR.out]
    go_wp2_with fail
    go_ret2
    exact ⟨by rw [hP.out]; rfl, h2.below⟩
  · have hk := res_of hr
    have hg := res_rgt hr
    rcases rgt_of l d r s hg with ⟨rfl, rfl, rfl, rfl⟩ | ⟨h1, h2, h3, h4, h5⟩
    · have hP := Lib.hid (writeP_0 k hr)
      have HR := Lib.hid hr
      have TC : Hid (∀ w, Calls Tryd.prog 30 #[.agg #[.int .u8 0, .int .u8 0, .int .u8 0, .int .u8 0]] w fun e w' => e = .returned (.tuple #[.string ⟨#[112, 97, 115, 115]⟩, .int .i64 0]) ∧ Below w.heap.size w w') := Lib.hid fun w => (rtext_any 0 0 0 0 w).mono fun e w' ⟨he, hb⟩ => ⟨by rw [he, textR_ok 0 0 0 0 hg, textP_0], hb⟩
      have hn : Hid (needP 0 0 0 0 = 0) := Lib.hid (by simp [needP])
      clear hr hg hk
      go_enter Tryd.func31, Tryd.ntmps31
      go_wp2_with fail
      have H1 := Lib.hid (Own.start w 23 #[.int .u8 0, .int .u8 0, .int .u8 0, .int .u8 0])
      generalize w.alloc (.cells #[.int .u8 0, .int .u8 0, .int .u8 0, .int .u8 0] 23) = W1 at *
      generalize w.heap.size = b0 at *
      have x0 := H1.out.blk.cell (j := 0) (v := .int .u8 0) rfl
      have x1 := H1.out.blk.cell (j := 1) (v := .int .u8 0) rfl
      have x2 := H1.out.blk.cell (j := 2) (v := .int .u8 0) rfl
      have x3 := H1.out.blk.cell (j := 3) (v := .int .u8 0) rfl
      go_wp2_with fail
      refine (own_of (rresult_any 0 0 0 0 k _) H1.out).mono ?_
      rintro e W2 ⟨rfl, h2⟩
      rw [HR.out]
      clear x0 x1 x2 x3 H1
      have H2 := Lib.hid h2
      clear h2
      have x0 := H2.out.blk.cell (j := 0) (v := .int .u8 0) rfl
      have x1 := H2.out.blk.cell (j := 1) (v := .int .u8 0) rfl
      have x2 := H2.out.blk.cell (j := 2) (v := .int .u8 0) rfl
      have x3 := H2.out.blk.cell (j := 3) (v := .int .u8 0) rfl
      go_wp2_with fail
      refine (own_of (TC.out _) H2.out).mono ?_
      rintro e W3 ⟨rfl, h3⟩
      clear x0 x1 x2 x3 H2
      have H3 := Lib.hid h3
      clear h3
      have x0 := H3.out.blk.cell (j := 0) (v := .int .u8 0) rfl
      have x1 := H3.out.blk.cell (j := 1) (v := .int .u8 0) rfl
      have x2 := H3.out.blk.cell (j := 2) (v := .int .u8 0) rfl
      have x3 := H3.out.blk.cell (j := 3) (v := .int .u8 0) rfl
      go_wp2_with fail
      refine (own_of (rneed_any 0 0 0 0 _ hl256) H3.out).mono ?_
      rintro e W4 ⟨rfl, h4⟩
      clear x0 x1 x2 x3 H3
      have x0 := h4.blk.cell (j := 0) (v := .int .u8 0) rfl
      go_wp2_with fail
      go_ret2
      exact ⟨by rw [hP.out]; rfl, h4.below⟩
    · obtain ⟨k, rfl⟩ : ∃ n : Nat, k = (n : Int) := ⟨k.toNat, by omega⟩
      have hk13 : k ≤ 13 := by omega
      have hP := Lib.hid (writeP_pos l d r s k hr h1)
      have hn : Hid (needP l d r s = 6 + l) := Lib.hid (rgt_need l d r s hg (by omega))
      have f0 : ((l : Int) == 0) = false := beq_eq_false_iff_ne.2 (by omega)
      have tl := textP_len l d r s h4
      have TC : Hid (∀ w, Calls Tryd.prog 30 #[.agg #[.int .u8 (l : Nat), .int .u8 (d : Nat), .int .u8 (r : Nat), .int .u8 (s : Nat)]] w fun e w' => e = .returned (.tuple #[.string ⟨(textP l d r s).toArray⟩, .int .i64 0]) ∧ Below w.heap.size w w') := Lib.hid fun w => (rtext_any l d r s w).mono fun e w' ⟨he, hb⟩ => ⟨by rw [he, textR_ok l d r s hg], hb⟩
      have HR := Lib.hid hr
      clear hr hg hk
      generalize textP l d r s = T at *
      rcases (by omega : k = 6 + l ∨ 6 + l < k ∨ k < 6 + l) with hkl | hkl | hkl
      · skip
        have f1 : ((k : Int) == 6 + (l : Int)) = true := beq_iff_eq.2 (by omega)
        have hT : Hid (tailP ((k : Int) - (6 + (l : Int))) = [32, 61]) := Lib.hid (by rw [tailP, if_pos (by omega)])
        have z2 : ¬ 9223372036854775807 < T.length + 2 := by omega
        clear hkl
        go_enter Tryd.func31, Tryd.ntmps31
        go_wp2_with fail
        have H1 := Lib.hid (Own.start w 23 #[.int .u8 (l : Nat), .int .u8 (d : Nat), .int .u8 (r : Nat), .int .u8 (s : Nat)])
        generalize w.alloc (.cells #[.int .u8 (l : Nat), .int .u8 (d : Nat), .int .u8 (r : Nat), .int .u8 (s : Nat)] 23) = W1 at *
        generalize w.heap.size = b0 at *
        have x0 := H1.out.blk.cell (j := 0) (v := .int .u8 (l : Nat)) rfl
        have x1 := H1.out.blk.cell (j := 1) (v := .int .u8 (d : Nat)) rfl
        have x2 := H1.out.blk.cell (j := 2) (v := .int .u8 (r : Nat)) rfl
        have x3 := H1.out.blk.cell (j := 3) (v := .int .u8 (s : Nat)) rfl
        go_wp2_with fail
        refine (own_of (rresult_any l d r s k _) H1.out).mono ?_
        rintro e W2 ⟨rfl, h2⟩
        rw [HR.out]
        clear x0 x1 x2 x3 H1
        have H2 := Lib.hid h2
        clear h2
        have x0 := H2.out.blk.cell (j := 0) (v := .int .u8 (l : Nat)) rfl
        have x1 := H2.out.blk.cell (j := 1) (v := .int .u8 (d : Nat)) rfl
        have x2 := H2.out.blk.cell (j := 2) (v := .int .u8 (r : Nat)) rfl
        have x3 := H2.out.blk.cell (j := 3) (v := .int .u8 (s : Nat)) rfl
        go_wp2_with fail
        refine (own_of (TC.out _) H2.out).mono ?_
        rintro e W3 ⟨rfl, h3⟩
        clear x0 x1 x2 x3 H2
        have H3 := Lib.hid h3
        clear h3
        have x0 := H3.out.blk.cell (j := 0) (v := .int .u8 (l : Nat)) rfl
        have x1 := H3.out.blk.cell (j := 1) (v := .int .u8 (d : Nat)) rfl
        have x2 := H3.out.blk.cell (j := 2) (v := .int .u8 (r : Nat)) rfl
        have x3 := H3.out.blk.cell (j := 3) (v := .int .u8 (s : Nat)) rfl
        go_wp2_with fail
        refine (own_of (rneed_any l d r s _ hl256) H3.out).mono ?_
        rintro e W4 ⟨rfl, h4⟩
        rw [hn.out]
        clear x0 x1 x2 x3 H3
        have H4 := Lib.hid h4
        clear h4
        have x0 := H4.out.blk.cell (j := 0) (v := .int .u8 (l : Nat)) rfl
        go_wp2_with fail
        go_ret2
        exact ⟨by rw [hP.out, hT.out]; exact ret_txt _ _ 0 (by apply ByteArray.ext; simp), H4.out.below⟩
      · skip
        have f1 : ((k : Int) == 6 + (l : Int)) = false := beq_eq_false_iff_ne.2 (by omega)
        have f2 : decide (6 + l < k) = true := decide_eq_true (by omega)
        have f3 : decide (6 + (l : Int) < (k : Int)) = true := decide_eq_true (by omega)
        obtain ⟨m, hm⟩ : ∃ m, k = 6 + l + m := ⟨k - 6 - l, by omega⟩
        have f4 : (k : Int) - (6 + (l : Int)) = (m : Int) := by omega
        have f5 : (k : Int) - 6 - (l : Int) = (m : Int) := by omega
        have hT : Hid (tailP ((k : Int) - (6 + (l : Int))) = [32, 43] ++ Lib.itoa (m : Int)) := Lib.hid (by rw [tailP, if_neg (by omega), if_pos (by omega), show (k : Int) - (6 + (l : Int)) = (m : Int) by omega])
        have dl := itoa_le (m : Int) (by omega) (by omega)
        have NC := Lib.hid (fun w => rnumber_any m w (by omega))
        have HM := Lib.hid hm
        have m13 : m ≤ 13 := by omega
        clear hm
        generalize Lib.itoa (m : Int) = D at *
        have z4 : ¬ 9223372036854775807 < T.length + 2 + D.length := by omega
        have z2 : ¬ 9223372036854775807 < T.length + 2 := by omega
        clear hkl
        go_enter Tryd.func31, Tryd.ntmps31
        go_wp2_with fail
        have H1 := Lib.hid (Own.start w 23 #[.int .u8 (l : Nat), .int .u8 (d : Nat), .int .u8 (r : Nat), .int .u8 (s : Nat)])
        generalize w.alloc (.cells #[.int .u8 (l : Nat), .int .u8 (d : Nat), .int .u8 (r : Nat), .int .u8 (s : Nat)] 23) = W1 at *
        generalize w.heap.size = b0 at *
        have x0 := H1.out.blk.cell (j := 0) (v := .int .u8 (l : Nat)) rfl
        have x1 := H1.out.blk.cell (j := 1) (v := .int .u8 (d : Nat)) rfl
        have x2 := H1.out.blk.cell (j := 2) (v := .int .u8 (r : Nat)) rfl
        have x3 := H1.out.blk.cell (j := 3) (v := .int .u8 (s : Nat)) rfl
        go_wp2_with fail
        refine (own_of (rresult_any l d r s k _) H1.out).mono ?_
        rintro e W2 ⟨rfl, h2⟩
        rw [HR.out]
        clear x0 x1 x2 x3 H1
        have H2 := Lib.hid h2
        clear h2
        have x0 := H2.out.blk.cell (j := 0) (v := .int .u8 (l : Nat)) rfl
        have x1 := H2.out.blk.cell (j := 1) (v := .int .u8 (d : Nat)) rfl
        have x2 := H2.out.blk.cell (j := 2) (v := .int .u8 (r : Nat)) rfl
        have x3 := H2.out.blk.cell (j := 3) (v := .int .u8 (s : Nat)) rfl
        go_wp2_with fail
        refine (own_of (TC.out _) H2.out).mono ?_
        rintro e W3 ⟨rfl, h3⟩
        clear x0 x1 x2 x3 H2
        have H3 := Lib.hid h3
        clear h3
        have x0 := H3.out.blk.cell (j := 0) (v := .int .u8 (l : Nat)) rfl
        have x1 := H3.out.blk.cell (j := 1) (v := .int .u8 (d : Nat)) rfl
        have x2 := H3.out.blk.cell (j := 2) (v := .int .u8 (r : Nat)) rfl
        have x3 := H3.out.blk.cell (j := 3) (v := .int .u8 (s : Nat)) rfl
        go_wp2_with fail
        refine (own_of (rneed_any l d r s _ hl256) H3.out).mono ?_
        rintro e W4 ⟨rfl, h4⟩
        rw [hn.out]
        clear x0 x1 x2 x3 H3
        have H4 := Lib.hid h4
        clear h4
        have x0 := H4.out.blk.cell (j := 0) (v := .int .u8 (l : Nat)) rfl
        go_wp2_with fail
        refine (NC.out _).mono ?_
        rintro e W5 ⟨rfl, rfl⟩
        go_wp2_with fail
        go_ret2
        exact ⟨by rw [hP.out, hT.out]; exact ret_txt _ _ 0 (by apply ByteArray.ext; simp), H4.out.below⟩
      · skip
        have f1 : ((k : Int) == 6 + (l : Int)) = false := beq_eq_false_iff_ne.2 (by omega)
        have f2 : decide (6 + l < k) = false := decide_eq_false (by omega)
        have f3 : decide (6 + (l : Int) < (k : Int)) = false := decide_eq_false (by omega)
        obtain ⟨m, hm⟩ : ∃ m, 6 + l = k + m := ⟨6 + l - k, by omega⟩
        have f4 : 6 + (l : Int) - (k : Int) = (m : Int) := by omega
        have hT : Hid (tailP ((k : Int) - (6 + (l : Int))) = [32, 45] ++ Lib.itoa (m : Int)) := Lib.hid (by rw [tailP, if_neg (by omega), if_neg (by omega), show (k : Int) - (6 + (l : Int)) = -(((m - 1 : Nat) : Int) + 1) by omega, itoa_neg_fin ⟨m - 1, by omega⟩, show (((m - 1 : Nat) : Int) + 1) = (m : Int) by omega]; rfl)
        have dl := itoa_le (m : Int) (by omega) (by omega)
        have NC := Lib.hid (fun w => rnumber_any m w (by omega))
        have HM := Lib.hid hm
        have m13 : m ≤ 13 := by omega
        clear hm
        generalize Lib.itoa (m : Int) = D at *
        have z4 : ¬ 9223372036854775807 < T.length + 2 + D.length := by omega
        have z2 : ¬ 9223372036854775807 < T.length + 2 := by omega
        clear hkl
        go_enter Tryd.func31, Tryd.ntmps31
        go_wp2_with fail
        have H1 := Lib.hid (Own.start w 23 #[.int .u8 (l : Nat), .int .u8 (d : Nat), .int .u8 (r : Nat), .int .u8 (s : Nat)])
        generalize w.alloc (.cells #[.int .u8 (l : Nat), .int .u8 (d : Nat), .int .u8 (r : Nat), .int .u8 (s : Nat)] 23) = W1 at *
        generalize w.heap.size = b0 at *
        have x0 := H1.out.blk.cell (j := 0) (v := .int .u8 (l : Nat)) rfl
        have x1 := H1.out.blk.cell (j := 1) (v := .int .u8 (d : Nat)) rfl
        have x2 := H1.out.blk.cell (j := 2) (v := .int .u8 (r : Nat)) rfl
        have x3 := H1.out.blk.cell (j := 3) (v := .int .u8 (s : Nat)) rfl
        go_wp2_with fail
        refine (own_of (rresult_any l d r s k _) H1.out).mono ?_
        rintro e W2 ⟨rfl, h2⟩
        rw [HR.out]
        clear x0 x1 x2 x3 H1
        have H2 := Lib.hid h2
        clear h2
        have x0 := H2.out.blk.cell (j := 0) (v := .int .u8 (l : Nat)) rfl
        have x1 := H2.out.blk.cell (j := 1) (v := .int .u8 (d : Nat)) rfl
        have x2 := H2.out.blk.cell (j := 2) (v := .int .u8 (r : Nat)) rfl
        have x3 := H2.out.blk.cell (j := 3) (v := .int .u8 (s : Nat)) rfl
        go_wp2_with fail
        refine (own_of (TC.out _) H2.out).mono ?_
        rintro e W3 ⟨rfl, h3⟩
        clear x0 x1 x2 x3 H2
        have H3 := Lib.hid h3
        clear h3
        have x0 := H3.out.blk.cell (j := 0) (v := .int .u8 (l : Nat)) rfl
        have x1 := H3.out.blk.cell (j := 1) (v := .int .u8 (d : Nat)) rfl
        have x2 := H3.out.blk.cell (j := 2) (v := .int .u8 (r : Nat)) rfl
        have x3 := H3.out.blk.cell (j := 3) (v := .int .u8 (s : Nat)) rfl
        go_wp2_with fail
        refine (own_of (rneed_any l d r s _ hl256) H3.out).mono ?_
        rintro e W4 ⟨rfl, h4⟩
        rw [hn.out]
        clear x0 x1 x2 x3 H3
        have H4 := Lib.hid h4
        clear h4
        have x0 := H4.out.blk.cell (j := 0) (v := .int .u8 (l : Nat)) rfl
        go_wp2_with fail
        refine (NC.out _).mono ?_
        rintro e W5 ⟨rfl, rfl⟩
        go_wp2_with fail
        go_ret2
        exact ⟨by rw [hP.out, hT.out]; exact ret_txt _ _ 0 (by apply ByteArray.ext; simp), H4.out.below⟩
end Go.Proofs.YtgmofikhndlhcaaDoor
