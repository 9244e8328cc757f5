/- The reference's Table. -/
import Derived.Test.YtidpfggikighlaaDoorGS
import Derived.Test.YtidpfggikighlaaDoorGU
namespace Go.Proofs.YtidpfggikighlaaDoor
open Go Go.RowKit

set_option maxRecDepth 100000 in
set_option maxHeartbeats 16000000 in
theorem rtable_walk (m : Mv) (rv : Value) (p : Int) (hp : inI p) (w : World) (he : Env w) (h : MV w m rv) : Calls Tryd.prog 26 #[mvV m rv, .int .i64 p] w (RetT w (tableO m p) (tableE m p)) := by
  have HM := Lib.hid h
  have HE := Lib.hid he
  obtain ⟨A, cap, rfl⟩ := h.rows.len
  obtain ⟨N, hN⟩ : ∃ N, m.rows.length = N := ⟨_, rfl⟩
  have HN := Lib.hid hN
  have FI := Lib.hid (fun wx (hb : Below w.heap.size w wx) => rfit_any m _ wx (HM.out.keep hb))
  rw [hN] at FI ⊢
  have HP := Lib.hid hp
  clear h he hN hp
  unfold mvV
  go_enter Tryd.func26, Tryd.ntmps26
  go_wp2_with fail
  have B0 := Lib.hid (below1 w (.cells #[.int .i64 m.tab, .int .i64 m.rou, .int .i64 m.set, .int .i64 m.cop, .int .i64 m.win, .slice A N cap] 24))
  have HB0 := Lib.hid (Blk.new w 24 #[.int .i64 m.tab, .int .i64 m.rou, .int .i64 m.set, .int .i64 m.cop, .int .i64 m.win, .slice A N cap])
  obtain ⟨mb, hmb⟩ : ∃ mb, w.heap.size = mb := ⟨_, rfl⟩
  refine (FI.out _ B0.out).mono ?_
  rintro e w1 ⟨rfl, hb⟩
  have B1 := Lib.hid (bchain B0.out hb)
  have HB1 := Lib.hid (HB0.out.keep hb HB0.out.lt)
  rw [hmb] at HB1 ⊢
  have HMB := Lib.hid hmb
  clear hb B0 HB0 hmb FI
  rcases hf : fitB m with _ | _
  · have HX := Lib.hid (table_no p hf)
    clear hf
    go_wp2_with fail
    go_ret2
    exact ⟨.slice none 0 0, by rw [HX.out.2]; rfl, by rw [HX.out.1]; exact .none_, B1.out⟩
  have x0 := HB1.out.cell (j := 0) (v := .int .i64 m.tab) rfl
  by_cases hp1 : p < 0
  · have HX := Lib.hid (table_bad hf (.inl hp1))
    have t1 : decide (p < 0) = true := decide_eq_true hp1
    clear hf
    go_wp2_with fail
    go_ret2
    exact ⟨.slice none 0 0, by rw [HX.out.2]; rfl, by rw [HX.out.1]; exact .none_, B1.out⟩
  have t1 : decide (p < 0) = false := decide_eq_false hp1
  by_cases hp2 : m.tab ≤ p
  · have HX := Lib.hid (table_bad hf (.inr hp2))
    have t2 : decide (m.tab ≤ p) = true := decide_eq_true hp2
    clear hf
    go_wp2_with fail
    go_ret2
    exact ⟨.slice none 0 0, by rw [HX.out.2]; rfl, by rw [HX.out.1]; exact .none_, B1.out⟩
  have t2 : decide (m.tab ≤ p) = false := decide_eq_false hp2
  have HX := Lib.hid (table_ok (p := p) hf ⟨by omega, by omega⟩)
  have hd := fit_head hf
  obtain ⟨R, hR⟩ : ∃ R : Nat, m.rou = R := ⟨m.rou.toNat, by omega⟩
  have hR47 : R ≤ 47 := by omega
  have HRT : Hid (m.rou.toNat = R) := Lib.hid (by omega)
  have hNb : N ≤ 1128 := by
    have := prod_bd hd.1 hd.2.1 hd.2.2.1 hd.2.2.2.1
    have h5 := hd.2.2.2.2
    have := HN.out
    omega
  clear hf hd
  have TX := Lib.hid (fun (n : Int) (hn : inI n) (wx : World) (hb : Below w.heap.size w wx) => rtext_any n hn wx (HE.out.keep hb))
  go_wp2_with fail
  refine (TX.out p HP.out w1 B1.out).mono ?_
  rintro e w2 ⟨rfl, hb⟩
  have B2 := Lib.hid (bchain B1.out hb)
  have HB2 := Lib.hid (HB1.out.keep hb HB1.out.lt)
  clear hb x0 t1 t2 B1 HB1
  go_wp2_with fail
  refine (rjoin_new [wTable, Lib.itoa p] w2 rfl rfl (by simp) (by simp) (List.forall_mem_cons.2 ⟨by decide, List.forall_mem_cons.2 ⟨itoa_short HP.out, fun x hx => absurd hx (by simp)⟩⟩) rfl).mono ?_
  rintro e w3 ⟨rfl, hw3⟩
  have hb3 := hw3 ▸ below1 w2 _
  have B3 := Lib.hid (bchain B2.out hb3)
  have HB3 := Lib.hid (HB2.out.keep hb3 HB2.out.lt)
  have HH0 : Hid (sp [wTable, Lib.itoa p] = numL wTable [p]) := Lib.hid (by rw [numL_def]; rfl)
  rw [HH0.out]
  obtain ⟨H, hH⟩ : ∃ H, numL wTable [p] = H := ⟨_, rfl⟩
  rw [hH] at HX ⊢
  clear hb3 hw3 hH HH0 B2 HB2
  go_upto_region 6 with fail
  have hrow : Hid ((w3.alloc (.cells #[.string (bS H)] 9)).ownsRow w3.heap.size 9 1 (.slice (some ⟨w3.heap.size, 0, none⟩) 1 1) 1 ([H].map strV)) := Lib.hid (own_one w3 9 (.string (bS H)))
  have B4 := Lib.hid (bchain B3.out (below1 w3 (.cells #[.string (bS H)] 9)))
  have HB4 := Lib.hid (HB3.out.alloc (.cells #[.string (bS H)] 9))
  have HLT := Lib.hid HB3.out.lt
  clear HB3 B3
  have hb2 : Hid (w3.heap.size ≤ (w3.alloc (.cells #[.string (bS H)] 9)).heap.size) := Lib.hid (by simp)
  generalize w3.alloc (.cells #[.string (bS H)] 9) = w4 at *
  generalize w3.heap.size = base at *
  go_wp2_with fail
  go_loopw [6, 7] (fun s6 s7 wr => ∃ k : Nat, k ≤ R ∧ Hid (wr.ownsRow base 9 1 s6 (k + 1) ((cardL H k (tableAt p m.rows)).map strV)) ∧ s7 = .int .i64 (k : Int) ∧ Hid (Below w.heap.size w wr) ∧ Hid (Blk wr mb 24 #[.int .i64 m.tab, .int .i64 m.rou, .int .i64 m.set, .int .i64 m.cop, .int .i64 m.win, .slice A N cap]) ∧ Hid (base ≤ wr.heap.size)) (fun _ s7 _ => R - (intOf s7).toNat)
  case atStart => exact ⟨0, Nat.zero_le _, by unfold cardL; exact hrow, rfl, B4, HB4, hb2⟩
  case round =>
    obtain ⟨k, hk, HO, rfl, BR, HBr, Hbase⟩ := hrel
    obtain ⟨AO, co, rfl⟩ := own_slice HO.out
    have x1 := HBr.out.cell (j := 1) (v := .int .i64 (R : Int)) (by rw [hR]; rfl)
    by_cases hlt : k < R
    case neg =>
      obtain rfl : k = R := by omega
      have t1 : decide ((k : Int) < (k : Int)) = false := decide_eq_false (by omega)
      have hR2 : Hid (RS wr (.slice AO (k + 1) co) (cardL H k (tableAt p m.rows))) := Lib.hid (by
        have h := HO.out
        have hlen := cardL_len H k (tableAt p m.rows)
        rw [← hlen] at h ⊢
        exact rs_of_own h)
      go_wp2_with fail
      go_ret2
      exact ⟨.slice AO (k + 1) co, by rw [HX.out.2]; rfl, by rw [HX.out.1, HRT.out]; exact hR2.out, BR.out⟩
    have t1 : decide ((k : Int) < (R : Int)) = true := decide_eq_true (by omega)
    have hkI : inI (k : Int) := ⟨by omega, by omega⟩
    go_wp2_with fail
    refine (TX.out (k : Int) hkI wr BR.out).mono ?_
    rintro e w5 ⟨rfl, hb⟩
    have B5 := Lib.hid (bchain BR.out hb)
    have HB5 := Lib.hid (HBr.out.keep hb HBr.out.lt)
    have HO5 := Lib.hid (own_keep HO.out hb)
    have Hb5 := Lib.hid (Nat.le_trans Hbase.out hb.size)
    clear hb BR HBr HO Hbase x1 t1
    go_wp2_with fail
    refine (rjoin_new [wRound, Lib.itoa (k : Int), wEmpty] w5 rfl rfl (by simp) (by simp) (List.forall_mem_cons.2 ⟨by decide, List.forall_mem_cons.2 ⟨itoa_short hkI, List.forall_mem_cons.2 ⟨by decide, fun x hx => absurd hx (by simp)⟩⟩⟩) rfl).mono ?_
    rintro e w6 ⟨rfl, hw6⟩
    have hb6 := hw6 ▸ below1 w5 _
    have B6 := Lib.hid (bchain B5.out hb6)
    have HB6 := Lib.hid (HB5.out.keep hb6 HB5.out.lt)
    have HO6 := Lib.hid (own_keep HO5.out hb6)
    have Hb6 := Lib.hid (Nat.le_trans Hb5.out hb6.size)
    have HE0 : Hid (sp [wRound, Lib.itoa (k : Int), wEmpty] = tableAt p (m.rows.take 0) k) := Lib.hid (by rw [List.take_zero, tableAt_nil]; unfold emptyL; rfl)
    rw [HE0.out]
    clear hb6 hw6 B5 HB5 HO5 Hb5 HE0
    go_upto_block 2 with fail
    go_cut [8] (fun s8 wx => s8 = .string (bS (tableAt p m.rows k)) ∧ Hid (Below w6.heap.size w6 wx))
    case first =>
      go_wp2_with fail
      go_loopw [8, 9] (fun s8 s9 wr => ∃ j : Nat, j ≤ N ∧ s8 = .string (bS (tableAt p (m.rows.take j) k)) ∧ s9 = .int .i64 (j : Int) ∧ Hid (Below w6.heap.size w6 wr)) (fun _ s9 _ => N - (intOf s9).toNat)
      case atStart => exact ⟨0, Nat.zero_le _, rfl, rfl, Lib.hid (Below.refl _ _)⟩
      case round =>
        obtain ⟨j, hj, rfl, rfl, BJ⟩ := hrel
        have x5 := (HB6.out.keep BJ.out HB6.out.lt).cell (j := 5) (v := .slice A N cap) rfl
        by_cases hjl : j < N
        case neg =>
          obtain rfl : j = N := by omega
          have t1 : decide ((j : Int) < (j : Int)) = false := decide_eq_false (by omega)
          rw [show m.rows.take j = m.rows by rw [← HN.out, List.take_length]]
          go_wp2_with fail
          go_meet
          exact ⟨rfl, BJ⟩
        have t1 : decide ((j : Int) < (N : Int)) = true := decide_eq_true (by omega)
        obtain ⟨r, hr⟩ : ∃ r, m.rows[j]? = some r := ⟨_, List.getElem?_eq_getElem (by rw [HN.out]; exact hjl)⟩
        obtain ⟨b, o, rfl, c0, c1, c2, c3, c4⟩ := (HM.out.rows.keep (bchain B6.out BJ.out)).at hr
        have HRI := Lib.hid (HM.out.ri r (List.mem_of_getElem? hr))
        have HT : Hid (tableAt p (m.rows.take (j + 1)) k = stepT p k (tableAt p (m.rows.take j) k) r) := Lib.hid (by rw [take_more hr, tableAt_snoc])
        clear hr
        go_upto_region 14 with fail
        have HRw := Lib.hid (Blk.new wr 45 #[.int .i64 r.rd, .int .i64 r.tb, .int .i64 r.ns, .int .i64 r.ew, .int .i64 r.st])
        have BK := Lib.hid (bchain BJ.out (below1 wr (.cells #[.int .i64 r.rd, .int .i64 r.tb, .int .i64 r.ns, .int .i64 r.ew, .int .i64 r.st] 45)))
        clear c0 c1 c2 c3 c4 x5 BJ t1
        generalize wr.alloc (.cells #[.int .i64 r.rd, .int .i64 r.tb, .int .i64 r.ns, .int .i64 r.ew, .int .i64 r.st] 45) = w7 at *
        generalize wr.heap.size = rb at *
        have c0 := HRw.out.cell (j := 0) (v := .int .i64 r.rd) rfl
        have c1 := HRw.out.cell (j := 1) (v := .int .i64 r.tb) rfl
        by_cases hit : r.rd = (k : Int) ∧ r.tb = p
        case neg =>
          have HS : Hid (tableAt p (m.rows.take (j + 1)) k = tableAt p (m.rows.take j) k) := Lib.hid (by rw [HT.out]; unfold stepT; rw [if_neg hit])
          by_cases h1 : r.rd = (k : Int)
          · have e1 : (r.rd == (k : Int)) = true := beq_iff_eq.2 h1
            have e2 : (r.tb == p) = false := beq_eq_false_iff_ne.2 (fun h => hit ⟨h1, h⟩)
            clear hit h1 HT
            go_wp2_with fail
            go_roundw
            case rel => exact ⟨j + 1, by omega, by rw [HS.out], by go_num, BK⟩
            case measure => simp [intOf]; omega
          · have e1 : (r.rd == (k : Int)) = false := beq_eq_false_iff_ne.2 h1
            clear hit h1 HT
            go_wp2_with fail
            go_roundw
            case rel => exact ⟨j + 1, by omega, by rw [HS.out], by go_num, BK⟩
            case measure => simp [intOf]; omega
        have HS : Hid (tableAt p (m.rows.take (j + 1)) k = sp [wRound, Lib.itoa (k : Int), wNS, Lib.itoa r.ns, wEW, Lib.itoa r.ew, wSet, Lib.itoa r.st]) := Lib.hid (by rw [HT.out]; unfold stepT; rw [if_pos hit]; unfold boardL; rw [hit.1])
        have e1 : (r.rd == (k : Int)) = true := beq_iff_eq.2 hit.1
        have e2 : (r.tb == p) = true := beq_iff_eq.2 hit.2
        clear hit HT
        go_upto_region 15 with fail
        clear e1 e2 c0 c1
        have B8 := Lib.hid (bchain B6.out BK.out)
        obtain ⟨W0, hW0⟩ : ∃ W0, w7.drew = W0 := ⟨_, rfl⟩
        have hD : Below w7.heap.size w7 W0 := hW0 ▸ (Below.refl _ w7).drew
        replace HRw := Lib.hid (HRw.out.keep hD HRw.out.lt)
        replace BK := Lib.hid (bchain BK.out hD)
        replace B8 := Lib.hid (bchain B8.out hD)
        have hm0 := hkI
        have hm1 := HRI.out.ns
        have hm2 := HRI.out.ew
        have hm3 := HRI.out.st
        refine rest_begin (by kernel_rfl) ?_
        rw [hW0]
        clear hD hW0
        clear w7
        refine rest_flow2 [some 59, some 60, some 61, some 62, some 63, some 64, some 65, some 66, some 67, some 68, some 69, some 70, some 71] [Sp.is (.int .i64 (k : Int)), Sp.is (.string (bS (Lib.itoa (k : Int)))), Sp.is (.pointer (some ⟨rb, 2, none⟩)), Sp.is (.int .i64 r.ns), Sp.is (.string (bS (Lib.itoa r.ns))), Sp.is (.pointer (some ⟨rb, 3, none⟩)), Sp.is (.int .i64 r.ew), Sp.is (.string (bS (Lib.itoa r.ew))), Sp.is (.pointer (some ⟨rb, 4, none⟩)), Sp.is (.int .i64 r.st), Sp.is (.string (bS (Lib.itoa r.st))), Sp.row [(.string ⟨#[114, 111, 117, 110, 100]⟩), (.string (bS (Lib.itoa (k : Int)))), (.string ⟨#[78, 83]⟩), (.string (bS (Lib.itoa r.ns))), (.string ⟨#[69, 87]⟩), (.string (bS (Lib.itoa r.ew))), (.string ⟨#[115, 101, 116]⟩), (.string (bS (Lib.itoa r.st)))], Sp.is (.string (bS (sp [wRound, (Lib.itoa (k : Int)), wNS, (Lib.itoa r.ns), wEW, (Lib.itoa r.ew), wSet, (Lib.itoa r.st)])))] 13 (by kernel_rfl) (by kernel_rfl) (fun u F hF => ?_) (fun u w' hbF hsF => ?_)
        case refine_1 =>
          have E7 : F.eval (.tmp 7) = (.int .i64 (k : Int)) := (congrArg (fun a => Act.eval a (.tmp 7)) hF).trans (eval_out [some 59, some 60, some 61, some 62, some 63, some 64, some 65, some 66, some 67, some 68, some 69, some 70, some 71] 0 _ (by decide))
          have E10 : F.eval (.tmp 10) = (.pointer (some ⟨rb, 0, none⟩)) := (congrArg (fun a => Act.eval a (.tmp 10)) hF).trans (eval_out [some 59, some 60, some 61, some 62, some 63, some 64, some 65, some 66, some 67, some 68, some 69, some 70, some 71] 0 _ (by decide))
          have D59 : F.eval (.tmp 59) = u 0 := (congrArg (fun a => Act.eval a (.tmp 59)) hF).trans (eval_in [some 59, some 60, some 61, some 62, some 63, some 64, some 65, some 66, some 67, some 68, some 69, some 70, some 71] 0 0 _ (by decide) (by omega) rfl (of_decide_eq_true (by kernel_rfl)))
          have D61 : F.eval (.tmp 61) = u 2 := (congrArg (fun a => Act.eval a (.tmp 61)) hF).trans (eval_in [some 59, some 60, some 61, some 62, some 63, some 64, some 65, some 66, some 67, some 68, some 69, some 70, some 71] 0 2 _ (by decide) (by omega) rfl (of_decide_eq_true (by kernel_rfl)))
          have D62 : F.eval (.tmp 62) = u 3 := (congrArg (fun a => Act.eval a (.tmp 62)) hF).trans (eval_in [some 59, some 60, some 61, some 62, some 63, some 64, some 65, some 66, some 67, some 68, some 69, some 70, some 71] 0 3 _ (by decide) (by omega) rfl (of_decide_eq_true (by kernel_rfl)))
          have D64 : F.eval (.tmp 64) = u 5 := (congrArg (fun a => Act.eval a (.tmp 64)) hF).trans (eval_in [some 59, some 60, some 61, some 62, some 63, some 64, some 65, some 66, some 67, some 68, some 69, some 70, some 71] 0 5 _ (by decide) (by omega) rfl (of_decide_eq_true (by kernel_rfl)))
          have D65 : F.eval (.tmp 65) = u 6 := (congrArg (fun a => Act.eval a (.tmp 65)) hF).trans (eval_in [some 59, some 60, some 61, some 62, some 63, some 64, some 65, some 66, some 67, some 68, some 69, some 70, some 71] 0 6 _ (by decide) (by omega) rfl (of_decide_eq_true (by kernel_rfl)))
          have D67 : F.eval (.tmp 67) = u 8 := (congrArg (fun a => Act.eval a (.tmp 67)) hF).trans (eval_in [some 59, some 60, some 61, some 62, some 63, some 64, some 65, some 66, some 67, some 68, some 69, some 70, some 71] 0 8 _ (by decide) (by omega) rfl (of_decide_eq_true (by kernel_rfl)))
          have D68 : F.eval (.tmp 68) = u 9 := (congrArg (fun a => Act.eval a (.tmp 68)) hF).trans (eval_in [some 59, some 60, some 61, some 62, some 63, some 64, some 65, some 66, some 67, some 68, some 69, some 70, some 71] 0 9 _ (by decide) (by omega) rfl (of_decide_eq_true (by kernel_rfl)))
          have D60 : F.eval (.tmp 60) = u 1 := (congrArg (fun a => Act.eval a (.tmp 60)) hF).trans (eval_in [some 59, some 60, some 61, some 62, some 63, some 64, some 65, some 66, some 67, some 68, some 69, some 70, some 71] 0 1 _ (by decide) (by omega) rfl (of_decide_eq_true (by kernel_rfl)))
          have D63 : F.eval (.tmp 63) = u 4 := (congrArg (fun a => Act.eval a (.tmp 63)) hF).trans (eval_in [some 59, some 60, some 61, some 62, some 63, some 64, some 65, some 66, some 67, some 68, some 69, some 70, some 71] 0 4 _ (by decide) (by omega) rfl (of_decide_eq_true (by kernel_rfl)))
          have D66 : F.eval (.tmp 66) = u 7 := (congrArg (fun a => Act.eval a (.tmp 66)) hF).trans (eval_in [some 59, some 60, some 61, some 62, some 63, some 64, some 65, some 66, some 67, some 68, some 69, some 70, some 71] 0 7 _ (by decide) (by omega) rfl (of_decide_eq_true (by kernel_rfl)))
          have D69 : F.eval (.tmp 69) = u 10 := (congrArg (fun a => Act.eval a (.tmp 69)) hF).trans (eval_in [some 59, some 60, some 61, some 62, some 63, some 64, some 65, some 66, some 67, some 68, some 69, some 70, some 71] 0 10 _ (by decide) (by omega) rfl (of_decide_eq_true (by kernel_rfl)))
          have D70 : F.eval (.tmp 70) = u 11 := (congrArg (fun a => Act.eval a (.tmp 70)) hF).trans (eval_in [some 59, some 60, some 61, some 62, some 63, some 64, some 65, some 66, some 67, some 68, some 69, some 70, some 71] 0 11 _ (by decide) (by omega) rfl (of_decide_eq_true (by kernel_rfl)))
          clear hF
          refine ⟨?_, ?_, ?_, ?_, ?_, ?_, ?_, ?_, ?_, ?_, ?_, ?_, ?_, trivial⟩
          · intro w1 hb hd K hK
            have e1 := E7
            exact op_val (v := (.int .i64 (k : Int))) rfl (by simp only [execOp, e1]; go_simp) (hK _ _ (show _ = _ from rfl) (Below.refl _ _))
          · intro w1 hb hd K hK
            have e1 := D59.trans (show u 0 = (.int .i64 (k : Int)) from hd ⟨0, .data⟩ (by simp) rfl (Nat.zero_le _))
            refine op_call (R := fun v w2 => v = (.string (bS (Lib.itoa (k : Int)))) ∧ Below w1.heap.size w1 w2) (f := 48) (args := #[.int .i64 (k : Int)]) rfl (by simp only [execOp]; go_simp; first | exact eval_get e1 | exact ⟨rfl, eval_get e1⟩ | exact ⟨eval_get e1, rfl⟩) ((rtext_any (k : Int) (by first | exact hm0 | exact hm1 | exact hm2 | exact hm3) w1 (HE.out.keep (bchain B8.out hb))).mono fun e w2 hh => ⟨_, hh.1, rfl, hh.2⟩) (fun v w2 hh => hK _ _ hh.1 hh.2)
          · intro w1 hb hd K hK
            have e1 := E10
            exact op_val (v := (.pointer (some ⟨rb, 2, none⟩))) rfl (by simp only [execOp, e1]; go_simp) (hK _ _ (show _ = _ from rfl) (Below.refl _ _))
          · intro w1 hb hd K hK
            have e1 := D61.trans (show u 2 = (.pointer (some ⟨rb, 2, none⟩)) from hd ⟨2, .data⟩ (by simp) rfl (Nat.zero_le _))
            have c0 : w1.cell? ⟨rb, 2, none⟩ = some (.int .i64 r.ns) := (HRw.out.keep hb HRw.out.lt).cell (j := 2) rfl
            exact op_val (v := (.int .i64 r.ns)) rfl (by simp only [execOp, e1]; go_simp) (hK _ _ (show _ = _ from rfl) (Below.refl _ _))
          · intro w1 hb hd K hK
            have e1 := D62.trans (show u 3 = (.int .i64 r.ns) from hd ⟨3, .data⟩ (by simp) rfl (Nat.zero_le _))
            refine op_call (R := fun v w2 => v = (.string (bS (Lib.itoa r.ns))) ∧ Below w1.heap.size w1 w2) (f := 48) (args := #[.int .i64 r.ns]) rfl (by simp only [execOp]; go_simp; first | exact eval_get e1 | exact ⟨rfl, eval_get e1⟩ | exact ⟨eval_get e1, rfl⟩) ((rtext_any r.ns (by first | exact hm0 | exact hm1 | exact hm2 | exact hm3) w1 (HE.out.keep (bchain B8.out hb))).mono fun e w2 hh => ⟨_, hh.1, rfl, hh.2⟩) (fun v w2 hh => hK _ _ hh.1 hh.2)
          · intro w1 hb hd K hK
            have e1 := E10
            exact op_val (v := (.pointer (some ⟨rb, 3, none⟩))) rfl (by simp only [execOp, e1]; go_simp) (hK _ _ (show _ = _ from rfl) (Below.refl _ _))
          · intro w1 hb hd K hK
            have e1 := D64.trans (show u 5 = (.pointer (some ⟨rb, 3, none⟩)) from hd ⟨5, .data⟩ (by simp) rfl (Nat.zero_le _))
            have c0 : w1.cell? ⟨rb, 3, none⟩ = some (.int .i64 r.ew) := (HRw.out.keep hb HRw.out.lt).cell (j := 3) rfl
            exact op_val (v := (.int .i64 r.ew)) rfl (by simp only [execOp, e1]; go_simp) (hK _ _ (show _ = _ from rfl) (Below.refl _ _))
          · intro w1 hb hd K hK
            have e1 := D65.trans (show u 6 = (.int .i64 r.ew) from hd ⟨6, .data⟩ (by simp) rfl (Nat.zero_le _))
            refine op_call (R := fun v w2 => v = (.string (bS (Lib.itoa r.ew))) ∧ Below w1.heap.size w1 w2) (f := 48) (args := #[.int .i64 r.ew]) rfl (by simp only [execOp]; go_simp; first | exact eval_get e1 | exact ⟨rfl, eval_get e1⟩ | exact ⟨eval_get e1, rfl⟩) ((rtext_any r.ew (by first | exact hm0 | exact hm1 | exact hm2 | exact hm3) w1 (HE.out.keep (bchain B8.out hb))).mono fun e w2 hh => ⟨_, hh.1, rfl, hh.2⟩) (fun v w2 hh => hK _ _ hh.1 hh.2)
          · intro w1 hb hd K hK
            have e1 := E10
            exact op_val (v := (.pointer (some ⟨rb, 4, none⟩))) rfl (by simp only [execOp, e1]; go_simp) (hK _ _ (show _ = _ from rfl) (Below.refl _ _))
          · intro w1 hb hd K hK
            have e1 := D67.trans (show u 8 = (.pointer (some ⟨rb, 4, none⟩)) from hd ⟨8, .data⟩ (by simp) rfl (Nat.zero_le _))
            have c0 : w1.cell? ⟨rb, 4, none⟩ = some (.int .i64 r.st) := (HRw.out.keep hb HRw.out.lt).cell (j := 4) rfl
            exact op_val (v := (.int .i64 r.st)) rfl (by simp only [execOp, e1]; go_simp) (hK _ _ (show _ = _ from rfl) (Below.refl _ _))
          · intro w1 hb hd K hK
            have e1 := D68.trans (show u 9 = (.int .i64 r.st) from hd ⟨9, .data⟩ (by simp) rfl (Nat.zero_le _))
            refine op_call (R := fun v w2 => v = (.string (bS (Lib.itoa r.st))) ∧ Below w1.heap.size w1 w2) (f := 48) (args := #[.int .i64 r.st]) rfl (by simp only [execOp]; go_simp; first | exact eval_get e1 | exact ⟨rfl, eval_get e1⟩ | exact ⟨eval_get e1, rfl⟩) ((rtext_any r.st (by first | exact hm0 | exact hm1 | exact hm2 | exact hm3) w1 (HE.out.keep (bchain B8.out hb))).mono fun e w2 hh => ⟨_, hh.1, rfl, hh.2⟩) (fun v w2 hh => hK _ _ hh.1 hh.2)
          · intro w1 hb hd K hK
            have e2 := D60.trans (show u 1 = (.string (bS (Lib.itoa (k : Int)))) from hd ⟨1, .data⟩ (by simp) rfl (Nat.zero_le _))
            have e4 := D63.trans (show u 4 = (.string (bS (Lib.itoa r.ns))) from hd ⟨4, .data⟩ (by simp) rfl (Nat.zero_le _))
            have e6 := D66.trans (show u 7 = (.string (bS (Lib.itoa r.ew))) from hd ⟨7, .data⟩ (by simp) rfl (Nat.zero_le _))
            have e8 := D69.trans (show u 10 = (.string (bS (Lib.itoa r.st))) from hd ⟨10, .data⟩ (by simp) rfl (Nat.zero_le _))
            exact op_val (v := .slice (some ⟨w1.heap.size, 0, none⟩) 8 8) (w' := w1.alloc (.cells #[(.string ⟨#[114, 111, 117, 110, 100]⟩), (.string (bS (Lib.itoa (k : Int)))), (.string ⟨#[78, 83]⟩), (.string (bS (Lib.itoa r.ns))), (.string ⟨#[69, 87]⟩), (.string (bS (Lib.itoa r.ew))), (.string ⟨#[115, 101, 116]⟩), (.string (bS (Lib.itoa r.st)))] 9)) rfl (by simp only [execOp, List.map_toArray, List.map_cons, List.map_nil, e2, e4, e6, e8]; go_simp) (hK _ _ (Sp.row_new w1 9 [(.string ⟨#[114, 111, 117, 110, 100]⟩), (.string (bS (Lib.itoa (k : Int)))), (.string ⟨#[78, 83]⟩), (.string (bS (Lib.itoa r.ns))), (.string ⟨#[69, 87]⟩), (.string (bS (Lib.itoa r.ew))), (.string ⟨#[115, 101, 116]⟩), (.string (bS (Lib.itoa r.st)))] 8 _ rfl rfl) (below1 _ _))
          · intro w1 hb hd K hK
            obtain ⟨b, hv, hlt, hc⟩ := (show (Sp.row [(.string ⟨#[114, 111, 117, 110, 100]⟩), (.string (bS (Lib.itoa (k : Int)))), (.string ⟨#[78, 83]⟩), (.string (bS (Lib.itoa r.ns))), (.string ⟨#[69, 87]⟩), (.string (bS (Lib.itoa r.ew))), (.string ⟨#[115, 101, 116]⟩), (.string (bS (Lib.itoa r.st)))]).p (u 11) w1 from hd ⟨11, .data⟩ (by simp) rfl (Nat.zero_le _))
            have e1 := D70.trans hv
            refine op_call (R := fun v w2 => v = (.string (bS (sp [wRound, (Lib.itoa (k : Int)), wNS, (Lib.itoa r.ns), wEW, (Lib.itoa r.ew), wSet, (Lib.itoa r.st)]))) ∧ Below w1.heap.size w1 w2) (f := 47) (args := #[.slice (some ⟨b, 0, none⟩) 8 8]) rfl (by simp only [execOp]; go_simp; first | exact eval_get e1 | exact ⟨rfl, eval_get e1⟩ | exact ⟨eval_get e1, rfl⟩) ((rjoin_b b 0 _ [wRound, (Lib.itoa (k : Int)), wNS, (Lib.itoa r.ns), wEW, (Lib.itoa r.ew), wSet, (Lib.itoa r.st)] (by simp) (by simp) ((List.forall_mem_cons.2 ⟨(by first | decide | exact itoa_short hm0 | exact itoa_short hm1 | exact itoa_short hm2 | exact itoa_short hm3), (List.forall_mem_cons.2 ⟨(by first | decide | exact itoa_short hm0 | exact itoa_short hm1 | exact itoa_short hm2 | exact itoa_short hm3), (List.forall_mem_cons.2 ⟨(by first | decide | exact itoa_short hm0 | exact itoa_short hm1 | exact itoa_short hm2 | exact itoa_short hm3), (List.forall_mem_cons.2 ⟨(by first | decide | exact itoa_short hm0 | exact itoa_short hm1 | exact itoa_short hm2 | exact itoa_short hm3), (List.forall_mem_cons.2 ⟨(by first | decide | exact itoa_short hm0 | exact itoa_short hm1 | exact itoa_short hm2 | exact itoa_short hm3), (List.forall_mem_cons.2 ⟨(by first | decide | exact itoa_short hm0 | exact itoa_short hm1 | exact itoa_short hm2 | exact itoa_short hm3), (List.forall_mem_cons.2 ⟨(by first | decide | exact itoa_short hm0 | exact itoa_short hm1 | exact itoa_short hm2 | exact itoa_short hm3), (List.forall_mem_cons.2 ⟨(by first | decide | exact itoa_short hm0 | exact itoa_short hm1 | exact itoa_short hm2 | exact itoa_short hm3), (fun x hx => absurd hx (by simp))⟩)⟩)⟩)⟩)⟩)⟩)⟩)⟩)) w1 (wr_of_row (l := [wRound, (Lib.itoa (k : Int)), wNS, (Lib.itoa r.ns), wEW, (Lib.itoa r.ew), wSet, (Lib.itoa r.st)]) hc)).mono fun e w2 hh => ⟨_, hh.1, rfl, hh.2⟩) (fun v w2 hh => hK _ _ hh.1 hh.2)
        have hv59 : u 0 = (.int .i64 (k : Int)) := (show u 0 = _ from hsF 0 (by omega) (by omega))
        have hv60 : u 1 = (.string (bS (Lib.itoa (k : Int)))) := (show u 1 = _ from hsF 1 (by omega) (by omega))
        have hv61 : u 2 = (.pointer (some ⟨rb, 2, none⟩)) := (show u 2 = _ from hsF 2 (by omega) (by omega))
        have hv62 : u 3 = (.int .i64 r.ns) := (show u 3 = _ from hsF 3 (by omega) (by omega))
        have hv63 : u 4 = (.string (bS (Lib.itoa r.ns))) := (show u 4 = _ from hsF 4 (by omega) (by omega))
        have hv64 : u 5 = (.pointer (some ⟨rb, 3, none⟩)) := (show u 5 = _ from hsF 5 (by omega) (by omega))
        have hv65 : u 6 = (.int .i64 r.ew) := (show u 6 = _ from hsF 6 (by omega) (by omega))
        have hv66 : u 7 = (.string (bS (Lib.itoa r.ew))) := (show u 7 = _ from hsF 7 (by omega) (by omega))
        have hv67 : u 8 = (.pointer (some ⟨rb, 4, none⟩)) := (show u 8 = _ from hsF 8 (by omega) (by omega))
        have hv68 : u 9 = (.int .i64 r.st) := (show u 9 = _ from hsF 9 (by omega) (by omega))
        have hv69 : u 10 = (.string (bS (Lib.itoa r.st))) := (show u 10 = _ from hsF 10 (by omega) (by omega))
        obtain ⟨b70, hv70, hlt70, hc70⟩ := (show (Sp.row [(.string ⟨#[114, 111, 117, 110, 100]⟩), (.string (bS (Lib.itoa (k : Int)))), (.string ⟨#[78, 83]⟩), (.string (bS (Lib.itoa r.ns))), (.string ⟨#[69, 87]⟩), (.string (bS (Lib.itoa r.ew))), (.string ⟨#[115, 101, 116]⟩), (.string (bS (Lib.itoa r.st)))]).p (u 11) w' from hsF 11 (by omega) (by omega))
        have hv71 : u 12 = (.string (bS (sp [wRound, (Lib.itoa (k : Int)), wNS, (Lib.itoa r.ns), wEW, (Lib.itoa r.ew), wSet, (Lib.itoa r.st)]))) := (show u 12 = _ from hsF 12 (by omega) (by omega))
        simp only [putRow, hv59, hv60, hv61, hv62, hv63, hv64, hv65, hv66, hv67, hv68, hv69, hv70, hv71, Act.put, List.setIfInBounds_toArray, List.set_cons_succ, List.set_cons_zero]
        clear hsF hv59 hv60 hv61 hv62 hv63 hv64 hv65 hv66 hv67 hv68 hv69 hv70 hv71
        replace BK := Lib.hid (bchain BK.out hbF)
        clear hbF hc70 hlt70
        rw [← HS.out]
        refine rest_forced 1 (by kernel_rfl) ?_
        simp only [List.drop_succ_cons, List.drop_zero, List.take_succ_cons, List.take_zero]
        go_wp2_with fail
        refine rest_done (by kernel_rfl) ?_
        go_wp2_with fail
        go_roundw
        case rel => exact ⟨j + 1, by omega, rfl, by go_num, BK⟩
        case measure => simp [intOf]; omega
    case rest =>
    obtain ⟨rfl, BJ⟩ := hcut
    have B7 := Lib.hid (bchain B6.out BJ.out)
    have HB7 := Lib.hid (HB6.out.keep BJ.out HB6.out.lt)
    have HO7 := Lib.hid (own_keep HO6.out BJ.out)
    have Hb7 := Lib.hid (Nat.le_trans Hb6.out BJ.out.size)
    have HT : Hid (cardL H (k + 1) (tableAt p m.rows) = cardL H k (tableAt p m.rows) ++ [tableAt p m.rows k]) := Lib.hid (cardL_snoc _ _ _)
    clear B6 HB6 HO6 Hb6 BJ
    obtain ⟨RL, hRL⟩ : ∃ RL, tableAt p m.rows k = RL := ⟨_, rfl⟩
    rw [hRL] at HT ⊢
    clear hRL
    go_upto_region 8 with (at_builtin; refine app_str rfl (.tmp 72) (.tmp 74) rfl wc base _ (k + 1) (cardL H k (tableAt p m.rows)) (bS RL) RL rfl rfl wc.heap.size rfl rfl HO7.out Hb7.out (by omega) ?_; intro v' w9 hown' hgrow hwh hbl)
    have HO9 : Hid (w9.ownsRow base 9 1 v' (k + 1 + 1) ((cardL H (k + 1) (tableAt p m.rows)).map strV)) := Lib.hid (by rw [HT.out]; exact hown')
    have B9 := Lib.hid (B7.out.trans (hbl.mono (by have := HMB.out; have := HLT.out; omega)))
    have HB9 := Lib.hid (HB7.out.keep hbl HLT.out)
    have Hb9 := Lib.hid (Nat.le_trans Hb7.out hbl.size)
    clear hown' hgrow hwh hbl HO7 B7 HB7 Hb7
    go_wp2_with fail
    go_roundw
    case rel => exact ⟨k + 1, by omega, HO9, by go_num, B9, HB9, Hb9⟩
    case measure => simp [intOf]; omega
end Go.Proofs.YtidpfggikighlaaDoor
