/- The reference's Pair. -/
import Derived.Test.YtidpfggikighlaaDoorGV
import Derived.Test.YtidpfggikighlaaDoorGQ
namespace Go.Proofs.YtidpfggikighlaaDoor
open Go Go.RowKit

theorem against2_eq (r : Rw) (p : Int) (h : otherP r p ≠ 0) : sp [sp [wRound, Lib.itoa r.rd, wTable, Lib.itoa r.tb, sideW r p], wAgainst, Lib.itoa (otherP r p), wSet, Lib.itoa r.st] = seatL r p := by
  have := sp_sp [[wRound, Lib.itoa r.rd, wTable, Lib.itoa r.tb, sideW r p], [wAgainst], [Lib.itoa (otherP r p)], [wSet], [Lib.itoa r.st]] (by simp)
  unfold seatL placeW
  rw [if_neg h]
  simpa [sp_one] using this
set_option maxRecDepth 100000 in
set_option maxHeartbeats 16000000 in
theorem rpair_walk (m : Mv) (rv : Value) (p : Int) (hp : inI p) (w : World) (he : Env w) (h : MV w m rv) : Calls Tryd.prog 25 #[mvV m rv, .int .i64 p] w (RetT w (pairO m p) (pairE m p)) := by
  have HM := Lib.hid h
  have HE := Lib.hid he
  obtain ⟨A, cap, rfl⟩ := h.rows.len
  obtain ⟨N, hN⟩ : ∃ N, m.rows.length = N := ⟨_, rfl⟩
  have HN := Lib.hid hN
  have FI := Lib.hid (fun wx (hb : Below w.heap.size w wx) => rfit_any m _ wx (HM.out.keep hb))
  rw [hN] at FI ⊢
  have HP := Lib.hid hp
  clear h he hN hp
  unfold mvV
  go_enter Tryd.func25, Tryd.ntmps25
  go_wp2_with fail
  have B0 := Lib.hid (below1 w (.cells #[.int .i64 m.tab, .int .i64 m.rou, .int .i64 m.set, .int .i64 m.cop, .int .i64 m.win, .slice A N cap] 24))
  have HB0 := Lib.hid (Blk.new w 24 #[.int .i64 m.tab, .int .i64 m.rou, .int .i64 m.set, .int .i64 m.cop, .int .i64 m.win, .slice A N cap])
  obtain ⟨mb, hmb⟩ : ∃ mb, w.heap.size = mb := ⟨_, rfl⟩
  refine (FI.out _ B0.out).mono ?_
  rintro e w1 ⟨rfl, hb⟩
  have B1 := Lib.hid (bchain B0.out hb)
  have HB1 := Lib.hid (HB0.out.keep hb HB0.out.lt)
  rw [hmb] at HB1 ⊢
  have HMB := Lib.hid hmb
  clear hb B0 HB0 hmb FI
  rcases hf : fitB m with _ | _
  · have HX := Lib.hid (pair_no p hf)
    clear hf
    go_wp2_with fail
    go_ret2
    exact ⟨.slice none 0 0, by rw [HX.out.2]; rfl, by rw [HX.out.1]; exact .none_, B1.out⟩
  by_cases hp1 : p < 1
  · have HX := Lib.hid (pair_bad hf (.inl hp1))
    have t1 : decide (p < 1) = true := decide_eq_true hp1
    clear hf
    go_wp2_with fail
    go_ret2
    exact ⟨.slice none 0 0, by rw [HX.out.2]; rfl, by rw [HX.out.1]; exact .none_, B1.out⟩
  have t1 : decide (p < 1) = false := decide_eq_false hp1
  by_cases hp2 : 49 < p
  · have HX := Lib.hid (pair_bad hf (.inr hp2))
    have t2 : decide (49 < p) = true := decide_eq_true hp2
    clear hf
    go_wp2_with fail
    go_ret2
    exact ⟨.slice none 0 0, by rw [HX.out.2]; rfl, by rw [HX.out.1]; exact .none_, B1.out⟩
  have t2 : decide (49 < p) = false := decide_eq_false hp2
  have HX := Lib.hid (pair_ok (p := p) hf ⟨by omega, by omega⟩)
  have hd := fit_head hf
  obtain ⟨R, hR⟩ : ∃ R : Nat, m.rou = R := ⟨m.rou.toNat, by omega⟩
  have hR47 : R ≤ 47 := by omega
  have HRT : Hid (m.rou.toNat = R) := Lib.hid (by omega)
  have hNb : N ≤ 1128 := by
    have := prod_bd hd.1 hd.2.1 hd.2.2.1 hd.2.2.2.1
    have h5 := hd.2.2.2.2
    have := HN.out
    omega
  clear hf hd
  have TX := Lib.hid (fun (n : Int) (hn : inI n) (wx : World) (hb : Below w.heap.size w wx) => rtext_any n hn wx (HE.out.keep hb))
  go_wp2_with fail
  refine (TX.out p HP.out w1 B1.out).mono ?_
  rintro e w2 ⟨rfl, hb⟩
  have B2 := Lib.hid (bchain B1.out hb)
  have HB2 := Lib.hid (HB1.out.keep hb HB1.out.lt)
  clear hb t1 t2 B1 HB1
  go_wp2_with fail
  refine (rjoin_new [wPair, Lib.itoa p] w2 rfl rfl (by simp) (by simp) (List.forall_mem_cons.2 ⟨by decide, List.forall_mem_cons.2 ⟨itoa_short HP.out, fun x hx => absurd hx (by simp)⟩⟩) rfl).mono ?_
  rintro e w3 ⟨rfl, hw3⟩
  have hb3 := hw3 ▸ below1 w2 _
  have B3 := Lib.hid (bchain B2.out hb3)
  have HB3 := Lib.hid (HB2.out.keep hb3 HB2.out.lt)
  have HH0 : Hid (sp [wPair, Lib.itoa p] = numL wPair [p]) := Lib.hid (by rw [numL_def]; rfl)
  rw [HH0.out]
  obtain ⟨H, hH⟩ : ∃ H, numL wPair [p] = H := ⟨_, rfl⟩
  rw [hH] at HX ⊢
  clear hb3 hw3 hH HH0 B2 HB2
  go_upto_region 6 with fail
  have hrow : Hid ((w3.alloc (.cells #[.string (bS H)] 9)).ownsRow w3.heap.size 9 1 (.slice (some ⟨w3.heap.size, 0, none⟩) 1 1) 1 ([H].map strV)) := Lib.hid (own_one w3 9 (.string (bS H)))
  have B4 := Lib.hid (bchain B3.out (below1 w3 (.cells #[.string (bS H)] 9)))
  have HB4 := Lib.hid (HB3.out.alloc (.cells #[.string (bS H)] 9))
  have HLT := Lib.hid HB3.out.lt
  clear HB3 B3
  have hb2 : Hid (w3.heap.size ≤ (w3.alloc (.cells #[.string (bS H)] 9)).heap.size) := Lib.hid (by simp)
  generalize w3.alloc (.cells #[.string (bS H)] 9) = w4 at *
  generalize w3.heap.size = base at *
  go_wp2_with fail
  go_loopw [6, 7] (fun s6 s7 wr => ∃ k : Nat, k ≤ R ∧ Hid (wr.ownsRow base 9 1 s6 (k + 1) ((cardL H k (pairAt p m.rows)).map strV)) ∧ s7 = .int .i64 (k : Int) ∧ Hid (Below w.heap.size w wr) ∧ Hid (Blk wr mb 24 #[.int .i64 m.tab, .int .i64 m.rou, .int .i64 m.set, .int .i64 m.cop, .int .i64 m.win, .slice A N cap]) ∧ Hid (base ≤ wr.heap.size)) (fun _ s7 _ => R - (intOf s7).toNat)
  case atStart => exact ⟨0, Nat.zero_le _, by unfold cardL; exact hrow, rfl, B4, HB4, hb2⟩
  case round =>
    obtain ⟨k, hk, HO, rfl, BR, HBr, Hbase⟩ := hrel
    obtain ⟨AO, co, rfl⟩ := own_slice HO.out
    have x1 := HBr.out.cell (j := 1) (v := .int .i64 (R : Int)) (by rw [hR]; rfl)
    by_cases hlt : k < R
    case neg =>
      obtain rfl : k = R := by omega
      have t1 : decide ((k : Int) < (k : Int)) = false := decide_eq_false (by omega)
      have hR2 : Hid (RS wr (.slice AO (k + 1) co) (cardL H k (pairAt p m.rows))) := Lib.hid (by
        have h := HO.out
        have hlen := cardL_len H k (pairAt p m.rows)
        rw [← hlen] at h ⊢
        exact rs_of_own h)
      go_wp2_with fail
      go_ret2
      exact ⟨.slice AO (k + 1) co, by rw [HX.out.2]; rfl, by rw [HX.out.1, HRT.out]; exact hR2.out, BR.out⟩
    have t1 : decide ((k : Int) < (R : Int)) = true := decide_eq_true (by omega)
    have hkI : inI (k : Int) := ⟨by omega, by omega⟩
    go_wp2_with fail
    refine (TX.out (k : Int) hkI wr BR.out).mono ?_
    rintro e w5 ⟨rfl, hb⟩
    have B5 := Lib.hid (bchain BR.out hb)
    have HB5 := Lib.hid (HBr.out.keep hb HBr.out.lt)
    have HO5 := Lib.hid (own_keep HO.out hb)
    have Hb5 := Lib.hid (Nat.le_trans Hbase.out hb.size)
    clear hb BR HBr HO Hbase x1 t1
    go_wp2_with fail
    refine (rjoin_new [wRound, Lib.itoa (k : Int), wOut] w5 rfl rfl (by simp) (by simp) (List.forall_mem_cons.2 ⟨by decide, List.forall_mem_cons.2 ⟨itoa_short hkI, List.forall_mem_cons.2 ⟨by decide, fun x hx => absurd hx (by simp)⟩⟩⟩) rfl).mono ?_
    rintro e w6 ⟨rfl, hw6⟩
    have hb6 := hw6 ▸ below1 w5 _
    have B6 := Lib.hid (bchain B5.out hb6)
    have HB6 := Lib.hid (HB5.out.keep hb6 HB5.out.lt)
    have HO6 := Lib.hid (own_keep HO5.out hb6)
    have Hb6 := Lib.hid (Nat.le_trans Hb5.out hb6.size)
    have HE0 : Hid (sp [wRound, Lib.itoa (k : Int), wOut] = pairAt p (m.rows.take 0) k) := Lib.hid (by rw [List.take_zero, pairAt_nil]; unfold outL; rfl)
    rw [HE0.out]
    clear hb6 hw6 B5 HB5 HO5 Hb5 HE0
    go_upto_block 2 with fail
    go_cut [8] (fun s8 wx => s8 = .string (bS (pairAt p m.rows k)) ∧ Hid (Below w6.heap.size w6 wx))
    case first =>
      go_wp2_with fail
      go_loopw [8, 9] (fun s8 s9 wr => ∃ j : Nat, j ≤ N ∧ s8 = .string (bS (pairAt p (m.rows.take j) k)) ∧ s9 = .int .i64 (j : Int) ∧ Hid (Below w6.heap.size w6 wr)) (fun _ s9 _ => N - (intOf s9).toNat)
      case atStart => exact ⟨0, Nat.zero_le _, rfl, rfl, Lib.hid (Below.refl _ _)⟩
      case round =>
        obtain ⟨j, hj, rfl, rfl, BJ⟩ := hrel
        have x5 := (HB6.out.keep BJ.out HB6.out.lt).cell (j := 5) (v := .slice A N cap) rfl
        by_cases hjl : j < N
        case neg =>
          obtain rfl : j = N := by omega
          have t1 : decide ((j : Int) < (j : Int)) = false := decide_eq_false (by omega)
          rw [show m.rows.take j = m.rows by rw [← HN.out, List.take_length]]
          go_wp2_with fail
          go_meet
          exact ⟨rfl, BJ⟩
        have t1 : decide ((j : Int) < (N : Int)) = true := decide_eq_true (by omega)
        obtain ⟨r, hr⟩ : ∃ r, m.rows[j]? = some r := ⟨_, List.getElem?_eq_getElem (by rw [HN.out]; exact hjl)⟩
        obtain ⟨b, o, rfl, c0, c1, c2, c3, c4⟩ := (HM.out.rows.keep (bchain B6.out BJ.out)).at hr
        have HRI := Lib.hid (HM.out.ri r (List.mem_of_getElem? hr))
        have HT : Hid (pairAt p (m.rows.take (j + 1)) k = stepP p k (pairAt p (m.rows.take j) k) r) := Lib.hid (by rw [take_more hr, pairAt_snoc])
        clear hr
        go_upto_region 14 with fail
        have HRw := Lib.hid (Blk.new wr 45 #[.int .i64 r.rd, .int .i64 r.tb, .int .i64 r.ns, .int .i64 r.ew, .int .i64 r.st])
        have BK := Lib.hid (bchain BJ.out (below1 wr (.cells #[.int .i64 r.rd, .int .i64 r.tb, .int .i64 r.ns, .int .i64 r.ew, .int .i64 r.st] 45)))
        clear c0 c1 c2 c3 c4 x5 BJ t1
        generalize wr.alloc (.cells #[.int .i64 r.rd, .int .i64 r.tb, .int .i64 r.ns, .int .i64 r.ew, .int .i64 r.st] 45) = w7 at *
        generalize wr.heap.size = rb at *
        have c0 := HRw.out.cell (j := 0) (v := .int .i64 r.rd) rfl
        have c2 := HRw.out.cell (j := 2) (v := .int .i64 r.ns) rfl
        have c3 := HRw.out.cell (j := 3) (v := .int .i64 r.ew) rfl
        obtain ⟨X1, hX1⟩ : ∃ X, (r.rd == (k : Int)) = X := ⟨_, rfl⟩
        obtain ⟨X2, hX2⟩ : ∃ X, (r.ns == p) = X := ⟨_, rfl⟩
        obtain ⟨X3, hX3⟩ : ∃ X, (r.ew == p) = X := ⟨_, rfl⟩
        go_cut [64] (fun s64 wx => s64 = .bool (!(X1 && (X2 || X3))) ∧ wx = w7)
        case first =>
          have n1 : (r.rd != (k : Int)) = !X1 := by rw [bne, hX1]
          have n2 : (r.ns != p) = !X2 := by rw [bne, hX2]
          have n3 : (r.ew != p) = !X3 := by rw [bne, hX3]
          cases X1 with
          | false =>
            rw [Bool.not_false] at n1
            go_wp2_with fail
            all_goals (go_meet; exact ⟨rfl, rfl⟩)
          | true =>
            rw [Bool.not_true] at n1
            cases X2 with
            | true =>
              rw [Bool.not_true] at n2
              go_wp2_with fail
              all_goals (go_meet; exact ⟨rfl, rfl⟩)
            | false =>
              rw [Bool.not_false] at n2
              cases X3 with
              | true =>
                rw [Bool.not_true] at n3
                go_wp2_with fail
                all_goals (go_meet; exact ⟨rfl, rfl⟩)
              | false =>
                rw [Bool.not_false] at n3
                go_wp2_with fail
                all_goals (go_meet; exact ⟨rfl, rfl⟩)
        case rest =>
        obtain ⟨rfl, rfl⟩ := hcut
        by_cases hit : r.rd = (k : Int) ∧ hits p r = true
        case neg =>
          have HS : Hid (pairAt p (m.rows.take (j + 1)) k = pairAt p (m.rows.take j) k) := Lib.hid (by rw [HT.out]; unfold stepP; rw [if_neg hit])
          have hb : (X1 && (X2 || X3)) = false := by
            rcases h : (X1 && (X2 || X3)) with _ | _
            · rfl
            · rw [Bool.and_eq_true, Bool.or_eq_true, ← hX1, ← hX2, ← hX3, beq_iff_eq, beq_iff_eq, beq_iff_eq] at h
              exact absurd ⟨h.1, by unfold hits; exact decide_eq_true h.2⟩ hit
          rw [hb]
          clear hit HT hb hX1 hX2 hX3
          go_wp2_with fail
          go_roundw
          case rel => exact ⟨j + 1, by omega, by rw [HS.out], by go_num, BK⟩
          case measure => simp [intOf]; omega
        have HRD := Lib.hid hit.1
        have HS : Hid (pairAt p (m.rows.take (j + 1)) k = seatL r p) := Lib.hid (by rw [HT.out]; unfold stepP; rw [if_pos hit])
        have hyes : r.ns = p ∨ r.ew = p := by have := hit.2; unfold hits at this; exact of_decide_eq_true this
        have hb : (X1 && (X2 || X3)) = true := by
          rw [Bool.and_eq_true, Bool.or_eq_true, ← hX1, ← hX2, ← hX3, beq_iff_eq, beq_iff_eq, beq_iff_eq]
          exact ⟨hit.1, hyes⟩
        rw [hb]
        obtain ⟨SW, hSWe⟩ : ∃ SW, sideW r p = SW := ⟨_, rfl⟩
        obtain ⟨OT, hOTe⟩ : ∃ OT, otherP r p = OT := ⟨_, rfl⟩
        have HSWE := Lib.hid hSWe
        have HOTE := Lib.hid hOTe
        have hSW : SW.length ≤ 100000 := by rw [← hSWe]; unfold sideW; split <;> decide
        have hOT : inI OT := by rw [← hOTe]; unfold otherP; split; exact HRI.out.ns; exact HRI.out.ew
        clear hit HT hb hX1 hX2 c0
        go_upto_region 15 with fail
        go_quiet (fail)
        replace HRw := Lib.hid (HRw.out.drewN nq)
        replace BK := Lib.hid (below_drewN BK.out nq)
        clear c2 c3
        generalize wc.drewN nq = w8 at *
        have c2 := HRw.out.cell (j := 2) (v := .int .i64 r.ns) rfl
        have c3 := HRw.out.cell (j := 3) (v := .int .i64 r.ew) rfl
        go_upto_if 70 with fail
        go_cut [11, 12] (fun s11 s12 wx => s11 = .string (bS SW) ∧ s12 = .int .i64 OT ∧ ∃ n, wx = w8.drewN n)
        case first =>
          by_cases hew : r.ew = p
          · have h1 : SW = wEW := by rw [← hSWe]; unfold sideW; rw [if_pos hew]
            have h2 : OT = r.ns := by rw [← hOTe]; unfold otherP; rw [if_pos hew]
            obtain rfl : X3 = true := by rw [← hX3]; exact beq_iff_eq.2 hew
            have H12 := Lib.hid (And.intro h1 h2)
            clear h1 h2 hSWe hOTe hew hyes hSW hOT
            go_upto_region 17 with fail
            go_quiet (fail)
            go_wp2_with fail
            go_meet
            exact ⟨by rw [H12.out.1]; rfl, by rw [H12.out.2], _, rfl⟩
          · have h1 : SW = wNS := by rw [← hSWe]; unfold sideW; rw [if_neg hew]
            have h2 : OT = r.ew := by rw [← hOTe]; unfold otherP; rw [if_neg hew]
            obtain rfl : X3 = false := by rw [← hX3]; exact beq_eq_false_iff_ne.2 hew
            have H12 := Lib.hid (And.intro h1 h2)
            clear h1 h2 hSWe hOTe hew hyes hSW hOT
            go_wp2_with fail
            go_meet
            exact ⟨by rw [H12.out.1]; rfl, by rw [H12.out.2], 0, rfl⟩
        case rest =>
        obtain ⟨rfl, rfl, nq2, rfl⟩ := hcut
        clear c2 c3 hSWe hOTe hyes hX3
        have hD : Below w8.heap.size w8 (w8.drewN nq2).drew := (below_drewN (Below.refl _ w8) nq2).drew
        replace HRw := Lib.hid (HRw.out.keep hD HRw.out.lt)
        replace BK := Lib.hid (bchain BK.out hD)
        have B8 := Lib.hid (bchain B6.out BK.out)
        have hm0 := hkI
        have hm1 := HRI.out.tb
        have hm2 := hOT
        have hm3 := HRI.out.st
        have hPL : ([] : List UInt8).length ≤ 100000 := by decide
        go_upto_region 18 with fail
        obtain ⟨W0, hW0⟩ : ∃ W0, (w8.drewN nq2).drew = W0 := ⟨_, rfl⟩
        rw [hW0] at HRw BK B8
        refine rest_begin (by kernel_rfl) ?_
        rw [hW0]
        clear hD hW0 hPL
        clear w8
        refine rest_flow2 [some 73, some 74, some 75, some 76, some 77, some 78, some 79, some 80] [Sp.is (.int .i64 (k : Int)), Sp.is (.string (bS (Lib.itoa (k : Int)))), Sp.is (.pointer (some ⟨rb, 1, none⟩)), Sp.is (.int .i64 r.tb), Sp.is (.string (bS (Lib.itoa r.tb))), Sp.is (.string (bS SW)), Sp.row [(.string ⟨#[114, 111, 117, 110, 100]⟩), (.string (bS (Lib.itoa (k : Int)))), (.string ⟨#[116, 97, 98, 108, 101]⟩), (.string (bS (Lib.itoa r.tb))), (.string (bS SW))], Sp.is (.string (bS (sp [wRound, (Lib.itoa (k : Int)), wTable, (Lib.itoa r.tb), SW])))] 8 (by kernel_rfl) (by kernel_rfl) (fun u F hF => ?_) (fun u w' hbF hsF => ?_)
        case refine_1 =>
          have E7 : F.eval (.tmp 7) = (.int .i64 (k : Int)) := (congrArg (fun a => Act.eval a (.tmp 7)) hF).trans (eval_out [some 73, some 74, some 75, some 76, some 77, some 78, some 79, some 80] 0 _ (by decide))
          have E10 : F.eval (.tmp 10) = (.pointer (some ⟨rb, 0, none⟩)) := (congrArg (fun a => Act.eval a (.tmp 10)) hF).trans (eval_out [some 73, some 74, some 75, some 76, some 77, some 78, some 79, some 80] 0 _ (by decide))
          have E11 : F.eval (.tmp 11) = (.string (bS SW)) := (congrArg (fun a => Act.eval a (.tmp 11)) hF).trans (eval_out [some 73, some 74, some 75, some 76, some 77, some 78, some 79, some 80] 0 _ (by decide))
          have D73 : F.eval (.tmp 73) = u 0 := (congrArg (fun a => Act.eval a (.tmp 73)) hF).trans (eval_in [some 73, some 74, some 75, some 76, some 77, some 78, some 79, some 80] 0 0 _ (by decide) (by omega) rfl (of_decide_eq_true (by kernel_rfl)))
          have D75 : F.eval (.tmp 75) = u 2 := (congrArg (fun a => Act.eval a (.tmp 75)) hF).trans (eval_in [some 73, some 74, some 75, some 76, some 77, some 78, some 79, some 80] 0 2 _ (by decide) (by omega) rfl (of_decide_eq_true (by kernel_rfl)))
          have D76 : F.eval (.tmp 76) = u 3 := (congrArg (fun a => Act.eval a (.tmp 76)) hF).trans (eval_in [some 73, some 74, some 75, some 76, some 77, some 78, some 79, some 80] 0 3 _ (by decide) (by omega) rfl (of_decide_eq_true (by kernel_rfl)))
          have D74 : F.eval (.tmp 74) = u 1 := (congrArg (fun a => Act.eval a (.tmp 74)) hF).trans (eval_in [some 73, some 74, some 75, some 76, some 77, some 78, some 79, some 80] 0 1 _ (by decide) (by omega) rfl (of_decide_eq_true (by kernel_rfl)))
          have D77 : F.eval (.tmp 77) = u 4 := (congrArg (fun a => Act.eval a (.tmp 77)) hF).trans (eval_in [some 73, some 74, some 75, some 76, some 77, some 78, some 79, some 80] 0 4 _ (by decide) (by omega) rfl (of_decide_eq_true (by kernel_rfl)))
          have D78 : F.eval (.tmp 78) = u 5 := (congrArg (fun a => Act.eval a (.tmp 78)) hF).trans (eval_in [some 73, some 74, some 75, some 76, some 77, some 78, some 79, some 80] 0 5 _ (by decide) (by omega) rfl (of_decide_eq_true (by kernel_rfl)))
          have D79 : F.eval (.tmp 79) = u 6 := (congrArg (fun a => Act.eval a (.tmp 79)) hF).trans (eval_in [some 73, some 74, some 75, some 76, some 77, some 78, some 79, some 80] 0 6 _ (by decide) (by omega) rfl (of_decide_eq_true (by kernel_rfl)))
          clear hF
          refine ⟨?_, ?_, ?_, ?_, ?_, ?_, ?_, ?_, trivial⟩
          · intro w1 hb hd K hK
            have e1 := E7
            exact op_val (v := (.int .i64 (k : Int))) rfl (by simp only [execOp, e1]; go_simp) (hK _ _ (show _ = _ from rfl) (Below.refl _ _))
          · intro w1 hb hd K hK
            have e1 := D73.trans (show u 0 = (.int .i64 (k : Int)) from hd ⟨0, .data⟩ (by simp) rfl (Nat.zero_le _))
            refine op_call (R := fun v w2 => v = (.string (bS (Lib.itoa (k : Int)))) ∧ Below w1.heap.size w1 w2) (f := 48) (args := #[.int .i64 (k : Int)]) rfl (by simp only [execOp]; go_simp; first | exact eval_get e1 | exact ⟨rfl, eval_get e1⟩ | exact ⟨eval_get e1, rfl⟩) ((rtext_any (k : Int) (by first | exact hm0 | exact hm1 | exact hm2 | exact hm3) w1 (HE.out.keep (bchain B8.out hb))).mono fun e w2 hh => ⟨_, hh.1, rfl, hh.2⟩) (fun v w2 hh => hK _ _ hh.1 hh.2)
          · intro w1 hb hd K hK
            have e1 := E10
            exact op_val (v := (.pointer (some ⟨rb, 1, none⟩))) rfl (by simp only [execOp, e1]; go_simp) (hK _ _ (show _ = _ from rfl) (Below.refl _ _))
          · intro w1 hb hd K hK
            have e1 := D75.trans (show u 2 = (.pointer (some ⟨rb, 1, none⟩)) from hd ⟨2, .data⟩ (by simp) rfl (Nat.zero_le _))
            have c0 : w1.cell? ⟨rb, 1, none⟩ = some (.int .i64 r.tb) := (HRw.out.keep hb HRw.out.lt).cell (j := 1) rfl
            exact op_val (v := (.int .i64 r.tb)) rfl (by simp only [execOp, e1]; go_simp) (hK _ _ (show _ = _ from rfl) (Below.refl _ _))
          · intro w1 hb hd K hK
            have e1 := D76.trans (show u 3 = (.int .i64 r.tb) from hd ⟨3, .data⟩ (by simp) rfl (Nat.zero_le _))
            refine op_call (R := fun v w2 => v = (.string (bS (Lib.itoa r.tb))) ∧ Below w1.heap.size w1 w2) (f := 48) (args := #[.int .i64 r.tb]) rfl (by simp only [execOp]; go_simp; first | exact eval_get e1 | exact ⟨rfl, eval_get e1⟩ | exact ⟨eval_get e1, rfl⟩) ((rtext_any r.tb (by first | exact hm0 | exact hm1 | exact hm2 | exact hm3) w1 (HE.out.keep (bchain B8.out hb))).mono fun e w2 hh => ⟨_, hh.1, rfl, hh.2⟩) (fun v w2 hh => hK _ _ hh.1 hh.2)
          · intro w1 hb hd K hK
            have e1 := E11
            exact op_val (v := (.string (bS SW))) rfl (by simp only [execOp, e1]; go_simp) (hK _ _ (show _ = _ from rfl) (Below.refl _ _))
          · intro w1 hb hd K hK
            have e2 := D74.trans (show u 1 = (.string (bS (Lib.itoa (k : Int)))) from hd ⟨1, .data⟩ (by simp) rfl (Nat.zero_le _))
            have e4 := D77.trans (show u 4 = (.string (bS (Lib.itoa r.tb))) from hd ⟨4, .data⟩ (by simp) rfl (Nat.zero_le _))
            have e5 := D78.trans (show u 5 = (.string (bS SW)) from hd ⟨5, .data⟩ (by simp) rfl (Nat.zero_le _))
            exact op_val (v := .slice (some ⟨w1.heap.size, 0, none⟩) 5 5) (w' := w1.alloc (.cells #[(.string ⟨#[114, 111, 117, 110, 100]⟩), (.string (bS (Lib.itoa (k : Int)))), (.string ⟨#[116, 97, 98, 108, 101]⟩), (.string (bS (Lib.itoa r.tb))), (.string (bS SW))] 9)) rfl (by simp only [execOp, List.map_toArray, List.map_cons, List.map_nil, e2, e4, e5]; go_simp) (hK _ _ (Sp.row_new w1 9 [(.string ⟨#[114, 111, 117, 110, 100]⟩), (.string (bS (Lib.itoa (k : Int)))), (.string ⟨#[116, 97, 98, 108, 101]⟩), (.string (bS (Lib.itoa r.tb))), (.string (bS SW))] 5 _ rfl rfl) (below1 _ _))
          · intro w1 hb hd K hK
            obtain ⟨b, hv, hlt, hc⟩ := (show (Sp.row [(.string ⟨#[114, 111, 117, 110, 100]⟩), (.string (bS (Lib.itoa (k : Int)))), (.string ⟨#[116, 97, 98, 108, 101]⟩), (.string (bS (Lib.itoa r.tb))), (.string (bS SW))]).p (u 6) w1 from hd ⟨6, .data⟩ (by simp) rfl (Nat.zero_le _))
            have e1 := D79.trans hv
            refine op_call (R := fun v w2 => v = (.string (bS (sp [wRound, (Lib.itoa (k : Int)), wTable, (Lib.itoa r.tb), SW]))) ∧ Below w1.heap.size w1 w2) (f := 47) (args := #[.slice (some ⟨b, 0, none⟩) 5 5]) rfl (by simp only [execOp]; go_simp; first | exact eval_get e1 | exact ⟨rfl, eval_get e1⟩ | exact ⟨eval_get e1, rfl⟩) ((rjoin_b b 0 _ [wRound, (Lib.itoa (k : Int)), wTable, (Lib.itoa r.tb), SW] (by simp) (by simp) ((List.forall_mem_cons.2 ⟨(by first | decide | exact hSW | exact hPL | exact itoa_short hm0 | exact itoa_short hm1 | exact itoa_short hm2 | exact itoa_short hm3), (List.forall_mem_cons.2 ⟨(by first | decide | exact hSW | exact hPL | exact itoa_short hm0 | exact itoa_short hm1 | exact itoa_short hm2 | exact itoa_short hm3), (List.forall_mem_cons.2 ⟨(by first | decide | exact hSW | exact hPL | exact itoa_short hm0 | exact itoa_short hm1 | exact itoa_short hm2 | exact itoa_short hm3), (List.forall_mem_cons.2 ⟨(by first | decide | exact hSW | exact hPL | exact itoa_short hm0 | exact itoa_short hm1 | exact itoa_short hm2 | exact itoa_short hm3), (List.forall_mem_cons.2 ⟨(by first | decide | exact hSW | exact hPL | exact itoa_short hm0 | exact itoa_short hm1 | exact itoa_short hm2 | exact itoa_short hm3), (fun x hx => absurd hx (by simp))⟩)⟩)⟩)⟩)⟩)) w1 (wr_of_row (l := [wRound, (Lib.itoa (k : Int)), wTable, (Lib.itoa r.tb), SW]) hc)).mono fun e w2 hh => ⟨_, hh.1, rfl, hh.2⟩) (fun v w2 hh => hK _ _ hh.1 hh.2)
        have hv73 : u 0 = (.int .i64 (k : Int)) := (show u 0 = _ from hsF 0 (by omega) (by omega))
        have hv74 : u 1 = (.string (bS (Lib.itoa (k : Int)))) := (show u 1 = _ from hsF 1 (by omega) (by omega))
        have hv75 : u 2 = (.pointer (some ⟨rb, 1, none⟩)) := (show u 2 = _ from hsF 2 (by omega) (by omega))
        have hv76 : u 3 = (.int .i64 r.tb) := (show u 3 = _ from hsF 3 (by omega) (by omega))
        have hv77 : u 4 = (.string (bS (Lib.itoa r.tb))) := (show u 4 = _ from hsF 4 (by omega) (by omega))
        have hv78 : u 5 = (.string (bS SW)) := (show u 5 = _ from hsF 5 (by omega) (by omega))
        obtain ⟨b79, hv79, hlt79, hc79⟩ := (show (Sp.row [(.string ⟨#[114, 111, 117, 110, 100]⟩), (.string (bS (Lib.itoa (k : Int)))), (.string ⟨#[116, 97, 98, 108, 101]⟩), (.string (bS (Lib.itoa r.tb))), (.string (bS SW))]).p (u 6) w' from hsF 6 (by omega) (by omega))
        have hv80 : u 7 = (.string (bS (sp [wRound, (Lib.itoa (k : Int)), wTable, (Lib.itoa r.tb), SW]))) := (show u 7 = _ from hsF 7 (by omega) (by omega))
        simp only [putRow, hv73, hv74, hv75, hv76, hv77, hv78, hv79, hv80, Act.put, List.setIfInBounds_toArray, List.set_cons_succ, List.set_cons_zero]
        clear hsF hv73 hv74 hv75 hv76 hv77 hv78 hv79 hv80
        refine rest_forced 1 (by kernel_rfl) ?_
        simp only [List.drop_succ_cons, List.drop_zero, List.take_succ_cons, List.take_zero]
        go_wp2_with fail
        refine rest_done (by kernel_rfl) ?_
        replace HRw := Lib.hid (HRw.out.keep hbF HRw.out.lt)
        replace BK := Lib.hid (bchain BK.out hbF)
        replace B8 := Lib.hid (bchain B8.out hbF)
        have hPL : (sp [wRound, Lib.itoa (k : Int), wTable, Lib.itoa r.tb, SW]).length ≤ 100000 := by
          refine Nat.le_trans (sp_len _ 1000 (List.forall_mem_cons.2 ⟨by decide, List.forall_mem_cons.2 ⟨Nat.le_trans (itoa_len _ hm0) (by decide), List.forall_mem_cons.2 ⟨by decide, List.forall_mem_cons.2 ⟨Nat.le_trans (itoa_len _ hm1) (by decide), List.forall_mem_cons.2 ⟨?_, fun x hx => absurd hx (by simp)⟩⟩⟩⟩⟩)) (by simp)
          rw [← HSWE.out]; unfold sideW; split <;> decide
        obtain ⟨PL, hPLe⟩ : ∃ PL, sp [wRound, Lib.itoa (k : Int), wTable, Lib.itoa r.tb, SW] = PL := ⟨_, rfl⟩
        have HPLE := Lib.hid hPLe
        rw [hPLe] at hPL ⊢
        clear hPLe hbF hc79 hlt79
        generalize w' = w9 at *
        by_cases hz : OT = 0
        · have e0 : (OT == 0) = true := beq_iff_eq.2 hz
          have HEQ : Hid (sp [PL, wAlone] = pairAt p (m.rows.take (j + 1)) k) := Lib.hid (by
            have := alone_eq r p (by rw [HOTE.out]; exact hz)
            rw [HSWE.out, HRD.out, HPLE.out] at this
            rw [HS.out]
            exact this)
          clear hz
          go_wp2_with fail
          refine (rjoin_new [PL, wAlone] w9 rfl rfl (by simp) (by simp) (List.forall_mem_cons.2 ⟨hPL, List.forall_mem_cons.2 ⟨by decide, fun x hx => absurd hx (by simp)⟩⟩) rfl).mono ?_
          rintro e w10 ⟨rfl, hw⟩
          have hb10 := hw ▸ below1 w9 _
          replace BK := Lib.hid (bchain BK.out hb10)
          rw [HEQ.out]
          clear hb10 hw
          go_wp2_with fail
          go_roundw
          case rel => exact ⟨j + 1, by omega, rfl, by go_num, BK⟩
          case measure => simp [intOf]; omega
        · have e0 : (OT == 0) = false := beq_eq_false_iff_ne.2 hz
          have HEQ : Hid (sp [PL, wAgainst, Lib.itoa OT, wSet, Lib.itoa r.st] = pairAt p (m.rows.take (j + 1)) k) := Lib.hid (by
            have := against2_eq r p (by rw [HOTE.out]; exact hz)
            rw [HSWE.out, HRD.out, HPLE.out, HOTE.out] at this
            rw [HS.out]
            exact this)
          clear hz
          go_upto_region 21 with fail
          clear e0
          obtain ⟨W0, hW0⟩ : ∃ W0, w9.drew = W0 := ⟨_, rfl⟩
          have hD : Below w9.heap.size w9 W0 := hW0 ▸ (Below.refl _ w9).drew
          replace HRw := Lib.hid (HRw.out.keep hD HRw.out.lt)
          replace BK := Lib.hid (bchain BK.out hD)
          replace B8 := Lib.hid (bchain B8.out hD)
          refine rest_begin (by kernel_rfl) ?_
          rw [hW0]
          clear hD hW0
          clear w9
          refine rest_flow2 [some 86, some 87, some 88, some 89, some 90, some 91, some 92, some 93] [Sp.is (.string (bS PL)), Sp.is (.int .i64 OT), Sp.is (.string (bS (Lib.itoa OT))), Sp.is (.pointer (some ⟨rb, 4, none⟩)), Sp.is (.int .i64 r.st), Sp.is (.string (bS (Lib.itoa r.st))), Sp.row [(.string (bS PL)), (.string ⟨#[97, 103, 97, 105, 110, 115, 116]⟩), (.string (bS (Lib.itoa OT))), (.string ⟨#[115, 101, 116]⟩), (.string (bS (Lib.itoa r.st)))], Sp.is (.string (bS (sp [PL, wAgainst, (Lib.itoa OT), wSet, (Lib.itoa r.st)])))] 8 (by kernel_rfl) (by kernel_rfl) (fun u F hF => ?_) (fun u w' hbF hsF => ?_)
          case refine_1 =>
            have E8 : F.eval (.tmp 8) = (.string (bS PL)) := (congrArg (fun a => Act.eval a (.tmp 8)) hF).trans (eval_out [some 86, some 87, some 88, some 89, some 90, some 91, some 92, some 93] 0 _ (by decide))
            have E12 : F.eval (.tmp 12) = (.int .i64 OT) := (congrArg (fun a => Act.eval a (.tmp 12)) hF).trans (eval_out [some 86, some 87, some 88, some 89, some 90, some 91, some 92, some 93] 0 _ (by decide))
            have E10 : F.eval (.tmp 10) = (.pointer (some ⟨rb, 0, none⟩)) := (congrArg (fun a => Act.eval a (.tmp 10)) hF).trans (eval_out [some 86, some 87, some 88, some 89, some 90, some 91, some 92, some 93] 0 _ (by decide))
            have D87 : F.eval (.tmp 87) = u 1 := (congrArg (fun a => Act.eval a (.tmp 87)) hF).trans (eval_in [some 86, some 87, some 88, some 89, some 90, some 91, some 92, some 93] 0 1 _ (by decide) (by omega) rfl (of_decide_eq_true (by kernel_rfl)))
            have D89 : F.eval (.tmp 89) = u 3 := (congrArg (fun a => Act.eval a (.tmp 89)) hF).trans (eval_in [some 86, some 87, some 88, some 89, some 90, some 91, some 92, some 93] 0 3 _ (by decide) (by omega) rfl (of_decide_eq_true (by kernel_rfl)))
            have D90 : F.eval (.tmp 90) = u 4 := (congrArg (fun a => Act.eval a (.tmp 90)) hF).trans (eval_in [some 86, some 87, some 88, some 89, some 90, some 91, some 92, some 93] 0 4 _ (by decide) (by omega) rfl (of_decide_eq_true (by kernel_rfl)))
            have D86 : F.eval (.tmp 86) = u 0 := (congrArg (fun a => Act.eval a (.tmp 86)) hF).trans (eval_in [some 86, some 87, some 88, some 89, some 90, some 91, some 92, some 93] 0 0 _ (by decide) (by omega) rfl (of_decide_eq_true (by kernel_rfl)))
            have D88 : F.eval (.tmp 88) = u 2 := (congrArg (fun a => Act.eval a (.tmp 88)) hF).trans (eval_in [some 86, some 87, some 88, some 89, some 90, some 91, some 92, some 93] 0 2 _ (by decide) (by omega) rfl (of_decide_eq_true (by kernel_rfl)))
            have D91 : F.eval (.tmp 91) = u 5 := (congrArg (fun a => Act.eval a (.tmp 91)) hF).trans (eval_in [some 86, some 87, some 88, some 89, some 90, some 91, some 92, some 93] 0 5 _ (by decide) (by omega) rfl (of_decide_eq_true (by kernel_rfl)))
            have D92 : F.eval (.tmp 92) = u 6 := (congrArg (fun a => Act.eval a (.tmp 92)) hF).trans (eval_in [some 86, some 87, some 88, some 89, some 90, some 91, some 92, some 93] 0 6 _ (by decide) (by omega) rfl (of_decide_eq_true (by kernel_rfl)))
            clear hF
            refine ⟨?_, ?_, ?_, ?_, ?_, ?_, ?_, ?_, trivial⟩
            · intro w1 hb hd K hK
              have e1 := E8
              exact op_val (v := (.string (bS PL))) rfl (by simp only [execOp, e1]; go_simp) (hK _ _ (show _ = _ from rfl) (Below.refl _ _))
            · intro w1 hb hd K hK
              have e1 := E12
              exact op_val (v := (.int .i64 OT)) rfl (by simp only [execOp, e1]; go_simp) (hK _ _ (show _ = _ from rfl) (Below.refl _ _))
            · intro w1 hb hd K hK
              have e1 := D87.trans (show u 1 = (.int .i64 OT) from hd ⟨1, .data⟩ (by simp) rfl (Nat.zero_le _))
              refine op_call (R := fun v w2 => v = (.string (bS (Lib.itoa OT))) ∧ Below w1.heap.size w1 w2) (f := 48) (args := #[.int .i64 OT]) rfl (by simp only [execOp]; go_simp; first | exact eval_get e1 | exact ⟨rfl, eval_get e1⟩ | exact ⟨eval_get e1, rfl⟩) ((rtext_any OT (by first | exact hm0 | exact hm1 | exact hm2 | exact hm3) w1 (HE.out.keep (bchain B8.out hb))).mono fun e w2 hh => ⟨_, hh.1, rfl, hh.2⟩) (fun v w2 hh => hK _ _ hh.1 hh.2)
            · intro w1 hb hd K hK
              have e1 := E10
              exact op_val (v := (.pointer (some ⟨rb, 4, none⟩))) rfl (by simp only [execOp, e1]; go_simp) (hK _ _ (show _ = _ from rfl) (Below.refl _ _))
            · intro w1 hb hd K hK
              have e1 := D89.trans (show u 3 = (.pointer (some ⟨rb, 4, none⟩)) from hd ⟨3, .data⟩ (by simp) rfl (Nat.zero_le _))
              have c0 : w1.cell? ⟨rb, 4, none⟩ = some (.int .i64 r.st) := (HRw.out.keep hb HRw.out.lt).cell (j := 4) rfl
              exact op_val (v := (.int .i64 r.st)) rfl (by simp only [execOp, e1]; go_simp) (hK _ _ (show _ = _ from rfl) (Below.refl _ _))
            · intro w1 hb hd K hK
              have e1 := D90.trans (show u 4 = (.int .i64 r.st) from hd ⟨4, .data⟩ (by simp) rfl (Nat.zero_le _))
              refine op_call (R := fun v w2 => v = (.string (bS (Lib.itoa r.st))) ∧ Below w1.heap.size w1 w2) (f := 48) (args := #[.int .i64 r.st]) rfl (by simp only [execOp]; go_simp; first | exact eval_get e1 | exact ⟨rfl, eval_get e1⟩ | exact ⟨eval_get e1, rfl⟩) ((rtext_any r.st (by first | exact hm0 | exact hm1 | exact hm2 | exact hm3) w1 (HE.out.keep (bchain B8.out hb))).mono fun e w2 hh => ⟨_, hh.1, rfl, hh.2⟩) (fun v w2 hh => hK _ _ hh.1 hh.2)
            · intro w1 hb hd K hK
              have e1 := D86.trans (show u 0 = (.string (bS PL)) from hd ⟨0, .data⟩ (by simp) rfl (Nat.zero_le _))
              have e3 := D88.trans (show u 2 = (.string (bS (Lib.itoa OT))) from hd ⟨2, .data⟩ (by simp) rfl (Nat.zero_le _))
              have e5 := D91.trans (show u 5 = (.string (bS (Lib.itoa r.st))) from hd ⟨5, .data⟩ (by simp) rfl (Nat.zero_le _))
              exact op_val (v := .slice (some ⟨w1.heap.size, 0, none⟩) 5 5) (w' := w1.alloc (.cells #[(.string (bS PL)), (.string ⟨#[97, 103, 97, 105, 110, 115, 116]⟩), (.string (bS (Lib.itoa OT))), (.string ⟨#[115, 101, 116]⟩), (.string (bS (Lib.itoa r.st)))] 9)) rfl (by simp only [execOp, List.map_toArray, List.map_cons, List.map_nil, e1, e3, e5]; go_simp) (hK _ _ (Sp.row_new w1 9 [(.string (bS PL)), (.string ⟨#[97, 103, 97, 105, 110, 115, 116]⟩), (.string (bS (Lib.itoa OT))), (.string ⟨#[115, 101, 116]⟩), (.string (bS (Lib.itoa r.st)))] 5 _ rfl rfl) (below1 _ _))
            · intro w1 hb hd K hK
              obtain ⟨b, hv, hlt, hc⟩ := (show (Sp.row [(.string (bS PL)), (.string ⟨#[97, 103, 97, 105, 110, 115, 116]⟩), (.string (bS (Lib.itoa OT))), (.string ⟨#[115, 101, 116]⟩), (.string (bS (Lib.itoa r.st)))]).p (u 6) w1 from hd ⟨6, .data⟩ (by simp) rfl (Nat.zero_le _))
              have e1 := D92.trans hv
              refine op_call (R := fun v w2 => v = (.string (bS (sp [PL, wAgainst, (Lib.itoa OT), wSet, (Lib.itoa r.st)]))) ∧ Below w1.heap.size w1 w2) (f := 47) (args := #[.slice (some ⟨b, 0, none⟩) 5 5]) rfl (by simp only [execOp]; go_simp; first | exact eval_get e1 | exact ⟨rfl, eval_get e1⟩ | exact ⟨eval_get e1, rfl⟩) ((rjoin_b b 0 _ [PL, wAgainst, (Lib.itoa OT), wSet, (Lib.itoa r.st)] (by simp) (by simp) ((List.forall_mem_cons.2 ⟨(by first | decide | exact hSW | exact hPL | exact itoa_short hm0 | exact itoa_short hm1 | exact itoa_short hm2 | exact itoa_short hm3), (List.forall_mem_cons.2 ⟨(by first | decide | exact hSW | exact hPL | exact itoa_short hm0 | exact itoa_short hm1 | exact itoa_short hm2 | exact itoa_short hm3), (List.forall_mem_cons.2 ⟨(by first | decide | exact hSW | exact hPL | exact itoa_short hm0 | exact itoa_short hm1 | exact itoa_short hm2 | exact itoa_short hm3), (List.forall_mem_cons.2 ⟨(by first | decide | exact hSW | exact hPL | exact itoa_short hm0 | exact itoa_short hm1 | exact itoa_short hm2 | exact itoa_short hm3), (List.forall_mem_cons.2 ⟨(by first | decide | exact hSW | exact hPL | exact itoa_short hm0 | exact itoa_short hm1 | exact itoa_short hm2 | exact itoa_short hm3), (fun x hx => absurd hx (by simp))⟩)⟩)⟩)⟩)⟩)) w1 (wr_of_row (l := [PL, wAgainst, (Lib.itoa OT), wSet, (Lib.itoa r.st)]) hc)).mono fun e w2 hh => ⟨_, hh.1, rfl, hh.2⟩) (fun v w2 hh => hK _ _ hh.1 hh.2)
          have hv86 : u 0 = (.string (bS PL)) := (show u 0 = _ from hsF 0 (by omega) (by omega))
          have hv87 : u 1 = (.int .i64 OT) := (show u 1 = _ from hsF 1 (by omega) (by omega))
          have hv88 : u 2 = (.string (bS (Lib.itoa OT))) := (show u 2 = _ from hsF 2 (by omega) (by omega))
          have hv89 : u 3 = (.pointer (some ⟨rb, 4, none⟩)) := (show u 3 = _ from hsF 3 (by omega) (by omega))
          have hv90 : u 4 = (.int .i64 r.st) := (show u 4 = _ from hsF 4 (by omega) (by omega))
          have hv91 : u 5 = (.string (bS (Lib.itoa r.st))) := (show u 5 = _ from hsF 5 (by omega) (by omega))
          obtain ⟨b92, hv92, hlt92, hc92⟩ := (show (Sp.row [(.string (bS PL)), (.string ⟨#[97, 103, 97, 105, 110, 115, 116]⟩), (.string (bS (Lib.itoa OT))), (.string ⟨#[115, 101, 116]⟩), (.string (bS (Lib.itoa r.st)))]).p (u 6) w' from hsF 6 (by omega) (by omega))
          have hv93 : u 7 = (.string (bS (sp [PL, wAgainst, (Lib.itoa OT), wSet, (Lib.itoa r.st)]))) := (show u 7 = _ from hsF 7 (by omega) (by omega))
          simp only [putRow, hv86, hv87, hv88, hv89, hv90, hv91, hv92, hv93, Act.put, List.setIfInBounds_toArray, List.set_cons_succ, List.set_cons_zero]
          clear hsF hv86 hv87 hv88 hv89 hv90 hv91 hv92 hv93
          replace BK := Lib.hid (bchain BK.out hbF)
          clear hbF hc92 hlt92
          rw [HEQ.out]
          refine rest_forced 1 (by kernel_rfl) ?_
          simp only [List.drop_succ_cons, List.drop_zero, List.take_succ_cons, List.take_zero]
          go_wp2_with fail
          refine rest_done (by kernel_rfl) ?_
          go_wp2_with fail
          go_roundw
          case rel => exact ⟨j + 1, by omega, rfl, by go_num, BK⟩
          case measure => simp [intOf]; omega
    case rest =>
    obtain ⟨rfl, BJ⟩ := hcut
    have B7 := Lib.hid (bchain B6.out BJ.out)
    have HB7 := Lib.hid (HB6.out.keep BJ.out HB6.out.lt)
    have HO7 := Lib.hid (own_keep HO6.out BJ.out)
    have Hb7 := Lib.hid (Nat.le_trans Hb6.out BJ.out.size)
    have HT : Hid (cardL H (k + 1) (pairAt p m.rows) = cardL H k (pairAt p m.rows) ++ [pairAt p m.rows k]) := Lib.hid (cardL_snoc _ _ _)
    clear B6 HB6 HO6 Hb6 BJ
    obtain ⟨RL, hRL⟩ : ∃ RL, pairAt p m.rows k = RL := ⟨_, rfl⟩
    rw [hRL] at HT ⊢
    clear hRL
    go_upto_region 8 with (at_builtin; refine app_str rfl (.tmp 94) (.tmp 96) rfl wc base _ (k + 1) (cardL H k (pairAt p m.rows)) (bS RL) RL rfl rfl wc.heap.size rfl rfl HO7.out Hb7.out (by omega) ?_; intro v' w9 hown' hgrow hwh hbl)
    have HO9 : Hid (w9.ownsRow base 9 1 v' (k + 1 + 1) ((cardL H (k + 1) (pairAt p m.rows)).map strV)) := Lib.hid (by rw [HT.out]; exact hown')
    have B9 := Lib.hid (B7.out.trans (hbl.mono (by have := HMB.out; have := HLT.out; omega)))
    have HB9 := Lib.hid (HB7.out.keep hbl HLT.out)
    have Hb9 := Lib.hid (Nat.le_trans Hb7.out hbl.size)
    clear hown' hgrow hwh hbl HO7 B7 HB7 Hb7
    go_wp2_with fail
    go_roundw
    case rel => exact ⟨k + 1, by omega, HO9, by go_num, B9, HB9, Hb9⟩
    case measure => simp [intOf]; omega
end Go.Proofs.YtidpfggikighlaaDoor
