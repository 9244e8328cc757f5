/- The program's Pair. -/
import Derived.Test.YtidpfggikighlaaDoorGU
import Derived.BigQuiet
namespace Go.Proofs.YtidpfggikighlaaDoor
open Go Go.RowKit

set_option maxRecDepth 100000 in
set_option maxHeartbeats 16000000 in
theorem pair_any (m : Mv) (rv : Value) (p : Int) (hp : inI p) (w : World) (he : Env w) (h : MV w m rv) : Calls Tryd.prog 20 #[mvV m rv, .int .i64 p] w (RetT w (pairO m p) (pairE m p)) := by
  have HM := Lib.hid h
  have HE := Lib.hid he
  obtain ⟨A, cap, rfl⟩ := h.rows.len
  obtain ⟨N, hN⟩ : ∃ N, m.rows.length = N := ⟨_, rfl⟩
  have HN := Lib.hid hN
  have FI := Lib.hid (fun wx (hb : Below w.heap.size w wx) => fit_any m _ wx (HM.out.keep hb))
  rw [hN] at FI ⊢
  have HP := Lib.hid hp
  clear h he hN hp
  unfold mvV
  go_enter Tryd.func20, Tryd.ntmps20
  go_wp2_with fail
  have B0 := Lib.hid (below1 w (.cells #[.int .i64 m.tab, .int .i64 m.rou, .int .i64 m.set, .int .i64 m.cop, .int .i64 m.win, .slice A N cap] 24))
  have HB0 := Lib.hid (Blk.new w 24 #[.int .i64 m.tab, .int .i64 m.rou, .int .i64 m.set, .int .i64 m.cop, .int .i64 m.win, .slice A N cap])
  obtain ⟨mb, hmb⟩ : ∃ mb, w.heap.size = mb := ⟨_, rfl⟩
  refine (FI.out _ B0.out).mono ?_
  rintro e w1 ⟨rfl, hb⟩
  have B1 := Lib.hid (bchain B0.out hb)
  have HB1 := Lib.hid (HB0.out.keep hb HB0.out.lt)
  rw [hmb] at HB1 ⊢
  have HMB := Lib.hid hmb
  clear hb B0 HB0 hmb FI
  rcases hf : fitB m with _ | _
  · have HX := Lib.hid (pair_no p hf)
    clear hf
    go_wp2_with fail
    go_ret2
    exact ⟨.slice none 0 0, by rw [HX.out.2]; rfl, by rw [HX.out.1]; exact .none_, B1.out⟩
  by_cases hp1 : p < 1
  · have HX := Lib.hid (pair_bad hf (.inl hp1))
    have t1 : decide (p < 1) = true := decide_eq_true hp1
    clear hf
    go_wp2_with fail
    go_ret2
    exact ⟨.slice none 0 0, by rw [HX.out.2]; rfl, by rw [HX.out.1]; exact .none_, B1.out⟩
  have t1 : decide (p < 1) = false := decide_eq_false hp1
  by_cases hp2 : 49 < p
  · have HX := Lib.hid (pair_bad hf (.inr hp2))
    have t2 : decide (49 < p) = true := decide_eq_true hp2
    clear hf
    go_wp2_with fail
    go_ret2
    exact ⟨.slice none 0 0, by rw [HX.out.2]; rfl, by rw [HX.out.1]; exact .none_, B1.out⟩
  have t2 : decide (49 < p) = false := decide_eq_false hp2
  have HX := Lib.hid (pair_ok (p := p) hf ⟨by omega, by omega⟩)
  have hd := fit_head hf
  obtain ⟨R, hR⟩ : ∃ R : Nat, m.rou = R := ⟨m.rou.toNat, by omega⟩
  have hR47 : R ≤ 47 := by omega
  have HRT : Hid (m.rou.toNat = R) := Lib.hid (by omega)
  have hNb : N ≤ 1128 := by
    have := prod_bd hd.1 hd.2.1 hd.2.2.1 hd.2.2.2.1
    have h5 := hd.2.2.2.2
    have := HN.out
    omega
  have HFR := Lib.hid (fun r hr => fit_row hf hR (r := r) hr)
  clear hf hd
  go_wp2_with fail
  refine (line_new wPair [p] w1 (HE.out.keep B1.out) rfl (by decide) rfl rfl (by simp) (by
    intro x hx
    obtain rfl := List.mem_singleton.1 hx
    exact HP.out) rfl).mono ?_
  rintro e w2 ⟨rfl, hb⟩
  have B2 := Lib.hid (bchain B1.out (bchain (below1 _ _) hb))
  have HB2 := Lib.hid ((HB1.out.alloc _).keep hb (HB1.out.alloc _).lt)
  clear hb t1 t2 B1 HB1
  obtain ⟨H, hH⟩ : ∃ H, numL wPair [p] = H := ⟨_, rfl⟩
  rw [hH] at HX ⊢
  clear hH
  go_upto_region 6 with fail
  have hrow : Hid ((w2.alloc (.cells #[.string (bS H)] 9)).ownsRow w2.heap.size 9 1 (.slice (some ⟨w2.heap.size, 0, none⟩) 1 1) 1 ([H].map strV)) := Lib.hid (own_one w2 9 (.string (bS H)))
  have B3 := Lib.hid (bchain B2.out (below1 w2 (.cells #[.string (bS H)] 9)))
  have HB3 := Lib.hid (HB2.out.alloc (.cells #[.string (bS H)] 9))
  have HLT := Lib.hid HB2.out.lt
  clear HB2 B2
  have hb2 : Hid (w2.heap.size ≤ (w2.alloc (.cells #[.string (bS H)] 9)).heap.size) := Lib.hid (by simp)
  generalize w2.alloc (.cells #[.string (bS H)] 9) = w3 at *
  generalize w2.heap.size = base at *
  have x1 := HB3.out.cell (j := 1) (v := .int .i64 (R : Int)) (by rw [hR]; rfl)
  go_upto_block 0 with fail
  clear x1
  go_cut [6] (fun s6 wx => Hid (wx.ownsRow base 9 1 s6 (R + 1) ((cardL H R (pairAt p [])).map strV)) ∧ Hid (Below w.heap.size w wx) ∧ Hid (Blk wx mb 24 #[.int .i64 m.tab, .int .i64 m.rou, .int .i64 m.set, .int .i64 m.cop, .int .i64 m.win, .slice A N cap]) ∧ Hid (base ≤ wx.heap.size))
  case first =>
    go_wp2_with fail
    go_loopw [6, 28] (fun s6 s28 wr => ∃ k : Nat, k ≤ R ∧ Hid (wr.ownsRow base 9 1 s6 (k + 1) ((cardL H k (pairAt p [])).map strV)) ∧ s28 = .int .i64 (k : Int) ∧ Hid (Below w.heap.size w wr) ∧ Hid (Blk wr mb 24 #[.int .i64 m.tab, .int .i64 m.rou, .int .i64 m.set, .int .i64 m.cop, .int .i64 m.win, .slice A N cap]) ∧ Hid (base ≤ wr.heap.size)) (fun _ s28 _ => R - (intOf s28).toNat)
    case atStart => exact ⟨0, Nat.zero_le _, by unfold cardL; exact hrow, rfl, B3, HB3, hb2⟩
    case round =>
      obtain ⟨k, hk, HO, rfl, BR, HBr, Hbase⟩ := hrel
      obtain ⟨AO, co, rfl⟩ := own_slice HO.out
      by_cases hlt : k < R
      · have t1 : decide ((k : Int) < (R : Int)) = true := decide_eq_true (by omega)
        go_wp2_with fail
        refine (line_new wRound [(k : Int)] wr (HE.out.keep BR.out) rfl (by decide) rfl rfl (by simp) (by
          intro x hx
          obtain rfl := List.mem_singleton.1 hx
          exact ⟨by omega, by omega⟩) rfl).mono ?_
        rintro e w4 ⟨rfl, hb⟩
        have hb4 := bchain (below1 wr (.cells #[.int .i64 (k : Int)] 3)) hb
        have B4 := Lib.hid (bchain BR.out hb4)
        have HB4 := Lib.hid (HBr.out.keep hb4 HBr.out.lt)
        have HO4 := Lib.hid (own_keep HO.out hb4)
        have Hb4 := Lib.hid (Nat.le_trans Hbase.out hb4.size)
        clear hb hb4 BR HBr HO Hbase
        go_wp2_with fail
        refine (join_new [numL wRound [(k : Int)], wOut] w4 rfl rfl (by simp) (List.forall_mem_cons.2 ⟨numL_short (by decide) ⟨by omega, by omega⟩, List.forall_mem_cons.2 ⟨by decide, fun x hx => absurd hx (by simp)⟩⟩) rfl).mono ?_
        rintro e w5 ⟨rfl, hb⟩
        have hb5 := bchain (below1 w4 _) hb
        have B5 := Lib.hid (bchain B4.out hb5)
        have HB5 := Lib.hid (HB4.out.keep hb5 HB4.out.lt)
        have HO5 := Lib.hid (own_keep HO4.out hb5)
        have Hb5 := Lib.hid (Nat.le_trans Hb4.out hb5.size)
        have HT : Hid (cardL H (k + 1) (pairAt p []) = cardL H k (pairAt p []) ++ [outL (k : Int)]) := Lib.hid (by rw [cardL_snoc, pairAt_nil])
        rw [out_eq]
        clear hb hb5 B4 HB4 HO4 Hb4
        obtain ⟨RL, hRL⟩ : ∃ RL, outL (k : Int) = RL := ⟨_, rfl⟩
        rw [hRL] at HT ⊢
        clear hRL
        go_upto_region 10 with (at_builtin; refine app_str rfl (.tmp 31) (.tmp 37) rfl w5 base _ (k + 1) (cardL H k (pairAt p [])) (bS RL) RL rfl rfl w5.heap.size rfl rfl HO5.out Hb5.out (by omega) ?_; intro v' w6 hown' hgrow hwh hbl)
        have HO6 : Hid (w6.ownsRow base 9 1 v' (k + 1 + 1) ((cardL H (k + 1) (pairAt p [])).map strV)) := Lib.hid (by rw [HT.out]; exact hown')
        have B6 := Lib.hid (B5.out.trans (hbl.mono (by have := HMB.out; have := HLT.out; omega)))
        have HB6 := Lib.hid (HB5.out.keep hbl HLT.out)
        have Hb6 := Lib.hid (Nat.le_trans Hb5.out hbl.size)
        clear hown' hgrow hwh hbl HO5 B5 HB5 Hb5
        go_wp2_with fail
        go_roundw
        case rel => exact ⟨k + 1, by omega, HO6, by go_num, B6, HB6, Hb6⟩
        case measure => simp [intOf]; omega
      · obtain rfl : k = R := by omega
        have t1 : decide ((k : Int) < (k : Int)) = false := decide_eq_false (by omega)
        go_wp2_with fail
        go_meet
        exact ⟨HO, BR, HBr, Hbase⟩
  case rest =>
  obtain ⟨HO, B4, HB4, Hb4⟩ := hcut
  obtain ⟨g, co, hv, hbg, hco⟩ := own_some HO.out (by omega)
  subst hv
  clear hrow B3 HB3 hb2
  have x5 := HB4.out.cell (j := 5) (v := .slice A N cap) rfl
  go_wp2_with fail
  clear x5
  go_loopw [43] (fun s43 wr => ∃ k : Nat, k ≤ N ∧ s43 = .int .i64 (k : Int) ∧ Hid (wr.ownsRow base 9 1 (.slice (some ⟨g, 0, none⟩) (R + 1) co) (R + 1) ((cardL H R (pairAt p (m.rows.take k))).map strV)) ∧ Hid (Below w.heap.size w wr) ∧ Hid (Blk wr mb 24 #[.int .i64 m.tab, .int .i64 m.rou, .int .i64 m.set, .int .i64 m.cop, .int .i64 m.win, .slice A N cap]) ∧ Hid (base ≤ wr.heap.size)) (fun s43 _ => N - (intOf s43).toNat)
  case atStart => exact ⟨0, Nat.zero_le _, rfl, by rw [List.take_zero]; exact HO, B4, HB4, Hb4⟩
  case round =>
    obtain ⟨k, hk, rfl, HO, BR, HBr, Hbase⟩ := hrel
    by_cases hlt : k < N
    case neg =>
      obtain rfl : k = N := by omega
      have t1 : decide ((k : Int) < (k : Int)) = false := decide_eq_false (by omega)
      have hR2 : Hid (RS wr (.slice (some ⟨g, 0, none⟩) (R + 1) co) (cardL H R (pairAt p m.rows))) := Lib.hid (by
        have h := HO.out
        rw [← HN.out, List.take_length] at h
        have hlen := cardL_len H R (pairAt p m.rows)
        rw [← hlen] at h ⊢
        exact rs_of_own h)
      go_wp2_with fail
      go_ret2
      exact ⟨.slice (some ⟨g, 0, none⟩) (R + 1) co, by rw [HX.out.2]; rfl, by rw [HX.out.1, HRT.out]; exact hR2.out, BR.out⟩
    have t1 : decide ((k : Int) < (N : Int)) = true := decide_eq_true (by omega)
    obtain ⟨r, hr⟩ : ∃ r, m.rows[k]? = some r := ⟨_, List.getElem?_eq_getElem (by rw [HN.out]; exact hlt)⟩
    obtain ⟨b, o, rfl, c0, c1, c2, c3, c4⟩ := (HM.out.rows.keep BR.out).at hr
    have HR := Lib.hid hr
    have HRI := Lib.hid (HM.out.ri r (List.mem_of_getElem? hr))
    obtain ⟨i, hri, hiR⟩ := HFR.out r (List.mem_of_getElem? hr)
    have HRD := Lib.hid hri
    have HT : Hid (m.rows.take (k + 1) = m.rows.take k ++ [r]) := Lib.hid (take_more hr)
    clear hr hri
    go_upto_region 14 with fail
    have HRw := Lib.hid (Blk.new wr 45 #[.int .i64 r.rd, .int .i64 r.tb, .int .i64 r.ns, .int .i64 r.ew, .int .i64 r.st])
    have B5 := Lib.hid (bchain BR.out (below1 wr (.cells #[.int .i64 r.rd, .int .i64 r.tb, .int .i64 r.ns, .int .i64 r.ew, .int .i64 r.st] 45)))
    have HB5 := Lib.hid (HBr.out.alloc (.cells #[.int .i64 r.rd, .int .i64 r.tb, .int .i64 r.ns, .int .i64 r.ew, .int .i64 r.st] 45))
    have HO5 := Lib.hid (own_keep HO.out (below1 wr (.cells #[.int .i64 r.rd, .int .i64 r.tb, .int .i64 r.ns, .int .i64 r.ew, .int .i64 r.st] 45)))
    have Hb5 : Hid (base ≤ (wr.alloc (.cells #[.int .i64 r.rd, .int .i64 r.tb, .int .i64 r.ns, .int .i64 r.ew, .int .i64 r.st] 45)).heap.size) := Lib.hid (by have := Hbase.out; rw [size_al]; omega)
    clear c0 c1 c2 c3 c4 BR HBr HO Hbase t1
    generalize wr.alloc (.cells #[.int .i64 r.rd, .int .i64 r.tb, .int .i64 r.ns, .int .i64 r.ew, .int .i64 r.st] 45) = w4 at *
    generalize wr.heap.size = rb at *
    have c2 := HRw.out.cell (j := 2) (v := .int .i64 r.ns) rfl
    have c3 := HRw.out.cell (j := 3) (v := .int .i64 r.ew) rfl
    go_upto_region 14 with fail
    go_quiet (fail)
    replace HRw := Lib.hid (HRw.out.drewN nq)
    replace B5 := Lib.hid (below_drewN B5.out nq)
    replace HB5 := Lib.hid (HB5.out.drewN nq)
    replace HO5 := Lib.hid (own_keep HO5.out (below_drewN (Below.refl _ _) nq))
    replace Hb5 : Hid (base ≤ (w4.drewN nq).heap.size) := Lib.hid Hb5.out
    clear c2 c3
    generalize w4.drewN nq = w5 at *
    have c2 := HRw.out.cell (j := 2) (v := .int .i64 r.ns) rfl
    have c3 := HRw.out.cell (j := 3) (v := .int .i64 r.ew) rfl
    by_cases hh : hits p r = true
    case neg =>
      have hh : hits p r = false := by simpa using hh
      have hno : ¬ (r.ns = p ∨ r.ew = p) := fun h => by unfold hits at hh; simp [h] at hh
      have e1 : (r.ew == p) = false := beq_eq_false_iff_ne.2 (fun h => hno (.inr h))
      have e2 : (r.ns == p) = false := beq_eq_false_iff_ne.2 (fun h => hno (.inl h))
      have HO6 : Hid (w5.ownsRow base 9 1 (.slice (some ⟨g, 0, none⟩) (R + 1) co) (R + 1) ((cardL H R (pairAt p (m.rows.take (k + 1)))).map strV)) := Lib.hid (by rw [HT.out, pair_miss hh]; exact HO5.out)
      clear hh hno HT HO5
      go_wp2_with fail
      go_roundw
      case rel => exact ⟨k + 1, by omega, by go_num, HO6, B5, HB5, Hb5⟩
      case measure => simp [intOf]; omega
    have hyes : r.ns = p ∨ r.ew = p := by unfold hits at hh; exact of_decide_eq_true hh
    have HHI := Lib.hid hh
    obtain ⟨SW, hSWe⟩ : ∃ SW, sideW r p = SW := ⟨_, rfl⟩
    obtain ⟨OT, hOTe⟩ : ∃ OT, otherP r p = OT := ⟨_, rfl⟩
    have HSWE := Lib.hid hSWe
    have HOTE := Lib.hid hOTe
    have hSW : SW.length ≤ 100000 := by rw [← hSWe]; unfold sideW; split <;> decide
    have hOT : inI OT := by rw [← hOTe]; unfold otherP; split; exact HRI.out.ns; exact HRI.out.ew
    clear hh
    go_upto_if 52 with fail
    go_cut [10, 11] (fun s10 s11 wx => s10 = .string (bS SW) ∧ s11 = .int .i64 OT ∧ ∃ n, wx = w5.drewN n)
    case first =>
      by_cases hew : r.ew = p
      · have e1 : (r.ew == p) = true := beq_iff_eq.2 hew
        have h1 : SW = wEW := by rw [← hSWe]; unfold sideW; rw [if_pos hew]
        have h2 : OT = r.ns := by rw [← hOTe]; unfold otherP; rw [if_pos hew]
        have H12 := Lib.hid (And.intro h1 h2)
        clear h1 h2 hSWe hOTe hew hyes hSW hOT
        rw [e1]
        go_upto_region 16 with fail
        go_quiet (fail)
        go_wp2_with fail
        go_meet
        exact ⟨by rw [H12.out.1]; rfl, by rw [H12.out.2], _, rfl⟩
      · have e1 : (r.ew == p) = false := beq_eq_false_iff_ne.2 hew
        have hns : r.ns = p := hyes.resolve_right hew
        have e2 : (r.ns == p) = true := beq_iff_eq.2 hns
        have h1 : SW = wNS := by rw [← hSWe]; unfold sideW; rw [if_neg hew]
        have h2 : OT = r.ew := by rw [← hOTe]; unfold otherP; rw [if_neg hew]
        have H12 := Lib.hid (And.intro h1 h2)
        clear h1 h2 hSWe hOTe hew hns hyes hSW hOT
        rw [e1]
        go_wp2_with fail
        go_meet
        exact ⟨by rw [H12.out.1]; rfl, by rw [H12.out.2], 0, rfl⟩
    case rest =>
    obtain ⟨rfl, rfl, nq2, rfl⟩ := hcut
    clear c2 c3 hSWe hOTe hyes
    have hD : Below w5.heap.size w5 (w5.drewN nq2).drew := (below_drewN (Below.refl _ w5) nq2).drew
    replace HRw := Lib.hid (HRw.out.keep hD HRw.out.lt)
    replace B5 := Lib.hid (bchain B5.out hD)
    replace HB5 := Lib.hid (HB5.out.keep hD HB5.out.lt)
    replace HO5 := Lib.hid (own_keep HO5.out hD)
    replace Hb5 := Lib.hid (Nat.le_trans Hb5.out hD.size)
    have hm0 := HRI.out.rd
    have hm1 := HRI.out.tb
    have hm2 := hOT
    have hm3 := HRI.out.st
    have hPL : ([] : List UInt8).length ≤ 100000 := by decide
    go_upto_region 18 with fail
    obtain ⟨W0, hW0⟩ : ∃ W0, (w5.drewN nq2).drew = W0 := ⟨_, rfl⟩
    rw [hW0] at HRw B5 HB5 HO5 Hb5
    refine rest_begin (by kernel_rfl) ?_
    rw [hW0]
    clear hD hW0 hPL
    clear w5
    refine rest_flow2 [some 59, some 60, some 61, some 62, some 63, some 64, some 65, some 66, some 67, some 68, some 69] [Sp.is (.pointer (some ⟨rb, 0, none⟩)), Sp.is (.int .i64 r.rd), Sp.row [(.int .i64 r.rd)], Sp.is (.string (bS (numL wRound [r.rd]))), Sp.is (.pointer (some ⟨rb, 1, none⟩)), Sp.is (.int .i64 r.tb), Sp.row [(.int .i64 r.tb)], Sp.is (.string (bS (numL wTable [r.tb]))), Sp.is (.string (bS SW)), Sp.row [(.string (bS (numL wRound [r.rd]))), (.string (bS (numL wTable [r.tb]))), (.string (bS SW))], Sp.is (.string (bS (sp [(numL wRound [r.rd]), (numL wTable [r.tb]), SW])))] 11 (by kernel_rfl) (by kernel_rfl) (fun u F hF => ?_) (fun u w' hbF hsF => ?_)
    case refine_1 =>
      have E9 : F.eval (.tmp 9) = (.pointer (some ⟨rb, 0, none⟩)) := (congrArg (fun a => Act.eval a (.tmp 9)) hF).trans (eval_out [some 59, some 60, some 61, some 62, some 63, some 64, some 65, some 66, some 67, some 68, some 69] 0 _ (by decide))
      have E10 : F.eval (.tmp 10) = (.string (bS SW)) := (congrArg (fun a => Act.eval a (.tmp 10)) hF).trans (eval_out [some 59, some 60, some 61, some 62, some 63, some 64, some 65, some 66, some 67, some 68, some 69] 0 _ (by decide))
      have D59 : F.eval (.tmp 59) = u 0 := (congrArg (fun a => Act.eval a (.tmp 59)) hF).trans (eval_in [some 59, some 60, some 61, some 62, some 63, some 64, some 65, some 66, some 67, some 68, some 69] 0 0 _ (by decide) (by omega) rfl (of_decide_eq_true (by kernel_rfl)))
      have D60 : F.eval (.tmp 60) = u 1 := (congrArg (fun a => Act.eval a (.tmp 60)) hF).trans (eval_in [some 59, some 60, some 61, some 62, some 63, some 64, some 65, some 66, some 67, some 68, some 69] 0 1 _ (by decide) (by omega) rfl (of_decide_eq_true (by kernel_rfl)))
      have D61 : F.eval (.tmp 61) = u 2 := (congrArg (fun a => Act.eval a (.tmp 61)) hF).trans (eval_in [some 59, some 60, some 61, some 62, some 63, some 64, some 65, some 66, some 67, some 68, some 69] 0 2 _ (by decide) (by omega) rfl (of_decide_eq_true (by kernel_rfl)))
      have D63 : F.eval (.tmp 63) = u 4 := (congrArg (fun a => Act.eval a (.tmp 63)) hF).trans (eval_in [some 59, some 60, some 61, some 62, some 63, some 64, some 65, some 66, some 67, some 68, some 69] 0 4 _ (by decide) (by omega) rfl (of_decide_eq_true (by kernel_rfl)))
      have D64 : F.eval (.tmp 64) = u 5 := (congrArg (fun a => Act.eval a (.tmp 64)) hF).trans (eval_in [some 59, some 60, some 61, some 62, some 63, some 64, some 65, some 66, some 67, some 68, some 69] 0 5 _ (by decide) (by omega) rfl (of_decide_eq_true (by kernel_rfl)))
      have D65 : F.eval (.tmp 65) = u 6 := (congrArg (fun a => Act.eval a (.tmp 65)) hF).trans (eval_in [some 59, some 60, some 61, some 62, some 63, some 64, some 65, some 66, some 67, some 68, some 69] 0 6 _ (by decide) (by omega) rfl (of_decide_eq_true (by kernel_rfl)))
      have D62 : F.eval (.tmp 62) = u 3 := (congrArg (fun a => Act.eval a (.tmp 62)) hF).trans (eval_in [some 59, some 60, some 61, some 62, some 63, some 64, some 65, some 66, some 67, some 68, some 69] 0 3 _ (by decide) (by omega) rfl (of_decide_eq_true (by kernel_rfl)))
      have D66 : F.eval (.tmp 66) = u 7 := (congrArg (fun a => Act.eval a (.tmp 66)) hF).trans (eval_in [some 59, some 60, some 61, some 62, some 63, some 64, some 65, some 66, some 67, some 68, some 69] 0 7 _ (by decide) (by omega) rfl (of_decide_eq_true (by kernel_rfl)))
      have D67 : F.eval (.tmp 67) = u 8 := (congrArg (fun a => Act.eval a (.tmp 67)) hF).trans (eval_in [some 59, some 60, some 61, some 62, some 63, some 64, some 65, some 66, some 67, some 68, some 69] 0 8 _ (by decide) (by omega) rfl (of_decide_eq_true (by kernel_rfl)))
      have D68 : F.eval (.tmp 68) = u 9 := (congrArg (fun a => Act.eval a (.tmp 68)) hF).trans (eval_in [some 59, some 60, some 61, some 62, some 63, some 64, some 65, some 66, some 67, some 68, some 69] 0 9 _ (by decide) (by omega) rfl (of_decide_eq_true (by kernel_rfl)))
      clear hF
      refine ⟨?_, ?_, ?_, ?_, ?_, ?_, ?_, ?_, ?_, ?_, ?_, trivial⟩
      · intro w1 hb hd K hK
        have e1 := E9
        exact op_val (v := (.pointer (some ⟨rb, 0, none⟩))) rfl (by simp only [execOp, e1]; go_simp) (hK _ _ (show _ = _ from rfl) (Below.refl _ _))
      · intro w1 hb hd K hK
        have e1 := D59.trans (show u 0 = (.pointer (some ⟨rb, 0, none⟩)) from hd ⟨0, .data⟩ (by simp) rfl (Nat.zero_le _))
        have c0 : w1.cell? ⟨rb, 0, none⟩ = some (.int .i64 r.rd) := (HRw.out.keep hb HRw.out.lt).cell (j := 0) rfl
        exact op_val (v := (.int .i64 r.rd)) rfl (by simp only [execOp, e1]; go_simp) (hK _ _ (show _ = _ from rfl) (Below.refl _ _))
      · intro w1 hb hd K hK
        have e1 := D60.trans (show u 1 = (.int .i64 r.rd) from hd ⟨1, .data⟩ (by simp) rfl (Nat.zero_le _))
        exact op_val (v := .slice (some ⟨w1.heap.size, 0, none⟩) 1 1) (w' := w1.alloc (.cells #[(.int .i64 r.rd)] 3)) rfl (by simp only [execOp, List.map_toArray, List.map_cons, List.map_nil, e1]; go_simp) (hK _ _ (Sp.row_new w1 3 [(.int .i64 r.rd)] 1 _ rfl rfl) (below1 _ _))
      · intro w1 hb hd K hK
        obtain ⟨b, hv, hlt, hc⟩ := (show (Sp.row [(.int .i64 r.rd)]).p (u 2) w1 from hd ⟨2, .data⟩ (by simp) rfl (Nat.zero_le _))
        have e1 := D61.trans hv
        refine op_call (R := fun v w2 => v = (.string (bS (numL wRound [r.rd]))) ∧ Below w1.heap.size w1 w2) (f := 34) (args := #[.string (bS wRound), .slice (some ⟨b, 0, none⟩) 1 1]) rfl (by simp only [execOp]; go_simp; first | exact eval_get e1 | exact ⟨rfl, eval_get e1⟩ | exact ⟨eval_get e1, rfl⟩) ((line_any wRound (by decide) b 0 _ [r.rd] (by simp) (by intro y hy; obtain rfl := List.mem_singleton.1 hy; first | exact hm0 | exact hm1 | exact hm2 | exact hm3) w1 (HE.out.keep (bchain B5.out hb)) (ir_of_row hc)).mono fun e w2 hh => ⟨_, hh.1, rfl, hh.2⟩) (fun v w2 hh => hK _ _ hh.1 hh.2)
      · intro w1 hb hd K hK
        have e1 := E9
        exact op_val (v := (.pointer (some ⟨rb, 1, none⟩))) rfl (by simp only [execOp, e1]; go_simp) (hK _ _ (show _ = _ from rfl) (Below.refl _ _))
      · intro w1 hb hd K hK
        have e1 := D63.trans (show u 4 = (.pointer (some ⟨rb, 1, none⟩)) from hd ⟨4, .data⟩ (by simp) rfl (Nat.zero_le _))
        have c0 : w1.cell? ⟨rb, 1, none⟩ = some (.int .i64 r.tb) := (HRw.out.keep hb HRw.out.lt).cell (j := 1) rfl
        exact op_val (v := (.int .i64 r.tb)) rfl (by simp only [execOp, e1]; go_simp) (hK _ _ (show _ = _ from rfl) (Below.refl _ _))
      · intro w1 hb hd K hK
        have e1 := D64.trans (show u 5 = (.int .i64 r.tb) from hd ⟨5, .data⟩ (by simp) rfl (Nat.zero_le _))
        exact op_val (v := .slice (some ⟨w1.heap.size, 0, none⟩) 1 1) (w' := w1.alloc (.cells #[(.int .i64 r.tb)] 3)) rfl (by simp only [execOp, List.map_toArray, List.map_cons, List.map_nil, e1]; go_simp) (hK _ _ (Sp.row_new w1 3 [(.int .i64 r.tb)] 1 _ rfl rfl) (below1 _ _))
      · intro w1 hb hd K hK
        obtain ⟨b, hv, hlt, hc⟩ := (show (Sp.row [(.int .i64 r.tb)]).p (u 6) w1 from hd ⟨6, .data⟩ (by simp) rfl (Nat.zero_le _))
        have e1 := D65.trans hv
        refine op_call (R := fun v w2 => v = (.string (bS (numL wTable [r.tb]))) ∧ Below w1.heap.size w1 w2) (f := 34) (args := #[.string (bS wTable), .slice (some ⟨b, 0, none⟩) 1 1]) rfl (by simp only [execOp]; go_simp; first | exact eval_get e1 | exact ⟨rfl, eval_get e1⟩ | exact ⟨eval_get e1, rfl⟩) ((line_any wTable (by decide) b 0 _ [r.tb] (by simp) (by intro y hy; obtain rfl := List.mem_singleton.1 hy; first | exact hm0 | exact hm1 | exact hm2 | exact hm3) w1 (HE.out.keep (bchain B5.out hb)) (ir_of_row hc)).mono fun e w2 hh => ⟨_, hh.1, rfl, hh.2⟩) (fun v w2 hh => hK _ _ hh.1 hh.2)
      · intro w1 hb hd K hK
        have e1 := E10
        exact op_val (v := (.string (bS SW))) rfl (by simp only [execOp, e1]; go_simp) (hK _ _ (show _ = _ from rfl) (Below.refl _ _))
      · intro w1 hb hd K hK
        have e1 := D62.trans (show u 3 = (.string (bS (numL wRound [r.rd]))) from hd ⟨3, .data⟩ (by simp) rfl (Nat.zero_le _))
        have e2 := D66.trans (show u 7 = (.string (bS (numL wTable [r.tb]))) from hd ⟨7, .data⟩ (by simp) rfl (Nat.zero_le _))
        have e3 := D67.trans (show u 8 = (.string (bS SW)) from hd ⟨8, .data⟩ (by simp) rfl (Nat.zero_le _))
        exact op_val (v := .slice (some ⟨w1.heap.size, 0, none⟩) 3 3) (w' := w1.alloc (.cells #[(.string (bS (numL wRound [r.rd]))), (.string (bS (numL wTable [r.tb]))), (.string (bS SW))] 9)) rfl (by simp only [execOp, List.map_toArray, List.map_cons, List.map_nil, e1, e2, e3]; go_simp) (hK _ _ (Sp.row_new w1 9 [(.string (bS (numL wRound [r.rd]))), (.string (bS (numL wTable [r.tb]))), (.string (bS SW))] 3 _ rfl rfl) (below1 _ _))
      · intro w1 hb hd K hK
        obtain ⟨b, hv, hlt, hc⟩ := (show (Sp.row [(.string (bS (numL wRound [r.rd]))), (.string (bS (numL wTable [r.tb]))), (.string (bS SW))]).p (u 9) w1 from hd ⟨9, .data⟩ (by simp) rfl (Nat.zero_le _))
        have e1 := D68.trans hv
        refine op_call (R := fun v w2 => v = (.string (bS (sp [(numL wRound [r.rd]), (numL wTable [r.tb]), SW]))) ∧ Below w1.heap.size w1 w2) (f := 39) (args := #[.slice (some ⟨b, 0, none⟩) 3 3]) rfl (by simp only [execOp]; go_simp; first | exact eval_get e1 | exact ⟨rfl, eval_get e1⟩ | exact ⟨eval_get e1, rfl⟩) ((join_any b 0 _ [(numL wRound [r.rd]), (numL wTable [r.tb]), SW] (by simp) (Nat.le_refl _) ((List.forall_mem_cons.2 ⟨(by first | decide | exact hSW | exact hPL | exact numL_short (by decide) hm0 | exact numL_short (by decide) hm1 | exact numL_short (by decide) hm2 | exact numL_short (by decide) hm3), (List.forall_mem_cons.2 ⟨(by first | decide | exact hSW | exact hPL | exact numL_short (by decide) hm0 | exact numL_short (by decide) hm1 | exact numL_short (by decide) hm2 | exact numL_short (by decide) hm3), (List.forall_mem_cons.2 ⟨(by first | decide | exact hSW | exact hPL | exact numL_short (by decide) hm0 | exact numL_short (by decide) hm1 | exact numL_short (by decide) hm2 | exact numL_short (by decide) hm3), (fun x hx => absurd hx (by simp))⟩)⟩)⟩)) w1 hlt (wr_of_row (l := [(numL wRound [r.rd]), (numL wTable [r.tb]), SW]) hc)).mono fun e w2 hh => ⟨_, hh.1, rfl, hh.2⟩) (fun v w2 hh => hK _ _ hh.1 hh.2)
    have hv59 : u 0 = (.pointer (some ⟨rb, 0, none⟩)) := (show u 0 = _ from hsF 0 (by omega) (by omega))
    have hv60 : u 1 = (.int .i64 r.rd) := (show u 1 = _ from hsF 1 (by omega) (by omega))
    obtain ⟨b61, hv61, hlt61, hc61⟩ := (show (Sp.row [(.int .i64 r.rd)]).p (u 2) w' from hsF 2 (by omega) (by omega))
    have hv62 : u 3 = (.string (bS (numL wRound [r.rd]))) := (show u 3 = _ from hsF 3 (by omega) (by omega))
    have hv63 : u 4 = (.pointer (some ⟨rb, 1, none⟩)) := (show u 4 = _ from hsF 4 (by omega) (by omega))
    have hv64 : u 5 = (.int .i64 r.tb) := (show u 5 = _ from hsF 5 (by omega) (by omega))
    obtain ⟨b65, hv65, hlt65, hc65⟩ := (show (Sp.row [(.int .i64 r.tb)]).p (u 6) w' from hsF 6 (by omega) (by omega))
    have hv66 : u 7 = (.string (bS (numL wTable [r.tb]))) := (show u 7 = _ from hsF 7 (by omega) (by omega))
    have hv67 : u 8 = (.string (bS SW)) := (show u 8 = _ from hsF 8 (by omega) (by omega))
    obtain ⟨b68, hv68, hlt68, hc68⟩ := (show (Sp.row [(.string (bS (numL wRound [r.rd]))), (.string (bS (numL wTable [r.tb]))), (.string (bS SW))]).p (u 9) w' from hsF 9 (by omega) (by omega))
    have hv69 : u 10 = (.string (bS (sp [(numL wRound [r.rd]), (numL wTable [r.tb]), SW]))) := (show u 10 = _ from hsF 10 (by omega) (by omega))
    simp only [putRow, hv59, hv60, hv61, hv62, hv63, hv64, hv65, hv66, hv67, hv68, hv69, Act.put, List.setIfInBounds_toArray, List.set_cons_succ, List.set_cons_zero]
    clear hsF hv59 hv60 hv61 hv62 hv63 hv64 hv65 hv66 hv67 hv68 hv69
    refine rest_forced 1 (by kernel_rfl) ?_
    simp only [List.drop_succ_cons, List.drop_zero, List.take_succ_cons, List.take_zero]
    go_wp2_with fail
    refine rest_done (by kernel_rfl) ?_
    replace HRw := Lib.hid (HRw.out.keep hbF HRw.out.lt)
    replace B5 := Lib.hid (bchain B5.out hbF)
    replace HB5 := Lib.hid (HB5.out.keep hbF HB5.out.lt)
    replace HO5 := Lib.hid (own_keep HO5.out hbF)
    replace Hb5 := Lib.hid (Nat.le_trans Hb5.out hbF.size)
    have HPE := Lib.hid (place_eq r.rd r.tb SW)
    rw [HPE.out]
    have hPL0 : (sp [wRound, Lib.itoa r.rd, wTable, Lib.itoa r.tb, SW]).length ≤ 100000 := by
      rw [← HPE.out]
      refine Nat.le_trans (sp_len _ 1200 (List.forall_mem_cons.2 ⟨?_, List.forall_mem_cons.2 ⟨?_, List.forall_mem_cons.2 ⟨?_, fun x hx => absurd hx (by simp)⟩⟩⟩)) (by simp)
      · have := numL_len wRound [r.rd] (fun n hn => by obtain rfl := List.mem_singleton.1 hn; exact hm0)
        have h2 : wRound.length = 5 := rfl
        simp only [List.length_cons, List.length_nil] at this
        omega
      · have := numL_len wTable [r.tb] (fun n hn => by obtain rfl := List.mem_singleton.1 hn; exact hm1)
        have h2 : wTable.length = 5 := rfl
        simp only [List.length_cons, List.length_nil] at this
        omega
      · rw [← HSWE.out]; unfold sideW; split <;> decide
    obtain ⟨PL, hPLe⟩ : ∃ PL, sp [wRound, Lib.itoa r.rd, wTable, Lib.itoa r.tb, SW] = PL := ⟨_, rfl⟩
    have HPLE := Lib.hid hPLe
    rw [hPLe] at hPL0 ⊢
    have hPL := hPL0
    clear hPL0 hPLe HPE hbF hc61 hc65 hc68 hlt61 hlt65 hlt68
    have z0 : wrap64 (r.rd + 1) = ((i + 1 : Nat) : Int) := by rw [HRD.out]; unfold wrap64; omega
    have z1 : ((i + 1 : Nat) : Int) < ((R + 1 : Nat) : Int) := by omega
    have z2 : (0 : Int) ≤ ((i + 1 : Nat) : Int) := by omega
    have z3 : i + 1 < R + 1 := by omega
    have z4 : r.rd = (i : Int) := HRD.out
    have z5 : ¬ (i : Int) + 1 < 0 := by omega
    have z6 : (i : Int) + 1 < (R : Int) + 1 := by omega
    have z7 : (0 : Int) ≤ (i : Int) + 1 := by omega
    generalize w' = w6 at *
    by_cases hz : OT = 0
    · have e0 : (OT == 0) = true := beq_iff_eq.2 hz
      have HEQ : Hid (sp [PL, wAlone] = seatL r p) := Lib.hid (by
        have := alone_eq r p (by rw [HOTE.out]; exact hz)
        rw [HSWE.out, HPLE.out] at this
        exact this)
      clear hz
      go_upto_region 20 with fail
      clear e0
      obtain ⟨W0, hW0⟩ : ∃ W0, w6.drew = W0 := ⟨_, rfl⟩
      have hD : Below w6.heap.size w6 W0 := hW0 ▸ (Below.refl _ w6).drew
      replace HRw := Lib.hid (HRw.out.keep hD HRw.out.lt)
      replace B5 := Lib.hid (bchain B5.out hD)
      replace HB5 := Lib.hid (HB5.out.keep hD HB5.out.lt)
      replace HO5 := Lib.hid (own_keep HO5.out hD)
      replace Hb5 := Lib.hid (Nat.le_trans Hb5.out hD.size)
      refine rest_begin (by kernel_rfl) ?_
      rw [hW0]
      clear hD hW0
      clear w6
      refine rest_flow2 [some 72, some 73, some 74, some 75, some 76, some 77, some 78, some 79] [Sp.is (.slice (some ⟨g, 0, none⟩) (R + 1) co), Sp.is (.pointer (some ⟨rb, 0, none⟩)), Sp.is (.int .i64 r.rd), Sp.is (.int .i64 ((i + 1 : Nat) : Int)), Sp.is (.string (bS PL)), Sp.row [(.string (bS PL)), (.string ⟨#[97, 108, 111, 110, 101]⟩)], Sp.is (.string (bS (sp [PL, wAlone]))), Sp.is (.pointer (some ⟨g, i + 1, none⟩))] 8 (by kernel_rfl) (by kernel_rfl) (fun u F hF => ?_) (fun u w' hbF hsF => ?_)
      case refine_1 =>
        have E6 : F.eval (.tmp 6) = (.slice (some ⟨g, 0, none⟩) (R + 1) co) := (congrArg (fun a => Act.eval a (.tmp 6)) hF).trans (eval_out [some 72, some 73, some 74, some 75, some 76, some 77, some 78, some 79] 0 _ (by decide))
        have E9 : F.eval (.tmp 9) = (.pointer (some ⟨rb, 0, none⟩)) := (congrArg (fun a => Act.eval a (.tmp 9)) hF).trans (eval_out [some 72, some 73, some 74, some 75, some 76, some 77, some 78, some 79] 0 _ (by decide))
        have E12 : F.eval (.tmp 12) = (.string (bS PL)) := (congrArg (fun a => Act.eval a (.tmp 12)) hF).trans (eval_out [some 72, some 73, some 74, some 75, some 76, some 77, some 78, some 79] 0 _ (by decide))
        have D73 : F.eval (.tmp 73) = u 1 := (congrArg (fun a => Act.eval a (.tmp 73)) hF).trans (eval_in [some 72, some 73, some 74, some 75, some 76, some 77, some 78, some 79] 0 1 _ (by decide) (by omega) rfl (of_decide_eq_true (by kernel_rfl)))
        have D74 : F.eval (.tmp 74) = u 2 := (congrArg (fun a => Act.eval a (.tmp 74)) hF).trans (eval_in [some 72, some 73, some 74, some 75, some 76, some 77, some 78, some 79] 0 2 _ (by decide) (by omega) rfl (of_decide_eq_true (by kernel_rfl)))
        have D76 : F.eval (.tmp 76) = u 4 := (congrArg (fun a => Act.eval a (.tmp 76)) hF).trans (eval_in [some 72, some 73, some 74, some 75, some 76, some 77, some 78, some 79] 0 4 _ (by decide) (by omega) rfl (of_decide_eq_true (by kernel_rfl)))
        have D77 : F.eval (.tmp 77) = u 5 := (congrArg (fun a => Act.eval a (.tmp 77)) hF).trans (eval_in [some 72, some 73, some 74, some 75, some 76, some 77, some 78, some 79] 0 5 _ (by decide) (by omega) rfl (of_decide_eq_true (by kernel_rfl)))
        have D72 : F.eval (.tmp 72) = u 0 := (congrArg (fun a => Act.eval a (.tmp 72)) hF).trans (eval_in [some 72, some 73, some 74, some 75, some 76, some 77, some 78, some 79] 0 0 _ (by decide) (by omega) rfl (of_decide_eq_true (by kernel_rfl)))
        have D75 : F.eval (.tmp 75) = u 3 := (congrArg (fun a => Act.eval a (.tmp 75)) hF).trans (eval_in [some 72, some 73, some 74, some 75, some 76, some 77, some 78, some 79] 0 3 _ (by decide) (by omega) rfl (of_decide_eq_true (by kernel_rfl)))
        clear hF
        refine ⟨?_, ?_, ?_, ?_, ?_, ?_, ?_, ?_, trivial⟩
        · intro w1 hb hd K hK
          have e1 := E6
          exact op_val (v := (.slice (some ⟨g, 0, none⟩) (R + 1) co)) rfl (by simp only [execOp, e1]; go_simp) (hK _ _ (show _ = _ from rfl) (Below.refl _ _))
        · intro w1 hb hd K hK
          have e1 := E9
          exact op_val (v := (.pointer (some ⟨rb, 0, none⟩))) rfl (by simp only [execOp, e1]; go_simp) (hK _ _ (show _ = _ from rfl) (Below.refl _ _))
        · intro w1 hb hd K hK
          have e1 := D73.trans (show u 1 = (.pointer (some ⟨rb, 0, none⟩)) from hd ⟨1, .data⟩ (by simp) rfl (Nat.zero_le _))
          have c0 : w1.cell? ⟨rb, 0, none⟩ = some (.int .i64 r.rd) := (HRw.out.keep hb HRw.out.lt).cell (j := 0) rfl
          exact op_val (v := (.int .i64 r.rd)) rfl (by simp only [execOp, e1]; go_simp) (hK _ _ (show _ = _ from rfl) (Below.refl _ _))
        · intro w1 hb hd K hK
          have e1 := D74.trans (show u 2 = (.int .i64 r.rd) from hd ⟨2, .data⟩ (by simp) rfl (Nat.zero_le _))
          exact op_val (v := (.int .i64 ((i + 1 : Nat) : Int))) rfl (by simp only [execOp, e1]; go_simp; first | done | exact z0 | omega | (rw [IntKind.wrap_i64]; omega) | (unfold wrap64; omega)) (hK _ _ (show _ = _ from rfl) (Below.refl _ _))
        · intro w1 hb hd K hK
          have e1 := E12
          exact op_val (v := (.string (bS PL))) rfl (by simp only [execOp, e1]; go_simp) (hK _ _ (show _ = _ from rfl) (Below.refl _ _))
        · intro w1 hb hd K hK
          have e1 := D76.trans (show u 4 = (.string (bS PL)) from hd ⟨4, .data⟩ (by simp) rfl (Nat.zero_le _))
          exact op_val (v := .slice (some ⟨w1.heap.size, 0, none⟩) 2 2) (w' := w1.alloc (.cells #[(.string (bS PL)), (.string ⟨#[97, 108, 111, 110, 101]⟩)] 9)) rfl (by simp only [execOp, List.map_toArray, List.map_cons, List.map_nil, e1]; go_simp) (hK _ _ (Sp.row_new w1 9 [(.string (bS PL)), (.string ⟨#[97, 108, 111, 110, 101]⟩)] 2 _ rfl rfl) (below1 _ _))
        · intro w1 hb hd K hK
          obtain ⟨b, hv, hlt, hc⟩ := (show (Sp.row [(.string (bS PL)), (.string ⟨#[97, 108, 111, 110, 101]⟩)]).p (u 5) w1 from hd ⟨5, .data⟩ (by simp) rfl (Nat.zero_le _))
          have e1 := D77.trans hv
          refine op_call (R := fun v w2 => v = (.string (bS (sp [PL, wAlone]))) ∧ Below w1.heap.size w1 w2) (f := 39) (args := #[.slice (some ⟨b, 0, none⟩) 2 2]) rfl (by simp only [execOp]; go_simp; first | exact eval_get e1 | exact ⟨rfl, eval_get e1⟩ | exact ⟨eval_get e1, rfl⟩) ((join_any b 0 _ [PL, wAlone] (by simp) (Nat.le_refl _) ((List.forall_mem_cons.2 ⟨(by first | decide | exact hSW | exact hPL | exact numL_short (by decide) hm0 | exact numL_short (by decide) hm1 | exact numL_short (by decide) hm2 | exact numL_short (by decide) hm3), (List.forall_mem_cons.2 ⟨(by first | decide | exact hSW | exact hPL | exact numL_short (by decide) hm0 | exact numL_short (by decide) hm1 | exact numL_short (by decide) hm2 | exact numL_short (by decide) hm3), (fun x hx => absurd hx (by simp))⟩)⟩)) w1 hlt (wr_of_row (l := [PL, wAlone]) hc)).mono fun e w2 hh => ⟨_, hh.1, rfl, hh.2⟩) (fun v w2 hh => hK _ _ hh.1 hh.2)
        · intro w1 hb hd K hK
          have e1 := D72.trans (show u 0 = (.slice (some ⟨g, 0, none⟩) (R + 1) co) from hd ⟨0, .data⟩ (by simp) rfl (Nat.zero_le _))
          have e2 := D75.trans (show u 3 = (.int .i64 ((i + 1 : Nat) : Int)) from hd ⟨3, .data⟩ (by simp) rfl (Nat.zero_le _))
          exact op_val (v := (.pointer (some ⟨g, i + 1, none⟩))) rfl (by simp only [execOp, e1, e2]; go_simp) (hK _ _ (show _ = _ from rfl) (Below.refl _ _))
      have hv72 : u 0 = (.slice (some ⟨g, 0, none⟩) (R + 1) co) := (show u 0 = _ from hsF 0 (by omega) (by omega))
      have hv73 : u 1 = (.pointer (some ⟨rb, 0, none⟩)) := (show u 1 = _ from hsF 1 (by omega) (by omega))
      have hv74 : u 2 = (.int .i64 r.rd) := (show u 2 = _ from hsF 2 (by omega) (by omega))
      have hv75 : u 3 = (.int .i64 ((i + 1 : Nat) : Int)) := (show u 3 = _ from hsF 3 (by omega) (by omega))
      have hv76 : u 4 = (.string (bS PL)) := (show u 4 = _ from hsF 4 (by omega) (by omega))
      obtain ⟨b77, hv77, hlt77, hc77⟩ := (show (Sp.row [(.string (bS PL)), (.string ⟨#[97, 108, 111, 110, 101]⟩)]).p (u 5) w' from hsF 5 (by omega) (by omega))
      have hv78 : u 6 = (.string (bS (sp [PL, wAlone]))) := (show u 6 = _ from hsF 6 (by omega) (by omega))
      have hv79 : u 7 = (.pointer (some ⟨g, i + 1, none⟩)) := (show u 7 = _ from hsF 7 (by omega) (by omega))
      simp only [putRow, hv72, hv73, hv74, hv75, hv76, hv77, hv78, hv79, Act.put, List.setIfInBounds_toArray, List.set_cons_succ, List.set_cons_zero]
      clear hsF hv72 hv73 hv74 hv75 hv76 hv77 hv78 hv79
      have B6 := Lib.hid (bchain B5.out hbF)
      have HB6 := Lib.hid (HB5.out.keep hbF HB5.out.lt)
      have HO6 := Lib.hid (own_keep HO5.out hbF)
      have Hb6 := Lib.hid (Nat.le_trans Hb5.out hbF.size)
      rw [HEQ.out]
      have hgb : mb ≠ g ∧ w.heap.size ≤ g := by have := HMB.out; have := HLT.out; omega
      have HGB := Lib.hid hgb
      obtain ⟨cur, hblk, hcs⟩ := own_blk HO6.out
      have hlc : i + 1 < cur.size := by omega
      have y := Blk.cell hblk (j := i + 1) (v := cur[i + 1]) (Array.getElem?_eq_getElem hlc)
      have yf := Blk.free hblk (i + 1)
      clear hbF hgb HB5 HO5 Hb5 B5 HRw hm0 hm1 hm2 hm3 z0 z1 z2 z3 z4 z5 z6 z7 hblk hcs
      obtain ⟨RL, hRL⟩ : ∃ RL, seatL r p = RL := ⟨_, rfl⟩
      have HRL := Lib.hid hRL
      rw [hRL]
      clear hRL
      refine rest_forced 1 (by kernel_rfl) ?_
      simp only [List.drop_succ_cons, List.drop_zero, List.take_succ_cons, List.take_zero]
      go_wp2_with fail
      refine rest_done (by kernel_rfl) ?_
      have HO7 : Hid ((w'.setCell ⟨g, i + 1, none⟩ (.string (bS RL))).ownsRow base 9 1 (.slice (some ⟨g, 0, none⟩) (R + 1) co) (R + 1) ((cardL H R (pairAt p (m.rows.take (k + 1)))).map strV)) := Lib.hid (by
        have h := own_set HO6.out (i + 1) (.string (bS RL))
        rw [HT.out, ← pair_hit HHI.out hiR HRD.out, List.map_set, HRL.out]
        exact h)
      have B7 := Lib.hid (B6.out.setCell (p := ⟨g, i + 1, none⟩) HGB.out.2 (.string (bS RL)))
      have HB7 := Lib.hid (HB6.out.other HGB.out.1 (i + 1) (.string (bS RL)))
      have Hb7 : Hid (base ≤ (w'.setCell ⟨g, i + 1, none⟩ (.string (bS RL))).heap.size) := Lib.hid (by have := Hb6.out; simpa using this)
      clear HO6 B6 HB6 Hb6 y yf HT
      go_wp2_with fail
      go_roundw
      case rel => exact ⟨k + 1, by omega, by go_num, HO7, B7, HB7, Hb7⟩
      case measure => simp [intOf]; omega
    · have e0 : (OT == 0) = false := beq_eq_false_iff_ne.2 hz
      have HEQ : Hid (sp [PL, numL wAgainst [OT], numL wSet [r.st]] = seatL r p) := Lib.hid (by
        have := against_eq r p (by rw [HOTE.out]; exact hz)
        rw [HSWE.out, HPLE.out, HOTE.out] at this
        exact this)
      clear hz
      go_upto_region 21 with fail
      clear e0
      obtain ⟨W0, hW0⟩ : ∃ W0, w6.drew = W0 := ⟨_, rfl⟩
      have hD : Below w6.heap.size w6 W0 := hW0 ▸ (Below.refl _ w6).drew
      replace HRw := Lib.hid (HRw.out.keep hD HRw.out.lt)
      replace B5 := Lib.hid (bchain B5.out hD)
      replace HB5 := Lib.hid (HB5.out.keep hD HB5.out.lt)
      replace HO5 := Lib.hid (own_keep HO5.out hD)
      replace Hb5 := Lib.hid (Nat.le_trans Hb5.out hD.size)
      refine rest_begin (by kernel_rfl) ?_
      rw [hW0]
      clear hD hW0
      clear w6
      refine rest_flow2 [some 80, some 81, some 82, some 83, some 84, some 85, some 86, some 87, some 88, some 89, some 90, some 91, some 92, some 93, some 94] [Sp.is (.slice (some ⟨g, 0, none⟩) (R + 1) co), Sp.is (.pointer (some ⟨rb, 0, none⟩)), Sp.is (.int .i64 r.rd), Sp.is (.int .i64 ((i + 1 : Nat) : Int)), Sp.is (.string (bS PL)), Sp.is (.int .i64 OT), Sp.row [(.int .i64 OT)], Sp.is (.string (bS (numL wAgainst [OT]))), Sp.is (.pointer (some ⟨rb, 4, none⟩)), Sp.is (.int .i64 r.st), Sp.row [(.int .i64 r.st)], Sp.is (.string (bS (numL wSet [r.st]))), Sp.row [(.string (bS PL)), (.string (bS (numL wAgainst [OT]))), (.string (bS (numL wSet [r.st])))], Sp.is (.string (bS (sp [PL, (numL wAgainst [OT]), (numL wSet [r.st])]))), Sp.is (.pointer (some ⟨g, i + 1, none⟩))] 15 (by kernel_rfl) (by kernel_rfl) (fun u F hF => ?_) (fun u w' hbF hsF => ?_)
      case refine_1 =>
        have E6 : F.eval (.tmp 6) = (.slice (some ⟨g, 0, none⟩) (R + 1) co) := (congrArg (fun a => Act.eval a (.tmp 6)) hF).trans (eval_out [some 80, some 81, some 82, some 83, some 84, some 85, some 86, some 87, some 88, some 89, some 90, some 91, some 92, some 93, some 94] 0 _ (by decide))
        have E9 : F.eval (.tmp 9) = (.pointer (some ⟨rb, 0, none⟩)) := (congrArg (fun a => Act.eval a (.tmp 9)) hF).trans (eval_out [some 80, some 81, some 82, some 83, some 84, some 85, some 86, some 87, some 88, some 89, some 90, some 91, some 92, some 93, some 94] 0 _ (by decide))
        have E12 : F.eval (.tmp 12) = (.string (bS PL)) := (congrArg (fun a => Act.eval a (.tmp 12)) hF).trans (eval_out [some 80, some 81, some 82, some 83, some 84, some 85, some 86, some 87, some 88, some 89, some 90, some 91, some 92, some 93, some 94] 0 _ (by decide))
        have E11 : F.eval (.tmp 11) = (.int .i64 OT) := (congrArg (fun a => Act.eval a (.tmp 11)) hF).trans (eval_out [some 80, some 81, some 82, some 83, some 84, some 85, some 86, some 87, some 88, some 89, some 90, some 91, some 92, some 93, some 94] 0 _ (by decide))
        have D81 : F.eval (.tmp 81) = u 1 := (congrArg (fun a => Act.eval a (.tmp 81)) hF).trans (eval_in [some 80, some 81, some 82, some 83, some 84, some 85, some 86, some 87, some 88, some 89, some 90, some 91, some 92, some 93, some 94] 0 1 _ (by decide) (by omega) rfl (of_decide_eq_true (by kernel_rfl)))
        have D82 : F.eval (.tmp 82) = u 2 := (congrArg (fun a => Act.eval a (.tmp 82)) hF).trans (eval_in [some 80, some 81, some 82, some 83, some 84, some 85, some 86, some 87, some 88, some 89, some 90, some 91, some 92, some 93, some 94] 0 2 _ (by decide) (by omega) rfl (of_decide_eq_true (by kernel_rfl)))
        have D85 : F.eval (.tmp 85) = u 5 := (congrArg (fun a => Act.eval a (.tmp 85)) hF).trans (eval_in [some 80, some 81, some 82, some 83, some 84, some 85, some 86, some 87, some 88, some 89, some 90, some 91, some 92, some 93, some 94] 0 5 _ (by decide) (by omega) rfl (of_decide_eq_true (by kernel_rfl)))
        have D86 : F.eval (.tmp 86) = u 6 := (congrArg (fun a => Act.eval a (.tmp 86)) hF).trans (eval_in [some 80, some 81, some 82, some 83, some 84, some 85, some 86, some 87, some 88, some 89, some 90, some 91, some 92, some 93, some 94] 0 6 _ (by decide) (by omega) rfl (of_decide_eq_true (by kernel_rfl)))
        have D88 : F.eval (.tmp 88) = u 8 := (congrArg (fun a => Act.eval a (.tmp 88)) hF).trans (eval_in [some 80, some 81, some 82, some 83, some 84, some 85, some 86, some 87, some 88, some 89, some 90, some 91, some 92, some 93, some 94] 0 8 _ (by decide) (by omega) rfl (of_decide_eq_true (by kernel_rfl)))
        have D89 : F.eval (.tmp 89) = u 9 := (congrArg (fun a => Act.eval a (.tmp 89)) hF).trans (eval_in [some 80, some 81, some 82, some 83, some 84, some 85, some 86, some 87, some 88, some 89, some 90, some 91, some 92, some 93, some 94] 0 9 _ (by decide) (by omega) rfl (of_decide_eq_true (by kernel_rfl)))
        have D90 : F.eval (.tmp 90) = u 10 := (congrArg (fun a => Act.eval a (.tmp 90)) hF).trans (eval_in [some 80, some 81, some 82, some 83, some 84, some 85, some 86, some 87, some 88, some 89, some 90, some 91, some 92, some 93, some 94] 0 10 _ (by decide) (by omega) rfl (of_decide_eq_true (by kernel_rfl)))
        have D84 : F.eval (.tmp 84) = u 4 := (congrArg (fun a => Act.eval a (.tmp 84)) hF).trans (eval_in [some 80, some 81, some 82, some 83, some 84, some 85, some 86, some 87, some 88, some 89, some 90, some 91, some 92, some 93, some 94] 0 4 _ (by decide) (by omega) rfl (of_decide_eq_true (by kernel_rfl)))
        have D87 : F.eval (.tmp 87) = u 7 := (congrArg (fun a => Act.eval a (.tmp 87)) hF).trans (eval_in [some 80, some 81, some 82, some 83, some 84, some 85, some 86, some 87, some 88, some 89, some 90, some 91, some 92, some 93, some 94] 0 7 _ (by decide) (by omega) rfl (of_decide_eq_true (by kernel_rfl)))
        have D91 : F.eval (.tmp 91) = u 11 := (congrArg (fun a => Act.eval a (.tmp 91)) hF).trans (eval_in [some 80, some 81, some 82, some 83, some 84, some 85, some 86, some 87, some 88, some 89, some 90, some 91, some 92, some 93, some 94] 0 11 _ (by decide) (by omega) rfl (of_decide_eq_true (by kernel_rfl)))
        have D92 : F.eval (.tmp 92) = u 12 := (congrArg (fun a => Act.eval a (.tmp 92)) hF).trans (eval_in [some 80, some 81, some 82, some 83, some 84, some 85, some 86, some 87, some 88, some 89, some 90, some 91, some 92, some 93, some 94] 0 12 _ (by decide) (by omega) rfl (of_decide_eq_true (by kernel_rfl)))
        have D80 : F.eval (.tmp 80) = u 0 := (congrArg (fun a => Act.eval a (.tmp 80)) hF).trans (eval_in [some 80, some 81, some 82, some 83, some 84, some 85, some 86, some 87, some 88, some 89, some 90, some 91, some 92, some 93, some 94] 0 0 _ (by decide) (by omega) rfl (of_decide_eq_true (by kernel_rfl)))
        have D83 : F.eval (.tmp 83) = u 3 := (congrArg (fun a => Act.eval a (.tmp 83)) hF).trans (eval_in [some 80, some 81, some 82, some 83, some 84, some 85, some 86, some 87, some 88, some 89, some 90, some 91, some 92, some 93, some 94] 0 3 _ (by decide) (by omega) rfl (of_decide_eq_true (by kernel_rfl)))
        clear hF
        refine ⟨?_, ?_, ?_, ?_, ?_, ?_, ?_, ?_, ?_, ?_, ?_, ?_, ?_, ?_, ?_, trivial⟩
        · intro w1 hb hd K hK
          have e1 := E6
          exact op_val (v := (.slice (some ⟨g, 0, none⟩) (R + 1) co)) rfl (by simp only [execOp, e1]; go_simp) (hK _ _ (show _ = _ from rfl) (Below.refl _ _))
        · intro w1 hb hd K hK
          have e1 := E9
          exact op_val (v := (.pointer (some ⟨rb, 0, none⟩))) rfl (by simp only [execOp, e1]; go_simp) (hK _ _ (show _ = _ from rfl) (Below.refl _ _))
        · intro w1 hb hd K hK
          have e1 := D81.trans (show u 1 = (.pointer (some ⟨rb, 0, none⟩)) from hd ⟨1, .data⟩ (by simp) rfl (Nat.zero_le _))
          have c0 : w1.cell? ⟨rb, 0, none⟩ = some (.int .i64 r.rd) := (HRw.out.keep hb HRw.out.lt).cell (j := 0) rfl
          exact op_val (v := (.int .i64 r.rd)) rfl (by simp only [execOp, e1]; go_simp) (hK _ _ (show _ = _ from rfl) (Below.refl _ _))
        · intro w1 hb hd K hK
          have e1 := D82.trans (show u 2 = (.int .i64 r.rd) from hd ⟨2, .data⟩ (by simp) rfl (Nat.zero_le _))
          exact op_val (v := (.int .i64 ((i + 1 : Nat) : Int))) rfl (by simp only [execOp, e1]; go_simp; first | done | exact z0 | omega | (rw [IntKind.wrap_i64]; omega) | (unfold wrap64; omega)) (hK _ _ (show _ = _ from rfl) (Below.refl _ _))
        · intro w1 hb hd K hK
          have e1 := E12
          exact op_val (v := (.string (bS PL))) rfl (by simp only [execOp, e1]; go_simp) (hK _ _ (show _ = _ from rfl) (Below.refl _ _))
        · intro w1 hb hd K hK
          have e1 := E11
          exact op_val (v := (.int .i64 OT)) rfl (by simp only [execOp, e1]; go_simp) (hK _ _ (show _ = _ from rfl) (Below.refl _ _))
        · intro w1 hb hd K hK
          have e1 := D85.trans (show u 5 = (.int .i64 OT) from hd ⟨5, .data⟩ (by simp) rfl (Nat.zero_le _))
          exact op_val (v := .slice (some ⟨w1.heap.size, 0, none⟩) 1 1) (w' := w1.alloc (.cells #[(.int .i64 OT)] 3)) rfl (by simp only [execOp, List.map_toArray, List.map_cons, List.map_nil, e1]; go_simp) (hK _ _ (Sp.row_new w1 3 [(.int .i64 OT)] 1 _ rfl rfl) (below1 _ _))
        · intro w1 hb hd K hK
          obtain ⟨b, hv, hlt, hc⟩ := (show (Sp.row [(.int .i64 OT)]).p (u 6) w1 from hd ⟨6, .data⟩ (by simp) rfl (Nat.zero_le _))
          have e1 := D86.trans hv
          refine op_call (R := fun v w2 => v = (.string (bS (numL wAgainst [OT]))) ∧ Below w1.heap.size w1 w2) (f := 34) (args := #[.string (bS wAgainst), .slice (some ⟨b, 0, none⟩) 1 1]) rfl (by simp only [execOp]; go_simp; first | exact eval_get e1 | exact ⟨rfl, eval_get e1⟩ | exact ⟨eval_get e1, rfl⟩) ((line_any wAgainst (by decide) b 0 _ [OT] (by simp) (by intro y hy; obtain rfl := List.mem_singleton.1 hy; first | exact hm0 | exact hm1 | exact hm2 | exact hm3) w1 (HE.out.keep (bchain B5.out hb)) (ir_of_row hc)).mono fun e w2 hh => ⟨_, hh.1, rfl, hh.2⟩) (fun v w2 hh => hK _ _ hh.1 hh.2)
        · intro w1 hb hd K hK
          have e1 := E9
          exact op_val (v := (.pointer (some ⟨rb, 4, none⟩))) rfl (by simp only [execOp, e1]; go_simp) (hK _ _ (show _ = _ from rfl) (Below.refl _ _))
        · intro w1 hb hd K hK
          have e1 := D88.trans (show u 8 = (.pointer (some ⟨rb, 4, none⟩)) from hd ⟨8, .data⟩ (by simp) rfl (Nat.zero_le _))
          have c0 : w1.cell? ⟨rb, 4, none⟩ = some (.int .i64 r.st) := (HRw.out.keep hb HRw.out.lt).cell (j := 4) rfl
          exact op_val (v := (.int .i64 r.st)) rfl (by simp only [execOp, e1]; go_simp) (hK _ _ (show _ = _ from rfl) (Below.refl _ _))
        · intro w1 hb hd K hK
          have e1 := D89.trans (show u 9 = (.int .i64 r.st) from hd ⟨9, .data⟩ (by simp) rfl (Nat.zero_le _))
          exact op_val (v := .slice (some ⟨w1.heap.size, 0, none⟩) 1 1) (w' := w1.alloc (.cells #[(.int .i64 r.st)] 3)) rfl (by simp only [execOp, List.map_toArray, List.map_cons, List.map_nil, e1]; go_simp) (hK _ _ (Sp.row_new w1 3 [(.int .i64 r.st)] 1 _ rfl rfl) (below1 _ _))
        · intro w1 hb hd K hK
          obtain ⟨b, hv, hlt, hc⟩ := (show (Sp.row [(.int .i64 r.st)]).p (u 10) w1 from hd ⟨10, .data⟩ (by simp) rfl (Nat.zero_le _))
          have e1 := D90.trans hv
          refine op_call (R := fun v w2 => v = (.string (bS (numL wSet [r.st]))) ∧ Below w1.heap.size w1 w2) (f := 34) (args := #[.string (bS wSet), .slice (some ⟨b, 0, none⟩) 1 1]) rfl (by simp only [execOp]; go_simp; first | exact eval_get e1 | exact ⟨rfl, eval_get e1⟩ | exact ⟨eval_get e1, rfl⟩) ((line_any wSet (by decide) b 0 _ [r.st] (by simp) (by intro y hy; obtain rfl := List.mem_singleton.1 hy; first | exact hm0 | exact hm1 | exact hm2 | exact hm3) w1 (HE.out.keep (bchain B5.out hb)) (ir_of_row hc)).mono fun e w2 hh => ⟨_, hh.1, rfl, hh.2⟩) (fun v w2 hh => hK _ _ hh.1 hh.2)
        · intro w1 hb hd K hK
          have e1 := D84.trans (show u 4 = (.string (bS PL)) from hd ⟨4, .data⟩ (by simp) rfl (Nat.zero_le _))
          have e2 := D87.trans (show u 7 = (.string (bS (numL wAgainst [OT]))) from hd ⟨7, .data⟩ (by simp) rfl (Nat.zero_le _))
          have e3 := D91.trans (show u 11 = (.string (bS (numL wSet [r.st]))) from hd ⟨11, .data⟩ (by simp) rfl (Nat.zero_le _))
          exact op_val (v := .slice (some ⟨w1.heap.size, 0, none⟩) 3 3) (w' := w1.alloc (.cells #[(.string (bS PL)), (.string (bS (numL wAgainst [OT]))), (.string (bS (numL wSet [r.st])))] 9)) rfl (by simp only [execOp, List.map_toArray, List.map_cons, List.map_nil, e1, e2, e3]; go_simp) (hK _ _ (Sp.row_new w1 9 [(.string (bS PL)), (.string (bS (numL wAgainst [OT]))), (.string (bS (numL wSet [r.st])))] 3 _ rfl rfl) (below1 _ _))
        · intro w1 hb hd K hK
          obtain ⟨b, hv, hlt, hc⟩ := (show (Sp.row [(.string (bS PL)), (.string (bS (numL wAgainst [OT]))), (.string (bS (numL wSet [r.st])))]).p (u 12) w1 from hd ⟨12, .data⟩ (by simp) rfl (Nat.zero_le _))
          have e1 := D92.trans hv
          refine op_call (R := fun v w2 => v = (.string (bS (sp [PL, (numL wAgainst [OT]), (numL wSet [r.st])]))) ∧ Below w1.heap.size w1 w2) (f := 39) (args := #[.slice (some ⟨b, 0, none⟩) 3 3]) rfl (by simp only [execOp]; go_simp; first | exact eval_get e1 | exact ⟨rfl, eval_get e1⟩ | exact ⟨eval_get e1, rfl⟩) ((join_any b 0 _ [PL, (numL wAgainst [OT]), (numL wSet [r.st])] (by simp) (Nat.le_refl _) ((List.forall_mem_cons.2 ⟨(by first | decide | exact hSW | exact hPL | exact numL_short (by decide) hm0 | exact numL_short (by decide) hm1 | exact numL_short (by decide) hm2 | exact numL_short (by decide) hm3), (List.forall_mem_cons.2 ⟨(by first | decide | exact hSW | exact hPL | exact numL_short (by decide) hm0 | exact numL_short (by decide) hm1 | exact numL_short (by decide) hm2 | exact numL_short (by decide) hm3), (List.forall_mem_cons.2 ⟨(by first | decide | exact hSW | exact hPL | exact numL_short (by decide) hm0 | exact numL_short (by decide) hm1 | exact numL_short (by decide) hm2 | exact numL_short (by decide) hm3), (fun x hx => absurd hx (by simp))⟩)⟩)⟩)) w1 hlt (wr_of_row (l := [PL, (numL wAgainst [OT]), (numL wSet [r.st])]) hc)).mono fun e w2 hh => ⟨_, hh.1, rfl, hh.2⟩) (fun v w2 hh => hK _ _ hh.1 hh.2)
        · intro w1 hb hd K hK
          have e1 := D80.trans (show u 0 = (.slice (some ⟨g, 0, none⟩) (R + 1) co) from hd ⟨0, .data⟩ (by simp) rfl (Nat.zero_le _))
          have e2 := D83.trans (show u 3 = (.int .i64 ((i + 1 : Nat) : Int)) from hd ⟨3, .data⟩ (by simp) rfl (Nat.zero_le _))
          exact op_val (v := (.pointer (some ⟨g, i + 1, none⟩))) rfl (by simp only [execOp, e1, e2]; go_simp) (hK _ _ (show _ = _ from rfl) (Below.refl _ _))
      have hv80 : u 0 = (.slice (some ⟨g, 0, none⟩) (R + 1) co) := (show u 0 = _ from hsF 0 (by omega) (by omega))
      have hv81 : u 1 = (.pointer (some ⟨rb, 0, none⟩)) := (show u 1 = _ from hsF 1 (by omega) (by omega))
      have hv82 : u 2 = (.int .i64 r.rd) := (show u 2 = _ from hsF 2 (by omega) (by omega))
      have hv83 : u 3 = (.int .i64 ((i + 1 : Nat) : Int)) := (show u 3 = _ from hsF 3 (by omega) (by omega))
      have hv84 : u 4 = (.string (bS PL)) := (show u 4 = _ from hsF 4 (by omega) (by omega))
      have hv85 : u 5 = (.int .i64 OT) := (show u 5 = _ from hsF 5 (by omega) (by omega))
      obtain ⟨b86, hv86, hlt86, hc86⟩ := (show (Sp.row [(.int .i64 OT)]).p (u 6) w' from hsF 6 (by omega) (by omega))
      have hv87 : u 7 = (.string (bS (numL wAgainst [OT]))) := (show u 7 = _ from hsF 7 (by omega) (by omega))
      have hv88 : u 8 = (.pointer (some ⟨rb, 4, none⟩)) := (show u 8 = _ from hsF 8 (by omega) (by omega))
      have hv89 : u 9 = (.int .i64 r.st) := (show u 9 = _ from hsF 9 (by omega) (by omega))
      obtain ⟨b90, hv90, hlt90, hc90⟩ := (show (Sp.row [(.int .i64 r.st)]).p (u 10) w' from hsF 10 (by omega) (by omega))
      have hv91 : u 11 = (.string (bS (numL wSet [r.st]))) := (show u 11 = _ from hsF 11 (by omega) (by omega))
      obtain ⟨b92, hv92, hlt92, hc92⟩ := (show (Sp.row [(.string (bS PL)), (.string (bS (numL wAgainst [OT]))), (.string (bS (numL wSet [r.st])))]).p (u 12) w' from hsF 12 (by omega) (by omega))
      have hv93 : u 13 = (.string (bS (sp [PL, (numL wAgainst [OT]), (numL wSet [r.st])]))) := (show u 13 = _ from hsF 13 (by omega) (by omega))
      have hv94 : u 14 = (.pointer (some ⟨g, i + 1, none⟩)) := (show u 14 = _ from hsF 14 (by omega) (by omega))
      simp only [putRow, hv80, hv81, hv82, hv83, hv84, hv85, hv86, hv87, hv88, hv89, hv90, hv91, hv92, hv93, hv94, Act.put, List.setIfInBounds_toArray, List.set_cons_succ, List.set_cons_zero]
      clear hsF hv80 hv81 hv82 hv83 hv84 hv85 hv86 hv87 hv88 hv89 hv90 hv91 hv92 hv93 hv94
      have B6 := Lib.hid (bchain B5.out hbF)
      have HB6 := Lib.hid (HB5.out.keep hbF HB5.out.lt)
      have HO6 := Lib.hid (own_keep HO5.out hbF)
      have Hb6 := Lib.hid (Nat.le_trans Hb5.out hbF.size)
      rw [HEQ.out]
      have hgb : mb ≠ g ∧ w.heap.size ≤ g := by have := HMB.out; have := HLT.out; omega
      have HGB := Lib.hid hgb
      obtain ⟨cur, hblk, hcs⟩ := own_blk HO6.out
      have hlc : i + 1 < cur.size := by omega
      have y := Blk.cell hblk (j := i + 1) (v := cur[i + 1]) (Array.getElem?_eq_getElem hlc)
      have yf := Blk.free hblk (i + 1)
      clear hbF hgb HB5 HO5 Hb5 B5 HRw hm0 hm1 hm2 hm3 z0 z1 z2 z3 z4 z5 z6 z7 hblk hcs
      obtain ⟨RL, hRL⟩ : ∃ RL, seatL r p = RL := ⟨_, rfl⟩
      have HRL := Lib.hid hRL
      rw [hRL]
      clear hRL
      refine rest_forced 1 (by kernel_rfl) ?_
      simp only [List.drop_succ_cons, List.drop_zero, List.take_succ_cons, List.take_zero]
      go_wp2_with fail
      refine rest_done (by kernel_rfl) ?_
      have HO7 : Hid ((w'.setCell ⟨g, i + 1, none⟩ (.string (bS RL))).ownsRow base 9 1 (.slice (some ⟨g, 0, none⟩) (R + 1) co) (R + 1) ((cardL H R (pairAt p (m.rows.take (k + 1)))).map strV)) := Lib.hid (by
        have h := own_set HO6.out (i + 1) (.string (bS RL))
        rw [HT.out, ← pair_hit HHI.out hiR HRD.out, List.map_set, HRL.out]
        exact h)
      have B7 := Lib.hid (B6.out.setCell (p := ⟨g, i + 1, none⟩) HGB.out.2 (.string (bS RL)))
      have HB7 := Lib.hid (HB6.out.other HGB.out.1 (i + 1) (.string (bS RL)))
      have Hb7 : Hid (base ≤ (w'.setCell ⟨g, i + 1, none⟩ (.string (bS RL))).heap.size) := Lib.hid (by have := Hb6.out; simpa using this)
      clear HO6 B6 HB6 Hb6 y yf HT
      go_wp2_with fail
      go_roundw
      case rel => exact ⟨k + 1, by omega, by go_num, HO7, B7, HB7, Hb7⟩
      case measure => simp [intOf]; omega
end Go.Proofs.YtidpfggikighlaaDoor
