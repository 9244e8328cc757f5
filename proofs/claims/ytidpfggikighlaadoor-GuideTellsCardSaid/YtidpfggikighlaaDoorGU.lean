/- The program's Table. -/
import Derived.Test.YtidpfggikighlaaDoorGQP
import Derived.Test.YtidpfggikighlaaDoorFlow2
namespace Go.Proofs.YtidpfggikighlaaDoor
open Go Go.RowKit

theorem own_blk {w : World} {B n c g e : Nat} {xs : List Value} (h : w.ownsRow B e 1 (.slice (some ⟨g, 0, none⟩) n c) n xs) : ∃ cur, Blk w g e cur ∧ n ≤ cur.size := by
  rcases h.2 with ⟨e, _⟩ | ⟨g', cap, cur, e, _, hg, h1, _, h2, _⟩
  · injection e with e _ _; cases e
  · injection e with e1 e2 e3
    have e1 := Option.some.inj e1
    injection e1 with e1 _ _
    subst e1 e3
    exact ⟨cur, hg, by omega⟩
theorem fit_row {m : Mv} (h : fitB m = true) {R : Nat} (hR : m.rou = R) {r : Rw} (hr : r ∈ m.rows) : ∃ i : Nat, r.rd = i ∧ i < R := by
  have := fit_in h r hr
  exact ⟨r.rd.toNat, by omega, by omega⟩
set_option maxRecDepth 100000 in
set_option maxHeartbeats 16000000 in
theorem table_any (m : Mv) (rv : Value) (p : Int) (hp : inI p) (w : World) (he : Env w) (h : MV w m rv) : Calls Tryd.prog 17 #[mvV m rv, .int .i64 p] w (RetT w (tableO m p) (tableE m p)) := by
  have HM := Lib.hid h
  have HE := Lib.hid he
  obtain ⟨A, cap, rfl⟩ := h.rows.len
  obtain ⟨N, hN⟩ : ∃ N, m.rows.length = N := ⟨_, rfl⟩
  have HN := Lib.hid hN
  have FI := Lib.hid (fun wx (hb : Below w.heap.size w wx) => fit_any m _ wx (HM.out.keep hb))
  rw [hN] at FI ⊢
  have HP := Lib.hid hp
  clear h he hN hp
  unfold mvV
  go_enter Tryd.func17, Tryd.ntmps17
  go_wp2_with fail
  have B0 := Lib.hid (below1 w (.cells #[.int .i64 m.tab, .int .i64 m.rou, .int .i64 m.set, .int .i64 m.cop, .int .i64 m.win, .slice A N cap] 24))
  have HB0 := Lib.hid (Blk.new w 24 #[.int .i64 m.tab, .int .i64 m.rou, .int .i64 m.set, .int .i64 m.cop, .int .i64 m.win, .slice A N cap])
  obtain ⟨mb, hmb⟩ : ∃ mb, w.heap.size = mb := ⟨_, rfl⟩
  refine (FI.out _ B0.out).mono ?_
  rintro e w1 ⟨rfl, hb⟩
  have B1 := Lib.hid (bchain B0.out hb)
  have HB1 := Lib.hid (HB0.out.keep hb HB0.out.lt)
  rw [hmb] at HB1 ⊢
  have HMB := Lib.hid hmb
  clear hb B0 HB0 hmb FI
  rcases hf : fitB m with _ | _
  · have HX := Lib.hid (table_no p hf)
    clear hf
    go_wp2_with fail
    go_ret2
    exact ⟨.slice none 0 0, by rw [HX.out.2]; rfl, by rw [HX.out.1]; exact .none_, B1.out⟩
  have x0 := HB1.out.cell (j := 0) (v := .int .i64 m.tab) rfl
  by_cases hp1 : p < 0
  · have HX := Lib.hid (table_bad hf (.inl hp1))
    have t1 : decide (p < 0) = true := decide_eq_true hp1
    clear hf
    go_wp2_with fail
    go_ret2
    exact ⟨.slice none 0 0, by rw [HX.out.2]; rfl, by rw [HX.out.1]; exact .none_, B1.out⟩
  have t1 : decide (p < 0) = false := decide_eq_false hp1
  by_cases hp2 : m.tab ≤ p
  · have HX := Lib.hid (table_bad hf (.inr hp2))
    have t2 : decide (m.tab ≤ p) = true := decide_eq_true hp2
    clear hf
    go_wp2_with fail
    go_ret2
    exact ⟨.slice none 0 0, by rw [HX.out.2]; rfl, by rw [HX.out.1]; exact .none_, B1.out⟩
  have t2 : decide (m.tab ≤ p) = false := decide_eq_false hp2
  have HX := Lib.hid (table_ok (p := p) hf ⟨by omega, by omega⟩)
  have hd := fit_head hf
  obtain ⟨R, hR⟩ : ∃ R : Nat, m.rou = R := ⟨m.rou.toNat, by omega⟩
  have hR47 : R ≤ 47 := by omega
  have HRT : Hid (m.rou.toNat = R) := Lib.hid (by omega)
  have hNb : N ≤ 1128 := by
    have := prod_bd hd.1 hd.2.1 hd.2.2.1 hd.2.2.2.1
    have h5 := hd.2.2.2.2
    have := HN.out
    omega
  have HFR := Lib.hid (fun r hr => fit_row hf hR (r := r) hr)
  clear hf hd
  go_wp2_with fail
  refine (line_new wTable [p] w1 (HE.out.keep B1.out) rfl (by decide) rfl rfl (by simp) (by
    intro x hx
    obtain rfl := List.mem_singleton.1 hx
    exact HP.out) rfl).mono ?_
  rintro e w2 ⟨rfl, hb⟩
  have B2 := Lib.hid (bchain B1.out (bchain (below1 _ _) hb))
  have HB2 := Lib.hid ((HB1.out.alloc _).keep hb (HB1.out.alloc _).lt)
  clear hb x0 t1 t2 B1 HB1
  obtain ⟨H, hH⟩ : ∃ H, numL wTable [p] = H := ⟨_, rfl⟩
  rw [hH] at HX ⊢
  clear hH
  go_upto_region 6 with fail
  have hrow : Hid ((w2.alloc (.cells #[.string (bS H)] 9)).ownsRow w2.heap.size 9 1 (.slice (some ⟨w2.heap.size, 0, none⟩) 1 1) 1 ([H].map strV)) := Lib.hid (own_one w2 9 (.string (bS H)))
  have B3 := Lib.hid (bchain B2.out (below1 w2 (.cells #[.string (bS H)] 9)))
  have HB3 := Lib.hid (HB2.out.alloc (.cells #[.string (bS H)] 9))
  have HLT := Lib.hid HB2.out.lt
  clear HB2 B2
  have hb2 : Hid (w2.heap.size ≤ (w2.alloc (.cells #[.string (bS H)] 9)).heap.size) := Lib.hid (by simp)
  generalize w2.alloc (.cells #[.string (bS H)] 9) = w3 at *
  generalize w2.heap.size = base at *
  have x1 := HB3.out.cell (j := 1) (v := .int .i64 (R : Int)) (by rw [hR]; rfl)
  go_upto_block 0 with fail
  clear x1
  go_cut [6] (fun s6 wx => Hid (wx.ownsRow base 9 1 s6 (R + 1) ((cardL H R (tableAt p [])).map strV)) ∧ Hid (Below w.heap.size w wx) ∧ Hid (Blk wx mb 24 #[.int .i64 m.tab, .int .i64 m.rou, .int .i64 m.set, .int .i64 m.cop, .int .i64 m.win, .slice A N cap]) ∧ Hid (base ≤ wx.heap.size))
  case first =>
    go_wp2_with fail
    go_loopw [6, 27] (fun s6 s27 wr => ∃ k : Nat, k ≤ R ∧ Hid (wr.ownsRow base 9 1 s6 (k + 1) ((cardL H k (tableAt p [])).map strV)) ∧ s27 = .int .i64 (k : Int) ∧ Hid (Below w.heap.size w wr) ∧ Hid (Blk wr mb 24 #[.int .i64 m.tab, .int .i64 m.rou, .int .i64 m.set, .int .i64 m.cop, .int .i64 m.win, .slice A N cap]) ∧ Hid (base ≤ wr.heap.size)) (fun _ s27 _ => R - (intOf s27).toNat)
    case atStart => exact ⟨0, Nat.zero_le _, by unfold cardL; exact hrow, rfl, B3, HB3, hb2⟩
    case round =>
      obtain ⟨k, hk, HO, rfl, BR, HBr, Hbase⟩ := hrel
      obtain ⟨AO, co, rfl⟩ := own_slice HO.out
      by_cases hlt : k < R
      · have t1 : decide ((k : Int) < (R : Int)) = true := decide_eq_true (by omega)
        go_wp2_with fail
        refine (line_new wRound [(k : Int)] wr (HE.out.keep BR.out) rfl (by decide) rfl rfl (by simp) (by
          intro x hx
          obtain rfl := List.mem_singleton.1 hx
          exact ⟨by omega, by omega⟩) rfl).mono ?_
        rintro e w4 ⟨rfl, hb⟩
        have hb4 := bchain (below1 wr (.cells #[.int .i64 (k : Int)] 3)) hb
        have B4 := Lib.hid (bchain BR.out hb4)
        have HB4 := Lib.hid (HBr.out.keep hb4 HBr.out.lt)
        have HO4 := Lib.hid (own_keep HO.out hb4)
        have Hb4 := Lib.hid (Nat.le_trans Hbase.out hb4.size)
        clear hb hb4 BR HBr HO Hbase
        go_wp2_with fail
        refine (join_new [numL wRound [(k : Int)], wEmpty] w4 rfl rfl (by simp) (List.forall_mem_cons.2 ⟨numL_short (by decide) ⟨by omega, by omega⟩, List.forall_mem_cons.2 ⟨by decide, fun x hx => absurd hx (by simp)⟩⟩) rfl).mono ?_
        rintro e w5 ⟨rfl, hb⟩
        have hb5 := bchain (below1 w4 _) hb
        have B5 := Lib.hid (bchain B4.out hb5)
        have HB5 := Lib.hid (HB4.out.keep hb5 HB4.out.lt)
        have HO5 := Lib.hid (own_keep HO4.out hb5)
        have Hb5 := Lib.hid (Nat.le_trans Hb4.out hb5.size)
        have HT : Hid (cardL H (k + 1) (tableAt p []) = cardL H k (tableAt p []) ++ [emptyL (k : Int)]) := Lib.hid (by rw [cardL_snoc, tableAt_nil])
        rw [empty_eq]
        clear hb hb5 B4 HB4 HO4 Hb4
        obtain ⟨RL, hRL⟩ : ∃ RL, emptyL (k : Int) = RL := ⟨_, rfl⟩
        rw [hRL] at HT ⊢
        clear hRL
        go_upto_region 10 with (at_builtin; refine app_str rfl (.tmp 30) (.tmp 36) rfl w5 base _ (k + 1) (cardL H k (tableAt p [])) (bS RL) RL rfl rfl w5.heap.size rfl rfl HO5.out Hb5.out (by omega) ?_; intro v' w6 hown' hgrow hwh hbl)
        have HO6 : Hid (w6.ownsRow base 9 1 v' (k + 1 + 1) ((cardL H (k + 1) (tableAt p [])).map strV)) := Lib.hid (by rw [HT.out]; exact hown')
        have B6 := Lib.hid (B5.out.trans (hbl.mono (by have := HMB.out; have := HLT.out; omega)))
        have HB6 := Lib.hid (HB5.out.keep hbl HLT.out)
        have Hb6 := Lib.hid (Nat.le_trans Hb5.out hbl.size)
        clear hown' hgrow hwh hbl HO5 B5 HB5 Hb5
        go_wp2_with fail
        go_roundw
        case rel => exact ⟨k + 1, by omega, HO6, by go_num, B6, HB6, Hb6⟩
        case measure => simp [intOf]; omega
      · obtain rfl : k = R := by omega
        have t1 : decide ((k : Int) < (k : Int)) = false := decide_eq_false (by omega)
        go_wp2_with fail
        go_meet
        exact ⟨HO, BR, HBr, Hbase⟩
  case rest =>
  obtain ⟨HO, B4, HB4, Hb4⟩ := hcut
  obtain ⟨g, co, hv, hbg, hco⟩ := own_some HO.out (by omega)
  subst hv
  clear hrow B3 HB3 hb2
  have x5 := HB4.out.cell (j := 5) (v := .slice A N cap) rfl
  go_wp2_with fail
  clear x5
  go_loopw [42] (fun s42 wr => ∃ k : Nat, k ≤ N ∧ s42 = .int .i64 (k : Int) ∧ Hid (wr.ownsRow base 9 1 (.slice (some ⟨g, 0, none⟩) (R + 1) co) (R + 1) ((cardL H R (tableAt p (m.rows.take k))).map strV)) ∧ Hid (Below w.heap.size w wr) ∧ Hid (Blk wr mb 24 #[.int .i64 m.tab, .int .i64 m.rou, .int .i64 m.set, .int .i64 m.cop, .int .i64 m.win, .slice A N cap]) ∧ Hid (base ≤ wr.heap.size)) (fun s42 _ => N - (intOf s42).toNat)
  case atStart => exact ⟨0, Nat.zero_le _, rfl, by rw [List.take_zero]; exact HO, B4, HB4, Hb4⟩
  case round =>
    obtain ⟨k, hk, rfl, HO, BR, HBr, Hbase⟩ := hrel
    by_cases hlt : k < N
    case neg =>
      obtain rfl : k = N := by omega
      have t1 : decide ((k : Int) < (k : Int)) = false := decide_eq_false (by omega)
      have hR2 : Hid (RS wr (.slice (some ⟨g, 0, none⟩) (R + 1) co) (cardL H R (tableAt p m.rows))) := Lib.hid (by
        have h := HO.out
        rw [← HN.out, List.take_length] at h
        have hlen := cardL_len H R (tableAt p m.rows)
        rw [← hlen] at h ⊢
        exact rs_of_own h)
      go_wp2_with fail
      go_ret2
      exact ⟨.slice (some ⟨g, 0, none⟩) (R + 1) co, by rw [HX.out.2]; rfl, by rw [HX.out.1, HRT.out]; exact hR2.out, BR.out⟩
    have t1 : decide ((k : Int) < (N : Int)) = true := decide_eq_true (by omega)
    obtain ⟨r, hr⟩ : ∃ r, m.rows[k]? = some r := ⟨_, List.getElem?_eq_getElem (by rw [HN.out]; exact hlt)⟩
    obtain ⟨b, o, rfl, c0, c1, c2, c3, c4⟩ := (HM.out.rows.keep BR.out).at hr
    have HR := Lib.hid hr
    have HRI := Lib.hid (HM.out.ri r (List.mem_of_getElem? hr))
    obtain ⟨i, hri, hiR⟩ := HFR.out r (List.mem_of_getElem? hr)
    have HRD := Lib.hid hri
    have HT : Hid (m.rows.take (k + 1) = m.rows.take k ++ [r]) := Lib.hid (take_more hr)
    clear hr hri
    go_upto_region 14 with fail
    have HRw := Lib.hid (Blk.new wr 45 #[.int .i64 r.rd, .int .i64 r.tb, .int .i64 r.ns, .int .i64 r.ew, .int .i64 r.st])
    have B5 := Lib.hid (bchain BR.out (below1 wr (.cells #[.int .i64 r.rd, .int .i64 r.tb, .int .i64 r.ns, .int .i64 r.ew, .int .i64 r.st] 45)))
    have HB5 := Lib.hid (HBr.out.alloc (.cells #[.int .i64 r.rd, .int .i64 r.tb, .int .i64 r.ns, .int .i64 r.ew, .int .i64 r.st] 45))
    have HO5 := Lib.hid (own_keep HO.out (below1 wr (.cells #[.int .i64 r.rd, .int .i64 r.tb, .int .i64 r.ns, .int .i64 r.ew, .int .i64 r.st] 45)))
    have Hb5 : Hid (base ≤ (wr.alloc (.cells #[.int .i64 r.rd, .int .i64 r.tb, .int .i64 r.ns, .int .i64 r.ew, .int .i64 r.st] 45)).heap.size) := Lib.hid (by have := Hbase.out; rw [size_al]; omega)
    clear c0 c1 c2 c3 c4 BR HBr HO Hbase t1
    generalize wr.alloc (.cells #[.int .i64 r.rd, .int .i64 r.tb, .int .i64 r.ns, .int .i64 r.ew, .int .i64 r.st] 45) = w4 at *
    generalize wr.heap.size = rb at *
    have c1 := HRw.out.cell (j := 1) (v := .int .i64 r.tb) rfl
    by_cases htb : r.tb = p
    case neg =>
      have e1 : (r.tb == p) = false := beq_eq_false_iff_ne.2 htb
      have HO6 : Hid (w4.ownsRow base 9 1 (.slice (some ⟨g, 0, none⟩) (R + 1) co) (R + 1) ((cardL H R (tableAt p (m.rows.take (k + 1)))).map strV)) := Lib.hid (by rw [HT.out, table_miss htb]; exact HO5.out)
      clear htb HT HO5
      go_wp2_with fail
      go_roundw
      case rel => exact ⟨k + 1, by omega, by go_num, HO6, B5, HB5, Hb5⟩
      case measure => simp [intOf]; omega
    have e1 : (r.tb == p) = true := beq_iff_eq.2 htb
    have HTB := Lib.hid htb
    clear htb
    go_upto_region 15 with fail
    clear c1 e1
    obtain ⟨W0, hW0⟩ : ∃ W0, w4.drew = W0 := ⟨_, rfl⟩
    have hD : Below w4.heap.size w4 W0 := hW0 ▸ (Below.refl _ w4).drew
    replace HRw := Lib.hid (HRw.out.keep hD HRw.out.lt)
    replace B5 := Lib.hid (bchain B5.out hD)
    replace HB5 := Lib.hid (HB5.out.keep hD HB5.out.lt)
    replace HO5 := Lib.hid (own_keep HO5.out hD)
    replace Hb5 := Lib.hid (Nat.le_trans Hb5.out hD.size)
    have hm0 := HRI.out.rd
    have hm1 := HRI.out.ns
    have hm2 := HRI.out.ew
    have hm3 := HRI.out.st
    have z0 : wrap64 (r.rd + 1) = ((i + 1 : Nat) : Int) := by rw [HRD.out]; unfold wrap64; omega
    have z1 : ((i + 1 : Nat) : Int) < ((R + 1 : Nat) : Int) := by omega
    have z2 : (0 : Int) ≤ ((i + 1 : Nat) : Int) := by omega
    have z3 : i + 1 < R + 1 := by omega
    have z4 : r.rd = (i : Int) := HRD.out
    have z5 : ¬ (i : Int) + 1 < 0 := by omega
    have z6 : (i : Int) + 1 < (R : Int) + 1 := by omega
    have z7 : (0 : Int) ≤ (i : Int) + 1 := by omega
    refine rest_begin (by kernel_rfl) ?_
    rw [hW0]
    clear hD hW0
    clear w4
    refine rest_flow2 [some 50, some 51, some 52, some 53, some 54, some 55, some 56, some 57, some 58, some 59, some 60, some 61, some 62, some 63, some 64, some 65, some 66, some 67, some 68, some 69, some 70, some 71, some 72] [Sp.is (.slice (some ⟨g, 0, none⟩) (R + 1) co), Sp.is (.pointer (some ⟨rb, 0, none⟩)), Sp.is (.int .i64 r.rd), Sp.is (.int .i64 ((i + 1 : Nat) : Int)), Sp.is (.pointer (some ⟨rb, 0, none⟩)), Sp.is (.int .i64 r.rd), Sp.row [(.int .i64 r.rd)], Sp.is (.string (bS (numL wRound [r.rd]))), Sp.is (.pointer (some ⟨rb, 2, none⟩)), Sp.is (.int .i64 r.ns), Sp.row [(.int .i64 r.ns)], Sp.is (.string (bS (numL wNS [r.ns]))), Sp.is (.pointer (some ⟨rb, 3, none⟩)), Sp.is (.int .i64 r.ew), Sp.row [(.int .i64 r.ew)], Sp.is (.string (bS (numL wEW [r.ew]))), Sp.is (.pointer (some ⟨rb, 4, none⟩)), Sp.is (.int .i64 r.st), Sp.row [(.int .i64 r.st)], Sp.is (.string (bS (numL wSet [r.st]))), Sp.row [(.string (bS (numL wRound [r.rd]))), (.string (bS (numL wNS [r.ns]))), (.string (bS (numL wEW [r.ew]))), (.string (bS (numL wSet [r.st])))], Sp.is (.string (bS (sp [(numL wRound [r.rd]), (numL wNS [r.ns]), (numL wEW [r.ew]), (numL wSet [r.st])]))), Sp.is (.pointer (some ⟨g, i + 1, none⟩))] 23 (by kernel_rfl) (by kernel_rfl) (fun u F hF => ?_) (fun u w' hbF hsF => ?_)
    case refine_1 =>
      have E6 : F.eval (.tmp 6) = (.slice (some ⟨g, 0, none⟩) (R + 1) co) := (congrArg (fun a => Act.eval a (.tmp 6)) hF).trans (eval_out [some 50, some 51, some 52, some 53, some 54, some 55, some 56, some 57, some 58, some 59, some 60, some 61, some 62, some 63, some 64, some 65, some 66, some 67, some 68, some 69, some 70, some 71, some 72] 0 _ (by decide))
      have E9 : F.eval (.tmp 9) = (.pointer (some ⟨rb, 0, none⟩)) := (congrArg (fun a => Act.eval a (.tmp 9)) hF).trans (eval_out [some 50, some 51, some 52, some 53, some 54, some 55, some 56, some 57, some 58, some 59, some 60, some 61, some 62, some 63, some 64, some 65, some 66, some 67, some 68, some 69, some 70, some 71, some 72] 0 _ (by decide))
      have D51 : F.eval (.tmp 51) = u 1 := (congrArg (fun a => Act.eval a (.tmp 51)) hF).trans (eval_in [some 50, some 51, some 52, some 53, some 54, some 55, some 56, some 57, some 58, some 59, some 60, some 61, some 62, some 63, some 64, some 65, some 66, some 67, some 68, some 69, some 70, some 71, some 72] 0 1 _ (by decide) (by omega) rfl (of_decide_eq_true (by kernel_rfl)))
      have D52 : F.eval (.tmp 52) = u 2 := (congrArg (fun a => Act.eval a (.tmp 52)) hF).trans (eval_in [some 50, some 51, some 52, some 53, some 54, some 55, some 56, some 57, some 58, some 59, some 60, some 61, some 62, some 63, some 64, some 65, some 66, some 67, some 68, some 69, some 70, some 71, some 72] 0 2 _ (by decide) (by omega) rfl (of_decide_eq_true (by kernel_rfl)))
      have D54 : F.eval (.tmp 54) = u 4 := (congrArg (fun a => Act.eval a (.tmp 54)) hF).trans (eval_in [some 50, some 51, some 52, some 53, some 54, some 55, some 56, some 57, some 58, some 59, some 60, some 61, some 62, some 63, some 64, some 65, some 66, some 67, some 68, some 69, some 70, some 71, some 72] 0 4 _ (by decide) (by omega) rfl (of_decide_eq_true (by kernel_rfl)))
      have D55 : F.eval (.tmp 55) = u 5 := (congrArg (fun a => Act.eval a (.tmp 55)) hF).trans (eval_in [some 50, some 51, some 52, some 53, some 54, some 55, some 56, some 57, some 58, some 59, some 60, some 61, some 62, some 63, some 64, some 65, some 66, some 67, some 68, some 69, some 70, some 71, some 72] 0 5 _ (by decide) (by omega) rfl (of_decide_eq_true (by kernel_rfl)))
      have D56 : F.eval (.tmp 56) = u 6 := (congrArg (fun a => Act.eval a (.tmp 56)) hF).trans (eval_in [some 50, some 51, some 52, some 53, some 54, some 55, some 56, some 57, some 58, some 59, some 60, some 61, some 62, some 63, some 64, some 65, some 66, some 67, some 68, some 69, some 70, some 71, some 72] 0 6 _ (by decide) (by omega) rfl (of_decide_eq_true (by kernel_rfl)))
      have D58 : F.eval (.tmp 58) = u 8 := (congrArg (fun a => Act.eval a (.tmp 58)) hF).trans (eval_in [some 50, some 51, some 52, some 53, some 54, some 55, some 56, some 57, some 58, some 59, some 60, some 61, some 62, some 63, some 64, some 65, some 66, some 67, some 68, some 69, some 70, some 71, some 72] 0 8 _ (by decide) (by omega) rfl (of_decide_eq_true (by kernel_rfl)))
      have D59 : F.eval (.tmp 59) = u 9 := (congrArg (fun a => Act.eval a (.tmp 59)) hF).trans (eval_in [some 50, some 51, some 52, some 53, some 54, some 55, some 56, some 57, some 58, some 59, some 60, some 61, some 62, some 63, some 64, some 65, some 66, some 67, some 68, some 69, some 70, some 71, some 72] 0 9 _ (by decide) (by omega) rfl (of_decide_eq_true (by kernel_rfl)))
      have D60 : F.eval (.tmp 60) = u 10 := (congrArg (fun a => Act.eval a (.tmp 60)) hF).trans (eval_in [some 50, some 51, some 52, some 53, some 54, some 55, some 56, some 57, some 58, some 59, some 60, some 61, some 62, some 63, some 64, some 65, some 66, some 67, some 68, some 69, some 70, some 71, some 72] 0 10 _ (by decide) (by omega) rfl (of_decide_eq_true (by kernel_rfl)))
      have D62 : F.eval (.tmp 62) = u 12 := (congrArg (fun a => Act.eval a (.tmp 62)) hF).trans (eval_in [some 50, some 51, some 52, some 53, some 54, some 55, some 56, some 57, some 58, some 59, some 60, some 61, some 62, some 63, some 64, some 65, some 66, some 67, some 68, some 69, some 70, some 71, some 72] 0 12 _ (by decide) (by omega) rfl (of_decide_eq_true (by kernel_rfl)))
      have D63 : F.eval (.tmp 63) = u 13 := (congrArg (fun a => Act.eval a (.tmp 63)) hF).trans (eval_in [some 50, some 51, some 52, some 53, some 54, some 55, some 56, some 57, some 58, some 59, some 60, some 61, some 62, some 63, some 64, some 65, some 66, some 67, some 68, some 69, some 70, some 71, some 72] 0 13 _ (by decide) (by omega) rfl (of_decide_eq_true (by kernel_rfl)))
      have D64 : F.eval (.tmp 64) = u 14 := (congrArg (fun a => Act.eval a (.tmp 64)) hF).trans (eval_in [some 50, some 51, some 52, some 53, some 54, some 55, some 56, some 57, some 58, some 59, some 60, some 61, some 62, some 63, some 64, some 65, some 66, some 67, some 68, some 69, some 70, some 71, some 72] 0 14 _ (by decide) (by omega) rfl (of_decide_eq_true (by kernel_rfl)))
      have D66 : F.eval (.tmp 66) = u 16 := (congrArg (fun a => Act.eval a (.tmp 66)) hF).trans (eval_in [some 50, some 51, some 52, some 53, some 54, some 55, some 56, some 57, some 58, some 59, some 60, some 61, some 62, some 63, some 64, some 65, some 66, some 67, some 68, some 69, some 70, some 71, some 72] 0 16 _ (by decide) (by omega) rfl (of_decide_eq_true (by kernel_rfl)))
      have D67 : F.eval (.tmp 67) = u 17 := (congrArg (fun a => Act.eval a (.tmp 67)) hF).trans (eval_in [some 50, some 51, some 52, some 53, some 54, some 55, some 56, some 57, some 58, some 59, some 60, some 61, some 62, some 63, some 64, some 65, some 66, some 67, some 68, some 69, some 70, some 71, some 72] 0 17 _ (by decide) (by omega) rfl (of_decide_eq_true (by kernel_rfl)))
      have D68 : F.eval (.tmp 68) = u 18 := (congrArg (fun a => Act.eval a (.tmp 68)) hF).trans (eval_in [some 50, some 51, some 52, some 53, some 54, some 55, some 56, some 57, some 58, some 59, some 60, some 61, some 62, some 63, some 64, some 65, some 66, some 67, some 68, some 69, some 70, some 71, some 72] 0 18 _ (by decide) (by omega) rfl (of_decide_eq_true (by kernel_rfl)))
      have D57 : F.eval (.tmp 57) = u 7 := (congrArg (fun a => Act.eval a (.tmp 57)) hF).trans (eval_in [some 50, some 51, some 52, some 53, some 54, some 55, some 56, some 57, some 58, some 59, some 60, some 61, some 62, some 63, some 64, some 65, some 66, some 67, some 68, some 69, some 70, some 71, some 72] 0 7 _ (by decide) (by omega) rfl (of_decide_eq_true (by kernel_rfl)))
      have D61 : F.eval (.tmp 61) = u 11 := (congrArg (fun a => Act.eval a (.tmp 61)) hF).trans (eval_in [some 50, some 51, some 52, some 53, some 54, some 55, some 56, some 57, some 58, some 59, some 60, some 61, some 62, some 63, some 64, some 65, some 66, some 67, some 68, some 69, some 70, some 71, some 72] 0 11 _ (by decide) (by omega) rfl (of_decide_eq_true (by kernel_rfl)))
      have D65 : F.eval (.tmp 65) = u 15 := (congrArg (fun a => Act.eval a (.tmp 65)) hF).trans (eval_in [some 50, some 51, some 52, some 53, some 54, some 55, some 56, some 57, some 58, some 59, some 60, some 61, some 62, some 63, some 64, some 65, some 66, some 67, some 68, some 69, some 70, some 71, some 72] 0 15 _ (by decide) (by omega) rfl (of_decide_eq_true (by kernel_rfl)))
      have D69 : F.eval (.tmp 69) = u 19 := (congrArg (fun a => Act.eval a (.tmp 69)) hF).trans (eval_in [some 50, some 51, some 52, some 53, some 54, some 55, some 56, some 57, some 58, some 59, some 60, some 61, some 62, some 63, some 64, some 65, some 66, some 67, some 68, some 69, some 70, some 71, some 72] 0 19 _ (by decide) (by omega) rfl (of_decide_eq_true (by kernel_rfl)))
      have D70 : F.eval (.tmp 70) = u 20 := (congrArg (fun a => Act.eval a (.tmp 70)) hF).trans (eval_in [some 50, some 51, some 52, some 53, some 54, some 55, some 56, some 57, some 58, some 59, some 60, some 61, some 62, some 63, some 64, some 65, some 66, some 67, some 68, some 69, some 70, some 71, some 72] 0 20 _ (by decide) (by omega) rfl (of_decide_eq_true (by kernel_rfl)))
      have D50 : F.eval (.tmp 50) = u 0 := (congrArg (fun a => Act.eval a (.tmp 50)) hF).trans (eval_in [some 50, some 51, some 52, some 53, some 54, some 55, some 56, some 57, some 58, some 59, some 60, some 61, some 62, some 63, some 64, some 65, some 66, some 67, some 68, some 69, some 70, some 71, some 72] 0 0 _ (by decide) (by omega) rfl (of_decide_eq_true (by kernel_rfl)))
      have D53 : F.eval (.tmp 53) = u 3 := (congrArg (fun a => Act.eval a (.tmp 53)) hF).trans (eval_in [some 50, some 51, some 52, some 53, some 54, some 55, some 56, some 57, some 58, some 59, some 60, some 61, some 62, some 63, some 64, some 65, some 66, some 67, some 68, some 69, some 70, some 71, some 72] 0 3 _ (by decide) (by omega) rfl (of_decide_eq_true (by kernel_rfl)))
      clear hF
      refine ⟨?_, ?_, ?_, ?_, ?_, ?_, ?_, ?_, ?_, ?_, ?_, ?_, ?_, ?_, ?_, ?_, ?_, ?_, ?_, ?_, ?_, ?_, ?_, trivial⟩
      · intro w1 hb hd K hK
        have e1 := E6
        exact op_val (v := (.slice (some ⟨g, 0, none⟩) (R + 1) co)) rfl (by simp only [execOp, e1]; go_simp) (hK _ _ (show _ = _ from rfl) (Below.refl _ _))
      · intro w1 hb hd K hK
        have e1 := E9
        exact op_val (v := (.pointer (some ⟨rb, 0, none⟩))) rfl (by simp only [execOp, e1]; go_simp) (hK _ _ (show _ = _ from rfl) (Below.refl _ _))
      · intro w1 hb hd K hK
        have e1 := D51.trans (show u 1 = (.pointer (some ⟨rb, 0, none⟩)) from hd ⟨1, .data⟩ (by simp) rfl (Nat.zero_le _))
        have c0 : w1.cell? ⟨rb, 0, none⟩ = some (.int .i64 r.rd) := (HRw.out.keep hb HRw.out.lt).cell (j := 0) rfl
        exact op_val (v := (.int .i64 r.rd)) rfl (by simp only [execOp, e1]; go_simp) (hK _ _ (show _ = _ from rfl) (Below.refl _ _))
      · intro w1 hb hd K hK
        have e1 := D52.trans (show u 2 = (.int .i64 r.rd) from hd ⟨2, .data⟩ (by simp) rfl (Nat.zero_le _))
        exact op_val (v := (.int .i64 ((i + 1 : Nat) : Int))) rfl (by simp only [execOp, e1]; go_simp; first | done | exact z0 | omega | (rw [IntKind.wrap_i64]; omega) | (unfold wrap64; omega)) (hK _ _ (show _ = _ from rfl) (Below.refl _ _))
      · intro w1 hb hd K hK
        have e1 := E9
        exact op_val (v := (.pointer (some ⟨rb, 0, none⟩))) rfl (by simp only [execOp, e1]; go_simp) (hK _ _ (show _ = _ from rfl) (Below.refl _ _))
      · intro w1 hb hd K hK
        have e1 := D54.trans (show u 4 = (.pointer (some ⟨rb, 0, none⟩)) from hd ⟨4, .data⟩ (by simp) rfl (Nat.zero_le _))
        have c0 : w1.cell? ⟨rb, 0, none⟩ = some (.int .i64 r.rd) := (HRw.out.keep hb HRw.out.lt).cell (j := 0) rfl
        exact op_val (v := (.int .i64 r.rd)) rfl (by simp only [execOp, e1]; go_simp) (hK _ _ (show _ = _ from rfl) (Below.refl _ _))
      · intro w1 hb hd K hK
        have e1 := D55.trans (show u 5 = (.int .i64 r.rd) from hd ⟨5, .data⟩ (by simp) rfl (Nat.zero_le _))
        exact op_val (v := .slice (some ⟨w1.heap.size, 0, none⟩) 1 1) (w' := w1.alloc (.cells #[(.int .i64 r.rd)] 3)) rfl (by simp only [execOp, List.map_toArray, List.map_cons, List.map_nil, e1]; go_simp) (hK _ _ (Sp.row_new w1 3 [(.int .i64 r.rd)] 1 _ rfl rfl) (below1 _ _))
      · intro w1 hb hd K hK
        obtain ⟨b, hv, hlt, hc⟩ := (show (Sp.row [(.int .i64 r.rd)]).p (u 6) w1 from hd ⟨6, .data⟩ (by simp) rfl (Nat.zero_le _))
        have e1 := D56.trans hv
        refine op_call (R := fun v w2 => v = (.string (bS (numL wRound [r.rd]))) ∧ Below w1.heap.size w1 w2) (f := 34) (args := #[.string (bS wRound), .slice (some ⟨b, 0, none⟩) 1 1]) rfl (by simp only [execOp]; go_simp; first | exact eval_get e1 | exact ⟨rfl, eval_get e1⟩ | exact ⟨eval_get e1, rfl⟩) ((line_any wRound (by decide) b 0 _ [r.rd] (by simp) (by intro y hy; obtain rfl := List.mem_singleton.1 hy; first | exact hm0 | exact hm1 | exact hm2 | exact hm3) w1 (HE.out.keep (bchain B5.out hb)) (ir_of_row hc)).mono fun e w2 hh => ⟨_, hh.1, rfl, hh.2⟩) (fun v w2 hh => hK _ _ hh.1 hh.2)
      · intro w1 hb hd K hK
        have e1 := E9
        exact op_val (v := (.pointer (some ⟨rb, 2, none⟩))) rfl (by simp only [execOp, e1]; go_simp) (hK _ _ (show _ = _ from rfl) (Below.refl _ _))
      · intro w1 hb hd K hK
        have e1 := D58.trans (show u 8 = (.pointer (some ⟨rb, 2, none⟩)) from hd ⟨8, .data⟩ (by simp) rfl (Nat.zero_le _))
        have c0 : w1.cell? ⟨rb, 2, none⟩ = some (.int .i64 r.ns) := (HRw.out.keep hb HRw.out.lt).cell (j := 2) rfl
        exact op_val (v := (.int .i64 r.ns)) rfl (by simp only [execOp, e1]; go_simp) (hK _ _ (show _ = _ from rfl) (Below.refl _ _))
      · intro w1 hb hd K hK
        have e1 := D59.trans (show u 9 = (.int .i64 r.ns) from hd ⟨9, .data⟩ (by simp) rfl (Nat.zero_le _))
        exact op_val (v := .slice (some ⟨w1.heap.size, 0, none⟩) 1 1) (w' := w1.alloc (.cells #[(.int .i64 r.ns)] 3)) rfl (by simp only [execOp, List.map_toArray, List.map_cons, List.map_nil, e1]; go_simp) (hK _ _ (Sp.row_new w1 3 [(.int .i64 r.ns)] 1 _ rfl rfl) (below1 _ _))
      · intro w1 hb hd K hK
        obtain ⟨b, hv, hlt, hc⟩ := (show (Sp.row [(.int .i64 r.ns)]).p (u 10) w1 from hd ⟨10, .data⟩ (by simp) rfl (Nat.zero_le _))
        have e1 := D60.trans hv
        refine op_call (R := fun v w2 => v = (.string (bS (numL wNS [r.ns]))) ∧ Below w1.heap.size w1 w2) (f := 34) (args := #[.string (bS wNS), .slice (some ⟨b, 0, none⟩) 1 1]) rfl (by simp only [execOp]; go_simp; first | exact eval_get e1 | exact ⟨rfl, eval_get e1⟩ | exact ⟨eval_get e1, rfl⟩) ((line_any wNS (by decide) b 0 _ [r.ns] (by simp) (by intro y hy; obtain rfl := List.mem_singleton.1 hy; first | exact hm0 | exact hm1 | exact hm2 | exact hm3) w1 (HE.out.keep (bchain B5.out hb)) (ir_of_row hc)).mono fun e w2 hh => ⟨_, hh.1, rfl, hh.2⟩) (fun v w2 hh => hK _ _ hh.1 hh.2)
      · intro w1 hb hd K hK
        have e1 := E9
        exact op_val (v := (.pointer (some ⟨rb, 3, none⟩))) rfl (by simp only [execOp, e1]; go_simp) (hK _ _ (show _ = _ from rfl) (Below.refl _ _))
      · intro w1 hb hd K hK
        have e1 := D62.trans (show u 12 = (.pointer (some ⟨rb, 3, none⟩)) from hd ⟨12, .data⟩ (by simp) rfl (Nat.zero_le _))
        have c0 : w1.cell? ⟨rb, 3, none⟩ = some (.int .i64 r.ew) := (HRw.out.keep hb HRw.out.lt).cell (j := 3) rfl
        exact op_val (v := (.int .i64 r.ew)) rfl (by simp only [execOp, e1]; go_simp) (hK _ _ (show _ = _ from rfl) (Below.refl _ _))
      · intro w1 hb hd K hK
        have e1 := D63.trans (show u 13 = (.int .i64 r.ew) from hd ⟨13, .data⟩ (by simp) rfl (Nat.zero_le _))
        exact op_val (v := .slice (some ⟨w1.heap.size, 0, none⟩) 1 1) (w' := w1.alloc (.cells #[(.int .i64 r.ew)] 3)) rfl (by simp only [execOp, List.map_toArray, List.map_cons, List.map_nil, e1]; go_simp) (hK _ _ (Sp.row_new w1 3 [(.int .i64 r.ew)] 1 _ rfl rfl) (below1 _ _))
      · intro w1 hb hd K hK
        obtain ⟨b, hv, hlt, hc⟩ := (show (Sp.row [(.int .i64 r.ew)]).p (u 14) w1 from hd ⟨14, .data⟩ (by simp) rfl (Nat.zero_le _))
        have e1 := D64.trans hv
        refine op_call (R := fun v w2 => v = (.string (bS (numL wEW [r.ew]))) ∧ Below w1.heap.size w1 w2) (f := 34) (args := #[.string (bS wEW), .slice (some ⟨b, 0, none⟩) 1 1]) rfl (by simp only [execOp]; go_simp; first | exact eval_get e1 | exact ⟨rfl, eval_get e1⟩ | exact ⟨eval_get e1, rfl⟩) ((line_any wEW (by decide) b 0 _ [r.ew] (by simp) (by intro y hy; obtain rfl := List.mem_singleton.1 hy; first | exact hm0 | exact hm1 | exact hm2 | exact hm3) w1 (HE.out.keep (bchain B5.out hb)) (ir_of_row hc)).mono fun e w2 hh => ⟨_, hh.1, rfl, hh.2⟩) (fun v w2 hh => hK _ _ hh.1 hh.2)
      · intro w1 hb hd K hK
        have e1 := E9
        exact op_val (v := (.pointer (some ⟨rb, 4, none⟩))) rfl (by simp only [execOp, e1]; go_simp) (hK _ _ (show _ = _ from rfl) (Below.refl _ _))
      · intro w1 hb hd K hK
        have e1 := D66.trans (show u 16 = (.pointer (some ⟨rb, 4, none⟩)) from hd ⟨16, .data⟩ (by simp) rfl (Nat.zero_le _))
        have c0 : w1.cell? ⟨rb, 4, none⟩ = some (.int .i64 r.st) := (HRw.out.keep hb HRw.out.lt).cell (j := 4) rfl
        exact op_val (v := (.int .i64 r.st)) rfl (by simp only [execOp, e1]; go_simp) (hK _ _ (show _ = _ from rfl) (Below.refl _ _))
      · intro w1 hb hd K hK
        have e1 := D67.trans (show u 17 = (.int .i64 r.st) from hd ⟨17, .data⟩ (by simp) rfl (Nat.zero_le _))
        exact op_val (v := .slice (some ⟨w1.heap.size, 0, none⟩) 1 1) (w' := w1.alloc (.cells #[(.int .i64 r.st)] 3)) rfl (by simp only [execOp, List.map_toArray, List.map_cons, List.map_nil, e1]; go_simp) (hK _ _ (Sp.row_new w1 3 [(.int .i64 r.st)] 1 _ rfl rfl) (below1 _ _))
      · intro w1 hb hd K hK
        obtain ⟨b, hv, hlt, hc⟩ := (show (Sp.row [(.int .i64 r.st)]).p (u 18) w1 from hd ⟨18, .data⟩ (by simp) rfl (Nat.zero_le _))
        have e1 := D68.trans hv
        refine op_call (R := fun v w2 => v = (.string (bS (numL wSet [r.st]))) ∧ Below w1.heap.size w1 w2) (f := 34) (args := #[.string (bS wSet), .slice (some ⟨b, 0, none⟩) 1 1]) rfl (by simp only [execOp]; go_simp; first | exact eval_get e1 | exact ⟨rfl, eval_get e1⟩ | exact ⟨eval_get e1, rfl⟩) ((line_any wSet (by decide) b 0 _ [r.st] (by simp) (by intro y hy; obtain rfl := List.mem_singleton.1 hy; first | exact hm0 | exact hm1 | exact hm2 | exact hm3) w1 (HE.out.keep (bchain B5.out hb)) (ir_of_row hc)).mono fun e w2 hh => ⟨_, hh.1, rfl, hh.2⟩) (fun v w2 hh => hK _ _ hh.1 hh.2)
      · intro w1 hb hd K hK
        have e1 := D57.trans (show u 7 = (.string (bS (numL wRound [r.rd]))) from hd ⟨7, .data⟩ (by simp) rfl (Nat.zero_le _))
        have e2 := D61.trans (show u 11 = (.string (bS (numL wNS [r.ns]))) from hd ⟨11, .data⟩ (by simp) rfl (Nat.zero_le _))
        have e3 := D65.trans (show u 15 = (.string (bS (numL wEW [r.ew]))) from hd ⟨15, .data⟩ (by simp) rfl (Nat.zero_le _))
        have e4 := D69.trans (show u 19 = (.string (bS (numL wSet [r.st]))) from hd ⟨19, .data⟩ (by simp) rfl (Nat.zero_le _))
        exact op_val (v := .slice (some ⟨w1.heap.size, 0, none⟩) 4 4) (w' := w1.alloc (.cells #[(.string (bS (numL wRound [r.rd]))), (.string (bS (numL wNS [r.ns]))), (.string (bS (numL wEW [r.ew]))), (.string (bS (numL wSet [r.st])))] 9)) rfl (by simp only [execOp, List.map_toArray, List.map_cons, List.map_nil, e1, e2, e3, e4]; go_simp) (hK _ _ (Sp.row_new w1 9 [(.string (bS (numL wRound [r.rd]))), (.string (bS (numL wNS [r.ns]))), (.string (bS (numL wEW [r.ew]))), (.string (bS (numL wSet [r.st])))] 4 _ rfl rfl) (below1 _ _))
      · intro w1 hb hd K hK
        obtain ⟨b, hv, hlt, hc⟩ := (show (Sp.row [(.string (bS (numL wRound [r.rd]))), (.string (bS (numL wNS [r.ns]))), (.string (bS (numL wEW [r.ew]))), (.string (bS (numL wSet [r.st])))]).p (u 20) w1 from hd ⟨20, .data⟩ (by simp) rfl (Nat.zero_le _))
        have e1 := D70.trans hv
        refine op_call (R := fun v w2 => v = (.string (bS (sp [(numL wRound [r.rd]), (numL wNS [r.ns]), (numL wEW [r.ew]), (numL wSet [r.st])]))) ∧ Below w1.heap.size w1 w2) (f := 39) (args := #[.slice (some ⟨b, 0, none⟩) 4 4]) rfl (by simp only [execOp]; go_simp; first | exact eval_get e1 | exact ⟨rfl, eval_get e1⟩ | exact ⟨eval_get e1, rfl⟩) ((join_any b 0 _ [(numL wRound [r.rd]), (numL wNS [r.ns]), (numL wEW [r.ew]), (numL wSet [r.st])] (by simp) (Nat.le_refl _) ((List.forall_mem_cons.2 ⟨(by first | decide | exact numL_short (by decide) hm0 | exact numL_short (by decide) hm1 | exact numL_short (by decide) hm2 | exact numL_short (by decide) hm3), (List.forall_mem_cons.2 ⟨(by first | decide | exact numL_short (by decide) hm0 | exact numL_short (by decide) hm1 | exact numL_short (by decide) hm2 | exact numL_short (by decide) hm3), (List.forall_mem_cons.2 ⟨(by first | decide | exact numL_short (by decide) hm0 | exact numL_short (by decide) hm1 | exact numL_short (by decide) hm2 | exact numL_short (by decide) hm3), (List.forall_mem_cons.2 ⟨(by first | decide | exact numL_short (by decide) hm0 | exact numL_short (by decide) hm1 | exact numL_short (by decide) hm2 | exact numL_short (by decide) hm3), (fun x hx => absurd hx (by simp))⟩)⟩)⟩)⟩)) w1 hlt (wr_of_row (l := [(numL wRound [r.rd]), (numL wNS [r.ns]), (numL wEW [r.ew]), (numL wSet [r.st])]) hc)).mono fun e w2 hh => ⟨_, hh.1, rfl, hh.2⟩) (fun v w2 hh => hK _ _ hh.1 hh.2)
      · intro w1 hb hd K hK
        have e1 := D50.trans (show u 0 = (.slice (some ⟨g, 0, none⟩) (R + 1) co) from hd ⟨0, .data⟩ (by simp) rfl (Nat.zero_le _))
        have e2 := D53.trans (show u 3 = (.int .i64 ((i + 1 : Nat) : Int)) from hd ⟨3, .data⟩ (by simp) rfl (Nat.zero_le _))
        exact op_val (v := (.pointer (some ⟨g, i + 1, none⟩))) rfl (by simp only [execOp, e1, e2]; go_simp) (hK _ _ (show _ = _ from rfl) (Below.refl _ _))
    have hv50 : u 0 = (.slice (some ⟨g, 0, none⟩) (R + 1) co) := (show u 0 = _ from hsF 0 (by omega) (by omega))
    have hv51 : u 1 = (.pointer (some ⟨rb, 0, none⟩)) := (show u 1 = _ from hsF 1 (by omega) (by omega))
    have hv52 : u 2 = (.int .i64 r.rd) := (show u 2 = _ from hsF 2 (by omega) (by omega))
    have hv53 : u 3 = (.int .i64 ((i + 1 : Nat) : Int)) := (show u 3 = _ from hsF 3 (by omega) (by omega))
    have hv54 : u 4 = (.pointer (some ⟨rb, 0, none⟩)) := (show u 4 = _ from hsF 4 (by omega) (by omega))
    have hv55 : u 5 = (.int .i64 r.rd) := (show u 5 = _ from hsF 5 (by omega) (by omega))
    obtain ⟨b56, hv56, hlt56, hc56⟩ := (show (Sp.row [(.int .i64 r.rd)]).p (u 6) w' from hsF 6 (by omega) (by omega))
    have hv57 : u 7 = (.string (bS (numL wRound [r.rd]))) := (show u 7 = _ from hsF 7 (by omega) (by omega))
    have hv58 : u 8 = (.pointer (some ⟨rb, 2, none⟩)) := (show u 8 = _ from hsF 8 (by omega) (by omega))
    have hv59 : u 9 = (.int .i64 r.ns) := (show u 9 = _ from hsF 9 (by omega) (by omega))
    obtain ⟨b60, hv60, hlt60, hc60⟩ := (show (Sp.row [(.int .i64 r.ns)]).p (u 10) w' from hsF 10 (by omega) (by omega))
    have hv61 : u 11 = (.string (bS (numL wNS [r.ns]))) := (show u 11 = _ from hsF 11 (by omega) (by omega))
    have hv62 : u 12 = (.pointer (some ⟨rb, 3, none⟩)) := (show u 12 = _ from hsF 12 (by omega) (by omega))
    have hv63 : u 13 = (.int .i64 r.ew) := (show u 13 = _ from hsF 13 (by omega) (by omega))
    obtain ⟨b64, hv64, hlt64, hc64⟩ := (show (Sp.row [(.int .i64 r.ew)]).p (u 14) w' from hsF 14 (by omega) (by omega))
    have hv65 : u 15 = (.string (bS (numL wEW [r.ew]))) := (show u 15 = _ from hsF 15 (by omega) (by omega))
    have hv66 : u 16 = (.pointer (some ⟨rb, 4, none⟩)) := (show u 16 = _ from hsF 16 (by omega) (by omega))
    have hv67 : u 17 = (.int .i64 r.st) := (show u 17 = _ from hsF 17 (by omega) (by omega))
    obtain ⟨b68, hv68, hlt68, hc68⟩ := (show (Sp.row [(.int .i64 r.st)]).p (u 18) w' from hsF 18 (by omega) (by omega))
    have hv69 : u 19 = (.string (bS (numL wSet [r.st]))) := (show u 19 = _ from hsF 19 (by omega) (by omega))
    obtain ⟨b70, hv70, hlt70, hc70⟩ := (show (Sp.row [(.string (bS (numL wRound [r.rd]))), (.string (bS (numL wNS [r.ns]))), (.string (bS (numL wEW [r.ew]))), (.string (bS (numL wSet [r.st])))]).p (u 20) w' from hsF 20 (by omega) (by omega))
    have hv71 : u 21 = (.string (bS (sp [(numL wRound [r.rd]), (numL wNS [r.ns]), (numL wEW [r.ew]), (numL wSet [r.st])]))) := (show u 21 = _ from hsF 21 (by omega) (by omega))
    have hv72 : u 22 = (.pointer (some ⟨g, i + 1, none⟩)) := (show u 22 = _ from hsF 22 (by omega) (by omega))
    simp only [putRow, hv50, hv51, hv52, hv53, hv54, hv55, hv56, hv57, hv58, hv59, hv60, hv61, hv62, hv63, hv64, hv65, hv66, hv67, hv68, hv69, hv70, hv71, hv72, Act.put, List.setIfInBounds_toArray, List.set_cons_succ, List.set_cons_zero]
    clear hsF hv50 hv51 hv52 hv53 hv54 hv55 hv56 hv57 hv58 hv59 hv60 hv61 hv62 hv63 hv64 hv65 hv66 hv67 hv68 hv69 hv70 hv71 hv72
    have B6 := Lib.hid (bchain B5.out hbF)
    have HB6 := Lib.hid (HB5.out.keep hbF HB5.out.lt)
    have HO6 := Lib.hid (own_keep HO5.out hbF)
    have Hb6 := Lib.hid (Nat.le_trans Hb5.out hbF.size)
    rw [board_eq]
    have hgb : mb ≠ g ∧ w.heap.size ≤ g := by have := HMB.out; have := HLT.out; omega
    have HGB := Lib.hid hgb
    obtain ⟨cur, hblk, hcs⟩ := own_blk HO6.out
    have hlc : i + 1 < cur.size := by omega
    have y := Blk.cell hblk (j := i + 1) (v := cur[i + 1]) (Array.getElem?_eq_getElem hlc)
    have yf := Blk.free hblk (i + 1)
    clear hbF hgb HB5 HO5 Hb5 B5 HRw hm0 hm1 hm2 hm3 z0 z1 z2 z3 z4 z5 z6 z7 hc56 hc60 hc64 hc68 hc70 hlt56 hlt60 hlt64 hlt68 hlt70 hblk hcs
    obtain ⟨RL, hRL⟩ : ∃ RL, boardL r = RL := ⟨_, rfl⟩
    have HRL := Lib.hid hRL
    rw [hRL]
    clear hRL
    refine rest_forced 1 (by kernel_rfl) ?_
    simp only [List.drop_succ_cons, List.drop_zero, List.take_succ_cons, List.take_zero]
    go_wp2_with fail
    refine rest_done (by kernel_rfl) ?_
    have HO7 : Hid ((w'.setCell ⟨g, i + 1, none⟩ (.string (bS RL))).ownsRow base 9 1 (.slice (some ⟨g, 0, none⟩) (R + 1) co) (R + 1) ((cardL H R (tableAt p (m.rows.take (k + 1)))).map strV)) := Lib.hid (by
      have h := own_set HO6.out (i + 1) (.string (bS RL))
      rw [HT.out, ← table_hit HTB.out hiR HRD.out, List.map_set, HRL.out]
      exact h)
    have B7 := Lib.hid (B6.out.setCell (p := ⟨g, i + 1, none⟩) HGB.out.2 (.string (bS RL)))
    have HB7 := Lib.hid (HB6.out.other HGB.out.1 (i + 1) (.string (bS RL)))
    have Hb7 : Hid (base ≤ (w'.setCell ⟨g, i + 1, none⟩ (.string (bS RL))).heap.size) := Lib.hid (by have := Hb6.out; simpa using this)
    clear HO6 B6 HB6 Hb6 y yf HT
    go_wp2_with fail
    go_roundw
    case rel => exact ⟨k + 1, by omega, by go_num, HO7, B7, HB7, Hb7⟩
    case measure => simp [intOf]; omega
end Go.Proofs.YtidpfggikighlaaDoor
