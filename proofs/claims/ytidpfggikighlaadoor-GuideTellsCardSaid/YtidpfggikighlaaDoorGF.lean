/- The program's Fit. -/
import Derived.Test.YtidpfggikighlaaDoorGFP
import Derived.BigQuiet
import Derived.Test.YtidpfggikighlaaDoorQt
import Derived.Outline
import Derived.Deep.CutBlock
import Derived.Deep.DeepCutAuto
import Derived.IntWalk
namespace Go.Proofs.YtidpfggikighlaaDoor
open Go Go.RowKit

theorem ret_bool {a b : Bool} (h : a = b) : Ending.returned (.bool a) = .returned (.bool b) := by rw [h]
theorem fit_no {m : Mv} (h : okHead m = false) : fitB m = false := by unfold fitB; rw [h]; rfl
theorem fit_rows {m : Mv} (h : okHead m = true) : fitB m = fitRows m.tab m.rou m.set [] m.rows := by unfold fitB; rw [h]; rfl
theorem okHead_cases (m : Mv) : (okHead m = true ∧ 1 ≤ m.tab ∧ m.tab ≤ 24 ∧ 1 ≤ m.rou ∧ m.rou ≤ 47 ∧ (m.rows.length : Int) ≤ m.tab * m.rou) ∨ (okHead m = false ∧ (m.tab < 1 ∨ (1 ≤ m.tab ∧ 24 < m.tab) ∨ (1 ≤ m.tab ∧ m.tab ≤ 24 ∧ m.rou < 1) ∨ (1 ≤ m.tab ∧ m.tab ≤ 24 ∧ 1 ≤ m.rou ∧ 47 < m.rou) ∨ (1 ≤ m.tab ∧ m.tab ≤ 24 ∧ 1 ≤ m.rou ∧ m.rou ≤ 47 ∧ m.tab * m.rou < (m.rows.length : Int)))) := by
  rcases h : okHead m with _ | _
  · right
    refine ⟨rfl, ?_⟩
    unfold okHead at h
    have h := of_decide_eq_false h
    generalize m.tab * m.rou = P at *
    omega
  · left
    exact ⟨rfl, of_decide_eq_true h⟩
theorem prod_bd {a b : Int} (h1 : 1 ≤ a) (h2 : a ≤ 24) (h3 : 1 ≤ b) (h4 : b ≤ 47) : 0 ≤ a * b ∧ a * b ≤ 1128 := by
  constructor
  · exact Int.mul_nonneg (by omega) (by omega)
  · have : a * b ≤ 24 * 47 := Int.mul_le_mul h2 h4 (by omega) (by omega)
    omega
theorem wrap_in {n : Int} (h : -9223372036854775808 ≤ n ∧ n ≤ 9223372036854775807) : wrap64 n = n := by
  unfold wrap64; omega
theorem below1b {w W : World} (h : Below w.heap.size w W) (o : Obj) : Below w.heap.size w (W.alloc o) := Below.alloc h h.size o
theorem uc_zero : UC Tryd.zeroCells84 [] := by
  have h : Tryd.zeroCells84 = Array.replicate 1128 (.bool false) := by kernel_rfl
  intro r t hr ht
  rw [h, show usedB [] (r : Int) (t : Int) = false by unfold usedB; rfl, Array.getElem?_eq_getElem (by simp; omega)]
  simp
theorem sc_zero : SC Tryd.zeroCells86 (seatB []) := by
  have h : Tryd.zeroCells86 = Array.replicate 2350 (.bool false) := by kernel_rfl
  intro r t hr _ ht
  rw [h, show seatB [] (r : Int) (t : Int) = false by unfold seatB; rfl, Array.getElem?_eq_getElem (by simp; omega)]
  simp
theorem bad8_cases (T R S : Int) (l : List Rw) (r : Rw) : (bad8 T R S l r = true ∧ (r.rd < 0 ∨ (0 ≤ r.rd ∧ R ≤ r.rd) ∨ (0 ≤ r.rd ∧ r.rd < R ∧ r.tb < 0) ∨ (0 ≤ r.rd ∧ r.rd < R ∧ 0 ≤ r.tb ∧ T ≤ r.tb) ∨ (0 ≤ r.rd ∧ r.rd < R ∧ 0 ≤ r.tb ∧ r.tb < T ∧ r.st < 0) ∨ (0 ≤ r.rd ∧ r.rd < R ∧ 0 ≤ r.tb ∧ r.tb < T ∧ 0 ≤ r.st ∧ S ≤ r.st))) ∨ ((0 ≤ r.rd ∧ r.rd < R ∧ 0 ≤ r.tb ∧ r.tb < T ∧ 0 ≤ r.st ∧ r.st < S) ∧ bad8 T R S l r = usedB l r.rd r.tb) := by
  unfold bad8
  by_cases c1 : r.rd < 0
  · exact .inl ⟨by simp [c1], by omega⟩
  by_cases c2 : R ≤ r.rd
  · exact .inl ⟨by simp [c2], by omega⟩
  by_cases c3 : r.tb < 0
  · exact .inl ⟨by simp [c3], by omega⟩
  by_cases c4 : T ≤ r.tb
  · exact .inl ⟨by simp [c4], by omega⟩
  by_cases c5 : r.st < 0
  · exact .inl ⟨by simp [c5], by omega⟩
  by_cases c6 : S ≤ r.st
  · exact .inl ⟨by simp [c6], by omega⟩
  exact .inr ⟨by omega, by simp [c1, c2, c3, c4, c5, c6]⟩
set_option maxRecDepth 100000 in
set_option maxHeartbeats 8000000 in
theorem fit_any (m : Mv) (rv : Value) (w : World) (h : MV w m rv) : Calls Tryd.prog 33 #[.agg #[.int .i64 m.tab, .int .i64 m.rou, .int .i64 m.set, .int .i64 m.cop, .int .i64 m.win, rv]] w (fun e w' => e = .returned (.bool (fitB m)) ∧ Below w.heap.size w w') := by
  have HM := Lib.hid h
  obtain ⟨A, cap, rfl⟩ := h.rows.len
  obtain ⟨N, hN⟩ : ∃ N, m.rows.length = N := ⟨_, rfl⟩
  have HN := Lib.hid hN
  have hc := okHead_cases m
  rw [hN] at hc ⊢
  clear h hN
  rcases hc with ⟨hd, h1, h2, h3, h4, h5⟩ | ⟨hd, hc⟩
  case inr =>
    have HF := Lib.hid (fit_no hd)
    clear hd
    rcases hc with h1 | ⟨h1, h2⟩ | ⟨h1, h2, h3⟩ | ⟨h1, h2, h3, h4⟩ | ⟨h1, h2, h3, h4, h5⟩
    · have d0 : decide (m.tab < 1) = true := decide_eq_true (by omega)
      go_enter Tryd.func33, Tryd.ntmps33
      go_wp2
      go_ret
      exact ⟨ret_bool HF.out.symm, below1 _ _⟩
    · have d0 : decide (m.tab < 1) = false := decide_eq_false (by omega)
      have d1 : decide (24 < m.tab) = true := decide_eq_true (by omega)
      go_enter Tryd.func33, Tryd.ntmps33
      go_wp2
      go_ret
      exact ⟨ret_bool HF.out.symm, below1 _ _⟩
    · have d0 : decide (m.tab < 1) = false := decide_eq_false (by omega)
      have d1 : decide (24 < m.tab) = false := decide_eq_false (by omega)
      have d2 : decide (m.rou < 1) = true := decide_eq_true (by omega)
      go_enter Tryd.func33, Tryd.ntmps33
      go_wp2
      go_ret
      exact ⟨ret_bool HF.out.symm, below1 _ _⟩
    · have d0 : decide (m.tab < 1) = false := decide_eq_false (by omega)
      have d1 : decide (24 < m.tab) = false := decide_eq_false (by omega)
      have d2 : decide (m.rou < 1) = false := decide_eq_false (by omega)
      have d3 : decide (47 < m.rou) = true := decide_eq_true (by omega)
      go_enter Tryd.func33, Tryd.ntmps33
      go_wp2
      go_ret
      exact ⟨ret_bool HF.out.symm, below1 _ _⟩
    · obtain ⟨p0, p1⟩ := prod_bd h1 h2 h3 h4
      obtain ⟨P, hP⟩ : ∃ P, m.tab * m.rou = P := ⟨_, rfl⟩
      rw [hP] at h5 p0 p1
      have hw : wrap64 (m.tab * m.rou) = P := by rw [hP]; exact wrap_in (by omega)
      have d0 : decide (m.tab < 1) = false := decide_eq_false (by omega)
      have d1 : decide (24 < m.tab) = false := decide_eq_false (by omega)
      have d2 : decide (m.rou < 1) = false := decide_eq_false (by omega)
      have d3 : decide (47 < m.rou) = false := decide_eq_false (by omega)
      have d4 : decide (P < (N : Int)) = true := decide_eq_true h5
      clear hP
      go_enter Tryd.func33, Tryd.ntmps33
      go_wp2
      go_ret
      exact ⟨ret_bool HF.out.symm, below1 _ _⟩
  case inl =>
    have HF := Lib.hid (fit_rows hd)
    obtain ⟨p0, p1⟩ := prod_bd h1 h2 h3 h4
    obtain ⟨P, hP⟩ : ∃ P, m.tab * m.rou = P := ⟨_, rfl⟩
    rw [hP] at h5 p0 p1
    have hw : wrap64 (m.tab * m.rou) = P := by rw [hP]; exact wrap_in (by omega)
    have d0 : decide (m.tab < 1) = false := decide_eq_false (by omega)
    have d1 : decide (24 < m.tab) = false := decide_eq_false (by omega)
    have d2 : decide (m.rou < 1) = false := decide_eq_false (by omega)
    have d3 : decide (47 < m.rou) = false := decide_eq_false (by omega)
    have d4 : decide (P < (N : Int)) = false := decide_eq_false (by omega)
    clear hP hd
    go_enter Tryd.func33, Tryd.ntmps33
    go_upto_block 0 with fail
    have hb0 := Blk.new w 24 #[.int .i64 m.tab, .int .i64 m.rou, .int .i64 m.set, .int .i64 m.cop, .int .i64 m.win, .slice A N cap]
    have hb1 := Blk.new (w.alloc (.cells #[.int .i64 m.tab, .int .i64 m.rou, .int .i64 m.set, .int .i64 m.cop, .int .i64 m.win, .slice A N cap] 24)) 84 Tryd.zeroCells84
    have hb2 := Blk.new ((w.alloc (.cells #[.int .i64 m.tab, .int .i64 m.rou, .int .i64 m.set, .int .i64 m.cop, .int .i64 m.win, .slice A N cap] 24)).alloc (.cells Tryd.zeroCells84 84)) 86 Tryd.zeroCells86
    have HB := Lib.hid ((hb0.alloc (.cells Tryd.zeroCells84 84)).alloc (.cells Tryd.zeroCells86 86))
    have HU := Lib.hid (hb1.alloc (.cells Tryd.zeroCells86 86))
    have HS := Lib.hid hb2
    have BW := Lib.hid (below1b (below1b (below1 w (.cells #[.int .i64 m.tab, .int .i64 m.rou, .int .i64 m.set, .int .i64 m.cop, .int .i64 m.win, .slice A N cap] 24)) (.cells Tryd.zeroCells84 84)) (.cells Tryd.zeroCells86 86))
    rw [size_al, size_al] at HS
    rw [size_al] at HU
    clear hb0 hb1 hb2
    generalize ((w.alloc (.cells #[.int .i64 m.tab, .int .i64 m.rou, .int .i64 m.set, .int .i64 m.cop, .int .i64 m.win, .slice A N cap] 24)).alloc (.cells Tryd.zeroCells84 84)).alloc (.cells Tryd.zeroCells86 86) = W1 at *
    obtain ⟨mb, hmb⟩ : ∃ mb, w.heap.size = mb := ⟨_, rfl⟩
    obtain ⟨ub, hub⟩ : ∃ ub, mb + 1 = ub := ⟨_, rfl⟩
    obtain ⟨sb, hsb⟩ : ∃ sb, ub + 1 = sb := ⟨_, rfl⟩
    have HMB := Lib.hid hmb
    rw [hmb, hub, hsb] at HS
    rw [hmb, hub] at HU
    rw [hmb] at HB
    rw [hmb, hub, hsb]
    have hlo : mb < ub ∧ ub < sb := by omega
    have HLO := Lib.hid hlo
    have hNb : N ≤ 1128 := by omega
    clear hw p0 p1 h5 d0 d1 d2 d3 d4 hmb hub hsb hlo
    go_wp2_with fail
    go_loopw [41] (fun s41 wr => ∃ k cu cs, k ≤ N ∧ s41 = .int .i64 (k : Nat) ∧ Hid (∀ i s, i < k → m.rows[i]? = some s → okAt m.tab m.rou m.set (m.rows.take i) s = true) ∧ Hid (Below w.heap.size w wr) ∧ Hid (Blk wr mb 24 #[.int .i64 m.tab, .int .i64 m.rou, .int .i64 m.set, .int .i64 m.cop, .int .i64 m.win, .slice A N cap]) ∧ Hid (Blk wr ub 84 cu) ∧ Hid (Blk wr sb 86 cs) ∧ Hid (UC cu (m.rows.take k)) ∧ Hid (SC cs (seatB (m.rows.take k)))) (fun s41 _ => N - (intOf s41).toNat)
    case atStart => exact ⟨0, _, _, Nat.zero_le _, rfl, Lib.hid (fun i s hi => absurd hi (by omega)), BW, HB, HU, HS, Lib.hid uc_zero, Lib.hid sc_zero⟩
    case round =>
      obtain ⟨k, cu, cs, hk, rfl, HO, BWr, HBr, HUr, HSr, UCr, SCr⟩ := hrel
      clear HB BW HU HS
      obtain ⟨wo, rfl⟩ : ∃ wo : World, wo = wr := ⟨_, rfl⟩
      have x5 := HBr.out.cell (j := 5) (v := .slice A N cap) rfl
      by_cases hlt : k < N
      · have u1 : decide ((k : Int) < (N : Int)) = true := decide_eq_true (by omega)
        obtain ⟨r, hr⟩ : ∃ r, m.rows[k]? = some r := ⟨_, List.getElem?_eq_getElem (by rw [HN.out]; exact hlt)⟩
        obtain ⟨b, o, rfl, c0, c1, c2, c3, c4⟩ := (HM.out.rows.keep BWr.out).at hr
        have HR := Lib.hid hr
        have HT : Hid (m.rows.take (k + 1) = m.rows.take k ++ [r]) := Lib.hid (take_more hr)
        clear hr
        go_upto_region 8 with fail
        have HRw := Lib.hid (Blk.new wo 45 #[.int .i64 r.rd, .int .i64 r.tb, .int .i64 r.ns, .int .i64 r.ew, .int .i64 r.st])
        have HB1 := Lib.hid (HBr.out.alloc (.cells #[.int .i64 r.rd, .int .i64 r.tb, .int .i64 r.ns, .int .i64 r.ew, .int .i64 r.st] 45))
        have HU1 := Lib.hid (HUr.out.alloc (.cells #[.int .i64 r.rd, .int .i64 r.tb, .int .i64 r.ns, .int .i64 r.ew, .int .i64 r.st] 45))
        have HS1 := Lib.hid (HSr.out.alloc (.cells #[.int .i64 r.rd, .int .i64 r.tb, .int .i64 r.ns, .int .i64 r.ew, .int .i64 r.st] 45))
        have BW1 := Lib.hid (below1b BWr.out (.cells #[.int .i64 r.rd, .int .i64 r.tb, .int .i64 r.ns, .int .i64 r.ew, .int .i64 r.st] 45))
        clear c0 c1 c2 c3 c4 x5 BWr HBr HUr
        have hslt := HSr.out.lt
        generalize wo.alloc (.cells #[.int .i64 r.rd, .int .i64 r.tb, .int .i64 r.ns, .int .i64 r.ew, .int .i64 r.st] 45) = wa at *
        obtain ⟨rb, hrb⟩ : ∃ rb, wo.heap.size = rb := ⟨_, rfl⟩
        rw [hrb] at HRw hslt ⊢
        have HRB := Lib.hid hslt
        clear hrb HSr hslt
        have x0 := HB1.out.cell (j := 0) (v := .int .i64 m.tab) rfl
        have x1 := HB1.out.cell (j := 1) (v := .int .i64 m.rou) rfl
        have x2 := HB1.out.cell (j := 2) (v := .int .i64 m.set) rfl
        have c0 := HRw.out.cell (j := 0) (v := .int .i64 r.rd) rfl
        have c1 := HRw.out.cell (j := 1) (v := .int .i64 r.tb) rfl
        have c2 := HRw.out.cell (j := 2) (v := .int .i64 r.ns) rfl
        have c3 := HRw.out.cell (j := 3) (v := .int .i64 r.ew) rfl
        have c4 := HRw.out.cell (j := 4) (v := .int .i64 r.st) rfl
        go_cut [87] (fun s87 wx => s87 = .bool (bad8 m.tab m.rou m.set (m.rows.take k) r) ∧ ∃ n, wx = wa.drewN n)
        case first =>
          rcases bad8_cases m.tab m.rou m.set (m.rows.take k) r with ⟨hb8, hc⟩ | ⟨hin, hb8⟩
          · have B8 := Lib.hid hb8
            clear hb8
            rcases hc with q1 | ⟨q1, q2⟩ | ⟨q1, q2, q3⟩ | ⟨q1, q2, q3, q4⟩ | ⟨q1, q2, q3, q4, q5⟩ | ⟨q1, q2, q3, q4, q5, q6⟩
            · have d0 : decide (r.rd < 0) = true := decide_eq_true (by omega)
              go_quiet (fail)
              go_wp2_with fail
              go_meet
              exact ⟨by rw [B8.out], _, rfl⟩
            · have d0 : decide (r.rd < 0) = false := decide_eq_false (by omega)
              have d1 : decide (m.rou ≤ r.rd) = true := decide_eq_true (by omega)
              go_quiet (fail)
              go_wp2_with fail
              go_meet
              exact ⟨by rw [B8.out], _, rfl⟩
            · have d0 : decide (r.rd < 0) = false := decide_eq_false (by omega)
              have d1 : decide (m.rou ≤ r.rd) = false := decide_eq_false (by omega)
              have d2 : decide (r.tb < 0) = true := decide_eq_true (by omega)
              go_quiet (fail)
              go_wp2_with fail
              go_meet
              exact ⟨by rw [B8.out], _, rfl⟩
            · have d0 : decide (r.rd < 0) = false := decide_eq_false (by omega)
              have d1 : decide (m.rou ≤ r.rd) = false := decide_eq_false (by omega)
              have d2 : decide (r.tb < 0) = false := decide_eq_false (by omega)
              have d3 : decide (m.tab ≤ r.tb) = true := decide_eq_true (by omega)
              go_quiet (fail)
              go_wp2_with fail
              go_meet
              exact ⟨by rw [B8.out], _, rfl⟩
            · have d0 : decide (r.rd < 0) = false := decide_eq_false (by omega)
              have d1 : decide (m.rou ≤ r.rd) = false := decide_eq_false (by omega)
              have d2 : decide (r.tb < 0) = false := decide_eq_false (by omega)
              have d3 : decide (m.tab ≤ r.tb) = false := decide_eq_false (by omega)
              have d4 : decide (r.st < 0) = true := decide_eq_true (by omega)
              go_quiet (fail)
              go_wp2_with fail
              go_meet
              exact ⟨by rw [B8.out], _, rfl⟩
            · have d0 : decide (r.rd < 0) = false := decide_eq_false (by omega)
              have d1 : decide (m.rou ≤ r.rd) = false := decide_eq_false (by omega)
              have d2 : decide (r.tb < 0) = false := decide_eq_false (by omega)
              have d3 : decide (m.tab ≤ r.tb) = false := decide_eq_false (by omega)
              have d4 : decide (r.st < 0) = false := decide_eq_false (by omega)
              have d5 : decide (m.set ≤ r.st) = true := decide_eq_true (by omega)
              go_quiet (fail)
              go_wp2_with fail
              go_meet
              exact ⟨by rw [B8.out], _, rfl⟩
          · have B8 := Lib.hid hb8
            obtain ⟨q1, q2, q3, q4, q5, q6⟩ := hin
            · clear hb8
              obtain ⟨R, hR⟩ : ∃ R : Nat, r.rd = R := ⟨r.rd.toNat, by omega⟩
              obtain ⟨T, hT⟩ : ∃ T : Nat, r.tb = T := ⟨r.tb.toNat, by omega⟩
              have d0 : decide (r.rd < 0) = false := decide_eq_false (by omega)
              have d1 : decide (m.rou ≤ r.rd) = false := decide_eq_false (by omega)
              have d2 : decide (r.tb < 0) = false := decide_eq_false (by omega)
              have d3 : decide (m.tab ≤ r.tb) = false := decide_eq_false (by omega)
              have d4 : decide (r.st < 0) = false := decide_eq_false (by omega)
              have d5 : decide (m.set ≤ r.st) = false := decide_eq_false (by omega)
              have hu := UCr.out R T (by omega) (by omega)
              have y := HU1.out.cell hu
              have z1 : (R : Int) < 47 := by omega
              have z2 : (T : Int) < 24 := by omega
              have z3 : (0 : Int) ≤ (R : Int) := by omega
              have z4 : (0 : Int) ≤ (T : Int) := by omega
              have z5 : R < 47 := by omega
              have z6 : T < 24 := by omega
              rw [hR] at c0 d0 d1 B8
              rw [hT] at c1 d2 d3 B8
              clear q1 q2 q3 q4 q5 q6 hu hR hT
              go_quiet (fail)
              go_wp2_with fail
              go_meet
              exact ⟨by rw [B8.out], _, rfl⟩
        case rest =>
          obtain ⟨rfl, nq, rfl⟩ := hcut
          have HB2 := Lib.hid (HB1.out.drewN nq)
          have HU2 := Lib.hid (HU1.out.drewN nq)
          have HS2 := Lib.hid (HS1.out.drewN nq)
          have HRw2 := Lib.hid (HRw.out.drewN nq)
          have BW2 := Lib.hid (below_drewN BW1.out nq)
          clear x0 x1 x2 c0 c1 c2 c3 c4 HB1 HU1 HS1 HRw BW1
          generalize wa.drewN nq = wb at *
          clear wa
          rcases hb8 : bad8 m.tab m.rou m.set (m.rows.take k) r with _ | _
          case true =>
            have HX := Lib.hid (HF.out.trans (fitRows_false _ _ _ _ _ _ HR.out HO.out (okAt_bad8 hb8)))
            clear hb8
            go_wp2_with fail
            go_ret
            exact ⟨ret_bool HX.out.symm, BW2.out⟩
          have H8 := Lib.hid hb8
          have hin := bad8_in hb8 h4 h2
          clear hb8
          obtain ⟨R, T, hR, hT, z1, z2⟩ := hin
          have HRT := Lib.hid (And.intro hR hT)
          have z3 : (R : Int) < 47 := by omega
          have z4 : (T : Int) < 24 := by omega
          have z5 : (0 : Int) ≤ (R : Int) := by omega
          have z6 : (0 : Int) ≤ (T : Int) := by omega
          have c0 := HRw2.out.cell (j := 0) (v := .int .i64 (R : Int)) (by rw [hR]; rfl)
          have c1 := HRw2.out.cell (j := 1) (v := .int .i64 (T : Int)) (by rw [hT]; rfl)
          have hu := UCr.out R T z1 z2
          have y := HU2.out.cell hu
          have yf := HU2.out.free (R * 24 + T)
          clear hu hR hT
          go_upto_region 10 with fail
          refine region_drew_tail 6 (by kernel_rfl) (by kernel_rfl) ?_
          simp only [List.take_succ_cons, List.take_zero, List.drop_succ_cons, List.drop_zero]
          repeat (quiet_step ((fail)))
          refine wpQuiet_nil ?_
          rintro w' ⟨nq, rfl⟩
          go_upto_region 11 with fail
          have ne1 : mb ≠ ub := by have := HLO.out; omega
          have ne2 : sb ≠ ub := by have := HLO.out; omega
          have ne3 : rb ≠ ub := by have := HLO.out; have := HRB.out; omega
          have ne4 : mb ≠ sb := by have := HLO.out; omega
          have ne5 : ub ≠ sb := by have := HLO.out; omega
          have ne6 : rb ≠ sb := by have := HLO.out; have := HRB.out; omega
          have NE := Lib.hid (And.intro ne4 (And.intro ne5 ne6))
          have HB3 := Lib.hid ((HB2.out.other ne1 (R * 24 + T) (.bool true)).drewN nq)
          have HU3 := Lib.hid ((HU2.out.set (R * 24 + T) (.bool true)).drewN nq)
          have HS3 := Lib.hid ((HS2.out.other ne2 (R * 24 + T) (.bool true)).drewN nq)
          have HRw3 := Lib.hid ((HRw2.out.other ne3 (R * 24 + T) (.bool true)).drewN nq)
          have BW3 := Lib.hid (below_drewN (BW2.out.setCell (p := ⟨ub, R * 24 + T, none⟩) (show w.heap.size ≤ ub by have := HLO.out; have := HMB.out; omega) (.bool true)) nq)
          have UC3 := Lib.hid (UCr.out.set r R T HRT.out.1 HRT.out.2 z1 z2)
          clear c0 c1 y yf HB2 HU2 HS2 HRw2 BW2 UCr z2 z4 z6 ne1 ne2 ne3 ne4 ne5 ne6
          generalize (wb.setCell ⟨ub, R * 24 + T, none⟩ (.bool true)).drewN nq = wd at *
          clear wb
          have hs0 : SC cs (fj (m.rows.take k) r 0) := by rw [fj_zero]; exact SCr.out
          have SC0 := Lib.hid hs0
          clear hs0 SCr
          have c2 := HRw3.out.cell (j := 2) (v := .int .i64 r.ns) rfl
          have c3 := HRw3.out.cell (j := 3) (v := .int .i64 r.ew) rfl
          go_wp2_with fail
          clear c2 c3
          go_loopw [99] (fun s99 wr => ∃ j cs', j ≤ 2 ∧ s99 = .int .i64 ((j : Nat) : Int) ∧ Hid (∀ i, i < j → badP (m.rows.take k) r.rd (pj r i) (xj r i) = false) ∧ Hid (Below w.heap.size w wr) ∧ Hid (Blk wr mb 24 #[.int .i64 m.tab, .int .i64 m.rou, .int .i64 m.set, .int .i64 m.cop, .int .i64 m.win, .slice (some ⟨b, o, none⟩) N cap]) ∧ Hid (Blk wr ub 84 (cu.setIfInBounds (R * 24 + T) (.bool true))) ∧ Hid (Blk wr sb 86 cs') ∧ Hid (Blk wr rb 45 #[.int .i64 r.rd, .int .i64 r.tb, .int .i64 r.ns, .int .i64 r.ew, .int .i64 r.st]) ∧ Hid (SC cs' (fj (m.rows.take k) r j))) (fun s99 _ => 2 - (intOf s99).toNat)
          case atStart => exact ⟨0, _, by omega, rfl, Lib.hid (fun i hi => absurd hi (by omega)), BW3, HB3, HU3, HS3, HRw3, SC0⟩
          case round =>
            obtain ⟨j, cs', hj, rfl, JO, BWj, HBj, HUj, HSj, HRj, SCj⟩ := hrel
            clear HB3 HU3 HS3 HRw3 BW3 SC0
            obtain ⟨we, rfl⟩ : ∃ we : World, we = wr := ⟨_, rfl⟩
            by_cases hjl : j < 2
            · have v1 : decide ((j : Int) < 2) = true := decide_eq_true (by omega)
              have ix : ∀ W, (Instr.index 87 (.agg #[.int .i64 r.ns, .int .i64 r.ew]) (.int .i64 (j : Int))).run Tryd.prog W = .ok (.int .i64 (pj r j)) W := fun W => by
                unfold pj
                match j, hjl with
                | 0, _ => rfl
                | 1, _ => rfl
              have c0 := HRj.out.cell (j := 0) (v := .int .i64 (R : Int)) (by rw [HRT.out.1]; rfl)
              obtain ⟨p, hp⟩ : ∃ p, pj r j = p := ⟨_, rfl⟩
              have hbc := badP_cases (m.rows.take k) r.rd (pj r j) (xj r j)
              have hfa := fj_at (m.rows.take k) r j hjl
              rw [hp] at ix hbc hfa
              obtain ⟨X, hX⟩ : ∃ X, badP (m.rows.take k) r.rd p (xj r j) = X := ⟨_, rfl⟩
              have HXb := Lib.hid hX
              have HP := Lib.hid hp
              rw [hX] at hbc
              clear hX hp
              go_upto_region 14 with fail
              go_cut [119] (fun s119 wx => s119 = .bool X ∧ wx = we)
              case first =>
                rcases hbc with ⟨rfl, g1⟩ | ⟨rfl, g1, g2⟩ | ⟨rfl, rfl⟩ | ⟨hx, g1, g2⟩
                · have b0 : decide (p < 0) = true := decide_eq_true g1
                  go_wp2_with fail
                  go_meet
                  exact ⟨rfl, rfl⟩
                · have b0 : decide (p < 0) = false := decide_eq_false (by omega)
                  have b1 : decide (49 < p) = true := decide_eq_true (by omega)
                  go_wp2_with fail
                  go_meet
                  exact ⟨rfl, rfl⟩
                · go_wp2_with fail
                  go_meet
                  exact ⟨rfl, rfl⟩
                · have b0 : decide (p < 0) = false := decide_eq_false (by omega)
                  have b1 : decide (49 < p) = false := decide_eq_false (by omega)
                  have b2 : decide (0 < p) = true := decide_eq_true (by omega)
                  obtain ⟨P, rfl⟩ : ∃ P : Nat, p = P := ⟨p.toNat, by omega⟩
                  have z7 : P < 50 := by omega
                  have z8 : (P : Int) < 50 := by omega
                  have b3 : decide (0 < P) = true := decide_eq_true (by omega)
                  have b4 : decide (49 < P) = false := decide_eq_false (by omega)
                  have hsc := SCj.out R P z1 (by omega) z7
                  rw [← HRT.out.1, hfa, ← hx] at hsc
                  have y := HSj.out.cell hsc
                  clear hsc hfa hx g1 g2
                  go_wp2_with fail
                  go_meet
                  exact ⟨rfl, rfl⟩
              case rest =>
                obtain ⟨rfl, rfl⟩ := hcut
                clear hbc hfa ix
                cases X with
                | true =>
                  have HX := Lib.hid (HF.out.trans (fitRows_false _ _ _ _ _ _ HR.out HO.out (okAt_badP hjl (by rw [HP.out]; exact HXb.out))))
                  go_wp2_with fail
                  go_ret
                  exact ⟨ret_bool HX.out.symm, BWj.out⟩
                | false =>
                  have hin := badP_no HXb.out
                  obtain ⟨P, rfl⟩ : ∃ P : Nat, p = P := ⟨p.toNat, by omega⟩
                  have z7 : P < 50 := by omega
                  have z8 : (P : Int) < 50 := by omega
                  have HP7 := Lib.hid z7
                  have yf := HSj.out.free (R * 50 + P)
                  have hsz : ∃ v, cs'[R * 50 + P]? = some v := by
                    have := SCj.out 46 49 (by omega) (by omega) (by omega)
                    have := (Array.getElem?_eq_some_iff.1 this).1
                    have hlt : R * 50 + P < cs'.size := by omega
                    exact ⟨_, Array.getElem?_eq_getElem hlt⟩
                  obtain ⟨v, hv⟩ := hsz
                  have y := HSj.out.cell hv
                  clear hin hv
                  go_wp2_with fail
                  have SCn : Hid (SC (cs'.setIfInBounds (R * 50 + P) (.bool true)) (fj (m.rows.take k) r (j + 1))) := Lib.hid (SCj.out.set R P z1 HP7.out _ (fj_next _ _ _ _ _ hjl HRT.out.1 HP.out))
                  have JOn : Hid (∀ i, i < j + 1 → badP (m.rows.take k) r.rd (pj r i) (xj r i) = false) := Lib.hid (fun i hi => by
                    rcases Nat.lt_or_ge i j with h | h
                    · exact JO.out i h
                    · obtain rfl : i = j := by omega
                      rw [HP.out]; exact HXb.out)
                  have HBn := Lib.hid (HBj.out.other NE.out.1 (R * 50 + P) (.bool true))
                  have HUn := Lib.hid (HUj.out.other NE.out.2.1 (R * 50 + P) (.bool true))
                  have HSn := Lib.hid (HSj.out.set (R * 50 + P) (.bool true))
                  have HRn := Lib.hid (HRj.out.other NE.out.2.2 (R * 50 + P) (.bool true))
                  have hws : w.heap.size ≤ sb := by have := HLO.out; have := HMB.out; omega
                  have BWn := Lib.hid (BWj.out.setCell (p := ⟨sb, R * 50 + P, none⟩) hws (.bool true))
                  go_roundw
                  case rel => exact ⟨j + 1, _, by omega, by go_num, JOn, BWn, HBn, HUn, HSn, HRn, SCn⟩
                  case measure => simp [intOf]; omega
            · obtain rfl : j = 2 := by omega
              rw [show ((2 : Nat) : Int) = 2 from rfl]
              have HOn : Hid (∀ i s, i < k + 1 → m.rows[i]? = some s → okAt m.tab m.rou m.set (m.rows.take i) s = true) := Lib.hid (fun i s hi hs => by
                rcases Nat.lt_or_ge i k with h | h
                · exact HO.out i s h hs
                · obtain rfl : i = k := by omega
                  rw [HR.out] at hs
                  obtain rfl := Option.some.inj hs
                  exact okAt_all H8.out JO.out)
              have UCn : Hid (UC (cu.setIfInBounds (R * 24 + T) (.bool true)) (m.rows.take (k + 1))) := Lib.hid (by rw [HT.out]; exact UC3.out)
              have SCn : Hid (SC cs' (seatB (m.rows.take (k + 1)))) := Lib.hid (by rw [HT.out, ← fj_two]; exact SCj.out)
              clear JO UC3 SCj
              go_wp2_with fail
              go_roundw
              case rel => exact ⟨k + 1, _, _, by omega, by go_num, HOn, BWj, HBj, HUj, HSj, UCn, SCn⟩
              case measure => simp [intOf]; omega
      · obtain rfl : k = N := by omega
        have HX : Hid (fitB m = true) := Lib.hid (HF.out.trans (fitRows_true _ _ _ _ (fun i s hi => HO.out i s (by rw [← HN.out]; exact (List.getElem?_eq_some_iff.1 hi).1) hi)))
        have u1 : decide ((k : Int) < (k : Int)) = false := decide_eq_false (by omega)
        go_wp2
        go_ret
        exact ⟨ret_bool HX.out.symm, BWr.out⟩
end Go.Proofs.YtidpfggikighlaaDoor
