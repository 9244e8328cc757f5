/- The reference's has and Fit. -/
import Derived.Test.YtidpfggikighlaaDoorGF
import Derived.BigQuiet
import Derived.Test.YtidpfggikighlaaDoorPq
import Derived.Outline
import Derived.Deep.DeepCutAuto
import Derived.IntWalk
namespace Go.Proofs.YtidpfggikighlaaDoor
open Go Go.RowKit

def hasB (r : Rw) (p : Int) : Bool := decide (r.ns = p ∨ r.ew = p)
theorem hasB_t {r : Rw} {p : Int} (h : r.ns = p ∨ r.ew = p) : hasB r p = true := decide_eq_true h
theorem hasB_f {r : Rw} {p : Int} (h : ¬ (r.ns = p ∨ r.ew = p)) : hasB r p = false := decide_eq_false h
theorem hasB_iff {r : Rw} {p : Int} : hasB r p = true ↔ (r.ns = p ∨ r.ew = p) := decide_eq_true_iff
attribute [irreducible] hasB
set_option maxHeartbeats 1000000 in
theorem has_any (r : Rw) (p : Int) (w : World) : Calls Tryd.prog 65 #[.agg #[.int .i64 r.rd, .int .i64 r.tb, .int .i64 r.ns, .int .i64 r.ew, .int .i64 r.st], .int .i64 p] w (fun e w' => e = .returned (.bool (hasB r p)) ∧ Below w.heap.size w w') := by
  rcases hb : hasB r p with _ | _
  · have h : ¬ (r.ns = p ∨ r.ew = p) := fun h => by rw [hasB_t h] at hb; cases hb
    have e1 : (r.ns == p) = false := by grind
    have e2 : (r.ew == p) = false := by grind
    clear h hb
    go_enter Tryd.func65, Tryd.ntmps65
    go_wp2
    go_ret
    exact ⟨rfl, below1 _ _⟩
  · have h := hasB_iff.1 hb
    clear hb
    by_cases h1 : r.ns = p
    · have e1 : (r.ns == p) = true := by grind
      clear h h1
      go_enter Tryd.func65, Tryd.ntmps65
      go_wp2
      go_ret
      exact ⟨rfl, below1 _ _⟩
    · have e1 : (r.ns == p) = false := by grind
      have e2 : (r.ew == p) = true := by grind
      clear h h1
      go_enter Tryd.func65, Tryd.ntmps65
      go_wp2
      go_ret
      exact ⟨rfl, below1 _ _⟩
theorem okIn_cases (T R S : Int) (r : Rw) : okIn T R S r = true ∨ (okIn T R S r = false ∧ (r.rd < 0 ∨ (0 ≤ r.rd ∧ R ≤ r.rd) ∨ (0 ≤ r.rd ∧ r.rd < R ∧ r.tb < 0) ∨ (0 ≤ r.rd ∧ r.rd < R ∧ 0 ≤ r.tb ∧ T ≤ r.tb) ∨ (0 ≤ r.rd ∧ r.rd < R ∧ 0 ≤ r.tb ∧ r.tb < T ∧ r.st < 0) ∨ (0 ≤ r.rd ∧ r.rd < R ∧ 0 ≤ r.tb ∧ r.tb < T ∧ 0 ≤ r.st ∧ S ≤ r.st)
    ∨ (0 ≤ r.rd ∧ r.rd < R ∧ 0 ≤ r.tb ∧ r.tb < T ∧ 0 ≤ r.st ∧ r.st < S ∧ r.ns < 0) ∨ (0 ≤ r.rd ∧ r.rd < R ∧ 0 ≤ r.tb ∧ r.tb < T ∧ 0 ≤ r.st ∧ r.st < S ∧ 0 ≤ r.ns ∧ 49 < r.ns) ∨ (0 ≤ r.rd ∧ r.rd < R ∧ 0 ≤ r.tb ∧ r.tb < T ∧ 0 ≤ r.st ∧ r.st < S ∧ 0 ≤ r.ns ∧ r.ns ≤ 49 ∧ r.ew < 0) ∨ (0 ≤ r.rd ∧ r.rd < R ∧ 0 ≤ r.tb ∧ r.tb < T ∧ 0 ≤ r.st ∧ r.st < S ∧ 0 ≤ r.ns ∧ r.ns ≤ 49 ∧ 0 ≤ r.ew ∧ 49 < r.ew)
    ∨ (0 ≤ r.rd ∧ r.rd < R ∧ 0 ≤ r.tb ∧ r.tb < T ∧ 0 ≤ r.st ∧ r.st < S ∧ 0 < r.ns ∧ r.ns ≤ 49 ∧ 0 ≤ r.ew ∧ r.ew ≤ 49 ∧ r.ns = r.ew))) := by
  rcases h : okIn T R S r with _ | _
  · right
    refine ⟨rfl, ?_⟩
    unfold okIn at h
    have h := of_decide_eq_false h
    by_cases c1 : r.rd < 0; · exact .inl c1
    right
    by_cases c2 : R ≤ r.rd; · exact .inl ⟨by omega, c2⟩
    right
    by_cases c3 : r.tb < 0; · exact .inl ⟨by omega, by omega, c3⟩
    right
    by_cases c4 : T ≤ r.tb; · exact .inl ⟨by omega, by omega, by omega, c4⟩
    right
    by_cases c5 : r.st < 0; · exact .inl ⟨by omega, by omega, by omega, by omega, c5⟩
    right
    by_cases c6 : S ≤ r.st; · exact .inl ⟨by omega, by omega, by omega, by omega, by omega, c6⟩
    right
    by_cases c7 : r.ns < 0; · exact .inl ⟨by omega, by omega, by omega, by omega, by omega, by omega, c7⟩
    right
    by_cases c8 : 49 < r.ns; · exact .inl ⟨by omega, by omega, by omega, by omega, by omega, by omega, by omega, c8⟩
    right
    by_cases c9 : r.ew < 0; · exact .inl ⟨by omega, by omega, by omega, by omega, by omega, by omega, by omega, by omega, c9⟩
    right
    by_cases c10 : 49 < r.ew; · exact .inl ⟨by omega, by omega, by omega, by omega, by omega, by omega, by omega, by omega, by omega, c10⟩
    right
    have c11 : ¬ (r.ns = r.ew → r.ns ≤ 0) := fun h11 => h ⟨by omega, by omega, by omega, by omega, by omega, by omega, by omega, by omega, by omega, by omega, h11⟩
    refine ⟨by omega, by omega, by omega, by omega, by omega, by omega, by omega, by omega, by omega, by omega, by omega⟩
  · exact .inl rfl
theorem okIn_of {T R S : Int} {r : Rw} (h : okIn T R S r = true) : 0 ≤ r.rd ∧ r.rd < R ∧ 0 ≤ r.tb ∧ r.tb < T ∧ 0 ≤ r.st ∧ r.st < S ∧ 0 ≤ r.ns ∧ r.ns ≤ 49 ∧ 0 ≤ r.ew ∧ r.ew ≤ 49 ∧ (r.ns = r.ew → r.ns ≤ 0) := of_decide_eq_true h
theorem okAt_in {T R S : Int} {pre : List Rw} {r : Rw} (h : okIn T R S r = false) : okAt T R S pre r = false := by unfold okAt; rw [h]; rfl
theorem okAt_clash {T R S : Int} {l : List Rw} {k j : Nat} {r s : Rw} (hs : l[j]? = some s) (hj : j < k) (h : clash s r = true) : okAt T R S (l.take k) r = false := by
  unfold okAt
  rw [Bool.and_eq_false_iff]
  right
  rw [List.all_eq_false]
  refine ⟨s, List.mem_of_getElem? (i := j) ?_, by simp [h]⟩
  rw [List.getElem?_take, if_pos hj]; exact hs
theorem okAt_mk {T R S : Int} {l : List Rw} {k : Nat} {r : Rw} (h : okIn T R S r = true) (hc : ∀ i s, i < k → l[i]? = some s → clash s r = false) : okAt T R S (l.take k) r = true := by
  unfold okAt
  rw [h, Bool.true_and, List.all_eq_true]
  intro s hs
  obtain ⟨i, hi⟩ := List.getElem?_of_mem hs
  rw [List.getElem?_take] at hi
  split at hi
  · rw [hc i s (by assumption) hi]; rfl
  · cases hi
theorem clash_iff {s r : Rw} : clash s r = true ↔ (s.rd = r.rd ∧ (s.tb = r.tb ∨ (0 < s.ns ∧ hasB r s.ns = true) ∨ (0 < s.ew ∧ hasB r s.ew = true))) := by
  unfold clash
  rw [decide_eq_true_iff, hasB_iff, hasB_iff]
theorem clash_eq (s r : Rw) : clash s r = (decide (s.rd = r.rd) && (decide (s.tb = r.tb) || (decide (0 < s.ns) && hasB r s.ns) || (decide (0 < s.ew) && hasB r s.ew))) := by
  rw [Bool.eq_iff_iff, clash_iff]
  simp only [Bool.and_eq_true, Bool.or_eq_true, decide_eq_true_eq, or_assoc]
theorem clash_not {s r : Rw} (h : ¬ (s.rd = r.rd ∧ (s.tb = r.tb ∨ (0 < s.ns ∧ hasB r s.ns = true) ∨ (0 < s.ew ∧ hasB r s.ew = true)))) : clash s r = false := by
  rcases hc : clash s r with _ | _
  · rfl
  · exact absurd (clash_iff.1 hc) h
set_option maxRecDepth 100000 in
set_option maxHeartbeats 16000000 in
theorem rfit_any (m : Mv) (rv : Value) (w : World) (h : MV w m rv) : Calls Tryd.prog 46 #[.agg #[.int .i64 m.tab, .int .i64 m.rou, .int .i64 m.set, .int .i64 m.cop, .int .i64 m.win, rv]] w (fun e w' => e = .returned (.bool (fitB m)) ∧ Below w.heap.size w w') := by
  have HM := Lib.hid h
  obtain ⟨A, cap, rfl⟩ := h.rows.len
  obtain ⟨N, hN⟩ : ∃ N, m.rows.length = N := ⟨_, rfl⟩
  have HN := Lib.hid hN
  have hc := okHead_cases m
  rw [hN] at hc ⊢
  clear h hN
  rcases hc with ⟨hd, h1, h2, h3, h4, h5⟩ | ⟨hd, hc⟩
  case inr =>
    have HF := Lib.hid (fit_no hd)
    clear hd
    rcases hc with h1 | ⟨h1, h2⟩ | ⟨h1, h2, h3⟩ | ⟨h1, h2, h3, h4⟩ | ⟨h1, h2, h3, h4, h5⟩
    · have d0 : decide (m.tab < 1) = true := decide_eq_true (by omega)
      go_enter Tryd.func46, Tryd.ntmps46
      go_wp2
      go_ret
      exact ⟨ret_bool HF.out.symm, below1 _ _⟩
    · have d0 : decide (m.tab < 1) = false := decide_eq_false (by omega)
      have d1 : decide (24 < m.tab) = true := decide_eq_true (by omega)
      go_enter Tryd.func46, Tryd.ntmps46
      go_wp2
      go_ret
      exact ⟨ret_bool HF.out.symm, below1 _ _⟩
    · have d0 : decide (m.tab < 1) = false := decide_eq_false (by omega)
      have d1 : decide (24 < m.tab) = false := decide_eq_false (by omega)
      have d2 : decide (m.rou < 1) = true := decide_eq_true (by omega)
      go_enter Tryd.func46, Tryd.ntmps46
      go_wp2
      go_ret
      exact ⟨ret_bool HF.out.symm, below1 _ _⟩
    · have d0 : decide (m.tab < 1) = false := decide_eq_false (by omega)
      have d1 : decide (24 < m.tab) = false := decide_eq_false (by omega)
      have d2 : decide (m.rou < 1) = false := decide_eq_false (by omega)
      have d3 : decide (47 < m.rou) = true := decide_eq_true (by omega)
      go_enter Tryd.func46, Tryd.ntmps46
      go_wp2
      go_ret
      exact ⟨ret_bool HF.out.symm, below1 _ _⟩
    · obtain ⟨p0, p1⟩ := prod_bd h1 h2 h3 h4
      obtain ⟨P, hP⟩ : ∃ P, m.tab * m.rou = P := ⟨_, rfl⟩
      rw [hP] at h5 p0 p1
      have hw : wrap64 (m.tab * m.rou) = P := by rw [hP]; exact wrap_in (by omega)
      have d0 : decide (m.tab < 1) = false := decide_eq_false (by omega)
      have d1 : decide (24 < m.tab) = false := decide_eq_false (by omega)
      have d2 : decide (m.rou < 1) = false := decide_eq_false (by omega)
      have d3 : decide (47 < m.rou) = false := decide_eq_false (by omega)
      have d4 : decide (P < (N : Int)) = true := decide_eq_true h5
      clear hP
      go_enter Tryd.func46, Tryd.ntmps46
      go_wp2
      go_ret
      exact ⟨ret_bool HF.out.symm, below1 _ _⟩
  case inl =>
    have HF := Lib.hid (fit_rows hd)
    obtain ⟨p0, p1⟩ := prod_bd h1 h2 h3 h4
    obtain ⟨P, hP⟩ : ∃ P, m.tab * m.rou = P := ⟨_, rfl⟩
    rw [hP] at h5 p0 p1
    have hw : wrap64 (m.tab * m.rou) = P := by rw [hP]; exact wrap_in (by omega)
    have d0 : decide (m.tab < 1) = false := decide_eq_false (by omega)
    have d1 : decide (24 < m.tab) = false := decide_eq_false (by omega)
    have d2 : decide (m.rou < 1) = false := decide_eq_false (by omega)
    have d3 : decide (47 < m.rou) = false := decide_eq_false (by omega)
    have d4 : decide (P < (N : Int)) = false := decide_eq_false (by omega)
    clear hP hd
    go_enter Tryd.func46, Tryd.ntmps46
    go_wp2_with fail
    have HB := Lib.hid (Blk.new w 24 #[.int .i64 m.tab, .int .i64 m.rou, .int .i64 m.set, .int .i64 m.cop, .int .i64 m.win, .slice A N cap])
    have BW := Lib.hid (below1 w (.cells #[.int .i64 m.tab, .int .i64 m.rou, .int .i64 m.set, .int .i64 m.cop, .int .i64 m.win, .slice A N cap] 24))
    generalize w.alloc (.cells #[.int .i64 m.tab, .int .i64 m.rou, .int .i64 m.set, .int .i64 m.cop, .int .i64 m.win, .slice A N cap] 24) = W1 at *
    have hNb : N ≤ 1128 := by omega
    clear hw p0 p1 h5
    obtain ⟨mb, hmb⟩ : ∃ mb, w.heap.size = mb := ⟨_, rfl⟩
    rw [hmb] at HB ⊢
    have HS := Lib.hid hmb
    clear hmb
    go_loopw [3] (fun s3 wr => ∃ k : Nat, k ≤ N ∧ s3 = .int .i64 k ∧ Hid (∀ i s, i < k → m.rows[i]? = some s → okAt m.tab m.rou m.set (m.rows.take i) s = true) ∧ Hid (Below w.heap.size w wr) ∧ Hid (Blk wr mb 24 #[.int .i64 m.tab, .int .i64 m.rou, .int .i64 m.set, .int .i64 m.cop, .int .i64 m.win, .slice A N cap])) (fun s3 _ => N - (intOf s3).toNat)
    case atStart => exact ⟨0, Nat.zero_le _, rfl, Lib.hid (fun i s hi => absurd hi (by omega)), BW, HB⟩
    case round =>
      obtain ⟨k, hk, rfl, HO, BWr, HBr⟩ := hrel
      clear HB BW
      obtain ⟨wo, rfl⟩ : ∃ wo : World, wo = wr := ⟨_, rfl⟩
      have x0 := HBr.out.cell (j := 0) (v := .int .i64 m.tab) rfl
      have x1 := HBr.out.cell (j := 1) (v := .int .i64 m.rou) rfl
      have x2 := HBr.out.cell (j := 2) (v := .int .i64 m.set) rfl
      have x5 := HBr.out.cell (j := 5) (v := .slice A N cap) rfl
      by_cases hlt : k < N
      · have u1 : decide (k < N) = true := decide_eq_true hlt
        obtain ⟨r, hr⟩ : ∃ r, m.rows[k]? = some r := ⟨_, List.getElem?_eq_getElem (by rw [HN.out]; exact hlt)⟩
        obtain ⟨b, o, rfl, c0, c1, c2, c3, c4⟩ := (HM.out.rows.keep BWr.out).at hr
        have HR := Lib.hid hr
        clear hr
        go_upto_region 7 with fail
        have HRw := Lib.hid (Blk.new wo 45 #[.int .i64 r.rd, .int .i64 r.tb, .int .i64 r.ns, .int .i64 r.ew, .int .i64 r.st])
        have HB1 := Lib.hid (HBr.out.alloc (.cells #[.int .i64 r.rd, .int .i64 r.tb, .int .i64 r.ns, .int .i64 r.ew, .int .i64 r.st] 45))
        have BW1 := Lib.hid (below1b BWr.out (.cells #[.int .i64 r.rd, .int .i64 r.tb, .int .i64 r.ns, .int .i64 r.ew, .int .i64 r.st] 45))
        clear c0 c1 c2 c3 c4 x0 x1 x2 x5 BWr HBr
        generalize wo.alloc (.cells #[.int .i64 r.rd, .int .i64 r.tb, .int .i64 r.ns, .int .i64 r.ew, .int .i64 r.st] 45) = wa at *
        obtain ⟨rb, hrb⟩ : ∃ rb, wo.heap.size = rb := ⟨_, rfl⟩
        rw [hrb] at HRw ⊢
        clear hrb
        have x0 := HB1.out.cell (j := 0) (v := .int .i64 m.tab) rfl
        have x1 := HB1.out.cell (j := 1) (v := .int .i64 m.rou) rfl
        have x2 := HB1.out.cell (j := 2) (v := .int .i64 m.set) rfl
        have x5 := HB1.out.cell (j := 5) (v := .slice (some ⟨b, o, none⟩) N cap) rfl
        have c0 := HRw.out.cell (j := 0) (v := .int .i64 r.rd) rfl
        have c1 := HRw.out.cell (j := 1) (v := .int .i64 r.tb) rfl
        have c2 := HRw.out.cell (j := 2) (v := .int .i64 r.ns) rfl
        have c3 := HRw.out.cell (j := 3) (v := .int .i64 r.ew) rfl
        have c4 := HRw.out.cell (j := 4) (v := .int .i64 r.st) rfl
        go_cut [113] (fun s113 wx => s113 = .bool (!okIn m.tab m.rou m.set r) ∧ ∃ n, wx = wa.drewN n)
        case first =>
          clear HO HB1 BW1 HRw HF HM HN HR
          rcases okIn_cases m.tab m.rou m.set r with hok | ⟨hno, hc⟩
          case inr =>
            have HQ := Lib.hid hno
            clear hno
            rcases hc with q1 | ⟨q1, q2⟩ | ⟨q1, q2, q3⟩ | ⟨q1, q2, q3, q4⟩ | ⟨q1, q2, q3, q4, q5⟩ | ⟨q1, q2, q3, q4, q5, q6⟩ | ⟨q1, q2, q3, q4, q5, q6, q7⟩ | ⟨q1, q2, q3, q4, q5, q6, q7, q8⟩ | ⟨q1, q2, q3, q4, q5, q6, q7, q8, q9⟩ | ⟨q1, q2, q3, q4, q5, q6, q7, q8, q9, q10⟩ | ⟨q1, q2, q3, q4, q5, q6, q7, q8, q9, q10, q11⟩
            · have d0 : decide (r.rd < 0) = true := decide_eq_true (by omega)
              clear q1
              refine plain_quiet _ (by simp only [List.append_eq, List.cons_append, List.nil_append]; rfl) ?_
              repeat (go_big_quiet_step ((fail)))
              refine wpQuiet_nil ?_
              rintro w' ⟨nq, rfl⟩
              go_wp2_with fail
              all_goals (go_meet; exact ⟨by rw [HQ.out]; rfl, _, rfl⟩)
            · have d0 : decide (r.rd < 0) = false := decide_eq_false (by omega)
              have d1 : decide (m.rou ≤ r.rd) = true := decide_eq_true (by omega)
              clear q1 q2
              refine plain_quiet _ (by simp only [List.append_eq, List.cons_append, List.nil_append]; rfl) ?_
              repeat (go_big_quiet_step ((fail)))
              refine wpQuiet_nil ?_
              rintro w' ⟨nq, rfl⟩
              go_wp2_with fail
              all_goals (go_meet; exact ⟨by rw [HQ.out]; rfl, _, rfl⟩)
            · have d0 : decide (r.rd < 0) = false := decide_eq_false (by omega)
              have d1 : decide (m.rou ≤ r.rd) = false := decide_eq_false (by omega)
              have d2 : decide (r.tb < 0) = true := decide_eq_true (by omega)
              clear q1 q2 q3
              refine plain_quiet _ (by simp only [List.append_eq, List.cons_append, List.nil_append]; rfl) ?_
              repeat (go_big_quiet_step ((fail)))
              refine wpQuiet_nil ?_
              rintro w' ⟨nq, rfl⟩
              go_wp2_with fail
              all_goals (go_meet; exact ⟨by rw [HQ.out]; rfl, _, rfl⟩)
            · have d0 : decide (r.rd < 0) = false := decide_eq_false (by omega)
              have d1 : decide (m.rou ≤ r.rd) = false := decide_eq_false (by omega)
              have d2 : decide (r.tb < 0) = false := decide_eq_false (by omega)
              have d3 : decide (m.tab ≤ r.tb) = true := decide_eq_true (by omega)
              clear q1 q2 q3 q4
              refine plain_quiet _ (by simp only [List.append_eq, List.cons_append, List.nil_append]; rfl) ?_
              repeat (go_big_quiet_step ((fail)))
              refine wpQuiet_nil ?_
              rintro w' ⟨nq, rfl⟩
              go_wp2_with fail
              all_goals (go_meet; exact ⟨by rw [HQ.out]; rfl, _, rfl⟩)
            · have d0 : decide (r.rd < 0) = false := decide_eq_false (by omega)
              have d1 : decide (m.rou ≤ r.rd) = false := decide_eq_false (by omega)
              have d2 : decide (r.tb < 0) = false := decide_eq_false (by omega)
              have d3 : decide (m.tab ≤ r.tb) = false := decide_eq_false (by omega)
              have d4 : decide (r.st < 0) = true := decide_eq_true (by omega)
              clear q1 q2 q3 q4 q5
              refine plain_quiet _ (by simp only [List.append_eq, List.cons_append, List.nil_append]; rfl) ?_
              repeat (go_big_quiet_step ((fail)))
              refine wpQuiet_nil ?_
              rintro w' ⟨nq, rfl⟩
              go_wp2_with fail
              all_goals (go_meet; exact ⟨by rw [HQ.out]; rfl, _, rfl⟩)
            · have d0 : decide (r.rd < 0) = false := decide_eq_false (by omega)
              have d1 : decide (m.rou ≤ r.rd) = false := decide_eq_false (by omega)
              have d2 : decide (r.tb < 0) = false := decide_eq_false (by omega)
              have d3 : decide (m.tab ≤ r.tb) = false := decide_eq_false (by omega)
              have d4 : decide (r.st < 0) = false := decide_eq_false (by omega)
              have d5 : decide (m.set ≤ r.st) = true := decide_eq_true (by omega)
              clear q1 q2 q3 q4 q5 q6
              refine plain_quiet _ (by simp only [List.append_eq, List.cons_append, List.nil_append]; rfl) ?_
              repeat (go_big_quiet_step ((fail)))
              refine wpQuiet_nil ?_
              rintro w' ⟨nq, rfl⟩
              go_wp2_with fail
              all_goals (go_meet; exact ⟨by rw [HQ.out]; rfl, _, rfl⟩)
            · have d0 : decide (r.rd < 0) = false := decide_eq_false (by omega)
              have d1 : decide (m.rou ≤ r.rd) = false := decide_eq_false (by omega)
              have d2 : decide (r.tb < 0) = false := decide_eq_false (by omega)
              have d3 : decide (m.tab ≤ r.tb) = false := decide_eq_false (by omega)
              have d4 : decide (r.st < 0) = false := decide_eq_false (by omega)
              have d5 : decide (m.set ≤ r.st) = false := decide_eq_false (by omega)
              have d6 : decide (r.ns < 0) = true := decide_eq_true (by omega)
              clear q1 q2 q3 q4 q5 q6 q7
              refine plain_quiet _ (by simp only [List.append_eq, List.cons_append, List.nil_append]; rfl) ?_
              repeat (go_big_quiet_step ((fail)))
              refine wpQuiet_nil ?_
              rintro w' ⟨nq, rfl⟩
              go_wp2_with fail
              all_goals (go_meet; exact ⟨by rw [HQ.out]; rfl, _, rfl⟩)
            · have d0 : decide (r.rd < 0) = false := decide_eq_false (by omega)
              have d1 : decide (m.rou ≤ r.rd) = false := decide_eq_false (by omega)
              have d2 : decide (r.tb < 0) = false := decide_eq_false (by omega)
              have d3 : decide (m.tab ≤ r.tb) = false := decide_eq_false (by omega)
              have d4 : decide (r.st < 0) = false := decide_eq_false (by omega)
              have d5 : decide (m.set ≤ r.st) = false := decide_eq_false (by omega)
              have d6 : decide (r.ns < 0) = false := decide_eq_false (by omega)
              have d7 : decide (49 < r.ns) = true := decide_eq_true (by omega)
              clear q1 q2 q3 q4 q5 q6 q7 q8
              refine plain_quiet _ (by simp only [List.append_eq, List.cons_append, List.nil_append]; rfl) ?_
              repeat (go_big_quiet_step ((fail)))
              refine wpQuiet_nil ?_
              rintro w' ⟨nq, rfl⟩
              go_wp2_with fail
              all_goals (go_meet; exact ⟨by rw [HQ.out]; rfl, _, rfl⟩)
            · have d0 : decide (r.rd < 0) = false := decide_eq_false (by omega)
              have d1 : decide (m.rou ≤ r.rd) = false := decide_eq_false (by omega)
              have d2 : decide (r.tb < 0) = false := decide_eq_false (by omega)
              have d3 : decide (m.tab ≤ r.tb) = false := decide_eq_false (by omega)
              have d4 : decide (r.st < 0) = false := decide_eq_false (by omega)
              have d5 : decide (m.set ≤ r.st) = false := decide_eq_false (by omega)
              have d6 : decide (r.ns < 0) = false := decide_eq_false (by omega)
              have d7 : decide (49 < r.ns) = false := decide_eq_false (by omega)
              have d8 : decide (r.ew < 0) = true := decide_eq_true (by omega)
              clear q1 q2 q3 q4 q5 q6 q7 q8 q9
              refine plain_quiet _ (by simp only [List.append_eq, List.cons_append, List.nil_append]; rfl) ?_
              repeat (go_big_quiet_step ((fail)))
              refine wpQuiet_nil ?_
              rintro w' ⟨nq, rfl⟩
              go_wp2_with fail
              all_goals (go_meet; exact ⟨by rw [HQ.out]; rfl, _, rfl⟩)
            · have d0 : decide (r.rd < 0) = false := decide_eq_false (by omega)
              have d1 : decide (m.rou ≤ r.rd) = false := decide_eq_false (by omega)
              have d2 : decide (r.tb < 0) = false := decide_eq_false (by omega)
              have d3 : decide (m.tab ≤ r.tb) = false := decide_eq_false (by omega)
              have d4 : decide (r.st < 0) = false := decide_eq_false (by omega)
              have d5 : decide (m.set ≤ r.st) = false := decide_eq_false (by omega)
              have d6 : decide (r.ns < 0) = false := decide_eq_false (by omega)
              have d7 : decide (49 < r.ns) = false := decide_eq_false (by omega)
              have d8 : decide (r.ew < 0) = false := decide_eq_false (by omega)
              have d9 : decide (49 < r.ew) = true := decide_eq_true (by omega)
              clear q1 q2 q3 q4 q5 q6 q7 q8 q9 q10
              refine plain_quiet _ (by simp only [List.append_eq, List.cons_append, List.nil_append]; rfl) ?_
              repeat (go_big_quiet_step ((fail)))
              refine wpQuiet_nil ?_
              rintro w' ⟨nq, rfl⟩
              go_wp2_with fail
              all_goals (go_meet; exact ⟨by rw [HQ.out]; rfl, _, rfl⟩)
            · have e1 : (r.ns == r.ew) = true := beq_iff_eq.2 q11
              have d0 : decide (r.rd < 0) = false := decide_eq_false (by omega)
              have d1 : decide (m.rou ≤ r.rd) = false := decide_eq_false (by omega)
              have d2 : decide (r.tb < 0) = false := decide_eq_false (by omega)
              have d3 : decide (m.tab ≤ r.tb) = false := decide_eq_false (by omega)
              have d4 : decide (r.st < 0) = false := decide_eq_false (by omega)
              have d5 : decide (m.set ≤ r.st) = false := decide_eq_false (by omega)
              have d6 : decide (r.ns < 0) = false := decide_eq_false (by omega)
              have d7 : decide (49 < r.ns) = false := decide_eq_false (by omega)
              have d8 : decide (r.ew < 0) = false := decide_eq_false (by omega)
              have d9 : decide (49 < r.ew) = false := decide_eq_false (by omega)
              have d10 : decide (0 < r.ns) = true := decide_eq_true (by omega)
              clear q1 q2 q3 q4 q5 q6 q7 q8 q9 q10 q11
              refine plain_quiet _ (by simp only [List.append_eq, List.cons_append, List.nil_append]; rfl) ?_
              repeat (go_big_quiet_step ((fail)))
              refine wpQuiet_nil ?_
              rintro w' ⟨nq, rfl⟩
              go_wp2_with fail
              go_meet
              exact ⟨by rw [HQ.out]; rfl, _, rfl⟩
          case inl =>
            have HQ := Lib.hid hok
            obtain ⟨q1, q2, q3, q4, q5, q6, q7, q8, q9, q10, q11⟩ := okIn_of hok
            clear hok
            have d0 : decide (r.rd < 0) = false := decide_eq_false (by omega)
            have d1 : decide (m.rou ≤ r.rd) = false := decide_eq_false (by omega)
            have d2 : decide (r.tb < 0) = false := decide_eq_false (by omega)
            have d3 : decide (m.tab ≤ r.tb) = false := decide_eq_false (by omega)
            have d4 : decide (r.st < 0) = false := decide_eq_false (by omega)
            have d5 : decide (m.set ≤ r.st) = false := decide_eq_false (by omega)
            have d6 : decide (r.ns < 0) = false := decide_eq_false (by omega)
            have d7 : decide (49 < r.ns) = false := decide_eq_false (by omega)
            have d8 : decide (r.ew < 0) = false := decide_eq_false (by omega)
            have d9 : decide (49 < r.ew) = false := decide_eq_false (by omega)
            obtain ⟨E, hE⟩ : ∃ E, (r.ns == r.ew) = E := ⟨_, rfl⟩
            have hE2 : E = true → decide (0 < r.ns) = false := fun h => decide_eq_false (by
              rw [h] at hE
              have := q11 (by simpa using hE)
              omega)
            clear q1 q2 q3 q4 q5 q6 q7 q8 q9 q10 q11
            cases E with
            | true =>
              have d10 := hE2 rfl
              clear hE2
              refine plain_quiet _ (by simp only [List.append_eq, List.cons_append, List.nil_append]; rfl) ?_
              repeat (go_big_quiet_step ((fail)))
              refine wpQuiet_nil ?_
              rintro w' ⟨nq, rfl⟩
              go_wp2_with fail
              go_meet
              exact ⟨by rw [HQ.out]; rfl, _, rfl⟩
            | false =>
              clear hE2
              refine plain_quiet _ (by simp only [List.append_eq, List.cons_append, List.nil_append]; rfl) ?_
              repeat (go_big_quiet_step ((fail)))
              refine wpQuiet_nil ?_
              rintro w' ⟨nq, rfl⟩
              go_wp2_with fail
              go_meet
              exact ⟨by rw [HQ.out]; rfl, _, rfl⟩
        case rest =>
          obtain ⟨rfl, nq, rfl⟩ := hcut
          replace HB1 := Lib.hid (HB1.out.drewN nq)
          replace HRw := Lib.hid (HRw.out.drewN nq)
          replace BW1 := Lib.hid (below_drewN BW1.out nq)
          clear x0 x1 x2 x5 c0 c1 c2 c3 c4
          generalize wa.drewN nq = wc at *
          clear wa
          rcases hno : okIn m.tab m.rou m.set r with _ | _
          · have HX := Lib.hid (HF.out.trans (fitRows_false _ _ _ _ _ _ HR.out HO.out (okAt_in hno)))
            clear hno
            go_wp2_with fail
            go_ret
            exact ⟨ret_bool HX.out.symm, BW1.out⟩
          have HOK := Lib.hid hno
          clear hno
          go_upto_block 2 with fail
          go_wp2_with fail
          go_loopw [5] (fun s5 wr => ∃ j : Nat, j ≤ k ∧ s5 = .int .i64 (j : Int) ∧ Hid (∀ i s, i < j → m.rows[i]? = some s → clash s r = false) ∧ Hid (Below wc.heap.size wc wr)) (fun s5 _ => k - (intOf s5).toNat)
          case atStart => exact ⟨0, Nat.zero_le _, rfl, Lib.hid (fun i s hi => absurd hi (by omega)), Lib.hid (Below.refl _ _)⟩
          case round =>
            obtain ⟨j, hj, rfl, JO, BJ⟩ := hrel
            obtain ⟨wd, rfl⟩ : ∃ wd : World, wd = wr := ⟨_, rfl⟩
            by_cases hjl : j < k
            · have v1 : decide ((j : Int) < (k : Int)) = true := decide_eq_true (by omega)
              obtain ⟨s, hs⟩ : ∃ s, m.rows[j]? = some s := ⟨_, List.getElem?_eq_getElem (by rw [HN.out]; omega)⟩
              obtain ⟨b', o', hbo, c0, c1, c2, c3, c4⟩ := (HM.out.rows.keep (bchain BW1.out BJ.out)).at hs
              obtain ⟨rfl, rfl⟩ : b = b' ∧ o = o' := by
                have h := Option.some.inj hbo
                injection h with h1 h2 _
                exact ⟨h1, h2⟩
              have HSj := Lib.hid hs
              have x5 := (HB1.out.keep BJ.out HB1.out.lt).cell (j := 5) (v := .slice (some ⟨b, o, none⟩) N cap) rfl
              have i1 : (j : Int) < (N : Int) := by omega
              have i2 : j < N := by omega
              clear hs hbo
              go_upto_region 13 with fail
              have HSw := Lib.hid (Blk.new wd 45 #[.int .i64 s.rd, .int .i64 s.tb, .int .i64 s.ns, .int .i64 s.ew, .int .i64 s.st])
              have BK := Lib.hid (bchain BJ.out (below1 wd (.cells #[.int .i64 s.rd, .int .i64 s.tb, .int .i64 s.ns, .int .i64 s.ew, .int .i64 s.st] 45)))
              clear c0 c1 c2 c3 c4 x5 i1 i2
              generalize wd.alloc (.cells #[.int .i64 s.rd, .int .i64 s.tb, .int .i64 s.ns, .int .i64 s.ew, .int .i64 s.st] 45) = we at *
              generalize wd.heap.size = kb at *
              have cl := clash_eq s r
              have HR2 := Lib.hid (HRw.out.keep BK.out HRw.out.lt)
              have y0 := HSw.out.cell (j := 0) (v := .int .i64 s.rd) rfl
              have y1 := HSw.out.cell (j := 1) (v := .int .i64 s.tb) rfl
              have y2 := HSw.out.cell (j := 2) (v := .int .i64 s.ns) rfl
              have y3 := HSw.out.cell (j := 3) (v := .int .i64 s.ew) rfl
              have c0 := HR2.out.cell (j := 0) (v := .int .i64 r.rd) rfl
              have c1 := HR2.out.cell (j := 1) (v := .int .i64 r.tb) rfl
              have c2 := HR2.out.cell (j := 2) (v := .int .i64 r.ns) rfl
              have c3 := HR2.out.cell (j := 3) (v := .int .i64 r.ew) rfl
              have c4 := HR2.out.cell (j := 4) (v := .int .i64 r.st) rfl
              have HA := Lib.hid (fun p wx => has_any r p wx)
              obtain ⟨X, hX⟩ : ∃ X, clash s r = X := ⟨_, rfl⟩
              have HXc := Lib.hid hX
              rw [hX] at cl
              clear hX
              go_cut [157] (fun s157 wx => s157 = .bool X ∧ Hid (Below wc.heap.size wc wx))
              case first =>
                rcases hP1 : decide (s.rd = r.rd) with _ | _
                · rw [hP1, Bool.false_and] at cl
                  subst cl
                  have e1 : (s.rd == r.rd) = false := by rw [beq_eq_false_iff_ne]; exact of_decide_eq_false hP1
                  clear hP1
                  go_wp2_with fail
                  go_meet
                  exact ⟨rfl, BK⟩
                rw [hP1, Bool.true_and] at cl
                have e1 : (s.rd == r.rd) = true := by rw [beq_iff_eq]; exact of_decide_eq_true hP1
                rcases hP2 : decide (s.tb = r.tb) with _ | _
                case true =>
                  rw [hP2, Bool.true_or, Bool.true_or] at cl
                  subst cl
                  have e2 : (s.tb == r.tb) = true := by rw [beq_iff_eq]; exact of_decide_eq_true hP2
                  clear hP1 hP2
                  go_wp2_with fail
                  go_meet
                  exact ⟨rfl, BK⟩
                rw [hP2, Bool.false_or] at cl
                have e2 : (s.tb == r.tb) = false := by rw [beq_eq_false_iff_ne]; exact of_decide_eq_false hP2
                clear hP1 hP2
                rcases hP3 : decide (0 < s.ns) with _ | _
                case false =>
                  rw [hP3, Bool.false_and, Bool.false_or] at cl
                  rcases hP4 : decide (0 < s.ew) with _ | _
                  case false =>
                    rw [hP4, Bool.false_and] at cl
                    subst cl
                    go_wp2_with fail
                    go_meet
                    exact ⟨rfl, BK⟩
                  rw [hP4, Bool.true_and] at cl
                  go_wp2_with fail
                  refine (HA.out s.ew we).mono ?_
                  rintro e w7 ⟨rfl, hb⟩
                  have B7 := Lib.hid (bchain BK.out hb)
                  clear hb
                  go_wp2_with fail
                  go_meet
                  exact ⟨by rw [cl], B7⟩
                rw [hP3, Bool.true_and] at cl
                rcases hP5 : hasB r s.ns with _ | _
                case true =>
                  rw [hP5, Bool.true_or] at cl
                  subst cl
                  go_wp2_with fail
                  refine (HA.out s.ns we).mono ?_
                  rintro e w7 ⟨rfl, hb⟩
                  rw [hP5]
                  have B7 := Lib.hid (bchain BK.out hb)
                  clear hb
                  go_wp2_with fail
                  go_meet
                  exact ⟨rfl, B7⟩
                rw [hP5, Bool.false_or] at cl
                go_wp2_with fail
                refine (HA.out s.ns we).mono ?_
                rintro e w7 ⟨rfl, hb⟩
                rw [hP5]
                have B7 := Lib.hid (bchain BK.out hb)
                have HR7 := Lib.hid (HR2.out.keep hb HR2.out.lt)
                have HS7 := Lib.hid (HSw.out.keep hb HSw.out.lt)
                have z3 := HS7.out.cell (j := 3) (v := .int .i64 s.ew) rfl
                have d0 := HR7.out.cell (j := 0) (v := .int .i64 r.rd) rfl
                have d1 := HR7.out.cell (j := 1) (v := .int .i64 r.tb) rfl
                have d2 := HR7.out.cell (j := 2) (v := .int .i64 r.ns) rfl
                have d3 := HR7.out.cell (j := 3) (v := .int .i64 r.ew) rfl
                have d4 := HR7.out.cell (j := 4) (v := .int .i64 r.st) rfl
                clear hb y0 y1 y2 y3 c0 c1 c2 c3 c4
                rcases hP4 : decide (0 < s.ew) with _ | _
                case false =>
                  rw [hP4, Bool.false_and] at cl
                  subst cl
                  go_wp2_with fail
                  go_meet
                  exact ⟨rfl, B7⟩
                rw [hP4, Bool.true_and] at cl
                go_wp2_with fail
                refine (HA.out s.ew w7).mono ?_
                rintro e w8 ⟨rfl, hb⟩
                have B8 := Lib.hid (bchain B7.out hb)
                clear hb
                go_wp2_with fail
                go_meet
                exact ⟨by rw [cl], B8⟩
              case rest =>
              obtain ⟨rfl, BL⟩ := hcut
              clear y0 y1 y2 y3 c0 c1 c2 c3 c4 cl HR2 HSw HA
              cases X with
              | true =>
                have HX := Lib.hid (HF.out.trans (fitRows_false _ _ _ _ _ _ HR.out HO.out (okAt_clash HSj.out hjl HXc.out)))
                go_wp2_with fail
                go_ret
                exact ⟨ret_bool HX.out.symm, bchain BW1.out BL.out⟩
              | false =>
                have JOn : Hid (∀ i t, i < j + 1 → m.rows[i]? = some t → clash t r = false) := Lib.hid (fun i t hi ht => by
                  rcases Nat.lt_or_ge i j with h | h
                  · exact JO.out i t h ht
                  · obtain rfl : i = j := by omega
                    rw [HSj.out] at ht
                    obtain rfl := Option.some.inj ht
                    exact HXc.out)
                go_wp2_with fail
                go_roundw
                case rel => exact ⟨j + 1, by omega, by go_num, JOn, BL⟩
                case measure => simp [intOf]; omega
            · obtain rfl : j = k := by omega
              have v1 : decide ((j : Int) < (j : Int)) = false := decide_eq_false (by omega)
              have HOn : Hid (∀ i s, i < j + 1 → m.rows[i]? = some s → okAt m.tab m.rou m.set (m.rows.take i) s = true) := Lib.hid (fun i s hi hs => by
                rcases Nat.lt_or_ge i j with h | h
                · exact HO.out i s h hs
                · obtain rfl : i = j := by omega
                  rw [HR.out] at hs
                  obtain rfl := Option.some.inj hs
                  exact okAt_mk HOK.out JO.out)
              have BN := Lib.hid (bchain BW1.out BJ.out)
              have HBn := Lib.hid (HB1.out.keep BJ.out HB1.out.lt)
              clear JO HB1 HRw
              go_wp2_with fail
              go_roundw
              case rel => exact ⟨j + 1, by omega, by go_num, HOn, BN, HBn⟩
              case measure => simp [intOf]; omega
      · obtain rfl : k = N := by omega
        have HX : Hid (fitB m = true) := Lib.hid (HF.out.trans (fitRows_true _ _ _ _ (fun i s hi => HO.out i s (by rw [← HN.out]; exact (List.getElem?_eq_some_iff.1 hi).1) hi)))
        have u1 : decide (k < k) = false := decide_eq_false (by omega)
        go_wp2
        go_ret
        exact ⟨ret_bool HX.out.symm, BWr.out⟩
end Go.Proofs.YtidpfggikighlaaDoor
