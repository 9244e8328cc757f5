/- The contracts of the reference's add, sub and whole. -/
import Derived.Test.YtfhkgpipbegpgaaGreatDoorRefB
namespace Go.Proofs.YtfhkgpipbegpgaaGreatDoor
open Go Go.RowKit

set_option maxRecDepth 100000 in
set_option maxHeartbeats 8000000 in
theorem radd_any (A B : Option Addr) (ca cb n m : Nat) (hk : nd n ≤ 1000) (hk' : nd m ≤ 1000) (w : World) (hA : Dg w A ca n) (hB : Dg w B cb m) :
    Calls Tryz.prog 69 #[.slice A (nd n) ca, .slice B (nd m) cb] w (RetD (n + m) w) := by
  have h1 := hA.room
  have h2 := hA.top
  have h3 := hB.room
  have h4 := hB.top
  unfold maxLen at h2 h4
  obtain ⟨N, hN⟩ : ∃ N, nd n = N := ⟨_, rfl⟩
  obtain ⟨M, hM⟩ : ∃ M, nd m = M := ⟨_, rfl⟩
  have HN := Lib.hid hN
  have HM := Lib.hid hM
  have HA := Lib.hid hA
  have HB := Lib.hid hB
  rw [hN] at h1 hk ⊢
  rw [hM] at h3 hk' ⊢
  clear hN hA hM hB
  go_enter Tryz.func69, Tryz.ntmps69
  go_wp2
  go_loopw [5, 6, 7] (fun s5 s6 s7 wr => ∃ i : Nat, i ≤ 1001 ∧ s7 = .int .i64 i ∧ s6 = .int .i64 (cad n m i : Int) ∧ wr.ownsRow w.heap.size 3 1 s5 i ((digN (n + m) i).map iv) ∧ Below w.heap.size w wr ∧ (i ≤ N ∨ i ≤ M ∨ (N < i ∧ M < i ∧ (N + 1 = i ∨ M + 1 = i) ∧ cad n m (i - 1) ≠ 0 ∧ cad n m i = 0))) (fun _ _ s7 _ => 1002 - (intOf s7).toNat)
  case atStart => exact ⟨0, by omega, rfl, by rw [cad_zero]; rfl, by rw [digN_nil]; exact World.ownsRow_nil _ _ _ _, Below.refl _ _, by omega⟩
  case round =>
    obtain ⟨i, hi, rfl, rfl, hown, hbw, hlast⟩ := hrel
    obtain ⟨C, hC⟩ : ∃ C, cad n m i = C := ⟨_, rfl⟩
    have hCb := cad_le n m i
    have HO := Lib.hid hown
    have HW := Lib.hid hbw
    rw [hC] at hCb hlast ⊢
    have HC := Lib.hid hC
    clear hown hbw hC
    by_cases hgo : i < N ∨ i < M ∨ 0 < C
    case neg =>
      have hc0 : C = 0 := by omega
      have HE := Lib.hid (cad_end (n := n) (m := m) (i := i) (by rw [HN.out]; omega) (by rw [HM.out]; omega) (by rw [HC.out]; exact hc0) (by rw [HN.out, HM.out]; omega))
      subst hc0
      have t1 : decide (i < N) = false := decide_eq_false (by omega)
      have t2 : decide (i < M) = false := decide_eq_false (by omega)
      have g1 : N ≤ i := by omega
      have g2 : M ≤ i := by omega
      clear hgo hlast
      obtain ⟨hl, A', cap', rfl, hcap, hmax, hrow⟩ := RowI.own HO.out
      have HD : Hid (Dg wr A' cap' (n + m)) := Lib.hid ⟨by unfold dig; rw [HE.out]; exact hrow, by rw [HE.out]; exact hcap, hmax⟩
      clear hl hrow hcap hmax
      go_wp2
      go_ret
      exact ⟨A', cap', by rw [HE.out]; rfl, HD.out, HW.out⟩
    case pos =>
      have HS := Lib.hid (cad_succ n m i)
      have HT := Lib.hid (cad_digit n m i)
      rw [HC.out] at HS HT
      have HX := Lib.hid (digN_succ (n + m) i)
      have hx1 := dg_lt n i
      have hy1 := dg_lt m i
      have hx0 : N ≤ i → dg n i = 0 := fun h => dg_over (lt_of_nd (by rw [HN.out]; exact h))
      have hy0 : M ≤ i → dg m i = 0 := fun h => dg_over (lt_of_nd (by rw [HM.out]; exact h))
      obtain ⟨x, hx⟩ : ∃ x, dg n i = x := ⟨_, rfl⟩
      obtain ⟨y, hy⟩ : ∃ x, dg m i = x := ⟨_, rfl⟩
      rw [hx] at HS HT hx1 hx0
      rw [hy] at HS HT hy1 hy0
      obtain ⟨d, hd⟩ : ∃ d, (C + x + y) % 65536 = d := ⟨_, rfl⟩
      obtain ⟨q, hq⟩ : ∃ d, (C + x + y) / 65536 = d := ⟨_, rfl⟩
      rw [hq] at HS
      rw [hd] at HT
      have HL : Hid (i + 1 ≤ N ∨ i + 1 ≤ M ∨ (N < i + 1 ∧ M < i + 1 ∧ (N + 1 = i + 1 ∨ M + 1 = i + 1) ∧ cad n m (i + 1 - 1) ≠ 0 ∧ cad n m (i + 1) = 0)) := Lib.hid (by
        rw [Nat.add_sub_cancel, HS.out, HC.out]
        omega)
      have hi' : i + 1 ≤ 1001 := by omega
      by_cases hl1 : i < N
      · have u1 : decide (i < N) = true := decide_eq_true (by omega)
        obtain ⟨g, off, rfl, hg, hcc⟩ := HA.out.at_ (k := i) (by rw [HN.out]; omega)
        have c0 := (HA.out.keep HW.out).cell (j := i) (by rw [HN.out]; omega)
        rw [hx] at c0
        clear hcc hg
        by_cases hl2 : i < M
        · have u2 : decide (i < M) = true := decide_eq_true (by omega)
          obtain ⟨g', off', rfl, hg', hcc'⟩ := HB.out.at_ (k := i) (by rw [HM.out]; omega)
          have c1 := (HB.out.keep HW.out).cell (j := i) (by rw [HM.out]; omega)
          rw [hy] at c1
          clear hcc' hg'
          have e2 : ((C : Int) + (x : Int) + (y : Int)) % 65536 = (d : Int) := by omega
          have e3 : ((C : Int) + (x : Int) + (y : Int)) / 65536 = (q : Int) := by omega
          clear hx hy hd hq hgo hlast hx0 hy0
          go_wp2_with (at_builtin; refine app1 rfl (.tmp 44) (.tmp 47) rfl _ w.heap.size _ i _ d rfl rfl HO.out HW.out.size (by omega) ?_; intro v' w1 hown' hb')
          go_roundw
          case rel => exact ⟨i + 1, hi', by go_num, by first | rw [HS.out, e3] | (rw [HS.out]; rfl) | rw [HS.out], by rw [HX.out, HT.out]; exact hown', HW.out.trans hb', HL.out⟩
          case measure => simp [intOf] <;> omega
        · have u2 : decide (i < M) = false := decide_eq_false (by omega)
          obtain rfl : y = 0 := hy0 (by omega)
          have e2 : ((C : Int) + (x : Int)) % 65536 = (d : Int) := by omega
          have e3 : ((C : Int) + (x : Int)) / 65536 = (q : Int) := by omega
          clear hx hy hd hq hgo hlast hx0 hy0
          go_wp2_with (at_builtin; refine app1 rfl (.tmp 44) (.tmp 47) rfl _ w.heap.size _ i _ d rfl rfl HO.out HW.out.size (by omega) ?_; intro v' w1 hown' hb')
          go_roundw
          case rel => exact ⟨i + 1, hi', by go_num, by first | rw [HS.out, e3] | (rw [HS.out]; rfl) | rw [HS.out], by rw [HX.out, HT.out]; exact hown', HW.out.trans hb', HL.out⟩
          case measure => simp [intOf] <;> omega
      · have u1 : decide (i < N) = false := decide_eq_false (by omega)
        obtain rfl : x = 0 := hx0 (by omega)
        by_cases hl2 : i < M
        · have u2 : decide (i < M) = true := decide_eq_true (by omega)
          obtain ⟨g', off', rfl, hg', hcc'⟩ := HB.out.at_ (k := i) (by rw [HM.out]; omega)
          have c1 := (HB.out.keep HW.out).cell (j := i) (by rw [HM.out]; omega)
          rw [hy] at c1
          clear hcc' hg'
          have e2 : ((C : Int) + (y : Int)) % 65536 = (d : Int) := by omega
          have e3 : ((C : Int) + (y : Int)) / 65536 = (q : Int) := by omega
          clear hx hy hd hq hgo hlast hx0 hy0
          go_wp2_with (at_builtin; refine app1 rfl (.tmp 44) (.tmp 47) rfl _ w.heap.size _ i _ d rfl rfl HO.out HW.out.size (by omega) ?_; intro v' w1 hown' hb')
          go_roundw
          case rel => exact ⟨i + 1, hi', by go_num, by first | rw [HS.out, e3] | (rw [HS.out]; rfl) | rw [HS.out], by rw [HX.out, HT.out]; exact hown', HW.out.trans hb', HL.out⟩
          case measure => simp [intOf] <;> omega
        · have u2 : decide (i < M) = false := decide_eq_false (by omega)
          obtain rfl : y = 0 := hy0 (by omega)
          have e2 : ((C : Int)) % 65536 = (d : Int) := by omega
          have e3 : ((C : Int)) / 65536 = (q : Int) := by omega
          have t3 : decide (0 < C) = true := decide_eq_true (by omega)
          clear hx hy hd hq hgo hlast hx0 hy0
          go_wp2_with (at_builtin; refine app1 rfl (.tmp 44) (.tmp 47) rfl _ w.heap.size _ i _ d rfl rfl HO.out HW.out.size (by omega) ?_; intro v' w1 hown' hb')
          go_roundw
          case rel => exact ⟨i + 1, hi', by go_num, by first | rw [HS.out, e3] | (rw [HS.out]; rfl) | rw [HS.out], by rw [HX.out, HT.out]; exact hown', HW.out.trans hb', HL.out⟩
          case measure => simp [intOf] <;> omega
set_option maxRecDepth 100000 in
set_option maxHeartbeats 8000000 in
theorem rsub_any (A B : Option Addr) (ca cb n m : Nat) (hle : m ≤ n) (hk : nd n ≤ 1000) (w : World) (hA : Dg w A ca n) (hB : Dg w B cb m) :
    Calls Tryz.prog 70 #[.slice A (nd n) ca, .slice B (nd m) cb] w (RetD (n - m) w) := by
  have h1 := hA.room
  have h2 := hA.top
  have h3 := hB.room
  have h4 := hB.top
  unfold maxLen at h2 h4
  have hk' := nd_mono hle
  obtain ⟨N, hN⟩ : ∃ N, nd n = N := ⟨_, rfl⟩
  obtain ⟨M, hM⟩ : ∃ M, nd m = M := ⟨_, rfl⟩
  have HN := Lib.hid hN
  have HM := Lib.hid hM
  have HA := Lib.hid hA
  have HB := Lib.hid hB
  have HLE := Lib.hid hle
  rw [hN] at h1 hk hk' ⊢
  rw [hM] at h3 hk' ⊢
  clear hN hA hM hB hle
  go_enter Tryz.func70, Tryz.ntmps70
  go_wp2
  go_loopw [5, 6, 7] (fun s5 s6 s7 wr => ∃ i : Nat, i ≤ N ∧ s7 = .int .i64 i ∧ s6 = .int .i64 (owe n m i : Int) ∧ wr.ownsRow w.heap.size 3 1 s5 i ((digN (n - m) i).map iv) ∧ Below w.heap.size w wr) (fun _ _ s7 _ => N - (intOf s7).toNat)
  case atStart => exact ⟨0, by omega, rfl, by rw [owe_zero]; rfl, by rw [digN_nil]; exact World.ownsRow_nil _ _ _ _, Below.refl _ _⟩
  case round =>
    obtain ⟨i, hi, rfl, rfl, hown, hbw⟩ := hrel
    obtain ⟨C, hC⟩ : ∃ C, owe n m i = C := ⟨_, rfl⟩
    have hCb := owe_le n m i
    have HO := Lib.hid hown
    have HW := Lib.hid hbw
    rw [hC] at hCb ⊢
    have HC := Lib.hid hC
    clear hown hbw hC
    by_cases hgo : i < N
    case neg =>
      obtain rfl : N = i := by omega
      have t1 : decide (N < N) = false := decide_eq_false (by omega)
      clear hgo
      obtain ⟨hl, A', cap', rfl, hcap, hmax, hrow⟩ := RowI.own HO.out
      have TR := Lib.hid (trim_any A' cap' (n - m) N (Nat.lt_of_le_of_lt (Nat.sub_le _ _) (by rw [← HN.out]; exact lt_pow_nd n)) hcap hmax _ hrow)
      clear hl hrow
      go_wp2_with fail
      refine TR.out.mono ?_
      rintro e w' ⟨A2, cap2, rfl, hD, hb2⟩
      have HD := Lib.hid hD
      have HB := Lib.hid (bchain HW.out hb2)
      clear hD hb2
      go_wp2
      go_ret
      exact ⟨A2, cap2, rfl, HD.out, HB.out⟩
    case pos =>
      have HS := Lib.hid (owe_succ n m i)
      have hT := owe_digit n m i HLE.out
      rw [HC.out] at HS hT
      have HX := Lib.hid (digN_succ (n - m) i)
      have hx1 := dg_lt n i
      have hy1 := dg_lt m i
      have hy0 : M ≤ i → dg m i = 0 := fun h => dg_over (lt_of_nd (by rw [HM.out]; exact h))
      obtain ⟨x, hx⟩ : ∃ x, dg n i = x := ⟨_, rfl⟩
      obtain ⟨y, hy⟩ : ∃ x, dg m i = x := ⟨_, rfl⟩
      obtain ⟨d, hd⟩ : ∃ x, dg (n - m) i = x := ⟨_, rfl⟩
      have hd1 := dg_lt (n - m) i
      rw [hx] at HS hT hx1
      rw [hy] at HS hT hy1 hy0
      rw [hd] at hT hd1
      have HT := Lib.hid hd
      have t1 : decide (i < N) = true := decide_eq_true (by omega)
      obtain ⟨g, off, rfl, hg, hcc⟩ := HA.out.at_ (k := i) (by rw [HN.out]; omega)
      have c0 := (HA.out.keep HW.out).cell (j := i) (by rw [HN.out]; omega)
      rw [hx] at c0
      clear hcc hg
      by_cases hl2 : i < M
      · have u2 : decide (i < M) = true := decide_eq_true (by omega)
        obtain ⟨g', off', rfl, hg', hcc'⟩ := HB.out.at_ (k := i) (by rw [HM.out]; omega)
        have c1 := (HB.out.keep HW.out).cell (j := i) (by rw [HM.out]; omega)
        rw [hy] at c1
        clear hcc' hg'
        by_cases hneg : x < y + C
        · rw [if_pos hneg] at HS hT
          have e1 : decide ((x : Int) - (C : Int) - (y : Int) < 0) = true := decide_eq_true (by omega)
          have e2 : (x : Int) - (C : Int) - (y : Int) + 65536 = (d : Int) := by omega
          clear hx hy hd hy0 hT
          go_wp2_with (at_builtin; refine app1 rfl (.tmp 35) (.tmp 37) rfl _ w.heap.size _ i _ d rfl rfl HO.out HW.out.size (by omega) ?_; intro v' w1 hown' hb')
          go_roundw
          case rel => exact ⟨i + 1, by omega, by go_num, by rw [HS.out]; rfl, by rw [HX.out, HT.out]; exact hown', HW.out.trans hb'⟩
          case measure => simp [intOf] <;> omega
        · rw [if_neg hneg] at HS hT
          have e1 : decide ((x : Int) - (C : Int) - (y : Int) < 0) = false := decide_eq_false (by omega)
          have e2 : (x : Int) - (C : Int) - (y : Int) = (d : Int) := by omega
          have e4 : decide ((d : Int) < 0) = false := decide_eq_false (by omega)
          clear hx hy hd hy0 hT
          go_wp2_with (at_builtin; refine app1 rfl (.tmp 35) (.tmp 37) rfl _ w.heap.size _ i _ d rfl rfl HO.out HW.out.size (by omega) ?_; intro v' w1 hown' hb')
          go_roundw
          case rel => exact ⟨i + 1, by omega, by go_num, by rw [HS.out]; rfl, by rw [HX.out, HT.out]; exact hown', HW.out.trans hb'⟩
          case measure => simp [intOf] <;> omega
      · have u2 : decide (i < M) = false := decide_eq_false (by omega)
        obtain rfl : y = 0 := hy0 (by omega)
        by_cases hneg : x < 0 + C
        · rw [if_pos hneg] at HS hT
          have e1 : decide ((x : Int) - (C : Int) < 0) = true := decide_eq_true (by omega)
          have e2 : (x : Int) - (C : Int) + 65536 = (d : Int) := by omega
          clear hx hy hd hy0 hT
          go_wp2_with (at_builtin; refine app1 rfl (.tmp 35) (.tmp 37) rfl _ w.heap.size _ i _ d rfl rfl HO.out HW.out.size (by omega) ?_; intro v' w1 hown' hb')
          go_roundw
          case rel => exact ⟨i + 1, by omega, by go_num, by rw [HS.out]; rfl, by rw [HX.out, HT.out]; exact hown', HW.out.trans hb'⟩
          case measure => simp [intOf] <;> omega
        · rw [if_neg hneg] at HS hT
          have e1 : decide ((x : Int) - (C : Int) < 0) = false := decide_eq_false (by omega)
          have e2 : (x : Int) - (C : Int) = (d : Int) := by omega
          have e4 : decide ((d : Int) < 0) = false := decide_eq_false (by omega)
          clear hx hy hd hy0 hT
          go_wp2_with (at_builtin; refine app1 rfl (.tmp 35) (.tmp 37) rfl _ w.heap.size _ i _ d rfl rfl HO.out HW.out.size (by omega) ?_; intro v' w1 hown' hb')
          go_roundw
          case rel => exact ⟨i + 1, by omega, by go_num, by rw [HS.out]; rfl, by rw [HX.out, HT.out]; exact hown', HW.out.trans hb'⟩
          case measure => simp [intOf] <;> omega
/-- The digit of a number's size. -/
theorem abs_tmod (r : Int) (d : Nat) (hd : d = dg r.natAbs 0) : (r.tmod 65536 < 0 → -(r.tmod 65536) = (d : Int)) ∧ (¬ r.tmod 65536 < 0 → r.tmod 65536 = (d : Int)) ∧ (r.tdiv 65536).natAbs = r.natAbs / 65536 := by
  have h : dg r.natAbs 0 = r.natAbs % 65536 := by unfold dg; rw [Nat.pow_zero, Nat.div_one]
  rw [hd, h, Int.natAbs_tdiv]
  have h2 : (r.tmod 65536).natAbs = r.natAbs % 65536 := by rw [Int.natAbs_tmod]; rfl
  refine ⟨fun _ => by omega, fun _ => by omega, rfl⟩
set_option maxRecDepth 100000 in
set_option maxHeartbeats 8000000 in
theorem whole_any (n : Int) (h0 : -9223372036854775808 ≤ n) (h1 : n ≤ 9223372036854775807) (w : World) :
    Calls Tryz.prog 39 #[.int .i64 n] w (RetD n.natAbs w) := by
  have hN4 : nd n.natAbs ≤ 4 := nd_64 (by omega)
  obtain ⟨N, hN⟩ : ∃ N, n.natAbs = N := ⟨_, rfl⟩
  rw [hN] at hN4 ⊢
  go_enter Tryz.func39, Tryz.ntmps39
  go_wp2
  go_loopw [0, 3, 4] (fun s0 s3 s4 wr => ∃ (i : Nat) (r : Int), i + nd r.natAbs = nd N ∧ s0 = .int .i64 r ∧ -9223372036854775808 ≤ r ∧ r ≤ 9223372036854775807 ∧ r.natAbs = N / 65536 ^ i ∧ wr.ownsRow w.heap.size 3 1 s3 i ((digN N i).map iv) ∧ Below w.heap.size w wr) (fun s0 _ _ _ => (intOf s0).natAbs)
  case atStart => exact ⟨0, n, by rw [hN]; omega, rfl, h0, h1, by rw [hN]; simp, by rw [digN_nil]; exact World.ownsRow_nil _ _ _ _, Below.refl _ _⟩
  case round =>
    obtain ⟨i, r, hi, rfl, r0, r1, hr, hown, hbw⟩ := hrel
    have HO := Lib.hid hown
    have HW := Lib.hid hbw
    have HR := Lib.hid hr
    clear hown hbw hr hN h0 h1
    by_cases hz : r = 0
    · subst hz
      have hE : nd N = i := by rw [← hi]; simp [nd_zero]
      have HE := Lib.hid hE
      have t1 : ((0 : Int) == 0) = true := rfl
      clear hi hE hN4
      obtain ⟨hl, A', cap', rfl, hcap, hmax, hrow⟩ := RowI.own HO.out
      have HD : Hid (Dg wr A' cap' N) := Lib.hid ⟨by unfold dig; rw [HE.out]; exact hrow, by rw [HE.out]; exact hcap, hmax⟩
      clear hl hrow hcap hmax
      go_wp2
      go_ret
      exact ⟨A', cap', by rw [HE.out]; rfl, HD.out, HW.out⟩
    · have t1 : (r == 0) = false := beq_eq_false_iff_ne.2 hz
      obtain ⟨d, hd⟩ : ∃ d, dg r.natAbs 0 = d := ⟨_, rfl⟩
      have hd1 := dg_lt r.natAbs 0
      rw [hd] at hd1
      obtain ⟨a1, a2, a3⟩ := abs_tmod r d hd.symm
      have hdd : dg N i = d := by
        rw [← hd, HR.out]
        unfold dg
        simp
      have hlow : i + 1 + nd (r.tdiv 65536).natAbs = nd N := by
        rw [a3, ← hi, nd_pos (n := r.natAbs) (by omega)]; omega
      have hq : (r.tdiv 65536).natAbs = N / 65536 ^ (i + 1) := by
        rw [a3, HR.out, Nat.div_div_eq_div_mul, ← Nat.pow_succ]
      have hlt : (r.tdiv 65536).natAbs < r.natAbs := by rw [a3]; omega
      have hi4 : i ≤ 4 := by omega
      have HX := Lib.hid (digN_succ N i)
      have HT := Lib.hid hdd
      have HL := Lib.hid hlow
      have HQ := Lib.hid hq
      have HLT := Lib.hid hlt
      have w1 : IntKind.i64.wrap (r.tdiv 65536) = r.tdiv 65536 := IntWalk.i64_in _ (by omega)
      have hb0 : -9223372036854775808 ≤ r.tdiv 65536 := by omega
      have hb1 : r.tdiv 65536 ≤ 9223372036854775807 := by omega
      obtain ⟨Q, hQ⟩ : ∃ Q, r.tdiv 65536 = Q := ⟨_, rfl⟩
      rw [hQ] at HL HQ HLT w1 hb0 hb1
      by_cases hneg : r.tmod 65536 < 0
      · have e1 := a1 hneg
        obtain ⟨T, hT⟩ : ∃ T, r.tmod 65536 = T := ⟨_, rfl⟩
        rw [hT] at hneg e1
        clear hd a1 a2 a3 hdd hlow hq hlt hi hz hN4 w1
        go_wp2_with (at_builtin; refine app1 rfl (.tmp 13) (.tmp 15) rfl _ w.heap.size _ i _ d rfl rfl HO.out HW.out.size (by omega) ?_; intro v' w1 hown' hb')
        go_roundw
        case rel => exact ⟨i + 1, Q, HL.out, by first | rw [hQ] | rfl, hb0, hb1, HQ.out, by rw [HX.out, HT.out]; exact hown', HW.out.trans hb'⟩
        case measure => simp [intOf]; first | exact HLT.out | (rw [hQ]; exact HLT.out) | omega
      · have e1 := a2 hneg
        obtain ⟨T, hT⟩ : ∃ T, r.tmod 65536 = T := ⟨_, rfl⟩
        rw [hT] at hneg e1
        subst e1
        have t2 : decide ((d : Int) < 0) = false := decide_eq_false (by omega)
        clear hd a1 a2 a3 hdd hlow hq hlt hi hz hN4 w1 hneg
        go_wp2_with (at_builtin; refine app1 rfl (.tmp 13) (.tmp 15) rfl _ w.heap.size _ i _ d rfl rfl HO.out HW.out.size (by omega) ?_; intro v' w1 hown' hb')
        go_roundw
        case rel => exact ⟨i + 1, Q, HL.out, by first | rw [hQ] | rfl, hb0, hb1, HQ.out, by rw [HX.out, HT.out]; exact hown', HW.out.trans hb'⟩
        case measure => simp [intOf]; first | exact HLT.out | (rw [hQ]; exact HLT.out) | omega
end Go.Proofs.YtfhkgpipbegpgaaGreatDoor
