/- The contracts of the reference's common and make0. -/
import Derived.Test.YtfhkgpipbegpgaaGreatDoorRefE
import Derived.Deep.LoopGhost
import Derived.Test.YtfhkgpipbegpgaaGreatDoorAdd
import Derived.Test.YtfhkgpipbegpgaaGreatDoorOpsP
namespace Go.Proofs.YtfhkgpipbegpgaaGreatDoor
open Go Go.RowKit

/-- div, whichever number is the greater one. -/
theorem div_all (A B : Option Addr) (ca cb n m : Nat) (hm : 0 < m) (hk : nd n ≤ 500) (w : World) (hA : Dg w A ca n) (hB : Dg w B cb m) :
    Calls Tryz.prog 64 #[.slice A (nd n) ca, .slice B (nd m) cb] w (RetDD (n / m) (n % m) w) := by
  by_cases h : n < m
  · have := div_less A B ca cb n m h w hA hB
    rw [Nat.div_eq_of_lt h, Nat.mod_eq_of_lt h]; exact this
  · exact div_any A B ca cb n m hm (by omega) hk w hA hB
set_option maxRecDepth 100000 in
set_option maxHeartbeats 4000000 in
theorem common_any (A B : Option Addr) (ca cb n m : Nat) (hk : nd n ≤ 500) (hk' : nd m ≤ 500) (w : World) (hA : Dg w A ca n) (hB : Dg w B cb m) :
    Calls Tryz.prog 60 #[.slice A (nd n) ca, .slice B (nd m) cb] w (RetD (Nat.gcd n m) w) := by
  have HA := Lib.hid hA
  have HB := Lib.hid hB
  obtain ⟨N, hN⟩ : ∃ N, nd n = N := ⟨_, rfl⟩
  obtain ⟨M, hM⟩ : ∃ M, nd m = M := ⟨_, rfl⟩
  rw [hN, hM]
  have HN := Lib.hid hN
  have HM := Lib.hid hM
  clear hA hB hN hM
  go_enter Tryz.func60, Tryz.ntmps60
  go_wp2
  go_loopg [0, 1] m (fun k s0 s1 wr => ∃ x y : Nat, ∃ X C cx Y D cy, s0 = .slice X C cx ∧ s1 = .slice Y D cy ∧ C = nd x ∧ D = nd y ∧ Nat.gcd x y = Nat.gcd n m ∧ nd x ≤ 500 ∧ nd y ≤ 500 ∧ Dg wr X cx x ∧ Dg wr Y cy y ∧ Below w.heap.size w wr ∧ y ≤ k)
  case atStart => exact ⟨n, m, A, N, ca, B, M, cb, rfl, rfl, HN.out.symm, HM.out.symm, rfl, hk, hk', HA.out, HB.out, Below.refl _ _, Nat.le_refl _⟩
  case round =>
    obtain ⟨x, y, X, C, cx, Y, D, cy, rfl, rfl, hC, hD, hg, kx, ky, hX, hY, hbw, hyk⟩ := hrel
    have HX := Lib.hid hX
    have HY := Lib.hid hY
    have HW := Lib.hid hbw
    have HG := Lib.hid hg
    have HC := Lib.hid hC
    have HD := Lib.hid hD
    clear hX hY hbw hg hC hD HA HB
    rcases Nat.eq_zero_or_pos y with h0 | h0
    · subst h0
      have hD0 := HD.out
      rw [nd_zero] at hD0
      subst hD0
      have HE : Hid (Nat.gcd n m = x) := Lib.hid (by rw [← HG.out, Nat.gcd_zero_right])
      clear HD
      go_wp2
      go_ret
      exact ⟨X, cx, by rw [HC.out, HE.out]; rfl, by rw [HE.out]; exact HX.out, HW.out⟩
    · have hDp : 0 < D := by have := HD.out; have := (nd_zero_iff y).1; omega
      have t1 : decide ((0 : Int) < (D : Int)) = true := decide_eq_true (by omega)
      have t2 : decide (0 < D) = true := decide_eq_true hDp
      have DV : Hid (Calls Tryz.prog 64 #[.slice X C cx, .slice Y D cy] wr (RetDD (x / y) (x % y) wr)) := Lib.hid (by
        have := div_all X Y cx cy x y h0 kx wr HX.out HY.out
        rw [← HC.out, ← HD.out] at this
        exact this)
      have hr := Nat.mod_lt x h0
      have HM2 : Hid (Nat.gcd y (x % y) = Nat.gcd n m) := Lib.hid (by rw [← HG.out, Nat.gcd_comm y, Nat.gcd_comm x, Nat.gcd_rec y x])
      have hkr : nd (x % y) ≤ 500 := by have := nd_mono (Nat.le_of_lt hr); omega
      go_wp2_with fail
      refine DV.out.mono ?_
      rintro e w1 ⟨A1, c1, B1, d1, rfl, hA1, hB1, hb1⟩
      have HB1 := Lib.hid hB1
      have HY1 := Lib.hid (HY.out.keep hb1)
      have HW1 := Lib.hid (bchain HW.out hb1)
      clear hA1 hB1 hb1 DV
      go_wp2
      go_roundg (x % y)
      case measure => omega
      case rel => exact ⟨y, x % y, Y, D, cy, B1, nd (x % y), d1, rfl, rfl, HD.out, rfl, HM2.out, ky, hkr, HY1.out, HB1.out, HW1.out, Nat.le_refl _⟩
theorem numV_pack (neg : Bool) (a b : Nat) : packP neg a b = if numB (neg && decide (0 < a)) a = true ∧ numB false b = true then (numV (neg && decide (0 < a)) a, numV false b, 0) else (0, 0, 3) := by
  have hb : numB false b = true ↔ b ≤ 9223372036854775807 := by unfold numB; simp; omega
  have hbv : numB false b = true → numV false b = (b : Int) := fun h => by simp [numV, h]
  cases neg with
  | false =>
    have ha : numB (false && decide (0 < a)) a = true ↔ a ≤ 9223372036854775807 := by unfold numB; simp; omega
    unfold packP
    by_cases h : numB (false && decide (0 < a)) a = true ∧ numB false b = true
    · rw [if_pos h, if_pos ⟨by have := ha.1 h.1; simpa using this, hb.1 h.2⟩, hbv h.2]
      have : numV (false && decide (0 < a)) a = (a : Int) := by unfold numV; rw [if_pos h.1]; rfl
      rw [this]; rfl
    · rw [if_neg h, if_neg (fun h' => h ⟨ha.2 (by simpa using h'.1), hb.2 h'.2⟩)]
  | true =>
    by_cases h0 : 0 < a
    · have e : (true && decide (0 < a)) = true := by simp [h0]
      rw [e]
      have ha : numB true a = true ↔ a ≤ 9223372036854775808 := by unfold numB; simp
      unfold packP
      by_cases h : numB true a = true ∧ numB false b = true
      · rw [if_pos h, if_pos ⟨by have := ha.1 h.1; simp; omega, hb.1 h.2⟩, hbv h.2]
        have : numV true a = -(a : Int) := by unfold numV; rw [if_pos h.1]; rfl
        rw [this]; rfl
      · rw [if_neg h, if_neg (fun h' => h ⟨ha.2 (by have := h'.1; simp at this; omega), hb.2 h'.2⟩)]
    · obtain rfl : a = 0 := by omega
      have e : (true && decide (0 < 0)) = false := by decide
      rw [e]
      unfold packP
      have ha : numB false 0 = true := by decide
      by_cases h : numB false b = true
      · rw [if_pos (And.intro ha h), if_pos (And.intro (by decide) (hb.1 h)), hbv h]; rfl
      · rw [if_neg (fun h' : _ ∧ _ => h h'.2), if_neg (fun h' : _ ∧ _ => h (hb.2 h'.2))]
set_option maxRecDepth 100000 in
set_option maxHeartbeats 4000000 in
theorem make0_any (neg : Bool) (A B : Option Addr) (ca cb n m : Nat) (hm : 0 < m) (hk : nd n ≤ 400) (hk' : nd m ≤ 400) (w : World) (hA : Dg w A ca n) (hB : Dg w B cb m) :
    Calls Tryz.prog 38 #[.bool neg, .slice A (nd n) ca, .slice B (nd m) cb] w (RetF (packP neg (n / Nat.gcd n m) (m / Nat.gcd n m)) w) := by
  have hgp : 0 < Nat.gcd n m := Nat.gcd_pos_of_pos_right _ hm
  obtain ⟨g, hg⟩ : ∃ g, Nat.gcd n m = g := ⟨_, rfl⟩
  obtain ⟨a, ha⟩ : ∃ a, n / g = a := ⟨_, rfl⟩
  obtain ⟨b, hb⟩ : ∃ a, m / g = a := ⟨_, rfl⟩
  have hka : nd a ≤ 400 := by rw [← ha]; exact Nat.le_trans (nd_mono (Nat.div_le_self _ _)) hk
  have hkb : nd b ≤ 400 := by rw [← hb]; exact Nat.le_trans (nd_mono (Nat.div_le_self _ _)) hk'
  have GC : Hid (∀ W, Dg W A ca n → Dg W B cb m → Calls Tryz.prog 60 #[.slice A (nd n) ca, .slice B (nd m) cb] W (RetD g W)) := Lib.hid fun W h1 h2 => hg ▸ common_any A B ca cb n m (by omega) (by omega) W h1 h2
  have D1 : Hid (∀ W G cg, Dg W A ca n → Dg W G cg g → Calls Tryz.prog 64 #[.slice A (nd n) ca, .slice G (nd g) cg] W (RetDD a (n % g) W)) := Lib.hid fun W G cg h1 h2 => ha ▸ div_all A G ca cg n g (by omega) (by omega) W h1 h2
  have D2 : Hid (∀ W G cg, Dg W B cb m → Dg W G cg g → Calls Tryz.prog 64 #[.slice B (nd m) cb, .slice G (nd g) cg] W (RetDD b (m % g) W)) := Lib.hid fun W G cg h1 h2 => hb ▸ div_all B G cb cg m g (by omega) (by omega) W h1 h2
  have HA := Lib.hid (hA.keep (blw1 w (.cells #[.int .i64 0, .int .i64 0] 23)))
  have HB := Lib.hid (hB.keep (blw1 w (.cells #[.int .i64 0, .int .i64 0] 23)))
  have HW := Lib.hid (blw1 w (.cells #[.int .i64 0, .int .i64 0] 23))
  have HR := Lib.hid (Blk.new w 23 #[.int .i64 0, .int .i64 0])
  rw [hg, ha, hb, numV_pack]
  obtain ⟨neg2, hneg2⟩ : ∃ x, (neg && decide (0 < a)) = x := ⟨_, rfl⟩
  rw [hneg2]
  have N1 : Hid (∀ W X cx, Dg W X cx a → Calls Tryz.prog 50 #[.bool neg2, .slice X (nd a) cx] W (RetN (numV neg2 a) (numB neg2 a) W)) := Lib.hid fun W X cx h => number_any neg2 X cx a (by omega) W h
  have N2 : Hid (∀ W X cx, Dg W X cx b → Calls Tryz.prog 50 #[.bool false, .slice X (nd b) cx] W (RetN (numV false b) (numB false b) W)) := Lib.hid fun W X cx h => number_any false X cx b (by omega) W h
  obtain ⟨b1, hb1⟩ : ∃ x, numB neg2 a = x := ⟨_, rfl⟩
  obtain ⟨b2, hb2⟩ : ∃ x, numB false b = x := ⟨_, rfl⟩
  obtain ⟨v1, hv1⟩ : ∃ x, numV neg2 a = x := ⟨_, rfl⟩
  obtain ⟨v2, hv2⟩ : ∃ x, numV false b = x := ⟨_, rfl⟩
  rw [hb1, hb2, hv1, hv2]
  obtain ⟨qq, hqq⟩ : ∃ q, (if b1 = true ∧ b2 = true then (v1, v2, 0) else ((0, 0, 3) : Int × Int × Int)) = q := ⟨_, rfl⟩
  rw [hqq]
  have HQ := Lib.hid hqq
  rw [hb1, hv1] at N1
  rw [hb2, hv2] at N2
  obtain ⟨NA, hNA⟩ : ∃ N, nd n = N := ⟨_, rfl⟩
  obtain ⟨NB, hNB⟩ : ∃ N, nd m = N := ⟨_, rfl⟩
  rw [hNA, hNB] at GC
  rw [hNA] at D1
  rw [hNB] at D2
  rw [hNA, hNB]
  have HN2 := Lib.hid hneg2
  have ha0 : (a = 0 ↔ nd a = 0) := (nd_zero_iff a).symm
  obtain ⟨la, hla⟩ : ∃ x, nd a = x := ⟨_, rfl⟩
  rw [hla] at N1 ha0
  have HLA := Lib.hid hla
  have HNG : Hid (neg2 = (neg && decide (0 < la))) := Lib.hid (by
    rw [← HN2.out]
    congr 1
    rw [decide_eq_decide]; omega)
  clear hA hB hm hk hk' hgp hg ha hb hb1 hb2 hv1 hv2 hneg2 hNA hNB ha0 hla hqq HN2
  go_enter Tryz.func38, Tryz.ntmps38
  go_wp2_with fail
  generalize w.alloc (.cells #[.int .i64 0, .int .i64 0] 23) = W1 at *
  refine (GC.out _ HA.out HB.out).mono ?_
  rintro e w2 ⟨G, cg, rfl, hG, hb2⟩
  have HG := Lib.hid hG
  have HA2 := Lib.hid (HA.out.keep hb2)
  have HB2 := Lib.hid (HB.out.keep hb2)
  have HW2 := Lib.hid (bchain HW.out hb2)
  have HR2 := Lib.hid (HR.out.keep hb2 HR.out.lt)
  clear hG hb2 HA HB HW HR GC
  go_wp2_with fail
  refine (D1.out _ _ _ HA2.out HG.out).mono ?_
  rintro e w3 ⟨X, cx, X2, cx2, rfl, hX, _, hb3⟩
  have HX := Lib.hid hX
  have HG3 := Lib.hid (HG.out.keep hb3)
  have HB3 := Lib.hid (HB2.out.keep hb3)
  have HW3 := Lib.hid (bchain HW2.out hb3)
  have HR3 := Lib.hid (HR2.out.keep hb3 HR2.out.lt)
  clear hX hb3 HA2 HB2 HW2 HR2 HG D1
  go_wp2_with fail
  refine (D2.out _ _ _ HB3.out HG3.out).mono ?_
  rintro e w4 ⟨Y, cy, Y2, cy2, rfl, hY, _, hb4⟩
  have HY := Lib.hid hY
  have HX4 := Lib.hid (HX.out.keep hb4)
  have HW4 := Lib.hid (bchain HW3.out hb4)
  have HR4 := Lib.hid (HR3.out.keep hb4 HR3.out.lt)
  clear hY hb4 HX HG3 HB3 HW3 HR3 D2
  rw [HLA.out]
  go_upto_region 4 with fail
  go_cut [13, 14] (fun s13 s14 wx => s13 = .int .i64 v1 ∧ s14 = .bool b1 ∧ Below w4.heap.size w4 wx)
  case first =>
    cases neg with
    | false =>
      have e : neg2 = false := HNG.out
      subst e
      clear HNG HQ
      go_wp2_with fail
      refine (N1.out _ _ _ HX4.out).mono ?_
      rintro e w5 ⟨rfl, hb5⟩
      go_wp2
      go_meet
      exact ⟨rfl, rfl, hb5⟩
    | true =>
      rcases Nat.eq_zero_or_pos la with h0 | h0
      · have e : neg2 = false := by rw [HNG.out]; simp [h0]
        subst e h0
        clear HNG HQ
        go_wp2_with fail
        refine (N1.out _ _ _ HX4.out).mono ?_
        rintro e w5 ⟨rfl, hb5⟩
        go_wp2
        go_meet
        exact ⟨rfl, rfl, hb5⟩
      · have e : neg2 = true := by rw [HNG.out]; simp [h0]
        subst e
        have t1 : decide (0 < la) = true := decide_eq_true h0
        have t2 : decide ((0 : Int) < (la : Int)) = true := decide_eq_true (by omega)
        clear HNG HQ
        go_wp2_with fail
        refine (N1.out _ _ _ HX4.out).mono ?_
        rintro e w5 ⟨rfl, hb5⟩
        go_wp2
        go_meet
        exact ⟨rfl, rfl, hb5⟩
  case rest =>
  obtain ⟨rfl, rfl, hb5⟩ := hcut
  have HY5 := Lib.hid (HY.out.keep hb5)
  have HW5 := Lib.hid (bchain HW4.out hb5)
  have HR5 := Lib.hid (HR4.out.keep hb5 HR4.out.lt)
  clear hb5 HY HX4 HW4 HR4 N1
  go_wp2_with fail
  refine (N2.out _ _ _ HY5.out).mono ?_
  rintro e w6 ⟨rfl, hb6⟩
  have hB := bchain HW5.out hb6
  have hR := HR5.out.keep hb6 HR5.out.lt
  have HB := Lib.hid hB
  have r0 := hR.cell (j := 0) (v := .int .i64 0) rfl
  have r1 := hR.cell (j := 1) (v := .int .i64 0) rfl
  have f0 := hR.free 0
  have f1 := hR.free 1
  clear hb6 HY5 HW5 HR5 N2 hB hR
  cases b1 with
  | false =>
    go_wp2
    refine bodyPost_ret (v := .tuple #[.agg #[.int .i64 0, .int .i64 0], .int .i64 3]) (by simp [results, Tryz.results38, go_sem, r0, r1]) rfl ?_
    exact retF_mk (by rw [← HQ.out]; rfl) ((HB.out.setCell (by simp) _).setCell (by simp) _)
  | true =>
    cases b2 with
    | false =>
      go_wp2
      refine bodyPost_ret (v := .tuple #[.agg #[.int .i64 0, .int .i64 0], .int .i64 3]) (by simp [results, Tryz.results38, go_sem, r0, r1]) rfl ?_
      exact retF_mk (by rw [← HQ.out]; rfl) ((HB.out.setCell (by simp) _).setCell (by simp) _)
    | true =>
      go_wp2
      refine bodyPost_ret (v := .tuple #[.agg #[.int .i64 v1, .int .i64 v2], .int .i64 0]) (by simp [results, Tryz.results38, go_sem, r0, r1]) rfl ?_
      exact retF_mk (by rw [← HQ.out]; rfl) ((HB.out.setCell (by simp) _).setCell (by simp) _)
end Go.Proofs.YtfhkgpipbegpgaaGreatDoor
