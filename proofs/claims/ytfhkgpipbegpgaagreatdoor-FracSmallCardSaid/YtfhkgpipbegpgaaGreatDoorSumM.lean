/- The contracts of the reference's sum, Add and Sub. The contracts of the reference's Add and Sub. The contract of the reference's Sum. The contract of sums. The contract of KeptFracs, no fraction. The reference's Sum of no fraction. The contract of sums: no fraction; more than forty. For FracSmall: the variable edges, three fractions in a slice, what Make returns fits. -/
import Derived.Test.YtfhkgpipbegpgaaGreatDoorRefS
import Derived.Test.YtfhkgpipbegpgaaGreatDoorSumW
import Derived.Test.YtfhkgpipbegpgaaGreatDoorInv
import Derived.Test.YtfhkgpipbegpgaaGreatDoorLentM
import Derived.Test.YtfhkgpipbegpgaaGreatDoorRefR
import Derived.Test.YtfhkgpipbegpgaaGreatDoorOps2
import Derived.Deep.DeepCutAuto
namespace Go.Proofs.YtfhkgpipbegpgaaGreatDoor
open Go Go.RowKit

set_option maxRecDepth 100000 in
set_option maxHeartbeats 8000000 in
theorem rsum_any (n d : Int) (hf : FB n d) (h : rightB n d = true) (neg : Bool) (A B : Option Addr) (ca cb M K : Nat) (hK : 0 < K) (km : nd M ≤ 4) (kk : nd K ≤ 4) (q1 : Bool) (q2 : Nat) (qa qb qc : Int)
    (hs : sumP (decide (n < 0)) neg (n.natAbs * K) (M * d.natAbs) = (q1, q2)) (hq : outF (mkRat (sgn q1 q2) (d.natAbs * K)) = (qa, qb, qc)) (w : World) (hA : Dg w A ca M) (hB : Dg w B cb K) :
    Calls Tryz.prog 45 #[.agg #[.int .i64 n, .int .i64 d], .bool neg, .slice A (nd M) ca, .slice B (nd K) cb] w (RetF (qa, qb, qc) w) := by
  have hd0 := right_pos h
  have HF := Lib.hid (by
    have h1 := blw1 w (.cells #[.int .i64 n, .int .i64 d] 23)
    exact h1.trans ((blw1 _ (.cells #[.int .i64 0, .int .i64 0] 23)).mono h1.size) : Below w.heap.size w ((w.alloc (.cells #[.int .i64 n, .int .i64 d] 23)).alloc (.cells #[.int .i64 0, .int .i64 0] 23)))
  have HA := Lib.hid (hA.keep HF.out)
  have HB := Lib.hid (hB.keep HF.out)
  have HQ := Lib.hid (Qm.one w n d)
  have Wn := Lib.hid (fun W => whole_any n hf.n0 hf.n1 W)
  have Wd := Lib.hid (fun W => whole_any d hf.d0 hf.d1 W)
  have kn := nd_abs hf.n0 hf.n1
  have kd := nd_abs hf.d0 hf.d1
  have MUL : Hid (∀ W A ca B cb (a b : Nat), nd a ≤ 4 → nd b ≤ 4 → Dg W A ca a → Dg W B cb b → Calls Tryz.prog 46 #[.slice A (nd a) ca, .slice B (nd b) cb] W (RetD (a * b) W)) := Lib.hid fun W A ca B cb a b k1 k2 h1 h2 => mul_any A B ca cb a b (by omega) (by omega) W h1 h2
  obtain ⟨N, hN⟩ : ∃ N, n.natAbs = N := ⟨_, rfl⟩
  obtain ⟨D, hD⟩ : ∃ N, d.natAbs = N := ⟨_, rfl⟩
  rw [hN] at Wn kn hs
  rw [hD] at Wd kd hs hq
  have hDp : 0 < D := by omega
  have g1 : nd (N * K) ≤ 8 := Nat.le_trans (nd_mul _ _) (by omega)
  have g2 : nd (M * D) ≤ 8 := Nat.le_trans (nd_mul _ _) (by omega)
  have g3 : nd (D * K) ≤ 8 := Nat.le_trans (nd_mul _ _) (by omega)
  have g4 : 0 < D * K := Nat.mul_pos hDp hK
  obtain ⟨s, hsn⟩ : ∃ s, decide (n < 0) = s := ⟨_, rfl⟩
  rw [hsn] at hs
  obtain ⟨nM, hnM⟩ : ∃ x, nd M = x := ⟨_, rfl⟩
  obtain ⟨nK, hnK⟩ : ∃ x, nd K = x := ⟨_, rfl⟩
  have ML1 : Hid (∀ W X cX, Dg W X cX N → Dg W B cb K → Calls Tryz.prog 46 #[.slice X (nd N) cX, .slice B nK cb] W (RetD (N * K) W)) := Lib.hid fun W X cX h1 h2 => hnK ▸ MUL.out W X cX B cb N K kn kk h1 h2
  have ML2 : Hid (∀ W X cX, Dg W X cX D → Dg W A ca M → Calls Tryz.prog 46 #[.slice A nM ca, .slice X (nd D) cX] W (RetD (M * D) W)) := Lib.hid fun W X cX h1 h2 => hnM ▸ MUL.out W A ca X cX M D km kd h2 h1
  have ML3 : Hid (∀ W X cX, Dg W X cX D → Dg W B cb K → Calls Tryz.prog 46 #[.slice X (nd D) cX, .slice B nK cb] W (RetD (D * K) W)) := Lib.hid fun W X cX h1 h2 => hnK ▸ MUL.out W X cX B cb D K kd kk h1 h2
  obtain ⟨x, hx⟩ : ∃ x, N * K = x := ⟨_, rfl⟩
  obtain ⟨y, hy⟩ : ∃ x, M * D = x := ⟨_, rfl⟩
  obtain ⟨z, hz⟩ : ∃ x, D * K = x := ⟨_, rfl⟩
  rw [hx] at ML1 hs g1
  rw [hy] at ML2 hs g2
  rw [hz] at ML3 hq g3 g4
  have MK : Hid (∀ (sg : Bool) (r : Nat) W X cX Z cZ, sg = q1 → r = q2 → nd r ≤ 9 → Dg W X cX r → Dg W Z cZ z → Calls Tryz.prog 38 #[.bool sg, .slice X (nd r) cX, .slice Z (nd z) cZ] W (RetF (qa, qb, qc) W)) := Lib.hid fun sg r W X cX Z cZ e1 e2 k h1 h2 => by
    subst e1 e2
    have := make0_any sg X Z cX cZ r z g4 (by omega) (by omega) W h1 h2
    rw [red_out _ _ _ (by omega), hq] at this
    exact this
  have HS := Lib.hid hs
  have HSN := Lib.hid hsn
  rw [hnM, hnK]
  clear hnM hnK hx hy hz hN hD hs hsn hq hA hB hf h MUL hDp hd0 g4
  go_enter Tryz.func45, Tryz.ntmps45
  go_upto_region 1 with fail
  generalize (w.alloc (.cells #[.int .i64 n, .int .i64 d] 23)).alloc (.cells #[.int .i64 0, .int .i64 0] 23) = V1 at *
  go_cut [10, 11, 12] (fun s10 s11 s12 wx => ∃ X cX Y cY Z cZ, s10 = .slice X (nd x) cX ∧ s11 = .slice Y (nd y) cY ∧ s12 = .slice Z (nd z) cZ ∧ Dg wx X cX x ∧ Dg wx Y cY y ∧ Dg wx Z cZ z ∧ Qm w wx [(w.heap.size, 23, #[.int .i64 n, .int .i64 d])] (w.heap.size + 1))
  case first =>
    have SOF : Hid (∀ wx, (Qm w wx [(w.heap.size, 23, #[.int .i64 n, .int .i64 d])] (w.heap.size + 1) ∧ Below V1.heap.size V1 wx) → (wx.cell? ⟨w.heap.size, 0, none⟩ = some (.int .i64 n) ∧ wx.cell? ⟨w.heap.size, 1, none⟩ = some (.int .i64 d) ∧ Qm w wx [(w.heap.size, 23, #[.int .i64 n, .int .i64 d])] (w.heap.size + 1) ∧ Below V1.heap.size V1 wx)) := Lib.hid fun wx h => ⟨h.1.cell (i := 0) rfl (j := 0) rfl, h.1.cell (i := 0) rfl (j := 1) rfl, h⟩
    have hQ0 := HQ.out
    clear MK HS HSN
    go_region_held3 (fun wx => wx.cell? ⟨w.heap.size, 0, none⟩ = some (.int .i64 n) ∧ wx.cell? ⟨w.heap.size, 1, none⟩ = some (.int .i64 d) ∧ Qm w wx [(w.heap.size, 23, #[.int .i64 n, .int .i64 d])] (w.heap.size + 1) ∧ Below V1.heap.size V1 wx)
      (first | exact SOF.out _ ⟨hQ, hB⟩ | exact SOF.out _ ⟨hQ0.drew, Below.drew (Below.refl _ _)⟩)
      (first
        | (go_at_call 39; (with_reducible refine (Wn.out _).mono ?_); rintro e v ⟨An, cn, rfl, hDn, hb⟩; (have hQB := (by assumption : _ ∧ _ ∧ Qm w _ _ _ ∧ Below V1.heap.size V1 _).2.2); (have hQ := hQB.1.keep hb); (have hB := bchain hQB.2 hb))
        | (go_at_call 39; (with_reducible refine (Wd.out _).mono ?_); rintro e v ⟨Ad, cd, rfl, hDd, hb⟩; (replace hQ := hQ.keep hb); (replace hB := bchain hB hb); (replace hDx := hDx.keep hb); (try replace hDy := hDy.keep hb))
        | (go_at_call 46; (with_reducible refine (ML1.out _ _ _ hDn (HB.out.keep hB)).mono ?_); rintro e v ⟨Ax, cx, rfl, hDx, hb⟩; (replace hQ := hQ.keep hb); (replace hB := bchain hB hb))
        | (go_at_call 46; (with_reducible refine (ML2.out _ _ _ hDd (HA.out.keep hB)).mono ?_); rintro e v ⟨Ay, cy, rfl, hDy, hb⟩; (replace hQ := hQ.keep hb); (replace hB := bchain hB hb); (replace hDx := hDx.keep hb))
        | (go_at_call 46; (with_reducible refine (ML3.out _ _ _ hDd (HB.out.keep hB)).mono ?_); rintro e v ⟨Az, cz, rfl, hDz, hb⟩; (replace hQ := hQ.keep hb); (replace hB := bchain hB hb); (replace hDx := hDx.keep hb); (replace hDy := hDy.keep hb)))
    all_goals
      have HR := Lib.hid (And.intro hDx (And.intro hDy (And.intro hDz hQ)))
      clear hDn hDd hDx hDy hDz hQ hB hb hQ0 SOF hQB
      go_wp2
      go_meet
      exact ⟨_, _, _, _, _, _, rfl, rfl, rfl, HR.out⟩
  case rest =>
  obtain ⟨X, cX, Y, cY, Z, cZ, rfl, rfl, rfl, hX, hY, hZ, hQ⟩ := hcut
  have HX := Lib.hid hX
  have HY := Lib.hid hY
  have HZ := Lib.hid hZ
  have HQ2 := Lib.hid hQ
  have x0 := hQ.cell (i := 0) rfl (j := 0) (v := .int .i64 n) rfl
  clear hX hY hZ hQ HQ HA HB HF ML1 ML2 ML3 Wn Wd
  have t0 : decide (n < 0) = s := HSN.out
  by_cases hsg : s = neg
  · subst hsg
    have hq12 := HS.out
    unfold sumP at hq12
    rw [if_pos rfl] at hq12
    injection hq12 with e1 e2
    have k9 : nd (x + y) ≤ 9 := nd_add x y 8 g1 g2
    have AD := Lib.hid (radd_any X Y cX cY x y (by omega) (by omega) wc HX.out HY.out)
    have MK2 := Lib.hid (fun W X cX Z cZ h1 h2 => MK.out s (x + y) W X cX Z cZ e1 e2 k9 h1 h2)
    have t1 : (s == s) = true := by simp
    clear e1 e2 HS HSN
    go_wp2_with fail
    refine AD.out.mono ?_
    rintro e w3 ⟨R, cR, rfl, hR, hb⟩
    have HR := Lib.hid hR
    have HQ3 := Lib.hid (HQ2.out.keep hb)
    have HZ3 := Lib.hid (HZ.out.keep hb)
    clear hR hb
    go_wp2_with fail
    refine (MK2.out _ _ _ _ _ HR.out HZ3.out).mono ?_
    rintro e w4 ⟨rfl, hb⟩
    have HQ4 := Lib.hid (HQ3.out.keep hb)
    obtain ⟨⟨_, r0⟩, ⟨_, r1⟩, f0, f1⟩ := HQ4.out.ask
    clear hb
    go_wp2
    refine bodyPost_ret (v := .tuple #[.agg #[.int .i64 qa, .int .i64 qb], .int .i64 qc]) (by simp [results, Tryz.results45, go_sem, r0, r1]) rfl ?_
    exact retF_mk rfl ((HQ4.out.below.setCell HQ4.out.new _).setCell HQ4.out.new _)
  · have t1 : (s == neg) = false := by cases s <;> cases neg <;> simp_all
    by_cases hxy : x < y
    · have hq12 := HS.out
      unfold sumP at hq12
      rw [if_neg hsg, if_neg (by omega)] at hq12
      injection hq12 with e1 e2
      have k9 : nd (y - x) ≤ 9 := Nat.le_trans (nd_mono (Nat.sub_le _ _)) (by omega)
      have LS := Lib.hid (less_any X Y cX cY x y wc HX.out HY.out)
      rw [decide_eq_true hxy] at LS
      have SB : Hid (∀ W, Dg W X cX x → Dg W Y cY y → Calls Tryz.prog 70 #[.slice Y (nd y) cY, .slice X (nd x) cX] W (RetD (y - x) W)) := Lib.hid fun W h1 h2 => rsub_any Y X cY cX y x (by omega) (by omega) W h2 h1
      have MK2 := Lib.hid (fun W X cX Z cZ h1 h2 => MK.out neg (y - x) W X cX Z cZ e1 e2 k9 h1 h2)
      clear e1 e2 HS HSN hxy
      go_wp2_with fail
      refine LS.out.mono ?_
      rintro e w3 ⟨rfl, hb⟩
      have HQ3 := Lib.hid (HQ2.out.keep hb)
      have HX3 := Lib.hid (HX.out.keep hb)
      have HY3 := Lib.hid (HY.out.keep hb)
      have HZ3 := Lib.hid (HZ.out.keep hb)
      clear hb LS
      go_wp2_with fail
      refine (SB.out _ HX3.out HY3.out).mono ?_
      rintro e w4 ⟨R, cR, rfl, hR, hb⟩
      have HR := Lib.hid hR
      have HQ4 := Lib.hid (HQ3.out.keep hb)
      have HZ4 := Lib.hid (HZ3.out.keep hb)
      clear hR hb
      go_wp2_with fail
      refine (MK2.out _ _ _ _ _ HR.out HZ4.out).mono ?_
      rintro e w5 ⟨rfl, hb⟩
      have HQ5 := Lib.hid (HQ4.out.keep hb)
      obtain ⟨⟨_, r0⟩, ⟨_, r1⟩, f0, f1⟩ := HQ5.out.ask
      clear hb
      go_wp2
      refine bodyPost_ret (v := .tuple #[.agg #[.int .i64 qa, .int .i64 qb], .int .i64 qc]) (by simp [results, Tryz.results45, go_sem, r0, r1]) rfl ?_
      exact retF_mk rfl ((HQ5.out.below.setCell HQ5.out.new _).setCell HQ5.out.new _)
    · have hq12 := HS.out
      unfold sumP at hq12
      rw [if_neg hsg, if_pos (by omega)] at hq12
      injection hq12 with e1 e2
      have k9 : nd (x - y) ≤ 9 := Nat.le_trans (nd_mono (Nat.sub_le _ _)) (by omega)
      have LS := Lib.hid (less_any X Y cX cY x y wc HX.out HY.out)
      rw [decide_eq_false hxy] at LS
      have SB : Hid (∀ W, Dg W X cX x → Dg W Y cY y → Calls Tryz.prog 70 #[.slice X (nd x) cX, .slice Y (nd y) cY] W (RetD (x - y) W)) := Lib.hid fun W h1 h2 => rsub_any X Y cX cY x y (by omega) (by omega) W h1 h2
      have MK2 := Lib.hid (fun W X cX Z cZ h1 h2 => MK.out s (x - y) W X cX Z cZ e1 e2 k9 h1 h2)
      clear e1 e2 HS HSN hxy
      go_wp2_with fail
      refine LS.out.mono ?_
      rintro e w3 ⟨rfl, hb⟩
      have HQ3 := Lib.hid (HQ2.out.keep hb)
      have HX3 := Lib.hid (HX.out.keep hb)
      have HY3 := Lib.hid (HY.out.keep hb)
      have HZ3 := Lib.hid (HZ.out.keep hb)
      clear hb LS x0
      go_upto_region 6 with fail
      have SOF : Hid (∀ wx, (Qm w wx [(w.heap.size, 23, #[.int .i64 n, .int .i64 d])] (w.heap.size + 1)) → (wx.cell? ⟨w.heap.size, 0, none⟩ = some (.int .i64 n) ∧ Qm w wx [(w.heap.size, 23, #[.int .i64 n, .int .i64 d])] (w.heap.size + 1))) := Lib.hid fun wx h => ⟨h.cell (i := 0) rfl (j := 0) rfl, h⟩
      have hQ0 := HQ3.out
      go_region_held3 (fun wx => wx.cell? ⟨w.heap.size, 0, none⟩ = some (.int .i64 n) ∧ Qm w wx [(w.heap.size, 23, #[.int .i64 n, .int .i64 d])] (w.heap.size + 1))
        (first | exact SOF.out _ (hQ.store _ _) | exact SOF.out _ hQ | exact SOF.out _ hQ0.drew)
        (first
          | (go_at_call 70; (with_reducible refine (SB.out _ (HX3.out.keep (Below.drew (Below.refl _ _))) (HY3.out.keep (Below.drew (Below.refl _ _)))).mono ?_); rintro e v ⟨R, cR, rfl, hR, hb⟩; (have hQ := (by assumption : _ ∧ Qm w _ _ _).2.keep hb); (have hZ4 := (HZ3.out.keep (Below.drew (Below.refl _ _))).keep hb))
          | (go_at_call 38; (with_reducible refine (MK2.out _ _ _ _ _ hR hZ4).mono ?_); rintro e v ⟨rfl, hb⟩; (replace hQ := hQ.keep hb); (obtain ⟨⟨_, r0⟩, ⟨_, r1⟩, f0, f1⟩ := hQ.ask)))
      all_goals
        have HQ5 := Lib.hid hQ
        clear hQ hQ0 hb SOF
        go_wp2
        refine bodyPost_ret (v := .tuple #[.agg #[.int .i64 qa, .int .i64 qb], .int .i64 qc]) (by simp [results, Tryz.results45, go_sem, r0, r1]) rfl ?_
        exact retF_mk rfl ((HQ5.out.below.setCell HQ5.out.new _).setCell HQ5.out.new _)
end Go.Proofs.YtfhkgpipbegpgaaGreatDoor
namespace Go.Proofs.YtfhkgpipbegpgaaGreatDoor
open Go Go.RowKit

theorem sum_rat (s t : Bool) (N D M K : Nat) (hD : D ≠ 0) (hK : K ≠ 0) (h1 : Nat.gcd N D = 1) (h2 : Nat.gcd M K = 1) :
    outF (mkRat (sgn (sumP s t (N * K) (M * D)).1 (sumP s t (N * K) (M * D)).2) (D * K)) = addP s t N D M K := by
  rw [add_out s t N D M K hD hK h1 h2, sum_val, sgn_mul, sgn_mul]
set_option maxRecDepth 100000 in
set_option maxHeartbeats 2000000 in
theorem radd_bad1 (n d m k : Int) (hf : FB n d) (h : rightB n d = false) (w : World) :
    Calls Tryz.prog 17 #[.agg #[.int .i64 n, .int .i64 d], .agg #[.int .i64 m, .int .i64 k]] w (RetF (0, 0, 2) w) := by
  have R1 := rright_hid hf h
  have HQ := Lib.hid (Qm.two w n d m k)
  clear h hf
  go_enter Tryz.func17, Tryz.ntmps17
  go_upto_region 1 with fail
  generalize ((w.alloc (.cells #[.int .i64 n, .int .i64 d] 23)).alloc (.cells #[.int .i64 m, .int .i64 k] 23)).alloc (.cells #[.int .i64 0, .int .i64 0] 23) = V1 at *
  have x0 := HQ.out.cell (i := 0) rfl (j := 0) (v := .int .i64 n) rfl
  have x1 := HQ.out.cell (i := 0) rfl (j := 1) (v := .int .i64 d) rfl
  go_wp2_with fail
  refine (R1.out _).mono ?_
  rintro e w1 ⟨rfl, hb⟩
  have HQ1 := Lib.hid (HQ.out.keep hb)
  clear hb x0 x1 HQ R1
  obtain ⟨⟨_, r0⟩, ⟨_, r1⟩, f0, f1⟩ := HQ1.out.ask
  go_wp2
  refine bodyPost_ret (v := .tuple #[.agg #[.int .i64 0, .int .i64 0], .int .i64 2]) (by simp [results, Tryz.results17, go_sem, r0, r1]) rfl ?_
  exact retF_mk rfl ((HQ1.out.below.setCell HQ1.out.new _).setCell HQ1.out.new _)
set_option maxRecDepth 100000 in
set_option maxHeartbeats 2000000 in
theorem radd_bad2 (n d m k : Int) (hf : FB n d) (hg : FB m k) (h : rightB n d = true) (h' : rightB m k = false) (w : World) :
    Calls Tryz.prog 17 #[.agg #[.int .i64 n, .int .i64 d], .agg #[.int .i64 m, .int .i64 k]] w (RetF (0, 0, 2) w) := by
  have R1 := rright_hid hf h
  have R2 := rright_hid hg h'
  have HQ := Lib.hid (Qm.two w n d m k)
  clear h hf h' hg
  go_enter Tryz.func17, Tryz.ntmps17
  go_upto_region 1 with fail
  generalize ((w.alloc (.cells #[.int .i64 n, .int .i64 d] 23)).alloc (.cells #[.int .i64 m, .int .i64 k] 23)).alloc (.cells #[.int .i64 0, .int .i64 0] 23) = V1 at *
  have x0 := HQ.out.cell (i := 0) rfl (j := 0) (v := .int .i64 n) rfl
  have x1 := HQ.out.cell (i := 0) rfl (j := 1) (v := .int .i64 d) rfl
  go_wp2_with fail
  refine (R1.out _).mono ?_
  rintro e w1 ⟨rfl, hb⟩
  have HQ1 := Lib.hid (HQ.out.keep hb)
  clear hb x0 x1 HQ R1
  have y0 := HQ1.out.cell (i := 1) rfl (j := 0) (v := .int .i64 m) rfl
  have y1 := HQ1.out.cell (i := 1) rfl (j := 1) (v := .int .i64 k) rfl
  go_wp2_with fail
  refine (R2.out _).mono ?_
  rintro e w2 ⟨rfl, hb⟩
  have HQ2 := Lib.hid (HQ1.out.keep hb)
  clear hb y0 y1 HQ1 R2
  obtain ⟨⟨_, r0⟩, ⟨_, r1⟩, f0, f1⟩ := HQ2.out.ask
  go_wp2
  refine bodyPost_ret (v := .tuple #[.agg #[.int .i64 0, .int .i64 0], .int .i64 2]) (by simp [results, Tryz.results17, go_sem, r0, r1]) rfl ?_
  exact retF_mk rfl ((HQ2.out.below.setCell HQ2.out.new _).setCell HQ2.out.new _)
set_option maxRecDepth 100000 in
set_option maxHeartbeats 8000000 in
theorem radd_ok (n d m k : Int) (hf : FB n d) (hg : FB m k) (h : rightB n d = true) (h' : rightB m k = true) (w : World) :
    Calls Tryz.prog 17 #[.agg #[.int .i64 n, .int .i64 d], .agg #[.int .i64 m, .int .i64 k]] w (RetF (outF (toR n d + toR m k)) w) := by
  obtain ⟨⟨qa, qb, qc⟩, hq⟩ : ∃ q, outF (toR n d + toR m k) = q := ⟨_, rfl⟩
  rw [hq]
  have R1 := rright_hid hf h
  have R2 := rright_hid hg h'
  have Wm := Lib.hid (fun W => whole_any m hg.n0 hg.n1 W)
  have Wk := Lib.hid (fun W => whole_any k hg.d0 hg.d1 W)
  have km := nd_abs hg.n0 hg.n1
  have kk := nd_abs hg.d0 hg.d1
  have hd0 := right_pos h
  have hk0 := right_pos h'
  obtain ⟨⟨s1, s2⟩, hs12⟩ : ∃ q, sumP (decide (n < 0)) (decide (m < 0)) (n.natAbs * k.natAbs) (m.natAbs * d.natAbs) = q := ⟨_, rfl⟩
  have hMQ : outF (mkRat (sgn s1 s2) (d.natAbs * k.natAbs)) = (qa, qb, qc) := by
    have := sum_rat (decide (n < 0)) (decide (m < 0)) n.natAbs d.natAbs m.natAbs k.natAbs (by omega) (by omega) (right_gcd h) (right_gcd h')
    rw [hs12, add_val h h', hq] at this
    exact this
  have M0 : Hid (∀ W A ca B cb, Dg W A ca m.natAbs → Dg W B cb k.natAbs → Calls Tryz.prog 45 #[.agg #[.int .i64 n, .int .i64 d], .bool (decide (m < 0)), .slice A (nd m.natAbs) ca, .slice B (nd k.natAbs) cb] W (RetF (qa, qb, qc) W)) := Lib.hid fun W A ca B cb h1 h2 =>
    rsum_any n d hf h (decide (m < 0)) A B ca cb m.natAbs k.natAbs (by omega) (by omega) (by omega) s1 s2 qa qb qc hs12 hMQ W h1 h2
  obtain ⟨sg, hsg⟩ : ∃ s, decide (m < 0) = s := ⟨_, rfl⟩
  rw [hsg] at M0
  clear hMQ hs12
  obtain ⟨M, hM⟩ : ∃ N, m.natAbs = N := ⟨_, rfl⟩
  obtain ⟨K, hK⟩ : ∃ N, k.natAbs = N := ⟨_, rfl⟩
  rw [hM] at Wm km
  rw [hK] at Wk kk
  rw [hM, hK] at M0
  clear hM hK km kk hd0 hk0
  have HQ := Lib.hid (Qm.two w n d m k)
  clear hq h hf h' hg
  go_enter Tryz.func17, Tryz.ntmps17
  go_upto_region 1 with fail
  generalize ((w.alloc (.cells #[.int .i64 n, .int .i64 d] 23)).alloc (.cells #[.int .i64 m, .int .i64 k] 23)).alloc (.cells #[.int .i64 0, .int .i64 0] 23) = V1 at *
  have x0 := HQ.out.cell (i := 0) rfl (j := 0) (v := .int .i64 n) rfl
  have x1 := HQ.out.cell (i := 0) rfl (j := 1) (v := .int .i64 d) rfl
  go_wp2_with fail
  refine (R1.out _).mono ?_
  rintro e w1 ⟨rfl, hb⟩
  have HQ1 := Lib.hid (HQ.out.keep hb)
  clear hb x0 x1 HQ R1
  have y0 := HQ1.out.cell (i := 1) rfl (j := 0) (v := .int .i64 m) rfl
  have y1 := HQ1.out.cell (i := 1) rfl (j := 1) (v := .int .i64 k) rfl
  go_wp2_with fail
  refine (R2.out _).mono ?_
  rintro e w2 ⟨rfl, hb⟩
  have HQ2 := Lib.hid (HQ1.out.keep hb)
  clear hb y0 y1 HQ1 R2
  go_upto_region 3 with fail
  have SOF : Hid (∀ wx, Qm w wx [(w.heap.size, 23, #[.int .i64 n, .int .i64 d]), (w.heap.size + 1, 23, #[.int .i64 m, .int .i64 k])] (w.heap.size + 1 + 1) → (wx.cell? ⟨w.heap.size, 0, none⟩ = some (.int .i64 n) ∧ wx.cell? ⟨w.heap.size, 1, none⟩ = some (.int .i64 d) ∧ wx.cell? ⟨w.heap.size + 1, 0, none⟩ = some (.int .i64 m) ∧ wx.cell? ⟨w.heap.size + 1, 1, none⟩ = some (.int .i64 k) ∧ Qm w wx [(w.heap.size, 23, #[.int .i64 n, .int .i64 d]), (w.heap.size + 1, 23, #[.int .i64 m, .int .i64 k])] (w.heap.size + 1 + 1))) := Lib.hid fun wx h => ⟨h.cell (i := 0) rfl (j := 0) rfl, h.cell (i := 0) rfl (j := 1) rfl, h.cell (i := 1) rfl (j := 0) rfl, h.cell (i := 1) rfl (j := 1) rfl, h⟩
  have hQ0 := HQ2.out
  clear HQ2
  go_region_held3 (fun wx => wx.cell? ⟨w.heap.size, 0, none⟩ = some (.int .i64 n) ∧ wx.cell? ⟨w.heap.size, 1, none⟩ = some (.int .i64 d) ∧ wx.cell? ⟨w.heap.size + 1, 0, none⟩ = some (.int .i64 m) ∧ wx.cell? ⟨w.heap.size + 1, 1, none⟩ = some (.int .i64 k) ∧ Qm w wx [(w.heap.size, 23, #[.int .i64 n, .int .i64 d]), (w.heap.size + 1, 23, #[.int .i64 m, .int .i64 k])] (w.heap.size + 1 + 1))
    (first | exact SOF.out _ (hQ.store _ _) | exact SOF.out _ hQ | exact SOF.out _ hQ0.drew)
    (first
      | (go_at_call 39; (with_reducible refine (Wm.out _).mono ?_); rintro e v ⟨Am, cm, rfl, hDm, hb⟩; (have hQ := (by assumption : _ ∧ _ ∧ _ ∧ _ ∧ Qm w _ _ _).2.2.2.2.keep hb))
      | (go_at_call 39; (with_reducible refine (Wk.out _).mono ?_); rintro e v ⟨Ak, ck, rfl, hDk, hb⟩; (replace hQ := hQ.keep hb); (replace hDm := hDm.keep hb))
      | (go_at_call 45; (with_reducible refine (M0.out _ _ _ _ _ hDm hDk).mono ?_); rintro e v ⟨rfl, hb⟩; (replace hQ := hQ.keep hb); (obtain ⟨⟨_, r0⟩, ⟨_, r1⟩, f0, f1⟩ := hQ.ask)))
  all_goals
    have HQ9 := Lib.hid hQ
    clear hQ hQ0 hb SOF
    go_wp2
    refine bodyPost_ret (v := .tuple #[.agg #[.int .i64 qa, .int .i64 qb], .int .i64 qc]) (by simp [results, Tryz.results17, go_sem, r0, r1]) rfl ?_
    exact retF_mk rfl ((HQ9.out.below.setCell HQ9.out.new _).setCell HQ9.out.new _)
set_option maxRecDepth 100000 in
set_option maxHeartbeats 2000000 in
theorem rsub_bad1 (n d m k : Int) (hf : FB n d) (h : rightB n d = false) (w : World) :
    Calls Tryz.prog 18 #[.agg #[.int .i64 n, .int .i64 d], .agg #[.int .i64 m, .int .i64 k]] w (RetF (0, 0, 2) w) := by
  have R1 := rright_hid hf h
  have HQ := Lib.hid (Qm.two w n d m k)
  clear h hf
  go_enter Tryz.func18, Tryz.ntmps18
  go_upto_region 1 with fail
  generalize ((w.alloc (.cells #[.int .i64 n, .int .i64 d] 23)).alloc (.cells #[.int .i64 m, .int .i64 k] 23)).alloc (.cells #[.int .i64 0, .int .i64 0] 23) = V1 at *
  have x0 := HQ.out.cell (i := 0) rfl (j := 0) (v := .int .i64 n) rfl
  have x1 := HQ.out.cell (i := 0) rfl (j := 1) (v := .int .i64 d) rfl
  go_wp2_with fail
  refine (R1.out _).mono ?_
  rintro e w1 ⟨rfl, hb⟩
  have HQ1 := Lib.hid (HQ.out.keep hb)
  clear hb x0 x1 HQ R1
  obtain ⟨⟨_, r0⟩, ⟨_, r1⟩, f0, f1⟩ := HQ1.out.ask
  go_wp2
  refine bodyPost_ret (v := .tuple #[.agg #[.int .i64 0, .int .i64 0], .int .i64 2]) (by simp [results, Tryz.results18, go_sem, r0, r1]) rfl ?_
  exact retF_mk rfl ((HQ1.out.below.setCell HQ1.out.new _).setCell HQ1.out.new _)
set_option maxRecDepth 100000 in
set_option maxHeartbeats 2000000 in
theorem rsub_bad2 (n d m k : Int) (hf : FB n d) (hg : FB m k) (h : rightB n d = true) (h' : rightB m k = false) (w : World) :
    Calls Tryz.prog 18 #[.agg #[.int .i64 n, .int .i64 d], .agg #[.int .i64 m, .int .i64 k]] w (RetF (0, 0, 2) w) := by
  have R1 := rright_hid hf h
  have R2 := rright_hid hg h'
  have HQ := Lib.hid (Qm.two w n d m k)
  clear h hf h' hg
  go_enter Tryz.func18, Tryz.ntmps18
  go_upto_region 1 with fail
  generalize ((w.alloc (.cells #[.int .i64 n, .int .i64 d] 23)).alloc (.cells #[.int .i64 m, .int .i64 k] 23)).alloc (.cells #[.int .i64 0, .int .i64 0] 23) = V1 at *
  have x0 := HQ.out.cell (i := 0) rfl (j := 0) (v := .int .i64 n) rfl
  have x1 := HQ.out.cell (i := 0) rfl (j := 1) (v := .int .i64 d) rfl
  go_wp2_with fail
  refine (R1.out _).mono ?_
  rintro e w1 ⟨rfl, hb⟩
  have HQ1 := Lib.hid (HQ.out.keep hb)
  clear hb x0 x1 HQ R1
  have y0 := HQ1.out.cell (i := 1) rfl (j := 0) (v := .int .i64 m) rfl
  have y1 := HQ1.out.cell (i := 1) rfl (j := 1) (v := .int .i64 k) rfl
  go_wp2_with fail
  refine (R2.out _).mono ?_
  rintro e w2 ⟨rfl, hb⟩
  have HQ2 := Lib.hid (HQ1.out.keep hb)
  clear hb y0 y1 HQ1 R2
  obtain ⟨⟨_, r0⟩, ⟨_, r1⟩, f0, f1⟩ := HQ2.out.ask
  go_wp2
  refine bodyPost_ret (v := .tuple #[.agg #[.int .i64 0, .int .i64 0], .int .i64 2]) (by simp [results, Tryz.results18, go_sem, r0, r1]) rfl ?_
  exact retF_mk rfl ((HQ2.out.below.setCell HQ2.out.new _).setCell HQ2.out.new _)
set_option maxRecDepth 100000 in
set_option maxHeartbeats 8000000 in
theorem rsub_ok (n d m k : Int) (hf : FB n d) (hg : FB m k) (h : rightB n d = true) (h' : rightB m k = true) (w : World) :
    Calls Tryz.prog 18 #[.agg #[.int .i64 n, .int .i64 d], .agg #[.int .i64 m, .int .i64 k]] w (RetF (outF (toR n d - toR m k)) w) := by
  obtain ⟨⟨qa, qb, qc⟩, hq⟩ : ∃ q, outF (toR n d - toR m k) = q := ⟨_, rfl⟩
  rw [hq]
  have R1 := rright_hid hf h
  have R2 := rright_hid hg h'
  have Wm := Lib.hid (fun W => whole_any m hg.n0 hg.n1 W)
  have Wk := Lib.hid (fun W => whole_any k hg.d0 hg.d1 W)
  have km := nd_abs hg.n0 hg.n1
  have kk := nd_abs hg.d0 hg.d1
  have hd0 := right_pos h
  have hk0 := right_pos h'
  obtain ⟨⟨s1, s2⟩, hs12⟩ : ∃ q, sumP (decide (n < 0)) (decide (0 < m)) (n.natAbs * k.natAbs) (m.natAbs * d.natAbs) = q := ⟨_, rfl⟩
  have hMQ : outF (mkRat (sgn s1 s2) (d.natAbs * k.natAbs)) = (qa, qb, qc) := by
    have := sum_rat (decide (n < 0)) (decide (0 < m)) n.natAbs d.natAbs m.natAbs k.natAbs (by omega) (by omega) (right_gcd h) (right_gcd h')
    rw [hs12, sub_val h h', hq] at this
    exact this
  have M0 : Hid (∀ W A ca B cb, Dg W A ca m.natAbs → Dg W B cb k.natAbs → Calls Tryz.prog 45 #[.agg #[.int .i64 n, .int .i64 d], .bool (decide (0 < m)), .slice A (nd m.natAbs) ca, .slice B (nd k.natAbs) cb] W (RetF (qa, qb, qc) W)) := Lib.hid fun W A ca B cb h1 h2 =>
    rsum_any n d hf h (decide (0 < m)) A B ca cb m.natAbs k.natAbs (by omega) (by omega) (by omega) s1 s2 qa qb qc hs12 hMQ W h1 h2
  obtain ⟨sg, hsg⟩ : ∃ s, decide (0 < m) = s := ⟨_, rfl⟩
  rw [hsg] at M0
  clear hMQ hs12
  obtain ⟨M, hM⟩ : ∃ N, m.natAbs = N := ⟨_, rfl⟩
  obtain ⟨K, hK⟩ : ∃ N, k.natAbs = N := ⟨_, rfl⟩
  rw [hM] at Wm km
  rw [hK] at Wk kk
  rw [hM, hK] at M0
  clear hM hK km kk hd0 hk0
  have HQ := Lib.hid (Qm.two w n d m k)
  clear hq h hf h' hg
  go_enter Tryz.func18, Tryz.ntmps18
  go_upto_region 1 with fail
  generalize ((w.alloc (.cells #[.int .i64 n, .int .i64 d] 23)).alloc (.cells #[.int .i64 m, .int .i64 k] 23)).alloc (.cells #[.int .i64 0, .int .i64 0] 23) = V1 at *
  have x0 := HQ.out.cell (i := 0) rfl (j := 0) (v := .int .i64 n) rfl
  have x1 := HQ.out.cell (i := 0) rfl (j := 1) (v := .int .i64 d) rfl
  go_wp2_with fail
  refine (R1.out _).mono ?_
  rintro e w1 ⟨rfl, hb⟩
  have HQ1 := Lib.hid (HQ.out.keep hb)
  clear hb x0 x1 HQ R1
  have y0 := HQ1.out.cell (i := 1) rfl (j := 0) (v := .int .i64 m) rfl
  have y1 := HQ1.out.cell (i := 1) rfl (j := 1) (v := .int .i64 k) rfl
  go_wp2_with fail
  refine (R2.out _).mono ?_
  rintro e w2 ⟨rfl, hb⟩
  have HQ2 := Lib.hid (HQ1.out.keep hb)
  clear hb y0 y1 HQ1 R2
  go_upto_region 3 with fail
  have SOF : Hid (∀ wx, Qm w wx [(w.heap.size, 23, #[.int .i64 n, .int .i64 d]), (w.heap.size + 1, 23, #[.int .i64 m, .int .i64 k])] (w.heap.size + 1 + 1) → (wx.cell? ⟨w.heap.size, 0, none⟩ = some (.int .i64 n) ∧ wx.cell? ⟨w.heap.size, 1, none⟩ = some (.int .i64 d) ∧ wx.cell? ⟨w.heap.size + 1, 0, none⟩ = some (.int .i64 m) ∧ wx.cell? ⟨w.heap.size + 1, 1, none⟩ = some (.int .i64 k) ∧ Qm w wx [(w.heap.size, 23, #[.int .i64 n, .int .i64 d]), (w.heap.size + 1, 23, #[.int .i64 m, .int .i64 k])] (w.heap.size + 1 + 1))) := Lib.hid fun wx h => ⟨h.cell (i := 0) rfl (j := 0) rfl, h.cell (i := 0) rfl (j := 1) rfl, h.cell (i := 1) rfl (j := 0) rfl, h.cell (i := 1) rfl (j := 1) rfl, h⟩
  have hQ0 := HQ2.out
  clear HQ2
  go_region_held3 (fun wx => wx.cell? ⟨w.heap.size, 0, none⟩ = some (.int .i64 n) ∧ wx.cell? ⟨w.heap.size, 1, none⟩ = some (.int .i64 d) ∧ wx.cell? ⟨w.heap.size + 1, 0, none⟩ = some (.int .i64 m) ∧ wx.cell? ⟨w.heap.size + 1, 1, none⟩ = some (.int .i64 k) ∧ Qm w wx [(w.heap.size, 23, #[.int .i64 n, .int .i64 d]), (w.heap.size + 1, 23, #[.int .i64 m, .int .i64 k])] (w.heap.size + 1 + 1))
    (first | exact SOF.out _ (hQ.store _ _) | exact SOF.out _ hQ | exact SOF.out _ hQ0.drew)
    (first
      | (go_at_call 39; (with_reducible refine (Wm.out _).mono ?_); rintro e v ⟨Am, cm, rfl, hDm, hb⟩; (have hQ := (by assumption : _ ∧ _ ∧ _ ∧ _ ∧ Qm w _ _ _).2.2.2.2.keep hb))
      | (go_at_call 39; (with_reducible refine (Wk.out _).mono ?_); rintro e v ⟨Ak, ck, rfl, hDk, hb⟩; (replace hQ := hQ.keep hb); (replace hDm := hDm.keep hb))
      | (go_at_call 45; (with_reducible refine (M0.out _ _ _ _ _ hDm hDk).mono ?_); rintro e v ⟨rfl, hb⟩; (replace hQ := hQ.keep hb); (obtain ⟨⟨_, r0⟩, ⟨_, r1⟩, f0, f1⟩ := hQ.ask)))
  all_goals
    have HQ9 := Lib.hid hQ
    clear hQ hQ0 hb SOF
    go_wp2
    refine bodyPost_ret (v := .tuple #[.agg #[.int .i64 qa, .int .i64 qb], .int .i64 qc]) (by simp [results, Tryz.results18, go_sem, r0, r1]) rfl ?_
    exact retF_mk rfl ((HQ9.out.below.setCell HQ9.out.new _).setCell HQ9.out.new _)
end Go.Proofs.YtfhkgpipbegpgaaGreatDoor
namespace Go.Proofs.YtfhkgpipbegpgaaGreatDoor
open Go Go.RowKit

theorem radd_R (x : Rat) (n d : Int) (hx : fits x = true) (hf : FB n d) (h : rightB n d = true) (w : World) :
    Calls Tryz.prog 17 #[.agg #[.int .i64 x.num, .int .i64 (x.den : Nat)], .agg #[.int .i64 n, .int .i64 d]] w (RetF (outF (x + toR n d)) w) := by
  obtain ⟨hb, hr⟩ := right_of hx rfl rfl
  have := radd_ok x.num x.den n d hb hf hr h w
  rw [toR_R] at this
  exact this
/-- The memory of Sum, and what has been added up. -/
structure SQ (w W : World) (b off : Nat) (fs : List (Int × Int)) (p : Nat) (u v : Int) : Prop where
  sm : SM w W b off fs
  acc : Blk W p 23 #[.int .i64 u, .int .i64 v]
  new : w.heap.size < p
theorem SQ.keep {w W W' : World} {b off p : Nat} {fs : List (Int × Int)} {u v : Int} (h : SQ w W b off fs p u v) (hb : Below W.heap.size W W') : SQ w W' b off fs p u v :=
  ⟨h.sm.keep hb, h.acc.keep hb h.acc.lt, h.new⟩
theorem SQ.drew {w W : World} {b off p : Nat} {fs : List (Int × Int)} {u v : Int} (h : SQ w W b off fs p u v) : SQ w W.drew b off fs p u v := h.keep (Below.drew (Below.refl _ _))
theorem SQ.fresh {w W : World} {b off p : Nat} {fs : List (Int × Int)} {u v : Int} (h : SQ w W b off fs p u v) (a c : Int) :
    SQ w (W.alloc (.cells #[.int .i64 a, .int .i64 c] 23)) b off fs p u v ∧ Blk (W.alloc (.cells #[.int .i64 a, .int .i64 c] 23)) W.heap.size 23 #[.int .i64 a, .int .i64 c] := ⟨h.keep (below1 _ _), Blk.new _ _ _⟩
theorem SQ.late {w W W' : World} {b off p : Nat} {fs : List (Int × Int)} {u v : Int} (h : SQ w W b off fs p u v) (hb : Below (W.alloc (.cells #[.int .i64 0, .int .i64 0] 23)).drew.heap.size (W.alloc (.cells #[.int .i64 0, .int .i64 0] 23)).drew W') (a c : Int) :
    SQ w ((W'.setCell ⟨W.heap.size, 0, none⟩ (.int .i64 a)).setCell ⟨W.heap.size, 1, none⟩ (.int .i64 c)) b off fs p u v ∧ Blk ((W'.setCell ⟨W.heap.size, 0, none⟩ (.int .i64 a)).setCell ⟨W.heap.size, 1, none⟩ (.int .i64 c)) W.heap.size 23 #[.int .i64 a, .int .i64 c] := by
  have h1 : Blk (W.alloc (.cells #[.int .i64 0, .int .i64 0] 23)).drew W.heap.size 23 #[.int .i64 0, .int .i64 0] := Blk.new _ _ _
  exact ⟨h.keep (((bchain (Below.drew (below1 W _)) hb).setCell (Nat.le_refl _) _).setCell (Nat.le_refl _) _), ((h1.keep hb h1.lt).set 0 _).set 1 _⟩
theorem SQ.put {w W : World} {b off p : Nat} {fs : List (Int × Int)} {u v : Int} (h : SQ w W b off fs p u v) (a c : Int) :
    SQ w ((W.setCell ⟨p, 0, none⟩ (.int .i64 a)).setCell ⟨p, 1, none⟩ (.int .i64 c)) b off fs p a c :=
  ⟨(h.sm.set h.new _ _).set h.new _ _, (h.acc.set 0 _).set 1 _, h.new⟩
set_option maxRecDepth 100000 in
set_option maxHeartbeats 8000000 in
theorem rsumn_any (b off : Nat) (fs : List (Int × Int)) (cap : Nat) (hn : fs.length ≤ 1000000) (hfs : ∀ x ∈ fs, FB x.1 x.2) (w : World) (hR : RowF w b off fs) :
    Calls Tryz.prog 36 #[.slice (some ⟨b, off, none⟩) fs.length cap] w (RetF (sumF fs) w) := by
  obtain ⟨N, hN⟩ : ∃ N, fs.length = N := ⟨_, rfl⟩
  rw [hN] at hn ⊢
  have h0 := SM.start w hR
  have hS : SQ w ((w.alloc (.cells #[.int .i64 0, .int .i64 0] 23)).alloc (.cells #[.int .i64 0, .int .i64 1] 23)) b off fs (w.heap.size + 1) 0 1 :=
    ⟨h0.keep (below1 _ _), by have := Blk.new (w.alloc (.cells #[.int .i64 0, .int .i64 0] 23)) 23 #[.int .i64 0, .int .i64 1]; simpa using this, by omega⟩
  have HFS := Lib.hid hfs
  have HN := Lib.hid hN
  clear hR hfs hN h0
  go_enter Tryz.func36, Tryz.ntmps36
  go_wp2
  generalize (w.alloc (.cells #[.int .i64 0, .int .i64 0] 23)).alloc (.cells #[.int .i64 0, .int .i64 1] 23) = W0 at *
  obtain ⟨p, hp⟩ : ∃ p, p = w.heap.size + 1 := ⟨_, rfl⟩
  rw [← hp] at hS ⊢
  clear hp
  have HS := Lib.hid hS
  clear hS
  go_loopw [5] (fun s5 wr => ∃ k : Nat, k ≤ N ∧ s5 = .int .i64 k ∧ SQ w wr b off fs p 0 1 ∧ (∀ i, i < k → ∀ x, fs[i]? = some x → rightB x.1 x.2 = true)) (fun s5 _ => N - (intOf s5).toNat)
  case atStart => exact ⟨0, by omega, rfl, HS.out, fun i hi => by omega⟩
  case round =>
    obtain ⟨k, hk, rfl, hM, hall⟩ := hrel
    have HM := Lib.hid hM
    have HA := Lib.hid hall
    clear hM hall
    by_cases hlt : k < N
    · obtain ⟨⟨n, d⟩, hx⟩ : ∃ x, fs[k]? = some x := ⟨_, List.getElem?_eq_getElem (by rw [HN.out]; exact hlt)⟩
      have hfb := HFS.out _ (List.mem_of_getElem? hx)
      have t1 : decide ((k : Int) < (N : Int)) = true := decide_eq_true (by omega)
      have t1' : decide (k < N) = true := decide_eq_true hlt
      have i1 : 0 ≤ (k : Int) := by omega
      have c0 := HM.out.sm.row.num k n d hx
      have c1 := HM.out.sm.row.den k n d hx
      have HX := Lib.hid hx
      clear hx
      cases hr : rightB n d
      · have R1 := rright_hid hfb hr
        have HQ : Hid (sumF fs = (0, 0, 2)) := Lib.hid (by
          unfold sumF
          rw [if_neg]
          intro h
          have := List.all_eq_true.1 h _ (List.mem_of_getElem? HX.out)
          simp only at this
          rw [hr] at this; cases this)
        rw [HQ.out]
        clear hr hfb
        go_wp2_with fail
        refine (R1.out _).mono ?_
        rintro e w2 ⟨rfl, hb⟩
        have hM2 := (HM.out.keep hb).sm
        clear hb c0 c1
        have r0 := hM2.br.cell (j := 0) (v := .int .i64 0) rfl
        have r1 := hM2.br.cell (j := 1) (v := .int .i64 0) rfl
        have f0 := hM2.br.free 0
        have f1 := hM2.br.free 1
        have hB9 := hM2.below
        clear hM2
        go_wp2
        refine bodyPost_ret (v := .tuple #[.agg #[.int .i64 0, .int .i64 0], .int .i64 2]) (by simp [results, Tryz.results36, go_sem, r0, r1]) rfl ?_
        exact retF_mk rfl ((hB9.setCell (by simp) _).setCell (by simp) _)
      · have R1 := rright_hid hfb hr
        have HR := Lib.hid hr
        clear hr hfb
        go_wp2_with fail
        refine (R1.out _).mono ?_
        rintro e w2 ⟨rfl, hb⟩
        have HM2 := Lib.hid (HM.out.keep hb)
        clear hb c0 c1
        go_wp2
        go_roundw
        case rel => exact ⟨k + 1, by omega, by go_num, HM2.out, fun i hi x hx => by
          rcases Nat.lt_or_ge i k with h | h
          · exact HA.out i h x hx
          · obtain rfl : i = k := by omega
            rw [HX.out] at hx; cases hx; exact HR.out⟩
        case measure => simp [intOf]; omega
    · obtain rfl : k = N := by omega
      have t1 : decide ((k : Int) < (k : Int)) = false := decide_eq_false (by omega)
      have t1' : decide (k < k) = false := decide_eq_false (by omega)
      have HQ : Hid (sumF fs = sumR 0 fs) := Lib.hid (by
        unfold sumF
        rw [if_pos]
        rw [List.all_eq_true]
        intro x hx
        obtain ⟨i, hi⟩ := List.getElem?_of_mem hx
        have : i < fs.length := by
          rcases Nat.lt_or_ge i fs.length with h | h
          · exact h
          · rw [List.getElem?_eq_none h] at hi; cases hi
        exact HA.out i (by rw [← HN.out]; exact this) x hi)
      have HALL := HA
      clear hlt HA HS
      go_wp2

      go_loopw [6] (fun s6 wr => ∃ (j : Nat) (x : Rat), j ≤ k ∧ s6 = .int .i64 j ∧ fits x = true ∧ SQ w wr b off fs p x.num (x.den : Nat) ∧ sumR 0 fs = sumR x (fs.drop j)) (fun s6 _ => k - (intOf s6).toNat)
      case atStart => exact ⟨0, 0, by omega, rfl, by decide, HM.out, rfl⟩
      case round =>
        obtain ⟨j, x, hj, rfl, hfit, hM, hsum⟩ := hrel
        have HF := Lib.hid hfit
        have HSU := Lib.hid hsum
        have HQ0 := Lib.hid hM
        clear hM hsum hfit HM
        by_cases hlt : j < k
        · obtain ⟨⟨n, d⟩, hx⟩ : ∃ x, fs[j]? = some x := ⟨_, List.getElem?_eq_getElem (by rw [HN.out]; exact hlt)⟩
          have hfb := HFS.out _ (List.mem_of_getElem? hx)
          have hr : rightB n d = true := HALL.out j hlt _ hx
          have t2 : decide ((j : Int) < (k : Int)) = true := decide_eq_true (by omega)
          have t2' : decide (j < k) = true := decide_eq_true hlt
          have i1 : 0 ≤ (j : Int) := by omega
          have hdrop : fs.drop j = (n, d) :: fs.drop (j + 1) := by
            rw [List.drop_eq_getElem_cons (by rw [HN.out]; exact hlt)]
            congr 1
            rw [List.getElem?_eq_getElem (by rw [HN.out]; exact hlt)] at hx
            exact Option.some.inj hx
          obtain ⟨un, hun⟩ : ∃ a, x.num = a := ⟨_, rfl⟩
          obtain ⟨ud, hud⟩ : ∃ a : Int, (x.den : Int) = a := ⟨_, rfl⟩
          rw [hun, hud] at HQ0
          obtain ⟨⟨qa, qb, qc⟩, hq⟩ : ∃ q, outF (x + toR n d) = q := ⟨_, rfl⟩
          have AD : Hid (∀ w, Calls Tryz.prog 17 #[.agg #[.int .i64 un, .int .i64 ud], .agg #[.int .i64 n, .int .i64 d]] w fun e w' => e = .returned (.tuple #[.agg #[.int .i64 qa, .int .i64 qb], .int .i64 qc]) ∧ Below w.heap.size w w') := Lib.hid fun w => by
            have := radd_R x n d HF.out hfb hr w
            rw [hun, hud, hq] at this
            exact this
          have HQQ := Lib.hid hq
          have HDR := Lib.hid hdrop
          have c0 := HQ0.out.sm.row.num j n d hx
          have c1 := HQ0.out.sm.row.den j n d hx
          have d0 := HQ0.out.acc.cell (j := 0) (v := .int .i64 un) rfl
          have d1 := HQ0.out.acc.cell (j := 1) (v := .int .i64 ud) rfl
          have HX := Lib.hid hx
          clear hx hr hfb hdrop hun hud hq
          go_upto_region 10 with fail
          go_cut [7, 8] (fun s7 s8 wx => ∃ q : Nat, s7 = .pointer (some ⟨q, 0, none⟩) ∧ s8 = .int .i64 qc ∧ SQ w wx b off fs p un ud ∧ Blk wx q 23 #[.int .i64 qa, .int .i64 qb])
          case first =>
            have SOF := Lib.hid (fun (wx : World) (hb : Below wr.heap.size wr wx) => (⟨(hb.cell (World.block_lt_of_cell? wr _ d0)).trans d0, (hb.cell (World.block_lt_of_cell? wr _ d1)).trans d1, (hb.cell (World.block_lt_of_cell? wr _ c0)).trans c0, (hb.cell (World.block_lt_of_cell? wr _ c1)).trans c1, hb⟩ : wx.cell? ⟨p, 0, none⟩ = some (.int .i64 un) ∧ wx.cell? ⟨p, 1, none⟩ = some (.int .i64 ud) ∧ wx.cell? ⟨b, off + j * 2, none⟩ = some (.int .i64 n) ∧ wx.cell? ⟨b, off + j * 2 + 1, none⟩ = some (.int .i64 d) ∧ Below wr.heap.size wr wx))
            clear d0 d1 c0 c1
            go_region_held3 (fun wx => wx.cell? ⟨p, 0, none⟩ = some (.int .i64 un) ∧ wx.cell? ⟨p, 1, none⟩ = some (.int .i64 ud) ∧ wx.cell? ⟨b, off + j * 2, none⟩ = some (.int .i64 n) ∧ wx.cell? ⟨b, off + j * 2 + 1, none⟩ = some (.int .i64 d) ∧ Below wr.heap.size wr wx)
              (first | exact SOF.out _ (Below.refl _ _) | exact SOF.out _ (Below.drew (Below.refl _ _)) | exact SOF.out _ (Below.alloc (Below.drew (Below.refl _ _)) (Nat.le_refl _) _) | exact SOF.out _ (Below.drew (Below.alloc (Below.refl _ _) (Nat.le_refl _) _)) | exact SOF.out _ hB | exact SOF.out _ (hB.alloc hB.size _) | exact SOF.out _ (hB.setCell (Nat.le_refl _) _) | exact SOF.out _ ((hB.setCell (Nat.le_refl _) _).setCell (Nat.le_refl _) _))
              (first
                | (go_at_call 17; (with_reducible refine (AD.out _).mono ?_); rintro e w' ⟨rfl, hb⟩; (have hB := bchain (by assumption : _ ∧ _ ∧ _ ∧ _ ∧ Below wr.heap.size wr _).2.2.2.2 hb); obtain ⟨hc, hf⟩ := bcell hb))
            all_goals
              clear hc hf
              go_wp2
              go_meet
              first
                | exact ⟨_, rfl, rfl, (HQ0.out.keep hB).fresh _ _⟩
                | exact ⟨_, rfl, rfl, HQ0.out.late hb _ _⟩
          case rest =>
            obtain ⟨q, rfl, rfl, hS3, hb3⟩ := hcut
            clear c0 c1 d0 d1 AD HQ0
            have HS3 := Lib.hid hS3
            have HB3 := Lib.hid hb3
            clear hS3 hb3
            cases hfit2 : fits (x + toR n d)
            · obtain ⟨rfl, rfl, rfl⟩ : qa = 0 ∧ qb = 0 ∧ qc = 3 := by
                have := HQQ.out
                rw [show outF (x + toR n d) = (0, 0, 3) by unfold outF; rw [hfit2]; rfl] at this
                simp only [Prod.mk.injEq] at this
                omega
              have HQ2 : Hid (sumR 0 fs = (0, 0, 3)) := Lib.hid (by rw [HSU.out, HDR.out, sumR, hfit2]; rfl)
              clear hfit2
              have r0 := HS3.out.sm.br.cell (j := 0) (v := .int .i64 0) rfl
              have r1 := HS3.out.sm.br.cell (j := 1) (v := .int .i64 0) rfl
              have f0 := HS3.out.sm.br.free 0
              have f1 := HS3.out.sm.br.free 1
              have HB9 := Lib.hid HS3.out.sm.below
              go_wp2
              refine bodyPost_ret (v := .tuple #[.agg #[.int .i64 0, .int .i64 0], .int .i64 3]) (by simp [results, Tryz.results36, go_sem, r0, r1]) rfl ?_
              exact retF_mk (HQ.out.trans HQ2.out) ((HB9.out.setCell (by simp) _).setCell (by simp) _)
            · have hpair : qa = (x + toR n d).num ∧ qb = ((x + toR n d).den : Int) ∧ qc = 0 := by
                have := HQQ.out
                rw [outF_fits hfit2] at this
                simp only [Prod.mk.injEq] at this
                exact ⟨this.1.symm, this.2.1.symm, this.2.2.symm⟩
              obtain ⟨e1, e2, rfl⟩ := hpair
              have HQ2 : Hid (sumR 0 fs = sumR (x + toR n d) (fs.drop (j + 1))) := Lib.hid (by rw [HSU.out, HDR.out, sumR, hfit2]; rfl)
              have HF2 := Lib.hid hfit2
              have HE1 := Lib.hid e1
              have HE2 := Lib.hid e2
              clear hfit2 e1 e2
              have q0 := HB3.out.cell (j := 0) (v := .int .i64 qa) rfl
              have q1 := HB3.out.cell (j := 1) (v := .int .i64 qb) rfl
              have d0 := HS3.out.acc.cell (j := 0) (v := .int .i64 un) rfl
              have d1 := HS3.out.acc.cell (j := 1) (v := .int .i64 ud) rfl
              have g0 := HS3.out.acc.free 0
              have g1 := HS3.out.acc.free 1
              go_wp2
              go_roundw
              case rel => exact ⟨j + 1, x + toR n d, by omega, by go_num, HF2.out, by rw [← HE1.out, ← HE2.out]; exact HS3.out.put qa qb, HQ2.out⟩
              case measure => simp [intOf]; omega
        · obtain rfl : j = k := by omega
          have t2 : decide ((j : Int) < (j : Int)) = false := decide_eq_false (by omega)
          have t2' : decide (j < j) = false := decide_eq_false (by omega)
          have HQ3 : Hid (sumR 0 fs = (x.num, (x.den : Int), 0)) := Lib.hid (by rw [HSU.out, List.drop_eq_nil_of_le (by rw [HN.out]; exact Nat.le_refl _)]; rfl)
          have d0 := HQ0.out.acc.cell (j := 0) (v := .int .i64 x.num) rfl
          have d1 := HQ0.out.acc.cell (j := 1) (v := .int .i64 (x.den : Nat)) rfl
          have r0 := HQ0.out.sm.br.cell (j := 0) (v := .int .i64 0) rfl
          have r1 := HQ0.out.sm.br.cell (j := 1) (v := .int .i64 0) rfl
          have f0 := HQ0.out.sm.br.free 0
          have f1 := HQ0.out.sm.br.free 1
          have HB9 := Lib.hid HQ0.out.sm.below
          clear hlt
          go_wp2
          refine bodyPost_ret (v := .tuple #[.agg #[.int .i64 x.num, .int .i64 (x.den : Nat)], .int .i64 0]) (by simp [results, Tryz.results36, go_sem, r0, r1]) rfl ?_
          exact retF_mk (HQ.out.trans HQ3.out) ((HB9.out.setCell (by simp) _).setCell (by simp) _)
end Go.Proofs.YtfhkgpipbegpgaaGreatDoor
namespace Go.Proofs.YtfhkgpipbegpgaaGreatDoor
open Go Go.RowKit

theorem RowF.pre {W : World} {b off : Nat} {l m : List (Int × Int)} (h : RowF W b off (l ++ m)) : RowF W b off l :=
  have hp : ∀ i x, l[i]? = some x → (l ++ m)[i]? = some x := fun i x hi => by
    rw [List.getElem?_append_left (List.getElem?_eq_some_iff.1 hi).1]; exact hi
  ⟨h.lt, fun i n d hi => h.num i n d (hp _ _ hi), fun i n d hi => h.den i n d (hp _ _ hi)⟩
/-- What sums keeps. -/
structure SU (w0 W : World) (g b off : Nat) (fs : List (Int × Int)) (l : List (Nat × TypeId × Array Value)) : Prop where
  inv : InvL w0 W l
  own : RowF W g 0 (fs ++ marks 12)
  arg : RowF W b off fs
section
variable {w0 W W' : World} {g b off : Nat} {fs : List (Int × Int)} {l : List (Nat × TypeId × Array Value)}
theorem SU.keep (h : SU w0 W g b off fs l) (hb : Below W.heap.size W W') : SU w0 W' g b off fs l := ⟨h.inv.keep hb, h.own.keep hb, h.arg.keep hb⟩
theorem SU.push (h : SU w0 W g b off fs l) (t : TypeId) (c : Array Value) : SU w0 (W.alloc (.cells c t)) g b off fs ((W.heap.size, t, c) :: l) :=
  ⟨h.inv.push t c, h.own.keep (below1 _ _), h.arg.keep (below1 _ _)⟩
end
set_option maxRecDepth 100000 in
set_option maxHeartbeats 4000000 in
theorem sums_any (n d : Int) (hf : FB n d) (b off : Nat) (fs : List (Int × Int)) (cap : Nat) (hn : fs.length ≤ 40) (hfs : ∀ x ∈ fs, FB x.1 x.2) (w : World) (he : Env w) (hR : RowF w b off fs) :
    Calls Tryz.prog 8 #[.int .i64 n, .int .i64 d, .slice (some ⟨b, off, none⟩) fs.length cap] w (RetBool true w) := by
  obtain ⟨⟨qa, qb, qc⟩, hq⟩ : ∃ q, sumF fs = q := ⟨_, rfl⟩
  obtain ⟨⟨ma, mb, mc⟩, hm⟩ : ∃ q, makeP n d = q := ⟨_, rfl⟩
  have L1 := Lib.hid (lent_any b off fs cap hn w hR)
  have S1 := Lib.hid (fun g W h => sum_any g 0 fs (fs.length + 12) (by omega) hfs W h)
  have S2 := Lib.hid (fun W h => rsumn_any b off fs cap (by omega) hfs W h)
  have P1 := Lib.hid (fun W => make_any n d hf W)
  have P2 := Lib.hid (fun W => rmake_any n d hf W)
  have K1 := Lib.hid (fun g W h1 h2 => kept_any b off g fs cap hn W h1 h2)
  rw [hq] at S1 S2
  rw [hm] at P1 P2
  have HE := Lib.hid he
  have HR := Lib.hid hR
  obtain ⟨N, hN⟩ : ∃ N, fs.length = N := ⟨_, rfl⟩
  rw [hN] at hn L1 S1 S2 K1 ⊢
  have t1 : decide (40 < (N : Int)) = false := decide_eq_false (by omega)
  have t1' : decide (40 < N) = false := decide_eq_false (by omega)
  clear hN hq hm hf hfs he hR
  go_enter Tryz.func8, Tryz.ntmps8
  go_wp2_with fail
  refine L1.out.mono ?_
  rintro e w1 ⟨g, rfl, hg, _, hb⟩
  have H1 : Hid (SU w w1 g b off fs []) := Lib.hid ⟨(InvL.start HE.out).keep hb, hg, HR.out.keep hb⟩
  clear hb hg L1 HR
  go_wp2_with fail
  refine (S1.out _ _ H1.out.own.pre).mono ?_
  rintro e w2 ⟨rfl, hb⟩
  have H2 := Lib.hid ((H1.out.keep hb).push 23 #[.int .i64 qa, .int .i64 qb])
  clear hb H1 S1
  go_upto_region 5 with fail
  generalize w2.alloc (.cells #[.int .i64 qa, .int .i64 qb] 23) = W2 at *
  generalize w2.heap.size = p1 at *
  go_wp2_with fail
  refine (S2.out _ H2.out.arg).mono ?_
  rintro e w3 ⟨rfl, hb⟩
  have H3 := Lib.hid ((H2.out.keep hb).push 23 #[.int .i64 qa, .int .i64 qb])
  clear hb H2 S2
  go_upto_region 6 with fail
  generalize w3.alloc (.cells #[.int .i64 qa, .int .i64 qb] 23) = W3 at *
  generalize w3.heap.size = p2 at *
  go_wp2_with fail
  refine (P1.out _).mono ?_
  rintro e w4 ⟨rfl, hb⟩
  have H4 := Lib.hid ((H3.out.keep hb).push 23 #[.int .i64 ma, .int .i64 mb])
  clear hb H3 P1
  go_upto_region 7 with fail
  generalize w4.alloc (.cells #[.int .i64 ma, .int .i64 mb] 23) = W4 at *
  generalize w4.heap.size = p3 at *
  go_wp2_with fail
  refine (P2.out _).mono ?_
  rintro e w5 ⟨rfl, hb⟩
  have H5 := Lib.hid ((H4.out.keep hb).push 23 #[.int .i64 ma, .int .i64 mb])
  clear hb H4 P2
  go_upto_region 8 with fail
  generalize w5.alloc (.cells #[.int .i64 ma, .int .i64 mb] 23) = W5 at *
  generalize w5.heap.size = p4 at *
  have a0 := H5.out.inv.cell (i := 3) rfl (j := 0) (v := .int .i64 qa) rfl
  have a1 := H5.out.inv.cell (i := 3) rfl (j := 1) (v := .int .i64 qb) rfl
  have b0 := H5.out.inv.cell (i := 2) rfl (j := 0) (v := .int .i64 qa) rfl
  have b1 := H5.out.inv.cell (i := 2) rfl (j := 1) (v := .int .i64 qb) rfl
  have c0 := H5.out.inv.cell (i := 1) rfl (j := 0) (v := .int .i64 ma) rfl
  have c1 := H5.out.inv.cell (i := 1) rfl (j := 1) (v := .int .i64 mb) rfl
  have d0 := H5.out.inv.cell (i := 0) rfl (j := 0) (v := .int .i64 ma) rfl
  have d1 := H5.out.inv.cell (i := 0) rfl (j := 1) (v := .int .i64 mb) rfl
  go_wp2_with fail
  refine (K1.out _ _ H5.out.arg H5.out.own).mono ?_
  rintro e w6 ⟨rfl, hb⟩
  have HB := Lib.hid (bchain H5.out.inv.below hb)
  clear hb a0 a1 b0 b1 c0 c1 d0 d1 H5 K1
  go_wp2
  go_ret
  exact ⟨rfl, HB.out⟩
end Go.Proofs.YtfhkgpipbegpgaaGreatDoor
namespace Go.Proofs.YtfhkgpipbegpgaaGreatDoor
open Go Go.RowKit

set_option maxRecDepth 100000 in
set_option maxHeartbeats 4000000 in
theorem kept_nil (g : Nat) (w : World) (hG : RowF w g 0 (marks 12)) :
    Calls Tryz.prog 37 #[.slice (some ⟨g, 0, none⟩) 0 12, .slice none 0 0] w (fun e w' => e = .returned (.bool true) ∧ Below w.heap.size w w') := by
  have HG := Lib.hid hG
  have HM := Lib.hid (fun k => marks_at [] k)
  clear hG
  go_enter Tryz.func37, Tryz.ntmps37
  go_wp2_with fail
  go_loopw [6] (fun s6 wr => ∃ k : Nat, k ≤ 12 ∧ s6 = .int .i64 k ∧ Below w.heap.size w wr) (fun s6 _ => 12 - (intOf s6).toNat)
  case atStart => exact ⟨0, by omega, rfl, Below.refl _ _⟩
  case round =>
    obtain ⟨k, hk, rfl, hb⟩ := hrel
    have HB := Lib.hid hb
    clear hb
    by_cases hlt : k < 12
    · have t1 : decide ((k : Int) < 12) = true := decide_eq_true (by omega)
      have i1 : 0 ≤ (k : Int) := by omega
      have hx := HM.out k (by simp) (by simpa using hlt)
      have e0 : wr.cell? ⟨g, 0 + k * 2, none⟩ = some (.int .i64 (8000024 + ((k : Int) - 0))) := (HG.out.keep HB.out).num k _ _ hx
      have e1 : wr.cell? ⟨g, 0 + k * 2 + 1, none⟩ = some (.int .i64 1) := (HG.out.keep HB.out).den k _ _ hx
      rw [Nat.zero_add] at e0 e1
      have t2 : decide ((k : Int) < 0) = false := decide_eq_false (by omega)
      have t3 : decide (0 ≤ (k : Int)) = true := decide_eq_true (by omega)
      have w3 : IntKind.i64.wrap ((k : Int) - 0) = (k : Int) - 0 := IntWalk.i64_in _ (by omega)
      have M1 := Lib.hid (fun W => markFrac_one ((k : Int) - 0) (by omega) W)
      clear hx
      rw [Int.sub_zero] at e0 w3
      have M2 : Hid (∀ W, Calls Tryz.prog 63 #[.int .i64 1, .int .i64 (k : Int)] W (fun e w' => e = .returned (.agg #[.int .i64 (8000024 + (k : Int)), .int .i64 1]) ∧ Below W.heap.size W w')) := Lib.hid fun W => markFrac_one (k : Int) (by omega) W
      clear M1
      go_wp2_with fail
      have m0 := Since.cell e0
      have m1 := Since.cell e1
      refine region_since (by kernel_rfl) (by kernel_rfl) ?_
      repeat (go_big_quiet_step ((go_at_call 63; exact Calls.since (M2.out _))))
      refine wpQuiet_nil ?_
      rintro w' ⟨u', rfl⟩
      have HB2 := Lib.hid (bchain HB.out u'.property)
      clear m0 m1 e0 e1
      generalize u'.val = w6 at *
      go_wp2
      go_roundw
      case rel => exact ⟨k + 1, by omega, by go_num, HB2.out⟩
      case measure => simp [intOf]; omega
    · obtain rfl : k = 12 := by omega
      have t1 : decide (((12 : Nat) : Int) < 12) = false := decide_eq_false (by omega)
      go_wp2
      go_ret
      exact ⟨rfl, HB.out⟩
end Go.Proofs.YtfhkgpipbegpgaaGreatDoor
namespace Go.Proofs.YtfhkgpipbegpgaaGreatDoor
open Go Go.RowKit
set_option maxRecDepth 100000 in
set_option maxHeartbeats 1000000 in
theorem rsumn_nil (w : World) : Calls Tryz.prog 36 #[.slice none 0 0] w (RetF (0, 1, 0) w) := by
  go_enter Tryz.func36, Tryz.ntmps36
  go_wp2
  refine wp_loop_rounds 1 ?_
  rw [rounds_succ]
  go_wp2
  refine wp_loop_rounds 1 ?_
  rw [rounds_succ]
  go_wp2
  refine bodyPost_ret (v := .tuple #[.agg #[.int .i64 0, .int .i64 1], .int .i64 0]) (by simp [results, Tryz.results36, go_sem]) rfl ?_
  exact retF_mk rfl ((below1 w _).alloc (by simp) _)
end Go.Proofs.YtfhkgpipbegpgaaGreatDoor
namespace Go.Proofs.YtfhkgpipbegpgaaGreatDoor
open Go Go.RowKit

/-- What sums keeps where there is no fraction. -/
structure SN (w0 W : World) (g : Nat) (l : List (Nat × TypeId × Array Value)) : Prop where
  inv : InvL w0 W l
  own : RowF W g 0 (marks 12)
section
variable {w0 W W' : World} {g : Nat} {l : List (Nat × TypeId × Array Value)}
theorem SN.keep (h : SN w0 W g l) (hb : Below W.heap.size W W') : SN w0 W' g l := ⟨h.inv.keep hb, h.own.keep hb⟩
theorem SN.push (h : SN w0 W g l) (t : TypeId) (c : Array Value) : SN w0 (W.alloc (.cells c t)) g ((W.heap.size, t, c) :: l) := ⟨h.inv.push t c, h.own.keep (below1 _ _)⟩
end
set_option maxRecDepth 100000 in
set_option maxHeartbeats 4000000 in
theorem sums_nil (n d : Int) (hf : FB n d) (w : World) (he : Env w) :
    Calls Tryz.prog 8 #[.int .i64 n, .int .i64 d, .slice none 0 0] w (RetBool true w) := by
  obtain ⟨⟨qa, qb, qc⟩, hq⟩ : ∃ q, q = ((0, 1, 0) : Int × Int × Int) := ⟨_, rfl⟩
  obtain ⟨⟨ma, mb, mc⟩, hm⟩ : ∃ q, makeP n d = q := ⟨_, rfl⟩
  have L1 := Lib.hid (lent_nil w)
  have S1 := Lib.hid (fun g W h => sum_any g 0 [] 12 (by decide) (fun x h => by cases h) W h)
  have S2 := Lib.hid (fun W => rsumn_nil W)
  have P1 := Lib.hid (fun W => make_any n d hf W)
  have P2 := Lib.hid (fun W => rmake_any n d hf W)
  have K1 := Lib.hid (fun g W h => kept_nil g W h)
  rw [show sumF [] = (0, 1, 0) from rfl, ← hq] at S1
  rw [← hq] at S2
  rw [hm] at P1 P2
  have HE := Lib.hid he
  clear hm hq hf he
  go_enter Tryz.func8, Tryz.ntmps8
  go_wp2_with fail
  refine L1.out.mono ?_
  rintro e w1 ⟨g, rfl, hg, _, hb⟩
  have H1 : Hid (SN w w1 g []) := Lib.hid ⟨(InvL.start HE.out).keep hb, hg⟩
  clear hb hg L1
  go_wp2_with fail
  refine (S1.out _ _ (RowF.pre (l := []) H1.out.own)).mono ?_
  rintro e w2 ⟨rfl, hb⟩
  have H2 := Lib.hid ((H1.out.keep hb).push 23 #[.int .i64 qa, .int .i64 qb])
  clear hb H1 S1
  go_upto_region 5 with fail
  generalize w2.alloc (.cells #[.int .i64 qa, .int .i64 qb] 23) = W2 at *
  generalize w2.heap.size = p1 at *
  go_wp2_with fail
  refine (S2.out _).mono ?_
  rintro e w3 ⟨rfl, hb⟩
  have H3 := Lib.hid ((H2.out.keep hb).push 23 #[.int .i64 qa, .int .i64 qb])
  clear hb H2 S2
  go_upto_region 6 with fail
  generalize w3.alloc (.cells #[.int .i64 qa, .int .i64 qb] 23) = W3 at *
  generalize w3.heap.size = p2 at *
  go_wp2_with fail
  refine (P1.out _).mono ?_
  rintro e w4 ⟨rfl, hb⟩
  have H4 := Lib.hid ((H3.out.keep hb).push 23 #[.int .i64 ma, .int .i64 mb])
  clear hb H3 P1
  go_upto_region 7 with fail
  generalize w4.alloc (.cells #[.int .i64 ma, .int .i64 mb] 23) = W4 at *
  generalize w4.heap.size = p3 at *
  go_wp2_with fail
  refine (P2.out _).mono ?_
  rintro e w5 ⟨rfl, hb⟩
  have H5 := Lib.hid ((H4.out.keep hb).push 23 #[.int .i64 ma, .int .i64 mb])
  clear hb H4 P2
  go_upto_region 8 with fail
  generalize w5.alloc (.cells #[.int .i64 ma, .int .i64 mb] 23) = W5 at *
  generalize w5.heap.size = p4 at *
  have a0 := H5.out.inv.cell (i := 3) rfl (j := 0) (v := .int .i64 qa) rfl
  have a1 := H5.out.inv.cell (i := 3) rfl (j := 1) (v := .int .i64 qb) rfl
  have b0 := H5.out.inv.cell (i := 2) rfl (j := 0) (v := .int .i64 qa) rfl
  have b1 := H5.out.inv.cell (i := 2) rfl (j := 1) (v := .int .i64 qb) rfl
  have c0 := H5.out.inv.cell (i := 1) rfl (j := 0) (v := .int .i64 ma) rfl
  have c1 := H5.out.inv.cell (i := 1) rfl (j := 1) (v := .int .i64 mb) rfl
  have d0 := H5.out.inv.cell (i := 0) rfl (j := 0) (v := .int .i64 ma) rfl
  have d1 := H5.out.inv.cell (i := 0) rfl (j := 1) (v := .int .i64 mb) rfl
  go_wp2_with fail
  refine (K1.out _ _ H5.out.own).mono ?_
  rintro e w6 ⟨rfl, hb⟩
  have HB := Lib.hid (bchain H5.out.inv.below hb)
  clear hb a0 a1 b0 b1 c0 c1 d0 d1 H5 K1
  go_wp2
  go_ret
  exact ⟨rfl, HB.out⟩
theorem sums_long (n d : Int) (A : Option Addr) (N cap : Nat) (hn : 40 < N) (w : World) :
    Calls Tryz.prog 8 #[.int .i64 n, .int .i64 d, .slice A N cap] w (RetBool true w) := by
  have t1 : decide (40 < (N : Int)) = true := decide_eq_true (by omega)
  have t1' : decide (40 < N) = true := decide_eq_true hn
  go_enter Tryz.func8, Tryz.ntmps8
  go_wp2_with fail
  go_ret
  exact ⟨rfl, Below.refl _ _⟩
end Go.Proofs.YtfhkgpipbegpgaaGreatDoor
namespace Go.Proofs.YtfhkgpipbegpgaaGreatDoor
open Go Go.RowKit

def edgeL : List Int := [0, 1, -1, 2, -2, 3, 7, 10, -10, 60, 2147483648, 2147483647, 4294967297, -4294967296, 4611686018427387904, 4611686018427387903, 4611686018427387905, -4611686018427387904, 9223372036854775807, -9223372036854775807, -9223372036854775808, 3037000499, 3037000500, 4611686018427387847]
/-- The variable edges in a world. -/
structure Edges (w : World) (b off cap : Nat) (E : Nat → Int) : Prop where
  glob : w.cell? ⟨0, 0, none⟩ = some (.slice (some ⟨b, off, none⟩) 24 cap)
  at_ : ∀ i, i < 24 → w.cell? ⟨b, off + i, none⟩ = some (.int .i64 (E i))
  bd : ∀ i, i < 24 → -9223372036854775808 ≤ E i ∧ E i ≤ 9223372036854775807
theorem Edges.keep {w w' : World} {b off cap : Nat} {E : Nat → Int} (h : Edges w b off cap E) (hb : Below w.heap.size w w') : Edges w' b off cap E :=
  ⟨keepW hb h.glob, fun i hi => keepW hb (h.at_ i hi), h.bd⟩
theorem edge_bd : ∀ i, i < 24 → -9223372036854775808 ≤ edgeL.getD i 0 ∧ edgeL.getD i 0 ≤ 9223372036854775807 := by decide
theorem packP_fb (m : Bool) (N D : Nat) : FB (packP m N D).1 (packP m N D).2.1 := by
  unfold packP
  by_cases h : N ≤ 9223372036854775807 + (if m then 1 else 0) ∧ D ≤ 9223372036854775807
  · rw [if_pos h]
    unfold sgn
    cases m <;> simp only [if_true, if_false, Bool.false_eq_true] at h ⊢ <;> exact ⟨by omega, by omega, by omega, by omega⟩
  · rw [if_neg h]
    exact ⟨by decide, by decide, by decide, by decide⟩
theorem makeP_fb (a b : Int) : FB (makeP a b).1 (makeP a b).2.1 := by
  unfold makeP
  by_cases h : b = 0
  · rw [if_pos h]; exact ⟨by decide, by decide, by decide, by decide⟩
  · rw [if_neg h]; exact packP_fb _ _ _
theorem row3 {w : World} {b : Nat} {x0 y0 x1 y1 x2 y2 : Int} (h : Blk w b 23 #[.int .i64 x0, .int .i64 y0, .int .i64 x1, .int .i64 y1, .int .i64 x2, .int .i64 y2]) : RowF w b 0 [(x0, y0), (x1, y1), (x2, y2)] := by
  refine ⟨h.lt, fun i n d hi => ?_, fun i n d hi => ?_⟩ <;> rw [Nat.zero_add] <;> refine h.cell ?_
  all_goals
    match i, hi with
    | 0, hi => cases hi; rfl
    | 1, hi => cases hi; rfl
    | 2, hi => cases hi; rfl
    | i + 3, hi => simp at hi
theorem sums3 (n d x0 y0 x1 y1 x2 y2 : Int) (hf : FB n d) (h0 : FB x0 y0) (h1 : FB x1 y1) (h2 : FB x2 y2) (b : Nat) (w : World) (he : Env w) (h : Blk w b 23 #[.int .i64 x0, .int .i64 y0, .int .i64 x1, .int .i64 y1, .int .i64 x2, .int .i64 y2]) :
    Calls Tryz.prog 8 #[.int .i64 n, .int .i64 d, .slice (some ⟨b, 0, none⟩) 3 3] w (RetBool true w) :=
  sums_any n d hf b 0 [(x0, y0), (x1, y1), (x2, y2)] 3 (by simp) (fun x hx => by
    simp only [List.mem_cons, List.not_mem_nil, or_false] at hx
    rcases hx with rfl | rfl | rfl
    · exact h0
    · exact h1
    · exact h2) w he (row3 h)
theorem signs4 (a b c d : UInt8) : ∃ X : ByteArray, X.size = 4 ∧ ∀ wr : World, (convert 32 9 (.slice (some ⟨wr.heap.size, 0, none⟩) 4 4)).run Tryz.prog (wr.alloc (.cells #[.int .u8 (a.toNat : Int), .int .u8 (b.toNat : Int), .int .u8 (c.toNat : Int), .int .u8 (d.toNat : Int)] 5)).drew =
    .ok (.string X) (wr.alloc (.cells #[.int .u8 (a.toNat : Int), .int .u8 (b.toNat : Int), .int .u8 (c.toNat : Int), .int .u8 (d.toNat : Int)] 5)).drew :=
  ⟨⟨#[a, b, c, d]⟩, rfl, fun wr => run_convert_bytes_back _ _ _ 5 _ 4 [a, b, c, d] (by kernel_rfl) (by kernel_rfl) (by kernel_rfl) (fun j hj => by
    have hj' : j < 4 := by simpa using hj
    match j, hj' with
    | 0, _ => simp [Addr.add, World.cell?_drew]
    | 1, _ => simp [Addr.add, World.cell?_drew]
    | 2, _ => simp [Addr.add, World.cell?_drew]
    | 3, _ => simp [Addr.add, World.cell?_drew])⟩
theorem sign_at (S : ByteArray) (k : Nat) (hk : k < S.size) : ∃ v : UInt8, ∀ W : World, (Instr.index 9 (.string S) (.int .i64 (k : Int))).run Tryz.prog W = .ok (.int .u8 (v.toNat : Int)) W :=
  ⟨S[k], fun W => by
    rw [run_index_string W 9 S .i64 (k : Int) (by kernel_rfl), dif_pos ⟨by omega, by omega⟩]
    rfl⟩
theorem all_strs (L : List ByteArray) : ∃ S : Nat → ByteArray, ∀ k, k < L.length → (L.map Value.string).toArray[k]? = some (.string (S k)) :=
  ⟨fun k => L.getD k ⟨#[]⟩, fun k hk => by simp [List.getD, List.getElem?_eq_getElem hk]⟩
end Go.Proofs.YtfhkgpipbegpgaaGreatDoor
