/- The contracts of the reference's sum, Add and Sub. -/
import Derived.Test.YtfhkgpipbegpgaaGreatDoorRefS
namespace Go.Proofs.YtfhkgpipbegpgaaGreatDoor
open Go Go.RowKit

set_option maxRecDepth 100000 in
set_option maxHeartbeats 8000000 in
theorem rsum_any (n d : Int) (hf : FB n d) (h : rightB n d = true) (neg : Bool) (A B : Option Addr) (ca cb M K : Nat) (hK : 0 < K) (km : nd M ≤ 4) (kk : nd K ≤ 4) (q1 : Bool) (q2 : Nat) (qa qb qc : Int)
    (hs : sumP (decide (n < 0)) neg (n.natAbs * K) (M * d.natAbs) = (q1, q2)) (hq : outF (mkRat (sgn q1 q2) (d.natAbs * K)) = (qa, qb, qc)) (w : World) (hA : Dg w A ca M) (hB : Dg w B cb K) :
    Calls Tryz.prog 45 #[.agg #[.int .i64 n, .int .i64 d], .bool neg, .slice A (nd M) ca, .slice B (nd K) cb] w (RetF (qa, qb, qc) w) := by
  have hd0 := right_pos h
  have HF := Lib.hid (by
    have h1 := blw1 w (.cells #[.int .i64 n, .int .i64 d] 23)
    exact h1.trans ((blw1 _ (.cells #[.int .i64 0, .int .i64 0] 23)).mono h1.size) : Below w.heap.size w ((w.alloc (.cells #[.int .i64 n, .int .i64 d] 23)).alloc (.cells #[.int .i64 0, .int .i64 0] 23)))
  have HA := Lib.hid (hA.keep HF.out)
  have HB := Lib.hid (hB.keep HF.out)
  have HQ := Lib.hid (Qm.one w n d)
  have Wn := Lib.hid (fun W => whole_any n hf.n0 hf.n1 W)
  have Wd := Lib.hid (fun W => whole_any d hf.d0 hf.d1 W)
  have kn := nd_abs hf.n0 hf.n1
  have kd := nd_abs hf.d0 hf.d1
  have MUL : Hid (∀ W A ca B cb (a b : Nat), nd a ≤ 4 → nd b ≤ 4 → Dg W A ca a → Dg W B cb b → Calls Tryz.prog 46 #[.slice A (nd a) ca, .slice B (nd b) cb] W (RetD (a * b) W)) := Lib.hid fun W A ca B cb a b k1 k2 h1 h2 => mul_any A B ca cb a b (by omega) (by omega) W h1 h2
  obtain ⟨N, hN⟩ : ∃ N, n.natAbs = N := ⟨_, rfl⟩
  obtain ⟨D, hD⟩ : ∃ N, d.natAbs = N := ⟨_, rfl⟩
  rw [hN] at Wn kn hs
  rw [hD] at Wd kd hs hq
  have hDp : 0 < D := by omega
  have g1 : nd (N * K) ≤ 8 := Nat.le_trans (nd_mul _ _) (by omega)
  have g2 : nd (M * D) ≤ 8 := Nat.le_trans (nd_mul _ _) (by omega)
  have g3 : nd (D * K) ≤ 8 := Nat.le_trans (nd_mul _ _) (by omega)
  have g4 : 0 < D * K := Nat.mul_pos hDp hK
  obtain ⟨s, hsn⟩ : ∃ s, decide (n < 0) = s := ⟨_, rfl⟩
  rw [hsn] at hs
  obtain ⟨nM, hnM⟩ : ∃ x, nd M = x := ⟨_, rfl⟩
  obtain ⟨nK, hnK⟩ : ∃ x, nd K = x := ⟨_, rfl⟩
  have ML1 : Hid (∀ W X cX, Dg W X cX N → Dg W B cb K → Calls Tryz.prog 46 #[.slice X (nd N) cX, .slice B nK cb] W (RetD (N * K) W)) := Lib.hid fun W X cX h1 h2 => hnK ▸ MUL.out W X cX B cb N K kn kk h1 h2
  have ML2 : Hid (∀ W X cX, Dg W X cX D → Dg W A ca M → Calls Tryz.prog 46 #[.slice A nM ca, .slice X (nd D) cX] W (RetD (M * D) W)) := Lib.hid fun W X cX h1 h2 => hnM ▸ MUL.out W A ca X cX M D km kd h2 h1
  have ML3 : Hid (∀ W X cX, Dg W X cX D → Dg W B cb K → Calls Tryz.prog 46 #[.slice X (nd D) cX, .slice B nK cb] W (RetD (D * K) W)) := Lib.hid fun W X cX h1 h2 => hnK ▸ MUL.out W X cX B cb D K kd kk h1 h2
  obtain ⟨x, hx⟩ : ∃ x, N * K = x := ⟨_, rfl⟩
  obtain ⟨y, hy⟩ : ∃ x, M * D = x := ⟨_, rfl⟩
  obtain ⟨z, hz⟩ : ∃ x, D * K = x := ⟨_, rfl⟩
  rw [hx] at ML1 hs g1
  rw [hy] at ML2 hs g2
  rw [hz] at ML3 hq g3 g4
  have MK : Hid (∀ (sg : Bool) (r : Nat) W X cX Z cZ, sg = q1 → r = q2 → nd r ≤ 9 → Dg W X cX r → Dg W Z cZ z → Calls Tryz.prog 38 #[.bool sg, .slice X (nd r) cX, .slice Z (nd z) cZ] W (RetF (qa, qb, qc) W)) := Lib.hid fun sg r W X cX Z cZ e1 e2 k h1 h2 => by
    subst e1 e2
    have := make0_any sg X Z cX cZ r z g4 (by omega) (by omega) W h1 h2
    rw [red_out _ _ _ (by omega), hq] at this
    exact this
  have HS := Lib.hid hs
  have HSN := Lib.hid hsn
  rw [hnM, hnK]
  clear hnM hnK hx hy hz hN hD hs hsn hq hA hB hf h MUL hDp hd0 g4
  go_enter Tryz.func45, Tryz.ntmps45
  go_upto_region 1 with fail
  generalize (w.alloc (.cells #[.int .i64 n, .int .i64 d] 23)).alloc (.cells #[.int .i64 0, .int .i64 0] 23) = V1 at *
  go_cut [10, 11, 12] (fun s10 s11 s12 wx => ∃ X cX Y cY Z cZ, s10 = .slice X (nd x) cX ∧ s11 = .slice Y (nd y) cY ∧ s12 = .slice Z (nd z) cZ ∧ Dg wx X cX x ∧ Dg wx Y cY y ∧ Dg wx Z cZ z ∧ Qm w wx [(w.heap.size, 23, #[.int .i64 n, .int .i64 d])] (w.heap.size + 1))
  case first =>
    have SOF : Hid (∀ wx, (Qm w wx [(w.heap.size, 23, #[.int .i64 n, .int .i64 d])] (w.heap.size + 1) ∧ Below V1.heap.size V1 wx) → (wx.cell? ⟨w.heap.size, 0, none⟩ = some (.int .i64 n) ∧ wx.cell? ⟨w.heap.size, 1, none⟩ = some (.int .i64 d) ∧ Qm w wx [(w.heap.size, 23, #[.int .i64 n, .int .i64 d])] (w.heap.size + 1) ∧ Below V1.heap.size V1 wx)) := Lib.hid fun wx h => ⟨h.1.cell (i := 0) rfl (j := 0) rfl, h.1.cell (i := 0) rfl (j := 1) rfl, h⟩
    have hQ0 := HQ.out
    clear MK HS HSN
    go_region_held3 (fun wx => wx.cell? ⟨w.heap.size, 0, none⟩ = some (.int .i64 n) ∧ wx.cell? ⟨w.heap.size, 1, none⟩ = some (.int .i64 d) ∧ Qm w wx [(w.heap.size, 23, #[.int .i64 n, .int .i64 d])] (w.heap.size + 1) ∧ Below V1.heap.size V1 wx)
      (first | exact SOF.out _ ⟨hQ, hB⟩ | exact SOF.out _ ⟨hQ0.drew, Below.drew (Below.refl _ _)⟩)
      (first
        | (go_at_call 39; (with_reducible refine (Wn.out _).mono ?_); rintro e v ⟨An, cn, rfl, hDn, hb⟩; (have hQB := (by assumption : _ ∧ _ ∧ Qm w _ _ _ ∧ Below V1.heap.size V1 _).2.2); (have hQ := hQB.1.keep hb); (have hB := bchain hQB.2 hb))
        | (go_at_call 39; (with_reducible refine (Wd.out _).mono ?_); rintro e v ⟨Ad, cd, rfl, hDd, hb⟩; (replace hQ := hQ.keep hb); (replace hB := bchain hB hb); (replace hDx := hDx.keep hb); (try replace hDy := hDy.keep hb))
        | (go_at_call 46; (with_reducible refine (ML1.out _ _ _ hDn (HB.out.keep hB)).mono ?_); rintro e v ⟨Ax, cx, rfl, hDx, hb⟩; (replace hQ := hQ.keep hb); (replace hB := bchain hB hb))
        | (go_at_call 46; (with_reducible refine (ML2.out _ _ _ hDd (HA.out.keep hB)).mono ?_); rintro e v ⟨Ay, cy, rfl, hDy, hb⟩; (replace hQ := hQ.keep hb); (replace hB := bchain hB hb); (replace hDx := hDx.keep hb))
        | (go_at_call 46; (with_reducible refine (ML3.out _ _ _ hDd (HB.out.keep hB)).mono ?_); rintro e v ⟨Az, cz, rfl, hDz, hb⟩; (replace hQ := hQ.keep hb); (replace hB := bchain hB hb); (replace hDx := hDx.keep hb); (replace hDy := hDy.keep hb)))
    all_goals
      have HR := Lib.hid (And.intro hDx (And.intro hDy (And.intro hDz hQ)))
      clear hDn hDd hDx hDy hDz hQ hB hb hQ0 SOF hQB
      go_wp2
      go_meet
      exact ⟨_, _, _, _, _, _, rfl, rfl, rfl, HR.out⟩
  case rest =>
  obtain ⟨X, cX, Y, cY, Z, cZ, rfl, rfl, rfl, hX, hY, hZ, hQ⟩ := hcut
  have HX := Lib.hid hX
  have HY := Lib.hid hY
  have HZ := Lib.hid hZ
  have HQ2 := Lib.hid hQ
  have x0 := hQ.cell (i := 0) rfl (j := 0) (v := .int .i64 n) rfl
  clear hX hY hZ hQ HQ HA HB HF ML1 ML2 ML3 Wn Wd
  have t0 : decide (n < 0) = s := HSN.out
  by_cases hsg : s = neg
  · subst hsg
    have hq12 := HS.out
    unfold sumP at hq12
    rw [if_pos rfl] at hq12
    injection hq12 with e1 e2
    have k9 : nd (x + y) ≤ 9 := nd_add x y 8 g1 g2
    have AD := Lib.hid (radd_any X Y cX cY x y (by omega) (by omega) wc HX.out HY.out)
    have MK2 := Lib.hid (fun W X cX Z cZ h1 h2 => MK.out s (x + y) W X cX Z cZ e1 e2 k9 h1 h2)
    have t1 : (s == s) = true := by simp
    clear e1 e2 HS HSN
    go_wp2_with fail
    refine AD.out.mono ?_
    rintro e w3 ⟨R, cR, rfl, hR, hb⟩
    have HR := Lib.hid hR
    have HQ3 := Lib.hid (HQ2.out.keep hb)
    have HZ3 := Lib.hid (HZ.out.keep hb)
    clear hR hb
    go_wp2_with fail
    refine (MK2.out _ _ _ _ _ HR.out HZ3.out).mono ?_
    rintro e w4 ⟨rfl, hb⟩
    have HQ4 := Lib.hid (HQ3.out.keep hb)
    obtain ⟨⟨_, r0⟩, ⟨_, r1⟩, f0, f1⟩ := HQ4.out.ask
    clear hb
    go_wp2
    refine bodyPost_ret (v := .tuple #[.agg #[.int .i64 qa, .int .i64 qb], .int .i64 qc]) (by simp [results, Tryz.results45, go_sem, r0, r1]) rfl ?_
    exact retF_mk rfl ((HQ4.out.below.setCell HQ4.out.new _).setCell HQ4.out.new _)
  · have t1 : (s == neg) = false := by cases s <;> cases neg <;> simp_all
    by_cases hxy : x < y
    · have hq12 := HS.out
      unfold sumP at hq12
      rw [if_neg hsg, if_neg (by omega)] at hq12
      injection hq12 with e1 e2
      have k9 : nd (y - x) ≤ 9 := Nat.le_trans (nd_mono (Nat.sub_le _ _)) (by omega)
      have LS := Lib.hid (less_any X Y cX cY x y wc HX.out HY.out)
      rw [decide_eq_true hxy] at LS
      have SB : Hid (∀ W, Dg W X cX x → Dg W Y cY y → Calls Tryz.prog 70 #[.slice Y (nd y) cY, .slice X (nd x) cX] W (RetD (y - x) W)) := Lib.hid fun W h1 h2 => rsub_any Y X cY cX y x (by omega) (by omega) W h2 h1
      have MK2 := Lib.hid (fun W X cX Z cZ h1 h2 => MK.out neg (y - x) W X cX Z cZ e1 e2 k9 h1 h2)
      clear e1 e2 HS HSN hxy
      go_wp2_with fail
      refine LS.out.mono ?_
      rintro e w3 ⟨rfl, hb⟩
      have HQ3 := Lib.hid (HQ2.out.keep hb)
      have HX3 := Lib.hid (HX.out.keep hb)
      have HY3 := Lib.hid (HY.out.keep hb)
      have HZ3 := Lib.hid (HZ.out.keep hb)
      clear hb LS
      go_wp2_with fail
      refine (SB.out _ HX3.out HY3.out).mono ?_
      rintro e w4 ⟨R, cR, rfl, hR, hb⟩
      have HR := Lib.hid hR
      have HQ4 := Lib.hid (HQ3.out.keep hb)
      have HZ4 := Lib.hid (HZ3.out.keep hb)
      clear hR hb
      go_wp2_with fail
      refine (MK2.out _ _ _ _ _ HR.out HZ4.out).mono ?_
      rintro e w5 ⟨rfl, hb⟩
      have HQ5 := Lib.hid (HQ4.out.keep hb)
      obtain ⟨⟨_, r0⟩, ⟨_, r1⟩, f0, f1⟩ := HQ5.out.ask
      clear hb
      go_wp2
      refine bodyPost_ret (v := .tuple #[.agg #[.int .i64 qa, .int .i64 qb], .int .i64 qc]) (by simp [results, Tryz.results45, go_sem, r0, r1]) rfl ?_
      exact retF_mk rfl ((HQ5.out.below.setCell HQ5.out.new _).setCell HQ5.out.new _)
    · have hq12 := HS.out
      unfold sumP at hq12
      rw [if_neg hsg, if_pos (by omega)] at hq12
      injection hq12 with e1 e2
      have k9 : nd (x - y) ≤ 9 := Nat.le_trans (nd_mono (Nat.sub_le _ _)) (by omega)
      have LS := Lib.hid (less_any X Y cX cY x y wc HX.out HY.out)
      rw [decide_eq_false hxy] at LS
      have SB : Hid (∀ W, Dg W X cX x → Dg W Y cY y → Calls Tryz.prog 70 #[.slice X (nd x) cX, .slice Y (nd y) cY] W (RetD (x - y) W)) := Lib.hid fun W h1 h2 => rsub_any X Y cX cY x y (by omega) (by omega) W h1 h2
      have MK2 := Lib.hid (fun W X cX Z cZ h1 h2 => MK.out s (x - y) W X cX Z cZ e1 e2 k9 h1 h2)
      clear e1 e2 HS HSN hxy
      go_wp2_with fail
      refine LS.out.mono ?_
      rintro e w3 ⟨rfl, hb⟩
      have HQ3 := Lib.hid (HQ2.out.keep hb)
      have HX3 := Lib.hid (HX.out.keep hb)
      have HY3 := Lib.hid (HY.out.keep hb)
      have HZ3 := Lib.hid (HZ.out.keep hb)
      clear hb LS x0
      go_upto_region 6 with fail
      have SOF : Hid (∀ wx, (Qm w wx [(w.heap.size, 23, #[.int .i64 n, .int .i64 d])] (w.heap.size + 1)) → (wx.cell? ⟨w.heap.size, 0, none⟩ = some (.int .i64 n) ∧ Qm w wx [(w.heap.size, 23, #[.int .i64 n, .int .i64 d])] (w.heap.size + 1))) := Lib.hid fun wx h => ⟨h.cell (i := 0) rfl (j := 0) rfl, h⟩
      have hQ0 := HQ3.out
      go_region_held3 (fun wx => wx.cell? ⟨w.heap.size, 0, none⟩ = some (.int .i64 n) ∧ Qm w wx [(w.heap.size, 23, #[.int .i64 n, .int .i64 d])] (w.heap.size + 1))
        (first | exact SOF.out _ (hQ.store _ _) | exact SOF.out _ hQ | exact SOF.out _ hQ0.drew)
        (first
          | (go_at_call 70; (with_reducible refine (SB.out _ (HX3.out.keep (Below.drew (Below.refl _ _))) (HY3.out.keep (Below.drew (Below.refl _ _)))).mono ?_); rintro e v ⟨R, cR, rfl, hR, hb⟩; (have hQ := (by assumption : _ ∧ Qm w _ _ _).2.keep hb); (have hZ4 := (HZ3.out.keep (Below.drew (Below.refl _ _))).keep hb))
          | (go_at_call 38; (with_reducible refine (MK2.out _ _ _ _ _ hR hZ4).mono ?_); rintro e v ⟨rfl, hb⟩; (replace hQ := hQ.keep hb); (obtain ⟨⟨_, r0⟩, ⟨_, r1⟩, f0, f1⟩ := hQ.ask)))
      all_goals
        have HQ5 := Lib.hid hQ
        clear hQ hQ0 hb SOF
        go_wp2
        refine bodyPost_ret (v := .tuple #[.agg #[.int .i64 qa, .int .i64 qb], .int .i64 qc]) (by simp [results, Tryz.results45, go_sem, r0, r1]) rfl ?_
        exact retF_mk rfl ((HQ5.out.below.setCell HQ5.out.new _).setCell HQ5.out.new _)
end Go.Proofs.YtfhkgpipbegpgaaGreatDoor
