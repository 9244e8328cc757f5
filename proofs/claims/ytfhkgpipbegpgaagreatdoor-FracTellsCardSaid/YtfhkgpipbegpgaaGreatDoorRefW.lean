/- The contracts of the reference's rounded and Near. -/
import Derived.Test.YtfhkgpipbegpgaaGreatDoorRefV
namespace Go.Proofs.YtfhkgpipbegpgaaGreatDoor
open Go Go.RowKit

theorem near_twice (n d : Nat) (hd : 0 < d) : (n * 2 + d) / (d * 2) = nearN n d := by
  unfold nearN
  have h1 := Nat.div_add_mod n d
  have h2 := Nat.mod_lt n hd
  obtain ⟨q, hq⟩ : ∃ q, n / d = q := ⟨_, rfl⟩
  obtain ⟨r, hr⟩ : ∃ q, n % d = q := ⟨_, rfl⟩
  rw [hq, hr] at h1
  rw [hr] at h2
  rw [hq, hr]
  have e : n * 2 + d = (r * 2 + d) + d * 2 * q := by
    rw [← h1, Nat.add_mul, Nat.mul_right_comm d 2 q]; omega
  rw [e, Nat.add_mul_div_left _ _ (by omega), Nat.add_comm]
  congr 1
  split
  · rw [Nat.div_eq_iff (by omega)]; omega
  · exact Nat.div_eq_of_lt (by omega)
set_option maxRecDepth 100000 in
set_option maxHeartbeats 4000000 in
theorem rounded_any (A B : Option Addr) (ca cb n d : Nat) (hd : 0 < d) (kn : nd n ≤ 100) (kd : nd d ≤ 100) (w : World) (hA : Dg w A ca n) (hB : Dg w B cb d) :
    Calls Tryz.prog 51 #[.slice A (nd n) ca, .slice B (nd d) cb] w (RetD (nearN n d) w) := by
  have two_nd : nd 2 ≤ 1 := nd_small (by omega)
  have g1 : nd (n * 2) ≤ 101 := Nat.le_trans (nd_mul _ _) (by omega)
  have g2 : nd (d * 2) ≤ 101 := Nat.le_trans (nd_mul _ _) (by omega)
  have g3 : nd (n * 2 + d) ≤ 102 := nd_add _ _ 101 g1 (by omega)
  have S1 : Hid (∀ W, Dg W A ca n → Calls Tryz.prog 56 #[.slice A (nd n) ca, .int .i64 2] W (RetD (n * 2) W)) := Lib.hid fun W h => scale_any A ca n 2 (by omega) (by omega) W h
  have S2 : Hid (∀ W, Dg W B cb d → Calls Tryz.prog 56 #[.slice B (nd d) cb, .int .i64 2] W (RetD (d * 2) W)) := Lib.hid fun W h => scale_any B cb d 2 (by omega) (by omega) W h
  have HE := Lib.hid (near_twice n d hd)
  have A1 : Hid (∀ W X cX, Dg W X cX (n * 2) → Dg W B cb d → Calls Tryz.prog 69 #[.slice X (nd (n * 2)) cX, .slice B (nd d) cb] W (RetD (n * 2 + d) W)) := Lib.hid fun W X cX h1 h2 => radd_any X B cX cb (n * 2) d (by omega) (by omega) W h1 h2
  have D1 : Hid (∀ W X cX Y cY, Dg W X cX (n * 2 + d) → Dg W Y cY (d * 2) → Calls Tryz.prog 64 #[.slice X (nd (n * 2 + d)) cX, .slice Y (nd (d * 2)) cY] W (RetDD (nearN n d) ((n * 2 + d) % (d * 2)) W)) := Lib.hid fun W X cX Y cY h1 h2 => HE.out ▸ div_all X Y cX cY (n * 2 + d) (d * 2) (by omega) (by omega) W h1 h2
  obtain ⟨a, ha⟩ : ∃ x, n * 2 = x := ⟨_, rfl⟩
  obtain ⟨b, hb2⟩ : ∃ x, d * 2 = x := ⟨_, rfl⟩
  rw [ha] at S1 A1 D1
  rw [hb2] at S2 D1
  obtain ⟨c, hc⟩ : ∃ x, a + d = x := ⟨_, rfl⟩
  rw [hc] at A1 D1
  have HA := Lib.hid hA
  have HB := Lib.hid hB
  clear hA hB ha hb2 hc HE g1 g2 g3 two_nd
  go_enter Tryz.func51, Tryz.ntmps51
  go_wp2_with fail
  refine (S1.out _ HA.out).mono ?_
  rintro e w1 ⟨X, cX, rfl, hX, hb⟩
  have HX := Lib.hid hX
  have HB1 := Lib.hid (HB.out.keep hb)
  have HW1 := Lib.hid hb
  clear hX hb
  go_wp2_with fail
  refine (A1.out _ _ _ HX.out HB1.out).mono ?_
  rintro e w2 ⟨Y, cY, rfl, hY, hb⟩
  have HY := Lib.hid hY
  have HB2 := Lib.hid (HB1.out.keep hb)
  have HW2 := Lib.hid (bchain HW1.out hb)
  clear hY hb
  go_wp2_with fail
  refine (S2.out _ HB2.out).mono ?_
  rintro e w3 ⟨Z, cZ, rfl, hZ, hb⟩
  have HZ := Lib.hid hZ
  have HY3 := Lib.hid (HY.out.keep hb)
  have HW3 := Lib.hid (bchain HW2.out hb)
  clear hZ hb
  go_wp2_with fail
  refine (D1.out _ _ _ _ _ HY3.out HZ.out).mono ?_
  rintro e w4 ⟨Q, cQ, R, cR, rfl, hQ, _, hb⟩
  have HQ := Lib.hid hQ
  have HW4 := Lib.hid (bchain HW3.out hb)
  clear hQ hb
  go_wp2
  go_ret
  exact ⟨Q, cQ, rfl, HQ.out, HW4.out⟩
/-- One argument in memory. -/
structure Am1 (w W : World) (n d : Int) : Prop where
  below : Below w.heap.size w W
  bf : Blk W w.heap.size 23 #[.int .i64 n, .int .i64 d]
theorem Am1.keep {w W W' : World} {n d : Int} (h : Am1 w W n d) (hb : Below W.heap.size W W') : Am1 w W' n d := ⟨bchain h.below hb, h.bf.keep hb h.bf.lt⟩
theorem Am1.start (w : World) (n d : Int) : Am1 w (w.alloc (.cells #[.int .i64 n, .int .i64 d] 23)) n d := ⟨blw1 _ _, Blk.new _ _ _⟩
theorem Am1.cells {w W : World} {n d : Int} (h : Am1 w W n d) : W.cell? ⟨w.heap.size, 0, none⟩ = some (.int .i64 n) ∧ W.cell? ⟨w.heap.size, 1, none⟩ = some (.int .i64 d) := ⟨h.bf.cell rfl, h.bf.cell rfl⟩
set_option maxRecDepth 100000 in
set_option maxHeartbeats 2000000 in
theorem rnear_bad (n d : Int) (hf : FB n d) (h : rightB n d = false) (w : World) :
    Calls Tryz.prog 25 #[.agg #[.int .i64 n, .int .i64 d]] w (RetP (0, 2) w) := by
  have R1 := rright_hid hf h
  have HA := Lib.hid (Am1.start w n d)
  clear h hf
  go_enter Tryz.func25, Tryz.ntmps25
  go_upto_region 1 with fail
  generalize w.alloc (.cells #[.int .i64 n, .int .i64 d] 23) = V1 at *
  obtain ⟨x0, x1⟩ := HA.out.cells
  go_wp2_with fail
  refine (R1.out _).mono ?_
  rintro e w1 ⟨rfl, hb⟩
  have HA1 := Lib.hid (HA.out.keep hb)
  clear hb x0 x1 HA R1
  go_wp2
  go_ret2
  exact retP_mk rfl HA1.out.below
theorem near_num (n d : Int) (hf : FB n d) (hd : 0 < d) : numV (decide (n < 0)) (nearN n.natAbs d.natAbs) = nearP n d := by
  have h := nearN_le n.natAbs d.natAbs (by omega)
  have h0 := hf.n0
  have h1 := hf.n1
  unfold nearP
  by_cases hn : n < 0
  · rw [decide_eq_true hn, if_pos hn, numV_neg (by omega)]
  · rw [decide_eq_false hn, if_neg hn, numV_pos (by omega)]
set_option maxRecDepth 100000 in
set_option maxHeartbeats 4000000 in
theorem rnear_ok (n d : Int) (hf : FB n d) (h : rightB n d = true) (w : World) :
    Calls Tryz.prog 25 #[.agg #[.int .i64 n, .int .i64 d]] w (RetP (nearP n d, 0) w) := by
  have R1 := rright_hid hf h
  have hd0 := right_pos h
  obtain ⟨q, hq⟩ : ∃ q, nearP n d = q := ⟨_, rfl⟩
  rw [hq]
  have Wn := Lib.hid (fun W => whole_any n hf.n0 hf.n1 W)
  have Wd := Lib.hid (fun W => whole_any d hf.d0 hf.d1 W)
  have kn := nd_abs hf.n0 hf.n1
  have kd := nd_abs hf.d0 hf.d1
  have hnum := near_num n d hf hd0
  rw [hq] at hnum
  have hne := nearN_le n.natAbs d.natAbs (by omega)
  have kr : nd (nearN n.natAbs d.natAbs) ≤ 4 := Nat.le_trans (nd_mono hne) kn
  have RD : Hid (∀ W A ca B cb, Dg W A ca n.natAbs → Dg W B cb d.natAbs → Calls Tryz.prog 51 #[.slice A (nd n.natAbs) ca, .slice B (nd d.natAbs) cb] W (RetD (nearN n.natAbs d.natAbs) W)) := Lib.hid fun W A ca B cb h1 h2 => rounded_any A B ca cb _ _ (by omega) (by omega) (by omega) W h1 h2
  have NU : Hid (∀ W A ca, Dg W A ca (nearN n.natAbs d.natAbs) → Calls Tryz.prog 50 #[.bool (decide (n < 0)), .slice A (nd (nearN n.natAbs d.natAbs)) ca] W (RetN q (numB (decide (n < 0)) (nearN n.natAbs d.natAbs)) W)) := Lib.hid fun W A ca h1 => by
    have := number_any (decide (n < 0)) A ca _ (by omega) W h1
    rw [hnum] at this
    exact this
  obtain ⟨bb, hbb⟩ : ∃ b, numB (decide (n < 0)) (nearN n.natAbs d.natAbs) = b := ⟨_, rfl⟩
  rw [hbb] at NU
  obtain ⟨r, hr⟩ : ∃ q, nearN n.natAbs d.natAbs = q := ⟨_, rfl⟩
  rw [hr] at RD NU
  obtain ⟨sg, hsg⟩ : ∃ b, decide (n < 0) = b := ⟨_, rfl⟩
  rw [hsg] at NU
  obtain ⟨N, hN⟩ : ∃ N, n.natAbs = N := ⟨_, rfl⟩
  obtain ⟨D, hD⟩ : ∃ N, d.natAbs = N := ⟨_, rfl⟩
  rw [hN] at Wn RD
  rw [hD] at Wd RD
  have HA := Lib.hid (Am1.start w n d)
  clear h hf hq hnum hne kr kn kd hN hD hr hbb hd0
  go_enter Tryz.func25, Tryz.ntmps25
  go_upto_region 1 with fail
  generalize w.alloc (.cells #[.int .i64 n, .int .i64 d] 23) = V1 at *
  obtain ⟨x0, x1⟩ := HA.out.cells
  go_wp2_with fail
  refine (R1.out _).mono ?_
  rintro e w1 ⟨rfl, hb⟩
  have HA1 := Lib.hid (HA.out.keep hb)
  clear hb x0 x1 HA R1
  go_upto_region 3 with fail
  have SOF : Hid (∀ wx, Am1 w wx n d → (wx.cell? ⟨w.heap.size, 0, none⟩ = some (.int .i64 n) ∧ wx.cell? ⟨w.heap.size, 1, none⟩ = some (.int .i64 d) ∧ Am1 w wx n d)) := Lib.hid fun wx h => ⟨h.cells.1, h.cells.2, h⟩
  have hQ0 := HA1.out
  clear HA1
  go_region_held3 (fun wx => wx.cell? ⟨w.heap.size, 0, none⟩ = some (.int .i64 n) ∧ wx.cell? ⟨w.heap.size, 1, none⟩ = some (.int .i64 d) ∧ Am1 w wx n d)
    (first | exact SOF.out _ hQ | exact SOF.out _ (hQ0.keep (Below.drew (Below.refl _ _))))
    (first
      | (go_at_call 39; (with_reducible refine (Wn.out _).mono ?_); rintro e v ⟨An, cn, rfl, hDn, hb⟩; (have hQ := (by assumption : _ ∧ _ ∧ Am1 w _ _ _).2.2.keep hb))
      | (go_at_call 39; (with_reducible refine (Wd.out _).mono ?_); rintro e v ⟨Ad, cd, rfl, hDd, hb⟩; (replace hQ := hQ.keep hb); (replace hDn := hDn.keep hb))
      | (go_at_call 51; (with_reducible refine (RD.out _ _ _ _ _ hDn hDd).mono ?_); rintro e v ⟨AX, cX, rfl, hDX, hb⟩; (replace hQ := hQ.keep hb))
      | (go_at_call 50; (with_reducible refine (NU.out _ _ _ hDX).mono ?_); rintro e v ⟨rfl, hb⟩; (replace hQ := hQ.keep hb)))
  all_goals
    have HQ := Lib.hid hQ
    clear hQ hQ0 hb SOF hDn hDd hDX
    go_wp2
    go_ret2
    exact retP_mk rfl HQ.out.below
end Go.Proofs.YtfhkgpipbegpgaaGreatDoor
