/- The contracts of the reference's Cmp, rounded and Near. -/
import Derived.Test.YtfhkgpipbegpgaaGreatDoorRefS
namespace Go.Proofs.YtfhkgpipbegpgaaGreatDoor
open Go Go.RowKit

/-- Two arguments in memory. -/
structure Am2 (w W : World) (n d m k : Int) : Prop where
  below : Below w.heap.size w W
  bf : Blk W w.heap.size 23 #[.int .i64 n, .int .i64 d]
  bg : Blk W (w.heap.size + 1) 23 #[.int .i64 m, .int .i64 k]
theorem Am2.keep {w W W' : World} {n d m k : Int} (h : Am2 w W n d m k) (hb : Below W.heap.size W W') : Am2 w W' n d m k := ⟨bchain h.below hb, h.bf.keep hb h.bf.lt, h.bg.keep hb h.bg.lt⟩
theorem Am2.start (w : World) (n d m k : Int) : Am2 w ((w.alloc (.cells #[.int .i64 n, .int .i64 d] 23)).alloc (.cells #[.int .i64 m, .int .i64 k] 23)) n d m k :=
  ⟨(blw1 _ _).trans ((blw1 _ _).mono (by simp)), (Blk.new w 23 #[.int .i64 n, .int .i64 d]).alloc _, by simpa using Blk.new (w.alloc (.cells #[.int .i64 n, .int .i64 d] 23)) 23 #[.int .i64 m, .int .i64 k]⟩
theorem Am2.cells {w W : World} {n d m k : Int} (h : Am2 w W n d m k) : W.cell? ⟨w.heap.size, 0, none⟩ = some (.int .i64 n) ∧ W.cell? ⟨w.heap.size, 1, none⟩ = some (.int .i64 d) ∧ W.cell? ⟨w.heap.size + 1, 0, none⟩ = some (.int .i64 m) ∧ W.cell? ⟨w.heap.size + 1, 1, none⟩ = some (.int .i64 k) :=
  ⟨h.bf.cell rfl, h.bf.cell rfl, h.bg.cell rfl, h.bg.cell rfl⟩
set_option maxRecDepth 100000 in
set_option maxHeartbeats 2000000 in
theorem rcmp_bad1 (n d m k : Int) (hf : FB n d) (h : rightB n d = false) (w : World) :
    Calls Tryz.prog 23 #[.agg #[.int .i64 n, .int .i64 d], .agg #[.int .i64 m, .int .i64 k]] w (RetP (0, 2) w) := by
  have R1 := rright_hid hf h
  have HA := Lib.hid (Am2.start w n d m k)
  clear h hf
  go_enter Tryz.func23, Tryz.ntmps23
  go_upto_region 1 with fail
  generalize (w.alloc (.cells #[.int .i64 n, .int .i64 d] 23)).alloc (.cells #[.int .i64 m, .int .i64 k] 23) = V1 at *
  obtain ⟨x0, x1, y0, y1⟩ := HA.out.cells
  go_wp2_with fail
  refine (R1.out _).mono ?_
  rintro e w1 ⟨rfl, hb⟩
  have HA1 := Lib.hid (HA.out.keep hb)
  clear hb x0 x1 y0 y1 HA R1
  go_wp2
  go_ret2
  exact retP_mk rfl HA1.out.below
set_option maxRecDepth 100000 in
set_option maxHeartbeats 2000000 in
theorem rcmp_bad2 (n d m k : Int) (hf : FB n d) (hg : FB m k) (h : rightB n d = true) (h' : rightB m k = false) (w : World) :
    Calls Tryz.prog 23 #[.agg #[.int .i64 n, .int .i64 d], .agg #[.int .i64 m, .int .i64 k]] w (RetP (0, 2) w) := by
  have R1 := rright_hid hf h
  have R2 := rright_hid hg h'
  have HA := Lib.hid (Am2.start w n d m k)
  clear h hf h' hg
  go_enter Tryz.func23, Tryz.ntmps23
  go_upto_region 1 with fail
  generalize (w.alloc (.cells #[.int .i64 n, .int .i64 d] 23)).alloc (.cells #[.int .i64 m, .int .i64 k] 23) = V1 at *
  obtain ⟨x0, x1, y0, y1⟩ := HA.out.cells
  go_wp2_with fail
  refine (R1.out _).mono ?_
  rintro e w1 ⟨rfl, hb⟩
  have HA1 := Lib.hid (HA.out.keep hb)
  clear hb x0 x1 y0 y1 HA R1
  obtain ⟨x0, x1, y0, y1⟩ := HA1.out.cells
  go_wp2_with fail
  refine (R2.out _).mono ?_
  rintro e w2 ⟨rfl, hb⟩
  have HA2 := Lib.hid (HA1.out.keep hb)
  clear hb x0 x1 y0 y1 HA1 R2
  go_wp2
  go_ret2
  exact retP_mk rfl HA2.out.below
theorem cmpN_swap (a b : Nat) : cmpN b a = -cmpN a b := by
  unfold cmpN
  by_cases h1 : a < b
  · rw [if_neg (by omega), if_pos h1, if_pos h1]; rfl
  · by_cases h2 : b < a
    · rw [if_pos h2, if_neg h1, if_pos h2]
    · rw [if_neg h2, if_neg h1, if_neg h1, if_neg h2]; rfl
set_option maxRecDepth 100000 in
set_option maxHeartbeats 8000000 in
theorem rcmp_ok (n d m k : Int) (hf : FB n d) (hg : FB m k) (h : rightB n d = true) (h' : rightB m k = true) (w : World) :
    Calls Tryz.prog 23 #[.agg #[.int .i64 n, .int .i64 d], .agg #[.int .i64 m, .int .i64 k]] w (RetP (cmpR (toR n d) (toR m k), 0) w) := by
  obtain ⟨c, hc⟩ : ∃ c, cmpR (toR n d) (toR m k) = c := ⟨_, rfl⟩
  rw [hc]
  have R1 := rright_hid hf h
  have R2 := rright_hid hg h'
  have HV1 : Hid (n < 0 → 0 ≤ m → c = -1) := Lib.hid fun a b => by rw [← hc]; exact cmp_less h h' a b
  have HV2 : Hid (0 ≤ n → m < 0 → c = 1) := Lib.hid fun a b => by rw [← hc]; exact cmp_more h h' a b
  have HV3 : Hid (0 ≤ n → 0 ≤ m → c = cmpN (n.natAbs * k.natAbs) (m.natAbs * d.natAbs)) := Lib.hid fun a b => by rw [← hc]; exact cmp_up h h' a b
  have HV4 : Hid (n < 0 → m < 0 → c = cmpN (m.natAbs * d.natAbs) (n.natAbs * k.natAbs)) := Lib.hid fun a b => by rw [← hc, cmpN_swap]; exact cmp_down h h' a b
  have Wn := Lib.hid (fun W => whole_any n hf.n0 hf.n1 W)
  have Wd := Lib.hid (fun W => whole_any d hf.d0 hf.d1 W)
  have Wm := Lib.hid (fun W => whole_any m hg.n0 hg.n1 W)
  have Wk := Lib.hid (fun W => whole_any k hg.d0 hg.d1 W)
  have kn := nd_abs hf.n0 hf.n1
  have kd := nd_abs hf.d0 hf.d1
  have km := nd_abs hg.n0 hg.n1
  have kk := nd_abs hg.d0 hg.d1
  have MUL : Hid (∀ W A ca B cb (a b : Nat), nd a ≤ 4 → nd b ≤ 4 → Dg W A ca a → Dg W B cb b → Calls Tryz.prog 46 #[.slice A (nd a) ca, .slice B (nd b) cb] W (RetD (a * b) W)) := Lib.hid fun W A ca B cb a b k1 k2 h1 h2 => mul_any A B ca cb a b (by omega) (by omega) W h1 h2
  have HA := Lib.hid (Am2.start w n d m k)
  obtain ⟨N, hN⟩ : ∃ N, n.natAbs = N := ⟨_, rfl⟩
  obtain ⟨D, hD⟩ : ∃ N, d.natAbs = N := ⟨_, rfl⟩
  obtain ⟨M, hM⟩ : ∃ N, m.natAbs = N := ⟨_, rfl⟩
  obtain ⟨K, hK⟩ : ∃ N, k.natAbs = N := ⟨_, rfl⟩
  rw [hN] at Wn kn
  rw [hD] at Wd kd
  rw [hM] at Wm km
  rw [hK] at Wk kk
  rw [hN, hD, hM, hK] at HV3 HV4
  obtain ⟨x, hx⟩ : ∃ x, N * K = x := ⟨_, rfl⟩
  obtain ⟨y, hy⟩ : ∃ x, M * D = x := ⟨_, rfl⟩
  have M1 : Hid (∀ W A ca B cb, Dg W A ca N → Dg W B cb K → Calls Tryz.prog 46 #[.slice A (nd N) ca, .slice B (nd K) cb] W (RetD x W)) := Lib.hid fun W A ca B cb h1 h2 => hx ▸ MUL.out W A ca B cb N K kn kk h1 h2
  have M2 : Hid (∀ W A ca B cb, Dg W A ca M → Dg W B cb D → Calls Tryz.prog 46 #[.slice A (nd M) ca, .slice B (nd D) cb] W (RetD y W)) := Lib.hid fun W A ca B cb h1 h2 => hy ▸ MUL.out W A ca B cb M D km kd h1 h2
  rw [hx, hy] at HV3 HV4
  clear hc h hf h' hg hN hD hM hK hx hy MUL
  go_enter Tryz.func23, Tryz.ntmps23
  go_upto_region 1 with fail
  generalize (w.alloc (.cells #[.int .i64 n, .int .i64 d] 23)).alloc (.cells #[.int .i64 m, .int .i64 k] 23) = V1 at *
  obtain ⟨x0, x1, y0, y1⟩ := HA.out.cells
  go_wp2_with fail
  refine (R1.out _).mono ?_
  rintro e w1 ⟨rfl, hb⟩
  have HA1 := Lib.hid (HA.out.keep hb)
  clear hb x0 x1 y0 y1 HA R1
  obtain ⟨x0, x1, y0, y1⟩ := HA1.out.cells
  go_wp2_with fail
  refine (R2.out _).mono ?_
  rintro e w2 ⟨rfl, hb⟩
  have HA2 := Lib.hid (HA1.out.keep hb)
  clear hb x0 x1 y0 y1 HA1 R2
  obtain ⟨x0, x1, y0, y1⟩ := HA2.out.cells
  by_cases s1 : n < 0
  · have t1 : decide (n < 0) = true := decide_eq_true s1
    by_cases s2 : 0 ≤ m
    · have t2 : decide (0 ≤ m) = true := decide_eq_true s2
      have HC := Lib.hid (HV1.out s1 s2)
      clear s1 s2
      go_wp2
      go_ret2
      exact retP_mk (by rw [HC.out]) HA2.out.below
    · have t2 : decide (0 ≤ m) = false := decide_eq_false s2
      have t3 : decide (m < 0) = true := decide_eq_true (by omega)
      have t4 : decide (0 ≤ n) = false := decide_eq_false (by omega)
      have HV := Lib.hid (HV4.out s1 (by omega))
      clear s1 s2
      go_upto_region 7 with fail
      clear x0 x1 y0 y1
      go_cut [6, 7] (fun s6 s7 wx => ∃ X cX Y cY, s6 = .slice X (nd x) cX ∧ s7 = .slice Y (nd y) cY ∧ Dg wx X cX x ∧ Dg wx Y cY y ∧ Am2 w wx n d m k)
      case first =>
        have SOF : Hid (∀ wx, Am2 w wx n d m k → (wx.cell? ⟨w.heap.size, 0, none⟩ = some (.int .i64 n) ∧ wx.cell? ⟨w.heap.size, 1, none⟩ = some (.int .i64 d) ∧ wx.cell? ⟨w.heap.size + 1, 0, none⟩ = some (.int .i64 m) ∧ wx.cell? ⟨w.heap.size + 1, 1, none⟩ = some (.int .i64 k) ∧ Am2 w wx n d m k)) := Lib.hid fun wx h => ⟨h.cells.1, h.cells.2.1, h.cells.2.2.1, h.cells.2.2.2, h⟩
        have hQ0 := HA2.out
        clear HA2
        go_region_held3 (fun wx => wx.cell? ⟨w.heap.size, 0, none⟩ = some (.int .i64 n) ∧ wx.cell? ⟨w.heap.size, 1, none⟩ = some (.int .i64 d) ∧ wx.cell? ⟨w.heap.size + 1, 0, none⟩ = some (.int .i64 m) ∧ wx.cell? ⟨w.heap.size + 1, 1, none⟩ = some (.int .i64 k) ∧ Am2 w wx n d m k)
          (first | exact SOF.out _ hQ | exact SOF.out _ (hQ0.keep (Below.drew (Below.refl _ _))))
          (first
            | (go_at_call 39; (with_reducible refine (Wn.out _).mono ?_); rintro e v ⟨An, cn, rfl, hDn, hb⟩; (have hQ := (by assumption : _ ∧ _ ∧ _ ∧ _ ∧ Am2 w _ _ _ _ _).2.2.2.2.keep hb))
            | (go_at_call 39; (with_reducible refine (Wk.out _).mono ?_); rintro e v ⟨Ak, ck, rfl, hDk, hb⟩; (replace hQ := hQ.keep hb); (replace hDn := hDn.keep hb))
            | (go_at_call 46; (with_reducible refine (M1.out _ _ _ _ _ hDn hDk).mono ?_); rintro e v ⟨AX, cX, rfl, hDX, hb⟩; (replace hQ := hQ.keep hb))
            | (go_at_call 39; (with_reducible refine (Wm.out _).mono ?_); rintro e v ⟨Am, cm, rfl, hDm, hb⟩; (replace hQ := hQ.keep hb); (replace hDX := hDX.keep hb))
            | (go_at_call 39; (with_reducible refine (Wd.out _).mono ?_); rintro e v ⟨Ad, cd, rfl, hDd, hb⟩; (replace hQ := hQ.keep hb); (replace hDX := hDX.keep hb); (replace hDm := hDm.keep hb))
            | (go_at_call 46; (with_reducible refine (M2.out _ _ _ _ _ hDm hDd).mono ?_); rintro e v ⟨AY, cY, rfl, hDY, hb⟩; (replace hQ := hQ.keep hb); (replace hDX := hDX.keep hb)))
        all_goals
          have HR := Lib.hid (And.intro hDX (And.intro hDY hQ))
          clear hDn hDk hDX hDm hDd hDY hQ hQ0 hb SOF
          go_wp2
          go_meet
          exact ⟨_, _, _, _, rfl, rfl, HR.out⟩
      case rest =>
      obtain ⟨X, cX, Y, cY, rfl, rfl, hX, hY, hA⟩ := hcut
      have Hx := Lib.hid hX
      have Hy := Lib.hid hY
      have HA3 := Lib.hid hA
      obtain ⟨x0, x1, y0, y1⟩ := hA.cells
      clear hX hY hA HA2
      have L1 := Lib.hid (less_any Y X cY cX y x wc Hy.out Hx.out)
      by_cases c1 : y < x
      · rw [decide_eq_true c1] at L1
        have HC : Hid (c = -1) := Lib.hid (by rw [HV.out, cmpN, if_pos c1])
        clear c1
        go_wp2_with fail
        refine L1.out.mono ?_
        rintro e w3 ⟨rfl, hb⟩
        have HB := Lib.hid (bchain HA3.out.below hb)
        clear hb L1
        go_wp2
        go_ret2
        exact retP_mk (by rw [HC.out]) HB.out
      · rw [decide_eq_false c1] at L1
        go_wp2_with fail
        refine L1.out.mono ?_
        rintro e w3 ⟨rfl, hb⟩
        have HB := Lib.hid (bchain HA3.out.below hb)
        have L2 := Lib.hid (less_any X Y cX cY x y w3 (Hx.out.keep hb) (Hy.out.keep hb))
        clear hb L1
        by_cases c2 : x < y
        · rw [decide_eq_true c2] at L2
          have HC : Hid (c = 1) := Lib.hid (by rw [HV.out, cmpN, if_neg c1, if_pos c2])
          clear c1 c2
          go_wp2_with fail
          refine L2.out.mono ?_
          rintro e w4 ⟨rfl, hb⟩
          have HB2 := Lib.hid (bchain HB.out hb)
          clear hb L2
          go_wp2
          go_ret2
          exact retP_mk (by rw [HC.out]) HB2.out
        · rw [decide_eq_false c2] at L2
          have HC : Hid (c = 0) := Lib.hid (by rw [HV.out, cmpN, if_neg c1, if_neg c2])
          clear c1 c2
          go_wp2_with fail
          refine L2.out.mono ?_
          rintro e w4 ⟨rfl, hb⟩
          have HB2 := Lib.hid (bchain HB.out hb)
          clear hb L2
          go_wp2
          go_ret2
          exact retP_mk (by rw [HC.out]) HB2.out
  · have t1 : decide (n < 0) = false := decide_eq_false s1
    by_cases s2 : m < 0
    · have t2 : decide (m < 0) = true := decide_eq_true s2
      have t3 : decide (0 ≤ n) = true := decide_eq_true (by omega)
      have HC := Lib.hid (HV2.out (by omega) s2)
      clear s1 s2
      go_wp2
      go_ret2
      exact retP_mk (by rw [HC.out]) HA2.out.below
    · have t2 : decide (m < 0) = false := decide_eq_false s2
      have HV := Lib.hid (HV3.out (by omega) (by omega))
      clear s1 s2
      go_upto_region 7 with fail
      clear x0 x1 y0 y1
      go_cut [6, 7] (fun s6 s7 wx => ∃ X cX Y cY, s6 = .slice X (nd x) cX ∧ s7 = .slice Y (nd y) cY ∧ Dg wx X cX x ∧ Dg wx Y cY y ∧ Am2 w wx n d m k)
      case first =>
        have SOF : Hid (∀ wx, Am2 w wx n d m k → (wx.cell? ⟨w.heap.size, 0, none⟩ = some (.int .i64 n) ∧ wx.cell? ⟨w.heap.size, 1, none⟩ = some (.int .i64 d) ∧ wx.cell? ⟨w.heap.size + 1, 0, none⟩ = some (.int .i64 m) ∧ wx.cell? ⟨w.heap.size + 1, 1, none⟩ = some (.int .i64 k) ∧ Am2 w wx n d m k)) := Lib.hid fun wx h => ⟨h.cells.1, h.cells.2.1, h.cells.2.2.1, h.cells.2.2.2, h⟩
        have hQ0 := HA2.out
        clear HA2
        go_region_held3 (fun wx => wx.cell? ⟨w.heap.size, 0, none⟩ = some (.int .i64 n) ∧ wx.cell? ⟨w.heap.size, 1, none⟩ = some (.int .i64 d) ∧ wx.cell? ⟨w.heap.size + 1, 0, none⟩ = some (.int .i64 m) ∧ wx.cell? ⟨w.heap.size + 1, 1, none⟩ = some (.int .i64 k) ∧ Am2 w wx n d m k)
          (first | exact SOF.out _ hQ | exact SOF.out _ (hQ0.keep (Below.drew (Below.refl _ _))))
          (first
            | (go_at_call 39; (with_reducible refine (Wn.out _).mono ?_); rintro e v ⟨An, cn, rfl, hDn, hb⟩; (have hQ := (by assumption : _ ∧ _ ∧ _ ∧ _ ∧ Am2 w _ _ _ _ _).2.2.2.2.keep hb))
            | (go_at_call 39; (with_reducible refine (Wk.out _).mono ?_); rintro e v ⟨Ak, ck, rfl, hDk, hb⟩; (replace hQ := hQ.keep hb); (replace hDn := hDn.keep hb))
            | (go_at_call 46; (with_reducible refine (M1.out _ _ _ _ _ hDn hDk).mono ?_); rintro e v ⟨AX, cX, rfl, hDX, hb⟩; (replace hQ := hQ.keep hb))
            | (go_at_call 39; (with_reducible refine (Wm.out _).mono ?_); rintro e v ⟨Am, cm, rfl, hDm, hb⟩; (replace hQ := hQ.keep hb); (replace hDX := hDX.keep hb))
            | (go_at_call 39; (with_reducible refine (Wd.out _).mono ?_); rintro e v ⟨Ad, cd, rfl, hDd, hb⟩; (replace hQ := hQ.keep hb); (replace hDX := hDX.keep hb); (replace hDm := hDm.keep hb))
            | (go_at_call 46; (with_reducible refine (M2.out _ _ _ _ _ hDm hDd).mono ?_); rintro e v ⟨AY, cY, rfl, hDY, hb⟩; (replace hQ := hQ.keep hb); (replace hDX := hDX.keep hb)))
        all_goals
          have HR := Lib.hid (And.intro hDX (And.intro hDY hQ))
          clear hDn hDk hDX hDm hDd hDY hQ hQ0 hb SOF
          go_wp2
          go_meet
          exact ⟨_, _, _, _, rfl, rfl, HR.out⟩
      case rest =>
      obtain ⟨X, cX, Y, cY, rfl, rfl, hX, hY, hA⟩ := hcut
      have Hx := Lib.hid hX
      have Hy := Lib.hid hY
      have HA3 := Lib.hid hA
      obtain ⟨x0, x1, y0, y1⟩ := hA.cells
      clear hX hY hA HA2
      have L1 := Lib.hid (less_any X Y cX cY x y wc Hx.out Hy.out)
      by_cases c1 : x < y
      · rw [decide_eq_true c1] at L1
        have HC : Hid (c = -1) := Lib.hid (by rw [HV.out, cmpN, if_pos c1])
        clear c1
        go_wp2_with fail
        refine L1.out.mono ?_
        rintro e w3 ⟨rfl, hb⟩
        have HB := Lib.hid (bchain HA3.out.below hb)
        clear hb L1
        go_wp2
        go_ret2
        exact retP_mk (by rw [HC.out]) HB.out
      · rw [decide_eq_false c1] at L1
        go_wp2_with fail
        refine L1.out.mono ?_
        rintro e w3 ⟨rfl, hb⟩
        have HB := Lib.hid (bchain HA3.out.below hb)
        have L2 := Lib.hid (less_any Y X cY cX y x w3 (Hy.out.keep hb) (Hx.out.keep hb))
        clear hb L1
        by_cases c2 : y < x
        · rw [decide_eq_true c2] at L2
          have HC : Hid (c = 1) := Lib.hid (by rw [HV.out, cmpN, if_neg c1, if_pos c2])
          clear c1 c2
          go_wp2_with fail
          refine L2.out.mono ?_
          rintro e w4 ⟨rfl, hb⟩
          have HB2 := Lib.hid (bchain HB.out hb)
          clear hb L2
          go_wp2
          go_ret2
          exact retP_mk (by rw [HC.out]) HB2.out
        · rw [decide_eq_false c2] at L2
          have HC : Hid (c = 0) := Lib.hid (by rw [HV.out, cmpN, if_neg c1, if_neg c2])
          clear c1 c2
          go_wp2_with fail
          refine L2.out.mono ?_
          rintro e w4 ⟨rfl, hb⟩
          have HB2 := Lib.hid (bchain HB.out hb)
          clear hb L2
          go_wp2
          go_ret2
          exact retP_mk (by rw [HC.out]) HB2.out
end Go.Proofs.YtfhkgpipbegpgaaGreatDoor
