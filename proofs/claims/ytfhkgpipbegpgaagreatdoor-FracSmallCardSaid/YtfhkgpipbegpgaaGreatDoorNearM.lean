/- The contracts of the reference's Cmp, rounded and Near. The contracts of the reference's rounded and Near. Plain: the text of a fraction is read as it was; what is near it is no text. Plain: what Near and Round return is next to the fraction; their texts are read as they were. Plain: the reference's decimal text of a rounded number is that of Round. The contract of the reference's decimal. The contract of the reference's Round. The contract of the reference's Text. -/
import Derived.Test.YtfhkgpipbegpgaaGreatDoorRefS
import Derived.Test.YtfhkgpipbegpgaaGreatDoorRd
import Derived.Test.YtfhkgpipbegpgaaGreatDoorRefG
import Derived.Test.YtfhkgpipbegpgaaGreatDoorTxt
namespace Go.Proofs.YtfhkgpipbegpgaaGreatDoor
open Go Go.RowKit

/-- Two arguments in memory. -/
structure Am2 (w W : World) (n d m k : Int) : Prop where
  below : Below w.heap.size w W
  bf : Blk W w.heap.size 23 #[.int .i64 n, .int .i64 d]
  bg : Blk W (w.heap.size + 1) 23 #[.int .i64 m, .int .i64 k]
theorem Am2.keep {w W W' : World} {n d m k : Int} (h : Am2 w W n d m k) (hb : Below W.heap.size W W') : Am2 w W' n d m k := ⟨bchain h.below hb, h.bf.keep hb h.bf.lt, h.bg.keep hb h.bg.lt⟩
theorem Am2.start (w : World) (n d m k : Int) : Am2 w ((w.alloc (.cells #[.int .i64 n, .int .i64 d] 23)).alloc (.cells #[.int .i64 m, .int .i64 k] 23)) n d m k :=
  ⟨(blw1 _ _).trans ((blw1 _ _).mono (by simp)), (Blk.new w 23 #[.int .i64 n, .int .i64 d]).alloc _, by simpa using Blk.new (w.alloc (.cells #[.int .i64 n, .int .i64 d] 23)) 23 #[.int .i64 m, .int .i64 k]⟩
theorem Am2.cells {w W : World} {n d m k : Int} (h : Am2 w W n d m k) : W.cell? ⟨w.heap.size, 0, none⟩ = some (.int .i64 n) ∧ W.cell? ⟨w.heap.size, 1, none⟩ = some (.int .i64 d) ∧ W.cell? ⟨w.heap.size + 1, 0, none⟩ = some (.int .i64 m) ∧ W.cell? ⟨w.heap.size + 1, 1, none⟩ = some (.int .i64 k) :=
  ⟨h.bf.cell rfl, h.bf.cell rfl, h.bg.cell rfl, h.bg.cell rfl⟩
set_option maxRecDepth 100000 in
set_option maxHeartbeats 2000000 in
theorem rcmp_bad1 (n d m k : Int) (hf : FB n d) (h : rightB n d = false) (w : World) :
    Calls Tryz.prog 23 #[.agg #[.int .i64 n, .int .i64 d], .agg #[.int .i64 m, .int .i64 k]] w (RetP (0, 2) w) := by
  have R1 := rright_hid hf h
  have HA := Lib.hid (Am2.start w n d m k)
  clear h hf
  go_enter Tryz.func23, Tryz.ntmps23
  go_upto_region 1 with fail
  generalize (w.alloc (.cells #[.int .i64 n, .int .i64 d] 23)).alloc (.cells #[.int .i64 m, .int .i64 k] 23) = V1 at *
  obtain ⟨x0, x1, y0, y1⟩ := HA.out.cells
  go_wp2_with fail
  refine (R1.out _).mono ?_
  rintro e w1 ⟨rfl, hb⟩
  have HA1 := Lib.hid (HA.out.keep hb)
  clear hb x0 x1 y0 y1 HA R1
  go_wp2
  go_ret2
  exact retP_mk rfl HA1.out.below
set_option maxRecDepth 100000 in
set_option maxHeartbeats 2000000 in
theorem rcmp_bad2 (n d m k : Int) (hf : FB n d) (hg : FB m k) (h : rightB n d = true) (h' : rightB m k = false) (w : World) :
    Calls Tryz.prog 23 #[.agg #[.int .i64 n, .int .i64 d], .agg #[.int .i64 m, .int .i64 k]] w (RetP (0, 2) w) := by
  have R1 := rright_hid hf h
  have R2 := rright_hid hg h'
  have HA := Lib.hid (Am2.start w n d m k)
  clear h hf h' hg
  go_enter Tryz.func23, Tryz.ntmps23
  go_upto_region 1 with fail
  generalize (w.alloc (.cells #[.int .i64 n, .int .i64 d] 23)).alloc (.cells #[.int .i64 m, .int .i64 k] 23) = V1 at *
  obtain ⟨x0, x1, y0, y1⟩ := HA.out.cells
  go_wp2_with fail
  refine (R1.out _).mono ?_
  rintro e w1 ⟨rfl, hb⟩
  have HA1 := Lib.hid (HA.out.keep hb)
  clear hb x0 x1 y0 y1 HA R1
  obtain ⟨x0, x1, y0, y1⟩ := HA1.out.cells
  go_wp2_with fail
  refine (R2.out _).mono ?_
  rintro e w2 ⟨rfl, hb⟩
  have HA2 := Lib.hid (HA1.out.keep hb)
  clear hb x0 x1 y0 y1 HA1 R2
  go_wp2
  go_ret2
  exact retP_mk rfl HA2.out.below
theorem cmpN_swap (a b : Nat) : cmpN b a = -cmpN a b := by
  unfold cmpN
  by_cases h1 : a < b
  · rw [if_neg (by omega), if_pos h1, if_pos h1]; rfl
  · by_cases h2 : b < a
    · rw [if_pos h2, if_neg h1, if_pos h2]
    · rw [if_neg h2, if_neg h1, if_neg h1, if_neg h2]; rfl
set_option maxRecDepth 100000 in
set_option maxHeartbeats 8000000 in
theorem rcmp_ok (n d m k : Int) (hf : FB n d) (hg : FB m k) (h : rightB n d = true) (h' : rightB m k = true) (w : World) :
    Calls Tryz.prog 23 #[.agg #[.int .i64 n, .int .i64 d], .agg #[.int .i64 m, .int .i64 k]] w (RetP (cmpR (toR n d) (toR m k), 0) w) := by
  obtain ⟨c, hc⟩ : ∃ c, cmpR (toR n d) (toR m k) = c := ⟨_, rfl⟩
  rw [hc]
  have R1 := rright_hid hf h
  have R2 := rright_hid hg h'
  have HV1 : Hid (n < 0 → 0 ≤ m → c = -1) := Lib.hid fun a b => by rw [← hc]; exact cmp_less h h' a b
  have HV2 : Hid (0 ≤ n → m < 0 → c = 1) := Lib.hid fun a b => by rw [← hc]; exact cmp_more h h' a b
  have HV3 : Hid (0 ≤ n → 0 ≤ m → c = cmpN (n.natAbs * k.natAbs) (m.natAbs * d.natAbs)) := Lib.hid fun a b => by rw [← hc]; exact cmp_up h h' a b
  have HV4 : Hid (n < 0 → m < 0 → c = cmpN (m.natAbs * d.natAbs) (n.natAbs * k.natAbs)) := Lib.hid fun a b => by rw [← hc, cmpN_swap]; exact cmp_down h h' a b
  have Wn := Lib.hid (fun W => whole_any n hf.n0 hf.n1 W)
  have Wd := Lib.hid (fun W => whole_any d hf.d0 hf.d1 W)
  have Wm := Lib.hid (fun W => whole_any m hg.n0 hg.n1 W)
  have Wk := Lib.hid (fun W => whole_any k hg.d0 hg.d1 W)
  have kn := nd_abs hf.n0 hf.n1
  have kd := nd_abs hf.d0 hf.d1
  have km := nd_abs hg.n0 hg.n1
  have kk := nd_abs hg.d0 hg.d1
  have MUL : Hid (∀ W A ca B cb (a b : Nat), nd a ≤ 4 → nd b ≤ 4 → Dg W A ca a → Dg W B cb b → Calls Tryz.prog 46 #[.slice A (nd a) ca, .slice B (nd b) cb] W (RetD (a * b) W)) := Lib.hid fun W A ca B cb a b k1 k2 h1 h2 => mul_any A B ca cb a b (by omega) (by omega) W h1 h2
  have HA := Lib.hid (Am2.start w n d m k)
  obtain ⟨N, hN⟩ : ∃ N, n.natAbs = N := ⟨_, rfl⟩
  obtain ⟨D, hD⟩ : ∃ N, d.natAbs = N := ⟨_, rfl⟩
  obtain ⟨M, hM⟩ : ∃ N, m.natAbs = N := ⟨_, rfl⟩
  obtain ⟨K, hK⟩ : ∃ N, k.natAbs = N := ⟨_, rfl⟩
  rw [hN] at Wn kn
  rw [hD] at Wd kd
  rw [hM] at Wm km
  rw [hK] at Wk kk
  rw [hN, hD, hM, hK] at HV3 HV4
  obtain ⟨x, hx⟩ : ∃ x, N * K = x := ⟨_, rfl⟩
  obtain ⟨y, hy⟩ : ∃ x, M * D = x := ⟨_, rfl⟩
  have M1 : Hid (∀ W A ca B cb, Dg W A ca N → Dg W B cb K → Calls Tryz.prog 46 #[.slice A (nd N) ca, .slice B (nd K) cb] W (RetD x W)) := Lib.hid fun W A ca B cb h1 h2 => hx ▸ MUL.out W A ca B cb N K kn kk h1 h2
  have M2 : Hid (∀ W A ca B cb, Dg W A ca M → Dg W B cb D → Calls Tryz.prog 46 #[.slice A (nd M) ca, .slice B (nd D) cb] W (RetD y W)) := Lib.hid fun W A ca B cb h1 h2 => hy ▸ MUL.out W A ca B cb M D km kd h1 h2
  rw [hx, hy] at HV3 HV4
  clear hc h hf h' hg hN hD hM hK hx hy MUL
  go_enter Tryz.func23, Tryz.ntmps23
  go_upto_region 1 with fail
  generalize (w.alloc (.cells #[.int .i64 n, .int .i64 d] 23)).alloc (.cells #[.int .i64 m, .int .i64 k] 23) = V1 at *
  obtain ⟨x0, x1, y0, y1⟩ := HA.out.cells
  go_wp2_with fail
  refine (R1.out _).mono ?_
  rintro e w1 ⟨rfl, hb⟩
  have HA1 := Lib.hid (HA.out.keep hb)
  clear hb x0 x1 y0 y1 HA R1
  obtain ⟨x0, x1, y0, y1⟩ := HA1.out.cells
  go_wp2_with fail
  refine (R2.out _).mono ?_
  rintro e w2 ⟨rfl, hb⟩
  have HA2 := Lib.hid (HA1.out.keep hb)
  clear hb x0 x1 y0 y1 HA1 R2
  obtain ⟨x0, x1, y0, y1⟩ := HA2.out.cells
  by_cases s1 : n < 0
  · have t1 : decide (n < 0) = true := decide_eq_true s1
    by_cases s2 : 0 ≤ m
    · have t2 : decide (0 ≤ m) = true := decide_eq_true s2
      have HC := Lib.hid (HV1.out s1 s2)
      clear s1 s2
      go_wp2
      go_ret2
      exact retP_mk (by rw [HC.out]) HA2.out.below
    · have t2 : decide (0 ≤ m) = false := decide_eq_false s2
      have t3 : decide (m < 0) = true := decide_eq_true (by omega)
      have t4 : decide (0 ≤ n) = false := decide_eq_false (by omega)
      have HV := Lib.hid (HV4.out s1 (by omega))
      clear s1 s2
      go_upto_region 7 with fail
      clear x0 x1 y0 y1
      go_cut [6, 7] (fun s6 s7 wx => ∃ X cX Y cY, s6 = .slice X (nd x) cX ∧ s7 = .slice Y (nd y) cY ∧ Dg wx X cX x ∧ Dg wx Y cY y ∧ Am2 w wx n d m k)
      case first =>
        have SOF : Hid (∀ wx, Am2 w wx n d m k → (wx.cell? ⟨w.heap.size, 0, none⟩ = some (.int .i64 n) ∧ wx.cell? ⟨w.heap.size, 1, none⟩ = some (.int .i64 d) ∧ wx.cell? ⟨w.heap.size + 1, 0, none⟩ = some (.int .i64 m) ∧ wx.cell? ⟨w.heap.size + 1, 1, none⟩ = some (.int .i64 k) ∧ Am2 w wx n d m k)) := Lib.hid fun wx h => ⟨h.cells.1, h.cells.2.1, h.cells.2.2.1, h.cells.2.2.2, h⟩
        have hQ0 := HA2.out
        clear HA2
        go_region_held3 (fun wx => wx.cell? ⟨w.heap.size, 0, none⟩ = some (.int .i64 n) ∧ wx.cell? ⟨w.heap.size, 1, none⟩ = some (.int .i64 d) ∧ wx.cell? ⟨w.heap.size + 1, 0, none⟩ = some (.int .i64 m) ∧ wx.cell? ⟨w.heap.size + 1, 1, none⟩ = some (.int .i64 k) ∧ Am2 w wx n d m k)
          (first | exact SOF.out _ hQ | exact SOF.out _ (hQ0.keep (Below.drew (Below.refl _ _))))
          (first
            | (go_at_call 39; (with_reducible refine (Wn.out _).mono ?_); rintro e v ⟨An, cn, rfl, hDn, hb⟩; (have hQ := (by assumption : _ ∧ _ ∧ _ ∧ _ ∧ Am2 w _ _ _ _ _).2.2.2.2.keep hb))
            | (go_at_call 39; (with_reducible refine (Wk.out _).mono ?_); rintro e v ⟨Ak, ck, rfl, hDk, hb⟩; (replace hQ := hQ.keep hb); (replace hDn := hDn.keep hb))
            | (go_at_call 46; (with_reducible refine (M1.out _ _ _ _ _ hDn hDk).mono ?_); rintro e v ⟨AX, cX, rfl, hDX, hb⟩; (replace hQ := hQ.keep hb))
            | (go_at_call 39; (with_reducible refine (Wm.out _).mono ?_); rintro e v ⟨Am, cm, rfl, hDm, hb⟩; (replace hQ := hQ.keep hb); (replace hDX := hDX.keep hb))
            | (go_at_call 39; (with_reducible refine (Wd.out _).mono ?_); rintro e v ⟨Ad, cd, rfl, hDd, hb⟩; (replace hQ := hQ.keep hb); (replace hDX := hDX.keep hb); (replace hDm := hDm.keep hb))
            | (go_at_call 46; (with_reducible refine (M2.out _ _ _ _ _ hDm hDd).mono ?_); rintro e v ⟨AY, cY, rfl, hDY, hb⟩; (replace hQ := hQ.keep hb); (replace hDX := hDX.keep hb)))
        all_goals
          have HR := Lib.hid (And.intro hDX (And.intro hDY hQ))
          clear hDn hDk hDX hDm hDd hDY hQ hQ0 hb SOF
          go_wp2
          go_meet
          exact ⟨_, _, _, _, rfl, rfl, HR.out⟩
      case rest =>
      obtain ⟨X, cX, Y, cY, rfl, rfl, hX, hY, hA⟩ := hcut
      have Hx := Lib.hid hX
      have Hy := Lib.hid hY
      have HA3 := Lib.hid hA
      obtain ⟨x0, x1, y0, y1⟩ := hA.cells
      clear hX hY hA HA2
      have L1 := Lib.hid (less_any Y X cY cX y x wc Hy.out Hx.out)
      by_cases c1 : y < x
      · rw [decide_eq_true c1] at L1
        have HC : Hid (c = -1) := Lib.hid (by rw [HV.out, cmpN, if_pos c1])
        clear c1
        go_wp2_with fail
        refine L1.out.mono ?_
        rintro e w3 ⟨rfl, hb⟩
        have HB := Lib.hid (bchain HA3.out.below hb)
        clear hb L1
        go_wp2
        go_ret2
        exact retP_mk (by rw [HC.out]) HB.out
      · rw [decide_eq_false c1] at L1
        go_wp2_with fail
        refine L1.out.mono ?_
        rintro e w3 ⟨rfl, hb⟩
        have HB := Lib.hid (bchain HA3.out.below hb)
        have L2 := Lib.hid (less_any X Y cX cY x y w3 (Hx.out.keep hb) (Hy.out.keep hb))
        clear hb L1
        by_cases c2 : x < y
        · rw [decide_eq_true c2] at L2
          have HC : Hid (c = 1) := Lib.hid (by rw [HV.out, cmpN, if_neg c1, if_pos c2])
          clear c1 c2
          go_wp2_with fail
          refine L2.out.mono ?_
          rintro e w4 ⟨rfl, hb⟩
          have HB2 := Lib.hid (bchain HB.out hb)
          clear hb L2
          go_wp2
          go_ret2
          exact retP_mk (by rw [HC.out]) HB2.out
        · rw [decide_eq_false c2] at L2
          have HC : Hid (c = 0) := Lib.hid (by rw [HV.out, cmpN, if_neg c1, if_neg c2])
          clear c1 c2
          go_wp2_with fail
          refine L2.out.mono ?_
          rintro e w4 ⟨rfl, hb⟩
          have HB2 := Lib.hid (bchain HB.out hb)
          clear hb L2
          go_wp2
          go_ret2
          exact retP_mk (by rw [HC.out]) HB2.out
  · have t1 : decide (n < 0) = false := decide_eq_false s1
    by_cases s2 : m < 0
    · have t2 : decide (m < 0) = true := decide_eq_true s2
      have t3 : decide (0 ≤ n) = true := decide_eq_true (by omega)
      have HC := Lib.hid (HV2.out (by omega) s2)
      clear s1 s2
      go_wp2
      go_ret2
      exact retP_mk (by rw [HC.out]) HA2.out.below
    · have t2 : decide (m < 0) = false := decide_eq_false s2
      have HV := Lib.hid (HV3.out (by omega) (by omega))
      clear s1 s2
      go_upto_region 7 with fail
      clear x0 x1 y0 y1
      go_cut [6, 7] (fun s6 s7 wx => ∃ X cX Y cY, s6 = .slice X (nd x) cX ∧ s7 = .slice Y (nd y) cY ∧ Dg wx X cX x ∧ Dg wx Y cY y ∧ Am2 w wx n d m k)
      case first =>
        have SOF : Hid (∀ wx, Am2 w wx n d m k → (wx.cell? ⟨w.heap.size, 0, none⟩ = some (.int .i64 n) ∧ wx.cell? ⟨w.heap.size, 1, none⟩ = some (.int .i64 d) ∧ wx.cell? ⟨w.heap.size + 1, 0, none⟩ = some (.int .i64 m) ∧ wx.cell? ⟨w.heap.size + 1, 1, none⟩ = some (.int .i64 k) ∧ Am2 w wx n d m k)) := Lib.hid fun wx h => ⟨h.cells.1, h.cells.2.1, h.cells.2.2.1, h.cells.2.2.2, h⟩
        have hQ0 := HA2.out
        clear HA2
        go_region_held3 (fun wx => wx.cell? ⟨w.heap.size, 0, none⟩ = some (.int .i64 n) ∧ wx.cell? ⟨w.heap.size, 1, none⟩ = some (.int .i64 d) ∧ wx.cell? ⟨w.heap.size + 1, 0, none⟩ = some (.int .i64 m) ∧ wx.cell? ⟨w.heap.size + 1, 1, none⟩ = some (.int .i64 k) ∧ Am2 w wx n d m k)
          (first | exact SOF.out _ hQ | exact SOF.out _ (hQ0.keep (Below.drew (Below.refl _ _))))
          (first
            | (go_at_call 39; (with_reducible refine (Wn.out _).mono ?_); rintro e v ⟨An, cn, rfl, hDn, hb⟩; (have hQ := (by assumption : _ ∧ _ ∧ _ ∧ _ ∧ Am2 w _ _ _ _ _).2.2.2.2.keep hb))
            | (go_at_call 39; (with_reducible refine (Wk.out _).mono ?_); rintro e v ⟨Ak, ck, rfl, hDk, hb⟩; (replace hQ := hQ.keep hb); (replace hDn := hDn.keep hb))
            | (go_at_call 46; (with_reducible refine (M1.out _ _ _ _ _ hDn hDk).mono ?_); rintro e v ⟨AX, cX, rfl, hDX, hb⟩; (replace hQ := hQ.keep hb))
            | (go_at_call 39; (with_reducible refine (Wm.out _).mono ?_); rintro e v ⟨Am, cm, rfl, hDm, hb⟩; (replace hQ := hQ.keep hb); (replace hDX := hDX.keep hb))
            | (go_at_call 39; (with_reducible refine (Wd.out _).mono ?_); rintro e v ⟨Ad, cd, rfl, hDd, hb⟩; (replace hQ := hQ.keep hb); (replace hDX := hDX.keep hb); (replace hDm := hDm.keep hb))
            | (go_at_call 46; (with_reducible refine (M2.out _ _ _ _ _ hDm hDd).mono ?_); rintro e v ⟨AY, cY, rfl, hDY, hb⟩; (replace hQ := hQ.keep hb); (replace hDX := hDX.keep hb)))
        all_goals
          have HR := Lib.hid (And.intro hDX (And.intro hDY hQ))
          clear hDn hDk hDX hDm hDd hDY hQ hQ0 hb SOF
          go_wp2
          go_meet
          exact ⟨_, _, _, _, rfl, rfl, HR.out⟩
      case rest =>
      obtain ⟨X, cX, Y, cY, rfl, rfl, hX, hY, hA⟩ := hcut
      have Hx := Lib.hid hX
      have Hy := Lib.hid hY
      have HA3 := Lib.hid hA
      obtain ⟨x0, x1, y0, y1⟩ := hA.cells
      clear hX hY hA HA2
      have L1 := Lib.hid (less_any X Y cX cY x y wc Hx.out Hy.out)
      by_cases c1 : x < y
      · rw [decide_eq_true c1] at L1
        have HC : Hid (c = -1) := Lib.hid (by rw [HV.out, cmpN, if_pos c1])
        clear c1
        go_wp2_with fail
        refine L1.out.mono ?_
        rintro e w3 ⟨rfl, hb⟩
        have HB := Lib.hid (bchain HA3.out.below hb)
        clear hb L1
        go_wp2
        go_ret2
        exact retP_mk (by rw [HC.out]) HB.out
      · rw [decide_eq_false c1] at L1
        go_wp2_with fail
        refine L1.out.mono ?_
        rintro e w3 ⟨rfl, hb⟩
        have HB := Lib.hid (bchain HA3.out.below hb)
        have L2 := Lib.hid (less_any Y X cY cX y x w3 (Hy.out.keep hb) (Hx.out.keep hb))
        clear hb L1
        by_cases c2 : y < x
        · rw [decide_eq_true c2] at L2
          have HC : Hid (c = 1) := Lib.hid (by rw [HV.out, cmpN, if_neg c1, if_pos c2])
          clear c1 c2
          go_wp2_with fail
          refine L2.out.mono ?_
          rintro e w4 ⟨rfl, hb⟩
          have HB2 := Lib.hid (bchain HB.out hb)
          clear hb L2
          go_wp2
          go_ret2
          exact retP_mk (by rw [HC.out]) HB2.out
        · rw [decide_eq_false c2] at L2
          have HC : Hid (c = 0) := Lib.hid (by rw [HV.out, cmpN, if_neg c1, if_neg c2])
          clear c1 c2
          go_wp2_with fail
          refine L2.out.mono ?_
          rintro e w4 ⟨rfl, hb⟩
          have HB2 := Lib.hid (bchain HB.out hb)
          clear hb L2
          go_wp2
          go_ret2
          exact retP_mk (by rw [HC.out]) HB2.out
end Go.Proofs.YtfhkgpipbegpgaaGreatDoor
namespace Go.Proofs.YtfhkgpipbegpgaaGreatDoor
open Go Go.RowKit

theorem near_twice (n d : Nat) (hd : 0 < d) : (n * 2 + d) / (d * 2) = nearN n d := by
  unfold nearN
  have h1 := Nat.div_add_mod n d
  have h2 := Nat.mod_lt n hd
  obtain ⟨q, hq⟩ : ∃ q, n / d = q := ⟨_, rfl⟩
  obtain ⟨r, hr⟩ : ∃ q, n % d = q := ⟨_, rfl⟩
  rw [hq, hr] at h1
  rw [hr] at h2
  rw [hq, hr]
  have e : n * 2 + d = (r * 2 + d) + d * 2 * q := by
    rw [← h1, Nat.add_mul, Nat.mul_right_comm d 2 q]; omega
  rw [e, Nat.add_mul_div_left _ _ (by omega), Nat.add_comm]
  congr 1
  split
  · rw [Nat.div_eq_iff (by omega)]; omega
  · exact Nat.div_eq_of_lt (by omega)
set_option maxRecDepth 100000 in
set_option maxHeartbeats 4000000 in
theorem rounded_any (A B : Option Addr) (ca cb n d : Nat) (hd : 0 < d) (kn : nd n ≤ 100) (kd : nd d ≤ 100) (w : World) (hA : Dg w A ca n) (hB : Dg w B cb d) :
    Calls Tryz.prog 51 #[.slice A (nd n) ca, .slice B (nd d) cb] w (RetD (nearN n d) w) := by
  have two_nd : nd 2 ≤ 1 := nd_small (by omega)
  have g1 : nd (n * 2) ≤ 101 := Nat.le_trans (nd_mul _ _) (by omega)
  have g2 : nd (d * 2) ≤ 101 := Nat.le_trans (nd_mul _ _) (by omega)
  have g3 : nd (n * 2 + d) ≤ 102 := nd_add _ _ 101 g1 (by omega)
  have S1 : Hid (∀ W, Dg W A ca n → Calls Tryz.prog 56 #[.slice A (nd n) ca, .int .i64 2] W (RetD (n * 2) W)) := Lib.hid fun W h => scale_any A ca n 2 (by omega) (by omega) W h
  have S2 : Hid (∀ W, Dg W B cb d → Calls Tryz.prog 56 #[.slice B (nd d) cb, .int .i64 2] W (RetD (d * 2) W)) := Lib.hid fun W h => scale_any B cb d 2 (by omega) (by omega) W h
  have HE := Lib.hid (near_twice n d hd)
  have A1 : Hid (∀ W X cX, Dg W X cX (n * 2) → Dg W B cb d → Calls Tryz.prog 69 #[.slice X (nd (n * 2)) cX, .slice B (nd d) cb] W (RetD (n * 2 + d) W)) := Lib.hid fun W X cX h1 h2 => radd_any X B cX cb (n * 2) d (by omega) (by omega) W h1 h2
  have D1 : Hid (∀ W X cX Y cY, Dg W X cX (n * 2 + d) → Dg W Y cY (d * 2) → Calls Tryz.prog 64 #[.slice X (nd (n * 2 + d)) cX, .slice Y (nd (d * 2)) cY] W (RetDD (nearN n d) ((n * 2 + d) % (d * 2)) W)) := Lib.hid fun W X cX Y cY h1 h2 => HE.out ▸ div_all X Y cX cY (n * 2 + d) (d * 2) (by omega) (by omega) W h1 h2
  obtain ⟨a, ha⟩ : ∃ x, n * 2 = x := ⟨_, rfl⟩
  obtain ⟨b, hb2⟩ : ∃ x, d * 2 = x := ⟨_, rfl⟩
  rw [ha] at S1 A1 D1
  rw [hb2] at S2 D1
  obtain ⟨c, hc⟩ : ∃ x, a + d = x := ⟨_, rfl⟩
  rw [hc] at A1 D1
  have HA := Lib.hid hA
  have HB := Lib.hid hB
  clear hA hB ha hb2 hc HE g1 g2 g3 two_nd
  go_enter Tryz.func51, Tryz.ntmps51
  go_wp2_with fail
  refine (S1.out _ HA.out).mono ?_
  rintro e w1 ⟨X, cX, rfl, hX, hb⟩
  have HX := Lib.hid hX
  have HB1 := Lib.hid (HB.out.keep hb)
  have HW1 := Lib.hid hb
  clear hX hb
  go_wp2_with fail
  refine (A1.out _ _ _ HX.out HB1.out).mono ?_
  rintro e w2 ⟨Y, cY, rfl, hY, hb⟩
  have HY := Lib.hid hY
  have HB2 := Lib.hid (HB1.out.keep hb)
  have HW2 := Lib.hid (bchain HW1.out hb)
  clear hY hb
  go_wp2_with fail
  refine (S2.out _ HB2.out).mono ?_
  rintro e w3 ⟨Z, cZ, rfl, hZ, hb⟩
  have HZ := Lib.hid hZ
  have HY3 := Lib.hid (HY.out.keep hb)
  have HW3 := Lib.hid (bchain HW2.out hb)
  clear hZ hb
  go_wp2_with fail
  refine (D1.out _ _ _ _ _ HY3.out HZ.out).mono ?_
  rintro e w4 ⟨Q, cQ, R, cR, rfl, hQ, _, hb⟩
  have HQ := Lib.hid hQ
  have HW4 := Lib.hid (bchain HW3.out hb)
  clear hQ hb
  go_wp2
  go_ret
  exact ⟨Q, cQ, rfl, HQ.out, HW4.out⟩
/-- One argument in memory. -/
structure Am1 (w W : World) (n d : Int) : Prop where
  below : Below w.heap.size w W
  bf : Blk W w.heap.size 23 #[.int .i64 n, .int .i64 d]
theorem Am1.keep {w W W' : World} {n d : Int} (h : Am1 w W n d) (hb : Below W.heap.size W W') : Am1 w W' n d := ⟨bchain h.below hb, h.bf.keep hb h.bf.lt⟩
theorem Am1.start (w : World) (n d : Int) : Am1 w (w.alloc (.cells #[.int .i64 n, .int .i64 d] 23)) n d := ⟨blw1 _ _, Blk.new _ _ _⟩
theorem Am1.cells {w W : World} {n d : Int} (h : Am1 w W n d) : W.cell? ⟨w.heap.size, 0, none⟩ = some (.int .i64 n) ∧ W.cell? ⟨w.heap.size, 1, none⟩ = some (.int .i64 d) := ⟨h.bf.cell rfl, h.bf.cell rfl⟩
set_option maxRecDepth 100000 in
set_option maxHeartbeats 2000000 in
theorem rnear_bad (n d : Int) (hf : FB n d) (h : rightB n d = false) (w : World) :
    Calls Tryz.prog 25 #[.agg #[.int .i64 n, .int .i64 d]] w (RetP (0, 2) w) := by
  have R1 := rright_hid hf h
  have HA := Lib.hid (Am1.start w n d)
  clear h hf
  go_enter Tryz.func25, Tryz.ntmps25
  go_upto_region 1 with fail
  generalize w.alloc (.cells #[.int .i64 n, .int .i64 d] 23) = V1 at *
  obtain ⟨x0, x1⟩ := HA.out.cells
  go_wp2_with fail
  refine (R1.out _).mono ?_
  rintro e w1 ⟨rfl, hb⟩
  have HA1 := Lib.hid (HA.out.keep hb)
  clear hb x0 x1 HA R1
  go_wp2
  go_ret2
  exact retP_mk rfl HA1.out.below
theorem near_num (n d : Int) (hf : FB n d) (hd : 0 < d) : numV (decide (n < 0)) (nearN n.natAbs d.natAbs) = nearP n d := by
  have h := nearN_le n.natAbs d.natAbs (by omega)
  have h0 := hf.n0
  have h1 := hf.n1
  unfold nearP
  by_cases hn : n < 0
  · rw [decide_eq_true hn, if_pos hn, numV_neg (by omega)]
  · rw [decide_eq_false hn, if_neg hn, numV_pos (by omega)]
set_option maxRecDepth 100000 in
set_option maxHeartbeats 4000000 in
theorem rnear_ok (n d : Int) (hf : FB n d) (h : rightB n d = true) (w : World) :
    Calls Tryz.prog 25 #[.agg #[.int .i64 n, .int .i64 d]] w (RetP (nearP n d, 0) w) := by
  have R1 := rright_hid hf h
  have hd0 := right_pos h
  obtain ⟨q, hq⟩ : ∃ q, nearP n d = q := ⟨_, rfl⟩
  rw [hq]
  have Wn := Lib.hid (fun W => whole_any n hf.n0 hf.n1 W)
  have Wd := Lib.hid (fun W => whole_any d hf.d0 hf.d1 W)
  have kn := nd_abs hf.n0 hf.n1
  have kd := nd_abs hf.d0 hf.d1
  have hnum := near_num n d hf hd0
  rw [hq] at hnum
  have hne := nearN_le n.natAbs d.natAbs (by omega)
  have kr : nd (nearN n.natAbs d.natAbs) ≤ 4 := Nat.le_trans (nd_mono hne) kn
  have RD : Hid (∀ W A ca B cb, Dg W A ca n.natAbs → Dg W B cb d.natAbs → Calls Tryz.prog 51 #[.slice A (nd n.natAbs) ca, .slice B (nd d.natAbs) cb] W (RetD (nearN n.natAbs d.natAbs) W)) := Lib.hid fun W A ca B cb h1 h2 => rounded_any A B ca cb _ _ (by omega) (by omega) (by omega) W h1 h2
  have NU : Hid (∀ W A ca, Dg W A ca (nearN n.natAbs d.natAbs) → Calls Tryz.prog 50 #[.bool (decide (n < 0)), .slice A (nd (nearN n.natAbs d.natAbs)) ca] W (RetN q (numB (decide (n < 0)) (nearN n.natAbs d.natAbs)) W)) := Lib.hid fun W A ca h1 => by
    have := number_any (decide (n < 0)) A ca _ (by omega) W h1
    rw [hnum] at this
    exact this
  obtain ⟨bb, hbb⟩ : ∃ b, numB (decide (n < 0)) (nearN n.natAbs d.natAbs) = b := ⟨_, rfl⟩
  rw [hbb] at NU
  obtain ⟨r, hr⟩ : ∃ q, nearN n.natAbs d.natAbs = q := ⟨_, rfl⟩
  rw [hr] at RD NU
  obtain ⟨sg, hsg⟩ : ∃ b, decide (n < 0) = b := ⟨_, rfl⟩
  rw [hsg] at NU
  obtain ⟨N, hN⟩ : ∃ N, n.natAbs = N := ⟨_, rfl⟩
  obtain ⟨D, hD⟩ : ∃ N, d.natAbs = N := ⟨_, rfl⟩
  rw [hN] at Wn RD
  rw [hD] at Wd RD
  have HA := Lib.hid (Am1.start w n d)
  clear h hf hq hnum hne kr kn kd hN hD hr hbb hd0
  go_enter Tryz.func25, Tryz.ntmps25
  go_upto_region 1 with fail
  generalize w.alloc (.cells #[.int .i64 n, .int .i64 d] 23) = V1 at *
  obtain ⟨x0, x1⟩ := HA.out.cells
  go_wp2_with fail
  refine (R1.out _).mono ?_
  rintro e w1 ⟨rfl, hb⟩
  have HA1 := Lib.hid (HA.out.keep hb)
  clear hb x0 x1 HA R1
  go_upto_region 3 with fail
  have SOF : Hid (∀ wx, Am1 w wx n d → (wx.cell? ⟨w.heap.size, 0, none⟩ = some (.int .i64 n) ∧ wx.cell? ⟨w.heap.size, 1, none⟩ = some (.int .i64 d) ∧ Am1 w wx n d)) := Lib.hid fun wx h => ⟨h.cells.1, h.cells.2, h⟩
  have hQ0 := HA1.out
  clear HA1
  go_region_held3 (fun wx => wx.cell? ⟨w.heap.size, 0, none⟩ = some (.int .i64 n) ∧ wx.cell? ⟨w.heap.size, 1, none⟩ = some (.int .i64 d) ∧ Am1 w wx n d)
    (first | exact SOF.out _ hQ | exact SOF.out _ (hQ0.keep (Below.drew (Below.refl _ _))))
    (first
      | (go_at_call 39; (with_reducible refine (Wn.out _).mono ?_); rintro e v ⟨An, cn, rfl, hDn, hb⟩; (have hQ := (by assumption : _ ∧ _ ∧ Am1 w _ _ _).2.2.keep hb))
      | (go_at_call 39; (with_reducible refine (Wd.out _).mono ?_); rintro e v ⟨Ad, cd, rfl, hDd, hb⟩; (replace hQ := hQ.keep hb); (replace hDn := hDn.keep hb))
      | (go_at_call 51; (with_reducible refine (RD.out _ _ _ _ _ hDn hDd).mono ?_); rintro e v ⟨AX, cX, rfl, hDX, hb⟩; (replace hQ := hQ.keep hb))
      | (go_at_call 50; (with_reducible refine (NU.out _ _ _ hDX).mono ?_); rintro e v ⟨rfl, hb⟩; (replace hQ := hQ.keep hb)))
  all_goals
    have HQ := Lib.hid hQ
    clear hQ hQ0 hb SOF hDn hDd hDX
    go_wp2
    go_ret2
    exact retP_mk rfl HQ.out.below
end Go.Proofs.YtfhkgpipbegpgaaGreatDoor
namespace Go.Proofs.YtfhkgpipbegpgaaGreatDoor
open Go

theorem dig_nat {k : Nat} (h : k < 10) : (UInt8.ofNat (48 + k)).toNat = 48 + k := by
  rw [UInt8.toNat_ofNat']; omega
theorem parse_dec (u : Nat) : ∀ (r : List UInt8), u < 18446744073709551616 → Lib.parseUint10 0 (Lib.decDigits u ++ r) = Lib.parseUint10 u r := by
  induction u using Nat.strongRecOn with
  | ind u ih =>
    intro r hu
    rw [Lib.decDigits]
    by_cases h : u < 10
    · rw [dif_pos h, List.singleton_append, Lib.parseUint10, dig_nat h, if_pos (by omega), if_neg (by decide), if_neg (by omega)]
      congr 1; omega
    · rw [dif_neg h, List.append_assoc, ih (u / 10) (by omega) _ (by omega), List.singleton_append, Lib.parseUint10, dig_nat (by omega), if_pos (by omega), if_neg (by omega), if_neg (by omega)]
      congr 1; omega
theorem dec_digit (u : Nat) : ∀ c ∈ Lib.decDigits u, 48 ≤ c.toNat ∧ c.toNat ≤ 57 := by
  induction u using Nat.strongRecOn with
  | ind u ih =>
    intro c hc
    rw [Lib.decDigits] at hc
    by_cases h : u < 10
    · rw [dif_pos h, List.mem_singleton] at hc
      rw [hc, dig_nat h]; omega
    · rw [dif_neg h, List.mem_append, List.mem_singleton] at hc
      rcases hc with hc | hc
      · exact ih (u / 10) (by omega) c hc
      · rw [hc, dig_nat (by omega)]; omega
theorem dec_ne (u : Nat) : Lib.decDigits u ≠ [] := by
  rw [Lib.decDigits]; split <;> simp
theorem mag_dec (u : Nat) (h : u < 18446744073709551616) : Lib.parseMag (Lib.decDigits u) = .ok u := by
  unfold Lib.parseMag
  rw [if_neg (dec_ne u)]
  have := parse_dec u [] h
  rw [List.append_nil] at this
  exact this
theorem atoi_itoa (n : Int) (h0 : -9223372036854775808 ≤ n) (h1 : n ≤ 9223372036854775807) : Lib.atoiAll (Lib.itoa n) = .ok n := by
  unfold Lib.itoa
  by_cases h : n < 0
  · rw [if_pos h]
    unfold Lib.atoiAll
    simp only
    rw [if_pos (Or.inr (by decide)), mag_dec _ (by omega)]
    simp only
    rw [if_neg (by rintro ⟨h, _⟩; exact h (by decide)), if_neg (by rintro ⟨_, h⟩; omega), if_pos (by decide)]
    congr 1; omega
  · rw [if_neg h]
    rcases hd : Lib.decDigits n.toNat with _ | ⟨c, r⟩
    · exact absurd hd (dec_ne _)
    · have hc := dec_digit n.toNat c (by rw [hd]; exact List.mem_cons_self ..)
      have hm := mag_dec n.toNat (by omega)
      rw [hd] at hm
      unfold Lib.atoiAll
      simp only
      rw [if_neg (by omega), hm]
      simp only
      rw [if_neg (by rintro ⟨_, h⟩; omega), if_neg (by rintro ⟨h, _⟩; omega), if_neg (by omega)]
      congr 1; omega
theorem idx_hit : ∀ (a b : List UInt8), (47 : UInt8) ∉ a → Lib.index (a ++ 47 :: b) [47] = a.length
  | [], b, _ => by simp [Lib.index]
  | c :: a, b, h => by
    have hc : (47 : UInt8) ≠ c := fun e => h (by rw [e]; exact List.mem_cons_self ..)
    have ha : (47 : UInt8) ∉ a := fun e => h (List.mem_cons_of_mem _ e)
    rw [List.cons_append, Lib.index, idx_hit a b ha]
    rw [if_neg (by simp [List.isPrefixOf, hc]), if_neg (by simp)]
    simp
theorem idx_miss : ∀ (a : List UInt8), (47 : UInt8) ∉ a → Lib.index a [47] = -1
  | [], _ => by simp [Lib.index]
  | c :: a, h => by
    have hc : (47 : UInt8) ≠ c := fun e => h (by rw [e]; exact List.mem_cons_self ..)
    have ha : (47 : UInt8) ∉ a := fun e => h (List.mem_cons_of_mem _ e)
    rw [Lib.index, idx_miss a ha]
    rw [if_neg (by simp [List.isPrefixOf, hc]), if_pos (by simp)]
theorem cut_hit (a b : List UInt8) (h : (47 : UInt8) ∉ a) : Lib.cut (a ++ 47 :: b) [47] = (a, b, true) := by
  unfold Lib.cut
  rw [idx_hit a b h, if_pos (by omega)]
  simp
theorem cut_miss (a : List UInt8) (h : (47 : UInt8) ∉ a) : Lib.cut a [47] = (a, [], false) := by
  unfold Lib.cut
  rw [idx_miss a h, if_neg (by omega)]
theorem itoa_sign (n : Int) : ∀ c ∈ Lib.itoa n, c = 45 ∨ (48 ≤ c.toNat ∧ c.toNat ≤ 57) := by
  intro c hc
  unfold Lib.itoa at hc
  split at hc
  · rcases List.mem_cons.1 hc with h | h
    · exact Or.inl h
    · exact Or.inr (dec_digit _ c h)
  · exact Or.inr (dec_digit _ c hc)
theorem itoa_free (n : Int) : (47 : UInt8) ∉ Lib.itoa n := fun h => by
  rcases itoa_sign n 47 h with h | h
  · exact absurd h (by decide)
  · exact absurd h (by decide)
theorem dec19 (u : Nat) (h : u < 10000000000000000000) : (Lib.decDigits u).length ≤ 19 := by
  rw [Lib.decDigits_length]; exact nDigits_le 19 u (by omega) (by decide)
theorem itoa20 (n : Int) (h0 : -9223372036854775808 ≤ n) (h1 : n ≤ 9223372036854775807) : (Lib.itoa n).length ≤ 20 := by
  unfold Lib.itoa
  split
  · have := dec19 n.natAbs (by omega); simp only [List.length_cons]; omega
  · have := dec19 n.toNat (by omega); omega
theorem itoa19 (n : Int) (h0 : 0 ≤ n) (h1 : n ≤ 9223372036854775807) : (Lib.itoa n).length ≤ 19 := by
  unfold Lib.itoa
  rw [if_neg (by omega)]; exact dec19 n.toNat (by omega)
/-- The text of a fraction is read as it was. -/
theorem read_text (n d : Int) (hf : FB n d) (hr : rightB n d = true) : readF (textF n d) = (n, d, 0) := by
  have hn := atoi_itoa n hf.n0 hf.n1
  have hd := atoi_itoa d hf.d0 hf.d1
  have hc : chkF (textF n d) n d = (n, d, 0) := by unfold chkF; rw [if_pos ⟨hr, rfl⟩]
  by_cases h1 : d = 1
  · subst h1
    have ht : textF n 1 = Lib.itoa n := by unfold textF; simp
    rw [readF, ht, cut_miss _ (itoa_free n)]
    rw [ht] at hc
    simp only [hn, okOf, readR]
    rw [if_neg (by have := itoa20 n hf.n0 hf.n1; omega), if_neg (by decide)]
    exact hc
  · have ht : textF n d = Lib.itoa n ++ 47 :: Lib.itoa d := by unfold textF; rw [if_neg h1]
    rw [readF, ht, cut_hit _ _ (itoa_free n)]
    rw [ht] at hc
    simp only [hn, hd, okOf, readR]
    rw [if_neg (by have := itoa20 n hf.n0 hf.n1; have := itoa19 d (by have := right_pos hr; omega) hf.d1; simp only [List.length_append, List.length_cons]; omega), if_pos trivial]
    exact hc
/-- Different fractions have different texts. -/
theorem text_inj (n d m k : Int) (hf : FB n d) (hg : FB m k) (hr : rightB n d = true) (hs : rightB m k = true) (h : textF n d = textF m k) : n = m ∧ d = k := by
  have h1 := read_text n d hf hr
  rw [h, read_text m k hg hs] at h1
  injection h1 with a b
  injection b with b _
  exact ⟨a.symm, b.symm⟩
/-- What is no text is not read. -/
theorem read_none (L : List UInt8) (h : ∀ n d, rightB n d = true → textF n d ≠ L) : readF L = (0, 0, 10) := by
  have hc : ∀ n d, chkF L n d = (0, 0, 10) := fun n d => by
    unfold chkF; rw [if_neg (fun e => h n d e.1 e.2)]
  unfold readF readR
  split
  · rfl
  · split
    · rfl
    · split
      · split
        · rfl
        · exact hc _ _
      · exact hc _ _
theorem dec_last (u : Nat) (l : List UInt8) (c : UInt8) (h : Lib.decDigits u = l ++ [c]) : 48 ≤ c.toNat ∧ c.toNat ≤ 57 :=
  dec_digit u c (by rw [h]; simp)
theorem itoa_last (n : Int) (l : List UInt8) (c : UInt8) (h : Lib.itoa n = l ++ [c]) : 48 ≤ c.toNat ∧ c.toNat ≤ 57 := by
  unfold Lib.itoa at h
  split at h
  · cases l with
    | nil =>
      rw [List.nil_append] at h
      injection h with _ h
      exact absurd h (dec_ne _)
    | cons a l =>
      rw [List.cons_append] at h
      injection h with _ h
      exact dec_last _ _ _ h
  · exact dec_last _ _ _ h
theorem itoa_ne (n : Int) : Lib.itoa n ≠ [] := by
  unfold Lib.itoa
  split
  · simp
  · exact dec_ne _
theorem text_last (n d : Int) (l : List UInt8) (c : UInt8) (h : textF n d = l ++ [c]) : 48 ≤ c.toNat ∧ c.toNat ≤ 57 := by
  unfold textF at h
  split at h
  · rw [List.append_nil] at h; exact itoa_last _ _ _ h
  · rcases List.eq_nil_or_concat (Lib.itoa d) with e | ⟨m, x, e⟩
    · exact absurd e (itoa_ne d)
    · rw [List.concat_eq_append] at e
      have e2 : (Lib.itoa n ++ 47 :: m) ++ [x] = l ++ [c] := by rw [← h, e]; simp
      have := (List.append_inj' e2 rfl).2
      injection this with this _
      rw [← this]
      exact itoa_last d m x e
theorem text_head (n d : Int) (c : UInt8) (r : List UInt8) (h : textF n d = c :: r) : c = 45 ∨ (48 ≤ c.toNat ∧ c.toNat ≤ 57) := by
  unfold textF at h
  rcases hi : Lib.itoa n with _ | ⟨a, l⟩
  · exact absurd hi (itoa_ne n)
  · rw [hi, List.cons_append] at h
    injection h with h _
    rw [← h]
    exact itoa_sign n a (by rw [hi]; exact List.mem_cons_self ..)
theorem dec_lead (u : Nat) : ∀ r, Lib.decDigits u = 48 :: r → u = 0 := by
  induction u using Nat.strongRecOn with
  | ind u ih =>
    intro r h
    rw [Lib.decDigits] at h
    by_cases hu : u < 10
    · rw [dif_pos hu] at h
      injection h with h _
      have := dig_nat hu
      rw [h] at this
      have : (48 : UInt8).toNat = 48 := rfl
      omega
    · rw [dif_neg hu] at h
      rcases hd : Lib.decDigits (u / 10) with _ | ⟨a, l⟩
      · exact absurd hd (dec_ne _)
      · rw [hd, List.cons_append] at h
        injection h with h _
        have := ih (u / 10) (by omega) l (by rw [hd, h])
        omega
theorem itoa_lead (n : Int) (r : List UInt8) (h : Lib.itoa n = 48 :: r) : r = [] := by
  unfold Lib.itoa at h
  split at h
  · injection h with h _; exact absurd h (by decide)
  · have h0 := dec_lead _ r h
    rw [h0] at h
    rw [Lib.decDigits, dif_pos (by omega)] at h
    injection h with _ h
    exact h.symm
theorem itoa_one (k : Int) (h : Lib.itoa k = [49]) : k = 1 := by
  unfold Lib.itoa at h
  split at h
  · injection h with h _; exact absurd h (by decide)
  · rw [Lib.decDigits] at h
    by_cases hu : k.toNat < 10
    · rw [dif_pos hu] at h
      injection h with h _
      have := dig_nat hu
      rw [h] at this
      have : (49 : UInt8).toNat = 49 := rfl
      omega
    · rw [dif_neg hu] at h
      have hl := congrArg List.length h
      have := List.length_pos_iff.2 (dec_ne (k.toNat / 10))
      simp only [List.length_append, List.length_cons, List.length_nil] at hl
      omega
theorem text_ne (n d : Int) : textF n d ≠ [] := by
  unfold textF
  have := List.length_pos_iff.2 (itoa_ne n)
  intro h
  have := congrArg List.length h
  simp only [List.length_append, List.length_nil] at this
  omega
theorem text_two {n d : Int} (h : d ≠ 1) : textF n d = Lib.itoa n ++ 47 :: Lib.itoa d := by unfold textF; rw [if_neg h]
theorem text_one (n : Int) : textF n 1 = Lib.itoa n := by unfold textF; simp
theorem none_0 (n d : Int) : readF (48 :: textF n d) = (0, 0, 10) := read_none _ fun m k _ h => by
  by_cases hk : k = 1
  · subst hk
    rw [text_one] at h
    exact text_ne _ _ (itoa_lead _ _ h)
  · rw [text_two hk] at h
    rcases hi : Lib.itoa m with _ | ⟨a, l⟩
    · exact itoa_ne m hi
    · rw [hi, List.cons_append] at h
      injection h with h0 h
      subst h0
      rw [itoa_lead _ _ hi, List.nil_append] at h
      rcases text_head n d 47 _ h.symm with e | e
      · exact absurd e (by decide)
      · exact absurd e (by decide)
theorem none_head (c : UInt8) (n d : Int) (h0 : c ≠ 45) (h1 : ¬ (48 ≤ c.toNat ∧ c.toNat ≤ 57)) : readF (c :: textF n d) = (0, 0, 10) := read_none _ fun m k _ h => by
  rcases text_head m k c _ h with e | e
  · exact h0 e
  · exact h1 e
theorem none_last (c : UInt8) (n d : Int) (h1 : ¬ (48 ≤ c.toNat ∧ c.toNat ≤ 57)) : readF (textF n d ++ [c]) = (0, 0, 10) := read_none _ fun m k _ h =>
  h1 (text_last m k _ c h)
theorem none_1 (n d : Int) : readF (textF n d ++ [47, 49]) = (0, 0, 10) := read_none _ fun m k _ h => by
  by_cases hk : k = 1
  · subst hk
    rw [text_one] at h
    exact itoa_free m (by rw [h]; simp)
  · rw [text_two hk] at h
    have h1 := congrArg (fun l => Lib.cut l [47]) h
    by_cases hd : d = 1
    · subst hd
      rw [text_one] at h1
      simp only [cut_hit _ _ (itoa_free m), cut_hit _ _ (itoa_free n)] at h1
      injection h1 with _ h1
      injection h1 with h1 _
      exact hk (itoa_one k h1)
    · rw [text_two hd] at h1
      simp only [cut_hit _ _ (itoa_free m), List.append_assoc, List.cons_append, cut_hit _ _ (itoa_free n)] at h1
      injection h1 with _ h1
      injection h1 with h1 _
      exact itoa_free k (by rw [h1]; simp)
end Go.Proofs.YtfhkgpipbegpgaaGreatDoor
namespace Go.Proofs.YtfhkgpipbegpgaaGreatDoor
open Go

theorem near_two (N D : Nat) (hD : 0 < D) : 2 * N ≤ 2 * (nearN N D * D) + D ∧ 2 * (nearN N D * D) ≤ 2 * N + D ∧ 2 * (nearN N D * D) + D ≠ 2 * N := by
  unfold nearN
  have h1 := Nat.div_add_mod N D
  have h2 := Nat.mod_lt N hD
  rw [Nat.mul_comm] at h1
  split
  · rw [Nat.add_mul]; omega
  · rw [Nat.add_mul]; omega
/-- The number is next to the fraction; equally near, away from 0. -/
theorem near_diff (n d : Int) (hd : 0 < d) (e : Int) (he : e = 2 * (nearP n d * d - n)) :
    e ≤ d ∧ -d ≤ e ∧ (e = d → 0 < nearP n d) ∧ (e = -d → ¬ 0 < nearP n d) := by
  subst he
  obtain ⟨D, rfl⟩ : ∃ D : Nat, d = D := ⟨d.toNat, by omega⟩
  have hD : 0 < D := by omega
  have h := near_two n.natAbs D hD
  have hq : ∀ q : Nat, nearN n.natAbs D = q → ((q * D : Nat) : Int) = (q : Int) * D := fun q _ => by simp
  unfold nearP
  rw [Int.natAbs_natCast]
  obtain ⟨q, hq⟩ : ∃ q, nearN n.natAbs D = q := ⟨_, rfl⟩
  rw [hq] at h ⊢
  obtain ⟨r, hr⟩ : ∃ r, q * D = r := ⟨_, rfl⟩
  have hr' : (q : Int) * D = r := by rw [← hr]; simp
  have hz : q = 0 → r = 0 := fun h => by rw [← hr, h]; simp
  rw [hr] at h
  split
  · rw [Int.neg_mul, hr']
    refine ⟨by omega, by omega, fun _ => by omega, fun _ => by omega⟩
  · rw [hr']
    refine ⟨by omega, by omega, fun _ => by omega, fun _ => by omega⟩
theorem parse_rep (c a : Nat) : ∀ (r : List UInt8), a * 10 ^ c < 18446744073709551616 → Lib.parseUint10 a (List.replicate c 48 ++ r) = Lib.parseUint10 (a * 10 ^ c) r := by
  induction c generalizing a with
  | zero => intro r _; simp
  | succ c ih =>
    intro r h
    have e : a * 10 ^ (c + 1) = a * 10 * 10 ^ c := by rw [Nat.pow_succ, Nat.mul_comm (10 ^ c), Nat.mul_assoc]
    have hp : 0 < 10 ^ c := Nat.pow_pos (by omega)
    have ha : a * 10 ≤ a * 10 * 10 ^ c := Nat.le_mul_of_pos_right _ hp
    rw [List.replicate_succ, List.cons_append, Lib.parseUint10, show (48 : UInt8).toNat = 48 from rfl, if_pos (by omega), if_neg (by omega), if_neg (by omega)]
    rw [show a * 10 + (48 - 48) = a * 10 by omega, ih (a * 10) r (by omega), e]
theorem parse_more (u : Nat) : ∀ (a : Nat) (r : List UInt8), a * 10 ^ Lib.nDigits u + u < 18446744073709551616 → Lib.parseUint10 a (Lib.decDigits u ++ r) = Lib.parseUint10 (a * 10 ^ Lib.nDigits u + u) r := by
  induction u using Nat.strongRecOn with
  | ind u ih =>
    intro a r hu
    have hl := Lib.decDigits_length u
    rw [Lib.decDigits]
    rw [Lib.decDigits] at hl
    by_cases h : u < 10
    · rw [dif_pos h] at hl ⊢
      have hn : Lib.nDigits u = 1 := by simpa using hl.symm
      rw [hn] at hu ⊢
      rw [List.singleton_append, Lib.parseUint10, dig_nat h, if_pos (by omega), if_neg (by omega), if_neg (by omega)]
      congr 1; omega
    · rw [dif_neg h] at hl ⊢
      have hn : Lib.nDigits u = Lib.nDigits (u / 10) + 1 := by
        rw [List.length_append, Lib.decDigits_length] at hl; simpa using hl.symm
      obtain ⟨k, hk⟩ : ∃ k, Lib.nDigits (u / 10) = k := ⟨_, rfl⟩
      have e : a * 10 ^ (k + 1) = 10 * (a * 10 ^ k) := by rw [Nat.pow_succ]; ac_rfl
      rw [hn, hk, e] at hu
      rw [List.append_assoc, ih (u / 10) (by omega) a _ (by rw [hk]; omega), hk, hn, hk, e]
      rw [List.singleton_append, Lib.parseUint10, dig_nat (by omega), if_pos (by omega), if_neg (by omega), if_neg (by omega)]
      congr 1; omega
/-- So many digits. -/
def padD (k b : Nat) : List UInt8 := List.replicate (k - (Lib.decDigits b).length) 48 ++ Lib.decDigits b
theorem ndig_le {k b : Nat} (hk : 0 < k) (h : b < p10 k) : Lib.nDigits b ≤ k := nDigits_le k b (by rw [p10_eq] at h; exact h) hk
theorem padD_len {k b : Nat} (hk : 0 < k) (h : b < p10 k) : (padD k b).length = k := by
  have := ndig_le hk h
  unfold padD
  rw [List.length_append, List.length_replicate, Lib.decDigits_length]; omega
theorem parse_pad {k b a : Nat} (hk : 0 < k) (h : b < p10 k) (hs : a * p10 k + b < 18446744073709551616) : Lib.parseUint10 a (padD k b) = .ok (a * p10 k + b) := by
  have hn := ndig_le hk h
  unfold padD
  rw [Lib.decDigits_length]
  have e : a * 10 ^ (k - Lib.nDigits b) * 10 ^ Lib.nDigits b = a * p10 k := by
    rw [p10_eq, Nat.mul_assoc, ← Nat.pow_add]
    congr 2; omega
  have h1 : a * 10 ^ (k - Lib.nDigits b) ≤ a * p10 k := by rw [← e]; exact Nat.le_mul_of_pos_right _ (Nat.pow_pos (by omega))
  rw [parse_rep _ _ _ (by omega)]
  have := parse_more b (a * 10 ^ (k - Lib.nDigits b)) [] (by rw [e]; omega)
  rw [List.append_nil, e] at this
  exact this
/-- The digits behind the point. -/
def partD (k b : Nat) : List UInt8 := if k = 0 then [] else padD k b
theorem partD_len {k b : Nat} (h : b < p10 k) : (partD k b).length = k := by
  unfold partD
  split
  · simp; omega
  · exact padD_len (by omega) h
theorem mag_all {k a b : Nat} (h : b < p10 k) (hs : a * p10 k + b < 18446744073709551616) : Lib.parseMag (Lib.decDigits a ++ partD k b) = .ok (a * p10 k + b) := by
  have hp := p10_pos k
  have ha : a ≤ a * p10 k := Nat.le_mul_of_pos_right _ hp
  unfold Lib.parseMag
  rw [if_neg (by have := dec_ne a; simp [this]), parse_dec a _ (by omega)]
  unfold partD
  split
  · rename_i hk
    subst hk
    rw [p10_zero] at *
    rw [Lib.parseUint10]
    congr 1; omega
  · exact parse_pad (by omega) h hs
/-- Digits before the point and behind it are read as one number. -/
theorem atoi_all {k a b : Nat} (h : b < p10 k) (hs : a * p10 k + b ≤ 9223372036854775807) : Lib.atoiAll (Lib.decDigits a ++ partD k b) = .ok ((a * p10 k + b : Nat) : Int) := by
  have hm := mag_all h (by omega : a * p10 k + b < 18446744073709551616)
  rcases hd : Lib.decDigits a with _ | ⟨c, r⟩
  · exact absurd hd (dec_ne _)
  · have hc := dec_digit a c (by rw [hd]; exact List.mem_cons_self ..)
    rw [hd, List.cons_append] at hm
    rw [List.cons_append]
    unfold Lib.atoiAll
    simp only
    rw [if_neg (by omega), hm]
    simp only
    rw [if_neg (by rintro ⟨_, h⟩; omega), if_neg (by rintro ⟨h, _⟩; omega), if_neg (by omega)]
/-- What Round writes, in its parts. -/
def bodyL (k T : Nat) : List UInt8 := Lib.decDigits (T / p10 k) ++ if k = 0 then [] else 46 :: padD k (T % p10 k)
theorem round_body (neg : Bool) (k T : Nat) : roundL neg k T = (if neg = true ∧ 0 < T then [45] else []) ++ bodyL k T := rfl
theorem idx46 : ∀ (a b : List UInt8), (46 : UInt8) ∉ a → Lib.index (a ++ 46 :: b) [46] = a.length
  | [], b, _ => by simp [Lib.index]
  | c :: a, b, h => by
    have hc : (46 : UInt8) ≠ c := fun e => h (by rw [e]; exact List.mem_cons_self ..)
    have ha : (46 : UInt8) ∉ a := fun e => h (List.mem_cons_of_mem _ e)
    rw [List.cons_append, Lib.index, idx46 a b ha]
    rw [if_neg (by simp [List.isPrefixOf, hc]), if_neg (by simp)]
    simp
theorem idx46_miss : ∀ (a : List UInt8), (46 : UInt8) ∉ a → Lib.index a [46] = -1
  | [], _ => by simp [Lib.index]
  | c :: a, h => by
    have hc : (46 : UInt8) ≠ c := fun e => h (by rw [e]; exact List.mem_cons_self ..)
    have ha : (46 : UInt8) ∉ a := fun e => h (List.mem_cons_of_mem _ e)
    rw [Lib.index, idx46_miss a ha]
    rw [if_neg (by simp [List.isPrefixOf, hc]), if_pos (by simp)]
theorem dec_free (c : UInt8) (hc : ¬ (48 ≤ c.toNat ∧ c.toNat ≤ 57)) (u : Nat) : c ∉ Lib.decDigits u := fun h => hc (dec_digit u c h)
theorem cut_body (k T : Nat) : Lib.cut (bodyL k T) [46] = (Lib.decDigits (T / p10 k), partD k (T % p10 k), decide (0 < k)) := by
  have hf := dec_free 46 (by decide) (T / p10 k)
  unfold bodyL partD
  by_cases hk : k = 0
  · rw [if_pos hk, if_pos hk, List.append_nil]
    unfold Lib.cut
    rw [idx46_miss _ hf, if_neg (by omega), decide_eq_false (by omega)]
  · rw [if_neg hk, if_neg hk]
    unfold Lib.cut
    rw [idx46 _ _ hf, if_pos (by omega), decide_eq_true (by omega)]
    simp
theorem near_zero (N D : Nat) : roundT N D 0 = nearN N D := by
  unfold roundT; rw [p10_zero, Nat.mul_one]
/-- Round of 0 places is Near. -/
theorem zero_is (n d : Int) : roundL (decide (n < 0)) 0 (roundT n.natAbs d.natAbs 0) = Lib.itoa (nearP n d) := by
  rw [near_zero, round_body]
  unfold bodyL nearP Lib.itoa
  rw [if_pos rfl, List.append_nil, p10_zero, Nat.div_one]
  obtain ⟨q, hq⟩ : ∃ q, nearN n.natAbs d.natAbs = q := ⟨_, rfl⟩
  rw [hq]
  by_cases hn : n < 0
  · rw [if_pos hn, decide_eq_true hn]
    by_cases h0 : 0 < q
    · rw [if_pos ⟨rfl, h0⟩, if_pos (by omega)]
      simp
    · rw [if_neg (fun h => h0 h.2), if_neg (by omega), show q = 0 by omega]
      simp
  · rw [if_neg hn, decide_eq_false hn, if_neg (fun h => Bool.noConfusion h.1), if_neg (by omega)]
    simp
/-- A decimal number of so many places is written as it is. -/
theorem again_is (x : Rat) (T : Int) (k : Nat) (hx : x = Rat.divInt T (p10 k)) : roundT x.num.natAbs x.den k = T.natAbs := by
  have hp := p10_pos k
  have h1 : x.num * (p10 k : Int) = T * (x.den : Nat) := by
    have h : Rat.divInt x.num x.den = Rat.divInt T (p10 k) := by rw [Rat.num_divInt_den]; exact hx
    exact (Rat.divInt_eq_divInt_iff (by have := x.den_nz; omega) (by omega)).1 h
  have h2 : x.num.natAbs * p10 k = T.natAbs * x.den := by
    have := congrArg Int.natAbs h1
    rw [Int.natAbs_mul, Int.natAbs_mul, Int.natAbs_natCast, Int.natAbs_natCast] at this
    exact this
  unfold roundT nearN
  rw [h2, Nat.mul_div_cancel _ x.den_pos, Nat.mul_mod_left, if_neg (by have := x.den_pos; omega)]
  omega
theorem again_neg (x : Rat) (T : Int) (k : Nat) (hx : x = Rat.divInt T (p10 k)) : x.num < 0 ↔ T < 0 := by
  have hp := p10_pos k
  have h1 : x.num * (p10 k : Int) = T * (x.den : Nat) := by
    have h : Rat.divInt x.num x.den = Rat.divInt T (p10 k) := by rw [Rat.num_divInt_den]; exact hx
    exact (Rat.divInt_eq_divInt_iff (by have := x.den_nz; omega) (by omega)).1 h
  have hd : (0 : Int) < x.den := by have := x.den_pos; omega
  have hq : (0 : Int) < p10 k := by omega
  constructor
  · intro h
    have : x.num * (p10 k : Int) < 0 := Int.mul_neg_of_neg_of_pos h hq
    rw [h1] at this
    exact Int.neg_of_mul_neg_left this (by omega)
  · intro h
    have : T * (x.den : Int) < 0 := Int.mul_neg_of_neg_of_pos h hd
    rw [← h1] at this
    exact Int.neg_of_mul_neg_left this (by omega)
/-- How far it is from 0. -/
def absR (a : Rat) : Rat := if a.num < 0 then -a else a
theorem half_le (m : Int) (p q : Nat) (hp : 0 < p) (hq : 0 < q) (h : 2 * m ≤ q) : Rat.divInt m (p * q) ≤ Rat.divInt 1 (2 * p) := by
  have hp' : (0 : Int) < p := by omega
  have hq' : (0 : Int) < q := by omega
  have h1 : (0 : Int) < p * q := Int.mul_pos hp' hq'
  rw [Rat.le_iff_sub_nonneg, Rat.divInt_sub_divInt _ _ (by omega) (by omega)]
  rw [Rat.divInt_nonneg_iff_of_pos_right (Int.mul_pos (by omega) h1)]
  have : (1 : Int) * (p * q) - m * (2 * p) = p * (q - 2 * m) := by grind
  rw [this]
  exact Int.mul_nonneg (by omega) (by omega)
theorem near_far (x : Rat) (k T : Nat) (T' : Int) (hT : T = roundT x.num.natAbs x.den k) (hT' : T' = if x.num < 0 then -(T : Int) else T) :
    ∃ m : Int, Rat.divInt T' (p10 k) - x = Rat.divInt m (p10 k * x.den) ∧ 2 * m ≤ x.den ∧ -(x.den : Int) ≤ 2 * m := by
  have hp := p10_pos k
  have hd := x.den_pos
  have hn := near_two (x.num.natAbs * p10 k) x.den hd
  have hT2 : nearN (x.num.natAbs * p10 k) x.den = T := hT.symm
  rw [hT2] at hn
  refine ⟨T' * x.den - x.num * p10 k, ?_, ?_⟩
  · have := Rat.divInt_sub_divInt T' x.num (d₁ := p10 k) (d₂ := x.den) (by omega) (by omega)
    rw [Rat.num_divInt_den] at this
    exact this
  · obtain ⟨r, hr⟩ : ∃ r, T * x.den = r := ⟨_, rfl⟩
    obtain ⟨s, hs⟩ : ∃ s, x.num.natAbs * p10 k = s := ⟨_, rfl⟩
    have hr' : (T : Int) * x.den = r := by rw [← hr]; simp
    rw [hr, hs] at hn
    subst hT'
    split
    · have : x.num * (p10 k : Int) = -(s : Int) := by
        have e : x.num = -(x.num.natAbs : Int) := by omega
        rw [e, Int.neg_mul, ← hs]; simp
      rw [Int.neg_mul, hr', this]
      omega
    · have : x.num * (p10 k : Int) = (s : Int) := by
        have e : x.num = (x.num.natAbs : Int) := by omega
        rw [e, ← hs]; simp
      rw [hr', this]
      omega
/-- What is written differs by half a unit at most. -/
theorem half_cmp (x : Rat) (k T : Nat) (T' : Int) (hT : T = roundT x.num.natAbs x.den k) (hT' : T' = if x.num < 0 then -(T : Int) else T) :
    cmpR (absR (Rat.divInt T' (p10 k) - x)) (Rat.divInt 1 (2 * p10 k)) ≤ 0 := by
  obtain ⟨m, h1, h2, h3⟩ := near_far x k T T' hT hT'
  have hle : absR (Rat.divInt T' (p10 k) - x) ≤ Rat.divInt 1 (2 * p10 k) := by
    unfold absR
    rw [h1]
    split
    · rw [Rat.neg_divInt]; exact half_le _ _ _ (p10_pos k) x.den_pos (by omega)
    · exact half_le _ _ _ (p10_pos k) x.den_pos h2
  unfold cmpR
  split
  · omega
  · split
    · omega
    · rename_i a b
      exact absurd (Rat.le_antisymm hle (Rat.not_lt.1 a)) b
theorem abs_num (a : Rat) : (absR a).num = if a.num < 0 then -a.num else a.num := by
  unfold absR; split <;> simp_all
theorem abs_den (a : Rat) : (absR a).den = a.den := by
  unfold absR; split <;> simp
theorem round_le (N D k : Nat) (hD : 0 < D) (hN : N ≤ 8388608) (hk : k ≤ 9) : roundT N D k ≤ 8388608000000000 := by
  have h1 := nearN_le (N * p10 k) D hD
  have h2 := p10_le k hk
  have h3 : N * p10 k ≤ 8388608 * 1000000000 := Nat.mul_le_mul hN h2
  unfold roundT
  omega
theorem far_fits (x : Rat) (k T : Nat) (T' : Int) (hT : T = roundT x.num.natAbs x.den k) (hT' : T' = if x.num < 0 then -(T : Int) else T) (hk : k ≤ 9) (hd : x.den ≤ 32768) :
    fits (Rat.divInt T' (p10 k) - x) = true ∧ fits (absR (Rat.divInt T' (p10 k) - x)) = true := by
  obtain ⟨m, h1, h2, h3⟩ := near_far x k T T' hT hT'
  have hp := p10_pos k
  have hp2 := p10_le k hk
  have hx := x.den_pos
  have hb : Bd (Rat.divInt m (p10 k * x.den)) 32768 32768000000000 := by
    rw [show ((p10 k : Int) * (x.den : Int)) = ((p10 k * x.den : Nat) : Int) by simp]
    have hm : p10 k * x.den ≤ 1000000000 * 32768 := Nat.mul_le_mul hp2 hd
    have hm0 : 0 < p10 k * x.den := Nat.mul_pos hp hx
    exact Bd.divInt (by omega) (by omega) (by omega)
  rw [h1]
  refine ⟨hb.fits (by decide) (by decide), ?_⟩
  unfold absR
  split
  · exact hb.neg.fits (by decide) (by decide)
  · exact hb.fits (by decide) (by decide)
theorem got_fits (x : Rat) (k T : Nat) (T' : Int) (hT : T = roundT x.num.natAbs x.den k) (hT' : T' = if x.num < 0 then -(T : Int) else T) (hk : k ≤ 9) (hn : x.num.natAbs ≤ 8388608) :
    fits (Rat.divInt T' (p10 k)) = true := by
  have hp := p10_pos k
  have hp2 := p10_le k hk
  have h := round_le x.num.natAbs x.den k x.den_pos hn hk
  have hb : Bd (Rat.divInt T' (p10 k)) 8388608000000000 1000000000 := Bd.divInt (by omega) (by rw [hT']; split <;> omega) (by omega)
  exact hb.fits (by decide) (by decide)
theorem half_fits (k : Nat) (hk : k ≤ 9) : fits (Rat.divInt 1 (2 * p10 k)) = true := by
  have hp := p10_pos k
  have hp2 := p10_le k hk
  have hb : Bd (Rat.divInt 1 (2 * p10 k)) 1 2000000000 := Bd.divInt (by omega) (by omega) (by omega)
  exact hb.fits (by decide) (by decide)
/-- The text again. -/
theorem again_same (x y : Rat) (k T : Nat) (T' : Int) (hT : T = roundT x.num.natAbs x.den k) (hT' : T' = if x.num < 0 then -(T : Int) else T) (hy : y = Rat.divInt T' (p10 k)) :
    roundL (decide (y.num < 0)) k (roundT y.num.natAbs y.den k) = roundL (decide (x.num < 0)) k T := by
  rw [again_is y T' k hy]
  have h1 : T'.natAbs = T := by rw [hT']; split <;> omega
  rw [h1]
  have h2 : (y.num < 0 ∧ 0 < T) ↔ (x.num < 0 ∧ 0 < T) := by
    rw [again_neg y T' k hy, hT']
    split <;> omega
  unfold roundL
  simp only [decide_eq_true_eq, h2]
theorem strip_body (neg : Bool) (k T : Nat) : Lib.trimPrefix (roundL neg k T) [45] = bodyL k T ∧ Lib.hasPrefix (roundL neg k T) [45] = (neg && decide (0 < T)) := by
  have hb : ∃ c r, bodyL k T = c :: r ∧ c ≠ 45 := by
    unfold bodyL
    rcases hd : Lib.decDigits (T / p10 k) with _ | ⟨c, r⟩
    · exact absurd hd (dec_ne _)
    · refine ⟨c, _, by rw [List.cons_append], fun h => ?_⟩
      have := dec_digit (T / p10 k) c (by rw [hd]; exact List.mem_cons_self ..)
      rw [h] at this
      exact absurd this.1 (by decide)
  obtain ⟨c, r, hc, hne⟩ := hb
  rw [round_body]
  by_cases h : neg = true ∧ 0 < T
  · rw [if_pos h, h.1]
    simp [Lib.trimPrefix, Lib.hasPrefix, h.2]
  · rw [if_neg h, List.nil_append, hc]
    have h2 : (neg && decide (0 < T)) = false := by
      cases neg
      · rfl
      · simp at h ⊢; omega
    rw [h2]
    have : ((45 : UInt8) == c) = false := beq_eq_false_iff_ne.2 (fun e => hne e.symm)
    simp [Lib.trimPrefix, Lib.hasPrefix, List.isPrefixOf, this]
end Go.Proofs.YtfhkgpipbegpgaaGreatDoor
namespace Go.Proofs.YtfhkgpipbegpgaaGreatDoor

def padP (k T : Nat) : List UInt8 := List.replicate (k + 1 - (Lib.decDigits T).length) 48 ++ Lib.decDigits T
theorem dec_small {u : Nat} (h : u < 10) : Lib.decDigits u = [UInt8.ofNat (48 + u)] := by rw [Lib.decDigits, dif_pos h]
theorem dec_big {u : Nat} (h : ¬ u < 10) : Lib.decDigits u = Lib.decDigits (u / 10) ++ [UInt8.ofNat (48 + u % 10)] := by rw [Lib.decDigits, dif_neg h]
theorem rep_snoc (k : Nat) : List.replicate (k + 1) (48 : UInt8) = List.replicate k 48 ++ [48] := List.replicate_succ'
theorem padP_succ (k T : Nat) : padP (k + 1) T = padP k (T / 10) ++ [UInt8.ofNat (48 + T % 10)] := by
  unfold padP
  by_cases h : T < 10
  · rw [dec_small h, show T / 10 = 0 by omega, dec_small (by omega), show T % 10 = T by omega]
    have e : List.replicate (k + 1 + 1 - ([UInt8.ofNat (48 + T)] : List UInt8).length) (48 : UInt8) = List.replicate k 48 ++ [48] := by
      rw [← rep_snoc]; congr 1
    rw [e]
    rfl
  · rw [dec_big h, ← List.append_assoc]
    congr 2
    simp
theorem partD_succ (k c e : Nat) (hc : c < p10 k) (he : e < 10) : partD (k + 1) (c * 10 + e) = partD k c ++ [UInt8.ofNat (48 + e)] := by
  unfold partD
  rw [if_neg (by omega)]
  by_cases hk : k = 0
  · subst hk
    rw [p10_zero] at hc
    have hc0 : c = 0 := by omega
    subst hc0
    rw [if_pos rfl, Nat.zero_mul]
    unfold padD
    rw [Nat.zero_add e, dec_small he]; rfl
  · rw [if_neg hk]
    unfold padD
    by_cases h : c * 10 + e < 10
    · have hc0 : c = 0 := by omega
      subst hc0
      rw [Nat.zero_mul, Nat.zero_add e, dec_small he, dec_small (by omega)]
      obtain ⟨j, rfl⟩ : ∃ j, k = j + 1 := ⟨k - 1, by omega⟩
      have e1 : List.replicate (j + 1 + 1 - ([UInt8.ofNat (48 + e)] : List UInt8).length) (48 : UInt8) = List.replicate j 48 ++ [48] := by
        rw [← rep_snoc]; congr 1
      rw [e1]; rfl
    · rw [dec_big h, show (c * 10 + e) / 10 = c by omega, show (c * 10 + e) % 10 = e by omega, ← List.append_assoc]
      congr 2
      simp
theorem padP_split (k : Nat) : ∀ T, padP k T = Lib.decDigits (T / p10 k) ++ partD k (T % p10 k) := by
  induction k with
  | zero =>
    intro T
    have h1 := List.length_pos_iff.2 (dec_ne T)
    unfold padP partD
    rw [p10_zero, Nat.div_one, if_pos rfl, List.append_nil, show 0 + 1 - (Lib.decDigits T).length = 0 by omega]; rfl
  | succ k ih =>
    intro T
    have hp := p10_pos k
    have e1 : T / p10 (k + 1) = T / 10 / p10 k := by rw [p10_succ, Nat.mul_comm, Nat.div_div_eq_div_mul]
    have e2 : T % p10 (k + 1) = T / 10 % p10 k * 10 + T % 10 := by
      rw [p10_succ, Nat.mul_comm (p10 k), Nat.mod_mul]; omega
    rw [padP_succ, ih (T / 10), e1, e2, partD_succ _ _ _ (Nat.mod_lt _ hp) (Nat.mod_lt _ (by omega)), List.append_assoc]
theorem padP_len (k T : Nat) : k + 1 ≤ (padP k T).length := by
  unfold padP
  rw [List.length_append, List.length_replicate]; omega
/-- The text with its point. -/
theorem pad_point (neg : Bool) (k T : Nat) (hk : 0 < k) : roundL neg k T = (if neg = true ∧ 0 < T then [45] else []) ++ ((padP k T).take ((padP k T).length - k) ++ [46] ++ (padP k T).drop ((padP k T).length - k)) := by
  have hp := p10_pos k
  have hl := partD_len (k := k) (b := T % p10 k) (Nat.mod_lt _ hp)
  have hs := padP_split k T
  have hlen : (padP k T).length - k = (Lib.decDigits (T / p10 k)).length := by
    rw [hs, List.length_append, hl]; omega
  rw [round_body, hlen, hs, List.take_left', List.drop_left']
  · unfold bodyL partD
    have hk0 : k ≠ 0 := by omega
    simp [hk0]
  · rfl
  · rfl
theorem pad_zero (neg : Bool) (T : Nat) : roundL neg 0 T = (if neg = true ∧ 0 < T then [45] else []) ++ padP 0 T := by
  rw [round_body, padP_split 0 T]
  unfold bodyL partD
  rw [if_pos rfl, if_pos rfl]
end Go.Proofs.YtfhkgpipbegpgaaGreatDoor
namespace Go.Proofs.YtfhkgpipbegpgaaGreatDoor
open Go Go.RowKit

theorem rune_str (d : Nat) (h : d < 10) (w : World) : (convert 21 9 (.int .i32 (48 + (d : Int)))).run Tryz.prog w = .ok (.string ⟨#[UInt8.ofNat (48 + d)]⟩) w := by
  rcases (by omega : d = 0 ∨ d = 1 ∨ d = 2 ∨ d = 3 ∨ d = 4 ∨ d = 5 ∨ d = 6 ∨ d = 7 ∨ d = 8 ∨ d = 9) with rfl | rfl | rfl | rfl | rfl | rfl | rfl | rfl | rfl | rfl <;> kernel_rfl
theorem ten_row (W : World) : Dg (W.alloc (.cells #[.int .i64 10] 3)) (some ⟨W.heap.size, 0, none⟩) 1 10 := by
  have h1 : dig 10 = [10] := dig_one (by omega) (by omega)
  have h2 : nd 10 = 1 := by rw [← dig_len, h1]; rfl
  refine ⟨fun _ => ⟨W.heap.size, 0, rfl, by simp, fun j x hj => ?_⟩, by rw [h2]; exact Nat.le_refl _, by simp [maxLen], fun h => by cases h⟩
  rw [h1] at hj
  have hB := Blk.new W 3 #[.int .i64 10]
  match j, hj with
  | 0, hj => have := Option.some.inj hj; subst this; exact hB.cell (j := 0) rfl
  | (j + 1), hj => simp at hj
theorem ten_nd : nd 10 = 1 := by rw [← dig_len, dig_one (by omega) (by omega)]; rfl
/-- What has been written of N's digits, x being left. -/
def DecP (N x : Nat) (T : List UInt8) : Prop := Lib.decDigits N = (if x = 0 ∧ T ≠ [] then [] else Lib.decDigits x) ++ T
theorem DecP.start (N : Nat) : DecP N N [] := by unfold DecP; simp
theorem dec_step (x : Nat) : Lib.decDigits x = (if x / 10 = 0 then [] else Lib.decDigits (x / 10)) ++ [UInt8.ofNat (48 + x % 10)] := by
  rw [Lib.decDigits]
  by_cases h : x < 10
  · rw [dif_pos h, if_pos (by omega), Nat.mod_eq_of_lt h]; rfl
  · rw [dif_neg h, if_neg (by omega)]
theorem DecP.step {N x : Nat} {T : List UInt8} (h : DecP N x T) (hx : ¬ (x = 0 ∧ T ≠ [])) : DecP N (x / 10) (UInt8.ofNat (48 + x % 10) :: T) := by
  unfold DecP at h ⊢
  rw [if_neg hx, dec_step x, List.append_assoc, List.singleton_append] at h
  rw [h]
  congr 1
  by_cases h0 : x / 10 = 0
  · rw [if_pos h0, if_pos ⟨h0, by simp⟩]
  · rw [if_neg h0, if_neg (fun h => h0 h.1)]
theorem DecP.done {N : Nat} {T : List UInt8} (h : DecP N 0 T) (hT : T ≠ []) : Lib.decDigits N = T := by
  unfold DecP at h
  rw [if_pos ⟨rfl, hT⟩] at h; exact h
theorem DecP.len {N x : Nat} {T : List UInt8} (h : DecP N x T) : T.length ≤ (Lib.decDigits N).length := by
  unfold DecP at h
  rw [h, List.length_append]; omega
def RetStr (l : List UInt8) (w : World) (e : Ending) (w' : World) : Prop := e = .returned (.string ⟨l.toArray⟩) ∧ Below w.heap.size w w'
set_option maxRecDepth 100000 in
set_option maxHeartbeats 4000000 in
theorem decimal_any (A : Option Addr) (ca n : Nat) (hk : nd n ≤ 400) (hl : (Lib.decDigits n).length ≤ 10000) (w : World) (hA : Dg w A ca n) :
    Calls Tryz.prog 57 #[.slice A (nd n) ca] w (RetStr (Lib.decDigits n) w) := by
  have HA := Lib.hid hA
  obtain ⟨N, hN⟩ : ∃ N, nd n = N := ⟨_, rfl⟩
  have HN := Lib.hid hN
  rw [hN] at hk ⊢
  clear hA hN
  go_enter Tryz.func57, Tryz.ntmps57
  go_wp2
  go_loopg [0, 3] (n + 1) (fun k s0 s3 wr => ∃ x : Nat, ∃ T : List UInt8, ∃ X C cx, s0 = .slice X C cx ∧ s3 = .string ⟨T.toArray⟩ ∧ C = nd x ∧ Dg wr X cx x ∧ DecP n x T ∧ nd x ≤ 400 ∧ ((T = [] ∧ x + 1 ≤ k) ∨ (T ≠ [] ∧ x ≤ k)) ∧ Below w.heap.size w wr)
  case atStart => exact ⟨n, [], A, N, ca, rfl, rfl, HN.out.symm, HA.out, DecP.start n, by rw [HN.out]; exact hk, .inl ⟨rfl, Nat.le_refl _⟩, Below.refl _ _⟩
  case round =>
    obtain ⟨x, T, X, C, cx, rfl, rfl, hC, hX, hP, hkx, hm, hbw⟩ := hrel
    have HX := Lib.hid hX
    have HW := Lib.hid hbw
    have HC := Lib.hid hC
    have HP := Lib.hid hP
    clear hX hbw hC HA
    by_cases hgo : x = 0 ∧ T ≠ []
    · obtain ⟨rfl, hT⟩ := hgo
      have hC0 := HC.out
      rw [nd_zero] at hC0
      subst hC0
      have HE := Lib.hid (hP.done hT)
      rcases T with _ | ⟨c, T⟩
      · exact absurd rfl hT
      clear HC hm hT HX HP hP hkx
      go_wp2
      go_ret
      exact ⟨by rw [HE.out]; rfl, HW.out⟩
    · have hlen : T.length ≤ 10000 := Nat.le_trans hP.len hl
      have HP2 := Lib.hid (hP.step hgo)
      have hgk : x / 10 < gk := by
        rcases hm with ⟨h1, h2⟩ | ⟨h1, h2⟩
        · omega
        · have : x ≠ 0 := fun h => hgo ⟨h, h1⟩
          omega
      have hx10 : nd (x / 10) ≤ 400 := Nat.le_trans (nd_mono (Nat.div_le_self _ _)) hkx
      have DV : Hid (Calls Tryz.prog 64 #[.slice X C cx, .slice (some ⟨wr.heap.size, 0, none⟩) 1 1] (wr.alloc (.cells #[.int .i64 10] 3)) (RetDD (x / 10) (x % 10) (wr.alloc (.cells #[.int .i64 10] 3)))) := Lib.hid (by
        have := div_all X (some ⟨wr.heap.size, 0, none⟩) cx 1 x 10 (by omega) (by omega) (wr.alloc (.cells #[.int .i64 10] 3)) (HX.out.keep (blw1 _ _)) (ten_row wr)
        rw [← HC.out, ten_nd] at this
        exact this)
      have hgo2 : Hid (x = 0 → T = []) := Lib.hid fun h => Classical.byContradiction fun h' => hgo ⟨h, h'⟩
      obtain ⟨d, hd⟩ : ∃ d, x % 10 = d := ⟨_, rfl⟩
      obtain ⟨y, hy⟩ : ∃ d, x / 10 = d := ⟨_, rfl⟩
      have hd10 : d < 10 := by omega
      rw [hd] at HP2 DV
      rw [hy] at HP2 DV hgk hx10
      have CV := rune_str d hd10
      have z1 : ¬ 9223372036854775807 < 1 + T.length := by omega
      have HD := Lib.hid hd
      have hC0 : Hid (C = 0 → x = 0) := Lib.hid fun h => (nd_zero_iff x).1 (by rw [← HC.out]; exact h)
      clear hd hy hgo hm HX HC HP hP hkx hlen hl
      rcases Nat.eq_zero_or_pos C with hc | hc
      · have hT := hgo2.out (hC0.out hc)
        subst hc hT
        go_wp2_with fail
        refine DV.out.mono ?_
        rintro e w2 ⟨Y, cy, Z, cz, rfl, hY, hZ, hb2⟩
        have HY := Lib.hid hY
        have HW2 := Lib.hid (bchain HW.out ((blw1 wr _).trans (hb2.mono (blw1 wr _).size)))
        rcases Nat.eq_zero_or_pos d with h0 | h0
        · subst h0
          clear hY hZ hb2 DV HW hgo2 hC0 HD
          rw [nd_zero]
          go_wp2
          go_roundg y
          case measure => exact hgk
          case rel => exact ⟨y, UInt8.ofNat (48 + 0) :: [], Y, nd y, cy, rfl, by first | rfl | (congr 1; done) | (congr 1; apply ByteArray.ext; simp; done) | (congr 1; apply ByteArray.ext; simp; rfl), rfl, HY.out, HP2.out, hx10, .inr ⟨by simp, Nat.le_refl _⟩, HW2.out⟩
        · obtain ⟨bb, off, rfl, hbl, hcc⟩ := hZ.at_ (k := 0) (by have := (nd_zero_iff d).1; omega)
          have x0 := hcc 0 (by have := (nd_zero_iff d).1; omega)
          have hdd : dg d 0 = d := by unfold dg; rw [Nat.pow_zero, Nat.div_one]; omega
          rw [hdd, Nat.add_zero] at x0
          have hn1 : nd d = 1 := by rw [← dig_len, dig_one (by omega) (by omega)]; rfl
          have hroom := hZ.room
          rw [hn1] at hroom ⊢
          clear hcc hbl hY hZ hb2 DV HW hdd hn1 hgo2 hC0 HD
          go_wp2
          go_roundg y
          case measure => exact hgk
          case rel => exact ⟨y, UInt8.ofNat (48 + d) :: [], Y, nd y, cy, rfl, by first | rfl | (congr 1; done) | (congr 1; apply ByteArray.ext; simp; done) | (congr 1; apply ByteArray.ext; simp; rfl), rfl, HY.out, HP2.out, hx10, .inr ⟨by simp, Nat.le_refl _⟩, HW2.out⟩
      · have u1 : decide (0 < C) = true := decide_eq_true hc
        have u2 : decide ((0 : Int) < (C : Int)) = true := decide_eq_true (by omega)
        go_wp2_with fail
        refine DV.out.mono ?_
        rintro e w2 ⟨Y, cy, Z, cz, rfl, hY, hZ, hb2⟩
        have HY := Lib.hid hY
        have HW2 := Lib.hid (bchain HW.out ((blw1 wr _).trans (hb2.mono (blw1 wr _).size)))
        rcases Nat.eq_zero_or_pos d with h0 | h0
        · subst h0
          clear hY hZ hb2 DV HW hgo2 hC0 HD
          rw [nd_zero]
          go_wp2
          go_roundg y
          case measure => exact hgk
          case rel => exact ⟨y, UInt8.ofNat (48 + 0) :: T, Y, nd y, cy, rfl, by first | rfl | (congr 1; done) | (congr 1; apply ByteArray.ext; simp; done) | (congr 1; apply ByteArray.ext; simp; rfl), rfl, HY.out, HP2.out, hx10, .inr ⟨by simp, Nat.le_refl _⟩, HW2.out⟩
        · obtain ⟨bb, off, rfl, hbl, hcc⟩ := hZ.at_ (k := 0) (by have := (nd_zero_iff d).1; omega)
          have x0 := hcc 0 (by have := (nd_zero_iff d).1; omega)
          have hdd : dg d 0 = d := by unfold dg; rw [Nat.pow_zero, Nat.div_one]; omega
          rw [hdd, Nat.add_zero] at x0
          have hn1 : nd d = 1 := by rw [← dig_len, dig_one (by omega) (by omega)]; rfl
          have hroom := hZ.room
          rw [hn1] at hroom ⊢
          clear hcc hbl hY hZ hb2 DV HW hdd hn1 hgo2 hC0 HD
          go_wp2
          go_roundg y
          case measure => exact hgk
          case rel => exact ⟨y, UInt8.ofNat (48 + d) :: T, Y, nd y, cy, rfl, by first | rfl | (congr 1; done) | (congr 1; apply ByteArray.ext; simp; done) | (congr 1; apply ByteArray.ext; simp; rfl), rfl, HY.out, HP2.out, hx10, .inr ⟨by simp, Nat.le_refl _⟩, HW2.out⟩
end Go.Proofs.YtfhkgpipbegpgaaGreatDoor
namespace Go.Proofs.YtfhkgpipbegpgaaGreatDoor
open Go Go.RowKit

set_option maxRecDepth 100000 in
set_option maxHeartbeats 2000000 in
theorem rround_bad (n d k : Int) (hf : FB n d) (h : rightB n d = false) (w : World) :
    Calls Tryz.prog 27 #[.agg #[.int .i64 n, .int .i64 d], .int .i64 k] w (RetS [] 2 w) := by
  have R1 := rright_hid hf h
  have HA := Lib.hid (Am1.start w n d)
  clear h hf
  go_enter Tryz.func27, Tryz.ntmps27
  go_upto_region 1 with fail
  generalize w.alloc (.cells #[.int .i64 n, .int .i64 d] 23) = V1 at *
  obtain ⟨x0, x1⟩ := HA.out.cells
  go_wp2_with fail
  refine (R1.out _).mono ?_
  rintro e w1 ⟨rfl, hb⟩
  have HA1 := Lib.hid (HA.out.keep hb)
  clear hb x0 x1 HA R1
  go_wp2
  go_ret2
  exact retS_mk rfl HA1.out.below
set_option maxRecDepth 100000 in
set_option maxHeartbeats 2000000 in
theorem rround_out (n d k : Int) (hf : FB n d) (h : rightB n d = true) (hk : k < 0 ∨ 9 < k) (w : World) :
    Calls Tryz.prog 27 #[.agg #[.int .i64 n, .int .i64 d], .int .i64 k] w (RetS [] 2 w) := by
  have R1 := rright_hid hf h
  have HA := Lib.hid (Am1.start w n d)
  clear h hf
  go_enter Tryz.func27, Tryz.ntmps27
  go_upto_region 1 with fail
  generalize w.alloc (.cells #[.int .i64 n, .int .i64 d] 23) = V1 at *
  obtain ⟨x0, x1⟩ := HA.out.cells
  go_wp2_with fail
  refine (R1.out _).mono ?_
  rintro e w1 ⟨rfl, hb⟩
  have HA1 := Lib.hid (HA.out.keep hb)
  clear hb x0 x1 HA R1
  by_cases hk0 : k < 0
  · have t1 : decide (k < 0) = true := decide_eq_true hk0
    clear hk hk0
    go_wp2
    go_ret2
    exact retS_mk rfl HA1.out.below
  · have t1 : decide (k < 0) = false := decide_eq_false hk0
    have t2 : decide (9 < k) = true := decide_eq_true (by omega)
    clear hk hk0
    go_wp2
    go_ret2
    exact retS_mk rfl HA1.out.below
theorem dec28 {u : Nat} (h : u < 10 ^ 29) : (Lib.decDigits u).length ≤ 29 := by
  rw [Lib.decDigits_length]; exact nDigits_le 29 u h (by decide)
set_option maxRecDepth 100000 in
set_option maxHeartbeats 8000000 in
theorem rround_ok (n d : Int) (k : Nat) (hk9 : k ≤ 9) (hf : FB n d) (h : rightB n d = true) (w : World) :
    Calls Tryz.prog 27 #[.agg #[.int .i64 n, .int .i64 d], .int .i64 k] w (RetS (roundL (decide (n < 0)) k (roundT n.natAbs d.natAbs k)) 0 w) := by
  have R1 := rright_hid hf h
  have hd0 := right_pos h
  have Wn := Lib.hid (fun W => whole_any n hf.n0 hf.n1 W)
  have Wd := Lib.hid (fun W => whole_any d hf.d0 hf.d1 W)
  have kn := nd_abs hf.n0 hf.n1
  have kd := nd_abs hf.d0 hf.d1
  have hn63 : n.natAbs ≤ 9223372036854775808 := by have := hf.n0; have := hf.n1; omega
  obtain ⟨N, hN⟩ : ∃ N, n.natAbs = N := ⟨_, rfl⟩
  obtain ⟨D, hD⟩ : ∃ N, d.natAbs = N := ⟨_, rfl⟩
  have hDp : 0 < D := by omega
  rw [hN] at Wn kn hn63
  rw [hD] at Wd kd
  rw [hN, hD]
  have hpj : ∀ j, j ≤ 9 → nd (N * p10 j) ≤ 8 := fun j hj => by
    have h1 := nd_mul N (p10 j)
    have h2 := p10_le j hj
    have h3 : nd (p10 j) ≤ 4 := nd_64 (by omega)
    omega
  have hpk := hpj k hk9
  obtain ⟨T, hT⟩ : ∃ T, roundT N D k = T := ⟨_, rfl⟩
  have hTn : nearN (N * p10 k) D = T := hT
  have hTle : T ≤ N * p10 k := by rw [← hTn]; exact nearN_le _ _ hDp
  have kT : nd T ≤ 8 := Nat.le_trans (nd_mono hTle) hpk
  have hTlen : (Lib.decDigits T).length ≤ 29 := by
    refine dec28 ?_
    have h2 := p10_le k hk9
    have h3 : N * p10 k ≤ 9223372036854775808 * 1000000000 := Nat.mul_le_mul hn63 h2
    have h4 : (10 : Nat) ^ 29 = 100000000000000000000000000000 := by decide
    omega
  rw [hT]
  have SC : Hid (∀ W X cX (j : Nat), j < 9 → Dg W X cX (N * p10 j) → Calls Tryz.prog 56 #[.slice X (nd (N * p10 j)) cX, .int .i64 10] W (RetD (N * p10 (j + 1)) W)) := Lib.hid fun W X cX j hj h1 => by
    have := scale_any X cX (N * p10 j) 10 (by omega) (by have := hpj j (by omega); omega) W h1
    rw [Nat.mul_assoc, ← p10_succ] at this
    exact this
  have RD : Hid (∀ W X cX B cB, Dg W X cX (N * p10 k) → Dg W B cB D → Calls Tryz.prog 51 #[.slice X (nd (N * p10 k)) cX, .slice B (nd D) cB] W (RetD T W)) := Lib.hid fun W X cX B cB h1 h2 => hTn ▸ rounded_any X B cX cB _ D hDp (by omega) (by omega) W h1 h2
  have DC : Hid (∀ W X cX, Dg W X cX T → Calls Tryz.prog 57 #[.slice X (nd T) cX] W (RetStr (Lib.decDigits T) W)) := Lib.hid fun W X cX h1 => decimal_any X cX T (by omega) (by omega) W h1
  have HT0 : Hid (0 < T ↔ 0 < nd T) := Lib.hid (by have := nd_zero_iff T; omega)
  have HA := Lib.hid (Am1.start w n d)
  clear h hf hN hD hT hTn hTle hpj hpk kT hDp hd0 kn kd hn63
  go_enter Tryz.func27, Tryz.ntmps27
  go_upto_region 1 with fail
  generalize w.alloc (.cells #[.int .i64 n, .int .i64 d] 23) = V1 at *
  obtain ⟨x0, x1⟩ := HA.out.cells
  go_wp2_with fail
  refine (R1.out _).mono ?_
  rintro e w1 ⟨rfl, hb⟩
  have HA1 := Lib.hid (HA.out.keep hb)
  clear hb x0 x1 HA R1
  obtain ⟨x0, x1⟩ := HA1.out.cells
  have t1 : decide ((k : Int) < 0) = false := decide_eq_false (by omega)
  have t2 : decide (9 < (k : Int)) = false := decide_eq_false (by omega)
  go_wp2_with fail
  refine (Wn.out _).mono ?_
  rintro e w2 ⟨X, cX, rfl, hX, hb⟩
  have HA2 := Lib.hid (HA1.out.keep hb)
  have HX := Lib.hid hX
  clear hb x0 x1 HA1 Wn hX t1 t2
  go_wp2
  go_loopw [6, 7] (fun s6 s7 wr => ∃ j C c : Nat, ∃ Y, j ≤ k ∧ s7 = .int .i64 j ∧ s6 = .slice Y C c ∧ C = nd (N * p10 j) ∧ Dg wr Y c (N * p10 j) ∧ Am1 w wr n d) (fun _ s7 _ => k - (intOf s7).toNat)
  case atStart => exact ⟨0, nd N, cX, X, Nat.zero_le _, rfl, rfl, by rw [p10_zero, Nat.mul_one], by rw [p10_zero, Nat.mul_one]; exact HX.out, HA2.out⟩
  case round =>
    obtain ⟨j, C, c, Y, hj, rfl, rfl, hC, hY, hA⟩ := hrel
    have HY := Lib.hid hY
    have HAj := Lib.hid hA
    subst hC
    clear hY hA HX HA2
    by_cases hlt : j < k
    · have u1 : decide (j < k) = true := decide_eq_true hlt
      go_wp2_with fail
      refine (SC.out _ _ _ j (by omega) HY.out).mono ?_
      rintro e w3 ⟨Z, cZ, rfl, hZ, hb⟩
      have HZ := Lib.hid hZ
      have HA3 := Lib.hid (HAj.out.keep hb)
      clear hZ hb
      go_wp2
      go_roundw
      case rel => exact ⟨j + 1, _, cZ, Z, by omega, by go_num, rfl, rfl, HZ.out, HA3.out⟩
      case measure => simp [intOf]; omega
    obtain rfl : j = k := by omega
    have u1 : decide (j < j) = false := decide_eq_false hlt
    obtain ⟨x0, x1⟩ := HAj.out.cells
    clear hlt hj SC
    go_wp2_with fail
    refine (Wd.out _).mono ?_
    rintro e w3 ⟨B, cB, rfl, hB, hb⟩
    have HB := Lib.hid hB
    have HY3 := Lib.hid (HY.out.keep hb)
    have HA3 := Lib.hid (HAj.out.keep hb)
    clear hB hb x0 x1 HY HAj Wd
    go_wp2_with fail
    refine (RD.out _ _ _ _ _ HY3.out HB.out).mono ?_
    rintro e w4 ⟨R, cR, rfl, hR, hb⟩
    have HR := Lib.hid hR
    have HA4 := Lib.hid (HA3.out.keep hb)
    clear hR hb HY3 HB HA3 RD
    go_wp2_with fail
    refine (DC.out _ _ _ HR.out).mono ?_
    rintro e w5 ⟨rfl, hb⟩
    have HA5 := Lib.hid (HA4.out.keep hb)
    clear hb HA4 HR DC
    go_wp2
    obtain ⟨wo, rfl⟩ : ∃ wo : World, wo = wr := ⟨_, rfl⟩
    go_loop [9] (fun s9 => ∃ (i : Nat) (L : List UInt8), s9 = .string ⟨L.toArray⟩ ∧ L = List.replicate i 48 ++ Lib.decDigits T ∧ (i = 0 ∨ L.length ≤ j + 1)) (fun s9 => match s9 with | .string s => j + 1 - s.size | _ => 0)
    case atStart => exact ⟨0, Lib.decDigits T, rfl, rfl, .inl rfl⟩
    case round =>
      obtain ⟨i, L, rfl, hL, hi⟩ := hrel
      have hlen : L.length = i + (Lib.decDigits T).length := by rw [hL]; simp
      have hl39 : L.length ≤ 39 := by omega
      by_cases hle : L.length ≤ j
      · have v1 : decide (L.length ≤ j) = true := decide_eq_true hle
        have z1 : ¬ 9223372036854775807 < 1 + L.length := by omega
        have HL2 : Hid ((48 :: L) = List.replicate (i + 1) 48 ++ Lib.decDigits T ∧ (48 :: L).length = L.length + 1) := Lib.hid ⟨by rw [hL, List.replicate_succ]; rfl, by simp⟩
        clear hL hi hlen
        go_wp2
        go_round
        case rel => exact ⟨i + 1, 48 :: L, by first | (congr 1; done) | (congr 1; apply ByteArray.ext; simp), HL2.out.1, .inr (by rw [HL2.out.2]; omega)⟩
        case measure => (show j + 1 - (⟨(48 :: L).toArray⟩ : ByteArray).size < j + 1 - (⟨L.toArray⟩ : ByteArray).size; have e1 : (⟨(48 :: L).toArray⟩ : ByteArray).size = L.length + 1 := rfl; have e2 : (⟨L.toArray⟩ : ByteArray).size = L.length := rfl; omega)
      have v1 : decide (L.length ≤ j) = false := decide_eq_false hle
      have HP : Hid (L = padP j T) := Lib.hid (by
        rw [hL]; unfold padP
        congr 2
        rcases hi with h | h
        · omega
        · omega)
      have hlj : j + 1 ≤ L.length := by omega
      obtain ⟨x0, x1⟩ := HA5.out.cells
      clear hL hi hlen hle
      rcases Nat.eq_zero_or_pos j with j0 | j0
      · have v2 : decide ((0 : Int) < (j : Int)) = false := decide_eq_false (by omega)
        have v3 : decide (0 < j) = false := decide_eq_false (by omega)
        have HJ : Hid (roundL (decide (n < 0)) j T = (if decide (n < 0) = true ∧ 0 < T then [45] else []) ++ L) := Lib.hid (by rw [HP.out, j0]; exact pad_zero _ _)
        clear j0
        go_upto_region 14 with fail
        by_cases hn : n < 0
        · have q1 : decide (n < 0) = true := decide_eq_true hn
          by_cases hT0 : 0 < T
          · have q2 : decide (0 < nd T) = true := decide_eq_true (HT0.out.1 hT0)
            have q3 : decide ((0 : Int) < (nd T : Int)) = true := decide_eq_true (by have := HT0.out.1 hT0; omega)
            have HF : Hid (roundL true j T = [45] ++ L) := Lib.hid (by rw [show roundL true j T = roundL (decide (n < 0)) j T by rw [q1], HJ.out, if_pos ⟨decide_eq_true hn, hT0⟩])
            clear hn hT0
            go_wp2
            go_ret2
            exact retS_mk (by first | (rw [HF.out]; done) | (rw [HF.out]; rfl) | (rw [HF.out]; apply ByteArray.ext; simp)) (HA5.out.below)
          · have q2 : decide (0 < nd T) = false := decide_eq_false (fun h => hT0 (HT0.out.2 h))
            have q3 : decide ((0 : Int) < (nd T : Int)) = false := decide_eq_false (fun h => hT0 (HT0.out.2 (by omega)))
            have HF : Hid (roundL true j T = L) := Lib.hid (by rw [show roundL true j T = roundL (decide (n < 0)) j T by rw [q1], HJ.out, if_neg (fun h => hT0 h.2)]; rfl)
            clear hn hT0
            go_wp2
            go_ret2
            exact retS_mk (by first | (rw [HF.out]; done) | (rw [HF.out]; rfl) | (rw [HF.out]; apply ByteArray.ext; simp)) (HA5.out.below)
        · have q1 : decide (n < 0) = false := decide_eq_false hn
          have HF : Hid (roundL false j T = L) := Lib.hid (by rw [show roundL false j T = roundL (decide (n < 0)) j T by rw [q1], HJ.out, if_neg (fun h => hn (of_decide_eq_true h.1))]; rfl)
          clear hn
          go_wp2
          go_ret2
          exact retS_mk (by first | (rw [HF.out]; done) | (rw [HF.out]; rfl) | (rw [HF.out]; apply ByteArray.ext; simp)) (HA5.out.below)
      · have v2 : decide ((0 : Int) < (j : Int)) = true := decide_eq_true (by omega)
        have v3 : decide (0 < j) = true := decide_eq_true (by omega)
        have HJ : Hid (roundL (decide (n < 0)) j T = (if decide (n < 0) = true ∧ 0 < T then [45] else []) ++ (L.take (L.length - j) ++ [46] ++ L.drop (L.length - j))) := Lib.hid (by rw [HP.out]; exact pad_point _ _ _ j0)
        clear j0
        have w1 : IntKind.i64.wrap ((L.length : Int) - (j : Int)) = (L.length : Int) - (j : Int) := IntWalk.i64_in _ (by omega)
        have w2 : (0 : Int) ≤ (L.length : Int) - (j : Int) := by omega
        have w3 : (L.length : Int) - (j : Int) ≤ (L.length : Int) := by omega
        have w4 : ((L.length : Int) - (j : Int)).toNat = L.length - j := by omega
        have z1 : ¬ 9223372036854775807 < (L.length - j) + 1 := by omega
        have z2 : ¬ 9223372036854775807 < (L.length - j) + 1 + j := by omega
        have z3 : ¬ 9223372036854775807 < (L.length - j) + 1 + (L.length - (L.length - j)) := by omega
        go_upto_region 13 with fail
        go_quiet (fail)
        clear w1 w2 w3 w4
        go_upto_region 14 with fail
        by_cases hn : n < 0
        · have q1 : decide (n < 0) = true := decide_eq_true hn
          by_cases hT0 : 0 < T
          · have q2 : decide (0 < nd T) = true := decide_eq_true (HT0.out.1 hT0)
            have q3 : decide ((0 : Int) < (nd T : Int)) = true := decide_eq_true (by have := HT0.out.1 hT0; omega)
            have HF : Hid (roundL true j T = [45] ++ (L.take (L.length - j) ++ [46] ++ L.drop (L.length - j))) := Lib.hid (by rw [show roundL true j T = roundL (decide (n < 0)) j T by rw [q1], HJ.out, if_pos ⟨decide_eq_true hn, hT0⟩])
            clear hn hT0
            go_wp2
            go_ret2
            exact retS_mk (by rw [HF.out]; apply ByteArray.ext; apply Array.ext'; simp [ByteArray.data_extract]; exact List.take_of_length_le (by simp)) (below_drewN HA5.out.below _)
          · have q2 : decide (0 < nd T) = false := decide_eq_false (fun h => hT0 (HT0.out.2 h))
            have q3 : decide ((0 : Int) < (nd T : Int)) = false := decide_eq_false (fun h => hT0 (HT0.out.2 (by omega)))
            have HF : Hid (roundL true j T = (L.take (L.length - j) ++ [46] ++ L.drop (L.length - j))) := Lib.hid (by rw [show roundL true j T = roundL (decide (n < 0)) j T by rw [q1], HJ.out, if_neg (fun h => hT0 h.2)]; rfl)
            clear hn hT0
            go_wp2
            go_ret2
            exact retS_mk (by rw [HF.out]; apply ByteArray.ext; apply Array.ext'; simp [ByteArray.data_extract]; exact List.take_of_length_le (by simp)) (below_drewN HA5.out.below _)
        · have q1 : decide (n < 0) = false := decide_eq_false hn
          have HF : Hid (roundL false j T = (L.take (L.length - j) ++ [46] ++ L.drop (L.length - j))) := Lib.hid (by rw [show roundL false j T = roundL (decide (n < 0)) j T by rw [q1], HJ.out, if_neg (fun h => hn (of_decide_eq_true h.1))]; rfl)
          clear hn
          go_wp2
          go_ret2
          exact retS_mk (by rw [HF.out]; apply ByteArray.ext; apply Array.ext'; simp [ByteArray.data_extract]; exact List.take_of_length_le (by simp)) (below_drewN HA5.out.below _)
end Go.Proofs.YtfhkgpipbegpgaaGreatDoor
namespace Go.Proofs.YtfhkgpipbegpgaaGreatDoor
open Go Go.RowKit

set_option maxRecDepth 100000 in
set_option maxHeartbeats 2000000 in
theorem rtext_bad (n d : Int) (hf : FB n d) (h : rightB n d = false) (w : World) :
    Calls Tryz.prog 29 #[.agg #[.int .i64 n, .int .i64 d]] w (RetS [] 2 w) := by
  have R1 := Lib.hid (fun W => rright_any n d hf W)
  rw [h] at R1
  have HR := Lib.hid (Blk.new w 23 #[.int .i64 n, .int .i64 d])
  have HB := Lib.hid (blw1 w (.cells #[.int .i64 n, .int .i64 d] 23))
  have c0 := HR.out.cell (j := 0) (v := .int .i64 n) rfl
  have c1 := HR.out.cell (j := 1) (v := .int .i64 d) rfl
  clear h hf
  go_enter Tryz.func29, Tryz.ntmps29
  go_wp2_with fail
  generalize w.alloc (.cells #[.int .i64 n, .int .i64 d] 23) = W1 at *
  refine (R1.out _).mono ?_
  rintro e w1 ⟨rfl, hb⟩
  have HB1 := Lib.hid (bchain HB.out hb)
  clear hb c0 c1
  go_wp2
  go_ret2
  exact retS_mk rfl HB1.out
theorem dec_short (n : Int) (h0 : -9223372036854775808 ≤ n) (h1 : n ≤ 9223372036854775807) : (Lib.decDigits n.natAbs).length ≤ 20 := dec_len _ (by omega)
theorem itoa_abs (n : Int) : Lib.itoa n = (if n < 0 then [45] else []) ++ Lib.decDigits n.natAbs := by
  unfold Lib.itoa
  split
  · rfl
  · rw [List.nil_append]; congr 1; omega
set_option maxRecDepth 100000 in
set_option maxHeartbeats 4000000 in
theorem rtext_ok (n d : Int) (hf : FB n d) (h : rightB n d = true) (w : World) :
    Calls Tryz.prog 29 #[.agg #[.int .i64 n, .int .i64 d]] w (RetS (textF n d) 0 w) := by
  have hd0 := right_pos h
  have R1 := Lib.hid (fun W => rright_any n d hf W)
  rw [h] at R1
  have k1 : nd n.natAbs ≤ 4 := by have := hf.n0; have := hf.n1; exact nd_64 (by omega)
  have k2 : nd d.natAbs ≤ 4 := by have := hf.d0; have := hf.d1; exact nd_64 (by omega)
  have l1 := dec_short n hf.n0 hf.n1
  have l2 := dec_short d hf.d0 hf.d1
  have W1 := Lib.hid (fun W => whole_any n hf.n0 hf.n1 W)
  have W2 := Lib.hid (fun W => whole_any d hf.d0 hf.d1 W)
  have D1 : Hid (∀ W A ca, Dg W A ca n.natAbs → Calls Tryz.prog 57 #[.slice A (nd n.natAbs) ca] W (RetStr (Lib.decDigits n.natAbs) W)) := Lib.hid fun W A ca h => decimal_any A ca _ (by omega) (by omega) W h
  have D2 : Hid (∀ W A ca, Dg W A ca d.natAbs → Calls Tryz.prog 57 #[.slice A (nd d.natAbs) ca] W (RetStr (Lib.decDigits d.natAbs) W)) := Lib.hid fun W A ca h => decimal_any A ca _ (by omega) (by omega) W h
  have HX : Hid (textF n d = ((if n < 0 then [45] else []) ++ Lib.decDigits n.natAbs) ++ if d = 1 then [] else 47 :: Lib.decDigits d.natAbs) := Lib.hid (by
    unfold textF
    rw [itoa_abs n, itoa_abs d, if_neg (by omega : ¬ d < 0)]; rfl)
  obtain ⟨T, hT⟩ : ∃ T, Lib.decDigits n.natAbs = T := ⟨_, rfl⟩
  obtain ⟨U, hU⟩ : ∃ T, Lib.decDigits d.natAbs = T := ⟨_, rfl⟩
  rw [hT] at D1 HX l1
  rw [hU] at D2 HX l2
  obtain ⟨N, hN⟩ : ∃ N, n.natAbs = N := ⟨_, rfl⟩
  obtain ⟨D, hD⟩ : ∃ N, d.natAbs = N := ⟨_, rfl⟩
  rw [hN] at W1 D1
  rw [hD] at W2 D2
  have HR := Lib.hid (Blk.new w 23 #[.int .i64 n, .int .i64 d])
  have HB := Lib.hid (blw1 w (.cells #[.int .i64 n, .int .i64 d] 23))
  have c0 := HR.out.cell (j := 0) (v := .int .i64 n) rfl
  have c1 := HR.out.cell (j := 1) (v := .int .i64 d) rfl
  have z1 : ¬ 9223372036854775807 < 1 + T.length := by omega
  have z2 : ¬ 9223372036854775807 < T.length + 1 := by omega
  have z3 : ¬ 9223372036854775807 < T.length + 1 + U.length := by omega
  have z4 : ¬ 9223372036854775807 < 1 + T.length + 1 := by omega
  have z5 : ¬ 9223372036854775807 < 1 + T.length + 1 + U.length := by omega
  clear h hf hT hU hN hD k1 k2
  go_enter Tryz.func29, Tryz.ntmps29
  go_wp2_with fail
  generalize w.alloc (.cells #[.int .i64 n, .int .i64 d] 23) = V1 at *
  refine (R1.out _).mono ?_
  rintro e w1 ⟨rfl, hb⟩
  have HB1 := Lib.hid (bchain HB.out hb)
  have HR1 := Lib.hid (HR.out.keep hb HR.out.lt)
  clear hb c0 c1 HB HR R1
  have c0 := HR1.out.cell (j := 0) (v := .int .i64 n) rfl
  go_wp2_with fail
  refine (W1.out _).mono ?_
  rintro e w2 ⟨A, ca, rfl, hA, hb⟩
  have HB2 := Lib.hid (bchain HB1.out hb)
  have HR2 := Lib.hid (HR1.out.keep hb HR1.out.lt)
  have HA := Lib.hid hA
  clear hb c0 HB1 HR1 W1 hA
  go_wp2_with fail
  refine (D1.out _ _ _ HA.out).mono ?_
  rintro e w3 ⟨rfl, hb⟩
  have HB3 := Lib.hid (bchain HB2.out hb)
  have HR3 := Lib.hid (HR2.out.keep hb HR2.out.lt)
  have c0 := HR3.out.cell (j := 0) (v := .int .i64 n) rfl
  have c1 := HR3.out.cell (j := 1) (v := .int .i64 d) rfl
  clear hb HB2 HR2 D1 HA
  by_cases hn : n < 0
  · by_cases hd1 : d = 1
    · have t1 : decide (n < 0) = true := decide_eq_true (by omega)
      have t2 : decide (1 < d) = false := decide_eq_false (by omega)
      have HY : Hid (textF n d = ([45] ++ T) ++ []) := Lib.hid (by rw [HX.out, if_pos (by omega : n < 0), if_pos (by omega : d = 1)])
      clear hn hd1 HX
      go_wp2
      go_ret2
      exact retS_mk (by rw [HY.out]; apply ByteArray.ext; simp) HB3.out
    · have t1 : decide (n < 0) = true := decide_eq_true (by omega)
      have t2 : decide (1 < d) = true := decide_eq_true (by omega)
      have HY : Hid (textF n d = ([45] ++ T) ++ (47 :: U)) := Lib.hid (by rw [HX.out, if_pos (by omega : n < 0), if_neg (by omega : ¬ d = 1)])
      clear hn hd1 HX
      go_wp2_with fail
      refine (W2.out _).mono ?_
      rintro e w4 ⟨B, cb, rfl, hB, hb⟩
      have HB4 := Lib.hid (bchain HB3.out hb)
      have HBB := Lib.hid hB
      clear hb hB
      go_wp2_with fail
      refine (D2.out _ _ _ HBB.out).mono ?_
      rintro e w5 ⟨rfl, hb⟩
      have HB5 := Lib.hid (bchain HB4.out hb)
      clear hb c0 c1 HR3 HBB
      go_wp2
      go_ret2
      exact retS_mk (by rw [HY.out]; apply ByteArray.ext; simp) HB5.out
  · by_cases hd1 : d = 1
    · have t1 : decide (n < 0) = false := decide_eq_false (by omega)
      have t2 : decide (1 < d) = false := decide_eq_false (by omega)
      have HY : Hid (textF n d = ([] ++ T) ++ []) := Lib.hid (by rw [HX.out, if_neg (by omega : ¬ n < 0), if_pos (by omega : d = 1)])
      clear hn hd1 HX
      go_wp2
      go_ret2
      exact retS_mk (by rw [HY.out]; apply ByteArray.ext; simp) HB3.out
    · have t1 : decide (n < 0) = false := decide_eq_false (by omega)
      have t2 : decide (1 < d) = true := decide_eq_true (by omega)
      have HY : Hid (textF n d = ([] ++ T) ++ (47 :: U)) := Lib.hid (by rw [HX.out, if_neg (by omega : ¬ n < 0), if_neg (by omega : ¬ d = 1)])
      clear hn hd1 HX
      go_wp2_with fail
      refine (W2.out _).mono ?_
      rintro e w4 ⟨B, cb, rfl, hB, hb⟩
      have HB4 := Lib.hid (bchain HB3.out hb)
      have HBB := Lib.hid hB
      clear hb hB
      go_wp2_with fail
      refine (D2.out _ _ _ HBB.out).mono ?_
      rintro e w5 ⟨rfl, hb⟩
      have HB5 := Lib.hid (bchain HB4.out hb)
      clear hb c0 c1 HR3 HBB
      go_wp2
      go_ret2
      exact retS_mk (by rw [HY.out]; apply ByteArray.ext; simp) HB5.out
end Go.Proofs.YtfhkgpipbegpgaaGreatDoor
