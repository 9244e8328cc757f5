/- The contracts of the reference's operations. -/
import Derived.Test.YtfhkgpipbegpgaaGreatDoorRefR
import Derived.Test.YtfhkgpipbegpgaaGreatDoorSumW
namespace Go.Proofs.YtfhkgpipbegpgaaGreatDoor
open Go Go.RowKit

theorem rright_hid {n d : Int} {b : Bool} (hf : FB n d) (h : rightB n d = b) : Hid (∀ w, Calls Tryz.prog 31 #[.agg #[.int .i64 n, .int .i64 d]] w fun e w' => e = .returned (.bool b) ∧ Below w.heap.size w w') :=
  Lib.hid fun w => h ▸ rright_any n d hf w
theorem pack_one (neg : Bool) (a b : Nat) (h : Nat.gcd a b = 1) : packP neg (a / Nat.gcd a b) (b / Nat.gcd a b) = packP neg a b := by rw [h, Nat.div_one, Nat.div_one]
set_option maxRecDepth 100000 in
set_option maxHeartbeats 2000000 in
theorem rneg_bad (n d : Int) (hf : FB n d) (h : rightB n d = false) (w : World) :
    Calls Tryz.prog 21 #[.agg #[.int .i64 n, .int .i64 d]] w (RetF (0, 0, 2) w) := by
  have R1 := rright_hid hf h
  have HQ := Lib.hid (Qm.one w n d)
  clear h hf
  go_enter Tryz.func21, Tryz.ntmps21
  go_upto_region 1 with fail
  generalize (w.alloc (.cells #[.int .i64 n, .int .i64 d] 23)).alloc (.cells #[.int .i64 0, .int .i64 0] 23) = V1 at *
  have x0 := HQ.out.cell (i := 0) rfl (j := 0) (v := .int .i64 n) rfl
  have x1 := HQ.out.cell (i := 0) rfl (j := 1) (v := .int .i64 d) rfl
  go_wp2_with fail
  refine (R1.out _).mono ?_
  rintro e w1 ⟨rfl, hb⟩
  have HQ1 := Lib.hid (HQ.out.keep hb)
  clear hb x0 x1 HQ R1
  obtain ⟨⟨_, r0⟩, ⟨_, r1⟩, f0, f1⟩ := HQ1.out.ask
  go_wp2
  refine bodyPost_ret (v := .tuple #[.agg #[.int .i64 0, .int .i64 0], .int .i64 2]) (by simp [results, Tryz.results21, go_sem, r0, r1]) rfl ?_
  exact retF_mk rfl ((HQ1.out.below.setCell HQ1.out.new _).setCell HQ1.out.new _)
set_option maxRecDepth 100000 in
set_option maxHeartbeats 8000000 in
theorem rneg_ok (n d : Int) (hf : FB n d) (h : rightB n d = true) (w : World) :
    Calls Tryz.prog 21 #[.agg #[.int .i64 n, .int .i64 d]] w (RetF (outF (-toR n d)) w) := by
  obtain ⟨⟨qa, qb, qc⟩, hq⟩ : ∃ q, outF (-toR n d) = q := ⟨_, rfl⟩
  rw [hq]
  have R1 := rright_hid hf h
  have Wn := Lib.hid (fun W => whole_any n hf.n0 hf.n1 W)
  have Wd := Lib.hid (fun W => whole_any d hf.d0 hf.d1 W)
  have kn := nd_abs hf.n0 hf.n1
  have kd := nd_abs hf.d0 hf.d1
  have hd0 := right_pos h
  have hMQ : packP (decide (0 < n)) (n.natAbs / Nat.gcd n.natAbs d.natAbs) (d.natAbs / Nat.gcd n.natAbs d.natAbs) = (qa, qb, qc) := by rw [pack_one _ _ _ (right_gcd h), neg_val h, hq]
  have M0 : Hid (∀ W A ca B cb, Dg W A ca n.natAbs → Dg W B cb d.natAbs → Calls Tryz.prog 38 #[.bool (decide (0 < n)), .slice A (nd n.natAbs) ca, .slice B (nd d.natAbs) cb] W (RetF (qa, qb, qc) W)) := Lib.hid fun W A ca B cb h1 h2 => by
    have := make0_any (decide (0 < n)) A B ca cb n.natAbs d.natAbs (by omega) (by omega) (by omega) W h1 h2
    rw [hMQ] at this
    exact this
  obtain ⟨sg, hsg⟩ : ∃ s, decide (0 < n) = s := ⟨_, rfl⟩
  rw [hsg] at M0
  clear hMQ
  obtain ⟨N, hN⟩ : ∃ N, n.natAbs = N := ⟨_, rfl⟩
  obtain ⟨D, hD⟩ : ∃ N, d.natAbs = N := ⟨_, rfl⟩
  rw [hN] at Wn kn
  rw [hD] at Wd kd
  rw [hN, hD] at M0
  clear hN hD kn kd hd0
  have HQ := Lib.hid (Qm.one w n d)
  clear hq h hf
  go_enter Tryz.func21, Tryz.ntmps21
  go_upto_region 1 with fail
  generalize (w.alloc (.cells #[.int .i64 n, .int .i64 d] 23)).alloc (.cells #[.int .i64 0, .int .i64 0] 23) = V1 at *
  have x0 := HQ.out.cell (i := 0) rfl (j := 0) (v := .int .i64 n) rfl
  have x1 := HQ.out.cell (i := 0) rfl (j := 1) (v := .int .i64 d) rfl
  go_wp2_with fail
  refine (R1.out _).mono ?_
  rintro e w1 ⟨rfl, hb⟩
  have HQ1 := Lib.hid (HQ.out.keep hb)
  clear hb x0 x1 HQ R1
  go_upto_region 3 with fail
  have SOF : Hid (∀ wx, Qm w wx [(w.heap.size, 23, #[.int .i64 n, .int .i64 d])] (w.heap.size + 1) → (wx.cell? ⟨w.heap.size, 0, none⟩ = some (.int .i64 n) ∧ wx.cell? ⟨w.heap.size, 1, none⟩ = some (.int .i64 d) ∧ Qm w wx [(w.heap.size, 23, #[.int .i64 n, .int .i64 d])] (w.heap.size + 1))) := Lib.hid fun wx h => ⟨h.cell (i := 0) rfl (j := 0) rfl, h.cell (i := 0) rfl (j := 1) rfl, h⟩
  have hQ0 := HQ1.out
  clear HQ1
  go_region_held3 (fun wx => wx.cell? ⟨w.heap.size, 0, none⟩ = some (.int .i64 n) ∧ wx.cell? ⟨w.heap.size, 1, none⟩ = some (.int .i64 d) ∧ Qm w wx [(w.heap.size, 23, #[.int .i64 n, .int .i64 d])] (w.heap.size + 1))
    (first | exact SOF.out _ (hQ.store _ _) | exact SOF.out _ hQ | exact SOF.out _ hQ0.drew)
    (first
      | (go_at_call 39; (with_reducible refine (Wn.out _).mono ?_); rintro e v ⟨An, cn, rfl, hDn, hb⟩; (have hQ := (by assumption : _ ∧ _ ∧ Qm w _ _ _).2.2.keep hb))
      | (go_at_call 39; (with_reducible refine (Wd.out _).mono ?_); rintro e v ⟨Ad, cd, rfl, hDd, hb⟩; (replace hQ := hQ.keep hb); (replace hDn := hDn.keep hb))
      | (go_at_call 38; (with_reducible refine (M0.out _ _ _ _ _ hDn hDd).mono ?_); rintro e v ⟨rfl, hb⟩; (replace hQ := hQ.keep hb); (obtain ⟨⟨_, r0⟩, ⟨_, r1⟩, f0, f1⟩ := hQ.ask)))
  all_goals
    have HQ9 := Lib.hid hQ
    clear hQ hQ0 hb SOF
    go_wp2
    refine bodyPost_ret (v := .tuple #[.agg #[.int .i64 qa, .int .i64 qb], .int .i64 qc]) (by simp [results, Tryz.results21, go_sem, r0, r1]) rfl ?_
    exact retF_mk rfl ((HQ9.out.below.setCell HQ9.out.new _).setCell HQ9.out.new _)
set_option maxRecDepth 100000 in
set_option maxHeartbeats 2000000 in
theorem rmul_bad1 (n d m k : Int) (hf : FB n d) (h : rightB n d = false) (w : World) :
    Calls Tryz.prog 19 #[.agg #[.int .i64 n, .int .i64 d], .agg #[.int .i64 m, .int .i64 k]] w (RetF (0, 0, 2) w) := by
  have R1 := rright_hid hf h
  have HQ := Lib.hid (Qm.two w n d m k)
  clear h hf
  go_enter Tryz.func19, Tryz.ntmps19
  go_upto_region 1 with fail
  generalize ((w.alloc (.cells #[.int .i64 n, .int .i64 d] 23)).alloc (.cells #[.int .i64 m, .int .i64 k] 23)).alloc (.cells #[.int .i64 0, .int .i64 0] 23) = V1 at *
  have x0 := HQ.out.cell (i := 0) rfl (j := 0) (v := .int .i64 n) rfl
  have x1 := HQ.out.cell (i := 0) rfl (j := 1) (v := .int .i64 d) rfl
  go_wp2_with fail
  refine (R1.out _).mono ?_
  rintro e w1 ⟨rfl, hb⟩
  have HQ1 := Lib.hid (HQ.out.keep hb)
  clear hb x0 x1 HQ R1
  obtain ⟨⟨_, r0⟩, ⟨_, r1⟩, f0, f1⟩ := HQ1.out.ask
  go_wp2
  refine bodyPost_ret (v := .tuple #[.agg #[.int .i64 0, .int .i64 0], .int .i64 2]) (by simp [results, Tryz.results19, go_sem, r0, r1]) rfl ?_
  exact retF_mk rfl ((HQ1.out.below.setCell HQ1.out.new _).setCell HQ1.out.new _)
set_option maxRecDepth 100000 in
set_option maxHeartbeats 2000000 in
theorem rmul_bad2 (n d m k : Int) (hf : FB n d) (hg : FB m k) (h : rightB n d = true) (h' : rightB m k = false) (w : World) :
    Calls Tryz.prog 19 #[.agg #[.int .i64 n, .int .i64 d], .agg #[.int .i64 m, .int .i64 k]] w (RetF (0, 0, 2) w) := by
  have R1 := rright_hid hf h
  have R2 := rright_hid hg h'
  have HQ := Lib.hid (Qm.two w n d m k)
  clear h hf h' hg
  go_enter Tryz.func19, Tryz.ntmps19
  go_upto_region 1 with fail
  generalize ((w.alloc (.cells #[.int .i64 n, .int .i64 d] 23)).alloc (.cells #[.int .i64 m, .int .i64 k] 23)).alloc (.cells #[.int .i64 0, .int .i64 0] 23) = V1 at *
  have x0 := HQ.out.cell (i := 0) rfl (j := 0) (v := .int .i64 n) rfl
  have x1 := HQ.out.cell (i := 0) rfl (j := 1) (v := .int .i64 d) rfl
  go_wp2_with fail
  refine (R1.out _).mono ?_
  rintro e w1 ⟨rfl, hb⟩
  have HQ1 := Lib.hid (HQ.out.keep hb)
  clear hb x0 x1 HQ R1
  have y0 := HQ1.out.cell (i := 1) rfl (j := 0) (v := .int .i64 m) rfl
  have y1 := HQ1.out.cell (i := 1) rfl (j := 1) (v := .int .i64 k) rfl
  go_wp2_with fail
  refine (R2.out _).mono ?_
  rintro e w2 ⟨rfl, hb⟩
  have HQ2 := Lib.hid (HQ1.out.keep hb)
  clear hb y0 y1 HQ1 R2
  obtain ⟨⟨_, r0⟩, ⟨_, r1⟩, f0, f1⟩ := HQ2.out.ask
  go_wp2
  refine bodyPost_ret (v := .tuple #[.agg #[.int .i64 0, .int .i64 0], .int .i64 2]) (by simp [results, Tryz.results19, go_sem, r0, r1]) rfl ?_
  exact retF_mk rfl ((HQ2.out.below.setCell HQ2.out.new _).setCell HQ2.out.new _)
set_option maxRecDepth 100000 in
set_option maxHeartbeats 8000000 in
theorem rmul_ok (n d m k : Int) (hf : FB n d) (hg : FB m k) (h : rightB n d = true) (h' : rightB m k = true) (w : World) :
    Calls Tryz.prog 19 #[.agg #[.int .i64 n, .int .i64 d], .agg #[.int .i64 m, .int .i64 k]] w (RetF (outF (toR n d * toR m k)) w) := by
  obtain ⟨⟨qa, qb, qc⟩, hq⟩ : ∃ q, outF (toR n d * toR m k) = q := ⟨_, rfl⟩
  rw [hq]
  have R1 := rright_hid hf h
  have R2 := rright_hid hg h'
  have Wn := Lib.hid (fun W => whole_any n hf.n0 hf.n1 W)
  have Wd := Lib.hid (fun W => whole_any d hf.d0 hf.d1 W)
  have Wm := Lib.hid (fun W => whole_any m hg.n0 hg.n1 W)
  have Wk := Lib.hid (fun W => whole_any k hg.d0 hg.d1 W)
  have kn := nd_abs hf.n0 hf.n1
  have kd := nd_abs hf.d0 hf.d1
  have km := nd_abs hg.n0 hg.n1
  have kk := nd_abs hg.d0 hg.d1
  have hd0 := right_pos h
  have hk0 := right_pos h'
  have hMQ : packP (decide (n < 0) != decide (m < 0)) (n.natAbs * m.natAbs / Nat.gcd (n.natAbs * m.natAbs) (d.natAbs * k.natAbs)) (d.natAbs * k.natAbs / Nat.gcd (n.natAbs * m.natAbs) (d.natAbs * k.natAbs)) = (qa, qb, qc) := by
    rw [red_out _ _ _ (Nat.mul_ne_zero (by omega) (by omega)), ← hq]
    exact (times_out (decide (n < 0) != decide (m < 0)) n.natAbs d.natAbs m.natAbs k.natAbs (by omega) (by omega) (right_gcd h) (right_gcd h')).symm.trans (mul_val h h')
  have g1 : nd (n.natAbs * m.natAbs) ≤ 8 := Nat.le_trans (nd_mul _ _) (by omega)
  have g2 : nd (d.natAbs * k.natAbs) ≤ 8 := Nat.le_trans (nd_mul _ _) (by omega)
  have M0 : Hid (∀ W A ca B cb, Dg W A ca (n.natAbs * m.natAbs) → Dg W B cb (d.natAbs * k.natAbs) → Calls Tryz.prog 38 #[.bool (decide (n < 0) != decide (m < 0)), .slice A (nd (n.natAbs * m.natAbs)) ca, .slice B (nd (d.natAbs * k.natAbs)) cb] W (RetF (qa, qb, qc) W)) := Lib.hid fun W A ca B cb h1 h2 => by
    have := make0_any (decide (n < 0) != decide (m < 0)) A B ca cb (n.natAbs * m.natAbs) (d.natAbs * k.natAbs) (Nat.mul_pos (by omega) (by omega)) (by omega) (by omega) W h1 h2
    rw [hMQ] at this
    exact this
  have MUL : Hid (∀ W A ca B cb (a b : Nat), nd a ≤ 4 → nd b ≤ 4 → Dg W A ca a → Dg W B cb b → Calls Tryz.prog 46 #[.slice A (nd a) ca, .slice B (nd b) cb] W (RetD (a * b) W)) := Lib.hid fun W A ca B cb a b k1 k2 h1 h2 => mul_any A B ca cb a b (by omega) (by omega) W h1 h2
  obtain ⟨sg, hsg⟩ : ∃ s, (decide (n < 0) != decide (m < 0)) = s := ⟨_, rfl⟩
  rw [hsg] at M0
  have HSG := Lib.hid hsg
  clear hMQ hsg
  obtain ⟨N, hN⟩ : ∃ N, n.natAbs = N := ⟨_, rfl⟩
  obtain ⟨D, hD⟩ : ∃ N, d.natAbs = N := ⟨_, rfl⟩
  obtain ⟨M, hM⟩ : ∃ N, m.natAbs = N := ⟨_, rfl⟩
  obtain ⟨K, hK⟩ : ∃ N, k.natAbs = N := ⟨_, rfl⟩
  rw [hN] at Wn kn
  rw [hD] at Wd kd
  rw [hM] at Wm km
  rw [hK] at Wk kk
  rw [hN, hD, hM, hK] at M0
  clear hN hD hM hK hd0 hk0 g1 g2
  have HQ := Lib.hid (Qm.two w n d m k)
  clear hq h hf h' hg
  go_enter Tryz.func19, Tryz.ntmps19
  go_upto_region 1 with fail
  generalize ((w.alloc (.cells #[.int .i64 n, .int .i64 d] 23)).alloc (.cells #[.int .i64 m, .int .i64 k] 23)).alloc (.cells #[.int .i64 0, .int .i64 0] 23) = V1 at *
  have x0 := HQ.out.cell (i := 0) rfl (j := 0) (v := .int .i64 n) rfl
  have x1 := HQ.out.cell (i := 0) rfl (j := 1) (v := .int .i64 d) rfl
  go_wp2_with fail
  refine (R1.out _).mono ?_
  rintro e w1 ⟨rfl, hb⟩
  have HQ1 := Lib.hid (HQ.out.keep hb)
  clear hb x0 x1 HQ R1
  have y0 := HQ1.out.cell (i := 1) rfl (j := 0) (v := .int .i64 m) rfl
  have y1 := HQ1.out.cell (i := 1) rfl (j := 1) (v := .int .i64 k) rfl
  go_wp2_with fail
  refine (R2.out _).mono ?_
  rintro e w2 ⟨rfl, hb⟩
  have HQ2 := Lib.hid (HQ1.out.keep hb)
  clear hb y0 y1 HQ1 R2
  go_upto_region 3 with fail
  by_cases s1 : n < 0 <;> by_cases s2 : m < 0
  all_goals
    first | (have t1 : decide (n < 0) = true := decide_eq_true s1) | (have t1 : decide (n < 0) = false := decide_eq_false s1)
    first | (have t2 : decide (m < 0) = true := decide_eq_true s2) | (have t2 : decide (m < 0) = false := decide_eq_false s2)
    have hs3 := HSG.out
    rw [t1, t2] at hs3
    simp only [bne_self_eq_false, Bool.bne_true, Bool.bne_false, Bool.not_false] at hs3
    subst hs3
    clear s1 s2 HSG
    have SOF : Hid (∀ wx, Qm w wx [(w.heap.size, 23, #[.int .i64 n, .int .i64 d]), (w.heap.size + 1, 23, #[.int .i64 m, .int .i64 k])] (w.heap.size + 1 + 1) → (wx.cell? ⟨w.heap.size, 0, none⟩ = some (.int .i64 n) ∧ wx.cell? ⟨w.heap.size, 1, none⟩ = some (.int .i64 d) ∧ wx.cell? ⟨w.heap.size + 1, 0, none⟩ = some (.int .i64 m) ∧ wx.cell? ⟨w.heap.size + 1, 1, none⟩ = some (.int .i64 k) ∧ Qm w wx [(w.heap.size, 23, #[.int .i64 n, .int .i64 d]), (w.heap.size + 1, 23, #[.int .i64 m, .int .i64 k])] (w.heap.size + 1 + 1))) := Lib.hid fun wx h => ⟨h.cell (i := 0) rfl (j := 0) rfl, h.cell (i := 0) rfl (j := 1) rfl, h.cell (i := 1) rfl (j := 0) rfl, h.cell (i := 1) rfl (j := 1) rfl, h⟩
    have hQ0 := HQ2.out
    clear HQ2
    go_region_held3 (fun wx => wx.cell? ⟨w.heap.size, 0, none⟩ = some (.int .i64 n) ∧ wx.cell? ⟨w.heap.size, 1, none⟩ = some (.int .i64 d) ∧ wx.cell? ⟨w.heap.size + 1, 0, none⟩ = some (.int .i64 m) ∧ wx.cell? ⟨w.heap.size + 1, 1, none⟩ = some (.int .i64 k) ∧ Qm w wx [(w.heap.size, 23, #[.int .i64 n, .int .i64 d]), (w.heap.size + 1, 23, #[.int .i64 m, .int .i64 k])] (w.heap.size + 1 + 1))
      (first | exact SOF.out _ (hQ.store _ _) | exact SOF.out _ hQ | exact SOF.out _ hQ0.drew)
      (first
        | (go_at_call 39; (with_reducible refine (Wn.out _).mono ?_); rintro e v ⟨An, cn, rfl, hDn, hb⟩; (have hQ := (by assumption : _ ∧ _ ∧ _ ∧ _ ∧ Qm w _ _ _).2.2.2.2.keep hb))
        | (go_at_call 39; (with_reducible refine (Wm.out _).mono ?_); rintro e v ⟨Am, cm, rfl, hDm, hb⟩; (replace hQ := hQ.keep hb); (replace hDn := hDn.keep hb))
        | (go_at_call 46; (with_reducible refine (MUL.out _ _ _ _ _ _ _ kn km hDn hDm).mono ?_); rintro e v ⟨AX, cX, rfl, hDX, hb⟩; (replace hQ := hQ.keep hb))
        | (go_at_call 39; (with_reducible refine (Wd.out _).mono ?_); rintro e v ⟨Ad, cd, rfl, hDd, hb⟩; (replace hQ := hQ.keep hb); (replace hDX := hDX.keep hb))
        | (go_at_call 39; (with_reducible refine (Wk.out _).mono ?_); rintro e v ⟨Ak, ck, rfl, hDk, hb⟩; (replace hQ := hQ.keep hb); (replace hDX := hDX.keep hb); (replace hDd := hDd.keep hb))
        | (go_at_call 46; (with_reducible refine (MUL.out _ _ _ _ _ _ _ kd kk hDd hDk).mono ?_); rintro e v ⟨AY, cY, rfl, hDY, hb⟩; (replace hQ := hQ.keep hb); (replace hDX := hDX.keep hb))
        | (go_at_call 38; (with_reducible refine (M0.out _ _ _ _ _ hDX hDY).mono ?_); rintro e v ⟨rfl, hb⟩; (replace hQ := hQ.keep hb); (obtain ⟨⟨_, r0⟩, ⟨_, r1⟩, f0, f1⟩ := hQ.ask)))
    all_goals
      have HQ9 := Lib.hid hQ
      clear hQ hQ0 hb SOF
      go_wp2
      refine bodyPost_ret (v := .tuple #[.agg #[.int .i64 qa, .int .i64 qb], .int .i64 qc]) (by simp [results, Tryz.results19, go_sem, r0, r1]) rfl ?_
      exact retF_mk rfl ((HQ9.out.below.setCell HQ9.out.new _).setCell HQ9.out.new _)
set_option maxRecDepth 100000 in
set_option maxHeartbeats 2000000 in
theorem rdiv_bad1 (n d m k : Int) (hf : FB n d) (h : rightB n d = false) (w : World) :
    Calls Tryz.prog 20 #[.agg #[.int .i64 n, .int .i64 d], .agg #[.int .i64 m, .int .i64 k]] w (RetF (0, 0, 2) w) := by
  have R1 := rright_hid hf h
  have HQ := Lib.hid (Qm.two w n d m k)
  clear h hf
  go_enter Tryz.func20, Tryz.ntmps20
  go_upto_region 1 with fail
  generalize ((w.alloc (.cells #[.int .i64 n, .int .i64 d] 23)).alloc (.cells #[.int .i64 m, .int .i64 k] 23)).alloc (.cells #[.int .i64 0, .int .i64 0] 23) = V1 at *
  have x0 := HQ.out.cell (i := 0) rfl (j := 0) (v := .int .i64 n) rfl
  have x1 := HQ.out.cell (i := 0) rfl (j := 1) (v := .int .i64 d) rfl
  go_wp2_with fail
  refine (R1.out _).mono ?_
  rintro e w1 ⟨rfl, hb⟩
  have HQ1 := Lib.hid (HQ.out.keep hb)
  clear hb x0 x1 HQ R1
  obtain ⟨⟨_, r0⟩, ⟨_, r1⟩, f0, f1⟩ := HQ1.out.ask
  go_wp2
  refine bodyPost_ret (v := .tuple #[.agg #[.int .i64 0, .int .i64 0], .int .i64 2]) (by simp [results, Tryz.results20, go_sem, r0, r1]) rfl ?_
  exact retF_mk rfl ((HQ1.out.below.setCell HQ1.out.new _).setCell HQ1.out.new _)
set_option maxRecDepth 100000 in
set_option maxHeartbeats 2000000 in
theorem rdiv_bad2 (n d m k : Int) (hf : FB n d) (hg : FB m k) (h : rightB n d = true) (h' : rightB m k = false) (w : World) :
    Calls Tryz.prog 20 #[.agg #[.int .i64 n, .int .i64 d], .agg #[.int .i64 m, .int .i64 k]] w (RetF (0, 0, 2) w) := by
  have R1 := rright_hid hf h
  have R2 := rright_hid hg h'
  have HQ := Lib.hid (Qm.two w n d m k)
  clear h hf h' hg
  go_enter Tryz.func20, Tryz.ntmps20
  go_upto_region 1 with fail
  generalize ((w.alloc (.cells #[.int .i64 n, .int .i64 d] 23)).alloc (.cells #[.int .i64 m, .int .i64 k] 23)).alloc (.cells #[.int .i64 0, .int .i64 0] 23) = V1 at *
  have x0 := HQ.out.cell (i := 0) rfl (j := 0) (v := .int .i64 n) rfl
  have x1 := HQ.out.cell (i := 0) rfl (j := 1) (v := .int .i64 d) rfl
  go_wp2_with fail
  refine (R1.out _).mono ?_
  rintro e w1 ⟨rfl, hb⟩
  have HQ1 := Lib.hid (HQ.out.keep hb)
  clear hb x0 x1 HQ R1
  have y0 := HQ1.out.cell (i := 1) rfl (j := 0) (v := .int .i64 m) rfl
  have y1 := HQ1.out.cell (i := 1) rfl (j := 1) (v := .int .i64 k) rfl
  go_wp2_with fail
  refine (R2.out _).mono ?_
  rintro e w2 ⟨rfl, hb⟩
  have HQ2 := Lib.hid (HQ1.out.keep hb)
  clear hb y0 y1 HQ1 R2
  obtain ⟨⟨_, r0⟩, ⟨_, r1⟩, f0, f1⟩ := HQ2.out.ask
  go_wp2
  refine bodyPost_ret (v := .tuple #[.agg #[.int .i64 0, .int .i64 0], .int .i64 2]) (by simp [results, Tryz.results20, go_sem, r0, r1]) rfl ?_
  exact retF_mk rfl ((HQ2.out.below.setCell HQ2.out.new _).setCell HQ2.out.new _)
set_option maxRecDepth 100000 in
set_option maxHeartbeats 8000000 in
theorem rdiv_ok (n d m k : Int) (hf : FB n d) (hg : FB m k) (h : rightB n d = true) (h' : rightB m k = true) (hm : m ≠ 0) (w : World) :
    Calls Tryz.prog 20 #[.agg #[.int .i64 n, .int .i64 d], .agg #[.int .i64 m, .int .i64 k]] w (RetF (outF (toR n d / toR m k)) w) := by
  obtain ⟨⟨qa, qb, qc⟩, hq⟩ : ∃ q, outF (toR n d / toR m k) = q := ⟨_, rfl⟩
  rw [hq]
  have R1 := rright_hid hf h
  have R2 := rright_hid hg h'
  have Wn := Lib.hid (fun W => whole_any n hf.n0 hf.n1 W)
  have Wd := Lib.hid (fun W => whole_any d hf.d0 hf.d1 W)
  have Wm := Lib.hid (fun W => whole_any m hg.n0 hg.n1 W)
  have Wk := Lib.hid (fun W => whole_any k hg.d0 hg.d1 W)
  have kn := nd_abs hf.n0 hf.n1
  have kd := nd_abs hf.d0 hf.d1
  have km := nd_abs hg.n0 hg.n1
  have kk := nd_abs hg.d0 hg.d1
  have hd0 := right_pos h
  have hk0 := right_pos h'
  have hMQ : packP (decide (n < 0) != decide (m < 0)) (n.natAbs * k.natAbs / Nat.gcd (n.natAbs * k.natAbs) (d.natAbs * m.natAbs)) (d.natAbs * m.natAbs / Nat.gcd (n.natAbs * k.natAbs) (d.natAbs * m.natAbs)) = (qa, qb, qc) := by
    rw [red_out _ _ _ (Nat.mul_ne_zero (by omega) (by omega)), ← hq]
    exact (times_out (decide (n < 0) != decide (m < 0)) n.natAbs d.natAbs k.natAbs m.natAbs (by omega) (by omega) (right_gcd h) (by rw [Nat.gcd_comm]; exact right_gcd h')).symm.trans (div_val h h' hm)
  have g1 : nd (n.natAbs * k.natAbs) ≤ 8 := Nat.le_trans (nd_mul _ _) (by omega)
  have g2 : nd (d.natAbs * m.natAbs) ≤ 8 := Nat.le_trans (nd_mul _ _) (by omega)
  have M0 : Hid (∀ W A ca B cb, Dg W A ca (n.natAbs * k.natAbs) → Dg W B cb (d.natAbs * m.natAbs) → Calls Tryz.prog 38 #[.bool (decide (n < 0) != decide (m < 0)), .slice A (nd (n.natAbs * k.natAbs)) ca, .slice B (nd (d.natAbs * m.natAbs)) cb] W (RetF (qa, qb, qc) W)) := Lib.hid fun W A ca B cb h1 h2 => by
    have := make0_any (decide (n < 0) != decide (m < 0)) A B ca cb (n.natAbs * k.natAbs) (d.natAbs * m.natAbs) (Nat.mul_pos (by omega) (by omega)) (by omega) (by omega) W h1 h2
    rw [hMQ] at this
    exact this
  have MUL : Hid (∀ W A ca B cb (a b : Nat), nd a ≤ 4 → nd b ≤ 4 → Dg W A ca a → Dg W B cb b → Calls Tryz.prog 46 #[.slice A (nd a) ca, .slice B (nd b) cb] W (RetD (a * b) W)) := Lib.hid fun W A ca B cb a b k1 k2 h1 h2 => mul_any A B ca cb a b (by omega) (by omega) W h1 h2
  have tm : (m == 0) = false := beq_eq_false_iff_ne.2 hm
  obtain ⟨sg, hsg⟩ : ∃ s, (decide (n < 0) != decide (m < 0)) = s := ⟨_, rfl⟩
  rw [hsg] at M0
  have HSG := Lib.hid hsg
  clear hMQ hsg
  obtain ⟨N, hN⟩ : ∃ N, n.natAbs = N := ⟨_, rfl⟩
  obtain ⟨D, hD⟩ : ∃ N, d.natAbs = N := ⟨_, rfl⟩
  obtain ⟨M, hM⟩ : ∃ N, m.natAbs = N := ⟨_, rfl⟩
  obtain ⟨K, hK⟩ : ∃ N, k.natAbs = N := ⟨_, rfl⟩
  rw [hN] at Wn kn
  rw [hD] at Wd kd
  rw [hM] at Wm km
  rw [hK] at Wk kk
  rw [hN, hD, hM, hK] at M0
  clear hN hD hM hK hd0 hk0 g1 g2 hm
  have HQ := Lib.hid (Qm.two w n d m k)
  clear hq h hf h' hg
  go_enter Tryz.func20, Tryz.ntmps20
  go_upto_region 1 with fail
  generalize ((w.alloc (.cells #[.int .i64 n, .int .i64 d] 23)).alloc (.cells #[.int .i64 m, .int .i64 k] 23)).alloc (.cells #[.int .i64 0, .int .i64 0] 23) = V1 at *
  have x0 := HQ.out.cell (i := 0) rfl (j := 0) (v := .int .i64 n) rfl
  have x1 := HQ.out.cell (i := 0) rfl (j := 1) (v := .int .i64 d) rfl
  go_wp2_with fail
  refine (R1.out _).mono ?_
  rintro e w1 ⟨rfl, hb⟩
  have HQ1 := Lib.hid (HQ.out.keep hb)
  clear hb x0 x1 HQ R1
  have y0 := HQ1.out.cell (i := 1) rfl (j := 0) (v := .int .i64 m) rfl
  have y1 := HQ1.out.cell (i := 1) rfl (j := 1) (v := .int .i64 k) rfl
  go_wp2_with fail
  refine (R2.out _).mono ?_
  rintro e w2 ⟨rfl, hb⟩
  have HQ2 := Lib.hid (HQ1.out.keep hb)
  clear hb y0 y1 HQ1 R2
  have y0 := HQ2.out.cell (i := 1) rfl (j := 0) (v := .int .i64 m) rfl
  go_upto_region 3 with fail
  clear y0
  by_cases s1 : n < 0 <;> by_cases s2 : m < 0
  all_goals
    first | (have t1 : decide (n < 0) = true := decide_eq_true s1) | (have t1 : decide (n < 0) = false := decide_eq_false s1)
    first | (have t2 : decide (m < 0) = true := decide_eq_true s2) | (have t2 : decide (m < 0) = false := decide_eq_false s2)
    have hs3 := HSG.out
    rw [t1, t2] at hs3
    simp only [bne_self_eq_false, Bool.bne_true, Bool.bne_false, Bool.not_false] at hs3
    subst hs3
    clear s1 s2 HSG
    have SOF : Hid (∀ wx, Qm w wx [(w.heap.size, 23, #[.int .i64 n, .int .i64 d]), (w.heap.size + 1, 23, #[.int .i64 m, .int .i64 k])] (w.heap.size + 1 + 1) → (wx.cell? ⟨w.heap.size, 0, none⟩ = some (.int .i64 n) ∧ wx.cell? ⟨w.heap.size, 1, none⟩ = some (.int .i64 d) ∧ wx.cell? ⟨w.heap.size + 1, 0, none⟩ = some (.int .i64 m) ∧ wx.cell? ⟨w.heap.size + 1, 1, none⟩ = some (.int .i64 k) ∧ Qm w wx [(w.heap.size, 23, #[.int .i64 n, .int .i64 d]), (w.heap.size + 1, 23, #[.int .i64 m, .int .i64 k])] (w.heap.size + 1 + 1))) := Lib.hid fun wx h => ⟨h.cell (i := 0) rfl (j := 0) rfl, h.cell (i := 0) rfl (j := 1) rfl, h.cell (i := 1) rfl (j := 0) rfl, h.cell (i := 1) rfl (j := 1) rfl, h⟩
    have hQ0 := HQ2.out
    clear HQ2
    go_region_held3 (fun wx => wx.cell? ⟨w.heap.size, 0, none⟩ = some (.int .i64 n) ∧ wx.cell? ⟨w.heap.size, 1, none⟩ = some (.int .i64 d) ∧ wx.cell? ⟨w.heap.size + 1, 0, none⟩ = some (.int .i64 m) ∧ wx.cell? ⟨w.heap.size + 1, 1, none⟩ = some (.int .i64 k) ∧ Qm w wx [(w.heap.size, 23, #[.int .i64 n, .int .i64 d]), (w.heap.size + 1, 23, #[.int .i64 m, .int .i64 k])] (w.heap.size + 1 + 1))
      (first | exact SOF.out _ (hQ.store _ _) | exact SOF.out _ hQ | exact SOF.out _ hQ0.drew)
      (first
        | (go_at_call 39; (with_reducible refine (Wn.out _).mono ?_); rintro e v ⟨An, cn, rfl, hDn, hb⟩; (have hQ := (by assumption : _ ∧ _ ∧ _ ∧ _ ∧ Qm w _ _ _).2.2.2.2.keep hb))
        | (go_at_call 39; (with_reducible refine (Wk.out _).mono ?_); rintro e v ⟨Ak, ck, rfl, hDk, hb⟩; (replace hQ := hQ.keep hb); (replace hDn := hDn.keep hb))
        | (go_at_call 46; (with_reducible refine (MUL.out _ _ _ _ _ _ _ kn kk hDn hDk).mono ?_); rintro e v ⟨AX, cX, rfl, hDX, hb⟩; (replace hQ := hQ.keep hb))
        | (go_at_call 39; (with_reducible refine (Wd.out _).mono ?_); rintro e v ⟨Ad, cd, rfl, hDd, hb⟩; (replace hQ := hQ.keep hb); (replace hDX := hDX.keep hb))
        | (go_at_call 39; (with_reducible refine (Wm.out _).mono ?_); rintro e v ⟨Am, cm, rfl, hDm, hb⟩; (replace hQ := hQ.keep hb); (replace hDX := hDX.keep hb); (replace hDd := hDd.keep hb))
        | (go_at_call 46; (with_reducible refine (MUL.out _ _ _ _ _ _ _ kd km hDd hDm).mono ?_); rintro e v ⟨AY, cY, rfl, hDY, hb⟩; (replace hQ := hQ.keep hb); (replace hDX := hDX.keep hb))
        | (go_at_call 38; (with_reducible refine (M0.out _ _ _ _ _ hDX hDY).mono ?_); rintro e v ⟨rfl, hb⟩; (replace hQ := hQ.keep hb); (obtain ⟨⟨_, r0⟩, ⟨_, r1⟩, f0, f1⟩ := hQ.ask)))
    all_goals
      have HQ9 := Lib.hid hQ
      clear hQ hQ0 hb SOF
      go_wp2
      refine bodyPost_ret (v := .tuple #[.agg #[.int .i64 qa, .int .i64 qb], .int .i64 qc]) (by simp [results, Tryz.results20, go_sem, r0, r1]) rfl ?_
      exact retF_mk rfl ((HQ9.out.below.setCell HQ9.out.new _).setCell HQ9.out.new _)
set_option maxRecDepth 100000 in
set_option maxHeartbeats 2000000 in
theorem rdiv_zero (n d m k : Int) (hf : FB n d) (hg : FB m k) (h : rightB n d = true) (h' : rightB m k = true) (hm : m = 0) (w : World) :
    Calls Tryz.prog 20 #[.agg #[.int .i64 n, .int .i64 d], .agg #[.int .i64 m, .int .i64 k]] w (RetF (0, 0, 2) w) := by
  have R1 := rright_hid hf h
  have R2 := rright_hid hg h'
  have tm : (m == 0) = true := beq_iff_eq.2 hm
  have HQ := Lib.hid (Qm.two w n d m k)
  clear h hf h' hg hm
  go_enter Tryz.func20, Tryz.ntmps20
  go_upto_region 1 with fail
  generalize ((w.alloc (.cells #[.int .i64 n, .int .i64 d] 23)).alloc (.cells #[.int .i64 m, .int .i64 k] 23)).alloc (.cells #[.int .i64 0, .int .i64 0] 23) = V1 at *
  have x0 := HQ.out.cell (i := 0) rfl (j := 0) (v := .int .i64 n) rfl
  have x1 := HQ.out.cell (i := 0) rfl (j := 1) (v := .int .i64 d) rfl
  go_wp2_with fail
  refine (R1.out _).mono ?_
  rintro e w1 ⟨rfl, hb⟩
  have HQ1 := Lib.hid (HQ.out.keep hb)
  clear hb x0 x1 HQ R1
  have y0 := HQ1.out.cell (i := 1) rfl (j := 0) (v := .int .i64 m) rfl
  have y1 := HQ1.out.cell (i := 1) rfl (j := 1) (v := .int .i64 k) rfl
  go_wp2_with fail
  refine (R2.out _).mono ?_
  rintro e w2 ⟨rfl, hb⟩
  have HQ2 := Lib.hid (HQ1.out.keep hb)
  clear hb y0 y1 HQ1 R2
  have y0 := HQ2.out.cell (i := 1) rfl (j := 0) (v := .int .i64 m) rfl
  obtain ⟨⟨_, r0⟩, ⟨_, r1⟩, f0, f1⟩ := HQ2.out.ask
  go_wp2
  refine bodyPost_ret (v := .tuple #[.agg #[.int .i64 0, .int .i64 0], .int .i64 2]) (by simp [results, Tryz.results20, go_sem, r0, r1]) rfl ?_
  exact retF_mk rfl ((HQ2.out.below.setCell HQ2.out.new _).setCell HQ2.out.new _)
end Go.Proofs.YtfhkgpipbegpgaaGreatDoor
