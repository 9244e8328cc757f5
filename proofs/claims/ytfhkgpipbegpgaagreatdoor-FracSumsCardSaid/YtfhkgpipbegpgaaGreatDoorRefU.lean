/- The contracts of the reference's Add and Sub. -/
import Derived.Test.YtfhkgpipbegpgaaGreatDoorRefT
namespace Go.Proofs.YtfhkgpipbegpgaaGreatDoor
open Go Go.RowKit

theorem sum_rat (s t : Bool) (N D M K : Nat) (hD : D ≠ 0) (hK : K ≠ 0) (h1 : Nat.gcd N D = 1) (h2 : Nat.gcd M K = 1) :
    outF (mkRat (sgn (sumP s t (N * K) (M * D)).1 (sumP s t (N * K) (M * D)).2) (D * K)) = addP s t N D M K := by
  rw [add_out s t N D M K hD hK h1 h2, sum_val, sgn_mul, sgn_mul]
set_option maxRecDepth 100000 in
set_option maxHeartbeats 2000000 in
theorem radd_bad1 (n d m k : Int) (hf : FB n d) (h : rightB n d = false) (w : World) :
    Calls Tryz.prog 17 #[.agg #[.int .i64 n, .int .i64 d], .agg #[.int .i64 m, .int .i64 k]] w (RetF (0, 0, 2) w) := by
  have R1 := rright_hid hf h
  have HQ := Lib.hid (Qm.two w n d m k)
  clear h hf
  go_enter Tryz.func17, Tryz.ntmps17
  go_upto_region 1 with fail
  generalize ((w.alloc (.cells #[.int .i64 n, .int .i64 d] 23)).alloc (.cells #[.int .i64 m, .int .i64 k] 23)).alloc (.cells #[.int .i64 0, .int .i64 0] 23) = V1 at *
  have x0 := HQ.out.cell (i := 0) rfl (j := 0) (v := .int .i64 n) rfl
  have x1 := HQ.out.cell (i := 0) rfl (j := 1) (v := .int .i64 d) rfl
  go_wp2_with fail
  refine (R1.out _).mono ?_
  rintro e w1 ⟨rfl, hb⟩
  have HQ1 := Lib.hid (HQ.out.keep hb)
  clear hb x0 x1 HQ R1
  obtain ⟨⟨_, r0⟩, ⟨_, r1⟩, f0, f1⟩ := HQ1.out.ask
  go_wp2
  refine bodyPost_ret (v := .tuple #[.agg #[.int .i64 0, .int .i64 0], .int .i64 2]) (by simp [results, Tryz.results17, go_sem, r0, r1]) rfl ?_
  exact retF_mk rfl ((HQ1.out.below.setCell HQ1.out.new _).setCell HQ1.out.new _)
set_option maxRecDepth 100000 in
set_option maxHeartbeats 2000000 in
theorem radd_bad2 (n d m k : Int) (hf : FB n d) (hg : FB m k) (h : rightB n d = true) (h' : rightB m k = false) (w : World) :
    Calls Tryz.prog 17 #[.agg #[.int .i64 n, .int .i64 d], .agg #[.int .i64 m, .int .i64 k]] w (RetF (0, 0, 2) w) := by
  have R1 := rright_hid hf h
  have R2 := rright_hid hg h'
  have HQ := Lib.hid (Qm.two w n d m k)
  clear h hf h' hg
  go_enter Tryz.func17, Tryz.ntmps17
  go_upto_region 1 with fail
  generalize ((w.alloc (.cells #[.int .i64 n, .int .i64 d] 23)).alloc (.cells #[.int .i64 m, .int .i64 k] 23)).alloc (.cells #[.int .i64 0, .int .i64 0] 23) = V1 at *
  have x0 := HQ.out.cell (i := 0) rfl (j := 0) (v := .int .i64 n) rfl
  have x1 := HQ.out.cell (i := 0) rfl (j := 1) (v := .int .i64 d) rfl
  go_wp2_with fail
  refine (R1.out _).mono ?_
  rintro e w1 ⟨rfl, hb⟩
  have HQ1 := Lib.hid (HQ.out.keep hb)
  clear hb x0 x1 HQ R1
  have y0 := HQ1.out.cell (i := 1) rfl (j := 0) (v := .int .i64 m) rfl
  have y1 := HQ1.out.cell (i := 1) rfl (j := 1) (v := .int .i64 k) rfl
  go_wp2_with fail
  refine (R2.out _).mono ?_
  rintro e w2 ⟨rfl, hb⟩
  have HQ2 := Lib.hid (HQ1.out.keep hb)
  clear hb y0 y1 HQ1 R2
  obtain ⟨⟨_, r0⟩, ⟨_, r1⟩, f0, f1⟩ := HQ2.out.ask
  go_wp2
  refine bodyPost_ret (v := .tuple #[.agg #[.int .i64 0, .int .i64 0], .int .i64 2]) (by simp [results, Tryz.results17, go_sem, r0, r1]) rfl ?_
  exact retF_mk rfl ((HQ2.out.below.setCell HQ2.out.new _).setCell HQ2.out.new _)
set_option maxRecDepth 100000 in
set_option maxHeartbeats 8000000 in
theorem radd_ok (n d m k : Int) (hf : FB n d) (hg : FB m k) (h : rightB n d = true) (h' : rightB m k = true) (w : World) :
    Calls Tryz.prog 17 #[.agg #[.int .i64 n, .int .i64 d], .agg #[.int .i64 m, .int .i64 k]] w (RetF (outF (toR n d + toR m k)) w) := by
  obtain ⟨⟨qa, qb, qc⟩, hq⟩ : ∃ q, outF (toR n d + toR m k) = q := ⟨_, rfl⟩
  rw [hq]
  have R1 := rright_hid hf h
  have R2 := rright_hid hg h'
  have Wm := Lib.hid (fun W => whole_any m hg.n0 hg.n1 W)
  have Wk := Lib.hid (fun W => whole_any k hg.d0 hg.d1 W)
  have km := nd_abs hg.n0 hg.n1
  have kk := nd_abs hg.d0 hg.d1
  have hd0 := right_pos h
  have hk0 := right_pos h'
  obtain ⟨⟨s1, s2⟩, hs12⟩ : ∃ q, sumP (decide (n < 0)) (decide (m < 0)) (n.natAbs * k.natAbs) (m.natAbs * d.natAbs) = q := ⟨_, rfl⟩
  have hMQ : outF (mkRat (sgn s1 s2) (d.natAbs * k.natAbs)) = (qa, qb, qc) := by
    have := sum_rat (decide (n < 0)) (decide (m < 0)) n.natAbs d.natAbs m.natAbs k.natAbs (by omega) (by omega) (right_gcd h) (right_gcd h')
    rw [hs12, add_val h h', hq] at this
    exact this
  have M0 : Hid (∀ W A ca B cb, Dg W A ca m.natAbs → Dg W B cb k.natAbs → Calls Tryz.prog 45 #[.agg #[.int .i64 n, .int .i64 d], .bool (decide (m < 0)), .slice A (nd m.natAbs) ca, .slice B (nd k.natAbs) cb] W (RetF (qa, qb, qc) W)) := Lib.hid fun W A ca B cb h1 h2 =>
    rsum_any n d hf h (decide (m < 0)) A B ca cb m.natAbs k.natAbs (by omega) (by omega) (by omega) s1 s2 qa qb qc hs12 hMQ W h1 h2
  obtain ⟨sg, hsg⟩ : ∃ s, decide (m < 0) = s := ⟨_, rfl⟩
  rw [hsg] at M0
  clear hMQ hs12
  obtain ⟨M, hM⟩ : ∃ N, m.natAbs = N := ⟨_, rfl⟩
  obtain ⟨K, hK⟩ : ∃ N, k.natAbs = N := ⟨_, rfl⟩
  rw [hM] at Wm km
  rw [hK] at Wk kk
  rw [hM, hK] at M0
  clear hM hK km kk hd0 hk0
  have HQ := Lib.hid (Qm.two w n d m k)
  clear hq h hf h' hg
  go_enter Tryz.func17, Tryz.ntmps17
  go_upto_region 1 with fail
  generalize ((w.alloc (.cells #[.int .i64 n, .int .i64 d] 23)).alloc (.cells #[.int .i64 m, .int .i64 k] 23)).alloc (.cells #[.int .i64 0, .int .i64 0] 23) = V1 at *
  have x0 := HQ.out.cell (i := 0) rfl (j := 0) (v := .int .i64 n) rfl
  have x1 := HQ.out.cell (i := 0) rfl (j := 1) (v := .int .i64 d) rfl
  go_wp2_with fail
  refine (R1.out _).mono ?_
  rintro e w1 ⟨rfl, hb⟩
  have HQ1 := Lib.hid (HQ.out.keep hb)
  clear hb x0 x1 HQ R1
  have y0 := HQ1.out.cell (i := 1) rfl (j := 0) (v := .int .i64 m) rfl
  have y1 := HQ1.out.cell (i := 1) rfl (j := 1) (v := .int .i64 k) rfl
  go_wp2_with fail
  refine (R2.out _).mono ?_
  rintro e w2 ⟨rfl, hb⟩
  have HQ2 := Lib.hid (HQ1.out.keep hb)
  clear hb y0 y1 HQ1 R2
  go_upto_region 3 with fail
  have SOF : Hid (∀ wx, Qm w wx [(w.heap.size, 23, #[.int .i64 n, .int .i64 d]), (w.heap.size + 1, 23, #[.int .i64 m, .int .i64 k])] (w.heap.size + 1 + 1) → (wx.cell? ⟨w.heap.size, 0, none⟩ = some (.int .i64 n) ∧ wx.cell? ⟨w.heap.size, 1, none⟩ = some (.int .i64 d) ∧ wx.cell? ⟨w.heap.size + 1, 0, none⟩ = some (.int .i64 m) ∧ wx.cell? ⟨w.heap.size + 1, 1, none⟩ = some (.int .i64 k) ∧ Qm w wx [(w.heap.size, 23, #[.int .i64 n, .int .i64 d]), (w.heap.size + 1, 23, #[.int .i64 m, .int .i64 k])] (w.heap.size + 1 + 1))) := Lib.hid fun wx h => ⟨h.cell (i := 0) rfl (j := 0) rfl, h.cell (i := 0) rfl (j := 1) rfl, h.cell (i := 1) rfl (j := 0) rfl, h.cell (i := 1) rfl (j := 1) rfl, h⟩
  have hQ0 := HQ2.out
  clear HQ2
  go_region_held3 (fun wx => wx.cell? ⟨w.heap.size, 0, none⟩ = some (.int .i64 n) ∧ wx.cell? ⟨w.heap.size, 1, none⟩ = some (.int .i64 d) ∧ wx.cell? ⟨w.heap.size + 1, 0, none⟩ = some (.int .i64 m) ∧ wx.cell? ⟨w.heap.size + 1, 1, none⟩ = some (.int .i64 k) ∧ Qm w wx [(w.heap.size, 23, #[.int .i64 n, .int .i64 d]), (w.heap.size + 1, 23, #[.int .i64 m, .int .i64 k])] (w.heap.size + 1 + 1))
    (first | exact SOF.out _ (hQ.store _ _) | exact SOF.out _ hQ | exact SOF.out _ hQ0.drew)
    (first
      | (go_at_call 39; (with_reducible refine (Wm.out _).mono ?_); rintro e v ⟨Am, cm, rfl, hDm, hb⟩; (have hQ := (by assumption : _ ∧ _ ∧ _ ∧ _ ∧ Qm w _ _ _).2.2.2.2.keep hb))
      | (go_at_call 39; (with_reducible refine (Wk.out _).mono ?_); rintro e v ⟨Ak, ck, rfl, hDk, hb⟩; (replace hQ := hQ.keep hb); (replace hDm := hDm.keep hb))
      | (go_at_call 45; (with_reducible refine (M0.out _ _ _ _ _ hDm hDk).mono ?_); rintro e v ⟨rfl, hb⟩; (replace hQ := hQ.keep hb); (obtain ⟨⟨_, r0⟩, ⟨_, r1⟩, f0, f1⟩ := hQ.ask)))
  all_goals
    have HQ9 := Lib.hid hQ
    clear hQ hQ0 hb SOF
    go_wp2
    refine bodyPost_ret (v := .tuple #[.agg #[.int .i64 qa, .int .i64 qb], .int .i64 qc]) (by simp [results, Tryz.results17, go_sem, r0, r1]) rfl ?_
    exact retF_mk rfl ((HQ9.out.below.setCell HQ9.out.new _).setCell HQ9.out.new _)
set_option maxRecDepth 100000 in
set_option maxHeartbeats 2000000 in
theorem rsub_bad1 (n d m k : Int) (hf : FB n d) (h : rightB n d = false) (w : World) :
    Calls Tryz.prog 18 #[.agg #[.int .i64 n, .int .i64 d], .agg #[.int .i64 m, .int .i64 k]] w (RetF (0, 0, 2) w) := by
  have R1 := rright_hid hf h
  have HQ := Lib.hid (Qm.two w n d m k)
  clear h hf
  go_enter Tryz.func18, Tryz.ntmps18
  go_upto_region 1 with fail
  generalize ((w.alloc (.cells #[.int .i64 n, .int .i64 d] 23)).alloc (.cells #[.int .i64 m, .int .i64 k] 23)).alloc (.cells #[.int .i64 0, .int .i64 0] 23) = V1 at *
  have x0 := HQ.out.cell (i := 0) rfl (j := 0) (v := .int .i64 n) rfl
  have x1 := HQ.out.cell (i := 0) rfl (j := 1) (v := .int .i64 d) rfl
  go_wp2_with fail
  refine (R1.out _).mono ?_
  rintro e w1 ⟨rfl, hb⟩
  have HQ1 := Lib.hid (HQ.out.keep hb)
  clear hb x0 x1 HQ R1
  obtain ⟨⟨_, r0⟩, ⟨_, r1⟩, f0, f1⟩ := HQ1.out.ask
  go_wp2
  refine bodyPost_ret (v := .tuple #[.agg #[.int .i64 0, .int .i64 0], .int .i64 2]) (by simp [results, Tryz.results18, go_sem, r0, r1]) rfl ?_
  exact retF_mk rfl ((HQ1.out.below.setCell HQ1.out.new _).setCell HQ1.out.new _)
set_option maxRecDepth 100000 in
set_option maxHeartbeats 2000000 in
theorem rsub_bad2 (n d m k : Int) (hf : FB n d) (hg : FB m k) (h : rightB n d = true) (h' : rightB m k = false) (w : World) :
    Calls Tryz.prog 18 #[.agg #[.int .i64 n, .int .i64 d], .agg #[.int .i64 m, .int .i64 k]] w (RetF (0, 0, 2) w) := by
  have R1 := rright_hid hf h
  have R2 := rright_hid hg h'
  have HQ := Lib.hid (Qm.two w n d m k)
  clear h hf h' hg
  go_enter Tryz.func18, Tryz.ntmps18
  go_upto_region 1 with fail
  generalize ((w.alloc (.cells #[.int .i64 n, .int .i64 d] 23)).alloc (.cells #[.int .i64 m, .int .i64 k] 23)).alloc (.cells #[.int .i64 0, .int .i64 0] 23) = V1 at *
  have x0 := HQ.out.cell (i := 0) rfl (j := 0) (v := .int .i64 n) rfl
  have x1 := HQ.out.cell (i := 0) rfl (j := 1) (v := .int .i64 d) rfl
  go_wp2_with fail
  refine (R1.out _).mono ?_
  rintro e w1 ⟨rfl, hb⟩
  have HQ1 := Lib.hid (HQ.out.keep hb)
  clear hb x0 x1 HQ R1
  have y0 := HQ1.out.cell (i := 1) rfl (j := 0) (v := .int .i64 m) rfl
  have y1 := HQ1.out.cell (i := 1) rfl (j := 1) (v := .int .i64 k) rfl
  go_wp2_with fail
  refine (R2.out _).mono ?_
  rintro e w2 ⟨rfl, hb⟩
  have HQ2 := Lib.hid (HQ1.out.keep hb)
  clear hb y0 y1 HQ1 R2
  obtain ⟨⟨_, r0⟩, ⟨_, r1⟩, f0, f1⟩ := HQ2.out.ask
  go_wp2
  refine bodyPost_ret (v := .tuple #[.agg #[.int .i64 0, .int .i64 0], .int .i64 2]) (by simp [results, Tryz.results18, go_sem, r0, r1]) rfl ?_
  exact retF_mk rfl ((HQ2.out.below.setCell HQ2.out.new _).setCell HQ2.out.new _)
set_option maxRecDepth 100000 in
set_option maxHeartbeats 8000000 in
theorem rsub_ok (n d m k : Int) (hf : FB n d) (hg : FB m k) (h : rightB n d = true) (h' : rightB m k = true) (w : World) :
    Calls Tryz.prog 18 #[.agg #[.int .i64 n, .int .i64 d], .agg #[.int .i64 m, .int .i64 k]] w (RetF (outF (toR n d - toR m k)) w) := by
  obtain ⟨⟨qa, qb, qc⟩, hq⟩ : ∃ q, outF (toR n d - toR m k) = q := ⟨_, rfl⟩
  rw [hq]
  have R1 := rright_hid hf h
  have R2 := rright_hid hg h'
  have Wm := Lib.hid (fun W => whole_any m hg.n0 hg.n1 W)
  have Wk := Lib.hid (fun W => whole_any k hg.d0 hg.d1 W)
  have km := nd_abs hg.n0 hg.n1
  have kk := nd_abs hg.d0 hg.d1
  have hd0 := right_pos h
  have hk0 := right_pos h'
  obtain ⟨⟨s1, s2⟩, hs12⟩ : ∃ q, sumP (decide (n < 0)) (decide (0 < m)) (n.natAbs * k.natAbs) (m.natAbs * d.natAbs) = q := ⟨_, rfl⟩
  have hMQ : outF (mkRat (sgn s1 s2) (d.natAbs * k.natAbs)) = (qa, qb, qc) := by
    have := sum_rat (decide (n < 0)) (decide (0 < m)) n.natAbs d.natAbs m.natAbs k.natAbs (by omega) (by omega) (right_gcd h) (right_gcd h')
    rw [hs12, sub_val h h', hq] at this
    exact this
  have M0 : Hid (∀ W A ca B cb, Dg W A ca m.natAbs → Dg W B cb k.natAbs → Calls Tryz.prog 45 #[.agg #[.int .i64 n, .int .i64 d], .bool (decide (0 < m)), .slice A (nd m.natAbs) ca, .slice B (nd k.natAbs) cb] W (RetF (qa, qb, qc) W)) := Lib.hid fun W A ca B cb h1 h2 =>
    rsum_any n d hf h (decide (0 < m)) A B ca cb m.natAbs k.natAbs (by omega) (by omega) (by omega) s1 s2 qa qb qc hs12 hMQ W h1 h2
  obtain ⟨sg, hsg⟩ : ∃ s, decide (0 < m) = s := ⟨_, rfl⟩
  rw [hsg] at M0
  clear hMQ hs12
  obtain ⟨M, hM⟩ : ∃ N, m.natAbs = N := ⟨_, rfl⟩
  obtain ⟨K, hK⟩ : ∃ N, k.natAbs = N := ⟨_, rfl⟩
  rw [hM] at Wm km
  rw [hK] at Wk kk
  rw [hM, hK] at M0
  clear hM hK km kk hd0 hk0
  have HQ := Lib.hid (Qm.two w n d m k)
  clear hq h hf h' hg
  go_enter Tryz.func18, Tryz.ntmps18
  go_upto_region 1 with fail
  generalize ((w.alloc (.cells #[.int .i64 n, .int .i64 d] 23)).alloc (.cells #[.int .i64 m, .int .i64 k] 23)).alloc (.cells #[.int .i64 0, .int .i64 0] 23) = V1 at *
  have x0 := HQ.out.cell (i := 0) rfl (j := 0) (v := .int .i64 n) rfl
  have x1 := HQ.out.cell (i := 0) rfl (j := 1) (v := .int .i64 d) rfl
  go_wp2_with fail
  refine (R1.out _).mono ?_
  rintro e w1 ⟨rfl, hb⟩
  have HQ1 := Lib.hid (HQ.out.keep hb)
  clear hb x0 x1 HQ R1
  have y0 := HQ1.out.cell (i := 1) rfl (j := 0) (v := .int .i64 m) rfl
  have y1 := HQ1.out.cell (i := 1) rfl (j := 1) (v := .int .i64 k) rfl
  go_wp2_with fail
  refine (R2.out _).mono ?_
  rintro e w2 ⟨rfl, hb⟩
  have HQ2 := Lib.hid (HQ1.out.keep hb)
  clear hb y0 y1 HQ1 R2
  go_upto_region 3 with fail
  have SOF : Hid (∀ wx, Qm w wx [(w.heap.size, 23, #[.int .i64 n, .int .i64 d]), (w.heap.size + 1, 23, #[.int .i64 m, .int .i64 k])] (w.heap.size + 1 + 1) → (wx.cell? ⟨w.heap.size, 0, none⟩ = some (.int .i64 n) ∧ wx.cell? ⟨w.heap.size, 1, none⟩ = some (.int .i64 d) ∧ wx.cell? ⟨w.heap.size + 1, 0, none⟩ = some (.int .i64 m) ∧ wx.cell? ⟨w.heap.size + 1, 1, none⟩ = some (.int .i64 k) ∧ Qm w wx [(w.heap.size, 23, #[.int .i64 n, .int .i64 d]), (w.heap.size + 1, 23, #[.int .i64 m, .int .i64 k])] (w.heap.size + 1 + 1))) := Lib.hid fun wx h => ⟨h.cell (i := 0) rfl (j := 0) rfl, h.cell (i := 0) rfl (j := 1) rfl, h.cell (i := 1) rfl (j := 0) rfl, h.cell (i := 1) rfl (j := 1) rfl, h⟩
  have hQ0 := HQ2.out
  clear HQ2
  go_region_held3 (fun wx => wx.cell? ⟨w.heap.size, 0, none⟩ = some (.int .i64 n) ∧ wx.cell? ⟨w.heap.size, 1, none⟩ = some (.int .i64 d) ∧ wx.cell? ⟨w.heap.size + 1, 0, none⟩ = some (.int .i64 m) ∧ wx.cell? ⟨w.heap.size + 1, 1, none⟩ = some (.int .i64 k) ∧ Qm w wx [(w.heap.size, 23, #[.int .i64 n, .int .i64 d]), (w.heap.size + 1, 23, #[.int .i64 m, .int .i64 k])] (w.heap.size + 1 + 1))
    (first | exact SOF.out _ (hQ.store _ _) | exact SOF.out _ hQ | exact SOF.out _ hQ0.drew)
    (first
      | (go_at_call 39; (with_reducible refine (Wm.out _).mono ?_); rintro e v ⟨Am, cm, rfl, hDm, hb⟩; (have hQ := (by assumption : _ ∧ _ ∧ _ ∧ _ ∧ Qm w _ _ _).2.2.2.2.keep hb))
      | (go_at_call 39; (with_reducible refine (Wk.out _).mono ?_); rintro e v ⟨Ak, ck, rfl, hDk, hb⟩; (replace hQ := hQ.keep hb); (replace hDm := hDm.keep hb))
      | (go_at_call 45; (with_reducible refine (M0.out _ _ _ _ _ hDm hDk).mono ?_); rintro e v ⟨rfl, hb⟩; (replace hQ := hQ.keep hb); (obtain ⟨⟨_, r0⟩, ⟨_, r1⟩, f0, f1⟩ := hQ.ask)))
  all_goals
    have HQ9 := Lib.hid hQ
    clear hQ hQ0 hb SOF
    go_wp2
    refine bodyPost_ret (v := .tuple #[.agg #[.int .i64 qa, .int .i64 qb], .int .i64 qc]) (by simp [results, Tryz.results18, go_sem, r0, r1]) rfl ?_
    exact retF_mk rfl ((HQ9.out.below.setCell HQ9.out.new _).setCell HQ9.out.new _)
end Go.Proofs.YtfhkgpipbegpgaaGreatDoor
