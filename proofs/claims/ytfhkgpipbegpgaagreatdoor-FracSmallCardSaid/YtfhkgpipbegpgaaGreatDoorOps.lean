/- The contracts of Add, Sub, Mul and Div. -/
import Derived.Test.YtfhkgpipbegpgaaGreatDoorAdd
import Derived.Test.YtfhkgpipbegpgaaGreatDoorOpsP
namespace Go.Proofs.YtfhkgpipbegpgaaGreatDoor
open Go Go.RowKit

theorem right_hid {n d : Int} {b : Bool} (hf : FB n d) (h : rightB n d = b) : Hid (∀ w, Calls Tryz.prog 30 #[.agg #[.int .i64 n, .int .i64 d]] w fun e w' => e = .returned (.bool b) ∧ Below w.heap.size w w') :=
  Lib.hid fun w => (right_any n d hf.n0 hf.n1 hf.d0 hf.d1 w).mono fun e w' ⟨he, hb⟩ => ⟨by rw [he, h], hb⟩
set_option maxRecDepth 100000 in
set_option maxHeartbeats 1000000 in
theorem oadd_bad1 (n d m k : Int) (hf : FB n d) (h : rightB n d = false) (w : World) :
    Calls Tryz.prog 12 #[.agg #[.int .i64 n, .int .i64 d], .agg #[.int .i64 m, .int .i64 k]] w (RetF (0, 0, 2) w) := by
  have R1 := right_hid hf h
  clear h hf
  go_enter Tryz.func12, Tryz.ntmps12
  go_wp2_with fail
  have hA := AM.start w n d m k
  generalize ((w.alloc (.cells #[.int .i64 n, .int .i64 d] 23)).alloc (.cells #[.int .i64 m, .int .i64 k] 23)).alloc (.cells #[.int .i64 0, .int .i64 0] 23) = W1 at *
  refine (R1.out _).mono ?_
  rintro e w1 ⟨rfl, hb⟩
  have hA1 := hA.keep hb
  clear hb hA
  have r0 := hA1.br.cell (j := 0) (v := .int .i64 0) rfl
  have r1 := hA1.br.cell (j := 1) (v := .int .i64 0) rfl
  have f0 := hA1.br.free 0
  have f1 := hA1.br.free 1
  have hB := hA1.below
  clear hA1
  go_wp2
  refine bodyPost_ret (v := .tuple #[.agg #[.int .i64 0, .int .i64 0], .int .i64 2]) (by simp [results, Tryz.results12, go_sem, r0, r1]) rfl ?_
  exact retF_mk rfl ((hB.setCell (by simp; omega) _).setCell (by simp; omega) _)
set_option maxRecDepth 100000 in
set_option maxHeartbeats 1000000 in
theorem oadd_bad2 (n d m k : Int) (hf : FB n d) (hg : FB m k) (h : rightB n d = true) (h' : rightB m k = false) (w : World) :
    Calls Tryz.prog 12 #[.agg #[.int .i64 n, .int .i64 d], .agg #[.int .i64 m, .int .i64 k]] w (RetF (0, 0, 2) w) := by
  have R1 := right_hid hf h
  have R2 := right_hid hg h'
  clear h h' hf hg
  go_enter Tryz.func12, Tryz.ntmps12
  go_wp2_with fail
  have hA := AM.start w n d m k
  generalize ((w.alloc (.cells #[.int .i64 n, .int .i64 d] 23)).alloc (.cells #[.int .i64 m, .int .i64 k] 23)).alloc (.cells #[.int .i64 0, .int .i64 0] 23) = W1 at *
  refine (R1.out _).mono ?_
  rintro e w1 ⟨rfl, hb⟩
  have hA1 := hA.keep hb
  clear hb hA
  have x0 := hA1.bf.cell (j := 0) (v := .int .i64 n) rfl
  have x1 := hA1.bf.cell (j := 1) (v := .int .i64 d) rfl
  have y0 := hA1.bg.cell (j := 0) (v := .int .i64 m) rfl
  have y1 := hA1.bg.cell (j := 1) (v := .int .i64 k) rfl
  go_wp2_with fail
  clear x0 x1 y0 y1
  refine (R2.out _).mono ?_
  rintro e w2 ⟨rfl, hb⟩
  have hA2 := hA1.keep hb
  clear hb hA1
  have r0 := hA2.br.cell (j := 0) (v := .int .i64 0) rfl
  have r1 := hA2.br.cell (j := 1) (v := .int .i64 0) rfl
  have f0 := hA2.br.free 0
  have f1 := hA2.br.free 1
  have hB := hA2.below
  clear hA2
  go_wp2
  refine bodyPost_ret (v := .tuple #[.agg #[.int .i64 0, .int .i64 0], .int .i64 2]) (by simp [results, Tryz.results12, go_sem, r0, r1]) rfl ?_
  exact retF_mk rfl ((hB.setCell (by simp; omega) _).setCell (by simp; omega) _)
set_option maxRecDepth 100000 in
set_option maxHeartbeats 1000000 in
theorem oadd_ok (n d m k : Int) (hf : FB n d) (hg : FB m k) (h : rightB n d = true) (h' : rightB m k = true) (w : World) :
    Calls Tryz.prog 12 #[.agg #[.int .i64 n, .int .i64 d], .agg #[.int .i64 m, .int .i64 k]] w (RetF (outF (toR n d + toR m k)) w) := by
  have R1 := right_hid hf h
  have R2 := right_hid hg h'
  have pd := right_pos h
  have pk := right_pos h'
  obtain ⟨⟨qa, qb, qc⟩, hq⟩ : ∃ q, outF (toR n d + toR m k) = q := ⟨_, rfl⟩
  obtain ⟨t, ht⟩ : ∃ t, decide (m < 0) = t := ⟨_, rfl⟩
  have A1 : Hid (∀ w, Calls Tryz.prog 41 #[.agg #[.int .i64 n, .int .i64 d], .agg #[.int .i64 m, .int .i64 k], .bool t] w fun e w' => e = .returned (.tuple #[.agg #[.int .i64 qa, .int .i64 qb], .int .i64 qc]) ∧ Below w.heap.size w w') := Lib.hid fun w => by
    have := add_any n d m k (decide (m < 0)) hf.n0 hf.n1 pd hf.d1 hg.n0 hg.n1 pk hg.d1 w
    rw [add_val h h', hq, ht] at this
    exact this
  have HQ := Lib.hid hq
  clear hq h h' hf hg pd pk
  go_enter Tryz.func12, Tryz.ntmps12
  go_wp2_with fail
  have hA := AM.start w n d m k
  generalize ((w.alloc (.cells #[.int .i64 n, .int .i64 d] 23)).alloc (.cells #[.int .i64 m, .int .i64 k] 23)).alloc (.cells #[.int .i64 0, .int .i64 0] 23) = W1 at *
  refine (R1.out _).mono ?_
  rintro e w1 ⟨rfl, hb⟩
  have hA1 := hA.keep hb
  clear hb hA
  have x0 := hA1.bf.cell (j := 0) (v := .int .i64 n) rfl
  have x1 := hA1.bf.cell (j := 1) (v := .int .i64 d) rfl
  have y0 := hA1.bg.cell (j := 0) (v := .int .i64 m) rfl
  have y1 := hA1.bg.cell (j := 1) (v := .int .i64 k) rfl
  go_wp2_with fail
  clear x0 x1 y0 y1
  refine (R2.out _).mono ?_
  rintro e w2 ⟨rfl, hb⟩
  have hA2 := hA1.keep hb
  clear hb hA1
  have x0 := hA2.bf.cell (j := 0) (v := .int .i64 n) rfl
  have x1 := hA2.bf.cell (j := 1) (v := .int .i64 d) rfl
  have y0 := hA2.bg.cell (j := 0) (v := .int .i64 m) rfl
  have y1 := hA2.bg.cell (j := 1) (v := .int .i64 k) rfl
  go_wp2_with fail
  clear x0 x1 y0 y1
  refine (A1.out _).mono ?_
  rintro e w3 ⟨rfl, hb⟩
  have hA3 := hA2.keep hb
  clear hb hA2
  have r0 := hA3.br.cell (j := 0) (v := .int .i64 0) rfl
  have r1 := hA3.br.cell (j := 1) (v := .int .i64 0) rfl
  have f0 := hA3.br.free 0
  have f1 := hA3.br.free 1
  have hB := hA3.below
  clear hA3
  go_wp2
  refine bodyPost_ret (v := .tuple #[.agg #[.int .i64 qa, .int .i64 qb], .int .i64 qc]) (by simp [results, Tryz.results12, go_sem, r0, r1]) rfl ?_
  exact retF_mk HQ.out ((hB.setCell (by simp; omega) _).setCell (by simp; omega) _)
set_option maxRecDepth 100000 in
set_option maxHeartbeats 1000000 in
theorem osub_bad1 (n d m k : Int) (hf : FB n d) (h : rightB n d = false) (w : World) :
    Calls Tryz.prog 13 #[.agg #[.int .i64 n, .int .i64 d], .agg #[.int .i64 m, .int .i64 k]] w (RetF (0, 0, 2) w) := by
  have R1 := right_hid hf h
  clear h hf
  go_enter Tryz.func13, Tryz.ntmps13
  go_wp2_with fail
  have hA := AM.start w n d m k
  generalize ((w.alloc (.cells #[.int .i64 n, .int .i64 d] 23)).alloc (.cells #[.int .i64 m, .int .i64 k] 23)).alloc (.cells #[.int .i64 0, .int .i64 0] 23) = W1 at *
  refine (R1.out _).mono ?_
  rintro e w1 ⟨rfl, hb⟩
  have hA1 := hA.keep hb
  clear hb hA
  have r0 := hA1.br.cell (j := 0) (v := .int .i64 0) rfl
  have r1 := hA1.br.cell (j := 1) (v := .int .i64 0) rfl
  have f0 := hA1.br.free 0
  have f1 := hA1.br.free 1
  have hB := hA1.below
  clear hA1
  go_wp2
  refine bodyPost_ret (v := .tuple #[.agg #[.int .i64 0, .int .i64 0], .int .i64 2]) (by simp [results, Tryz.results13, go_sem, r0, r1]) rfl ?_
  exact retF_mk rfl ((hB.setCell (by simp; omega) _).setCell (by simp; omega) _)
set_option maxRecDepth 100000 in
set_option maxHeartbeats 1000000 in
theorem osub_bad2 (n d m k : Int) (hf : FB n d) (hg : FB m k) (h : rightB n d = true) (h' : rightB m k = false) (w : World) :
    Calls Tryz.prog 13 #[.agg #[.int .i64 n, .int .i64 d], .agg #[.int .i64 m, .int .i64 k]] w (RetF (0, 0, 2) w) := by
  have R1 := right_hid hf h
  have R2 := right_hid hg h'
  clear h h' hf hg
  go_enter Tryz.func13, Tryz.ntmps13
  go_wp2_with fail
  have hA := AM.start w n d m k
  generalize ((w.alloc (.cells #[.int .i64 n, .int .i64 d] 23)).alloc (.cells #[.int .i64 m, .int .i64 k] 23)).alloc (.cells #[.int .i64 0, .int .i64 0] 23) = W1 at *
  refine (R1.out _).mono ?_
  rintro e w1 ⟨rfl, hb⟩
  have hA1 := hA.keep hb
  clear hb hA
  have x0 := hA1.bf.cell (j := 0) (v := .int .i64 n) rfl
  have x1 := hA1.bf.cell (j := 1) (v := .int .i64 d) rfl
  have y0 := hA1.bg.cell (j := 0) (v := .int .i64 m) rfl
  have y1 := hA1.bg.cell (j := 1) (v := .int .i64 k) rfl
  go_wp2_with fail
  clear x0 x1 y0 y1
  refine (R2.out _).mono ?_
  rintro e w2 ⟨rfl, hb⟩
  have hA2 := hA1.keep hb
  clear hb hA1
  have r0 := hA2.br.cell (j := 0) (v := .int .i64 0) rfl
  have r1 := hA2.br.cell (j := 1) (v := .int .i64 0) rfl
  have f0 := hA2.br.free 0
  have f1 := hA2.br.free 1
  have hB := hA2.below
  clear hA2
  go_wp2
  refine bodyPost_ret (v := .tuple #[.agg #[.int .i64 0, .int .i64 0], .int .i64 2]) (by simp [results, Tryz.results13, go_sem, r0, r1]) rfl ?_
  exact retF_mk rfl ((hB.setCell (by simp; omega) _).setCell (by simp; omega) _)
set_option maxRecDepth 100000 in
set_option maxHeartbeats 1000000 in
theorem osub_ok (n d m k : Int) (hf : FB n d) (hg : FB m k) (h : rightB n d = true) (h' : rightB m k = true) (w : World) :
    Calls Tryz.prog 13 #[.agg #[.int .i64 n, .int .i64 d], .agg #[.int .i64 m, .int .i64 k]] w (RetF (outF (toR n d - toR m k)) w) := by
  have R1 := right_hid hf h
  have R2 := right_hid hg h'
  have pd := right_pos h
  have pk := right_pos h'
  obtain ⟨⟨qa, qb, qc⟩, hq⟩ : ∃ q, outF (toR n d - toR m k) = q := ⟨_, rfl⟩
  obtain ⟨t, ht⟩ : ∃ t, decide (0 < m) = t := ⟨_, rfl⟩
  have A1 : Hid (∀ w, Calls Tryz.prog 41 #[.agg #[.int .i64 n, .int .i64 d], .agg #[.int .i64 m, .int .i64 k], .bool t] w fun e w' => e = .returned (.tuple #[.agg #[.int .i64 qa, .int .i64 qb], .int .i64 qc]) ∧ Below w.heap.size w w') := Lib.hid fun w => by
    have := add_any n d m k (decide (0 < m)) hf.n0 hf.n1 pd hf.d1 hg.n0 hg.n1 pk hg.d1 w
    rw [sub_val h h', hq, ht] at this
    exact this
  have HQ := Lib.hid hq
  clear hq h h' hf hg pd pk
  go_enter Tryz.func13, Tryz.ntmps13
  go_wp2_with fail
  have hA := AM.start w n d m k
  generalize ((w.alloc (.cells #[.int .i64 n, .int .i64 d] 23)).alloc (.cells #[.int .i64 m, .int .i64 k] 23)).alloc (.cells #[.int .i64 0, .int .i64 0] 23) = W1 at *
  refine (R1.out _).mono ?_
  rintro e w1 ⟨rfl, hb⟩
  have hA1 := hA.keep hb
  clear hb hA
  have x0 := hA1.bf.cell (j := 0) (v := .int .i64 n) rfl
  have x1 := hA1.bf.cell (j := 1) (v := .int .i64 d) rfl
  have y0 := hA1.bg.cell (j := 0) (v := .int .i64 m) rfl
  have y1 := hA1.bg.cell (j := 1) (v := .int .i64 k) rfl
  go_wp2_with fail
  clear x0 x1 y0 y1
  refine (R2.out _).mono ?_
  rintro e w2 ⟨rfl, hb⟩
  have hA2 := hA1.keep hb
  clear hb hA1
  have x0 := hA2.bf.cell (j := 0) (v := .int .i64 n) rfl
  have x1 := hA2.bf.cell (j := 1) (v := .int .i64 d) rfl
  have y0 := hA2.bg.cell (j := 0) (v := .int .i64 m) rfl
  have y1 := hA2.bg.cell (j := 1) (v := .int .i64 k) rfl
  go_wp2_with fail
  clear x0 x1 y0 y1
  refine (A1.out _).mono ?_
  rintro e w3 ⟨rfl, hb⟩
  have hA3 := hA2.keep hb
  clear hb hA2
  have r0 := hA3.br.cell (j := 0) (v := .int .i64 0) rfl
  have r1 := hA3.br.cell (j := 1) (v := .int .i64 0) rfl
  have f0 := hA3.br.free 0
  have f1 := hA3.br.free 1
  have hB := hA3.below
  clear hA3
  go_wp2
  refine bodyPost_ret (v := .tuple #[.agg #[.int .i64 qa, .int .i64 qb], .int .i64 qc]) (by simp [results, Tryz.results13, go_sem, r0, r1]) rfl ?_
  exact retF_mk HQ.out ((hB.setCell (by simp; omega) _).setCell (by simp; omega) _)
set_option maxRecDepth 100000 in
set_option maxHeartbeats 1000000 in
theorem omul_bad1 (n d m k : Int) (hf : FB n d) (h : rightB n d = false) (w : World) :
    Calls Tryz.prog 14 #[.agg #[.int .i64 n, .int .i64 d], .agg #[.int .i64 m, .int .i64 k]] w (RetF (0, 0, 2) w) := by
  have R1 := right_hid hf h
  clear h hf
  go_enter Tryz.func14, Tryz.ntmps14
  go_wp2_with fail
  have hA := AM.start w n d m k
  generalize ((w.alloc (.cells #[.int .i64 n, .int .i64 d] 23)).alloc (.cells #[.int .i64 m, .int .i64 k] 23)).alloc (.cells #[.int .i64 0, .int .i64 0] 23) = W1 at *
  refine (R1.out _).mono ?_
  rintro e w1 ⟨rfl, hb⟩
  have hA1 := hA.keep hb
  clear hb hA
  have r0 := hA1.br.cell (j := 0) (v := .int .i64 0) rfl
  have r1 := hA1.br.cell (j := 1) (v := .int .i64 0) rfl
  have f0 := hA1.br.free 0
  have f1 := hA1.br.free 1
  have hB := hA1.below
  clear hA1
  go_wp2
  refine bodyPost_ret (v := .tuple #[.agg #[.int .i64 0, .int .i64 0], .int .i64 2]) (by simp [results, Tryz.results14, go_sem, r0, r1]) rfl ?_
  exact retF_mk rfl ((hB.setCell (by simp; omega) _).setCell (by simp; omega) _)
set_option maxRecDepth 100000 in
set_option maxHeartbeats 1000000 in
theorem omul_bad2 (n d m k : Int) (hf : FB n d) (hg : FB m k) (h : rightB n d = true) (h' : rightB m k = false) (w : World) :
    Calls Tryz.prog 14 #[.agg #[.int .i64 n, .int .i64 d], .agg #[.int .i64 m, .int .i64 k]] w (RetF (0, 0, 2) w) := by
  have R1 := right_hid hf h
  have R2 := right_hid hg h'
  clear h h' hf hg
  go_enter Tryz.func14, Tryz.ntmps14
  go_wp2_with fail
  have hA := AM.start w n d m k
  generalize ((w.alloc (.cells #[.int .i64 n, .int .i64 d] 23)).alloc (.cells #[.int .i64 m, .int .i64 k] 23)).alloc (.cells #[.int .i64 0, .int .i64 0] 23) = W1 at *
  refine (R1.out _).mono ?_
  rintro e w1 ⟨rfl, hb⟩
  have hA1 := hA.keep hb
  clear hb hA
  have x0 := hA1.bf.cell (j := 0) (v := .int .i64 n) rfl
  have x1 := hA1.bf.cell (j := 1) (v := .int .i64 d) rfl
  have y0 := hA1.bg.cell (j := 0) (v := .int .i64 m) rfl
  have y1 := hA1.bg.cell (j := 1) (v := .int .i64 k) rfl
  go_wp2_with fail
  clear x0 x1 y0 y1
  refine (R2.out _).mono ?_
  rintro e w2 ⟨rfl, hb⟩
  have hA2 := hA1.keep hb
  clear hb hA1
  have r0 := hA2.br.cell (j := 0) (v := .int .i64 0) rfl
  have r1 := hA2.br.cell (j := 1) (v := .int .i64 0) rfl
  have f0 := hA2.br.free 0
  have f1 := hA2.br.free 1
  have hB := hA2.below
  clear hA2
  go_wp2
  refine bodyPost_ret (v := .tuple #[.agg #[.int .i64 0, .int .i64 0], .int .i64 2]) (by simp [results, Tryz.results14, go_sem, r0, r1]) rfl ?_
  exact retF_mk rfl ((hB.setCell (by simp; omega) _).setCell (by simp; omega) _)
set_option maxRecDepth 100000 in
set_option maxHeartbeats 1000000 in
theorem omul_ok (n d m k : Int) (hf : FB n d) (hg : FB m k) (h : rightB n d = true) (h' : rightB m k = true) (w : World) :
    Calls Tryz.prog 14 #[.agg #[.int .i64 n, .int .i64 d], .agg #[.int .i64 m, .int .i64 k]] w (RetF (outF (toR n d * toR m k)) w) := by
  have R1 := right_hid hf h
  have R2 := right_hid hg h'
  have pd := right_pos h
  have pk := right_pos h'
  obtain ⟨⟨qa, qb, qc⟩, hq⟩ : ∃ q, outF (toR n d * toR m k) = q := ⟨_, rfl⟩
  have S1 := Lib.hid (fun w => size_any n hf.n0 hf.n1 w)
  have S2 := Lib.hid (fun w => size_any d hf.d0 hf.d1 w)
  have S3 := Lib.hid (fun w => size_any m hg.n0 hg.n1 w)
  have S4 := Lib.hid (fun w => size_any k hg.d0 hg.d1 w)
  obtain ⟨s, hs⟩ : ∃ t, decide (n < 0) = t := ⟨_, rfl⟩
  obtain ⟨t, ht⟩ : ∃ t, decide (m < 0) = t := ⟨_, rfl⟩
  obtain ⟨x, hx⟩ : ∃ x, (!(s == t)) = x := ⟨_, rfl⟩
  have A1 : Hid (∀ w, Calls Tryz.prog 42 #[.bool x, .int .u64 (n.natAbs : Nat), .int .u64 (d.natAbs : Nat), .int .u64 (m.natAbs : Nat), .int .u64 (k.natAbs : Nat)] w fun e w' => e = .returned (.tuple #[.agg #[.int .i64 qa, .int .i64 qb], .int .i64 qc]) ∧ Below w.heap.size w w') := Lib.hid fun w => by
    have g0 := hf.n0
    have g1 := hf.n1
    have g2 := hf.d0
    have g3 := hf.d1
    have g4 := hg.n0
    have g5 := hg.n1
    have g6 := hg.d0
    have g7 := hg.d1
    have := times_any (decide (n < 0) != decide (m < 0)) n.natAbs d.natAbs (m.natAbs) (k.natAbs) (by omega) (by omega) (by omega) (by omega) (by omega) (by omega) w
    rw [mul_val h h', hq, hs, ht, show (s != t) = x from hx] at this
    exact this
  obtain ⟨N, hN⟩ : ∃ N, n.natAbs = N := ⟨_, rfl⟩
  obtain ⟨D, hD⟩ : ∃ N, d.natAbs = N := ⟨_, rfl⟩
  obtain ⟨M, hM⟩ : ∃ N, m.natAbs = N := ⟨_, rfl⟩
  obtain ⟨K, hK⟩ : ∃ N, k.natAbs = N := ⟨_, rfl⟩
  rw [hN] at S1 A1
  rw [hD] at S2 A1
  rw [hM] at S3 A1
  rw [hK] at S4 A1
  clear hN hD hM hK
  have HQ := Lib.hid hq
  clear hq h h' hf hg pd pk
  go_enter Tryz.func14, Tryz.ntmps14
  go_wp2_with fail
  have hA := AM.start w n d m k
  generalize ((w.alloc (.cells #[.int .i64 n, .int .i64 d] 23)).alloc (.cells #[.int .i64 m, .int .i64 k] 23)).alloc (.cells #[.int .i64 0, .int .i64 0] 23) = W1 at *
  refine (R1.out _).mono ?_
  rintro e w1 ⟨rfl, hb⟩
  have hA1 := hA.keep hb
  clear hb hA
  have x0 := hA1.bf.cell (j := 0) (v := .int .i64 n) rfl
  have x1 := hA1.bf.cell (j := 1) (v := .int .i64 d) rfl
  have y0 := hA1.bg.cell (j := 0) (v := .int .i64 m) rfl
  have y1 := hA1.bg.cell (j := 1) (v := .int .i64 k) rfl
  go_wp2_with fail
  clear x0 x1 y0 y1
  refine (R2.out _).mono ?_
  rintro e w2 ⟨rfl, hb⟩
  have hA2 := hA1.keep hb
  clear hb hA1
  have x0 := hA2.bf.cell (j := 0) (v := .int .i64 n) rfl
  have x1 := hA2.bf.cell (j := 1) (v := .int .i64 d) rfl
  have y0 := hA2.bg.cell (j := 0) (v := .int .i64 m) rfl
  have y1 := hA2.bg.cell (j := 1) (v := .int .i64 k) rfl
  go_upto_region 3 with fail
  have k0 := Since.cell x0
  have k1 := Since.cell x1
  have k2 := Since.cell y0
  have k3 := Since.cell y1
  clear x0 x1 y0 y1
  have HA2 := Lib.hid hA2
  clear hA2
  refine region_since_tail 22 (by kernel_rfl) (by kernel_rfl) ?_
  repeat (quiet_step ((first
    | (go_at_call 43; (first | (with_reducible exact Calls.since ((S1.out _).mono fun e w' ⟨he, hw⟩ => ⟨he, below_pure hw⟩)) | (with_reducible exact Calls.since ((S2.out _).mono fun e w' ⟨he, hw⟩ => ⟨he, below_pure hw⟩)) | (with_reducible exact Calls.since ((S3.out _).mono fun e w' ⟨he, hw⟩ => ⟨he, below_pure hw⟩)) | (with_reducible exact Calls.since ((S4.out _).mono fun e w' ⟨he, hw⟩ => ⟨he, below_pure hw⟩))))
    | (go_at_call 42; exact Calls.since (A1.out _)))))
  refine wpQuiet_nil ?_
  rintro w' ⟨u, rfl⟩
  clear k0 k1 k2 k3
  have hA3 := HA2.out.keep u.property
  clear HA2
  have r0 := hA3.br.cell (j := 0) (v := .int .i64 0) rfl
  have r1 := hA3.br.cell (j := 1) (v := .int .i64 0) rfl
  have f0 := hA3.br.free 0
  have f1 := hA3.br.free 1
  have hB := hA3.below
  clear hA3
  go_wp2
  refine bodyPost_ret (v := .tuple #[.agg #[.int .i64 qa, .int .i64 qb], .int .i64 qc]) (by simp [results, Tryz.results14, go_sem, r0, r1]) rfl ?_
  exact retF_mk HQ.out ((hB.setCell (by simp; omega) _).setCell (by simp; omega) _)
set_option maxRecDepth 100000 in
set_option maxHeartbeats 1000000 in
theorem odiv_bad1 (n d m k : Int) (hf : FB n d) (h : rightB n d = false) (w : World) :
    Calls Tryz.prog 15 #[.agg #[.int .i64 n, .int .i64 d], .agg #[.int .i64 m, .int .i64 k]] w (RetF (0, 0, 2) w) := by
  have R1 := right_hid hf h
  clear h hf
  go_enter Tryz.func15, Tryz.ntmps15
  go_wp2_with fail
  have hA := (AM.start w n d m k).keep (below1 _ (.cells #[.int .i64 0, .int .i64 1] 23))
  have hZ : Blk ((((w.alloc (.cells #[.int .i64 n, .int .i64 d] 23)).alloc (.cells #[.int .i64 m, .int .i64 k] 23)).alloc (.cells #[.int .i64 0, .int .i64 0] 23)).alloc (.cells #[.int .i64 0, .int .i64 1] 23)) (w.heap.size + 1 + 1 + 1) 23 #[.int .i64 0, .int .i64 1] := by
    have := Blk.new (((w.alloc (.cells #[.int .i64 n, .int .i64 d] 23)).alloc (.cells #[.int .i64 m, .int .i64 k] 23)).alloc (.cells #[.int .i64 0, .int .i64 0] 23)) 23 #[.int .i64 0, .int .i64 1]
    simpa using this
  generalize (((w.alloc (.cells #[.int .i64 n, .int .i64 d] 23)).alloc (.cells #[.int .i64 m, .int .i64 k] 23)).alloc (.cells #[.int .i64 0, .int .i64 0] 23)).alloc (.cells #[.int .i64 0, .int .i64 1] 23) = W1 at *
  refine (R1.out _).mono ?_
  rintro e w1 ⟨rfl, hb⟩
  have hA1 := hA.keep hb
  have hZ1 := hZ.keep hb hZ.lt
  clear hb hA hZ
  have r0 := hA1.br.cell (j := 0) (v := .int .i64 0) rfl
  have r1 := hA1.br.cell (j := 1) (v := .int .i64 0) rfl
  have f0 := hA1.br.free 0
  have f1 := hA1.br.free 1
  have hB := hA1.below
  clear hA1 hZ1
  go_wp2
  refine bodyPost_ret (v := .tuple #[.agg #[.int .i64 0, .int .i64 0], .int .i64 2]) (by simp [results, Tryz.results15, go_sem, r0, r1]) rfl ?_
  exact retF_mk rfl ((hB.setCell (by simp; omega) _).setCell (by simp; omega) _)
set_option maxRecDepth 100000 in
set_option maxHeartbeats 1000000 in
theorem odiv_bad2 (n d m k : Int) (hf : FB n d) (hg : FB m k) (h : rightB n d = true) (h' : rightB m k = false) (w : World) :
    Calls Tryz.prog 15 #[.agg #[.int .i64 n, .int .i64 d], .agg #[.int .i64 m, .int .i64 k]] w (RetF (0, 0, 2) w) := by
  have R1 := right_hid hf h
  have R2 := right_hid hg h'
  clear h h' hf hg
  go_enter Tryz.func15, Tryz.ntmps15
  go_wp2_with fail
  have hA := (AM.start w n d m k).keep (below1 _ (.cells #[.int .i64 0, .int .i64 1] 23))
  have hZ : Blk ((((w.alloc (.cells #[.int .i64 n, .int .i64 d] 23)).alloc (.cells #[.int .i64 m, .int .i64 k] 23)).alloc (.cells #[.int .i64 0, .int .i64 0] 23)).alloc (.cells #[.int .i64 0, .int .i64 1] 23)) (w.heap.size + 1 + 1 + 1) 23 #[.int .i64 0, .int .i64 1] := by
    have := Blk.new (((w.alloc (.cells #[.int .i64 n, .int .i64 d] 23)).alloc (.cells #[.int .i64 m, .int .i64 k] 23)).alloc (.cells #[.int .i64 0, .int .i64 0] 23)) 23 #[.int .i64 0, .int .i64 1]
    simpa using this
  generalize (((w.alloc (.cells #[.int .i64 n, .int .i64 d] 23)).alloc (.cells #[.int .i64 m, .int .i64 k] 23)).alloc (.cells #[.int .i64 0, .int .i64 0] 23)).alloc (.cells #[.int .i64 0, .int .i64 1] 23) = W1 at *
  refine (R1.out _).mono ?_
  rintro e w1 ⟨rfl, hb⟩
  have hA1 := hA.keep hb
  have hZ1 := hZ.keep hb hZ.lt
  clear hb hA hZ
  have x0 := hA1.bf.cell (j := 0) (v := .int .i64 n) rfl
  have x1 := hA1.bf.cell (j := 1) (v := .int .i64 d) rfl
  have y0 := hA1.bg.cell (j := 0) (v := .int .i64 m) rfl
  have y1 := hA1.bg.cell (j := 1) (v := .int .i64 k) rfl
  go_wp2_with fail
  clear x0 x1 y0 y1
  refine (R2.out _).mono ?_
  rintro e w2 ⟨rfl, hb⟩
  have hA2 := hA1.keep hb
  have hZ2 := hZ1.keep hb hZ1.lt
  clear hb hA1 hZ1
  have r0 := hA2.br.cell (j := 0) (v := .int .i64 0) rfl
  have r1 := hA2.br.cell (j := 1) (v := .int .i64 0) rfl
  have f0 := hA2.br.free 0
  have f1 := hA2.br.free 1
  have hB := hA2.below
  clear hA2 hZ2
  go_wp2
  refine bodyPost_ret (v := .tuple #[.agg #[.int .i64 0, .int .i64 0], .int .i64 2]) (by simp [results, Tryz.results15, go_sem, r0, r1]) rfl ?_
  exact retF_mk rfl ((hB.setCell (by simp; omega) _).setCell (by simp; omega) _)
set_option maxRecDepth 100000 in
set_option maxHeartbeats 1000000 in
theorem odiv_ok (n d m k : Int) (hf : FB n d) (hg : FB m k) (h : rightB n d = true) (h' : rightB m k = true) (hm : m ≠ 0) (w : World) :
    Calls Tryz.prog 15 #[.agg #[.int .i64 n, .int .i64 d], .agg #[.int .i64 m, .int .i64 k]] w (RetF (outF (toR n d / toR m k)) w) := by
  have R1 := right_hid hf h
  have R2 := right_hid hg h'
  have pd := right_pos h
  have pk := right_pos h'
  obtain ⟨⟨qa, qb, qc⟩, hq⟩ : ∃ q, outF (toR n d / toR m k) = q := ⟨_, rfl⟩
  have S1 := Lib.hid (fun w => size_any n hf.n0 hf.n1 w)
  have S2 := Lib.hid (fun w => size_any d hf.d0 hf.d1 w)
  have S3 := Lib.hid (fun w => size_any m hg.n0 hg.n1 w)
  have S4 := Lib.hid (fun w => size_any k hg.d0 hg.d1 w)
  obtain ⟨s, hs⟩ : ∃ t, decide (n < 0) = t := ⟨_, rfl⟩
  obtain ⟨t, ht⟩ : ∃ t, decide (m < 0) = t := ⟨_, rfl⟩
  obtain ⟨x, hx⟩ : ∃ x, (!(s == t)) = x := ⟨_, rfl⟩
  have A1 : Hid (∀ w, Calls Tryz.prog 42 #[.bool x, .int .u64 (n.natAbs : Nat), .int .u64 (d.natAbs : Nat), .int .u64 (k.natAbs : Nat), .int .u64 (m.natAbs : Nat)] w fun e w' => e = .returned (.tuple #[.agg #[.int .i64 qa, .int .i64 qb], .int .i64 qc]) ∧ Below w.heap.size w w') := Lib.hid fun w => by
    have g0 := hf.n0
    have g1 := hf.n1
    have g2 := hf.d0
    have g3 := hf.d1
    have g4 := hg.n0
    have g5 := hg.n1
    have g6 := hg.d0
    have g7 := hg.d1
    have := times_any (decide (n < 0) != decide (m < 0)) n.natAbs d.natAbs (k.natAbs) (m.natAbs) (by omega) (by omega) (by omega) (by omega) (by omega) (by omega) w
    rw [div_val h h' hm, hq, hs, ht, show (s != t) = x from hx] at this
    exact this
  obtain ⟨N, hN⟩ : ∃ N, n.natAbs = N := ⟨_, rfl⟩
  obtain ⟨D, hD⟩ : ∃ N, d.natAbs = N := ⟨_, rfl⟩
  obtain ⟨M, hM⟩ : ∃ N, m.natAbs = N := ⟨_, rfl⟩
  obtain ⟨K, hK⟩ : ∃ N, k.natAbs = N := ⟨_, rfl⟩
  rw [hN] at S1 A1
  rw [hD] at S2 A1
  rw [hM] at S3 A1
  rw [hK] at S4 A1
  clear hN hD hM hK
  have em : (m == 0) = false := by simpa using hm
  have HQ := Lib.hid hq
  clear hq h h' hf hg pd pk hm
  go_enter Tryz.func15, Tryz.ntmps15
  go_wp2_with fail
  have hA := (AM.start w n d m k).keep (below1 _ (.cells #[.int .i64 0, .int .i64 1] 23))
  have hZ : Blk ((((w.alloc (.cells #[.int .i64 n, .int .i64 d] 23)).alloc (.cells #[.int .i64 m, .int .i64 k] 23)).alloc (.cells #[.int .i64 0, .int .i64 0] 23)).alloc (.cells #[.int .i64 0, .int .i64 1] 23)) (w.heap.size + 1 + 1 + 1) 23 #[.int .i64 0, .int .i64 1] := by
    have := Blk.new (((w.alloc (.cells #[.int .i64 n, .int .i64 d] 23)).alloc (.cells #[.int .i64 m, .int .i64 k] 23)).alloc (.cells #[.int .i64 0, .int .i64 0] 23)) 23 #[.int .i64 0, .int .i64 1]
    simpa using this
  generalize (((w.alloc (.cells #[.int .i64 n, .int .i64 d] 23)).alloc (.cells #[.int .i64 m, .int .i64 k] 23)).alloc (.cells #[.int .i64 0, .int .i64 0] 23)).alloc (.cells #[.int .i64 0, .int .i64 1] 23) = W1 at *
  refine (R1.out _).mono ?_
  rintro e w1 ⟨rfl, hb⟩
  have hA1 := hA.keep hb
  have hZ1 := hZ.keep hb hZ.lt
  clear hb hA hZ
  have x0 := hA1.bf.cell (j := 0) (v := .int .i64 n) rfl
  have x1 := hA1.bf.cell (j := 1) (v := .int .i64 d) rfl
  have y0 := hA1.bg.cell (j := 0) (v := .int .i64 m) rfl
  have y1 := hA1.bg.cell (j := 1) (v := .int .i64 k) rfl
  go_wp2_with fail
  clear x0 x1 y0 y1
  refine (R2.out _).mono ?_
  rintro e w2 ⟨rfl, hb⟩
  have hA2 := hA1.keep hb
  have hZ2 := hZ1.keep hb hZ1.lt
  clear hb hA1 hZ1
  have x0 := hA2.bf.cell (j := 0) (v := .int .i64 n) rfl
  have x1 := hA2.bf.cell (j := 1) (v := .int .i64 d) rfl
  have y0 := hA2.bg.cell (j := 0) (v := .int .i64 m) rfl
  have y1 := hA2.bg.cell (j := 1) (v := .int .i64 k) rfl
  have z0 := hZ2.cell (j := 0) (v := .int .i64 0) rfl
  have z1 := hZ2.cell (j := 1) (v := .int .i64 1) rfl
  go_upto_region 4 with fail
  have k0 := Since.cell x0
  have k1 := Since.cell x1
  have k2 := Since.cell y0
  have k3 := Since.cell y1
  clear x0 x1 y0 y1 z0 z1
  have HA2 := Lib.hid hA2
  clear hA2
  refine region_since_tail 22 (by kernel_rfl) (by kernel_rfl) ?_
  repeat (quiet_step ((first
    | (go_at_call 43; (first | (with_reducible exact Calls.since ((S1.out _).mono fun e w' ⟨he, hw⟩ => ⟨he, below_pure hw⟩)) | (with_reducible exact Calls.since ((S2.out _).mono fun e w' ⟨he, hw⟩ => ⟨he, below_pure hw⟩)) | (with_reducible exact Calls.since ((S3.out _).mono fun e w' ⟨he, hw⟩ => ⟨he, below_pure hw⟩)) | (with_reducible exact Calls.since ((S4.out _).mono fun e w' ⟨he, hw⟩ => ⟨he, below_pure hw⟩))))
    | (go_at_call 42; exact Calls.since (A1.out _)))))
  refine wpQuiet_nil ?_
  rintro w' ⟨u, rfl⟩
  clear k0 k1 k2 k3
  have hA3 := HA2.out.keep u.property
  clear HA2
  have r0 := hA3.br.cell (j := 0) (v := .int .i64 0) rfl
  have r1 := hA3.br.cell (j := 1) (v := .int .i64 0) rfl
  have f0 := hA3.br.free 0
  have f1 := hA3.br.free 1
  have hB := hA3.below
  clear hA3
  go_wp2
  refine bodyPost_ret (v := .tuple #[.agg #[.int .i64 qa, .int .i64 qb], .int .i64 qc]) (by simp [results, Tryz.results15, go_sem, r0, r1]) rfl ?_
  exact retF_mk HQ.out ((hB.setCell (by simp; omega) _).setCell (by simp; omega) _)
end Go.Proofs.YtfhkgpipbegpgaaGreatDoor
