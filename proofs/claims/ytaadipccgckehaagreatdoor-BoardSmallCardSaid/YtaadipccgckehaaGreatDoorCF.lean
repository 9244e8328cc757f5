/- A record turned: board.Turn. -/
import Derived.Test.YtaadipccgckehaaGreatDoorCE
namespace Go.Proofs.YtaadipccgckehaaGreatDoor
open Go Go.RowKit Go.Shelf Pl

theorem two_rec (w : World) (c : Array Value) : Blk ((w.alloc (.cells c 26)).alloc (.cells z5 26)) w.heap.size 26 c ∧ Blk ((w.alloc (.cells c 26)).alloc (.cells z5 26)) (w.heap.size + 1) 26 z5 ∧ Below w.heap.size w ((w.alloc (.cells c 26)).alloc (.cells z5 26)) := by
  refine ⟨(Blk.new w _ _).alloc _, ?_, (below1 w _).alloc (by simp) _⟩
  have := Blk.new (w.alloc (.cells c 26)) 26 z5
  rwa [show (w.alloc (.cells c 26)).heap.size = w.heap.size + 1 by simp] at this
set_option maxRecDepth 100000 in
theorem bturn_bad (n k c : Int) (v0 v1 v2 v3 : Nat) (hc : (c != 0) = true) (CB : Hid (∀ W, Calls Tryz.prog 32 #[.agg #[.int .i64 n, .int .u64 (v0 : Nat), .int .u64 (v1 : Nat), .int .u64 (v2 : Nat), .int .u64 (v3 : Nat)]] W (fun e w' => e = .returned (.int .i64 c) ∧ Below W.heap.size W w'))) (w : World) :
    Calls Tryz.prog 19 #[.agg #[.int .i64 n, .int .u64 (v0 : Nat), .int .u64 (v1 : Nat), .int .u64 (v2 : Nat), .int .u64 (v3 : Nat)], .int .i64 k] w (fun e w' => e = .returned (.tuple #[.agg z5, .int .i64 c]) ∧ Below w.heap.size w w') := by
  have hc0 : ¬ c = 0 := by simpa using hc
  go_enter Tryz.func19, Tryz.ntmps19
  go_wp2_with fail
  have BX := two_rec w #[.int .i64 n, .int .u64 (v0 : Nat), .int .u64 (v1 : Nat), .int .u64 (v2 : Nat), .int .u64 (v3 : Nat)]
  unfold z5 at BX
  generalize (w.alloc (.cells #[.int .i64 n, .int .u64 (v0 : Nat), .int .u64 (v1 : Nat), .int .u64 (v2 : Nat), .int .u64 (v3 : Nat)] 26)).alloc (.cells #[.int .i64 0, .int .u64 0, .int .u64 0, .int .u64 0, .int .u64 0] 26) = W1 at *
  refine (CB.out _).mono ?_
  rintro e w2 ⟨rfl, hb⟩
  have HR := Lib.hid (BX.2.1.keep hb BX.2.1.lt)
  have HB := Lib.hid (bchain BX.2.2 hb)
  clear hb BX CB
  have HL : Hid (w.heap.size ≤ w.heap.size + 1) := Lib.hid (by omega)
  generalize w.heap.size + 1 = p1 at *
  have x0 := HR.out.cell (j := 0) (v := .int .i64 0) rfl
  have x1 := HR.out.cell (j := 1) (v := .int .u64 0) rfl
  have x2 := HR.out.cell (j := 2) (v := .int .u64 0) rfl
  have x3 := HR.out.cell (j := 3) (v := .int .u64 0) rfl
  have x4 := HR.out.cell (j := 4) (v := .int .u64 0) rfl
  have g0 := HR.out.free 0
  have g1 := HR.out.free 1
  have g2 := HR.out.free 2
  have g3 := HR.out.free 3
  have g4 := HR.out.free 4
  have HZ := Lib.hid (z5set HR.out (.int .i64 0) (.int .u64 0) (.int .u64 0) (.int .u64 0) (.int .u64 0))
  have HBZ := Lib.hid (z5below HB.out HL.out (.int .i64 0) (.int .u64 0) (.int .u64 0) (.int .u64 0) (.int .u64 0))
  clear HR HB
  go_wp2_with fail
  generalize ((((w2.setCell ⟨p1, 0, none⟩ (.int .i64 0)).setCell ⟨p1, 1, none⟩ (.int .u64 0)).setCell ⟨p1, 2, none⟩ (.int .u64 0)).setCell ⟨p1, 3, none⟩ (.int .u64 0)).setCell ⟨p1, 4, none⟩ (.int .u64 0) = WF at *
  clear x0 x1 x2 x3 x4 g0 g1 g2 g3 g4
  have x0 := HZ.out.cell (j := 0) (v := .int .i64 0) rfl
  have x1 := HZ.out.cell (j := 1) (v := .int .u64 0) rfl
  have x2 := HZ.out.cell (j := 2) (v := .int .u64 0) rfl
  have x3 := HZ.out.cell (j := 3) (v := .int .u64 0) rfl
  have x4 := HZ.out.cell (j := 4) (v := .int .u64 0) rfl
  (try simp only [Exit.inBlock, Exit.then])
  refine bodyPost_ret (by simp [results, Tryz.results19, go_sem, x0, x1, x2, x3, x4]; try rfl) rfl ?_
  exact ⟨rfl, HBZ.out⟩
set_option maxRecDepth 100000 in
theorem bturn_ok (n : Nat) (D : Nat → Nat) (k : Int) (hk : -9223372036854775808 ≤ k ∧ k ≤ 9223372036854775807) (h1 : 1 ≤ n) (h2 : n ≤ 128) (hD : D64 D) (hr : rightB D = true) (w : World) :
    Calls Tryz.prog 19 #[.agg #[.int .i64 (n : Int), .int .u64 (D 0 : Nat), .int .u64 (D 1 : Nat), .int .u64 (D 2 : Nat), .int .u64 (D 3 : Nat)], .int .i64 k] w (fun e w' => e = .returned (.tuple #[.agg #[.int .i64 (n : Int), .int .u64 (turnD D k 0 : Nat), .int .u64 (turnD D k 1 : Nat), .int .u64 (turnD D k 2 : Nat), .int .u64 (turnD D k 3 : Nat)], .int .i64 0]) ∧ Below w.heap.size w w') := by
  have CB := Lib.hid (fun W => check_deal n D h1 h2 hD W)
  rw [hr, if_pos rfl] at CB
  have TU := Lib.hid (fun W => turn_any D k hk W)
  generalize turnD D k 0 = t0 at *
  generalize turnD D k 1 = t1 at *
  generalize turnD D k 2 = t2 at *
  generalize turnD D k 3 = t3 at *
  generalize D 0 = v0 at *
  generalize D 1 = v1 at *
  generalize D 2 = v2 at *
  generalize D 3 = v3 at *
  clear h1 h2 hD hr hk
  go_enter Tryz.func19, Tryz.ntmps19
  go_wp2_with fail
  have BX := two_rec w #[.int .i64 (n : Int), .int .u64 (v0 : Nat), .int .u64 (v1 : Nat), .int .u64 (v2 : Nat), .int .u64 (v3 : Nat)]
  unfold z5 at BX
  generalize (w.alloc (.cells #[.int .i64 (n : Int), .int .u64 (v0 : Nat), .int .u64 (v1 : Nat), .int .u64 (v2 : Nat), .int .u64 (v3 : Nat)] 26)).alloc (.cells #[.int .i64 0, .int .u64 0, .int .u64 0, .int .u64 0, .int .u64 0] 26) = W1 at *
  refine (CB.out _).mono ?_
  rintro e w2 ⟨rfl, hb⟩
  have HS := Lib.hid (BX.1.keep hb BX.1.lt)
  have HR := Lib.hid (BX.2.1.keep hb BX.2.1.lt)
  have HB := Lib.hid (bchain BX.2.2 hb)
  clear hb BX CB
  have HL : Hid (w.heap.size ≤ w.heap.size + 1) := Lib.hid (by omega)
  generalize w.heap.size + 1 = p1 at *
  generalize hp0 : w.heap.size = p0 at *
  go_upto_region 4 with fail
  refine rest_begin (by kernel_rfl) ?_
  have HS1 : Hid (Blk w2.drew p0 26 #[.int .i64 (n : Int), .int .u64 (v0 : Nat), .int .u64 (v1 : Nat), .int .u64 (v2 : Nat), .int .u64 (v3 : Nat)]) := HS
  have HR1 : Hid (Blk w2.drew p1 26 #[.int .i64 0, .int .u64 0, .int .u64 0, .int .u64 0, .int .u64 0]) := HR
  have HB1 := Lib.hid (Below.drew HB.out)
  clear HS HR HB
  generalize w2.drew = wa at *
  have x0 : ∀ u : Since wa, u.val.cell? ⟨p0, 0, none⟩ = some (.int .i64 (n : Int)) := fun u => cell_keep (HS1.out.cell (j := 0) (v := .int .i64 (n : Int)) rfl) u.property
  have x1 : ∀ u : Since wa, u.val.cell? ⟨p0, 1, none⟩ = some (.int .u64 (v0 : Nat)) := fun u => cell_keep (HS1.out.cell (j := 1) (v := .int .u64 (v0 : Nat)) rfl) u.property
  have x2 : ∀ u : Since wa, u.val.cell? ⟨p0, 2, none⟩ = some (.int .u64 (v1 : Nat)) := fun u => cell_keep (HS1.out.cell (j := 2) (v := .int .u64 (v1 : Nat)) rfl) u.property
  have x3 : ∀ u : Since wa, u.val.cell? ⟨p0, 3, none⟩ = some (.int .u64 (v2 : Nat)) := fun u => cell_keep (HS1.out.cell (j := 3) (v := .int .u64 (v2 : Nat)) rfl) u.property
  have x4 : ∀ u : Since wa, u.val.cell? ⟨p0, 4, none⟩ = some (.int .u64 (v3 : Nat)) := fun u => cell_keep (HS1.out.cell (j := 4) (v := .int .u64 (v3 : Nat)) rfl) u.property
  refine rest_quiet (fun w' => ∃ u : Since wa, w' = u.val) 7 (by kernel_rfl) ⟨⟨wa, Below.refl _ _⟩, rfl⟩ ?_
  simp only [List.take_succ_cons, List.take_zero, List.drop_zero]
  repeat (quiet_step ((go_at_call 16; exact Calls.since (TU.out _))))
  refine wpQuiet_nil ?_
  rintro wq ⟨u, rfl⟩
  have BQ := Lib.hid (u.property)
  generalize u.val = wb at *
  have HR2 := Lib.hid (HR1.out.keep BQ.out HR1.out.lt)
  have HB2 := Lib.hid (HB1.out.trans (BQ.out.mono (by have := HB1.out.size; omega)))
  clear BQ HR1 HB1 HS1 x0 x1 x2 x3 x4
  have x0 := HR2.out.cell (j := 0) (v := .int .i64 0) rfl
  have x1 := HR2.out.cell (j := 1) (v := .int .u64 0) rfl
  have x2 := HR2.out.cell (j := 2) (v := .int .u64 0) rfl
  have x3 := HR2.out.cell (j := 3) (v := .int .u64 0) rfl
  have x4 := HR2.out.cell (j := 4) (v := .int .u64 0) rfl
  have g0 := HR2.out.free 0
  have g1 := HR2.out.free 1
  have g2 := HR2.out.free 2
  have g3 := HR2.out.free 3
  have g4 := HR2.out.free 4
  have HZ := Lib.hid (z5set HR2.out (.int .i64 (n : Int)) (.int .u64 (t0 : Nat)) (.int .u64 (t1 : Nat)) (.int .u64 (t2 : Nat)) (.int .u64 (t3 : Nat)))
  have HBZ := Lib.hid (z5below HB2.out HL.out (.int .i64 (n : Int)) (.int .u64 (t0 : Nat)) (.int .u64 (t1 : Nat)) (.int .u64 (t2 : Nat)) (.int .u64 (t3 : Nat)))
  clear HR2 HB2
  refine rest_forced 2 (by kernel_rfl) ?_
  go_wp2_with fail
  refine rest_done rfl ?_
  generalize ((((wb.setCell ⟨p1, 0, none⟩ (.int .i64 (n : Int))).setCell ⟨p1, 1, none⟩ (.int .u64 (t0 : Nat))).setCell ⟨p1, 2, none⟩ (.int .u64 (t1 : Nat))).setCell ⟨p1, 3, none⟩ (.int .u64 (t2 : Nat))).setCell ⟨p1, 4, none⟩ (.int .u64 (t3 : Nat)) = WF at *
  clear x0 x1 x2 x3 x4 g0 g1 g2 g3 g4
  have x0 := HZ.out.cell (j := 0) (v := .int .i64 (n : Int)) rfl
  have x1 := HZ.out.cell (j := 1) (v := .int .u64 (t0 : Nat)) rfl
  have x2 := HZ.out.cell (j := 2) (v := .int .u64 (t1 : Nat)) rfl
  have x3 := HZ.out.cell (j := 3) (v := .int .u64 (t2 : Nat)) rfl
  have x4 := HZ.out.cell (j := 4) (v := .int .u64 (t3 : Nat)) rfl
  go_wp2_with fail
  (try simp only [Exit.inBlock, Exit.then])
  refine bodyPost_ret (by simp [results, Tryz.results19, go_sem, x0, x1, x2, x3, x4]; try rfl) rfl ?_
  exact ⟨rfl, by rw [hp0]; exact HBZ.out⟩
end Go.Proofs.YtaadipccgckehaaGreatDoor
