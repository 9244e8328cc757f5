/- The contracts of Div by zero, Neg, Make, Cmp and Near. -/
import Derived.Test.YtfhkgpipbegpgaaGreatDoorOps
namespace Go.Proofs.YtfhkgpipbegpgaaGreatDoor
open Go Go.RowKit
set_option maxRecDepth 100000 in
set_option maxHeartbeats 1000000 in
theorem odiv_zero (n d : Int) (hf : FB n d) (h : rightB n d = true) (w : World) :
    Calls Tryz.prog 15 #[.agg #[.int .i64 n, .int .i64 d], .agg #[.int .i64 0, .int .i64 1]] w (RetF (0, 0, 2) w) := by
  have R1 := right_hid hf h
  have R2 := right_hid (⟨by decide, by decide, by decide, by decide⟩ : FB 0 1) (by decide : rightB 0 1 = true)
  clear h hf
  go_enter Tryz.func15, Tryz.ntmps15
  go_wp2_with fail
  have hA := (AM.start w n d 0 1).keep (below1 _ (.cells #[.int .i64 0, .int .i64 1] 23))
  have hZ : Blk ((((w.alloc (.cells #[.int .i64 n, .int .i64 d] 23)).alloc (.cells #[.int .i64 0, .int .i64 1] 23)).alloc (.cells #[.int .i64 0, .int .i64 0] 23)).alloc (.cells #[.int .i64 0, .int .i64 1] 23)) (w.heap.size + 1 + 1 + 1) 23 #[.int .i64 0, .int .i64 1] := by
    have := Blk.new (((w.alloc (.cells #[.int .i64 n, .int .i64 d] 23)).alloc (.cells #[.int .i64 0, .int .i64 1] 23)).alloc (.cells #[.int .i64 0, .int .i64 0] 23)) 23 #[.int .i64 0, .int .i64 1]
    simpa using this
  generalize (((w.alloc (.cells #[.int .i64 n, .int .i64 d] 23)).alloc (.cells #[.int .i64 0, .int .i64 1] 23)).alloc (.cells #[.int .i64 0, .int .i64 0] 23)).alloc (.cells #[.int .i64 0, .int .i64 1] 23) = W1 at *
  refine (R1.out _).mono ?_
  rintro e w1 ⟨rfl, hb⟩
  have hA1 := hA.keep hb
  have hZ1 := hZ.keep hb hZ.lt
  clear hb hA hZ
  have x0 := hA1.bf.cell (j := 0) (v := .int .i64 n) rfl
  have x1 := hA1.bf.cell (j := 1) (v := .int .i64 d) rfl
  have y0 := hA1.bg.cell (j := 0) (v := .int .i64 0) rfl
  have y1 := hA1.bg.cell (j := 1) (v := .int .i64 1) rfl
  go_wp2_with fail
  clear x0 x1 y0 y1
  refine (R2.out _).mono ?_
  rintro e w2 ⟨rfl, hb⟩
  have hA2 := hA1.keep hb
  have hZ2 := hZ1.keep hb hZ1.lt
  clear hb hA1 hZ1
  have x0 := hA2.bf.cell (j := 0) (v := .int .i64 n) rfl
  have x1 := hA2.bf.cell (j := 1) (v := .int .i64 d) rfl
  have y0 := hA2.bg.cell (j := 0) (v := .int .i64 0) rfl
  have y1 := hA2.bg.cell (j := 1) (v := .int .i64 1) rfl
  have z0 := hZ2.cell (j := 0) (v := .int .i64 0) rfl
  have z1 := hZ2.cell (j := 1) (v := .int .i64 1) rfl
  have r0 := hA2.br.cell (j := 0) (v := .int .i64 0) rfl
  have r1 := hA2.br.cell (j := 1) (v := .int .i64 0) rfl
  have f0 := hA2.br.free 0
  have f1 := hA2.br.free 1
  have hB := hA2.below
  clear hA2 hZ2
  go_wp2
  refine bodyPost_ret (v := .tuple #[.agg #[.int .i64 0, .int .i64 0], .int .i64 2]) (by simp [results, Tryz.results15, go_sem, r0, r1]) rfl ?_
  exact retF_mk rfl ((hB.setCell (by simp; omega) _).setCell (by simp; omega) _)
/-- The memory of a function of one fraction, with a result that is one. -/
structure A1 (w W : World) (n d : Int) : Prop where
  below : Below w.heap.size w W
  bf : Blk W w.heap.size 23 #[.int .i64 n, .int .i64 d]
  br : Blk W (w.heap.size + 1) 23 #[.int .i64 0, .int .i64 0]
theorem A1.keep {w W W' : World} {n d : Int} (h : A1 w W n d) (hb : Below W.heap.size W W') : A1 w W' n d :=
  ⟨bchain h.below hb, h.bf.keep hb h.bf.lt, h.br.keep hb h.br.lt⟩
theorem A1.start (w : World) (n d : Int) : A1 w ((w.alloc (.cells #[.int .i64 n, .int .i64 d] 23)).alloc (.cells #[.int .i64 0, .int .i64 0] 23)) n d := by
  refine ⟨((Below.refl _ _).alloc (Nat.le_refl _) _).alloc (by simp) _, (Blk.new w _ _).alloc _, ?_⟩
  have := Blk.new (w.alloc (.cells #[.int .i64 n, .int .i64 d] 23)) 23 #[.int .i64 0, .int .i64 0]
  simpa using this
set_option maxRecDepth 100000 in
set_option maxHeartbeats 1000000 in
theorem oneg_bad (n d : Int) (hf : FB n d) (h : rightB n d = false) (w : World) :
    Calls Tryz.prog 16 #[.agg #[.int .i64 n, .int .i64 d]] w (RetF (0, 0, 2) w) := by
  have R1 := right_hid hf h
  clear h hf
  go_enter Tryz.func16, Tryz.ntmps16
  go_wp2_with fail
  have hA := A1.start w n d
  generalize (w.alloc (.cells #[.int .i64 n, .int .i64 d] 23)).alloc (.cells #[.int .i64 0, .int .i64 0] 23) = W1 at *
  refine (R1.out _).mono ?_
  rintro e w1 ⟨rfl, hb⟩
  have hA1 := hA.keep hb
  clear hb hA
  have r0 := hA1.br.cell (j := 0) (v := .int .i64 0) rfl
  have r1 := hA1.br.cell (j := 1) (v := .int .i64 0) rfl
  have f0 := hA1.br.free 0
  have f1 := hA1.br.free 1
  have hB := hA1.below
  clear hA1
  go_wp2
  refine bodyPost_ret (v := .tuple #[.agg #[.int .i64 0, .int .i64 0], .int .i64 2]) (by simp [results, Tryz.results16, go_sem, r0, r1]) rfl ?_
  exact retF_mk rfl ((hB.setCell (by simp) _).setCell (by simp) _)
set_option maxRecDepth 100000 in
set_option maxHeartbeats 1000000 in
theorem oneg_ok (n d : Int) (hf : FB n d) (h : rightB n d = true) (w : World) :
    Calls Tryz.prog 16 #[.agg #[.int .i64 n, .int .i64 d]] w (RetF (outF (-toR n d)) w) := by
  have R1 := right_hid hf h
  have pd := right_pos h
  obtain ⟨⟨qa, qb, qc⟩, hq⟩ : ∃ q, outF (-toR n d) = q := ⟨_, rfl⟩
  have S1 := Lib.hid (fun w => size_any n hf.n0 hf.n1 w)
  have S2 := Lib.hid (fun w => size_any d hf.d0 hf.d1 w)
  obtain ⟨s, hs⟩ : ∃ t, decide (0 < n) = t := ⟨_, rfl⟩
  have PK := pack_hid s n.natAbs d.natAbs 0 n.natAbs 0 d.natAbs (by omega) (by omega) (by have := hf.n0; have := hf.n1; omega) qa qb qc (by rw [← hs, neg_val h, hq])
  obtain ⟨N, hN⟩ : ∃ N, n.natAbs = N := ⟨_, rfl⟩
  obtain ⟨D, hD⟩ : ∃ N, d.natAbs = N := ⟨_, rfl⟩
  rw [hN] at S1 PK
  rw [hD] at S2 PK
  clear hN hD
  have HQ := Lib.hid hq
  clear hq h hf pd
  go_enter Tryz.func16, Tryz.ntmps16
  go_wp2_with fail
  have hA := A1.start w n d
  generalize (w.alloc (.cells #[.int .i64 n, .int .i64 d] 23)).alloc (.cells #[.int .i64 0, .int .i64 0] 23) = W1 at *
  refine (R1.out _).mono ?_
  rintro e w1 ⟨rfl, hb⟩
  have hA1 := hA.keep hb
  clear hb hA
  have x0 := hA1.bf.cell (j := 0) (v := .int .i64 n) rfl
  have x1 := hA1.bf.cell (j := 1) (v := .int .i64 d) rfl
  go_upto_region 3 with fail
  have k0 := Since.cell x0
  have k1 := Since.cell x1
  clear x0 x1
  have HA2 := Lib.hid hA1
  clear hA1
  refine region_since_tail 14 (by kernel_rfl) (by kernel_rfl) ?_
  repeat (quiet_step ((first
    | (go_at_call 43; (first | (with_reducible exact Calls.since ((S1.out _).mono fun e w' ⟨he, hw⟩ => ⟨he, below_pure hw⟩)) | (with_reducible exact Calls.since ((S2.out _).mono fun e w' ⟨he, hw⟩ => ⟨he, below_pure hw⟩))))
    | (go_at_call 44; exact Calls.since (PK.out _)))))
  refine wpQuiet_nil ?_
  rintro w' ⟨u, rfl⟩
  clear k0 k1
  have hA3 := HA2.out.keep u.property
  clear HA2
  have r0 := hA3.br.cell (j := 0) (v := .int .i64 0) rfl
  have r1 := hA3.br.cell (j := 1) (v := .int .i64 0) rfl
  have f0 := hA3.br.free 0
  have f1 := hA3.br.free 1
  have hB := hA3.below
  clear hA3
  go_wp2
  refine bodyPost_ret (v := .tuple #[.agg #[.int .i64 qa, .int .i64 qb], .int .i64 qc]) (by simp [results, Tryz.results16, go_sem, r0, r1]) rfl ?_
  exact retF_mk HQ.out ((hB.setCell (by simp) _).setCell (by simp) _)
set_option maxRecDepth 100000 in
set_option maxHeartbeats 1000000 in
theorem make_any (a b : Int) (hf : FB a b) (w : World) :
    Calls Tryz.prog 32 #[.int .i64 a, .int .i64 b] w (RetF (makeP a b) w) := by
  by_cases hb0 : b = 0
  · subst hb0
    have HQ : Hid (makeP a 0 = (0, 0, 2)) := Lib.hid rfl
    clear hf
    go_enter Tryz.func32, Tryz.ntmps32
    go_wp2
    simp [bodyPost, results, Tryz.results32, go_sem]
    exact retF_mk HQ.out ((Below.refl _ _).alloc (Nat.le_refl _) _)
  · have e0 : (b == 0) = false := by simpa using hb0
    obtain ⟨⟨qa, qb, qc⟩, hq⟩ : ∃ q, makeP a b = q := ⟨_, rfl⟩
    have HQ := Lib.hid hq
    have S1 := Lib.hid (fun w => size_any a hf.n0 hf.n1 w)
    have S2 := Lib.hid (fun w => size_any b hf.d0 hf.d1 w)
    have b1 := hf.n0
    have b2 := hf.n1
    have b3 := hf.d0
    have b4 := hf.d1
    obtain ⟨s, hs⟩ : ∃ t, decide (a < 0) = t := ⟨_, rfl⟩
    obtain ⟨t, ht⟩ : ∃ t, decide (b < 0) = t := ⟨_, rfl⟩
    obtain ⟨x, hx⟩ : ∃ x, (!(s == t)) = x := ⟨_, rfl⟩
    obtain ⟨N, hN⟩ : ∃ N, a.natAbs = N := ⟨_, rfl⟩
    obtain ⟨D, hD⟩ : ∃ N, b.natAbs = N := ⟨_, rfl⟩
    obtain ⟨g, hg⟩ : ∃ g, Nat.gcd N D = g := ⟨_, rfl⟩
    have pg : 0 < g := hg ▸ Nat.gcd_pos_of_pos_right _ (by omega)
    have G1 : Hid (∀ w, Calls Tryz.prog 59 #[.int .u64 (N : Nat), .int .u64 (D : Nat)] w fun e w' => e = .returned (.int .u64 (g : Nat)) ∧ ∃ n, w' = w.drewN n) := Lib.hid fun w => hg ▸ gcd_any N D (by omega) (by omega) w
    obtain ⟨N', hN'⟩ : ∃ x, N / g = x := ⟨_, rfl⟩
    obtain ⟨D', hD'⟩ : ∃ x, D / g = x := ⟨_, rfl⟩
    have l1 : N' ≤ N := hN' ▸ Nat.div_le_self _ _
    have l2 : D' ≤ D := hD' ▸ Nat.div_le_self _ _
    have PK := pack_hid x N' D' 0 N' 0 D' (by omega) (by omega) (by omega) qa qb qc (by
      rw [← hq, makeP, if_neg hb0, hs, ht, show (s != t) = x from hx, hN, hD, hg, hN', hD'])
    have m1 : ((N : Int).tdiv (g : Int)) = (N' : Int) := by rw [Int.tdiv_eq_ediv_of_nonneg (by omega), ← hN']; rfl
    have m2 : ((D : Int).tdiv (g : Int)) = (D' : Int) := by rw [Int.tdiv_eq_ediv_of_nonneg (by omega), ← hD']; rfl
    have w1 : IntKind.u64.wrap (N' : Int) = (N' : Int) := IntWalk.u64_in _ (by omega)
    have w2 : IntKind.u64.wrap (D' : Int) = (D' : Int) := IntWalk.u64_in _ (by omega)
    have z1 : ((g : Int) == 0) = false := by simp; omega
    have z3 : ¬ g = 0 := by omega
    rw [hN] at S1
    rw [hD] at S2
    rw [HQ.out]
    clear hN hD hg hN' hD' l1 l2 hq hf b1 b2 b3 b4 pg hb0
    go_enter Tryz.func32, Tryz.ntmps32
    go_wp2_with fail
    refine (S1.out _).mono ?_
    rintro e w1 ⟨rfl, rfl⟩
    go_wp2_with fail
    refine (S2.out _).mono ?_
    rintro e w1 ⟨rfl, rfl⟩
    go_wp2_with fail
    refine (G1.out _).mono ?_
    rintro e w1 ⟨rfl, n1, rfl⟩
    go_upto_region 5 with fail
    refine region_since_tail 16 (by kernel_rfl) (by kernel_rfl) ?_
    repeat (quiet_step ((go_at_call 44; exact Calls.since (PK.out _))))
    refine wpQuiet_nil ?_
    rintro w' ⟨u, rfl⟩
    have hb := u.property
    have y0 := hb.cell (p := ⟨w.heap.size, 0, none⟩) (by simp)
    have y1 := hb.cell (p := ⟨w.heap.size, 1, none⟩) (by simp)
    have x0 := hb.frozen (p := ⟨w.heap.size, 0, none⟩) (by simp)
    have x1 := hb.frozen (p := ⟨w.heap.size, 1, none⟩) (by simp)
    simp at y0 y1 x0 x1
    have hB : Below w.heap.size w u.val := (below_drewN ((Below.refl _ _).alloc (Nat.le_refl _) _) _).trans (hb.mono (by simp))
    clear hb
    go_wp2
    refine bodyPost_ret (v := .tuple #[.agg #[.int .i64 qa, .int .i64 qb], .int .i64 qc]) (by simp [results, Tryz.results32, go_sem, y0, y1]) rfl ?_
    exact retF_mk rfl ((hB.setCell (by simp) _).setCell (by simp) _)
end Go.Proofs.YtfhkgpipbegpgaaGreatDoor
