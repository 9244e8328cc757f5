/- The contracts of Cmp and Near. -/
import Derived.Test.YtfhkgpipbegpgaaGreatDoorOps2
namespace Go.Proofs.YtfhkgpipbegpgaaGreatDoor
open Go Go.RowKit

theorem cmp_less {n d m k : Int} (h : rightB n d = true) (g : rightB m k = true) (hn : n < 0) (hm : 0 ≤ m) : cmpR (toR n d) (toR m k) = -1 := by
  have hd := right_pos h
  have hk := right_pos g
  have h1 : n * k < 0 := Int.mul_neg_of_neg_of_pos hn hk
  have h2 : 0 ≤ m * d := Int.mul_nonneg hm (by omega)
  rw [cmp_val h g, if_pos (by omega)]
theorem cmp_more {n d m k : Int} (h : rightB n d = true) (g : rightB m k = true) (hn : 0 ≤ n) (hm : m < 0) : cmpR (toR n d) (toR m k) = 1 := by
  have hd := right_pos h
  have hk := right_pos g
  have h1 : m * d < 0 := Int.mul_neg_of_neg_of_pos hm hd
  have h2 : 0 ≤ n * k := Int.mul_nonneg hn (by omega)
  rw [cmp_val h g, if_neg (by omega), if_neg (by omega)]
theorem cmp_up {n d m k : Int} (h : rightB n d = true) (g : rightB m k = true) (hn : 0 ≤ n) (hm : 0 ≤ m) : cmpR (toR n d) (toR m k) = cmpN (n.natAbs * k.natAbs) (m.natAbs * d.natAbs) := by
  have hd := right_pos h
  have hk := right_pos g
  have e1 : ((n.natAbs * k.natAbs : Nat) : Int) = n * k := by rw [Int.natCast_mul, Int.natAbs_of_nonneg hn, Int.natAbs_of_nonneg (by omega : 0 ≤ k)]
  have e2 : ((m.natAbs * d.natAbs : Nat) : Int) = m * d := by rw [Int.natCast_mul, Int.natAbs_of_nonneg hm, Int.natAbs_of_nonneg (by omega : 0 ≤ d)]
  rw [cmp_val h g, ← e1, ← e2]
  unfold cmpN
  generalize n.natAbs * k.natAbs = x
  generalize m.natAbs * d.natAbs = y
  repeat' split
  all_goals omega
theorem cmp_down {n d m k : Int} (h : rightB n d = true) (g : rightB m k = true) (hn : n < 0) (hm : m < 0) : cmpR (toR n d) (toR m k) = -cmpN (n.natAbs * k.natAbs) (m.natAbs * d.natAbs) := by
  have hd := right_pos h
  have hk := right_pos g
  have e1 : ((n.natAbs * k.natAbs : Nat) : Int) = -(n * k) := by rw [Int.natCast_mul, Int.ofNat_natAbs_of_nonpos (by omega : n ≤ 0), Int.natAbs_of_nonneg (by omega : 0 ≤ k), Int.neg_mul]
  have e2 : ((m.natAbs * d.natAbs : Nat) : Int) = -(m * d) := by rw [Int.natCast_mul, Int.ofNat_natAbs_of_nonpos (by omega : m ≤ 0), Int.natAbs_of_nonneg (by omega : 0 ≤ d), Int.neg_mul]
  rw [cmp_val h g]
  unfold cmpN
  generalize n.natAbs * k.natAbs = x at *
  generalize m.natAbs * d.natAbs = y at *
  generalize n * k = u at *
  generalize m * d = v at *
  repeat' split
  all_goals omega

/-- A number and the number of an error are returned; only new memory. -/
def RetP (q : Int × Int) (w : World) (e : Ending) (w' : World) : Prop := e = .returned (.tuple #[.int .i64 q.1, .int .i64 q.2]) ∧ Below w.heap.size w w'
theorem retP_mk {q : Int × Int} {a b : Int} {w w' : World} (h : q = (a, b)) (hb : Below w.heap.size w w') : RetP q w (.returned (.tuple #[.int .i64 a, .int .i64 b])) w' := by
  subst h; exact ⟨rfl, hb⟩
/-- The memory of a function of two fractions. -/
structure A2 (w W : World) (n d m k : Int) : Prop where
  below : Below w.heap.size w W
  bf : Blk W w.heap.size 23 #[.int .i64 n, .int .i64 d]
  bg : Blk W (w.heap.size + 1) 23 #[.int .i64 m, .int .i64 k]
theorem A2.keep {w W W' : World} {n d m k : Int} (h : A2 w W n d m k) (hb : Below W.heap.size W W') : A2 w W' n d m k :=
  ⟨bchain h.below hb, h.bf.keep hb h.bf.lt, h.bg.keep hb h.bg.lt⟩
theorem A2.start (w : World) (n d m k : Int) : A2 w ((w.alloc (.cells #[.int .i64 n, .int .i64 d] 23)).alloc (.cells #[.int .i64 m, .int .i64 k] 23)) n d m k := by
  refine ⟨((Below.refl _ _).alloc (Nat.le_refl _) _).alloc (by simp) _, (Blk.new w _ _).alloc _, ?_⟩
  have := Blk.new (w.alloc (.cells #[.int .i64 n, .int .i64 d] 23)) 23 #[.int .i64 m, .int .i64 k]
  simpa using this
set_option maxRecDepth 100000 in
set_option maxHeartbeats 1000000 in
theorem ocmp_bad1 (n d m k : Int) (hf : FB n d) (h : rightB n d = false) (w : World) :
    Calls Tryz.prog 22 #[.agg #[.int .i64 n, .int .i64 d], .agg #[.int .i64 m, .int .i64 k]] w (RetP (0, 2) w) := by
  have R1 := right_hid hf h
  clear h hf
  go_enter Tryz.func22, Tryz.ntmps22
  go_wp2_with fail
  have hA := A2.start w n d m k
  generalize (w.alloc (.cells #[.int .i64 n, .int .i64 d] 23)).alloc (.cells #[.int .i64 m, .int .i64 k] 23) = W1 at *
  refine (R1.out _).mono ?_
  rintro e w1 ⟨rfl, hb⟩
  have hA1 := hA.keep hb
  clear hb hA
  go_wp2
  go_ret2
  exact retP_mk rfl (hA1).below
set_option maxRecDepth 100000 in
set_option maxHeartbeats 1000000 in
theorem ocmp_bad2 (n d m k : Int) (hf : FB n d) (hg : FB m k) (h : rightB n d = true) (h' : rightB m k = false) (w : World) :
    Calls Tryz.prog 22 #[.agg #[.int .i64 n, .int .i64 d], .agg #[.int .i64 m, .int .i64 k]] w (RetP (0, 2) w) := by
  have R1 := right_hid hf h
  have R2 := right_hid hg h'
  clear h h' hf hg
  go_enter Tryz.func22, Tryz.ntmps22
  go_wp2_with fail
  have hA := A2.start w n d m k
  generalize (w.alloc (.cells #[.int .i64 n, .int .i64 d] 23)).alloc (.cells #[.int .i64 m, .int .i64 k] 23) = W1 at *
  refine (R1.out _).mono ?_
  rintro e w1 ⟨rfl, hb⟩
  have hA1 := hA.keep hb
  clear hb hA
  have x0 := hA1.bf.cell (j := 0) (v := .int .i64 n) rfl
  have x1 := hA1.bf.cell (j := 1) (v := .int .i64 d) rfl
  have y0 := hA1.bg.cell (j := 0) (v := .int .i64 m) rfl
  have y1 := hA1.bg.cell (j := 1) (v := .int .i64 k) rfl
  go_wp2_with fail
  clear x0 x1 y0 y1
  refine (R2.out _).mono ?_
  rintro e w2 ⟨rfl, hb⟩
  have hA2 := hA1.keep hb
  clear hb hA1
  go_wp2
  go_ret2
  exact retP_mk rfl (hA2).below
set_option maxRecDepth 100000 in
set_option maxHeartbeats 1000000 in
theorem ocmp_eq (n d : Int) (hf : FB n d) (h : rightB n d = true) (w : World) :
    Calls Tryz.prog 22 #[.agg #[.int .i64 n, .int .i64 d], .agg #[.int .i64 n, .int .i64 d]] w (RetP (0, 0) w) := by
  have R1 := right_hid hf h
  clear h hf
  go_enter Tryz.func22, Tryz.ntmps22
  go_wp2_with fail
  have hA := A2.start w n d n d
  generalize (w.alloc (.cells #[.int .i64 n, .int .i64 d] 23)).alloc (.cells #[.int .i64 n, .int .i64 d] 23) = W1 at *
  refine (R1.out _).mono ?_
  rintro e w1 ⟨rfl, hb⟩
  have hA1 := hA.keep hb
  clear hb hA
  have x0 := hA1.bf.cell (j := 0) (v := .int .i64 n) rfl
  have x1 := hA1.bf.cell (j := 1) (v := .int .i64 d) rfl
  have y0 := hA1.bg.cell (j := 0) (v := .int .i64 n) rfl
  have y1 := hA1.bg.cell (j := 1) (v := .int .i64 d) rfl
  go_wp2_with fail
  clear x0 x1 y0 y1
  refine (R1.out _).mono ?_
  rintro e w2 ⟨rfl, hb⟩
  have hA2 := hA1.keep hb
  clear hb hA1
  have x0 := hA2.bf.cell (j := 0) (v := .int .i64 n) rfl
  have x1 := hA2.bf.cell (j := 1) (v := .int .i64 d) rfl
  have y0 := hA2.bg.cell (j := 0) (v := .int .i64 n) rfl
  have y1 := hA2.bg.cell (j := 1) (v := .int .i64 d) rfl
  go_wp2
  go_ret2
  exact retP_mk rfl (hA2).below
set_option maxRecDepth 100000 in
set_option maxHeartbeats 1000000 in
theorem ocmp_less (n d m k : Int) (hf : FB n d) (hg : FB m k) (h : rightB n d = true) (h' : rightB m k = true) (hn : n < 0) (hm : 0 ≤ m) (w : World) :
    Calls Tryz.prog 22 #[.agg #[.int .i64 n, .int .i64 d], .agg #[.int .i64 m, .int .i64 k]] w (RetP (cmpR (toR n d) (toR m k), 0) w) := by
  have R1 := right_hid hf h
  have R2 := right_hid hg h'
  rw [cmp_less h h' hn hm]
  have e0 : (n == m) = false := by simp; omega
  have e1 : decide (n < 0) = true := by simp; omega
  have e2 : decide (m < 0) = false := by simp; omega
  clear h h' hf hg hn hm
  go_enter Tryz.func22, Tryz.ntmps22
  go_wp2_with fail
  have hA := A2.start w n d m k
  generalize (w.alloc (.cells #[.int .i64 n, .int .i64 d] 23)).alloc (.cells #[.int .i64 m, .int .i64 k] 23) = W1 at *
  refine (R1.out _).mono ?_
  rintro e w1 ⟨rfl, hb⟩
  have hA1 := hA.keep hb
  clear hb hA
  have x0 := hA1.bf.cell (j := 0) (v := .int .i64 n) rfl
  have x1 := hA1.bf.cell (j := 1) (v := .int .i64 d) rfl
  have y0 := hA1.bg.cell (j := 0) (v := .int .i64 m) rfl
  have y1 := hA1.bg.cell (j := 1) (v := .int .i64 k) rfl
  go_wp2_with fail
  clear x0 x1 y0 y1
  refine (R2.out _).mono ?_
  rintro e w2 ⟨rfl, hb⟩
  have hA2 := hA1.keep hb
  clear hb hA1
  have x0 := hA2.bf.cell (j := 0) (v := .int .i64 n) rfl
  have x1 := hA2.bf.cell (j := 1) (v := .int .i64 d) rfl
  have y0 := hA2.bg.cell (j := 0) (v := .int .i64 m) rfl
  have y1 := hA2.bg.cell (j := 1) (v := .int .i64 k) rfl
  go_wp2
  go_ret2
  exact retP_mk rfl (hA2).below
set_option maxRecDepth 100000 in
set_option maxHeartbeats 1000000 in
theorem ocmp_more (n d m k : Int) (hf : FB n d) (hg : FB m k) (h : rightB n d = true) (h' : rightB m k = true) (hn : 0 ≤ n) (hm : m < 0) (w : World) :
    Calls Tryz.prog 22 #[.agg #[.int .i64 n, .int .i64 d], .agg #[.int .i64 m, .int .i64 k]] w (RetP (cmpR (toR n d) (toR m k), 0) w) := by
  have R1 := right_hid hf h
  have R2 := right_hid hg h'
  rw [cmp_more h h' hn hm]
  have e0 : (n == m) = false := by simp; omega
  have e1 : decide (n < 0) = false := by simp; omega
  have e2 : decide (m < 0) = true := by simp; omega
  clear h h' hf hg hn hm
  go_enter Tryz.func22, Tryz.ntmps22
  go_wp2_with fail
  have hA := A2.start w n d m k
  generalize (w.alloc (.cells #[.int .i64 n, .int .i64 d] 23)).alloc (.cells #[.int .i64 m, .int .i64 k] 23) = W1 at *
  refine (R1.out _).mono ?_
  rintro e w1 ⟨rfl, hb⟩
  have hA1 := hA.keep hb
  clear hb hA
  have x0 := hA1.bf.cell (j := 0) (v := .int .i64 n) rfl
  have x1 := hA1.bf.cell (j := 1) (v := .int .i64 d) rfl
  have y0 := hA1.bg.cell (j := 0) (v := .int .i64 m) rfl
  have y1 := hA1.bg.cell (j := 1) (v := .int .i64 k) rfl
  go_wp2_with fail
  clear x0 x1 y0 y1
  refine (R2.out _).mono ?_
  rintro e w2 ⟨rfl, hb⟩
  have hA2 := hA1.keep hb
  clear hb hA1
  have x0 := hA2.bf.cell (j := 0) (v := .int .i64 n) rfl
  have x1 := hA2.bf.cell (j := 1) (v := .int .i64 d) rfl
  have y0 := hA2.bg.cell (j := 0) (v := .int .i64 m) rfl
  have y1 := hA2.bg.cell (j := 1) (v := .int .i64 k) rfl
  go_wp2
  go_ret2
  exact retP_mk rfl (hA2).below
set_option maxRecDepth 100000 in
set_option maxHeartbeats 1000000 in
theorem ocmp_up0 (n d m k : Int) (hf : FB n d) (hg : FB m k) (h : rightB n d = true) (h' : rightB m k = true) (hn : 0 ≤ n) (hm : 0 ≤ m) (he : n ≠ m) (w : World) :
    Calls Tryz.prog 22 #[.agg #[.int .i64 n, .int .i64 d], .agg #[.int .i64 m, .int .i64 k]] w (RetP (cmpR (toR n d) (toR m k), 0) w) := by
  have R1 := right_hid hf h
  have R2 := right_hid hg h'
  rw [cmp_up h h' hn hm]
  have e0 : (n == m) = false := by simpa using he
  have e1 : decide (n < 0) = false := by simp; omega
  have e2 : decide (m < 0) = false := by simp; omega
  have S1 := Lib.hid (fun w => size_any n hf.n0 hf.n1 w)
  have S2 := Lib.hid (fun w => size_any d hf.d0 hf.d1 w)
  have S3 := Lib.hid (fun w => size_any m hg.n0 hg.n1 w)
  have S4 := Lib.hid (fun w => size_any k hg.d0 hg.d1 w)
  have b1 : n.natAbs < 18446744073709551616 := by have := hf.n0; have := hf.n1; omega
  have b2 : d.natAbs < 18446744073709551616 := by have := hf.d0; have := hf.d1; omega
  have b3 : m.natAbs < 18446744073709551616 := by have := hg.n0; have := hg.n1; omega
  have b4 : k.natAbs < 18446744073709551616 := by have := hg.d0; have := hg.d1; omega
  obtain ⟨N, hN⟩ : ∃ N, n.natAbs = N := ⟨_, rfl⟩
  obtain ⟨D, hD⟩ : ∃ N, d.natAbs = N := ⟨_, rfl⟩
  obtain ⟨M, hM⟩ : ∃ N, m.natAbs = N := ⟨_, rfl⟩
  obtain ⟨K, hK⟩ : ∃ N, k.natAbs = N := ⟨_, rfl⟩
  rw [hN] at S1 b1
  rw [hD] at S2 b2
  rw [hM] at S3 b3
  rw [hK] at S4 b4
  rw [hN, hD, hM, hK]
  obtain ⟨a, ha⟩ : ∃ a, a = N * K := ⟨_, rfl⟩
  obtain ⟨b, hb⟩ : ∃ b, b = M * D := ⟨_, rfl⟩
  obtain ⟨ah, al, ea, la⟩ := split128 a
  obtain ⟨bh, bl, eb, lb⟩ := split128 b
  have P1 := product_hid N K a ah al b1 b4 ha ea la
  have P2 := product_hid M D b bh bl b3 b2 hb eb lb
  rw [← ha, ← hb]
  obtain ⟨c, hc⟩ : ∃ c, cmpN a b = c := ⟨_, rfl⟩
  have C1 : Hid (∀ w, Calls Tryz.prog 48 #[.agg #[.int .u64 (ah : Nat), .int .u64 (al : Nat)], .agg #[.int .u64 (bh : Nat), .int .u64 (bl : Nat)]] w fun e w' => e = .returned (.int .i64 c) ∧ Below w.heap.size w w') := Lib.hid fun w => by
    have := cmp_any ah al bh bl la lb w
    rw [← ea, ← eb, hc] at this
    exact this
  rw [hc]
  have lc : -1 ≤ c ∧ c ≤ 1 := by rw [← hc, cmpN]; repeat' split; all_goals omega
  have wc : IntKind.i64.wrap (-c) = -c := IntWalk.i64_in _ (by omega)
  clear hN hD hM hK ha hb ea eb hc h h' hf hg hn hm he b1 b2 b3 b4 la lb lc
  go_enter Tryz.func22, Tryz.ntmps22
  go_wp2_with fail
  have hA := A2.start w n d m k
  generalize (w.alloc (.cells #[.int .i64 n, .int .i64 d] 23)).alloc (.cells #[.int .i64 m, .int .i64 k] 23) = W1 at *
  refine (R1.out _).mono ?_
  rintro e w1 ⟨rfl, hb⟩
  have hA1 := hA.keep hb
  clear hb hA
  have x0 := hA1.bf.cell (j := 0) (v := .int .i64 n) rfl
  have x1 := hA1.bf.cell (j := 1) (v := .int .i64 d) rfl
  have y0 := hA1.bg.cell (j := 0) (v := .int .i64 m) rfl
  have y1 := hA1.bg.cell (j := 1) (v := .int .i64 k) rfl
  go_wp2_with fail
  clear x0 x1 y0 y1
  refine (R2.out _).mono ?_
  rintro e w2 ⟨rfl, hb⟩
  have hA2 := hA1.keep hb
  clear hb hA1
  have x0 := hA2.bf.cell (j := 0) (v := .int .i64 n) rfl
  have x1 := hA2.bf.cell (j := 1) (v := .int .i64 d) rfl
  have y0 := hA2.bg.cell (j := 0) (v := .int .i64 m) rfl
  have y1 := hA2.bg.cell (j := 1) (v := .int .i64 k) rfl
  go_upto_region 9 with fail
  have k0 := Since.cell x0
  have k1 := Since.cell x1
  have k2 := Since.cell y0
  have k3 := Since.cell y1
  clear x0 x1 y0 y1
  have HA2 := Lib.hid hA2
  clear hA2
  refine region_since (by kernel_rfl) (by kernel_rfl) ?_
  repeat (quiet_step ((first
    | (go_at_call 43; (first | (with_reducible exact Calls.since ((S1.out _).mono fun e w' ⟨he, hw⟩ => ⟨he, below_pure hw⟩)) | (with_reducible exact Calls.since ((S2.out _).mono fun e w' ⟨he, hw⟩ => ⟨he, below_pure hw⟩)) | (with_reducible exact Calls.since ((S3.out _).mono fun e w' ⟨he, hw⟩ => ⟨he, below_pure hw⟩)) | (with_reducible exact Calls.since ((S4.out _).mono fun e w' ⟨he, hw⟩ => ⟨he, below_pure hw⟩))))
    | (go_at_call 47; (first | (with_reducible exact Calls.since (P1.out _)) | (with_reducible exact Calls.since (P2.out _))))
    | (go_at_call 48; exact Calls.since (C1.out _)))))
  refine wpQuiet_nil ?_
  rintro w' ⟨u, rfl⟩
  clear k0 k1 k2 k3
  have hA3 := HA2.out.keep u.property
  clear HA2
  have x0 := hA3.bf.cell (j := 0) (v := .int .i64 n) rfl
  have x1 := hA3.bf.cell (j := 1) (v := .int .i64 d) rfl
  have y0 := hA3.bg.cell (j := 0) (v := .int .i64 m) rfl
  have y1 := hA3.bg.cell (j := 1) (v := .int .i64 k) rfl
  go_wp2
  go_ret2
  exact retP_mk rfl (hA3).below
set_option maxRecDepth 100000 in
set_option maxHeartbeats 1000000 in
theorem ocmp_up1 (n d m k : Int) (hf : FB n d) (hg : FB m k) (h : rightB n d = true) (h' : rightB m k = true) (hn : 0 ≤ n) (hm : 0 ≤ m) (he : d ≠ k) (w : World) :
    Calls Tryz.prog 22 #[.agg #[.int .i64 n, .int .i64 d], .agg #[.int .i64 m, .int .i64 k]] w (RetP (cmpR (toR n d) (toR m k), 0) w) := by
  have R1 := right_hid hf h
  have R2 := right_hid hg h'
  rw [cmp_up h h' hn hm]
  have e0 : (d == k) = false := by simpa using he
  have e1 : decide (n < 0) = false := by simp; omega
  have e2 : decide (m < 0) = false := by simp; omega
  have S1 := Lib.hid (fun w => size_any n hf.n0 hf.n1 w)
  have S2 := Lib.hid (fun w => size_any d hf.d0 hf.d1 w)
  have S3 := Lib.hid (fun w => size_any m hg.n0 hg.n1 w)
  have S4 := Lib.hid (fun w => size_any k hg.d0 hg.d1 w)
  have b1 : n.natAbs < 18446744073709551616 := by have := hf.n0; have := hf.n1; omega
  have b2 : d.natAbs < 18446744073709551616 := by have := hf.d0; have := hf.d1; omega
  have b3 : m.natAbs < 18446744073709551616 := by have := hg.n0; have := hg.n1; omega
  have b4 : k.natAbs < 18446744073709551616 := by have := hg.d0; have := hg.d1; omega
  obtain ⟨N, hN⟩ : ∃ N, n.natAbs = N := ⟨_, rfl⟩
  obtain ⟨D, hD⟩ : ∃ N, d.natAbs = N := ⟨_, rfl⟩
  obtain ⟨M, hM⟩ : ∃ N, m.natAbs = N := ⟨_, rfl⟩
  obtain ⟨K, hK⟩ : ∃ N, k.natAbs = N := ⟨_, rfl⟩
  rw [hN] at S1 b1
  rw [hD] at S2 b2
  rw [hM] at S3 b3
  rw [hK] at S4 b4
  rw [hN, hD, hM, hK]
  obtain ⟨a, ha⟩ : ∃ a, a = N * K := ⟨_, rfl⟩
  obtain ⟨b, hb⟩ : ∃ b, b = M * D := ⟨_, rfl⟩
  obtain ⟨ah, al, ea, la⟩ := split128 a
  obtain ⟨bh, bl, eb, lb⟩ := split128 b
  have P1 := product_hid N K a ah al b1 b4 ha ea la
  have P2 := product_hid M D b bh bl b3 b2 hb eb lb
  rw [← ha, ← hb]
  obtain ⟨c, hc⟩ : ∃ c, cmpN a b = c := ⟨_, rfl⟩
  have C1 : Hid (∀ w, Calls Tryz.prog 48 #[.agg #[.int .u64 (ah : Nat), .int .u64 (al : Nat)], .agg #[.int .u64 (bh : Nat), .int .u64 (bl : Nat)]] w fun e w' => e = .returned (.int .i64 c) ∧ Below w.heap.size w w') := Lib.hid fun w => by
    have := cmp_any ah al bh bl la lb w
    rw [← ea, ← eb, hc] at this
    exact this
  rw [hc]
  have lc : -1 ≤ c ∧ c ≤ 1 := by rw [← hc, cmpN]; repeat' split; all_goals omega
  have wc : IntKind.i64.wrap (-c) = -c := IntWalk.i64_in _ (by omega)
  clear hN hD hM hK ha hb ea eb hc h h' hf hg hn hm he b1 b2 b3 b4 la lb lc
  go_enter Tryz.func22, Tryz.ntmps22
  go_wp2_with fail
  have hA := A2.start w n d m k
  generalize (w.alloc (.cells #[.int .i64 n, .int .i64 d] 23)).alloc (.cells #[.int .i64 m, .int .i64 k] 23) = W1 at *
  refine (R1.out _).mono ?_
  rintro e w1 ⟨rfl, hb⟩
  have hA1 := hA.keep hb
  clear hb hA
  have x0 := hA1.bf.cell (j := 0) (v := .int .i64 n) rfl
  have x1 := hA1.bf.cell (j := 1) (v := .int .i64 d) rfl
  have y0 := hA1.bg.cell (j := 0) (v := .int .i64 m) rfl
  have y1 := hA1.bg.cell (j := 1) (v := .int .i64 k) rfl
  go_wp2_with fail
  clear x0 x1 y0 y1
  refine (R2.out _).mono ?_
  rintro e w2 ⟨rfl, hb⟩
  have hA2 := hA1.keep hb
  clear hb hA1
  have x0 := hA2.bf.cell (j := 0) (v := .int .i64 n) rfl
  have x1 := hA2.bf.cell (j := 1) (v := .int .i64 d) rfl
  have y0 := hA2.bg.cell (j := 0) (v := .int .i64 m) rfl
  have y1 := hA2.bg.cell (j := 1) (v := .int .i64 k) rfl
  go_upto_region 9 with fail
  have k0 := Since.cell x0
  have k1 := Since.cell x1
  have k2 := Since.cell y0
  have k3 := Since.cell y1
  clear x0 x1 y0 y1
  have HA2 := Lib.hid hA2
  clear hA2
  refine region_since (by kernel_rfl) (by kernel_rfl) ?_
  repeat (quiet_step ((first
    | (go_at_call 43; (first | (with_reducible exact Calls.since ((S1.out _).mono fun e w' ⟨he, hw⟩ => ⟨he, below_pure hw⟩)) | (with_reducible exact Calls.since ((S2.out _).mono fun e w' ⟨he, hw⟩ => ⟨he, below_pure hw⟩)) | (with_reducible exact Calls.since ((S3.out _).mono fun e w' ⟨he, hw⟩ => ⟨he, below_pure hw⟩)) | (with_reducible exact Calls.since ((S4.out _).mono fun e w' ⟨he, hw⟩ => ⟨he, below_pure hw⟩))))
    | (go_at_call 47; (first | (with_reducible exact Calls.since (P1.out _)) | (with_reducible exact Calls.since (P2.out _))))
    | (go_at_call 48; exact Calls.since (C1.out _)))))
  refine wpQuiet_nil ?_
  rintro w' ⟨u, rfl⟩
  clear k0 k1 k2 k3
  have hA3 := HA2.out.keep u.property
  clear HA2
  have x0 := hA3.bf.cell (j := 0) (v := .int .i64 n) rfl
  have x1 := hA3.bf.cell (j := 1) (v := .int .i64 d) rfl
  have y0 := hA3.bg.cell (j := 0) (v := .int .i64 m) rfl
  have y1 := hA3.bg.cell (j := 1) (v := .int .i64 k) rfl
  go_wp2
  go_ret2
  exact retP_mk rfl (hA3).below
set_option maxRecDepth 100000 in
set_option maxHeartbeats 1000000 in
theorem ocmp_down0 (n d m k : Int) (hf : FB n d) (hg : FB m k) (h : rightB n d = true) (h' : rightB m k = true) (hn : n < 0) (hm : m < 0) (he : n ≠ m) (w : World) :
    Calls Tryz.prog 22 #[.agg #[.int .i64 n, .int .i64 d], .agg #[.int .i64 m, .int .i64 k]] w (RetP (cmpR (toR n d) (toR m k), 0) w) := by
  have R1 := right_hid hf h
  have R2 := right_hid hg h'
  rw [cmp_down h h' hn hm]
  have e0 : (n == m) = false := by simpa using he
  have e1 : decide (n < 0) = true := by simp; omega
  have e2 : decide (m < 0) = true := by simp; omega
  have S1 := Lib.hid (fun w => size_any n hf.n0 hf.n1 w)
  have S2 := Lib.hid (fun w => size_any d hf.d0 hf.d1 w)
  have S3 := Lib.hid (fun w => size_any m hg.n0 hg.n1 w)
  have S4 := Lib.hid (fun w => size_any k hg.d0 hg.d1 w)
  have b1 : n.natAbs < 18446744073709551616 := by have := hf.n0; have := hf.n1; omega
  have b2 : d.natAbs < 18446744073709551616 := by have := hf.d0; have := hf.d1; omega
  have b3 : m.natAbs < 18446744073709551616 := by have := hg.n0; have := hg.n1; omega
  have b4 : k.natAbs < 18446744073709551616 := by have := hg.d0; have := hg.d1; omega
  obtain ⟨N, hN⟩ : ∃ N, n.natAbs = N := ⟨_, rfl⟩
  obtain ⟨D, hD⟩ : ∃ N, d.natAbs = N := ⟨_, rfl⟩
  obtain ⟨M, hM⟩ : ∃ N, m.natAbs = N := ⟨_, rfl⟩
  obtain ⟨K, hK⟩ : ∃ N, k.natAbs = N := ⟨_, rfl⟩
  rw [hN] at S1 b1
  rw [hD] at S2 b2
  rw [hM] at S3 b3
  rw [hK] at S4 b4
  rw [hN, hD, hM, hK]
  obtain ⟨a, ha⟩ : ∃ a, a = N * K := ⟨_, rfl⟩
  obtain ⟨b, hb⟩ : ∃ b, b = M * D := ⟨_, rfl⟩
  obtain ⟨ah, al, ea, la⟩ := split128 a
  obtain ⟨bh, bl, eb, lb⟩ := split128 b
  have P1 := product_hid N K a ah al b1 b4 ha ea la
  have P2 := product_hid M D b bh bl b3 b2 hb eb lb
  rw [← ha, ← hb]
  obtain ⟨c, hc⟩ : ∃ c, cmpN a b = c := ⟨_, rfl⟩
  have C1 : Hid (∀ w, Calls Tryz.prog 48 #[.agg #[.int .u64 (ah : Nat), .int .u64 (al : Nat)], .agg #[.int .u64 (bh : Nat), .int .u64 (bl : Nat)]] w fun e w' => e = .returned (.int .i64 c) ∧ Below w.heap.size w w') := Lib.hid fun w => by
    have := cmp_any ah al bh bl la lb w
    rw [← ea, ← eb, hc] at this
    exact this
  rw [hc]
  have lc : -1 ≤ c ∧ c ≤ 1 := by rw [← hc, cmpN]; repeat' split; all_goals omega
  have wc : IntKind.i64.wrap (-c) = -c := IntWalk.i64_in _ (by omega)
  clear hN hD hM hK ha hb ea eb hc h h' hf hg hn hm he b1 b2 b3 b4 la lb lc
  go_enter Tryz.func22, Tryz.ntmps22
  go_wp2_with fail
  have hA := A2.start w n d m k
  generalize (w.alloc (.cells #[.int .i64 n, .int .i64 d] 23)).alloc (.cells #[.int .i64 m, .int .i64 k] 23) = W1 at *
  refine (R1.out _).mono ?_
  rintro e w1 ⟨rfl, hb⟩
  have hA1 := hA.keep hb
  clear hb hA
  have x0 := hA1.bf.cell (j := 0) (v := .int .i64 n) rfl
  have x1 := hA1.bf.cell (j := 1) (v := .int .i64 d) rfl
  have y0 := hA1.bg.cell (j := 0) (v := .int .i64 m) rfl
  have y1 := hA1.bg.cell (j := 1) (v := .int .i64 k) rfl
  go_wp2_with fail
  clear x0 x1 y0 y1
  refine (R2.out _).mono ?_
  rintro e w2 ⟨rfl, hb⟩
  have hA2 := hA1.keep hb
  clear hb hA1
  have x0 := hA2.bf.cell (j := 0) (v := .int .i64 n) rfl
  have x1 := hA2.bf.cell (j := 1) (v := .int .i64 d) rfl
  have y0 := hA2.bg.cell (j := 0) (v := .int .i64 m) rfl
  have y1 := hA2.bg.cell (j := 1) (v := .int .i64 k) rfl
  go_upto_region 9 with fail
  have k0 := Since.cell x0
  have k1 := Since.cell x1
  have k2 := Since.cell y0
  have k3 := Since.cell y1
  clear x0 x1 y0 y1
  have HA2 := Lib.hid hA2
  clear hA2
  refine region_since (by kernel_rfl) (by kernel_rfl) ?_
  repeat (quiet_step ((first
    | (go_at_call 43; (first | (with_reducible exact Calls.since ((S1.out _).mono fun e w' ⟨he, hw⟩ => ⟨he, below_pure hw⟩)) | (with_reducible exact Calls.since ((S2.out _).mono fun e w' ⟨he, hw⟩ => ⟨he, below_pure hw⟩)) | (with_reducible exact Calls.since ((S3.out _).mono fun e w' ⟨he, hw⟩ => ⟨he, below_pure hw⟩)) | (with_reducible exact Calls.since ((S4.out _).mono fun e w' ⟨he, hw⟩ => ⟨he, below_pure hw⟩))))
    | (go_at_call 47; (first | (with_reducible exact Calls.since (P1.out _)) | (with_reducible exact Calls.since (P2.out _))))
    | (go_at_call 48; exact Calls.since (C1.out _)))))
  refine wpQuiet_nil ?_
  rintro w' ⟨u, rfl⟩
  clear k0 k1 k2 k3
  have hA3 := HA2.out.keep u.property
  clear HA2
  have x0 := hA3.bf.cell (j := 0) (v := .int .i64 n) rfl
  have x1 := hA3.bf.cell (j := 1) (v := .int .i64 d) rfl
  have y0 := hA3.bg.cell (j := 0) (v := .int .i64 m) rfl
  have y1 := hA3.bg.cell (j := 1) (v := .int .i64 k) rfl
  go_wp2
  go_ret2
  exact retP_mk rfl (hA3).below
set_option maxRecDepth 100000 in
set_option maxHeartbeats 1000000 in
theorem ocmp_down1 (n d m k : Int) (hf : FB n d) (hg : FB m k) (h : rightB n d = true) (h' : rightB m k = true) (hn : n < 0) (hm : m < 0) (he : d ≠ k) (w : World) :
    Calls Tryz.prog 22 #[.agg #[.int .i64 n, .int .i64 d], .agg #[.int .i64 m, .int .i64 k]] w (RetP (cmpR (toR n d) (toR m k), 0) w) := by
  have R1 := right_hid hf h
  have R2 := right_hid hg h'
  rw [cmp_down h h' hn hm]
  have e0 : (d == k) = false := by simpa using he
  have e1 : decide (n < 0) = true := by simp; omega
  have e2 : decide (m < 0) = true := by simp; omega
  have S1 := Lib.hid (fun w => size_any n hf.n0 hf.n1 w)
  have S2 := Lib.hid (fun w => size_any d hf.d0 hf.d1 w)
  have S3 := Lib.hid (fun w => size_any m hg.n0 hg.n1 w)
  have S4 := Lib.hid (fun w => size_any k hg.d0 hg.d1 w)
  have b1 : n.natAbs < 18446744073709551616 := by have := hf.n0; have := hf.n1; omega
  have b2 : d.natAbs < 18446744073709551616 := by have := hf.d0; have := hf.d1; omega
  have b3 : m.natAbs < 18446744073709551616 := by have := hg.n0; have := hg.n1; omega
  have b4 : k.natAbs < 18446744073709551616 := by have := hg.d0; have := hg.d1; omega
  obtain ⟨N, hN⟩ : ∃ N, n.natAbs = N := ⟨_, rfl⟩
  obtain ⟨D, hD⟩ : ∃ N, d.natAbs = N := ⟨_, rfl⟩
  obtain ⟨M, hM⟩ : ∃ N, m.natAbs = N := ⟨_, rfl⟩
  obtain ⟨K, hK⟩ : ∃ N, k.natAbs = N := ⟨_, rfl⟩
  rw [hN] at S1 b1
  rw [hD] at S2 b2
  rw [hM] at S3 b3
  rw [hK] at S4 b4
  rw [hN, hD, hM, hK]
  obtain ⟨a, ha⟩ : ∃ a, a = N * K := ⟨_, rfl⟩
  obtain ⟨b, hb⟩ : ∃ b, b = M * D := ⟨_, rfl⟩
  obtain ⟨ah, al, ea, la⟩ := split128 a
  obtain ⟨bh, bl, eb, lb⟩ := split128 b
  have P1 := product_hid N K a ah al b1 b4 ha ea la
  have P2 := product_hid M D b bh bl b3 b2 hb eb lb
  rw [← ha, ← hb]
  obtain ⟨c, hc⟩ : ∃ c, cmpN a b = c := ⟨_, rfl⟩
  have C1 : Hid (∀ w, Calls Tryz.prog 48 #[.agg #[.int .u64 (ah : Nat), .int .u64 (al : Nat)], .agg #[.int .u64 (bh : Nat), .int .u64 (bl : Nat)]] w fun e w' => e = .returned (.int .i64 c) ∧ Below w.heap.size w w') := Lib.hid fun w => by
    have := cmp_any ah al bh bl la lb w
    rw [← ea, ← eb, hc] at this
    exact this
  rw [hc]
  have lc : -1 ≤ c ∧ c ≤ 1 := by rw [← hc, cmpN]; repeat' split; all_goals omega
  have wc : IntKind.i64.wrap (-c) = -c := IntWalk.i64_in _ (by omega)
  clear hN hD hM hK ha hb ea eb hc h h' hf hg hn hm he b1 b2 b3 b4 la lb lc
  go_enter Tryz.func22, Tryz.ntmps22
  go_wp2_with fail
  have hA := A2.start w n d m k
  generalize (w.alloc (.cells #[.int .i64 n, .int .i64 d] 23)).alloc (.cells #[.int .i64 m, .int .i64 k] 23) = W1 at *
  refine (R1.out _).mono ?_
  rintro e w1 ⟨rfl, hb⟩
  have hA1 := hA.keep hb
  clear hb hA
  have x0 := hA1.bf.cell (j := 0) (v := .int .i64 n) rfl
  have x1 := hA1.bf.cell (j := 1) (v := .int .i64 d) rfl
  have y0 := hA1.bg.cell (j := 0) (v := .int .i64 m) rfl
  have y1 := hA1.bg.cell (j := 1) (v := .int .i64 k) rfl
  go_wp2_with fail
  clear x0 x1 y0 y1
  refine (R2.out _).mono ?_
  rintro e w2 ⟨rfl, hb⟩
  have hA2 := hA1.keep hb
  clear hb hA1
  have x0 := hA2.bf.cell (j := 0) (v := .int .i64 n) rfl
  have x1 := hA2.bf.cell (j := 1) (v := .int .i64 d) rfl
  have y0 := hA2.bg.cell (j := 0) (v := .int .i64 m) rfl
  have y1 := hA2.bg.cell (j := 1) (v := .int .i64 k) rfl
  go_upto_region 9 with fail
  have k0 := Since.cell x0
  have k1 := Since.cell x1
  have k2 := Since.cell y0
  have k3 := Since.cell y1
  clear x0 x1 y0 y1
  have HA2 := Lib.hid hA2
  clear hA2
  refine region_since (by kernel_rfl) (by kernel_rfl) ?_
  repeat (quiet_step ((first
    | (go_at_call 43; (first | (with_reducible exact Calls.since ((S1.out _).mono fun e w' ⟨he, hw⟩ => ⟨he, below_pure hw⟩)) | (with_reducible exact Calls.since ((S2.out _).mono fun e w' ⟨he, hw⟩ => ⟨he, below_pure hw⟩)) | (with_reducible exact Calls.since ((S3.out _).mono fun e w' ⟨he, hw⟩ => ⟨he, below_pure hw⟩)) | (with_reducible exact Calls.since ((S4.out _).mono fun e w' ⟨he, hw⟩ => ⟨he, below_pure hw⟩))))
    | (go_at_call 47; (first | (with_reducible exact Calls.since (P1.out _)) | (with_reducible exact Calls.since (P2.out _))))
    | (go_at_call 48; exact Calls.since (C1.out _)))))
  refine wpQuiet_nil ?_
  rintro w' ⟨u, rfl⟩
  clear k0 k1 k2 k3
  have hA3 := HA2.out.keep u.property
  clear HA2
  have x0 := hA3.bf.cell (j := 0) (v := .int .i64 n) rfl
  have x1 := hA3.bf.cell (j := 1) (v := .int .i64 d) rfl
  have y0 := hA3.bg.cell (j := 0) (v := .int .i64 m) rfl
  have y1 := hA3.bg.cell (j := 1) (v := .int .i64 k) rfl
  go_wp2
  go_ret2
  exact retP_mk rfl (hA3).below
theorem ocmp_ok (n d m k : Int) (hf : FB n d) (hg : FB m k) (h : rightB n d = true) (h' : rightB m k = true) (w : World) :
    Calls Tryz.prog 22 #[.agg #[.int .i64 n, .int .i64 d], .agg #[.int .i64 m, .int .i64 k]] w (RetP (cmpR (toR n d) (toR m k), 0) w) := by
  by_cases he : n = m
  · subst he
    by_cases hd : d = k
    · subst hd
      rw [cmp_self]
      exact ocmp_eq n d hf h w
    · rcases (by omega : n < 0 ∨ 0 ≤ n) with hn | hn
      · exact ocmp_down1 n d n k hf hg h h' hn hn hd w
      · exact ocmp_up1 n d n k hf hg h h' hn hn hd w
  · rcases (by omega : n < 0 ∨ 0 ≤ n) with hn | hn
    · rcases (by omega : m < 0 ∨ 0 ≤ m) with hm | hm
      · exact ocmp_down0 n d m k hf hg h h' hn hm he w
      · exact ocmp_less n d m k hf hg h h' hn hm w
    · rcases (by omega : m < 0 ∨ 0 ≤ m) with hm | hm
      · exact ocmp_more n d m k hf hg h h' hn hm w
      · exact ocmp_up0 n d m k hf hg h h' hn hm he w

theorem neg_back (q : Nat) (h : q ≤ 9223372036854775808) : IntKind.i64.wrap (IntKind.u64.wrap (-(q : Int))) = -(q : Int) := by
  rw [IntKind.wrap_u64, IntKind.wrap_i64]; omega
theorem neg_back1 (q : Nat) (h : q + 1 ≤ 9223372036854775808) : IntKind.i64.wrap (IntKind.u64.wrap (-((q : Int) + 1))) = -((q : Int) + 1) := by
  have := neg_back (q + 1) h
  rwa [show (((q + 1 : Nat)) : Int) = (q : Int) + 1 from rfl] at this
/-- The number next to a fraction: how far it is from 0. -/
def nearN (N D : Nat) : Nat := N / D + if D ≤ 2 * (N % D) then 1 else 0
def nearP (n d : Int) : Int := if n < 0 then -(nearN n.natAbs d.natAbs : Int) else nearN n.natAbs d.natAbs
theorem nearN_le (N D : Nat) (hD : 0 < D) : nearN N D ≤ N := by
  unfold nearN
  split
  · rcases Nat.lt_or_ge D 2 with h | h
    · obtain rfl : D = 1 := by omega
      rename_i hx
      rw [Nat.mod_one] at hx
      omega
    · have h1 : N / D ≤ N / 2 := Nat.div_le_div_left h (by omega)
      have h2 : 0 < N := by
        rcases Nat.eq_zero_or_pos N with h3 | h3
        · subst h3; rename_i hx; rw [Nat.zero_mod] at hx; omega
        · exact h3
      omega
  · have := Nat.div_le_self N D; omega
set_option maxRecDepth 100000 in
set_option maxHeartbeats 1000000 in
theorem onear_bad (n d : Int) (hf : FB n d) (h : rightB n d = false) (w : World) :
    Calls Tryz.prog 24 #[.agg #[.int .i64 n, .int .i64 d]] w (RetP (0, 2) w) := by
  have R1 := right_hid hf h
  clear h hf
  go_enter Tryz.func24, Tryz.ntmps24
  go_wp2_with fail
  have hB := below1 w (.cells #[.int .i64 n, .int .i64 d] 23)
  generalize w.alloc (.cells #[.int .i64 n, .int .i64 d] 23) = W1 at *
  refine (R1.out _).mono ?_
  rintro e w1 ⟨rfl, hb⟩
  have hB1 := bchain hB hb
  clear hb hB
  go_wp2
  go_ret2
  exact retP_mk rfl hB1
set_option maxRecDepth 100000 in
set_option maxHeartbeats 1000000 in
theorem onear_11 (n d : Int) (hf : FB n d) (h : rightB n d = true) (hn : n < 0) (htt : d.natAbs ≤ 2 * (n.natAbs % d.natAbs)) (w : World) :
    Calls Tryz.prog 24 #[.agg #[.int .i64 n, .int .i64 d]] w (RetP (nearP n d, 0) w) := by
  have R1 := right_hid hf h
  have S1 := Lib.hid (fun w => size_any n hf.n0 hf.n1 w)
  have S2 := Lib.hid (fun w => size_any d hf.d0 hf.d1 w)
  have pd := right_pos h
  have g0 := hf.n0
  have g1 := hf.n1
  have g3 := hf.d1
  obtain ⟨c, hc⟩ : ∃ c, nearP n d = c := ⟨_, rfl⟩
  have hcc := hc
  unfold nearP at hcc
  rw [hc]
  obtain ⟨N, hN⟩ : ∃ N, n.natAbs = N := ⟨_, rfl⟩
  obtain ⟨D, hD⟩ : ∃ N, d.natAbs = N := ⟨_, rfl⟩
  rw [hN] at S1 hcc
  rw [hD] at S2 hcc
  have hle := nearN_le N D (by omega)
  rw [hN, hD] at htt
  unfold nearN at hle hcc
  have hr : N % D < D := Nat.mod_lt _ (by omega)
  obtain ⟨q, hq⟩ : ∃ x, N / D = x := ⟨_, rfl⟩
  obtain ⟨r, hr'⟩ : ∃ x, N % D = x := ⟨_, rfl⟩
  have m1 : ((N : Int).tdiv (D : Int)) = (q : Int) := by rw [Int.tdiv_eq_ediv_of_nonneg (by omega), ← hq]; rfl
  have m2 : ((N : Int).tmod (D : Int)) = (r : Int) := by rw [Int.tmod_eq_emod_of_nonneg (by omega), ← hr']; rfl
  have hqle : q ≤ N := hq ▸ Nat.div_le_self _ _
  rw [hr'] at htt
  rw [hq, hr'] at hle hcc
  rw [hr'] at hr
  have w1 : IntKind.u64.wrap (q : Int) = (q : Int) := IntWalk.u64_in _ (by omega)
  have w2 : IntKind.u64.wrap (r : Int) = (r : Int) := IntWalk.u64_in _ (by omega)
  have w3 : IntKind.u64.wrap (2 * (r : Int)) = 2 * (r : Int) := IntWalk.u64_in _ (by omega)
  have z1 : ((D : Int) == 0) = false := by simp; omega
  have z3 : ¬ D = 0 := by omega
  have HC := Lib.hid hcc
  clear hc hcc hq hr' h hf pd
  · have t1 : decide ((D : Int) ≤ 2 * (r : Int)) = true := by simp; omega
    have t2 : decide (n < 0) = true := by simp; omega
    have w4 : IntKind.u64.wrap ((q : Int) + 1) = (q : Int) + 1 := IntWalk.u64_in _ (by rw [if_pos htt] at hle; omega)
    have HC2 : Hid (c = -((q : Int) + 1)) := Lib.hid (by rw [← HC.out, if_pos hn, if_pos htt]; simp)
    have w5 : IntKind.i64.wrap (IntKind.u64.wrap (-((q : Int) + 1))) = -((q : Int) + 1) := neg_back1 q (by rw [if_pos htt] at hle; omega)
    clear HC g0 g1 g3 hle hr hqle hN hD htt hn
    go_enter Tryz.func24, Tryz.ntmps24
    go_wp2_with fail
    have hB := below1 w (.cells #[.int .i64 n, .int .i64 d] 23)
    have hA := Blk.new w 23 #[.int .i64 n, .int .i64 d]
    generalize w.alloc (.cells #[.int .i64 n, .int .i64 d] 23) = W1 at *
    refine (R1.out _).mono ?_
    rintro e w9 ⟨rfl, hb⟩
    have hB1 := bchain hB hb
    have hA1 := hA.keep hb hA.lt
    clear hb hB hA
    have x0 := hA1.cell (j := 0) (v := .int .i64 n) rfl
    have x1 := hA1.cell (j := 1) (v := .int .i64 d) rfl
    go_wp2_with fail
    go_quiet ((go_at_call 43; (first | (with_reducible exact quiet_eq (S1.out _)) | (with_reducible exact quiet_eq (S2.out _)))))
    go_wp2_with fail
    go_quiet (fail)
    go_wp2
    go_ret2
    exact retP_mk (by rw [HC2.out]) (below_drewN hB1 _)
set_option maxRecDepth 100000 in
set_option maxHeartbeats 1000000 in
theorem onear_10 (n d : Int) (hf : FB n d) (h : rightB n d = true) (hn : ¬ n < 0) (htt : d.natAbs ≤ 2 * (n.natAbs % d.natAbs)) (w : World) :
    Calls Tryz.prog 24 #[.agg #[.int .i64 n, .int .i64 d]] w (RetP (nearP n d, 0) w) := by
  have R1 := right_hid hf h
  have S1 := Lib.hid (fun w => size_any n hf.n0 hf.n1 w)
  have S2 := Lib.hid (fun w => size_any d hf.d0 hf.d1 w)
  have pd := right_pos h
  have g0 := hf.n0
  have g1 := hf.n1
  have g3 := hf.d1
  obtain ⟨c, hc⟩ : ∃ c, nearP n d = c := ⟨_, rfl⟩
  have hcc := hc
  unfold nearP at hcc
  rw [hc]
  obtain ⟨N, hN⟩ : ∃ N, n.natAbs = N := ⟨_, rfl⟩
  obtain ⟨D, hD⟩ : ∃ N, d.natAbs = N := ⟨_, rfl⟩
  rw [hN] at S1 hcc
  rw [hD] at S2 hcc
  have hle := nearN_le N D (by omega)
  rw [hN, hD] at htt
  unfold nearN at hle hcc
  have hr : N % D < D := Nat.mod_lt _ (by omega)
  obtain ⟨q, hq⟩ : ∃ x, N / D = x := ⟨_, rfl⟩
  obtain ⟨r, hr'⟩ : ∃ x, N % D = x := ⟨_, rfl⟩
  have m1 : ((N : Int).tdiv (D : Int)) = (q : Int) := by rw [Int.tdiv_eq_ediv_of_nonneg (by omega), ← hq]; rfl
  have m2 : ((N : Int).tmod (D : Int)) = (r : Int) := by rw [Int.tmod_eq_emod_of_nonneg (by omega), ← hr']; rfl
  have hqle : q ≤ N := hq ▸ Nat.div_le_self _ _
  rw [hr'] at htt
  rw [hq, hr'] at hle hcc
  rw [hr'] at hr
  have w1 : IntKind.u64.wrap (q : Int) = (q : Int) := IntWalk.u64_in _ (by omega)
  have w2 : IntKind.u64.wrap (r : Int) = (r : Int) := IntWalk.u64_in _ (by omega)
  have w3 : IntKind.u64.wrap (2 * (r : Int)) = 2 * (r : Int) := IntWalk.u64_in _ (by omega)
  have z1 : ((D : Int) == 0) = false := by simp; omega
  have z3 : ¬ D = 0 := by omega
  have HC := Lib.hid hcc
  clear hc hcc hq hr' h hf pd
  · have t1 : decide ((D : Int) ≤ 2 * (r : Int)) = true := by simp; omega
    have t2 : decide (n < 0) = false := by simp; omega
    have w4 : IntKind.u64.wrap ((q : Int) + 1) = (q : Int) + 1 := IntWalk.u64_in _ (by rw [if_pos htt] at hle; omega)
    have HC2 : Hid (c = (q : Int) + 1) := Lib.hid (by rw [← HC.out, if_neg hn, if_pos htt]; simp)
    have w5 : IntKind.i64.wrap ((q : Int) + 1) = (q : Int) + 1 := IntWalk.i64_in _ (by rw [if_pos htt] at hle; omega)
    clear HC g0 g1 g3 hle hr hqle hN hD htt hn
    go_enter Tryz.func24, Tryz.ntmps24
    go_wp2_with fail
    have hB := below1 w (.cells #[.int .i64 n, .int .i64 d] 23)
    have hA := Blk.new w 23 #[.int .i64 n, .int .i64 d]
    generalize w.alloc (.cells #[.int .i64 n, .int .i64 d] 23) = W1 at *
    refine (R1.out _).mono ?_
    rintro e w9 ⟨rfl, hb⟩
    have hB1 := bchain hB hb
    have hA1 := hA.keep hb hA.lt
    clear hb hB hA
    have x0 := hA1.cell (j := 0) (v := .int .i64 n) rfl
    have x1 := hA1.cell (j := 1) (v := .int .i64 d) rfl
    go_wp2_with fail
    go_quiet ((go_at_call 43; (first | (with_reducible exact quiet_eq (S1.out _)) | (with_reducible exact quiet_eq (S2.out _)))))
    go_wp2_with fail
    go_quiet (fail)
    go_wp2
    go_ret2
    exact retP_mk (by rw [HC2.out]) (below_drewN hB1 _)
set_option maxRecDepth 100000 in
set_option maxHeartbeats 1000000 in
theorem onear_01 (n d : Int) (hf : FB n d) (h : rightB n d = true) (hn : n < 0) (htt : ¬ d.natAbs ≤ 2 * (n.natAbs % d.natAbs)) (w : World) :
    Calls Tryz.prog 24 #[.agg #[.int .i64 n, .int .i64 d]] w (RetP (nearP n d, 0) w) := by
  have R1 := right_hid hf h
  have S1 := Lib.hid (fun w => size_any n hf.n0 hf.n1 w)
  have S2 := Lib.hid (fun w => size_any d hf.d0 hf.d1 w)
  have pd := right_pos h
  have g0 := hf.n0
  have g1 := hf.n1
  have g3 := hf.d1
  obtain ⟨c, hc⟩ : ∃ c, nearP n d = c := ⟨_, rfl⟩
  have hcc := hc
  unfold nearP at hcc
  rw [hc]
  obtain ⟨N, hN⟩ : ∃ N, n.natAbs = N := ⟨_, rfl⟩
  obtain ⟨D, hD⟩ : ∃ N, d.natAbs = N := ⟨_, rfl⟩
  rw [hN] at S1 hcc
  rw [hD] at S2 hcc
  have hle := nearN_le N D (by omega)
  rw [hN, hD] at htt
  unfold nearN at hle hcc
  have hr : N % D < D := Nat.mod_lt _ (by omega)
  obtain ⟨q, hq⟩ : ∃ x, N / D = x := ⟨_, rfl⟩
  obtain ⟨r, hr'⟩ : ∃ x, N % D = x := ⟨_, rfl⟩
  have m1 : ((N : Int).tdiv (D : Int)) = (q : Int) := by rw [Int.tdiv_eq_ediv_of_nonneg (by omega), ← hq]; rfl
  have m2 : ((N : Int).tmod (D : Int)) = (r : Int) := by rw [Int.tmod_eq_emod_of_nonneg (by omega), ← hr']; rfl
  have hqle : q ≤ N := hq ▸ Nat.div_le_self _ _
  rw [hr'] at htt
  rw [hq, hr'] at hle hcc
  rw [hr'] at hr
  have w1 : IntKind.u64.wrap (q : Int) = (q : Int) := IntWalk.u64_in _ (by omega)
  have w2 : IntKind.u64.wrap (r : Int) = (r : Int) := IntWalk.u64_in _ (by omega)
  have w3 : IntKind.u64.wrap (2 * (r : Int)) = 2 * (r : Int) := IntWalk.u64_in _ (by omega)
  have z1 : ((D : Int) == 0) = false := by simp; omega
  have z3 : ¬ D = 0 := by omega
  have HC := Lib.hid hcc
  clear hc hcc hq hr' h hf pd
  · have t1 : decide ((D : Int) ≤ 2 * (r : Int)) = false := by simp; omega
    have t2 : decide (n < 0) = true := by simp; omega
    have HC2 : Hid (c = -((q : Int))) := Lib.hid (by rw [← HC.out, if_pos hn, if_neg htt]; simp)
    have w5 : IntKind.i64.wrap (IntKind.u64.wrap (-((q : Int)))) = -((q : Int)) := neg_back q (by omega)
    clear HC g0 g1 g3 hle hr hqle hN hD htt hn
    go_enter Tryz.func24, Tryz.ntmps24
    go_wp2_with fail
    have hB := below1 w (.cells #[.int .i64 n, .int .i64 d] 23)
    have hA := Blk.new w 23 #[.int .i64 n, .int .i64 d]
    generalize w.alloc (.cells #[.int .i64 n, .int .i64 d] 23) = W1 at *
    refine (R1.out _).mono ?_
    rintro e w9 ⟨rfl, hb⟩
    have hB1 := bchain hB hb
    have hA1 := hA.keep hb hA.lt
    clear hb hB hA
    have x0 := hA1.cell (j := 0) (v := .int .i64 n) rfl
    have x1 := hA1.cell (j := 1) (v := .int .i64 d) rfl
    go_wp2_with fail
    go_quiet ((go_at_call 43; (first | (with_reducible exact quiet_eq (S1.out _)) | (with_reducible exact quiet_eq (S2.out _)))))
    go_wp2_with fail
    go_quiet (fail)
    go_wp2
    go_ret2
    exact retP_mk (by rw [HC2.out]) (below_drewN hB1 _)
set_option maxRecDepth 100000 in
set_option maxHeartbeats 1000000 in
theorem onear_00 (n d : Int) (hf : FB n d) (h : rightB n d = true) (hn : ¬ n < 0) (htt : ¬ d.natAbs ≤ 2 * (n.natAbs % d.natAbs)) (w : World) :
    Calls Tryz.prog 24 #[.agg #[.int .i64 n, .int .i64 d]] w (RetP (nearP n d, 0) w) := by
  have R1 := right_hid hf h
  have S1 := Lib.hid (fun w => size_any n hf.n0 hf.n1 w)
  have S2 := Lib.hid (fun w => size_any d hf.d0 hf.d1 w)
  have pd := right_pos h
  have g0 := hf.n0
  have g1 := hf.n1
  have g3 := hf.d1
  obtain ⟨c, hc⟩ : ∃ c, nearP n d = c := ⟨_, rfl⟩
  have hcc := hc
  unfold nearP at hcc
  rw [hc]
  obtain ⟨N, hN⟩ : ∃ N, n.natAbs = N := ⟨_, rfl⟩
  obtain ⟨D, hD⟩ : ∃ N, d.natAbs = N := ⟨_, rfl⟩
  rw [hN] at S1 hcc
  rw [hD] at S2 hcc
  have hle := nearN_le N D (by omega)
  rw [hN, hD] at htt
  unfold nearN at hle hcc
  have hr : N % D < D := Nat.mod_lt _ (by omega)
  obtain ⟨q, hq⟩ : ∃ x, N / D = x := ⟨_, rfl⟩
  obtain ⟨r, hr'⟩ : ∃ x, N % D = x := ⟨_, rfl⟩
  have m1 : ((N : Int).tdiv (D : Int)) = (q : Int) := by rw [Int.tdiv_eq_ediv_of_nonneg (by omega), ← hq]; rfl
  have m2 : ((N : Int).tmod (D : Int)) = (r : Int) := by rw [Int.tmod_eq_emod_of_nonneg (by omega), ← hr']; rfl
  have hqle : q ≤ N := hq ▸ Nat.div_le_self _ _
  rw [hr'] at htt
  rw [hq, hr'] at hle hcc
  rw [hr'] at hr
  have w1 : IntKind.u64.wrap (q : Int) = (q : Int) := IntWalk.u64_in _ (by omega)
  have w2 : IntKind.u64.wrap (r : Int) = (r : Int) := IntWalk.u64_in _ (by omega)
  have w3 : IntKind.u64.wrap (2 * (r : Int)) = 2 * (r : Int) := IntWalk.u64_in _ (by omega)
  have z1 : ((D : Int) == 0) = false := by simp; omega
  have z3 : ¬ D = 0 := by omega
  have HC := Lib.hid hcc
  clear hc hcc hq hr' h hf pd
  · have t1 : decide ((D : Int) ≤ 2 * (r : Int)) = false := by simp; omega
    have t2 : decide (n < 0) = false := by simp; omega
    have HC2 : Hid (c = (q : Int)) := Lib.hid (by rw [← HC.out, if_neg hn, if_neg htt]; simp)
    have w5 : IntKind.i64.wrap ((q : Int)) = (q : Int) := IntWalk.i64_in _ (by omega)
    clear HC g0 g1 g3 hle hr hqle hN hD htt hn
    go_enter Tryz.func24, Tryz.ntmps24
    go_wp2_with fail
    have hB := below1 w (.cells #[.int .i64 n, .int .i64 d] 23)
    have hA := Blk.new w 23 #[.int .i64 n, .int .i64 d]
    generalize w.alloc (.cells #[.int .i64 n, .int .i64 d] 23) = W1 at *
    refine (R1.out _).mono ?_
    rintro e w9 ⟨rfl, hb⟩
    have hB1 := bchain hB hb
    have hA1 := hA.keep hb hA.lt
    clear hb hB hA
    have x0 := hA1.cell (j := 0) (v := .int .i64 n) rfl
    have x1 := hA1.cell (j := 1) (v := .int .i64 d) rfl
    go_wp2_with fail
    go_quiet ((go_at_call 43; (first | (with_reducible exact quiet_eq (S1.out _)) | (with_reducible exact quiet_eq (S2.out _)))))
    go_wp2_with fail
    go_quiet (fail)
    go_wp2
    go_ret2
    exact retP_mk (by rw [HC2.out]) (below_drewN hB1 _)
theorem onear_ok (n d : Int) (hf : FB n d) (h : rightB n d = true) (w : World) :
    Calls Tryz.prog 24 #[.agg #[.int .i64 n, .int .i64 d]] w (RetP (nearP n d, 0) w) := by
  by_cases ht : d.natAbs ≤ 2 * (n.natAbs % d.natAbs)
  · by_cases hn : n < 0
    · exact onear_11 n d hf h hn ht w
    · exact onear_10 n d hf h hn ht w
  · by_cases hn : n < 0
    · exact onear_01 n d hf h hn ht w
    · exact onear_00 n d hf h hn ht w
end Go.Proofs.YtfhkgpipbegpgaaGreatDoor
