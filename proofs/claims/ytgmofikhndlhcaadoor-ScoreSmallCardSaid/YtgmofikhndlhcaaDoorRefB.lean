/- Contracts of the reference's contract and made. -/
import Derived.Test.YtgmofikhndlhcaaDoorRefA
import Derived.Test.YtgmofikhndlhcaaDoorMade
import Derived.Test.YtgmofikhndlhcaaDoorBlk
import Derived.Deep.DeepCutAuto
namespace Go.Proofs.YtgmofikhndlhcaaDoor
open Go.RowKit

/-- A block of the call's own, known whole. -/
structure Own (w0 w : World) (b : Nat) (t : TypeId) (c : Array Value) : Prop where
  below : Below w0.heap.size w0 w
  blk : Blk w b t c
theorem Own.keep {w0 w w' : World} {b : Nat} {t : TypeId} {c : Array Value} (h : Own w0 w b t c) (hb : Below w.heap.size w w') : Own w0 w' b t c := ⟨bchain h.below hb, h.blk.keep hb h.blk.lt⟩
theorem Own.start (w : World) (t : TypeId) (c : Array Value) : Own w (w.alloc (.cells c t)) w.heap.size t c := ⟨(Below.refl _ _).alloc (Nat.le_refl _) _, Blk.new _ _ _⟩
theorem own_of {f : FuncId} {args : Array Value} {v : Value} {w0 w : World} {b : Nat} {t : TypeId} {c : Array Value} (h : Calls Tryd.prog f args w (fun e w' => e = .returned v ∧ Below w.heap.size w w')) (hi : Own w0 w b t c) :
    Calls Tryd.prog f args w (fun e w' => e = .returned v ∧ Own w0 w' b t c) := h.mono fun _ _ ⟨he, hb⟩ => ⟨he, hi.keep hb⟩
theorem rvalue_q (d : Nat) (w : World) : Calls Tryd.prog 59 #[.int .u8 d] w fun e w' => e = .returned (.int .i64 (val d : Nat)) ∧ w' = w := (rvalue_any d w).mono fun _ _ ⟨a, b⟩ => ⟨a, b.symm⟩
def pw (b j : Nat) : Nat := b * 2 ^ j
theorem pw_0 (b : Nat) : pw b 0 = b := by simp [pw]
theorem pw_s (b j : Nat) : pw b (j + 1) = pw b j + pw b j := by unfold pw; rw [Nat.pow_succ, ← Nat.mul_assoc]; omega
theorem pw_le (b j : Nat) (hb : b ≤ 300) (hj : j ≤ 2) : pw b j ≤ 1200 := by
  unfold pw
  rcases (by omega : j = 0 ∨ j = 1 ∨ j = 2) with rfl | rfl | rfl <;> simp <;> omega
theorem pw_fac (b r : Nat) (hr : r ≤ 2) : pw b r = b * fac r := by
  rcases (by omega : r = 0 ∨ r = 1 ∨ r = 2) with rfl | rfl | rfl <;> rfl
attribute [irreducible] pw
def tens (d : Nat) : Nat := if d = 4 then 10 else 0
set_option maxRecDepth 100000 in
set_option maxHeartbeats 4000000 in
theorem rcontract_any (l d r s : Nat) (w : World) (hl : l ≤ 7) (hd : d ≤ 4) (hr : r ≤ 2) :
    Calls Tryd.prog 58 #[.agg #[.int .u8 (l : Nat), .int .u8 (d : Nat), .int .u8 (r : Nat), .int .u8 (s : Nat)]] w fun e w' => e = .returned (.int .i64 (base l d r : Nat)) ∧ Below w.heap.size w w' := by
  have hB : Hid (base l d r = pw (l * val d + tens d) r) := Lib.hid (by rw [pw_fac _ _ hr]; rfl)
  have m0 := mul_w l (val d) 7 30 hl (val_le d) (by decide)
  have hlv : l * val d ≤ 210 := Nat.mul_le_mul hl (val_le d)
  generalize l * val d = p at *
  have hv := val_le d
  have T0 : Hid (d = 4 → tens d = 10) := Lib.hid (fun h => if_pos h)
  have T1 : Hid (d ≠ 4 → tens d = 0) := Lib.hid (fun h => if_neg h)
  go_enter Tryd.func58, Tryd.ntmps58
  go_wp2_with fail
  have H1 := Lib.hid (Own.start w 23 #[.int .u8 (l : Nat), .int .u8 (d : Nat), .int .u8 (r : Nat), .int .u8 (s : Nat)])
  generalize w.alloc (.cells #[.int .u8 (l : Nat), .int .u8 (d : Nat), .int .u8 (r : Nat), .int .u8 (s : Nat)] 23) = W1 at *
  generalize w.heap.size = b0 at *
  have x0 := H1.out.blk.cell (j := 0) (v := .int .u8 (l : Nat)) rfl
  have x1 := H1.out.blk.cell (j := 1) (v := .int .u8 (d : Nat)) rfl
  go_quiet ((go_at_call 59; exact Calls.quiet_of_same (rvalue_q d _)))
  obtain ⟨W2, hW2⟩ : ∃ W2 : World, W2 = W1.drewN nq := ⟨_, rfl⟩
  rw [← hW2]
  have h2 : Own w W2 b0 23 #[.int .u8 (l : Nat), .int .u8 (d : Nat), .int .u8 (r : Nat), .int .u8 (s : Nat)] := by rw [hW2]; exact H1.out.keep (below_drewN (Below.refl _ _) _)
  clear hW2 x0 x1 H1 m0 hv
  have H2 := Lib.hid h2
  clear h2
  have x1 := H2.out.blk.cell (j := 1) (v := .int .u8 (d : Nat)) rfl
  go_upto_if 14 with fail
  go_cut [3] (fun s3 wx => s3 = .int .i64 ((p + tens d : Nat) : Int) ∧ wx = W2)
  case first =>
    go_wp2_with fail
    · go_meet
      have h4 : d = 4 := by grind
      exact ⟨by rw [T0.out h4]; rfl, rfl⟩
    · go_meet
      have h4 : d ≠ 4 := by grind
      exact ⟨by rw [T1.out h4]; rfl, rfl⟩
  case rest =>
  obtain ⟨rfl, rfl⟩ := hcut
  have ht : p + tens d ≤ 300 := by
    rcases (by omega : d = 4 ∨ d ≠ 4) with h | h
    · rw [T0.out h]; omega
    · rw [T1.out h]; omega
  clear x1 T0 T1
  generalize p + tens d = q at *
  have x2 := H2.out.blk.cell (j := 2) (v := .int .u8 (r : Nat)) rfl
  have P0 := Lib.hid (pw_0 q)
  go_wp2_with fail
  go_loop [3, 4] (fun v3 v4 => ∃ j : Nat, j ≤ r ∧ v3 = .int .i64 (pw q j : Nat) ∧ v4 = .int .u8 (j : Nat)) (fun _ v4 => r - (intOf v4).toNat)
  case atStart => exact ⟨0, by omega, by rw [P0.out], rfl⟩
  case round =>
    obtain ⟨j, hj, rfl, rfl⟩ := hrel
    by_cases hlt : j < r
    · have t0 : decide (j < r) = true := decide_eq_true hlt
      have hb := pw_le q j ht (by omega)
      have PS := Lib.hid (pw_s q j)
      generalize pw q j = S at *
      go_wp2_with fail
      exact ⟨⟨j + 1, by omega, by rw [PS.out]; go_num, by go_num⟩, by simp [intOf]; omega⟩
    · obtain rfl : j = r := by omega
      have hb := pw_le q j ht hr
      go_wp2_with fail
      go_ret
      exact ⟨by rw [hB.out]; rfl, H2.out.below⟩
theorem base_le (l d r : Nat) (hl : l ≤ 7) : base l d r ≤ 220 * 4 := Nat.mul_le_mul (by have := Nat.mul_le_mul hl (val_le d); split <;> omega) (fac_le r)
theorem each_le (d r : Nat) (v : Bool) : each d r v ≤ 400 := by have := val_le d; have := moreP_le r v; unfold each; split <;> omega
set_option maxRecDepth 100000 in
set_option maxHeartbeats 8000000 in
theorem rmade_true (l d r s k : Nat) (w : World) (hl1 : 1 ≤ l) (hl : l ≤ 7) (hd : d ≤ 4) (hr : r ≤ 2) (hs : s ≤ 3) (hk : 6 + l ≤ k) (hk13 : k ≤ 13) :
    Calls Tryd.prog 43 #[.agg #[.int .u8 (l : Nat), .int .u8 (d : Nat), .int .u8 (r : Nat), .int .u8 (s : Nat)], .int .i64 (k : Nat), .bool true] w fun e w' => e = .returned (.int .i64 (madeP l d r (k - 6 - l) true : Nat)) ∧ Below w.heap.size w w' := by
  obtain ⟨c0, hc0⟩ : ∃ c, c = base l d r := ⟨_, rfl⟩
  have hc0b : c0 ≤ 840 + 40 := by rw [hc0]; exact base_le l d r hl
  obtain ⟨c1, hc1⟩ : ∃ c : Nat, c = c0 + (if c0 < 100 then 50 else 500) := ⟨_, rfl⟩
  obtain ⟨c2, hc2⟩ : ∃ c : Nat, c = c1 + (if l = 6 then 750 else 0) := ⟨_, rfl⟩
  obtain ⟨c3, hc3⟩ : ∃ c : Nat, c = c2 + (if l = 7 then 1500 else 0) := ⟨_, rfl⟩
  obtain ⟨c4, hc4⟩ : ∃ c : Nat, c = c3 + (if r = 1 then 50 else 0) := ⟨_, rfl⟩
  obtain ⟨c5, hc5⟩ : ∃ c : Nat, c = c4 + (if r = 2 then 100 else 0) := ⟨_, rfl⟩
  have b1 : c1 ≤ 1400 := by rw [hc1]; split <;> omega
  have b2 : c2 ≤ 2200 := by rw [hc2]; split <;> omega
  have b3 : c3 ≤ 3700 := by rw [hc3]; split <;> omega
  have b4 : c4 ≤ 3800 := by rw [hc4]; split <;> omega
  have b5 : c5 ≤ 3900 := by rw [hc5]; split <;> omega
  have HM : Hid (madeP l d r (k - 6 - l) true = c5 + (k - 6 - l) * each d r true) := Lib.hid (by
    rw [madeP_eq, hc5, hc4, hc3, hc2, hc1, ← hc0]
    simp only [if_true]
    generalize (k - 6 - l) * each d r true = z
    grind)
  have HC0 := Lib.hid hc0
  have HC1 := Lib.hid hc1
  have HC2 := Lib.hid hc2
  have HC3 := Lib.hid hc3
  have HC4 := Lib.hid hc4
  have HC5 := Lib.hid hc5
  clear hc0 hc1 hc2 hc3 hc4 hc5
  have hE : each d r true ≤ 400 := each_le d r true
  have hg := Lib.hid (rgt_mk l d r s hl1 hl hd hr hs)
  have hn : Hid (needP l d r s = 6 + l) := Lib.hid (rgt_need l d r s hg.out (by omega))
  go_enter Tryd.func43, Tryd.ntmps43
  go_wp2_with fail
  have H1 := Lib.hid (Own.start w 23 #[.int .u8 (l : Nat), .int .u8 (d : Nat), .int .u8 (r : Nat), .int .u8 (s : Nat)])
  generalize w.alloc (.cells #[.int .u8 (l : Nat), .int .u8 (d : Nat), .int .u8 (r : Nat), .int .u8 (s : Nat)] 23) = W1 at *
  generalize w.heap.size = b0 at *
  have x0 := H1.out.blk.cell (j := 0) (v := .int .u8 (l : Nat)) rfl
  have x1 := H1.out.blk.cell (j := 1) (v := .int .u8 (d : Nat)) rfl
  have x2 := H1.out.blk.cell (j := 2) (v := .int .u8 (r : Nat)) rfl
  have x3 := H1.out.blk.cell (j := 3) (v := .int .u8 (s : Nat)) rfl
  go_wp2_with fail
  refine (own_of (rcontract_any l d r s _ hl hd hr) H1.out).mono ?_
  rintro e W2 ⟨rfl, h2⟩
  rw [← HC0.out]
  clear x0 x1 x2 x3 H1
  have H2 := Lib.hid h2
  clear h2
  have x0 := H2.out.blk.cell (j := 0) (v := .int .u8 (l : Nat)) rfl
  have x1 := H2.out.blk.cell (j := 1) (v := .int .u8 (d : Nat)) rfl
  have x2 := H2.out.blk.cell (j := 2) (v := .int .u8 (r : Nat)) rfl
  have x3 := H2.out.blk.cell (j := 3) (v := .int .u8 (s : Nat)) rfl
  go_upto_if 13 with fail
  go_cut [0, 7] (fun _ s7 wx => s7 = .int .i64 (c1 : Nat) ∧ wx = W2)
  case first =>
    go_wp2_with fail
    all_goals
      go_meet
      exact ⟨by rw [HC1.out]; congr 1; grind, rfl⟩
  case rest =>
  obtain ⟨rfl, rfl⟩ := hcut
  go_upto_region 7 with fail
  go_cut [26] (fun st wx => st = .bool (decide (l = 6)) ∧ wx = wc)
  case first =>
    go_wp2_with fail
    all_goals
      go_meet
      exact ⟨by first | rfl | (congr 1; grind), rfl⟩
  case rest =>
  obtain ⟨rfl, rfl⟩ := hcut
  go_upto_if 26 with fail
  go_cut [7] (fun s7 wx => s7 = .int .i64 (c2 : Nat) ∧ wx = wc)
  case first =>
    go_wp2_with fail
    all_goals
      go_meet
      exact ⟨by rw [HC2.out]; congr 1; grind, rfl⟩
  case rest =>
  obtain ⟨rfl, rfl⟩ := hcut
  go_upto_region 9 with fail
  go_cut [35] (fun st wx => st = .bool (false) ∧ wx = wc)
  case first =>
    go_wp2_with fail
    all_goals
      go_meet
      exact ⟨by first | rfl | (congr 1; grind), rfl⟩
  case rest =>
  obtain ⟨rfl, rfl⟩ := hcut
  go_upto_region 11 with fail
  go_cut [43] (fun st wx => st = .bool (decide (l = 7)) ∧ wx = wc)
  case first =>
    go_wp2_with fail
    all_goals
      go_meet
      exact ⟨by first | rfl | (congr 1; grind), rfl⟩
  case rest =>
  obtain ⟨rfl, rfl⟩ := hcut
  go_upto_if 43 with fail
  go_cut [7] (fun s7 wx => s7 = .int .i64 (c3 : Nat) ∧ wx = wc)
  case first =>
    go_wp2_with fail
    all_goals
      go_meet
      exact ⟨by rw [HC3.out]; congr 1; grind, rfl⟩
  case rest =>
  obtain ⟨rfl, rfl⟩ := hcut
  go_upto_region 13 with fail
  go_cut [52] (fun st wx => st = .bool (false) ∧ wx = wc)
  case first =>
    go_wp2_with fail
    all_goals
      go_meet
      exact ⟨by first | rfl | (congr 1; grind), rfl⟩
  case rest =>
  obtain ⟨rfl, rfl⟩ := hcut
  go_upto_if 57 with fail
  go_cut [7] (fun s7 wx => s7 = .int .i64 (c4 : Nat) ∧ wx = wc)
  case first =>
    go_wp2_with fail
    all_goals
      go_meet
      exact ⟨by rw [HC4.out]; congr 1; grind, rfl⟩
  case rest =>
  obtain ⟨rfl, rfl⟩ := hcut
  go_upto_if 62 with fail
  go_cut [7] (fun s7 wx => s7 = .int .i64 (c5 : Nat) ∧ wx = wc)
  case first =>
    go_wp2_with fail
    all_goals
      go_meet
      exact ⟨by rw [HC5.out]; congr 1; grind, rfl⟩
  case rest =>
  obtain ⟨rfl, rfl⟩ := hcut
  clear HC0 HC1 HC2 HC3 HC4 HC5
  go_wp2_with fail
  refine (own_of (rneed_any l d r s _ (by omega)) H2.out).mono ?_
  rintro e W3 ⟨rfl, h3⟩
  rw [hn.out]
  clear x0 x1 x2 x3 H2
  have x1 := h3.blk.cell (j := 1) (v := .int .u8 (d : Nat)) rfl
  have x2 := h3.blk.cell (j := 2) (v := .int .u8 (r : Nat)) rfl
  have H3 := Lib.hid h3
  clear h3
  go_wp2_with fail
  go_loop [7, 8] (fun v7 v8 => ∃ j : Nat, j ≤ k - 6 - l ∧ v7 = .int .i64 ((c5 + j * each d r true : Nat) : Int) ∧ v8 = .int .i64 ((6 + l + j : Nat) : Int)) (fun _ v8 => k - (intOf v8).toNat)
  case atStart => exact ⟨0, by omega, by rw [Nat.zero_mul, Nat.add_zero], rfl⟩
  case round =>
    obtain ⟨j, hj, rfl, rfl⟩ := hrel
    by_cases hlt : 6 + l + j < k
    · have t0 : decide (6 + l + j < k) = true := decide_eq_true hlt
      have hS : c5 + (j + 1) * each d r true = c5 + j * each d r true + each d r true := by rw [Nat.add_mul, Nat.one_mul, Nat.add_assoc]
      have hb : j * each d r true ≤ 13 * 400 := Nat.mul_le_mul (by omega) hE
      have HS := Lib.hid hS
      clear hS
      generalize hz : j * each d r true = z at *
      clear hz
      rcases (by omega : r = 0 ∨ r = 1 ∨ r = 2) with hr0 | hr0 | hr0
      · have q0 : ((r : Int) == 0) = true := by simp; omega
        have HE : Hid (each d r true = val d) := Lib.hid (if_pos hr0)
        clear hr0
        have hv := val_le d
        go_wp2_with fail
        refine (rvalue_any d _).mono ?_
        rintro e W4 ⟨rfl, rfl⟩
        go_wp2_with fail
        exact ⟨⟨j + 1, by omega, by rw [HS.out, HE.out]; go_num, by go_num⟩, by simp [intOf]; omega⟩
      · have q0 : ((r : Int) == 0) = false := by simp; omega
        have q2 : ((r : Int) == 2) = false := by simp; omega
        have HE : Hid (each d r true = 200) := Lib.hid (by rw [hr0]; rfl)
        clear hr0
        go_wp2_with fail
        exact ⟨⟨j + 1, by omega, by rw [HS.out, HE.out]; go_num, by go_num⟩, by simp [intOf]; omega⟩
      · have q0 : ((r : Int) == 0) = false := by simp; omega
        have q2 : ((r : Int) == 2) = true := by simp; omega
        have HE : Hid (each d r true = 400) := Lib.hid (by rw [hr0]; rfl)
        clear hr0
        go_wp2_with fail
        exact ⟨⟨j + 1, by omega, by rw [HS.out, HE.out]; go_num, by go_num⟩, by simp [intOf]; omega⟩
    · have hjk : j = k - 6 - l := by omega
      have t0 : decide (6 + l + j < k) = false := decide_eq_false hlt
      have HJ := Lib.hid hjk
      clear hjk
      have hb : j * each d r true ≤ 13 * 400 := Nat.mul_le_mul (by omega) hE
      go_wp2_with fail
      go_ret
      exact ⟨by rw [HM.out, ← HJ.out]; rfl, H3.out.below⟩
set_option maxRecDepth 100000 in
set_option maxHeartbeats 8000000 in
theorem rmade_false (l d r s k : Nat) (w : World) (hl1 : 1 ≤ l) (hl : l ≤ 7) (hd : d ≤ 4) (hr : r ≤ 2) (hs : s ≤ 3) (hk : 6 + l ≤ k) (hk13 : k ≤ 13) :
    Calls Tryd.prog 43 #[.agg #[.int .u8 (l : Nat), .int .u8 (d : Nat), .int .u8 (r : Nat), .int .u8 (s : Nat)], .int .i64 (k : Nat), .bool false] w fun e w' => e = .returned (.int .i64 (madeP l d r (k - 6 - l) false : Nat)) ∧ Below w.heap.size w w' := by
  obtain ⟨c0, hc0⟩ : ∃ c, c = base l d r := ⟨_, rfl⟩
  have hc0b : c0 ≤ 840 + 40 := by rw [hc0]; exact base_le l d r hl
  obtain ⟨c1, hc1⟩ : ∃ c : Nat, c = c0 + (if c0 < 100 then 50 else 300) := ⟨_, rfl⟩
  obtain ⟨c2, hc2⟩ : ∃ c : Nat, c = c1 + (if l = 6 then 500 else 0) := ⟨_, rfl⟩
  obtain ⟨c3, hc3⟩ : ∃ c : Nat, c = c2 + (if l = 7 then 1000 else 0) := ⟨_, rfl⟩
  obtain ⟨c4, hc4⟩ : ∃ c : Nat, c = c3 + (if r = 1 then 50 else 0) := ⟨_, rfl⟩
  obtain ⟨c5, hc5⟩ : ∃ c : Nat, c = c4 + (if r = 2 then 100 else 0) := ⟨_, rfl⟩
  have b1 : c1 ≤ 1400 := by rw [hc1]; split <;> omega
  have b2 : c2 ≤ 2200 := by rw [hc2]; split <;> omega
  have b3 : c3 ≤ 3700 := by rw [hc3]; split <;> omega
  have b4 : c4 ≤ 3800 := by rw [hc4]; split <;> omega
  have b5 : c5 ≤ 3900 := by rw [hc5]; split <;> omega
  have HM : Hid (madeP l d r (k - 6 - l) false = c5 + (k - 6 - l) * each d r false) := Lib.hid (by
    rw [madeP_eq, hc5, hc4, hc3, hc2, hc1, ← hc0]
    simp only [Bool.false_eq_true, if_false]
    generalize (k - 6 - l) * each d r false = z
    grind)
  have HC0 := Lib.hid hc0
  have HC1 := Lib.hid hc1
  have HC2 := Lib.hid hc2
  have HC3 := Lib.hid hc3
  have HC4 := Lib.hid hc4
  have HC5 := Lib.hid hc5
  clear hc0 hc1 hc2 hc3 hc4 hc5
  have hE : each d r false ≤ 400 := each_le d r false
  have hg := Lib.hid (rgt_mk l d r s hl1 hl hd hr hs)
  have hn : Hid (needP l d r s = 6 + l) := Lib.hid (rgt_need l d r s hg.out (by omega))
  go_enter Tryd.func43, Tryd.ntmps43
  go_wp2_with fail
  have H1 := Lib.hid (Own.start w 23 #[.int .u8 (l : Nat), .int .u8 (d : Nat), .int .u8 (r : Nat), .int .u8 (s : Nat)])
  generalize w.alloc (.cells #[.int .u8 (l : Nat), .int .u8 (d : Nat), .int .u8 (r : Nat), .int .u8 (s : Nat)] 23) = W1 at *
  generalize w.heap.size = b0 at *
  have x0 := H1.out.blk.cell (j := 0) (v := .int .u8 (l : Nat)) rfl
  have x1 := H1.out.blk.cell (j := 1) (v := .int .u8 (d : Nat)) rfl
  have x2 := H1.out.blk.cell (j := 2) (v := .int .u8 (r : Nat)) rfl
  have x3 := H1.out.blk.cell (j := 3) (v := .int .u8 (s : Nat)) rfl
  go_wp2_with fail
  refine (own_of (rcontract_any l d r s _ hl hd hr) H1.out).mono ?_
  rintro e W2 ⟨rfl, h2⟩
  rw [← HC0.out]
  clear x0 x1 x2 x3 H1
  have H2 := Lib.hid h2
  clear h2
  have x0 := H2.out.blk.cell (j := 0) (v := .int .u8 (l : Nat)) rfl
  have x1 := H2.out.blk.cell (j := 1) (v := .int .u8 (d : Nat)) rfl
  have x2 := H2.out.blk.cell (j := 2) (v := .int .u8 (r : Nat)) rfl
  have x3 := H2.out.blk.cell (j := 3) (v := .int .u8 (s : Nat)) rfl
  go_upto_if 13 with fail
  go_cut [0, 7] (fun _ s7 wx => s7 = .int .i64 (c1 : Nat) ∧ wx = W2)
  case first =>
    go_wp2_with fail
    all_goals
      go_meet
      exact ⟨by rw [HC1.out]; congr 1; grind, rfl⟩
  case rest =>
  obtain ⟨rfl, rfl⟩ := hcut
  go_upto_region 7 with fail
  go_cut [26] (fun st wx => st = .bool (false) ∧ wx = wc)
  case first =>
    go_wp2_with fail
    all_goals
      go_meet
      exact ⟨by first | rfl | (congr 1; grind), rfl⟩
  case rest =>
  obtain ⟨rfl, rfl⟩ := hcut
  go_upto_region 9 with fail
  go_cut [35] (fun st wx => st = .bool (decide (l = 6)) ∧ wx = wc)
  case first =>
    go_wp2_with fail
    all_goals
      go_meet
      exact ⟨by first | rfl | (congr 1; grind), rfl⟩
  case rest =>
  obtain ⟨rfl, rfl⟩ := hcut
  go_upto_if 35 with fail
  go_cut [7] (fun s7 wx => s7 = .int .i64 (c2 : Nat) ∧ wx = wc)
  case first =>
    go_wp2_with fail
    all_goals
      go_meet
      exact ⟨by rw [HC2.out]; congr 1; grind, rfl⟩
  case rest =>
  obtain ⟨rfl, rfl⟩ := hcut
  go_upto_region 11 with fail
  go_cut [43] (fun st wx => st = .bool (false) ∧ wx = wc)
  case first =>
    go_wp2_with fail
    all_goals
      go_meet
      exact ⟨by first | rfl | (congr 1; grind), rfl⟩
  case rest =>
  obtain ⟨rfl, rfl⟩ := hcut
  go_upto_region 13 with fail
  go_cut [52] (fun st wx => st = .bool (decide (l = 7)) ∧ wx = wc)
  case first =>
    go_wp2_with fail
    all_goals
      go_meet
      exact ⟨by first | rfl | (congr 1; grind), rfl⟩
  case rest =>
  obtain ⟨rfl, rfl⟩ := hcut
  go_upto_if 52 with fail
  go_cut [7] (fun s7 wx => s7 = .int .i64 (c3 : Nat) ∧ wx = wc)
  case first =>
    go_wp2_with fail
    all_goals
      go_meet
      exact ⟨by rw [HC3.out]; congr 1; grind, rfl⟩
  case rest =>
  obtain ⟨rfl, rfl⟩ := hcut
  go_upto_if 57 with fail
  go_cut [7] (fun s7 wx => s7 = .int .i64 (c4 : Nat) ∧ wx = wc)
  case first =>
    go_wp2_with fail
    all_goals
      go_meet
      exact ⟨by rw [HC4.out]; congr 1; grind, rfl⟩
  case rest =>
  obtain ⟨rfl, rfl⟩ := hcut
  go_upto_if 62 with fail
  go_cut [7] (fun s7 wx => s7 = .int .i64 (c5 : Nat) ∧ wx = wc)
  case first =>
    go_wp2_with fail
    all_goals
      go_meet
      exact ⟨by rw [HC5.out]; congr 1; grind, rfl⟩
  case rest =>
  obtain ⟨rfl, rfl⟩ := hcut
  clear HC0 HC1 HC2 HC3 HC4 HC5
  go_wp2_with fail
  refine (own_of (rneed_any l d r s _ (by omega)) H2.out).mono ?_
  rintro e W3 ⟨rfl, h3⟩
  rw [hn.out]
  clear x0 x1 x2 x3 H2
  have x1 := h3.blk.cell (j := 1) (v := .int .u8 (d : Nat)) rfl
  have x2 := h3.blk.cell (j := 2) (v := .int .u8 (r : Nat)) rfl
  have H3 := Lib.hid h3
  clear h3
  go_wp2_with fail
  go_loop [7, 8] (fun v7 v8 => ∃ j : Nat, j ≤ k - 6 - l ∧ v7 = .int .i64 ((c5 + j * each d r false : Nat) : Int) ∧ v8 = .int .i64 ((6 + l + j : Nat) : Int)) (fun _ v8 => k - (intOf v8).toNat)
  case atStart => exact ⟨0, by omega, by rw [Nat.zero_mul, Nat.add_zero], rfl⟩
  case round =>
    obtain ⟨j, hj, rfl, rfl⟩ := hrel
    by_cases hlt : 6 + l + j < k
    · have t0 : decide (6 + l + j < k) = true := decide_eq_true hlt
      have hS : c5 + (j + 1) * each d r false = c5 + j * each d r false + each d r false := by rw [Nat.add_mul, Nat.one_mul, Nat.add_assoc]
      have hb : j * each d r false ≤ 13 * 400 := Nat.mul_le_mul (by omega) hE
      have HS := Lib.hid hS
      clear hS
      generalize hz : j * each d r false = z at *
      clear hz
      rcases (by omega : r = 0 ∨ r = 1 ∨ r = 2) with hr0 | hr0 | hr0
      · have q0 : ((r : Int) == 0) = true := by simp; omega
        have HE : Hid (each d r false = val d) := Lib.hid (if_pos hr0)
        clear hr0
        have hv := val_le d
        go_wp2_with fail
        refine (rvalue_any d _).mono ?_
        rintro e W4 ⟨rfl, rfl⟩
        go_wp2_with fail
        exact ⟨⟨j + 1, by omega, by rw [HS.out, HE.out]; go_num, by go_num⟩, by simp [intOf]; omega⟩
      · have q0 : ((r : Int) == 0) = false := by simp; omega
        have q2 : ((r : Int) == 2) = false := by simp; omega
        have HE : Hid (each d r false = 100) := Lib.hid (by rw [hr0]; rfl)
        clear hr0
        go_wp2_with fail
        exact ⟨⟨j + 1, by omega, by rw [HS.out, HE.out]; go_num, by go_num⟩, by simp [intOf]; omega⟩
      · have q0 : ((r : Int) == 0) = false := by simp; omega
        have q2 : ((r : Int) == 2) = true := by simp; omega
        have HE : Hid (each d r false = 200) := Lib.hid (by rw [hr0]; rfl)
        clear hr0
        go_wp2_with fail
        exact ⟨⟨j + 1, by omega, by rw [HS.out, HE.out]; go_num, by go_num⟩, by simp [intOf]; omega⟩
    · have hjk : j = k - 6 - l := by omega
      have t0 : decide (6 + l + j < k) = false := decide_eq_false hlt
      have HJ := Lib.hid hjk
      clear hjk
      have hb : j * each d r false ≤ 13 * 400 := Nat.mul_le_mul (by omega) hE
      go_wp2_with fail
      go_ret
      exact ⟨by rw [HM.out, ← HJ.out]; rfl, H3.out.below⟩
theorem rmade_any (l d r s k : Nat) (v : Bool) (w : World) (hl1 : 1 ≤ l) (hl : l ≤ 7) (hd : d ≤ 4) (hr : r ≤ 2) (hs : s ≤ 3) (hk : 6 + l ≤ k) (hk13 : k ≤ 13) :
    Calls Tryd.prog 43 #[.agg #[.int .u8 (l : Nat), .int .u8 (d : Nat), .int .u8 (r : Nat), .int .u8 (s : Nat)], .int .i64 (k : Nat), .bool v] w fun e w' => e = .returned (.int .i64 (madeP l d r (k - 6 - l) v : Nat)) ∧ Below w.heap.size w w' := by
  cases v
  · exact rmade_false l d r s k w hl1 hl hd hr hs hk hk13
  · exact rmade_true l d r s k w hl1 hl hd hr hs hk hk13
end Go.Proofs.YtgmofikhndlhcaaDoor
