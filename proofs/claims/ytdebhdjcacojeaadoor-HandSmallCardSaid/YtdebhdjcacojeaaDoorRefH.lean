/- Contracts of the reference's Has, Length, Right, Points, Controls, Losers, Quick. -/
import Derived.Test.YtdebhdjcacojeaaDoorRefP
import Derived.Deep.DeepCutAuto
namespace Go.Proofs.YtdebhdjcacojeaaDoor
open Go.RowKit

theorem ret_bb {a b : Bool} (h : a = b) : Ending.returned (.bool a) = .returned (.bool b) := by rw [h]
theorem div_s (m k : Nat) : m / 2 ^ (k + 1) = m / 2 ^ k / 2 := by rw [Nat.pow_succ, Nat.div_div_eq_div_mul]
set_option maxHeartbeats 2000000 in
theorem has_any (m s r : Nat) (w : World) (hm : m < 18446744073709551616) (hs : s < 4) (hr : r < 13) :
    Calls Tryd.prog 46 #[.int .u64 (m : Nat), .int .i64 (s : Nat), .int .i64 (r : Nat)] w fun e w' => e = .returned (.bool (hb m s r)) ∧ w = w' := by
  obtain ⟨n, hn⟩ : ∃ n, n = 13 * s + r := ⟨_, rfl⟩
  have hB := Lib.hid (show hb m s r = decide (m / 2 ^ n % 2 = 1) by rw [hb_eq m s r hr, hn])
  have n1 : IntKind.i64.wrap (13 * (s : Int)) = 13 * (s : Int) := IntWalk.i64_in _ (by omega)
  have n2 : 13 * (s : Int) + (r : Int) = (n : Int) := by omega
  have hn52 : n < 52 := by omega
  have D0 := Lib.hid (show m / 2 ^ 0 = m by simp)
  have HM := Lib.hid hm
  clear hn
  go_enter Tryd.func46, Tryd.ntmps46
  go_wp2_with fail
  go_loop [0, 7] (fun v0 v7 => ∃ k : Nat, k ≤ n ∧ v0 = .int .u64 ((m / 2 ^ k : Nat) : Int) ∧ v7 = .int .i64 k) (fun _ v7 => n - (intOf v7).toNat)
  case atStart => exact ⟨0, by omega, by rw [D0.out], rfl⟩
  case round =>
    obtain ⟨k, hk, rfl, rfl⟩ := hrel
    have hq : m / 2 ^ k < 18446744073709551616 := Nat.lt_of_le_of_lt (Nat.div_le_self _ _) HM.out
    have HS := Lib.hid (div_s m k)
    by_cases hlt : k < n
    · have t0 : decide (k < n) = true := decide_eq_true hlt
      generalize m / 2 ^ k = q at *
      go_wp2_with fail
      exact ⟨⟨k + 1, by omega, by rw [HS.out]; go_num, by go_num⟩, by simp [intOf]; omega⟩
    · obtain rfl : k = n := by omega
      have t0 : decide (k < k) = false := by simp
      generalize hq2 : m / 2 ^ k = q at *
      have HQ := Lib.hid hq2
      clear hq2
      go_wp2_with fail
      go_ret
      refine ⟨?_, rfl⟩
      rw [hB.out]
      exact ret_bb (by grind)
set_option maxHeartbeats 2000000 in
theorem length_any (m s : Nat) (w : World) (hm : m < 18446744073709551616) (hs : s < 4) :
    Calls Tryd.prog 45 #[.int .u64 (m : Nat), .int .i64 (s : Nat)] w fun e w' => e = .returned (.int .i64 (shp m s : Nat)) ∧ w = w' := by
  have L0 := Lib.hid (lenTo_0 m s)
  have L13 := Lib.hid (lenTo_13 m s)
  go_enter Tryd.func45, Tryd.ntmps45
  go_wp2_with fail
  go_loop [5, 6] (fun v5 v6 => ∃ k : Nat, k ≤ 13 ∧ v5 = .int .i64 (lenTo m s k : Nat) ∧ v6 = .int .i64 k) (fun _ v6 => 13 - (intOf v6).toNat)
  case atStart => exact ⟨0, by omega, by rw [L0.out]; rfl, rfl⟩
  case round =>
    obtain ⟨k, hk, rfl, rfl⟩ := hrel
    have hl := lenTo_le m s k
    by_cases hlt : k < 13
    · have t0 : decide ((k : Int) < 13) = true := decide_eq_true (by omega)
      have LS := Lib.hid (lenTo_s m s k)
      have HC := Lib.hid (fun w => has_any m s k w hm hs hlt)
      generalize hb m s k = b at *
      generalize lenTo m s k = q at *
      go_wp2_with fail
      refine (HC.out _).mono ?_
      rintro e w1 ⟨rfl, rfl⟩
      cases b
      · go_wp2_with fail
        exact ⟨⟨k + 1, by omega, by rw [LS.out]; simp, by go_num⟩, by simp [intOf]; omega⟩
      · go_wp2_with fail
        exact ⟨⟨k + 1, by omega, by rw [LS.out]; simp, by go_num⟩, by simp [intOf]; omega⟩
    · obtain rfl : k = 13 := by omega
      go_wp2_with fail
      go_ret
      exact ⟨ret_int (by rw [L13.out]), rfl⟩
set_option maxHeartbeats 2000000 in
theorem rright_any (m : Nat) (w : World) (hm : m < 18446744073709551616) :
    Calls Tryd.prog 27 #[.int .u64 (m : Nat)] w fun e w' => e = .returned (.bool (rightB m)) ∧ w = w' := by
  have hB := Lib.hid (right_ref m)
  have S0 := Lib.hid (sumTo_0 m)
  have S4 := Lib.hid (sumTo_4 m)
  go_enter Tryd.func27, Tryd.ntmps27
  go_wp2_with fail
  go_loop [3, 4] (fun v3 v4 => ∃ k : Nat, k ≤ 4 ∧ v3 = .int .i64 (sumTo m k : Nat) ∧ v4 = .int .i64 k) (fun _ v4 => 4 - (intOf v4).toNat)
  case atStart => exact ⟨0, by omega, by rw [S0.out]; rfl, rfl⟩
  case round =>
    obtain ⟨k, hk, rfl, rfl⟩ := hrel
    have hl := sumTo_le m k
    by_cases hlt : k < 4
    · have t0 : decide ((k : Int) < 4) = true := decide_eq_true (by omega)
      have LS := Lib.hid (sumTo_s m k)
      have HC := Lib.hid (fun w => length_any m k w hm hlt)
      have hs2 := shp_le m k
      generalize shp m k = b at *
      generalize sumTo m k = q at *
      go_wp2_with fail
      refine (HC.out _).mono ?_
      rintro e w1 ⟨rfl, rfl⟩
      go_wp2_with fail
      exact ⟨⟨k + 1, by omega, by rw [LS.out]; go_num, by go_num⟩, by simp [intOf]; omega⟩
    · obtain rfl : k = 4 := by omega
      generalize hq : sumTo m 4 = q at *
      have HQ := Lib.hid hq
      clear hq
      go_wp2_with fail
      all_goals
        go_ret
        refine ⟨?_, rfl⟩
        rw [hB.out, ← S4.out]
        exact ret_bb (by grind)
set_option maxRecDepth 10000 in
set_option maxHeartbeats 4000000 in
theorem rcontrols_any (m : Nat) (w : World) (hm : m < 18446744073709551616) :
    Calls Tryd.prog 29 #[.int .u64 (m : Nat)] w fun e w' => e = .returned (.int .i64 (Pl.tot (Pl.hon 0 0 1 2) m : Nat)) ∧ w = w' := by
  have T0 := Lib.hid (Pl.totTo_0 (Pl.hon 0 0 1 2) m)
  have T4 := Lib.hid (Pl.totTo_4 (Pl.hon 0 0 1 2) m)
  go_enter Tryd.func29, Tryd.ntmps29
  go_wp2_with fail
  go_loop [3, 4] (fun v3 v4 => ∃ s : Nat, s ≤ 4 ∧ v3 = .int .i64 (Pl.totTo (Pl.hon 0 0 1 2) m s : Nat) ∧ v4 = .int .i64 s) (fun _ v4 => 4 - (intOf v4).toNat)
  case atStart => exact ⟨0, by omega, by rw [T0.out]; rfl, rfl⟩
  case round =>
    obtain ⟨s, hs, rfl, rfl⟩ := hrel
    have hl := Pl.totTo_le (Pl.hon 0 0 1 2) 3 m s (fun h => Pl.hon_le _ _ _ _ h)
    by_cases hlt : s < 4
    · have t0 : decide ((s : Int) < 4) = true := decide_eq_true (by omega)
      have TS := Pl.totTo_succ (Pl.hon 0 0 1 2) m s
      rw [ctl_ref] at TS
      have HTS := Lib.hid TS
      clear TS
      have H11 : Hid (∀ w, Calls Tryd.prog 46 #[.int .u64 (m : Nat), .int .i64 (s : Nat), .int .i64 11] w fun e w' => e = .returned (.bool (hb m s 11)) ∧ w = w') := Lib.hid fun w => has_any m s 11 w hm (by omega) (by omega)
      have H12 : Hid (∀ w, Calls Tryd.prog 46 #[.int .u64 (m : Nat), .int .i64 (s : Nat), .int .i64 12] w fun e w' => e = .returned (.bool (hb m s 12)) ∧ w = w') := Lib.hid fun w => has_any m s 12 w hm (by omega) (by omega)
      generalize hb m s 11 = b11 at *
      generalize hb m s 12 = b12 at *
      generalize Pl.totTo (Pl.hon 0 0 1 2) m s = q at *
      cases b11 <;> cases b12
      all_goals
        go_wp2_with fail
        refine (H11.out _).mono ?_
        rintro e w1 ⟨rfl, rfl⟩
        go_wp2_with fail
        refine (H12.out _).mono ?_
        rintro e w1 ⟨rfl, rfl⟩
        go_wp2_with fail
        exact ⟨⟨s + 1, by omega, by rw [HTS.out]; first | rfl | (simp; done) | (simp; omega), by go_num⟩, by simp [intOf]; omega⟩
    · obtain rfl : s = 4 := by omega
      go_wp2_with fail
      go_ret
      exact ⟨ret_int (by rw [T4.out]), rfl⟩
set_option maxRecDepth 10000 in
set_option maxHeartbeats 4000000 in
theorem rquick_any (m : Nat) (w : World) (hm : m < 18446744073709551616) :
    Calls Tryd.prog 31 #[.int .u64 (m : Nat)] w fun e w' => e = .returned (.int .i64 (Pl.tot (Pl.qck) m : Nat)) ∧ w = w' := by
  have T0 := Lib.hid (Pl.totTo_0 (Pl.qck) m)
  have T4 := Lib.hid (Pl.totTo_4 (Pl.qck) m)
  go_enter Tryd.func31, Tryd.ntmps31
  go_wp2_with fail
  go_loop [3, 4] (fun v3 v4 => ∃ s : Nat, s ≤ 4 ∧ v3 = .int .i64 (Pl.totTo (Pl.qck) m s : Nat) ∧ v4 = .int .i64 s) (fun _ v4 => 4 - (intOf v4).toNat)
  case atStart => exact ⟨0, by omega, by rw [T0.out]; rfl, rfl⟩
  case round =>
    obtain ⟨s, hs, rfl, rfl⟩ := hrel
    have hl := Pl.totTo_le (Pl.qck) 4 m s (fun h => Pl.qck_le h)
    by_cases hlt : s < 4
    · have t0 : decide ((s : Int) < 4) = true := decide_eq_true (by omega)
      have TS := Pl.totTo_succ (Pl.qck) m s
      rw [qck_ref] at TS
      have HTS := Lib.hid TS
      clear TS
      have H10 : Hid (∀ w, Calls Tryd.prog 46 #[.int .u64 (m : Nat), .int .i64 (s : Nat), .int .i64 10] w fun e w' => e = .returned (.bool (hb m s 10)) ∧ w = w') := Lib.hid fun w => has_any m s 10 w hm (by omega) (by omega)
      have H11 : Hid (∀ w, Calls Tryd.prog 46 #[.int .u64 (m : Nat), .int .i64 (s : Nat), .int .i64 11] w fun e w' => e = .returned (.bool (hb m s 11)) ∧ w = w') := Lib.hid fun w => has_any m s 11 w hm (by omega) (by omega)
      have H12 : Hid (∀ w, Calls Tryd.prog 46 #[.int .u64 (m : Nat), .int .i64 (s : Nat), .int .i64 12] w fun e w' => e = .returned (.bool (hb m s 12)) ∧ w = w') := Lib.hid fun w => has_any m s 12 w hm (by omega) (by omega)
      have HL := Lib.hid (fun w => length_any m s w hm hlt)
      generalize hb m s 10 = b10 at *
      generalize hb m s 11 = b11 at *
      generalize hb m s 12 = b12 at *
      generalize Pl.totTo Pl.qck m s = q at *
      have hsp := shp_le m s
      generalize shp m s = n at *
      rcases Nat.lt_or_ge n 2 with h2 | h2
      · have t2 : decide (2 ≤ n) = false := decide_eq_false (by omega)
        have t3 : decide ((2 : Int) ≤ (n : Int)) = false := decide_eq_false (by omega)
        cases b10 <;> cases b11 <;> cases b12
        all_goals
          go_wp2_with fail
          refine (H12.out _).mono ?_
          rintro e w1 ⟨rfl, rfl⟩
          go_wp2_with fail
          refine (H11.out _).mono ?_
          rintro e w1 ⟨rfl, rfl⟩
          go_wp2_with fail
          refine (H10.out _).mono ?_
          rintro e w1 ⟨rfl, rfl⟩
          go_wp2_with fail
          try (refine (HL.out _).mono ?_; rintro e w1 ⟨rfl, rfl⟩; go_wp2_with fail)
          exact ⟨⟨s + 1, by omega, by rw [HTS.out]; grind, by go_num⟩, by simp [intOf]; omega⟩
      · have t2 : decide (2 ≤ n) = true := decide_eq_true (by omega)
        have t3 : decide ((2 : Int) ≤ (n : Int)) = true := decide_eq_true (by omega)
        cases b10 <;> cases b11 <;> cases b12
        all_goals
          go_wp2_with fail
          refine (H12.out _).mono ?_
          rintro e w1 ⟨rfl, rfl⟩
          go_wp2_with fail
          refine (H11.out _).mono ?_
          rintro e w1 ⟨rfl, rfl⟩
          go_wp2_with fail
          refine (H10.out _).mono ?_
          rintro e w1 ⟨rfl, rfl⟩
          go_wp2_with fail
          try (refine (HL.out _).mono ?_; rintro e w1 ⟨rfl, rfl⟩; go_wp2_with fail)
          exact ⟨⟨s + 1, by omega, by rw [HTS.out]; grind, by go_num⟩, by simp [intOf]; omega⟩
    · obtain rfl : s = 4 := by omega
      go_wp2_with fail
      go_ret
      exact ⟨ret_int (by rw [T4.out]), rfl⟩
set_option maxRecDepth 10000 in
set_option maxHeartbeats 4000000 in
theorem rlosers_any (m : Nat) (w : World) (hm : m < 18446744073709551616) :
    Calls Tryd.prog 30 #[.int .u64 (m : Nat)] w fun e w' => e = .returned (.int .i64 (Pl.tot (Pl.los) m : Nat)) ∧ w = w' := by
  have T0 := Lib.hid (Pl.totTo_0 (Pl.los) m)
  have T4 := Lib.hid (Pl.totTo_4 (Pl.los) m)
  go_enter Tryd.func30, Tryd.ntmps30
  go_wp2_with fail
  go_loop [3, 4] (fun v3 v4 => ∃ s : Nat, s ≤ 4 ∧ v3 = .int .i64 (Pl.totTo (Pl.los) m s : Nat) ∧ v4 = .int .i64 s) (fun _ v4 => 4 - (intOf v4).toNat)
  case atStart => exact ⟨0, by omega, by rw [T0.out]; rfl, rfl⟩
  case round =>
    obtain ⟨s, hs, rfl, rfl⟩ := hrel
    have hl := Pl.totTo_le (Pl.los) 3 m s (fun h => Pl.los_le h)
    by_cases hlt : s < 4
    · have t0 : decide ((s : Int) < 4) = true := decide_eq_true (by omega)
      have TS := Pl.totTo_succ (Pl.los) m s
      rw [los_ref] at TS
      have HTS := Lib.hid TS
      clear TS
      have H10 : Hid (∀ w, Calls Tryd.prog 46 #[.int .u64 (m : Nat), .int .i64 (s : Nat), .int .i64 10] w fun e w' => e = .returned (.bool (hb m s 10)) ∧ w = w') := Lib.hid fun w => has_any m s 10 w hm (by omega) (by omega)
      have H11 : Hid (∀ w, Calls Tryd.prog 46 #[.int .u64 (m : Nat), .int .i64 (s : Nat), .int .i64 11] w fun e w' => e = .returned (.bool (hb m s 11)) ∧ w = w') := Lib.hid fun w => has_any m s 11 w hm (by omega) (by omega)
      have H12 : Hid (∀ w, Calls Tryd.prog 46 #[.int .u64 (m : Nat), .int .i64 (s : Nat), .int .i64 12] w fun e w' => e = .returned (.bool (hb m s 12)) ∧ w = w') := Lib.hid fun w => has_any m s 12 w hm (by omega) (by omega)
      have HL := Lib.hid (fun w => length_any m s w hm hlt)
      generalize hb m s 10 = b10 at *
      generalize hb m s 11 = b11 at *
      generalize hb m s 12 = b12 at *
      generalize Pl.totTo Pl.los m s = q at *
      have hsp := shp_le m s
      generalize shp m s = n at *
      rcases (by omega : n = 0 ∨ n = 1 ∨ n = 2 ∨ 3 ≤ n) with h | h | h | h
      · have HN := Lib.hid h
        have t1 : decide ((1 : Int) ≤ (n : Int)) = false := decide_eq_false (by omega)
        have t2 : decide ((2 : Int) ≤ (n : Int)) = false := decide_eq_false (by omega)
        have t3 : decide ((3 : Int) ≤ (n : Int)) = false := decide_eq_false (by omega)
        clear h
        all_goals
          go_wp2_with fail
          refine (HL.out _).mono ?_
          rintro e w1 ⟨rfl, rfl⟩
          go_wp2_with fail
          exact ⟨⟨s + 1, by omega, by have := HN.out; rw [HTS.out]; grind, by go_num⟩, by simp [intOf]; omega⟩
      · have HN := Lib.hid h
        have t1 : decide ((1 : Int) ≤ (n : Int)) = true := decide_eq_true (by omega)
        have t2 : decide ((2 : Int) ≤ (n : Int)) = false := decide_eq_false (by omega)
        have t3 : decide ((3 : Int) ≤ (n : Int)) = false := decide_eq_false (by omega)
        clear h
        cases b12
        all_goals
          go_wp2_with fail
          refine (HL.out _).mono ?_
          rintro e w1 ⟨rfl, rfl⟩
          go_wp2_with fail
          refine (H12.out _).mono ?_
          rintro e w1 ⟨rfl, rfl⟩
          go_wp2_with fail
          exact ⟨⟨s + 1, by omega, by have := HN.out; rw [HTS.out]; grind, by go_num⟩, by simp [intOf]; omega⟩
      · have HN := Lib.hid h
        have t1 : decide ((1 : Int) ≤ (n : Int)) = true := decide_eq_true (by omega)
        have t2 : decide ((2 : Int) ≤ (n : Int)) = true := decide_eq_true (by omega)
        have t3 : decide ((3 : Int) ≤ (n : Int)) = false := decide_eq_false (by omega)
        clear h
        cases b12 <;> cases b11
        all_goals
          go_wp2_with fail
          refine (HL.out _).mono ?_
          rintro e w1 ⟨rfl, rfl⟩
          go_wp2_with fail
          refine (H12.out _).mono ?_
          rintro e w1 ⟨rfl, rfl⟩
          go_wp2_with fail
          refine (H11.out _).mono ?_
          rintro e w1 ⟨rfl, rfl⟩
          go_wp2_with fail
          exact ⟨⟨s + 1, by omega, by have := HN.out; rw [HTS.out]; grind, by go_num⟩, by simp [intOf]; omega⟩
      · have HN := Lib.hid h
        have t1 : decide ((1 : Int) ≤ (n : Int)) = true := decide_eq_true (by omega)
        have t2 : decide ((2 : Int) ≤ (n : Int)) = true := decide_eq_true (by omega)
        have t3 : decide ((3 : Int) ≤ (n : Int)) = true := decide_eq_true (by omega)
        clear h
        cases b12 <;> cases b11 <;> cases b10
        all_goals
          go_wp2_with fail
          refine (HL.out _).mono ?_
          rintro e w1 ⟨rfl, rfl⟩
          go_wp2_with fail
          refine (H12.out _).mono ?_
          rintro e w1 ⟨rfl, rfl⟩
          go_wp2_with fail
          refine (H11.out _).mono ?_
          rintro e w1 ⟨rfl, rfl⟩
          go_wp2_with fail
          refine (H10.out _).mono ?_
          rintro e w1 ⟨rfl, rfl⟩
          go_wp2_with fail
          exact ⟨⟨s + 1, by omega, by have := HN.out; rw [HTS.out]; grind, by go_num⟩, by simp [intOf]; omega⟩
    · obtain rfl : s = 4 := by omega
      go_wp2_with fail
      go_ret
      exact ⟨ret_int (by rw [T4.out]), rfl⟩
set_option maxRecDepth 10000 in
set_option maxHeartbeats 4000000 in
theorem rpoints_any (m : Nat) (w : World) (hm : m < 18446744073709551616) :
    Calls Tryd.prog 28 #[.int .u64 (m : Nat)] w fun e w' => e = .returned (.int .i64 (Pl.tot (Pl.hon 1 2 3 4) m : Nat)) ∧ w = w' := by
  have T0 := Lib.hid (Pl.totTo_0 (Pl.hon 1 2 3 4) m)
  have T4 := Lib.hid (Pl.totTo_4 (Pl.hon 1 2 3 4) m)
  go_enter Tryd.func28, Tryd.ntmps28
  go_wp2_with fail
  go_loop [3, 4] (fun v3 v4 => ∃ s : Nat, s ≤ 4 ∧ v3 = .int .i64 (Pl.totTo (Pl.hon 1 2 3 4) m s : Nat) ∧ v4 = .int .i64 s) (fun _ v4 => 4 - (intOf v4).toNat)
  case atStart => exact ⟨0, by omega, by rw [T0.out]; rfl, rfl⟩
  case round =>
    obtain ⟨s, hs, rfl, rfl⟩ := hrel
    have hl := Pl.totTo_le (Pl.hon 1 2 3 4) 10 m s (fun h => Pl.hon_le _ _ _ _ h)
    by_cases hlt : s < 4
    · have t0 : decide ((s : Int) < 4) = true := decide_eq_true (by omega)
      have TS := Pl.totTo_succ (Pl.hon 1 2 3 4) m s
      rw [← ptTo_4] at TS
      have HTS := Lib.hid TS
      clear TS
      have P0 := Lib.hid (ptTo_0 m s)
      generalize Pl.totTo (Pl.hon 1 2 3 4) m s = q at *
      have HS4 := Lib.hid hlt
      go_wp2_with fail
      go_loop [3, 5] (fun v3 v5 => ∃ k : Nat, k ≤ 4 ∧ v3 = .int .i64 ((q + ptTo m s k : Nat) : Int) ∧ v5 = .int .i64 ((9 + k : Nat) : Int)) (fun _ v5 => 13 - (intOf v5).toNat)
      case atStart => exact ⟨0, by omega, by rw [P0.out]; rfl, rfl⟩
      case round =>
        obtain ⟨k, hk, rfl, rfl⟩ := hrel
        have hp := ptTo_le m s k hk
        by_cases hlk : k < 4
        · have t1 : decide (9 + (k : Int) < 13) = true := decide_eq_true (by omega)
          have t2 : decide (9 + k < 13) = true := decide_eq_true (by omega)
          have PS := Lib.hid (ptTo_s m s k)
          have HC : Hid (∀ w, Calls Tryd.prog 46 #[.int .u64 (m : Nat), .int .i64 (s : Nat), .int .i64 (9 + (k : Int))] w fun e w' => e = .returned (.bool (hb m s (9 + k))) ∧ w = w') := Lib.hid fun w => has_any m s (9 + k) w hm HS4.out (by omega)
          generalize hb m s (9 + k) = b at *
          generalize ptTo m s k = p at *
          go_wp2_with fail
          refine (HC.out _).mono ?_
          rintro e w1 ⟨rfl, rfl⟩
          cases b
          · go_wp2_with fail
            exact ⟨⟨k + 1, by omega, by rw [PS.out]; simp, by go_num⟩, by simp [intOf]; omega⟩
          · go_wp2_with fail
            exact ⟨⟨k + 1, by omega, by rw [PS.out]; congr 1; simp; omega, by go_num⟩, by simp [intOf]; omega⟩
        · obtain rfl : k = 4 := by omega
          go_wp2_with fail
          first
            | exact ⟨⟨s + 1, by omega, by rw [HTS.out], by go_num⟩, by simp [intOf]; omega⟩
            | (refine ⟨?_, by simp [intOf]; omega⟩; (repeat apply Exists.intro); exact ⟨⟨s + 1, by omega, by rw [HTS.out], by go_num⟩, rfl⟩)
    · obtain rfl : s = 4 := by omega
      go_wp2_with fail
      go_ret
      exact ⟨ret_int (by rw [T4.out]), rfl⟩
end Go.Proofs.YtdebhdjcacojeaaDoor
