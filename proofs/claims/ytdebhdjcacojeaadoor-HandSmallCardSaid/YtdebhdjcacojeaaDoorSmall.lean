/- The walk of HandSmall. -/
import Derived.Test.YtdebhdjcacojeaaDoorSmallA
namespace Go.Proofs.YtdebhdjcacojeaaDoor
open Go.RowKit

set_option maxRecDepth 100000 in
set_option maxHeartbeats 16000000 in
theorem small_walk (w : World) (ht : Tabs w) :
    Calls Tryd.prog 3 #[] w fun e w' => e = .returned (.bool true) ∧ Below w.heap.size w w' := by
  have hi : Inv w w := ⟨ht, Below.refl _ _⟩
  have HI := Lib.hid hi
  clear hi ht
  go_enter Tryd.func3, Tryd.ntmps3
  go_upto_block 0 with fail
  go_cut [0] (fun s0 wx => s0 = .bool false ∧ Inv w wx)
  case first =>
    go_wp2_with fail
    go_loopw [0, 11] (fun v0 v11 wr => ∃ n : Nat, n ≤ 128 ∧ v0 = .bool false ∧ v11 = .int .i64 n ∧ Inv w wr) (fun _ v11 _ => (128 - intOf v11).toNat)
    case atStart => exact ⟨0, by omega, rfl, rfl, HI.out⟩
    case round =>
      obtain ⟨n, hn, rfl, rfl, hi⟩ := hrel
      clear HI
      obtain ⟨wo11, rfl⟩ : ∃ wo : World, wo = wr := ⟨_, rfl⟩
      have HI := Lib.hid hi
      clear hi
      by_cases hlt : n < 128
      · have t0 : decide ((n : Int) < 128) = true := decide_eq_true (by omega)
        go_upto_block 2 with fail
        have hE := u64_b BinOp.or ((n : Int) / 8 * 512) (IntKind.u64.wrap (bits BinOp.and IntKind.i64 (n : Int) 7))
        generalize bits BinOp.or IntKind.u64 ((n : Int) / 8 * 512) (IntKind.u64.wrap (bits BinOp.and IntKind.i64 (n : Int) 7)) = E at *
        have HE := Lib.hid hE
        clear hE
        go_wp2_with fail
        go_loopw [0, 22] (fun v0 v22 wr => ∃ s : Nat, s ≤ 4 ∧ v0 = .bool false ∧ v22 = .int .i64 s ∧ Inv w wr) (fun _ v22 _ => (4 - intOf v22).toNat)
        case atStart => exact ⟨0, by omega, rfl, rfl, HI.out⟩
        case round =>
          obtain ⟨s, hs, rfl, rfl, hi⟩ := hrel
          clear HI
          obtain ⟨wo22, rfl⟩ : ∃ wo : World, wo = wr := ⟨_, rfl⟩
          have HI := Lib.hid hi
          clear hi
          by_cases hls : s < 4
          · have t1 : decide ((s : Int) < 4) = true := decide_eq_true (by omega)
            have n1 : IntKind.i64.wrap (13 * (s : Int)) = 13 * (s : Int) := IntWalk.i64_in _ (by omega)
            have n2 : 13 * (s : Int) ≤ 64 := by omega
            have n3 : 0 ≤ 13 * (s : Int) := by omega
            go_wp2_with fail
            (first | (with_reducible refine (same_e _ (u64_w _) HI.out).mono ?_) | (with_reducible refine (same_e _ (u64_b _ _ _) HI.out).mono ?_))
            rintro e w1 ⟨rfl, hi⟩
            clear HI
            have HI := Lib.hid hi
            clear hi
            go_wp2_with fail
            first
              | exact ⟨⟨s + 1, by omega, rfl, by go_num, HI.out⟩, by simp [intOf]; omega⟩
              | (refine ⟨?_, by simp [intOf]; omega⟩; (repeat apply Exists.intro); exact ⟨⟨s + 1, by omega, rfl, by go_num, HI.out⟩, rfl⟩)
          · obtain rfl : s = 4 := by omega
            go_wp2_with fail
            first
              | exact ⟨⟨n + 1, by omega, rfl, by go_num, HI.out⟩, by simp [intOf]; omega⟩
              | (refine ⟨?_, by simp [intOf]; omega⟩; (repeat apply Exists.intro); exact ⟨⟨n + 1, by omega, rfl, by go_num, HI.out⟩, rfl⟩)
      · obtain rfl : n = 128 := by omega
        go_wp2_with fail
        go_meet
        exact ⟨rfl, HI.out⟩
  case rest =>
  obtain ⟨rfl, hi⟩ := hcut
  clear HI
  have HI := Lib.hid hi
  clear hi
  go_upto_block 4 with fail
  go_cut [0] (fun s0 wx => s0 = .bool false ∧ Inv w wx)
  case first =>
    go_wp2_with fail
    go_loopw [0, 33] (fun v0 v33 wr => ∃ c : Nat, c ≤ 14 ∧ v0 = .bool false ∧ v33 = .int .i64 c ∧ Inv w wr) (fun _ v33 _ => (14 - intOf v33).toNat)
    case atStart => exact ⟨0, by omega, rfl, rfl, HI.out⟩
    case round =>
      obtain ⟨c, hc, rfl, rfl, hi⟩ := hrel
      clear HI
      obtain ⟨wo33, rfl⟩ : ∃ wo : World, wo = wr := ⟨_, rfl⟩
      have HI := Lib.hid hi
      clear hi
      by_cases hlc : c < 14
      · have t0 : decide ((c : Int) < 14) = true := decide_eq_true (by omega)
        obtain ⟨c14, hc14⟩ : ∃ x, x = 14 - c := ⟨_, rfl⟩
        have q14 : 14 - (c : Int) = (c14 : Int) := by omega
        have q13 : 13 - (c : Int) = ((13 - c : Nat) : Int) := by omega
        have i1 : c14 + c ≤ 14 := by omega
        have i2 : 14 ≤ c14 + c := by omega
        clear hc14
        go_wp2_with fail
        go_loopw [0, 38] (fun v0 v38 wr => ∃ d : Nat, d ≤ c14 ∧ v0 = .bool false ∧ v38 = .int .i64 d ∧ Inv w wr) (fun _ v38 _ => ((c14 : Int) - intOf v38).toNat)
        case atStart => exact ⟨0, by omega, rfl, rfl, HI.out⟩
        case round =>
          obtain ⟨d, hd, rfl, rfl, hi⟩ := hrel
          clear HI
          obtain ⟨wo38, rfl⟩ : ∃ wo : World, wo = wr := ⟨_, rfl⟩
          have HI := Lib.hid hi
          clear hi
          by_cases hld : d < c14
          · have t1 : decide ((d : Int) < (c14 : Int)) = true := decide_eq_true (by omega)
            have t1' : decide (d < c14) = true := decide_eq_true (by omega)
            obtain ⟨d14, hd14⟩ : ∃ x, x = c14 - d := ⟨_, rfl⟩
            have q15 : (c14 : Int) - (d : Int) = (d14 : Int) := by omega
            have i3 : d14 + d ≤ c14 := by omega
            have i4 : c14 ≤ d14 + d := by omega
            clear hd14
            go_wp2_with fail
            go_loopw [0, 45] (fun v0 v45 wr => ∃ h : Nat, h ≤ d14 ∧ v0 = .bool false ∧ v45 = .int .i64 h ∧ Inv w wr) (fun _ v45 _ => ((d14 : Int) - intOf v45).toNat)
            case atStart => exact ⟨0, by omega, rfl, rfl, HI.out⟩
            case round =>
              obtain ⟨h, hh, rfl, rfl, hi⟩ := hrel
              clear HI
              obtain ⟨wo45, rfl⟩ : ∃ wo : World, wo = wr := ⟨_, rfl⟩
              have HI := Lib.hid hi
              clear hi
              by_cases hlh : h < d14
              · have t2 : decide ((h : Int) < (d14 : Int)) = true := decide_eq_true (by omega)
                have t2' : decide (h < d14) = true := decide_eq_true (by omega)
                obtain ⟨s, hs⟩ : ∃ x, x = 13 - c - d - h := ⟨_, rfl⟩
                have q16 : ((13 - c : Nat) : Int) - (d : Int) - (h : Int) = (s : Int) := by omega
                have hs13 : s ≤ 13 := by omega
                clear hs
                rcases (by omega : (c + d + h) % 2 = 0 ∨ (c + d + h) % 2 = 1) with hp | hp
                · have p0 : (((c : Int) + (d : Int) + (h : Int)) % 2 == 0) = true := by simp; omega
                  have p1 : (((c : Int) + (d : Int) + (h : Int)) % 2 == 1) = false := by simp; omega
                  clear hp
                  go_wp2_with fail
                  refine (low_any c _ (by omega)).mono ?_
                  rintro e w1 ⟨M1, hM1, rfl, rfl⟩
                  clear hM1
                  go_wp2_with fail
                  refine (high_any d _ (by omega)).mono ?_
                  rintro e w1 ⟨M2, hM2, rfl, rfl⟩
                  clear hM2
                  go_wp2_with fail
                  refine (low_any h _ (by omega)).mono ?_
                  rintro e w1 ⟨M3, hM3, rfl, rfl⟩
                  clear hM3
                  go_wp2_with fail
                  refine (high_any s _ (by omega)).mono ?_
                  rintro e w1 ⟨M4, hM4, rfl, rfl⟩
                  clear hM4
                  go_wp2_with fail
                  refine (of_any _ _ _ _ _).mono ?_
                  rintro e w1 ⟨M, hM, rfl, rfl⟩
                  have HM := Lib.hid hM
                  clear hM
                  go_wp2_with fail
                  refine (same_e M HM.out HI.out).mono ?_
                  rintro e w1 ⟨rfl, hi⟩
                  clear HI
                  have HI := Lib.hid hi
                  clear hi
                  go_wp2_with fail
                  first
                    | exact ⟨⟨h + 1, by omega, rfl, by go_num, HI.out⟩, by simp [intOf]; omega⟩
                    | (refine ⟨?_, by simp [intOf]; omega⟩; (repeat apply Exists.intro); exact ⟨⟨h + 1, by omega, rfl, by go_num, HI.out⟩, rfl⟩)
                · have p0 : (((c : Int) + (d : Int) + (h : Int)) % 2 == 0) = false := by simp; omega
                  have p1 : (((c : Int) + (d : Int) + (h : Int)) % 2 == 1) = true := by simp; omega
                  clear hp
                  go_wp2_with fail
                  refine (high_any c _ (by omega)).mono ?_
                  rintro e w1 ⟨M1, hM1, rfl, rfl⟩
                  clear hM1
                  go_wp2_with fail
                  refine (low_any d _ (by omega)).mono ?_
                  rintro e w1 ⟨M2, hM2, rfl, rfl⟩
                  clear hM2
                  go_wp2_with fail
                  refine (high_any h _ (by omega)).mono ?_
                  rintro e w1 ⟨M3, hM3, rfl, rfl⟩
                  clear hM3
                  go_wp2_with fail
                  refine (low_any s _ (by omega)).mono ?_
                  rintro e w1 ⟨M4, hM4, rfl, rfl⟩
                  clear hM4
                  go_wp2_with fail
                  refine (of_any _ _ _ _ _).mono ?_
                  rintro e w1 ⟨M, hM, rfl, rfl⟩
                  have HM := Lib.hid hM
                  clear hM
                  go_wp2_with fail
                  refine (same_e M HM.out HI.out).mono ?_
                  rintro e w1 ⟨rfl, hi⟩
                  clear HI
                  have HI := Lib.hid hi
                  clear hi
                  go_wp2_with fail
                  first
                    | exact ⟨⟨h + 1, by omega, rfl, by go_num, HI.out⟩, by simp [intOf]; omega⟩
                    | (refine ⟨?_, by simp [intOf]; omega⟩; (repeat apply Exists.intro); exact ⟨⟨h + 1, by omega, rfl, by go_num, HI.out⟩, rfl⟩)
              · obtain rfl : h = d14 := by omega
                have t2' : decide (h < h) = false := by simp
                go_wp2_with fail
                first
                  | exact ⟨⟨d + 1, by omega, rfl, by go_num, HI.out⟩, by simp [intOf]; omega⟩
                  | (refine ⟨?_, by simp [intOf]; omega⟩; (repeat apply Exists.intro); exact ⟨⟨d + 1, by omega, rfl, by go_num, HI.out⟩, rfl⟩)
          · obtain rfl : d = c14 := by omega
            have t1' : decide (d < d) = false := by simp
            go_wp2_with fail
            first
              | exact ⟨⟨c + 1, by omega, rfl, by go_num, HI.out⟩, by simp [intOf]; omega⟩
              | (refine ⟨?_, by simp [intOf]; omega⟩; (repeat apply Exists.intro); exact ⟨⟨c + 1, by omega, rfl, by go_num, HI.out⟩, rfl⟩)
      · obtain rfl : c = 14 := by omega
        go_wp2_with fail
        go_meet
        exact ⟨rfl, HI.out⟩
  case rest =>
  obtain ⟨rfl, hi⟩ := hcut
  clear HI
  have HI := Lib.hid hi
  clear hi
  go_wp2_with fail
  go_loopw [0, 10] (fun v0 v10 wr => ∃ k : Nat, 50 ≤ k ∧ k ≤ 64 ∧ v0 = .bool false ∧ v10 = .int .i64 k ∧ Inv w wr) (fun _ v10 _ => (64 - intOf v10).toNat)
  case atStart => exact ⟨50, by omega, by omega, rfl, rfl, HI.out⟩
  case round =>
    obtain ⟨k, hk1, hk2, rfl, rfl, hi⟩ := hrel
    clear HI
    have HI := Lib.hid hi
    clear hi
    by_cases hlk : k < 64
    · have t0 : decide ((k : Int) < 64) = true := decide_eq_true (by omega)
      have n2 : (k : Int) ≤ 64 := by omega
      have n3 : 0 ≤ (k : Int) := by omega
      go_wp2_with fail
      (first | (with_reducible refine (same_e _ (u64_w _) HI.out).mono ?_) | (with_reducible refine (same_e _ (u64_b _ _ _) HI.out).mono ?_))
      rintro e w1 ⟨rfl, hi⟩
      clear HI
      have HI := Lib.hid hi
      clear hi
      go_wp2_with fail
      (first | (with_reducible refine (same_e _ (u64_w _) HI.out).mono ?_) | (with_reducible refine (same_e _ (u64_b _ _ _) HI.out).mono ?_))
      rintro e w1 ⟨rfl, hi⟩
      clear HI
      have HI := Lib.hid hi
      clear hi
      go_wp2_with fail
      (first | (with_reducible refine (same_e _ (u64_w _) HI.out).mono ?_) | (with_reducible refine (same_e _ (u64_b _ _ _) HI.out).mono ?_))
      rintro e w1 ⟨rfl, hi⟩
      clear HI
      have HI := Lib.hid hi
      clear hi
      go_wp2_with fail
      (first | (with_reducible refine (same_e _ (u64_w _) HI.out).mono ?_) | (with_reducible refine (same_e _ (u64_b _ _ _) HI.out).mono ?_))
      rintro e w1 ⟨rfl, hi⟩
      clear HI
      have HI := Lib.hid hi
      clear hi
      go_wp2_with fail
      first
        | exact ⟨⟨k + 1, by omega, by omega, rfl, by go_num, HI.out⟩, by simp [intOf]; omega⟩
        | (refine ⟨?_, by simp [intOf]; omega⟩; (repeat apply Exists.intro); exact ⟨⟨k + 1, by omega, by omega, rfl, by go_num, HI.out⟩, rfl⟩)
    · obtain rfl : k = 64 := by omega
      go_wp2_with fail
      refine (same_e 0 (by decide) HI.out).mono ?_
      rintro e w1 ⟨rfl, hi⟩
      clear HI
      have HI := Lib.hid hi
      clear hi
      go_wp2_with fail
      refine (same_e 18446744073709551615 (by decide) HI.out).mono ?_
      rintro e w1 ⟨rfl, hi⟩
      clear HI
      have HI := Lib.hid hi
      clear hi
      go_wp2_with fail
      refine (awake_i HI.out).mono ?_
      rintro e w2 ⟨rfl, h2⟩
      go_wp2_with fail
      go_ret
      exact ⟨rfl, h2.below⟩
end Go.Proofs.YtdebhdjcacojeaaDoor
