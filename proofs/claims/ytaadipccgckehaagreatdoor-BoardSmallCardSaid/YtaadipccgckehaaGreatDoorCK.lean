/- The reference's Find. -/
import Derived.Test.YtaadipccgckehaaGreatDoorBN
namespace Go.Proofs.YtaadipccgckehaaGreatDoor
open Go Go.RowKit Pl

set_option maxRecDepth 100000 in
theorem rfind_ok (d v : Nat) (hd : d < 4) (hv : v < 4) (w : World) : Calls Tryz.prog 14 #[.int .u8 (d : Int), .int .u8 (v : Int)] w (fun e w' => e = .returned (.tuple #[.int .i64 ((findP d v : Nat) : Int), .int .i64 0]) ∧ w = w') := by
  have F := Lib.hid (find_ok d hd v hv)
  have F1 := Lib.hid (find_one d hd v hv)
  clear hd hv
  go_enter Tryz.func14, Tryz.ntmps14
  go_wp2_with fail
  go_loopw [6] (fun s6 wr => ∃ i : Nat, 1 ≤ i ∧ i ≤ findP d v ∧ s6 = .int .i64 (i : Int) ∧ wr = w) (fun s6 _ => 20 - (intOf s6).toNat)
  case atStart => exact ⟨1, by omega, F.out.1, rfl, rfl⟩
  case round =>
    obtain ⟨i, hi1, hi2, rfl, rfl⟩ := hrel
    have hi16 : i ≤ 16 := Nat.le_trans hi2 F.out.2.1
    have u1 : decide ((i : Int) ≤ 128) = true := decide_eq_true (by omega)
    have D1 := Lib.hid (rdealer_ok i hi1 (by omega) wr)
    have V1 := Lib.hid (rvuln_ok i hi1 (by omega) wr)
    have e2 : IntKind.i64.wrap ((i : Int) + 1) = ((i + 1 : Nat) : Int) := by rw [show (((i + 1 : Nat) : Int)) = (i : Int) + 1 by omega]; exact IntWalk.i64_in _ (by omega)
    by_cases hh : hitB d v i = true
    · obtain ⟨g1, g2⟩ := hit_iff.1 hh
      have hx := F1.out i (by omega) hi1 hh
      rw [g1] at D1
      rw [g2] at V1
      have b1 : ((d : Int) == (d : Int)) = true := beq_iff_eq.2 rfl
      have b2 : ((v : Int) == (v : Int)) = true := beq_iff_eq.2 rfl
      have HX := Lib.hid hx
      clear hx hh hi2 hi16 g1 g2
      go_wp2_with (first
        | (go_at_call 8; refine D1.out.mono ?_; rintro e w' ⟨rfl, rfl⟩)
        | (go_at_call 10; refine V1.out.mono ?_; rintro e w' ⟨rfl, rfl⟩))
      go_ret2
      exact ⟨by rw [← HX.out]; rfl, rfl⟩
    · have hne : i ≠ findP d v := fun e => hh (by rw [e]; exact F.out.2.2)
      have hdp := deal_lt i
      have hvp := vul_lt i
      by_cases g1 : dealP i = d
      · have g2 : vulP i ≠ v := fun g2 => hh (hit_iff.2 ⟨g1, g2⟩)
        rw [g1] at D1
        have b1 : ((d : Int) == (d : Int)) = true := beq_iff_eq.2 rfl
        have b2 : (((vulP i : Nat) : Int) == (v : Int)) = false := beq_eq_false_iff_ne.2 (by omega)
        clear hh g1 g2 hdp hvp
        generalize vulP i = V at *
        go_wp2_with (first
          | (go_at_call 8; refine D1.out.mono ?_; rintro e w' ⟨rfl, rfl⟩)
          | (go_at_call 10; refine V1.out.mono ?_; rintro e w' ⟨rfl, rfl⟩))
        go_roundw
        case rel => exact ⟨i + 1, by omega, by omega, by simp, trivial⟩
        case measure => simp [intOf]; omega
      · have b1 : (((dealP i : Nat) : Int) == (d : Int)) = false := beq_eq_false_iff_ne.2 (by omega)
        clear hh g1 hdp hvp
        generalize vulP i = V at *
        generalize dealP i = DD at *
        go_wp2_with (first
          | (go_at_call 8; refine D1.out.mono ?_; rintro e w' ⟨rfl, rfl⟩)
          | (go_at_call 10; refine V1.out.mono ?_; rintro e w' ⟨rfl, rfl⟩))
        go_roundw
        case rel => exact ⟨i + 1, by omega, by omega, by simp, trivial⟩
        case measure => simp [intOf]; omega
set_option maxRecDepth 100000 in
theorem rfind_bad (d v : Nat) (h : 4 ≤ d ∨ 4 ≤ v) (w : World) : Calls Tryz.prog 14 #[.int .u8 (d : Int), .int .u8 (v : Int)] w (fun e w' => e = .returned (.tuple #[.int .i64 0, .int .i64 2]) ∧ w = w') := by
  have HN := Lib.hid h
  clear h
  go_enter Tryz.func14, Tryz.ntmps14
  go_wp2_with fail
  go_loopw [6] (fun s6 wr => ∃ i : Nat, 1 ≤ i ∧ i ≤ 129 ∧ s6 = .int .i64 (i : Int) ∧ wr = w) (fun s6 _ => 130 - (intOf s6).toNat)
  case atStart => exact ⟨1, by omega, by omega, rfl, rfl⟩
  case round =>
    obtain ⟨i, hi1, hi2, rfl, rfl⟩ := hrel
    by_cases hlt : i ≤ 128
    · have u1 : decide ((i : Int) ≤ 128) = true := decide_eq_true (by omega)
      have D1 := Lib.hid (rdealer_ok i hi1 (by omega) wr)
      have V1 := Lib.hid (rvuln_ok i hi1 (by omega) wr)
      have e2 : IntKind.i64.wrap ((i : Int) + 1) = ((i + 1 : Nat) : Int) := by rw [show (((i + 1 : Nat) : Int)) = (i : Int) + 1 by omega]; exact IntWalk.i64_in _ (by omega)
      have hdp := deal_lt i
      have hvp := vul_lt i
      have hn := HN.out
      by_cases g1 : dealP i = d
      · have b1 : ((d : Int) == (d : Int)) = true := beq_iff_eq.2 rfl
        have b2 : (((vulP i : Nat) : Int) == (v : Int)) = false := beq_eq_false_iff_ne.2 (by omega)
        rw [g1] at D1
        clear hn g1 hdp hvp
        generalize vulP i = V at *
        go_wp2_with (first
          | (go_at_call 8; refine D1.out.mono ?_; rintro e w' ⟨rfl, rfl⟩)
          | (go_at_call 10; refine V1.out.mono ?_; rintro e w' ⟨rfl, rfl⟩))
        go_roundw
        case rel => exact ⟨i + 1, by omega, by omega, by simp, trivial⟩
        case measure => simp [intOf]; omega
      · have b1 : (((dealP i : Nat) : Int) == (d : Int)) = false := beq_eq_false_iff_ne.2 (by omega)
        clear hn g1 hdp hvp
        generalize vulP i = V at *
        generalize dealP i = DD at *
        go_wp2_with (first
          | (go_at_call 8; refine D1.out.mono ?_; rintro e w' ⟨rfl, rfl⟩)
          | (go_at_call 10; refine V1.out.mono ?_; rintro e w' ⟨rfl, rfl⟩))
        go_roundw
        case rel => exact ⟨i + 1, by omega, by omega, by simp, trivial⟩
        case measure => simp [intOf]; omega
    · obtain rfl : i = 129 := by omega
      have u1 : decide ((129 : Int) ≤ 128) = false := rfl
      rw [show ((129 : Nat) : Int) = 129 from rfl]
      go_wp2_with fail
      go_ret2
      exact ⟨rfl, rfl⟩
end Go.Proofs.YtaadipccgckehaaGreatDoor
