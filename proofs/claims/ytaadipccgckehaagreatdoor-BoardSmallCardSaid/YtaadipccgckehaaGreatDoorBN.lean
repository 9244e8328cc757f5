/- Boards: the dealer, the vulnerability, the least board with both: the program's and the reference's. -/
import Derived.Test.YtaadipccgckehaaGreatDoorProg
import Derived.Test.YtaadipccgckehaaGreatDoorKtM
import Derived.Test.YtaadipccgckehaaGreatDoorBW
import Derived.WalkKit
import Derived.Outline
import Derived.Lib.Hide
import Derived.Deep.QuietTactic
import Derived.Deep.DeepCutAuto
import Derived.BigQuiet
import Derived.IntWalk
namespace Go.Proofs.YtaadipccgckehaaGreatDoor
open Go Go.RowKit Pl

def inI (n : Int) : Prop := -9223372036854775808 ≤ n ∧ n ≤ 9223372036854775807
theorem bright_ok (n : Nat) (h1 : 1 ≤ n) (h2 : n ≤ 128) (w : World) : Calls Tryz.prog 27 #[.int .i64 (n : Int)] w (fun e w' => e = .returned (.bool true) ∧ w = w') := by
  have t1 : decide ((1 : Int) ≤ (n : Int)) = true := decide_eq_true (by omega)
  have t2 : decide ((n : Int) ≤ 128) = true := decide_eq_true (by omega)
  go_enter Tryz.func27, Tryz.ntmps27
  go_wp2
  go_ret
  exact ⟨rfl, rfl⟩
theorem bright_bad (n : Int) (h : n < 1 ∨ 128 < n) (w : World) : Calls Tryz.prog 27 #[.int .i64 n] w (fun e w' => e = .returned (.bool false) ∧ w = w') := by
  by_cases h1 : n < 1
  · have t1 : decide ((1 : Int) ≤ n) = false := decide_eq_false (by omega)
    go_enter Tryz.func27, Tryz.ntmps27
    go_wp2
    go_ret
    exact ⟨rfl, rfl⟩
  · have t1 : decide ((1 : Int) ≤ n) = true := decide_eq_true (by omega)
    have t2 : decide (n ≤ 128) = false := decide_eq_false (by omega)
    clear h h1
    go_enter Tryz.func27, Tryz.ntmps27
    go_wp2
    go_ret
    exact ⟨rfl, rfl⟩
theorem dealer_ok (n : Nat) (h1 : 1 ≤ n) (h2 : n ≤ 128) (w : World) : Calls Tryz.prog 7 #[.int .i64 (n : Int)] w (fun e w' => e = .returned (.tuple #[.int .u8 (dealP n : Nat), .int .i64 0]) ∧ w = w') := by
  have R := Lib.hid (bright_ok n h1 h2 w)
  have e1 : IntKind.i64.wrap ((n : Int) - 1) = ((n - 1 : Nat) : Int) := by rw [show ((n - 1 : Nat) : Int) = (n : Int) - 1 by omega]; exact IntWalk.i64_in _ (by omega)
  have e2 : (((n - 1 : Nat) : Int)).tmod 4 = (dealP n : Nat) := by unfold dealP; rw [Int.tmod_eq_emod_of_nonneg (by omega)]; omega
  have e3 : (((n - 1 : Nat) : Int)) % 4 = (dealP n : Nat) := by unfold dealP; omega
  have hd := deal_lt n
  have e4 : ((dealP n : Nat) : Int) % 256 = (dealP n : Nat) := by omega
  clear h1 h2
  go_enter Tryz.func7, Tryz.ntmps7
  go_wp2_with (go_at_call 27; refine R.out.mono ?_; rintro e w' ⟨rfl, rfl⟩)
  go_ret2
  exact ⟨rfl, rfl⟩
theorem dealer_bad (n : Int) (h : n < 1 ∨ 128 < n) (w : World) : Calls Tryz.prog 7 #[.int .i64 n] w (fun e w' => e = .returned (.tuple #[.int .u8 0, .int .i64 70]) ∧ w = w') := by
  have R := Lib.hid (bright_bad n h w)
  clear h
  go_enter Tryz.func7, Tryz.ntmps7
  go_wp2_with (go_at_call 27; refine R.out.mono ?_; rintro e w' ⟨rfl, rfl⟩)
  go_ret2
  exact ⟨rfl, rfl⟩
theorem vuln_bad (n : Int) (h : n < 1 ∨ 128 < n) (w : World) : Calls Tryz.prog 9 #[.int .i64 n] w (fun e w' => e = .returned (.tuple #[.int .u8 0, .int .i64 70]) ∧ w = w') := by
  have R := Lib.hid (bright_bad n h w)
  clear h
  go_enter Tryz.func9, Tryz.ntmps9
  go_wp2_with (go_at_call 27; refine R.out.mono ?_; rintro e w' ⟨rfl, rfl⟩)
  go_ret2
  exact ⟨rfl, rfl⟩
theorem vuln_ok (n : Nat) (h1 : 1 ≤ n) (h2 : n ≤ 128) (w : World) : Calls Tryz.prog 9 #[.int .i64 (n : Int)] w (fun e w' => e = .returned (.tuple #[.int .u8 (vulP n : Nat), .int .i64 0]) ∧ w = w') := by
  have R := Lib.hid (bright_ok n h1 h2 w)
  obtain ⟨k, rfl⟩ : ∃ k, n = k + 1 := ⟨n - 1, by omega⟩
  have hv := vul_lt (k + 1)
  have ev : vulP (k + 1) = (k + k / 4) % 4 := rfl
  generalize vulP (k + 1) = V at *
  have e1 : wrap64 (k : Int) = (k : Int) := by unfold wrap64; omega
  have e2 : ((k : Int)).tdiv 4 = ((k / 4 : Nat) : Int) := by rw [Int.tdiv_eq_ediv_of_nonneg (by omega)]; omega
  have e2c : wrap64 ((k : Int) / 4) = (k : Int) / 4 := by unfold wrap64; omega
  have e3 : wrap64 ((k : Int) + (k : Int) / 4) = (k : Int) + (k : Int) / 4 := by unfold wrap64; omega
  have e4 : ((k : Int) + (k : Int) / 4) % 4 = (V : Nat) := by omega
  clear h1 h2 ev hv
  go_enter Tryz.func9, Tryz.ntmps9
  go_wp2_with (go_at_call 27; refine R.out.mono ?_; rintro e w' ⟨rfl, rfl⟩)
  go_ret2
  exact ⟨rfl, rfl⟩
theorem rdealer_bad (n : Int) (h : n < 1 ∨ 128 < n) (w : World) : Calls Tryz.prog 8 #[.int .i64 n] w (fun e w' => e = .returned (.tuple #[.int .u8 0, .int .i64 70]) ∧ w = w') := by
  by_cases h1 : n < 1
  · have t1 : decide (n < 1) = true := decide_eq_true h1
    clear h
    go_enter Tryz.func8, Tryz.ntmps8
    go_wp2
    go_ret2
    exact ⟨rfl, rfl⟩
  · have t1 : decide (n < 1) = false := decide_eq_false h1
    have t2 : decide (128 < n) = true := decide_eq_true (by omega)
    clear h h1
    go_enter Tryz.func8, Tryz.ntmps8
    go_wp2
    go_ret2
    exact ⟨rfl, rfl⟩
theorem rvuln_bad (n : Int) (h : n < 1 ∨ 128 < n) (w : World) : Calls Tryz.prog 10 #[.int .i64 n] w (fun e w' => e = .returned (.tuple #[.int .u8 0, .int .i64 70]) ∧ w = w') := by
  by_cases h1 : n < 1
  · have t1 : decide (n < 1) = true := decide_eq_true h1
    clear h
    go_enter Tryz.func10, Tryz.ntmps10
    go_wp2
    go_ret2
    exact ⟨rfl, rfl⟩
  · have t1 : decide (n < 1) = false := decide_eq_false h1
    have t2 : decide (128 < n) = true := decide_eq_true (by omega)
    clear h h1
    go_enter Tryz.func10, Tryz.ntmps10
    go_wp2
    go_ret2
    exact ⟨rfl, rfl⟩
theorem rdealer_ok (n : Nat) (h1 : 1 ≤ n) (h2 : n ≤ 128) (w : World) : Calls Tryz.prog 8 #[.int .i64 (n : Int)] w (fun e w' => e = .returned (.tuple #[.int .u8 (dealP n : Nat), .int .i64 0]) ∧ w = w') := by
  have t1 : decide ((n : Int) < 1) = false := decide_eq_false (by omega)
  have t2 : decide (128 < (n : Int)) = false := decide_eq_false (by omega)
  go_enter Tryz.func8, Tryz.ntmps8
  go_wp2_with fail
  go_loopw [4, 5] (fun s4 s5 wr => ∃ i : Nat, 1 ≤ i ∧ i ≤ n ∧ s5 = .int .i64 (i : Int) ∧ s4 = .int .u8 (((i - 1) % 4 : Nat) : Int) ∧ wr = w) (fun _ s5 _ => n - (intOf s5).toNat)
  case atStart => exact ⟨1, by omega, by omega, rfl, rfl, rfl⟩
  case round =>
    obtain ⟨i, hi1, hi2, rfl, rfl, rfl⟩ := hrel
    by_cases hlt : i < n
    · have u1 : decide ((i : Int) < (n : Int)) = true := decide_eq_true (by omega)
      obtain ⟨r, hr⟩ : ∃ r, (i - 1) % 4 = r := ⟨_, rfl⟩
      have hr4 : r < 4 := by omega
      have hnx : i % 4 = if r = 3 then 0 else r + 1 := by split <;> omega
      rw [hr]
      have e1 : ((r : Int) + 1) % 256 = ((r + 1 : Nat) : Int) := by omega
      have e2 : IntKind.i64.wrap ((i : Int) + 1) = ((i + 1 : Nat) : Int) := by rw [show (((i + 1 : Nat) : Int)) = (i : Int) + 1 by omega]; exact IntWalk.i64_in _ (by omega)
      by_cases h3 : r = 3
      · have e3 : (((r + 1 : Nat) : Int) == 4) = true := beq_iff_eq.2 (by omega)
        rw [if_pos h3] at hnx
        clear h1 h2 hr t1 t2
        go_wp2_with fail
        go_roundw
        case rel => exact ⟨i + 1, by omega, by omega, by simp, by simp [hnx], trivial⟩
        case measure => simp [intOf]; omega
      · have e3 : (((r + 1 : Nat) : Int) == 4) = false := beq_eq_false_iff_ne.2 (by omega)
        rw [if_neg h3] at hnx
        clear h1 h2 hr t1 t2
        go_wp2_with fail
        go_roundw
        case rel => exact ⟨i + 1, by omega, by omega, by simp, by simp [hnx], trivial⟩
        case measure => simp [intOf]; omega
    · obtain rfl : i = n := by omega
      have u1 : decide ((i : Int) < (i : Int)) = false := decide_eq_false (by omega)
      go_wp2_with fail
      go_ret2
      exact ⟨rfl, rfl⟩
theorem rvuln_ok (n : Nat) (h1 : 1 ≤ n) (h2 : n ≤ 128) (w : World) : Calls Tryz.prog 10 #[.int .i64 (n : Int)] w (fun e w' => e = .returned (.tuple #[.int .u8 (vulP n : Nat), .int .i64 0]) ∧ w = w') := by
  have t1 : decide ((n : Int) < 1) = false := decide_eq_false (by omega)
  have t2 : decide (128 < (n : Int)) = false := decide_eq_false (by omega)
  go_enter Tryz.func10, Tryz.ntmps10
  go_wp2_with fail
  go_loopw [4, 5] (fun s4 s5 wr => ∃ i : Nat, 1 ≤ i ∧ i ≤ n ∧ s5 = .int .i64 (i : Int) ∧ s4 = .int .i64 ((vulTo (i - 1) : Nat) : Int) ∧ wr = w) (fun _ s5 _ => n - (intOf s5).toNat)
  case atStart => exact ⟨1, by omega, by omega, rfl, rfl, rfl⟩
  case round =>
    obtain ⟨i, hi1, hi2, rfl, rfl, rfl⟩ := hrel
    by_cases hlt : i < n
    · have u1 : decide ((i : Int) < (n : Int)) = true := decide_eq_true (by omega)
      have hv : vulTo (i - 1) ≤ 300 := by have := vul_le (i - 1); omega
      have y4 := vul_step4 (i - 1)
      have y1 := vul_step (i - 1)
      rw [show i - 1 + 1 = i by omega] at y4 y1
      obtain ⟨V, hV⟩ : ∃ V, vulTo (i - 1) = V := ⟨_, rfl⟩
      rw [hV] at y4 y1 hv
      rw [hV]
      have e0 : IntKind.i64.wrap ((V : Int) + 1) = ((V + 1 : Nat) : Int) := by rw [show (((V + 1 : Nat) : Int)) = (V : Int) + 1 by omega]; exact IntWalk.i64_in _ (by omega)
      have e2 : IntKind.i64.wrap ((i : Int) + 1) = ((i + 1 : Nat) : Int) := by rw [show (((i + 1 : Nat) : Int)) = (i : Int) + 1 by omega]; exact IntWalk.i64_in _ (by omega)
      have e5 : IntKind.i64.wrap (((V + 1 : Nat) : Int) + 1) = ((V + 1 + 1 : Nat) : Int) := by rw [show (((V + 1 + 1 : Nat) : Int)) = ((V + 1 : Nat) : Int) + 1 by omega]; exact IntWalk.i64_in _ (by omega)
      have e6 : ((i : Int)).tmod 4 = (i : Int) % 4 := by rw [Int.tmod_eq_emod_of_nonneg (by omega)]
      by_cases h3 : i % 4 = 0
      · have e3 : ((i : Int) % 4 == 0) = true := beq_iff_eq.2 (by omega)
        have y := y4 h3
        clear h1 h2 hV t1 t2 y1 y4 h3
        go_wp2_with fail
        go_roundw
        case rel => exact ⟨i + 1, by omega, by omega, by simp, by simp [y]; try (unfold wrap64; omega), trivial⟩
        case measure => simp [intOf]; omega
      · have e3 : ((i : Int) % 4 == 0) = false := beq_eq_false_iff_ne.2 (by omega)
        have y := y1 h3
        clear h1 h2 hV t1 t2 y1 y4 h3
        go_wp2_with fail
        go_roundw
        case rel => exact ⟨i + 1, by omega, by omega, by simp, by simp [y], trivial⟩
        case measure => simp [intOf]; omega
    · obtain rfl : i = n := by omega
      have u1 : decide ((i : Int) < (i : Int)) = false := decide_eq_false (by omega)
      have e1 := vul_end i
      have hv := vul_lt i
      obtain ⟨V, hV⟩ : ∃ V, vulTo (i - 1) = V := ⟨_, rfl⟩
      rw [hV] at e1
      rw [hV]
      have e6 : ((V : Int)) % 4 = ((vulP i : Nat) : Int) := by omega
      clear hV e1 h1 h2 t1 t2
      go_wp2_with fail
      go_ret2
      exact ⟨rfl, rfl⟩
/-- Find. -/
theorem find_bad (d v : Nat) (hd : d < 256) (hv : v < 256) (h : 4 ≤ d ∨ 4 ≤ v) (w : World) : Calls Tryz.prog 13 #[.int .u8 (d : Int), .int .u8 (v : Int)] w (fun e w' => e = .returned (.tuple #[.int .i64 0, .int .i64 2]) ∧ w = w') := by
  by_cases h1 : 4 ≤ d
  · have t1 : decide (3 < (d : Int)) = true := decide_eq_true (by omega)
    clear h h1
    go_enter Tryz.func13, Tryz.ntmps13
    go_wp2
    go_ret2
    exact ⟨rfl, rfl⟩
  · have t1 : decide (3 < (d : Int)) = false := decide_eq_false (by omega)
    have t2 : decide (3 < (v : Int)) = true := decide_eq_true (by omega)
    clear h h1
    go_enter Tryz.func13, Tryz.ntmps13
    go_wp2
    go_ret2
    exact ⟨rfl, rfl⟩
theorem find_ok' (d v : Nat) (hd : d < 4) (hv : v < 4) (w : World) : Calls Tryz.prog 13 #[.int .u8 (d : Int), .int .u8 (v : Int)] w (fun e w' => e = .returned (.tuple #[.int .i64 ((findP d v : Nat) : Int), .int .i64 0]) ∧ w = w') := by
  have F := Lib.hid (find_ok d hd v hv)
  have F1 := Lib.hid (find_one d hd v hv)
  have t1 : decide (3 < (d : Int)) = false := decide_eq_false (by omega)
  have t2 : decide (3 < (v : Int)) = false := decide_eq_false (by omega)
  clear hd hv
  go_enter Tryz.func13, Tryz.ntmps13
  go_wp2_with fail
  clear t1 t2
  go_loopw [6] (fun s6 wr => ∃ i : Nat, 1 ≤ i ∧ i ≤ findP d v ∧ s6 = .int .i64 (i : Int) ∧ wr = w) (fun s6 _ => 20 - (intOf s6).toNat)
  case atStart => exact ⟨1, by omega, F.out.1, rfl, rfl⟩
  case round =>
    obtain ⟨i, hi1, hi2, rfl, rfl⟩ := hrel
    have hi16 : i ≤ 16 := Nat.le_trans hi2 F.out.2.1
    have u1 : decide ((i : Int) ≤ 16) = true := decide_eq_true (by omega)
    have D1 := Lib.hid (dealer_ok i hi1 (by omega) wr)
    have V1 := Lib.hid (vuln_ok i hi1 (by omega) wr)
    have e2 : IntKind.i64.wrap ((i : Int) + 1) = ((i + 1 : Nat) : Int) := by rw [show (((i + 1 : Nat) : Int)) = (i : Int) + 1 by omega]; exact IntWalk.i64_in _ (by omega)
    by_cases hh : hitB d v i = true
    · obtain ⟨g1, g2⟩ := hit_iff.1 hh
      have hx := F1.out i (by omega) hi1 hh
      rw [g1] at D1
      rw [g2] at V1
      have b1 : ((d : Int) == (d : Int)) = true := beq_iff_eq.2 rfl
      have b2 : ((v : Int) == (v : Int)) = true := beq_iff_eq.2 rfl
      have HX := Lib.hid hx
      clear hx hh hi2 hi16 g1 g2
      go_wp2_with (first
        | (go_at_call 7; refine D1.out.mono ?_; rintro e w' ⟨rfl, rfl⟩)
        | (go_at_call 9; refine V1.out.mono ?_; rintro e w' ⟨rfl, rfl⟩))
      go_ret2
      exact ⟨by rw [← HX.out]; rfl, rfl⟩
    · have hne : i ≠ findP d v := fun e => hh (by rw [e]; exact F.out.2.2)
      have hdp := deal_lt i
      have hvp := vul_lt i
      by_cases g1 : dealP i = d
      · have g2 : vulP i ≠ v := fun g2 => hh (hit_iff.2 ⟨g1, g2⟩)
        rw [g1] at D1
        have b1 : ((d : Int) == (d : Int)) = true := beq_iff_eq.2 rfl
        have b2 : (((vulP i : Nat) : Int) == (v : Int)) = false := beq_eq_false_iff_ne.2 (by omega)
        clear hh g1 g2 hdp hvp
        generalize vulP i = V at *
        go_wp2_with (first
          | (go_at_call 7; refine D1.out.mono ?_; rintro e w' ⟨rfl, rfl⟩)
          | (go_at_call 9; refine V1.out.mono ?_; rintro e w' ⟨rfl, rfl⟩))
        go_roundw
        case rel => exact ⟨i + 1, by omega, by omega, by simp, trivial⟩
        case measure => simp [intOf]; omega
      · have b1 : (((dealP i : Nat) : Int) == (d : Int)) = false := beq_eq_false_iff_ne.2 (by omega)
        clear hh g1 hdp hvp
        generalize vulP i = V at *
        generalize dealP i = DD at *
        go_wp2_with (first
          | (go_at_call 7; refine D1.out.mono ?_; rintro e w' ⟨rfl, rfl⟩)
          | (go_at_call 9; refine V1.out.mono ?_; rintro e w' ⟨rfl, rfl⟩))
        go_roundw
        case rel => exact ⟨i + 1, by omega, by omega, by simp, trivial⟩
        case measure => simp [intOf]; omega
end Go.Proofs.YtaadipccgckehaaGreatDoor
