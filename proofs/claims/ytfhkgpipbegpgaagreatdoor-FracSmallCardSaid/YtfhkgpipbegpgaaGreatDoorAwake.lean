/- The examples of the chapter: awake returns true. -/
import Derived.Test.YtfhkgpipbegpgaaGreatDoorInv
namespace Go.Proofs.YtfhkgpipbegpgaaGreatDoor
open Go Go.RowKit

theorem aw_0 {w0 w : World} {l : List (Nat × TypeId × Array Value)} (hi : InvL w0 w l) : Calls Tryz.prog 32 #[.int .i64 6, .int .i64 (-4)] w (fun e w' => e = .returned (.tuple #[.agg #[.int .i64 (-3), .int .i64 2], .int .i64 0]) ∧ InvL w0 w' l) :=
  invF (fun w _ => make_any 6 (-4) ⟨by decide, by decide, by decide, by decide⟩ w) (by decide +kernel) hi
theorem aw_1 {w0 w : World} {l : List (Nat × TypeId × Array Value)} (hi : InvL w0 w l) : Calls Tryz.prog 9 #[.int .i64 1, .int .i64 6] w (fun e w' => e = .returned (.agg #[.int .i64 1, .int .i64 6]) ∧ InvL w0 w' l) :=
  invV (fun w _ => of_any 1 6 w) hi
theorem aw_2 {w0 w : World} {l : List (Nat × TypeId × Array Value)} (hi : InvL w0 w l) : Calls Tryz.prog 9 #[.int .i64 1, .int .i64 10] w (fun e w' => e = .returned (.agg #[.int .i64 1, .int .i64 10]) ∧ InvL w0 w' l) :=
  invV (fun w _ => of_any 1 10 w) hi
theorem aw_3 {w0 w : World} {l : List (Nat × TypeId × Array Value)} (hi : InvL w0 w l) : Calls Tryz.prog 12 #[.agg #[.int .i64 1, .int .i64 6], .agg #[.int .i64 1, .int .i64 10]] w (fun e w' => e = .returned (.tuple #[.agg #[.int .i64 4, .int .i64 15], .int .i64 0]) ∧ InvL w0 w' l) :=
  invF (fun w _ => oadd_ok 1 6 1 10 ⟨by decide, by decide, by decide, by decide⟩ ⟨by decide, by decide, by decide, by decide⟩ (by decide +kernel) (by decide +kernel) w) (by decide +kernel) hi
theorem aw_4 {w0 w : World} {l : List (Nat × TypeId × Array Value)} (hi : InvL w0 w l) : Calls Tryz.prog 9 #[.int .i64 2, .int .i64 3] w (fun e w' => e = .returned (.agg #[.int .i64 2, .int .i64 3]) ∧ InvL w0 w' l) :=
  invV (fun w _ => of_any 2 3 w) hi
theorem aw_5 {w0 w : World} {l : List (Nat × TypeId × Array Value)} (hi : InvL w0 w l) : Calls Tryz.prog 9 #[.int .i64 9, .int .i64 4] w (fun e w' => e = .returned (.agg #[.int .i64 9, .int .i64 4]) ∧ InvL w0 w' l) :=
  invV (fun w _ => of_any 9 4 w) hi
theorem aw_6 {w0 w : World} {l : List (Nat × TypeId × Array Value)} (hi : InvL w0 w l) : Calls Tryz.prog 14 #[.agg #[.int .i64 2, .int .i64 3], .agg #[.int .i64 9, .int .i64 4]] w (fun e w' => e = .returned (.tuple #[.agg #[.int .i64 3, .int .i64 2], .int .i64 0]) ∧ InvL w0 w' l) :=
  invF (fun w _ => omul_ok 2 3 9 4 ⟨by decide, by decide, by decide, by decide⟩ ⟨by decide, by decide, by decide, by decide⟩ (by decide +kernel) (by decide +kernel) w) (by decide +kernel) hi
theorem aw_7 {w0 w : World} {l : List (Nat × TypeId × Array Value)} (hi : InvL w0 w l) : Calls Tryz.prog 9 #[.int .i64 (-4611686018427387904), .int .i64 1] w (fun e w' => e = .returned (.agg #[.int .i64 (-4611686018427387904), .int .i64 1]) ∧ InvL w0 w' l) :=
  invV (fun w _ => of_any (-4611686018427387904) 1 w) hi
theorem aw_8 {w0 w : World} {l : List (Nat × TypeId × Array Value)} (hi : InvL w0 w l) : Calls Tryz.prog 9 #[.int .i64 4611686018427387904, .int .i64 1] w (fun e w' => e = .returned (.agg #[.int .i64 4611686018427387904, .int .i64 1]) ∧ InvL w0 w' l) :=
  invV (fun w _ => of_any 4611686018427387904 1 w) hi
theorem aw_9 {w0 w : World} {l : List (Nat × TypeId × Array Value)} (hi : InvL w0 w l) : Calls Tryz.prog 13 #[.agg #[.int .i64 (-4611686018427387904), .int .i64 1], .agg #[.int .i64 4611686018427387904, .int .i64 1]] w (fun e w' => e = .returned (.tuple #[.agg #[.int .i64 (-9223372036854775808), .int .i64 1], .int .i64 0]) ∧ InvL w0 w' l) :=
  invF (fun w _ => osub_ok (-4611686018427387904) 1 4611686018427387904 1 ⟨by decide, by decide, by decide, by decide⟩ ⟨by decide, by decide, by decide, by decide⟩ (by decide +kernel) (by decide +kernel) w) (by decide +kernel) hi
theorem aw_10 {w0 w : World} {l : List (Nat × TypeId × Array Value)} (hi : InvL w0 w l) : Calls Tryz.prog 9 #[.int .i64 1, .int .i64 1099511627776] w (fun e w' => e = .returned (.agg #[.int .i64 1, .int .i64 1099511627776]) ∧ InvL w0 w' l) :=
  invV (fun w _ => of_any 1 1099511627776 w) hi
theorem aw_11 {w0 w : World} {l : List (Nat × TypeId × Array Value)} (hi : InvL w0 w l) : Calls Tryz.prog 12 #[.agg #[.int .i64 1, .int .i64 1099511627776], .agg #[.int .i64 1, .int .i64 1099511627776]] w (fun e w' => e = .returned (.tuple #[.agg #[.int .i64 1, .int .i64 549755813888], .int .i64 0]) ∧ InvL w0 w' l) :=
  invF (fun w _ => oadd_ok 1 1099511627776 1 1099511627776 ⟨by decide, by decide, by decide, by decide⟩ ⟨by decide, by decide, by decide, by decide⟩ (by decide +kernel) (by decide +kernel) w) (by decide +kernel) hi
theorem aw_12 {w0 w : World} {l : List (Nat × TypeId × Array Value)} (hi : InvL w0 w l) : Calls Tryz.prog 9 #[.int .i64 0, .int .i64 1] w (fun e w' => e = .returned (.agg #[.int .i64 0, .int .i64 1]) ∧ InvL w0 w' l) :=
  invV (fun w _ => of_any 0 1 w) hi
theorem aw_13 {w0 w : World} {l : List (Nat × TypeId × Array Value)} (hi : InvL w0 w l) : Calls Tryz.prog 15 #[.agg #[.int .i64 2, .int .i64 3], .agg #[.int .i64 0, .int .i64 1]] w (fun e w' => e = .returned (.tuple #[.agg #[.int .i64 0, .int .i64 0], .int .i64 2]) ∧ InvL w0 w' l) :=
  invF (fun w _ => odiv_zero 2 3 ⟨by decide, by decide, by decide, by decide⟩ (by decide +kernel) w) rfl hi
theorem aw_14 {w0 w : World} {l : List (Nat × TypeId × Array Value)} (hi : InvL w0 w l) : Calls Tryz.prog 12 #[.agg #[.int .i64 4611686018427387904, .int .i64 1], .agg #[.int .i64 4611686018427387904, .int .i64 1]] w (fun e w' => e = .returned (.tuple #[.agg #[.int .i64 0, .int .i64 0], .int .i64 3]) ∧ InvL w0 w' l) :=
  invF (fun w _ => oadd_ok 4611686018427387904 1 4611686018427387904 1 ⟨by decide, by decide, by decide, by decide⟩ ⟨by decide, by decide, by decide, by decide⟩ (by decide +kernel) (by decide +kernel) w) (by decide +kernel) hi
theorem aw_15 {w0 w : World} {l : List (Nat × TypeId × Array Value)} (hi : InvL w0 w l) : Calls Tryz.prog 9 #[.int .i64 1, .int .i64 4611686018427387904] w (fun e w' => e = .returned (.agg #[.int .i64 1, .int .i64 4611686018427387904]) ∧ InvL w0 w' l) :=
  invV (fun w _ => of_any 1 4611686018427387904 w) hi
theorem aw_16 {w0 w : World} {l : List (Nat × TypeId × Array Value)} (hi : InvL w0 w l) : Calls Tryz.prog 9 #[.int .i64 1, .int .i64 2] w (fun e w' => e = .returned (.agg #[.int .i64 1, .int .i64 2]) ∧ InvL w0 w' l) :=
  invV (fun w _ => of_any 1 2 w) hi
theorem aw_17 {w0 w : World} {l : List (Nat × TypeId × Array Value)} (hi : InvL w0 w l) : Calls Tryz.prog 14 #[.agg #[.int .i64 1, .int .i64 4611686018427387904], .agg #[.int .i64 1, .int .i64 2]] w (fun e w' => e = .returned (.tuple #[.agg #[.int .i64 0, .int .i64 0], .int .i64 3]) ∧ InvL w0 w' l) :=
  invF (fun w _ => omul_ok 1 4611686018427387904 1 2 ⟨by decide, by decide, by decide, by decide⟩ ⟨by decide, by decide, by decide, by decide⟩ (by decide +kernel) (by decide +kernel) w) (by decide +kernel) hi
theorem aw_18 {w0 w : World} {l : List (Nat × TypeId × Array Value)} (hi : InvL w0 w l) : Calls Tryz.prog 9 #[.int .i64 1, .int .i64 3] w (fun e w' => e = .returned (.agg #[.int .i64 1, .int .i64 3]) ∧ InvL w0 w' l) :=
  invV (fun w _ => of_any 1 3 w) hi
theorem aw_19 {w0 w : World} {l : List (Nat × TypeId × Array Value)} (hi : InvL w0 w l) : Calls Tryz.prog 9 #[.int .i64 3, .int .i64 10] w (fun e w' => e = .returned (.agg #[.int .i64 3, .int .i64 10]) ∧ InvL w0 w' l) :=
  invV (fun w _ => of_any 3 10 w) hi
theorem aw_20 {w0 w : World} {l : List (Nat × TypeId × Array Value)} (hi : InvL w0 w l) : Calls Tryz.prog 22 #[.agg #[.int .i64 1, .int .i64 3], .agg #[.int .i64 3, .int .i64 10]] w (fun e w' => e = .returned (.tuple #[.int .i64 1, .int .i64 0]) ∧ InvL w0 w' l) :=
  invP (fun w _ => ocmp_ok 1 3 3 10 ⟨by decide, by decide, by decide, by decide⟩ ⟨by decide, by decide, by decide, by decide⟩ (by decide +kernel) (by decide +kernel) w) (by decide +kernel) hi
theorem aw_21 {w0 w : World} {l : List (Nat × TypeId × Array Value)} (hi : InvL w0 w l) : Calls Tryz.prog 9 #[.int .i64 5, .int .i64 2] w (fun e w' => e = .returned (.agg #[.int .i64 5, .int .i64 2]) ∧ InvL w0 w' l) :=
  invV (fun w _ => of_any 5 2 w) hi
theorem aw_22 {w0 w : World} {l : List (Nat × TypeId × Array Value)} (hi : InvL w0 w l) : Calls Tryz.prog 24 #[.agg #[.int .i64 5, .int .i64 2]] w (fun e w' => e = .returned (.tuple #[.int .i64 3, .int .i64 0]) ∧ InvL w0 w' l) :=
  invP (fun w _ => onear_ok 5 2 ⟨by decide, by decide, by decide, by decide⟩ (by decide +kernel) w) (by decide +kernel) hi
theorem aw_23 {w0 w : World} {l : List (Nat × TypeId × Array Value)} (hi : InvL w0 w l) : Calls Tryz.prog 9 #[.int .i64 (-5), .int .i64 2] w (fun e w' => e = .returned (.agg #[.int .i64 (-5), .int .i64 2]) ∧ InvL w0 w' l) :=
  invV (fun w _ => of_any (-5) 2 w) hi
theorem aw_24 {w0 w : World} {l : List (Nat × TypeId × Array Value)} (hi : InvL w0 w l) : Calls Tryz.prog 24 #[.agg #[.int .i64 (-5), .int .i64 2]] w (fun e w' => e = .returned (.tuple #[.int .i64 (-3), .int .i64 0]) ∧ InvL w0 w' l) :=
  invP (fun w _ => onear_ok (-5) 2 ⟨by decide, by decide, by decide, by decide⟩ (by decide +kernel) w) (by decide +kernel) hi
theorem aw_25 {w0 w : World} {l : List (Nat × TypeId × Array Value)} (hi : InvL w0 w l) : Calls Tryz.prog 9 #[.int .i64 12, .int .i64 5] w (fun e w' => e = .returned (.agg #[.int .i64 12, .int .i64 5]) ∧ InvL w0 w' l) :=
  invV (fun w _ => of_any 12 5 w) hi
theorem aw_26 {w0 w : World} {l : List (Nat × TypeId × Array Value)} (hi : InvL w0 w l) : Calls Tryz.prog 24 #[.agg #[.int .i64 12, .int .i64 5]] w (fun e w' => e = .returned (.tuple #[.int .i64 2, .int .i64 0]) ∧ InvL w0 w' l) :=
  invP (fun w _ => onear_ok 12 5 ⟨by decide, by decide, by decide, by decide⟩ (by decide +kernel) w) (by decide +kernel) hi
theorem aw_27 {w0 w : World} {l : List (Nat × TypeId × Array Value)} (hi : InvL w0 w l) : Calls Tryz.prog 26 #[.agg #[.int .i64 2, .int .i64 3], .int .i64 2] w (fun e w' => e = .returned (.tuple #[.string ⟨#[48, 46, 54, 55]⟩, .int .i64 0]) ∧ InvL w0 w' l) :=
  invS (fun w hw => oround_ok 2 3 2 (by omega) ⟨by decide, by decide, by decide, by decide⟩ (by decide +kernel) w hw) (by decide +kernel) hi
theorem aw_28 {w0 w : World} {l : List (Nat × TypeId × Array Value)} (hi : InvL w0 w l) : Calls Tryz.prog 9 #[.int .i64 (-1), .int .i64 8] w (fun e w' => e = .returned (.agg #[.int .i64 (-1), .int .i64 8]) ∧ InvL w0 w' l) :=
  invV (fun w _ => of_any (-1) 8 w) hi
theorem aw_29 {w0 w : World} {l : List (Nat × TypeId × Array Value)} (hi : InvL w0 w l) : Calls Tryz.prog 26 #[.agg #[.int .i64 (-1), .int .i64 8], .int .i64 2] w (fun e w' => e = .returned (.tuple #[.string ⟨#[45, 48, 46, 49, 51]⟩, .int .i64 0]) ∧ InvL w0 w' l) :=
  invS (fun w hw => oround_ok (-1) 8 2 (by omega) ⟨by decide, by decide, by decide, by decide⟩ (by decide +kernel) w hw) (by decide +kernel) hi
theorem aw_30 {w0 w : World} {l : List (Nat × TypeId × Array Value)} (hi : InvL w0 w l) : Calls Tryz.prog 9 #[.int .i64 1999, .int .i64 1000] w (fun e w' => e = .returned (.agg #[.int .i64 1999, .int .i64 1000]) ∧ InvL w0 w' l) :=
  invV (fun w _ => of_any 1999 1000 w) hi
theorem aw_31 {w0 w : World} {l : List (Nat × TypeId × Array Value)} (hi : InvL w0 w l) : Calls Tryz.prog 26 #[.agg #[.int .i64 1999, .int .i64 1000], .int .i64 0] w (fun e w' => e = .returned (.tuple #[.string ⟨#[50]⟩, .int .i64 0]) ∧ InvL w0 w' l) :=
  invS (fun w hw => oround_ok 1999 1000 0 (by omega) ⟨by decide, by decide, by decide, by decide⟩ (by decide +kernel) w hw) (by decide +kernel) hi
theorem aw_32 {w0 w : World} {l : List (Nat × TypeId × Array Value)} (hi : InvL w0 w l) : Calls Tryz.prog 9 #[.int .i64 (-1), .int .i64 1000] w (fun e w' => e = .returned (.agg #[.int .i64 (-1), .int .i64 1000]) ∧ InvL w0 w' l) :=
  invV (fun w _ => of_any (-1) 1000 w) hi
theorem aw_33 {w0 w : World} {l : List (Nat × TypeId × Array Value)} (hi : InvL w0 w l) : Calls Tryz.prog 26 #[.agg #[.int .i64 (-1), .int .i64 1000], .int .i64 2] w (fun e w' => e = .returned (.tuple #[.string ⟨#[48, 46, 48, 48]⟩, .int .i64 0]) ∧ InvL w0 w' l) :=
  invS (fun w hw => oround_ok (-1) 1000 2 (by omega) ⟨by decide, by decide, by decide, by decide⟩ (by decide +kernel) w hw) (by decide +kernel) hi
theorem aw_34 {w0 w : World} {l : List (Nat × TypeId × Array Value)} (hi : InvL w0 w l) : Calls Tryz.prog 9 #[.int .i64 (-3), .int .i64 2] w (fun e w' => e = .returned (.agg #[.int .i64 (-3), .int .i64 2]) ∧ InvL w0 w' l) :=
  invV (fun w _ => of_any (-3) 2 w) hi
theorem aw_35 {w0 w : World} {l : List (Nat × TypeId × Array Value)} (hi : InvL w0 w l) : Calls Tryz.prog 28 #[.agg #[.int .i64 (-3), .int .i64 2]] w (fun e w' => e = .returned (.tuple #[.string ⟨#[45, 51, 47, 50]⟩, .int .i64 0]) ∧ InvL w0 w' l) :=
  invS (fun w hw => otext_ok (-3) 2 ⟨by decide, by decide, by decide, by decide⟩ (by decide +kernel) w hw) (by decide +kernel) hi
theorem aw_36 {w0 w : World} {l : List (Nat × TypeId × Array Value)} (hi : InvL w0 w l) : Calls Tryz.prog 9 #[.int .i64 4, .int .i64 1] w (fun e w' => e = .returned (.agg #[.int .i64 4, .int .i64 1]) ∧ InvL w0 w' l) :=
  invV (fun w _ => of_any 4 1 w) hi
theorem aw_37 {w0 w : World} {l : List (Nat × TypeId × Array Value)} (hi : InvL w0 w l) : Calls Tryz.prog 28 #[.agg #[.int .i64 4, .int .i64 1]] w (fun e w' => e = .returned (.tuple #[.string ⟨#[52]⟩, .int .i64 0]) ∧ InvL w0 w' l) :=
  invS (fun w hw => otext_ok 4 1 ⟨by decide, by decide, by decide, by decide⟩ (by decide +kernel) w hw) (by decide +kernel) hi
theorem aw_38 {w0 w : World} {l : List (Nat × TypeId × Array Value)} (hi : InvL w0 w l) : Calls Tryz.prog 33 #[.string ⟨#[54, 47, 52]⟩] w (fun e w' => e = .returned (.tuple #[.agg #[.int .i64 0, .int .i64 0], .int .i64 10]) ∧ InvL w0 w' l) :=
  invF (fun w hw => read_any [54, 47, 52] (by decide) w hw) (by decide +kernel) hi
set_option maxRecDepth 100000 in
set_option maxHeartbeats 4000000 in
theorem awake_any (w : World) (he : Env w) : Calls Tryz.prog 7 #[] w (RetBool true w) := by
  have h0 := InvL.start he
  clear he
  go_enter Tryz.func7, Tryz.ntmps7
  go_wp2_with fail
  refine (aw_0 h0).mono ?_
  rintro e w1 ⟨rfl, h1⟩
  clear h0
  have h1' := h1.push 23 #[.int .i64 (-3), .int .i64 2]
  clear h1
  have h1 := h1'
  clear h1'
  go_wp2_with fail
  refine (aw_1 h1).mono ?_
  rintro e w2 ⟨rfl, h2⟩
  clear h1
  go_wp2_with fail
  refine (aw_2 h2).mono ?_
  rintro e w3 ⟨rfl, h3⟩
  clear h2
  go_wp2_with fail
  refine (aw_3 h3).mono ?_
  rintro e w4 ⟨rfl, h4⟩
  clear h3
  have h4' := h4.push 23 #[.int .i64 4, .int .i64 15]
  clear h4
  have h4 := h4'
  clear h4'
  go_wp2_with fail
  refine (aw_4 h4).mono ?_
  rintro e w5 ⟨rfl, h5⟩
  clear h4
  go_wp2_with fail
  refine (aw_5 h5).mono ?_
  rintro e w6 ⟨rfl, h6⟩
  clear h5
  go_wp2_with fail
  refine (aw_6 h6).mono ?_
  rintro e w7 ⟨rfl, h7⟩
  clear h6
  have h7' := h7.push 23 #[.int .i64 3, .int .i64 2]
  clear h7
  have h7 := h7'
  clear h7'
  go_wp2_with fail
  refine (aw_7 h7).mono ?_
  rintro e w8 ⟨rfl, h8⟩
  clear h7
  go_wp2_with fail
  refine (aw_8 h8).mono ?_
  rintro e w9 ⟨rfl, h9⟩
  clear h8
  go_wp2_with fail
  refine (aw_9 h9).mono ?_
  rintro e w10 ⟨rfl, h10⟩
  clear h9
  have h10' := h10.push 23 #[.int .i64 (-9223372036854775808), .int .i64 1]
  clear h10
  have h10 := h10'
  clear h10'
  go_wp2_with fail
  refine (aw_10 h10).mono ?_
  rintro e w11 ⟨rfl, h11⟩
  clear h10
  go_wp2_with fail
  refine (aw_10 h11).mono ?_
  rintro e w12 ⟨rfl, h12⟩
  clear h11
  go_wp2_with fail
  refine (aw_11 h12).mono ?_
  rintro e w13 ⟨rfl, h13⟩
  clear h12
  have h13' := h13.push 23 #[.int .i64 1, .int .i64 549755813888]
  clear h13
  have h13 := h13'
  clear h13'
  go_upto_region 6 with fail
  have x00 := h13.cell (i := 0) rfl (j := 0) (v := .int .i64 1) rfl
  have x01 := h13.cell (i := 0) rfl (j := 1) (v := .int .i64 549755813888) rfl
  have x10 := h13.cell (i := 1) rfl (j := 0) (v := .int .i64 (-9223372036854775808)) rfl
  have x11 := h13.cell (i := 1) rfl (j := 1) (v := .int .i64 1) rfl
  have x20 := h13.cell (i := 2) rfl (j := 0) (v := .int .i64 3) rfl
  have x21 := h13.cell (i := 2) rfl (j := 1) (v := .int .i64 2) rfl
  have x30 := h13.cell (i := 3) rfl (j := 0) (v := .int .i64 4) rfl
  have x31 := h13.cell (i := 3) rfl (j := 1) (v := .int .i64 15) rfl
  have x40 := h13.cell (i := 4) rfl (j := 0) (v := .int .i64 (-3)) rfl
  have x41 := h13.cell (i := 4) rfl (j := 1) (v := .int .i64 2) rfl
  have k00 := Since.cell x00
  have k01 := Since.cell x01
  have k10 := Since.cell x10
  have k11 := Since.cell x11
  have k20 := Since.cell x20
  have k21 := Since.cell x21
  have k30 := Since.cell x30
  have k31 := Since.cell x31
  have k40 := Since.cell x40
  have k41 := Since.cell x41
  clear x00 x01 x10 x11 x20 x21 x30 x31 x40 x41
  have H6 := Lib.hid h13.env
  have B6 := Lib.hid h13.below
  clear h13
  refine region_since (by kernel_rfl) (by kernel_rfl) ?_
  repeat (quiet_step ((go_at_call 9; exact Calls.since (of_any _ _ _))))
  refine wpQuiet_nil ?_
  rintro w' ⟨u, rfl⟩
  clear k00 k01 k10 k11 k20 k21 k30 k31 k40 k41
  have h13 : InvL w u.val [] := ⟨H6.out.keep u.property, bchain B6.out u.property, fun _ h => by cases h⟩
  clear H6 B6
  go_wp2_with fail
  refine (aw_4 h13).mono ?_
  rintro e w14 ⟨rfl, h14⟩
  clear h13
  go_wp2_with fail
  refine (aw_12 h14).mono ?_
  rintro e w15 ⟨rfl, h15⟩
  clear h14
  go_wp2_with fail
  refine (aw_13 h15).mono ?_
  rintro e w16 ⟨rfl, h16⟩
  clear h15
  go_wp2_with fail
  refine (aw_8 h16).mono ?_
  rintro e w17 ⟨rfl, h17⟩
  clear h16
  go_wp2_with fail
  refine (aw_8 h17).mono ?_
  rintro e w18 ⟨rfl, h18⟩
  clear h17
  go_wp2_with fail
  refine (aw_14 h18).mono ?_
  rintro e w19 ⟨rfl, h19⟩
  clear h18
  go_wp2_with fail
  refine (aw_15 h19).mono ?_
  rintro e w20 ⟨rfl, h20⟩
  clear h19
  go_wp2_with fail
  refine (aw_16 h20).mono ?_
  rintro e w21 ⟨rfl, h21⟩
  clear h20
  go_wp2_with fail
  refine (aw_17 h21).mono ?_
  rintro e w22 ⟨rfl, h22⟩
  clear h21
  go_wp2_with fail
  refine (aw_18 h22).mono ?_
  rintro e w23 ⟨rfl, h23⟩
  clear h22
  go_wp2_with fail
  refine (aw_19 h23).mono ?_
  rintro e w24 ⟨rfl, h24⟩
  clear h23
  go_wp2_with fail
  refine (aw_20 h24).mono ?_
  rintro e w25 ⟨rfl, h25⟩
  clear h24
  go_wp2_with fail
  refine (aw_21 h25).mono ?_
  rintro e w26 ⟨rfl, h26⟩
  clear h25
  go_wp2_with fail
  refine (aw_22 h26).mono ?_
  rintro e w27 ⟨rfl, h27⟩
  clear h26
  go_wp2_with fail
  refine (aw_23 h27).mono ?_
  rintro e w28 ⟨rfl, h28⟩
  clear h27
  go_wp2_with fail
  refine (aw_24 h28).mono ?_
  rintro e w29 ⟨rfl, h29⟩
  clear h28
  go_wp2_with fail
  refine (aw_25 h29).mono ?_
  rintro e w30 ⟨rfl, h30⟩
  clear h29
  go_wp2_with fail
  refine (aw_26 h30).mono ?_
  rintro e w31 ⟨rfl, h31⟩
  clear h30
  go_wp2_with fail
  refine (aw_4 h31).mono ?_
  rintro e w32 ⟨rfl, h32⟩
  clear h31
  go_wp2_with fail
  refine (aw_27 h32).mono ?_
  rintro e w33 ⟨rfl, h33⟩
  clear h32
  go_wp2_with fail
  refine (aw_28 h33).mono ?_
  rintro e w34 ⟨rfl, h34⟩
  clear h33
  go_wp2_with fail
  refine (aw_29 h34).mono ?_
  rintro e w35 ⟨rfl, h35⟩
  clear h34
  go_wp2_with fail
  refine (aw_30 h35).mono ?_
  rintro e w36 ⟨rfl, h36⟩
  clear h35
  go_wp2_with fail
  refine (aw_31 h36).mono ?_
  rintro e w37 ⟨rfl, h37⟩
  clear h36
  go_wp2_with fail
  refine (aw_32 h37).mono ?_
  rintro e w38 ⟨rfl, h38⟩
  clear h37
  go_wp2_with fail
  refine (aw_33 h38).mono ?_
  rintro e w39 ⟨rfl, h39⟩
  clear h38
  go_wp2_with fail
  refine (aw_34 h39).mono ?_
  rintro e w40 ⟨rfl, h40⟩
  clear h39
  go_wp2_with fail
  refine (aw_35 h40).mono ?_
  rintro e w41 ⟨rfl, h41⟩
  clear h40
  go_wp2_with fail
  refine (aw_36 h41).mono ?_
  rintro e w42 ⟨rfl, h42⟩
  clear h41
  go_wp2_with fail
  refine (aw_37 h42).mono ?_
  rintro e w43 ⟨rfl, h43⟩
  clear h42
  go_wp2_with fail
  refine (aw_38 h43).mono ?_
  rintro e w44 ⟨rfl, h44⟩
  clear h43
  go_wp2
  go_ret
  exact ⟨rfl, h44.below⟩
end Go.Proofs.YtfhkgpipbegpgaaGreatDoor
