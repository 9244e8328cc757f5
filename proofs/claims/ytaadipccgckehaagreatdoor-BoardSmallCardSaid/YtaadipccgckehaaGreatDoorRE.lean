/- The reference's writing of a deal and of a record. -/
import Derived.Test.YtaadipccgckehaaGreatDoorRD
set_option linter.unusedSimpArgs false
namespace Go.Proofs.YtaadipccgckehaaGreatDoor
open Go Go.RowKit Go.Shelf Pl

def preT (D : Nat → Nat) : Nat → List UInt8
  | 0 => [78, 58]
  | i + 1 => preT D i ++ ((if 0 < i then [32] else []) ++ writeL (D i))
theorem pre_4 (D : Nat → Nat) : preT D 4 = textD D := by
  simp [preT, textD, dealT]
theorem pre_len (D : Nat → Nat) : ∀ i, (preT D i).length ≤ 2 + 56 * i
  | 0 => by simp [preT]
  | i + 1 => by
    have h1 := pre_len D i
    have h2 := write_len (D i)
    have h3 : ((if 0 < i then [32] else []) : List UInt8).length ≤ 1 := by split <;> simp
    simp only [preT, List.length_append]
    omega
theorem str_app (a b : List UInt8) : (⟨a.toArray⟩ : ByteArray) ++ ⟨b.toArray⟩ = ⟨(a ++ b).toArray⟩ := by
  apply ByteArray.ext; simp
set_option maxRecDepth 100000 in
theorem rdeal_bad (D : Nat → Nat) (hD : D64 D) (hp : partB D = false) (w : World) : Calls Tryz.prog 28 #[.agg #[.int .u64 (D 0 : Nat), .int .u64 (D 1 : Nat), .int .u64 (D 2 : Nat), .int .u64 (D 3 : Nat)]] w (fun e w' => e = .returned (.tuple #[.string ⟨#[]⟩, .int .i64 60]) ∧ Below w.heap.size w w') := by
  have PA := Lib.hid (fun W => rpart_any D hD W)
  rw [hp] at PA
  clear hp hD
  go_enter Tryz.func28, Tryz.ntmps28
  go_wp2_with fail
  refine (PA.out _).mono ?_
  rintro e w' ⟨rfl, hb⟩
  have HB := Lib.hid ((below1 w _).trans (hb.mono (below1 w _).size))
  clear hb
  go_wp2_with fail
  go_ret2
  exact ⟨rfl, HB.out⟩
set_option maxRecDepth 100000 in
set_option maxHeartbeats 2000000 in
theorem rdeal_ok (D : Nat → Nat) (hD : D64 D) (hp : partB D = true) (w : World) : Calls Tryz.prog 28 #[.agg #[.int .u64 (D 0 : Nat), .int .u64 (D 1 : Nat), .int .u64 (D 2 : Nat), .int .u64 (D 3 : Nat)]] w (fun e w' => e = .returned (.tuple #[strV' (textD D), .int .i64 0]) ∧ Below w.heap.size w w') := by
  have PA := Lib.hid (fun W => rpart_any D hD W)
  have WR := Lib.hid (fun k (hk : k < 4) W => rhand_any (D k) (by have := ((part_iff D).1 hp k hk).1; omega) W)
  rw [hp] at PA
  clear hp hD
  go_enter Tryz.func28, Tryz.ntmps28
  go_wp2_with fail
  refine (PA.out _).mono ?_
  rintro e w1 ⟨rfl, hb⟩
  have HK := Lib.hid ((Blk.new w 23 (dC D)).keep hb (by simp [dC]))
  have HB := Lib.hid (bchain (below1 w (.cells (dC D) 23)) hb)
  clear hb PA
  generalize hp0 : w.heap.size = p0 at *
  go_wp2_with fail
  go_loopw [4, 5] (fun s4 s5 wr => ∃ i : Nat, i ≤ 4 ∧ s5 = .int .i64 (i : Int) ∧ s4 = .string ⟨(preT D i).toArray⟩ ∧ Hid (Blk wr p0 23 (dC D)) ∧ Hid (Below p0 w wr)) (fun _ s5 _ => 4 - (intOf s5).toNat)
  case atStart => exact ⟨0, by omega, rfl, rfl, HK, HB⟩
  case round =>
    clear HK HB
    obtain ⟨i, hi, rfl, rfl, HK, HB⟩ := hrel
    by_cases hlt : i < 4
    · have u1 : decide ((i : Int) < 4) = true := decide_eq_true (by omega)
      have x0 := HK.out.cell (dC_get D i hlt)
      have e2 := inc64 i (by omega)
      have W1 := Lib.hid (WR.out i hlt)
      have e5 : (i : Int) < 4 := by omega
      have e6 : (0 : Int) ≤ (i : Int) := by omega
      have hpl := pre_len D i
      have hwl := write_len (D i)
      obtain ⟨E0, hE0⟩ : ∃ E0 : ByteArray, (⟨(preT D i).toArray⟩ : ByteArray) = E0 := ⟨_, rfl⟩
      obtain ⟨T0, hT0⟩ : ∃ T0 : ByteArray, (⟨(writeL (D i)).toArray⟩ : ByteArray) = T0 := ⟨_, rfl⟩
      have hEs : E0.size = (preT D i).length := by rw [← hE0]; rfl
      have hTs : T0.size = (writeL (D i)).length := by rw [← hT0]; rfl
      have hE1 : ¬ 9223372036854775807 < E0.size + 1 := by omega
      have hE2 : ¬ 9223372036854775807 < E0.size + 1 + T0.size := by omega
      have hE3 : ¬ 9223372036854775807 < E0.size + T0.size := by omega
      have hst : strV' (writeL (D i)) = .string T0 := by unfold strV'; rw [hT0]
      rw [hst] at W1
      rw [hE0]
      by_cases h0 : 0 < i
      · have t1 : decide (0 < (i : Int)) = true := decide_eq_true (by omega)
        have t1b : decide (0 < i) = true := decide_eq_true h0
        have HN : Hid (E0 ++ ⟨#[32]⟩ ++ T0 = ⟨(preT D (i + 1)).toArray⟩) := Lib.hid (by
          rw [← hE0, ← hT0, str_snoc, str_app]
          simp only [preT, if_pos h0, List.append_assoc])
        clear hE0 hT0 hEs hTs hpl hwl hst h0 WR
        generalize D i = h at *
        go_wp2_with fail
        refine (W1.out _).mono ?_
        rintro e w2 ⟨rfl, hb⟩
        have HK2 := Lib.hid (HK.out.keep hb HK.out.lt)
        have HB2 := Lib.hid (HB.out.trans (hb.mono (by have := HB.out.size; omega)))
        clear hb HK HB x0
        go_wp2_with fail
        go_roundw
        case rel => exact ⟨i + 1, by omega, by simp, by rw [HN.out], HK2, HB2⟩
        case measure => simp [intOf]; try omega
      · have t1 : decide (0 < (i : Int)) = false := decide_eq_false (by omega)
        have t1b : decide (0 < i) = false := decide_eq_false h0
        have HN : Hid (E0 ++ T0 = ⟨(preT D (i + 1)).toArray⟩) := Lib.hid (by
          rw [← hE0, ← hT0, str_app]
          simp only [preT, if_neg h0, List.nil_append])
        clear hE0 hT0 hEs hTs hpl hwl hst h0 WR
        generalize D i = h at *
        go_wp2_with fail
        refine (W1.out _).mono ?_
        rintro e w2 ⟨rfl, hb⟩
        have HK2 := Lib.hid (HK.out.keep hb HK.out.lt)
        have HB2 := Lib.hid (HB.out.trans (hb.mono (by have := HB.out.size; omega)))
        clear hb HK HB x0
        go_wp2_with fail
        go_roundw
        case rel => exact ⟨i + 1, by omega, by simp, by rw [HN.out], HK2, HB2⟩
        case measure => simp [intOf]; try omega
    · obtain rfl : i = 4 := by omega
      have u1 : decide ((4 : Int) < 4) = false := rfl
      rw [show ((4 : Nat) : Int) = 4 from rfl]
      have HP := Lib.hid (pre_4 D)
      go_wp2_with fail
      go_ret2
      exact ⟨by unfold strV'; rw [← HP.out]; rfl, by rw [hp0]; exact HB.out⟩
theorem head_eq (n : Nat) : headL n = numL n ++ [32] ++ seatW (dealP n) ++ [32] ++ wordW (vulP n) ++ [32] := by
  simp [headL, sp]
theorem head_len (n : Nat) : (headL n).length ≤ 11 := by
  have h1 := num_len n
  have h2 := word_len (vulP n)
  rw [head_eq]
  simp only [List.length_append, List.length_cons, List.length_nil, seatW]
  omega
set_option maxRecDepth 100000 in
set_option maxHeartbeats 2000000 in
theorem rhead_any (n : Nat) (h1 : 1 ≤ n) (h2 : n ≤ 128) (w : World) : Calls Tryz.prog 29 #[.int .i64 (n : Int)] w (fun e w' => e = .returned (.string ⟨(headL n).toArray⟩) ∧ Below w.heap.size w w') := by
  have DL := Lib.hid (fun W => rdealer_ok n h1 h2 W)
  have VL := Lib.hid (fun W => rvuln_ok n h1 h2 W)
  have NM := Lib.hid (fun W => rnum_any n (by omega) W)
  have HH := Lib.hid (head_eq n)
  have hd4 := deal_lt n
  have hv4 := vul_lt n
  have hnl := num_len n
  generalize dealP n = dl at *
  generalize vulP n = vl at *
  have HCUT := Lib.hid (seat_cut dl hd4)
  obtain ⟨TN, hTN⟩ : ∃ X : ByteArray, (⟨(numL n).toArray⟩ : ByteArray) = X := ⟨_, rfl⟩
  have hTs : TN.size = (numL n).length := by rw [← hTN]; rfl
  have z1 : ¬ 9223372036854775807 < TN.size + 1 := by omega
  obtain ⟨SD, hSD⟩ : ∃ X : ByteArray, (⟨#[78, 69, 83, 87]⟩ : ByteArray).extract dl (dl + 1) = X := ⟨_, rfl⟩
  have hSs : SD.size = 1 := by rw [← hSD, HCUT.out]; rfl
  have z2 : ¬ 9223372036854775807 < TN.size + 1 + SD.size := by omega
  have HO : Hid (TN ++ ⟨#[32]⟩ ++ SD = ⟨(numL n ++ [32] ++ seatW dl).toArray⟩ ∧ (numL n ++ [32] ++ seatW dl).length ≤ 5) := Lib.hid ⟨by
    rw [← hSD, HCUT.out, ← hTN, str_snoc, str_app], by simp only [List.length_append, List.length_cons, List.length_nil, seatW]; omega⟩
  rw [hTN] at NM
  clear h1 h2 hnl hTs hTN hSs HCUT
  go_enter Tryz.func29, Tryz.ntmps29
  go_upto_region 3 with (first
    | (go_at_call 8; refine (DL.out _).mono ?_; rintro e w' ⟨rfl, rfl⟩)
    | (go_at_call 10; refine (VL.out _).mono ?_; rintro e w' ⟨rfl, rfl⟩))
  clear DL VL
  have e1 : IntKind.u8.wrap ((dl : Int) + 1) = ((dl + 1 : Nat) : Int) := by show ((dl : Int) + 1) % 256 = _; omega
  have e1b : ((dl : Int) + 1) % 256 = ((dl + 1 : Nat) : Int) := by omega
  have hr1 : (0 : Int) ≤ (dl : Int) + 1 ∧ (dl : Int) + 1 ≤ 4 := by omega
  have hr2 : (dl : Int) ≤ (dl : Int) + 1 := by omega
  go_cut [7] (fun s7 wx => ∃ X : ByteArray, s7 = .string X ∧ Hid (X = ⟨(numL n ++ [32] ++ seatW dl).toArray⟩) ∧ Hid (Below w.heap.size w wx))
  case first =>
    refine rest_begin (by kernel_rfl) ?_
    have HB2 := Lib.hid (Below.refl w.heap.size w).drew
    clear hv4 HH
    generalize w.drew = W0 at *
    refine rest_flow3 [some 18, some 19, some 20, some 21, some 22, some 23, some 24, some 25] [Sp.is (.int .i64 (n : Int)), Sp.is (.string TN), Sp.is (.string (TN ++ ⟨#[32]⟩)), Sp.is (.int .u8 (dl : Int)), Sp.is (.int .u8 (dl : Int)), Sp.is (.int .u8 ((dl + 1 : Nat) : Int)), Sp.is (.string SD), Sp.is (.string (TN ++ ⟨#[32]⟩ ++ SD))] [false, false, false, false, false, false, false, false] 8 (by kernel_rfl) (by kernel_rfl) (fun u F hF => ?_) (fun u w' hbF hsF hold hap => ?_)
    case refine_1 =>
      have E0 : F.eval (.tmp 0) = (.int .i64 (n : Int)) := (congrArg (fun a => Act.eval a (.tmp 0)) hF).trans (eval_out [some 18, some 19, some 20, some 21, some 22, some 23, some 24, some 25] 0 _ (by decide))
      have D18 : F.eval (.tmp 18) = u 0 := (congrArg (fun a => Act.eval a (.tmp 18)) hF).trans (eval_in [some 18, some 19, some 20, some 21, some 22, some 23, some 24, some 25] 0 0 _ (by decide) (by omega) rfl (of_decide_eq_true (by kernel_rfl)))
      have D19 : F.eval (.tmp 19) = u 1 := (congrArg (fun a => Act.eval a (.tmp 19)) hF).trans (eval_in [some 18, some 19, some 20, some 21, some 22, some 23, some 24, some 25] 0 1 _ (by decide) (by omega) rfl (of_decide_eq_true (by kernel_rfl)))
      have E3 : F.eval (.tmp 3) = (.int .u8 (dl : Int)) := (congrArg (fun a => Act.eval a (.tmp 3)) hF).trans (eval_out [some 18, some 19, some 20, some 21, some 22, some 23, some 24, some 25] 0 _ (by decide))
      have D22 : F.eval (.tmp 22) = u 4 := (congrArg (fun a => Act.eval a (.tmp 22)) hF).trans (eval_in [some 18, some 19, some 20, some 21, some 22, some 23, some 24, some 25] 0 4 _ (by decide) (by omega) rfl (of_decide_eq_true (by kernel_rfl)))
      have D21 : F.eval (.tmp 21) = u 3 := (congrArg (fun a => Act.eval a (.tmp 21)) hF).trans (eval_in [some 18, some 19, some 20, some 21, some 22, some 23, some 24, some 25] 0 3 _ (by decide) (by omega) rfl (of_decide_eq_true (by kernel_rfl)))
      have D23 : F.eval (.tmp 23) = u 5 := (congrArg (fun a => Act.eval a (.tmp 23)) hF).trans (eval_in [some 18, some 19, some 20, some 21, some 22, some 23, some 24, some 25] 0 5 _ (by decide) (by omega) rfl (of_decide_eq_true (by kernel_rfl)))
      have D20 : F.eval (.tmp 20) = u 2 := (congrArg (fun a => Act.eval a (.tmp 20)) hF).trans (eval_in [some 18, some 19, some 20, some 21, some 22, some 23, some 24, some 25] 0 2 _ (by decide) (by omega) rfl (of_decide_eq_true (by kernel_rfl)))
      have D24 : F.eval (.tmp 24) = u 6 := (congrArg (fun a => Act.eval a (.tmp 24)) hF).trans (eval_in [some 18, some 19, some 20, some 21, some 22, some 23, some 24, some 25] 0 6 _ (by decide) (by omega) rfl (of_decide_eq_true (by kernel_rfl)))
      clear hF
      refine ⟨?_, ?_, ?_, ?_, ?_, ?_, ?_, ?_, trivial⟩
      · intro w1 hb hd K hK
        have e0 := E0
        exact op_val (v := (.int .i64 (n : Int))) rfl (by simp only [execOp, List.map_toArray, List.map_cons, List.map_nil, e0]; go_simp) (hK _ _ (show _ = _ from rfl) (Below.refl _ _) (Fresh.no _ _ _))
      · intro w1 hb hd K hK
        have e18 := D18.trans (show u 0 = (.int .i64 (n : Int)) from hd ⟨0, .data⟩ (by simp) rfl (by omega))
        refine op_call (R := fun v w2 => v = (.string TN) ∧ Below w1.heap.size w1 w2) (f := 47) (args := #[.int .i64 (n : Int)]) rfl (by simp only [execOp]; go_simp; first | exact eval_get e18 | exact ⟨rfl, eval_get e18⟩ | exact ⟨eval_get e18, rfl⟩ | (simp only [Act.eval] at *; simp_all)) ((NM.out w1).mono fun e w2 hh => ⟨_, hh.1, rfl, hh.2⟩) (fun v w2 hh => hK _ _ hh.1 hh.2 (Fresh.no _ _ _))
      · intro w1 hb hd K hK
        have e19 := D19.trans (show u 1 = (.string TN) from hd ⟨1, .data⟩ (by simp) rfl (by omega))
        exact op_val (v := (.string (TN ++ ⟨#[32]⟩))) rfl (by simp only [execOp, List.map_toArray, List.map_cons, List.map_nil, e19]; go_simp) (hK _ _ (show _ = _ from rfl) (Below.refl _ _) (Fresh.no _ _ _))
      · intro w1 hb hd K hK
        have e3 := E3
        exact op_val (v := (.int .u8 (dl : Int))) rfl (by simp only [execOp, List.map_toArray, List.map_cons, List.map_nil, e3]; go_simp) (hK _ _ (show _ = _ from rfl) (Below.refl _ _) (Fresh.no _ _ _))
      · intro w1 hb hd K hK
        have e3 := E3
        exact op_val (v := (.int .u8 (dl : Int))) rfl (by simp only [execOp, List.map_toArray, List.map_cons, List.map_nil, e3]; go_simp) (hK _ _ (show _ = _ from rfl) (Below.refl _ _) (Fresh.no _ _ _))
      · intro w1 hb hd K hK
        have e22 := D22.trans (show u 4 = (.int .u8 (dl : Int)) from hd ⟨4, .data⟩ (by simp) rfl (by omega))
        exact op_val (v := (.int .u8 ((dl + 1 : Nat) : Int))) rfl (by simp only [execOp, List.map_toArray, List.map_cons, List.map_nil, e22]; go_simp) (hK _ _ (show _ = _ from rfl) (Below.refl _ _) (Fresh.no _ _ _))
      · intro w1 hb hd K hK
        have e21 := D21.trans (show u 3 = (.int .u8 (dl : Int)) from hd ⟨3, .data⟩ (by simp) rfl (by omega))
        have e23 := D23.trans (show u 5 = (.int .u8 ((dl + 1 : Nat) : Int)) from hd ⟨5, .data⟩ (by simp) rfl (by omega))
        exact op_val (v := (.string SD)) rfl (by simp only [execOp, Option.map_some, e21, e23]; go_simp) (hK _ _ (show _ = _ from rfl) (Below.refl _ _) (Fresh.no _ _ _))
      · intro w1 hb hd K hK
        have e20 := D20.trans (show u 2 = (.string (TN ++ ⟨#[32]⟩)) from hd ⟨2, .data⟩ (by simp) rfl (by omega))
        have e24 := D24.trans (show u 6 = (.string SD) from hd ⟨6, .data⟩ (by simp) rfl (by omega))
        exact op_val (v := (.string (TN ++ ⟨#[32]⟩ ++ SD))) rfl (by simp only [execOp, List.map_toArray, List.map_cons, List.map_nil, e20, e24]; go_simp) (hK _ _ (show _ = _ from rfl) (Below.refl _ _) (Fresh.no _ _ _))
    have hv18 : u 0 = (.int .i64 (n : Int)) := (show u 0 = _ from hsF 0 (by omega) (by omega))
    have hv19 : u 1 = (.string TN) := (show u 1 = _ from hsF 1 (by omega) (by omega))
    have hv20 : u 2 = (.string (TN ++ ⟨#[32]⟩)) := (show u 2 = _ from hsF 2 (by omega) (by omega))
    have hv21 : u 3 = (.int .u8 (dl : Int)) := (show u 3 = _ from hsF 3 (by omega) (by omega))
    have hv22 : u 4 = (.int .u8 (dl : Int)) := (show u 4 = _ from hsF 4 (by omega) (by omega))
    have hv23 : u 5 = (.int .u8 ((dl + 1 : Nat) : Int)) := (show u 5 = _ from hsF 5 (by omega) (by omega))
    have hv24 : u 6 = (.string SD) := (show u 6 = _ from hsF 6 (by omega) (by omega))
    have hv25 : u 7 = (.string (TN ++ ⟨#[32]⟩ ++ SD)) := (show u 7 = _ from hsF 7 (by omega) (by omega))
    simp only [putRow, hv18, hv19, hv20, hv21, hv22, hv23, hv24, hv25, Act.put, List.setIfInBounds_toArray, List.set_cons_succ, List.set_cons_zero]
    clear hsF hold hap hv18 hv19 hv20 hv21 hv22 hv23 hv24 hv25

    refine rest_forced 1 (by kernel_rfl) ?_
    simp only [List.drop_succ_cons, List.drop_zero, List.take_succ_cons, List.take_zero]
    go_wp2_with fail
    refine rest_done rfl ?_
    go_wp2_with fail
    go_meet
    exact ⟨_, rfl, Lib.hid HO.out.1, Lib.hid (HB2.out.trans (hbF.mono HB2.out.size))⟩
  case rest =>
    obtain ⟨X, rfl, HX, HB⟩ := hcut
    have HL : Hid (∀ (wd : List UInt8), wordW vl = wd → headL n = numL n ++ [32] ++ seatW dl ++ ([32] ++ wd ++ [32])) := Lib.hid (fun wd hw => by rw [HH.out, hw]; simp)
    have hX : X.size ≤ 5 := by
      have h1 := HO.out.2
      have h2 : X.size = (numL n ++ [32] ++ seatW dl).length := by rw [HX.out]; rfl
      omega
    have z3 : ¬ 9223372036854775807 < X.size + 6 := by omega
    have z4 : ¬ 9223372036854775807 < X.size + 4 := by omega
    clear HO HH hX z1 z2 hSD e1 e1b hr1 hr2 hd4
    rcases (by omega : vl = 0 ∨ vl = 1 ∨ vl = 2 ∨ vl = 3) with rfl | rfl | rfl | rfl
    · have HE : Hid (X ++ ⟨#[32, 110, 111, 110, 101, 32]⟩ = ⟨(headL n).toArray⟩) := Lib.hid (by
        rw [HL.out [110, 111, 110, 101] rfl, HX.out]; exact str_app _ _)
      clear HL HX hv4
      go_wp2_with fail
      go_ret
      exact ⟨by rw [← HE.out]; rfl, HB.out⟩
    · have HE : Hid (X ++ ⟨#[32, 78, 83, 32]⟩ = ⟨(headL n).toArray⟩) := Lib.hid (by
        rw [HL.out [78, 83] rfl, HX.out]; exact str_app _ _)
      clear HL HX hv4
      go_wp2_with fail
      go_ret
      exact ⟨by rw [← HE.out]; rfl, HB.out⟩
    · have HE : Hid (X ++ ⟨#[32, 69, 87, 32]⟩ = ⟨(headL n).toArray⟩) := Lib.hid (by
        rw [HL.out [69, 87] rfl, HX.out]; exact str_app _ _)
      clear HL HX hv4
      go_wp2_with fail
      go_ret
      exact ⟨by rw [← HE.out]; rfl, HB.out⟩
    · have HE : Hid (X ++ ⟨#[32, 98, 111, 116, 104, 32]⟩ = ⟨(headL n).toArray⟩) := Lib.hid (by
        rw [HL.out [98, 111, 116, 104] rfl, HX.out]; exact str_app _ _)
      clear HL HX hv4
      go_wp2_with fail
      go_ret
      exact ⟨by rw [← HE.out]; rfl, HB.out⟩
/-- The text of a record, and the number of the error. -/
def wrT (n : Int) (D : Nat → Nat) : List UInt8 := if rcode n D = 0 then textB n.toNat D else []
set_option maxRecDepth 100000 in
theorem rwrite7_any (n : Int) (D : Nat → Nat) (hD : D64 D) (w : World) : Calls Tryz.prog 11 #[.int .i64 n, .agg #[.int .u64 (D 0 : Nat), .int .u64 (D 1 : Nat), .int .u64 (D 2 : Nat), .int .u64 (D 3 : Nat)]] w (fun e w' => e = .returned (.tuple #[strV' (wrT n D), .int .i64 (rcode n D)]) ∧ Below w.heap.size w w') := by
  have RR := Lib.hid (fun W => rright7_any n D hD W)
  by_cases hc : rcode n D = 0
  · have hn : 1 ≤ n ∧ n ≤ 128 ∧ rightB D = true := by
      unfold rcode at hc
      split at hc
      · cases hc
      · split at hc
        · rename_i h1 h2; exact ⟨by omega, by omega, h2⟩
        · cases hc
    obtain ⟨m, rfl⟩ : ∃ m : Nat, n = (m : Int) := ⟨n.toNat, by omega⟩
    have hp : partB D = true := by
      have := hn.2.2
      unfold rightB at this
      exact (Bool.and_eq_true _ _ ▸ this).1
    have DT := Lib.hid (fun W => rdeal_ok D hD hp W)
    have HD := Lib.hid (fun W => rhead_any m (by omega) (by omega) W)
    have HT : Hid (wrT (m : Int) D = headL m ++ textD D) := Lib.hid (by unfold wrT; rw [if_pos hc, Int.toNat_natCast, text_head])
    have hl1 := head_len m
    have hl2 := textD_len D
    rw [hc] at RR
    have HC := Lib.hid hc
    obtain ⟨A, hA⟩ : ∃ X : ByteArray, (⟨(headL m).toArray⟩ : ByteArray) = X := ⟨_, rfl⟩
    obtain ⟨B, hB⟩ : ∃ X : ByteArray, (⟨(textD D).toArray⟩ : ByteArray) = X := ⟨_, rfl⟩
    have hst : strV' (textD D) = .string B := by unfold strV'; rw [hB]
    have hAs : A.size = (headL m).length := by rw [← hA]; rfl
    have hBs : B.size = (textD D).length := by rw [← hB]; rfl
    have z1 : ¬ 9223372036854775807 < A.size + B.size := by omega
    have HS : Hid (strV' (wrT (m : Int) D) = .string (A ++ B)) := Lib.hid (by rw [HT.out, ← hA, ← hB, str_app]; rfl)
    rw [hst] at DT
    rw [hA] at HD
    clear hc hn hp hD HT hl1 hl2 hA hB hst hAs hBs
    go_enter Tryz.func11, Tryz.ntmps11
    go_wp2_with fail
    have HK := Lib.hid (Blk.new w 23 (dC D))
    have HB0 := Lib.hid (below1 w (.cells (dC D) 23))
    refine (RR.out _).mono ?_
    rintro e w1 ⟨rfl, hb⟩
    have HK1 := Lib.hid (HK.out.keep hb HK.out.lt)
    have HB1 := Lib.hid (bchain HB0.out hb)
    clear hb HK HB0 RR
    have x0 := HK1.out.cell (dC_get D 0 (by omega))
    have x1 := HK1.out.cell (dC_get D 1 (by omega))
    have x2 := HK1.out.cell (dC_get D 2 (by omega))
    have x3 := HK1.out.cell (dC_get D 3 (by omega))
    go_wp2_with fail
    refine (DT.out _).mono ?_
    rintro e w2 ⟨rfl, hb⟩
    have HB2 := Lib.hid (bchain HB1.out hb)
    clear hb HK1 HB1 DT x0 x1 x2 x3
    go_wp2_with fail
    refine (HD.out _).mono ?_
    rintro e w3 ⟨rfl, hb⟩
    have HB3 := Lib.hid (bchain HB2.out hb)
    clear hb HB2
    go_wp2_with fail
    go_ret2
    exact ⟨by rw [HS.out, HC.out]; rfl, HB3.out⟩
  · have HS : Hid (strV' (wrT n D) = .string ⟨#[]⟩) := Lib.hid (by unfold wrT; rw [if_neg hc]; rfl)
    obtain ⟨c, hcc⟩ : ∃ c, rcode n D = c := ⟨_, rfl⟩
    rw [hcc] at RR hc
    have t1 : (c == 0) = false := beq_eq_false_iff_ne.2 hc
    have t2 : (c != 0) = true := by rw [bne, t1]; rfl
    have HC := Lib.hid hcc
    clear hc hcc hD
    go_enter Tryz.func11, Tryz.ntmps11
    go_wp2_with fail
    have HB0 := Lib.hid (below1 w (.cells (dC D) 23))
    refine (RR.out _).mono ?_
    rintro e w1 ⟨rfl, hb⟩
    have HB1 := Lib.hid (bchain HB0.out hb)
    clear hb HB0 RR
    go_wp2_with fail
    go_ret2
    exact ⟨by rw [HS.out, HC.out]; rfl, HB1.out⟩
attribute [irreducible] wrT
end Go.Proofs.YtaadipccgckehaaGreatDoor
