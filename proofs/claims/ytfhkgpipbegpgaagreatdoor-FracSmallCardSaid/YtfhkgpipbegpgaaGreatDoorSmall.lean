/- The walk of FracSmall. -/
import Derived.Test.YtfhkgpipbegpgaaGreatDoorSumM
import Derived.Test.YtfhkgpipbegpgaaGreatDoorTellM
import Derived.Test.YtfhkgpipbegpgaaGreatDoorReadsA
import Derived.Test.YtfhkgpipbegpgaaGreatDoorAwake
import Derived.Deep.CutBlock
import Derived.Deep.RegionHeld3
import Derived.BigRegion
namespace Go.Proofs.YtfhkgpipbegpgaaGreatDoor
open Go Go.RowKit

set_option maxRecDepth 100000 in
set_option maxHeartbeats 16000000 in
theorem small_walk (w : World) (he : Env w) (eb eo ec : Nat) (E : Nat → Int) (hE : Edges w eb eo ec E) :
    Calls Tryz.prog 5 #[] w (RetBool true w) := by
  have HI := Lib.hid (InvL.start he)
  have HE := Lib.hid hE
  clear he hE
  go_enter Tryz.func5, Tryz.ntmps5
  go_upto_block 0 with fail
  go_cut [0] (fun s0 wx => s0 = .bool false ∧ InvL w wx [])
  case first =>
    go_wp2_with fail
    go_loopw [0, 1] (fun v0 v1 wr => ∃ a : Nat, a ≤ 9 ∧ v0 = .bool false ∧ v1 = .int .i64 ((a : Int) - 4) ∧ InvL w wr []) (fun _ v1 _ => (5 - intOf v1).toNat)
    case atStart => exact ⟨0, by omega, rfl, rfl, HI.out⟩
    case round =>
      obtain ⟨a, ha, rfl, rfl, hi⟩ := hrel
      clear HI
      obtain ⟨wo1, rfl⟩ : ∃ wo : World, wo = wr := ⟨_, rfl⟩
      have HI1 := Lib.hid hi
      clear hi
      by_cases hlt1 : a < 9
      · have tl1 : decide ((a : Int) - 4 ≤ 4) = true := decide_eq_true (by omega)
        go_wp2_with fail
        go_loopw [0, 2] (fun v0 v2 wr => ∃ b : Nat, b ≤ 6 ∧ v0 = .bool false ∧ v2 = .int .i64 ((b : Int) - 1) ∧ InvL w wr []) (fun _ v2 _ => (5 - intOf v2).toNat)
        case atStart => exact ⟨0, by omega, rfl, rfl, HI1.out⟩
        case round =>
          obtain ⟨b, hb, rfl, rfl, hi⟩ := hrel
          clear HI1
          obtain ⟨wo2, rfl⟩ : ∃ wo : World, wo = wr := ⟨_, rfl⟩
          have HI2 := Lib.hid hi
          clear hi
          by_cases hlt2 : b < 6
          · have tl2 : decide ((b : Int) - 1 ≤ 4) = true := decide_eq_true (by omega)
            go_wp2_with fail
            go_loopw [0, 3] (fun v0 v3 wr => ∃ c : Nat, c ≤ 7 ∧ v0 = .bool false ∧ v3 = .int .i64 ((c : Int) - 3) ∧ InvL w wr []) (fun _ v3 _ => (4 - intOf v3).toNat)
            case atStart => exact ⟨0, by omega, rfl, rfl, HI2.out⟩
            case round =>
              obtain ⟨c, hc, rfl, rfl, hi⟩ := hrel
              clear HI2
              obtain ⟨wo3, rfl⟩ : ∃ wo : World, wo = wr := ⟨_, rfl⟩
              have HI3 := Lib.hid hi
              clear hi
              by_cases hlt3 : c < 7
              · have tl3 : decide ((c : Int) - 3 ≤ 3) = true := decide_eq_true (by omega)
                go_wp2_with fail
                go_loopw [0, 4] (fun v0 v4 wr => ∃ d : Nat, d ≤ 5 ∧ v0 = .bool false ∧ v4 = .int .i64 d ∧ InvL w wr []) (fun _ v4 _ => (5 - intOf v4).toNat)
                case atStart => exact ⟨0, by omega, rfl, rfl, HI3.out⟩
                case round =>
                  obtain ⟨d, hd, rfl, rfl, hi⟩ := hrel
                  clear HI3
                  obtain ⟨wo4, rfl⟩ : ∃ wo : World, wo = wr := ⟨_, rfl⟩
                  have HI4 := Lib.hid hi
                  clear hi
                  by_cases hlt4 : d < 5
                  · have tl4 : decide ((d : Int) ≤ 4) = true := decide_eq_true (by omega)
                    have fa : FB ((a : Int) - 4) ((b : Int) - 1) := ⟨by omega, by omega, by omega, by omega⟩
                    have fc : FB ((c : Int) - 3) (d : Int) := ⟨by omega, by omega, by omega, by omega⟩
                    have fd : FB ((a : Int) - 4) (d : Int) := ⟨by omega, by omega, by omega, by omega⟩
                    have FA := Lib.hid fa
                    have FC := Lib.hid fc
                    have FD := Lib.hid fd
                    clear fa fc fd
                    go_wp2_with fail
                    refine (invV (fun w _ => of_any _ _ w) HI4.out).mono ?_
                    rintro e u1 ⟨rfl, hu1⟩
                    clear HI4
                    have Hu1 := Lib.hid hu1
                    clear hu1
                    go_wp2_with fail
                    refine (invV (fun w _ => of_any _ _ w) Hu1.out).mono ?_
                    rintro e u2 ⟨rfl, hu2⟩
                    clear Hu1
                    have Hu2 := Lib.hid hu2
                    clear hu2
                    go_wp2_with fail
                    refine (invV (fun w hw => tells_any _ _ _ _ _ FA.out FC.out w hw) Hu2.out).mono ?_
                    rintro e u3 ⟨rfl, hu3⟩
                    clear Hu2
                    have Hu3 := Lib.hid hu3
                    clear hu3
                    go_wp2_with fail
                    refine (invV (fun w _ => of_any _ _ w) Hu3.out).mono ?_
                    rintro e u4 ⟨rfl, hu4⟩
                    clear Hu3
                    have Hu4 := Lib.hid hu4
                    clear hu4
                    go_wp2_with fail
                    refine (invV (fun w _ => of_any _ _ w) Hu4.out).mono ?_
                    rintro e u5 ⟨rfl, hu5⟩
                    clear Hu4
                    have Hu5 := Lib.hid hu5
                    clear hu5
                    go_wp2_with fail
                    refine (invV (fun w _ => of_any _ _ w) Hu5.out).mono ?_
                    rintro e u6 ⟨rfl, hu6⟩
                    clear Hu5
                    have Hu6 := Lib.hid hu6
                    clear hu6
                    go_wp2_with fail
                    refine (sums3 _ _ _ _ _ _ _ _ FA.out FA.out FC.out FD.out _ _ (Hu6.out.alloc _).env (Blk.new _ _ _)).mono ?_
                    rintro e u7 ⟨rfl, hb7⟩
                    have hu7 := (Hu6.out.alloc _).keep hb7
                    clear Hu6 hb7
                    have Hu7 := Lib.hid hu7
                    clear hu7
                    go_wp2_with fail
                    first
                      | exact ⟨⟨d + 1, by omega, rfl, by go_num, Hu7.out⟩, by simp [intOf]; omega⟩
                      | (refine ⟨?_, by simp [intOf]; omega⟩; (repeat apply Exists.intro); exact ⟨⟨d + 1, by omega, rfl, by go_num, Hu7.out⟩, rfl⟩)
                  · obtain rfl : d = 5 := by omega
                    go_wp2_with fail
                    first
                      | exact ⟨⟨c + 1, by omega, rfl, by go_num, HI4.out⟩, by simp [intOf]; omega⟩
                      | (refine ⟨?_, by simp [intOf]; omega⟩; (repeat apply Exists.intro); exact ⟨⟨c + 1, by omega, rfl, by go_num, HI4.out⟩, rfl⟩)
              · obtain rfl : c = 7 := by omega
                go_wp2_with fail
                first
                  | exact ⟨⟨b + 1, by omega, rfl, by go_num, HI3.out⟩, by simp [intOf]; omega⟩
                  | (refine ⟨?_, by simp [intOf]; omega⟩; (repeat apply Exists.intro); exact ⟨⟨b + 1, by omega, rfl, by go_num, HI3.out⟩, rfl⟩)
          · obtain rfl : b = 6 := by omega
            go_wp2_with fail
            first
              | exact ⟨⟨a + 1, by omega, rfl, by go_num, HI2.out⟩, by simp [intOf]; omega⟩
              | (refine ⟨?_, by simp [intOf]; omega⟩; (repeat apply Exists.intro); exact ⟨⟨a + 1, by omega, rfl, by go_num, HI2.out⟩, rfl⟩)
      · obtain rfl : a = 9 := by omega
        go_wp2_with fail
        go_meet
        exact ⟨rfl, HI1.out⟩
  case rest =>
  obtain ⟨rfl, hi⟩ := hcut
  clear HI
  have HI := Lib.hid hi
  clear hi
  have eg := (HE.out.keep HI.out.below).glob
  go_upto_block 8 with fail
  clear eg
  go_cut [0] (fun s0 wx => s0 = .bool false ∧ InvL w wx [])
  case first =>
    go_wp2_with fail
    go_loopw [0, 67] (fun v0 v67 wr => ∃ i : Nat, i ≤ 24 ∧ v0 = .bool false ∧ v67 = .int .i64 i ∧ InvL w wr []) (fun _ v67 _ => (24 - intOf v67).toNat)
    case atStart => exact ⟨0, by omega, rfl, rfl, HI.out⟩
    case round =>
      obtain ⟨i, hi24, rfl, rfl, hi⟩ := hrel
      clear HI
      obtain ⟨wo, rfl⟩ : ∃ wo : World, wo = wr := ⟨_, rfl⟩
      have HI := Lib.hid hi
      clear hi
      by_cases hlt : i < 24
      · have tl : decide ((i : Int) < 24) = true := decide_eq_true (by omega)
        have tl2 : decide (i < 24) = true := decide_eq_true (by omega)
        obtain ⟨A, hA⟩ : ∃ A, E i = A := ⟨_, rfl⟩
        have ai := (HE.out.keep HI.out.below).at_ i hlt
        have ab := HE.out.bd i hlt
        rw [hA] at ai ab
        have AB := Lib.hid ab
        clear hA ab
        have eg := (HE.out.keep HI.out.below).glob
        go_wp2_with fail
        clear eg ai
        go_loopw [0, 74] (fun v0 v74 wr => ∃ k : Nat, k ≤ 24 ∧ v0 = .bool false ∧ v74 = .int .i64 k ∧ InvL w wr []) (fun _ v74 _ => (24 - intOf v74).toNat)
        case atStart => exact ⟨0, by omega, rfl, rfl, HI.out⟩
        case round =>
          obtain ⟨k, hk24, rfl, rfl, hi⟩ := hrel
          clear HI
          obtain ⟨wo1, rfl⟩ : ∃ wo : World, wo = wr := ⟨_, rfl⟩
          have HI := Lib.hid hi
          clear hi
          by_cases hlk : k < 24
          · have tk : decide ((k : Int) < 24) = true := decide_eq_true (by omega)
            have tk2 : decide (k < 24) = true := decide_eq_true (by omega)
            obtain ⟨B, hB⟩ : ∃ B, E k = B := ⟨_, rfl⟩
            have ak := (HE.out.keep HI.out.below).at_ k hlk
            have bb := HE.out.bd k hlk
            rw [hB] at ak bb
            have FAB := Lib.hid (⟨AB.out.1, AB.out.2, bb.1, bb.2⟩ : FB A B)
            clear hB bb
            obtain ⟨⟨x, y, z⟩, hq⟩ : ∃ q, makeP A B = q := ⟨_, rfl⟩
            have FXY : Hid (FB x y) := Lib.hid (by have := makeP_fb A B; rw [hq] at this; exact this)
            have RM := Lib.hid (fun w (_ : Env w) => rmake_any A B FAB.out w)
            rw [hq] at RM
            clear hq
            go_wp2_with fail
            refine (invV RM.out HI.out).mono ?_
            rintro e w2 ⟨rfl, h2⟩
            clear ak HI RM
            go_upto_region 22 with fail
            have h3 := h2.push 23 #[.int .i64 x, .int .i64 y]
            clear h2
            generalize w2.alloc (.cells #[.int .i64 x, .int .i64 y] 23) = W2 at *
            generalize w2.heap.size = pf at *
            have H3 := Lib.hid h3
            clear h3
            go_cut [101] (fun s101 wx => s101 = .bool false ∧ InvL w wx [(pf, 23, #[.int .i64 x, .int .i64 y])])
            case first =>
              obtain ⟨j, hj⟩ : ∃ j, (i + k) % 24 = j := ⟨_, rfl⟩
              have hj24 : j < 24 := by omega
              have q1 : IntKind.i64.wrap ((i : Int) + (k : Int)) = (i : Int) + (k : Int) := IntWalk.i64_in _ (by omega)
              have q2 : ((i : Int) + (k : Int)).tmod 24 = (j : Int) := by rw [Int.tmod_eq_emod_of_nonneg (by omega)]; omega
              have tj : decide ((j : Int) < 24) = true := decide_eq_true (by omega)
              have tj2 : decide (j < 24) = true := decide_eq_true (by omega)
              have j0 : (0 : Int) ≤ (j : Int) := by omega
              have j1 : (j : Int) ≤ 24 := by omega
              have j2 : (j : Int) < 24 := by omega
              obtain ⟨C, hC⟩ : ∃ C, E j = C := ⟨_, rfl⟩
              have aj := (HE.out.keep H3.out.below).at_ j hj24
              have cb := HE.out.bd j hj24
              rw [hC] at aj cb
              have FC := Lib.hid (⟨cb.1, cb.2, by decide, by decide⟩ : FB C 1)
              have FH := Lib.hid (⟨by decide, by decide, by decide, by decide⟩ : FB 1 2)
              have eg := (HE.out.keep H3.out.below).glob
              have x0 := H3.out.cell (i := 0) rfl (j := 0) (v := .int .i64 x) rfl
              have x1 := H3.out.cell (i := 0) rfl (j := 1) (v := .int .i64 y) rfl
              clear hC cb hj
              have SOF := Lib.hid (fun (wx : World) (hb : Below W2.heap.size W2 wx) => (⟨keepW hb eg, keepW hb aj, keepW hb x0, keepW hb x1, hb⟩ : wx.cell? ⟨0, 0, none⟩ = some (.slice (some ⟨eb, eo, none⟩) 24 ec) ∧ wx.cell? ⟨eb, eo + j, none⟩ = some (.int .i64 C) ∧ wx.cell? ⟨pf, 0, none⟩ = some (.int .i64 x) ∧ wx.cell? ⟨pf, 1, none⟩ = some (.int .i64 y) ∧ Below W2.heap.size W2 wx))
              clear eg aj x0 x1
              go_region_held3 (fun wx => wx.cell? ⟨0, 0, none⟩ = some (.slice (some ⟨eb, eo, none⟩) 24 ec) ∧ wx.cell? ⟨eb, eo + j, none⟩ = some (.int .i64 C) ∧ wx.cell? ⟨pf, 0, none⟩ = some (.int .i64 x) ∧ wx.cell? ⟨pf, 1, none⟩ = some (.int .i64 y) ∧ Below W2.heap.size W2 wx)
                (first | exact SOF.out _ (Below.refl _ _) | exact SOF.out _ (Below.drew (Below.refl _ _)) | exact SOF.out _ hB | exact SOF.out _ (hB.alloc hB.size _))
                (first
                  | (go_at_call 9; (with_reducible refine (of_any _ _ _).mono ?_); rintro e w' ⟨rfl, hb⟩; (have hB := bchain (by assumption : _ ∧ _ ∧ _ ∧ _ ∧ Below W2.heap.size W2 _).2.2.2.2 hb))
                  | (go_at_call 8; (with_reducible refine (sums3 _ _ _ _ _ _ _ _ FAB.out FXY.out FC.out FH.out _ _ (H3.out.keep (by assumption : _ ∧ _ ∧ _ ∧ _ ∧ Below W2.heap.size W2 _).2.2.2.2).env (Blk.new _ _ _)).mono ?_); rintro e w' ⟨rfl, hb⟩; (have hB := bchain (by assumption : _ ∧ _ ∧ _ ∧ _ ∧ Below W2.heap.size W2 _).2.2.2.2 hb)))
              all_goals
                go_wp2
                go_meet
                exact ⟨rfl, H3.out.keep hB⟩
            case rest =>
            obtain ⟨rfl, h4⟩ := hcut
            clear H3
            have H4 := Lib.hid h4
            clear h4
            go_upto_region 24 with fail
            obtain ⟨j, hj⟩ : ∃ j, (i + 5 * k) % 24 = j := ⟨_, rfl⟩
            have hj24 : j < 24 := by omega
            have q0 : IntKind.i64.wrap (5 * (k : Int)) = 5 * (k : Int) := IntWalk.i64_in _ (by omega)
            have q1 : IntKind.i64.wrap ((i : Int) + 5 * (k : Int)) = (i : Int) + 5 * (k : Int) := IntWalk.i64_in _ (by omega)
            have q2 : ((i : Int) + 5 * (k : Int)).tmod 24 = (j : Int) := by rw [Int.tmod_eq_emod_of_nonneg (by omega)]; omega
            have tj : decide ((j : Int) < 24) = true := decide_eq_true (by omega)
            have tj2 : decide (j < 24) = true := decide_eq_true (by omega)
            have j0 : (0 : Int) ≤ (j : Int) := by omega
            have j1 : (j : Int) ≤ 24 := by omega
            have j2 : (j : Int) < 24 := by omega
            obtain ⟨C, hC⟩ : ∃ C, E j = C := ⟨_, rfl⟩
            have aj := (HE.out.keep H4.out.below).at_ j hj24
            have cb := HE.out.bd j hj24
            rw [hC] at aj cb
            obtain ⟨M, hM⟩ : ∃ M, max C 1 = M := ⟨_, rfl⟩
            have mb : 1 ≤ M ∧ M ≤ 9223372036854775807 := by omega
            have FC := Lib.hid (⟨cb.1, cb.2, by decide, by decide⟩ : FB C 1)
            have FM := Lib.hid (⟨by decide, by decide, by omega, by omega⟩ : FB 1 M)
            have eg := (HE.out.keep H4.out.below).glob
            clear hC cb hj mb
            generalize wc = W4 at *
            go_quiet (fail)
            have H5 := Lib.hid (H4.out.keep (below_drewN (Below.refl _ W4) nq))
            clear eg aj q0 q1 q2 tj tj2 j0 j1 j2 H4
            generalize W4.drewN nq = W5 at *
            go_upto_region 25 with fail
            go_cut [138] (fun s138 wx => s138 = .bool false ∧ InvL w wx [(pf, 23, #[.int .i64 x, .int .i64 y])])
            case first =>
              have x0 := H5.out.cell (i := 0) rfl (j := 0) (v := .int .i64 x) rfl
              have x1 := H5.out.cell (i := 0) rfl (j := 1) (v := .int .i64 y) rfl
              by_cases hz : z = 0
              · subst hz
                have m0 := Since.cell x0
                have m1 := Since.cell x1
                refine region_since (by kernel_rfl) (by kernel_rfl) ?_
                repeat (go_big_quiet_step ((first
                  | (go_at_call 9; with_reducible exact Calls.since (of_any _ _ _))
                  | (go_at_call 6; first
                    | with_reducible exact Calls.since (tells_any _ _ _ _ _ FXY.out FC.out _ (H5.out.env.keep (Since.property _)))
                    | with_reducible exact Calls.since (tells_any _ _ _ _ _ FM.out FXY.out _ (H5.out.env.keep (Since.property _)))
                    | with_reducible exact Calls.since (tells_any _ _ _ _ _ FXY.out FXY.out _ (H5.out.env.keep (Since.property _)))))))
                refine wpQuiet_nil ?_
                rintro w' ⟨u', rfl⟩
                have H6 := Lib.hid (H5.out.keep u'.property)
                clear m0 m1 x0 x1 H5
                generalize u'.val = w6 at *
                go_wp2
                go_meet
                exact ⟨rfl, H6.out⟩
              · have tz : (z == 0) = false := by simpa using hz
                clear hz
                go_quiet (fail)
                have H6 := Lib.hid (H5.out.keep (below_drewN (Below.refl _ W5) nq))
                go_wp2
                go_meet
                exact ⟨rfl, H6.out⟩
            case rest =>
            obtain ⟨rfl, h6⟩ := hcut
            clear H5
            have H6 := Lib.hid (h6.drop (l' := []) (fun x hx => by cases hx))
            clear h6
            go_wp2_with fail
            first
              | exact ⟨⟨k + 1, by omega, rfl, by go_num, H6.out⟩, by simp [intOf]; omega⟩
              | (refine ⟨?_, by simp [intOf]; omega⟩; (repeat apply Exists.intro); exact ⟨⟨k + 1, by omega, rfl, by go_num, H6.out⟩, rfl⟩)
          · obtain rfl : k = 24 := by omega
            go_wp2_with fail
            first
              | exact ⟨⟨i + 1, by omega, rfl, by go_num, HI.out⟩, by simp [intOf]; omega⟩
              | (refine ⟨?_, by simp [intOf]; omega⟩; (repeat apply Exists.intro); exact ⟨⟨i + 1, by omega, rfl, by go_num, HI.out⟩, rfl⟩)
      · obtain rfl : i = 24 := by omega
        go_wp2_with fail
        go_meet
        exact ⟨rfl, HI.out⟩
  case rest =>
  obtain ⟨rfl, hi⟩ := hcut
  clear HI
  have HI := Lib.hid hi
  clear hi
  go_upto_block 12 with fail
  obtain ⟨SG, hSG, hSS⟩ : ∃ S : ByteArray, S = ⟨#[45, 47, 48, 49, 65, 57]⟩ ∧ S.size = 6 := ⟨_, rfl, rfl⟩
  rw [← hSG]
  clear hSG
  go_cut [0] (fun s0 wx => s0 = .bool false ∧ InvL w wx [])
  case first =>
    go_wp2_with fail
    go_loopw [0, 13] (fun v0 v13 wr => ∃ n : Nat, n ≤ 1296 ∧ v0 = .bool false ∧ v13 = .int .i64 n ∧ InvL w wr []) (fun _ v13 _ => (1296 - intOf v13).toNat)
    case atStart => exact ⟨0, by omega, rfl, rfl, HI.out⟩
    case round =>
      obtain ⟨n, hn, rfl, rfl, hi⟩ := hrel
      clear HI
      obtain ⟨wo, rfl⟩ : ∃ wo : World, wo = wr := ⟨_, rfl⟩
      have HI := Lib.hid hi
      clear hi
      by_cases hlt : n < 1296
      · have tl : decide ((n : Int) < 1296) = true := decide_eq_true (by omega)
        go_upto_region 33 with fail
        go_cut [14] (fun s14 wx => ∃ X : ByteArray, s14 = .string X ∧ X.size = 4 ∧ InvL w wx [])
        case first =>
          obtain ⟨a, ha⟩ : ∃ a, n % 6 = a := ⟨_, rfl⟩
          obtain ⟨n6, h6⟩ : ∃ n6, n / 6 = n6 := ⟨_, rfl⟩
          obtain ⟨b, hb⟩ : ∃ b, n6 % 6 = b := ⟨_, rfl⟩
          obtain ⟨n36, h36⟩ : ∃ n36, n / 36 = n36 := ⟨_, rfl⟩
          obtain ⟨c, hc⟩ : ∃ c, n36 % 6 = c := ⟨_, rfl⟩
          obtain ⟨d, hd⟩ : ∃ d, n / 216 = d := ⟨_, rfl⟩
          have q1 : (n : Int).tmod 6 = (a : Int) := by rw [Int.tmod_eq_emod_of_nonneg (by omega)]; omega
          have q2 : (n : Int).tdiv 6 = (n6 : Int) := by rw [Int.tdiv_eq_ediv_of_nonneg (by omega)]; omega
          have q3 : (n6 : Int).tmod 6 = (b : Int) := by rw [Int.tmod_eq_emod_of_nonneg (by omega)]; omega
          have q4 : (n : Int).tdiv 36 = (n36 : Int) := by rw [Int.tdiv_eq_ediv_of_nonneg (by omega)]; omega
          have q5 : (n36 : Int).tmod 6 = (c : Int) := by rw [Int.tmod_eq_emod_of_nonneg (by omega)]; omega
          have q6 : (n : Int).tdiv 216 = (d : Int) := by rw [Int.tdiv_eq_ediv_of_nonneg (by omega)]; omega
          have w6 : IntKind.i64.wrap (n6 : Int) = (n6 : Int) := IntWalk.i64_in _ (by omega)
          have w36 : IntKind.i64.wrap (n36 : Int) = (n36 : Int) := IntWalk.i64_in _ (by omega)
          have w216 : IntKind.i64.wrap (d : Int) = (d : Int) := IntWalk.i64_in _ (by omega)
          have r6 : (n : Int) / 6 = (n6 : Int) := by omega
          have r36 : (n : Int) / 36 = (n36 : Int) := by omega
          have r216 : (n : Int) / 216 = (d : Int) := by omega
          have a0 : (0 : Int) ≤ (a : Int) := by omega
          have a1 : (a : Int) < 6 := by omega
          have a2 : a < SG.size := by omega
          have b0 : (0 : Int) ≤ (b : Int) := by omega
          have b1 : (b : Int) < 6 := by omega
          have b2 : b < SG.size := by omega
          have c0 : (0 : Int) ≤ (c : Int) := by omega
          have c1 : (c : Int) < 6 := by omega
          have c2 : c < SG.size := by omega
          have d0 : (0 : Int) ≤ (d : Int) := by omega
          have d1 : (d : Int) < 6 := by omega
          have d2 : d < SG.size := by omega
          obtain ⟨X, hX, cX⟩ := signs4 SG[a] SG[b] SG[c] SG[d]
          have HX := Lib.hid hX
          clear ha h6 hb h36 hc hd hX hlt tl hn
          generalize wo = W3 at *
          go_region
          go_wp2
          go_meet
          exact ⟨X, rfl, HX.out, HI.out.keep (below1 W3 _).drew⟩
        case rest =>
        obtain ⟨X, rfl, hX, h4⟩ := hcut
        clear HI
        have HI := Lib.hid h4
        clear h4
        obtain ⟨a, ha⟩ : ∃ a, n % 4 = a := ⟨_, rfl⟩
        have q1 : (n : Int).tmod 4 = (a : Int) := by rw [Int.tmod_eq_emod_of_nonneg (by omega)]; omega
        have a0 : (0 : Int) ≤ (a : Int) := by omega
        have a1 : (a : Int) ≤ 4 := by omega
        have a2 : a ≤ 4 := by omega
        clear ha
        go_wp2_with fail
        refine (invV (fun w hw => reads_any _ w hw) HI.out).mono ?_
        rintro e w5 ⟨rfl, h5⟩
        clear HI
        have H5 := Lib.hid h5
        clear h5
        go_wp2_with fail
        refine (invV (fun w hw => reads_any _ w hw) H5.out).mono ?_
        rintro e w6 ⟨rfl, h6⟩
        clear H5
        have H6 := Lib.hid h6
        clear h6
        go_wp2_with fail
        first
          | exact ⟨⟨n + 1, by omega, rfl, by go_num, H6.out⟩, by simp [intOf]; omega⟩
          | (refine ⟨?_, by simp [intOf]; omega⟩; (repeat apply Exists.intro); exact ⟨⟨n + 1, by omega, rfl, by go_num, H6.out⟩, rfl⟩)
      · obtain rfl : n = 1296 := by omega
        go_wp2_with fail
        go_meet
        exact ⟨rfl, HI.out⟩
  case rest =>
  obtain ⟨rfl, hi⟩ := hcut
  clear HI
  have HI := Lib.hid hi
  clear hi
  go_upto_block 14 with fail
  obtain ⟨S, hS⟩ := all_strs [(⟨#[57, 50, 50, 51, 51, 55, 50, 48, 51, 54, 56, 53, 52, 55, 55, 53, 56, 48, 55]⟩ : ByteArray), (⟨#[57, 50, 50, 51, 51, 55, 50, 48, 51, 54, 56, 53, 52, 55, 55, 53, 56, 48, 56]⟩ : ByteArray), (⟨#[45, 57, 50, 50, 51, 51, 55, 50, 48, 51, 54, 56, 53, 52, 55, 55, 53, 56, 48, 56]⟩ : ByteArray), (⟨#[45, 57, 50, 50, 51, 51, 55, 50, 48, 51, 54, 56, 53, 52, 55, 55, 53, 56, 48, 57]⟩ : ByteArray), (⟨#[49, 47, 57, 50, 50, 51, 51, 55, 50, 48, 51, 54, 56, 53, 52, 55, 55, 53, 56, 48, 55]⟩ : ByteArray), (⟨#[49, 47, 57, 50, 50, 51, 51, 55, 50, 48, 51, 54, 56, 53, 52, 55, 55, 53, 56, 48, 56]⟩ : ByteArray), (⟨#[50, 47, 57, 50, 50, 51, 51, 55, 50, 48, 51, 54, 56, 53, 52, 55, 55, 53, 56, 48, 55]⟩ : ByteArray), (⟨#[45, 57, 50, 50, 51, 51, 55, 50, 48, 51, 54, 56, 53, 52, 55, 55, 53, 56, 48, 56, 47, 51]⟩ : ByteArray), (⟨#[43, 49]⟩ : ByteArray), (⟨#[49, 47, 50, 47, 51]⟩ : ByteArray), (⟨#[49, 47, 32, 50]⟩ : ByteArray), (⟨#[32, 49]⟩ : ByteArray), (⟨#[49, 46, 53]⟩ : ByteArray), (⟨#[48, 47, 49]⟩ : ByteArray), (⟨#[48]⟩ : ByteArray), (⟨#[48, 48]⟩ : ByteArray), (⟨#[45, 48]⟩ : ByteArray)]
  change ∀ k, k < 17 → (#[.string ⟨#[57, 50, 50, 51, 51, 55, 50, 48, 51, 54, 56, 53, 52, 55, 55, 53, 56, 48, 55]⟩, .string ⟨#[57, 50, 50, 51, 51, 55, 50, 48, 51, 54, 56, 53, 52, 55, 55, 53, 56, 48, 56]⟩, .string ⟨#[45, 57, 50, 50, 51, 51, 55, 50, 48, 51, 54, 56, 53, 52, 55, 55, 53, 56, 48, 56]⟩, .string ⟨#[45, 57, 50, 50, 51, 51, 55, 50, 48, 51, 54, 56, 53, 52, 55, 55, 53, 56, 48, 57]⟩, .string ⟨#[49, 47, 57, 50, 50, 51, 51, 55, 50, 48, 51, 54, 56, 53, 52, 55, 55, 53, 56, 48, 55]⟩, .string ⟨#[49, 47, 57, 50, 50, 51, 51, 55, 50, 48, 51, 54, 56, 53, 52, 55, 55, 53, 56, 48, 56]⟩, .string ⟨#[50, 47, 57, 50, 50, 51, 51, 55, 50, 48, 51, 54, 56, 53, 52, 55, 55, 53, 56, 48, 55]⟩, .string ⟨#[45, 57, 50, 50, 51, 51, 55, 50, 48, 51, 54, 56, 53, 52, 55, 55, 53, 56, 48, 56, 47, 51]⟩, .string ⟨#[43, 49]⟩, .string ⟨#[49, 47, 50, 47, 51]⟩, .string ⟨#[49, 47, 32, 50]⟩, .string ⟨#[32, 49]⟩, .string ⟨#[49, 46, 53]⟩, .string ⟨#[48, 47, 49]⟩, .string ⟨#[48]⟩, .string ⟨#[48, 48]⟩, .string ⟨#[45, 48]⟩] : Array Value)[k]? = some (.string (S k)) at hS
  have hB := HI.out.push 9 #[.string ⟨#[57, 50, 50, 51, 51, 55, 50, 48, 51, 54, 56, 53, 52, 55, 55, 53, 56, 48, 55]⟩, .string ⟨#[57, 50, 50, 51, 51, 55, 50, 48, 51, 54, 56, 53, 52, 55, 55, 53, 56, 48, 56]⟩, .string ⟨#[45, 57, 50, 50, 51, 51, 55, 50, 48, 51, 54, 56, 53, 52, 55, 55, 53, 56, 48, 56]⟩, .string ⟨#[45, 57, 50, 50, 51, 51, 55, 50, 48, 51, 54, 56, 53, 52, 55, 55, 53, 56, 48, 57]⟩, .string ⟨#[49, 47, 57, 50, 50, 51, 51, 55, 50, 48, 51, 54, 56, 53, 52, 55, 55, 53, 56, 48, 55]⟩, .string ⟨#[49, 47, 57, 50, 50, 51, 51, 55, 50, 48, 51, 54, 56, 53, 52, 55, 55, 53, 56, 48, 56]⟩, .string ⟨#[50, 47, 57, 50, 50, 51, 51, 55, 50, 48, 51, 54, 56, 53, 52, 55, 55, 53, 56, 48, 55]⟩, .string ⟨#[45, 57, 50, 50, 51, 51, 55, 50, 48, 51, 54, 56, 53, 52, 55, 55, 53, 56, 48, 56, 47, 51]⟩, .string ⟨#[43, 49]⟩, .string ⟨#[49, 47, 50, 47, 51]⟩, .string ⟨#[49, 47, 32, 50]⟩, .string ⟨#[32, 49]⟩, .string ⟨#[49, 46, 53]⟩, .string ⟨#[48, 47, 49]⟩, .string ⟨#[48]⟩, .string ⟨#[48, 48]⟩, .string ⟨#[45, 48]⟩]
  generalize wc.alloc (.cells #[.string ⟨#[57, 50, 50, 51, 51, 55, 50, 48, 51, 54, 56, 53, 52, 55, 55, 53, 56, 48, 55]⟩, .string ⟨#[57, 50, 50, 51, 51, 55, 50, 48, 51, 54, 56, 53, 52, 55, 55, 53, 56, 48, 56]⟩, .string ⟨#[45, 57, 50, 50, 51, 51, 55, 50, 48, 51, 54, 56, 53, 52, 55, 55, 53, 56, 48, 56]⟩, .string ⟨#[45, 57, 50, 50, 51, 51, 55, 50, 48, 51, 54, 56, 53, 52, 55, 55, 53, 56, 48, 57]⟩, .string ⟨#[49, 47, 57, 50, 50, 51, 51, 55, 50, 48, 51, 54, 56, 53, 52, 55, 55, 53, 56, 48, 55]⟩, .string ⟨#[49, 47, 57, 50, 50, 51, 51, 55, 50, 48, 51, 54, 56, 53, 52, 55, 55, 53, 56, 48, 56]⟩, .string ⟨#[50, 47, 57, 50, 50, 51, 51, 55, 50, 48, 51, 54, 56, 53, 52, 55, 55, 53, 56, 48, 55]⟩, .string ⟨#[45, 57, 50, 50, 51, 51, 55, 50, 48, 51, 54, 56, 53, 52, 55, 55, 53, 56, 48, 56, 47, 51]⟩, .string ⟨#[43, 49]⟩, .string ⟨#[49, 47, 50, 47, 51]⟩, .string ⟨#[49, 47, 32, 50]⟩, .string ⟨#[32, 49]⟩, .string ⟨#[49, 46, 53]⟩, .string ⟨#[48, 47, 49]⟩, .string ⟨#[48]⟩, .string ⟨#[48, 48]⟩, .string ⟨#[45, 48]⟩] 9) = W2 at *
  generalize wc.heap.size = bs at *
  generalize (#[.string ⟨#[57, 50, 50, 51, 51, 55, 50, 48, 51, 54, 56, 53, 52, 55, 55, 53, 56, 48, 55]⟩, .string ⟨#[57, 50, 50, 51, 51, 55, 50, 48, 51, 54, 56, 53, 52, 55, 55, 53, 56, 48, 56]⟩, .string ⟨#[45, 57, 50, 50, 51, 51, 55, 50, 48, 51, 54, 56, 53, 52, 55, 55, 53, 56, 48, 56]⟩, .string ⟨#[45, 57, 50, 50, 51, 51, 55, 50, 48, 51, 54, 56, 53, 52, 55, 55, 53, 56, 48, 57]⟩, .string ⟨#[49, 47, 57, 50, 50, 51, 51, 55, 50, 48, 51, 54, 56, 53, 52, 55, 55, 53, 56, 48, 55]⟩, .string ⟨#[49, 47, 57, 50, 50, 51, 51, 55, 50, 48, 51, 54, 56, 53, 52, 55, 55, 53, 56, 48, 56]⟩, .string ⟨#[50, 47, 57, 50, 50, 51, 51, 55, 50, 48, 51, 54, 56, 53, 52, 55, 55, 53, 56, 48, 55]⟩, .string ⟨#[45, 57, 50, 50, 51, 51, 55, 50, 48, 51, 54, 56, 53, 52, 55, 55, 53, 56, 48, 56, 47, 51]⟩, .string ⟨#[43, 49]⟩, .string ⟨#[49, 47, 50, 47, 51]⟩, .string ⟨#[49, 47, 32, 50]⟩, .string ⟨#[32, 49]⟩, .string ⟨#[49, 46, 53]⟩, .string ⟨#[48, 47, 49]⟩, .string ⟨#[48]⟩, .string ⟨#[48, 48]⟩, .string ⟨#[45, 48]⟩] : Array Value) = AR at *
  clear HI
  have HB := Lib.hid hB
  have HS := Lib.hid hS
  clear hB hS
  go_wp2_with fail
  go_loopw [0, 178] (fun v0 v178 wr => ∃ k : Nat, k ≤ 17 ∧ v0 = .bool false ∧ v178 = .int .i64 k ∧ InvL w wr [(bs, 9, AR)]) (fun _ v178 _ => (17 - intOf v178).toNat)
  case atStart => exact ⟨0, by omega, rfl, rfl, HB.out⟩
  case round =>
    obtain ⟨k, hk, rfl, rfl, hi⟩ := hrel
    clear HB
    have HB := Lib.hid hi
    clear hi
    by_cases hlk : k < 17
    · have tk : decide ((k : Int) < 17) = true := decide_eq_true (by omega)
      have tk2 : decide (k < 17) = true := decide_eq_true (by omega)
      have ck := HB.out.cell (i := 0) rfl (j := k) (HS.out k hlk)
      go_wp2_with fail
      refine (invV (fun w hw => reads_any _ w hw) HB.out).mono ?_
      rintro e w6 ⟨rfl, h6⟩
      clear ck HB
      have H6 := Lib.hid h6
      clear h6
      go_wp2_with fail
      first
        | exact ⟨⟨k + 1, by omega, rfl, by go_num, H6.out⟩, by simp [intOf]; omega⟩
        | (refine ⟨?_, by simp [intOf]; omega⟩; (repeat apply Exists.intro); exact ⟨⟨k + 1, by omega, rfl, by go_num, H6.out⟩, rfl⟩)
    · obtain rfl : k = 17 := by omega
      go_wp2_with fail
      refine (invV (fun w hw => awake_any w hw) HB.out).mono ?_
      rintro e w7 ⟨rfl, h7⟩
      have H7 := Lib.hid h7.below
      clear h7 HB
      go_wp2_with fail
      go_ret
      exact ⟨rfl, H7.out⟩
theorem small_of_laid (w : World) (he : Env w) (h : ∃ eb eo ec, Edges w eb eo ec (fun i => edgeL.getD i 0)) : Calls Tryz.prog 5 #[] w (RetBool true w) := by
  obtain ⟨eb, eo, ec, hE⟩ := h
  exact small_walk w he eb eo ec _ hE
end Go.Proofs.YtfhkgpipbegpgaaGreatDoor
