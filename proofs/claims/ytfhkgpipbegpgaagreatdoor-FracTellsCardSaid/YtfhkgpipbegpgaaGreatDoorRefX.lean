/- The contract of the reference's Round. -/
import Derived.Test.YtfhkgpipbegpgaaGreatDoorRefW
import Derived.Test.YtfhkgpipbegpgaaGreatDoorPadP
import Derived.Test.YtfhkgpipbegpgaaGreatDoorRefH
namespace Go.Proofs.YtfhkgpipbegpgaaGreatDoor
open Go Go.RowKit

set_option maxRecDepth 100000 in
set_option maxHeartbeats 2000000 in
theorem rround_bad (n d k : Int) (hf : FB n d) (h : rightB n d = false) (w : World) :
    Calls Tryz.prog 27 #[.agg #[.int .i64 n, .int .i64 d], .int .i64 k] w (RetS [] 2 w) := by
  have R1 := rright_hid hf h
  have HA := Lib.hid (Am1.start w n d)
  clear h hf
  go_enter Tryz.func27, Tryz.ntmps27
  go_upto_region 1 with fail
  generalize w.alloc (.cells #[.int .i64 n, .int .i64 d] 23) = V1 at *
  obtain ⟨x0, x1⟩ := HA.out.cells
  go_wp2_with fail
  refine (R1.out _).mono ?_
  rintro e w1 ⟨rfl, hb⟩
  have HA1 := Lib.hid (HA.out.keep hb)
  clear hb x0 x1 HA R1
  go_wp2
  go_ret2
  exact retS_mk rfl HA1.out.below
set_option maxRecDepth 100000 in
set_option maxHeartbeats 2000000 in
theorem rround_out (n d k : Int) (hf : FB n d) (h : rightB n d = true) (hk : k < 0 ∨ 9 < k) (w : World) :
    Calls Tryz.prog 27 #[.agg #[.int .i64 n, .int .i64 d], .int .i64 k] w (RetS [] 2 w) := by
  have R1 := rright_hid hf h
  have HA := Lib.hid (Am1.start w n d)
  clear h hf
  go_enter Tryz.func27, Tryz.ntmps27
  go_upto_region 1 with fail
  generalize w.alloc (.cells #[.int .i64 n, .int .i64 d] 23) = V1 at *
  obtain ⟨x0, x1⟩ := HA.out.cells
  go_wp2_with fail
  refine (R1.out _).mono ?_
  rintro e w1 ⟨rfl, hb⟩
  have HA1 := Lib.hid (HA.out.keep hb)
  clear hb x0 x1 HA R1
  by_cases hk0 : k < 0
  · have t1 : decide (k < 0) = true := decide_eq_true hk0
    clear hk hk0
    go_wp2
    go_ret2
    exact retS_mk rfl HA1.out.below
  · have t1 : decide (k < 0) = false := decide_eq_false hk0
    have t2 : decide (9 < k) = true := decide_eq_true (by omega)
    clear hk hk0
    go_wp2
    go_ret2
    exact retS_mk rfl HA1.out.below
theorem dec28 {u : Nat} (h : u < 10 ^ 29) : (Lib.decDigits u).length ≤ 29 := by
  rw [Lib.decDigits_length]; exact nDigits_le 29 u h (by decide)
set_option maxRecDepth 100000 in
set_option maxHeartbeats 8000000 in
theorem rround_ok (n d : Int) (k : Nat) (hk9 : k ≤ 9) (hf : FB n d) (h : rightB n d = true) (w : World) :
    Calls Tryz.prog 27 #[.agg #[.int .i64 n, .int .i64 d], .int .i64 k] w (RetS (roundL (decide (n < 0)) k (roundT n.natAbs d.natAbs k)) 0 w) := by
  have R1 := rright_hid hf h
  have hd0 := right_pos h
  have Wn := Lib.hid (fun W => whole_any n hf.n0 hf.n1 W)
  have Wd := Lib.hid (fun W => whole_any d hf.d0 hf.d1 W)
  have kn := nd_abs hf.n0 hf.n1
  have kd := nd_abs hf.d0 hf.d1
  have hn63 : n.natAbs ≤ 9223372036854775808 := by have := hf.n0; have := hf.n1; omega
  obtain ⟨N, hN⟩ : ∃ N, n.natAbs = N := ⟨_, rfl⟩
  obtain ⟨D, hD⟩ : ∃ N, d.natAbs = N := ⟨_, rfl⟩
  have hDp : 0 < D := by omega
  rw [hN] at Wn kn hn63
  rw [hD] at Wd kd
  rw [hN, hD]
  have hpj : ∀ j, j ≤ 9 → nd (N * p10 j) ≤ 8 := fun j hj => by
    have h1 := nd_mul N (p10 j)
    have h2 := p10_le j hj
    have h3 : nd (p10 j) ≤ 4 := nd_64 (by omega)
    omega
  have hpk := hpj k hk9
  obtain ⟨T, hT⟩ : ∃ T, roundT N D k = T := ⟨_, rfl⟩
  have hTn : nearN (N * p10 k) D = T := hT
  have hTle : T ≤ N * p10 k := by rw [← hTn]; exact nearN_le _ _ hDp
  have kT : nd T ≤ 8 := Nat.le_trans (nd_mono hTle) hpk
  have hTlen : (Lib.decDigits T).length ≤ 29 := by
    refine dec28 ?_
    have h2 := p10_le k hk9
    have h3 : N * p10 k ≤ 9223372036854775808 * 1000000000 := Nat.mul_le_mul hn63 h2
    have h4 : (10 : Nat) ^ 29 = 100000000000000000000000000000 := by decide
    omega
  rw [hT]
  have SC : Hid (∀ W X cX (j : Nat), j < 9 → Dg W X cX (N * p10 j) → Calls Tryz.prog 56 #[.slice X (nd (N * p10 j)) cX, .int .i64 10] W (RetD (N * p10 (j + 1)) W)) := Lib.hid fun W X cX j hj h1 => by
    have := scale_any X cX (N * p10 j) 10 (by omega) (by have := hpj j (by omega); omega) W h1
    rw [Nat.mul_assoc, ← p10_succ] at this
    exact this
  have RD : Hid (∀ W X cX B cB, Dg W X cX (N * p10 k) → Dg W B cB D → Calls Tryz.prog 51 #[.slice X (nd (N * p10 k)) cX, .slice B (nd D) cB] W (RetD T W)) := Lib.hid fun W X cX B cB h1 h2 => hTn ▸ rounded_any X B cX cB _ D hDp (by omega) (by omega) W h1 h2
  have DC : Hid (∀ W X cX, Dg W X cX T → Calls Tryz.prog 57 #[.slice X (nd T) cX] W (RetStr (Lib.decDigits T) W)) := Lib.hid fun W X cX h1 => decimal_any X cX T (by omega) (by omega) W h1
  have HT0 : Hid (0 < T ↔ 0 < nd T) := Lib.hid (by have := nd_zero_iff T; omega)
  have HA := Lib.hid (Am1.start w n d)
  clear h hf hN hD hT hTn hTle hpj hpk kT hDp hd0 kn kd hn63
  go_enter Tryz.func27, Tryz.ntmps27
  go_upto_region 1 with fail
  generalize w.alloc (.cells #[.int .i64 n, .int .i64 d] 23) = V1 at *
  obtain ⟨x0, x1⟩ := HA.out.cells
  go_wp2_with fail
  refine (R1.out _).mono ?_
  rintro e w1 ⟨rfl, hb⟩
  have HA1 := Lib.hid (HA.out.keep hb)
  clear hb x0 x1 HA R1
  obtain ⟨x0, x1⟩ := HA1.out.cells
  have t1 : decide ((k : Int) < 0) = false := decide_eq_false (by omega)
  have t2 : decide (9 < (k : Int)) = false := decide_eq_false (by omega)
  go_wp2_with fail
  refine (Wn.out _).mono ?_
  rintro e w2 ⟨X, cX, rfl, hX, hb⟩
  have HA2 := Lib.hid (HA1.out.keep hb)
  have HX := Lib.hid hX
  clear hb x0 x1 HA1 Wn hX t1 t2
  go_wp2
  go_loopw [6, 7] (fun s6 s7 wr => ∃ j C c : Nat, ∃ Y, j ≤ k ∧ s7 = .int .i64 j ∧ s6 = .slice Y C c ∧ C = nd (N * p10 j) ∧ Dg wr Y c (N * p10 j) ∧ Am1 w wr n d) (fun _ s7 _ => k - (intOf s7).toNat)
  case atStart => exact ⟨0, nd N, cX, X, Nat.zero_le _, rfl, rfl, by rw [p10_zero, Nat.mul_one], by rw [p10_zero, Nat.mul_one]; exact HX.out, HA2.out⟩
  case round =>
    obtain ⟨j, C, c, Y, hj, rfl, rfl, hC, hY, hA⟩ := hrel
    have HY := Lib.hid hY
    have HAj := Lib.hid hA
    subst hC
    clear hY hA HX HA2
    by_cases hlt : j < k
    · have u1 : decide (j < k) = true := decide_eq_true hlt
      go_wp2_with fail
      refine (SC.out _ _ _ j (by omega) HY.out).mono ?_
      rintro e w3 ⟨Z, cZ, rfl, hZ, hb⟩
      have HZ := Lib.hid hZ
      have HA3 := Lib.hid (HAj.out.keep hb)
      clear hZ hb
      go_wp2
      go_roundw
      case rel => exact ⟨j + 1, _, cZ, Z, by omega, by go_num, rfl, rfl, HZ.out, HA3.out⟩
      case measure => simp [intOf]; omega
    obtain rfl : j = k := by omega
    have u1 : decide (j < j) = false := decide_eq_false hlt
    obtain ⟨x0, x1⟩ := HAj.out.cells
    clear hlt hj SC
    go_wp2_with fail
    refine (Wd.out _).mono ?_
    rintro e w3 ⟨B, cB, rfl, hB, hb⟩
    have HB := Lib.hid hB
    have HY3 := Lib.hid (HY.out.keep hb)
    have HA3 := Lib.hid (HAj.out.keep hb)
    clear hB hb x0 x1 HY HAj Wd
    go_wp2_with fail
    refine (RD.out _ _ _ _ _ HY3.out HB.out).mono ?_
    rintro e w4 ⟨R, cR, rfl, hR, hb⟩
    have HR := Lib.hid hR
    have HA4 := Lib.hid (HA3.out.keep hb)
    clear hR hb HY3 HB HA3 RD
    go_wp2_with fail
    refine (DC.out _ _ _ HR.out).mono ?_
    rintro e w5 ⟨rfl, hb⟩
    have HA5 := Lib.hid (HA4.out.keep hb)
    clear hb HA4 HR DC
    go_wp2
    obtain ⟨wo, rfl⟩ : ∃ wo : World, wo = wr := ⟨_, rfl⟩
    go_loop [9] (fun s9 => ∃ (i : Nat) (L : List UInt8), s9 = .string ⟨L.toArray⟩ ∧ L = List.replicate i 48 ++ Lib.decDigits T ∧ (i = 0 ∨ L.length ≤ j + 1)) (fun s9 => match s9 with | .string s => j + 1 - s.size | _ => 0)
    case atStart => exact ⟨0, Lib.decDigits T, rfl, rfl, .inl rfl⟩
    case round =>
      obtain ⟨i, L, rfl, hL, hi⟩ := hrel
      have hlen : L.length = i + (Lib.decDigits T).length := by rw [hL]; simp
      have hl39 : L.length ≤ 39 := by omega
      by_cases hle : L.length ≤ j
      · have v1 : decide (L.length ≤ j) = true := decide_eq_true hle
        have z1 : ¬ 9223372036854775807 < 1 + L.length := by omega
        have HL2 : Hid ((48 :: L) = List.replicate (i + 1) 48 ++ Lib.decDigits T ∧ (48 :: L).length = L.length + 1) := Lib.hid ⟨by rw [hL, List.replicate_succ]; rfl, by simp⟩
        clear hL hi hlen
        go_wp2
        go_round
        case rel => exact ⟨i + 1, 48 :: L, by first | (congr 1; done) | (congr 1; apply ByteArray.ext; simp), HL2.out.1, .inr (by rw [HL2.out.2]; omega)⟩
        case measure => (show j + 1 - (⟨(48 :: L).toArray⟩ : ByteArray).size < j + 1 - (⟨L.toArray⟩ : ByteArray).size; have e1 : (⟨(48 :: L).toArray⟩ : ByteArray).size = L.length + 1 := rfl; have e2 : (⟨L.toArray⟩ : ByteArray).size = L.length := rfl; omega)
      have v1 : decide (L.length ≤ j) = false := decide_eq_false hle
      have HP : Hid (L = padP j T) := Lib.hid (by
        rw [hL]; unfold padP
        congr 2
        rcases hi with h | h
        · omega
        · omega)
      have hlj : j + 1 ≤ L.length := by omega
      obtain ⟨x0, x1⟩ := HA5.out.cells
      clear hL hi hlen hle
      rcases Nat.eq_zero_or_pos j with j0 | j0
      · have v2 : decide ((0 : Int) < (j : Int)) = false := decide_eq_false (by omega)
        have v3 : decide (0 < j) = false := decide_eq_false (by omega)
        have HJ : Hid (roundL (decide (n < 0)) j T = (if decide (n < 0) = true ∧ 0 < T then [45] else []) ++ L) := Lib.hid (by rw [HP.out, j0]; exact pad_zero _ _)
        clear j0
        go_upto_region 14 with fail
        by_cases hn : n < 0
        · have q1 : decide (n < 0) = true := decide_eq_true hn
          by_cases hT0 : 0 < T
          · have q2 : decide (0 < nd T) = true := decide_eq_true (HT0.out.1 hT0)
            have q3 : decide ((0 : Int) < (nd T : Int)) = true := decide_eq_true (by have := HT0.out.1 hT0; omega)
            have HF : Hid (roundL true j T = [45] ++ L) := Lib.hid (by rw [show roundL true j T = roundL (decide (n < 0)) j T by rw [q1], HJ.out, if_pos ⟨decide_eq_true hn, hT0⟩])
            clear hn hT0
            go_wp2
            go_ret2
            exact retS_mk (by first | (rw [HF.out]; done) | (rw [HF.out]; rfl) | (rw [HF.out]; apply ByteArray.ext; simp)) (HA5.out.below)
          · have q2 : decide (0 < nd T) = false := decide_eq_false (fun h => hT0 (HT0.out.2 h))
            have q3 : decide ((0 : Int) < (nd T : Int)) = false := decide_eq_false (fun h => hT0 (HT0.out.2 (by omega)))
            have HF : Hid (roundL true j T = L) := Lib.hid (by rw [show roundL true j T = roundL (decide (n < 0)) j T by rw [q1], HJ.out, if_neg (fun h => hT0 h.2)]; rfl)
            clear hn hT0
            go_wp2
            go_ret2
            exact retS_mk (by first | (rw [HF.out]; done) | (rw [HF.out]; rfl) | (rw [HF.out]; apply ByteArray.ext; simp)) (HA5.out.below)
        · have q1 : decide (n < 0) = false := decide_eq_false hn
          have HF : Hid (roundL false j T = L) := Lib.hid (by rw [show roundL false j T = roundL (decide (n < 0)) j T by rw [q1], HJ.out, if_neg (fun h => hn (of_decide_eq_true h.1))]; rfl)
          clear hn
          go_wp2
          go_ret2
          exact retS_mk (by first | (rw [HF.out]; done) | (rw [HF.out]; rfl) | (rw [HF.out]; apply ByteArray.ext; simp)) (HA5.out.below)
      · have v2 : decide ((0 : Int) < (j : Int)) = true := decide_eq_true (by omega)
        have v3 : decide (0 < j) = true := decide_eq_true (by omega)
        have HJ : Hid (roundL (decide (n < 0)) j T = (if decide (n < 0) = true ∧ 0 < T then [45] else []) ++ (L.take (L.length - j) ++ [46] ++ L.drop (L.length - j))) := Lib.hid (by rw [HP.out]; exact pad_point _ _ _ j0)
        clear j0
        have w1 : IntKind.i64.wrap ((L.length : Int) - (j : Int)) = (L.length : Int) - (j : Int) := IntWalk.i64_in _ (by omega)
        have w2 : (0 : Int) ≤ (L.length : Int) - (j : Int) := by omega
        have w3 : (L.length : Int) - (j : Int) ≤ (L.length : Int) := by omega
        have w4 : ((L.length : Int) - (j : Int)).toNat = L.length - j := by omega
        have z1 : ¬ 9223372036854775807 < (L.length - j) + 1 := by omega
        have z2 : ¬ 9223372036854775807 < (L.length - j) + 1 + j := by omega
        have z3 : ¬ 9223372036854775807 < (L.length - j) + 1 + (L.length - (L.length - j)) := by omega
        go_upto_region 13 with fail
        go_quiet (fail)
        clear w1 w2 w3 w4
        go_upto_region 14 with fail
        by_cases hn : n < 0
        · have q1 : decide (n < 0) = true := decide_eq_true hn
          by_cases hT0 : 0 < T
          · have q2 : decide (0 < nd T) = true := decide_eq_true (HT0.out.1 hT0)
            have q3 : decide ((0 : Int) < (nd T : Int)) = true := decide_eq_true (by have := HT0.out.1 hT0; omega)
            have HF : Hid (roundL true j T = [45] ++ (L.take (L.length - j) ++ [46] ++ L.drop (L.length - j))) := Lib.hid (by rw [show roundL true j T = roundL (decide (n < 0)) j T by rw [q1], HJ.out, if_pos ⟨decide_eq_true hn, hT0⟩])
            clear hn hT0
            go_wp2
            go_ret2
            exact retS_mk (by rw [HF.out]; apply ByteArray.ext; apply Array.ext'; simp [ByteArray.data_extract]; exact List.take_of_length_le (by simp)) (below_drewN HA5.out.below _)
          · have q2 : decide (0 < nd T) = false := decide_eq_false (fun h => hT0 (HT0.out.2 h))
            have q3 : decide ((0 : Int) < (nd T : Int)) = false := decide_eq_false (fun h => hT0 (HT0.out.2 (by omega)))
            have HF : Hid (roundL true j T = (L.take (L.length - j) ++ [46] ++ L.drop (L.length - j))) := Lib.hid (by rw [show roundL true j T = roundL (decide (n < 0)) j T by rw [q1], HJ.out, if_neg (fun h => hT0 h.2)]; rfl)
            clear hn hT0
            go_wp2
            go_ret2
            exact retS_mk (by rw [HF.out]; apply ByteArray.ext; apply Array.ext'; simp [ByteArray.data_extract]; exact List.take_of_length_le (by simp)) (below_drewN HA5.out.below _)
        · have q1 : decide (n < 0) = false := decide_eq_false hn
          have HF : Hid (roundL false j T = (L.take (L.length - j) ++ [46] ++ L.drop (L.length - j))) := Lib.hid (by rw [show roundL false j T = roundL (decide (n < 0)) j T by rw [q1], HJ.out, if_neg (fun h => hn (of_decide_eq_true h.1))]; rfl)
          clear hn
          go_wp2
          go_ret2
          exact retS_mk (by rw [HF.out]; apply ByteArray.ext; apply Array.ext'; simp [ByteArray.data_extract]; exact List.take_of_length_le (by simp)) (below_drewN HA5.out.below _)
end Go.Proofs.YtfhkgpipbegpgaaGreatDoor
