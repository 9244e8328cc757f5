/- JournalChecks: the walk. -/
import Derived.Test.YtbompgfjlllioaaDoorJDamage
import Derived.Lib.IndexBytes
import Derived.BigRegion
namespace Go.Proofs.YtbompgfjlllioaaDoor
open Go Go.RowKit

/-- A record of any string: at most 200 bytes. -/
def txtC (s : List UInt8) : List UInt8 := (s.take 200).map txtB
theorem txtC_right (s : List UInt8) : rightL (txtC s) = true := by
  unfold rightL txtC
  rw [Bool.and_eq_true, decide_eq_true_eq, List.all_eq_true]
  refine ⟨by simp; omega, fun c hc => ?_⟩
  obtain ⟨d, _, rfl⟩ := List.mem_map.1 hc
  exact txtB_ok d
theorem txtC_min (S : ByteArray) (M : Nat) (h : min S.size 200 = M) : (S.data.toList.take M).map txtB = txtC S.data.toList := by
  unfold txtC
  congr 1
  rcases Nat.lt_or_ge S.size 200 with h1 | h1
  · rw [List.take_of_length_le (by rw [str_len]; omega), List.take_of_length_le (by rw [str_len]; omega)]
  · rw [show M = 200 by omega]
theorem conv5 (a b c d : UInt8) (wr : World) : (convert 26 9 (.slice (some ⟨wr.heap.size, 0, none⟩) 5 5)).run Tryd.prog (wr.alloc (.cells #[.int .u8 (a.toNat : Int), .int .u8 (b.toNat : Int), .int .u8 (c.toNat : Int), .int .u8 (d.toNat : Int), .int .u8 32] 5)) =
    .ok (.string ⟨#[a, b, c, d, 32]⟩) (wr.alloc (.cells #[.int .u8 (a.toNat : Int), .int .u8 (b.toNat : Int), .int .u8 (c.toNat : Int), .int .u8 (d.toNat : Int), .int .u8 32] 5)) :=
  run_convert_bytes_back _ _ _ 5 _ 5 [a, b, c, d, 32] (by kernel_rfl) (by kernel_rfl) (by kernel_rfl) (fun j hj => by
    have hj' : j < 5 := by simpa using hj
    match j, hj' with
    | 0, _ => simp [Addr.add]
    | 1, _ => simp [Addr.add]
    | 2, _ => simp [Addr.add]
    | 3, _ => simp [Addr.add]
    | 4, _ => simp [Addr.add])
theorem check_ok (x : Nat) (hx : x < 9973) (T : ByteArray) (hr : rightL T.data.toList = true) (w : World) : Calls Tryd.prog 22 #[.int .i64 (x : Int), .string T] w (fun e w' => e = .returned (.tuple #[.int .i64 (sumL x T.data.toList : Nat), .int .i64 0]) ∧ w = w') := by
  have hs : T.size ≤ 200 := by have := rightL_len hr; rwa [str_len] at this
  have h := check_any (x : Int) T (by omega) w
  have hf : failP (x : Int) T.data.toList = 0 := by unfold failP; rw [if_neg (by omega), hr]; rfl
  rwa [show checkP (x : Int) T.data.toList = (((sumL x T.data.toList : Nat) : Int), 0) by unfold checkP; rw [hf]; rfl] at h
theorem line_ok (x : Nat) (hx : x < 9973) (T : ByteArray) (hr : rightL T.data.toList = true) (w : World) (he : Env w) : Calls Tryd.prog 23 #[.int .i64 (x : Int), .string T] w (fun e w' => e = .returned (.tuple #[.string ⟨(lineL x T.data.toList).toArray⟩, .int .i64 0]) ∧ Below w.heap.size w w') := by
  have hs : T.size ≤ 200 := by have := rightL_len hr; rwa [str_len] at this
  have h := line_any (x : Int) T (by omega) w he
  have hf : failP (x : Int) T.data.toList = 0 := by unfold failP; rw [if_neg (by omega), hr]; rfl
  rwa [show lineP (x : Int) T.data.toList = (lineL x T.data.toList, 0) by unfold lineP; rw [hf]; rfl] at h
set_option maxRecDepth 100000 in
set_option maxHeartbeats 8000000 in
theorem checks_any (a b : Nat) (ha : a < 65536) (hb : b < 65536) (S : ByteArray) (w : World) (he : Env w) :
    Calls Tryd.prog 7 #[.int .u16 (a : Int), .int .u16 (b : Int), .string S] w (fun e w' => e = .returned (.bool true) ∧ Below w.heap.size w w') := by
  obtain ⟨i0, hi0, hz0, hz1, hz2⟩ := info_parts info_u8
  have AW := Lib.hid (fun W he => awake_any W he)
  have HE := Lib.hid he
  obtain ⟨M, hM⟩ : ∃ M, min S.size 200 = M := ⟨_, rfl⟩
  have HM := Lib.hid hM
  have m2 : min (S.size : Int) 200 = (M : Int) := by omega
  have n5 : M ≤ 200 := by omega
  obtain ⟨x, hx⟩ : ∃ x : Nat, a % 9973 = x := ⟨_, rfl⟩
  obtain ⟨y, hy⟩ : ∃ y : Nat, b % 9973 = y := ⟨_, rfl⟩
  have hx1 : x < 9973 := by omega
  have hy1 : y < 9973 := by omega
  have e1 : (a : Int) % 9973 = (x : Int) := by omega
  have e2 : (b : Int) % 9973 = (y : Int) := by omega
  clear he hM hx hy
  go_enter Tryd.func7, Tryd.ntmps7
  go_wp2
  try rw [e1]
  try rw [e2]
  clear e1 e2
  go_loopw [9, 31] (fun s6 s21 wr => ∃ j : Nat, j ≤ M ∧ s21 = .int .i64 j ∧ wr.ownsRow w.heap.size 5 1 s6 j (((S.data.toList.take j).map txtB).map byteV) ∧ Below w.heap.size w wr) (fun _ s21 _ => M - (intOf s21).toNat)
  case atStart => exact ⟨0, by omega, rfl, World.ownsRow_nil _ _ _ _, Below.refl _ _⟩
  case round =>
    obtain ⟨j, hj, rfl, hown, hbw⟩ := hrel
    have HO2 := Lib.hid hown
    have HW2 := Lib.hid hbw
    clear hown hbw
    by_cases hjt : j < M
    · have hjs : j < S.size := by have := HM.out; omega
      have hsl : S.data.toList.length = S.size := str_len S
      have HX := Lib.hid (txt_next S.data.toList j (by omega))
      have HY := Lib.hid (txtB_int (S.data.toList[j]'(by omega)))
      rw [str_at S j hjs] at HX HY
      have hby : (S[j].toNat : Int) < 256 := by have := (S[j]).toNat_lt; omega
      have hby0 : (0 : Int) ≤ (S[j].toNat : Int) := by omega
      obtain ⟨C, hC⟩ : ∃ C, txtB S[j] = C := ⟨_, rfl⟩
      rw [hC] at HX HY
      have HYY := HY.out.symm
      clear hC
      have t2 : decide ((j : Int) < (M : Int)) = true := decide_eq_true (by omega)
      clear hsl
      go_wp2_with (at_builtin; refine app1 rfl (.tmp 34) (.tmp 40) rfl Tryd.underlying26 hi0 hz0 hz1 hz2 rfl _ w.heap.size _ j _ (.int .u8 (C.toNat : Int)) rfl rfl rfl rfl HO2.out HW2.out.size (by omega) (by decide) ?_; intro v' w1 hown' _ _ hb')
      go_roundw
      case rel => exact ⟨j + 1, by omega, by go_num, by rw [HX.out, List.map_append]; exact hown', HW2.out.trans hb'⟩
      case measure => simp [intOf]; omega
    · obtain rfl : j = M := by omega
      have t2 : decide ((j : Int) < (j : Int)) = false := decide_eq_false (by omega)
      obtain ⟨A6, c6, rfl⟩ := own_slice HO2.out
      have hlT : (txtC S.data.toList).length = j := by rw [← txtC_min S j HM.out]; simp; have := HM.out; omega
      have HO3 : Hid (wr.ownsRow w.heap.size 5 1 (.slice A6 j c6) (txtC S.data.toList).length ((txtC S.data.toList).map byteV)) := Lib.hid (by
        have h := HO2.out
        rw [txtC_min S j HM.out] at h
        rw [hlT]; exact h)
      have CV := conv_own HO3.out
      obtain ⟨T, hT⟩ : ∃ T : ByteArray, (⟨(txtC S.data.toList).toArray⟩ : ByteArray) = T := ⟨_, rfl⟩
      have hTl : T.data.toList = txtC S.data.toList := by rw [← hT]
      have hTs : T.size = j := by rw [← str_len, hTl, hlT]
      rw [hT] at CV
      have HTS := Lib.hid hTs
      have hr : rightL T.data.toList = true := by rw [hTl]; exact txtC_right _
      have CX := Lib.hid (fun W => check_ok x hx1 T hr W)
      have CY := Lib.hid (fun W => check_ok y hy1 T hr W)
      have C1 := Lib.hid (fun W => check_ok 1 (by decide) T hr W)
      have LX := Lib.hid (fun W he => line_ok x hx1 T hr W he)
      have HR := Lib.hid hr
      have HI : Hid ((sumL x T.data.toList = sumL y T.data.toList) ↔ x = y) := Lib.hid ⟨fun h => sumL_inj x y _ hx1 hy1 h, fun h => by rw [h]⟩
      obtain ⟨L, hL⟩ : ∃ L : ByteArray, (⟨(lineL x T.data.toList).toArray⟩ : ByteArray) = L := ⟨_, rfl⟩
      have hLs : L.size = j + 6 := by rw [← str_len, ← hL]; show (lineL x T.data.toList).length = _; rw [lineL_len, str_len, hTs]
      have HLL : Hid (L.data.toList = lineL x T.data.toList) := Lib.hid (by rw [← hL])
      rw [hL] at LX
      obtain ⟨p, hp⟩ : ∃ p, sumL x T.data.toList = p := ⟨_, rfl⟩
      obtain ⟨q, hq⟩ : ∃ q, sumL y T.data.toList = q := ⟨_, rfl⟩
      have hp1 : p < 9973 := by rw [← hp]; exact sumL_lt _ _
      rw [hp] at CX HI
      rw [hq] at CY HI
      have HP := Lib.hid hp
      have HLS := Lib.hid hLs
      clear hT hTl hTs hr hL hLs hp hq hlT HO2 HO3
      go_wp2_with fail
      refine (CX.out _).mono ?_
      rintro e w1 ⟨rfl, rfl⟩
      go_wp2_with fail
      refine (CY.out _).mono ?_
      rintro e w1 ⟨rfl, rfl⟩
      go_wp2_with fail
      refine (LX.out _ (HE.out.keep HW2.out)).mono ?_
      rintro e w1 ⟨rfl, hb⟩
      have B1 := Lib.hid (bchain HW2.out hb)
      clear hb CX CY LX CV
      obtain ⟨β, hβ⟩ : ∃ β, decide (x = y) = β := ⟨_, rfl⟩
      have b1 : ((x : Int) == (y : Int)) = β := by rw [← hβ, Bool.eq_iff_iff]; simp; omega
      have b2 : (x == y) = β := by rw [← hβ, Bool.eq_iff_iff]; simp
      have b3 : ((p : Int) == (q : Int)) = β := by rw [← hβ, Bool.eq_iff_iff]; simp [← HI.out]; omega
      have b4 : (p == q) = β := by rw [← hβ, Bool.eq_iff_iff]; simp [← HI.out]
      have s1 : (L.size : Int) = (T.size : Int) + 6 := by rw [HLS.out, HTS.out]; simp
      have s2 : T.size ≤ 200 := by rw [HTS.out]; exact n5
      have s3 : (5 : Int) ≤ (L.size : Int) := by omega
      have s4 : 5 ≤ L.size := by omega
      have b5 : ((L.size : Int) != (T.size : Int) + 6) = false := by rw [s1]; simp
      have b6 : decide ((p : Int) < 0) = false := decide_eq_false (by omega)
      have b7 : decide ((9973 : Int) ≤ (p : Int)) = false := decide_eq_false (by omega)
      have hlb : lineL x T.data.toList = (figL p ++ [32]) ++ (T.data.toList ++ [10]) := by unfold lineL; rw [HP.out]; simp
      have b8 : ((L.extract 5 L.size).toList == (T ++ ⟨#[10]⟩ : ByteArray).toList) = true := by
        rw [beq_iff_eq]
        rw [ByteArray.toList_eq, ByteArray.toList_eq, Lib.extract_to_end, HLL.out, hlb]
        simp
        rfl
      have H5 : Hid ((L.extract 0 5).toList = figL p ++ [32]) := Lib.hid (by
        rw [ByteArray.toList_eq, Lib.extract_data, HLL.out, hlb]
        exact List.take_left' rfl)
      clear hβ s1 hlb
      go_upto_region 12 with fail
      go_upto_region 14 with fail
      clear b1 b2 b3 b4 b5 b6 b7 b8
      obtain ⟨a0, ha0⟩ : ∃ a0, p / 1000 = a0 := ⟨_, rfl⟩
      obtain ⟨c1, hc1⟩ : ∃ c1, p / 100 = c1 := ⟨_, rfl⟩
      obtain ⟨a1, ha1⟩ : ∃ a1, c1 % 10 = a1 := ⟨_, rfl⟩
      obtain ⟨c2, hc2⟩ : ∃ c2, p / 10 = c2 := ⟨_, rfl⟩
      obtain ⟨a2, ha2⟩ : ∃ a2, c2 % 10 = a2 := ⟨_, rfl⟩
      obtain ⟨a3, ha3⟩ : ∃ a3, p % 10 = a3 := ⟨_, rfl⟩
      have b0 := fig_u8 a0 (by omega)
      have b1 := fig_u8 a1 (by omega)
      have b2 := fig_u8 a2 (by omega)
      have b3 := fig_u8 a3 (by omega)
      have hG : figL p ++ [32] = [UInt8.ofNat (48 + a0), UInt8.ofNat (48 + a1), UInt8.ofNat (48 + a2), UInt8.ofNat (48 + a3), 32] := by unfold figL; rw [ha0, hc1, ha1, hc2, ha2, ha3]; rfl
      have C5 := conv5 (UInt8.ofNat (48 + a0)) (UInt8.ofNat (48 + a1)) (UInt8.ofNat (48 + a2)) (UInt8.ofNat (48 + a3))
      obtain ⟨G, hG1⟩ : ∃ G : ByteArray, G = ⟨#[UInt8.ofNat (48 + a0), UInt8.ofNat (48 + a1), UInt8.ofNat (48 + a2), UInt8.ofNat (48 + a3), 32]⟩ := ⟨_, rfl⟩
      have y9 : ((L.extract 0 5).toList == G.toList) = true := by
        rw [beq_iff_eq, H5.out, hG, ByteArray.toList_eq, hG1]
      rw [b0, b1, b2, b3, ← hG1] at C5
      have q1 : (p : Int).tdiv 1000 = (a0 : Int) := by rw [Int.tdiv_eq_ediv_of_nonneg (by omega)]; omega
      have q2 : (p : Int).tdiv 100 = (c1 : Int) := by rw [Int.tdiv_eq_ediv_of_nonneg (by omega)]; omega
      have q3 : (p : Int).tdiv 10 = (c2 : Int) := by rw [Int.tdiv_eq_ediv_of_nonneg (by omega)]; omega
      have q1' : (p : Int) / 1000 = (a0 : Int) := by omega
      have q2' : (p : Int) / 100 = (c1 : Int) := by omega
      have q3' : (p : Int) / 10 = (c2 : Int) := by omega
      have r1 : (c1 : Int).tmod 10 = (a1 : Int) := by rw [Int.tmod_eq_emod_of_nonneg (by omega)]; omega
      have r2 : (c2 : Int).tmod 10 = (a2 : Int) := by rw [Int.tmod_eq_emod_of_nonneg (by omega)]; omega
      have r3 : (p : Int).tmod 10 = (a3 : Int) := by rw [Int.tmod_eq_emod_of_nonneg (by omega)]; omega
      have r1' : (c1 : Int) % 10 = (a1 : Int) := by omega
      have r2' : (c2 : Int) % 10 = (a2 : Int) := by omega
      have r3' : (p : Int) % 10 = (a3 : Int) := by omega
      have v0 : IntKind.i64.wrap (a0 : Int) = (a0 : Int) := IntWalk.i64_in _ (by omega)
      have v1 : IntKind.i64.wrap (c1 : Int) = (c1 : Int) := IntWalk.i64_in _ (by omega)
      have v2 : IntKind.i64.wrap (c2 : Int) = (c2 : Int) := IntWalk.i64_in _ (by omega)
      have k0 : IntKind.i64.wrap (48 + (a0 : Int)) = 48 + (a0 : Int) := IntWalk.i64_in _ (by omega)
      have k1 : IntKind.i64.wrap (48 + (a1 : Int)) = 48 + (a1 : Int) := IntWalk.i64_in _ (by omega)
      have k2 : IntKind.i64.wrap (48 + (a2 : Int)) = 48 + (a2 : Int) := IntWalk.i64_in _ (by omega)
      have k3 : IntKind.i64.wrap (48 + (a3 : Int)) = 48 + (a3 : Int) := IntWalk.i64_in _ (by omega)
      have y0 : IntKind.u8.wrap (48 + (a0 : Int)) = 48 + (a0 : Int) := IntWalk.u8_in _ (by omega)
      have y1 : IntKind.u8.wrap (48 + (a1 : Int)) = 48 + (a1 : Int) := IntWalk.u8_in _ (by omega)
      have y2 : IntKind.u8.wrap (48 + (a2 : Int)) = 48 + (a2 : Int) := IntWalk.u8_in _ (by omega)
      have y3 : IntKind.u8.wrap (48 + (a3 : Int)) = 48 + (a3 : Int) := IntWalk.u8_in _ (by omega)
      clear ha0 ha1 ha2 ha3 hc1 hc2 b0 b1 b2 b3 hG hG1
      have CD : (convert 26 9 (.slice (some ⟨w1.heap.size, 0, none⟩) 5 5)).run Tryd.prog (w1.alloc (.cells #[.int .u8 (48 + (a0 : Int)), .int .u8 (48 + (a1 : Int)), .int .u8 (48 + (a2 : Int)), .int .u8 (48 + (a3 : Int)), .int .u8 32] 5)).drew = .ok (.string G) (w1.alloc (.cells #[.int .u8 (48 + (a0 : Int)), .int .u8 (48 + (a1 : Int)), .int .u8 (48 + (a2 : Int)), .int .u8 (48 + (a3 : Int)), .int .u8 32] 5)).drew := C5 w1.drew
      clear C5
      go_region
      obtain ⟨w3, hw3⟩ : ∃ w3, (w1.alloc (.cells #[.int .u8 (48 + (a0 : Int)), .int .u8 (48 + (a1 : Int)), .int .u8 (48 + (a2 : Int)), .int .u8 (48 + (a3 : Int)), .int .u8 32] 5)).drew = w3 := ⟨_, rfl⟩
      have B3 := Lib.hid (by rw [← hw3]; exact (B1.out.alloc B1.out.size _).drew : Below w.heap.size w w3)
      rw [hw3]
      clear hw3 B1 CD q1 q2 q3 q1' q2' q3' r1 r2 r3 r1' r2' r3' v0 v1 v2 k0 k1 k2 k3 y0 y1 y2 y3
      go_wp2_with fail
      obtain ⟨dp, hdp⟩ : ∃ dp, w3.heap.size = dp := ⟨_, rfl⟩
      have hwd : w.heap.size ≤ dp := by rw [← hdp]; exact B3.out.size
      have B4 := Lib.hid (B3.out.alloc B3.out.size (.cells #[.slice none 0 0, .int .i64 (-1)] 28))
      have E4 : Hid (Env (w3.alloc (.cells #[.slice none 0 0, .int .i64 (-1)] 28))) := Lib.hid (HE.out.keep B4.out)
      have OP := Lib.hid (open_new (B := w.heap.size) (pow := -1) E4.out (Blk.new w3 28 #[.slice none 0 0, .int .i64 (-1)]) (by rw [hdp]; exact hwd) (by decide) (by decide))
      rw [hdp] at OP
      rw [hdp]
      refine OP.out.mono ?_
      rintro e w5 ⟨lp, dv5, rv5, rfl, hlp, hlg, hfr, hrv⟩
      have B5 := Lib.hid (B4.out.trans (hfr.below B4.out.size (fun x hx => by have hxd : x = dp := (by simpa using hx); omega)))
      have G5 := Lib.hid hlg
      clear OP E4 B4 hlp hlg hfr hrv hdp
      have hTl2 : T.size ≤ 200 := s2
      have AP := Lib.hid (append_main w.heap.size lp dp [] (-1) [] 1 0 dv5 rv5 _ T w5 (by omega) (by decide) (HE.out.keep B5.out) (by decide) HR.out (by simp; omega) (by decide) (by decide) (by decide) G5.out)
      go_wp2_with fail
      refine (last_any (h := G5.out.log)).mono ?_
      rintro e w6 ⟨rfl, rfl⟩
      go_wp2_with fail
      refine AP.out.mono ?_
      rintro e w6 hq
      obtain ⟨rfl, dv6, rv6, bv6, ha6⟩ := hq.2 rfl
      have B6 := Lib.hid (B5.out.trans (G5.out.below ha6.fr))
      have G6 := Lib.hid ha6.lg
      clear hq ha6 G5 AP B5
      obtain ⟨p1, hp1'⟩ : ∃ p1, sumL 1 T.data.toList = p1 := ⟨_, rfl⟩
      rw [hp1'] at G6 C1
      clear hp1'
      go_wp2_with fail
      refine (C1.out _).mono ?_
      rintro e w7 ⟨rfl, rfl⟩
      go_wp2_with fail
      refine (last_any (h := G6.out.log)).mono ?_
      rintro e w7 ⟨rfl, rfl⟩
      go_wp2_with fail
      refine (size_any (h := G6.out.log)).mono ?_
      rintro e w7 ⟨rfl, rfl⟩
      go_wp2_with fail
      refine (AW.out _ (HE.out.keep B6.out)).mono ?_
      rintro e w7 ⟨rfl, hb⟩
      have B7 := Lib.hid (bchain B6.out hb)
      clear hb
      go_wp2
      go_ret
      exact ⟨rfl, B7.out⟩
end Go.Proofs.YtbompgfjlllioaaDoor
