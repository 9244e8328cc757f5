/- The reference's single cards, signs of ranks, writing of a hand. -/
import Derived.Test.YtaadipccgckehaaGreatDoorRA
import Derived.Test.YtaadipccgckehaaGreatDoorPlM
namespace Go.Proofs.YtaadipccgckehaaGreatDoor
open Go Go.RowKit Go.Shelf Pl

theorem bit_any (c : Nat) (hc : c < 63) (w : World) : Calls Tryz.prog 84 #[.int .u8 (c : Int)] w (fun e w' => e = .returned (.int .u64 ((2 ^ c : Nat) : Int)) ∧ w = w') := by
  go_enter Tryz.func84, Tryz.ntmps84
  go_wp2_with fail
  go_loopw [3, 4] (fun s3 s4 wr => ∃ i : Nat, i ≤ c ∧ s4 = .int .u8 (i : Int) ∧ s3 = .int .u64 ((2 ^ i : Nat) : Int) ∧ wr = w) (fun _ s4 _ => c - (intOf s4).toNat)
  case atStart => exact ⟨0, by omega, rfl, rfl, rfl⟩
  case round =>
    obtain ⟨i, hi, rfl, rfl, rfl⟩ := hrel
    by_cases hlt : i < c
    · have u1 : decide ((i : Int) < (c : Int)) = true := decide_eq_true (by omega)
      have u2 : decide (i < c) = true := decide_eq_true hlt
      have e2 : IntKind.u8.wrap ((i : Int) + 1) = ((i + 1 : Nat) : Int) := by show ((i : Int) + 1) % 256 = _; omega
      have hp : 2 ^ (i + 1) = 2 ^ i + 2 ^ i := by rw [Nat.pow_succ]; omega
      have hb : 2 ^ i ≤ 2 ^ 62 := Nat.pow_le_pow_right (by omega) (by omega)
      obtain ⟨q, hq⟩ : ∃ q, 2 ^ i = q := ⟨_, rfl⟩
      rw [hq] at hp hb ⊢
      have e3 : IntKind.u64.wrap ((q : Int) + (q : Int)) = ((q + q : Nat) : Int) := by rw [IntWalk.u64_in _ (by omega)]; omega
      have HP := Lib.hid hp
      clear hq hp hb
      go_wp2_with fail
      go_roundw
      case rel => exact ⟨i + 1, by omega, by first | rfl | (simp; try omega), by rw [HP.out]; simp, trivial⟩
      case measure => simp [intOf]; try omega
    · obtain rfl : i = c := by omega
      have u1 : decide ((i : Int) < (i : Int)) = false := decide_eq_false (by omega)
      have u2 : decide (i < i) = false := decide_eq_false (by omega)
      obtain ⟨q, hq⟩ : ∃ q, 2 ^ i = q := ⟨_, rfl⟩
      have HQ := Lib.hid hq
      rw [hq]
      clear hq
      go_wp2_with fail
      go_ret
      exact ⟨by rw [HQ.out]; rfl, rfl⟩
theorem low_sign : ∀ r, r < 8 → UInt8.ofNat (50 + r) = sign r := by decide
theorem one_sign (r : Nat) (hr : r < 8) (wr : World) : (convert 101 9 (.slice (some ⟨wr.heap.size, 0, none⟩) 1 1)).run Tryz.prog (wr.alloc (.cells #[.int .u8 (50 + (r : Int))] 5)) =
    .ok (.string ⟨#[sign r]⟩) (wr.alloc (.cells #[.int .u8 (50 + (r : Int))] 5)) := by
  rw [← low_sign r hr]
  exact run_convert_bytes_back _ _ _ 5 _ 1 [UInt8.ofNat (50 + r)] (by kernel_rfl) (by kernel_rfl) (by kernel_rfl) (fun j hj => by
    obtain rfl : j = 0 := by simpa using hj
    have h2 : (UInt8.ofNat (50 + r)).toNat = 50 + r := by simp; omega
    simp only [List.getElem_cons_zero, h2]
    simp [Addr.add])
set_option maxHeartbeats 2000000 in
theorem sign_any (r : Nat) (hr : r < 13) (w : World) : Calls Tryz.prog 66 #[.int .i64 (r : Int)] w fun e w' => e = .returned (.string ⟨#[sign r]⟩) ∧ Below w.heap.size w w' := by
  by_cases h8 : r < 8
  · have os := one_sign r h8
    have u0 : IntKind.u8.wrap (50 + (r : Int)) = 50 + (r : Int) := IntWalk.u8_in _ (by omega)
    have t1 : ((r : Int) == 8) = false := beq_eq_false_iff_ne.2 (by omega)
    have t2 : ((r : Int) == 9) = false := beq_eq_false_iff_ne.2 (by omega)
    have t3 : ((r : Int) == 10) = false := beq_eq_false_iff_ne.2 (by omega)
    have t4 : ((r : Int) == 11) = false := beq_eq_false_iff_ne.2 (by omega)
    have t5 : ((r : Int) == 12) = false := beq_eq_false_iff_ne.2 (by omega)
    go_enter Tryz.func66, Tryz.ntmps66
    go_wp2_with fail
    go_ret
    exact ⟨rfl, (Below.refl _ _).alloc (Nat.le_refl _) _⟩
  · rcases (by omega : r = 8 ∨ r = 9 ∨ r = 10 ∨ r = 11 ∨ r = 12) with rfl | rfl | rfl | rfl | rfl
    all_goals
      go_enter Tryz.func66, Tryz.ntmps66
      go_wp2_with fail
      go_ret
      exact ⟨rfl, Below.refl _ _⟩
theorem str_snoc (out : List UInt8) (c : UInt8) : (⟨out.toArray⟩ : ByteArray) ++ ⟨#[c]⟩ = ⟨(out ++ [c]).toArray⟩ := by
  apply ByteArray.ext; simp
set_option maxRecDepth 100000 in
set_option maxHeartbeats 2000000 in
theorem rhand_any (m : Nat) (hm : m < 4503599627370496) (w : World) : Calls Tryz.prog 46 #[.int .u64 (m : Int)] w (fun e w' => e = .returned (.tuple #[strV' (writeL m), .int .i64 0]) ∧ Below w.heap.size w w') := by
  have WH := Lib.hid (fun W => whole_any m W)
  rw [decide_eq_true hm] at WH
  have HA := Lib.hid (fun c (hc : c ≤ 100) W => has_any m c (by omega) hc W)
  have HM := Lib.hid hm
  clear hm
  unfold strV'
  go_enter Tryz.func46, Tryz.ntmps46
  go_wp2_with (go_at_call 63; refine (WH.out _).mono ?_; rintro e w' ⟨rfl, rfl⟩)
  clear WH
  go_loopw [4, 5] (fun s4 s5 wr => ∃ (S : Nat) (out : List UInt8), S ≤ 4 ∧ s5 = .int .i64 ((S : Int) - 1) ∧ s4 = .string ⟨out.toArray⟩ ∧ Hid (out ++ (if S = 0 then [] else Pl.wr (S - 1) 13 m) = writeL m) ∧ Hid (Below w.heap.size w wr)) (fun _ s5 _ => (intOf s5 + 1).toNat)
  case atStart => exact ⟨4, [], by omega, rfl, rfl, Lib.hid rfl, Lib.hid (Below.refl _ _)⟩
  case round =>
    obtain ⟨S, out, hS, rfl, rfl, HO, HB⟩ := hrel
    rcases S with _ | s
    · have HO2 := HO.out
      rw [if_pos rfl, List.append_nil] at HO2
      have HO3 := Lib.hid HO2
      clear HO HO2
      rw [show ((0 : Nat) : Int) - 1 = -1 from rfl]
      go_wp2_with fail
      go_ret2
      exact ⟨by rw [HO3.out]; rfl, HB.out⟩
    · have t0 : ((s + 1 : Nat) : Int) - 1 = (s : Int) := by omega
      have t1 : decide (0 ≤ (s : Int)) = true := decide_eq_true (by omega)
      have HO2 := HO.out
      rw [if_neg (by omega), Nat.add_sub_cancel] at HO2
      have HO3 := Lib.hid HO2
      clear HO HO2
      rw [t0]
      clear t0
      go_wp2_with fail
      go_loopw [4, 6] (fun s4 s6 wq => ∃ (R : Nat) (o2 : List UInt8), R ≤ 13 ∧ s6 = .int .i64 ((R : Int) - 1) ∧ s4 = .string ⟨o2.toArray⟩ ∧ Hid (o2 ++ Pl.wr s R m = writeL m) ∧ Hid (Below w.heap.size w wq)) (fun _ s6 _ => (intOf s6 + 1).toNat)
      case atStart => exact ⟨13, out, by omega, rfl, rfl, HO3, HB⟩
      case round =>
        clear HO3 HB
        obtain ⟨R, o2, hR, rfl, rfl, HO, HB⟩ := hrel
        have hl := congrArg List.length HO.out
        have hwl := write_len m
        rw [List.length_append] at hl
        have hol : o2.length ≤ 56 := by omega
        clear hl hwl
        rcases R with _ | r
        · rw [show ((0 : Nat) : Int) - 1 = -1 from rfl]
          obtain ⟨E0, hE0⟩ : ∃ E0 : ByteArray, (⟨o2.toArray⟩ : ByteArray) = E0 := ⟨_, rfl⟩
          have hEs : E0.size = o2.length := by rw [← hE0]; rfl
          have hE1 : ¬ 9223372036854775807 < E0.size + 1 := by omega
          have e2 : IntKind.i64.wrap ((s : Int) - 1) = (s : Int) - 1 := IntWalk.i64_in _ (by omega)
          by_cases h0 : 0 < s
          · have t2 : decide (0 < (s : Int)) = true := decide_eq_true (by omega)
            have t2b : decide (0 < s) = true := decide_eq_true h0
            have HN : Hid (E0 ++ ⟨#[46]⟩ = ⟨(o2 ++ [46]).toArray⟩ ∧ (o2 ++ [46]) ++ (if s = 0 then [] else Pl.wr (s - 1) 13 m) = writeL m) := Lib.hid ⟨by rw [← hE0, str_snoc], by
              obtain ⟨q, rfl⟩ : ∃ q, s = q + 1 := ⟨s - 1, by omega⟩
              rw [if_neg (by omega), Nat.add_sub_cancel]
              have := HO.out
              rw [wr_dot] at this
              rw [← this]; simp⟩
            rw [hE0]
            clear hE0 hEs hol h0
            go_wp2_with fail
            go_roundw
            case rel => exact ⟨s, o2 ++ [46], by omega, rfl, by rw [HN.out.1], Lib.hid HN.out.2, HB⟩
            case measure => simp [intOf]; try omega
          · obtain rfl : s = 0 := by omega
            have HN : Hid (o2 ++ (if (0 : Nat) = 0 then [] else Pl.wr (0 - 1) 13 m) = writeL m) := Lib.hid (by
              rw [if_pos rfl]
              have := HO.out
              rwa [wr_zero] at this)
            have t2 : decide (0 < ((0 : Nat) : Int)) = false := rfl
            clear hE0 hEs hol h0 hE1
            go_wp2_with fail
            go_roundw
            case rel => exact ⟨0, o2, by omega, rfl, rfl, HN, HB⟩
            case measure => simp [intOf]
        · rw [show ((r + 1 : Nat) : Int) - 1 = (r : Int) by omega]
          have t3 : decide (0 ≤ (r : Int)) = true := decide_eq_true (by omega)
          have e1 : IntKind.i64.wrap (13 * (s : Int)) = 13 * (s : Int) := IntWalk.i64_in _ (by omega)
          have e2 : IntKind.i64.wrap (13 * (s : Int) + (r : Int)) = ((13 * s + r : Nat) : Int) := by rw [IntWalk.i64_in _ (by omega)]; omega
          have e2b : 13 * (s : Int) + (r : Int) = ((13 * s + r : Nat) : Int) := by omega
          have e3 : IntKind.i64.wrap ((r : Int) - 1) = (r : Int) - 1 := IntWalk.i64_in _ (by omega)
          have H1 := Lib.hid (fun W => HA.out (13 * s + r) (by omega) W)
          have SG := Lib.hid (fun W => sign_any r (by omega) W)
          rcases hx : m.testBit (13 * s + r) with _ | _
          · rw [hx] at H1
            have HN : Hid (o2 ++ Pl.wr s r m = writeL m) := Lib.hid (by
              have := HO.out
              rwa [wr_skip s r m hx] at this)
            clear hx SG HO
            generalize 13 * s + r = c at *
            go_wp2_with (go_at_call 65; refine (H1.out _).mono ?_; rintro e w' ⟨rfl, rfl⟩)
            go_roundw
            case rel => exact ⟨r, o2, by omega, rfl, rfl, HN, HB⟩
            case measure => simp [intOf]; try omega
          · rw [hx] at H1
            obtain ⟨E0, hE0⟩ : ∃ E0 : ByteArray, (⟨o2.toArray⟩ : ByteArray) = E0 := ⟨_, rfl⟩
            have hEs : E0.size = o2.length := by rw [← hE0]; rfl
            have hE1 : ¬ 9223372036854775807 < E0.size + 1 := by omega
            have HN : Hid (E0 ++ ⟨#[sign r]⟩ = ⟨(o2 ++ [sign r]).toArray⟩ ∧ (o2 ++ [sign r]) ++ Pl.wr s r m = writeL m) := Lib.hid ⟨by rw [← hE0, str_snoc], by
              have := HO.out
              rw [wr_hit s r m hx] at this
              rw [← this]; simp⟩
            rw [hE0]
            clear hx hE0 hEs hol HO
            generalize 13 * s + r = c at *
            generalize sign r = sg at *
            go_wp2_with (go_at_call 65; refine (H1.out _).mono ?_; rintro e w' ⟨rfl, rfl⟩)
            refine (SG.out _).mono ?_
            rintro e w' ⟨rfl, hb⟩
            have HB2 := Lib.hid (bchain HB.out hb)
            clear hb
            go_wp2_with fail
            go_roundw
            case rel => exact ⟨r, o2 ++ [sg], by omega, rfl, by rw [HN.out.1], Lib.hid HN.out.2, HB2⟩
            case measure => simp [intOf]; try omega
end Go.Proofs.YtaadipccgckehaaGreatDoor
