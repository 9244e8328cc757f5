/- Deals: partial, right, the owner of a card: the reference's. -/
import Derived.Test.YtaadipccgckehaaGreatDoorBD
namespace Go.Proofs.YtaadipccgckehaaGreatDoor
open Go Go.RowKit Pl

theorem inc64 (k : Nat) (h : k ≤ 1000000) : IntKind.i64.wrap ((k : Int) + 1) = ((k + 1 : Nat) : Int) := by
  rw [show (((k + 1 : Nat) : Int)) = (k : Int) + 1 by omega]; exact IntWalk.i64_in _ (by omega)
theorem has_any (m c : Nat) (hm : m < 18446744073709551616) (hc : c ≤ 100) (w : World) : Calls Tryz.prog 65 #[.int .u64 (m : Int), .int .i64 (c : Int)] w (fun e w' => e = .returned (.bool (m.testBit c)) ∧ w = w') := by
  have hb := Lib.hid (bit_div m c)
  go_enter Tryz.func65, Tryz.ntmps65
  go_wp2_with fail
  go_loopw [0, 5] (fun s0 s5 wr => ∃ i : Nat, i ≤ c ∧ s5 = .int .i64 (i : Int) ∧ s0 = .int .u64 ((m / 2 ^ i : Nat) : Int) ∧ wr = w) (fun _ s5 _ => c - (intOf s5).toNat)
  case atStart => exact ⟨0, by omega, rfl, by simp, rfl⟩
  case round =>
    obtain ⟨i, hi, rfl, rfl, rfl⟩ := hrel
    by_cases hlt : i < c
    · have u1 : decide ((i : Int) < (c : Int)) = true := decide_eq_true (by omega)
      have u2 : decide (i < c) = true := decide_eq_true hlt
      have e2 := inc64 i (by omega)
      have hs : m / 2 ^ (i + 1) = m / 2 ^ i / 2 := by rw [Nat.pow_succ, Nat.div_div_eq_div_mul]
      obtain ⟨q, hq⟩ : ∃ q, m / 2 ^ i = q := ⟨_, rfl⟩
      have HQ : Hid (q < 18446744073709551616) := Lib.hid (by rw [← hq]; exact Nat.lt_of_le_of_lt (Nat.div_le_self _ _) hm)
      rw [hq] at hs ⊢
      clear hq hb hm
      go_wp2_with fail
      go_roundw
      case rel => exact ⟨i + 1, by omega, by simp, by rw [hs]; simp; exact IntWalk.u64_in _ (by have := HQ.out; omega), trivial⟩
      case measure => simp [intOf]; omega
    · obtain rfl : i = c := by omega
      have u1 : decide ((i : Int) < (i : Int)) = false := decide_eq_false (by omega)
      have HX : Hid ((((m / 2 ^ i : Nat) : Int) % 2 == 1) = m.testBit i) := Lib.hid (by
        rw [hb.out]
        by_cases hz : m / 2 ^ i % 2 = 1
        · rw [decide_eq_true hz]; exact beq_iff_eq.2 (by omega)
        · rw [decide_eq_false hz]; exact beq_eq_false_iff_ne.2 (by omega))
      generalize m / 2 ^ i = q at *
      clear hb hm
      go_wp2_with fail
      go_ret
      exact ⟨ret_b HX.out, rfl⟩
theorem whole_any (m : Nat) (w : World) : Calls Tryz.prog 63 #[.int .u64 (m : Int)] w (fun e w' => e = .returned (.bool (decide (m < 4503599627370496))) ∧ w = w') := by
  by_cases h : m < 4503599627370496
  · have t1 : decide ((m : Int) < 4503599627370496) = true := decide_eq_true (by omega)
    have t2 : decide (m < 4503599627370496) = true := decide_eq_true h
    go_enter Tryz.func63, Tryz.ntmps63
    go_wp2
    go_ret
    exact ⟨ret_b t2.symm, rfl⟩
  · have t1 : decide ((m : Int) < 4503599627370496) = false := decide_eq_false (by omega)
    have t2 : decide (m < 4503599627370496) = false := decide_eq_false h
    go_enter Tryz.func63, Tryz.ntmps63
    go_wp2
    go_ret
    exact ⟨ret_b t2.symm, rfl⟩
theorem pc_step (m c : Nat) : pc (c + 1) m = pc c m + b1 (m.testBit c) := by
  rw [pc_last, bit_div]
  unfold b1
  by_cases h : m / 2 ^ c % 2 = 1
  · simp [h]
  · have h0 : m / 2 ^ c % 2 = 0 := by omega
    simp [h0]
theorem many_any (m : Nat) (hm : m < 18446744073709551616) (w : World) : Calls Tryz.prog 55 #[.int .u64 (m : Int)] w (fun e w' => e = .returned (.int .i64 (pc 52 m : Nat)) ∧ w = w') := by
  have HM := Lib.hid hm
  clear hm
  go_enter Tryz.func55, Tryz.ntmps55
  go_wp2_with fail
  go_loopw [3, 4] (fun s3 s4 wr => ∃ c : Nat, c ≤ 52 ∧ s4 = .int .i64 (c : Int) ∧ s3 = .int .i64 ((pc c m : Nat) : Int) ∧ wr = w) (fun _ s4 _ => 52 - (intOf s4).toNat)
  case atStart => exact ⟨0, by omega, rfl, by simp [pc], rfl⟩
  case round =>
    obtain ⟨c, hc, rfl, rfl, rfl⟩ := hrel
    by_cases hlt : c < 52
    · have u1 : decide ((c : Int) < 52) = true := decide_eq_true (by omega)
      have HA := Lib.hid (fun W => has_any m c HM.out (by omega) W)
      have hs := pc_step m c
      have hle := pc_le c m
      have e2 := inc64 c (by omega)
      obtain ⟨q, hq⟩ : ∃ q, pc c m = q := ⟨_, rfl⟩
      rw [hq] at hs hle ⊢
      have e3 := inc64 q (by omega)
      rcases hx : m.testBit c with _ | _
      · rw [hx] at HA hs
        clear hq hx
        go_wp2_with (go_at_call 65; refine (HA.out _).mono ?_; rintro e w' ⟨rfl, rfl⟩)
        go_roundw
        case rel => exact ⟨c + 1, by omega, by simp, by rw [hs]; simp [b1], trivial⟩
        case measure => simp [intOf]; omega
      · rw [hx] at HA hs
        clear hq hx
        go_wp2_with (go_at_call 65; refine (HA.out _).mono ?_; rintro e w' ⟨rfl, rfl⟩)
        go_roundw
        case rel => exact ⟨c + 1, by omega, by simp, by rw [hs]; simp [b1], trivial⟩
        case measure => simp [intOf]; omega
    · obtain rfl : c = 52 := by omega
      have u1 : decide (((52 : Nat) : Int) < 52) = false := decide_eq_false (by omega)
      obtain ⟨q, hq⟩ : ∃ q, pc 52 m = q := ⟨_, rfl⟩
      have HQ := Lib.hid hq
      rw [hq]
      clear hq
      go_wp2_with fail
      go_ret
      exact ⟨by rw [HQ.out]; rfl, rfl⟩
/-- A deal's block. -/
def dC (D : Nat → Nat) : Array Value := #[.int .u64 (D 0 : Nat), .int .u64 (D 1 : Nat), .int .u64 (D 2 : Nat), .int .u64 (D 3 : Nat)]
theorem dC_get (D : Nat → Nat) (k : Nat) (hk : k < 4) : (dC D)[k]? = some (.int .u64 (D k : Nat)) := by
  rcases (by omega : k = 0 ∨ k = 1 ∨ k = 2 ∨ k = 3) with rfl | rfl | rfl | rfl <;> rfl
set_option maxRecDepth 100000 in
theorem holders_any (D : Nat → Nat) (hD : D64 D) (c : Nat) (hc : c < 52) (w : World) : Calls Tryz.prog 64 #[.agg #[.int .u64 (D 0 : Nat), .int .u64 (D 1 : Nat), .int .u64 (D 2 : Nat), .int .u64 (D 3 : Nat)], .int .i64 (c : Int)] w (fun e w' => e = .returned (.int .i64 (holders D c : Nat)) ∧ Below w.heap.size w w') := by
  have HD := Lib.hid hD
  clear hD
  go_enter Tryz.func64, Tryz.ntmps64
  go_wp2_with fail
  have HK := Lib.hid (show Blk _ _ _ (dC D) from Blk.new w 23 #[.int .u64 (D 0 : Nat), .int .u64 (D 1 : Nat), .int .u64 (D 2 : Nat), .int .u64 (D 3 : Nat)])
  have BW := Lib.hid (below1 w (.cells #[.int .u64 (D 0 : Nat), .int .u64 (D 1 : Nat), .int .u64 (D 2 : Nat), .int .u64 (D 3 : Nat)] 23))
  generalize w.alloc (.cells #[.int .u64 (D 0 : Nat), .int .u64 (D 1 : Nat), .int .u64 (D 2 : Nat), .int .u64 (D 3 : Nat)] 23) = W1 at *
  go_loopw [5, 6] (fun s5 s6 wr => ∃ k : Nat, k ≤ 4 ∧ s6 = .int .i64 (k : Int) ∧ s5 = .int .i64 ((holdTo D c k : Nat) : Int) ∧ wr = W1) (fun _ s6 _ => 4 - (intOf s6).toNat)
  case atStart => exact ⟨0, by omega, rfl, rfl, rfl⟩
  case round =>
    obtain ⟨k, hk, rfl, rfl, rfl⟩ := hrel
    by_cases hlt : k < 4
    · have u1 : decide ((k : Int) < 4) = true := decide_eq_true (by omega)
      have HA := Lib.hid (fun W => has_any (D k) c (HD.out k hlt) (by omega) W)
      have x0 := HK.out.cell (dC_get D k hlt)
      have hs : holdTo D c (k + 1) = holdTo D c k + b1 ((D k).testBit c) := rfl
      have hle := hold_le D c k
      have e2 := inc64 k (by omega)
      obtain ⟨q, hq⟩ : ∃ q, holdTo D c k = q := ⟨_, rfl⟩
      rw [hq] at hs hle ⊢
      have e3 := inc64 q (by omega)
      rcases hx : (D k).testBit c with _ | _
      · rw [hx] at HA hs
        clear hq hx
        generalize D k = h at *
        go_wp2_with (go_at_call 65; refine (HA.out _).mono ?_; rintro e w' ⟨rfl, rfl⟩)
        go_roundw
        case rel => exact ⟨k + 1, by omega, by simp, by rw [hs]; simp [b1], trivial⟩
        case measure => simp [intOf]; omega
      · rw [hx] at HA hs
        clear hq hx
        generalize D k = h at *
        go_wp2_with (go_at_call 65; refine (HA.out _).mono ?_; rintro e w' ⟨rfl, rfl⟩)
        go_roundw
        case rel => exact ⟨k + 1, by omega, by simp, by rw [hs]; simp [b1], trivial⟩
        case measure => simp [intOf]; omega
    · obtain rfl : k = 4 := by omega
      have u1 : decide (((4 : Nat) : Int) < 4) = false := decide_eq_false (by omega)
      have hh : holdTo D c 4 = holders D c := rfl
      have HH := Lib.hid hh
      clear hh
      generalize holdTo D c 4 = q at *
      go_wp2_with fail
      go_ret
      exact ⟨by rw [HH.out]; rfl, BW.out⟩
set_option maxRecDepth 100000 in
theorem rowner_any (D : Nat → Nat) (hD : D64 D) (c : Nat) (hc : c < 52) (w : World) : Calls Tryz.prog 48 #[.agg #[.int .u64 (D 0 : Nat), .int .u64 (D 1 : Nat), .int .u64 (D 2 : Nat), .int .u64 (D 3 : Nat)], .int .i64 (c : Int)] w (fun e w' => e = .returned (.tuple #[.int .u8 (owner D c : Nat), .bool (owned D c)]) ∧ Below w.heap.size w w') := by
  have HD := Lib.hid hD
  have t0 : decide ((51 : Int) < (c : Int)) = false := decide_eq_false (by omega)
  clear hD
  go_enter Tryz.func48, Tryz.ntmps48
  go_wp2_with fail
  have HK := Lib.hid (show Blk _ _ _ (dC D) from Blk.new w 23 #[.int .u64 (D 0 : Nat), .int .u64 (D 1 : Nat), .int .u64 (D 2 : Nat), .int .u64 (D 3 : Nat)])
  have BW := Lib.hid (below1 w (.cells #[.int .u64 (D 0 : Nat), .int .u64 (D 1 : Nat), .int .u64 (D 2 : Nat), .int .u64 (D 3 : Nat)] 23))
  generalize w.alloc (.cells #[.int .u64 (D 0 : Nat), .int .u64 (D 1 : Nat), .int .u64 (D 2 : Nat), .int .u64 (D 3 : Nat)] 23) = W1 at *
  clear t0
  go_loopw [6] (fun s6 wr => ∃ k : Nat, k ≤ 4 ∧ s6 = .int .i64 (k : Int) ∧ Hid (∀ j, j < k → (D j).testBit c = false) ∧ wr = W1) (fun s6 _ => 4 - (intOf s6).toNat)
  case atStart => exact ⟨0, by omega, rfl, Lib.hid (fun j hj => absurd hj (by omega)), rfl⟩
  case round =>
    obtain ⟨k, hk, rfl, HN, rfl⟩ := hrel
    by_cases hlt : k < 4
    · have u1 : decide ((k : Int) < 4) = true := decide_eq_true (by omega)
      have HA := Lib.hid (fun W => has_any (D k) c (HD.out k hlt) (by omega) W)
      have x0 := HK.out.cell (dC_get D k hlt)
      have HO := Lib.hid (owner_at D c k hlt HN.out)
      have HP := Lib.hid (owned_at D c k hlt)
      have e2 := inc64 k (by omega)
      have e3 : (k : Int) % 256 = (k : Int) := by omega
      rcases hx : (D k).testBit c with _ | _
      · have HN2 : Hid (∀ j, j < k + 1 → (D j).testBit c = false) := Lib.hid (fun j hj => by
          rcases Nat.lt_or_ge j k with h | h
          · exact HN.out j h
          · obtain rfl : j = k := by omega
            exact hx)
        rw [hx] at HA
        clear hx HN HO HP
        generalize D k = h at *
        go_wp2_with (go_at_call 65; refine (HA.out _).mono ?_; rintro e w' ⟨rfl, rfl⟩)
        go_roundw
        case rel => exact ⟨k + 1, by omega, by simp, HN2, trivial⟩
        case measure => simp [intOf]; omega
      · have HR : Hid (owner D c = k ∧ owned D c = true) := Lib.hid ⟨HO.out hx, HP.out hx⟩
        rw [hx] at HA
        clear hx HN HO HP
        generalize D k = h at *
        go_wp2_with (go_at_call 65; refine (HA.out _).mono ?_; rintro e w' ⟨rfl, rfl⟩)
        go_ret2
        exact ⟨by rw [HR.out.1, HR.out.2]; rfl, BW.out⟩
    · obtain rfl : k = 4 := by omega
      have u1 : decide (((4 : Nat) : Int) < 4) = false := decide_eq_false (by omega)
      have HR := Lib.hid (owner_no D c HN.out)
      clear HN
      go_wp2_with fail
      go_ret2
      exact ⟨by rw [HR.out.1, HR.out.2]; rfl, BW.out⟩
theorem part_wide (D : Nat → Nat) (k : Nat) (hk : k < 4) (h : ¬ D k < 4503599627370496) : partB D = false := by
  rcases hp : partB D with _ | _
  · rfl
  · exact absurd ((part_ref D).1 hp).1 (fun hh => h (hh k hk).1)
theorem part_full (D : Nat → Nat) (k : Nat) (hk : k < 4) (h : 13 < pc 52 (D k)) : partB D = false := by
  rcases hp : partB D with _ | _
  · rfl
  · have := (((part_ref D).1 hp).1 k hk).2; omega
theorem part_twice (D : Nat → Nat) (c : Nat) (hc : c < 52) (h : 1 < holders D c) : partB D = false := by
  rcases hp : partB D with _ | _
  · rfl
  · have := ((part_ref D).1 hp).2 c hc; omega
set_option maxRecDepth 100000 in
theorem rpart_any (D : Nat → Nat) (hD : D64 D) (w : World) : Calls Tryz.prog 45 #[.agg #[.int .u64 (D 0 : Nat), .int .u64 (D 1 : Nat), .int .u64 (D 2 : Nat), .int .u64 (D 3 : Nat)]] w (fun e w' => e = .returned (.bool (partB D)) ∧ Below w.heap.size w w') := by
  have HD := Lib.hid hD
  have HH := Lib.hid (fun c hc W => holders_any D hD c hc W)
  clear hD
  go_enter Tryz.func45, Tryz.ntmps45
  go_wp2_with fail
  have HK := Lib.hid (show Blk _ _ _ (dC D) from Blk.new w 23 #[.int .u64 (D 0 : Nat), .int .u64 (D 1 : Nat), .int .u64 (D 2 : Nat), .int .u64 (D 3 : Nat)])
  have BW := Lib.hid (below1 w (.cells #[.int .u64 (D 0 : Nat), .int .u64 (D 1 : Nat), .int .u64 (D 2 : Nat), .int .u64 (D 3 : Nat)] 23))
  generalize w.alloc (.cells #[.int .u64 (D 0 : Nat), .int .u64 (D 1 : Nat), .int .u64 (D 2 : Nat), .int .u64 (D 3 : Nat)] 23) = W1 at *
  go_loopw [3] (fun s3 wr => ∃ k : Nat, k ≤ 4 ∧ s3 = .int .i64 (k : Int) ∧ Hid (∀ j, j < k → D j < 4503599627370496 ∧ pc 52 (D j) ≤ 13) ∧ wr = W1) (fun s3 _ => 4 - (intOf s3).toNat)
  case atStart => exact ⟨0, by omega, rfl, Lib.hid (fun j hj => absurd hj (by omega)), rfl⟩
  case round =>
    obtain ⟨k, hk, rfl, HN, rfl⟩ := hrel
    by_cases hlt : k < 4
    · have u1 : decide ((k : Int) < 4) = true := decide_eq_true (by omega)
      have WH := Lib.hid (fun W => whole_any (D k) W)
      have MA := Lib.hid (fun W => many_any (D k) (HD.out k hlt) W)
      have x0 := HK.out.cell (dC_get D k hlt)
      have e2 := inc64 k (by omega)
      by_cases c1 : D k < 4503599627370496
      · rw [decide_eq_true c1] at WH
        by_cases c2 : 13 < pc 52 (D k)
        · have t2 : decide ((13 : Int) < ((pc 52 (D k) : Nat) : Int)) = true := decide_eq_true (by omega)
          have t2b : decide (13 < pc 52 (D k)) = true := decide_eq_true c2
          have HX : Hid (false = partB D) := Lib.hid (part_full D k hlt c2).symm
          clear c1 c2 HN
          generalize pc 52 (D k) = q at *
          generalize D k = h at *
          go_wp2_with (first
            | (go_at_call 63; refine (WH.out _).mono ?_; rintro e w' ⟨rfl, rfl⟩)
            | (go_at_call 55; refine (MA.out _).mono ?_; rintro e w' ⟨rfl, rfl⟩))
          go_ret
          exact ⟨ret_b HX.out, BW.out⟩
        · have t2 : decide ((13 : Int) < ((pc 52 (D k) : Nat) : Int)) = false := decide_eq_false (by omega)
          have t2b : decide (13 < pc 52 (D k)) = false := decide_eq_false c2
          have HN2 : Hid (∀ j, j < k + 1 → D j < 4503599627370496 ∧ pc 52 (D j) ≤ 13) := Lib.hid (fun j hj => by
            rcases Nat.lt_or_ge j k with h | h
            · exact HN.out j h
            · obtain rfl : j = k := by omega
              exact ⟨c1, by omega⟩)
          clear c1 c2 HN
          generalize pc 52 (D k) = q at *
          generalize D k = h at *
          go_wp2_with (first
            | (go_at_call 63; refine (WH.out _).mono ?_; rintro e w' ⟨rfl, rfl⟩)
            | (go_at_call 55; refine (MA.out _).mono ?_; rintro e w' ⟨rfl, rfl⟩))
          go_roundw
          case rel => exact ⟨k + 1, by omega, by simp, HN2, trivial⟩
          case measure => simp [intOf]; omega
      · rw [decide_eq_false c1] at WH
        have HX : Hid (false = partB D) := Lib.hid (part_wide D k hlt c1).symm
        clear c1 HN
        generalize D k = h at *
        go_wp2_with (go_at_call 63; refine (WH.out _).mono ?_; rintro e w' ⟨rfl, rfl⟩)
        go_ret
        exact ⟨ret_b HX.out, BW.out⟩
    · obtain rfl : k = 4 := by omega
      have u1 : decide ((4 : Int) < 4) = false := rfl
      rw [show ((4 : Nat) : Int) = 4 from rfl]
      go_wp2_with fail
      clear u1
      go_loopw [4] (fun s4 wx => ∃ c : Nat, c ≤ 52 ∧ s4 = .int .i64 (c : Int) ∧ Hid (∀ j, j < c → holders D j ≤ 1) ∧ Hid (Blk wx w.heap.size 23 (dC D)) ∧ Hid (Below w.heap.size w wx)) (fun s4 _ => 52 - (intOf s4).toNat)
      case atStart => exact ⟨0, by omega, rfl, Lib.hid (fun j hj => absurd hj (by omega)), HK, BW⟩
      case round =>
        clear HK BW
        obtain ⟨c, hc, rfl, HC, HK, BW⟩ := hrel
        by_cases hl2 : c < 52
        · have u1 : decide ((c : Int) < 52) = true := decide_eq_true (by omega)
          have H1 := Lib.hid (fun W => HH.out c hl2 W)
          have x0 := HK.out.cell (dC_get D 0 (by omega))
          have x1 := HK.out.cell (dC_get D 1 (by omega))
          have x2 := HK.out.cell (dC_get D 2 (by omega))
          have x3 := HK.out.cell (dC_get D 3 (by omega))
          have e2 := inc64 c (by omega)
          by_cases c2 : 1 < holders D c
          · have t2 : decide ((1 : Int) < ((holders D c : Nat) : Int)) = true := decide_eq_true (by omega)
            have t2b : decide (1 < holders D c) = true := decide_eq_true c2
            have HX : Hid (false = partB D) := Lib.hid (part_twice D c hl2 c2).symm
            clear c2 HC
            generalize holders D c = q at *
            go_wp2_with fail
            refine (H1.out _).mono ?_
            rintro e w' ⟨rfl, hb⟩
            have HB := Lib.hid (bchain BW.out hb)
            clear hb x0 x1 x2 x3
            go_wp2_with fail
            go_ret
            exact ⟨ret_b HX.out, HB.out⟩
          · have t2 : decide ((1 : Int) < ((holders D c : Nat) : Int)) = false := decide_eq_false (by omega)
            have t2b : decide (1 < holders D c) = false := decide_eq_false c2
            have HC2 : Hid (∀ j, j < c + 1 → holders D j ≤ 1) := Lib.hid (fun j hj => by
              rcases Nat.lt_or_ge j c with h | h
              · exact HC.out j h
              · obtain rfl : j = c := by omega
                omega)
            clear c2 HC
            generalize holders D c = q at *
            go_wp2_with fail
            refine (H1.out _).mono ?_
            rintro e w' ⟨rfl, hb⟩
            have HB := Lib.hid (bchain BW.out hb)
            have HK2 := Lib.hid (HK.out.keep hb HK.out.lt)
            clear hb x0 x1 x2 x3
            go_wp2_with fail
            go_roundw
            case rel => exact ⟨c + 1, by omega, by simp, HC2, HK2, HB⟩
            case measure => simp [intOf]; omega
        · obtain rfl : c = 52 := by omega
          have u1 : decide (((52 : Nat) : Int) < 52) = false := decide_eq_false (by omega)
          have HX : Hid (true = partB D) := Lib.hid ((part_ref D).2 ⟨HN.out, HC.out⟩).symm
          clear HN HC
          go_wp2_with fail
          go_ret
          exact ⟨ret_b HX.out, BW.out⟩
end Go.Proofs.YtaadipccgckehaaGreatDoor
