/- The contract of the reference's number. -/
import Derived.Test.YtfhkgpipbegpgaaGreatDoorRefC
import Derived.Deep.RegionHeld3
namespace Go.Proofs.YtfhkgpipbegpgaaGreatDoor
open Go Go.RowKit

theorem RetD.mk {n : Nat} {w w' : World} {A : Option Addr} {cap N : Nat} (hN : nd n = N) (hD : Dg w' A cap n) (hb : Below w.heap.size w w') : RetD n w (.returned (.slice A N cap)) w' := by
  subst hN; exact ⟨A, cap, rfl, hD, hb⟩
/-- A literal digit before the digits of x, trimmed. -/
theorem push_zero {W : World} {A : Option Addr} {x y : Nat} {L : List Nat} (hy : x * 65536 = y) (h : RowI W A L) (hL : L = [0] ++ dig x) : RowI W A (digN y (nd x + 1)) := by
  have := digN_push x 0 (by omega)
  rw [Nat.add_zero, hy] at this
  rw [this]; subst hL; exact h
theorem push_row {W : World} {A : Option Addr} {x d : Nat} {L : List Nat} (hd : d < 65536) (h : RowI W A L) (hL : L = [d] ++ dig x) : RowI W A (digN (x * 65536 + d) (nd x + 1)) := by
  rw [digN_push x d hd]; subst hL; exact h
theorem lim_dig : dig 9223372036854775808 = [0, 0, 0, 32768] := by
  have h1 := dig_one (d := 32768) (by omega) (by omega)
  have h2 := dig_push 32768 0 (by omega) (by omega)
  have h3 := dig_push (32768 * 65536 + 0) 0 (by omega) (by omega)
  have h4 := dig_push ((32768 * 65536 + 0) * 65536 + 0) 0 (by omega) (by omega)
  rw [h3, h2, h1] at h4
  exact h4
theorem lim_nd : nd 9223372036854775808 = 4 := by
  rw [← dig_len, lim_dig]; rfl
theorem lim_row (W : World) : Dg (W.alloc (.cells #[.int .i64 0, .int .i64 0, .int .i64 0, .int .i64 32768] 3)) (some ⟨W.heap.size, 0, none⟩) 4 9223372036854775808 := by
  refine ⟨fun _ => ⟨W.heap.size, 0, rfl, by simp, fun j x hj => ?_⟩, by rw [lim_nd]; exact Nat.le_refl _, by simp [maxLen], fun h => by cases h⟩
  rw [lim_dig] at hj
  have hB := Blk.new W 3 #[.int .i64 0, .int .i64 0, .int .i64 0, .int .i64 32768]
  rw [Nat.zero_add]
  match j, hj with
  | 0, hj => have := Option.some.inj hj; subst this; exact hB.cell (j := 0) rfl
  | 1, hj => have := Option.some.inj hj; subst this; exact hB.cell (j := 1) rfl
  | 2, hj => have := Option.some.inj hj; subst this; exact hB.cell (j := 2) rfl
  | 3, hj => have := Option.some.inj hj; subst this; exact hB.cell (j := 3) rfl
  | (j + 4), hj => simp at hj
/-- Does it fit into 64 bits, with that sign? -/
def numB (neg : Bool) (n : Nat) : Bool := if neg then decide (n ≤ 9223372036854775808) else decide (n < 9223372036854775808)
def numV (neg : Bool) (n : Nat) : Int := if numB neg n then (if neg then -(n : Int) else n) else 0
theorem numV_pos {n : Nat} (h : n < 9223372036854775808) : numV false n = (n : Int) := by simp [numV, numB, h]
theorem numV_neg {n : Nat} (h : n ≤ 9223372036854775808) : numV true n = -(n : Int) := by simp [numV, numB, h]
theorem numV_bad {neg : Bool} {n : Nat} (h : numB neg n = false) : numV neg n = 0 := by simp [numV, h]
def RetN (x : Int) (b : Bool) (w : World) (e : Ending) (w' : World) : Prop := e = .returned (.tuple #[.int .i64 x, .bool b]) ∧ Below w.heap.size w w'
set_option maxRecDepth 100000 in
set_option maxHeartbeats 8000000 in
theorem number_any (neg : Bool) (A : Option Addr) (ca n : Nat) (hk : nd n ≤ 1000) (w : World) (hA : Dg w A ca n) :
    Calls Tryz.prog 50 #[.bool neg, .slice A (nd n) ca] w (RetN (numV neg n) (numB neg n) w) := by
  have h1 := hA.room
  have h2 := hA.top
  unfold maxLen at h2
  obtain ⟨N, hN⟩ : ∃ N, nd n = N := ⟨_, rfl⟩
  have HN := Lib.hid hN
  have HL := Lib.hid (lim_row w)
  have HA := Lib.hid (hA.keep (blw1 w (.cells #[.int .i64 0, .int .i64 0, .int .i64 0, .int .i64 32768] 3)))
  have HB := Lib.hid (blw1 w (.cells #[.int .i64 0, .int .i64 0, .int .i64 0, .int .i64 32768] 3))
  have L1 : ∀ W, Below w.heap.size w W → Dg W A ca n → Dg W (some ⟨w.heap.size, 0, none⟩) 4 9223372036854775808 → Calls Tryz.prog 49 #[.slice (some ⟨w.heap.size, 0, none⟩) 4 4, .slice A N ca] W (fun e w' => e = .returned (.bool (decide (9223372036854775808 < n))) ∧ Below W.heap.size W w') := fun W _ ha hl => by
    have := less_any _ _ _ _ _ _ W hl ha
    rw [lim_nd, hN] at this
    exact this
  have L2 : ∀ W, Dg W A ca n → Dg W (some ⟨w.heap.size, 0, none⟩) 4 9223372036854775808 → Calls Tryz.prog 49 #[.slice A N ca, .slice (some ⟨w.heap.size, 0, none⟩) 4 4] W (fun e w' => e = .returned (.bool (decide (n < 9223372036854775808))) ∧ Below W.heap.size W w') := fun W ha hl => by
    have := less_any _ _ _ _ _ _ W ha hl
    rw [lim_nd, hN] at this
    exact this
  rw [hN] at h1 hk ⊢
  clear hN hA
  obtain ⟨b1, hb1⟩ : ∃ b, decide (9223372036854775808 < n) = b := ⟨_, rfl⟩
  obtain ⟨b2, hb2⟩ : ∃ b, decide (n < 9223372036854775808) = b := ⟨_, rfl⟩
  rw [hb1] at L1
  rw [hb2] at L2
  have C1 := Lib.hid L1
  have C2 := Lib.hid L2
  clear L1 L2
  have HB1 := Lib.hid hb1
  have HB2 := Lib.hid hb2
  clear hb1 hb2
  obtain ⟨W1, hW1⟩ : ∃ W, W = w.alloc (.cells #[.int .i64 0, .int .i64 0, .int .i64 0, .int .i64 32768] 3) := ⟨_, rfl⟩
  obtain ⟨p, hp⟩ : ∃ p, p = w.heap.size := ⟨_, rfl⟩
  by_cases hbig : 9223372036854775808 < n
  · have e1 : b1 = true := by rw [← HB1.out]; exact decide_eq_true hbig
    have HV : Hid (numB neg n = false) := Lib.hid (by unfold numB; split <;> exact decide_eq_false (by omega))
    rw [numV_bad HV.out, HV.out]
    subst e1
    clear hbig HB2 hp hW1
    go_enter Tryz.func50, Tryz.ntmps50
    go_wp2_with fail
    refine (C1.out _ HB.out HA.out HL.out).mono ?_
    rintro e w' ⟨rfl, hb⟩
    have HE := Lib.hid (bchain HB.out hb)
    clear hb
    go_wp2
    go_ret2
    exact ⟨rfl, HE.out⟩
  · have e1 : b1 = false := by rw [← HB1.out]; exact decide_eq_false hbig
    subst e1
    cases neg with
    | true =>
      have HV : Hid (numV true n = -(n : Int)) := Lib.hid (numV_neg (by omega))
      have HW : Hid (numB true n = true) := Lib.hid (by unfold numB; exact decide_eq_true (by omega))
      rw [HW.out]
      have hn63 : n ≤ 9223372036854775808 := by omega
      clear hbig hp hW1 HB2
      go_enter Tryz.func50, Tryz.ntmps50
      go_wp2_with fail
      refine (C1.out _ HB.out HA.out HL.out).mono ?_
      rintro e w1 ⟨rfl, hb⟩
      have HE := Lib.hid (bchain HB.out hb)
      have HA1 := Lib.hid (HA.out.keep hb)
      clear hb C1 C2 HA HB HL
      go_wp2
      go_loop [7, 8] (fun s7 s8 => ∃ i : Nat, i ≤ N ∧ s8 = .int .i64 ((i : Int) - 1) ∧ s7 = .int .i64 (-((n / 65536 ^ i : Nat) : Int))) (fun _ s8 => (intOf s8 + 1).toNat)
      case atStart => exact ⟨N, Nat.le_refl _, rfl, by rw [← HN.out, top_zero]; rfl⟩
      case round =>
        obtain ⟨i, hi, rfl, rfl⟩ := hrel
        cases i with
        | zero =>
          have t1 : (((0 : Nat) : Int)) - 1 = -1 := rfl
          rw [t1]
          clear t1
          have HZ : Hid (n / 65536 ^ 0 = n) := Lib.hid (by rw [Nat.pow_zero, Nat.div_one])
          rw [HZ.out]
          go_wp2
          go_ret2
          exact ⟨by rw [HV.out]; rfl, HE.out⟩
        | succ i =>
          have e1 : ((i + 1 : Nat) : Int) - 1 = (i : Int) := by omega
          rw [e1]
          clear e1
          obtain ⟨g, off, rfl, hg, hcc⟩ := HA1.out.at_ (k := i) (by rw [HN.out]; omega)
          have c0 := HA1.out.cell (j := i) (by rw [HN.out]; omega)
          clear hcc hg
          have hdl := dg_lt n i
          have hsp := div_split n i
          have hle := Nat.div_le_self n (65536 ^ i)
          obtain ⟨X, hX⟩ : ∃ X, n / 65536 ^ (i + 1) = X := ⟨_, rfl⟩
          obtain ⟨D, hD⟩ : ∃ X, dg n i = X := ⟨_, rfl⟩
          obtain ⟨Y, hY⟩ : ∃ X, n / 65536 ^ i = X := ⟨_, rfl⟩
          rw [hX, hD, hY] at hsp
          rw [hD] at hdl c0
          rw [hY] at hle
          rw [hX]
          have HYY := Lib.hid hY
          have hXY : X * 65536 + D ≤ 9223372036854775808 := by omega
          have HS := Lib.hid hsp
          clear hX hD hY hsp hle
          go_wp2
          go_round
          case rel => exact ⟨i, by omega, by go_num, by rw [HYY.out, HS.out]; congr 1; omega⟩
          case measure => simp [intOf]
    | false =>
      by_cases heq : n < 9223372036854775808
      · have e2 : b2 = true := by rw [← HB2.out]; exact decide_eq_true heq
        subst e2
        have HV : Hid (numV false n = (n : Int)) := Lib.hid (numV_pos heq)
        have HW : Hid (numB false n = true) := Lib.hid (by unfold numB; exact decide_eq_true heq)
        rw [HW.out]
        clear hbig hp hW1
        go_enter Tryz.func50, Tryz.ntmps50
        go_wp2_with fail
        refine (C1.out _ HB.out HA.out HL.out).mono ?_
        rintro e w1 ⟨rfl, hb⟩
        have HE := Lib.hid (bchain HB.out hb)
        have HA1 := Lib.hid (HA.out.keep hb)
        have HL1 := Lib.hid (HL.out.keep hb)
        clear hb
        go_wp2_with fail
        refine (C2.out _ HA1.out HL1.out).mono ?_
        rintro e w2 ⟨rfl, hb⟩
        have HE2 := Lib.hid (bchain HE.out hb)
        have HA2 := Lib.hid (HA1.out.keep hb)
        clear hb C1 C2 HA HB HL HA1 HL1 HE
        go_wp2
        go_loop [7, 8] (fun s7 s8 => ∃ i : Nat, i ≤ N ∧ s8 = .int .i64 ((i : Int) - 1) ∧ s7 = .int .i64 (((n / 65536 ^ i : Nat) : Int))) (fun _ s8 => (intOf s8 + 1).toNat)
        case atStart => exact ⟨N, Nat.le_refl _, rfl, by rw [← HN.out, top_zero]; rfl⟩
        case round =>
          obtain ⟨i, hi, rfl, rfl⟩ := hrel
          cases i with
          | zero =>
            have t1 : (((0 : Nat) : Int)) - 1 = -1 := rfl
            rw [t1]
            clear t1
            have HZ : Hid (n / 65536 ^ 0 = n) := Lib.hid (by rw [Nat.pow_zero, Nat.div_one])
            rw [HZ.out]
            go_wp2
            go_ret2
            exact ⟨by rw [HV.out]; rfl, HE2.out⟩
          | succ i =>
            have e1 : ((i + 1 : Nat) : Int) - 1 = (i : Int) := by omega
            rw [e1]
            clear e1
            obtain ⟨g, off, rfl, hg, hcc⟩ := HA2.out.at_ (k := i) (by rw [HN.out]; omega)
            have c0 := HA2.out.cell (j := i) (by rw [HN.out]; omega)
            clear hcc hg
            have hdl := dg_lt n i
            have hsp := div_split n i
            have hle := Nat.div_le_self n (65536 ^ i)
            obtain ⟨X, hX⟩ : ∃ X, n / 65536 ^ (i + 1) = X := ⟨_, rfl⟩
            obtain ⟨D, hD⟩ : ∃ X, dg n i = X := ⟨_, rfl⟩
            obtain ⟨Y, hY⟩ : ∃ X, n / 65536 ^ i = X := ⟨_, rfl⟩
            rw [hX, hD, hY] at hsp
            rw [hD] at hdl c0
            rw [hY] at hle
            rw [hX]
            have HYY := Lib.hid hY
            have hXY : X * 65536 + D ≤ 9223372036854775808 - 1 := by omega
            have HS := Lib.hid hsp
            clear hX hD hY hsp hle
            go_wp2
            go_round
            case rel => exact ⟨i, by omega, by go_num, by rw [HYY.out, HS.out]; first | rfl | (congr 1; omega) | congr 1⟩
            case measure => simp [intOf]
      · have e2 : b2 = false := by rw [← HB2.out]; exact decide_eq_false heq
        subst e2
        have HV : Hid (numB false n = false) := Lib.hid (by unfold numB; exact decide_eq_false heq)
        rw [numV_bad HV.out, HV.out]
        clear hbig heq hp hW1
        go_enter Tryz.func50, Tryz.ntmps50
        go_wp2_with fail
        refine (C1.out _ HB.out HA.out HL.out).mono ?_
        rintro e w1 ⟨rfl, hb⟩
        have HE := Lib.hid (bchain HB.out hb)
        have HA1 := Lib.hid (HA.out.keep hb)
        have HL1 := Lib.hid (HL.out.keep hb)
        clear hb
        go_wp2_with fail
        refine (C2.out _ HA1.out HL1.out).mono ?_
        rintro e w2 ⟨rfl, hb⟩
        have HE2 := Lib.hid (bchain HE.out hb)
        clear hb
        go_wp2
        go_ret2
        exact ⟨rfl, HE2.out⟩
end Go.Proofs.YtfhkgpipbegpgaaGreatDoor
