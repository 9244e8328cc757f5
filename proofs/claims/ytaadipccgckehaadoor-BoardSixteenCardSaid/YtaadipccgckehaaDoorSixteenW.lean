/- BoardSixteen: the walk. -/
import Derived.Test.YtaadipccgckehaaDoorCH
import Derived.Test.YtaadipccgckehaaDoorSixP
import Derived.BigRegion
namespace Go.Proofs.YtaadipccgckehaaDoor
open Go Go.RowKit Pl

set_option maxRecDepth 100000 in
set_option maxHeartbeats 4000000 in
theorem sixteen_walk (f : Nat) (hf : f < 256) (w : World) (he : Env w) : Calls Tryd.prog 5 #[.int .u8 (f : Int)] w (fun e w' => e = .returned (.bool true) ∧ Below w.heap.size w w') := by
  obtain ⟨R, hR⟩ : ∃ R, R = f % 113 := ⟨_, rfl⟩
  obtain ⟨F, hF⟩ : ∃ F, F = 1 + R := ⟨_, rfl⟩
  have hF1 : 1 ≤ F := by omega
  have hF2 : F ≤ 113 := by omega
  have e0 : IntKind.i64.wrap (f : Int) = (f : Int) := IntWalk.i64_in _ (by omega)
  have e1 : ((f : Int)).tmod 113 = (R : Int) := by rw [Int.tmod_eq_emod_of_nonneg (by omega)]; omega
  have e2 : IntKind.i64.wrap (1 + (R : Int)) = ((F : Nat) : Int) := by rw [show ((F : Nat) : Int) = 1 + (R : Int) by omega]; exact IntWalk.i64_in _ (by omega)
  have HE := Lib.hid he
  clear he hF hf hR
  go_enter Tryd.func5, Tryd.ntmps5
  go_wp2_with fail
  have HB := Lib.hid (below1 w (.cells (metC F 0) 41))
  have HM := Lib.hid (Blk.new w 41 (metC F 0))
  rw [show (Obj.cells (metC F 0) 41) = .cells #[.int .i64 0, .int .i64 0, .int .i64 0, .int .i64 0, .int .i64 0, .int .i64 0, .int .i64 0, .int .i64 0, .int .i64 0, .int .i64 0, .int .i64 0, .int .i64 0, .int .i64 0, .int .i64 0, .int .i64 0, .int .i64 0] 41 from rfl] at HB
  rw [show w.alloc (Obj.cells (metC F 0) 41) = w.alloc (.cells #[.int .i64 0, .int .i64 0, .int .i64 0, .int .i64 0, .int .i64 0, .int .i64 0, .int .i64 0, .int .i64 0, .int .i64 0, .int .i64 0, .int .i64 0, .int .i64 0, .int .i64 0, .int .i64 0, .int .i64 0, .int .i64 0] 41) from rfl] at HM
  generalize w.alloc (.cells #[.int .i64 0, .int .i64 0, .int .i64 0, .int .i64 0, .int .i64 0, .int .i64 0, .int .i64 0, .int .i64 0, .int .i64 0, .int .i64 0, .int .i64 0, .int .i64 0, .int .i64 0, .int .i64 0, .int .i64 0, .int .i64 0] 41) = W1 at *
  obtain ⟨B, hB⟩ : ∃ B, w.heap.size = B := ⟨_, rfl⟩
  have HBQ := Lib.hid hB
  rw [hB] at HB HM ⊢
  clear hB e0 e1 e2
  go_loopw [5] (fun s5 wr => ∃ k : Nat, k ≤ 16 ∧ s5 = .int .i64 ((F + k : Nat) : Int) ∧ Hid (Blk wr B 41 (metC F k)) ∧ Hid (Below B w wr)) (fun s5 _ => F + 16 - (intOf s5).toNat)
  case atStart => exact ⟨0, by omega, rfl, HM, HB⟩
  case round =>
    clear HM HB
    obtain ⟨k, hk, rfl, HM, HB⟩ := hrel
    have e4 : IntKind.i64.wrap ((F : Int) + 16) = ((F + 16 : Nat) : Int) := by rw [show (((F + 16 : Nat) : Int)) = (F : Int) + 16 by omega]; exact IntWalk.i64_in _ (by omega)
    obtain ⟨n, hn⟩ : ∃ n, F + k = n := ⟨_, rfl⟩
    have HN := Lib.hid hn
    rw [hn]
    by_cases hlt : k < 16
    · have u1 : decide ((n : Int) < ((F + 16 : Nat) : Int)) = true := decide_eq_true (by omega)
      have u2 : decide (n < F + 16) = true := decide_eq_true (by omega)
      have hn1 : 1 ≤ n := by omega
      have hn2 : n ≤ 128 := by omega
      have D1 := Lib.hid (fun W => dealer_ok n hn1 hn2 W)
      have V1 := Lib.hid (fun W => vuln_ok n hn1 hn2 W)
      have G1 := Lib.hid (fun W => find_ok' (dealP n) (vulP n) (deal_lt n) (vul_lt n) W)
      obtain ⟨fn1, fn2, fn3⟩ := find_near n (by omega) hn1
      have hd4 := deal_lt n
      have hv4 := vul_lt n
      have hcode : Hid (code (F + k) = dealP n * 4 + vulP n) := Lib.hid (by rw [hn]; rfl)
      have hP : Hid (∀ m, 1 ≤ m → n = m + 16 → dealP m = dealP n ∧ vulP m = vulP n) := Lib.hid (fun m h1 h2 => by rw [h2]; exact ⟨(deal_16 m h1).symm, (vul_16 m h1).symm⟩)
      obtain ⟨L, hL⟩ : ∃ L, findP (dealP n) (vulP n) = L := ⟨_, rfl⟩
      rw [hL] at G1 fn1 fn2 fn3
      clear hL
      obtain ⟨a, ha⟩ : ∃ a, dealP n = a := ⟨_, rfl⟩
      obtain ⟨v, hv⟩ : ∃ v, vulP n = v := ⟨_, rfl⟩
      rw [ha] at D1 G1 hd4 hcode hP
      rw [hv] at V1 G1 hv4 hcode hP
      clear ha hv
      have hc16 : a * 4 + v < 16 := by omega
      have hx0 := met_get F k (a * 4 + v) hc16
      have hx1 := cnt_le F (a * 4 + v) k
      have HS : Hid (∀ x, x = cnt F k (a * 4 + v) → (metC F k).setIfInBounds (a * 4 + v) (.int .i64 ((x + 1 : Nat) : Int)) = metC F (k + 1)) := Lib.hid (fun x hx => met_set F k _ x hcode.out.symm hx)
      obtain ⟨x, hx⟩ : ∃ x, x = cnt F k (a * 4 + v) := ⟨_, rfl⟩
      rw [← hx] at hx0 hx1
      have HX := Lib.hid hx
      have y0 := HM.out.cell hx0
      have y1 := HM.out.free (a * 4 + v)
      have e5 : IntKind.i64.wrap ((x : Int) + 1) = ((x + 1 : Nat) : Int) := by rw [show (((x + 1 : Nat) : Int)) = (x : Int) + 1 by omega]; exact IntWalk.i64_in _ (by omega)
      have t1 : decide (3 < (a : Int)) = false := decide_eq_false (by omega)
      have t2 : decide (3 < (v : Int)) = false := decide_eq_false (by omega)
      have t3 : decide ((n : Int) < (L : Int)) = false := decide_eq_false (by omega)
      have t3b : decide (n < L) = false := decide_eq_false (by omega)
      have t4 : decide (16 < (L : Int)) = false := decide_eq_false (by omega)
      obtain ⟨D, hD⟩ : ∃ D, n - L = D := ⟨_, rfl⟩
      rw [hD] at fn2
      have e6 : IntKind.i64.wrap ((n : Int) - (L : Int)) = (D : Int) := by rw [show ((D : Int)) = (n : Int) - (L : Int) by omega]; exact IntWalk.i64_in _ (by omega)
      have e7 : ((D : Int)).tmod 16 = 0 := by rw [Int.tmod_eq_emod_of_nonneg (by omega)]; omega
      clear hx hx0 hD fn1 fn2 fn3 e4
      go_wp2_with (first
        | (go_at_call 10; refine (D1.out _).mono ?_; rintro e w' ⟨rfl, rfl⟩)
        | (go_at_call 12; refine (V1.out _).mono ?_; rintro e w' ⟨rfl, rfl⟩))
      go_region
      have N1 : Hid (Blk (wr.setCell ⟨B, a * 4 + v, none⟩ (.int .i64 ((x : Int) + 1))).drew B 41 (metC F (k + 1))) := Lib.hid (by have := (HM.out.set (a * 4 + v) (.int .i64 ((x + 1 : Nat) : Int))).drewN 1; rw [HS.out x HX.out] at this; exact this)
      have N2 : Hid (Below B w (wr.setCell ⟨B, a * 4 + v, none⟩ (.int .i64 ((x : Int) + 1))).drew) := Lib.hid (below_drewN (HB.out.setCell (Nat.le_refl _) _) 1)
      clear y0 y1 HM HB HS HX e5 D1 V1
      generalize (wr.setCell ⟨B, a * 4 + v, none⟩ (.int .i64 ((x : Int) + 1))).drew = W2 at *
      have e8 : IntKind.i64.wrap ((n : Int) + 1) = ((n + 1 : Nat) : Int) := by rw [show (((n + 1 : Nat) : Int)) = (n : Int) + 1 by omega]; exact IntWalk.i64_in _ (by omega)
      by_cases h16 : 16 < n
      · obtain ⟨m, hm⟩ : ∃ m, n = m + 16 := ⟨n - 16, by omega⟩
        have hm1 : 1 ≤ m := by omega
        have D2 := Lib.hid (fun W => dealer_ok m hm1 (by omega) W)
        have V2 := Lib.hid (fun W => vuln_ok m hm1 (by omega) W)
        rw [(hP.out m hm1 hm).1] at D2
        rw [(hP.out m hm1 hm).2] at V2
        have t5 : decide (16 < (n : Int)) = true := decide_eq_true (by omega)
        have e9 : IntKind.i64.wrap ((n : Int) - 16) = (m : Int) := by rw [show ((m : Int)) = (n : Int) - 16 by omega]; exact IntWalk.i64_in _ (by omega)
        clear hm hP
        go_wp2_with (first
          | (go_at_call 14; refine (G1.out _).mono ?_; rintro e w' ⟨rfl, rfl⟩)
          | (go_at_call 10; refine (D2.out _).mono ?_; rintro e w' ⟨rfl, rfl⟩)
          | (go_at_call 12; refine (V2.out _).mono ?_; rintro e w' ⟨rfl, rfl⟩))
        go_roundw
        case rel => exact ⟨k + 1, by omega, by rw [← HN.out]; simp; omega, N1, N2⟩
        case measure => simp [intOf]; omega
      · have t5 : decide (16 < (n : Int)) = false := decide_eq_false (by omega)
        clear hP
        go_wp2_with (first
          | (go_at_call 14; refine (G1.out _).mono ?_; rintro e w' ⟨rfl, rfl⟩))
        go_roundw
        case rel => exact ⟨k + 1, by omega, by rw [← HN.out]; simp; omega, N1, N2⟩
        case measure => simp [intOf]; omega
    · obtain rfl : k = 16 := by omega
      have u1 : decide ((n : Int) < ((F + 16 : Nat) : Int)) = false := decide_eq_false (by omega)
      have u2 : decide (n < F + 16) = false := decide_eq_false (by omega)
      have HC : Hid (∀ c, c < 16 → wr.cell? ⟨B, c, none⟩ = some (.int .i64 1)) := Lib.hid (fun c hc => by
        have := HM.out.cell (met_get F 16 c hc)
        rwa [cnt_one F (by omega) hF1 c hc] at this)
      have HB2 : Hid (Below w.heap.size w wr) := Lib.hid (by rw [HBQ.out]; exact HB.out)
      clear HM HB
      go_wp2_with fail
      clear u1 u2
      generalize wr = WR at *
      go_loopw [107] (fun s107 wq => ∃ i : Nat, i ≤ 4 ∧ s107 = .int .i64 (i : Int) ∧ wq = WR) (fun s107 _ => 4 - (intOf s107).toNat)
      case atStart => exact ⟨0, by omega, rfl, rfl⟩
      case round =>
        obtain ⟨i, hi, rfl, rfl⟩ := hrel
        by_cases hil : i < 4
        · have v1 : decide ((i : Int) < 4) = true := decide_eq_true (by omega)
          have v3 : IntKind.i64.wrap ((i : Int) + 1) = ((i + 1 : Nat) : Int) := by rw [show (((i + 1 : Nat) : Int)) = (i : Int) + 1 by omega]; exact IntWalk.i64_in _ (by omega)
          go_wp2_with fail
          go_loopw [110] (fun s110 wq => ∃ j : Nat, j ≤ 4 ∧ s110 = .int .i64 (j : Int) ∧ wq = wr) (fun s110 _ => 4 - (intOf s110).toNat)
          case atStart => exact ⟨0, by omega, rfl, rfl⟩
          case round =>
            obtain ⟨j, hj, rfl, rfl⟩ := hrel
            by_cases hjl : j < 4
            · have v4 : decide ((j : Int) < 4) = true := decide_eq_true (by omega)
              have v5 : IntKind.i64.wrap ((j : Int) + 1) = ((j + 1 : Nat) : Int) := by rw [show (((j + 1 : Nat) : Int)) = (j : Int) + 1 by omega]; exact IntWalk.i64_in _ (by omega)
              have y0 := HC.out (i * 4 + j) (by omega)
              go_wp2_with fail
              go_roundw
              case rel => exact ⟨j + 1, by omega, by simp, trivial⟩
              case measure => simp [intOf]; omega
            · obtain rfl : j = 4 := by omega
              rw [show ((4 : Nat) : Int) = 4 from rfl]
              go_wp2_with fail
              go_roundw
              case rel => exact ⟨i + 1, by omega, by simp, trivial⟩
              case measure => simp [intOf]; omega
        · obtain rfl : i = 4 := by omega
          rw [show ((4 : Nat) : Int) = 4 from rfl]
          go_wp2_with fail
          refine (awake_any _ (HE.out.keep HB2.out)).mono ?_
          rintro e w' ⟨rfl, hb⟩
          have HB3 := Lib.hid (bchain HB2.out hb)
          clear hb HB2
          go_wp2_with fail
          go_ret
          exact ⟨rfl, HB3.out⟩
end Go.Proofs.YtaadipccgckehaaDoor
