/- The contract of turned: a hand whose suits are exchanged. -/
import Derived.Test.YtdebhdjcacojeaaDoorTurnP
import Derived.Test.YtdebhdjcacojeaaDoorQt
import Derived.Deep.QuietTactic
import Derived.BigQuiet
import Derived.BigRegion
namespace Go.Proofs.YtdebhdjcacojeaaDoor
open Go.RowKit

theorem w64_3 : IntKind.i64.wrap 3 = 3 := by decide
theorem w64_4 : IntKind.i64.wrap 4 = 4 := by decide
theorem w64_13 : IntKind.i64.wrap 13 = 13 := by decide
theorem w64_26 : IntKind.i64.wrap 26 = 26 := by decide
theorem w64_39 : IntKind.i64.wrap 39 = 39 := by decide
theorem mask_e (m s : Nat) (hm : m < 18446744073709551616) : bits BinOp.and IntKind.u64 ((m / 2 ^ (13 * s) : Nat) : Int) 8191 = ((Pl.hold m s : Nat) : Int) := by
  have h := Nat.div_le_self m (2 ^ (13 * s))
  rw [show (8191 : Int) = ((8191 : Nat) : Int) from rfl, u64_and_nat _ _ (by omega) (by omega), nat_mask13]
  unfold Pl.hold
  rfl
theorem lane_e (x h l : Nat) (hx : x < 4503599627370496) (hh : h < 8192) (hl : l < 4) : bits BinOp.or IntKind.u64 (x : Int) (IntKind.u64.wrap ((h : Int) * 2 ^ (13 * l))) = ((x ||| h * 2 ^ (13 * l) : Nat) : Int) := by
  have h1 : h * 2 ^ (13 * l) < 4503599627370496 := Pl.lane_lt h l hh hl
  rw [show (h : Int) * 2 ^ (13 * l) = ((h * 2 ^ (13 * l) : Nat) : Int) by simp]
  generalize h * 2 ^ (13 * l) = y at *
  rw [IntKind.wrap_u64, Int.emod_eq_of_lt (Int.natCast_nonneg _) (by omega), u64_or_nat _ _ (by omega) (by omega)]
theorem w64_lane (l : Nat) (h : l < 4) : IntKind.i64.wrap (13 * (l : Int)) = 13 * (l : Int) := by rw [IntKind.wrap_i64]; omega

namespace Pl
/-- Which suit each of the suits goes to, step by step: of the numbers that are left the one that the way tells. -/
def fin3 (_N a b c d : Nat) : Nat × Nat × Nat × Nat := (a, b, c, d)
def fin2 (N a b c d : Nat) : Nat × Nat × Nat × Nat := if N % 2 = 0 then fin3 (N / 2) a b d c else fin3 (N / 2) a b c d
def fin1 (N a b c d : Nat) : Nat × Nat × Nat × Nat := if N % 3 = 0 then fin2 (N / 3) a d b c else if N % 3 = 1 then fin2 (N / 3) a c b d else fin2 (N / 3) a b c d
def fin0 (N a b c d : Nat) : Nat × Nat × Nat × Nat := if N % 4 = 0 then fin1 (N / 4) d a b c else if N % 4 = 1 then fin1 (N / 4) c a b d else if N % 4 = 2 then fin1 (N / 4) b a c d else fin1 (N / 4) a b c d
def finK (k N a b c d : Nat) : Nat × Nat × Nat × Nat := match k with | 0 => fin0 N a b c d | 1 => fin1 N a b c d | 2 => fin2 N a b c d | 3 => fin3 N a b c d | _ => (a, b, c, d)
theorem fin_0_0 (K a b c d : Nat) : finK 0 (4 * K + 0) a b c d = finK 1 K d a b c := by
  show fin0 _ a b c d = fin1 K _ _ _ _
  unfold fin0
  rw [show (4 * K + 0) % 4 = 0 by omega, show (4 * K + 0) / 4 = K by omega]
  simp
theorem fin_0_1 (K a b c d : Nat) : finK 0 (4 * K + 1) a b c d = finK 1 K c a b d := by
  show fin0 _ a b c d = fin1 K _ _ _ _
  unfold fin0
  rw [show (4 * K + 1) % 4 = 1 by omega, show (4 * K + 1) / 4 = K by omega]
  simp
theorem fin_0_2 (K a b c d : Nat) : finK 0 (4 * K + 2) a b c d = finK 1 K b a c d := by
  show fin0 _ a b c d = fin1 K _ _ _ _
  unfold fin0
  rw [show (4 * K + 2) % 4 = 2 by omega, show (4 * K + 2) / 4 = K by omega]
  simp
theorem fin_0_3 (K a b c d : Nat) : finK 0 (4 * K + 3) a b c d = finK 1 K a b c d := by
  show fin0 _ a b c d = fin1 K _ _ _ _
  unfold fin0
  rw [show (4 * K + 3) % 4 = 3 by omega, show (4 * K + 3) / 4 = K by omega]
  simp
theorem fin_1_0 (K a b c d : Nat) : finK 1 (3 * K + 0) a b c d = finK 2 K a d b c := by
  show fin1 _ a b c d = fin2 K _ _ _ _
  unfold fin1
  rw [show (3 * K + 0) % 3 = 0 by omega, show (3 * K + 0) / 3 = K by omega]
  simp
theorem fin_1_1 (K a b c d : Nat) : finK 1 (3 * K + 1) a b c d = finK 2 K a c b d := by
  show fin1 _ a b c d = fin2 K _ _ _ _
  unfold fin1
  rw [show (3 * K + 1) % 3 = 1 by omega, show (3 * K + 1) / 3 = K by omega]
  simp
theorem fin_1_2 (K a b c d : Nat) : finK 1 (3 * K + 2) a b c d = finK 2 K a b c d := by
  show fin1 _ a b c d = fin2 K _ _ _ _
  unfold fin1
  rw [show (3 * K + 2) % 3 = 2 by omega, show (3 * K + 2) / 3 = K by omega]
  simp
theorem fin_2_0 (K a b c d : Nat) : finK 2 (2 * K + 0) a b c d = finK 3 K a b d c := by
  show fin2 _ a b c d = fin3 K _ _ _ _
  unfold fin2
  rw [show (2 * K + 0) % 2 = 0 by omega, show (2 * K + 0) / 2 = K by omega]
  simp
theorem fin_2_1 (K a b c d : Nat) : finK 2 (2 * K + 1) a b c d = finK 3 K a b c d := by
  show fin2 _ a b c d = fin3 K _ _ _ _
  unfold fin2
  rw [show (2 * K + 1) % 2 = 1 by omega, show (2 * K + 1) / 2 = K by omega]
  simp
theorem fin_3_0 (N a b c d : Nat) : finK 3 N a b c d = finK 4 N a b c d := rfl
end Pl
set_option maxRecDepth 100000 in
set_option maxHeartbeats 6000000 in
theorem turned_all (m way : Nat) (w : World) (hm : Hid (m < 18446744073709551616)) (hw : way < 256) :
    Calls Tryd.prog 15 #[.int .u64 m, .int .u8 way] w fun e w' => (∃ a b c d, Pl.Perm4 a b c d ∧ Pl.fin0 (way % 24) 3 2 1 0 = (a, b, c, d) ∧ e = .returned (.int .u64 (Pl.turnTo m a b c d 4 : Nat))) ∧ Below w.heap.size w w' := by
  obtain ⟨n, hn⟩ : ∃ n, n = way % 24 := ⟨_, rfl⟩
  have en : (way : Int) % 24 = (n : Int) := by omega
  have hn1 : n < 24 := by omega
  have q1 := w64_1
  have q2 := w64_2
  have q3 := w64_3
  have q4 := w64_4
  have q0 := w64_0
  have q13 := w64_13
  have q26 := w64_26
  have q39 := w64_39
  have HNW := Lib.hid hn
  clear hn
  go_enter Tryd.func15, Tryd.ntmps15
  go_wp2_with fail
  rw [en]
  go_loopw [5, 6, 7, 8] (fun v5 v6 v7 v8 wr => ∃ (k N q a b c d x1 x2 x3 : Nat) (s : Int), k ≤ 4 ∧ N < 24 ∧ s = 3 - (k : Int) ∧ v8 = .int .i64 s ∧ v7 = .int .i64 N ∧ v6 = .int .u64 (Pl.turnTo m a b c d k : Nat) ∧ v5 = .slice (some ⟨w.heap.size, 0, none⟩) (4 - k) 4 ∧
      Pl.Perm4 a b c d ∧ wr = (w.alloc (.cells #[.int .i64 d, .int .i64 x1, .int .i64 x2, .int .i64 x3] 3)).drewN q ∧ (k ≤ 2 → x1 = c) ∧ (k ≤ 1 → x2 = b) ∧ (k = 0 → x3 = a) ∧ Pl.finK k N a b c d = Pl.fin0 n 3 2 1 0) (fun _ _ _ v8 _ => (intOf v8 + 1).toNat)
  case atStart => exact ⟨0, n, 0, 3, 2, 1, 0, 1, 2, 3, 3, by omega, hn1, rfl, rfl, rfl, by rw [Pl.turn_0]; rfl, rfl, by unfold Pl.Perm4; omega, rfl, by omega, by omega, by omega, rfl⟩
  case round =>
    clear en hn1
    obtain ⟨k, N, q, a, b, c, d, x1, x2, x3, s, hk, hN, hs, rfl, rfl, rfl, rfl, hP, rfl, hx1, hx2, hx3, hG⟩ := hrel
    have HG := Lib.hid hG
    clear hG
    rcases (by omega : k = 0 ∨ k = 1 ∨ k = 2 ∨ k = 3 ∨ k = 4) with rfl | rfl | rfl | rfl | rfl
    · obtain rfl : s = 3 := by omega
      obtain rfl : c = x1 := (hx1 (by omega)).symm
      obtain rfl : b = x2 := (hx2 (by omega)).symm
      obtain rfl : a = x3 := (hx3 (by omega)).symm
      clear hk hs hx1 hx2 hx3
      have dv : ∃ K r, N = 4 * K + r ∧ r < 4 ∧ K < 24 := ⟨N / 4, N % 4, by omega, by omega, by omega⟩
      obtain ⟨K, r, hnk, hr, hK⟩ := dv
      have y1 : (N : Int) % 4 = (r : Int) := by omega
      have y2 : (N : Int) / 4 = (K : Int) := by omega
      have HNK := Lib.hid hnk
      clear hnk
      have la := w64_lane a hP.1.1
      have lb := w64_lane b hP.1.2.1
      have lc := w64_lane c hP.1.2.2.1
      have ld := w64_lane d hP.1.2.2.2
      have ia : (a : Int) < 4 := by have := hP.1.1; omega
      have ib : (b : Int) < 4 := by have := hP.1.2.1; omega
      have ic : (c : Int) < 4 := by have := hP.1.2.2.1; omega
      have id : (d : Int) < 4 := by have := hP.1.2.2.2; omega
      have e3 : bits BinOp.and IntKind.u64 ((m : Int) / 549755813888) 8191 = ((Pl.hold m 3 : Nat) : Int) := by simpa using mask_e m 3 hm.out
      rcases (by omega : r = 0 ∨ r = 1 ∨ r = 2 ∨ r = 3) with rfl | rfl | rfl | rfl
      · go_wp2_with fail
        go_quiet (fail)
        go_wp2_with fail
        refine region_drew_tail 7 (by kernel_rfl) (by kernel_rfl) ?_
        repeat (quiet_step (skip))
        refine wpQuiet_nil ?_
        rintro w' ⟨nw, rfl⟩
        go_wp2_with fail
        exact ⟨⟨1, K, _, d, a, b, c, b, a, a, 2, by omega, hK, by omega, rfl, rfl, by rw [lane_e _ _ _ (Pl.turn_lt m a b c d 0 hP) (Pl.hold_lt m 3) (by have := hP.1; omega)]; simp only [Pl.turn_1, Pl.turn_0], rfl, by unfold Pl.Perm4 at *; omega, rfl, by first | exact fun _ => rfl | (intro h; omega), by first | exact fun _ => rfl | (intro h; omega), by intro h; omega, by rw [← HG.out, HNK.out]; exact (Pl.fin_0_0 K a b c d).symm⟩, by simp [intOf]⟩
      · go_wp2_with fail
        go_quiet (fail)
        go_wp2_with fail
        refine region_drew_tail 7 (by kernel_rfl) (by kernel_rfl) ?_
        repeat (quiet_step (skip))
        refine wpQuiet_nil ?_
        rintro w' ⟨nw, rfl⟩
        go_wp2_with fail
        exact ⟨⟨1, K, _, c, a, b, d, b, a, a, 2, by omega, hK, by omega, rfl, rfl, by rw [lane_e _ _ _ (Pl.turn_lt m a b c d 0 hP) (Pl.hold_lt m 3) (by have := hP.1; omega)]; simp only [Pl.turn_1, Pl.turn_0], rfl, by unfold Pl.Perm4 at *; omega, rfl, by first | exact fun _ => rfl | (intro h; omega), by first | exact fun _ => rfl | (intro h; omega), by intro h; omega, by rw [← HG.out, HNK.out]; exact (Pl.fin_0_1 K a b c d).symm⟩, by simp [intOf]⟩
      · go_wp2_with fail
        go_quiet (fail)
        go_wp2_with fail
        refine region_drew_tail 7 (by kernel_rfl) (by kernel_rfl) ?_
        repeat (quiet_step (skip))
        refine wpQuiet_nil ?_
        rintro w' ⟨nw, rfl⟩
        go_wp2_with fail
        exact ⟨⟨1, K, _, b, a, c, d, c, a, a, 2, by omega, hK, by omega, rfl, rfl, by rw [lane_e _ _ _ (Pl.turn_lt m a b c d 0 hP) (Pl.hold_lt m 3) (by have := hP.1; omega)]; simp only [Pl.turn_1, Pl.turn_0], rfl, by unfold Pl.Perm4 at *; omega, rfl, by first | exact fun _ => rfl | (intro h; omega), by first | exact fun _ => rfl | (intro h; omega), by intro h; omega, by rw [← HG.out, HNK.out]; exact (Pl.fin_0_2 K a b c d).symm⟩, by simp [intOf]⟩
      · go_wp2_with fail
        go_quiet (fail)
        go_wp2_with fail
        refine region_drew_tail 7 (by kernel_rfl) (by kernel_rfl) ?_
        repeat (quiet_step (skip))
        refine wpQuiet_nil ?_
        rintro w' ⟨nw, rfl⟩
        go_wp2_with fail
        exact ⟨⟨1, K, _, a, b, c, d, c, b, a, 2, by omega, hK, by omega, rfl, rfl, by rw [lane_e _ _ _ (Pl.turn_lt m a b c d 0 hP) (Pl.hold_lt m 3) (by have := hP.1; omega)]; simp only [Pl.turn_1, Pl.turn_0], rfl, by unfold Pl.Perm4 at *; omega, rfl, by first | exact fun _ => rfl | (intro h; omega), by first | exact fun _ => rfl | (intro h; omega), by intro h; omega, by rw [← HG.out, HNK.out]; exact (Pl.fin_0_3 K a b c d).symm⟩, by simp [intOf]⟩
    · obtain rfl : s = 2 := by omega
      obtain rfl : c = x1 := (hx1 (by omega)).symm
      obtain rfl : b = x2 := (hx2 (by omega)).symm
      clear hk hs hx1 hx2 hx3
      have dv : ∃ K r, N = 3 * K + r ∧ r < 3 ∧ K < 24 := ⟨N / 3, N % 3, by omega, by omega, by omega⟩
      obtain ⟨K, r, hnk, hr, hK⟩ := dv
      have y1 : (N : Int) % 3 = (r : Int) := by omega
      have y2 : (N : Int) / 3 = (K : Int) := by omega
      have HNK := Lib.hid hnk
      clear hnk
      have la := w64_lane a hP.1.1
      have lb := w64_lane b hP.1.2.1
      have lc := w64_lane c hP.1.2.2.1
      have ld := w64_lane d hP.1.2.2.2
      have ia : (a : Int) < 4 := by have := hP.1.1; omega
      have ib : (b : Int) < 4 := by have := hP.1.2.1; omega
      have ic : (c : Int) < 4 := by have := hP.1.2.2.1; omega
      have id : (d : Int) < 4 := by have := hP.1.2.2.2; omega
      have e2 : bits BinOp.and IntKind.u64 ((m : Int) / 67108864) 8191 = ((Pl.hold m 2 : Nat) : Int) := by simpa using mask_e m 2 hm.out
      rcases (by omega : r = 0 ∨ r = 1 ∨ r = 2) with rfl | rfl | rfl
      · go_wp2_with fail
        go_quiet (fail)
        go_wp2_with fail
        refine region_drew_tail 7 (by kernel_rfl) (by kernel_rfl) ?_
        repeat (quiet_step (skip))
        refine wpQuiet_nil ?_
        rintro w' ⟨nw, rfl⟩
        go_wp2_with fail
        exact ⟨⟨2, K, _, a, d, b, c, b, b, x3, 1, by omega, hK, by omega, rfl, rfl, by rw [lane_e _ _ _ (Pl.turn_lt m a b c d 1 hP) (Pl.hold_lt m 2) (by have := hP.1; omega)]; simp only [Pl.turn_2, Pl.turn_1, Pl.turn_0], rfl, by unfold Pl.Perm4 at *; omega, rfl, by first | exact fun _ => rfl | (intro h; omega), by first | exact fun _ => rfl | (intro h; omega), by intro h; omega, by rw [← HG.out, HNK.out]; exact (Pl.fin_1_0 K a b c d).symm⟩, by simp [intOf]⟩
      · go_wp2_with fail
        go_quiet (fail)
        go_wp2_with fail
        refine region_drew_tail 7 (by kernel_rfl) (by kernel_rfl) ?_
        repeat (quiet_step (skip))
        refine wpQuiet_nil ?_
        rintro w' ⟨nw, rfl⟩
        go_wp2_with fail
        exact ⟨⟨2, K, _, a, c, b, d, b, b, x3, 1, by omega, hK, by omega, rfl, rfl, by rw [lane_e _ _ _ (Pl.turn_lt m a b c d 1 hP) (Pl.hold_lt m 2) (by have := hP.1; omega)]; simp only [Pl.turn_2, Pl.turn_1, Pl.turn_0], rfl, by unfold Pl.Perm4 at *; omega, rfl, by first | exact fun _ => rfl | (intro h; omega), by first | exact fun _ => rfl | (intro h; omega), by intro h; omega, by rw [← HG.out, HNK.out]; exact (Pl.fin_1_1 K a b c d).symm⟩, by simp [intOf]⟩
      · go_wp2_with fail
        go_quiet (fail)
        go_wp2_with fail
        refine region_drew_tail 7 (by kernel_rfl) (by kernel_rfl) ?_
        repeat (quiet_step (skip))
        refine wpQuiet_nil ?_
        rintro w' ⟨nw, rfl⟩
        go_wp2_with fail
        exact ⟨⟨2, K, _, a, b, c, d, c, b, x3, 1, by omega, hK, by omega, rfl, rfl, by rw [lane_e _ _ _ (Pl.turn_lt m a b c d 1 hP) (Pl.hold_lt m 2) (by have := hP.1; omega)]; simp only [Pl.turn_2, Pl.turn_1, Pl.turn_0], rfl, by unfold Pl.Perm4 at *; omega, rfl, by first | exact fun _ => rfl | (intro h; omega), by first | exact fun _ => rfl | (intro h; omega), by intro h; omega, by rw [← HG.out, HNK.out]; exact (Pl.fin_1_2 K a b c d).symm⟩, by simp [intOf]⟩
    · obtain rfl : s = 1 := by omega
      obtain rfl : c = x1 := (hx1 (by omega)).symm
      clear hk hs hx1 hx2 hx3
      have dv : ∃ K r, N = 2 * K + r ∧ r < 2 ∧ K < 24 := ⟨N / 2, N % 2, by omega, by omega, by omega⟩
      obtain ⟨K, r, hnk, hr, hK⟩ := dv
      have y1 : (N : Int) % 2 = (r : Int) := by omega
      have y2 : (N : Int) / 2 = (K : Int) := by omega
      have HNK := Lib.hid hnk
      clear hnk
      have la := w64_lane a hP.1.1
      have lb := w64_lane b hP.1.2.1
      have lc := w64_lane c hP.1.2.2.1
      have ld := w64_lane d hP.1.2.2.2
      have ia : (a : Int) < 4 := by have := hP.1.1; omega
      have ib : (b : Int) < 4 := by have := hP.1.2.1; omega
      have ic : (c : Int) < 4 := by have := hP.1.2.2.1; omega
      have id : (d : Int) < 4 := by have := hP.1.2.2.2; omega
      have e1 : bits BinOp.and IntKind.u64 ((m : Int) / 8192) 8191 = ((Pl.hold m 1 : Nat) : Int) := by simpa using mask_e m 1 hm.out
      rcases (by omega : r = 0 ∨ r = 1) with rfl | rfl
      · go_wp2_with fail
        go_quiet (fail)
        go_wp2_with fail
        refine region_drew_tail 7 (by kernel_rfl) (by kernel_rfl) ?_
        repeat (quiet_step (skip))
        refine wpQuiet_nil ?_
        rintro w' ⟨nw, rfl⟩
        go_wp2_with fail
        exact ⟨⟨3, K, _, a, b, d, c, c, x2, x3, 0, by omega, hK, by omega, rfl, rfl, by rw [lane_e _ _ _ (Pl.turn_lt m a b c d 2 hP) (Pl.hold_lt m 1) (by have := hP.1; omega)]; simp only [Pl.turn_3, Pl.turn_2, Pl.turn_1, Pl.turn_0], rfl, by unfold Pl.Perm4 at *; omega, rfl, by first | exact fun _ => rfl | (intro h; omega), by first | exact fun _ => rfl | (intro h; omega), by intro h; omega, by rw [← HG.out, HNK.out]; exact (Pl.fin_2_0 K a b c d).symm⟩, by simp [intOf]⟩
      · go_wp2_with fail
        go_quiet (fail)
        go_wp2_with fail
        refine region_drew_tail 7 (by kernel_rfl) (by kernel_rfl) ?_
        repeat (quiet_step (skip))
        refine wpQuiet_nil ?_
        rintro w' ⟨nw, rfl⟩
        go_wp2_with fail
        exact ⟨⟨3, K, _, a, b, c, d, c, x2, x3, 0, by omega, hK, by omega, rfl, rfl, by rw [lane_e _ _ _ (Pl.turn_lt m a b c d 2 hP) (Pl.hold_lt m 1) (by have := hP.1; omega)]; simp only [Pl.turn_3, Pl.turn_2, Pl.turn_1, Pl.turn_0], rfl, by unfold Pl.Perm4 at *; omega, rfl, by first | exact fun _ => rfl | (intro h; omega), by first | exact fun _ => rfl | (intro h; omega), by intro h; omega, by rw [← HG.out, HNK.out]; exact (Pl.fin_2_1 K a b c d).symm⟩, by simp [intOf]⟩
    · obtain rfl : s = 0 := by omega
      clear hk hs hx1 hx2 hx3
      have dv : ∃ K r, N = 1 * K + r ∧ r < 1 ∧ K < 24 := ⟨N / 1, N % 1, by omega, by omega, by omega⟩
      obtain ⟨K, r, hnk, hr, hK⟩ := dv
      have y1 : (N : Int) % 1 = (r : Int) := by omega
      have y2 : (N : Int) / 1 = (K : Int) := by omega
      have HNK := Lib.hid hnk
      clear hnk
      have la := w64_lane a hP.1.1
      have lb := w64_lane b hP.1.2.1
      have lc := w64_lane c hP.1.2.2.1
      have ld := w64_lane d hP.1.2.2.2
      have ia : (a : Int) < 4 := by have := hP.1.1; omega
      have ib : (b : Int) < 4 := by have := hP.1.2.1; omega
      have ic : (c : Int) < 4 := by have := hP.1.2.2.1; omega
      have id : (d : Int) < 4 := by have := hP.1.2.2.2; omega
      have e0 : bits BinOp.and IntKind.u64 ((m : Int)) 8191 = ((Pl.hold m 0 : Nat) : Int) := by simpa using mask_e m 0 hm.out
      rcases (by omega : r = 0) with rfl
      · go_wp2_with fail
        go_quiet (fail)
        go_wp2_with fail
        refine region_drew_tail 7 (by kernel_rfl) (by kernel_rfl) ?_
        repeat (quiet_step (skip))
        refine wpQuiet_nil ?_
        rintro w' ⟨nw, rfl⟩
        go_wp2_with fail
        exact ⟨⟨4, N, _, a, b, c, d, x1, x2, x3, -1, by omega, hN, by omega, rfl, rfl, by rw [lane_e _ _ _ (Pl.turn_lt m a b c d 3 hP) (Pl.hold_lt m 0) (by have := hP.1; omega)]; simp only [Pl.turn_4, Pl.turn_3, Pl.turn_2, Pl.turn_1, Pl.turn_0], rfl, by unfold Pl.Perm4 at *; omega, rfl, by first | exact fun _ => rfl | (intro h; omega), by first | exact fun _ => rfl | (intro h; omega), by intro h; omega, by rw [← HG.out, HNK.out]; exact (Pl.fin_3_0 _ a b c d).symm⟩, by simp [intOf]⟩
    · obtain rfl : s = -1 := by omega
      go_wp2_with fail
      go_ret
      exact ⟨⟨a, b, c, d, hP, by rw [← HNW.out, ← HG.out]; rfl, rfl⟩, below_drewN ((Below.refl _ _).alloc (Nat.le_refl _) _) _⟩
theorem turned_any (m way : Nat) (w : World) (hm : Hid (m < 18446744073709551616)) (hw : way < 256) :
    Calls Tryd.prog 15 #[.int .u64 m, .int .u8 way] w fun e w' => (∃ a b c d, Pl.Perm4 a b c d ∧ e = .returned (.int .u64 (Pl.turnTo m a b c d 4 : Nat))) ∧ Below w.heap.size w w' :=
  (turned_all m way w hm hw).mono fun _ _ ⟨⟨a, b, c, d, hP, _, he⟩, hb⟩ => ⟨⟨a, b, c, d, hP, he⟩, hb⟩
/-- The hand that turned returns. -/
def Pl.turnV (m way : Nat) : Nat := Pl.turnTo m (Pl.fin0 (way % 24) 3 2 1 0).1 (Pl.fin0 (way % 24) 3 2 1 0).2.1 (Pl.fin0 (way % 24) 3 2 1 0).2.2.1 (Pl.fin0 (way % 24) 3 2 1 0).2.2.2 4
theorem turned_fix (m way : Nat) (w : World) (hm : Hid (m < 18446744073709551616)) (hw : way < 256) :
    Calls Tryd.prog 15 #[.int .u64 m, .int .u8 way] w fun e w' => e = .returned (.int .u64 (Pl.turnV m way : Nat)) ∧ Below w.heap.size w w' :=
  (turned_all m way w hm hw).mono fun _ _ ⟨⟨a, b, c, d, _, hf, he⟩, hb⟩ => ⟨by rw [he, Pl.turnV, hf], hb⟩
theorem Pl.fin_ok : ∀ n : Fin 24, (Pl.fin0 n.val 3 2 1 0).1 < 4 ∧ (Pl.fin0 n.val 3 2 1 0).2.1 < 4 ∧ (Pl.fin0 n.val 3 2 1 0).2.2.1 < 4 ∧ (Pl.fin0 n.val 3 2 1 0).2.2.2 < 4 := by decide
theorem Pl.turnV_lt (m way : Nat) : Pl.turnV m way < 4503599627370496 := by
  obtain ⟨ha, hb, hc, hd⟩ := Pl.fin_ok ⟨way % 24, Nat.mod_lt _ (by decide)⟩
  have h3 := lane_lt (hold m 3) _ (hold_lt m 3) ha
  have h2 := lane_lt (hold m 2) _ (hold_lt m 2) hb
  have h1 := lane_lt (hold m 1) _ (hold_lt m 1) hc
  have h0 := lane_lt (hold m 0) _ (hold_lt m 0) hd
  show _ < 2 ^ 52
  unfold Pl.turnV
  simp only [turn_4, turn_3, turn_2, turn_1, turn_0]
  exact Nat.or_lt_two_pow (Nat.or_lt_two_pow (Nat.or_lt_two_pow (Nat.or_lt_two_pow (by decide) h3) h2) h1) h0
attribute [irreducible] Pl.turnV
end Go.Proofs.YtdebhdjcacojeaaDoor
