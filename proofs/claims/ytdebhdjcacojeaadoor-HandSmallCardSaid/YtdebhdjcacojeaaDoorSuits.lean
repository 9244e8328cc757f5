/- Contract of hand.Suits: an insertion sort of four suits by their lengths. -/
import Derived.Test.YtdebhdjcacojeaaDoorHand
import Derived.RegionTactic
import Derived.BigRegion
import Derived.BigQuiet
namespace Go.Proofs.YtdebhdjcacojeaaDoor
open Go.RowKit

/-- One suit is moved to the front as long as it is longer than the one before it. -/
def bub (L : Nat → Nat) : Nat → Nat × Nat × Nat × Nat → Nat × Nat × Nat × Nat
  | 0, q => q
  | 1, (a, b, c, d) => if L a < L b then (b, a, c, d) else (a, b, c, d)
  | 2, (a, b, c, d) => if L b < L c then (if L a < L c then (c, a, b, d) else (a, c, b, d)) else (a, b, c, d)
  | _, (a, b, c, d) => if L c < L d then (if L b < L d then (if L a < L d then (d, a, b, c) else (a, d, b, c)) else (a, b, d, c)) else (a, b, c, d)
def sortTo (L : Nat → Nat) : Nat → Nat × Nat × Nat × Nat
  | 0 => (3, 2, 1, 0)
  | k + 1 => bub L k (sortTo L k)
theorem bub_0 (L : Nat → Nat) (q : Nat × Nat × Nat × Nat) : bub L 0 q = q := rfl
theorem bub_1y (L : Nat → Nat) (a b c d : Nat) (h : L a < L b) : bub L 1 (a, b, c, d) = bub L 0 (b, a, c, d) := by simp [bub, h]
theorem bub_1n (L : Nat → Nat) (a b c d : Nat) (h : ¬ L a < L b) : bub L 1 (a, b, c, d) = (a, b, c, d) := by simp [bub, h]
theorem bub_2y (L : Nat → Nat) (a b c d : Nat) (h : L b < L c) : bub L 2 (a, b, c, d) = bub L 1 (a, c, b, d) := by simp [bub, h]
theorem bub_2n (L : Nat → Nat) (a b c d : Nat) (h : ¬ L b < L c) : bub L 2 (a, b, c, d) = (a, b, c, d) := by simp [bub, h]
theorem bub_3y (L : Nat → Nat) (a b c d : Nat) (h : L c < L d) : bub L 3 (a, b, c, d) = bub L 2 (a, b, d, c) := by simp [bub, h]
theorem bub_3n (L : Nat → Nat) (a b c d : Nat) (h : ¬ L c < L d) : bub L 3 (a, b, c, d) = (a, b, c, d) := by simp [bub, h]
def In4 : Nat × Nat × Nat × Nat → Prop
  | (a, b, c, d) => a < 4 ∧ b < 4 ∧ c < 4 ∧ d < 4
theorem bub_in (L : Nat → Nat) (k : Nat) (q : Nat × Nat × Nat × Nat) (h : In4 q) : In4 (bub L k q) := by
  obtain ⟨a, b, c, d⟩ := q
  obtain ⟨ha, hb, hc, hd⟩ := h
  match k with
  | 0 => exact ⟨ha, hb, hc, hd⟩
  | 1 => simp only [bub]; split <;> simp [In4, *]
  | 2 => simp only [bub]; (repeat' split) <;> simp [In4, *]
  | k + 3 => simp only [bub]; (repeat' split) <;> simp [In4, *]
theorem sort_lt (L : Nat → Nat) (a b c d : Nat) (h : sortTo L 4 = (a, b, c, d)) : a < 4 ∧ b < 4 ∧ c < 4 ∧ d < 4 := by
  have : In4 (sortTo L 4) := by
    simp only [sortTo]
    exact bub_in _ _ _ (bub_in _ _ _ (bub_in _ _ _ (bub_in _ _ _ (by simp [In4]))))
  rw [h] at this; exact this
attribute [irreducible] bub sortTo

theorem arr4 (f : Nat → Value) (a : Nat) (h : a < [f 0, f 1, f 2, f 3].length) : [f 0, f 1, f 2, f 3][a]'h = f a := by
  have h' : a < 4 := h
  rcases (by omega : a = 0 ∨ a = 1 ∨ a = 2 ∨ a = 3) with rfl | rfl | rfl | rfl <;> rfl
theorem w64_0 : IntKind.i64.wrap 0 = 0 := by decide
theorem w64_1 : IntKind.i64.wrap 1 = 1 := by decide
theorem w64_2 : IntKind.i64.wrap 2 = 2 := by decide

set_option maxHeartbeats 2000000 in
theorem suits_any (m : Nat) (w : World) (hm : m < 18446744073709551616) :
    Calls Tryd.prog 26 #[.int .u64 m] w fun e w' => (∃ a b c d, sortTo (shp m) 4 = (a, b, c, d) ∧ e = .returned (.agg #[.int .u8 (a : Nat), .int .u8 (b : Nat), .int .u8 (c : Nat), .int .u8 (d : Nat)])) ∧ Below w.heap.size w w' := by
  go_enter Tryd.func26, Tryd.ntmps26
  go_wp2_with fail
  refine (shape_any m _ hm).mono ?_
  rintro e w1 ⟨rfl, hb1⟩
  go_wp2
  go_loopw [10] (fun v10 wr => ∃ k n a b c d : Nat, k ≤ 4 ∧ v10 = .int .i64 k ∧ sortTo (shp m) k = (a, b, c, d) ∧ a < 4 ∧ b < 4 ∧ c < 4 ∧ d < 4 ∧
      wr = ((w1.alloc (.cells #[.int .i64 (shp m 0 : Nat), .int .i64 (shp m 1 : Nat), .int .i64 (shp m 2 : Nat), .int .i64 (shp m 3 : Nat)] 31)).alloc
        (.cells #[.int .u8 a, .int .u8 b, .int .u8 c, .int .u8 d] 42)).drewN n) (fun v10 _ => 4 - (intOf v10).toNat)
  case atStart => exact ⟨0, 0, 3, 2, 1, 0, by omega, rfl, by simp [sortTo], by omega, by omega, by omega, by omega, rfl⟩
  case round =>
    obtain ⟨k, n, a, b, c, d, hk, rfl, hq, ha, hb, hc, hd, rfl⟩ := hrel
    by_cases hlt : k < 4
    · have HQ := Lib.hid hq
      clear hq
      go_wp2
      go_loopw [6] (fun v6 wr => ∃ j n a b c d : Nat, j ≤ 3 ∧ v6 = .int .i64 j ∧ bub (shp m) j (a, b, c, d) = sortTo (shp m) (k + 1) ∧ a < 4 ∧ b < 4 ∧ c < 4 ∧ d < 4 ∧
        wr = ((w1.alloc (.cells #[.int .i64 (shp m 0 : Nat), .int .i64 (shp m 1 : Nat), .int .i64 (shp m 2 : Nat), .int .i64 (shp m 3 : Nat)] 31)).alloc
        (.cells #[.int .u8 a, .int .u8 b, .int .u8 c, .int .u8 d] 42)).drewN n) (fun v6 _ => (intOf v6).toNat)
      case atStart => exact ⟨k, n, a, b, c, d, by omega, rfl, by rw [← HQ.out]; simp [sortTo], ha, hb, hc, hd, rfl⟩
      case round =>
        clear HQ ha hb hc hd
        obtain ⟨j, n, a, b, c, d, hj, rfl, hq, ha, hb, hc, hd, rfl⟩ := hrel
        have HQ := Lib.hid hq
        clear hq
        have fa : ∀ h, [Value.int .i64 (shp m 0 : Nat), .int .i64 (shp m 1 : Nat), .int .i64 (shp m 2 : Nat), .int .i64 (shp m 3 : Nat)][a]'h = .int .i64 (shp m a : Nat) := arr4 (fun t => .int .i64 (shp m t : Nat)) a
        have fb : ∀ h, [Value.int .i64 (shp m 0 : Nat), .int .i64 (shp m 1 : Nat), .int .i64 (shp m 2 : Nat), .int .i64 (shp m 3 : Nat)][b]'h = .int .i64 (shp m b : Nat) := arr4 (fun t => .int .i64 (shp m t : Nat)) b
        have fc : ∀ h, [Value.int .i64 (shp m 0 : Nat), .int .i64 (shp m 1 : Nat), .int .i64 (shp m 2 : Nat), .int .i64 (shp m 3 : Nat)][c]'h = .int .i64 (shp m c : Nat) := arr4 (fun t => .int .i64 (shp m t : Nat)) c
        have fd : ∀ h, [Value.int .i64 (shp m 0 : Nat), .int .i64 (shp m 1 : Nat), .int .i64 (shp m 2 : Nat), .int .i64 (shp m 3 : Nat)][d]'h = .int .i64 (shp m d : Nat) := arr4 (fun t => .int .i64 (shp m t : Nat)) d
        have ia : (a : Int) < 4 := by omega
        have ib : (b : Int) < 4 := by omega
        have ic : (c : Int) < 4 := by omega
        have id : (d : Int) < 4 := by omega
        have q0 := w64_0
        have q1 := w64_1
        have q2 := w64_2
        rcases (by omega : j = 0 ∨ j = 1 ∨ j = 2 ∨ j = 3) with rfl | rfl | rfl | rfl
        · have h0 : decide (((0 : Nat) : Int) > 0) = false := by simp
          go_wp2_with fail
          go_quiet (fail)
          go_wp2_with fail
          go_roundw
          case rel => exact ⟨k + 1, _, a, b, c, d, by omega, by go_num, by rw [← HQ.out, bub_0], ha, hb, hc, hd, rfl⟩
          case measure => simp [intOf]; omega
        · go_wp2_with fail
          go_quiet (fail)
          go_wp2_with fail
          · have hlt2 := Lib.hid (bub_1y _ a b c d ‹_›)
            go_region
            go_wp2
            go_roundw
            case rel => exact ⟨0, _, b, a, c, d, by omega, rfl, by rw [← hlt2.out]; exact HQ.out, hb, ha, hc, hd, rfl⟩
            case measure => simp [intOf]
          · go_roundw
            case rel => exact ⟨k + 1, _, a, b, c, d, by omega, by go_num, by rw [← HQ.out, bub_1n _ _ _ _ _ ‹_›], ha, hb, hc, hd, rfl⟩
            case measure => simp [intOf]; omega
        · go_wp2_with fail
          go_quiet (fail)
          go_wp2_with fail
          · have hlt2 := Lib.hid (bub_2y _ a b c d ‹_›)
            go_region
            go_wp2
            go_roundw
            case rel => exact ⟨1, _, a, c, b, d, by omega, rfl, by rw [← hlt2.out]; exact HQ.out, ha, hc, hb, hd, rfl⟩
            case measure => simp [intOf]
          · go_roundw
            case rel => exact ⟨k + 1, _, a, b, c, d, by omega, by go_num, by rw [← HQ.out, bub_2n _ _ _ _ _ ‹_›], ha, hb, hc, hd, rfl⟩
            case measure => simp [intOf]; omega
        · go_wp2_with fail
          go_quiet (fail)
          go_wp2_with fail
          · have hlt2 := Lib.hid (bub_3y _ a b c d ‹_›)
            go_region
            go_wp2
            go_roundw
            case rel => exact ⟨2, _, a, b, d, c, by omega, rfl, by rw [← hlt2.out]; exact HQ.out, ha, hb, hd, hc, rfl⟩
            case measure => simp [intOf]
          · go_roundw
            case rel => exact ⟨k + 1, _, a, b, c, d, by omega, by go_num, by rw [← HQ.out, bub_3n _ _ _ _ _ ‹_›], ha, hb, hc, hd, rfl⟩
            case measure => simp [intOf]; omega
    · obtain rfl : k = 4 := by omega
      have HQ := Lib.hid hq
      clear hq
      have k0 : w1.cell? ⟨w.heap.size, 0, none⟩ = some (.int .u8 0) := keepB hb1 (by simp) (by simp)
      have k1 : w1.cell? ⟨w.heap.size, 1, none⟩ = some (.int .u8 0) := keepB hb1 (by simp) (by simp)
      have k2 : w1.cell? ⟨w.heap.size, 2, none⟩ = some (.int .u8 0) := keepB hb1 (by simp) (by simp)
      have k3 : w1.cell? ⟨w.heap.size, 3, none⟩ = some (.int .u8 0) := keepB hb1 (by simp) (by simp)
      have kf : ∀ i, w1.frozen? ⟨w.heap.size, i, none⟩ = false := fun i => (hb1.frozen (by simp)).trans (by simp [World.frozen?_alloc_at])
      have hz : w.heap.size < w1.heap.size := by have := hb1.size; simp at this; omega
      have hB : Below w.heap.size w w1 := ((Below.refl _ _).alloc (Nat.le_refl _) _).trans (hb1.mono (by simp))
      go_wp2
      refine bodyPost_ret (v := .agg #[.int .u8 (a : Nat), .int .u8 (b : Nat), .int .u8 (c : Nat), .int .u8 (d : Nat)]) (by simp [results, Tryd.results26, go_sem, k0, k1, k2, k3, hz]) rfl ⟨⟨a, b, c, d, HQ.out, rfl⟩, below_drewN ?_ _⟩
      go_grown
end Go.Proofs.YtdebhdjcacojeaaDoor
