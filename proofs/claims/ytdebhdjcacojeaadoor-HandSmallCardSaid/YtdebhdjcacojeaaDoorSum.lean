/- Walks: what a suit counts (honours, losers, quick tricks). -/
import Derived.Test.YtdebhdjcacojeaaDoorLeaf
import Derived.LoopTactic
namespace Go.Proofs.YtdebhdjcacojeaaDoor
open Go.RowKit

theorem idx0 (x0 x1 x2 x3 : Value) (w : World) : (Instr.index 31 (.agg #[x0, x1, x2, x3]) (.int .i64 0)).run Tryd.prog w = .ok x0 w := by kernel_rfl
theorem idx1 (x0 x1 x2 x3 : Value) (w : World) : (Instr.index 31 (.agg #[x0, x1, x2, x3]) (.int .i64 1)).run Tryd.prog w = .ok x1 w := by kernel_rfl
theorem idx2 (x0 x1 x2 x3 : Value) (w : World) : (Instr.index 31 (.agg #[x0, x1, x2, x3]) (.int .i64 2)).run Tryd.prog w = .ok x2 w := by kernel_rfl
theorem idx3 (x0 x1 x2 x3 : Value) (w : World) : (Instr.index 31 (.agg #[x0, x1, x2, x3]) (.int .i64 3)).run Tryd.prog w = .ok x3 w := by kernel_rfl
theorem hon_any (h v0 v1 v2 v3 b : Nat) (w : World) (hh : h < 8192) (g0 : v0 ≤ 100) (g1 : v1 ≤ 100) (g2 : v2 ≤ 100) (g3 : v3 ≤ 100)
    (c0 : w.cell? ⟨b, 0, none⟩ = some (.int .i64 v0)) (c1 : w.cell? ⟨b, 1, none⟩ = some (.int .i64 v1)) (c2 : w.cell? ⟨b, 2, none⟩ = some (.int .i64 v2)) (c3 : w.cell? ⟨b, 3, none⟩ = some (.int .i64 v3)) :
    Calls Tryd.prog 49 #[.int .u16 h, .pointer (some ⟨b, 0, none⟩)] w fun e w' => e = .returned (.int .i64 (Pl.hon v0 v1 v2 v3 h : Nat)) ∧ w = w' := by
  go_enter Tryd.func49, Tryd.ntmps49
  go_wp2
  go_loop [4, 8] (fun v4 v8 => ∃ k : Nat, k ≤ 4 ∧ v8 = .int .i64 k ∧ v4 = .int .i64 (Pl.honTo v0 v1 v2 v3 h k : Nat)) (fun _ v8 => 4 - (intOf v8).toNat)
  case atStart => exact ⟨0, by omega, rfl, by rw [Pl.honTo_0]; rfl⟩
  case round =>
    obtain ⟨k, hk, rfl, rfl⟩ := hrel
    have e0 := bit_e9 h (by omega)
    have e1 := bit_e10 h (by omega)
    have e2 := bit_e11 h (by omega)
    have e3 := bit_e12 h (by omega)
    rcases (by omega : k = 0 ∨ k = 1 ∨ k = 2 ∨ k = 3 ∨ k = 4) with rfl | rfl | rfl | rfl | rfl
    all_goals
      have i0 := idx0 (.int .i64 v0) (.int .i64 v1) (.int .i64 v2) (.int .i64 v3)
      have i1 := idx1 (.int .i64 v0) (.int .i64 v1) (.int .i64 v2) (.int .i64 v3)
      have i2 := idx2 (.int .i64 v0) (.int .i64 v1) (.int .i64 v2) (.int .i64 v3)
      have i3 := idx3 (.int .i64 v0) (.int .i64 v1) (.int .i64 v2) (.int .i64 v3)
    · have hb := Pl.honTo_le v0 v1 v2 v3 h 0
      go_wp2
      · go_round
        case rel => exact ⟨1, by omega, rfl, Pl.hon_yes h 512 _ _ v0 512 (Pl.honTo_1 ..) ‹_›⟩
        case measure => simp [intOf]
      · go_round
        case rel => exact ⟨1, by omega, rfl, Pl.hon_no h 512 _ _ v0 512 (by omega) (Pl.honTo_1 ..) ‹_›⟩
        case measure => simp [intOf]
    · have hb := Pl.honTo_le v0 v1 v2 v3 h 1
      go_wp2
      · go_round
        case rel => exact ⟨2, by omega, rfl, Pl.hon_yes h 1024 _ _ v1 1024 (Pl.honTo_2 ..) ‹_›⟩
        case measure => simp [intOf]
      · go_round
        case rel => exact ⟨2, by omega, rfl, Pl.hon_no h 1024 _ _ v1 1024 (by omega) (Pl.honTo_2 ..) ‹_›⟩
        case measure => simp [intOf]
    · have hb := Pl.honTo_le v0 v1 v2 v3 h 2
      go_wp2
      · go_round
        case rel => exact ⟨3, by omega, rfl, Pl.hon_yes h 2048 _ _ v2 2048 (Pl.honTo_3 ..) ‹_›⟩
        case measure => simp [intOf]
      · go_round
        case rel => exact ⟨3, by omega, rfl, Pl.hon_no h 2048 _ _ v2 2048 (by omega) (Pl.honTo_3 ..) ‹_›⟩
        case measure => simp [intOf]
    · have hb := Pl.honTo_le v0 v1 v2 v3 h 3
      go_wp2
      · go_round
        case rel => exact ⟨4, by omega, rfl, Pl.hon_yes h 4096 _ _ v3 4096 (Pl.honTo_4' ..) ‹_›⟩
        case measure => simp [intOf]
      · go_round
        case rel => exact ⟨4, by omega, rfl, Pl.hon_no h 4096 _ _ v3 4096 (by omega) (Pl.honTo_4' ..) ‹_›⟩
        case measure => simp [intOf]
    · go_wp2
      go_ret
      exact ⟨ret_int (by rw [Pl.honTo_4]), rfl⟩
theorem jdx0 (x0 x1 x2 : Value) (w : World) : (Instr.index 48 (.agg #[x0, x1, x2]) (.int .i64 0)).run Tryd.prog w = .ok x0 w := by kernel_rfl
theorem jdx1 (x0 x1 x2 : Value) (w : World) : (Instr.index 48 (.agg #[x0, x1, x2]) (.int .i64 1)).run Tryd.prog w = .ok x1 w := by kernel_rfl
theorem jdx2 (x0 x1 x2 : Value) (w : World) : (Instr.index 48 (.agg #[x0, x1, x2]) (.int .i64 2)).run Tryd.prog w = .ok x2 w := by kernel_rfl
theorem los_any (h : Nat) (w : World) (hh : h < 8192) :
    Calls Tryd.prog 39 #[.int .u16 h] w fun e w' => e = .returned (.int .i64 (Pl.los h : Nat)) ∧ ∃ n, w' = w.drewN n := by
  go_enter Tryd.func39, Tryd.ntmps39
  go_wp2
  go_loopw [3, 7] (fun v3 v7 wr => ∃ k n : Nat, k ≤ 3 ∧ v7 = .int .i64 k ∧ v3 = .int .i64 (Pl.losTo h k : Nat) ∧ wr = w.drewN n) (fun _ v7 _ => 3 - (intOf v7).toNat)
  case atStart => exact ⟨0, 0, by omega, rfl, by rw [Pl.losTo_0]; rfl, rfl⟩
  case round =>
    obtain ⟨k, n, hk, rfl, rfl, rfl⟩ := hrel
    have e1 := bit_e10 h (by omega)
    have e2 := bit_e11 h (by omega)
    have e3 := bit_e12 h (by omega)
    have i0 := jdx0 (.int .u16 4096) (.int .u16 2048) (.int .u16 1024)
    have i1 := jdx1 (.int .u16 4096) (.int .u16 2048) (.int .u16 1024)
    have i2 := jdx2 (.int .u16 4096) (.int .u16 2048) (.int .u16 1024)
    rcases (by omega : k = 0 ∨ k = 1 ∨ k = 2 ∨ k = 3) with rfl | rfl | rfl | rfl
    · have hb := Pl.losTo_le h 0
      go_wp2_with (go_at_call 40; refine (ones16_any h _ (by omega)).mono ?_; rintro e w' ⟨rfl, m, rfl⟩)
      all_goals
        go_roundw
        case rel =>
          refine ⟨1, _, by omega, rfl, ?_, rfl⟩
          rw [Pl.losTo_1]
          first
            | rw [Pl.los_yes 0 h 4096 4096 (by omega) (by omega) ‹_›]; go_num
            | rw [Pl.los_no 0 h 4096 4096 ‹_›]; rfl
            | rw [Pl.los_few 0 h 4096 (by omega)]; rfl
        case measure => simp [intOf]
    · have hb := Pl.losTo_le h 1
      go_wp2_with (go_at_call 40; refine (ones16_any h _ (by omega)).mono ?_; rintro e w' ⟨rfl, m, rfl⟩)
      all_goals
        go_roundw
        case rel =>
          refine ⟨2, _, by omega, rfl, ?_, rfl⟩
          rw [Pl.losTo_2]
          first
            | rw [Pl.los_yes 1 h 2048 2048 (by omega) (by omega) ‹_›]; go_num
            | rw [Pl.los_no 1 h 2048 2048 ‹_›]; rfl
            | rw [Pl.los_few 1 h 2048 (by omega)]; rfl
        case measure => simp [intOf]
    · have hb := Pl.losTo_le h 2
      go_wp2_with (go_at_call 40; refine (ones16_any h _ (by omega)).mono ?_; rintro e w' ⟨rfl, m, rfl⟩)
      all_goals
        go_roundw
        case rel =>
          refine ⟨3, _, by omega, rfl, ?_, rfl⟩
          rw [Pl.losTo_3]
          first
            | rw [Pl.los_yes 2 h 1024 1024 (by omega) (by omega) ‹_›]; go_num
            | rw [Pl.los_no 2 h 1024 1024 ‹_›]; rfl
            | rw [Pl.los_few 2 h 1024 (by omega)]; rfl
        case measure => simp [intOf]
    · go_wp2
      go_ret
      exact ⟨ret_int (by rw [Pl.losTo_all]), _, rfl⟩
theorem qck_any (h : Nat) (w : World) (hh : h < 8192) :
    Calls Tryd.prog 41 #[.int .u16 h] w fun e w' => e = .returned (.int .i64 (Pl.qck h : Nat)) ∧ ∃ n, w' = w.drewN n := by
  have e1 := tops_e h hh
  go_enter Tryd.func41, Tryd.ntmps41
  go_wp2_with (go_at_call 40; refine (ones16_any h _ (by omega)).mono ?_; rintro e w' ⟨rfl, m, rfl⟩)
  all_goals simp only [beq_iff_eq, beq_eq_false_iff_ne, ne_eq] at *
  all_goals
    go_ret
    refine ⟨ret_int ?_, ?_⟩
    · first
        | rw [Pl.qck_4 h hh (by omega)]; rfl
        | rw [Pl.qck_3 h hh (by omega)]; rfl
        | rw [Pl.qck_2 h hh (by omega)]; rfl
        | rw [Pl.qck_1 h hh (by omega) (by omega)]; rfl
        | rw [Pl.qck_0 h hh (by omega)]; rfl
    · first | exact ⟨_, rfl⟩ | exact ⟨0, rfl⟩
end Go.Proofs.YtdebhdjcacojeaaDoor
