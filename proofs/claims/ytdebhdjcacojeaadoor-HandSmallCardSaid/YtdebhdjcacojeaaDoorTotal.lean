/- Walks: total. -/
import Derived.Test.YtdebhdjcacojeaaDoorTot
import Derived.Test.YtdebhdjcacojeaaDoorKit
import Derived.Lib.Hide
namespace Go.Proofs.YtdebhdjcacojeaaDoor
open Go.RowKit

theorem tot_los (m : Nat) (w : World) (hm : m < 18446744073709551616) :
    Calls Tryd.prog 37 #[.int .u64 m, (.func (.func 39) #[] #[])] w fun e w' => e = .returned (.int .i64 (Pl.tot (Pl.los) m : Nat)) ∧ Below w.heap.size w w' := by
  go_enter Tryd.func37, Tryd.ntmps37
  go_wp2
  go_loopw [7] (fun v7 wr => ∃ k n : Nat, k ≤ 4 ∧ v7 = .int .u8 k ∧ wr = (((w.alloc (.cells #[.int .u64 m] 22)).alloc (.cells #[(.func (.func 39) #[] #[])] 46)).alloc (.cells #[.int .i64 (Pl.totTo (Pl.los) m k : Nat)] 3)).drewN n) (fun v7 _ => 4 - (intOf v7).toNat)
  case atStart => exact ⟨0, 0, by omega, rfl, by rw [Pl.totTo_0]; rfl⟩
  case round =>
    obtain ⟨k, n, hk, rfl, rfl⟩ := hrel
    by_cases hlt : k < 4
    · have hb := Pl.totTo_le (Pl.los) 3 m k (fun h => Pl.los_le h)
      have hs := Pl.totTo_succ (Pl.los) m k
      have HS := Lib.hid hs
      clear hs
      go_wp2_with fail
      refine (add_los m k (Pl.totTo (Pl.los) m k) (w.heap.size + 1 + 1) (w.heap.size + 1) w.heap.size _ hm hlt (by omega) (by go_cell) (by go_cell) (by go_cell) (by go_cell)).mono ?_
      rintro e w' ⟨rfl, n', rfl⟩
      rw [set_new _ _ _ _ _ _ _ (by simp)]
      rw [← HS.out]
      go_wp2
      go_roundw
      case rel => exact ⟨k + 1, _, by omega, by go_num, rfl⟩
      case measure => simp [intOf]; omega
    · obtain rfl : k = 4 := by omega
      go_wp2
      go_ret
      refine ⟨ret_int (by rw [Pl.totTo_4]), below_drewN ?_ _⟩
      go_grown

theorem tot_qck (m : Nat) (w : World) (hm : m < 18446744073709551616) :
    Calls Tryd.prog 37 #[.int .u64 m, (.func (.func 41) #[] #[])] w fun e w' => e = .returned (.int .i64 (Pl.tot (Pl.qck) m : Nat)) ∧ Below w.heap.size w w' := by
  go_enter Tryd.func37, Tryd.ntmps37
  go_wp2
  go_loopw [7] (fun v7 wr => ∃ k n : Nat, k ≤ 4 ∧ v7 = .int .u8 k ∧ wr = (((w.alloc (.cells #[.int .u64 m] 22)).alloc (.cells #[(.func (.func 41) #[] #[])] 46)).alloc (.cells #[.int .i64 (Pl.totTo (Pl.qck) m k : Nat)] 3)).drewN n) (fun v7 _ => 4 - (intOf v7).toNat)
  case atStart => exact ⟨0, 0, by omega, rfl, by rw [Pl.totTo_0]; rfl⟩
  case round =>
    obtain ⟨k, n, hk, rfl, rfl⟩ := hrel
    by_cases hlt : k < 4
    · have hb := Pl.totTo_le (Pl.qck) 4 m k (fun h => Pl.qck_le h)
      have hs := Pl.totTo_succ (Pl.qck) m k
      have HS := Lib.hid hs
      clear hs
      go_wp2_with fail
      refine (add_qck m k (Pl.totTo (Pl.qck) m k) (w.heap.size + 1 + 1) (w.heap.size + 1) w.heap.size _ hm hlt (by omega) (by go_cell) (by go_cell) (by go_cell) (by go_cell)).mono ?_
      rintro e w' ⟨rfl, n', rfl⟩
      rw [set_new _ _ _ _ _ _ _ (by simp)]
      rw [← HS.out]
      go_wp2
      go_roundw
      case rel => exact ⟨k + 1, _, by omega, by go_num, rfl⟩
      case measure => simp [intOf]; omega
    · obtain rfl : k = 4 := by omega
      go_wp2
      go_ret
      refine ⟨ret_int (by rw [Pl.totTo_4]), below_drewN ?_ _⟩
      go_grown

theorem tot_hon (m bv v0 v1 v2 v3 : Nat) (w : World) (hm : m < 18446744073709551616)
    (g0 : v0 ≤ 100) (g1 : v1 ≤ 100) (g2 : v2 ≤ 100) (g3 : v3 ≤ 100) (gs : v0 + v1 + v2 + v3 ≤ 100) (c0 : w.cell? ⟨bv, 0, none⟩ = some (.int .i64 v0)) (c1 : w.cell? ⟨bv, 1, none⟩ = some (.int .i64 v1)) (c2 : w.cell? ⟨bv, 2, none⟩ = some (.int .i64 v2)) (c3 : w.cell? ⟨bv, 3, none⟩ = some (.int .i64 v3)) :
    Calls Tryd.prog 37 #[.int .u64 m, (.func (.func 49) #[] #[.pointer (some ⟨bv, 0, none⟩)])] w fun e w' => e = .returned (.int .i64 (Pl.tot (Pl.hon v0 v1 v2 v3) m : Nat)) ∧ Below w.heap.size w w' := by
  go_enter Tryd.func37, Tryd.ntmps37
  go_wp2
  go_loopw [7] (fun v7 wr => ∃ k n : Nat, k ≤ 4 ∧ v7 = .int .u8 k ∧ wr = (((w.alloc (.cells #[.int .u64 m] 22)).alloc (.cells #[(.func (.func 49) #[] #[.pointer (some ⟨bv, 0, none⟩)])] 46)).alloc (.cells #[.int .i64 (Pl.totTo (Pl.hon v0 v1 v2 v3) m k : Nat)] 3)).drewN n) (fun v7 _ => 4 - (intOf v7).toNat)
  case atStart => exact ⟨0, 0, by omega, rfl, by rw [Pl.totTo_0]; rfl⟩
  case round =>
    obtain ⟨k, n, hk, rfl, rfl⟩ := hrel
    by_cases hlt : k < 4
    · have hb := Pl.totTo_le (Pl.hon v0 v1 v2 v3) 100 m k (fun h => Nat.le_trans (Pl.hon_le v0 v1 v2 v3 h) gs)
      have hs := Pl.totTo_succ (Pl.hon v0 v1 v2 v3) m k
      have HS := Lib.hid hs
      clear hs
      go_wp2_with fail
      refine (add_hon m k (Pl.totTo (Pl.hon v0 v1 v2 v3) m k) (w.heap.size + 1 + 1) (w.heap.size + 1) w.heap.size bv v0 v1 v2 v3 _ hm hlt (by omega) g0 g1 g2 g3 (keepD _ (keepA _ (keepA _ (keepA _ c0)))) (keepD _ (keepA _ (keepA _ (keepA _ c1)))) (keepD _ (keepA _ (keepA _ (keepA _ c2)))) (keepD _ (keepA _ (keepA _ (keepA _ c3)))) (by go_cell) (by go_cell) (by go_cell) (by go_cell)).mono ?_
      rintro e w' ⟨rfl, n', rfl⟩
      rw [set_new _ _ _ _ _ _ _ (by simp)]
      rw [← HS.out]
      go_wp2
      go_roundw
      case rel => exact ⟨k + 1, _, by omega, by go_num, rfl⟩
      case measure => simp [intOf]; omega
    · obtain rfl : k = 4 := by omega
      go_wp2
      go_ret
      refine ⟨ret_int (by rw [Pl.totTo_4]), below_drewN ?_ _⟩
      go_grown
end Go.Proofs.YtdebhdjcacojeaaDoor
