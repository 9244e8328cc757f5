/- BoardTells: the walk. -/
import Derived.Test.YtaadipccgckehaaDoorCH
import Derived.Test.YtaadipccgckehaaDoorCK
namespace Go.Proofs.YtaadipccgckehaaDoor
open Go Go.RowKit Pl

theorem dealer_both (n : Int) : ∃ (a : Nat) (c : Int), (∀ w, Calls Tryd.prog 10 #[.int .i64 n] w (fun e w' => e = .returned (.tuple #[.int .u8 (a : Int), .int .i64 c]) ∧ w = w')) ∧ (∀ w, Calls Tryd.prog 11 #[.int .i64 n] w (fun e w' => e = .returned (.tuple #[.int .u8 (a : Int), .int .i64 c]) ∧ w = w')) := by
  by_cases h : n < 1 ∨ 128 < n
  · exact ⟨0, 70, dealer_bad n h, rdealer_bad n h⟩
  · obtain ⟨m, rfl⟩ : ∃ m : Nat, n = (m : Int) := ⟨n.toNat, by omega⟩
    exact ⟨_, 0, dealer_ok m (by omega) (by omega), rdealer_ok m (by omega) (by omega)⟩
theorem vuln_both (n : Int) : ∃ (a : Nat) (c : Int), (∀ w, Calls Tryd.prog 12 #[.int .i64 n] w (fun e w' => e = .returned (.tuple #[.int .u8 (a : Int), .int .i64 c]) ∧ w = w')) ∧ (∀ w, Calls Tryd.prog 13 #[.int .i64 n] w (fun e w' => e = .returned (.tuple #[.int .u8 (a : Int), .int .i64 c]) ∧ w = w')) := by
  by_cases h : n < 1 ∨ 128 < n
  · exact ⟨0, 70, vuln_bad n h, rvuln_bad n h⟩
  · obtain ⟨m, rfl⟩ : ∃ m : Nat, n = (m : Int) := ⟨n.toNat, by omega⟩
    exact ⟨_, 0, vuln_ok m (by omega) (by omega), rvuln_ok m (by omega) (by omega)⟩
theorem find_both (d v : Nat) (hd : d < 256) (hv : v < 256) : ∃ (a : Nat) (c : Int), (∀ w, Calls Tryd.prog 14 #[.int .u8 (d : Int), .int .u8 (v : Int)] w (fun e w' => e = .returned (.tuple #[.int .i64 (a : Int), .int .i64 c]) ∧ w = w')) ∧ (∀ w, Calls Tryd.prog 15 #[.int .u8 (d : Int), .int .u8 (v : Int)] w (fun e w' => e = .returned (.tuple #[.int .i64 (a : Int), .int .i64 c]) ∧ w = w')) := by
  by_cases h : 4 ≤ d ∨ 4 ≤ v
  · exact ⟨0, 2, find_bad d v hd hv h, rfind_bad d v h⟩
  · exact ⟨_, 0, find_ok' d v (by omega) (by omega), rfind_ok d v (by omega) (by omega)⟩
set_option maxRecDepth 100000 in
theorem tells_walk (n : Int) (d v : Nat) (hd : d < 256) (hv : v < 256) (w : World) (he : Env w) : Calls Tryd.prog 3 #[.int .i64 n, .int .u8 (d : Int), .int .u8 (v : Int)] w (fun e w' => e = .returned (.bool true) ∧ Below w.heap.size w w') := by
  obtain ⟨a1, c1, D1, D2⟩ := dealer_both n
  obtain ⟨a2, c2, V1, V2⟩ := vuln_both n
  obtain ⟨a3, c3, F1, F2⟩ := find_both d v hd hv
  have HD1 := Lib.hid D1
  have HD2 := Lib.hid D2
  have HV1 := Lib.hid V1
  have HV2 := Lib.hid V2
  have HF1 := Lib.hid F1
  have HF2 := Lib.hid F2
  have HE := Lib.hid he
  clear D1 D2 V1 V2 F1 F2 he hd hv
  go_enter Tryd.func3, Tryd.ntmps3
  go_wp2_with (first
    | (go_at_call 10; refine (HD1.out _).mono ?_; rintro e w' ⟨rfl, rfl⟩)
    | (go_at_call 11; refine (HD2.out _).mono ?_; rintro e w' ⟨rfl, rfl⟩)
    | (go_at_call 12; refine (HV1.out _).mono ?_; rintro e w' ⟨rfl, rfl⟩)
    | (go_at_call 13; refine (HV2.out _).mono ?_; rintro e w' ⟨rfl, rfl⟩)
    | (go_at_call 14; refine (HF1.out _).mono ?_; rintro e w' ⟨rfl, rfl⟩)
    | (go_at_call 15; refine (HF2.out _).mono ?_; rintro e w' ⟨rfl, rfl⟩)
    | (go_at_call 16; refine (awake_any _ HE.out).mono ?_; rintro e w' ⟨rfl, hb⟩))
  go_ret
  exact ⟨rfl, hb⟩
end Go.Proofs.YtaadipccgckehaaDoor
