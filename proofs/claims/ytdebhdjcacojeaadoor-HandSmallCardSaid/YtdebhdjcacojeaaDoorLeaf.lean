/- Walks of the leaves: bits.OnesCount64, bits.OnesCount16, hand.Holding. -/
import Derived.Test.YtdebhdjcacojeaaDoorProg
import Derived.Test.YtdebhdjcacojeaaDoorBits
import Derived.WalkKit
import Derived.WalkLawsBesides
import Derived.WalkSpells
import Derived.Handy
import Derived.Outline
import Derived.RegionTactic
import Derived.Deep.QuietTactic
import Derived.BigQuiet
import Derived.Lib.Tables
namespace Go.Proofs.YtdebhdjcacojeaaDoor
open Go.RowKit

theorem ones64_any (m : Nat) (w : World) (hm : m < 18446744073709551616) :
    Calls Tryd.prog 44 #[.int .u64 m] w fun e w' => e = .returned (.int .i64 (Pl.pc 64 m : Nat)) ∧ w = w' := by
  have e1 := ones_e1 m hm
  have e2 := ones_e2 m
  have e3 := ones_e3 m
  have b2 := r21_le m
  have b0 : (0 : Int) ≤ ((Pl.r2 8 (Pl.r1 8 m) : Nat) : Int) := Int.natCast_nonneg _
  have e4 := ones_e4 m
  have e5 := ones_e5 m
  have e6 := ones_e6 m
  have e7 := ones_e7 m
  go_enter Tryd.func44, Tryd.ntmps44
  go_wp2
  go_ret
  exact ⟨rfl, rfl⟩
set_option maxRecDepth 100000 in
theorem ones16_any (m : Nat) (w : World) (hm : m < 65536) :
    Calls Tryd.prog 40 #[.int .u16 m] w fun e w' => e = .returned (.int .i64 (Pl.pc 16 m : Nat)) ∧ ∃ n, w' = w.drewN n := by
  have e1 : bits BinOp.and IntKind.u16 (m : Int) 255 = ((m % 256 : Nat) : Int) := by
    rw [show (255 : Int) = ((255 : Nat) : Int) from rfl, u16_and_nat _ _ hm (by omega), nat_mask8]
  have b1 : (0 : Int) ≤ (m : Int) / 256 := by omega
  have b2 : (m : Int) / 256 ≤ 255 := by omega
  have b3 : ((m % 256 : Nat) : Int) ≤ 255 := by omega
  have e2 := ones16_fin m hm
  go_enter Tryd.func40, Tryd.ntmps40
  go_wp2
  go_quiet (fail)
  go_wp2
  go_ret
  exact ⟨rfl, _, rfl⟩

theorem holding_e (m s : Nat) (hm : m < 18446744073709551616) :
    bits BinOp.and IntKind.u16 (IntKind.u16.wrap ((m : Int) / 2 ^ (13 * s))) 8191 = ((Pl.hold m s : Nat) : Int) := by
  have h1 : m / 2 ^ (13 * s) < 18446744073709551616 := Nat.lt_of_le_of_lt (Nat.div_le_self _ _) hm
  have h2 : (m : Int) / 2 ^ (13 * s) = ((m / 2 ^ (13 * s) : Nat) : Int) := by
    rw [Int.natCast_ediv, Int.natCast_pow]; rfl
  rw [h2, IntKind.wrap_u16, Pl.hold]
  generalize m / 2 ^ (13 * s) = x at *
  have h3 : ((x : Int) % 65536) = ((x % 65536 : Nat) : Int) := by omega
  rw [h3, show (8191 : Int) = ((8191 : Nat) : Int) from rfl, u16_and_nat _ _ (by omega) (by omega), nat_mask13]
  omega
theorem holding_any (m s : Nat) (w : World) (hm : m < 18446744073709551616) (hs : s < 4) :
    Calls Tryd.prog 24 #[.int .u64 m, .int .u8 s] w fun e w' => e = .returned (.int .u16 (Pl.hold m s : Nat)) ∧ w = w' := by
  have e := holding_e m s hm
  go_enter Tryd.func24, Tryd.ntmps24
  go_wp2
  go_ret
  exact ⟨rfl, rfl⟩
theorem holding_out (m s : Nat) (w : World) (hs : 4 ≤ s) :
    Calls Tryd.prog 24 #[.int .u64 m, .int .u8 s] w fun e w' => e = .returned (.int .u16 0) ∧ w = w' := by
  go_enter Tryd.func24, Tryd.ntmps24
  go_wp2
  go_ret
  exact ⟨rfl, rfl⟩
end Go.Proofs.YtdebhdjcacojeaaDoor
