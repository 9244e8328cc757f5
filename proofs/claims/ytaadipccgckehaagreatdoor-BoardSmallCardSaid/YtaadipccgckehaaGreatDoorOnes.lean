/- bits.OnesCount64. -/
import Derived.Test.YtaadipccgckehaaGreatDoorProg
import Derived.Test.YtaadipccgckehaaGreatDoorBits
import Derived.WalkKit
import Derived.WalkLawsBesides
import Derived.WalkSpells
import Derived.Handy
import Derived.Outline
import Derived.RegionTactic
import Derived.Deep.QuietTactic
import Derived.BigQuiet
import Derived.Lib.Tables
namespace Go.Proofs.YtaadipccgckehaaGreatDoor
open Go.RowKit

theorem ones64_any (m : Nat) (w : World) (hm : m < 18446744073709551616) :
    Calls Tryz.prog 67 #[.int .u64 m] w fun e w' => e = .returned (.int .i64 (Pl.pc 64 m : Nat)) ∧ w = w' := by
  have e1 := ones_e1 m hm
  have e2 := ones_e2 m
  have e3 := ones_e3 m
  have b2 := r21_le m
  have b0 : (0 : Int) ≤ ((Pl.r2 8 (Pl.r1 8 m) : Nat) : Int) := Int.natCast_nonneg _
  have e4 := ones_e4 m
  have e5 := ones_e5 m
  have e6 := ones_e6 m
  have e7 := ones_e7 m
  go_enter Tryz.func67, Tryz.ntmps67
  go_wp2
  go_ret
  exact ⟨rfl, rfl⟩
end Go.Proofs.YtaadipccgckehaaGreatDoor
