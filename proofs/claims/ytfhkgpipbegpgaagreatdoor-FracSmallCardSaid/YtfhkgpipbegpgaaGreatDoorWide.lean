/- The contracts of the numbers of 128 bits that need no library: size, gcd, plus, minus, cmp. -/
import Derived.Test.YtfhkgpipbegpgaaGreatDoorProg
import Derived.Test.YtfhkgpipbegpgaaGreatDoorKit
import Derived.Test.YtfhkgpipbegpgaaGreatDoorQt
import Derived.WalkKit
import Derived.WalkLawsBesides
import Derived.WalkSpells
import Derived.Handy
import Derived.Outline
import Derived.RegionTactic
import Derived.Deep.QuietTactic
import Derived.BigQuiet
import Derived.Laws.Externs
import Derived.IntWalk
import Derived.Lib.Hide
namespace Go.Proofs.YtfhkgpipbegpgaaGreatDoor
open Go Go.RowKit

theorem ret_int {k : IntKind} {a b : Int} (h : a = b) : Ending.returned (.int k a) = .returned (.int k b) := by rw [h]
theorem add64x (x y c : Nat) (hc : c ≤ 1) (w : World) : (callFunc 85 #[.int .u64 x, .int .u64 y, .int .u64 c]).run Tryz.prog w =
    .ok (.value (.tuple #[.int .u64 (((x + y + c) % 18446744073709551616 : Nat) : Int), .int .u64 (((x + y + c) / 18446744073709551616 : Nat) : Int)])) w := by
  rw [run_callFunc_extern Tryz.func85 (by kernel_rfl) (by kernel_rfl) (by kernel_rfl) (e := add64Entry) (by kernel_rfl), run_add64 x y c (by omega) (by omega) (by omega) (by omega)]
  simp only [Result.andThen]
  congr 5 <;> omega
def sub64E : Array Value → Sem Value := fun args => do
  let (x, y, b) ← Extern.MathBitsCarry.three "Sub64" args
  pure (Extern.MathBitsCarry.pair ((x + Extern.MathBitsCarry.m64 - y - b) % Extern.MathBitsCarry.m64) (if x < y + b then 1 else 0))
theorem run_sub64E {P : Program} (x y b : Nat) (hb : b ≤ 1) (w : World) :
    (sub64E #[.int .u64 x, .int .u64 y, .int .u64 b]).run P w =
      .ok (.tuple #[.int .u64 (((x + 18446744073709551616 - y - b) % 18446744073709551616 : Nat) : Int), .int .u64 ((if x < y + b then 1 else 0 : Nat) : Int)]) w := by
  have : b = 0 ∨ b = 1 := by omega
  rcases this with rfl | rfl <;> rfl
theorem sub64x (x y b : Nat) (hb : b ≤ 1) (w : World) : (callFunc 86 #[.int .u64 x, .int .u64 y, .int .u64 b]).run Tryz.prog w =
    .ok (.value (.tuple #[.int .u64 (((x + 18446744073709551616 - y - b) % 18446744073709551616 : Nat) : Int), .int .u64 ((if x < y + b then 1 else 0 : Nat) : Int)])) w := by
  rw [run_callFunc_extern Tryz.func86 (by kernel_rfl) (by kernel_rfl) (by kernel_rfl) (e := sub64E) (by kernel_rfl), run_sub64E x y b hb]
  rfl
theorem sub64y (x y b l c : Nat) (hb : b ≤ 1) (hl : x + c * 18446744073709551616 = y + b + l) (h1 : l < 18446744073709551616) (hc : c ≤ 1) (w : World) : (callFunc 86 #[.int .u64 x, .int .u64 y, .int .u64 b]).run Tryz.prog w =
    .ok (.value (.tuple #[.int .u64 (l : Nat), .int .u64 (c : Nat)])) w := by
  have e1 : (x + 18446744073709551616 - y - b) % 18446744073709551616 = l := by omega
  have e2 : (if x < y + b then 1 else 0) = c := by split <;> omega
  rw [sub64x x y b hb, e1, e2]

theorem size_any (n : Int) (h0 : -9223372036854775808 ≤ n) (h1 : n ≤ 9223372036854775807) (w : World) :
    Calls Tryz.prog 43 #[.int .i64 n] w fun e w' => e = .returned (.int .u64 (n.natAbs : Nat)) ∧ w = w' := by
  by_cases hn : n < 0
  · have e1 : IntKind.u64.wrap (-IntKind.u64.wrap n) = (n.natAbs : Nat) := by rw [IntKind.wrap_u64, IntKind.wrap_u64]; omega
    go_enter Tryz.func43, Tryz.ntmps43
    go_wp2
    go_ret
    exact ⟨rfl, rfl⟩
  · have e1 : IntKind.u64.wrap n = (n.natAbs : Nat) := by rw [IntKind.wrap_u64]; omega
    go_enter Tryz.func43, Tryz.ntmps43
    go_wp2
    go_ret
    exact ⟨rfl, rfl⟩

set_option maxHeartbeats 1000000 in
theorem gcd_any (a b : Nat) (ha : a < 18446744073709551616) (hb : b < 18446744073709551616) (w : World) :
    Calls Tryz.prog 59 #[.int .u64 a, .int .u64 b] w fun e w' => e = .returned (.int .u64 (Nat.gcd a b : Nat)) ∧ ∃ n, w' = w.drewN n := by
  obtain ⟨g, hg⟩ : ∃ g, Nat.gcd a b = g := ⟨_, rfl⟩
  rw [hg]
  have HG := Lib.hid hg
  clear hg
  go_enter Tryz.func59, Tryz.ntmps59
  go_wp2
  go_loopw [0, 1] (fun t0 t1 wr => ∃ x y : Nat, x < 18446744073709551616 ∧ y < 18446744073709551616 ∧ Nat.gcd x y = g ∧ t0 = .int .u64 x ∧ t1 = .int .u64 y ∧ ∃ n, wr = w.drewN n) (fun _ t1 _ => (intOf t1).toNat)
  case atStart => exact ⟨a, b, ha, hb, HG.out, rfl, rfl, 0, by rw [World.drewN_zero]⟩
  case round =>
    obtain ⟨x, y, hx, hy, hq, rfl, rfl, n, rfl⟩ := hrel
    have HQ := Lib.hid hq
    clear hq
    by_cases h0 : y = 0
    · subst h0
      go_wp2
      go_ret
      exact ⟨ret_int (by have := HQ.out; rw [Nat.gcd_zero_right] at this; rw [this]), n, rfl⟩
    · have f0 : ((y : Int) != 0) = true := by simpa using h0
      have f1 : ((y : Int) == 0) = false := by simpa using h0
      have m1 : ((x : Int).tmod (y : Int)) = ((x % y : Nat) : Int) := by rw [Int.tmod_eq_emod_of_nonneg (by omega)]; rfl
      have hlt : x % y < y := Nat.mod_lt _ (by omega)
      obtain ⟨r, hr⟩ : ∃ r, r = x % y := ⟨_, rfl⟩
      rw [← hr] at m1 hlt
      have m2 : IntKind.u64.wrap (r : Int) = (r : Int) := IntWalk.u64_in _ (by omega)
      have HR := Lib.hid hr
      clear hr h0
      go_wp2
      go_quiet (fail)
      go_roundw
      case rel => exact ⟨_, _, _, _, _, _, _, _, ⟨y, r, hy, by omega, by rw [HR.out, Nat.gcd_comm, ← Nat.gcd_rec, Nat.gcd_comm]; exact HQ.out, rfl, rfl, _, World.drewN_drewN _ _ _⟩, rfl⟩
      case measure => simp [intOf]; omega

/-! ### Sums and differences of two halves -/
theorem plus_any (ah al bh bl h l c : Nat) (hl : al + bl = c * 18446744073709551616 + l) (h1 : l < 18446744073709551616) (hc : c ≤ 1) (hh : ah + bh + c = h) (h2 : h < 18446744073709551616) (w : World) :
    Calls Tryz.prog 66 #[.agg #[.int .u64 ah, .int .u64 al], .agg #[.int .u64 bh, .int .u64 bl]] w fun e w' =>
      e = .returned (.agg #[.int .u64 h, .int .u64 l]) ∧ Below w.heap.size w w' := by
  have A1 : ∀ w, (callFunc 85 #[.int .u64 al, .int .u64 bl, .int .u64 0]).run Tryz.prog w = .ok (.value (.tuple #[.int .u64 (l : Nat), .int .u64 (c : Nat)])) w := fun w => by
    have := add64x al bl 0 (by omega) w
    rwa [show (al + bl + 0) % 18446744073709551616 = l by omega, show (al + bl + 0) / 18446744073709551616 = c by omega] at this
  have A2 : ∀ w, (callFunc 85 #[.int .u64 ah, .int .u64 bh, .int .u64 c]).run Tryz.prog w = .ok (.value (.tuple #[.int .u64 (h : Nat), .int .u64 (0 : Nat)])) w := fun w => by
    have := add64x ah bh c hc w
    rwa [show (ah + bh + c) % 18446744073709551616 = h by omega, show (ah + bh + c) / 18446744073709551616 = 0 by omega] at this
  clear hl h1 hc hh h2
  go_enter Tryz.func66, Tryz.ntmps66
  go_wp2
  simp [bodyPost, results, Tryz.results66, go_sem]
  exact (((Below.refl _ _).alloc (Nat.le_refl _) _).alloc (by simp) _).alloc (by simp; omega) _
theorem minus_any (ah al bh bl h l c : Nat) (hl : al + c * 18446744073709551616 = bl + l) (h1 : l < 18446744073709551616) (hc : c ≤ 1) (hh : ah = bh + c + h) (h2 : ah < 18446744073709551616) (w : World) :
    Calls Tryz.prog 67 #[.agg #[.int .u64 ah, .int .u64 al], .agg #[.int .u64 bh, .int .u64 bl]] w fun e w' =>
      e = .returned (.agg #[.int .u64 h, .int .u64 l]) ∧ Below w.heap.size w w' := by
  have A1 : ∀ w, (callFunc 86 #[.int .u64 al, .int .u64 bl, .int .u64 0]).run Tryz.prog w = .ok (.value (.tuple #[.int .u64 (l : Nat), .int .u64 (c : Nat)])) w := fun w =>
    sub64y al bl 0 l c (by omega) (by omega) h1 hc w
  have A2 : ∀ w, (callFunc 86 #[.int .u64 ah, .int .u64 bh, .int .u64 c]).run Tryz.prog w = .ok (.value (.tuple #[.int .u64 (h : Nat), .int .u64 (0 : Nat)])) w := fun w =>
    sub64y ah bh c h 0 hc (by omega) (by omega) (by omega) w
  clear hl h1 hc hh h2
  go_enter Tryz.func67, Tryz.ntmps67
  go_wp2
  simp [bodyPost, results, Tryz.results67, go_sem]
  exact (((Below.refl _ _).alloc (Nat.le_refl _) _).alloc (by simp) _).alloc (by simp; omega) _
end Go.Proofs.YtfhkgpipbegpgaaGreatDoor
