/- Contracts of made, missing, Points, Score. -/
import Derived.Test.YtgmofikhndlhcaaDoorRight
import Derived.Lib.Hide
import Derived.Deep.QuietTactic
import Derived.BigQuiet
namespace Go.Proofs.YtgmofikhndlhcaaDoor
open Go.RowKit

def val (d : Nat) : Nat := if d < 2 then 20 else 30
def fac (r : Nat) : Nat := if r = 0 then 1 else if r = 1 then 2 else 4
def moreP (r : Nat) (v : Bool) : Nat := if r = 0 then 0 else if r = 1 then (if v then 200 else 100) else (if v then 400 else 200)
def each (d r : Nat) (v : Bool) : Nat := if r = 0 then val d else moreP r v
def base (l d r : Nat) : Nat := (l * val d + if d = 4 then 10 else 0) * fac r
def b01 (v : Bool) : Nat := if v then 1 else 0
/-- The program's tables. -/
structure Tabs (w : World) : Prop where
  v : ∀ d, d < 5 → w.cell? ⟨0, d, none⟩ = some (.int .i64 (val d : Nat))
  f : ∀ r, r < 3 → w.cell? ⟨1, r, none⟩ = some (.int .i64 (fac r : Nat))
  i : ∀ r, r < 3 → w.cell? ⟨3, r, none⟩ = some (.int .i64 (50 * r : Nat))
  m : ∀ r, r < 3 → ∀ v : Bool, w.cell? ⟨2, r * 2 + b01 v, none⟩ = some (.int .i64 (moreP r v : Nat))
theorem Tabs.keep {w w' : World} (h : Tabs w) (hb : Below w.heap.size w w') : Tabs w' :=
  ⟨fun d hd => keepW hb (h.v d hd), fun r hr => keepW hb (h.f r hr), fun r hr => keepW hb (h.i r hr), fun r hr v => keepW hb (h.m r hr v)⟩
theorem column_any (v : Bool) (w : World) : Calls Tryd.prog 47 #[.bool v] w fun e w' => e = .returned (.int .i64 (b01 v : Nat)) ∧ w = w' := by
  cases v
  all_goals
    go_enter Tryd.func47, Tryd.ntmps47
    go_wp2
    go_ret
    exact ⟨rfl, rfl⟩
theorem idx2 (a b : Int) (v : Bool) (w : World) : (Instr.index 73 (.agg #[.int .i64 a, .int .i64 b]) (.int .i64 (b01 v : Nat))).run Tryd.prog w = .ok (.int .i64 (if v then b else a)) w := by
  cases v <;> kernel_rfl
theorem val_le (d : Nat) : val d ≤ 30 := by unfold val; split <;> omega
theorem fac_le (r : Nat) : fac r ≤ 4 := by unfold fac; split; omega; split <;> omega
theorem moreP_le (r : Nat) (v : Bool) : moreP r v ≤ 400 := by unfold moreP; repeat' split
                                                              all_goals omega
theorem b01_le (v : Bool) : b01 v ≤ 1 := by cases v <;> decide
theorem mul_w (a b A B : Nat) (ha : a ≤ A) (hb : b ≤ B) (h : A * B ≤ 1000000) : IntKind.i64.wrap ((a : Int) * (b : Int)) = ((a * b : Nat) : Int) := by
  have h1 : a * b ≤ A * B := Nat.mul_le_mul ha hb
  rw [show (a : Int) * (b : Int) = ((a * b : Nat) : Int) by simp]
  exact IntWalk.i64_in _ (by omega)
theorem column_true (w : World) : Calls Tryd.prog 47 #[.bool true] w fun e w' => e = .returned (.int .i64 1) ∧ w = w' := column_any true w
theorem column_false (w : World) : Calls Tryd.prog 47 #[.bool false] w fun e w' => e = .returned (.int .i64 0) ∧ w = w' := column_any false w
end Go.Proofs.YtgmofikhndlhcaaDoor
