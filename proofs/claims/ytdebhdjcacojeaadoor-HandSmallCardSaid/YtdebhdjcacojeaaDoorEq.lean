/- What '==' says of two arrays of four numbers. -/
import Derived.Test.YtdebhdjcacojeaaDoorProg
import Derived.Test.YtdebhdjcacojeaaDoorKit
namespace Go.Proofs.YtdebhdjcacojeaaDoor
open Go.RowKit
theorem eq4 (x0 x1 x2 x3 y0 y1 y2 y3 : Int) (w : World) : (Op.equalIn 10000 31 (.agg #[.int .i64 x0, .int .i64 x1, .int .i64 x2, .int .i64 x3]) (.agg #[.int .i64 y0, .int .i64 y1, .int .i64 y2, .int .i64 y3])).run Tryd.prog w =
    .ok ((x0 == y0) && ((x1 == y1) && ((x2 == y2) && (x3 == y3)))) w := by
  have hu : Tryd.prog.underlying 31 = some (.array 4 3) := by kernel_rfl
  have he : Tryd.prog.underlying 3 = some (.int .i64) := by kernel_rfl
  have hz : (sizeOf 3).run Tryd.prog w = .ok 1 w := by kernel_rfl
  have hp : ∀ (a b c d : Value) , (part 3 #[a, b, c, d] 0).run Tryd.prog w = .ok a w ∧ (part 3 #[a, b, c, d] 1).run Tryd.prog w = .ok b w ∧ (part 3 #[a, b, c, d] 2).run Tryd.prog w = .ok c w ∧ (part 3 #[a, b, c, d] 3).run Tryd.prog w = .ok d w := fun a b c d => ⟨by kernel_rfl, by kernel_rfl, by kernel_rfl, by kernel_rfl⟩
  have e : ∀ a b : Int, (Op.equalIn 9999 3 (.int .i64 a) (.int .i64 b)).run Tryd.prog w = .ok (a == b) w := fun a b => run_equalIn_int w 9998 _ _ _ a b he
  rw [Op.equalIn]
  simp only [Sem.run_bind, run_underlying hu, Result.andThen_ok, hz, Std.Legacy.Range.forIn_eq_forIn_range', Std.Legacy.Range.size, List.range', List.forIn_cons, List.forIn_nil, (hp _ _ _ _).1, e, Sem.run_ite]
  cases h0 : (x0 == y0) <;> cases h1 : (x1 == y1) <;> cases h2 : (x2 == y2) <;> cases h3 : (x3 == y3) <;> simp [Sem.run_bind, Result.andThen_ok, (hp _ _ _ _).2.1, (hp _ _ _ _).2.2.1, (hp _ _ _ _).2.2.2, e, h1, h2, h3]
theorem eq4b (x0 x1 x2 x3 y0 y1 y2 y3 : Int) (w : World) : (Op.equalIn 10000 42 (.agg #[.int .u8 x0, .int .u8 x1, .int .u8 x2, .int .u8 x3]) (.agg #[.int .u8 y0, .int .u8 y1, .int .u8 y2, .int .u8 y3])).run Tryd.prog w =
    .ok ((x0 == y0) && ((x1 == y1) && ((x2 == y2) && (x3 == y3)))) w := by
  have hu : Tryd.prog.underlying 42 = some (.array 4 5) := by kernel_rfl
  have he : Tryd.prog.underlying 5 = some (.int .u8) := by kernel_rfl
  have hz : (sizeOf 5).run Tryd.prog w = .ok 1 w := by kernel_rfl
  have hp : ∀ (a b c d : Value) , (part 5 #[a, b, c, d] 0).run Tryd.prog w = .ok a w ∧ (part 5 #[a, b, c, d] 1).run Tryd.prog w = .ok b w ∧ (part 5 #[a, b, c, d] 2).run Tryd.prog w = .ok c w ∧ (part 5 #[a, b, c, d] 3).run Tryd.prog w = .ok d w := fun a b c d => ⟨by kernel_rfl, by kernel_rfl, by kernel_rfl, by kernel_rfl⟩
  have e : ∀ a b : Int, (Op.equalIn 9999 5 (.int .u8 a) (.int .u8 b)).run Tryd.prog w = .ok (a == b) w := fun a b => run_equalIn_int w 9998 _ _ _ a b he
  rw [Op.equalIn]
  simp only [Sem.run_bind, run_underlying hu, Result.andThen_ok, hz, Std.Legacy.Range.forIn_eq_forIn_range', Std.Legacy.Range.size, List.range', List.forIn_cons, List.forIn_nil, (hp _ _ _ _).1, e, Sem.run_ite]
  cases h0 : (x0 == y0) <;> cases h1 : (x1 == y1) <;> cases h2 : (x2 == y2) <;> cases h3 : (x3 == y3) <;> simp [Sem.run_bind, Result.andThen_ok, (hp _ _ _ _).2.1, (hp _ _ _ _).2.2.1, (hp _ _ _ _).2.2.2, e, h1, h2, h3]
end Go.Proofs.YtdebhdjcacojeaaDoor
