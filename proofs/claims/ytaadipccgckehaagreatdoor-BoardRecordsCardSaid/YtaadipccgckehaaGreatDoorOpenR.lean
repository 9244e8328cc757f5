/- A record as it comes in. -/
import Derived.Test.YtaadipccgckehaaGreatDoorFrame
import Derived.Test.YtaadipccgckehaaGreatDoorCL
import Derived.ChangeSlices
namespace Go.Proofs.YtaadipccgckehaaGreatDoor
set_option maxRecDepth 100000
open Go Go.ChangeShapes Go.ChangeMaps Go.WideShapes Go.ChangeAt Go.WideMaps Go.WideElems Go.RowKit Pl
section
variable {w : World} {r : Reach} {base : Nat} {v : Value}
theorem cell_int (h : Cell.okWide Tryz.prog w r base 3 v) : ∃ n, v = .int .i64 n := by
  simp only [Cell.okWide, Tryz.underlying3] at h
  cases v <;> simp only [Cell.ok, Tryz.underlying3] at h
  case int k n =>
    obtain ⟨rfl, _⟩ := h
    exact ⟨n, rfl⟩
theorem cell_u64 (h : Cell.okWide Tryz.prog w r base 22 v) : ∃ n : Nat, v = .int .u64 (n : Int) ∧ n < 18446744073709551616 := by
  simp only [Cell.okWide, Tryz.underlying22] at h
  cases v <;> simp only [Cell.ok, Tryz.underlying22] at h
  case int k n =>
    obtain ⟨rfl, h1, h2⟩ := h
    have h1 : (0 : Int) ≤ n := h1
    have h2 : n ≤ (18446744073709551615 : Int) := h2
    exact ⟨n.toNat, by rw [Int.toNat_of_nonneg h1], by omega⟩
theorem open_rec (hv : Value.okWide Tryz.prog w r base 26 v) : ∃ (n : Int) (y : Four), v = .agg #[.int .i64 n, .int .u64 (ofF y 0 : Nat), .int .u64 (ofF y 1 : Nat), .int .u64 (ofF y 2 : Nat), .int .u64 (ofF y 3 : Nat)] ∧ F64 y := by
  simp only [Value.okWide, Tryz.underlying26] at hv
  obtain ⟨cs, rfl, hsz, ts, hts, _, hat⟩ := hv
  obtain rfl : [3, 22, 22, 22, 22] = ts := Option.some.inj ((show Tryz.prog.cellTypes Tryz.prog.depth 26 = some [3, 22, 22, 22, 22] by kernel_rfl).symm.trans hts)
  have hn : cs.size = 5 := hsz.trans (show Tryz.prog.cellsOf 26 = 5 by kernel_rfl)
  have hx : ∀ i, i < 5 → ∃ x, cs[i]? = some x := fun i hi => ⟨_, Array.getElem?_eq_getElem (by omega)⟩
  obtain ⟨x0, z0⟩ := hx 0 (by omega)
  obtain ⟨n0, rfl⟩ := cell_int (v := x0) (by obtain ⟨u, hu, h⟩ := hat 0 x0 z0; obtain rfl : 3 = u := Option.some.inj hu; exact h)
  obtain ⟨x1, z1⟩ := hx 1 (by omega)
  obtain ⟨n1, rfl, w1⟩ := cell_u64 (v := x1) (by obtain ⟨u, hu, h⟩ := hat 1 x1 z1; obtain rfl : 22 = u := Option.some.inj hu; exact h)
  obtain ⟨x2, z2⟩ := hx 2 (by omega)
  obtain ⟨n2, rfl, w2⟩ := cell_u64 (v := x2) (by obtain ⟨u, hu, h⟩ := hat 2 x2 z2; obtain rfl : 22 = u := Option.some.inj hu; exact h)
  obtain ⟨x3, z3⟩ := hx 3 (by omega)
  obtain ⟨n3, rfl, w3⟩ := cell_u64 (v := x3) (by obtain ⟨u, hu, h⟩ := hat 3 x3 z3; obtain rfl : 22 = u := Option.some.inj hu; exact h)
  obtain ⟨x4, z4⟩ := hx 4 (by omega)
  obtain ⟨n4, rfl, w4⟩ := cell_u64 (v := x4) (by obtain ⟨u, hu, h⟩ := hat 4 x4 z4; obtain rfl : 22 = u := Option.some.inj hu; exact h)
  refine ⟨n0, (n1, n2, n3, n4), ?_, fun k hk => ?_⟩
  · congr 1
    refine Array.ext_getElem? (fun i => ?_)
    match i with
    | 0 => exact z0.trans (by kernel_rfl)
    | 1 => exact z1.trans (by kernel_rfl)
    | 2 => exact z2.trans (by kernel_rfl)
    | 3 => exact z3.trans (by kernel_rfl)
    | 4 => exact z4.trans (by kernel_rfl)
    | i + 5 =>
      rw [Array.getElem?_eq_none (by omega), Array.getElem?_eq_none (Nat.le_trans (Nat.le_of_eq (by kernel_rfl)) (Nat.le_add_left 5 i))]
  · rcases (by omega : k = 0 ∨ k = 1 ∨ k = 2 ∨ k = 3) with rfl | rfl | rfl | rfl
    · exact w1
    · exact w2
    · exact w3
    · exact w4
end
end Go.Proofs.YtaadipccgckehaaGreatDoor
