/- A contract as an argument: opened and shut. -/
import Derived.Test.YtgmofikhndlhcaaDoorFrame
import Derived.Lib.SmallJoins
namespace Go.Proofs.YtgmofikhndlhcaaDoor
open Go Go.ChangeShapes Go.WideShapes Go.ChangeAt Go.RowKit

theorem c4C : Tryd.prog.cellsOf 23 = 4 := by kernel_rfl
section
variable {H : Type} {enc : TypeId × Value → H} {w : World} {base : Nat} {spare : TypeId → Bool} {held : Bool}
theorem int_of {n : Nat} {v : Value} {y : DataW H × List MemPlace} (h : DataW.trod enc Tryd.prog w base spare held n 5 [v] = some y) :
    ∃ b : Nat, v = .int .u8 (b : Nat) ∧ y = (.lit (.int .u8 (b : Nat)), []) ∧ (Lit.int .u8 (b : Nat)).wf = true := by
  obtain ⟨m, hc, hy, hw⟩ := DataW.trod_int Tryd.underlying5 h
  obtain ⟨b, rfl⟩ := nat_of_u8 hw
  simp only [List.cons.injEq, and_true] at hc
  exact ⟨b, hc, hy, hw⟩
set_option maxRecDepth 100000 in
theorem open_con {r : Reach} {b0 : Nat} {v : Value} {d : DataW H} {p : List MemPlace} (hv : Value.okWide Tryd.prog w r b0 23 v) (h : DataW.Trod enc Tryd.prog w base spare held 23 v d p) :
    ∃ a b c e : Nat, v = .agg #[.int .u8 (a : Nat), .int .u8 (b : Nat), .int .u8 (c : Nat), .int .u8 (e : Nat)] ∧ d = .agg [.lit (.int .u8 (a : Nat)), .lit (.int .u8 (b : Nat)), .lit (.int .u8 (c : Nat)), .lit (.int .u8 (e : Nat))] ∧ p = [] ∧
      (Lit.int .u8 (a : Nat)).wf = true ∧ (Lit.int .u8 (b : Nat)).wf = true ∧ (Lit.int .u8 (c : Nat)).wf = true ∧ (Lit.int .u8 (e : Nat)).wf = true := by
  obtain ⟨v0, v1, v2, v3, y0, y1, y2, y3, n, rfl, rfl, rfl, t0, t1, t2, t3⟩ := Joins.open_agg4 Tryd.underlying23 (by kernel_rfl) c4C hv h
  obtain ⟨a, rfl, rfl, w0⟩ := int_of t0
  obtain ⟨b, rfl, rfl, w1⟩ := int_of t1
  obtain ⟨c, rfl, rfl, w2⟩ := int_of t2
  obtain ⟨e, rfl, rfl, w3⟩ := int_of t3
  exact ⟨a, b, c, e, rfl, rfl, rfl, w0, w1, w2, w3⟩
set_option maxRecDepth 100000 in
theorem shut_con {a b c e : Nat} (w0 : (Lit.int .u8 (a : Nat)).wf = true) (w1 : (Lit.int .u8 (b : Nat)).wf = true) (w2 : (Lit.int .u8 (c : Nat)).wf = true) (w3 : (Lit.int .u8 (e : Nat)).wf = true) :
    DataW.Trod enc Tryd.prog w base spare held 23 (.agg #[.int .u8 (a : Nat), .int .u8 (b : Nat), .int .u8 (c : Nat), .int .u8 (e : Nat)]) (.agg [.lit (.int .u8 (a : Nat)), .lit (.int .u8 (b : Nat)), .lit (.int .u8 (c : Nat)), .lit (.int .u8 (e : Nat))]) [] :=
  Joins.shut_agg4 (y0 := (.lit (.int .u8 (a : Nat)), [])) (y1 := (.lit (.int .u8 (b : Nat)), [])) (y2 := (.lit (.int .u8 (c : Nat)), [])) (y3 := (.lit (.int .u8 (e : Nat)), [])) Tryd.underlying23 (by kernel_rfl) c4C
    ⟨1, trod_int_mk 0 Tryd.underlying5 w0⟩ ⟨1, trod_int_mk 0 Tryd.underlying5 w1⟩ ⟨1, trod_int_mk 0 Tryd.underlying5 w2⟩ ⟨1, trod_int_mk 0 Tryd.underlying5 w3⟩
end
end Go.Proofs.YtgmofikhndlhcaaDoor
