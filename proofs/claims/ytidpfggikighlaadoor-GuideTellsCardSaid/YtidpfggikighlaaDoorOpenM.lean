/- A movement that came in. -/
import Derived.Test.YtidpfggikighlaaDoorOpenR
namespace Go.Proofs.YtidpfggikighlaaDoor
open Go Go.ChangeShapes Go.ChangeMaps Go.WideShapes Go.ChangeAt Go.WideMaps Go.WideElems Go.RowKit

theorem c6M : Tryd.prog.cellsOf 24 = 6 := by kernel_rfl
theorem array6 {α : Type} {a : Array α} (h : a.size = 6) : ∃ x0 x1 x2 x3 x4 x5, a = #[x0, x1, x2, x3, x4, x5] := by
  obtain ⟨l⟩ := a
  match l, h with
  | [x0, x1, x2, x3, x4, x5], _ => exact ⟨x0, x1, x2, x3, x4, x5, rfl⟩
variable {H : Type} {enc : TypeId × Value → H} {w : World} {base b0 : Nat} {held : Bool}
set_option maxRecDepth 100000 in
theorem open_mv {v : Value} {d : DataW H} {p : List MemPlace} (hv : Value.okWide Tryd.prog w .any b0 24 v) (h : DataW.Trod enc Tryd.prog w base (fun _ => true) held 24 v d p) :
    ∃ (m : Mv) (rv : Value), v = mvV m rv ∧ MV w m rv := by
  have hv' := hv
  simp only [Value.okWide, Tryd.underlying24] at hv'
  obtain ⟨cs, rfl, hsz, hrow⟩ := hv'
  obtain ⟨c0, c1, c2, c3, c4, c5, rfl⟩ := array6 (hsz.trans c6M)
  obtain ⟨fuel, hf⟩ := h
  obtain ⟨xs, n, _, _, _, hlen, hat⟩ := DataW.trod_struct Tryd.underlying24 hf
  have hx : ∀ i, i < 6 → ∃ y, xs[i]? = some y := fun i hi => ⟨_, List.getElem?_eq_getElem (by rw [hlen]; exact hi)⟩
  obtain ⟨y0, z0⟩ := hx 0 (by omega)
  obtain ⟨y1, z1⟩ := hx 1 (by omega)
  obtain ⟨y2, z2⟩ := hx 2 (by omega)
  obtain ⟨y3, z3⟩ := hx 3 (by omega)
  obtain ⟨y4, z4⟩ := hx 4 (by omega)
  obtain ⟨y5, z5⟩ := hx 5 (by omega)
  have t0 : DataW.trod enc Tryd.prog w base (fun _ => true) held n 3 [c0] = some y0 := (hat 0 _ rfl).trans z0
  have t1 : DataW.trod enc Tryd.prog w base (fun _ => true) held n 3 [c1] = some y1 := (hat 1 _ rfl).trans z1
  have t2 : DataW.trod enc Tryd.prog w base (fun _ => true) held n 3 [c2] = some y2 := (hat 2 _ rfl).trans z2
  have t3 : DataW.trod enc Tryd.prog w base (fun _ => true) held n 3 [c3] = some y3 := (hat 3 _ rfl).trans z3
  have t4 : DataW.trod enc Tryd.prog w base (fun _ => true) held n 3 [c4] = some y4 := (hat 4 _ rfl).trans z4
  have t5 : DataW.trod enc Tryd.prog w base (fun _ => true) held n 22 [c5] = some y5 := (hat 5 _ rfl).trans z5
  obtain ⟨a0, e0, _, w0⟩ := DataW.trod_int Tryd.underlying3 t0
  obtain ⟨a1, e1, _, w1⟩ := DataW.trod_int Tryd.underlying3 t1
  obtain ⟨a2, e2, _, w2⟩ := DataW.trod_int Tryd.underlying3 t2
  obtain ⟨a3, e3, _, w3⟩ := DataW.trod_int Tryd.underlying3 t3
  obtain ⟨a4, e4, _, w4⟩ := DataW.trod_int Tryd.underlying3 t4
  simp only [List.cons.injEq, and_true] at e0 e1 e2 e3 e4
  subst e0 e1 e2 e3 e4
  have hb0 := bounds_i64 w0
  have hb1 := bounds_i64 w1
  have hb2 := bounds_i64 w2
  have hb3 := bounds_i64 w3
  have hb4 := bounds_i64 w4
  have hc5 : Value.okWide Tryd.prog w .any b0 22 c5 := by
    obtain ⟨ts, hts, _, hf5⟩ := hrow
    have hts2 : Tryd.prog.cellTypes Tryd.prog.depth 24 = some [3, 3, 3, 3, 3, 22] := by kernel_rfl
    obtain rfl := Option.some.inj (hts.symm.trans hts2)
    obtain ⟨u, hu, h5⟩ := hf5 5 c5 rfl
    obtain rfl : 22 = u := Option.some.inj hu
    simpa only [Value.okWide, Tryd.underlying22] using h5
  have hcl : c5.cells.toList = [c5] := by
    simp only [Value.okWide, Tryd.underlying22] at hc5
    obtain ⟨A, k, c, rfl⟩ := okWide_slice (P := Tryd.prog) (w := w) (r := .any) (base := b0) (t := 22) Tryd.underlying22 (by simpa only [Value.okWide, Tryd.underlying22] using hc5)
    rfl
  obtain ⟨l, hl, hin⟩ := open_mr hc5 ⟨n, by rw [hcl]; exact t5⟩
  exact ⟨⟨a0, a1, a2, a3, a4, l⟩, c5, rfl, ⟨hl, ⟨by simp only []; omega, by simp only []; omega⟩, ⟨by simp only []; omega, by simp only []; omega⟩, ⟨by simp only []; omega, by simp only []; omega⟩, ⟨by simp only []; omega, by simp only []; omega⟩, ⟨by simp only []; omega, by simp only []; omega⟩, hin⟩⟩
end Go.Proofs.YtidpfggikighlaaDoor
