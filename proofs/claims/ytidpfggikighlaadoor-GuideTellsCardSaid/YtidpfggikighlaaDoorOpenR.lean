/- Rows that came in. -/
import Derived.Test.YtidpfggikighlaaDoorFrame
import Derived.Test.YtidpfggikighlaaDoorGM
import Derived.Deep.Slices
import Derived.Deep.Fields
import Derived.ChangeSame
import Derived.Lib.SmallJoins
namespace Go.Proofs.YtidpfggikighlaaDoor
section
open Go.ChangeShapes Go.WideShapes Go.Deep
section
variable {H : Type} {enc : TypeId × Value → H} {P : Program} {w : World} {base : Nat} {spare : Nat → Bool} {held : Bool}
theorem open_slice_fields {t e : TypeId} {fs : Array Field} {fuel : Nat} {cs : List Value} {x : DataW H × List MemPlace} (ht : P.underlying t = some (.slice e)) (he : P.underlying e = some (.struct fs))
    (hone : oneCellFields P fs = true) (hC : P.cellsOf e = fs.size) (h : DataW.trod enc P w base spare held fuel t cs = some x) :
    (cs = [.slice none 0 0] ∧ x = (.nil, [])) ∨
    ∃ (a : Addr) (len cap m : Nat) (D : Nat → DataW H) (Pl : Nat → List MemPlace), cs = [.slice (some a) len cap] ∧ base ≤ a.block ∧ len ≤ cap ∧ cap ≤ maxLen ∧ m = (if spare a.block then cap else len) ∧
      x = (.slice ((List.range len).map D) ((List.range (m - len)).map fun j => D (len + j)), MemPlace.row a (m * fs.size) ++ (List.range m).flatMap Pl) ∧
      ∀ i, i < m → ∃ (ys : List (DataW H × List MemPlace)) (n : Nat), D i = .agg (ys.map (·.1)) ∧ Pl i = ys.flatMap (·.2) ∧ ys.length = fs.size ∧
        ∀ (j : Nat) (f : Field), fs[j]? = some f → ∃ (v : Value) (y : DataW H × List MemPlace), w.cell? (a.add (i * fs.size + j)) = some v ∧ ys[j]? = some y ∧ DataW.trod enc P w base spare held n f.type [v] = some y := by
  rcases open_slice ht h with h0 | ⟨a, len, cap, m, n, D, Pl, hcs, hb, hl, hm, hmm, hx, hi⟩
  · exact .inl h0
  · refine .inr ⟨a, len, cap, m, D, Pl, hcs, hb, hl, hm, hmm, by rw [hC] at hx; exact hx, fun i him => ?_⟩
    obtain ⟨cs', hc, ht'⟩ := hi i him
    rw [hC] at hc
    obtain ⟨ys, n', hn', hy, hlen, hyl, hf⟩ := DataW.trod_struct he ht'
    obtain ⟨_, hcl, hat⟩ := World.cells?_some hc
    simp only [Prod.mk.injEq] at hy
    refine ⟨ys, n', hy.1, hy.2, hyl, fun j f hj => ?_⟩
    obtain ⟨ho, hk⟩ := hone_of hone j f hj
    have hjl : j < fs.size := (Array.getElem?_eq_some_iff.1 hj).1
    have hcell := hat j hjl
    have hv : cs'[j]? = some (cs'[j]'(by omega)) := List.getElem?_eq_getElem (by omega)
    have h1 := hf j f hj
    rw [ho, hk] at h1
    have hone' : (cs'.drop j).take 1 = [cs'[j]'(by omega)] := by
      rw [List.drop_eq_getElem_cons (by omega)]
      rfl
    rw [hone'] at h1
    have hys : ys[j]? = some (ys[j]'(by omega)) := List.getElem?_eq_getElem (by omega)
    refine ⟨_, _, ?_, hys, h1.trans hys⟩
    rw [← Go.Deep.add_add, hcell, hv]
end
end
section
open Go Go.ChangeShapes Go.ChangeMaps Go.WideShapes Go.ChangeAt Go.WideMaps Go.WideElems Go.RowKit

theorem c5R : Tryd.prog.cellsOf 45 = 5 := by kernel_rfl
theorem list_of {α : Type} {Q : Nat → α → Prop} : ∀ (n : Nat), (∀ i, i < n → ∃ x, Q i x) → ∃ l : List α, l.length = n ∧ ∀ i x, l[i]? = some x → Q i x
  | 0, _ => ⟨[], rfl, fun i x h => by simp at h⟩
  | n + 1, h => by
    obtain ⟨l, hl, hQ⟩ := list_of n (fun i hi => h i (by omega))
    obtain ⟨x, hx⟩ := h n (by omega)
    refine ⟨l ++ [x], by simp [hl], fun i y hy => ?_⟩
    rcases Nat.lt_or_ge i l.length with hi | hi
    · rw [List.getElem?_append_left hi] at hy
      exact hQ i y hy
    · rw [List.getElem?_append_right hi] at hy
      obtain ⟨he, rfl⟩ : i - l.length = 0 ∧ x = y := by
        rcases hk : i - l.length with _ | k
        · rw [hk] at hy; exact ⟨rfl, by simpa using hy⟩
        · rw [hk] at hy; simp at hy
      have : i = n := by omega
      subst this
      exact hx
variable {H : Type} {enc : TypeId × Value → H} {w : World} {base b0 : Nat} {held : Bool}
set_option maxRecDepth 100000 in
theorem open_mr {v : Value} {d : DataW H} {p : List MemPlace} (hv : Value.okWide Tryd.prog w .any b0 22 v) (h : DataW.Trod enc Tryd.prog w base (fun _ => true) held 22 v d p) :
    ∃ l : List Rw, MR w v l ∧ ∀ r ∈ l, r.In := by
  obtain ⟨fuel, hf⟩ := h
  obtain ⟨A, n, c, rfl⟩ := okWide_slice Tryd.underlying22 hv
  rcases open_slice_fields Tryd.underlying22 Tryd.underlying45 (by kernel_rfl) c5R hf with ⟨h0, _⟩ | ⟨a, len, cap, m, D, Pl, hcs, _, hl, _, hm, _, hi⟩
  · have h1 : A = none ∧ n = 0 ∧ c = 0 := by simpa [Value.cells] using h0
    obtain ⟨rfl, rfl, rfl⟩ := h1
    exact ⟨[], .none_, by simp⟩
  · have hcs' : A = some a ∧ n = len ∧ c = cap := by simpa [Value.cells] using hcs
    obtain ⟨rfl, rfl, rfl⟩ := hcs'
    have hok : w.has Tryd.prog .any b0 a 45 c := by
      simp only [Value.okWide, Tryd.underlying22, Cell.okWide, Cell.ok] at hv
      exact hv.2.2
    obtain ⟨_, hsp, row, cells, hshape, _⟩ := hok
    obtain ⟨b, off, sp⟩ := a
    obtain rfl : sp = none := hsp
    have hlt : b < w.heap.size := by
      simp only [World.shape?] at hshape
      rcases hh : w.heap[b]? with _ | o
      · rw [hh] at hshape; cases hshape
      · exact (Array.getElem?_eq_some_iff.1 hh).1
    simp only [ite_true] at hm
    obtain ⟨l, hlen, hls⟩ := list_of (Q := fun i (x : Rw) => x.In ∧ w.cell? ⟨b, off + i * 5, none⟩ = some (.int .i64 x.rd) ∧ w.cell? ⟨b, off + i * 5 + 1, none⟩ = some (.int .i64 x.tb) ∧ w.cell? ⟨b, off + i * 5 + 2, none⟩ = some (.int .i64 x.ns) ∧ w.cell? ⟨b, off + i * 5 + 3, none⟩ = some (.int .i64 x.ew) ∧ w.cell? ⟨b, off + i * 5 + 4, none⟩ = some (.int .i64 x.st)) n (fun i hin => by
      obtain ⟨ys, k, _, _, _, hf⟩ := hi i (by omega)
      obtain ⟨v0, y0, c0, _, t0⟩ := hf 0 _ rfl
      obtain ⟨v1, y1, c1, _, t1⟩ := hf 1 _ rfl
      obtain ⟨v2, y2, c2, _, t2⟩ := hf 2 _ rfl
      obtain ⟨v3, y3, c3, _, t3⟩ := hf 3 _ rfl
      obtain ⟨v4, y4, c4, _, t4⟩ := hf 4 _ rfl
      rw [add_at] at c0 c1 c2 c3 c4
      obtain ⟨x0, e0, _, w0⟩ := DataW.trod_int Tryd.underlying3 t0
      obtain ⟨x1, e1, _, w1⟩ := DataW.trod_int Tryd.underlying3 t1
      obtain ⟨x2, e2, _, w2⟩ := DataW.trod_int Tryd.underlying3 t2
      obtain ⟨x3, e3, _, w3⟩ := DataW.trod_int Tryd.underlying3 t3
      obtain ⟨x4, e4, _, w4⟩ := DataW.trod_int Tryd.underlying3 t4
      simp only [List.cons.injEq, and_true] at e0 e1 e2 e3 e4
      subst e0 e1 e2 e3 e4
      have hb0 := bounds_i64 w0
      have hb1 := bounds_i64 w1
      have hb2 := bounds_i64 w2
      have hb3 := bounds_i64 w3
      have hb4 := bounds_i64 w4
      refine ⟨⟨x0, x1, x2, x3, x4⟩, ⟨⟨by simp only []; omega, by simp only []; omega⟩, ⟨by simp only []; omega, by simp only []; omega⟩, ⟨by simp only []; omega, by simp only []; omega⟩, ⟨by simp only []; omega, by simp only []; omega⟩, ⟨by simp only []; omega, by simp only []; omega⟩⟩, c0, c1, c2, c3, c4⟩)
    subst hlen
    refine ⟨l, .some_ b off c l hlt (fun i s hs => (hls i s hs).2), fun s hs => ?_⟩
    obtain ⟨i, hi'⟩ := List.getElem?_of_mem hs
    exact (hls i s hi').1
end
end Go.Proofs.YtidpfggikighlaaDoor
