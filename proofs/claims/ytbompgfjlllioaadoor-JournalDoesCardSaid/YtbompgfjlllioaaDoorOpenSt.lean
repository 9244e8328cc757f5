/- A slice of steps that came in. -/
import Derived.Test.YtbompgfjlllioaaDoorOpenS
import Derived.Test.YtbompgfjlllioaaDoorJStep3
import Derived.Deep.Slices
import Derived.Deep.Fields
import Derived.ChangeSame
import Derived.Lib.SmallJoins
namespace Go.Proofs.YtbompgfjlllioaaDoor
section
open Go.ChangeShapes Go.WideShapes Go.Deep
section
variable {H : Type} {enc : TypeId × Value → H} {P : Program} {w : World} {base : Nat} {spare : Nat → Bool} {held : Bool}
theorem open_slice_fields {t e : TypeId} {fs : Array Field} {fuel : Nat} {cs : List Value} {x : DataW H × List MemPlace} (ht : P.underlying t = some (.slice e)) (he : P.underlying e = some (.struct fs))
    (hone : oneCellFields P fs = true) (hC : P.cellsOf e = fs.size) (h : DataW.trod enc P w base spare held fuel t cs = some x) :
    (cs = [.slice none 0 0] ∧ x = (.nil, [])) ∨
    ∃ (a : Addr) (len cap m : Nat) (D : Nat → DataW H) (Pl : Nat → List MemPlace), cs = [.slice (some a) len cap] ∧ base ≤ a.block ∧ len ≤ cap ∧ cap ≤ maxLen ∧ m = (if spare a.block then cap else len) ∧
      x = (.slice ((List.range len).map D) ((List.range (m - len)).map fun j => D (len + j)), MemPlace.row a (m * fs.size) ++ (List.range m).flatMap Pl) ∧
      ∀ i, i < m → ∃ (ys : List (DataW H × List MemPlace)) (n : Nat), D i = .agg (ys.map (·.1)) ∧ Pl i = ys.flatMap (·.2) ∧ ys.length = fs.size ∧
        ∀ (j : Nat) (f : Field), fs[j]? = some f → ∃ (v : Value) (y : DataW H × List MemPlace), w.cell? (a.add (i * fs.size + j)) = some v ∧ ys[j]? = some y ∧ DataW.trod enc P w base spare held n f.type [v] = some y := by
  rcases open_slice ht h with h0 | ⟨a, len, cap, m, n, D, Pl, hcs, hb, hl, hm, hmm, hx, hi⟩
  · exact .inl h0
  · refine .inr ⟨a, len, cap, m, D, Pl, hcs, hb, hl, hm, hmm, by rw [hC] at hx; exact hx, fun i him => ?_⟩
    obtain ⟨cs', hc, ht'⟩ := hi i him
    rw [hC] at hc
    obtain ⟨ys, n', hn', hy, hlen, hyl, hf⟩ := DataW.trod_struct he ht'
    obtain ⟨_, hcl, hat⟩ := World.cells?_some hc
    simp only [Prod.mk.injEq] at hy
    refine ⟨ys, n', hy.1, hy.2, hyl, fun j f hj => ?_⟩
    obtain ⟨ho, hk⟩ := hone_of hone j f hj
    have hjl : j < fs.size := (Array.getElem?_eq_some_iff.1 hj).1
    have hcell := hat j hjl
    have hv : cs'[j]? = some (cs'[j]'(by omega)) := List.getElem?_eq_getElem (by omega)
    have h1 := hf j f hj
    rw [ho, hk] at h1
    have hone' : (cs'.drop j).take 1 = [cs'[j]'(by omega)] := by
      rw [List.drop_eq_getElem_cons (by omega)]
      rfl
    rw [hone'] at h1
    have hys : ys[j]? = some (ys[j]'(by omega)) := List.getElem?_eq_getElem (by omega)
    refine ⟨_, _, ?_, hys, h1.trans hys⟩
    rw [← Go.Deep.add_add, hcell, hv]
end
end
section
open Go Go.ChangeShapes Go.ChangeMaps Go.WideShapes Go.ChangeAt Go.WideMaps Go.WideElems Go.RowKit

theorem c3S : Tryd.prog.cellsOf 54 = 3 := by kernel_rfl
theorem list_of {α : Type} {Q : Nat → α → Prop} : ∀ (n : Nat), (∀ i, i < n → ∃ x, Q i x) → ∃ l : List α, l.length = n ∧ ∀ i x, l[i]? = some x → Q i x
  | 0, _ => ⟨[], rfl, fun i x h => by simp at h⟩
  | n + 1, h => by
    obtain ⟨l, hl, hQ⟩ := list_of n (fun i hi => h i (by omega))
    obtain ⟨x, hx⟩ := h n (by omega)
    refine ⟨l ++ [x], by simp [hl], fun i y hy => ?_⟩
    rcases Nat.lt_or_ge i l.length with hi | hi
    · rw [List.getElem?_append_left hi] at hy
      exact hQ i y hy
    · rw [List.getElem?_append_right hi] at hy
      obtain ⟨he, rfl⟩ : i - l.length = 0 ∧ x = y := by
        rcases hk : i - l.length with _ | k
        · rw [hk] at hy; exact ⟨rfl, by simpa using hy⟩
        · rw [hk] at hy; simp at hy
      have : i = n := by omega
      subst this
      exact hx
variable {H : Type} {enc : TypeId × Value → H} {w : World} {base b0 : Nat} {held : Bool}
set_option maxRecDepth 100000 in
theorem open_sv {v : Value} {d : DataW H} {p : List MemPlace} (hv : Value.okWide Tryd.prog w .any b0 52 v) (h : DataW.Trod enc Tryd.prog w base (fun _ => true) held 52 v d p) :
    ∃ l : List (UInt8 × ByteArray × Int), SV w v l ∧ ∀ s ∈ l, -9223372036854775808 ≤ s.2.2 ∧ s.2.2 ≤ 9223372036854775807 := by
  obtain ⟨fuel, hf⟩ := h
  obtain ⟨A, n, c, rfl⟩ := okWide_slice Tryd.underlying52 hv
  rcases open_slice_fields Tryd.underlying52 Tryd.underlying54 (by kernel_rfl) c3S hf with ⟨h0, _⟩ | ⟨a, len, cap, m, D, Pl, hcs, _, hl, _, hm, _, hi⟩
  · have h1 : A = none ∧ n = 0 ∧ c = 0 := by simpa [Value.cells] using h0
    obtain ⟨rfl, rfl, rfl⟩ := h1
    exact ⟨[], .none_, by simp⟩
  · have hcs' : A = some a ∧ n = len ∧ c = cap := by simpa [Value.cells] using hcs
    obtain ⟨rfl, rfl, rfl⟩ := hcs'
    have hok : w.has Tryd.prog .any b0 a 54 c := by
      simp only [Value.okWide, Tryd.underlying52, Cell.okWide, Cell.ok] at hv
      exact hv.2.2
    obtain ⟨_, hsp, row, cells, hshape, _⟩ := hok
    obtain ⟨b, off, sp⟩ := a
    obtain rfl : sp = none := hsp
    have hlt : b < w.heap.size := by
      simp only [World.shape?] at hshape
      rcases hh : w.heap[b]? with _ | o
      · rw [hh] at hshape; cases hshape
      · exact (Array.getElem?_eq_some_iff.1 hh).1
    simp only [ite_true] at hm
    obtain ⟨l, hlen, hls⟩ := list_of (Q := fun i (x : UInt8 × ByteArray × Int) => (-9223372036854775808 ≤ x.2.2 ∧ x.2.2 ≤ 9223372036854775807) ∧ w.cell? ⟨b, off + i * 3, none⟩ = some (.int .u8 (x.1.toNat : Int)) ∧ w.cell? ⟨b, off + i * 3 + 1, none⟩ = some (.string x.2.1) ∧ w.cell? ⟨b, off + i * 3 + 2, none⟩ = some (.int .i64 x.2.2)) n (fun i hin => by
      obtain ⟨ys, k, _, _, _, hf⟩ := hi i (by omega)
      obtain ⟨v0, y0, c0, _, t0⟩ := hf 0 _ rfl
      obtain ⟨v1, y1, c1, _, t1⟩ := hf 1 _ rfl
      obtain ⟨v2, y2, c2, _, t2⟩ := hf 2 _ rfl
      rw [add_at] at c0 c1 c2
      obtain ⟨x0, e0, _, w0⟩ := DataW.trod_int Tryd.underlying5 t0
      obtain ⟨x1, e1, _, w1⟩ := DataW.trod_string Tryd.underlying9 t1
      obtain ⟨x2, e2, _, w2⟩ := DataW.trod_int Tryd.underlying3 t2
      simp only [List.cons.injEq, and_true] at e0 e1 e2
      subst e0 e1 e2
      have hb := bounds_u8 w0
      have hb2 := bounds_i64 w2
      refine ⟨(UInt8.ofNat x0.toNat, x1, x2), ⟨by show -9223372036854775808 ≤ x2; omega, by show x2 ≤ 9223372036854775807; omega⟩, ?_, c1, c2⟩
      have hx : (((UInt8.ofNat x0.toNat).toNat : Nat) : Int) = x0 := by simp [UInt8.toNat_ofNat']; omega
      show _ = some (Value.int .u8 (((UInt8.ofNat x0.toNat).toNat : Nat) : Int))
      rw [hx]
      exact c0)
    subst hlen
    refine ⟨l, .some_ b off c l hlt (fun i s hs => (hls i s hs).2), fun s hs => ?_⟩
    obtain ⟨i, hi'⟩ := List.getElem?_of_mem hs
    exact (hls i s hi').1
end
end Go.Proofs.YtbompgfjlllioaaDoor
