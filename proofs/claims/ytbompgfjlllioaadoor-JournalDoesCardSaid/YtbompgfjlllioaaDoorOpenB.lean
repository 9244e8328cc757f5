/- A slice of bytes that came in. -/
import Derived.Test.YtbompgfjlllioaaDoorJScan2
import Derived.Test.YtbompgfjlllioaaDoorFrame
import Derived.ChangeSlices
namespace Go.Proofs.YtbompgfjlllioaaDoor
open Go Go.ChangeShapes Go.ChangeMaps Go.WideShapes Go.ChangeAt Go.WideMaps Go.WideElems Go.RowKit

section
variable {H : Type} {enc : TypeId × Value → H} {w : World} {base b0 : Nat} {held : Bool}
set_option maxRecDepth 100000 in
theorem open_bv {v : Value} {d : DataW H} {p : List MemPlace} (hv : Value.okWide Tryd.prog w .any b0 26 v) (h : DataW.Trod enc Tryd.prog w base (fun _ => true) held 26 v d p) : ∃ bs, BV w v bs := by
  obtain ⟨fuel, hf⟩ := h
  obtain ⟨A, n, c, rfl⟩ := okWide_slice Tryd.underlying26 hv
  rcases open_ints Tryd.underlying26 Tryd.underlying5 (by kernel_rfl) hf with ⟨h0, _⟩ | ⟨a, len, cap, zs, hcs, _, hl, _, hzl, _, hz, hw⟩
  · have h1 : A = none ∧ n = 0 ∧ c = 0 := by simpa [Value.cells] using h0
    obtain ⟨rfl, rfl, rfl⟩ := h1
    exact ⟨[], .none_⟩
  · have hcs' : A = some a ∧ n = len ∧ c = cap := by simpa [Value.cells] using hcs
    obtain ⟨rfl, rfl, rfl⟩ := hcs'
    have hok : w.has Tryd.prog .any b0 a 5 c := by
      simp only [Value.okWide, Tryd.underlying26, Cell.okWide, Cell.ok] at hv
      exact hv.2.2
    obtain ⟨_, hsp, _⟩ := hok
    obtain ⟨b, off, sp⟩ := a
    obtain rfl : sp = none := hsp
    simp only [ite_true] at hzl
    obtain ⟨bs, hbs⟩ : ∃ bs : List UInt8, (zs.take n).map (fun z => UInt8.ofNat z.toNat) = bs := ⟨_, rfl⟩
    have hlen : bs.length = n := by rw [← hbs]; simp; omega
    refine ⟨bs, ?_⟩
    have := BV.some_ (W := w) b off c bs (by omega) (fun i x hi => ?_)
    · rw [hlen] at this; exact this
    · have hin : i < n := by rw [← hlen]; exact (List.getElem?_eq_some_iff.1 hi).1
      have hc := hz i (by omega)
      rw [add_at] at hc
      rw [hc]
      rw [← hbs, List.getElem?_map, List.getElem?_take, if_pos hin] at hi
      have hg : zs[i]? = some (zs[i]'(by omega)) := List.getElem?_eq_getElem (by omega)
      rw [hg] at hi
      have hx : UInt8.ofNat (zs[i]'(by omega)).toNat = x := by simpa using hi
      have hb := bounds_u8 (hw _ (List.getElem_mem (by omega : i < zs.length)))
      rw [List.getD_eq_getElem?_getD, hg]
      show some (Value.int .u8 (zs[i]'(by omega))) = _
      rw [← hx]
      congr 2
      simp [UInt8.toNat_ofNat']
      omega
end
end Go.Proofs.YtbompgfjlllioaaDoor
