/- A slice of strings that came in; numbers of 16 bits. -/
import Derived.Test.YtbompgfjlllioaaDoorJTexts
import Derived.Test.YtbompgfjlllioaaDoorOpenB
import Derived.SliceStrings
namespace Go.Proofs.YtbompgfjlllioaaDoor
open Go Go.ChangeShapes Go.ChangeMaps Go.WideShapes Go.ChangeAt Go.WideMaps Go.WideElems Go.RowKit

theorem nat_of_u16 {n : Int} (h : (Lit.int .u16 n).wf = true) : ∃ b : Nat, n = (b : Int) := by
  have := bounds_u16 h
  exact ⟨n.toNat, by omega⟩
theorem u16_lt {b : Nat} (h : (Lit.int .u16 (b : Int)).wf = true) : b < 65536 := by
  have := bounds_u16 h
  omega
section
variable {H : Type} {enc : TypeId × Value → H} {w : World} {base b0 : Nat} {held : Bool}
set_option maxRecDepth 100000 in
theorem open_rs {v : Value} {d : DataW H} {p : List MemPlace} (hv : Value.okWide Tryd.prog w .any b0 22 v) (h : DataW.Trod enc Tryd.prog w base (fun _ => true) held 22 v d p) :
    ∃ (A : Option Addr) (cap : Nat) (l : List (List UInt8)), v = .slice A l.length cap ∧ l.length ≤ cap ∧ RS w v l := by
  obtain ⟨fuel, hf⟩ := h
  obtain ⟨A, n, c, rfl⟩ := okWide_slice Tryd.underlying22 hv
  rcases open_strings Tryd.underlying22 Tryd.underlying9 (by kernel_rfl) hf with ⟨h0, _⟩ | ⟨a, len, cap, ss, hcs, _, hl, _, hzl, _, hz, _⟩
  · have h1 : A = none ∧ n = 0 ∧ c = 0 := by simpa [Value.cells] using h0
    obtain ⟨rfl, rfl, rfl⟩ := h1
    exact ⟨none, 0, [], rfl, Nat.le_refl _, .none_⟩
  · have hcs' : A = some a ∧ n = len ∧ c = cap := by simpa [Value.cells] using hcs
    obtain ⟨rfl, rfl, rfl⟩ := hcs'
    have hok : w.has Tryd.prog .any b0 a 9 c := by
      simp only [Value.okWide, Tryd.underlying22, Cell.okWide, Cell.ok] at hv
      exact hv.2.2
    obtain ⟨_, hsp, row, cells, hsh, _⟩ := hok
    obtain ⟨b, off, sp⟩ := a
    obtain rfl : sp = none := hsp
    simp only [ite_true] at hzl
    obtain ⟨l, hbs⟩ : ∃ l : List (List UInt8), (ss.take n).map (fun z => z.data.toList) = l := ⟨_, rfl⟩
    have hlen : l.length = n := by rw [← hbs]; simp; omega
    refine ⟨some ⟨b, off, none⟩, c, l, by rw [hlen], by omega, ?_⟩
    have hblt : b < w.heap.size := by
      rcases Nat.lt_or_ge b w.heap.size with h1 | h1
      · exact h1
      · simp [World.shape?, Array.getElem?_eq_none h1] at hsh
    have := RS.some_ (W := w) b off c l hblt (fun i x hi => ?_)
    · rw [hlen] at this; exact this
    · have hin : i < n := by rw [← hlen]; exact (List.getElem?_eq_some_iff.1 hi).1
      have hc := hz i (by omega)
      rw [add_at] at hc
      rw [hc]
      rw [← hbs, List.getElem?_map, List.getElem?_take, if_pos hin] at hi
      have hg : ss[i]? = some (ss[i]'(by omega)) := List.getElem?_eq_getElem (by omega)
      rw [hg] at hi
      have hx : (ss[i]'(by omega)).data.toList = x := by simpa using hi
      rw [List.getD_eq_getElem?_getD, hg]
      exact congrArg some (str_val x _ hx).symm
end
end Go.Proofs.YtbompgfjlllioaaDoor
