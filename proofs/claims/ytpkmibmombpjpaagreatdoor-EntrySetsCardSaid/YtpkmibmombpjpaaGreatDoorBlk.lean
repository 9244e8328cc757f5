/- A block known whole: its cells, stores into it, what leaves it alone. No program. -/
import Derived.WalkKit
import Derived.Deep.Draws
import Derived.Below
import Derived.OneCell
namespace Go.Proofs.YtpkmibmombpjpaaGreatDoor
open Go Go.RowKit

/-- Block b has the cells c, and none of them is frozen. -/
def Blk (w : World) (b : Nat) (t : TypeId) (c : Array Value) : Prop := w.heap[b]? = some (.cells c t (0, 0))
theorem Blk.lt {w : World} {b : Nat} {t : TypeId} {c : Array Value} (h : Blk w b t c) : b < w.heap.size := lt_of_block h
theorem Blk.cell {w : World} {b : Nat} {t : TypeId} {c : Array Value} (h : Blk w b t c) {j : Nat} {v : Value} (hj : c[j]? = some v) : w.cell? ⟨b, j, none⟩ = some v := by
  have h' : w.heap[b]? = some (.cells c t (0, 0)) := h
  simp [World.cell?, h', hj]
theorem Blk.free {w : World} {b : Nat} {t : TypeId} {c : Array Value} (h : Blk w b t c) (j : Nat) : w.frozen? ⟨b, j, none⟩ = false := by
  have h' : w.heap[b]? = some (.cells c t (0, 0)) := h
  simp [World.frozen?, h']
theorem Blk.set {w : World} {b : Nat} {t : TypeId} {c : Array Value} (h : Blk w b t c) (j : Nat) (u : Value) : Blk (w.setCell ⟨b, j, none⟩ u) b t (c.setIfInBounds j u) := by
  have hlt := h.lt
  have h' : w.heap[b] = .cells c t (0, 0) := by simpa [Array.getElem?_eq_getElem hlt] using (show w.heap[b]? = _ from h)
  show (w.heap.modify b _)[b]? = _
  rw [Array.getElem?_eq_getElem (by simpa using hlt), Array.getElem_modify_self, h']
  rfl
theorem Blk.other {w : World} {b b' : Nat} {t : TypeId} {c : Array Value} (h : Blk w b t c) (hb : b ≠ b') (j : Nat) (u : Value) : Blk (w.setCell ⟨b', j, none⟩ u) b t c := by
  unfold Blk
  rw [Below.heap_setCell _ _ _ _ hb]
  exact h
theorem Blk.alloc {w : World} {b : Nat} {t : TypeId} {c : Array Value} (h : Blk w b t c) (o : Obj) : Blk (w.alloc o) b t c := by
  unfold Blk
  rw [Below.heap_alloc _ _ _ h.lt]
  exact h
theorem Blk.drewN {w : World} {b : Nat} {t : TypeId} {c : Array Value} (h : Blk w b t c) (n : Nat) : Blk (w.drewN n) b t c := h
theorem Blk.new (w : World) (t : TypeId) (c : Array Value) : Blk (w.alloc (.cells c t)) w.heap.size t c := by
  show (w.heap.push _)[w.heap.size]? = _
  simp
theorem Blk.keep {w w' : World} {B b : Nat} {t : TypeId} {c : Array Value} (h : Blk w b t c) (hb : Below B w w') (hl : b < B) : Blk w' b t c := (hb.block b hl).trans h
end Go.Proofs.YtpkmibmombpjpaaGreatDoor
