/- Small lemmas on worlds that the walks use again and again: new blocks, draws, stores. No program. -/
import Derived.WalkKit
import Derived.Deep.Draws
import Derived.Handy
import Derived.WalkSmall
namespace Go.Proofs.YtpkmibmombpjpaaGreatDoor
open Go Go.RowKit

theorem keepA {w : World} {a : Addr} {v : Value} (o : Obj) (h : w.cell? a = some v) : (w.alloc o).cell? a = some v :=
  (World.cell?_alloc_lt _ _ _ (World.block_lt_of_cell? w a h)).trans h
theorem keepD {w : World} {a : Addr} {v : Value} (n : Nat) (h : w.cell? a = some v) : (w.drewN n).cell? a = some v := h
theorem keepB {B : Nat} {w w' : World} {a : Addr} {v : Value} (hb : Below B w w') (ha : a.block < B) (h : w.cell? a = some v) : w'.cell? a = some v := (hb.cell ha).trans h
theorem keepW {w w' : World} {a : Addr} {v : Value} (hb : Below w.heap.size w w') (h : w.cell? a = some v) : w'.cell? a = some v := (hb.cell (World.block_lt_of_cell? w a h)).trans h
@[go_sem] theorem setCell_drewN (w : World) (n : Nat) (a : Addr) (v : Value) : (w.drewN n).setCell a v = (w.setCell a v).drewN n := rfl
@[go_sem] theorem alloc_drewN (w : World) (n : Nat) (o : Obj) : (w.drewN n).alloc o = (w.alloc o).drewN n := rfl
theorem set_new (w : World) (b : Nat) (v u : Value) (t : TypeId) (n m : Nat) (hb : b = w.heap.size) :
    ((((w.alloc (.cells #[v] t)).drewN n).setCell ⟨b, 0, none⟩ u).drewN m) = (w.alloc (.cells #[u] t)).drewN (n + m) := by
  rw [setCell_drewN, World.drewN_drewN, World.setCell_alloc_at _ _ _ _ _ hb]; rfl
theorem below_pure {w w' : World} (h : w = w') : Below w.heap.size w w' := h ▸ Below.refl _ _
theorem below_draws {w w' : World} (h : ∃ n, w' = w.drewN n) : Below w.heap.size w w' := by
  obtain ⟨n, rfl⟩ := h; exact below_drewN (Below.refl _ _) n
theorem bchain {a b c : World} (h : Below a.heap.size a b) (k : Below b.heap.size b c) : Below a.heap.size a c := h.trans (k.mono h.size)
end Go.Proofs.YtpkmibmombpjpaaGreatDoor
