/- What lies in memory while entries are collected out of ranges over a function: the row, boxes of numbers, the marks of the loops. -/
import Derived.Test.YtpkmibmombpjpaaGreatDoorEY
import Derived.Test.YtpkmibmombpjpaaGreatDoorRangeC
set_option linter.unusedSimpArgs false
namespace Go.Proofs.YtpkmibmombpjpaaGreatDoor
open Go Go.RowKit Go.Shelf

/-- The row u of the entries c, boxes of numbers, the blocks of marks. -/
structure CW (w W : World) (bx : List (Nat × Int)) (u : Value) (c : List En) (ds : List Nat) : Prop where
  own : W.ownsRow w.heap.size 34 33 u c.length (flat enC c)
  below : Below w.heap.size w W
  box : ∀ b x, (b, x) ∈ bx → w.heap.size ≤ b ∧ Blk W b 3 #[.int .i64 x]
  marks : ∀ D ∈ ds, w.heap.size ≤ D ∧ W.heap[D]? = some (.deferred (some []))
section
variable {w W W' : World} {bx : List (Nat × Int)} {u : Value} {c : List En} {ds : List Nat}
theorem CW.start (w : World) : CW w w [] (.slice none 0 0) [] [] :=
  ⟨World.ownsRow_nil _ _ _ _, Below.refl _ _, fun _ _ h => (by cases h), fun _ h => (by cases h)⟩
theorem CW.keep (h : CW w W bx u c ds) (hb : Below W.heap.size W W') : CW w W' bx u c ds :=
  ⟨own_keep h.own hb, h.below.trans (hb.mono h.below.size), fun b x hx => ⟨(h.box b x hx).1, (h.box b x hx).2.keep hb (h.box b x hx).2.lt⟩,
    fun D hD => ⟨(h.marks D hD).1, (hb.block D (Array.getElem?_eq_some_iff.1 (h.marks D hD).2).1).trans (h.marks D hD).2⟩⟩
theorem CW.alloc (h : CW w W bx u c ds) (o : Obj) : CW w (W.alloc o) bx u c ds := h.keep (below1 W o)
theorem CW.drew (h : CW w W bx u c ds) : CW w W.drew bx u c ds := h.keep (Below.refl _ _).drew
/-- One box more. -/
theorem CW.more {b : Nat} {x : Int} (h : CW w W bx u c ds) (hb : w.heap.size ≤ b) (hx : Blk W b 3 #[.int .i64 x]) : CW w W ((b, x) :: bx) u c ds :=
  ⟨h.own, h.below, fun b' x' hx' => by
    rcases List.mem_cons.1 hx' with e | hm
    · cases e; exact ⟨hb, hx⟩
    · exact h.box b' x' hm, h.marks⟩
theorem CW.less {bx' : List (Nat × Int)} (h : CW w W bx u c ds) (hs : ∀ t ∈ bx', t ∈ bx) : CW w W bx' u c ds :=
  ⟨h.own, h.below, fun b x hx => h.box b x (hs _ hx), h.marks⟩
/-- A store into a box. -/
theorem CW.set {b : Nat} {x : Int} (h : CW w W bx u c ds) (hb : (b, x) ∈ bx) (y : Int) (bx' : List (Nat × Int)) (hs : ∀ t ∈ bx', (t = (b, y)) ∨ (t.1 ≠ b ∧ t ∈ bx)) : CW w (W.setCell ⟨b, 0, none⟩ (.int .i64 y)) bx' u c ds := by
  obtain ⟨h1, h2⟩ := h.box b x hb
  have hbx : Boxed W b 3 (.int .i64 x) := h2
  refine ⟨h.own.kept (grownBy_setCell' W b _) (.inr (hbx.not_row (by decide) h.own).symm), h.below.setCell (p := ⟨b, 0, none⟩) h1 _, fun b' x' hx' => ?_, fun D hD => ?_⟩
  · rcases hs _ hx' with e | ⟨hne, hm⟩
    · cases e
      exact ⟨h1, h2.set 0 _⟩
    · exact ⟨(h.box b' x' hm).1, (h.box b' x' hm).2.other hne 0 _⟩
  · obtain ⟨h3, h4⟩ := h.marks D hD
    refine ⟨h3, ?_⟩
    rw [Below.heap_setCell _ _ _ _ (fun e => ?_)]
    · exact h4
    · have e : D = b := e
      subst e
      rw [show W.heap[D]? = _ from h2] at h4
      cases h4
/-- A turn of a block that is no cells and that is new. -/
theorem CW.turn {row : Option Nat} {B0 : Nat} (h : CW w W bx u c ds) (hB0 : w.heap.size ≤ B0) (hds : ∀ D ∈ ds, D < B0) (hg : W.grownBy W' row) (hrow : ∀ r, row = some r → B0 ≤ r ∧ ∃ o : Obj, W.heap[r]? = some o ∧ o.isCells = false) : CW w W' bx u c ds := by
  refine ⟨h.own.kept hg ?_, h.below.grown hg h.below.size (fun k e => by have := (hrow k e).1; omega), fun b x hx => ⟨(h.box b x hx).1, ?_⟩, fun D hD => ⟨(h.marks D hD).1, ?_⟩⟩
  · rcases h.own.2 with ⟨rfl, _⟩ | ⟨g, cap, cur, rfl, _, hgb, _⟩
    · exact .inl rfl
    · refine .inr fun e' => ?_
      obtain ⟨_, o, ho, hc⟩ := hrow g (by simpa [Value.ownBlock] using e'.symm)
      rw [hgb] at ho; cases ho; cases hc
  · have h2 : Boxed W b 3 (.int .i64 x) := (h.box b x hx).2
    exact h2.kept hg (fun e' => by
      obtain ⟨_, o, ho, hc⟩ := hrow b e'.symm
      rw [show W.heap[b]? = _ from h2] at ho; cases ho; cases hc)
  · have h2 := (h.marks D hD).2
    exact (hg.block D (Array.getElem?_eq_some_iff.1 h2).1 (fun e' => by have := (hrow D e'.symm).1; have := hds D hD; omega)).trans h2
/-- An append to the row. -/
theorem CW.app {u' : Value} {c' : List En} (h : CW w W bx u c ds) (hg : W.grownBy W' u.ownBlock) (hb : Below w.heap.size W W') (ho : W'.ownsRow w.heap.size 34 33 u' c'.length (flat enC c')) : CW w W' bx u' c' ds := by
  refine ⟨ho, h.below.trans hb, fun b x hx => ⟨(h.box b x hx).1, ?_⟩, fun D hD => ⟨(h.marks D hD).1, ?_⟩⟩
  · have h2 : Boxed W b 3 (.int .i64 x) := (h.box b x hx).2
    exact h2.kept hg (h2.not_row (by decide) h.own)
  · have h2 := (h.marks D hD).2
    refine (hg.block D (Array.getElem?_eq_some_iff.1 h2).1 (fun e' => ?_)).trans h2
    rcases h.own.2 with ⟨rfl, _⟩ | ⟨g, cap, cur, rfl, _, hgb, _⟩
    · cases e'
    · obtain rfl : D = g := by simpa [Value.ownBlock] using e'
      rw [hgb] at h2; cases h2
/-- One mark more. -/
theorem CW.mark {D : Nat} (h : CW w W bx u c ds) (hD : w.heap.size ≤ D) (hm : W.heap[D]? = some (.deferred (some []))) : CW w W bx u c (D :: ds) :=
  ⟨h.own, h.below, h.box, fun E hE => by
    rcases List.mem_cons.1 hE with rfl | hE
    · exact ⟨hD, hm⟩
    · exact h.marks E hE⟩
end
def mkD (D : Nat) : Deferred := { target := .collected D, args := #[] }
/-- The end of a function whose loops have laid marks. -/
theorem leave_marks {F : Fence} {n : Nat} {P : Program} {fn : Func} {T : Array Value} {R : Ending → World → Prop} (Inv : World → Prop)
    (hR : ∀ W, Inv W → LeavesIn F n P fn T R [] .returning W) : ∀ (ds : List Nat) (W : World), ds.Nodup → (∀ D ∈ ds, ∀ W, Inv W → W.heap[D]? = some (.deferred (some [])) → Inv (W.putObj D (.deferred none))) → Inv W → (∀ D ∈ ds, W.heap[D]? = some (.deferred (some []))) → LeavesInM F n P fn T R (ds.map mkD) .returning W
  | [], W, _, _, h, _ => hR W h
  | D :: ds, W, hn, hs, h, hm => by
    have hD := hm D (by simp)
    refine ⟨by simp, .inl ⟨D, _, rfl, run_takeDeferred hD, ?_⟩⟩
    have hn2 := List.nodup_cons.1 hn
    refine leave_marks Inv hR ds _ hn2.2 (fun E hE => hs E (by simp [hE])) (hs D (by simp) W h hD) (fun E hE => ?_)
    exact (World.putObj_heap_other (fun e => hn2.1 (by subst e; exact hE))).trans (hm E (by simp [hE]))
end Go.Proofs.YtpkmibmombpjpaaGreatDoor
