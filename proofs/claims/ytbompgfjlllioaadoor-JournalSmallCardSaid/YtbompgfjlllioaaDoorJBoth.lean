/- The program's disk and log beside the reference's: they lie apart. -/
import Derived.Test.YtbompgfjlllioaaDoorJOpenAt
import Derived.Test.YtbompgfjlllioaaDoorJRApp
namespace Go.Proofs.YtbompgfjlllioaaDoor
open Go Go.RowKit

theorem row_lt {w : World} {B e size n : Nat} {v : Value} {xs : List Value} (h : w.ownsRow B e size v n xs) (x : Nat) (hx : v.ownBlock = some x) : x < w.heap.size := by
  rcases h.2 with ⟨rfl, _⟩ | ⟨g, cap, cur, rfl, _, hg, _⟩
  · simp [Value.ownBlock] at hx
  · obtain rfl : g = x := by simpa [Value.ownBlock] using hx
    exact (Array.getElem?_eq_some_iff.1 hg).1
theorem DV.lt {w : World} {B : Nat} {v : Value} {l : List UInt8} (h : DV w B v l) (x : Nat) (hx : v.ownBlock = some x) : x < w.heap.size := by
  cases h with
  | none_ => simp [Value.ownBlock] at hx
  | some_ g cap l cur hcap hB hg hc =>
    obtain rfl : g = x := by simpa [Value.ownBlock] using hx
    exact (Array.getElem?_eq_some_iff.1 hg).1
/-- The program's blocks: with a log, or the disk alone. -/
def PLg (lp dp : Nat) (rv bv dv : Value) : List Nat := OL lp dp rv bv ++ dv.ownBlock.toList
def PLd (dp : Nat) (dv : Value) : List Nat := dp :: dv.ownBlock.toList
section
variable {w w' : World} {B lp dp : Nat} {bs : List UInt8} {pow : Int} {recs : List (List UInt8)} {last size : Int} {closed : Bool} {dv rv bv : Value}
theorem LG.lt (h : LG w B lp dp bs pow recs last size closed dv rv bv) : ∀ x ∈ PLg lp dp rv bv dv, x < w.heap.size := by
  intro x hx
  simp only [PLg, OL, List.mem_cons, List.mem_append, Option.mem_toList] at hx
  rcases hx with (rfl | rfl | hx | hx) | hx
  · exact h.log.lt
  · exact h.disk.lt
  · exact row_lt h.rows x hx
  · obtain ⟨n2, xs, hb⟩ := h.buf; exact row_lt hb x hx
  · exact h.bytes.lt x hx
/-- A log when other blocks have changed. -/
theorem LG.fr (h : LG w B lp dp bs pow recs last size closed dv rv bv) {P : List Nat} (hf : Fr P w w') (hn : ∀ x ∈ PLg lp dp rv bv dv, x ∉ P) : LG w' B lp dp bs pow recs last size closed dv rv bv := by
  have hn' : ∀ x, x ∈ PLg lp dp rv bv dv → x ∉ P := hn
  refine ⟨hf.blk h.disk (hn' _ (by simp [PLg, OL])), hf.blk h.log (hn' _ (by simp [PLg, OL])), h.bytes.fr hf (fun x hx => hn' _ (by simp [PLg, hx])), own_fr h.rows hf (fun x hx => hn' _ (by simp [PLg, OL, hx])), ?_, h.bl, h.bd⟩
  obtain ⟨n2, xs, hb⟩ := h.buf
  exact ⟨n2, xs, own_fr hb hf (fun x hx => hn' _ (by simp [PLg, OL, hx]))⟩
end
/-- A disk of the program's without a log. -/
structure DN (w : World) (B dp : Nat) (dv : Value) (pow : Int) (bs : List UInt8) : Prop where
  disk : PD w dp dv pow
  bytes : DV w B dv bs
  bd : B ≤ dp
theorem DN.lt {w : World} {B dp : Nat} {dv : Value} {pow : Int} {bs : List UInt8} (h : DN w B dp dv pow bs) : ∀ x ∈ PLd dp dv, x < w.heap.size := by
  intro x hx
  simp only [PLd, List.mem_cons, Option.mem_toList] at hx
  rcases hx with rfl | hx
  · exact h.disk.lt
  · exact h.bytes.lt x hx
theorem DN.fr {w w' : World} {B dp : Nat} {dv : Value} {pow : Int} {bs : List UInt8} (h : DN w B dp dv pow bs) {P : List Nat} (hf : Fr P w w') (hn : ∀ x ∈ PLd dp dv, x ∉ P) : DN w' B dp dv pow bs := by
  have hn' : ∀ x, x ∈ PLd dp dv → x ∉ P := hn
  exact ⟨hf.blk h.disk (hn' _ (by simp [PLd])), h.bytes.fr hf (fun x hx => hn' _ (by simp [PLd, hx])), h.bd⟩
theorem DN.keep {w w' : World} {B dp : Nat} {dv : Value} {pow : Int} {bs : List UInt8} (h : DN w B dp dv pow bs) (hb : Below w.heap.size w w') : DN w' B dp dv pow bs := ⟨Blk.keep h.disk hb h.disk.lt, h.bytes.keep hb, h.bd⟩
/-- The reference beside the blocks L. -/
structure JR (w0 w : World) (rp yp : Nat) (pow : Int) (bs : List UInt8) (recs : List (List UInt8)) (last size : Nat) (closed : Bool) (rb yv : Value) (L : List Nat) : Prop where
  rd : RD w w0.heap.size rp rb pow bs
  rl : RL w w0.heap.size yp yv recs (last : Nat) (size : Nat) closed
  apart : ∀ x ∈ L, x ∉ OR rp yp rb yv
  below : Below w0.heap.size w0 w
  rp0 : w0.heap.size ≤ rp
  yp0 : w0.heap.size ≤ yp
section
variable {w0 w w' : World} {rp yp : Nat} {pow : Int} {bs : List UInt8} {recs : List (List UInt8)} {last size : Nat} {closed : Bool} {rb yv : Value} {L : List Nat}
theorem JR.lt (h : JR w0 w rp yp pow bs recs last size closed rb yv L) : ∀ x ∈ OR rp yp rb yv, x < w.heap.size := by
  intro x hx
  simp only [OR, List.mem_cons, List.mem_append, Option.mem_toList] at hx
  rcases hx with rfl | rfl | hx | hx
  · exact h.rd.disk.lt
  · exact h.rl.log.lt
  · exact row_lt h.rd.row x hx
  · exact row_lt h.rl.row x hx
theorem JR.ge (h : JR w0 w rp yp pow bs recs last size closed rb yv L) : ∀ x ∈ OR rp yp rb yv, w0.heap.size ≤ x := by
  intro x hx
  simp only [OR, List.mem_cons, List.mem_append, Option.mem_toList] at hx
  rcases hx with rfl | rfl | hx | hx
  · exact h.rp0
  · exact h.yp0
  · exact own_ge h.rd.row x hx
  · exact own_ge h.rl.row x hx
theorem JR.keep (h : JR w0 w rp yp pow bs recs last size closed rb yv L) (hb : Below w.heap.size w w') : JR w0 w' rp yp pow bs recs last size closed rb yv L :=
  ⟨h.rd.keep hb, h.rl.keep hb, h.apart, h.below.trans (hb.mono h.below.size), h.rp0, h.yp0⟩
/-- The program has changed blocks of its own. -/
theorem JR.prog (h : JR w0 w rp yp pow bs recs last size closed rb yv L) {P L' : List Nat} (hf : Fr P w w') (hP : ∀ x ∈ P, x ∈ L) (hP0 : ∀ x ∈ P, w0.heap.size ≤ x) (hL : ∀ x ∈ L', x ∈ L ∨ w.heap.size ≤ x) : JR w0 w' rp yp pow bs recs last size closed rb yv L' := by
  have hn : ∀ x, x ∈ OR rp yp rb yv → x ∉ P := fun x hx hp => h.apart x (hP x hp) hx
  refine ⟨⟨hf.blk h.rd.disk (hn _ (by simp [OR])), own_fr h.rd.row hf (fun x hx => hn _ (by simp [OR, hx]))⟩, ⟨hf.blk h.rl.log (hn _ (by simp [OR])), own_fr h.rl.row hf (fun x hx => hn _ (by simp [OR, hx]))⟩, fun x hx hm => ?_, h.below.trans (hf.below h.below.size hP0), h.rp0, h.yp0⟩
  rcases hL x hx with h1 | h1
  · exact h.apart x h1 hm
  · have := h.lt x hm; omega
/-- The reference has changed blocks of its own. -/
theorem JR.refd (h : JR w0 w rp yp pow bs recs last size closed rb yv L) (hlt : ∀ x ∈ L, x < w.heap.size) {pow' : Int} {bs' : List UInt8} {recs' : List (List UInt8)} {last' size' : Nat} {closed' : Bool} {rb' yv' : Value}
    (rd : RD w' w0.heap.size rp rb' pow' bs') (rl : RL w' w0.heap.size yp yv' recs' (last' : Nat) (size' : Nat) closed') (hf : Fr (OR rp yp rb yv) w w') (hrb : ∀ x, rb'.ownBlock = some x → rb.ownBlock = some x ∨ w.heap.size ≤ x) (hyv : ∀ x, yv'.ownBlock = some x → yv.ownBlock = some x ∨ w.heap.size ≤ x) :
    JR w0 w' rp yp pow' bs' recs' last' size' closed' rb' yv' L := by
  refine ⟨rd, rl, fun x hx hm => ?_, h.below.trans (hf.below h.below.size h.ge), h.rp0, h.yp0⟩
  have h1 := hlt x hx
  have h2 := h.apart x hx
  simp only [OR, List.mem_cons, List.mem_append, Option.mem_toList] at hm h2
  rcases hm with rfl | rfl | hm | hm
  · exact h2 (.inl rfl)
  · exact h2 (.inr (.inl rfl))
  · rcases hrb x hm with e | e
    · exact h2 (.inr (.inr (.inl e)))
    · omega
  · rcases hyv x hm with e | e
    · exact h2 (.inr (.inr (.inr e)))
    · omega
end
end Go.Proofs.YtbompgfjlllioaaDoor
