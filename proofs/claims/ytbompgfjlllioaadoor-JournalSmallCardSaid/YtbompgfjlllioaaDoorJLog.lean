/- A log on a disk: what holds of both; own for it; write for it. -/
import Derived.Test.YtbompgfjlllioaaDoorJWrite
namespace Go.Proofs.YtbompgfjlllioaaDoor
open Go Go.RowKit

/-- A log and its disk. -/
structure LG (w : World) (B lp dp : Nat) (bs : List UInt8) (pow : Int) (recs : List (List UInt8)) (last size : Int) (closed : Bool) (dv rv bv : Value) : Prop where
  disk : PD w dp dv pow
  log : PL w lp dp rv last size closed bv
  bytes : DV w B dv bs
  rows : w.ownsRow B 9 1 rv recs.length (recs.map strV)
  buf : ∃ n2 xs, w.ownsRow B 5 1 bv n2 xs
  bl : B ≤ lp
  bd : B ≤ dp
theorem own_same {w : World} {B g n c : Nat} {xs : List Value} {bs : List UInt8} (h : w.ownsRow B 5 1 (.slice (some ⟨g, 0, none⟩) n c) n xs) (hb : BS w g 0 bs) (hn : bs.length = n) : xs = bs.map byteV := by
  have hl : xs.length = n := by simpa using h.1
  apply List.ext_getElem?
  intro i
  by_cases hi : i < n
  · have h1 : xs[i]? = some (xs[i]'(by omega)) := List.getElem?_eq_getElem (by omega)
    have h2 := h.cells (g := g) rfl i _ h1
    rw [add_at] at h2
    have h3 := hb i (bs[i]'(by omega)) (List.getElem?_eq_getElem (by omega))
    rw [h2] at h3
    rw [h1, List.getElem?_map, List.getElem?_eq_getElem (by omega : i < bs.length)]
    exact h3
  · rw [List.getElem?_eq_none (by omega), List.getElem?_eq_none (by simp; omega)]
section
variable {w : World} {B lp dp : Nat} {bs : List UInt8} {pow : Int} {recs : List (List UInt8)} {last size : Int} {closed : Bool} {dv rv bv : Value}
/-- own answers, and where it says yes the buffer has the disk's bytes. -/
theorem LG.own (h : LG w B lp dp bs pow recs last size closed dv rv bv) : ∃ ob : Bool, Calls Tryd.prog 55 #[.pointer (some ⟨lp, 0, none⟩)] w (fun e w' => e = .returned (.bool ob) ∧ ∃ q, w' = w.drewN q) ∧
    (ob = true → w.ownsRow B 5 1 bv bs.length (bs.map byteV)) := by
  obtain ⟨n2, xs, hb⟩ := h.buf
  obtain ⟨A2, c2, rfl⟩ := own_slice hb
  have hd := h.disk
  have hl := h.log
  have hv := h.bytes
  cases hv with
  | none_ => exact ⟨false, own_zero lp dp rv pow last size closed none A2 0 n2 c2 w hd hl, fun h => by cases h⟩
  | some_ g cap l cur hcap hB hg hc =>
    by_cases h0 : bs.length = 0
    · rw [h0] at hd
      exact ⟨false, own_zero lp dp rv pow last size closed _ A2 cap n2 c2 w hd hl, fun h => by cases h⟩
    by_cases hn : bs.length = n2
    · obtain ⟨g2, cap2, e2, _, _⟩ := own_some hb (by omega)
      injection e2 with e3 e4 e5
      subst e3
      by_cases hgg : g = g2
      · subst hgg
        rw [← hn] at hl hb
        have hx := own_same hb hc rfl
        refine ⟨true, own_true lp dp rv pow last size closed g bs.length cap c2 (by omega) w hd hl, fun _ => ?_⟩
        rw [← hn, ← hx]; exact hb
      · rcases hb.2 with ⟨h1, _⟩ | ⟨g', cap', cur', e, _, hg', _⟩
        · cases h1
        · injection e with e1 _ _
          have e1 := Option.some.inj e1
          injection e1 with e1 _ _
          subst e1
          rw [← hn] at hl
          exact ⟨false, own_addr lp dp rv pow last size closed g g2 bs.length cap c2 (by omega) hgg cur cur' w hg hg' hd hl, fun h => by cases h⟩
    · exact ⟨false, own_len lp dp rv pow last size closed _ A2 bs.length cap n2 c2 (by omega) hn w hd hl, fun h => by cases h⟩
/-- The blocks of a log and its disk. -/
def OL (lp dp : Nat) (rv bv : Value) : List Nat := lp :: dp :: (rv.ownBlock.toList ++ bv.ownBlock.toList)
theorem own_fr {W W' : World} {B e size n : Nat} {v : Value} {xs : List Value} {L : List Nat} (h : W.ownsRow B e size v n xs) (hf : Fr L W W') (hn : ∀ x, v.ownBlock = some x → x ∉ L) : W'.ownsRow B e size v n xs := by
  refine ⟨h.1, ?_⟩
  rcases h.2 with h0 | ⟨g, cap, cur, rfl, hb, hg, r⟩
  · exact .inl h0
  · exact .inr ⟨g, cap, cur, rfl, hb, (hf.block g (Array.getElem?_eq_some_iff.1 hg).1 (hn g rfl)).trans hg, r⟩
/-- write for a log: at least one byte. -/
theorem LG.write (h : LG w B lp dp bs pow recs last size closed dv rv bv) (line : ByteArray) (hm : 0 < line.size) (hm2 : line.size ≤ 1000) (hbs : bs.length ≤ 2000000) :
    Calls Tryd.prog 36 #[.pointer (some ⟨lp, 0, none⟩), .string line] w (fun e w' => (∃ v, e = .returned v) ∧ ∃ dv' bv', LG w' B lp dp (bs ++ line.data.toList) pow recs last size closed dv' rv bv' ∧ Fr (OL lp dp rv bv) w w' ∧ (∀ x, bv'.ownBlock = some x → x ∈ OL lp dp rv bv ∨ w.heap.size ≤ x)) := by
  obtain ⟨ob, OW, hob⟩ := h.own
  obtain ⟨n2, xs, hb⟩ := h.buf
  obtain ⟨A2, c2, rfl⟩ := own_slice hb
  obtain ⟨A, c, rfl⟩ := h.bytes.bv.len
  have hrl : ∀ x, rv.ownBlock = some x → x ∉ lp :: dp :: (Value.slice A2 n2 c2).ownBlock.toList := fun x hx hmem => by
    rcases h.rows.2 with ⟨rfl, _⟩ | ⟨g, cap, cur, rfl, _, hg, _⟩
    · simp [Value.ownBlock] at hx
    · obtain rfl : g = x := by simpa [Value.ownBlock] using hx
      rcases List.mem_cons.1 hmem with rfl | hmem
      · have := (show w.heap[g]? = _ from h.log).symm.trans hg; simp at this
      · rcases List.mem_cons.1 hmem with rfl | hmem
        · have := (show w.heap[g]? = _ from h.disk).symm.trans hg; simp at this
        · rcases hb.2 with ⟨e, _⟩ | ⟨g', cap', cur', e, _, hg', _⟩
          · injection e with e1 _ _
            subst e1
            simp [Value.ownBlock] at hmem
          · injection e with e1 _ _
            subst e1
            have : g = g' := by simpa [Value.ownBlock] using hmem
            subst this
            have := hg'.symm.trans hg; simp at this
  have hsub : ∀ x ∈ lp :: dp :: (Value.slice A2 n2 c2).ownBlock.toList, x ∈ OL lp dp rv (.slice A2 n2 c2) := fun x hx => by
    unfold OL
    rcases List.mem_cons.1 hx with rfl | hx
    · simp
    · rcases List.mem_cons.1 hx with rfl | hx
      · simp
      · simp only [List.mem_cons, List.mem_append]; exact .inr (.inr (.inr hx))
  refine (write_any B lp dp rv pow last size closed A bs.length c A2 n2 c2 bs line hm hm2 hbs rfl w h.disk h.log h.bl h.bytes ob OW hob (lp :: dp :: (Value.slice A2 n2 c2).ownBlock.toList) (by simp) (by simp) (fun x hx => by rw [hx]; simp)).mono ?_
  rintro e w' ⟨hv, g, cap, hw⟩
  obtain ⟨b1, b2, ⟨cur, b3⟩, b4, b5⟩ := bs_of_own hw.row
  refine ⟨hv, _, _, ⟨hw.disk, hw.log, ?_, own_fr h.rows hw.frame hrl, ⟨_, _, hw.row⟩, h.bl, h.bd⟩, hw.frame.mono hsub, fun x hx => ?_⟩
  · exact .some_ g (bs ++ line.data.toList).length (bs ++ line.data.toList) cur (Nat.le_refl _) b2 b3 b1
  · obtain rfl : g = x := by simpa [Value.ownBlock] using hx
    rcases hw.block with h1 | h1
    · exact .inl (hsub _ h1)
    · exact .inr h1
end
end Go.Proofs.YtbompgfjlllioaaDoor
