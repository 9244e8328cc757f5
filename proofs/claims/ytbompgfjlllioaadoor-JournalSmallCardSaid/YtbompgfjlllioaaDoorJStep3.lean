/- One step of does: the power set, a byte changed, the reference's log replaced. -/
import Derived.Test.YtbompgfjlllioaaDoorJStep2
namespace Go.Proofs.YtbompgfjlllioaaDoor
open Go Go.RowKit

theorem fr_set (w : World) (p j : Nat) (v : Value) : Fr [p] w (w.setCell ⟨p, j, none⟩ v) := Fr.of_grown (grown_set w p j v) (fun x e => by cases e; simp)
/-- A byte of a row of the call's own changed. -/
theorem own_set_at {w : World} {B g n c : Nat} {bs : List UInt8} (h : w.ownsRow B 5 1 (.slice (some ⟨g, 0, none⟩) n c) n (bs.map byteV)) (i : Nat) (d : UInt8) :
    (w.setCell ⟨g, i, none⟩ (.int .u8 (d.toNat : Int))).ownsRow B 5 1 (.slice (some ⟨g, 0, none⟩) n c) n ((bs.set i d).map byteV) := by
  rcases h.2 with ⟨e, _⟩ | ⟨g', cap, cur, e, hb, hg, h1, h2, h3, h4⟩
  · injection e with e _ _; cases e
  · injection e with e1 _ e3
    have e1 := Option.some.inj e1
    injection e1 with e1 _ _
    subst e1 e3
    have hs := Blk.set (show Blk w g 5 cur from hg) i (.int .u8 (d.toNat : Int))
    refine ⟨by have := h.1; simpa using this, .inr ⟨g, c, _, rfl, hb, hs, h1, h2, by simpa using h3, ?_⟩⟩
    rw [Nat.mul_one] at h4 ⊢
    rw [Array.toList_setIfInBounds, List.take_set, h4, List.map_set]
    rfl
/-- .. of a row of bytes that is known not so well. -/
theorem own_set_any {w : World} {B n : Nat} {v : Value} {xs : List Value} (h : w.ownsRow B 5 1 v n xs) (g i : Nat) (d : UInt8) :
    ∃ xs', (w.setCell ⟨g, i, none⟩ (.int .u8 (d.toNat : Int))).ownsRow B 5 1 v n xs' := by
  rcases h.2 with ⟨rfl, h0⟩ | ⟨g', cap, cur, rfl, hb, hg, h1, h2, h3, h4⟩
  · exact ⟨xs, h.1, .inl ⟨rfl, h0⟩⟩
  · by_cases hgg : g' = g
    · subst hgg
      have hs := Blk.set (show Blk w g' 5 cur from hg) i (.int .u8 (d.toNat : Int))
      refine ⟨(cur.setIfInBounds i (.int .u8 (d.toNat : Int))).toList.take (n * 1), ?_, .inr ⟨g', cap, _, rfl, hb, hs, h1, h2, by simpa using h3, rfl⟩⟩
      rw [List.length_take]
      have hl : (cur.setIfInBounds i (.int .u8 (d.toNat : Int))).toList.length = cap * 1 := by simpa using h3
      rw [hl]; omega
    · exact ⟨xs, h.1, .inr ⟨g', cap, cur, rfl, hb, (Blk.other (show Blk w g' 5 cur from hg) hgg i _), h1, h2, h3, h4⟩⟩
section
variable {w0 w : World} {lp dp rp yp : Nat} {pow : Int} {bs : List UInt8} {recs : List (List UInt8)} {last size : Nat} {closed : Bool} {dv rv bv rb yv : Value} {L : List Nat}
theorem JR.rp_ne (h : JR w0 w rp yp pow bs recs last size closed rb yv L) : rp ≠ yp := fun e => by
  have h1 := h.rd.disk
  rw [e] at h1
  have h2 := (show w.heap[yp]? = _ from h1).symm.trans h.rl.log
  simp at h2
theorem JR.setPow (h : JR w0 w rp yp pow bs recs last size closed rb yv L) (p' : Int) : JR w0 (w.setCell ⟨rp, 1, none⟩ (.int .i64 p')) rp yp p' bs recs last size closed rb yv L :=
  ⟨⟨h.rd.disk.set 1 _, own_other h.rd.row h.rd.disk (by decide) 1 _⟩, ⟨h.rl.log.other h.rp_ne.symm 1 _, own_other h.rl.row h.rd.disk (by decide) 1 _⟩, h.apart, h.below.setCell (show w0.heap.size ≤ (⟨rp, 1, none⟩ : Addr).block from h.rp0) _, h.rp0, h.yp0⟩
theorem DN.setPow {dvx : Value} {B : Nat} (h : DN w B dp dvx pow bs) (p' : Int) : DN (w.setCell ⟨dp, 1, none⟩ (.int .i64 p')) B dp dvx p' bs :=
  ⟨h.disk.set 1 _, h.bytes.other h.disk (by decide) (grown_set _ _ _ _), h.bd⟩
/-- A byte of the reference's disk. -/
theorem JR.setByte {g n c : Nat} (h : JR w0 w rp yp pow bs recs last size closed (.slice (some ⟨g, 0, none⟩) n c) yv L) (i : Nat) (d : UInt8) (hn : bs.length = n) : JR w0 (w.setCell ⟨g, i, none⟩ (.int .u8 (d.toNat : Int))) rp yp pow (bs.set i d) recs last size closed (.slice (some ⟨g, 0, none⟩) n c) yv L := by
  have hrow := h.rd.row
  rw [hn] at hrow
  have hg8 : ∃ cur, w.heap[g]? = some (.cells cur 5 (0, 0)) := by
    rcases hrow.2 with ⟨e, _⟩ | ⟨g', cap, cur, e, _, hg, _⟩
    · injection e with e _ _; cases e
    · injection e with e1 _ _
      have e1 := Option.some.inj e1
      injection e1 with e1 _ _
      subst e1
      exact ⟨cur, hg⟩
  obtain ⟨cur, hg8⟩ := hg8
  have hb8 : Blk w g 5 cur := hg8
  have h1 : rp ≠ g := fun e => by
    have h2 := (show w.heap[rp]? = _ from h.rd.disk).symm.trans (e ▸ hg8)
    simp at h2
  have h2 : yp ≠ g := fun e => by
    have h2 := (show w.heap[yp]? = _ from h.rl.log).symm.trans (e ▸ hg8)
    simp at h2
  refine ⟨⟨h.rd.disk.other h1 i _, ?_⟩, ⟨h.rl.log.other h2 i _, own_other h.rl.row hb8 (by decide) i _⟩, h.apart, h.below.setCell (show w0.heap.size ≤ (⟨g, i, none⟩ : Addr).block from own_ge hrow g rfl) _, h.rp0, h.yp0⟩
  rw [List.length_set, hn]
  exact own_set_at hrow i d
/-- A byte of the program's disk, a log being there. -/
theorem LG.setByte {B g n c : Nat} {lst sz : Int} (h : LG w B lp dp bs pow recs lst sz closed (.slice (some ⟨g, 0, none⟩) n c) rv bv) (i : Nat) (d : UInt8) : LG (w.setCell ⟨g, i, none⟩ (.int .u8 (d.toNat : Int))) B lp dp (bs.set i d) pow recs lst sz closed (.slice (some ⟨g, 0, none⟩) n c) rv bv := by
  obtain ⟨cur, hb8⟩ : ∃ cur, Blk w g 5 cur := by
    have hv := h.bytes
    generalize hx : Value.slice (some ⟨g, 0, none⟩) n c = v at hv
    cases hv with
    | none_ => injection hx with e _ _; cases e
    | some_ g' cap l cur hcap hB hg hc =>
      injection hx with e1 _ _
      have e1 := Option.some.inj e1
      injection e1 with e1 _ _
      subst e1
      exact ⟨cur, hg⟩
  have h1 : dp ≠ g := fun e => by
    have h2 := (show w.heap[dp]? = _ from h.disk).symm.trans (e ▸ hb8 : Blk w dp 5 cur)
    simp at h2
  have h2 : lp ≠ g := fun e => by
    have h2 := (show w.heap[lp]? = _ from h.log).symm.trans (e ▸ hb8 : Blk w lp 5 cur)
    simp at h2
  refine ⟨h.disk.other h1 i _, h.log.other h2 i _, h.bytes.set i d, own_other h.rows hb8 (by decide) i _, ?_, h.bl, h.bd⟩
  obtain ⟨n2, xs, hb⟩ := h.buf
  obtain ⟨xs', hx⟩ := own_set_any hb g i d
  exact ⟨n2, xs', hx⟩
theorem DN.setByte {B g n c : Nat} (h : DN w B dp (.slice (some ⟨g, 0, none⟩) n c) pow bs) (i : Nat) (d : UInt8) : DN (w.setCell ⟨g, i, none⟩ (.int .u8 (d.toNat : Int))) B dp (.slice (some ⟨g, 0, none⟩) n c) pow (bs.set i d) := by
  obtain ⟨cur, hb8⟩ : ∃ cur, Blk w g 5 cur := by
    have hv := h.bytes
    generalize hx : Value.slice (some ⟨g, 0, none⟩) n c = v at hv
    cases hv with
    | none_ => injection hx with e _ _; cases e
    | some_ g' cap l cur hcap hB hg hc =>
      injection hx with e1 _ _
      have e1 := Option.some.inj e1
      injection e1 with e1 _ _
      subst e1
      exact ⟨cur, hg⟩
  have h1 : dp ≠ g := fun e => by
    have h2 := (show w.heap[dp]? = _ from h.disk).symm.trans (e ▸ hb8 : Blk w dp 5 cur)
    simp at h2
  exact ⟨h.disk.other h1 i _, h.bytes.set i d, h.bd⟩
/-- The reference's log replaced. -/
theorem JR.setLog (h : JR w0 w rp yp pow bs recs last size closed rb yv L) {mv : Value} {recs' : List (List UInt8)} (hrow : w.ownsRow w0.heap.size 9 1 mv recs'.length (recs'.map strV)) (hm : ∀ x ∈ L, mv.ownBlock ≠ some x) (last' size' : Nat) (cl' : Bool) :
    JR w0 ((((w.setCell ⟨yp, 0, none⟩ mv).setCell ⟨yp, 1, none⟩ (.int .i64 (last' : Nat))).setCell ⟨yp, 2, none⟩ (.int .i64 (size' : Nat))).setCell ⟨yp, 3, none⟩ (.bool cl')) rp yp pow bs recs' last' size' cl' rb mv L := by
  have k0 := h.rl.log.set 0 mv
  have k1 := k0.set 1 (.int .i64 (last' : Nat))
  have k2 := k1.set 2 (.int .i64 (size' : Nat))
  have k3 := k2.set 3 (.bool cl')
  have hs : ∀ {W : World} (j : Nat) (v : Value), Below w0.heap.size w0 W → Below w0.heap.size w0 (W.setCell ⟨yp, j, none⟩ v) := fun {W} j v hb => hb.setCell (show w0.heap.size ≤ (⟨yp, j, none⟩ : Addr).block from h.yp0) v
  refine ⟨⟨(((h.rd.disk.other h.rp_ne _ _).other h.rp_ne _ _).other h.rp_ne _ _).other h.rp_ne _ _, own_other (own_other (own_other (own_other h.rd.row h.rl.log (by decide) 0 _) k0 (by decide) 1 _) k1 (by decide) 2 _) k2 (by decide) 3 _⟩, ⟨k3, own_other (own_other (own_other (own_other hrow h.rl.log (by decide) 0 _) k0 (by decide) 1 _) k1 (by decide) 2 _) k2 (by decide) 3 _⟩, fun x hx hmm => ?_, hs _ _ (hs _ _ (hs _ _ (hs _ _ h.below))), h.rp0, h.yp0⟩
  have h2 := h.apart x hx
  simp only [OR, List.mem_cons, List.mem_append, Option.mem_toList] at hmm h2
  rcases hmm with rfl | rfl | e | e
  · exact h2 (.inl rfl)
  · exact h2 (.inr (.inl rfl))
  · exact h2 (.inr (.inr (.inl e)))
  · exact hm x hx e
theorem set4_frx (w : World) (p : Nat) (a b c d : Value) : Fr [p] w ((((w.setCell ⟨p, 0, none⟩ a).setCell ⟨p, 1, none⟩ b).setCell ⟨p, 2, none⟩ c).setCell ⟨p, 3, none⟩ d) :=
  (((fr_set w p 0 a).trans (fr_set _ p 1 b)).trans (fr_set _ p 2 c)).trans (fr_set _ p 3 d)
end
/-- Steps: a kind, a string and a number each. -/
inductive SV (W : World) : Value → List (UInt8 × ByteArray × Int) → Prop
  | none_ : SV W (.slice none 0 0) []
  | some_ (b o cap : Nat) (l : List (UInt8 × ByteArray × Int)) (hb : b < W.heap.size) (h : ∀ i s, l[i]? = some s → W.cell? ⟨b, o + i * 3, none⟩ = some (.int .u8 (s.1.toNat : Int)) ∧ W.cell? ⟨b, o + i * 3 + 1, none⟩ = some (.string s.2.1) ∧ W.cell? ⟨b, o + i * 3 + 2, none⟩ = some (.int .i64 s.2.2)) : SV W (.slice (some ⟨b, o, none⟩) l.length cap) l
theorem SV.keep {W W' : World} {v : Value} {l : List (UInt8 × ByteArray × Int)} (h : SV W v l) (hb : Below W.heap.size W W') : SV W' v l := by
  cases h with
  | none_ => exact .none_
  | some_ b o cap l hlt h => exact .some_ b o cap l (Nat.lt_of_lt_of_le hlt hb.size) (fun i s hi => by obtain ⟨h1, h2, h3⟩ := h i s hi; exact ⟨keepW hb h1, keepW hb h2, keepW hb h3⟩)
theorem SV.len {W : World} {v : Value} {l : List (UInt8 × ByteArray × Int)} (h : SV W v l) : ∃ A cap, v = .slice A l.length cap := by
  cases h with
  | none_ => exact ⟨_, _, rfl⟩
  | some_ b o cap l _ h => exact ⟨_, _, rfl⟩
end Go.Proofs.YtbompgfjlllioaaDoor
