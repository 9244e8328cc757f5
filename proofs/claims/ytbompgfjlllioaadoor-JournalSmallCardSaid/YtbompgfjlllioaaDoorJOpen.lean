/- Worlds in which just some blocks have changed; Open and Repair. -/
import Derived.Test.YtbompgfjlllioaaDoorJDisk
namespace Go.Proofs.YtbompgfjlllioaaDoor
open Go Go.RowKit

/-- All blocks but those of the list lie as they lay. -/
structure Fr (L : List Nat) (w w' : World) : Prop where
  os : w'.os = w.os
  tape : w'.tape = w.tape
  output : w'.output = w.output
  size : w.heap.size ≤ w'.heap.size
  block : ∀ k, k < w.heap.size → k ∉ L → w'.heap[k]? = w.heap[k]?
theorem Fr.refl (L : List Nat) (w : World) : Fr L w w := ⟨rfl, rfl, rfl, Nat.le_refl _, fun _ _ _ => rfl⟩
theorem Fr.trans {L : List Nat} {a b c : World} (h : Fr L a b) (k : Fr L b c) : Fr L a c :=
  ⟨k.os.trans h.os, k.tape.trans h.tape, k.output.trans h.output, Nat.le_trans h.size k.size, fun i hi hn => (k.block i (Nat.lt_of_lt_of_le hi h.size) hn).trans (h.block i hi hn)⟩
theorem Fr.mono {L L' : List Nat} {a b : World} (h : Fr L a b) (hs : ∀ x ∈ L, x ∈ L') : Fr L' a b := ⟨h.os, h.tape, h.output, h.size, fun i hi hn => h.block i hi (fun hx => hn (hs i hx))⟩
/-- New blocks may change, too. -/
theorem Fr.more {L L' : List Nat} {a b : World} (h : Fr L a b) (hs : ∀ x ∈ L, x ∈ L' ∨ a.heap.size ≤ x) : Fr L' a b := ⟨h.os, h.tape, h.output, h.size, fun i hi hn => h.block i hi (fun hx => by rcases hs i hx with h1 | h1; exact hn h1; omega)⟩
theorem Fr.of_below {a b : World} (h : Below a.heap.size a b) (L : List Nat) : Fr L a b := ⟨h.os, h.tape, h.output, h.size, fun i hi _ => h.block i hi⟩
theorem Fr.of_grown {a b : World} {r : Option Nat} (h : a.grownBy b r) {L : List Nat} (hL : ∀ x, r = some x → x ∈ L) : Fr L a b := ⟨h.os, h.tape, h.output, h.size, fun i hi hn => h.block i hi (fun e => hn (hL i e.symm))⟩
theorem Fr.set {L : List Nat} {a b : World} (h : Fr L a b) {p : Nat} (hp : p ∈ L) (j : Nat) (v : Value) : Fr L a (b.setCell ⟨p, j, none⟩ v) := h.trans (Fr.of_grown (grown_set b p j v) (fun x e => by cases e; exact hp))
theorem Fr.alloc {L : List Nat} {a b : World} (h : Fr L a b) (o : Obj) : Fr L a (b.alloc o) := h.trans (Fr.of_below (below1 b o) L)
theorem Fr.below {L : List Nat} {a b : World} (h : Fr L a b) {B : Nat} (hB : B ≤ a.heap.size) (hL : ∀ x ∈ L, B ≤ x) : Below B a b := ⟨h.os, h.tape, h.output, h.size, fun k hk => h.block k (by omega) (fun hx => by have := hL k hx; omega)⟩
theorem Fr.blk {L : List Nat} {a b : World} (h : Fr L a b) {p : Nat} {t : TypeId} {c : Array Value} (hb : Blk a p t c) (hp : p ∉ L) : Blk b p t c := (h.block p hb.lt hp).trans hb
/-- The bytes of a disk: nil, or a slice from the beginning of its block on. -/
inductive DV (w : World) (B : Nat) : Value → List UInt8 → Prop
  | none_ : DV w B (.slice none 0 0) []
  | some_ (g cap : Nat) (l : List UInt8) (cur : Array Value) (hcap : l.length ≤ cap) (hB : B ≤ g) (hg : w.heap[g]? = some (.cells cur 5 (0, 0))) (hc : BS w g 0 l) : DV w B (.slice (some ⟨g, 0, none⟩) l.length cap) l
section
variable {w w' : World} {B : Nat} {v : Value} {l : List UInt8}
theorem DV.bv (h : DV w B v l) : BV w v l := by
  cases h with
  | none_ => exact .none_
  | some_ g cap l cur hcap hB hg hc => exact .some_ g 0 cap l hcap hc
theorem BS.of_block {b o : Nat} (h : BS w b o l) (he : w'.heap[b]? = w.heap[b]?) : BS w' b o l := fun i c hi => (World.cell?_of_block (a := ⟨b, o + i, none⟩) he).trans (h i c hi)
theorem DV.keep (h : DV w B v l) (hb : Below w.heap.size w w') : DV w' B v l := by
  cases h with
  | none_ => exact .none_
  | some_ g cap l cur hcap hB hg hc => exact .some_ g cap l cur hcap hB ((hb.block g (Array.getElem?_eq_some_iff.1 hg).1).trans hg) (hc.keep hb)
/-- A disk's bytes are not changed by a store into a block of another type. -/
theorem DV.other (h : DV w B v l) {p : Nat} {t : TypeId} {c : Array Value} (hp : Blk w p t c) (ht : t ≠ 5) {w' : World} (hg' : w.grownBy w' (some p)) : DV w' B v l := by
  cases h with
  | none_ => exact .none_
  | some_ g cap l cur hcap hB hg hc =>
    have hne : some g ≠ some p := fun e => by
      obtain rfl := Option.some.inj e
      have := (show w.heap[g]? = _ from hp).symm.trans hg
      simp at this
      exact ht this.2
    have he := hg'.block g (Array.getElem?_eq_some_iff.1 hg).1 hne
    exact .some_ g cap l cur hcap hB (he.trans hg) (hc.of_block he)
end
theorem own_grown {W W' : World} {B e size n : Nat} {v : Value} {xs : List Value} (h : W.ownsRow B e size v n xs) {p : Nat} {t : TypeId} {c : Array Value} (hp : Blk W p t c) (hte : t ≠ e) (hg : W.grownBy W' (some p)) : W'.ownsRow B e size v n xs := by
  refine h.kept hg (.inr fun e' => ?_)
  rcases h.2 with ⟨rfl, _⟩ | ⟨g, cap, cur, rfl, _, hgb, _⟩
  · simp [Value.ownBlock] at e'
  · obtain rfl : g = p := by simpa [Value.ownBlock] using e'
    have := (show W.heap[g]? = _ from hp).symm.trans hgb
    simp at this
    exact hte this.2
/-- A block of a disk. -/
def PD (w : World) (dp : Nat) (dv : Value) (pow : Int) : Prop := Blk w dp 28 #[dv, .int .i64 pow]
section
variable (dp : Nat) (dv : Value) (bs : List UInt8) (pow : Int) (w : World) (B : Nat)
set_option maxRecDepth 100000 in
theorem open_nil : Calls Tryd.prog 13 #[.pointer none] w (fun e w' => e = .returned (.tuple #[.pointer none, .int .i64 1]) ∧ w = w') := by
  have LG := Lib.hid (legal_nil w)
  go_enter Tryd.func13, Tryd.ntmps13
  go_wp2_with fail
  refine LG.out.mono ?_
  rintro e w1 ⟨rfl, rfl⟩
  go_wp2
  go_ret2
  exact ⟨rfl, rfl⟩
set_option maxRecDepth 100000 in
theorem open_long (hl : 1048576 < bs.length) (hn : bs.length ≤ 100000000) (h : PD w dp dv pow) (hB : DV w B dv bs) :
    Calls Tryd.prog 13 #[.pointer (some ⟨dp, 0, none⟩)] w (fun e w' => e = .returned (.tuple #[.pointer none, .int .i64 3]) ∧ w = w') := by
  obtain ⟨A, cap, rfl⟩ := hB.bv.len
  have LG := Lib.hid (legal_any dp A bs.length cap pow hn w h)
  rw [show legalP bs.length = 3 from if_pos hl] at LG
  go_enter Tryd.func13, Tryd.ntmps13
  go_wp2_with fail
  refine LG.out.mono ?_
  rintro e w1 ⟨rfl, rfl⟩
  go_wp2
  go_ret2
  exact ⟨rfl, rfl⟩
set_option maxRecDepth 100000 in
set_option maxHeartbeats 1000000 in
theorem open_bad (hl : bs.length ≤ 1048576) (ht : (scanS (linesL bs)).ok = false) (he : Env w) (h : PD w dp dv pow) (hB : DV w B dv bs) :
    Calls Tryd.prog 13 #[.pointer (some ⟨dp, 0, none⟩)] w (fun e w' => e = .returned (.tuple #[.pointer none, .int .i64 421]) ∧ Below w.heap.size w w') := by
  obtain ⟨A, cap, rfl⟩ := hB.bv.len
  have LG := Lib.hid (legal_any dp A bs.length cap pow (by omega) w h)
  rw [show legalP bs.length = 0 from if_neg (by omega)] at LG
  have SC := Lib.hid (scan_any _ bs (by omega) w he hB.bv)
  rw [show tailP (scanS (linesL bs)) bs.length = 2 by unfold tailP; rw [ht]; rfl] at SC
  have c0 := h.cell (j := 0) (v := .slice A bs.length cap) rfl
  generalize scanS (linesL bs) = S at *
  clear h hB ht he
  go_enter Tryd.func13, Tryd.ntmps13
  go_wp2_with fail
  refine LG.out.mono ?_
  rintro e w1 ⟨rfl, rfl⟩
  go_wp2_with fail
  refine SC.out.mono ?_
  rintro e w1 ⟨v, rfl, hr, hb⟩
  obtain ⟨A2, c2, rfl⟩ := own_slice hr
  have HB := Lib.hid hb
  clear hr hb c0
  go_wp2
  go_ret2
  exact ⟨rfl, HB.out⟩
/-- What Open returns where it returns a log. -/
def RetOpen (S : Sc) (dv' : Value) (pow' : Int) (e : Ending) (w' : World) : Prop :=
  ∃ lp rv, e = .returned (.tuple #[.pointer (some ⟨lp, 0, none⟩), .int .i64 0]) ∧ w.heap.size ≤ lp ∧ Blk w' lp 69 #[.pointer (some ⟨dp, 0, none⟩), rv, .int .i64 (S.last : Nat), .int .i64 (S.size : Nat), .bool false, .slice none 0 0] ∧
    w'.ownsRow w.heap.size 9 1 rv S.recs.length (S.recs.map strV) ∧ PD w' dp dv' pow' ∧ w.grownBy w' (some dp)
set_option maxRecDepth 100000 in
set_option maxHeartbeats 2000000 in
theorem open_ok (A : Option Addr) (cap : Nat) (hl : bs.length ≤ 1048576) (ht : (scanS (linesL bs)).ok = true) (he : Env w) (h : PD w dp (.slice A bs.length cap) pow) (hB : DV w B (.slice A bs.length cap) bs)
    (pow' : Int) (n' c' : Nat) (CU : ∀ W, PD W dp (.slice A bs.length cap) pow → Calls Tryd.prog 34 #[.pointer (some ⟨dp, 0, none⟩), .int .i64 ((scanS (linesL bs)).size : Nat)] W (fun e w' => e = .returned (.int .i64 0) ∧ PD w' dp (.slice A n' c') pow' ∧ W.grownBy w' (some dp))) :
    Calls Tryd.prog 13 #[.pointer (some ⟨dp, 0, none⟩)] w (RetOpen dp w (scanS (linesL bs)) (.slice A n' c') pow') := by
  have hdlt := h.lt
  have LG := Lib.hid (legal_any dp A bs.length cap pow (by omega) w h)
  rw [show legalP bs.length = 0 from if_neg (by omega)] at LG
  have SC := Lib.hid (scan_any _ bs (by omega) w he hB.bv)
  obtain ⟨t, htt⟩ : ∃ t, tailP (scanS (linesL bs)) bs.length = t := ⟨_, rfl⟩
  have ht2 : t ≠ 2 := by rw [← htt]; unfold tailP; rw [ht, if_pos rfl]; split <;> decide
  have t2 : ((t : Int) == 2) = false := beq_eq_false_iff_ne.2 (by omega)
  have t2' : (t == 2) = false := beq_eq_false_iff_ne.2 ht2
  rw [htt] at SC
  have CU := Lib.hid CU
  have c0 := h.cell (j := 0) (v := .slice A bs.length cap) rfl
  have H := Lib.hid h
  generalize scanS (linesL bs) = S at *
  clear h hB ht he htt ht2
  go_enter Tryd.func13, Tryd.ntmps13
  go_wp2_with fail
  refine LG.out.mono ?_
  rintro e w1 ⟨rfl, rfl⟩
  go_wp2_with fail
  refine SC.out.mono ?_
  rintro e w1 ⟨v, rfl, hr, hb⟩
  obtain ⟨A2, c2, rfl⟩ := own_slice hr
  have HB := Lib.hid hb
  have HR := Lib.hid hr
  have H1 : Hid (PD w1 dp (.slice A bs.length cap) pow) := Lib.hid (Blk.keep H.out hb H.out.lt)
  clear hr hb c0
  go_wp2_with fail
  refine (CU.out _ H1.out).mono ?_
  rintro e w2 ⟨rfl, hP, hg⟩
  have HP := Lib.hid hP
  have HG := Lib.hid hg
  clear hP hg
  go_wp2
  go_ret2
  have hr2 := own_grown HR.out H1.out (by decide) HG.out
  have hs1 := HB.out.size
  have hs2 := HG.out.size
  refine ⟨w2.heap.size, .slice A2 S.recs.length c2, rfl, by omega, Blk.new _ _ _, own_keep hr2 (below1 _ _), Blk.keep HP.out (below1 _ _) HP.out.lt, ?_⟩
  exact World.grownBy.trans (World.grownBy.trans ⟨HB.out.os, HB.out.tape, HB.out.output, HB.out.size, fun k hk _ => HB.out.block k hk⟩ HG.out) (World.grownBy_alloc _ _ _)
end
end Go.Proofs.YtbompgfjlllioaaDoor
