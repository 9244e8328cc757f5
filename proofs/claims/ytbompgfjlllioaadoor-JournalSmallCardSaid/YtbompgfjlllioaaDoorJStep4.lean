/- One step of does: what a state may come to; a log whose disk was cut. -/
import Derived.Test.YtbompgfjlllioaaDoorJStep3
namespace Go.Proofs.YtbompgfjlllioaaDoor
open Go Go.RowKit

theorem scan_rlen (b : List UInt8) : (scanS (linesL b)).recs.length ≤ b.length := by
  refine Nat.le_trans ?_ (scan_le b)
  generalize linesL b = ls
  unfold scanS
  suffices ∀ s : Sc, s.recs.length ≤ s.size → (ls.foldl Sc.step s).recs.length ≤ (ls.foldl Sc.step s).size from this _ (by decide)
  induction ls with
  | nil => exact fun s h => h
  | cons l r ih =>
    intro s h
    rw [List.foldl_cons]
    refine ih _ ?_
    unfold Sc.step
    split
    · split
      · simp only [List.length_append, List.length_cons, List.length_nil]; omega
      · exact h
    · exact h
/-- A log whose disk was cut. -/
theorem LG.repaired {w w' : World} {B lp dp : Nat} {bs bs' : List UInt8} {pow pow' : Int} {recs : List (List UInt8)} {last size : Int} {closed : Bool} {dv rv bv dv' : Value} (h : LG w B lp dp bs pow recs last size closed dv rv bv) (hp : PD w' dp dv' pow') (hd : DV w' B dv' bs') (hf : Fr [dp] w w') : LG w' B lp dp bs' pow' recs last size closed dv' rv bv := by
  have k1 : ∀ x, rv.ownBlock = some x → x ∉ [dp] := fun x hx hm => by
    obtain rfl : x = dp := by simpa using hm
    exact row_ne h.rows h.disk (by decide) (by rw [hx]; simp)
  refine ⟨hp, hf.blk h.log (fun hm => h.ne (by simpa using hm)), hd, own_fr h.rows hf k1, ?_, h.bl, h.bd⟩
  obtain ⟨n2, xs, hb⟩ := h.buf
  refine ⟨n2, xs, own_fr hb hf (fun x hx hm => ?_)⟩
  obtain rfl : x = dp := by simpa using hm
  exact row_ne hb h.disk (by decide) (by rw [hx]; simp)
/-- Blocks of the program's behind a change of its disk alone. -/
theorem PLg_cut {lp dp : Nat} {rv bv dv dv' : Value} {n : Nat} (h : ∀ x, dv'.ownBlock = some x → dv.ownBlock = some x) : ∀ x ∈ PLg lp dp rv bv dv', x ∈ PLg lp dp rv bv dv ∨ n ≤ x := by
  intro x hx
  left
  simp only [PLg, List.mem_append, Option.mem_toList] at hx ⊢
  exact hx.imp id (h x)
theorem PLd_cut {dp : Nat} {dv dv' : Value} {n : Nat} (h : ∀ x, dv'.ownBlock = some x → dv.ownBlock = some x) : ∀ x ∈ PLd dp dv', x ∈ PLd dp dv ∨ n ≤ x := by
  intro x hx
  left
  simp only [PLd, List.mem_cons, Option.mem_toList] at hx ⊢
  exact hx.imp id (h x)
/-- The reference's blocks behind a change of the program's. -/
theorem JR.far {w0 w w' : World} {rp yp : Nat} {pow : Int} {bs : List UInt8} {recs : List (List UInt8)} {last size : Nat} {closed : Bool} {rb yv : Value} {L : List Nat} (h : JR w0 w rp yp pow bs recs last size closed rb yv L) {p : Nat} (hp : p ∈ L) (hp0 : w0.heap.size ≤ p) (hf : Fr [p] w w') : JR w0 w' rp yp pow bs recs last size closed rb yv L :=
  h.prog hf (fun x hx => by obtain rfl : x = p := (by simpa using hx); exact hp) (fun x hx => by obtain rfl : x = p := (by simpa using hx); exact hp0) (fun x hx => .inl hx)
theorem LG.far {w w' : World} {B lp dp : Nat} {bs : List UInt8} {pow : Int} {recs : List (List UInt8)} {last size : Int} {closed : Bool} {dv rv bv : Value} (h : LG w B lp dp bs pow recs last size closed dv rv bv) {p : Nat} (hp : p ∉ PLg lp dp rv bv dv) (hf : Fr [p] w w') : LG w' B lp dp bs pow recs last size closed dv rv bv :=
  h.fr hf (fun x hx hm => by obtain rfl : x = p := (by simpa using hm); exact hp hx)
theorem DN.far {w w' : World} {B dp : Nat} {dv : Value} {pow : Int} {bs : List UInt8} (h : DN w B dp dv pow bs) {p : Nat} (hp : p ∉ PLd dp dv) (hf : Fr [p] w w') : DN w' B dp dv pow bs :=
  h.fr hf (fun x hx hm => by obtain rfl : x = p := (by simpa using hm); exact hp hx)
theorem or_yp {rp yp : Nat} {rb yv : Value} : yp ∈ OR rp yp rb yv := by simp [OR]
theorem or_rp {rp yp : Nat} {rb yv : Value} : rp ∈ OR rp yp rb yv := by simp [OR]
theorem set4_nil (w : World) (p : Nat) (a b c d : Value) : Fr [p] w ((((w.setCell ⟨p, 0, none⟩ a).setCell ⟨p, 1, none⟩ b).setCell ⟨p, 2, none⟩ c).setCell ⟨p, 3, none⟩ d) := set4_frx w p a b c d
theorem size_al4 (w : World) (o : Obj) : (w.alloc o).heap.size = w.heap.size + 1 := by simp
/-- The reference's log replaced, the program's log beside it. -/
theorem ds_open {w0 w : World} {lp dp rp yp : Nat} {s : JS} {recs : List (List UInt8)} {last size : Nat} {closed : Bool} {dv rv bv rb yv mv : Value}
    (hg : LGs w w0.heap.size lp dp s dv rv bv) (hr : JR w0 w rp yp s.pow s.bs recs last size closed rb yv (PLg lp dp rv bv dv)) (hrow : w.ownsRow w0.heap.size 9 1 mv s.recs.length (s.recs.map strV)) (hm : ∀ x ∈ PLg lp dp rv bv dv, mv.ownBlock ≠ some x) :
    LGs ((((w.setCell ⟨yp, 0, none⟩ mv).setCell ⟨yp, 1, none⟩ (.int .i64 (s.last : Nat))).setCell ⟨yp, 2, none⟩ (.int .i64 (s.size : Nat))).setCell ⟨yp, 3, none⟩ (.bool s.closed)) w0.heap.size lp dp s dv rv bv ∧
    JRs w0 ((((w.setCell ⟨yp, 0, none⟩ mv).setCell ⟨yp, 1, none⟩ (.int .i64 (s.last : Nat))).setCell ⟨yp, 2, none⟩ (.int .i64 (s.size : Nat))).setCell ⟨yp, 3, none⟩ (.bool s.closed)) rp yp s rb mv (PLg lp dp rv bv dv) :=
  ⟨LG.far hg (fun hx => hr.apart _ hx or_yp) (set4_frx _ _ _ _ _ _), hr.setLog hrow hm s.last s.size s.closed⟩
theorem ds_shut {w0 w : World} {dp rp yp : Nat} {pow : Int} {bs : List UInt8} {recs : List (List UInt8)} {last size : Nat} {closed : Bool} {dv rb yv : Value}
    (hg : DN w w0.heap.size dp dv pow bs) (hr : JR w0 w rp yp pow bs recs last size closed rb yv (PLd dp dv)) :
    DN ((((w.setCell ⟨yp, 0, none⟩ (.slice none 0 0)).setCell ⟨yp, 1, none⟩ (.int .i64 0)).setCell ⟨yp, 2, none⟩ (.int .i64 0)).setCell ⟨yp, 3, none⟩ (.bool false)) w0.heap.size dp dv pow bs ∧
    JR w0 ((((w.setCell ⟨yp, 0, none⟩ (.slice none 0 0)).setCell ⟨yp, 1, none⟩ (.int .i64 0)).setCell ⟨yp, 2, none⟩ (.int .i64 0)).setCell ⟨yp, 3, none⟩ (.bool false)) rp yp pow bs [] 0 0 false rb (.slice none 0 0) (PLd dp dv) :=
  ⟨DN.far hg (fun hx => hr.apart _ hx or_yp) (set4_frx _ _ _ _ _ _), hr.setLog (recs' := []) ⟨by simp, .inl ⟨rfl, rfl⟩⟩ (fun x _ h => by simp [Value.ownBlock] at h) 0 0 false⟩
theorem tmod_bd (a n : Int) (h : 0 < n) : -n < a.tmod n ∧ a.tmod n < n := by
  refine ⟨?_, Int.tmod_lt_of_pos a h⟩
  rcases Int.le_total 0 a with h1 | h1
  · have := Int.tmod_nonneg n h1; omega
  · have h2 := Int.tmod_lt_of_pos (-a) h
    rw [Int.neg_tmod] at h2
    omega
theorem DV.cell_at {w : World} {B k : Nat} {v : Value} {l : List UInt8} (h : DV w B v l) (hk : k < l.length) : ∃ g c x, v = .slice (some ⟨g, 0, none⟩) l.length c ∧ w.cell? ⟨g, k, none⟩ = some x ∧ w.frozen? ⟨g, k, none⟩ = false ∧ B ≤ g := by
  cases h with
  | none_ => simp at hk
  | some_ g cap l cur hcap hB hg hc =>
    refine ⟨g, cap, byteV l[k], rfl, ?_, Blk.free (show Blk w g 5 cur from hg) k, hB⟩
    have := hc k l[k] (List.getElem?_eq_getElem hk)
    rw [Nat.zero_add] at this
    exact this
theorem own_cell_at {w : World} {B n k : Nat} {v : Value} {l : List UInt8} (h : w.ownsRow B 5 1 v n (l.map byteV)) (hk : k < n) : ∃ g c x, v = .slice (some ⟨g, 0, none⟩) n c ∧ w.cell? ⟨g, k, none⟩ = some x ∧ w.frozen? ⟨g, k, none⟩ = false := by
  rcases h.2 with ⟨rfl, h0⟩ | ⟨g, cap, cur, rfl, hb, hg, h1, h2, h3, h4⟩
  · omega
  · have hb8 : Blk w g 5 cur := hg
    refine ⟨g, cap, cur[k]'(by omega), rfl, hb8.cell (Array.getElem?_eq_getElem _), hb8.free k⟩
end Go.Proofs.YtbompgfjlllioaaDoor
