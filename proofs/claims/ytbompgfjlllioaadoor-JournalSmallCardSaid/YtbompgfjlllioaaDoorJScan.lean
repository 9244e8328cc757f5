/- scan: its boxes, its contract. -/
import Derived.Test.YtbompgfjlllioaaDoorJLines
import Derived.Maps.AppendAt
import Derived.RangeFuncBox
import Derived.Deep.DeepMust
namespace Go.Proofs.YtbompgfjlllioaaDoor
open Go Go.RowKit Go.Shelf
attribute [local go_sem] Oper.semAt_some

def strV (l : List UInt8) : Value := .string ⟨l.toArray⟩
theorem below_others {W W' : World} (h : Below W.heap.size W W') : KeepsOthers W W' :=
  ⟨h.size, fun k _ hk _ => (h.block k (Array.getElem?_eq_some_iff.1 hk).1).trans hk⟩
theorem boxed_keep {W W' : World} {B : Nat} {t : TypeId} {v : Value} (h : Boxed W B t v) (hb : Below W.heap.size W W') : Boxed W' B t v := (hb.block B h.lt).trans h
theorem own_keep {w w' : World} {B e size n : Nat} {v : Value} {xs : List Value} (h : w.ownsRow B e size v n xs) (hb : Below w.heap.size w w') : w'.ownsRow B e size v n xs := by
  refine ⟨h.1, ?_⟩
  rcases h.2 with hn | ⟨g, cap, cur, rfl, hb', hg, rest⟩
  · exact .inl hn
  · exact .inr ⟨g, cap, cur, rfl, hb', (hb.block g (Array.getElem?_eq_some_iff.1 hg).1).trans hg, rest⟩
theorem own_slice {W : World} {B e size n : Nat} {v : Value} {xs : List Value} (h : W.ownsRow B e size v n xs) : ∃ A c, v = .slice A n c := by
  rcases h.2 with ⟨rfl, h0⟩ | ⟨g, cap, cur, rfl, _⟩
  · exact ⟨none, 0, by rw [h0]⟩
  · exact ⟨_, _, rfl⟩
/-- A store into a box leaves a row alone that is of another type. -/
theorem own_box {W : World} {B e size n : Nat} {v : Value} {xs : List Value} (h : W.ownsRow B e size v n xs) {P : Nat} {t : TypeId} {u : Value} (hP : Boxed W P t u) (hte : t ≠ e) (u' : Value) : (W.setCell ⟨P, 0, none⟩ u').ownsRow B e size v n xs :=
  h.kept (grownBy_setCell' W P u') (.inr (hP.not_row hte h).symm)
/-- The boxes of scan: p is the first of them; v the records. -/
structure SI (w W : World) (p : Nat) (r2 : Value) (r3 r4 r5 : Int) (v it : Value) (last size : Int) (recs : List (List UInt8)) : Prop where
  res2 : Boxed W p 22 r2
  res3 : Boxed W (p + 1) 3 (.int .i64 r3)
  res4 : Boxed W (p + 2) 3 (.int .i64 r4)
  res5 : Boxed W (p + 3) 5 (.int .u8 r5)
  rec_ : Boxed W (p + 4) 22 v
  last : Boxed W (p + 5) 3 (.int .i64 last)
  size : Boxed W (p + 6) 3 (.int .i64 size)
  iter : Boxed W (p + 7) 26 it
  row : W.ownsRow w.heap.size 9 1 v recs.length (recs.map strV)
  below : Below w.heap.size w W
  base : w.heap.size ≤ p
section
variable {w W W' : World} {p : Nat} {r2 v it : Value} {r3 r4 r5 last size : Int} {recs : List (List UInt8)}
theorem SI.keep (h : SI w W p r2 r3 r4 r5 v it last size recs) (hb : Below W.heap.size W W') : SI w W' p r2 r3 r4 r5 v it last size recs :=
  ⟨boxed_keep h.res2 hb, boxed_keep h.res3 hb, boxed_keep h.res4 hb, boxed_keep h.res5 hb, boxed_keep h.rec_ hb, boxed_keep h.last hb, boxed_keep h.size hb, boxed_keep h.iter hb, own_keep h.row hb, h.below.trans (hb.mono h.below.size), h.base⟩
theorem boxed_turn {B : Nat} {t : TypeId} {u : Value} {row : Option Nat} {B0 : Nat} (h : Boxed W B t u) (hg : W.grownBy W' row) (hrow : ∀ r, row = some r → B0 ≤ r ∧ ∃ o : Obj, W.heap[r]? = some o ∧ o.isCells = false) : Boxed W' B t u :=
  h.kept hg (fun e' => by obtain ⟨_, o, ho, hc⟩ := hrow B e'.symm; rw [show W.heap[B]? = _ from h] at ho; cases ho; cases hc)
theorem SI.turn {row : Option Nat} {B0 : Nat} (hB0 : w.heap.size ≤ B0) (h : SI w W p r2 r3 r4 r5 v it last size recs) (hg : W.grownBy W' row) (hrow : ∀ r, row = some r → B0 ≤ r ∧ ∃ o : Obj, W.heap[r]? = some o ∧ o.isCells = false) : SI w W' p r2 r3 r4 r5 v it last size recs := by
  refine ⟨boxed_turn h.res2 hg hrow, boxed_turn h.res3 hg hrow, boxed_turn h.res4 hg hrow, boxed_turn h.res5 hg hrow, boxed_turn h.rec_ hg hrow, boxed_turn h.last hg hrow, boxed_turn h.size hg hrow, boxed_turn h.iter hg hrow, h.row.kept hg ?_, h.below.grown hg h.below.size (fun k e => by have := (hrow k e).1; omega), h.base⟩
  rcases h.row.2 with ⟨rfl, _⟩ | ⟨g, cap, cur, rfl, _, hgb, _⟩
  · exact .inl rfl
  · refine .inr fun e' => ?_
    obtain ⟨_, o, ho, hc⟩ := hrow g (by simpa [Value.ownBlock] using e'.symm)
    rw [hgb] at ho; cases ho; cases hc
theorem SI.iterSet (h : SI w W p r2 r3 r4 r5 v it last size recs) (u' : Value) : SI w (W.setCell ⟨p + 7, 0, none⟩ u') p r2 r3 r4 r5 v u' last size recs :=
  ⟨h.res2.other (by omega) _, h.res3.other (by omega) _, h.res4.other (by omega) _, h.res5.other (by omega) _, h.rec_.other (by omega) _, h.last.other (by omega) _, h.size.other (by omega) _, h.iter.set u', own_box h.row h.iter (by decide) u', h.below.setCell (by show w.heap.size ≤ p + 7; have := h.base; omega) _, h.base⟩
theorem SI.lastSet (h : SI w W p r2 r3 r4 r5 v it last size recs) (n : Int) : SI w (W.setCell ⟨p + 5, 0, none⟩ (.int .i64 n)) p r2 r3 r4 r5 v it n size recs :=
  ⟨h.res2.other (by omega) _, h.res3.other (by omega) _, h.res4.other (by omega) _, h.res5.other (by omega) _, h.rec_.other (by omega) _, h.last.set _, h.size.other (by omega) _, h.iter.other (by omega) _, own_box h.row h.last (by decide) _, h.below.setCell (by show w.heap.size ≤ p + 5; have := h.base; omega) _, h.base⟩
theorem SI.sizeSet (h : SI w W p r2 r3 r4 r5 v it last size recs) (n : Int) : SI w (W.setCell ⟨p + 6, 0, none⟩ (.int .i64 n)) p r2 r3 r4 r5 v it last n recs :=
  ⟨h.res2.other (by omega) _, h.res3.other (by omega) _, h.res4.other (by omega) _, h.res5.other (by omega) _, h.rec_.other (by omega) _, h.last.other (by omega) _, h.size.set _, h.iter.other (by omega) _, own_box h.row h.size (by decide) _, h.below.setCell (by show w.heap.size ≤ p + 6; have := h.base; omega) _, h.base⟩
theorem SI.res2Set (h : SI w W p r2 r3 r4 r5 v it last size recs) (u : Value) : SI w (W.setCell ⟨p, 0, none⟩ u) p u r3 r4 r5 v it last size recs :=
  ⟨h.res2.set _, h.res3.other (by omega) _, h.res4.other (by omega) _, h.res5.other (by omega) _, h.rec_.other (by omega) _, h.last.other (by omega) _, h.size.other (by omega) _, h.iter.other (by omega) _, own_box h.row h.res2 (by decide) _, h.below.setCell (by show w.heap.size ≤ p; exact h.base) _, h.base⟩
theorem SI.res3Set (h : SI w W p r2 r3 r4 r5 v it last size recs) (n : Int) : SI w (W.setCell ⟨p + 1, 0, none⟩ (.int .i64 n)) p r2 n r4 r5 v it last size recs :=
  ⟨h.res2.other (by omega) _, h.res3.set _, h.res4.other (by omega) _, h.res5.other (by omega) _, h.rec_.other (by omega) _, h.last.other (by omega) _, h.size.other (by omega) _, h.iter.other (by omega) _, own_box h.row h.res3 (by decide) _, h.below.setCell (by show w.heap.size ≤ p + 1; have := h.base; omega) _, h.base⟩
theorem SI.res4Set (h : SI w W p r2 r3 r4 r5 v it last size recs) (n : Int) : SI w (W.setCell ⟨p + 2, 0, none⟩ (.int .i64 n)) p r2 r3 n r5 v it last size recs :=
  ⟨h.res2.other (by omega) _, h.res3.other (by omega) _, h.res4.set _, h.res5.other (by omega) _, h.rec_.other (by omega) _, h.last.other (by omega) _, h.size.other (by omega) _, h.iter.other (by omega) _, own_box h.row h.res4 (by decide) _, h.below.setCell (by show w.heap.size ≤ p + 2; have := h.base; omega) _, h.base⟩
theorem SI.res5Set (h : SI w W p r2 r3 r4 r5 v it last size recs) (n : Int) : SI w (W.setCell ⟨p + 3, 0, none⟩ (.int .u8 n)) p r2 r3 r4 n v it last size recs :=
  ⟨h.res2.other (by omega) _, h.res3.other (by omega) _, h.res4.other (by omega) _, h.res5.set _, h.rec_.other (by omega) _, h.last.other (by omega) _, h.size.other (by omega) _, h.iter.other (by omega) _, own_box h.row h.res5 (by decide) _, h.below.setCell (by show w.heap.size ≤ p + 3; have := h.base; omega) _, h.base⟩
end
theorem SI.appended {w W w1 : World} {p : Nat} {r2 v it v' : Value} {r3 r4 r5 last size : Int} {recs : List (List UInt8)} {tmp : Obj} {t : List UInt8} (h : SI w W p r2 r3 r4 r5 v it last size recs)
    (hown' : w1.ownsRow w.heap.size 9 1 v' (recs.length + 1) (recs.map strV ++ [strV t])) (hgrow : (W.alloc tmp).grownBy w1 v.ownBlock) :
    Boxed w1 (p + 4) 22 v ∧ SI w (w1.setCell ⟨p + 4, 0, none⟩ v') p r2 r3 r4 r5 v' it last size (recs ++ [t]) ∧ KeepsOthers W (w1.setCell ⟨p + 4, 0, none⟩ v') ∧ Below w.heap.size W (w1.setCell ⟨p + 4, 0, none⟩ v') := by
  have hb := h.base
  obtain ⟨hv1, hv2, hr2, hk2, hb2⟩ := h.rec_.appended (by decide) h.row h.below.size (by omega) hown' hgrow
  have hk : ∀ {B : Nat} {t : TypeId} {u : Value}, Boxed W B t u → t ≠ 9 → B ≠ p + 4 → Boxed (w1.setCell ⟨p + 4, 0, none⟩ v') B t u := fun hB hte hne =>
    ((hB.alloc tmp).kept hgrow (hB.not_row hte h.row)).other hne _
  refine ⟨hv1, ⟨hk h.res2 (by decide) (by omega), hk h.res3 (by decide) (by omega), hk h.res4 (by decide) (by omega), hk h.res5 (by decide) (by omega), hv2, hk h.last (by decide) (by omega), hk h.size (by decide) (by omega), hk h.iter (by decide) (by omega), ?_, h.below.trans hb2, h.base⟩, hk2, hb2⟩
  rw [List.length_append, List.map_append]
  exact hr2
theorem conv_all (b o cap : Nat) (l : List UInt8) (W : World) (h : BS W b o l) : (convert 26 9 (.slice (some ⟨b, o, none⟩) l.length cap)).run Tryd.prog W = .ok (.string ⟨l.toArray⟩) W := by
  have := conv_take b o cap l l.length (Nat.le_refl _) W h
  rwa [List.take_length] at this
theorem scan_bounds {w : World} (pre : List (Ln w)) : (scanS (pre.map (·.l))).size ≤ pre.length * 2000001 ∧ (scanS (pre.map (·.l))).recs.length ≤ pre.length := by
  refine ⟨Nat.le_trans (scanS_size _) ?_, ?_⟩
  · induction pre with
    | nil => simp
    | cons x r ih =>
      have := x.hs
      simp only [List.map_cons, List.sum_cons, List.length_cons] at ih ⊢
      omega
  · unfold scanS
    suffices ∀ s : Sc, ((pre.map (·.l)).foldl Sc.step s).recs.length ≤ s.recs.length + pre.length from by simpa [Sc.start] using this Sc.start
    induction pre with
    | nil => intro s; simp
    | cons x r ih =>
      intro s
      simp only [List.map_cons, List.foldl_cons, List.length_cons]
      have h1 := ih (s.step x.l)
      have h2 : (s.step x.l).recs.length ≤ s.recs.length + 1 := by
        unfold Sc.step
        split
        · split
          · simp
          · simp
        · omega
      omega
theorem lines_count (b : List UInt8) : (linesL b).length ≤ b.length := by
  refine Nat.le_trans ?_ (lines_len b)
  induction linesL b with
  | nil => simp
  | cons x r ih => simp only [List.length_cons, List.map_cons, List.sum_cons]; omega
theorem lines_any (v : Value) (w : World) (hv : ∃ A n c, v = .slice A n c) : Calls Tryd.prog 52 #[v] w (fun e w' => e = .returned (.func (.func 64) #[] #[.pointer (some ⟨w.heap.size, 0, none⟩)]) ∧ w' = w.alloc (.cells #[v] 26)) := by
  obtain ⟨A, n, c, rfl⟩ := hv
  go_enter Tryd.func52, Tryd.ntmps52
  go_wp2
  go_ret
  exact ⟨rfl, rfl⟩
theorem info_str : (Tryd.prog.info? 9).map (fun i => (i.zero, i.size, i.bytes)) = some (some (.string ⟨#[]⟩), 1, 16) := by kernel_rfl
theorem boxAt (W : World) (k : Nat) (t : TypeId) (v : Value) (h : W.heap.size = k) : Boxed (W.alloc (.cells #[v] t)) k t v := h ▸ Boxed.new W t v
theorem scan_start (w : World) (v : Value) : ∃ W1, ((((((((w.alloc (.cells #[.slice none 0 0] 22)).alloc (.cells #[.int .i64 0] 3)).alloc (.cells #[.int .i64 0] 3)).alloc (.cells #[.int .u8 0] 5)).alloc (.cells #[.slice none 0 0] 22)).alloc (.cells #[.int .i64 1] 3)).alloc (.cells #[.int .i64 0] 3)).alloc (.cells #[v] 26)) = W1 ∧ SI w W1 w.heap.size (.slice none 0 0) 0 0 0 (.slice none 0 0) v 1 0 [] ∧ Boxed W1 (w.heap.size + 7) 26 v ∧ W1.heap.size = w.heap.size + 8 := by
  have hi : Boxed ((((((((w.alloc (.cells #[.slice none 0 0] 22)).alloc (.cells #[.int .i64 0] 3)).alloc (.cells #[.int .i64 0] 3)).alloc (.cells #[.int .u8 0] 5)).alloc (.cells #[.slice none 0 0] 22)).alloc (.cells #[.int .i64 1] 3)).alloc (.cells #[.int .i64 0] 3)).alloc (.cells #[v] 26)) (w.heap.size + 7) 26 v := boxAt _ _ _ _ (by simp [World.size_alloc])
  refine ⟨_, rfl, ⟨?_, ?_, ?_, ?_, ?_, ?_, ?_, hi, World.ownsRow_nil _ _ _ _, ?_, Nat.le_refl _⟩, hi, by simp⟩
  · exact (((((((boxAt _ _ _ _ (by first | rfl | simp [World.size_alloc])).alloc _).alloc _).alloc _).alloc _).alloc _).alloc _).alloc _
  · exact ((((((boxAt _ _ _ _ (by first | rfl | simp [World.size_alloc])).alloc _).alloc _).alloc _).alloc _).alloc _).alloc _
  · exact (((((boxAt _ _ _ _ (by first | rfl | simp [World.size_alloc])).alloc _).alloc _).alloc _).alloc _).alloc _
  · exact ((((boxAt _ _ _ _ (by first | rfl | simp [World.size_alloc])).alloc _).alloc _).alloc _).alloc _
  · exact (((boxAt _ _ _ _ (by first | rfl | simp [World.size_alloc])).alloc _).alloc _).alloc _
  · exact ((boxAt _ _ _ _ (by first | rfl | simp [World.size_alloc])).alloc _).alloc _
  · exact (boxAt _ _ _ _ (by first | rfl | simp [World.size_alloc])).alloc _
  · exact bchain (bchain (bchain (bchain (bchain (bchain (bchain (below1 _ _) (below1 _ _)) (below1 _ _)) (below1 _ _)) (below1 _ _)) (below1 _ _)) (below1 _ _)) (below1 _ _)
theorem kpL_put {w0 : World} {Bn M : Nat} (hM : w0.heap.size ≤ M) (hB : Bn < M) (W : World) (l : Nat) (o o' : Obj) (hl : M ≤ l) (h : W.heap[l]? = some o) : KpL w0 Bn W (W.putObj l o') := by
  have hlt := (Array.getElem?_eq_some_iff.1 h).1
  have hb : (W.putObj l o').heap[Bn]? = W.heap[Bn]? := World.putObj_heap_other (by omega)
  refine ⟨(Below.refl _ W).grown (grownBy_putObj' W l o') (by omega) (fun k e => by cases e; omega), fun v hv => ?_, fun hf => ?_⟩
  · simp only [World.cell?, hb] at hv ⊢; exact hv
  · simp only [World.frozen?, hb] at hf ⊢; exact hf
/-- What scan returns. -/
def RetScan (w : World) (S : Sc) (tail : Int) (e : Ending) (w' : World) : Prop :=
  ∃ v, e = .returned (.tuple #[v, .int .i64 (S.last : Int), .int .i64 (S.size : Int), .int .u8 tail]) ∧ w'.ownsRow w.heap.size 9 1 v S.recs.length (S.recs.map strV) ∧ Below w.heap.size w w'
theorem scan_res {p : Nat} {A : Option Addr} {n k : Nat} {a b c : Int} {T : Array Value} (W : World) (h2 : T[2]?.getD undef = .pointer (some ⟨p, 0, none⟩)) (h3 : T[3]?.getD undef = .pointer (some ⟨p + 1, 0, none⟩)) (h4 : T[4]?.getD undef = .pointer (some ⟨p + 2, 0, none⟩)) (h5 : T[5]?.getD undef = .pointer (some ⟨p + 3, 0, none⟩))
    (e0 : W.cell? ⟨p, 0, none⟩ = some (.slice A n k)) (e1 : W.cell? ⟨p + 1, 0, none⟩ = some (.int .i64 a)) (e2 : W.cell? ⟨p + 2, 0, none⟩ = some (.int .i64 b)) (e3 : W.cell? ⟨p + 3, 0, none⟩ = some (.int .u8 c)) :
    (results Tryd.f33 T).run Tryd.prog W = .ok (.tuple #[.slice A n k, .int .i64 a, .int .i64 b, .int .u8 c]) W := by
  simp [results, Tryd.results33, go_sem, h2, h3, h4, h5, e0, e1, e2, e3]
/-- The end of scan: the block of the rounds' deferred calls is taken. -/
theorem scan_leave {w Wf : World} {p D : Nat} {A : Option Addr} {n k : Nat} {it : Value} {last size tail : Int} {recs : List (List UInt8)} {T : Array Value} {R : Ending → World → Prop}
    (h : SI w Wf p (.slice A n k) last size tail (.slice A n k) it last size recs) (hD : w.heap.size ≤ D) (hK : Wf.heap[D]? = some (.deferred (some [])))
    (h2 : T[2]?.getD undef = .pointer (some ⟨p, 0, none⟩)) (h3 : T[3]?.getD undef = .pointer (some ⟨p + 1, 0, none⟩)) (h4 : T[4]?.getD undef = .pointer (some ⟨p + 2, 0, none⟩)) (h5 : T[5]?.getD undef = .pointer (some ⟨p + 3, 0, none⟩))
    (hR : ∀ W', W'.ownsRow w.heap.size 9 1 (.slice A n k) recs.length (recs.map strV) → Below w.heap.size w W' → R (.returned (.tuple #[.slice A n k, .int .i64 last, .int .i64 size, .int .u8 tail])) W') :
    LeavesInM Fence.wide 3 Tryd.prog Tryd.f33 T R [] .returning (Wf.putObj D (.deferred none)) := by
  have hp : ∀ (l : Nat) (o o' : Obj), w.heap.size ≤ l → Wf.heap[l]? = some o → o.isCells = false → SI w (Wf.putObj l o') p (.slice A n k) last size tail (.slice A n k) it last size recs := fun l o o' hl ho hc =>
    h.turn (B0 := w.heap.size) (Nat.le_refl _) (grownBy_putObj' Wf l o') (fun r e => by cases e; exact ⟨hl, o, ho, hc⟩)
  have h' := hp D _ (.deferred none) hD hK rfl
  exact ⟨_, scan_res _ h2 h3 h4 h5 h'.res2.cell h'.res3.cell h'.res4.cell h'.res5.cell, hR _ h'.row h'.below⟩
/-- Between two rounds. -/
def IScan (w : World) (p : Nat) (pre : List (Ln w)) (W : World) : Prop :=
  ∃ v it, (scanS (pre.map (·.l))).ok = true ∧ SI w W p (.slice none 0 0) 0 0 0 v it ((scanS (pre.map (·.l))).last : Nat) ((scanS (pre.map (·.l))).size : Nat) (scanS (pre.map (·.l))).recs
/-- Where a line is not good. -/
def IxScan (w : World) (p : Nat) (c : Code) (pre : List (Ln w)) (W : World) : Prop :=
  c = .ret ∧ ∃ v it, (scanS (pre.map (·.l))).ok = false ∧ SI w W p v ((scanS (pre.map (·.l))).last : Nat) ((scanS (pre.map (·.l))).size : Nat) 2 v it ((scanS (pre.map (·.l))).last : Nat) ((scanS (pre.map (·.l))).size : Nat) (scanS (pre.map (·.l))).recs
set_option maxRecDepth 100000 in
set_option maxHeartbeats 4000000 in
theorem scan_core (A : Option Addr) (cap : Nat) (bs : List UInt8) (hs : bs.length ≤ 2000000) (w : World) (he : Env w)
    (HST : ∀ n, 1 ≤ n → ∀ (w1 : World) (Bn : Nat), w.heap.size ≤ Bn → Below w.heap.size w w1 → Bn < w1.heap.size → w1.cell? ⟨Bn, 0, none⟩ = some (.slice A bs.length cap) → w1.frozen? ⟨Bn, 0, none⟩ = false →
      SeqStopsC Fence.wide n Tryd.prog 64 #[.pointer (some ⟨Bn, 0, none⟩)] (encL (w0 := w)) (KpL w Bn) (StL Bn) (fun xs => xs.map (·.l) = linesL bs) (fun pre => pre.map (·.l) <+: linesL bs) (linesL bs).length w1) :
    Calls Tryd.prog 33 #[.slice A bs.length cap] w (RetScan w (scanS (linesL bs)) (tailP (scanS (linesL bs)) bs.length : Nat)) := by
  obtain ⟨i0, hi0, hz0, hz1, hz2⟩ := info_parts info_str
  obtain ⟨N, hN⟩ : ∃ N, bs.length = N := ⟨_, rfl⟩
  rw [hN] at HST ⊢
  have LA := Lib.hid (fun W => lines_any (.slice A N cap) W ⟨_, _, _, rfl⟩)
  have HS := Lib.hid HST
  have HE := Lib.hid he
  clear HST he
  refine (callsIn_wide (n := 3)).1 ?_
  refine callsIn_of_wp_marks Tryd.func33 rfl trivial ?_ rfl
  simp only [Tryd.ntmps33, List.size_toArray, List.length_cons, List.length_nil, Nat.reduceAdd, Nat.reduceSub, Array.replicate_succ, Array.replicate_zero, List.push_toArray, List.append_toArray, List.nil_append, List.cons_append]
  gi_wp2_with (refine ⟨trivial, ?_⟩; gi_at_call 52; refine (callsIn_wide.2 (LA.out _)).mono ?_; rintro e w' ⟨rfl, rfl⟩)
  obtain ⟨W1, hW1, h0, hbx, hsz⟩ := scan_start w (.slice A N cap)
  rw [hW1]
  clear hW1
  simp only [Nat.add_assoc, Nat.reduceAdd]
  obtain ⟨p, hp⟩ : ∃ p, w.heap.size = p := ⟨_, rfl⟩
  rw [hp] at h0 hbx hsz ⊢
  refine wpIn_rangeFunc_ownC rfl (by omega) (gf := 64) (lb := #[.pointer (some ⟨p + 7, 0, none⟩)]) rfl trivial (enters_of Tryd.func64 (by kernel_rfl) rfl)
    (HS.out _ (by omega) W1 (p + 7) (by omega) h0.below (by omega) hbx.cell hbx.frozen) (fun h k => h.trans k) (fun W l o o' hl ho _ _ => kpL_put (M := W1.heap.size) (by omega) (by omega) W l o o' hl ho) (Below.refl _ _) (fun _ => rfl)
    (IScan w p) (IxScan w p) (fun A B ⟨v, hB⟩ k o hk hA => by rw [hB, Below.heap_setCell _ _ _ _ (by show k ≠ p + 7; omega)]; exact hA)
    (fun s A B ⟨v, it, ho, hi⟩ ⟨u, hB⟩ => by subst hB; exact ⟨v, u, ho, hi.iterSet u⟩)
    (fun c s A B ⟨hc, v, it, ho, hi⟩ ⟨u, hB⟩ => by subst hB; exact ⟨hc, v, u, ho, hi.iterSet u⟩)
    (fun s W W' row ⟨v, it, ho, hi⟩ hg hr => ⟨v, it, ho, hi.turn (by omega) hg hr⟩)
    (fun c s W W' row ⟨hc, v, it, ho, hi⟩ hg hr => ⟨hc, v, it, ho, hi.turn (by omega) hg hr⟩)
    ⟨_, _, rfl, h0⟩ ?a₁ ?assign ?body ?done ?stop
  case assign =>
    intro l x W K hK
    simp only [encL]
    gi_wp2
    exact hK
  case body =>
    rintro l pre ⟨xb, xo, xc, xl, hxB, hxl, hxs⟩ W ⟨v, it, hok, hi⟩ hlen
    dsimp only
    obtain ⟨S, hS⟩ : ∃ S, scanS (pre.map (·.l)) = S := ⟨_, rfl⟩
    have hL9 : S.last < 9973 := by rw [← hS]; exact scanS_last _
    have hstep : scanS ((pre ++ [(⟨xb, xo, xc, xl, hxB, hxl, hxs⟩ : Ln w)]).map (·.l)) = S.step xl := by rw [List.map_append, ← hS]; exact scanS_snoc _ _
    generalize pre ++ [(⟨xb, xo, xc, xl, hxB, hxl, hxs⟩ : Ln w)] = pre' at hstep ⊢
    rw [hS] at hok hi
    obtain ⟨A2, c2, rfl⟩ := own_slice hi.row
    have GA := Lib.hid (good_any S.last hL9 xb xo xc xl hxs hxl W (HE.out.keep hi.below) (hxB.keep hi.below))
    have hmx : Tryd.prog.follows .mixedOrders = true := by kernel_rfl
    rcases hg : goodL S.last xl with _ | _
    · rw [hg] at GA
      have HST := Lib.hid (hstep.trans (step_bad hok hg))
      obtain ⟨M, hM⟩ : ∃ M, xl.length = M := ⟨_, rfl⟩
      rw [hM] at GA ⊢
      have c5 := hi.last.cell
      have HI := Lib.hid hi
      clear hg hM hstep hS hL9 hok hxB hxl hxs hlen hi h0 hbx
      gi_wp2_with (refine ⟨trivial, ?_⟩; gi_at_call 53; refine (CallsIn.inRound l (callsIn_wide.2 GA.out)).mono ?_; rintro e w2 ⟨rfl, hb⟩; have H2 := Lib.hid (HI.out.keep hb); have HK := Lib.hid (below_others hb))
      clear c5
      have c4 := H2.out.rec_.cell
      have c5 := H2.out.last.cell
      have c6 := H2.out.size.cell
      have d0 := H2.out.res2.cell
      have d1 := H2.out.res3.cell
      have d2 := H2.out.res4.cell
      have d3 := H2.out.res5.cell
      have f0 := H2.out.res2.frozen
      have f1 := H2.out.res3.frozen
      have f2 := H2.out.res4.frozen
      have f3 := H2.out.res5.frozen
      have H3 := Lib.hid ((((H2.out.res2Set (.slice A2 S.recs.length c2)).res3Set (S.last : Nat)).res4Set (S.size : Nat)).res5Set 2)
      have HKF := Lib.hid ((((HK.out.trans (KeepsOthers.setCell w2 ⟨p, 0, none⟩ (.slice A2 S.recs.length c2))).trans (KeepsOthers.setCell _ ⟨p + 1, 0, none⟩ (.int .i64 (S.last : Nat)))).trans (KeepsOthers.setCell _ ⟨p + 2, 0, none⟩ (.int .i64 (S.size : Nat)))).trans (KeepsOthers.setCell _ ⟨p + 3, 0, none⟩ (.int .u8 2)))
      gi_region_with_o (fail)
      all_goals
        gi_wp2
        exact ⟨(HKF.out.trans (KeepsOthers.drew _)).from _, rfl, _, _, by rw [HST.out], by rw [HST.out]; exact H3.out.keep (Below.refl _ _).drew⟩
    · rw [hg] at GA
      have HST := Lib.hid (hstep.trans (step_ok hok hg))
      obtain ⟨h4, hr⟩ := good_parts hg
      obtain ⟨T, hT⟩ : ∃ T, xl.drop 5 = T := ⟨_, rfl⟩
      obtain ⟨L', hL'⟩ : ∃ L', sumL S.last (xl.drop 5) = L' := ⟨_, rfl⟩
      have SU := Lib.hid (fun W hB => sum_b S.last hL9 xb (if xc = 5 then xo else xo + 5) (xc - 5) (xl.drop 5) (by simp; omega) W hB)
      have HBX := Lib.hid (fun (W' : World) (hb : Below w.heap.size w W') => (hxB.keep hb).rest 5 xc hxl)
      rw [hL'] at SU HST
      rw [hT] at SU HBX HST
      have hTl : T.length = xl.length - 5 := by rw [← hT]; simp
      have HTL := Lib.hid hTl
      rw [hTl] at SU
      obtain ⟨hb1, hb2⟩ := scan_bounds pre
      rw [hS] at hb1 hb2
      have hlc := lines_count bs
      obtain ⟨M, hM⟩ : ∃ M, xl.length = M := ⟨_, rfl⟩
      rw [hM] at GA HST SU h4 hxl hxs HTL ⊢
      have i1 : (5 : Int) ≤ (M : Int) := by omega
      have i2 : (M : Int) ≤ (xc : Int) := by omega
      have i3 : 5 ≤ M := by omega
      have k1 : S.recs.length ≤ 2000000 := by omega
      have k2 : S.size ≤ 4000002000000 := by
        have : pre.length * 2000001 ≤ 2000000 * 2000001 := Nat.mul_le_mul_right _ (by omega)
        omega
      have w1 : IntKind.i64.wrap ((M : Int) + 1) = (M : Int) + 1 := IntWalk.i64_in _ (by omega)
      have w2' : IntKind.i64.wrap ((S.size : Int) + ((M : Int) + 1)) = (S.size : Int) + (M : Int) + 1 := by
        rw [show ((S.size : Int) + ((M : Int) + 1)) = (S.size : Int) + (M : Int) + 1 by omega]
        exact IntWalk.i64_in _ (by omega)
      have c5 := hi.last.cell
      have HI := Lib.hid hi
      have HP : Hid (w.heap.size = p) := Lib.hid hp
      clear hg hM hstep hS hL9 hok hxB hxl hxs hlen hi h0 hbx hT hL' hTl hb1 hb2 hlc hr hsz
      by_cases hz : xc = 5
      · simp only [if_pos hz] at SU HBX
        subst hz
        obtain rfl : M = 5 := by omega
        simp only [Nat.sub_self] at SU HTL
        gi_wp2_with (first
          | (refine ⟨trivial, ?_⟩; gi_at_call 53; refine (CallsIn.inRound l (callsIn_wide.2 GA.out)).mono ?_; rintro e w2 ⟨rfl, hb⟩; have H2 := Lib.hid (HI.out.keep hb); have HK := Lib.hid (below_others hb); have HB := Lib.hid hb; have d5 := H2.out.last.cell)
          | (refine ⟨trivial, ?_⟩; gi_at_call 54; refine (CallsIn.inRound l (callsIn_wide.2 (SU.out w2 (HBX.out w2 H2.out.below)))).mono ?_; rintro e w3 ⟨rfl, rfl⟩; have g5 := H2.out.last.frozen; have H4 := Lib.hid (H2.out.lastSet (L' : Nat)); have e6 := H4.out.size.cell; have g6 := H4.out.size.frozen; have H5 := Lib.hid (H4.out.sizeSet ((S.size : Int) + 6)); have e4 := H5.out.rec_.cell; have CV := conv_all xb xo 0 T _ (HBX.out _ H5.out.below); rw [HTL.out] at CV)
          | (gi_at_builtin; go_must (refine wpListIn_append_own _ rfl _ _ 22 rfl w.heap.size 9 i0 (.string ⟨#[]⟩) 1 16 Tryd.underlying22 hi0 hz0 hz1 hz2 rfl (by decide) _ _ _ rfl (H5.out.row.alloc _) ⟨w2.heap.size, 0, none⟩ 1 1 [strV T] rfl rfl (by have h9 := cell_one_new ((w2.setCell ⟨p + 5, 0, none⟩ (.int .i64 (L' : Nat))).setCell ⟨p + 6, 0, none⟩ (.int .i64 ((S.size : Int) + 6))) (strV T) 9; simp only [World.size_setCell] at h9; exact h9) (by simp [strV, Value.oneCell']) (by unfold maxLen; omega) (by omega) (by have := H5.out.below.size; simp at this ⊢; omega) ?_; intro v' w4 hown' hgrow _; obtain ⟨g', cap', rfl⟩ := ownsRow_succ hown'; obtain ⟨hv1, h6, hk2, hb2⟩ := H5.out.appended hown' hgrow; have hc1 := hv1.cell; have hf1 := hv1.frozen)))
        refine ⟨(((HK.out.trans (KeepsOthers.setCell _ _ _)).trans (KeepsOthers.setCell _ _ _)).trans hk2).from _, ⟨?_, fun u hu => ?_, fun _ => h6.iter.frozen⟩, ⟨.slice (some ⟨g', 0, none⟩) (S.recs.length + 1) cap', it, ?_, ?_⟩⟩
        · exact (((HB.out.mono HI.out.below.size).setCell (p := ⟨p + 5, 0, none⟩) (by have := HP.out; show w.heap.size ≤ p + 5; omega) _).setCell (p := ⟨p + 6, 0, none⟩) (by have := HP.out; show w.heap.size ≤ p + 6; omega) _).trans hb2
        · rw [h6.iter.cell, ← HI.out.iter.cell]; exact hu
        · rw [HST.out]
        · rw [HST.out]
          show SI w _ p _ 0 0 0 _ it _ ((S.size + 5 + 1 : Nat) : Int) _
          rw [show ((S.size + 5 + 1 : Nat) : Int) = (S.size : Int) + 6 by omega]
          exact h6
      · simp only [if_neg hz] at SU HBX
        have i4 : ¬ xc = 5 := hz
        have i5 : ¬ xc - 5 = 0 := by omega
        gi_wp2_with (first
          | (refine ⟨trivial, ?_⟩; gi_at_call 53; refine (CallsIn.inRound l (callsIn_wide.2 GA.out)).mono ?_; rintro e w2 ⟨rfl, hb⟩; have H2 := Lib.hid (HI.out.keep hb); have HK := Lib.hid (below_others hb); have HB := Lib.hid hb; have d5 := H2.out.last.cell)
          | (refine ⟨trivial, ?_⟩; gi_at_call 54; refine (CallsIn.inRound l (callsIn_wide.2 (SU.out w2 (HBX.out w2 H2.out.below)))).mono ?_; rintro e w3 ⟨rfl, rfl⟩; have g5 := H2.out.last.frozen; have H4 := Lib.hid (H2.out.lastSet (L' : Nat)); have e6 := H4.out.size.cell; have g6 := H4.out.size.frozen; have H5 := Lib.hid (H4.out.sizeSet ((S.size : Int) + (M : Int) + 1)); have e4 := H5.out.rec_.cell; have CV := conv_all xb (xo + 5) (xc - 5) T _ (HBX.out _ H5.out.below); rw [HTL.out] at CV)
          | (gi_at_builtin; go_must (refine wpListIn_append_own _ rfl _ _ 22 rfl w.heap.size 9 i0 (.string ⟨#[]⟩) 1 16 Tryd.underlying22 hi0 hz0 hz1 hz2 rfl (by decide) _ _ _ rfl (H5.out.row.alloc _) ⟨w2.heap.size, 0, none⟩ 1 1 [strV T] rfl rfl (by have h9 := cell_one_new ((w2.setCell ⟨p + 5, 0, none⟩ (.int .i64 (L' : Nat))).setCell ⟨p + 6, 0, none⟩ (.int .i64 ((S.size : Int) + (M : Int) + 1))) (strV T) 9; simp only [World.size_setCell] at h9; exact h9) (by simp [strV, Value.oneCell']) (by unfold maxLen; omega) (by omega) (by have := H5.out.below.size; simp at this ⊢; omega) ?_; intro v' w4 hown' hgrow _; obtain ⟨g', cap', rfl⟩ := ownsRow_succ hown'; obtain ⟨hv1, h6, hk2, hb2⟩ := H5.out.appended hown' hgrow; have hc1 := hv1.cell; have hf1 := hv1.frozen)))
        refine ⟨(((HK.out.trans (KeepsOthers.setCell _ _ _)).trans (KeepsOthers.setCell _ _ _)).trans hk2).from _, ⟨?_, fun u hu => ?_, fun _ => h6.iter.frozen⟩, ⟨.slice (some ⟨g', 0, none⟩) (S.recs.length + 1) cap', it, ?_, ?_⟩⟩
        · exact (((HB.out.mono HI.out.below.size).setCell (p := ⟨p + 5, 0, none⟩) (by have := HP.out; show w.heap.size ≤ p + 5; omega) _).setCell (p := ⟨p + 6, 0, none⟩) (by have := HP.out; show w.heap.size ≤ p + 6; omega) _).trans hb2
        · rw [h6.iter.cell, ← HI.out.iter.cell]; exact hu
        · rw [HST.out]
        · rw [HST.out]
          show SI w _ p _ 0 0 0 _ it _ ((S.size + M + 1 : Nat) : Int) _
          rw [show ((S.size + M + 1 : Nat) : Int) = (S.size : Int) + (M : Int) + 1 by omega]
          exact h6
  case done =>
    rintro D xs W hD hxs ⟨v, it, hok, hi⟩ hK
    rw [hxs] at hok hi
    obtain ⟨S, hS⟩ : ∃ S, scanS (linesL bs) = S := ⟨_, rfl⟩
    have hle := scan_le bs
    rw [hS] at hok hi hle ⊢
    obtain ⟨A2, c2, rfl⟩ := own_slice hi.row
    have hmx : Tryd.prog.follows .mixedOrders = true := by kernel_rfl
    have c4 := hi.rec_.cell
    have c5 := hi.last.cell
    have c6 := hi.size.cell
    have d0 := hi.res2.cell
    have d1 := hi.res3.cell
    have d2 := hi.res4.cell
    have d3 := hi.res5.cell
    have f0 := hi.res2.frozen
    have f1 := hi.res3.frozen
    have f2 := hi.res4.frozen
    have f3 := hi.res5.frozen
    have HI := Lib.hid hi
    by_cases hlt : S.size < N
    · have t1 : decide (S.size < N) = true := decide_eq_true hlt
      have t2 : decide ((S.size : Int) < (N : Int)) = true := decide_eq_true (by omega)
      have HT : Hid (tailP S N = 1) := Lib.hid (by unfold tailP; rw [hok, if_pos rfl, if_pos hlt])
      have H3 := Lib.hid ((((hi.res2Set (.slice A2 S.recs.length c2)).res3Set (S.last : Nat)).res4Set (S.size : Nat)).res5Set 1)
      clear hi hlt hok hxs hle h0 hbx
      gi_wp2
      gi_region_with_o (fail)
      all_goals
        gi_wp2
        have hK2 := (((((KeepsOthers.setCell W ⟨p, 0, none⟩ (.slice A2 S.recs.length c2)).trans (KeepsOthers.setCell _ ⟨p + 1, 0, none⟩ (.int .i64 (S.last : Nat)))).trans (KeepsOthers.setCell _ ⟨p + 2, 0, none⟩ (.int .i64 (S.size : Nat)))).trans (KeepsOthers.setCell _ ⟨p + 3, 0, none⟩ (.int .u8 1))).trans (KeepsOthers.drew _)).same D _ hK rfl
        have H4 := Lib.hid (H3.out.keep (Below.refl _ _).drew)
        clear c4 c5 c6 d0 d1 d2 d3 f0 f1 f2 f3
        generalize ((((W.setCell ⟨p, 0, none⟩ (.slice A2 S.recs.length c2)).setCell ⟨p + 1, 0, none⟩ (.int .i64 (S.last : Nat))).setCell ⟨p + 2, 0, none⟩ (.int .i64 (S.size : Nat))).setCell ⟨p + 3, 0, none⟩ (.int .u8 1)).drew = Wf at *
        refine ⟨by simp, .inl ⟨_, _, rfl, run_takeDeferred hK2, scan_leave H4.out (by rw [hp]; omega) hK2 rfl rfl rfl rfl (fun W' hr hb => ⟨_, by rw [hS, HT.out]; rfl, by rw [hS]; exact hr, hb⟩)⟩⟩
    · have t1 : decide (S.size < N) = false := decide_eq_false hlt
      have t2 : decide ((S.size : Int) < (N : Int)) = false := decide_eq_false (by omega)
      have HT : Hid (tailP S N = 0) := Lib.hid (by unfold tailP; rw [hok, if_pos rfl, if_neg hlt])
      have H3 := Lib.hid ((((hi.res2Set (.slice A2 S.recs.length c2)).res3Set (S.last : Nat)).res4Set (S.size : Nat)).res5Set 0)
      clear hi hlt hok hxs hle h0 hbx
      gi_wp2
      gi_region_with_o (fail)
      all_goals
        gi_wp2
        have hK2 := (((((KeepsOthers.setCell W ⟨p, 0, none⟩ (.slice A2 S.recs.length c2)).trans (KeepsOthers.setCell _ ⟨p + 1, 0, none⟩ (.int .i64 (S.last : Nat)))).trans (KeepsOthers.setCell _ ⟨p + 2, 0, none⟩ (.int .i64 (S.size : Nat)))).trans (KeepsOthers.setCell _ ⟨p + 3, 0, none⟩ (.int .u8 0))).trans (KeepsOthers.drew _)).same D _ hK rfl
        have H4 := Lib.hid (H3.out.keep (Below.refl _ _).drew)
        clear c4 c5 c6 d0 d1 d2 d3 f0 f1 f2 f3
        generalize ((((W.setCell ⟨p, 0, none⟩ (.slice A2 S.recs.length c2)).setCell ⟨p + 1, 0, none⟩ (.int .i64 (S.last : Nat))).setCell ⟨p + 2, 0, none⟩ (.int .i64 (S.size : Nat))).setCell ⟨p + 3, 0, none⟩ (.int .u8 0)).drew = Wf at *
        refine ⟨by simp, .inl ⟨_, _, rfl, run_takeDeferred hK2, scan_leave H4.out (by rw [hp]; omega) hK2 rfl rfl rfl rfl (fun W' hr hb => ⟨_, by rw [hS, HT.out]; rfl, by rw [hS]; exact hr, hb⟩)⟩⟩
  case stop =>
    rintro D c pre W hD hpre ⟨rfl, v, it, hok, hi⟩ hK
    obtain ⟨r, hr⟩ := hpre
    have hbad := scanS_bad _ r hok
    rw [hr] at hbad
    obtain ⟨S, hS⟩ : ∃ S, scanS (linesL bs) = S := ⟨_, rfl⟩
    rw [← hbad, hS] at hok hi
    obtain ⟨A2, c2, rfl⟩ := own_slice hi.row
    have HT : Hid (tailP S N = 2) := Lib.hid (by unfold tailP; rw [hok]; rfl)
    have HI := Lib.hid hi
    clear hi hok hbad hr h0 hbx
    gi_wp2
    refine ⟨by simp, .inl ⟨_, _, rfl, run_takeDeferred hK, scan_leave HI.out (by rw [hp]; omega) hK rfl rfl rfl rfl (fun W' hr hb => ⟨_, by rw [hS, HT.out]; rfl, by rw [hS]; exact hr, hb⟩)⟩⟩
end Go.Proofs.YtbompgfjlllioaaDoor
