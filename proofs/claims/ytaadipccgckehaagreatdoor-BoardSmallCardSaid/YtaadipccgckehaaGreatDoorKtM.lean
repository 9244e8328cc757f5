/- Small lemmas on worlds that the walks use again and again: new blocks, draws, stores. No program. A block known whole: its cells, stores into it, what leaves it alone. No program. Rows of the call's own, append of one element, slices of strings in a world. A region that draws its order: all operations but the last ones read or call quietly, in a class C of worlds; the last ones come in one forced order, from any world of C. No program. A region that draws its order, walked in pieces: where just one operation is ready, as a list; where several are, quietly in a class of worlds, if what follows waits for all of them. No program. A drawn region in a round of a range over a function, at the fence that asks nothing: what holds of it plainly holds there. No program. A piece of a region that draws its order, in which operations make memory and others read it: each operation is walked once, at a frame in which all that the piece writes is a variable; what is known of a value hangs on the world and is kept when the world grows. No program. The flow of a drawn region with what is known of each value as a list; slots of its frames; one operation at a frame that is a variable. The flow of a drawn region in which some operations make a block of their own: at the end these blocks are different ones. No program. append(out, l...) of a slice that lies somewhere, out being of the call's own. -/
import Derived.WalkKit
import Derived.Deep.Draws
import Derived.Handy
import Derived.WalkSmall
import Derived.Below
import Derived.OneCell
import Derived.Test.YtaadipccgckehaaGreatDoorProg
import Derived.Lib.Hide
import Derived.Maps.AppendAt
import Derived.OwnWalk
import Derived.StillTail
import Derived.Deep.Quiet
import Derived.RangeFuncBox
import Derived.OrdersIn
import Derived.RangeFuncCalls
import Derived.Deep.CutBlock
namespace Go.Proofs.YtaadipccgckehaaGreatDoor
open Go Go.RowKit

theorem keepA {w : World} {a : Addr} {v : Value} (o : Obj) (h : w.cell? a = some v) : (w.alloc o).cell? a = some v :=
  (World.cell?_alloc_lt _ _ _ (World.block_lt_of_cell? w a h)).trans h
theorem keepD {w : World} {a : Addr} {v : Value} (n : Nat) (h : w.cell? a = some v) : (w.drewN n).cell? a = some v := h
theorem keepB {B : Nat} {w w' : World} {a : Addr} {v : Value} (hb : Below B w w') (ha : a.block < B) (h : w.cell? a = some v) : w'.cell? a = some v := (hb.cell ha).trans h
theorem keepW {w w' : World} {a : Addr} {v : Value} (hb : Below w.heap.size w w') (h : w.cell? a = some v) : w'.cell? a = some v := (hb.cell (World.block_lt_of_cell? w a h)).trans h
@[go_sem] theorem setCell_drewN (w : World) (n : Nat) (a : Addr) (v : Value) : (w.drewN n).setCell a v = (w.setCell a v).drewN n := rfl
@[go_sem] theorem alloc_drewN (w : World) (n : Nat) (o : Obj) : (w.drewN n).alloc o = (w.alloc o).drewN n := rfl
theorem set_new (w : World) (b : Nat) (v u : Value) (t : TypeId) (n m : Nat) (hb : b = w.heap.size) :
    ((((w.alloc (.cells #[v] t)).drewN n).setCell ⟨b, 0, none⟩ u).drewN m) = (w.alloc (.cells #[u] t)).drewN (n + m) := by
  rw [setCell_drewN, World.drewN_drewN, World.setCell_alloc_at _ _ _ _ _ hb]; rfl
theorem below_pure {w w' : World} (h : w = w') : Below w.heap.size w w' := h ▸ Below.refl _ _
theorem below_draws {w w' : World} (h : ∃ n, w' = w.drewN n) : Below w.heap.size w w' := by
  obtain ⟨n, rfl⟩ := h; exact below_drewN (Below.refl _ _) n
theorem bchain {a b c : World} (h : Below a.heap.size a b) (k : Below b.heap.size b c) : Below a.heap.size a c := h.trans (k.mono h.size)
end Go.Proofs.YtaadipccgckehaaGreatDoor
namespace Go.Proofs.YtaadipccgckehaaGreatDoor
open Go Go.RowKit

/-- Block b has the cells c, and none of them is frozen. -/
def Blk (w : World) (b : Nat) (t : TypeId) (c : Array Value) : Prop := w.heap[b]? = some (.cells c t (0, 0))
theorem Blk.lt {w : World} {b : Nat} {t : TypeId} {c : Array Value} (h : Blk w b t c) : b < w.heap.size := lt_of_block h
theorem Blk.cell {w : World} {b : Nat} {t : TypeId} {c : Array Value} (h : Blk w b t c) {j : Nat} {v : Value} (hj : c[j]? = some v) : w.cell? ⟨b, j, none⟩ = some v := by
  have h' : w.heap[b]? = some (.cells c t (0, 0)) := h
  simp [World.cell?, h', hj]
theorem Blk.free {w : World} {b : Nat} {t : TypeId} {c : Array Value} (h : Blk w b t c) (j : Nat) : w.frozen? ⟨b, j, none⟩ = false := by
  have h' : w.heap[b]? = some (.cells c t (0, 0)) := h
  simp [World.frozen?, h']
theorem Blk.set {w : World} {b : Nat} {t : TypeId} {c : Array Value} (h : Blk w b t c) (j : Nat) (u : Value) : Blk (w.setCell ⟨b, j, none⟩ u) b t (c.setIfInBounds j u) := by
  have hlt := h.lt
  have h' : w.heap[b] = .cells c t (0, 0) := by simpa [Array.getElem?_eq_getElem hlt] using (show w.heap[b]? = _ from h)
  show (w.heap.modify b _)[b]? = _
  rw [Array.getElem?_eq_getElem (by simpa using hlt), Array.getElem_modify_self, h']
  rfl
theorem Blk.other {w : World} {b b' : Nat} {t : TypeId} {c : Array Value} (h : Blk w b t c) (hb : b ≠ b') (j : Nat) (u : Value) : Blk (w.setCell ⟨b', j, none⟩ u) b t c := by
  unfold Blk
  rw [Below.heap_setCell _ _ _ _ hb]
  exact h
theorem Blk.alloc {w : World} {b : Nat} {t : TypeId} {c : Array Value} (h : Blk w b t c) (o : Obj) : Blk (w.alloc o) b t c := by
  unfold Blk
  rw [Below.heap_alloc _ _ _ h.lt]
  exact h
theorem Blk.drewN {w : World} {b : Nat} {t : TypeId} {c : Array Value} (h : Blk w b t c) (n : Nat) : Blk (w.drewN n) b t c := h
theorem Blk.new (w : World) (t : TypeId) (c : Array Value) : Blk (w.alloc (.cells c t)) w.heap.size t c := by
  show (w.heap.push _)[w.heap.size]? = _
  simp
theorem Blk.keep {w w' : World} {B b : Nat} {t : TypeId} {c : Array Value} (h : Blk w b t c) (hb : Below B w w') (hl : b < B) : Blk w' b t c := (hb.block b hl).trans h
end Go.Proofs.YtaadipccgckehaaGreatDoor
namespace Go.Proofs.YtaadipccgckehaaGreatDoor
open Go Go.RowKit

theorem below1 (W : World) (o : Obj) : Below W.heap.size W (W.alloc o) := (Below.refl _ _).alloc (Nat.le_refl _) _
theorem add_at (b off j : Nat) : (⟨b, off, none⟩ : Addr).add j = ⟨b, off + j, none⟩ := by
  by_cases h : j = 0 <;> simp [Addr.add, h]
theorem str_len (s : ByteArray) : s.data.toList.length = s.size := by simp
theorem size_al (w : World) (o : Obj) : (w.alloc o).heap.size = w.heap.size + 1 := by simp
theorem own_keep {w w' : World} {B e size n : Nat} {v : Value} {xs : List Value} (h : w.ownsRow B e size v n xs) (hb : Below w.heap.size w w') : w'.ownsRow B e size v n xs := by
  refine ⟨h.1, ?_⟩
  rcases h.2 with hn | ⟨g, cap, cur, rfl, hb', hg, rest⟩
  · exact .inl hn
  · exact .inr ⟨g, cap, cur, rfl, hb', (hb.block g (Array.getElem?_eq_some_iff.1 hg).1).trans hg, rest⟩
theorem own_slice {W : World} {B e size n : Nat} {v : Value} {xs : List Value} (h : W.ownsRow B e size v n xs) : ∃ A c, v = .slice A n c := by
  rcases h.2 with ⟨rfl, h0⟩ | ⟨g, cap, cur, rfl, _⟩
  · exact ⟨none, 0, by rw [h0]⟩
  · exact ⟨_, _, rfl⟩
theorem own_some {W : World} {B e size n : Nat} {v : Value} {xs : List Value} (h : W.ownsRow B e size v n xs) (hn : 0 < n) : ∃ g cap, v = .slice (some ⟨g, 0, none⟩) n cap ∧ B ≤ g ∧ n ≤ cap := by
  rcases h.2 with ⟨_, h0⟩ | ⟨g, cap, cur, rfl, hb, _, hc, _⟩
  · omega
  · exact ⟨g, cap, rfl, hb, hc⟩
theorem own_cap {w : World} {B e size n c : Nat} {A : Option Addr} {xs : List Value} (h : w.ownsRow B e size (.slice A n c) n xs) : n ≤ c := by
  rcases h.2 with ⟨e, h0⟩ | ⟨g, cap, cur, e, _, _, hc, _⟩
  · injection e; omega
  · injection e with _ _ h3; omega
theorem own_base {W : World} {B B' e size n : Nat} {v : Value} {xs : List Value} (h : W.ownsRow B' e size v n xs) (hB : B ≤ B') : W.ownsRow B e size v n xs :=
  ⟨h.1, h.2.elim .inl (fun ⟨g, cap, cur, h1, h2, r⟩ => .inr ⟨g, cap, cur, h1, Nat.le_trans hB h2, r⟩)⟩
theorem own_ge {W : World} {B e size n : Nat} {v : Value} {xs : List Value} (h : W.ownsRow B e size v n xs) (x : Nat) (hx : v.ownBlock = some x) : B ≤ x := by
  rcases h.2 with ⟨rfl, _⟩ | ⟨g, cap, cur, rfl, hb, _⟩
  · simp [Value.ownBlock] at hx
  · have : g = x := by simpa [Value.ownBlock] using hx
    omega
theorem own_empty (W : World) (e : TypeId) : (W.alloc (.cells #[] e)).ownsRow W.heap.size e 1 (.slice (some ⟨W.heap.size, 0, none⟩) 0 0) 0 [] :=
  ⟨rfl, .inr ⟨W.heap.size, 0, #[], rfl, Nat.le_refl _, (Blk.new W e _), Nat.zero_le _, by simp [maxLen], rfl, rfl⟩⟩
/-- A new block of one cell as a row. -/
theorem own_one (W : World) (e : TypeId) (c : Value) : (W.alloc (.cells #[c] e)).ownsRow W.heap.size e 1 (.slice (some ⟨W.heap.size, 0, none⟩) 1 1) 1 [c] :=
  ⟨rfl, .inr ⟨W.heap.size, 1, #[c], rfl, Nat.le_refl _, (Blk.new W e _), Nat.le_refl _, by simp [maxLen], rfl, rfl⟩⟩
/-- append(out, x), out being nil or of the call's own. -/
theorem app1 {ops : Array Oper} {rest : List Oper} {o : Oper} {a : Act} {Q : Exit → Act → World → Prop} (hgd : o.guard = none) (s x : Operand) {t e : TypeId}
    (ho : o.op = .call { callee := .builtin .append, args := #[s, x], argTypes := #[t, t] }) {i : TypeInfo} {z : Value} {bytes : Nat} (ht : Tryz.prog.underlying t = some (.slice e)) (hi : Tryz.prog.info? e = some i) (hz : i.zero = some z) (hsize : i.size = 1) (hby : i.bytes = bytes) (hzs : z.cells.size = 1)
    (wr : World) (base : Nat) (v : Value) (n : Nat) (xs : List Value) (c : Value) (hc : c.oneCell' = true) (hc2 : c.cells = #[c])
    (hs : a.eval s = v) (hx : a.eval x = .slice (some ⟨wr.heap.size, 0, none⟩) 1 1) (hown : wr.ownsRow base e 1 v n xs) (hb : base ≤ wr.heap.size) (hn : n ≤ 1000000) (hby2 : bytes ≤ 1000000)
    (h : ∀ v' w', w'.ownsRow base e 1 v' (n + 1) (xs ++ [c]) → wr.grownBy w' v.ownBlock → (v'.ownBlock = v.ownBlock ∨ v'.ownBlock = some (wr.heap.size + 1)) → Below base wr w' → wpList Tryz.prog ops Q rest (a.put o.dst v') w') :
    wpList Tryz.prog ops Q (o :: rest) a (wr.alloc (.cells #[c] e)) := by
  have hlt : (n + 1) * bytes ≤ 1000001 * 1000000 := Nat.mul_le_mul (by omega) hby2
  refine wpList_append_own_at _ hgd s x t ho base e i z 1 bytes ht hi hz hsize hby hzs (by decide) v n xs hs (hown.alloc _) ⟨wr.heap.size, 0, none⟩ 1 1 [c] hx rfl ?_ ?_ (by simp only [maxLen]; omega) (by omega) (by simp; omega) ?_
  · intro j u hj
    cases j with
    | zero =>
      have hu : c = u := by simpa using hj
      subst hu
      have := (Blk.new wr e #[c]).cell (j := 0) (v := c) rfl
      exact this
    | succ j => simp at hj
  · intro u hu
    have hu : u = c := by simpa using hu
    subst hu
    exact hc
  · intro v' w' h1 h2 _ h3
    refine h v' w' h1 (World.grownBy.trans (World.grownBy_alloc _ _ _) h2) (by simpa using h3) ?_
    refine (((Below.refl base wr).alloc hb _).grown h2 (by simp; omega) fun k hk => ?_)
    exact (hown.lt k hk).1
def strV (l : List UInt8) : Value := .string ⟨l.toArray⟩
theorem str_val (l : List UInt8) (X : ByteArray) (h : X.data.toList = l) : strV l = .string X := by
  subst h; rfl
theorem info_str : (Tryz.prog.info? 9).map (fun i => (i.zero, i.size, i.bytes)) = some (some (.string ⟨#[]⟩), 1, 16) := by kernel_rfl
theorem info_int : (Tryz.prog.info? 3).map (fun i => (i.zero, i.size, i.bytes)) = some (some (.int .i64 0), 1, 8) := by kernel_rfl
/-- A slice of strings, nil or not. -/
inductive RS (W : World) : Value → List (List UInt8) → Prop
  | none_ : RS W (.slice none 0 0) []
  | some_ (b o cap : Nat) (l : List (List UInt8)) (hb : b < W.heap.size) (h : ∀ i r, l[i]? = some r → W.cell? ⟨b, o + i, none⟩ = some (strV r)) : RS W (.slice (some ⟨b, o, none⟩) l.length cap) l
theorem RS.keep {W W' : World} {v : Value} {l : List (List UInt8)} (h : RS W v l) (hb : Below W.heap.size W W') : RS W' v l := by
  cases h with
  | none_ => exact .none_
  | some_ b o cap l hlt h => exact .some_ b o cap l (Nat.lt_of_lt_of_le hlt hb.size) (fun i r hi => keepW hb (h i r hi))
theorem RS.len {W : World} {v : Value} {l : List (List UInt8)} (h : RS W v l) : ∃ A cap, v = .slice A l.length cap := by
  cases h with
  | none_ => exact ⟨_, _, rfl⟩
  | some_ b o cap l _ h => exact ⟨_, _, rfl⟩
theorem rs_of_own {W : World} {base : Nat} {v : Value} {l : List (List UInt8)} (h : W.ownsRow base 9 1 v l.length (l.map strV)) : RS W v l := by
  rcases h.2 with ⟨rfl, h0⟩ | ⟨g, cap, cur, rfl, _, hg, hcur⟩
  · obtain rfl : l = [] := List.eq_nil_of_length_eq_zero h0
    exact .none_
  · refine .some_ g 0 cap l (Array.getElem?_eq_some_iff.1 hg).1 (fun i r hi => ?_)
    rw [Nat.zero_add]
    obtain ⟨_, _, _, h4⟩ := hcur
    have hj : (l.map strV)[i]? = some (strV r) := by rw [List.getElem?_map, hi]; rfl
    rw [← h4, List.getElem?_take] at hj
    split at hj
    · have hc : cur[i]? = some (strV r) := by simpa using hj
      simp [World.cell?, hg, hc]
    · cases hj
theorem str_ne {a b : List UInt8} (h : a ≠ b) : ((⟨a.toArray⟩ : ByteArray).toList == (⟨b.toArray⟩ : ByteArray).toList) = false := by
  rw [ByteArray.toList_eq, ByteArray.toList_eq]
  exact beq_eq_false_iff_ne.2 (by simpa using h)
theorem take_eq_next {α : Type} {l m : List α} {k : Nat} (h : l.take k = m.take k) {x : α} (h1 : l[k]? = some x) (h2 : m[k]? = some x) : l.take (k + 1) = m.take (k + 1) := by
  rw [List.take_add_one, List.take_add_one, h, h1, h2]
theorem take_more {α : Type} {l : List α} {k : Nat} {x : α} (h : l[k]? = some x) : l.take (k + 1) = l.take k ++ [x] := by
  rw [List.take_add_one, h]; rfl
end Go.Proofs.YtaadipccgckehaaGreatDoor
namespace Go.Proofs.YtaadipccgckehaaGreatDoor
open Go
section
variable {P : Program} {ops : Array Oper} {md : Region.Mode} {C : World → Prop}

/-- Whatever order is picked for the first f operations, all of them below n; then L. -/
def AnyT (P : Program) (md : Region.Mode) (ops : Array Oper) (C : World → Prop) (n : Nat) (L : Array Bool → Act → Prop) : Nat → Array Bool → Act → Prop
  | 0, b, a => L b a
  | f + 1, b, a => Region.ready md ops b ≠ [] ∧ ∀ i ∈ Region.ready md ops b, i < n ∧ qOp P ops C i (AnyT P md ops C n L f (b.setIfInBounds i true)) a

theorem any_of_T {n g : Nat} {L : Array Bool → Act → Prop} {Q : Exit → Act → World → Prop} (hL : ∀ b a w, C w → L b a → wpAny P md ops Q g b a w) :
    ∀ (f : Nat) (b : Array Bool) (a : Act) (w : World), C w → AnyT P md ops C n L f b a → wpAny P md ops Q (f + g) b a w := by
  intro f
  induction f with
  | zero => intro b a w hw h; rw [Nat.zero_add]; exact hL b a w hw h
  | succ f ih =>
    intro b a w hw h
    rw [Nat.succ_add]
    refine ⟨fun e => absurd e h.1, fun i hi => ?_⟩
    exact wpOp_of_qOp hw (fun a' w' hw' h' => ih _ a' w' hw' h') (h.2 i hi).2

theorem T_first {n i : Nat} {oi : Oper} {v : Value} {L : Array Bool → Act → Prop} (hi : ops[i]? = some oi) (hsel : ∀ (j : Nat) (o : Oper) cs b, ops[j]? = some o → o.op ≠ .select cs b)
    (hs : Region.sinkB md ops n = true) (hc : Region.chainB md ops n = true) (hn : n < ops.size) (hin : i < n)
    (hdone : ∀ b a, L b a → ∀ j ∈ Region.ready md ops b, n ≤ j) :
    ∀ (f : Nat) (b : Array Bool) (a : Act), HeadInv md ops n b →
      (∀ j oj, ops[j]? = some oj → j ≠ i → b.getD j true = false → (∀ e ∈ oj.after, Region.binds md e = true → e.on ≠ i) → oi.apart ops oj = true) →
      i ∈ Region.ready md ops b → YieldsIn P ops C oi v a →
      AnyT P md ops C n L f (b.setIfInBounds i true) (a.put oi.dst v) → AnyT P md ops C n L (f + 1) b a := by
  intro f
  induction f with
  | zero =>
    intro b a inv _ hr hy H
    have hun := (mem_ready.1 hr).1
    have hlow : ∀ j ∈ Region.ready md ops b, j < n := fun j hj => by
      rcases Nat.lt_or_ge j n with h | h
      · exact h
      · exact absurd hj (tail_waits hs hc hn inv _ i rfl hin hun j h)
    refine ⟨fun e => (by rw [e] at hr; cases hr), fun j hj => ⟨hlow j hj, ?_⟩⟩
    rcases Nat.decEq j i with h | h
    · have h1 := hdone _ _ H j (ready_mono hj h)
      have h2 := hlow j hj
      omega
    · subst h; exact hy.qOp hi H
  | succ f ih =>
    intro b a inv hfree hr hy H
    have hun := (mem_ready.1 hr).1
    have hlow : ∀ j ∈ Region.ready md ops b, j < n := fun j hj => by
      rcases Nat.lt_or_ge j n with h | h
      · exact h
      · exact absurd hj (tail_waits hs hc hn inv _ i rfl hin hun j h)
    refine ⟨fun e => (by rw [e] at hr; cases hr), fun j hj => ⟨hlow j hj, ?_⟩⟩
    rcases Nat.decEq j i with hji | h
    · obtain ⟨hjun, oj, hoj, hall⟩ := mem_ready.1 hj
      have hnot : ∀ e ∈ oj.after, Region.binds md e = true → e.on ≠ i := fun e he hb hon => by
        have := hall e he hb
        rw [hon, getD_both hun] at this
        cases this
      have hrest : ∀ k ok, ops[k]? = some ok → k ≠ i → (b.setIfInBounds j true).getD k true = false → (∀ e ∈ ok.after, Region.binds md e = true → e.on ≠ i) → oi.apart ops ok = true := by
        intro k ok hk hki huk hno
        refine hfree k ok hk hki ?_ hno
        rcases Nat.decEq j k with hjk | hjk
        · rw [getD_set_ne true hjk] at huk; exact huk
        · subst hjk; exact hjun
      have h2 := qOp_put hoj (hfree j oj hoj hji hjun hnot) (fun cs c => hsel i oi cs c hi) (fun cs c => hsel j oj cs c hoj) hy (H.2 j (ready_mono hj hji)).2
      refine qOp_mono (fun a' h3 => ih (b.setIfInBounds j true) a' (inv.set hj (hlow j hj)) hrest (ready_mono hr (Ne.symm hji)) h3.1 ?_) h2
      rw [Array.setIfInBounds_comm _ _ hji]
      exact h3.2
    · subst h; exact hy.qOp hi H

theorem T_lex {n g : Nat} {Lq : Act → Prop} (hsel : Region.noSelect ops = true) (hs : Region.sinkB md ops n = true) (hc : Region.chainB md ops n = true) (hn : n < ops.size) :
    ∀ (l : List Oper) (k : Nat) (b : Array Bool) (a : Act), (∀ j, j < l.length → l[j]? = ops[k + j]?) → k + l.length = n → HeadInv md ops n b →
    Region.lexHead md ops g l.length k b = true → wpQuiet P ops C Lq l a →
    AnyT P md ops C n (fun b' a' => Region.seqB md ops g n b' = true ∧ Lq a') l.length b a := by
  intro l
  induction l with
  | nil =>
    intro k b a _ hk _ hB h
    obtain rfl : k = n := by simpa using hk
    exact ⟨by simpa [Region.lexHead] using hB, h⟩
  | cons o l ih =>
    intro k b a hl hk inv hB h
    have h0 : ops[k]? = some o := by simpa using (hl 0 (by simp)).symm
    simp only [List.length_cons] at hk hB hl
    simp only [Region.lexHead, Bool.and_eq_true] at hB
    obtain ⟨⟨hr, hf⟩, hB⟩ := hB
    have hr' : k ∈ Region.ready md ops b := by simpa using hr
    have hq : qOp P ops C k (wpQuiet P ops C Lq l) a := by unfold qOp; simp only [h0]; exact h
    obtain ⟨v, hy, hK⟩ := yieldsIn_of_qOp h0 hq
    refine T_first h0 (Region.noSelect_spec hsel) hs hc hn (by omega) (fun b' a' hL => seqB_ready hL.1) l.length b a inv (Region.free_spec h0 hf) hr' hy ?_
    refine ih (k + 1) _ _ (fun j hj => ?_) (by omega) (inv.set hr' (by omega)) hB hK
    have := hl (j + 1) (by omega)
    simpa [Nat.add_assoc, Nat.add_comm 1 j] using this

/-- The first n operations are walked once, in the text's order, each quiet in C; the others follow, in the text's order, from whatever world of C. -/
theorem region_quiet_tail {id : Nat} {Q : Exit → Act → World → Prop} {a : Act} {w : World} {l : List Oper} (n : Nat) (hm : P.follows .mixedOrders = true) (hB : Region.lexTailB .any l.toArray n = true)
    (hC : C { w with drawn := w.drawn + 1 })
    (h : wpQuiet P l.toArray C (fun a' => ∀ w', C w' → wpList P l.toArray Q (l.drop n) a' w') (l.take n) a) : (Code.region id l.toArray true).wp P Q a w := by
  simp only [Region.lexTailB, Bool.and_eq_true, decide_eq_true_eq] at hB
  obtain ⟨⟨⟨⟨hsel, hn⟩, hs⟩, hc⟩, hlex⟩ := hB
  have hn' : n < l.length := by simpa using hn
  have htl : (l.take n).length = n := by simp; omega
  have hdl : (l.drop n).length = l.toArray.size - n := by simp
  have inv0 : HeadInv .any l.toArray n (Array.replicate l.toArray.size false) :=
    ⟨by simp, fun j oj _ hl => (by rw [getD_replicate_false] at hl; cases hl), fun t _ ht => getD_in (by simpa using ht) (getD_replicate_false _ _)⟩
  have H := T_lex (md := .any) (C := C) (g := l.toArray.size - n) hsel hs hc hn (l.take n) 0 _ a (fun j hj => by
    have hj' : j < n := by rw [htl] at hj; exact hj
    simp [hj']) (by simpa using htl) inv0 (by rw [htl]; exact hlex) h
  refine wp_region_any hm ?_
  have := any_of_T (Q := Q) (g := l.toArray.size - n) (fun b a' w' hw' hL => by
    have := wpAny_of_seq (md := .any) (Q' := Q) (l.drop n) n b a' w' (fun j => by simp [List.getElem?_drop]) (by rw [hdl]; exact hL.1) (hL.2 w' hw')
    rwa [hdl] at this) _ _ _ _ hC H
  rwa [htl, show n + (l.toArray.size - n) = l.toArray.size by omega] at this

/-- The same at the class 'w after some draws'. -/
theorem region_drew_tail {id : Nat} {Q : Exit → Act → World → Prop} {a : Act} {w : World} {l : List Oper} (n : Nat) (hm : P.follows .mixedOrders = true) (hB : Region.lexTailB .any l.toArray n = true)
    (h : wpQuiet P l.toArray (fun w' => ∃ n, w' = w.drewN n) (fun a' => ∀ w', (∃ n, w' = w.drewN n) → wpList P l.toArray Q (l.drop n) a' w') (l.take n) a) : (Code.region id l.toArray true).wp P Q a w :=
  region_quiet_tail (C := fun w' => ∃ n, w' = w.drewN n) n hm hB ⟨1, rfl⟩ h

/-- The worlds that have come since: new blocks, draws; all that was is as it was. -/
structure Since (W : World) where
  val : World
  property : RowKit.Below W.heap.size W val
instance (W : World) : Nonempty (Since W) := ⟨⟨W, RowKit.Below.refl _ _⟩⟩
theorem Since.cell {W : World} {a : Addr} {v : Value} (h : W.cell? a = some v) (u : Since W) : u.val.cell? a = some v := (u.property.cell (World.block_lt_of_cell? W a h)).trans h
/-- A region that draws its order and only reads and calls: the callees may make memory. -/
theorem region_since {id : Nat} {Q : Exit → Act → World → Prop} {a : Act} {w : World} {l : List Oper} (hm : P.follows .mixedOrders = true) (hB : Region.lexB .any l.toArray = true)
    (h : wpQuiet P l.toArray (fun w' => ∃ u : Since w, w' = u.val) (fun a' => ∀ w', (∃ u : Since w, w' = u.val) → Q .normal a' w') l a) : (Code.region id l.toArray true).wp P Q a w :=
  wp_region_quiet (C := fun w' => ∃ u : Since w, w' = u.val) hm hB ⟨⟨_, (RowKit.Below.refl _ w).drew⟩, rfl⟩ (by simpa using h)
/-- .. and whose last operations come in one forced order. -/
theorem region_since_tail {id : Nat} {Q : Exit → Act → World → Prop} {a : Act} {w : World} {l : List Oper} (n : Nat) (hm : P.follows .mixedOrders = true) (hB : Region.lexTailB .any l.toArray n = true)
    (h : wpQuiet P l.toArray (fun w' => ∃ u : Since w, w' = u.val) (fun a' => ∀ w', (∃ u : Since w, w' = u.val) → wpList P l.toArray Q (l.drop n) a' w') (l.take n) a) : (Code.region id l.toArray true).wp P Q a w :=
  region_quiet_tail (C := fun w' => ∃ u : Since w, w' = u.val) n hm hB ⟨⟨_, (RowKit.Below.refl _ w).drew⟩, rfl⟩ h
/-- A callee's contract at such a world. -/
theorem Calls.since {f : FuncId} {args : Array Value} {W : World} {u : Since W} {v : Value} (h : Calls P f args u.val fun e w' => e = .returned v ∧ RowKit.Below u.val.heap.size u.val w') :
    Calls P f args u.val fun e w'' => e = .returned v ∧ ∃ u' : Since W, w'' = u'.val :=
  h.mono fun _ w' ⟨he, hb⟩ => ⟨he, ⟨w', u.property.trans (hb.mono u.property.size)⟩, rfl⟩
end
end Go.Proofs.YtaadipccgckehaaGreatDoor
namespace Go.Proofs.YtaadipccgckehaaGreatDoor
open Go
section
variable {P : Program} {ops : Array Oper} {md : Region.Mode} {C : World → Prop}

/-- Of m operations the first k are done. -/
def doneTo (m k : Nat) : Array Bool := (List.replicate k true ++ List.replicate (m - k) false).toArray
theorem doneTo_size {m k : Nat} (h : k ≤ m) : (doneTo m k).size = m := by simp [doneTo]; omega
theorem doneTo_get {m k : Nat} (_h : k ≤ m) (j : Nat) : (doneTo m k)[j]? = if j < k then some true else if j < m then some false else none := by
  unfold doneTo
  rw [List.getElem?_toArray, List.getElem?_append]
  simp only [List.length_replicate, List.getElem?_replicate]
  by_cases h1 : j < k
  · simp [h1]
  · by_cases h2 : j < m
    · simp [h1, h2]; omega
    · simp [h1, h2]; omega
theorem doneTo_set {m k : Nat} (h : k < m) : (doneTo m k).setIfInBounds k true = doneTo m (k + 1) := by
  apply Array.ext_getElem?
  intro j
  rw [Array.getElem?_setIfInBounds, doneTo_get (by omega), doneTo_get (by omega), doneTo_size (by omega)]
  by_cases h1 : k = j
  · subst h1; simp [h]
  · by_cases h2 : j < k
    · simp [h1, h2, show j < k + 1 by omega]
    · simp [h1, h2, show ¬ j < k + 1 by omega]
theorem doneTo_zero (m : Nat) : Array.replicate m false = doneTo m 0 := by
  apply Array.ext_getElem?
  intro j
  rw [doneTo_get (by omega)]
  simp [Array.getElem?_replicate]
/-- What is left of a region. -/
def Rest (P : Program) (l : List Oper) (Q : Exit → Act → World → Prop) (k : Nat) (a : Act) (w : World) : Prop := wpAny P .any l.toArray Q (l.length - k) (doneTo l.length k) a w

theorem rest_begin {id : Nat} {Q : Exit → Act → World → Prop} {a : Act} {w : World} {l : List Oper} (hm : P.follows .mixedOrders = true) (h : Rest P l Q 0 a w.drew) : (Code.region id l.toArray true).wp P Q a w := by
  refine wp_region_any hm ?_
  rw [show l.toArray.size = l.length by simp, doneTo_zero]
  exact h
theorem rest_end {Q : Exit → Act → World → Prop} {a : Act} {w : World} {l : List Oper} (h : Q .normal a w) : Rest P l Q l.length a w := by
  unfold Rest
  rw [Nat.sub_self]
  refine ⟨?_, h⟩
  rw [List.eq_nil_iff_forall_not_mem]
  intro j hj
  obtain ⟨h1, o, ho, _⟩ := mem_ready.1 hj
  have hlt : j < l.length := by simpa using (Array.getElem?_eq_some_iff.1 ho).1
  have := doneTo_get (Nat.le_refl l.length) j
  rw [if_pos hlt] at this
  simp [Array.getD_eq_getD_getElem?, this] at h1
/-- m operations from the k-th on come in one forced order. -/
def forced (ops : Array Oper) : Nat → Nat → Bool
  | 0, _ => true
  | m + 1, k => decide (Region.ready .any ops (doneTo ops.size k) = [k]) && forced ops m (k + 1)
theorem Oper.wp_then {o : Oper} {a : Act} {w : World} {K : Act → World → Prop} {N : Act → World → Prop} {Q : Exit → Act → World → Prop} (hh : o.wp P a w K (Exit.then N Q)) : o.wp P a w K Q := by
  unfold Oper.wp at *
  generalize (execOp a.eval o).run P w = r at *
  cases r with
  | ok n w' =>
    cases n <;> simp only [Oper.upon] at hh ⊢ <;>
      first
        | exact hh
        | exact Calls.mono hh (fun e w'' he => by cases e <;> exact he)
  | halt x w' => cases x <;> simp only [Oper.upon] at hh ⊢ <;> exact hh
theorem wpAny_forced {N : Act → World → Prop} {Q : Exit → Act → World → Prop} (f : Nat) : ∀ (l : List Oper) (k : Nat) (a : Act) (w : World), k + l.length ≤ ops.size → (∀ j, j < l.length → l[j]? = ops[k + j]?) → forced ops l.length k = true →
    (∀ a' w', N a' w' → wpAny P .any ops Q f (doneTo ops.size (k + l.length)) a' w') → wpList P ops (Exit.then N Q) l a w → wpAny P .any ops Q (l.length + f) (doneTo ops.size k) a w
  | [], k, a, w, _, _, _, hN, h => by
    have := hN a w h
    simpa using this
  | o :: l, k, a, w, hk, hl, hB, hN, h => by
    have h0 : ops[k]? = some o := by simpa using (hl 0 (by simp)).symm
    simp only [List.length_cons] at hk hl hN
    simp only [List.length_cons, forced, Bool.and_eq_true, decide_eq_true_eq] at hB
    rw [List.length_cons, Nat.add_right_comm]
    refine ⟨fun h1 => (by rw [hB.1] at h1; cases h1), fun i hi => ?_⟩
    rw [hB.1] at hi
    have hik : i = k := by simpa using hi
    subst hik
    have hw : wpOp P ops Q i (wpList P ops (Exit.then N Q) l) a w := by
      unfold wpOp
      simp only [h0]
      unfold wpList at h
      split
      · rename_i hwt
        simp only [hwt, if_true] at h
        rcases h with h | ⟨h, hL⟩
        · exact .inl (Oper.wp_then h)
        · exact .inr ⟨h, hL⟩
      · rename_i hwt
        simp only [hwt] at h
        exact h
    rw [doneTo_set (by omega)]
    refine wpOp_mono (fun a' w' h' => wpAny_forced f l (i + 1) a' w' (by omega) (fun j hj => ?_) hB.2 ?_ h') hw
    · have := hl (j + 1) (by omega)
      simpa [Nat.add_assoc, Nat.add_comm 1 j] using this
    · intro a2 w2 h2
      have := hN a2 w2 h2
      rwa [show i + (l.length + 1) = i + 1 + l.length by omega] at this
theorem rest_forced (m : Nat) {Q : Exit → Act → World → Prop} {a : Act} {w : World} {l : List Oper} {k : Nat} (hB : (decide (k + m ≤ l.length) && forced l.toArray m k) = true)
    (h : wpList P l.toArray (Exit.then (Rest P l Q (k + m)) Q) ((l.drop k).take m) a w) : Rest P l Q k a w := by
  simp only [Bool.and_eq_true, decide_eq_true_eq] at hB
  obtain ⟨hk, hB⟩ := hB
  have hlen : ((l.drop k).take m).length = m := by simp; omega
  have := wpAny_forced (P := P) (ops := l.toArray) (N := Rest P l Q (k + m)) (Q := Q) (l.length - (k + m)) ((l.drop k).take m) k a w (by simp; omega) (fun j hj => by
    rw [hlen] at hj
    simp [List.getElem?_drop, hj]) (by rw [hlen]; exact hB) (fun a' w' h' => by
    rw [hlen]
    have h2 := h'
    unfold Rest at h2
    simpa using h2) h
  unfold Rest
  rw [hlen] at this
  rw [show l.length - k = m + (l.length - (k + m)) by omega]
  simpa using this
/-- Operations k to n - 1 all come ahead of operation n; and all behind n wait for one from n on. -/
def sinkFrom (ops : Array Oper) (k n : Nat) : Bool :=
  (List.range n).all fun i => decide (i < k) || (List.range (n + 1)).any fun j => decide (i < j) && Region.waitsFor .any ops j i
def tailFrom (ops : Array Oper) (n : Nat) : Bool :=
  (List.range ops.size).all fun t => decide (t ≤ n) || (List.range t).any fun j => decide (n ≤ j) && Region.waitsFor .any ops t j
/-- .. and in the text's order they may be taken. -/
def lexTo (ops : Array Oper) : Nat → Nat → Bool
  | 0, _ => true
  | f + 1, k => (Region.ready .any ops (doneTo ops.size k)).contains k && Region.free .any ops (doneTo ops.size k) k && lexTo ops f (k + 1)
theorem tail_waits2 {k n : Nat} {listed : Array Bool} (hs : sinkFrom ops k n = true) (hc : tailFrom ops n = true) (hn : n < ops.size) (inv : HeadInv .any ops n listed) :
    ∀ (d i : Nat), n - i = d → k ≤ i → i < n → listed.getD i true = false → ∀ t, n ≤ t → t ∉ Region.ready .any ops listed := by
  intro d
  induction d using Nat.strongRecOn with
  | _ d ih =>
    intro i hd hki hi hun t ht hr
    obtain ⟨_, ot, hot, hall⟩ := mem_ready.1 hr
    have htlt : t < ops.size := (Array.getElem?_eq_some_iff.1 hot).1
    by_cases htn : t = n
    · subst htn
      have h1 := List.all_eq_true.1 hs i (List.mem_range.2 hi)
      simp only [Bool.or_eq_true, decide_eq_true_eq] at h1
      rcases h1 with h1 | h1
      · omega
      obtain ⟨j, hj, hj2⟩ := List.any_eq_true.1 h1
      simp only [Bool.and_eq_true, decide_eq_true_eq] at hj2
      obtain ⟨oj, hoj, e, he, hb, hon⟩ := Region.waitsFor_spec hj2.2
      have hjle : j ≤ t := by have := List.mem_range.1 hj; omega
      by_cases hjt : j = t
      · subst hjt
        have : oj = ot := Option.some.inj (hoj.symm.trans hot)
        subst this
        have h2 := hall e he hb
        rw [hon, getD_both hun] at h2
        cases h2
      · cases hl : listed.getD j false with
        | true =>
          have h2 := inv.closed j oj hoj hl e he hb
          rw [hon, getD_both hun] at h2
          cases h2
        | false =>
          have hjs : j < listed.size := by rw [inv.size]; omega
          exact ih (t - j) (by omega) j rfl (by omega) (by omega) (getD_in hjs hl) t (Nat.le_refl _) hr
    · have h1 := List.all_eq_true.1 hc t (List.mem_range.2 htlt)
      simp only [Bool.or_eq_true, decide_eq_true_eq] at h1
      rcases h1 with h1 | h1
      · omega
      · obtain ⟨j, hj, hj2⟩ := List.any_eq_true.1 h1
        simp only [Bool.and_eq_true, decide_eq_true_eq] at hj2
        have hjt := List.mem_range.1 hj
        obtain ⟨o', ho', e, he, hb, hon⟩ := Region.waitsFor_spec hj2.2
        have : o' = ot := Option.some.inj (ho'.symm.trans hot)
        subst this
        have h2 := hall e he hb
        rw [hon, getD_both (inv.tail j (by omega) (by omega))] at h2
        cases h2
/-- T_first with what it asks of the tail laid bare. -/
theorem T_first2 {k n i : Nat} {oi : Oper} {v : Value} {L : Array Bool → Act → Prop} (hi : ops[i]? = some oi) (hsel : ∀ (j : Nat) (o : Oper) cs b, ops[j]? = some o → o.op ≠ .select cs b)
    (hs : sinkFrom ops k n = true) (hc : tailFrom ops n = true) (hn : n < ops.size) (hki : k ≤ i) (hin : i < n)
    (hdone : ∀ b a, L b a → ∀ j ∈ Region.ready .any ops b, n ≤ j) :
    ∀ (f : Nat) (b : Array Bool) (a : Act), HeadInv .any ops n b →
      (∀ j oj, ops[j]? = some oj → j ≠ i → b.getD j true = false → (∀ e ∈ oj.after, Region.binds .any e = true → e.on ≠ i) → oi.apart ops oj = true) →
      i ∈ Region.ready .any ops b → YieldsIn P ops C oi v a →
      AnyT P .any ops C n L f (b.setIfInBounds i true) (a.put oi.dst v) → AnyT P .any ops C n L (f + 1) b a := by
  intro f
  induction f with
  | zero =>
    intro b a inv _ hr hy H
    have hun := (mem_ready.1 hr).1
    have hlow : ∀ j ∈ Region.ready .any ops b, j < n := fun j hj => by
      rcases Nat.lt_or_ge j n with h | h
      · exact h
      · exact absurd hj (tail_waits2 hs hc hn inv _ i rfl hki hin hun j h)
    refine ⟨fun e => (by rw [e] at hr; cases hr), fun j hj => ⟨hlow j hj, ?_⟩⟩
    rcases Nat.decEq j i with h | h
    · have h1 := hdone _ _ H j (ready_mono hj h)
      have h2 := hlow j hj
      omega
    · subst h; exact hy.qOp hi H
  | succ f ih =>
    intro b a inv hfree hr hy H
    have hun := (mem_ready.1 hr).1
    have hlow : ∀ j ∈ Region.ready .any ops b, j < n := fun j hj => by
      rcases Nat.lt_or_ge j n with h | h
      · exact h
      · exact absurd hj (tail_waits2 hs hc hn inv _ i rfl hki hin hun j h)
    refine ⟨fun e => (by rw [e] at hr; cases hr), fun j hj => ⟨hlow j hj, ?_⟩⟩
    rcases Nat.decEq j i with hji | h
    · obtain ⟨hjun, oj, hoj, hall⟩ := mem_ready.1 hj
      have hnot : ∀ e ∈ oj.after, Region.binds .any e = true → e.on ≠ i := fun e he hb hon => by
        have := hall e he hb
        rw [hon, getD_both hun] at this
        cases this
      have hrest : ∀ k ok, ops[k]? = some ok → k ≠ i → (b.setIfInBounds j true).getD k true = false → (∀ e ∈ ok.after, Region.binds .any e = true → e.on ≠ i) → oi.apart ops ok = true := by
        intro k ok hk hki huk hno
        refine hfree k ok hk hki ?_ hno
        rcases Nat.decEq j k with hjk | hjk
        · rw [getD_set_ne true hjk] at huk; exact huk
        · subst hjk; exact hjun
      have h2 := qOp_put hoj (hfree j oj hoj hji hjun hnot) (fun cs c => hsel i oi cs c hi) (fun cs c => hsel j oj cs c hoj) hy (H.2 j (ready_mono hj hji)).2
      refine qOp_mono (fun a' h3 => ih (b.setIfInBounds j true) a' (inv.set hj (hlow j hj)) hrest (ready_mono hr (Ne.symm hji)) h3.1 ?_) h2
      rw [Array.setIfInBounds_comm _ _ hji]
      exact h3.2
    · subst h; exact hy.qOp hi H
theorem T_lex2 {s n : Nat} {Lq : Act → Prop} (hsel : Region.noSelect ops = true) (hs : sinkFrom ops s n = true) (hc : tailFrom ops n = true) (hn : n < ops.size) :
    ∀ (l : List Oper) (k : Nat) (a : Act), s ≤ k → (∀ j, j < l.length → l[j]? = ops[k + j]?) → k + l.length = n → HeadInv .any ops n (doneTo ops.size k) →
    lexTo ops l.length k = true → wpQuiet P ops C Lq l a →
    AnyT P .any ops C n (fun b' a' => b' = doneTo ops.size n ∧ Lq a') l.length (doneTo ops.size k) a := by
  intro l
  induction l with
  | nil =>
    intro k a _ _ hk _ hB h
    obtain rfl : k = n := by simpa using hk
    exact ⟨rfl, h⟩
  | cons o l ih =>
    intro k a hsk hl hk inv hB h
    have h0 : ops[k]? = some o := by simpa using (hl 0 (by simp)).symm
    simp only [List.length_cons] at hk hB hl
    simp only [lexTo, Bool.and_eq_true] at hB
    obtain ⟨⟨hr, hf⟩, hB⟩ := hB
    have hr' : k ∈ Region.ready .any ops (doneTo ops.size k) := by simpa using hr
    have hq : qOp P ops C k (wpQuiet P ops C Lq l) a := by unfold qOp; simp only [h0]; exact h
    obtain ⟨v, hy, hK⟩ := yieldsIn_of_qOp h0 hq
    refine T_first2 h0 (Region.noSelect_spec hsel) hs hc hn hsk (by omega) (fun b' a' hL j hj => ?_) l.length _ a inv (Region.free_spec h0 hf) hr' hy ?_
    · rw [hL.1] at hj
      obtain ⟨h1, _⟩ := mem_ready.1 hj
      rcases Nat.lt_or_ge j n with h2 | h2
      · have := doneTo_get (m := ops.size) (k := n) (by omega) j
        rw [if_pos h2] at this
        simp [Array.getD_eq_getD_getElem?, this] at h1
      · exact h2
    · have inv2 := inv.set hr' (show k < n by omega)
      rw [doneTo_set (by omega)] at inv2 ⊢
      refine ih (k + 1) _ (by omega) (fun j hj => ?_) (by omega) inv2 hB hK
      have := hl (j + 1) (by omega)
      simpa [Nat.add_assoc, Nat.add_comm 1 j] using this
/-- The first k are closed. -/
def closedTo (ops : Array Oper) (k : Nat) : Bool := (List.range k).all fun j => match ops[j]? with
  | some o => o.after.all fun e => !Region.binds .any e || decide (e.on < k)
  | none => true
theorem inv_doneTo {k n : Nat} (hk : k ≤ n) (hn : n < ops.size) (h : closedTo ops k = true) : HeadInv .any ops n (doneTo ops.size k) := by
  refine ⟨doneTo_size (by omega), fun j oj hj hl e he hb => ?_, fun t ht htl => ?_⟩
  · have hjk : j < k := by
      rcases Nat.lt_or_ge j k with h1 | h1
      · exact h1
      · have := doneTo_get (m := ops.size) (k := k) (by omega) j
        rw [if_neg (by omega), if_pos (Array.getElem?_eq_some_iff.1 hj).1] at this
        simp [Array.getD_eq_getD_getElem?, this] at hl
    have h1 := List.all_eq_true.1 h j (List.mem_range.2 hjk)
    simp only [hj] at h1
    have h2 := Array.all_eq_true_iff_forall_mem.1 h1 e he
    simp only [hb, Bool.not_true, Bool.false_or, decide_eq_true_eq] at h2
    have := doneTo_get (m := ops.size) (k := k) (by omega) e.on
    rw [if_pos h2] at this
    simp [Array.getD_eq_getD_getElem?, this]
  · have := doneTo_get (m := ops.size) (k := k) (by omega) t
    rw [if_neg (by omega), if_pos htl] at this
    simp [Array.getD_eq_getD_getElem?, this]
/-- m operations from the k-th on are quiet in C. -/
theorem rest_quiet (C : World → Prop) (m : Nat) {Q : Exit → Act → World → Prop} {a : Act} {w : World} {l : List Oper} {k : Nat}
    (hB : (decide (k + m < l.length) && Region.noSelect l.toArray && sinkFrom l.toArray k (k + m) && tailFrom l.toArray (k + m) && closedTo l.toArray k && lexTo l.toArray m k) = true) (hC : C w)
    (h : wpQuiet P l.toArray C (fun a' => ∀ w', C w' → Rest P l Q (k + m) a' w') ((l.drop k).take m) a) : Rest P l Q k a w := by
  simp only [Bool.and_eq_true, decide_eq_true_eq] at hB
  obtain ⟨⟨⟨⟨⟨hk, hsel⟩, hs⟩, hc⟩, hcl⟩, hlex⟩ := hB
  have hlen : ((l.drop k).take m).length = m := by simp; omega
  have hn : k + m < l.toArray.size := by simpa using hk
  have H := T_lex2 (P := P) (C := C) hsel hs hc hn ((l.drop k).take m) k a (Nat.le_refl _) (fun j hj => by
    rw [hlen] at hj
    simp [List.getElem?_drop, hj]) (by rw [hlen]) (inv_doneTo (by omega) hn hcl) (by rw [hlen]; exact hlex) h
  unfold Rest
  rw [hlen] at H
  have := any_of_T (Q := Q) (g := l.length - (k + m)) (fun b a' w' hw' hL => by
    have h2 := hL.2 w' hw'
    unfold Rest at h2
    rw [hL.1]
    simpa using h2) _ _ _ _ hC H
  rw [show l.length - k = m + (l.length - (k + m)) by omega]
  simpa using this
/-- What is left of a region, the operations that are done in a row of Booleans. -/
def RestG (P : Program) (l : List Oper) (Q : Exit → Act → World → Prop) (f : Nat) (b : Array Bool) (a : Act) (w : World) : Prop := wpAny P .any l.toArray Q f b a w
theorem rest_open (f : Nat) {Q : Exit → Act → World → Prop} {a : Act} {w : World} {l : List Oper} {k : Nat} (hf : l.length - k = f) (h : RestG P l Q f (doneTo l.length k) a w) : Rest P l Q k a w := by
  subst hf; exact h
theorem wpOp_of_list {o : Oper} {i : Nat} {N : Act → World → Prop} {Q : Exit → Act → World → Prop} {a : Act} {w : World} (h0 : ops[i]? = some o) (h : wpList P ops (Exit.then N Q) [o] a w) : wpOp P ops Q i N a w := by
  unfold wpOp
  simp only [h0]
  unfold wpList at h
  split
  · rename_i hwt
    simp only [hwt, if_true] at h
    rcases h with h | ⟨h, hL⟩
    · exact .inl (Oper.wp_mono (fun _ _ h => h) (Oper.wp_then h))
    · exact .inr ⟨h, hL⟩
  · rename_i hwt
    simp only [hwt] at h
    exact h
/-- Two operations are ready. -/
theorem rest_two {Q : Exit → Act → World → Prop} {a : Act} {w : World} {l : List Oper} {f i j : Nat} {b : Array Bool} {oi oj : Oper} (hr : Region.ready .any l.toArray b = [i, j]) (hi : l[i]? = some oi) (hj : l[j]? = some oj)
    (h1 : wpList P l.toArray (Exit.then (RestG P l Q f (b.setIfInBounds i true)) Q) [oi] a w) (h2 : wpList P l.toArray (Exit.then (RestG P l Q f (b.setIfInBounds j true)) Q) [oj] a w) : RestG P l Q (f + 1) b a w := by
  refine ⟨fun h => (by rw [hr] at h; cases h), fun x hx => ?_⟩
  rw [hr] at hx
  rcases List.mem_cons.1 hx with rfl | hx
  · exact wpOp_of_list (by simpa using hi) h1
  · have : x = j := by simpa using hx
    subst this
    exact wpOp_of_list (by simpa using hj) h2
/-- One is. -/
theorem rest_one {Q : Exit → Act → World → Prop} {a : Act} {w : World} {l : List Oper} {f i : Nat} {b : Array Bool} {oi : Oper} (hr : Region.ready .any l.toArray b = [i]) (hi : l[i]? = some oi)
    (h1 : wpList P l.toArray (Exit.then (RestG P l Q f (b.setIfInBounds i true)) Q) [oi] a w) : RestG P l Q (f + 1) b a w := by
  refine ⟨fun h => (by rw [hr] at h; cases h), fun x hx => ?_⟩
  rw [hr] at hx
  have : x = i := by simpa using hx
  subst this
  exact wpOp_of_list (by simpa using hi) h1
theorem rest_zero {Q : Exit → Act → World → Prop} {a : Act} {w : World} {l : List Oper} {b : Array Bool} (hr : Region.ready .any l.toArray b = []) (h : Q .normal a w) : RestG P l Q 0 b a w := ⟨hr, h⟩
theorem rest_close (k : Nat) {Q : Exit → Act → World → Prop} {a : Act} {w : World} {l : List Oper} {f : Nat} {b : Array Bool} (hf : l.length - k = f) (hb : doneTo l.length k = b) (h : Rest P l Q k a w) : RestG P l Q f b a w := by
  subst hf; subst hb; exact h
theorem rest_done {Q : Exit → Act → World → Prop} {a : Act} {w : World} {l : List Oper} {k : Nat} (hk : l.length = k) (h : Q .normal a w) : Rest P l Q k a w := by
  subst hk; exact rest_end h
end
end Go.Proofs.YtaadipccgckehaaGreatDoor
namespace Go.Proofs.YtaadipccgckehaaGreatDoor
open Go
section
variable {P : Program} {n l : Nat} {ops : Array Oper} {Q : Exit → Act → World → Prop}

/-- The same, and no exit for want of room. -/
def noOut (Q : Exit → Act → World → Prop) : Exit → Act → World → Prop := fun e a w => e ≠ .outgrown ∧ Q e a w
theorem noOut_not (Q : Exit → Act → World → Prop) : ¬ LetsOut (noOut Q) := fun ⟨_, _, h⟩ => h.1 rfl
def noDefer (ops : Array Oper) : Bool := ops.all fun o => match o.op with
  | .defer _ => false
  | _ => true
theorem noDefer_spec {o : Oper} {i : Nat} (h : noDefer ops = true) (hi : ops[i]? = some o) : ∀ c, o.op ≠ .defer c := by
  intro c hc
  have := Array.all_eq_true_iff_forall_mem.1 h o (Array.mem_of_getElem? hi)
  simp [hc] at this
theorem rows_round {row : String} {args : Array Value} {w : World} {R : Value → World → Prop} (h : Rows P row args w R) : RowsIn (Fence.wide.inRound l) n P row args w R :=
  fun c cs _ => by
    obtain ⟨v, w', hr, hs⟩ := h c cs
    exact ⟨v, w', hr, (StepsIn.of_steps hs).mono fun m _ => fenced_wide P m⟩
theorem Oper.wp_round {o : Oper} {a : Act} {w : World} {K : Act → World → Prop} (hd : ∀ c, o.op ≠ .defer c) (h : o.wp P a w K Q) : o.wpIn (Fence.wide.inRound l) n P a w K Q := by
  unfold Oper.wpIn
  refine ⟨fun _ _ => trivial, ?_⟩
  rw [Fence.inRound_round, Oper.semAt_some l _ _ hd]
  unfold Oper.wp at h
  generalize (execOp a.eval o).run P w = r at *
  cases r with
  | ok x w' =>
    cases x <;> simp only [Oper.upon, Oper.uponIn] at h ⊢
    case enter => exact ⟨fun hx => (by cases hx), CallsIn.mono (CallsIn.inRound l (callsIn_wide.2 h)) (fun e w'' he => by cases e <;> exact he)⟩
    all_goals first
      | exact h
      | exact ⟨fun hx => (by cases hx), CallsIn.mono (CallsIn.inRound l (callsIn_wide.2 h)) (fun e w'' he => by cases e <;> exact he)⟩
      | exact ⟨fun hx => (by cases hx), rows_round h⟩
  | halt x w' => cases x <;> simp only [Oper.upon, Oper.uponIn] at h ⊢ <;> exact h
theorem wpAny_round (hd : noDefer ops = true) (hQ : ¬ LetsOut Q) : ∀ (f : Nat) (listed : Array Bool) (a : Act) (w : World), wpAny P .any ops Q f listed a w → wpAnyIn (Fence.wide.inRound l) n P .any ops Q f listed a w := by
  intro f
  induction f with
  | zero => intro listed a w h; exact h
  | succ f ih =>
    intro listed a w h
    refine ⟨h.1, fun i hi => ?_⟩
    refine wpOpIn_mono (fun a' w' h' => ih _ a' w' h') ?_
    have h2 := h.2 i hi
    unfold wpOp at h2
    unfold wpOpIn
    split
    · rename_i h0; simpa [h0] using h2
    · rename_i o h0
      simp only [h0] at h2
      split
      · rename_i hw
        simp only [hw, if_true] at h2
        rcases h2 with h2 | ⟨_, h2⟩
        · exact Oper.wp_round (noDefer_spec hd h0) h2
        · exact absurd h2 hQ
      · rename_i hw
        simp only [hw] at h2
        exact ⟨fun _ _ => trivial, h2⟩
/-- In pieces: rest_begin for a round. -/
theorem rest_round {id : Nat} {a : Act} {w : World} {ls : List Oper} (hm : P.follows .mixedOrders = true) (hd : noDefer ls.toArray = true) (h : Rest P ls (noOut Q) 0 a w.drew) : (Code.region id ls.toArray true).wpIn (Fence.wide.inRound l) n P Q a w := by
  refine Code.wpIn_mono (Q := noOut Q) (fun e a w h => h.2) ?_
  refine wpIn_region_any hm (wpAny_round hd (noOut_not Q) _ _ _ _ ?_)
  rw [show ls.toArray.size = ls.length by simp, doneTo_zero]
  unfold Rest at h
  simpa using h
end
end Go.Proofs.YtaadipccgckehaaGreatDoor
namespace Go.Proofs.YtaadipccgckehaaGreatDoor
open Go Go.RowKit
section
variable {P : Program} {ops : Array Oper}

/-- The frame when the operations from k on have put u k, u (k + 1), .. into their slots. -/
def putRow (u : Nat → Value) : Nat → List (Option Tmp) → Act → Act
  | _, [], a => a
  | k, d :: ds, a => putRow u (k + 1) ds (a.put d (u k))
theorem put_put {a : Act} {d : Option Tmp} {v v' : Value} : (a.put d v).put d v' = a.put d v' := by
  cases d with
  | none => rfl
  | some d => simp [Act.put]
theorem put_comm {a : Act} {d e : Option Tmp} {v v' : Value} (h : d = none ∨ d ≠ e) : (a.put e v').put d v = (a.put d v).put e v' := by
  cases d with
  | none => rfl
  | some d =>
    cases e with
    | none => rfl
    | some e =>
      have : e ≠ d := by
        rcases h with h | h
        · cases h
        · exact fun he => h (by rw [he])
      simp only [Act.put]
      rw [Array.setIfInBounds_comm _ _ this]
/-- Slots that are written are different ones. -/
def apartB (d : Option Tmp) (ds : List (Option Tmp)) : Bool := ds.all fun e => d.isNone || decide (d ≠ e)
def distinctB : List (Option Tmp) → Bool
  | [] => true
  | d :: ds => apartB d ds && distinctB ds
theorem putRow_put {u : Nat → Value} {d : Option Tmp} {v : Value} : ∀ (ds : List (Option Tmp)) (k : Nat) (a : Act), apartB d ds = true → (putRow u k ds a).put d v = putRow u k ds (a.put d v)
  | [], _, _, _ => rfl
  | e :: ds, k, a, h => by
    unfold apartB at h
    simp only [List.all_cons, Bool.and_eq_true, Bool.or_eq_true, decide_eq_true_eq] at h
    unfold putRow
    rw [putRow_put ds (k + 1) _ h.2, put_comm]
    rcases h.1 with h1 | h1
    · exact .inl (by simpa using h1)
    · exact .inr h1
def upd (u : Nat → Value) (i : Nat) (v : Value) : Nat → Value := fun j => if j = i then v else u j
theorem putRow_congr {u u' : Nat → Value} : ∀ (ds : List (Option Tmp)) (k : Nat) (a : Act), (∀ j, k ≤ j → j < k + ds.length → u j = u' j) → putRow u k ds a = putRow u' k ds a
  | [], _, _, _ => rfl
  | d :: ds, k, a, h => by
    unfold putRow
    rw [h k (Nat.le_refl _) (by simp), putRow_congr ds (k + 1) _ (fun j h1 h2 => h j (by omega) (by simp only [List.length_cons]; omega))]
theorem putRow_set {u : Nat → Value} {v : Value} : ∀ (ds : List (Option Tmp)) (k i : Nat) (a : Act) (d : Option Tmp), distinctB ds = true → k ≤ i → ds[i - k]? = some d → (putRow u k ds a).put d v = putRow (upd u i v) k ds a
  | [], _, _, _, _, _, _, h => by simp at h
  | e :: ds, k, i, a, d, hd, hk, h => by
    simp only [distinctB, Bool.and_eq_true] at hd
    unfold putRow
    rcases Nat.eq_or_lt_of_le hk with rfl | hlt
    · obtain rfl : e = d := by simpa using h
      rw [putRow_put ds (k + 1) _ hd.1, put_put, show upd u k v k = v by simp [upd]]
      exact putRow_congr ds (k + 1) _ (fun j h1 _ => by simp [upd]; omega)
    · rw [show upd u i v k = u k by simp [upd]; omega]
      refine putRow_set ds (k + 1) i _ d hd.2 (by omega) ?_
      rw [show i - k = (i - (k + 1)) + 1 by omega] at h
      simpa using h
theorem put_self {a : Act} {d : Tmp} (h : d < a.tmps.size) : a.put (some d) (a.tmps[d]'h) = a := by
  simp only [Act.put]
  have : a.tmps.setIfInBounds d (a.tmps[d]'h) = a.tmps := by
    apply Array.ext_getElem?
    intro j
    rw [Array.getElem?_setIfInBounds]
    by_cases hj : d = j
    · subst hj; simp [h]
    · simp [hj]
  rw [this]
/-- What the frame holds already, as such a row. -/
theorem putRow_self (a : Act) : ∀ (ds : List (Option Tmp)) (k : Nat), (∀ d, some d ∈ ds → d < a.tmps.size) → ∃ u, putRow u k ds a = a
  | [], _, _ => ⟨fun _ => .int .i64 0, rfl⟩
  | d :: ds, k, h => by
    obtain ⟨u, hu⟩ := putRow_self a ds (k + 1) (fun d hd => h d (List.mem_cons_of_mem _ hd))
    cases d with
    | none =>
      refine ⟨u, ?_⟩
      unfold putRow
      exact hu
    | some d =>
      refine ⟨upd u k (a.tmps[d]'(h d (by simp))), ?_⟩
      unfold putRow
      rw [show upd u k (a.tmps[d]'(h d (by simp))) k = a.tmps[d]'(h d (by simp)) by simp [upd], put_self]
      rw [putRow_congr ds (k + 1) a (u' := u) (fun j h1 _ => by simp [upd]; omega)]
      exact hu
/-- What each operation of a piece must do, from any world that has come of W. -/
def flowSteps (P : Program) (full : Array Oper) (W : World) (sp : Nat → Value → World → Prop) (Q : Exit → Act → World → Prop) (k : Nat) (u : Nat → Value) (a' : Act) : Nat → List Oper → Prop
  | _, [] => True
  | j, o :: r => (∀ w', Below W.heap.size W w' → (∀ e ∈ o.after, Region.binds .any e = true → k ≤ e.on → sp e.on (u e.on) w') →
      ∀ K : Act → World → Prop, (∀ v w'', sp j v w'' → Below w'.heap.size w' w'' → K (a'.put o.dst v) w'') → wpList P full (Exit.then K Q) [o] a' w') ∧ flowSteps P full W sp Q k u a' (j + 1) r
theorem flowSteps_at {full : Array Oper} {W : World} {sp : Nat → Value → World → Prop} {Q : Exit → Act → World → Prop} {k : Nat} {u : Nat → Value} {a' : Act} : ∀ (r : List Oper) (j i : Nat) (o : Oper), flowSteps P full W sp Q k u a' j r → j ≤ i → r[i - j]? = some o →
    (∀ w', Below W.heap.size W w' → (∀ e ∈ o.after, Region.binds .any e = true → k ≤ e.on → sp e.on (u e.on) w') →
      ∀ K : Act → World → Prop, (∀ v w'', sp i v w'' → Below w'.heap.size w' w'' → K (a'.put o.dst v) w'') → wpList P full (Exit.then K Q) [o] a' w')
  | [], _, _, _, _, _, h => by simp at h
  | x :: r, j, i, o, hs, hj, h => by
    rcases Nat.eq_or_lt_of_le hj with rfl | hlt
    · obtain rfl : x = o := by simpa using h
      exact hs.1
    · refine flowSteps_at r (j + 1) i o hs.2 (by omega) ?_
      rw [show i - j = (i - (j + 1)) + 1 by omega] at h
      simpa using h
/-- Each operation waits for earlier ones alone. -/
def backB (ops : Array Oper) (n : Nat) : Bool := (List.range n).all fun j => match ops[j]? with | some o => o.after.all fun e => !Region.binds .any e || decide (e.on < j) | none => false
structure FlowInv (ops : Array Oper) (W : World) (sp : Nat → Value → World → Prop) (k n : Nat) (b : Array Bool) (u : Nat → Value) (w' : World) : Prop where
  head : HeadInv .any ops n b
  low : ∀ j, j < k → b.getD j false = true
  vals : ∀ j, k ≤ j → j < n → b.getD j false = true → sp j (u j) w'
  below : Below W.heap.size W w'
/-- How many of the first n are still to be done. -/
def undone (b : Array Bool) (j : Nat) : Bool := !b.getD j false
def left (b : Array Bool) (n : Nat) : Nat := ((List.range n).filter (undone b)).length
theorem left_zero {b : Array Bool} {n : Nat} (h : left b n = 0) : ∀ j, j < n → b.getD j false = true := fun j hj => by
  unfold left at h
  rw [List.length_eq_zero_iff, List.filter_eq_nil_iff] at h
  have := h j (List.mem_range.2 hj)
  unfold undone at this
  simpa using this
theorem left_some {b : Array Bool} {n : Nat} (h : left b n ≠ 0) : ∃ j, j < n ∧ b.getD j false = false ∧ ∀ i, i < j → b.getD i false = true := by
  induction n with
  | zero => simp [left] at h
  | succ n ih =>
    by_cases h0 : left b n = 0
    · refine ⟨n, by omega, ?_, fun i hi => left_zero h0 i hi⟩
      cases hb : b.getD n false with
      | false => rfl
      | true =>
        refine absurd ?_ h
        unfold left at h0 ⊢
        rw [List.range_succ, List.filter_append, List.length_append, h0]
        simp [undone, hb]
    · obtain ⟨j, hj, h1, h2⟩ := ih h0
      exact ⟨j, by omega, h1, h2⟩
theorem left_set {b : Array Bool} {n i : Nat} (hi : i < n) (hb : b.getD i true = false) : left b n = left (b.setIfInBounds i true) n + 1 := by
  unfold left
  have hlt : i < b.size := by
    rcases Nat.lt_or_ge i b.size with h | h
    · exact h
    · simp [Array.getD_eq_getD_getElem?, Array.getElem?_eq_none h] at hb
  have key : ∀ (l : List Nat), l.Nodup → i ∈ l → (l.filter (undone b)).length = (l.filter (undone (b.setIfInBounds i true))).length + 1 := by
    intro l
    induction l with
    | nil => intro _ h; cases h
    | cons x l ih =>
      intro hn hm
      rw [List.nodup_cons] at hn
      by_cases hx : x = i
      · subst hx
        have e1 : undone b x = true := by unfold undone; rw [getD_both hb]; rfl
        have e2 : undone (b.setIfInBounds x true) x = false := by unfold undone; simp [Array.getD_eq_getD_getElem?, hlt]
        have e3 : l.filter (undone b) = l.filter (undone (b.setIfInBounds x true)) := List.filter_congr fun j hj => by
          unfold undone
          rw [getD_set_ne false (fun h => hn.1 (by rw [h]; exact hj))]
        simp [e1, e2, e3]
      · have hm' : i ∈ l := by
          rcases List.mem_cons.1 hm with h | h
          · exact absurd h.symm hx
          · exact h
        have := ih hn.2 hm'
        have e : undone (b.setIfInBounds i true) x = undone b x := by unfold undone; rw [getD_set_ne false (Ne.symm hx)]
        cases hp : undone b x with
        | true => simp [e, hp, this]
        | false => simp [e, hp, this]
  exact key _ List.nodup_range (List.mem_range.2 hi)
theorem flow_any {full : List Oper} {W : World} {sp : Nat → Value → World → Prop} {Q : Exit → Act → World → Prop} {k m : Nat} {ds : List (Option Tmp)} {a : Act}
    (hs : sinkFrom full.toArray k (k + m) = true) (hc : tailFrom full.toArray (k + m) = true) (hn : k + m < full.length) (hbk : backB full.toArray (k + m) = true)
    (hds : ((full.drop k).take m).map (·.dst) = ds) (hdd : distinctB ds = true)
    (hup : ∀ j v w1 w2, sp j v w1 → Below w1.heap.size w1 w2 → sp j v w2)
    (hstep : ∀ u, flowSteps P full.toArray W sp Q k u (putRow u k ds a) k ((full.drop k).take m))
    (hend : ∀ u w', Below W.heap.size W w' → (∀ j, k ≤ j → j < k + m → sp j (u j) w') → Rest P full Q (k + m) (putRow u k ds a) w') :
    ∀ (f : Nat) (b : Array Bool) (u : Nat → Value) (w' : World), left b (k + m) = f → FlowInv full.toArray W sp k (k + m) b u w' → wpAny P .any full.toArray Q (f + (full.length - (k + m))) b (putRow u k ds a) w' := by
  intro f
  induction f with
  | zero =>
    intro b u w' hl inv
    have hall := left_zero hl
    have hb : b = doneTo full.toArray.size (k + m) := by
      apply Array.ext_getElem?
      intro j
      rw [doneTo_get (by simp; omega)]
      rcases Nat.lt_or_ge j b.size with hj | hj
      · have hjs : j < full.toArray.size := by rw [← inv.head.size]; exact hj
        by_cases h1 : j < k + m
        · rw [if_pos h1]
          have := hall j h1
          simpa [Array.getD_eq_getD_getElem?, hj] using this
        · rw [if_neg h1, if_pos hjs]
          have := inv.head.tail j (by omega) hjs
          simpa [Array.getD_eq_getD_getElem?, hj] using this
      · have hjs : ¬ j < full.toArray.size := by rw [← inv.head.size]; omega
        rw [Array.getElem?_eq_none hj, if_neg (by simp at hjs; omega), if_neg hjs]
    have := hend u w' inv.below (fun j h1 h2 => inv.vals j h1 h2 (hall j h2))
    unfold Rest at this
    rw [hb, Nat.zero_add]
    simpa using this
  | succ f ih =>
    intro b u w' hl inv
    obtain ⟨j0, hj0, hu0, hb0⟩ := left_some (b := b) (n := k + m) (by omega)
    have hbsz : b.size = full.length := by rw [inv.head.size]; simp
    have hkj0 : k ≤ j0 := by
      rcases Nat.lt_or_ge j0 k with h | h
      · rw [inv.low j0 h] at hu0; cases hu0
      · exact h
    have hun0 : b.getD j0 true = false := getD_in (by omega) hu0
    have hr0 : j0 ∈ Region.ready .any full.toArray b := by
      have h1 := List.all_eq_true.1 hbk j0 (List.mem_range.2 hj0)
      cases ho : full.toArray[j0]? with
      | none => simp only [ho] at h1; cases h1
      | some o =>
        simp only [ho] at h1
        refine mem_ready.2 ⟨hun0, o, ho, fun e he hb => ?_⟩
        have h2 := Array.all_eq_true_iff_forall_mem.1 h1 e he
        simp only [hb, Bool.not_true, Bool.false_or, decide_eq_true_eq] at h2
        exact hb0 _ h2
    rw [Nat.succ_add]
    refine ⟨fun e => (by rw [e] at hr0; cases hr0), fun i hi => ?_⟩
    obtain ⟨hun, oi, hoi, hall⟩ := mem_ready.1 hi
    have hin : i < k + m := by
      rcases Nat.lt_or_ge i (k + m) with h | h
      · exact h
      · exact absurd hi (tail_waits2 hs hc (by simpa using hn) inv.head _ j0 rfl hkj0 hj0 hun0 i h)
    have hki : k ≤ i := by
      rcases Nat.lt_or_ge i k with h | h
      · have := inv.low i h
        rw [getD_both hun] at this; cases this
      · exact h
    have hoil : full[i]? = some oi := by simpa using hoi
    have hoi2 : ((full.drop k).take m)[i - k]? = some oi := by
      rw [List.getElem?_take, if_pos (by omega), List.getElem?_drop, show k + (i - k) = i by omega]
      exact hoil
    have hdi : ds[i - k]? = some oi.dst := by rw [← hds, List.getElem?_map, hoi2]; rfl
    have hst := flowSteps_at _ k i oi (hstep u) hki hoi2 w' inv.below (fun e he hb hke => by
      have hdone := hall e he hb
      have hlt : e.on < k + m := by
        rcases Nat.lt_or_ge e.on (k + m) with h | h
        · exact h
        · rcases Nat.lt_or_ge e.on full.toArray.size with h2 | h2
          · have := inv.head.tail e.on h h2
            rw [getD_both this] at hdone; cases hdone
          · have : b.getD e.on false = false := by simp [Array.getD_eq_getD_getElem?, Array.getElem?_eq_none (show b.size ≤ e.on by rw [inv.head.size]; exact h2)]
            rw [this] at hdone; cases hdone
      exact inv.vals e.on hke hlt hdone)
      (fun a2 w2 => wpAny P .any full.toArray Q (f + (full.length - (k + m))) (b.setIfInBounds i true) a2 w2)
      (fun v w'' hv hbl => by
        rw [putRow_set ds k i a oi.dst hdd hki hdi]
        refine ih (b.setIfInBounds i true) (upd u i v) w'' (by have := left_set hin hun; omega) ⟨inv.head.set hi hin, fun j hj => ?_, fun j h1 h2 hd => ?_, inv.below.trans (hbl.mono inv.below.size)⟩
        · rw [getD_set_ne false (by omega)]; exact inv.low j hj
        · by_cases hji : j = i
          · subst hji
            rw [show upd u j v j = v by simp [upd]]
            exact hv
          · rw [show upd u i v j = u j by simp [upd, hji]]
            rw [getD_set_ne false (Ne.symm hji)] at hd
            exact hup j _ _ _ (inv.vals j h1 h2 hd) hbl)
    exact wpOp_of_list hoi hst
/-- A piece of m operations from the k-th on; sp j says what is known of the j-th one's value. -/
theorem rest_flow {W : World} (ds : List (Option Tmp)) (sp : Nat → Value → World → Prop) (m : Nat) {Q : Exit → Act → World → Prop} {a : Act} {l : List Oper} {k : Nat}
    (hB : (decide (k + m < l.length) && sinkFrom l.toArray k (k + m) && tailFrom l.toArray (k + m) && closedTo l.toArray k && backB l.toArray (k + m) && distinctB ds && ds.all (fun d => match d with | some d => decide (d < a.tmps.size) | none => true)) = true)
    (hds : ((l.drop k).take m).map (·.dst) = ds)
    (hup : ∀ j v w1 w2, sp j v w1 → Below w1.heap.size w1 w2 → sp j v w2)
    (hstep : ∀ u, flowSteps P l.toArray W sp Q k u (putRow u k ds a) k ((l.drop k).take m))
    (hend : ∀ u w', Below W.heap.size W w' → (∀ j, k ≤ j → j < k + m → sp j (u j) w') → Rest P l Q (k + m) (putRow u k ds a) w') : Rest P l Q k a W := by
  simp only [Bool.and_eq_true, decide_eq_true_eq] at hB
  obtain ⟨⟨⟨⟨⟨⟨hk, hs⟩, hc⟩, hcl⟩, hbk⟩, hdd⟩, hsz⟩ := hB
  obtain ⟨u, hu⟩ := putRow_self a ds k (fun d hd => by
    have := List.all_eq_true.1 hsz (some d) hd
    simpa using this)
  have hleft : left (doneTo l.length k) (k + m) = m := by
    unfold left
    have : (List.range (k + m)).filter (undone (doneTo l.length k)) = (List.range m).map (k + ·) := by
      rw [List.range_add, List.filter_append]
      have h1 : (List.range k).filter (undone (doneTo l.length k)) = [] := by
        rw [List.filter_eq_nil_iff]
        intro j hj
        have := doneTo_get (m := l.length) (k := k) (by omega) j
        rw [if_pos (List.mem_range.1 hj)] at this
        simp [undone, Array.getD_eq_getD_getElem?, this]
      rw [h1, List.nil_append, List.filter_eq_self]
      intro j hj
      obtain ⟨x, hx, rfl⟩ := List.mem_map.1 hj
      have := doneTo_get (m := l.length) (k := k) (by omega) (k + x)
      rw [if_neg (by omega), if_pos (by have := List.mem_range.1 hx; omega)] at this
      simp [undone, Array.getD_eq_getD_getElem?, this]
    rw [this]; simp
  have H := flow_any (P := P) (Q := Q) (a := a) hs hc hk hbk hds hdd hup hstep hend m (doneTo l.length k) u W hleft
    ⟨by have := inv_doneTo (ops := l.toArray) (k := k) (n := k + m) (by omega) (by simpa using hk) hcl; simpa using this,
     fun j hj => by
      have := doneTo_get (m := l.length) (k := k) (by omega) j
      rw [if_pos hj] at this
      simp [Array.getD_eq_getD_getElem?, this],
     fun j h1 h2 hd => by
      have := doneTo_get (m := l.length) (k := k) (by omega) j
      rw [if_neg (by omega), if_pos (by omega)] at this
      simp [Array.getD_eq_getD_getElem?, this] at hd,
     Below.refl _ _⟩
  rw [hu] at H
  unfold Rest
  rw [show l.length - k = m + (l.length - (k + m)) by omega]
  exact H
end
end Go.Proofs.YtaadipccgckehaaGreatDoor
namespace Go.Proofs.YtaadipccgckehaaGreatDoor
open Go Go.RowKit
section
variable {P : Program} {ops : Array Oper} {o : Oper} {a : Act} {w : World} {K : Act → World → Prop} {Q : Exit → Act → World → Prop}
theorem op_val {v : Value} {w' : World} (hg : o.guard = none) (hrun : (execOp a.eval o).run P w = .ok (.value v) w') (hK : K (a.put o.dst v) w') : wpList P ops (Exit.then K Q) [o] a w := by
  refine wpList_plain hg fun K' hK' => ?_
  unfold Oper.wp
  rw [hrun, Oper.upon_value]
  exact hK' _ _ hK
theorem op_call {f : FuncId} {args : Array Value} {R : Value → World → Prop} (hg : o.guard = none) (hrun : (execOp a.eval o).run P w = .ok (.enter f args) w) (hc : Calls P f args w fun e w'' => ∃ v, e = .returned v ∧ R v w'') (hK : ∀ v w'', R v w'' → K (a.put o.dst v) w'') : wpList P ops (Exit.then K Q) [o] a w := by
  refine wpList_plain hg fun K' hK' => ?_
  unfold Oper.wp
  rw [hrun, Oper.upon_enter]
  refine hc.mono fun e w'' hh => ?_
  obtain ⟨v, rfl, hR⟩ := hh
  exact hK' _ _ (hK _ _ hR)
end
/-- What is known of a value; kept when the world grows. -/
structure Sp where
  p : Value → World → Prop
  up : ∀ v w1 w2, p v w1 → Below w1.heap.size w1 w2 → p v w2
def Sp.is (x : Value) : Sp := ⟨fun v _ => v = x, fun _ _ _ h _ => h⟩
def Sp.any : Sp := ⟨fun _ _ => True, fun _ _ _ h _ => h⟩
/-- A slice of the values xs in a block. -/
def Sp.row (xs : List Value) : Sp := ⟨fun v w => ∃ b, v = .slice (some ⟨b, 0, none⟩) xs.length xs.length ∧ b < w.heap.size ∧ ∀ i x, xs[i]? = some x → w.cell? ⟨b, i, none⟩ = some x,
  fun _ _ _ ⟨b, h1, h2, h3⟩ hb => ⟨b, h1, Nat.lt_of_lt_of_le h2 hb.size, fun i x hx => (hb.cell h2).trans (h3 i x hx)⟩⟩
theorem Sp.row_new (w : World) (t : TypeId) (xs : List Value) (n b : Nat) (hn : xs.length = n) (hb : w.heap.size = b) : (Sp.row xs).p (.slice (some ⟨b, 0, none⟩) n n) (w.alloc (.cells xs.toArray t)) := by
  subst hn hb
  refine ⟨_, rfl, by simp, fun i x hx => ?_⟩
  exact (Blk.new w t xs.toArray).cell (by simpa using hx)
def spAt (sps : List Sp) (k : Nat) (j : Nat) : Value → World → Prop := (sps.getD (j - k) Sp.any).p
theorem spAt_up (sps : List Sp) (k j : Nat) (v : Value) (w1 w2 : World) (h : spAt sps k j v w1) (hb : Below w1.heap.size w1 w2) : spAt sps k j v w2 := (sps.getD (j - k) Sp.any).up v w1 w2 h hb
section
variable {P : Program}
theorem rest_flow2 {W : World} (ds : List (Option Tmp)) (sps : List Sp) (m : Nat) {Q : Exit → Act → World → Prop} {a : Act} {l : List Oper} {k : Nat}
    (hB : (decide (k + m < l.length) && sinkFrom l.toArray k (k + m) && tailFrom l.toArray (k + m) && closedTo l.toArray k && backB l.toArray (k + m) && distinctB ds && ds.all (fun d => match d with | some d => decide (d < a.tmps.size) | none => true)) = true)
    (hds : ((l.drop k).take m).map (·.dst) = ds)
    (hstep : ∀ u F, F = putRow u k ds a → flowSteps P l.toArray W (spAt sps k) Q k u F k ((l.drop k).take m))
    (hend : ∀ u w', Below W.heap.size W w' → (∀ j, k ≤ j → j < k + m → spAt sps k j (u j) w') → Rest P l Q (k + m) (putRow u k ds a) w') : Rest P l Q k a W :=
  rest_flow ds (spAt sps k) m hB hds (spAt_up sps k) (fun u => hstep u _ rfl) hend
theorem put_tmps {a : Act} {d : Option Tmp} {v : Value} : (a.put d v).tmps.size = a.tmps.size := by
  cases d <;> simp [Act.put]
theorem get_out {u : Nat → Value} {s : Nat} : ∀ (ds : List (Option Tmp)) (k : Nat) (a : Act), (ds.all fun d => decide (d ≠ some s)) = true → (putRow u k ds a).tmps[s]?.getD undef = a.tmps[s]?.getD undef
  | [], _, _, _ => rfl
  | d :: ds, k, a, h => by
    simp only [List.all_cons, Bool.and_eq_true, decide_eq_true_eq] at h
    unfold putRow
    rw [get_out ds (k + 1) _ h.2]
    cases d with
    | none => rfl
    | some d =>
      have : d ≠ s := fun e => h.1 (by rw [e])
      simp only [Act.put]
      rw [Array.getElem?_setIfInBounds_ne this]
theorem get_in {u : Nat → Value} {s : Nat} : ∀ (ds : List (Option Tmp)) (k j : Nat) (a : Act), distinctB ds = true → k ≤ j → ds[j - k]? = some (some s) → s < a.tmps.size → (putRow u k ds a).tmps[s]?.getD undef = u j
  | [], _, _, _, _, _, h, _ => by simp at h
  | d :: ds, k, j, a, hd, hk, h, hs => by
    simp only [distinctB, Bool.and_eq_true] at hd
    unfold putRow
    rcases Nat.eq_or_lt_of_le hk with rfl | hlt
    · obtain rfl : d = some s := by simpa using h
      rw [get_out]
      · simp [Act.put, hs]
      · have := hd.1
        unfold apartB at this
        rw [List.all_eq_true] at this ⊢
        intro e he
        have h1 := this e he
        simp only [Option.isNone_some, Bool.false_or, decide_eq_true_eq] at h1 ⊢
        exact fun h2 => h1 h2.symm
    · refine get_in ds (k + 1) j _ hd.2 (by omega) ?_ (by rw [put_tmps]; exact hs)
      rw [show j - k = (j - (k + 1)) + 1 by omega] at h
      simpa using h
theorem eval_out {u : Nat → Value} {s : Nat} (ds : List (Option Tmp)) (k : Nat) (a : Act) {v : Value} (h : (ds.all fun d => decide (d ≠ some s)) = true) (hv : a.tmps[s]?.getD undef = v := by rfl) : (putRow u k ds a).eval (.tmp s) = v := by
  show (putRow u k ds a).tmps.getD s undef = _
  rw [Array.getD_eq_getD_getElem?, get_out ds k a h, hv]
theorem eval_in {u : Nat → Value} {s : Nat} (ds : List (Option Tmp)) (k j : Nat) (a : Act) (hd : distinctB ds = true) (hk : k ≤ j) (h : ds[j - k]? = some (some s)) (hs : s < a.tmps.size) : (putRow u k ds a).eval (.tmp s) = u j := by
  show (putRow u k ds a).tmps.getD s undef = _
  rw [Array.getD_eq_getD_getElem?, get_in ds k j a hd hk h hs]
theorem eval_get {a : Act} {s : Nat} {v : Value} (h : a.eval (.tmp s) = v) : a.tmps[s]?.getD undef = v := by
  rw [← h]
  show _ = a.tmps.getD s undef
  rw [Array.getD_eq_getD_getElem?]
end
end Go.Proofs.YtaadipccgckehaaGreatDoor
namespace Go.Proofs.YtaadipccgckehaaGreatDoor
open Go Go.RowKit
section
variable {P : Program} {ops : Array Oper}
/-- The block that a pointer or a slice speaks of. -/
def blkOf : Value → Option Nat
  | .pointer (some a) => some a.block
  | .slice (some a) _ _ => some a.block
  | _ => none
/-- A value whose block has come with this step. -/
def Fresh (f : Bool) (v : Value) (w w' : World) : Prop := f = true → ∃ x, blkOf v = some x ∧ w.heap.size ≤ x ∧ x < w'.heap.size
theorem Fresh.no (v : Value) (w w' : World) : Fresh false v w w' := fun h => by cases h
/-- What each operation of a piece must do, from any world that has come of W. -/
def flowSteps3 (P : Program) (full : Array Oper) (W : World) (sp : Nat → Value → World → Prop) (fr : Nat → Bool) (Q : Exit → Act → World → Prop) (k : Nat) (u : Nat → Value) (a' : Act) : Nat → List Oper → Prop
  | _, [] => True
  | j, o :: r => (∀ w', Below W.heap.size W w' → (∀ e ∈ o.after, Region.binds .any e = true → k ≤ e.on → sp e.on (u e.on) w') →
      ∀ K : Act → World → Prop, (∀ v w'', sp j v w'' → Below w'.heap.size w' w'' → Fresh (fr j) v w' w'' → K (a'.put o.dst v) w'') → wpList P full (Exit.then K Q) [o] a' w') ∧ flowSteps3 P full W sp fr Q k u a' (j + 1) r
theorem flowSteps3_at {full : Array Oper} {W : World} {sp : Nat → Value → World → Prop} {fr : Nat → Bool} {Q : Exit → Act → World → Prop} {k : Nat} {u : Nat → Value} {a' : Act} : ∀ (r : List Oper) (j i : Nat) (o : Oper), flowSteps3 P full W sp fr Q k u a' j r → j ≤ i → r[i - j]? = some o →
    (∀ w', Below W.heap.size W w' → (∀ e ∈ o.after, Region.binds .any e = true → k ≤ e.on → sp e.on (u e.on) w') →
      ∀ K : Act → World → Prop, (∀ v w'', sp i v w'' → Below w'.heap.size w' w'' → Fresh (fr i) v w' w'' → K (a'.put o.dst v) w'') → wpList P full (Exit.then K Q) [o] a' w')
  | [], _, _, _, _, _, h => by simp at h
  | x :: r, j, i, o, hs, hj, h => by
    rcases Nat.eq_or_lt_of_le hj with rfl | hlt
    · obtain rfl : x = o := by simpa using h
      exact hs.1
    · refine flowSteps3_at r (j + 1) i o hs.2 (by omega) ?_
      rw [show i - j = (i - (j + 1)) + 1 by omega] at h
      simpa using h
structure FlowInv3 (ops : Array Oper) (W : World) (sp : Nat → Value → World → Prop) (fr : Nat → Bool) (k n : Nat) (b : Array Bool) (u : Nat → Value) (w' : World) : Prop where
  head : HeadInv .any ops n b
  low : ∀ j, j < k → b.getD j false = true
  vals : ∀ j, k ≤ j → j < n → b.getD j false = true → sp j (u j) w'
  below : Below W.heap.size W w'
  old : ∀ j, k ≤ j → j < n → b.getD j false = true → fr j = true → ∃ x, blkOf (u j) = some x ∧ W.heap.size ≤ x ∧ x < w'.heap.size
  apart : ∀ i j, k ≤ i → i < n → k ≤ j → j < n → b.getD i false = true → b.getD j false = true → fr i = true → fr j = true → i ≠ j → blkOf (u i) ≠ blkOf (u j)
theorem flow_any3 {full : List Oper} {W : World} {sp : Nat → Value → World → Prop} {fr : Nat → Bool} {Q : Exit → Act → World → Prop} {k m : Nat} {ds : List (Option Tmp)} {a : Act}
    (hs : sinkFrom full.toArray k (k + m) = true) (hc : tailFrom full.toArray (k + m) = true) (hn : k + m < full.length) (hbk : backB full.toArray (k + m) = true)
    (hds : ((full.drop k).take m).map (·.dst) = ds) (hdd : distinctB ds = true)
    (hup : ∀ j v w1 w2, sp j v w1 → Below w1.heap.size w1 w2 → sp j v w2)
    (hstep : ∀ u, flowSteps3 P full.toArray W sp fr Q k u (putRow u k ds a) k ((full.drop k).take m))
    (hend : ∀ u w', Below W.heap.size W w' → (∀ j, k ≤ j → j < k + m → sp j (u j) w') → (∀ j, k ≤ j → j < k + m → fr j = true → ∃ x, blkOf (u j) = some x ∧ W.heap.size ≤ x ∧ x < w'.heap.size) → (∀ i j, k ≤ i → i < k + m → k ≤ j → j < k + m → fr i = true → fr j = true → i ≠ j → blkOf (u i) ≠ blkOf (u j)) → Rest P full Q (k + m) (putRow u k ds a) w') :
    ∀ (f : Nat) (b : Array Bool) (u : Nat → Value) (w' : World), left b (k + m) = f → FlowInv3 full.toArray W sp fr k (k + m) b u w' → wpAny P .any full.toArray Q (f + (full.length - (k + m))) b (putRow u k ds a) w' := by
  intro f
  induction f with
  | zero =>
    intro b u w' hl inv
    have hall := left_zero hl
    have hb : b = doneTo full.toArray.size (k + m) := by
      apply Array.ext_getElem?
      intro j
      rw [doneTo_get (by simp; omega)]
      rcases Nat.lt_or_ge j b.size with hj | hj
      · have hjs : j < full.toArray.size := by rw [← inv.head.size]; exact hj
        by_cases h1 : j < k + m
        · rw [if_pos h1]
          have := hall j h1
          simpa [Array.getD_eq_getD_getElem?, hj] using this
        · rw [if_neg h1, if_pos hjs]
          have := inv.head.tail j (by omega) hjs
          simpa [Array.getD_eq_getD_getElem?, hj] using this
      · have hjs : ¬ j < full.toArray.size := by rw [← inv.head.size]; omega
        rw [Array.getElem?_eq_none hj, if_neg (by simp at hjs; omega), if_neg hjs]
    have := hend u w' inv.below (fun j h1 h2 => inv.vals j h1 h2 (hall j h2)) (fun j h1 h2 => inv.old j h1 h2 (hall j h2)) (fun i j h1 h2 h3 h4 => inv.apart i j h1 h2 h3 h4 (hall i h2) (hall j h4))
    unfold Rest at this
    rw [hb, Nat.zero_add]
    simpa using this
  | succ f ih =>
    intro b u w' hl inv
    obtain ⟨j0, hj0, hu0, hb0⟩ := left_some (b := b) (n := k + m) (by omega)
    have hbsz : b.size = full.length := by rw [inv.head.size]; simp
    have hkj0 : k ≤ j0 := by
      rcases Nat.lt_or_ge j0 k with h | h
      · rw [inv.low j0 h] at hu0; cases hu0
      · exact h
    have hun0 : b.getD j0 true = false := getD_in (by omega) hu0
    have hr0 : j0 ∈ Region.ready .any full.toArray b := by
      have h1 := List.all_eq_true.1 hbk j0 (List.mem_range.2 hj0)
      cases ho : full.toArray[j0]? with
      | none => simp only [ho] at h1; cases h1
      | some o =>
        simp only [ho] at h1
        refine mem_ready.2 ⟨hun0, o, ho, fun e he hb => ?_⟩
        have h2 := Array.all_eq_true_iff_forall_mem.1 h1 e he
        simp only [hb, Bool.not_true, Bool.false_or, decide_eq_true_eq] at h2
        exact hb0 _ h2
    rw [Nat.succ_add]
    refine ⟨fun e => (by rw [e] at hr0; cases hr0), fun i hi => ?_⟩
    obtain ⟨hun, oi, hoi, hall⟩ := mem_ready.1 hi
    have hin : i < k + m := by
      rcases Nat.lt_or_ge i (k + m) with h | h
      · exact h
      · exact absurd hi (tail_waits2 hs hc (by simpa using hn) inv.head _ j0 rfl hkj0 hj0 hun0 i h)
    have hki : k ≤ i := by
      rcases Nat.lt_or_ge i k with h | h
      · have := inv.low i h
        rw [getD_both hun] at this; cases this
      · exact h
    have hoil : full[i]? = some oi := by simpa using hoi
    have hoi2 : ((full.drop k).take m)[i - k]? = some oi := by
      rw [List.getElem?_take, if_pos (by omega), List.getElem?_drop, show k + (i - k) = i by omega]
      exact hoil
    have hdi : ds[i - k]? = some oi.dst := by rw [← hds, List.getElem?_map, hoi2]; rfl
    have hst := flowSteps3_at _ k i oi (hstep u) hki hoi2 w' inv.below (fun e he hb hke => by
      have hdone := hall e he hb
      have hlt : e.on < k + m := by
        rcases Nat.lt_or_ge e.on (k + m) with h | h
        · exact h
        · rcases Nat.lt_or_ge e.on full.toArray.size with h2 | h2
          · have := inv.head.tail e.on h h2
            rw [getD_both this] at hdone; cases hdone
          · have : b.getD e.on false = false := by simp [Array.getD_eq_getD_getElem?, Array.getElem?_eq_none (show b.size ≤ e.on by rw [inv.head.size]; exact h2)]
            rw [this] at hdone; cases hdone
      exact inv.vals e.on hke hlt hdone)
      (fun a2 w2 => wpAny P .any full.toArray Q (f + (full.length - (k + m))) (b.setIfInBounds i true) a2 w2)
      (fun v w'' hv hbl hfr => by
        rw [putRow_set ds k i a oi.dst hdd hki hdi]
        refine ih (b.setIfInBounds i true) (upd u i v) w'' (by have := left_set hin hun; omega) ⟨inv.head.set hi hin, fun j hj => ?_, fun j h1 h2 hd => ?_, inv.below.trans (hbl.mono inv.below.size), fun j h1 h2 hd hf => ?_, fun x y h1 h2 h3 h4 hx hy hfx hfy hxy => ?_⟩
        · rw [getD_set_ne false (by omega)]; exact inv.low j hj
        · by_cases hji : j = i
          · subst hji
            rw [show upd u j v j = v by simp [upd]]
            exact hv
          · rw [show upd u i v j = u j by simp [upd, hji]]
            rw [getD_set_ne false (Ne.symm hji)] at hd
            exact hup j _ _ _ (inv.vals j h1 h2 hd) hbl
        · by_cases hji : j = i
          · subst hji
            rw [show upd u j v j = v by simp [upd]]
            obtain ⟨x, e1, e2, e3⟩ := hfr hf
            exact ⟨x, e1, Nat.le_trans inv.below.size e2, e3⟩
          · rw [show upd u i v j = u j by simp [upd, hji]]
            rw [getD_set_ne false (Ne.symm hji)] at hd
            obtain ⟨x, e1, e2, e3⟩ := inv.old j h1 h2 hd hf
            exact ⟨x, e1, e2, Nat.lt_of_lt_of_le e3 hbl.size⟩
        · by_cases hxi : x = i
          · subst hxi
            have hyx : y ≠ x := fun e => hxy e.symm
            rw [getD_set_ne false (Ne.symm hyx)] at hy
            rw [show upd u x v x = v by simp [upd], show upd u x v y = u y by simp [upd, hyx]]
            obtain ⟨p, e1, e2, e3⟩ := hfr hfx
            obtain ⟨q, g1, g2, g3⟩ := inv.old y h3 h4 hy hfy
            rw [e1, g1]
            intro e
            injection e with e
            omega
          · rw [getD_set_ne false (Ne.symm hxi)] at hx
            rw [show upd u i v x = u x by simp [upd, hxi]]
            by_cases hyi : y = i
            · subst hyi
              rw [show upd u y v y = v by simp [upd]]
              obtain ⟨p, e1, e2, e3⟩ := hfr hfy
              obtain ⟨q, g1, g2, g3⟩ := inv.old x h1 h2 hx hfx
              rw [e1, g1]
              intro e
              injection e with e
              omega
            · rw [getD_set_ne false (Ne.symm hyi)] at hy
              rw [show upd u i v y = u y by simp [upd, hyi]]
              exact inv.apart x y h1 h2 h3 h4 hx hy hfx hfy hxy)
    exact wpOp_of_list hoi hst
/-- A piece of m operations from the k-th on; sp j says what is known of the j-th one's value. -/
theorem rest_flow_fr {W : World} (ds : List (Option Tmp)) (sp : Nat → Value → World → Prop) (fr : Nat → Bool) (m : Nat) {Q : Exit → Act → World → Prop} {a : Act} {l : List Oper} {k : Nat}
    (hB : (decide (k + m < l.length) && sinkFrom l.toArray k (k + m) && tailFrom l.toArray (k + m) && closedTo l.toArray k && backB l.toArray (k + m) && distinctB ds && ds.all (fun d => match d with | some d => decide (d < a.tmps.size) | none => true)) = true)
    (hds : ((l.drop k).take m).map (·.dst) = ds)
    (hup : ∀ j v w1 w2, sp j v w1 → Below w1.heap.size w1 w2 → sp j v w2)
    (hstep : ∀ u, flowSteps3 P l.toArray W sp fr Q k u (putRow u k ds a) k ((l.drop k).take m))
    (hend : ∀ u w', Below W.heap.size W w' → (∀ j, k ≤ j → j < k + m → sp j (u j) w') → (∀ j, k ≤ j → j < k + m → fr j = true → ∃ x, blkOf (u j) = some x ∧ W.heap.size ≤ x ∧ x < w'.heap.size) → (∀ i j, k ≤ i → i < k + m → k ≤ j → j < k + m → fr i = true → fr j = true → i ≠ j → blkOf (u i) ≠ blkOf (u j)) → Rest P l Q (k + m) (putRow u k ds a) w') : Rest P l Q k a W := by
  simp only [Bool.and_eq_true, decide_eq_true_eq] at hB
  obtain ⟨⟨⟨⟨⟨⟨hk, hs⟩, hc⟩, hcl⟩, hbk⟩, hdd⟩, hsz⟩ := hB
  obtain ⟨u, hu⟩ := putRow_self a ds k (fun d hd => by
    have := List.all_eq_true.1 hsz (some d) hd
    simpa using this)
  have hleft : left (doneTo l.length k) (k + m) = m := by
    unfold left
    have : (List.range (k + m)).filter (undone (doneTo l.length k)) = (List.range m).map (k + ·) := by
      rw [List.range_add, List.filter_append]
      have h1 : (List.range k).filter (undone (doneTo l.length k)) = [] := by
        rw [List.filter_eq_nil_iff]
        intro j hj
        have := doneTo_get (m := l.length) (k := k) (by omega) j
        rw [if_pos (List.mem_range.1 hj)] at this
        simp [undone, Array.getD_eq_getD_getElem?, this]
      rw [h1, List.nil_append, List.filter_eq_self]
      intro j hj
      obtain ⟨x, hx, rfl⟩ := List.mem_map.1 hj
      have := doneTo_get (m := l.length) (k := k) (by omega) (k + x)
      rw [if_neg (by omega), if_pos (by have := List.mem_range.1 hx; omega)] at this
      simp [undone, Array.getD_eq_getD_getElem?, this]
    rw [this]; simp
  have H := flow_any3 (P := P) (Q := Q) (a := a) hs hc hk hbk hds hdd hup hstep hend m (doneTo l.length k) u W hleft
    ⟨by have := inv_doneTo (ops := l.toArray) (k := k) (n := k + m) (by omega) (by simpa using hk) hcl; simpa using this,
     fun j hj => by
      have := doneTo_get (m := l.length) (k := k) (by omega) j
      rw [if_pos hj] at this
      simp [Array.getD_eq_getD_getElem?, this],
     fun j h1 h2 hd => by
      have := doneTo_get (m := l.length) (k := k) (by omega) j
      rw [if_neg (by omega), if_pos (by omega)] at this
      simp [Array.getD_eq_getD_getElem?, this] at hd,
     Below.refl _ _,
     fun j h1 h2 hd => by
      have := doneTo_get (m := l.length) (k := k) (by omega) j
      rw [if_neg (by omega), if_pos (by omega)] at this
      simp [Array.getD_eq_getD_getElem?, this] at hd,
     fun i j h1 h2 h3 h4 hd => by
      have := doneTo_get (m := l.length) (k := k) (by omega) i
      rw [if_neg (by omega), if_pos (by omega)] at this
      simp [Array.getD_eq_getD_getElem?, this] at hd⟩
  rw [hu] at H
  unfold Rest
  rw [show l.length - k = m + (l.length - (k + m)) by omega]
  exact H

theorem rest_flow3 {W : World} (ds : List (Option Tmp)) (sps : List Sp) (frs : List Bool) (m : Nat) {Q : Exit → Act → World → Prop} {a : Act} {l : List Oper} {k : Nat}
    (hB : (decide (k + m < l.length) && sinkFrom l.toArray k (k + m) && tailFrom l.toArray (k + m) && closedTo l.toArray k && backB l.toArray (k + m) && distinctB ds && ds.all (fun d => match d with | some d => decide (d < a.tmps.size) | none => true)) = true)
    (hds : ((l.drop k).take m).map (·.dst) = ds)
    (hstep : ∀ u F, F = putRow u k ds a → flowSteps3 P l.toArray W (spAt sps k) (fun j => frs.getD (j - k) false) Q k u F k ((l.drop k).take m))
    (hend : ∀ u w', Below W.heap.size W w' → (∀ j, k ≤ j → j < k + m → spAt sps k j (u j) w') → (∀ j, k ≤ j → j < k + m → frs.getD (j - k) false = true → ∃ x, blkOf (u j) = some x ∧ W.heap.size ≤ x ∧ x < w'.heap.size) → (∀ i j, k ≤ i → i < k + m → k ≤ j → j < k + m → frs.getD (i - k) false = true → frs.getD (j - k) false = true → i ≠ j → blkOf (u i) ≠ blkOf (u j)) → Rest P l Q (k + m) (putRow u k ds a) w') : Rest P l Q k a W :=
  rest_flow_fr ds (spAt sps k) (fun j => frs.getD (j - k) false) m hB hds (spAt_up sps k) (fun u => hstep u _ rfl) hend
/-- A block known whole. -/
def Sp.blk (t : TypeId) (C : Array Value) : Sp := ⟨fun v w => ∃ b, v = .pointer (some ⟨b, 0, none⟩) ∧ Blk w b t C, fun _ _ _ ⟨b, h1, h2⟩ hb => ⟨b, h1, h2.keep hb h2.lt⟩⟩
end
end Go.Proofs.YtaadipccgckehaaGreatDoor
namespace Go.Proofs.YtaadipccgckehaaGreatDoor
open Go Go.RowKit

/-- A slice that is only read: nil, or its cells. -/
inductive SrcR (W : World) (size : Nat) : Value → Nat → List Value → Prop
  | none_ : SrcR W size (.slice none 0 0) 0 []
  | some_ (b o n cap : Nat) (cs : List Value) (hl : cs.length = n * size) (h : ∀ (j : Nat) (u : Value), cs[j]? = some u → W.cell? ⟨b, o + j, none⟩ = some u) : SrcR W size (.slice (some ⟨b, o, none⟩) n cap) n cs
theorem SrcR.keep {W W' : World} {size n : Nat} {v : Value} {cs : List Value} (h : SrcR W size v n cs) (hb : Below W.heap.size W W') : SrcR W' size v n cs := by
  cases h with
  | none_ => exact .none_
  | some_ b o n cap cs hl h => exact .some_ b o n cap cs hl (fun j u hj => keepW hb (h j u hj))
theorem SrcR.at {W : World} {size n m c j : Nat} {A : Option Addr} {u : Value} {cs : List Value} (h : SrcR W size (.slice A m c) n cs) (hj : cs[j]? = some u) : ∃ b o, A = some ⟨b, o, none⟩ ∧ b < W.heap.size ∧ W.cell? ⟨b, o + j, none⟩ = some u := by
  cases h with
  | none_ => simp at hj
  | some_ b o n cap cs hl h => exact ⟨b, o, rfl, World.block_lt_of_cell? W _ (h j u hj), h j u hj⟩
theorem SrcR.len {W : World} {size n : Nat} {v : Value} {cs : List Value} (h : SrcR W size v n cs) : ∃ A c, v = .slice A n c := by
  cases h with
  | none_ => exact ⟨none, 0, rfl⟩
  | some_ b o n cap cs hl h => exact ⟨_, _, rfl⟩
theorem SrcR.of_own {W : World} {B e size n : Nat} {v : Value} {xs : List Value} (h : W.ownsRow B e size v n xs) : SrcR W size v n xs := by
  rcases h.2 with ⟨rfl, h0⟩ | ⟨g, cap, cur, rfl, h1, hg, h2, h3, h4, h5⟩
  · subst h0
    have : xs = [] := List.length_eq_zero_iff.1 (by rw [h.1]; simp)
    subst this
    exact .none_
  · refine .some_ g 0 n cap xs h.1 (fun j u hj => ?_)
    have := h.cells (g := g) rfl j u hj
    rw [add_at] at this
    exact this
theorem own_emptyN (W : World) (e : TypeId) (size : Nat) : (W.alloc (.cells #[] e)).ownsRow W.heap.size e size (.slice (some ⟨W.heap.size, 0, none⟩) 0 0) 0 [] :=
  ⟨by simp, .inr ⟨W.heap.size, 0, #[], rfl, Nat.le_refl _, (Blk.new W e _), Nat.zero_le _, by simp [maxLen], by simp, by simp⟩⟩
theorem appS {ops : Array Oper} {rest : List Oper} {o : Oper} {a : Act} {Q : Exit → Act → World → Prop} (hgd : o.guard = none) (s x : Operand) {t e : TypeId}
    (ho : o.op = .call { callee := .builtin .append, args := #[s, x], argTypes := #[t, t] }) {i : TypeInfo} {z : Value} {size bytes : Nat} (ht : Tryz.prog.underlying t = some (.slice e)) (hi : Tryz.prog.info? e = some i) (hz : i.zero = some z) (hsize : i.size = size) (hby : i.bytes = bytes) (hzs : z.cells.size = size) (hsz : 0 < size)
    (w : World) (base : Nat) (v : Value) (n : Nat) (xs : List Value) (hs : a.eval s = v) (hown : w.ownsRow base e size v n xs) (u : Value) (m : Nat) (cs : List Value) (hx : a.eval x = u) (hsrc : SrcR w size u m cs) (hc : ∀ u ∈ cs, u.oneCell' = true)
    (hlen : n + m ≤ 1000000) (hby2 : bytes ≤ 1000000) (hbase : base ≤ w.heap.size)
    (h : ∀ v' w', w'.ownsRow base e size v' (n + m) (xs ++ cs) → w.grownBy w' v.ownBlock → (v'.ownBlock = v.ownBlock ∨ v'.ownBlock = some w.heap.size) → Below base w w' → wpList Tryz.prog ops Q rest (a.put o.dst v') w') :
    wpList Tryz.prog ops Q (o :: rest) a w := by
  have hlt : (n + m) * bytes ≤ 1000000 * 1000000 := Nat.mul_le_mul hlen hby2
  cases hsrc with
  | none_ =>
    refine wpList_plain hgd fun K hK => ?_
    have hr := run_append_owned_none (P := Tryz.prog) w base t o.type e i size ht hi v n xs hown
    have hx' : a.eval x = .slice none 0 0 := hx
    unfold Oper.wp execOp
    simp only [ho, resolve, invoke, builtin, Sem.run_bind, Sem.run_pure, Result.andThen_ok, List.map_toArray, List.map_cons, List.map_nil, hs, hx', hr]
    exact hK _ _ (h v w (by simpa using hown) (World.grownBy.refl _ _) (.inl rfl) (Below.refl _ _))
  | some_ b off m c cs hl hcell =>
    refine wpList_append_own_at _ hgd s x t ho base e i z size bytes ht hi hz hsize hby hzs hsz v n xs hs hown ⟨b, off, none⟩ m c cs hx hl (fun j u hj => ?_) hc (by simp only [maxLen]; omega) (by omega) hbase ?_
    · rw [add_at]
      exact hcell j u hj
    · intro v' w' h1 h2 _ h3
      exact h v' w' h1 h2 h3 ((Below.refl base w).grown h2 hbase fun k hk => (hown.lt k hk).1)
end Go.Proofs.YtaadipccgckehaaGreatDoor
