/- Slices of integers, nil let in: what they hold; appends to a slice of the call's own. -/
import Derived.Test.YtfhkgpipbegpgaaGreatDoorKit
import Derived.Test.YtfhkgpipbegpgaaGreatDoorBlk
import Derived.Test.YtfhkgpipbegpgaaGreatDoorRefP
import Derived.Test.YtfhkgpipbegpgaaGreatDoorProg
import Derived.Laws.AppendOwn
import Derived.Laws.OwnMore
import Derived.OwnWalk
import Derived.LoopTactic
import Derived.Deep.DeepCutAuto
import Derived.Deep.QuietTactic
import Derived.BigQuiet
import Derived.Lib.Hide
namespace Go.Proofs.YtfhkgpipbegpgaaGreatDoor
open Go Go.RowKit

theorem blw1 (w : World) (o : Obj) : Below w.heap.size w (w.alloc o) := (Below.refl _ _).alloc (Nat.le_refl _) _
def iv (x : Nat) : Value := .int .i64 (x : Int)
/-- The slice at A holds these integers. -/
def RowI (W : World) (A : Option Addr) (L : List Nat) : Prop :=
  L ≠ [] → ∃ b off, A = some ⟨b, off, none⟩ ∧ b < W.heap.size ∧ ∀ (j x : Nat), L[j]? = some x → W.cell? ⟨b, off + j, none⟩ = some (.int .i64 (x : Int))
theorem RowI.nil (W : World) (A : Option Addr) : RowI W A [] := fun h => absurd rfl h
theorem RowI.keep {W W' : World} {A : Option Addr} {L : List Nat} (h : RowI W A L) (hb : Below W.heap.size W W') : RowI W' A L := fun hn => by
  obtain ⟨b, off, e, hl, hc⟩ := h hn
  exact ⟨b, off, e, Nat.lt_of_lt_of_le hl hb.size, fun j x hj => keepW hb (hc j x hj)⟩
theorem RowI.get {W : World} {A : Option Addr} {L : List Nat} (h : RowI W A L) {k : Nat} (hk : k < L.length) :
    ∃ b off, A = some ⟨b, off, none⟩ ∧ b < W.heap.size ∧ ∀ (j x : Nat), L[j]? = some x → W.cell? ⟨b, off + j, none⟩ = some (.int .i64 (x : Int)) :=
  h (fun e => by subst e; simp at hk)
theorem RowI.take {W : World} {A : Option Addr} {L : List Nat} (h : RowI W A L) (k : Nat) : RowI W A (L.take k) := fun hn => by
  obtain ⟨b, off, e, hl, hc⟩ := h (fun e => by subst e; simp at hn)
  refine ⟨b, off, e, hl, fun j x hj => hc j x ?_⟩
  rw [List.getElem?_take] at hj
  split at hj
  · exact hj
  · cases hj
/-- A row of the call's own is such a slice. -/
theorem RowI.own {W : World} {base : Nat} {e : TypeId} {v : Value} {n : Nat} {L : List Nat} (h : W.ownsRow base e 1 v n (L.map iv)) :
    L.length = n ∧ ∃ A cap, v = .slice A n cap ∧ n ≤ cap ∧ (cap ≤ maxLen ∧ (A = none → cap = 0)) ∧ RowI W A L := by
  have hn : L.length = n := by have := h.1; simpa using this
  refine ⟨hn, ?_⟩
  rcases h.2 with ⟨rfl, h0⟩ | ⟨g, cap, cur, rfl, hb, hg, hc, hm, hs, ht⟩
  · subst h0
    exact ⟨none, 0, rfl, Nat.le_refl _, ⟨by simp [maxLen], fun _ => rfl⟩, fun hne => absurd (List.eq_nil_of_length_eq_zero hn) hne⟩
  · refine ⟨some ⟨g, 0, none⟩, cap, rfl, hc, ⟨hm, fun h => by cases h⟩, fun _ => ⟨g, 0, rfl, ?_, fun j x hj => ?_⟩⟩
    · exact lt_of_block (show W.heap[g]? = some _ from hg)
    · have hj' : (L.map iv)[j]? = some (iv x) := by rw [List.getElem?_map, hj]; rfl
      rw [← ht, List.getElem?_take] at hj'
      split at hj'
      · rw [Nat.zero_add]
        have e2 : cur[j]? = some (iv x) := by rw [← hj']; simp
        simp [World.cell?, hg, e2, iv]
      · cases hj'
/-- The digits of n. -/
structure Dg (W : World) (A : Option Addr) (cap n : Nat) : Prop where
  row : RowI W A (dig n)
  room : nd n ≤ cap
  tops : cap ≤ maxLen ∧ (A = none → cap = 0)
theorem Dg.top {W : World} {A : Option Addr} {cap n : Nat} (h : Dg W A cap n) : cap ≤ maxLen := h.tops.1
theorem Dg.keep {W W' : World} {A : Option Addr} {cap n : Nat} (h : Dg W A cap n) (hb : Below W.heap.size W W') : Dg W' A cap n := ⟨h.row.keep hb, h.room, h.tops⟩
theorem Dg.at_ {W : World} {A : Option Addr} {cap n : Nat} (h : Dg W A cap n) {k : Nat} (hk : k < nd n) :
    ∃ b off, A = some ⟨b, off, none⟩ ∧ b < W.heap.size ∧ ∀ j, j < nd n → W.cell? ⟨b, off + j, none⟩ = some (.int .i64 (dg n j : Int)) := by
  obtain ⟨b, off, e, hl, hc⟩ := h.row.get (k := k) (by rw [dig_len]; exact hk)
  exact ⟨b, off, e, hl, fun j hj => hc j _ (by unfold dig; exact digN_get n _ j hj)⟩
theorem Dg.cell {W : World} {b off cap n : Nat} (h : Dg W (some ⟨b, off, none⟩) cap n) {j : Nat} (hj : j < nd n) : W.cell? ⟨b, off + j, none⟩ = some (.int .i64 (dg n j : Int)) := by
  obtain ⟨b', off', e, _, hc⟩ := h.at_ hj
  injection e with e
  injection e with e1 e2 _
  subst e1 e2
  exact hc j hj
/-- What is returned: the digits of n, in a slice. -/
def RetD (n : Nat) (w : World) (e : Ending) (w' : World) : Prop := ∃ A cap, e = .returned (.slice A (nd n) cap) ∧ Dg w' A cap n ∧ Below w.heap.size w w'
theorem info_int : (Tryz.prog.info? 3).map (fun i => (i.zero, i.size, i.bytes)) = some (some (.int .i64 0), 1, 8) := by kernel_rfl
theorem add_at (b off j : Nat) : (⟨b, off, none⟩ : Addr).add j = ⟨b, off + j, none⟩ := by
  unfold Addr.add
  by_cases h : j = 0 <;> simp [h]
/-- append of a slice of integers, nil let in, to a row of the call's own. -/
theorem run_app (W : World) (base : Nat) (ty : TypeId) (v : Value) (n : Nat) (L : List Nat) (hown : W.ownsRow base 3 1 v n (L.map iv)) (A : Option Addr) (m c : Nat) (M : List Nat) (hm : M.length = m) (hA : RowI W A M) (hc : A = none → c = 0)
    (hb : base ≤ W.heap.size) (hn : n + m ≤ 1000000) :
    ∃ v' w', (Builtin.append_ #[29, 29] ty #[v, .slice A m c]).run Tryz.prog W = .ok v' w' ∧ w'.ownsRow base 3 1 v' (n + m) ((L ++ M).map iv) ∧ Below base W w' := by
  obtain ⟨i0, hi0, hz0, hz1, hz2⟩ := info_parts info_int
  rcases A with _ | ad
  · have hM : M = [] := by
      refine Classical.byContradiction fun h => ?_
      obtain ⟨b, off, e, _⟩ := hA h
      cases e
    subst hM
    obtain rfl : 0 = m := by simpa using hm
    rw [hc rfl]
    refine ⟨v, W, run_append_owned_none W base 29 ty 3 i0 1 Tryz.underlying29 hi0 v n (L.map iv) hown, by simpa using hown, Below.refl _ _⟩
  · have hcells : ∀ j u, (M.map iv)[j]? = some u → W.cell? (ad.add j) = some u := by
      intro j u hu
      rw [List.getElem?_map] at hu
      cases hx : M[j]? with
      | none => rw [hx] at hu; cases hu
      | some x =>
        rw [hx] at hu
        obtain ⟨b, off, e, _, hcc⟩ := hA (fun h => by subst h; simp at hx)
        obtain rfl := Option.some.inj e
        have hu' : iv x = u := Option.some.inj hu
        subst hu'
        have hadd : (⟨b, off, none⟩ : Addr).add j = ⟨b, off + j, none⟩ := add_at b off j
        rw [hadd]
        exact hcc j x hx
    obtain ⟨v', w', h1, h2, h3, _⟩ := run_append_own (P := Tryz.prog) (w := W) base 29 ty 3 i0 (.int .i64 0) 1 8 Tryz.underlying29 hi0 hz0 hz1 hz2 rfl (by decide) v n (L.map iv) hown ad m c (M.map iv) (by simp [hm]) hcells
      (fun u hu => by rw [List.mem_map] at hu; obtain ⟨x, _, e⟩ := hu; rw [← e]; rfl) (by simp only [maxLen]; omega) (by omega) hb
    exact ⟨v', w', h1, by rw [List.map_append]; exact h2, (Below.refl base W).grown h3 hb fun k hk => (hown.lt k hk).1⟩
theorem wp_app {o : Oper} {a : Act} {K : Act → World → Prop} {Q : Exit → Act → World → Prop} (s x : Operand)
    (ho : o.op = .call { callee := .builtin .append, args := #[s, x], argTypes := #[29, 29] }) (W : World) (base : Nat) (v : Value) (n : Nat) (L : List Nat) (A : Option Addr) (m c : Nat) (M : List Nat)
    (hs : a.eval s = v) (hx : a.eval x = .slice A m c) (hown : W.ownsRow base 3 1 v n (L.map iv)) (hm : M.length = m) (hA : RowI W A M) (hc : A = none → c = 0) (hb : base ≤ W.heap.size) (hn : n + m ≤ 1000000)
    (h : ∀ v' w', w'.ownsRow base 3 1 v' (n + m) ((L ++ M).map iv) → Below base W w' → K (a.put o.dst v') w') : o.wp Tryz.prog a W K Q := by
  obtain ⟨v', w', hrun, h1, h2⟩ := run_app W base o.type v n L hown A m c M hm hA hc hb hn
  unfold Oper.wp
  simp [execOp, ho, resolve, invoke, builtin, hs, hx, hrun, Result.andThen]
  exact h v' w' h1 h2
theorem wpList_app {ops : Array Oper} {rest : List Oper} {o : Oper} {a : Act} {Q : Exit → Act → World → Prop} (hgd : o.guard = none) (s x : Operand)
    (ho : o.op = .call { callee := .builtin .append, args := #[s, x], argTypes := #[29, 29] }) (W : World) (base : Nat) (v : Value) (n : Nat) (L : List Nat) (A : Option Addr) (m c : Nat) (M : List Nat)
    (hs : a.eval s = v) (hx : a.eval x = .slice A m c) (hown : W.ownsRow base 3 1 v n (L.map iv)) (hm : M.length = m) (hA : RowI W A M) (hc : A = none → c = 0) (hb : base ≤ W.heap.size) (hn : n + m ≤ 1000000)
    (h : ∀ v' w', w'.ownsRow base 3 1 v' (n + m) ((L ++ M).map iv) → Below base W w' → wpList Tryz.prog ops Q rest (a.put o.dst v') w') : wpList Tryz.prog ops Q (o :: rest) a W :=
  wpList_plain hgd fun _ hK => wp_app s x ho W base v n L A m c M hs hx hown hm hA hc hb hn fun v' w' h1 h2 => hK _ _ (h v' w' h1 h2)
theorem step_app {ops : Array Oper} {o : Oper} {a : Act} {K : Act → World → Prop} {Q : Exit → Act → World → Prop} {E : Prop} (hgd : o.guard = none) (s x : Operand)
    (ho : o.op = .call { callee := .builtin .append, args := #[s, x], argTypes := #[29, 29] }) (W : World) (base : Nat) (v : Value) (n : Nat) (L : List Nat) (A : Option Addr) (m c : Nat) (M : List Nat)
    (hs : a.eval s = v) (hx : a.eval x = .slice A m c) (hown : W.ownsRow base 3 1 v n (L.map iv)) (hm : M.length = m) (hA : RowI W A M) (hc : A = none → c = 0) (hb : base ≤ W.heap.size) (hn : n + m ≤ 1000000)
    (h : ∀ v' w', w'.ownsRow base 3 1 v' (n + m) ((L ++ M).map iv) → Below base W w' → K (a.put o.dst v') w') :
    if Region.wanted o (yielded ops a.tmps) = true then Oper.wp Tryz.prog o a W K Q else E := by
  have hw : Region.wanted o (yielded ops a.tmps) = true := by simp [Region.wanted, hgd]
  rw [if_pos hw]
  exact wp_app s x ho W base v n L A m c M hs hx hown hm hA hc hb hn h
/-- A literal of one number, in a block of its own. -/
theorem own_lit (W : World) (c : Nat) : (W.alloc (.cells #[.int .i64 (c : Int)] 3)).ownsRow W.heap.size 3 1 (.slice (some ⟨W.heap.size, 0, none⟩) 1 1) 1 ([c].map iv) :=
  ⟨rfl, .inr ⟨W.heap.size, 1, _, rfl, Nat.le_refl _, heap_alloc_new W _, Nat.le_refl _, by simp [maxLen], rfl, rfl⟩⟩
end Go.Proofs.YtfhkgpipbegpgaaGreatDoor
