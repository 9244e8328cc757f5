/- Rows of movements and numbers in a world. -/
import Derived.Test.YtidpfggikighlaaDoorGP
import Derived.Test.YtidpfggikighlaaDoorOwn
namespace Go.Proofs.YtidpfggikighlaaDoor
open Go Go.RowKit

/-- The rows of a movement as a slice, nil or not. -/
inductive MR (W : World) : Value → List Rw → Prop
  | none_ : MR W (.slice none 0 0) []
  | some_ (b o cap : Nat) (l : List Rw) (hb : b < W.heap.size) (h : ∀ i r, l[i]? = some r → W.cell? ⟨b, o + i * 5, none⟩ = some (.int .i64 r.rd) ∧ W.cell? ⟨b, o + i * 5 + 1, none⟩ = some (.int .i64 r.tb) ∧ W.cell? ⟨b, o + i * 5 + 2, none⟩ = some (.int .i64 r.ns) ∧ W.cell? ⟨b, o + i * 5 + 3, none⟩ = some (.int .i64 r.ew) ∧ W.cell? ⟨b, o + i * 5 + 4, none⟩ = some (.int .i64 r.st)) : MR W (.slice (some ⟨b, o, none⟩) l.length cap) l
theorem MR.keep {W W' : World} {v : Value} {l : List Rw} (h : MR W v l) (hb : Below W.heap.size W W') : MR W' v l := by
  cases h with
  | none_ => exact .none_
  | some_ b o cap l hlt h =>
    refine .some_ b o cap l (Nat.lt_of_lt_of_le hlt hb.size) (fun i r hi => ?_)
    obtain ⟨a, b, c, d, e⟩ := h i r hi
    exact ⟨keepW hb a, keepW hb b, keepW hb c, keepW hb d, keepW hb e⟩
theorem MR.len {W : World} {v : Value} {l : List Rw} (h : MR W v l) : ∃ A cap, v = .slice A l.length cap := by
  cases h with
  | none_ => exact ⟨_, _, rfl⟩
  | some_ b o cap l _ h => exact ⟨_, _, rfl⟩
theorem MR.at {W : World} {A : Option Addr} {n cap i : Nat} {l : List Rw} {r : Rw} (h : MR W (.slice A n cap) l) (hi : l[i]? = some r) : ∃ b o, A = some ⟨b, o, none⟩ ∧ W.cell? ⟨b, o + i * 5, none⟩ = some (.int .i64 r.rd) ∧ W.cell? ⟨b, o + i * 5 + 1, none⟩ = some (.int .i64 r.tb) ∧ W.cell? ⟨b, o + i * 5 + 2, none⟩ = some (.int .i64 r.ns) ∧ W.cell? ⟨b, o + i * 5 + 3, none⟩ = some (.int .i64 r.ew) ∧ W.cell? ⟨b, o + i * 5 + 4, none⟩ = some (.int .i64 r.st) := by
  cases h with
  | none_ => simp at hi
  | some_ b o cap l hlt h => obtain ⟨h1, h2, h3, h4, h5⟩ := h i r hi; exact ⟨b, o, rfl, h1, h2, h3, h4, h5⟩
/-- A movement as a value. -/
def mvV (m : Mv) (rv : Value) : Value := .agg #[.int .i64 m.tab, .int .i64 m.rou, .int .i64 m.set, .int .i64 m.cop, .int .i64 m.win, rv]
def inI (n : Int) : Prop := -9223372036854775808 ≤ n ∧ n ≤ 9223372036854775807
structure Rw.In (r : Rw) : Prop where
  rd : inI r.rd
  tb : inI r.tb
  ns : inI r.ns
  ew : inI r.ew
  st : inI r.st
/-- A movement in a world. -/
structure MV (W : World) (m : Mv) (rv : Value) : Prop where
  rows : MR W rv m.rows
  tab : inI m.tab
  rou : inI m.rou
  set : inI m.set
  cop : inI m.cop
  win : inI m.win
  ri : ∀ r ∈ m.rows, r.In
theorem MV.keep {W W' : World} {m : Mv} {rv : Value} (h : MV W m rv) (hb : Below W.heap.size W W') : MV W' m rv := { h with rows := h.rows.keep hb }
/-- Numbers in a row. -/
def IR (W : World) (b o : Nat) (l : List Int) : Prop := ∀ i n, l[i]? = some n → W.cell? ⟨b, o + i, none⟩ = some (.int .i64 n)
theorem IR.keep {W W' : World} {b o : Nat} {l : List Int} (h : IR W b o l) (hb : Below W.heap.size W W') : IR W' b o l := fun i c hi => keepW hb (h i c hi)
theorem IR.blk {W : World} {b : Nat} {t : TypeId} {l : List Int} (h : Blk W b t (l.map (Value.int .i64)).toArray) : IR W b 0 l := fun i n hi => by
  rw [Nat.zero_add]
  exact h.cell (by simp [hi])
theorem row_of_boxed (r : Rw) : (#[.int .i64 r.rd, .int .i64 r.tb, .int .i64 r.ns, .int .i64 r.ew, .int .i64 r.st] : Array Value)[0]? = some (.int .i64 r.rd) := rfl
end Go.Proofs.YtidpfggikighlaaDoor
