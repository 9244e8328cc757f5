/- append(out, l...) of a slice that lies somewhere, out being of the call's own. -/
import Derived.Test.YtpkmibmombpjpaaGreatDoorOwn
namespace Go.Proofs.YtpkmibmombpjpaaGreatDoor
open Go Go.RowKit

/-- A slice that is only read: nil, or its cells. -/
inductive SrcR (W : World) (size : Nat) : Value → Nat → List Value → Prop
  | none_ : SrcR W size (.slice none 0 0) 0 []
  | some_ (b o n cap : Nat) (cs : List Value) (hl : cs.length = n * size) (h : ∀ (j : Nat) (u : Value), cs[j]? = some u → W.cell? ⟨b, o + j, none⟩ = some u) : SrcR W size (.slice (some ⟨b, o, none⟩) n cap) n cs
theorem SrcR.keep {W W' : World} {size n : Nat} {v : Value} {cs : List Value} (h : SrcR W size v n cs) (hb : Below W.heap.size W W') : SrcR W' size v n cs := by
  cases h with
  | none_ => exact .none_
  | some_ b o n cap cs hl h => exact .some_ b o n cap cs hl (fun j u hj => keepW hb (h j u hj))
theorem SrcR.at {W : World} {size n m c j : Nat} {A : Option Addr} {u : Value} {cs : List Value} (h : SrcR W size (.slice A m c) n cs) (hj : cs[j]? = some u) : ∃ b o, A = some ⟨b, o, none⟩ ∧ b < W.heap.size ∧ W.cell? ⟨b, o + j, none⟩ = some u := by
  cases h with
  | none_ => simp at hj
  | some_ b o n cap cs hl h => exact ⟨b, o, rfl, World.block_lt_of_cell? W _ (h j u hj), h j u hj⟩
theorem SrcR.len {W : World} {size n : Nat} {v : Value} {cs : List Value} (h : SrcR W size v n cs) : ∃ A c, v = .slice A n c := by
  cases h with
  | none_ => exact ⟨none, 0, rfl⟩
  | some_ b o n cap cs hl h => exact ⟨_, _, rfl⟩
theorem SrcR.of_own {W : World} {B e size n : Nat} {v : Value} {xs : List Value} (h : W.ownsRow B e size v n xs) : SrcR W size v n xs := by
  rcases h.2 with ⟨rfl, h0⟩ | ⟨g, cap, cur, rfl, h1, hg, h2, h3, h4, h5⟩
  · subst h0
    have : xs = [] := List.length_eq_zero_iff.1 (by rw [h.1]; simp)
    subst this
    exact .none_
  · refine .some_ g 0 n cap xs h.1 (fun j u hj => ?_)
    have := h.cells (g := g) rfl j u hj
    rw [add_at] at this
    exact this
theorem own_emptyN (W : World) (e : TypeId) (size : Nat) : (W.alloc (.cells #[] e)).ownsRow W.heap.size e size (.slice (some ⟨W.heap.size, 0, none⟩) 0 0) 0 [] :=
  ⟨by simp, .inr ⟨W.heap.size, 0, #[], rfl, Nat.le_refl _, (Blk.new W e _), Nat.zero_le _, by simp [maxLen], by simp, by simp⟩⟩
theorem appS {ops : Array Oper} {rest : List Oper} {o : Oper} {a : Act} {Q : Exit → Act → World → Prop} (hgd : o.guard = none) (s x : Operand) {t e : TypeId}
    (ho : o.op = .call { callee := .builtin .append, args := #[s, x], argTypes := #[t, t] }) {i : TypeInfo} {z : Value} {size bytes : Nat} (ht : Tryz.prog.underlying t = some (.slice e)) (hi : Tryz.prog.info? e = some i) (hz : i.zero = some z) (hsize : i.size = size) (hby : i.bytes = bytes) (hzs : z.cells.size = size) (hsz : 0 < size)
    (w : World) (base : Nat) (v : Value) (n : Nat) (xs : List Value) (hs : a.eval s = v) (hown : w.ownsRow base e size v n xs) (u : Value) (m : Nat) (cs : List Value) (hx : a.eval x = u) (hsrc : SrcR w size u m cs) (hc : ∀ u ∈ cs, u.oneCell' = true)
    (hlen : n + m ≤ 1000000) (hby2 : bytes ≤ 1000000) (hbase : base ≤ w.heap.size)
    (h : ∀ v' w', w'.ownsRow base e size v' (n + m) (xs ++ cs) → w.grownBy w' v.ownBlock → (v'.ownBlock = v.ownBlock ∨ v'.ownBlock = some w.heap.size) → Below base w w' → wpList Tryz.prog ops Q rest (a.put o.dst v') w') :
    wpList Tryz.prog ops Q (o :: rest) a w := by
  have hlt : (n + m) * bytes ≤ 1000000 * 1000000 := Nat.mul_le_mul hlen hby2
  cases hsrc with
  | none_ =>
    refine wpList_plain hgd fun K hK => ?_
    have hr := run_append_owned_none (P := Tryz.prog) w base t o.type e i size ht hi v n xs hown
    have hx' : a.eval x = .slice none 0 0 := hx
    unfold Oper.wp execOp
    simp only [ho, resolve, invoke, builtin, Sem.run_bind, Sem.run_pure, Result.andThen_ok, List.map_toArray, List.map_cons, List.map_nil, hs, hx', hr]
    exact hK _ _ (h v w (by simpa using hown) (World.grownBy.refl _ _) (.inl rfl) (Below.refl _ _))
  | some_ b off m c cs hl hcell =>
    refine wpList_append_own_at _ hgd s x t ho base e i z size bytes ht hi hz hsize hby hzs hsz v n xs hs hown ⟨b, off, none⟩ m c cs hx hl (fun j u hj => ?_) hc (by simp only [maxLen]; omega) (by omega) hbase ?_
    · rw [add_at]
      exact hcell j u hj
    · intro v' w' h1 h2 _ h3
      exact h v' w' h1 h2 h3 ((Below.refl base w).grown h2 hbase fun k hk => (hown.lt k hk).1)
end Go.Proofs.YtpkmibmombpjpaaGreatDoor
