/- append of strings to a row of the call's own. -/
import Derived.Test.YtbompgfjlllioaaDoorJDamage
namespace Go.Proofs.YtbompgfjlllioaaDoor
open Go Go.RowKit

theorem own_empty (W : World) (e : TypeId) : (W.alloc (.cells #[] e)).ownsRow W.heap.size e 1 (.slice (some ⟨W.heap.size, 0, none⟩) 0 0) 0 [] :=
  ⟨rfl, .inr ⟨W.heap.size, 0, #[], rfl, Nat.le_refl _, World.alloc_heap_new W _, Nat.zero_le _, by simp [maxLen], rfl, rfl⟩⟩
/-- append(out, l...), out being nil or of the call's own, l nil or not. -/
theorem wp_strs_own {ops : Array Oper} {rest : List Oper} {o : Oper} {a : Act} {Q : Exit → Act → World → Prop} (hgd : o.guard = none) (sl x : Operand)
    (ho : o.op = .call { callee := .builtin .append, args := #[sl, x], argTypes := #[22, 22] }) (w : World) (base : Nat) (v : Value) (n : Nat) (l : List (List UInt8)) (hs : a.eval sl = v) (hown : w.ownsRow base 9 1 v n (l.map strV))
    (A : Option Addr) (m c : Nat) (l2 : List (List UInt8)) (hm : l2.length = m) (hx : a.eval x = .slice A m c) (hR : RS w (.slice A m c) l2) (hlen : n + m ≤ 1000000) (hbase : base ≤ w.heap.size)
    (h : ∀ v' w', w'.ownsRow base 9 1 v' (n + m) ((l ++ l2).map strV) → w.grownBy w' v.ownBlock → Below base w w' → wpList Tryd.prog ops Q rest (a.put o.dst v') w') : wpList Tryd.prog ops Q (o :: rest) a w := by
  obtain ⟨i0, hi0, hz0, hz1, hz2⟩ := info_parts info_str
  subst hm
  generalize hv : Value.slice A l2.length c = u at hR
  cases hR with
  | none_ =>
    injection hv with h1 h2 h3
    subst h1 h3
    refine wpList_plain hgd fun K hK => ?_
    have hr := run_append_owned_none (P := Tryd.prog) w base 22 o.type 9 i0 1 Tryd.underlying22 hi0 v n (l.map strV) hown
    have hx' : a.eval x = .slice none 0 0 := hx
    unfold Oper.wp execOp
    simp only [ho, resolve, invoke, builtin, Sem.run_bind, Sem.run_pure, Result.andThen_ok, List.map_toArray, List.map_cons, List.map_nil, hs, hx', hr]
    exact hK _ _ (h v w (by simpa using hown) (World.grownBy.refl _ _) (Below.refl _ _))
  | some_ b off c l2 hb hc =>
    injection hv with h1 h2 h3
    subst h1 h3
    refine wpList_append_own_at _ hgd sl x 22 ho base 9 i0 (.string ⟨#[]⟩) 1 16 Tryd.underlying22 hi0 hz0 hz1 hz2 rfl (by decide) v n (l.map strV) hs hown ⟨b, off, none⟩ l2.length _ (l2.map strV) hx (by simp) (fun j u hj => ?_) (fun u hu => ?_) (by unfold maxLen; omega) (by omega) hbase ?_
    · rw [List.getElem?_map] at hj
      cases hl : l2[j]? with
      | none => rw [hl] at hj; cases hj
      | some r =>
        rw [hl] at hj
        obtain rfl : strV r = u := by simpa using hj
        rw [add_at]
        exact hc j r hl
    · obtain ⟨r, _, rfl⟩ := List.mem_map.1 hu; rfl
    · intro v' w' h1 h2 _ h3
      rw [← List.map_append] at h1
      exact h v' w' h1 h2 ((Below.refl base w).grown h2 hbase fun k hk => (hown.lt k hk).1)
end Go.Proofs.YtbompgfjlllioaaDoor
