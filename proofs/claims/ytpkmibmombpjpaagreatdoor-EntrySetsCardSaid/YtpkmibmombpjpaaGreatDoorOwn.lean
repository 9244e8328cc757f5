/- Rows of the call's own, append of one element, slices of strings in a world. -/
import Derived.Test.YtpkmibmombpjpaaGreatDoorKit
import Derived.Test.YtpkmibmombpjpaaGreatDoorProg
import Derived.Test.YtpkmibmombpjpaaGreatDoorBlk
import Derived.Lib.Hide
import Derived.Maps.AppendAt
import Derived.OwnWalk
namespace Go.Proofs.YtpkmibmombpjpaaGreatDoor
open Go Go.RowKit

theorem below1 (W : World) (o : Obj) : Below W.heap.size W (W.alloc o) := (Below.refl _ _).alloc (Nat.le_refl _) _
theorem add_at (b off j : Nat) : (⟨b, off, none⟩ : Addr).add j = ⟨b, off + j, none⟩ := by
  by_cases h : j = 0 <;> simp [Addr.add, h]
theorem str_len (s : ByteArray) : s.data.toList.length = s.size := by simp
theorem size_al (w : World) (o : Obj) : (w.alloc o).heap.size = w.heap.size + 1 := by simp
theorem own_keep {w w' : World} {B e size n : Nat} {v : Value} {xs : List Value} (h : w.ownsRow B e size v n xs) (hb : Below w.heap.size w w') : w'.ownsRow B e size v n xs := by
  refine ⟨h.1, ?_⟩
  rcases h.2 with hn | ⟨g, cap, cur, rfl, hb', hg, rest⟩
  · exact .inl hn
  · exact .inr ⟨g, cap, cur, rfl, hb', (hb.block g (Array.getElem?_eq_some_iff.1 hg).1).trans hg, rest⟩
theorem own_slice {W : World} {B e size n : Nat} {v : Value} {xs : List Value} (h : W.ownsRow B e size v n xs) : ∃ A c, v = .slice A n c := by
  rcases h.2 with ⟨rfl, h0⟩ | ⟨g, cap, cur, rfl, _⟩
  · exact ⟨none, 0, by rw [h0]⟩
  · exact ⟨_, _, rfl⟩
theorem own_some {W : World} {B e size n : Nat} {v : Value} {xs : List Value} (h : W.ownsRow B e size v n xs) (hn : 0 < n) : ∃ g cap, v = .slice (some ⟨g, 0, none⟩) n cap ∧ B ≤ g ∧ n ≤ cap := by
  rcases h.2 with ⟨_, h0⟩ | ⟨g, cap, cur, rfl, hb, _, hc, _⟩
  · omega
  · exact ⟨g, cap, rfl, hb, hc⟩
theorem own_cap {w : World} {B e size n c : Nat} {A : Option Addr} {xs : List Value} (h : w.ownsRow B e size (.slice A n c) n xs) : n ≤ c := by
  rcases h.2 with ⟨e, h0⟩ | ⟨g, cap, cur, e, _, _, hc, _⟩
  · injection e; omega
  · injection e with _ _ h3; omega
theorem own_base {W : World} {B B' e size n : Nat} {v : Value} {xs : List Value} (h : W.ownsRow B' e size v n xs) (hB : B ≤ B') : W.ownsRow B e size v n xs :=
  ⟨h.1, h.2.elim .inl (fun ⟨g, cap, cur, h1, h2, r⟩ => .inr ⟨g, cap, cur, h1, Nat.le_trans hB h2, r⟩)⟩
theorem own_ge {W : World} {B e size n : Nat} {v : Value} {xs : List Value} (h : W.ownsRow B e size v n xs) (x : Nat) (hx : v.ownBlock = some x) : B ≤ x := by
  rcases h.2 with ⟨rfl, _⟩ | ⟨g, cap, cur, rfl, hb, _⟩
  · simp [Value.ownBlock] at hx
  · have : g = x := by simpa [Value.ownBlock] using hx
    omega
theorem own_empty (W : World) (e : TypeId) : (W.alloc (.cells #[] e)).ownsRow W.heap.size e 1 (.slice (some ⟨W.heap.size, 0, none⟩) 0 0) 0 [] :=
  ⟨rfl, .inr ⟨W.heap.size, 0, #[], rfl, Nat.le_refl _, (Blk.new W e _), Nat.zero_le _, by simp [maxLen], rfl, rfl⟩⟩
/-- A new block of one cell as a row. -/
theorem own_one (W : World) (e : TypeId) (c : Value) : (W.alloc (.cells #[c] e)).ownsRow W.heap.size e 1 (.slice (some ⟨W.heap.size, 0, none⟩) 1 1) 1 [c] :=
  ⟨rfl, .inr ⟨W.heap.size, 1, #[c], rfl, Nat.le_refl _, (Blk.new W e _), Nat.le_refl _, by simp [maxLen], rfl, rfl⟩⟩
/-- append(out, x), out being nil or of the call's own. -/
theorem app1 {ops : Array Oper} {rest : List Oper} {o : Oper} {a : Act} {Q : Exit → Act → World → Prop} (hgd : o.guard = none) (s x : Operand) {t e : TypeId}
    (ho : o.op = .call { callee := .builtin .append, args := #[s, x], argTypes := #[t, t] }) {i : TypeInfo} {z : Value} {bytes : Nat} (ht : Tryz.prog.underlying t = some (.slice e)) (hi : Tryz.prog.info? e = some i) (hz : i.zero = some z) (hsize : i.size = 1) (hby : i.bytes = bytes) (hzs : z.cells.size = 1)
    (wr : World) (base : Nat) (v : Value) (n : Nat) (xs : List Value) (c : Value) (hc : c.oneCell' = true) (hc2 : c.cells = #[c])
    (hs : a.eval s = v) (hx : a.eval x = .slice (some ⟨wr.heap.size, 0, none⟩) 1 1) (hown : wr.ownsRow base e 1 v n xs) (hb : base ≤ wr.heap.size) (hn : n ≤ 1000000) (hby2 : bytes ≤ 1000000)
    (h : ∀ v' w', w'.ownsRow base e 1 v' (n + 1) (xs ++ [c]) → wr.grownBy w' v.ownBlock → (v'.ownBlock = v.ownBlock ∨ v'.ownBlock = some (wr.heap.size + 1)) → Below base wr w' → wpList Tryz.prog ops Q rest (a.put o.dst v') w') :
    wpList Tryz.prog ops Q (o :: rest) a (wr.alloc (.cells #[c] e)) := by
  have hlt : (n + 1) * bytes ≤ 1000001 * 1000000 := Nat.mul_le_mul (by omega) hby2
  refine wpList_append_own_at _ hgd s x t ho base e i z 1 bytes ht hi hz hsize hby hzs (by decide) v n xs hs (hown.alloc _) ⟨wr.heap.size, 0, none⟩ 1 1 [c] hx rfl ?_ ?_ (by simp only [maxLen]; omega) (by omega) (by simp; omega) ?_
  · intro j u hj
    cases j with
    | zero =>
      have hu : c = u := by simpa using hj
      subst hu
      have := (Blk.new wr e #[c]).cell (j := 0) (v := c) rfl
      exact this
    | succ j => simp at hj
  · intro u hu
    have hu : u = c := by simpa using hu
    subst hu
    exact hc
  · intro v' w' h1 h2 _ h3
    refine h v' w' h1 (World.grownBy.trans (World.grownBy_alloc _ _ _) h2) (by simpa using h3) ?_
    refine (((Below.refl base wr).alloc hb _).grown h2 (by simp; omega) fun k hk => ?_)
    exact (hown.lt k hk).1
def strV (l : List UInt8) : Value := .string ⟨l.toArray⟩
theorem str_val (l : List UInt8) (X : ByteArray) (h : X.data.toList = l) : strV l = .string X := by
  subst h; rfl
theorem info_str : (Tryz.prog.info? 9).map (fun i => (i.zero, i.size, i.bytes)) = some (some (.string ⟨#[]⟩), 1, 16) := by kernel_rfl
theorem info_int : (Tryz.prog.info? 3).map (fun i => (i.zero, i.size, i.bytes)) = some (some (.int .i64 0), 1, 8) := by kernel_rfl
/-- A slice of strings, nil or not. -/
inductive RS (W : World) : Value → List (List UInt8) → Prop
  | none_ : RS W (.slice none 0 0) []
  | some_ (b o cap : Nat) (l : List (List UInt8)) (hb : b < W.heap.size) (h : ∀ i r, l[i]? = some r → W.cell? ⟨b, o + i, none⟩ = some (strV r)) : RS W (.slice (some ⟨b, o, none⟩) l.length cap) l
theorem RS.keep {W W' : World} {v : Value} {l : List (List UInt8)} (h : RS W v l) (hb : Below W.heap.size W W') : RS W' v l := by
  cases h with
  | none_ => exact .none_
  | some_ b o cap l hlt h => exact .some_ b o cap l (Nat.lt_of_lt_of_le hlt hb.size) (fun i r hi => keepW hb (h i r hi))
theorem RS.len {W : World} {v : Value} {l : List (List UInt8)} (h : RS W v l) : ∃ A cap, v = .slice A l.length cap := by
  cases h with
  | none_ => exact ⟨_, _, rfl⟩
  | some_ b o cap l _ h => exact ⟨_, _, rfl⟩
theorem rs_of_own {W : World} {base : Nat} {v : Value} {l : List (List UInt8)} (h : W.ownsRow base 9 1 v l.length (l.map strV)) : RS W v l := by
  rcases h.2 with ⟨rfl, h0⟩ | ⟨g, cap, cur, rfl, _, hg, hcur⟩
  · obtain rfl : l = [] := List.eq_nil_of_length_eq_zero h0
    exact .none_
  · refine .some_ g 0 cap l (Array.getElem?_eq_some_iff.1 hg).1 (fun i r hi => ?_)
    rw [Nat.zero_add]
    obtain ⟨_, _, _, h4⟩ := hcur
    have hj : (l.map strV)[i]? = some (strV r) := by rw [List.getElem?_map, hi]; rfl
    rw [← h4, List.getElem?_take] at hj
    split at hj
    · have hc : cur[i]? = some (strV r) := by simpa using hj
      simp [World.cell?, hg, hc]
    · cases hj
theorem str_ne {a b : List UInt8} (h : a ≠ b) : ((⟨a.toArray⟩ : ByteArray).toList == (⟨b.toArray⟩ : ByteArray).toList) = false := by
  rw [ByteArray.toList_eq, ByteArray.toList_eq]
  exact beq_eq_false_iff_ne.2 (by simpa using h)
theorem take_eq_next {α : Type} {l m : List α} {k : Nat} (h : l.take k = m.take k) {x : α} (h1 : l[k]? = some x) (h2 : m[k]? = some x) : l.take (k + 1) = m.take (k + 1) := by
  rw [List.take_add_one, List.take_add_one, h, h1, h2]
theorem take_more {α : Type} {l : List α} {k : Nat} {x : α} (h : l[k]? = some x) : l.take (k + 1) = l.take k ++ [x] := by
  rw [List.take_add_one, h]; rfl
end Go.Proofs.YtpkmibmombpjpaaGreatDoor
