/- Small laws: the length of a slice, a slice of entries as a source, lists that are the same. Slices of entries that share no memory: each the beginning of a block of its own; stores and appends. Several slices of entries that share no memory, and what has been appended to them. No program. -/
import Derived.Test.YtpkmibmombpjpaaGreatDoorEM
import Derived.Test.YtpkmibmombpjpaaGreatDoorEY
import Derived.Test.YtpkmibmombpjpaaGreatDoorApp
import Derived.Test.YtpkmibmombpjpaaGreatDoorSetM
import Derived.Deep.AppendSrc
set_option linter.unusedSimpArgs false
namespace Go.Proofs.YtpkmibmombpjpaaGreatDoor
open Go Go.RowKit

theorem exec_len {o : Oper} {w : World} {a : Act} {x : Operand} {A : Option Addr} {n c : Nat} {T E : TypeId} (hu : Tryz.prog.underlying T = some (.slice E)) (ho : o.op = .call { callee := .builtin .len, args := #[x], argTypes := #[T] }) (hx : a.eval x = .slice A n c) : (execOp a.eval o).run Tryz.prog w = .ok (.value (.int .i64 (n : Int))) w := by
  simp only [execOp, ho, resolve, invoke, builtin, Sem.run_bind, Sem.run_pure, Result.andThen_ok, List.map_toArray, List.map_cons, List.map_nil, hx]
  simp [Builtin.len_, run_underlying hu, goInt]
theorem own_slice3 {W : World} {B e sz n : Nat} {u : Value} {xs : List Value} (h : W.ownsRow B e sz u n xs) : ∃ A c, u = .slice A n c := by
  rcases h.2 with ⟨rfl, rfl⟩ | ⟨g, cap, cur, rfl, _⟩
  · exact ⟨_, _, rfl⟩
  · exact ⟨_, _, rfl⟩
theorem src_es {W : World} {v : Value} {l : List En} {n : Nat} (h : ES W v l) (hn : l.length = n) : SrcR W 33 v n (flat enC l) := by
  subst hn
  exact LS.src enC_size (by omega) h
theorem sameEn_yes (l m : List En) (h : l = m) (hl : ∀ e ∈ l, e.In) (hn : l.length ≤ 1000000) (v u : Value) (w : World) (hv : ES w v l) (hu : ES w u m) : Calls Tryz.prog 17 #[v, u] w (fun r w' => r = .returned (.bool true) ∧ Below w.heap.size w w') := by
  subst h
  refine (sameEn_any l l hl hl hn v u w hv hu).mono ?_
  rintro r w' ⟨⟨b, rfl, hb⟩, h⟩
  rw [hb.2 rfl]
  exact ⟨rfl, h⟩
end Go.Proofs.YtpkmibmombpjpaaGreatDoor
set_option linter.unusedSimpArgs false
namespace Go.Proofs.YtpkmibmombpjpaaGreatDoor
open Go Go.RowKit

/-- A slice at the beginning of a block that has room for its capacity, or nil. -/
inductive AP (W : World) : Value → List En → Prop
  | none_ : AP W (.slice none 0 0) []
  | some_ (g c : Nat) (M : List En) (T : List Value) (h : EB W g M T) (hc : M.length ≤ c) (hr : c * 33 ≤ M.length * 33 + T.length) : AP W (.slice (some ⟨g, 0, none⟩) M.length c) M
theorem AP.len {W : World} {v : Value} {M : List En} (h : AP W v M) : ∃ A c, v = .slice A M.length c := by
  cases h with
  | none_ => exact ⟨_, _, rfl⟩
  | some_ g c M T h hc hr => exact ⟨_, _, rfl⟩
theorem AP.es {W : World} {v : Value} {M : List En} (h : AP W v M) : ES W v M := by
  cases h with
  | none_ => exact .none_
  | some_ g c M T h hc hr => exact h.ls hc
theorem AP.blk {W : World} {v : Value} {M : List En} (h : AP W v M) {b : Nat} (hb : v.ownBlock = some b) : ∃ C, Blk W b 34 C := by
  cases h with
  | none_ => cases hb
  | some_ g c M T h hc hr =>
    obtain rfl : g = b := by simpa [Value.ownBlock] using hb
    exact ⟨_, h⟩
theorem AP.lt {W : World} {v : Value} {M : List En} (h : AP W v M) {b : Nat} (hb : v.ownBlock = some b) : b < W.heap.size := by
  obtain ⟨C, h⟩ := h.blk hb
  exact h.lt
theorem AP.kept {W W' : World} {v : Value} {M : List En} {r : Option Nat} (h : AP W v M) (hg : W.grownBy W' r) (hr : ∀ b, v.ownBlock = some b → r ≠ some b) : AP W' v M := by
  cases h with
  | none_ => exact .none_
  | some_ g c M T h hc hr2 => exact .some_ g c M T ((hg.block g h.lt (fun e => hr g rfl e.symm)).trans h) hc hr2
theorem AP.keep {W W' : World} {v : Value} {M : List En} (h : AP W v M) (hb : Below W.heap.size W W') : AP W' v M := by
  cases h with
  | none_ => exact .none_
  | some_ g c M T h hc hr => exact .some_ g c M T (h.keep hb) hc hr
theorem flat_all (M : List En) : ∀ u ∈ flat enC M, u.oneCell' = true := ent_one M
/-- The beginning of what lies in such a block. -/
theorem AP.pre {W : World} {A : Option Addr} {n c : Nat} {M K : List En} (h : AP W (.slice A n c) (M ++ K)) : AP W (.slice A M.length c) M := by
  generalize hN : M ++ K = N at h
  generalize hv : Value.slice A n c = v at h
  cases h with
  | none_ =>
    obtain ⟨rfl, rfl⟩ := List.append_eq_nil_iff.1 hN
    injection hv with e1 e2 e3
    subst e1; subst e3
    exact .none_
  | some_ g c' N T h hc hr =>
    injection hv with e1 e2 e3
    subst e1; subst e3; subst hN
    refine .some_ g c M (flat enC K ++ T) ?_ (by rw [List.length_append] at hc; omega) ?_
    · unfold EB at h ⊢
      rw [flat_app, List.append_assoc] at h
      exact h
    · rw [List.length_append, flat_l]
      rw [List.length_append] at hr
      omega
theorem AP.of_ownE {W : World} {B : Nat} {v : Value} {M : List En} (h : OwnE W B v M) : AP W v M := by
  cases h with
  | none_ => exact .none_
  | some_ g M T hg h => exact .some_ g M.length M T h (Nat.le_refl _) (by omega)
theorem AP.of_own {W : World} {B : Nat} {v : Value} {M : List En} (h : W.ownsRow B 34 33 v M.length (flat enC M)) : AP W v M := by
  rcases h.2 with ⟨rfl, h0⟩ | ⟨g, cap, cur, rfl, _, hg, hc, _, hs, ht⟩
  · obtain rfl : M = [] := List.length_eq_zero_iff.1 h0
    exact .none_
  · refine .some_ g cap M (cur.toList.drop (M.length * 33)) ?_ hc ?_
    · show W.heap[g]? = _
      rw [hg, ← ht, List.take_append_drop]
    · have h1 : cur.toList.length = cap * 33 := by rw [Array.length_toList, hs]
      rw [List.length_drop, h1]; omega
theorem OwnE.ge {W : World} {B b : Nat} {v : Value} {M : List En} (h : OwnE W B v M) (hb : v.ownBlock = some b) : B ≤ b := by
  cases h with
  | none_ => cases hb
  | some_ g M T hg h =>
    obtain rfl : g = b := by simpa [Value.ownBlock] using hb
    exact hg
theorem grown_setCells (b : Nat) : ∀ (vs : List Value) (o : Nat) (w : World), w.grownBy (w.setCells b o vs) (some b)
  | [], _, _ => World.grownBy.refl _ _
  | v :: vs, o, w => by
    rw [World.setCells]
    have h1 : w.grownBy (w.setCell ⟨b, o, none⟩ v) (some b) := ⟨rfl, rfl, rfl, by simp, fun k hk hne => Below.heap_setCell _ _ _ _ (by
      show k ≠ b
      exact fun e => hne (by rw [e]))⟩
    exact h1.trans (grown_setCells b vs (o + 1) _)
/-- An entry stored. -/
theorem AP.put {W : World} {A : Option Addr} {n c i : Nat} {M : List En} (h : AP W (.slice A n c) M) (hi : i < M.length) (e : En) : ∃ g, A = some ⟨g, 0, none⟩ ∧ (Instr.storeAt 34 (.pointer (some ⟨g, i * 33, none⟩)) (.agg (enC e))).run Tryz.prog W = .ok () (W.setCells g (i * 33) (enC e).toList) ∧ AP (W.setCells g (i * 33) (enC e).toList) (.slice A n c) (M.set i e) ∧ W.grownBy (W.setCells g (i * 33) (enC e).toList) (some g) := by
  generalize hv : Value.slice A n c = v at h
  cases h with
  | none_ => simp at hi
  | some_ g c' M T h hc hr =>
    injection hv with e1 e2 e3
    subst e1; subst e2; subst e3
    refine ⟨g, rfl, h.store hi rfl e, ?_, grown_setCells g _ _ _⟩
    have := AP.some_ (W := W.setCells g (i * 33) (enC e).toList) g c (M.set i e) T (h.put hi e) (by rw [List.length_set]; exact hc) (by rw [List.length_set]; exact hr)
    rwa [List.length_set] at this
/-- An entry loaded. -/
theorem AP.load {W : World} {A : Option Addr} {n c i : Nat} {M : List En} {e : En} (h : AP W (.slice A n c) M) (hi : M[i]? = some e) : ∃ g, A = some ⟨g, 0, none⟩ ∧ (Instr.loadAt 34 (.pointer (some ⟨g, i * 33, none⟩))).run Tryz.prog W = .ok (.agg (enC e)) W := by
  generalize hv : Value.slice A n c = v at h
  cases h with
  | none_ => simp at hi
  | some_ g c' M T h hc hr =>
    injection hv with e1 e2 e3
    subst e1
    exact ⟨g, rfl, h.load hi rfl⟩
/-- Where an append has put its answer. -/
def GA (W w' : World) (v v' : Value) : Prop := (∃ A n n' c, v = .slice A n c ∧ v' = .slice A n' c ∧ W.grownBy w' v.ownBlock) ∨ (v'.ownBlock = some W.heap.size ∧ W.grownBy w' none)
theorem src_src {W : World} {v : Value} {n : Nat} {K : List En} (hv : SrcR W 33 v n (flat enC K)) : Src Tryz.prog 33 40 v n (flat enC K) W := by
  have ht : Tryz.prog.underlying 40 = some (.slice 34) := Tryz.underlying40
  have h1 := ent_one K
  revert hv h1
  generalize flat enC K = cs0
  intro hv h1
  cases hv with
  | none_ => exact Src.ofNil W ht 0
  | some_ b o m c cs hl h => exact Src.ofSlice W ht ⟨b, o, none⟩ n c cs0 hl (fun j u hj => by rw [add_at]; exact h j u hj) h1
theorem op_ap {ops : Array Oper} {rest : List Oper} {o : Oper} {a : Act} {Q : Exit → Act → World → Prop} {w : World} (hg : o.guard = none) (s x : Operand) (ho : o.op = .call { callee := .builtin .append, args := #[s, x], argTypes := #[40, 40] }) (u v : Value) (n m : Nat) (M K : List En) (hs : a.eval s = u) (hx : a.eval x = v) (hn : M.length = n) (hu : AP w u M) (hk : K.length = m) (hv : SrcR w 33 v m (flat enC K)) (hlen : n + m ≤ 1000000)
    (h : ∀ v' w', AP w' v' (M ++ K) → GA w w' u v' → wpList Tryz.prog ops Q rest (a.put o.dst v') w') : wpList Tryz.prog ops Q (o :: rest) a w := by
  obtain ⟨i0, z0, hi0, hz0, hz1, hz2, hz3⟩ := info_parts_ent
  have ht : Tryz.prog.underlying 40 = some (.slice 34) := Tryz.underlying40
  subst hk
  cases hu with
  | none_ =>
    obtain rfl : n = 0 := hn.symm
    by_cases hm : K.length = 0
    · obtain rfl : K = [] := List.length_eq_zero_iff.1 hm
      have hsrc := src_src hv
      cases hv with
      | none_ =>
        have hr := run_append_owned_none (P := Tryz.prog) w 0 40 o.type 34 i0 33 ht hi0 (.slice none 0 0) 0 [] (World.ownsRow_nil _ _ _ _)
        refine wpList_plain hg fun J hJ => ?_
        have hx' : a.eval x = .slice none 0 0 := hx
        unfold Oper.wp execOp
        simp only [ho, resolve, invoke, builtin, Sem.run_bind, Sem.run_pure, Result.andThen_ok, List.map_toArray, List.map_cons, List.map_nil, hs, hx', hr]
        exact hJ _ _ (h _ _ .none_ (.inl ⟨_, _, _, _, rfl, rfl, World.grownBy.refl _ _⟩))
      | some_ b off m c cs hl hcell =>
        refine appS hg s x ho ht hi0 hz0 hz1 hz2 hz3 (by decide) w w.heap.size (.slice none 0 0) 0 [] hs (World.ownsRow_nil _ _ _ _) _ 0 (flat enC []) hx (.some_ b off 0 c _ hl hcell) (ent_one []) hlen (by decide) (Nat.le_refl _) ?_
        intro v' w' h1 h2 h3 _
        have hap : AP w' v' ([] ++ []) := AP.of_own (M := []) h1
        refine h v' w' hap ?_
        rcases h1.2 with ⟨rfl, _⟩ | ⟨g, cap, cur, rfl, _⟩
        · exact .inl ⟨_, _, _, _, rfl, rfl, h2⟩
        · refine .inr ⟨?_, h2⟩
          rcases h3 with h3 | h3
          · cases h3
          · exact h3
    · refine appS hg s x ho ht hi0 hz0 hz1 hz2 hz3 (by decide) w w.heap.size (.slice none 0 0) 0 [] hs (World.ownsRow_nil _ _ _ _) v K.length (flat enC K) hx hv (ent_one K) hlen (by decide) (Nat.le_refl _) ?_
      intro v' w' h1 h2 h3 _
      rw [Nat.zero_add] at h1
      refine h v' w' (by rw [List.nil_append]; exact AP.of_own h1) ?_
      rcases h1.2 with ⟨_, h0⟩ | ⟨g, cap, cur, rfl, _⟩
      · exact absurd h0 hm
      · refine .inr ⟨?_, h2⟩
        rcases h3 with h3 | h3
        · cases h3
        · exact h3
  | some_ g c M T hE hc hr =>
    subst hn
    have hsrc : Src Tryz.prog i0.size 40 v K.length (flat enC K) w := by
      rw [hz1]
      exact src_src hv
    by_cases hm : M.length + K.length ≤ c
    · have hT : K.length * 33 ≤ T.length := by omega
      have hcell : ∀ j, j < (flat enC K).length → (w.cell? ⟨g, 0 + M.length * i0.size + j, none⟩).isSome = true := by
        intro j hj
        rw [flat_l] at hj
        have hb : Blk w g 34 (flat enC M ++ T).toArray := hE
        obtain ⟨u, hu⟩ : ∃ u, (flat enC M ++ T).toArray[0 + M.length * i0.size + j]? = some u := ⟨_, Array.getElem?_eq_getElem (by
          rw [List.size_toArray, List.length_append, flat_l, hz1]; omega)⟩
        rw [hb.cell hu]; rfl
      have hrun := run_append_room_src w 40 40 o.type 34 i0 ht hi0 g 0 M.length c v K.length (flat enC K) hsrc hm hcell (fun j _ => Blk.free hE _)
      refine wpList_plain hg fun J hJ => ?_
      unfold Oper.wp execOp
      simp only [ho, resolve, invoke, builtin, Sem.run_bind, Sem.run_pure, Result.andThen_ok, List.map_toArray, List.map_cons, List.map_nil, hs, hx, hrun]
      refine hJ _ _ (h _ _ ?_ (.inl ⟨_, _, _, _, rfl, rfl, grown_setCells g _ _ _⟩))
      rw [hz1, Nat.zero_add]
      have h1 := Blk.putC (flat enC K) (M.length * 33) w _ hE
      rw [← List.take_append_drop (K.length * 33) T, ← List.append_assoc, ← flat_l M, putC_mid (flat enC K) (flat enC M) (T.take (K.length * 33)) (T.drop (K.length * 33)) (by rw [List.length_take, flat_l]; omega), flat_l M] at h1
      rw [← List.length_append]
      refine .some_ g c (M ++ K) (T.drop (K.length * 33)) ?_ (by rw [List.length_append]; exact hm) ?_
      · unfold EB
        rw [flat_app]
        exact h1
      · rw [List.length_append, List.length_drop]; omega
    · have holds : ∀ (j : Nat) (u : Value), (flat enC M)[j]? = some u → w.drew.cell? ((⟨g, 0, none⟩ : Addr).add j) = some u := by
        intro j u hj
        rw [add_at, Nat.zero_add]
        have hlt := (List.getElem?_eq_some_iff.1 hj).1
        exact Blk.cell hE (by rw [List.getElem?_toArray, List.getElem?_append_left hlt]; exact hj)
      have hrun := run_append_grow_src w 40 40 o.type 34 i0 z0 ht hi0 hz0 (some ⟨g, 0, none⟩) M.length c (flat enC M) (by rw [hz1]; exact run_firstCells_some w.drew 33 M.length ⟨g, 0, none⟩ M.length c (flat enC M) (flat_l M) holds) v K.length (flat enC K) hsrc (by omega) (by omega) (by rw [hz2]; exact growslice_fits (by omega) (by omega))
      refine wpList_plain hg fun J hJ => ?_
      unfold Oper.wp execOp
      simp only [ho, resolve, invoke, builtin, Sem.run_bind, Sem.run_pure, Result.andThen_ok, List.map_toArray, List.map_cons, List.map_nil, hs, hx, hrun]
      have hge := grownCap_ge w (M.length + K.length) c 34
      refine hJ _ _ (h _ _ ?_ (.inr ⟨rfl, ⟨rfl, rfl, rfl, by simp, fun k hk _ => heap_alloc_old w.drew _ hk⟩⟩))
      obtain ⟨G, hG⟩ : ∃ G, grownCap w (M.length + K.length) c 34 = G := ⟨_, rfl⟩
      rw [hG] at hge ⊢
      obtain ⟨Z, hZ⟩ : ∃ Z, Builtin.zeroCells z0.cells (G - (M.length + K.length)) = Z := ⟨_, rfl⟩
      have hZs : Z.toList.length = (G - (M.length + K.length)) * 33 := by rw [← hZ, Array.length_toList, size_zeroCells, hz3]
      rw [hZ]
      have he : EB (w.drew.alloc (.cells ((flat enC M ++ flat enC K).toArray ++ Z) 34)) w.heap.size (M ++ K) Z.toList := by
        unfold EB
        rw [flat_app]
        have e1 : ((flat enC M ++ flat enC K) ++ Z.toList).toArray = (flat enC M ++ flat enC K).toArray ++ Z := by
          apply Array.ext'
          simp
        rw [e1]
        exact Blk.new w.drew 34 _
      have h9 := AP.some_ w.heap.size G (M ++ K) Z.toList he (by rw [List.length_append]; exact hge) (by rw [List.length_append, hZs]; omega)
      rw [List.length_append] at h9
      exact h9
end Go.Proofs.YtpkmibmombpjpaaGreatDoor
set_option linter.unusedSimpArgs false
namespace Go.Proofs.YtpkmibmombpjpaaGreatDoor
open Go Go.RowKit

def updN {α : Type} (f : Nat → α) (k : Nat) (x : α) : Nat → α := fun j => if j = k then x else f j
theorem updN_same {α : Type} (f : Nat → α) (k : Nat) (x : α) : updN f k x k = x := if_pos rfl
theorem updN_other {α : Type} (f : Nat → α) {k j : Nat} (x : α) (h : j ≠ k) : updN f k x j = f j := if_neg h
def nilV : Value := .slice none 0 0
/-- Block b is that of the slice or of what was appended to it. -/
def Has (V U : Nat → Value) (k b : Nat) : Prop := (V k).ownBlock = some b ∨ (U k).ownBlock = some b
structure AF (W : World) (B K : Nat) (V U : Nat → Value) (M N : Nat → List En) : Prop where
  v : ∀ k, k < K → AP W (V k) (M k)
  u : ∀ k, k < K → AP W (U k) (N k)
  ge : ∀ k b, k < K → Has V U k b → B ≤ b
  ne : ∀ j k b, j < K → k < K → j ≠ k → Has V U j b → ¬ Has V U k b
  sh : ∀ k b, k < K → (V k).ownBlock = some b → (U k).ownBlock = some b → ∃ A n c L, U k = .slice A n c ∧ V k = .slice A (M k).length c ∧ N k = M k ++ L
theorem AF.keep {W W' : World} {B K : Nat} {V U : Nat → Value} {M N : Nat → List En} (h : AF W B K V U M N) (hb : Below W.heap.size W W') : AF W' B K V U M N :=
  ⟨fun k hk => (h.v k hk).keep hb, fun k hk => (h.u k hk).keep hb, h.ge, h.ne, h.sh⟩
theorem AF.init {W : World} {B K : Nat} {V : Nat → Value} {M : Nat → List En} (lo : Nat → Nat) (hv : ∀ k, k < K → AP W (V k) (M k)) (hb : ∀ k b, k < K → (V k).ownBlock = some b → lo k ≤ b ∧ b < lo (k + 1)) (h0 : ∀ k, B ≤ lo k) (hm : ∀ k, lo k ≤ lo (k + 1)) : AF W B K V (fun _ => nilV) M (fun _ => []) := by
  have hmono : ∀ j k, j ≤ k → lo j ≤ lo k := by
    intro j k hjk
    induction hjk with
    | refl => exact Nat.le_refl _
    | step _ ih => exact Nat.le_trans ih (hm _)
  have hx : ∀ k b, k < K → Has V (fun _ => nilV) k b → lo k ≤ b ∧ b < lo (k + 1) := by
    intro k b hk h
    rcases h with h | h
    · exact hb k b hk h
    · cases h
  refine ⟨hv, fun k _ => .none_, fun k b hk h => Nat.le_trans (h0 k) (hx k b hk h).1, fun j k b hj hk hne h1 h2 => ?_, fun k b _ _ h => by cases h⟩
  have a1 := hx j b hj h1
  have a2 := hx k b hk h2
  rcases Nat.lt_or_gt_of_ne hne with h | h
  · have := hmono (j + 1) k h; omega
  · have := hmono (k + 1) j h; omega
theorem AF.drop {W : World} {B K : Nat} {V U : Nat → Value} {M N : Nat → List En} (h : AF W B K V U M N) : AF W B K V (fun _ => nilV) M (fun _ => []) := by
  have hx : ∀ k b, Has V (fun _ => nilV) k b → Has V U k b := fun k b h => by
    rcases h with h | h
    · exact .inl h
    · cases h
  exact ⟨h.v, fun k _ => .none_, fun k b hk hh => h.ge k b hk (hx k b hh), fun j k b hj hk hne h1 h2 => h.ne j k b hj hk hne (hx j b h1) (hx k b h2), fun k b _ _ hh => by cases hh⟩
/-- The slice itself, before anything is appended to it. -/
theorem AF.start {W : World} {B K k : Nat} {V U : Nat → Value} {M N : Nat → List En} (h : AF W B K V U M N) (hk : k < K) : AF W B K V (updN U k (V k)) M (updN N k (M k)) := by
  have hx : ∀ j b, Has V (updN U k (V k)) j b → Has V U j b := fun j b hh => by
    rcases hh with hh | hh
    · exact .inl hh
    · by_cases e : j = k
      · subst e; rw [updN_same] at hh; exact .inl hh
      · rw [updN_other _ _ e] at hh; exact .inr hh
  refine ⟨h.v, fun j hj => ?_, fun j b hj hh => h.ge j b hj (hx j b hh), fun i j b hi hj hne h1 h2 => h.ne i j b hi hj hne (hx i b h1) (hx j b h2), fun j b hj h1 h2 => ?_⟩
  · by_cases e : j = k
    · subst e; rw [updN_same, updN_same]; exact h.v j hj
    · rw [updN_other _ _ e, updN_other _ _ e]; exact h.u j hj
  · by_cases e : j = k
    · subst e
      obtain ⟨A, c, hA⟩ := (h.v j hj).len
      rw [updN_same, updN_same]
      exact ⟨A, _, c, [], hA, hA, by simp⟩
    · rw [updN_other _ _ e] at h2 ⊢
      rw [updN_other _ _ e]
      exact h.sh j b hj h1 h2
/-- Something appended. -/
theorem AF.grow {W W' : World} {B K k : Nat} {V U : Nat → Value} {M N : Nat → List En} {u' : Value} {X : List En} (h : AF W B K V U M N) (hk : k < K) (hB : B ≤ W.heap.size) (hu : AP W' u' (N k ++ X)) (hg : GA W W' (U k) u') : AF W' B K V (updN U k u') M (updN N k (N k ++ X)) := by
  rcases hg with ⟨A, n, n', c, h1, h2, hg⟩ | ⟨h1, hg⟩
  · have hob : u'.ownBlock = (U k).ownBlock := by rw [h1, h2]; cases A <;> rfl
    have hx : ∀ j b, Has V (updN U k u') j b → Has V U j b := fun j b hh => by
      rcases hh with hh | hh
      · exact .inl hh
      · by_cases e : j = k
        · subst e; rw [updN_same, hob] at hh; exact .inr hh
        · rw [updN_other _ _ e] at hh; exact .inr hh
    refine ⟨fun j hj => ?_, fun j hj => ?_, fun j b hj hh => h.ge j b hj (hx j b hh), fun i j b hi hj hne a1 a2 => h.ne i j b hi hj hne (hx i b a1) (hx j b a2), fun j b hj a1 a2 => ?_⟩
    · by_cases e : j = k
      · subst e
        by_cases hs : ∃ b, (V j).ownBlock = some b ∧ (U j).ownBlock = some b
        · obtain ⟨b, s1, s2⟩ := hs
          obtain ⟨A2, n2, c2, L, t1, t2, t3⟩ := h.sh j b hj s1 s2
          rw [h1] at t1
          injection t1 with t4 t5 t6
          subst t4; subst t6
          rw [t2]
          rw [h2, t3, List.append_assoc] at hu
          exact hu.pre
        · exact (h.v j hj).kept hg (fun b hb e2 => hs ⟨b, hb, e2⟩)
      · exact (h.v j hj).kept hg (fun b hb e2 => h.ne j k b hj hk e (.inl hb) (.inr e2))
    · by_cases e : j = k
      · subst e; rw [updN_same, updN_same]; exact hu
      · rw [updN_other _ _ e, updN_other _ _ e]
        exact (h.u j hj).kept hg (fun b hb e2 => h.ne j k b hj hk e (.inr hb) (.inr e2))
    · by_cases e : j = k
      · subst e
        rw [updN_same] at a2 ⊢
        rw [updN_same]
        rw [hob] at a2
        obtain ⟨A2, n2, c2, L, t1, t2, t3⟩ := h.sh j b hj a1 a2
        rw [h1] at t1
        injection t1 with t4 t5 t6
        subst t4; subst t6
        exact ⟨A, n', c, L ++ X, h2, t2, by rw [t3, List.append_assoc]⟩
      · rw [updN_other _ _ e] at a2 ⊢
        rw [updN_other _ _ e]
        exact h.sh j b hj a1 a2
  · have hlt : ∀ j b, j < K → Has V U j b → b < W.heap.size := fun j b hj hh => by
      rcases hh with hh | hh
      · exact (h.v j hj).lt hh
      · exact (h.u j hj).lt hh
    have hx : ∀ j b, Has V (updN U k u') j b → Has V U j b ∨ (j = k ∧ b = W.heap.size) := fun j b hh => by
      rcases hh with hh | hh
      · exact .inl (.inl hh)
      · by_cases e : j = k
        · subst e; rw [updN_same, h1] at hh; exact .inr ⟨rfl, (Option.some.inj hh).symm⟩
        · rw [updN_other _ _ e] at hh; exact .inl (.inr hh)
    refine ⟨fun j hj => (h.v j hj).kept hg (fun b _ e => by cases e), fun j hj => ?_, fun j b hj hh => ?_, fun i j b hi hj hne a1 a2 => ?_, fun j b hj a1 a2 => ?_⟩
    · by_cases e : j = k
      · subst e; rw [updN_same, updN_same]; exact hu
      · rw [updN_other _ _ e, updN_other _ _ e]
        exact (h.u j hj).kept hg (fun b _ e => by cases e)
    · rcases hx j b hh with a | ⟨_, rfl⟩
      · exact h.ge j b hj a
      · exact hB
    · rcases hx i b a1 with b1 | ⟨c1, d1⟩ <;> rcases hx j b a2 with b2 | ⟨c2, d2⟩
      · exact h.ne i j b hi hj hne b1 b2
      · have := hlt i b hi b1; omega
      · have := hlt j b hj b2; omega
      · exact hne (c1.trans c2.symm)
    · by_cases e : j = k
      · subst e
        rw [updN_same, h1] at a2
        have := (h.v j hj).lt a1
        have := Option.some.inj a2
        omega
      · rw [updN_other _ _ e] at a2 ⊢
        rw [updN_other _ _ e]
        exact h.sh j b hj a1 a2
/-- An entry stored into a slice, nothing appended yet. -/
theorem AF.put {W W' : World} {B K k g : Nat} {V : Nat → Value} {M : Nat → List En} {X : List En} (h : AF W B K V (fun _ => nilV) M (fun _ => [])) (hk : k < K) (hv : AP W' (V k) X) (hb : (V k).ownBlock = some g) (hg : W.grownBy W' (some g)) : AF W' B K V (fun _ => nilV) (updN M k X) (fun _ => []) := by
  refine ⟨fun j hj => ?_, fun j _ => .none_, h.ge, h.ne, fun j b _ _ e => by cases e⟩
  by_cases e : j = k
  · subst e; rw [updN_same]; exact hv
  · rw [updN_other _ _ e]
    exact (h.v j hj).kept hg (fun b hb2 e2 => h.ne j k b hj hk e (.inl hb2) (.inl (by rw [hb, e2])))
theorem Blk.beside {W W' : World} {p b : Nat} {T : TypeId} {C : Array Value} {v : Value} {M : List En} (h : Blk W p T C) (hT : T ≠ 34) (hv : AP W v M) (hb : v.ownBlock = some b) (hg : W.grownBy W' (some b)) : Blk W' p T C := by
  refine (hg.block p h.lt (fun e => ?_)).trans h
  obtain ⟨D, hD⟩ := hv.blk hb
  have e2 : p = b := Option.some.inj e
  subst e2
  have h1 : W.heap[p]? = _ := h
  have h2 : W.heap[p]? = _ := hD
  rw [h1] at h2
  injection h2 with h2
  injection h2 with _ h3 _
  exact hT h3
theorem Blk.besideG {W W' : World} {p : Nat} {T : TypeId} {C : Array Value} {v v' : Value} {M : List En} (h : Blk W p T C) (hT : T ≠ 34) (hv : AP W v M) (hg : GA W W' v v') : Blk W' p T C := by
  rcases hg with ⟨A, n, n', c, h1, h2, hg⟩ | ⟨h1, hg⟩
  · cases hb : v.ownBlock with
    | none => rw [hb] at hg; exact (hg.block p h.lt (fun e => by cases e)).trans h
    | some b => rw [hb] at hg; exact h.beside hT hv hb hg
  · exact (hg.block p h.lt (fun e => by cases e)).trans h
theorem GA.below {W W' : World} {B : Nat} {v v' : Value} (h : GA W W' v v') (hB : B ≤ W.heap.size) (hb : ∀ b, v.ownBlock = some b → B ≤ b) : Below B W W' := by
  rcases h with ⟨A, n, n', c, h1, h2, hg⟩ | ⟨h1, hg⟩
  · exact (Below.refl B W).grown hg hB (fun k hk => hb k hk)
  · exact (Below.refl B W).grown hg hB (fun k hk => by cases hk)
/-- Marks. -/
def markN (k i : Nat) : Int := 1000003 * ((k : Int) + 7) + (i : Int)
def markE (k i : Nat) : En := gE 0 0 (markN k i) 0 0 0 false [] 0 0
def marksE (k n : Nat) : List En := (List.range n).map (markE k)
theorem marksE_len (k n : Nat) : (marksE k n).length = n := by simp [marksE]
theorem marksE_more (k n : Nat) : marksE k (n + 1) = marksE k n ++ [markE k n] := by simp [marksE, List.range_succ]
theorem marksE_at {k n i : Nat} (h : i < n) : (marksE k n)[i]? = some (markE k i) := by simp [marksE, h]
theorem mark_set {k i : Nat} {L : List En} (h : i < L.length) : (marksE k i ++ L.drop i).set i (markE k i) = marksE k (i + 1) ++ L.drop (i + 1) := by
  rw [List.set_append_right _ _ (by rw [marksE_len]; exact Nat.le_refl _), marksE_len, Nat.sub_self, List.drop_eq_getElem_cons h, List.set_cons_zero, marksE_more, List.append_assoc]
  rfl
/-- The contents while marks are written. -/
def stM (L : Nat → List En) (k i : Nat) : Nat → List En := fun j => if j < k then marksE j (L j).length else if j = k then marksE k i ++ (L k).drop i else L j
theorem stM_zero (L : Nat → List En) : stM L 0 0 = L := by
  funext j
  unfold stM
  rw [if_neg (by omega)]
  split
  · rename_i h; subst h; rfl
  · rfl
theorem stM_step (L : Nat → List En) {k i : Nat} (h : i < (L k).length) : updN (stM L k i) k ((stM L k i k).set i (markE k i)) = stM L k (i + 1) := by
  have h0 : stM L k i k = marksE k i ++ (L k).drop i := by unfold stM; rw [if_neg (by omega), if_pos rfl]
  funext j
  by_cases e : j = k
  · subst e
    rw [updN_same, h0, mark_set h]
    unfold stM
    rw [if_neg (by omega), if_pos rfl]
  · rw [updN_other _ _ e]
    unfold stM
    rw [if_neg e, if_neg e]
theorem stM_next (L : Nat → List En) (k : Nat) : stM L k (L k).length = stM L (k + 1) 0 := by
  funext j
  unfold stM
  by_cases h1 : j < k
  · rw [if_pos h1, if_pos (by omega)]
  · rw [if_neg h1]
    by_cases h2 : j = k
    · subst h2
      rw [if_pos rfl, if_pos (by omega), List.drop_length, List.append_nil]
    · rw [if_neg h2, if_neg (by omega)]
      split
      · rename_i h3; subst h3; rfl
      · rfl
theorem stM_len (L : Nat → List En) (k i j : Nat) (hi : i ≤ (L k).length) : (stM L k i j).length = (L j).length := by
  unfold stM
  split
  · exact marksE_len _ _
  · split
    · rename_i h; subst h; rw [List.length_append, marksE_len, List.length_drop]; omega
    · rfl
theorem stM_all (L : Nat → List En) (K : Nat) {j : Nat} (h : j < K) : stM L K 0 j = marksE j (L j).length := by
  unfold stM; rw [if_pos h]
theorem AF.congr {W : World} {B K : Nat} {V U : Nat → Value} {M N M' N' : Nat → List En} (h : AF W B K V U M N) (hM : ∀ k, k < K → M' k = M k) (hN : ∀ k, k < K → N' k = N k) : AF W B K V U M' N' :=
  ⟨fun k hk => by rw [hM k hk]; exact h.v k hk, fun k hk => by rw [hN k hk]; exact h.u k hk, h.ge, h.ne, fun k b hk a1 a2 => by rw [hM k hk, hN k hk]; exact h.sh k b hk a1 a2⟩
end Go.Proofs.YtpkmibmombpjpaaGreatDoor
