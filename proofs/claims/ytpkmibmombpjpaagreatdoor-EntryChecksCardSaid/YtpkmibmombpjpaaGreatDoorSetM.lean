/- The tables, and what lay below. Sets of entries: inserting, leaving out what stands twice, what a sorted list holds. No program. slices.Compact, Clip of entries in a block of the call's own. Guarded operations of a drawn region that are passed over, in a flow. No program. -/
import Derived.Test.YtpkmibmombpjpaaGreatDoorKW
import Derived.Test.YtpkmibmombpjpaaGreatDoorKcM
import Derived.Test.YtpkmibmombpjpaaGreatDoorEM
import Derived.Test.YtpkmibmombpjpaaGreatDoorEH
import Derived.Test.YtpkmibmombpjpaaGreatDoorEY
import Derived.Test.YtpkmibmombpjpaaGreatDoorFlow5
set_option linter.unusedSimpArgs false
namespace Go.Proofs.YtpkmibmombpjpaaGreatDoor
open Go Go.RowKit

/-- The tables, and what lay below. -/
structure EX (w W : World) : Prop where
  e0 : Env w
  below : Below w.heap.size w W
theorem EX.env {w W : World} (h : EX w W) : Env W := h.e0.keep h.below
theorem EX.keep {w W W' : World} (h : EX w W) (hb : Below W.heap.size W W') : EX w W' := ⟨h.e0, h.below.trans (hb.mono h.below.size)⟩
end Go.Proofs.YtpkmibmombpjpaaGreatDoor
set_option linter.unusedSimpArgs false
namespace Go.Proofs.YtpkmibmombpjpaaGreatDoor
open Go Go.RowKit

/-- An entry put into a set. -/
def insE (e : En) : List En → List En
  | [] => [e]
  | a :: r => if cmpE a e < 0 then a :: insE e r else if eqEn a e = true then e :: r else e :: a :: r
def setL (l : List En) : List En := l.foldl (fun s e => insE e s) []
/-- Neighbours that are the same left out. -/
def dedupL : List En → List En
  | a :: b :: r => if eqEn a b = true then dedupL (b :: r) else a :: dedupL (b :: r)
  | l => l
theorem cmp_neg {a b : En} : ¬ cmpE a b < 0 ↔ cmpE b a ≤ 0 := by
  rw [cmp_swap a b]; omega
theorem mem_insE (e x : En) : ∀ l : List En, x ∈ insE e l ↔ x = e ∨ x ∈ l
  | [] => by simp [insE]
  | a :: r => by
    unfold insE
    split
    · rw [List.mem_cons, mem_insE e x r, List.mem_cons]
      constructor
      · rintro (h | h | h) <;> simp [h]
      · rintro (h | h | h) <;> simp [h]
    · split
      · rename_i h
        obtain rfl := (eqEn_iff a e).1 h
        simp
      · simp
theorem setB_cons {a : En} {l : List En} (h : ∀ y, l.head? = some y → cmpE a y < 0) (hl : setB l = true) : setB (a :: l) = true := by
  cases l with
  | nil => rfl
  | cons b r =>
    show (decide (cmpE a b < 0) && setB (b :: r)) = true
    rw [hl, decide_eq_true (h b rfl)]; rfl
theorem setB_uncons {a : En} {l : List En} (h : setB (a :: l) = true) : setB l = true := setB_tail (a :: l) 1 h
theorem cmp_ltr {a b c : En} (h1 : cmpE a b < 0) (h2 : cmpE b c ≤ 0) : cmpE a c < 0 := by
  have h3 := cmp_trans (Int.le_of_lt h1) h2
  rcases Int.lt_or_eq_of_le h3 with h | h
  · exact h
  · obtain rfl := cmp_eq h
    have := cmp_neg.2 h2
    exact absurd h1 this
theorem setB_insE (e : En) : ∀ l : List En, setB l = true → setB (insE e l) = true
  | [], _ => rfl
  | a :: r, h => by
    have hr := setB_uncons h
    unfold insE
    split
    · rename_i h1
      refine setB_cons (fun y hy => ?_) (setB_insE e r hr)
      have hm : y ∈ insE e r := List.mem_of_mem_head? hy
      rcases (mem_insE e y r).1 hm with rfl | hm
      · exact h1
      · exact setB_first a r h y hm
    · rename_i h1
      split
      · rename_i h2
        obtain rfl := (eqEn_iff a e).1 h2
        exact h
      · rename_i h2
        refine setB_cons (fun y hy => ?_) h
        obtain rfl : a = y := by simpa using hy
        have h3 := cmp_neg.1 h1
        rcases Int.lt_or_eq_of_le h3 with h4 | h4
        · exact h4
        · exact absurd ((eqEn_iff a e).2 (cmp_eq h4).symm) h2
theorem setB_fold : ∀ (l s : List En), setB s = true → setB (l.foldl (fun s e => insE e s) s) = true
  | [], _, h => h
  | e :: l, s, h => setB_fold l _ (setB_insE e s h)
theorem mem_fold (x : En) : ∀ (l s : List En), x ∈ l.foldl (fun s e => insE e s) s ↔ x ∈ l ∨ x ∈ s
  | [], s => by simp
  | e :: l, s => by
    show x ∈ l.foldl (fun s e => insE e s) (insE e s) ↔ _
    rw [mem_fold x l, mem_insE, List.mem_cons]
    constructor
    · rintro (h | h | h) <;> simp [h]
    · rintro ((h | h) | h) <;> simp [h]
theorem setB_setL (l : List En) : setB (setL l) = true := setB_fold l [] rfl
theorem mem_setL (x : En) (l : List En) : x ∈ setL l ↔ x ∈ l := by
  unfold setL
  rw [mem_fold]; simp
/-- Two sets that hold the same are the same. -/
theorem set_same : ∀ (l m : List En), setB l = true → setB m = true → (∀ x, x ∈ l ↔ x ∈ m) → l = m
  | [], m, _, _, h => by
    cases m with
    | nil => rfl
    | cons b r => exact absurd ((h b).2 (by simp)) (by simp)
  | a :: l, m, hl, hm, h => by
    cases m with
    | nil => exact absurd ((h a).1 (by simp)) (by simp)
    | cons b m =>
      have hab : a = b := by
        rcases List.mem_cons.1 ((h a).1 (by simp)) with e | h1
        · exact e
        · rcases List.mem_cons.1 ((h b).2 (by simp)) with e | h2
          · exact e.symm
          · have h3 := setB_first b m hm a h1
            have h4 := setB_first a l hl b h2
            have := cmp_swap a b
            omega
      subst hab
      have hself := cmp_self a
      refine congrArg (a :: ·) (set_same l m (setB_uncons hl) (setB_uncons hm) (fun x => ?_))
      constructor
      · intro hx
        rcases List.mem_cons.1 ((h x).1 (by simp [hx])) with rfl | hx2
        · have := setB_first x l hl x hx
          omega
        · exact hx2
      · intro hx
        rcases List.mem_cons.1 ((h x).2 (by simp [hx])) with rfl | hx2
        · have := setB_first x m hm x hx
          omega
        · exact hx2
/-- A list that grows, where neighbours may be the same. -/
def ascB : List En → Bool
  | a :: b :: r => decide (cmpE a b ≤ 0) && ascB (b :: r)
  | _ => true
theorem mem_dedup (x : En) : ∀ l : List En, x ∈ dedupL l ↔ x ∈ l
  | [] => by simp [dedupL]
  | [a] => by simp [dedupL]
  | a :: b :: r => by
    unfold dedupL
    split
    · rename_i h
      obtain rfl := (eqEn_iff a b).1 h
      rw [mem_dedup x (a :: r)]; simp
    · rw [List.mem_cons, mem_dedup x (b :: r)]; simp
theorem dedup_head : ∀ (l : List En), (dedupL l).head? = l.head?
  | [] => rfl
  | [_] => rfl
  | a :: b :: r => by
    unfold dedupL
    split
    · rename_i h
      obtain rfl := (eqEn_iff a b).1 h
      exact dedup_head (a :: r)
    · rfl
theorem setB_dedup : ∀ l : List En, ascB l = true → setB (dedupL l) = true
  | [], _ => rfl
  | [_], _ => rfl
  | a :: b :: r, h => by
    have h : (decide (cmpE a b ≤ 0) && ascB (b :: r)) = true := h
    rw [Bool.and_eq_true] at h
    have hr := setB_dedup (b :: r) h.2
    unfold dedupL
    split
    · exact hr
    · rename_i hne
      refine setB_cons (fun y hy => ?_) hr
      rw [dedup_head] at hy
      obtain rfl : b = y := by simpa using hy
      have h1 := of_decide_eq_true h.1
      rcases Int.lt_or_eq_of_le h1 with h2 | h2
      · exact h2
      · exact absurd ((eqEn_iff a b).2 (cmp_eq h2)) hne
theorem dedup_set {l m : List En} (h : ascB l = true) (hm : ∀ x, x ∈ l ↔ x ∈ m) : dedupL l = setL m :=
  set_same _ _ (setB_dedup l h) (setB_setL m) (fun x => by rw [mem_dedup, mem_setL, hm])
theorem dedup_snoc : ∀ (l : List En) (a b : En), dedupL (l ++ [a, b]) = if eqEn a b = true then dedupL (l ++ [a]) else dedupL (l ++ [a]) ++ [b]
  | [], a, b => by
    show dedupL [a, b] = _
    by_cases h : eqEn a b = true
    · obtain rfl := (eqEn_iff a b).1 h
      simp [dedupL, h]
    · simp [dedupL, h]
  | [x], a, b => by
    have := dedup_snoc [] a b
    show dedupL (x :: a :: [b]) = if eqEn a b = true then dedupL (x :: [a]) else dedupL (x :: [a]) ++ [b]
    show (if eqEn x a = true then dedupL (a :: [b]) else x :: dedupL (a :: [b])) = if eqEn a b = true then (if eqEn x a = true then dedupL [a] else x :: dedupL [a]) else (if eqEn x a = true then dedupL [a] else x :: dedupL [a]) ++ [b]
    have h2 : dedupL (a :: [b]) = if eqEn a b = true then dedupL [a] else dedupL [a] ++ [b] := this
    rw [h2]
    split <;> split <;> rfl
  | x :: y :: l, a, b => by
    have := dedup_snoc (y :: l) a b
    have h2 : dedupL (y :: (l ++ [a, b])) = if eqEn a b = true then dedupL (y :: (l ++ [a])) else dedupL (y :: (l ++ [a])) ++ [b] := this
    show (if eqEn x y = true then dedupL (y :: (l ++ [a, b])) else x :: dedupL (y :: (l ++ [a, b]))) = if eqEn a b = true then (if eqEn x y = true then dedupL (y :: (l ++ [a])) else x :: dedupL (y :: (l ++ [a]))) else (if eqEn x y = true then dedupL (y :: (l ++ [a])) else x :: dedupL (y :: (l ++ [a]))) ++ [b]
    rw [h2]
    split <;> split <;> rfl
theorem dedup_step {l : List En} {k : Nat} {a b : En} (ha : l[k]? = some a) (hb : l[k + 1]? = some b) : dedupL (l.take (k + 2)) = if eqEn a b = true then dedupL (l.take (k + 1)) else dedupL (l.take (k + 1)) ++ [b] := by
  rw [take_more hb, take_more ha, List.append_assoc]
  exact dedup_snoc _ a b
theorem dedup_len : ∀ l : List En, (dedupL l).length ≤ l.length
  | [] => Nat.le_refl _
  | [_] => Nat.le_refl _
  | a :: b :: r => by
    have := dedup_len (b :: r)
    unfold dedupL
    split
    · simp only [List.length_cons] at this ⊢; omega
    · simp only [List.length_cons] at this ⊢; omega
theorem setL_len (l : List En) : (setL l).length ≤ l.length := by
  unfold setL
  suffices h : ∀ (l s : List En), (l.foldl (fun s e => insE e s) s).length ≤ s.length + l.length by simpa using h l []
  intro l
  induction l with
  | nil => intro s; simp
  | cons e l ih =>
    intro s
    have h1 : ∀ s : List En, (insE e s).length ≤ s.length + 1 := by
      intro s
      induction s with
      | nil => simp [insE]
      | cons a r ih2 =>
        unfold insE
        split
        · simp only [List.length_cons]; omega
        · split <;> simp
    have := ih (insE e s)
    have := h1 s
    simp only [List.foldl_cons, List.length_cons]
    omega
theorem setL_in {l : List En} (h : ∀ e ∈ l, e.In) : ∀ e ∈ setL l, e.In := fun e he => h e ((mem_setL e l).1 he)
/-- A set is the set of its entries. -/
theorem setL_self {l : List En} (h : setB l = true) : setL l = l := set_same _ _ (setB_setL l) h (fun x => mem_setL x l)
theorem setL_congr {l m : List En} (h : ∀ x, x ∈ l ↔ x ∈ m) : setL l = setL m := set_same _ _ (setB_setL l) (setB_setL m) (fun x => by rw [mem_setL, mem_setL, h])
end Go.Proofs.YtpkmibmombpjpaaGreatDoor
set_option linter.unusedSimpArgs false
namespace Go.Proofs.YtpkmibmombpjpaaGreatDoor
open Go Go.RowKit

/-- A block that begins with entries. -/
def EB (W : World) (g : Nat) (M : List En) (T : List Value) : Prop := Blk W g 34 (flat enC M ++ T).toArray
theorem EB.lt {W : World} {g : Nat} {M : List En} {T : List Value} (h : EB W g M T) : g < W.heap.size := Blk.lt h
theorem EB.keep {W W' : World} {g : Nat} {M : List En} {T : List Value} (h : EB W g M T) (hb : Below W.heap.size W W') : EB W' g M T := Blk.keep h hb h.lt
theorem EB.drewN {W : World} {g : Nat} {M : List En} {T : List Value} (h : EB W g M T) (n : Nat) : EB (W.drewN n) g M T := h
theorem EB.get {W : World} {g i : Nat} {M : List En} {T : List Value} {e : En} (h : EB W g M T) (hi : M[i]? = some e) (j : Nat) (v : Value) (hj : (enC e)[j]? = some v) : W.cell? ⟨g, i * 33 + j, none⟩ = some v := by
  refine Blk.cell h ?_
  have := flat_at (enc := enC) (sz := 33) enC_size M i e hi j v hj
  rw [List.getElem?_toArray, List.getElem?_append_left (List.getElem?_eq_some_iff.1 this).1]
  exact this
theorem EB.load {W : World} {g i o : Nat} {M : List En} {T : List Value} {e : En} (h : EB W g M T) (hi : M[i]? = some e) (ho : o = i * 33) : (Instr.loadAt 34 (.pointer (some ⟨g, o, none⟩))).run Tryz.prog W = .ok (.agg (enC e)) W := by
  subst ho
  exact loadAt_run Tryz.underlying34 rfl (by rw [enC_size]; kernel_rfl) (fun j v hj => h.get hi j v hj)
theorem EB.ls {W : World} {g c : Nat} {M : List En} {T : List Value} (h : EB W g M T) (hc : M.length ≤ c) : ES W (.slice (some ⟨g, 0, none⟩) M.length c) M :=
  .some_ g 0 c M h.lt hc (fun i e hi j v hj => by rw [Nat.zero_add]; exact h.get hi j v hj)
theorem putC_mid : ∀ (vs p x q : List Value), x.length = vs.length → putC (p ++ x ++ q).toArray p.length vs = (p ++ vs ++ q).toArray
  | [], p, x, q, h => by
    obtain rfl : x = [] := List.length_eq_zero_iff.1 h
    rfl
  | v :: vs, p, [], q, h => by simp at h
  | v :: vs, p, y :: x, q, h => by
    unfold putC
    have e : ((p ++ y :: x ++ q).toArray).setIfInBounds p.length v = ((p ++ [v]) ++ x ++ q).toArray := by
      rw [List.setIfInBounds_toArray]
      congr 1
      simp [List.set_append_right]
    rw [e, show p.length + 1 = (p ++ [v]).length by simp, putC_mid vs (p ++ [v]) x q (by simpa using h)]
    simp
theorem flat_split {M : List En} {i : Nat} {e : En} (hi : M[i]? = some e) : flat enC M = flat enC (M.take i) ++ (enC e).toList ++ flat enC (M.drop (i + 1)) := by
  have hlt := (List.getElem?_eq_some_iff.1 hi).1
  have h : M = M.take i ++ e :: M.drop (i + 1) := by
    conv => lhs; rw [← List.take_append_drop i M, List.drop_eq_getElem_cons hlt, (List.getElem?_eq_some_iff.1 hi).2]
  conv => lhs; rw [h]
  rw [flat_app]
  simp [flat]
theorem flat_l (M : List En) : (flat enC M).length = M.length * 33 := flat_len (enc := enC) (sz := 33) enC_size M
theorem enC_len (e : En) : (enC e).toList.length = 33 := by rw [Array.length_toList, enC_size]
/-- An entry put into the block. -/
theorem EB.put {W : World} {g i : Nat} {M : List En} {T : List Value} (h : EB W g M T) (hi : i < M.length) (e : En) : EB (W.setCells g (i * 33) (enC e).toList) g (M.set i e) T := by
  obtain ⟨a, ha⟩ : ∃ a, M[i]? = some a := ⟨_, List.getElem?_eq_getElem hi⟩
  have hlen : (flat enC (M.take i)).length = i * 33 := by rw [flat_l, List.length_take, Nat.min_eq_left (by omega)]
  have h1 := Blk.putC (enC e).toList (i * 33) W _ h
  have h2 := flat_split ha
  have h3 : (M.set i e)[i]? = some e := by rw [List.getElem?_set_self hi]
  have h4 := flat_split h3
  rw [List.take_set_of_le (Nat.le_refl _), List.drop_set_of_lt (by omega)] at h4
  unfold EB
  rw [h4]
  rw [h2, List.append_assoc, ← hlen, putC_mid _ _ _ _ (by rw [enC_len, enC_len]), hlen] at h1
  rw [List.append_assoc (flat enC (M.take i) ++ (enC e).toList)]
  exact h1
theorem enC_one' (e : En) : (enC e).all (·.oneCell') = true := enC_one e
theorem EB.store {W : World} {g i o : Nat} {M : List En} {T : List Value} (h : EB W g M T) (hi : i < M.length) (ho : o = i * 33) (e : En) : (Instr.storeAt 34 (.pointer (some ⟨g, o, none⟩)) (.agg (enC e))).run Tryz.prog W = .ok () (W.setCells g (i * 33) (enC e).toList) := by
  subst ho
  obtain ⟨a, ha⟩ : ∃ a, M[i]? = some a := ⟨_, List.getElem?_eq_getElem hi⟩
  refine storeAt_run (by rw [enC_size]; kernel_rfl) (fun j hj => ?_) (fun j _ => h.free _) (fun v hv => ?_)
  · rw [enC_size] at hj
    obtain ⟨v, hv⟩ : ∃ v, (enC a)[j]? = some v := ⟨_, Array.getElem?_eq_getElem (by rw [enC_size]; exact hj)⟩
    rw [h.get ha j v hv]; rfl
  · have := enC_one e
    rw [Array.all_eq_true_iff_forall_mem] at this
    exact this v (by simpa using hv)
/-- The rest of a block overwritten. -/
theorem EB.over {W : World} {g k : Nat} {M : List En} {T : List Value} (h : EB W g M T) (hk : k ≤ M.length) (vs : List Value) (hv : vs.length = (M.length - k) * 33) : EB (W.setCells g (k * 33) vs) g (M.take k) (vs ++ T) := by
  have hlen : (flat enC (M.take k)).length = k * 33 := by rw [flat_l, List.length_take, Nat.min_eq_left hk]
  have h1 := Blk.putC vs (k * 33) W _ h
  have h2 : flat enC M = flat enC (M.take k) ++ flat enC (M.drop k) := by rw [← flat_app, List.take_append_drop]
  unfold EB
  rw [h2, ← hlen, putC_mid _ _ _ _ (by rw [flat_l, List.length_drop, hv]), hlen] at h1
  rw [← List.append_assoc]
  exact h1
/-- A part of such a slice. -/
theorem slice_from_gen {T : TypeId} {sz : Nat} (hu : Tryz.prog.underlying T = some (.slice (Tryz.prog.elem T))) (hs : ∀ W, (sizeOf (Tryz.prog.elem T)).run Tryz.prog W = .ok sz W) {g n c k : Nat} (hk : k ≤ n) (hn : n ≤ c) (hkc : k < c) (W : World) : (Instr.sliceAt T (.slice (some ⟨g, 0, none⟩) n c) (some (.int .i64 (k : Int))) none none).run Tryz.prog W = .ok (.slice (some ⟨g, k * sz, none⟩) (n - k) (c - k)) W := by
  have g1 : (0 : Int) ≤ (k : Int) ∧ (k : Int) ≤ (n : Int) := by omega
  rw [run_sliceAt_slice _ _ _ _ _ _ hu, run_slice_any _ _ _ _ _ hu]
  simp only [Instr.sliceBounds, Sem.run_bind, Sem.run_pure, run_sliceBound_if, g1, and_self, if_true, Int.toNat_natCast, Result.andThen_ok, hs, sliced]
  have h3 : (0 : Int) ≤ (n : Int) ∧ (n : Int) ≤ (c : Int) := by omega
  rw [if_neg (by omega : ¬ c = k)]
  simp [add_at]
theorem slice_upto_gen {T : TypeId} {sz : Nat} (hu : Tryz.prog.underlying T = some (.slice (Tryz.prog.elem T))) (hs : ∀ W, (sizeOf (Tryz.prog.elem T)).run Tryz.prog W = .ok sz W) {g n c k : Nat} (hk : k ≤ c) (W : World) : (Instr.sliceAt T (.slice (some ⟨g, 0, none⟩) n c) none (some (.int .i64 (k : Int))) none).run Tryz.prog W = .ok (.slice (some ⟨g, 0, none⟩) k c) W := by
  have g2 : (0 : Int) ≤ (k : Int) ∧ (k : Int) ≤ (c : Int) := by omega
  rw [run_sliceAt_slice _ _ _ _ _ _ hu, run_slice_h _ _ _ _ _ hu _ _ g2.1 g2.2]
  simp only [hs, Result.andThen_ok, sliced, Int.toNat_natCast]
  split <;> simp [Addr.add]
/-- A part of such a slice. -/
theorem slice_from {g n c k : Nat} (hk : k ≤ n) (hn : n ≤ c) (hkc : k < c) (W : World) : (Instr.sliceAt 40 (.slice (some ⟨g, 0, none⟩) n c) (some (.int .i64 (k : Int))) none none).run Tryz.prog W = .ok (.slice (some ⟨g, k * 33, none⟩) (n - k) (c - k)) W :=
  slice_from_gen (T := 40) (sz := 33) (by kernel_rfl) (fun W => by kernel_rfl) hk hn hkc W
theorem slice_upto {g n c k : Nat} (hk : k ≤ c) (W : World) : (Instr.sliceAt 40 (.slice (some ⟨g, 0, none⟩) n c) none (some (.int .i64 (k : Int))) none).run Tryz.prog W = .ok (.slice (some ⟨g, 0, none⟩) k c) W :=
  slice_upto_gen (T := 40) (sz := 33) (by kernel_rfl) (fun W => by kernel_rfl) hk W
/-- clear of the rest of the entries. -/
theorem clear_run {W : World} {g k n c : Nat} {M : List En} {T : List Value} (h : EB W g M T) (hn : M.length = n) (hk : k < n) : ∃ vs : List Value, vs.length = (n - k) * 33 ∧ ∀ ty, (Builtin.clear_ #[40] ty #[.slice (some ⟨g, k * 33, none⟩) (n - k) c]).run Tryz.prog W = .ok (.tuple #[]) (W.setCells g (k * 33) vs) := by
  have hu : Tryz.prog.underlying 40 = some (.slice 34) := Tryz.underlying40
  have hz : ∀ W, (zeroValue 34).run Tryz.prog W = .ok (.agg (enC zE)) W := fun W => by rw [zE_lit]; kernel_rfl
  refine ⟨(Builtin.zeroCells (enC zE) (n - k)).toList, by rw [Array.length_toList, size_zeroCells, enC_size], fun ty => ?_⟩
  obtain ⟨m, hm⟩ : ∃ m, n - k = m + 1 := ⟨n - k - 1, by omega⟩
  have hst := run_storeCells_cells (P := Tryz.prog) g (k * 33) (Builtin.zeroCells (enC zE) (m + 1)).toList 0 W (fun j hj => by
    rw [Array.length_toList, size_zeroCells, enC_size] at hj
    obtain ⟨a, ha⟩ : ∃ a, M[k + j / 33]? = some a := ⟨_, List.getElem?_eq_getElem (by omega)⟩
    obtain ⟨v, hv⟩ : ∃ v, (enC a)[j % 33]? = some v := ⟨_, Array.getElem?_eq_getElem (by rw [enC_size]; omega)⟩
    have := h.get ha (j % 33) v hv
    rw [show (k + j / 33) * 33 + j % 33 = k * 33 + 0 + j by omega] at this
    rw [this]; rfl) (fun j _ => h.free _) (fun v hv => by
    rw [Array.mem_toList_iff] at hv
    unfold Builtin.zeroCells at hv
    obtain ⟨i, _, rfl⟩ := Array.mem_map.1 hv
    have h1 := enC_one zE
    rw [Array.all_eq_true_iff_forall_mem] at h1
    have h2 : i % (enC zE).size < (enC zE).size := Nat.mod_lt _ (by rw [enC_size]; omega)
    rw [getElem!_pos (enC zE) (i % (enC zE).size) h2]
    exact h1 _ (Array.getElem_mem h2))
  simp only [Nat.add_zero] at hst
  rw [hm]
  simp [Builtin.clear_, run_underlying hu, hz, Value.cells, hst]
theorem eqEn_comm (a b : En) : eqEn a b = eqEn b a := by
  rw [Bool.eq_iff_iff, eqEn_iff, eqEn_iff]
  exact eq_comm
theorem drop_put {M' M : List En} {i k : Nat} {e : En} (h : M'.drop k = M.drop k) (hi : i < k) : (M'.set i e).drop k = M.drop k := by
  rw [List.drop_set_of_lt hi]; exact h
theorem drop_get {M' M : List En} {j k : Nat} (h : M'.drop k = M.drop k) (hk : k ≤ j) : M'[j]? = M[j]? := by
  have h1 : (M'.drop k)[j - k]? = (M.drop k)[j - k]? := by rw [h]
  rw [List.getElem?_drop, List.getElem?_drop, show k + (j - k) = j by omega] at h1
  exact h1
theorem drop_one {M' M : List En} {k : Nat} (h : M'.drop k = M.drop k) : M'.drop (k + 1) = M.drop (k + 1) := by
  rw [← List.drop_drop, h, List.drop_drop]
theorem take_put {M : List En} {i : Nat} {e : En} (hi : i < M.length) : (M.set i e).take (i + 1) = M.take i ++ [e] := by
  rw [take_more (List.getElem?_set_self hi), List.take_set_of_le (Nat.le_refl _)]
/-- What Compact leaves. -/
structure CptR (B g c L : Nat) (D : List En) (w w' : World) : Prop where
  ex : ∃ T, EB w' g D T ∧ D.length * 33 + T.length = L
  below : Below B w w'
set_option maxRecDepth 100000 in
set_option maxHeartbeats 8000000 in
theorem compact_any (B g c : Nat) (M : List En) (T : List Value) (hin : ∀ e ∈ M, e.In) (hl : M.length ≤ 1000000) (hc : M.length ≤ c) (hB : B ≤ g) (w : World) (h : EB w g M T) :
    Calls Tryz.prog 39 #[.slice (some ⟨g, 0, none⟩) M.length c] w (fun r w' => r = .returned (.slice (some ⟨g, 0, none⟩) (dedupL M).length c) ∧ CptR B g c (M.length * 33 + T.length) (dedupL M) w w') := by
  obtain ⟨n, hn⟩ : ∃ n, M.length = n := ⟨_, rfl⟩
  have HIN := Lib.hid hin
  have H0 := Lib.hid h
  have HN := Lib.hid hn
  rw [hn] at hl hc ⊢
  clear hin h hn
  go_enter Tryz.func39, Tryz.ntmps39
  by_cases h2 : n < 2
  · have u0 : decide ((n : Int) < 2) = true := decide_eq_true (by omega)
    have HD : Hid (dedupL M = M) := Lib.hid (by
      have hn := HN.out
      match M, hn with
      | [], _ => rfl
      | [_], _ => rfl
      | _ :: _ :: _, hn => simp at hn; omega)
    go_wp2_with fail
    go_ret
    rw [HD.out, HN.out]
    exact ⟨rfl, ⟨⟨T, H0.out, by rw [HN.out]⟩, Below.refl _ _⟩⟩
  · have u0 : decide ((n : Int) < 2) = false := decide_eq_false (by omega)
    go_wp2_with fail
    go_loopw [3] (fun s3 wr => ∃ k : Nat, k + 1 ≤ n ∧ s3 = .int .i64 ((k : Int) + 1) ∧ Hid (dedupL (M.take (k + 1)) = M.take (k + 1)) ∧ Hid (EB wr g M T) ∧ Hid (Below B w wr)) (fun s3 _ => n - (intOf s3).toNat)
    case atStart => exact ⟨0, by omega, by simp, Lib.hid (by cases M with | nil => rfl | cons a r => rfl), H0, Lib.hid (Below.refl _ _)⟩
    case round =>
      clear H0
      obtain ⟨k, hk, rfl, HD, HE, HW⟩ := hrel
      by_cases hlt : k + 1 < n
      · have u1 : decide ((k : Int) + 1 < (n : Int)) = true := decide_eq_true (by omega)
        obtain ⟨a, ha⟩ : ∃ a, M[k]? = some a := ⟨_, List.getElem?_eq_getElem (by rw [HN.out]; omega)⟩
        obtain ⟨b, hb⟩ : ∃ b, M[k + 1]? = some b := ⟨_, List.getElem?_eq_getElem (by rw [HN.out]; omega)⟩
        have ain := HIN.out a (List.mem_of_getElem? ha)
        have bin := HIN.out b (List.mem_of_getElem? hb)
        have EQ := eql_deep (eq_en b a bin ain)
        have HST := Lib.hid (dedup_step ha hb)
        have HK := Lib.hid (And.intro hk hlt)
        have HAB := Lib.hid (And.intro ha hb)
        have e1 : IntKind.i64.wrap (k : Int) = (k : Int) := IntWalk.i64_in _ (by omega)
        have e2 : ((k : Int) + 1).toNat = k + 1 := by omega
        have e3 : IntKind.i64.wrap ((k : Int) + 1 + 1) = (k : Int) + 1 + 1 := IntWalk.i64_in _ (by omega)
        have j0 : (0 : Int) ≤ (k : Int) := by omega
        have j1 : (k : Int) < (n : Int) := by omega
        have j2 : (0 : Int) ≤ (k : Int) + 1 := by omega
        have j3 : (k : Int) + 1 < (n : Int) := by omega
        have j4 : ¬ (n : Int) ≤ (k : Int) := by omega
        have j5 : ¬ (n : Int) ≤ (k : Int) + 1 := by omega
        have j6 : ¬ (k : Int) + 1 < 0 := by omega
        have j7 : ¬ n ≤ k := by omega
        have j8 : ¬ n ≤ k + 1 := by omega
        have lo1 : ∀ W, EB W g M T → (Instr.loadAt 34 (.pointer (some ⟨g, (k + 1) * 33, none⟩))).run Tryz.prog W = .ok (.agg (enC b)) W := fun W h => h.load hb rfl
        have lo2 : ∀ W, EB W g M T → (Instr.loadAt 34 (.pointer (some ⟨g, k * 33, none⟩))).run Tryz.prog W = .ok (.agg (enC a)) W := fun W h => h.load ha rfl
        obtain ⟨q, hq⟩ : ∃ q, eqEn b a = q := ⟨_, rfl⟩
        have HQ := Lib.hid hq
        rw [hq] at EQ
        clear ha hb ain bin hk hlt hq h2
        go_upto_region 6 with fail
        refine wp_region_quiet_lit (by kernel_rfl) (by kernel_rfl) ?_
        iterate 3 (quiet_step (fail))
        refine q_load (p := .pointer (some ⟨g, (k + 1) * 33, none⟩)) (C := .agg (enC b)) 34 (.tmp 18) rfl rfl (by simp [Act.eval, Act.put]) (fun W h => by obtain ⟨n, rfl⟩ := h; exact lo1 _ (HE.out.drewN n)) ?_
        iterate 4 (quiet_step (fail))
        refine q_load (p := .pointer (some ⟨g, k * 33, none⟩)) (C := .agg (enC a)) 34 (.tmp 23) rfl rfl (by simp [Act.eval, Act.put]) (fun W h => by obtain ⟨n, rfl⟩ := h; exact lo2 _ (HE.out.drewN n)) ?_
        refine q_bin (X := enC b) (Y := enC a) .eql 34 _ (.tmp 19) (.tmp 24) rfl rfl rfl rfl (by kernel_rfl) (fun W => EQ W) ?_
        refine wpQuiet_nil ?_
        rintro wq ⟨nq, rfl⟩
        have HW2 := Lib.hid (below_drewN HW.out nq)
        have HE2 := Lib.hid (HE.out.drewN nq)
        clear lo1 lo2 EQ HW HE u1 e1
        generalize wr.drewN nq = W2 at *
        simp only [Act.put, List.setIfInBounds_toArray, List.set_cons_succ, List.set_cons_zero]
        rcases q with _ | _
        · have HX : Hid (dedupL (M.take (k + 1 + 1)) = M.take (k + 1 + 1)) := Lib.hid (by
            rw [HST.out, if_neg (by rw [eqEn_comm, HQ.out]; simp), HD.out, ← take_more HAB.out.2])
          go_wp2_with fail
          go_roundw
          case rel => exact ⟨k + 1, HK.out.2, by simp, HX, HE2, HW2⟩
          case measure => have := HK.out.2; simp only [intOf]; omega
        · have HX : Hid (dedupL (M.take (k + 1 + 1)) = M.take (k + 1)) := Lib.hid (by
            rw [HST.out, if_pos (by rw [eqEn_comm, HQ.out]), HD.out])
          obtain ⟨m, hm⟩ : ∃ m, n - (k + 1) = m := ⟨_, rfl⟩
          obtain ⟨c2, hc2⟩ : ∃ c2, c - (k + 1) = c2 := ⟨_, rfl⟩
          have sl1 := fun W => slice_from (g := g) (n := n) (c := c) (k := k + 1) (Nat.le_of_lt HK.out.2) hc (Nat.lt_of_lt_of_le HK.out.2 hc) W
          rw [show ((k + 1 : Nat) : Int) = (k : Int) + 1 by omega, hm, hc2] at sl1
          have hm1 : 1 ≤ m := by have := HK.out.2; omega
          have hm2 : k + 1 + m = n := by have := HK.out.2; omega
          have HM := Lib.hid (And.intro hm1 hm2)
          have HL := Lib.hid (And.intro hl hc)
          clear hm hc2 HST HK HAB e2 e3 j0 j1 j2 j3 j4 j5 j6 j7 j8 hm1 hm2 HQ HD
          go_wp2_with fail
          clear sl1
          go_loopw [3, 5] (fun s3 s5 wr => ∃ (j i : Nat) (M' : List En), s3 = .int .i64 (j : Int) ∧ s5 = .int .i64 ((i : Int) + 1) ∧ i + 1 ≤ m ∧ k + 1 ≤ j ∧ j ≤ k + 1 + i ∧ M'.length = n ∧ Hid (M'.drop (k + 1 + i) = M.drop (k + 1 + i)) ∧ Hid (M'.take j = dedupL (M.take (k + 1 + i + 1))) ∧ Hid (EB wr g M' T) ∧ Hid (Below B w wr)) (fun _ s5 _ => m - (intOf s5).toNat)
          case atStart => exact ⟨k + 1, 0, M, by simp, by simp, HM.out.1, Nat.le_refl _, Nat.le_refl _, HN.out, Lib.hid rfl, Lib.hid HX.out.symm, HE2, HW2⟩
          case round =>
            clear HE2 HW2
            obtain ⟨j, i, M', rfl, rfl, hi, hj1, hj2, hml, HR, HT, HE, HW⟩ := hrel
            have hm2 := HM.out.2
            have hl := HL.out.1
            by_cases hlt : i + 1 < m
            · have u1 : decide ((i : Int) + 1 < (m : Int)) = true := decide_eq_true (by omega)
              obtain ⟨a, ha⟩ : ∃ a, M[k + 1 + i]? = some a := ⟨_, List.getElem?_eq_getElem (by rw [HN.out]; omega)⟩
              obtain ⟨b, hb⟩ : ∃ b, M[k + 1 + i + 1]? = some b := ⟨_, List.getElem?_eq_getElem (by rw [HN.out]; omega)⟩
              have ain := HIN.out a (List.mem_of_getElem? ha)
              have bin := HIN.out b (List.mem_of_getElem? hb)
              have NE := neq_deep (eq_en b a bin ain)
              have HST := Lib.hid (dedup_step ha hb)
              have ha' : M'[k + 1 + i]? = some a := by rw [drop_get HR.out (Nat.le_refl _)]; exact ha
              have hb' : M'[k + 1 + i + 1]? = some b := by rw [drop_get HR.out (by omega)]; exact hb
              have HAB := Lib.hid (And.intro ha' hb')
              have HJ := Lib.hid (And.intro hi (And.intro hj1 (And.intro hj2 (And.intro hml hlt))))
              have e1 : IntKind.i64.wrap (i : Int) = (i : Int) := IntWalk.i64_in _ (by omega)
              have e2 : ((i : Int) + 1).toNat = i + 1 := by omega
              have e3 : IntKind.i64.wrap ((i : Int) + 1 + 1) = (i : Int) + 1 + 1 := IntWalk.i64_in _ (by omega)
              have e4 : IntKind.i64.wrap ((j : Int) + 1) = (j : Int) + 1 := IntWalk.i64_in _ (by omega)
              have j0 : (0 : Int) ≤ (i : Int) := by omega
              have j1 : (i : Int) < (m : Int) := by omega
              have j2 : (0 : Int) ≤ (i : Int) + 1 := by omega
              have j3 : (i : Int) + 1 < (m : Int) := by omega
              have j4 : ¬ (m : Int) ≤ (i : Int) := by omega
              have j5 : ¬ (m : Int) ≤ (i : Int) + 1 := by omega
              have j6 : ¬ (i : Int) + 1 < 0 := by omega
              have j7 : ¬ m ≤ i := by omega
              have j8 : ¬ m ≤ i + 1 := by omega
              have l0 : (0 : Int) ≤ (j : Int) := by omega
              have l1 : (j : Int) < (n : Int) := by omega
              have l2 : ¬ (n : Int) ≤ (j : Int) := by omega
              have l3 : ¬ n ≤ j := by omega
              have lo1 : ∀ W, EB W g M' T → (Instr.loadAt 34 (.pointer (some ⟨g, (k + 1) * 33 + (i + 1) * 33, none⟩))).run Tryz.prog W = .ok (.agg (enC b)) W := fun W h => h.load hb' (by omega)
              have lo2 : ∀ W, EB W g M' T → (Instr.loadAt 34 (.pointer (some ⟨g, (k + 1) * 33 + i * 33, none⟩))).run Tryz.prog W = .ok (.agg (enC a)) W := fun W h => h.load ha' (by omega)
              obtain ⟨q, hq⟩ : ∃ q, eqEn b a = q := ⟨_, rfl⟩
              have HQ := Lib.hid hq
              rw [hq] at NE
              clear ha hb ha' hb' ain bin hi hj1 hj2 hml hlt hq
              go_upto_region 11 with fail
              refine wp_region_quiet_lit (by kernel_rfl) (by kernel_rfl) ?_
              iterate 3 (quiet_step (fail))
              refine q_load (p := .pointer (some ⟨g, (k + 1) * 33 + (i + 1) * 33, none⟩)) (C := .agg (enC b)) 34 (.tmp 37) rfl rfl rfl (fun W h => by obtain ⟨n, rfl⟩ := h; exact lo1 _ (HE.out.drewN n)) ?_
              iterate 4 (quiet_step (fail))
              refine q_load (p := .pointer (some ⟨g, (k + 1) * 33 + i * 33, none⟩)) (C := .agg (enC a)) 34 (.tmp 42) rfl rfl rfl (fun W h => by obtain ⟨n, rfl⟩ := h; exact lo2 _ (HE.out.drewN n)) ?_
              refine q_bin (X := enC b) (Y := enC a) .neq 34 _ (.tmp 38) (.tmp 43) rfl rfl rfl rfl (by kernel_rfl) (fun W => NE W) ?_
              refine wpQuiet_nil ?_
              rintro wq ⟨nq, rfl⟩
              have HW2 := Lib.hid (below_drewN HW.out nq)
              have HE2 := Lib.hid (HE.out.drewN nq)
              clear lo2 NE HW HE u1 e1
              generalize wr.drewN nq = W2 at *
              simp only [Act.put, List.setIfInBounds_toArray, List.set_cons_succ, List.set_cons_zero]
              rcases q with _ | _
              · have lb := lo1 W2 HE2.out
                have st := HE2.out.store (i := j) (o := j * 33) (by rw [HJ.out.2.2.2.1]; omega) rfl b
                have HE3 := Lib.hid (HE2.out.put (i := j) (by rw [HJ.out.2.2.2.1]; omega) b)
                have HW3 := Lib.hid (Below.setCells' hB (enC b).toList (j * 33) W2 HW2.out)
                have HX3 : Hid ((M'.set j b).take (j + 1) = dedupL (M.take (k + 1 + (i + 1) + 1))) := Lib.hid (by
                  rw [take_put (by rw [HJ.out.2.2.2.1]; omega), HT.out, show k + 1 + (i + 1) + 1 = k + 1 + i + 2 by omega, HST.out, if_neg (by rw [eqEn_comm, HQ.out]; simp)])
                have HR3 : Hid ((M'.set j b).drop (k + 1 + (i + 1)) = M.drop (k + 1 + (i + 1))) := Lib.hid (drop_put (by rw [show k + 1 + (i + 1) = k + 1 + i + 1 by omega]; exact drop_one HR.out) (by have := HJ.out.2.2.1; omega))
                clear lo1
                go_wp2_with (first
                  | refine op_load (p := .pointer (some ⟨g, (k + 1) * 33 + (i + 1) * 33, none⟩)) (C := .agg (enC b)) 34 (.tmp 49) rfl rfl rfl lb ?_
                  | refine op_store (p := .pointer (some ⟨g, j * 33, none⟩)) (C := .agg (enC b)) 34 (.tmp 51) (.tmp 50) rfl rfl rfl rfl rfl st ?_)
                go_roundw
                case rel => exact ⟨j + 1, i + 1, M'.set j b, by simp, by simp, HJ.out.2.2.2.2, by have := HJ.out.2.1; omega, by have := HJ.out.2.2.1; omega, by rw [List.length_set]; exact HJ.out.2.2.2.1, HR3, HX3, HE3, HW3⟩
                case measure => have := HJ.out.2.2.2.2; simp only [intOf]; omega
              · have HX3 : Hid (M'.take j = dedupL (M.take (k + 1 + (i + 1) + 1))) := Lib.hid (by
                  rw [HT.out, show k + 1 + (i + 1) + 1 = k + 1 + i + 2 by omega, HST.out, if_pos (by rw [eqEn_comm, HQ.out])])
                have HR3 : Hid (M'.drop (k + 1 + (i + 1)) = M.drop (k + 1 + (i + 1))) := Lib.hid (by rw [show k + 1 + (i + 1) = k + 1 + i + 1 by omega]; exact drop_one HR.out)
                clear lo1
                go_wp2_with fail
                go_roundw
                case rel => exact ⟨j, i + 1, M', by simp, by simp, HJ.out.2.2.2.2, by have := HJ.out.2.1; omega, by have := HJ.out.2.2.1; omega, HJ.out.2.2.2.1, HR3, HX3, HE2, HW2⟩
                case measure => have := HJ.out.2.2.2.2; simp only [intOf]; omega
            · obtain rfl : m = i + 1 := by omega
              have u1 : decide ((i : Int) + 1 < ((i + 1 : Nat) : Int)) = false := decide_eq_false (by omega)
              have hc := HL.out.2
              have hjn : j < n := by omega
              have sl2 := fun W => slice_from (g := g) (n := n) (c := c) (k := j) (Nat.le_of_lt hjn) hc (by omega) W
              have sl3 := fun W => slice_upto (g := g) (n := n) (c := c) (k := j) (by omega) W
              obtain ⟨vs, hvs, cl⟩ := clear_run (c := c - j) HE.out hml hjn
              have HD : Hid (M'.take j = dedupL M) := Lib.hid (by
                rw [HT.out, show k + 1 + i + 1 = M.length by rw [HN.out]; omega, List.take_length])
              have HF := Lib.hid (HE.out.over (k := j) (by omega) vs (by rw [hml]; exact hvs))
              have HB2 := Lib.hid (Below.setCells' hB vs (j * 33) wr HW.out)
              have HLL : Hid ((dedupL M).length = j ∧ vs.length = (n - j) * 33) := Lib.hid ⟨by rw [← HD.out, List.length_take]; omega, hvs⟩
              have HJN := Lib.hid hjn
              clear hvs hjn hi hj1 hj2 hml hlt hm2 HE HW
              go_wp2_with fail
              go_ret
              rw [HLL.out.1]
              refine ⟨rfl, ⟨⟨vs ++ T, by rw [← HD.out]; exact HF.out, ?_⟩, HB2.out⟩⟩
              have h1 := HLL.out
              have h2 := HJN.out
              have h3 := HN.out
              rw [List.length_append, h1.1, h1.2]
              omega
      · obtain rfl : n = k + 1 := by omega
        have u1 : decide ((k : Int) + 1 < ((k + 1 : Nat) : Int)) = false := decide_eq_false (by omega)
        have HX : Hid (dedupL M = M) := Lib.hid (by
          have h := HD.out
          rw [← HN.out, List.take_length] at h
          exact h)
        clear hlt
        go_wp2_with fail
        go_ret
        rw [HX.out, HN.out]
        exact ⟨rfl, ⟨⟨T, HE.out, by rw [HN.out]⟩, HW.out⟩⟩
end Go.Proofs.YtpkmibmombpjpaaGreatDoor
namespace Go.Proofs.YtpkmibmombpjpaaGreatDoor
open Go Go.RowKit
section
variable {P : Program} {ops : Array Oper}
theorem unwanted_of {o : Oper} {a : Act} {j s : Nat} {b : Bool} (hg : o.guard = some (j, b)) (hd : (ops[j]?).bind (·.dst) = some s) (hv : a.eval (.tmp s) = .bool (!b)) : Region.wanted o (yielded ops a.tmps) = false := by
  have h : a.tmps[s]? = some (.bool (!b)) := by
    have e := eval_get hv
    cases ht : a.tmps[s]? with
    | none => rw [ht] at e; cases e
    | some v => rw [ht] at e; exact congrArg some e
  unfold Region.wanted yielded
  cases b <;> simp_all
theorem op_pass {o : Oper} {a : Act} {w : World} {K : Act → World → Prop} {Q : Exit → Act → World → Prop} (hw : Region.wanted o (yielded ops a.tmps) = false) (hK : K (a.put o.dst undef) w) : wpList P ops (Exit.then K Q) [o] a w := by
  refine wpList_step fun K' hK' => ?_
  rw [if_neg (by rw [hw]; simp)]
  exact hK' _ _ hK
end
end Go.Proofs.YtpkmibmombpjpaaGreatDoor
