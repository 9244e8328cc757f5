/- A region that draws its order, walked in pieces: where just one operation is ready, as a list; where several are, quietly in a class of worlds, if what follows waits for all of them. No program. -/
import Derived.Test.YtpkmibmombpjpaaGreatDoorQt
namespace Go.Proofs.YtpkmibmombpjpaaGreatDoor
open Go
section
variable {P : Program} {ops : Array Oper} {md : Region.Mode} {C : World → Prop}

/-- Of m operations the first k are done. -/
def doneTo (m k : Nat) : Array Bool := (List.replicate k true ++ List.replicate (m - k) false).toArray
theorem doneTo_size {m k : Nat} (h : k ≤ m) : (doneTo m k).size = m := by simp [doneTo]; omega
theorem doneTo_get {m k : Nat} (_h : k ≤ m) (j : Nat) : (doneTo m k)[j]? = if j < k then some true else if j < m then some false else none := by
  unfold doneTo
  rw [List.getElem?_toArray, List.getElem?_append]
  simp only [List.length_replicate, List.getElem?_replicate]
  by_cases h1 : j < k
  · simp [h1]
  · by_cases h2 : j < m
    · simp [h1, h2]; omega
    · simp [h1, h2]; omega
theorem doneTo_set {m k : Nat} (h : k < m) : (doneTo m k).setIfInBounds k true = doneTo m (k + 1) := by
  apply Array.ext_getElem?
  intro j
  rw [Array.getElem?_setIfInBounds, doneTo_get (by omega), doneTo_get (by omega), doneTo_size (by omega)]
  by_cases h1 : k = j
  · subst h1; simp [h]
  · by_cases h2 : j < k
    · simp [h1, h2, show j < k + 1 by omega]
    · simp [h1, h2, show ¬ j < k + 1 by omega]
theorem doneTo_zero (m : Nat) : Array.replicate m false = doneTo m 0 := by
  apply Array.ext_getElem?
  intro j
  rw [doneTo_get (by omega)]
  simp [Array.getElem?_replicate]
/-- What is left of a region. -/
def Rest (P : Program) (l : List Oper) (Q : Exit → Act → World → Prop) (k : Nat) (a : Act) (w : World) : Prop := wpAny P .any l.toArray Q (l.length - k) (doneTo l.length k) a w

theorem rest_begin {id : Nat} {Q : Exit → Act → World → Prop} {a : Act} {w : World} {l : List Oper} (hm : P.follows .mixedOrders = true) (h : Rest P l Q 0 a w.drew) : (Code.region id l.toArray true).wp P Q a w := by
  refine wp_region_any hm ?_
  rw [show l.toArray.size = l.length by simp, doneTo_zero]
  exact h
theorem rest_end {Q : Exit → Act → World → Prop} {a : Act} {w : World} {l : List Oper} (h : Q .normal a w) : Rest P l Q l.length a w := by
  unfold Rest
  rw [Nat.sub_self]
  refine ⟨?_, h⟩
  rw [List.eq_nil_iff_forall_not_mem]
  intro j hj
  obtain ⟨h1, o, ho, _⟩ := mem_ready.1 hj
  have hlt : j < l.length := by simpa using (Array.getElem?_eq_some_iff.1 ho).1
  have := doneTo_get (Nat.le_refl l.length) j
  rw [if_pos hlt] at this
  simp [Array.getD_eq_getD_getElem?, this] at h1
/-- m operations from the k-th on come in one forced order. -/
def forced (ops : Array Oper) : Nat → Nat → Bool
  | 0, _ => true
  | m + 1, k => decide (Region.ready .any ops (doneTo ops.size k) = [k]) && forced ops m (k + 1)
theorem Oper.wp_then {o : Oper} {a : Act} {w : World} {K : Act → World → Prop} {N : Act → World → Prop} {Q : Exit → Act → World → Prop} (hh : o.wp P a w K (Exit.then N Q)) : o.wp P a w K Q := by
  unfold Oper.wp at *
  generalize (execOp a.eval o).run P w = r at *
  cases r with
  | ok n w' =>
    cases n <;> simp only [Oper.upon] at hh ⊢ <;>
      first
        | exact hh
        | exact Calls.mono hh (fun e w'' he => by cases e <;> exact he)
  | halt x w' => cases x <;> simp only [Oper.upon] at hh ⊢ <;> exact hh
theorem wpAny_forced {N : Act → World → Prop} {Q : Exit → Act → World → Prop} (f : Nat) : ∀ (l : List Oper) (k : Nat) (a : Act) (w : World), k + l.length ≤ ops.size → (∀ j, j < l.length → l[j]? = ops[k + j]?) → forced ops l.length k = true →
    (∀ a' w', N a' w' → wpAny P .any ops Q f (doneTo ops.size (k + l.length)) a' w') → wpList P ops (Exit.then N Q) l a w → wpAny P .any ops Q (l.length + f) (doneTo ops.size k) a w
  | [], k, a, w, _, _, _, hN, h => by
    have := hN a w h
    simpa using this
  | o :: l, k, a, w, hk, hl, hB, hN, h => by
    have h0 : ops[k]? = some o := by simpa using (hl 0 (by simp)).symm
    simp only [List.length_cons] at hk hl hN
    simp only [List.length_cons, forced, Bool.and_eq_true, decide_eq_true_eq] at hB
    rw [List.length_cons, Nat.add_right_comm]
    refine ⟨fun h1 => (by rw [hB.1] at h1; cases h1), fun i hi => ?_⟩
    rw [hB.1] at hi
    have hik : i = k := by simpa using hi
    subst hik
    have hw : wpOp P ops Q i (wpList P ops (Exit.then N Q) l) a w := by
      unfold wpOp
      simp only [h0]
      unfold wpList at h
      split
      · rename_i hwt
        simp only [hwt, if_true] at h
        rcases h with h | ⟨h, hL⟩
        · exact .inl (Oper.wp_then h)
        · exact .inr ⟨h, hL⟩
      · rename_i hwt
        simp only [hwt] at h
        exact h
    rw [doneTo_set (by omega)]
    refine wpOp_mono (fun a' w' h' => wpAny_forced f l (i + 1) a' w' (by omega) (fun j hj => ?_) hB.2 ?_ h') hw
    · have := hl (j + 1) (by omega)
      simpa [Nat.add_assoc, Nat.add_comm 1 j] using this
    · intro a2 w2 h2
      have := hN a2 w2 h2
      rwa [show i + (l.length + 1) = i + 1 + l.length by omega] at this
theorem rest_forced (m : Nat) {Q : Exit → Act → World → Prop} {a : Act} {w : World} {l : List Oper} {k : Nat} (hB : (decide (k + m ≤ l.length) && forced l.toArray m k) = true)
    (h : wpList P l.toArray (Exit.then (Rest P l Q (k + m)) Q) ((l.drop k).take m) a w) : Rest P l Q k a w := by
  simp only [Bool.and_eq_true, decide_eq_true_eq] at hB
  obtain ⟨hk, hB⟩ := hB
  have hlen : ((l.drop k).take m).length = m := by simp; omega
  have := wpAny_forced (P := P) (ops := l.toArray) (N := Rest P l Q (k + m)) (Q := Q) (l.length - (k + m)) ((l.drop k).take m) k a w (by simp; omega) (fun j hj => by
    rw [hlen] at hj
    simp [List.getElem?_drop, hj]) (by rw [hlen]; exact hB) (fun a' w' h' => by
    rw [hlen]
    have h2 := h'
    unfold Rest at h2
    simpa using h2) h
  unfold Rest
  rw [hlen] at this
  rw [show l.length - k = m + (l.length - (k + m)) by omega]
  simpa using this
/-- Operations k to n - 1 all come ahead of operation n; and all behind n wait for one from n on. -/
def sinkFrom (ops : Array Oper) (k n : Nat) : Bool :=
  (List.range n).all fun i => decide (i < k) || (List.range (n + 1)).any fun j => decide (i < j) && Region.waitsFor .any ops j i
def tailFrom (ops : Array Oper) (n : Nat) : Bool :=
  (List.range ops.size).all fun t => decide (t ≤ n) || (List.range t).any fun j => decide (n ≤ j) && Region.waitsFor .any ops t j
/-- .. and in the text's order they may be taken. -/
def lexTo (ops : Array Oper) : Nat → Nat → Bool
  | 0, _ => true
  | f + 1, k => (Region.ready .any ops (doneTo ops.size k)).contains k && Region.free .any ops (doneTo ops.size k) k && lexTo ops f (k + 1)
theorem tail_waits2 {k n : Nat} {listed : Array Bool} (hs : sinkFrom ops k n = true) (hc : tailFrom ops n = true) (hn : n < ops.size) (inv : HeadInv .any ops n listed) :
    ∀ (d i : Nat), n - i = d → k ≤ i → i < n → listed.getD i true = false → ∀ t, n ≤ t → t ∉ Region.ready .any ops listed := by
  intro d
  induction d using Nat.strongRecOn with
  | _ d ih =>
    intro i hd hki hi hun t ht hr
    obtain ⟨_, ot, hot, hall⟩ := mem_ready.1 hr
    have htlt : t < ops.size := (Array.getElem?_eq_some_iff.1 hot).1
    by_cases htn : t = n
    · subst htn
      have h1 := List.all_eq_true.1 hs i (List.mem_range.2 hi)
      simp only [Bool.or_eq_true, decide_eq_true_eq] at h1
      rcases h1 with h1 | h1
      · omega
      obtain ⟨j, hj, hj2⟩ := List.any_eq_true.1 h1
      simp only [Bool.and_eq_true, decide_eq_true_eq] at hj2
      obtain ⟨oj, hoj, e, he, hb, hon⟩ := Region.waitsFor_spec hj2.2
      have hjle : j ≤ t := by have := List.mem_range.1 hj; omega
      by_cases hjt : j = t
      · subst hjt
        have : oj = ot := Option.some.inj (hoj.symm.trans hot)
        subst this
        have h2 := hall e he hb
        rw [hon, getD_both hun] at h2
        cases h2
      · cases hl : listed.getD j false with
        | true =>
          have h2 := inv.closed j oj hoj hl e he hb
          rw [hon, getD_both hun] at h2
          cases h2
        | false =>
          have hjs : j < listed.size := by rw [inv.size]; omega
          exact ih (t - j) (by omega) j rfl (by omega) (by omega) (getD_in hjs hl) t (Nat.le_refl _) hr
    · have h1 := List.all_eq_true.1 hc t (List.mem_range.2 htlt)
      simp only [Bool.or_eq_true, decide_eq_true_eq] at h1
      rcases h1 with h1 | h1
      · omega
      · obtain ⟨j, hj, hj2⟩ := List.any_eq_true.1 h1
        simp only [Bool.and_eq_true, decide_eq_true_eq] at hj2
        have hjt := List.mem_range.1 hj
        obtain ⟨o', ho', e, he, hb, hon⟩ := Region.waitsFor_spec hj2.2
        have : o' = ot := Option.some.inj (ho'.symm.trans hot)
        subst this
        have h2 := hall e he hb
        rw [hon, getD_both (inv.tail j (by omega) (by omega))] at h2
        cases h2
/-- T_first with what it asks of the tail laid bare. -/
theorem T_first2 {k n i : Nat} {oi : Oper} {v : Value} {L : Array Bool → Act → Prop} (hi : ops[i]? = some oi) (hsel : ∀ (j : Nat) (o : Oper) cs b, ops[j]? = some o → o.op ≠ .select cs b)
    (hs : sinkFrom ops k n = true) (hc : tailFrom ops n = true) (hn : n < ops.size) (hki : k ≤ i) (hin : i < n)
    (hdone : ∀ b a, L b a → ∀ j ∈ Region.ready .any ops b, n ≤ j) :
    ∀ (f : Nat) (b : Array Bool) (a : Act), HeadInv .any ops n b →
      (∀ j oj, ops[j]? = some oj → j ≠ i → b.getD j true = false → (∀ e ∈ oj.after, Region.binds .any e = true → e.on ≠ i) → oi.apart ops oj = true) →
      i ∈ Region.ready .any ops b → YieldsIn P ops C oi v a →
      AnyT P .any ops C n L f (b.setIfInBounds i true) (a.put oi.dst v) → AnyT P .any ops C n L (f + 1) b a := by
  intro f
  induction f with
  | zero =>
    intro b a inv _ hr hy H
    have hun := (mem_ready.1 hr).1
    have hlow : ∀ j ∈ Region.ready .any ops b, j < n := fun j hj => by
      rcases Nat.lt_or_ge j n with h | h
      · exact h
      · exact absurd hj (tail_waits2 hs hc hn inv _ i rfl hki hin hun j h)
    refine ⟨fun e => (by rw [e] at hr; cases hr), fun j hj => ⟨hlow j hj, ?_⟩⟩
    rcases Nat.decEq j i with h | h
    · have h1 := hdone _ _ H j (ready_mono hj h)
      have h2 := hlow j hj
      omega
    · subst h; exact hy.qOp hi H
  | succ f ih =>
    intro b a inv hfree hr hy H
    have hun := (mem_ready.1 hr).1
    have hlow : ∀ j ∈ Region.ready .any ops b, j < n := fun j hj => by
      rcases Nat.lt_or_ge j n with h | h
      · exact h
      · exact absurd hj (tail_waits2 hs hc hn inv _ i rfl hki hin hun j h)
    refine ⟨fun e => (by rw [e] at hr; cases hr), fun j hj => ⟨hlow j hj, ?_⟩⟩
    rcases Nat.decEq j i with hji | h
    · obtain ⟨hjun, oj, hoj, hall⟩ := mem_ready.1 hj
      have hnot : ∀ e ∈ oj.after, Region.binds .any e = true → e.on ≠ i := fun e he hb hon => by
        have := hall e he hb
        rw [hon, getD_both hun] at this
        cases this
      have hrest : ∀ k ok, ops[k]? = some ok → k ≠ i → (b.setIfInBounds j true).getD k true = false → (∀ e ∈ ok.after, Region.binds .any e = true → e.on ≠ i) → oi.apart ops ok = true := by
        intro k ok hk hki huk hno
        refine hfree k ok hk hki ?_ hno
        rcases Nat.decEq j k with hjk | hjk
        · rw [getD_set_ne true hjk] at huk; exact huk
        · subst hjk; exact hjun
      have h2 := qOp_put hoj (hfree j oj hoj hji hjun hnot) (fun cs c => hsel i oi cs c hi) (fun cs c => hsel j oj cs c hoj) hy (H.2 j (ready_mono hj hji)).2
      refine qOp_mono (fun a' h3 => ih (b.setIfInBounds j true) a' (inv.set hj (hlow j hj)) hrest (ready_mono hr (Ne.symm hji)) h3.1 ?_) h2
      rw [Array.setIfInBounds_comm _ _ hji]
      exact h3.2
    · subst h; exact hy.qOp hi H
theorem T_lex2 {s n : Nat} {Lq : Act → Prop} (hsel : Region.noSelect ops = true) (hs : sinkFrom ops s n = true) (hc : tailFrom ops n = true) (hn : n < ops.size) :
    ∀ (l : List Oper) (k : Nat) (a : Act), s ≤ k → (∀ j, j < l.length → l[j]? = ops[k + j]?) → k + l.length = n → HeadInv .any ops n (doneTo ops.size k) →
    lexTo ops l.length k = true → wpQuiet P ops C Lq l a →
    AnyT P .any ops C n (fun b' a' => b' = doneTo ops.size n ∧ Lq a') l.length (doneTo ops.size k) a := by
  intro l
  induction l with
  | nil =>
    intro k a _ _ hk _ hB h
    obtain rfl : k = n := by simpa using hk
    exact ⟨rfl, h⟩
  | cons o l ih =>
    intro k a hsk hl hk inv hB h
    have h0 : ops[k]? = some o := by simpa using (hl 0 (by simp)).symm
    simp only [List.length_cons] at hk hB hl
    simp only [lexTo, Bool.and_eq_true] at hB
    obtain ⟨⟨hr, hf⟩, hB⟩ := hB
    have hr' : k ∈ Region.ready .any ops (doneTo ops.size k) := by simpa using hr
    have hq : qOp P ops C k (wpQuiet P ops C Lq l) a := by unfold qOp; simp only [h0]; exact h
    obtain ⟨v, hy, hK⟩ := yieldsIn_of_qOp h0 hq
    refine T_first2 h0 (Region.noSelect_spec hsel) hs hc hn hsk (by omega) (fun b' a' hL j hj => ?_) l.length _ a inv (Region.free_spec h0 hf) hr' hy ?_
    · rw [hL.1] at hj
      obtain ⟨h1, _⟩ := mem_ready.1 hj
      rcases Nat.lt_or_ge j n with h2 | h2
      · have := doneTo_get (m := ops.size) (k := n) (by omega) j
        rw [if_pos h2] at this
        simp [Array.getD_eq_getD_getElem?, this] at h1
      · exact h2
    · have inv2 := inv.set hr' (show k < n by omega)
      rw [doneTo_set (by omega)] at inv2 ⊢
      refine ih (k + 1) _ (by omega) (fun j hj => ?_) (by omega) inv2 hB hK
      have := hl (j + 1) (by omega)
      simpa [Nat.add_assoc, Nat.add_comm 1 j] using this
/-- The first k are closed. -/
def closedTo (ops : Array Oper) (k : Nat) : Bool := (List.range k).all fun j => match ops[j]? with
  | some o => o.after.all fun e => !Region.binds .any e || decide (e.on < k)
  | none => true
theorem inv_doneTo {k n : Nat} (hk : k ≤ n) (hn : n < ops.size) (h : closedTo ops k = true) : HeadInv .any ops n (doneTo ops.size k) := by
  refine ⟨doneTo_size (by omega), fun j oj hj hl e he hb => ?_, fun t ht htl => ?_⟩
  · have hjk : j < k := by
      rcases Nat.lt_or_ge j k with h1 | h1
      · exact h1
      · have := doneTo_get (m := ops.size) (k := k) (by omega) j
        rw [if_neg (by omega), if_pos (Array.getElem?_eq_some_iff.1 hj).1] at this
        simp [Array.getD_eq_getD_getElem?, this] at hl
    have h1 := List.all_eq_true.1 h j (List.mem_range.2 hjk)
    simp only [hj] at h1
    have h2 := Array.all_eq_true_iff_forall_mem.1 h1 e he
    simp only [hb, Bool.not_true, Bool.false_or, decide_eq_true_eq] at h2
    have := doneTo_get (m := ops.size) (k := k) (by omega) e.on
    rw [if_pos h2] at this
    simp [Array.getD_eq_getD_getElem?, this]
  · have := doneTo_get (m := ops.size) (k := k) (by omega) t
    rw [if_neg (by omega), if_pos htl] at this
    simp [Array.getD_eq_getD_getElem?, this]
/-- m operations from the k-th on are quiet in C. -/
theorem rest_quiet (C : World → Prop) (m : Nat) {Q : Exit → Act → World → Prop} {a : Act} {w : World} {l : List Oper} {k : Nat}
    (hB : (decide (k + m < l.length) && Region.noSelect l.toArray && sinkFrom l.toArray k (k + m) && tailFrom l.toArray (k + m) && closedTo l.toArray k && lexTo l.toArray m k) = true) (hC : C w)
    (h : wpQuiet P l.toArray C (fun a' => ∀ w', C w' → Rest P l Q (k + m) a' w') ((l.drop k).take m) a) : Rest P l Q k a w := by
  simp only [Bool.and_eq_true, decide_eq_true_eq] at hB
  obtain ⟨⟨⟨⟨⟨hk, hsel⟩, hs⟩, hc⟩, hcl⟩, hlex⟩ := hB
  have hlen : ((l.drop k).take m).length = m := by simp; omega
  have hn : k + m < l.toArray.size := by simpa using hk
  have H := T_lex2 (P := P) (C := C) hsel hs hc hn ((l.drop k).take m) k a (Nat.le_refl _) (fun j hj => by
    rw [hlen] at hj
    simp [List.getElem?_drop, hj]) (by rw [hlen]) (inv_doneTo (by omega) hn hcl) (by rw [hlen]; exact hlex) h
  unfold Rest
  rw [hlen] at H
  have := any_of_T (Q := Q) (g := l.length - (k + m)) (fun b a' w' hw' hL => by
    have h2 := hL.2 w' hw'
    unfold Rest at h2
    rw [hL.1]
    simpa using h2) _ _ _ _ hC H
  rw [show l.length - k = m + (l.length - (k + m)) by omega]
  simpa using this
/-- What is left of a region, the operations that are done in a row of Booleans. -/
def RestG (P : Program) (l : List Oper) (Q : Exit → Act → World → Prop) (f : Nat) (b : Array Bool) (a : Act) (w : World) : Prop := wpAny P .any l.toArray Q f b a w
theorem rest_open (f : Nat) {Q : Exit → Act → World → Prop} {a : Act} {w : World} {l : List Oper} {k : Nat} (hf : l.length - k = f) (h : RestG P l Q f (doneTo l.length k) a w) : Rest P l Q k a w := by
  subst hf; exact h
theorem wpOp_of_list {o : Oper} {i : Nat} {N : Act → World → Prop} {Q : Exit → Act → World → Prop} {a : Act} {w : World} (h0 : ops[i]? = some o) (h : wpList P ops (Exit.then N Q) [o] a w) : wpOp P ops Q i N a w := by
  unfold wpOp
  simp only [h0]
  unfold wpList at h
  split
  · rename_i hwt
    simp only [hwt, if_true] at h
    rcases h with h | ⟨h, hL⟩
    · exact .inl (Oper.wp_mono (fun _ _ h => h) (Oper.wp_then h))
    · exact .inr ⟨h, hL⟩
  · rename_i hwt
    simp only [hwt] at h
    exact h
/-- Two operations are ready. -/
theorem rest_two {Q : Exit → Act → World → Prop} {a : Act} {w : World} {l : List Oper} {f i j : Nat} {b : Array Bool} {oi oj : Oper} (hr : Region.ready .any l.toArray b = [i, j]) (hi : l[i]? = some oi) (hj : l[j]? = some oj)
    (h1 : wpList P l.toArray (Exit.then (RestG P l Q f (b.setIfInBounds i true)) Q) [oi] a w) (h2 : wpList P l.toArray (Exit.then (RestG P l Q f (b.setIfInBounds j true)) Q) [oj] a w) : RestG P l Q (f + 1) b a w := by
  refine ⟨fun h => (by rw [hr] at h; cases h), fun x hx => ?_⟩
  rw [hr] at hx
  rcases List.mem_cons.1 hx with rfl | hx
  · exact wpOp_of_list (by simpa using hi) h1
  · have : x = j := by simpa using hx
    subst this
    exact wpOp_of_list (by simpa using hj) h2
/-- One is. -/
theorem rest_one {Q : Exit → Act → World → Prop} {a : Act} {w : World} {l : List Oper} {f i : Nat} {b : Array Bool} {oi : Oper} (hr : Region.ready .any l.toArray b = [i]) (hi : l[i]? = some oi)
    (h1 : wpList P l.toArray (Exit.then (RestG P l Q f (b.setIfInBounds i true)) Q) [oi] a w) : RestG P l Q (f + 1) b a w := by
  refine ⟨fun h => (by rw [hr] at h; cases h), fun x hx => ?_⟩
  rw [hr] at hx
  have : x = i := by simpa using hx
  subst this
  exact wpOp_of_list (by simpa using hi) h1
theorem rest_zero {Q : Exit → Act → World → Prop} {a : Act} {w : World} {l : List Oper} {b : Array Bool} (hr : Region.ready .any l.toArray b = []) (h : Q .normal a w) : RestG P l Q 0 b a w := ⟨hr, h⟩
theorem rest_close (k : Nat) {Q : Exit → Act → World → Prop} {a : Act} {w : World} {l : List Oper} {f : Nat} {b : Array Bool} (hf : l.length - k = f) (hb : doneTo l.length k = b) (h : Rest P l Q k a w) : RestG P l Q f b a w := by
  subst hf; subst hb; exact h
theorem rest_done {Q : Exit → Act → World → Prop} {a : Act} {w : World} {l : List Oper} {k : Nat} (hk : l.length = k) (h : Q .normal a w) : Rest P l Q k a w := by
  subst hk; exact rest_end h
end
end Go.Proofs.YtpkmibmombpjpaaGreatDoor
