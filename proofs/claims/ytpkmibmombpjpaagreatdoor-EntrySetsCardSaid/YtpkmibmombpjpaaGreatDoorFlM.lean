/- A piece of a region that draws its order, in which operations make memory and others read it: each operation is walked once, at a frame in which all that the piece writes is a variable; what is known of a value hangs on the world and is kept when the world grows. No program. The flow of a drawn region with what is known of each value as a list; slots of its frames; one operation at a frame that is a variable. The flow of a drawn region in which some operations make a block of their own: at the end these blocks are different ones. No program. -/
import Derived.Test.YtpkmibmombpjpaaGreatDoorSeg
import Derived.Test.YtpkmibmombpjpaaGreatDoorBlk
import Derived.Deep.CutBlock
namespace Go.Proofs.YtpkmibmombpjpaaGreatDoor
open Go Go.RowKit
section
variable {P : Program} {ops : Array Oper}

/-- The frame when the operations from k on have put u k, u (k + 1), .. into their slots. -/
def putRow (u : Nat → Value) : Nat → List (Option Tmp) → Act → Act
  | _, [], a => a
  | k, d :: ds, a => putRow u (k + 1) ds (a.put d (u k))
theorem put_put {a : Act} {d : Option Tmp} {v v' : Value} : (a.put d v).put d v' = a.put d v' := by
  cases d with
  | none => rfl
  | some d => simp [Act.put]
theorem put_comm {a : Act} {d e : Option Tmp} {v v' : Value} (h : d = none ∨ d ≠ e) : (a.put e v').put d v = (a.put d v).put e v' := by
  cases d with
  | none => rfl
  | some d =>
    cases e with
    | none => rfl
    | some e =>
      have : e ≠ d := by
        rcases h with h | h
        · cases h
        · exact fun he => h (by rw [he])
      simp only [Act.put]
      rw [Array.setIfInBounds_comm _ _ this]
/-- Slots that are written are different ones. -/
def apartB (d : Option Tmp) (ds : List (Option Tmp)) : Bool := ds.all fun e => d.isNone || decide (d ≠ e)
def distinctB : List (Option Tmp) → Bool
  | [] => true
  | d :: ds => apartB d ds && distinctB ds
theorem putRow_put {u : Nat → Value} {d : Option Tmp} {v : Value} : ∀ (ds : List (Option Tmp)) (k : Nat) (a : Act), apartB d ds = true → (putRow u k ds a).put d v = putRow u k ds (a.put d v)
  | [], _, _, _ => rfl
  | e :: ds, k, a, h => by
    unfold apartB at h
    simp only [List.all_cons, Bool.and_eq_true, Bool.or_eq_true, decide_eq_true_eq] at h
    unfold putRow
    rw [putRow_put ds (k + 1) _ h.2, put_comm]
    rcases h.1 with h1 | h1
    · exact .inl (by simpa using h1)
    · exact .inr h1
def upd (u : Nat → Value) (i : Nat) (v : Value) : Nat → Value := fun j => if j = i then v else u j
theorem putRow_congr {u u' : Nat → Value} : ∀ (ds : List (Option Tmp)) (k : Nat) (a : Act), (∀ j, k ≤ j → j < k + ds.length → u j = u' j) → putRow u k ds a = putRow u' k ds a
  | [], _, _, _ => rfl
  | d :: ds, k, a, h => by
    unfold putRow
    rw [h k (Nat.le_refl _) (by simp), putRow_congr ds (k + 1) _ (fun j h1 h2 => h j (by omega) (by simp only [List.length_cons]; omega))]
theorem putRow_set {u : Nat → Value} {v : Value} : ∀ (ds : List (Option Tmp)) (k i : Nat) (a : Act) (d : Option Tmp), distinctB ds = true → k ≤ i → ds[i - k]? = some d → (putRow u k ds a).put d v = putRow (upd u i v) k ds a
  | [], _, _, _, _, _, _, h => by simp at h
  | e :: ds, k, i, a, d, hd, hk, h => by
    simp only [distinctB, Bool.and_eq_true] at hd
    unfold putRow
    rcases Nat.eq_or_lt_of_le hk with rfl | hlt
    · obtain rfl : e = d := by simpa using h
      rw [putRow_put ds (k + 1) _ hd.1, put_put, show upd u k v k = v by simp [upd]]
      exact putRow_congr ds (k + 1) _ (fun j h1 _ => by simp [upd]; omega)
    · rw [show upd u i v k = u k by simp [upd]; omega]
      refine putRow_set ds (k + 1) i _ d hd.2 (by omega) ?_
      rw [show i - k = (i - (k + 1)) + 1 by omega] at h
      simpa using h
theorem put_self {a : Act} {d : Tmp} (h : d < a.tmps.size) : a.put (some d) (a.tmps[d]'h) = a := by
  simp only [Act.put]
  have : a.tmps.setIfInBounds d (a.tmps[d]'h) = a.tmps := by
    apply Array.ext_getElem?
    intro j
    rw [Array.getElem?_setIfInBounds]
    by_cases hj : d = j
    · subst hj; simp [h]
    · simp [hj]
  rw [this]
/-- What the frame holds already, as such a row. -/
theorem putRow_self (a : Act) : ∀ (ds : List (Option Tmp)) (k : Nat), (∀ d, some d ∈ ds → d < a.tmps.size) → ∃ u, putRow u k ds a = a
  | [], _, _ => ⟨fun _ => .int .i64 0, rfl⟩
  | d :: ds, k, h => by
    obtain ⟨u, hu⟩ := putRow_self a ds (k + 1) (fun d hd => h d (List.mem_cons_of_mem _ hd))
    cases d with
    | none =>
      refine ⟨u, ?_⟩
      unfold putRow
      exact hu
    | some d =>
      refine ⟨upd u k (a.tmps[d]'(h d (by simp))), ?_⟩
      unfold putRow
      rw [show upd u k (a.tmps[d]'(h d (by simp))) k = a.tmps[d]'(h d (by simp)) by simp [upd], put_self]
      rw [putRow_congr ds (k + 1) a (u' := u) (fun j h1 _ => by simp [upd]; omega)]
      exact hu
/-- What each operation of a piece must do, from any world that has come of W. -/
def flowSteps (P : Program) (full : Array Oper) (W : World) (sp : Nat → Value → World → Prop) (Q : Exit → Act → World → Prop) (k : Nat) (u : Nat → Value) (a' : Act) : Nat → List Oper → Prop
  | _, [] => True
  | j, o :: r => (∀ w', Below W.heap.size W w' → (∀ e ∈ o.after, Region.binds .any e = true → k ≤ e.on → sp e.on (u e.on) w') →
      ∀ K : Act → World → Prop, (∀ v w'', sp j v w'' → Below w'.heap.size w' w'' → K (a'.put o.dst v) w'') → wpList P full (Exit.then K Q) [o] a' w') ∧ flowSteps P full W sp Q k u a' (j + 1) r
theorem flowSteps_at {full : Array Oper} {W : World} {sp : Nat → Value → World → Prop} {Q : Exit → Act → World → Prop} {k : Nat} {u : Nat → Value} {a' : Act} : ∀ (r : List Oper) (j i : Nat) (o : Oper), flowSteps P full W sp Q k u a' j r → j ≤ i → r[i - j]? = some o →
    (∀ w', Below W.heap.size W w' → (∀ e ∈ o.after, Region.binds .any e = true → k ≤ e.on → sp e.on (u e.on) w') →
      ∀ K : Act → World → Prop, (∀ v w'', sp i v w'' → Below w'.heap.size w' w'' → K (a'.put o.dst v) w'') → wpList P full (Exit.then K Q) [o] a' w')
  | [], _, _, _, _, _, h => by simp at h
  | x :: r, j, i, o, hs, hj, h => by
    rcases Nat.eq_or_lt_of_le hj with rfl | hlt
    · obtain rfl : x = o := by simpa using h
      exact hs.1
    · refine flowSteps_at r (j + 1) i o hs.2 (by omega) ?_
      rw [show i - j = (i - (j + 1)) + 1 by omega] at h
      simpa using h
/-- Each operation waits for earlier ones alone. -/
def backB (ops : Array Oper) (n : Nat) : Bool := (List.range n).all fun j => match ops[j]? with | some o => o.after.all fun e => !Region.binds .any e || decide (e.on < j) | none => false
structure FlowInv (ops : Array Oper) (W : World) (sp : Nat → Value → World → Prop) (k n : Nat) (b : Array Bool) (u : Nat → Value) (w' : World) : Prop where
  head : HeadInv .any ops n b
  low : ∀ j, j < k → b.getD j false = true
  vals : ∀ j, k ≤ j → j < n → b.getD j false = true → sp j (u j) w'
  below : Below W.heap.size W w'
/-- How many of the first n are still to be done. -/
def undone (b : Array Bool) (j : Nat) : Bool := !b.getD j false
def left (b : Array Bool) (n : Nat) : Nat := ((List.range n).filter (undone b)).length
theorem left_zero {b : Array Bool} {n : Nat} (h : left b n = 0) : ∀ j, j < n → b.getD j false = true := fun j hj => by
  unfold left at h
  rw [List.length_eq_zero_iff, List.filter_eq_nil_iff] at h
  have := h j (List.mem_range.2 hj)
  unfold undone at this
  simpa using this
theorem left_some {b : Array Bool} {n : Nat} (h : left b n ≠ 0) : ∃ j, j < n ∧ b.getD j false = false ∧ ∀ i, i < j → b.getD i false = true := by
  induction n with
  | zero => simp [left] at h
  | succ n ih =>
    by_cases h0 : left b n = 0
    · refine ⟨n, by omega, ?_, fun i hi => left_zero h0 i hi⟩
      cases hb : b.getD n false with
      | false => rfl
      | true =>
        refine absurd ?_ h
        unfold left at h0 ⊢
        rw [List.range_succ, List.filter_append, List.length_append, h0]
        simp [undone, hb]
    · obtain ⟨j, hj, h1, h2⟩ := ih h0
      exact ⟨j, by omega, h1, h2⟩
theorem left_set {b : Array Bool} {n i : Nat} (hi : i < n) (hb : b.getD i true = false) : left b n = left (b.setIfInBounds i true) n + 1 := by
  unfold left
  have hlt : i < b.size := by
    rcases Nat.lt_or_ge i b.size with h | h
    · exact h
    · simp [Array.getD_eq_getD_getElem?, Array.getElem?_eq_none h] at hb
  have key : ∀ (l : List Nat), l.Nodup → i ∈ l → (l.filter (undone b)).length = (l.filter (undone (b.setIfInBounds i true))).length + 1 := by
    intro l
    induction l with
    | nil => intro _ h; cases h
    | cons x l ih =>
      intro hn hm
      rw [List.nodup_cons] at hn
      by_cases hx : x = i
      · subst hx
        have e1 : undone b x = true := by unfold undone; rw [getD_both hb]; rfl
        have e2 : undone (b.setIfInBounds x true) x = false := by unfold undone; simp [Array.getD_eq_getD_getElem?, hlt]
        have e3 : l.filter (undone b) = l.filter (undone (b.setIfInBounds x true)) := List.filter_congr fun j hj => by
          unfold undone
          rw [getD_set_ne false (fun h => hn.1 (by rw [h]; exact hj))]
        simp [e1, e2, e3]
      · have hm' : i ∈ l := by
          rcases List.mem_cons.1 hm with h | h
          · exact absurd h.symm hx
          · exact h
        have := ih hn.2 hm'
        have e : undone (b.setIfInBounds i true) x = undone b x := by unfold undone; rw [getD_set_ne false (Ne.symm hx)]
        cases hp : undone b x with
        | true => simp [e, hp, this]
        | false => simp [e, hp, this]
  exact key _ List.nodup_range (List.mem_range.2 hi)
theorem flow_any {full : List Oper} {W : World} {sp : Nat → Value → World → Prop} {Q : Exit → Act → World → Prop} {k m : Nat} {ds : List (Option Tmp)} {a : Act}
    (hs : sinkFrom full.toArray k (k + m) = true) (hc : tailFrom full.toArray (k + m) = true) (hn : k + m < full.length) (hbk : backB full.toArray (k + m) = true)
    (hds : ((full.drop k).take m).map (·.dst) = ds) (hdd : distinctB ds = true)
    (hup : ∀ j v w1 w2, sp j v w1 → Below w1.heap.size w1 w2 → sp j v w2)
    (hstep : ∀ u, flowSteps P full.toArray W sp Q k u (putRow u k ds a) k ((full.drop k).take m))
    (hend : ∀ u w', Below W.heap.size W w' → (∀ j, k ≤ j → j < k + m → sp j (u j) w') → Rest P full Q (k + m) (putRow u k ds a) w') :
    ∀ (f : Nat) (b : Array Bool) (u : Nat → Value) (w' : World), left b (k + m) = f → FlowInv full.toArray W sp k (k + m) b u w' → wpAny P .any full.toArray Q (f + (full.length - (k + m))) b (putRow u k ds a) w' := by
  intro f
  induction f with
  | zero =>
    intro b u w' hl inv
    have hall := left_zero hl
    have hb : b = doneTo full.toArray.size (k + m) := by
      apply Array.ext_getElem?
      intro j
      rw [doneTo_get (by simp; omega)]
      rcases Nat.lt_or_ge j b.size with hj | hj
      · have hjs : j < full.toArray.size := by rw [← inv.head.size]; exact hj
        by_cases h1 : j < k + m
        · rw [if_pos h1]
          have := hall j h1
          simpa [Array.getD_eq_getD_getElem?, hj] using this
        · rw [if_neg h1, if_pos hjs]
          have := inv.head.tail j (by omega) hjs
          simpa [Array.getD_eq_getD_getElem?, hj] using this
      · have hjs : ¬ j < full.toArray.size := by rw [← inv.head.size]; omega
        rw [Array.getElem?_eq_none hj, if_neg (by simp at hjs; omega), if_neg hjs]
    have := hend u w' inv.below (fun j h1 h2 => inv.vals j h1 h2 (hall j h2))
    unfold Rest at this
    rw [hb, Nat.zero_add]
    simpa using this
  | succ f ih =>
    intro b u w' hl inv
    obtain ⟨j0, hj0, hu0, hb0⟩ := left_some (b := b) (n := k + m) (by omega)
    have hbsz : b.size = full.length := by rw [inv.head.size]; simp
    have hkj0 : k ≤ j0 := by
      rcases Nat.lt_or_ge j0 k with h | h
      · rw [inv.low j0 h] at hu0; cases hu0
      · exact h
    have hun0 : b.getD j0 true = false := getD_in (by omega) hu0
    have hr0 : j0 ∈ Region.ready .any full.toArray b := by
      have h1 := List.all_eq_true.1 hbk j0 (List.mem_range.2 hj0)
      cases ho : full.toArray[j0]? with
      | none => simp only [ho] at h1; cases h1
      | some o =>
        simp only [ho] at h1
        refine mem_ready.2 ⟨hun0, o, ho, fun e he hb => ?_⟩
        have h2 := Array.all_eq_true_iff_forall_mem.1 h1 e he
        simp only [hb, Bool.not_true, Bool.false_or, decide_eq_true_eq] at h2
        exact hb0 _ h2
    rw [Nat.succ_add]
    refine ⟨fun e => (by rw [e] at hr0; cases hr0), fun i hi => ?_⟩
    obtain ⟨hun, oi, hoi, hall⟩ := mem_ready.1 hi
    have hin : i < k + m := by
      rcases Nat.lt_or_ge i (k + m) with h | h
      · exact h
      · exact absurd hi (tail_waits2 hs hc (by simpa using hn) inv.head _ j0 rfl hkj0 hj0 hun0 i h)
    have hki : k ≤ i := by
      rcases Nat.lt_or_ge i k with h | h
      · have := inv.low i h
        rw [getD_both hun] at this; cases this
      · exact h
    have hoil : full[i]? = some oi := by simpa using hoi
    have hoi2 : ((full.drop k).take m)[i - k]? = some oi := by
      rw [List.getElem?_take, if_pos (by omega), List.getElem?_drop, show k + (i - k) = i by omega]
      exact hoil
    have hdi : ds[i - k]? = some oi.dst := by rw [← hds, List.getElem?_map, hoi2]; rfl
    have hst := flowSteps_at _ k i oi (hstep u) hki hoi2 w' inv.below (fun e he hb hke => by
      have hdone := hall e he hb
      have hlt : e.on < k + m := by
        rcases Nat.lt_or_ge e.on (k + m) with h | h
        · exact h
        · rcases Nat.lt_or_ge e.on full.toArray.size with h2 | h2
          · have := inv.head.tail e.on h h2
            rw [getD_both this] at hdone; cases hdone
          · have : b.getD e.on false = false := by simp [Array.getD_eq_getD_getElem?, Array.getElem?_eq_none (show b.size ≤ e.on by rw [inv.head.size]; exact h2)]
            rw [this] at hdone; cases hdone
      exact inv.vals e.on hke hlt hdone)
      (fun a2 w2 => wpAny P .any full.toArray Q (f + (full.length - (k + m))) (b.setIfInBounds i true) a2 w2)
      (fun v w'' hv hbl => by
        rw [putRow_set ds k i a oi.dst hdd hki hdi]
        refine ih (b.setIfInBounds i true) (upd u i v) w'' (by have := left_set hin hun; omega) ⟨inv.head.set hi hin, fun j hj => ?_, fun j h1 h2 hd => ?_, inv.below.trans (hbl.mono inv.below.size)⟩
        · rw [getD_set_ne false (by omega)]; exact inv.low j hj
        · by_cases hji : j = i
          · subst hji
            rw [show upd u j v j = v by simp [upd]]
            exact hv
          · rw [show upd u i v j = u j by simp [upd, hji]]
            rw [getD_set_ne false (Ne.symm hji)] at hd
            exact hup j _ _ _ (inv.vals j h1 h2 hd) hbl)
    exact wpOp_of_list hoi hst
/-- A piece of m operations from the k-th on; sp j says what is known of the j-th one's value. -/
theorem rest_flow {W : World} (ds : List (Option Tmp)) (sp : Nat → Value → World → Prop) (m : Nat) {Q : Exit → Act → World → Prop} {a : Act} {l : List Oper} {k : Nat}
    (hB : (decide (k + m < l.length) && sinkFrom l.toArray k (k + m) && tailFrom l.toArray (k + m) && closedTo l.toArray k && backB l.toArray (k + m) && distinctB ds && ds.all (fun d => match d with | some d => decide (d < a.tmps.size) | none => true)) = true)
    (hds : ((l.drop k).take m).map (·.dst) = ds)
    (hup : ∀ j v w1 w2, sp j v w1 → Below w1.heap.size w1 w2 → sp j v w2)
    (hstep : ∀ u, flowSteps P l.toArray W sp Q k u (putRow u k ds a) k ((l.drop k).take m))
    (hend : ∀ u w', Below W.heap.size W w' → (∀ j, k ≤ j → j < k + m → sp j (u j) w') → Rest P l Q (k + m) (putRow u k ds a) w') : Rest P l Q k a W := by
  simp only [Bool.and_eq_true, decide_eq_true_eq] at hB
  obtain ⟨⟨⟨⟨⟨⟨hk, hs⟩, hc⟩, hcl⟩, hbk⟩, hdd⟩, hsz⟩ := hB
  obtain ⟨u, hu⟩ := putRow_self a ds k (fun d hd => by
    have := List.all_eq_true.1 hsz (some d) hd
    simpa using this)
  have hleft : left (doneTo l.length k) (k + m) = m := by
    unfold left
    have : (List.range (k + m)).filter (undone (doneTo l.length k)) = (List.range m).map (k + ·) := by
      rw [List.range_add, List.filter_append]
      have h1 : (List.range k).filter (undone (doneTo l.length k)) = [] := by
        rw [List.filter_eq_nil_iff]
        intro j hj
        have := doneTo_get (m := l.length) (k := k) (by omega) j
        rw [if_pos (List.mem_range.1 hj)] at this
        simp [undone, Array.getD_eq_getD_getElem?, this]
      rw [h1, List.nil_append, List.filter_eq_self]
      intro j hj
      obtain ⟨x, hx, rfl⟩ := List.mem_map.1 hj
      have := doneTo_get (m := l.length) (k := k) (by omega) (k + x)
      rw [if_neg (by omega), if_pos (by have := List.mem_range.1 hx; omega)] at this
      simp [undone, Array.getD_eq_getD_getElem?, this]
    rw [this]; simp
  have H := flow_any (P := P) (Q := Q) (a := a) hs hc hk hbk hds hdd hup hstep hend m (doneTo l.length k) u W hleft
    ⟨by have := inv_doneTo (ops := l.toArray) (k := k) (n := k + m) (by omega) (by simpa using hk) hcl; simpa using this,
     fun j hj => by
      have := doneTo_get (m := l.length) (k := k) (by omega) j
      rw [if_pos hj] at this
      simp [Array.getD_eq_getD_getElem?, this],
     fun j h1 h2 hd => by
      have := doneTo_get (m := l.length) (k := k) (by omega) j
      rw [if_neg (by omega), if_pos (by omega)] at this
      simp [Array.getD_eq_getD_getElem?, this] at hd,
     Below.refl _ _⟩
  rw [hu] at H
  unfold Rest
  rw [show l.length - k = m + (l.length - (k + m)) by omega]
  exact H
end
end Go.Proofs.YtpkmibmombpjpaaGreatDoor
namespace Go.Proofs.YtpkmibmombpjpaaGreatDoor
open Go Go.RowKit
section
variable {P : Program} {ops : Array Oper} {o : Oper} {a : Act} {w : World} {K : Act → World → Prop} {Q : Exit → Act → World → Prop}
theorem op_val {v : Value} {w' : World} (hg : o.guard = none) (hrun : (execOp a.eval o).run P w = .ok (.value v) w') (hK : K (a.put o.dst v) w') : wpList P ops (Exit.then K Q) [o] a w := by
  refine wpList_plain hg fun K' hK' => ?_
  unfold Oper.wp
  rw [hrun, Oper.upon_value]
  exact hK' _ _ hK
theorem op_call {f : FuncId} {args : Array Value} {R : Value → World → Prop} (hg : o.guard = none) (hrun : (execOp a.eval o).run P w = .ok (.enter f args) w) (hc : Calls P f args w fun e w'' => ∃ v, e = .returned v ∧ R v w'') (hK : ∀ v w'', R v w'' → K (a.put o.dst v) w'') : wpList P ops (Exit.then K Q) [o] a w := by
  refine wpList_plain hg fun K' hK' => ?_
  unfold Oper.wp
  rw [hrun, Oper.upon_enter]
  refine hc.mono fun e w'' hh => ?_
  obtain ⟨v, rfl, hR⟩ := hh
  exact hK' _ _ (hK _ _ hR)
end
/-- What is known of a value; kept when the world grows. -/
structure Sp where
  p : Value → World → Prop
  up : ∀ v w1 w2, p v w1 → Below w1.heap.size w1 w2 → p v w2
def Sp.is (x : Value) : Sp := ⟨fun v _ => v = x, fun _ _ _ h _ => h⟩
def Sp.any : Sp := ⟨fun _ _ => True, fun _ _ _ h _ => h⟩
/-- A slice of the values xs in a block. -/
def Sp.row (xs : List Value) : Sp := ⟨fun v w => ∃ b, v = .slice (some ⟨b, 0, none⟩) xs.length xs.length ∧ b < w.heap.size ∧ ∀ i x, xs[i]? = some x → w.cell? ⟨b, i, none⟩ = some x,
  fun _ _ _ ⟨b, h1, h2, h3⟩ hb => ⟨b, h1, Nat.lt_of_lt_of_le h2 hb.size, fun i x hx => (hb.cell h2).trans (h3 i x hx)⟩⟩
theorem Sp.row_new (w : World) (t : TypeId) (xs : List Value) (n b : Nat) (hn : xs.length = n) (hb : w.heap.size = b) : (Sp.row xs).p (.slice (some ⟨b, 0, none⟩) n n) (w.alloc (.cells xs.toArray t)) := by
  subst hn hb
  refine ⟨_, rfl, by simp, fun i x hx => ?_⟩
  exact (Blk.new w t xs.toArray).cell (by simpa using hx)
def spAt (sps : List Sp) (k : Nat) (j : Nat) : Value → World → Prop := (sps.getD (j - k) Sp.any).p
theorem spAt_up (sps : List Sp) (k j : Nat) (v : Value) (w1 w2 : World) (h : spAt sps k j v w1) (hb : Below w1.heap.size w1 w2) : spAt sps k j v w2 := (sps.getD (j - k) Sp.any).up v w1 w2 h hb
section
variable {P : Program}
theorem rest_flow2 {W : World} (ds : List (Option Tmp)) (sps : List Sp) (m : Nat) {Q : Exit → Act → World → Prop} {a : Act} {l : List Oper} {k : Nat}
    (hB : (decide (k + m < l.length) && sinkFrom l.toArray k (k + m) && tailFrom l.toArray (k + m) && closedTo l.toArray k && backB l.toArray (k + m) && distinctB ds && ds.all (fun d => match d with | some d => decide (d < a.tmps.size) | none => true)) = true)
    (hds : ((l.drop k).take m).map (·.dst) = ds)
    (hstep : ∀ u F, F = putRow u k ds a → flowSteps P l.toArray W (spAt sps k) Q k u F k ((l.drop k).take m))
    (hend : ∀ u w', Below W.heap.size W w' → (∀ j, k ≤ j → j < k + m → spAt sps k j (u j) w') → Rest P l Q (k + m) (putRow u k ds a) w') : Rest P l Q k a W :=
  rest_flow ds (spAt sps k) m hB hds (spAt_up sps k) (fun u => hstep u _ rfl) hend
theorem put_tmps {a : Act} {d : Option Tmp} {v : Value} : (a.put d v).tmps.size = a.tmps.size := by
  cases d <;> simp [Act.put]
theorem get_out {u : Nat → Value} {s : Nat} : ∀ (ds : List (Option Tmp)) (k : Nat) (a : Act), (ds.all fun d => decide (d ≠ some s)) = true → (putRow u k ds a).tmps[s]?.getD undef = a.tmps[s]?.getD undef
  | [], _, _, _ => rfl
  | d :: ds, k, a, h => by
    simp only [List.all_cons, Bool.and_eq_true, decide_eq_true_eq] at h
    unfold putRow
    rw [get_out ds (k + 1) _ h.2]
    cases d with
    | none => rfl
    | some d =>
      have : d ≠ s := fun e => h.1 (by rw [e])
      simp only [Act.put]
      rw [Array.getElem?_setIfInBounds_ne this]
theorem get_in {u : Nat → Value} {s : Nat} : ∀ (ds : List (Option Tmp)) (k j : Nat) (a : Act), distinctB ds = true → k ≤ j → ds[j - k]? = some (some s) → s < a.tmps.size → (putRow u k ds a).tmps[s]?.getD undef = u j
  | [], _, _, _, _, _, h, _ => by simp at h
  | d :: ds, k, j, a, hd, hk, h, hs => by
    simp only [distinctB, Bool.and_eq_true] at hd
    unfold putRow
    rcases Nat.eq_or_lt_of_le hk with rfl | hlt
    · obtain rfl : d = some s := by simpa using h
      rw [get_out]
      · simp [Act.put, hs]
      · have := hd.1
        unfold apartB at this
        rw [List.all_eq_true] at this ⊢
        intro e he
        have h1 := this e he
        simp only [Option.isNone_some, Bool.false_or, decide_eq_true_eq] at h1 ⊢
        exact fun h2 => h1 h2.symm
    · refine get_in ds (k + 1) j _ hd.2 (by omega) ?_ (by rw [put_tmps]; exact hs)
      rw [show j - k = (j - (k + 1)) + 1 by omega] at h
      simpa using h
theorem eval_out {u : Nat → Value} {s : Nat} (ds : List (Option Tmp)) (k : Nat) (a : Act) {v : Value} (h : (ds.all fun d => decide (d ≠ some s)) = true) (hv : a.tmps[s]?.getD undef = v := by rfl) : (putRow u k ds a).eval (.tmp s) = v := by
  show (putRow u k ds a).tmps.getD s undef = _
  rw [Array.getD_eq_getD_getElem?, get_out ds k a h, hv]
theorem eval_in {u : Nat → Value} {s : Nat} (ds : List (Option Tmp)) (k j : Nat) (a : Act) (hd : distinctB ds = true) (hk : k ≤ j) (h : ds[j - k]? = some (some s)) (hs : s < a.tmps.size) : (putRow u k ds a).eval (.tmp s) = u j := by
  show (putRow u k ds a).tmps.getD s undef = _
  rw [Array.getD_eq_getD_getElem?, get_in ds k j a hd hk h hs]
theorem eval_get {a : Act} {s : Nat} {v : Value} (h : a.eval (.tmp s) = v) : a.tmps[s]?.getD undef = v := by
  rw [← h]
  show _ = a.tmps.getD s undef
  rw [Array.getD_eq_getD_getElem?]
end
end Go.Proofs.YtpkmibmombpjpaaGreatDoor
namespace Go.Proofs.YtpkmibmombpjpaaGreatDoor
open Go Go.RowKit
section
variable {P : Program} {ops : Array Oper}
/-- The block that a pointer or a slice speaks of. -/
def blkOf : Value → Option Nat
  | .pointer (some a) => some a.block
  | .slice (some a) _ _ => some a.block
  | _ => none
/-- A value whose block has come with this step. -/
def Fresh (f : Bool) (v : Value) (w w' : World) : Prop := f = true → ∃ x, blkOf v = some x ∧ w.heap.size ≤ x ∧ x < w'.heap.size
theorem Fresh.no (v : Value) (w w' : World) : Fresh false v w w' := fun h => by cases h
/-- What each operation of a piece must do, from any world that has come of W. -/
def flowSteps3 (P : Program) (full : Array Oper) (W : World) (sp : Nat → Value → World → Prop) (fr : Nat → Bool) (Q : Exit → Act → World → Prop) (k : Nat) (u : Nat → Value) (a' : Act) : Nat → List Oper → Prop
  | _, [] => True
  | j, o :: r => (∀ w', Below W.heap.size W w' → (∀ e ∈ o.after, Region.binds .any e = true → k ≤ e.on → sp e.on (u e.on) w') →
      ∀ K : Act → World → Prop, (∀ v w'', sp j v w'' → Below w'.heap.size w' w'' → Fresh (fr j) v w' w'' → K (a'.put o.dst v) w'') → wpList P full (Exit.then K Q) [o] a' w') ∧ flowSteps3 P full W sp fr Q k u a' (j + 1) r
theorem flowSteps3_at {full : Array Oper} {W : World} {sp : Nat → Value → World → Prop} {fr : Nat → Bool} {Q : Exit → Act → World → Prop} {k : Nat} {u : Nat → Value} {a' : Act} : ∀ (r : List Oper) (j i : Nat) (o : Oper), flowSteps3 P full W sp fr Q k u a' j r → j ≤ i → r[i - j]? = some o →
    (∀ w', Below W.heap.size W w' → (∀ e ∈ o.after, Region.binds .any e = true → k ≤ e.on → sp e.on (u e.on) w') →
      ∀ K : Act → World → Prop, (∀ v w'', sp i v w'' → Below w'.heap.size w' w'' → Fresh (fr i) v w' w'' → K (a'.put o.dst v) w'') → wpList P full (Exit.then K Q) [o] a' w')
  | [], _, _, _, _, _, h => by simp at h
  | x :: r, j, i, o, hs, hj, h => by
    rcases Nat.eq_or_lt_of_le hj with rfl | hlt
    · obtain rfl : x = o := by simpa using h
      exact hs.1
    · refine flowSteps3_at r (j + 1) i o hs.2 (by omega) ?_
      rw [show i - j = (i - (j + 1)) + 1 by omega] at h
      simpa using h
structure FlowInv3 (ops : Array Oper) (W : World) (sp : Nat → Value → World → Prop) (fr : Nat → Bool) (k n : Nat) (b : Array Bool) (u : Nat → Value) (w' : World) : Prop where
  head : HeadInv .any ops n b
  low : ∀ j, j < k → b.getD j false = true
  vals : ∀ j, k ≤ j → j < n → b.getD j false = true → sp j (u j) w'
  below : Below W.heap.size W w'
  old : ∀ j, k ≤ j → j < n → b.getD j false = true → fr j = true → ∃ x, blkOf (u j) = some x ∧ W.heap.size ≤ x ∧ x < w'.heap.size
  apart : ∀ i j, k ≤ i → i < n → k ≤ j → j < n → b.getD i false = true → b.getD j false = true → fr i = true → fr j = true → i ≠ j → blkOf (u i) ≠ blkOf (u j)
theorem flow_any3 {full : List Oper} {W : World} {sp : Nat → Value → World → Prop} {fr : Nat → Bool} {Q : Exit → Act → World → Prop} {k m : Nat} {ds : List (Option Tmp)} {a : Act}
    (hs : sinkFrom full.toArray k (k + m) = true) (hc : tailFrom full.toArray (k + m) = true) (hn : k + m < full.length) (hbk : backB full.toArray (k + m) = true)
    (hds : ((full.drop k).take m).map (·.dst) = ds) (hdd : distinctB ds = true)
    (hup : ∀ j v w1 w2, sp j v w1 → Below w1.heap.size w1 w2 → sp j v w2)
    (hstep : ∀ u, flowSteps3 P full.toArray W sp fr Q k u (putRow u k ds a) k ((full.drop k).take m))
    (hend : ∀ u w', Below W.heap.size W w' → (∀ j, k ≤ j → j < k + m → sp j (u j) w') → (∀ j, k ≤ j → j < k + m → fr j = true → ∃ x, blkOf (u j) = some x ∧ W.heap.size ≤ x ∧ x < w'.heap.size) → (∀ i j, k ≤ i → i < k + m → k ≤ j → j < k + m → fr i = true → fr j = true → i ≠ j → blkOf (u i) ≠ blkOf (u j)) → Rest P full Q (k + m) (putRow u k ds a) w') :
    ∀ (f : Nat) (b : Array Bool) (u : Nat → Value) (w' : World), left b (k + m) = f → FlowInv3 full.toArray W sp fr k (k + m) b u w' → wpAny P .any full.toArray Q (f + (full.length - (k + m))) b (putRow u k ds a) w' := by
  intro f
  induction f with
  | zero =>
    intro b u w' hl inv
    have hall := left_zero hl
    have hb : b = doneTo full.toArray.size (k + m) := by
      apply Array.ext_getElem?
      intro j
      rw [doneTo_get (by simp; omega)]
      rcases Nat.lt_or_ge j b.size with hj | hj
      · have hjs : j < full.toArray.size := by rw [← inv.head.size]; exact hj
        by_cases h1 : j < k + m
        · rw [if_pos h1]
          have := hall j h1
          simpa [Array.getD_eq_getD_getElem?, hj] using this
        · rw [if_neg h1, if_pos hjs]
          have := inv.head.tail j (by omega) hjs
          simpa [Array.getD_eq_getD_getElem?, hj] using this
      · have hjs : ¬ j < full.toArray.size := by rw [← inv.head.size]; omega
        rw [Array.getElem?_eq_none hj, if_neg (by simp at hjs; omega), if_neg hjs]
    have := hend u w' inv.below (fun j h1 h2 => inv.vals j h1 h2 (hall j h2)) (fun j h1 h2 => inv.old j h1 h2 (hall j h2)) (fun i j h1 h2 h3 h4 => inv.apart i j h1 h2 h3 h4 (hall i h2) (hall j h4))
    unfold Rest at this
    rw [hb, Nat.zero_add]
    simpa using this
  | succ f ih =>
    intro b u w' hl inv
    obtain ⟨j0, hj0, hu0, hb0⟩ := left_some (b := b) (n := k + m) (by omega)
    have hbsz : b.size = full.length := by rw [inv.head.size]; simp
    have hkj0 : k ≤ j0 := by
      rcases Nat.lt_or_ge j0 k with h | h
      · rw [inv.low j0 h] at hu0; cases hu0
      · exact h
    have hun0 : b.getD j0 true = false := getD_in (by omega) hu0
    have hr0 : j0 ∈ Region.ready .any full.toArray b := by
      have h1 := List.all_eq_true.1 hbk j0 (List.mem_range.2 hj0)
      cases ho : full.toArray[j0]? with
      | none => simp only [ho] at h1; cases h1
      | some o =>
        simp only [ho] at h1
        refine mem_ready.2 ⟨hun0, o, ho, fun e he hb => ?_⟩
        have h2 := Array.all_eq_true_iff_forall_mem.1 h1 e he
        simp only [hb, Bool.not_true, Bool.false_or, decide_eq_true_eq] at h2
        exact hb0 _ h2
    rw [Nat.succ_add]
    refine ⟨fun e => (by rw [e] at hr0; cases hr0), fun i hi => ?_⟩
    obtain ⟨hun, oi, hoi, hall⟩ := mem_ready.1 hi
    have hin : i < k + m := by
      rcases Nat.lt_or_ge i (k + m) with h | h
      · exact h
      · exact absurd hi (tail_waits2 hs hc (by simpa using hn) inv.head _ j0 rfl hkj0 hj0 hun0 i h)
    have hki : k ≤ i := by
      rcases Nat.lt_or_ge i k with h | h
      · have := inv.low i h
        rw [getD_both hun] at this; cases this
      · exact h
    have hoil : full[i]? = some oi := by simpa using hoi
    have hoi2 : ((full.drop k).take m)[i - k]? = some oi := by
      rw [List.getElem?_take, if_pos (by omega), List.getElem?_drop, show k + (i - k) = i by omega]
      exact hoil
    have hdi : ds[i - k]? = some oi.dst := by rw [← hds, List.getElem?_map, hoi2]; rfl
    have hst := flowSteps3_at _ k i oi (hstep u) hki hoi2 w' inv.below (fun e he hb hke => by
      have hdone := hall e he hb
      have hlt : e.on < k + m := by
        rcases Nat.lt_or_ge e.on (k + m) with h | h
        · exact h
        · rcases Nat.lt_or_ge e.on full.toArray.size with h2 | h2
          · have := inv.head.tail e.on h h2
            rw [getD_both this] at hdone; cases hdone
          · have : b.getD e.on false = false := by simp [Array.getD_eq_getD_getElem?, Array.getElem?_eq_none (show b.size ≤ e.on by rw [inv.head.size]; exact h2)]
            rw [this] at hdone; cases hdone
      exact inv.vals e.on hke hlt hdone)
      (fun a2 w2 => wpAny P .any full.toArray Q (f + (full.length - (k + m))) (b.setIfInBounds i true) a2 w2)
      (fun v w'' hv hbl hfr => by
        rw [putRow_set ds k i a oi.dst hdd hki hdi]
        refine ih (b.setIfInBounds i true) (upd u i v) w'' (by have := left_set hin hun; omega) ⟨inv.head.set hi hin, fun j hj => ?_, fun j h1 h2 hd => ?_, inv.below.trans (hbl.mono inv.below.size), fun j h1 h2 hd hf => ?_, fun x y h1 h2 h3 h4 hx hy hfx hfy hxy => ?_⟩
        · rw [getD_set_ne false (by omega)]; exact inv.low j hj
        · by_cases hji : j = i
          · subst hji
            rw [show upd u j v j = v by simp [upd]]
            exact hv
          · rw [show upd u i v j = u j by simp [upd, hji]]
            rw [getD_set_ne false (Ne.symm hji)] at hd
            exact hup j _ _ _ (inv.vals j h1 h2 hd) hbl
        · by_cases hji : j = i
          · subst hji
            rw [show upd u j v j = v by simp [upd]]
            obtain ⟨x, e1, e2, e3⟩ := hfr hf
            exact ⟨x, e1, Nat.le_trans inv.below.size e2, e3⟩
          · rw [show upd u i v j = u j by simp [upd, hji]]
            rw [getD_set_ne false (Ne.symm hji)] at hd
            obtain ⟨x, e1, e2, e3⟩ := inv.old j h1 h2 hd hf
            exact ⟨x, e1, e2, Nat.lt_of_lt_of_le e3 hbl.size⟩
        · by_cases hxi : x = i
          · subst hxi
            have hyx : y ≠ x := fun e => hxy e.symm
            rw [getD_set_ne false (Ne.symm hyx)] at hy
            rw [show upd u x v x = v by simp [upd], show upd u x v y = u y by simp [upd, hyx]]
            obtain ⟨p, e1, e2, e3⟩ := hfr hfx
            obtain ⟨q, g1, g2, g3⟩ := inv.old y h3 h4 hy hfy
            rw [e1, g1]
            intro e
            injection e with e
            omega
          · rw [getD_set_ne false (Ne.symm hxi)] at hx
            rw [show upd u i v x = u x by simp [upd, hxi]]
            by_cases hyi : y = i
            · subst hyi
              rw [show upd u y v y = v by simp [upd]]
              obtain ⟨p, e1, e2, e3⟩ := hfr hfy
              obtain ⟨q, g1, g2, g3⟩ := inv.old x h1 h2 hx hfx
              rw [e1, g1]
              intro e
              injection e with e
              omega
            · rw [getD_set_ne false (Ne.symm hyi)] at hy
              rw [show upd u i v y = u y by simp [upd, hyi]]
              exact inv.apart x y h1 h2 h3 h4 hx hy hfx hfy hxy)
    exact wpOp_of_list hoi hst
/-- A piece of m operations from the k-th on; sp j says what is known of the j-th one's value. -/
theorem rest_flow_fr {W : World} (ds : List (Option Tmp)) (sp : Nat → Value → World → Prop) (fr : Nat → Bool) (m : Nat) {Q : Exit → Act → World → Prop} {a : Act} {l : List Oper} {k : Nat}
    (hB : (decide (k + m < l.length) && sinkFrom l.toArray k (k + m) && tailFrom l.toArray (k + m) && closedTo l.toArray k && backB l.toArray (k + m) && distinctB ds && ds.all (fun d => match d with | some d => decide (d < a.tmps.size) | none => true)) = true)
    (hds : ((l.drop k).take m).map (·.dst) = ds)
    (hup : ∀ j v w1 w2, sp j v w1 → Below w1.heap.size w1 w2 → sp j v w2)
    (hstep : ∀ u, flowSteps3 P l.toArray W sp fr Q k u (putRow u k ds a) k ((l.drop k).take m))
    (hend : ∀ u w', Below W.heap.size W w' → (∀ j, k ≤ j → j < k + m → sp j (u j) w') → (∀ j, k ≤ j → j < k + m → fr j = true → ∃ x, blkOf (u j) = some x ∧ W.heap.size ≤ x ∧ x < w'.heap.size) → (∀ i j, k ≤ i → i < k + m → k ≤ j → j < k + m → fr i = true → fr j = true → i ≠ j → blkOf (u i) ≠ blkOf (u j)) → Rest P l Q (k + m) (putRow u k ds a) w') : Rest P l Q k a W := by
  simp only [Bool.and_eq_true, decide_eq_true_eq] at hB
  obtain ⟨⟨⟨⟨⟨⟨hk, hs⟩, hc⟩, hcl⟩, hbk⟩, hdd⟩, hsz⟩ := hB
  obtain ⟨u, hu⟩ := putRow_self a ds k (fun d hd => by
    have := List.all_eq_true.1 hsz (some d) hd
    simpa using this)
  have hleft : left (doneTo l.length k) (k + m) = m := by
    unfold left
    have : (List.range (k + m)).filter (undone (doneTo l.length k)) = (List.range m).map (k + ·) := by
      rw [List.range_add, List.filter_append]
      have h1 : (List.range k).filter (undone (doneTo l.length k)) = [] := by
        rw [List.filter_eq_nil_iff]
        intro j hj
        have := doneTo_get (m := l.length) (k := k) (by omega) j
        rw [if_pos (List.mem_range.1 hj)] at this
        simp [undone, Array.getD_eq_getD_getElem?, this]
      rw [h1, List.nil_append, List.filter_eq_self]
      intro j hj
      obtain ⟨x, hx, rfl⟩ := List.mem_map.1 hj
      have := doneTo_get (m := l.length) (k := k) (by omega) (k + x)
      rw [if_neg (by omega), if_pos (by have := List.mem_range.1 hx; omega)] at this
      simp [undone, Array.getD_eq_getD_getElem?, this]
    rw [this]; simp
  have H := flow_any3 (P := P) (Q := Q) (a := a) hs hc hk hbk hds hdd hup hstep hend m (doneTo l.length k) u W hleft
    ⟨by have := inv_doneTo (ops := l.toArray) (k := k) (n := k + m) (by omega) (by simpa using hk) hcl; simpa using this,
     fun j hj => by
      have := doneTo_get (m := l.length) (k := k) (by omega) j
      rw [if_pos hj] at this
      simp [Array.getD_eq_getD_getElem?, this],
     fun j h1 h2 hd => by
      have := doneTo_get (m := l.length) (k := k) (by omega) j
      rw [if_neg (by omega), if_pos (by omega)] at this
      simp [Array.getD_eq_getD_getElem?, this] at hd,
     Below.refl _ _,
     fun j h1 h2 hd => by
      have := doneTo_get (m := l.length) (k := k) (by omega) j
      rw [if_neg (by omega), if_pos (by omega)] at this
      simp [Array.getD_eq_getD_getElem?, this] at hd,
     fun i j h1 h2 h3 h4 hd => by
      have := doneTo_get (m := l.length) (k := k) (by omega) i
      rw [if_neg (by omega), if_pos (by omega)] at this
      simp [Array.getD_eq_getD_getElem?, this] at hd⟩
  rw [hu] at H
  unfold Rest
  rw [show l.length - k = m + (l.length - (k + m)) by omega]
  exact H

theorem rest_flow3 {W : World} (ds : List (Option Tmp)) (sps : List Sp) (frs : List Bool) (m : Nat) {Q : Exit → Act → World → Prop} {a : Act} {l : List Oper} {k : Nat}
    (hB : (decide (k + m < l.length) && sinkFrom l.toArray k (k + m) && tailFrom l.toArray (k + m) && closedTo l.toArray k && backB l.toArray (k + m) && distinctB ds && ds.all (fun d => match d with | some d => decide (d < a.tmps.size) | none => true)) = true)
    (hds : ((l.drop k).take m).map (·.dst) = ds)
    (hstep : ∀ u F, F = putRow u k ds a → flowSteps3 P l.toArray W (spAt sps k) (fun j => frs.getD (j - k) false) Q k u F k ((l.drop k).take m))
    (hend : ∀ u w', Below W.heap.size W w' → (∀ j, k ≤ j → j < k + m → spAt sps k j (u j) w') → (∀ j, k ≤ j → j < k + m → frs.getD (j - k) false = true → ∃ x, blkOf (u j) = some x ∧ W.heap.size ≤ x ∧ x < w'.heap.size) → (∀ i j, k ≤ i → i < k + m → k ≤ j → j < k + m → frs.getD (i - k) false = true → frs.getD (j - k) false = true → i ≠ j → blkOf (u i) ≠ blkOf (u j)) → Rest P l Q (k + m) (putRow u k ds a) w') : Rest P l Q k a W :=
  rest_flow_fr ds (spAt sps k) (fun j => frs.getD (j - k) false) m hB hds (spAt_up sps k) (fun u => hstep u _ rfl) hend
/-- A block known whole. -/
def Sp.blk (t : TypeId) (C : Array Value) : Sp := ⟨fun v w => ∃ b, v = .pointer (some ⟨b, 0, none⟩) ∧ Blk w b t C, fun _ _ _ ⟨b, h1, h2⟩ hb => ⟨b, h1, h2.keep hb h2.lt⟩⟩
end
end Go.Proofs.YtpkmibmombpjpaaGreatDoor
