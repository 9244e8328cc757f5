/- The flow of a drawn region with what is known of each value as a list; slots of its frames; one operation at a frame that is a variable. -/
import Derived.Test.YtpkmibmombpjpaaGreatDoorFlow
import Derived.Test.YtpkmibmombpjpaaGreatDoorBlk
import Derived.Deep.CutBlock
namespace Go.Proofs.YtpkmibmombpjpaaGreatDoor
open Go Go.RowKit
section
variable {P : Program} {ops : Array Oper} {o : Oper} {a : Act} {w : World} {K : Act → World → Prop} {Q : Exit → Act → World → Prop}
theorem op_val {v : Value} {w' : World} (hg : o.guard = none) (hrun : (execOp a.eval o).run P w = .ok (.value v) w') (hK : K (a.put o.dst v) w') : wpList P ops (Exit.then K Q) [o] a w := by
  refine wpList_plain hg fun K' hK' => ?_
  unfold Oper.wp
  rw [hrun, Oper.upon_value]
  exact hK' _ _ hK
theorem op_call {f : FuncId} {args : Array Value} {R : Value → World → Prop} (hg : o.guard = none) (hrun : (execOp a.eval o).run P w = .ok (.enter f args) w) (hc : Calls P f args w fun e w'' => ∃ v, e = .returned v ∧ R v w'') (hK : ∀ v w'', R v w'' → K (a.put o.dst v) w'') : wpList P ops (Exit.then K Q) [o] a w := by
  refine wpList_plain hg fun K' hK' => ?_
  unfold Oper.wp
  rw [hrun, Oper.upon_enter]
  refine hc.mono fun e w'' hh => ?_
  obtain ⟨v, rfl, hR⟩ := hh
  exact hK' _ _ (hK _ _ hR)
end
/-- What is known of a value; kept when the world grows. -/
structure Sp where
  p : Value → World → Prop
  up : ∀ v w1 w2, p v w1 → Below w1.heap.size w1 w2 → p v w2
def Sp.is (x : Value) : Sp := ⟨fun v _ => v = x, fun _ _ _ h _ => h⟩
def Sp.any : Sp := ⟨fun _ _ => True, fun _ _ _ h _ => h⟩
/-- A slice of the values xs in a block. -/
def Sp.row (xs : List Value) : Sp := ⟨fun v w => ∃ b, v = .slice (some ⟨b, 0, none⟩) xs.length xs.length ∧ b < w.heap.size ∧ ∀ i x, xs[i]? = some x → w.cell? ⟨b, i, none⟩ = some x,
  fun _ _ _ ⟨b, h1, h2, h3⟩ hb => ⟨b, h1, Nat.lt_of_lt_of_le h2 hb.size, fun i x hx => (hb.cell h2).trans (h3 i x hx)⟩⟩
theorem Sp.row_new (w : World) (t : TypeId) (xs : List Value) (n b : Nat) (hn : xs.length = n) (hb : w.heap.size = b) : (Sp.row xs).p (.slice (some ⟨b, 0, none⟩) n n) (w.alloc (.cells xs.toArray t)) := by
  subst hn hb
  refine ⟨_, rfl, by simp, fun i x hx => ?_⟩
  exact (Blk.new w t xs.toArray).cell (by simpa using hx)
def spAt (sps : List Sp) (k : Nat) (j : Nat) : Value → World → Prop := (sps.getD (j - k) Sp.any).p
theorem spAt_up (sps : List Sp) (k j : Nat) (v : Value) (w1 w2 : World) (h : spAt sps k j v w1) (hb : Below w1.heap.size w1 w2) : spAt sps k j v w2 := (sps.getD (j - k) Sp.any).up v w1 w2 h hb
section
variable {P : Program}
theorem rest_flow2 {W : World} (ds : List (Option Tmp)) (sps : List Sp) (m : Nat) {Q : Exit → Act → World → Prop} {a : Act} {l : List Oper} {k : Nat}
    (hB : (decide (k + m < l.length) && sinkFrom l.toArray k (k + m) && tailFrom l.toArray (k + m) && closedTo l.toArray k && backB l.toArray (k + m) && distinctB ds && ds.all (fun d => match d with | some d => decide (d < a.tmps.size) | none => true)) = true)
    (hds : ((l.drop k).take m).map (·.dst) = ds)
    (hstep : ∀ u F, F = putRow u k ds a → flowSteps P l.toArray W (spAt sps k) Q k u F k ((l.drop k).take m))
    (hend : ∀ u w', Below W.heap.size W w' → (∀ j, k ≤ j → j < k + m → spAt sps k j (u j) w') → Rest P l Q (k + m) (putRow u k ds a) w') : Rest P l Q k a W :=
  rest_flow ds (spAt sps k) m hB hds (spAt_up sps k) (fun u => hstep u _ rfl) hend
theorem put_tmps {a : Act} {d : Option Tmp} {v : Value} : (a.put d v).tmps.size = a.tmps.size := by
  cases d <;> simp [Act.put]
theorem get_out {u : Nat → Value} {s : Nat} : ∀ (ds : List (Option Tmp)) (k : Nat) (a : Act), (ds.all fun d => decide (d ≠ some s)) = true → (putRow u k ds a).tmps[s]?.getD undef = a.tmps[s]?.getD undef
  | [], _, _, _ => rfl
  | d :: ds, k, a, h => by
    simp only [List.all_cons, Bool.and_eq_true, decide_eq_true_eq] at h
    unfold putRow
    rw [get_out ds (k + 1) _ h.2]
    cases d with
    | none => rfl
    | some d =>
      have : d ≠ s := fun e => h.1 (by rw [e])
      simp only [Act.put]
      rw [Array.getElem?_setIfInBounds_ne this]
theorem get_in {u : Nat → Value} {s : Nat} : ∀ (ds : List (Option Tmp)) (k j : Nat) (a : Act), distinctB ds = true → k ≤ j → ds[j - k]? = some (some s) → s < a.tmps.size → (putRow u k ds a).tmps[s]?.getD undef = u j
  | [], _, _, _, _, _, h, _ => by simp at h
  | d :: ds, k, j, a, hd, hk, h, hs => by
    simp only [distinctB, Bool.and_eq_true] at hd
    unfold putRow
    rcases Nat.eq_or_lt_of_le hk with rfl | hlt
    · obtain rfl : d = some s := by simpa using h
      rw [get_out]
      · simp [Act.put, hs]
      · have := hd.1
        unfold apartB at this
        rw [List.all_eq_true] at this ⊢
        intro e he
        have h1 := this e he
        simp only [Option.isNone_some, Bool.false_or, decide_eq_true_eq] at h1 ⊢
        exact fun h2 => h1 h2.symm
    · refine get_in ds (k + 1) j _ hd.2 (by omega) ?_ (by rw [put_tmps]; exact hs)
      rw [show j - k = (j - (k + 1)) + 1 by omega] at h
      simpa using h
theorem eval_out {u : Nat → Value} {s : Nat} (ds : List (Option Tmp)) (k : Nat) (a : Act) {v : Value} (h : (ds.all fun d => decide (d ≠ some s)) = true) (hv : a.tmps[s]?.getD undef = v := by rfl) : (putRow u k ds a).eval (.tmp s) = v := by
  show (putRow u k ds a).tmps.getD s undef = _
  rw [Array.getD_eq_getD_getElem?, get_out ds k a h, hv]
theorem eval_in {u : Nat → Value} {s : Nat} (ds : List (Option Tmp)) (k j : Nat) (a : Act) (hd : distinctB ds = true) (hk : k ≤ j) (h : ds[j - k]? = some (some s)) (hs : s < a.tmps.size) : (putRow u k ds a).eval (.tmp s) = u j := by
  show (putRow u k ds a).tmps.getD s undef = _
  rw [Array.getD_eq_getD_getElem?, get_in ds k j a hd hk h hs]
theorem eval_get {a : Act} {s : Nat} {v : Value} (h : a.eval (.tmp s) = v) : a.tmps[s]?.getD undef = v := by
  rw [← h]
  show _ = a.tmps.getD s undef
  rw [Array.getD_eq_getD_getElem?]
end
end Go.Proofs.YtpkmibmombpjpaaGreatDoor
