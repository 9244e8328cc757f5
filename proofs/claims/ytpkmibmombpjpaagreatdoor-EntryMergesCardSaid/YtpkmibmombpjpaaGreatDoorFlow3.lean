/- The flow of a drawn region in which some operations make a block of their own: at the end these blocks are different ones. No program. -/
import Derived.Test.YtpkmibmombpjpaaGreatDoorFlow2
namespace Go.Proofs.YtpkmibmombpjpaaGreatDoor
open Go Go.RowKit
section
variable {P : Program} {ops : Array Oper}
/-- The block that a pointer or a slice speaks of. -/
def blkOf : Value → Option Nat
  | .pointer (some a) => some a.block
  | .slice (some a) _ _ => some a.block
  | _ => none
/-- A value whose block has come with this step. -/
def Fresh (f : Bool) (v : Value) (w w' : World) : Prop := f = true → ∃ x, blkOf v = some x ∧ w.heap.size ≤ x ∧ x < w'.heap.size
theorem Fresh.no (v : Value) (w w' : World) : Fresh false v w w' := fun h => by cases h
/-- What each operation of a piece must do, from any world that has come of W. -/
def flowSteps3 (P : Program) (full : Array Oper) (W : World) (sp : Nat → Value → World → Prop) (fr : Nat → Bool) (Q : Exit → Act → World → Prop) (k : Nat) (u : Nat → Value) (a' : Act) : Nat → List Oper → Prop
  | _, [] => True
  | j, o :: r => (∀ w', Below W.heap.size W w' → (∀ e ∈ o.after, Region.binds .any e = true → k ≤ e.on → sp e.on (u e.on) w') →
      ∀ K : Act → World → Prop, (∀ v w'', sp j v w'' → Below w'.heap.size w' w'' → Fresh (fr j) v w' w'' → K (a'.put o.dst v) w'') → wpList P full (Exit.then K Q) [o] a' w') ∧ flowSteps3 P full W sp fr Q k u a' (j + 1) r
theorem flowSteps3_at {full : Array Oper} {W : World} {sp : Nat → Value → World → Prop} {fr : Nat → Bool} {Q : Exit → Act → World → Prop} {k : Nat} {u : Nat → Value} {a' : Act} : ∀ (r : List Oper) (j i : Nat) (o : Oper), flowSteps3 P full W sp fr Q k u a' j r → j ≤ i → r[i - j]? = some o →
    (∀ w', Below W.heap.size W w' → (∀ e ∈ o.after, Region.binds .any e = true → k ≤ e.on → sp e.on (u e.on) w') →
      ∀ K : Act → World → Prop, (∀ v w'', sp i v w'' → Below w'.heap.size w' w'' → Fresh (fr i) v w' w'' → K (a'.put o.dst v) w'') → wpList P full (Exit.then K Q) [o] a' w')
  | [], _, _, _, _, _, h => by simp at h
  | x :: r, j, i, o, hs, hj, h => by
    rcases Nat.eq_or_lt_of_le hj with rfl | hlt
    · obtain rfl : x = o := by simpa using h
      exact hs.1
    · refine flowSteps3_at r (j + 1) i o hs.2 (by omega) ?_
      rw [show i - j = (i - (j + 1)) + 1 by omega] at h
      simpa using h
structure FlowInv3 (ops : Array Oper) (W : World) (sp : Nat → Value → World → Prop) (fr : Nat → Bool) (k n : Nat) (b : Array Bool) (u : Nat → Value) (w' : World) : Prop where
  head : HeadInv .any ops n b
  low : ∀ j, j < k → b.getD j false = true
  vals : ∀ j, k ≤ j → j < n → b.getD j false = true → sp j (u j) w'
  below : Below W.heap.size W w'
  old : ∀ j, k ≤ j → j < n → b.getD j false = true → fr j = true → ∃ x, blkOf (u j) = some x ∧ W.heap.size ≤ x ∧ x < w'.heap.size
  apart : ∀ i j, k ≤ i → i < n → k ≤ j → j < n → b.getD i false = true → b.getD j false = true → fr i = true → fr j = true → i ≠ j → blkOf (u i) ≠ blkOf (u j)
theorem flow_any3 {full : List Oper} {W : World} {sp : Nat → Value → World → Prop} {fr : Nat → Bool} {Q : Exit → Act → World → Prop} {k m : Nat} {ds : List (Option Tmp)} {a : Act}
    (hs : sinkFrom full.toArray k (k + m) = true) (hc : tailFrom full.toArray (k + m) = true) (hn : k + m < full.length) (hbk : backB full.toArray (k + m) = true)
    (hds : ((full.drop k).take m).map (·.dst) = ds) (hdd : distinctB ds = true)
    (hup : ∀ j v w1 w2, sp j v w1 → Below w1.heap.size w1 w2 → sp j v w2)
    (hstep : ∀ u, flowSteps3 P full.toArray W sp fr Q k u (putRow u k ds a) k ((full.drop k).take m))
    (hend : ∀ u w', Below W.heap.size W w' → (∀ j, k ≤ j → j < k + m → sp j (u j) w') → (∀ j, k ≤ j → j < k + m → fr j = true → ∃ x, blkOf (u j) = some x ∧ W.heap.size ≤ x ∧ x < w'.heap.size) → (∀ i j, k ≤ i → i < k + m → k ≤ j → j < k + m → fr i = true → fr j = true → i ≠ j → blkOf (u i) ≠ blkOf (u j)) → Rest P full Q (k + m) (putRow u k ds a) w') :
    ∀ (f : Nat) (b : Array Bool) (u : Nat → Value) (w' : World), left b (k + m) = f → FlowInv3 full.toArray W sp fr k (k + m) b u w' → wpAny P .any full.toArray Q (f + (full.length - (k + m))) b (putRow u k ds a) w' := by
  intro f
  induction f with
  | zero =>
    intro b u w' hl inv
    have hall := left_zero hl
    have hb : b = doneTo full.toArray.size (k + m) := by
      apply Array.ext_getElem?
      intro j
      rw [doneTo_get (by simp; omega)]
      rcases Nat.lt_or_ge j b.size with hj | hj
      · have hjs : j < full.toArray.size := by rw [← inv.head.size]; exact hj
        by_cases h1 : j < k + m
        · rw [if_pos h1]
          have := hall j h1
          simpa [Array.getD_eq_getD_getElem?, hj] using this
        · rw [if_neg h1, if_pos hjs]
          have := inv.head.tail j (by omega) hjs
          simpa [Array.getD_eq_getD_getElem?, hj] using this
      · have hjs : ¬ j < full.toArray.size := by rw [← inv.head.size]; omega
        rw [Array.getElem?_eq_none hj, if_neg (by simp at hjs; omega), if_neg hjs]
    have := hend u w' inv.below (fun j h1 h2 => inv.vals j h1 h2 (hall j h2)) (fun j h1 h2 => inv.old j h1 h2 (hall j h2)) (fun i j h1 h2 h3 h4 => inv.apart i j h1 h2 h3 h4 (hall i h2) (hall j h4))
    unfold Rest at this
    rw [hb, Nat.zero_add]
    simpa using this
  | succ f ih =>
    intro b u w' hl inv
    obtain ⟨j0, hj0, hu0, hb0⟩ := left_some (b := b) (n := k + m) (by omega)
    have hbsz : b.size = full.length := by rw [inv.head.size]; simp
    have hkj0 : k ≤ j0 := by
      rcases Nat.lt_or_ge j0 k with h | h
      · rw [inv.low j0 h] at hu0; cases hu0
      · exact h
    have hun0 : b.getD j0 true = false := getD_in (by omega) hu0
    have hr0 : j0 ∈ Region.ready .any full.toArray b := by
      have h1 := List.all_eq_true.1 hbk j0 (List.mem_range.2 hj0)
      cases ho : full.toArray[j0]? with
      | none => simp only [ho] at h1; cases h1
      | some o =>
        simp only [ho] at h1
        refine mem_ready.2 ⟨hun0, o, ho, fun e he hb => ?_⟩
        have h2 := Array.all_eq_true_iff_forall_mem.1 h1 e he
        simp only [hb, Bool.not_true, Bool.false_or, decide_eq_true_eq] at h2
        exact hb0 _ h2
    rw [Nat.succ_add]
    refine ⟨fun e => (by rw [e] at hr0; cases hr0), fun i hi => ?_⟩
    obtain ⟨hun, oi, hoi, hall⟩ := mem_ready.1 hi
    have hin : i < k + m := by
      rcases Nat.lt_or_ge i (k + m) with h | h
      · exact h
      · exact absurd hi (tail_waits2 hs hc (by simpa using hn) inv.head _ j0 rfl hkj0 hj0 hun0 i h)
    have hki : k ≤ i := by
      rcases Nat.lt_or_ge i k with h | h
      · have := inv.low i h
        rw [getD_both hun] at this; cases this
      · exact h
    have hoil : full[i]? = some oi := by simpa using hoi
    have hoi2 : ((full.drop k).take m)[i - k]? = some oi := by
      rw [List.getElem?_take, if_pos (by omega), List.getElem?_drop, show k + (i - k) = i by omega]
      exact hoil
    have hdi : ds[i - k]? = some oi.dst := by rw [← hds, List.getElem?_map, hoi2]; rfl
    have hst := flowSteps3_at _ k i oi (hstep u) hki hoi2 w' inv.below (fun e he hb hke => by
      have hdone := hall e he hb
      have hlt : e.on < k + m := by
        rcases Nat.lt_or_ge e.on (k + m) with h | h
        · exact h
        · rcases Nat.lt_or_ge e.on full.toArray.size with h2 | h2
          · have := inv.head.tail e.on h h2
            rw [getD_both this] at hdone; cases hdone
          · have : b.getD e.on false = false := by simp [Array.getD_eq_getD_getElem?, Array.getElem?_eq_none (show b.size ≤ e.on by rw [inv.head.size]; exact h2)]
            rw [this] at hdone; cases hdone
      exact inv.vals e.on hke hlt hdone)
      (fun a2 w2 => wpAny P .any full.toArray Q (f + (full.length - (k + m))) (b.setIfInBounds i true) a2 w2)
      (fun v w'' hv hbl hfr => by
        rw [putRow_set ds k i a oi.dst hdd hki hdi]
        refine ih (b.setIfInBounds i true) (upd u i v) w'' (by have := left_set hin hun; omega) ⟨inv.head.set hi hin, fun j hj => ?_, fun j h1 h2 hd => ?_, inv.below.trans (hbl.mono inv.below.size), fun j h1 h2 hd hf => ?_, fun x y h1 h2 h3 h4 hx hy hfx hfy hxy => ?_⟩
        · rw [getD_set_ne false (by omega)]; exact inv.low j hj
        · by_cases hji : j = i
          · subst hji
            rw [show upd u j v j = v by simp [upd]]
            exact hv
          · rw [show upd u i v j = u j by simp [upd, hji]]
            rw [getD_set_ne false (Ne.symm hji)] at hd
            exact hup j _ _ _ (inv.vals j h1 h2 hd) hbl
        · by_cases hji : j = i
          · subst hji
            rw [show upd u j v j = v by simp [upd]]
            obtain ⟨x, e1, e2, e3⟩ := hfr hf
            exact ⟨x, e1, Nat.le_trans inv.below.size e2, e3⟩
          · rw [show upd u i v j = u j by simp [upd, hji]]
            rw [getD_set_ne false (Ne.symm hji)] at hd
            obtain ⟨x, e1, e2, e3⟩ := inv.old j h1 h2 hd hf
            exact ⟨x, e1, e2, Nat.lt_of_lt_of_le e3 hbl.size⟩
        · by_cases hxi : x = i
          · subst hxi
            have hyx : y ≠ x := fun e => hxy e.symm
            rw [getD_set_ne false (Ne.symm hyx)] at hy
            rw [show upd u x v x = v by simp [upd], show upd u x v y = u y by simp [upd, hyx]]
            obtain ⟨p, e1, e2, e3⟩ := hfr hfx
            obtain ⟨q, g1, g2, g3⟩ := inv.old y h3 h4 hy hfy
            rw [e1, g1]
            intro e
            injection e with e
            omega
          · rw [getD_set_ne false (Ne.symm hxi)] at hx
            rw [show upd u i v x = u x by simp [upd, hxi]]
            by_cases hyi : y = i
            · subst hyi
              rw [show upd u y v y = v by simp [upd]]
              obtain ⟨p, e1, e2, e3⟩ := hfr hfy
              obtain ⟨q, g1, g2, g3⟩ := inv.old x h1 h2 hx hfx
              rw [e1, g1]
              intro e
              injection e with e
              omega
            · rw [getD_set_ne false (Ne.symm hyi)] at hy
              rw [show upd u i v y = u y by simp [upd, hyi]]
              exact inv.apart x y h1 h2 h3 h4 hx hy hfx hfy hxy)
    exact wpOp_of_list hoi hst
/-- A piece of m operations from the k-th on; sp j says what is known of the j-th one's value. -/
theorem rest_flow_fr {W : World} (ds : List (Option Tmp)) (sp : Nat → Value → World → Prop) (fr : Nat → Bool) (m : Nat) {Q : Exit → Act → World → Prop} {a : Act} {l : List Oper} {k : Nat}
    (hB : (decide (k + m < l.length) && sinkFrom l.toArray k (k + m) && tailFrom l.toArray (k + m) && closedTo l.toArray k && backB l.toArray (k + m) && distinctB ds && ds.all (fun d => match d with | some d => decide (d < a.tmps.size) | none => true)) = true)
    (hds : ((l.drop k).take m).map (·.dst) = ds)
    (hup : ∀ j v w1 w2, sp j v w1 → Below w1.heap.size w1 w2 → sp j v w2)
    (hstep : ∀ u, flowSteps3 P l.toArray W sp fr Q k u (putRow u k ds a) k ((l.drop k).take m))
    (hend : ∀ u w', Below W.heap.size W w' → (∀ j, k ≤ j → j < k + m → sp j (u j) w') → (∀ j, k ≤ j → j < k + m → fr j = true → ∃ x, blkOf (u j) = some x ∧ W.heap.size ≤ x ∧ x < w'.heap.size) → (∀ i j, k ≤ i → i < k + m → k ≤ j → j < k + m → fr i = true → fr j = true → i ≠ j → blkOf (u i) ≠ blkOf (u j)) → Rest P l Q (k + m) (putRow u k ds a) w') : Rest P l Q k a W := by
  simp only [Bool.and_eq_true, decide_eq_true_eq] at hB
  obtain ⟨⟨⟨⟨⟨⟨hk, hs⟩, hc⟩, hcl⟩, hbk⟩, hdd⟩, hsz⟩ := hB
  obtain ⟨u, hu⟩ := putRow_self a ds k (fun d hd => by
    have := List.all_eq_true.1 hsz (some d) hd
    simpa using this)
  have hleft : left (doneTo l.length k) (k + m) = m := by
    unfold left
    have : (List.range (k + m)).filter (undone (doneTo l.length k)) = (List.range m).map (k + ·) := by
      rw [List.range_add, List.filter_append]
      have h1 : (List.range k).filter (undone (doneTo l.length k)) = [] := by
        rw [List.filter_eq_nil_iff]
        intro j hj
        have := doneTo_get (m := l.length) (k := k) (by omega) j
        rw [if_pos (List.mem_range.1 hj)] at this
        simp [undone, Array.getD_eq_getD_getElem?, this]
      rw [h1, List.nil_append, List.filter_eq_self]
      intro j hj
      obtain ⟨x, hx, rfl⟩ := List.mem_map.1 hj
      have := doneTo_get (m := l.length) (k := k) (by omega) (k + x)
      rw [if_neg (by omega), if_pos (by have := List.mem_range.1 hx; omega)] at this
      simp [undone, Array.getD_eq_getD_getElem?, this]
    rw [this]; simp
  have H := flow_any3 (P := P) (Q := Q) (a := a) hs hc hk hbk hds hdd hup hstep hend m (doneTo l.length k) u W hleft
    ⟨by have := inv_doneTo (ops := l.toArray) (k := k) (n := k + m) (by omega) (by simpa using hk) hcl; simpa using this,
     fun j hj => by
      have := doneTo_get (m := l.length) (k := k) (by omega) j
      rw [if_pos hj] at this
      simp [Array.getD_eq_getD_getElem?, this],
     fun j h1 h2 hd => by
      have := doneTo_get (m := l.length) (k := k) (by omega) j
      rw [if_neg (by omega), if_pos (by omega)] at this
      simp [Array.getD_eq_getD_getElem?, this] at hd,
     Below.refl _ _,
     fun j h1 h2 hd => by
      have := doneTo_get (m := l.length) (k := k) (by omega) j
      rw [if_neg (by omega), if_pos (by omega)] at this
      simp [Array.getD_eq_getD_getElem?, this] at hd,
     fun i j h1 h2 h3 h4 hd => by
      have := doneTo_get (m := l.length) (k := k) (by omega) i
      rw [if_neg (by omega), if_pos (by omega)] at this
      simp [Array.getD_eq_getD_getElem?, this] at hd⟩
  rw [hu] at H
  unfold Rest
  rw [show l.length - k = m + (l.length - (k + m)) by omega]
  exact H

theorem rest_flow3 {W : World} (ds : List (Option Tmp)) (sps : List Sp) (frs : List Bool) (m : Nat) {Q : Exit → Act → World → Prop} {a : Act} {l : List Oper} {k : Nat}
    (hB : (decide (k + m < l.length) && sinkFrom l.toArray k (k + m) && tailFrom l.toArray (k + m) && closedTo l.toArray k && backB l.toArray (k + m) && distinctB ds && ds.all (fun d => match d with | some d => decide (d < a.tmps.size) | none => true)) = true)
    (hds : ((l.drop k).take m).map (·.dst) = ds)
    (hstep : ∀ u F, F = putRow u k ds a → flowSteps3 P l.toArray W (spAt sps k) (fun j => frs.getD (j - k) false) Q k u F k ((l.drop k).take m))
    (hend : ∀ u w', Below W.heap.size W w' → (∀ j, k ≤ j → j < k + m → spAt sps k j (u j) w') → (∀ j, k ≤ j → j < k + m → frs.getD (j - k) false = true → ∃ x, blkOf (u j) = some x ∧ W.heap.size ≤ x ∧ x < w'.heap.size) → (∀ i j, k ≤ i → i < k + m → k ≤ j → j < k + m → frs.getD (i - k) false = true → frs.getD (j - k) false = true → i ≠ j → blkOf (u i) ≠ blkOf (u j)) → Rest P l Q (k + m) (putRow u k ds a) w') : Rest P l Q k a W :=
  rest_flow_fr ds (spAt sps k) (fun j => frs.getD (j - k) false) m hB hds (spAt_up sps k) (fun u => hstep u _ rfl) hend
/-- A block known whole. -/
def Sp.blk (t : TypeId) (C : Array Value) : Sp := ⟨fun v w => ∃ b, v = .pointer (some ⟨b, 0, none⟩) ∧ Blk w b t C, fun _ _ _ ⟨b, h1, h2⟩ hb => ⟨b, h1, h2.keep hb h2.lt⟩⟩
end
end Go.Proofs.YtpkmibmombpjpaaGreatDoor
