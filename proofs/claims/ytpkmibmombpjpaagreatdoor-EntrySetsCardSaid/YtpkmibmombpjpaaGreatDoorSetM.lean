/- Flows as in XFlow3, which also say that draws are only counted up. No program. Entries compared, once more: what is drawn is counted up. Sets of entries: inserting, leaving out what stands twice, what a sorted list holds. No program. slices.Compact, Clip of entries in a block of the call's own. Entries sorted in a block of the call's own: slices.SortFunc by Compare, at any length. slices.Grow, slices.Concat of entries; entry.Merge. What counts, what versions there are: plain laws of sets. No program. As XRangeC, for an assignment that makes memory: the law. No program. An undrawn region in a round of a range over a function: what holds of it plainly holds there. entry.Versions. -/
import Derived.Test.YtpkmibmombpjpaaGreatDoorFlM
import Derived.Test.YtpkmibmombpjpaaGreatDoorRow
import Derived.Sort.Grow
import Derived.Test.YtpkmibmombpjpaaGreatDoorEO
import Derived.Test.YtpkmibmombpjpaaGreatDoorKcM
import Derived.Test.YtpkmibmombpjpaaGreatDoorEM
import Derived.Test.YtpkmibmombpjpaaGreatDoorEH
import Derived.Test.YtpkmibmombpjpaaGreatDoorEY
import Derived.Test.YtpkmibmombpjpaaGreatDoorSrtLay
import Derived.Test.YtpkmibmombpjpaaGreatDoorRangeC
import Derived.Test.YtpkmibmombpjpaaGreatDoorInL
namespace Go.Proofs.YtpkmibmombpjpaaGreatDoor
open Go Go.RowKit

/-- Below, and what was drawn is not fewer. -/
structure BelowD (B : Nat) (w w' : World) : Prop where
  b : Below B w w'
  n : w.drawn ≤ w'.drawn
theorem BelowD.size {B : Nat} {w w' : World} (h : BelowD B w w') : w.heap.size ≤ w'.heap.size := h.b.size
theorem BelowD.refl (B : Nat) (w : World) : BelowD B w w := ⟨Below.refl _ _, Nat.le_refl _⟩
theorem BelowD.trans {B : Nat} {a b c : World} (h : BelowD B a b) (k : BelowD B b c) : BelowD B a c := ⟨h.b.trans k.b, Nat.le_trans h.n k.n⟩
theorem BelowD.mono {B B' : Nat} {w w' : World} (h : BelowD B w w') (hB : B' ≤ B) : BelowD B' w w' := ⟨h.b.mono hB, h.n⟩
theorem BelowD.drew {B : Nat} {a w : World} (h : BelowD B a w) : BelowD B a w.drew := ⟨h.b.drew, Nat.le_trans h.n (Nat.le_succ _)⟩
theorem belowD_drewN {B : Nat} {a w : World} (h : BelowD B a w) (n : Nat) : BelowD B a (w.drewN n) := ⟨below_drewN h.b n, Nat.le_trans h.n (Nat.le_add_right _ _)⟩
theorem BelowD.alloc {B : Nat} {a w : World} (h : BelowD B a w) (hB : B ≤ w.heap.size) (o : Obj) : BelowD B a (w.alloc o) := ⟨h.b.alloc hB o, h.n⟩
theorem belowD1 (W : World) (o : Obj) : BelowD W.heap.size W (W.alloc o) := ⟨below1 W o, Nat.le_refl _⟩
theorem BelowD.setCell {B : Nat} {a w : World} {p : Addr} (h : BelowD B a w) (hB : B ≤ p.block) (u : Value) : BelowD B a (w.setCell p u) := ⟨h.b.setCell hB u, h.n⟩
theorem BelowD.setCells' {B b : Nat} {w0 : World} (hb : B ≤ b) : ∀ (vs : List Value) (k : Nat) (w : World), BelowD B w0 w → BelowD B w0 (w.setCells b k vs)
  | [], _, _, h => h
  | v :: vs, k, _, h => BelowD.setCells' hb vs (k + 1) _ (h.setCell (p := ⟨b, k, none⟩) hb v)
theorem BelowD.setRow' {B b : Nat} {w0 w : World} (hb : B ≤ b) (h : BelowD B w0 w) (C : Array Value) : BelowD B w0 (w.setRow b C) := ⟨Below.setRow' hb h.b C, h.n⟩
/-- Such a world is the first one with draws and blocks more. -/
theorem BelowD.grow {w w' : World} (h : BelowD w.heap.size w w') : ∃ q os, w' = Go.Sort.grow (w.drewN q) os := by
  refine ⟨w'.drawn - w.drawn, w'.heap.extract w.heap.size w'.heap.size, ?_⟩
  have h1 := h.b.os
  have h2 := h.b.tape
  have h3 := h.b.output
  have h4 := h.n
  have h5 : w'.heap = w.heap ++ w'.heap.extract w.heap.size w'.heap.size := by
    apply Array.ext_getElem?
    intro i
    rw [Array.getElem?_append]
    split
    · rename_i hi
      exact h.b.block i hi
    · rename_i hi
      rw [Array.getElem?_extract]
      split
      · congr 1; omega
      · rename_i hj
        have := h.size
        exact Array.getElem?_eq_none (by omega)
  cases w with
  | mk H T D O U =>
    cases w' with
    | mk H' T' D' O' U' =>
      simp only [Go.Sort.grow, World.drewN] at *
      subst h1 h2 h3
      congr 1
      omega
section
variable {P : Program} {ops : Array Oper}
/-- What each operation of a piece must do, from any world that has come of W. -/
def flowSteps3D (P : Program) (full : Array Oper) (W : World) (sp : Nat → Value → World → Prop) (fr : Nat → Bool) (Q : Exit → Act → World → Prop) (k : Nat) (u : Nat → Value) (a' : Act) : Nat → List Oper → Prop
  | _, [] => True
  | j, o :: r => (∀ w', BelowD W.heap.size W w' → (∀ e ∈ o.after, Region.binds .any e = true → k ≤ e.on → sp e.on (u e.on) w') →
      ∀ K : Act → World → Prop, (∀ v w'', sp j v w'' → BelowD w'.heap.size w' w'' → Fresh (fr j) v w' w'' → K (a'.put o.dst v) w'') → wpList P full (Exit.then K Q) [o] a' w') ∧ flowSteps3D P full W sp fr Q k u a' (j + 1) r
theorem flowSteps3_atD {full : Array Oper} {W : World} {sp : Nat → Value → World → Prop} {fr : Nat → Bool} {Q : Exit → Act → World → Prop} {k : Nat} {u : Nat → Value} {a' : Act} : ∀ (r : List Oper) (j i : Nat) (o : Oper), flowSteps3D P full W sp fr Q k u a' j r → j ≤ i → r[i - j]? = some o →
    (∀ w', BelowD W.heap.size W w' → (∀ e ∈ o.after, Region.binds .any e = true → k ≤ e.on → sp e.on (u e.on) w') →
      ∀ K : Act → World → Prop, (∀ v w'', sp i v w'' → BelowD w'.heap.size w' w'' → Fresh (fr i) v w' w'' → K (a'.put o.dst v) w'') → wpList P full (Exit.then K Q) [o] a' w')
  | [], _, _, _, _, _, h => by simp at h
  | x :: r, j, i, o, hs, hj, h => by
    rcases Nat.eq_or_lt_of_le hj with rfl | hlt
    · obtain rfl : x = o := by simpa using h
      exact hs.1
    · refine flowSteps3_atD r (j + 1) i o hs.2 (by omega) ?_
      rw [show i - j = (i - (j + 1)) + 1 by omega] at h
      simpa using h
structure FlowInv3D (ops : Array Oper) (W : World) (sp : Nat → Value → World → Prop) (fr : Nat → Bool) (k n : Nat) (b : Array Bool) (u : Nat → Value) (w' : World) : Prop where
  head : HeadInv .any ops n b
  low : ∀ j, j < k → b.getD j false = true
  vals : ∀ j, k ≤ j → j < n → b.getD j false = true → sp j (u j) w'
  below : BelowD W.heap.size W w'
  old : ∀ j, k ≤ j → j < n → b.getD j false = true → fr j = true → ∃ x, blkOf (u j) = some x ∧ W.heap.size ≤ x ∧ x < w'.heap.size
  apart : ∀ i j, k ≤ i → i < n → k ≤ j → j < n → b.getD i false = true → b.getD j false = true → fr i = true → fr j = true → i ≠ j → blkOf (u i) ≠ blkOf (u j)
theorem flow_any3D {full : List Oper} {W : World} {sp : Nat → Value → World → Prop} {fr : Nat → Bool} {Q : Exit → Act → World → Prop} {k m : Nat} {ds : List (Option Tmp)} {a : Act}
    (hs : sinkFrom full.toArray k (k + m) = true) (hc : tailFrom full.toArray (k + m) = true) (hn : k + m < full.length) (hbk : backB full.toArray (k + m) = true)
    (hds : ((full.drop k).take m).map (·.dst) = ds) (hdd : distinctB ds = true)
    (hup : ∀ j v w1 w2, sp j v w1 → Below w1.heap.size w1 w2 → sp j v w2)
    (hstep : ∀ u, flowSteps3D P full.toArray W sp fr Q k u (putRow u k ds a) k ((full.drop k).take m))
    (hend : ∀ u w', BelowD W.heap.size W w' → (∀ j, k ≤ j → j < k + m → sp j (u j) w') → (∀ j, k ≤ j → j < k + m → fr j = true → ∃ x, blkOf (u j) = some x ∧ W.heap.size ≤ x ∧ x < w'.heap.size) → (∀ i j, k ≤ i → i < k + m → k ≤ j → j < k + m → fr i = true → fr j = true → i ≠ j → blkOf (u i) ≠ blkOf (u j)) → Rest P full Q (k + m) (putRow u k ds a) w') :
    ∀ (f : Nat) (b : Array Bool) (u : Nat → Value) (w' : World), left b (k + m) = f → FlowInv3D full.toArray W sp fr k (k + m) b u w' → wpAny P .any full.toArray Q (f + (full.length - (k + m))) b (putRow u k ds a) w' := by
  intro f
  induction f with
  | zero =>
    intro b u w' hl inv
    have hall := left_zero hl
    have hb : b = doneTo full.toArray.size (k + m) := by
      apply Array.ext_getElem?
      intro j
      rw [doneTo_get (by simp; omega)]
      rcases Nat.lt_or_ge j b.size with hj | hj
      · have hjs : j < full.toArray.size := by rw [← inv.head.size]; exact hj
        by_cases h1 : j < k + m
        · rw [if_pos h1]
          have := hall j h1
          simpa [Array.getD_eq_getD_getElem?, hj] using this
        · rw [if_neg h1, if_pos hjs]
          have := inv.head.tail j (by omega) hjs
          simpa [Array.getD_eq_getD_getElem?, hj] using this
      · have hjs : ¬ j < full.toArray.size := by rw [← inv.head.size]; omega
        rw [Array.getElem?_eq_none hj, if_neg (by simp at hjs; omega), if_neg hjs]
    have := hend u w' inv.below (fun j h1 h2 => inv.vals j h1 h2 (hall j h2)) (fun j h1 h2 => inv.old j h1 h2 (hall j h2)) (fun i j h1 h2 h3 h4 => inv.apart i j h1 h2 h3 h4 (hall i h2) (hall j h4))
    unfold Rest at this
    rw [hb, Nat.zero_add]
    simpa using this
  | succ f ih =>
    intro b u w' hl inv
    obtain ⟨j0, hj0, hu0, hb0⟩ := left_some (b := b) (n := k + m) (by omega)
    have hbsz : b.size = full.length := by rw [inv.head.size]; simp
    have hkj0 : k ≤ j0 := by
      rcases Nat.lt_or_ge j0 k with h | h
      · rw [inv.low j0 h] at hu0; cases hu0
      · exact h
    have hun0 : b.getD j0 true = false := Go.getD_in (by omega) hu0
    have hr0 : j0 ∈ Region.ready .any full.toArray b := by
      have h1 := List.all_eq_true.1 hbk j0 (List.mem_range.2 hj0)
      cases ho : full.toArray[j0]? with
      | none => simp only [ho] at h1; cases h1
      | some o =>
        simp only [ho] at h1
        refine mem_ready.2 ⟨hun0, o, ho, fun e he hb => ?_⟩
        have h2 := Array.all_eq_true_iff_forall_mem.1 h1 e he
        simp only [hb, Bool.not_true, Bool.false_or, decide_eq_true_eq] at h2
        exact hb0 _ h2
    rw [Nat.succ_add]
    refine ⟨fun e => (by rw [e] at hr0; cases hr0), fun i hi => ?_⟩
    obtain ⟨hun, oi, hoi, hall⟩ := mem_ready.1 hi
    have hin : i < k + m := by
      rcases Nat.lt_or_ge i (k + m) with h | h
      · exact h
      · exact absurd hi (tail_waits2 hs hc (by simpa using hn) inv.head _ j0 rfl hkj0 hj0 hun0 i h)
    have hki : k ≤ i := by
      rcases Nat.lt_or_ge i k with h | h
      · have := inv.low i h
        rw [getD_both hun] at this; cases this
      · exact h
    have hoil : full[i]? = some oi := by simpa using hoi
    have hoi2 : ((full.drop k).take m)[i - k]? = some oi := by
      rw [List.getElem?_take, if_pos (by omega), List.getElem?_drop, show k + (i - k) = i by omega]
      exact hoil
    have hdi : ds[i - k]? = some oi.dst := by rw [← hds, List.getElem?_map, hoi2]; rfl
    have hst := flowSteps3_atD _ k i oi (hstep u) hki hoi2 w' inv.below (fun e he hb hke => by
      have hdone := hall e he hb
      have hlt : e.on < k + m := by
        rcases Nat.lt_or_ge e.on (k + m) with h | h
        · exact h
        · rcases Nat.lt_or_ge e.on full.toArray.size with h2 | h2
          · have := inv.head.tail e.on h h2
            rw [getD_both this] at hdone; cases hdone
          · have : b.getD e.on false = false := by simp [Array.getD_eq_getD_getElem?, Array.getElem?_eq_none (show b.size ≤ e.on by rw [inv.head.size]; exact h2)]
            rw [this] at hdone; cases hdone
      exact inv.vals e.on hke hlt hdone)
      (fun a2 w2 => wpAny P .any full.toArray Q (f + (full.length - (k + m))) (b.setIfInBounds i true) a2 w2)
      (fun v w'' hv hbl hfr => by
        rw [putRow_set ds k i a oi.dst hdd hki hdi]
        refine ih (b.setIfInBounds i true) (upd u i v) w'' (by have := left_set hin hun; omega) ⟨inv.head.set hi hin, fun j hj => ?_, fun j h1 h2 hd => ?_, inv.below.trans (hbl.mono inv.below.size), fun j h1 h2 hd hf => ?_, fun x y h1 h2 h3 h4 hx hy hfx hfy hxy => ?_⟩
        · rw [getD_set_ne false (by omega)]; exact inv.low j hj
        · by_cases hji : j = i
          · subst hji
            rw [show upd u j v j = v by simp [upd]]
            exact hv
          · rw [show upd u i v j = u j by simp [upd, hji]]
            rw [getD_set_ne false (Ne.symm hji)] at hd
            exact hup j _ _ _ (inv.vals j h1 h2 hd) hbl.b
        · by_cases hji : j = i
          · subst hji
            rw [show upd u j v j = v by simp [upd]]
            obtain ⟨x, e1, e2, e3⟩ := hfr hf
            exact ⟨x, e1, Nat.le_trans inv.below.size e2, e3⟩
          · rw [show upd u i v j = u j by simp [upd, hji]]
            rw [getD_set_ne false (Ne.symm hji)] at hd
            obtain ⟨x, e1, e2, e3⟩ := inv.old j h1 h2 hd hf
            exact ⟨x, e1, e2, Nat.lt_of_lt_of_le e3 hbl.size⟩
        · by_cases hxi : x = i
          · subst hxi
            have hyx : y ≠ x := fun e => hxy e.symm
            rw [getD_set_ne false (Ne.symm hyx)] at hy
            rw [show upd u x v x = v by simp [upd], show upd u x v y = u y by simp [upd, hyx]]
            obtain ⟨p, e1, e2, e3⟩ := hfr hfx
            obtain ⟨q, g1, g2, g3⟩ := inv.old y h3 h4 hy hfy
            rw [e1, g1]
            intro e
            injection e with e
            omega
          · rw [getD_set_ne false (Ne.symm hxi)] at hx
            rw [show upd u i v x = u x by simp [upd, hxi]]
            by_cases hyi : y = i
            · subst hyi
              rw [show upd u y v y = v by simp [upd]]
              obtain ⟨p, e1, e2, e3⟩ := hfr hfy
              obtain ⟨q, g1, g2, g3⟩ := inv.old x h1 h2 hx hfx
              rw [e1, g1]
              intro e
              injection e with e
              omega
            · rw [getD_set_ne false (Ne.symm hyi)] at hy
              rw [show upd u i v y = u y by simp [upd, hyi]]
              exact inv.apart x y h1 h2 h3 h4 hx hy hfx hfy hxy)
    exact wpOp_of_list hoi hst
/-- A piece of m operations from the k-th on; sp j says what is known of the j-th one's value. -/
theorem rest_flow_frD {W : World} (ds : List (Option Tmp)) (sp : Nat → Value → World → Prop) (fr : Nat → Bool) (m : Nat) {Q : Exit → Act → World → Prop} {a : Act} {l : List Oper} {k : Nat}
    (hB : (decide (k + m < l.length) && sinkFrom l.toArray k (k + m) && tailFrom l.toArray (k + m) && closedTo l.toArray k && backB l.toArray (k + m) && distinctB ds && ds.all (fun d => match d with | some d => decide (d < a.tmps.size) | none => true)) = true)
    (hds : ((l.drop k).take m).map (·.dst) = ds)
    (hup : ∀ j v w1 w2, sp j v w1 → Below w1.heap.size w1 w2 → sp j v w2)
    (hstep : ∀ u, flowSteps3D P l.toArray W sp fr Q k u (putRow u k ds a) k ((l.drop k).take m))
    (hend : ∀ u w', BelowD W.heap.size W w' → (∀ j, k ≤ j → j < k + m → sp j (u j) w') → (∀ j, k ≤ j → j < k + m → fr j = true → ∃ x, blkOf (u j) = some x ∧ W.heap.size ≤ x ∧ x < w'.heap.size) → (∀ i j, k ≤ i → i < k + m → k ≤ j → j < k + m → fr i = true → fr j = true → i ≠ j → blkOf (u i) ≠ blkOf (u j)) → Rest P l Q (k + m) (putRow u k ds a) w') : Rest P l Q k a W := by
  simp only [Bool.and_eq_true, decide_eq_true_eq] at hB
  obtain ⟨⟨⟨⟨⟨⟨hk, hs⟩, hc⟩, hcl⟩, hbk⟩, hdd⟩, hsz⟩ := hB
  obtain ⟨u, hu⟩ := putRow_self a ds k (fun d hd => by
    have := List.all_eq_true.1 hsz (some d) hd
    simpa using this)
  have hleft : left (doneTo l.length k) (k + m) = m := by
    unfold left
    have : (List.range (k + m)).filter (undone (doneTo l.length k)) = (List.range m).map (k + ·) := by
      rw [List.range_add, List.filter_append]
      have h1 : (List.range k).filter (undone (doneTo l.length k)) = [] := by
        rw [List.filter_eq_nil_iff]
        intro j hj
        have := doneTo_get (m := l.length) (k := k) (by omega) j
        rw [if_pos (List.mem_range.1 hj)] at this
        simp [undone, Array.getD_eq_getD_getElem?, this]
      rw [h1, List.nil_append, List.filter_eq_self]
      intro j hj
      obtain ⟨x, hx, rfl⟩ := List.mem_map.1 hj
      have := doneTo_get (m := l.length) (k := k) (by omega) (k + x)
      rw [if_neg (by omega), if_pos (by have := List.mem_range.1 hx; omega)] at this
      simp [undone, Array.getD_eq_getD_getElem?, this]
    rw [this]; simp
  have H := flow_any3D (P := P) (Q := Q) (a := a) hs hc hk hbk hds hdd hup hstep hend m (doneTo l.length k) u W hleft
    ⟨by have := inv_doneTo (ops := l.toArray) (k := k) (n := k + m) (by omega) (by simpa using hk) hcl; simpa using this,
     fun j hj => by
      have := doneTo_get (m := l.length) (k := k) (by omega) j
      rw [if_pos hj] at this
      simp [Array.getD_eq_getD_getElem?, this],
     fun j h1 h2 hd => by
      have := doneTo_get (m := l.length) (k := k) (by omega) j
      rw [if_neg (by omega), if_pos (by omega)] at this
      simp [Array.getD_eq_getD_getElem?, this] at hd,
     BelowD.refl _ _,
     fun j h1 h2 hd => by
      have := doneTo_get (m := l.length) (k := k) (by omega) j
      rw [if_neg (by omega), if_pos (by omega)] at this
      simp [Array.getD_eq_getD_getElem?, this] at hd,
     fun i j h1 h2 h3 h4 hd => by
      have := doneTo_get (m := l.length) (k := k) (by omega) i
      rw [if_neg (by omega), if_pos (by omega)] at this
      simp [Array.getD_eq_getD_getElem?, this] at hd⟩
  rw [hu] at H
  unfold Rest
  rw [show l.length - k = m + (l.length - (k + m)) by omega]
  exact H

theorem rest_flow3D {W : World} (ds : List (Option Tmp)) (sps : List Sp) (frs : List Bool) (m : Nat) {Q : Exit → Act → World → Prop} {a : Act} {l : List Oper} {k : Nat}
    (hB : (decide (k + m < l.length) && sinkFrom l.toArray k (k + m) && tailFrom l.toArray (k + m) && closedTo l.toArray k && backB l.toArray (k + m) && distinctB ds && ds.all (fun d => match d with | some d => decide (d < a.tmps.size) | none => true)) = true)
    (hds : ((l.drop k).take m).map (·.dst) = ds)
    (hstep : ∀ u F, F = putRow u k ds a → flowSteps3D P l.toArray W (spAt sps k) (fun j => frs.getD (j - k) false) Q k u F k ((l.drop k).take m))
    (hend : ∀ u w', BelowD W.heap.size W w' → (∀ j, k ≤ j → j < k + m → spAt sps k j (u j) w') → (∀ j, k ≤ j → j < k + m → frs.getD (j - k) false = true → ∃ x, blkOf (u j) = some x ∧ W.heap.size ≤ x ∧ x < w'.heap.size) → (∀ i j, k ≤ i → i < k + m → k ≤ j → j < k + m → frs.getD (i - k) false = true → frs.getD (j - k) false = true → i ≠ j → blkOf (u i) ≠ blkOf (u j)) → Rest P l Q (k + m) (putRow u k ds a) w') : Rest P l Q k a W :=
  rest_flow_frD ds (spAt sps k) (fun j => frs.getD (j - k) false) m hB hds (spAt_up sps k) (fun u => hstep u _ rfl) hend
end
end Go.Proofs.YtpkmibmombpjpaaGreatDoor
set_option linter.unusedSimpArgs false
namespace Go.Proofs.YtpkmibmombpjpaaGreatDoor
open Go Go.RowKit

theorem two_blkD (w : World) (t : TypeId) (a b : Array Value) : Blk ((w.alloc (.cells a t)).alloc (.cells b t)) w.heap.size t a ∧ Blk ((w.alloc (.cells a t)).alloc (.cells b t)) (w.heap.size + 1) t b ∧ BelowD w.heap.size w ((w.alloc (.cells a t)).alloc (.cells b t)) := by
  refine ⟨(Blk.new w _ _).alloc _, ?_, (belowD1 w _).alloc (by simp) _⟩
  have := Blk.new (w.alloc (.cells a t)) t b
  rwa [show (w.alloc (.cells a t)).heap.size = w.heap.size + 1 by simp] at this
set_option maxRecDepth 100000 in
set_option maxHeartbeats 4000000 in
theorem cmpK_anyD (a b : En) (w : World) : Calls Tryz.prog 54 #[.agg (enC a), .agg (enC b)] w (fun e w' => e = .returned (.int .i64 (cmpK a b)) ∧ BelowD w.heap.size w w') := by
  have HK := Lib.hid (or3_key a b)
  have C0 := Lib.hid (fun W => cmpI_any a.rd b.rd W)
  have C1 := Lib.hid (fun W => cmpI_any a.tb b.tb W)
  have C2 := Lib.hid (fun W => cmpI_any a.bd b.bd W)
  generalize cmpI a.rd b.rd = c0 at *
  generalize cmpI a.tb b.tb = c1 at *
  generalize cmpI a.bd b.bd = c2 at *
  generalize cmpK a b = ck at *
  go_enter Tryz.func54, Tryz.ntmps54
  go_wp2_with fail
  obtain ⟨HA, HB, HW⟩ := two_blkD w 34 (enC a) (enC b)
  generalize (w.alloc (.cells (enC a) 34)).alloc (.cells (enC b) 34) = W2 at *
  have HW2 := Lib.hid HW
  generalize w.heap.size + 1 = p1 at *
  generalize hp0 : w.heap.size = p0 at *
  refine rest_begin (by kernel_rfl) ?_
  have HA1 : Blk W2.drew p0 34 (enC a) := HA
  have HB1 : Blk W2.drew p1 34 (enC b) := HB
  have HW3 := Lib.hid HW2.out.drew
  clear HA HB HW HW2
  generalize W2.drew = X at *
  have x0 := HA1.cell (enC_rd a)
  have x1 := HA1.cell (enC_tb a)
  have x2 := HA1.cell (enC_bd a)
  have y0 := HB1.cell (enC_rd b)
  have y1 := HB1.cell (enC_tb b)
  have y2 := HB1.cell (enC_bd b)
  clear HA1 HB1
  refine rest_quiet (fun w' => ∃ n, w' = X.drewN n) 15 (by kernel_rfl) ⟨0, rfl⟩ ?_
  simp only [List.take_succ_cons, List.take_zero, List.drop_zero]
  repeat (quiet_step ((first
    | (go_at_call 91; with_reducible exact Calls.quiet_of_same ((C0.out _).mono fun e w' h => ⟨h.1, h.2.symm⟩))
    | (go_at_call 91; with_reducible exact Calls.quiet_of_same ((C1.out _).mono fun e w' h => ⟨h.1, h.2.symm⟩))
    | (go_at_call 91; with_reducible exact Calls.quiet_of_same ((C2.out _).mono fun e w' h => ⟨h.1, h.2.symm⟩)))))
  refine wpQuiet_nil ?_
  rintro wq ⟨nq, rfl⟩
  have HW4 : Hid (BelowD p0 w (X.drewN nq)) := Lib.hid (belowD_drewN HW3.out nq)
  clear x0 x1 x2 y0 y1 y2 HW3 C0 C1 C2
  generalize X.drewN nq = Y at *
  refine rest_forced 3 (by kernel_rfl) ?_
  go_wp2_with fail
  refine (or3_any c0 c1 c2 Y.heap.size _ (Blk.new Y 3 _)).mono ?_
  rintro e w' ⟨rfl, rfl⟩
  rw [HK.out]
  have HW5 := Lib.hid (HW4.out.alloc (by have := HW4.out.size; omega) (.cells #[.int .i64 c0, .int .i64 c1, .int .i64 c2] 3))
  go_wp2_with fail
  refine rest_done rfl ?_
  go_wp2_with fail
  go_ret
  exact ⟨rfl, by rw [hp0]; exact HW5.out⟩
theorem bchain3D {w wr : World} {p0 : Nat} (h : BelowD p0 w wr) (a b c : Obj) (hp : w.heap.size = p0) : BelowD p0 w (((wr.alloc a).alloc b).alloc c) := by
  have := h.size
  exact ((h.alloc (by omega) a).alloc (by rw [size_al]; omega) b).alloc (by rw [size_al, size_al]; omega) c
set_option maxRecDepth 100000 in
set_option maxHeartbeats 4000000 in
theorem numbers_anyD (e : En) (he : e.In) (w : World) : Calls Tryz.prog 55 #[.agg (enC e)] w (fun r w' => r = .returned (.agg (nuC e.nums)) ∧ BelowD w.heap.size w w') := by
  have HL := Lib.hid (e.nums_len)
  have k1 : IntKind.i64.wrap (e.kd : Int) = (e.kd : Int) := IntWalk.i64_in _ (by have := he.kd; omega)
  have k2 : IntKind.i64.wrap (e.fd : Int) = (e.fd : Int) := IntWalk.i64_in _ (by have := he.fd; omega)
  have N0 := Lib.hid (nuP0 e.nums)
  have HB0 := two_blkD w 34 (enC e) #[]
  clear HB0
  go_enter Tryz.func55, Tryz.ntmps55
  go_upto_region 1 with fail
  rw [← N0.out]
  have HA : Hid (Blk ((w.alloc (.cells (enC e) 34)).alloc (.cells (nuP e.nums 0) 98)) w.heap.size 34 (enC e)) := Lib.hid ((Blk.new w _ _).alloc _)
  have HR : Hid (Blk ((w.alloc (.cells (enC e) 34)).alloc (.cells (nuP e.nums 0) 98)) (w.heap.size + 1) 98 (nuP e.nums 0)) := Lib.hid (by
    have := Blk.new (w.alloc (.cells (enC e) 34)) 98 (nuP e.nums 0)
    rwa [size_al] at this)
  have HW : Hid (BelowD w.heap.size w ((w.alloc (.cells (enC e) 34)).alloc (.cells (nuP e.nums 0) 98))) := Lib.hid ((belowD1 w _).alloc (by simp) _)
  generalize (w.alloc (.cells (enC e) 34)).alloc (.cells (nuP e.nums 0) 98) = W1 at *
  have L1 : Hid (w.heap.size ≤ w.heap.size + 1 ∧ w.heap.size + 1 < W1.heap.size ∧ w.heap.size ≠ w.heap.size + 1) := Lib.hid ⟨by omega, HR.out.lt, by omega⟩
  generalize w.heap.size + 1 = p2 at *
  generalize hp0 : w.heap.size = p0 at *
  have x0 := HA.out.cell (enC_rd e)
  have x1 := HA.out.cell (enC_tb e)
  have x2 := HA.out.cell (enC_bd e)
  have x3 := HA.out.cell (enC_vs e)
  have x4 := HA.out.cell (enC_kd e)
  have x5 := HA.out.cell (enC_fd e)
  go_upto_region 2 with (first | (refine op_build 98 _ (nuP e.nums 6) rfl rfl (by kernel_rfl) ?_) | refine op_store 98 (.tmp 3) (.tmp 22) rfl rfl rfl rfl rfl (storeAt_row (Blk.new W1 _ _) (by rw [nuP_size _ _ HL.out (by omega)]; kernel_rfl) (by rw [nuP_size _ _ HL.out (by omega)]; kernel_rfl) (nuP_one _ _)) ?_; rw [setRow_new])
  have HA2 := Lib.hid (HA.out.alloc (.cells (nuP e.nums 6) 98))
  have HR2 := Lib.hid (HR.out.alloc (.cells (nuP e.nums 6) 98))
  have HN2 := Lib.hid (Blk.new W1 98 (nuP e.nums 6))
  have HW2 := Lib.hid (HW.out.alloc (by have := HW.out.size; omega) (.cells (nuP e.nums 6) 98))
  have L2 : Hid (p0 ≤ W1.heap.size ∧ p0 ≠ W1.heap.size ∧ p2 ≠ W1.heap.size) := Lib.hid (by have := L1.out; omega)
  clear x0 x1 x2 x3 x4 x5 HA HR HW N0
  generalize W1.alloc (.cells (nuP e.nums 6) 98) = W2 at *
  generalize W1.heap.size = p3 at *
  have x6 := HA2.out.cell (enC_tn e)
  obtain ⟨tb, htb⟩ : ∃ tb, e.tn = tb := ⟨_, rfl⟩
  rw [htb] at x6
  go_upto_if 24 with fail
  clear x6
  go_cut [] (fun wx => Hid (Blk wx p0 34 (enC e)) ∧ Hid (Blk wx p2 98 (nuP e.nums 0)) ∧ Hid (Blk wx p3 98 (nuP e.nums 7)) ∧ Hid (BelowD p0 w wx))
  case first =>
    rcases tb with _ | _
    · have ht := htb
      have h7 := nuP_same e.nums 6 HL.out (by show some (b01 e.tn) = _; rw [ht]; rfl)
      rw [h7] at HN2
      clear ht h7 htb
      go_wp2_with fail
      go_meet
      exact ⟨HA2, HR2, HN2, HW2⟩
    · have ht := htb
      have h7 := HN2.out.set 6 (.int .i64 1)
      rw [nuP_set e.nums 6 1 HL.out (by show some (b01 e.tn) = _; rw [ht]; rfl)] at h7
      have HN3 := Lib.hid h7
      have HA3 := Lib.hid (HA2.out.other L2.out.2.1 6 (.int .i64 1))
      have HR3 := Lib.hid (HR2.out.other L2.out.2.2 6 (.int .i64 1))
      have HW3 := Lib.hid (HW2.out.setCell (p := ⟨p3, 6, none⟩) L2.out.1 (.int .i64 1))
      have y6 := HN2.out.cell (nuP_get e.nums 6 6 HL.out (Nat.le_refl _) (by omega))
      have f6 := HN2.out.free 6
      clear ht h7 htb
      go_wp2_with fail
      go_meet
      exact ⟨HA3, HR3, HN3, HW3⟩
  case rest =>
    obtain ⟨HA3, HR3, HN3, HW3⟩ := hcut
    clear HA2 HR2 HN2 HW2 htb
    have lo := loadAt_run (w := wc) (T := 31) (b := p0) (off := 7) (C := ou4 e) Tryz.underlying31 rfl (by rw [ou4_size]; kernel_rfl) (fun j v hj => HA3.out.cell (ou4_get e j v hj))
    have IX := Lib.hid (ix_ou e)
    go_wp2_with (refine op_load 31 (.tmp 26) rfl rfl rfl lo ?_)
    clear lo
    go_loopw [28] (fun s28 wr => ∃ k : Nat, k ≤ 4 ∧ s28 = .int .i64 (k : Int) ∧ Hid (Blk wr p0 34 (enC e)) ∧ Hid (Blk wr p2 98 (nuP e.nums 0)) ∧ Hid (Blk wr p3 98 (nuP e.nums (7 + 6 * k))) ∧ Hid (BelowD p0 w wr)) (fun s28 _ => 4 - (intOf s28).toNat)
    case atStart => exact ⟨0, by omega, rfl, HA3, HR3, HN3, HW3⟩
    case round =>
      clear HA3 HR3 HN3 HW3
      obtain ⟨k, hk, rfl, HA3, HR3, HN3, HW3⟩ := hrel
      by_cases hlt : k < 4
      · have u1 : decide ((k : Int) < 4) = true := decide_eq_true (by omega)
        have ix := IX.out k hlt
        have HO := Lib.hid (nums_out e k hlt)
        have hoi : (e.ou k).In := outs_in he _ (List.mem_of_getElem? (e.ou_at k hlt))
        generalize e.ou k = o at *
        have k1 : IntKind.i64.wrap (o.lv : Int) = (o.lv : Int) := IntWalk.i64_in _ (by have := hoi.lv; omega)
        have k2 : IntKind.i64.wrap (o.dn : Int) = (o.dn : Int) := IntWalk.i64_in _ (by have := hoi.dn; omega)
        have k3 : IntKind.i64.wrap (o.rk : Int) = (o.rk : Int) := IntWalk.i64_in _ (by have := hoi.rk; omega)
        have k4 : IntKind.i64.wrap (o.dc : Int) = (o.dc : Int) := IntWalk.i64_in _ (by have := hoi.dc; omega)
        go_upto_region 9 with fail
        have HA4 := Lib.hid (((HA3.out.alloc (.cells #[.int .u8 (o.lv : Int), .int .u8 (o.dn : Int), .int .u8 (o.rk : Int), .int .u8 (o.dc : Int), .int .i64 o.tr, .int .i64 o.wt] 30)).alloc (.cells #[.int .u8 (o.lv : Int), .int .u8 (o.dn : Int), .int .u8 (o.rk : Int), .int .u8 (o.dc : Int)] 28)).alloc (.cells #[.int .i64 (o.lv : Int), .int .i64 (o.dn : Int), .int .i64 (o.rk : Int), .int .i64 (o.dc : Int), .int .i64 o.tr, .int .i64 o.wt] 158))
        have HR4 := Lib.hid (((HR3.out.alloc (.cells #[.int .u8 (o.lv : Int), .int .u8 (o.dn : Int), .int .u8 (o.rk : Int), .int .u8 (o.dc : Int), .int .i64 o.tr, .int .i64 o.wt] 30)).alloc (.cells #[.int .u8 (o.lv : Int), .int .u8 (o.dn : Int), .int .u8 (o.rk : Int), .int .u8 (o.dc : Int)] 28)).alloc (.cells #[.int .i64 (o.lv : Int), .int .i64 (o.dn : Int), .int .i64 (o.rk : Int), .int .i64 (o.dc : Int), .int .i64 o.tr, .int .i64 o.wt] 158))
        have HN4 := Lib.hid (((HN3.out.alloc (.cells #[.int .u8 (o.lv : Int), .int .u8 (o.dn : Int), .int .u8 (o.rk : Int), .int .u8 (o.dc : Int), .int .i64 o.tr, .int .i64 o.wt] 30)).alloc (.cells #[.int .u8 (o.lv : Int), .int .u8 (o.dn : Int), .int .u8 (o.rk : Int), .int .u8 (o.dc : Int)] 28)).alloc (.cells #[.int .i64 (o.lv : Int), .int .i64 (o.dn : Int), .int .i64 (o.rk : Int), .int .i64 (o.dc : Int), .int .i64 o.tr, .int .i64 o.wt] 158))
        have HS4 := Lib.hid (Blk.third wr (.cells #[.int .u8 (o.lv : Int), .int .u8 (o.dn : Int), .int .u8 (o.rk : Int), .int .u8 (o.dc : Int), .int .i64 o.tr, .int .i64 o.wt] 30) (.cells #[.int .u8 (o.lv : Int), .int .u8 (o.dn : Int), .int .u8 (o.rk : Int), .int .u8 (o.dc : Int)] 28) 158 #[.int .i64 (o.lv : Int), .int .i64 (o.dn : Int), .int .i64 (o.rk : Int), .int .i64 (o.dc : Int), .int .i64 o.tr, .int .i64 o.wt])
        have HW4 := Lib.hid (bchain3D HW3.out (.cells #[.int .u8 (o.lv : Int), .int .u8 (o.dn : Int), .int .u8 (o.rk : Int), .int .u8 (o.dc : Int), .int .i64 o.tr, .int .i64 o.wt] 30) (.cells #[.int .u8 (o.lv : Int), .int .u8 (o.dn : Int), .int .u8 (o.rk : Int), .int .u8 (o.dc : Int)] 28) (.cells #[.int .i64 (o.lv : Int), .int .i64 (o.dn : Int), .int .i64 (o.rk : Int), .int .i64 (o.dc : Int), .int .i64 o.tr, .int .i64 o.wt] 158) hp0)
        have hne : p3 ≠ wr.heap.size + 1 + 1 := by have := HN3.out.lt; omega
        have HNE := Lib.hid hne
        clear HA3 HR3 HN3 HW3 ix k1 k2 k3 k4 hne
        generalize ((wr.alloc (.cells #[.int .u8 (o.lv : Int), .int .u8 (o.dn : Int), .int .u8 (o.rk : Int), .int .u8 (o.dc : Int), .int .i64 o.tr, .int .i64 o.wt] 30)).alloc (.cells #[.int .u8 (o.lv : Int), .int .u8 (o.dn : Int), .int .u8 (o.rk : Int), .int .u8 (o.dc : Int)] 28)).alloc (.cells #[.int .i64 (o.lv : Int), .int .i64 (o.dn : Int), .int .i64 (o.rk : Int), .int .i64 (o.dc : Int), .int .i64 o.tr, .int .i64 o.wt] 158) = W4 at *
        obtain ⟨p7, hp7⟩ : ∃ p7, wr.heap.size + 1 + 1 = p7 := ⟨_, rfl⟩
        rw [hp7] at HS4 HNE ⊢
        clear hp7
        obtain ⟨q, hq⟩ : ∃ q, 7 + 6 * k = q := ⟨_, rfl⟩
        have hq2 : q + 6 ≤ 31 := by omega
        have hq3 : 7 + 6 * (k + 1) = q + 6 := by omega
        have e1 : IntKind.i64.wrap ((k : Int) * 6) = 6 * (k : Int) := by rw [Int.mul_comm]; exact IntWalk.i64_in _ (by omega)
        have e2 : IntKind.i64.wrap (7 + 6 * (k : Int)) = (q : Int) := by rw [show 7 + 6 * (k : Int) = (q : Int) by omega]; exact IntWalk.i64_in _ (by omega)
        rw [hq] at HN4 HO
        have f1 : (0 : Int) ≤ (q : Int) ∧ (q : Int) ≤ 33 := by omega
        refine rest_begin (by kernel_rfl) ?_
        have HA5 : Hid (Blk W4.drew p0 34 (enC e)) := HA4
        have HR5 : Hid (Blk W4.drew p2 98 (nuP e.nums 0)) := HR4
        have HN5 : Hid (Blk W4.drew p3 98 (nuP e.nums q)) := HN4
        have HS5 : Hid (Blk W4.drew p7 158 #[.int .i64 (o.lv : Int), .int .i64 (o.dn : Int), .int .i64 (o.rk : Int), .int .i64 (o.dc : Int), .int .i64 o.tr, .int .i64 o.wt]) := HS4
        have HW5 := Lib.hid HW4.out.drew
        clear HA4 HR4 HN4 HS4 HW4
        generalize W4.drew = W5 at *
        refine rest_quiet (fun w' => ∃ n, w' = W5.drewN n) 5 (by kernel_rfl) ⟨0, rfl⟩ ?_
        simp only [List.take_succ_cons, List.take_zero, List.drop_zero]
        have sl : ∀ W, (Instr.sliceAt 98 (.pointer (some ⟨p3, 0, none⟩)) (some (.int .i64 (q : Int))) none none).run Tryz.prog W = .ok (.slice (some ⟨p3, q, none⟩) (33 - q) (33 - q)) W := fun W => by
          have := slice_lo (T := 98) (b := p3) (off := 0) (q := q) Tryz.underlying98 (size := 1) (fun w => by kernel_rfl) (by omega) W
          rwa [if_neg (by omega), Nat.zero_add, Nat.mul_one] at this
        iterate 3 (quiet_step (fail))
        refine q_slice (p := .pointer (some ⟨p3, 0, none⟩)) (l := some (.int .i64 (q : Int))) (h := none) (m := none) 98 (.tmp 3) (some (.tmp 53)) none none rfl rfl rfl rfl rfl rfl sl ?_
        repeat (quiet_step (fail))
        refine wpQuiet_nil ?_
        rintro wq ⟨nq, rfl⟩
        have HA6 : Hid (Blk (W5.drewN nq) p0 34 (enC e)) := HA5
        have HR6 : Hid (Blk (W5.drewN nq) p2 98 (nuP e.nums 0)) := HR5
        have HN6 : Hid (Blk (W5.drewN nq) p3 98 (nuP e.nums q)) := HN5
        have HS6 : Hid (Blk (W5.drewN nq) p7 158 #[.int .i64 (o.lv : Int), .int .i64 (o.dn : Int), .int .i64 (o.rk : Int), .int .i64 (o.dc : Int), .int .i64 o.tr, .int .i64 o.wt]) := HS5
        have HW6 := Lib.hid (belowD_drewN HW5.out nq)
        clear HA5 HR5 HN5 HS5 HW5 sl
        generalize W5.drewN nq = W6 at *
        have hcp : (Builtin.copy_ #[55, 55] 3 #[.slice (some ⟨p3, q, none⟩) (33 - q) (33 - q), .slice (some ⟨p7, 0, none⟩) 6 6]).run Tryz.prog W6 = .ok (.int .i64 6) (W6.setCells p3 q (o.nums.map (Value.int .i64))) := by
          refine run_copy_cells W6 _ _ _ 3 p3 q (33 - q) (33 - q) ⟨p7, 0, none⟩ 6 6 (o.nums.map (Value.int .i64)) Tryz.underlying55 (by kernel_rfl) (by show 6 = min 6 (33 - q); omega) (fun j v hj => ?_) (fun j hj => ?_) (fun j hj => HN6.out.free _) (by intro v hv; obtain ⟨n, _, rfl⟩ := List.mem_map.1 hv; rfl)
          · rw [add_at, Nat.zero_add]
            exact HS6.out.cell (by rw [← hj]; unfold Ou.nums; simp)
          · rw [HN6.out.cell (nuP_get e.nums q (q + j) HL.out (by omega) (by have hj6 : j < 6 := hj; omega))]; rfl
        have HN7 : Hid (Blk (W6.setCells p3 q (o.nums.map (Value.int .i64))) p3 98 (nuP e.nums (q + 6))) := Lib.hid (Blk.nuP_cells HL.out o.nums q W6 HN6.out (fun j n hj => HO.out j n hj))
        have HA7 : Hid (Blk (W6.setCells p3 q (o.nums.map (Value.int .i64))) p0 34 (enC e)) := Lib.hid (Blk.otherCells L2.out.2.1 _ q W6 HA6.out)
        have HR7 : Hid (Blk (W6.setCells p3 q (o.nums.map (Value.int .i64))) p2 98 (nuP e.nums 0)) := Lib.hid (Blk.otherCells L2.out.2.2 _ q W6 HR6.out)
        have HW7 : Hid (BelowD p0 w (W6.setCells p3 q (o.nums.map (Value.int .i64)))) := Lib.hid (BelowD.setCells' L2.out.1 _ q W6 HW6.out)
        clear HA6 HR6 HN6 HS6 HW6 HO
        refine rest_forced 1 (by kernel_rfl) ?_
        go_wp2_with fail
        refine rest_done rfl ?_
        clear hcp
        generalize W6.setCells p3 q (o.nums.map (Value.int .i64)) = W7 at *
        have e3 : IntKind.i64.wrap ((k : Int) + 1) = ((k + 1 : Nat) : Int) := by rw [show (((k + 1 : Nat) : Int)) = (k : Int) + 1 by omega]; exact IntWalk.i64_in _ (by omega)
        go_wp2_with fail
        go_roundw
        case rel => exact ⟨k + 1, by omega, by simp, HA7, HR7, by rw [hq3]; exact HN7, HW7⟩
        case measure => simp [intOf]; omega
      · obtain rfl : k = 4 := by omega
        have u1 : decide ((4 : Int) < 4) = false := rfl
        rw [show ((4 : Nat) : Int) = 4 from rfl]
        clear IX
        have x31 := HA3.out.cell (enC_a0 e)
        have x32 := HA3.out.cell (enC_a1 e)
        have y31 := HN3.out.cell (nuP_get e.nums 31 31 HL.out (by omega) (by omega))
        have y32 := HN3.out.cell (nuP_get e.nums 31 32 HL.out (by omega) (by omega))
        have f31 := HN3.out.free 31
        have f32 := HN3.out.free 32
        have h1 := HN3.out.set 31 (.int .i64 e.a0)
        rw [nuP_set e.nums 31 e.a0 HL.out rfl] at h1
        have h2 := h1.set 32 (.int .i64 e.a1)
        rw [nuP_set e.nums 32 e.a1 HL.out rfl, nuP_all _ HL.out] at h2
        have HN4 := Lib.hid h2
        have HR4 := Lib.hid ((HR3.out.other L2.out.2.2 31 (.int .i64 e.a0)).other L2.out.2.2 32 (.int .i64 e.a1))
        have HW4 := Lib.hid ((HW3.out.setCell (p := ⟨p3, 31, none⟩) L2.out.1 (.int .i64 e.a0)).setCell (p := ⟨p3, 32, none⟩) L2.out.1 (.int .i64 e.a1))
        clear h1 h2 HN3 HR3 HW3 HA3
        go_wp2_with fail
        go_region
        have HN5 : Hid (Blk ((wr.setCell ⟨p3, 31, none⟩ (.int .i64 e.a0)).setCell ⟨p3, 32, none⟩ (.int .i64 e.a1)).drew p3 98 (nuC e.nums)) := HN4
        have HR5 : Hid (Blk ((wr.setCell ⟨p3, 31, none⟩ (.int .i64 e.a0)).setCell ⟨p3, 32, none⟩ (.int .i64 e.a1)).drew p2 98 (nuP e.nums 0)) := HR4
        have HW5 := Lib.hid HW4.out.drew
        clear HN4 HR4 HW4 x31 x32 y31 y32 f31 f32
        generalize ((wr.setCell ⟨p3, 31, none⟩ (.int .i64 e.a0)).setCell ⟨p3, 32, none⟩ (.int .i64 e.a1)).drew = W9 at *
        have hn33 : (nuC e.nums).size = 33 := by rw [nuC_size, HL.out]
        have lo := loadAt_blk (T := 98) HN5.out Tryz.underlying98 rfl (by rw [hn33]; kernel_rfl)
        have st := storeAt_row (T := 98) (C := nuC e.nums) HR5.out (by rw [hn33]; kernel_rfl) (by rw [hn33, nuP_size _ _ HL.out (by omega)]) (nuC_one _)
        have HF := Lib.hid (HR5.out.row (nuC e.nums))
        have HX := Lib.hid (BelowD.setRow' L1.out.1 HW5.out (nuC e.nums))
        clear HN5 HR5 HW5
        go_wp2_with (first
          | refine op_load (p := .pointer (some ⟨p3, 0, none⟩)) 98 (.tmp 3) rfl rfl rfl lo ?_
          | refine op_store (p := .pointer (some ⟨p2, 0, none⟩)) (C := .agg (nuC e.nums)) 98 (.tmp 2) (.tmp 66) rfl rfl rfl rfl rfl st ?_)
        clear lo st
        generalize W9.setRow p2 (nuC e.nums) = WF at *
        have lf := loadVar_blk (T := 98) HF.out Tryz.underlying98 rfl (by rw [hn33]; kernel_rfl)
        (try simp only [Exit.inBlock, Exit.then])
        refine bodyPost_ret (results_cell Tryz.results55 rfl lf) rfl ?_
        exact ⟨rfl, by rw [hp0]; exact HX.out⟩
set_option maxRecDepth 100000 in
set_option maxHeartbeats 4000000 in
theorem cmpE_anyD (a b : En) (ha : a.In) (hb : b.In) (w : World) : Calls Tryz.prog 25 #[.agg (enC a), .agg (enC b)] w (fun e w' => e = .returned (.int .i64 (cmpE a b)) ∧ BelowD w.heap.size w w') := by
  have KA := Lib.hid (fun W => cmpK_anyD a b W)
  have NA := Lib.hid (fun W => numbers_anyD a ha W)
  have NB := Lib.hid (fun W => numbers_anyD b hb W)
  have QE := Lib.hid (eql_deep (eq_nu a b ha hb))
  have EC := Lib.hid (eqEn_cmp a b)
  have HS : Hid ((enC a).size = 33 ∧ (enC b).size = 33 ∧ (nuC a.nums).size = 33 ∧ (nuC b.nums).size = 33) := Lib.hid ⟨enC_size a, enC_size b, by rw [nuC_size, a.nums_len], by rw [nuC_size, b.nums_len]⟩
  have HK := Lib.hid (cmp_key (a := a) (b := b))
  have HC := Lib.hid (fun (p q : Nat) (t : TypeId) W h1 h2 => scmp_any a.nums b.nums a.nums_len b.nums_len p q t W h1 h2)
  have HD : Hid (cmpE a b = lexC a.nums b.nums) := Lib.hid rfl
  have N0 := Lib.hid (nuP0 ([] : List Int))
  have Z0 : Hid ((nuP ([] : List Int) 0).size = 33) := Lib.hid (by rw [nuP0]; rfl)
  have HO : Hid ((nuC a.nums).all (·.oneCell') = true ∧ (nuC b.nums).all (·.oneCell') = true) := Lib.hid ⟨nuC_one _, nuC_one _⟩
  generalize cmpK a b = ck at *
  generalize cmpE a b = ce at *
  generalize nuC a.nums = NC at *
  generalize nuC b.nums = ND at *
  generalize enC a = AC at *
  generalize enC b = BC at *
  generalize eqEn a b = qe at *
  clear ha hb
  go_enter Tryz.func25, Tryz.ntmps25
  go_upto_region 1 with fail
  obtain ⟨HA, HB, HW⟩ := two_blkD w 34 AC BC
  generalize (w.alloc (.cells AC 34)).alloc (.cells BC 34) = W2 at *
  have L1 : Hid (w.heap.size ≤ w.heap.size + 1) := Lib.hid (by omega)
  generalize w.heap.size + 1 = p1 at *
  generalize hp0 : w.heap.size = p0 at *
  have la := loadAt_blk (T := 34) HA Tryz.underlying34 rfl (by rw [HS.out.1]; kernel_rfl)
  have lb := loadAt_blk (T := 34) HB Tryz.underlying34 rfl (by rw [HS.out.2.1]; kernel_rfl)
  have HA2 := Lib.hid HA
  have HB2 := Lib.hid HB
  have HW2 := Lib.hid HW
  clear HA HB HW
  go_wp2_with (first
    | refine op_load (p := .pointer (some ⟨p0, 0, none⟩)) 34 (.tmp 2) rfl rfl rfl la ?_
    | refine op_load (p := .pointer (some ⟨p1, 0, none⟩)) 34 (.tmp 3) rfl rfl rfl lb ?_)
  refine (KA.out _).mono ?_
  rintro e w1 ⟨rfl, hb⟩
  have HA3 := Lib.hid (HA2.out.keep hb.b HA2.out.lt)
  have HB3 := Lib.hid (HB2.out.keep hb.b HB2.out.lt)
  have HW3 := Lib.hid (HW2.out.trans (hb.mono (by have := HW2.out.size; omega)))
  clear la lb hb HA2 HB2 HW2 KA
  by_cases hc : ck = 0
  · have t1 : (ck != 0) = false := by simp [hc]
    clear hc HK
    go_wp2_with fail
    obtain ⟨W0, hW0⟩ : ∃ W0, w1.drew = W0 := ⟨_, rfl⟩
    have hD : BelowD w1.heap.size w1 W0 := hW0 ▸ (BelowD.refl _ w1).drew
    replace HA3 := Lib.hid (HA3.out.keep hD.b HA3.out.lt)
    replace HB3 := Lib.hid (HB3.out.keep hD.b HB3.out.lt)
    replace HW3 := Lib.hid (HW3.out.trans (hD.mono (by have := HW3.out.size; omega)))
    refine rest_begin (by kernel_rfl) ?_
    rw [hW0]
    clear hD hW0
    clear w1
    refine rest_flow3D [some 14, some 15, some 16, some 17, some 6, some 7] [Sp.is (.agg AC), Sp.is (.agg NC), Sp.is (.agg BC), Sp.is (.agg ND), Sp.blk 98 (nuP [] 0), Sp.blk 98 (nuP [] 0)] [false, false, false, false, true, true] 6 (by kernel_rfl) (by kernel_rfl) (fun u F hF => ?_) (fun u w' hbF hsF hold hap => ?_)
    case refine_1 =>
      have E2 : F.eval (.tmp 2) = .pointer (some ⟨p0, 0, none⟩) := (congrArg (fun a => Act.eval a (.tmp 2)) hF).trans (eval_out [some 14, some 15, some 16, some 17, some 6, some 7] 0 _ (by decide))
      have E3 : F.eval (.tmp 3) = .pointer (some ⟨p1, 0, none⟩) := (congrArg (fun a => Act.eval a (.tmp 3)) hF).trans (eval_out [some 14, some 15, some 16, some 17, some 6, some 7] 0 _ (by decide))
      have D14 : F.eval (.tmp 14) = u 0 := (congrArg (fun a => Act.eval a (.tmp 14)) hF).trans (eval_in [some 14, some 15, some 16, some 17, some 6, some 7] 0 0 _ (by decide) (by omega) rfl (of_decide_eq_true (by kernel_rfl)))
      have D16 : F.eval (.tmp 16) = u 2 := (congrArg (fun a => Act.eval a (.tmp 16)) hF).trans (eval_in [some 14, some 15, some 16, some 17, some 6, some 7] 0 2 _ (by decide) (by omega) rfl (of_decide_eq_true (by kernel_rfl)))
      clear hF
      refine ⟨?_, ?_, ?_, ?_, ?_, ?_, trivial⟩
      · intro w1 hb hd K hK
        exact op_val (v := .agg AC) rfl (exec_load rfl E2 (loadAt_blk (HA3.out.keep hb.b HA3.out.lt) Tryz.underlying34 rfl (by rw [HS.out.1]; kernel_rfl))) (hK _ _ (show _ = _ from rfl) (BelowD.refl _ _) (Fresh.no _ _ _))
      · intro w1 hb hd K hK
        have e1 := D14.trans (show u 0 = .agg AC from hd ⟨0, .data⟩ (by simp) rfl (Nat.zero_le _))
        refine op_call (R := fun v w2 => v = .agg NC ∧ BelowD w1.heap.size w1 w2) (f := 55) (args := #[.agg AC]) rfl (by simp only [execOp]; go_simp; first | exact eval_get e1 | exact ⟨rfl, eval_get e1⟩ | exact ⟨eval_get e1, rfl⟩) ((NA.out w1).mono fun e w2 hh => ⟨_, hh.1, rfl, hh.2⟩) (fun v w2 hh => hK _ _ hh.1 hh.2 (Fresh.no _ _ _))
      · intro w1 hb hd K hK
        exact op_val (v := .agg BC) rfl (exec_load rfl E3 (loadAt_blk (HB3.out.keep hb.b HB3.out.lt) Tryz.underlying34 rfl (by rw [HS.out.2.1]; kernel_rfl))) (hK _ _ (show _ = _ from rfl) (BelowD.refl _ _) (Fresh.no _ _ _))
      · intro w1 hb hd K hK
        have e1 := D16.trans (show u 2 = .agg BC from hd ⟨2, .data⟩ (by simp) rfl (Nat.zero_le _))
        refine op_call (R := fun v w2 => v = .agg ND ∧ BelowD w1.heap.size w1 w2) (f := 55) (args := #[.agg BC]) rfl (by simp only [execOp]; go_simp; first | exact eval_get e1 | exact ⟨rfl, eval_get e1⟩ | exact ⟨eval_get e1, rfl⟩) ((NB.out w1).mono fun e w2 hh => ⟨_, hh.1, rfl, hh.2⟩) (fun v w2 hh => hK _ _ hh.1 hh.2 (Fresh.no _ _ _))
      · intro w1 hb hd K hK
        exact op_val (v := .pointer (some ⟨w1.heap.size, 0, none⟩)) (w' := w1.alloc (.cells (nuP [] 0) 98)) rfl (by kernel_rfl) (hK _ _ (show ∃ b, _ ∧ _ from ⟨_, rfl, Blk.new w1 _ _⟩) (belowD1 _ _) (fun _ => ⟨_, rfl, Nat.le_refl _, by show _ < _; rw [size_al]; exact Nat.lt_succ_self _⟩))
      · intro w1 hb hd K hK
        exact op_val (v := .pointer (some ⟨w1.heap.size, 0, none⟩)) (w' := w1.alloc (.cells (nuP [] 0) 98)) rfl (by kernel_rfl) (hK _ _ (show ∃ b, _ ∧ _ from ⟨_, rfl, Blk.new w1 _ _⟩) (belowD1 _ _) (fun _ => ⟨_, rfl, Nat.le_refl _, by show _ < _; rw [size_al]; exact Nat.lt_succ_self _⟩))
    have hv0 : u 0 = .agg AC := (show u 0 = _ from hsF 0 (by omega) (by omega))
    have hv1 : u 1 = .agg NC := (show u 1 = _ from hsF 1 (by omega) (by omega))
    have hv2 : u 2 = .agg BC := (show u 2 = _ from hsF 2 (by omega) (by omega))
    have hv3 : u 3 = .agg ND := (show u 3 = _ from hsF 3 (by omega) (by omega))
    obtain ⟨b6, hv4, hB6⟩ := (show ∃ b, u 4 = .pointer (some ⟨b, 0, none⟩) ∧ Blk w' b 98 (nuP [] 0) from hsF 4 (by omega) (by omega))
    obtain ⟨b7, hv5, hB7⟩ := (show ∃ b, u 5 = .pointer (some ⟨b, 0, none⟩) ∧ Blk w' b 98 (nuP [] 0) from hsF 5 (by omega) (by omega))
    have hne : b6 ≠ b7 := by
      have := hap 4 5 (by omega) (by omega) (by omega) (by omega) rfl rfl (by omega)
      rw [hv4, hv5] at this
      simpa [blkOf] using this
    have hge : p0 ≤ b6 ∧ p0 ≤ b7 := by
      obtain ⟨x, e1, e2, _⟩ := hold 4 (by omega) (by omega) rfl
      obtain ⟨y, g1, g2, _⟩ := hold 5 (by omega) (by omega) rfl
      rw [hv4] at e1
      rw [hv5] at g1
      have e1 : b6 = x := by simpa [blkOf] using e1
      have g1 : b7 = y := by simpa [blkOf] using g1
      have := HW3.out.size
      omega
    simp only [putRow, hv0, hv1, hv2, hv3, hv4, hv5, Act.put, List.setIfInBounds_toArray, List.set_cons_succ, List.set_cons_zero]
    clear hsF hv0 hv1 hv2 hv3 hv4 hv5 hold hap
    have HW4 := Lib.hid (HW3.out.trans (hbF.mono (by have := HW3.out.size; omega)))
    have s6 := storeAt_row (T := 98) (C := NC) hB6 (by rw [HS.out.2.2.1]; kernel_rfl) (by rw [Z0.out, HS.out.2.2.1]) HO.out.1
    have s7 := storeAt_row (T := 98) (C := ND) (hB7.row_other hne.symm NC) (by rw [HS.out.2.2.2]; kernel_rfl) (by rw [Z0.out, HS.out.2.2.2]) HO.out.2
    have HB6 := Lib.hid (((hB6.row NC).row_other hne ND))
    have HB7 := Lib.hid ((hB7.row_other hne.symm NC).row ND)
    have HW5 := Lib.hid (BelowD.setRow' hge.2 (BelowD.setRow' hge.1 HW4.out NC) ND)
    clear hB6 hB7 hne hge HW4 HW3 hbF HA3 HB3 NA NB
    refine rest_forced 2 (by kernel_rfl) ?_
    simp only [List.drop_succ_cons, List.drop_zero, List.take_succ_cons, List.take_zero]
    go_wp2_with (first
      | refine op_store (p := .pointer (some ⟨b6, 0, none⟩)) (C := .agg NC) 98 (.tmp 6) (.tmp 15) rfl rfl rfl rfl rfl s6 ?_
      | refine op_store (p := .pointer (some ⟨b7, 0, none⟩)) (C := .agg ND) 98 (.tmp 7) (.tmp 17) rfl rfl rfl rfl rfl s7 ?_)
    refine rest_done rfl ?_
    clear s6 s7
    generalize (w'.setRow b6 NC).setRow b7 ND = W5 at *
    have l6 := loadAt_blk (T := 98) HB6.out Tryz.underlying98 rfl (by rw [HS.out.2.2.1]; kernel_rfl)
    have l7 := loadAt_blk (T := 98) HB7.out Tryz.underlying98 rfl (by rw [HS.out.2.2.2]; kernel_rfl)
    rcases qe with _ | _
    · go_upto_region 7 with (first
        | (refine op_load (p := .pointer (some ⟨b6, 0, none⟩)) 98 (.tmp 6) rfl rfl rfl l6 ?_; simp only [Act.put, List.setIfInBounds_toArray, List.set_cons_succ, List.set_cons_zero])
        | (refine op_load (p := .pointer (some ⟨b7, 0, none⟩)) 98 (.tmp 7) rfl rfl rfl l7 ?_; simp only [Act.put, List.setIfInBounds_toArray, List.set_cons_succ, List.set_cons_zero])
        | (refine op_bin .eql 98 98 (.tmp 18) (.tmp 19) rfl rfl rfl rfl (by kernel_rfl) (QE.out _) ?_; simp only [Act.put, List.setIfInBounds_toArray, List.set_cons_succ, List.set_cons_zero]))
      clear l6 l7
      refine rest_begin (by kernel_rfl) ?_
      have HB8 : Hid (Blk W5.drew b6 98 NC) := HB6
      have HB9 : Hid (Blk W5.drew b7 98 ND) := HB7
      have HW6 := Lib.hid HW5.out.drew
      clear HB6 HB7 HW5
      generalize W5.drew = W6 at *
      refine rest_quiet (fun w' => ∃ n, w' = W6.drewN n) 2 (by kernel_rfl) ⟨0, rfl⟩ ?_
      simp only [List.take_succ_cons, List.take_zero, List.drop_zero]
      repeat (quiet_step (fail))
      refine wpQuiet_nil ?_
      rintro wq ⟨nq, rfl⟩
      have HW7 := Lib.hid (belowD_drewN HW6.out nq)
      have SC := HC.out b6 b7 98 (W6.drewN nq) HB8.out HB9.out
      clear HW6 HB8 HB9
      generalize W6.drewN nq = W7 at *
      refine rest_forced 2 (by kernel_rfl) ?_
      go_wp2_with fail
      refine SC.mono ?_
      rintro e w8 ⟨rfl, rfl⟩
      rw [← HD.out]
      go_wp2_with fail
      refine rest_done rfl ?_
      go_wp2_with fail
      go_ret
      exact ⟨rfl, by rw [hp0]; exact HW7.out⟩
    · have HX : Hid (ce = 0) := Lib.hid (by have := EC.out; simpa using this.symm)
      go_wp2_with (first
        | (refine op_load (p := .pointer (some ⟨b6, 0, none⟩)) 98 (.tmp 6) rfl rfl rfl l6 ?_; simp only [Act.put, List.setIfInBounds_toArray, List.set_cons_succ, List.set_cons_zero])
        | (refine op_load (p := .pointer (some ⟨b7, 0, none⟩)) 98 (.tmp 7) rfl rfl rfl l7 ?_; simp only [Act.put, List.setIfInBounds_toArray, List.set_cons_succ, List.set_cons_zero])
        | (refine op_bin .eql 98 98 (.tmp 18) (.tmp 19) rfl rfl rfl rfl (by kernel_rfl) (QE.out _) ?_; simp only [Act.put, List.setIfInBounds_toArray, List.set_cons_succ, List.set_cons_zero]))
      go_ret
      exact ⟨by rw [HX.out]; rfl, by rw [hp0]; exact HW5.out⟩
  · have t1 : (ck != 0) = true := by simp [hc]
    have HX : Hid (ce = ck) := Lib.hid (HK.out hc)
    clear hc HK
    go_wp2_with fail
    go_ret
    exact ⟨by rw [HX.out]; rfl, by rw [hp0]; exact HW3.out⟩
end Go.Proofs.YtpkmibmombpjpaaGreatDoor
set_option linter.unusedSimpArgs false
namespace Go.Proofs.YtpkmibmombpjpaaGreatDoor
open Go Go.RowKit

/-- An entry put into a set. -/
def insE (e : En) : List En → List En
  | [] => [e]
  | a :: r => if cmpE a e < 0 then a :: insE e r else if eqEn a e = true then e :: r else e :: a :: r
def setL (l : List En) : List En := l.foldl (fun s e => insE e s) []
/-- Neighbours that are the same left out. -/
def dedupL : List En → List En
  | a :: b :: r => if eqEn a b = true then dedupL (b :: r) else a :: dedupL (b :: r)
  | l => l
theorem cmp_neg {a b : En} : ¬ cmpE a b < 0 ↔ cmpE b a ≤ 0 := by
  rw [cmp_swap a b]; omega
theorem mem_insE (e x : En) : ∀ l : List En, x ∈ insE e l ↔ x = e ∨ x ∈ l
  | [] => by simp [insE]
  | a :: r => by
    unfold insE
    split
    · rw [List.mem_cons, mem_insE e x r, List.mem_cons]
      constructor
      · rintro (h | h | h) <;> simp [h]
      · rintro (h | h | h) <;> simp [h]
    · split
      · rename_i h
        obtain rfl := (eqEn_iff a e).1 h
        simp
      · simp
theorem setB_cons {a : En} {l : List En} (h : ∀ y, l.head? = some y → cmpE a y < 0) (hl : setB l = true) : setB (a :: l) = true := by
  cases l with
  | nil => rfl
  | cons b r =>
    show (decide (cmpE a b < 0) && setB (b :: r)) = true
    rw [hl, decide_eq_true (h b rfl)]; rfl
theorem setB_uncons {a : En} {l : List En} (h : setB (a :: l) = true) : setB l = true := setB_tail (a :: l) 1 h
theorem cmp_ltr {a b c : En} (h1 : cmpE a b < 0) (h2 : cmpE b c ≤ 0) : cmpE a c < 0 := by
  have h3 := cmp_trans (Int.le_of_lt h1) h2
  rcases Int.lt_or_eq_of_le h3 with h | h
  · exact h
  · obtain rfl := cmp_eq h
    have := cmp_neg.2 h2
    exact absurd h1 this
theorem setB_insE (e : En) : ∀ l : List En, setB l = true → setB (insE e l) = true
  | [], _ => rfl
  | a :: r, h => by
    have hr := setB_uncons h
    unfold insE
    split
    · rename_i h1
      refine setB_cons (fun y hy => ?_) (setB_insE e r hr)
      have hm : y ∈ insE e r := List.mem_of_mem_head? hy
      rcases (mem_insE e y r).1 hm with rfl | hm
      · exact h1
      · exact setB_first a r h y hm
    · rename_i h1
      split
      · rename_i h2
        obtain rfl := (eqEn_iff a e).1 h2
        exact h
      · rename_i h2
        refine setB_cons (fun y hy => ?_) h
        obtain rfl : a = y := by simpa using hy
        have h3 := cmp_neg.1 h1
        rcases Int.lt_or_eq_of_le h3 with h4 | h4
        · exact h4
        · exact absurd ((eqEn_iff a e).2 (cmp_eq h4).symm) h2
theorem setB_fold : ∀ (l s : List En), setB s = true → setB (l.foldl (fun s e => insE e s) s) = true
  | [], _, h => h
  | e :: l, s, h => setB_fold l _ (setB_insE e s h)
theorem mem_fold (x : En) : ∀ (l s : List En), x ∈ l.foldl (fun s e => insE e s) s ↔ x ∈ l ∨ x ∈ s
  | [], s => by simp
  | e :: l, s => by
    show x ∈ l.foldl (fun s e => insE e s) (insE e s) ↔ _
    rw [mem_fold x l, mem_insE, List.mem_cons]
    constructor
    · rintro (h | h | h) <;> simp [h]
    · rintro ((h | h) | h) <;> simp [h]
theorem setB_setL (l : List En) : setB (setL l) = true := setB_fold l [] rfl
theorem mem_setL (x : En) (l : List En) : x ∈ setL l ↔ x ∈ l := by
  unfold setL
  rw [mem_fold]; simp
/-- Two sets that hold the same are the same. -/
theorem set_same : ∀ (l m : List En), setB l = true → setB m = true → (∀ x, x ∈ l ↔ x ∈ m) → l = m
  | [], m, _, _, h => by
    cases m with
    | nil => rfl
    | cons b r => exact absurd ((h b).2 (by simp)) (by simp)
  | a :: l, m, hl, hm, h => by
    cases m with
    | nil => exact absurd ((h a).1 (by simp)) (by simp)
    | cons b m =>
      have hab : a = b := by
        rcases List.mem_cons.1 ((h a).1 (by simp)) with e | h1
        · exact e
        · rcases List.mem_cons.1 ((h b).2 (by simp)) with e | h2
          · exact e.symm
          · have h3 := setB_first b m hm a h1
            have h4 := setB_first a l hl b h2
            have := cmp_swap a b
            omega
      subst hab
      have hself := cmp_self a
      refine congrArg (a :: ·) (set_same l m (setB_uncons hl) (setB_uncons hm) (fun x => ?_))
      constructor
      · intro hx
        rcases List.mem_cons.1 ((h x).1 (by simp [hx])) with rfl | hx2
        · have := setB_first x l hl x hx
          omega
        · exact hx2
      · intro hx
        rcases List.mem_cons.1 ((h x).2 (by simp [hx])) with rfl | hx2
        · have := setB_first x m hm x hx
          omega
        · exact hx2
/-- A list that grows, where neighbours may be the same. -/
def ascB : List En → Bool
  | a :: b :: r => decide (cmpE a b ≤ 0) && ascB (b :: r)
  | _ => true
theorem mem_dedup (x : En) : ∀ l : List En, x ∈ dedupL l ↔ x ∈ l
  | [] => by simp [dedupL]
  | [a] => by simp [dedupL]
  | a :: b :: r => by
    unfold dedupL
    split
    · rename_i h
      obtain rfl := (eqEn_iff a b).1 h
      rw [mem_dedup x (a :: r)]; simp
    · rw [List.mem_cons, mem_dedup x (b :: r)]; simp
theorem dedup_head : ∀ (l : List En), (dedupL l).head? = l.head?
  | [] => rfl
  | [_] => rfl
  | a :: b :: r => by
    unfold dedupL
    split
    · rename_i h
      obtain rfl := (eqEn_iff a b).1 h
      exact dedup_head (a :: r)
    · rfl
theorem setB_dedup : ∀ l : List En, ascB l = true → setB (dedupL l) = true
  | [], _ => rfl
  | [_], _ => rfl
  | a :: b :: r, h => by
    have h : (decide (cmpE a b ≤ 0) && ascB (b :: r)) = true := h
    rw [Bool.and_eq_true] at h
    have hr := setB_dedup (b :: r) h.2
    unfold dedupL
    split
    · exact hr
    · rename_i hne
      refine setB_cons (fun y hy => ?_) hr
      rw [dedup_head] at hy
      obtain rfl : b = y := by simpa using hy
      have h1 := of_decide_eq_true h.1
      rcases Int.lt_or_eq_of_le h1 with h2 | h2
      · exact h2
      · exact absurd ((eqEn_iff a b).2 (cmp_eq h2)) hne
theorem dedup_set {l m : List En} (h : ascB l = true) (hm : ∀ x, x ∈ l ↔ x ∈ m) : dedupL l = setL m :=
  set_same _ _ (setB_dedup l h) (setB_setL m) (fun x => by rw [mem_dedup, mem_setL, hm])
theorem dedup_snoc : ∀ (l : List En) (a b : En), dedupL (l ++ [a, b]) = if eqEn a b = true then dedupL (l ++ [a]) else dedupL (l ++ [a]) ++ [b]
  | [], a, b => by
    show dedupL [a, b] = _
    by_cases h : eqEn a b = true
    · obtain rfl := (eqEn_iff a b).1 h
      simp [dedupL, h]
    · simp [dedupL, h]
  | [x], a, b => by
    have := dedup_snoc [] a b
    show dedupL (x :: a :: [b]) = if eqEn a b = true then dedupL (x :: [a]) else dedupL (x :: [a]) ++ [b]
    show (if eqEn x a = true then dedupL (a :: [b]) else x :: dedupL (a :: [b])) = if eqEn a b = true then (if eqEn x a = true then dedupL [a] else x :: dedupL [a]) else (if eqEn x a = true then dedupL [a] else x :: dedupL [a]) ++ [b]
    have h2 : dedupL (a :: [b]) = if eqEn a b = true then dedupL [a] else dedupL [a] ++ [b] := this
    rw [h2]
    split <;> split <;> rfl
  | x :: y :: l, a, b => by
    have := dedup_snoc (y :: l) a b
    have h2 : dedupL (y :: (l ++ [a, b])) = if eqEn a b = true then dedupL (y :: (l ++ [a])) else dedupL (y :: (l ++ [a])) ++ [b] := this
    show (if eqEn x y = true then dedupL (y :: (l ++ [a, b])) else x :: dedupL (y :: (l ++ [a, b]))) = if eqEn a b = true then (if eqEn x y = true then dedupL (y :: (l ++ [a])) else x :: dedupL (y :: (l ++ [a]))) else (if eqEn x y = true then dedupL (y :: (l ++ [a])) else x :: dedupL (y :: (l ++ [a]))) ++ [b]
    rw [h2]
    split <;> split <;> rfl
theorem dedup_step {l : List En} {k : Nat} {a b : En} (ha : l[k]? = some a) (hb : l[k + 1]? = some b) : dedupL (l.take (k + 2)) = if eqEn a b = true then dedupL (l.take (k + 1)) else dedupL (l.take (k + 1)) ++ [b] := by
  rw [take_more hb, take_more ha, List.append_assoc]
  exact dedup_snoc _ a b
theorem dedup_len : ∀ l : List En, (dedupL l).length ≤ l.length
  | [] => Nat.le_refl _
  | [_] => Nat.le_refl _
  | a :: b :: r => by
    have := dedup_len (b :: r)
    unfold dedupL
    split
    · simp only [List.length_cons] at this ⊢; omega
    · simp only [List.length_cons] at this ⊢; omega
theorem setL_len (l : List En) : (setL l).length ≤ l.length := by
  unfold setL
  suffices h : ∀ (l s : List En), (l.foldl (fun s e => insE e s) s).length ≤ s.length + l.length by simpa using h l []
  intro l
  induction l with
  | nil => intro s; simp
  | cons e l ih =>
    intro s
    have h1 : ∀ s : List En, (insE e s).length ≤ s.length + 1 := by
      intro s
      induction s with
      | nil => simp [insE]
      | cons a r ih2 =>
        unfold insE
        split
        · simp only [List.length_cons]; omega
        · split <;> simp
    have := ih (insE e s)
    have := h1 s
    simp only [List.foldl_cons, List.length_cons]
    omega
theorem setL_in {l : List En} (h : ∀ e ∈ l, e.In) : ∀ e ∈ setL l, e.In := fun e he => h e ((mem_setL e l).1 he)
/-- A set is the set of its entries. -/
theorem setL_self {l : List En} (h : setB l = true) : setL l = l := set_same _ _ (setB_setL l) h (fun x => mem_setL x l)
theorem setL_congr {l m : List En} (h : ∀ x, x ∈ l ↔ x ∈ m) : setL l = setL m := set_same _ _ (setB_setL l) (setB_setL m) (fun x => by rw [mem_setL, mem_setL, h])
end Go.Proofs.YtpkmibmombpjpaaGreatDoor
set_option linter.unusedSimpArgs false
namespace Go.Proofs.YtpkmibmombpjpaaGreatDoor
open Go Go.RowKit

/-- A block that begins with entries. -/
def EB (W : World) (g : Nat) (M : List En) (T : List Value) : Prop := Blk W g 34 (flat enC M ++ T).toArray
theorem EB.lt {W : World} {g : Nat} {M : List En} {T : List Value} (h : EB W g M T) : g < W.heap.size := Blk.lt h
theorem EB.keep {W W' : World} {g : Nat} {M : List En} {T : List Value} (h : EB W g M T) (hb : Below W.heap.size W W') : EB W' g M T := Blk.keep h hb h.lt
theorem EB.drewN {W : World} {g : Nat} {M : List En} {T : List Value} (h : EB W g M T) (n : Nat) : EB (W.drewN n) g M T := h
theorem EB.get {W : World} {g i : Nat} {M : List En} {T : List Value} {e : En} (h : EB W g M T) (hi : M[i]? = some e) (j : Nat) (v : Value) (hj : (enC e)[j]? = some v) : W.cell? ⟨g, i * 33 + j, none⟩ = some v := by
  refine Blk.cell h ?_
  have := flat_at (enc := enC) (sz := 33) enC_size M i e hi j v hj
  rw [List.getElem?_toArray, List.getElem?_append_left (List.getElem?_eq_some_iff.1 this).1]
  exact this
theorem EB.load {W : World} {g i o : Nat} {M : List En} {T : List Value} {e : En} (h : EB W g M T) (hi : M[i]? = some e) (ho : o = i * 33) : (Instr.loadAt 34 (.pointer (some ⟨g, o, none⟩))).run Tryz.prog W = .ok (.agg (enC e)) W := by
  subst ho
  exact loadAt_run Tryz.underlying34 rfl (by rw [enC_size]; kernel_rfl) (fun j v hj => h.get hi j v hj)
theorem EB.ls {W : World} {g c : Nat} {M : List En} {T : List Value} (h : EB W g M T) (hc : M.length ≤ c) : ES W (.slice (some ⟨g, 0, none⟩) M.length c) M :=
  .some_ g 0 c M h.lt hc (fun i e hi j v hj => by rw [Nat.zero_add]; exact h.get hi j v hj)
theorem putC_mid : ∀ (vs p x q : List Value), x.length = vs.length → putC (p ++ x ++ q).toArray p.length vs = (p ++ vs ++ q).toArray
  | [], p, x, q, h => by
    obtain rfl : x = [] := List.length_eq_zero_iff.1 h
    rfl
  | v :: vs, p, [], q, h => by simp at h
  | v :: vs, p, y :: x, q, h => by
    unfold putC
    have e : ((p ++ y :: x ++ q).toArray).setIfInBounds p.length v = ((p ++ [v]) ++ x ++ q).toArray := by
      rw [List.setIfInBounds_toArray]
      congr 1
      simp [List.set_append_right]
    rw [e, show p.length + 1 = (p ++ [v]).length by simp, putC_mid vs (p ++ [v]) x q (by simpa using h)]
    simp
theorem flat_split {M : List En} {i : Nat} {e : En} (hi : M[i]? = some e) : flat enC M = flat enC (M.take i) ++ (enC e).toList ++ flat enC (M.drop (i + 1)) := by
  have hlt := (List.getElem?_eq_some_iff.1 hi).1
  have h : M = M.take i ++ e :: M.drop (i + 1) := by
    conv => lhs; rw [← List.take_append_drop i M, List.drop_eq_getElem_cons hlt, (List.getElem?_eq_some_iff.1 hi).2]
  conv => lhs; rw [h]
  rw [flat_app]
  simp [flat]
theorem flat_l (M : List En) : (flat enC M).length = M.length * 33 := flat_len (enc := enC) (sz := 33) enC_size M
theorem enC_len (e : En) : (enC e).toList.length = 33 := by rw [Array.length_toList, enC_size]
/-- An entry put into the block. -/
theorem EB.put {W : World} {g i : Nat} {M : List En} {T : List Value} (h : EB W g M T) (hi : i < M.length) (e : En) : EB (W.setCells g (i * 33) (enC e).toList) g (M.set i e) T := by
  obtain ⟨a, ha⟩ : ∃ a, M[i]? = some a := ⟨_, List.getElem?_eq_getElem hi⟩
  have hlen : (flat enC (M.take i)).length = i * 33 := by rw [flat_l, List.length_take, Nat.min_eq_left (by omega)]
  have h1 := Blk.putC (enC e).toList (i * 33) W _ h
  have h2 := flat_split ha
  have h3 : (M.set i e)[i]? = some e := by rw [List.getElem?_set_self hi]
  have h4 := flat_split h3
  rw [List.take_set_of_le (Nat.le_refl _), List.drop_set_of_lt (by omega)] at h4
  unfold EB
  rw [h4]
  rw [h2, List.append_assoc, ← hlen, putC_mid _ _ _ _ (by rw [enC_len, enC_len]), hlen] at h1
  rw [List.append_assoc (flat enC (M.take i) ++ (enC e).toList)]
  exact h1
theorem enC_one' (e : En) : (enC e).all (·.oneCell') = true := enC_one e
theorem EB.store {W : World} {g i o : Nat} {M : List En} {T : List Value} (h : EB W g M T) (hi : i < M.length) (ho : o = i * 33) (e : En) : (Instr.storeAt 34 (.pointer (some ⟨g, o, none⟩)) (.agg (enC e))).run Tryz.prog W = .ok () (W.setCells g (i * 33) (enC e).toList) := by
  subst ho
  obtain ⟨a, ha⟩ : ∃ a, M[i]? = some a := ⟨_, List.getElem?_eq_getElem hi⟩
  refine storeAt_run (by rw [enC_size]; kernel_rfl) (fun j hj => ?_) (fun j _ => h.free _) (fun v hv => ?_)
  · rw [enC_size] at hj
    obtain ⟨v, hv⟩ : ∃ v, (enC a)[j]? = some v := ⟨_, Array.getElem?_eq_getElem (by rw [enC_size]; exact hj)⟩
    rw [h.get ha j v hv]; rfl
  · have := enC_one e
    rw [Array.all_eq_true_iff_forall_mem] at this
    exact this v (by simpa using hv)
/-- The rest of a block overwritten. -/
theorem EB.over {W : World} {g k : Nat} {M : List En} {T : List Value} (h : EB W g M T) (hk : k ≤ M.length) (vs : List Value) (hv : vs.length = (M.length - k) * 33) : EB (W.setCells g (k * 33) vs) g (M.take k) (vs ++ T) := by
  have hlen : (flat enC (M.take k)).length = k * 33 := by rw [flat_l, List.length_take, Nat.min_eq_left hk]
  have h1 := Blk.putC vs (k * 33) W _ h
  have h2 : flat enC M = flat enC (M.take k) ++ flat enC (M.drop k) := by rw [← flat_app, List.take_append_drop]
  unfold EB
  rw [h2, ← hlen, putC_mid _ _ _ _ (by rw [flat_l, List.length_drop, hv]), hlen] at h1
  rw [← List.append_assoc]
  exact h1
/-- A part of such a slice. -/
theorem slice_from_gen {T : TypeId} {sz : Nat} (hu : Tryz.prog.underlying T = some (.slice (Tryz.prog.elem T))) (hs : ∀ W, (sizeOf (Tryz.prog.elem T)).run Tryz.prog W = .ok sz W) {g n c k : Nat} (hk : k ≤ n) (hn : n ≤ c) (hkc : k < c) (W : World) : (Instr.sliceAt T (.slice (some ⟨g, 0, none⟩) n c) (some (.int .i64 (k : Int))) none none).run Tryz.prog W = .ok (.slice (some ⟨g, k * sz, none⟩) (n - k) (c - k)) W := by
  have g1 : (0 : Int) ≤ (k : Int) ∧ (k : Int) ≤ (n : Int) := by omega
  rw [run_sliceAt_slice _ _ _ _ _ _ hu, run_slice_any _ _ _ _ _ hu]
  simp only [Instr.sliceBounds, Sem.run_bind, Sem.run_pure, run_sliceBound_if, g1, and_self, if_true, Int.toNat_natCast, Result.andThen_ok, hs, sliced]
  have h3 : (0 : Int) ≤ (n : Int) ∧ (n : Int) ≤ (c : Int) := by omega
  rw [if_neg (by omega : ¬ c = k)]
  simp [add_at]
theorem slice_upto_gen {T : TypeId} {sz : Nat} (hu : Tryz.prog.underlying T = some (.slice (Tryz.prog.elem T))) (hs : ∀ W, (sizeOf (Tryz.prog.elem T)).run Tryz.prog W = .ok sz W) {g n c k : Nat} (hk : k ≤ c) (W : World) : (Instr.sliceAt T (.slice (some ⟨g, 0, none⟩) n c) none (some (.int .i64 (k : Int))) none).run Tryz.prog W = .ok (.slice (some ⟨g, 0, none⟩) k c) W := by
  have g2 : (0 : Int) ≤ (k : Int) ∧ (k : Int) ≤ (c : Int) := by omega
  rw [run_sliceAt_slice _ _ _ _ _ _ hu, run_slice_h _ _ _ _ _ hu _ _ g2.1 g2.2]
  simp only [hs, Result.andThen_ok, sliced, Int.toNat_natCast]
  split <;> simp [Addr.add]
/-- A part of such a slice. -/
theorem slice_from {g n c k : Nat} (hk : k ≤ n) (hn : n ≤ c) (hkc : k < c) (W : World) : (Instr.sliceAt 40 (.slice (some ⟨g, 0, none⟩) n c) (some (.int .i64 (k : Int))) none none).run Tryz.prog W = .ok (.slice (some ⟨g, k * 33, none⟩) (n - k) (c - k)) W :=
  slice_from_gen (T := 40) (sz := 33) (by kernel_rfl) (fun W => by kernel_rfl) hk hn hkc W
theorem slice_upto {g n c k : Nat} (hk : k ≤ c) (W : World) : (Instr.sliceAt 40 (.slice (some ⟨g, 0, none⟩) n c) none (some (.int .i64 (k : Int))) none).run Tryz.prog W = .ok (.slice (some ⟨g, 0, none⟩) k c) W :=
  slice_upto_gen (T := 40) (sz := 33) (by kernel_rfl) (fun W => by kernel_rfl) hk W
/-- clear of the rest of the entries. -/
theorem clear_run {W : World} {g k n c : Nat} {M : List En} {T : List Value} (h : EB W g M T) (hn : M.length = n) (hk : k < n) : ∃ vs : List Value, vs.length = (n - k) * 33 ∧ ∀ ty, (Builtin.clear_ #[40] ty #[.slice (some ⟨g, k * 33, none⟩) (n - k) c]).run Tryz.prog W = .ok (.tuple #[]) (W.setCells g (k * 33) vs) := by
  have hu : Tryz.prog.underlying 40 = some (.slice 34) := Tryz.underlying40
  have hz : ∀ W, (zeroValue 34).run Tryz.prog W = .ok (.agg (enC zE)) W := fun W => by rw [zE_lit]; kernel_rfl
  refine ⟨(Builtin.zeroCells (enC zE) (n - k)).toList, by rw [Array.length_toList, size_zeroCells, enC_size], fun ty => ?_⟩
  obtain ⟨m, hm⟩ : ∃ m, n - k = m + 1 := ⟨n - k - 1, by omega⟩
  have hst := run_storeCells_cells (P := Tryz.prog) g (k * 33) (Builtin.zeroCells (enC zE) (m + 1)).toList 0 W (fun j hj => by
    rw [Array.length_toList, size_zeroCells, enC_size] at hj
    obtain ⟨a, ha⟩ : ∃ a, M[k + j / 33]? = some a := ⟨_, List.getElem?_eq_getElem (by omega)⟩
    obtain ⟨v, hv⟩ : ∃ v, (enC a)[j % 33]? = some v := ⟨_, Array.getElem?_eq_getElem (by rw [enC_size]; omega)⟩
    have := h.get ha (j % 33) v hv
    rw [show (k + j / 33) * 33 + j % 33 = k * 33 + 0 + j by omega] at this
    rw [this]; rfl) (fun j _ => h.free _) (fun v hv => by
    rw [Array.mem_toList_iff] at hv
    unfold Builtin.zeroCells at hv
    obtain ⟨i, _, rfl⟩ := Array.mem_map.1 hv
    have h1 := enC_one zE
    rw [Array.all_eq_true_iff_forall_mem] at h1
    have h2 : i % (enC zE).size < (enC zE).size := Nat.mod_lt _ (by rw [enC_size]; omega)
    rw [getElem!_pos (enC zE) (i % (enC zE).size) h2]
    exact h1 _ (Array.getElem_mem h2))
  simp only [Nat.add_zero] at hst
  rw [hm]
  simp [Builtin.clear_, run_underlying hu, hz, Value.cells, hst]
theorem eqEn_comm (a b : En) : eqEn a b = eqEn b a := by
  rw [Bool.eq_iff_iff, eqEn_iff, eqEn_iff]
  exact eq_comm
theorem drop_put {M' M : List En} {i k : Nat} {e : En} (h : M'.drop k = M.drop k) (hi : i < k) : (M'.set i e).drop k = M.drop k := by
  rw [List.drop_set_of_lt hi]; exact h
theorem drop_get {M' M : List En} {j k : Nat} (h : M'.drop k = M.drop k) (hk : k ≤ j) : M'[j]? = M[j]? := by
  have h1 : (M'.drop k)[j - k]? = (M.drop k)[j - k]? := by rw [h]
  rw [List.getElem?_drop, List.getElem?_drop, show k + (j - k) = j by omega] at h1
  exact h1
theorem drop_one {M' M : List En} {k : Nat} (h : M'.drop k = M.drop k) : M'.drop (k + 1) = M.drop (k + 1) := by
  rw [← List.drop_drop, h, List.drop_drop]
theorem take_put {M : List En} {i : Nat} {e : En} (hi : i < M.length) : (M.set i e).take (i + 1) = M.take i ++ [e] := by
  rw [take_more (List.getElem?_set_self hi), List.take_set_of_le (Nat.le_refl _)]
/-- What Compact leaves. -/
structure CptR (B g c L : Nat) (D : List En) (w w' : World) : Prop where
  ex : ∃ T, EB w' g D T ∧ D.length * 33 + T.length = L
  below : Below B w w'
set_option maxRecDepth 100000 in
set_option maxHeartbeats 8000000 in
theorem compact_any (B g c : Nat) (M : List En) (T : List Value) (hin : ∀ e ∈ M, e.In) (hl : M.length ≤ 1000000) (hc : M.length ≤ c) (hB : B ≤ g) (w : World) (h : EB w g M T) :
    Calls Tryz.prog 39 #[.slice (some ⟨g, 0, none⟩) M.length c] w (fun r w' => r = .returned (.slice (some ⟨g, 0, none⟩) (dedupL M).length c) ∧ CptR B g c (M.length * 33 + T.length) (dedupL M) w w') := by
  obtain ⟨n, hn⟩ : ∃ n, M.length = n := ⟨_, rfl⟩
  have HIN := Lib.hid hin
  have H0 := Lib.hid h
  have HN := Lib.hid hn
  rw [hn] at hl hc ⊢
  clear hin h hn
  go_enter Tryz.func39, Tryz.ntmps39
  by_cases h2 : n < 2
  · have u0 : decide ((n : Int) < 2) = true := decide_eq_true (by omega)
    have HD : Hid (dedupL M = M) := Lib.hid (by
      have hn := HN.out
      match M, hn with
      | [], _ => rfl
      | [_], _ => rfl
      | _ :: _ :: _, hn => simp at hn; omega)
    go_wp2_with fail
    go_ret
    rw [HD.out, HN.out]
    exact ⟨rfl, ⟨⟨T, H0.out, by rw [HN.out]⟩, Below.refl _ _⟩⟩
  · have u0 : decide ((n : Int) < 2) = false := decide_eq_false (by omega)
    go_wp2_with fail
    go_loopw [3] (fun s3 wr => ∃ k : Nat, k + 1 ≤ n ∧ s3 = .int .i64 ((k : Int) + 1) ∧ Hid (dedupL (M.take (k + 1)) = M.take (k + 1)) ∧ Hid (EB wr g M T) ∧ Hid (Below B w wr)) (fun s3 _ => n - (intOf s3).toNat)
    case atStart => exact ⟨0, by omega, by simp, Lib.hid (by cases M with | nil => rfl | cons a r => rfl), H0, Lib.hid (Below.refl _ _)⟩
    case round =>
      clear H0
      obtain ⟨k, hk, rfl, HD, HE, HW⟩ := hrel
      by_cases hlt : k + 1 < n
      · have u1 : decide ((k : Int) + 1 < (n : Int)) = true := decide_eq_true (by omega)
        obtain ⟨a, ha⟩ : ∃ a, M[k]? = some a := ⟨_, List.getElem?_eq_getElem (by rw [HN.out]; omega)⟩
        obtain ⟨b, hb⟩ : ∃ b, M[k + 1]? = some b := ⟨_, List.getElem?_eq_getElem (by rw [HN.out]; omega)⟩
        have ain := HIN.out a (List.mem_of_getElem? ha)
        have bin := HIN.out b (List.mem_of_getElem? hb)
        have EQ := eql_deep (eq_en b a bin ain)
        have HST := Lib.hid (dedup_step ha hb)
        have HK := Lib.hid (And.intro hk hlt)
        have HAB := Lib.hid (And.intro ha hb)
        have e1 : IntKind.i64.wrap (k : Int) = (k : Int) := IntWalk.i64_in _ (by omega)
        have e2 : ((k : Int) + 1).toNat = k + 1 := by omega
        have e3 : IntKind.i64.wrap ((k : Int) + 1 + 1) = (k : Int) + 1 + 1 := IntWalk.i64_in _ (by omega)
        have j0 : (0 : Int) ≤ (k : Int) := by omega
        have j1 : (k : Int) < (n : Int) := by omega
        have j2 : (0 : Int) ≤ (k : Int) + 1 := by omega
        have j3 : (k : Int) + 1 < (n : Int) := by omega
        have j4 : ¬ (n : Int) ≤ (k : Int) := by omega
        have j5 : ¬ (n : Int) ≤ (k : Int) + 1 := by omega
        have j6 : ¬ (k : Int) + 1 < 0 := by omega
        have j7 : ¬ n ≤ k := by omega
        have j8 : ¬ n ≤ k + 1 := by omega
        have lo1 : ∀ W, EB W g M T → (Instr.loadAt 34 (.pointer (some ⟨g, (k + 1) * 33, none⟩))).run Tryz.prog W = .ok (.agg (enC b)) W := fun W h => h.load hb rfl
        have lo2 : ∀ W, EB W g M T → (Instr.loadAt 34 (.pointer (some ⟨g, k * 33, none⟩))).run Tryz.prog W = .ok (.agg (enC a)) W := fun W h => h.load ha rfl
        obtain ⟨q, hq⟩ : ∃ q, eqEn b a = q := ⟨_, rfl⟩
        have HQ := Lib.hid hq
        rw [hq] at EQ
        clear ha hb ain bin hk hlt hq h2
        go_upto_region 6 with fail
        refine wp_region_quiet_lit (by kernel_rfl) (by kernel_rfl) ?_
        iterate 3 (quiet_step (fail))
        refine q_load (p := .pointer (some ⟨g, (k + 1) * 33, none⟩)) (C := .agg (enC b)) 34 (.tmp 18) rfl rfl (by simp [Act.eval, Act.put]) (fun W h => by obtain ⟨n, rfl⟩ := h; exact lo1 _ (HE.out.drewN n)) ?_
        iterate 4 (quiet_step (fail))
        refine q_load (p := .pointer (some ⟨g, k * 33, none⟩)) (C := .agg (enC a)) 34 (.tmp 23) rfl rfl (by simp [Act.eval, Act.put]) (fun W h => by obtain ⟨n, rfl⟩ := h; exact lo2 _ (HE.out.drewN n)) ?_
        refine q_bin (X := enC b) (Y := enC a) .eql 34 _ (.tmp 19) (.tmp 24) rfl rfl rfl rfl (by kernel_rfl) (fun W => EQ W) ?_
        refine wpQuiet_nil ?_
        rintro wq ⟨nq, rfl⟩
        have HW2 := Lib.hid (below_drewN HW.out nq)
        have HE2 := Lib.hid (HE.out.drewN nq)
        clear lo1 lo2 EQ HW HE u1 e1
        generalize wr.drewN nq = W2 at *
        simp only [Act.put, List.setIfInBounds_toArray, List.set_cons_succ, List.set_cons_zero]
        rcases q with _ | _
        · have HX : Hid (dedupL (M.take (k + 1 + 1)) = M.take (k + 1 + 1)) := Lib.hid (by
            rw [HST.out, if_neg (by rw [eqEn_comm, HQ.out]; simp), HD.out, ← take_more HAB.out.2])
          go_wp2_with fail
          go_roundw
          case rel => exact ⟨k + 1, HK.out.2, by simp, HX, HE2, HW2⟩
          case measure => have := HK.out.2; simp only [intOf]; omega
        · have HX : Hid (dedupL (M.take (k + 1 + 1)) = M.take (k + 1)) := Lib.hid (by
            rw [HST.out, if_pos (by rw [eqEn_comm, HQ.out]), HD.out])
          obtain ⟨m, hm⟩ : ∃ m, n - (k + 1) = m := ⟨_, rfl⟩
          obtain ⟨c2, hc2⟩ : ∃ c2, c - (k + 1) = c2 := ⟨_, rfl⟩
          have sl1 := fun W => slice_from (g := g) (n := n) (c := c) (k := k + 1) (Nat.le_of_lt HK.out.2) hc (Nat.lt_of_lt_of_le HK.out.2 hc) W
          rw [show ((k + 1 : Nat) : Int) = (k : Int) + 1 by omega, hm, hc2] at sl1
          have hm1 : 1 ≤ m := by have := HK.out.2; omega
          have hm2 : k + 1 + m = n := by have := HK.out.2; omega
          have HM := Lib.hid (And.intro hm1 hm2)
          have HL := Lib.hid (And.intro hl hc)
          clear hm hc2 HST HK HAB e2 e3 j0 j1 j2 j3 j4 j5 j6 j7 j8 hm1 hm2 HQ HD
          go_wp2_with fail
          clear sl1
          go_loopw [3, 5] (fun s3 s5 wr => ∃ (j i : Nat) (M' : List En), s3 = .int .i64 (j : Int) ∧ s5 = .int .i64 ((i : Int) + 1) ∧ i + 1 ≤ m ∧ k + 1 ≤ j ∧ j ≤ k + 1 + i ∧ M'.length = n ∧ Hid (M'.drop (k + 1 + i) = M.drop (k + 1 + i)) ∧ Hid (M'.take j = dedupL (M.take (k + 1 + i + 1))) ∧ Hid (EB wr g M' T) ∧ Hid (Below B w wr)) (fun _ s5 _ => m - (intOf s5).toNat)
          case atStart => exact ⟨k + 1, 0, M, by simp, by simp, HM.out.1, Nat.le_refl _, Nat.le_refl _, HN.out, Lib.hid rfl, Lib.hid HX.out.symm, HE2, HW2⟩
          case round =>
            clear HE2 HW2
            obtain ⟨j, i, M', rfl, rfl, hi, hj1, hj2, hml, HR, HT, HE, HW⟩ := hrel
            have hm2 := HM.out.2
            have hl := HL.out.1
            by_cases hlt : i + 1 < m
            · have u1 : decide ((i : Int) + 1 < (m : Int)) = true := decide_eq_true (by omega)
              obtain ⟨a, ha⟩ : ∃ a, M[k + 1 + i]? = some a := ⟨_, List.getElem?_eq_getElem (by rw [HN.out]; omega)⟩
              obtain ⟨b, hb⟩ : ∃ b, M[k + 1 + i + 1]? = some b := ⟨_, List.getElem?_eq_getElem (by rw [HN.out]; omega)⟩
              have ain := HIN.out a (List.mem_of_getElem? ha)
              have bin := HIN.out b (List.mem_of_getElem? hb)
              have NE := neq_deep (eq_en b a bin ain)
              have HST := Lib.hid (dedup_step ha hb)
              have ha' : M'[k + 1 + i]? = some a := by rw [drop_get HR.out (Nat.le_refl _)]; exact ha
              have hb' : M'[k + 1 + i + 1]? = some b := by rw [drop_get HR.out (by omega)]; exact hb
              have HAB := Lib.hid (And.intro ha' hb')
              have HJ := Lib.hid (And.intro hi (And.intro hj1 (And.intro hj2 (And.intro hml hlt))))
              have e1 : IntKind.i64.wrap (i : Int) = (i : Int) := IntWalk.i64_in _ (by omega)
              have e2 : ((i : Int) + 1).toNat = i + 1 := by omega
              have e3 : IntKind.i64.wrap ((i : Int) + 1 + 1) = (i : Int) + 1 + 1 := IntWalk.i64_in _ (by omega)
              have e4 : IntKind.i64.wrap ((j : Int) + 1) = (j : Int) + 1 := IntWalk.i64_in _ (by omega)
              have j0 : (0 : Int) ≤ (i : Int) := by omega
              have j1 : (i : Int) < (m : Int) := by omega
              have j2 : (0 : Int) ≤ (i : Int) + 1 := by omega
              have j3 : (i : Int) + 1 < (m : Int) := by omega
              have j4 : ¬ (m : Int) ≤ (i : Int) := by omega
              have j5 : ¬ (m : Int) ≤ (i : Int) + 1 := by omega
              have j6 : ¬ (i : Int) + 1 < 0 := by omega
              have j7 : ¬ m ≤ i := by omega
              have j8 : ¬ m ≤ i + 1 := by omega
              have l0 : (0 : Int) ≤ (j : Int) := by omega
              have l1 : (j : Int) < (n : Int) := by omega
              have l2 : ¬ (n : Int) ≤ (j : Int) := by omega
              have l3 : ¬ n ≤ j := by omega
              have lo1 : ∀ W, EB W g M' T → (Instr.loadAt 34 (.pointer (some ⟨g, (k + 1) * 33 + (i + 1) * 33, none⟩))).run Tryz.prog W = .ok (.agg (enC b)) W := fun W h => h.load hb' (by omega)
              have lo2 : ∀ W, EB W g M' T → (Instr.loadAt 34 (.pointer (some ⟨g, (k + 1) * 33 + i * 33, none⟩))).run Tryz.prog W = .ok (.agg (enC a)) W := fun W h => h.load ha' (by omega)
              obtain ⟨q, hq⟩ : ∃ q, eqEn b a = q := ⟨_, rfl⟩
              have HQ := Lib.hid hq
              rw [hq] at NE
              clear ha hb ha' hb' ain bin hi hj1 hj2 hml hlt hq
              go_upto_region 11 with fail
              refine wp_region_quiet_lit (by kernel_rfl) (by kernel_rfl) ?_
              iterate 3 (quiet_step (fail))
              refine q_load (p := .pointer (some ⟨g, (k + 1) * 33 + (i + 1) * 33, none⟩)) (C := .agg (enC b)) 34 (.tmp 37) rfl rfl rfl (fun W h => by obtain ⟨n, rfl⟩ := h; exact lo1 _ (HE.out.drewN n)) ?_
              iterate 4 (quiet_step (fail))
              refine q_load (p := .pointer (some ⟨g, (k + 1) * 33 + i * 33, none⟩)) (C := .agg (enC a)) 34 (.tmp 42) rfl rfl rfl (fun W h => by obtain ⟨n, rfl⟩ := h; exact lo2 _ (HE.out.drewN n)) ?_
              refine q_bin (X := enC b) (Y := enC a) .neq 34 _ (.tmp 38) (.tmp 43) rfl rfl rfl rfl (by kernel_rfl) (fun W => NE W) ?_
              refine wpQuiet_nil ?_
              rintro wq ⟨nq, rfl⟩
              have HW2 := Lib.hid (below_drewN HW.out nq)
              have HE2 := Lib.hid (HE.out.drewN nq)
              clear lo2 NE HW HE u1 e1
              generalize wr.drewN nq = W2 at *
              simp only [Act.put, List.setIfInBounds_toArray, List.set_cons_succ, List.set_cons_zero]
              rcases q with _ | _
              · have lb := lo1 W2 HE2.out
                have st := HE2.out.store (i := j) (o := j * 33) (by rw [HJ.out.2.2.2.1]; omega) rfl b
                have HE3 := Lib.hid (HE2.out.put (i := j) (by rw [HJ.out.2.2.2.1]; omega) b)
                have HW3 := Lib.hid (Below.setCells' hB (enC b).toList (j * 33) W2 HW2.out)
                have HX3 : Hid ((M'.set j b).take (j + 1) = dedupL (M.take (k + 1 + (i + 1) + 1))) := Lib.hid (by
                  rw [take_put (by rw [HJ.out.2.2.2.1]; omega), HT.out, show k + 1 + (i + 1) + 1 = k + 1 + i + 2 by omega, HST.out, if_neg (by rw [eqEn_comm, HQ.out]; simp)])
                have HR3 : Hid ((M'.set j b).drop (k + 1 + (i + 1)) = M.drop (k + 1 + (i + 1))) := Lib.hid (drop_put (by rw [show k + 1 + (i + 1) = k + 1 + i + 1 by omega]; exact drop_one HR.out) (by have := HJ.out.2.2.1; omega))
                clear lo1
                go_wp2_with (first
                  | refine op_load (p := .pointer (some ⟨g, (k + 1) * 33 + (i + 1) * 33, none⟩)) (C := .agg (enC b)) 34 (.tmp 49) rfl rfl rfl lb ?_
                  | refine op_store (p := .pointer (some ⟨g, j * 33, none⟩)) (C := .agg (enC b)) 34 (.tmp 51) (.tmp 50) rfl rfl rfl rfl rfl st ?_)
                go_roundw
                case rel => exact ⟨j + 1, i + 1, M'.set j b, by simp, by simp, HJ.out.2.2.2.2, by have := HJ.out.2.1; omega, by have := HJ.out.2.2.1; omega, by rw [List.length_set]; exact HJ.out.2.2.2.1, HR3, HX3, HE3, HW3⟩
                case measure => have := HJ.out.2.2.2.2; simp only [intOf]; omega
              · have HX3 : Hid (M'.take j = dedupL (M.take (k + 1 + (i + 1) + 1))) := Lib.hid (by
                  rw [HT.out, show k + 1 + (i + 1) + 1 = k + 1 + i + 2 by omega, HST.out, if_pos (by rw [eqEn_comm, HQ.out])])
                have HR3 : Hid (M'.drop (k + 1 + (i + 1)) = M.drop (k + 1 + (i + 1))) := Lib.hid (by rw [show k + 1 + (i + 1) = k + 1 + i + 1 by omega]; exact drop_one HR.out)
                clear lo1
                go_wp2_with fail
                go_roundw
                case rel => exact ⟨j, i + 1, M', by simp, by simp, HJ.out.2.2.2.2, by have := HJ.out.2.1; omega, by have := HJ.out.2.2.1; omega, HJ.out.2.2.2.1, HR3, HX3, HE2, HW2⟩
                case measure => have := HJ.out.2.2.2.2; simp only [intOf]; omega
            · obtain rfl : m = i + 1 := by omega
              have u1 : decide ((i : Int) + 1 < ((i + 1 : Nat) : Int)) = false := decide_eq_false (by omega)
              have hc := HL.out.2
              have hjn : j < n := by omega
              have sl2 := fun W => slice_from (g := g) (n := n) (c := c) (k := j) (Nat.le_of_lt hjn) hc (by omega) W
              have sl3 := fun W => slice_upto (g := g) (n := n) (c := c) (k := j) (by omega) W
              obtain ⟨vs, hvs, cl⟩ := clear_run (c := c - j) HE.out hml hjn
              have HD : Hid (M'.take j = dedupL M) := Lib.hid (by
                rw [HT.out, show k + 1 + i + 1 = M.length by rw [HN.out]; omega, List.take_length])
              have HF := Lib.hid (HE.out.over (k := j) (by omega) vs (by rw [hml]; exact hvs))
              have HB2 := Lib.hid (Below.setCells' hB vs (j * 33) wr HW.out)
              have HLL : Hid ((dedupL M).length = j ∧ vs.length = (n - j) * 33) := Lib.hid ⟨by rw [← HD.out, List.length_take]; omega, hvs⟩
              have HJN := Lib.hid hjn
              clear hvs hjn hi hj1 hj2 hml hlt hm2 HE HW
              go_wp2_with fail
              go_ret
              rw [HLL.out.1]
              refine ⟨rfl, ⟨⟨vs ++ T, by rw [← HD.out]; exact HF.out, ?_⟩, HB2.out⟩⟩
              have h1 := HLL.out
              have h2 := HJN.out
              have h3 := HN.out
              rw [List.length_append, h1.1, h1.2]
              omega
      · obtain rfl : n = k + 1 := by omega
        have u1 : decide ((k : Int) + 1 < ((k + 1 : Nat) : Int)) = false := decide_eq_false (by omega)
        have HX : Hid (dedupL M = M) := Lib.hid (by
          have h := HD.out
          rw [← HN.out, List.take_length] at h
          exact h)
        clear hlt
        go_wp2_with fail
        go_ret
        rw [HX.out, HN.out]
        exact ⟨rfl, ⟨⟨T, HE.out, by rw [HN.out]⟩, HW.out⟩⟩
end Go.Proofs.YtpkmibmombpjpaaGreatDoor
set_option linter.unusedSimpArgs false
namespace Go.Proofs.YtpkmibmombpjpaaGreatDoor
open Go Go.RowKit

/-- Entries whose numbers are those of machines. -/
abbrev InE := { e : En // e.In }
theorem zE_in : zE.In := gE_in ⟨⟨by decide, by decide⟩, ⟨by decide, by decide⟩, ⟨by decide, by decide⟩, ⟨by decide, by decide⟩⟩ (by decide) (by decide) (fun o h => by cases h) ⟨by decide, by decide⟩ ⟨by decide, by decide⟩
instance : Inhabited InE := ⟨⟨zE, zE_in⟩⟩
def encI (x : InE) : List Value := (enC x.1).toList
theorem encI_len (x : InE) : (encI x).length = 33 := enC_len x.1
theorem flatK_eq (d : Array InE) : (Go.Sort.flatK encI 33 d).toList = flat enC (d.toList.map Subtype.val) := by
  apply List.ext_getElem?
  intro t
  by_cases ht : t < d.size * 33
  · obtain ⟨x, hx⟩ : ∃ x, d[t / 33]? = some x := ⟨_, Array.getElem?_eq_getElem (by omega)⟩
    obtain ⟨v, hv⟩ : ∃ v, (enC x.1)[t % 33]? = some v := ⟨_, Array.getElem?_eq_getElem (by rw [enC_size]; omega)⟩
    have h1 := flat_at (enc := enC) (sz := 33) enC_size (d.toList.map Subtype.val) (t / 33) x.1 (by rw [List.getElem?_map, Array.getElem?_toList, hx]; rfl) _ _ hv
    rw [show t / 33 * 33 + t % 33 = t by omega] at h1
    rw [h1, Array.getElem?_toList]
    unfold Go.Sort.flatK
    rw [Array.getElem?_map, Array.getElem?_range, if_pos ht]
    simp only [Option.map_some]
    have hd : d[t / 33]! = x := by rw [getElem!_def, hx]
    have hv2 : (encI x)[t % 33]? = some v := by unfold encI; rw [Array.getElem?_toList, hv]
    rw [hd, getElem!_def, hv2]
  · rw [List.getElem?_eq_none (by simpa using ht), List.getElem?_eq_none (by rw [flat_l]; simpa using ht)]
theorem putCells_eq (F : Array Value) (X T : List Value) (h : X.length = F.size) : Go.Sort.putCells id 0 F (X ++ T).toArray = (F.toList ++ T).toArray := by
  apply Array.ext_getElem?
  intro k
  unfold Go.Sort.putCells
  rw [Array.getElem?_mapIdx, List.getElem?_toArray, List.getElem?_toArray]
  by_cases hk : k < F.size
  · rw [List.getElem?_append_left (by omega), List.getElem?_append_left (by simpa using hk), List.getElem?_eq_getElem (by omega), Option.map_some, if_pos (by omega)]
    rw [Array.getElem?_toList, Array.getElem?_eq_getElem hk]
    simp [hk]
  · rw [List.getElem?_append_right (by omega), List.getElem?_append_right (by simpa using hk), Array.length_toList]
    show Option.map _ T[k - X.length]? = _
    rw [h]
    cases T[k - F.size]? with
    | none => rfl
    | some v => rw [Option.map_some, if_neg (by omega)]
theorem sortWorld_blk {w : World} {g : Nat} {t : TypeId} {F : Array Value} {X T : List Value} (h : Blk w g t (X ++ T).toArray) (hX : X.length = F.size) (n : Nat) (os : Array Obj) : Blk (Go.Sort.grow (Go.Sort.putRow id (Go.Sort.ahead w n) g 0 F) os) g t (F.toList ++ T).toArray := by
  have hlt := h.lt
  have h' : w.heap[g]? = some (.cells (X ++ T).toArray t (0, 0)) := h
  show (((w.heap.modify g (Go.Sort.onCells (Go.Sort.putCells id 0 F))) ++ os)[g]?) = _
  rw [Array.getElem?_append_left (by simpa using hlt), Array.getElem?_modify, if_pos rfl, h', Option.map_some, ← putCells_eq F X T hX]
  rfl
theorem sortWorld_below (w : World) (g n : Nat) (F : Array Value) (os : Array Obj) (hg : g < w.heap.size) : Below g w (Go.Sort.grow (Go.Sort.putRow id (Go.Sort.ahead w n) g 0 F) os) := by
  refine ⟨rfl, rfl, rfl, ?_, fun k hk => ?_⟩
  · show w.heap.size ≤ ((w.heap.modify g (Go.Sort.onCells (Go.Sort.putCells id 0 F))) ++ os).size
    simp
  · show ((w.heap.modify g (Go.Sort.onCells (Go.Sort.putCells id 0 F))) ++ os)[k]? = _
    rw [Array.getElem?_append_left (by simp; omega), Array.getElem?_modify, if_neg (by omega)]
theorem ltI (x y : InE) : Go.Proofs.ltOf (fun x y : InE => cmpE x.1 y.1) x y = decide (cmpE x.1 y.1 < 0) := rfl
theorem swoI : Go.Sort.SWO (Go.Proofs.ltOf (fun x y : InE => cmpE x.1 y.1)) where
  irrefl x := by rw [ltI, cmp_self]; rfl
  trans x y z h1 h2 := by
    rw [ltI] at *
    exact decide_eq_true (cmp_ltr (of_decide_eq_true h1) (Int.le_of_lt (of_decide_eq_true h2)))
  ntrans x y z h1 h2 := by
    rw [ltI] at *
    have h3 := cmp_neg.1 (of_decide_eq_false h1)
    have h4 := cmp_neg.1 (of_decide_eq_false h2)
    exact decide_eq_false (cmp_neg.2 (cmp_trans h4 h3))
theorem sepI (x y : InE) (h1 : Go.Proofs.ltOf (fun x y : InE => cmpE x.1 y.1) x y = false) (h2 : Go.Proofs.ltOf (fun x y : InE => cmpE x.1 y.1) y x = false) : x = y := by
  rw [ltI] at *
  have h3 := of_decide_eq_false h1
  have h4 := of_decide_eq_false h2
  have h5 := cmp_swap x.1 y.1
  exact Subtype.ext (cmp_eq (by omega))
theorem asc_pair : ∀ l : List En, l.Pairwise (fun a b => cmpE a b ≤ 0) → ascB l = true
  | [], _ => rfl
  | [_], _ => rfl
  | a :: b :: r, h => by
    rw [List.pairwise_cons] at h
    show (decide (cmpE a b ≤ 0) && ascB (b :: r)) = true
    rw [asc_pair (b :: r) h.2, decide_eq_true (h.1 b (by simp))]; rfl
theorem lays_cmp (blk off size : Nat) (w : World) : Go.Proofs.CmpLays Tryz.prog 25 #[] encI 33 (fun x y : InE => cmpE x.1 y.1) blk off size w := fun m os dk _ x y =>
  (cmpE_anyD x.1 y.1 x.2 y.2 (Go.Proofs.sortWorldK encI 33 w blk off m dk os)).mono fun _ _ h => ⟨h.1, h.2.grow⟩
/-- slices.SortFunc: the row sorted. -/
theorem sort_any (g c : Nat) (l : List En) (T : List Value) (hin : ∀ e ∈ l, e.In) (hl : l.length ≤ 1000000) (w : World) (h : EB w g l T) :
    Calls Tryz.prog 37 #[.slice (some ⟨g, 0, none⟩) l.length c, .func (.func 25) #[] #[]] w (fun r w' => r = .returned (.tuple #[]) ∧ ∃ s, EB w' g s T ∧ s.length = l.length ∧ ascB s = true ∧ (∀ x, x ∈ s ↔ x ∈ l) ∧ Below g w w') := by
  obtain ⟨d, hd, hds⟩ : ∃ d : Array InE, d.toList.map Subtype.val = l ∧ d.size = l.length := ⟨(l.attach.map (fun x => (⟨x.1, hin x.1 x.2⟩ : InE))).toArray, by simp, by simp⟩
  have hF := flatK_eq d
  rw [hd] at hF
  have hH : Go.Sort.HoldsK encI 33 w g 0 d := fun j hj => by
    refine ⟨?_, Blk.free h _⟩
    rw [Nat.zero_add]
    refine Blk.cell h ?_
    have hj2 : (Go.Sort.flatK encI 33 d).toList[j]? = some (Go.Sort.flatK encI 33 d)[j]! := by
      rw [Array.getElem?_toList, Array.getElem?_eq_getElem hj, getElem!_pos _ j hj]
    rw [hF] at hj2
    rw [List.getElem?_toArray, List.getElem?_append_left (List.getElem?_eq_some_iff.1 hj2).1]
    exact hj2
  have hcon := Go.Proofs.AnyQ.slices_SortFunc_total Tryz.laysSort 33 Tryz.isAgg34 Tryz.sizeOf34 encI encI_len (fun x v hv => by
      have h1 := enC_one x.1
      rw [Array.all_eq_true_iff_forall_mem] at h1
      exact h1 v (by simpa [encI] using hv)) (fun x y : InE => cmpE x.1 y.1) swoI 25 #[] g 0 c d w (enters_of Tryz.func25 (by kernel_rfl) rfl) (lays_cmp g 0 d.size w) hH h.lt (by omega) sepI
  change Calls Tryz.prog 37 _ _ _ at hcon
  rw [hds] at hcon
  refine hcon.mono ?_
  rintro r w' ⟨rfl, n, os, rfl⟩
  obtain ⟨m, hm⟩ : ∃ m, d.toList.mergeSort (fun x y => !(Go.Proofs.ltOf (fun x y : InE => cmpE x.1 y.1)) y x) = m := ⟨_, rfl⟩
  have hperm := List.mergeSort_perm d.toList (fun x y => !(Go.Proofs.ltOf (fun x y : InE => cmpE x.1 y.1)) y x)
  have hpair := List.pairwise_mergeSort (le := fun x y => !(Go.Proofs.ltOf (fun x y : InE => cmpE x.1 y.1)) y x) (fun a b c h1 h2 => by
      simp only [ltI, Bool.not_eq_true', decide_eq_false_iff_not] at *
      exact cmp_neg.2 (cmp_trans (cmp_neg.1 h1) (cmp_neg.1 h2))) (fun a b => by
      simp only [ltI, Bool.or_eq_true, Bool.not_eq_true', decide_eq_false_iff_not]
      have := cmp_swap a.1 b.1
      omega) d.toList
  rw [hm] at hperm hpair ⊢
  have hlen : m.length = l.length := by rw [hperm.length_eq, ← hd, List.length_map]
  have hfl := flatK_eq m.toArray
  have hfd : (Go.Sort.flatK encI 33 m.toArray).size = l.length * 33 := by rw [Go.Sort.size_flatK, List.size_toArray, hlen]
  refine ⟨rfl, m.map Subtype.val, ?_, by rw [List.length_map, hlen], asc_pair _ ?_, fun x => ?_, sortWorld_below w g n _ os h.lt⟩
  · have := sortWorld_blk (F := Go.Sort.flatK encI 33 m.toArray) h (by rw [flat_l, hfd]) n os
    rw [hfl] at this
    exact this
  · rw [List.pairwise_map]
    refine hpair.imp (fun {a b} h1 => ?_)
    simp only [ltI, Bool.not_eq_true', decide_eq_false_iff_not] at h1
    exact cmp_neg.1 h1
  · rw [← hd, List.mem_map, List.mem_map]
    constructor
    · rintro ⟨y, hy, rfl⟩
      exact ⟨y, hperm.mem_iff.1 hy, rfl⟩
    · rintro ⟨y, hy, rfl⟩
      exact ⟨y, hperm.mem_iff.2 hy, rfl⟩
theorem sort_nil (w : World) : Calls Tryz.prog 37 #[.slice none 0 0, .func (.func 25) #[] #[]] w (fun r w' => r = .returned (.tuple #[]) ∧ w' = w) := by
  have hcon := Go.Proofs.AnyF.slices_SortFunc_none Tryz.laysSort none 0 (.func (.func 25) #[] #[]) w
  change Calls Tryz.prog 37 _ _ _ at hcon
  exact hcon
/-- slices.Clone. -/
theorem clone_any (l : List En) (hl : l.length ≤ 1000000) (b o c : Nat) (w : World) (h : ES w (.slice (some ⟨b, o, none⟩) l.length c) l) :
    Calls Tryz.prog 36 #[.slice (some ⟨b, o, none⟩) l.length c] w (fun r w' => ∃ g cap T, r = .returned (.slice (some ⟨g, 0, none⟩) l.length cap) ∧ w.heap.size ≤ g ∧ l.length ≤ cap ∧ EB w' g l T ∧ Below w.heap.size w w') := by
  obtain ⟨i0, z0, hi0, hz0, hz1, hz2, hz3⟩ := info_parts_ent
  have hsrc := h.src enC_size (by omega)
  have hcon := Go.Proofs.AnyE.slices_Clone Tryz.laysClone i0 z0 33 152 hi0 hz0 hz1 hz2 hz3 (by omega) Tryz.sizeOf34 b o l.length c (flat enC l) w (flat_l l) (by unfold maxLen; omega) (by omega) (fun j u hj => by
      obtain ⟨b', o', e, _, h2⟩ := hsrc.at hj
      cases e
      exact h2) (fun u hu => by
      obtain ⟨x, _, hx⟩ := List.mem_flatMap.1 hu
      have h1 := enC_one x
      rw [Array.all_eq_true_iff_forall_mem] at h1
      exact h1 u (by simpa using hx))
  change Calls Tryz.prog 36 _ _ _ at hcon
  refine hcon.mono ?_
  rintro r w' ⟨v', rfl, hown, hne, hb⟩
  rcases hown.2 with ⟨rfl, hn⟩ | ⟨g, cap, cur, rfl, hg1, hg, hc, _, _, ht⟩
  · exact absurd rfl hne
  · refine ⟨g, cap, cur.toList.drop (l.length * 33), rfl, hg1, hc, ?_, hb⟩
    show w'.heap[g]? = _
    rw [hg, ← ht, List.take_append_drop]
    rfl
theorem clone_nil (w : World) : Calls Tryz.prog 36 #[.slice none 0 0] w (fun r w' => r = .returned (.slice none 0 0) ∧ w' = w) := by
  have hcon := Go.Proofs.AnyE.slices_Clone_nil Tryz.laysClone 0 0 w
  change Calls Tryz.prog 36 _ _ _ at hcon
  exact hcon
theorem compact_nil (w : World) : Calls Tryz.prog 39 #[.slice none 0 0] w (fun r w' => r = .returned (.slice none 0 0) ∧ w' = w) := by
  go_enter Tryz.func39, Tryz.ntmps39
  go_wp2
  go_ret
  exact ⟨rfl, rfl⟩
theorem clip_nil (w : World) : Calls Tryz.prog 38 #[.slice none 0 0] w (fun r w' => r = .returned (.slice none 0 0) ∧ w' = w) := by
  go_enter Tryz.func38, Tryz.ntmps38
  go_wp2
  go_ret
  exact ⟨rfl, rfl⟩
theorem clip_any (g n c : Nat) (hn : n ≤ c) (w : World) : Calls Tryz.prog 38 #[.slice (some ⟨g, 0, none⟩) n c] w (fun r w' => r = .returned (.slice (some ⟨g, 0, none⟩) n n) ∧ w' = w) := by
  have i1 : (n : Int) ≤ (c : Int) := by omega
  go_enter Tryz.func38, Tryz.ntmps38
  go_wp2
  go_ret
  exact ⟨rfl, rfl⟩
/-- A set in memory: nil, or a block of its own, no longer than the set. -/
inductive OwnE (W : World) (B : Nat) : Value → List En → Prop
  | none_ : OwnE W B (.slice none 0 0) []
  | some_ (g : Nat) (M : List En) (T : List Value) (hg : B ≤ g) (h : EB W g M T) : OwnE W B (.slice (some ⟨g, 0, none⟩) M.length M.length) M
theorem OwnE.es {W : World} {B : Nat} {v : Value} {M : List En} (h : OwnE W B v M) : ES W v M := by
  cases h with
  | none_ => exact .none_
  | some_ g M T hg h => exact h.ls (Nat.le_refl _)
theorem OwnE.keep {W W' : World} {B : Nat} {v : Value} {M : List En} (h : OwnE W B v M) (hb : Below W.heap.size W W') : OwnE W' B v M := by
  cases h with
  | none_ => exact .none_
  | some_ g M T hg h => exact .some_ g M T hg (h.keep hb)
theorem OwnE.mono {W : World} {B B' : Nat} {v : Value} {M : List En} (h : OwnE W B v M) (hb : B' ≤ B) : OwnE W B' v M := by
  cases h with
  | none_ => exact .none_
  | some_ g M T hg h => exact .some_ g M T (Nat.le_trans hb hg) h
set_option maxHeartbeats 2000000 in
/-- entry.Set. -/
theorem set_any (l : List En) (hin : ∀ e ∈ l, e.In) (hl : l.length ≤ 1000000) (v : Value) (w : World) (hv : ES w v l) : Calls Tryz.prog 13 #[v] w (fun r w' => ∃ u, r = .returned u ∧ OwnE w' w.heap.size u (setL l) ∧ Below w.heap.size w w') := by
  cases hv with
  | none_ =>
    go_enter Tryz.func13, Tryz.ntmps13
    go_wp2_with fail
    refine (clone_nil w).mono ?_
    rintro r w1 ⟨rfl, rfl⟩
    go_wp2_with fail
    refine (sort_nil _).mono ?_
    rintro r w1 ⟨rfl, rfl⟩
    go_wp2_with fail
    refine (compact_nil _).mono ?_
    rintro r w1 ⟨rfl, rfl⟩
    go_wp2_with fail
    refine (clip_nil _).mono ?_
    rintro r w1 ⟨rfl, rfl⟩
    go_wp2_with fail
    go_ret
    exact ⟨_, rfl, .none_, Below.refl _ _⟩
  | some_ b o c l hlt hc h =>
    have HC := Lib.hid (clone_any l hl b o c w (.some_ b o c l hlt hc h))
    have HIN := Lib.hid hin
    have HLT := Lib.hid hl
    obtain ⟨n, hn⟩ : ∃ n, l.length = n := ⟨_, rfl⟩
    rw [hn] at HC ⊢
    have HN := Lib.hid hn
    clear h hlt hc hn hl hin
    go_enter Tryz.func13, Tryz.ntmps13
    go_wp2_with fail
    refine HC.out.mono ?_
    rintro r w1 ⟨g, cap, T, rfl, hg, hcap, he, hb⟩
    have H1 := Lib.hid (And.intro hg (And.intro hcap (And.intro he hb)))
    clear hg hcap he hb HC
    go_wp2_with fail
    have HS := sort_any g cap l T HIN.out HLT.out w1 H1.out.2.2.1
    rw [HN.out] at HS
    refine HS.mono ?_
    rintro r w2 ⟨rfl, s, hs1, hs2, hs3, hs4, hs5⟩
    have HX := Lib.hid (dedup_set hs3 hs4)
    have H2 := Lib.hid (And.intro hs1 (And.intro hs2 hs5))
    have HIS := Lib.hid (fun e he => HIN.out e ((hs4 e).1 he))
    clear HS hs1 hs2 hs3 hs4 hs5
    go_wp2_with fail
    have HP := compact_any w.heap.size g cap s T HIS.out (by rw [H2.out.2.1, ← HN.out]; exact HLT.out) (by rw [H2.out.2.1]; exact H1.out.2.1) H1.out.1 w2 H2.out.1
    rw [H2.out.2.1, HX.out] at HP
    refine HP.mono ?_
    rintro r w3 ⟨rfl, ⟨⟨T', ht, htl⟩, hb3⟩⟩
    have H3 := Lib.hid (And.intro ht hb3)
    have HLE : (setL l).length ≤ cap := by
      have h1 := setL_len l
      have h2 := H1.out.2.1
      have h3 := HN.out
      omega
    clear HP ht htl hb3
    go_wp2_with fail
    refine (clip_any g (setL l).length cap HLE w3).mono ?_
    rintro r w4 ⟨rfl, rfl⟩
    clear HLE
    go_wp2_with fail
    go_ret
    exact ⟨_, rfl, .some_ g (setL l) T' H1.out.1 H3.out.1, H1.out.2.2.2.trans (((H2.out.2.2).mono H1.out.1).trans H3.out.2)⟩
end Go.Proofs.YtpkmibmombpjpaaGreatDoor
set_option linter.unusedSimpArgs false
namespace Go.Proofs.YtpkmibmombpjpaaGreatDoor
open Go Go.RowKit

/-- A slice of lists of entries. -/
inductive LLS (W : World) : Value → List (List En) → Prop
  | none_ : LLS W (.slice none 0 0) []
  | some_ (b o cap : Nat) (ls : List (List En)) (hb : b < W.heap.size) (hc : ls.length ≤ cap) (h : ∀ i l, ls[i]? = some l → ∃ v, W.cell? ⟨b, o + i, none⟩ = some v ∧ ES W v l) : LLS W (.slice (some ⟨b, o, none⟩) ls.length cap) ls
theorem LLS.keep {W W' : World} {v : Value} {ls : List (List En)} (h : LLS W v ls) (hb : Below W.heap.size W W') : LLS W' v ls := by
  cases h with
  | none_ => exact .none_
  | some_ b o cap ls hlt hc h => exact .some_ b o cap ls (Nat.lt_of_lt_of_le hlt hb.size) hc (fun i l hi => by
      obtain ⟨v, h1, h2⟩ := h i l hi
      exact ⟨v, keepW hb h1, h2.keep hb⟩)
theorem LLS.len {W : World} {v : Value} {ls : List (List En)} (h : LLS W v ls) : ∃ A cap, v = .slice A ls.length cap ∧ ls.length ≤ cap := by
  cases h with
  | none_ => exact ⟨_, _, rfl, Nat.le_refl _⟩
  | some_ b o cap ls _ hc h => exact ⟨_, _, rfl, hc⟩
theorem LLS.at {W : World} {A : Option Addr} {n cap i : Nat} {ls : List (List En)} {l : List En} (h : LLS W (.slice A n cap) ls) (hi : ls[i]? = some l) : ∃ b o A' c', A = some ⟨b, o, none⟩ ∧ W.cell? ⟨b, o + i, none⟩ = some (.slice A' l.length c') ∧ ES W (.slice A' l.length c') l := by
  cases h with
  | none_ => simp at hi
  | some_ b o cap ls hlt hc h =>
    obtain ⟨v, h1, h2⟩ := h i l hi
    obtain ⟨A', c', rfl, -⟩ := h2.len
    exact ⟨b, o, A', c', rfl, h1, h2⟩
theorem OwnE.one {W : World} {B : Nat} {v : Value} {M : List En} (h : OwnE W B v M) : v.oneCell' = true := by
  cases h <;> rfl
theorem LLS.new (W : World) (vs : List Value) (ls : List (List En)) (hlen : vs.length = ls.length) (h : ∀ (i : Nat) (v : Value) (l : List En), vs[i]? = some v → ls[i]? = some l → ES W v l) : LLS (W.alloc (.cells vs.toArray 40)) (.slice (some ⟨W.heap.size, 0, none⟩) ls.length ls.length) ls :=
  .some_ W.heap.size 0 ls.length ls (Blk.new W 40 vs.toArray).lt (Nat.le_refl _) (fun i l hi => by
    have hlt := (List.getElem?_eq_some_iff.1 hi).1
    obtain ⟨v, hv⟩ : ∃ v, vs[i]? = some v := ⟨_, List.getElem?_eq_getElem (by rw [hlen]; exact hlt)⟩
    refine ⟨v, ?_, (h i v l hv hi).keep (below1 W _)⟩
    rw [Nat.zero_add]
    exact (Blk.new W 40 vs.toArray).cell (by rw [List.getElem?_toArray]; exact hv))
/-- append of n zero entries to nil. -/
theorem run_grow0 (n : Nat) (h0 : 0 < n) (hn : n ≤ 1000000) (ty : TypeId) (w : World) : ∃ C : Array Value, C.size = grownCap w n 0 34 * 33 ∧
    (Builtin.append_ #[40, 3] ty #[.slice none 0 0, .int .i64 (n : Int)]).run Tryz.prog w = .ok (.slice (some ⟨w.heap.size, 0, none⟩) n (grownCap w n 0 34)) (w.drew.alloc (.cells C 34)) := by
  obtain ⟨i0, z0, hi0, hz0, hz1, hz2, hz3⟩ := info_parts_ent
  have ht : Tryz.prog.underlying 40 = some (.slice 34) := Tryz.underlying40
  have hu : Tryz.prog.underlying 3 = some (.int .i64) := Tryz.underlying3
  have hw : IntKind.i64.wrap (n : Int) = (n : Int) := IntWalk.i64_in _ (by omega)
  refine ⟨#[] ++ Builtin.zeroCells z0.cells n ++ Builtin.zeroCells z0.cells (grownCap w n 0 34 - n), ?_, ?_⟩
  · have := grownCap_ge w n 0 34
    rw [Array.size_append, Array.size_append, size_zeroCells, size_zeroCells, hz3]
    simp only [List.size_toArray, List.length_nil]
    omega
  · have k1 : ¬ ((n : Int) < 0) := by omega
    have k2 : ¬ (281474976710656 < (n : Int) * 152) := by omega
    have k3 : ¬ (n * 33 = 0) := by omega
    have k4 : ¬ n = 0 := by omega
    have k5 : ¬ (9223372036854775807 < (n : Int)) := by omega
    have k6 : ¬ (281474976710656 < Builtin.nextslicecap n 0 * 152) := by rw [nextslicecap_zero h0]; omega
    simp [Builtin.append_, run_underlying ht, run_underlying hu, sizeOf, typeInfo, zeroValue, hi0, hz0, hz1, hz2, asInt, asIntOf, hw, k1, k2, k3, k4, k5, k6, Question.forced, run_firstCells_none, newRow, grownCap]
theorem op_grow0 {ops : Array Oper} {rest : List Oper} {o : Oper} {a : Act} {Q : Exit → Act → World → Prop} {w : World} (hg : o.guard = none) (s x : Operand) (ho : o.op = .call { callee := .builtin .append, args := #[s, x], argTypes := #[40, 3] }) (n : Nat) (hs : a.eval s = .slice none 0 0) (hx : a.eval x = .int .i64 (n : Int)) (h0 : 0 < n) (hn : n ≤ 1000000)
    (h : ∀ C cap, C.size = cap * 33 → n ≤ cap → cap ≤ maxLen → wpList Tryz.prog ops Q rest (a.put o.dst (.slice (some ⟨w.heap.size, 0, none⟩) n cap)) (w.drew.alloc (.cells C 34))) : wpList Tryz.prog ops Q (o :: rest) a w := by
  obtain ⟨C, hC, hr⟩ := run_grow0 n h0 hn o.type w
  refine wpList_plain hg fun K hK => ?_
  unfold Oper.wp execOp
  simp only [ho, resolve, invoke, builtin, Sem.run_bind, Sem.run_pure, Result.andThen_ok, List.map_toArray, List.map_cons, List.map_nil, hs, hx, hr]
  exact hK _ _ (h C _ hC (grownCap_ge w n 0 _) (grownCap_le_maxLen w n 0 _ (by unfold maxLen; omega)))
theorem grow_any (n : Nat) (hn : n ≤ 1000000) (w : World) : Calls Tryz.prog 77 #[.slice none 0 0, .int .i64 (n : Int)] w (fun r w' => ∃ u, r = .returned u ∧ w'.ownsRow w.heap.size 34 33 u 0 [] ∧ Below w.heap.size w w') := by
  have u0 : decide ((n : Int) < 0) = false := decide_eq_false (by omega)
  have e0 : IntKind.i64.wrap (n : Int) = (n : Int) := IntWalk.i64_in _ (by omega)
  by_cases h0 : 0 < n
  · have u1 : decide (0 < (n : Int)) = true := decide_eq_true (by omega)
    have u2 : decide (0 < n) = true := decide_eq_true h0
    go_enter Tryz.func77, Tryz.ntmps77
    go_wp2_with (at_builtin; refine op_grow0 rfl _ _ rfl n rfl rfl h0 hn ?_; intro C cap hC hc1 hc2; have j0 : (0 : Int) ≤ (cap : Int) := by omega)
    go_ret
    refine ⟨_, rfl, ⟨by simp, .inr ⟨w.heap.size, cap, C, rfl, Nat.le_refl _, ?_, Nat.zero_le _, hc2, hC, by simp⟩⟩, ?_⟩
    · exact Blk.new w.drew _ _
    · exact (Below.refl _ w).drew.alloc (Nat.le_refl _) _
  · obtain rfl : n = 0 := by omega
    have u1 : decide ((0 : Int) < ((0 : Nat) : Int)) = false := rfl
    go_enter Tryz.func77, Tryz.ntmps77
    go_wp2_with fail
    go_ret
    exact ⟨_, rfl, World.ownsRow_nil _ _ _ _, Below.refl _ _⟩
theorem flatten_more {ls : List (List En)} {k : Nat} {l : List En} (h : ls[k]? = some l) : (ls.take (k + 1)).flatten = (ls.take k).flatten ++ l := by
  rw [take_more h]; simp
theorem flatten_le (ls : List (List En)) (k : Nat) : (ls.take k).flatten.length ≤ ls.flatten.length := by
  conv => rhs; rw [← List.take_append_drop k ls]
  simp only [List.flatten_append, List.length_append]
  omega
/-- What the first k lists hold, and how many. -/
def preE (ls : List (List En)) (k : Nat) : List En := (ls.take k).flatten
def preN (ls : List (List En)) (k : Nat) : Nat := (preE ls k).length
theorem preE_zero (ls : List (List En)) : preE ls 0 = [] := rfl
theorem preN_zero (ls : List (List En)) : preN ls 0 = 0 := rfl
theorem preE_more {ls : List (List En)} {k : Nat} {l : List En} (h : ls[k]? = some l) : preE ls (k + 1) = preE ls k ++ l := flatten_more h
theorem preN_more {ls : List (List En)} {k : Nat} {l : List En} (h : ls[k]? = some l) : preN ls (k + 1) = preN ls k + l.length := by unfold preN; rw [preE_more h, List.length_append]
theorem preE_all (ls : List (List En)) : preE ls ls.length = ls.flatten := by unfold preE; rw [List.take_length]
theorem preN_len (ls : List (List En)) (k : Nat) : (preE ls k).length = preN ls k := rfl
theorem preN_le (ls : List (List En)) (k : Nat) : preN ls k ≤ ls.flatten.length := flatten_le ls k
attribute [irreducible] preE preN
theorem ent_one (l : List En) : ∀ u ∈ flat enC l, u.oneCell' = true := by
  intro u hu
  obtain ⟨x, _, hx⟩ := List.mem_flatMap.1 hu
  have h1 := enC_one x
  rw [Array.all_eq_true_iff_forall_mem] at h1
  exact h1 u (by simpa using hx)
set_option maxRecDepth 100000 in
set_option maxHeartbeats 2000000 in
theorem concat_any (ls : List (List En)) (hl : ls.flatten.length ≤ 900000) (hn : ls.length ≤ 1000000) (v : Value) (w : World) (hv : LLS w v ls) : Calls Tryz.prog 41 #[v] w (fun r w' => ∃ u, r = .returned u ∧ w'.ownsRow w.heap.size 34 33 u ls.flatten.length (flat enC ls.flatten) ∧ Below w.heap.size w w') := by
  obtain ⟨i0, z0, hi0, hz0, hz1, hz2, hz3⟩ := info_parts_ent
  obtain ⟨A, cp, rfl, -⟩ := hv.len
  have HV := Lib.hid hv
  have HLE := Lib.hid (fun k => Nat.le_trans (preN_le ls k) hl)
  have HALL := Lib.hid (preE_all ls)
  have HLN := Lib.hid (preN_len ls)
  have HZ := Lib.hid (And.intro (preE_zero ls) (preN_zero ls))
  obtain ⟨n, hn1⟩ : ∃ n, ls.length = n := ⟨_, rfl⟩
  rw [hn1] at hn HV HALL ⊢
  have HN := Lib.hid hn1
  rw [← HALL.out, HLN.out]
  clear hv hn1 hl
  go_enter Tryz.func41, Tryz.ntmps41
  go_wp2_with fail
  go_loopw [3, 11] (fun s3 s11 wr => ∃ k : Nat, k ≤ n ∧ s3 = .int .i64 ((preN ls k : Nat) : Int) ∧ s11 = .int .i64 (k : Int) ∧ w = wr) (fun _ s11 _ => n - (intOf s11).toNat)
  case atStart => exact ⟨0, Nat.zero_le _, by rw [HZ.out.2]; rfl, rfl, rfl⟩
  case round =>
    obtain ⟨k, hk, rfl, rfl, rfl⟩ := hrel
    by_cases hlt : k < n
    · have u1 : decide ((k : Int) < (n : Int)) = true := decide_eq_true (by omega)
      obtain ⟨l, hlk⟩ : ∃ l, ls[k]? = some l := ⟨_, List.getElem?_eq_getElem (by rw [HN.out]; exact hlt)⟩
      obtain ⟨b, o, A', c', rfl, c0, -⟩ := HV.out.at hlk
      have hle := HLE.out (k + 1)
      rw [preN_more hlk] at hle
      have HF := Lib.hid (preN_more hlk)
      obtain ⟨t, ht⟩ : ∃ t, preN ls k = t := ⟨_, rfl⟩
      obtain ⟨m, hm⟩ : ∃ m, l.length = m := ⟨_, rfl⟩
      rw [ht, hm] at hle HF
      rw [hm] at c0
      rw [ht]
      have e1 : IntKind.i64.wrap ((t : Int) + (m : Int)) = (t : Int) + (m : Int) := IntWalk.i64_in _ (by omega)
      have u2 : decide ((t : Int) + (m : Int) < 0) = false := decide_eq_false (by omega)
      have e2 : IntKind.i64.wrap ((k : Int) + 1) = (k : Int) + 1 := IntWalk.i64_in _ (by omega)
      have j0 : (0 : Int) ≤ (k : Int) := by omega
      have j1 : (k : Int) < (n : Int) := by omega
      have j2 : ¬ (n : Int) ≤ (k : Int) := by omega
      have j3 : ¬ n ≤ k := by omega
      have HK := Lib.hid hlt
      clear hlk hle hlt ht hm HV HLE HALL HLN HZ
      go_wp2_with fail
      go_roundw
      case rel => exact ⟨k + 1, HK.out, by rw [HF.out]; simp, by simp, trivial⟩
      case measure => have := HK.out; simp only [intOf]; omega
    · obtain rfl : k = n := by omega
      have u1 : decide ((k : Int) < (k : Int)) = false := decide_eq_false (by omega)
      have GR := Lib.hid (grow_any (preN ls k) (Nat.le_trans (HLE.out k) (by omega)) w)
      clear hlt
      go_wp2_with fail
      refine GR.out.mono ?_
      rintro r w1 ⟨u, rfl, hown, hb⟩
      have HO := Lib.hid hown
      have HB := Lib.hid hb
      clear GR hown hb u1
      have HO2 : Hid (w1.ownsRow w.heap.size 34 33 u (preN ls 0) (flat enC (preE ls 0))) := Lib.hid (by rw [HZ.out.1, HZ.out.2]; exact HO.out)
      clear HO
      obtain ⟨A0, m0, c0, hu⟩ : ∃ A0 m0 c0, u = .slice A0 m0 c0 := by
        rcases HO2.out.2 with ⟨rfl, _⟩ | ⟨g, cap, cur, rfl, _⟩
        · exact ⟨_, _, _, rfl⟩
        · exact ⟨_, _, _, rfl⟩
      subst hu
      go_wp2_with fail
      go_loopw [6, 27] (fun s6 s27 wr => ∃ (i : Nat) (A : Option Addr) (m c : Nat), i ≤ k ∧ s6 = .slice A m c ∧ s27 = .int .i64 (i : Int) ∧ Hid (wr.ownsRow w.heap.size 34 33 (.slice A m c) (preN ls i) (flat enC (preE ls i))) ∧ Hid (Below w.heap.size w wr)) (fun _ s27 _ => k - (intOf s27).toNat)
      case atStart => exact ⟨0, _, _, _, Nat.zero_le _, rfl, rfl, HO2, HB⟩
      case round =>
        clear HO2 HB
        obtain ⟨i, A2, m2, c2, hi, rfl, rfl, HO, HB⟩ := hrel
        by_cases hlt : i < k
        · have u1 : decide ((i : Int) < (k : Int)) = true := decide_eq_true (by omega)
          obtain ⟨l, hlk⟩ : ∃ l, ls[i]? = some l := ⟨_, List.getElem?_eq_getElem (by rw [HN.out]; exact hlt)⟩
          obtain ⟨b, o, A', c', rfl, c0, hes⟩ := (HV.out.keep HB.out).at hlk
          have HS := Lib.hid (hes.src enC_size (by omega))
          have HLE2 := HLE.out (i + 1)
          rw [preN_more hlk] at HLE2
          have HF := Lib.hid (And.intro (preN_more hlk) (preE_more hlk))
          have e2 : IntKind.i64.wrap ((i : Int) + 1) = (i : Int) + 1 := IntWalk.i64_in _ (by omega)
          have j0 : (0 : Int) ≤ (i : Int) := by omega
          have j1 : (i : Int) < (k : Int) := by omega
          have j2 : ¬ (k : Int) ≤ (i : Int) := by omega
          have j3 : ¬ k ≤ i := by omega
          have HK := Lib.hid hlt
          have hle := HLE2
          have hbs := HB.out.size
          obtain ⟨m, hm⟩ : ∃ m, l.length = m := ⟨_, rfl⟩
          rw [hm] at hle HF c0 HS
          clear hlk hlt hes HLE2 HV HLE HALL HLN HZ hm
          go_wp2_with (at_builtin; refine appS rfl _ _ rfl Tryz.underlying40 hi0 hz0 hz1 hz2 hz3 (by decide) _ w.heap.size (.slice A2 m2 c2) (preN ls i) (flat enC (preE ls i)) rfl HO.out (.slice A' m c') m (flat enC l) rfl HS.out (ent_one l) (by omega) (by decide) hbs ?_; intro u2 w5 hown5 hgrow5 hob5 hb5)
          have HO5 : Hid (w5.ownsRow w.heap.size 34 33 u2 (preN ls (i + 1)) (flat enC (preE ls (i + 1)))) := Lib.hid (by rw [HF.out.1, HF.out.2, flat_app]; exact hown5)
          have HB5 := Lib.hid (HB.out.trans hb5)
          obtain ⟨A3, m3, c3, hu3⟩ : ∃ A0 m0 c0, u2 = .slice A0 m0 c0 := by
            rcases hown5.2 with ⟨rfl, _⟩ | ⟨g, cap, cur, rfl, _⟩
            · exact ⟨_, _, _, rfl⟩
            · exact ⟨_, _, _, rfl⟩
          subst hu3
          clear hown5 hgrow5 hob5 hb5 HO HB
          go_wp2_with fail
          go_roundw
          case rel => exact ⟨i + 1, _, _, _, HK.out, rfl, by simp, HO5, HB5⟩
          case measure => have := HK.out; simp only [intOf]; omega
        · obtain rfl : i = k := by omega
          have u1 : decide ((i : Int) < (i : Int)) = false := decide_eq_false (by omega)
          clear hlt
          go_wp2_with fail
          go_ret
          exact ⟨_, rfl, HO.out, HB.out⟩
/-- What Merge returns. -/
def mergL (ls : List (List En)) : List En := if ls.all setB then setL ls.flatten else []
def mergC (ls : List (List En)) : Int := if ls.all setB then 0 else 314
theorem preAll_more {ls : List (List En)} {k : Nat} {l : List En} (h : ls[k]? = some l) : (ls.take (k + 1)).all setB = ((ls.take k).all setB && setB l) := by
  rw [take_more h]; simp
theorem preAll_stop {ls : List (List En)} {k : Nat} (h : (ls.take k).all setB = false) : ls.all setB = false := by
  rw [← List.take_append_drop k ls, List.all_append, h]; rfl
set_option maxRecDepth 100000 in
set_option maxHeartbeats 2000000 in
theorem merge_any (ls : List (List En)) (hin : ∀ l ∈ ls, ∀ e ∈ l, e.In) (hl : ls.flatten.length ≤ 900000) (hn : ls.length ≤ 1000000) (v : Value) (w : World) (hv : LLS w v ls) : Calls Tryz.prog 16 #[v] w (fun r w' => ∃ u, r = .returned (.tuple #[u, .int .i64 (mergC ls)]) ∧ OwnE w' w.heap.size u (mergL ls) ∧ Below w.heap.size w w') := by
  obtain ⟨A, cp, rfl, -⟩ := hv.len
  have HV := Lib.hid hv
  have HIN := Lib.hid hin
  have HL := Lib.hid hl
  obtain ⟨n, hn1⟩ : ∃ n, ls.length = n := ⟨_, rfl⟩
  rw [hn1] at hn HV ⊢
  have HN := Lib.hid hn1
  obtain ⟨ml, hml⟩ : ∃ ml, mergL ls = ml := ⟨_, rfl⟩
  obtain ⟨mc, hmc⟩ : ∃ mc, mergC ls = mc := ⟨_, rfl⟩
  rw [hml, hmc]
  have HM := Lib.hid (And.intro hml hmc)
  clear hv hn1 hl hml hmc hin
  go_enter Tryz.func16, Tryz.ntmps16
  go_wp2_with fail
  go_loopw [8] (fun s8 wr => ∃ k : Nat, k ≤ n ∧ s8 = .int .i64 (k : Int) ∧ Hid ((ls.take k).all setB = true) ∧ Hid (Below w.heap.size w wr)) (fun s8 _ => n - (intOf s8).toNat)
  case atStart => exact ⟨0, Nat.zero_le _, rfl, Lib.hid rfl, Lib.hid (Below.refl _ _)⟩
  case round =>
    obtain ⟨k, hk, rfl, HS, HB⟩ := hrel
    by_cases hlt : k < n
    · have u1 : decide ((k : Int) < (n : Int)) = true := decide_eq_true (by omega)
      obtain ⟨l, hlk⟩ : ∃ l, ls[k]? = some l := ⟨_, List.getElem?_eq_getElem (by rw [HN.out]; exact hlt)⟩
      obtain ⟨b, o, A', c', rfl, c0, hes⟩ := (HV.out.keep HB.out).at hlk
      have hll : l.length ≤ 1000000 := by
        have h1 := preN_le ls (k + 1)
        rw [preN_more hlk] at h1
        have := HL.out
        omega
      have IS := Lib.hid (isSet_any l (HIN.out l (List.mem_of_getElem? hlk)) hll _ wr hes)
      have HA := Lib.hid (preAll_more hlk)
      have e2 : IntKind.i64.wrap ((k : Int) + 1) = (k : Int) + 1 := IntWalk.i64_in _ (by omega)
      have j0 : (0 : Int) ≤ (k : Int) := by omega
      have j1 : (k : Int) < (n : Int) := by omega
      have j2 : ¬ (n : Int) ≤ (k : Int) := by omega
      have j3 : ¬ n ≤ k := by omega
      have HK := Lib.hid hlt
      obtain ⟨q, hq⟩ : ∃ q, setB l = q := ⟨_, rfl⟩
      obtain ⟨m, hm⟩ : ∃ m, l.length = m := ⟨_, rfl⟩
      rw [hq] at IS HA
      rw [hm] at IS c0
      clear hlk hlt hes hll hq hm
      go_wp2_with fail
      refine IS.out.mono ?_
      rintro r w2 ⟨rfl, hb⟩
      have HB2 := Lib.hid (HB.out.trans (hb.mono HB.out.size))
      clear IS hb c0 HB
      rcases q with _ | _
      · have HX : Hid (ls.all setB = false) := Lib.hid (preAll_stop (k := k + 1) (by rw [HA.out, HS.out]; rfl))
        go_wp2_with fail
        go_returns
        have h1 : ml = [] := by rw [← HM.out.1]; unfold mergL; rw [HX.out]; rfl
        have h2 : mc = 314 := by rw [← HM.out.2]; unfold mergC; rw [HX.out]; rfl
        rw [h1, h2]
        exact ⟨_, rfl, .none_, HB2.out⟩
      · have HX : Hid ((ls.take (k + 1)).all setB = true) := Lib.hid (by rw [HA.out, HS.out]; rfl)
        go_wp2_with fail
        go_roundw
        case rel => exact ⟨k + 1, HK.out, by simp, HX, HB2⟩
        case measure => have := HK.out; simp only [intOf]; omega
    · obtain rfl : k = n := by omega
      have u1 : decide ((k : Int) < (k : Int)) = false := decide_eq_false (by omega)
      have HX : Hid (ls.all setB = true) := Lib.hid (by
        have h := HS.out
        rw [List.take_of_length_le (by rw [HN.out]; exact Nat.le_refl _)] at h
        exact h)
      have CC := Lib.hid (concat_any ls HL.out (by rw [HN.out]; exact hn) _ wr (HV.out.keep HB.out))
      clear hlt
      go_wp2_with fail
      refine CC.out.mono ?_
      rintro r w2 ⟨u, rfl, hown, hb⟩
      have HES := Lib.hid (ls_of_own (enc := enC) (sz := 33) enC_size hown)
      have HB2 := Lib.hid (HB.out.trans (hb.mono HB.out.size))
      have hu1 : u.oneCell' = true := by
        rcases hown.2 with ⟨rfl, _⟩ | ⟨g, cap, cur, rfl, _⟩ <;> rfl
      clear CC hown hb HB
      go_wp2_with fail
      refine (set_any ls.flatten (fun e he => by
        obtain ⟨l, hl, hel⟩ := List.mem_flatten.1 he
        exact HIN.out l hl e hel) (by have := HL.out; omega) u w2 HES.out).mono ?_
      rintro r w3 ⟨u3, rfl, hu3, hb3⟩
      have h1 : ml = setL ls.flatten := by rw [← HM.out.1]; unfold mergL; rw [HX.out]; rfl
      have h2 : mc = 0 := by rw [← HM.out.2]; unfold mergC; rw [HX.out]; rfl
      have H3 := Lib.hid (And.intro hu3 hb3)
      clear hu3 hb3
      go_wp2_with fail
      go_returns
      rw [h1, h2]
      exact ⟨_, rfl, H3.out.1.mono HB2.out.size, HB2.out.trans (H3.out.2.mono HB2.out.size)⟩
end Go.Proofs.YtpkmibmombpjpaaGreatDoor
set_option linter.unusedSimpArgs false
namespace Go.Proofs.YtpkmibmombpjpaaGreatDoor
open Go Go.RowKit

theorem cmpK_of_keys {a b : En} (h : keyE a = keyE b) : cmpK a b = 0 := (cmpK_zero a b).2 h
theorem count_sub (x : En) : ∀ S : List En, x ∈ countP S → x ∈ S
  | [], h => h
  | [_], h => h
  | a :: b :: r, h => by
    unfold countP at h
    split at h
    · exact List.mem_cons_of_mem _ (count_sub x (b :: r) h)
    · rcases List.mem_cons.1 h with rfl | h
      · simp
      · exact List.mem_cons_of_mem _ (count_sub x (b :: r) h)
theorem setB_count : ∀ S : List En, setB S = true → setB (countP S) = true
  | [], _ => rfl
  | [_], _ => rfl
  | a :: b :: r, h => by
    have hr := setB_uncons h
    unfold countP
    split
    · exact setB_count (b :: r) hr
    · refine setB_cons (fun y hy => ?_) (setB_count (b :: r) hr)
      exact setB_first a (b :: r) h y (count_sub y _ (List.mem_of_mem_head? hy))
/-- What counts of a set: what no entry of its key exceeds. -/
theorem mem_count (x : En) : ∀ S : List En, setB S = true → (x ∈ countP S ↔ x ∈ S ∧ ∀ y ∈ S, keyE y = keyE x → cmpE y x ≤ 0)
  | [], _ => by simp [countP]
  | [a], _ => by
    show x ∈ [a] ↔ _
    constructor
    · intro h
      obtain rfl : x = a := by simpa using h
      exact ⟨h, fun y hy _ => by obtain rfl : y = x := by simpa using hy
                                 rw [cmp_self]; omega⟩
    · exact fun h => h.1
  | a :: b :: r, h => by
    have hr := setB_uncons h
    have ih := mem_count x (b :: r) hr
    have hab : cmpE a b < 0 := setB_first a (b :: r) h b (by simp)
    unfold countP
    split
    · rename_i hk
      rw [ih]
      constructor
      · rintro ⟨h1, h2⟩
        refine ⟨List.mem_cons_of_mem _ h1, fun y hy hyk => ?_⟩
        rcases List.mem_cons.1 hy with rfl | hy
        · have := setB_first y (b :: r) h x h1
          omega
        · exact h2 y hy hyk
      · rintro ⟨h1, h2⟩
        rcases List.mem_cons.1 h1 with rfl | h1
        · have h3 := h2 b (by simp) hk.symm
          have := cmp_swap x b
          omega
        · exact ⟨h1, fun y hy hyk => h2 y (List.mem_cons_of_mem _ hy) hyk⟩
    · rename_i hk
      rw [List.mem_cons, ih]
      constructor
      · rintro (rfl | ⟨h1, h2⟩)
        · refine ⟨by simp, fun y hy hyk => ?_⟩
          rcases List.mem_cons.1 hy with rfl | hy
          · rw [cmp_self]; omega
          · exfalso
            have h4 : cmpK x b < 0 := by
              have h5 := cmpK_of_cmpE (Int.le_of_lt hab)
              rcases Int.lt_or_eq_of_le h5 with h6 | h6
              · exact h6
              · exact absurd ((cmpK_zero x b).1 h6) hk
            have h6 : cmpK b y ≤ 0 := by
              rcases List.mem_cons.1 hy with rfl | hy
              · rw [cmpK_self]; omega
              · exact cmpK_of_cmpE (Int.le_of_lt (setB_first b r hr y hy))
            have h7 := cmpK_of_keys hyk
            have h8 : cmpK y b < 0 := cmpK_lt (by omega) h4
            have := cmpK_swap b y
            omega
        · refine ⟨List.mem_cons_of_mem _ h1, fun y hy hyk => ?_⟩
          rcases List.mem_cons.1 hy with rfl | hy
          · have := setB_first y (b :: r) h x h1
            omega
          · exact h2 y hy hyk
      · rintro ⟨h1, h2⟩
        rcases List.mem_cons.1 h1 with rfl | h1
        · exact Or.inl rfl
        · exact Or.inr ⟨h1, fun y hy hyk => h2 y (List.mem_cons_of_mem _ hy) hyk⟩
/-- Of a finite set of one key there is a greatest one. -/
theorem top_ex : ∀ (l : List En) (e : En), ∃ m, (m = e ∨ (m ∈ l ∧ keyE m = keyE e)) ∧ cmpE e m ≤ 0 ∧ ∀ y ∈ l, keyE y = keyE e → cmpE y m ≤ 0
  | [], e => ⟨e, Or.inl rfl, by rw [cmp_self]; omega, fun y hy => by simp at hy⟩
  | a :: l, e => by
    obtain ⟨m, h1, h2, h3⟩ := top_ex l e
    by_cases hk : keyE a = keyE e
    · by_cases hc : cmpE a m ≤ 0
      · refine ⟨m, ?_, h2, fun y hy hyk => ?_⟩
        · rcases h1 with h1 | h1
          · exact Or.inl h1
          · exact Or.inr ⟨List.mem_cons_of_mem _ h1.1, h1.2⟩
        · rcases List.mem_cons.1 hy with rfl | hy
          · exact hc
          · exact h3 y hy hyk
      · have h4 : cmpE m a ≤ 0 := by have := cmp_swap a m; omega
        refine ⟨a, Or.inr ⟨by simp, hk⟩, cmp_trans h2 h4, fun y hy hyk => ?_⟩
        rcases List.mem_cons.1 hy with rfl | hy
        · rw [cmp_self]; omega
        · exact cmp_trans (h3 y hy hyk) h4
    · refine ⟨m, ?_, h2, fun y hy hyk => ?_⟩
      · rcases h1 with h1 | h1
        · exact Or.inl h1
        · exact Or.inr ⟨List.mem_cons_of_mem _ h1.1, h1.2⟩
      · rcases List.mem_cons.1 hy with rfl | hy
        · exact absurd hyk hk
        · exact h3 y hy hyk
/-- Each entry of a set has one of its key that counts, and that is no smaller. -/
theorem count_ex {S : List En} (h : setB S = true) {e : En} (he : e ∈ S) : ∃ m ∈ countP S, keyE m = keyE e ∧ cmpE e m ≤ 0 := by
  obtain ⟨m, h1, h2, h3⟩ := top_ex S e
  have hm : m ∈ S ∧ keyE m = keyE e := by
    rcases h1 with rfl | h1
    · exact ⟨he, rfl⟩
    · exact h1
  refine ⟨m, (mem_count m S h).2 ⟨hm.1, fun y hy hyk => h3 y hy (hyk.trans hm.2)⟩, hm.2, h2⟩
/-- What counts of what counts of the parts. -/
theorem count_parts {A B : List En} (ha : setB A = true) (hb : setB B = true) : countP (setL (A ++ B)) = countP (setL (countP A ++ countP B)) := by
  refine set_same _ _ (setB_count _ (setB_setL _)) (setB_count _ (setB_setL _)) (fun x => ?_)
  rw [mem_count _ _ (setB_setL _), mem_count _ _ (setB_setL _)]
  simp only [mem_setL, List.mem_append]
  constructor
  · rintro ⟨h1, h2⟩
    refine ⟨?_, fun y hy hyk => h2 y ?_ hyk⟩
    · rcases h1 with h1 | h1
      · exact Or.inl ((mem_count x A ha).2 ⟨h1, fun y hy hyk => h2 y (Or.inl hy) hyk⟩)
      · exact Or.inr ((mem_count x B hb).2 ⟨h1, fun y hy hyk => h2 y (Or.inr hy) hyk⟩)
    · rcases hy with hy | hy
      · exact Or.inl (count_sub y _ hy)
      · exact Or.inr (count_sub y _ hy)
  · rintro ⟨h1, h2⟩
    refine ⟨?_, fun y hy hyk => ?_⟩
    · rcases h1 with h1 | h1
      · exact Or.inl (count_sub x _ h1)
      · exact Or.inr (count_sub x _ h1)
    · rcases hy with hy | hy
      · obtain ⟨m, h3, h4, h5⟩ := count_ex ha hy
        exact cmp_trans h5 (h2 m (Or.inl h3) (h4.trans hyk))
      · obtain ⟨m, h3, h4, h5⟩ := count_ex hb hy
        exact cmp_trans h5 (h2 m (Or.inr h3) (h4.trans hyk))
/-- The entries of a key. -/
def versP (S : List En) (e : En) : List En := S.filter (fun x => cmpK x e == 0)
theorem mem_vers {S : List En} {e x : En} : x ∈ versP S e ↔ x ∈ S ∧ keyE x = keyE e := by
  unfold versP
  rw [List.mem_filter, beq_iff_eq, cmpK_zero]
theorem filter_pre {α : Type} (p : α → Bool) : ∀ (l : List α) (k : Nat), (∀ a x, a < k → l[a]? = some x → p x = false) → l.filter p = (l.drop k).filter p
  | l, 0, _ => by simp
  | [], k + 1, _ => by simp
  | a :: l, k + 1, h => by
    rw [List.drop_succ_cons, List.filter_cons, h 0 a (by omega) rfl]
    simp only [Bool.false_eq_true, if_false]
    exact filter_pre p l k (fun i x hi hx => h (i + 1) x (by omega) (by simpa using hx))
theorem filter_run {α : Type} (p : α → Bool) : ∀ (l : List α), (∀ (i j : Nat) (x y : α), i < j → l[i]? = some x → l[j]? = some y → p x = false → p y = false) → l.filter p = l.takeWhile p
  | [], _ => rfl
  | a :: l, h => by
    rw [List.filter_cons, List.takeWhile_cons]
    cases hp : p a with
    | true =>
      simp only [if_true]
      rw [filter_run p l (fun i j x y hij hx hy => h (i + 1) (j + 1) x y (by omega) (by simpa using hx) (by simpa using hy))]
    | false =>
      simp only [Bool.false_eq_true, if_false]
      rw [List.filter_eq_nil_iff]
      intro y hy
      obtain ⟨j, hj⟩ := List.mem_iff_getElem?.1 hy
      rw [h 0 (j + 1) a y (by omega) rfl (by simpa using hj) hp]
      simp
/-- What the iterator yields is what has the key. -/
theorem run_vers {S : List En} {e : En} {k : Nat} (hm : Mono S) (h : Split S e k) : runP (S.drop k) e = versP S e := by
  unfold versP runP
  rw [filter_pre _ S k (fun a x ha hx => by
    have := h.low a x ha hx
    rw [beq_eq_false_iff_ne]; omega)]
  refine (filter_run _ _ (fun i j x y hij hx hy hp => ?_)).symm
  rw [List.getElem?_drop] at hx hy
  have h1 := h.high (k + i) x (by omega) hx
  rw [beq_eq_false_iff_ne] at hp ⊢
  have h2 := hm (k + i) (k + j) x y (by omega) hx hy
  intro h0
  have h3 : cmpK x e ≤ 0 := cmpK_trans h2 (by omega)
  omega
theorem setB_filter (p : En → Bool) : ∀ S : List En, setB S = true → setB (S.filter p) = true
  | [], _ => rfl
  | a :: r, h => by
    have ih := setB_filter p r (setB_uncons h)
    rw [List.filter_cons]
    split
    · refine setB_cons (fun y hy => ?_) ih
      have := List.mem_of_mem_head? hy
      exact setB_first a r h y (List.mem_filter.1 this).1
    · exact ih
theorem setB_vers {S : List En} (h : setB S = true) (e : En) : setB (versP S e) = true := setB_filter _ S h
/-- The last of the versions is the one that counts. -/
theorem vers_last {S : List En} (h : setB S = true) {x : En} (hx : x ∈ countP S) : (versP S x).getLast? = some x := by
  obtain ⟨h1, h2⟩ := (mem_count x S h).1 hx
  have hv : x ∈ versP S x := mem_vers.2 ⟨h1, rfl⟩
  obtain ⟨i, hi⟩ := List.mem_iff_getElem?.1 hv
  rw [List.getLast?_eq_getElem?]
  have hlt := (List.getElem?_eq_some_iff.1 hi).1
  rcases Nat.lt_or_ge i ((versP S x).length - 1) with hl | hl
  · obtain ⟨y, hy⟩ : ∃ y, (versP S x)[(versP S x).length - 1]? = some y := ⟨_, List.getElem?_eq_getElem (by omega)⟩
    have h3 := setB_lt (setB_vers h x) hl hi hy
    have h4 := mem_vers.1 (List.mem_of_getElem? hy)
    have h5 := h2 y h4.1 h4.2
    have := cmp_swap x y
    omega
  · rw [show (versP S x).length - 1 = i by omega]; exact hi
theorem take_imp (x a : En) : ∀ l : List En, x ∈ runP l a → cmpK x a = 0
  | [], h => by simp [runP] at h
  | b :: r, h => by
    unfold runP at h
    rw [List.takeWhile_cons] at h
    split at h
    · rename_i hb
      rcases List.mem_cons.1 h with rfl | h
      · simpa using hb
      · exact take_imp x a r h
    · simp at h
/-- All versions of all that counts are the set. -/
theorem vers_sum : ∀ S : List En, setB S = true → ((countP S).map fun x => (versP S x).length).sum = S.length := by
  intro S
  induction hn : S.length using Nat.strongRecOn generalizing S with
  | _ n ih =>
    intro h
    cases S with
    | nil => simp [countP] at hn ⊢; exact hn
    | cons a t =>
      obtain ⟨g, h1, h2, h3⟩ := run_head a t
      obtain ⟨R, hR⟩ : ∃ R, (a :: t).drop (g.length + 1) = R := ⟨_, rfl⟩
      rw [hR] at h2 h3
      have hg : ∀ y ∈ a :: g, keyE y = keyE a := by
        intro y hy
        rw [← h1] at hy
        exact (cmpK_zero y a).1 (take_imp y a (a :: t) hy)
      have hset := h
      rw [h2] at hset
      have hRs : setB R = true := by rw [← hR]; exact setB_tail _ _ h
      have hlt : ∀ x ∈ a :: g, ∀ y ∈ R, cmpE x y < 0 := by
        intro x hx y hy
        obtain ⟨i, hi⟩ := List.mem_iff_getElem?.1 hx
        obtain ⟨j, hj⟩ := List.mem_iff_getElem?.1 hy
        have hil := (List.getElem?_eq_some_iff.1 hi).1
        exact setB_lt hset (i := i) (j := (a :: g).length + j) (by omega) (by rw [List.getElem?_append_left hil]; exact hi) (by rw [List.getElem?_append_right (by omega)]; rw [show (a :: g).length + j - (a :: g).length = j by omega]; exact hj)
      have hRk : ∀ y ∈ R, keyE y ≠ keyE a := by
        cases hRR : R with
        | nil => intro y hy; simp at hy
        | cons b r =>
          have hb : keyE b ≠ keyE a := by
            intro hk
            have h4 := (cmpK_zero b a).2 hk
            have h5 : runP (a :: t) a = (a :: g) ++ runP (b :: r) a := by
              conv => lhs; rw [h2]
              unfold runP
              rw [hRR, List.takeWhile_append_of_pos (fun x hx => by rw [beq_iff_eq]; exact cmpK_of_keys (hg x hx))]
            have h6 : runP (b :: r) a = b :: (r.takeWhile (fun x => cmpK x a == 0)) := by
              unfold runP
              rw [List.takeWhile_cons, if_pos (by rw [beq_iff_eq]; exact h4)]
            rw [h1, h6] at h5
            have := congrArg List.length h5
            simp at this
          intro y hy hk
          have h7 : cmpK a b ≤ 0 := cmpK_of_cmpE (Int.le_of_lt (hlt a (by simp) b (by rw [hRR]; simp)))
          have h8 : cmpK b y ≤ 0 := by
            rcases List.mem_cons.1 hy with rfl | hy
            · rw [cmpK_self]; omega
            · exact cmpK_of_cmpE (Int.le_of_lt (setB_first b r (by rw [← hRR]; exact hRs) y hy))
          have h9 := cmpK_of_keys hk
          have h10 : cmpK b a ≤ 0 := cmpK_trans h8 (by omega)
          have := cmpK_swap a b
          exact hb ((cmpK_zero b a).1 (by omega))
      have hlast : keyE ((a :: g).getLast (by simp)) = keyE a := hg _ (List.getLast_mem _)
      have hv1 : versP (a :: t) ((a :: g).getLast (by simp)) = a :: g := by
        conv => lhs; rw [h2]
        unfold versP
        rw [List.filter_append, List.filter_eq_self.2 (fun x hx => by rw [beq_iff_eq, cmpK_zero, hlast]; exact hg x hx), List.filter_eq_nil_iff.2 (fun x hx => by rw [beq_iff_eq, cmpK_zero, hlast]; exact hRk x hx), List.append_nil]
      have hv2 : (countP R).map (fun x => (versP (a :: t) x).length) = (countP R).map (fun x => (versP R x).length) := by
        refine List.map_congr_left (fun x hx => ?_)
        congr 1
        conv => lhs; rw [h2]
        unfold versP
        rw [List.filter_append, List.filter_eq_nil_iff.2 (fun y hy => by
          rw [beq_iff_eq, cmpK_zero, hg y hy]
          exact fun e => hRk x (count_sub x R hx) e.symm), List.nil_append]
      have hlen : (a :: t).length = g.length + 1 + R.length := by
        conv => lhs; rw [h2]
        simp; omega
      have := ih R.length (by omega) R rfl hRs
      rw [h3, List.map_cons, List.sum_cons, hv1, hv2, this]
      simp only [List.length_cons] at hlen hn ⊢
      omega
end Go.Proofs.YtpkmibmombpjpaaGreatDoor
namespace Go.Proofs.YtpkmibmombpjpaaGreatDoor
open Go Go.RowKit

variable {F : Fence} {n : Nat} {P : Program}

/-- The law of a range over a function, for an iterator that writes a cell of its own between two rounds, and an assignment that makes memory. -/
theorem wpIn_rangeFunc_ownD {α : Type} {g : Operand} {ps : Array Tmp} {assign body : Code} {Q : Exit → Act → World → Prop} {a : Act} {w : World}
    (hro : F.round = none) (h1 : 1 ≤ n) {gf : Nat} {lb : Array Value} (hg : a.eval g = .func (.func gf) #[] lb) (hFg : F.fn gf) (eg : ∀ args w, (callFunc gf args).run P w = .ok (.enter gf args) w)
    {encs : α → Array Value} {Kp : World → World → Prop} {S Sp : List α → Prop} {N : Nat} {w0 : World} {St : World → World → Prop} (hseq : SeqStopsC F (n - 1) P gf lb encs Kp St S Sp N w0)
    (hKt : ∀ {A B C : World}, Kp A B → Kp B C → Kp A C) (hKb : ∀ (W : World) (l : Nat) (o o' : Obj), w.heap.size ≤ l → W.heap[l]? = some o → o.isCells = false → o.isWalk = false → Kp W (W.putObj l o')) (hb0 : Below w0.heap.size w0 w) (hps : ∀ x, (encs x).size = ps.size)
    (I : List α → World → Prop) (Ix : Code → List α → World → Prop) (hSt : ∀ A B : World, St A B → ∀ (k : Nat) (o : Obj), w.heap.size ≤ k → A.heap[k]? = some o → B.heap[k]? = some o) (hI2 : ∀ (s : List α) (A B : World), I s A → St A B → I s B) (hIx2 : ∀ (c : Code) (s : List α) (A B : World), Ix c s A → St A B → Ix c s B) (hI : OwnFrom w.heap.size I) (hIx : ∀ c, OwnFrom w.heap.size (Ix c)) (h0 : I [] w) (R : α → Act → List α → World → Prop) (hR : ∀ x a1, OwnFrom w.heap.size (R x a1))
    (hassign : ∀ (l : Nat) (pre : List α) (x : α) (W : World) (K : Act → World → Prop), I pre W → pre.length < N → (∀ a1 W', KeepsFrom w.heap.size W W' → Kp W W' → R x a1 pre W' → K a1 W') →
      assign.wpIn (F.inRound l) (n - 1 - 1) P (Exit.then K (fun _ _ _ => False)) { tmps := (ps.zip (encs x)).foldl (fun t (p, v) => t.setIfInBounds p v) a.tmps, defers := [] } W)
    (hbody : ∀ (l : Nat) (pre : List α) (x : α) (a1 : Act) (W : World), R x a1 pre W → pre.length < N → body.wpIn (F.inRound l) (n - 1 - 1) P (ownPostG w.heap.size Kp I Ix (pre ++ [x]) W) a1 W)
    (hdone : ∀ (D : Nat) (xs : List α) (W : World), w.heap.size ≤ D → S xs → I xs W → W.heap[D]? = some (.deferred (some [])) → Q .normal { a with defers := { target := .collected D, args := #[] } :: a.defers } W)
    (hstop : ∀ (D : Nat) (c : Code) (pre : List α) (W : World), w.heap.size ≤ D → Sp pre → Ix c pre W → W.heap[D]? = some (.deferred (some [])) → c.wpIn F n P Q { a with defers := { target := .collected D, args := #[] } :: a.defers } W) :
    (Code.rangeFunc g ps assign body).wpIn F n P Q a w := by
  refine wpIn_rangeFunc ?_
  intro fn hfn
  rw [hro]
  obtain ⟨rec, hrec⟩ : ∃ rec : LoopState → Option Code → Loop, rec = fun st pe => { state := st, pending := pe, fn, tmps := a.tmps, params := ps, assign, body, defers := w.heap.size } := ⟨_, rfl⟩
  obtain ⟨W1, hW1⟩ : ∃ W1, (w.alloc (.deferred (some []))).alloc (.loop (rec .ready none)) = W1 := ⟨_, rfl⟩
  have hL1 : W1.heap[w.heap.size + 1]? = some (.loop (rec .ready none)) := by
    rw [← hW1]; have := World.alloc_heap_new (w.alloc (.deferred (some []))) (.loop (rec .ready none)); rwa [World.size_alloc] at this
  have hK1 : W1.heap[w.heap.size]? = some (.deferred (some [])) := by
    rw [← hW1]; exact (Below.heap_alloc _ _ _ (by simp)).trans (World.alloc_heap_new w _)
  have hI1 : I [] W1 := by rw [← hW1]; exact hI.alloc _ (hI.alloc _ h0)
  have hb1 : Below w0.heap.size w0 W1 := by
    rw [← hW1]; exact hb0.trans ((((Below.refl _ w).alloc (Nat.le_refl _) _).alloc (by simp) _).mono hb0.size)
  refine ⟨w.heap.size + 1, [{ target := .collected w.heap.size, args := #[] }], W1, { target := .fn (.func gf) lb, args := #[.func (.yield (w.heap.size + 1)) #[] #[]] }, W1, gf,
    #[.func (.yield (w.heap.size + 1)) #[] #[]] ++ lb, W1, ?_, ?_, ?_, ?_, fun _ => h1, ?_⟩
  · rw [← hW1, hrec]; exact run_enterLoop_outer _ _ _ _ _
  · simp only [resolve, hg]
    simp [go_sem]
  · intro f' hf'; simp [Target.leads] at hf'; subst hf'; exact hFg
  · simp [invoke, go_sem, eg]
  · -- THE ITERATOR's CONTRACT, AT THE CALLER's INVARIANT WITH THE TWO FACTS OF BOOK-KEEPING BESIDE IT
    have hnw : ∀ {A B : World} {row : Option Nat}, (∀ r, row = some r → W1.heap.size ≤ r ∧ ∃ o : Obj, A.heap[r]? = some o ∧ o.isWalk = true) → (∀ r, row = some r → w.heap.size ≤ r ∧ ∃ o : Obj, A.heap[r]? = some o ∧ o.isCells = false) :=
      fun hr r e => by obtain ⟨hB, o, ho, hw⟩ := hr r e; exact ⟨by rw [← hW1] at hB; simp at hB; omega, o, ho, Obj.not_cells_of_walk hw⟩
    refine (hseq (w.heap.size + 1)
      (fun pre W => I pre W ∧ W.heap[w.heap.size + 1]? = some (.loop (rec .ready none)) ∧ W.heap[w.heap.size]? = some (.deferred (some [])))
      (fun pre W => ∃ c, Ix c pre W ∧ W.heap[w.heap.size + 1]? = some (.loop (rec .done (some c))) ∧ W.heap[w.heap.size]? = some (.deferred (some [])))
      W1 hb1
      (fun s A B row hs hg' hr => ⟨hI s A B row hs.1 hg' (hnw (B := B) hr), (grownBy_keeps hg' (fun r e => (hr r e).2) hs.2.1 rfl).trans hs.2.1, (grownBy_keeps hg' (fun r e => (hr r e).2) hs.2.2 rfl).trans hs.2.2⟩)
      (fun s A B row hs hg' hr => by
        obtain ⟨c, hc, hl, hk⟩ := hs
        exact ⟨c, hIx c s A B row hc hg' (hnw (B := B) hr), (grownBy_keeps hg' (fun r e => (hr r e).2) hl rfl).trans hl, (grownBy_keeps hg' (fun r e => (hr r e).2) hk rfl).trans hk⟩)
      (fun s A B hs hst => ⟨hI2 s A B hs.1 hst, hSt A B hst _ _ (by omega) hs.2.1, hSt A B hst _ _ (Nat.le_refl _) hs.2.2⟩)
      (fun s A B hs hst => by
        obtain ⟨c, hc, hl, hk⟩ := hs
        exact ⟨c, hIx2 c s A B hc hst, hSt A B hst _ _ (by omega) hl, hSt A B hst _ _ (Nat.le_refl _) hk⟩)
      ?_ ⟨hI1, hL1, hK1⟩).mono ?_
    · -- ONE ROUND
      rintro pre x W ⟨hi, hl, hk⟩ hlen
      have hlt : w.heap.size + 1 < W.heap.size := (Array.getElem?_eq_some_iff.1 hl).1
      have hy := run_yield (P := P) (args := encs x) hl (by rw [hrec]; exact hps x)
      rw [hrec] at hy
      refine ⟨fn, _, assign, body, hy, roundIn_of_wpIn hfn (hassign _ pre x W _ hi hlen (fun a1 Wa hka hkpa hra => ?_))⟩
      have hla := hka.same _ _ (by omega) hl rfl
      have hkka := hka.same _ _ (Nat.le_refl _) hk rfl
      have hlta : w.heap.size + 1 < Wa.heap.size := (Array.getElem?_eq_some_iff.1 hla).1
      refine ⟨_, run_beginRound hla (by rw [hrec]), ?_⟩
      have hl2 : (Wa.putObj (w.heap.size + 1) (.loop { rec .ready none with state := .busy })).heap[w.heap.size + 1]? = some (.loop { rec .ready none with state := .busy }) := World.putObj_heap_same hlta
      have hk2 : (Wa.putObj (w.heap.size + 1) (.loop { rec .ready none with state := .busy })).heap[w.heap.size]? = some (.deferred (some [])) := (World.putObj_heap_other (by omega)).trans hkka
      have hw2 : Kp W (Wa.putObj (w.heap.size + 1) (.loop { rec .ready none with state := .busy })) := hKt hkpa (hKb _ _ _ _ (by omega) hla rfl rfl)
      refine wpIn_mono (hbody _ pre x a1 _ ((hR x a1).putObj _ hra (by omega) hla rfl) hlen) ?_
      have fin : ∀ (jump : Option Code) (W3 : World), KeepsFrom w.heap.size (Wa.putObj (w.heap.size + 1) (.loop { rec .ready none with state := .busy })) W3 →
          (Instr.endRound (w.heap.size + 1) jump).run P W3 = .ok (.bool jump.isNone) (W3.putObj (w.heap.size + 1) (.loop (rec (if jump.isNone then .ready else .done) jump))) ∧
          W3.heap[w.heap.size + 1]? = some (.loop { rec .ready none with state := .busy }) ∧
          (W3.putObj (w.heap.size + 1) (.loop (rec (if jump.isNone then .ready else .done) jump))).heap[w.heap.size + 1]? = some (.loop (rec (if jump.isNone then .ready else .done) jump)) ∧
          (W3.putObj (w.heap.size + 1) (.loop (rec (if jump.isNone then .ready else .done) jump))).heap[w.heap.size]? = some (.deferred (some [])) := fun jump W3 hk3 => by
        have hl3 := hk3.same _ _ (by omega) hl2 rfl
        have := run_endRound (P := P) jump hl3
        rw [hrec] at this ⊢
        exact ⟨this, by rw [hrec] at hl3; exact hl3, World.putObj_heap_same (Array.getElem?_eq_some_iff.1 hl3).1, (World.putObj_heap_other (by omega)).trans (hk3.same _ _ (Nat.le_refl _) hk2 rfl)⟩
      rintro e a3 W3 hp
      cases e with
      | normal =>
        obtain ⟨hk3, hkp3, hi3⟩ := hp
        obtain ⟨hr, hl3, hl4, hk4⟩ := fin none W3 hk3
        exact ⟨_, _, hr, .inl ⟨rfl, ⟨hI.putObj _ hi3 (by omega) hl3 rfl, hl4, hk4⟩, hKt (hKt hw2 hkp3) (hKb _ _ _ _ (by omega) hl3 rfl rfl)⟩⟩
      | ret =>
        obtain ⟨hk3, hi3⟩ := hp
        obtain ⟨hr, hl3, hl4, hk4⟩ := fin (some .ret) W3 hk3
        exact ⟨_, _, hr, .inr ⟨rfl, .ret, (hIx _).putObj _ hi3 (by omega) hl3 rfl, hl4, hk4⟩⟩
      | exit id =>
        obtain ⟨hk3, hi3⟩ := hp
        obtain ⟨hr, hl3, hl4, hk4⟩ := fin (some (.exit id)) W3 hk3
        exact ⟨_, _, hr, .inr ⟨rfl, .exit id, (hIx _).putObj _ hi3 (by omega) hl3 rfl, hl4, hk4⟩⟩
      | goto t =>
        obtain ⟨hk3, hi3⟩ := hp
        obtain ⟨hr, hl3, hl4, hk4⟩ := fin (some (.goto t)) W3 hk3
        exact ⟨_, _, hr, .inr ⟨rfl, .goto t, (hIx _).putObj _ hi3 (by omega) hl3 rfl, hl4, hk4⟩⟩
      | panic ch => exact hp.elim
      | outgrown => exact hp.elim
    · -- BEHIND THE ITERATOR
      rintro e W2 ⟨⟨v, rfl⟩, (⟨xs, hS, hi, hl, hk⟩ | ⟨pre, hSp, c, hi, hl, hk⟩)⟩
      · exact ⟨none, _, by have := run_endLoop (P := P) hl (by rw [hrec]; simp); rw [hrec] at this; exact this, hdone _ xs _ (Nat.le_refl _) hS (hI.putObj _ hi (by omega) hl rfl) ((World.putObj_heap_other (by omega)).trans hk)⟩
      · exact ⟨some c, _, by have := run_endLoop (P := P) hl (by rw [hrec]; simp); rw [hrec] at this; exact this, hstop _ c pre _ (Nat.le_refl _) hSp ((hIx c).putObj _ hi (by omega) hl rfl) ((World.putObj_heap_other (by omega)).trans hk)⟩

end Go.Proofs.YtpkmibmombpjpaaGreatDoor
namespace Go.Proofs.YtpkmibmombpjpaaGreatDoor
open Go Go.RowKit

section
variable {P : Program} {n l : Nat} {ops : Array Oper} {Q : Exit → Act → World → Prop}
theorem wpList_round (hQ : ¬ LetsOut Q) : ∀ (ls : List Oper) (a : Act) (w : World), (∀ o ∈ ls, ∀ c, o.op ≠ .defer c) → wpList P ops Q ls a w → wpListIn (Fence.wide.inRound l) n P ops Q ls a w
  | [], _, _, _, h => h
  | o :: r, a, w, hd, h => by
    unfold wpList at h
    unfold wpListIn
    split
    · rename_i hw
      rw [if_pos hw] at h
      rcases h with h | ⟨_, h⟩
      · exact Oper.wpIn_mono (fun a' w' h' => wpList_round hQ r a' w' (fun o ho => hd o (List.mem_cons_of_mem _ ho)) h') (Oper.wp_round (hd o (by simp)) h)
      · exact absurd h hQ
    · rename_i hw
      rw [if_neg hw] at h
      exact ⟨fun _ _ => trivial, wpList_round hQ r _ _ (fun o ho => hd o (List.mem_cons_of_mem _ ho)) h⟩
theorem round_region {id : Nat} {a : Act} {w : World} {ls : List Oper} (hd : noDefer ls.toArray = true) (h : wpList P ls.toArray (noOut Q) ls a w) : (Code.region id ls.toArray false).wpIn (Fence.wide.inRound l) n P Q a w := by
  refine Code.wpIn_mono (Q := noOut Q) (fun e a w h => h.2) ?_
  refine wpIn_region ?_
  rw [show ls.toArray.size = ls.length by simp, List.range_eq_range', wpOpsIn_eq_wpListIn ls 0 (fun j => by simp)]
  refine wpList_round (noOut_not Q) ls a w (fun o ho => ?_) h
  obtain ⟨i, hi⟩ := List.mem_iff_getElem?.1 ho
  exact noDefer_spec hd (i := i) (by simpa using hi)
end
end Go.Proofs.YtpkmibmombpjpaaGreatDoor
set_option linter.unusedSimpArgs false
namespace Go.Proofs.YtpkmibmombpjpaaGreatDoor
open Go Go.RowKit Go.Shelf
attribute [local go_sem] Oper.semAt_some

/-- An entry of a key, all else zero. -/
def keyN (r t b : Int) : En := gE r t b 0 0 0 false [] 0 0
/-- What Versions returns. -/
def versL (l : List En) (r t b : Int) : List En := if setB l then versP l (keyN r t b) else []
theorem versions_no (l : List En) (hin : ∀ e ∈ l, e.In) (hl : l.length ≤ 1000000) (hs : setB l = false) (r t b : Int) (v : Value) (w : World) (hv : ES w v l) : Calls Tryz.prog 24 #[v, .int .i64 r, .int .i64 t, .int .i64 b] w (fun x w' => x = .returned (.tuple #[.slice none 0 0, .int .i64 314]) ∧ Below w.heap.size w w') := by
  obtain ⟨A, cp, rfl, -⟩ := hv.len
  have IS := Lib.hid (isSet_any l hin hl _ w hv)
  rw [hs] at IS
  clear hv
  refine (callsIn_wide (n := 3)).1 ?_
  refine callsIn_of_wp_marks Tryz.func24 rfl trivial ?_ rfl
  simp only [Tryz.ntmps24, List.size_toArray, List.length_cons, List.length_nil, Nat.reduceAdd, Nat.reduceSub, Array.replicate_succ, Array.replicate_zero, List.push_toArray, List.append_toArray, List.nil_append, List.cons_append]
  refine wpIn_wide.2 ?_
  go_wp2_with fail
  refine IS.out.mono ?_
  rintro x w2 ⟨rfl, hb⟩
  have HB := Lib.hid hb
  clear hb IS
  go_wp2_with fail
  exact ⟨_, results_tmp2 rfl _ _ _, rfl, HB.out⟩
/-- What lies in memory in the loop of Versions. -/
structure VW (w : World) (B0 p : Nat) (c : List En) (W : World) : Prop where
  own : ∃ A m cp, W.ownsRow B0 34 33 (.slice A m cp) c.length (flat enC c) ∧ Blk W p 40 #[.slice A m cp]
  below : Below w.heap.size w W
  hp : w.heap.size ≤ p ∧ p < B0
  sz : B0 ≤ W.heap.size
theorem VW.keep {w W W' : World} {B0 p : Nat} {c : List En} (h : VW w B0 p c W) (hb : Below W.heap.size W W') : VW w B0 p c W' := by
  obtain ⟨A, m, cp, h1, h2⟩ := h.own
  exact ⟨⟨A, m, cp, own_keep h1 hb, h2.keep hb h2.lt⟩, h.below.trans (hb.mono h.below.size), h.hp, Nat.le_trans h.sz hb.size⟩
theorem VW.turn {w W W' : World} {B0 p : Nat} {c : List En} {row : Option Nat} (h : VW w B0 p c W) (hg : W.grownBy W' row) (hrow : ∀ r, row = some r → B0 ≤ r ∧ ∃ o : Obj, W.heap[r]? = some o ∧ o.isCells = false) : VW w B0 p c W' := by
  obtain ⟨A, m, cp, h1, h2⟩ := h.own
  refine ⟨⟨A, m, cp, h1.kept hg ?_, ?_⟩, h.below.grown hg h.below.size (fun k e => by have := (hrow k e).1; have := h.hp; omega), h.hp, Nat.le_trans h.sz hg.size⟩
  · rcases h1.2 with ⟨e1, _⟩ | ⟨g, cap, cur, e1, _, hgb, _⟩
    · exact .inl (by rw [e1]; rfl)
    · refine .inr fun e' => ?_
      obtain ⟨_, o, ho, hc⟩ := hrow g (by rw [e1] at e'; simpa [Value.ownBlock] using e'.symm)
      rw [hgb] at ho; cases ho; cases hc
  · have h3 : Boxed W p 40 (.slice A m cp) := h2
    exact h3.kept hg (fun e' => by
      obtain ⟨_, o, ho, hc⟩ := hrow p e'.symm
      rw [show W.heap[p]? = _ from h2] at ho; cases ho; cases hc)
theorem blk_turn {W W' : World} {b : Nat} {T : TypeId} {C : Array Value} {row : Option Nat} {B0 : Nat} (h : Blk W b T C) (hg : W.grownBy W' row) (hrow : ∀ r, row = some r → B0 ≤ r ∧ ∃ o : Obj, W.heap[r]? = some o ∧ o.isCells = false) : Blk W' b T C :=
  (hg.block b h.lt (fun e' => by
      obtain ⟨_, o, ho, hc⟩ := hrow b e'.symm
      rw [show W.heap[b]? = _ from h] at ho; cases ho; cases hc)).trans h
theorem foldl2 (T : Array Value) (p q : Tmp) (u v : Value) : ((#[p, q] : Array Tmp).zip #[u, v]).foldl (fun t (x : Tmp × Value) => t.setIfInBounds x.1 x.2) T = (T.setIfInBounds p u).setIfInBounds q v := by simp
theorem flat_l' (M : List En) : (flat enC M).length = M.length * 33 := flat_len (enc := enC) (sz := 33) enC_size M
theorem ent_one' (l : List En) : ∀ u ∈ flat enC l, u.oneCell' = true := by
  intro u hu
  obtain ⟨x, _, hx⟩ := List.mem_flatMap.1 hu
  have h1 := enC_one x
  rw [Array.all_eq_true_iff_forall_mem] at h1
  exact h1 u (by simpa using hx)
/-- alloc of an entry, in one step. -/
theorem op_alloc {ops : Array Oper} {rest : List Oper} {o : Oper} {a : Act} {Q : Exit → Act → World → Prop} {W : World} (T : TypeId) (C : Array Value) (hg : o.guard = none) (_ : o.op = .alloc T)
    (hr : (execOp a.eval o).run Tryz.prog W = .ok (.value (.pointer (some ⟨W.heap.size, 0, none⟩))) (W.alloc (.cells C T)))
    (h : wpList Tryz.prog ops Q rest (a.put o.dst (.pointer (some ⟨W.heap.size, 0, none⟩))) (W.alloc (.cells C T))) : wpList Tryz.prog ops Q (o :: rest) a W := by
  refine wpList_plain hg fun K hK => ?_
  unfold Oper.wp
  rw [hr, Oper.upon_value]
  exact hK _ _ h
/-- An append to the row of Versions. -/
theorem vw_app {w W w5 : World} {B0 p : Nat} {c : List En} {e : En} {A1 : Option Addr} {m1 c1 : Nat} {u2 : Value} (h : VW w B0 p c W) (ho : W.ownsRow B0 34 33 (.slice A1 m1 c1) c.length (flat enC c)) (hb : Blk W p 40 #[.slice A1 m1 c1])
    (hg : (W.alloc (.cells (flat enC [e]).toArray 34)).grownBy w5 (Value.slice A1 m1 c1).ownBlock) (_ : w5.ownsRow B0 34 33 u2 (c.length + 1) (flat enC c ++ flat enC [e])) :
    KeepsOthers W w5 ∧ Blk w5 p 40 #[.slice A1 m1 c1] ∧ Below w.heap.size W w5 ∧ (∀ k, k < B0 → w5.heap[k]? = W.heap[k]?) := by
  have key : ∀ k, (Value.slice A1 m1 c1).ownBlock = some k → B0 ≤ k ∧ ∃ o : Obj, W.heap[k]? = some o ∧ o.isCells = true := by
    intro k hk
    rcases ho.2 with ⟨e1, _⟩ | ⟨g, cap, cur, e1, hg1, hgb, _⟩
    · rw [e1] at hk; cases hk
    · rw [e1] at hk
      obtain rfl : g = k := by simpa [Value.ownBlock] using hk
      exact ⟨hg1, _, hgb, rfl⟩
  have hsz := h.sz
  have hpp := h.hp
  have hsame : ∀ k, k < B0 → w5.heap[k]? = W.heap[k]? := fun k hk => by
    rw [hg.block k (by rw [size_al]; omega) (fun e' => by have := (key k e'.symm).1; omega), Below.heap_alloc _ _ _ (by omega)]
  refine ⟨(KeepsOthers.alloc W _).trans (KeepsOthers.of_grownBy hg (fun j _ hj hjo => ?_)), ?_, ?_, hsame⟩
  · obtain ⟨_, o', ho', hc'⟩ := key j hj
    rw [Below.heap_alloc _ _ _ (Array.getElem?_eq_some_iff.1 ho').1, ho'] at hjo
    cases hjo; exact hc'
  · exact (hsame p hpp.2).trans hb
  · exact ((Below.refl w.heap.size W).alloc (by omega) _).grown hg (by rw [size_al]; omega) (fun k hk => by have := (key k hk).1; omega)
set_option maxRecDepth 100000 in
set_option maxHeartbeats 4000000 in
theorem versions_yes (l : List En) (hin : ∀ e ∈ l, e.In) (hl : l.length ≤ 1000000) (hs : setB l = true) (r t b : Int) (v : Value) (w : World) (hv : ES w v l) : Calls Tryz.prog 24 #[v, .int .i64 r, .int .i64 t, .int .i64 b] w (fun x w' => ∃ u, x = .returned (.tuple #[u, .int .i64 0]) ∧ w'.ownsRow w.heap.size 34 33 u (versP l (keyN r t b)).length (flat enC (versP l (keyN r t b))) ∧ Below w.heap.size w w') := by
  obtain ⟨i0, z0, hi0, hz0, hz1, hz2, hz3⟩ := info_parts_ent
  have HV := Lib.hid hv
  obtain ⟨A, cp, rfl, -⟩ := hv.len
  have IS := Lib.hid (isSet_any l hin hl _ w hv)
  rw [hs] at IS
  have HMO := Lib.hid (setB_mono hs)
  obtain ⟨N, hN⟩ : ∃ N, l.length = N := ⟨_, rfl⟩
  rw [hN] at hl HV IS ⊢
  have HN := Lib.hid (And.intro hN hl)
  have OK := Lib.hid (fun W => ofKey_any (.slice A N cp) rfl (keyN r t b) W)
  clear hv hs hin hN hl
  refine (callsIn_wide (n := 3)).1 ?_
  refine callsIn_of_wp_marks Tryz.func24 rfl trivial ?_ rfl
  simp only [Tryz.ntmps24, List.size_toArray, List.length_cons, List.length_nil, Nat.reduceAdd, Nat.reduceSub, Array.replicate_succ, Array.replicate_zero, List.push_toArray, List.append_toArray, List.nil_append, List.cons_append]
  refine wpIn_wide.2 ?_
  go_wp2_with fail
  refine IS.out.mono ?_
  rintro x w1 ⟨rfl, hb⟩
  have HB1 := Lib.hid hb
  clear IS hb
  go_wp2_with (refine op_build 34 _ (enC (keyN r t b)) rfl rfl (by kernel_rfl) ?_)
  refine (OK.out _).mono ?_
  rintro x w4 ⟨p, q, rfl, hp, hq, hpp, hpq, hb4⟩
  have hsz := HB1.out.size
  rw [size_al] at hpp
  obtain ⟨p0, hp0⟩ : ∃ p0, w1.heap.size = p0 := ⟨_, rfl⟩
  have HX0 : Hid (Blk w4 p0 40 #[.slice none 0 0]) := Lib.hid (hp0 ▸ (Blk.new w1 40 #[.slice none 0 0]).keep hb4 (by simp))
  have HBW : Hid (Below w.heap.size w w4) := Lib.hid (HB1.out.trans (((below1 w1 _).trans (hb4.mono (by simp))).mono hsz))
  rw [hp0] at hpp hsz ⊢
  clear OK hb4 HB1 hp0
  clear w1
  go_wp2_with fail
  have hq4 := hq.lt
  have HV0 : Hid (VW w w4.heap.size p0 [] w4) := Lib.hid ⟨⟨_, _, _, World.ownsRow_nil _ _ _ _, HX0.out⟩, HBW.out, ⟨hsz, by omega⟩, Nat.le_refl _⟩
  refine (wpIn_wide (n := 3)).1 ?_
  refine wpIn_rangeFunc_ownD rfl (by omega) (gf := 78) (lb := #[.pointer (some ⟨p, 0, none⟩), .pointer (some ⟨q, 0, none⟩)]) rfl trivial (enters_of Tryz.func78 (by kernel_rfl) rfl)
    (ofKey1_stops _ (by omega) w w4 p q _ l (keyN r t b) (by have := HN.out; omega) HMO.out HV.out HBW.out (by omega) hpq hp hq) KpK.trans (fun W l o o' hl ho _ _ => kpK_put (M := w4.heap.size) (by have := HBW.out.size; omega) (by omega) hq4 W l o o' hl ho) (Below.refl _ _) (fun _ => rfl)
    (fun (pre : List KE) (W : World) => VW w w4.heap.size p0 (pre.map KE.e) W) (fun _ _ _ => False) (fun A B hS i o hi hA => (hS.block i (Array.getElem?_eq_some_iff.1 hA).1).trans hA) (fun s A B h hS => VW.keep h hS) (fun _ _ _ _ h _ => h)
    (fun s A B row h hg hr => VW.turn h hg hr) (fun _ _ _ _ _ h _ _ => h) HV0.out
    (fun (x : KE) (a1 : Act) (pre : List KE) (W : World) => VW w w4.heap.size p0 (pre.map KE.e) W ∧ ∃ bx, Blk W bx 34 (enC x.e) ∧ a1 = { tmps := #[.slice A N cp, .int .i64 r, .int .i64 t, .int .i64 b, undef, undef, undef, undef, .slice none 0 0, .int .i64 0, .pointer (some ⟨p0, 0, none⟩), undef, .pointer (some ⟨bx, 0, none⟩), .slice A N cp, .bool true, .bool false, .slice A N cp, .int .i64 r, .int .i64 t, .int .i64 b, .agg (enC (keyN r t b)), .func (.func 78) #[] #[.pointer (some ⟨p, 0, none⟩), .pointer (some ⟨q, 0, none⟩)], .int .i64 ((x.i : Nat) : Int), .agg (enC x.e), undef, undef, undef, undef, undef], defers := [] })
    (fun x a1 s A B row h hg hr => ⟨VW.turn h.1 hg hr, by obtain ⟨bx, h1, h2⟩ := h.2; exact ⟨bx, blk_turn h1 hg hr, h2⟩⟩) ?assign ?body ?done ?stop
  case assign =>
    intro lp pre x W K hi hlen hK
    have HI := Lib.hid hi
    have HK := Lib.hid hK
    clear hi hK hlen HV HMO
    simp only [encK]
    have st := storeAt_row (T := 34) (C := enC x.e) (Blk.new W 34 (enC zE)) (by rw [enC_size]; kernel_rfl) (by rw [enC_size, enC_size]) (enC_one x.e)
    rw [setRow_new] at st
    rw [foldl2]
    refine round_region (by kernel_rfl) ?_
    refine op_alloc (W := W) 34 (enC zE) rfl rfl (by kernel_rfl) ?_
    refine op_store (p := .pointer (some ⟨W.heap.size, 0, none⟩)) (C := .agg (enC x.e)) 34 (.tmp 12) (.tmp 23) rfl rfl rfl rfl rfl st ?_
    refine ⟨fun h => (by cases h), ?_⟩
    have hsz2 := HI.out.sz
    exact HK.out _ _ ((KeepsOthers.alloc W _).from _) ⟨(Below.refl _ W).alloc (by have := HBW.out.size; omega) _, Below.heap_alloc _ _ _ (by omega), Below.heap_alloc _ _ _ (by omega)⟩ ⟨HI.out.keep (below1 W _), W.heap.size, Blk.new W _ _, rfl⟩
  case body =>
    rintro lp pre x a1 W ⟨hi, bx, hbx, rfl⟩ hlen
    obtain ⟨A1, m1, c1, ho, hb1⟩ := hi.own
    have HI := Lib.hid hi
    have HO := Lib.hid ho
    have HL := Lib.hid hlen
    obtain ⟨e, he⟩ : ∃ e, x.e = e := ⟨_, rfl⟩
    obtain ⟨c, hc⟩ : ∃ c, pre.map KE.e = c := ⟨_, rfl⟩
    have hcl : c.length = pre.length := by rw [← hc, List.length_map]
    have hce : (pre ++ [x]).map KE.e = c ++ [e] := by rw [List.map_append, hc, List.map_singleton, he]
    have HCE := Lib.hid hce
    rw [he] at hbx ⊢
    rw [hc] at HO HI
    have hcn : c.length + 1 ≤ 1000000 := by have h1 := HN.out; omega
    have x10 : W.cell? ⟨p0, 0, none⟩ = some (.slice A1 m1 c1) := hb1.cell (j := 0) rfl
    have lb := loadAt_blk hbx Tryz.underlying34 rfl (by rw [enC_size]; kernel_rfl)
    have HBK := Lib.hid (And.intro hbx hb1)
    have HSR : Hid (SrcR (W.alloc (.cells (flat enC [e]).toArray 34)) 33 (.slice (some ⟨W.heap.size, 0, none⟩) 1 1) 1 (flat enC [e])) := Lib.hid (.some_ W.heap.size 0 1 1 _ (flat_l' [e]) (fun j u hj => by
      rw [Nat.zero_add]
      exact (Blk.new W 34 (flat enC [e]).toArray).cell (by rw [List.getElem?_toArray]; exact hj)))
    have HO2 := Lib.hid (HO.out.alloc (.cells (flat enC [e]).toArray 34))
    have hsz3 : w4.heap.size ≤ (W.alloc (.cells (flat enC [e]).toArray 34)).heap.size := by rw [size_al]; have := HI.out.sz; omega
    clear hi ho hb1 hbx hlen he hc hce HV HMO HV0 hcl
    refine wpIn_block ?_
    refine round_region (by kernel_rfl) ?_
    go_wp2_with (first
      | (refine op_load (p := .pointer (some ⟨bx, 0, none⟩)) (C := .agg (enC e)) 34 (.tmp 12) rfl rfl rfl lb ?_)
      | (refine op_bsl 40 34 1 _ (flat enC [e]).toArray rfl rfl (by kernel_rfl) ?_)
      | (at_builtin; refine appS rfl _ _ rfl Tryz.underlying40 hi0 hz0 hz1 hz2 hz3 (by decide) _ w4.heap.size (.slice A1 m1 c1) c.length (flat enC c) rfl HO2.out (.slice (some ⟨W.heap.size, 0, none⟩) 1 1) 1 (flat enC [e]) rfl HSR.out (ent_one' [e]) hcn (by decide) hsz3 ?_; intro u2 w5 hown5 hgrow5 hob5 hb5; obtain ⟨g5, c5', rfl, hg5, hc5⟩ := own_some hown5 (by omega); have HX5 := Lib.hid (vw_app HI.out HO.out HBK.out.2 hgrow5 hown5); have y10 : w5.cell? ⟨p0, 0, none⟩ = some (.slice A1 m1 c1) := HX5.out.2.1.cell (j := 0) rfl; have f10 := HX5.out.2.1.free 0))
    refine ⟨fun h => (by cases h), ?_⟩
    have h5 := HX5.out
    have hpp := HI.out.hp
    have hW0 := HBW.out.size
    have hown6 : (w5.setCell ⟨p0, 0, none⟩ (.slice (some ⟨g5, 0, none⟩) (c.length + 1) c5')).ownsRow w4.heap.size 34 33 (.slice (some ⟨g5, 0, none⟩) (c.length + 1) c5') (c ++ [e]).length (flat enC (c ++ [e])) := by
      have hbx : Boxed w5 p0 40 (.slice A1 m1 c1) := h5.2.1
      rw [List.length_append, List.length_singleton, flat_app]
      exact hown5.kept (grownBy_setCell' w5 p0 _) (.inr (fun e' => by
        have : g5 = p0 := by simpa [Value.ownBlock] using e'
        omega))
    refine ⟨(h5.1.trans (KeepsOthers.setCell w5 ⟨p0, 0, none⟩ _)).from _, ⟨h5.2.2.1.setCell (p := ⟨p0, 0, none⟩) hpp.1 _, ?_, ?_⟩, ?_⟩
    · rw [Below.heap_setCell _ _ _ _ (by show p ≠ p0; omega)]; exact h5.2.2.2 p (by omega)
    · rw [Below.heap_setCell _ _ _ _ (by show q ≠ p0; omega)]; exact h5.2.2.2 q (by omega)
    · show VW w w4.heap.size p0 ((pre ++ [x]).map KE.e) _
      rw [HCE.out]
      exact ⟨⟨_, _, _, hown6, h5.2.1.set 0 _⟩, (HI.out.below.trans h5.2.2.1).setCell (p := ⟨p0, 0, none⟩) hpp.1 _, hpp, by have := HI.out.sz; have := h5.1.size; simp; omega⟩
  case done =>
    rintro D xs W hD ⟨k', hsp, hxe, hxi⟩ hi hKD
    rw [run_vers HMO.out hsp] at hxe
    rw [hxe] at hi
    obtain ⟨A1, m1, c1, ho, hb1⟩ := hi.own
    have x10 : W.cell? ⟨p0, 0, none⟩ = some (.slice A1 m1 c1) := hb1.cell (j := 0) rfl
    have HI := Lib.hid (And.intro ho hi.below)
    have HKD := Lib.hid (And.intro hD hKD)
    clear hi hb1 hKD hxi hsp ho HV0 HX0 HV HMO
    go_wp2_with fail
    show LeavesInM _ _ _ _ _ _ ([D].map mkD) .returning W
    exact leave_marks (fun W' => W'.ownsRow w4.heap.size 34 33 (.slice A1 m1 c1) (versP l (keyN r t b)).length (flat enC (versP l (keyN r t b))) ∧ Below w.heap.size w W') (fun W' h => ⟨_, results_tmp2 rfl _ _ _, _, rfl, own_le h.1 HBW.out.size, h.2⟩) [D] W (by simp)
      (fun D' hD' W' h hk => ⟨ownsRow_putObj h.1 _ hk rfl, h.2.grown (grownBy_putObj' W' D' _) h.2.size (fun i e => by
        cases e
        obtain rfl : D' = D := by simpa using hD'
        have := HKD.out.1
        have := HBW.out.size
        omega)⟩) HI.out (fun D' hD' => by
        obtain rfl : D' = D := by simpa using hD'
        exact HKD.out.2)
  case stop =>
    rintro D c pre W hD hpre hf hK
    exact hf.elim
/-- Versions of any list. -/
theorem versions_any (l : List En) (hin : ∀ e ∈ l, e.In) (hl : l.length ≤ 1000000) (r t b : Int) (v : Value) (w : World) (hv : ES w v l) : Calls Tryz.prog 24 #[v, .int .i64 r, .int .i64 t, .int .i64 b] w (fun x w' => ∃ u, x = .returned (.tuple #[u, .int .i64 (if setB l then 0 else 314)]) ∧ w'.ownsRow w.heap.size 34 33 u (versL l r t b).length (flat enC (versL l r t b)) ∧ Below w.heap.size w w') := by
  unfold versL
  cases hs : setB l with
  | true => exact versions_yes l hin hl hs r t b v w hv
  | false => exact (versions_no l hin hl hs r t b v w hv).mono (fun x w' h => ⟨_, h.1, World.ownsRow_nil _ _ _ _, h.2⟩)
end Go.Proofs.YtpkmibmombpjpaaGreatDoor
