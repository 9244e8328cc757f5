/- The flow of a drawn region in which a store into an own block stands among other operations: what is kept from step to step is a relation of one's own. No program. -/
import Derived.Test.YtpkmibmombpjpaaGreatDoorFlM
namespace Go.Proofs.YtpkmibmombpjpaaGreatDoor
open Go Go.RowKit
section
variable {P : Program} {ops : Array Oper}
/-- What each step leaves. -/
structure Gr where
  r : World → World → Prop
  refl : ∀ w, r w w
  trans : ∀ {a b c}, r a b → r b c → r a c
/-- What each operation of a piece must do, from any world that has come of W. -/
def flowStepsG (P : Program) (G : Gr) (full : Array Oper) (W : World) (sp : Nat → Value → World → Prop) (Q : Exit → Act → World → Prop) (k : Nat) (u : Nat → Value) (a' : Act) : Nat → List Oper → Prop
  | _, [] => True
  | j, o :: r => (∀ w', G.r W w' → (∀ e ∈ o.after, Region.binds .any e = true → k ≤ e.on → sp e.on (u e.on) w') →
      ∀ K : Act → World → Prop, (∀ v w'', sp j v w'' → G.r w' w'' → K (a'.put o.dst v) w'') → wpList P full (Exit.then K Q) [o] a' w') ∧ flowStepsG P G full W sp Q k u a' (j + 1) r
theorem flowStepsG_at {G : Gr} {full : Array Oper} {W : World} {sp : Nat → Value → World → Prop} {Q : Exit → Act → World → Prop} {k : Nat} {u : Nat → Value} {a' : Act} : ∀ (r : List Oper) (j i : Nat) (o : Oper), flowStepsG P G full W sp Q k u a' j r → j ≤ i → r[i - j]? = some o →
    (∀ w', G.r W w' → (∀ e ∈ o.after, Region.binds .any e = true → k ≤ e.on → sp e.on (u e.on) w') →
      ∀ K : Act → World → Prop, (∀ v w'', sp i v w'' → G.r w' w'' → K (a'.put o.dst v) w'') → wpList P full (Exit.then K Q) [o] a' w')
  | [], _, _, _, _, _, h => by simp at h
  | x :: r, j, i, o, hs, hj, h => by
    rcases Nat.eq_or_lt_of_le hj with rfl | hlt
    · obtain rfl : x = o := by simpa using h
      exact hs.1
    · refine flowStepsG_at r (j + 1) i o hs.2 (by omega) ?_
      rw [show i - j = (i - (j + 1)) + 1 by omega] at h
      simpa using h
structure FlowInvG (G : Gr) (ops : Array Oper) (W : World) (sp : Nat → Value → World → Prop) (k n : Nat) (b : Array Bool) (u : Nat → Value) (w' : World) : Prop where
  head : HeadInv .any ops n b
  low : ∀ j, j < k → b.getD j false = true
  vals : ∀ j, k ≤ j → j < n → b.getD j false = true → sp j (u j) w'
  below : G.r W w'
theorem flow_anyG {G : Gr} {full : List Oper} {W : World} {sp : Nat → Value → World → Prop} {Q : Exit → Act → World → Prop} {k m : Nat} {ds : List (Option Tmp)} {a : Act}
    (hs : sinkFrom full.toArray k (k + m) = true) (hc : tailFrom full.toArray (k + m) = true) (hn : k + m < full.length) (hbk : backB full.toArray (k + m) = true)
    (hds : ((full.drop k).take m).map (·.dst) = ds) (hdd : distinctB ds = true)
    (hup : ∀ j v w1 w2, sp j v w1 → G.r w1 w2 → sp j v w2)
    (hstep : ∀ u, flowStepsG P G full.toArray W sp Q k u (putRow u k ds a) k ((full.drop k).take m))
    (hend : ∀ u w', G.r W w' → (∀ j, k ≤ j → j < k + m → sp j (u j) w') → Rest P full Q (k + m) (putRow u k ds a) w') :
    ∀ (f : Nat) (b : Array Bool) (u : Nat → Value) (w' : World), left b (k + m) = f → FlowInvG G full.toArray W sp k (k + m) b u w' → wpAny P .any full.toArray Q (f + (full.length - (k + m))) b (putRow u k ds a) w' := by
  intro f
  induction f with
  | zero =>
    intro b u w' hl inv
    have hall := left_zero hl
    have hb : b = doneTo full.toArray.size (k + m) := by
      apply Array.ext_getElem?
      intro j
      rw [doneTo_get (by simp; omega)]
      rcases Nat.lt_or_ge j b.size with hj | hj
      · have hjs : j < full.toArray.size := by rw [← inv.head.size]; exact hj
        by_cases h1 : j < k + m
        · rw [if_pos h1]
          have := hall j h1
          simpa [Array.getD_eq_getD_getElem?, hj] using this
        · rw [if_neg h1, if_pos hjs]
          have := inv.head.tail j (by omega) hjs
          simpa [Array.getD_eq_getD_getElem?, hj] using this
      · have hjs : ¬ j < full.toArray.size := by rw [← inv.head.size]; omega
        rw [Array.getElem?_eq_none hj, if_neg (by simp at hjs; omega), if_neg hjs]
    have := hend u w' inv.below (fun j h1 h2 => inv.vals j h1 h2 (hall j h2))
    unfold Rest at this
    rw [hb, Nat.zero_add]
    simpa using this
  | succ f ih =>
    intro b u w' hl inv
    obtain ⟨j0, hj0, hu0, hb0⟩ := left_some (b := b) (n := k + m) (by omega)
    have hbsz : b.size = full.length := by rw [inv.head.size]; simp
    have hkj0 : k ≤ j0 := by
      rcases Nat.lt_or_ge j0 k with h | h
      · rw [inv.low j0 h] at hu0; cases hu0
      · exact h
    have hun0 : b.getD j0 true = false := getD_in (by omega) hu0
    have hr0 : j0 ∈ Region.ready .any full.toArray b := by
      have h1 := List.all_eq_true.1 hbk j0 (List.mem_range.2 hj0)
      cases ho : full.toArray[j0]? with
      | none => simp only [ho] at h1; cases h1
      | some o =>
        simp only [ho] at h1
        refine mem_ready.2 ⟨hun0, o, ho, fun e he hb => ?_⟩
        have h2 := Array.all_eq_true_iff_forall_mem.1 h1 e he
        simp only [hb, Bool.not_true, Bool.false_or, decide_eq_true_eq] at h2
        exact hb0 _ h2
    rw [Nat.succ_add]
    refine ⟨fun e => (by rw [e] at hr0; cases hr0), fun i hi => ?_⟩
    obtain ⟨hun, oi, hoi, hall⟩ := mem_ready.1 hi
    have hin : i < k + m := by
      rcases Nat.lt_or_ge i (k + m) with h | h
      · exact h
      · exact absurd hi (tail_waits2 hs hc (by simpa using hn) inv.head _ j0 rfl hkj0 hj0 hun0 i h)
    have hki : k ≤ i := by
      rcases Nat.lt_or_ge i k with h | h
      · have := inv.low i h
        rw [getD_both hun] at this; cases this
      · exact h
    have hoil : full[i]? = some oi := by simpa using hoi
    have hoi2 : ((full.drop k).take m)[i - k]? = some oi := by
      rw [List.getElem?_take, if_pos (by omega), List.getElem?_drop, show k + (i - k) = i by omega]
      exact hoil
    have hdi : ds[i - k]? = some oi.dst := by rw [← hds, List.getElem?_map, hoi2]; rfl
    have hst := flowStepsG_at _ k i oi (hstep u) hki hoi2 w' inv.below (fun e he hb hke => by
      have hdone := hall e he hb
      have hlt : e.on < k + m := by
        rcases Nat.lt_or_ge e.on (k + m) with h | h
        · exact h
        · rcases Nat.lt_or_ge e.on full.toArray.size with h2 | h2
          · have := inv.head.tail e.on h h2
            rw [getD_both this] at hdone; cases hdone
          · have : b.getD e.on false = false := by simp [Array.getD_eq_getD_getElem?, Array.getElem?_eq_none (show b.size ≤ e.on by rw [inv.head.size]; exact h2)]
            rw [this] at hdone; cases hdone
      exact inv.vals e.on hke hlt hdone)
      (fun a2 w2 => wpAny P .any full.toArray Q (f + (full.length - (k + m))) (b.setIfInBounds i true) a2 w2)
      (fun v w'' hv hbl => by
        rw [putRow_set ds k i a oi.dst hdd hki hdi]
        refine ih (b.setIfInBounds i true) (upd u i v) w'' (by have := left_set hin hun; omega) ⟨inv.head.set hi hin, fun j hj => ?_, fun j h1 h2 hd => ?_, G.trans inv.below hbl⟩
        · rw [getD_set_ne false (by omega)]; exact inv.low j hj
        · by_cases hji : j = i
          · subst hji
            rw [show upd u j v j = v by simp [upd]]
            exact hv
          · rw [show upd u i v j = u j by simp [upd, hji]]
            rw [getD_set_ne false (Ne.symm hji)] at hd
            exact hup j _ _ _ (inv.vals j h1 h2 hd) hbl)
    exact wpOp_of_list hoi hst
/-- A piece of m operations from the k-th on; sp j says what is known of the j-th one's value. -/
theorem rest_flow_atG {G : Gr} {W : World} (ds : List (Option Tmp)) (sp : Nat → Value → World → Prop) (m : Nat) {Q : Exit → Act → World → Prop} {a : Act} {l : List Oper} {k : Nat}
    (hB : (decide (k + m < l.length) && sinkFrom l.toArray k (k + m) && tailFrom l.toArray (k + m) && closedTo l.toArray k && backB l.toArray (k + m) && distinctB ds && ds.all (fun d => match d with | some d => decide (d < a.tmps.size) | none => true)) = true)
    (hds : ((l.drop k).take m).map (·.dst) = ds)
    (hup : ∀ j v w1 w2, sp j v w1 → G.r w1 w2 → sp j v w2)
    (hstep : ∀ u, flowStepsG P G l.toArray W sp Q k u (putRow u k ds a) k ((l.drop k).take m))
    (hend : ∀ u w', G.r W w' → (∀ j, k ≤ j → j < k + m → sp j (u j) w') → Rest P l Q (k + m) (putRow u k ds a) w') : Rest P l Q k a W := by
  simp only [Bool.and_eq_true, decide_eq_true_eq] at hB
  obtain ⟨⟨⟨⟨⟨⟨hk, hs⟩, hc⟩, hcl⟩, hbk⟩, hdd⟩, hsz⟩ := hB
  obtain ⟨u, hu⟩ := putRow_self a ds k (fun d hd => by
    have := List.all_eq_true.1 hsz (some d) hd
    simpa using this)
  have hleft : left (doneTo l.length k) (k + m) = m := by
    unfold left
    have : (List.range (k + m)).filter (undone (doneTo l.length k)) = (List.range m).map (k + ·) := by
      rw [List.range_add, List.filter_append]
      have h1 : (List.range k).filter (undone (doneTo l.length k)) = [] := by
        rw [List.filter_eq_nil_iff]
        intro j hj
        have := doneTo_get (m := l.length) (k := k) (by omega) j
        rw [if_pos (List.mem_range.1 hj)] at this
        simp [undone, Array.getD_eq_getD_getElem?, this]
      rw [h1, List.nil_append, List.filter_eq_self]
      intro j hj
      obtain ⟨x, hx, rfl⟩ := List.mem_map.1 hj
      have := doneTo_get (m := l.length) (k := k) (by omega) (k + x)
      rw [if_neg (by omega), if_pos (by have := List.mem_range.1 hx; omega)] at this
      simp [undone, Array.getD_eq_getD_getElem?, this]
    rw [this]; simp
  have H := flow_anyG (P := P) (Q := Q) (a := a) hs hc hk hbk hds hdd hup hstep hend m (doneTo l.length k) u W hleft
    ⟨by have := inv_doneTo (ops := l.toArray) (k := k) (n := k + m) (by omega) (by simpa using hk) hcl; simpa using this,
     fun j hj => by
      have := doneTo_get (m := l.length) (k := k) (by omega) j
      rw [if_pos hj] at this
      simp [Array.getD_eq_getD_getElem?, this],
     fun j h1 h2 hd => by
      have := doneTo_get (m := l.length) (k := k) (by omega) j
      rw [if_neg (by omega), if_pos (by omega)] at this
      simp [Array.getD_eq_getD_getElem?, this] at hd,
     G.refl _⟩
  rw [hu] at H
  unfold Rest
  rw [show l.length - k = m + (l.length - (k + m)) by omega]
  exact H
structure SpG (G : Gr) where
  p : Value → World → Prop
  up : ∀ v w1 w2, p v w1 → G.r w1 w2 → p v w2
def SpG.is {G : Gr} (x : Value) : SpG G := ⟨fun v _ => v = x, fun _ _ _ h _ => h⟩
def SpG.any {G : Gr} : SpG G := ⟨fun _ _ => True, fun _ _ _ h _ => h⟩
def spAtG {G : Gr} (sps : List (SpG G)) (k : Nat) (j : Nat) : Value → World → Prop := (sps.getD (j - k) SpG.any).p
theorem rest_flowG (G : Gr) {W : World} (ds : List (Option Tmp)) (sps : List (SpG G)) (m : Nat) {Q : Exit → Act → World → Prop} {a : Act} {l : List Oper} {k : Nat}
    (hB : (decide (k + m < l.length) && sinkFrom l.toArray k (k + m) && tailFrom l.toArray (k + m) && closedTo l.toArray k && backB l.toArray (k + m) && distinctB ds && ds.all (fun d => match d with | some d => decide (d < a.tmps.size) | none => true)) = true)
    (hds : ((l.drop k).take m).map (·.dst) = ds)
    (hstep : ∀ u F, F = putRow u k ds a → flowStepsG P G l.toArray W (spAtG sps k) Q k u F k ((l.drop k).take m))
    (hend : ∀ u w', G.r W w' → (∀ j, k ≤ j → j < k + m → spAtG sps k j (u j) w') → Rest P l Q (k + m) (putRow u k ds a) w') : Rest P l Q k a W :=
  rest_flow_atG (G := G) ds (spAtG sps k) m hB hds (fun _ _ _ _ h hr => (sps.getD _ SpG.any).up _ _ _ h hr) (fun u => hstep u _ rfl) hend
theorem op_skip {o : Oper} {a : Act} {w w' : World} {K : Act → World → Prop} {Q : Exit → Act → World → Prop} (hg : o.guard = none) (hd : o.dst = none) (hrun : (execOp a.eval o).run P w = .ok .skip w') (hK : K (a.put o.dst undef) w') : wpList P ops (Exit.then K Q) [o] a w := by
  refine wpList_plain hg fun K' hK' => ?_
  unfold Oper.wp
  rw [hrun, Oper.upon_skip, hd]
  rw [hd] at hK
  exact hK' _ _ hK
/-- Below B all is kept; the block b has the cells C or, from some step on, C'; other known blocks keep theirs. -/
def grBlk (B b : Nat) (t : TypeId) (C C' : Array Value) : Gr where
  r w1 w2 := Below B w1 w2 ∧ (∀ x t' c, x ≠ b → Blk w1 x t' c → Blk w2 x t' c) ∧ (Blk w1 b t C' → Blk w2 b t C') ∧ (Blk w1 b t C → Blk w2 b t C ∨ Blk w2 b t C')
  refl _ := ⟨Below.refl _ _, fun _ _ _ _ h => h, id, Or.inl⟩
  trans h1 h2 := ⟨h1.1.trans h2.1, fun x t' c hx h => h2.2.1 x t' c hx (h1.2.1 x t' c hx h), fun h => h2.2.2.1 (h1.2.2.1 h), fun h => (h1.2.2.2 h).elim h2.2.2.2 (fun h => Or.inr (h2.2.2.1 h))⟩
theorem grBlk_below {B b : Nat} {t : TypeId} {C C' : Array Value} {w1 w2 : World} (h : Below w1.heap.size w1 w2) (hB : B ≤ w1.heap.size) : (grBlk B b t C C').r w1 w2 :=
  ⟨h.mono hB, fun _ _ _ _ hx => hx.keep h hx.lt, fun hx => hx.keep h hx.lt, fun hx => Or.inl (hx.keep h hx.lt)⟩
def SpG.cells {B b : Nat} {t : TypeId} {C C' : Array Value} : SpG (grBlk B b t C C') := ⟨fun _ w => Blk w b t C', fun _ _ _ h hr => hr.2.2.1 h⟩
/-- A store of one cell: from C to C', or once more. -/
theorem grBlk_set {B b : Nat} {t : TypeId} {C C' : Array Value} {w1 : World} {i : Nat} {v : Value} (hB : B ≤ b) (h : Blk w1 b t C ∨ Blk w1 b t C') (h1 : C.setIfInBounds i v = C') (h2 : C'.setIfInBounds i v = C') :
    Blk (w1.setCell ⟨b, i, none⟩ v) b t C' ∧ (grBlk B b t C C').r w1 (w1.setCell ⟨b, i, none⟩ v) := by
  have hs : Blk (w1.setCell ⟨b, i, none⟩ v) b t C' := by
    rcases h with h | h
    · have := h.set i v; rwa [h1] at this
    · have := h.set i v; rwa [h2] at this
  exact ⟨hs, (Below.refl _ _).setCell (p := ⟨b, i, none⟩) hB v, fun x t' c hx hk => hk.other hx i v, fun _ => hs, fun _ => Or.inr hs⟩
end
end Go.Proofs.YtpkmibmombpjpaaGreatDoor
