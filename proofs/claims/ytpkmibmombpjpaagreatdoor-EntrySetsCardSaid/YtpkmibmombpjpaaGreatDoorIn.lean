/- A drawn region in a round of a range over a function, at the fence that asks nothing: what holds of it plainly holds there. No program. -/
import Derived.Test.YtpkmibmombpjpaaGreatDoorSeg
import Derived.RangeFuncBox
import Derived.OrdersIn
import Derived.RangeFuncCalls
namespace Go.Proofs.YtpkmibmombpjpaaGreatDoor
open Go
section
variable {P : Program} {n l : Nat} {ops : Array Oper} {Q : Exit → Act → World → Prop}

/-- The same, and no exit for want of room. -/
def noOut (Q : Exit → Act → World → Prop) : Exit → Act → World → Prop := fun e a w => e ≠ .outgrown ∧ Q e a w
theorem noOut_not (Q : Exit → Act → World → Prop) : ¬ LetsOut (noOut Q) := fun ⟨_, _, h⟩ => h.1 rfl
def noDefer (ops : Array Oper) : Bool := ops.all fun o => match o.op with
  | .defer _ => false
  | _ => true
theorem noDefer_spec {o : Oper} {i : Nat} (h : noDefer ops = true) (hi : ops[i]? = some o) : ∀ c, o.op ≠ .defer c := by
  intro c hc
  have := Array.all_eq_true_iff_forall_mem.1 h o (Array.mem_of_getElem? hi)
  simp [hc] at this
theorem rows_round {row : String} {args : Array Value} {w : World} {R : Value → World → Prop} (h : Rows P row args w R) : RowsIn (Fence.wide.inRound l) n P row args w R :=
  fun c cs _ => by
    obtain ⟨v, w', hr, hs⟩ := h c cs
    exact ⟨v, w', hr, (StepsIn.of_steps hs).mono fun m _ => fenced_wide P m⟩
theorem Oper.wp_round {o : Oper} {a : Act} {w : World} {K : Act → World → Prop} (hd : ∀ c, o.op ≠ .defer c) (h : o.wp P a w K Q) : o.wpIn (Fence.wide.inRound l) n P a w K Q := by
  unfold Oper.wpIn
  refine ⟨fun _ _ => trivial, ?_⟩
  rw [Fence.inRound_round, Oper.semAt_some l _ _ hd]
  unfold Oper.wp at h
  generalize (execOp a.eval o).run P w = r at *
  cases r with
  | ok x w' =>
    cases x <;> simp only [Oper.upon, Oper.uponIn] at h ⊢
    case enter => exact ⟨fun hx => (by cases hx), CallsIn.mono (CallsIn.inRound l (callsIn_wide.2 h)) (fun e w'' he => by cases e <;> exact he)⟩
    all_goals first
      | exact h
      | exact ⟨fun hx => (by cases hx), CallsIn.mono (CallsIn.inRound l (callsIn_wide.2 h)) (fun e w'' he => by cases e <;> exact he)⟩
      | exact ⟨fun hx => (by cases hx), rows_round h⟩
  | halt x w' => cases x <;> simp only [Oper.upon, Oper.uponIn] at h ⊢ <;> exact h
theorem wpAny_round (hd : noDefer ops = true) (hQ : ¬ LetsOut Q) : ∀ (f : Nat) (listed : Array Bool) (a : Act) (w : World), wpAny P .any ops Q f listed a w → wpAnyIn (Fence.wide.inRound l) n P .any ops Q f listed a w := by
  intro f
  induction f with
  | zero => intro listed a w h; exact h
  | succ f ih =>
    intro listed a w h
    refine ⟨h.1, fun i hi => ?_⟩
    refine wpOpIn_mono (fun a' w' h' => ih _ a' w' h') ?_
    have h2 := h.2 i hi
    unfold wpOp at h2
    unfold wpOpIn
    split
    · rename_i h0; simpa [h0] using h2
    · rename_i o h0
      simp only [h0] at h2
      split
      · rename_i hw
        simp only [hw, if_true] at h2
        rcases h2 with h2 | ⟨_, h2⟩
        · exact Oper.wp_round (noDefer_spec hd h0) h2
        · exact absurd h2 hQ
      · rename_i hw
        simp only [hw] at h2
        exact ⟨fun _ _ => trivial, h2⟩
/-- In pieces: rest_begin for a round. -/
theorem rest_round {id : Nat} {a : Act} {w : World} {ls : List Oper} (hm : P.follows .mixedOrders = true) (hd : noDefer ls.toArray = true) (h : Rest P ls (noOut Q) 0 a w.drew) : (Code.region id ls.toArray true).wpIn (Fence.wide.inRound l) n P Q a w := by
  refine Code.wpIn_mono (Q := noOut Q) (fun e a w h => h.2) ?_
  refine wpIn_region_any hm (wpAny_round hd (noOut_not Q) _ _ _ _ ?_)
  rw [show ls.toArray.size = ls.length by simp, doneTo_zero]
  unfold Rest at h
  simpa using h
end
end Go.Proofs.YtpkmibmombpjpaaGreatDoor
