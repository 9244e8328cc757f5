/- A region in the text's order whose operations only read and call quietly, walked by the quiet walk's cheap steps. No program. -/
import Derived.Test.YtidpfggikighlaaDoorQt
import Derived.BigQuiet
namespace Go.Proofs.YtidpfggikighlaaDoor
open Go
section
variable {P : Program} {ops : Array Oper} {C : World → Prop}
theorem list_of_quiet {Q : Exit → Act → World → Prop} {L : Act → Prop} (hL : ∀ a w, C w → L a → Q .normal a w) : ∀ (l : List Oper) (a : Act) (w : World), C w → wpQuiet P ops C L l a → wpList P ops Q l a w
  | [], a, w, hC, h => hL a w hC h
  | o :: rest, a, w, hC, h => by
    unfold wpQuiet at h
    unfold wpList
    split
    · rename_i hw
      simp only [hw, if_true] at h
      exact .inl (Oper.wp_of_quiet hC (fun a' w' hC' h' => list_of_quiet hL rest a' w' hC' h') h)
    · rename_i hw
      simp only [hw] at h
      exact list_of_quiet hL rest _ w hC h
theorem plain_quiet {id : Nat} {Q : Exit → Act → World → Prop} {a : Act} {w : World} {l : List Oper} (l2 : List Oper) (hl : l = l2)
    (h : wpQuiet P l2.toArray (fun w' => ∃ n, w' = w.drewN n) (fun a' => ∀ w', (∃ n, w' = w.drewN n) → Q .normal a' w') l2 a) : (Code.region id l.toArray false).wp P Q a w := by
  subst hl
  refine wp_region_list ?_
  exact list_of_quiet (C := fun w' => ∃ n, w' = w.drewN n) (L := fun a' => ∀ w', (∃ n, w' = w.drewN n) → Q .normal a' w') (fun a' w' hC h => h w' hC) _ _ _ ⟨0, rfl⟩ (by simpa using h)
end
end Go.Proofs.YtidpfggikighlaaDoor
