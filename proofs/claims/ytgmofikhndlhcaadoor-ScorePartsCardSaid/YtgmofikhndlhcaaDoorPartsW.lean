/- ScoreParts: walk and plain law joined. -/
import Derived.Test.YtgmofikhndlhcaaDoorParts
namespace Go.Proofs.YtgmofikhndlhcaaDoor
open Go.RowKit

theorem pts_pair {q : Int × Int} (h : (q.2 == 0) = true) : q = (q.1, 0) := Prod.ext rfl (by simpa using h)
theorem parts_walk (n : Nat) (v : Bool) (w : World) (hE : Env w) (hn : n < 4294967296) :
    Calls Tryd.prog 8 #[.int .u32 n, .bool v] w fun e w' => e = .returned (.bool true) ∧ Below w.heap.size w w' := by
  have MC := Lib.hid (fun w => made_c n w hn)
  have hok := made_ok n
  generalize madeL n = l at *
  generalize madeD n = d at *
  generalize madeR n = r at *
  generalize madeS n = s at *
  generalize madeK n = k at *
  rcases Nat.lt_or_ge l 2 with hl | hl
  · exact parts_low n l d r s k v w hE MC hl
  · obtain ⟨_, h7, hd, hr, hs, hk⟩ : 1 ≤ l ∧ l ≤ 7 ∧ d ≤ 4 ∧ r ≤ 2 ∧ s ≤ 3 ∧ k ≤ 13 := by omega
    refine parts_hi n l (l - 1) d r s k v w hE MC hl h7 hd hr hs (by omega) (ptsP l d 0 s k v).1 (ptsP (l - 1) d 0 s k v).1 (bonusP l d v) rfl ?_ (ptsP_le _ _ _ _ _ _).1 (ptsP_le _ _ _ _ _ _).2 (lastP l d v) ?_ rfl ?_
    · intro hkl h6 h7'
      have hf := part_fin ⟨l - 2, by omega⟩ ⟨d, by omega⟩ ⟨k, by omega⟩
      simp only [Nat.sub_add_cancel hl] at hf
      have hf : partB l d k v = true := by cases v; exact hf.1; exact hf.2
      unfold partB at hf
      rw [decide_eq_false (by omega), Bool.false_or, Bool.and_eq_true, Bool.and_eq_true] at hf
      obtain ⟨⟨f1, f2⟩, f3⟩ := hf
      have e1 := ptsP_s l d 0 s (k : Nat) v (by omega) hs
      have e2 := ptsP_s (l - 1) d 0 s (k : Nat) v (by omega) hs
      rw [e1, e2]
      refine ⟨ofc_mk _ _ _ _ _ _ _ (by omega) ?_, ofc_mk _ _ _ _ _ _ _ (by omega) ?_, by simpa using f3⟩
      · rw [e1]; exact pts_pair f1
      · rw [e2]; exact pts_pair f2
    · intro j hj1 hj2
      have hf := loss_fin ⟨l - 2, by omega⟩ ⟨d, by omega⟩ ⟨j - 1, by omega⟩
      simp only [Nat.sub_add_cancel hl, Nat.sub_add_cancel hj1] at hf
      have hf : lossB l d j v = true := by cases v; exact hf.1; exact hf.2
      unfold lossB at hf
      rw [decide_eq_false (by omega), Bool.false_or, Bool.and_eq_true] at hf
      obtain ⟨f1, f2⟩ := hf
      have e1 := ptsP_s l d 1 s ((6 + l - j : Nat) : Int) v (by omega) hs
      have hL : lastP l d v j = (ptsP l d 1 0 ((6 + l - j : Nat) : Int) v).1 := if_neg (by omega)
      refine ⟨ofc_mk _ _ _ _ _ _ _ (by omega) ?_, ?_⟩
      · rw [e1, hL]; exact pts_pair f1
      · rw [hL]; simpa using f2
    · intro j
      unfold lastP
      split
      · omega
      · exact ptsP_le _ _ _ _ _ _
end Go.Proofs.YtgmofikhndlhcaaDoor
