/- A good line by its text; scanning at a place. Plain Lean, no program. -/
import Derived.Test.YtbompgfjlllioaaDoorJScanP
namespace Go.Proofs.YtbompgfjlllioaaDoor

theorem split_line (l : List UInt8) (h : 4 < l.length) : l = l.take 4 ++ [l.getD 4 0] ++ l.drop 5 := by
  conv => lhs; rw [← List.take_append_drop 5 l]
  rw [List.take_add_one, List.getD_eq_getElem?_getD, List.getElem?_eq_getElem h]
  rfl
/-- A line is good exactly if it is what Line says of its text. -/
theorem good_line (x : Nat) (l : List UInt8) (h : 4 < l.length) : goodL x l = (rightL (l.drop 5) && (lineL x (l.drop 5) == l ++ [10])) := by
  unfold goodL lineL
  rw [decide_eq_true h, Bool.true_and]
  generalize hc : figL (sumL x (l.drop 5)) = F
  have hF : F.length = 4 := by rw [← hc]; rfl
  have hl := split_line l h
  have hT : (l.take 4).length = 4 := by simp; omega
  rcases hr : rightL (l.drop 5) with _ | _
  · simp
  · simp only [Bool.and_true, Bool.true_and]
    by_cases he : F ++ [32] ++ l.drop 5 ++ [10] = l ++ [10]
    · rw [beq_iff_eq.2 he]
      have h2 := (List.append_cancel_right he).trans hl
      have h3 := List.append_cancel_right h2
      obtain ⟨h4, h5⟩ := List.append_inj h3 (by rw [hF, hT])
      have h6 : (32 : UInt8) = l.getD 4 0 := by simpa using h5
      rw [← h6, ← h4]
      simp
    · rw [beq_eq_false_iff_ne.2 he]
      by_cases h6 : l.getD 4 0 = 32
      · by_cases h4 : l.take 4 = F
        · exact absurd (congrArg (· ++ [10]) ((congrArg (fun z : List UInt8 × UInt8 => z.1 ++ [z.2] ++ l.drop 5) (Prod.ext h4.symm h6.symm : ((F, 32) : List UInt8 × UInt8) = (l.take 4, l.getD 4 0))).trans hl.symm)) he
        · rw [beq_eq_false_iff_ne.2 h4, Bool.and_false]
      · rw [beq_eq_false_iff_ne.2 h6, Bool.false_and]
theorem good_short (x : Nat) (l : List UInt8) (h : l.length ≤ 4) : goodL x l = false := by
  unfold goodL; rw [decide_eq_false (by omega)]; rfl
theorem good_wrong (x : Nat) (l : List UInt8) (h : 4 < l.length) (hr : rightL (l.drop 5) = false) : goodL x l = false := by
  rw [good_line x l h, hr]; rfl
theorem good_other (x : Nat) (l : List UInt8) (h : 4 < l.length) (hr : lineL x (l.drop 5) ≠ l ++ [10]) : goodL x l = false := by
  rw [good_line x l h, beq_eq_false_iff_ne.2 hr, Bool.and_false]
theorem good_same (x : Nat) (l : List UInt8) (h : 4 < l.length) (hr : rightL (l.drop 5) = true) (he : lineL x (l.drop 5) = l ++ [10]) : goodL x l = true := by
  rw [good_line x l h, hr, beq_iff_eq.2 he]; rfl
/-- A scan that stands behind the lines pre. -/
structure At (bs : List UInt8) (pre : List (List UInt8)) (S : Sc) : Prop where
  lines : pre ++ linesL (bs.drop S.size) = linesL bs
  scan : scanS pre = S
  ok : S.ok = true
  le : S.size ≤ bs.length
theorem At.start (bs : List UInt8) : At bs [] Sc.start := ⟨rfl, rfl, rfl, Nat.zero_le _⟩
/-- Nothing but bytes of no line. -/
theorem At.none {bs : List UInt8} {pre : List (List UInt8)} {S : Sc} (h : At bs pre S) (hn : ∀ c ∈ bs.drop S.size, c ≠ 10) : scanS (linesL bs) = S := by
  have : linesL (bs.drop S.size) = [] := linesA_no [] _ hn
  rw [← h.lines, this, List.append_nil, h.scan]
theorem first_line {r : List UInt8} {i : Nat} (hi : i < r.length) (hc : r[i] = 10) (hn : ∀ c ∈ r.take i, c ≠ 10) : linesL r = r.take i :: linesL (r.drop (i + 1)) := by
  have : r = r.take i ++ 10 :: r.drop (i + 1) := by
    conv => lhs; rw [← List.take_append_drop i r, List.drop_eq_getElem_cons hi, hc]
  unfold linesL
  conv => lhs; rw [this]
  rw [linesA_first [] _ _ hn]; rfl
theorem At.bad {bs : List UInt8} {pre : List (List UInt8)} {S : Sc} (h : At bs pre S) {i : Nat} (hi : i < (bs.drop S.size).length) (hc : (bs.drop S.size)[i] = 10) (hn : ∀ c ∈ (bs.drop S.size).take i, c ≠ 10)
    (hg : goodL S.last ((bs.drop S.size).take i) = false) : scanS (linesL bs) = ⟨S.recs, S.last, S.size, false⟩ := by
  have h1 := first_line hi hc hn
  have h2 : scanS (pre ++ [(bs.drop S.size).take i]) = ⟨S.recs, S.last, S.size, false⟩ := by rw [scanS_snoc, h.scan, step_bad h.ok hg]
  rw [← h.lines, h1, show pre ++ (bs.drop S.size).take i :: linesL ((bs.drop S.size).drop (i + 1)) = (pre ++ [(bs.drop S.size).take i]) ++ linesL ((bs.drop S.size).drop (i + 1)) by simp, scanS_bad _ _ (by rw [h2]), h2]
theorem At.good {bs : List UInt8} {pre : List (List UInt8)} {S : Sc} (h : At bs pre S) {i : Nat} (hi : i < (bs.drop S.size).length) (hc : (bs.drop S.size)[i] = 10) (hn : ∀ c ∈ (bs.drop S.size).take i, c ≠ 10)
    (hg : goodL S.last ((bs.drop S.size).take i) = true) : At bs (pre ++ [(bs.drop S.size).take i]) ⟨S.recs ++ [((bs.drop S.size).take i).drop 5], sumL S.last (((bs.drop S.size).take i).drop 5), S.size + i + 1, true⟩ := by
  have h1 := first_line hi hc hn
  have hl : ((bs.drop S.size).take i).length = i := by simp at hi ⊢; omega
  refine ⟨?_, ?_, rfl, ?_⟩
  · rw [← h.lines, h1]
    simp only [List.append_assoc, List.cons_append, List.nil_append, List.drop_drop]
    rw [show S.size + (i + 1) = S.size + i + 1 by omega]
  · rw [scanS_snoc, h.scan, step_ok h.ok hg, hl]
  · simp at hi; show S.size + i + 1 ≤ _; omega
end Go.Proofs.YtbompgfjlllioaaDoor
