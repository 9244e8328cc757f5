/- A log that is cut, one byte of it changed, two exchanged, a line left out: what a scan finds. Plain Lean, no program. -/
import Derived.Test.YtbompgfjlllioaaDoorJLogP
namespace Go.Proofs.YtbompgfjlllioaaDoor

theorem right_take {l : List (List UInt8)} (h : ∀ t ∈ l, rightL t = true) (k : Nat) : ∀ t ∈ l.take k, rightL t = true := fun t ht => h t (List.mem_of_mem_take ht)
/-- The bytes of a log up to n: whole lines, and something without a byte 10. -/
theorem cut_take (l : List (List UInt8)) (h : ∀ t ∈ l, rightL t = true) (n k : Nat) (hk : k ≤ l.length) (h1 : sizeA (l.take k) ≤ n) (h2 : k < l.length → n < sizeA (l.take (k + 1))) (hn : n ≤ sizeA l) :
    ∃ q, (logA 1 l).take n = logA 1 (l.take k) ++ q ∧ (∀ c ∈ q, c ≠ 10) ∧ q.length = n - sizeA (l.take k) := by
  by_cases hlt : k < l.length
  · have h3 := h2 hlt
    rw [sizeA_take_next l k hlt] at h3
    refine ⟨(bodyL (lastA 1 (l.take k)) l[k]).take (n - sizeA (l.take k)), ?_, fun c hc => bodyL_no (h _ (List.getElem_mem hlt)) c (List.mem_of_mem_take hc), ?_⟩
    · rw [logA_split 1 l k hlt, lineL_body, List.take_append, logA_len, List.take_of_length_le (by rw [logA_len]; exact h1), List.append_assoc, List.take_append_of_le_length (by rw [bodyL_len]; omega)]
    · rw [List.length_take, bodyL_len]; omega
  · obtain rfl : k = l.length := by omega
    rw [List.take_length] at h1 ⊢
    exact ⟨[], by rw [List.take_of_length_le (by rw [logA_len]; omega), List.append_nil], by simp, by simp; omega⟩
theorem cut_scan (l : List (List UInt8)) (h : ∀ t ∈ l, rightL t = true) (n k : Nat) (hk : k ≤ l.length) (h1 : sizeA (l.take k) ≤ n) (h2 : k < l.length → n < sizeA (l.take (k + 1))) (hn : n ≤ sizeA l) :
    scanS (linesL ((logA 1 l).take n)) = ⟨l.take k, lastA 1 (l.take k), sizeA (l.take k), true⟩ := by
  obtain ⟨q, e, hq, _⟩ := cut_take l h n k hk h1 h2 hn
  rw [e]; exact scan_cut _ _ (right_take h k) hq
/-- A line with the check of another text, or behind another check, is damaged. -/
theorem bad_text {x y : Nat} {t u : List UInt8} (hn : sumL x t ≠ sumL y u) : goodL x (figL (sumL y u) ++ [32] ++ t) = false := by
  rcases hg : goodL x (figL (sumL y u) ++ [32] ++ t) with _ | _
  · rfl
  · obtain ⟨h1, _⟩ := good_body hg
    have hd : (figL (sumL y u) ++ [32] ++ t).drop 5 = t := List.drop_left' rfl
    rw [hd] at h1
    have h2 := congrArg (List.take 4) h1
    rw [bodyL_take, List.append_assoc, List.take_left' (figL_len _)] at h2
    exact absurd (figL_inj _ _ (sumL_lt _ _) (sumL_lt _ _) h2).symm hn
theorem list_at {α : Type} (t : List α) (j : Nat) (h : j < t.length) : t = t.take j ++ t[j] :: t.drop (j + 1) := by
  conv => lhs; rw [← List.take_append_drop j t, List.drop_eq_getElem_cons h]
theorem set_at {α : Type} (t : List α) (j : Nat) (h : j < t.length) (c : α) : t.set j c = t.take j ++ c :: t.drop (j + 1) := by
  rw [List.set_eq_take_append_cons_drop, if_pos h]
/-- One byte changed. -/
theorem one_scan (l : List (List UInt8)) (h : ∀ t ∈ l, rightL t = true) (n k : Nat) (hk : k < l.length) (h1 : sizeA (l.take k) ≤ n) (h2 : n < sizeA (l.take (k + 1))) (c d : UInt8) (hc : (logA 1 l)[n]? = some c) (hc1 : c ≠ 10) (hd : d ≠ 10) (hcd : d ≠ c) :
    scanS (linesL ((logA 1 l).set n d)) = ⟨l.take k, lastA 1 (l.take k), sizeA (l.take k), false⟩ := by
  rw [sizeA_take_next l k hk] at h2
  have hr := h _ (List.getElem_mem hk)
  obtain ⟨x, hx⟩ : ∃ x, lastA 1 (l.take k) = x := ⟨_, rfl⟩
  have hxl : x < 9973 := by rw [← hx]; exact lastA_lt _
  obtain ⟨t, ht⟩ : ∃ t, l[k] = t := ⟨_, rfl⟩
  obtain ⟨R, hR⟩ : ∃ R, logA (sumL (lastA 1 (l.take k)) l[k]) (l.drop (k + 1)) = R := ⟨_, rfl⟩
  obtain ⟨j, hj⟩ : ∃ j, n = sizeA (l.take k) + j := ⟨n - sizeA (l.take k), by omega⟩
  have hs := logA_split 1 l k hk
  rw [hR, hx, ht, lineL_body, List.append_assoc] at hs
  rw [ht] at h2 hr
  have hb := bodyL_len x t
  have hjb : j < (bodyL x t).length := by
    rcases Nat.lt_or_ge j (bodyL x t).length with h3 | h3
    · exact h3
    · have hjj : j = (bodyL x t).length := by omega
      rw [hs, List.getElem?_append_right (by rw [logA_len]; omega), logA_len, hj, Nat.add_sub_cancel_left, List.getElem?_append_right (by omega), hjj, Nat.sub_self] at hc
      exact absurd (by simpa using hc.symm) hc1
  have hcj : (bodyL x t)[j] = c := by
    rw [hs, List.getElem?_append_right (by rw [logA_len]; omega), logA_len, hj, Nat.add_sub_cancel_left, List.getElem?_append_left hjb, List.getElem?_eq_getElem hjb] at hc
    exact Option.some.inj hc
  have hset : (logA 1 l).set n d = logA 1 (l.take k) ++ ((bodyL x t).set j d ++ 10 :: R) := by
    rw [hs, List.set_append_right _ _ (by rw [logA_len]; omega), logA_len, hj, Nat.add_sub_cancel_left, List.set_append_left _ _ hjb]; rfl
  rw [hset]
  rw [← hx]
  refine scan_bad _ _ _ (right_take h k) (fun y hy => ?_) ?_
  · rcases List.mem_or_eq_of_mem_set hy with h3 | h3
    · exact bodyL_no hr y h3
    · rw [h3]; exact hd
  rw [hx]
  rcases hg : goodL x ((bodyL x t).set j d) with _ | _
  · rfl
  obtain ⟨g1, g2⟩ := good_body hg
  by_cases h5 : j < 5
  · have e : ((bodyL x t).set j d).drop 5 = t := by
      rw [List.drop_set, if_pos h5, bodyL_drop]
    rw [e] at g1
    have := congrArg (fun z => z[j]?) g1
    simp only [List.getElem?_set_self hjb, List.getElem?_eq_getElem hjb, hcj] at this
    exact absurd (Option.some.inj this) hcd
  · have hjt : j - 5 < t.length := by omega
    have e : ((bodyL x t).set j d).drop 5 = t.set (j - 5) d := by
      rw [List.drop_set, if_neg h5, bodyL_drop]
    rw [e] at g1 g2
    have g3 := congrArg (List.take 4) g1
    rw [bodyL_take, List.take_set_of_le (by omega), bodyL_take] at g3
    have g4 := figL_inj _ _ (sumL_lt _ _) (sumL_lt _ _) g3
    have hct : t[j - 5] = c := by
      have : (bodyL x t)[j]? = t[j - 5]? := by
        unfold bodyL
        rw [List.getElem?_append_right (by simp [figL_len]; omega)]
        simp [figL_len]
      rw [List.getElem?_eq_getElem hjb, List.getElem?_eq_getElem hjt, hcj] at this
      exact (Option.some.inj this).symm
    have e1 := list_at t (j - 5) hjt
    have e2 := set_at t (j - 5) hjt d
    rw [hct] at e1
    rw [e2] at g4 g2
    have hco : okB c = true := List.all_eq_true.1 (rightL_all hr) c (by rw [← hct]; exact List.getElem_mem hjt)
    have hdo : okB d = true := List.all_eq_true.1 (rightL_all g2) d (by simp)
    exact absurd ((congrArg (sumL x) e1).symm.trans g4) (sum_byte x hxl _ _ c d hco hdo (fun e => hcd e.symm))
/-- Two neighbouring bytes of a record exchanged. -/
theorem swap_scan (l : List (List UInt8)) (h : ∀ t ∈ l, rightL t = true) (i k : Nat) (hi : i < l.length) (t : List UInt8) (ht : l[i] = t) (hk : k + 1 < t.length) (hn : t[k] ≠ t[k + 1]) :
    scanS (linesL (((logA 1 l).set (sizeA (l.take i) + 5 + k) t[k + 1]).set (sizeA (l.take i) + 6 + k) t[k])) = ⟨l.take i, lastA 1 (l.take i), sizeA (l.take i), false⟩ := by
  have hr := h _ (List.getElem_mem hi)
  obtain ⟨x, hx⟩ : ∃ x, lastA 1 (l.take i) = x := ⟨_, rfl⟩
  have hxl : x < 9973 := by rw [← hx]; exact lastA_lt _
  have hs := logA_split 1 l i hi
  obtain ⟨R, hR⟩ : ∃ R, logA (sumL (lastA 1 (l.take i)) l[i]) (l.drop (i + 1)) = R := ⟨_, rfl⟩
  rw [hR, hx, lineL_body, List.append_assoc] at hs
  rw [ht] at hr hs
  obtain ⟨c, hc⟩ : ∃ c, t[k] = c := ⟨_, rfl⟩
  obtain ⟨d, hd⟩ : ∃ d, t[k + 1] = d := ⟨_, rfl⟩
  have e1 : t = t.take k ++ c :: d :: t.drop (k + 2) := by
    conv => lhs; rw [← List.take_append_drop k t, List.drop_eq_getElem_cons (by omega : k < t.length), List.drop_eq_getElem_cons hk, hc, hd]
  have hlk : (t.take k).length = k := by simp; omega
  have e2 : (t.set k d).set (k + 1) c = t.take k ++ d :: c :: t.drop (k + 2) := by
    conv => lhs; rw [e1]
    rw [List.set_append_right _ _ (by omega), hlk, Nat.sub_self, List.set_append_right _ _ (by omega), hlk, show k + 1 - k = 1 by omega]
    rfl
  have hco : okB c = true := List.all_eq_true.1 (rightL_all hr) c (by rw [← hc]; exact List.getElem_mem _)
  have hdo : okB d = true := List.all_eq_true.1 (rightL_all hr) d (by rw [← hd]; exact List.getElem_mem _)
  rw [hc, hd] at hn ⊢
  have hF : (figL (sumL x t) ++ [32]).length = 5 := rfl
  have hset : ((logA 1 l).set (sizeA (l.take i) + 5 + k) d).set (sizeA (l.take i) + 6 + k) c = logA 1 (l.take i) ++ ((figL (sumL x t) ++ [32] ++ (t.set k d).set (k + 1) c) ++ 10 :: R) := by
    rw [hs, List.set_append_right _ _ (by rw [logA_len]; omega), logA_len, List.set_append_right _ _ (by rw [logA_len]; omega), logA_len, show sizeA (l.take i) + 5 + k - sizeA (l.take i) = 5 + k by omega, show sizeA (l.take i) + 6 + k - sizeA (l.take i) = 6 + k by omega,
      List.set_append_left _ _ (by rw [bodyL_len]; omega), List.set_append_left _ _ (by rw [List.length_set, bodyL_len]; omega)]
    unfold bodyL
    rw [List.set_append_right _ _ (by omega), hF, List.set_append_right _ _ (by omega), hF, show 5 + k - 5 = k by omega, show 6 + k - 5 = k + 1 by omega]
    rfl
  rw [hset, e2, ← hx]
  have hsum : sumL x (t.take k ++ d :: c :: t.drop (k + 2)) ≠ sumL x t := by
    conv => rhs; rw [e1]
    exact fun e => sum_swap x hxl _ _ c d hco hdo hn e.symm
  refine scan_bad _ _ _ (right_take h i) (fun y hy => ?_) (by rw [hx]; exact bad_text hsum)
  rw [hx] at hy
  rcases List.mem_append.1 hy with hy | hy
  · exact bodyL_no hr y (by unfold bodyL; exact List.mem_append_left _ hy)
  · refine bodyL_no (x := x) hr y ?_
    unfold bodyL
    refine List.mem_append_right _ ?_
    rw [e1]
    simp only [List.mem_append, List.mem_cons] at hy ⊢
    rcases hy with hy | hy | hy | hy
    · exact .inl hy
    · exact .inr (.inr (.inl hy))
    · exact .inr (.inl hy)
    · exact .inr (.inr (.inr hy))
/-- A line left out. -/
theorem left_scan (l : List (List UInt8)) (h : ∀ t ∈ l, rightL t = true) (i : Nat) (hi : i + 1 < l.length) (hn : figL (lastA 1 (l.take (i + 1))) ≠ figL (lastA 1 (l.take i))) :
    scanS (linesL ((logA 1 l).take (sizeA (l.take i)) ++ (logA 1 l).drop (sizeA (l.take (i + 1))))) = ⟨l.take i, lastA 1 (l.take i), sizeA (l.take i), false⟩ := by
  have h1 : (logA 1 l).take (sizeA (l.take i)) = logA 1 (l.take i) := by
    rw [logA_split 1 l i (by omega)]; exact List.take_left' (logA_len _ _)
  have h2 : (logA 1 l).drop (sizeA (l.take (i + 1))) = bodyL (lastA 1 (l.take (i + 1))) l[i + 1] ++ 10 :: logA (sumL (lastA 1 (l.take (i + 1))) l[i + 1]) (l.drop (i + 1 + 1)) := by
    rw [logA_split 1 l (i + 1) hi, List.drop_left' (logA_len _ _), lineL_body, List.append_assoc]; rfl
  rw [h1, h2]
  refine scan_bad _ _ _ (right_take h i) (bodyL_no (h _ (List.getElem_mem hi))) ?_
  exact bad_text (fun e => hn (by rw [sumL_inj _ _ _ (lastA_lt _) (lastA_lt _) e]))
end Go.Proofs.YtbompgfjlllioaaDoor
