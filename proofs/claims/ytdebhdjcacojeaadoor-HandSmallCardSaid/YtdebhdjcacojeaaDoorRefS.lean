/- Plain law: the suits in the order of their lengths, counted as the reference's loops do. -/
import Derived.Test.YtdebhdjcacojeaaDoorSort
namespace Go.Proofs.YtdebhdjcacojeaaDoor

/-- One if it is so. -/
def o1 (p : Prop) [Decidable p] : Nat := if p then 1 else 0
theorem o1_y {p : Prop} [Decidable p] (h : p) : o1 p = 1 := if_pos h
theorem o1_spec (p : Prop) [Decidable p] : (p ∧ o1 p = 1) ∨ (¬ p ∧ o1 p = 0) := by
  by_cases h : p
  · exact .inl ⟨h, if_pos h⟩
  · exact .inr ⟨h, if_neg h⟩
theorem o1_n {p : Prop} [Decidable p] (h : ¬ p) : o1 p = 0 := if_neg h
/-- The suits longer than n, and those among the first j of length n. -/
def cntP (L : Nat → Nat) (n j : Nat) : Nat :=
  o1 (n < L 0) + o1 (n < L 1) + o1 (n < L 2) + o1 (n < L 3) + o1 (0 < j ∧ L 0 = n) + o1 (1 < j ∧ L 1 = n) + o1 (2 < j ∧ L 2 = n) + o1 (3 < j ∧ L 3 = n)
/-- The suits longer than n, and those from j on of length n. -/
def cntS (L : Nat → Nat) (n j : Nat) : Nat :=
  o1 (n < L 0) + o1 (n < L 1) + o1 (n < L 2) + o1 (n < L 3) + o1 (j ≤ 0 ∧ L 0 = n) + o1 (j ≤ 1 ∧ L 1 = n) + o1 (j ≤ 2 ∧ L 2 = n) + o1 (j ≤ 3 ∧ L 3 = n)
def lk (a b c d k : Nat) : Nat := if k = 0 then a else if k = 1 then b else if k = 2 then c else d
theorem cntP_top (L : Nat → Nat) (h : ∀ i, L i ≤ 13) : cntP L 13 0 = 0 := by
  unfold cntP
  have := h 0; have := h 1; have := h 2; have := h 3
  repeat rw [o1_n (by omega)]
theorem cntP_le (L : Nat → Nat) (n j : Nat) : cntP L n j ≤ 4 := by
  unfold cntP o1
  repeat' split
  all_goals omega
theorem o1_split (n x : Nat) : o1 (n < x) = o1 (n + 1 < x) + o1 (x = n + 1) := by
  have := o1_spec (n < x); have := o1_spec (n + 1 < x); have := o1_spec (x = n + 1)
  omega
theorem o1_and (p q : Prop) [Decidable p] [Decidable q] (h : p) : o1 (p ∧ q) = o1 q := by unfold o1; simp [h]
theorem o1_not (p q : Prop) [Decidable p] [Decidable q] (h : ¬ p) : o1 (p ∧ q) = 0 := if_neg (fun x => h x.1)
theorem cntP_next (L : Nat → Nat) (n : Nat) : cntP L n 0 = cntP L (n + 1) 4 := by
  unfold cntP
  rw [o1_split n (L 0), o1_split n (L 1), o1_split n (L 2), o1_split n (L 3), o1_not _ _ (by omega), o1_not _ _ (by omega), o1_not _ _ (by omega), o1_not _ _ (by omega),
    o1_and _ _ (show 0 < 4 by omega), o1_and _ _ (show 1 < 4 by omega), o1_and _ _ (show 2 < 4 by omega), o1_and _ _ (show 3 < 4 by omega)]
  omega
theorem cntP_end (L : Nat → Nat) : cntP L 0 4 = 4 := by
  unfold cntP
  rw [o1_and _ _ (show 0 < 4 by omega), o1_and _ _ (show 1 < 4 by omega), o1_and _ _ (show 2 < 4 by omega), o1_and _ _ (show 3 < 4 by omega)]
  have := o1_spec (0 < L 0); have := o1_spec (0 < L 1); have := o1_spec (0 < L 2); have := o1_spec (0 < L 3)
  have := o1_spec (L 0 = 0); have := o1_spec (L 1 = 0); have := o1_spec (L 2 = 0); have := o1_spec (L 3 = 0)
  omega
theorem cntP_no (L : Nat → Nat) (n j : Nat) (hj : j < 4) (h : L j ≠ n) : cntP L n (j + 1) = cntP L n j := by
  unfold cntP o1
  rcases (by omega : j = 0 ∨ j = 1 ∨ j = 2 ∨ j = 3) with rfl | rfl | rfl | rfl <;> simp [h]
theorem cntP_yes (L : Nat → Nat) (n j : Nat) (hj : j < 4) (h : L j = n) : cntP L n (j + 1) = cntP L n j + 1 := by
  unfold cntP o1
  rcases (by omega : j = 0 ∨ j = 1 ∨ j = 2 ∨ j = 3) with rfl | rfl | rfl | rfl <;> simp [h] <;> omega
theorem cntS_top (L : Nat → Nat) (h : ∀ i, L i ≤ 13) : cntS L 13 4 = 0 := by
  unfold cntS
  have := h 0; have := h 1; have := h 2; have := h 3
  repeat rw [o1_n (by omega)]
theorem cntS_next (L : Nat → Nat) (n : Nat) : cntS L n 4 = cntS L (n + 1) 0 := by
  unfold cntS
  rw [o1_split n (L 0), o1_split n (L 1), o1_split n (L 2), o1_split n (L 3), o1_not _ _ (show ¬ 4 ≤ 0 by omega), o1_not _ _ (show ¬ 4 ≤ 1 by omega), o1_not _ _ (show ¬ 4 ≤ 2 by omega), o1_not _ _ (show ¬ 4 ≤ 3 by omega),
    o1_and _ _ (show 0 ≤ 0 by omega), o1_and _ _ (show 0 ≤ 1 by omega), o1_and _ _ (show 0 ≤ 2 by omega), o1_and _ _ (show 0 ≤ 3 by omega)]
  omega
theorem cntS_end (L : Nat → Nat) : cntS L 0 0 = 4 := by
  unfold cntS
  rw [o1_and _ _ (show 0 ≤ 0 by omega), o1_and _ _ (show 0 ≤ 1 by omega), o1_and _ _ (show 0 ≤ 2 by omega), o1_and _ _ (show 0 ≤ 3 by omega)]
  have := o1_spec (0 < L 0); have := o1_spec (0 < L 1); have := o1_spec (0 < L 2); have := o1_spec (0 < L 3)
  have := o1_spec (L 0 = 0); have := o1_spec (L 1 = 0); have := o1_spec (L 2 = 0); have := o1_spec (L 3 = 0)
  omega
theorem cntS_no (L : Nat → Nat) (n j : Nat) (hj : j < 4) (h : L j ≠ n) : cntS L n j = cntS L n (j + 1) := by
  unfold cntS o1
  rcases (by omega : j = 0 ∨ j = 1 ∨ j = 2 ∨ j = 3) with rfl | rfl | rfl | rfl <;> simp [h]
theorem cntS_yes (L : Nat → Nat) (n j : Nat) (hj : j < 4) (h : L j = n) : cntS L n j = cntS L n (j + 1) + 1 := by
  unfold cntS o1
  rcases (by omega : j = 0 ∨ j = 1 ∨ j = 2 ∨ j = 3) with rfl | rfl | rfl | rfl <;> simp [h] <;> omega
theorem perm4 (a b c d : Nat) (ha : a < 4) (hb : b < 4) (hc : c < 4) (hd : d < 4) (h : a ≠ b ∧ a ≠ c ∧ a ≠ d ∧ b ≠ c ∧ b ≠ d ∧ c ≠ d) (p : Nat → Nat) : p a + p b + p c + p d = p 0 + p 1 + p 2 + p 3 := by
  rcases (by omega : a = 0 ∨ a = 1 ∨ a = 2 ∨ a = 3) with rfl | rfl | rfl | rfl <;> rcases (by omega : b = 0 ∨ b = 1 ∨ b = 2 ∨ b = 3) with rfl | rfl | rfl | rfl <;> (try omega) <;>
    rcases (by omega : c = 0 ∨ c = 1 ∨ c = 2 ∨ c = 3) with rfl | rfl | rfl | rfl <;> (try omega) <;> rcases (by omega : d = 0 ∨ d = 1 ∨ d = 2 ∨ d = 3) with rfl | rfl | rfl | rfl <;> omega
/-- The count as a sum over the sorted suits. -/
theorem cntP_sum (L : Nat → Nat) (n j a b c d : Nat) (ha : a < 4) (hb : b < 4) (hc : c < 4) (hd : d < 4) (h : a ≠ b ∧ a ≠ c ∧ a ≠ d ∧ b ≠ c ∧ b ≠ d ∧ c ≠ d) :
    cntP L n j = (o1 (n < L a) + o1 (a < j ∧ L a = n)) + (o1 (n < L b) + o1 (b < j ∧ L b = n)) + (o1 (n < L c) + o1 (c < j ∧ L c = n)) + (o1 (n < L d) + o1 (d < j ∧ L d = n)) := by
  rw [perm4 a b c d ha hb hc hd h (fun i => o1 (n < L i) + o1 (i < j ∧ L i = n))]
  unfold cntP; omega
theorem cntS_sum (L : Nat → Nat) (n j a b c d : Nat) (ha : a < 4) (hb : b < 4) (hc : c < 4) (hd : d < 4) (h : a ≠ b ∧ a ≠ c ∧ a ≠ d ∧ b ≠ c ∧ b ≠ d ∧ c ≠ d) :
    cntS L n j = (o1 (n < L a) + o1 (j ≤ a ∧ L a = n)) + (o1 (n < L b) + o1 (j ≤ b ∧ L b = n)) + (o1 (n < L c) + o1 (j ≤ c ∧ L c = n)) + (o1 (n < L d) + o1 (j ≤ d ∧ L d = n)) := by
  rw [perm4 a b c d ha hb hc hd h (fun i => o1 (n < L i) + o1 (j ≤ i ∧ L i = n))]
  unfold cntS; omega
theorem o1_le (p : Prop) [Decidable p] : o1 p ≤ 1 := by unfold o1; split <;> omega
/-- Four in decreasing order, counted. -/
theorem four (A B C D n k x1 x2 x3 x4 y1 y2 y3 y4 : Nat) (h1 : B ≤ A) (h2 : C ≤ B) (h3 : D ≤ C) (hs : k = (x1 + y1) + (x2 + y2) + (x3 + y3) + (x4 + y4))
    (s1 : (n < A ∧ x1 = 1) ∨ (A ≤ n ∧ x1 = 0)) (s2 : (n < B ∧ x2 = 1) ∨ (B ≤ n ∧ x2 = 0)) (s3 : (n < C ∧ x3 = 1) ∨ (C ≤ n ∧ x3 = 0)) (s4 : (n < D ∧ x4 = 1) ∨ (D ≤ n ∧ x4 = 0))
    (t1 : y1 ≤ 1) (t2 : y2 ≤ 1) (t3 : y3 ≤ 1) (t4 : y4 ≤ 1) (v1 : A = n ∨ y1 = 0) (v2 : B = n ∨ y2 = 0) (v3 : C = n ∨ y3 = 0) (v4 : D = n ∨ y4 = 0)
    (e : (A = n ∧ y1 = 0) ∨ (B = n ∧ y2 = 0) ∨ (C = n ∧ y3 = 0) ∨ (D = n ∧ y4 = 0)) :
    (k = 0 ∧ A = n) ∨ (k = 1 ∧ B = n) ∨ (k = 2 ∧ C = n) ∨ (k = 3 ∧ D = n) := by
  rcases s1 with ⟨s1, rfl⟩ | ⟨s1, rfl⟩ <;> rcases s2 with ⟨s2, rfl⟩ | ⟨s2, rfl⟩ <;> (try omega) <;> rcases s3 with ⟨s3, rfl⟩ | ⟨s3, rfl⟩ <;> (try omega) <;> rcases s4 with ⟨s4, rfl⟩ | ⟨s4, rfl⟩ <;> (try omega) <;>
    rcases v1 with v1 | v1 <;> (try omega) <;> rcases v2 with v2 | v2 <;> (try omega) <;> rcases v3 with v3 | v3 <;> (try omega) <;> rcases v4 with v4 | v4 <;> omega
theorem pat_step (L : Nat → Nat) (a b c d n j : Nat) (h : sortTo L 4 = (a, b, c, d)) (hj : j < 4) (hn : L j = n) : L (lk a b c d (cntP L n j)) = n := by
  obtain ⟨u1, u2, u3, u4⟩ := sort_ok L a b c d h
  obtain ⟨ha, hb, hc, hd⟩ := sort_lt L a b c d h
  have hs := cntP_sum L n j a b c d ha hb hc hd u4
  have hm : j = a ∨ j = b ∨ j = c ∨ j = d := by omega
  have e : (L a = n ∧ o1 (a < j ∧ L a = n) = 0) ∨ (L b = n ∧ o1 (b < j ∧ L b = n) = 0) ∨ (L c = n ∧ o1 (c < j ∧ L c = n) = 0) ∨ (L d = n ∧ o1 (d < j ∧ L d = n) = 0) := by
    rcases hm with rfl | rfl | rfl | rfl
    · exact .inl ⟨hn, o1_n (by omega)⟩
    · exact .inr (.inl ⟨hn, o1_n (by omega)⟩)
    · exact .inr (.inr (.inl ⟨hn, o1_n (by omega)⟩))
    · exact .inr (.inr (.inr ⟨hn, o1_n (by omega)⟩))
  have sx : ∀ x, (n < L x ∧ o1 (n < L x) = 1) ∨ (L x ≤ n ∧ o1 (n < L x) = 0) := fun x => by
    rcases o1_spec (n < L x) with h | h
    · exact .inl h
    · exact .inr ⟨by omega, h.2⟩
  have vx : ∀ x, L x = n ∨ o1 (x < j ∧ L x = n) = 0 := fun x => by
    by_cases h : L x = n
    · exact .inl h
    · exact .inr (o1_n (fun q => h q.2))
  have := four (L a) (L b) (L c) (L d) n _ _ _ _ _ _ _ _ _ (by omega) (by omega) (by omega) hs (sx a) (sx b) (sx c) (sx d) (o1_le _) (o1_le _) (o1_le _) (o1_le _) (vx a) (vx b) (vx c) (vx d) e
  unfold lk
  rcases this with ⟨q, r⟩ | ⟨q, r⟩ | ⟨q, r⟩ | ⟨q, r⟩ <;> rw [q] <;> simpa using r
/-- The suits in their order: each at the count of those before it. -/
theorem suit_step (L : Nat → Nat) (a b c d n j : Nat) (h : sortTo L 4 = (a, b, c, d)) (hj : j < 4) (hn : L j = n) : lk a b c d (cntS L n (j + 1)) = j := by
  obtain ⟨u1, u2, u3, u4⟩ := sort_ok L a b c d h
  obtain ⟨ha, hb, hc, hd⟩ := sort_lt L a b c d h
  have hs := cntS_sum L n (j + 1) a b c d ha hb hc hd u4
  have hm : j = a ∨ j = b ∨ j = c ∨ j = d := by omega
  have y : ∀ x, (n < L x ∨ (j < x ∧ L x = n)) → o1 (n < L x) + o1 (j + 1 ≤ x ∧ L x = n) = 1 := fun x hx => by
    rcases o1_spec (n < L x) with h | h <;> rcases o1_spec (j + 1 ≤ x ∧ L x = n) with g | g <;> omega
  have z : ∀ x, ¬ (n < L x ∨ (j < x ∧ L x = n)) → o1 (n < L x) + o1 (j + 1 ≤ x ∧ L x = n) = 0 := fun x hx => by
    rcases o1_spec (n < L x) with h | h <;> rcases o1_spec (j + 1 ≤ x ∧ L x = n) with g | g <;> omega
  clear h
  unfold lk
  rcases hm with rfl | rfl | rfl | rfl
  · rw [hs, z j (by omega), z b (by omega), z c (by omega), z d (by omega)]; rfl
  · rw [hs, y a (by omega), z j (by omega), z c (by omega), z d (by omega)]; rfl
  · rw [hs, y a (by omega), y b (by omega), z j (by omega), z d (by omega)]; rfl
  · rw [hs, y a (by omega), y b (by omega), y c (by omega), z j (by omega)]; rfl
attribute [irreducible] cntP cntS
end Go.Proofs.YtdebhdjcacojeaaDoor
