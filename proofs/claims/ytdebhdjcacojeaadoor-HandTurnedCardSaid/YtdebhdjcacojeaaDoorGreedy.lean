/- Plain law: four holdings, exchanged for one another, are met one by one by whoever takes the first that is free and the same. -/
import Derived.Test.YtdebhdjcacojeaaDoorTurnP
namespace Go.Proofs.YtdebhdjcacojeaaDoor
def gstep (f : Nat → Bool) (met : Nat) : Nat := if f 0 then met + 1 else if f 1 then met + 2 else if f 2 then met + 4 else if f 3 then met + 8 else met
def freeB (E : Nat → Bool) (met o : Nat) : Bool := (met / 2 ^ o % 2 == 0) && E o
/-- What is met after k suits. -/
def gto (E : Nat → Nat → Bool) : Nat → Nat
  | 0 => 0
  | k + 1 => gstep (freeB (E k) (gto E k)) (gto E k)
theorem gstep_congr (f g : Nat → Bool) (m : Nat) (h : ∀ o, o < 4 → f o = g o) : gstep f m = gstep g m := by
  simp [gstep, h 0 (by omega), h 1 (by omega), h 2 (by omega), h 3 (by omega)]
theorem gto_congr (E F : Nat → Nat → Bool) (h : ∀ s o, s < 4 → o < 4 → E s o = F s o) : ∀ k, k ≤ 4 → gto E k = gto F k
  | 0, _ => rfl
  | k + 1, hk => by
    have ih := gto_congr E F h k (by omega)
    rw [gto, gto, ih]
    exact gstep_congr _ _ _ fun o ho => by simp [freeB, h k o (by omega) ho]
/-- The labels of the four suits, and of the places they go to. -/
def labS (c1 c2 c3 s : Nat) : Nat := if s = 0 then 0 else if s = 1 then c1 else if s = 2 then c2 else c3
def labO (c1 c2 c3 a b c o : Nat) : Nat := if o = a then c3 else if o = b then c2 else if o = c then c1 else 0
theorem greedy_fin : ∀ a b c d : Fin 4, (a ≠ b ∧ a ≠ c ∧ a ≠ d ∧ b ≠ c ∧ b ≠ d ∧ c ≠ d) → ∀ (c1 : Fin 2) (c2 : Fin 3) (c3 : Fin 4),
    gto (fun s o => labS c1.val c2.val c3.val s == labO c1.val c2.val c3.val a.val b.val c.val o) 4 = 15 := by decide +kernel
theorem gto_0 (E : Nat → Nat → Bool) : gto E 0 = 0 := rfl
theorem gto_succ (E : Nat → Nat → Bool) (k : Nat) : gto E (k + 1) = gstep (freeB (E k) (gto E k)) (gto E k) := rfl
attribute [irreducible] gto
theorem labels (h : Nat → Nat) : ∃ c1 c2 c3, c1 < 2 ∧ c2 < 3 ∧ c3 < 4 ∧ (h 0 = h 1 ↔ 0 = c1) ∧ (h 0 = h 2 ↔ 0 = c2) ∧ (h 0 = h 3 ↔ 0 = c3) ∧ (h 1 = h 2 ↔ c1 = c2) ∧ (h 1 = h 3 ↔ c1 = c3) ∧ (h 2 = h 3 ↔ c2 = c3) := by
  generalize h 0 = x0
  generalize h 1 = x1
  generalize h 2 = x2
  generalize h 3 = x3
  obtain ⟨c1, h1⟩ : ∃ c1, (x1 = x0 ∧ c1 = 0) ∨ (x1 ≠ x0 ∧ c1 = 1) := by
    by_cases e : x1 = x0
    · exact ⟨0, .inl ⟨e, rfl⟩⟩
    · exact ⟨1, .inr ⟨e, rfl⟩⟩
  obtain ⟨c2, h2⟩ : ∃ c2, (x2 = x0 ∧ c2 = 0) ∨ (x2 ≠ x0 ∧ x2 = x1 ∧ c2 = 1) ∨ (x2 ≠ x0 ∧ x2 ≠ x1 ∧ c2 = 2) := by
    by_cases e : x2 = x0
    · exact ⟨0, .inl ⟨e, rfl⟩⟩
    · by_cases e2 : x2 = x1
      · exact ⟨1, .inr (.inl ⟨e, e2, rfl⟩)⟩
      · exact ⟨2, .inr (.inr ⟨e, e2, rfl⟩)⟩
  obtain ⟨c3, h3⟩ : ∃ c3, (x3 = x0 ∧ c3 = 0) ∨ (x3 ≠ x0 ∧ x3 = x1 ∧ c3 = 1) ∨ (x3 ≠ x0 ∧ x3 ≠ x1 ∧ x3 = x2 ∧ c3 = 2) ∨ (x3 ≠ x0 ∧ x3 ≠ x1 ∧ x3 ≠ x2 ∧ c3 = 3) := by
    by_cases e : x3 = x0
    · exact ⟨0, .inl ⟨e, rfl⟩⟩
    · by_cases e2 : x3 = x1
      · exact ⟨1, .inr (.inl ⟨e, e2, rfl⟩)⟩
      · by_cases e3 : x3 = x2
        · exact ⟨2, .inr (.inr (.inl ⟨e, e2, e3, rfl⟩))⟩
        · exact ⟨3, .inr (.inr (.inr ⟨e, e2, e3, rfl⟩))⟩
  exact ⟨c1, c2, c3, by omega, by omega, by omega, by omega, by omega, by omega, by omega, by omega, by omega⟩
set_option maxHeartbeats 4000000 in
theorem greedy (h g : Nat → Nat) (a b c d : Nat) (hP : Pl.Perm4 a b c d) (ha : g a = h 3) (hb : g b = h 2) (hc : g c = h 1) (hd : g d = h 0) : gto (fun s o => h s == g o) 4 = 15 := by
  obtain ⟨c1, c2, c3, l1, l2, l3, e01, e02, e03, e12, e13, e23⟩ := labels h
  obtain ⟨⟨la, lb, lc, ld⟩, hne⟩ := hP
  have hf : gto (fun s o => labS c1 c2 c3 s == labO c1 c2 c3 a b c o) 4 = 15 := greedy_fin ⟨a, la⟩ ⟨b, lb⟩ ⟨c, lc⟩ ⟨d, ld⟩ (by simpa [Fin.ext_iff] using hne) ⟨c1, l1⟩ ⟨c2, l2⟩ ⟨c3, l3⟩
  refine Eq.trans (gto_congr _ _ (fun s o hs ho => ?_) 4 (Nat.le_refl _)) hf
  obtain ⟨n1, n2, n3, n4, n5, n6⟩ := hne
  have go : (o = a ∧ g o = h 3 ∧ labO c1 c2 c3 a b c o = c3) ∨ (o = b ∧ g o = h 2 ∧ labO c1 c2 c3 a b c o = c2) ∨ (o = c ∧ g o = h 1 ∧ labO c1 c2 c3 a b c o = c1) ∨ (o = d ∧ g o = h 0 ∧ labO c1 c2 c3 a b c o = 0) := by
    have g4 : o = a ∨ o = b ∨ o = c ∨ o = d := by omega
    rcases g4 with rfl | rfl | rfl | rfl
    · exact .inl ⟨rfl, ha, by simp [labO]⟩
    · exact .inr (.inl ⟨rfl, hb, by simp [labO, n1.symm]⟩)
    · exact .inr (.inr (.inl ⟨rfl, hc, by simp [labO, n2.symm, n4.symm]⟩))
    · exact .inr (.inr (.inr ⟨rfl, hd, by simp [labO, n3.symm, n5.symm, n6.symm]⟩))
  clear hf
  have gs : (s = 0 ∧ labS c1 c2 c3 s = 0) ∨ (s = 1 ∧ labS c1 c2 c3 s = c1) ∨ (s = 2 ∧ labS c1 c2 c3 s = c2) ∨ (s = 3 ∧ labS c1 c2 c3 s = c3) := by
    rcases (by omega : s = 0 ∨ s = 1 ∨ s = 2 ∨ s = 3) with rfl | rfl | rfl | rfl <;> simp [labS]
  rw [Bool.eq_iff_iff, beq_iff_eq, beq_iff_eq]
  generalize labO c1 c2 c3 a b c o = y at *
  generalize labS c1 c2 c3 s = x at *
  generalize g o = u at *
  clear n1 n2 n3 n4 n5 n6 la lb lc ld hs ho ha hb hc hd l1 l2 l3
  rcases go with ⟨-, e, f⟩ | ⟨-, e, f⟩ | ⟨-, e, f⟩ | ⟨-, e, f⟩ <;> rcases gs with ⟨rfl, p⟩ | ⟨rfl, p⟩ | ⟨rfl, p⟩ | ⟨rfl, p⟩ <;> rw [e, f, p] <;> omega
end Go.Proofs.YtdebhdjcacojeaaDoor
