/- Plain law of balanced hands. -/
import Derived.Test.YtdebhdjcacojeaaDoorTurnP
import Derived.Test.YtdebhdjcacojeaaDoorDealP
import Derived.Test.YtdebhdjcacojeaaDoorSort
namespace Go.Proofs.YtdebhdjcacojeaaDoor
def okTo (L : Nat → Nat) : Nat → Bool
  | 0 => true
  | s + 1 => (okTo L s && decide (2 ≤ L s)) && decide (L s ≤ 5)
def twoTo (L : Nat → Nat) : Nat → Nat
  | 0 => 0
  | s + 1 => twoTo L s + if L s = 2 then 1 else 0
theorem okTo_0 (L : Nat → Nat) : okTo L 0 = true := rfl
theorem okTo_s (L : Nat → Nat) (s : Nat) : okTo L (s + 1) = ((okTo L s && decide (2 ≤ L s)) && decide (L s ≤ 5)) := rfl
theorem twoTo_0 (L : Nat → Nat) : twoTo L 0 = 0 := rfl
theorem twoTo_yes (L : Nat → Nat) (s : Nat) (h : L s = 2) : twoTo L (s + 1) = twoTo L s + 1 := by rw [twoTo, if_pos h]
theorem twoTo_no (L : Nat → Nat) (s : Nat) (h : L s ≠ 2) : twoTo L (s + 1) = twoTo L s := by rw [twoTo, if_neg h]; rfl
theorem twoTo_le (L : Nat → Nat) : ∀ s, twoTo L s ≤ s
  | 0 => Nat.le_refl _
  | s + 1 => by have := twoTo_le L s; rw [twoTo]; split <;> omega
/-- The pattern of four lengths in decreasing order. -/
def isPat (a b c d : Nat) : Bool :=
  digT a ++ [45] ++ digT b ++ [45] ++ digT c ++ [45] ++ digT d == [52, 45, 51, 45, 51, 45, 51] || digT a ++ [45] ++ digT b ++ [45] ++ digT c ++ [45] ++ digT d == [52, 45, 52, 45, 51, 45, 50] ||
    digT a ++ [45] ++ digT b ++ [45] ++ digT c ++ [45] ++ digT d == [53, 45, 51, 45, 51, 45, 50]
theorem isPat_fin : ∀ a : Fin 14, ∀ b : Fin 14, b ≤ a → ∀ c : Fin 14, c ≤ b → ∀ d : Fin 14, d ≤ c → a.val + b.val + c.val + d.val = 13 →
    isPat a b c d = (decide (a.val = 4 ∧ b.val = 3 ∧ c.val = 3 ∧ d.val = 3 ∨ a.val = 4 ∧ b.val = 4 ∧ c.val = 3 ∧ d.val = 2 ∨ a.val = 5 ∧ b.val = 3 ∧ c.val = 3 ∧ d.val = 2)) := by decide +kernel
theorem b01 (c : Prop) [Decidable c] : (c ∧ (if c then 1 else 0) = 1) ∨ (¬ c ∧ (if c then 1 else 0) = 0) := by
  by_cases h : c <;> simp [h]
theorem bal_nums (A B C D p q r t : Nat) (k1 : B ≤ A) (k2 : C ≤ B) (k3 : D ≤ C) (hs : A + B + C + D = 13)
    (h1 : (if p = 2 then 1 else 0) + (if q = 2 then 1 else 0) + (if r = 2 then 1 else 0) + (if t = 2 then 1 else 0) = (if A = 2 then 1 else 0) + (if B = 2 then 1 else 0) + (if C = 2 then 1 else 0) + (if D = 2 then 1 else 0))
    (h2 : (if 2 ≤ p ∧ p ≤ 5 then 1 else 0) + (if 2 ≤ q ∧ q ≤ 5 then 1 else 0) + (if 2 ≤ r ∧ r ≤ 5 then 1 else 0) + (if 2 ≤ t ∧ t ≤ 5 then 1 else 0) = (if 2 ≤ A ∧ A ≤ 5 then 1 else 0) + (if 2 ≤ B ∧ B ≤ 5 then 1 else 0) + (if 2 ≤ C ∧ C ≤ 5 then 1 else 0) + (if 2 ≤ D ∧ D ≤ 5 then 1 else 0)) :
    (A = 4 ∧ B = 3 ∧ C = 3 ∧ D = 3 ∨ A = 4 ∧ B = 4 ∧ C = 3 ∧ D = 2 ∨ A = 5 ∧ B = 3 ∧ C = 3 ∧ D = 2) ↔
      (((((((2 ≤ p ∧ p ≤ 5) ∧ 2 ≤ q) ∧ q ≤ 5) ∧ 2 ≤ r) ∧ r ≤ 5) ∧ 2 ≤ t) ∧ t ≤ 5) ∧ 0 + (if p = 2 then 1 else 0) + (if q = 2 then 1 else 0) + (if r = 2 then 1 else 0) + (if t = 2 then 1 else 0) ≤ 1 := by
  rw [Nat.zero_add, h1]
  have p2 := b01 (2 ≤ p ∧ p ≤ 5)
  have q2 := b01 (2 ≤ q ∧ q ≤ 5)
  have r2 := b01 (2 ≤ r ∧ r ≤ 5)
  have t2 := b01 (2 ≤ t ∧ t ≤ 5)
  have A1 := b01 (A = 2)
  have B1 := b01 (B = 2)
  have C1 := b01 (C = 2)
  have D1 := b01 (D = 2)
  have A2 := b01 (2 ≤ A ∧ A ≤ 5)
  have B2 := b01 (2 ≤ B ∧ B ≤ 5)
  have C2 := b01 (2 ≤ C ∧ C ≤ 5)
  have D2 := b01 (2 ≤ D ∧ D ≤ 5)
  clear h1
  generalize (if 2 ≤ p ∧ p ≤ 5 then 1 else 0) = p' at *
  generalize (if 2 ≤ q ∧ q ≤ 5 then 1 else 0) = q' at *
  generalize (if 2 ≤ r ∧ r ≤ 5 then 1 else 0) = r' at *
  generalize (if 2 ≤ t ∧ t ≤ 5 then 1 else 0) = t' at *
  generalize (if A = 2 then 1 else 0) = a1 at *
  generalize (if B = 2 then 1 else 0) = b1 at *
  generalize (if C = 2 then 1 else 0) = c1 at *
  generalize (if D = 2 then 1 else 0) = d1 at *
  generalize (if 2 ≤ A ∧ A ≤ 5 then 1 else 0) = a2 at *
  generalize (if 2 ≤ B ∧ B ≤ 5 then 1 else 0) = b2 at *
  generalize (if 2 ≤ C ∧ C ≤ 5 then 1 else 0) = c2 at *
  generalize (if 2 ≤ D ∧ D ≤ 5 then 1 else 0) = d2 at *
  constructor
  · intro h
    refine ⟨?_, ?_⟩
    · have e : a2 = 1 ∧ b2 = 1 ∧ c2 = 1 ∧ d2 = 1 := by clear p2 q2 r2 t2 A1 B1 C1 D1 h2; omega
      clear A1 B1 C1 D1 A2 B2 C2 D2 h
      omega
    · clear p2 q2 r2 t2 A2 B2 C2 D2 h2
      omega
  · intro ⟨h, k⟩
    have e : p' = 1 ∧ q' = 1 ∧ r' = 1 ∧ t' = 1 := by clear A1 B1 C1 D1 A2 B2 C2 D2 h2 k; omega
    clear p2 q2 r2 t2 h
    omega
theorem ok_is (L : Nat → Nat) : okTo L 4 = true ↔ (((((((2 ≤ L 0 ∧ L 0 ≤ 5) ∧ 2 ≤ L 1) ∧ L 1 ≤ 5) ∧ 2 ≤ L 2) ∧ L 2 ≤ 5) ∧ 2 ≤ L 3) ∧ L 3 ≤ 5) := by
  simp [okTo]
theorem two_is (L : Nat → Nat) : twoTo L 4 = 0 + (if L 0 = 2 then 1 else 0) + (if L 1 = 2 then 1 else 0) + (if L 2 = 2 then 1 else 0) + (if L 3 = 2 then 1 else 0) := rfl
theorem bal_is (m : Nat) (hm : m < 4503599627370496) : balB m = ((okTo (shp m) 4 && decide (twoTo (shp m) 4 ≤ 1)) && decide (Pl.sm (shp m) 4 = 13)) := by
  have hp : Pl.pc 64 m = Pl.sm (shp m) 4 := by
    rw [Pl.pc_64 m hm, Pl.sm_4]; unfold shp Pl.tot; rfl
  unfold balB rightB
  rw [hp, decide_eq_true hm]
  by_cases hs : Pl.sm (shp m) 4 = 13
  · obtain ⟨⟨a, b, c, d⟩, hq⟩ : ∃ q, sortTo (shp m) 4 = q := ⟨_, rfl⟩
    obtain ⟨lx, ly, lz, lt⟩ := sort_lt (shp m) a b c d hq
    obtain ⟨o1, o2, o3, hne⟩ := sort_ok (shp m) a b c d hq
    have hsum := Pl.sum_perm (shp m) a b c d ⟨⟨lx, ly, lz, lt⟩, hne⟩
    have ha := shp_le m a
    have hb := shp_le m b
    have hc := shp_le m c
    have hd := shp_le m d
    have e1 : textTo (shp m) a b c d 4 = digT (shp m a) ++ [45] ++ digT (shp m b) ++ [45] ++ digT (shp m c) ++ [45] ++ digT (shp m d) := by
      rw [text4, text3, text2, text1, text0, List.nil_append]
    have hf := isPat_fin ⟨shp m a, by omega⟩ ⟨shp m b, by omega⟩ (by show shp m b ≤ shp m a; omega) ⟨shp m c, by omega⟩ (by show shp m c ≤ shp m b; omega) ⟨shp m d, by omega⟩ (by show shp m d ≤ shp m c; omega)
      (by show shp m a + shp m b + shp m c + shp m d = 13; rw [Pl.sm_4] at hs; omega)
    simp only [isPat] at hf
    rw [hq, ← textTo_4 (shp m) a b c d ha hb hc hd, e1, hf]
    rw [show (decide (Pl.sm (shp m) 4 = 13)) = true from decide_eq_true hs]
    simp only [Bool.true_and, Bool.and_true]
    rw [Pl.sm_4] at hs
    have h1 := Pl.sum_perm (fun i => if shp m i = 2 then 1 else 0) a b c d ⟨⟨lx, ly, lz, lt⟩, hne⟩
    have h2 := Pl.sum_perm (fun i => if 2 ≤ shp m i ∧ shp m i ≤ 5 then 1 else 0) a b c d ⟨⟨lx, ly, lz, lt⟩, hne⟩
    clear hf e1 hq hp hne lx ly lz lt hm
    rw [Bool.eq_iff_iff, Bool.and_eq_true, decide_eq_true_eq, decide_eq_true_eq, ok_is, two_is]
    have k1 : shp m b ≤ shp m a := by omega
    have k2 : shp m c ≤ shp m b := by omega
    have k3 : shp m d ≤ shp m c := by omega
    clear o1 o2 o3
    generalize shp m a = A at *
    generalize shp m b = B at *
    generalize shp m c = C at *
    generalize shp m d = D at *
    generalize shp m 0 = p at *
    generalize shp m 1 = q at *
    generalize shp m 2 = r at *
    generalize shp m 3 = t at *
    exact bal_nums A B C D p q r t k1 k2 k3 (by omega) h1 h2
  · rw [decide_eq_false hs, Bool.and_false, Bool.and_false, Bool.false_and]
end Go.Proofs.YtdebhdjcacojeaaDoor
