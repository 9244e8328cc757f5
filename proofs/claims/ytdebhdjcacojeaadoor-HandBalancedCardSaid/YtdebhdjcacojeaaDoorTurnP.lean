/- Plain facts of a hand whose suits are exchanged for one another. -/
import Derived.Test.YtdebhdjcacojeaaDoorPlain
import Derived.Test.YtdebhdjcacojeaaDoorSort
namespace Go.Proofs.YtdebhdjcacojeaaDoor
namespace Pl
theorem hold_or (a b s : Nat) : hold (a ||| b) s = hold a s ||| hold b s := by
  unfold hold
  rw [← Nat.shiftRight_eq_div_pow, ← Nat.shiftRight_eq_div_pow, ← Nat.shiftRight_eq_div_pow, Nat.shiftRight_or_distrib, show 8192 = 2 ^ 13 from rfl, Nat.or_mod_two_pow]
theorem hold_lane (x l s : Nat) (hx : x < 8192) (hl : l < 4) (hs : s < 4) : hold (x * 2 ^ (13 * l)) s = if s = l then x else 0 := by
  rcases (by omega : l = 0 ∨ l = 1 ∨ l = 2 ∨ l = 3) with rfl | rfl | rfl | rfl <;> rcases (by omega : s = 0 ∨ s = 1 ∨ s = 2 ∨ s = 3) with rfl | rfl | rfl | rfl <;> simp [hold] <;> omega
theorem lane_lt (x l : Nat) (hx : x < 8192) (hl : l < 4) : x * 2 ^ (13 * l) < 2 ^ 52 := by
  rcases (by omega : l = 0 ∨ l = 1 ∨ l = 2 ∨ l = 3) with rfl | rfl | rfl | rfl <;> simp <;> omega
/-- Four numbers below four, each another one. -/
def Perm4 (a b c d : Nat) : Prop := (a < 4 ∧ b < 4 ∧ c < 4 ∧ d < 4) ∧ a ≠ b ∧ a ≠ c ∧ a ≠ d ∧ b ≠ c ∧ b ≠ d ∧ c ≠ d
/-- Suit 3 goes to a, suit 2 to b, suit 1 to c, suit 0 to d: after k of them. -/
def turnTo (m a b c d : Nat) : Nat → Nat
  | 0 => 0
  | 1 => 0 ||| hold m 3 * 2 ^ (13 * a)
  | 2 => 0 ||| hold m 3 * 2 ^ (13 * a) ||| hold m 2 * 2 ^ (13 * b)
  | 3 => 0 ||| hold m 3 * 2 ^ (13 * a) ||| hold m 2 * 2 ^ (13 * b) ||| hold m 1 * 2 ^ (13 * c)
  | _ => 0 ||| hold m 3 * 2 ^ (13 * a) ||| hold m 2 * 2 ^ (13 * b) ||| hold m 1 * 2 ^ (13 * c) ||| hold m 0 * 2 ^ (13 * d)
theorem turn_0 (m a b c d : Nat) : turnTo m a b c d 0 = 0 := rfl
theorem turn_1 (m a b c d : Nat) : turnTo m a b c d 1 = turnTo m a b c d 0 ||| hold m 3 * 2 ^ (13 * a) := rfl
theorem turn_2 (m a b c d : Nat) : turnTo m a b c d 2 = turnTo m a b c d 1 ||| hold m 2 * 2 ^ (13 * b) := rfl
theorem turn_3 (m a b c d : Nat) : turnTo m a b c d 3 = turnTo m a b c d 2 ||| hold m 1 * 2 ^ (13 * c) := rfl
theorem turn_4 (m a b c d : Nat) : turnTo m a b c d 4 = turnTo m a b c d 3 ||| hold m 0 * 2 ^ (13 * d) := rfl
theorem turn_lt (m a b c d k : Nat) (h : Perm4 a b c d) : turnTo m a b c d k < 4503599627370496 := by
  obtain ⟨⟨ha, hb, hc, hd⟩, -⟩ := h
  have h3 := lane_lt (hold m 3) a (hold_lt m 3) ha
  have h2 := lane_lt (hold m 2) b (hold_lt m 2) hb
  have h1 := lane_lt (hold m 1) c (hold_lt m 1) hc
  have h0 := lane_lt (hold m 0) d (hold_lt m 0) hd
  have hz : 0 < 2 ^ 52 := by decide
  show _ < 2 ^ 52
  unfold turnTo
  split
  · exact hz
  · exact Nat.or_lt_two_pow hz h3
  · exact Nat.or_lt_two_pow (Nat.or_lt_two_pow hz h3) h2
  · exact Nat.or_lt_two_pow (Nat.or_lt_two_pow (Nat.or_lt_two_pow hz h3) h2) h1
  · exact Nat.or_lt_two_pow (Nat.or_lt_two_pow (Nat.or_lt_two_pow (Nat.or_lt_two_pow hz h3) h2) h1) h0
theorem hold_none (s : Nat) : hold 0 s = 0 := by simp [hold]
theorem turn_hold (m a b c d : Nat) (h : Perm4 a b c d) : hold (turnTo m a b c d 4) a = hold m 3 ∧ hold (turnTo m a b c d 4) b = hold m 2 ∧ hold (turnTo m a b c d 4) c = hold m 1 ∧ hold (turnTo m a b c d 4) d = hold m 0 := by
  obtain ⟨⟨ha, hb, hc, hd⟩, h1, h2, h3, h4, h5, h6⟩ := h
  simp only [turn_4, turn_3, turn_2, turn_1, turn_0, hold_or, hold_none]
  simp only [hold_lane _ _ _ (hold_lt _ _) ha ha, hold_lane _ _ _ (hold_lt _ _) ha hb, hold_lane _ _ _ (hold_lt _ _) ha hc, hold_lane _ _ _ (hold_lt _ _) ha hd,
    hold_lane _ _ _ (hold_lt _ _) hb ha, hold_lane _ _ _ (hold_lt _ _) hb hb, hold_lane _ _ _ (hold_lt _ _) hb hc, hold_lane _ _ _ (hold_lt _ _) hb hd,
    hold_lane _ _ _ (hold_lt _ _) hc ha, hold_lane _ _ _ (hold_lt _ _) hc hb, hold_lane _ _ _ (hold_lt _ _) hc hc, hold_lane _ _ _ (hold_lt _ _) hc hd,
    hold_lane _ _ _ (hold_lt _ _) hd ha, hold_lane _ _ _ (hold_lt _ _) hd hb, hold_lane _ _ _ (hold_lt _ _) hd hc, hold_lane _ _ _ (hold_lt _ _) hd hd]
  simp [h1, h2, h3, h4, h5, h6, h1.symm, h2.symm, h3.symm, h4.symm, h5.symm, h6.symm]
attribute [irreducible] turnTo
/-- The sum over the suits does not know their order. -/
theorem sum_perm (F : Nat → Nat) (a b c d : Nat) (h : Perm4 a b c d) : F 0 + F 1 + F 2 + F 3 = F a + F b + F c + F d := by
  obtain ⟨⟨ha, hb, hc, hd⟩, h1, h2, h3, h4, h5, h6⟩ := h
  rcases (by omega : a = 0 ∨ a = 1 ∨ a = 2 ∨ a = 3) with rfl | rfl | rfl | rfl <;> rcases (by omega : b = 0 ∨ b = 1 ∨ b = 2 ∨ b = 3) with rfl | rfl | rfl | rfl <;> (try omega) <;>
    rcases (by omega : c = 0 ∨ c = 1 ∨ c = 2 ∨ c = 3) with rfl | rfl | rfl | rfl <;> (try omega) <;> rcases (by omega : d = 0 ∨ d = 1 ∨ d = 2 ∨ d = 3) with rfl | rfl | rfl | rfl <;> omega
theorem turn_tot (f : Nat → Nat) (m a b c d : Nat) (h : Perm4 a b c d) : tot f (turnTo m a b c d 4) = tot f m := by
  obtain ⟨e1, e2, e3, e4⟩ := turn_hold m a b c d h
  unfold tot
  rw [sum_perm (fun s => f (hold (turnTo m a b c d 4) s)) a b c d h]
  simp only [e1, e2, e3, e4]
  omega
theorem pc_16 (x : Nat) (hx : x < 8192) : pc 16 x = pc 13 x := by
  have := pc_add 13 3 x
  rw [Nat.div_eq_of_lt hx, pc_zero] at this
  exact this
theorem pc_64 (m : Nat) (hm : m < 4503599627370496) : pc 64 m = tot (pc 16) m := by
  have h1 := pc_add 13 51 m
  have h2 := pc_add 13 38 (m / 2 ^ 13)
  have h3 := pc_add 13 25 (m / 2 ^ 13 / 2 ^ 13)
  have h4 := pc_add 13 12 (m / 2 ^ 13 / 2 ^ 13 / 2 ^ 13)
  have h5 : m / 2 ^ 13 / 2 ^ 13 / 2 ^ 13 / 2 ^ 13 = 0 := by omega
  rw [h5, pc_zero] at h4
  have g : ∀ s, pc 16 (hold m s) = pc 13 (m / 2 ^ (13 * s)) := fun s => by
    rw [pc_16 _ (hold_lt m s)]
    unfold hold
    exact pc_mod 13 _
  unfold tot
  rw [g, g, g, g]
  simp only [Nat.div_div_eq_div_mul] at *
  simp at *
  omega
end Pl
theorem turn_shp (m a b c d : Nat) (h : Pl.Perm4 a b c d) : shp (Pl.turnTo m a b c d 4) a = shp m 3 ∧ shp (Pl.turnTo m a b c d 4) b = shp m 2 ∧ shp (Pl.turnTo m a b c d 4) c = shp m 1 ∧ shp (Pl.turnTo m a b c d 4) d = shp m 0 := by
  obtain ⟨e1, e2, e3, e4⟩ := Pl.turn_hold m a b c d h
  unfold shp
  rw [e1, e2, e3, e4]
  exact ⟨rfl, rfl, rfl, rfl⟩
theorem turn_right (m a b c d : Nat) (h : Pl.Perm4 a b c d) (hm : m < 4503599627370496) : rightB (Pl.turnTo m a b c d 4) = rightB m := by
  have ht := Pl.turn_lt m a b c d 4 h
  unfold rightB
  rw [Pl.pc_64 m hm, Pl.pc_64 _ ht, Pl.turn_tot _ m a b c d h, decide_eq_true hm, decide_eq_true ht]
/-- What the sorted lengths are: the greatest, the greatest sum of two, the least, and the sum of all. -/
theorem sort_max (L : Nat → Nat) (a b c d : Nat) (h : sortTo L 4 = (a, b, c, d)) :
    (∀ i, i < 4 → L i ≤ L a) ∧ (∀ i j, i < 4 → j < 4 → i ≠ j → L i + L j ≤ L a + L b) ∧ (∀ i, i < 4 → L d ≤ L i) ∧ L 0 + L 1 + L 2 + L 3 = L a + L b + L c + L d := by
  obtain ⟨o1, o2, o3, hne⟩ := sort_ok L a b c d h
  have hl := sort_lt L a b c d h
  have g : ∀ i, i < 4 → i = a ∨ i = b ∨ i = c ∨ i = d := by omega
  refine ⟨fun i hi => ?_, fun i j hi hj hij => ?_, fun i hi => ?_, Pl.sum_perm L a b c d ⟨hl, hne⟩⟩
  · rcases g i hi with rfl | rfl | rfl | rfl <;> omega
  · rcases g i hi with rfl | rfl | rfl | rfl <;> rcases g j hj with rfl | rfl | rfl | rfl <;> omega
  · rcases g i hi with rfl | rfl | rfl | rfl <;> omega
theorem pat_perm (L K : Nat → Nat) (a b c d : Nat) (h : Pl.Perm4 a b c d) (ha : K a = L 3) (hb : K b = L 2) (hc : K c = L 1) (hd : K d = L 0) :
    patL K (sortTo K 4) = patL L (sortTo L 4) := by
  obtain ⟨⟨x, y, z, t⟩, hq⟩ : ∃ q, sortTo L 4 = q := ⟨_, rfl⟩
  obtain ⟨⟨x', y', z', t'⟩, hq'⟩ : ∃ q, sortTo K 4 = q := ⟨_, rfl⟩
  obtain ⟨p1, p2, p3, p4⟩ := sort_max L x y z t hq
  obtain ⟨q1, q2, q3, q4⟩ := sort_max K x' y' z' t' hq'
  obtain ⟨lx, ly, lz, lt⟩ := sort_lt L x y z t hq
  obtain ⟨lx', ly', lz', lt'⟩ := sort_lt K x' y' z' t' hq'
  obtain ⟨-, -, -, n⟩ := sort_ok L x y z t hq
  obtain ⟨-, -, -, n'⟩ := sort_ok K x' y' z' t' hq'
  have hs := Pl.sum_perm K a b c d h
  obtain ⟨hl, hne⟩ := h
  -- from K's places to L's, and back
  have to : ∀ i j, i < 4 → j < 4 → i ≠ j → ∃ i' j', i' < 4 ∧ j' < 4 ∧ i' ≠ j' ∧ K i = L i' ∧ K j = L j' := by
    have g : ∀ i, i < 4 → i = a ∨ i = b ∨ i = c ∨ i = d := by omega
    intro i j hi hj hij
    rcases g i hi with rfl | rfl | rfl | rfl <;> rcases g j hj with rfl | rfl | rfl | rfl <;> first
      | exact absurd rfl hij
      | (refine ⟨_, _, ?_, ?_, ?_, (by assumption), (by assumption)⟩ <;> omega)
  have fro : ∀ i j, i < 4 → j < 4 → i ≠ j → ∃ i' j', i' < 4 ∧ j' < 4 ∧ i' ≠ j' ∧ L i = K i' ∧ L j = K j' := by
    intro i j hi hj hij
    rcases (by omega : i = 3 ∨ i = 2 ∨ i = 1 ∨ i = 0) with rfl | rfl | rfl | rfl <;> rcases (by omega : j = 3 ∨ j = 2 ∨ j = 1 ∨ j = 0) with rfl | rfl | rfl | rfl <;> first
      | exact absurd rfl hij
      | (refine ⟨_, _, ?_, ?_, ?_, (by symm; assumption), (by symm; assumption)⟩ <;> omega)
  obtain ⟨n1, n2, n3, n4, n5, n6⟩ := n
  obtain ⟨n1', n2', n3', n4', n5', n6'⟩ := n'
  have e1 : K x' = L x := by
    obtain ⟨i, j, hi, hj, hij, u, v⟩ := to x' y' lx' ly' n1'
    obtain ⟨i', j', hi', hj', hij', u', v'⟩ := fro x y lx ly n1
    have := p1 i hi
    have := q1 i' hi'
    omega
  have e2 : K x' + K y' = L x + L y := by
    obtain ⟨i, j, hi, hj, hij, u, v⟩ := to x' y' lx' ly' n1'
    obtain ⟨i', j', hi', hj', hij', u', v'⟩ := fro x y lx ly n1
    have := p2 i j hi hj hij
    have := q2 i' j' hi' hj' hij'
    omega
  have e4 : K t' = L t := by
    obtain ⟨i, j, hi, hj, hij, u, v⟩ := to t' x' lt' lx' (Ne.symm n3')
    obtain ⟨i', j', hi', hj', hij', u', v'⟩ := fro t x lt lx (Ne.symm n3)
    have := p3 i hi
    have := q3 i' hi'
    omega
  rw [hq, hq']
  have e3 : K y' = L y := by omega
  have e5 : K z' = L z := by omega
  unfold patL
  simp only [e1, e3, e4, e5]
theorem turn_pat (m a b c d : Nat) (h : Pl.Perm4 a b c d) : patL (shp (Pl.turnTo m a b c d 4)) (sortTo (shp (Pl.turnTo m a b c d 4)) 4) = patL (shp m) (sortTo (shp m) 4) := by
  obtain ⟨e1, e2, e3, e4⟩ := turn_shp m a b c d h
  exact pat_perm (shp m) _ a b c d h e1 e2 e3 e4
theorem turn_bal (m a b c d : Nat) (h : Pl.Perm4 a b c d) (hm : m < 4503599627370496) : balB (Pl.turnTo m a b c d 4) = balB m := by
  unfold balB
  rw [turn_pat m a b c d h, turn_right m a b c d h hm]
end Go.Proofs.YtdebhdjcacojeaaDoor
