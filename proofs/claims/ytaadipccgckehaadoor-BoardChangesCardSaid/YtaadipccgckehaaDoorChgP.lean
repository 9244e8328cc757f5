/- Plain laws of the changes between two right deals. No program. -/
import Derived.Test.YtaadipccgckehaaDoorBW
import Derived.Test.YtaadipccgckehaaDoorCQ
namespace Go.Proofs.YtaadipccgckehaaDoor
open Go
namespace Pl
theorem part_of_right {D : Nat → Nat} (h : rightB D = true) : ∀ k, k < 4 → D k ≤ 4503599627370495 ∧ pc 64 (D k) ≤ 13 ∧ D k &&& usedTo D k = 0 := by
  unfold rightB at h
  rw [Bool.and_eq_true] at h
  exact (part_iff D).1 h.1
theorem used_all {D : Nat → Nat} (h : rightB D = true) : usedTo D 4 = 4503599627370495 := by
  unfold rightB at h
  rw [Bool.and_eq_true, decide_eq_true_eq] at h
  exact h.2
theorem right_apart {D : Nat → Nat} (h : rightB D = true) {j k c : Nat} (hj : j < k) (hk : k < 4) (h1 : (D j).testBit c = true) : (D k).testBit c = false := by
  have h2 := (part_of_right h k hk).2.2
  have h3 : (usedTo D k).testBit c = true := (used_bit D c k).2 ⟨j, hj, h1⟩
  have h4 : (D k &&& usedTo D k).testBit c = false := by rw [h2, Nat.zero_testBit]
  rw [Nat.testBit_and, h3, Bool.and_true] at h4
  exact h4
theorem right_some {D : Nat → Nat} (h : rightB D = true) {c : Nat} (hc : c < 52) : ∃ j, j < 4 ∧ (D j).testBit c = true := by
  refine (used_bit D c 4).1 ?_
  rw [used_all h, show (4503599627370495 : Nat) = 2 ^ 52 - 1 from by decide, Nat.testBit_two_pow_sub_one]
  simpa using hc
theorem owner_of {D : Nat → Nat} (h : rightB D = true) {c j : Nat} (hj : j < 4) (h1 : (D j).testBit c = true) : owner D c = j := by
  have hn : ∀ k, k < j → (D k).testBit c = false := fun k hk => by
    rcases hb : (D k).testBit c with _ | _
    · rfl
    · have := right_apart h hk hj hb
      rw [h1] at this
      cases this
  unfold owner
  rcases (by omega : j = 0 ∨ j = 1 ∨ j = 2 ∨ j = 3) with rfl | rfl | rfl | rfl
  · rw [h1]; rfl
  · rw [hn 0 (by omega), h1]; rfl
  · rw [hn 0 (by omega), hn 1 (by omega), h1]; rfl
  · rw [hn 0 (by omega), hn 1 (by omega), hn 2 (by omega), h1]; rfl
theorem owner_bit {D : Nat → Nat} (h : rightB D = true) {c s : Nat} (hc : c < 52) (hs : s < 4) : (D s).testBit c = decide (owner D c = s) := by
  obtain ⟨j, hj, hb⟩ := right_some h hc
  have ho := owner_of h hj hb
  by_cases he : s = j
  · subst he
    rw [hb, ho]; simp
  · rw [ho, decide_eq_false (Ne.symm he)]
    rcases hx : (D s).testBit c with _ | _
    · rfl
    · exact absurd ((owner_of h hs hx).symm.trans ho) he
theorem bit_out {D : Nat → Nat} (h : rightB D = true) {c s : Nat} (hc : 52 ≤ c) (hs : s < 4) : (D s).testBit c = false := bit_high (by have := (part_of_right h s hs).1; omega) hc
theorem deal_same {D E : Nat → Nat} (hD : rightB D = true) (hE : rightB E = true) (h : ∀ c, c < 52 → owner D c = owner E c) (s : Nat) (hs : s < 4) : D s = E s := by
  apply Nat.eq_of_testBit_eq
  intro b
  rcases Nat.lt_or_ge b 52 with hb | hb
  · rw [owner_bit hD hb hs, owner_bit hE hb hs, h b hb]
  · rw [bit_out hD hb hs, bit_out hE hb hs]
theorem chg_mem {D E : Nat → Nat} {k c : Nat} : c ∈ chg D E k ↔ c < k ∧ owner D c ≠ owner E c := by simp [chg]
theorem chg_sym (D E : Nat → Nat) (k : Nat) : chg E D k = chg D E k := by
  unfold chg
  congr 1
  funext c
  simp only [ne_comm]
theorem chg_self (D : Nat → Nat) (k : Nat) : chg D D k = [] := by simp [chg]
theorem chg_up (D E : Nat → Nat) (k : Nat) : (chg D E k).Pairwise (· < ·) := List.Pairwise.filter _ List.pairwise_lt_range
theorem chg_none {D E : Nat → Nat} (hD : rightB D = true) (hE : rightB E = true) : chg D E 52 = [] ↔ ∀ s, s < 4 → D s = E s := by
  constructor
  · intro h
    refine deal_same hD hE (fun c hc => ?_)
    rcases Nat.decEq (owner D c) (owner E c) with hn | he
    · have : c ∈ chg D E 52 := chg_mem.2 ⟨hc, hn⟩
      rw [h] at this
      cases this
    · exact he
  · intro h
    apply List.eq_nil_iff_forall_not_mem.2
    intro c hc
    obtain ⟨h1, h2⟩ := chg_mem.1 hc
    refine h2 ?_
    unfold owner
    rw [h 0 (by omega), h 1 (by omega), h 2 (by omega), h 3 (by omega)]
/-- How many of some cards a seat has. -/
def own (D : Nat → Nat) (P : List Nat) (s : Nat) : Nat := P.countP (fun c => decide (owner D c = s))
theorem own_put (D : Nat → Nat) (P : List Nat) (c s : Nat) : own D (P ++ [c]) s = own D P s + if owner D c = s then 1 else 0 := by
  unfold own
  rw [List.countP_append, List.countP_singleton]
  by_cases h : owner D c = s <;> simp [h]
theorem own_le (D : Nat → Nat) (P : List Nat) (s : Nat) : own D P s ≤ P.length := List.countP_le_length
theorem own_all {D : Nat → Nat} (h : rightB D = true) (s : Nat) (hs : s < 4) : own D (List.range 52) s = 13 := by
  have h1 := filter_pc (D s) 0 52
  have h2 : (List.range 52).filter (fun r => (D s).testBit (0 + r)) = (List.range 52).filter (fun c => decide (owner D c = s)) := by
    apply List.filter_congr
    intro c hc
    rw [Nat.zero_add, owner_bit h (by simpa using hc) hs]
  rw [h2] at h1
  unfold own
  rw [List.countP_eq_length_filter, h1, Nat.pow_zero, Nat.div_one]
  have h3 := right_ref D
  rw [h] at h3
  simp only [Bool.true_eq, Bool.and_eq_true, decide_eq_true_eq] at h3
  rcases (by omega : s = 0 ∨ s = 1 ∨ s = 2 ∨ s = 3) with rfl | rfl | rfl | rfl
  · exact h3.1.1.1.2
  · exact h3.1.1.2
  · exact h3.1.2
  · exact h3.2
theorem countP_split {p q : Nat → Bool} : ∀ l : List Nat, l.countP p = (l.filter q).countP p + (l.filter (fun c => !q c)).countP p
  | [] => rfl
  | c :: l => by
    have ih := countP_split (p := p) (q := q) l
    rcases hq : q c with _ | _
    · rw [List.filter_cons_of_neg (by simp [hq]), List.filter_cons_of_pos (by simp [hq]), List.countP_cons, List.countP_cons, ih]; omega
    · rw [List.filter_cons_of_pos (by simp [hq]), List.filter_cons_of_neg (by simp [hq]), List.countP_cons, List.countP_cons, ih]; omega
theorem own_even {D E : Nat → Nat} (hD : rightB D = true) (hE : rightB E = true) (s : Nat) (hs : s < 4) : own E (chg D E 52) s = own D (chg D E 52) s := by
  have h1 := own_all hD s hs
  have h2 := own_all hE s hs
  unfold own at h1 h2 ⊢
  rw [countP_split (q := fun c => decide (owner D c ≠ owner E c))] at h1 h2
  have h3 : ((List.range 52).filter (fun c => !decide (owner D c ≠ owner E c))).countP (fun c => decide (owner E c = s)) = ((List.range 52).filter (fun c => !decide (owner D c ≠ owner E c))).countP (fun c => decide (owner D c = s)) := by
    apply List.countP_congr
    intro c hc
    have := (List.mem_filter.1 hc).2
    simp at this
    rw [this]
  rw [h3] at h2
  unfold chg
  omega
theorem snoc_ind {α : Type} {p : List α → Prop} (h0 : p []) (h1 : ∀ (P : List α) (c : α), p P → p (P ++ [c])) : ∀ l, p l := fun l => by
  have h : ∀ m : List α, p m.reverse := fun m => by
    induction m with
    | nil => exact h0
    | cons c m ih => rw [List.reverse_cons]; exact h1 _ c ih
  have := h l.reverse
  rwa [List.reverse_reverse] at this
/-- A card taken out of a set. -/
def clr (m c : Nat) : Nat := m &&& (18446744073709551615 - 2 ^ c)
theorem clr_bit {m c b : Nat} (hm : m < 18446744073709551616) (hc : c < 52) : (clr m c).testBit b = (m.testBit b && decide (b ≠ c)) := by
  unfold clr
  have hp : 2 ^ c < 2 ^ 64 := Nat.pow_lt_pow_right (by omega) (by omega)
  have e : 18446744073709551615 - 2 ^ c = 2 ^ 64 - (2 ^ c + 1) := by omega
  rw [Nat.testBit_and, e, Nat.testBit_two_pow_sub_succ hp, Nat.testBit_two_pow]
  rcases Nat.lt_or_ge b 64 with hb | hb
  · rw [decide_eq_true hb, Bool.true_and]
    by_cases h : c = b
    · subst h; simp
    · rw [decide_eq_false h, decide_eq_true (Ne.symm h)]; rfl
  · have : m.testBit b = false := Nat.testBit_lt_two_pow (Nat.lt_of_lt_of_le (show m < 2 ^ 64 from hm) (Nat.pow_le_pow_right (by omega) hb))
    rw [this]; rfl
theorem clr_le (m c : Nat) : clr m c ≤ m := Nat.and_le_left
/-- The deal after a change. -/
def zSt (D E : Nat → Nat) (Z : Nat → Nat) (c s : Nat) : Nat := if s = owner E c then Z s ||| 2 ^ c else if s = owner D c then clr (Z s) c else Z s
def zTo (D E : Nat → Nat) (P : List Nat) : Nat → Nat := P.foldl (zSt D E) D
theorem zTo_0 (D E : Nat → Nat) : zTo D E [] = D := rfl
theorem zTo_put (D E : Nat → Nat) (P : List Nat) (c : Nat) : zTo D E (P ++ [c]) = zSt D E (zTo D E P) c := by simp [zTo, List.foldl_append]
theorem zTo_lt {D E : Nat → Nat} (hD : rightB D = true) : ∀ (P : List Nat), (∀ c ∈ P, c < 52) → ∀ s, s < 4 → zTo D E P s < 4503599627370496 := by
  refine snoc_ind ?_ ?_
  · intro _ s hs; rw [zTo_0]; have := (part_of_right hD s hs).1; omega
  · intro P c ih h s hs
    have ih' := ih (fun c hc => h c (List.mem_append_left _ hc)) s hs
    have hc := h c (List.mem_append_right _ (List.mem_singleton.2 rfl))
    rw [zTo_put]
    unfold zSt
    split
    · exact Nat.or_lt_two_pow (n := 52) ih' (Nat.pow_lt_pow_right (by omega) hc)
    · split
      · exact Nat.lt_of_le_of_lt (clr_le _ _) ih'
      · exact ih'
theorem zTo_bit {D E : Nat → Nat} (hD : rightB D = true) : ∀ (P : List Nat), (∀ c ∈ P, c < 52 ∧ owner D c ≠ owner E c) → ∀ s, s < 4 → ∀ b, (zTo D E P s).testBit b = if b ∈ P then decide (owner E b = s) else (D s).testBit b := by
  refine snoc_ind ?_ ?_
  · intro _ s _ b; rw [zTo_0, if_neg (by simp)]
  · intro P c ih h s hs b
    have hP : ∀ c ∈ P, c < 52 ∧ owner D c ≠ owner E c := fun c hc => h c (List.mem_append_left _ hc)
    have ih' := ih hP s hs b
    obtain ⟨hc, hne⟩ := h c (List.mem_append_right _ (List.mem_singleton.2 rfl))
    have hlt := zTo_lt (E := E) hD P (fun c hc => (hP c hc).1) s hs
    rw [zTo_put]
    by_cases hbc : b = c
    · subst hbc
      rw [if_pos (List.mem_append_right _ (List.mem_singleton.2 rfl))]
      unfold zSt
      by_cases h1 : s = owner E b
      · rw [if_pos h1, Nat.testBit_or, Nat.testBit_two_pow_self, Bool.or_true, h1]
        simp
      · rw [if_neg h1, decide_eq_false (Ne.symm h1)]
        by_cases h2 : s = owner D b
        · rw [if_pos h2, clr_bit (by omega) hc]
          simp
        · rw [if_neg h2, ih']
          split
          · exact decide_eq_false (Ne.symm h1)
          · rw [owner_bit hD hc hs]
            exact decide_eq_false (Ne.symm h2)
    · have hmem : (b ∈ P ++ [c]) = (b ∈ P) := by
        rw [List.mem_append, List.mem_singleton]
        simp [hbc]
      simp only [hmem]
      rw [← ih']
      unfold zSt
      split
      · rw [Nat.testBit_or, Nat.testBit_two_pow, decide_eq_false (Ne.symm hbc), Bool.or_false]
      · split
        · rw [clr_bit (by omega) hc, decide_eq_true hbc, Bool.and_true]
        · rfl
theorem zTo_all {D E : Nat → Nat} (hD : rightB D = true) (hE : rightB E = true) (s : Nat) (hs : s < 4) : zTo D E (chg D E 52) s = E s := by
  apply Nat.eq_of_testBit_eq
  intro b
  rw [zTo_bit hD _ (fun c hc => chg_mem.1 hc) s hs b]
  by_cases hm : b ∈ chg D E 52
  · rw [if_pos hm, owner_bit hE (chg_mem.1 hm).1 hs]
  · rw [if_neg hm]
    rcases Nat.lt_or_ge b 52 with hb | hb
    · rw [owner_bit hD hb hs, owner_bit hE hb hs]
      have : owner D b = owner E b := by
        rcases Nat.decEq (owner D b) (owner E b) with hn | he
        · exact absurd (chg_mem.2 ⟨hb, hn⟩) hm
        · exact he
      rw [this]
    · rw [bit_out hD hb hs, bit_out hE hb hs]
end Pl
end Go.Proofs.YtaadipccgckehaaDoor
