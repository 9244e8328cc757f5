/- Plain laws of the changes between two right deals. No program. BoardChanges: the walk. Plain laws: the lowest card of a hand; two cards exchanged; a deal turned. No program. BoardBack: the walk. -/
import Derived.Test.YtaadipccgckehaaDoorBW
import Derived.Test.YtaadipccgckehaaDoorCQ
import Derived.Test.YtaadipccgckehaaDoorDiffA
import Derived.Test.YtaadipccgckehaaDoorMade
import Derived.BigRegion
import Derived.Test.YtaadipccgckehaaDoorMadeP
import Derived.Test.YtaadipccgckehaaDoorCF
import Derived.Deep.DeepCutAuto
namespace Go.Proofs.YtaadipccgckehaaDoor
open Go
namespace Pl
theorem part_of_right {D : Nat → Nat} (h : rightB D = true) : ∀ k, k < 4 → D k ≤ 4503599627370495 ∧ pc 64 (D k) ≤ 13 ∧ D k &&& usedTo D k = 0 := by
  unfold rightB at h
  rw [Bool.and_eq_true] at h
  exact (part_iff D).1 h.1
theorem used_all {D : Nat → Nat} (h : rightB D = true) : usedTo D 4 = 4503599627370495 := by
  unfold rightB at h
  rw [Bool.and_eq_true, decide_eq_true_eq] at h
  exact h.2
theorem right_apart {D : Nat → Nat} (h : rightB D = true) {j k c : Nat} (hj : j < k) (hk : k < 4) (h1 : (D j).testBit c = true) : (D k).testBit c = false := by
  have h2 := (part_of_right h k hk).2.2
  have h3 : (usedTo D k).testBit c = true := (used_bit D c k).2 ⟨j, hj, h1⟩
  have h4 : (D k &&& usedTo D k).testBit c = false := by rw [h2, Nat.zero_testBit]
  rw [Nat.testBit_and, h3, Bool.and_true] at h4
  exact h4
theorem right_some {D : Nat → Nat} (h : rightB D = true) {c : Nat} (hc : c < 52) : ∃ j, j < 4 ∧ (D j).testBit c = true := by
  refine (used_bit D c 4).1 ?_
  rw [used_all h, show (4503599627370495 : Nat) = 2 ^ 52 - 1 from by decide, Nat.testBit_two_pow_sub_one]
  simpa using hc
theorem owner_of {D : Nat → Nat} (h : rightB D = true) {c j : Nat} (hj : j < 4) (h1 : (D j).testBit c = true) : owner D c = j := by
  have hn : ∀ k, k < j → (D k).testBit c = false := fun k hk => by
    rcases hb : (D k).testBit c with _ | _
    · rfl
    · have := right_apart h hk hj hb
      rw [h1] at this
      cases this
  unfold owner
  rcases (by omega : j = 0 ∨ j = 1 ∨ j = 2 ∨ j = 3) with rfl | rfl | rfl | rfl
  · rw [h1]; rfl
  · rw [hn 0 (by omega), h1]; rfl
  · rw [hn 0 (by omega), hn 1 (by omega), h1]; rfl
  · rw [hn 0 (by omega), hn 1 (by omega), hn 2 (by omega), h1]; rfl
theorem owner_bit {D : Nat → Nat} (h : rightB D = true) {c s : Nat} (hc : c < 52) (hs : s < 4) : (D s).testBit c = decide (owner D c = s) := by
  obtain ⟨j, hj, hb⟩ := right_some h hc
  have ho := owner_of h hj hb
  by_cases he : s = j
  · subst he
    rw [hb, ho]; simp
  · rw [ho, decide_eq_false (Ne.symm he)]
    rcases hx : (D s).testBit c with _ | _
    · rfl
    · exact absurd ((owner_of h hs hx).symm.trans ho) he
theorem bit_out {D : Nat → Nat} (h : rightB D = true) {c s : Nat} (hc : 52 ≤ c) (hs : s < 4) : (D s).testBit c = false := bit_high (by have := (part_of_right h s hs).1; omega) hc
theorem deal_same {D E : Nat → Nat} (hD : rightB D = true) (hE : rightB E = true) (h : ∀ c, c < 52 → owner D c = owner E c) (s : Nat) (hs : s < 4) : D s = E s := by
  apply Nat.eq_of_testBit_eq
  intro b
  rcases Nat.lt_or_ge b 52 with hb | hb
  · rw [owner_bit hD hb hs, owner_bit hE hb hs, h b hb]
  · rw [bit_out hD hb hs, bit_out hE hb hs]
theorem chg_mem {D E : Nat → Nat} {k c : Nat} : c ∈ chg D E k ↔ c < k ∧ owner D c ≠ owner E c := by simp [chg]
theorem chg_sym (D E : Nat → Nat) (k : Nat) : chg E D k = chg D E k := by
  unfold chg
  congr 1
  funext c
  simp only [ne_comm]
theorem chg_self (D : Nat → Nat) (k : Nat) : chg D D k = [] := by simp [chg]
theorem chg_up (D E : Nat → Nat) (k : Nat) : (chg D E k).Pairwise (· < ·) := List.Pairwise.filter _ List.pairwise_lt_range
theorem chg_none {D E : Nat → Nat} (hD : rightB D = true) (hE : rightB E = true) : chg D E 52 = [] ↔ ∀ s, s < 4 → D s = E s := by
  constructor
  · intro h
    refine deal_same hD hE (fun c hc => ?_)
    rcases Nat.decEq (owner D c) (owner E c) with hn | he
    · have : c ∈ chg D E 52 := chg_mem.2 ⟨hc, hn⟩
      rw [h] at this
      cases this
    · exact he
  · intro h
    apply List.eq_nil_iff_forall_not_mem.2
    intro c hc
    obtain ⟨h1, h2⟩ := chg_mem.1 hc
    refine h2 ?_
    unfold owner
    rw [h 0 (by omega), h 1 (by omega), h 2 (by omega), h 3 (by omega)]
/-- How many of some cards a seat has. -/
def own (D : Nat → Nat) (P : List Nat) (s : Nat) : Nat := P.countP (fun c => decide (owner D c = s))
theorem own_put (D : Nat → Nat) (P : List Nat) (c s : Nat) : own D (P ++ [c]) s = own D P s + if owner D c = s then 1 else 0 := by
  unfold own
  rw [List.countP_append, List.countP_singleton]
  by_cases h : owner D c = s <;> simp [h]
theorem own_le (D : Nat → Nat) (P : List Nat) (s : Nat) : own D P s ≤ P.length := List.countP_le_length
theorem own_all {D : Nat → Nat} (h : rightB D = true) (s : Nat) (hs : s < 4) : own D (List.range 52) s = 13 := by
  have h1 := filter_pc (D s) 0 52
  have h2 : (List.range 52).filter (fun r => (D s).testBit (0 + r)) = (List.range 52).filter (fun c => decide (owner D c = s)) := by
    apply List.filter_congr
    intro c hc
    rw [Nat.zero_add, owner_bit h (by simpa using hc) hs]
  rw [h2] at h1
  unfold own
  rw [List.countP_eq_length_filter, h1, Nat.pow_zero, Nat.div_one]
  have h3 := right_ref D
  rw [h] at h3
  simp only [Bool.true_eq, Bool.and_eq_true, decide_eq_true_eq] at h3
  rcases (by omega : s = 0 ∨ s = 1 ∨ s = 2 ∨ s = 3) with rfl | rfl | rfl | rfl
  · exact h3.1.1.1.2
  · exact h3.1.1.2
  · exact h3.1.2
  · exact h3.2
theorem countP_split {p q : Nat → Bool} : ∀ l : List Nat, l.countP p = (l.filter q).countP p + (l.filter (fun c => !q c)).countP p
  | [] => rfl
  | c :: l => by
    have ih := countP_split (p := p) (q := q) l
    rcases hq : q c with _ | _
    · rw [List.filter_cons_of_neg (by simp [hq]), List.filter_cons_of_pos (by simp [hq]), List.countP_cons, List.countP_cons, ih]; omega
    · rw [List.filter_cons_of_pos (by simp [hq]), List.filter_cons_of_neg (by simp [hq]), List.countP_cons, List.countP_cons, ih]; omega
theorem own_even {D E : Nat → Nat} (hD : rightB D = true) (hE : rightB E = true) (s : Nat) (hs : s < 4) : own E (chg D E 52) s = own D (chg D E 52) s := by
  have h1 := own_all hD s hs
  have h2 := own_all hE s hs
  unfold own at h1 h2 ⊢
  rw [countP_split (q := fun c => decide (owner D c ≠ owner E c))] at h1 h2
  have h3 : ((List.range 52).filter (fun c => !decide (owner D c ≠ owner E c))).countP (fun c => decide (owner E c = s)) = ((List.range 52).filter (fun c => !decide (owner D c ≠ owner E c))).countP (fun c => decide (owner D c = s)) := by
    apply List.countP_congr
    intro c hc
    have := (List.mem_filter.1 hc).2
    simp at this
    rw [this]
  rw [h3] at h2
  unfold chg
  omega
theorem snoc_ind {α : Type} {p : List α → Prop} (h0 : p []) (h1 : ∀ (P : List α) (c : α), p P → p (P ++ [c])) : ∀ l, p l := fun l => by
  have h : ∀ m : List α, p m.reverse := fun m => by
    induction m with
    | nil => exact h0
    | cons c m ih => rw [List.reverse_cons]; exact h1 _ c ih
  have := h l.reverse
  rwa [List.reverse_reverse] at this
/-- A card taken out of a set. -/
def clr (m c : Nat) : Nat := m &&& (18446744073709551615 - 2 ^ c)
theorem clr_bit {m c b : Nat} (hm : m < 18446744073709551616) (hc : c < 52) : (clr m c).testBit b = (m.testBit b && decide (b ≠ c)) := by
  unfold clr
  have hp : 2 ^ c < 2 ^ 64 := Nat.pow_lt_pow_right (by omega) (by omega)
  have e : 18446744073709551615 - 2 ^ c = 2 ^ 64 - (2 ^ c + 1) := by omega
  rw [Nat.testBit_and, e, Nat.testBit_two_pow_sub_succ hp, Nat.testBit_two_pow]
  rcases Nat.lt_or_ge b 64 with hb | hb
  · rw [decide_eq_true hb, Bool.true_and]
    by_cases h : c = b
    · subst h; simp
    · rw [decide_eq_false h, decide_eq_true (Ne.symm h)]; rfl
  · have : m.testBit b = false := Nat.testBit_lt_two_pow (Nat.lt_of_lt_of_le (show m < 2 ^ 64 from hm) (Nat.pow_le_pow_right (by omega) hb))
    rw [this]; rfl
theorem clr_le (m c : Nat) : clr m c ≤ m := Nat.and_le_left
/-- The deal after a change. -/
def zSt (D E : Nat → Nat) (Z : Nat → Nat) (c s : Nat) : Nat := if s = owner E c then Z s ||| 2 ^ c else if s = owner D c then clr (Z s) c else Z s
def zTo (D E : Nat → Nat) (P : List Nat) : Nat → Nat := P.foldl (zSt D E) D
theorem zTo_0 (D E : Nat → Nat) : zTo D E [] = D := rfl
theorem zTo_put (D E : Nat → Nat) (P : List Nat) (c : Nat) : zTo D E (P ++ [c]) = zSt D E (zTo D E P) c := by simp [zTo, List.foldl_append]
theorem zTo_lt {D E : Nat → Nat} (hD : rightB D = true) : ∀ (P : List Nat), (∀ c ∈ P, c < 52) → ∀ s, s < 4 → zTo D E P s < 4503599627370496 := by
  refine snoc_ind ?_ ?_
  · intro _ s hs; rw [zTo_0]; have := (part_of_right hD s hs).1; omega
  · intro P c ih h s hs
    have ih' := ih (fun c hc => h c (List.mem_append_left _ hc)) s hs
    have hc := h c (List.mem_append_right _ (List.mem_singleton.2 rfl))
    rw [zTo_put]
    unfold zSt
    split
    · exact Nat.or_lt_two_pow (n := 52) ih' (Nat.pow_lt_pow_right (by omega) hc)
    · split
      · exact Nat.lt_of_le_of_lt (clr_le _ _) ih'
      · exact ih'
theorem zTo_bit {D E : Nat → Nat} (hD : rightB D = true) : ∀ (P : List Nat), (∀ c ∈ P, c < 52 ∧ owner D c ≠ owner E c) → ∀ s, s < 4 → ∀ b, (zTo D E P s).testBit b = if b ∈ P then decide (owner E b = s) else (D s).testBit b := by
  refine snoc_ind ?_ ?_
  · intro _ s _ b; rw [zTo_0, if_neg (by simp)]
  · intro P c ih h s hs b
    have hP : ∀ c ∈ P, c < 52 ∧ owner D c ≠ owner E c := fun c hc => h c (List.mem_append_left _ hc)
    have ih' := ih hP s hs b
    obtain ⟨hc, hne⟩ := h c (List.mem_append_right _ (List.mem_singleton.2 rfl))
    have hlt := zTo_lt (E := E) hD P (fun c hc => (hP c hc).1) s hs
    rw [zTo_put]
    by_cases hbc : b = c
    · subst hbc
      rw [if_pos (List.mem_append_right _ (List.mem_singleton.2 rfl))]
      unfold zSt
      by_cases h1 : s = owner E b
      · rw [if_pos h1, Nat.testBit_or, Nat.testBit_two_pow_self, Bool.or_true, h1]
        simp
      · rw [if_neg h1, decide_eq_false (Ne.symm h1)]
        by_cases h2 : s = owner D b
        · rw [if_pos h2, clr_bit (by omega) hc]
          simp
        · rw [if_neg h2, ih']
          split
          · exact decide_eq_false (Ne.symm h1)
          · rw [owner_bit hD hc hs]
            exact decide_eq_false (Ne.symm h2)
    · have hmem : (b ∈ P ++ [c]) = (b ∈ P) := by
        rw [List.mem_append, List.mem_singleton]
        simp [hbc]
      simp only [hmem]
      rw [← ih']
      unfold zSt
      split
      · rw [Nat.testBit_or, Nat.testBit_two_pow, decide_eq_false (Ne.symm hbc), Bool.or_false]
      · split
        · rw [clr_bit (by omega) hc, decide_eq_true hbc, Bool.and_true]
        · rfl
theorem zTo_all {D E : Nat → Nat} (hD : rightB D = true) (hE : rightB E = true) (s : Nat) (hs : s < 4) : zTo D E (chg D E 52) s = E s := by
  apply Nat.eq_of_testBit_eq
  intro b
  rw [zTo_bit hD _ (fun c hc => chg_mem.1 hc) s hs b]
  by_cases hm : b ∈ chg D E 52
  · rw [if_pos hm, owner_bit hE (chg_mem.1 hm).1 hs]
  · rw [if_neg hm]
    rcases Nat.lt_or_ge b 52 with hb | hb
    · rw [owner_bit hD hb hs, owner_bit hE hb hs]
      have : owner D b = owner E b := by
        rcases Nat.decEq (owner D b) (owner E b) with hn | he
        · exact absurd (chg_mem.2 ⟨hb, hn⟩) hm
        · exact he
      rw [this]
    · rw [bit_out hD hb hs, bit_out hE hb hs]
end Pl
end Go.Proofs.YtaadipccgckehaaDoor
namespace Go.Proofs.YtaadipccgckehaaDoor
open Go Go.RowKit Pl

/-- What Made returns, as four numbers. -/
def MadeF (w : World) (e : Ending) (w' : World) : Prop := (∃ x : Four, rightB (ofF x) = true ∧ F64 x ∧ e = .returned (.agg #[.int .u64 (ofF x 0 : Nat), .int .u64 (ofF x 1 : Nat), .int .u64 (ofF x 2 : Nat), .int .u64 (ofF x 3 : Nat)])) ∧ Below w.heap.size w w'
theorem made_four {w : World} {v : Value} {l : List Nat} (h : BV w v l) (h8 : ∀ x ∈ l, x < 256) : Calls Tryd.prog 19 #[v] w (MadeF w) := by
  refine (made_any h h8).mono ?_
  rintro e w' ⟨⟨D, h1, h2, rfl⟩, hb⟩
  have hs : ∀ k, k < 4 → D k = ofF (toF D) k := fun k hk => by
    rcases (by omega : k = 0 ∨ k = 1 ∨ k = 2 ∨ k = 3) with rfl | rfl | rfl | rfl <;> rfl
  exact ⟨⟨toF D, by rw [← right_same hs]; exact h1, fun k hk => by rw [← hs k hk]; have := h2 k hk; omega, rfl⟩, hb⟩
/-- What '==' says of two equal arrays of four counts. -/
theorem eqI (x0 x1 x2 x3 : Nat) (w : World) : (Op.equalIn 10000 40 (.agg #[.int .i64 (x0 : Nat), .int .i64 (x1 : Nat), .int .i64 (x2 : Nat), .int .i64 (x3 : Nat)]) (.agg #[.int .i64 (x0 : Nat), .int .i64 (x1 : Nat), .int .i64 (x2 : Nat), .int .i64 (x3 : Nat)])).run Tryd.prog w = .ok true w := by
  have hu : Tryd.prog.underlying 40 = some (.array 4 3) := by kernel_rfl
  have he : Tryd.prog.underlying 3 = some (.int .i64) := by kernel_rfl
  have hz : (sizeOf 3).run Tryd.prog w = .ok 1 w := by kernel_rfl
  have hp : ∀ (a b c d : Value) , (part 3 #[a, b, c, d] 0).run Tryd.prog w = .ok a w ∧ (part 3 #[a, b, c, d] 1).run Tryd.prog w = .ok b w ∧ (part 3 #[a, b, c, d] 2).run Tryd.prog w = .ok c w ∧ (part 3 #[a, b, c, d] 3).run Tryd.prog w = .ok d w := fun a b c d => ⟨by kernel_rfl, by kernel_rfl, by kernel_rfl, by kernel_rfl⟩
  have e : ∀ a b : Int, (Op.equalIn 9999 3 (.int .i64 a) (.int .i64 b)).run Tryd.prog w = .ok (a == b) w := fun a b => run_equalIn_int w 9998 _ _ _ a b he
  rw [Op.equalIn]
  simp only [Sem.run_bind, run_underlying hu, Result.andThen_ok, hz, Std.Legacy.Range.forIn_eq_forIn_range', Std.Legacy.Range.size, List.range', List.forIn_cons, List.forIn_nil, (hp _ _ _ _).1, e, Sem.run_ite]
  simp [Sem.run_bind, Result.andThen_ok, (hp _ _ _ _).2.1, (hp _ _ _ _).2.2.1, (hp _ _ _ _).2.2.2, e]
theorem drew_one (W : World) : W.drewN 1 = W.drew := rfl
/-- Counts as the cells of an array. -/
def iC (F : Nat → Nat) (P : List Nat) : Array Value := #[.int .i64 (own F P 0 : Nat), .int .i64 (own F P 1 : Nat), .int .i64 (own F P 2 : Nat), .int .i64 (own F P 3 : Nat)]
theorem iC_get (F : Nat → Nat) (P : List Nat) (s : Nat) (hs : s < 4) : (iC F P)[s]? = some (.int .i64 (own F P s : Nat)) := by
  rcases (by omega : s = 0 ∨ s = 1 ∨ s = 2 ∨ s = 3) with rfl | rfl | rfl | rfl <;> rfl
theorem iC_set (F : Nat → Nat) (P : List Nat) (c f n : Nat) (hf : owner F c = f) (hn : own F P f = n) : (iC F P).setIfInBounds f (.int .i64 ((n + 1 : Nat) : Int)) = iC F (P ++ [c]) := by
  subst hf hn
  have hlt := owner_lt F c
  unfold iC
  simp only [own_put]
  rcases (by omega : owner F c = 0 ∨ owner F c = 1 ∨ owner F c = 2 ∨ owner F c = 3) with e | e | e | e <;> rw [e] <;> simp
theorem zC_set (D E Z : Nat → Nat) (c f t : Nat) (hf : owner D c = f) (ht : owner E c = t) (hne : f ≠ t) : ((dC Z).setIfInBounds f (.int .u64 (clr (Z f) c : Nat))).setIfInBounds t (.int .u64 (Z t ||| 2 ^ c : Nat)) = dC (zSt D E Z c) := by
  have h1 := owner_lt D c
  have h2 := owner_lt E c
  subst hf ht
  unfold dC
  rcases (by omega : owner D c = 0 ∨ owner D c = 1 ∨ owner D c = 2 ∨ owner D c = 3) with e | e | e | e <;> rcases (by omega : owner E c = 0 ∨ owner E c = 1 ∨ owner E c = 2 ∨ owner E c = 3) with e' | e' | e' | e' <;>
    first | (exfalso; omega) | (simp [zSt, e, e'])
/-- What the loop over the changes keeps: who comes, who leaves, and the deal under way. -/
structure CW (w6 : World) (q : Nat) (x y : Four) (l : List Nat) (i : Nat) (W : World) : Prop where
  below : Below q w6 W
  come : Blk W q 40 (iC (ofF y) (l.take i))
  leave : Blk W (q + 1) 40 (iC (ofF x) (l.take i))
  z : Blk W (q + 2) 35 (dC (zTo (ofF x) (ofF y) (l.take i)))
theorem cw_new {x y : Four} {l : List Nat} (w6 : World) : CW w6 w6.heap.size x y l 0 (((w6.alloc (.cells #[.int .i64 0, .int .i64 0, .int .i64 0, .int .i64 0] 40)).alloc (.cells #[.int .i64 0, .int .i64 0, .int .i64 0, .int .i64 0] 40)).alloc (.cells #[.int .u64 (ofF x 0 : Nat), .int .u64 (ofF x 1 : Nat), .int .u64 (ofF x 2 : Nat), .int .u64 (ofF x 3 : Nat)] 35)) := by
  have e : ∀ F, iC F (l.take 0) = #[.int .i64 0, .int .i64 0, .int .i64 0, .int .i64 0] := fun F => rfl
  refine ⟨((Below.refl _ w6).alloc (Nat.le_refl _) _ |>.alloc (by simp) _).alloc (by simp; omega) _, ?_, ?_, ?_⟩
  · rw [e]; exact ((Blk.new w6 _ _).alloc _).alloc _
  · rw [e]
    have h := (Blk.new (w6.alloc (.cells #[.int .i64 0, .int .i64 0, .int .i64 0, .int .i64 0] 40)) 40 #[.int .i64 0, .int .i64 0, .int .i64 0, .int .i64 0]).alloc (.cells #[.int .u64 (ofF x 0 : Nat), .int .u64 (ofF x 1 : Nat), .int .u64 (ofF x 2 : Nat), .int .u64 (ofF x 3 : Nat)] 35)
    rwa [size_al] at h
  · have h := Blk.new ((w6.alloc (.cells #[.int .i64 0, .int .i64 0, .int .i64 0, .int .i64 0] 40)).alloc (.cells #[.int .i64 0, .int .i64 0, .int .i64 0, .int .i64 0] 40)) 35 #[.int .u64 (ofF x 0 : Nat), .int .u64 (ofF x 1 : Nat), .int .u64 (ofF x 2 : Nat), .int .u64 (ofF x 3 : Nat)]
    rw [size_al, size_al] at h
    exact h
theorem cw_next {w6 : World} {q i cc : Nat} {x y : Four} {l : List Nat} (hs : l.take (i + 1) = l.take i ++ [cc]) (hne : owner (ofF x) cc ≠ owner (ofF y) cc) (W : World) (hb : Below q w6 W)
    (h1 : Blk W q 40 ((iC (ofF y) (l.take i)).setIfInBounds (owner (ofF y) cc) (.int .i64 ((own (ofF y) (l.take i) (owner (ofF y) cc) + 1 : Nat) : Int))))
    (h2 : Blk W (q + 1) 40 ((iC (ofF x) (l.take i)).setIfInBounds (owner (ofF x) cc) (.int .i64 ((own (ofF x) (l.take i) (owner (ofF x) cc) + 1 : Nat) : Int))))
    (h3 : Blk W (q + 2) 35 (((dC (zTo (ofF x) (ofF y) (l.take i))).setIfInBounds (owner (ofF x) cc) (.int .u64 (clr (zTo (ofF x) (ofF y) (l.take i) (owner (ofF x) cc)) cc : Nat))).setIfInBounds (owner (ofF y) cc) (.int .u64 (zTo (ofF x) (ofF y) (l.take i) (owner (ofF y) cc) ||| 2 ^ cc : Nat)))) :
    CW w6 q x y l (i + 1) W := by
  rw [iC_set _ _ cc _ _ rfl rfl] at h1 h2
  rw [zC_set _ _ _ _ _ _ rfl rfl hne, ← zTo_put] at h3
  rw [← hs] at h1 h2 h3
  exact ⟨hb, h1, h2, h3⟩
set_option maxRecDepth 100000 in
set_option maxHeartbeats 4000000 in
theorem changes_walk (v0 v1 : Value) (l0 l1 : List Nat) (w : World) (he : Env w) (h0 : BV w v0 l0) (h08 : ∀ x ∈ l0, x < 256) (h1 : BV w v1 l1) (h18 : ∀ x ∈ l1, x < 256) : Calls Tryd.prog 6 #[v0, v1] w (fun e w' => e = .returned (.bool true) ∧ Below w.heap.size w w') := by
  have M0 := Lib.hid (made_four h0 h08)
  have M1 := Lib.hid (fun w1 (hb : Below w.heap.size w w1) => made_four (h1.keep hb) h18)
  have HE := Lib.hid he
  obtain ⟨A0, c0, rfl, _⟩ := h0.len
  obtain ⟨A1, c1, rfl, _⟩ := h1.len
  clear h0 h1 h08 h18 he
  generalize l0.length = n0 at *
  generalize l1.length = n1 at *
  go_enter Tryd.func6, Tryd.ntmps6
  go_wp2_with fail
  refine M0.out.mono ?_
  rintro e w1 ⟨⟨x, hx, hx64, rfl⟩, hb⟩
  have HB1 := Lib.hid hb
  have HX := Lib.hid (And.intro hx hx64)
  clear hx hx64 M0
  go_wp2_with fail
  refine (M1.out w1 HB1.out).mono ?_
  rintro e w2 ⟨⟨y, hy, hy64, rfl⟩, hb⟩
  have HB2 := Lib.hid (bchain HB1.out hb)
  have HY := Lib.hid (And.intro hy hy64)
  clear hy hy64 hb M1 HB1
  go_upto_region 2 with fail
  have BX := Lib.hid (boxes (w := w2) (D := ofF x) (E := ofF y) 35)
  rw [show dC (ofF x) = #[.int .u64 (ofF x 0 : Nat), .int .u64 (ofF x 1 : Nat), .int .u64 (ofF x 2 : Nat), .int .u64 (ofF x 3 : Nat)] from rfl, show dC (ofF y) = #[.int .u64 (ofF y 0 : Nat), .int .u64 (ofF y 1 : Nat), .int .u64 (ofF y 2 : Nat), .int .u64 (ofF y 3 : Nat)] from rfl] at BX
  generalize (w2.alloc (.cells #[.int .u64 (ofF x 0 : Nat), .int .u64 (ofF x 1 : Nat), .int .u64 (ofF x 2 : Nat), .int .u64 (ofF x 3 : Nat)] 35)).alloc (.cells #[.int .u64 (ofF y 0 : Nat), .int .u64 (ofF y 1 : Nat), .int .u64 (ofF y 2 : Nat), .int .u64 (ofF y 3 : Nat)] 35) = W3 at *
  obtain ⟨ba, bb, bw⟩ := BX.out
  have BA := Lib.hid ba
  have BB := Lib.hid bb
  have BW := Lib.hid (bchain HB2.out bw)
  have HP5 : Hid (w.heap.size ≤ w2.heap.size) := Lib.hid HB2.out.size
  clear ba bb bw BX HB2
  generalize w2.heap.size = p5 at *
  have C1 := Lib.hid (fun W => changes_any (ofF x) (ofF y) HX.out.2 HY.out.2 W)
  have C2 := Lib.hid (fun W => changes_any (ofF y) (ofF x) HY.out.2 HX.out.2 W)
  have C3 := Lib.hid (fun W => changes_any (ofF x) (ofF x) HX.out.2 HX.out.2 W)
  have BR : Hid (∀ a b, rightB a = true → rightB b = true → bothR a b = true) := Lib.hid (fun a b h1 h2 => by unfold bothR; rw [h1, h2]; rfl)
  have a0 := BA.out.cell (j := 0) rfl
  have a1 := BA.out.cell (j := 1) rfl
  have a2 := BA.out.cell (j := 2) rfl
  have a3 := BA.out.cell (j := 3) rfl
  have b0 := BB.out.cell (j := 0) rfl
  have b1 := BB.out.cell (j := 1) rfl
  have b2 := BB.out.cell (j := 2) rfl
  have b3 := BB.out.cell (j := 3) rfl
  go_wp2_with fail
  refine (C1.out _).mono ?_
  rintro e w4 hr
  obtain ⟨hb, hc⟩ := chg_parts hr
  rcases hc with ⟨hB, _⟩ | ⟨_, A, c, rfl, hs⟩
  · rw [BR.out _ _ HX.out.1 HY.out.1] at hB; cases hB
  obtain ⟨l, hl⟩ : ∃ l, chg (ofF x) (ofF y) 52 = l := ⟨_, rfl⟩
  have HL := Lib.hid hl
  rw [hl] at hs ⊢
  have HS1 := Lib.hid hs
  have BA1 := Lib.hid (BA.out.keep hb BA.out.lt)
  have BB1 := Lib.hid (BB.out.keep hb BB.out.lt)
  have BW1 := Lib.hid (bchain BW.out hb)
  clear hb hr hs hl BA BB BW a0 a1 a2 a3 b0 b1 b2 b3 C1
  have a0 := BA1.out.cell (j := 0) rfl
  have a1 := BA1.out.cell (j := 1) rfl
  have a2 := BA1.out.cell (j := 2) rfl
  have a3 := BA1.out.cell (j := 3) rfl
  have b0 := BB1.out.cell (j := 0) rfl
  have b1 := BB1.out.cell (j := 1) rfl
  have b2 := BB1.out.cell (j := 2) rfl
  have b3 := BB1.out.cell (j := 3) rfl
  go_wp2_with fail
  refine (C2.out _).mono ?_
  rintro e w5 hr
  obtain ⟨hb, hc⟩ := chg_parts hr
  rcases hc with ⟨hB, _⟩ | ⟨_, A2, c2, rfl, hs⟩
  · rw [BR.out _ _ HY.out.1 HX.out.1] at hB; cases hB
  rw [chg_sym, HL.out] at hs ⊢
  have HS2 := Lib.hid (HS1.out.keep hb)
  have HT2 := Lib.hid hs
  have BA2 := Lib.hid (BA1.out.keep hb BA1.out.lt)
  have BB2 := Lib.hid (BB1.out.keep hb BB1.out.lt)
  have BW2 := Lib.hid (bchain BW1.out hb)
  clear hb hr hs BA1 BB1 BW1 HS1 a0 a1 a2 a3 b0 b1 b2 b3 C2
  have a0 := BA2.out.cell (j := 0) rfl
  have a1 := BA2.out.cell (j := 1) rfl
  have a2 := BA2.out.cell (j := 2) rfl
  have a3 := BA2.out.cell (j := 3) rfl
  go_wp2_with fail
  refine (C3.out _).mono ?_
  rintro e w6 hr
  obtain ⟨hb, hc⟩ := chg_parts hr
  rcases hc with ⟨hB, _⟩ | ⟨_, A3, c3, rfl, _⟩
  · rw [BR.out _ _ HX.out.1 HX.out.1] at hB; cases hB
  rw [chg_self]
  have HS3 := Lib.hid (HS2.out.keep hb)
  have HT3 := Lib.hid (HT2.out.keep hb)
  have BA3 := Lib.hid (BA2.out.keep hb BA2.out.lt)
  have BB3 := Lib.hid (BB2.out.keep hb BB2.out.lt)
  have BW3 := Lib.hid (bchain BW2.out hb)
  clear hb hr BA2 BB2 BW2 HS2 HT2 a0 a1 a2 a3 C3 BR
  obtain ⟨M, hM⟩ : ∃ M, l.length = M := ⟨_, rfl⟩
  have HM := Lib.hid hM
  have hM52 : M ≤ 52 := by have := chg_len (ofF x) (ofF y) 52; rw [HL.out] at this; omega
  obtain ⟨bq, hbq⟩ : ∃ bq, decide (x = y) = bq := ⟨_, rfl⟩
  have tM : ((M : Int) == 0) = bq := by
    rw [← hbq, Bool.eq_iff_iff, beq_iff_eq, decide_eq_true_eq]
    have h1 := chg_none HX.out.1 HY.out.1
    rw [HL.out] at h1
    constructor
    · intro h
      have h2 := h1.1 (List.length_eq_zero_iff.1 (by omega))
      exact four_ext ⟨h2 0 (by omega), h2 1 (by omega), h2 2 (by omega), h2 3 (by omega)⟩
    · intro h
      have h2 := h1.2 (fun s _ => by rw [h])
      rw [h2] at hM
      simp at hM
      omega
  have EQ := fun W => eqF 35 Tryd.underlying35 x y W
  rw [hbq] at EQ
  rw [hM]
  clear hM hbq
  have a0 := BA3.out.cell (j := 0) rfl
  have a1 := BA3.out.cell (j := 1) rfl
  have a2 := BA3.out.cell (j := 2) rfl
  have a3 := BA3.out.cell (j := 3) rfl
  have b0 := BB3.out.cell (j := 0) rfl
  have b1 := BB3.out.cell (j := 1) rfl
  have b2 := BB3.out.cell (j := 2) rfl
  have b3 := BB3.out.cell (j := 3) rfl
  go_upto_region 8 with fail
  have HC := Lib.hid (cw_new (x := x) (y := y) (l := l) w6)
  have BQ := Lib.hid (And.intro (Nat.le_refl w6.heap.size) BW3.out.size)
  have BA4 := Lib.hid ((BA3.out.alloc (.cells #[.int .i64 0, .int .i64 0, .int .i64 0, .int .i64 0] 40)).alloc (.cells #[.int .i64 0, .int .i64 0, .int .i64 0, .int .i64 0] 40))
  have hs7 : ((w6.alloc (.cells #[.int .i64 0, .int .i64 0, .int .i64 0, .int .i64 0] 40)).alloc (.cells #[.int .i64 0, .int .i64 0, .int .i64 0, .int .i64 0] 40)).heap.size = w6.heap.size + 2 := by simp
  clear a0 a1 a2 a3 b0 b1 b2 b3 tM EQ
  obtain ⟨q, hq⟩ : ∃ q, w6.heap.size = q := ⟨_, rfl⟩
  have HQ := Lib.hid hq
  rw [hq] at HC hs7 ⊢
  clear hq
  have H7 := Lib.hid hs7
  clear hs7
  generalize (w6.alloc (.cells #[.int .i64 0, .int .i64 0, .int .i64 0, .int .i64 0] 40)).alloc (.cells #[.int .i64 0, .int .i64 0, .int .i64 0, .int .i64 0] 40) = W7 at *
  have a0 := BA4.out.cell (j := 0) rfl
  have a1 := BA4.out.cell (j := 1) rfl
  have a2 := BA4.out.cell (j := 2) rfl
  have a3 := BA4.out.cell (j := 3) rfl
  go_upto_region 9 with fail
  rw [H7.out]
  clear a0 a1 a2 a3 BA4 H7
  generalize W7.alloc (.cells #[.int .u64 (ofF x 0 : Nat), .int .u64 (ofF x 1 : Nat), .int .u64 (ofF x 2 : Nat), .int .u64 (ofF x 3 : Nat)] 35) = W8 at *
  go_wp2_with fail
  go_loopw [74] (fun s74 wr => ∃ i : Nat, i ≤ M ∧ s74 = .int .i64 (i : Int) ∧ Hid (CW w6 q x y l i wr)) (fun s74 _ => M - (intOf s74).toNat)
  case atStart => exact ⟨0, by omega, rfl, HC⟩
  case round =>
    clear HC
    obtain ⟨i, hi, rfl, HC⟩ := hrel
    have HK : Hid (Below w6.heap.size w6 wr) := Lib.hid (by rw [HQ.out]; exact HC.out.below)
    by_cases hlt : i < M
    · have u1 : decide ((i : Int) < (M : Int)) = true := decide_eq_true (by omega)
      have u2 : decide (i < M) = true := decide_eq_true hlt
      obtain ⟨cc, hcc⟩ : ∃ cc, l[i]? = some cc := ⟨_, List.getElem?_eq_getElem (by rw [HM.out]; exact hlt)⟩
      have hmem : cc ∈ l := List.mem_of_getElem? hcc
      obtain ⟨hc52, hne⟩ := chg_mem.1 (by rw [HL.out]; exact hmem)
      have hsnoc : l.take (i + 1) = l.take i ++ [cc] := by
        obtain ⟨h1, h2⟩ := List.getElem?_eq_some_iff.1 hcc
        rw [List.take_succ_eq_append_getElem h1, h2]
      obtain ⟨g, rfl, hg, k0, k1, k2⟩ := HS3.out.keep HK.out i cc hcc
      obtain ⟨g2, rfl, hg2, m0, m1, m2⟩ := HT3.out.keep HK.out i cc hcc
      have HNX := Lib.hid (cw_next (w6 := w6) (q := q) (x := x) (y := y) (l := l) (i := i) (cc := cc) hsnoc hne)
      have hlt4 := And.intro (owner_lt (ofF x) cc) (owner_lt (ofF y) cc)
      have hz52 : ∀ s, s < 4 → zTo (ofF x) (ofF y) (l.take i) s < 4503599627370496 := zTo_lt HX.out.1 _ (fun c hc => by
        have : c ∈ l := List.mem_of_mem_take hc
        rw [← HL.out] at this
        exact (chg_mem.1 this).1)
      have hzf := hz52 (owner (ofF x) cc) hlt4.1
      have hzt := hz52 (owner (ofF y) cc) hlt4.2
      have ha := own_le (ofF x) (l.take i) (owner (ofF x) cc)
      have hb := own_le (ofF y) (l.take i) (owner (ofF y) cc)
      rw [List.length_take] at ha hb
      have r0 := iC_get (ofF x) (l.take i) (owner (ofF x) cc) hlt4.1
      have r1 := iC_get (ofF y) (l.take i) (owner (ofF y) cc) hlt4.2
      have r2 := dC_get (zTo (ofF x) (ofF y) (l.take i)) (owner (ofF x) cc) hlt4.1
      have r3 := dC_get (zTo (ofF x) (ofF y) (l.take i)) (owner (ofF y) cc) hlt4.2
      have HPV : Hid (∀ m, i = m + 1 → ∃ pc, l[m]? = some pc ∧ pc < cc) := Lib.hid (fun m hm => by
        obtain ⟨pc, hpc⟩ : ∃ pc, l[m]? = some pc := ⟨_, List.getElem?_eq_getElem (by rw [HM.out]; omega)⟩
        have hp := chg_up (ofF x) (ofF y) 52
        rw [HL.out] at hp
        obtain ⟨h1, h2⟩ := List.getElem?_eq_some_iff.1 hpc
        obtain ⟨h3, h4⟩ := List.getElem?_eq_some_iff.1 hcc
        have := List.pairwise_iff_getElem.1 hp m i h1 h3 (by omega)
        exact ⟨pc, hpc, by rw [h2, h4] at this; exact this⟩)
      obtain ⟨f, hf⟩ : ∃ f, owner (ofF x) cc = f := ⟨_, rfl⟩
      obtain ⟨t, ht⟩ : ∃ t, owner (ofF y) cc = t := ⟨_, rfl⟩
      rw [hf, ht] at HNX hlt4 hne
      rw [hf] at k1 m2 hzf ha r0 r2
      rw [ht] at k2 m1 hzt hb r1 r3
      clear hf ht hz52 hcc hmem hsnoc
      obtain ⟨na, hna⟩ : ∃ na, own (ofF x) (l.take i) f = na := ⟨_, rfl⟩
      obtain ⟨nb, hnb⟩ : ∃ nb, own (ofF y) (l.take i) t = nb := ⟨_, rfl⟩
      obtain ⟨zf, hzf'⟩ : ∃ zf, zTo (ofF x) (ofF y) (l.take i) f = zf := ⟨_, rfl⟩
      obtain ⟨zt, hzt'⟩ : ∃ zt, zTo (ofF x) (ofF y) (l.take i) t = zt := ⟨_, rfl⟩
      rw [hna] at HNX r0 ha
      rw [hnb] at HNX r1 hb
      rw [hzf'] at HNX r2 hzf
      rw [hzt'] at HNX r3 hzt
      clear hna hnb hzf' hzt'
      have HG := Lib.hid (And.intro r0 (And.intro r1 (And.intro r2 r3)))
      clear r0 r1 r2 r3
      go_upto_region 12 with fail
      have hb1 := below1 wr (.cells #[.int .u8 (cc : Nat), .int .u8 (f : Nat), .int .u8 (t : Nat)] 49)
      have HDB := Lib.hid (Blk.new wr 49 #[.int .u8 (cc : Nat), .int .u8 (f : Nat), .int .u8 (t : Nat)])
      have HCO := Lib.hid (HC.out.come.keep hb1 HC.out.come.lt)
      have HLE := Lib.hid (HC.out.leave.keep hb1 HC.out.leave.lt)
      have HZB := Lib.hid (HC.out.z.keep hb1 HC.out.z.lt)
      have hszr : q + 2 < wr.heap.size := HC.out.z.lt
      have HBL := Lib.hid (HC.out.below.trans (hb1.mono (by omega)))
      have HKA := Lib.hid (HK.out.trans (hb1.mono HK.out.size))
      have n0 := cell_keep m0 hb1
      have n1 := cell_keep m1 hb1
      have n2 := cell_keep m2 hb1
      clear k0 k1 k2 m0 m1 m2 hb1 HC HK
      generalize wr.alloc (.cells #[.int .u8 (cc : Nat), .int .u8 (f : Nat), .int .u8 (t : Nat)] 49) = wa at *
      generalize wr.heap.size = db at *
      have d0 := HDB.out.cell (j := 0) (v := .int .u8 (cc : Nat)) rfl
      have d1 := HDB.out.cell (j := 1) (v := .int .u8 (f : Nat)) rfl
      have d2 := HDB.out.cell (j := 2) (v := .int .u8 (t : Nat)) rfl
      have e1 : (((f : Nat) : Int) == ((t : Nat) : Int)) = false := beq_eq_false_iff_ne.2 (by omega)
      have e1b : (f == t) = false := beq_eq_false_iff_ne.2 (by omega)
      have e2b : decide (3 < f) = false := decide_eq_false (by omega)
      have e3b : decide (3 < t) = false := decide_eq_false (by omega)
      have e2 : decide (3 < ((f : Nat) : Int)) = false := decide_eq_false (by omega)
      have e3 : decide (3 < ((t : Nat) : Int)) = false := decide_eq_false (by omega)
      have HF := Lib.hid (And.intro hlt4 (And.intro hne (And.intro hzf (And.intro hzt (And.intro ha (And.intro hb (And.intro hc52 (And.intro hszr (And.intro hM52 hlt)))))))))
      have hiM : (i : Int) < (M : Int) := by omega
      have hi0M : i < M ∧ i < 1000000 := ⟨hlt, by omega⟩
      have HI := Lib.hid hi0M
      clear hlt4 hne hzf hzt ha hb hc52 hszr u2 hlt hi hM52 hg hg2 hi0M
      rcases (show i = 0 ∨ ∃ m, i = m + 1 by rcases i with _ | m; exact .inl rfl; exact .inr ⟨m, rfl⟩) with hi0 | ⟨m, hm⟩
      have e4 : decide (0 < (i : Int)) = false := decide_eq_false (by omega)
      have e4b : decide (0 < i) = false := decide_eq_false (by omega)
      clear hi0
      go_quiet (fail)
      clear e4 e4b
      rotate_left
      obtain ⟨pc, hpc, hpl⟩ := HPV.out m hm
      obtain ⟨g', eg, hg', k0, _, _⟩ := HS3.out.keep HKA.out m pc hpc
      have eg2 := Option.some.inj eg
      cases eg2
      have e4 : decide (0 < (i : Int)) = true := decide_eq_true (by omega)
      have e4b : decide (0 < i) = true := decide_eq_true (by omega)
      have e6b : decide (cc ≤ pc) = false := decide_eq_false (by omega)
      have e5 : IntKind.i64.wrap ((i : Int) - 1) = (m : Int) := by rw [show ((m : Int)) = (i : Int) - 1 by omega]; exact IntWalk.i64_in _ (by have := HI.out; omega)
      have e6 : decide ((cc : Int) ≤ (pc : Int)) = false := decide_eq_false (by omega)
      have e7 : (m : Int) < (M : Int) := by have := HI.out; omega
      have e8 : decide ((m : Int) < (M : Int)) = true := decide_eq_true e7
      clear hm eg hg' hpc
      go_quiet (fail)
      clear e4 e4b e5 e6 e6b e7 e8 hpl k0
      all_goals
        obtain ⟨⟨f4, t4⟩, hne, hzf, hzt, ha, hb, hc52, hszr, hM52, hlt⟩ := HF.out
        have HDB1 := Lib.hid (HDB.out.drewN nq)
        have HCO1 := Lib.hid (HCO.out.drewN nq)
        have HLE1 := Lib.hid (HLE.out.drewN nq)
        have HZB1 := Lib.hid (HZB.out.drewN nq)
        have HBL1 := Lib.hid (below_drewN HBL.out nq)
        clear n0 n1 n2 d0 d1 d2 HDB HCO HLE HZB HBL HKA e1 e1b e2 e2b e3 e3b HF
        generalize wa.drewN nq = wn at *
        have d0 := HDB1.out.cell (j := 0) (v := .int .u8 (cc : Nat)) rfl
        have d1 := HDB1.out.cell (j := 1) (v := .int .u8 (f : Nat)) rfl
        have d2 := HDB1.out.cell (j := 2) (v := .int .u8 (t : Nat)) rfl
        have r0 := HLE1.out.cell HG.out.1
        have r1 := HCO1.out.cell HG.out.2.1
        have g0 := HLE1.out.free f
        have g1 := HCO1.out.free t
        have x1 : IntKind.i64.wrap ((na : Int) + 1) = ((na + 1 : Nat) : Int) := by rw [show (((na + 1 : Nat) : Int)) = (na : Int) + 1 by omega]; exact IntWalk.i64_in _ (by omega)
        have x2 : IntKind.i64.wrap ((nb : Int) + 1) = ((nb + 1 : Nat) : Int) := by rw [show (((nb + 1 : Nat) : Int)) = (nb : Int) + 1 by omega]; exact IntWalk.i64_in _ (by omega)
        have f4i : (f : Int) < 4 := by omega
        have t4i : (t : Int) < 4 := by omega
        have h01 : db ≠ q + 1 := by omega
        have h02 : db ≠ q := by omega
        have h03 : db ≠ q + 2 := by omega
        have HF := Lib.hid (And.intro (And.intro f4 t4) (And.intro hne (And.intro hzf (And.intro hzt (And.intro hc52 (And.intro hszr (And.intro hM52 hlt)))))))
        clear f4 t4 hne hzf hzt ha hb hc52 hszr hM52 hlt
        go_upto_region 16 with fail
        have HLE2 := Lib.hid ((HLE1.out.set f (.int .i64 ((na : Int) + 1))).other (b' := q) (by omega) t (.int .i64 ((nb : Int) + 1)))
        have HCO2 := Lib.hid ((HCO1.out.other (b' := q + 1) (by omega) f (.int .i64 ((na : Int) + 1))).set t (.int .i64 ((nb : Int) + 1)))
        have HZB2 := Lib.hid ((HZB1.out.other (b' := q + 1) (by omega) f (.int .i64 ((na : Int) + 1))).other (b' := q) (by omega) t (.int .i64 ((nb : Int) + 1)))
        have HDB2 := Lib.hid ((HDB1.out.other h01 f (.int .i64 ((na : Int) + 1))).other h02 t (.int .i64 ((nb : Int) + 1)))
        have HBL2 := Lib.hid ((HBL1.out.setCell (p := ⟨q + 1, f, none⟩) (by show q ≤ q + 1; omega) (.int .i64 ((na : Int) + 1))).setCell (p := ⟨q, t, none⟩) (Nat.le_refl _) (.int .i64 ((nb : Int) + 1)))
        clear d0 d1 d2 r0 r1 g0 g1 x1 x2 HLE1 HCO1 HZB1 HDB1 HBL1
        generalize (wn.setCell ⟨q + 1, f, none⟩ (.int .i64 ((na : Int) + 1))).setCell ⟨q, t, none⟩ (.int .i64 ((nb : Int) + 1)) = wm at *
        have d0 := HDB2.out.cell (j := 0) (v := .int .u8 (cc : Nat)) rfl
        have d1 := HDB2.out.cell (j := 1) (v := .int .u8 (f : Nat)) rfl
        have d2 := HDB2.out.cell (j := 2) (v := .int .u8 (t : Nat)) rfl
        have r2 := HZB2.out.cell HG.out.2.2.1
        have g2' := HZB2.out.free f
        have p64 := two64 cc HF.out.2.2.2.2.1
        have pmin : min cc 64 = cc := by have := HF.out.2.2.2.2.1; omega
        have o1 : bits BinOp.andNot IntKind.u64 (zf : Int) ((2 : Int) ^ cc) = ((clr zf cc : Nat) : Int) := by
          have h1 := HF.out.2.2.1
          have h2 : 2 ^ cc < 2 ^ 52 := Nat.pow_lt_pow_right (by omega) HF.out.2.2.2.2.1
          rw [show (2 : Int) ^ cc = ((2 ^ cc : Nat) : Int) by simp, u64_andNot_nat _ _ (by omega) (by omega)]
          rfl
        go_region
        have HZB3 := Lib.hid ((HZB2.out.set f (.int .u64 (clr zf cc : Nat))).drewN 1)
        have HLE3 := Lib.hid ((HLE2.out.other (b' := q + 2) (by omega) f (.int .u64 (clr zf cc : Nat))).drewN 1)
        have HCO3 := Lib.hid ((HCO2.out.other (b' := q + 2) (by omega) f (.int .u64 (clr zf cc : Nat))).drewN 1)
        have HDB3 := Lib.hid ((HDB2.out.other h03 f (.int .u64 (clr zf cc : Nat))).drewN 1)
        have HBL3 := Lib.hid (below_drewN (HBL2.out.setCell (p := ⟨q + 2, f, none⟩) (by show q ≤ q + 2; omega) (.int .u64 (clr zf cc : Nat))) 1)
        clear d0 d1 d2 r2 g2' o1 HZB2 HLE2 HCO2 HDB2 HBL2
        rw [drew_one] at HZB3 HLE3 HCO3 HDB3 HBL3
        generalize (wm.setCell ⟨q + 2, f, none⟩ (.int .u64 (clr zf cc : Nat))).drew = wp at *
        have d0 := HDB3.out.cell (j := 0) (v := .int .u8 (cc : Nat)) rfl
        have d2 := HDB3.out.cell (j := 2) (v := .int .u8 (t : Nat)) rfl
        have r3 : wp.cell? ⟨q + 2, t, none⟩ = some (.int .u64 (zt : Nat)) := HZB3.out.cell (by rw [Array.getElem?_setIfInBounds_ne HF.out.2.1]; exact HG.out.2.2.2)
        have g3 := HZB3.out.free t
        have o2 := or_card zt cc (by have := HF.out.2.2.2.1; omega) HF.out.2.2.2.2.1
        go_upto_region 17 with fail
        go_region
        have N1 : Hid (CW w6 q x y l (i + 1) ((wp.setCell ⟨q + 2, t, none⟩ (.int .u64 (zt ||| 2 ^ cc : Nat))).drewN 1)) := Lib.hid (HNX.out _ (below_drewN (HBL3.out.setCell (p := ⟨q + 2, t, none⟩) (by show q ≤ q + 2; omega) _) 1) ((HCO3.out.other (b' := q + 2) (by omega) t _).drewN 1) ((HLE3.out.other (b' := q + 2) (by omega) t _).drewN 1) ((HZB3.out.set t _).drewN 1))
        clear d0 d2 r3 g3 o2 HZB3 HLE3 HCO3 HDB3 HBL3
        rw [drew_one] at N1
        generalize (wp.setCell ⟨q + 2, t, none⟩ (.int .u64 (zt ||| 2 ^ cc : Nat))).drew = wq at *
        have y1 := inc64 i (by have := HI.out; omega)
        go_wp2_with fail
        go_roundw
        case rel => exact ⟨i + 1, by have := HI.out; omega, by simp, N1⟩
        case measure => have := HI.out; simp [intOf]; omega
    · obtain rfl : i = M := by omega
      have u1 : decide ((i : Int) < (i : Int)) = false := decide_eq_false (by omega)
      have u2 : decide (i < i) = false := decide_eq_false (by omega)
      have htl : l.take i = l := by rw [← HM.out]; exact List.take_length
      have HCx := HC.out
      have hco := HCx.come
      have hle := HCx.leave
      have hzz := HCx.z
      rw [htl, ← HL.out] at hco hle hzz
      have e0 : iC (ofF y) (chg (ofF x) (ofF y) 52) = iC (ofF x) (chg (ofF x) (ofF y) 52) := by
        unfold iC
        rw [own_even HX.out.1 HY.out.1 0 (by omega), own_even HX.out.1 HY.out.1 1 (by omega), own_even HX.out.1 HY.out.1 2 (by omega), own_even HX.out.1 HY.out.1 3 (by omega)]
      have e1 : dC (zTo (ofF x) (ofF y) (chg (ofF x) (ofF y) 52)) = dC (ofF y) := by
        unfold dC
        rw [zTo_all HX.out.1 HY.out.1 0 (by omega), zTo_all HX.out.1 HY.out.1 1 (by omega), zTo_all HX.out.1 HY.out.1 2 (by omega), zTo_all HX.out.1 HY.out.1 3 (by omega)]
      rw [e0] at hco
      rw [e1] at hzz
      have hyy : Blk wr (p5 + 1) 35 (dC (ofF y)) := BB3.out.keep (B := q) HCx.below (by rw [← HQ.out]; exact BB3.out.lt)
      obtain ⟨k0, hk0⟩ : ∃ k0, own (ofF x) (chg (ofF x) (ofF y) 52) 0 = k0 := ⟨_, rfl⟩
      obtain ⟨k1, hk1⟩ : ∃ k1, own (ofF x) (chg (ofF x) (ofF y) 52) 1 = k1 := ⟨_, rfl⟩
      obtain ⟨k2, hk2⟩ : ∃ k2, own (ofF x) (chg (ofF x) (ofF y) 52) 2 = k2 := ⟨_, rfl⟩
      obtain ⟨k3, hk3⟩ : ∃ k3, own (ofF x) (chg (ofF x) (ofF y) 52) 3 = k3 := ⟨_, rfl⟩
      unfold iC at hco hle
      rw [hk0, hk1, hk2, hk3] at hco hle
      have m0 := hco.cell (j := 0) (v := .int .i64 (k0 : Nat)) rfl
      have m1 := hco.cell (j := 1) (v := .int .i64 (k1 : Nat)) rfl
      have m2 := hco.cell (j := 2) (v := .int .i64 (k2 : Nat)) rfl
      have m3 := hco.cell (j := 3) (v := .int .i64 (k3 : Nat)) rfl
      have n0 := hle.cell (j := 0) (v := .int .i64 (k0 : Nat)) rfl
      have n1 := hle.cell (j := 1) (v := .int .i64 (k1 : Nat)) rfl
      have n2 := hle.cell (j := 2) (v := .int .i64 (k2 : Nat)) rfl
      have n3 := hle.cell (j := 3) (v := .int .i64 (k3 : Nat)) rfl
      have z0 := hzz.cell (j := 0) (v := .int .u64 (ofF y 0 : Nat)) rfl
      have z1 := hzz.cell (j := 1) (v := .int .u64 (ofF y 1 : Nat)) rfl
      have z2 := hzz.cell (j := 2) (v := .int .u64 (ofF y 2 : Nat)) rfl
      have z3 := hzz.cell (j := 3) (v := .int .u64 (ofF y 3 : Nat)) rfl
      have b0 := hyy.cell (j := 0) (v := .int .u64 (ofF y 0 : Nat)) rfl
      have b1 := hyy.cell (j := 1) (v := .int .u64 (ofF y 1 : Nat)) rfl
      have b2 := hyy.cell (j := 2) (v := .int .u64 (ofF y 2 : Nat)) rfl
      have b3 := hyy.cell (j := 3) (v := .int .u64 (ofF y 3 : Nat)) rfl
      have EI := fun W => eqI k0 k1 k2 k3 W
      have EQ := fun W => eqF 35 Tryd.underlying35 y y W
      rw [decide_eq_true rfl] at EQ
      have HBF : Hid (Below w.heap.size w wr) := Lib.hid (bchain BW3.out (by rw [HQ.out]; exact HCx.below))
      clear hco hle hzz hyy e0 e1 htl HCx HC HK hk0 hk1 hk2 hk3 hi hlt hM52
      go_wp2_with fail
      refine (awake_any _ (HE.out.keep HBF.out)).mono ?_
      rintro e w9 ⟨rfl, hb⟩
      have HBG := Lib.hid (bchain HBF.out hb)
      clear hb HBF m0 m1 m2 m3 n0 n1 n2 n3 z0 z1 z2 z3 b0 b1 b2 b3 EI EQ
      go_wp2_with fail
      go_ret
      exact ⟨rfl, HBG.out⟩
theorem changes_open (v0 v1 : Value) (w : World) (he : Env w) (h0 : ∃ l : List Nat, BV w v0 l ∧ ∀ x ∈ l, x < 256) (h1 : ∃ l : List Nat, BV w v1 l ∧ ∀ x ∈ l, x < 256) : Calls Tryd.prog 6 #[v0, v1] w (fun e w' => e = .returned (.bool true) ∧ Below w.heap.size w w') := by
  obtain ⟨l0, a0, b0⟩ := h0
  obtain ⟨l1, a1, b1⟩ := h1
  exact changes_walk v0 v1 l0 l1 w he a0 b0 a1 b1
end Go.Proofs.YtaadipccgckehaaDoor
namespace Go.Proofs.YtaadipccgckehaaDoor
open Go
namespace Pl
theorem low_and : ∀ (n x : Nat), 0 < x → x < 2 ^ n → ∃ k, k < n ∧ x.testBit k = true ∧ x &&& (2 ^ n - x) = 2 ^ k
  | 0, x, h0, h => by simp at h; omega
  | n + 1, x, h0, h => by
    have hp : 2 ^ (n + 1) = 2 * 2 ^ n := by rw [Nat.pow_succ, Nat.mul_comm]
    rcases Nat.mod_two_eq_zero_or_one x with hx | hx
    · obtain ⟨y, rfl⟩ : ∃ y, x = 2 * y := ⟨x / 2, by omega⟩
      obtain ⟨k, h1, h2, h3⟩ := low_and n y (by omega) (by omega)
      refine ⟨k + 1, by omega, ?_, ?_⟩
      · rw [Nat.testBit_succ, Nat.mul_div_cancel_left _ (by omega)]
        exact h2
      · have f := and_lane 1 0 y 0 (2 ^ n - y) (by omega) (by omega)
        rw [Nat.zero_add, Nat.zero_add, Nat.zero_and, Nat.zero_add, h3, Nat.pow_one] at f
        rw [hp, show 2 * 2 ^ n - 2 * y = 2 * (2 ^ n - y) by omega, f, Nat.pow_succ, Nat.mul_comm]
    · obtain ⟨m, rfl⟩ : ∃ m, x = 1 + 2 * m := ⟨x / 2, by omega⟩
      refine ⟨0, by omega, by simp [Nat.testBit_zero], ?_⟩
      have f := and_lane 1 1 m 1 (2 ^ n - (m + 1)) (by omega) (by omega)
      have hz : m &&& (2 ^ n - (m + 1)) = 0 := by
        apply Nat.eq_of_testBit_eq
        intro b
        rw [Nat.testBit_and, Nat.testBit_two_pow_sub_succ (by omega), Nat.zero_testBit]
        cases m.testBit b <;> simp
      rw [hz, Nat.pow_one] at f
      rw [hp, show 2 * 2 ^ n - (1 + 2 * m) = 1 + 2 * (2 ^ n - (m + 1)) by omega, f]
      rfl
theorem right_make {D : Nat → Nat} (h1 : ∀ s, s < 4 → D s < 4503599627370496) (h2 : ∀ s, s < 4 → pc 52 (D s) = 13) (h3 : ∀ c, c < 52 → ∃ o, ∀ s, s < 4 → (D s).testBit c = true → s = o) : rightB D = true := by
  have hp : partB D = true := by
    rw [part_ref]
    refine ⟨fun k hk => ⟨h1 k hk, by rw [h2 k hk]; omega⟩, fun c hc => ?_⟩
    obtain ⟨o, ho⟩ := h3 c hc
    have g0 := ho 0 (by omega)
    have g1 := ho 1 (by omega)
    have g2 := ho 2 (by omega)
    have g3 := ho 3 (by omega)
    show holdTo D c 4 ≤ 1
    simp only [holdTo, b1]
    rcases e0 : (D 0).testBit c with _ | _ <;> rcases e1 : (D 1).testBit c with _ | _ <;> rcases e2 : (D 2).testBit c with _ | _ <;> rcases e3 : (D 3).testBit c with _ | _ <;> simp [e0, e1, e2, e3] at g0 g1 g2 g3 ⊢ <;> omega
  rw [right_ref, hp, h2 0 (by omega), h2 1 (by omega), h2 2 (by omega), h2 3 (by omega)]
  rfl
theorem right_pc {D : Nat → Nat} (h : rightB D = true) (s : Nat) (hs : s < 4) : pc 52 (D s) = 13 := by
  have h3 := right_ref D
  rw [h] at h3
  simp only [Bool.true_eq, Bool.and_eq_true, decide_eq_true_eq] at h3
  rcases (by omega : s = 0 ∨ s = 1 ∨ s = 2 ∨ s = 3) with rfl | rfl | rfl | rfl
  · exact h3.1.1.1.2
  · exact h3.1.1.2
  · exact h3.1.2
  · exact h3.2
theorem right_lt52 {D : Nat → Nat} (h : rightB D = true) (s : Nat) (hs : s < 4) : D s < 4503599627370496 := by
  have := (part_of_right h s hs).1
  omega
theorem right_pos {D : Nat → Nat} (h : rightB D = true) (s : Nat) (hs : s < 4) : 0 < D s := by
  have h1 := right_pc h s hs
  rcases Nat.eq_zero_or_pos (D s) with h0 | h0
  · rw [h0, pc_zero] at h1; omega
  · exact h0
theorem xor_bit (x c b : Nat) : (x ^^^ 2 ^ c).testBit b = (x.testBit b ^^ decide (c = b)) := by rw [Nat.testBit_xor, Nat.testBit_two_pow]
theorem pc_one (i : Nat) (hi : i < 52) : pc 52 (2 ^ i) = 1 := by
  have := pc_put i 52 0 hi (by simp)
  rw [Nat.zero_add, pc_zero] at this
  exact this
theorem pc_swap {x i j : Nat} (hx : x < 4503599627370496) (hi : i < 52) (hj : j < 52) (h1 : x.testBit i = true) (h2 : x.testBit j = false) : pc 52 ((x ^^^ 2 ^ i) ^^^ 2 ^ j) = pc 52 x := by
  have hij : i ≠ j := fun e => by rw [e, h2] at h1; cases h1
  have hb : ∀ b, (clr x i).testBit b = (x.testBit b && decide (b ≠ i)) := fun b => clr_bit (by omega) hi
  have e1 : x = clr x i ||| 2 ^ i := by
    apply Nat.eq_of_testBit_eq
    intro b
    rw [Nat.testBit_or, hb, Nat.testBit_two_pow]
    by_cases h : i = b
    · subst h; simp [h1]
    · simp [h, Ne.symm h]
  have e2 : (x ^^^ 2 ^ i) ^^^ 2 ^ j = clr x i ||| 2 ^ j := by
    apply Nat.eq_of_testBit_eq
    intro b
    rw [xor_bit, xor_bit, Nat.testBit_or, hb, Nat.testBit_two_pow]
    by_cases h : i = b
    · subst h; simp [h1, Ne.symm hij]
    · by_cases h' : j = b
      · subst h'; simp [h2, h]
      · simp [h, h', Ne.symm h]
  have z1 : clr x i &&& 2 ^ i = 0 := by
    apply Nat.eq_of_testBit_eq
    intro b
    rw [Nat.testBit_and, hb, Nat.testBit_two_pow, Nat.zero_testBit]
    by_cases h : i = b
    · subst h; simp
    · simp [h]
  have z2 : clr x i &&& 2 ^ j = 0 := by
    apply Nat.eq_of_testBit_eq
    intro b
    rw [Nat.testBit_and, hb, Nat.testBit_two_pow, Nat.zero_testBit]
    by_cases h : j = b
    · subst h; simp [h2]
    · simp [h]
  rw [e2, pc_or _ _ _ z2, pc_one j hj]
  conv => rhs; rw [e1]
  rw [pc_or _ _ _ z1, pc_one i hi]
/-- Two cards of the first two hands exchanged. -/
def swp (D : Nat → Nat) (i j : Nat) (s : Nat) : Nat := if s = 0 then (D 0 ^^^ 2 ^ i) ^^^ 2 ^ j else if s = 1 then (D 1 ^^^ 2 ^ i) ^^^ 2 ^ j else D s
theorem xor_lt {x c : Nat} (hx : x < 4503599627370496) (hc : c < 52) : x ^^^ 2 ^ c < 4503599627370496 := Nat.xor_lt_two_pow (n := 52) hx (Nat.pow_lt_pow_right (by omega) hc)
theorem bit_lt {x i : Nat} (hx : x < 4503599627370496) (h : x.testBit i = true) : i < 52 := by
  rcases Nat.lt_or_ge i 52 with h1 | h1
  · exact h1
  · rw [bit_high hx h1] at h; cases h
theorem swp_right {D : Nat → Nat} (h : rightB D = true) {i j : Nat} (h1 : (D 0).testBit i = true) (h2 : (D 1).testBit j = true) : rightB (swp D i j) = true := by
  have hi := bit_lt (right_lt52 h 0 (by omega)) h1
  have hj := bit_lt (right_lt52 h 1 (by omega)) h2
  have o1 := owner_of h (by omega) h1
  have o2 := owner_of h (by omega) h2
  have b10 : (D 1).testBit i = false := by rw [owner_bit h hi (by omega), o1]; rfl
  have b01 : (D 0).testBit j = false := by rw [owner_bit h hj (by omega), o2]; rfl
  have hij : i ≠ j := fun e => by rw [e, b01] at h1; cases h1
  refine right_make (fun s hs => ?_) (fun s hs => ?_) (fun c hc => ?_)
  · unfold swp
    split
    · exact xor_lt (xor_lt (right_lt52 h 0 (by omega)) hi) hj
    · split
      · exact xor_lt (xor_lt (right_lt52 h 1 (by omega)) hi) hj
      · exact right_lt52 h s hs
  · unfold swp
    split
    · rw [pc_swap (right_lt52 h 0 (by omega)) hi hj h1 b01]; exact right_pc h 0 (by omega)
    · split
      · rw [Nat.xor_assoc, Nat.xor_comm (2 ^ i), ← Nat.xor_assoc, pc_swap (right_lt52 h 1 (by omega)) hj hi h2 b10]; exact right_pc h 1 (by omega)
      · exact right_pc h s hs
  · by_cases hci : i = c
    · subst hci
      refine ⟨1, fun s hs hb => ?_⟩
      unfold swp at hb
      rcases (by omega : s = 0 ∨ s = 1 ∨ s = 2 ∨ s = 3) with rfl | rfl | rfl | rfl
      · rw [if_pos rfl, xor_bit, xor_bit, h1] at hb
        simp [Ne.symm hij] at hb
      · rfl
      · rw [if_neg (by omega), if_neg (by omega), owner_bit h hi (by omega), o1] at hb
        simp at hb
      · rw [if_neg (by omega), if_neg (by omega), owner_bit h hi (by omega), o1] at hb
        simp at hb
    · by_cases hcj : j = c
      · subst hcj
        refine ⟨0, fun s hs hb => ?_⟩
        unfold swp at hb
        rcases (by omega : s = 0 ∨ s = 1 ∨ s = 2 ∨ s = 3) with rfl | rfl | rfl | rfl
        · rfl
        · rw [if_neg (by omega), if_pos rfl, xor_bit, xor_bit, h2] at hb
          simp [hij] at hb
        · rw [if_neg (by omega), if_neg (by omega), owner_bit h hj (by omega), o2] at hb
          simp at hb
        · rw [if_neg (by omega), if_neg (by omega), owner_bit h hj (by omega), o2] at hb
          simp at hb
      · refine ⟨owner D c, fun s hs hb => ?_⟩
        have hb2 : (D s).testBit c = true := by
          unfold swp at hb
          rcases (by omega : s = 0 ∨ s = 1 ∨ s = 2 ∨ s = 3) with rfl | rfl | rfl | rfl
          · rw [if_pos rfl, xor_bit, xor_bit] at hb; simpa [hci, hcj] using hb
          · rw [if_neg (by omega), if_pos rfl, xor_bit, xor_bit] at hb; simpa [hci, hcj] using hb
          · rwa [if_neg (by omega), if_neg (by omega)] at hb
          · rwa [if_neg (by omega), if_neg (by omega)] at hb
        exact (owner_of h hs hb2).symm
theorem turn_right {D : Nat → Nat} (h : rightB D = true) (r : Nat) (hr : r < 4) : rightB (fun s => D ((s + 4 - r) % 4)) = true := by
  refine right_make (fun s hs => right_lt52 h _ (by omega)) (fun s hs => right_pc h _ (by omega)) (fun c hc => ⟨(owner D c + r) % 4, fun s hs hb => ?_⟩)
  have ho := owner_of h (show (s + 4 - r) % 4 < 4 by omega) hb
  omega
end Pl
end Go.Proofs.YtaadipccgckehaaDoor
namespace Go.Proofs.YtaadipccgckehaaDoor
open Go Go.RowKit Pl

/-- What '==' says of two deals within a struct. -/
theorem eqU9 (T : TypeId) (hu : Tryd.prog.underlying T = some (.array 4 33)) (x0 x1 x2 x3 y0 y1 y2 y3 : Int) (w : World) : (Op.equalIn 9999 T (.agg #[.int .u64 x0, .int .u64 x1, .int .u64 x2, .int .u64 x3]) (.agg #[.int .u64 y0, .int .u64 y1, .int .u64 y2, .int .u64 y3])).run Tryd.prog w =
    .ok ((x0 == y0) && ((x1 == y1) && ((x2 == y2) && (x3 == y3)))) w := by
  have he : Tryd.prog.underlying 33 = some (.int .u64) := by kernel_rfl
  have hz : (sizeOf 33).run Tryd.prog w = .ok 1 w := by kernel_rfl
  have hp : ∀ (a b c d : Value) , (part 33 #[a, b, c, d] 0).run Tryd.prog w = .ok a w ∧ (part 33 #[a, b, c, d] 1).run Tryd.prog w = .ok b w ∧ (part 33 #[a, b, c, d] 2).run Tryd.prog w = .ok c w ∧ (part 33 #[a, b, c, d] 3).run Tryd.prog w = .ok d w := fun a b c d => ⟨by kernel_rfl, by kernel_rfl, by kernel_rfl, by kernel_rfl⟩
  have e : ∀ a b : Int, (Op.equalIn 9998 33 (.int .u64 a) (.int .u64 b)).run Tryd.prog w = .ok (a == b) w := fun a b => run_equalIn_int w 9997 _ _ _ a b he
  rw [Op.equalIn]
  simp only [Sem.run_bind, run_underlying hu, Result.andThen_ok, hz, Std.Legacy.Range.forIn_eq_forIn_range', Std.Legacy.Range.size, List.range', List.forIn_cons, List.forIn_nil, (hp _ _ _ _).1, e, Sem.run_ite]
  cases h0 : (x0 == y0) <;> cases h1 : (x1 == y1) <;> cases h2 : (x2 == y2) <;> cases h3 : (x3 == y3) <;> simp [Sem.run_bind, Result.andThen_ok, (hp _ _ _ _).2.1, (hp _ _ _ _).2.2.1, (hp _ _ _ _).2.2.2, e, h1, h2, h3]
theorem eqF9 (x y : Four) (w : World) : (Op.equalIn 9999 35 (.agg #[.int .u64 (ofF x 0 : Nat), .int .u64 (ofF x 1 : Nat), .int .u64 (ofF x 2 : Nat), .int .u64 (ofF x 3 : Nat)]) (.agg #[.int .u64 (ofF y 0 : Nat), .int .u64 (ofF y 1 : Nat), .int .u64 (ofF y 2 : Nat), .int .u64 (ofF y 3 : Nat)])).run Tryd.prog w =
    .ok (decide (x = y)) w := by
  have hu := Tryd.underlying35
  have h3 := eqF _ hu x y w
  rw [eqU _ hu] at h3
  rw [eqU9 _ hu]
  exact h3
theorem isB_text {n : Nat} {x : Four} (h1 : 1 ≤ n) (h2 : n ≤ 128) (hr : rightB (ofF x) = true) : IsB (textB n (ofF x)) n (ofF x) := ⟨h1, h2, hr, rfl⟩
theorem textB_len (n : Nat) (D : Nat → Nat) : (textB n D).length < 1000 := by
  have h1 := num_len n
  have h2 := word_len (vulP n)
  have h3 := textD_len D
  have h4 : (seatW (dealP n)).length = 1 := rfl
  unfold textB
  simp only [sp_cons2, sp_one, List.length_append, List.length_cons]
  omega
/-- The text of a right record is read as it was. -/
theorem read_text (n : Nat) (x : Four) (h1 : 1 ≤ n) (h2 : n ≤ 128) (hr : rightB (ofF x) = true) (w : World) (he : Env w) : Calls Tryd.prog 24 #[.string ⟨(textB n (ofF x)).toArray⟩] w (fun e w' => e = .returned (.tuple #[.agg #[.int .i64 (n : Nat), .int .u64 (ofF x 0 : Nat), .int .u64 (ofF x 1 : Nat), .int .u64 (ofF x 2 : Nat), .int .u64 (ofF x 3 : Nat)], .int .i64 0]) ∧ Below w.heap.size w w') := by
  have h := bread_any (textB n (ofF x)) (by have := textB_len n (ofF x); omega) w he
  obtain ⟨b1, b2, b3⟩ := bok_of (isB_text h1 h2 hr)
  unfold bret at h
  rw [b1, if_pos rfl, b2] at h
  unfold recV at h
  rw [b3 0 (by omega), b3 1 (by omega), b3 2 (by omega), b3 3 (by omega)] at h
  exact h
/-- What a string is read as: a right record with this text, or the error. -/
theorem read_str (s : ByteArray) (hs : s.size < 140737488355328) : (∃ (n : Nat) (x : Four), 1 ≤ n ∧ n ≤ 128 ∧ rightB (ofF x) = true ∧ F64 x ∧ (⟨(textB n (ofF x)).toArray⟩ : ByteArray) = s ∧ ∀ w, Env w → Calls Tryd.prog 24 #[.string s] w (fun e w' => e = .returned (.tuple #[.agg #[.int .i64 (n : Nat), .int .u64 (ofF x 0 : Nat), .int .u64 (ofF x 1 : Nat), .int .u64 (ofF x 2 : Nat), .int .u64 (ofF x 3 : Nat)], .int .i64 0]) ∧ Below w.heap.size w w')) ∨
    (∀ w, Env w → Calls Tryd.prog 24 #[.string s] w (fun e w' => e = .returned (.tuple #[.agg #[.int .i64 0, .int .u64 0, .int .u64 0, .int .u64 0, .int .u64 0], .int .i64 71]) ∧ Below w.heap.size w w')) := by
  have hL : (⟨s.data.toList.toArray⟩ : ByteArray) = s := by simp
  have hlen : s.data.toList.length < 140737488355328 := by simpa using hs
  rcases hb : bok s.data.toList with _ | _
  · refine .inr (fun w he => ?_)
    have h := bread_any s.data.toList hlen w he
    unfold bret at h
    rw [hb, hL] at h
    exact h
  · obtain ⟨n, _, h1, h2, hr, ht⟩ := bok_is hb
    have hsame : ∀ k, k < 4 → dval (brest s.data.toList) k = ofF (toF (dval (brest s.data.toList))) k := fun k hk => by
      rcases (by omega : k = 0 ∨ k = 1 ∨ k = 2 ∨ k = 3) with rfl | rfl | rfl | rfl <;> rfl
    have hr2 : rightB (ofF (toF (dval (brest s.data.toList)))) = true := by rw [← right_same hsame]; exact hr
    have htx : (⟨(textB n (ofF (toF (dval (brest s.data.toList))))).toArray⟩ : ByteArray) = s := by
      rw [← text_same n hsame, ← ht]
    refine .inl ⟨n, toF (dval (brest s.data.toList)), h1, h2, hr2, fun k hk => Nat.lt_trans (right_lt52 hr2 k hk) (by omega), htx, fun w he => ?_⟩
    · have h := read_text n _ h1 h2 hr2 w he
      rw [htx] at h
      exact h
/-- A deal turned by i seats to the left. -/
def tF (x : Four) (i : Nat) : Four := toF (fun s => ofF x ((s + 8 - i) % 4))
theorem tF_at (x : Four) (i s : Nat) (hs : s < 4) : ofF (tF x i) s = ofF x ((s + 8 - i) % 4) := by
  rcases (by omega : s = 0 ∨ s = 1 ∨ s = 2 ∨ s = 3) with rfl | rfl | rfl | rfl <;> rfl
theorem tF_0 (x : Four) : tF x 0 = x := four_ext ⟨by rw [tF_at _ _ _ (by omega)], by rw [tF_at _ _ _ (by omega)], by rw [tF_at _ _ _ (by omega)], by rw [tF_at _ _ _ (by omega)]⟩
theorem tF_4 (x : Four) : tF x 4 = x := four_ext ⟨by rw [tF_at _ _ _ (by omega)], by rw [tF_at _ _ _ (by omega)], by rw [tF_at _ _ _ (by omega)], by rw [tF_at _ _ _ (by omega)]⟩
theorem tF_right {x : Four} (h : rightB (ofF x) = true) : ∀ i, i ≤ 4 → rightB (ofF (tF x i)) = true
  | 0, _ => by rw [tF_0]; exact h
  | i + 1, hi => by
    have ih := turn_right (tF_right h i (by omega)) 1 (by omega)
    have e : ∀ k, k < 4 → ofF (tF x i) ((k + 4 - 1) % 4) = ofF (tF x (i + 1)) k := fun k hk => by
      rw [tF_at _ _ _ (by omega), tF_at _ _ _ hk]
      congr 1
      omega
    rw [← right_same e]
    exact ih
theorem turn_rec (n : Nat) (x : Four) (h1 : 1 ≤ n) (h2 : n ≤ 128) (hr : rightB (ofF x) = true) (i : Nat) (hi : i < 4) (w : World) :
    Calls Tryd.prog 25 #[.agg #[.int .i64 (n : Nat), .int .u64 (ofF (tF x i) 0 : Nat), .int .u64 (ofF (tF x i) 1 : Nat), .int .u64 (ofF (tF x i) 2 : Nat), .int .u64 (ofF (tF x i) 3 : Nat)], .int .i64 1] w (fun e w' => e = .returned (.tuple #[.agg #[.int .i64 (n : Nat), .int .u64 (ofF (tF x (i + 1)) 0 : Nat), .int .u64 (ofF (tF x (i + 1)) 1 : Nat), .int .u64 (ofF (tF x (i + 1)) 2 : Nat), .int .u64 (ofF (tF x (i + 1)) 3 : Nat)], .int .i64 0]) ∧ Below w.heap.size w w') := by
  have hri := tF_right hr i (by omega)
  have h := bturn_ok n (ofF (tF x i)) 1 (by omega) h1 h2 (fun k hk => by have := right_lt52 hri k hk; omega) hri w
  have e : ∀ k, k < 4 → turnD (ofF (tF x i)) 1 k = ofF (tF x (i + 1)) k := fun k hk => by
    show ofF (tF x i) ((k + 4 - 1) % 4) = _
    rw [tF_at _ _ _ (by omega), tF_at _ _ _ hk]
    congr 1
    omega
  rw [e 0 (by omega), e 1 (by omega), e 2 (by omega), e 3 (by omega)] at h
  exact h
set_option maxRecDepth 100000 in
set_option maxHeartbeats 4000000 in
theorem back_walk (v0 v1 : Value) (l0 l1 : List Nat) (nn mm : Nat) (hnn : nn < 256) (hmm : mm < 256) (s : ByteArray) (hs : s.size < 140737488355328) (w : World) (he : Env w) (h0 : BV w v0 l0) (h08 : ∀ x ∈ l0, x < 256) (h1 : BV w v1 l1) (h18 : ∀ x ∈ l1, x < 256) : Calls Tryd.prog 8 #[v0, v1, .int .u8 (nn : Int), .int .u8 (mm : Int), .string s] w (fun e w' => e = .returned (.bool true) ∧ Below w.heap.size w w') := by
  have M0 := Lib.hid (made_four h0 h08)
  have M1 := Lib.hid (fun w1 (hb : Below w.heap.size w w1) => made_four (h1.keep hb) h18)
  have HE := Lib.hid he
  have RS := Lib.hid (read_str s hs)
  obtain ⟨A0, c0, rfl, _⟩ := h0.len
  obtain ⟨A1, c1, rfl, _⟩ := h1.len
  clear h0 h1 h08 h18 he hs
  generalize l0.length = n0 at *
  generalize l1.length = n1 at *
  obtain ⟨R, hR⟩ : ∃ R, R = nn % 128 := ⟨_, rfl⟩
  obtain ⟨n, hn⟩ : ∃ n, n = 1 + R := ⟨_, rfl⟩
  have e0 : IntKind.i64.wrap (nn : Int) = (nn : Int) := IntWalk.i64_in _ (by omega)
  have e1 : ((nn : Int)).tmod 128 = (R : Int) := by rw [Int.tmod_eq_emod_of_nonneg (by omega)]; omega
  have e2 : IntKind.i64.wrap (1 + (R : Int)) = ((n : Nat) : Int) := by rw [show ((n : Nat) : Int) = 1 + (R : Int) by omega]; exact IntWalk.i64_in _ (by omega)
  obtain ⟨S, hS⟩ : ∃ S, S = mm % 128 := ⟨_, rfl⟩
  obtain ⟨m, hm⟩ : ∃ m, m = 1 + S := ⟨_, rfl⟩
  have f0 : IntKind.i64.wrap (mm : Int) = (mm : Int) := IntWalk.i64_in _ (by omega)
  have f1 : ((mm : Int)).tmod 128 = (S : Int) := by rw [Int.tmod_eq_emod_of_nonneg (by omega)]; omega
  have f2 : IntKind.i64.wrap (1 + (S : Int)) = ((m : Nat) : Int) := by rw [show ((m : Nat) : Int) = 1 + (S : Int) by omega]; exact IntWalk.i64_in _ (by omega)
  have HNM : Hid ((1 ≤ n ∧ n ≤ 128) ∧ (1 ≤ m ∧ m ≤ 128)) := Lib.hid ⟨⟨by omega, by omega⟩, ⟨by omega, by omega⟩⟩
  clear hR hn hS hm hnn hmm
  go_enter Tryd.func8, Tryd.ntmps8
  go_wp2_with fail
  refine M0.out.mono ?_
  rintro e w1 ⟨⟨x, hx, hx64, rfl⟩, hb⟩
  have HX := Lib.hid (And.intro hx hx64)
  have HB1 := Lib.hid (bchain hb (below1 w1 (.cells #[.int .i64 (n : Nat), .int .u64 (ofF x 0 : Nat), .int .u64 (ofF x 1 : Nat), .int .u64 (ofF x 2 : Nat), .int .u64 (ofF x 3 : Nat)] 56)))
  have HBX := Lib.hid (Blk.new w1 56 #[.int .i64 (n : Nat), .int .u64 (ofF x 0 : Nat), .int .u64 (ofF x 1 : Nat), .int .u64 (ofF x 2 : Nat), .int .u64 (ofF x 3 : Nat)])
  clear hx hx64 hb M0
  go_upto_region 2 with fail
  generalize w1.alloc (.cells #[.int .i64 (n : Nat), .int .u64 (ofF x 0 : Nat), .int .u64 (ofF x 1 : Nat), .int .u64 (ofF x 2 : Nat), .int .u64 (ofF x 3 : Nat)] 56) = W1 at *
  generalize w1.heap.size = p1 at *
  go_wp2_with fail
  refine (M1.out _ HB1.out).mono ?_
  rintro e w2 ⟨⟨y, hy, hy64, rfl⟩, hb⟩
  have HY := Lib.hid (And.intro hy hy64)
  have hb2 := below1 w2 (.cells #[.int .i64 (m : Nat), .int .u64 (ofF y 0 : Nat), .int .u64 (ofF y 1 : Nat), .int .u64 (ofF y 2 : Nat), .int .u64 (ofF y 3 : Nat)] 56)
  have HB2 := Lib.hid (bchain (bchain HB1.out hb) hb2)
  have HBY := Lib.hid (Blk.new w2 56 #[.int .i64 (m : Nat), .int .u64 (ofF y 0 : Nat), .int .u64 (ofF y 1 : Nat), .int .u64 (ofF y 2 : Nat), .int .u64 (ofF y 3 : Nat)])
  have HBX2 := Lib.hid ((HBX.out.keep hb HBX.out.lt).keep hb2 (HBX.out.keep hb HBX.out.lt).lt)
  clear hy hy64 hb hb2 M1 HB1 HBX e0 e1 e2 f0 f1 f2
  go_upto_region 3 with fail
  generalize w2.alloc (.cells #[.int .i64 (m : Nat), .int .u64 (ofF y 0 : Nat), .int .u64 (ofF y 1 : Nat), .int .u64 (ofF y 2 : Nat), .int .u64 (ofF y 3 : Nat)] 56) = W2 at *
  generalize w2.heap.size = p2 at *
  obtain ⟨T, hT⟩ : ∃ T : ByteArray, (⟨(textB n (ofF x)).toArray⟩ : ByteArray) = T := ⟨_, rfl⟩
  obtain ⟨U, hU⟩ : ∃ U : ByteArray, (⟨(textB m (ofF y)).toArray⟩ : ByteArray) = U := ⟨_, rfl⟩
  have TX : Hid (∀ W, Env W → Calls Tryd.prog 23 #[.agg #[.int .i64 (n : Nat), .int .u64 (ofF x 0 : Nat), .int .u64 (ofF x 1 : Nat), .int .u64 (ofF x 2 : Nat), .int .u64 (ofF x 3 : Nat)]] W (fun e w' => e = .returned (.tuple #[.string T, .int .i64 0]) ∧ Below W.heap.size W w')) := Lib.hid (fun W hw => by
    have := btext_ok n (ofF x) HNM.out.1.1 HNM.out.1.2 HX.out.2 HX.out.1 W hw
    unfold strV' at this
    rw [hT] at this
    exact this)
  have TY : Hid (∀ W, Env W → Calls Tryd.prog 23 #[.agg #[.int .i64 (m : Nat), .int .u64 (ofF y 0 : Nat), .int .u64 (ofF y 1 : Nat), .int .u64 (ofF y 2 : Nat), .int .u64 (ofF y 3 : Nat)]] W (fun e w' => e = .returned (.tuple #[.string U, .int .i64 0]) ∧ Below W.heap.size W w')) := Lib.hid (fun W hw => by
    have := btext_ok m (ofF y) HNM.out.2.1 HNM.out.2.2 HY.out.2 HY.out.1 W hw
    unfold strV' at this
    rw [hU] at this
    exact this)
  have RT : Hid (∀ W, Env W → Calls Tryd.prog 24 #[.string T] W (fun e w' => e = .returned (.tuple #[.agg #[.int .i64 (n : Nat), .int .u64 (ofF x 0 : Nat), .int .u64 (ofF x 1 : Nat), .int .u64 (ofF x 2 : Nat), .int .u64 (ofF x 3 : Nat)], .int .i64 0]) ∧ Below W.heap.size W w')) := Lib.hid (fun W hw => by
    have := read_text n x HNM.out.1.1 HNM.out.1.2 HX.out.1 W hw
    rw [hT] at this
    exact this)
  have HTU : Hid ((T.toList == U.toList) = decide (n = m ∧ x = y)) := Lib.hid (by
    rw [Bool.eq_iff_iff, beq_iff_eq, decide_eq_true_eq, ByteArray.toList_eq, ByteArray.toList_eq, ← hT, ← hU]
    show textB n (ofF x) = textB m (ofF y) ↔ _
    constructor
    · intro h
      have h1 := isB_text HNM.out.1.1 HNM.out.1.2 HX.out.1
      have h2 := isB_text HNM.out.2.1 HNM.out.2.2 HY.out.1
      rw [h] at h1
      obtain ⟨g1, g2⟩ := isB_one h1 h2
      exact ⟨g1, four_ext g2⟩
    · rintro ⟨rfl, rfl⟩; rfl)
  clear hT hU
  have a0 := HBX2.out.cell (j := 0) (v := .int .i64 (n : Nat)) rfl
  have a1 := HBX2.out.cell (j := 1) (v := .int .u64 (ofF x 0 : Nat)) rfl
  have a2 := HBX2.out.cell (j := 2) (v := .int .u64 (ofF x 1 : Nat)) rfl
  have a3 := HBX2.out.cell (j := 3) (v := .int .u64 (ofF x 2 : Nat)) rfl
  have a4 := HBX2.out.cell (j := 4) (v := .int .u64 (ofF x 3 : Nat)) rfl
  have b0 := HBY.out.cell (j := 0) (v := .int .i64 (m : Nat)) rfl
  have b1 := HBY.out.cell (j := 1) (v := .int .u64 (ofF y 0 : Nat)) rfl
  have b2 := HBY.out.cell (j := 2) (v := .int .u64 (ofF y 1 : Nat)) rfl
  have b3 := HBY.out.cell (j := 3) (v := .int .u64 (ofF y 2 : Nat)) rfl
  have b4 := HBY.out.cell (j := 4) (v := .int .u64 (ofF y 3 : Nat)) rfl
  go_wp2_with fail
  refine (TX.out _ (HE.out.keep HB2.out)).mono ?_
  rintro e w3 ⟨rfl, hb⟩
  have HB3 := Lib.hid (bchain HB2.out hb)
  have HBX3 := Lib.hid (HBX2.out.keep hb HBX2.out.lt)
  have HBY3 := Lib.hid (HBY.out.keep hb HBY.out.lt)
  clear hb HB2 HBX2 HBY a0 a1 a2 a3 a4 b0 b1 b2 b3 b4 TX
  have b0 := HBY3.out.cell (j := 0) (v := .int .i64 (m : Nat)) rfl
  have b1 := HBY3.out.cell (j := 1) (v := .int .u64 (ofF y 0 : Nat)) rfl
  have b2 := HBY3.out.cell (j := 2) (v := .int .u64 (ofF y 1 : Nat)) rfl
  have b3 := HBY3.out.cell (j := 3) (v := .int .u64 (ofF y 2 : Nat)) rfl
  have b4 := HBY3.out.cell (j := 4) (v := .int .u64 (ofF y 3 : Nat)) rfl
  go_wp2_with fail
  refine (TY.out _ (HE.out.keep HB3.out)).mono ?_
  rintro e w4 ⟨rfl, hb⟩
  have HB4 := Lib.hid (bchain HB3.out hb)
  have HBX4 := Lib.hid (HBX3.out.keep hb HBX3.out.lt)
  have HBY4 := Lib.hid (HBY3.out.keep hb HBY3.out.lt)
  clear hb HB3 HBX3 HBY3 b0 b1 b2 b3 b4 TY
  go_wp2_with fail
  refine (RT.out _ (HE.out.keep HB4.out)).mono ?_
  rintro e w5 ⟨rfl, hb⟩
  have hb2 := below1 w5 (.cells #[.int .i64 (n : Nat), .int .u64 (ofF x 0 : Nat), .int .u64 (ofF x 1 : Nat), .int .u64 (ofF x 2 : Nat), .int .u64 (ofF x 3 : Nat)] 56)
  have HB5 := Lib.hid (bchain (bchain HB4.out hb) hb2)
  have HBX5 := Lib.hid ((HBX4.out.keep hb HBX4.out.lt).keep hb2 (HBX4.out.keep hb HBX4.out.lt).lt)
  have HBY5 := Lib.hid ((HBY4.out.keep hb HBY4.out.lt).keep hb2 (HBY4.out.keep hb HBY4.out.lt).lt)
  have HBR5 := Lib.hid (Blk.new w5 56 #[.int .i64 (n : Nat), .int .u64 (ofF x 0 : Nat), .int .u64 (ofF x 1 : Nat), .int .u64 (ofF x 2 : Nat), .int .u64 (ofF x 3 : Nat)])
  clear hb hb2 HB4 HBX4 HBY4 RT
  go_upto_region 6 with fail
  generalize w5.alloc (.cells #[.int .i64 (n : Nat), .int .u64 (ofF x 0 : Nat), .int .u64 (ofF x 1 : Nat), .int .u64 (ofF x 2 : Nat), .int .u64 (ofF x 3 : Nat)] 56) = W5 at *
  generalize w5.heap.size = p5 at *
  have a0 := HBX5.out.cell (j := 0) (v := .int .i64 (n : Nat)) rfl
  have a1 := HBX5.out.cell (j := 1) (v := .int .u64 (ofF x 0 : Nat)) rfl
  have a2 := HBX5.out.cell (j := 2) (v := .int .u64 (ofF x 1 : Nat)) rfl
  have a3 := HBX5.out.cell (j := 3) (v := .int .u64 (ofF x 2 : Nat)) rfl
  have a4 := HBX5.out.cell (j := 4) (v := .int .u64 (ofF x 3 : Nat)) rfl
  have b0 := HBY5.out.cell (j := 0) (v := .int .i64 (m : Nat)) rfl
  have b1 := HBY5.out.cell (j := 1) (v := .int .u64 (ofF y 0 : Nat)) rfl
  have b2 := HBY5.out.cell (j := 2) (v := .int .u64 (ofF y 1 : Nat)) rfl
  have b3 := HBY5.out.cell (j := 3) (v := .int .u64 (ofF y 2 : Nat)) rfl
  have b4 := HBY5.out.cell (j := 4) (v := .int .u64 (ofF y 3 : Nat)) rfl
  have r0 := HBR5.out.cell (j := 0) (v := .int .i64 (n : Nat)) rfl
  have r1 := HBR5.out.cell (j := 1) (v := .int .u64 (ofF x 0 : Nat)) rfl
  have r2 := HBR5.out.cell (j := 2) (v := .int .u64 (ofF x 1 : Nat)) rfl
  have r3 := HBR5.out.cell (j := 3) (v := .int .u64 (ofF x 2 : Nat)) rfl
  have r4 := HBR5.out.cell (j := 4) (v := .int .u64 (ofF x 3 : Nat)) rfl
  have EQx := fun W => eqF9 x x W
  rw [decide_eq_true rfl] at EQx
  have EQy := fun W => eqF9 x y W
  have TU := HTU.out
  go_cut [76] (fun s76 wx => s76 = .bool false ∧ W5 = wx)
  case first =>
    by_cases hnm : n = m
    · subst hnm
      rcases hbq : decide (x = y) with _ | _
      · have hbq2 : decide (n = n ∧ x = y) = false := by rw [← hbq]; simp
        rw [hbq2] at TU
        rw [hbq] at EQy
        clear hbq hbq2 HTU
        go_wp2_with fail
        go_meet
        exact ⟨rfl, rfl⟩
      · have hbq2 : decide (n = n ∧ x = y) = true := by rw [← hbq]; simp
        rw [hbq2] at TU
        rw [hbq] at EQy
        clear hbq hbq2 HTU
        go_wp2_with fail
        go_meet
        exact ⟨rfl, rfl⟩
    · have tnm : (((n : Nat) : Int) == ((m : Nat) : Int)) = false := beq_eq_false_iff_ne.2 (by omega)
      have hbq2 : decide (n = m ∧ x = y) = false := decide_eq_false (fun h => hnm h.1)
      rw [hbq2] at TU
      clear hbq2 HTU hnm
      go_wp2_with fail
      go_meet
      exact ⟨rfl, rfl⟩
  case rest =>
    obtain ⟨rfl, rfl⟩ := hcut
    clear b0 b1 b2 b3 b4 r0 r1 r2 r3 r4 EQx EQy TU HTU a0 a1 a2 a3 a4
    go_upto_region 8 with fail
    have a0 := HBX5.out.cell (j := 0) (v := .int .i64 (n : Nat)) rfl
    have a1 := HBX5.out.cell (j := 1) (v := .int .u64 (ofF x 0 : Nat)) rfl
    have a2 := HBX5.out.cell (j := 2) (v := .int .u64 (ofF x 1 : Nat)) rfl
    have a3 := HBX5.out.cell (j := 3) (v := .int .u64 (ofF x 2 : Nat)) rfl
    have a4 := HBX5.out.cell (j := 4) (v := .int .u64 (ofF x 3 : Nat)) rfl
    go_upto_region 9 with fail
    have hb2 := below1 W5 (.cells #[.int .i64 (n : Nat), .int .u64 (ofF x 0 : Nat), .int .u64 (ofF x 1 : Nat), .int .u64 (ofF x 2 : Nat), .int .u64 (ofF x 3 : Nat)] 56)
    have HB6 := Lib.hid (bchain HB5.out hb2)
    have HBX6 := Lib.hid (HBX5.out.keep hb2 HBX5.out.lt)
    have HBY6 := Lib.hid (Blk.new W5 56 #[.int .i64 (n : Nat), .int .u64 (ofF x 0 : Nat), .int .u64 (ofF x 1 : Nat), .int .u64 (ofF x 2 : Nat), .int .u64 (ofF x 3 : Nat)])
    have HP : Hid (p1 ≠ W5.heap.size) := Lib.hid (Nat.ne_of_lt HBX5.out.lt)
    have HPW : Hid (w.heap.size ≤ W5.heap.size) := Lib.hid HB5.out.size
    clear hb2 HB5 HBX5 a0 a1 a2 a3 a4 HBY5 HBR5
    generalize W5.alloc (.cells #[.int .i64 (n : Nat), .int .u64 (ofF x 0 : Nat), .int .u64 (ofF x 1 : Nat), .int .u64 (ofF x 2 : Nat), .int .u64 (ofF x 3 : Nat)] 56) = W6 at *
    generalize W5.heap.size = p6 at *
    go_wp2_with fail
    go_loopw [78] (fun s78 wr => ∃ i : Nat, i ≤ 4 ∧ s78 = .int .i64 (i : Int) ∧ Hid (Blk wr p6 56 #[.int .i64 (n : Nat), .int .u64 (ofF (tF x i) 0 : Nat), .int .u64 (ofF (tF x i) 1 : Nat), .int .u64 (ofF (tF x i) 2 : Nat), .int .u64 (ofF (tF x i) 3 : Nat)]) ∧ Hid (Blk wr p1 56 #[.int .i64 (n : Nat), .int .u64 (ofF x 0 : Nat), .int .u64 (ofF x 1 : Nat), .int .u64 (ofF x 2 : Nat), .int .u64 (ofF x 3 : Nat)]) ∧ Hid (Below w.heap.size w wr)) (fun s78 _ => 4 - (intOf s78).toNat)
    case atStart => exact ⟨0, by omega, rfl, by rw [tF_0]; exact HBY6, HBX6, HB6⟩
    case round =>
      clear HBY6 HBX6 HB6
      obtain ⟨i, hi, rfl, HBY6, HBX6, HB6⟩ := hrel
      by_cases hlt : i < 4
      · have u1 : decide ((i : Int) < 4) = true := decide_eq_true (by omega)
        have y1 := inc64 i (by omega)
        have TR := Lib.hid (fun W => turn_rec n x HNM.out.1.1 HNM.out.1.2 HX.out.1 i hlt W)
        obtain ⟨z0, hz0⟩ : ∃ z0, tF x i = z0 := ⟨_, rfl⟩
        obtain ⟨z, hz⟩ : ∃ z, tF x (i + 1) = z := ⟨_, rfl⟩
        have HZ := Lib.hid hz
        rw [hz0] at HBY6
        rw [hz0, hz] at TR
        clear hz0 hz
        have c0 := HBY6.out.cell (j := 0) (v := .int .i64 (n : Nat)) rfl
        have c1 := HBY6.out.cell (j := 1) (v := .int .u64 (ofF z0 0 : Nat)) rfl
        have c2 := HBY6.out.cell (j := 2) (v := .int .u64 (ofF z0 1 : Nat)) rfl
        have c3 := HBY6.out.cell (j := 3) (v := .int .u64 (ofF z0 2 : Nat)) rfl
        have c4 := HBY6.out.cell (j := 4) (v := .int .u64 (ofF z0 3 : Nat)) rfl
        go_wp2_with fail
        refine (TR.out _).mono ?_
        rintro e w7 ⟨rfl, hb⟩
        have HBY7 := Lib.hid (HBY6.out.keep hb HBY6.out.lt)
        have HBX7 := Lib.hid (HBX6.out.keep hb HBX6.out.lt)
        have HB7 := Lib.hid (bchain HB6.out hb)
        clear hb HBY6 HBX6 HB6 c0 c1 c2 c3 c4 TR
        have c0 := HBY7.out.cell (j := 0) (v := .int .i64 (n : Nat)) rfl
        have c1 := HBY7.out.cell (j := 1) (v := .int .u64 (ofF z0 0 : Nat)) rfl
        have c2 := HBY7.out.cell (j := 2) (v := .int .u64 (ofF z0 1 : Nat)) rfl
        have c3 := HBY7.out.cell (j := 3) (v := .int .u64 (ofF z0 2 : Nat)) rfl
        have c4 := HBY7.out.cell (j := 4) (v := .int .u64 (ofF z0 3 : Nat)) rfl
        have g0 := HBY7.out.free 0
        have g1 := HBY7.out.free 1
        have g2 := HBY7.out.free 2
        have g3 := HBY7.out.free 3
        have g4 := HBY7.out.free 4
        go_upto_region 12 with fail
        have HBY8 : Hid (Blk (((((w7.setCell ⟨p6, 0, none⟩ (.int .i64 (n : Nat))).setCell ⟨p6, 1, none⟩ (.int .u64 (ofF z 0 : Nat))).setCell ⟨p6, 2, none⟩ (.int .u64 (ofF z 1 : Nat))).setCell ⟨p6, 3, none⟩ (.int .u64 (ofF z 2 : Nat))).setCell ⟨p6, 4, none⟩ (.int .u64 (ofF z 3 : Nat))) p6 56 #[.int .i64 (n : Nat), .int .u64 (ofF z 0 : Nat), .int .u64 (ofF z 1 : Nat), .int .u64 (ofF z 2 : Nat), .int .u64 (ofF z 3 : Nat)]) := Lib.hid (((((HBY7.out.set 0 _).set 1 _).set 2 _).set 3 _).set 4 _)
        have HBX8 := Lib.hid (((((HBX7.out.other HP.out 0 (.int .i64 (n : Nat))).other HP.out 1 (.int .u64 (ofF z 0 : Nat))).other HP.out 2 (.int .u64 (ofF z 1 : Nat))).other HP.out 3 (.int .u64 (ofF z 2 : Nat))).other HP.out 4 (.int .u64 (ofF z 3 : Nat)))
        have HB8 := Lib.hid (z5below HB7.out HPW.out (.int .i64 (n : Nat)) (.int .u64 (ofF z 0 : Nat)) (.int .u64 (ofF z 1 : Nat)) (.int .u64 (ofF z 2 : Nat)) (.int .u64 (ofF z 3 : Nat)))
        clear c0 c1 c2 c3 c4 g0 g1 g2 g3 g4 HBY7 HBX7 HB7
        generalize ((((w7.setCell ⟨p6, 0, none⟩ (.int .i64 (n : Nat))).setCell ⟨p6, 1, none⟩ (.int .u64 (ofF z 0 : Nat))).setCell ⟨p6, 2, none⟩ (.int .u64 (ofF z 1 : Nat))).setCell ⟨p6, 3, none⟩ (.int .u64 (ofF z 2 : Nat))).setCell ⟨p6, 4, none⟩ (.int .u64 (ofF z 3 : Nat)) = W8 at *
        have c0 := HBY8.out.cell (j := 0) (v := .int .i64 (n : Nat)) rfl
        have c1 := HBY8.out.cell (j := 1) (v := .int .u64 (ofF z 0 : Nat)) rfl
        have c2 := HBY8.out.cell (j := 2) (v := .int .u64 (ofF z 1 : Nat)) rfl
        have c3 := HBY8.out.cell (j := 3) (v := .int .u64 (ofF z 2 : Nat)) rfl
        have c4 := HBY8.out.cell (j := 4) (v := .int .u64 (ofF z 3 : Nat)) rfl
        have a0 := HBX8.out.cell (j := 0) (v := .int .i64 (n : Nat)) rfl
        have a1 := HBX8.out.cell (j := 1) (v := .int .u64 (ofF x 0 : Nat)) rfl
        have a2 := HBX8.out.cell (j := 2) (v := .int .u64 (ofF x 1 : Nat)) rfl
        have a3 := HBX8.out.cell (j := 3) (v := .int .u64 (ofF x 2 : Nat)) rfl
        have a4 := HBX8.out.cell (j := 4) (v := .int .u64 (ofF x 3 : Nat)) rfl
        have EQ := fun W => eqF 35 Tryd.underlying35 z x W
        have EQ9 := fun W => eqF9 z x W
        rcases hbz : decide (z = x) with _ | _
        · rw [hbz] at EQ EQ9
          clear hbz
          go_wp2_with fail
          go_roundw
          case rel => exact ⟨i + 1, by omega, by simp, by rw [HZ.out]; exact HBY8, HBX8, HB8⟩
          case measure => simp [intOf]; omega
        · rw [hbz] at EQ EQ9
          clear hbz
          go_wp2_with fail
          go_roundw
          case rel => exact ⟨i + 1, by omega, by simp, by rw [HZ.out]; exact HBY8, HBX8, HB8⟩
          case measure => simp [intOf]; omega
      · obtain rfl : i = 4 := by omega
        rw [tF_4] at HBY6
        rw [show ((4 : Nat) : Int) = 4 from rfl]
        have c0 := HBY6.out.cell (j := 0) (v := .int .i64 (n : Nat)) rfl
        have c1 := HBY6.out.cell (j := 1) (v := .int .u64 (ofF x 0 : Nat)) rfl
        have c2 := HBY6.out.cell (j := 2) (v := .int .u64 (ofF x 1 : Nat)) rfl
        have c3 := HBY6.out.cell (j := 3) (v := .int .u64 (ofF x 2 : Nat)) rfl
        have c4 := HBY6.out.cell (j := 4) (v := .int .u64 (ofF x 3 : Nat)) rfl
        have a0 := HBX6.out.cell (j := 0) (v := .int .i64 (n : Nat)) rfl
        have a1 := HBX6.out.cell (j := 1) (v := .int .u64 (ofF x 0 : Nat)) rfl
        have a2 := HBX6.out.cell (j := 2) (v := .int .u64 (ofF x 1 : Nat)) rfl
        have a3 := HBX6.out.cell (j := 3) (v := .int .u64 (ofF x 2 : Nat)) rfl
        have a4 := HBX6.out.cell (j := 4) (v := .int .u64 (ofF x 3 : Nat)) rfl
        have EQx := fun W => eqF9 x x W
        rw [decide_eq_true rfl] at EQx
        clear hi hlt
        go_upto_region 17 with fail
        clear c0 c1 c2 c3 c4 a0 a1 a2 a3 a4 EQx HBY6 HBX6
        rcases RS.out with ⟨n', x', h1, h2, hr, h64, htx, hrd⟩ | hrd
        · have RD := Lib.hid hrd
          have TX' : Hid (∀ W, Env W → Calls Tryd.prog 23 #[.agg #[.int .i64 (n' : Nat), .int .u64 (ofF x' 0 : Nat), .int .u64 (ofF x' 1 : Nat), .int .u64 (ofF x' 2 : Nat), .int .u64 (ofF x' 3 : Nat)]] W (fun e w' => e = .returned (.tuple #[.string s, .int .i64 0]) ∧ Below W.heap.size W w')) := Lib.hid (fun W hw => by
            have := btext_ok n' (ofF x') h1 h2 h64 hr W hw
            unfold strV' at this
            rw [htx] at this
            exact this)
          clear h1 h2 hr h64 htx hrd
          go_wp2_with fail
          refine (RD.out _ (HE.out.keep HB6.out)).mono ?_
          rintro e w8 ⟨rfl, hb⟩
          have HB8 := Lib.hid (bchain (bchain HB6.out hb) (below1 w8 (.cells #[.int .i64 (n' : Nat), .int .u64 (ofF x' 0 : Nat), .int .u64 (ofF x' 1 : Nat), .int .u64 (ofF x' 2 : Nat), .int .u64 (ofF x' 3 : Nat)] 56)))
          clear hb HB6
          go_wp2_with fail
          refine (TX'.out _ (HE.out.keep HB8.out)).mono ?_
          rintro e w9 ⟨rfl, hb⟩
          have HB9 := Lib.hid (bchain HB8.out hb)
          clear hb HB8
          go_wp2_with fail
          refine (awake_any _ (HE.out.keep HB9.out)).mono ?_
          rintro e wA ⟨rfl, hb⟩
          have HBA := Lib.hid (bchain HB9.out hb)
          clear hb HB9
          go_wp2_with fail
          go_ret
          exact ⟨rfl, HBA.out⟩
        · have RD := Lib.hid hrd
          clear hrd
          go_wp2_with fail
          refine (RD.out _ (HE.out.keep HB6.out)).mono ?_
          rintro e w8 ⟨rfl, hb⟩
          have HB8 := Lib.hid (bchain (bchain HB6.out hb) (below1 w8 (.cells #[.int .i64 0, .int .u64 0, .int .u64 0, .int .u64 0, .int .u64 0] 56)))
          clear hb HB6
          go_wp2_with fail
          refine (awake_any _ (HE.out.keep HB8.out)).mono ?_
          rintro e wA ⟨rfl, hb⟩
          have HBA := Lib.hid (bchain HB8.out hb)
          clear hb HB8
          go_wp2_with fail
          go_ret
          exact ⟨rfl, HBA.out⟩
theorem back_open (v0 v1 : Value) (nn mm : Nat) (hnn : nn < 256) (hmm : mm < 256) (s : ByteArray) (hs : s.size < 140737488355328) (w : World) (he : Env w) (h0 : ∃ l : List Nat, BV w v0 l ∧ ∀ x ∈ l, x < 256) (h1 : ∃ l : List Nat, BV w v1 l ∧ ∀ x ∈ l, x < 256) : Calls Tryd.prog 8 #[v0, v1, .int .u8 (nn : Int), .int .u8 (mm : Int), .string s] w (fun e w' => e = .returned (.bool true) ∧ Below w.heap.size w w') := by
  obtain ⟨l0, a0, b0⟩ := h0
  obtain ⟨l1, a1, b1⟩ := h1
  exact back_walk v0 v1 l0 l1 nn mm hnn hmm s hs w he a0 b0 a1 b1
end Go.Proofs.YtaadipccgckehaaDoor
