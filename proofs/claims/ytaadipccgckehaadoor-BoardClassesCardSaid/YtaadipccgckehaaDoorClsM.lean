/- Plain laws of the changes between two right deals. No program. BoardChanges: the walk. Plain laws: the lowest card of a hand; two cards exchanged; a deal turned. No program. BoardClasses: the walk. -/
import Derived.Test.YtaadipccgckehaaDoorBW
import Derived.Test.YtaadipccgckehaaDoorCQ
import Derived.Test.YtaadipccgckehaaDoorDiffA
import Derived.Test.YtaadipccgckehaaDoorMade
import Derived.BigRegion
import Derived.Test.YtaadipccgckehaaDoorMadeP
import Derived.Test.YtaadipccgckehaaDoorDiffB
namespace Go.Proofs.YtaadipccgckehaaDoor
open Go
namespace Pl
theorem part_of_right {D : Nat → Nat} (h : rightB D = true) : ∀ k, k < 4 → D k ≤ 4503599627370495 ∧ pc 64 (D k) ≤ 13 ∧ D k &&& usedTo D k = 0 := by
  unfold rightB at h
  rw [Bool.and_eq_true] at h
  exact (part_iff D).1 h.1
theorem used_all {D : Nat → Nat} (h : rightB D = true) : usedTo D 4 = 4503599627370495 := by
  unfold rightB at h
  rw [Bool.and_eq_true, decide_eq_true_eq] at h
  exact h.2
theorem right_apart {D : Nat → Nat} (h : rightB D = true) {j k c : Nat} (hj : j < k) (hk : k < 4) (h1 : (D j).testBit c = true) : (D k).testBit c = false := by
  have h2 := (part_of_right h k hk).2.2
  have h3 : (usedTo D k).testBit c = true := (used_bit D c k).2 ⟨j, hj, h1⟩
  have h4 : (D k &&& usedTo D k).testBit c = false := by rw [h2, Nat.zero_testBit]
  rw [Nat.testBit_and, h3, Bool.and_true] at h4
  exact h4
theorem right_some {D : Nat → Nat} (h : rightB D = true) {c : Nat} (hc : c < 52) : ∃ j, j < 4 ∧ (D j).testBit c = true := by
  refine (used_bit D c 4).1 ?_
  rw [used_all h, show (4503599627370495 : Nat) = 2 ^ 52 - 1 from by decide, Nat.testBit_two_pow_sub_one]
  simpa using hc
theorem owner_of {D : Nat → Nat} (h : rightB D = true) {c j : Nat} (hj : j < 4) (h1 : (D j).testBit c = true) : owner D c = j := by
  have hn : ∀ k, k < j → (D k).testBit c = false := fun k hk => by
    rcases hb : (D k).testBit c with _ | _
    · rfl
    · have := right_apart h hk hj hb
      rw [h1] at this
      cases this
  unfold owner
  rcases (by omega : j = 0 ∨ j = 1 ∨ j = 2 ∨ j = 3) with rfl | rfl | rfl | rfl
  · rw [h1]; rfl
  · rw [hn 0 (by omega), h1]; rfl
  · rw [hn 0 (by omega), hn 1 (by omega), h1]; rfl
  · rw [hn 0 (by omega), hn 1 (by omega), hn 2 (by omega), h1]; rfl
theorem owner_bit {D : Nat → Nat} (h : rightB D = true) {c s : Nat} (hc : c < 52) (hs : s < 4) : (D s).testBit c = decide (owner D c = s) := by
  obtain ⟨j, hj, hb⟩ := right_some h hc
  have ho := owner_of h hj hb
  by_cases he : s = j
  · subst he
    rw [hb, ho]; simp
  · rw [ho, decide_eq_false (Ne.symm he)]
    rcases hx : (D s).testBit c with _ | _
    · rfl
    · exact absurd ((owner_of h hs hx).symm.trans ho) he
theorem bit_out {D : Nat → Nat} (h : rightB D = true) {c s : Nat} (hc : 52 ≤ c) (hs : s < 4) : (D s).testBit c = false := bit_high (by have := (part_of_right h s hs).1; omega) hc
theorem deal_same {D E : Nat → Nat} (hD : rightB D = true) (hE : rightB E = true) (h : ∀ c, c < 52 → owner D c = owner E c) (s : Nat) (hs : s < 4) : D s = E s := by
  apply Nat.eq_of_testBit_eq
  intro b
  rcases Nat.lt_or_ge b 52 with hb | hb
  · rw [owner_bit hD hb hs, owner_bit hE hb hs, h b hb]
  · rw [bit_out hD hb hs, bit_out hE hb hs]
theorem chg_mem {D E : Nat → Nat} {k c : Nat} : c ∈ chg D E k ↔ c < k ∧ owner D c ≠ owner E c := by simp [chg]
theorem chg_sym (D E : Nat → Nat) (k : Nat) : chg E D k = chg D E k := by
  unfold chg
  congr 1
  funext c
  simp only [ne_comm]
theorem chg_self (D : Nat → Nat) (k : Nat) : chg D D k = [] := by simp [chg]
theorem chg_up (D E : Nat → Nat) (k : Nat) : (chg D E k).Pairwise (· < ·) := List.Pairwise.filter _ List.pairwise_lt_range
theorem chg_none {D E : Nat → Nat} (hD : rightB D = true) (hE : rightB E = true) : chg D E 52 = [] ↔ ∀ s, s < 4 → D s = E s := by
  constructor
  · intro h
    refine deal_same hD hE (fun c hc => ?_)
    rcases Nat.decEq (owner D c) (owner E c) with hn | he
    · have : c ∈ chg D E 52 := chg_mem.2 ⟨hc, hn⟩
      rw [h] at this
      cases this
    · exact he
  · intro h
    apply List.eq_nil_iff_forall_not_mem.2
    intro c hc
    obtain ⟨h1, h2⟩ := chg_mem.1 hc
    refine h2 ?_
    unfold owner
    rw [h 0 (by omega), h 1 (by omega), h 2 (by omega), h 3 (by omega)]
/-- How many of some cards a seat has. -/
def own (D : Nat → Nat) (P : List Nat) (s : Nat) : Nat := P.countP (fun c => decide (owner D c = s))
theorem own_put (D : Nat → Nat) (P : List Nat) (c s : Nat) : own D (P ++ [c]) s = own D P s + if owner D c = s then 1 else 0 := by
  unfold own
  rw [List.countP_append, List.countP_singleton]
  by_cases h : owner D c = s <;> simp [h]
theorem own_le (D : Nat → Nat) (P : List Nat) (s : Nat) : own D P s ≤ P.length := List.countP_le_length
theorem own_all {D : Nat → Nat} (h : rightB D = true) (s : Nat) (hs : s < 4) : own D (List.range 52) s = 13 := by
  have h1 := filter_pc (D s) 0 52
  have h2 : (List.range 52).filter (fun r => (D s).testBit (0 + r)) = (List.range 52).filter (fun c => decide (owner D c = s)) := by
    apply List.filter_congr
    intro c hc
    rw [Nat.zero_add, owner_bit h (by simpa using hc) hs]
  rw [h2] at h1
  unfold own
  rw [List.countP_eq_length_filter, h1, Nat.pow_zero, Nat.div_one]
  have h3 := right_ref D
  rw [h] at h3
  simp only [Bool.true_eq, Bool.and_eq_true, decide_eq_true_eq] at h3
  rcases (by omega : s = 0 ∨ s = 1 ∨ s = 2 ∨ s = 3) with rfl | rfl | rfl | rfl
  · exact h3.1.1.1.2
  · exact h3.1.1.2
  · exact h3.1.2
  · exact h3.2
theorem countP_split {p q : Nat → Bool} : ∀ l : List Nat, l.countP p = (l.filter q).countP p + (l.filter (fun c => !q c)).countP p
  | [] => rfl
  | c :: l => by
    have ih := countP_split (p := p) (q := q) l
    rcases hq : q c with _ | _
    · rw [List.filter_cons_of_neg (by simp [hq]), List.filter_cons_of_pos (by simp [hq]), List.countP_cons, List.countP_cons, ih]; omega
    · rw [List.filter_cons_of_pos (by simp [hq]), List.filter_cons_of_neg (by simp [hq]), List.countP_cons, List.countP_cons, ih]; omega
theorem own_even {D E : Nat → Nat} (hD : rightB D = true) (hE : rightB E = true) (s : Nat) (hs : s < 4) : own E (chg D E 52) s = own D (chg D E 52) s := by
  have h1 := own_all hD s hs
  have h2 := own_all hE s hs
  unfold own at h1 h2 ⊢
  rw [countP_split (q := fun c => decide (owner D c ≠ owner E c))] at h1 h2
  have h3 : ((List.range 52).filter (fun c => !decide (owner D c ≠ owner E c))).countP (fun c => decide (owner E c = s)) = ((List.range 52).filter (fun c => !decide (owner D c ≠ owner E c))).countP (fun c => decide (owner D c = s)) := by
    apply List.countP_congr
    intro c hc
    have := (List.mem_filter.1 hc).2
    simp at this
    rw [this]
  rw [h3] at h2
  unfold chg
  omega
theorem snoc_ind {α : Type} {p : List α → Prop} (h0 : p []) (h1 : ∀ (P : List α) (c : α), p P → p (P ++ [c])) : ∀ l, p l := fun l => by
  have h : ∀ m : List α, p m.reverse := fun m => by
    induction m with
    | nil => exact h0
    | cons c m ih => rw [List.reverse_cons]; exact h1 _ c ih
  have := h l.reverse
  rwa [List.reverse_reverse] at this
/-- A card taken out of a set. -/
def clr (m c : Nat) : Nat := m &&& (18446744073709551615 - 2 ^ c)
theorem clr_bit {m c b : Nat} (hm : m < 18446744073709551616) (hc : c < 52) : (clr m c).testBit b = (m.testBit b && decide (b ≠ c)) := by
  unfold clr
  have hp : 2 ^ c < 2 ^ 64 := Nat.pow_lt_pow_right (by omega) (by omega)
  have e : 18446744073709551615 - 2 ^ c = 2 ^ 64 - (2 ^ c + 1) := by omega
  rw [Nat.testBit_and, e, Nat.testBit_two_pow_sub_succ hp, Nat.testBit_two_pow]
  rcases Nat.lt_or_ge b 64 with hb | hb
  · rw [decide_eq_true hb, Bool.true_and]
    by_cases h : c = b
    · subst h; simp
    · rw [decide_eq_false h, decide_eq_true (Ne.symm h)]; rfl
  · have : m.testBit b = false := Nat.testBit_lt_two_pow (Nat.lt_of_lt_of_le (show m < 2 ^ 64 from hm) (Nat.pow_le_pow_right (by omega) hb))
    rw [this]; rfl
theorem clr_le (m c : Nat) : clr m c ≤ m := Nat.and_le_left
/-- The deal after a change. -/
def zSt (D E : Nat → Nat) (Z : Nat → Nat) (c s : Nat) : Nat := if s = owner E c then Z s ||| 2 ^ c else if s = owner D c then clr (Z s) c else Z s
def zTo (D E : Nat → Nat) (P : List Nat) : Nat → Nat := P.foldl (zSt D E) D
theorem zTo_0 (D E : Nat → Nat) : zTo D E [] = D := rfl
theorem zTo_put (D E : Nat → Nat) (P : List Nat) (c : Nat) : zTo D E (P ++ [c]) = zSt D E (zTo D E P) c := by simp [zTo, List.foldl_append]
theorem zTo_lt {D E : Nat → Nat} (hD : rightB D = true) : ∀ (P : List Nat), (∀ c ∈ P, c < 52) → ∀ s, s < 4 → zTo D E P s < 4503599627370496 := by
  refine snoc_ind ?_ ?_
  · intro _ s hs; rw [zTo_0]; have := (part_of_right hD s hs).1; omega
  · intro P c ih h s hs
    have ih' := ih (fun c hc => h c (List.mem_append_left _ hc)) s hs
    have hc := h c (List.mem_append_right _ (List.mem_singleton.2 rfl))
    rw [zTo_put]
    unfold zSt
    split
    · exact Nat.or_lt_two_pow (n := 52) ih' (Nat.pow_lt_pow_right (by omega) hc)
    · split
      · exact Nat.lt_of_le_of_lt (clr_le _ _) ih'
      · exact ih'
theorem zTo_bit {D E : Nat → Nat} (hD : rightB D = true) : ∀ (P : List Nat), (∀ c ∈ P, c < 52 ∧ owner D c ≠ owner E c) → ∀ s, s < 4 → ∀ b, (zTo D E P s).testBit b = if b ∈ P then decide (owner E b = s) else (D s).testBit b := by
  refine snoc_ind ?_ ?_
  · intro _ s _ b; rw [zTo_0, if_neg (by simp)]
  · intro P c ih h s hs b
    have hP : ∀ c ∈ P, c < 52 ∧ owner D c ≠ owner E c := fun c hc => h c (List.mem_append_left _ hc)
    have ih' := ih hP s hs b
    obtain ⟨hc, hne⟩ := h c (List.mem_append_right _ (List.mem_singleton.2 rfl))
    have hlt := zTo_lt (E := E) hD P (fun c hc => (hP c hc).1) s hs
    rw [zTo_put]
    by_cases hbc : b = c
    · subst hbc
      rw [if_pos (List.mem_append_right _ (List.mem_singleton.2 rfl))]
      unfold zSt
      by_cases h1 : s = owner E b
      · rw [if_pos h1, Nat.testBit_or, Nat.testBit_two_pow_self, Bool.or_true, h1]
        simp
      · rw [if_neg h1, decide_eq_false (Ne.symm h1)]
        by_cases h2 : s = owner D b
        · rw [if_pos h2, clr_bit (by omega) hc]
          simp
        · rw [if_neg h2, ih']
          split
          · exact decide_eq_false (Ne.symm h1)
          · rw [owner_bit hD hc hs]
            exact decide_eq_false (Ne.symm h2)
    · have hmem : (b ∈ P ++ [c]) = (b ∈ P) := by
        rw [List.mem_append, List.mem_singleton]
        simp [hbc]
      simp only [hmem]
      rw [← ih']
      unfold zSt
      split
      · rw [Nat.testBit_or, Nat.testBit_two_pow, decide_eq_false (Ne.symm hbc), Bool.or_false]
      · split
        · rw [clr_bit (by omega) hc, decide_eq_true hbc, Bool.and_true]
        · rfl
theorem zTo_all {D E : Nat → Nat} (hD : rightB D = true) (hE : rightB E = true) (s : Nat) (hs : s < 4) : zTo D E (chg D E 52) s = E s := by
  apply Nat.eq_of_testBit_eq
  intro b
  rw [zTo_bit hD _ (fun c hc => chg_mem.1 hc) s hs b]
  by_cases hm : b ∈ chg D E 52
  · rw [if_pos hm, owner_bit hE (chg_mem.1 hm).1 hs]
  · rw [if_neg hm]
    rcases Nat.lt_or_ge b 52 with hb | hb
    · rw [owner_bit hD hb hs, owner_bit hE hb hs]
      have : owner D b = owner E b := by
        rcases Nat.decEq (owner D b) (owner E b) with hn | he
        · exact absurd (chg_mem.2 ⟨hb, hn⟩) hm
        · exact he
      rw [this]
    · rw [bit_out hD hb hs, bit_out hE hb hs]
end Pl
end Go.Proofs.YtaadipccgckehaaDoor
namespace Go.Proofs.YtaadipccgckehaaDoor
open Go Go.RowKit Pl

/-- What Made returns, as four numbers. -/
def MadeF (w : World) (e : Ending) (w' : World) : Prop := (∃ x : Four, rightB (ofF x) = true ∧ F64 x ∧ e = .returned (.agg #[.int .u64 (ofF x 0 : Nat), .int .u64 (ofF x 1 : Nat), .int .u64 (ofF x 2 : Nat), .int .u64 (ofF x 3 : Nat)])) ∧ Below w.heap.size w w'
theorem made_four {w : World} {v : Value} {l : List Nat} (h : BV w v l) (h8 : ∀ x ∈ l, x < 256) : Calls Tryd.prog 19 #[v] w (MadeF w) := by
  refine (made_any h h8).mono ?_
  rintro e w' ⟨⟨D, h1, h2, rfl⟩, hb⟩
  have hs : ∀ k, k < 4 → D k = ofF (toF D) k := fun k hk => by
    rcases (by omega : k = 0 ∨ k = 1 ∨ k = 2 ∨ k = 3) with rfl | rfl | rfl | rfl <;> rfl
  exact ⟨⟨toF D, by rw [← right_same hs]; exact h1, fun k hk => by rw [← hs k hk]; have := h2 k hk; omega, rfl⟩, hb⟩
/-- What '==' says of two equal arrays of four counts. -/
theorem eqI (x0 x1 x2 x3 : Nat) (w : World) : (Op.equalIn 10000 40 (.agg #[.int .i64 (x0 : Nat), .int .i64 (x1 : Nat), .int .i64 (x2 : Nat), .int .i64 (x3 : Nat)]) (.agg #[.int .i64 (x0 : Nat), .int .i64 (x1 : Nat), .int .i64 (x2 : Nat), .int .i64 (x3 : Nat)])).run Tryd.prog w = .ok true w := by
  have hu : Tryd.prog.underlying 40 = some (.array 4 3) := by kernel_rfl
  have he : Tryd.prog.underlying 3 = some (.int .i64) := by kernel_rfl
  have hz : (sizeOf 3).run Tryd.prog w = .ok 1 w := by kernel_rfl
  have hp : ∀ (a b c d : Value) , (part 3 #[a, b, c, d] 0).run Tryd.prog w = .ok a w ∧ (part 3 #[a, b, c, d] 1).run Tryd.prog w = .ok b w ∧ (part 3 #[a, b, c, d] 2).run Tryd.prog w = .ok c w ∧ (part 3 #[a, b, c, d] 3).run Tryd.prog w = .ok d w := fun a b c d => ⟨by kernel_rfl, by kernel_rfl, by kernel_rfl, by kernel_rfl⟩
  have e : ∀ a b : Int, (Op.equalIn 9999 3 (.int .i64 a) (.int .i64 b)).run Tryd.prog w = .ok (a == b) w := fun a b => run_equalIn_int w 9998 _ _ _ a b he
  rw [Op.equalIn]
  simp only [Sem.run_bind, run_underlying hu, Result.andThen_ok, hz, Std.Legacy.Range.forIn_eq_forIn_range', Std.Legacy.Range.size, List.range', List.forIn_cons, List.forIn_nil, (hp _ _ _ _).1, e, Sem.run_ite]
  simp [Sem.run_bind, Result.andThen_ok, (hp _ _ _ _).2.1, (hp _ _ _ _).2.2.1, (hp _ _ _ _).2.2.2, e]
theorem drew_one (W : World) : W.drewN 1 = W.drew := rfl
/-- Counts as the cells of an array. -/
def iC (F : Nat → Nat) (P : List Nat) : Array Value := #[.int .i64 (own F P 0 : Nat), .int .i64 (own F P 1 : Nat), .int .i64 (own F P 2 : Nat), .int .i64 (own F P 3 : Nat)]
theorem iC_get (F : Nat → Nat) (P : List Nat) (s : Nat) (hs : s < 4) : (iC F P)[s]? = some (.int .i64 (own F P s : Nat)) := by
  rcases (by omega : s = 0 ∨ s = 1 ∨ s = 2 ∨ s = 3) with rfl | rfl | rfl | rfl <;> rfl
theorem iC_set (F : Nat → Nat) (P : List Nat) (c f n : Nat) (hf : owner F c = f) (hn : own F P f = n) : (iC F P).setIfInBounds f (.int .i64 ((n + 1 : Nat) : Int)) = iC F (P ++ [c]) := by
  subst hf hn
  have hlt := owner_lt F c
  unfold iC
  simp only [own_put]
  rcases (by omega : owner F c = 0 ∨ owner F c = 1 ∨ owner F c = 2 ∨ owner F c = 3) with e | e | e | e <;> rw [e] <;> simp
theorem zC_set (D E Z : Nat → Nat) (c f t : Nat) (hf : owner D c = f) (ht : owner E c = t) (hne : f ≠ t) : ((dC Z).setIfInBounds f (.int .u64 (clr (Z f) c : Nat))).setIfInBounds t (.int .u64 (Z t ||| 2 ^ c : Nat)) = dC (zSt D E Z c) := by
  have h1 := owner_lt D c
  have h2 := owner_lt E c
  subst hf ht
  unfold dC
  rcases (by omega : owner D c = 0 ∨ owner D c = 1 ∨ owner D c = 2 ∨ owner D c = 3) with e | e | e | e <;> rcases (by omega : owner E c = 0 ∨ owner E c = 1 ∨ owner E c = 2 ∨ owner E c = 3) with e' | e' | e' | e' <;>
    first | (exfalso; omega) | (simp [zSt, e, e'])
/-- What the loop over the changes keeps: who comes, who leaves, and the deal under way. -/
structure CW (w6 : World) (q : Nat) (x y : Four) (l : List Nat) (i : Nat) (W : World) : Prop where
  below : Below q w6 W
  come : Blk W q 40 (iC (ofF y) (l.take i))
  leave : Blk W (q + 1) 40 (iC (ofF x) (l.take i))
  z : Blk W (q + 2) 35 (dC (zTo (ofF x) (ofF y) (l.take i)))
theorem cw_new {x y : Four} {l : List Nat} (w6 : World) : CW w6 w6.heap.size x y l 0 (((w6.alloc (.cells #[.int .i64 0, .int .i64 0, .int .i64 0, .int .i64 0] 40)).alloc (.cells #[.int .i64 0, .int .i64 0, .int .i64 0, .int .i64 0] 40)).alloc (.cells #[.int .u64 (ofF x 0 : Nat), .int .u64 (ofF x 1 : Nat), .int .u64 (ofF x 2 : Nat), .int .u64 (ofF x 3 : Nat)] 35)) := by
  have e : ∀ F, iC F (l.take 0) = #[.int .i64 0, .int .i64 0, .int .i64 0, .int .i64 0] := fun F => rfl
  refine ⟨((Below.refl _ w6).alloc (Nat.le_refl _) _ |>.alloc (by simp) _).alloc (by simp; omega) _, ?_, ?_, ?_⟩
  · rw [e]; exact ((Blk.new w6 _ _).alloc _).alloc _
  · rw [e]
    have h := (Blk.new (w6.alloc (.cells #[.int .i64 0, .int .i64 0, .int .i64 0, .int .i64 0] 40)) 40 #[.int .i64 0, .int .i64 0, .int .i64 0, .int .i64 0]).alloc (.cells #[.int .u64 (ofF x 0 : Nat), .int .u64 (ofF x 1 : Nat), .int .u64 (ofF x 2 : Nat), .int .u64 (ofF x 3 : Nat)] 35)
    rwa [size_al] at h
  · have h := Blk.new ((w6.alloc (.cells #[.int .i64 0, .int .i64 0, .int .i64 0, .int .i64 0] 40)).alloc (.cells #[.int .i64 0, .int .i64 0, .int .i64 0, .int .i64 0] 40)) 35 #[.int .u64 (ofF x 0 : Nat), .int .u64 (ofF x 1 : Nat), .int .u64 (ofF x 2 : Nat), .int .u64 (ofF x 3 : Nat)]
    rw [size_al, size_al] at h
    exact h
theorem cw_next {w6 : World} {q i cc : Nat} {x y : Four} {l : List Nat} (hs : l.take (i + 1) = l.take i ++ [cc]) (hne : owner (ofF x) cc ≠ owner (ofF y) cc) (W : World) (hb : Below q w6 W)
    (h1 : Blk W q 40 ((iC (ofF y) (l.take i)).setIfInBounds (owner (ofF y) cc) (.int .i64 ((own (ofF y) (l.take i) (owner (ofF y) cc) + 1 : Nat) : Int))))
    (h2 : Blk W (q + 1) 40 ((iC (ofF x) (l.take i)).setIfInBounds (owner (ofF x) cc) (.int .i64 ((own (ofF x) (l.take i) (owner (ofF x) cc) + 1 : Nat) : Int))))
    (h3 : Blk W (q + 2) 35 (((dC (zTo (ofF x) (ofF y) (l.take i))).setIfInBounds (owner (ofF x) cc) (.int .u64 (clr (zTo (ofF x) (ofF y) (l.take i) (owner (ofF x) cc)) cc : Nat))).setIfInBounds (owner (ofF y) cc) (.int .u64 (zTo (ofF x) (ofF y) (l.take i) (owner (ofF y) cc) ||| 2 ^ cc : Nat)))) :
    CW w6 q x y l (i + 1) W := by
  rw [iC_set _ _ cc _ _ rfl rfl] at h1 h2
  rw [zC_set _ _ _ _ _ _ rfl rfl hne, ← zTo_put] at h3
  rw [← hs] at h1 h2 h3
  exact ⟨hb, h1, h2, h3⟩
set_option maxRecDepth 100000 in
set_option maxHeartbeats 4000000 in
theorem changes_walk (v0 v1 : Value) (l0 l1 : List Nat) (w : World) (he : Env w) (h0 : BV w v0 l0) (h08 : ∀ x ∈ l0, x < 256) (h1 : BV w v1 l1) (h18 : ∀ x ∈ l1, x < 256) : Calls Tryd.prog 6 #[v0, v1] w (fun e w' => e = .returned (.bool true) ∧ Below w.heap.size w w') := by
  have M0 := Lib.hid (made_four h0 h08)
  have M1 := Lib.hid (fun w1 (hb : Below w.heap.size w w1) => made_four (h1.keep hb) h18)
  have HE := Lib.hid he
  obtain ⟨A0, c0, rfl, _⟩ := h0.len
  obtain ⟨A1, c1, rfl, _⟩ := h1.len
  clear h0 h1 h08 h18 he
  generalize l0.length = n0 at *
  generalize l1.length = n1 at *
  go_enter Tryd.func6, Tryd.ntmps6
  go_wp2_with fail
  refine M0.out.mono ?_
  rintro e w1 ⟨⟨x, hx, hx64, rfl⟩, hb⟩
  have HB1 := Lib.hid hb
  have HX := Lib.hid (And.intro hx hx64)
  clear hx hx64 M0
  go_wp2_with fail
  refine (M1.out w1 HB1.out).mono ?_
  rintro e w2 ⟨⟨y, hy, hy64, rfl⟩, hb⟩
  have HB2 := Lib.hid (bchain HB1.out hb)
  have HY := Lib.hid (And.intro hy hy64)
  clear hy hy64 hb M1 HB1
  go_upto_region 2 with fail
  have BX := Lib.hid (boxes (w := w2) (D := ofF x) (E := ofF y) 35)
  rw [show dC (ofF x) = #[.int .u64 (ofF x 0 : Nat), .int .u64 (ofF x 1 : Nat), .int .u64 (ofF x 2 : Nat), .int .u64 (ofF x 3 : Nat)] from rfl, show dC (ofF y) = #[.int .u64 (ofF y 0 : Nat), .int .u64 (ofF y 1 : Nat), .int .u64 (ofF y 2 : Nat), .int .u64 (ofF y 3 : Nat)] from rfl] at BX
  generalize (w2.alloc (.cells #[.int .u64 (ofF x 0 : Nat), .int .u64 (ofF x 1 : Nat), .int .u64 (ofF x 2 : Nat), .int .u64 (ofF x 3 : Nat)] 35)).alloc (.cells #[.int .u64 (ofF y 0 : Nat), .int .u64 (ofF y 1 : Nat), .int .u64 (ofF y 2 : Nat), .int .u64 (ofF y 3 : Nat)] 35) = W3 at *
  obtain ⟨ba, bb, bw⟩ := BX.out
  have BA := Lib.hid ba
  have BB := Lib.hid bb
  have BW := Lib.hid (bchain HB2.out bw)
  have HP5 : Hid (w.heap.size ≤ w2.heap.size) := Lib.hid HB2.out.size
  clear ba bb bw BX HB2
  generalize w2.heap.size = p5 at *
  have C1 := Lib.hid (fun W => changes_any (ofF x) (ofF y) HX.out.2 HY.out.2 W)
  have C2 := Lib.hid (fun W => changes_any (ofF y) (ofF x) HY.out.2 HX.out.2 W)
  have C3 := Lib.hid (fun W => changes_any (ofF x) (ofF x) HX.out.2 HX.out.2 W)
  have BR : Hid (∀ a b, rightB a = true → rightB b = true → bothR a b = true) := Lib.hid (fun a b h1 h2 => by unfold bothR; rw [h1, h2]; rfl)
  have a0 := BA.out.cell (j := 0) rfl
  have a1 := BA.out.cell (j := 1) rfl
  have a2 := BA.out.cell (j := 2) rfl
  have a3 := BA.out.cell (j := 3) rfl
  have b0 := BB.out.cell (j := 0) rfl
  have b1 := BB.out.cell (j := 1) rfl
  have b2 := BB.out.cell (j := 2) rfl
  have b3 := BB.out.cell (j := 3) rfl
  go_wp2_with fail
  refine (C1.out _).mono ?_
  rintro e w4 hr
  obtain ⟨hb, hc⟩ := chg_parts hr
  rcases hc with ⟨hB, _⟩ | ⟨_, A, c, rfl, hs⟩
  · rw [BR.out _ _ HX.out.1 HY.out.1] at hB; cases hB
  obtain ⟨l, hl⟩ : ∃ l, chg (ofF x) (ofF y) 52 = l := ⟨_, rfl⟩
  have HL := Lib.hid hl
  rw [hl] at hs ⊢
  have HS1 := Lib.hid hs
  have BA1 := Lib.hid (BA.out.keep hb BA.out.lt)
  have BB1 := Lib.hid (BB.out.keep hb BB.out.lt)
  have BW1 := Lib.hid (bchain BW.out hb)
  clear hb hr hs hl BA BB BW a0 a1 a2 a3 b0 b1 b2 b3 C1
  have a0 := BA1.out.cell (j := 0) rfl
  have a1 := BA1.out.cell (j := 1) rfl
  have a2 := BA1.out.cell (j := 2) rfl
  have a3 := BA1.out.cell (j := 3) rfl
  have b0 := BB1.out.cell (j := 0) rfl
  have b1 := BB1.out.cell (j := 1) rfl
  have b2 := BB1.out.cell (j := 2) rfl
  have b3 := BB1.out.cell (j := 3) rfl
  go_wp2_with fail
  refine (C2.out _).mono ?_
  rintro e w5 hr
  obtain ⟨hb, hc⟩ := chg_parts hr
  rcases hc with ⟨hB, _⟩ | ⟨_, A2, c2, rfl, hs⟩
  · rw [BR.out _ _ HY.out.1 HX.out.1] at hB; cases hB
  rw [chg_sym, HL.out] at hs ⊢
  have HS2 := Lib.hid (HS1.out.keep hb)
  have HT2 := Lib.hid hs
  have BA2 := Lib.hid (BA1.out.keep hb BA1.out.lt)
  have BB2 := Lib.hid (BB1.out.keep hb BB1.out.lt)
  have BW2 := Lib.hid (bchain BW1.out hb)
  clear hb hr hs BA1 BB1 BW1 HS1 a0 a1 a2 a3 b0 b1 b2 b3 C2
  have a0 := BA2.out.cell (j := 0) rfl
  have a1 := BA2.out.cell (j := 1) rfl
  have a2 := BA2.out.cell (j := 2) rfl
  have a3 := BA2.out.cell (j := 3) rfl
  go_wp2_with fail
  refine (C3.out _).mono ?_
  rintro e w6 hr
  obtain ⟨hb, hc⟩ := chg_parts hr
  rcases hc with ⟨hB, _⟩ | ⟨_, A3, c3, rfl, _⟩
  · rw [BR.out _ _ HX.out.1 HX.out.1] at hB; cases hB
  rw [chg_self]
  have HS3 := Lib.hid (HS2.out.keep hb)
  have HT3 := Lib.hid (HT2.out.keep hb)
  have BA3 := Lib.hid (BA2.out.keep hb BA2.out.lt)
  have BB3 := Lib.hid (BB2.out.keep hb BB2.out.lt)
  have BW3 := Lib.hid (bchain BW2.out hb)
  clear hb hr BA2 BB2 BW2 HS2 HT2 a0 a1 a2 a3 C3 BR
  obtain ⟨M, hM⟩ : ∃ M, l.length = M := ⟨_, rfl⟩
  have HM := Lib.hid hM
  have hM52 : M ≤ 52 := by have := chg_len (ofF x) (ofF y) 52; rw [HL.out] at this; omega
  obtain ⟨bq, hbq⟩ : ∃ bq, decide (x = y) = bq := ⟨_, rfl⟩
  have tM : ((M : Int) == 0) = bq := by
    rw [← hbq, Bool.eq_iff_iff, beq_iff_eq, decide_eq_true_eq]
    have h1 := chg_none HX.out.1 HY.out.1
    rw [HL.out] at h1
    constructor
    · intro h
      have h2 := h1.1 (List.length_eq_zero_iff.1 (by omega))
      exact four_ext ⟨h2 0 (by omega), h2 1 (by omega), h2 2 (by omega), h2 3 (by omega)⟩
    · intro h
      have h2 := h1.2 (fun s _ => by rw [h])
      rw [h2] at hM
      simp at hM
      omega
  have EQ := fun W => eqF 35 Tryd.underlying35 x y W
  rw [hbq] at EQ
  rw [hM]
  clear hM hbq
  have a0 := BA3.out.cell (j := 0) rfl
  have a1 := BA3.out.cell (j := 1) rfl
  have a2 := BA3.out.cell (j := 2) rfl
  have a3 := BA3.out.cell (j := 3) rfl
  have b0 := BB3.out.cell (j := 0) rfl
  have b1 := BB3.out.cell (j := 1) rfl
  have b2 := BB3.out.cell (j := 2) rfl
  have b3 := BB3.out.cell (j := 3) rfl
  go_upto_region 8 with fail
  have HC := Lib.hid (cw_new (x := x) (y := y) (l := l) w6)
  have BQ := Lib.hid (And.intro (Nat.le_refl w6.heap.size) BW3.out.size)
  have BA4 := Lib.hid ((BA3.out.alloc (.cells #[.int .i64 0, .int .i64 0, .int .i64 0, .int .i64 0] 40)).alloc (.cells #[.int .i64 0, .int .i64 0, .int .i64 0, .int .i64 0] 40))
  have hs7 : ((w6.alloc (.cells #[.int .i64 0, .int .i64 0, .int .i64 0, .int .i64 0] 40)).alloc (.cells #[.int .i64 0, .int .i64 0, .int .i64 0, .int .i64 0] 40)).heap.size = w6.heap.size + 2 := by simp
  clear a0 a1 a2 a3 b0 b1 b2 b3 tM EQ
  obtain ⟨q, hq⟩ : ∃ q, w6.heap.size = q := ⟨_, rfl⟩
  have HQ := Lib.hid hq
  rw [hq] at HC hs7 ⊢
  clear hq
  have H7 := Lib.hid hs7
  clear hs7
  generalize (w6.alloc (.cells #[.int .i64 0, .int .i64 0, .int .i64 0, .int .i64 0] 40)).alloc (.cells #[.int .i64 0, .int .i64 0, .int .i64 0, .int .i64 0] 40) = W7 at *
  have a0 := BA4.out.cell (j := 0) rfl
  have a1 := BA4.out.cell (j := 1) rfl
  have a2 := BA4.out.cell (j := 2) rfl
  have a3 := BA4.out.cell (j := 3) rfl
  go_upto_region 9 with fail
  rw [H7.out]
  clear a0 a1 a2 a3 BA4 H7
  generalize W7.alloc (.cells #[.int .u64 (ofF x 0 : Nat), .int .u64 (ofF x 1 : Nat), .int .u64 (ofF x 2 : Nat), .int .u64 (ofF x 3 : Nat)] 35) = W8 at *
  go_wp2_with fail
  go_loopw [74] (fun s74 wr => ∃ i : Nat, i ≤ M ∧ s74 = .int .i64 (i : Int) ∧ Hid (CW w6 q x y l i wr)) (fun s74 _ => M - (intOf s74).toNat)
  case atStart => exact ⟨0, by omega, rfl, HC⟩
  case round =>
    clear HC
    obtain ⟨i, hi, rfl, HC⟩ := hrel
    have HK : Hid (Below w6.heap.size w6 wr) := Lib.hid (by rw [HQ.out]; exact HC.out.below)
    by_cases hlt : i < M
    · have u1 : decide ((i : Int) < (M : Int)) = true := decide_eq_true (by omega)
      have u2 : decide (i < M) = true := decide_eq_true hlt
      obtain ⟨cc, hcc⟩ : ∃ cc, l[i]? = some cc := ⟨_, List.getElem?_eq_getElem (by rw [HM.out]; exact hlt)⟩
      have hmem : cc ∈ l := List.mem_of_getElem? hcc
      obtain ⟨hc52, hne⟩ := chg_mem.1 (by rw [HL.out]; exact hmem)
      have hsnoc : l.take (i + 1) = l.take i ++ [cc] := by
        obtain ⟨h1, h2⟩ := List.getElem?_eq_some_iff.1 hcc
        rw [List.take_succ_eq_append_getElem h1, h2]
      obtain ⟨g, rfl, hg, k0, k1, k2⟩ := HS3.out.keep HK.out i cc hcc
      obtain ⟨g2, rfl, hg2, m0, m1, m2⟩ := HT3.out.keep HK.out i cc hcc
      have HNX := Lib.hid (cw_next (w6 := w6) (q := q) (x := x) (y := y) (l := l) (i := i) (cc := cc) hsnoc hne)
      have hlt4 := And.intro (owner_lt (ofF x) cc) (owner_lt (ofF y) cc)
      have hz52 : ∀ s, s < 4 → zTo (ofF x) (ofF y) (l.take i) s < 4503599627370496 := zTo_lt HX.out.1 _ (fun c hc => by
        have : c ∈ l := List.mem_of_mem_take hc
        rw [← HL.out] at this
        exact (chg_mem.1 this).1)
      have hzf := hz52 (owner (ofF x) cc) hlt4.1
      have hzt := hz52 (owner (ofF y) cc) hlt4.2
      have ha := own_le (ofF x) (l.take i) (owner (ofF x) cc)
      have hb := own_le (ofF y) (l.take i) (owner (ofF y) cc)
      rw [List.length_take] at ha hb
      have r0 := iC_get (ofF x) (l.take i) (owner (ofF x) cc) hlt4.1
      have r1 := iC_get (ofF y) (l.take i) (owner (ofF y) cc) hlt4.2
      have r2 := dC_get (zTo (ofF x) (ofF y) (l.take i)) (owner (ofF x) cc) hlt4.1
      have r3 := dC_get (zTo (ofF x) (ofF y) (l.take i)) (owner (ofF y) cc) hlt4.2
      have HPV : Hid (∀ m, i = m + 1 → ∃ pc, l[m]? = some pc ∧ pc < cc) := Lib.hid (fun m hm => by
        obtain ⟨pc, hpc⟩ : ∃ pc, l[m]? = some pc := ⟨_, List.getElem?_eq_getElem (by rw [HM.out]; omega)⟩
        have hp := chg_up (ofF x) (ofF y) 52
        rw [HL.out] at hp
        obtain ⟨h1, h2⟩ := List.getElem?_eq_some_iff.1 hpc
        obtain ⟨h3, h4⟩ := List.getElem?_eq_some_iff.1 hcc
        have := List.pairwise_iff_getElem.1 hp m i h1 h3 (by omega)
        exact ⟨pc, hpc, by rw [h2, h4] at this; exact this⟩)
      obtain ⟨f, hf⟩ : ∃ f, owner (ofF x) cc = f := ⟨_, rfl⟩
      obtain ⟨t, ht⟩ : ∃ t, owner (ofF y) cc = t := ⟨_, rfl⟩
      rw [hf, ht] at HNX hlt4 hne
      rw [hf] at k1 m2 hzf ha r0 r2
      rw [ht] at k2 m1 hzt hb r1 r3
      clear hf ht hz52 hcc hmem hsnoc
      obtain ⟨na, hna⟩ : ∃ na, own (ofF x) (l.take i) f = na := ⟨_, rfl⟩
      obtain ⟨nb, hnb⟩ : ∃ nb, own (ofF y) (l.take i) t = nb := ⟨_, rfl⟩
      obtain ⟨zf, hzf'⟩ : ∃ zf, zTo (ofF x) (ofF y) (l.take i) f = zf := ⟨_, rfl⟩
      obtain ⟨zt, hzt'⟩ : ∃ zt, zTo (ofF x) (ofF y) (l.take i) t = zt := ⟨_, rfl⟩
      rw [hna] at HNX r0 ha
      rw [hnb] at HNX r1 hb
      rw [hzf'] at HNX r2 hzf
      rw [hzt'] at HNX r3 hzt
      clear hna hnb hzf' hzt'
      have HG := Lib.hid (And.intro r0 (And.intro r1 (And.intro r2 r3)))
      clear r0 r1 r2 r3
      go_upto_region 12 with fail
      have hb1 := below1 wr (.cells #[.int .u8 (cc : Nat), .int .u8 (f : Nat), .int .u8 (t : Nat)] 49)
      have HDB := Lib.hid (Blk.new wr 49 #[.int .u8 (cc : Nat), .int .u8 (f : Nat), .int .u8 (t : Nat)])
      have HCO := Lib.hid (HC.out.come.keep hb1 HC.out.come.lt)
      have HLE := Lib.hid (HC.out.leave.keep hb1 HC.out.leave.lt)
      have HZB := Lib.hid (HC.out.z.keep hb1 HC.out.z.lt)
      have hszr : q + 2 < wr.heap.size := HC.out.z.lt
      have HBL := Lib.hid (HC.out.below.trans (hb1.mono (by omega)))
      have HKA := Lib.hid (HK.out.trans (hb1.mono HK.out.size))
      have n0 := cell_keep m0 hb1
      have n1 := cell_keep m1 hb1
      have n2 := cell_keep m2 hb1
      clear k0 k1 k2 m0 m1 m2 hb1 HC HK
      generalize wr.alloc (.cells #[.int .u8 (cc : Nat), .int .u8 (f : Nat), .int .u8 (t : Nat)] 49) = wa at *
      generalize wr.heap.size = db at *
      have d0 := HDB.out.cell (j := 0) (v := .int .u8 (cc : Nat)) rfl
      have d1 := HDB.out.cell (j := 1) (v := .int .u8 (f : Nat)) rfl
      have d2 := HDB.out.cell (j := 2) (v := .int .u8 (t : Nat)) rfl
      have e1 : (((f : Nat) : Int) == ((t : Nat) : Int)) = false := beq_eq_false_iff_ne.2 (by omega)
      have e1b : (f == t) = false := beq_eq_false_iff_ne.2 (by omega)
      have e2b : decide (3 < f) = false := decide_eq_false (by omega)
      have e3b : decide (3 < t) = false := decide_eq_false (by omega)
      have e2 : decide (3 < ((f : Nat) : Int)) = false := decide_eq_false (by omega)
      have e3 : decide (3 < ((t : Nat) : Int)) = false := decide_eq_false (by omega)
      have HF := Lib.hid (And.intro hlt4 (And.intro hne (And.intro hzf (And.intro hzt (And.intro ha (And.intro hb (And.intro hc52 (And.intro hszr (And.intro hM52 hlt)))))))))
      have hiM : (i : Int) < (M : Int) := by omega
      have hi0M : i < M ∧ i < 1000000 := ⟨hlt, by omega⟩
      have HI := Lib.hid hi0M
      clear hlt4 hne hzf hzt ha hb hc52 hszr u2 hlt hi hM52 hg hg2 hi0M
      rcases (show i = 0 ∨ ∃ m, i = m + 1 by rcases i with _ | m; exact .inl rfl; exact .inr ⟨m, rfl⟩) with hi0 | ⟨m, hm⟩
      have e4 : decide (0 < (i : Int)) = false := decide_eq_false (by omega)
      have e4b : decide (0 < i) = false := decide_eq_false (by omega)
      clear hi0
      go_quiet (fail)
      clear e4 e4b
      rotate_left
      obtain ⟨pc, hpc, hpl⟩ := HPV.out m hm
      obtain ⟨g', eg, hg', k0, _, _⟩ := HS3.out.keep HKA.out m pc hpc
      have eg2 := Option.some.inj eg
      cases eg2
      have e4 : decide (0 < (i : Int)) = true := decide_eq_true (by omega)
      have e4b : decide (0 < i) = true := decide_eq_true (by omega)
      have e6b : decide (cc ≤ pc) = false := decide_eq_false (by omega)
      have e5 : IntKind.i64.wrap ((i : Int) - 1) = (m : Int) := by rw [show ((m : Int)) = (i : Int) - 1 by omega]; exact IntWalk.i64_in _ (by have := HI.out; omega)
      have e6 : decide ((cc : Int) ≤ (pc : Int)) = false := decide_eq_false (by omega)
      have e7 : (m : Int) < (M : Int) := by have := HI.out; omega
      have e8 : decide ((m : Int) < (M : Int)) = true := decide_eq_true e7
      clear hm eg hg' hpc
      go_quiet (fail)
      clear e4 e4b e5 e6 e6b e7 e8 hpl k0
      all_goals
        obtain ⟨⟨f4, t4⟩, hne, hzf, hzt, ha, hb, hc52, hszr, hM52, hlt⟩ := HF.out
        have HDB1 := Lib.hid (HDB.out.drewN nq)
        have HCO1 := Lib.hid (HCO.out.drewN nq)
        have HLE1 := Lib.hid (HLE.out.drewN nq)
        have HZB1 := Lib.hid (HZB.out.drewN nq)
        have HBL1 := Lib.hid (below_drewN HBL.out nq)
        clear n0 n1 n2 d0 d1 d2 HDB HCO HLE HZB HBL HKA e1 e1b e2 e2b e3 e3b HF
        generalize wa.drewN nq = wn at *
        have d0 := HDB1.out.cell (j := 0) (v := .int .u8 (cc : Nat)) rfl
        have d1 := HDB1.out.cell (j := 1) (v := .int .u8 (f : Nat)) rfl
        have d2 := HDB1.out.cell (j := 2) (v := .int .u8 (t : Nat)) rfl
        have r0 := HLE1.out.cell HG.out.1
        have r1 := HCO1.out.cell HG.out.2.1
        have g0 := HLE1.out.free f
        have g1 := HCO1.out.free t
        have x1 : IntKind.i64.wrap ((na : Int) + 1) = ((na + 1 : Nat) : Int) := by rw [show (((na + 1 : Nat) : Int)) = (na : Int) + 1 by omega]; exact IntWalk.i64_in _ (by omega)
        have x2 : IntKind.i64.wrap ((nb : Int) + 1) = ((nb + 1 : Nat) : Int) := by rw [show (((nb + 1 : Nat) : Int)) = (nb : Int) + 1 by omega]; exact IntWalk.i64_in _ (by omega)
        have f4i : (f : Int) < 4 := by omega
        have t4i : (t : Int) < 4 := by omega
        have h01 : db ≠ q + 1 := by omega
        have h02 : db ≠ q := by omega
        have h03 : db ≠ q + 2 := by omega
        have HF := Lib.hid (And.intro (And.intro f4 t4) (And.intro hne (And.intro hzf (And.intro hzt (And.intro hc52 (And.intro hszr (And.intro hM52 hlt)))))))
        clear f4 t4 hne hzf hzt ha hb hc52 hszr hM52 hlt
        go_upto_region 16 with fail
        have HLE2 := Lib.hid ((HLE1.out.set f (.int .i64 ((na : Int) + 1))).other (b' := q) (by omega) t (.int .i64 ((nb : Int) + 1)))
        have HCO2 := Lib.hid ((HCO1.out.other (b' := q + 1) (by omega) f (.int .i64 ((na : Int) + 1))).set t (.int .i64 ((nb : Int) + 1)))
        have HZB2 := Lib.hid ((HZB1.out.other (b' := q + 1) (by omega) f (.int .i64 ((na : Int) + 1))).other (b' := q) (by omega) t (.int .i64 ((nb : Int) + 1)))
        have HDB2 := Lib.hid ((HDB1.out.other h01 f (.int .i64 ((na : Int) + 1))).other h02 t (.int .i64 ((nb : Int) + 1)))
        have HBL2 := Lib.hid ((HBL1.out.setCell (p := ⟨q + 1, f, none⟩) (by show q ≤ q + 1; omega) (.int .i64 ((na : Int) + 1))).setCell (p := ⟨q, t, none⟩) (Nat.le_refl _) (.int .i64 ((nb : Int) + 1)))
        clear d0 d1 d2 r0 r1 g0 g1 x1 x2 HLE1 HCO1 HZB1 HDB1 HBL1
        generalize (wn.setCell ⟨q + 1, f, none⟩ (.int .i64 ((na : Int) + 1))).setCell ⟨q, t, none⟩ (.int .i64 ((nb : Int) + 1)) = wm at *
        have d0 := HDB2.out.cell (j := 0) (v := .int .u8 (cc : Nat)) rfl
        have d1 := HDB2.out.cell (j := 1) (v := .int .u8 (f : Nat)) rfl
        have d2 := HDB2.out.cell (j := 2) (v := .int .u8 (t : Nat)) rfl
        have r2 := HZB2.out.cell HG.out.2.2.1
        have g2' := HZB2.out.free f
        have p64 := two64 cc HF.out.2.2.2.2.1
        have pmin : min cc 64 = cc := by have := HF.out.2.2.2.2.1; omega
        have o1 : bits BinOp.andNot IntKind.u64 (zf : Int) ((2 : Int) ^ cc) = ((clr zf cc : Nat) : Int) := by
          have h1 := HF.out.2.2.1
          have h2 : 2 ^ cc < 2 ^ 52 := Nat.pow_lt_pow_right (by omega) HF.out.2.2.2.2.1
          rw [show (2 : Int) ^ cc = ((2 ^ cc : Nat) : Int) by simp, u64_andNot_nat _ _ (by omega) (by omega)]
          rfl
        go_region
        have HZB3 := Lib.hid ((HZB2.out.set f (.int .u64 (clr zf cc : Nat))).drewN 1)
        have HLE3 := Lib.hid ((HLE2.out.other (b' := q + 2) (by omega) f (.int .u64 (clr zf cc : Nat))).drewN 1)
        have HCO3 := Lib.hid ((HCO2.out.other (b' := q + 2) (by omega) f (.int .u64 (clr zf cc : Nat))).drewN 1)
        have HDB3 := Lib.hid ((HDB2.out.other h03 f (.int .u64 (clr zf cc : Nat))).drewN 1)
        have HBL3 := Lib.hid (below_drewN (HBL2.out.setCell (p := ⟨q + 2, f, none⟩) (by show q ≤ q + 2; omega) (.int .u64 (clr zf cc : Nat))) 1)
        clear d0 d1 d2 r2 g2' o1 HZB2 HLE2 HCO2 HDB2 HBL2
        rw [drew_one] at HZB3 HLE3 HCO3 HDB3 HBL3
        generalize (wm.setCell ⟨q + 2, f, none⟩ (.int .u64 (clr zf cc : Nat))).drew = wp at *
        have d0 := HDB3.out.cell (j := 0) (v := .int .u8 (cc : Nat)) rfl
        have d2 := HDB3.out.cell (j := 2) (v := .int .u8 (t : Nat)) rfl
        have r3 : wp.cell? ⟨q + 2, t, none⟩ = some (.int .u64 (zt : Nat)) := HZB3.out.cell (by rw [Array.getElem?_setIfInBounds_ne HF.out.2.1]; exact HG.out.2.2.2)
        have g3 := HZB3.out.free t
        have o2 := or_card zt cc (by have := HF.out.2.2.2.1; omega) HF.out.2.2.2.2.1
        go_upto_region 17 with fail
        go_region
        have N1 : Hid (CW w6 q x y l (i + 1) ((wp.setCell ⟨q + 2, t, none⟩ (.int .u64 (zt ||| 2 ^ cc : Nat))).drewN 1)) := Lib.hid (HNX.out _ (below_drewN (HBL3.out.setCell (p := ⟨q + 2, t, none⟩) (by show q ≤ q + 2; omega) _) 1) ((HCO3.out.other (b' := q + 2) (by omega) t _).drewN 1) ((HLE3.out.other (b' := q + 2) (by omega) t _).drewN 1) ((HZB3.out.set t _).drewN 1))
        clear d0 d2 r3 g3 o2 HZB3 HLE3 HCO3 HDB3 HBL3
        rw [drew_one] at N1
        generalize (wp.setCell ⟨q + 2, t, none⟩ (.int .u64 (zt ||| 2 ^ cc : Nat))).drew = wq at *
        have y1 := inc64 i (by have := HI.out; omega)
        go_wp2_with fail
        go_roundw
        case rel => exact ⟨i + 1, by have := HI.out; omega, by simp, N1⟩
        case measure => have := HI.out; simp [intOf]; omega
    · obtain rfl : i = M := by omega
      have u1 : decide ((i : Int) < (i : Int)) = false := decide_eq_false (by omega)
      have u2 : decide (i < i) = false := decide_eq_false (by omega)
      have htl : l.take i = l := by rw [← HM.out]; exact List.take_length
      have HCx := HC.out
      have hco := HCx.come
      have hle := HCx.leave
      have hzz := HCx.z
      rw [htl, ← HL.out] at hco hle hzz
      have e0 : iC (ofF y) (chg (ofF x) (ofF y) 52) = iC (ofF x) (chg (ofF x) (ofF y) 52) := by
        unfold iC
        rw [own_even HX.out.1 HY.out.1 0 (by omega), own_even HX.out.1 HY.out.1 1 (by omega), own_even HX.out.1 HY.out.1 2 (by omega), own_even HX.out.1 HY.out.1 3 (by omega)]
      have e1 : dC (zTo (ofF x) (ofF y) (chg (ofF x) (ofF y) 52)) = dC (ofF y) := by
        unfold dC
        rw [zTo_all HX.out.1 HY.out.1 0 (by omega), zTo_all HX.out.1 HY.out.1 1 (by omega), zTo_all HX.out.1 HY.out.1 2 (by omega), zTo_all HX.out.1 HY.out.1 3 (by omega)]
      rw [e0] at hco
      rw [e1] at hzz
      have hyy : Blk wr (p5 + 1) 35 (dC (ofF y)) := BB3.out.keep (B := q) HCx.below (by rw [← HQ.out]; exact BB3.out.lt)
      obtain ⟨k0, hk0⟩ : ∃ k0, own (ofF x) (chg (ofF x) (ofF y) 52) 0 = k0 := ⟨_, rfl⟩
      obtain ⟨k1, hk1⟩ : ∃ k1, own (ofF x) (chg (ofF x) (ofF y) 52) 1 = k1 := ⟨_, rfl⟩
      obtain ⟨k2, hk2⟩ : ∃ k2, own (ofF x) (chg (ofF x) (ofF y) 52) 2 = k2 := ⟨_, rfl⟩
      obtain ⟨k3, hk3⟩ : ∃ k3, own (ofF x) (chg (ofF x) (ofF y) 52) 3 = k3 := ⟨_, rfl⟩
      unfold iC at hco hle
      rw [hk0, hk1, hk2, hk3] at hco hle
      have m0 := hco.cell (j := 0) (v := .int .i64 (k0 : Nat)) rfl
      have m1 := hco.cell (j := 1) (v := .int .i64 (k1 : Nat)) rfl
      have m2 := hco.cell (j := 2) (v := .int .i64 (k2 : Nat)) rfl
      have m3 := hco.cell (j := 3) (v := .int .i64 (k3 : Nat)) rfl
      have n0 := hle.cell (j := 0) (v := .int .i64 (k0 : Nat)) rfl
      have n1 := hle.cell (j := 1) (v := .int .i64 (k1 : Nat)) rfl
      have n2 := hle.cell (j := 2) (v := .int .i64 (k2 : Nat)) rfl
      have n3 := hle.cell (j := 3) (v := .int .i64 (k3 : Nat)) rfl
      have z0 := hzz.cell (j := 0) (v := .int .u64 (ofF y 0 : Nat)) rfl
      have z1 := hzz.cell (j := 1) (v := .int .u64 (ofF y 1 : Nat)) rfl
      have z2 := hzz.cell (j := 2) (v := .int .u64 (ofF y 2 : Nat)) rfl
      have z3 := hzz.cell (j := 3) (v := .int .u64 (ofF y 3 : Nat)) rfl
      have b0 := hyy.cell (j := 0) (v := .int .u64 (ofF y 0 : Nat)) rfl
      have b1 := hyy.cell (j := 1) (v := .int .u64 (ofF y 1 : Nat)) rfl
      have b2 := hyy.cell (j := 2) (v := .int .u64 (ofF y 2 : Nat)) rfl
      have b3 := hyy.cell (j := 3) (v := .int .u64 (ofF y 3 : Nat)) rfl
      have EI := fun W => eqI k0 k1 k2 k3 W
      have EQ := fun W => eqF 35 Tryd.underlying35 y y W
      rw [decide_eq_true rfl] at EQ
      have HBF : Hid (Below w.heap.size w wr) := Lib.hid (bchain BW3.out (by rw [HQ.out]; exact HCx.below))
      clear hco hle hzz hyy e0 e1 htl HCx HC HK hk0 hk1 hk2 hk3 hi hlt hM52
      go_wp2_with fail
      refine (awake_any _ (HE.out.keep HBF.out)).mono ?_
      rintro e w9 ⟨rfl, hb⟩
      have HBG := Lib.hid (bchain HBF.out hb)
      clear hb HBF m0 m1 m2 m3 n0 n1 n2 n3 z0 z1 z2 z3 b0 b1 b2 b3 EI EQ
      go_wp2_with fail
      go_ret
      exact ⟨rfl, HBG.out⟩
theorem changes_open (v0 v1 : Value) (w : World) (he : Env w) (h0 : ∃ l : List Nat, BV w v0 l ∧ ∀ x ∈ l, x < 256) (h1 : ∃ l : List Nat, BV w v1 l ∧ ∀ x ∈ l, x < 256) : Calls Tryd.prog 6 #[v0, v1] w (fun e w' => e = .returned (.bool true) ∧ Below w.heap.size w w') := by
  obtain ⟨l0, a0, b0⟩ := h0
  obtain ⟨l1, a1, b1⟩ := h1
  exact changes_walk v0 v1 l0 l1 w he a0 b0 a1 b1
end Go.Proofs.YtaadipccgckehaaDoor
namespace Go.Proofs.YtaadipccgckehaaDoor
open Go
namespace Pl
theorem low_and : ∀ (n x : Nat), 0 < x → x < 2 ^ n → ∃ k, k < n ∧ x.testBit k = true ∧ x &&& (2 ^ n - x) = 2 ^ k
  | 0, x, h0, h => by simp at h; omega
  | n + 1, x, h0, h => by
    have hp : 2 ^ (n + 1) = 2 * 2 ^ n := by rw [Nat.pow_succ, Nat.mul_comm]
    rcases Nat.mod_two_eq_zero_or_one x with hx | hx
    · obtain ⟨y, rfl⟩ : ∃ y, x = 2 * y := ⟨x / 2, by omega⟩
      obtain ⟨k, h1, h2, h3⟩ := low_and n y (by omega) (by omega)
      refine ⟨k + 1, by omega, ?_, ?_⟩
      · rw [Nat.testBit_succ, Nat.mul_div_cancel_left _ (by omega)]
        exact h2
      · have f := and_lane 1 0 y 0 (2 ^ n - y) (by omega) (by omega)
        rw [Nat.zero_add, Nat.zero_add, Nat.zero_and, Nat.zero_add, h3, Nat.pow_one] at f
        rw [hp, show 2 * 2 ^ n - 2 * y = 2 * (2 ^ n - y) by omega, f, Nat.pow_succ, Nat.mul_comm]
    · obtain ⟨m, rfl⟩ : ∃ m, x = 1 + 2 * m := ⟨x / 2, by omega⟩
      refine ⟨0, by omega, by simp [Nat.testBit_zero], ?_⟩
      have f := and_lane 1 1 m 1 (2 ^ n - (m + 1)) (by omega) (by omega)
      have hz : m &&& (2 ^ n - (m + 1)) = 0 := by
        apply Nat.eq_of_testBit_eq
        intro b
        rw [Nat.testBit_and, Nat.testBit_two_pow_sub_succ (by omega), Nat.zero_testBit]
        cases m.testBit b <;> simp
      rw [hz, Nat.pow_one] at f
      rw [hp, show 2 * 2 ^ n - (1 + 2 * m) = 1 + 2 * (2 ^ n - (m + 1)) by omega, f]
      rfl
theorem right_make {D : Nat → Nat} (h1 : ∀ s, s < 4 → D s < 4503599627370496) (h2 : ∀ s, s < 4 → pc 52 (D s) = 13) (h3 : ∀ c, c < 52 → ∃ o, ∀ s, s < 4 → (D s).testBit c = true → s = o) : rightB D = true := by
  have hp : partB D = true := by
    rw [part_ref]
    refine ⟨fun k hk => ⟨h1 k hk, by rw [h2 k hk]; omega⟩, fun c hc => ?_⟩
    obtain ⟨o, ho⟩ := h3 c hc
    have g0 := ho 0 (by omega)
    have g1 := ho 1 (by omega)
    have g2 := ho 2 (by omega)
    have g3 := ho 3 (by omega)
    show holdTo D c 4 ≤ 1
    simp only [holdTo, b1]
    rcases e0 : (D 0).testBit c with _ | _ <;> rcases e1 : (D 1).testBit c with _ | _ <;> rcases e2 : (D 2).testBit c with _ | _ <;> rcases e3 : (D 3).testBit c with _ | _ <;> simp [e0, e1, e2, e3] at g0 g1 g2 g3 ⊢ <;> omega
  rw [right_ref, hp, h2 0 (by omega), h2 1 (by omega), h2 2 (by omega), h2 3 (by omega)]
  rfl
theorem right_pc {D : Nat → Nat} (h : rightB D = true) (s : Nat) (hs : s < 4) : pc 52 (D s) = 13 := by
  have h3 := right_ref D
  rw [h] at h3
  simp only [Bool.true_eq, Bool.and_eq_true, decide_eq_true_eq] at h3
  rcases (by omega : s = 0 ∨ s = 1 ∨ s = 2 ∨ s = 3) with rfl | rfl | rfl | rfl
  · exact h3.1.1.1.2
  · exact h3.1.1.2
  · exact h3.1.2
  · exact h3.2
theorem right_lt52 {D : Nat → Nat} (h : rightB D = true) (s : Nat) (hs : s < 4) : D s < 4503599627370496 := by
  have := (part_of_right h s hs).1
  omega
theorem right_pos {D : Nat → Nat} (h : rightB D = true) (s : Nat) (hs : s < 4) : 0 < D s := by
  have h1 := right_pc h s hs
  rcases Nat.eq_zero_or_pos (D s) with h0 | h0
  · rw [h0, pc_zero] at h1; omega
  · exact h0
theorem xor_bit (x c b : Nat) : (x ^^^ 2 ^ c).testBit b = (x.testBit b ^^ decide (c = b)) := by rw [Nat.testBit_xor, Nat.testBit_two_pow]
theorem pc_one (i : Nat) (hi : i < 52) : pc 52 (2 ^ i) = 1 := by
  have := pc_put i 52 0 hi (by simp)
  rw [Nat.zero_add, pc_zero] at this
  exact this
theorem pc_swap {x i j : Nat} (hx : x < 4503599627370496) (hi : i < 52) (hj : j < 52) (h1 : x.testBit i = true) (h2 : x.testBit j = false) : pc 52 ((x ^^^ 2 ^ i) ^^^ 2 ^ j) = pc 52 x := by
  have hij : i ≠ j := fun e => by rw [e, h2] at h1; cases h1
  have hb : ∀ b, (clr x i).testBit b = (x.testBit b && decide (b ≠ i)) := fun b => clr_bit (by omega) hi
  have e1 : x = clr x i ||| 2 ^ i := by
    apply Nat.eq_of_testBit_eq
    intro b
    rw [Nat.testBit_or, hb, Nat.testBit_two_pow]
    by_cases h : i = b
    · subst h; simp [h1]
    · simp [h, Ne.symm h]
  have e2 : (x ^^^ 2 ^ i) ^^^ 2 ^ j = clr x i ||| 2 ^ j := by
    apply Nat.eq_of_testBit_eq
    intro b
    rw [xor_bit, xor_bit, Nat.testBit_or, hb, Nat.testBit_two_pow]
    by_cases h : i = b
    · subst h; simp [h1, Ne.symm hij]
    · by_cases h' : j = b
      · subst h'; simp [h2, h]
      · simp [h, h', Ne.symm h]
  have z1 : clr x i &&& 2 ^ i = 0 := by
    apply Nat.eq_of_testBit_eq
    intro b
    rw [Nat.testBit_and, hb, Nat.testBit_two_pow, Nat.zero_testBit]
    by_cases h : i = b
    · subst h; simp
    · simp [h]
  have z2 : clr x i &&& 2 ^ j = 0 := by
    apply Nat.eq_of_testBit_eq
    intro b
    rw [Nat.testBit_and, hb, Nat.testBit_two_pow, Nat.zero_testBit]
    by_cases h : j = b
    · subst h; simp [h2]
    · simp [h]
  rw [e2, pc_or _ _ _ z2, pc_one j hj]
  conv => rhs; rw [e1]
  rw [pc_or _ _ _ z1, pc_one i hi]
/-- Two cards of the first two hands exchanged. -/
def swp (D : Nat → Nat) (i j : Nat) (s : Nat) : Nat := if s = 0 then (D 0 ^^^ 2 ^ i) ^^^ 2 ^ j else if s = 1 then (D 1 ^^^ 2 ^ i) ^^^ 2 ^ j else D s
theorem xor_lt {x c : Nat} (hx : x < 4503599627370496) (hc : c < 52) : x ^^^ 2 ^ c < 4503599627370496 := Nat.xor_lt_two_pow (n := 52) hx (Nat.pow_lt_pow_right (by omega) hc)
theorem bit_lt {x i : Nat} (hx : x < 4503599627370496) (h : x.testBit i = true) : i < 52 := by
  rcases Nat.lt_or_ge i 52 with h1 | h1
  · exact h1
  · rw [bit_high hx h1] at h; cases h
theorem swp_right {D : Nat → Nat} (h : rightB D = true) {i j : Nat} (h1 : (D 0).testBit i = true) (h2 : (D 1).testBit j = true) : rightB (swp D i j) = true := by
  have hi := bit_lt (right_lt52 h 0 (by omega)) h1
  have hj := bit_lt (right_lt52 h 1 (by omega)) h2
  have o1 := owner_of h (by omega) h1
  have o2 := owner_of h (by omega) h2
  have b10 : (D 1).testBit i = false := by rw [owner_bit h hi (by omega), o1]; rfl
  have b01 : (D 0).testBit j = false := by rw [owner_bit h hj (by omega), o2]; rfl
  have hij : i ≠ j := fun e => by rw [e, b01] at h1; cases h1
  refine right_make (fun s hs => ?_) (fun s hs => ?_) (fun c hc => ?_)
  · unfold swp
    split
    · exact xor_lt (xor_lt (right_lt52 h 0 (by omega)) hi) hj
    · split
      · exact xor_lt (xor_lt (right_lt52 h 1 (by omega)) hi) hj
      · exact right_lt52 h s hs
  · unfold swp
    split
    · rw [pc_swap (right_lt52 h 0 (by omega)) hi hj h1 b01]; exact right_pc h 0 (by omega)
    · split
      · rw [Nat.xor_assoc, Nat.xor_comm (2 ^ i), ← Nat.xor_assoc, pc_swap (right_lt52 h 1 (by omega)) hj hi h2 b10]; exact right_pc h 1 (by omega)
      · exact right_pc h s hs
  · by_cases hci : i = c
    · subst hci
      refine ⟨1, fun s hs hb => ?_⟩
      unfold swp at hb
      rcases (by omega : s = 0 ∨ s = 1 ∨ s = 2 ∨ s = 3) with rfl | rfl | rfl | rfl
      · rw [if_pos rfl, xor_bit, xor_bit, h1] at hb
        simp [Ne.symm hij] at hb
      · rfl
      · rw [if_neg (by omega), if_neg (by omega), owner_bit h hi (by omega), o1] at hb
        simp at hb
      · rw [if_neg (by omega), if_neg (by omega), owner_bit h hi (by omega), o1] at hb
        simp at hb
    · by_cases hcj : j = c
      · subst hcj
        refine ⟨0, fun s hs hb => ?_⟩
        unfold swp at hb
        rcases (by omega : s = 0 ∨ s = 1 ∨ s = 2 ∨ s = 3) with rfl | rfl | rfl | rfl
        · rfl
        · rw [if_neg (by omega), if_pos rfl, xor_bit, xor_bit, h2] at hb
          simp [hij] at hb
        · rw [if_neg (by omega), if_neg (by omega), owner_bit h hj (by omega), o2] at hb
          simp at hb
        · rw [if_neg (by omega), if_neg (by omega), owner_bit h hj (by omega), o2] at hb
          simp at hb
      · refine ⟨owner D c, fun s hs hb => ?_⟩
        have hb2 : (D s).testBit c = true := by
          unfold swp at hb
          rcases (by omega : s = 0 ∨ s = 1 ∨ s = 2 ∨ s = 3) with rfl | rfl | rfl | rfl
          · rw [if_pos rfl, xor_bit, xor_bit] at hb; simpa [hci, hcj] using hb
          · rw [if_neg (by omega), if_pos rfl, xor_bit, xor_bit] at hb; simpa [hci, hcj] using hb
          · rwa [if_neg (by omega), if_neg (by omega)] at hb
          · rwa [if_neg (by omega), if_neg (by omega)] at hb
        exact (owner_of h hs hb2).symm
theorem turn_right {D : Nat → Nat} (h : rightB D = true) (r : Nat) (hr : r < 4) : rightB (fun s => D ((s + 4 - r) % 4)) = true := by
  refine right_make (fun s hs => right_lt52 h _ (by omega)) (fun s hs => right_pc h _ (by omega)) (fun c hc => ⟨(owner D c + r) % 4, fun s hs hb => ?_⟩)
  have ho := owner_of h (show (s + 4 - r) % 4 < 4 by omega) hb
  omega
end Pl
end Go.Proofs.YtaadipccgckehaaDoor
namespace Go.Proofs.YtaadipccgckehaaDoor
open Go Go.RowKit Pl

theorem turn_four (x : Four) (hr : rightB (ofF x) = true) (r : Nat) (h4 : r < 4) : ∃ z : Four, rightB (ofF z) = true ∧ F64 z ∧ ∀ w, Calls Tryd.prog 21 #[.agg #[.int .u64 (ofF x 0 : Nat), .int .u64 (ofF x 1 : Nat), .int .u64 (ofF x 2 : Nat), .int .u64 (ofF x 3 : Nat)], .int .i64 (r : Int)] w (fun e w' => e = .returned (.agg #[.int .u64 (ofF z 0 : Nat), .int .u64 (ofF z 1 : Nat), .int .u64 (ofF z 2 : Nat), .int .u64 (ofF z 3 : Nat)]) ∧ Below w.heap.size w w') := by
  have hq : quart (r : Int) = r := by unfold quart; omega
  have ht := turn_right hr r h4
  have hs : ∀ k, k < 4 → turnD (ofF x) (r : Int) k = ofF (toF (turnD (ofF x) (r : Int))) k := fun k hk => by
    rcases (by omega : k = 0 ∨ k = 1 ∨ k = 2 ∨ k = 3) with rfl | rfl | rfl | rfl <;> rfl
  have hr2 : rightB (turnD (ofF x) (r : Int)) = true := by unfold turnD; rw [hq]; exact ht
  refine ⟨toF (turnD (ofF x) (r : Int)), by rw [← right_same hs]; exact hr2, fun k hk => ?_, fun w => ?_⟩
  · rw [← hs k hk]
    have := right_lt52 hr2 k hk
    omega
  · exact turn_any (ofF x) (r : Int) (by omega) w
/-- Two cards exchanged, as four numbers. -/
theorem swp_four (z : Four) (hr : rightB (ofF z) = true) : ∃ (a b : Nat) (y : Four), a < 4503599627370496 ∧ b < 4503599627370496 ∧ rightB (ofF y) = true ∧ F64 y ∧
    (ofF z 0 &&& (18446744073709551616 - ofF z 0) = a) ∧ (ofF z 1 &&& (18446744073709551616 - ofF z 1) = b) ∧ ofF y 0 = (ofF z 0 ^^^ a) ^^^ b ∧ ofF y 1 = (ofF z 1 ^^^ a) ^^^ b ∧ ofF y 2 = ofF z 2 ∧ ofF y 3 = ofF z 3 := by
  have h0 := right_lt52 hr 0 (by omega)
  have h1 := right_lt52 hr 1 (by omega)
  obtain ⟨i, _, i2, i3⟩ := low_and 64 (ofF z 0) (right_pos hr 0 (by omega)) (by omega)
  obtain ⟨j, _, j2, j3⟩ := low_and 64 (ofF z 1) (right_pos hr 1 (by omega)) (by omega)
  have hi := bit_lt h0 i2
  have hj := bit_lt h1 j2
  have hs := swp_right hr i2 j2
  have he : ∀ k, k < 4 → swp (ofF z) i j k = ofF (toF (swp (ofF z) i j)) k := fun k hk => by
    rcases (by omega : k = 0 ∨ k = 1 ∨ k = 2 ∨ k = 3) with rfl | rfl | rfl | rfl <;> rfl
  exact ⟨2 ^ i, 2 ^ j, toF (swp (ofF z) i j), Nat.pow_lt_pow_right (a := 2) (by omega) hi, Nat.pow_lt_pow_right (a := 2) (by omega) hj, by rw [← right_same he]; exact hs, fun k hk => by rw [← he k hk]; have := right_lt52 hs k hk; omega, i3, j3, rfl, rfl, rfl, rfl⟩
/-- A store into a block that is no row's. -/
theorem own_db {w : World} {B e size n p : Nat} {t : TypeId} {c : Array Value} {v : Value} {xs : List Value} (h : w.ownsRow B e size v n xs) (_hp : Blk w p t c) (j : Nat) (u : Value) (hne : ∀ k, v.ownBlock = some k → k ≠ p) : (w.setCell ⟨p, j, none⟩ u).ownsRow B e size v n xs :=
  h.kept (grown_set w p j u) (by
    rcases hv : v.ownBlock with _ | k
    · exact .inl rfl
    · exact .inr (fun e => hne k hv (Option.some.inj e)))
/-- What the loop over the numbers keeps. -/
structure CL (W1 : World) (q p5 : Nat) (x : Four) (i : Nat) (v : Value) (l : List Four) (W : World) : Prop where
  below : Below q W1 W
  len : l.length = i
  good : ∀ (j : Nat) (y : Four), l[j]? = some y → rightB (ofF y) = true ∧ F64 y
  row : W.ownsRow q 35 4 v i (dV l)
  box : Blk W p5 35 (dC (ofF x))
theorem CL.next {W1 W W' : World} {q p5 i : Nat} {x y : Four} {v v' : Value} {l : List Four} (h : CL W1 q p5 x i v l W) (hr : rightB (ofF y) = true) (h64 : F64 y) (hb : Below q W W') (hp : p5 < q) (hrow : W'.ownsRow q 35 4 v' (i + 1) (dV l ++ [.int .u64 (ofF y 0 : Nat), .int .u64 (ofF y 1 : Nat), .int .u64 (ofF y 2 : Nat), .int .u64 (ofF y 3 : Nat)])) : CL W1 q p5 x (i + 1) v' (l ++ [y]) W' := by
  refine ⟨h.below.trans hb, by simp [h.len], fun j u hu => ?_, by rw [dV_app]; exact hrow, h.box.keep hb hp⟩
  rcases Nat.lt_or_ge j l.length with hj | hj
  · rw [List.getElem?_append_left hj] at hu
    exact h.good j u hu
  · rw [List.getElem?_append_right hj] at hu
    rcases hk : j - l.length with _ | k
    · rw [hk] at hu
      obtain rfl : y = u := by simpa using hu
      exact ⟨hr, h64⟩
    · rw [hk] at hu; simp at hu
theorem first_eq {l : List Four} {i k : Nat} {x y : Four} (hx : l[i]? = some x) (hy : l[k]? = some y) : firstIx l x = firstIx l y ↔ x = y := by
  constructor
  · intro h
    have h1 := first_at hx
    have h2 := first_at hy
    rw [h] at h1
    exact Option.some.inj (h1.symm.trans h2)
  · intro h; rw [h]
set_option maxRecDepth 100000 in
set_option maxHeartbeats 4000000 in
theorem cls_walk (v0 : Value) (l0 : List Nat) (A1 : Option Addr) (c1 N : Nat) (hs : List Nat) (w : World) (he : Env w) (h0 : BV w v0 l0) (h08 : ∀ x ∈ l0, x < 256) (hN : hs.length = N) (hcap : N ≤ c1) (h1 : BV w (.slice A1 N c1) hs) (h18 : ∀ x ∈ hs, x < 256)  : Calls Tryd.prog 7 #[v0, .slice A1 N c1] w (fun e w' => e = .returned (.bool true) ∧ Below w.heap.size w w') := by
  have M0 := Lib.hid (made_four h0 h08)
  have HHS := Lib.hid (And.intro h1 (And.intro hN h18))
  have HE := Lib.hid he
  obtain ⟨A0, c0, rfl, _⟩ := h0.len
  obtain ⟨i0, hi0, hz0, hz1, hz2⟩ := info_parts info_deal
  obtain ⟨m, hm⟩ : ∃ m, m = min N 24 := ⟨_, rfl⟩
  have q0 : min (N : Int) 24 = (m : Int) := by omega
  have q1 : max (m : Int) 0 = (m : Int) := by omega
  have hmN : m ≤ N := by omega
  have hm24 : m ≤ 24 := by omega
  clear h0 h1 h08 h18 he hN hm
  generalize l0.length = n0 at *
  go_enter Tryd.func7, Tryd.ntmps7
  go_wp2_with fail
  refine M0.out.mono ?_
  rintro e w1 ⟨⟨x, hx, hx64, rfl⟩, hb⟩
  have HB1 := Lib.hid (bchain hb (below1 w1 (.cells #[.int .u64 (ofF x 0 : Nat), .int .u64 (ofF x 1 : Nat), .int .u64 (ofF x 2 : Nat), .int .u64 (ofF x 3 : Nat)] 35)))
  have HX := Lib.hid (And.intro hx hx64)
  have HBX := Lib.hid (Blk.new w1 35 #[.int .u64 (ofF x 0 : Nat), .int .u64 (ofF x 1 : Nat), .int .u64 (ofF x 2 : Nat), .int .u64 (ofF x 3 : Nat)])
  clear hx hx64 M0 hb
  go_upto_region 3 with fail
  have HPQ : Hid (w1.heap.size < (w1.alloc (.cells #[.int .u64 (ofF x 0 : Nat), .int .u64 (ofF x 1 : Nat), .int .u64 (ofF x 2 : Nat), .int .u64 (ofF x 3 : Nat)] 35)).heap.size) := Lib.hid (by simp)
  generalize w1.alloc (.cells #[.int .u64 (ofF x 0 : Nat), .int .u64 (ofF x 1 : Nat), .int .u64 (ofF x 2 : Nat), .int .u64 (ofF x 3 : Nat)] 35) = W1 at *
  generalize w1.heap.size = p5 at *
  go_wp2_with fail
  clear q0 q1
  obtain ⟨q, hq⟩ : ∃ q, W1.heap.size = q := ⟨_, rfl⟩
  have HQ := Lib.hid hq
  rw [hq] at HPQ
  clear hq
  go_loopw [6, 24] (fun s6 s24 wr => ∃ (i : Nat) (v : Value) (l : List Four), i ≤ m ∧ s24 = .int .i64 (i : Int) ∧ s6 = v ∧ Hid (CL W1 q p5 x i v l wr)) (fun _ s24 _ => m - (intOf s24).toNat)
  case atStart => exact ⟨0, _, [], by omega, rfl, rfl, Lib.hid ⟨by rw [← HQ.out]; exact Below.refl _ _, rfl, fun j y h => by simp at h, ⟨by simp [dV], .inl ⟨rfl, rfl⟩⟩, HBX.out⟩⟩
  case round =>
    clear HBX
    obtain ⟨i, v, l, hi, rfl, rfl, HC⟩ := hrel
    obtain ⟨A6, c6, rfl⟩ := own_slice HC.out.row
    have HWR : Hid (Below w.heap.size w wr) := Lib.hid (bchain HB1.out (by rw [HQ.out]; exact HC.out.below))
    by_cases hlt : i < m
    · have u1 : decide ((i : Int) < (m : Int)) = true := decide_eq_true (by omega)
      have u2 : decide (i < m) = true := decide_eq_true hlt
      obtain ⟨n, hn⟩ : ∃ n, hs[i]? = some n := ⟨_, List.getElem?_eq_getElem (by rw [HHS.out.2.1]; omega)⟩
      have hn8 := HHS.out.2.2 n (List.mem_of_getElem? hn)
      obtain ⟨b, o, rfl, hcell⟩ := (HHS.out.1.keep HWR.out).at hn
      have y1 := inc64 i (by omega)
      obtain ⟨r, hr⟩ : ∃ r, n % 4 = r := ⟨_, rfl⟩
      have hr4 : r < 4 := by omega
      have r1 : ((n : Int)).tmod 4 = (r : Int) := by rw [Int.tmod_eq_emod_of_nonneg (by omega)]; omega
      have r1b : (n : Int) % 4 = (r : Int) := by omega
      have r2 : IntKind.i64.wrap (r : Int) = (r : Int) := IntWalk.i64_in _ (by omega)
      obtain ⟨k8, hk8⟩ : ∃ k8, n % 8 = k8 := ⟨_, rfl⟩
      have r3 : ((n : Int)).tmod 8 = (k8 : Int) := by rw [Int.tmod_eq_emod_of_nonneg (by omega)]; omega
      have r3b : (n : Int) % 8 = (k8 : Int) := by omega
      obtain ⟨z, hz, hz64, hturn⟩ := turn_four x HX.out.1 r hr4
      have HT := Lib.hid hturn
      have HZ := Lib.hid (And.intro hz hz64)
      have a0 := HC.out.box.cell (j := 0) (v := .int .u64 (ofF x 0 : Nat)) rfl
      have a1 := HC.out.box.cell (j := 1) (v := .int .u64 (ofF x 1 : Nat)) rfl
      have a2 := HC.out.box.cell (j := 2) (v := .int .u64 (ofF x 2 : Nat)) rfl
      have a3 := HC.out.box.cell (j := 3) (v := .int .u64 (ofF x 3 : Nat)) rfl
      have hn256 : (n : Int) < 256 := by omega
      clear hn hr hk8 hturn hz hz64
      go_wp2_with fail
      refine (HT.out _).mono ?_
      rintro e w2 ⟨rfl, hb⟩
      have hsq : q ≤ wr.heap.size := by have := HC.out.below.size; rw [HQ.out] at this; exact this
      have HBQ : Hid (Below q wr w2) := Lib.hid (hb.mono hsq)
      have HR2 := Lib.hid (own_keep HC.out.row hb)
      have HKD := Lib.hid (fun k hk => (HR2.out.lt k hk).2)
      have HQ2 : Hid (q ≤ w2.heap.size) := Lib.hid (Nat.le_trans hsq hb.size)
      have HNX0 := Lib.hid (fun (y : Four) (h1 : rightB (ofF y) = true) (h2 : F64 y) v' w' (h3 : Below q wr w') h4 => HC.out.next (v' := v') (W' := w') h1 h2 h3 HPQ.out h4)
      clear hb hcell a0 a1 a2 a3 HT HC HWR hsq hn8 hr4
      go_upto_region 7 with fail
      have HDB := Lib.hid (Blk.new w2 35 #[.int .u64 (ofF z 0 : Nat), .int .u64 (ofF z 1 : Nat), .int .u64 (ofF z 2 : Nat), .int .u64 (ofF z 3 : Nat)])
      have hb1 := below1 w2 (.cells #[.int .u64 (ofF z 0 : Nat), .int .u64 (ofF z 1 : Nat), .int .u64 (ofF z 2 : Nat), .int .u64 (ofF z 3 : Nat)] 35)
      have HR3 := Lib.hid (own_keep HR2.out hb1)
      have HBQ3 := Lib.hid (HBQ.out.trans (hb1.mono HQ2.out))
      have HQ3 := Lib.hid (Nat.le_trans HQ2.out hb1.size)
      have HDQ : Hid (q ≤ w2.heap.size) := HQ2
      clear hb1 HR2 HBQ HQ2
      generalize w2.alloc (.cells #[.int .u64 (ofF z 0 : Nat), .int .u64 (ofF z 1 : Nat), .int .u64 (ofF z 2 : Nat), .int .u64 (ofF z 3 : Nat)] 35) = wa at *
      generalize w2.heap.size = db at *
      have d0 := HDB.out.cell (j := 0) (v := .int .u64 (ofF z 0 : Nat)) rfl
      have d1 := HDB.out.cell (j := 1) (v := .int .u64 (ofF z 1 : Nat)) rfl
      have d2 := HDB.out.cell (j := 2) (v := .int .u64 (ofF z 2 : Nat)) rfl
      have d3 := HDB.out.cell (j := 3) (v := .int .u64 (ofF z 3 : Nat)) rfl
      obtain ⟨XS, hXS⟩ : ∃ XS, dV l = XS := ⟨_, rfl⟩
      rw [hXS] at HR3 HNX0
      clear hXS
      by_cases h8 : 3 < k8
      · have t8 : decide (3 < (k8 : Int)) = true := decide_eq_true (by omega)
        have t8b : decide (3 < k8) = true := decide_eq_true h8
        obtain ⟨a, c, y, ha52, hc52, hy, hy64, ea, ec, y0, y1', y2, y3⟩ := swp_four z HZ.out.1
        have hz0' := right_lt52 HZ.out.1 0 (by omega)
        have hz1' := right_lt52 HZ.out.1 1 (by omega)
        have hp0 := right_pos HZ.out.1 0 (by omega)
        have hp1 := right_pos HZ.out.1 1 (by omega)
        have n0' : IntKind.u64.wrap (-((ofF z 0 : Nat) : Int)) = ((18446744073709551616 - ofF z 0 : Nat) : Int) := by
          show (-((ofF z 0 : Nat) : Int)) % 18446744073709551616 = _
          omega
        have n1' : IntKind.u64.wrap (-((ofF z 1 : Nat) : Int)) = ((18446744073709551616 - ofF z 1 : Nat) : Int) := by
          show (-((ofF z 1 : Nat) : Int)) % 18446744073709551616 = _
          omega
        have b0 : bits BinOp.and IntKind.u64 ((ofF z 0 : Nat) : Int) ((18446744073709551616 - ofF z 0 : Nat) : Int) = ((a : Nat) : Int) := by rw [u64_and_nat _ _ (by omega) (by omega), ea]
        have b1 : bits BinOp.and IntKind.u64 ((ofF z 1 : Nat) : Int) ((18446744073709551616 - ofF z 1 : Nat) : Int) = ((c : Nat) : Int) := by rw [u64_and_nat _ _ (by omega) (by omega), ec]
        have HNX := Lib.hid (fun v' w' hr6 hb6 => HNX0.out y hy hy64 v' w' (HBQ3.out.trans hb6) hr6)
        rw [y0, y1', y2, y3] at HNX
        obtain ⟨m0, hm0⟩ : ∃ m0, ofF z 0 ^^^ a = m0 := ⟨_, rfl⟩
        obtain ⟨m1, hm1⟩ : ∃ m1, ofF z 1 ^^^ a = m1 := ⟨_, rfl⟩
        have m0l : m0 < 4503599627370496 := hm0 ▸ Nat.xor_lt_two_pow (n := 52) hz0' ha52
        have m1l : m1 < 4503599627370496 := hm1 ▸ Nat.xor_lt_two_pow (n := 52) hz1' ha52
        have x0 : bits BinOp.xor IntKind.u64 ((ofF z 0 : Nat) : Int) (a : Int) = (m0 : Int) := by rw [u64_xor_nat _ _ (by omega) (by omega), hm0]
        have x1 : bits BinOp.xor IntKind.u64 ((ofF z 1 : Nat) : Int) (a : Int) = (m1 : Int) := by rw [u64_xor_nat _ _ (by omega) (by omega), hm1]
        rw [hm0, hm1] at HNX
        obtain ⟨s0, hs0⟩ : ∃ s0, m0 ^^^ c = s0 := ⟨_, rfl⟩
        obtain ⟨s1, hs1⟩ : ∃ s1, m1 ^^^ c = s1 := ⟨_, rfl⟩
        have x2 : bits BinOp.xor IntKind.u64 (m0 : Int) (c : Int) = (s0 : Int) := by rw [u64_xor_nat _ _ (by omega) (by omega), hs0]
        have x3 : bits BinOp.xor IntKind.u64 (m1 : Int) (c : Int) = (s1 : Int) := by rw [u64_xor_nat _ _ (by omega) (by omega), hs1]
        rw [hs0, hs1] at HNX
        have g0 := HDB.out.free 0
        have g1 := HDB.out.free 1
        clear ha52 hc52 hy hy64 ea ec y0 y1' y2 y3 hz0' hz1' hp0 hp1 hm0 hm1 hs0 hs1 m0l m1l h8 HNX0 hn256
        go_upto_region 8 with fail
        go_quiet (fail)
        have HDB4 := Lib.hid (HDB.out.drewN nq)
        have HR4 := Lib.hid (own_keep HR3.out (below_drewN (Below.refl _ wa) nq))
        have HB4 := Lib.hid (below_drewN (Below.refl q wa) nq)
        have HQ4 : Hid (q ≤ (wa.drewN nq).heap.size) := Lib.hid HQ3.out
        clear d0 d1 d2 d3 g0 g1 n0' n1' b0 b1 HDB HR3
        generalize wa.drewN nq = wn at *
        have d0 := HDB4.out.cell (j := 0) (v := .int .u64 (ofF z 0 : Nat)) rfl
        have d1 := HDB4.out.cell (j := 1) (v := .int .u64 (ofF z 1 : Nat)) rfl
        have g0 := HDB4.out.free 0
        have g1 := HDB4.out.free 1
        go_upto_region 10 with fail
        have HDB5 := Lib.hid ((HDB4.out.set 0 (.int .u64 (s0 : Nat))).set 1 (.int .u64 (s1 : Nat)))
        have HR5 := Lib.hid (own_db (own_db HR4.out HDB4.out 0 (.int .u64 (s0 : Nat)) (fun k hk => Nat.ne_of_lt (HKD.out k hk))) (HDB4.out.set 0 (.int .u64 (s0 : Nat))) 1 (.int .u64 (s1 : Nat)) (fun k hk => Nat.ne_of_lt (HKD.out k hk)))
        have HB5 := Lib.hid ((HB4.out.setCell (p := ⟨db, 0, none⟩) HDQ.out (.int .u64 (s0 : Nat))).setCell (p := ⟨db, 1, none⟩) HDQ.out (.int .u64 (s1 : Nat)))
        have HQ5 : Hid (q ≤ ((wn.setCell ⟨db, 0, none⟩ (.int .u64 (s0 : Nat))).setCell ⟨db, 1, none⟩ (.int .u64 (s1 : Nat))).heap.size) := Lib.hid (by simpa using HQ4.out)
        clear d0 d1 g0 g1 x0 x1 x2 x3 HDB4 HR4 HB4 HQ4
        generalize (wn.setCell ⟨db, 0, none⟩ (.int .u64 (s0 : Nat))).setCell ⟨db, 1, none⟩ (.int .u64 (s1 : Nat)) = wp at *
        have d0 := HDB5.out.cell (j := 0) (v := .int .u64 (s0 : Nat)) rfl
        have d1 := HDB5.out.cell (j := 1) (v := .int .u64 (s1 : Nat)) rfl
        have d2 := HDB5.out.cell (j := 2) (v := .int .u64 (ofF z 2 : Nat)) rfl
        have d3 := HDB5.out.cell (j := 3) (v := .int .u64 (ofF z 3 : Nat)) rfl
        go_wp2_with (at_builtin; refine appN rfl (.tmp 62) (.tmp 64) rfl Tryd.underlying36 hi0 hz0 hz1 hz2 rfl (by decide) wp q _ i XS [.int .u64 (s0 : Nat), .int .u64 (s1 : Nat), .int .u64 (ofF z 2 : Nat), .int .u64 (ofF z 3 : Nat)] rfl (by simp [Value.oneCell']) rfl rfl HR5.out HQ5.out (by omega) (by decide) ?_; intro v' w6 hr6 hb6; have N6 := Lib.hid (HNX.out v' w6 hr6 (HB5.out.trans hb6)); clear hr6 hb6 HNX)
        go_roundw
        case rel => exact ⟨i + 1, _, _, by omega, by simp, rfl, N6⟩
        case measure => simp [intOf]; omega
      · have t8 : decide (3 < (k8 : Int)) = false := decide_eq_false (by omega)
        have t8b : decide (3 < k8) = false := decide_eq_false h8
        have HNX := Lib.hid (fun v' w' hr6 hb6 => HNX0.out z HZ.out.1 HZ.out.2 v' w' (HBQ3.out.trans hb6) hr6)
        clear h8 HNX0 hn256
        go_wp2_with (at_builtin; refine appN rfl (.tmp 62) (.tmp 64) rfl Tryd.underlying36 hi0 hz0 hz1 hz2 rfl (by decide) wa q _ i XS [.int .u64 (ofF z 0 : Nat), .int .u64 (ofF z 1 : Nat), .int .u64 (ofF z 2 : Nat), .int .u64 (ofF z 3 : Nat)] rfl (by simp [Value.oneCell']) rfl rfl HR3.out HQ3.out (by omega) (by decide) ?_; intro v' w6 hr6 hb6; have N6 := Lib.hid (HNX.out v' w6 hr6 hb6); clear hr6 hb6 HNX)
        go_roundw
        case rel => exact ⟨i + 1, _, _, by omega, by simp, rfl, N6⟩
        case measure => simp [intOf]; omega
    · obtain rfl : i = m := by omega
      have u1 : decide ((i : Int) < (i : Int)) = false := decide_eq_false (by omega)
      have u2 : decide (i < i) = false := decide_eq_false (by omega)
      have HD : Hid (DR 35 wr (.slice A6 i c6) l) := Lib.hid (dr_of_own0 (by rw [HC.out.len]; exact HC.out.row) _)
      have HL : Hid (l.length = i) := Lib.hid HC.out.len
      have C1 := Lib.hid (classes_any (.slice A6 i c6) l (by rw [HL.out]; omega) (fun j y h => (HC.out.good j y h).2) wr HD.out)
      have HALL : Hid (allRight l = true) := Lib.hid (all_good (fun j y h => (HC.out.good j y h).1))
      clear HC hi hlt hi0 hz0 hz1 hz2
      go_wp2_with fail
      refine C1.out.mono ?_
      rintro e w3 hr1
      obtain ⟨hb, Aa, ca, he1, hn1⟩ := cls_parts hr1
      have hcl : clL l = classL l := by unfold clL; rw [if_neg (by rw [HL.out]; omega), if_pos HALL.out]
      have hce : clE l = 0 := by unfold clE; rw [if_neg (by rw [HL.out]; omega), if_pos HALL.out]
      rw [hcl, hce, class_len, HL.out] at he1
      rw [hcl, class_len, HL.out] at hn1
      subst he1
      have HN1 := Lib.hid hn1
      have HB3 := Lib.hid (bchain HWR.out hb)
      have HD3 := Lib.hid (HD.out.keep hb)
      clear hr1 hb hcl hce hn1 C1 HD HWR
      go_wp2_with fail
      go_loopw [83] (fun s83 wq => ∃ k : Nat, k ≤ i ∧ s83 = .int .i64 (k : Int) ∧ Hid (Below w3.heap.size w3 wq)) (fun s83 _ => i - (intOf s83).toNat)
      case atStart => exact ⟨0, by omega, rfl, Lib.hid (Below.refl _ _)⟩
      case round =>
        obtain ⟨k, hk, rfl, HBK⟩ := hrel
        by_cases hkl : k < i
        · have v1 : decide ((k : Int) < (i : Int)) = true := decide_eq_true (by omega)
          have v2 : decide (k < i) = true := decide_eq_true hkl
          obtain ⟨y, hy⟩ : ∃ y, l[k]? = some y := ⟨_, List.getElem?_eq_getElem (by rw [HL.out]; exact hkl)⟩
          have hF1 := first_lt hy
          have hF2 := first_at hy
          have hck : (classL l)[k]? = some (firstIx l y) := by simp [classL, hy]
          have hcf : (classL l)[firstIx l y]? = some (firstIx l y) := by simp [classL, hF2]
          have HN2 := HN1.out.keep HBK.out
          obtain ⟨g1, o1, rfl, k1⟩ := HN2.at hck
          obtain ⟨g2, o2, eg, k2⟩ := HN2.at hcf
          have eg2 := Option.some.inj eg
          cases eg2
          have HFX : Hid (∀ (j : Nat) (u : Four), l[j]? = some u → ((((firstIx l y : Nat) : Int) == ((firstIx l u : Nat) : Int)) = decide (y = u))) := Lib.hid (fun j u hu => by
            rw [Bool.eq_iff_iff, beq_iff_eq, decide_eq_true_eq, ← first_eq hy hu]
            omega)
          obtain ⟨F, hF⟩ : ∃ F, firstIx l y = F := ⟨_, rfl⟩
          rw [hF] at hF1 k1 k2 HFX
          have f1 : decide ((F : Int) < 0) = false := decide_eq_false (by omega)
          have f2 : decide ((k : Int) < (F : Int)) = false := decide_eq_false (by omega)
          have f2b : decide (k < F) = false := decide_eq_false (by omega)
          have f3 : (F : Int) < (i : Int) := by omega
          have f4 : (k : Int) < (i : Int) := by omega
          have y2 := inc64 k (by omega)
          have HY := Lib.hid hy
          clear hy hF hck hcf HN2 eg hF2
          go_wp2_with fail
          go_quiet (fail)
          have HBN := Lib.hid (below_drewN HBK.out nq)
          clear k1 k2 HBK f1 f2 f2b f3
          generalize World.drewN _ nq = WN at *
          go_wp2_with fail
          go_loopw [114] (fun s114 wq => ∃ j : Nat, j ≤ k ∧ s114 = .int .i64 (j : Int) ∧ Hid (Below w3.heap.size w3 wq)) (fun s114 _ => k - (intOf s114).toNat)
          case atStart => exact ⟨0, by omega, rfl, HBN⟩
          case round =>
            clear HBN
            obtain ⟨j, hj, rfl, HBJ⟩ := hrel
            by_cases hjl : j < k
            · have p1 : decide ((j : Int) < (k : Int)) = true := decide_eq_true (by omega)
              have p2 : decide (j < k) = true := decide_eq_true hjl
              obtain ⟨u, hu⟩ : ∃ u, l[j]? = some u := ⟨_, List.getElem?_eq_getElem (by rw [HL.out]; omega)⟩
              have hcj : (classL l)[j]? = some (firstIx l u) := by simp [classL, hu]
              have hck : (classL l)[k]? = some F := by
                have h1 := HFX.out k y HY.out
                rw [decide_eq_true rfl, beq_iff_eq] at h1
                simp only [classL, List.getElem?_map, HY.out, Option.map_some, Option.some.injEq]
                omega
              have HN2 := HN1.out.keep HBJ.out
              obtain ⟨g3, o3, eg, k1⟩ := HN2.at hck
              have eg2 := Option.some.inj eg
              cases eg2
              obtain ⟨g4, o4, eg, k2⟩ := HN2.at hcj
              have eg2 := Option.some.inj eg
              cases eg2
              have HDj := HD3.out.keep HBJ.out
              obtain ⟨b5, o5, rfl, hc5⟩ := HDj.at HY.out
              obtain ⟨b6, o6, eg, hc6⟩ := HDj.at hu
              have eg2 := Option.some.inj eg
              cases eg2
              have c0 := hc5 0 (by omega)
              have c1 := hc5 1 (by omega)
              have c2 := hc5 2 (by omega)
              have c3 := hc5 3 (by omega)
              rw [Nat.add_zero] at c0
              have m0 := hc6 0 (by omega)
              have m1 := hc6 1 (by omega)
              have m2 := hc6 2 (by omega)
              have m3 := hc6 3 (by omega)
              rw [Nat.add_zero] at m0
              have tq := HFX.out j u hu
              obtain ⟨G, hG⟩ : ∃ G, firstIx l u = G := ⟨_, rfl⟩
              rw [hG] at k2 tq
              obtain ⟨bq, hbq⟩ : ∃ bq, decide (y = u) = bq := ⟨_, rfl⟩
              rw [hbq] at tq
              have EQ := fun W => eqF 35 Tryd.underlying35 y u W
              rw [hbq] at EQ
              have tqb : (F == G) = bq := by rw [← tq, Bool.eq_iff_iff, beq_iff_eq, beq_iff_eq]; omega
              have f5 : (j : Int) < (i : Int) := by omega
              have y3 := inc64 j (by omega)
              clear hu hcj hck HN2 eg hG hbq hc5 hc6 HDj
              go_wp2_with fail
              go_quiet (fail)
              have HBN := Lib.hid (below_drewN HBJ.out nq)
              clear k1 k2 c0 c1 c2 c3 m0 m1 m2 m3 HBJ EQ tq tqb
              generalize World.drewN _ nq = WN2 at *
              go_wp2_with fail
              go_roundw
              case rel => exact ⟨j + 1, by omega, by simp, HBN⟩
              case measure => simp [intOf]; omega
            · obtain rfl : j = k := by omega
              have p1 : decide ((j : Int) < (j : Int)) = false := decide_eq_false (by omega)
              have p2 : decide (j < j) = false := decide_eq_false (by omega)
              go_wp2_with fail
              go_roundw
              case rel => exact ⟨j + 1, by omega, by simp, HBJ⟩
              case measure => simp [intOf]; omega
        · obtain rfl : k = i := by omega
          have v1 : decide ((k : Int) < (k : Int)) = false := decide_eq_false (by omega)
          have v2 : decide (k < k) = false := decide_eq_false (by omega)
          have HF := Lib.hid (bchain HB3.out HBK.out)
          clear HBK
          go_wp2_with fail
          refine (awake_any _ (HE.out.keep HF.out)).mono ?_
          rintro e w9 ⟨rfl, hb⟩
          have HG := Lib.hid (bchain HF.out hb)
          clear hb HF
          go_wp2_with fail
          go_ret
          exact ⟨rfl, HG.out⟩
theorem classes_open (v0 v1 : Value) (w : World) (he : Env w) (h0 : ∃ l : List Nat, BV w v0 l ∧ ∀ x ∈ l, x < 256) (h1 : ∃ l : List Nat, BV w v1 l ∧ ∀ x ∈ l, x < 256) : Calls Tryd.prog 7 #[v0, v1] w (fun e w' => e = .returned (.bool true) ∧ Below w.heap.size w w') := by
  obtain ⟨l0, a0, b0⟩ := h0
  obtain ⟨l1, a1, b1⟩ := h1
  obtain ⟨A1, c1, rfl, hc⟩ := a1.len
  exact cls_walk v0 l0 A1 c1 l1.length l1 w he a0 b0 rfl hc a1 b1
end Go.Proofs.YtaadipccgckehaaDoor
