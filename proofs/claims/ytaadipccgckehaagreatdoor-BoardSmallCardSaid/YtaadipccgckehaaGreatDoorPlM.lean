/- Plain: the text of a hand; reading it as the program does and as the reference does. No program. Plain: the reference's reading of a hand and of a deal; a deal's text has one reading. No program. Plain: the texts of deals and of boards, each with one reading. No program. Strings split at one byte; what card.Parse makes of a string. No program. What deal.Read makes of a string. No program. What board.Read makes of a string. No program. Plain: what the reference's writing and reading of hands, deals and records keep up. No program. -/
import Derived.Test.YtaadipccgckehaaGreatDoorBP
import Derived.Lib.Bytealg
import Derived.Lib.ItoaNum
import Derived.Lib.SplitLaws
import Derived.Lib.IndexBytes
import Derived.Lib.Strings
import Derived.Lib.CutLaws
import Derived.Lib.AtoiAll
namespace Go.Proofs.YtaadipccgckehaaGreatDoor
namespace Pl

/-- The signs of the ranks. -/
def rankS : List UInt8 := [50, 51, 52, 53, 54, 55, 56, 57, 84, 74, 81, 75, 65]
def sign (r : Nat) : UInt8 := rankS.getD r 0
def rkI (c : UInt8) : Int := Lib.indexByte rankS c
theorem rk_sign : ∀ r, r < 13 → rkI (sign r) = (r : Int) := by decide
theorem sign_46 : ∀ r, r < 13 → sign r ≠ 46 ∧ sign r ≠ 32 := by decide
theorem sign_rk (c : UInt8) (h : 0 ≤ rkI c) : (rkI c).toNat < 13 ∧ sign (rkI c).toNat = c := by
  have key : ∀ n, n < 256 → rkI (UInt8.ofNat n) < 0 ∨ ((rkI (UInt8.ofNat n)).toNat < 13 ∧ sign (rkI (UInt8.ofNat n)).toNat = UInt8.ofNat n) := by decide +kernel
  have := key c.toNat c.toNat_lt
  rw [UInt8.ofNat_toNat] at this
  rcases this with h1 | h1
  · omega
  · exact h1
theorem rk_iff (c : UInt8) (k : Nat) (hk : k < 13) : sign k = c ↔ rkI c = k := by
  constructor
  · rintro rfl; exact rk_sign k hk
  · intro h
    have := (sign_rk c (by omega)).2
    rw [h] at this
    exact this
theorem rk_lt (c : UInt8) : rkI c < 13 := by
  rcases Int.lt_or_le (rkI c) 0 with h | h
  · omega
  · have := (sign_rk c h).1; omega
theorem rk_ge (c : UInt8) : -1 ≤ rkI c := by
  have key : ∀ n, n < 256 → -1 ≤ rkI (UInt8.ofNat n) := by decide +kernel
  have := key c.toNat c.toNat_lt
  rwa [UInt8.ofNat_toNat] at this
/-- The cards of a hand, the greatest first. -/
def cardsL (m : Nat) : List Nat := (List.range 52).reverse.filter m.testBit
/-- The signs of a suit. -/
def suitR (m s : Nat) : List Nat := (List.range 13).reverse.filter (fun r => m.testBit (13 * s + r))
def suitL (m s : Nat) : List UInt8 := (suitR m s).map sign
def writeL (m : Nat) : List UInt8 := suitL m 3 ++ 46 :: (suitL m 2 ++ 46 :: (suitL m 1 ++ 46 :: suitL m 0))
theorem suit_lt (m s : Nat) : ∀ r ∈ suitR m s, r < 13 ∧ m.testBit (13 * s + r) = true := by
  intro r hr
  unfold suitR at hr
  rw [List.mem_filter, List.mem_reverse, List.mem_range] at hr
  exact hr
theorem suit_len (m s : Nat) : (suitL m s).length ≤ 13 := by
  unfold suitL suitR
  rw [List.length_map]
  exact Nat.le_trans (List.length_filter_le _ _) (by simp)
theorem suit_no (m s : Nat) : ∀ c ∈ suitL m s, c ≠ 46 ∧ c ≠ 32 := by
  intro c hc
  unfold suitL at hc
  obtain ⟨r, hr, rfl⟩ := List.mem_map.1 hc
  exact sign_46 r (suit_lt m s r hr).1
theorem range_suit : ∀ s, s < 4 → ((List.range 52).reverse.filter (fun c => decide (c / 13 = s))).map (· % 13) = (List.range 13).reverse ∧ ((List.range 52).reverse.filter (fun c => decide (c / 13 = s))) = (List.range 13).reverse.map (13 * s + ·) := by decide
/-- The cards of a suit, card by card. -/
theorem cards_suit (m s : Nat) (hs : s < 4) : ((cardsL m).filter (fun c => decide (c / 13 = s))).map (fun c => sign (c % 13)) = suitL m s := by
  unfold cardsL suitL suitR
  rw [List.filter_filter]
  rw [show (fun a => decide (a / 13 = s) && m.testBit a) = (fun a => m.testBit a && decide (a / 13 = s)) from funext fun a => Bool.and_comm _ _, ← List.filter_filter, (range_suit s hs).2, List.filter_map, List.map_map]
  apply List.map_congr_left
  intro r hr
  have h := (List.mem_filter.1 hr).1
  rw [List.mem_reverse, List.mem_range] at h
  show sign ((13 * s + r) % 13) = sign r
  rw [Nat.mul_add_mod, Nat.mod_eq_of_lt h]
/-- One character of a part. -/
def pstep (b : Nat) (st : Option (Nat × Int)) (c : UInt8) : Option (Nat × Int) :=
  match st with
  | none => none
  | some (m, last) => if rkI c < 0 ∨ last ≤ rkI c then none else some (m ||| 2 ^ (b + (rkI c).toNat), rkI c)
def partF (b m : Nat) (l : List UInt8) : Option (Nat × Int) := l.foldl (pstep b) (some (m, 13))
def parseTo (ps : Nat → List UInt8) : Nat → Option Nat
  | 0 => some 0
  | i + 1 => (parseTo ps i).bind fun m => (partF ((3 - i) * 13) m (ps i)).map (·.1)
def orAll (b : Nat) (m : Nat) (L : List Nat) : Nat := L.foldl (fun m r => m ||| 2 ^ (b + r)) m
theorem or_bit (b i : Nat) : ∀ (L : List Nat) (m : Nat), (orAll b m L).testBit i = true ↔ m.testBit i = true ∨ ∃ r ∈ L, i = b + r
  | [], m => by simp [orAll]
  | r :: L, m => by
    show (orAll b (m ||| 2 ^ (b + r)) L).testBit i = true ↔ _
    rw [or_bit b i L, Nat.testBit_or, Bool.or_eq_true, Nat.testBit_two_pow, decide_eq_true_eq]
    constructor
    · rintro ((h | h) | ⟨x, hx, h⟩)
      · exact .inl h
      · exact .inr ⟨r, by simp, h.symm⟩
      · exact .inr ⟨x, by simp [hx], h⟩
    · rintro (h | ⟨x, hx, h⟩)
      · exact .inl (.inl h)
      · rcases List.mem_cons.1 hx with rfl | hx
        · exact .inl (.inr h.symm)
        · exact .inr ⟨x, hx, h⟩
theorem part_of (b : Nat) : ∀ (L : List Nat) (m : Nat) (last : Int), L.Pairwise (· > ·) → (∀ r ∈ L, r < 13 ∧ (r : Int) < last) → ∃ l', (L.map sign).foldl (pstep b) (some (m, last)) = some (orAll b m L, l')
  | [], m, last, _, _ => ⟨last, rfl⟩
  | r :: L, m, last, hp, hl => by
    have h0 := hl r (by simp)
    have h1 : rkI (sign r) = r := rk_sign r h0.1
    have h2 : pstep b (some (m, last)) (sign r) = some (m ||| 2 ^ (b + r), (r : Int)) := by
      unfold pstep
      simp only [h1]
      rw [if_neg (by omega)]
      simp
    rw [List.pairwise_cons] at hp
    obtain ⟨l', h⟩ := part_of b L (m ||| 2 ^ (b + r)) r hp.2 (fun x hx => ⟨(hl x (by simp [hx])).1, by have := hp.1 x hx; omega⟩)
    exact ⟨l', by rw [List.map_cons, List.foldl_cons, h2, h]; rfl⟩
theorem suit_desc (m s : Nat) : (suitR m s).Pairwise (· > ·) := by
  unfold suitR
  apply List.Pairwise.filter
  rw [List.pairwise_reverse]
  exact List.pairwise_lt_range
/-- The text of a hand is read as it was. -/
theorem parse_write (M : Nat) (hM : M < 4503599627370496) (ps : Nat → List UInt8) (h : ∀ i, i < 4 → ps i = suitL M (3 - i)) : parseTo ps 4 = some M := by
  have key : ∀ k, k ≤ 4 → ∃ m, parseTo ps k = some m ∧ ∀ i, m.testBit i = true ↔ (M.testBit i = true ∧ 13 * (4 - k) ≤ i) := by
    intro k
    induction k with
    | zero =>
      intro _
      refine ⟨0, rfl, fun i => ?_⟩
      rw [Nat.zero_testBit]
      constructor
      · intro h; cases h
      · rintro ⟨h1, h2⟩
        rw [bit_high hM (by omega)] at h1
        cases h1
    | succ k ih =>
      intro hk
      obtain ⟨m, h1, h2⟩ := ih (by omega)
      obtain ⟨l', h3⟩ := part_of ((3 - k) * 13) (suitR M (3 - k)) m 13 (suit_desc _ _) (fun r hr => by have := (suit_lt _ _ r hr).1; omega)
      refine ⟨orAll ((3 - k) * 13) m (suitR M (3 - k)), ?_, fun i => ?_⟩
      · rw [parseTo, h1]
        show (partF ((3 - k) * 13) m (ps k)).map (·.1) = _
        unfold partF
        rw [h k (by omega)]
        unfold suitL
        rw [h3]
        rfl
      · rw [or_bit, h2]
        constructor
        · rintro (⟨h4, h5⟩ | ⟨r, hr, rfl⟩)
          · exact ⟨h4, by omega⟩
          · have := suit_lt _ _ r hr
            rw [Nat.mul_comm (3 - k) 13]
            exact ⟨this.2, by omega⟩
        · rintro ⟨h4, h5⟩
          by_cases h6 : 13 * (4 - k) ≤ i
          · exact .inl ⟨h4, h6⟩
          · right
            refine ⟨i - (3 - k) * 13, ?_, by omega⟩
            unfold suitR
            rw [List.mem_filter, List.mem_reverse, List.mem_range]
            exact ⟨by omega, by rw [show 13 * (3 - k) + (i - (3 - k) * 13) = i by omega]; exact h4⟩
  obtain ⟨m, h1, h2⟩ := key 4 (Nat.le_refl _)
  rw [h1]
  congr 1
  apply Nat.eq_of_testBit_eq
  intro i
  have := h2 i
  rcases ha : m.testBit i with _ | _ <;> rcases hb : M.testBit i with _ | _
  · rfl
  · rw [this.2 ⟨hb, by omega⟩] at ha; cases ha
  · rw [(this.1 ha).1] at hb; cases hb
  · rfl
end Pl
end Go.Proofs.YtaadipccgckehaaGreatDoor
namespace Go.Proofs.YtaadipccgckehaaGreatDoor
namespace Pl

/-- One character, as the reference reads it: the mask, the suit, the rank that the next one must be below. -/
def rpstep (st : Option (Nat × Nat × Int)) (c : UInt8) : Option (Nat × Nat × Int) :=
  match st with
  | none => none
  | some (m, suit, last) =>
    if c = 46 then (if suit = 0 then none else some (m, suit - 1, 13))
    else if rkI c < 0 ∨ last ≤ rkI c then none else some (m + 2 ^ (13 * suit + (rkI c).toNat), suit, rkI c)
def rparse (l : List UInt8) : Option Nat :=
  match l.foldl rpstep (some (0, 3, 13)) with
  | some (m, 0, _) => some m
  | _ => none
theorem rp_none (l : List UInt8) : l.foldl rpstep none = none := by
  induction l with
  | nil => rfl
  | cons c l ih => exact ih
/-- The text of what lies below a rank of a suit. -/
def wr : Nat → Nat → Nat → List UInt8
  | 0, last, X => ((List.range last).reverse.filter (fun r => X.testBit (13 * 0 + r))).map sign
  | s + 1, last, X => ((List.range last).reverse.filter (fun r => X.testBit (13 * (s + 1) + r))).map sign ++ 46 :: wr s 13 X
def lowW : Nat → Nat → List UInt8
  | 0, _ => []
  | s + 1, X => 46 :: wr s 13 X
theorem wr_eq (s last X : Nat) : wr s last X = ((List.range last).reverse.filter (fun r => X.testBit (13 * s + r))).map sign ++ lowW s X := by
  cases s <;> simp [wr, lowW]
theorem wr_write (X : Nat) : writeL X = wr 3 13 X := rfl
theorem wr_congr : ∀ (s last X Y : Nat), (∀ i, i < 13 * s + last → X.testBit i = Y.testBit i) → wr s last X = wr s last Y
  | 0, last, X, Y, h => by
    simp only [wr]
    congr 1
    apply List.filter_congr
    intro r hr
    rw [List.mem_reverse, List.mem_range] at hr
    exact h _ (by omega)
  | s + 1, last, X, Y, h => by
    simp only [wr]
    rw [wr_congr s 13 X Y (fun i hi => h i (by omega))]
    congr 2
    apply List.filter_congr
    intro r hr
    rw [List.mem_reverse, List.mem_range] at hr
    exact h _ (by omega)
theorem low_congr (s X Y : Nat) (h : ∀ i, i < 13 * s → X.testBit i = Y.testBit i) : lowW s X = lowW s Y := by
  cases s with
  | zero => rfl
  | succ s => exact congrArg (46 :: ·) (wr_congr s 13 X Y (fun i hi => h i (by omega)))
theorem range_rev (n : Nat) : (List.range (n + 1)).reverse = n :: (List.range n).reverse := by
  rw [List.range_succ, List.reverse_append]; rfl
theorem wr_skip (s k X : Nat) (h : X.testBit (13 * s + k) = false) : wr s (k + 1) X = wr s k X := by
  rw [wr_eq, wr_eq, range_rev, List.filter_cons_of_neg (by simp [h])]
theorem wr_put (s k X : Nat) (h : X < 2 ^ (13 * s + k)) : wr s (k + 1) (2 ^ (13 * s + k) + X) = sign k :: wr s k X := by
  have e : ∀ i, (2 ^ (13 * s + k) + X).testBit i = (decide (13 * s + k = i) || X.testBit i) := fun i => by
    have h1 := Nat.two_pow_add_eq_or_of_lt h 1
    rw [Nat.mul_one] at h1
    rw [h1, Nat.testBit_or, Nat.testBit_two_pow]
  rw [wr_eq, wr_eq, range_rev, List.filter_cons_of_pos (by rw [e]; simp), List.map_cons, List.cons_append]
  congr 2
  · congr 1
    apply List.filter_congr
    intro r hr
    rw [List.mem_reverse, List.mem_range] at hr
    rw [e, show decide (13 * s + k = 13 * s + r) = false from decide_eq_false (by omega), Bool.false_or]
  · exact low_congr s _ _ (fun i hi => by rw [e, show decide (13 * s + k = i) = false from decide_eq_false (by omega), Bool.false_or])
theorem Nat.lt_of_testBit_top {X k : Nat} (h : X < 2 ^ (k + 1)) (hb : X.testBit k = false) : X < 2 ^ k := by
  apply Nat.lt_pow_two_of_testBit
  intro i hi
  rcases Nat.lt_or_ge k i with h1 | h1
  · exact Nat.testBit_lt_two_pow (Nat.lt_of_lt_of_le h (Nat.pow_le_pow_right (by omega) (by omega)))
  · obtain rfl : i = k := by omega
    exact hb
theorem Nat.split_top {X k : Nat} (h : X < 2 ^ (k + 1)) (hb : X.testBit k = true) : ∃ Y, X = 2 ^ k + Y ∧ Y < 2 ^ k := by
  have h1 : 2 ^ k ≤ X := Nat.ge_two_pow_of_testBit hb
  rw [Nat.pow_succ] at h
  exact ⟨X - 2 ^ k, by omega, by omega⟩
/-- What is written is read. -/
theorem rp_complete : ∀ (s last X m : Nat) (l : Int), s ≤ 3 → last ≤ 13 → (last : Int) ≤ l → X < 2 ^ (13 * s + last) → ∃ l', (wr s last X).foldl rpstep (some (m, s, l)) = some (m + X, 0, l') := by
  intro s
  induction s with
  | zero =>
    intro last
    induction last with
    | zero =>
      intro X m l _ _ _ h
      obtain rfl : X = 0 := by simpa using h
      exact ⟨l, rfl⟩
    | succ k ih =>
      intro X m l hs h13 hl hX
      rcases hb : X.testBit (13 * 0 + k) with _ | _
      · rw [wr_skip _ _ _ hb]
        exact ih X m l hs (by omega) (by omega) (Nat.lt_of_testBit_top hX hb)
      · obtain ⟨Y, rfl, hY⟩ := Nat.split_top (k := 13 * 0 + k) hX hb
        rw [wr_put _ _ _ hY, List.foldl_cons]
        have hr := rk_sign k (by omega)
        have h0 : rpstep (some (m, 0, l)) (sign k) = some (m + 2 ^ (13 * 0 + k), 0, (k : Int)) := by
          unfold rpstep
          simp only
          rw [if_neg (sign_46 k (by omega)).1, hr, if_neg (by omega)]
          simp
        rw [h0]
        obtain ⟨l', h1⟩ := ih Y (m + 2 ^ (13 * 0 + k)) k hs (by omega) (by omega) hY
        exact ⟨l', by rw [h1, Nat.add_assoc]⟩
  | succ s ihs =>
    intro last
    induction last with
    | zero =>
      intro X m l hs _ _ h
      have e : wr (s + 1) 0 X = 46 :: wr s 13 X := rfl
      rw [e, List.foldl_cons]
      exact ihs 13 X m 13 (by omega) (by omega) (by omega) h
    | succ k ih =>
      intro X m l hs h13 hl hX
      rcases hb : X.testBit (13 * (s + 1) + k) with _ | _
      · rw [wr_skip _ _ _ hb]
        exact ih X m l hs (by omega) (by omega) (Nat.lt_of_testBit_top hX hb)
      · obtain ⟨Y, rfl, hY⟩ := Nat.split_top (k := 13 * (s + 1) + k) hX hb
        rw [wr_put _ _ _ hY, List.foldl_cons]
        have hr := rk_sign k (by omega)
        have h0 : rpstep (some (m, s + 1, l)) (sign k) = some (m + 2 ^ (13 * (s + 1) + k), s + 1, (k : Int)) := by
          unfold rpstep
          simp only
          rw [if_neg (sign_46 k (by omega)).1, hr, if_neg (by omega)]
          simp
        rw [h0]
        obtain ⟨l', h1⟩ := ih Y (m + 2 ^ (13 * (s + 1) + k)) k hs (by omega) (by omega) hY
        exact ⟨l', by rw [h1, Nat.add_assoc]⟩
/-- What is read was written. -/
theorem rp_sound : ∀ (t : List UInt8) (m s m' : Nat) (last l' : Int), 0 ≤ last → last ≤ 13 → t.foldl rpstep (some (m, s, last)) = some (m', 0, l') → ∃ X, X < 2 ^ (13 * s + last.toNat) ∧ m' = m + X ∧ t = wr s last.toNat X := by
  intro t
  induction t with
  | nil =>
    intro m s m' last l' h0 h1 h
    injection h with h
    injection h with h2 h3
    injection h3 with h3 _
    subst h2 h3
    exact ⟨0, Nat.two_pow_pos _, rfl, by simp [wr]⟩
  | cons c t ih =>
    intro m s m' last l' h0 h1 h
    rw [List.foldl_cons] at h
    by_cases hc : c = 46
    · subst hc
      cases s with
      | zero => rw [show rpstep (some (m, 0, last)) 46 = none from rfl, rp_none] at h; cases h
      | succ s =>
        rw [show rpstep (some (m, s + 1, last)) 46 = some (m, s, 13) from rfl] at h
        obtain ⟨X, h2, h3, h4⟩ := ih m s m' 13 l' (by omega) (by omega) h
        have h5 : 2 ^ (13 * s + (13 : Int).toNat) = 2 ^ (13 * (s + 1)) := rfl
        rw [h5] at h2
        refine ⟨X, Nat.lt_of_lt_of_le h2 (Nat.pow_le_pow_right (by omega) (by omega)), h3, ?_⟩
        rw [wr_eq, h4]
        have : (List.range last.toNat).reverse.filter (fun r => X.testBit (13 * (s + 1) + r)) = [] := by
          rw [List.filter_eq_nil_iff]
          intro r _
          rw [Nat.testBit_lt_two_pow (Nat.lt_of_lt_of_le h2 (Nat.pow_le_pow_right (by omega) (by omega)))]
          simp
        rw [this]
        rfl
    · by_cases hr : rkI c < 0 ∨ last ≤ rkI c
      · rw [show rpstep (some (m, s, last)) c = none by unfold rpstep; simp only; rw [if_neg hc, if_pos hr], rp_none] at h; cases h
      · rw [show rpstep (some (m, s, last)) c = some (m + 2 ^ (13 * s + (rkI c).toNat), s, rkI c) by unfold rpstep; simp only; rw [if_neg hc, if_neg hr]] at h
        obtain ⟨X, h2, h3, h4⟩ := ih _ s m' (rkI c) l' (by omega) (by omega) h
        obtain ⟨k, hk⟩ : ∃ k, (rkI c).toNat = k := ⟨_, rfl⟩
        have hs := (sign_rk c (by omega)).2
        rw [hk] at h2 h3 h4 hs
        obtain ⟨d, hd⟩ : ∃ d, last.toNat = k + 1 + d := ⟨last.toNat - (k + 1), by omega⟩
        refine ⟨2 ^ (13 * s + k) + X, ?_, by omega, ?_⟩
        · have : 2 ^ (13 * s + k) + X < 2 ^ (13 * s + (k + 1)) := by
            rw [show 13 * s + (k + 1) = 13 * s + k + 1 by omega, Nat.pow_succ]; omega
          exact Nat.lt_of_lt_of_le this (Nat.pow_le_pow_right (by omega) (by omega))
        · rw [h4, ← hs, ← wr_put s k X h2, hd]
          have hlt : 2 ^ (13 * s + k) + X < 2 ^ (13 * s + (k + 1)) := by
            rw [show 13 * s + (k + 1) = 13 * s + k + 1 by omega, Nat.pow_succ]; omega
          clear hd
          induction d with
          | zero => rfl
          | succ d ih2 =>
            rw [ih2, show k + 1 + (d + 1) = k + 1 + d + 1 by omega, wr_skip]
            exact Nat.testBit_lt_two_pow (Nat.lt_of_lt_of_le hlt (Nat.pow_le_pow_right (by omega) (by omega)))
theorem rparse_iff (t : List UInt8) (m : Nat) : rparse t = some m ↔ (m < 4503599627370496 ∧ t = writeL m) := by
  constructor
  · intro h
    unfold rparse at h
    split at h
    · rename_i m' l' heq
      obtain ⟨X, h1, h2, h3⟩ := rp_sound t 0 3 m' 13 l' (by omega) (by omega) heq
      injection h with h
      have : m = X := by omega
      subst this
      exact ⟨h1, by rw [h3, wr_write]; rfl⟩
    · cases h
  · rintro ⟨h1, rfl⟩
    obtain ⟨l', h2⟩ := rp_complete 3 13 m 0 13 (by omega) (by omega) (by omega) h1
    unfold rparse
    rw [wr_write, h2]
    show some (0 + m) = some m
    rw [Nat.zero_add]
end Pl
end Go.Proofs.YtaadipccgckehaaGreatDoor
namespace Go.Proofs.YtaadipccgckehaaGreatDoor
namespace Pl

/-- Words and the spaces between them. -/
def sp : List (List UInt8) → List UInt8
  | [] => []
  | w :: l => w ++ l.flatMap (fun x => 32 :: x)
theorem sp_cons2 (w v : List UInt8) (l : List (List UInt8)) : sp (w :: v :: l) = w ++ 32 :: sp (v :: l) := by simp [sp]
theorem sp_one (w : List UInt8) : sp [w] = w := by simp [sp]
/-- The next hand of a deal that is read. -/
def pushR (acc : List Nat) (cur : List UInt8) : Option (List Nat) := (rparse cur).bind fun m => if 3 < acc.length then none else some (acc ++ [m])
def rdGo : List Nat → List UInt8 → List UInt8 → Option (List Nat)
  | acc, cur, [] => pushR acc cur
  | acc, cur, c :: rest => if c = 32 then (pushR acc cur).bind fun acc' => rdGo acc' [] rest else rdGo acc (cur ++ [c]) rest
theorem push_some {acc L : List Nat} {cur : List UInt8} (h : pushR acc cur = some L) : ∃ m, m < 4503599627370496 ∧ cur = writeL m ∧ L = acc ++ [m] := by
  unfold pushR at h
  rcases hr : rparse cur with _ | m
  · rw [hr] at h; cases h
  · rw [hr] at h
    obtain ⟨h1, h2⟩ := (rparse_iff cur m).1 hr
    refine ⟨m, h1, h2, ?_⟩
    simp only [Option.bind_some] at h
    split at h
    · cases h
    · exact (Option.some.inj h).symm
theorem push_write {acc : List Nat} {m : Nat} (h : m < 4503599627370496) (ha : acc.length ≤ 3) : pushR acc (writeL m) = some (acc ++ [m]) := by
  unfold pushR
  rw [(rparse_iff _ m).2 ⟨h, rfl⟩]
  simp only [Option.bind_some]
  rw [if_neg (by omega)]
theorem rd_sound : ∀ (t : List UInt8) (acc : List Nat) (cur : List UInt8) (L : List Nat), rdGo acc cur t = some L → ∃ Ms : List Nat, Ms ≠ [] ∧ L = acc ++ Ms ∧ (∀ m ∈ Ms, m < 4503599627370496) ∧ cur ++ t = sp (Ms.map writeL) := by
  intro t
  induction t with
  | nil =>
    intro acc cur L h
    obtain ⟨m, h1, h2, h3⟩ := push_some h
    exact ⟨[m], by simp, h3, by simpa using h1, by rw [List.append_nil, h2]; simp [sp]⟩
  | cons c t ih =>
    intro acc cur L h
    unfold rdGo at h
    by_cases hc : c = 32
    · rw [if_pos hc] at h
      rcases hp : pushR acc cur with _ | acc'
      · rw [hp] at h; cases h
      · rw [hp] at h
        obtain ⟨m, h1, h2, h3⟩ := push_some hp
        obtain ⟨Ms, g1, g2, g3, g4⟩ := ih acc' [] L h
        obtain ⟨x, Ms', rfl⟩ := List.exists_cons_of_ne_nil g1
        refine ⟨m :: x :: Ms', by simp, by rw [g2, h3]; simp, ?_, ?_⟩
        · intro y hy
          rcases List.mem_cons.1 hy with rfl | hy
          · exact h1
          · exact g3 y hy
        · rw [List.nil_append] at g4
          rw [hc, h2, g4, List.map_cons, List.map_cons, List.map_cons, sp_cons2]
    · rw [if_neg hc] at h
      obtain ⟨Ms, g1, g2, g3, g4⟩ := ih acc _ L h
      exact ⟨Ms, g1, g2, g3, by rw [← g4]; simp⟩
theorem rd_skip : ∀ (l : List UInt8) (acc : List Nat) (cur rest : List UInt8), (∀ c ∈ l, c ≠ 32) → rdGo acc cur (l ++ rest) = rdGo acc (cur ++ l) rest
  | [], acc, cur, rest, _ => by simp
  | c :: l, acc, cur, rest, h => by
    rw [List.cons_append, rdGo, if_neg (h c (by simp)), rd_skip l acc _ rest (fun x hx => h x (by simp [hx]))]
    simp
theorem write_no (m : Nat) : ∀ c ∈ writeL m, c ≠ 32 := by
  intro c hc
  unfold writeL at hc
  simp only [List.mem_append, List.mem_cons] at hc
  rcases hc with h | h | h | h | h | h | h
  all_goals first
    | exact (suit_no m _ c h).2
    | (subst h; decide)
theorem rd_word (m : Nat) (acc : List Nat) (rest : List UInt8) (h : m < 4503599627370496) (ha : acc.length ≤ 3) : rdGo acc [] (writeL m ++ 32 :: rest) = rdGo (acc ++ [m]) [] rest := by
  rw [rd_skip _ _ _ _ (write_no m), List.nil_append, rdGo, if_pos rfl, push_write h ha]
  rfl
theorem rd_last (m : Nat) (acc : List Nat) (h : m < 4503599627370496) (ha : acc.length ≤ 3) : rdGo acc [] (writeL m) = some (acc ++ [m]) := by
  have := rd_skip (writeL m) acc [] [] (write_no m)
  rw [List.append_nil, List.nil_append] at this
  rw [this, rdGo, push_write h ha]
def four (D : Nat → Nat) : List Nat := [D 0, D 1, D 2, D 3]
def dealT (D : Nat → Nat) : List UInt8 := writeL (D 0) ++ 32 :: (writeL (D 1) ++ 32 :: (writeL (D 2) ++ 32 :: writeL (D 3)))
def textD (D : Nat → Nat) : List UInt8 := 78 :: 58 :: dealT D
theorem deal_sp (D : Nat → Nat) : dealT D = sp ((four D).map writeL) := by
  simp [dealT, four, sp]
theorem rd_iff (t : List UInt8) (D : Nat → Nat) : rdGo [] [] t = some (four D) ↔ (∀ k, k < 4 → D k < 4503599627370496) ∧ t = dealT D := by
  constructor
  · intro h
    obtain ⟨Ms, g1, g2, g3, g4⟩ := rd_sound t [] [] _ h
    rw [List.nil_append] at g2 g4
    subst g2
    refine ⟨fun k hk => g3 _ ?_, by rw [g4, deal_sp]⟩
    unfold four
    rcases (by omega : k = 0 ∨ k = 1 ∨ k = 2 ∨ k = 3) with rfl | rfl | rfl | rfl <;> simp
  · rintro ⟨h, rfl⟩
    unfold dealT
    rw [rd_word _ _ _ (h 0 (by omega)) (by simp), rd_word _ _ _ (h 1 (by omega)) (by simp), rd_word _ _ _ (h 2 (by omega)) (by simp), rd_last _ _ (h 3 (by omega)) (by simp)]
    rfl
theorem rd_len {t : List UInt8} {L : List Nat} (h : rdGo [] [] t = some L) (h4 : L.length = 4) : ∃ D, L = four D ∧ (∀ k, k < 4 → D k < 4503599627370496) ∧ t = dealT D := by
  match L, h4 with
  | [a, b, c, d], _ =>
    refine ⟨fun k => if k = 0 then a else if k = 1 then b else if k = 2 then c else d, rfl, ?_⟩
    exact (rd_iff t (fun k => if k = 0 then a else if k = 1 then b else if k = 2 then c else d)).1 h
/-- The number of a board. -/
def numL (n : Nat) : List UInt8 := if n < 10 then [UInt8.ofNat (48 + n)] else if n < 100 then [UInt8.ofNat (48 + n / 10), UInt8.ofNat (48 + n % 10)] else [UInt8.ofNat (48 + n / 100), UInt8.ofNat (48 + n / 10 % 10), UInt8.ofNat (48 + n % 10)]
theorem num_itoa (n : Nat) (h : n < 1000) : Lib.itoa (n : Int) = numL n := by
  unfold Lib.itoa numL
  rw [if_neg (by omega), Int.toNat_natCast]
  split
  · exact Lib.decDigits_one (by assumption)
  · split
    · exact Lib.decDigits_two (by assumption) (by assumption)
    · rw [Lib.decDigits, dif_neg (by omega), Lib.decDigits_two (by omega) (by omega)]
      simp only [List.cons_append, List.nil_append]
      rw [Nat.div_div_eq_div_mul]
def dealP (n : Nat) : Nat := (n - 1) % 4
def vulP (n : Nat) : Nat := (n - 1 + (n - 1) / 4) % 4
def seatW (d : Nat) : List UInt8 := [([78, 69, 83, 87] : List UInt8).getD d 0]
def wordW (v : Nat) : List UInt8 := if v = 0 then [110, 111, 110, 101] else if v = 1 then [78, 83] else if v = 2 then [69, 87] else [98, 111, 116, 104]
def headL (n : Nat) : List UInt8 := sp [numL n, seatW (dealP n), wordW (vulP n), []]
def textB (n : Nat) (D : Nat → Nat) : List UInt8 := sp [numL n, seatW (dealP n), wordW (vulP n), textD D]
theorem text_head (n : Nat) (D : Nat → Nat) : textB n D = headL n ++ textD D := by simp [textB, headL, sp]
theorem num_no : ∀ n, n < 129 → ∀ c ∈ numL n, c ≠ 32 := by decide +kernel
def val (l : List UInt8) : Nat := l.foldl (fun a c => 10 * a + (c.toNat - 48)) 0
theorem val_num : ∀ n, n < 129 → val (numL n) = n := by decide +kernel
theorem first_sp {l m : List UInt8} {a b : List UInt8} (hl : ∀ c ∈ l, c ≠ 32) (hm : ∀ c ∈ m, c ≠ 32) (h : l ++ 32 :: a = m ++ 32 :: b) : l = m ∧ a = b := by
  induction l generalizing m with
  | nil =>
    cases m with
    | nil => exact ⟨rfl, by simpa using h⟩
    | cons c m =>
      simp only [List.nil_append, List.cons_append] at h
      injection h with h _
      exact absurd h.symm (hm c (by simp))
  | cons c l ih =>
    cases m with
    | nil =>
      simp only [List.nil_append, List.cons_append] at h
      injection h with h _
      exact absurd h (hl c (by simp))
    | cons d m =>
      simp only [List.cons_append] at h
      injection h with h1 h2
      obtain ⟨h3, h4⟩ := ih (fun x hx => hl x (by simp [hx])) (fun x hx => hm x (by simp [hx])) h2
      exact ⟨by rw [h1, h3], h4⟩
theorem head_num {n m : Nat} {a b : List UInt8} (hn : n < 129) (hm : m < 129) (h : headL n ++ a = headL m ++ b) : n = m ∧ a = b := by
  have e : ∀ k (x : List UInt8), headL k ++ x = numL k ++ 32 :: (seatW (dealP k) ++ 32 :: (wordW (vulP k) ++ 32 :: x)) := by intro k x; simp [headL, sp]
  rw [e, e] at h
  obtain ⟨h1, h2⟩ := first_sp (num_no n hn) (num_no m hm) h
  have h3 : n = m := by rw [← val_num n hn, ← val_num m hm, h1]
  subst h3
  exact ⟨rfl, by simpa using h2⟩
theorem write_inj {a b : Nat} (ha : a < 4503599627370496) (hb : b < 4503599627370496) (h : writeL a = writeL b) : a = b := by
  have h1 := (rparse_iff (writeL a) a).2 ⟨ha, rfl⟩
  have h2 := (rparse_iff (writeL b) b).2 ⟨hb, rfl⟩
  rw [h, h2] at h1
  exact (Option.some.inj h1).symm
theorem deal_inj {D E : Nat → Nat} (hD : ∀ k, k < 4 → D k < 4503599627370496) (hE : ∀ k, k < 4 → E k < 4503599627370496) (h : dealT D = dealT E) : D 0 = E 0 ∧ D 1 = E 1 ∧ D 2 = E 2 ∧ D 3 = E 3 := by
  have h1 := (rd_iff (dealT D) D).2 ⟨hD, rfl⟩
  have h2 := (rd_iff (dealT E) E).2 ⟨hE, rfl⟩
  rw [h, h2] at h1
  have := Option.some.inj h1
  simp only [four, List.cons.injEq, and_true] at this
  obtain ⟨a, b, c, d⟩ := this
  exact ⟨a.symm, b.symm, c.symm, d.symm⟩
theorem right_lt {D : Nat → Nat} (h : rightB D = true) : ∀ k, k < 4 → D k < 4503599627370496 := fun k hk => by
  unfold rightB at h
  rw [Bool.and_eq_true] at h
  have := ((part_iff D).1 h.1 k hk).1
  omega
/-- A string that is the text of a right record. -/
def IsB (s : List UInt8) (n : Nat) (D : Nat → Nat) : Prop := 1 ≤ n ∧ n ≤ 128 ∧ rightB D = true ∧ s = textB n D
theorem isB_one {s : List UInt8} {n m : Nat} {D E : Nat → Nat} (h : IsB s n D) (k : IsB s m E) : n = m ∧ D 0 = E 0 ∧ D 1 = E 1 ∧ D 2 = E 2 ∧ D 3 = E 3 := by
  obtain ⟨a1, a2, a3, rfl⟩ := h
  obtain ⟨b1, b2, b3, h⟩ := k
  rw [text_head, text_head] at h
  obtain ⟨rfl, h2⟩ := head_num (by omega) (by omega) h
  refine ⟨rfl, deal_inj (right_lt a3) (right_lt b3) ?_⟩
  unfold textD at h2
  simpa using h2
end Pl
end Go.Proofs.YtaadipccgckehaaGreatDoor
namespace Go.Proofs.YtaadipccgckehaaGreatDoor.Pl
open Go Go.Lib

theorem index_first (c : UInt8) (r : List UInt8) : ∀ a : List UInt8, (∀ x ∈ a, x ≠ c) → indexByte (a ++ c :: r) c = (a.length : Int)
  | [], _ => by simp [indexByte]
  | x :: a, h => by
    have h1 := index_first c r a (fun y hy => h y (by simp [hy]))
    have h2 := h x (by simp)
    simp only [List.cons_append, indexByte, h1]
    rw [if_neg (by simpa using h2), if_neg (by simp)]
    simp
theorem index_no (c : UInt8) : ∀ a : List UInt8, (∀ x ∈ a, x ≠ c) → indexByte a c = -1
  | [], _ => rfl
  | x :: a, h => by
    have h1 := index_no c a (fun y hy => h y (by simp [hy]))
    simp only [indexByte, h1]
    rw [if_neg (by simpa using h x (by simp))]
    rfl
theorem split_word (c : UInt8) (k : Nat) (a r : List UInt8) (h : ∀ x ∈ a, x ≠ c) : splitK [c] 0 (k + 1) (a ++ c :: r) = a :: splitK [c] 0 k r := by
  rw [splitK, index_one, index_first c r a h]
  rw [if_neg (by simp)]
  simp
theorem split_last (c : UInt8) (k : Nat) (a : List UInt8) (h : ∀ x ∈ a, x ≠ c) : splitK [c] 0 k a = [a] := by
  cases k with
  | zero => rfl
  | succ k => unfold splitK; rw [index_one, index_no c a h]; rfl
/-- The pieces of a string at a byte, 3 cuts at most. -/
def pieces (c : UInt8) (s : List UInt8) (i : Nat) : List UInt8 := (splitK [c] 0 3 s).getD i []
theorem pieces_four (c : UInt8) (a b d e : List UInt8) (ha : ∀ x ∈ a, x ≠ c) (hb : ∀ x ∈ b, x ≠ c) (hd : ∀ x ∈ d, x ≠ c) (he : ∀ x ∈ e, x ≠ c) : splitK [c] 0 3 (a ++ c :: (b ++ c :: (d ++ c :: e))) = [a, b, d, e] := by
  rw [split_word c 2 a _ ha, split_word c 1 b _ hb, split_word c 0 d _ hd, split_last c 0 e he]
theorem count_no (c : UInt8) (a : List UInt8) (h : ∀ x ∈ a, x ≠ c) : a.count c = 0 := List.count_eq_zero.2 (fun hm => h c hm rfl)
theorem count_four (c : UInt8) (a b d e : List UInt8) (ha : ∀ x ∈ a, x ≠ c) (hb : ∀ x ∈ b, x ≠ c) (hd : ∀ x ∈ d, x ≠ c) (he : ∀ x ∈ e, x ≠ c) : (a ++ c :: (b ++ c :: (d ++ c :: e))).count c = 3 := by
  simp [List.count_append, count_no c a ha, count_no c b hb, count_no c d hd, count_no c e he]
/-- card.Parse. -/
def cparse (s : List UInt8) : Option Nat := if 55 < s.length ∨ s.count 46 ≠ 3 then none else parseTo (pieces 46 s) 4
theorem write_len (m : Nat) : (writeL m).length ≤ 55 := by
  have h0 := suit_len m 0
  have h1 := suit_len m 1
  have h2 := suit_len m 2
  have h3 := suit_len m 3
  unfold writeL
  simp only [List.length_append, List.length_cons]
  omega
theorem cparse_write (M : Nat) (hM : M < 4503599627370496) : cparse (writeL M) = some M := by
  have n := fun s x hx => (suit_no M s x hx).1
  unfold cparse
  rw [if_neg]
  · refine parse_write M hM _ (fun i hi => ?_)
    unfold pieces writeL
    rw [pieces_four 46 _ _ _ _ (n 3) (n 2) (n 1) (n 0)]
    rcases (by omega : i = 0 ∨ i = 1 ∨ i = 2 ∨ i = 3) with rfl | rfl | rfl | rfl <;> rfl
  · have h1 := write_len M
    have h2 : (writeL M).count 46 = 3 := by unfold writeL; exact count_four 46 _ _ _ _ (n 3) (n 2) (n 1) (n 0)
    omega
theorem parseTo_no (ps : Nat → List UInt8) (k : Nat) (h : parseTo ps k = none) : ∀ n, k ≤ n → parseTo ps n = none := by
  intro n
  induction n with
  | zero => intro hk; have e : k = 0 := by omega
            rw [← e]; exact h
  | succ n ih =>
    intro hk
    by_cases hkn : k = n + 1
    · rw [← hkn]; exact h
    · rw [parseTo, ih (by omega)]; rfl
theorem pfold_none (b : Nat) : ∀ l : List UInt8, l.foldl (pstep b) none = none
  | [] => rfl
  | _ :: l => by rw [List.foldl_cons]; exact pfold_none b l
theorem pfold_no (b : Nat) (l : List UInt8) (j : Nat) (st : Option (Nat × Int)) (h : (l.take j).foldl (pstep b) st = none) : l.foldl (pstep b) st = none := by
  rw [← List.take_append_drop j l, List.foldl_append, h]; exact pfold_none b _
theorem pfold_next (b : Nat) (l : List UInt8) (j : Nat) (c : UInt8) (st : Option (Nat × Int)) (hc : l[j]? = some c) : (l.take (j + 1)).foldl (pstep b) st = pstep b ((l.take j).foldl (pstep b) st) c := by
  rw [List.take_add_one, hc]; simp
theorem pstep_no (b m : Nat) (last : Int) (c : UInt8) (h : rkI c < 0 ∨ last ≤ rkI c) : pstep b (some (m, last)) c = none := by simp [pstep, h]
theorem pstep_ok (b m : Nat) (last : Int) (c : UInt8) (h : ¬ (rkI c < 0 ∨ last ≤ rkI c)) : pstep b (some (m, last)) c = some (m ||| 2 ^ (b + (rkI c).toNat), rkI c) := by simp [pstep, h]
theorem parseTo_step (ps : Nat → List UInt8) (k m m' : Nat) (l : Int) (h : parseTo ps k = some m) (h2 : (ps k).foldl (pstep ((3 - k) * 13)) (some (m, 13)) = some (m', l)) : parseTo ps (k + 1) = some m' := by
  rw [parseTo, h]; simp [partF, h2]
theorem parseTo_fail (ps : Nat → List UInt8) (k m : Nat) (h : parseTo ps k = some m) (h2 : (ps k).foldl (pstep ((3 - k) * 13)) (some (m, 13)) = none) : parseTo ps (k + 1) = none := by
  rw [parseTo, h]; simp [partF, h2]
end Go.Proofs.YtaadipccgckehaaGreatDoor.Pl
namespace Go.Proofs.YtaadipccgckehaaGreatDoor.Pl
open Go Go.Lib

theorem filter_pc (m k : Nat) : ∀ n, ((List.range n).filter (fun r => m.testBit (k + r))).length = pc n (m / 2 ^ k)
  | 0 => by simp [pc]
  | n + 1 => by
    rw [List.range_succ, List.filter_append, List.length_append, filter_pc m k n, pc_last]
    congr 1
    rw [Nat.div_div_eq_div_mul, ← Nat.pow_add]
    have hb := bit_div m (k + n)
    by_cases h : m / 2 ^ (k + n) % 2 = 1
    · rw [decide_eq_true h] at hb
      simp [h, hb]
    · have e : m / 2 ^ (k + n) % 2 = 0 := by omega
      rw [decide_eq_false h] at hb
      simp [e, hb]
theorem suit_pc (m s : Nat) : (suitL m s).length = pc 13 (m / 2 ^ (13 * s)) := by
  unfold suitL suitR
  rw [List.length_map, List.filter_reverse, List.length_reverse, filter_pc]
theorem write_pc (m : Nat) : (writeL m).length = pc 52 m + 3 := by
  have h := suit_pc m
  have e1 := pc_add 13 39 m
  have e2 := pc_add 13 26 (m / 2 ^ 13)
  have e3 := pc_add 13 13 (m / 2 ^ 13 / 2 ^ 13)
  rw [Nat.div_div_eq_div_mul, Nat.div_div_eq_div_mul] at *
  have h0 := h 0
  have h1 := h 1
  have h2 := h 2
  have h3 := h 3
  simp only [Nat.mul_zero, Nat.mul_one, Nat.pow_zero, Nat.div_one] at h0 h1 h2 h3
  unfold writeL
  simp only [List.length_append, List.length_cons, h0, h1, h2, h3]
  simp only [Nat.reduceMul, Nat.reducePow, Nat.reduceAdd] at *
  omega
def drest (s : List UInt8) : List UInt8 := trimPrefix s [78, 58]
def dhand (s : List UInt8) (k : Nat) : Option Nat := cparse (pieces 32 (drest s) k)
def dval (s : List UInt8) (k : Nat) : Nat := (dhand s k).getD 0
def dok (s : List UInt8) : Bool := hasPrefix s [78, 58] && (decide (s.length ≤ 69) && (decide ((drest s).count 32 = 3) && ((dhand s 0).isSome && (dhand s 1).isSome && (dhand s 2).isSome && (dhand s 3).isSome && partB (dval s))))
theorem drest_text (D : Nat → Nat) : drest (textD D) = dealT D := by
  unfold drest textD
  simp [trimPrefix, hasPrefix]
theorem dhand_text (D : Nat → Nat) (hD : ∀ k, k < 4 → D k < 4503599627370496) (k : Nat) (hk : k < 4) : dhand (textD D) k = some (D k) := by
  have n := write_no
  have e : pieces 32 (drest (textD D)) k = writeL (D k) := by
    rw [drest_text]
    unfold pieces dealT
    rw [pieces_four 32 _ _ _ _ (n _) (n _) (n _) (n _)]
    rcases (by omega : k = 0 ∨ k = 1 ∨ k = 2 ∨ k = 3) with rfl | rfl | rfl | rfl <;> rfl
  unfold dhand
  rw [e]
  exact cparse_write _ (hD k hk)
theorem used_same {D E : Nat → Nat} (h : ∀ k, k < 4 → D k = E k) : ∀ k, k ≤ 4 → usedTo D k = usedTo E k
  | 0, _ => rfl
  | k + 1, hk => by rw [used_s, used_s, used_same h k (by omega), h k (by omega)]
theorem ok_same {D E : Nat → Nat} (h : ∀ k, k < 4 → D k = E k) (k : Nat) (hk : k < 4) : okAt D k = okAt E k := by
  unfold okAt
  rw [h k hk, used_same h k (by omega)]
theorem part_same {D E : Nat → Nat} (h : ∀ k, k < 4 → D k = E k) : partB D = partB E := by
  apply Bool.eq_iff_iff.2
  unfold partB
  rw [part_le, part_le]
  exact ⟨fun g j hj => by rw [← ok_same h j hj]; exact g j hj, fun g j hj => by rw [ok_same h j hj]; exact g j hj⟩
theorem right_same {D E : Nat → Nat} (h : ∀ k, k < 4 → D k = E k) : rightB D = rightB E := by
  unfold rightB
  rw [part_same h, used_same h 4 (by omega)]
theorem dval_text (D : Nat → Nat) (h : rightB D = true) (k : Nat) (hk : k < 4) : dval (textD D) k = D k := by
  unfold dval
  rw [dhand_text D (right_lt h) k hk]
  rfl
theorem dok_text (D : Nat → Nat) (h : rightB D = true) : dok (textD D) = true := by
  have hr := right_ref D
  rw [h] at hr
  have hr := hr.symm
  simp only [Bool.and_eq_true, decide_eq_true_eq] at hr
  obtain ⟨⟨⟨⟨hp, h0⟩, h1⟩, h2⟩, h3⟩ := hr
  have n := write_no
  have hl : (textD D).length ≤ 69 := by
    unfold textD dealT
    simp only [List.length_append, List.length_cons, write_pc, h0, h1, h2, h3]
    omega
  have hc : (drest (textD D)).count 32 = 3 := by
    rw [drest_text]
    exact count_four 32 _ _ _ _ (n _) (n _) (n _) (n _)
  have hv : partB (dval (textD D)) = true := by rw [part_same (dval_text D h)]; exact hp
  have hx := dhand_text D (right_lt h)
  unfold dok
  rw [hx 0 (by omega), hx 1 (by omega), hx 2 (by omega), hx 3 (by omega), hv, decide_eq_true hl, decide_eq_true hc]
  simp [textD, hasPrefix]
theorem pstep_lt {b m m' : Nat} {last l' : Int} {c : UInt8} (hb : b ≤ 39) (hm : m < 4503599627370496) (h : pstep b (some (m, last)) c = some (m', l')) : m' < 4503599627370496 := by
  unfold pstep at h
  simp only at h
  split at h
  · cases h
  · rename_i hn
    have h13 := rk_lt c
    injection h with h
    injection h with h h2
    rw [← h]
    exact Nat.or_lt_two_pow (n := 52) hm (Nat.pow_lt_pow_right (by omega) (by omega))
theorem pfold_lt {b : Nat} (hb : b ≤ 39) : ∀ (l : List UInt8) (m m' : Nat) (last l' : Int), m < 4503599627370496 → l.foldl (pstep b) (some (m, last)) = some (m', l') → m' < 4503599627370496
  | [], m, m', last, l', hm, h => by simp at h; omega
  | c :: l, m, m', last, l', hm, h => by
    rw [List.foldl_cons] at h
    cases hs : pstep b (some (m, last)) c with
    | none => rw [hs, pfold_none] at h; cases h
    | some x =>
      obtain ⟨m2, l2⟩ := x
      rw [hs] at h
      exact pfold_lt hb l m2 m' l2 l' (pstep_lt hb hm hs) h
theorem parseTo_lt (ps : Nat → List UInt8) : ∀ (k m : Nat), k ≤ 4 → parseTo ps k = some m → m < 4503599627370496
  | 0, m, _, h => by injection h with h; omega
  | k + 1, m, hk, h => by
    rw [parseTo] at h
    cases hp : parseTo ps k with
    | none => rw [hp] at h; cases h
    | some m0 =>
      rw [hp] at h
      have hm0 := parseTo_lt ps k m0 (by omega) hp
      simp only [Option.bind_some] at h
      unfold partF at h
      cases hf : (ps k).foldl (pstep ((3 - k) * 13)) (some (m0, 13)) with
      | none => rw [hf] at h; cases h
      | some x =>
        obtain ⟨m2, l2⟩ := x
        rw [hf] at h
        injection h with h
        rw [← h]
        exact pfold_lt (by omega) _ _ _ _ _ hm0 hf
theorem cparse_lt {s : List UInt8} {m : Nat} (h : cparse s = some m) : m < 4503599627370496 := by
  unfold cparse at h
  split at h
  · cases h
  · exact parseTo_lt _ 4 m (Nat.le_refl _) h
theorem dval_lt (s : List UInt8) (k : Nat) : dval s k < 4503599627370496 := by
  unfold dval
  cases h : dhand s k with
  | none => decide
  | some m => exact cparse_lt h
end Go.Proofs.YtaadipccgckehaaGreatDoor.Pl
namespace Go.Proofs.YtaadipccgckehaaGreatDoor.Pl
open Go Go.Lib

theorem cut_first (c : UInt8) (a r : List UInt8) (h : ∀ x ∈ a, x ≠ c) : cut (a ++ c :: r) [c] = (a, r, true) := by
  unfold cut
  rw [index_one, index_first c r a h]
  rw [if_pos (by simp)]
  simp
theorem cut_none (c : UInt8) (a : List UInt8) (h : ∀ x ∈ a, x ≠ c) : cut a [c] = (a, [], false) := by
  unfold cut
  rw [index_one, index_no c a h]
  rfl
theorem cut_le (c : UInt8) (s : List UInt8) : (cut s [c]).1.length ≤ s.length ∧ (cut s [c]).2.1.length ≤ s.length := by
  unfold cut
  split
  · simp only [List.length_take, List.length_drop]; omega
  · simp
def okInt : NumEnd Int → Option Int
  | .ok n => some n
  | _ => none
def bnum (s : List UInt8) : Option Int := okInt (atoiAll (cut s [32]).1)
def brest (s : List UInt8) : List UInt8 := (cut (cut (cut s [32]).2.1 [32]).2.1 [32]).2.1
theorem brest_le (s : List UInt8) : (brest s).length ≤ s.length := by
  unfold brest
  have h1 := (cut_le 32 s).2
  have h2 := (cut_le 32 (cut s [32]).2.1).2
  have h3 := (cut_le 32 (cut (cut s [32]).2.1 [32]).2.1).2
  omega
def bokn (s : List UInt8) (n : Int) : Bool := decide (1 ≤ n ∧ n ≤ 128) && (rightB (dval (brest s)) && decide (textB n.toNat (dval (brest s)) = s))
def bok (s : List UInt8) : Bool := match bnum s with
  | none => false
  | some n => dok (brest s) && bokn s n
theorem num_atoi : ∀ n, n < 129 → atoiAll (numL n) = .ok (n : Int) := by decide +kernel
theorem seat_no (d : Nat) (hd : d < 4) : ∀ c ∈ seatW d, c ≠ 32 := by
  rcases (by omega : d = 0 ∨ d = 1 ∨ d = 2 ∨ d = 3) with rfl | rfl | rfl | rfl <;> decide
theorem word_no (d : Nat) : ∀ c ∈ wordW d, c ≠ 32 := by
  unfold wordW
  split
  · decide
  · split
    · decide
    · split <;> decide
theorem text_parts (n : Nat) (D : Nat → Nat) (h : n < 129) : bnum (textB n D) = some (n : Int) ∧ brest (textB n D) = textD D := by
  have e : textB n D = numL n ++ 32 :: (seatW (dealP n) ++ 32 :: (wordW (vulP n) ++ 32 :: textD D)) := by
    unfold textB
    simp only [sp_cons2, sp_one]
  have c1 : cut (textB n D) [32] = (numL n, seatW (dealP n) ++ 32 :: (wordW (vulP n) ++ 32 :: textD D), true) := by
    rw [e]; exact cut_first 32 _ _ (num_no n h)
  have c2 := cut_first 32 (seatW (dealP n)) (wordW (vulP n) ++ 32 :: textD D) (seat_no _ (Nat.mod_lt _ (by omega)))
  have c3 := cut_first 32 (wordW (vulP n)) (textD D) (word_no _)
  refine ⟨?_, ?_⟩
  · unfold bnum
    rw [c1]
    show okInt (atoiAll (numL n)) = _
    rw [num_atoi n h]
    rfl
  · unfold brest
    rw [c1]
    show (cut (cut (seatW (dealP n) ++ 32 :: (wordW (vulP n) ++ 32 :: textD D)) [32]).2.1 [32]).2.1 = _
    rw [c2]
    show (cut (wordW (vulP n) ++ 32 :: textD D) [32]).2.1 = _
    rw [c3]
theorem text_same {D E : Nat → Nat} (n : Nat) (h : ∀ k, k < 4 → D k = E k) : textB n D = textB n E := by
  unfold textB textD dealT
  rw [h 0 (by omega), h 1 (by omega), h 2 (by omega), h 3 (by omega)]
theorem bok_of {s : List UInt8} {n : Nat} {D : Nat → Nat} (h : IsB s n D) : bok s = true ∧ bnum s = some (n : Int) ∧ ∀ k, k < 4 → dval (brest s) k = D k := by
  obtain ⟨h1, h2, hr, rfl⟩ := h
  obtain ⟨e1, e2⟩ := text_parts n D (by omega)
  have hv : ∀ k, k < 4 → dval (brest (textB n D)) k = D k := by
    intro k hk
    rw [e2]
    exact dval_text D hr k hk
  refine ⟨?_, e1, hv⟩
  unfold bok
  rw [e1]
  show (dok (brest (textB n D)) && bokn (textB n D) (n : Int)) = true
  unfold bokn
  rw [right_same hv, Int.toNat_natCast, text_same n hv, e2, dok_text D hr, hr]
  simp
  omega
theorem bok_is {s : List UInt8} (h : bok s = true) : ∃ n : Nat, bnum s = some (n : Int) ∧ IsB s n (dval (brest s)) := by
  unfold bok at h
  cases hb : bnum s with
  | none => rw [hb] at h; cases h
  | some n =>
    rw [hb] at h
    simp only [bokn, Bool.and_eq_true, decide_eq_true_eq] at h
    obtain ⟨_, ⟨h1, h2⟩, h3, h4⟩ := h
    refine ⟨n.toNat, by rw [Int.toNat_of_nonneg (by omega)], by omega, by omega, h3, h4.symm⟩
end Go.Proofs.YtaadipccgckehaaGreatDoor.Pl
namespace Go.Proofs.YtaadipccgckehaaGreatDoor.Pl

theorem wr_hit (s k X : Nat) (h : X.testBit (13 * s + k) = true) : wr s (k + 1) X = sign k :: wr s k X := by
  rw [wr_eq, wr_eq, range_rev, List.filter_cons_of_pos (by simpa using h), List.map_cons, List.cons_append]
theorem wr_dot (s X : Nat) : wr (s + 1) 0 X = 46 :: wr s 13 X := rfl
theorem wr_zero (X : Nat) : wr 0 0 X = [] := rfl
theorem wr_len : ∀ (s last X : Nat), (wr s last X).length ≤ 14 * s + last
  | 0, last, X => by
    simp only [wr, List.length_map]
    have := List.length_filter_le (fun r => X.testBit (13 * 0 + r)) (List.range last).reverse
    simp at this ⊢; exact this
  | s + 1, last, X => by
    simp only [wr, List.length_append, List.length_map, List.length_cons]
    have h1 := List.length_filter_le (fun r => X.testBit (13 * (s + 1) + r)) (List.range last).reverse
    have h2 := wr_len s 13 X
    rw [List.length_reverse, List.length_range] at h1
    omega
/-- The reading of a hand, some characters on. -/
def RpI (l : List UInt8) (i M S L : Nat) : Prop := (l.take i).foldl rpstep (some (0, 3, 13)) = some (M, S, (L : Int)) ∧ S ≤ 3 ∧ L ≤ 13 ∧ M + 2 ^ (13 * S + L) ≤ 2 ^ 52
theorem rpI_start (l : List UInt8) : RpI l 0 0 3 13 := ⟨rfl, by omega, by omega, by decide⟩
theorem take_next {l : List UInt8} {i : Nat} {c : UInt8} (h : l[i]? = some c) : l.take (i + 1) = l.take i ++ [c] := by
  obtain ⟨h1, h2⟩ := List.getElem?_eq_some_iff.1 h
  rw [List.take_succ_eq_append_getElem h1, h2]
theorem rpI_dot {l : List UInt8} {i M S L : Nat} (h : RpI l i M (S + 1) L) (hc : l[i]? = some 46) : RpI l (i + 1) M S 13 := by
  obtain ⟨h1, h2, h3, h4⟩ := h
  refine ⟨?_, by omega, by omega, ?_⟩
  · rw [take_next hc, List.foldl_append, h1]; rfl
  · have : 2 ^ (13 * S + 13) ≤ 2 ^ (13 * (S + 1) + L) := Nat.pow_le_pow_right (by omega) (by omega)
    omega
theorem rp_stop {l : List UInt8} {i : Nat} {c : UInt8} (hc : l[i]? = some c) (h : rpstep ((l.take i).foldl rpstep (some (0, 3, 13))) c = none) : rparse l = none := by
  have e : l = l.take (i + 1) ++ l.drop (i + 1) := (List.take_append_drop _ _).symm
  unfold rparse
  rw [e, List.foldl_append, take_next hc, List.foldl_append, List.foldl_cons, List.foldl_nil, h, rp_none]
theorem rp_dot_bad {l : List UInt8} {i M L : Nat} (h : RpI l i M 0 L) (hc : l[i]? = some 46) : rparse l = none :=
  rp_stop hc (by rw [h.1]; rfl)
theorem rpI_sign {l : List UInt8} {i M S L r : Nat} {c : UInt8} (h : RpI l i M S L) (hc : l[i]? = some c) (hn : c ≠ 46) (hr : rkI c = (r : Int)) (hl : r < L) : RpI l (i + 1) (M + 2 ^ (13 * S + r)) S r := by
  obtain ⟨h1, h2, h3, h4⟩ := h
  refine ⟨?_, h2, by omega, ?_⟩
  · rw [take_next hc, List.foldl_append, h1, List.foldl_cons, List.foldl_nil]
    unfold rpstep
    simp only
    rw [if_neg hn, hr, if_neg (by omega), Int.toNat_natCast]
  · have : 2 ^ (13 * S + (r + 1)) ≤ 2 ^ (13 * S + L) := Nat.pow_le_pow_right (by omega) (by omega)
    rw [show 13 * S + (r + 1) = 13 * S + r + 1 by omega, Nat.pow_succ] at this
    omega
theorem rp_bad {l : List UInt8} {i M S L : Nat} {c : UInt8} (h : RpI l i M S L) (hc : l[i]? = some c) (hn : c ≠ 46) (hr : rkI c < 0 ∨ (L : Int) ≤ rkI c) : rparse l = none :=
  rp_stop hc (by
    rw [h.1]
    unfold rpstep
    simp only
    rw [if_neg hn, if_pos hr])
theorem rp_end {l : List UInt8} {M S L : Nat} (h : RpI l l.length M S L) : rparse l = if S = 0 then some M else none := by
  have h1 := h.1
  rw [List.take_length] at h1
  unfold rparse
  rw [h1]
  cases S <;> rfl
/-- The reading of a deal: hands so far, where the next one begins, the character. -/
def RdI (s : List UInt8) (acc : List Nat) (f i : Nat) : Prop := f ≤ i ∧ i ≤ s.length ∧ acc.length ≤ 4 ∧ (∀ m ∈ acc, m < 4503599627370496) ∧ rdGo [] [] (s.drop 2) = rdGo acc ((s.drop f).take (i - f)) (s.drop i)
theorem rdI_start (s : List UInt8) (h : 2 ≤ s.length) : RdI s [] 2 2 := ⟨by omega, h, by simp, by simp, by simp⟩
theorem drop_at {s : List UInt8} {i : Nat} {c : UInt8} (h : s[i]? = some c) : s.drop i = c :: s.drop (i + 1) := by
  obtain ⟨h1, h2⟩ := List.getElem?_eq_some_iff.1 h
  rw [List.drop_eq_getElem_cons h1, h2]
theorem rdI_skip {s : List UInt8} {acc : List Nat} {f i : Nat} {c : UInt8} (h : RdI s acc f i) (hc : s[i]? = some c) (hn : c ≠ 32) : RdI s acc f (i + 1) := by
  obtain ⟨h1, h2, h3, h5, h4⟩ := h
  obtain ⟨g1, g2⟩ := List.getElem?_eq_some_iff.1 hc
  refine ⟨by omega, by omega, h3, h5, ?_⟩
  rw [h4, drop_at hc, rdGo, if_neg hn]
  congr 1
  rw [show i + 1 - f = (i - f) + 1 by omega]
  refine (take_next ?_).symm
  rw [List.getElem?_drop, show f + (i - f) = i by omega, hc]
def cutS (s : List UInt8) (f i : Nat) : List UInt8 := (s.drop f).take (i - f)
theorem push_ok {acc : List Nat} {cur : List UInt8} {m : Nat} (h : rparse cur = some m) (ha : acc.length ≤ 3) : pushR acc cur = some (acc ++ [m]) := by
  unfold pushR; rw [h]; simp only [Option.bind_some]; rw [if_neg (by omega)]
theorem push_bad {acc : List Nat} {cur : List UInt8} (h : rparse cur = none ∨ 3 < acc.length) : pushR acc cur = none := by
  unfold pushR
  rcases hr : rparse cur with _ | m
  · rfl
  · rw [hr] at h
    rcases h with h | h
    · cases h
    · simp only [Option.bind_some]; rw [if_pos h]
theorem acc_next {acc : List Nat} {m : Nat} (h : ∀ m ∈ acc, m < 4503599627370496) (hm : m < 4503599627370496) : ∀ x ∈ acc ++ [m], x < 4503599627370496 := by
  intro x hx
  rcases List.mem_append.1 hx with hx | hx
  · exact h x hx
  · rw [List.mem_singleton.1 hx]; exact hm
theorem rdI_sep {s : List UInt8} {acc : List Nat} {f i m : Nat} (h : RdI s acc f i) (hc : s[i]? = some 32) (hp : rparse (cutS s f i) = some m) (ha : acc.length ≤ 3) : RdI s (acc ++ [m]) (i + 1) (i + 1) := by
  obtain ⟨h1, h2, h3, h5, h4⟩ := h
  obtain ⟨g1, g2⟩ := List.getElem?_eq_some_iff.1 hc
  refine ⟨by omega, by omega, by simp; omega, acc_next h5 ((rparse_iff _ _).1 hp).1, ?_⟩
  rw [h4, drop_at hc, rdGo, if_pos rfl, show (s.drop f).take (i - f) = cutS s f i from rfl, push_ok hp ha]
  simp
theorem rd_end {s : List UInt8} {acc : List Nat} {f i m : Nat} (h : RdI s acc f i) (hi : i = s.length) (hp : rparse (cutS s f i) = some m) (ha : acc.length ≤ 3) : rdGo [] [] (s.drop 2) = some (acc ++ [m]) ∧ (∀ x ∈ acc ++ [m], x < 4503599627370496) := by
  obtain ⟨h1, h2, h3, h5, h4⟩ := h
  refine ⟨?_, acc_next h5 ((rparse_iff _ _).1 hp).1⟩
  rw [h4, show s.drop i = [] from List.drop_of_length_le (by omega), rdGo]
  exact push_ok hp ha
theorem rd_bad {s : List UInt8} {acc : List Nat} {f i : Nat} (h : RdI s acc f i) (hi : i = s.length ∨ s[i]? = some 32) (hp : rparse (cutS s f i) = none ∨ 3 < acc.length) : rdGo [] [] (s.drop 2) = none := by
  obtain ⟨h1, h2, h3, h5, h4⟩ := h
  rcases hi with hi | hc
  · rw [h4, show s.drop i = [] from List.drop_of_length_le (by omega), rdGo]
    exact push_bad hp
  · rw [h4, drop_at hc, rdGo, if_pos rfl, show (s.drop f).take (i - f) = cutS s f i from rfl, push_bad hp]
    rfl
/-- What the reference reads of a deal. -/
def rdD (s : List UInt8) (k : Nat) : Nat := ((rdGo [] [] (s.drop 2)).getD []).getD k 0
def rdB (s : List UInt8) : Bool := decide (s.take 2 = [78, 58]) && (decide (((rdGo [] [] (s.drop 2)).getD []).length = 4) && partB (rdD s))
theorem rdB_head {s : List UInt8} (h : ¬ s.take 2 = [78, 58]) : rdB s = false := by unfold rdB; rw [decide_eq_false h]; rfl
theorem rdB_none {s : List UInt8} (h : rdGo [] [] (s.drop 2) = none) : rdB s = false := by unfold rdB; rw [h]; simp
theorem rdB_some {s : List UInt8} {L : List Nat} (h0 : s.take 2 = [78, 58]) (h : rdGo [] [] (s.drop 2) = some L) : rdB s = (decide (L.length = 4) && partB (fun k => L.getD k 0)) ∧ rdD s = fun k => L.getD k 0 := by
  have e : rdD s = fun k => L.getD k 0 := by funext k; unfold rdD; rw [h]; rfl
  refine ⟨?_, e⟩
  unfold rdB
  rw [e, h, decide_eq_true h0]; rfl
theorem rdB_text {s : List UInt8} (h : rdB s = true) : s = textD (rdD s) ∧ partB (rdD s) = true := by
  unfold rdB at h
  simp only [Bool.and_eq_true, decide_eq_true_eq] at h
  obtain ⟨h1, h2, h3⟩ := h
  refine ⟨?_, h3⟩
  rcases hg : rdGo [] [] (s.drop 2) with _ | L
  · rw [hg] at h2; simp at h2
  · rw [hg] at h2
    obtain ⟨D, rfl, hD, ht⟩ := rd_len hg h2
    have e : rdD s = fun k => (four D).getD k 0 := by funext k; unfold rdD; rw [hg]; rfl
    have hs : s = [78, 58] ++ dealT D := by rw [← h1, ← ht, List.take_append_drop]
    rw [e]
    exact hs
theorem text_rdB {D : Nat → Nat} (hp : partB D = true) : rdB (textD D) = true ∧ ∀ k, k < 4 → rdD (textD D) k = D k := by
  have hD : ∀ k, k < 4 → D k < 4503599627370496 := fun k hk => by have := ((part_iff D).1 hp k hk).1; omega
  have hg : rdGo [] [] ((textD D).drop 2) = some (four D) := (rd_iff (dealT D) D).2 ⟨hD, rfl⟩
  obtain ⟨h1, h2⟩ := rdB_some (s := textD D) rfl hg
  have hk : ∀ k, k < 4 → (four D).getD k 0 = D k := fun k hk => by
    rcases (by omega : k = 0 ∨ k = 1 ∨ k = 2 ∨ k = 3) with rfl | rfl | rfl | rfl <;> rfl
  refine ⟨?_, fun k h => by rw [h2]; exact hk k h⟩
  rw [h1]
  have : partB (fun k => (four D).getD k 0) = partB D := by
    unfold partB partTo partTo partTo partTo partTo
    rw [ok_same hk 0 (by omega), ok_same hk 1 (by omega), ok_same hk 2 (by omega), ok_same hk 3 (by omega)]
  rw [this, hp]; rfl
/-- A board's number fits a text. -/
def hitN (s : List UInt8) (n : Nat) : Bool := decide (s.take (headL n).length = headL n) && (rdB (s.drop (headL n).length) && rightB (rdD (s.drop (headL n).length)))
theorem hit_isB {s : List UInt8} {n : Nat} (h1 : 1 ≤ n) (h2 : n ≤ 128) (h : hitN s n = true) : IsB s n (rdD (s.drop (headL n).length)) := by
  unfold hitN at h
  simp only [Bool.and_eq_true, decide_eq_true_eq] at h
  obtain ⟨g1, g2, g3⟩ := h
  refine ⟨h1, h2, g3, ?_⟩
  rw [text_head, ← (rdB_text g2).1]
  conv => lhs; rw [← List.take_append_drop (headL n).length s, g1]
theorem isB_hit {s : List UInt8} {n : Nat} {D : Nat → Nat} (h : IsB s n D) : hitN s n = true ∧ ∀ k, k < 4 → rdD (s.drop (headL n).length) k = D k := by
  obtain ⟨h1, h2, h3, rfl⟩ := h
  have hp : partB D = true := by unfold rightB at h3; exact (Bool.and_eq_true _ _ ▸ h3).1
  obtain ⟨g1, g2⟩ := text_rdB hp
  have e : (textB n D).drop (headL n).length = textD D := by rw [text_head, List.drop_left]
  rw [← e] at g1 g2
  refine ⟨?_, g2⟩
  unfold hitN
  rw [g1, right_same g2, h3]
  simp [text_head]
end Go.Proofs.YtaadipccgckehaaGreatDoor.Pl
