/- Plain: the reference's reading of a hand and of a deal; a deal's text has one reading. No program. -/
import Derived.Test.YtaadipccgckehaaDoorBT
namespace Go.Proofs.YtaadipccgckehaaDoor
namespace Pl

/-- One character, as the reference reads it: the mask, the suit, the rank that the next one must be below. -/
def rpstep (st : Option (Nat × Nat × Int)) (c : UInt8) : Option (Nat × Nat × Int) :=
  match st with
  | none => none
  | some (m, suit, last) =>
    if c = 46 then (if suit = 0 then none else some (m, suit - 1, 13))
    else if rkI c < 0 ∨ last ≤ rkI c then none else some (m + 2 ^ (13 * suit + (rkI c).toNat), suit, rkI c)
def rparse (l : List UInt8) : Option Nat :=
  match l.foldl rpstep (some (0, 3, 13)) with
  | some (m, 0, _) => some m
  | _ => none
theorem rp_none (l : List UInt8) : l.foldl rpstep none = none := by
  induction l with
  | nil => rfl
  | cons c l ih => exact ih
/-- The text of what lies below a rank of a suit. -/
def wr : Nat → Nat → Nat → List UInt8
  | 0, last, X => ((List.range last).reverse.filter (fun r => X.testBit (13 * 0 + r))).map sign
  | s + 1, last, X => ((List.range last).reverse.filter (fun r => X.testBit (13 * (s + 1) + r))).map sign ++ 46 :: wr s 13 X
def lowW : Nat → Nat → List UInt8
  | 0, _ => []
  | s + 1, X => 46 :: wr s 13 X
theorem wr_eq (s last X : Nat) : wr s last X = ((List.range last).reverse.filter (fun r => X.testBit (13 * s + r))).map sign ++ lowW s X := by
  cases s <;> simp [wr, lowW]
theorem wr_write (X : Nat) : writeL X = wr 3 13 X := rfl
theorem wr_congr : ∀ (s last X Y : Nat), (∀ i, i < 13 * s + last → X.testBit i = Y.testBit i) → wr s last X = wr s last Y
  | 0, last, X, Y, h => by
    simp only [wr]
    congr 1
    apply List.filter_congr
    intro r hr
    rw [List.mem_reverse, List.mem_range] at hr
    exact h _ (by omega)
  | s + 1, last, X, Y, h => by
    simp only [wr]
    rw [wr_congr s 13 X Y (fun i hi => h i (by omega))]
    congr 2
    apply List.filter_congr
    intro r hr
    rw [List.mem_reverse, List.mem_range] at hr
    exact h _ (by omega)
theorem low_congr (s X Y : Nat) (h : ∀ i, i < 13 * s → X.testBit i = Y.testBit i) : lowW s X = lowW s Y := by
  cases s with
  | zero => rfl
  | succ s => exact congrArg (46 :: ·) (wr_congr s 13 X Y (fun i hi => h i (by omega)))
theorem range_rev (n : Nat) : (List.range (n + 1)).reverse = n :: (List.range n).reverse := by
  rw [List.range_succ, List.reverse_append]; rfl
theorem wr_skip (s k X : Nat) (h : X.testBit (13 * s + k) = false) : wr s (k + 1) X = wr s k X := by
  rw [wr_eq, wr_eq, range_rev, List.filter_cons_of_neg (by simp [h])]
theorem wr_put (s k X : Nat) (h : X < 2 ^ (13 * s + k)) : wr s (k + 1) (2 ^ (13 * s + k) + X) = sign k :: wr s k X := by
  have e : ∀ i, (2 ^ (13 * s + k) + X).testBit i = (decide (13 * s + k = i) || X.testBit i) := fun i => by
    have h1 := Nat.two_pow_add_eq_or_of_lt h 1
    rw [Nat.mul_one] at h1
    rw [h1, Nat.testBit_or, Nat.testBit_two_pow]
  rw [wr_eq, wr_eq, range_rev, List.filter_cons_of_pos (by rw [e]; simp), List.map_cons, List.cons_append]
  congr 2
  · congr 1
    apply List.filter_congr
    intro r hr
    rw [List.mem_reverse, List.mem_range] at hr
    rw [e, show decide (13 * s + k = 13 * s + r) = false from decide_eq_false (by omega), Bool.false_or]
  · exact low_congr s _ _ (fun i hi => by rw [e, show decide (13 * s + k = i) = false from decide_eq_false (by omega), Bool.false_or])
theorem Nat.lt_of_testBit_top {X k : Nat} (h : X < 2 ^ (k + 1)) (hb : X.testBit k = false) : X < 2 ^ k := by
  apply Nat.lt_pow_two_of_testBit
  intro i hi
  rcases Nat.lt_or_ge k i with h1 | h1
  · exact Nat.testBit_lt_two_pow (Nat.lt_of_lt_of_le h (Nat.pow_le_pow_right (by omega) (by omega)))
  · obtain rfl : i = k := by omega
    exact hb
theorem Nat.split_top {X k : Nat} (h : X < 2 ^ (k + 1)) (hb : X.testBit k = true) : ∃ Y, X = 2 ^ k + Y ∧ Y < 2 ^ k := by
  have h1 : 2 ^ k ≤ X := Nat.ge_two_pow_of_testBit hb
  rw [Nat.pow_succ] at h
  exact ⟨X - 2 ^ k, by omega, by omega⟩
/-- What is written is read. -/
theorem rp_complete : ∀ (s last X m : Nat) (l : Int), s ≤ 3 → last ≤ 13 → (last : Int) ≤ l → X < 2 ^ (13 * s + last) → ∃ l', (wr s last X).foldl rpstep (some (m, s, l)) = some (m + X, 0, l') := by
  intro s
  induction s with
  | zero =>
    intro last
    induction last with
    | zero =>
      intro X m l _ _ _ h
      obtain rfl : X = 0 := by simpa using h
      exact ⟨l, rfl⟩
    | succ k ih =>
      intro X m l hs h13 hl hX
      rcases hb : X.testBit (13 * 0 + k) with _ | _
      · rw [wr_skip _ _ _ hb]
        exact ih X m l hs (by omega) (by omega) (Nat.lt_of_testBit_top hX hb)
      · obtain ⟨Y, rfl, hY⟩ := Nat.split_top (k := 13 * 0 + k) hX hb
        rw [wr_put _ _ _ hY, List.foldl_cons]
        have hr := rk_sign k (by omega)
        have h0 : rpstep (some (m, 0, l)) (sign k) = some (m + 2 ^ (13 * 0 + k), 0, (k : Int)) := by
          unfold rpstep
          simp only
          rw [if_neg (sign_46 k (by omega)).1, hr, if_neg (by omega)]
          simp
        rw [h0]
        obtain ⟨l', h1⟩ := ih Y (m + 2 ^ (13 * 0 + k)) k hs (by omega) (by omega) hY
        exact ⟨l', by rw [h1, Nat.add_assoc]⟩
  | succ s ihs =>
    intro last
    induction last with
    | zero =>
      intro X m l hs _ _ h
      have e : wr (s + 1) 0 X = 46 :: wr s 13 X := rfl
      rw [e, List.foldl_cons]
      exact ihs 13 X m 13 (by omega) (by omega) (by omega) h
    | succ k ih =>
      intro X m l hs h13 hl hX
      rcases hb : X.testBit (13 * (s + 1) + k) with _ | _
      · rw [wr_skip _ _ _ hb]
        exact ih X m l hs (by omega) (by omega) (Nat.lt_of_testBit_top hX hb)
      · obtain ⟨Y, rfl, hY⟩ := Nat.split_top (k := 13 * (s + 1) + k) hX hb
        rw [wr_put _ _ _ hY, List.foldl_cons]
        have hr := rk_sign k (by omega)
        have h0 : rpstep (some (m, s + 1, l)) (sign k) = some (m + 2 ^ (13 * (s + 1) + k), s + 1, (k : Int)) := by
          unfold rpstep
          simp only
          rw [if_neg (sign_46 k (by omega)).1, hr, if_neg (by omega)]
          simp
        rw [h0]
        obtain ⟨l', h1⟩ := ih Y (m + 2 ^ (13 * (s + 1) + k)) k hs (by omega) (by omega) hY
        exact ⟨l', by rw [h1, Nat.add_assoc]⟩
/-- What is read was written. -/
theorem rp_sound : ∀ (t : List UInt8) (m s m' : Nat) (last l' : Int), 0 ≤ last → last ≤ 13 → t.foldl rpstep (some (m, s, last)) = some (m', 0, l') → ∃ X, X < 2 ^ (13 * s + last.toNat) ∧ m' = m + X ∧ t = wr s last.toNat X := by
  intro t
  induction t with
  | nil =>
    intro m s m' last l' h0 h1 h
    injection h with h
    injection h with h2 h3
    injection h3 with h3 _
    subst h2 h3
    exact ⟨0, Nat.two_pow_pos _, rfl, by simp [wr]⟩
  | cons c t ih =>
    intro m s m' last l' h0 h1 h
    rw [List.foldl_cons] at h
    by_cases hc : c = 46
    · subst hc
      cases s with
      | zero => rw [show rpstep (some (m, 0, last)) 46 = none from rfl, rp_none] at h; cases h
      | succ s =>
        rw [show rpstep (some (m, s + 1, last)) 46 = some (m, s, 13) from rfl] at h
        obtain ⟨X, h2, h3, h4⟩ := ih m s m' 13 l' (by omega) (by omega) h
        have h5 : 2 ^ (13 * s + (13 : Int).toNat) = 2 ^ (13 * (s + 1)) := rfl
        rw [h5] at h2
        refine ⟨X, Nat.lt_of_lt_of_le h2 (Nat.pow_le_pow_right (by omega) (by omega)), h3, ?_⟩
        rw [wr_eq, h4]
        have : (List.range last.toNat).reverse.filter (fun r => X.testBit (13 * (s + 1) + r)) = [] := by
          rw [List.filter_eq_nil_iff]
          intro r _
          rw [Nat.testBit_lt_two_pow (Nat.lt_of_lt_of_le h2 (Nat.pow_le_pow_right (by omega) (by omega)))]
          simp
        rw [this]
        rfl
    · by_cases hr : rkI c < 0 ∨ last ≤ rkI c
      · rw [show rpstep (some (m, s, last)) c = none by unfold rpstep; simp only; rw [if_neg hc, if_pos hr], rp_none] at h; cases h
      · rw [show rpstep (some (m, s, last)) c = some (m + 2 ^ (13 * s + (rkI c).toNat), s, rkI c) by unfold rpstep; simp only; rw [if_neg hc, if_neg hr]] at h
        obtain ⟨X, h2, h3, h4⟩ := ih _ s m' (rkI c) l' (by omega) (by omega) h
        obtain ⟨k, hk⟩ : ∃ k, (rkI c).toNat = k := ⟨_, rfl⟩
        have hs := (sign_rk c (by omega)).2
        rw [hk] at h2 h3 h4 hs
        obtain ⟨d, hd⟩ : ∃ d, last.toNat = k + 1 + d := ⟨last.toNat - (k + 1), by omega⟩
        refine ⟨2 ^ (13 * s + k) + X, ?_, by omega, ?_⟩
        · have : 2 ^ (13 * s + k) + X < 2 ^ (13 * s + (k + 1)) := by
            rw [show 13 * s + (k + 1) = 13 * s + k + 1 by omega, Nat.pow_succ]; omega
          exact Nat.lt_of_lt_of_le this (Nat.pow_le_pow_right (by omega) (by omega))
        · rw [h4, ← hs, ← wr_put s k X h2, hd]
          have hlt : 2 ^ (13 * s + k) + X < 2 ^ (13 * s + (k + 1)) := by
            rw [show 13 * s + (k + 1) = 13 * s + k + 1 by omega, Nat.pow_succ]; omega
          clear hd
          induction d with
          | zero => rfl
          | succ d ih2 =>
            rw [ih2, show k + 1 + (d + 1) = k + 1 + d + 1 by omega, wr_skip]
            exact Nat.testBit_lt_two_pow (Nat.lt_of_lt_of_le hlt (Nat.pow_le_pow_right (by omega) (by omega)))
theorem rparse_iff (t : List UInt8) (m : Nat) : rparse t = some m ↔ (m < 4503599627370496 ∧ t = writeL m) := by
  constructor
  · intro h
    unfold rparse at h
    split at h
    · rename_i m' l' heq
      obtain ⟨X, h1, h2, h3⟩ := rp_sound t 0 3 m' 13 l' (by omega) (by omega) heq
      injection h with h
      have : m = X := by omega
      subst this
      exact ⟨h1, by rw [h3, wr_write]; rfl⟩
    · cases h
  · rintro ⟨h1, rfl⟩
    obtain ⟨l', h2⟩ := rp_complete 3 13 m 0 13 (by omega) (by omega) (by omega) h1
    unfold rparse
    rw [wr_write, h2]
    show some (0 + m) = some m
    rw [Nat.zero_add]
end Pl
end Go.Proofs.YtaadipccgckehaaDoor
