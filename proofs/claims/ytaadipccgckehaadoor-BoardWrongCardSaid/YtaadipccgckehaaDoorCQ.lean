/- What deal.Read makes of a string. No program. -/
import Derived.Test.YtaadipccgckehaaDoorCP
import Derived.Lib.Strings
namespace Go.Proofs.YtaadipccgckehaaDoor.Pl
open Go Go.Lib

theorem filter_pc (m k : Nat) : ∀ n, ((List.range n).filter (fun r => m.testBit (k + r))).length = pc n (m / 2 ^ k)
  | 0 => by simp [pc]
  | n + 1 => by
    rw [List.range_succ, List.filter_append, List.length_append, filter_pc m k n, pc_last]
    congr 1
    rw [Nat.div_div_eq_div_mul, ← Nat.pow_add]
    have hb := bit_div m (k + n)
    by_cases h : m / 2 ^ (k + n) % 2 = 1
    · rw [decide_eq_true h] at hb
      simp [h, hb]
    · have e : m / 2 ^ (k + n) % 2 = 0 := by omega
      rw [decide_eq_false h] at hb
      simp [e, hb]
theorem suit_pc (m s : Nat) : (suitL m s).length = pc 13 (m / 2 ^ (13 * s)) := by
  unfold suitL suitR
  rw [List.length_map, List.filter_reverse, List.length_reverse, filter_pc]
theorem write_pc (m : Nat) : (writeL m).length = pc 52 m + 3 := by
  have h := suit_pc m
  have e1 := pc_add 13 39 m
  have e2 := pc_add 13 26 (m / 2 ^ 13)
  have e3 := pc_add 13 13 (m / 2 ^ 13 / 2 ^ 13)
  rw [Nat.div_div_eq_div_mul, Nat.div_div_eq_div_mul] at *
  have h0 := h 0
  have h1 := h 1
  have h2 := h 2
  have h3 := h 3
  simp only [Nat.mul_zero, Nat.mul_one, Nat.pow_zero, Nat.div_one] at h0 h1 h2 h3
  unfold writeL
  simp only [List.length_append, List.length_cons, h0, h1, h2, h3]
  simp only [Nat.reduceMul, Nat.reducePow, Nat.reduceAdd] at *
  omega
def drest (s : List UInt8) : List UInt8 := trimPrefix s [78, 58]
def dhand (s : List UInt8) (k : Nat) : Option Nat := cparse (pieces 32 (drest s) k)
def dval (s : List UInt8) (k : Nat) : Nat := (dhand s k).getD 0
def dok (s : List UInt8) : Bool := hasPrefix s [78, 58] && (decide (s.length ≤ 69) && (decide ((drest s).count 32 = 3) && ((dhand s 0).isSome && (dhand s 1).isSome && (dhand s 2).isSome && (dhand s 3).isSome && partB (dval s))))
theorem drest_text (D : Nat → Nat) : drest (textD D) = dealT D := by
  unfold drest textD
  simp [trimPrefix, hasPrefix]
theorem dhand_text (D : Nat → Nat) (hD : ∀ k, k < 4 → D k < 4503599627370496) (k : Nat) (hk : k < 4) : dhand (textD D) k = some (D k) := by
  have n := write_no
  have e : pieces 32 (drest (textD D)) k = writeL (D k) := by
    rw [drest_text]
    unfold pieces dealT
    rw [pieces_four 32 _ _ _ _ (n _) (n _) (n _) (n _)]
    rcases (by omega : k = 0 ∨ k = 1 ∨ k = 2 ∨ k = 3) with rfl | rfl | rfl | rfl <;> rfl
  unfold dhand
  rw [e]
  exact cparse_write _ (hD k hk)
theorem used_same {D E : Nat → Nat} (h : ∀ k, k < 4 → D k = E k) : ∀ k, k ≤ 4 → usedTo D k = usedTo E k
  | 0, _ => rfl
  | k + 1, hk => by rw [used_s, used_s, used_same h k (by omega), h k (by omega)]
theorem ok_same {D E : Nat → Nat} (h : ∀ k, k < 4 → D k = E k) (k : Nat) (hk : k < 4) : okAt D k = okAt E k := by
  unfold okAt
  rw [h k hk, used_same h k (by omega)]
theorem part_same {D E : Nat → Nat} (h : ∀ k, k < 4 → D k = E k) : partB D = partB E := by
  apply Bool.eq_iff_iff.2
  unfold partB
  rw [part_le, part_le]
  exact ⟨fun g j hj => by rw [← ok_same h j hj]; exact g j hj, fun g j hj => by rw [ok_same h j hj]; exact g j hj⟩
theorem right_same {D E : Nat → Nat} (h : ∀ k, k < 4 → D k = E k) : rightB D = rightB E := by
  unfold rightB
  rw [part_same h, used_same h 4 (by omega)]
theorem dval_text (D : Nat → Nat) (h : rightB D = true) (k : Nat) (hk : k < 4) : dval (textD D) k = D k := by
  unfold dval
  rw [dhand_text D (right_lt h) k hk]
  rfl
theorem dok_text (D : Nat → Nat) (h : rightB D = true) : dok (textD D) = true := by
  have hr := right_ref D
  rw [h] at hr
  have hr := hr.symm
  simp only [Bool.and_eq_true, decide_eq_true_eq] at hr
  obtain ⟨⟨⟨⟨hp, h0⟩, h1⟩, h2⟩, h3⟩ := hr
  have n := write_no
  have hl : (textD D).length ≤ 69 := by
    unfold textD dealT
    simp only [List.length_append, List.length_cons, write_pc, h0, h1, h2, h3]
    omega
  have hc : (drest (textD D)).count 32 = 3 := by
    rw [drest_text]
    exact count_four 32 _ _ _ _ (n _) (n _) (n _) (n _)
  have hv : partB (dval (textD D)) = true := by rw [part_same (dval_text D h)]; exact hp
  have hx := dhand_text D (right_lt h)
  unfold dok
  rw [hx 0 (by omega), hx 1 (by omega), hx 2 (by omega), hx 3 (by omega), hv, decide_eq_true hl, decide_eq_true hc]
  simp [textD, hasPrefix]
theorem pstep_lt {b m m' : Nat} {last l' : Int} {c : UInt8} (hb : b ≤ 39) (hm : m < 4503599627370496) (h : pstep b (some (m, last)) c = some (m', l')) : m' < 4503599627370496 := by
  unfold pstep at h
  simp only at h
  split at h
  · cases h
  · rename_i hn
    have h13 := rk_lt c
    injection h with h
    injection h with h h2
    rw [← h]
    exact Nat.or_lt_two_pow (n := 52) hm (Nat.pow_lt_pow_right (by omega) (by omega))
theorem pfold_lt {b : Nat} (hb : b ≤ 39) : ∀ (l : List UInt8) (m m' : Nat) (last l' : Int), m < 4503599627370496 → l.foldl (pstep b) (some (m, last)) = some (m', l') → m' < 4503599627370496
  | [], m, m', last, l', hm, h => by simp at h; omega
  | c :: l, m, m', last, l', hm, h => by
    rw [List.foldl_cons] at h
    cases hs : pstep b (some (m, last)) c with
    | none => rw [hs, pfold_none] at h; cases h
    | some x =>
      obtain ⟨m2, l2⟩ := x
      rw [hs] at h
      exact pfold_lt hb l m2 m' l2 l' (pstep_lt hb hm hs) h
theorem parseTo_lt (ps : Nat → List UInt8) : ∀ (k m : Nat), k ≤ 4 → parseTo ps k = some m → m < 4503599627370496
  | 0, m, _, h => by injection h with h; omega
  | k + 1, m, hk, h => by
    rw [parseTo] at h
    cases hp : parseTo ps k with
    | none => rw [hp] at h; cases h
    | some m0 =>
      rw [hp] at h
      have hm0 := parseTo_lt ps k m0 (by omega) hp
      simp only [Option.bind_some] at h
      unfold partF at h
      cases hf : (ps k).foldl (pstep ((3 - k) * 13)) (some (m0, 13)) with
      | none => rw [hf] at h; cases h
      | some x =>
        obtain ⟨m2, l2⟩ := x
        rw [hf] at h
        injection h with h
        rw [← h]
        exact pfold_lt (by omega) _ _ _ _ _ hm0 hf
theorem cparse_lt {s : List UInt8} {m : Nat} (h : cparse s = some m) : m < 4503599627370496 := by
  unfold cparse at h
  split at h
  · cases h
  · exact parseTo_lt _ 4 m (Nat.le_refl _) h
theorem dval_lt (s : List UInt8) (k : Nat) : dval s k < 4503599627370496 := by
  unfold dval
  cases h : dhand s k with
  | none => decide
  | some m => exact cparse_lt h
end Go.Proofs.YtaadipccgckehaaDoor.Pl
