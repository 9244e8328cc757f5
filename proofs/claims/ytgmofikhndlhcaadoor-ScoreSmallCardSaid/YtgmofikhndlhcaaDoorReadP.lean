/- Plain law of the reference's Read and Parse. -/
import Derived.Test.YtgmofikhndlhcaaDoorBackP
namespace Go.Proofs.YtgmofikhndlhcaaDoor

/-- Whether a contract's text is L. -/
def fits (L : List UInt8) (l d r q : Nat) : Bool := (textR l d r q).2 == 0 && (textR l d r q).1 == L
def fitsI (L : List UInt8) (i : Nat) : Bool := fits L (i / 60) (i / 12 % 5) (i / 4 % 3) (i % 4)
theorem fitsI_at (L : List UInt8) (l d r q : Nat) (hd : d < 5) (hr : r < 3) (hq : q < 4) : fitsI L (l * 60 + d * 12 + r * 4 + q) = fits L l d r q := by
  unfold fitsI
  rw [show (l * 60 + d * 12 + r * 4 + q) / 60 = l by omega, show (l * 60 + d * 12 + r * 4 + q) / 12 % 5 = d by omega, show (l * 60 + d * 12 + r * 4 + q) / 4 % 3 = r by omega, show (l * 60 + d * 12 + r * 4 + q) % 4 = q by omega]
theorem fits_rgt (L : List UInt8) (l d r q : Nat) (h : fits L l d r q = true) : rgt l d r q = true ∧ textP l d r q = L := by
  unfold fits textR at h
  rw [Bool.and_eq_true, beq_iff_eq, beq_iff_eq] at h
  by_cases hr : rgt l d r q = true
  · rw [if_pos hr] at h; exact ⟨hr, h.2⟩
  · rw [if_neg hr] at h; exact absurd h.1 (by decide)
theorem fits_read (L : List UInt8) (l d r q : Nat) (h : fits L l d r q = true) : readP L = ((l, d, r, q), 0) := by
  obtain ⟨h1, h2⟩ := fits_rgt L l d r q h
  rw [← h2]; exact text_read l d r q h1
theorem cand_bad (b0 b1 bl : UInt8) (r : Nat) (L : List UInt8) (h : (cand b0 b1 bl r L).2 ≠ 0) : cand b0 b1 bl r L = badR := by
  unfold cand at h ⊢
  split
  · rfl
  · rename_i c
    rw [if_neg c] at h
    split
    · rename_i c2; rw [if_pos c2] at h; exact absurd rfl h
    · rfl
theorem read_bad (L : List UInt8) (h : (readP L).2 ≠ 0) : readP L = badR := by
  unfold readP at h ⊢
  split
  · rename_i c; rw [if_pos c] at h; exact absurd rfl h
  · rename_i c
    rw [if_neg c] at h
    split <;> simp only at h
    · exact cand_bad _ _ _ _ _ h
    · exact cand_bad _ _ _ _ _ h
    · exact cand_bad _ _ _ _ _ h
    · rfl
theorem fits_none (L : List UInt8) (h : ∀ i, i < 480 → fitsI L i = false) : readP L = badR := by
  by_cases he : (readP L).2 = 0
  · exfalso
    have hr := read_right L he
    have ht := read_text L he
    generalize (readP L).1 = c at hr ht
    obtain ⟨l, d, r, q⟩ := c
    simp only at hr ht
    have hb := rgt_of l d r q hr
    have := h (l * 60 + d * 12 + r * 4 + q) (by omega)
    rw [fitsI_at L l d r q (by omega) (by omega) (by omega)] at this
    unfold fits textR at this
    rw [if_pos hr, ht] at this
    simp at this
  · exact read_bad L he
theorem read_cases (L : List UInt8) : (readP L).2 = 0 ∨ readP L = badR := by
  by_cases h : (readP L).2 = 0
  · exact .inl h
  · exact .inr (read_bad L h)
/-- Parse as the reference has it. -/
def parseR (s : ByteArray) : (Con × Nat) × Int :=
  if s.data.toList == [112, 97, 115, 115] then (((0, 0, 0, 0), 0), 0)
  else if Lib.lastIndexByte s 32 < 0 then badP
  else if (readP (s.extract 0 (Lib.lastIndexByte s 32).toNat).data.toList).2 != 0 then badP
  else parseQ (readP (s.extract 0 (Lib.lastIndexByte s 32).toNat).data.toList).1 s.data.toList
theorem hit_pass (L : List UInt8) (k : Nat) (h : L ≠ [112, 97, 115, 115]) : hit (0, 0, 0, 0) L k = false := by
  unfold hit
  simp only
  by_cases hr : resP 0 0 0 0 k = true
  · rw [write_pass _ hr, textP_zero]
    simp only [Bool.and_eq_false_iff]
    exact .inr (beq_eq_false_iff_ne.2 (Ne.symm h))
  · unfold writeP
    rw [if_pos (by simpa using hr)]
    rfl
theorem parse_eq (s : ByteArray) : parseP s = parseR s := by
  unfold parseP parseR
  by_cases hp : (s.data.toList == [112, 97, 115, 115]) = true
  · rw [if_pos (by rw [hp]; rfl), if_pos hp]
    rw [beq_iff_eq] at hp
    rw [hp]
    decide +kernel
  · rw [if_neg hp]
    have hp' : s.data.toList ≠ [112, 97, 115, 115] := fun h => hp (by rw [h]; rfl)
    by_cases hi : Lib.lastIndexByte s 32 < 0
    · rw [if_pos (by rw [decide_eq_true hi, Bool.or_true]), if_pos hi]
      rcases read_cases s.data.toList with h | h
      · exfalso
        have ht := read_text _ h
        have hr := read_right _ h
        generalize (readP s.data.toList).1 = c at ht hr
        obtain ⟨l, d, r, q⟩ := c
        simp only at ht hr
        rcases rgt_of l d r q hr with ⟨rfl, rfl, rfl, rfl⟩ | ⟨g1, g2, g3, g4, g5⟩
        · rw [textP_zero] at ht; exact hp' ht.symm
        · have hf := text_space_fin ⟨l - 1, by omega⟩ ⟨d, by omega⟩ ⟨r, by omega⟩ ⟨q, by omega⟩
          simp only [Nat.sub_add_cancel g1, ht] at hf
          rw [no_space s hi] at hf
          exact absurd hf.1 (by decide)
      · rw [h]; rfl
    · rw [if_neg (by rw [Bool.or_eq_true, decide_eq_true_eq]; rintro (h | h); exact hp h; exact hi h), if_neg hi]
      generalize hq : readP (s.extract 0 (Lib.lastIndexByte s 32).toNat).data.toList = q
      obtain ⟨⟨l, d, r, c⟩, e⟩ := q
      by_cases he : e = 0
      · subst he
        by_cases hl : l = 0
        · subst hl
          rw [if_pos (by rfl), if_neg (by simp)]
          have hr := read_right (s.extract 0 (Lib.lastIndexByte s 32).toNat).data.toList (by rw [hq])
          rw [hq] at hr
          simp only at hr
          rcases rgt_of 0 d r c hr with ⟨_, rfl, rfl, rfl⟩ | h
          · exact (parseQ_none _ _ (fun j _ => hit_pass _ j hp')).symm
          · omega
        · rw [if_neg (by simp [hl]), if_neg (by simp)]
      · rw [if_pos (by simp [he]), if_pos (by simp [he])]
attribute [irreducible] fits fitsI parseR
end Go.Proofs.YtgmofikhndlhcaaDoor
