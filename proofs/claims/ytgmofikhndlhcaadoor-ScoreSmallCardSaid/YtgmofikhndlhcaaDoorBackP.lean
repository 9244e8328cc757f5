/- Plain law of ScoreBack: what is written is read back. -/
import Derived.Test.YtgmofikhndlhcaaDoorParse
namespace Go.Proofs.YtgmofikhndlhcaaDoor

theorem text_read_fin : ∀ (l : Fin 7) (d : Fin 5) (r : Fin 3) (s : Fin 4), readP (textP (l.val + 1) d.val r.val s.val) = ((l.val + 1, d.val, r.val, s.val), 0) := by decide +kernel
theorem text_read_0 : readP (textP 0 0 0 0) = ((0, 0, 0, 0), 0) := by decide +kernel
theorem text_read (l d r s : Nat) (h : rgt l d r s = true) : readP (textP l d r s) = ((l, d, r, s), 0) := by
  rcases rgt_of l d r s h with ⟨rfl, rfl, rfl, rfl⟩ | ⟨h1, h2, h3, h4, h5⟩
  · exact text_read_0
  · have := text_read_fin ⟨l - 1, by omega⟩ ⟨d, by omega⟩ ⟨r, by omega⟩ ⟨s, by omega⟩
    simp only [Nat.sub_add_cancel h1] at this
    exact this
theorem text_space_fin : ∀ (l : Fin 7) (d : Fin 5) (r : Fin 3) (s : Fin 4), (textP (l.val + 1) d.val r.val s.val).contains 32 = true ∧ textP (l.val + 1) d.val r.val s.val ≠ [112, 97, 115, 115] := by decide +kernel
theorem textP_zero : textP 0 0 0 0 = [112, 97, 115, 115] := by decide +kernel
theorem tail_inj_fin : ∀ a b : Fin 27, (tailP ((a.val : Int) - 13) == tailP ((b.val : Int) - 13)) = (a == b) := by decide +kernel
theorem tail_shape_fin : ∀ a : Fin 27, ((tailP ((a.val : Int) - 13)).head? == some 32 && (tailP ((a.val : Int) - 13)).tail.all (· != 32)) = true := by decide +kernel
theorem tail_inj (a b : Int) (ha : -13 ≤ a) (ha' : a ≤ 13) (hb : -13 ≤ b) (hb' : b ≤ 13) (h : tailP a = tailP b) : a = b := by
  have := tail_inj_fin ⟨(a + 13).toNat, by omega⟩ ⟨(b + 13).toNat, by omega⟩
  simp only [show (((a + 13).toNat : Int) - 13) = a by omega, show (((b + 13).toNat : Int) - 13) = b by omega, h, beq_self_eq_true] at this
  have := beq_iff_eq.1 this.symm
  have := congrArg Fin.val this
  simp only at this
  omega
theorem tail_shape (a : Int) (ha : -13 ≤ a) (ha' : a ≤ 13) : ∃ X : List UInt8, tailP a = 32 :: X ∧ ∀ b ∈ X, b ≠ 32 := by
  have := tail_shape_fin ⟨(a + 13).toNat, by omega⟩
  simp only [show (((a + 13).toNat : Int) - 13) = a by omega] at this
  generalize tailP a = L at this
  cases L with
  | nil => simp at this
  | cons x X =>
    simp only [List.head?_cons, List.tail_cons, Bool.and_eq_true, beq_iff_eq, Option.some.injEq, List.all_eq_true, bne_iff_ne] at this
    exact ⟨X, by rw [this.1], this.2⟩
/-- The last space of a text. -/
theorem last_of (T X : List UInt8) (hX : ∀ b ∈ X, b ≠ 32) : Lib.lastIndexByte ⟨(T ++ 32 :: X).toArray⟩ 32 = T.length := by
  have hg : ∀ j : Nat, (⟨(T ++ 32 :: X).toArray⟩ : ByteArray).data[j]! = (T ++ 32 :: X)[j]! := fun j => by simp [List.getElem!_toArray]
  have hsz : (⟨(T ++ 32 :: X).toArray⟩ : ByteArray).size = T.length + (X.length + 1) := by simp [ByteArray.size]
  have ht : (T ++ 32 :: X)[T.length]! = 32 := by simp
  rcases Lib.lastIndexByte_spec ⟨(T ++ 32 :: X).toArray⟩ 32 with ⟨_, hn⟩ | ⟨i, hi, e, hc, hn⟩
  · exact absurd (by rw [hg, ht]; rfl) (hn T.length (by rw [hsz]; omega))
  · rw [e]
    rw [hsz] at hi hn
    rcases Nat.lt_trichotomy i T.length with h | h | h
    · exact absurd (by rw [hg, ht]; rfl) (hn T.length h (by omega))
    · rw [h]
    · exfalso
      rw [hg, List.getElem!_eq_getElem?_getD, List.getElem?_append_right (by omega)] at hc
      obtain ⟨m, hm⟩ : ∃ m, i - T.length = m + 1 := ⟨i - T.length - 1, by omega⟩
      rw [hm, List.getElem?_cons_succ] at hc
      have hmX : m < X.length := by omega
      rw [List.getElem?_eq_getElem hmX] at hc
      simp only [Option.getD_some] at hc
      have h32 : X[m] = 32 := by
        apply UInt8.toNat_inj.1
        have : (32 : UInt8).toNat = 32 := rfl
        omega
      exact hX _ (List.getElem_mem hmX) h32
theorem no_space (s : ByteArray) (h : Lib.lastIndexByte s 32 < 0) : s.data.toList.contains 32 = false := by
  rcases Lib.lastIndexByte_spec s 32 with ⟨_, hn⟩ | ⟨i, hi, e, _, _⟩
  · rw [Bool.eq_false_iff]
    intro hc
    rw [List.contains_iff_mem] at hc
    obtain ⟨j, hj, hv⟩ := List.mem_iff_getElem.1 hc
    have hj' : j < s.data.size := by simpa using hj
    refine hn j hj' ?_
    have : s.data[j]! = 32 := by
      rw [getElem!_pos s.data j hj']
      simpa using hv
    rw [this]; rfl
  · omega
theorem write_made (l d r s : Nat) (k : Int) (h : resP l d r s k = true) (h1 : 1 ≤ l) : writeP l d r s k = (textP l d r s ++ tailP (k - (6 + (l : Int))), 0) := by
  unfold writeP
  rw [if_neg (by rw [h]; decide), if_neg (by omega)]
theorem write_pass (k : Int) (h : resP 0 0 0 0 k = true) : writeP 0 0 0 0 k = (textP 0 0 0 0, 0) := by
  unfold writeP
  rw [if_neg (by rw [h]; decide), if_pos rfl, textP_zero]
theorem hit_eq (l d r s : Nat) (k j : Nat) (hg : rgt l d r s = true) (h1 : 1 ≤ l) (h7 : l ≤ 7) (hk : k ≤ 13) (hj : j < 14) : hit (l, d, r, s) (textP l d r s ++ tailP ((k : Int) - (6 + (l : Int)))) j = (j == k) := by
  unfold hit
  simp only [write_made l d r s (j : Int) (res_mk hg (by omega) (by omega) (.inl h1)) h1]
  rw [Bool.eq_iff_iff]
  simp only [beq_self_eq_true, Bool.true_and, beq_iff_eq, List.append_cancel_left_eq]
  constructor
  · intro h
    have := tail_inj _ _ (by omega) (by omega) (by omega) (by omega) h
    omega
  · rintro rfl; rfl
theorem parse_write (l d r s k : Nat) (hr : resP l d r s k = true) (hz : l = 0 → k = 0) : parseP ⟨(writeP l d r s k).1.toArray⟩ = (((l, d, r, s), k), 0) := by
  have hg := res_rgt hr
  have hk := res_of hr
  rcases rgt_of l d r s hg with ⟨rfl, rfl, rfl, rfl⟩ | ⟨h1, h2, h3, h4, h5⟩
  · rw [write_pass _ hr, textP_zero, hz rfl]
    decide +kernel
  · rw [write_made l d r s k hr h1]
    obtain ⟨X, hX, hno⟩ := tail_shape ((k : Int) - (6 + (l : Int))) (by omega) (by omega)
    have hl : Lib.lastIndexByte ⟨(textP l d r s ++ tailP ((k : Int) - (6 + (l : Int)))).toArray⟩ 32 = (textP l d r s).length := by rw [hX]; exact last_of _ _ hno
    have hne : (textP l d r s ++ tailP ((k : Int) - (6 + (l : Int)))) ≠ [112, 97, 115, 115] := by
      intro h
      have : (32 : UInt8) ∈ ([112, 97, 115, 115] : List UInt8) := by rw [← h, hX]; simp
      revert this; decide
    have he : ((⟨(textP l d r s ++ tailP ((k : Int) - (6 + (l : Int)))).toArray⟩ : ByteArray).extract 0 (textP l d r s).length).data.toList = textP l d r s := by
      rw [Lib.extract_data]
      simp
    unfold parseP
    rw [hl, Int.toNat_natCast, he, text_read l d r s hg]
    rw [if_neg (by
      simp only [Bool.or_eq_true, beq_iff_eq, decide_eq_true_eq, not_or]
      exact ⟨hne, by omega⟩)]
    rw [if_neg (by simp; omega)]
    exact parseQ_hit _ _ k (by omega) (fun j hj => by
      rw [hit_eq l d r s k j hg h1 h2 (by omega) (by omega)]
      exact beq_eq_false_iff_ne.2 (by omega)) (by rw [hit_eq l d r s k k hg h1 h2 (by omega) (by omega)]; exact beq_self_eq_true k)
theorem cand_text (b0 b1 bl : UInt8) (r : Nat) (L : List UInt8) (h : (cand b0 b1 bl r L).2 = 0) : textP (cand b0 b1 bl r L).1.1 (cand b0 b1 bl r L).1.2.1 (cand b0 b1 bl r L).1.2.2.1 (cand b0 b1 bl r L).1.2.2.2 = L := by
  unfold cand at h ⊢
  split
  · rename_i c; rw [if_pos c] at h; exact absurd h (by decide)
  · rename_i c
    rw [if_neg c] at h
    split
    · rename_i c2; exact beq_iff_eq.1 c2
    · rename_i c2; rw [if_neg c2] at h; exact absurd h (by decide)
theorem read_text (L : List UInt8) (h : (readP L).2 = 0) : textP (readP L).1.1 (readP L).1.2.1 (readP L).1.2.2.1 (readP L).1.2.2.2 = L := by
  unfold readP at h ⊢
  split
  · rename_i c; rw [textP_zero]; exact (beq_iff_eq.1 c).symm
  · rename_i c
    rw [if_neg c] at h
    split <;> simp only at h
    · exact cand_text _ _ _ _ _ h
    · exact cand_text _ _ _ _ _ h
    · exact cand_text _ _ _ _ _ h
    · exact absurd h (by decide)
theorem read_back (L : List UInt8) (l d r s : Nat) (h : readP L = ((l, d, r, s), 0)) : textR l d r s = (L, 0) := by
  have h2 : (readP L).2 = 0 := by rw [h]
  have hr := read_right L h2
  have ht := read_text L h2
  rw [h] at hr ht
  unfold textR
  rw [if_pos hr, ht]
theorem parseQ_back (q : Con) (L : List UInt8) (c : Con) (k : Nat) (h : parseQ q L = ((c, k), 0)) : c = q ∧ hit q L k = true ∧ k < 14 := by
  unfold parseQ at h
  split at h
  · rename_i j hj
    have h1 := List.find?_some hj
    have h2 := List.mem_of_find?_eq_some hj
    rw [List.mem_range] at h2
    simp only [Prod.mk.injEq, and_true] at h
    obtain ⟨rfl, rfl⟩ := h
    exact ⟨rfl, h1, h2⟩
  · exact absurd (show (170 : Int) = 0 from congrArg Prod.snd h) (by decide)
theorem parse_back (s : ByteArray) (l d r c k : Nat) (h : parseP s = (((l, d, r, c), k), 0)) : writeP l d r c k = (s.data.toList, 0) := by
  unfold parseP at h
  split at h
  · rename_i hc
    have h2 : (readP s.data.toList).2 = 0 := (Prod.mk.inj h).2
    have h1 : (readP s.data.toList).1 = (l, d, r, c) := (Prod.mk.inj (Prod.mk.inj h).1).1
    have h3 : k = 0 := ((Prod.mk.inj (Prod.mk.inj h).1).2).symm
    have ht := read_text _ h2
    have hr := read_right _ h2
    rw [h1] at ht hr
    simp only at ht hr
    subst h3
    rcases rgt_of l d r c hr with ⟨rfl, rfl, rfl, rfl⟩ | ⟨g1, g2, g3, g4, g5⟩
    · rw [← ht]
      decide +kernel
    · exfalso
      have hf := text_space_fin ⟨l - 1, by omega⟩ ⟨d, by omega⟩ ⟨r, by omega⟩ ⟨c, by omega⟩
      simp only [Nat.sub_add_cancel g1, ht] at hf
      rw [Bool.or_eq_true, beq_iff_eq, decide_eq_true_eq] at hc
      rcases hc with hc | hc
      · exact hf.2 hc
      · have := no_space s hc
        rw [this] at hf
        exact absurd hf.1 (by decide)
  · split at h
    · exact absurd (show (170 : Int) = 0 from congrArg Prod.snd h) (by decide)
    · obtain ⟨hq, hh, hk⟩ := parseQ_back _ _ _ _ h
      rw [← hq] at hh
      unfold hit at hh
      simp only [Bool.and_eq_true, beq_iff_eq] at hh
      exact Prod.ext hh.2 hh.1
theorem write_prefix (l d r s : Nat) (k : Int) (h : resP l d r s k = true) : ∃ X, (writeP l d r s k).1 = textP l d r s ++ X := by
  rcases rgt_of l d r s (res_rgt h) with ⟨rfl, rfl, rfl, rfl⟩ | ⟨g1, _⟩
  · exact ⟨[], by rw [write_pass _ h, List.append_nil]⟩
  · exact ⟨_, by rw [write_made l d r s k h g1]⟩
theorem write_inj (l d r s k l' d' r' s' k' : Nat) (h : resP l d r s k = true) (h' : resP l' d' r' s' k' = true) (hz : l = 0 → k = 0) (hz' : l' = 0 → k' = 0)
    (he : (writeP l d r s k).1 = (writeP l' d' r' s' k').1) : (l = l' ∧ d = d' ∧ r = r' ∧ s = s') ∧ k = k' := by
  have a := parse_write l d r s k h hz
  have b := parse_write l' d' r' s' k' h' hz'
  rw [he, b] at a
  simp only [Prod.mk.injEq, and_true] at a
  obtain ⟨⟨rfl, rfl, rfl, rfl⟩, rfl⟩ := a
  exact ⟨⟨rfl, rfl, rfl, rfl⟩, rfl⟩
end Go.Proofs.YtgmofikhndlhcaaDoor
