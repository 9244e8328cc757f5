/- Plain: the text of a fraction is read as it was; what is near it is no text. -/
import Derived.Test.YtfhkgpipbegpgaaGreatDoorRd
namespace Go.Proofs.YtfhkgpipbegpgaaGreatDoor
open Go

theorem dig_nat {k : Nat} (h : k < 10) : (UInt8.ofNat (48 + k)).toNat = 48 + k := by
  rw [UInt8.toNat_ofNat']; omega
theorem parse_dec (u : Nat) : ∀ (r : List UInt8), u < 18446744073709551616 → Lib.parseUint10 0 (Lib.decDigits u ++ r) = Lib.parseUint10 u r := by
  induction u using Nat.strongRecOn with
  | ind u ih =>
    intro r hu
    rw [Lib.decDigits]
    by_cases h : u < 10
    · rw [dif_pos h, List.singleton_append, Lib.parseUint10, dig_nat h, if_pos (by omega), if_neg (by decide), if_neg (by omega)]
      congr 1; omega
    · rw [dif_neg h, List.append_assoc, ih (u / 10) (by omega) _ (by omega), List.singleton_append, Lib.parseUint10, dig_nat (by omega), if_pos (by omega), if_neg (by omega), if_neg (by omega)]
      congr 1; omega
theorem dec_digit (u : Nat) : ∀ c ∈ Lib.decDigits u, 48 ≤ c.toNat ∧ c.toNat ≤ 57 := by
  induction u using Nat.strongRecOn with
  | ind u ih =>
    intro c hc
    rw [Lib.decDigits] at hc
    by_cases h : u < 10
    · rw [dif_pos h, List.mem_singleton] at hc
      rw [hc, dig_nat h]; omega
    · rw [dif_neg h, List.mem_append, List.mem_singleton] at hc
      rcases hc with hc | hc
      · exact ih (u / 10) (by omega) c hc
      · rw [hc, dig_nat (by omega)]; omega
theorem dec_ne (u : Nat) : Lib.decDigits u ≠ [] := by
  rw [Lib.decDigits]; split <;> simp
theorem mag_dec (u : Nat) (h : u < 18446744073709551616) : Lib.parseMag (Lib.decDigits u) = .ok u := by
  unfold Lib.parseMag
  rw [if_neg (dec_ne u)]
  have := parse_dec u [] h
  rw [List.append_nil] at this
  exact this
theorem atoi_itoa (n : Int) (h0 : -9223372036854775808 ≤ n) (h1 : n ≤ 9223372036854775807) : Lib.atoiAll (Lib.itoa n) = .ok n := by
  unfold Lib.itoa
  by_cases h : n < 0
  · rw [if_pos h]
    unfold Lib.atoiAll
    simp only
    rw [if_pos (Or.inr (by decide)), mag_dec _ (by omega)]
    simp only
    rw [if_neg (by rintro ⟨h, _⟩; exact h (by decide)), if_neg (by rintro ⟨_, h⟩; omega), if_pos (by decide)]
    congr 1; omega
  · rw [if_neg h]
    rcases hd : Lib.decDigits n.toNat with _ | ⟨c, r⟩
    · exact absurd hd (dec_ne _)
    · have hc := dec_digit n.toNat c (by rw [hd]; exact List.mem_cons_self ..)
      have hm := mag_dec n.toNat (by omega)
      rw [hd] at hm
      unfold Lib.atoiAll
      simp only
      rw [if_neg (by omega), hm]
      simp only
      rw [if_neg (by rintro ⟨_, h⟩; omega), if_neg (by rintro ⟨h, _⟩; omega), if_neg (by omega)]
      congr 1; omega
theorem idx_hit : ∀ (a b : List UInt8), (47 : UInt8) ∉ a → Lib.index (a ++ 47 :: b) [47] = a.length
  | [], b, _ => by simp [Lib.index]
  | c :: a, b, h => by
    have hc : (47 : UInt8) ≠ c := fun e => h (by rw [e]; exact List.mem_cons_self ..)
    have ha : (47 : UInt8) ∉ a := fun e => h (List.mem_cons_of_mem _ e)
    rw [List.cons_append, Lib.index, idx_hit a b ha]
    rw [if_neg (by simp [List.isPrefixOf, hc]), if_neg (by simp)]
    simp
theorem idx_miss : ∀ (a : List UInt8), (47 : UInt8) ∉ a → Lib.index a [47] = -1
  | [], _ => by simp [Lib.index]
  | c :: a, h => by
    have hc : (47 : UInt8) ≠ c := fun e => h (by rw [e]; exact List.mem_cons_self ..)
    have ha : (47 : UInt8) ∉ a := fun e => h (List.mem_cons_of_mem _ e)
    rw [Lib.index, idx_miss a ha]
    rw [if_neg (by simp [List.isPrefixOf, hc]), if_pos (by simp)]
theorem cut_hit (a b : List UInt8) (h : (47 : UInt8) ∉ a) : Lib.cut (a ++ 47 :: b) [47] = (a, b, true) := by
  unfold Lib.cut
  rw [idx_hit a b h, if_pos (by omega)]
  simp
theorem cut_miss (a : List UInt8) (h : (47 : UInt8) ∉ a) : Lib.cut a [47] = (a, [], false) := by
  unfold Lib.cut
  rw [idx_miss a h, if_neg (by omega)]
theorem itoa_sign (n : Int) : ∀ c ∈ Lib.itoa n, c = 45 ∨ (48 ≤ c.toNat ∧ c.toNat ≤ 57) := by
  intro c hc
  unfold Lib.itoa at hc
  split at hc
  · rcases List.mem_cons.1 hc with h | h
    · exact Or.inl h
    · exact Or.inr (dec_digit _ c h)
  · exact Or.inr (dec_digit _ c hc)
theorem itoa_free (n : Int) : (47 : UInt8) ∉ Lib.itoa n := fun h => by
  rcases itoa_sign n 47 h with h | h
  · exact absurd h (by decide)
  · exact absurd h (by decide)
theorem dec19 (u : Nat) (h : u < 10000000000000000000) : (Lib.decDigits u).length ≤ 19 := by
  rw [Lib.decDigits_length]; exact nDigits_le 19 u (by omega) (by decide)
theorem itoa20 (n : Int) (h0 : -9223372036854775808 ≤ n) (h1 : n ≤ 9223372036854775807) : (Lib.itoa n).length ≤ 20 := by
  unfold Lib.itoa
  split
  · have := dec19 n.natAbs (by omega); simp only [List.length_cons]; omega
  · have := dec19 n.toNat (by omega); omega
theorem itoa19 (n : Int) (h0 : 0 ≤ n) (h1 : n ≤ 9223372036854775807) : (Lib.itoa n).length ≤ 19 := by
  unfold Lib.itoa
  rw [if_neg (by omega)]; exact dec19 n.toNat (by omega)
/-- The text of a fraction is read as it was. -/
theorem read_text (n d : Int) (hf : FB n d) (hr : rightB n d = true) : readF (textF n d) = (n, d, 0) := by
  have hn := atoi_itoa n hf.n0 hf.n1
  have hd := atoi_itoa d hf.d0 hf.d1
  have hc : chkF (textF n d) n d = (n, d, 0) := by unfold chkF; rw [if_pos ⟨hr, rfl⟩]
  by_cases h1 : d = 1
  · subst h1
    have ht : textF n 1 = Lib.itoa n := by unfold textF; simp
    rw [readF, ht, cut_miss _ (itoa_free n)]
    rw [ht] at hc
    simp only [hn, okOf, readR]
    rw [if_neg (by have := itoa20 n hf.n0 hf.n1; omega), if_neg (by decide)]
    exact hc
  · have ht : textF n d = Lib.itoa n ++ 47 :: Lib.itoa d := by unfold textF; rw [if_neg h1]
    rw [readF, ht, cut_hit _ _ (itoa_free n)]
    rw [ht] at hc
    simp only [hn, hd, okOf, readR]
    rw [if_neg (by have := itoa20 n hf.n0 hf.n1; have := itoa19 d (by have := right_pos hr; omega) hf.d1; simp only [List.length_append, List.length_cons]; omega), if_pos trivial]
    exact hc
/-- Different fractions have different texts. -/
theorem text_inj (n d m k : Int) (hf : FB n d) (hg : FB m k) (hr : rightB n d = true) (hs : rightB m k = true) (h : textF n d = textF m k) : n = m ∧ d = k := by
  have h1 := read_text n d hf hr
  rw [h, read_text m k hg hs] at h1
  injection h1 with a b
  injection b with b _
  exact ⟨a.symm, b.symm⟩
/-- What is no text is not read. -/
theorem read_none (L : List UInt8) (h : ∀ n d, rightB n d = true → textF n d ≠ L) : readF L = (0, 0, 10) := by
  have hc : ∀ n d, chkF L n d = (0, 0, 10) := fun n d => by
    unfold chkF; rw [if_neg (fun e => h n d e.1 e.2)]
  unfold readF readR
  split
  · rfl
  · split
    · rfl
    · split
      · split
        · rfl
        · exact hc _ _
      · exact hc _ _
theorem dec_last (u : Nat) (l : List UInt8) (c : UInt8) (h : Lib.decDigits u = l ++ [c]) : 48 ≤ c.toNat ∧ c.toNat ≤ 57 :=
  dec_digit u c (by rw [h]; simp)
theorem itoa_last (n : Int) (l : List UInt8) (c : UInt8) (h : Lib.itoa n = l ++ [c]) : 48 ≤ c.toNat ∧ c.toNat ≤ 57 := by
  unfold Lib.itoa at h
  split at h
  · cases l with
    | nil =>
      rw [List.nil_append] at h
      injection h with _ h
      exact absurd h (dec_ne _)
    | cons a l =>
      rw [List.cons_append] at h
      injection h with _ h
      exact dec_last _ _ _ h
  · exact dec_last _ _ _ h
theorem itoa_ne (n : Int) : Lib.itoa n ≠ [] := by
  unfold Lib.itoa
  split
  · simp
  · exact dec_ne _
theorem text_last (n d : Int) (l : List UInt8) (c : UInt8) (h : textF n d = l ++ [c]) : 48 ≤ c.toNat ∧ c.toNat ≤ 57 := by
  unfold textF at h
  split at h
  · rw [List.append_nil] at h; exact itoa_last _ _ _ h
  · rcases List.eq_nil_or_concat (Lib.itoa d) with e | ⟨m, x, e⟩
    · exact absurd e (itoa_ne d)
    · rw [List.concat_eq_append] at e
      have e2 : (Lib.itoa n ++ 47 :: m) ++ [x] = l ++ [c] := by rw [← h, e]; simp
      have := (List.append_inj' e2 rfl).2
      injection this with this _
      rw [← this]
      exact itoa_last d m x e
theorem text_head (n d : Int) (c : UInt8) (r : List UInt8) (h : textF n d = c :: r) : c = 45 ∨ (48 ≤ c.toNat ∧ c.toNat ≤ 57) := by
  unfold textF at h
  rcases hi : Lib.itoa n with _ | ⟨a, l⟩
  · exact absurd hi (itoa_ne n)
  · rw [hi, List.cons_append] at h
    injection h with h _
    rw [← h]
    exact itoa_sign n a (by rw [hi]; exact List.mem_cons_self ..)
theorem dec_lead (u : Nat) : ∀ r, Lib.decDigits u = 48 :: r → u = 0 := by
  induction u using Nat.strongRecOn with
  | ind u ih =>
    intro r h
    rw [Lib.decDigits] at h
    by_cases hu : u < 10
    · rw [dif_pos hu] at h
      injection h with h _
      have := dig_nat hu
      rw [h] at this
      have : (48 : UInt8).toNat = 48 := rfl
      omega
    · rw [dif_neg hu] at h
      rcases hd : Lib.decDigits (u / 10) with _ | ⟨a, l⟩
      · exact absurd hd (dec_ne _)
      · rw [hd, List.cons_append] at h
        injection h with h _
        have := ih (u / 10) (by omega) l (by rw [hd, h])
        omega
theorem itoa_lead (n : Int) (r : List UInt8) (h : Lib.itoa n = 48 :: r) : r = [] := by
  unfold Lib.itoa at h
  split at h
  · injection h with h _; exact absurd h (by decide)
  · have h0 := dec_lead _ r h
    rw [h0] at h
    rw [Lib.decDigits, dif_pos (by omega)] at h
    injection h with _ h
    exact h.symm
theorem itoa_one (k : Int) (h : Lib.itoa k = [49]) : k = 1 := by
  unfold Lib.itoa at h
  split at h
  · injection h with h _; exact absurd h (by decide)
  · rw [Lib.decDigits] at h
    by_cases hu : k.toNat < 10
    · rw [dif_pos hu] at h
      injection h with h _
      have := dig_nat hu
      rw [h] at this
      have : (49 : UInt8).toNat = 49 := rfl
      omega
    · rw [dif_neg hu] at h
      have hl := congrArg List.length h
      have := List.length_pos_iff.2 (dec_ne (k.toNat / 10))
      simp only [List.length_append, List.length_cons, List.length_nil] at hl
      omega
theorem text_ne (n d : Int) : textF n d ≠ [] := by
  unfold textF
  have := List.length_pos_iff.2 (itoa_ne n)
  intro h
  have := congrArg List.length h
  simp only [List.length_append, List.length_nil] at this
  omega
theorem text_two {n d : Int} (h : d ≠ 1) : textF n d = Lib.itoa n ++ 47 :: Lib.itoa d := by unfold textF; rw [if_neg h]
theorem text_one (n : Int) : textF n 1 = Lib.itoa n := by unfold textF; simp
theorem none_0 (n d : Int) : readF (48 :: textF n d) = (0, 0, 10) := read_none _ fun m k _ h => by
  by_cases hk : k = 1
  · subst hk
    rw [text_one] at h
    exact text_ne _ _ (itoa_lead _ _ h)
  · rw [text_two hk] at h
    rcases hi : Lib.itoa m with _ | ⟨a, l⟩
    · exact itoa_ne m hi
    · rw [hi, List.cons_append] at h
      injection h with h0 h
      subst h0
      rw [itoa_lead _ _ hi, List.nil_append] at h
      rcases text_head n d 47 _ h.symm with e | e
      · exact absurd e (by decide)
      · exact absurd e (by decide)
theorem none_head (c : UInt8) (n d : Int) (h0 : c ≠ 45) (h1 : ¬ (48 ≤ c.toNat ∧ c.toNat ≤ 57)) : readF (c :: textF n d) = (0, 0, 10) := read_none _ fun m k _ h => by
  rcases text_head m k c _ h with e | e
  · exact h0 e
  · exact h1 e
theorem none_last (c : UInt8) (n d : Int) (h1 : ¬ (48 ≤ c.toNat ∧ c.toNat ≤ 57)) : readF (textF n d ++ [c]) = (0, 0, 10) := read_none _ fun m k _ h =>
  h1 (text_last m k _ c h)
theorem none_1 (n d : Int) : readF (textF n d ++ [47, 49]) = (0, 0, 10) := read_none _ fun m k _ h => by
  by_cases hk : k = 1
  · subst hk
    rw [text_one] at h
    exact itoa_free m (by rw [h]; simp)
  · rw [text_two hk] at h
    have h1 := congrArg (fun l => Lib.cut l [47]) h
    by_cases hd : d = 1
    · subst hd
      rw [text_one] at h1
      simp only [cut_hit _ _ (itoa_free m), cut_hit _ _ (itoa_free n)] at h1
      injection h1 with _ h1
      injection h1 with h1 _
      exact hk (itoa_one k h1)
    · rw [text_two hd] at h1
      simp only [cut_hit _ _ (itoa_free m), List.append_assoc, List.cons_append, cut_hit _ _ (itoa_free n)] at h1
      injection h1 with _ h1
      injection h1 with h1 _
      exact itoa_free k (by rw [h1]; simp)
end Go.Proofs.YtfhkgpipbegpgaaGreatDoor
