/- Plain: the reference's decimal text of a rounded number is that of Round. -/
import Derived.Test.YtfhkgpipbegpgaaGreatDoorNearP
namespace Go.Proofs.YtfhkgpipbegpgaaGreatDoor

def padP (k T : Nat) : List UInt8 := List.replicate (k + 1 - (Lib.decDigits T).length) 48 ++ Lib.decDigits T
theorem dec_small {u : Nat} (h : u < 10) : Lib.decDigits u = [UInt8.ofNat (48 + u)] := by rw [Lib.decDigits, dif_pos h]
theorem dec_big {u : Nat} (h : ¬ u < 10) : Lib.decDigits u = Lib.decDigits (u / 10) ++ [UInt8.ofNat (48 + u % 10)] := by rw [Lib.decDigits, dif_neg h]
theorem rep_snoc (k : Nat) : List.replicate (k + 1) (48 : UInt8) = List.replicate k 48 ++ [48] := List.replicate_succ'
theorem padP_succ (k T : Nat) : padP (k + 1) T = padP k (T / 10) ++ [UInt8.ofNat (48 + T % 10)] := by
  unfold padP
  by_cases h : T < 10
  · rw [dec_small h, show T / 10 = 0 by omega, dec_small (by omega), show T % 10 = T by omega]
    have e : List.replicate (k + 1 + 1 - ([UInt8.ofNat (48 + T)] : List UInt8).length) (48 : UInt8) = List.replicate k 48 ++ [48] := by
      rw [← rep_snoc]; congr 1
    rw [e]
    rfl
  · rw [dec_big h, ← List.append_assoc]
    congr 2
    simp
theorem partD_succ (k c e : Nat) (hc : c < p10 k) (he : e < 10) : partD (k + 1) (c * 10 + e) = partD k c ++ [UInt8.ofNat (48 + e)] := by
  unfold partD
  rw [if_neg (by omega)]
  by_cases hk : k = 0
  · subst hk
    rw [p10_zero] at hc
    have hc0 : c = 0 := by omega
    subst hc0
    rw [if_pos rfl, Nat.zero_mul]
    unfold padD
    rw [Nat.zero_add e, dec_small he]; rfl
  · rw [if_neg hk]
    unfold padD
    by_cases h : c * 10 + e < 10
    · have hc0 : c = 0 := by omega
      subst hc0
      rw [Nat.zero_mul, Nat.zero_add e, dec_small he, dec_small (by omega)]
      obtain ⟨j, rfl⟩ : ∃ j, k = j + 1 := ⟨k - 1, by omega⟩
      have e1 : List.replicate (j + 1 + 1 - ([UInt8.ofNat (48 + e)] : List UInt8).length) (48 : UInt8) = List.replicate j 48 ++ [48] := by
        rw [← rep_snoc]; congr 1
      rw [e1]; rfl
    · rw [dec_big h, show (c * 10 + e) / 10 = c by omega, show (c * 10 + e) % 10 = e by omega, ← List.append_assoc]
      congr 2
      simp
theorem padP_split (k : Nat) : ∀ T, padP k T = Lib.decDigits (T / p10 k) ++ partD k (T % p10 k) := by
  induction k with
  | zero =>
    intro T
    have h1 := List.length_pos_iff.2 (dec_ne T)
    unfold padP partD
    rw [p10_zero, Nat.div_one, if_pos rfl, List.append_nil, show 0 + 1 - (Lib.decDigits T).length = 0 by omega]; rfl
  | succ k ih =>
    intro T
    have hp := p10_pos k
    have e1 : T / p10 (k + 1) = T / 10 / p10 k := by rw [p10_succ, Nat.mul_comm, Nat.div_div_eq_div_mul]
    have e2 : T % p10 (k + 1) = T / 10 % p10 k * 10 + T % 10 := by
      rw [p10_succ, Nat.mul_comm (p10 k), Nat.mod_mul]; omega
    rw [padP_succ, ih (T / 10), e1, e2, partD_succ _ _ _ (Nat.mod_lt _ hp) (Nat.mod_lt _ (by omega)), List.append_assoc]
theorem padP_len (k T : Nat) : k + 1 ≤ (padP k T).length := by
  unfold padP
  rw [List.length_append, List.length_replicate]; omega
/-- The text with its point. -/
theorem pad_point (neg : Bool) (k T : Nat) (hk : 0 < k) : roundL neg k T = (if neg = true ∧ 0 < T then [45] else []) ++ ((padP k T).take ((padP k T).length - k) ++ [46] ++ (padP k T).drop ((padP k T).length - k)) := by
  have hp := p10_pos k
  have hl := partD_len (k := k) (b := T % p10 k) (Nat.mod_lt _ hp)
  have hs := padP_split k T
  have hlen : (padP k T).length - k = (Lib.decDigits (T / p10 k)).length := by
    rw [hs, List.length_append, hl]; omega
  rw [round_body, hlen, hs, List.take_left', List.drop_left']
  · unfold bodyL partD
    have hk0 : k ≠ 0 := by omega
    simp [hk0]
  · rfl
  · rfl
theorem pad_zero (neg : Bool) (T : Nat) : roundL neg 0 T = (if neg = true ∧ 0 < T then [45] else []) ++ padP 0 T := by
  rw [round_body, padP_split 0 T]
  unfold bodyL partD
  rw [if_pos rfl, if_pos rfl]
end Go.Proofs.YtfhkgpipbegpgaaGreatDoor
