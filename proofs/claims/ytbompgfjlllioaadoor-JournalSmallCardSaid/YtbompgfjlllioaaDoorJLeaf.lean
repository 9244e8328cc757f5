/- Records and their checks: right and sum, of strings and of bytes, Record and Check of the reference. -/
import Derived.Test.YtbompgfjlllioaaDoorJP
import Derived.Test.YtbompgfjlllioaaDoorKit
import Derived.Test.YtbompgfjlllioaaDoorProg
import Derived.Test.YtbompgfjlllioaaDoorBlk
import Derived.Lib.Hide
namespace Go.Proofs.YtbompgfjlllioaaDoor
open Go Go.RowKit

/-- A row of bytes in a world. -/
def BS (W : World) (b o : Nat) (l : List UInt8) : Prop := ∀ i c, l[i]? = some c → W.cell? ⟨b, o + i, none⟩ = some (.int .u8 (c.toNat : Int))
theorem BS.keep {W W' : World} {b o : Nat} {l : List UInt8} (h : BS W b o l) (hb : Below W.heap.size W W') : BS W' b o l := fun i c hi => keepW hb (h i c hi)
theorem BS.nil (W : World) (b o : Nat) : BS W b o [] := fun i c hi => by simp at hi
theorem BS.drop {W : World} {b o : Nat} {l : List UInt8} (h : BS W b o l) (k : Nat) : BS W b (o + k) (l.drop k) := fun i c hi => by
  rw [List.getElem?_drop] at hi
  rw [Nat.add_assoc]
  exact h _ _ hi
theorem BS.take {W : World} {b o : Nat} {l : List UInt8} (h : BS W b o l) (k : Nat) : BS W b o (l.take k) := fun i c hi => by
  rw [List.getElem?_take] at hi
  split at hi
  · exact h i c hi
  · cases hi
theorem BS.at_ {W : World} {b o : Nat} {l : List UInt8} (h : BS W b o l) {k : Nat} (hk : k < l.length) : W.cell? ⟨b, o + k, none⟩ = some (.int .u8 (l[k].toNat : Int)) := h k _ (List.getElem?_eq_getElem hk)
theorem add_at (b off j : Nat) : (⟨b, off, none⟩ : Addr).add j = ⟨b, off + j, none⟩ := by
  unfold Addr.add
  by_cases h : j = 0 <;> simp [h]
theorem str_at (s : ByteArray) (k : Nat) (h : k < s.size) : s.data.toList[k]'(by simpa using h) = s[k] := by
  simp only [Array.getElem_toList]; rfl
theorem str_len (s : ByteArray) : s.data.toList.length = s.size := by simp
set_option maxRecDepth 100000 in
set_option maxHeartbeats 2000000 in
theorem sum_s (x : Nat) (hx : x < 9973) (s : ByteArray) (hs : s.size ≤ 2000000) (w : World) : Calls Tryd.prog 37 #[.int .i64 (x : Int), .string s] w (fun e w' => e = .returned (.int .i64 (sumL x s.data.toList : Nat)) ∧ w = w') := by
  have q2 : decide (0 ≤ (s.size : Int)) = true := decide_eq_true (by omega)
  go_enter Tryd.func37, Tryd.ntmps37
  go_wp2
  go_loopw [5, 10] (fun s5 s10 wr => ∃ k X : Nat, k ≤ s.size ∧ s10 = .int .i64 k ∧ s5 = .int .i64 X ∧ X = sumF x (s.data.toList.take k) ∧ wr = w) (fun _ s10 _ => s.size - (intOf s10).toNat)
  case atStart => exact ⟨0, x, Nat.zero_le _, rfl, rfl, by rw [List.take_zero, sumF_nil], rfl⟩
  case round =>
    obtain ⟨k, X, hk, rfl, rfl, hX, rfl⟩ := hrel
    have HX := Lib.hid hX
    have hX2 : X < 9973 := by rw [hX]; exact sumF_lt _ _ hx
    clear hX
    by_cases hlt : k < s.size
    · have u1 : decide (k < s.size) = true := decide_eq_true hlt
      have u2 : decide ((k : Int) < (s.size : Int)) = true := decide_eq_true (by omega)
      have i0 : (0 : Int) ≤ (k : Int) := by omega
      have i1 : (k : Int) < (s.size : Int) := by omega
      obtain ⟨c, hc⟩ : ∃ c : UInt8, s[k] = c := ⟨_, rfl⟩
      have HS : Hid (s.data.toList.take (k + 1) = s.data.toList.take k ++ [c]) := Lib.hid (by rw [take_next _ k (by rw [str_len]; exact hlt), str_at s k hlt, hc])
      have c1 := c.toNat_lt
      obtain ⟨Y, hY⟩ : ∃ Y, (31 * X + c.toNat) % 9973 = Y := ⟨_, rfl⟩
      have HY := Lib.hid hY
      have w1 : IntKind.i64.wrap (31 * (X : Int)) = 31 * (X : Int) := IntWalk.i64_in _ (by omega)
      have w2 : IntKind.i64.wrap (31 * (X : Int) + (c.toNat : Int)) = 31 * (X : Int) + (c.toNat : Int) := IntWalk.i64_in _ (by omega)
      have w3 : (31 * (X : Int) + (c.toNat : Int)).tmod 9973 = (Y : Int) := by rw [Int.tmod_eq_emod_of_nonneg (by omega)]; omega
      have w4 : (31 * (X : Int) + (c.toNat : Int)) % 9973 = (Y : Int) := by omega
      clear hY
      go_wp2
      go_roundw
      case rel => exact ⟨k + 1, Y, by omega, by go_num, by go_num, by rw [HS.out, sumF_snoc, ← HX.out, HY.out], trivial⟩
      case measure => simp [intOf]; omega
    · obtain rfl : k = s.size := by omega
      have HF : Hid (X = sumF x s.data.toList) := Lib.hid (by rw [HX.out, List.take_of_length_le (by rw [str_len]; exact Nat.le_refl _)])
      obtain ⟨Y, hY⟩ : ∃ Y, (31 * X + s.size) % 9973 = Y := ⟨_, rfl⟩
      have HY : Hid (Y = sumL x s.data.toList) := Lib.hid (by unfold sumL; rw [← HF.out, str_len, hY])
      have w1 : IntKind.i64.wrap (31 * (X : Int)) = 31 * (X : Int) := IntWalk.i64_in _ (by omega)
      have w2 : IntKind.i64.wrap (31 * (X : Int) + (s.size : Int)) = 31 * (X : Int) + (s.size : Int) := IntWalk.i64_in _ (by omega)
      have w3 : (31 * (X : Int) + (s.size : Int)).tmod 9973 = (Y : Int) := by rw [Int.tmod_eq_emod_of_nonneg (by omega)]; omega
      clear hY
      go_wp2
      go_ret
      exact ⟨by rw [← HY.out]; rfl, rfl⟩
set_option maxRecDepth 100000 in
set_option maxHeartbeats 2000000 in
theorem sum_b (x : Nat) (hx : x < 9973) (b o cap : Nat) (l : List UInt8) (hs : l.length ≤ 10000000) (w : World) (hB : BS w b o l) : Calls Tryd.prog 54 #[.int .i64 (x : Int), .slice (some ⟨b, o, none⟩) l.length cap] w (fun e w' => e = .returned (.int .i64 (sumL x l : Nat)) ∧ w = w') := by
  obtain ⟨N, hN⟩ : ∃ N, l.length = N := ⟨_, rfl⟩
  have HN := Lib.hid hN
  have HB := Lib.hid hB
  rw [hN] at hs ⊢
  clear hN hB
  have q2 : decide (0 ≤ (N : Int)) = true := decide_eq_true (by omega)
  go_enter Tryd.func54, Tryd.ntmps54
  go_wp2
  go_loopw [5, 10] (fun s5 s10 wr => ∃ k X : Nat, k ≤ N ∧ s10 = .int .i64 k ∧ s5 = .int .i64 X ∧ X = sumF x (l.take k) ∧ wr = w) (fun _ s10 _ => N - (intOf s10).toNat)
  case atStart => exact ⟨0, x, Nat.zero_le _, rfl, rfl, by rw [List.take_zero, sumF_nil], rfl⟩
  case round =>
    obtain ⟨k, X, hk, rfl, rfl, hX, rfl⟩ := hrel
    have HX := Lib.hid hX
    have hX2 : X < 9973 := by rw [hX]; exact sumF_lt _ _ hx
    clear hX
    by_cases hlt : k < N
    · have u1 : decide (k < N) = true := decide_eq_true hlt
      have u2 : decide ((k : Int) < (N : Int)) = true := decide_eq_true (by omega)
      have i0 : (0 : Int) ≤ (k : Int) := by omega
      have i1 : (k : Int) < (N : Int) := by omega
      obtain ⟨c, hc⟩ : ∃ c : UInt8, l[k]'(by rw [HN.out]; exact hlt) = c := ⟨_, rfl⟩
      have HS : Hid (l.take (k + 1) = l.take k ++ [c]) := Lib.hid (by rw [take_next _ k (by rw [HN.out]; exact hlt), hc])
      have ck := HB.out.at_ (by rw [HN.out]; exact hlt : k < l.length)
      rw [hc] at ck
      clear hc
      have c1 := c.toNat_lt
      obtain ⟨Y, hY⟩ : ∃ Y, (31 * X + c.toNat) % 9973 = Y := ⟨_, rfl⟩
      have HY := Lib.hid hY
      have w1 : IntKind.i64.wrap (31 * (X : Int)) = 31 * (X : Int) := IntWalk.i64_in _ (by omega)
      have w2 : IntKind.i64.wrap (31 * (X : Int) + (c.toNat : Int)) = 31 * (X : Int) + (c.toNat : Int) := IntWalk.i64_in _ (by omega)
      have w3 : (31 * (X : Int) + (c.toNat : Int)).tmod 9973 = (Y : Int) := by rw [Int.tmod_eq_emod_of_nonneg (by omega)]; omega
      have w4 : (31 * (X : Int) + (c.toNat : Int)) % 9973 = (Y : Int) := by omega
      clear hY
      go_wp2
      go_roundw
      case rel => exact ⟨k + 1, Y, by omega, by go_num, by go_num, by rw [HS.out, sumF_snoc, ← HX.out, HY.out], trivial⟩
      case measure => simp [intOf]; omega
    · obtain rfl : k = N := by omega
      have HF : Hid (X = sumF x l) := Lib.hid (by rw [HX.out, List.take_of_length_le (by rw [HN.out]; exact Nat.le_refl _)])
      obtain ⟨Y, hY⟩ : ∃ Y, (31 * X + k) % 9973 = Y := ⟨_, rfl⟩
      have HY : Hid (Y = sumL x l) := Lib.hid (by unfold sumL; rw [← HF.out, HN.out, hY])
      have w1 : IntKind.i64.wrap (31 * (X : Int)) = 31 * (X : Int) := IntWalk.i64_in _ (by omega)
      have w2 : IntKind.i64.wrap (31 * (X : Int) + (k : Int)) = 31 * (X : Int) + (k : Int) := IntWalk.i64_in _ (by omega)
      have w3 : (31 * (X : Int) + (k : Int)).tmod 9973 = (Y : Int) := by rw [Int.tmod_eq_emod_of_nonneg (by omega)]; omega
      clear hY
      go_wp2
      go_ret
      exact ⟨by rw [← HY.out]; rfl, rfl⟩
set_option maxRecDepth 100000 in
set_option maxHeartbeats 2000000 in
theorem right_s (s : ByteArray) (hs : s.size ≤ 2000000) (w : World) : Calls Tryd.prog 56 #[.string s] w (fun e w' => e = .returned (.bool (rightL s.data.toList)) ∧ w = w') := by
  by_cases h2 : 200 < s.size
  · have t1 : decide (200 < (s.size : Int)) = true := decide_eq_true (by omega)
    have t2 : decide (200 < s.size) = true := decide_eq_true h2
    have HR : Hid (rightL s.data.toList = false) := Lib.hid (rightL_long (by rw [str_len]; exact h2))
    go_enter Tryd.func56, Tryd.ntmps56
    go_wp2
    go_ret
    exact ⟨by rw [HR.out]; rfl, rfl⟩
  have t1 : decide (200 < (s.size : Int)) = false := decide_eq_false (by omega)
  have t2 : decide (200 < s.size) = false := decide_eq_false h2
  go_enter Tryd.func56, Tryd.ntmps56
  go_wp2
  go_loopw [9] (fun s9 wr => ∃ k : Nat, k ≤ s.size ∧ s9 = .int .i64 k ∧ (s.data.toList.take k).all okB = true ∧ wr = w) (fun s9 _ => s.size - (intOf s9).toNat)
  case atStart => exact ⟨0, Nat.zero_le _, rfl, rfl, rfl⟩
  case round =>
    obtain ⟨k, hk, rfl, hX, rfl⟩ := hrel
    have HX := Lib.hid hX
    clear hX
    by_cases hlt : k < s.size
    · have u1 : decide (k < s.size) = true := decide_eq_true hlt
      have u2 : decide ((k : Int) < (s.size : Int)) = true := decide_eq_true (by omega)
      have i0 : (0 : Int) ≤ (k : Int) := by omega
      have i1 : (k : Int) < (s.size : Int) := by omega
      obtain ⟨c, hc⟩ : ∃ c : UInt8, s[k] = c := ⟨_, rfl⟩
      have HS : Hid (s.data.toList[k]'(by rw [str_len]; exact hlt) = c) := Lib.hid (by rw [str_at s k hlt, hc])
      have c1 := c.toNat_lt
      by_cases h32 : c.toNat < 32
      · have v1 : decide ((c.toNat : Int) < 32) = true := decide_eq_true (by omega)
        have HA := not_all (by rw [str_len]; exact hlt) (by rw [HS.out]; exact okB_f (.inl h32))
        have HR : Hid (rightL s.data.toList = false) := Lib.hid (by unfold rightL; rw [HA, Bool.and_false])
        clear HA
        go_wp2
        go_ret
        exact ⟨by rw [HR.out]; rfl, rfl⟩
      by_cases h126 : 126 < c.toNat
      · have v1 : decide ((c.toNat : Int) < 32) = false := decide_eq_false (by omega)
        have v2 : decide (126 < (c.toNat : Int)) = true := decide_eq_true (by omega)
        have HA := not_all (by rw [str_len]; exact hlt) (by rw [HS.out]; exact okB_f (.inr h126))
        have HR : Hid (rightL s.data.toList = false) := Lib.hid (by unfold rightL; rw [HA, Bool.and_false])
        clear HA
        go_wp2
        go_ret
        exact ⟨by rw [HR.out]; rfl, rfl⟩
      have v1 : decide ((c.toNat : Int) < 32) = false := decide_eq_false (by omega)
      have v2 : decide (126 < (c.toNat : Int)) = false := decide_eq_false (by omega)
      have HX2 := Lib.hid (all_take (by rw [str_len]; exact hlt) HX.out (by rw [HS.out]; exact okB_t (by omega) (by omega)))
      go_wp2
      go_roundw
      case rel => exact ⟨k + 1, by omega, by go_num, HX2.out, trivial⟩
      case measure => simp [intOf]; omega
    · obtain rfl : k = s.size := by omega
      have HA : Hid (s.data.toList.all okB = true) := Lib.hid (by have := HX.out; rwa [List.take_of_length_le (by rw [str_len]; exact Nat.le_refl _)] at this)
      have HR : Hid (rightL s.data.toList = true) := Lib.hid (by rw [rightL_short (by rw [str_len]; omega)]; exact HA.out)
      go_wp2
      go_ret
      exact ⟨by rw [HR.out]; rfl, rfl⟩
set_option maxRecDepth 100000 in
set_option maxHeartbeats 2000000 in
theorem right_b (b o cap : Nat) (l : List UInt8) (hs : l.length ≤ 10000000) (w : World) (hB : BS w b o l) : Calls Tryd.prog 74 #[.slice (some ⟨b, o, none⟩) l.length cap] w (fun e w' => e = .returned (.bool (rightL l)) ∧ w = w') := by
  obtain ⟨N, hN⟩ : ∃ N, l.length = N := ⟨_, rfl⟩
  have HN := Lib.hid hN
  have HB := Lib.hid hB
  rw [hN] at hs ⊢
  clear hN hB
  by_cases h2 : 200 < N
  · have t1 : decide (200 < (N : Int)) = true := decide_eq_true (by omega)
    have t2 : decide (200 < N) = true := decide_eq_true h2
    have HR : Hid (rightL l = false) := Lib.hid (rightL_long (by rw [HN.out]; exact h2))
    go_enter Tryd.func74, Tryd.ntmps74
    go_wp2
    go_ret
    exact ⟨by rw [HR.out]; rfl, rfl⟩
  have t1 : decide (200 < (N : Int)) = false := decide_eq_false (by omega)
  have t2 : decide (200 < N) = false := decide_eq_false h2
  go_enter Tryd.func74, Tryd.ntmps74
  go_wp2
  go_loopw [9] (fun s9 wr => ∃ k : Nat, k ≤ N ∧ s9 = .int .i64 k ∧ (l.take k).all okB = true ∧ wr = w) (fun s9 _ => N - (intOf s9).toNat)
  case atStart => exact ⟨0, Nat.zero_le _, rfl, rfl, rfl⟩
  case round =>
    obtain ⟨k, hk, rfl, hX, rfl⟩ := hrel
    have HX := Lib.hid hX
    clear hX
    by_cases hlt : k < N
    · have u1 : decide (k < N) = true := decide_eq_true hlt
      have u2 : decide ((k : Int) < (N : Int)) = true := decide_eq_true (by omega)
      have i0 : (0 : Int) ≤ (k : Int) := by omega
      have i1 : (k : Int) < (N : Int) := by omega
      obtain ⟨c, hc⟩ : ∃ c : UInt8, l[k]'(by rw [HN.out]; exact hlt) = c := ⟨_, rfl⟩
      have HS := Lib.hid hc
      have ck := HB.out.at_ (by rw [HN.out]; exact hlt : k < l.length)
      rw [hc] at ck
      clear hc
      have c1 := c.toNat_lt
      by_cases h32 : c.toNat < 32
      · have v1 : decide ((c.toNat : Int) < 32) = true := decide_eq_true (by omega)
        have HA := not_all (by rw [HN.out]; exact hlt) (by rw [HS.out]; exact okB_f (.inl h32))
        have HR : Hid (rightL l = false) := Lib.hid (by unfold rightL; rw [HA, Bool.and_false])
        clear HA
        go_wp2
        go_ret
        exact ⟨by rw [HR.out]; rfl, rfl⟩
      by_cases h126 : 126 < c.toNat
      · have v1 : decide ((c.toNat : Int) < 32) = false := decide_eq_false (by omega)
        have v2 : decide (126 < (c.toNat : Int)) = true := decide_eq_true (by omega)
        have HA := not_all (by rw [HN.out]; exact hlt) (by rw [HS.out]; exact okB_f (.inr h126))
        have HR : Hid (rightL l = false) := Lib.hid (by unfold rightL; rw [HA, Bool.and_false])
        clear HA
        go_wp2
        go_ret
        exact ⟨by rw [HR.out]; rfl, rfl⟩
      have v1 : decide ((c.toNat : Int) < 32) = false := decide_eq_false (by omega)
      have v2 : decide (126 < (c.toNat : Int)) = false := decide_eq_false (by omega)
      have HX2 := Lib.hid (all_take (by rw [HN.out]; exact hlt) HX.out (by rw [HS.out]; exact okB_t (by omega) (by omega)))
      go_wp2
      go_roundw
      case rel => exact ⟨k + 1, by omega, by go_num, HX2.out, trivial⟩
      case measure => simp [intOf]; omega
    · obtain rfl : k = N := by omega
      have HA : Hid (l.all okB = true) := Lib.hid (by have := HX.out; rwa [List.take_of_length_le (by rw [HN.out]; exact Nat.le_refl _)] at this)
      have HR : Hid (rightL l = true) := Lib.hid (by rw [rightL_short (by rw [HN.out]; omega)]; exact HA.out)
      go_wp2
      go_ret
      exact ⟨by rw [HR.out]; rfl, rfl⟩
set_option maxRecDepth 100000 in
set_option maxHeartbeats 2000000 in
theorem record_any (s : ByteArray) (hs : s.size ≤ 2000000) (w : World) : Calls Tryd.prog 51 #[.string s] w (fun e w' => e = .returned (.bool (rightL s.data.toList)) ∧ w = w') := by
  go_enter Tryd.func51, Tryd.ntmps51
  go_wp2
  go_loopw [3] (fun s3 wr => ∃ k : Nat, k ≤ s.size ∧ s3 = .int .i64 k ∧ (s.data.toList.take k).all okB = true ∧ wr = w) (fun s3 _ => s.size - (intOf s3).toNat)
  case atStart => exact ⟨0, Nat.zero_le _, rfl, rfl, rfl⟩
  case round =>
    obtain ⟨k, hk, rfl, hX, rfl⟩ := hrel
    have HX := Lib.hid hX
    clear hX
    by_cases hlt : k < s.size
    · have u1 : decide (k < s.size) = true := decide_eq_true hlt
      have u2 : decide ((k : Int) < (s.size : Int)) = true := decide_eq_true (by omega)
      have i0 : (0 : Int) ≤ (k : Int) := by omega
      have i1 : (k : Int) < (s.size : Int) := by omega
      obtain ⟨c, hc⟩ : ∃ c : UInt8, s[k] = c := ⟨_, rfl⟩
      have HS : Hid (s.data.toList[k]'(by rw [str_len]; exact hlt) = c) := Lib.hid (by rw [str_at s k hlt, hc])
      have c1 := c.toNat_lt
      by_cases h32 : c.toNat < 32
      · have v1 : decide ((c.toNat : Int) < 32) = true := decide_eq_true (by omega)
        have HA := not_all (by rw [str_len]; exact hlt) (by rw [HS.out]; exact okB_f (.inl h32))
        have HR : Hid (rightL s.data.toList = false) := Lib.hid (by unfold rightL; rw [HA, Bool.and_false])
        clear HA
        go_wp2
        go_ret
        exact ⟨by rw [HR.out]; rfl, rfl⟩
      by_cases h126 : 126 < c.toNat
      · have v1 : decide ((c.toNat : Int) < 32) = false := decide_eq_false (by omega)
        have v2 : decide (126 < (c.toNat : Int)) = true := decide_eq_true (by omega)
        have HA := not_all (by rw [str_len]; exact hlt) (by rw [HS.out]; exact okB_f (.inr h126))
        have HR : Hid (rightL s.data.toList = false) := Lib.hid (by unfold rightL; rw [HA, Bool.and_false])
        clear HA
        go_wp2
        go_ret
        exact ⟨by rw [HR.out]; rfl, rfl⟩
      have v1 : decide ((c.toNat : Int) < 32) = false := decide_eq_false (by omega)
      have v2 : decide (126 < (c.toNat : Int)) = false := decide_eq_false (by omega)
      have HX2 := Lib.hid (all_take (by rw [str_len]; exact hlt) HX.out (by rw [HS.out]; exact okB_t (by omega) (by omega)))
      go_wp2
      go_roundw
      case rel => exact ⟨k + 1, by omega, by go_num, HX2.out, trivial⟩
      case measure => simp [intOf]; omega
    · obtain rfl : k = s.size := by omega
      have HA : Hid (s.data.toList.all okB = true) := Lib.hid (by have := HX.out; rwa [List.take_of_length_le (by rw [str_len]; exact Nat.le_refl _)] at this)
      by_cases h2 : s.size ≤ 200
      · have t1 : decide ((s.size : Int) ≤ 200) = true := decide_eq_true (by omega)
        have t2 : decide (s.size ≤ 200) = true := decide_eq_true h2
        have HR : Hid (rightL s.data.toList = true) := Lib.hid (by rw [rightL_short (by rw [str_len]; omega)]; exact HA.out)
        go_wp2
        go_ret
        exact ⟨by rw [HR.out]; rfl, rfl⟩
      · have t1 : decide ((s.size : Int) ≤ 200) = false := decide_eq_false (by omega)
        have t2 : decide (s.size ≤ 200) = false := decide_eq_false h2
        have HR : Hid (rightL s.data.toList = false) := Lib.hid (rightL_long (by rw [str_len]; omega))
        go_wp2
        go_ret
        exact ⟨by rw [HR.out]; rfl, rfl⟩
end Go.Proofs.YtbompgfjlllioaaDoor
