/- Contracts of the reference's Pattern, Balanced, Suits. -/
import Derived.Test.YtdebhdjcacojeaaDoorRefI
namespace Go.Proofs.YtdebhdjcacojeaaDoor
open Go.RowKit

/-- What the text has after k suits. -/
def TX (L : Nat → Nat) (a b c d k : Nat) : ByteArray := ⟨(textTo L a b c d k).toArray⟩
def DG (n : Nat) : ByteArray := ⟨(digT n).toArray⟩
theorem TX_0 (L : Nat → Nat) (a b c d : Nat) : TX L a b c d 0 = ⟨#[]⟩ := by unfold TX; rw [text0]
theorem TX_1 (L : Nat → Nat) (a b c d : Nat) : TX L a b c d 1 = DG (L (lk a b c d 0)) := by unfold TX DG; rw [text1, text0]; rfl
theorem TX_s (L : Nat → Nat) (a b c d k : Nat) (hk : 1 ≤ k) (hk4 : k < 4) : TX L a b c d (k + 1) = TX L a b c d k ++ ⟨#[45]⟩ ++ DG (L (lk a b c d k)) := by
  unfold TX DG
  rcases (by omega : k = 1 ∨ k = 2 ∨ k = 3) with rfl | rfl | rfl
  · rw [text2]; apply ByteArray.ext; simp [lk]
  · rw [text3]; apply ByteArray.ext; simp [lk]
  · rw [text4]; apply ByteArray.ext; simp [lk]
theorem TX_size (L : Nat → Nat) (a b c d k : Nat) : (TX L a b c d k).size ≤ 11 := by
  have := text_len L a b c d k
  unfold TX; simpa [ByteArray.size] using this
theorem DG_size (n : Nat) : (DG n).size ≤ 2 := by
  have := digT_len n
  unfold DG; simpa [ByteArray.size] using this
theorem digT_pos (n : Nat) : digT n ≠ [] := by
  by_cases h : 9 < n
  · rw [digT_hi n h]; simp
  · rw [digT_lo n h]; simp
theorem TX_ne (L : Nat → Nat) (a b c d k : Nat) (hk : 1 ≤ k) (hk4 : k < 4) : (TX L a b c d k).toList.isEmpty = false := by
  have h : textTo L a b c d k ≠ [] := by
    rcases (by omega : k = 1 ∨ k = 2 ∨ k = 3) with rfl | rfl | rfl
    · rw [text1, text0]; simpa using digT_pos _
    · rw [text2]; simp
    · rw [text3]; simp
  unfold TX
  rw [ByteArray.toList_eq]
  simpa using h
/-- The count at the head of the round of n = N - 1. -/
def cH (L : Nat → Nat) (N : Nat) : Nat := if N = 0 then 4 else cntP L (N - 1) 0
theorem cH_top (L : Nat → Nat) (h : ∀ i, L i ≤ 13) : cH L 14 = 0 := by unfold cH; rw [if_neg (by omega)]; exact cntP_top L h
theorem cH_at (L : Nat → Nat) (n : Nat) : cH L (n + 1) = cntP L n 0 := by unfold cH; rw [if_neg (by omega), Nat.add_sub_cancel]
theorem cH_next (L : Nat → Nat) (n : Nat) : cntP L n 4 = cH L n := by
  unfold cH
  by_cases h : n = 0
  · rw [if_pos h, h]; exact cntP_end L
  · rw [if_neg h, cntP_next, Nat.sub_add_cancel (by omega)]
theorem cH_0 (L : Nat → Nat) : cH L 0 = 4 := if_pos rfl
attribute [irreducible] TX DG cH
set_option maxRecDepth 100000 in
set_option maxHeartbeats 4000000 in
theorem rpattern_any (m : Nat) (w : World) (hm : m < 18446744073709551616) :
    Calls Tryd.prog 34 #[.int .u64 (m : Nat)] w fun e w' => e = .returned (.string ⟨(patL (shp m) (sortTo (shp m) 4)).toArray⟩) ∧ Below w.heap.size w w' := by
  obtain ⟨⟨a, b, c, d⟩, hq⟩ : ∃ q, q = sortTo (shp m) 4 := ⟨_, rfl⟩
  have hall := shp_le m
  have HR : Hid (TX (shp m) a b c d 4 = ⟨(patL (shp m) (sortTo (shp m) 4)).toArray⟩) := Lib.hid (by
    rw [← hq, ← textTo_4 (shp m) a b c d (hall _) (hall _) (hall _) (hall _)]; unfold TX; rfl)
  have PS := Lib.hid (fun n j => pat_step (shp m) a b c d n j hq.symm)
  have CT := Lib.hid (cH_top (shp m) hall)
  have T0 := Lib.hid (TX_0 (shp m) a b c d)
  clear hq hall
  go_enter Tryd.func34, Tryd.ntmps34
  go_wp2_with fail
  go_loopw [3, 4] (fun v3 v4 wr => ∃ N : Nat, N ≤ 14 ∧ v3 = .string (TX (shp m) a b c d (cH (shp m) N)) ∧ v4 = .int .i64 ((N : Int) - 1) ∧ Below w.heap.size w wr) (fun _ v4 _ => (intOf v4 + 1).toNat)
  case atStart => exact ⟨14, by omega, by rw [CT.out, T0.out], rfl, Below.refl _ _⟩
  case round =>
    obtain ⟨N, hN, rfl, rfl, hb⟩ := hrel
    obtain ⟨wo, rfl⟩ : ∃ wo : World, wo = wr := ⟨_, rfl⟩
    have HB := Lib.hid hb
    clear hb
    rcases Nat.eq_zero_or_pos N with h0 | h0
    · subst h0
      rw [cH_0]
      go_wp2_with fail
      go_ret
      exact ⟨by rw [← HR.out]; rfl, HB.out⟩
    · obtain ⟨n, rfl⟩ : ∃ n, N = n + 1 := ⟨N - 1, by omega⟩
      have t0 : decide ((0 : Int) ≤ ((n + 1 : Nat) : Int) - 1) = true := decide_eq_true (by omega)
      have t1 : ((n + 1 : Nat) : Int) - 1 = (n : Int) := by omega
      rw [t1] at t0 ⊢
      clear t1
      rw [cH_at]
      have HN := Lib.hid (cH_next (shp m) n)
      have hn13 : n ≤ 13 := by omega
      go_wp2_with fail
      go_loopw [3, 5] (fun v3 v5 wr => ∃ j : Nat, j ≤ 4 ∧ v3 = .string (TX (shp m) a b c d (cntP (shp m) n j)) ∧ v5 = .int .i64 j ∧ Below w.heap.size w wr) (fun _ v5 _ => 4 - (intOf v5).toNat)
      case atStart => exact ⟨0, by omega, rfl, rfl, HB.out⟩
      case round =>
        obtain ⟨j, hj, rfl, rfl, hb⟩ := hrel
        clear HB
        have HB := Lib.hid hb
        clear hb
        by_cases hlt : j < 4
        · have tj : decide ((j : Int) < 4) = true := decide_eq_true (by omega)
          have HL := Lib.hid (fun w => length_any m j w hm hlt)
          by_cases he : shp m j = n
          · have CY := Lib.hid (cntP_yes (shp m) n j hlt he)
            have hle := cntP_le (shp m) n (j + 1)
            have hst := PS.out n j hlt he
            have HLn : Hid (∀ w, Calls Tryd.prog 45 #[.int .u64 (m : Nat), .int .i64 (j : Nat)] w fun e w' => e = .returned (.int .i64 (n : Nat)) ∧ w = w') := Lib.hid (by rw [← he]; exact HL.out)
            have HD : Hid (∀ w, Calls Tryd.prog 47 #[.int .i64 (n : Nat)] w fun e w' => e = .returned (.string (DG n)) ∧ Below w.heap.size w w') := Lib.hid (fun w => by have := digits_any n w hn13; unfold DG; exact this)
            have hd2 := DG_size n
            have CYo := CY.out
            generalize hk : cntP (shp m) n j = k at *
            have tn : ((n : Int) == (n : Int)) = true := beq_self_eq_true _
            have hk3 : k < 4 := by omega
            have hX := TX_size (shp m) a b c d k
            have CY2 := Lib.hid CYo
            have HST := Lib.hid hst
            clear CYo hk he CY hst
            rcases Nat.eq_zero_or_pos k with hk0 | hk0
            · have HT : Hid (TX (shp m) a b c d (k + 1) = DG n) := Lib.hid (by subst hk0; rw [TX_1, HST.out])
              have HZ : TX (shp m) a b c d k = ⟨#[]⟩ := by rw [hk0]; exact T0.out
              rw [HZ]
              have en : (⟨#[]⟩ : ByteArray) ++ DG n = DG n := by apply ByteArray.ext; simp
              clear HZ hX hk0
              go_wp2_with fail
              refine (HLn.out _).mono ?_
              rintro e w1 ⟨rfl, rfl⟩
              go_wp2_with fail
              refine (HD.out _).mono ?_
              rintro e w2 ⟨rfl, hb⟩
              have H2 := Lib.hid (bchain HB.out hb)
              clear hb
              go_wp2_with fail
              first
                | exact ⟨⟨j + 1, by omega, by rw [CY2.out, HT.out], by go_num, H2.out⟩, by simp [intOf]; omega⟩
                | (refine ⟨?_, by simp [intOf]; omega⟩; (repeat apply Exists.intro); exact ⟨⟨j + 1, by omega, by rw [CY2.out, HT.out], by go_num, H2.out⟩, rfl⟩)
            · have HT : Hid (TX (shp m) a b c d (k + 1) = TX (shp m) a b c d k ++ ⟨#[45]⟩ ++ DG n) := Lib.hid (by rw [TX_s _ _ _ _ _ _ hk0 hk3, HST.out])
              have hne := TX_ne (shp m) a b c d k hk0 hk3
              generalize TX (shp m) a b c d k = X at *
              have z1 : ¬ 9223372036854775807 < X.size + 1 := by omega
              have z2 : ¬ 9223372036854775807 < X.size + 1 + (DG n).size := by omega
              have hne2 : (X.toList == []) = false := by rw [beq_eq_false_iff_ne]; intro h; rw [h] at hne; exact absurd hne (by simp)
              clear hX
              go_wp2_with fail
              refine (HLn.out _).mono ?_
              rintro e w1 ⟨rfl, rfl⟩
              go_wp2_with fail
              refine (HD.out _).mono ?_
              rintro e w2 ⟨rfl, hb⟩
              have H2 := Lib.hid (bchain HB.out hb)
              clear hb
              go_wp2_with fail
              first
                | exact ⟨⟨j + 1, by omega, by rw [CY2.out, HT.out], by go_num, H2.out⟩, by simp [intOf]; omega⟩
                | (refine ⟨?_, by simp [intOf]; omega⟩; (repeat apply Exists.intro); exact ⟨⟨j + 1, by omega, by rw [CY2.out, HT.out], by go_num, H2.out⟩, rfl⟩)
          · have CN := Lib.hid (cntP_no (shp m) n j hlt he)
            have tn : (((shp m j : Nat) : Int) == (n : Int)) = false := beq_eq_false_iff_ne.2 (by omega)
            clear he
            generalize shp m j = l at *
            go_wp2_with fail
            refine (HL.out _).mono ?_
            rintro e w1 ⟨rfl, rfl⟩
            go_wp2_with fail
            first
              | exact ⟨⟨j + 1, by omega, by rw [CN.out], by go_num, HB.out⟩, by simp [intOf]; omega⟩
              | (refine ⟨?_, by simp [intOf]; omega⟩; (repeat apply Exists.intro); exact ⟨⟨j + 1, by omega, by rw [CN.out], by go_num, HB.out⟩, rfl⟩)
        · obtain rfl : j = 4 := by omega
          go_wp2_with fail
          first
            | exact ⟨⟨n, by omega, by rw [HN.out], by simp, HB.out⟩, by simp [intOf]⟩
            | (refine ⟨?_, by simp [intOf]⟩; (repeat apply Exists.intro); exact ⟨⟨n, by omega, by rw [HN.out], by simp, HB.out⟩, rfl⟩)
set_option maxHeartbeats 2000000 in
theorem rbalanced_any (m : Nat) (w : World) (hm : m < 18446744073709551616) :
    Calls Tryd.prog 35 #[.int .u64 (m : Nat)] w fun e w' => e = .returned (.bool (balB m)) ∧ Below w.heap.size w w' := by
  have PC := Lib.hid (fun w => rpattern_any m w hm)
  have RC := Lib.hid (fun w => rright_any m w hm)
  have HB : Hid (balB m = (rightB m && (patL (shp m) (sortTo (shp m) 4) == [52, 45, 51, 45, 51, 45, 51] || patL (shp m) (sortTo (shp m) 4) == [52, 45, 52, 45, 51, 45, 50] || patL (shp m) (sortTo (shp m) 4) == [53, 45, 51, 45, 51, 45, 50]))) := Lib.hid rfl
  generalize patL (shp m) (sortTo (shp m) 4) = T at *
  generalize rightB m = g at *
  cases g
  · go_enter Tryd.func35, Tryd.ntmps35
    go_wp2_with fail
    refine (PC.out _).mono ?_
    rintro e w1 ⟨rfl, hb⟩
    go_wp2_with fail
    refine (RC.out _).mono ?_
    rintro e w2 ⟨rfl, rfl⟩
    go_wp2_with fail
    go_ret
    exact ⟨by rw [HB.out]; rfl, hb⟩
  · go_enter Tryd.func35, Tryd.ntmps35
    go_wp2_with fail
    refine (PC.out _).mono ?_
    rintro e w1 ⟨rfl, hb⟩
    go_wp2_with fail
    refine (RC.out _).mono ?_
    rintro e w2 ⟨rfl, rfl⟩
    go_wp2_with fail
    all_goals
      go_ret
      refine ⟨?_, hb⟩
      rw [HB.out]
      exact ret_bb (by grind)
end Go.Proofs.YtdebhdjcacojeaaDoor
