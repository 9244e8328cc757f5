/- Plain: decimal digits read one by one. The contract of the reference's natural. -/
import Derived.Test.YtfhkgpipbegpgaaGreatDoorNearM
import Derived.Test.YtfhkgpipbegpgaaGreatDoorRefF
import Derived.Test.YtfhkgpipbegpgaaGreatDoorRefJ
namespace Go.Proofs.YtfhkgpipbegpgaaGreatDoor

def foldN (l : List UInt8) : Nat := l.foldl (fun v c => 10 * v + (c.toNat - 48)) 0
def digB (l : List UInt8) : Bool := l.all (fun c => decide (48 ≤ c.toNat) && decide (c.toNat ≤ 57))
theorem foldN_nil : foldN [] = 0 := rfl
theorem foldN_snoc (l : List UInt8) (c : UInt8) : foldN (l ++ [c]) = 10 * foldN l + (c.toNat - 48) := by
  unfold foldN; rw [List.foldl_append]; rfl
theorem digB_snoc (l : List UInt8) (c : UInt8) : digB (l ++ [c]) = (digB l && (decide (48 ≤ c.toNat) && decide (c.toNat ≤ 57))) := by
  unfold digB; rw [List.all_append]; simp
theorem digB_nil : digB [] = true := rfl
theorem digB_take {l : List UInt8} {k : Nat} (h : digB (l.take k) = false) : digB l = false := by
  rw [← List.take_append_drop k l]
  unfold digB at h ⊢
  rw [List.all_append, h, Bool.false_and]
theorem foldN_lt_n (n : Nat) : ∀ l : List UInt8, l.length = n → digB l = true → foldN l < 10 ^ n := by
  induction n with
  | zero =>
    intro l hl _
    rw [List.eq_nil_of_length_eq_zero hl]; decide
  | succ n ih =>
    intro l hl h
    rcases List.eq_nil_or_concat l with e | ⟨m, c, e⟩
    · subst e; cases hl
    · rw [List.concat_eq_append] at e
      subst e
      rw [digB_snoc] at h
      simp only [Bool.and_eq_true, decide_eq_true_eq] at h
      have := ih m (by simpa using hl) h.1
      rw [foldN_snoc, Nat.pow_succ]
      omega
theorem foldN_lt (l : List UInt8) (h : digB l = true) : foldN l < 10 ^ l.length := foldN_lt_n _ l rfl h
/-- What natural returns. -/
def natF (l : List UInt8) : Nat × Bool := if (l.length = 0 ∨ 19 < l.length ∨ (1 < l.length ∧ l.head? = some 48)) ∨ digB l = false then (0, false) else (foldN l, true)
theorem natF_bad {l : List UInt8} (h : (l.length = 0 ∨ 19 < l.length ∨ (1 < l.length ∧ l.head? = some 48)) ∨ digB l = false) : natF l = (0, false) := by unfold natF; rw [if_pos h]
theorem natF_ok {l : List UInt8} (h : ¬ (l.length = 0 ∨ 19 < l.length ∨ (1 < l.length ∧ l.head? = some 48))) (h2 : digB l = true) : natF l = (foldN l, true) := by
  unfold natF; rw [if_neg (by rw [h2]; rintro (h' | h'); exact h h'; cases h')]
theorem fold_dec (u : Nat) : foldN (Lib.decDigits u) = u := by
  induction u using Nat.strongRecOn with
  | ind u ih =>
    rw [Lib.decDigits]
    by_cases h : u < 10
    · rw [dif_pos h, show [UInt8.ofNat (48 + u)] = [] ++ [UInt8.ofNat (48 + u)] from rfl, foldN_snoc, dig_nat h, foldN_nil]; omega
    · rw [dif_neg h, foldN_snoc, ih _ (by omega), dig_nat (by omega)]; omega
theorem digB_dec (u : Nat) : digB (Lib.decDigits u) = true := by
  unfold digB
  rw [List.all_eq_true]
  intro c hc
  have := dec_digit u c hc
  simp [this.1, this.2]
theorem natF_dec (k : Nat) (h : k < 10 ^ 19) : natF (Lib.decDigits k) = (k, true) := by
  have hl : (Lib.decDigits k).length ≤ 19 := dec19 k (by simpa using h)
  have hp := List.length_pos_iff.2 (dec_ne k)
  have := natF_ok (l := Lib.decDigits k) (by
    rintro (h' | h' | ⟨h1, h2⟩)
    · omega
    · omega
    · rcases hd : Lib.decDigits k with _ | ⟨c, r⟩
      · exact dec_ne _ hd
      · rw [hd] at h2
        have hc : c = 48 := by simpa using h2
        subst hc
        have hk := dec_lead k r hd
        subst hk
        rw [Lib.decDigits, dif_pos (by omega)] at h1
        simp at h1) (digB_dec k)
  rw [this, fold_dec]
attribute [irreducible] foldN digB natF
end Go.Proofs.YtfhkgpipbegpgaaGreatDoor
namespace Go.Proofs.YtfhkgpipbegpgaaGreatDoor
open Go Go.RowKit

/-- Digits and a truth value are returned. -/
def RetNat (x : Nat) (b : Bool) (w : World) (e : Ending) (w' : World) : Prop := ∃ A cap, e = .returned (.tuple #[.slice A (nd x) cap, .bool b]) ∧ Dg w' A cap x ∧ Below w.heap.size w w'
theorem dg_nil (W : World) : Dg W none 0 0 := ⟨by rw [dig_zero]; exact RowI.nil _ _, by rw [nd_zero]; omega, by simp [maxLen], fun _ => rfl⟩
theorem retNat_nil (w w' : World) (h : Below w.heap.size w w') : RetNat 0 false w (.returned (.tuple #[.slice none 0 0, .bool false])) w' := ⟨none, 0, by rw [nd_zero], dg_nil _, h⟩
theorem lit_row (W : World) (d : Nat) (hd : d < 65536) : RowI (W.alloc (.cells #[.int .i64 (d : Int)] 3)) (some ⟨W.heap.size, 0, none⟩) (digN d 1) := fun _ => ⟨W.heap.size, 0, rfl, by simp, fun j x hj => by
  have hB := Blk.new W 3 #[.int .i64 (d : Int)]
  have hd0 : dg d 0 = d := by unfold dg; rw [Nat.pow_zero, Nat.div_one]; omega
  have hl : digN d 1 = [d] := by rw [show (1 : Nat) = 0 + 1 from rfl, digN_succ, digN_nil, hd0]; rfl
  rw [hl] at hj
  match j, hj with
  | 0, hj => have := Option.some.inj hj; subst this; exact hB.cell (j := 0) rfl
  | (j + 1), hj => simp at hj⟩
theorem ten_nd' : nd 10 = 1 := by rw [← dig_len, dig_one (by omega) (by omega)]; rfl
theorem dig_row {W : World} {A : Option Addr} {c x : Nat} (h : Dg W A c x) : RowI W A (digN x (nd x)) := by have h := h.row; unfold dig at h; exact h
theorem take_next (s : ByteArray) (k : Nat) (h : k < s.size) : s.data.toList.take (k + 1) = s.data.toList.take k ++ [s[k]] := by
  rw [List.take_succ_eq_append_getElem (by simpa using h)]; rfl
set_option maxRecDepth 100000 in
set_option maxHeartbeats 8000000 in
theorem natural_any (s : ByteArray) (hs : s.size ≤ 1000) (w : World) :
    Calls Tryz.prog 65 #[.string s] w (RetNat (natF s.data.toList).1 (natF s.data.toList).2 w) := by
  have hlen : s.data.toList.length = s.size := by simp
  by_cases h0 : s.size = 0
  · have HV := Lib.hid (natF_bad (l := s.data.toList) (.inl (.inl (by omega))))
    rw [HV.out]
    have t1 : ((s.size : Int) == 0) = true := beq_iff_eq.2 (by omega)
    clear hlen h0 HV
    go_enter Tryz.func65, Tryz.ntmps65
    go_wp2
    go_ret2
    exact retNat_nil _ _ (Below.refl _ _)
  have t1 : ((s.size : Int) == 0) = false := beq_eq_false_iff_ne.2 (by omega)
  by_cases h1 : 19 < s.size
  · have HV := Lib.hid (natF_bad (l := s.data.toList) (.inl (.inr (.inl (by omega)))))
    rw [HV.out]
    have t2 : decide (19 < (s.size : Int)) = true := decide_eq_true (by omega)
    clear hlen h0 HV
    go_enter Tryz.func65, Tryz.ntmps65
    go_wp2
    go_ret2
    exact retNat_nil _ _ (Below.refl _ _)
  have t2 : decide (19 < (s.size : Int)) = false := decide_eq_false (by omega)
  have p0 : 0 < s.size := by omega
  have hs19 : s.size ≤ 19 := by omega
  have hhead : s.data.toList.head? = some (s[0]'p0) := by
    rw [List.head?_eq_getElem?, List.getElem?_eq_getElem (by omega)]; rfl
  by_cases h2 : 1 < s.size ∧ (s[0]'p0) = 48
  · have HV := Lib.hid (natF_bad (l := s.data.toList) (.inl (.inr (.inr ⟨by omega, by rw [hhead, h2.2]⟩))))
    rw [HV.out]
    have t3 : decide (1 < (s.size : Int)) = true := decide_eq_true (by omega)
    have t4 : (((s[0]'p0).toNat : Int) == 48) = true := by rw [h2.2]; rfl
    clear hlen HV hhead h2
    go_enter Tryz.func65, Tryz.ntmps65
    go_wp2
    go_ret2
    exact retNat_nil _ _ (Below.refl _ _)
  have hno : ¬ (s.data.toList.length = 0 ∨ 19 < s.data.toList.length ∨ (1 < s.data.toList.length ∧ s.data.toList.head? = some 48)) := by
    rw [hlen, hhead]
    rintro (h | h | ⟨h, h'⟩)
    · exact h0 h
    · exact h1 h
    · exact h2 ⟨h, Option.some.inj h'⟩
  have HNO := Lib.hid hno
  have HL := Lib.hid hlen
  obtain ⟨q, hq⟩ : ∃ q, natF s.data.toList = q := ⟨_, rfl⟩
  rw [hq]
  have HQ := Lib.hid hq
  have HT : Hid (decide (1 < (s.size : Int)) = false ∨ (((s[0]'p0).toNat : Int) == 48) = false) := Lib.hid (by
    by_cases h : 1 < s.size
    · right
      refine beq_eq_false_iff_ne.2 fun h' => h2 ⟨h, ?_⟩
      have : (s[0]'p0).toNat = 48 := by omega
      exact UInt8.toNat_inj.1 this
    · exact .inl (decide_eq_false (by omega)))
  clear hq hno hlen hhead h2 h1 h0
  go_enter Tryz.func65, Tryz.ntmps65
  go_upto_region 1 with fail
  go_cut [23] (fun s23 wx => s23 = .bool false ∧ Below w.heap.size w wx)
  case first =>
    rcases HT.out with h | h
    · go_wp2
      go_meet
      exact ⟨rfl, Below.refl _ _⟩
    · go_wp2
      all_goals
        go_meet
        exact ⟨rfl, Below.refl _ _⟩
  case rest =>
  obtain ⟨rfl, hbc⟩ := hcut
  have HBC := Lib.hid hbc
  clear hbc HT
  go_wp2
  go_loopw [4, 5] (fun s4 s5 wr => ∃ k X cap : Nat, ∃ A C, k ≤ s.size ∧ s5 = .int .i64 k ∧ s4 = .slice A C cap ∧ C = nd X ∧ X = foldN (s.data.toList.take k) ∧ digB (s.data.toList.take k) = true ∧ Dg wr A cap X ∧ Below w.heap.size w wr) (fun _ s5 _ => s.size - (intOf s5).toNat)
  case atStart => exact ⟨0, 0, 0, none, 0, Nat.zero_le _, rfl, rfl, nd_zero.symm, by rw [List.take_zero, foldN_nil], by rw [List.take_zero, digB_nil], dg_nil _, HBC.out⟩
  case round =>
    obtain ⟨k, X, cap, A, C, hk, rfl, rfl, hC, hX, hdg, hD, hb⟩ := hrel
    have HC := Lib.hid hC
    have HX := Lib.hid hX
    have HDG := Lib.hid hdg
    have HD := Lib.hid hD
    have HB := Lib.hid hb
    clear hC hX hdg hD hb HBC
    by_cases hlt : k < s.size
    · have HNX := Lib.hid (take_next s k hlt)
      have u1 : decide (k < s.size) = true := decide_eq_true hlt
      by_cases hd : 48 ≤ s[k].toNat ∧ s[k].toNat ≤ 57
      · obtain ⟨d, hdd⟩ : ∃ d, s[k].toNat - 48 = d := ⟨_, rfl⟩
        have hd9 : d ≤ 9 := by omega
        have hX19 : X < 10 ^ 18 := by
          have h5 := foldN_lt _ HDG.out
          rw [← HX.out, List.length_take, HL.out, Nat.min_eq_left (by omega)] at h5
          exact Nat.lt_of_lt_of_le h5 (Nat.pow_le_pow_right (by omega) (by omega))
        have HN1 : Hid (10 * X + d = foldN (s.data.toList.take (k + 1))) := Lib.hid (by rw [HNX.out, foldN_snoc, ← HX.out, hdd])
        have HN2 : Hid (digB (s.data.toList.take (k + 1)) = true) := Lib.hid (by rw [HNX.out, digB_snoc, HDG.out]; simp [hd.1, hd.2])
        have u2 : decide ((s[k].toNat : Int) < 48) = false := decide_eq_false (by omega)
        have u3 : decide (57 < (s[k].toNat : Int)) = false := decide_eq_false (by omega)
        have u4 : IntKind.u8.wrap ((s[k].toNat : Int) - 48) = (d : Int) := by
          rw [show ((s[k].toNat : Int) - 48) = (d : Int) by omega]
          exact IntWalk.u8_in _ (by omega)
        have u5 : IntKind.i64.wrap (d : Int) = (d : Int) := IntWalk.i64_in _ (by omega)
        clear hdd hd
        have hXn : nd X ≤ 4 := nd_64 (by omega)
        have hX10 : nd (X * 10) ≤ 5 := by
          have := nd_mul X 10
          rw [ten_nd'] at this
          omega
        have SC : Hid (∀ W, Below wr.heap.size wr W → Calls Tryz.prog 56 #[.slice A C cap, .int .i64 10] W (RetD (X * 10) W)) := Lib.hid fun W hb => by
          have := scale_any A cap X 10 (by omega) (by omega) W (HD.out.keep hb)
          rw [← HC.out] at this
          exact this
        have i0 : (0 : Int) ≤ (k : Int) := by omega
        have i1 : (k : Int) < (s.size : Int) := by omega
        go_upto_region 9 with fail
        go_region_held3 (fun wx => Below wr.heap.size wr wx)
          (first | exact hB4 | exact hB3 | exact hB | exact Below.drew (Below.refl _ _) | exact Below.drew (blw1 _ _) | exact Below.alloc (Below.drew (Below.refl _ _)) (Nat.le_refl _) _ | exact hB.alloc hB.size _)
          (first
            | (go_at_call 56; (with_reducible refine (SC.out _ (by assumption)).mono ?_); rintro e w2 ⟨A1, c1, rfl, hD1, hb1⟩; (have hB := (by assumption : Below wr.heap.size wr _).trans (hb1.mono (by assumption : Below wr.heap.size wr _).size)))
            | (go_at_call 69; (with_reducible refine (radd_gen A1 _ c1 _ (X * 10) d (nd (X * 10)) 1 (by omega) (by omega) (lt_pow_nd _) (by omega) _ (by first | exact RowI.keep (dig_row hD1) (blw1 _ _) | exact dig_row hD1) (by first | exact lit_row _ d (by omega) | (refine RowI.keep ?_ hb1; exact RowI.keep (lit_row wr d (by omega)) (Below.drew (Below.refl _ _))))).mono ?_); rintro e w3 ⟨A2, k2, c2, rfl, hrow2, hlt2, hle2, htop2, hb2⟩; (have hB3 := (by assumption : Below wr.heap.size wr _).trans (hb2.mono (by assumption : Below wr.heap.size wr _).size)))
            | (go_at_call 71; (with_reducible refine (trim_any A2 c2 (X * 10 + d) k2 hlt2 hle2 htop2 _ hrow2).mono ?_); rintro e w4 ⟨A3, c3, rfl, hD3, hb3⟩; (have hB4 := hB3.trans (hb3.mono hB3.size))))
        all_goals
          have HN3 : Hid (X * 10 + d = foldN (s.data.toList.take (k + 1))) := Lib.hid (by rw [← HN1.out]; omega)
          have HD3 := Lib.hid hD3
          have HB5 := Lib.hid (HB.out.trans (hB4.mono HB.out.size))
          clear hD1 hb1 hb2 hb3 hB hB3 hB4 hrow2 hlt2 hle2 htop2 hD3
          go_wp2
          go_roundw
          case rel => exact ⟨k + 1, X * 10 + d, c3, A3, _, by omega, by go_num, rfl, rfl, HN3.out, HN2.out, HD3.out, HB5.out⟩
          case measure => simp [intOf]; omega
      · have HBAD : Hid (q = (0, false)) := Lib.hid (by
          rw [← HQ.out]
          refine natF_bad (.inr (digB_take (k := k + 1) ?_))
          rw [HNX.out, digB_snoc, HDG.out]
          by_cases h : 48 ≤ s[k].toNat
          · have : ¬ s[k].toNat ≤ 57 := fun h' => hd ⟨h, h'⟩
            simp [this]
          · simp [h])
        go_wp2
        all_goals
          first
            | (go_ret2; rw [HBAD.out]; exact retNat_nil _ _ HB.out)
            | (exfalso; omega)
    · have hkk : k = s.size := by omega
      have HOK : Hid (q = (X, true)) := Lib.hid (by
        rw [← HQ.out, natF_ok HNO.out (by have := HDG.out; rw [List.take_of_length_le (by rw [HL.out]; omega)] at this; exact this), HX.out, List.take_of_length_le (by rw [HL.out]; omega)])
      have u1 : decide (k < s.size) = false := decide_eq_false hlt
      clear hkk
      go_wp2
      go_ret2
      exact ⟨A, cap, by rw [HOK.out, HC.out]; rfl, by rw [HOK.out]; exact HD.out, HB.out⟩
end Go.Proofs.YtfhkgpipbegpgaaGreatDoor
