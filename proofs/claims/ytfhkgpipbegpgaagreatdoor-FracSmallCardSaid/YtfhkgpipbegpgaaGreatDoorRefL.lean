/- The contract of the reference's Read: what it returns, part by part. -/
import Derived.Test.YtfhkgpipbegpgaaGreatDoorRefN
import Derived.Test.YtfhkgpipbegpgaaGreatDoorNearM
import Derived.Deep.CutBlock
namespace Go.Proofs.YtfhkgpipbegpgaaGreatDoor
open Go Go.RowKit

/-- What the reference returns of a text L, R being what follows its sign, and k the place of its stroke. -/
def refQ (L : List UInt8) (neg : Bool) (num den : Nat × Bool) : Int × Int × Int :=
  if den.2 = false ∨ num.2 = false ∨ den.1 = 0 then (0, 0, 10) else
  if (packP neg (num.1 / Nat.gcd num.1 den.1) (den.1 / Nat.gcd num.1 den.1)).2.2 = 0 ∧ textF (packP neg (num.1 / Nat.gcd num.1 den.1) (den.1 / Nat.gcd num.1 den.1)).1 (packP neg (num.1 / Nat.gcd num.1 den.1) (den.1 / Nat.gcd num.1 den.1)).2.1 = L then
    packP neg (num.1 / Nat.gcd num.1 den.1) (den.1 / Nat.gcd num.1 den.1)
  else (0, 0, 10)
/-- The memory of Read: its result. -/
structure RdM (w W : World) : Prop where
  below : Below w.heap.size w W
  br : Blk W w.heap.size 23 #[.int .i64 0, .int .i64 0]
theorem RdM.keep {w W W' : World} (h : RdM w W) (hb : Below W.heap.size W W') : RdM w W' := ⟨bchain h.below hb, h.br.keep hb h.br.lt⟩
theorem RdM.start (w : World) : RdM w (w.alloc (.cells #[.int .i64 0, .int .i64 0] 23)) := ⟨blw1 _ _, Blk.new _ _ _⟩
theorem one_dig : dig 1 = [1] := dig_one (by omega) (by omega)
theorem one_nd : nd 1 = 1 := by rw [← dig_len, one_dig]; rfl
theorem one_row (W : World) : Dg (W.alloc (.cells #[.int .i64 1] 3)) (some ⟨W.heap.size, 0, none⟩) 1 1 := by
  refine ⟨fun _ => ⟨W.heap.size, 0, rfl, by simp, fun j x hj => ?_⟩, by rw [one_nd]; exact Nat.le_refl _, by simp [maxLen], fun h => by cases h⟩
  rw [one_dig] at hj
  have hB := Blk.new W 3 #[.int .i64 1]
  match j, hj with
  | 0, hj => have := Option.some.inj hj; subst this; exact hB.cell (j := 0) rfl
  | (j + 1), hj => simp at hj
theorem natF_lt (l : List UInt8) : (natF l).1 < 10 ^ 19 := by
  by_cases h : (l.length = 0 ∨ 19 < l.length ∨ (1 < l.length ∧ l.head? = some 48)) ∨ digB l = false
  · rw [natF_bad h]; decide
  · have h1 : ¬ (l.length = 0 ∨ 19 < l.length ∨ (1 < l.length ∧ l.head? = some 48)) := fun h' => h (.inl h')
    have h2 : digB l = true := by cases hd : digB l with | true => rfl | false => exact absurd (.inr hd) h
    rw [natF_ok h1 h2]
    exact Nat.lt_of_lt_of_le (foldN_lt l h2) (Nat.pow_le_pow_right (by omega) (by omega))
set_option maxRecDepth 100000 in
set_option maxHeartbeats 8000000 in
theorem rread_walk (s R : ByteArray) (neg : Bool) (Q : Int × Int × Int) (hs : s.size ≤ 60) (hR : R.size ≤ 60)
    (hneg : (neg = true ∧ 0 < s.size ∧ s[0]? = some 45 ∧ R = s.extract 1 s.size) ∨ (neg = false ∧ R = s ∧ (0 < s.size → s[0]? ≠ some 45)))
    (hQ : ∀ k, k ≤ R.size → (∀ j, j < k → R[j]? ≠ some 47) → (k = R.size ∨ R[k]? = some 47) →
      refQ s.data.toList neg (natF (R.extract 0 k).data.toList) (if k < R.size then natF (R.extract (k + 1) R.size).data.toList else (1, true)) = Q) (w : World) :
    Calls Tryz.prog 40 #[.string s] w (RetF Q w) := by
  have HM := Lib.hid (RdM.start w)
  have HN := Lib.hid hneg
  have HQ := Lib.hid hQ
  clear hneg hQ
  go_enter Tryz.func40, Tryz.ntmps40
  go_upto_region 1 with fail
  generalize w.alloc (.cells #[.int .i64 0, .int .i64 0] 23) = W1 at *
  go_cut [4] (fun s4 wx => s4 = .bool neg ∧ RdM w wx)
  case first =>
    rcases HN.out with ⟨rfl, h0, h45, _⟩ | ⟨rfl, _, h45⟩
    · have e0 : s[0]'h0 = 45 := by
        have : s[0]? = some (s[0]'h0) := getElem?_pos s 0 h0
        rw [this] at h45
        exact Option.some.inj h45
      have t1 : decide (0 < (s.size : Int)) = true := decide_eq_true (by omega)
      have t2 : ((s[0]'h0).toNat : Int) = 45 := by rw [e0]; rfl
      have t3 : (((s[0]'h0).toNat : Int) == 45) = true := by rw [t2]; rfl
      clear h45 e0 t2
      go_wp2
      go_meet
      exact ⟨rfl, HM.out⟩
    · by_cases h0 : 0 < s.size
      · have hne : s[0]'h0 ≠ 45 := by
          intro h
          refine h45 h0 ?_
          rw [getElem?_pos s 0 h0, h]
        have t1 : decide (0 < (s.size : Int)) = true := decide_eq_true (by omega)
        have t3 : (((s[0]'h0).toNat : Int) == 45) = false := beq_eq_false_iff_ne.2 (fun h => hne (UInt8.toNat_inj.1 (by show (s[0]'h0).toNat = 45; omega)))
        clear h45 hne
        go_wp2
        go_meet
        exact ⟨rfl, HM.out⟩
      · have t1 : decide (0 < (s.size : Int)) = false := decide_eq_false (by omega)
        clear h45
        go_wp2
        go_meet
        exact ⟨rfl, HM.out⟩
  case rest =>
  obtain ⟨rfl, hM⟩ := hcut
  have HM2 := Lib.hid hM
  clear hM HM
  go_upto_if 24 with fail
  go_cut [5] (fun s5 wx => s5 = .string R ∧ RdM w wx)
  case first =>
    rcases HN.out with ⟨rfl, h0, _, rfl⟩ | ⟨rfl, rfl, _⟩
    · have h1 : (1 : Int) ≤ (s.size : Int) := by omega
      go_wp2
      go_meet
      exact ⟨rfl, HM2.out⟩
    · go_wp2
      go_meet
      exact ⟨rfl, HM2.out⟩
  case rest =>
  obtain ⟨rfl, hM⟩ := hcut
  have HM3 := Lib.hid hM
  clear hM HM2 HN
  go_upto_block 0 with fail
  go_cut [6] (fun s6 wx => ∃ k : Nat, s6 = .int .i64 k ∧ k ≤ R.size ∧ (∀ j, j < k → R[j]? ≠ some 47) ∧ (k = R.size ∨ R[k]? = some 47) ∧ RdM w wx)
  case first =>
    go_wp2_with fail
    go_loop [6] (fun s6 => ∃ k : Nat, k ≤ R.size ∧ s6 = .int .i64 k ∧ (∀ j, j < k → R[j]? ≠ some 47)) (fun s6 => R.size - (intOf s6).toNat)
    case atStart => exact ⟨0, Nat.zero_le _, rfl, fun j hj => by omega⟩
    case round =>
      obtain ⟨k, hk, rfl, hall⟩ := hrel
      have HA := Lib.hid hall
      clear hall
      by_cases hlt : k < R.size
      · have t1 : decide (k < R.size) = true := decide_eq_true hlt
        by_cases h47 : R[k] = 47
        · have t2 : ((R[k].toNat : Int) == 47) = true := by rw [h47]; rfl
          have t3 : ((R[k].toNat : Int) != 47) = false := by rw [h47]; rfl
          have HK : Hid (R[k]? = some 47) := Lib.hid (by rw [getElem?_pos R k hlt, h47])
          clear h47
          go_wp2
          go_meet
          exact ⟨k, rfl, hk, HA.out, .inr HK.out, HM3.out⟩
        · have t2 : ((R[k].toNat : Int) == 47) = false := beq_eq_false_iff_ne.2 (fun h => h47 (UInt8.toNat_inj.1 (by show R[k].toNat = 47; omega)))
          have t3 : ((R[k].toNat : Int) != 47) = true := by rw [bne, t2]; rfl
          have HK : Hid (R[k]? ≠ some 47) := Lib.hid (by rw [getElem?_pos R k hlt]; exact fun h => h47 (Option.some.inj h))
          clear h47
          go_wp2
          go_round
          case rel => exact ⟨k + 1, by omega, by go_num, fun j hj => by
            by_cases e : j = k
            · subst e; exact HK.out
            · exact HA.out j (by omega)⟩
          case measure => simp [intOf]; omega
      · have t1 : decide (k < R.size) = false := decide_eq_false hlt
        go_wp2
        go_meet
        exact ⟨k, rfl, hk, HA.out, .inl (by omega), HM3.out⟩
  case rest =>
  obtain ⟨k, rfl, hk, hall, hend, hM⟩ := hcut
  have QK := Lib.hid (HQ.out k hk hall hend)
  have HM4 := Lib.hid hM
  clear hM HM3 HQ hall hend
  have s1 : (R.extract 0 k).size ≤ 1000 := by rw [ByteArray.size_extract]; omega
  have s2 : (R.extract (k + 1) R.size).size ≤ 1000 := by rw [ByteArray.size_extract]; omega
  have N1 := Lib.hid (fun W => natural_any (R.extract 0 k) s1 W)
  have N2 := Lib.hid (fun W => natural_any (R.extract (k + 1) R.size) s2 W)
  have b1 := natF_lt (R.extract 0 k).data.toList
  have b2 := natF_lt (R.extract (k + 1) R.size).data.toList
  obtain ⟨⟨x, bx⟩, hx⟩ : ∃ q, natF (R.extract 0 k).data.toList = q := ⟨_, rfl⟩
  obtain ⟨⟨y, bY⟩, hy⟩ : ∃ q, natF (R.extract (k + 1) R.size).data.toList = q := ⟨_, rfl⟩
  rw [hx] at N1 b1 QK
  rw [hy] at N2 b2 QK
  clear hx hy s1 s2
  have hkr : 0 ≤ (k : Int) := by omega
  have hkR : (k : Int) ≤ (R.size : Int) := by omega
  have HL := Lib.hid (one_row wc)
  have HM5 := Lib.hid (HM4.out.keep (blw1 wc (.cells #[.int .i64 1] 3)))
  have HP := Lib.hid (rfl : wc.heap.size = wc.heap.size)
  clear HM4
  go_wp2_with fail
  generalize wc.alloc (.cells #[.int .i64 1] 3) = W5 at *
  generalize wc.heap.size = PL at *
  refine (N1.out _).mono ?_
  rintro e w6 ⟨A, ca, rfl, hA, hb⟩
  have HM6 := Lib.hid (HM5.out.keep hb)
  have HA6 := Lib.hid hA
  have HL6 := Lib.hid (HL.out.keep hb)
  clear hA hb HM5 HL N1 HP
  obtain ⟨z, hz⟩ : ∃ z : Nat × Bool, (if k < R.size then (y, bY) else (1, true)) = z := ⟨_, rfl⟩
  rw [hz] at QK
  obtain ⟨z, bz⟩ := z
  have b3 : z < 10 ^ 19 := by
    split at hz
    · injection hz with h1 h2; omega
    · injection hz with h1 h2; omega
  have HZ := Lib.hid hz
  clear hz
  cases bz with
  | false =>
    have hkl : k < R.size := by
      refine Classical.byContradiction fun h => ?_
      have := HZ.out
      rw [if_neg h] at this
      injection this with _ h2
      cases h2
    have hby : bY = false := by
      have := HZ.out
      rw [if_pos hkl] at this
      injection this with _ h2
    subst hby
    have HQB : Hid (Q = (0, 0, 10)) := Lib.hid (by rw [← QK.out]; unfold refQ; rw [if_pos (Or.inl rfl)])
    have t1 : decide (k < R.size) = true := decide_eq_true hkl
    have i1 : (k : Int) + 1 ≤ (R.size : Int) := by omega
    clear QK HZ HL6 HA6
    go_wp2_with fail
    refine (N2.out _).mono ?_
    rintro e w7 ⟨B, cb, rfl, _, hb⟩
    have HM7 := Lib.hid (HM6.out.keep hb)
    clear hb HM6 N2
    have r0 := HM7.out.br.cell (j := 0) (v := .int .i64 0) rfl
    have r1 := HM7.out.br.cell (j := 1) (v := .int .i64 0) rfl
    have f0 := HM7.out.br.free 0
    have f1 := HM7.out.br.free 1
    go_wp2
    refine bodyPost_ret (v := .tuple #[.agg #[.int .i64 0, .int .i64 0], .int .i64 10]) (by simp [results, Tryz.results40, go_sem, r0, r1]) rfl ?_
    exact retF_mk (HQB.out) ((HM7.out.below.setCell (by simp) _).setCell (by simp) _)
  | true =>
    go_upto_if 50 with fail
    go_cut [7] (fun s7 wx => ∃ B cb, s7 = .slice B (nd z) cb ∧ Dg wx B cb z ∧ Below w6.heap.size w6 wx)
    case first =>
      by_cases hkl : k < R.size
      · have hzy := HZ.out
        rw [if_pos hkl] at hzy
        injection hzy with h1 h2
        subst h1 h2
        have t1 : decide (k < R.size) = true := decide_eq_true hkl
        have i1 : (k : Int) + 1 ≤ (R.size : Int) := by omega
        clear QK HZ HL6 HA6
        go_wp2_with fail
        refine (N2.out _).mono ?_
        rintro e w7 ⟨B, cb, rfl, hB, hb⟩
        go_wp2
        go_meet
        exact ⟨B, cb, rfl, hB, hb⟩
      · have hzy := HZ.out
        rw [if_neg hkl] at hzy
        injection hzy with h1 h2
        subst h1
        have t1 : decide (k < R.size) = false := decide_eq_false hkl
        clear QK HZ HA6
        go_wp2
        go_meet
        exact ⟨some ⟨PL, 0, none⟩, 1, by rw [one_nd], HL6.out, Below.refl _ _⟩
    case rest =>
    obtain ⟨B, cb, rfl, hB, hbw⟩ := hcut
    have HB := Lib.hid hB
    have HA7 := Lib.hid (HA6.out.keep hbw)
    have HM7 := Lib.hid (HM6.out.keep hbw)
    clear hB hbw HA6 HM6 HL6 HZ N2
    cases bx with
    | false =>
      have HQB : Hid (Q = (0, 0, 10)) := Lib.hid (by rw [← QK.out]; unfold refQ; rw [if_pos (Or.inr (Or.inl rfl))])
      clear QK
      have r0 := HM7.out.br.cell (j := 0) (v := .int .i64 0) rfl
      have r1 := HM7.out.br.cell (j := 1) (v := .int .i64 0) rfl
      have f0 := HM7.out.br.free 0
      have f1 := HM7.out.br.free 1
      go_wp2
      refine bodyPost_ret (v := .tuple #[.agg #[.int .i64 0, .int .i64 0], .int .i64 10]) (by simp [results, Tryz.results40, go_sem, r0, r1]) rfl ?_
      exact retF_mk (HQB.out) ((HM7.out.below.setCell (by simp) _).setCell (by simp) _)
    | true =>
    by_cases hz0 : z = 0
    · have HQB : Hid (Q = (0, 0, 10)) := Lib.hid (by rw [← QK.out]; unfold refQ; rw [if_pos (Or.inr (Or.inr hz0))])
      subst hz0
      rw [nd_zero]
      clear QK
      have r0 := HM7.out.br.cell (j := 0) (v := .int .i64 0) rfl
      have r1 := HM7.out.br.cell (j := 1) (v := .int .i64 0) rfl
      have f0 := HM7.out.br.free 0
      have f1 := HM7.out.br.free 1
      go_wp2
      refine bodyPost_ret (v := .tuple #[.agg #[.int .i64 0, .int .i64 0], .int .i64 10]) (by simp [results, Tryz.results40, go_sem, r0, r1]) rfl ?_
      exact retF_mk (HQB.out) ((HM7.out.below.setCell (by simp) _).setCell (by simp) _)
    have hz1 : 0 < z := by omega
    have hnz : 0 < nd z := by have := (nd_zero_iff z).1; omega
    have t1 : ((nd z : Int) == 0) = false := beq_eq_false_iff_ne.2 (by omega)
    have kx : nd x ≤ 4 := nd_64 (by have : (10 : Nat) ^ 19 = 10000000000000000000 := by decide
                                    omega)
    have kz : nd z ≤ 4 := nd_64 (by have : (10 : Nat) ^ 19 = 10000000000000000000 := by decide
                                    omega)
    have M0 := Lib.hid (fun W h1 h2 => make0_any neg A B ca cb x z hz1 (by omega) (by omega) W h1 h2)
    have hred := red_out neg x z (by omega)
    have HQ2 : Hid ((if (packP neg (x / Nat.gcd x z) (z / Nat.gcd x z)).2.2 = 0 ∧ textF (packP neg (x / Nat.gcd x z) (z / Nat.gcd x z)).1 (packP neg (x / Nat.gcd x z) (z / Nat.gcd x z)).2.1 = s.data.toList then packP neg (x / Nat.gcd x z) (z / Nat.gcd x z) else (0, 0, 10)) = Q) := Lib.hid (by
      rw [← QK.out]; unfold refQ
      exact (if_neg (fun h => by
        rcases h with h | h | h
        · exact Bool.noConfusion h
        · exact Bool.noConfusion h
        · exact hz0 h)).symm)
    obtain ⟨X, hX⟩ : ∃ X, mkRat (sgn neg x) z = X := ⟨_, rfl⟩
    rw [hred, hX] at M0 HQ2
    clear QK hred hX hz0 hz1 b1 b2 b3
    by_cases hfit : fits X = true
    · have hout : outF X = (X.num, (X.den : Int), 0) := by unfold outF; rw [if_pos hfit]
      rw [hout] at M0 HQ2
      have hFB : FB X.num X.den := by
        unfold fits at hfit
        simp only [Bool.and_eq_true, decide_eq_true_eq] at hfit
        have := X.den_pos
        exact ⟨hfit.1.1, hfit.1.2, by omega, by omega⟩
      have TX := Lib.hid (fun W => rtext_ok X.num X.den hFB (right_R X) W)
      obtain ⟨T, hT⟩ : ∃ T, textF X.num X.den = T := ⟨_, rfl⟩
      rw [hT] at TX
      have HQT : Hid (T = s.data.toList → Q = (X.num, (X.den : Int), 0)) := Lib.hid (fun h => by rw [← HQ2.out]; exact if_pos ⟨rfl, by rw [← h]; exact hT⟩)
      have HQF : Hid (T ≠ s.data.toList → Q = (0, 0, 10)) := Lib.hid (fun h => by rw [← HQ2.out]; exact if_neg (fun h' => h (by rw [← hT]; exact h'.2)))
      clear hout hfit hFB hT HQ2
      go_wp2_with fail
      refine (M0.out _ HA7.out HB.out).mono ?_
      rintro e w8 ⟨rfl, hb⟩
      have HM8 := Lib.hid (HM7.out.keep hb)
      clear hb HM7 HA7 HB M0
      have hF := Blk.new w8 23 #[.int .i64 X.num, .int .i64 (X.den : Int)]
      have HF := Lib.hid hF
      have HM9 := Lib.hid (HM8.out.keep (blw1 w8 (.cells #[.int .i64 X.num, .int .i64 (X.den : Int)] 23)))
      clear hF HM8
      go_upto_region 18 with fail
      generalize w8.alloc (.cells #[.int .i64 X.num, .int .i64 (X.den : Int)] 23) = W9 at *
      generalize w8.heap.size = PF at *
      have x0 := HF.out.cell (j := 0) (v := .int .i64 X.num) rfl
      have x1 := HF.out.cell (j := 1) (v := .int .i64 (X.den : Int)) rfl
      go_wp2_with fail
      refine (TX.out _).mono ?_
      rintro e w10 ⟨rfl, hb⟩
      have HM10 := Lib.hid (HM9.out.keep hb)
      have HF10 := Lib.hid (HF.out.keep hb HF.out.lt)
      clear hb x0 x1 HM9 HF TX
      have x0 := HF10.out.cell (j := 0) (v := .int .i64 X.num) rfl
      have x1 := HF10.out.cell (j := 1) (v := .int .i64 (X.den : Int)) rfl
      have r0 := HM10.out.br.cell (j := 0) (v := .int .i64 0) rfl
      have r1 := HM10.out.br.cell (j := 1) (v := .int .i64 0) rfl
      have f0 := HM10.out.br.free 0
      have f1 := HM10.out.br.free 1
      have HSL : Hid (s.toList = s.data.toList) := Lib.hid (by rw [ByteArray.toList_eq])
      by_cases hts : T = s.data.toList
      · have HQ3 := Lib.hid (HQT.out hts)
        have u1 : (T == s.toList) = true := by rw [HSL.out]; exact beq_iff_eq.2 hts
        clear hts HQT HQF
        go_wp2
        refine bodyPost_ret (v := .tuple #[.agg #[.int .i64 X.num, .int .i64 (X.den : Int)], .int .i64 0]) (by simp [results, Tryz.results40, go_sem, r0, r1]) rfl ?_
        exact retF_mk (HQ3.out) ((HM10.out.below.setCell (by simp) _).setCell (by simp) _)
      · have u1 : (T == s.toList) = false := by rw [HSL.out]; exact beq_eq_false_iff_ne.2 hts
        have HQ3 := Lib.hid (HQF.out hts)
        clear hts HQT HQF
        go_wp2
        refine bodyPost_ret (v := .tuple #[.agg #[.int .i64 0, .int .i64 0], .int .i64 10]) (by simp [results, Tryz.results40, go_sem, r0, r1]) rfl ?_
        exact retF_mk (HQ3.out) ((HM10.out.below.setCell (by simp) _).setCell (by simp) _)
    · have hout : outF X = (0, 0, 3) := by unfold outF; rw [if_neg hfit]
      rw [hout] at M0 HQ2
      have TX := Lib.hid (fun W => rtext_bad 0 0 ⟨by decide, by decide, by decide, by decide⟩ (by decide) W)
      have HQ3 : Hid (Q = (0, 0, 10)) := Lib.hid (by rw [← HQ2.out]; exact if_neg (fun h => by have h := h.1; cases h))
      clear hout hfit HQ2
      go_wp2_with fail
      refine (M0.out _ HA7.out HB.out).mono ?_
      rintro e w8 ⟨rfl, hb⟩
      have HM8 := Lib.hid (HM7.out.keep hb)
      clear hb HM7 HA7 HB M0
      have HF := Lib.hid (Blk.new w8 23 #[.int .i64 0, .int .i64 0])
      have HM9 := Lib.hid (HM8.out.keep (blw1 w8 (.cells #[.int .i64 0, .int .i64 0] 23)))
      clear HM8
      go_upto_region 18 with fail
      generalize w8.alloc (.cells #[.int .i64 0, .int .i64 0] 23) = W9 at *
      generalize w8.heap.size = PF at *
      have x0 := HF.out.cell (j := 0) (v := .int .i64 0) rfl
      have x1 := HF.out.cell (j := 1) (v := .int .i64 0) rfl
      go_wp2_with fail
      refine (TX.out _).mono ?_
      rintro e w10 ⟨rfl, hb⟩
      have HM10 := Lib.hid (HM9.out.keep hb)
      clear hb x0 x1 HM9 HF TX
      have r0 := HM10.out.br.cell (j := 0) (v := .int .i64 0) rfl
      have r1 := HM10.out.br.cell (j := 1) (v := .int .i64 0) rfl
      have f0 := HM10.out.br.free 0
      have f1 := HM10.out.br.free 1
      go_wp2
      refine bodyPost_ret (v := .tuple #[.agg #[.int .i64 0, .int .i64 0], .int .i64 10]) (by simp [results, Tryz.results40, go_sem, r0, r1]) rfl ?_
      exact retF_mk (HQ3.out) ((HM10.out.below.setCell (by simp) _).setCell (by simp) _)
end Go.Proofs.YtfhkgpipbegpgaaGreatDoor
