/- The contract of Round. -/
import Derived.Test.YtfhkgpipbegpgaaGreatDoorTxt
import Derived.Test.YtfhkgpipbegpgaaGreatDoorRoundP
namespace Go.Proofs.YtfhkgpipbegpgaaGreatDoor
open Go Go.RowKit

set_option maxRecDepth 100000 in
set_option maxHeartbeats 1000000 in
theorem oround_bad (n d k : Int) (hf : FB n d) (h : rightB n d = false) (w : World) :
    Calls Tryz.prog 26 #[.agg #[.int .i64 n, .int .i64 d], .int .i64 k] w (RetS [] 2 w) := by
  have R1 := right_hid hf h
  clear h hf
  go_enter Tryz.func26, Tryz.ntmps26
  go_wp2_with fail
  have hB := below1 w (.cells #[.int .i64 n, .int .i64 d] 23)
  generalize w.alloc (.cells #[.int .i64 n, .int .i64 d] 23) = W1 at *
  refine (R1.out _).mono ?_
  rintro e w1 ⟨rfl, hb⟩
  have hB1 := bchain hB hb
  clear hb hB
  go_wp2
  go_ret2
  exact retS_mk rfl hB1
set_option maxRecDepth 100000 in
set_option maxHeartbeats 1000000 in
theorem oround_out (n d k : Int) (hf : FB n d) (h : rightB n d = true) (hk : k < 0 ∨ 9 < k) (w : World) :
    Calls Tryz.prog 26 #[.agg #[.int .i64 n, .int .i64 d], .int .i64 k] w (RetS [] 2 w) := by
  have R1 := right_hid hf h
  clear h hf
  rcases hk with hk | hk
  · have t1 : decide (k < 0) = true := decide_eq_true hk
    clear hk
    go_enter Tryz.func26, Tryz.ntmps26
    go_wp2_with fail
    have hB := below1 w (.cells #[.int .i64 n, .int .i64 d] 23)
    generalize w.alloc (.cells #[.int .i64 n, .int .i64 d] 23) = W1 at *
    refine (R1.out _).mono ?_
    rintro e w1 ⟨rfl, hb⟩
    have hB1 := bchain hB hb
    clear hb hB
    go_wp2
    go_ret2
    exact retS_mk rfl hB1
  · have t1 : decide (k < 0) = false := decide_eq_false (by omega)
    have t2 : decide (9 < k) = true := decide_eq_true hk
    clear hk
    go_enter Tryz.func26, Tryz.ntmps26
    go_wp2_with fail
    have hB := below1 w (.cells #[.int .i64 n, .int .i64 d] 23)
    generalize w.alloc (.cells #[.int .i64 n, .int .i64 d] 23) = W1 at *
    refine (R1.out _).mono ?_
    rintro e w1 ⟨rfl, hb⟩
    have hB1 := bchain hB hb
    clear hb hB
    go_wp2
    go_ret2
    exact retS_mk rfl hB1
set_option maxRecDepth 100000 in
set_option maxHeartbeats 4000000 in
theorem oround_zero (n d : Int) (k : Nat) (hk : k = 0) (hk9 : k ≤ 9) (hf : FB n d) (h : rightB n d = true) (w : World) (he : Env w) :
    Calls Tryz.prog 26 #[.agg #[.int .i64 n, .int .i64 d], .int .i64 k] w (RetS (roundL (decide (n < 0)) k (roundT n.natAbs d.natAbs k)) 0 w) := by
  have R1 := right_hid hf h
  have S1 := Lib.hid (fun w => size_any n hf.n0 hf.n1 w)
  have S2 := Lib.hid (fun w => size_any d hf.d0 hf.d1 w)
  have pd := right_pos h
  have g0 := hf.n0
  have g1 := hf.n1
  have g3 := hf.d1
  have HE := Lib.hid he
  have t1 : decide ((k : Int) < 0) = false := decide_eq_false (by omega)
  have t2 : decide (9 < (k : Int)) = false := decide_eq_false (by omega)
  obtain ⟨s, hs⟩ : ∃ s, decide (n < 0) = s := ⟨_, rfl⟩
  obtain ⟨N, hN⟩ : ∃ N, n.natAbs = N := ⟨_, rfl⟩
  obtain ⟨D, hD⟩ : ∃ N, d.natAbs = N := ⟨_, rfl⟩
  rw [hN, hD, hs]
  rw [hN] at S1
  rw [hD] at S2
  have bN : N ≤ 9223372036854775808 := by omega
  have bD : D ≤ 9223372036854775807 := by omega
  have pD : 0 < D := by omega
  clear hN hD h hf pd g0 g1 g3 he
  obtain ⟨U, hU⟩ : ∃ U, p10 k = U := ⟨_, rfl⟩
  have U0 : 0 < U := hU ▸ p10_pos k
  have U9 : U ≤ 1000000000 := hU ▸ p10_le k hk9
  obtain ⟨q, hq⟩ : ∃ x, N / D = x := ⟨_, rfl⟩
  obtain ⟨r, hr⟩ : ∃ x, N % D = x := ⟨_, rfl⟩
  have rlt : r < D := hr ▸ Nat.mod_lt _ pD
  have qle : q ≤ N := hq ▸ Nat.div_le_self _ _
  have m1 : ((N : Int).tdiv (D : Int)) = (q : Int) := by rw [Int.tdiv_eq_ediv_of_nonneg (by omega), ← hq]; rfl
  have m2 : ((N : Int).tmod (D : Int)) = (r : Int) := by rw [Int.tmod_eq_emod_of_nonneg (by omega), ← hr]; rfl
  have z1 : ((D : Int) == 0) = false := by simp; omega
  have z3 : ¬ D = 0 := by omega
  have v1 : IntKind.u64.wrap (q : Int) = (q : Int) := IntWalk.u64_in _ (by omega)
  have v2 : IntKind.u64.wrap (r : Int) = (r : Int) := IntWalk.u64_in _ (by omega)
  obtain ⟨X, hX⟩ : ∃ X, r * U = X := ⟨_, rfl⟩
  obtain ⟨xh, xl, ex, lx⟩ := split128 X
  have M1 : Hid (∀ w, Calls Tryz.prog 52 #[.int .u64 (r : Nat), .int .u64 (U : Nat)] w fun e w' => e = .returned (.tuple #[.int .u64 (xh : Nat), .int .u64 (xl : Nat)]) ∧ w = w') := Lib.hid fun w => (Tryz.bits_Mul64 r U (by omega) (by omega) w).mono fun e w' ⟨he, hw⟩ => ⟨by rw [he, hX, ex, show (xh * 18446744073709551616 + xl) / 18446744073709551616 = xh by omega, show (xh * 18446744073709551616 + xl) % 18446744073709551616 = xl by omega], hw.symm⟩
  have Xle : X < D * 1000000000 := by rw [← hX]; exact Nat.lt_of_le_of_lt (Nat.mul_le_mul (Nat.le_refl r) U9) (Nat.mul_lt_mul_of_pos_right rlt (by omega))
  have xhlt : xh < D := by omega
  obtain ⟨p0, hp0⟩ : ∃ x, X / D = x := ⟨_, rfl⟩
  obtain ⟨r2, hr2⟩ : ∃ x, X % D = x := ⟨_, rfl⟩
  have D1 : Hid (∀ w, Calls Tryz.prog 53 #[.int .u64 (xh : Nat), .int .u64 (xl : Nat), .int .u64 (D : Nat)] w fun e w' => e = .returned (.tuple #[.int .u64 (p0 : Nat), .int .u64 (r2 : Nat)]) ∧ ∃ n, w' = w.drewN n) := Lib.hid fun w => by
    have := div64_any xh xl D lx xhlt (by omega) w
    rw [← ex, hp0, hr2] at this
    exact this
  have p0lt : p0 < U := by
    rw [← hp0, Nat.div_lt_iff_lt_mul pD, Nat.mul_comm U, ← hX]
    exact Nat.mul_lt_mul_of_pos_right rlt U0
  have r2lt : r2 < D := hr2 ▸ Nat.mod_lt _ pD
  have v3 : IntKind.u64.wrap (2 * (r2 : Int)) = 2 * (r2 : Int) := IntWalk.u64_in _ (by omega)
  have v4 : IntKind.u64.wrap ((p0 : Int) + 1) = (p0 : Int) + 1 := IntWalk.u64_in _ (by omega)
  have v5 : IntKind.u64.wrap ((q : Int) + 1) = (q : Int) + 1 := IntWalk.u64_in _ (by omega)
  obtain ⟨p1, hp1⟩ : ∃ p1, p1 = p0 + if D ≤ 2 * r2 then 1 else 0 := ⟨_, rfl⟩
  obtain ⟨wh, hwh⟩ : ∃ x, x = if p1 = U then q + 1 else q := ⟨_, rfl⟩
  obtain ⟨pt, hpt⟩ : ∃ x, x = if p1 = U then 0 else p1 := ⟨_, rfl⟩
  have hparts := round_parts N D k pD p1 wh pt (by rw [hr, hU, hX, hp0, hr2]; exact hp1) (by rw [hU, hq]; exact hwh) (by rw [hU]; exact hpt)
  rw [hU] at hparts
  obtain ⟨T, hT⟩ : ∃ T, roundT N D k = T := ⟨_, rfl⟩
  rw [hT] at hparts ⊢
  obtain ⟨e1, e2, ptlt⟩ := hparts
  have hdm := Nat.div_add_mod T U
  rw [← e1, ← e2] at hdm
  have hL : roundL s k T = (if s = true ∧ 0 < T then [45] else []) ++ (Lib.decDigits wh ++ if k = 0 then [] else 46 :: (List.replicate (k - (Lib.decDigits pt).length) 48 ++ Lib.decDigits pt)) := by rw [roundL, hU, ← e1, ← e2]
  have whle : wh ≤ 9223372036854775809 := by rw [hwh]; split <;> omega
  have hTpos : 0 < T ↔ (0 < wh ∨ 0 < pt) := by
    constructor
    · intro h
      rcases Nat.eq_zero_or_pos wh with h1 | h1
      · rw [h1, Nat.mul_zero] at hdm; exact .inr (by omega)
      · exact .inl h1
    · rintro (h1 | h1)
      · have : 0 < U * wh := Nat.mul_pos U0 h1
        omega
      · omega
  have F1 : Hid (∀ w, Env w → Calls Tryz.prog 54 #[.int .u64 (wh : Nat), .int .i64 10] w fun e w' => e = .returned (.string ⟨(Lib.decDigits wh).toArray⟩) ∧ Below w.heap.size w w') := Lib.hid fun w hw => fmtu_any wh (by omega) w hw
  have F2 : Hid (∀ w, Env w → Calls Tryz.prog 54 #[.int .u64 (pt : Nat), .int .i64 10] w fun e w' => e = .returned (.string ⟨(Lib.decDigits pt).toArray⟩) ∧ Below w.heap.size w w') := Lib.hid fun w hw => fmtu_any pt (by omega) w hw
  have lw := dec_len wh (by omega)
  have lp : 0 < k → (Lib.decDigits pt).length ≤ k := fun hk => by rw [Lib.decDigits_length]; exact nDigits_le k pt (by rw [← p10_eq, hU]; exact ptlt) hk
  obtain ⟨A, hA⟩ : ∃ A, Lib.decDigits wh = A := ⟨_, rfl⟩
  obtain ⟨B, hB⟩ : ∃ A, Lib.decDigits pt = A := ⟨_, rfl⟩
  rw [hA] at F1 hL lw
  rw [hB] at F2 hL lp
  have HL := Lib.hid hL
  have HTp := Lib.hid hTpos
  have HP1 := Lib.hid hp1
  have HWH := Lib.hid hwh
  have HPT := Lib.hid hpt
  have HU := Lib.hid hU
  have HS := Lib.hid hs
  clear hU hq hr hX ex lx hp0 hr2 hp1 hwh hpt e1 e2 hdm hL hTpos hA hB Xle xhlt rlt qle p0lt r2lt whle ptlt hT hs
  have t3 : decide (0 < k) = false := decide_eq_false (by omega)
  rw [if_pos hk] at HL
  have z4 : ¬ 9223372036854775807 < 1 + A.length := by omega
  clear hk lp F2
  go_enter Tryz.func26, Tryz.ntmps26
  go_wp2_with fail
  have hB := below1 w (.cells #[.int .i64 n, .int .i64 d] 23)
  have hA := Blk.new w 23 #[.int .i64 n, .int .i64 d]
  generalize w.alloc (.cells #[.int .i64 n, .int .i64 d] 23) = W1 at *
  refine (R1.out _).mono ?_
  rintro e w1 ⟨rfl, hb⟩
  have hB1 := bchain hB hb
  have hA1 := hA.keep hb hA.lt
  clear hb hB hA
  have HB1 := Lib.hid hB1
  have HA1 := Lib.hid hA1
  clear hB1 hA1
  go_wp2_with fail
  go_loop [6, 27] (fun s6 s27 => ∃ i : Nat, i ≤ k ∧ s6 = .int .u64 (p10 i : Nat) ∧ s27 = .int .i64 i) (fun _ s27 => k - (intOf s27).toNat)
  case atStart => exact ⟨0, by omega, by rw [p10_zero]; rfl, rfl⟩
  case round =>
    obtain ⟨i, hik, rfl, rfl⟩ := hrel
    by_cases hlt : i < k
    · have u1 := p10_le (i + 1) (by omega)
      have u0 := p10_succ i
      have x1 : IntKind.u64.wrap ((p10 i : Nat) * (10 : Int)) = (p10 (i + 1) : Nat) := by rw [u0, IntKind.wrap_u64]; omega
      have x2 : decide ((i : Int) < (k : Int)) = true := decide_eq_true (by omega)
      obtain ⟨P, hP⟩ : ∃ P, p10 i = P := ⟨_, rfl⟩
      obtain ⟨Q, hQ⟩ : ∃ P, p10 (i + 1) = P := ⟨_, rfl⟩
      rw [hP, hQ] at x1
      rw [hP]
      have HQ := Lib.hid hQ
      clear u0 u1 hP hQ
      go_wp2
      go_round
      case rel => exact ⟨i + 1, by omega, by rw [HQ.out], by go_num⟩
      case measure => simp [intOf]; omega
    · obtain rfl : i = k := by omega
      have x2 : decide ((i : Int) < (i : Int)) = false := decide_eq_false (by omega)
      rw [HU.out]
      clear hlt
      have x0 := HA1.out.cell (j := 1) (v := .int .i64 d) rfl
      go_wp2_with fail
      refine (S2.out _).mono ?_
      rintro e w2 ⟨rfl, rfl⟩
      clear x0
      have y0 := HA1.out.cell (j := 0) (v := .int .i64 n) rfl
      go_upto_region 9 with fail
      go_quiet ((go_at_call 43; exact quiet_eq (S1.out _)))
      go_wp2_with fail
      refine (M1.out _).mono ?_
      rintro e w2 ⟨rfl, rfl⟩
      go_wp2_with fail
      refine (D1.out _).mono ?_
      rintro e w2 ⟨rfl, n2, rfl⟩
      have hB2 := below_drewN HB1.out (nq + n2)
      have hA2 := HA1.out.drewN (nq + n2)
      clear y0 HB1 HA1
      go_upto_if 61 with fail
      generalize w1.drewN (nq + n2) = W2 at *
      have HB2 := Lib.hid hB2
      have HA2 := Lib.hid hA2
      clear hB2 hA2
      go_cut [12] (fun s12 wx => s12 = .int .u64 (p1 : Nat) ∧ W2 = wx)
      case first =>
        by_cases hc : D ≤ 2 * r2
        · have x1 : decide ((D : Int) ≤ 2 * (r2 : Int)) = true := decide_eq_true (by omega)
          have HC : Hid (p1 = p0 + 1) := Lib.hid (by rw [HP1.out, if_pos hc])
          clear hc
          rw [x1]
          go_wp2
          go_meet
          exact ⟨by rw [HC.out]; rfl, rfl⟩
        · have x1 : decide ((D : Int) ≤ 2 * (r2 : Int)) = false := decide_eq_false (by omega)
          have HC : Hid (p1 = p0) := Lib.hid (by rw [HP1.out, if_neg hc]; rfl)
          clear hc
          rw [x1]
          go_wp2
          go_meet
          exact ⟨by rw [HC.out], rfl⟩
      case rest =>
      obtain ⟨rfl, rfl⟩ := hcut
      go_upto_if 66 with fail
      go_cut [8, 12] (fun s8 s12 wx => s8 = .int .u64 (wh : Nat) ∧ s12 = .int .u64 (pt : Nat) ∧ W2 = wx)
      case first =>
        by_cases hc : p1 = U
        · have x1 : ((p1 : Int) == (U : Int)) = true := by simpa using (by omega : (p1 : Int) = (U : Int))
          have HC : Hid (wh = q + 1 ∧ pt = 0) := Lib.hid (by rw [HWH.out, HPT.out, if_pos hc, if_pos hc]; exact ⟨rfl, rfl⟩)
          clear hc
          rw [x1]
          go_wp2
          go_meet
          exact ⟨by rw [HC.out.1]; rfl, by rw [HC.out.2]; rfl, rfl⟩
        · have x1 : ((p1 : Int) == (U : Int)) = false := by simp; omega
          have HC : Hid (wh = q ∧ pt = p1) := Lib.hid (by rw [HWH.out, HPT.out, if_neg hc, if_neg hc]; exact ⟨rfl, rfl⟩)
          clear hc
          rw [x1]
          go_wp2
          go_meet
          exact ⟨by rw [HC.out.1], by rw [HC.out.2], rfl⟩
      case rest =>
      obtain ⟨rfl, rfl, rfl⟩ := hcut
      clear v1 v2 v3 v4 v5 m1 m2 z1 z3 HP1 HWH HPT HU t1 t2 x2 M1 D1 S1 S2 R1
      go_wp2_with fail
      refine (F1.out _ (HE.out.keep HB2.out)).mono ?_
      rintro e w3 ⟨rfl, hb⟩
      have hB3 := bchain HB2.out hb
      have hA3 := HA2.out.keep hb HA2.out.lt
      clear hb HB2 HA2
      have y0 := hA3.cell (j := 0) (v := .int .i64 n) rfl
      have hB3' := hB3
      clear hA3
      cases hs : s
      · have c0 : decide (n < 0) = false := by rw [HS.out, hs]
        have HF := Lib.hid hs
        clear hs
        go_wp2
        go_ret2
        exact retS_mk (by rw [HL.out, HF.out]; apply ByteArray.ext; simp) hB3'
      · have c0 : decide (n < 0) = true := by rw [HS.out, hs]
        have HF := Lib.hid hs
        clear hs
        rcases Nat.eq_zero_or_pos wh with h1 | h1
        · have c1 : decide (0 < wh) = false := decide_eq_false (by omega)
          rcases Nat.eq_zero_or_pos pt with h2 | h2
          · have c2 : decide (0 < pt) = false := decide_eq_false (by omega)
            have HG : Hid (¬ 0 < T) := Lib.hid (by rw [HTp.out]; omega)
            clear h1 h2
            go_wp2
            go_ret2
            exact retS_mk (by rw [HL.out, if_neg (fun h => HG.out h.2)]; apply ByteArray.ext; simp) hB3'
          · have c2 : decide (0 < pt) = true := decide_eq_true h2
            have HG : Hid (0 < T) := Lib.hid (by rw [HTp.out]; exact .inr h2)
            clear h1 h2
            go_wp2
            go_ret2
            exact retS_mk (by rw [HL.out, if_pos ⟨HF.out, HG.out⟩]; apply ByteArray.ext; simp) hB3'
        · have c1 : decide (0 < wh) = true := decide_eq_true h1
          have HG : Hid (0 < T) := Lib.hid (by rw [HTp.out]; exact .inl h1)
          clear h1
          go_wp2
          go_ret2
          exact retS_mk (by rw [HL.out, if_pos ⟨HF.out, HG.out⟩]; apply ByteArray.ext; simp) hB3'
set_option maxRecDepth 100000 in
set_option maxHeartbeats 4000000 in
theorem oround_more (n d : Int) (k : Nat) (hk : 0 < k) (hk9 : k ≤ 9) (hf : FB n d) (h : rightB n d = true) (w : World) (he : Env w) :
    Calls Tryz.prog 26 #[.agg #[.int .i64 n, .int .i64 d], .int .i64 k] w (RetS (roundL (decide (n < 0)) k (roundT n.natAbs d.natAbs k)) 0 w) := by
  have R1 := right_hid hf h
  have S1 := Lib.hid (fun w => size_any n hf.n0 hf.n1 w)
  have S2 := Lib.hid (fun w => size_any d hf.d0 hf.d1 w)
  have pd := right_pos h
  have g0 := hf.n0
  have g1 := hf.n1
  have g3 := hf.d1
  have HE := Lib.hid he
  have t1 : decide ((k : Int) < 0) = false := decide_eq_false (by omega)
  have t2 : decide (9 < (k : Int)) = false := decide_eq_false (by omega)
  obtain ⟨s, hs⟩ : ∃ s, decide (n < 0) = s := ⟨_, rfl⟩
  obtain ⟨N, hN⟩ : ∃ N, n.natAbs = N := ⟨_, rfl⟩
  obtain ⟨D, hD⟩ : ∃ N, d.natAbs = N := ⟨_, rfl⟩
  rw [hN, hD, hs]
  rw [hN] at S1
  rw [hD] at S2
  have bN : N ≤ 9223372036854775808 := by omega
  have bD : D ≤ 9223372036854775807 := by omega
  have pD : 0 < D := by omega
  clear hN hD h hf pd g0 g1 g3 he
  obtain ⟨U, hU⟩ : ∃ U, p10 k = U := ⟨_, rfl⟩
  have U0 : 0 < U := hU ▸ p10_pos k
  have U9 : U ≤ 1000000000 := hU ▸ p10_le k hk9
  obtain ⟨q, hq⟩ : ∃ x, N / D = x := ⟨_, rfl⟩
  obtain ⟨r, hr⟩ : ∃ x, N % D = x := ⟨_, rfl⟩
  have rlt : r < D := hr ▸ Nat.mod_lt _ pD
  have qle : q ≤ N := hq ▸ Nat.div_le_self _ _
  have m1 : ((N : Int).tdiv (D : Int)) = (q : Int) := by rw [Int.tdiv_eq_ediv_of_nonneg (by omega), ← hq]; rfl
  have m2 : ((N : Int).tmod (D : Int)) = (r : Int) := by rw [Int.tmod_eq_emod_of_nonneg (by omega), ← hr]; rfl
  have z1 : ((D : Int) == 0) = false := by simp; omega
  have z3 : ¬ D = 0 := by omega
  have v1 : IntKind.u64.wrap (q : Int) = (q : Int) := IntWalk.u64_in _ (by omega)
  have v2 : IntKind.u64.wrap (r : Int) = (r : Int) := IntWalk.u64_in _ (by omega)
  obtain ⟨X, hX⟩ : ∃ X, r * U = X := ⟨_, rfl⟩
  obtain ⟨xh, xl, ex, lx⟩ := split128 X
  have M1 : Hid (∀ w, Calls Tryz.prog 52 #[.int .u64 (r : Nat), .int .u64 (U : Nat)] w fun e w' => e = .returned (.tuple #[.int .u64 (xh : Nat), .int .u64 (xl : Nat)]) ∧ w = w') := Lib.hid fun w => (Tryz.bits_Mul64 r U (by omega) (by omega) w).mono fun e w' ⟨he, hw⟩ => ⟨by rw [he, hX, ex, show (xh * 18446744073709551616 + xl) / 18446744073709551616 = xh by omega, show (xh * 18446744073709551616 + xl) % 18446744073709551616 = xl by omega], hw.symm⟩
  have Xle : X < D * 1000000000 := by rw [← hX]; exact Nat.lt_of_le_of_lt (Nat.mul_le_mul (Nat.le_refl r) U9) (Nat.mul_lt_mul_of_pos_right rlt (by omega))
  have xhlt : xh < D := by omega
  obtain ⟨p0, hp0⟩ : ∃ x, X / D = x := ⟨_, rfl⟩
  obtain ⟨r2, hr2⟩ : ∃ x, X % D = x := ⟨_, rfl⟩
  have D1 : Hid (∀ w, Calls Tryz.prog 53 #[.int .u64 (xh : Nat), .int .u64 (xl : Nat), .int .u64 (D : Nat)] w fun e w' => e = .returned (.tuple #[.int .u64 (p0 : Nat), .int .u64 (r2 : Nat)]) ∧ ∃ n, w' = w.drewN n) := Lib.hid fun w => by
    have := div64_any xh xl D lx xhlt (by omega) w
    rw [← ex, hp0, hr2] at this
    exact this
  have p0lt : p0 < U := by
    rw [← hp0, Nat.div_lt_iff_lt_mul pD, Nat.mul_comm U, ← hX]
    exact Nat.mul_lt_mul_of_pos_right rlt U0
  have r2lt : r2 < D := hr2 ▸ Nat.mod_lt _ pD
  have v3 : IntKind.u64.wrap (2 * (r2 : Int)) = 2 * (r2 : Int) := IntWalk.u64_in _ (by omega)
  have v4 : IntKind.u64.wrap ((p0 : Int) + 1) = (p0 : Int) + 1 := IntWalk.u64_in _ (by omega)
  have v5 : IntKind.u64.wrap ((q : Int) + 1) = (q : Int) + 1 := IntWalk.u64_in _ (by omega)
  obtain ⟨p1, hp1⟩ : ∃ p1, p1 = p0 + if D ≤ 2 * r2 then 1 else 0 := ⟨_, rfl⟩
  obtain ⟨wh, hwh⟩ : ∃ x, x = if p1 = U then q + 1 else q := ⟨_, rfl⟩
  obtain ⟨pt, hpt⟩ : ∃ x, x = if p1 = U then 0 else p1 := ⟨_, rfl⟩
  have hparts := round_parts N D k pD p1 wh pt (by rw [hr, hU, hX, hp0, hr2]; exact hp1) (by rw [hU, hq]; exact hwh) (by rw [hU]; exact hpt)
  rw [hU] at hparts
  obtain ⟨T, hT⟩ : ∃ T, roundT N D k = T := ⟨_, rfl⟩
  rw [hT] at hparts ⊢
  obtain ⟨e1, e2, ptlt⟩ := hparts
  have hdm := Nat.div_add_mod T U
  rw [← e1, ← e2] at hdm
  have hL : roundL s k T = (if s = true ∧ 0 < T then [45] else []) ++ (Lib.decDigits wh ++ if k = 0 then [] else 46 :: (List.replicate (k - (Lib.decDigits pt).length) 48 ++ Lib.decDigits pt)) := by rw [roundL, hU, ← e1, ← e2]
  have whle : wh ≤ 9223372036854775809 := by rw [hwh]; split <;> omega
  have hTpos : 0 < T ↔ (0 < wh ∨ 0 < pt) := by
    constructor
    · intro h
      rcases Nat.eq_zero_or_pos wh with h1 | h1
      · rw [h1, Nat.mul_zero] at hdm; exact .inr (by omega)
      · exact .inl h1
    · rintro (h1 | h1)
      · have : 0 < U * wh := Nat.mul_pos U0 h1
        omega
      · omega
  have F1 : Hid (∀ w, Env w → Calls Tryz.prog 54 #[.int .u64 (wh : Nat), .int .i64 10] w fun e w' => e = .returned (.string ⟨(Lib.decDigits wh).toArray⟩) ∧ Below w.heap.size w w') := Lib.hid fun w hw => fmtu_any wh (by omega) w hw
  have F2 : Hid (∀ w, Env w → Calls Tryz.prog 54 #[.int .u64 (pt : Nat), .int .i64 10] w fun e w' => e = .returned (.string ⟨(Lib.decDigits pt).toArray⟩) ∧ Below w.heap.size w w') := Lib.hid fun w hw => fmtu_any pt (by omega) w hw
  have lw := dec_len wh (by omega)
  have lp : 0 < k → (Lib.decDigits pt).length ≤ k := fun hk => by rw [Lib.decDigits_length]; exact nDigits_le k pt (by rw [← p10_eq, hU]; exact ptlt) hk
  obtain ⟨A, hA⟩ : ∃ A, Lib.decDigits wh = A := ⟨_, rfl⟩
  obtain ⟨B, hB⟩ : ∃ A, Lib.decDigits pt = A := ⟨_, rfl⟩
  rw [hA] at F1 hL lw
  rw [hB] at F2 hL lp
  have HL := Lib.hid hL
  have HTp := Lib.hid hTpos
  have HP1 := Lib.hid hp1
  have HWH := Lib.hid hwh
  have HPT := Lib.hid hpt
  have HU := Lib.hid hU
  have HS := Lib.hid hs
  clear hU hq hr hX ex lx hp0 hr2 hp1 hwh hpt e1 e2 hdm hL hTpos hA hB Xle xhlt rlt qle p0lt r2lt whle ptlt hT hs
  have t3 : decide (0 < k) = true := decide_eq_true hk
  rw [if_neg (show ¬ k = 0 by omega)] at HL
  have lpk := lp hk
  obtain ⟨z, hz⟩ : ∃ z, k - B.length = z := ⟨_, rfl⟩
  have x9 : IntKind.i64.wrap ((k : Int) - (B.length : Nat)) = (z : Int) := by rw [IntWalk.i64_in _ (by omega)]; omega
  have RP : Hid (∀ w, Calls Tryz.prog 55 #[.string ⟨#[48]⟩, .int .i64 (z : Nat)] w fun e w' => e = .returned (.string ⟨(List.replicate z 48).toArray⟩) ∧ Below w.heap.size w w') := Lib.hid fun w => by
    have := Tryz.strings_Repeat ⟨#[48]⟩ z w (by omega) (by show 1 * z ≤ _; omega)
    rw [show (⟨#[48]⟩ : ByteArray).data.toList = [48] from rfl, repeat48] at this
    exact this
  rw [hz] at HL
  obtain ⟨Z, hZ⟩ : ∃ Z : List UInt8, Z = List.replicate z 48 := ⟨_, rfl⟩
  have lz : Z.length = z := by rw [hZ]; simp
  rw [← hZ] at RP HL
  have z4 : ¬ 9223372036854775807 < 1 + Z.length := by omega
  have z5 : ¬ 9223372036854775807 < 1 + Z.length + B.length := by omega
  have z6 : ¬ 9223372036854775807 < A.length + (1 + Z.length + B.length) := by omega
  have z7 : ¬ 9223372036854775807 < 1 + (A.length + (1 + Z.length + B.length)) := by omega
  clear hk lp lpk hz hZ lz
  go_enter Tryz.func26, Tryz.ntmps26
  go_wp2_with fail
  have hB := below1 w (.cells #[.int .i64 n, .int .i64 d] 23)
  have hA := Blk.new w 23 #[.int .i64 n, .int .i64 d]
  generalize w.alloc (.cells #[.int .i64 n, .int .i64 d] 23) = W1 at *
  refine (R1.out _).mono ?_
  rintro e w1 ⟨rfl, hb⟩
  have hB1 := bchain hB hb
  have hA1 := hA.keep hb hA.lt
  clear hb hB hA
  have HB1 := Lib.hid hB1
  have HA1 := Lib.hid hA1
  clear hB1 hA1
  go_wp2_with fail
  go_loop [6, 27] (fun s6 s27 => ∃ i : Nat, i ≤ k ∧ s6 = .int .u64 (p10 i : Nat) ∧ s27 = .int .i64 i) (fun _ s27 => k - (intOf s27).toNat)
  case atStart => exact ⟨0, by omega, by rw [p10_zero]; rfl, rfl⟩
  case round =>
    obtain ⟨i, hik, rfl, rfl⟩ := hrel
    by_cases hlt : i < k
    · have u1 := p10_le (i + 1) (by omega)
      have u0 := p10_succ i
      have x1 : IntKind.u64.wrap ((p10 i : Nat) * (10 : Int)) = (p10 (i + 1) : Nat) := by rw [u0, IntKind.wrap_u64]; omega
      have x2 : decide ((i : Int) < (k : Int)) = true := decide_eq_true (by omega)
      obtain ⟨P, hP⟩ : ∃ P, p10 i = P := ⟨_, rfl⟩
      obtain ⟨Q, hQ⟩ : ∃ P, p10 (i + 1) = P := ⟨_, rfl⟩
      rw [hP, hQ] at x1
      rw [hP]
      have HQ := Lib.hid hQ
      clear u0 u1 hP hQ
      go_wp2
      go_round
      case rel => exact ⟨i + 1, by omega, by rw [HQ.out], by go_num⟩
      case measure => simp [intOf]; omega
    · obtain rfl : i = k := by omega
      have x2 : decide ((i : Int) < (i : Int)) = false := decide_eq_false (by omega)
      rw [HU.out]
      clear hlt
      have x0 := HA1.out.cell (j := 1) (v := .int .i64 d) rfl
      go_wp2_with fail
      refine (S2.out _).mono ?_
      rintro e w2 ⟨rfl, rfl⟩
      clear x0
      have y0 := HA1.out.cell (j := 0) (v := .int .i64 n) rfl
      go_upto_region 9 with fail
      go_quiet ((go_at_call 43; exact quiet_eq (S1.out _)))
      go_wp2_with fail
      refine (M1.out _).mono ?_
      rintro e w2 ⟨rfl, rfl⟩
      go_wp2_with fail
      refine (D1.out _).mono ?_
      rintro e w2 ⟨rfl, n2, rfl⟩
      have hB2 := below_drewN HB1.out (nq + n2)
      have hA2 := HA1.out.drewN (nq + n2)
      clear y0 HB1 HA1
      go_upto_if 61 with fail
      generalize w1.drewN (nq + n2) = W2 at *
      have HB2 := Lib.hid hB2
      have HA2 := Lib.hid hA2
      clear hB2 hA2
      go_cut [12] (fun s12 wx => s12 = .int .u64 (p1 : Nat) ∧ W2 = wx)
      case first =>
        by_cases hc : D ≤ 2 * r2
        · have x1 : decide ((D : Int) ≤ 2 * (r2 : Int)) = true := decide_eq_true (by omega)
          have HC : Hid (p1 = p0 + 1) := Lib.hid (by rw [HP1.out, if_pos hc])
          clear hc
          rw [x1]
          go_wp2
          go_meet
          exact ⟨by rw [HC.out]; rfl, rfl⟩
        · have x1 : decide ((D : Int) ≤ 2 * (r2 : Int)) = false := decide_eq_false (by omega)
          have HC : Hid (p1 = p0) := Lib.hid (by rw [HP1.out, if_neg hc]; rfl)
          clear hc
          rw [x1]
          go_wp2
          go_meet
          exact ⟨by rw [HC.out], rfl⟩
      case rest =>
      obtain ⟨rfl, rfl⟩ := hcut
      go_upto_if 66 with fail
      go_cut [8, 12] (fun s8 s12 wx => s8 = .int .u64 (wh : Nat) ∧ s12 = .int .u64 (pt : Nat) ∧ W2 = wx)
      case first =>
        by_cases hc : p1 = U
        · have x1 : ((p1 : Int) == (U : Int)) = true := by simpa using (by omega : (p1 : Int) = (U : Int))
          have HC : Hid (wh = q + 1 ∧ pt = 0) := Lib.hid (by rw [HWH.out, HPT.out, if_pos hc, if_pos hc]; exact ⟨rfl, rfl⟩)
          clear hc
          rw [x1]
          go_wp2
          go_meet
          exact ⟨by rw [HC.out.1]; rfl, by rw [HC.out.2]; rfl, rfl⟩
        · have x1 : ((p1 : Int) == (U : Int)) = false := by simp; omega
          have HC : Hid (wh = q ∧ pt = p1) := Lib.hid (by rw [HWH.out, HPT.out, if_neg hc, if_neg hc]; exact ⟨rfl, rfl⟩)
          clear hc
          rw [x1]
          go_wp2
          go_meet
          exact ⟨by rw [HC.out.1], by rw [HC.out.2], rfl⟩
      case rest =>
      obtain ⟨rfl, rfl, rfl⟩ := hcut
      clear v1 v2 v3 v4 v5 m1 m2 z1 z3 HP1 HWH HPT HU t1 t2 x2 M1 D1 S1 S2 R1
      go_wp2_with fail
      refine (F1.out _ (HE.out.keep HB2.out)).mono ?_
      rintro e w3 ⟨rfl, hb⟩
      have hB3 := bchain HB2.out hb
      have hA3 := HA2.out.keep hb HA2.out.lt
      clear hb HB2 HA2
      go_wp2_with fail
      refine (F2.out _ (HE.out.keep hB3)).mono ?_
      rintro e w4 ⟨rfl, hb⟩
      have hB4 := bchain hB3 hb
      have hA4 := hA3.keep hb hA3.lt
      clear hb hB3 hA3
      go_wp2_with fail
      refine (RP.out _).mono ?_
      rintro e w5 ⟨rfl, hb⟩
      have hB5 := bchain hB4 hb
      have hA5 := hA4.keep hb hA4.lt
      clear hb hB4 hA4
      have y0 := hA5.cell (j := 0) (v := .int .i64 n) rfl
      have hB5' := hB5
      clear hA5
      cases hs : s
      · have c0 : decide (n < 0) = false := by rw [HS.out, hs]
        have HF := Lib.hid hs
        clear hs
        go_wp2
        go_ret2
        exact retS_mk (by rw [HL.out, HF.out]; apply ByteArray.ext; simp) hB5'
      · have c0 : decide (n < 0) = true := by rw [HS.out, hs]
        have HF := Lib.hid hs
        clear hs
        rcases Nat.eq_zero_or_pos wh with h1 | h1
        · have c1 : decide (0 < wh) = false := decide_eq_false (by omega)
          rcases Nat.eq_zero_or_pos pt with h2 | h2
          · have c2 : decide (0 < pt) = false := decide_eq_false (by omega)
            have HG : Hid (¬ 0 < T) := Lib.hid (by rw [HTp.out]; omega)
            clear h1 h2
            go_wp2
            go_ret2
            exact retS_mk (by rw [HL.out, if_neg (fun h => HG.out h.2)]; apply ByteArray.ext; simp) hB5'
          · have c2 : decide (0 < pt) = true := decide_eq_true h2
            have HG : Hid (0 < T) := Lib.hid (by rw [HTp.out]; exact .inr h2)
            clear h1 h2
            go_wp2
            go_ret2
            exact retS_mk (by rw [HL.out, if_pos ⟨HF.out, HG.out⟩]; apply ByteArray.ext; simp) hB5'
        · have c1 : decide (0 < wh) = true := decide_eq_true h1
          have HG : Hid (0 < T) := Lib.hid (by rw [HTp.out]; exact .inl h1)
          clear h1
          go_wp2
          go_ret2
          exact retS_mk (by rw [HL.out, if_pos ⟨HF.out, HG.out⟩]; apply ByteArray.ext; simp) hB5'
theorem oround_ok (n d : Int) (k : Nat) (hk9 : k ≤ 9) (hf : FB n d) (h : rightB n d = true) (w : World) (he : Env w) :
    Calls Tryz.prog 26 #[.agg #[.int .i64 n, .int .i64 d], .int .i64 k] w (RetS (roundL (decide (n < 0)) k (roundT n.natAbs d.natAbs k)) 0 w) := by
  rcases Nat.eq_zero_or_pos k with hk | hk
  · exact oround_zero n d k hk hk9 hf h w he
  · exact oround_more n d k hk hk9 hf h w he
end Go.Proofs.YtfhkgpipbegpgaaGreatDoor
