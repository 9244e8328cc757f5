/- Entries compared: slices.Compare of numbers, Compare. -/
import Derived.Test.YtpkmibmombpjpaaGreatDoorEQ
import Derived.Test.YtpkmibmombpjpaaGreatDoorFlM
namespace Go.Proofs.YtpkmibmombpjpaaGreatDoor
open Go Go.RowKit

theorem lexI (a b : Int) (x y : List Int) : lexC (a :: x) (b :: y) = if cmpI a b = 0 then lexC x y else cmpI a b := by
  rw [cmpI_eq]
  have : lexC (a :: x) (b :: y) = if a < b then -1 else if b < a then 1 else lexC x y := rfl
  rw [this]
  grind
set_option maxRecDepth 100000 in
theorem scmp_any (x y : List Int) (hx : x.length = 33) (hy : y.length = 33) (p q : Nat) (t : TypeId) (w : World) (hp : Blk w p t (nuC x)) (hq : Blk w q t (nuC y)) : Calls Tryz.prog 56 #[.slice (some ⟨p, 0, none⟩) 33 33, .slice (some ⟨q, 0, none⟩) 33 33] w (fun e w' => e = .returned (.int .i64 (lexC x y)) ∧ w = w') := by
  have HX := Lib.hid hx
  have HY := Lib.hid hy
  have HP := Lib.hid hp
  have HQ := Lib.hid hq
  have CI := Lib.hid cmpI_any
  obtain ⟨r, hr⟩ : ∃ r, lexC x y = r := ⟨_, rfl⟩
  rw [hr]
  have HR := Lib.hid hr
  clear hx hy hp hq hr
  go_enter Tryz.func56, Tryz.ntmps56
  go_wp2_with fail
  go_loopw [11] (fun s11 wr => ∃ k : Nat, k ≤ 33 ∧ s11 = .int .i64 (k : Int) ∧ Hid (lexC (x.drop k) (y.drop k) = r) ∧ wr = w) (fun s11 _ => 33 - (intOf s11).toNat)
  case atStart => exact ⟨0, by omega, rfl, Lib.hid HR.out, rfl⟩
  case round =>
    obtain ⟨k, hk, rfl, HL, rfl⟩ := hrel
    by_cases hlt : k < 33
    · have u1 : decide ((k : Int) < 33) = true := decide_eq_true (by omega)
      have u2 : decide ((33 : Int) ≤ (k : Int)) = false := decide_eq_false (by omega)
      obtain ⟨a, ha⟩ : ∃ a, x[k]? = some a := ⟨_, List.getElem?_eq_getElem (by rw [HX.out]; exact hlt)⟩
      obtain ⟨b, hb⟩ : ∃ b, y[k]? = some b := ⟨_, List.getElem?_eq_getElem (by rw [HY.out]; exact hlt)⟩
      have x0 := HP.out.cell (nuC_get ha)
      have y0 := HQ.out.cell (nuC_get hb)
      have hstep : Hid ((if cmpI a b = 0 then lexC (x.drop (k + 1)) (y.drop (k + 1)) else cmpI a b) = r) := Lib.hid (by
        rw [← HL.out, ← lexI]
        have e1 : x.drop k = a :: x.drop (k + 1) := by rw [List.drop_eq_getElem_cons (by rw [HX.out]; exact hlt)]; rw [(List.getElem?_eq_some_iff.1 ha).2]
        have e2 : y.drop k = b :: y.drop (k + 1) := by rw [List.drop_eq_getElem_cons (by rw [HY.out]; exact hlt)]; rw [(List.getElem?_eq_some_iff.1 hb).2]
        rw [e1, e2])
      have C0 := Lib.hid (CI.out a b wr)
      have i1 : (0 : Int) ≤ (k : Int) := by omega
      have i2 : (k : Int) < 33 := by omega
      clear ha hb CI
      generalize cmpI a b = c at *
      by_cases hc : c = 0
      · have t1 : (c != 0) = false := by simp [hc]
        have HN : Hid (lexC (x.drop (k + 1)) (y.drop (k + 1)) = r) := Lib.hid (by have := hstep.out; rwa [if_pos hc] at this)
        clear hc hstep
        go_wp2_with (go_at_call 91; refine C0.out.mono ?_; rintro e w' ⟨rfl, rfl⟩)
        go_roundw
        case rel => exact ⟨k + 1, by omega, by go_num, HN, trivial⟩
        case measure => simp [intOf]; omega
      · have t1 : (c != 0) = true := by simp [hc]
        have HN : Hid (c = r) := Lib.hid (by have := hstep.out; rwa [if_neg hc] at this)
        clear hc hstep
        go_wp2_with (go_at_call 91; refine C0.out.mono ?_; rintro e w' ⟨rfl, rfl⟩)
        go_ret
        exact ⟨by rw [← HN.out]; rfl, rfl⟩
    · obtain rfl : k = 33 := by omega
      have u1 : decide ((33 : Int) < 33) = false := rfl
      rw [show ((33 : Nat) : Int) = 33 from rfl]
      have HN : Hid (r = 0) := Lib.hid (by rw [← HL.out, List.drop_eq_nil_of_le (by rw [HX.out]; omega)]; rfl)
      go_wp2_with fail
      go_ret
      exact ⟨by rw [HN.out]; rfl, rfl⟩
theorem Sp.is_at {sps : List Sp} {k j : Nat} {x v : Value} {w : World} (h : spAt sps k j v w) (hs : sps.getD (j - k) Sp.any = Sp.is x) : v = x := by
  unfold spAt at h
  rw [hs] at h
  exact h
set_option maxRecDepth 100000 in
set_option maxHeartbeats 4000000 in
theorem cmpE_any (a b : En) (ha : a.In) (hb : b.In) (w : World) : Calls Tryz.prog 25 #[.agg (enC a), .agg (enC b)] w (fun e w' => e = .returned (.int .i64 (cmpE a b)) ∧ Below w.heap.size w w') := by
  have KA := Lib.hid (fun W => cmpK_any a b W)
  have NA := Lib.hid (fun W => numbers_any a ha W)
  have NB := Lib.hid (fun W => numbers_any b hb W)
  have QE := Lib.hid (eql_deep (eq_nu a b ha hb))
  have EC := Lib.hid (eqEn_cmp a b)
  have HS : Hid ((enC a).size = 33 ∧ (enC b).size = 33 ∧ (nuC a.nums).size = 33 ∧ (nuC b.nums).size = 33) := Lib.hid ⟨enC_size a, enC_size b, by rw [nuC_size, a.nums_len], by rw [nuC_size, b.nums_len]⟩
  have HK := Lib.hid (cmp_key (a := a) (b := b))
  have HC := Lib.hid (fun (p q : Nat) (t : TypeId) W h1 h2 => scmp_any a.nums b.nums a.nums_len b.nums_len p q t W h1 h2)
  have HD : Hid (cmpE a b = lexC a.nums b.nums) := Lib.hid rfl
  have N0 := Lib.hid (nuP0 ([] : List Int))
  have Z0 : Hid ((nuP ([] : List Int) 0).size = 33) := Lib.hid (by rw [nuP0]; rfl)
  have HO : Hid ((nuC a.nums).all (·.oneCell') = true ∧ (nuC b.nums).all (·.oneCell') = true) := Lib.hid ⟨nuC_one _, nuC_one _⟩
  generalize cmpK a b = ck at *
  generalize cmpE a b = ce at *
  generalize nuC a.nums = NC at *
  generalize nuC b.nums = ND at *
  generalize enC a = AC at *
  generalize enC b = BC at *
  generalize eqEn a b = qe at *
  clear ha hb
  go_enter Tryz.func25, Tryz.ntmps25
  go_upto_region 1 with fail
  obtain ⟨HA, HB, HW⟩ := two_blk w 34 AC BC
  generalize (w.alloc (.cells AC 34)).alloc (.cells BC 34) = W2 at *
  have L1 : Hid (w.heap.size ≤ w.heap.size + 1) := Lib.hid (by omega)
  generalize w.heap.size + 1 = p1 at *
  generalize hp0 : w.heap.size = p0 at *
  have la := loadAt_blk (T := 34) HA Tryz.underlying34 rfl (by rw [HS.out.1]; kernel_rfl)
  have lb := loadAt_blk (T := 34) HB Tryz.underlying34 rfl (by rw [HS.out.2.1]; kernel_rfl)
  have HA2 := Lib.hid HA
  have HB2 := Lib.hid HB
  have HW2 := Lib.hid HW
  clear HA HB HW
  go_wp2_with (first
    | refine op_load (p := .pointer (some ⟨p0, 0, none⟩)) 34 (.tmp 2) rfl rfl rfl la ?_
    | refine op_load (p := .pointer (some ⟨p1, 0, none⟩)) 34 (.tmp 3) rfl rfl rfl lb ?_)
  refine (KA.out _).mono ?_
  rintro e w1 ⟨rfl, hb⟩
  have HA3 := Lib.hid (HA2.out.keep hb HA2.out.lt)
  have HB3 := Lib.hid (HB2.out.keep hb HB2.out.lt)
  have HW3 := Lib.hid (HW2.out.trans (hb.mono (by have := HW2.out.size; omega)))
  clear la lb hb HA2 HB2 HW2 KA
  by_cases hc : ck = 0
  · have t1 : (ck != 0) = false := by simp [hc]
    clear hc HK
    go_wp2_with fail
    obtain ⟨W0, hW0⟩ : ∃ W0, w1.drew = W0 := ⟨_, rfl⟩
    have hD : Below w1.heap.size w1 W0 := hW0 ▸ (Below.refl _ w1).drew
    replace HA3 := Lib.hid (HA3.out.keep hD HA3.out.lt)
    replace HB3 := Lib.hid (HB3.out.keep hD HB3.out.lt)
    replace HW3 := Lib.hid (HW3.out.trans (hD.mono (by have := HW3.out.size; omega)))
    refine rest_begin (by kernel_rfl) ?_
    rw [hW0]
    clear hD hW0
    clear w1
    refine rest_flow3 [some 14, some 15, some 16, some 17, some 6, some 7] [Sp.is (.agg AC), Sp.is (.agg NC), Sp.is (.agg BC), Sp.is (.agg ND), Sp.blk 98 (nuP [] 0), Sp.blk 98 (nuP [] 0)] [false, false, false, false, true, true] 6 (by kernel_rfl) (by kernel_rfl) (fun u F hF => ?_) (fun u w' hbF hsF hold hap => ?_)
    case refine_1 =>
      have E2 : F.eval (.tmp 2) = .pointer (some ⟨p0, 0, none⟩) := (congrArg (fun a => Act.eval a (.tmp 2)) hF).trans (eval_out [some 14, some 15, some 16, some 17, some 6, some 7] 0 _ (by decide))
      have E3 : F.eval (.tmp 3) = .pointer (some ⟨p1, 0, none⟩) := (congrArg (fun a => Act.eval a (.tmp 3)) hF).trans (eval_out [some 14, some 15, some 16, some 17, some 6, some 7] 0 _ (by decide))
      have D14 : F.eval (.tmp 14) = u 0 := (congrArg (fun a => Act.eval a (.tmp 14)) hF).trans (eval_in [some 14, some 15, some 16, some 17, some 6, some 7] 0 0 _ (by decide) (by omega) rfl (of_decide_eq_true (by kernel_rfl)))
      have D16 : F.eval (.tmp 16) = u 2 := (congrArg (fun a => Act.eval a (.tmp 16)) hF).trans (eval_in [some 14, some 15, some 16, some 17, some 6, some 7] 0 2 _ (by decide) (by omega) rfl (of_decide_eq_true (by kernel_rfl)))
      clear hF
      refine ⟨?_, ?_, ?_, ?_, ?_, ?_, trivial⟩
      · intro w1 hb hd K hK
        exact op_val (v := .agg AC) rfl (exec_load rfl E2 (loadAt_blk (HA3.out.keep hb HA3.out.lt) Tryz.underlying34 rfl (by rw [HS.out.1]; kernel_rfl))) (hK _ _ (show _ = _ from rfl) (Below.refl _ _) (Fresh.no _ _ _))
      · intro w1 hb hd K hK
        have e1 := D14.trans (show u 0 = .agg AC from hd ⟨0, .data⟩ (by simp) rfl (Nat.zero_le _))
        refine op_call (R := fun v w2 => v = .agg NC ∧ Below w1.heap.size w1 w2) (f := 55) (args := #[.agg AC]) rfl (by simp only [execOp]; go_simp; first | exact eval_get e1 | exact ⟨rfl, eval_get e1⟩ | exact ⟨eval_get e1, rfl⟩) ((NA.out w1).mono fun e w2 hh => ⟨_, hh.1, rfl, hh.2⟩) (fun v w2 hh => hK _ _ hh.1 hh.2 (Fresh.no _ _ _))
      · intro w1 hb hd K hK
        exact op_val (v := .agg BC) rfl (exec_load rfl E3 (loadAt_blk (HB3.out.keep hb HB3.out.lt) Tryz.underlying34 rfl (by rw [HS.out.2.1]; kernel_rfl))) (hK _ _ (show _ = _ from rfl) (Below.refl _ _) (Fresh.no _ _ _))
      · intro w1 hb hd K hK
        have e1 := D16.trans (show u 2 = .agg BC from hd ⟨2, .data⟩ (by simp) rfl (Nat.zero_le _))
        refine op_call (R := fun v w2 => v = .agg ND ∧ Below w1.heap.size w1 w2) (f := 55) (args := #[.agg BC]) rfl (by simp only [execOp]; go_simp; first | exact eval_get e1 | exact ⟨rfl, eval_get e1⟩ | exact ⟨eval_get e1, rfl⟩) ((NB.out w1).mono fun e w2 hh => ⟨_, hh.1, rfl, hh.2⟩) (fun v w2 hh => hK _ _ hh.1 hh.2 (Fresh.no _ _ _))
      · intro w1 hb hd K hK
        exact op_val (v := .pointer (some ⟨w1.heap.size, 0, none⟩)) (w' := w1.alloc (.cells (nuP [] 0) 98)) rfl (by kernel_rfl) (hK _ _ (show ∃ b, _ ∧ _ from ⟨_, rfl, Blk.new w1 _ _⟩) (below1 _ _) (fun _ => ⟨_, rfl, Nat.le_refl _, by show _ < _; rw [size_al]; exact Nat.lt_succ_self _⟩))
      · intro w1 hb hd K hK
        exact op_val (v := .pointer (some ⟨w1.heap.size, 0, none⟩)) (w' := w1.alloc (.cells (nuP [] 0) 98)) rfl (by kernel_rfl) (hK _ _ (show ∃ b, _ ∧ _ from ⟨_, rfl, Blk.new w1 _ _⟩) (below1 _ _) (fun _ => ⟨_, rfl, Nat.le_refl _, by show _ < _; rw [size_al]; exact Nat.lt_succ_self _⟩))
    have hv0 : u 0 = .agg AC := (show u 0 = _ from hsF 0 (by omega) (by omega))
    have hv1 : u 1 = .agg NC := (show u 1 = _ from hsF 1 (by omega) (by omega))
    have hv2 : u 2 = .agg BC := (show u 2 = _ from hsF 2 (by omega) (by omega))
    have hv3 : u 3 = .agg ND := (show u 3 = _ from hsF 3 (by omega) (by omega))
    obtain ⟨b6, hv4, hB6⟩ := (show ∃ b, u 4 = .pointer (some ⟨b, 0, none⟩) ∧ Blk w' b 98 (nuP [] 0) from hsF 4 (by omega) (by omega))
    obtain ⟨b7, hv5, hB7⟩ := (show ∃ b, u 5 = .pointer (some ⟨b, 0, none⟩) ∧ Blk w' b 98 (nuP [] 0) from hsF 5 (by omega) (by omega))
    have hne : b6 ≠ b7 := by
      have := hap 4 5 (by omega) (by omega) (by omega) (by omega) rfl rfl (by omega)
      rw [hv4, hv5] at this
      simpa [blkOf] using this
    have hge : p0 ≤ b6 ∧ p0 ≤ b7 := by
      obtain ⟨x, e1, e2, _⟩ := hold 4 (by omega) (by omega) rfl
      obtain ⟨y, g1, g2, _⟩ := hold 5 (by omega) (by omega) rfl
      rw [hv4] at e1
      rw [hv5] at g1
      have e1 : b6 = x := by simpa [blkOf] using e1
      have g1 : b7 = y := by simpa [blkOf] using g1
      have := HW3.out.size
      omega
    simp only [putRow, hv0, hv1, hv2, hv3, hv4, hv5, Act.put, List.setIfInBounds_toArray, List.set_cons_succ, List.set_cons_zero]
    clear hsF hv0 hv1 hv2 hv3 hv4 hv5 hold hap
    have HW4 := Lib.hid (HW3.out.trans (hbF.mono (by have := HW3.out.size; omega)))
    have s6 := storeAt_row (T := 98) (C := NC) hB6 (by rw [HS.out.2.2.1]; kernel_rfl) (by rw [Z0.out, HS.out.2.2.1]) HO.out.1
    have s7 := storeAt_row (T := 98) (C := ND) (hB7.row_other hne.symm NC) (by rw [HS.out.2.2.2]; kernel_rfl) (by rw [Z0.out, HS.out.2.2.2]) HO.out.2
    have HB6 := Lib.hid (((hB6.row NC).row_other hne ND))
    have HB7 := Lib.hid ((hB7.row_other hne.symm NC).row ND)
    have HW5 := Lib.hid (Below.setRow' hge.2 (Below.setRow' hge.1 HW4.out NC) ND)
    clear hB6 hB7 hne hge HW4 HW3 hbF HA3 HB3 NA NB
    refine rest_forced 2 (by kernel_rfl) ?_
    simp only [List.drop_succ_cons, List.drop_zero, List.take_succ_cons, List.take_zero]
    go_wp2_with (first
      | refine op_store (p := .pointer (some ⟨b6, 0, none⟩)) (C := .agg NC) 98 (.tmp 6) (.tmp 15) rfl rfl rfl rfl rfl s6 ?_
      | refine op_store (p := .pointer (some ⟨b7, 0, none⟩)) (C := .agg ND) 98 (.tmp 7) (.tmp 17) rfl rfl rfl rfl rfl s7 ?_)
    refine rest_done rfl ?_
    clear s6 s7
    generalize (w'.setRow b6 NC).setRow b7 ND = W5 at *
    have l6 := loadAt_blk (T := 98) HB6.out Tryz.underlying98 rfl (by rw [HS.out.2.2.1]; kernel_rfl)
    have l7 := loadAt_blk (T := 98) HB7.out Tryz.underlying98 rfl (by rw [HS.out.2.2.2]; kernel_rfl)
    rcases qe with _ | _
    · go_upto_region 7 with (first
        | (refine op_load (p := .pointer (some ⟨b6, 0, none⟩)) 98 (.tmp 6) rfl rfl rfl l6 ?_; simp only [Act.put, List.setIfInBounds_toArray, List.set_cons_succ, List.set_cons_zero])
        | (refine op_load (p := .pointer (some ⟨b7, 0, none⟩)) 98 (.tmp 7) rfl rfl rfl l7 ?_; simp only [Act.put, List.setIfInBounds_toArray, List.set_cons_succ, List.set_cons_zero])
        | (refine op_bin .eql 98 98 (.tmp 18) (.tmp 19) rfl rfl rfl rfl (by kernel_rfl) (QE.out _) ?_; simp only [Act.put, List.setIfInBounds_toArray, List.set_cons_succ, List.set_cons_zero]))
      clear l6 l7
      refine rest_begin (by kernel_rfl) ?_
      have HB8 : Hid (Blk W5.drew b6 98 NC) := HB6
      have HB9 : Hid (Blk W5.drew b7 98 ND) := HB7
      have HW6 := Lib.hid HW5.out.drew
      clear HB6 HB7 HW5
      generalize W5.drew = W6 at *
      refine rest_quiet (fun w' => ∃ n, w' = W6.drewN n) 2 (by kernel_rfl) ⟨0, rfl⟩ ?_
      simp only [List.take_succ_cons, List.take_zero, List.drop_zero]
      repeat (quiet_step (fail))
      refine wpQuiet_nil ?_
      rintro wq ⟨nq, rfl⟩
      have HW7 := Lib.hid (below_drewN HW6.out nq)
      have SC := HC.out b6 b7 98 (W6.drewN nq) HB8.out HB9.out
      clear HW6 HB8 HB9
      generalize W6.drewN nq = W7 at *
      refine rest_forced 2 (by kernel_rfl) ?_
      go_wp2_with fail
      refine SC.mono ?_
      rintro e w8 ⟨rfl, rfl⟩
      rw [← HD.out]
      go_wp2_with fail
      refine rest_done rfl ?_
      go_wp2_with fail
      go_ret
      exact ⟨rfl, by rw [hp0]; exact HW7.out⟩
    · have HX : Hid (ce = 0) := Lib.hid (by have := EC.out; simpa using this.symm)
      go_wp2_with (first
        | (refine op_load (p := .pointer (some ⟨b6, 0, none⟩)) 98 (.tmp 6) rfl rfl rfl l6 ?_; simp only [Act.put, List.setIfInBounds_toArray, List.set_cons_succ, List.set_cons_zero])
        | (refine op_load (p := .pointer (some ⟨b7, 0, none⟩)) 98 (.tmp 7) rfl rfl rfl l7 ?_; simp only [Act.put, List.setIfInBounds_toArray, List.set_cons_succ, List.set_cons_zero])
        | (refine op_bin .eql 98 98 (.tmp 18) (.tmp 19) rfl rfl rfl rfl (by kernel_rfl) (QE.out _) ?_; simp only [Act.put, List.setIfInBounds_toArray, List.set_cons_succ, List.set_cons_zero]))
      go_ret
      exact ⟨by rw [HX.out]; rfl, by rw [hp0]; exact HW5.out⟩
  · have t1 : (ck != 0) = true := by simp [hc]
    have HX : Hid (ce = ck) := Lib.hid (HK.out hc)
    clear hc HK
    go_wp2_with fail
    go_ret
    exact ⟨by rw [HX.out]; rfl, by rw [hp0]; exact HW3.out⟩
end Go.Proofs.YtpkmibmombpjpaaGreatDoor
