/- Contents that are right: isRight. -/
import Derived.Test.YtpkmibmombpjpaaGreatDoorER
namespace Go.Proofs.YtpkmibmombpjpaaGreatDoor
open Go Go.RowKit

theorem eq_aw (a b c d : Int) (ha : inI a) (hb : inI b) (hc : inI c) (hd : inI d) : ∀ (n : Nat) (w : World), (Op.equalIn (n + 9) 32 (.agg #[.int .i64 a, .int .i64 b]) (.agg #[.int .i64 c, .int .i64 d])).run Tryz.prog w = .ok (decide (a = c ∧ b = d)) w :=
  eq_deep (by kernel_rfl) (by kernel_rfl) (by kernel_rfl) (awKey 7 a b ha hb) (awKey 7 c d hc hd) (by simp)
theorem in0 : inI 0 := ⟨by decide, by decide⟩
def awS (e : En) (k : Nat) : Int := if k = 0 then e.a0 else e.a1
theorem ix_aw (e : En) (k : Nat) (hk : k < 2) (w : World) : (Instr.index 32 (.agg #[.int .i64 e.a0, .int .i64 e.a1]) (.int .i64 (k : Int))).run Tryz.prog w = .ok (.int .i64 (awS e k)) w := by
  rcases (by omega : k = 0 ∨ k = 1) with rfl | rfl
  · show _ = Result.ok (Value.int .i64 e.a0) w
    kernel_rfl
  · show _ = Result.ok (Value.int .i64 e.a1) w
    kernel_rfl
theorem awd_cases {n : Int} (h : awd n = true) : n = 0 ∨ n = 30 ∨ n = 40 ∨ n = 50 ∨ n = 60 ∨ n = 70 ∨ n = 100 := of_decide_eq_true h
theorem awd_not {n : Int} (h : awd n = false) : (n == 0) = false ∧ (n == 30) = false ∧ (n == 40) = false ∧ (n == 50) = false ∧ (n == 60) = false ∧ (n == 70) = false ∧ (n == 100) = false := by
  have := of_decide_eq_false h
  simp only [beq_eq_false_iff_ne, ne_eq]
  omega
theorem rest_yes (e : En) (n : Nat) (h : ∀ i, n ≤ i → i < 4 → (e.ou i).isZ = true) : e.rest n = true := by
  unfold En.rest
  rw [List.all_eq_true]
  intro o ho
  obtain ⟨i, hi⟩ := List.getElem?_of_mem ho
  rw [List.getElem?_drop] at hi
  have hlt : n + i < 4 := (List.getElem?_eq_some_iff.1 hi).1
  rw [e.ou_at _ hlt] at hi
  rw [← Option.some.inj hi]
  exact h _ (by omega) hlt
theorem rest_no (e : En) (n i : Nat) (h1 : n ≤ i) (h2 : i < 4) (h : (e.ou i).isZ = false) : e.rest n = false := by
  unfold En.rest
  rw [List.all_eq_false]
  refine ⟨e.ou i, List.mem_of_getElem? (i := i - n) ?_, by simp [h]⟩
  rw [List.getElem?_drop, show n + (i - n) = i by omega]
  exact e.ou_at i h2
set_option maxRecDepth 100000 in
set_option maxHeartbeats 4000000 in
theorem right_any (e : En) (hi : e.In) (w : World) : Calls Tryz.prog 57 #[.agg (enC e)] w (fun r w' => r = .returned (.bool (rightE e)) ∧ Below w.heap.size w w') := by
  have HR : Hid (rightE e = (decide (e.kd ≤ 4 ∧ e.fd ≤ 3) && ((usedP e).2 && (!(decide ((usedP e).1 = 0) && (decide (e.fd ≠ 0) || e.tn)) && (e.rest (usedP e).1 && (if e.kd = 4 then awd e.a0 && awd e.a1 else decide (e.a0 = 0 ∧ e.a1 = 0))))))) := Lib.hid rfl
  have UA := Lib.hid (fun W => used_any e W)
  have hn4 := used_lt (e := e)
  have HI := Lib.hid hi
  obtain ⟨n, hn⟩ : ∃ n, (usedP e).1 = n := ⟨_, rfl⟩
  obtain ⟨ok, hok⟩ : ∃ ok, (usedP e).2 = ok := ⟨_, rfl⟩
  obtain ⟨R, hR⟩ : ∃ R, rightE e = R := ⟨_, rfl⟩
  obtain ⟨kd, hkd⟩ : ∃ kd, e.kd = kd := ⟨_, rfl⟩
  obtain ⟨fd, hfd⟩ : ∃ fd, e.fd = fd := ⟨_, rfl⟩
  obtain ⟨tn, htn⟩ : ∃ tn, e.tn = tn := ⟨_, rfl⟩
  rw [hn, hok, hR, hkd, hfd, htn] at HR
  rw [hn, hok] at UA
  rw [hn] at hn4
  rw [hR]
  clear hn hok hR hi
  go_enter Tryz.func57, Tryz.ntmps57
  go_upto_region 1 with fail
  have HA := Lib.hid (Blk.new w 34 (enC e))
  have HW := Lib.hid (below1 w (.cells (enC e) 34))
  generalize w.alloc (.cells (enC e) 34) = W1 at *
  generalize hp0 : w.heap.size = p0 at *
  have x4 := HA.out.cell (enC_kd e)
  have x5 := HA.out.cell (enC_fd e)
  rw [hkd] at x4
  rw [hfd] at x5
  have hkd' := hkd
  have hfd' := hfd
  clear hkd hfd
  by_cases hk4 : kd ≤ 4
  · have t1 : decide ((4 : Int) < (kd : Int)) = false := decide_eq_false (by omega)
    by_cases hf3 : fd ≤ 3
    · have t2 : decide ((3 : Int) < (fd : Int)) = false := decide_eq_false (by omega)
      have HR2 : Hid (R = (ok && (!(decide (n = 0) && (decide (fd ≠ 0) || tn)) && (e.rest n && (if kd = 4 then awd e.a0 && awd e.a1 else decide (e.a0 = 0 ∧ e.a1 = 0)))))) := Lib.hid (by rw [HR.out, decide_eq_true ⟨hk4, hf3⟩, Bool.true_and])
      have la := loadAt_blk (T := 34) HA.out Tryz.underlying34 rfl (by rw [enC_size]; kernel_rfl)
      clear HR hf3
      go_wp2_with (refine op_load (p := .pointer (some ⟨p0, 0, none⟩)) 34 (.tmp 1) rfl rfl rfl la ?_)
      refine (UA.out _).mono ?_
      rintro e' w1 ⟨rfl, hb⟩
      have HA2 := Lib.hid (HA.out.keep hb HA.out.lt)
      have HW2 := Lib.hid (HW.out.trans (hb.mono (by have := HW.out.size; omega)))
      clear la hb HA HW x4 x5 t1 t2 UA
      obtain ⟨bad, hbad⟩ : ∃ bad, (!ok || (decide (n = 0) && (decide (fd ≠ 0) || tn))) = bad := ⟨_, rfl⟩
      have HB := Lib.hid hbad
      have x5 := HA2.out.cell (enC_fd e)
      have x6 := HA2.out.cell (enC_tn e)
      have x4 := HA2.out.cell (enC_kd e)
      rw [hkd'] at x4
      rw [hfd'] at x5
      rw [htn] at x6
      go_upto_region 4 with fail
      go_cut [36] (fun s36 wx => s36 = .bool bad ∧ wx = w1)
      case first =>
        clear HR2 HA2 HW2 HI
        rcases ok with _ | _
        · have hX : bad = true := by rw [← hbad]; rfl
          subst hX
          clear hbad
          go_wp2_with fail
          go_meet
          exact ⟨rfl, rfl⟩
        · by_cases hn0 : n = 0
          · have t0 : ((n : Int) == 0) = true := by simp [hn0]
            by_cases hf0 : fd = 0
            · have t1 : ((fd : Int) != 0) = false := by simp [hf0]
              have hX : bad = tn := by rw [← hbad]; simp [hn0, hf0]
              subst hX
              clear hbad hn0 hf0
              rcases bad with _ | _
              · go_wp2_with fail
                go_meet
                exact ⟨rfl, rfl⟩
              · go_wp2_with fail
                go_meet
                exact ⟨rfl, rfl⟩
            · have t1 : ((fd : Int) != 0) = true := by simp [hf0]
              have hX : bad = true := by rw [← hbad]; simp [hn0, hf0]
              subst hX
              clear hbad hn0 hf0
              go_wp2_with fail
              go_meet
              exact ⟨rfl, rfl⟩
          · have t0 : ((n : Int) == 0) = false := by simp [hn0]
            have hX : bad = false := by rw [← hbad]; simp [hn0]
            subst hX
            clear hbad hn0
            go_wp2_with fail
            go_meet
            exact ⟨rfl, rfl⟩
      case rest =>
        obtain ⟨rfl, rfl⟩ := hcut
        clear x5 x6
        rcases bad with _ | _
        · have HR3 : Hid (R = (e.rest n && (if kd = 4 then awd e.a0 && awd e.a1 else decide (e.a0 = 0 ∧ e.a1 = 0)))) := Lib.hid (by
            have h := HB.out
            rw [Bool.or_eq_false_iff] at h
            rw [HR2.out, h.2]
            have : ok = true := by simpa using h.1
            rw [this]; rfl)
          clear HB HR2 hbad
          have sl : ∀ W, (Instr.sliceAt 31 (.pointer (some ⟨p0, 7, none⟩)) (some (.int .i64 (n : Int))) none none).run Tryz.prog W = .ok (.slice (some (if 4 = n then ⟨p0, 7, none⟩ else ⟨p0, 7 + n * 6, none⟩)) (4 - n) (4 - n)) W := fun W =>
            slice_lo (T := 31) (b := p0) (off := 7) (q := n) Tryz.underlying31 (size := 6) (fun w => by kernel_rfl) (by omega) W
          obtain ⟨A0, hA0⟩ : ∃ A0 : Addr, (if 4 = n then (⟨p0, 7, none⟩ : Addr) else ⟨p0, 7 + n * 6, none⟩) = A0 := ⟨_, rfl⟩
          rw [hA0] at sl
          have HA0 : Hid (n < 4 → A0 = ⟨p0, 7 + n * 6, none⟩) := Lib.hid (fun h => by rw [← hA0, if_neg (by omega)])
          obtain ⟨m, hm⟩ : ∃ m, 4 - n = m := ⟨_, rfl⟩
          rw [hm] at sl
          clear hA0
          go_wp2_with fail
          clear sl x4
          go_loopw [41] (fun s41 wr => ∃ k : Nat, k ≤ m ∧ s41 = .int .i64 (k : Int) ∧ Hid (∀ i, n ≤ i → i < n + k → (e.ou i).isZ = true) ∧ Hid (Blk wr p0 34 (enC e)) ∧ Hid (Below p0 w wr)) (fun s41 _ => m - (intOf s41).toNat)
          case atStart => exact ⟨0, by omega, rfl, Lib.hid (fun i h1 h2 => by omega), HA2, HW2⟩
          case round =>
            clear HA2 HW2
            obtain ⟨k, hk, rfl, HZ, HA2, HW2⟩ := hrel
            by_cases hlt : k < m
            · have u1 : decide ((k : Int) < (m : Int)) = true := decide_eq_true (by omega)
              have hA0 := HA0.out (by omega)
              subst hA0
              obtain ⟨c0, c1, c2, c3, c4, c5⟩ := ou_cells HA2.out (n + k) (by omega)
              rw [show 7 + (n + k) * 6 = 7 + n * 6 + k * 6 by omega] at c0 c1 c2 c3 c4 c5
              have i1 : (0 : Int) ≤ (k : Int) := by omega
              have i2 : (k : Int) < (m : Int) := by omega
              have hoi : (e.ou (n + k)).In := outs_in HI.out _ (List.mem_of_getElem? (e.ou_at (n + k) (by omega)))
              have NZ : Hid (∀ W, (binOp .neq 30 (.agg #[.int .u8 ((e.ou (n + k)).lv : Int), .int .u8 ((e.ou (n + k)).dn : Int), .int .u8 ((e.ou (n + k)).rk : Int), .int .u8 ((e.ou (n + k)).dc : Int), .int .i64 (e.ou (n + k)).tr, .int .i64 (e.ou (n + k)).wt]) (.agg #[.int .u8 0, .int .u8 0, .int .u8 0, .int .u8 0, .int .i64 0, .int .i64 0])).run Tryz.prog W = .ok (.bool (!(e.ou (n + k)).isZ)) W) := Lib.hid (fun W => by
                have := neq_deep (eq_ou (e.ou (n + k)) zeroO hoi zeroO_in) W
                rw [eqOu_zero] at this
                exact this)
              have HS : Hid ((e.ou (n + k)).isZ = true → ∀ i, n ≤ i → i < n + (k + 1) → (e.ou i).isZ = true) := Lib.hid (fun h i h1 h2 => by
                by_cases he : i = n + k
                · rw [he]; exact h
                · exact HZ.out i h1 (by omega))
              have HF : Hid ((e.ou (n + k)).isZ = false → R = false) := Lib.hid (fun h => by rw [HR3.out, rest_no e n (n + k) (by omega) (by omega) h]; rfl)
              have e1 : IntKind.i64.wrap ((k : Int) + 1) = ((k + 1 : Nat) : Int) := by rw [show (((k + 1 : Nat) : Int)) = (k : Int) + 1 by omega]; exact IntWalk.i64_in _ (by omega)
              clear hoi HZ
              generalize e.ou (n + k) = o at *
              go_upto_region 9 with fail
              have HO := Lib.hid (Blk.new wr 30 #[.int .u8 (o.lv : Int), .int .u8 (o.dn : Int), .int .u8 (o.rk : Int), .int .u8 (o.dc : Int), .int .i64 o.tr, .int .i64 o.wt])
              have HA3 := Lib.hid (HA2.out.alloc (.cells #[.int .u8 (o.lv : Int), .int .u8 (o.dn : Int), .int .u8 (o.rk : Int), .int .u8 (o.dc : Int), .int .i64 o.tr, .int .i64 o.wt] 30))
              have HW3 := Lib.hid (HW2.out.alloc (by have := HW2.out.size; omega) (.cells #[.int .u8 (o.lv : Int), .int .u8 (o.dn : Int), .int .u8 (o.rk : Int), .int .u8 (o.dc : Int), .int .i64 o.tr, .int .i64 o.wt] 30))
              clear HA2 HW2 c0 c1 c2 c3 c4 c5 i1 i2
              generalize wr.alloc (.cells #[.int .u8 (o.lv : Int), .int .u8 (o.dn : Int), .int .u8 (o.rk : Int), .int .u8 (o.dc : Int), .int .i64 o.tr, .int .i64 o.wt] 30) = W2 at *
              generalize wr.heap.size = p8 at *
              have lo := loadAt_blk (T := 30) HO.out Tryz.underlying30 rfl (by kernel_rfl)
              rcases hz : o.isZ with _ | _
              · have HN : Hid (R = false) := Lib.hid (HF.out hz)
                rw [hz] at NZ
                clear hz HF HS
                go_wp2_with (first
                  | (refine op_load (p := .pointer (some ⟨p8, 0, none⟩)) 30 (.tmp 6) rfl rfl rfl lo ?_; simp only [Act.put, List.setIfInBounds_toArray, List.set_cons_succ, List.set_cons_zero])
                  | (refine op_bin .neq 30 30 (.tmp 45) (.tmp 46) rfl rfl rfl rfl (by kernel_rfl) (NZ.out _) ?_; simp only [Act.put, List.setIfInBounds_toArray, List.set_cons_succ, List.set_cons_zero]))
                go_ret
                exact ⟨by rw [HN.out]; rfl, by first | exact HW3.out | (rw [hp0]; exact HW3.out)⟩
              · have HZ2 := Lib.hid (HS.out hz)
                rw [hz] at NZ
                clear hz HF HS
                go_wp2_with (first
                  | (refine op_load (p := .pointer (some ⟨p8, 0, none⟩)) 30 (.tmp 6) rfl rfl rfl lo ?_; simp only [Act.put, List.setIfInBounds_toArray, List.set_cons_succ, List.set_cons_zero])
                  | (refine op_bin .neq 30 30 (.tmp 45) (.tmp 46) rfl rfl rfl rfl (by kernel_rfl) (NZ.out _) ?_; simp only [Act.put, List.setIfInBounds_toArray, List.set_cons_succ, List.set_cons_zero]))
                go_roundw
                case rel => exact ⟨k + 1, by omega, by simp, HZ2, HA3, HW3⟩
                case measure => simp [intOf]; omega
            · obtain rfl : k = m := by omega
              have u1 : decide ((k : Int) < (k : Int)) = false := decide_eq_false (by omega)
              have HR4 : Hid (R = (if kd = 4 then awd e.a0 && awd e.a1 else decide (e.a0 = 0 ∧ e.a1 = 0))) := Lib.hid (by
                rw [HR3.out, rest_yes e n (fun i h1 h2 => HZ.out i h1 (by omega)), Bool.true_and])
              have y4 := HA2.out.cell (enC_kd e)
              rw [hkd'] at y4
              have a0 := HA2.out.cell (enC_a0 e)
              have a1 := HA2.out.cell (enC_a1 e)
              clear HZ HR3 HA0 hm
              by_cases h4 : kd = 4
              · have t4 : ((kd : Int) != 4) = false := by simp [h4]
                have HR5 : Hid (R = (awd e.a0 && awd e.a1)) := Lib.hid (by rw [HR4.out, if_pos h4])
                have IX := Lib.hid (ix_aw e)
                clear h4 HR4
                go_wp2_with fail
                clear y4 a0 a1 t4
                go_loopw [58] (fun s58 wx => ∃ k : Nat, k ≤ 2 ∧ s58 = .int .i64 (k : Int) ∧ Hid (∀ i, i < k → awd (awS e i) = true) ∧ wx = wr) (fun s58 _ => 2 - (intOf s58).toNat)
                case atStart => exact ⟨0, by omega, rfl, Lib.hid (fun i h => by omega), rfl⟩
                case round =>
                  obtain ⟨k, hk, rfl, HL, rfl⟩ := hrel
                  by_cases hlt : k < 2
                  · have u1 : decide ((k : Int) < 2) = true := decide_eq_true (by omega)
                    have ix := IX.out k hlt
                    have e1 : IntKind.i64.wrap ((k : Int) + 1) = ((k + 1 : Nat) : Int) := by rw [show (((k + 1 : Nat) : Int)) = (k : Int) + 1 by omega]; exact IntWalk.i64_in _ (by omega)
                    have HF : Hid (awd (awS e k) = false → R = false) := Lib.hid (fun h => by
                      rw [HR5.out]
                      rcases (by omega : k = 0 ∨ k = 1) with rfl | rfl
                      · rw [show awd e.a0 = false from h]; rfl
                      · rw [show awd e.a1 = false from h, Bool.and_false])
                    have HN2 : Hid (awd (awS e k) = true → ∀ i, i < k + 1 → awd (awS e i) = true) := Lib.hid (fun h i h1 => by
                      by_cases he : i = k
                      · rw [he]; exact h
                      · exact HL.out i (by omega))
                    rcases hx : awd (awS e k) with _ | _
                    · have HN : Hid (R = false) := Lib.hid (HF.out hx)
                      obtain ⟨t0, t1, t2, t3, t4, t5, t6⟩ := awd_not hx
                      clear hx HF HN2 HL
                      go_wp2_with fail
                      go_ret
                      exact ⟨by rw [HN.out]; rfl, by first | exact HW2.out | (rw [hp0]; exact HW2.out)⟩
                    · have HN := Lib.hid (HN2.out hx)
                      have hc := awd_cases hx
                      clear hx HF HN2 HL
                      rcases hc with h | h | h | h | h | h | h
                      all_goals
                        rw [h] at ix
                        clear h
                        go_wp2_with fail
                        go_roundw
                        case rel => exact ⟨k + 1, by omega, by simp, HN, trivial⟩
                        case measure => simp [intOf]; omega
                  · obtain rfl : k = 2 := by omega
                    have u1 : decide ((2 : Int) < 2) = false := rfl
                    rw [show ((2 : Nat) : Int) = 2 from rfl]
                    have HN : Hid (R = true) := Lib.hid (by
                      rw [HR5.out, show awd e.a0 = true from HL.out 0 (by omega), show awd e.a1 = true from HL.out 1 (by omega)]; rfl)
                    clear IX
                    go_wp2_with fail
                    go_ret
                    exact ⟨by rw [HN.out]; rfl, by first | exact HW2.out | (rw [hp0]; exact HW2.out)⟩
              · have t4 : ((kd : Int) != 4) = true := by simp; omega
                have HR5 : Hid (R = decide (e.a0 = 0 ∧ e.a1 = 0)) := Lib.hid (by rw [HR4.out, if_neg h4])
                have QA := Lib.hid (eql_deep (eq_aw e.a0 e.a1 0 0 HI.out.a0 HI.out.a1 in0 in0))
                clear h4 HR4
                go_wp2_with (refine op_bin .eql 32 32 (.tmp 53) (.tmp 54) rfl rfl rfl rfl (by kernel_rfl) (QA.out _) ?_; simp only [Act.put, List.setIfInBounds_toArray, List.set_cons_succ, List.set_cons_zero])
                go_ret
                exact ⟨by rw [HR5.out]; rfl, by first | exact HW2.out | (rw [hp0]; exact HW2.out)⟩
        · have HN : Hid (R = false) := Lib.hid (by
            have h := HB.out
            rw [HR2.out]
            cases ok
            · rfl
            · have h1 : (decide (n = 0) && (decide (fd ≠ 0) || tn)) = true := by simpa using h
              rw [h1]; rfl)
          clear HB HR2 hbad x4
          go_wp2_with fail
          go_ret
          exact ⟨by rw [HN.out]; rfl, by first | exact HW2.out | (rw [hp0]; exact HW2.out)⟩
    · have t2 : decide ((3 : Int) < (fd : Int)) = true := decide_eq_true (by omega)
      have HN : Hid (R = false) := Lib.hid (by rw [HR.out, decide_eq_false (by omega)]; rfl)
      clear HR hk4 hf3
      go_wp2_with fail
      go_ret
      exact ⟨by rw [HN.out]; rfl, by rw [hp0]; exact HW.out⟩
  · have t1 : decide ((4 : Int) < (kd : Int)) = true := decide_eq_true (by omega)
    have HN : Hid (R = false) := Lib.hid (by rw [HR.out, decide_eq_false (by omega)]; rfl)
    clear HR hk4
    go_wp2_with fail
    go_ret
    exact ⟨by rw [HN.out]; rfl, by rw [hp0]; exact HW.out⟩
end Go.Proofs.YtpkmibmombpjpaaGreatDoor
