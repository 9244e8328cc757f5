/- The reference's rightness: award, nothing, outcome, Right. -/
import Derived.Test.YtpkmibmombpjpaaGreatDoorES
import Derived.Test.YtpkmibmombpjpaaGreatDoorEB
import Derived.Test.YtpkmibmombpjpaaGreatDoorGw
set_option linter.unusedSimpArgs false
namespace Go.Proofs.YtpkmibmombpjpaaGreatDoor
open Go Go.RowKit

set_option maxHeartbeats 1000000 in
theorem raward_any (n : Int) (w : World) : Calls Tryz.prog 88 #[.int .i64 n] w (fun r w' => r = .returned (.bool (awd n)) ∧ w = w') := by
  cases h : awd n with
  | true =>
    go_enter Tryz.func88, Tryz.ntmps88
    rcases awd_cases h with rfl | rfl | rfl | rfl | rfl | rfl | rfl
    all_goals
      clear h
      go_wp2_with fail
      go_ret
      exact ⟨rfl, rfl⟩
  | false =>
    obtain ⟨h0, h1, h2, h3, h4, h5, h6⟩ := awd_not h
    clear h
    go_enter Tryz.func88, Tryz.ntmps88
    go_wp2_with fail
    go_ret
    exact ⟨rfl, rfl⟩
set_option maxHeartbeats 2000000 in
theorem routc_any (o : Ou) (lo hi : Int) (w : World) : Calls Tryz.prog 87 #[ouV o, .int .i64 lo, .int .i64 hi] w (fun e w' => e = .returned (.bool (o.okW lo hi)) ∧ Below w.heap.size w w') := by
  have HP : Hid (o.okW lo hi = (decide (lo ≤ o.wt ∧ o.wt ≤ hi) && (if o.lv = 0 then decide (o.dn = 0 ∧ o.rk = 0 ∧ o.dc = 0 ∧ o.tr = 0) else decide (o.lv ≤ 7 ∧ o.dn ≤ 4 ∧ o.rk ≤ 2 ∧ o.dc ≤ 3 ∧ 0 ≤ o.tr ∧ o.tr ≤ 13)))) := Lib.hid rfl
  unfold ouV
  generalize o.okW lo hi = p at *
  generalize o.lv = a at *
  generalize o.dn = b at *
  generalize o.rk = c at *
  generalize o.dc = d at *
  generalize o.tr = t at *
  generalize o.wt = wt at *
  go_enter Tryz.func87, Tryz.ntmps87
  go_wp2_with fail
  all_goals
    go_ret
    refine ⟨ret_bool ?_, below2 _ _ _⟩
    rw [HP.out]
    clear HP
    grind
theorem ou_load {W : World} {p : Nat} {t : TypeId} {e : En} (h : Blk W p t (enC e)) (k : Nat) (hk : k < 4) : (Instr.loadAt 30 (.pointer (some ⟨p, 7 + k * 6, none⟩))).run Tryz.prog W = .ok (ouV (e.ou k)) W := by
  obtain ⟨c0, c1, c2, c3, c4, c5⟩ := ou_cells h k hk
  refine loadAt_run Tryz.underlying30 rfl (by kernel_rfl) (fun j v hj => ?_)
  match j, hj with
  | 0, hj => cases hj; exact c0
  | 1, hj => cases hj; exact c1
  | 2, hj => cases hj; exact c2
  | 3, hj => cases hj; exact c3
  | 4, hj => cases hj; exact c4
  | 5, hj => cases hj; exact c5
  | j + 6, hj => simp at hj
set_option maxRecDepth 100000 in
set_option maxHeartbeats 4000000 in
theorem rnothing_any (e : En) (hi : e.In) (n : Nat) (hn : n ≤ 4) (w : World) : Calls Tryz.prog 86 #[.agg (enC e), .int .i64 (n : Int)] w (fun r w' => r = .returned (.bool (e.rest n)) ∧ Below w.heap.size w w') := by
  have HI := Lib.hid hi
  clear hi
  go_enter Tryz.func86, Tryz.ntmps86
  have HA := Lib.hid (Blk.new w 34 (enC e))
  have HW := Lib.hid (below1 w (.cells (enC e) 34))
  go_wp2_with fail
  generalize w.alloc (.cells (enC e) 34) = W1 at *
  obtain ⟨p0, hp0⟩ : ∃ p, w.heap.size = p := ⟨_, rfl⟩
  rw [hp0] at HA ⊢
  clear hp0
  go_loopw [5] (fun s5 wr => ∃ k : Nat, n ≤ k ∧ k ≤ 4 ∧ s5 = .int .i64 (k : Int) ∧ Hid (∀ i, n ≤ i → i < k → (e.ou i).isZ = true) ∧ Hid (Blk wr p0 34 (enC e)) ∧ Hid (Below w.heap.size w wr)) (fun s5 _ => 4 - (intOf s5).toNat)
  case atStart => exact ⟨n, Nat.le_refl _, hn, rfl, Lib.hid (fun i h1 h2 => by omega), HA, HW⟩
  case round =>
    clear HA HW
    obtain ⟨k, hk1, hk2, rfl, HZ, HA, HW⟩ := hrel
    by_cases hlt : k < 4
    · have u1 : decide ((k : Int) < 4) = true := decide_eq_true (by omega)
      have i1 : (0 : Int) ≤ (k : Int) := by omega
      have i2 : (k : Int) < 4 := by omega
      have i3 : ¬ (4 : Int) ≤ (k : Int) := by omega
      have i4 : ¬ 4 ≤ k := by omega
      have e1 : IntKind.i64.wrap ((k : Int) + 1) = ((k + 1 : Nat) : Int) := by rw [show (((k + 1 : Nat) : Int)) = (k : Int) + 1 by omega]; exact IntWalk.i64_in _ (by omega)
      have lo := ou_load HA.out k hlt
      have NZ : Hid (∀ W, (binOp .neq 30 (ouV (e.ou k)) (.agg #[.int .u8 0, .int .u8 0, .int .u8 0, .int .u8 0, .int .i64 0, .int .i64 0])).run Tryz.prog W = .ok (.bool (!(e.ou k).isZ)) W) := Lib.hid (fun W => by
        have := neq_deep (eq_ou (e.ou k) zeroO (outs_in HI.out _ (List.mem_of_getElem? (e.ou_at k hlt))) zeroO_in) W
        rw [eqOu_zero] at this
        exact this)
      have HF : Hid ((e.ou k).isZ = false → e.rest n = false) := Lib.hid (fun h => rest_no e n k hk1 hlt h)
      have HS : Hid ((e.ou k).isZ = true → ∀ i, n ≤ i → i < k + 1 → (e.ou i).isZ = true) := Lib.hid (fun h i h1 h2 => by
        by_cases he : i = k
        · rw [he]; exact h
        · exact HZ.out i h1 (by omega))
      clear HZ
      generalize e.ou k = o at *
      unfold ouV at lo NZ
      rcases hz : o.isZ with _ | _
      · have HN := Lib.hid (HF.out hz)
        rw [hz] at NZ
        clear hz HF HS
        go_wp2_with (first
          | (guard_target =~ wpList _ _ _ (⟨some 14, _, _, _, _, _⟩ :: _) _ _; refine op_load (p := .pointer (some ⟨p0, 7 + k * 6, none⟩)) 30 (.tmp 13) rfl rfl rfl lo ?_)
          | (guard_target =~ wpList _ _ _ (⟨some 16, _, _, _, _, _⟩ :: _) _ _; refine op_bin .neq 30 30 (.tmp 14) (.tmp 15) rfl rfl rfl rfl (by kernel_rfl) (NZ.out _) ?_))
        go_ret
        exact ⟨by rw [HN.out]; rfl, HW.out⟩
      · have HZ2 := Lib.hid (HS.out hz)
        rw [hz] at NZ
        clear hz HF HS
        go_wp2_with (first
          | (guard_target =~ wpList _ _ _ (⟨some 14, _, _, _, _, _⟩ :: _) _ _; refine op_load (p := .pointer (some ⟨p0, 7 + k * 6, none⟩)) 30 (.tmp 13) rfl rfl rfl lo ?_)
          | (guard_target =~ wpList _ _ _ (⟨some 16, _, _, _, _, _⟩ :: _) _ _; refine op_bin .neq 30 30 (.tmp 14) (.tmp 15) rfl rfl rfl rfl (by kernel_rfl) (NZ.out _) ?_))
        go_roundw
        case rel => exact ⟨k + 1, by omega, by omega, by simp, HZ2, HA, HW⟩
        case measure => simp [intOf]; omega
    · obtain rfl : k = 4 := by omega
      have HR := Lib.hid (rest_yes e n (fun i h1 h2 => HZ.out i h1 h2))
      clear HZ hlt
      rw [show ((4 : Nat) : Int) = 4 from rfl]
      go_wp2_with fail
      go_ret
      exact ⟨by rw [HR.out]; rfl, HW.out⟩
/-- From n outcomes on. -/
def wfrom (e : En) (n : Nat) : Bool := (List.range' n (5 - n)).any (wok e)
theorem wfrom_step (e : En) {n : Nat} (h : n < 5) : wfrom e n = (wok e n || wfrom e (n + 1)) := by
  unfold wfrom
  rw [show 5 - n = (5 - (n + 1)) + 1 by omega, List.range'_succ]
  rfl
theorem wfrom_end (e : En) : wfrom e 5 = false := rfl
theorem wfrom_two (e : En) : wfrom e 2 = (wok e 2 || (wok e 3 || wok e 4)) := by
  rw [wfrom_step e (by omega), wfrom_step e (by omega), wfrom_step e (by omega), wfrom_end, Bool.or_false]
/-- The weights of some outcomes, one more. -/
def wsum (e : En) (k : Nat) : Int := ((e.outs.take k).map Ou.wt).sum
def wall (e : En) (k : Nat) : Bool := (e.outs.take k).all (fun o => o.okW 1 99)
theorem wtake (e : En) {k : Nat} (h : k < 4) : e.outs.take (k + 1) = e.outs.take k ++ [e.ou k] := by
  rw [List.take_add_one, e.ou_at k h]; rfl
theorem wsum_step (e : En) {k : Nat} (h : k < 4) : wsum e (k + 1) = wsum e k + (e.ou k).wt := by
  unfold wsum
  rw [wtake e h, List.map_append, List.sum_append]; simp
theorem wall_step (e : En) {k : Nat} (h : k < 4) : wall e (k + 1) = (wall e k && (e.ou k).okW 1 99) := by
  unfold wall
  rw [wtake e h, List.all_append]; simp
theorem okW_le {o : Ou} (h : o.okW 1 99 = true) : 1 ≤ o.wt ∧ o.wt ≤ 99 := by
  unfold Ou.okW at h
  rw [Bool.and_eq_true, decide_eq_true_eq] at h
  exact h.1
theorem wsum_le (e : En) : ∀ (k : Nat), k ≤ 4 → wall e k = true → 0 ≤ wsum e k ∧ wsum e k ≤ 99 * (k : Int)
  | 0, _, _ => by simp [wsum]
  | k + 1, h, ha => by
    rw [wall_step e (by omega), Bool.and_eq_true] at ha
    have ih := wsum_le e k (by omega) ha.1
    have h1 := okW_le ha.2
    rw [wsum_step e (by omega)]
    omega
theorem wok_eq (e : En) (n : Nat) : wok e n = (wall e n && (decide (wsum e n = 100) && e.rest n)) := rfl
theorem rightR_parts (e : En) : rightR e = if e.fd > 3 ∨ (e.kd ≠ 4 ∧ (e.a0 ≠ 0 ∨ e.a1 ≠ 0)) then false
  else if e.kd = 0 then decide (e.fd = 0) && (!e.tn && e.rest 0)
  else if e.kd = 1 then e.o0.okW 0 0 && e.rest 1
  else if e.kd = 2 then wfrom e 2
  else if e.kd = 3 then e.o0.okW 0 0 && (e.o1.okW 0 0 && e.rest 2)
  else if e.kd = 4 then decide (e.fd = 0) && (!e.tn && (e.rest 0 && (awd e.a0 && awd e.a1)))
  else false := by rw [wfrom_two]; rfl
set_option maxRecDepth 100000 in
set_option maxHeartbeats 8000000 in
theorem rright_any (e : En) (hi : e.In) (w : World) : Calls Tryz.prog 51 #[.agg (enC e)] w (fun r w' => r = .returned (.bool (rightE e)) ∧ Below w.heap.size w w') := by
  rw [← right_eq]
  have HR := Lib.hid (rightR_parts e)
  have HI := Lib.hid hi
  have NO := Lib.hid (fun n hn W => rnothing_any e hi n hn W)
  have OC := Lib.hid routc_any
  obtain ⟨R, hR⟩ : ∃ R, rightR e = R := ⟨_, rfl⟩
  obtain ⟨kd, hkd⟩ : ∃ kd, e.kd = kd := ⟨_, rfl⟩
  obtain ⟨fd, hfd⟩ : ∃ fd, e.fd = fd := ⟨_, rfl⟩
  obtain ⟨tn, htn⟩ : ∃ tn, e.tn = tn := ⟨_, rfl⟩
  obtain ⟨a0, ha0⟩ : ∃ a0, e.a0 = a0 := ⟨_, rfl⟩
  obtain ⟨a1, ha1⟩ : ∃ a1, e.a1 = a1 := ⟨_, rfl⟩
  rw [hR, hkd, hfd, htn, ha0, ha1] at HR
  rw [hR]
  clear hi hR
  go_enter Tryz.func51, Tryz.ntmps51
  have HA := Lib.hid (Blk.new w 34 (enC e))
  have HW := Lib.hid (below1 w (.cells (enC e) 34))
  go_upto_region 1 with fail
  generalize w.alloc (.cells (enC e) 34) = W1 at *
  obtain ⟨p0, hp0⟩ : ∃ p, w.heap.size = p := ⟨_, rfl⟩
  rw [hp0] at HA ⊢
  clear hp0
  have x4 := HA.out.cell (enC_kd e)
  have x5 := HA.out.cell (enC_fd e)
  have x6 := HA.out.cell (enC_tn e)
  have x31 := HA.out.cell (enC_a0 e)
  have x32 := HA.out.cell (enC_a1 e)
  rw [hkd] at x4
  rw [hfd] at x5
  rw [htn] at x6
  rw [ha0] at x31
  rw [ha1] at x32
  clear hkd hfd htn ha0 ha1
  obtain ⟨bad, hbad⟩ : ∃ bad, decide (fd > 3 ∨ (kd ≠ 4 ∧ (a0 ≠ 0 ∨ a1 ≠ 0))) = bad := ⟨_, rfl⟩
  have HB := Lib.hid hbad
  clear hbad
  go_cut [26] (fun s26 wx => s26 = .bool bad ∧ wx = W1)
  case first =>
    clear HR NO OC HI
    go_wp2_with fail
    all_goals
      go_meet
      refine ⟨?_, rfl⟩
      congr 1
      rw [← HB.out]
      clear HB
      grind
  case rest =>
    obtain ⟨rfl, rfl⟩ := hcut
    have la := fun (W : World) (h : Blk W p0 34 (enC e)) => loadAt_blk (T := 34) h Tryz.underlying34 rfl (by rw [enC_size]; kernel_rfl)
    rcases bad with _ | _
    · have hb := of_decide_eq_false HB.out
      rw [if_neg hb] at HR
      clear HB hb
      by_cases k0 : kd = 0
      · subst k0
        rw [if_pos rfl] at HR
        clear OC x31 x32
        have N0 := Lib.hid (fun W => NO.out 0 (by omega) W)
        have l0 := la _ HA.out
        by_cases f0 : fd = 0
        · have t1 : ((fd : Int) == 0) = true := by simp [f0]
          rcases tn with _ | _
          · have HN : Hid (R = e.rest 0) := Lib.hid (by rw [HR.out, f0]; simp)
            clear HR f0
            go_wp2_with (guard_target =~ wpList _ _ _ (⟨some 40, _, _, _, _, _⟩ :: _) _ _; refine op_load_w (p := .pointer (some ⟨p0, 0, none⟩)) (C := .agg (enC e)) 34 (.tmp 1) (by kernel_rfl) rfl rfl l0 ?_)
            refine (N0.out _).mono ?_
            rintro x w2 ⟨rfl, hb⟩
            have HW2 := Lib.hid (HW.out.trans (hb.mono HW.out.size))
            clear hb HA
            go_wp2_with fail
            go_ret
            exact ⟨by rw [HN.out]; rfl, HW2.out⟩
          · have HN : Hid (R = false) := Lib.hid (by rw [HR.out]; simp)
            clear HR f0
            go_wp2_with fail
            go_ret
            exact ⟨by rw [HN.out]; rfl, HW.out⟩
        · have t1 : ((fd : Int) == 0) = false := by simp [f0]
          have HN : Hid (R = false) := Lib.hid (by rw [HR.out]; simp [f0])
          clear HR f0
          go_wp2_with fail
          go_ret
          exact ⟨by rw [HN.out]; rfl, HW.out⟩
      · rw [if_neg k0] at HR
        have u0 : ((kd : Int) == 0) = false := by simp [k0]
        clear k0
        by_cases k1 : kd = 1
        · subst k1
          rw [if_pos rfl] at HR
          clear x5 x6 x31 x32 u0
          have N1 := Lib.hid (fun W => NO.out 1 (by omega) W)
          have lo0 : (Instr.loadAt 30 (.pointer (some ⟨p0, 7, none⟩))).run Tryz.prog wc = .ok (ouV e.o0) wc := ou_load HA.out 0 (by omega)
          have O0 := Lib.hid (OC.out e.o0 0 0)
          go_wp2_with (guard_target =~ wpList _ _ _ (⟨some 47, _, _, _, _, _⟩ :: _) _ _; refine op_load (p := .pointer (some ⟨p0, 7, none⟩)) (C := ouV e.o0) 30 (.tmp 46) rfl rfl rfl lo0 ?_)
          refine (O0.out _).mono ?_
          rintro x w2 ⟨rfl, hb⟩
          have HA2 := Lib.hid (HA.out.keep hb HA.out.lt)
          have HW2 := Lib.hid (HW.out.trans (hb.mono HW.out.size))
          have l0 := la _ HA2.out
          clear hb HA HW lo0 x4 O0
          obtain ⟨q, hq⟩ : ∃ q, e.o0.okW 0 0 = q := ⟨_, rfl⟩
          rw [hq] at HR ⊢
          clear hq
          rcases q with _ | _
          · go_wp2_with fail
            go_ret
            exact ⟨by rw [HR.out]; rfl, HW2.out⟩
          · go_wp2_with (guard_target =~ wpList _ _ _ (⟨some 50, _, _, _, _, _⟩ :: _) _ _; refine op_load_w (p := .pointer (some ⟨p0, 0, none⟩)) (C := .agg (enC e)) 34 (.tmp 1) (by kernel_rfl) rfl rfl l0 ?_)
            refine (N1.out _).mono ?_
            rintro x w3 ⟨rfl, hb⟩
            have HW3 := Lib.hid (HW2.out.trans (hb.mono HW2.out.size))
            clear hb HA2
            go_wp2_with fail
            go_ret
            exact ⟨by rw [HR.out]; rfl, HW3.out⟩
        · rw [if_neg k1] at HR
          have u1 : ((kd : Int) == 1) = false := by simp; omega
          clear k1
          by_cases k2 : kd = 2
          · subst k2
            rw [if_pos rfl] at HR
            clear x5 x6 x31 x32 u0 u1
            go_wp2_with fail
            clear x4
            go_loopw [3] (fun s3 wr => ∃ n : Nat, 2 ≤ n ∧ n ≤ 5 ∧ s3 = .int .i64 (n : Int) ∧ Hid (R = wfrom e n) ∧ Hid (Blk wr p0 34 (enC e)) ∧ Hid (Below w.heap.size w wr)) (fun s3 _ => 5 - (intOf s3).toNat)
            case atStart => exact ⟨2, by omega, by omega, rfl, HR, HA, HW⟩
            case round =>
              clear HR HA HW
              obtain ⟨n, hn2, hn5, rfl, HR, HA, HW⟩ := hrel
              by_cases hlt : n ≤ 4
              · have v1 : decide ((n : Int) ≤ 4) = true := decide_eq_true (by omega)
                have en1 : IntKind.i64.wrap ((n : Int) + 1) = ((n + 1 : Nat) : Int) := by rw [show (((n + 1 : Nat) : Int)) = (n : Int) + 1 by omega]; exact IntWalk.i64_in _ (by omega)
                have HS := Lib.hid (wfrom_step e (show n < 5 by omega))
                go_wp2_with fail
                go_loopw [4, 5, 6] (fun s4 s5 s6 wr => ∃ (k : Nat) (S : Int), k ≤ n ∧ s6 = .int .i64 (k : Int) ∧ s4 = .int .i64 S ∧ s5 = .bool (wall e k) ∧ Hid (wall e k = true → S = wsum e k) ∧ Hid (Blk wr p0 34 (enC e)) ∧ Hid (Below w.heap.size w wr)) (fun _ _ s6 _ => n - (intOf s6).toNat)
                case atStart => exact ⟨0, 0, by omega, rfl, rfl, rfl, Lib.hid (fun _ => rfl), HA, HW⟩
                case round =>
                  clear HA HW
                  obtain ⟨k, S, hk, rfl, rfl, rfl, HQ, HA, HW⟩ := hrel
                  by_cases hkn : k < n
                  · have v2 : decide ((k : Int) < (n : Int)) = true := decide_eq_true (by omega)
                    have ek1 : IntKind.i64.wrap ((k : Int) + 1) = ((k + 1 : Nat) : Int) := by rw [show (((k + 1 : Nat) : Int)) = (k : Int) + 1 by omega]; exact IntWalk.i64_in _ (by omega)
                    have j0 : (0 : Int) ≤ (k : Int) := by omega
                    have j1 : (k : Int) < 4 := by omega
                    have j2 : ¬ (4 : Int) ≤ (k : Int) := by omega
                    have j3 : ¬ 4 ≤ k := by omega
                    have lo := ou_load HA.out k (by omega)
                    have O1 := Lib.hid (OC.out (e.ou k) 1 99)
                    have HAL := Lib.hid (wall_step e (show k < 4 by omega))
                    have HSM := Lib.hid (wsum_step e (show k < 4 by omega))
                    have HLE := Lib.hid (wsum_le e (k + 1) (by omega))
                    obtain ⟨al, hal⟩ : ∃ al, wall e k = al := ⟨_, rfl⟩
                    rw [hal] at HAL HQ ⊢
                    clear hal
                    rcases al with _ | _
                    · have c5 := (ou_cells HA.out k (by omega)).2.2.2.2.2
                      have HN : Hid (wall e (k + 1) = false) := Lib.hid (by rw [HAL.out]; rfl)
                      clear HAL HSM HLE HQ O1 lo
                      go_wp2_with fail
                      go_roundw
                      case rel => exact ⟨k + 1, _, by omega, by simp, rfl, by rw [HN.out], Lib.hid (fun h => by rw [HN.out] at h; cases h), HA, HW⟩
                      case measure => simp [intOf]; omega
                    · go_wp2_with (guard_target =~ wpList _ _ _ (⟨some 69, _, _, _, _, _⟩ :: _) _ _; refine op_load_w (p := .pointer (some ⟨p0, 7 + k * 6, none⟩)) (C := ouV (e.ou k)) 30 (.tmp 68) (by kernel_rfl) rfl rfl lo ?_)
                      refine (O1.out _).mono ?_
                      rintro x w2 ⟨rfl, hb⟩
                      have HA2 := Lib.hid (HA.out.keep hb HA.out.lt)
                      have HW2 := Lib.hid (HW.out.trans (hb.mono HW.out.size))
                      have c5 := (ou_cells HA2.out k (by omega)).2.2.2.2.2
                      have HN : Hid (wall e (k + 1) = (e.ou k).okW 1 99) := Lib.hid (by rw [HAL.out]; rfl)
                      have HQ2 : Hid (wall e (k + 1) = true → wrap64 (S + (e.ou k).wt) = wsum e (k + 1)) := Lib.hid (fun h => by
                        rw [HQ.out (by first | exact rfl | trivial), ← HSM.out]
                        have := HLE.out h
                        unfold wrap64
                        omega)
                      clear hb HA HW lo O1 HAL HSM HLE HQ
                      generalize e.ou k = o at *
                      go_wp2_with fail
                      go_roundw
                      case rel => exact ⟨k + 1, _, by omega, by simp, rfl, by rw [HN.out], HQ2, HA2, HW2⟩
                      case measure => simp [intOf]; omega
                  · obtain rfl : k = n := by omega
                    have v2 : decide ((k : Int) < (k : Int)) = false := decide_eq_false (by omega)
                    have HWK := Lib.hid (wok_eq e k)
                    have N2 := Lib.hid (fun W => NO.out k (by omega) W)
                    have l0 := la _ HA.out
                    rw [HS.out] at HR
                    clear HS hkn hk
                    obtain ⟨al, hal⟩ : ∃ al, wall e k = al := ⟨_, rfl⟩
                    rw [hal] at HQ HWK ⊢
                    clear hal
                    rcases al with _ | _
                    · have HR2 : Hid (R = wfrom e (k + 1)) := Lib.hid (by rw [HR.out, HWK.out]; rfl)
                      clear HR HWK HQ l0
                      go_wp2_with fail
                      go_roundw
                      case rel => exact ⟨k + 1, by omega, by omega, by simp, HR2, HA, HW⟩
                      case measure => simp [intOf]; omega
                    · have hS := HQ.out (by first | exact rfl | trivial)
                      by_cases h100 : S = 100
                      · have v3 : (S == 100) = true := by simp [h100]
                        have HR2 : Hid (R = (e.rest k || wfrom e (k + 1))) := Lib.hid (by rw [HR.out, HWK.out, ← hS, h100]; simp)
                        clear HR HWK HQ hS h100
                        go_wp2_with (guard_target =~ wpList _ _ _ (⟨some 85, _, _, _, _, _⟩ :: _) _ _; refine op_load_w (p := .pointer (some ⟨p0, 0, none⟩)) (C := .agg (enC e)) 34 (.tmp 1) (by kernel_rfl) rfl rfl l0 ?_)
                        refine (N2.out _).mono ?_
                        rintro x w2 ⟨rfl, hb⟩
                        have HA2 := Lib.hid (HA.out.keep hb HA.out.lt)
                        have HW2 := Lib.hid (HW.out.trans (hb.mono HW.out.size))
                        clear hb HA HW l0 N2
                        obtain ⟨q, hq⟩ : ∃ q, e.rest k = q := ⟨_, rfl⟩
                        rw [hq] at HR2 ⊢
                        clear hq
                        rcases q with _ | _
                        · have HR3 : Hid (R = wfrom e (k + 1)) := Lib.hid (by rw [HR2.out]; rfl)
                          clear HR2
                          go_wp2_with fail
                          go_roundw
                          case rel => exact ⟨k + 1, by omega, by omega, by simp, HR3, HA2, HW2⟩
                          case measure => simp [intOf]; omega
                        · go_wp2_with fail
                          go_ret
                          exact ⟨by rw [HR2.out]; rfl, HW2.out⟩
                      · have v3 : (S == 100) = false := by simp [h100]
                        have HR2 : Hid (R = wfrom e (k + 1)) := Lib.hid (by rw [HR.out, HWK.out, ← hS]; simp [h100])
                        clear HR HWK HQ hS h100 l0
                        go_wp2_with fail
                        go_roundw
                        case rel => exact ⟨k + 1, by omega, by omega, by simp, HR2, HA, HW⟩
                        case measure => simp [intOf]; omega
              · obtain rfl : n = 5 := by omega
                clear hlt
                rw [show ((5 : Nat) : Int) = 5 from rfl]
                go_wp2_with fail
                go_ret
                exact ⟨by rw [HR.out]; rfl, HW.out⟩
          · rw [if_neg k2] at HR
            have u2 : ((kd : Int) == 2) = false := by simp; omega
            clear k2
            by_cases k3 : kd = 3
            · subst k3
              rw [if_pos rfl] at HR
              clear x5 x6 x31 x32 u0 u1 u2
              have N2 := Lib.hid (fun W => NO.out 2 (by omega) W)
              have lo0 : (Instr.loadAt 30 (.pointer (some ⟨p0, 7, none⟩))).run Tryz.prog wc = .ok (ouV e.o0) wc := ou_load HA.out 0 (by omega)
              have O0 := Lib.hid (OC.out e.o0 0 0)
              have O1 := Lib.hid (OC.out e.o1 0 0)
              go_wp2_with (guard_target =~ wpList _ _ _ (⟨some 93, _, _, _, _, _⟩ :: _) _ _; refine op_load (p := .pointer (some ⟨p0, 7, none⟩)) (C := ouV e.o0) 30 (.tmp 92) rfl rfl rfl lo0 ?_)
              refine (O0.out _).mono ?_
              rintro x w2 ⟨rfl, hb⟩
              have HA2 := Lib.hid (HA.out.keep hb HA.out.lt)
              have HW2 := Lib.hid (HW.out.trans (hb.mono HW.out.size))
              have lo1 : (Instr.loadAt 30 (.pointer (some ⟨p0, 13, none⟩))).run Tryz.prog w2 = .ok (ouV e.o1) w2 := ou_load HA2.out 1 (by omega)
              clear hb HA HW lo0 x4 O0
              obtain ⟨q, hq⟩ : ∃ q, e.o0.okW 0 0 = q := ⟨_, rfl⟩
              rw [hq] at HR ⊢
              clear hq
              rcases q with _ | _
              · go_wp2_with fail
                go_ret
                exact ⟨by rw [HR.out]; rfl, HW2.out⟩
              · go_wp2_with (guard_target =~ wpList _ _ _ (⟨some 98, _, _, _, _, _⟩ :: _) _ _; refine op_load_w (p := .pointer (some ⟨p0, 13, none⟩)) (C := ouV e.o1) 30 (.tmp 97) (by kernel_rfl) rfl rfl lo1 ?_)
                refine (O1.out _).mono ?_
                rintro x w3 ⟨rfl, hb⟩
                have HA3 := Lib.hid (HA2.out.keep hb HA2.out.lt)
                have HW3 := Lib.hid (HW2.out.trans (hb.mono HW2.out.size))
                have l0 := la _ HA3.out
                clear hb HA2 HW2 lo1 O1
                obtain ⟨q, hq⟩ : ∃ q, e.o1.okW 0 0 = q := ⟨_, rfl⟩
                rw [hq] at HR ⊢
                clear hq
                rcases q with _ | _
                · go_wp2_with fail
                  go_ret
                  exact ⟨by rw [HR.out]; rfl, HW3.out⟩
                · go_wp2_with (guard_target =~ wpList _ _ _ (⟨some 102, _, _, _, _, _⟩ :: _) _ _; refine op_load_w (p := .pointer (some ⟨p0, 0, none⟩)) (C := .agg (enC e)) 34 (.tmp 1) (by kernel_rfl) rfl rfl l0 ?_)
                  refine (N2.out _).mono ?_
                  rintro x w4 ⟨rfl, hb⟩
                  have HW4 := Lib.hid (HW3.out.trans (hb.mono HW3.out.size))
                  clear hb HA3
                  go_wp2_with fail
                  go_ret
                  exact ⟨by rw [HR.out]; rfl, HW4.out⟩
            · rw [if_neg k3] at HR
              have u3 : ((kd : Int) == 3) = false := by simp; omega
              clear k3
              by_cases k4 : kd = 4
              · subst k4
                rw [if_pos rfl] at HR
                clear OC u0 u1 u2 u3
                have N0 := Lib.hid (fun W => NO.out 0 (by omega) W)
                have l0 := la _ HA.out
                have A0 := Lib.hid (fun W => raward_any a0 W)
                have A1 := Lib.hid (fun W => raward_any a1 W)
                by_cases f0 : fd = 0
                · have t1 : ((fd : Int) == 0) = true := by simp [f0]
                  rcases tn with _ | _
                  · have HN : Hid (R = (e.rest 0 && (awd a0 && awd a1))) := Lib.hid (by rw [HR.out, f0]; simp)
                    have HC := Lib.hid (And.intro x31 x32)
                    clear HR f0 x31 x32
                    go_wp2_with (guard_target =~ wpList _ _ _ (⟨some 116, _, _, _, _, _⟩ :: _) _ _; refine op_load_w (p := .pointer (some ⟨p0, 0, none⟩)) (C := .agg (enC e)) 34 (.tmp 1) (by kernel_rfl) rfl rfl l0 ?_)
                    refine (N0.out _).mono ?_
                    rintro x w2 ⟨rfl, hb⟩
                    have HW2 := Lib.hid (HW.out.trans (hb.mono HW.out.size))
                    have x31 := (hb.cell (p := ⟨p0, 31, none⟩) HA.out.lt).trans HC.out.1
                    have x32 := (hb.cell (p := ⟨p0, 32, none⟩) HA.out.lt).trans HC.out.2
                    clear hb HA HC x4 x5 x6 l0 N0
                    obtain ⟨q, hq⟩ : ∃ q, e.rest 0 = q := ⟨_, rfl⟩
                    rw [hq] at HN ⊢
                    clear hq
                    rcases q with _ | _
                    · go_wp2_with fail
                      go_ret
                      exact ⟨by rw [HN.out]; rfl, HW2.out⟩
                    · go_wp2_with fail
                      refine (A0.out _).mono ?_
                      rintro x w3 ⟨rfl, rfl⟩
                      obtain ⟨q, hq⟩ : ∃ q, awd a0 = q := ⟨_, rfl⟩
                      rw [hq] at HN ⊢
                      clear hq
                      rcases q with _ | _
                      · go_wp2_with fail
                        go_ret
                        exact ⟨by rw [HN.out]; rfl, HW2.out⟩
                      · go_wp2_with fail
                        refine (A1.out _).mono ?_
                        rintro x w3 ⟨rfl, rfl⟩
                        go_wp2_with fail
                        go_ret
                        exact ⟨by rw [HN.out]; rfl, HW2.out⟩
                  · have HN : Hid (R = false) := Lib.hid (by rw [HR.out]; simp)
                    clear HR f0
                    go_wp2_with fail
                    go_ret
                    exact ⟨by rw [HN.out]; rfl, HW.out⟩
                · have t1 : ((fd : Int) == 0) = false := by simp [f0]
                  have HN : Hid (R = false) := Lib.hid (by rw [HR.out]; simp [f0])
                  clear HR f0
                  go_wp2_with fail
                  go_ret
                  exact ⟨by rw [HN.out]; rfl, HW.out⟩
              · rw [if_neg k4] at HR
                have u4 : ((kd : Int) == 4) = false := by simp; omega
                clear k4
                go_wp2_with fail
                go_ret
                exact ⟨by rw [HR.out]; rfl, HW.out⟩
    · have hb := of_decide_eq_true HB.out
      rw [if_pos hb] at HR
      clear HB hb x4 x5 x6 x31 x32
      go_wp2_with fail
      go_ret
      exact ⟨by rw [HR.out]; rfl, HW.out⟩
end Go.Proofs.YtpkmibmombpjpaaGreatDoor
