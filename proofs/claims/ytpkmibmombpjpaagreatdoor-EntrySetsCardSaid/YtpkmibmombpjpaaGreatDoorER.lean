/- Contents that are right: played, used, isRight. -/
import Derived.Test.YtpkmibmombpjpaaGreatDoorEQ
namespace Go.Proofs.YtpkmibmombpjpaaGreatDoor
open Go Go.RowKit

theorem below2 (w : World) (a b : Obj) : Below w.heap.size w ((w.alloc a).alloc b) := (below1 w a).alloc (by simp) b
set_option maxHeartbeats 1000000 in
theorem played_any (o : Ou) (w : World) : Calls Tryz.prog 92 #[.agg #[.int .u8 (o.lv : Int), .int .u8 (o.dn : Int), .int .u8 (o.rk : Int), .int .u8 (o.dc : Int), .int .i64 o.tr, .int .i64 o.wt]] w (fun e w' => e = .returned (.bool o.pl) ∧ Below w.heap.size w w') := by
  have HP : Hid (o.pl = if o.lv = 0 then decide (o.dn = 0 ∧ o.rk = 0 ∧ o.dc = 0 ∧ o.tr = 0) else decide (o.lv ≤ 7 ∧ o.dn ≤ 4 ∧ o.rk ≤ 2 ∧ o.dc ≤ 3 ∧ 0 ≤ o.tr ∧ o.tr ≤ 13)) := Lib.hid rfl
  generalize o.pl = p at *
  generalize o.lv = a at *
  generalize o.dn = b at *
  generalize o.rk = c at *
  generalize o.dc = d at *
  generalize o.tr = t at *
  go_enter Tryz.func92, Tryz.ntmps92
  go_wp2_with fail
  all_goals
    go_ret
    refine ⟨ret_bool ?_, below2 _ _ _⟩
    rw [HP.out]
    clear HP
    grind
theorem ou_cells {W : World} {p : Nat} {t : TypeId} {e : En} (h : Blk W p t (enC e)) (k : Nat) (hk : k < 4) :
    W.cell? ⟨p, 7 + k * 6, none⟩ = some (.int .u8 ((e.ou k).lv : Int)) ∧ W.cell? ⟨p, 7 + k * 6 + 1, none⟩ = some (.int .u8 ((e.ou k).dn : Int)) ∧ W.cell? ⟨p, 7 + k * 6 + 2, none⟩ = some (.int .u8 ((e.ou k).rk : Int)) ∧ W.cell? ⟨p, 7 + k * 6 + 3, none⟩ = some (.int .u8 ((e.ou k).dc : Int)) ∧ W.cell? ⟨p, 7 + k * 6 + 4, none⟩ = some (.int .i64 (e.ou k).tr) ∧ W.cell? ⟨p, 7 + k * 6 + 5, none⟩ = some (.int .i64 (e.ou k).wt) := by
  obtain ⟨h0, h1, h2, h3, h4, h5⟩ := enC_ou e k hk
  rw [show 7 + k * 6 = 7 + 6 * k by omega, show 7 + 6 * k + 1 = 8 + 6 * k by omega, show 7 + 6 * k + 2 = 9 + 6 * k by omega, show 7 + 6 * k + 3 = 10 + 6 * k by omega, show 7 + 6 * k + 4 = 11 + 6 * k by omega, show 7 + 6 * k + 5 = 12 + 6 * k by omega]
  exact ⟨h.cell h0, h.cell h1, h.cell h2, h.cell h3, h.cell h4, h.cell h5⟩
theorem wgo_cons (o : Ou) (l : List Ou) (n : Nat) (s : Int) : wgo (o :: l) n s = if o.wt = 0 then (n, decide (2 ≤ n ∧ s = 100)) else if o.okW 1 99 then wgo l (n + 1) (s + o.wt) else (0, false) := rfl
theorem outs_drop (e : En) (k : Nat) (hk : k < 4) : e.outs.drop k = e.ou k :: e.outs.drop (k + 1) := by
  rcases (by omega : k = 0 ∨ k = 1 ∨ k = 2 ∨ k = 3) with rfl | rfl | rfl | rfl <;> rfl
set_option maxRecDepth 100000 in
set_option maxHeartbeats 4000000 in
theorem used_any (e : En) (w : World) : Calls Tryz.prog 59 #[.agg (enC e)] w (fun r w' => r = .returned (.tuple #[.int .i64 ((usedP e).1 : Nat), .bool (usedP e).2]) ∧ Below w.heap.size w w') := by
  obtain ⟨U, hU⟩ : ∃ U, usedP e = U := ⟨_, rfl⟩
  obtain ⟨kd, hk⟩ : ∃ kd, e.kd = kd := ⟨_, rfl⟩
  rw [hU]
  have HU : Hid (usedP e = U) := Lib.hid hU
  go_enter Tryz.func59, Tryz.ntmps59
  go_upto_region 1 with fail
  have HA := Lib.hid (Blk.new w 34 (enC e))
  have HW := Lib.hid (below1 w (.cells (enC e) 34))
  generalize w.alloc (.cells (enC e) 34) = W1 at *
  generalize hp0 : w.heap.size = p0 at *
  have x4 := HA.out.cell (enC_kd e)
  rw [hk] at x4
  clear hU
  by_cases h2 : kd = 2
  · subst h2
    have HU2 : Hid (wgo (e.outs.drop 0) 0 0 = U) := Lib.hid (by rw [← HU.out]; unfold usedP; rw [if_neg (by omega), if_neg (by omega), if_pos hk]; rfl)
    have PL := Lib.hid (fun (o : Ou) W => played_any o W)
    clear hk HU
    go_wp2_with fail
    clear x4
    go_loopw [4, 5] (fun s4 s5 wr => ∃ (k : Nat) (s : Int), k ≤ 4 ∧ s4 = .int .i64 (k : Int) ∧ s5 = .int .i64 s ∧ 0 ≤ s ∧ s ≤ 99 * (k : Int) ∧ Hid (wgo (e.outs.drop k) k s = U) ∧ Hid (Blk wr p0 34 (enC e)) ∧ Hid (Below p0 w wr)) (fun s4 _ _ => 4 - (intOf s4).toNat)
    case atStart => exact ⟨0, 0, by omega, rfl, rfl, by omega, by omega, HU2, HA, HW⟩
    case round =>
      clear HU2 HA HW
      obtain ⟨k, s, hk, rfl, rfl, hs0, hs1, HU, HA, HW⟩ := hrel
      have HE : ∀ V : Nat × Bool, V = U → wgo [] k s = V → Hid ((k, decide (2 ≤ k ∧ s = 100)) = U) := fun V h1 h2 => Lib.hid (by rw [← h1, ← h2]; rfl)
      by_cases hlt : k < 4
      · have u1 : decide ((k : Int) < 4) = true := decide_eq_true (by omega)
        obtain ⟨c0, c1, c2, c3, c4, c5⟩ := ou_cells HA.out k hlt
        have hc := HU.out
        rw [outs_drop e k hlt, wgo_cons] at hc
        have i1 : (0 : Int) ≤ (k : Int) := by omega
        have i2 : (k : Int) < 4 := by omega
        have P0 := Lib.hid (PL.out (e.ou k))
        clear HE
        generalize e.ou k = o at *
        by_cases hz : o.wt = 0
        · rw [if_pos hz] at hc
          have z1 : (o.wt != 0) = false := by simp [hz]
          have HN : Hid (U = (k, decide (2 ≤ k ∧ s = 100))) := Lib.hid hc.symm
          clear hc
          by_cases h2 : 2 ≤ k
          · have t1 : decide ((2 : Int) ≤ (k : Int)) = true := decide_eq_true (by omega)
            by_cases h100 : s = 100
            · have t2 : (s == 100) = true := by simp [h100]
              have HX : Hid (decide (2 ≤ k ∧ s = 100) = true) := Lib.hid (decide_eq_true ⟨h2, h100⟩)
              clear h2 h100 hz
              go_wp2_with fail
              go_ret2
              exact ⟨by rw [HN.out, HX.out]; rfl, by rw [hp0]; exact HW.out⟩
            · have t2 : (s == 100) = false := by simp [h100]
              have HX : Hid (decide (2 ≤ k ∧ s = 100) = false) := Lib.hid (decide_eq_false (by omega))
              clear h2 h100 hz
              go_wp2_with fail
              go_ret2
              exact ⟨by rw [HN.out, HX.out]; rfl, by rw [hp0]; exact HW.out⟩
          · have t1 : decide ((2 : Int) ≤ (k : Int)) = false := decide_eq_false (by omega)
            have HX : Hid (decide (2 ≤ k ∧ s = 100) = false) := Lib.hid (decide_eq_false (by omega))
            clear h2 hz
            go_wp2_with fail
            go_ret2
            exact ⟨by rw [HN.out, HX.out]; rfl, by rw [hp0]; exact HW.out⟩
        · rw [if_neg hz] at hc
          have z1 : (o.wt != 0) = true := by simp [hz]
          have e1 : IntKind.i64.wrap ((k : Int) + 1) = ((k + 1 : Nat) : Int) := by rw [show (((k + 1 : Nat) : Int)) = (k : Int) + 1 by omega]; exact IntWalk.i64_in _ (by omega)
          by_cases hb1 : o.wt < 1
          · have HN : Hid (U = (0, false)) := Lib.hid (by rw [← hc, if_neg]; unfold Ou.okW; rw [Bool.and_eq_true, decide_eq_true_eq]; omega)
            have t1 : decide (o.wt < 1) = true := decide_eq_true hb1
            clear hc hz hb1
            go_wp2_with fail
            go_ret2
            exact ⟨by rw [HN.out]; rfl, by rw [hp0]; exact HW.out⟩
          · have t1 : decide (o.wt < 1) = false := decide_eq_false hb1
            by_cases hb2 : 99 < o.wt
            · have HN : Hid (U = (0, false)) := Lib.hid (by rw [← hc, if_neg]; unfold Ou.okW; rw [Bool.and_eq_true, decide_eq_true_eq]; omega)
              have t2 : decide (99 < o.wt) = true := decide_eq_true hb2
              clear hc hz hb1 hb2
              go_wp2_with fail
              go_ret2
              exact ⟨by rw [HN.out]; rfl, by rw [hp0]; exact HW.out⟩
            · have t2 : decide (99 < o.wt) = false := decide_eq_false hb2
              have hok : o.okW 1 99 = o.pl := by unfold Ou.okW; rw [decide_eq_true (by omega), Bool.true_and]
              rw [hok] at hc
              rcases hp : o.pl with _ | _
              · have HN : Hid (U = (0, false)) := Lib.hid (by rw [← hc, hp]; rfl)
                rw [hp] at P0
                clear hc hz hb1 hb2 hok hp
                go_wp2_with fail
                refine (P0.out _).mono ?_
                rintro e' w2 ⟨rfl, hb⟩
                have HW2 := Lib.hid (HW.out.trans (hb.mono (by have := HW.out.size; omega)))
                clear hb
                go_wp2_with fail
                go_ret2
                exact ⟨by rw [HN.out]; rfl, by rw [hp0]; exact HW2.out⟩
              · have HN : Hid (wgo (e.outs.drop (k + 1)) (k + 1) (s + o.wt) = U) := Lib.hid (by rw [← hc, hp]; rfl)
                rw [hp] at P0
                have e2 : IntKind.i64.wrap (s + o.wt) = s + o.wt := IntWalk.i64_in _ (by omega)
                have HS2 : Hid (0 ≤ s + o.wt ∧ s + o.wt ≤ 99 * ((k + 1 : Nat) : Int)) := Lib.hid (by omega)
                clear hc hz hb1 hb2 hok hp hs0 hs1
                go_wp2_with fail
                refine (P0.out _).mono ?_
                rintro e' w2 ⟨rfl, hb⟩
                have HW2 := Lib.hid (HW.out.trans (hb.mono (by have := HW.out.size; omega)))
                have HA2 := Lib.hid (HA.out.keep hb HA.out.lt)
                clear hb
                go_wp2_with fail
                go_roundw
                case rel => exact ⟨k + 1, s + o.wt, by omega, by simp, rfl, HS2.out.1, HS2.out.2, HN, HA2, HW2⟩
                case measure => simp [intOf]; omega
      · obtain rfl : k = 4 := by omega
        have u1 : decide (((4 : Nat) : Int) < 4) = false := rfl
        have hc : (4, decide (2 ≤ 4 ∧ s = 100)) = U := HU.out
        rw [show ((4 : Nat) : Int) = 4 from rfl]
        have HN : Hid (U = (4, decide (2 ≤ 4 ∧ s = 100))) := Lib.hid hc.symm
        clear hc HE
        by_cases h100 : s = 100
        · have t2 : (s == 100) = true := by simp [h100]
          have HX : Hid (decide (2 ≤ 4 ∧ s = 100) = true) := Lib.hid (decide_eq_true ⟨by omega, h100⟩)
          clear h100
          go_wp2_with fail
          go_ret2
          exact ⟨by rw [HN.out, HX.out]; rfl, by rw [hp0]; exact HW.out⟩
        · have t2 : (s == 100) = false := by simp [h100]
          have HX : Hid (decide (2 ≤ 4 ∧ s = 100) = false) := Lib.hid (decide_eq_false (by omega))
          clear h100
          go_wp2_with fail
          go_ret2
          exact ⟨by rw [HN.out, HX.out]; rfl, by rw [hp0]; exact HW.out⟩
  · have HU2 : Hid (∃ n : Nat, n ≤ 2 ∧ U = (if (e.outs.take n).all (fun o => o.okW 0 0) then (n, true) else (0, false)) ∧ n = (if kd = 1 then 1 else if kd = 3 then 2 else 0)) := Lib.hid (by
      rw [← HU.out]
      unfold usedP
      rw [hk, if_neg h2]
      by_cases k1 : kd = 1
      · rw [if_pos k1]
        refine ⟨1, by omega, ?_, by rw [if_pos k1]⟩
        show _ = if (e.o0.okW 0 0 && true) = true then _ else _
        rw [Bool.and_true]
      · rw [if_neg k1]
        by_cases k3 : kd = 3
        · rw [if_pos k3]
          refine ⟨2, by omega, ?_, by rw [if_neg k1, if_pos k3]⟩
          show _ = if (e.o0.okW 0 0 && (e.o1.okW 0 0 && true)) = true then _ else _
          rw [Bool.and_true]
        · rw [if_neg k3]
          exact ⟨0, by omega, rfl, by rw [if_neg k1, if_neg k3]⟩)
    obtain ⟨n, hn2, hUn, hn⟩ := HU2.out
    have HUN := Lib.hid hUn
    have PL := Lib.hid (fun (o : Ou) W => played_any o W)
    clear HU HU2 hUn hk
    go_upto_block 0 with fail
    clear x4
    go_cut [4] (fun s4 wx => s4 = .int .i64 (n : Int) ∧ wx = W1)
    case first =>
      by_cases k1 : kd = 1
      · rw [if_pos k1] at hn
        subst hn k1
        go_wp2_with fail
        go_meet
        exact ⟨rfl, rfl⟩
      · rw [if_neg k1] at hn
        by_cases k3 : kd = 3
        · rw [if_pos k3] at hn
          subst hn k3
          go_wp2_with fail
          go_meet
          exact ⟨rfl, rfl⟩
        · rw [if_neg k3] at hn
          subst hn
          have t1 : ((kd : Int) == 1) = false := by simp; omega
          have t2 : ((kd : Int) == 3) = false := by simp; omega
          have t3 : ((kd : Int) == 2) = false := by simp; omega
          clear k1 k3 h2
          go_wp2_with fail
          go_meet
          exact ⟨rfl, rfl⟩
    case rest =>
      obtain ⟨rfl, rfl⟩ := hcut
      clear hn h2
      have sl : ∀ W, (Instr.sliceAt 31 (.pointer (some ⟨p0, 7, none⟩)) none (some (.int .i64 (n : Int))) none).run Tryz.prog W = .ok (.slice (some ⟨p0, 7, none⟩) n 4) W := fun W =>
        slice_hi (T := 31) (b := p0) (off := 7) (q := n) Tryz.underlying31 (size := 6) (fun w => by kernel_rfl) (by omega) W
      go_wp2_with fail
      clear sl
      go_loopw [62] (fun s62 wr => ∃ k : Nat, k ≤ n ∧ s62 = .int .i64 (k : Int) ∧ Hid ((e.outs.take k).all (fun o => o.okW 0 0) = true) ∧ Hid (Blk wr p0 34 (enC e)) ∧ Hid (Below p0 w wr)) (fun s62 _ => n - (intOf s62).toNat)
      case atStart => exact ⟨0, by omega, rfl, Lib.hid rfl, HA, HW⟩
      case round =>
        clear HA HW
        obtain ⟨k, hk, rfl, HL, HA, HW⟩ := hrel
        by_cases hlt : k < n
        · have u1 : decide ((k : Int) < (n : Int)) = true := decide_eq_true (by omega)
          obtain ⟨c0, c1, c2, c3, c4, c5⟩ := ou_cells HA.out k (by omega)
          have i1 : (0 : Int) ≤ (k : Int) := by omega
          have i2 : (k : Int) < (n : Int) := by omega
          have P0 := Lib.hid (PL.out (e.ou k))
          have HT : Hid ((e.outs.take (k + 1)).all (fun o => o.okW 0 0) = (e.ou k).okW 0 0) := Lib.hid (by
            rw [take_more (e.ou_at k (by omega)), List.all_append, HL.out]; simp)
          have HF : Hid ((e.ou k).okW 0 0 = false → U = (0, false)) := Lib.hid (fun h => by
            rw [HUN.out, if_neg]
            intro h9
            rw [List.all_eq_true] at h9
            have := h9 (e.ou k) (List.mem_of_getElem? (i := k) (by rw [List.getElem?_take, if_pos hlt]; exact e.ou_at k (by omega)))
            rw [h] at this
            cases this)
          generalize e.ou k = o at *
          go_upto_region 19 with fail
          have HO := Lib.hid (Blk.new wr 30 #[.int .u8 (o.lv : Int), .int .u8 (o.dn : Int), .int .u8 (o.rk : Int), .int .u8 (o.dc : Int), .int .i64 o.tr, .int .i64 o.wt])
          have HA2 := Lib.hid (HA.out.alloc (.cells #[.int .u8 (o.lv : Int), .int .u8 (o.dn : Int), .int .u8 (o.rk : Int), .int .u8 (o.dc : Int), .int .i64 o.tr, .int .i64 o.wt] 30))
          have HW2 := Lib.hid (HW.out.alloc (by have := HW.out.size; omega) (.cells #[.int .u8 (o.lv : Int), .int .u8 (o.dn : Int), .int .u8 (o.rk : Int), .int .u8 (o.dc : Int), .int .i64 o.tr, .int .i64 o.wt] 30))
          clear HA HW c0 c1 c2 c3 c4 c5 i1 i2
          generalize wr.alloc (.cells #[.int .u8 (o.lv : Int), .int .u8 (o.dn : Int), .int .u8 (o.rk : Int), .int .u8 (o.dc : Int), .int .i64 o.tr, .int .i64 o.wt] 30) = W2 at *
          generalize wr.heap.size = p8 at *
          have c0 := HO.out.cell (j := 0) (v := .int .u8 (o.lv : Int)) rfl
          have c1 := HO.out.cell (j := 1) (v := .int .u8 (o.dn : Int)) rfl
          have c2 := HO.out.cell (j := 2) (v := .int .u8 (o.rk : Int)) rfl
          have c3 := HO.out.cell (j := 3) (v := .int .u8 (o.dc : Int)) rfl
          have c4 := HO.out.cell (j := 4) (v := .int .i64 o.tr) rfl
          have c5 := HO.out.cell (j := 5) (v := .int .i64 o.wt) rfl
          rcases hp : o.pl with _ | _
          · have HN : Hid (U = (0, false)) := Lib.hid (HF.out (by unfold Ou.okW; rw [hp, Bool.and_false]))
            rw [hp] at P0
            clear hp HT HF
            go_wp2_with fail
            refine (P0.out _).mono ?_
            rintro e' w2 ⟨rfl, hb⟩
            have HW3 := Lib.hid (HW2.out.trans (hb.mono (by have := HW2.out.size; omega)))
            clear hb c0 c1 c2 c3 c4 c5
            go_wp2_with fail
            go_ret2
            exact ⟨by rw [HN.out]; rfl, by rw [hp0]; exact HW3.out⟩
          · rw [hp] at P0
            by_cases hz : o.wt = 0
            · have z1 : (o.wt != 0) = false := by simp [hz]
              have HN : Hid ((e.outs.take (k + 1)).all (fun o => o.okW 0 0) = true) := Lib.hid (by rw [HT.out]; unfold Ou.okW; rw [hp, decide_eq_true (by omega)]; rfl)
              clear hp hz HT HF
              go_wp2_with fail
              refine (P0.out _).mono ?_
              rintro e' w2 ⟨rfl, hb⟩
              have HW3 := Lib.hid (HW2.out.trans (hb.mono (by have := HW2.out.size; omega)))
              have HA3 := Lib.hid (HA2.out.keep hb HA2.out.lt)
              have d5 : w2.cell? ⟨p8, 5, none⟩ = some (.int .i64 o.wt) := keepW hb c5
              have e1 : IntKind.i64.wrap ((k : Int) + 1) = ((k + 1 : Nat) : Int) := by rw [show (((k + 1 : Nat) : Int)) = (k : Int) + 1 by omega]; exact IntWalk.i64_in _ (by omega)
              clear hb c0 c1 c2 c3 c4 c5
              go_wp2_with fail
              go_roundw
              case rel => exact ⟨k + 1, by omega, by simp, HN, HA3, HW3⟩
              case measure => simp [intOf]; omega
            · have z1 : (o.wt != 0) = true := by simp [hz]
              have HN : Hid (U = (0, false)) := Lib.hid (HF.out (by unfold Ou.okW; rw [decide_eq_false (by omega), Bool.false_and]))
              clear hp hz HT HF
              go_wp2_with fail
              refine (P0.out _).mono ?_
              rintro e' w2 ⟨rfl, hb⟩
              have HW3 := Lib.hid (HW2.out.trans (hb.mono (by have := HW2.out.size; omega)))
              have d5 : w2.cell? ⟨p8, 5, none⟩ = some (.int .i64 o.wt) := keepW hb c5
              clear hb c0 c1 c2 c3 c4 c5
              go_wp2_with fail
              go_ret2
              exact ⟨by rw [HN.out]; rfl, by rw [hp0]; exact HW3.out⟩
        · obtain rfl : k = n := by omega
          have u1 : decide ((k : Int) < (k : Int)) = false := decide_eq_false (by omega)
          have HN : Hid (U = (k, true)) := Lib.hid (by rw [HUN.out, if_pos HL.out])
          go_wp2_with fail
          go_ret2
          exact ⟨by rw [HN.out]; rfl, by rw [hp0]; exact HW.out⟩
end Go.Proofs.YtpkmibmombpjpaaGreatDoor
