/- Changes: the reference's. -/
import Derived.Test.YtaadipccgckehaaGreatDoorBH
namespace Go.Proofs.YtaadipccgckehaaGreatDoor
open Go Go.RowKit Pl

theorem info_rchg : (Tryz.prog.info? 71).map (fun i => (i.zero, i.size, i.bytes)) = some (some (.agg #[.int .u8 0, .int .u8 0, .int .u8 0]), 3, 3) := by kernel_rfl
set_option maxRecDepth 100000 in
set_option maxHeartbeats 2000000 in
theorem rchanges_any (D E : Nat → Nat) (hD : D64 D) (hE : D64 E) (w : World) :
    Calls Tryz.prog 30 #[.agg #[.int .u64 (D 0 : Nat), .int .u64 (D 1 : Nat), .int .u64 (D 2 : Nat), .int .u64 (D 3 : Nat)], .agg #[.int .u64 (E 0 : Nat), .int .u64 (E 1 : Nat), .int .u64 (E 2 : Nat), .int .u64 (E 3 : Nat)]] w (RetChg 71 w D E) := by
  have RD := Lib.hid (fun W => rright_any D hD W)
  have RE := Lib.hid (fun W => rright_any E hE W)
  have OD := Lib.hid (fun k hk W => rowner_any D hD k hk W)
  have OE := Lib.hid (fun k hk W => rowner_any E hE k hk W)
  have BX := Lib.hid (boxes (w := w) (D := D) (E := E) 23)
  rw [show dC D = #[.int .u64 (D 0 : Nat), .int .u64 (D 1 : Nat), .int .u64 (D 2 : Nat), .int .u64 (D 3 : Nat)] from rfl, show dC E = #[.int .u64 (E 0 : Nat), .int .u64 (E 1 : Nat), .int .u64 (E 2 : Nat), .int .u64 (E 3 : Nat)] from rfl] at BX
  clear hD hE
  obtain ⟨i0, hi, hz0, hz1, hz2⟩ := info_parts info_rchg
  go_enter Tryz.func30, Tryz.ntmps30
  go_upto_region 1 with fail
  generalize (w.alloc (.cells #[.int .u64 (D 0 : Nat), .int .u64 (D 1 : Nat), .int .u64 (D 2 : Nat), .int .u64 (D 3 : Nat)] 23)).alloc (.cells #[.int .u64 (E 0 : Nat), .int .u64 (E 1 : Nat), .int .u64 (E 2 : Nat), .int .u64 (E 3 : Nat)] 23) = W1 at *
  obtain ⟨ba, bb, bw⟩ := BX.out
  have a0 := ba.cell (j := 0) rfl
  have a1 := ba.cell (j := 1) rfl
  have a2 := ba.cell (j := 2) rfl
  have a3 := ba.cell (j := 3) rfl
  have BA := Lib.hid ba
  have BB := Lib.hid bb
  have BW := Lib.hid bw
  clear ba bb bw BX
  go_wp2_with fail
  refine (RD.out _).mono ?_
  rintro e w1 ⟨rfl, hb⟩
  have B1 := Lib.hid (bchain BW.out hb)
  have BA1 := Lib.hid (BA.out.keep hb BA.out.lt)
  have BB1 := Lib.hid (BB.out.keep hb BB.out.lt)
  clear hb a0 a1 a2 a3 BA BB BW RD
  rcases hr1 : rightB D with _ | _
  · have HN : Hid (bothR D E = false) := Lib.hid (by unfold bothR; rw [hr1]; rfl)
    clear hr1 RE OD OE hi hz0 hz1 hz2
    go_wp2_with fail
    go_ret2
    exact ret_chg_no HN.out B1.out rfl
  have b0 := BB1.out.cell (j := 0) rfl
  have b1 := BB1.out.cell (j := 1) rfl
  have b2 := BB1.out.cell (j := 2) rfl
  have b3 := BB1.out.cell (j := 3) rfl
  go_wp2_with fail
  refine (RE.out _).mono ?_
  rintro e w2 ⟨rfl, hb⟩
  have B2 := Lib.hid (bchain B1.out hb)
  have BA2 := Lib.hid (BA1.out.keep hb BA1.out.lt)
  have BB2 := Lib.hid (BB1.out.keep hb BB1.out.lt)
  clear hb b0 b1 b2 b3 BA1 BB1 B1 RE
  rcases hr2 : rightB E with _ | _
  · have HN : Hid (bothR D E = false) := Lib.hid (by unfold bothR; rw [hr1, hr2]; rfl)
    clear hr1 hr2 OD OE hi hz0 hz1 hz2
    go_wp2_with fail
    go_ret2
    exact ret_chg_no HN.out B2.out rfl
  have HN : Hid (bothR D E = true) := Lib.hid (by unfold bothR; rw [hr1, hr2]; rfl)
  have BG := Lib.hid (B2.out.size)
  clear hr1 hr2
  go_wp2_with fail
  have HBB : Hid (w.heap.size + 1 < w2.heap.size) := Lib.hid BB2.out.lt
  obtain ⟨B, hB⟩ : ∃ B, w2.heap.size = B := ⟨_, rfl⟩
  have HBQ := Lib.hid hB
  rw [hB] at BG HBB
  clear hB
  go_loopw [6, 7] (fun s6 s7 wr => ∃ k v, k ≤ 52 ∧ s7 = .int .i64 ((k : Nat) : Int) ∧ s6 = v ∧ Hid (wr.ownsRow B 71 3 v (chg D E k).length (chVs D E (chg D E k))) ∧ Hid (Below B w2 wr)) (fun _ s7 _ => 52 - (intOf s7).toNat)
  case atStart => exact ⟨0, _, by omega, rfl, rfl, Lib.hid ⟨by simp [chVs, chg_0], .inl ⟨rfl, by simp [chg_0]⟩⟩, Lib.hid (Below.refl _ _)⟩
  case round =>
    obtain ⟨k, v, hk, rfl, rfl, HRW, HBW⟩ := hrel
    obtain ⟨A, c, rfl⟩ := own_slice HRW.out
    have BA3 := Lib.hid (blkB BA2.out HBW.out (by have := HBB.out; omega))
    have BB3 := Lib.hid (blkB BB2.out HBW.out HBB.out)
    have BW3 : Hid (Below w.heap.size w wr) := Lib.hid (B2.out.trans (HBW.out.mono BG.out))
    by_cases hlt : k < 52
    · have u1 : decide ((k : Int) < 52) = true := decide_eq_true (by omega)
      have a0 := BA3.out.cell (j := 0) rfl
      have a1 := BA3.out.cell (j := 1) rfl
      have a2 := BA3.out.cell (j := 2) rfl
      have a3 := BA3.out.cell (j := 3) rfl
      have e2 := inc64 k (by omega)
      have e3 : (k : Int) % 256 = (k : Int) := by omega
      have e4 : IntKind.u8.wrap (k : Int) = (k : Int) := by show (k : Int) % 256 = _; omega
      go_wp2_with fail
      refine (OD.out k hlt _).mono ?_
      rintro e w4 ⟨rfl, hb⟩
      have BB4 := Lib.hid (BB3.out.keep hb BB3.out.lt)
      have R4 := Lib.hid (own_keep HRW.out hb)
      have HB4 := Lib.hid (HBW.out.trans (hb.mono (by have := HBW.out.size; rw [HBQ.out] at this; omega)))
      clear hb a0 a1 a2 a3 BA3 BB3 HRW BW3 HBW
      have b0 := BB4.out.cell (j := 0) rfl
      have b1 := BB4.out.cell (j := 1) rfl
      have b2 := BB4.out.cell (j := 2) rfl
      have b3 := BB4.out.cell (j := 3) rfl
      go_wp2_with fail
      refine (OE.out k hlt _).mono ?_
      rintro e w5 ⟨rfl, hb⟩
      have R5 := Lib.hid (own_keep R4.out hb)
      have HB5 := Lib.hid (HB4.out.trans (hb.mono (by have := HB4.out.size; rw [HBQ.out] at this; omega)))
      clear hb b0 b1 b2 b3 BB4 R4 HB4
      have hcl := chg_len D E k
      by_cases hne : owner D k = owner E k
      · have t1 : (((owner D k : Nat) : Int) == ((owner E k : Nat) : Int)) = true := beq_iff_eq.2 (by omega)
        have R6 := R5.out
        have hce := chg_no D E k hne
        rw [← hce] at R6
        have HR6 := Lib.hid R6
        have HCE := Lib.hid hce
        clear R6 R5 hne hce hcl
        generalize owner D k = x at *
        generalize owner E k = y at *
        go_wp2_with fail
        go_roundw
        case rel => exact ⟨k + 1, _, by omega, by simp, by rw [HCE.out], HR6, HB5⟩
        case measure => simp [intOf]; omega
      · have t1 : (((owner D k : Nat) : Int) == ((owner E k : Nat) : Int)) = false := beq_eq_false_iff_ne.2 (by omega)
        have hce := chg_yes D E k hne
        have hcv : chV D E k = [.int .u8 (k : Nat), .int .u8 (owner D k : Nat), .int .u8 (owner E k : Nat)] := rfl
        have HF : Hid (∀ (v' : Value) (w' : World), w'.ownsRow B 71 3 v' ((chg D E k).length + 1) (chVs D E (chg D E k) ++ [.int .u8 (k : Nat), .int .u8 (owner D k : Nat), .int .u8 (owner E k : Nat)]) → w'.ownsRow B 71 3 v' (chg D E (k + 1)).length (chVs D E (chg D E (k + 1)))) := Lib.hid (fun v' w' h => by
          rw [hce, List.length_append, chVs_snoc, hcv]
          exact h)
        obtain ⟨M, hM⟩ : ∃ M, (chg D E k).length = M := ⟨_, rfl⟩
        rw [hM] at R5 HF hcl ⊢
        obtain ⟨XS, hXS⟩ : ∃ XS, chVs D E (chg D E k) = XS := ⟨_, rfl⟩
        rw [hXS] at R5 HF
        have hBs : B ≤ w5.heap.size := by have := HB5.out.size; rw [HBQ.out] at this; exact this
        clear hne hce hcv hM hXS
        generalize owner D k = x at *
        generalize owner E k = y at *
        go_wp2_with (at_builtin; refine appN rfl (.tmp 39) (.tmp 45) rfl Tryz.underlying68 hi hz0 hz1 hz2 rfl (by decide) w5 B _ M XS [.int .u8 (k : Int), .int .u8 (x : Int), .int .u8 (y : Int)] rfl (by simp [Value.oneCell']) rfl rfl R5.out hBs (by omega) (by decide) ?_; intro v' w6 hr6 hb6; have N6 := Lib.hid (HF.out _ _ hr6); have HB6 := Lib.hid (HB5.out.trans hb6); clear hr6 hb6 HF)
        go_roundw
        case rel => exact ⟨k + 1, _, by omega, by simp, rfl, N6, HB6⟩
        case measure => simp [intOf]; omega
    · obtain rfl : k = 52 := by omega
      have HR := Lib.hid (ret_chg HN.out BW3.out rfl (own_base HRW.out BG.out))
      clear OD OE hi hz0 hz1 hz2 HRW BA3 BB3
      have u1 : decide ((52 : Int) < 52) = false := rfl
      rw [show ((52 : Nat) : Int) = 52 from rfl]
      go_wp2_with fail
      go_ret2
      exact HR.out
end Go.Proofs.YtaadipccgckehaaGreatDoor
