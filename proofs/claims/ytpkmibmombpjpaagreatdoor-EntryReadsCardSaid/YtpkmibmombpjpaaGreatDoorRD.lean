/- The reference's reader: byte0, outcome. -/
import Derived.Test.YtpkmibmombpjpaaGreatDoorRC
set_option linter.unusedSimpArgs false
namespace Go.Proofs.YtpkmibmombpjpaaGreatDoor
open Go Go.RowKit

theorem rnum_len (r : Rd) : (rnumR r).t.length ≤ r.t.length := by
  unfold rnumR
  split <;> simp
theorem rbyte_len (r : Rd) : (rbyteR r).t.length ≤ r.t.length := by
  unfold rbyteR
  split
  · exact rnum_len r
  · exact rnum_len r
/-- The zero word of a named result. -/
def zR : Array Value := #[.string ⟨#[]⟩, .bool false]
set_option maxRecDepth 100000 in
set_option maxHeartbeats 2000000 in
theorem rbyte_any (r : Rd) (hr : r.t.length ≤ 1000000) (w : World) (he : Env w) : Calls Tryz.prog 73 #[.agg (rdC r)] w (fun e w' => e = .returned (.tuple #[.agg (rdC (rbyteR r)), .int .u8 ((rbyteV r : Nat) : Int)]) ∧ Below w.heap.size w w') := by
  have NU := Lib.hid (fun W (h : Env W) => rnum_any r hr W h)
  have HX : Hid ((byOk (rnumV r) = true → rbyteR r = rnumR r) ∧ (byOk (rnumV r) = false → rbyteR r = ⟨(rnumR r).t, true⟩)) := Lib.hid (by
    unfold rbyteR
    exact ⟨fun h => by rw [if_pos h], fun h => by rw [if_neg (by rw [h]; decide)]⟩)
  have HV : Hid (rbyteV r = (rnumV r % 256).toNat) := Lib.hid (by unfold rbyteV; rfl)
  have HE := Lib.hid he
  obtain ⟨T, bad⟩ := r
  generalize rnumR ⟨T, bad⟩ = R at *
  generalize rnumV ⟨T, bad⟩ = N at *
  generalize rbyteR ⟨T, bad⟩ = RB at *
  generalize rbyteV ⟨T, bad⟩ = VB at *
  unfold rdC at NU ⊢
  clear he hr
  go_enter Tryz.func73, Tryz.ntmps73
  go_upto_region 1 with fail
  have HA := Lib.hid ((Blk.new w 116 #[.string (bS T), .bool bad]).alloc (.cells #[.string ⟨#[]⟩, .bool false] 116))
  have HB := Lib.hid (Blk.new (w.alloc (.cells #[.string (bS T), .bool bad] 116)) 116 #[.string ⟨#[]⟩, .bool false])
  have HW := Lib.hid (below2 w (.cells #[.string (bS T), .bool bad] 116) (.cells #[.string ⟨#[]⟩, .bool false] 116))
  rw [size_al] at HB
  generalize (w.alloc (.cells #[.string (bS T), .bool bad] 116)).alloc (.cells #[.string ⟨#[]⟩, .bool false] 116) = W1 at *
  have HE1 := Lib.hid (HE.out.keep HW.out)
  obtain ⟨p2, hp2⟩ : ∃ p, w.heap.size + 1 = p := ⟨_, rfl⟩
  obtain ⟨p1, hp1⟩ : ∃ p, w.heap.size = p := ⟨_, rfl⟩
  have HPP : Hid (p1 ≠ p2 ∧ w.heap.size ≤ p1 ∧ w.heap.size ≤ p2) := Lib.hid (by omega)
  rw [hp2] at HB ⊢
  rw [hp1] at HA ⊢
  clear hp1 hp2 HE
  have la := loadAt_blk (T := 116) (C := #[.string (bS T), .bool bad]) HA.out Tryz.underlying116 rfl (by kernel_rfl)
  go_wp2_with (guard_target =~ wpList _ _ _ (⟨some 6, _, _, _, _, _⟩ :: _) _ _; refine op_load (p := .pointer (some ⟨p1, 0, none⟩)) 116 (.tmp 1) rfl rfl rfl la ?_)
  refine (NU.out _ HE1.out).mono ?_
  rintro x w2 ⟨rfl, hb⟩
  have HA2 := Lib.hid (HA.out.kp2 hb)
  have HB2 := Lib.hid (HB.out.kp2 hb)
  have HW2 := Lib.hid (HW.out.trans (hb.mono HW.out.size))
  clear hb HA HB HW NU HE1 la
  have st := storeAt_row (T := 116) (C := #[.string (bS R.t), .bool R.bad]) HA2.out (by kernel_rfl) rfl (by kernel_rfl)
  go_upto_region 2 with (guard_target =~ wpList _ _ _ (⟨none, _, _, _, _, _⟩ :: _) _ _; refine op_store (p := .pointer (some ⟨p1, 0, none⟩)) (C := .agg #[.string (bS R.t), .bool R.bad]) 116 (.tmp 1) (.tmp 8) rfl rfl rfl rfl rfl st ?_)
  clear st
  have HA3 := Lib.hid (HA2.out.row #[.string (bS R.t), .bool R.bad])
  have HB3 := Lib.hid (HB2.out.row_other HPP.out.1.symm #[.string (bS R.t), .bool R.bad])
  have HW3 := Lib.hid (Below.setRow' HPP.out.2.1 HW2.out #[.string (bS R.t), .bool R.bad])
  clear HA2 HB2 HW2
  generalize w2.setRow p1 #[.string (bS R.t), .bool R.bad] = W3 at *
  have e8 : IntKind.u8.wrap N = ((VB : Nat) : Int) := by
    rw [HV.out]
    show N % 256 = _
    omega
  have e8b : N % 256 = ((VB : Nat) : Int) := e8
  clear HV
  go_cut [15] (fun s15 wx => s15 = .bool (!(byOk N)) ∧ wx = W3)
  case first =>
    clear e8 e8b HX
    by_cases h1 : N < 0
    · have t1 : decide (N < 0) = true := decide_eq_true h1
      have HN : Hid (byOk N = false) := Lib.hid (by unfold byOk; exact decide_eq_false (by omega))
      clear h1
      go_wp2_with fail
      go_meet
      exact ⟨by rw [HN.out]; rfl, rfl⟩
    · have t1 : decide (N < 0) = false := decide_eq_false h1
      by_cases h2 : 255 < N
      · have t2 : decide (255 < N) = true := decide_eq_true h2
        have HN : Hid (byOk N = false) := Lib.hid (by unfold byOk; exact decide_eq_false (by omega))
        clear h1 h2
        go_wp2_with fail
        go_meet
        exact ⟨by rw [HN.out]; rfl, rfl⟩
      · have t2 : decide (255 < N) = false := decide_eq_false h2
        have HN : Hid (byOk N = true) := Lib.hid (by unfold byOk; exact decide_eq_true (by omega))
        clear h1 h2
        go_wp2_with fail
        go_meet
        exact ⟨by rw [HN.out]; rfl, rfl⟩
  case rest =>
  obtain ⟨rfl, rfl⟩ := hcut
  have k1 := HA3.out.cell (j := 1) rfl
  have k2 := HA3.out.free 1
  rcases hok : byOk N with _ | _
  · have HR := Lib.hid (HX.out.2 hok)
    clear HX hok
    go_upto_region 4 with fail
    have HA4 := Lib.hid (HA3.out.set 1 (.bool true))
    have HB4 := Lib.hid (HB3.out.other HPP.out.1.symm 1 (.bool true))
    have HW4 := Lib.hid (HW3.out.setCell (p := ⟨p1, 1, none⟩) HPP.out.2.1 (.bool true))
    clear k1 k2 HA3 HB3 HW3
    generalize wc.setCell ⟨p1, 1, none⟩ (.bool true) = W4 at *
    have la := loadAt_blk (T := 116) (C := #[.string (bS R.t), .bool true]) HA4.out Tryz.underlying116 rfl (by kernel_rfl)
    have st := storeAt_row (T := 116) (C := #[.string (bS R.t), .bool true]) HB4.out (by kernel_rfl) rfl (by kernel_rfl)
    have lf := loadVar_blk (T := 116) (HB4.out.row #[.string (bS R.t), .bool true]) Tryz.underlying116 rfl (by kernel_rfl)
    have HW5 := Lib.hid (Below.setRow' HPP.out.2.2 HW4.out #[.string (bS R.t), .bool true])
    go_wp2_with (first
      | (guard_target =~ wpList _ _ _ (⟨some 17, _, _, _, _, _⟩ :: _) _ _; refine op_load (p := .pointer (some ⟨p1, 0, none⟩)) 116 (.tmp 1) rfl rfl rfl la ?_)
      | (guard_target =~ wpList _ _ _ (⟨none, _, _, _, _, _⟩ :: _) _ _; refine op_store (p := .pointer (some ⟨p2, 0, none⟩)) (C := .agg #[.string (bS R.t), .bool true]) 116 (.tmp 2) (.tmp 17) rfl rfl rfl rfl rfl st ?_))
    (try simp only [Exit.inBlock, Exit.then])
    refine bodyPost_ret (results_cell_tmp Tryz.results73 rfl rfl lf) rfl ?_
    exact ⟨by rw [HR.out]; rfl, HW5.out⟩
  · have HR := Lib.hid (HX.out.1 hok)
    clear HX hok k1 k2
    go_upto_region 4 with fail
    have la := loadAt_blk (T := 116) (C := #[.string (bS R.t), .bool R.bad]) HA3.out Tryz.underlying116 rfl (by kernel_rfl)
    have st := storeAt_row (T := 116) (C := #[.string (bS R.t), .bool R.bad]) HB3.out (by kernel_rfl) rfl (by kernel_rfl)
    have lf := loadVar_blk (T := 116) (HB3.out.row #[.string (bS R.t), .bool R.bad]) Tryz.underlying116 rfl (by kernel_rfl)
    have HW5 := Lib.hid (Below.setRow' HPP.out.2.2 HW3.out #[.string (bS R.t), .bool R.bad])
    go_wp2_with (first
      | (guard_target =~ wpList _ _ _ (⟨some 17, _, _, _, _, _⟩ :: _) _ _; refine op_load (p := .pointer (some ⟨p1, 0, none⟩)) 116 (.tmp 1) rfl rfl rfl la ?_)
      | (guard_target =~ wpList _ _ _ (⟨none, _, _, _, _, _⟩ :: _) _ _; refine op_store (p := .pointer (some ⟨p2, 0, none⟩)) (C := .agg #[.string (bS R.t), .bool R.bad]) 116 (.tmp 2) (.tmp 17) rfl rfl rfl rfl rfl st ?_))
    (try simp only [Exit.inBlock, Exit.then])
    refine bodyPost_ret (results_cell_tmp Tryz.results73 rfl rfl lf) rfl ?_
    exact ⟨by rw [HR.out]; rfl, HW5.out⟩
theorem results_cells {fn : Func} {tmps : Array Value} {a b : Tmp} {t u : TypeId} {p q : Addr} {v x : Value} {w : World} (hr : fn.results = #[.cell a t, .cell b u]) (ha : tmps.getD a undef = .pointer (some p)) (hb : tmps.getD b undef = .pointer (some q)) (hl : (loadVar t p).run Tryz.prog w = .ok v w) (hm : (loadVar u q).run Tryz.prog w = .ok x w) : (results fn tmps).run Tryz.prog w = .ok (.tuple #[v, x]) w := by
  unfold results
  rw [hr]
  simp only [Array.getD_eq_getD_getElem?] at ha hb
  simp [ha, hb, hl, hm, asAddr]
set_option maxRecDepth 100000 in
set_option maxHeartbeats 4000000 in
theorem rout_any (r : Rd) (hr : r.t.length ≤ 1000000) (w : World) (he : Env w) : Calls Tryz.prog 74 #[.agg (rdC r)] w (fun e w' => e = .returned (.tuple #[.agg (rdC (routR r)), ouV (routV r)]) ∧ Below w.heap.size w w') := by
  have HX : Hid (routR r = (if rhas (rd5 r) [58] then rnumR (rskip (rd5 r) [58]) else rd5 r) ∧ routV r = ⟨rbyteV r, rbyteV (rskip (rd1 r) [46]), rbyteV (rskip (rd2 r) [46]), rbyteV (rskip (rd3 r) [46]), rnumV (rskip (rd4 r) [46]), if rhas (rd5 r) [58] then rnumV (rskip (rd5 r) [58]) else 0⟩) := Lib.hid (by constructor <;> (first | (unfold routR; rfl) | (unfold routV; rfl)))
  have hs : ([46] : List UInt8).length ≤ 1000000 := by decide
  have hc : ([58] : List UInt8).length ≤ 1000000 := by decide
  have l1 : (rd1 r).t.length ≤ 1000000 := Nat.le_trans (rbyte_len r) hr
  have m2 : (rskip (rd1 r) [46]).t.length ≤ 1000000 := Nat.le_trans (rskip_len _ _) l1
  have l2 : (rd2 r).t.length ≤ 1000000 := Nat.le_trans (rbyte_len _) m2
  have m3 : (rskip (rd2 r) [46]).t.length ≤ 1000000 := Nat.le_trans (rskip_len _ _) l2
  have l3 : (rd3 r).t.length ≤ 1000000 := Nat.le_trans (rbyte_len _) m3
  have m4 : (rskip (rd3 r) [46]).t.length ≤ 1000000 := Nat.le_trans (rskip_len _ _) l3
  have l4 : (rd4 r).t.length ≤ 1000000 := Nat.le_trans (rbyte_len _) m4
  have m5 : (rskip (rd4 r) [46]).t.length ≤ 1000000 := Nat.le_trans (rskip_len _ _) l4
  have l5 : (rd5 r).t.length ≤ 1000000 := Nat.le_trans (rnum_len _) m5
  have m6 : (rskip (rd5 r) [58]).t.length ≤ 1000000 := Nat.le_trans (rskip_len _ _) l5
  have BY1 := Lib.hid (fun W (h : Env W) => rbyte_any r hr W h)
  have SK2 := Lib.hid (fun W => rskip_any (rd1 r) [46] l1 hs W)
  have BY2 := Lib.hid (fun W (h : Env W) => rbyte_any (rskip (rd1 r) [46]) m2 W h)
  have SK3 := Lib.hid (fun W => rskip_any (rd2 r) [46] l2 hs W)
  have BY3 := Lib.hid (fun W (h : Env W) => rbyte_any (rskip (rd2 r) [46]) m3 W h)
  have SK4 := Lib.hid (fun W => rskip_any (rd3 r) [46] l3 hs W)
  have BY4 := Lib.hid (fun W (h : Env W) => rbyte_any (rskip (rd3 r) [46]) m4 W h)
  have SK5 := Lib.hid (fun W => rskip_any (rd4 r) [46] l4 hs W)
  have BY5 := Lib.hid (fun W (h : Env W) => rnum_any (rskip (rd4 r) [46]) m5 W h)
  have HS := Lib.hid (fun W => rhas_any (rd5 r) [58] l5 hc W)
  have SK6 := Lib.hid (fun W => rskip_any (rd5 r) [58] l5 hc W)
  have NU6 := Lib.hid (fun W (h : Env W) => rnum_any (rskip (rd5 r) [58]) m6 W h)
  have HE := Lib.hid he
  clear m2 m3 m4 m5 m6 l1 l2 l3 l4 l5 hs hc hr he
  obtain ⟨T, bad⟩ := r
  generalize hr0 : (⟨T, bad⟩ : Rd) = r at *
  have hrt : rdC r = #[.string (bS T), .bool bad] := by rw [← hr0]; rfl
  change Hid (∀ W, Env W → Calls _ _ _ W (fun e w' => e = .returned (.tuple #[.agg (rdC (rd1 r)), _]) ∧ _)) at BY1
  change Hid (∀ W, Env W → Calls _ _ _ W (fun e w' => e = .returned (.tuple #[.agg (rdC (rd2 r)), _]) ∧ _)) at BY2
  change Hid (∀ W, Env W → Calls _ _ _ W (fun e w' => e = .returned (.tuple #[.agg (rdC (rd3 r)), _]) ∧ _)) at BY3
  change Hid (∀ W, Env W → Calls _ _ _ W (fun e w' => e = .returned (.tuple #[.agg (rdC (rd4 r)), _]) ∧ _)) at BY4
  change Hid (∀ W, Env W → Calls _ _ _ W (fun e w' => e = .returned (.tuple #[.agg (rdC (rd5 r)), _]) ∧ _)) at BY5
  rw [hrt] at BY1 ⊢
  clear hrt hr0
  generalize rbyteV r = N1 at *
  generalize rbyteV (rskip (rd1 r) [46]) = N2 at *
  generalize rbyteV (rskip (rd2 r) [46]) = N3 at *
  generalize rbyteV (rskip (rd3 r) [46]) = N4 at *
  generalize rnumV (rskip (rd4 r) [46]) = N5 at *
  generalize rnumV (rskip (rd5 r) [58]) = N6 at *
  generalize rnumR (rskip (rd5 r) [58]) = R6 at *
  generalize rskip (rd1 r) [46] = S2 at *
  generalize rskip (rd2 r) [46] = S3 at *
  generalize rskip (rd3 r) [46] = S4 at *
  generalize rskip (rd4 r) [46] = S5 at *
  generalize rskip (rd5 r) [58] = S6 at *
  generalize rhas (rd5 r) [58] = B at *
  generalize rd1 r = R1 at *
  generalize rd2 r = R2 at *
  generalize rd3 r = R3 at *
  generalize rd4 r = R4 at *
  generalize rd5 r = R5 at *
  generalize routR r = RX at *
  generalize routV r = VX at *
  clear r
  unfold rdC at *
  go_enter Tryz.func74, Tryz.ntmps74
  go_upto_region 2 with fail
  have HA := Lib.hid ((((Blk.new w 116 #[.string (bS T), .bool bad]).alloc (.cells #[.string ⟨#[]⟩, .bool false] 116)).alloc (.cells #[.int .u8 0, .int .u8 0, .int .u8 0, .int .u8 0, .int .i64 0, .int .i64 0] 30)).alloc (.cells #[.int .u8 0, .int .u8 0, .int .u8 0, .int .u8 0, .int .i64 0, .int .i64 0] 30))
  have HB := Lib.hid (((Blk.new (w.alloc (.cells #[.string (bS T), .bool bad] 116)) 116 #[.string ⟨#[]⟩, .bool false]).alloc (.cells #[.int .u8 0, .int .u8 0, .int .u8 0, .int .u8 0, .int .i64 0, .int .i64 0] 30)).alloc (.cells #[.int .u8 0, .int .u8 0, .int .u8 0, .int .u8 0, .int .i64 0, .int .i64 0] 30))
  have HC := Lib.hid ((Blk.new ((w.alloc (.cells #[.string (bS T), .bool bad] 116)).alloc (.cells #[.string ⟨#[]⟩, .bool false] 116)) 30 #[.int .u8 0, .int .u8 0, .int .u8 0, .int .u8 0, .int .i64 0, .int .i64 0]).alloc (.cells #[.int .u8 0, .int .u8 0, .int .u8 0, .int .u8 0, .int .i64 0, .int .i64 0] 30))
  have HO := Lib.hid (Blk.new (((w.alloc (.cells #[.string (bS T), .bool bad] 116)).alloc (.cells #[.string ⟨#[]⟩, .bool false] 116)).alloc (.cells #[.int .u8 0, .int .u8 0, .int .u8 0, .int .u8 0, .int .i64 0, .int .i64 0] 30)) 30 #[.int .u8 0, .int .u8 0, .int .u8 0, .int .u8 0, .int .i64 0, .int .i64 0])
  have HW := Lib.hid (((below2 w (.cells #[.string (bS T), .bool bad] 116) (.cells #[.string ⟨#[]⟩, .bool false] 116)).alloc (by simp only [size_al]; omega) (.cells #[.int .u8 0, .int .u8 0, .int .u8 0, .int .u8 0, .int .i64 0, .int .i64 0] 30)).alloc (by simp only [size_al]; omega) (.cells #[.int .u8 0, .int .u8 0, .int .u8 0, .int .u8 0, .int .i64 0, .int .i64 0] 30))
  simp only [size_al] at HB HC HO
  generalize (((w.alloc (.cells #[.string (bS T), .bool bad] 116)).alloc (.cells #[.string ⟨#[]⟩, .bool false] 116)).alloc (.cells #[.int .u8 0, .int .u8 0, .int .u8 0, .int .u8 0, .int .i64 0, .int .i64 0] 30)).alloc (.cells #[.int .u8 0, .int .u8 0, .int .u8 0, .int .u8 0, .int .i64 0, .int .i64 0] 30) = W0 at *
  have HE0 := Lib.hid (HE.out.keep HW.out)
  obtain ⟨p4, hp4⟩ : ∃ p, w.heap.size + 1 + 1 + 1 = p := ⟨_, rfl⟩
  obtain ⟨p3, hp3⟩ : ∃ p, w.heap.size + 1 + 1 = p := ⟨_, rfl⟩
  obtain ⟨p2, hp2⟩ : ∃ p, w.heap.size + 1 = p := ⟨_, rfl⟩
  obtain ⟨p1, hp1⟩ : ∃ p, w.heap.size = p := ⟨_, rfl⟩
  have HPP : Hid ((p2 ≠ p1 ∧ p3 ≠ p1 ∧ p4 ≠ p1) ∧ (p1 ≠ p4 ∧ p2 ≠ p4 ∧ p3 ≠ p4) ∧ (p4 ≠ p2 ∧ p2 ≠ p3 ∧ p3 ≠ p2) ∧ (w.heap.size ≤ p1 ∧ w.heap.size ≤ p2 ∧ w.heap.size ≤ p3 ∧ w.heap.size ≤ p4)) := Lib.hid (by omega)
  rw [hp4] at HO ⊢
  rw [hp3] at HC ⊢
  rw [hp2] at HB ⊢
  rw [hp1] at HA ⊢
  clear hp1 hp2 hp3 hp4 HE0
  as_aux_lemma =>
  have la := loadAt_blk (T := 116) (C := #[.string (bS T), .bool bad]) HA.out Tryz.underlying116 rfl (by kernel_rfl)
  go_wp2_with (guard_target =~ wpList _ _ _ (⟨some 6, _, _, _, _, _⟩ :: _) _ _; refine op_load (p := .pointer (some ⟨p1, 0, none⟩)) 116 (.tmp 1) rfl rfl rfl la ?_)
  have HEn := Lib.hid (HE.out.keep HW.out)
  refine (BY1.out _ HEn.out).mono ?_
  rintro x wb ⟨rfl, hb⟩
  have HA2 := Lib.hid (HA.out.kp2 hb)
  have HB2 := Lib.hid (HB.out.kp2 hb)
  have HC2 := Lib.hid (HC.out.kp2 hb)
  have HO2 := Lib.hid (HO.out.kp2 hb)
  have HW2 := Lib.hid (HW.out.trans (hb.mono HW.out.size))
  clear hb HA HB HC HO HW
  have HA := HA2
  have HB := HB2
  have HC := HC2
  have HO := HO2
  have HW := HW2
  clear HA2 HB2 HC2 HO2 HW2
  clear la HEn BY1
  have st := storeAt_row (T := 116) (C := #[.string (bS R1.t), .bool R1.bad]) HA.out (by kernel_rfl) rfl (by kernel_rfl)
  have HA3 := Lib.hid (HA.out.row #[.string (bS R1.t), .bool R1.bad])
  have HB3 := Lib.hid (HB.out.row_other HPP.out.1.1 #[.string (bS R1.t), .bool R1.bad])
  have HC3 := Lib.hid (HC.out.row_other HPP.out.1.2.1 #[.string (bS R1.t), .bool R1.bad])
  have HO3 := Lib.hid (HO.out.row_other HPP.out.1.2.2 #[.string (bS R1.t), .bool R1.bad])
  have HW3 := Lib.hid (Below.setRow' HPP.out.2.2.2.1 HW.out #[.string (bS R1.t), .bool R1.bad])
  clear HA HB HC HO HW
  have k0 := HO3.out.cell (j := 0) rfl
  have k1 := HO3.out.free 0
  go_upto_region 3 with (guard_target =~ wpList _ _ _ (⟨none, _, _, _, _, _⟩ :: _) _ _; refine op_store (p := .pointer (some ⟨p1, 0, none⟩)) (C := .agg #[.string (bS R1.t), .bool R1.bad]) 116 (.tmp 1) (.tmp 8) rfl rfl rfl rfl rfl st ?_)
  have HA := Lib.hid (HA3.out.other HPP.out.2.1.1 0 (.int .u8 (N1 : Int)))
  have HB := Lib.hid (HB3.out.other HPP.out.2.1.2.1 0 (.int .u8 (N1 : Int)))
  have HC := Lib.hid (HC3.out.other HPP.out.2.1.2.2 0 (.int .u8 (N1 : Int)))
  have HO : Hid (Blk _ p4 30 #[.int .u8 (N1 : Int), .int .u8 0, .int .u8 0, .int .u8 0, .int .i64 0, .int .i64 0]) := Lib.hid (HO3.out.set 0 (.int .u8 (N1 : Int)))
  have HW := Lib.hid (HW3.out.setCell (p := ⟨p4, 0, none⟩) HPP.out.2.2.2.2.2.2 (.int .u8 (N1 : Int)))
  clear st k0 k1 HA3 HB3 HC3 HO3 HW3
  generalize (wb.setRow p1 #[.string (bS R1.t), .bool R1.bad]).setCell ⟨p4, 0, none⟩ (.int .u8 (N1 : Int)) = W1 at *
  as_aux_lemma =>
  have la := loadAt_blk (T := 116) (C := #[.string (bS R1.t), .bool R1.bad]) HA.out Tryz.underlying116 rfl (by kernel_rfl)
  go_wp2_with (guard_target =~ wpList _ _ _ (⟨some 13, _, _, _, _, _⟩ :: _) _ _; refine op_load (p := .pointer (some ⟨p1, 0, none⟩)) 116 (.tmp 1) rfl rfl rfl la ?_)
  refine (SK2.out _).mono ?_
  rintro x wa ⟨rfl, hb⟩
  have HA2 := Lib.hid (HA.out.kp2 hb)
  have HB2 := Lib.hid (HB.out.kp2 hb)
  have HC2 := Lib.hid (HC.out.kp2 hb)
  have HO2 := Lib.hid (HO.out.kp2 hb)
  have HW2 := Lib.hid (HW.out.trans (hb.mono HW.out.size))
  clear hb HA HB HC HO HW
  have HA := HA2
  have HB := HB2
  have HC := HC2
  have HO := HO2
  have HW := HW2
  clear HA2 HB2 HC2 HO2 HW2
  go_wp2_with fail
  have HEn := Lib.hid (HE.out.keep HW.out)
  refine (BY2.out _ HEn.out).mono ?_
  rintro x wb ⟨rfl, hb⟩
  have HA2 := Lib.hid (HA.out.kp2 hb)
  have HB2 := Lib.hid (HB.out.kp2 hb)
  have HC2 := Lib.hid (HC.out.kp2 hb)
  have HO2 := Lib.hid (HO.out.kp2 hb)
  have HW2 := Lib.hid (HW.out.trans (hb.mono HW.out.size))
  clear hb HA HB HC HO HW
  have HA := HA2
  have HB := HB2
  have HC := HC2
  have HO := HO2
  have HW := HW2
  clear HA2 HB2 HC2 HO2 HW2
  clear la HEn SK2 BY2
  have st := storeAt_row (T := 116) (C := #[.string (bS R2.t), .bool R2.bad]) HA.out (by kernel_rfl) rfl (by kernel_rfl)
  have HA3 := Lib.hid (HA.out.row #[.string (bS R2.t), .bool R2.bad])
  have HB3 := Lib.hid (HB.out.row_other HPP.out.1.1 #[.string (bS R2.t), .bool R2.bad])
  have HC3 := Lib.hid (HC.out.row_other HPP.out.1.2.1 #[.string (bS R2.t), .bool R2.bad])
  have HO3 := Lib.hid (HO.out.row_other HPP.out.1.2.2 #[.string (bS R2.t), .bool R2.bad])
  have HW3 := Lib.hid (Below.setRow' HPP.out.2.2.2.1 HW.out #[.string (bS R2.t), .bool R2.bad])
  clear HA HB HC HO HW
  have k0 := HO3.out.cell (j := 1) rfl
  have k1 := HO3.out.free 1
  go_upto_region 4 with (guard_target =~ wpList _ _ _ (⟨none, _, _, _, _, _⟩ :: _) _ _; refine op_store (p := .pointer (some ⟨p1, 0, none⟩)) (C := .agg #[.string (bS R2.t), .bool R2.bad]) 116 (.tmp 1) (.tmp 16) rfl rfl rfl rfl rfl st ?_)
  have HA := Lib.hid (HA3.out.other HPP.out.2.1.1 1 (.int .u8 (N2 : Int)))
  have HB := Lib.hid (HB3.out.other HPP.out.2.1.2.1 1 (.int .u8 (N2 : Int)))
  have HC := Lib.hid (HC3.out.other HPP.out.2.1.2.2 1 (.int .u8 (N2 : Int)))
  have HO : Hid (Blk _ p4 30 #[.int .u8 (N1 : Int), .int .u8 (N2 : Int), .int .u8 0, .int .u8 0, .int .i64 0, .int .i64 0]) := Lib.hid (HO3.out.set 1 (.int .u8 (N2 : Int)))
  have HW := Lib.hid (HW3.out.setCell (p := ⟨p4, 1, none⟩) HPP.out.2.2.2.2.2.2 (.int .u8 (N2 : Int)))
  clear st k0 k1 HA3 HB3 HC3 HO3 HW3
  generalize (wb.setRow p1 #[.string (bS R2.t), .bool R2.bad]).setCell ⟨p4, 1, none⟩ (.int .u8 (N2 : Int)) = W2 at *
  as_aux_lemma =>
  have la := loadAt_blk (T := 116) (C := #[.string (bS R2.t), .bool R2.bad]) HA.out Tryz.underlying116 rfl (by kernel_rfl)
  go_wp2_with (guard_target =~ wpList _ _ _ (⟨some 21, _, _, _, _, _⟩ :: _) _ _; refine op_load (p := .pointer (some ⟨p1, 0, none⟩)) 116 (.tmp 1) rfl rfl rfl la ?_)
  refine (SK3.out _).mono ?_
  rintro x wa ⟨rfl, hb⟩
  have HA2 := Lib.hid (HA.out.kp2 hb)
  have HB2 := Lib.hid (HB.out.kp2 hb)
  have HC2 := Lib.hid (HC.out.kp2 hb)
  have HO2 := Lib.hid (HO.out.kp2 hb)
  have HW2 := Lib.hid (HW.out.trans (hb.mono HW.out.size))
  clear hb HA HB HC HO HW
  have HA := HA2
  have HB := HB2
  have HC := HC2
  have HO := HO2
  have HW := HW2
  clear HA2 HB2 HC2 HO2 HW2
  go_wp2_with fail
  have HEn := Lib.hid (HE.out.keep HW.out)
  refine (BY3.out _ HEn.out).mono ?_
  rintro x wb ⟨rfl, hb⟩
  have HA2 := Lib.hid (HA.out.kp2 hb)
  have HB2 := Lib.hid (HB.out.kp2 hb)
  have HC2 := Lib.hid (HC.out.kp2 hb)
  have HO2 := Lib.hid (HO.out.kp2 hb)
  have HW2 := Lib.hid (HW.out.trans (hb.mono HW.out.size))
  clear hb HA HB HC HO HW
  have HA := HA2
  have HB := HB2
  have HC := HC2
  have HO := HO2
  have HW := HW2
  clear HA2 HB2 HC2 HO2 HW2
  clear la HEn SK3 BY3
  have st := storeAt_row (T := 116) (C := #[.string (bS R3.t), .bool R3.bad]) HA.out (by kernel_rfl) rfl (by kernel_rfl)
  have HA3 := Lib.hid (HA.out.row #[.string (bS R3.t), .bool R3.bad])
  have HB3 := Lib.hid (HB.out.row_other HPP.out.1.1 #[.string (bS R3.t), .bool R3.bad])
  have HC3 := Lib.hid (HC.out.row_other HPP.out.1.2.1 #[.string (bS R3.t), .bool R3.bad])
  have HO3 := Lib.hid (HO.out.row_other HPP.out.1.2.2 #[.string (bS R3.t), .bool R3.bad])
  have HW3 := Lib.hid (Below.setRow' HPP.out.2.2.2.1 HW.out #[.string (bS R3.t), .bool R3.bad])
  clear HA HB HC HO HW
  have k0 := HO3.out.cell (j := 2) rfl
  have k1 := HO3.out.free 2
  go_upto_region 5 with (guard_target =~ wpList _ _ _ (⟨none, _, _, _, _, _⟩ :: _) _ _; refine op_store (p := .pointer (some ⟨p1, 0, none⟩)) (C := .agg #[.string (bS R3.t), .bool R3.bad]) 116 (.tmp 1) (.tmp 24) rfl rfl rfl rfl rfl st ?_)
  have HA := Lib.hid (HA3.out.other HPP.out.2.1.1 2 (.int .u8 (N3 : Int)))
  have HB := Lib.hid (HB3.out.other HPP.out.2.1.2.1 2 (.int .u8 (N3 : Int)))
  have HC := Lib.hid (HC3.out.other HPP.out.2.1.2.2 2 (.int .u8 (N3 : Int)))
  have HO : Hid (Blk _ p4 30 #[.int .u8 (N1 : Int), .int .u8 (N2 : Int), .int .u8 (N3 : Int), .int .u8 0, .int .i64 0, .int .i64 0]) := Lib.hid (HO3.out.set 2 (.int .u8 (N3 : Int)))
  have HW := Lib.hid (HW3.out.setCell (p := ⟨p4, 2, none⟩) HPP.out.2.2.2.2.2.2 (.int .u8 (N3 : Int)))
  clear st k0 k1 HA3 HB3 HC3 HO3 HW3
  generalize (wb.setRow p1 #[.string (bS R3.t), .bool R3.bad]).setCell ⟨p4, 2, none⟩ (.int .u8 (N3 : Int)) = W3 at *
  as_aux_lemma =>
  have la := loadAt_blk (T := 116) (C := #[.string (bS R3.t), .bool R3.bad]) HA.out Tryz.underlying116 rfl (by kernel_rfl)
  go_wp2_with (guard_target =~ wpList _ _ _ (⟨some 29, _, _, _, _, _⟩ :: _) _ _; refine op_load (p := .pointer (some ⟨p1, 0, none⟩)) 116 (.tmp 1) rfl rfl rfl la ?_)
  refine (SK4.out _).mono ?_
  rintro x wa ⟨rfl, hb⟩
  have HA2 := Lib.hid (HA.out.kp2 hb)
  have HB2 := Lib.hid (HB.out.kp2 hb)
  have HC2 := Lib.hid (HC.out.kp2 hb)
  have HO2 := Lib.hid (HO.out.kp2 hb)
  have HW2 := Lib.hid (HW.out.trans (hb.mono HW.out.size))
  clear hb HA HB HC HO HW
  have HA := HA2
  have HB := HB2
  have HC := HC2
  have HO := HO2
  have HW := HW2
  clear HA2 HB2 HC2 HO2 HW2
  go_wp2_with fail
  have HEn := Lib.hid (HE.out.keep HW.out)
  refine (BY4.out _ HEn.out).mono ?_
  rintro x wb ⟨rfl, hb⟩
  have HA2 := Lib.hid (HA.out.kp2 hb)
  have HB2 := Lib.hid (HB.out.kp2 hb)
  have HC2 := Lib.hid (HC.out.kp2 hb)
  have HO2 := Lib.hid (HO.out.kp2 hb)
  have HW2 := Lib.hid (HW.out.trans (hb.mono HW.out.size))
  clear hb HA HB HC HO HW
  have HA := HA2
  have HB := HB2
  have HC := HC2
  have HO := HO2
  have HW := HW2
  clear HA2 HB2 HC2 HO2 HW2
  clear la HEn SK4 BY4
  have st := storeAt_row (T := 116) (C := #[.string (bS R4.t), .bool R4.bad]) HA.out (by kernel_rfl) rfl (by kernel_rfl)
  have HA3 := Lib.hid (HA.out.row #[.string (bS R4.t), .bool R4.bad])
  have HB3 := Lib.hid (HB.out.row_other HPP.out.1.1 #[.string (bS R4.t), .bool R4.bad])
  have HC3 := Lib.hid (HC.out.row_other HPP.out.1.2.1 #[.string (bS R4.t), .bool R4.bad])
  have HO3 := Lib.hid (HO.out.row_other HPP.out.1.2.2 #[.string (bS R4.t), .bool R4.bad])
  have HW3 := Lib.hid (Below.setRow' HPP.out.2.2.2.1 HW.out #[.string (bS R4.t), .bool R4.bad])
  clear HA HB HC HO HW
  have k0 := HO3.out.cell (j := 3) rfl
  have k1 := HO3.out.free 3
  go_upto_region 6 with (guard_target =~ wpList _ _ _ (⟨none, _, _, _, _, _⟩ :: _) _ _; refine op_store (p := .pointer (some ⟨p1, 0, none⟩)) (C := .agg #[.string (bS R4.t), .bool R4.bad]) 116 (.tmp 1) (.tmp 32) rfl rfl rfl rfl rfl st ?_)
  have HA := Lib.hid (HA3.out.other HPP.out.2.1.1 3 (.int .u8 (N4 : Int)))
  have HB := Lib.hid (HB3.out.other HPP.out.2.1.2.1 3 (.int .u8 (N4 : Int)))
  have HC := Lib.hid (HC3.out.other HPP.out.2.1.2.2 3 (.int .u8 (N4 : Int)))
  have HO : Hid (Blk _ p4 30 #[.int .u8 (N1 : Int), .int .u8 (N2 : Int), .int .u8 (N3 : Int), .int .u8 (N4 : Int), .int .i64 0, .int .i64 0]) := Lib.hid (HO3.out.set 3 (.int .u8 (N4 : Int)))
  have HW := Lib.hid (HW3.out.setCell (p := ⟨p4, 3, none⟩) HPP.out.2.2.2.2.2.2 (.int .u8 (N4 : Int)))
  clear st k0 k1 HA3 HB3 HC3 HO3 HW3
  generalize (wb.setRow p1 #[.string (bS R4.t), .bool R4.bad]).setCell ⟨p4, 3, none⟩ (.int .u8 (N4 : Int)) = W4 at *
  as_aux_lemma =>
  have la := loadAt_blk (T := 116) (C := #[.string (bS R4.t), .bool R4.bad]) HA.out Tryz.underlying116 rfl (by kernel_rfl)
  go_wp2_with (guard_target =~ wpList _ _ _ (⟨some 37, _, _, _, _, _⟩ :: _) _ _; refine op_load (p := .pointer (some ⟨p1, 0, none⟩)) 116 (.tmp 1) rfl rfl rfl la ?_)
  refine (SK5.out _).mono ?_
  rintro x wa ⟨rfl, hb⟩
  have HA2 := Lib.hid (HA.out.kp2 hb)
  have HB2 := Lib.hid (HB.out.kp2 hb)
  have HC2 := Lib.hid (HC.out.kp2 hb)
  have HO2 := Lib.hid (HO.out.kp2 hb)
  have HW2 := Lib.hid (HW.out.trans (hb.mono HW.out.size))
  clear hb HA HB HC HO HW
  have HA := HA2
  have HB := HB2
  have HC := HC2
  have HO := HO2
  have HW := HW2
  clear HA2 HB2 HC2 HO2 HW2
  go_wp2_with fail
  have HEn := Lib.hid (HE.out.keep HW.out)
  refine (BY5.out _ HEn.out).mono ?_
  rintro x wb ⟨rfl, hb⟩
  have HA2 := Lib.hid (HA.out.kp2 hb)
  have HB2 := Lib.hid (HB.out.kp2 hb)
  have HC2 := Lib.hid (HC.out.kp2 hb)
  have HO2 := Lib.hid (HO.out.kp2 hb)
  have HW2 := Lib.hid (HW.out.trans (hb.mono HW.out.size))
  clear hb HA HB HC HO HW
  have HA := HA2
  have HB := HB2
  have HC := HC2
  have HO := HO2
  have HW := HW2
  clear HA2 HB2 HC2 HO2 HW2
  clear la HEn SK5 BY5
  have st := storeAt_row (T := 116) (C := #[.string (bS R5.t), .bool R5.bad]) HA.out (by kernel_rfl) rfl (by kernel_rfl)
  have HA3 := Lib.hid (HA.out.row #[.string (bS R5.t), .bool R5.bad])
  have HB3 := Lib.hid (HB.out.row_other HPP.out.1.1 #[.string (bS R5.t), .bool R5.bad])
  have HC3 := Lib.hid (HC.out.row_other HPP.out.1.2.1 #[.string (bS R5.t), .bool R5.bad])
  have HO3 := Lib.hid (HO.out.row_other HPP.out.1.2.2 #[.string (bS R5.t), .bool R5.bad])
  have HW3 := Lib.hid (Below.setRow' HPP.out.2.2.2.1 HW.out #[.string (bS R5.t), .bool R5.bad])
  clear HA HB HC HO HW
  have k0 := HO3.out.cell (j := 4) rfl
  have k1 := HO3.out.free 4
  go_upto_region 7 with (guard_target =~ wpList _ _ _ (⟨none, _, _, _, _, _⟩ :: _) _ _; refine op_store (p := .pointer (some ⟨p1, 0, none⟩)) (C := .agg #[.string (bS R5.t), .bool R5.bad]) 116 (.tmp 1) (.tmp 40) rfl rfl rfl rfl rfl st ?_)
  have HA := Lib.hid (HA3.out.other HPP.out.2.1.1 4 (.int .i64 (N5 : Int)))
  have HB := Lib.hid (HB3.out.other HPP.out.2.1.2.1 4 (.int .i64 (N5 : Int)))
  have HC := Lib.hid (HC3.out.other HPP.out.2.1.2.2 4 (.int .i64 (N5 : Int)))
  have HO : Hid (Blk _ p4 30 #[.int .u8 (N1 : Int), .int .u8 (N2 : Int), .int .u8 (N3 : Int), .int .u8 (N4 : Int), .int .i64 (N5 : Int), .int .i64 0]) := Lib.hid (HO3.out.set 4 (.int .i64 (N5 : Int)))
  have HW := Lib.hid (HW3.out.setCell (p := ⟨p4, 4, none⟩) HPP.out.2.2.2.2.2.2 (.int .i64 (N5 : Int)))
  clear st k0 k1 HA3 HB3 HC3 HO3 HW3
  generalize (wb.setRow p1 #[.string (bS R5.t), .bool R5.bad]).setCell ⟨p4, 4, none⟩ (.int .i64 (N5 : Int)) = W5 at *
  have la := loadAt_blk (T := 116) (C := #[.string (bS R5.t), .bool R5.bad]) HA.out Tryz.underlying116 rfl (by kernel_rfl)
  go_wp2_with (guard_target =~ wpList _ _ _ (⟨some 43, _, _, _, _, _⟩ :: _) _ _; refine op_load (p := .pointer (some ⟨p1, 0, none⟩)) 116 (.tmp 1) rfl rfl rfl la ?_)
  refine (HS.out _).mono ?_
  rintro x wa ⟨rfl, hb⟩
  have HA2 := Lib.hid (HA.out.kp2 hb)
  have HB2 := Lib.hid (HB.out.kp2 hb)
  have HC2 := Lib.hid (HC.out.kp2 hb)
  have HO2 := Lib.hid (HO.out.kp2 hb)
  have HW2 := Lib.hid (HW.out.trans (hb.mono HW.out.size))
  clear hb HA HB HC HO HW
  have HA := HA2
  have HB := HB2
  have HC := HC2
  have HO := HO2
  have HW := HW2
  clear HA2 HB2 HC2 HO2 HW2
  clear la HS
  cases B with
  | false =>
    have HX2 : Hid (RX = R5 ∧ VX = ⟨N1, N2, N3, N4, N5, 0⟩) := Lib.hid ⟨HX.out.1.trans (if_neg (by decide)), HX.out.2⟩
    clear HX SK6 NU6
    go_upto_region 9 with fail
    refine rest_begin (by kernel_rfl) ?_
    have HAd := Lib.hid (HA.out.drewN 1)
    have HBd := Lib.hid (HB.out.drewN 1)
    have HCd := Lib.hid (HC.out.drewN 1)
    have HOd := Lib.hid (HO.out.drewN 1)
    have HWd := Lib.hid (below_drewN HW.out 1)
    clear HA HB HC HO HW
    have hdr : wa.drewN 1 = wa.drew := rfl
    rw [hdr] at HAd HBd HCd HOd HWd
    generalize wa.drew = wd at *
    clear hdr
    have la := loadAt_blk (T := 116) (C := #[.string (bS R5.t), .bool R5.bad]) HAd.out Tryz.underlying116 rfl (by kernel_rfl)
    have lo := loadAt_blk (T := 30) (C := #[.int .u8 (N1 : Int), .int .u8 (N2 : Int), .int .u8 (N3 : Int), .int .u8 (N4 : Int), .int .i64 (N5 : Int), .int .i64 0]) HOd.out Tryz.underlying30 rfl (by kernel_rfl)
    have s1 := storeAt_row (T := 116) (C := #[.string (bS R5.t), .bool R5.bad]) HBd.out (by kernel_rfl) rfl (by kernel_rfl)
    have HO2 := Lib.hid (HOd.out.row_other HPP.out.2.2.1.1 #[.string (bS R5.t), .bool R5.bad])
    have HC2 := Lib.hid (HCd.out.row_other HPP.out.2.2.1.2.2 #[.string (bS R5.t), .bool R5.bad])
    have HB2 := Lib.hid (HBd.out.row #[.string (bS R5.t), .bool R5.bad])
    have HW2 := Lib.hid (Below.setRow' HPP.out.2.2.2.2.1 HWd.out #[.string (bS R5.t), .bool R5.bad])
    have lo2 := loadAt_blk (T := 30) (C := #[.int .u8 (N1 : Int), .int .u8 (N2 : Int), .int .u8 (N3 : Int), .int .u8 (N4 : Int), .int .i64 (N5 : Int), .int .i64 0]) HO2.out Tryz.underlying30 rfl (by kernel_rfl)
    have s2 := storeAt_row (T := 30) (C := #[.int .u8 (N1 : Int), .int .u8 (N2 : Int), .int .u8 (N3 : Int), .int .u8 (N4 : Int), .int .i64 (N5 : Int), .int .i64 0]) HC2.out (by kernel_rfl) rfl (by kernel_rfl)
    have HB3 := Lib.hid (HB2.out.row_other HPP.out.2.2.1.2.1 #[.int .u8 (N1 : Int), .int .u8 (N2 : Int), .int .u8 (N3 : Int), .int .u8 (N4 : Int), .int .i64 (N5 : Int), .int .i64 0])
    have HC3 := Lib.hid (HC2.out.row #[.int .u8 (N1 : Int), .int .u8 (N2 : Int), .int .u8 (N3 : Int), .int .u8 (N4 : Int), .int .i64 (N5 : Int), .int .i64 0])
    have HW3 := Lib.hid (Below.setRow' HPP.out.2.2.2.2.2.1 HW2.out #[.int .u8 (N1 : Int), .int .u8 (N2 : Int), .int .u8 (N3 : Int), .int .u8 (N4 : Int), .int .i64 (N5 : Int), .int .i64 0])
    have lf1 := loadVar_blk (T := 116) HB3.out Tryz.underlying116 rfl (by kernel_rfl)
    have lf2 := loadVar_blk (T := 30) HC3.out Tryz.underlying30 rfl (by kernel_rfl)
    clear HAd HBd HCd HOd HWd HO2 HC2 HB2 HW2 HB3 HC3
    refine rest_open 4 (by kernel_rfl) ?_
    refine rest_two (i := 0) (j := 1) (by kernel_rfl) rfl rfl ?_ ?_
    · go_wp2_with (refine op_load (p := .pointer (some ⟨p1, 0, none⟩)) 116 (.tmp 1) rfl rfl rfl la ?_)
      refine rest_two (i := 1) (j := 2) (by kernel_rfl) rfl rfl ?_ ?_
      · go_wp2_with (refine op_load (p := .pointer (some ⟨p4, 0, none⟩)) 30 (.tmp 4) rfl rfl rfl lo ?_)
        refine rest_one (i := 2) (by kernel_rfl) rfl ?_
        go_wp2_with (refine op_store (p := .pointer (some ⟨p2, 0, none⟩)) (C := .agg #[.string (bS R5.t), .bool R5.bad]) 116 (.tmp 2) (.tmp 52) rfl rfl rfl rfl rfl s1 ?_)
        refine rest_one (i := 3) (by kernel_rfl) rfl ?_
        go_wp2_with (refine op_store (p := .pointer (some ⟨p3, 0, none⟩)) (C := .agg #[.int .u8 (N1 : Int), .int .u8 (N2 : Int), .int .u8 (N3 : Int), .int .u8 (N4 : Int), .int .i64 (N5 : Int), .int .i64 0]) 30 (.tmp 3) (.tmp 53) rfl rfl rfl rfl rfl s2 ?_)
        refine rest_zero (by kernel_rfl) ?_
        go_wp2_with fail
        (try simp only [Exit.inBlock, Exit.then])
        refine bodyPost_ret (results_cells Tryz.results74 rfl rfl lf1 lf2) rfl ?_
        exact ⟨by rw [HX2.out.1, HX2.out.2]; rfl, HW3.out⟩
      · go_wp2_with (refine op_store (p := .pointer (some ⟨p2, 0, none⟩)) (C := .agg #[.string (bS R5.t), .bool R5.bad]) 116 (.tmp 2) (.tmp 52) rfl rfl rfl rfl rfl s1 ?_)
        refine rest_one (i := 1) (by kernel_rfl) rfl ?_
        go_wp2_with (refine op_load (p := .pointer (some ⟨p4, 0, none⟩)) 30 (.tmp 4) rfl rfl rfl lo2 ?_)
        refine rest_one (i := 3) (by kernel_rfl) rfl ?_
        go_wp2_with (refine op_store (p := .pointer (some ⟨p3, 0, none⟩)) (C := .agg #[.int .u8 (N1 : Int), .int .u8 (N2 : Int), .int .u8 (N3 : Int), .int .u8 (N4 : Int), .int .i64 (N5 : Int), .int .i64 0]) 30 (.tmp 3) (.tmp 53) rfl rfl rfl rfl rfl s2 ?_)
        refine rest_zero (by kernel_rfl) ?_
        go_wp2_with fail
        (try simp only [Exit.inBlock, Exit.then])
        refine bodyPost_ret (results_cells Tryz.results74 rfl rfl lf1 lf2) rfl ?_
        exact ⟨by rw [HX2.out.1, HX2.out.2]; rfl, HW3.out⟩
    · go_wp2_with (refine op_load (p := .pointer (some ⟨p4, 0, none⟩)) 30 (.tmp 4) rfl rfl rfl lo ?_)
      refine rest_one (i := 0) (by kernel_rfl) rfl ?_
      go_wp2_with (refine op_load (p := .pointer (some ⟨p1, 0, none⟩)) 116 (.tmp 1) rfl rfl rfl la ?_)
      refine rest_one (i := 2) (by kernel_rfl) rfl ?_
      go_wp2_with (refine op_store (p := .pointer (some ⟨p2, 0, none⟩)) (C := .agg #[.string (bS R5.t), .bool R5.bad]) 116 (.tmp 2) (.tmp 52) rfl rfl rfl rfl rfl s1 ?_)
      refine rest_one (i := 3) (by kernel_rfl) rfl ?_
      go_wp2_with (refine op_store (p := .pointer (some ⟨p3, 0, none⟩)) (C := .agg #[.int .u8 (N1 : Int), .int .u8 (N2 : Int), .int .u8 (N3 : Int), .int .u8 (N4 : Int), .int .i64 (N5 : Int), .int .i64 0]) 30 (.tmp 3) (.tmp 53) rfl rfl rfl rfl rfl s2 ?_)
      refine rest_zero (by kernel_rfl) ?_
      go_wp2_with fail
      (try simp only [Exit.inBlock, Exit.then])
      refine bodyPost_ret (results_cells Tryz.results74 rfl rfl lf1 lf2) rfl ?_
      exact ⟨by rw [HX2.out.1, HX2.out.2]; rfl, HW3.out⟩
  | true =>
    have HX2 : Hid (RX = R6 ∧ VX = ⟨N1, N2, N3, N4, N5, N6⟩) := Lib.hid ⟨HX.out.1.trans (if_pos rfl), HX.out.2⟩
    clear HX
    go_upto_region 8 with fail
    as_aux_lemma =>
    have la := loadAt_blk (T := 116) (C := #[.string (bS R5.t), .bool R5.bad]) HA.out Tryz.underlying116 rfl (by kernel_rfl)
    go_wp2_with (guard_target =~ wpList _ _ _ (⟨some 46, _, _, _, _, _⟩ :: _) _ _; refine op_load (p := .pointer (some ⟨p1, 0, none⟩)) 116 (.tmp 1) rfl rfl rfl la ?_)
    refine (SK6.out _).mono ?_
    rintro x wa ⟨rfl, hb⟩
    have HA2 := Lib.hid (HA.out.kp2 hb)
    have HB2 := Lib.hid (HB.out.kp2 hb)
    have HC2 := Lib.hid (HC.out.kp2 hb)
    have HO2 := Lib.hid (HO.out.kp2 hb)
    have HW2 := Lib.hid (HW.out.trans (hb.mono HW.out.size))
    clear hb HA HB HC HO HW
    have HA := HA2
    have HB := HB2
    have HC := HC2
    have HO := HO2
    have HW := HW2
    clear HA2 HB2 HC2 HO2 HW2
    go_wp2_with fail
    have HEn := Lib.hid (HE.out.keep HW.out)
    refine (NU6.out _ HEn.out).mono ?_
    rintro x wb ⟨rfl, hb⟩
    have HA2 := Lib.hid (HA.out.kp2 hb)
    have HB2 := Lib.hid (HB.out.kp2 hb)
    have HC2 := Lib.hid (HC.out.kp2 hb)
    have HO2 := Lib.hid (HO.out.kp2 hb)
    have HW2 := Lib.hid (HW.out.trans (hb.mono HW.out.size))
    clear hb HA HB HC HO HW
    have HA := HA2
    have HB := HB2
    have HC := HC2
    have HO := HO2
    have HW := HW2
    clear HA2 HB2 HC2 HO2 HW2
    clear la HEn SK6 NU6
    have st := storeAt_row (T := 116) (C := #[.string (bS R6.t), .bool R6.bad]) HA.out (by kernel_rfl) rfl (by kernel_rfl)
    have HA3 := Lib.hid (HA.out.row #[.string (bS R6.t), .bool R6.bad])
    have HB3 := Lib.hid (HB.out.row_other HPP.out.1.1 #[.string (bS R6.t), .bool R6.bad])
    have HC3 := Lib.hid (HC.out.row_other HPP.out.1.2.1 #[.string (bS R6.t), .bool R6.bad])
    have HO3 := Lib.hid (HO.out.row_other HPP.out.1.2.2 #[.string (bS R6.t), .bool R6.bad])
    have HW3 := Lib.hid (Below.setRow' HPP.out.2.2.2.1 HW.out #[.string (bS R6.t), .bool R6.bad])
    clear HA HB HC HO HW
    have k0 := HO3.out.cell (j := 5) rfl
    have k1 := HO3.out.free 5
    go_upto_region 9 with (guard_target =~ wpList _ _ _ (⟨none, _, _, _, _, _⟩ :: _) _ _; refine op_store (p := .pointer (some ⟨p1, 0, none⟩)) (C := .agg #[.string (bS R6.t), .bool R6.bad]) 116 (.tmp 1) (.tmp 49) rfl rfl rfl rfl rfl st ?_)
    have HA := Lib.hid (HA3.out.other HPP.out.2.1.1 5 (.int .i64 (N6 : Int)))
    have HB := Lib.hid (HB3.out.other HPP.out.2.1.2.1 5 (.int .i64 (N6 : Int)))
    have HC := Lib.hid (HC3.out.other HPP.out.2.1.2.2 5 (.int .i64 (N6 : Int)))
    have HO : Hid (Blk _ p4 30 #[.int .u8 (N1 : Int), .int .u8 (N2 : Int), .int .u8 (N3 : Int), .int .u8 (N4 : Int), .int .i64 (N5 : Int), .int .i64 (N6 : Int)]) := Lib.hid (HO3.out.set 5 (.int .i64 (N6 : Int)))
    have HW := Lib.hid (HW3.out.setCell (p := ⟨p4, 5, none⟩) HPP.out.2.2.2.2.2.2 (.int .i64 (N6 : Int)))
    clear st k0 k1 HA3 HB3 HC3 HO3 HW3
    generalize (wb.setRow p1 #[.string (bS R6.t), .bool R6.bad]).setCell ⟨p4, 5, none⟩ (.int .i64 (N6 : Int)) = W6 at *
    refine rest_begin (by kernel_rfl) ?_
    have HAd := Lib.hid (HA.out.drewN 1)
    have HBd := Lib.hid (HB.out.drewN 1)
    have HCd := Lib.hid (HC.out.drewN 1)
    have HOd := Lib.hid (HO.out.drewN 1)
    have HWd := Lib.hid (below_drewN HW.out 1)
    clear HA HB HC HO HW
    have hdr : W6.drewN 1 = W6.drew := rfl
    rw [hdr] at HAd HBd HCd HOd HWd
    generalize W6.drew = wd at *
    clear hdr
    have la := loadAt_blk (T := 116) (C := #[.string (bS R6.t), .bool R6.bad]) HAd.out Tryz.underlying116 rfl (by kernel_rfl)
    have lo := loadAt_blk (T := 30) (C := #[.int .u8 (N1 : Int), .int .u8 (N2 : Int), .int .u8 (N3 : Int), .int .u8 (N4 : Int), .int .i64 (N5 : Int), .int .i64 (N6 : Int)]) HOd.out Tryz.underlying30 rfl (by kernel_rfl)
    have s1 := storeAt_row (T := 116) (C := #[.string (bS R6.t), .bool R6.bad]) HBd.out (by kernel_rfl) rfl (by kernel_rfl)
    have HO2 := Lib.hid (HOd.out.row_other HPP.out.2.2.1.1 #[.string (bS R6.t), .bool R6.bad])
    have HC2 := Lib.hid (HCd.out.row_other HPP.out.2.2.1.2.2 #[.string (bS R6.t), .bool R6.bad])
    have HB2 := Lib.hid (HBd.out.row #[.string (bS R6.t), .bool R6.bad])
    have HW2 := Lib.hid (Below.setRow' HPP.out.2.2.2.2.1 HWd.out #[.string (bS R6.t), .bool R6.bad])
    have lo2 := loadAt_blk (T := 30) (C := #[.int .u8 (N1 : Int), .int .u8 (N2 : Int), .int .u8 (N3 : Int), .int .u8 (N4 : Int), .int .i64 (N5 : Int), .int .i64 (N6 : Int)]) HO2.out Tryz.underlying30 rfl (by kernel_rfl)
    have s2 := storeAt_row (T := 30) (C := #[.int .u8 (N1 : Int), .int .u8 (N2 : Int), .int .u8 (N3 : Int), .int .u8 (N4 : Int), .int .i64 (N5 : Int), .int .i64 (N6 : Int)]) HC2.out (by kernel_rfl) rfl (by kernel_rfl)
    have HB3 := Lib.hid (HB2.out.row_other HPP.out.2.2.1.2.1 #[.int .u8 (N1 : Int), .int .u8 (N2 : Int), .int .u8 (N3 : Int), .int .u8 (N4 : Int), .int .i64 (N5 : Int), .int .i64 (N6 : Int)])
    have HC3 := Lib.hid (HC2.out.row #[.int .u8 (N1 : Int), .int .u8 (N2 : Int), .int .u8 (N3 : Int), .int .u8 (N4 : Int), .int .i64 (N5 : Int), .int .i64 (N6 : Int)])
    have HW3 := Lib.hid (Below.setRow' HPP.out.2.2.2.2.2.1 HW2.out #[.int .u8 (N1 : Int), .int .u8 (N2 : Int), .int .u8 (N3 : Int), .int .u8 (N4 : Int), .int .i64 (N5 : Int), .int .i64 (N6 : Int)])
    have lf1 := loadVar_blk (T := 116) HB3.out Tryz.underlying116 rfl (by kernel_rfl)
    have lf2 := loadVar_blk (T := 30) HC3.out Tryz.underlying30 rfl (by kernel_rfl)
    clear HAd HBd HCd HOd HWd HO2 HC2 HB2 HW2 HB3 HC3
    refine rest_open 4 (by kernel_rfl) ?_
    refine rest_two (i := 0) (j := 1) (by kernel_rfl) rfl rfl ?_ ?_
    · go_wp2_with (refine op_load (p := .pointer (some ⟨p1, 0, none⟩)) 116 (.tmp 1) rfl rfl rfl la ?_)
      refine rest_two (i := 1) (j := 2) (by kernel_rfl) rfl rfl ?_ ?_
      · go_wp2_with (refine op_load (p := .pointer (some ⟨p4, 0, none⟩)) 30 (.tmp 4) rfl rfl rfl lo ?_)
        refine rest_one (i := 2) (by kernel_rfl) rfl ?_
        go_wp2_with (refine op_store (p := .pointer (some ⟨p2, 0, none⟩)) (C := .agg #[.string (bS R6.t), .bool R6.bad]) 116 (.tmp 2) (.tmp 52) rfl rfl rfl rfl rfl s1 ?_)
        refine rest_one (i := 3) (by kernel_rfl) rfl ?_
        go_wp2_with (refine op_store (p := .pointer (some ⟨p3, 0, none⟩)) (C := .agg #[.int .u8 (N1 : Int), .int .u8 (N2 : Int), .int .u8 (N3 : Int), .int .u8 (N4 : Int), .int .i64 (N5 : Int), .int .i64 (N6 : Int)]) 30 (.tmp 3) (.tmp 53) rfl rfl rfl rfl rfl s2 ?_)
        refine rest_zero (by kernel_rfl) ?_
        go_wp2_with fail
        (try simp only [Exit.inBlock, Exit.then])
        refine bodyPost_ret (results_cells Tryz.results74 rfl rfl lf1 lf2) rfl ?_
        exact ⟨by rw [HX2.out.1, HX2.out.2]; rfl, HW3.out⟩
      · go_wp2_with (refine op_store (p := .pointer (some ⟨p2, 0, none⟩)) (C := .agg #[.string (bS R6.t), .bool R6.bad]) 116 (.tmp 2) (.tmp 52) rfl rfl rfl rfl rfl s1 ?_)
        refine rest_one (i := 1) (by kernel_rfl) rfl ?_
        go_wp2_with (refine op_load (p := .pointer (some ⟨p4, 0, none⟩)) 30 (.tmp 4) rfl rfl rfl lo2 ?_)
        refine rest_one (i := 3) (by kernel_rfl) rfl ?_
        go_wp2_with (refine op_store (p := .pointer (some ⟨p3, 0, none⟩)) (C := .agg #[.int .u8 (N1 : Int), .int .u8 (N2 : Int), .int .u8 (N3 : Int), .int .u8 (N4 : Int), .int .i64 (N5 : Int), .int .i64 (N6 : Int)]) 30 (.tmp 3) (.tmp 53) rfl rfl rfl rfl rfl s2 ?_)
        refine rest_zero (by kernel_rfl) ?_
        go_wp2_with fail
        (try simp only [Exit.inBlock, Exit.then])
        refine bodyPost_ret (results_cells Tryz.results74 rfl rfl lf1 lf2) rfl ?_
        exact ⟨by rw [HX2.out.1, HX2.out.2]; rfl, HW3.out⟩
    · go_wp2_with (refine op_load (p := .pointer (some ⟨p4, 0, none⟩)) 30 (.tmp 4) rfl rfl rfl lo ?_)
      refine rest_one (i := 0) (by kernel_rfl) rfl ?_
      go_wp2_with (refine op_load (p := .pointer (some ⟨p1, 0, none⟩)) 116 (.tmp 1) rfl rfl rfl la ?_)
      refine rest_one (i := 2) (by kernel_rfl) rfl ?_
      go_wp2_with (refine op_store (p := .pointer (some ⟨p2, 0, none⟩)) (C := .agg #[.string (bS R6.t), .bool R6.bad]) 116 (.tmp 2) (.tmp 52) rfl rfl rfl rfl rfl s1 ?_)
      refine rest_one (i := 3) (by kernel_rfl) rfl ?_
      go_wp2_with (refine op_store (p := .pointer (some ⟨p3, 0, none⟩)) (C := .agg #[.int .u8 (N1 : Int), .int .u8 (N2 : Int), .int .u8 (N3 : Int), .int .u8 (N4 : Int), .int .i64 (N5 : Int), .int .i64 (N6 : Int)]) 30 (.tmp 3) (.tmp 53) rfl rfl rfl rfl rfl s2 ?_)
      refine rest_zero (by kernel_rfl) ?_
      go_wp2_with fail
      (try simp only [Exit.inBlock, Exit.then])
      refine bodyPost_ret (results_cells Tryz.results74 rfl rfl lf1 lf2) rfl ?_
      exact ⟨by rw [HX2.out.1, HX2.out.2]; rfl, HW3.out⟩
end Go.Proofs.YtpkmibmombpjpaaGreatDoor
