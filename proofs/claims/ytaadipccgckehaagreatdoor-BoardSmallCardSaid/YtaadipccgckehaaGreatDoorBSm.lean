/- BoardSmall: the walk. -/
import Derived.Test.YtaadipccgckehaaGreatDoorSA
import Derived.Test.YtaadipccgckehaaGreatDoorFlow5
import Derived.Deep.DeepCutAuto
import Derived.Deep.QuietTactic
import Derived.BigQuiet
import Derived.BigRegion
set_option linter.unusedSimpArgs false
namespace Go.Proofs.YtaadipccgckehaaGreatDoor
open Go Go.RowKit Go.Shelf Pl

set_option maxRecDepth 100000 in
set_option maxHeartbeats 40000000 in
theorem bsmall_any (w : World) (he : Env w) : Calls Tryz.prog 4 #[] w (fun e w' => e = .returned (.bool true) ∧ Below w.heap.size w w') := by
  have HI : Hid (Iv w w) := Lib.hid ⟨he, Below.refl _ _⟩
  clear he
  go_enter Tryz.func4, Tryz.ntmps4
  go_upto_block 0 with fail
  go_cut [0] (fun s0 wx => s0 = .bool false ∧ Iv w wx)
  case first =>
    go_wp2_with fail
    go_loopw [0, 1] (fun v0 v1 wr => ∃ i : Nat, i ≤ 134 ∧ v0 = .bool false ∧ v1 = .int .i64 ((i : Int) - 2) ∧ Iv w wr) (fun _ v1 _ => (132 - intOf v1).toNat)
    case atStart => exact ⟨0, by omega, rfl, rfl, HI.out⟩
    case round =>
      clear HI
      obtain ⟨i, hi, rfl, rfl, hI⟩ := hrel
      have HI := Lib.hid hI
      clear hI
      obtain ⟨n, hn⟩ : ∃ n, (i : Int) - 2 = n := ⟨_, rfl⟩
      have hnb : -2 ≤ n ∧ n ≤ 132 := by omega
      have HN := Lib.hid hn
      rw [hn]
      clear hn
      by_cases hlt : i < 134
      · have u1 : decide (n < 132) = true := decide_eq_true (by have := HN.out; omega)
        obtain ⟨a1, c1, D1, D2⟩ := dealer_both n
        obtain ⟨a2, c2, V1, V2⟩ := vuln_both n
        have HD1 := Lib.hid D1
        have HD2 := Lib.hid D2
        have HV1 := Lib.hid V1
        have HV2 := Lib.hid V2
        obtain ⟨p, hp⟩ : ∃ p, min n 128 = p := ⟨_, rfl⟩
        obtain ⟨M, hM⟩ : ∃ M, max 1 p = M := ⟨_, rfl⟩
        obtain ⟨X, cx, hX, WX⟩ := suits_wr M
        have HWX := Lib.hid WX
        have HRC := Lib.hid (fun W hW => recs_suit n n (by omega) X (by omega) W hW)
        have e9 : IntKind.i64.wrap (n + 1) = n + 1 := IntWalk.i64_in _ (by omega)
        have HE9 : Hid (n + 1 = ((i + 1 : Nat) : Int) - 2) := Lib.hid (by have := HN.out; omega)
        have HMS : Hid ((132 - (n + 1)).toNat < (132 - n).toNat) := Lib.hid (by have := HN.out; omega)
        clear D1 D2 V1 V2 WX hX hi
        go_wp2_with (first
          | (go_at_call 7; refine (HD1.out _).mono ?_; rintro e w' ⟨rfl, rfl⟩)
          | (go_at_call 8; refine (HD2.out _).mono ?_; rintro e w' ⟨rfl, rfl⟩)
          | (go_at_call 9; refine (HV1.out _).mono ?_; rintro e w' ⟨rfl, rfl⟩)
          | (go_at_call 10; refine (HV2.out _).mono ?_; rintro e w' ⟨rfl, rfl⟩))
        refine (suits_any _).mono ?_
        rintro e w1 ⟨rfl, hb⟩
        have HI1 := Lib.hid (HI.out.step hb)
        clear hb HI
        go_wp2_with fail
        refine (HWX.out _).mono ?_
        rintro e w2 ⟨rfl, hb⟩
        have HI2 := Lib.hid (HI1.out.step hb)
        clear hb HI1
        go_wp2_with fail
        refine (suits_any _).mono ?_
        rintro e w3 ⟨rfl, hb⟩
        have HI3 := Lib.hid (HI2.out.step hb)
        clear hb HI2
        go_wp2_with fail
        refine (HRC.out _ HI3.out.env).mono ?_
        rintro e w4 ⟨rfl, hb⟩
        have HI4 := Lib.hid (HI3.out.step hb)
        clear hb HI3
        go_wp2_with fail
        go_roundw
        case rel => exact ⟨i + 1, by omega, rfl, by rw [HE9.out], HI4.out⟩
        case measure => simp only [intOf]; exact HMS.out
      · obtain rfl : i = 134 := by omega
        have u1 : decide (n < 132) = false := decide_eq_false (by have := HN.out; omega)
        go_wp2_with fail
        go_meet
        exact ⟨rfl, HI.out⟩
  case rest =>
  clear HI
  obtain ⟨rfl, hI⟩ := hcut
  have HI := Lib.hid hI
  clear hI
  go_upto_block 2 with fail
  go_cut [0] (fun s0 wx => s0 = .bool false ∧ Iv w wx)
  case first =>
    go_wp2_with fail
    go_loopw [0, 97] (fun v0 v97 wr => ∃ k : Nat, k ≤ 256 ∧ v0 = .bool false ∧ v97 = .int .i64 (k : Int) ∧ Iv w wr) (fun _ v97 _ => (256 - intOf v97).toNat)
    case atStart => exact ⟨0, by omega, rfl, rfl, HI.out⟩
    case round =>
      clear HI
      obtain ⟨k, hk, rfl, rfl, hI⟩ := hrel
      have HI := Lib.hid hI
      clear hI
      by_cases hlt : k < 256
      · have u1 : decide ((k : Int) < 256) = true := decide_eq_true (by omega)
        obtain ⟨q, hq⟩ : ∃ q, k / 3 = q := ⟨_, rfl⟩
        have hq256 : q < 256 := by omega
        obtain ⟨a3, c3, F1, F2⟩ := find_both k q hlt hq256
        have HF1 := Lib.hid F1
        have HF2 := Lib.hid F2
        have e1 : IntKind.u8.wrap (k : Int) = (k : Int) := by show (k : Int) % 256 = _; omega
        have e2 : (k : Int).tdiv 3 = (q : Int) := by rw [Int.tdiv_eq_ediv_of_nonneg (by omega)]; omega
        have e2b : (k : Int) / 3 = (q : Int) := by omega
        have e3 : IntKind.u8.wrap (q : Int) = (q : Int) := by show (q : Int) % 256 = _; omega
        have e9 := inc64 k (by omega)
        clear F1 F2 hq
        go_wp2_with (first
          | (go_at_call 13; refine (HF1.out _).mono ?_; rintro e w' ⟨rfl, rfl⟩)
          | (go_at_call 14; refine (HF2.out _).mono ?_; rintro e w' ⟨rfl, rfl⟩))
        go_roundw
        case rel => exact ⟨k + 1, by omega, rfl, by simp, HI.out⟩
        case measure => simp [intOf]; try omega
      · obtain rfl : k = 256 := by omega
        have u1 : decide ((256 : Int) < 256) = false := rfl
        rw [show ((256 : Nat) : Int) = 256 from rfl]
        go_wp2_with fail
        go_meet
        exact ⟨rfl, HI.out⟩
  case rest =>
  clear HI
  obtain ⟨rfl, hI⟩ := hcut
  have HI := Lib.hid hI
  clear hI
  go_upto_block 4 with fail
  go_cut [0] (fun s0 wx => s0 = .bool false ∧ Iv w wx)
  case first =>
    go_wp2_with fail
    go_loopw [0, 127] (fun v0 v127 wr => ∃ d : Nat, d ≤ 4 ∧ v0 = .bool false ∧ v127 = .int .u8 (d : Int) ∧ Iv w wr) (fun _ v127 _ => (4 - intOf v127).toNat)
    case atStart => exact ⟨0, by omega, rfl, rfl, HI.out⟩
    case round =>
      clear HI
      obtain ⟨d, hd, rfl, rfl, hI⟩ := hrel
      have HI := Lib.hid hI
      clear hI
      by_cases hlt : d < 4
      · have u1 : decide ((d : Int) < 4) = true := decide_eq_true (by omega)
        have e1 : IntKind.u8.wrap ((d : Int) + 1) = ((d + 1 : Nat) : Int) := by show ((d : Int) + 1) % 256 = _; omega
        go_wp2_with fail
        go_loopw [0, 130] (fun v0 v130 wr => ∃ v : Nat, v ≤ 4 ∧ v0 = .bool false ∧ v130 = .int .u8 (v : Int) ∧ Iv w wr) (fun _ v130 _ => (4 - intOf v130).toNat)
        case atStart => exact ⟨0, by omega, rfl, rfl, HI.out⟩
        case round =>
          clear HI
          obtain ⟨v, hv, rfl, rfl, hI⟩ := hrel
          have HI := Lib.hid hI
          clear hI
          by_cases hl2 : v < 4
          · have u2 : decide ((v : Int) < 4) = true := decide_eq_true (by omega)
            have e2 : IntKind.u8.wrap ((v : Int) + 1) = ((v + 1 : Nat) : Int) := by show ((v : Int) + 1) % 256 = _; omega
            obtain ⟨a3, c3, F1, F2⟩ := find_both d v (by omega) (by omega)
            have HF1 := Lib.hid F1
            have HF2 := Lib.hid F2
            clear F1 F2
            go_wp2_with (first
              | (go_at_call 13; refine (HF1.out _).mono ?_; rintro e w' ⟨rfl, rfl⟩)
              | (go_at_call 14; refine (HF2.out _).mono ?_; rintro e w' ⟨rfl, rfl⟩))
            go_roundw
            case rel => exact ⟨v + 1, by omega, rfl, by first | rfl | simp, HI.out⟩
            case measure => simp [intOf]; try omega
          · obtain rfl : v = 4 := by omega
            have u2 : decide ((4 : Int) < 4) = false := rfl
            rw [show ((4 : Nat) : Int) = 4 from rfl]
            go_wp2_with fail
            go_roundw
            case rel => exact ⟨d + 1, by omega, rfl, by first | rfl | simp, HI.out⟩
            case measure => simp [intOf]; try omega
      · obtain rfl : d = 4 := by omega
        have u1 : decide ((4 : Int) < 4) = false := rfl
        rw [show ((4 : Nat) : Int) = 4 from rfl]
        go_wp2_with fail
        go_meet
        exact ⟨rfl, HI.out⟩
  case rest =>
  clear HI
  obtain ⟨rfl, hI⟩ := hcut
  have HI := Lib.hid hI
  clear hI
  go_upto_block 8 with fail
  go_cut [0] (fun s0 wx => s0 = .bool false ∧ Iv w wx)
  case first =>
    go_wp2_with fail
    go_loopw [0, 150] (fun v0 v150 wr => ∃ c : Nat, c ≤ 51 ∧ v0 = .bool false ∧ v150 = .int .i64 (c : Int) ∧ Iv w wr) (fun _ v150 _ => (51 - intOf v150).toNat)
    case atStart => exact ⟨0, by omega, rfl, rfl, HI.out⟩
    case round =>
      clear HI
      obtain ⟨c, hc, rfl, rfl, hI⟩ := hrel
      have HI := Lib.hid hI
      clear hI
      by_cases hlt : c < 51
      · have u1 : decide ((c : Int) < 51) = true := decide_eq_true (by omega)
        go_wp2_with fail
        refine (suits_any _).mono ?_
        rintro e w1 ⟨rfl, hb⟩
        have HI1 := Lib.hid (HI.out.step hb)
        clear hb HI
        go_upto_block 10 with fail
        have HK : Hid (Blk (w1.alloc (.cells #[.int .u64 8191, .int .u64 67100672, .int .u64 549688705024, .int .u64 4503049871556608] 24)) w1.heap.size 24 (dC (ofF suitF))) := Lib.hid (Blk.new w1 24 #[.int .u64 8191, .int .u64 67100672, .int .u64 549688705024, .int .u64 4503049871556608])
        have HI2 := Lib.hid (HI1.out.step (below1 w1 (.cells #[.int .u64 8191, .int .u64 67100672, .int .u64 549688705024, .int .u64 4503049871556608] 24)))
        have HPD : Hid (w.heap.size ≤ w1.heap.size) := Lib.hid HI1.out.below.size
        clear HI1
        generalize w1.alloc (.cells #[.int .u64 8191, .int .u64 67100672, .int .u64 549688705024, .int .u64 4503049871556608] 24) = W2 at *
        generalize w1.heap.size = pd at *
        go_cut [] (fun wx => ∃ D, Hid (D64 D) ∧ Hid (Blk wx pd 24 (dC D)) ∧ Hid (Iv w wx))
        case first =>
          go_wp2_with fail
          go_loopw [154] (fun v154 wr => ∃ (j : Nat) (D : Nat → Nat), j ≤ 4 ∧ v154 = .int .i64 (j : Int) ∧ Hid (D64 D) ∧ Hid (Blk wr pd 24 (dC D)) ∧ Hid (Iv w wr)) (fun v154 _ => (4 - intOf v154).toNat)
          case atStart => exact ⟨0, ofF suitF, by omega, rfl, Lib.hid suit_64, HK, HI2⟩
          case round =>
            clear HK HI2
            obtain ⟨j, D, hj, rfl, HD, HK, HI⟩ := hrel
            by_cases hl2 : j < 4
            · have u2 : decide ((j : Int) < 4) = true := decide_eq_true (by omega)
              have x0 := HK.out.cell (dC_get D j hl2)
              have f0 := HK.out.free j
              have hh := HD.out j hl2
              obtain ⟨h, hh2⟩ : ∃ h, D j = h := ⟨_, rfl⟩
              rw [hh2] at x0 hh
              clear hh2
              have e1 := inc64 c (by omega)
              have e2 := inc64 j (by omega)
              obtain ⟨a, ha, ea⟩ := bit1_ex h c hh
              obtain ⟨b, hb, eb⟩ := bit1_ex h (c + 1) hh
              go_upto_region 38 with fail
              go_quiet (fail)
              have HI2 := Lib.hid (HI.out.step (below_drewN (Below.refl _ _) nq))
              have HK2 : Hid (Blk (wr.drewN nq) pd 24 (dC D)) := HK
              have x1 : (wr.drewN nq).cell? _ = _ := x0
              have f1 : (wr.drewN nq).frozen? _ = _ := f0
              clear x0 f0 HK HI ea eb
              generalize wr.drewN nq = wn at *
              go_upto_region 39 with fail
              obtain ⟨y, hy, ey⟩ := sw_ex h hh (3 * 2 ^ c) ((a : Int) * 2 ^ (c + 1)) ((b : Int) * 2 ^ c)
              obtain ⟨E, hE, hKE⟩ := dC_put HK2.out j y hl2 hy HD.out
              have HE := Lib.hid hE
              have HKE := Lib.hid hKE
              have HIE := Lib.hid (Iv.set HI2.out HPD.out j (.int .u64 (y : Int)))
              clear hE hKE HK2 HI2 HD ha hb hh
              go_region
              have HKF : Hid (Blk (wn.setCell ⟨pd, j, none⟩ (.int .u64 (y : Int))).drew pd 24 (dC E)) := HKE
              have HIF : Hid (Iv w (wn.setCell ⟨pd, j, none⟩ (.int .u64 (y : Int))).drew) := Lib.hid (HIE.out.step (below_drewN (Below.refl _ _) 1))
              clear HKE HIE x1 f1
              generalize World.drew _ = wz at *
              go_wp2_with fail
              go_roundw
              case rel => exact ⟨j + 1, E, by omega, by first | rfl | simp, HE, HKF, HIF⟩
              case measure => simp [intOf]; try omega
            · obtain rfl : j = 4 := by omega
              have u2 : decide ((4 : Int) < 4) = false := rfl
              rw [show ((4 : Nat) : Int) = 4 from rfl]
              go_wp2_with fail
              go_meet
              exact ⟨D, HD, HK, HI⟩
        case rest =>
          clear HK HI2
          obtain ⟨D, HD, HK, HI⟩ := hcut
          have hx := four_of D HD.out
          obtain ⟨x, hx64, hxD⟩ := hx
          have HX := Lib.hid hx64
          rw [hxD] at HK
          clear hxD hx64 HD
          have HF1 := Lib.hid (fun W => differs_any (ofF suitF) (ofF x) suit_64 HX.out W)
          have HF2 := Lib.hid (fun W => differs_any (ofF x) (turnD (ofF suitF) (c : Int)) HX.out (turn_64 (c : Int)) W)
          have HF3 := Lib.hid (fun W => differs_any (ofF x) (ofF swapF) HX.out swap_64 W)
          have HTU := Lib.hid (fun W => turn_any (ofF suitF) (c : Int) (by omega) W)
          have HCL := Lib.hid (fun W v hd => lclasses_any v [x, suitF, x, swapF, suitF] (by simp) (five_64 HX.out) W hd)
          obtain ⟨t0, h0⟩ : ∃ t, turnD (ofF suitF) (c : Int) 0 = t := ⟨_, rfl⟩
          obtain ⟨t1, h1⟩ : ∃ t, turnD (ofF suitF) (c : Int) 1 = t := ⟨_, rfl⟩
          obtain ⟨t2, h2⟩ : ∃ t, turnD (ofF suitF) (c : Int) 2 = t := ⟨_, rfl⟩
          obtain ⟨t3, h3⟩ : ∃ t, turnD (ofF suitF) (c : Int) 3 = t := ⟨_, rfl⟩
          rw [h0, h1, h2, h3] at HF2 HTU
          clear h0 h1 h2 h3
          obtain ⟨a0, h0⟩ : ∃ t, ofF x 0 = t := ⟨_, rfl⟩
          obtain ⟨a1, h1⟩ : ∃ t, ofF x 1 = t := ⟨_, rfl⟩
          obtain ⟨a2, h2⟩ : ∃ t, ofF x 2 = t := ⟨_, rfl⟩
          obtain ⟨a3, h3⟩ : ∃ t, ofF x 3 = t := ⟨_, rfl⟩
          have HKC : dC (ofF x) = #[.int .u64 (a0 : Nat), .int .u64 (a1 : Nat), .int .u64 (a2 : Nat), .int .u64 (a3 : Nat)] := by unfold dC; rw [h0, h1, h2, h3]
          have HFX : Hid ([x, suitF, x, swapF, suitF].flatMap fC = [.int .u64 (a0 : Nat), .int .u64 (a1 : Nat), .int .u64 (a2 : Nat), .int .u64 (a3 : Nat), .int .u64 8191, .int .u64 67100672, .int .u64 549688705024, .int .u64 4503049871556608, .int .u64 (a0 : Nat), .int .u64 (a1 : Nat), .int .u64 (a2 : Nat), .int .u64 (a3 : Nat), .int .u64 16382, .int .u64 67092481, .int .u64 549688705024, .int .u64 4503049871556608, .int .u64 8191, .int .u64 67100672, .int .u64 549688705024, .int .u64 4503049871556608]) := Lib.hid (by unfold fC; simp only [List.flatMap_cons, List.flatMap_nil, h0, h1, h2, h3]; rfl)
          rw [HKC] at HK
          rw [h0, h1, h2, h3] at HF1 HF2 HF3
          clear h0 h1 h2 h3 HKC
          have e9 := inc64 c (by omega)
          go_upto_region 41 with fail
          go_cut [215] (fun s215 wx => s215 = .bool false ∧ Hid (Iv w wx))
          case first =>
            refine rest_begin (by kernel_rfl) ?_
            have HI1 := Lib.hid (HI.out.step (below_drewN (Below.refl _ _) 1))
            have HK1 : Hid (Blk wc.drew pd 24 #[.int .u64 (a0 : Nat), .int .u64 (a1 : Nat), .int .u64 (a2 : Nat), .int .u64 (a3 : Nat)]) := HK
            clear HI HK
            have HI2 : Hid (Iv w wc.drew) := HI1
            clear HI1
            generalize wc.drew = W5 at *
            refine rest_flow3 [some 188, some 189, some 190, some 191, some 192, some 193, some 194, some 195, some 196, some 197, some 198, some 199, some 200, some 201, some 202, some 203, some 204, some 205, some 206, some 207, some 208, some 209, some 210, some 211, some 212, some 213, some 214] [Sp.is (.agg #[.int .u64 8191, .int .u64 67100672, .int .u64 549688705024, .int .u64 4503049871556608]), Sp.is (.agg #[.int .u64 (a0 : Nat), .int .u64 (a1 : Nat), .int .u64 (a2 : Nat), .int .u64 (a3 : Nat)]), Sp.is (.bool true), Sp.is (.bool false), Sp.is (.bool false), Sp.is (.agg #[.int .u64 (a0 : Nat), .int .u64 (a1 : Nat), .int .u64 (a2 : Nat), .int .u64 (a3 : Nat)]), Sp.is (.agg #[.int .u64 8191, .int .u64 67100672, .int .u64 549688705024, .int .u64 4503049871556608]), Sp.is (.int .i64 (c : Int)), Sp.is (.agg #[.int .u64 (t0 : Nat), .int .u64 (t1 : Nat), .int .u64 (t2 : Nat), .int .u64 (t3 : Nat)]), Sp.is (.bool true), Sp.is (.bool false), Sp.is (.bool false), Sp.is (.bool false), Sp.is (.agg #[.int .u64 (a0 : Nat), .int .u64 (a1 : Nat), .int .u64 (a2 : Nat), .int .u64 (a3 : Nat)]), Sp.is (.agg #[.int .u64 16382, .int .u64 67092481, .int .u64 549688705024, .int .u64 4503049871556608]), Sp.is (.bool true), Sp.is (.bool false), Sp.is (.bool false), Sp.is (.bool false), Sp.is (.agg #[.int .u64 (a0 : Nat), .int .u64 (a1 : Nat), .int .u64 (a2 : Nat), .int .u64 (a3 : Nat)]), Sp.is (.agg #[.int .u64 8191, .int .u64 67100672, .int .u64 549688705024, .int .u64 4503049871556608]), Sp.is (.agg #[.int .u64 (a0 : Nat), .int .u64 (a1 : Nat), .int .u64 (a2 : Nat), .int .u64 (a3 : Nat)]), Sp.is (.agg #[.int .u64 16382, .int .u64 67092481, .int .u64 549688705024, .int .u64 4503049871556608]), Sp.is (.agg #[.int .u64 8191, .int .u64 67100672, .int .u64 549688705024, .int .u64 4503049871556608]), ⟨fun v w => ∃ p, v = .slice (some ⟨p, 0, none⟩) 5 5 ∧ Blk w p 24 #[.int .u64 (a0 : Nat), .int .u64 (a1 : Nat), .int .u64 (a2 : Nat), .int .u64 (a3 : Nat), .int .u64 8191, .int .u64 67100672, .int .u64 549688705024, .int .u64 4503049871556608, .int .u64 (a0 : Nat), .int .u64 (a1 : Nat), .int .u64 (a2 : Nat), .int .u64 (a3 : Nat), .int .u64 16382, .int .u64 67092481, .int .u64 549688705024, .int .u64 4503049871556608, .int .u64 8191, .int .u64 67100672, .int .u64 549688705024, .int .u64 4503049871556608], fun _ _ _ ⟨p, h1, h2⟩ hb => ⟨p, h1, h2.keep hb h2.lt⟩⟩, Sp.is (.bool true), Sp.is (.bool false)] [false, false, false, false, false, false, false, false, false, false, false, false, false, false, false, false, false, false, false, false, false, false, false, false, false, false, false] 27 (by kernel_rfl) (by kernel_rfl) (fun u F hF => ?_) (fun u w' hbF hsF hold hap => ?_)
            case refine_1 =>
              have E24 : F.eval (.tmp 24) = (.pointer (some ⟨pd, 0, none⟩)) := (congrArg (fun a => Act.eval a (.tmp 24)) hF).trans (eval_out [some 188, some 189, some 190, some 191, some 192, some 193, some 194, some 195, some 196, some 197, some 198, some 199, some 200, some 201, some 202, some 203, some 204, some 205, some 206, some 207, some 208, some 209, some 210, some 211, some 212, some 213, some 214] 0 _ (by decide))
              have D188 : F.eval (.tmp 188) = u 0 := (congrArg (fun a => Act.eval a (.tmp 188)) hF).trans (eval_in [some 188, some 189, some 190, some 191, some 192, some 193, some 194, some 195, some 196, some 197, some 198, some 199, some 200, some 201, some 202, some 203, some 204, some 205, some 206, some 207, some 208, some 209, some 210, some 211, some 212, some 213, some 214] 0 0 _ (by decide) (by omega) rfl (of_decide_eq_true (by kernel_rfl)))
              have D189 : F.eval (.tmp 189) = u 1 := (congrArg (fun a => Act.eval a (.tmp 189)) hF).trans (eval_in [some 188, some 189, some 190, some 191, some 192, some 193, some 194, some 195, some 196, some 197, some 198, some 199, some 200, some 201, some 202, some 203, some 204, some 205, some 206, some 207, some 208, some 209, some 210, some 211, some 212, some 213, some 214] 0 1 _ (by decide) (by omega) rfl (of_decide_eq_true (by kernel_rfl)))
              have D190 : F.eval (.tmp 190) = u 2 := (congrArg (fun a => Act.eval a (.tmp 190)) hF).trans (eval_in [some 188, some 189, some 190, some 191, some 192, some 193, some 194, some 195, some 196, some 197, some 198, some 199, some 200, some 201, some 202, some 203, some 204, some 205, some 206, some 207, some 208, some 209, some 210, some 211, some 212, some 213, some 214] 0 2 _ (by decide) (by omega) rfl (of_decide_eq_true (by kernel_rfl)))
              have D191 : F.eval (.tmp 191) = u 3 := (congrArg (fun a => Act.eval a (.tmp 191)) hF).trans (eval_in [some 188, some 189, some 190, some 191, some 192, some 193, some 194, some 195, some 196, some 197, some 198, some 199, some 200, some 201, some 202, some 203, some 204, some 205, some 206, some 207, some 208, some 209, some 210, some 211, some 212, some 213, some 214] 0 3 _ (by decide) (by omega) rfl (of_decide_eq_true (by kernel_rfl)))
              have D192 : F.eval (.tmp 192) = u 4 := (congrArg (fun a => Act.eval a (.tmp 192)) hF).trans (eval_in [some 188, some 189, some 190, some 191, some 192, some 193, some 194, some 195, some 196, some 197, some 198, some 199, some 200, some 201, some 202, some 203, some 204, some 205, some 206, some 207, some 208, some 209, some 210, some 211, some 212, some 213, some 214] 0 4 _ (by decide) (by omega) rfl (of_decide_eq_true (by kernel_rfl)))
              have E23 : F.eval (.tmp 23) = (.int .i64 (c : Int)) := (congrArg (fun a => Act.eval a (.tmp 23)) hF).trans (eval_out [some 188, some 189, some 190, some 191, some 192, some 193, some 194, some 195, some 196, some 197, some 198, some 199, some 200, some 201, some 202, some 203, some 204, some 205, some 206, some 207, some 208, some 209, some 210, some 211, some 212, some 213, some 214] 0 _ (by decide))
              have D194 : F.eval (.tmp 194) = u 6 := (congrArg (fun a => Act.eval a (.tmp 194)) hF).trans (eval_in [some 188, some 189, some 190, some 191, some 192, some 193, some 194, some 195, some 196, some 197, some 198, some 199, some 200, some 201, some 202, some 203, some 204, some 205, some 206, some 207, some 208, some 209, some 210, some 211, some 212, some 213, some 214] 0 6 _ (by decide) (by omega) rfl (of_decide_eq_true (by kernel_rfl)))
              have D195 : F.eval (.tmp 195) = u 7 := (congrArg (fun a => Act.eval a (.tmp 195)) hF).trans (eval_in [some 188, some 189, some 190, some 191, some 192, some 193, some 194, some 195, some 196, some 197, some 198, some 199, some 200, some 201, some 202, some 203, some 204, some 205, some 206, some 207, some 208, some 209, some 210, some 211, some 212, some 213, some 214] 0 7 _ (by decide) (by omega) rfl (of_decide_eq_true (by kernel_rfl)))
              have D193 : F.eval (.tmp 193) = u 5 := (congrArg (fun a => Act.eval a (.tmp 193)) hF).trans (eval_in [some 188, some 189, some 190, some 191, some 192, some 193, some 194, some 195, some 196, some 197, some 198, some 199, some 200, some 201, some 202, some 203, some 204, some 205, some 206, some 207, some 208, some 209, some 210, some 211, some 212, some 213, some 214] 0 5 _ (by decide) (by omega) rfl (of_decide_eq_true (by kernel_rfl)))
              have D196 : F.eval (.tmp 196) = u 8 := (congrArg (fun a => Act.eval a (.tmp 196)) hF).trans (eval_in [some 188, some 189, some 190, some 191, some 192, some 193, some 194, some 195, some 196, some 197, some 198, some 199, some 200, some 201, some 202, some 203, some 204, some 205, some 206, some 207, some 208, some 209, some 210, some 211, some 212, some 213, some 214] 0 8 _ (by decide) (by omega) rfl (of_decide_eq_true (by kernel_rfl)))
              have D197 : F.eval (.tmp 197) = u 9 := (congrArg (fun a => Act.eval a (.tmp 197)) hF).trans (eval_in [some 188, some 189, some 190, some 191, some 192, some 193, some 194, some 195, some 196, some 197, some 198, some 199, some 200, some 201, some 202, some 203, some 204, some 205, some 206, some 207, some 208, some 209, some 210, some 211, some 212, some 213, some 214] 0 9 _ (by decide) (by omega) rfl (of_decide_eq_true (by kernel_rfl)))
              have D198 : F.eval (.tmp 198) = u 10 := (congrArg (fun a => Act.eval a (.tmp 198)) hF).trans (eval_in [some 188, some 189, some 190, some 191, some 192, some 193, some 194, some 195, some 196, some 197, some 198, some 199, some 200, some 201, some 202, some 203, some 204, some 205, some 206, some 207, some 208, some 209, some 210, some 211, some 212, some 213, some 214] 0 10 _ (by decide) (by omega) rfl (of_decide_eq_true (by kernel_rfl)))
              have D199 : F.eval (.tmp 199) = u 11 := (congrArg (fun a => Act.eval a (.tmp 199)) hF).trans (eval_in [some 188, some 189, some 190, some 191, some 192, some 193, some 194, some 195, some 196, some 197, some 198, some 199, some 200, some 201, some 202, some 203, some 204, some 205, some 206, some 207, some 208, some 209, some 210, some 211, some 212, some 213, some 214] 0 11 _ (by decide) (by omega) rfl (of_decide_eq_true (by kernel_rfl)))
              have D200 : F.eval (.tmp 200) = u 12 := (congrArg (fun a => Act.eval a (.tmp 200)) hF).trans (eval_in [some 188, some 189, some 190, some 191, some 192, some 193, some 194, some 195, some 196, some 197, some 198, some 199, some 200, some 201, some 202, some 203, some 204, some 205, some 206, some 207, some 208, some 209, some 210, some 211, some 212, some 213, some 214] 0 12 _ (by decide) (by omega) rfl (of_decide_eq_true (by kernel_rfl)))
              have D201 : F.eval (.tmp 201) = u 13 := (congrArg (fun a => Act.eval a (.tmp 201)) hF).trans (eval_in [some 188, some 189, some 190, some 191, some 192, some 193, some 194, some 195, some 196, some 197, some 198, some 199, some 200, some 201, some 202, some 203, some 204, some 205, some 206, some 207, some 208, some 209, some 210, some 211, some 212, some 213, some 214] 0 13 _ (by decide) (by omega) rfl (of_decide_eq_true (by kernel_rfl)))
              have D202 : F.eval (.tmp 202) = u 14 := (congrArg (fun a => Act.eval a (.tmp 202)) hF).trans (eval_in [some 188, some 189, some 190, some 191, some 192, some 193, some 194, some 195, some 196, some 197, some 198, some 199, some 200, some 201, some 202, some 203, some 204, some 205, some 206, some 207, some 208, some 209, some 210, some 211, some 212, some 213, some 214] 0 14 _ (by decide) (by omega) rfl (of_decide_eq_true (by kernel_rfl)))
              have D203 : F.eval (.tmp 203) = u 15 := (congrArg (fun a => Act.eval a (.tmp 203)) hF).trans (eval_in [some 188, some 189, some 190, some 191, some 192, some 193, some 194, some 195, some 196, some 197, some 198, some 199, some 200, some 201, some 202, some 203, some 204, some 205, some 206, some 207, some 208, some 209, some 210, some 211, some 212, some 213, some 214] 0 15 _ (by decide) (by omega) rfl (of_decide_eq_true (by kernel_rfl)))
              have D204 : F.eval (.tmp 204) = u 16 := (congrArg (fun a => Act.eval a (.tmp 204)) hF).trans (eval_in [some 188, some 189, some 190, some 191, some 192, some 193, some 194, some 195, some 196, some 197, some 198, some 199, some 200, some 201, some 202, some 203, some 204, some 205, some 206, some 207, some 208, some 209, some 210, some 211, some 212, some 213, some 214] 0 16 _ (by decide) (by omega) rfl (of_decide_eq_true (by kernel_rfl)))
              have D205 : F.eval (.tmp 205) = u 17 := (congrArg (fun a => Act.eval a (.tmp 205)) hF).trans (eval_in [some 188, some 189, some 190, some 191, some 192, some 193, some 194, some 195, some 196, some 197, some 198, some 199, some 200, some 201, some 202, some 203, some 204, some 205, some 206, some 207, some 208, some 209, some 210, some 211, some 212, some 213, some 214] 0 17 _ (by decide) (by omega) rfl (of_decide_eq_true (by kernel_rfl)))
              have D206 : F.eval (.tmp 206) = u 18 := (congrArg (fun a => Act.eval a (.tmp 206)) hF).trans (eval_in [some 188, some 189, some 190, some 191, some 192, some 193, some 194, some 195, some 196, some 197, some 198, some 199, some 200, some 201, some 202, some 203, some 204, some 205, some 206, some 207, some 208, some 209, some 210, some 211, some 212, some 213, some 214] 0 18 _ (by decide) (by omega) rfl (of_decide_eq_true (by kernel_rfl)))
              have D207 : F.eval (.tmp 207) = u 19 := (congrArg (fun a => Act.eval a (.tmp 207)) hF).trans (eval_in [some 188, some 189, some 190, some 191, some 192, some 193, some 194, some 195, some 196, some 197, some 198, some 199, some 200, some 201, some 202, some 203, some 204, some 205, some 206, some 207, some 208, some 209, some 210, some 211, some 212, some 213, some 214] 0 19 _ (by decide) (by omega) rfl (of_decide_eq_true (by kernel_rfl)))
              have D208 : F.eval (.tmp 208) = u 20 := (congrArg (fun a => Act.eval a (.tmp 208)) hF).trans (eval_in [some 188, some 189, some 190, some 191, some 192, some 193, some 194, some 195, some 196, some 197, some 198, some 199, some 200, some 201, some 202, some 203, some 204, some 205, some 206, some 207, some 208, some 209, some 210, some 211, some 212, some 213, some 214] 0 20 _ (by decide) (by omega) rfl (of_decide_eq_true (by kernel_rfl)))
              have D209 : F.eval (.tmp 209) = u 21 := (congrArg (fun a => Act.eval a (.tmp 209)) hF).trans (eval_in [some 188, some 189, some 190, some 191, some 192, some 193, some 194, some 195, some 196, some 197, some 198, some 199, some 200, some 201, some 202, some 203, some 204, some 205, some 206, some 207, some 208, some 209, some 210, some 211, some 212, some 213, some 214] 0 21 _ (by decide) (by omega) rfl (of_decide_eq_true (by kernel_rfl)))
              have D210 : F.eval (.tmp 210) = u 22 := (congrArg (fun a => Act.eval a (.tmp 210)) hF).trans (eval_in [some 188, some 189, some 190, some 191, some 192, some 193, some 194, some 195, some 196, some 197, some 198, some 199, some 200, some 201, some 202, some 203, some 204, some 205, some 206, some 207, some 208, some 209, some 210, some 211, some 212, some 213, some 214] 0 22 _ (by decide) (by omega) rfl (of_decide_eq_true (by kernel_rfl)))
              have D211 : F.eval (.tmp 211) = u 23 := (congrArg (fun a => Act.eval a (.tmp 211)) hF).trans (eval_in [some 188, some 189, some 190, some 191, some 192, some 193, some 194, some 195, some 196, some 197, some 198, some 199, some 200, some 201, some 202, some 203, some 204, some 205, some 206, some 207, some 208, some 209, some 210, some 211, some 212, some 213, some 214] 0 23 _ (by decide) (by omega) rfl (of_decide_eq_true (by kernel_rfl)))
              have D212 : F.eval (.tmp 212) = u 24 := (congrArg (fun a => Act.eval a (.tmp 212)) hF).trans (eval_in [some 188, some 189, some 190, some 191, some 192, some 193, some 194, some 195, some 196, some 197, some 198, some 199, some 200, some 201, some 202, some 203, some 204, some 205, some 206, some 207, some 208, some 209, some 210, some 211, some 212, some 213, some 214] 0 24 _ (by decide) (by omega) rfl (of_decide_eq_true (by kernel_rfl)))
              have D213 : F.eval (.tmp 213) = u 25 := (congrArg (fun a => Act.eval a (.tmp 213)) hF).trans (eval_in [some 188, some 189, some 190, some 191, some 192, some 193, some 194, some 195, some 196, some 197, some 198, some 199, some 200, some 201, some 202, some 203, some 204, some 205, some 206, some 207, some 208, some 209, some 210, some 211, some 212, some 213, some 214] 0 25 _ (by decide) (by omega) rfl (of_decide_eq_true (by kernel_rfl)))
              clear hF
              refine ⟨?_, ?_, ?_, ?_, ?_, ?_, ?_, ?_, ?_, ?_, ?_, ?_, ?_, ?_, ?_, ?_, ?_, ?_, ?_, ?_, ?_, ?_, ?_, ?_, ?_, ?_, ?_, trivial⟩
              · intro w1 hb hd K hK
                refine op_call (R := fun v w2 => v = (.agg #[.int .u64 8191, .int .u64 67100672, .int .u64 549688705024, .int .u64 4503049871556608]) ∧ Below w1.heap.size w1 w2) (f := 12) (args := #[]) rfl (by simp only [execOp]; go_simp) ((suits_any w1).mono fun e w2 hh => ⟨_, hh.1, rfl, hh.2⟩) (fun v w2 hh => hK _ _ hh.1 hh.2 (Fresh.no _ _ _))
              · intro w1 hb hd K hK
                have e24 := E24
                have q0 := (HK1.out.keep hb HK1.out.lt).cell (j := 0) (v := .int .u64 (a0 : Nat)) rfl
                have q1 := (HK1.out.keep hb HK1.out.lt).cell (j := 1) (v := .int .u64 (a1 : Nat)) rfl
                have q2 := (HK1.out.keep hb HK1.out.lt).cell (j := 2) (v := .int .u64 (a2 : Nat)) rfl
                have q3 := (HK1.out.keep hb HK1.out.lt).cell (j := 3) (v := .int .u64 (a3 : Nat)) rfl
                exact op_val (v := (.agg #[.int .u64 (a0 : Nat), .int .u64 (a1 : Nat), .int .u64 (a2 : Nat), .int .u64 (a3 : Nat)])) (w' := w1) rfl (by simp only [execOp, e24]; go_simp) (hK _ _ (show _ = _ from rfl) (Below.refl _ _) (Fresh.no _ _ _))
              · intro w1 hb hd K hK
                have e188 := D188.trans (show u 0 = (.agg #[.int .u64 8191, .int .u64 67100672, .int .u64 549688705024, .int .u64 4503049871556608]) from hd ⟨0, .data⟩ (by simp) rfl (by omega))
                have e189 := D189.trans (show u 1 = (.agg #[.int .u64 (a0 : Nat), .int .u64 (a1 : Nat), .int .u64 (a2 : Nat), .int .u64 (a3 : Nat)]) from hd ⟨1, .data⟩ (by simp) rfl (by omega))
                refine op_call (R := fun v w2 => v = (.bool true) ∧ Below w1.heap.size w1 w2) (f := 15) (args := #[.agg #[.int .u64 8191, .int .u64 67100672, .int .u64 549688705024, .int .u64 4503049871556608], .agg #[.int .u64 (a0 : Nat), .int .u64 (a1 : Nat), .int .u64 (a2 : Nat), .int .u64 (a3 : Nat)]]) rfl (by simp only [execOp]; go_simp; first | exact ⟨eval_get e188, eval_get e189⟩ | (simp only [Act.eval] at *; simp_all)) ((HF1.out w1).mono fun e w2 hh => ⟨_, hh.1, rfl, hh.2⟩) (fun v w2 hh => hK _ _ hh.1 hh.2 (Fresh.no _ _ _))
              · intro w1 hb hd K hK
                have e190 := D190.trans (show u 2 = (.bool true) from hd ⟨2, .data⟩ (by simp) rfl (by omega))
                exact op_val (v := (.bool false)) rfl (by simp only [execOp, List.map_toArray, List.map_cons, List.map_nil, e190]; go_simp) (hK _ _ (show _ = _ from rfl) (Below.refl _ _) (Fresh.no _ _ _))
              · intro w1 hb hd K hK
                have e191 := D191.trans (show u 3 = (.bool false) from hd ⟨3, .data⟩ (by simp) rfl (by omega))
                exact op_val (v := (.bool false)) rfl (by simp only [execOp, List.map_toArray, List.map_cons, List.map_nil, e191]; go_simp) (hK _ _ (show _ = _ from rfl) (Below.refl _ _) (Fresh.no _ _ _))
              · intro w1 hb hd K hK
                have e24 := E24
                have g := D192.trans (show u 4 = .bool false from hd ⟨4, .guard⟩ (by simp) rfl (by omega))
                have q0 := (HK1.out.keep hb HK1.out.lt).cell (j := 0) (v := .int .u64 (a0 : Nat)) rfl
                have q1 := (HK1.out.keep hb HK1.out.lt).cell (j := 1) (v := .int .u64 (a1 : Nat)) rfl
                have q2 := (HK1.out.keep hb HK1.out.lt).cell (j := 2) (v := .int .u64 (a2 : Nat)) rfl
                have q3 := (HK1.out.keep hb HK1.out.lt).cell (j := 3) (v := .int .u64 (a3 : Nat)) rfl
                exact op_val_w (v := (.agg #[.int .u64 (a0 : Nat), .int .u64 (a1 : Nat), .int .u64 (a2 : Nat), .int .u64 (a3 : Nat)])) (w' := w1) (wanted_of (j := 4) (s := 192) (b := false) (by kernel_rfl) (by kernel_rfl) g) (by simp only [execOp, e24]; go_simp) (hK _ _ (show _ = _ from rfl) (Below.refl _ _) (Fresh.no _ _ _))
              · intro w1 hb hd K hK
                have g := D192.trans (show u 4 = .bool false from hd ⟨4, .guard⟩ (by simp) rfl (by omega))
                refine op_call_w (R := fun v w2 => v = (.agg #[.int .u64 8191, .int .u64 67100672, .int .u64 549688705024, .int .u64 4503049871556608]) ∧ Below w1.heap.size w1 w2) (f := 12) (args := #[]) (wanted_of (j := 4) (s := 192) (b := false) (by kernel_rfl) (by kernel_rfl) g) (by simp only [execOp]; go_simp) ((suits_any w1).mono fun e w2 hh => ⟨_, hh.1, rfl, hh.2⟩) (fun v w2 hh => hK _ _ hh.1 hh.2 (Fresh.no _ _ _))
              · intro w1 hb hd K hK
                have e23 := E23
                have g := D192.trans (show u 4 = .bool false from hd ⟨4, .guard⟩ (by simp) rfl (by omega))
                exact op_val_w (v := (.int .i64 (c : Int))) (wanted_of (j := 4) (s := 192) (b := false) (by kernel_rfl) (by kernel_rfl) g) (by simp only [execOp, List.map_toArray, List.map_cons, List.map_nil, e23]; go_simp) (hK _ _ (show _ = _ from rfl) (Below.refl _ _) (Fresh.no _ _ _))
              · intro w1 hb hd K hK
                have e194 := D194.trans (show u 6 = (.agg #[.int .u64 8191, .int .u64 67100672, .int .u64 549688705024, .int .u64 4503049871556608]) from hd ⟨6, .data⟩ (by simp) rfl (by omega))
                have e195 := D195.trans (show u 7 = (.int .i64 (c : Int)) from hd ⟨7, .data⟩ (by simp) rfl (by omega))
                have g := D192.trans (show u 4 = .bool false from hd ⟨4, .guard⟩ (by simp) rfl (by omega))
                refine op_call_w (R := fun v w2 => v = (.agg #[.int .u64 (t0 : Nat), .int .u64 (t1 : Nat), .int .u64 (t2 : Nat), .int .u64 (t3 : Nat)]) ∧ Below w1.heap.size w1 w2) (f := 16) (args := #[.agg #[.int .u64 8191, .int .u64 67100672, .int .u64 549688705024, .int .u64 4503049871556608], .int .i64 (c : Int)]) (wanted_of (j := 4) (s := 192) (b := false) (by kernel_rfl) (by kernel_rfl) g) (by simp only [execOp]; go_simp; first | exact ⟨eval_get e194, eval_get e195⟩ | (simp only [Act.eval] at *; simp_all)) ((HTU.out w1).mono fun e w2 hh => ⟨_, hh.1, rfl, hh.2⟩) (fun v w2 hh => hK _ _ hh.1 hh.2 (Fresh.no _ _ _))
              · intro w1 hb hd K hK
                have e193 := D193.trans (show u 5 = (.agg #[.int .u64 (a0 : Nat), .int .u64 (a1 : Nat), .int .u64 (a2 : Nat), .int .u64 (a3 : Nat)]) from hd ⟨5, .data⟩ (by simp) rfl (by omega))
                have e196 := D196.trans (show u 8 = (.agg #[.int .u64 (t0 : Nat), .int .u64 (t1 : Nat), .int .u64 (t2 : Nat), .int .u64 (t3 : Nat)]) from hd ⟨8, .data⟩ (by simp) rfl (by omega))
                have g := D192.trans (show u 4 = .bool false from hd ⟨4, .guard⟩ (by simp) rfl (by omega))
                refine op_call_w (R := fun v w2 => v = (.bool true) ∧ Below w1.heap.size w1 w2) (f := 15) (args := #[.agg #[.int .u64 (a0 : Nat), .int .u64 (a1 : Nat), .int .u64 (a2 : Nat), .int .u64 (a3 : Nat)], .agg #[.int .u64 (t0 : Nat), .int .u64 (t1 : Nat), .int .u64 (t2 : Nat), .int .u64 (t3 : Nat)]]) (wanted_of (j := 4) (s := 192) (b := false) (by kernel_rfl) (by kernel_rfl) g) (by simp only [execOp]; go_simp; first | exact ⟨eval_get e193, eval_get e196⟩ | (simp only [Act.eval] at *; simp_all)) ((HF2.out w1).mono fun e w2 hh => ⟨_, hh.1, rfl, hh.2⟩) (fun v w2 hh => hK _ _ hh.1 hh.2 (Fresh.no _ _ _))
              · intro w1 hb hd K hK
                have e197 := D197.trans (show u 9 = (.bool true) from hd ⟨9, .data⟩ (by simp) rfl (by omega))
                have g := D192.trans (show u 4 = .bool false from hd ⟨4, .guard⟩ (by simp) rfl (by omega))
                exact op_val_w (v := (.bool false)) (wanted_of (j := 4) (s := 192) (b := false) (by kernel_rfl) (by kernel_rfl) g) (by simp only [execOp, List.map_toArray, List.map_cons, List.map_nil, e197]; go_simp) (hK _ _ (show _ = _ from rfl) (Below.refl _ _) (Fresh.no _ _ _))
              · intro w1 hb hd K hK
                have e192 := D192.trans (show u 4 = (.bool false) from hd ⟨4, .data⟩ (by simp) rfl (by omega))
                have e198 := D198.trans (show u 10 = (.bool false) from hd ⟨10, .data⟩ (by simp) rfl (by omega))
                exact op_val (v := (.bool false)) rfl (by simp only [execOp, List.map_toArray, List.map_cons, List.map_nil, e192, e198]; go_simp) (hK _ _ (show _ = _ from rfl) (Below.refl _ _) (Fresh.no _ _ _))
              · intro w1 hb hd K hK
                have e199 := D199.trans (show u 11 = (.bool false) from hd ⟨11, .data⟩ (by simp) rfl (by omega))
                exact op_val (v := (.bool false)) rfl (by simp only [execOp, List.map_toArray, List.map_cons, List.map_nil, e199]; go_simp) (hK _ _ (show _ = _ from rfl) (Below.refl _ _) (Fresh.no _ _ _))
              · intro w1 hb hd K hK
                have e24 := E24
                have g := D200.trans (show u 12 = .bool false from hd ⟨12, .guard⟩ (by simp) rfl (by omega))
                have q0 := (HK1.out.keep hb HK1.out.lt).cell (j := 0) (v := .int .u64 (a0 : Nat)) rfl
                have q1 := (HK1.out.keep hb HK1.out.lt).cell (j := 1) (v := .int .u64 (a1 : Nat)) rfl
                have q2 := (HK1.out.keep hb HK1.out.lt).cell (j := 2) (v := .int .u64 (a2 : Nat)) rfl
                have q3 := (HK1.out.keep hb HK1.out.lt).cell (j := 3) (v := .int .u64 (a3 : Nat)) rfl
                exact op_val_w (v := (.agg #[.int .u64 (a0 : Nat), .int .u64 (a1 : Nat), .int .u64 (a2 : Nat), .int .u64 (a3 : Nat)])) (w' := w1) (wanted_of (j := 12) (s := 200) (b := false) (by kernel_rfl) (by kernel_rfl) g) (by simp only [execOp, e24]; go_simp) (hK _ _ (show _ = _ from rfl) (Below.refl _ _) (Fresh.no _ _ _))
              · intro w1 hb hd K hK
                have g := D200.trans (show u 12 = .bool false from hd ⟨12, .guard⟩ (by simp) rfl (by omega))
                refine op_call_w (R := fun v w2 => v = (.agg #[.int .u64 16382, .int .u64 67092481, .int .u64 549688705024, .int .u64 4503049871556608]) ∧ Below w1.heap.size w1 w2) (f := 17) (args := #[]) (wanted_of (j := 12) (s := 200) (b := false) (by kernel_rfl) (by kernel_rfl) g) (by simp only [execOp]; go_simp) ((swapped_any w1).mono fun e w2 hh => ⟨_, hh.1, rfl, hh.2⟩) (fun v w2 hh => hK _ _ hh.1 hh.2 (Fresh.no _ _ _))
              · intro w1 hb hd K hK
                have e201 := D201.trans (show u 13 = (.agg #[.int .u64 (a0 : Nat), .int .u64 (a1 : Nat), .int .u64 (a2 : Nat), .int .u64 (a3 : Nat)]) from hd ⟨13, .data⟩ (by simp) rfl (by omega))
                have e202 := D202.trans (show u 14 = (.agg #[.int .u64 16382, .int .u64 67092481, .int .u64 549688705024, .int .u64 4503049871556608]) from hd ⟨14, .data⟩ (by simp) rfl (by omega))
                have g := D200.trans (show u 12 = .bool false from hd ⟨12, .guard⟩ (by simp) rfl (by omega))
                refine op_call_w (R := fun v w2 => v = (.bool true) ∧ Below w1.heap.size w1 w2) (f := 15) (args := #[.agg #[.int .u64 (a0 : Nat), .int .u64 (a1 : Nat), .int .u64 (a2 : Nat), .int .u64 (a3 : Nat)], .agg #[.int .u64 16382, .int .u64 67092481, .int .u64 549688705024, .int .u64 4503049871556608]]) (wanted_of (j := 12) (s := 200) (b := false) (by kernel_rfl) (by kernel_rfl) g) (by simp only [execOp]; go_simp; first | exact ⟨eval_get e201, eval_get e202⟩ | (simp only [Act.eval] at *; simp_all)) ((HF3.out w1).mono fun e w2 hh => ⟨_, hh.1, rfl, hh.2⟩) (fun v w2 hh => hK _ _ hh.1 hh.2 (Fresh.no _ _ _))
              · intro w1 hb hd K hK
                have e203 := D203.trans (show u 15 = (.bool true) from hd ⟨15, .data⟩ (by simp) rfl (by omega))
                have g := D200.trans (show u 12 = .bool false from hd ⟨12, .guard⟩ (by simp) rfl (by omega))
                exact op_val_w (v := (.bool false)) (wanted_of (j := 12) (s := 200) (b := false) (by kernel_rfl) (by kernel_rfl) g) (by simp only [execOp, List.map_toArray, List.map_cons, List.map_nil, e203]; go_simp) (hK _ _ (show _ = _ from rfl) (Below.refl _ _) (Fresh.no _ _ _))
              · intro w1 hb hd K hK
                have e200 := D200.trans (show u 12 = (.bool false) from hd ⟨12, .data⟩ (by simp) rfl (by omega))
                have e204 := D204.trans (show u 16 = (.bool false) from hd ⟨16, .data⟩ (by simp) rfl (by omega))
                exact op_val (v := (.bool false)) rfl (by simp only [execOp, List.map_toArray, List.map_cons, List.map_nil, e200, e204]; go_simp) (hK _ _ (show _ = _ from rfl) (Below.refl _ _) (Fresh.no _ _ _))
              · intro w1 hb hd K hK
                have e205 := D205.trans (show u 17 = (.bool false) from hd ⟨17, .data⟩ (by simp) rfl (by omega))
                exact op_val (v := (.bool false)) rfl (by simp only [execOp, List.map_toArray, List.map_cons, List.map_nil, e205]; go_simp) (hK _ _ (show _ = _ from rfl) (Below.refl _ _) (Fresh.no _ _ _))
              · intro w1 hb hd K hK
                have e24 := E24
                have g := D206.trans (show u 18 = .bool false from hd ⟨18, .guard⟩ (by simp) rfl (by omega))
                have q0 := (HK1.out.keep hb HK1.out.lt).cell (j := 0) (v := .int .u64 (a0 : Nat)) rfl
                have q1 := (HK1.out.keep hb HK1.out.lt).cell (j := 1) (v := .int .u64 (a1 : Nat)) rfl
                have q2 := (HK1.out.keep hb HK1.out.lt).cell (j := 2) (v := .int .u64 (a2 : Nat)) rfl
                have q3 := (HK1.out.keep hb HK1.out.lt).cell (j := 3) (v := .int .u64 (a3 : Nat)) rfl
                exact op_val_w (v := (.agg #[.int .u64 (a0 : Nat), .int .u64 (a1 : Nat), .int .u64 (a2 : Nat), .int .u64 (a3 : Nat)])) (w' := w1) (wanted_of (j := 18) (s := 206) (b := false) (by kernel_rfl) (by kernel_rfl) g) (by simp only [execOp, e24]; go_simp) (hK _ _ (show _ = _ from rfl) (Below.refl _ _) (Fresh.no _ _ _))
              · intro w1 hb hd K hK
                have g := D206.trans (show u 18 = .bool false from hd ⟨18, .guard⟩ (by simp) rfl (by omega))
                refine op_call_w (R := fun v w2 => v = (.agg #[.int .u64 8191, .int .u64 67100672, .int .u64 549688705024, .int .u64 4503049871556608]) ∧ Below w1.heap.size w1 w2) (f := 12) (args := #[]) (wanted_of (j := 18) (s := 206) (b := false) (by kernel_rfl) (by kernel_rfl) g) (by simp only [execOp]; go_simp) ((suits_any w1).mono fun e w2 hh => ⟨_, hh.1, rfl, hh.2⟩) (fun v w2 hh => hK _ _ hh.1 hh.2 (Fresh.no _ _ _))
              · intro w1 hb hd K hK
                have e24 := E24
                have g := D206.trans (show u 18 = .bool false from hd ⟨18, .guard⟩ (by simp) rfl (by omega))
                have q0 := (HK1.out.keep hb HK1.out.lt).cell (j := 0) (v := .int .u64 (a0 : Nat)) rfl
                have q1 := (HK1.out.keep hb HK1.out.lt).cell (j := 1) (v := .int .u64 (a1 : Nat)) rfl
                have q2 := (HK1.out.keep hb HK1.out.lt).cell (j := 2) (v := .int .u64 (a2 : Nat)) rfl
                have q3 := (HK1.out.keep hb HK1.out.lt).cell (j := 3) (v := .int .u64 (a3 : Nat)) rfl
                exact op_val_w (v := (.agg #[.int .u64 (a0 : Nat), .int .u64 (a1 : Nat), .int .u64 (a2 : Nat), .int .u64 (a3 : Nat)])) (w' := w1) (wanted_of (j := 18) (s := 206) (b := false) (by kernel_rfl) (by kernel_rfl) g) (by simp only [execOp, e24]; go_simp) (hK _ _ (show _ = _ from rfl) (Below.refl _ _) (Fresh.no _ _ _))
              · intro w1 hb hd K hK
                have g := D206.trans (show u 18 = .bool false from hd ⟨18, .guard⟩ (by simp) rfl (by omega))
                refine op_call_w (R := fun v w2 => v = (.agg #[.int .u64 16382, .int .u64 67092481, .int .u64 549688705024, .int .u64 4503049871556608]) ∧ Below w1.heap.size w1 w2) (f := 17) (args := #[]) (wanted_of (j := 18) (s := 206) (b := false) (by kernel_rfl) (by kernel_rfl) g) (by simp only [execOp]; go_simp) ((swapped_any w1).mono fun e w2 hh => ⟨_, hh.1, rfl, hh.2⟩) (fun v w2 hh => hK _ _ hh.1 hh.2 (Fresh.no _ _ _))
              · intro w1 hb hd K hK
                have g := D206.trans (show u 18 = .bool false from hd ⟨18, .guard⟩ (by simp) rfl (by omega))
                refine op_call_w (R := fun v w2 => v = (.agg #[.int .u64 8191, .int .u64 67100672, .int .u64 549688705024, .int .u64 4503049871556608]) ∧ Below w1.heap.size w1 w2) (f := 12) (args := #[]) (wanted_of (j := 18) (s := 206) (b := false) (by kernel_rfl) (by kernel_rfl) g) (by simp only [execOp]; go_simp) ((suits_any w1).mono fun e w2 hh => ⟨_, hh.1, rfl, hh.2⟩) (fun v w2 hh => hK _ _ hh.1 hh.2 (Fresh.no _ _ _))
              · intro w1 hb hd K hK
                have e207 := D207.trans (show u 19 = (.agg #[.int .u64 (a0 : Nat), .int .u64 (a1 : Nat), .int .u64 (a2 : Nat), .int .u64 (a3 : Nat)]) from hd ⟨19, .data⟩ (by simp) rfl (by omega))
                have e208 := D208.trans (show u 20 = (.agg #[.int .u64 8191, .int .u64 67100672, .int .u64 549688705024, .int .u64 4503049871556608]) from hd ⟨20, .data⟩ (by simp) rfl (by omega))
                have e209 := D209.trans (show u 21 = (.agg #[.int .u64 (a0 : Nat), .int .u64 (a1 : Nat), .int .u64 (a2 : Nat), .int .u64 (a3 : Nat)]) from hd ⟨21, .data⟩ (by simp) rfl (by omega))
                have e210 := D210.trans (show u 22 = (.agg #[.int .u64 16382, .int .u64 67092481, .int .u64 549688705024, .int .u64 4503049871556608]) from hd ⟨22, .data⟩ (by simp) rfl (by omega))
                have e211 := D211.trans (show u 23 = (.agg #[.int .u64 8191, .int .u64 67100672, .int .u64 549688705024, .int .u64 4503049871556608]) from hd ⟨23, .data⟩ (by simp) rfl (by omega))
                have g := D206.trans (show u 18 = .bool false from hd ⟨18, .guard⟩ (by simp) rfl (by omega))
                exact op_val_w (v := .slice (some ⟨w1.heap.size, 0, none⟩) 5 5) (w' := w1.alloc (.cells #[.int .u64 (a0 : Nat), .int .u64 (a1 : Nat), .int .u64 (a2 : Nat), .int .u64 (a3 : Nat), .int .u64 8191, .int .u64 67100672, .int .u64 549688705024, .int .u64 4503049871556608, .int .u64 (a0 : Nat), .int .u64 (a1 : Nat), .int .u64 (a2 : Nat), .int .u64 (a3 : Nat), .int .u64 16382, .int .u64 67092481, .int .u64 549688705024, .int .u64 4503049871556608, .int .u64 8191, .int .u64 67100672, .int .u64 549688705024, .int .u64 4503049871556608] 24)) (wanted_of (j := 18) (s := 206) (b := false) (by kernel_rfl) (by kernel_rfl) g) (by simp only [execOp, List.map_toArray, List.map_cons, List.map_nil, e207, e208, e209, e210, e211]; go_simp) (hK _ _ (show ∃ p, _ ∧ _ from ⟨_, rfl, Blk.new w1 _ _⟩) (below1 _ _) (Fresh.no _ _ _))
              · intro w1 hb hd K hK
                have g := D206.trans (show u 18 = .bool false from hd ⟨18, .guard⟩ (by simp) rfl (by omega))
                obtain ⟨p, h1, h2⟩ := (show ∃ p, u 24 = .slice (some ⟨p, 0, none⟩) 5 5 ∧ Blk w1 p 24 #[.int .u64 (a0 : Nat), .int .u64 (a1 : Nat), .int .u64 (a2 : Nat), .int .u64 (a3 : Nat), .int .u64 8191, .int .u64 67100672, .int .u64 549688705024, .int .u64 4503049871556608, .int .u64 (a0 : Nat), .int .u64 (a1 : Nat), .int .u64 (a2 : Nat), .int .u64 (a3 : Nat), .int .u64 16382, .int .u64 67092481, .int .u64 549688705024, .int .u64 4503049871556608, .int .u64 8191, .int .u64 67100672, .int .u64 549688705024, .int .u64 4503049871556608] from hd ⟨24, .data⟩ (by simp) rfl (by omega))
                have e212 := D212.trans h1
                refine op_call_w (R := fun v w2 => v = .bool true ∧ Below w1.heap.size w1 w2) (f := 18) (args := #[.slice (some ⟨p, 0, none⟩) 5 5]) (wanted_of (j := 18) (s := 206) (b := false) (by kernel_rfl) (by kernel_rfl) g) (by simp only [execOp]; go_simp; exact eval_get e212) ((HCL.out w1 _ (dr_list (T := 24) [x, suitF, x, swapF, suitF] (by rw [HFX.out]; exact h2))).mono fun e w2 hh => ⟨_, hh.1, rfl, hh.2⟩) (fun v w2 hh => hK _ _ hh.1 hh.2 (Fresh.no _ _ _))
              · intro w1 hb hd K hK
                have e213 := D213.trans (show u 25 = (.bool true) from hd ⟨25, .data⟩ (by simp) rfl (by omega))
                have g := D206.trans (show u 18 = .bool false from hd ⟨18, .guard⟩ (by simp) rfl (by omega))
                exact op_val_w (v := (.bool false)) (wanted_of (j := 18) (s := 206) (b := false) (by kernel_rfl) (by kernel_rfl) g) (by simp only [execOp, List.map_toArray, List.map_cons, List.map_nil, e213]; go_simp) (hK _ _ (show _ = _ from rfl) (Below.refl _ _) (Fresh.no _ _ _))
            have hv188 : u 0 = (.agg #[.int .u64 8191, .int .u64 67100672, .int .u64 549688705024, .int .u64 4503049871556608]) := (show u 0 = _ from hsF 0 (by omega) (by omega))
            have hv189 : u 1 = (.agg #[.int .u64 (a0 : Nat), .int .u64 (a1 : Nat), .int .u64 (a2 : Nat), .int .u64 (a3 : Nat)]) := (show u 1 = _ from hsF 1 (by omega) (by omega))
            have hv190 : u 2 = (.bool true) := (show u 2 = _ from hsF 2 (by omega) (by omega))
            have hv191 : u 3 = (.bool false) := (show u 3 = _ from hsF 3 (by omega) (by omega))
            have hv192 : u 4 = (.bool false) := (show u 4 = _ from hsF 4 (by omega) (by omega))
            have hv193 : u 5 = (.agg #[.int .u64 (a0 : Nat), .int .u64 (a1 : Nat), .int .u64 (a2 : Nat), .int .u64 (a3 : Nat)]) := (show u 5 = _ from hsF 5 (by omega) (by omega))
            have hv194 : u 6 = (.agg #[.int .u64 8191, .int .u64 67100672, .int .u64 549688705024, .int .u64 4503049871556608]) := (show u 6 = _ from hsF 6 (by omega) (by omega))
            have hv195 : u 7 = (.int .i64 (c : Int)) := (show u 7 = _ from hsF 7 (by omega) (by omega))
            have hv196 : u 8 = (.agg #[.int .u64 (t0 : Nat), .int .u64 (t1 : Nat), .int .u64 (t2 : Nat), .int .u64 (t3 : Nat)]) := (show u 8 = _ from hsF 8 (by omega) (by omega))
            have hv197 : u 9 = (.bool true) := (show u 9 = _ from hsF 9 (by omega) (by omega))
            have hv198 : u 10 = (.bool false) := (show u 10 = _ from hsF 10 (by omega) (by omega))
            have hv199 : u 11 = (.bool false) := (show u 11 = _ from hsF 11 (by omega) (by omega))
            have hv200 : u 12 = (.bool false) := (show u 12 = _ from hsF 12 (by omega) (by omega))
            have hv201 : u 13 = (.agg #[.int .u64 (a0 : Nat), .int .u64 (a1 : Nat), .int .u64 (a2 : Nat), .int .u64 (a3 : Nat)]) := (show u 13 = _ from hsF 13 (by omega) (by omega))
            have hv202 : u 14 = (.agg #[.int .u64 16382, .int .u64 67092481, .int .u64 549688705024, .int .u64 4503049871556608]) := (show u 14 = _ from hsF 14 (by omega) (by omega))
            have hv203 : u 15 = (.bool true) := (show u 15 = _ from hsF 15 (by omega) (by omega))
            have hv204 : u 16 = (.bool false) := (show u 16 = _ from hsF 16 (by omega) (by omega))
            have hv205 : u 17 = (.bool false) := (show u 17 = _ from hsF 17 (by omega) (by omega))
            have hv206 : u 18 = (.bool false) := (show u 18 = _ from hsF 18 (by omega) (by omega))
            have hv207 : u 19 = (.agg #[.int .u64 (a0 : Nat), .int .u64 (a1 : Nat), .int .u64 (a2 : Nat), .int .u64 (a3 : Nat)]) := (show u 19 = _ from hsF 19 (by omega) (by omega))
            have hv208 : u 20 = (.agg #[.int .u64 8191, .int .u64 67100672, .int .u64 549688705024, .int .u64 4503049871556608]) := (show u 20 = _ from hsF 20 (by omega) (by omega))
            have hv209 : u 21 = (.agg #[.int .u64 (a0 : Nat), .int .u64 (a1 : Nat), .int .u64 (a2 : Nat), .int .u64 (a3 : Nat)]) := (show u 21 = _ from hsF 21 (by omega) (by omega))
            have hv210 : u 22 = (.agg #[.int .u64 16382, .int .u64 67092481, .int .u64 549688705024, .int .u64 4503049871556608]) := (show u 22 = _ from hsF 22 (by omega) (by omega))
            have hv211 : u 23 = (.agg #[.int .u64 8191, .int .u64 67100672, .int .u64 549688705024, .int .u64 4503049871556608]) := (show u 23 = _ from hsF 23 (by omega) (by omega))
            obtain ⟨pl, hv212, hB212⟩ := (show ∃ p, u 24 = .slice (some ⟨p, 0, none⟩) 5 5 ∧ Blk w' p 24 #[.int .u64 (a0 : Nat), .int .u64 (a1 : Nat), .int .u64 (a2 : Nat), .int .u64 (a3 : Nat), .int .u64 8191, .int .u64 67100672, .int .u64 549688705024, .int .u64 4503049871556608, .int .u64 (a0 : Nat), .int .u64 (a1 : Nat), .int .u64 (a2 : Nat), .int .u64 (a3 : Nat), .int .u64 16382, .int .u64 67092481, .int .u64 549688705024, .int .u64 4503049871556608, .int .u64 8191, .int .u64 67100672, .int .u64 549688705024, .int .u64 4503049871556608] from hsF 24 (by omega) (by omega))
            have hv213 : u 25 = .bool true := (show u 25 = _ from hsF 25 (by omega) (by omega))
            have hv214 : u 26 = (.bool false) := (show u 26 = _ from hsF 26 (by omega) (by omega))
            simp only [putRow, hv188, hv189, hv190, hv191, hv192, hv193, hv194, hv195, hv196, hv197, hv198, hv199, hv200, hv201, hv202, hv203, hv204, hv205, hv206, hv207, hv208, hv209, hv210, hv211, hv212, hv213, hv214, Act.put, List.setIfInBounds_toArray, List.set_cons_succ, List.set_cons_zero]
            clear hsF hold hap hv188 hv189 hv190 hv191 hv192 hv193 hv194 hv195 hv196 hv197 hv198 hv199 hv200 hv201 hv202 hv203 hv204 hv205 hv206 hv207 hv208 hv209 hv210 hv211 hv212 hv213 hv214

            refine rest_forced 1 (by kernel_rfl) ?_
            simp only [List.drop_succ_cons, List.drop_zero, List.take_succ_cons, List.take_zero]
            go_wp2_with fail
            refine rest_done rfl ?_
            go_wp2_with fail
            go_meet
            exact ⟨rfl, Lib.hid (HI2.out.step hbF)⟩
          case rest =>
            obtain ⟨rfl, HI⟩ := hcut
            go_wp2_with fail
            go_roundw
            case rel => exact ⟨c + 1, by omega, rfl, by first | rfl | simp, HI.out⟩
            case measure => simp [intOf]; try omega
      · obtain rfl : c = 51 := by omega
        have u1 : decide ((51 : Int) < 51) = false := rfl
        rw [show ((51 : Nat) : Int) = 51 from rfl]
        go_wp2_with fail
        go_meet
        exact ⟨rfl, HI.out⟩
  case rest =>
  clear HI
  obtain ⟨rfl, hI⟩ := hcut
  have HI := Lib.hid hI
  clear hI
  go_upto_block 12 with fail
  go_cut [0] (fun s0 wx => s0 = .bool false ∧ Iv w wx)
  case first =>
    go_wp2_with fail
    go_loopw [0, 28] (fun v0 v28 wr => ∃ n : Nat, 22 ≤ n ∧ n ≤ 27 ∧ v0 = .bool false ∧ v28 = .int .i64 (n : Int) ∧ Iv w wr) (fun _ v28 _ => (27 - intOf v28).toNat)
    case atStart => exact ⟨22, by omega, by omega, rfl, rfl, HI.out⟩
    case round =>
      clear HI
      obtain ⟨n, hn1, hn2, rfl, rfl, hI⟩ := hrel
      have HI := Lib.hid hI
      clear hI
      by_cases hlt : n < 27
      · have u1 : decide ((n : Int) < 27) = true := decide_eq_true (by omega)
        have MK := Lib.hid (fun W => made_deals n (by omega) W)
        have mk := MK.out
        go_upto_block 14 with fail
        have HK0 := Lib.hid (Blk.new wr 24 (dV (List.replicate n zF)).toArray)
        have HI2 := Lib.hid (HI.out.step (below1 wr (.cells (dV (List.replicate n zF)).toArray 24)))
        have HPD : Hid (w.heap.size ≤ wr.heap.size) := Lib.hid HI.out.below.size
        clear HI mk MK
        generalize wr.alloc (.cells (dV (List.replicate n zF)).toArray 24) = W2 at *
        generalize wr.heap.size = pd at *
        have HL : Hid (LD W2 pd n (List.replicate n zF)) := Lib.hid ⟨by simp, (fun j y hy => by obtain rfl := List.eq_of_mem_replicate (List.mem_of_getElem? hy); exact zero_64), HK0.out⟩
        clear HK0
        go_cut [] (fun wx => ∃ L : List Four, Hid (LD wx pd n L) ∧ Hid (Iv w wx))
        case first =>
          go_wp2_with fail
          go_loopw [225] (fun v225 wr => ∃ (i : Nat) (L : List Four), i ≤ n ∧ v225 = .int .i64 (i : Int) ∧ Hid (LD wr pd n L) ∧ Hid (Iv w wr)) (fun v225 _ => (n - intOf v225).toNat)
          case atStart => exact ⟨0, _, by omega, rfl, HL, HI2⟩
          case round =>
            clear HL HI2
            obtain ⟨i, L, hi, rfl, HL, HI⟩ := hrel
            by_cases hl2 : i < n
            · have u2 : decide ((i : Int) < (n : Int)) = true := decide_eq_true (by omega)
              have u3 : decide (i < n) = true := decide_eq_true hl2
              have hii : i * i ≤ 27 * 27 := Nat.mul_le_mul (by omega) (by omega)
              obtain ⟨K, hK⟩ : ∃ K, i * i = K := ⟨_, rfl⟩
              have e1 : IntKind.i64.wrap ((i : Int) * (i : Int)) = (K : Int) := by rw [IntWalk.i64_in _ (by rw [← Int.natCast_mul, hK]; omega), ← Int.natCast_mul, hK]
              have e1b : (i : Int) * (i : Int) = (K : Int) := by rw [← Int.natCast_mul, hK]
              have e2 := inc64 i (by omega)
              have hKb : K ≤ 729 := by omega
              have HTU := Lib.hid (fun W => turn_any (ofF suitF) (K : Int) (by omega) W)
              have HY := Lib.hid (turn_64 (K : Int))
              obtain ⟨y, hy⟩ : ∃ y, toF (turnD (ofF suitF) (K : Int)) = y := ⟨_, rfl⟩
              have HY2 : Hid (F64 y) := Lib.hid (by rw [← hy]; intro k hk; rcases (by omega : k = 0 ∨ k = 1 ∨ k = 2 ∨ k = 3) with rfl | rfl | rfl | rfl <;> exact HY.out _ (by omega))
              have HTV : Hid (∀ W, Calls Tryz.prog 16 #[.agg #[.int .u64 8191, .int .u64 67100672, .int .u64 549688705024, .int .u64 4503049871556608], .int .i64 (K : Int)] W (fun e w' => e = .returned (.agg #[.int .u64 (ofF y 0 : Nat), .int .u64 (ofF y 1 : Nat), .int .u64 (ofF y 2 : Nat), .int .u64 (ofF y 3 : Nat)]) ∧ Below W.heap.size W w')) := Lib.hid (fun W => by rw [← hy]; exact HTU.out W)
              clear HTU HY hy hK hii hi
              go_wp2_with fail
              refine (suits_any _).mono ?_
              rintro e w1 ⟨rfl, hb⟩
              have HL1 := Lib.hid (HL.out.keep hb)
              have HI1 := Lib.hid (HI.out.step hb)
              clear hb HL HI
              go_wp2_with fail
              refine (HTV.out _).mono ?_
              rintro e w2 ⟨rfl, hb⟩
              have HL2 := Lib.hid (HL1.out.keep hb)
              have HI2 := Lib.hid (HI1.out.step hb)
              clear hb HL1 HI1 HTV
              obtain ⟨x, hx⟩ := HL2.out.cells hl2
              have x0 := hx 0 (by omega)
              have x1 := hx 1 (by omega)
              have x2 := hx 2 (by omega)
              have x3 := hx 3 (by omega)
              rw [Nat.add_zero] at x0
              have f0 := HL2.out.2.2.free (i * 4)
              have f1 := HL2.out.2.2.free (i * 4 + 1)
              have f2 := HL2.out.2.2.free (i * 4 + 2)
              have f3 := HL2.out.2.2.free (i * 4 + 3)
              have HL3 := Lib.hid (HL2.out.put hl2 y HY2.out)
              have HI3 := Lib.hid ((((HI2.out.set HPD.out (i * 4) (.int .u64 (ofF y 0 : Nat))).set HPD.out (i * 4 + 1) (.int .u64 (ofF y 1 : Nat))).set HPD.out (i * 4 + 2) (.int .u64 (ofF y 2 : Nat))).set HPD.out (i * 4 + 3) (.int .u64 (ofF y 3 : Nat)))
              clear hx HL2 HI2 HY2
              generalize ofF y 0 = y0 at *
              generalize ofF y 1 = y1 at *
              generalize ofF y 2 = y2 at *
              generalize ofF y 3 = y3 at *
              go_wp2_with fail
              go_roundw
              case rel => exact ⟨i + 1, _, by omega, by first | rfl | simp, HL3, HI3⟩
              case measure => simp [intOf]; try omega
            · obtain rfl : i = n := by omega
              have u2 : decide ((i : Int) < (i : Int)) = false := decide_eq_false (by omega)
              have u3 : decide (i < i) = false := decide_eq_false (by omega)
              go_wp2_with fail
              go_meet
              exact ⟨L, HL, HI⟩
        case rest =>
          clear HL HI2
          obtain ⟨L, HL, HI⟩ := hcut
          go_wp2_with fail
          refine (HL.out.classes (by omega)).mono ?_
          rintro e w1 ⟨rfl, hb⟩
          have HL1 := Lib.hid (HL.out.keep hb)
          have HI1 := Lib.hid (HI.out.step hb)
          clear hb HL HI
          obtain ⟨m, hm⟩ : ∃ m, n = m + 1 := ⟨n - 1, by omega⟩
          have hmn : m < n := by omega
          have e1 : IntKind.i64.wrap ((n : Int) - 1) = (m : Int) := by rw [IntWalk.i64_in _ (by omega)]; omega
          have e1b : (n : Int) - 1 = (m : Int) := by omega
          have hmi : (m : Int) < (n : Int) := by omega
          have e9 := inc64 n (by omega)
          clear hm
          obtain ⟨x, hx⟩ := HL1.out.cells hmn
          have x0 := hx 0 (by omega)
          have x1 := hx 1 (by omega)
          have x2 := hx 2 (by omega)
          have x3 := hx 3 (by omega)
          rw [Nat.add_zero] at x0
          have f0 := HL1.out.2.2.free (m * 4)
          have f1 := HL1.out.2.2.free (m * 4 + 1)
          have f2 := HL1.out.2.2.free (m * 4 + 2)
          have f3 := HL1.out.2.2.free (m * 4 + 3)
          have HL3 : Hid (LD ((((w1.setCell ⟨pd, m * 4, none⟩ (.int .u64 0)).setCell ⟨pd, m * 4 + 1, none⟩ (.int .u64 0)).setCell ⟨pd, m * 4 + 2, none⟩ (.int .u64 0)).setCell ⟨pd, m * 4 + 3, none⟩ (.int .u64 0)) pd n (L.set m zF)) := Lib.hid (HL1.out.put hmn zF zero_64)
          have HI3 := Lib.hid ((((HI1.out.set HPD.out (m * 4) (.int .u64 0)).set HPD.out (m * 4 + 1) (.int .u64 0)).set HPD.out (m * 4 + 2) (.int .u64 0)).set HPD.out (m * 4 + 3) (.int .u64 0))
          clear hx HL1 HI1
          go_wp2_with fail
          refine (HL3.out.classes (by omega)).mono ?_
          rintro e w2 ⟨rfl, hb⟩
          have HI4 := Lib.hid (HI3.out.step hb)
          clear hb HL3 HI3 x0 x1 x2 x3 f0 f1 f2 f3
          go_wp2_with fail
          go_roundw
          case rel => exact ⟨n + 1, by omega, by omega, rfl, by first | rfl | simp, HI4.out⟩
          case measure => simp [intOf]; try omega
      · obtain rfl : n = 27 := by omega
        have u1 : decide ((27 : Int) < 27) = false := rfl
        rw [show ((27 : Nat) : Int) = 27 from rfl]
        go_wp2_with fail
        go_meet
        exact ⟨rfl, HI.out⟩
  case rest =>
  clear HI
  obtain ⟨rfl, hI⟩ := hcut
  have HI := Lib.hid hI
  clear hI
  obtain ⟨XT, cT, hXT, WXT⟩ := swap_wr 115
  have HWXT := Lib.hid WXT
  clear WXT
  go_wp2_with fail
  refine (swapped_any _).mono ?_
  rintro e w1 ⟨rfl, hb⟩
  have HI1 := Lib.hid (HI.out.step hb)
  clear hb HI
  go_wp2_with fail
  refine (HWXT.out _).mono ?_
  rintro e w2 ⟨rfl, hb⟩
  have HI := Lib.hid (HI1.out.step hb)
  clear hb HI1 HWXT
  go_upto_block 16 with fail
  obtain ⟨N, hN⟩ : ∃ N, XT.size = N := ⟨_, rfl⟩
  have HNN := Lib.hid hN
  rw [hN] at hXT ⊢
  clear hN
  go_cut [0] (fun s0 wx => s0 = .bool false ∧ Iv w wx)
  case first =>
    go_wp2_with fail
    go_loopw [0, 255] (fun v0 v255 wr => ∃ i : Nat, i ≤ N ∧ v0 = .bool false ∧ v255 = .int .i64 (i : Int) ∧ Iv w wr) (fun _ v255 _ => (N - intOf v255).toNat)
    case atStart => exact ⟨0, by omega, rfl, rfl, HI.out⟩
    case round =>
      clear HI
      obtain ⟨i, hi, rfl, rfl, hI⟩ := hrel
      have HI := Lib.hid hI
      clear hI
      by_cases hlt : i < N
      · have u1 : decide ((i : Int) < (N : Int)) = true := decide_eq_true (by omega)
        have u1b : decide (i < N) = true := decide_eq_true hlt
        have e9 := inc64 i (by omega)
        go_upto_region 63 with fail
        have HSA : Hid (∀ k, k < 6 → ∃ X : ByteArray, (#[.string ⟨#[]⟩, .string ⟨#[32]⟩, .string ⟨#[49]⟩, .string ⟨#[78]⟩, .string ⟨#[120]⟩, .string ⟨#[50]⟩] : Array Value)[k]? = some (.string X) ∧ X.size ≤ 100) := Lib.hid (by
          intro k hk
          rcases (by omega : k = 0 ∨ k = 1 ∨ k = 2 ∨ k = 3 ∨ k = 4 ∨ k = 5) with rfl | rfl | rfl | rfl | rfl | rfl <;> exact ⟨_, rfl, by decide⟩)
        have HK := Lib.hid (Blk.new wr 9 #[.string ⟨#[]⟩, .string ⟨#[32]⟩, .string ⟨#[49]⟩, .string ⟨#[78]⟩, .string ⟨#[120]⟩, .string ⟨#[50]⟩])
        have HI2 := Lib.hid (HI.out.step (below1 wr (.cells #[.string ⟨#[]⟩, .string ⟨#[32]⟩, .string ⟨#[49]⟩, .string ⟨#[78]⟩, .string ⟨#[120]⟩, .string ⟨#[50]⟩] 9)))
        generalize wr.alloc (.cells #[.string ⟨#[]⟩, .string ⟨#[32]⟩, .string ⟨#[49]⟩, .string ⟨#[78]⟩, .string ⟨#[120]⟩, .string ⟨#[50]⟩] 9) = W3 at *
        generalize (#[.string ⟨#[]⟩, .string ⟨#[32]⟩, .string ⟨#[49]⟩, .string ⟨#[78]⟩, .string ⟨#[120]⟩, .string ⟨#[50]⟩] : Array Value) = SA at *
        generalize wr.heap.size = pb at *
        clear HI
        go_wp2_with fail
        go_loopw [0, 260] (fun v0 v260 wq => ∃ k : Nat, k ≤ 6 ∧ v0 = .bool false ∧ v260 = .int .i64 (k : Int) ∧ Hid (Blk wq pb 9 SA) ∧ Iv w wq) (fun _ v260 _ => (6 - intOf v260).toNat)
        case atStart => exact ⟨0, by omega, rfl, rfl, HK, HI2.out⟩
        case round =>
          clear HK HI2
          obtain ⟨k, hk, rfl, rfl, HK, hI⟩ := hrel
          have HI := Lib.hid hI
          clear hI
          by_cases hl2 : k < 6
          · have u2 : decide ((k : Int) < 6) = true := decide_eq_true (by omega)
            have u2b : decide (k < 6) = true := decide_eq_true hl2
            have e8 := inc64 k (by omega)
            obtain ⟨X, hX, hXs⟩ := HSA.out k hl2
            have x0 := HK.out.cell hX
            have hk6 : (k : Int) < 6 := by omega
            have HXS := Lib.hid hXs
            clear hX hXs
            go_upto_region 65 with fail
            clear x0
            by_cases h20 : i < 20
            · have t1 : decide ((i : Int) < 20) = true := decide_eq_true (by omega)
              obtain ⟨A, hA⟩ : ∃ A, XT.extract 0 i = A := ⟨_, rfl⟩
              obtain ⟨B, hB⟩ : ∃ B, XT.extract (i + 1) N = B := ⟨_, rfl⟩
              obtain ⟨C, hC⟩ : ∃ C, XT.extract i N = C := ⟨_, rfl⟩
              have hAs : A.size ≤ 1000 := by rw [← hA, ByteArray.size_extract]; have := HNN.out; omega
              have hBs : B.size ≤ 1000 := by rw [← hB, ByteArray.size_extract]; have := HNN.out; omega
              have hCs : C.size ≤ 1000 := by rw [← hC, ByteArray.size_extract]; have := HNN.out; omega
              have hXs := HXS.out
              have z1 : ¬ 9223372036854775807 < A.size + X.size := by omega
              have z2 : ¬ 9223372036854775807 < A.size + X.size + B.size := by omega
              have z3 : ¬ 9223372036854775807 < A.size + X.size + C.size := by omega
              have HR1 := Lib.hid (fun W hW => recs_zero 0 0 (by omega) (A ++ X ++ B) (by rw [ByteArray.size_append, ByteArray.size_append]; omega) W hW)
              have HR2 := Lib.hid (fun W hW => recs_zero 0 0 (by omega) (A ++ X ++ C) (by rw [ByteArray.size_append, ByteArray.size_append]; omega) W hW)
              have q1 : (i : Int) ≤ (N : Int) := by omega
              have q2 : (i : Int) + 1 ≤ (N : Int) := by omega
              have q3 : (0 : Int) ≤ (i : Int) + 1 := by omega
              have hsz := HNN.out
              have HSL1 := Lib.hid (fun W => slice_to XT i N hsz (by omega) W)
              have HSL2 := Lib.hid (fun W => slice_from XT (i + 1) N hsz (by omega) (by omega) W)
              have HSL3 := Lib.hid (fun W => slice_from XT i N hsz (by omega) (by omega) W)
              rw [hA] at HSL1
              rw [hB] at HSL2
              rw [hC] at HSL3
              clear hA hB hC hAs hBs hCs hXs q1 q2 q3 hsz
              go_cut [294] (fun s294 wx => s294 = .bool false ∧ Hid (Blk wx pb 9 SA) ∧ Hid (Iv w wx))
              case first =>
                refine rest_begin (by kernel_rfl) ?_
                have HI1 := Lib.hid (HI.out.step (Below.drew (Below.refl _ _)))
                have HK1 := Lib.hid (HK.out.keep (Below.drew (Below.refl _ _)) HK.out.lt)
                clear HI HK
                generalize World.drew _ = W5 at *
                refine rest_flow3 [some 264, some 265, some 266, some 267, some 268, some 269, some 270, some 271, some 272, some 273, some 274, some 275, some 276, some 277, some 278, some 279, some 280, some 281, some 282, some 283, some 284, some 285, some 286, some 287, some 288, some 289, some 290, some 291, some 292, some 293] [Sp.is (.int .i64 (i : Int)), Sp.is (.bool true), Sp.is (.bool true), Sp.is (.agg #[.int .i64 0, .int .u64 0, .int .u64 0, .int .u64 0, .int .u64 0]), Sp.is (.string XT), Sp.is (.int .i64 (i : Int)), Sp.is (.string A), Sp.is (.string X), Sp.is (.string (A ++ X)), Sp.is (.string XT), Sp.is (.int .i64 (i : Int)), Sp.is (.int .i64 ((i + 1 : Nat) : Int)), Sp.is (.string B), Sp.is (.string (A ++ X ++ B)), Sp.is (.bool true), Sp.is (.bool false), Sp.is (.bool false), Sp.is (.agg #[.int .i64 0, .int .u64 0, .int .u64 0, .int .u64 0, .int .u64 0]), Sp.is (.string XT), Sp.is (.int .i64 (i : Int)), Sp.is (.string A), Sp.is (.string X), Sp.is (.string (A ++ X)), Sp.is (.string XT), Sp.is (.int .i64 (i : Int)), Sp.is (.string C), Sp.is (.string (A ++ X ++ C)), Sp.is (.bool true), Sp.is (.bool false), Sp.is (.bool false)] [false, false, false, false, false, false, false, false, false, false, false, false, false, false, false, false, false, false, false, false, false, false, false, false, false, false, false, false, false, false] 30 (by kernel_rfl) (by kernel_rfl) (fun u F hF => ?_) (fun u w' hbF hsF hold hap => ?_)
                case refine_1 =>
                  have E33 : F.eval (.tmp 33) = (.int .i64 (i : Int)) := (congrArg (fun a => Act.eval a (.tmp 33)) hF).trans (eval_out [some 264, some 265, some 266, some 267, some 268, some 269, some 270, some 271, some 272, some 273, some 274, some 275, some 276, some 277, some 278, some 279, some 280, some 281, some 282, some 283, some 284, some 285, some 286, some 287, some 288, some 289, some 290, some 291, some 292, some 293] 0 _ (by decide))
                  have D264 : F.eval (.tmp 264) = u 0 := (congrArg (fun a => Act.eval a (.tmp 264)) hF).trans (eval_in [some 264, some 265, some 266, some 267, some 268, some 269, some 270, some 271, some 272, some 273, some 274, some 275, some 276, some 277, some 278, some 279, some 280, some 281, some 282, some 283, some 284, some 285, some 286, some 287, some 288, some 289, some 290, some 291, some 292, some 293] 0 0 _ (by decide) (by omega) rfl (of_decide_eq_true (by kernel_rfl)))
                  have D265 : F.eval (.tmp 265) = u 1 := (congrArg (fun a => Act.eval a (.tmp 265)) hF).trans (eval_in [some 264, some 265, some 266, some 267, some 268, some 269, some 270, some 271, some 272, some 273, some 274, some 275, some 276, some 277, some 278, some 279, some 280, some 281, some 282, some 283, some 284, some 285, some 286, some 287, some 288, some 289, some 290, some 291, some 292, some 293] 0 1 _ (by decide) (by omega) rfl (of_decide_eq_true (by kernel_rfl)))
                  have D266 : F.eval (.tmp 266) = u 2 := (congrArg (fun a => Act.eval a (.tmp 266)) hF).trans (eval_in [some 264, some 265, some 266, some 267, some 268, some 269, some 270, some 271, some 272, some 273, some 274, some 275, some 276, some 277, some 278, some 279, some 280, some 281, some 282, some 283, some 284, some 285, some 286, some 287, some 288, some 289, some 290, some 291, some 292, some 293] 0 2 _ (by decide) (by omega) rfl (of_decide_eq_true (by kernel_rfl)))
                  have E31 : F.eval (.tmp 31) = (.string XT) := (congrArg (fun a => Act.eval a (.tmp 31)) hF).trans (eval_out [some 264, some 265, some 266, some 267, some 268, some 269, some 270, some 271, some 272, some 273, some 274, some 275, some 276, some 277, some 278, some 279, some 280, some 281, some 282, some 283, some 284, some 285, some 286, some 287, some 288, some 289, some 290, some 291, some 292, some 293] 0 _ (by decide))
                  have D268 : F.eval (.tmp 268) = u 4 := (congrArg (fun a => Act.eval a (.tmp 268)) hF).trans (eval_in [some 264, some 265, some 266, some 267, some 268, some 269, some 270, some 271, some 272, some 273, some 274, some 275, some 276, some 277, some 278, some 279, some 280, some 281, some 282, some 283, some 284, some 285, some 286, some 287, some 288, some 289, some 290, some 291, some 292, some 293] 0 4 _ (by decide) (by omega) rfl (of_decide_eq_true (by kernel_rfl)))
                  have D269 : F.eval (.tmp 269) = u 5 := (congrArg (fun a => Act.eval a (.tmp 269)) hF).trans (eval_in [some 264, some 265, some 266, some 267, some 268, some 269, some 270, some 271, some 272, some 273, some 274, some 275, some 276, some 277, some 278, some 279, some 280, some 281, some 282, some 283, some 284, some 285, some 286, some 287, some 288, some 289, some 290, some 291, some 292, some 293] 0 5 _ (by decide) (by omega) rfl (of_decide_eq_true (by kernel_rfl)))
                  have E35 : F.eval (.tmp 35) = (.string X) := (congrArg (fun a => Act.eval a (.tmp 35)) hF).trans (eval_out [some 264, some 265, some 266, some 267, some 268, some 269, some 270, some 271, some 272, some 273, some 274, some 275, some 276, some 277, some 278, some 279, some 280, some 281, some 282, some 283, some 284, some 285, some 286, some 287, some 288, some 289, some 290, some 291, some 292, some 293] 0 _ (by decide))
                  have D270 : F.eval (.tmp 270) = u 6 := (congrArg (fun a => Act.eval a (.tmp 270)) hF).trans (eval_in [some 264, some 265, some 266, some 267, some 268, some 269, some 270, some 271, some 272, some 273, some 274, some 275, some 276, some 277, some 278, some 279, some 280, some 281, some 282, some 283, some 284, some 285, some 286, some 287, some 288, some 289, some 290, some 291, some 292, some 293] 0 6 _ (by decide) (by omega) rfl (of_decide_eq_true (by kernel_rfl)))
                  have D271 : F.eval (.tmp 271) = u 7 := (congrArg (fun a => Act.eval a (.tmp 271)) hF).trans (eval_in [some 264, some 265, some 266, some 267, some 268, some 269, some 270, some 271, some 272, some 273, some 274, some 275, some 276, some 277, some 278, some 279, some 280, some 281, some 282, some 283, some 284, some 285, some 286, some 287, some 288, some 289, some 290, some 291, some 292, some 293] 0 7 _ (by decide) (by omega) rfl (of_decide_eq_true (by kernel_rfl)))
                  have D274 : F.eval (.tmp 274) = u 10 := (congrArg (fun a => Act.eval a (.tmp 274)) hF).trans (eval_in [some 264, some 265, some 266, some 267, some 268, some 269, some 270, some 271, some 272, some 273, some 274, some 275, some 276, some 277, some 278, some 279, some 280, some 281, some 282, some 283, some 284, some 285, some 286, some 287, some 288, some 289, some 290, some 291, some 292, some 293] 0 10 _ (by decide) (by omega) rfl (of_decide_eq_true (by kernel_rfl)))
                  have D273 : F.eval (.tmp 273) = u 9 := (congrArg (fun a => Act.eval a (.tmp 273)) hF).trans (eval_in [some 264, some 265, some 266, some 267, some 268, some 269, some 270, some 271, some 272, some 273, some 274, some 275, some 276, some 277, some 278, some 279, some 280, some 281, some 282, some 283, some 284, some 285, some 286, some 287, some 288, some 289, some 290, some 291, some 292, some 293] 0 9 _ (by decide) (by omega) rfl (of_decide_eq_true (by kernel_rfl)))
                  have D275 : F.eval (.tmp 275) = u 11 := (congrArg (fun a => Act.eval a (.tmp 275)) hF).trans (eval_in [some 264, some 265, some 266, some 267, some 268, some 269, some 270, some 271, some 272, some 273, some 274, some 275, some 276, some 277, some 278, some 279, some 280, some 281, some 282, some 283, some 284, some 285, some 286, some 287, some 288, some 289, some 290, some 291, some 292, some 293] 0 11 _ (by decide) (by omega) rfl (of_decide_eq_true (by kernel_rfl)))
                  have D272 : F.eval (.tmp 272) = u 8 := (congrArg (fun a => Act.eval a (.tmp 272)) hF).trans (eval_in [some 264, some 265, some 266, some 267, some 268, some 269, some 270, some 271, some 272, some 273, some 274, some 275, some 276, some 277, some 278, some 279, some 280, some 281, some 282, some 283, some 284, some 285, some 286, some 287, some 288, some 289, some 290, some 291, some 292, some 293] 0 8 _ (by decide) (by omega) rfl (of_decide_eq_true (by kernel_rfl)))
                  have D276 : F.eval (.tmp 276) = u 12 := (congrArg (fun a => Act.eval a (.tmp 276)) hF).trans (eval_in [some 264, some 265, some 266, some 267, some 268, some 269, some 270, some 271, some 272, some 273, some 274, some 275, some 276, some 277, some 278, some 279, some 280, some 281, some 282, some 283, some 284, some 285, some 286, some 287, some 288, some 289, some 290, some 291, some 292, some 293] 0 12 _ (by decide) (by omega) rfl (of_decide_eq_true (by kernel_rfl)))
                  have D267 : F.eval (.tmp 267) = u 3 := (congrArg (fun a => Act.eval a (.tmp 267)) hF).trans (eval_in [some 264, some 265, some 266, some 267, some 268, some 269, some 270, some 271, some 272, some 273, some 274, some 275, some 276, some 277, some 278, some 279, some 280, some 281, some 282, some 283, some 284, some 285, some 286, some 287, some 288, some 289, some 290, some 291, some 292, some 293] 0 3 _ (by decide) (by omega) rfl (of_decide_eq_true (by kernel_rfl)))
                  have D277 : F.eval (.tmp 277) = u 13 := (congrArg (fun a => Act.eval a (.tmp 277)) hF).trans (eval_in [some 264, some 265, some 266, some 267, some 268, some 269, some 270, some 271, some 272, some 273, some 274, some 275, some 276, some 277, some 278, some 279, some 280, some 281, some 282, some 283, some 284, some 285, some 286, some 287, some 288, some 289, some 290, some 291, some 292, some 293] 0 13 _ (by decide) (by omega) rfl (of_decide_eq_true (by kernel_rfl)))
                  have D278 : F.eval (.tmp 278) = u 14 := (congrArg (fun a => Act.eval a (.tmp 278)) hF).trans (eval_in [some 264, some 265, some 266, some 267, some 268, some 269, some 270, some 271, some 272, some 273, some 274, some 275, some 276, some 277, some 278, some 279, some 280, some 281, some 282, some 283, some 284, some 285, some 286, some 287, some 288, some 289, some 290, some 291, some 292, some 293] 0 14 _ (by decide) (by omega) rfl (of_decide_eq_true (by kernel_rfl)))
                  have D279 : F.eval (.tmp 279) = u 15 := (congrArg (fun a => Act.eval a (.tmp 279)) hF).trans (eval_in [some 264, some 265, some 266, some 267, some 268, some 269, some 270, some 271, some 272, some 273, some 274, some 275, some 276, some 277, some 278, some 279, some 280, some 281, some 282, some 283, some 284, some 285, some 286, some 287, some 288, some 289, some 290, some 291, some 292, some 293] 0 15 _ (by decide) (by omega) rfl (of_decide_eq_true (by kernel_rfl)))
                  have D280 : F.eval (.tmp 280) = u 16 := (congrArg (fun a => Act.eval a (.tmp 280)) hF).trans (eval_in [some 264, some 265, some 266, some 267, some 268, some 269, some 270, some 271, some 272, some 273, some 274, some 275, some 276, some 277, some 278, some 279, some 280, some 281, some 282, some 283, some 284, some 285, some 286, some 287, some 288, some 289, some 290, some 291, some 292, some 293] 0 16 _ (by decide) (by omega) rfl (of_decide_eq_true (by kernel_rfl)))
                  have D282 : F.eval (.tmp 282) = u 18 := (congrArg (fun a => Act.eval a (.tmp 282)) hF).trans (eval_in [some 264, some 265, some 266, some 267, some 268, some 269, some 270, some 271, some 272, some 273, some 274, some 275, some 276, some 277, some 278, some 279, some 280, some 281, some 282, some 283, some 284, some 285, some 286, some 287, some 288, some 289, some 290, some 291, some 292, some 293] 0 18 _ (by decide) (by omega) rfl (of_decide_eq_true (by kernel_rfl)))
                  have D283 : F.eval (.tmp 283) = u 19 := (congrArg (fun a => Act.eval a (.tmp 283)) hF).trans (eval_in [some 264, some 265, some 266, some 267, some 268, some 269, some 270, some 271, some 272, some 273, some 274, some 275, some 276, some 277, some 278, some 279, some 280, some 281, some 282, some 283, some 284, some 285, some 286, some 287, some 288, some 289, some 290, some 291, some 292, some 293] 0 19 _ (by decide) (by omega) rfl (of_decide_eq_true (by kernel_rfl)))
                  have D284 : F.eval (.tmp 284) = u 20 := (congrArg (fun a => Act.eval a (.tmp 284)) hF).trans (eval_in [some 264, some 265, some 266, some 267, some 268, some 269, some 270, some 271, some 272, some 273, some 274, some 275, some 276, some 277, some 278, some 279, some 280, some 281, some 282, some 283, some 284, some 285, some 286, some 287, some 288, some 289, some 290, some 291, some 292, some 293] 0 20 _ (by decide) (by omega) rfl (of_decide_eq_true (by kernel_rfl)))
                  have D285 : F.eval (.tmp 285) = u 21 := (congrArg (fun a => Act.eval a (.tmp 285)) hF).trans (eval_in [some 264, some 265, some 266, some 267, some 268, some 269, some 270, some 271, some 272, some 273, some 274, some 275, some 276, some 277, some 278, some 279, some 280, some 281, some 282, some 283, some 284, some 285, some 286, some 287, some 288, some 289, some 290, some 291, some 292, some 293] 0 21 _ (by decide) (by omega) rfl (of_decide_eq_true (by kernel_rfl)))
                  have D287 : F.eval (.tmp 287) = u 23 := (congrArg (fun a => Act.eval a (.tmp 287)) hF).trans (eval_in [some 264, some 265, some 266, some 267, some 268, some 269, some 270, some 271, some 272, some 273, some 274, some 275, some 276, some 277, some 278, some 279, some 280, some 281, some 282, some 283, some 284, some 285, some 286, some 287, some 288, some 289, some 290, some 291, some 292, some 293] 0 23 _ (by decide) (by omega) rfl (of_decide_eq_true (by kernel_rfl)))
                  have D288 : F.eval (.tmp 288) = u 24 := (congrArg (fun a => Act.eval a (.tmp 288)) hF).trans (eval_in [some 264, some 265, some 266, some 267, some 268, some 269, some 270, some 271, some 272, some 273, some 274, some 275, some 276, some 277, some 278, some 279, some 280, some 281, some 282, some 283, some 284, some 285, some 286, some 287, some 288, some 289, some 290, some 291, some 292, some 293] 0 24 _ (by decide) (by omega) rfl (of_decide_eq_true (by kernel_rfl)))
                  have D286 : F.eval (.tmp 286) = u 22 := (congrArg (fun a => Act.eval a (.tmp 286)) hF).trans (eval_in [some 264, some 265, some 266, some 267, some 268, some 269, some 270, some 271, some 272, some 273, some 274, some 275, some 276, some 277, some 278, some 279, some 280, some 281, some 282, some 283, some 284, some 285, some 286, some 287, some 288, some 289, some 290, some 291, some 292, some 293] 0 22 _ (by decide) (by omega) rfl (of_decide_eq_true (by kernel_rfl)))
                  have D289 : F.eval (.tmp 289) = u 25 := (congrArg (fun a => Act.eval a (.tmp 289)) hF).trans (eval_in [some 264, some 265, some 266, some 267, some 268, some 269, some 270, some 271, some 272, some 273, some 274, some 275, some 276, some 277, some 278, some 279, some 280, some 281, some 282, some 283, some 284, some 285, some 286, some 287, some 288, some 289, some 290, some 291, some 292, some 293] 0 25 _ (by decide) (by omega) rfl (of_decide_eq_true (by kernel_rfl)))
                  have D281 : F.eval (.tmp 281) = u 17 := (congrArg (fun a => Act.eval a (.tmp 281)) hF).trans (eval_in [some 264, some 265, some 266, some 267, some 268, some 269, some 270, some 271, some 272, some 273, some 274, some 275, some 276, some 277, some 278, some 279, some 280, some 281, some 282, some 283, some 284, some 285, some 286, some 287, some 288, some 289, some 290, some 291, some 292, some 293] 0 17 _ (by decide) (by omega) rfl (of_decide_eq_true (by kernel_rfl)))
                  have D290 : F.eval (.tmp 290) = u 26 := (congrArg (fun a => Act.eval a (.tmp 290)) hF).trans (eval_in [some 264, some 265, some 266, some 267, some 268, some 269, some 270, some 271, some 272, some 273, some 274, some 275, some 276, some 277, some 278, some 279, some 280, some 281, some 282, some 283, some 284, some 285, some 286, some 287, some 288, some 289, some 290, some 291, some 292, some 293] 0 26 _ (by decide) (by omega) rfl (of_decide_eq_true (by kernel_rfl)))
                  have D291 : F.eval (.tmp 291) = u 27 := (congrArg (fun a => Act.eval a (.tmp 291)) hF).trans (eval_in [some 264, some 265, some 266, some 267, some 268, some 269, some 270, some 271, some 272, some 273, some 274, some 275, some 276, some 277, some 278, some 279, some 280, some 281, some 282, some 283, some 284, some 285, some 286, some 287, some 288, some 289, some 290, some 291, some 292, some 293] 0 27 _ (by decide) (by omega) rfl (of_decide_eq_true (by kernel_rfl)))
                  have D292 : F.eval (.tmp 292) = u 28 := (congrArg (fun a => Act.eval a (.tmp 292)) hF).trans (eval_in [some 264, some 265, some 266, some 267, some 268, some 269, some 270, some 271, some 272, some 273, some 274, some 275, some 276, some 277, some 278, some 279, some 280, some 281, some 282, some 283, some 284, some 285, some 286, some 287, some 288, some 289, some 290, some 291, some 292, some 293] 0 28 _ (by decide) (by omega) rfl (of_decide_eq_true (by kernel_rfl)))
                  clear hF
                  refine ⟨?_, ?_, ?_, ?_, ?_, ?_, ?_, ?_, ?_, ?_, ?_, ?_, ?_, ?_, ?_, ?_, ?_, ?_, ?_, ?_, ?_, ?_, ?_, ?_, ?_, ?_, ?_, ?_, ?_, ?_, trivial⟩
                  · intro w1 hb hd K hK
                    have e33 := E33
                    exact op_val (v := (.int .i64 (i : Int))) rfl (by simp only [execOp, List.map_toArray, List.map_cons, List.map_nil, e33]; go_simp) (hK _ _ (show _ = _ from rfl) (Below.refl _ _) (Fresh.no _ _ _))
                  · intro w1 hb hd K hK
                    have e264 := D264.trans (show u 0 = (.int .i64 (i : Int)) from hd ⟨0, .data⟩ (by simp) rfl (by omega))
                    exact op_val (v := (.bool true)) rfl (by simp only [execOp, List.map_toArray, List.map_cons, List.map_nil, e264]; go_simp) (hK _ _ (show _ = _ from rfl) (Below.refl _ _) (Fresh.no _ _ _))
                  · intro w1 hb hd K hK
                    have e265 := D265.trans (show u 1 = (.bool true) from hd ⟨1, .data⟩ (by simp) rfl (by omega))
                    exact op_val (v := (.bool true)) rfl (by simp only [execOp, List.map_toArray, List.map_cons, List.map_nil, e265]; go_simp) (hK _ _ (show _ = _ from rfl) (Below.refl _ _) (Fresh.no _ _ _))
                  · intro w1 hb hd K hK
                    have g := D266.trans (show u 2 = .bool true from hd ⟨2, .guard⟩ (by simp) rfl (by omega))
                    exact op_val_w (v := (.agg #[.int .i64 0, .int .u64 0, .int .u64 0, .int .u64 0, .int .u64 0])) (wanted_of (j := 2) (s := 266) (b := true) (by kernel_rfl) (by kernel_rfl) g) (by simp only [execOp, List.map_toArray, List.map_cons, List.map_nil]; go_simp) (hK _ _ (show _ = _ from rfl) (Below.refl _ _) (Fresh.no _ _ _))
                  · intro w1 hb hd K hK
                    have e31 := E31
                    have g := D266.trans (show u 2 = .bool true from hd ⟨2, .guard⟩ (by simp) rfl (by omega))
                    exact op_val_w (v := (.string XT)) (wanted_of (j := 2) (s := 266) (b := true) (by kernel_rfl) (by kernel_rfl) g) (by simp only [execOp, List.map_toArray, List.map_cons, List.map_nil, e31]; go_simp) (hK _ _ (show _ = _ from rfl) (Below.refl _ _) (Fresh.no _ _ _))
                  · intro w1 hb hd K hK
                    have e33 := E33
                    have g := D266.trans (show u 2 = .bool true from hd ⟨2, .guard⟩ (by simp) rfl (by omega))
                    exact op_val_w (v := (.int .i64 (i : Int))) (wanted_of (j := 2) (s := 266) (b := true) (by kernel_rfl) (by kernel_rfl) g) (by simp only [execOp, List.map_toArray, List.map_cons, List.map_nil, e33]; go_simp) (hK _ _ (show _ = _ from rfl) (Below.refl _ _) (Fresh.no _ _ _))
                  · intro w1 hb hd K hK
                    have e268 := D268.trans (show u 4 = (.string XT) from hd ⟨4, .data⟩ (by simp) rfl (by omega))
                    have e269 := D269.trans (show u 5 = (.int .i64 (i : Int)) from hd ⟨5, .data⟩ (by simp) rfl (by omega))
                    have g := D266.trans (show u 2 = .bool true from hd ⟨2, .guard⟩ (by simp) rfl (by omega))
                    exact op_val_w (v := (.string A)) (wanted_of (j := 2) (s := 266) (b := true) (by kernel_rfl) (by kernel_rfl) g) (by simp only [execOp, Option.map_none, Option.map_some, e268, e269]; simp only [Sem.run_bind, HSL1.out, Result.andThen_ok, Sem.run_pure]) (hK _ _ (show _ = _ from rfl) (Below.refl _ _) (Fresh.no _ _ _))
                  · intro w1 hb hd K hK
                    have e35 := E35
                    have g := D266.trans (show u 2 = .bool true from hd ⟨2, .guard⟩ (by simp) rfl (by omega))
                    exact op_val_w (v := (.string X)) (wanted_of (j := 2) (s := 266) (b := true) (by kernel_rfl) (by kernel_rfl) g) (by simp only [execOp, List.map_toArray, List.map_cons, List.map_nil, e35]; go_simp) (hK _ _ (show _ = _ from rfl) (Below.refl _ _) (Fresh.no _ _ _))
                  · intro w1 hb hd K hK
                    have e270 := D270.trans (show u 6 = (.string A) from hd ⟨6, .data⟩ (by simp) rfl (by omega))
                    have e271 := D271.trans (show u 7 = (.string X) from hd ⟨7, .data⟩ (by simp) rfl (by omega))
                    have g := D266.trans (show u 2 = .bool true from hd ⟨2, .guard⟩ (by simp) rfl (by omega))
                    exact op_val_w (v := (.string (A ++ X))) (wanted_of (j := 2) (s := 266) (b := true) (by kernel_rfl) (by kernel_rfl) g) (by simp only [execOp, List.map_toArray, List.map_cons, List.map_nil, e270, e271]; go_simp) (hK _ _ (show _ = _ from rfl) (Below.refl _ _) (Fresh.no _ _ _))
                  · intro w1 hb hd K hK
                    have e31 := E31
                    have g := D266.trans (show u 2 = .bool true from hd ⟨2, .guard⟩ (by simp) rfl (by omega))
                    exact op_val_w (v := (.string XT)) (wanted_of (j := 2) (s := 266) (b := true) (by kernel_rfl) (by kernel_rfl) g) (by simp only [execOp, List.map_toArray, List.map_cons, List.map_nil, e31]; go_simp) (hK _ _ (show _ = _ from rfl) (Below.refl _ _) (Fresh.no _ _ _))
                  · intro w1 hb hd K hK
                    have e33 := E33
                    have g := D266.trans (show u 2 = .bool true from hd ⟨2, .guard⟩ (by simp) rfl (by omega))
                    exact op_val_w (v := (.int .i64 (i : Int))) (wanted_of (j := 2) (s := 266) (b := true) (by kernel_rfl) (by kernel_rfl) g) (by simp only [execOp, List.map_toArray, List.map_cons, List.map_nil, e33]; go_simp) (hK _ _ (show _ = _ from rfl) (Below.refl _ _) (Fresh.no _ _ _))
                  · intro w1 hb hd K hK
                    have e274 := D274.trans (show u 10 = (.int .i64 (i : Int)) from hd ⟨10, .data⟩ (by simp) rfl (by omega))
                    have g := D266.trans (show u 2 = .bool true from hd ⟨2, .guard⟩ (by simp) rfl (by omega))
                    exact op_val_w (v := (.int .i64 ((i + 1 : Nat) : Int))) (wanted_of (j := 2) (s := 266) (b := true) (by kernel_rfl) (by kernel_rfl) g) (by simp only [execOp, List.map_toArray, List.map_cons, List.map_nil, e274]; go_simp) (hK _ _ (show _ = _ from rfl) (Below.refl _ _) (Fresh.no _ _ _))
                  · intro w1 hb hd K hK
                    have e273 := D273.trans (show u 9 = (.string XT) from hd ⟨9, .data⟩ (by simp) rfl (by omega))
                    have e275 := D275.trans (show u 11 = (.int .i64 ((i + 1 : Nat) : Int)) from hd ⟨11, .data⟩ (by simp) rfl (by omega))
                    have g := D266.trans (show u 2 = .bool true from hd ⟨2, .guard⟩ (by simp) rfl (by omega))
                    exact op_val_w (v := (.string B)) (wanted_of (j := 2) (s := 266) (b := true) (by kernel_rfl) (by kernel_rfl) g) (by simp only [execOp, Option.map_none, Option.map_some, e273, e275]; simp only [Sem.run_bind, HSL2.out, Result.andThen_ok, Sem.run_pure]) (hK _ _ (show _ = _ from rfl) (Below.refl _ _) (Fresh.no _ _ _))
                  · intro w1 hb hd K hK
                    have e272 := D272.trans (show u 8 = (.string (A ++ X)) from hd ⟨8, .data⟩ (by simp) rfl (by omega))
                    have e276 := D276.trans (show u 12 = (.string B) from hd ⟨12, .data⟩ (by simp) rfl (by omega))
                    have g := D266.trans (show u 2 = .bool true from hd ⟨2, .guard⟩ (by simp) rfl (by omega))
                    exact op_val_w (v := (.string (A ++ X ++ B))) (wanted_of (j := 2) (s := 266) (b := true) (by kernel_rfl) (by kernel_rfl) g) (by simp only [execOp, List.map_toArray, List.map_cons, List.map_nil, e272, e276]; go_simp) (hK _ _ (show _ = _ from rfl) (Below.refl _ _) (Fresh.no _ _ _))
                  · intro w1 hb hd K hK
                    have e267 := D267.trans (show u 3 = (.agg #[.int .i64 0, .int .u64 0, .int .u64 0, .int .u64 0, .int .u64 0]) from hd ⟨3, .data⟩ (by simp) rfl (by omega))
                    have e277 := D277.trans (show u 13 = (.string (A ++ X ++ B)) from hd ⟨13, .data⟩ (by simp) rfl (by omega))
                    have g := D266.trans (show u 2 = .bool true from hd ⟨2, .guard⟩ (by simp) rfl (by omega))
                    refine op_call_w (R := fun v w2 => v = (.bool true) ∧ Below w1.heap.size w1 w2) (f := 5) (args := #[.agg #[.int .i64 0, .int .u64 0, .int .u64 0, .int .u64 0, .int .u64 0], .int .i64 0, .string (A ++ X ++ B)]) (wanted_of (j := 2) (s := 266) (b := true) (by kernel_rfl) (by kernel_rfl) g) (by simp only [execOp]; go_simp; first | exact ⟨eval_get e267, eval_get e277⟩ | (simp only [Act.eval] at *; simp_all)) ((HR1.out w1 (HI1.out.step hb).env).mono fun e w2 hh => ⟨_, hh.1, rfl, hh.2⟩) (fun v w2 hh => hK _ _ hh.1 hh.2 (Fresh.no _ _ _))
                  · intro w1 hb hd K hK
                    have e278 := D278.trans (show u 14 = (.bool true) from hd ⟨14, .data⟩ (by simp) rfl (by omega))
                    have g := D266.trans (show u 2 = .bool true from hd ⟨2, .guard⟩ (by simp) rfl (by omega))
                    exact op_val_w (v := (.bool false)) (wanted_of (j := 2) (s := 266) (b := true) (by kernel_rfl) (by kernel_rfl) g) (by simp only [execOp, List.map_toArray, List.map_cons, List.map_nil, e278]; go_simp) (hK _ _ (show _ = _ from rfl) (Below.refl _ _) (Fresh.no _ _ _))
                  · intro w1 hb hd K hK
                    have e279 := D279.trans (show u 15 = (.bool false) from hd ⟨15, .data⟩ (by simp) rfl (by omega))
                    have g := D266.trans (show u 2 = .bool true from hd ⟨2, .guard⟩ (by simp) rfl (by omega))
                    exact op_val_w (v := (.bool false)) (wanted_of (j := 2) (s := 266) (b := true) (by kernel_rfl) (by kernel_rfl) g) (by simp only [execOp, List.map_toArray, List.map_cons, List.map_nil, e279]; go_simp) (hK _ _ (show _ = _ from rfl) (Below.refl _ _) (Fresh.no _ _ _))
                  · intro w1 hb hd K hK
                    have g := D280.trans (show u 16 = .bool false from hd ⟨16, .guard⟩ (by simp) rfl (by omega))
                    exact op_val_w (v := (.agg #[.int .i64 0, .int .u64 0, .int .u64 0, .int .u64 0, .int .u64 0])) (wanted_of (j := 16) (s := 280) (b := false) (by kernel_rfl) (by kernel_rfl) g) (by simp only [execOp, List.map_toArray, List.map_cons, List.map_nil]; go_simp) (hK _ _ (show _ = _ from rfl) (Below.refl _ _) (Fresh.no _ _ _))
                  · intro w1 hb hd K hK
                    have e31 := E31
                    have g := D280.trans (show u 16 = .bool false from hd ⟨16, .guard⟩ (by simp) rfl (by omega))
                    exact op_val_w (v := (.string XT)) (wanted_of (j := 16) (s := 280) (b := false) (by kernel_rfl) (by kernel_rfl) g) (by simp only [execOp, List.map_toArray, List.map_cons, List.map_nil, e31]; go_simp) (hK _ _ (show _ = _ from rfl) (Below.refl _ _) (Fresh.no _ _ _))
                  · intro w1 hb hd K hK
                    have e33 := E33
                    have g := D280.trans (show u 16 = .bool false from hd ⟨16, .guard⟩ (by simp) rfl (by omega))
                    exact op_val_w (v := (.int .i64 (i : Int))) (wanted_of (j := 16) (s := 280) (b := false) (by kernel_rfl) (by kernel_rfl) g) (by simp only [execOp, List.map_toArray, List.map_cons, List.map_nil, e33]; go_simp) (hK _ _ (show _ = _ from rfl) (Below.refl _ _) (Fresh.no _ _ _))
                  · intro w1 hb hd K hK
                    have e282 := D282.trans (show u 18 = (.string XT) from hd ⟨18, .data⟩ (by simp) rfl (by omega))
                    have e283 := D283.trans (show u 19 = (.int .i64 (i : Int)) from hd ⟨19, .data⟩ (by simp) rfl (by omega))
                    have g := D280.trans (show u 16 = .bool false from hd ⟨16, .guard⟩ (by simp) rfl (by omega))
                    exact op_val_w (v := (.string A)) (wanted_of (j := 16) (s := 280) (b := false) (by kernel_rfl) (by kernel_rfl) g) (by simp only [execOp, Option.map_none, Option.map_some, e282, e283]; simp only [Sem.run_bind, HSL1.out, Result.andThen_ok, Sem.run_pure]) (hK _ _ (show _ = _ from rfl) (Below.refl _ _) (Fresh.no _ _ _))
                  · intro w1 hb hd K hK
                    have e35 := E35
                    have g := D280.trans (show u 16 = .bool false from hd ⟨16, .guard⟩ (by simp) rfl (by omega))
                    exact op_val_w (v := (.string X)) (wanted_of (j := 16) (s := 280) (b := false) (by kernel_rfl) (by kernel_rfl) g) (by simp only [execOp, List.map_toArray, List.map_cons, List.map_nil, e35]; go_simp) (hK _ _ (show _ = _ from rfl) (Below.refl _ _) (Fresh.no _ _ _))
                  · intro w1 hb hd K hK
                    have e284 := D284.trans (show u 20 = (.string A) from hd ⟨20, .data⟩ (by simp) rfl (by omega))
                    have e285 := D285.trans (show u 21 = (.string X) from hd ⟨21, .data⟩ (by simp) rfl (by omega))
                    have g := D280.trans (show u 16 = .bool false from hd ⟨16, .guard⟩ (by simp) rfl (by omega))
                    exact op_val_w (v := (.string (A ++ X))) (wanted_of (j := 16) (s := 280) (b := false) (by kernel_rfl) (by kernel_rfl) g) (by simp only [execOp, List.map_toArray, List.map_cons, List.map_nil, e284, e285]; go_simp) (hK _ _ (show _ = _ from rfl) (Below.refl _ _) (Fresh.no _ _ _))
                  · intro w1 hb hd K hK
                    have e31 := E31
                    have g := D280.trans (show u 16 = .bool false from hd ⟨16, .guard⟩ (by simp) rfl (by omega))
                    exact op_val_w (v := (.string XT)) (wanted_of (j := 16) (s := 280) (b := false) (by kernel_rfl) (by kernel_rfl) g) (by simp only [execOp, List.map_toArray, List.map_cons, List.map_nil, e31]; go_simp) (hK _ _ (show _ = _ from rfl) (Below.refl _ _) (Fresh.no _ _ _))
                  · intro w1 hb hd K hK
                    have e33 := E33
                    have g := D280.trans (show u 16 = .bool false from hd ⟨16, .guard⟩ (by simp) rfl (by omega))
                    exact op_val_w (v := (.int .i64 (i : Int))) (wanted_of (j := 16) (s := 280) (b := false) (by kernel_rfl) (by kernel_rfl) g) (by simp only [execOp, List.map_toArray, List.map_cons, List.map_nil, e33]; go_simp) (hK _ _ (show _ = _ from rfl) (Below.refl _ _) (Fresh.no _ _ _))
                  · intro w1 hb hd K hK
                    have e287 := D287.trans (show u 23 = (.string XT) from hd ⟨23, .data⟩ (by simp) rfl (by omega))
                    have e288 := D288.trans (show u 24 = (.int .i64 (i : Int)) from hd ⟨24, .data⟩ (by simp) rfl (by omega))
                    have g := D280.trans (show u 16 = .bool false from hd ⟨16, .guard⟩ (by simp) rfl (by omega))
                    exact op_val_w (v := (.string C)) (wanted_of (j := 16) (s := 280) (b := false) (by kernel_rfl) (by kernel_rfl) g) (by simp only [execOp, Option.map_none, Option.map_some, e287, e288]; simp only [Sem.run_bind, HSL3.out, Result.andThen_ok, Sem.run_pure]) (hK _ _ (show _ = _ from rfl) (Below.refl _ _) (Fresh.no _ _ _))
                  · intro w1 hb hd K hK
                    have e286 := D286.trans (show u 22 = (.string (A ++ X)) from hd ⟨22, .data⟩ (by simp) rfl (by omega))
                    have e289 := D289.trans (show u 25 = (.string C) from hd ⟨25, .data⟩ (by simp) rfl (by omega))
                    have g := D280.trans (show u 16 = .bool false from hd ⟨16, .guard⟩ (by simp) rfl (by omega))
                    exact op_val_w (v := (.string (A ++ X ++ C))) (wanted_of (j := 16) (s := 280) (b := false) (by kernel_rfl) (by kernel_rfl) g) (by simp only [execOp, List.map_toArray, List.map_cons, List.map_nil, e286, e289]; go_simp) (hK _ _ (show _ = _ from rfl) (Below.refl _ _) (Fresh.no _ _ _))
                  · intro w1 hb hd K hK
                    have e281 := D281.trans (show u 17 = (.agg #[.int .i64 0, .int .u64 0, .int .u64 0, .int .u64 0, .int .u64 0]) from hd ⟨17, .data⟩ (by simp) rfl (by omega))
                    have e290 := D290.trans (show u 26 = (.string (A ++ X ++ C)) from hd ⟨26, .data⟩ (by simp) rfl (by omega))
                    have g := D280.trans (show u 16 = .bool false from hd ⟨16, .guard⟩ (by simp) rfl (by omega))
                    refine op_call_w (R := fun v w2 => v = (.bool true) ∧ Below w1.heap.size w1 w2) (f := 5) (args := #[.agg #[.int .i64 0, .int .u64 0, .int .u64 0, .int .u64 0, .int .u64 0], .int .i64 0, .string (A ++ X ++ C)]) (wanted_of (j := 16) (s := 280) (b := false) (by kernel_rfl) (by kernel_rfl) g) (by simp only [execOp]; go_simp; first | exact ⟨eval_get e281, eval_get e290⟩ | (simp only [Act.eval] at *; simp_all)) ((HR2.out w1 (HI1.out.step hb).env).mono fun e w2 hh => ⟨_, hh.1, rfl, hh.2⟩) (fun v w2 hh => hK _ _ hh.1 hh.2 (Fresh.no _ _ _))
                  · intro w1 hb hd K hK
                    have e291 := D291.trans (show u 27 = (.bool true) from hd ⟨27, .data⟩ (by simp) rfl (by omega))
                    have g := D280.trans (show u 16 = .bool false from hd ⟨16, .guard⟩ (by simp) rfl (by omega))
                    exact op_val_w (v := (.bool false)) (wanted_of (j := 16) (s := 280) (b := false) (by kernel_rfl) (by kernel_rfl) g) (by simp only [execOp, List.map_toArray, List.map_cons, List.map_nil, e291]; go_simp) (hK _ _ (show _ = _ from rfl) (Below.refl _ _) (Fresh.no _ _ _))
                  · intro w1 hb hd K hK
                    have e280 := D280.trans (show u 16 = (.bool false) from hd ⟨16, .data⟩ (by simp) rfl (by omega))
                    have e292 := D292.trans (show u 28 = (.bool false) from hd ⟨28, .data⟩ (by simp) rfl (by omega))
                    have g := D266.trans (show u 2 = .bool true from hd ⟨2, .guard⟩ (by simp) rfl (by omega))
                    exact op_val_w (v := (.bool false)) (wanted_of (j := 2) (s := 266) (b := true) (by kernel_rfl) (by kernel_rfl) g) (by simp only [execOp, List.map_toArray, List.map_cons, List.map_nil, e280, e292]; go_simp) (hK _ _ (show _ = _ from rfl) (Below.refl _ _) (Fresh.no _ _ _))
                have hv264 : u 0 = (.int .i64 (i : Int)) := (show u 0 = _ from hsF 0 (by omega) (by omega))
                have hv265 : u 1 = (.bool true) := (show u 1 = _ from hsF 1 (by omega) (by omega))
                have hv266 : u 2 = (.bool true) := (show u 2 = _ from hsF 2 (by omega) (by omega))
                have hv267 : u 3 = (.agg #[.int .i64 0, .int .u64 0, .int .u64 0, .int .u64 0, .int .u64 0]) := (show u 3 = _ from hsF 3 (by omega) (by omega))
                have hv268 : u 4 = (.string XT) := (show u 4 = _ from hsF 4 (by omega) (by omega))
                have hv269 : u 5 = (.int .i64 (i : Int)) := (show u 5 = _ from hsF 5 (by omega) (by omega))
                have hv270 : u 6 = (.string A) := (show u 6 = _ from hsF 6 (by omega) (by omega))
                have hv271 : u 7 = (.string X) := (show u 7 = _ from hsF 7 (by omega) (by omega))
                have hv272 : u 8 = (.string (A ++ X)) := (show u 8 = _ from hsF 8 (by omega) (by omega))
                have hv273 : u 9 = (.string XT) := (show u 9 = _ from hsF 9 (by omega) (by omega))
                have hv274 : u 10 = (.int .i64 (i : Int)) := (show u 10 = _ from hsF 10 (by omega) (by omega))
                have hv275 : u 11 = (.int .i64 ((i + 1 : Nat) : Int)) := (show u 11 = _ from hsF 11 (by omega) (by omega))
                have hv276 : u 12 = (.string B) := (show u 12 = _ from hsF 12 (by omega) (by omega))
                have hv277 : u 13 = (.string (A ++ X ++ B)) := (show u 13 = _ from hsF 13 (by omega) (by omega))
                have hv278 : u 14 = (.bool true) := (show u 14 = _ from hsF 14 (by omega) (by omega))
                have hv279 : u 15 = (.bool false) := (show u 15 = _ from hsF 15 (by omega) (by omega))
                have hv280 : u 16 = (.bool false) := (show u 16 = _ from hsF 16 (by omega) (by omega))
                have hv281 : u 17 = (.agg #[.int .i64 0, .int .u64 0, .int .u64 0, .int .u64 0, .int .u64 0]) := (show u 17 = _ from hsF 17 (by omega) (by omega))
                have hv282 : u 18 = (.string XT) := (show u 18 = _ from hsF 18 (by omega) (by omega))
                have hv283 : u 19 = (.int .i64 (i : Int)) := (show u 19 = _ from hsF 19 (by omega) (by omega))
                have hv284 : u 20 = (.string A) := (show u 20 = _ from hsF 20 (by omega) (by omega))
                have hv285 : u 21 = (.string X) := (show u 21 = _ from hsF 21 (by omega) (by omega))
                have hv286 : u 22 = (.string (A ++ X)) := (show u 22 = _ from hsF 22 (by omega) (by omega))
                have hv287 : u 23 = (.string XT) := (show u 23 = _ from hsF 23 (by omega) (by omega))
                have hv288 : u 24 = (.int .i64 (i : Int)) := (show u 24 = _ from hsF 24 (by omega) (by omega))
                have hv289 : u 25 = (.string C) := (show u 25 = _ from hsF 25 (by omega) (by omega))
                have hv290 : u 26 = (.string (A ++ X ++ C)) := (show u 26 = _ from hsF 26 (by omega) (by omega))
                have hv291 : u 27 = (.bool true) := (show u 27 = _ from hsF 27 (by omega) (by omega))
                have hv292 : u 28 = (.bool false) := (show u 28 = _ from hsF 28 (by omega) (by omega))
                have hv293 : u 29 = (.bool false) := (show u 29 = _ from hsF 29 (by omega) (by omega))
                simp only [putRow, hv264, hv265, hv266, hv267, hv268, hv269, hv270, hv271, hv272, hv273, hv274, hv275, hv276, hv277, hv278, hv279, hv280, hv281, hv282, hv283, hv284, hv285, hv286, hv287, hv288, hv289, hv290, hv291, hv292, hv293, Act.put, List.setIfInBounds_toArray, List.set_cons_succ, List.set_cons_zero]
                clear hsF hold hap hv264 hv265 hv266 hv267 hv268 hv269 hv270 hv271 hv272 hv273 hv274 hv275 hv276 hv277 hv278 hv279 hv280 hv281 hv282 hv283 hv284 hv285 hv286 hv287 hv288 hv289 hv290 hv291 hv292 hv293

                refine rest_forced 1 (by kernel_rfl) ?_
                simp only [List.drop_succ_cons, List.drop_zero, List.take_succ_cons, List.take_zero]
                go_wp2_with fail
                refine rest_done rfl ?_
                go_wp2_with fail
                go_meet
                exact ⟨rfl, Lib.hid (HK1.out.keep hbF HK1.out.lt), Lib.hid (HI1.out.step hbF)⟩
              case rest =>
                obtain ⟨rfl, HK, HI⟩ := hcut
                go_wp2_with fail
                go_roundw
                case rel => exact ⟨k + 1, by omega, rfl, by first | rfl | simp, HK, HI.out⟩
                case measure => simp [intOf]; try omega
            · have t1 : decide ((i : Int) < 20) = false := decide_eq_false (by omega)
              go_quiet (fail)
              have HI1 := HI.out.step (below_drewN (Below.refl _ _) nq)
              have HK1 : Hid (Blk (World.drewN _ nq) pb 9 SA) := HK
              clear HI HK
              generalize World.drewN _ nq = W5 at *
              go_wp2_with fail
              go_roundw
              case rel => exact ⟨k + 1, by omega, rfl, by first | rfl | simp, HK1, HI1⟩
              case measure => simp [intOf]; try omega
          · obtain rfl : k = 6 := by omega
            have u2 : decide ((6 : Int) < 6) = false := rfl
            rw [show ((6 : Nat) : Int) = 6 from rfl]
            go_wp2_with fail
            go_roundw
            case rel => exact ⟨i + 1, by omega, rfl, by first | rfl | simp, HI.out⟩
            case measure => simp [intOf]; try omega
      · obtain rfl : i = N := by omega
        have u1 : decide ((i : Int) < (i : Int)) = false := decide_eq_false (by omega)
        have u1b : decide (i < i) = false := decide_eq_false (by omega)
        go_wp2_with fail
        go_meet
        exact ⟨rfl, HI.out⟩
  case rest =>
  clear HI
  obtain ⟨rfl, hI⟩ := hcut
  have HI := Lib.hid hI
  clear hI
  go_upto_block 20 with fail
  have HSA : Hid (∀ k, k < 6 → ∃ X : ByteArray, (#[.string ⟨#[]⟩, .string ⟨#[32]⟩, .string ⟨#[49, 32, 78, 32, 110, 111, 110, 101]⟩, .string ⟨#[49, 32, 78, 32, 110, 111, 110, 101, 32]⟩, .string ⟨#[48, 49, 32, 78, 32, 110, 111, 110, 101, 32, 78, 58, 46, 46, 46, 32, 46, 46, 46, 32, 46, 46, 46, 32, 46, 46, 46]⟩, .string ⟨#[49, 32, 78, 32, 110, 111, 110, 101, 32, 78, 58, 46, 46, 46, 32, 46, 46, 46, 32, 46, 46, 46, 32, 46, 46, 46]⟩] : Array Value)[k]? = some (.string X) ∧ X.size ≤ 100) := Lib.hid (by
    intro k hk
    rcases (by omega : k = 0 ∨ k = 1 ∨ k = 2 ∨ k = 3 ∨ k = 4 ∨ k = 5) with rfl | rfl | rfl | rfl | rfl | rfl <;> exact ⟨_, rfl, by decide⟩)
  have HK0 := Lib.hid (fun W => Blk.new W 9 #[.string ⟨#[]⟩, .string ⟨#[32]⟩, .string ⟨#[49, 32, 78, 32, 110, 111, 110, 101]⟩, .string ⟨#[49, 32, 78, 32, 110, 111, 110, 101, 32]⟩, .string ⟨#[48, 49, 32, 78, 32, 110, 111, 110, 101, 32, 78, 58, 46, 46, 46, 32, 46, 46, 46, 32, 46, 46, 46, 32, 46, 46, 46]⟩, .string ⟨#[49, 32, 78, 32, 110, 111, 110, 101, 32, 78, 58, 46, 46, 46, 32, 46, 46, 46, 32, 46, 46, 46, 32, 46, 46, 46]⟩])
  have HIX := Lib.hid (fun W (h : Iv w W) => h.step (below1 W (.cells #[.string ⟨#[]⟩, .string ⟨#[32]⟩, .string ⟨#[49, 32, 78, 32, 110, 111, 110, 101]⟩, .string ⟨#[49, 32, 78, 32, 110, 111, 110, 101, 32]⟩, .string ⟨#[48, 49, 32, 78, 32, 110, 111, 110, 101, 32, 78, 58, 46, 46, 46, 32, 46, 46, 46, 32, 46, 46, 46, 32, 46, 46, 46]⟩, .string ⟨#[49, 32, 78, 32, 110, 111, 110, 101, 32, 78, 58, 46, 46, 46, 32, 46, 46, 46, 32, 46, 46, 46, 32, 46, 46, 46]⟩] 9)))
  have HK1 := Lib.hid (HK0.out wc)
  have HI2 := Lib.hid (HIX.out _ HI.out)
  clear HK0 HIX HI
  generalize wc.alloc (.cells #[.string ⟨#[]⟩, .string ⟨#[32]⟩, .string ⟨#[49, 32, 78, 32, 110, 111, 110, 101]⟩, .string ⟨#[49, 32, 78, 32, 110, 111, 110, 101, 32]⟩, .string ⟨#[48, 49, 32, 78, 32, 110, 111, 110, 101, 32, 78, 58, 46, 46, 46, 32, 46, 46, 46, 32, 46, 46, 46, 32, 46, 46, 46]⟩, .string ⟨#[49, 32, 78, 32, 110, 111, 110, 101, 32, 78, 58, 46, 46, 46, 32, 46, 46, 46, 32, 46, 46, 46, 32, 46, 46, 46]⟩] 9) = W3 at *
  generalize (#[.string ⟨#[]⟩, .string ⟨#[32]⟩, .string ⟨#[49, 32, 78, 32, 110, 111, 110, 101]⟩, .string ⟨#[49, 32, 78, 32, 110, 111, 110, 101, 32]⟩, .string ⟨#[48, 49, 32, 78, 32, 110, 111, 110, 101, 32, 78, 58, 46, 46, 46, 32, 46, 46, 46, 32, 46, 46, 46, 32, 46, 46, 46]⟩, .string ⟨#[49, 32, 78, 32, 110, 111, 110, 101, 32, 78, 58, 46, 46, 46, 32, 46, 46, 46, 32, 46, 46, 46, 32, 46, 46, 46]⟩] : Array Value) = SA at *
  generalize wc.heap.size = pb at *
  go_cut [0] (fun s0 wx => s0 = .bool false ∧ Iv w wx)
  case first =>
    go_wp2_with fail
    go_loopw [0, 299] (fun v0 v299 wq => ∃ k : Nat, k ≤ 6 ∧ v0 = .bool false ∧ v299 = .int .i64 (k : Int) ∧ Hid (Blk wq pb 9 SA) ∧ Iv w wq) (fun _ v299 _ => (6 - intOf v299).toNat)
    case atStart => exact ⟨0, by omega, rfl, rfl, HK1, HI2.out⟩
    case round =>
      clear HK1 HI2
      obtain ⟨k, hk, rfl, rfl, HK, hI⟩ := hrel
      have HI := Lib.hid hI
      clear hI
      by_cases hl2 : k < 6
      · have u2 : decide ((k : Int) < 6) = true := decide_eq_true (by omega)
        have u2b : decide (k < 6) = true := decide_eq_true hl2
        have e8 := inc64 k (by omega)
        obtain ⟨X, hX, hXs⟩ := HSA.out k hl2
        have x0 := HK.out.cell hX
        have hk6 : (k : Int) < 6 := by omega
        have HR := Lib.hid (fun W hW => recs_zero 1 1 (by omega) X (by omega) W hW)
        clear hX hXs
        go_wp2_with fail
        refine (HR.out _ HI.out.env).mono ?_
        rintro e w2 ⟨rfl, hb⟩
        have HK2 := Lib.hid (HK.out.keep hb HK.out.lt)
        have HI2 := Lib.hid (HI.out.step hb)
        clear hb HK HI x0
        go_wp2_with fail
        go_roundw
        case rel => exact ⟨k + 1, by omega, rfl, by first | rfl | simp, HK2, HI2.out⟩
        case measure => simp [intOf]; try omega
      · obtain rfl : k = 6 := by omega
        have u2 : decide ((6 : Int) < 6) = false := rfl
        rw [show ((6 : Nat) : Int) = 6 from rfl]
        go_wp2_with fail
        go_meet
        exact ⟨rfl, HI.out⟩
  case rest =>
  clear HK1 HI2
  obtain ⟨rfl, hI⟩ := hcut
  have HI := Lib.hid hI
  clear hI
  go_wp2_with fail
  refine (awake_any _ HI.out.env).mono ?_
  rintro e w2 ⟨rfl, hb⟩
  have HI2 := Lib.hid (HI.out.step hb)
  clear hb HI
  go_wp2_with fail
  go_ret
  exact ⟨rfl, HI2.out.below⟩
end Go.Proofs.YtaadipccgckehaaGreatDoor
