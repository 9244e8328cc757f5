/- The walk of HandLosers. -/
import Derived.Test.YtdebhdjcacojeaaDoorAwake
import Derived.Test.YtdebhdjcacojeaaDoorPlain
namespace Go.Proofs.YtdebhdjcacojeaaDoor
open Go.RowKit

set_option maxHeartbeats 1000000 in
theorem top_e (h c : Nat) (hh : h < 8192) : bits BinOp.and IntKind.u16 ((h : Int) / (c : Int)) 1 = ((h / c % 2 : Nat) : Int) := by
  have : (h : Int) / (c : Int) = ((h / c : Nat) : Int) := by omega
  have l : h / c ≤ h := Nat.div_le_self _ _
  rw [this, show (1 : Int) = ((1 : Nat) : Int) from rfl, u16_and_nat _ _ (by omega) (by omega), nat_mask1]
set_option maxRecDepth 100000 in
set_option maxHeartbeats 6000000 in
theorem losers_walk (m : Nat) (w : World) (ht : Tabs w) :
    Calls Tryd.prog 7 #[.int .u64 m] w fun e w' => e = .returned (.bool true) ∧ Below w.heap.size w w' := by
  obtain ⟨M, hM⟩ : ∃ M, M = m % 4503599627370496 := ⟨_, rfl⟩
  have eM : (m : Int) % 4503599627370496 = (M : Int) := by omega
  have hM1 : M < 18446744073709551616 := by omega
  have HM := Lib.hid hM1
  clear hM hM1
  have qi0 := idx0 (.int .i64 (shp M 0 : Nat)) (.int .i64 (shp M 1 : Nat)) (.int .i64 (shp M 2 : Nat)) (.int .i64 (shp M 3 : Nat))
  have qi1 := idx1 (.int .i64 (shp M 0 : Nat)) (.int .i64 (shp M 1 : Nat)) (.int .i64 (shp M 2 : Nat)) (.int .i64 (shp M 3 : Nat))
  have qi2 := idx2 (.int .i64 (shp M 0 : Nat)) (.int .i64 (shp M 1 : Nat)) (.int .i64 (shp M 2 : Nat)) (.int .i64 (shp M 3 : Nat))
  have qi3 := idx3 (.int .i64 (shp M 0 : Nat)) (.int .i64 (shp M 1 : Nat)) (.int .i64 (shp M 2 : Nat)) (.int .i64 (shp M 3 : Nat))
  have hi : Inv w w := ⟨ht, Below.refl _ _⟩
  go_enter Tryd.func7, Tryd.ntmps7
  go_wp2_with fail
  refine (shape_i M HM.out hi).mono ?_
  rintro e w1 ⟨rfl, h1⟩
  go_wp2_with fail
  go_loopw [3, 14] (fun v3 v14 wr => ∃ k : Nat, k ≤ 4 ∧ v14 = .int .i64 k ∧ v3 = .int .i64 (Pl.totTo Pl.los M k : Nat) ∧ Inv w wr) (fun _ v14 _ => 4 - (intOf v14).toNat)
  case atStart => exact ⟨0, by omega, rfl, by rw [Pl.totTo_0]; rfl, h1⟩
  case round =>
    obtain ⟨k, hk, rfl, rfl, h2⟩ := hrel
    clear hi h1
    rcases (by omega : k = 0 ∨ k = 1 ∨ k = 2 ∨ k = 3 ∨ k = 4) with rfl | rfl | rfl | rfl | rfl
    · have hb := Pl.totTo_le Pl.los 3 M 0 Pl.los_le
      have hh := Pl.hold_lt M 0
      have e1 : bits BinOp.and IntKind.u64 (M : Int) 8191 = ((Pl.one M 0 : Nat) : Int) := one_e M 0 HM.out (by omega)
      have t0 := Pl.tot_one Pl.los Pl.los_0 M 0 (by omega)
      have OL := Lib.hid (Nat.lt_trans (Pl.one_lt M 0 (by omega)) (by omega : 4503599627370496 < 18446744073709551616))
      have hn2 : shp M 0 = Pl.pc 16 (Pl.hold M 0) := by unfold shp; rfl
      have l1 := Pl.los_pc (Pl.hold M 0)
      have l2 := Pl.los_le (Pl.hold M 0)
      have l3 := Pl.los_top (Pl.hold M 0)
      have l4 := Pl.los_lone (Pl.hold M 0) (by omega)
      rw [← hn2] at l1 l3 l4
      have HS := Lib.hid (Pl.totTo_succ Pl.los M 0)
      have lm : ((Pl.los (Pl.hold M 0) : Nat) : Int) ≤ min ((shp M 0 : Nat) : Int) 3 := by omega
      have u12 : bits BinOp.and IntKind.u16 (((Pl.hold M 0 : Nat) : Int) / 4096) 1 = ((Pl.hold M 0 / 4096 % 2 : Nat) : Int) := top_e (Pl.hold M 0) 4096 (by omega)
      have u11 : bits BinOp.and IntKind.u16 (((Pl.hold M 0 : Nat) : Int) / 2048) 1 = ((Pl.hold M 0 / 2048 % 2 : Nat) : Int) := top_e (Pl.hold M 0) 2048 (by omega)
      have u10 : bits BinOp.and IntKind.u16 (((Pl.hold M 0 : Nat) : Int) / 1024) 1 = ((Pl.hold M 0 / 1024 % 2 : Nat) : Int) := top_e (Pl.hold M 0) 1024 (by omega)
      obtain ⟨b12, g12⟩ : ∃ b, b = Pl.hold M 0 / 4096 % 2 := ⟨_, rfl⟩
      obtain ⟨b11, g11⟩ : ∃ b, b = Pl.hold M 0 / 2048 % 2 := ⟨_, rfl⟩
      obtain ⟨b10, g10⟩ : ∃ b, b = Pl.hold M 0 / 1024 % 2 := ⟨_, rfl⟩
      rw [← g12] at u12 l3
      rw [← g11] at u11 l3
      rw [← g10] at u10 l3
      have v12 : b12 ≤ 1 := by omega
      have v11 : b11 ≤ 1 := by omega
      have v10 : b10 ≤ 1 := by omega
      clear hn2 g12 g11 g10
      have fin : ∀ w2, Inv w w2 → (∃ k' : Nat, k' ≤ 4 ∧ Value.int .i64 1 = Value.int .i64 (k' : Nat) ∧ Value.int .i64 (((Pl.totTo Pl.los M 0 : Nat) : Int) + ((Pl.los (Pl.hold M 0) : Nat) : Int)) = Value.int .i64 (Pl.totTo Pl.los M k' : Nat) ∧ Inv w w2) := fun w2 h => ⟨1, by omega, rfl, by rw [HS.out]; rfl, h⟩
      have FIN := Lib.hid fin
      clear fin qi1 qi2 qi3 ht
      rcases (by omega : 3 ≤ shp M 0 ∨ shp M 0 = 1 ∨ shp M 0 = 0 ∨ shp M 0 = 2) with hc | hc | hc | hc
      · have l5 := l3 hc
        have l6 : Pl.los (Pl.hold M 0) + b12 + b11 + b10 ≤ 3 := by omega
        have l7 : 3 ≤ Pl.los (Pl.hold M 0) + b12 + b11 + b10 := by omega
        clear l3 l4 l5
        go_wp2_with (first
          | (go_at_call 18; refine (losers_i (Pl.one M 0) OL.out h2).mono ?_; rintro e w2 ⟨rfl, h3⟩)
          | (go_at_call 24; refine (inv_pure (fun w => holding_any M 0 w HM.out (by omega)) h3).mono ?_; rintro e w2 ⟨rfl, h4⟩))
        go_roundw
        case rel => exact FIN.out _ (by assumption)
        case measure => simp [intOf]
      · have c1 : 1 ≤ shp M 0 := by omega
        have c2 : shp M 0 ≤ 1 := by omega
        have l5 := l4 hc
        have a0 : (((shp M 0 : Nat) : Int) == 1) = true := by simp; omega
        clear l3 l4 hc
        by_cases hl : Pl.los (Pl.hold M 0) = 1
        · have l6 := l5.1 hl
          have a1 : (((Pl.los (Pl.hold M 0) : Nat) : Int) == 1) = true := by simp [hl]
          have a2 : (((Pl.hold M 0 : Nat) : Int) / 4096 == 0) = true := by simp; omega
          clear l5 l6 hl
          go_wp2_with (first
          | (go_at_call 18; refine (losers_i (Pl.one M 0) OL.out h2).mono ?_; rintro e w2 ⟨rfl, h3⟩)
          | (go_at_call 24; refine (inv_pure (fun w => holding_any M 0 w HM.out (by omega)) h3).mono ?_; rintro e w2 ⟨rfl, h4⟩))
          go_roundw
          case rel => exact FIN.out _ (by assumption)
          case measure => simp [intOf]

        · have l6 : Pl.hold M 0 / 4096 ≠ 0 := fun e => hl (l5.2 e)
          have a1 : (((Pl.los (Pl.hold M 0) : Nat) : Int) == 1) = false := by simp; omega
          have a2 : (((Pl.hold M 0 : Nat) : Int) / 4096 == 0) = false := by simp; omega
          clear l5 l6 hl
          go_wp2_with (first
          | (go_at_call 18; refine (losers_i (Pl.one M 0) OL.out h2).mono ?_; rintro e w2 ⟨rfl, h3⟩)
          | (go_at_call 24; refine (inv_pure (fun w => holding_any M 0 w HM.out (by omega)) h3).mono ?_; rintro e w2 ⟨rfl, h4⟩))
          go_roundw
          case rel => exact FIN.out _ (by assumption)
          case measure => simp [intOf]

      · have c1 : 0 ≤ shp M 0 := by omega
        have c2 : shp M 0 ≤ 0 := by omega
        clear l3 l4 hc
        go_wp2_with (first
          | (go_at_call 18; refine (losers_i (Pl.one M 0) OL.out h2).mono ?_; rintro e w2 ⟨rfl, h3⟩)
          | (go_at_call 24; refine (inv_pure (fun w => holding_any M 0 w HM.out (by omega)) h3).mono ?_; rintro e w2 ⟨rfl, h4⟩))
        go_roundw
        case rel => exact FIN.out _ (by assumption)
        case measure => simp [intOf]
      · have c1 : 2 ≤ shp M 0 := by omega
        have c2 : shp M 0 ≤ 2 := by omega
        clear l3 l4 hc
        go_wp2_with (first
          | (go_at_call 18; refine (losers_i (Pl.one M 0) OL.out h2).mono ?_; rintro e w2 ⟨rfl, h3⟩)
          | (go_at_call 24; refine (inv_pure (fun w => holding_any M 0 w HM.out (by omega)) h3).mono ?_; rintro e w2 ⟨rfl, h4⟩))
        go_roundw
        case rel => exact FIN.out _ (by assumption)
        case measure => simp [intOf]
    · have hb := Pl.totTo_le Pl.los 3 M 1 Pl.los_le
      have hh := Pl.hold_lt M 1
      have e1 : bits BinOp.and IntKind.u64 (M : Int) 67100672 = ((Pl.one M 1 : Nat) : Int) := one_e M 1 HM.out (by omega)
      have t0 := Pl.tot_one Pl.los Pl.los_0 M 1 (by omega)
      have OL := Lib.hid (Nat.lt_trans (Pl.one_lt M 1 (by omega)) (by omega : 4503599627370496 < 18446744073709551616))
      have hn2 : shp M 1 = Pl.pc 16 (Pl.hold M 1) := by unfold shp; rfl
      have l1 := Pl.los_pc (Pl.hold M 1)
      have l2 := Pl.los_le (Pl.hold M 1)
      have l3 := Pl.los_top (Pl.hold M 1)
      have l4 := Pl.los_lone (Pl.hold M 1) (by omega)
      rw [← hn2] at l1 l3 l4
      have HS := Lib.hid (Pl.totTo_succ Pl.los M 1)
      have lm : ((Pl.los (Pl.hold M 1) : Nat) : Int) ≤ min ((shp M 1 : Nat) : Int) 3 := by omega
      have u12 : bits BinOp.and IntKind.u16 (((Pl.hold M 1 : Nat) : Int) / 4096) 1 = ((Pl.hold M 1 / 4096 % 2 : Nat) : Int) := top_e (Pl.hold M 1) 4096 (by omega)
      have u11 : bits BinOp.and IntKind.u16 (((Pl.hold M 1 : Nat) : Int) / 2048) 1 = ((Pl.hold M 1 / 2048 % 2 : Nat) : Int) := top_e (Pl.hold M 1) 2048 (by omega)
      have u10 : bits BinOp.and IntKind.u16 (((Pl.hold M 1 : Nat) : Int) / 1024) 1 = ((Pl.hold M 1 / 1024 % 2 : Nat) : Int) := top_e (Pl.hold M 1) 1024 (by omega)
      obtain ⟨b12, g12⟩ : ∃ b, b = Pl.hold M 1 / 4096 % 2 := ⟨_, rfl⟩
      obtain ⟨b11, g11⟩ : ∃ b, b = Pl.hold M 1 / 2048 % 2 := ⟨_, rfl⟩
      obtain ⟨b10, g10⟩ : ∃ b, b = Pl.hold M 1 / 1024 % 2 := ⟨_, rfl⟩
      rw [← g12] at u12 l3
      rw [← g11] at u11 l3
      rw [← g10] at u10 l3
      have v12 : b12 ≤ 1 := by omega
      have v11 : b11 ≤ 1 := by omega
      have v10 : b10 ≤ 1 := by omega
      clear hn2 g12 g11 g10
      have fin : ∀ w2, Inv w w2 → (∃ k' : Nat, k' ≤ 4 ∧ Value.int .i64 2 = Value.int .i64 (k' : Nat) ∧ Value.int .i64 (((Pl.totTo Pl.los M 1 : Nat) : Int) + ((Pl.los (Pl.hold M 1) : Nat) : Int)) = Value.int .i64 (Pl.totTo Pl.los M k' : Nat) ∧ Inv w w2) := fun w2 h => ⟨2, by omega, rfl, by rw [HS.out]; rfl, h⟩
      have FIN := Lib.hid fin
      clear fin qi0 qi2 qi3 ht
      rcases (by omega : 3 ≤ shp M 1 ∨ shp M 1 = 1 ∨ shp M 1 = 0 ∨ shp M 1 = 2) with hc | hc | hc | hc
      · have l5 := l3 hc
        have l6 : Pl.los (Pl.hold M 1) + b12 + b11 + b10 ≤ 3 := by omega
        have l7 : 3 ≤ Pl.los (Pl.hold M 1) + b12 + b11 + b10 := by omega
        clear l3 l4 l5
        go_wp2_with (first
          | (go_at_call 18; refine (losers_i (Pl.one M 1) OL.out h2).mono ?_; rintro e w2 ⟨rfl, h3⟩)
          | (go_at_call 24; refine (inv_pure (fun w => holding_any M 1 w HM.out (by omega)) h3).mono ?_; rintro e w2 ⟨rfl, h4⟩))
        go_roundw
        case rel => exact FIN.out _ (by assumption)
        case measure => simp [intOf]
      · have c1 : 1 ≤ shp M 1 := by omega
        have c2 : shp M 1 ≤ 1 := by omega
        have l5 := l4 hc
        have a0 : (((shp M 1 : Nat) : Int) == 1) = true := by simp; omega
        clear l3 l4 hc
        by_cases hl : Pl.los (Pl.hold M 1) = 1
        · have l6 := l5.1 hl
          have a1 : (((Pl.los (Pl.hold M 1) : Nat) : Int) == 1) = true := by simp [hl]
          have a2 : (((Pl.hold M 1 : Nat) : Int) / 4096 == 0) = true := by simp; omega
          clear l5 l6 hl
          go_wp2_with (first
          | (go_at_call 18; refine (losers_i (Pl.one M 1) OL.out h2).mono ?_; rintro e w2 ⟨rfl, h3⟩)
          | (go_at_call 24; refine (inv_pure (fun w => holding_any M 1 w HM.out (by omega)) h3).mono ?_; rintro e w2 ⟨rfl, h4⟩))
          go_roundw
          case rel => exact FIN.out _ (by assumption)
          case measure => simp [intOf]

        · have l6 : Pl.hold M 1 / 4096 ≠ 0 := fun e => hl (l5.2 e)
          have a1 : (((Pl.los (Pl.hold M 1) : Nat) : Int) == 1) = false := by simp; omega
          have a2 : (((Pl.hold M 1 : Nat) : Int) / 4096 == 0) = false := by simp; omega
          clear l5 l6 hl
          go_wp2_with (first
          | (go_at_call 18; refine (losers_i (Pl.one M 1) OL.out h2).mono ?_; rintro e w2 ⟨rfl, h3⟩)
          | (go_at_call 24; refine (inv_pure (fun w => holding_any M 1 w HM.out (by omega)) h3).mono ?_; rintro e w2 ⟨rfl, h4⟩))
          go_roundw
          case rel => exact FIN.out _ (by assumption)
          case measure => simp [intOf]

      · have c1 : 0 ≤ shp M 1 := by omega
        have c2 : shp M 1 ≤ 0 := by omega
        clear l3 l4 hc
        go_wp2_with (first
          | (go_at_call 18; refine (losers_i (Pl.one M 1) OL.out h2).mono ?_; rintro e w2 ⟨rfl, h3⟩)
          | (go_at_call 24; refine (inv_pure (fun w => holding_any M 1 w HM.out (by omega)) h3).mono ?_; rintro e w2 ⟨rfl, h4⟩))
        go_roundw
        case rel => exact FIN.out _ (by assumption)
        case measure => simp [intOf]
      · have c1 : 2 ≤ shp M 1 := by omega
        have c2 : shp M 1 ≤ 2 := by omega
        clear l3 l4 hc
        go_wp2_with (first
          | (go_at_call 18; refine (losers_i (Pl.one M 1) OL.out h2).mono ?_; rintro e w2 ⟨rfl, h3⟩)
          | (go_at_call 24; refine (inv_pure (fun w => holding_any M 1 w HM.out (by omega)) h3).mono ?_; rintro e w2 ⟨rfl, h4⟩))
        go_roundw
        case rel => exact FIN.out _ (by assumption)
        case measure => simp [intOf]
    · have hb := Pl.totTo_le Pl.los 3 M 2 Pl.los_le
      have hh := Pl.hold_lt M 2
      have e1 : bits BinOp.and IntKind.u64 (M : Int) 549688705024 = ((Pl.one M 2 : Nat) : Int) := one_e M 2 HM.out (by omega)
      have t0 := Pl.tot_one Pl.los Pl.los_0 M 2 (by omega)
      have OL := Lib.hid (Nat.lt_trans (Pl.one_lt M 2 (by omega)) (by omega : 4503599627370496 < 18446744073709551616))
      have hn2 : shp M 2 = Pl.pc 16 (Pl.hold M 2) := by unfold shp; rfl
      have l1 := Pl.los_pc (Pl.hold M 2)
      have l2 := Pl.los_le (Pl.hold M 2)
      have l3 := Pl.los_top (Pl.hold M 2)
      have l4 := Pl.los_lone (Pl.hold M 2) (by omega)
      rw [← hn2] at l1 l3 l4
      have HS := Lib.hid (Pl.totTo_succ Pl.los M 2)
      have lm : ((Pl.los (Pl.hold M 2) : Nat) : Int) ≤ min ((shp M 2 : Nat) : Int) 3 := by omega
      have u12 : bits BinOp.and IntKind.u16 (((Pl.hold M 2 : Nat) : Int) / 4096) 1 = ((Pl.hold M 2 / 4096 % 2 : Nat) : Int) := top_e (Pl.hold M 2) 4096 (by omega)
      have u11 : bits BinOp.and IntKind.u16 (((Pl.hold M 2 : Nat) : Int) / 2048) 1 = ((Pl.hold M 2 / 2048 % 2 : Nat) : Int) := top_e (Pl.hold M 2) 2048 (by omega)
      have u10 : bits BinOp.and IntKind.u16 (((Pl.hold M 2 : Nat) : Int) / 1024) 1 = ((Pl.hold M 2 / 1024 % 2 : Nat) : Int) := top_e (Pl.hold M 2) 1024 (by omega)
      obtain ⟨b12, g12⟩ : ∃ b, b = Pl.hold M 2 / 4096 % 2 := ⟨_, rfl⟩
      obtain ⟨b11, g11⟩ : ∃ b, b = Pl.hold M 2 / 2048 % 2 := ⟨_, rfl⟩
      obtain ⟨b10, g10⟩ : ∃ b, b = Pl.hold M 2 / 1024 % 2 := ⟨_, rfl⟩
      rw [← g12] at u12 l3
      rw [← g11] at u11 l3
      rw [← g10] at u10 l3
      have v12 : b12 ≤ 1 := by omega
      have v11 : b11 ≤ 1 := by omega
      have v10 : b10 ≤ 1 := by omega
      clear hn2 g12 g11 g10
      have fin : ∀ w2, Inv w w2 → (∃ k' : Nat, k' ≤ 4 ∧ Value.int .i64 3 = Value.int .i64 (k' : Nat) ∧ Value.int .i64 (((Pl.totTo Pl.los M 2 : Nat) : Int) + ((Pl.los (Pl.hold M 2) : Nat) : Int)) = Value.int .i64 (Pl.totTo Pl.los M k' : Nat) ∧ Inv w w2) := fun w2 h => ⟨3, by omega, rfl, by rw [HS.out]; rfl, h⟩
      have FIN := Lib.hid fin
      clear fin qi0 qi1 qi3 ht
      rcases (by omega : 3 ≤ shp M 2 ∨ shp M 2 = 1 ∨ shp M 2 = 0 ∨ shp M 2 = 2) with hc | hc | hc | hc
      · have l5 := l3 hc
        have l6 : Pl.los (Pl.hold M 2) + b12 + b11 + b10 ≤ 3 := by omega
        have l7 : 3 ≤ Pl.los (Pl.hold M 2) + b12 + b11 + b10 := by omega
        clear l3 l4 l5
        go_wp2_with (first
          | (go_at_call 18; refine (losers_i (Pl.one M 2) OL.out h2).mono ?_; rintro e w2 ⟨rfl, h3⟩)
          | (go_at_call 24; refine (inv_pure (fun w => holding_any M 2 w HM.out (by omega)) h3).mono ?_; rintro e w2 ⟨rfl, h4⟩))
        go_roundw
        case rel => exact FIN.out _ (by assumption)
        case measure => simp [intOf]
      · have c1 : 1 ≤ shp M 2 := by omega
        have c2 : shp M 2 ≤ 1 := by omega
        have l5 := l4 hc
        have a0 : (((shp M 2 : Nat) : Int) == 1) = true := by simp; omega
        clear l3 l4 hc
        by_cases hl : Pl.los (Pl.hold M 2) = 1
        · have l6 := l5.1 hl
          have a1 : (((Pl.los (Pl.hold M 2) : Nat) : Int) == 1) = true := by simp [hl]
          have a2 : (((Pl.hold M 2 : Nat) : Int) / 4096 == 0) = true := by simp; omega
          clear l5 l6 hl
          go_wp2_with (first
          | (go_at_call 18; refine (losers_i (Pl.one M 2) OL.out h2).mono ?_; rintro e w2 ⟨rfl, h3⟩)
          | (go_at_call 24; refine (inv_pure (fun w => holding_any M 2 w HM.out (by omega)) h3).mono ?_; rintro e w2 ⟨rfl, h4⟩))
          go_roundw
          case rel => exact FIN.out _ (by assumption)
          case measure => simp [intOf]

        · have l6 : Pl.hold M 2 / 4096 ≠ 0 := fun e => hl (l5.2 e)
          have a1 : (((Pl.los (Pl.hold M 2) : Nat) : Int) == 1) = false := by simp; omega
          have a2 : (((Pl.hold M 2 : Nat) : Int) / 4096 == 0) = false := by simp; omega
          clear l5 l6 hl
          go_wp2_with (first
          | (go_at_call 18; refine (losers_i (Pl.one M 2) OL.out h2).mono ?_; rintro e w2 ⟨rfl, h3⟩)
          | (go_at_call 24; refine (inv_pure (fun w => holding_any M 2 w HM.out (by omega)) h3).mono ?_; rintro e w2 ⟨rfl, h4⟩))
          go_roundw
          case rel => exact FIN.out _ (by assumption)
          case measure => simp [intOf]

      · have c1 : 0 ≤ shp M 2 := by omega
        have c2 : shp M 2 ≤ 0 := by omega
        clear l3 l4 hc
        go_wp2_with (first
          | (go_at_call 18; refine (losers_i (Pl.one M 2) OL.out h2).mono ?_; rintro e w2 ⟨rfl, h3⟩)
          | (go_at_call 24; refine (inv_pure (fun w => holding_any M 2 w HM.out (by omega)) h3).mono ?_; rintro e w2 ⟨rfl, h4⟩))
        go_roundw
        case rel => exact FIN.out _ (by assumption)
        case measure => simp [intOf]
      · have c1 : 2 ≤ shp M 2 := by omega
        have c2 : shp M 2 ≤ 2 := by omega
        clear l3 l4 hc
        go_wp2_with (first
          | (go_at_call 18; refine (losers_i (Pl.one M 2) OL.out h2).mono ?_; rintro e w2 ⟨rfl, h3⟩)
          | (go_at_call 24; refine (inv_pure (fun w => holding_any M 2 w HM.out (by omega)) h3).mono ?_; rintro e w2 ⟨rfl, h4⟩))
        go_roundw
        case rel => exact FIN.out _ (by assumption)
        case measure => simp [intOf]
    · have hb := Pl.totTo_le Pl.los 3 M 3 Pl.los_le
      have hh := Pl.hold_lt M 3
      have e1 : bits BinOp.and IntKind.u64 (M : Int) 4503049871556608 = ((Pl.one M 3 : Nat) : Int) := one_e M 3 HM.out (by omega)
      have t0 := Pl.tot_one Pl.los Pl.los_0 M 3 (by omega)
      have OL := Lib.hid (Nat.lt_trans (Pl.one_lt M 3 (by omega)) (by omega : 4503599627370496 < 18446744073709551616))
      have hn2 : shp M 3 = Pl.pc 16 (Pl.hold M 3) := by unfold shp; rfl
      have l1 := Pl.los_pc (Pl.hold M 3)
      have l2 := Pl.los_le (Pl.hold M 3)
      have l3 := Pl.los_top (Pl.hold M 3)
      have l4 := Pl.los_lone (Pl.hold M 3) (by omega)
      rw [← hn2] at l1 l3 l4
      have HS := Lib.hid (Pl.totTo_succ Pl.los M 3)
      have lm : ((Pl.los (Pl.hold M 3) : Nat) : Int) ≤ min ((shp M 3 : Nat) : Int) 3 := by omega
      have u12 : bits BinOp.and IntKind.u16 (((Pl.hold M 3 : Nat) : Int) / 4096) 1 = ((Pl.hold M 3 / 4096 % 2 : Nat) : Int) := top_e (Pl.hold M 3) 4096 (by omega)
      have u11 : bits BinOp.and IntKind.u16 (((Pl.hold M 3 : Nat) : Int) / 2048) 1 = ((Pl.hold M 3 / 2048 % 2 : Nat) : Int) := top_e (Pl.hold M 3) 2048 (by omega)
      have u10 : bits BinOp.and IntKind.u16 (((Pl.hold M 3 : Nat) : Int) / 1024) 1 = ((Pl.hold M 3 / 1024 % 2 : Nat) : Int) := top_e (Pl.hold M 3) 1024 (by omega)
      obtain ⟨b12, g12⟩ : ∃ b, b = Pl.hold M 3 / 4096 % 2 := ⟨_, rfl⟩
      obtain ⟨b11, g11⟩ : ∃ b, b = Pl.hold M 3 / 2048 % 2 := ⟨_, rfl⟩
      obtain ⟨b10, g10⟩ : ∃ b, b = Pl.hold M 3 / 1024 % 2 := ⟨_, rfl⟩
      rw [← g12] at u12 l3
      rw [← g11] at u11 l3
      rw [← g10] at u10 l3
      have v12 : b12 ≤ 1 := by omega
      have v11 : b11 ≤ 1 := by omega
      have v10 : b10 ≤ 1 := by omega
      clear hn2 g12 g11 g10
      have fin : ∀ w2, Inv w w2 → (∃ k' : Nat, k' ≤ 4 ∧ Value.int .i64 4 = Value.int .i64 (k' : Nat) ∧ Value.int .i64 (((Pl.totTo Pl.los M 3 : Nat) : Int) + ((Pl.los (Pl.hold M 3) : Nat) : Int)) = Value.int .i64 (Pl.totTo Pl.los M k' : Nat) ∧ Inv w w2) := fun w2 h => ⟨4, by omega, rfl, by rw [HS.out]; rfl, h⟩
      have FIN := Lib.hid fin
      clear fin qi0 qi1 qi2 ht
      rcases (by omega : 3 ≤ shp M 3 ∨ shp M 3 = 1 ∨ shp M 3 = 0 ∨ shp M 3 = 2) with hc | hc | hc | hc
      · have l5 := l3 hc
        have l6 : Pl.los (Pl.hold M 3) + b12 + b11 + b10 ≤ 3 := by omega
        have l7 : 3 ≤ Pl.los (Pl.hold M 3) + b12 + b11 + b10 := by omega
        clear l3 l4 l5
        go_wp2_with (first
          | (go_at_call 18; refine (losers_i (Pl.one M 3) OL.out h2).mono ?_; rintro e w2 ⟨rfl, h3⟩)
          | (go_at_call 24; refine (inv_pure (fun w => holding_any M 3 w HM.out (by omega)) h3).mono ?_; rintro e w2 ⟨rfl, h4⟩))
        go_roundw
        case rel => exact FIN.out _ (by assumption)
        case measure => simp [intOf]
      · have c1 : 1 ≤ shp M 3 := by omega
        have c2 : shp M 3 ≤ 1 := by omega
        have l5 := l4 hc
        have a0 : (((shp M 3 : Nat) : Int) == 1) = true := by simp; omega
        clear l3 l4 hc
        by_cases hl : Pl.los (Pl.hold M 3) = 1
        · have l6 := l5.1 hl
          have a1 : (((Pl.los (Pl.hold M 3) : Nat) : Int) == 1) = true := by simp [hl]
          have a2 : (((Pl.hold M 3 : Nat) : Int) / 4096 == 0) = true := by simp; omega
          clear l5 l6 hl
          go_wp2_with (first
          | (go_at_call 18; refine (losers_i (Pl.one M 3) OL.out h2).mono ?_; rintro e w2 ⟨rfl, h3⟩)
          | (go_at_call 24; refine (inv_pure (fun w => holding_any M 3 w HM.out (by omega)) h3).mono ?_; rintro e w2 ⟨rfl, h4⟩))
          go_roundw
          case rel => exact FIN.out _ (by assumption)
          case measure => simp [intOf]

        · have l6 : Pl.hold M 3 / 4096 ≠ 0 := fun e => hl (l5.2 e)
          have a1 : (((Pl.los (Pl.hold M 3) : Nat) : Int) == 1) = false := by simp; omega
          have a2 : (((Pl.hold M 3 : Nat) : Int) / 4096 == 0) = false := by simp; omega
          clear l5 l6 hl
          go_wp2_with (first
          | (go_at_call 18; refine (losers_i (Pl.one M 3) OL.out h2).mono ?_; rintro e w2 ⟨rfl, h3⟩)
          | (go_at_call 24; refine (inv_pure (fun w => holding_any M 3 w HM.out (by omega)) h3).mono ?_; rintro e w2 ⟨rfl, h4⟩))
          go_roundw
          case rel => exact FIN.out _ (by assumption)
          case measure => simp [intOf]

      · have c1 : 0 ≤ shp M 3 := by omega
        have c2 : shp M 3 ≤ 0 := by omega
        clear l3 l4 hc
        go_wp2_with (first
          | (go_at_call 18; refine (losers_i (Pl.one M 3) OL.out h2).mono ?_; rintro e w2 ⟨rfl, h3⟩)
          | (go_at_call 24; refine (inv_pure (fun w => holding_any M 3 w HM.out (by omega)) h3).mono ?_; rintro e w2 ⟨rfl, h4⟩))
        go_roundw
        case rel => exact FIN.out _ (by assumption)
        case measure => simp [intOf]
      · have c1 : 2 ≤ shp M 3 := by omega
        have c2 : shp M 3 ≤ 2 := by omega
        clear l3 l4 hc
        go_wp2_with (first
          | (go_at_call 18; refine (losers_i (Pl.one M 3) OL.out h2).mono ?_; rintro e w2 ⟨rfl, h3⟩)
          | (go_at_call 24; refine (inv_pure (fun w => holding_any M 3 w HM.out (by omega)) h3).mono ?_; rintro e w2 ⟨rfl, h4⟩))
        go_roundw
        case rel => exact FIN.out _ (by assumption)
        case measure => simp [intOf]
    · have hs := Pl.totTo_le Pl.los 3 M 4 Pl.los_le
      rw [Pl.totTo_4] at hs
      have e4 := Pl.totTo_4 Pl.los M
      go_wp2_with (first
        | (go_at_call 18; refine (losers_i M HM.out h2).mono ?_; rintro e w2 ⟨rfl, h3⟩)
        | (go_at_call 14; refine (awake_i h3).mono ?_; rintro e w2 ⟨rfl, h4⟩))
      go_ret
      exact ⟨rfl, h4.below⟩
end Go.Proofs.YtdebhdjcacojeaaDoor
