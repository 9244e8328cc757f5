/- The walk of HandTurned. -/
import Derived.Test.YtdebhdjcacojeaaDoorAwake
import Derived.Test.YtdebhdjcacojeaaDoorTurned
import Derived.Test.YtdebhdjcacojeaaDoorGreedy
import Derived.OpenShut
import Derived.Test.YtdebhdjcacojeaaDoorQt
import Derived.Deep.QuietTactic
import Derived.BigQuiet
import Derived.BigRegion
namespace Go.Proofs.YtdebhdjcacojeaaDoor
open Go.RowKit

theorem quiet_eq {P : Program} {f : FuncId} {args : Array Value} {w : World} {n : Nat} {v : Value}
    (h : Calls P f args (w.drewN n) fun e w' => e = .returned v ∧ w.drewN n = w') : Calls P f args (w.drewN n) fun e w'' => e = .returned v ∧ ∃ m, w'' = w.drewN m :=
  h.mono fun _ _ ⟨he, hm⟩ => ⟨he, n, hm.symm⟩
theorem bit_and : ∀ (x : Fin 16) (j : Fin 4), (bits BinOp.and IntKind.i64 ((x.val : Int) / (2 : Int) ^ j.val) 1 == 0) = (x.val / 2 ^ j.val % 2 == 0) := by decide
theorem bit_or : ∀ (x : Fin 16) (j : Fin 4), (x.val / 2 ^ j.val % 2 == 0) = true → bits BinOp.or IntKind.i64 (x.val : Int) ((2 : Int) ^ j.val) = ((x.val + 2 ^ j.val : Nat) : Int) := by decide
theorem gstep_first (f : Nat → Bool) (x j : Nat) (hj : j < 4) (h : f j = true) (hn : ∀ o, o < j → f o = false) : gstep f x = x + 2 ^ j := by
  unfold gstep
  rcases (by omega : j = 0 ∨ j = 1 ∨ j = 2 ∨ j = 3) with rfl | rfl | rfl | rfl
  · simp [h]
  · simp [h, hn 0 (by omega)]
  · simp [h, hn 0 (by omega), hn 1 (by omega)]
  · simp [h, hn 0 (by omega), hn 1 (by omega), hn 2 (by omega)]
theorem gstep_none (f : Nat → Bool) (x : Nat) (hn : ∀ o, o < 4 → f o = false) : gstep f x = x := by
  simp [gstep, hn 0 (by omega), hn 1 (by omega), hn 2 (by omega), hn 3 (by omega)]
theorem gstep_lt (F : Nat → Bool) : ∀ x : Nat, x < 16 → gstep (freeB F x) x < 16 := by
  intro x hx
  unfold gstep freeB
  split
  · rename_i h; simp at h; omega
  · split
    · rename_i h; simp at h; omega
    · split
      · rename_i h; simp at h; omega
      · split
        · rename_i h; simp at h; omega
        · exact hx
theorem gto_lt (E : Nat → Nat → Bool) : ∀ k, gto E k < 16
  | 0 => by rw [gto_0]; omega
  | k + 1 => by rw [gto_succ]; exact gstep_lt _ _ (gto_lt E k)

set_option maxRecDepth 100000 in
set_option maxHeartbeats 6000000 in
theorem turnlaw_walk (m way : Nat) (w : World) (ht : Tabs w) (hw : way < 256) :
    Calls Tryd.prog 4 #[.int .u64 m, .int .u8 way] w fun e w' => e = .returned (.bool true) ∧ Below w.heap.size w w' := by
  obtain ⟨M, hM⟩ : ∃ M, M = m % 4503599627370496 := ⟨_, rfl⟩
  have eM : (m : Int) % 4503599627370496 = (M : Int) := by omega
  have hM2 : M < 4503599627370496 := by omega
  have hM1 : M < 18446744073709551616 := by omega
  have HM := Lib.hid hM1
  have HM2 := Lib.hid hM2
  have hi : Inv w w := ⟨ht, Below.refl _ _⟩
  clear hM hM1 hM2
  go_enter Tryd.func4, Tryd.ntmps4
  go_wp2_with fail
  refine (turned_any M way _ HM hw).mono ?_
  rintro e w1 ⟨⟨a, b, c, d, hP, rfl⟩, hb1⟩
  have h1 : Inv w w1 := ⟨hi.tabs.keep hb1, hb1⟩
  have T1 := Pl.turn_tot (Pl.hon 1 2 3 4) M a b c d hP
  have T2 := Pl.turn_tot (Pl.hon 0 0 1 2) M a b c d hP
  have T3 := Pl.turn_tot Pl.los M a b c d hP
  have T4 := Pl.turn_tot Pl.qck M a b c d hP
  have T5 := turn_pat M a b c d hP
  have T6 := turn_bal M a b c d hP HM2.out
  have T7 := turn_right M a b c d hP HM2.out
  have TH := Lib.hid (Pl.turn_hold M a b c d hP)
  have TS := Lib.hid (turn_shp M a b c d hP)
  have HT := Lib.hid (Nat.lt_trans (Pl.turn_lt M a b c d 4 hP) (by decide : 4503599627370496 < 18446744073709551616))
  obtain ⟨t, htd⟩ : ∃ t, t = Pl.turnTo M a b c d 4 := ⟨_, rfl⟩
  rw [← htd] at T1 T2 T3 T4 T5 T6 T7 TH TS HT
  rw [← htd]
  clear htd hb1
  go_wp2_with fail
  go_at_call 16
  refine (points_i (w0 := w) M HM.out h1).mono ?_
  rintro e w2 ⟨rfl, h2⟩
  clear h1
  go_wp2_with fail
  go_at_call 16
  refine (points_i (w0 := w) t HT.out h2).mono ?_
  rintro e w3 ⟨rfl, h3⟩
  rw [T1]
  clear T1
  clear h2
  go_wp2_with fail
  go_at_call 17
  refine (controls_i (w0 := w) M HM.out h3).mono ?_
  rintro e w4 ⟨rfl, h4⟩
  clear h3
  go_wp2_with fail
  go_at_call 17
  refine (controls_i (w0 := w) t HT.out h4).mono ?_
  rintro e w5 ⟨rfl, h5⟩
  rw [T2]
  clear T2
  clear h4
  go_wp2_with fail
  go_at_call 18
  refine (losers_i (w0 := w) M HM.out h5).mono ?_
  rintro e w6 ⟨rfl, h6⟩
  clear h5
  go_wp2_with fail
  go_at_call 18
  refine (losers_i (w0 := w) t HT.out h6).mono ?_
  rintro e w7 ⟨rfl, h7⟩
  rw [T3]
  clear T3
  clear h6
  go_wp2_with fail
  go_at_call 19
  refine (quick_i (w0 := w) M HM.out h7).mono ?_
  rintro e w8 ⟨rfl, h8⟩
  clear h7
  go_wp2_with fail
  go_at_call 19
  refine (quick_i (w0 := w) t HT.out h8).mono ?_
  rintro e w9 ⟨rfl, h9⟩
  rw [T4]
  clear T4
  clear h8
  go_wp2_with fail
  go_at_call 20
  refine (pattern_i (w0 := w) M HM.out h9).mono ?_
  rintro e w10 ⟨rfl, h10⟩
  clear h9
  go_wp2_with fail
  go_at_call 20
  refine (pattern_i (w0 := w) t HT.out h10).mono ?_
  rintro e w11 ⟨rfl, h11⟩
  rw [T5]
  clear T5
  clear h10
  go_wp2_with fail
  go_at_call 21
  refine (balanced_i (w0 := w) M HM.out h11).mono ?_
  rintro e w12 ⟨rfl, h12⟩
  clear h11
  go_wp2_with fail
  go_at_call 21
  refine (balanced_i (w0 := w) t HT.out h12).mono ?_
  rintro e w13 ⟨rfl, h13⟩
  rw [T6]
  clear T6
  clear h12
  go_wp2_with fail
  go_at_call 22
  refine (inv_pure (w0 := w) (fun w => right_any M w HM) h13).mono ?_
  rintro e w14 ⟨rfl, h14⟩
  clear h13
  go_wp2_with fail
  go_at_call 22
  refine (inv_pure (w0 := w) (fun w => right_any t w HT) h14).mono ?_
  rintro e w15 ⟨rfl, h15⟩
  rw [T7]
  clear T7
  clear h14
  go_wp2_with fail
  go_at_call 23
  refine (shape_i (w0 := w) M HM.out h15).mono ?_
  rintro e w16 ⟨rfl, h16⟩
  clear h15
  go_wp2_with fail
  go_at_call 23
  refine (shape_i (w0 := w) t HT.out h16).mono ?_
  rintro e w17 ⟨rfl, h17⟩
  clear h16
  go_wp2_with fail
  have hB : Below w.heap.size w ((w17.alloc (.cells #[.int .i64 (shp M 0 : Nat), .int .i64 (shp M 1 : Nat), .int .i64 (shp M 2 : Nat), .int .i64 (shp M 3 : Nat)] 31)).alloc (.cells #[.int .i64 (shp t 0 : Nat), .int .i64 (shp t 1 : Nat), .int .i64 (shp t 2 : Nat), .int .i64 (shp t 3 : Nat)] 31)) := (h17.below.alloc h17.below.size _).alloc (by have := h17.below.size; simp; omega) _
  have hT : Tabs ((w17.alloc (.cells #[.int .i64 (shp M 0 : Nat), .int .i64 (shp M 1 : Nat), .int .i64 (shp M 2 : Nat), .int .i64 (shp M 3 : Nat)] 31)).alloc (.cells #[.int .i64 (shp t 0 : Nat), .int .i64 (shp t 1 : Nat), .int .i64 (shp t 2 : Nat), .int .i64 (shp t 3 : Nat)] 31)) := h17.tabs.keep (((Below.refl _ _).alloc (Nat.le_refl _) _).alloc (by simp) _)
  have gs : ∀ i, i < 4 → ((w17.alloc (.cells #[.int .i64 (shp M 0 : Nat), .int .i64 (shp M 1 : Nat), .int .i64 (shp M 2 : Nat), .int .i64 (shp M 3 : Nat)] 31)).alloc (.cells #[.int .i64 (shp t 0 : Nat), .int .i64 (shp t 1 : Nat), .int .i64 (shp t 2 : Nat), .int .i64 (shp t 3 : Nat)] 31)).cell? ⟨w17.heap.size, i, none⟩ = some (.int .i64 (shp M i : Nat)) := fun i hi => by
    rcases (by omega : i = 0 ∨ i = 1 ∨ i = 2 ∨ i = 3) with rfl | rfl | rfl | rfl <;> simp
  have gt : ∀ i, i < 4 → ((w17.alloc (.cells #[.int .i64 (shp M 0 : Nat), .int .i64 (shp M 1 : Nat), .int .i64 (shp M 2 : Nat), .int .i64 (shp M 3 : Nat)] 31)).alloc (.cells #[.int .i64 (shp t 0 : Nat), .int .i64 (shp t 1 : Nat), .int .i64 (shp t 2 : Nat), .int .i64 (shp t 3 : Nat)] 31)).cell? ⟨w17.heap.size + 1, i, none⟩ = some (.int .i64 (shp t i : Nat)) := fun i hi => by
    rcases (by omega : i = 0 ∨ i = 1 ∨ i = 2 ∨ i = 3) with rfl | rfl | rfl | rfl <;> simp
  generalize ((w17.alloc (.cells #[.int .i64 (shp M 0 : Nat), .int .i64 (shp M 1 : Nat), .int .i64 (shp M 2 : Nat), .int .i64 (shp M 3 : Nat)] 31)).alloc (.cells #[.int .i64 (shp t 0 : Nat), .int .i64 (shp t 1 : Nat), .int .i64 (shp t 2 : Nat), .int .i64 (shp t 3 : Nat)] 31)) = W at *
  clear h17 ht hi
  have GS := Lib.hid gs
  have GT := Lib.hid gt
  clear gs gt
  obtain ⟨E, hE⟩ : ∃ E : Nat → Nat → Bool, E = fun s o => Pl.hold M s == Pl.hold t o := ⟨_, rfl⟩
  have HE := Lib.hid hE
  clear hE
  go_loopw [8, 9] (fun v8 v9 wr => ∃ k n : Nat, k ≤ 4 ∧ v9 = .int .u8 k ∧ v8 = .int .i64 (gto E k) ∧ wr = W.drewN n) (fun _ v9 _ => 4 - (intOf v9).toNat)
  case atStart => exact ⟨0, 0, by omega, rfl, by rw [gto_0]; rfl, rfl⟩
  case round =>
    obtain ⟨k, n, hk, rfl, rfl, rfl⟩ := hrel
    by_cases hlt : k < 4
    · obtain ⟨x, hx⟩ : ∃ x, x = gto E k := ⟨_, rfl⟩
      have hx16 : x < 16 := by rw [hx]; exact gto_lt E k
      rw [← hx]
      have HX := Lib.hid hx
      clear hx
      have dk : decide ((k : Int) < 4) = true := decide_eq_true (by omega)
      go_wp2_with fail
      go_loopw [8, 10] (fun v8 v10 wr => ∃ j n : Nat, j ≤ 4 ∧ v10 = .int .u8 j ∧ v8 = .int .i64 (x : Nat) ∧ (∀ o, o < j → freeB (E k) x o = false) ∧ wr = W.drewN n) (fun _ v10 _ => 4 - (intOf v10).toNat)
      case atStart => exact ⟨0, n, by omega, rfl, rfl, fun _ h => absurd h (by omega), rfl⟩
      case round =>
        obtain ⟨j, n', hj, rfl, rfl, hno, hwr⟩ := hrel
        by_cases hjl : j < 4
        · have HNO := Lib.hid hno
          clear hno
          have a1 : wr.cell? ⟨w17.heap.size, k, none⟩ = some (.int .i64 (shp M k : Nat)) := by rw [hwr]; exact GS.out k hlt
          have a2 : wr.cell? ⟨w17.heap.size + 1, j, none⟩ = some (.int .i64 (shp t j : Nat)) := by rw [hwr]; exact GT.out j hjl
          have HW := Lib.hid hwr
          clear hwr
          have hb := bit_and ⟨x, hx16⟩ ⟨j, hjl⟩
          have ho := Lib.hid (bit_or ⟨x, hx16⟩ ⟨j, hjl⟩)
          simp only at hb
          have z1 : IntKind.u8.wrap (↑j + 1) = ((j + 1 : Nat) : Int) := by
            rcases (by omega : j = 0 ∨ j = 1 ∨ j = 2 ∨ j = 3) with rfl | rfl | rfl | rfl <;> decide
          have Z1 := Lib.hid z1
          clear z1
          cases hbit : (x / 2 ^ j % 2 == 0) with
          | false =>
            rw [hbit] at hb
            have HBit := Lib.hid hbit
            clear hbit
            go_wp2_with fail
            go_quiet (fail)
            go_wp2_with fail
            go_roundw
            case rel => exact ⟨j + 1, _, by omega, by go_num, rfl, fun o ho => by
              rcases Nat.lt_or_ge o j with h | h
              · exact HNO.out o h
              · obtain rfl : o = j := by omega
                simp [freeB, HBit.out], by rw [HW.out, World.drewN_drewN]⟩
            case measure => simp [intOf]; omega
          | true =>
            rw [hbit] at hb
            have HBit := Lib.hid hbit
            clear hbit
            cases hh : (Pl.hold M k == Pl.hold t j) with
            | false =>
              have h1 : (((Pl.hold M k : Nat) : Int) == ((Pl.hold t j : Nat) : Int)) = false := beq_eq_false_iff_ne.2 (by have := beq_eq_false_iff_ne.1 hh; omega)
              have HH := Lib.hid hh
              clear hh
              go_wp2_with fail
              go_quiet ((go_at_call 24; exact quiet_eq (holding_any _ _ _ (by first | exact HM.out | exact HT.out) (by first | exact hlt | exact hjl))))
              go_wp2_with fail
              go_roundw
              case rel => exact ⟨j + 1, _, by omega, by go_num, rfl, fun o ho => by
                rcases Nat.lt_or_ge o j with h | h
                · exact HNO.out o h
                · obtain rfl : o = j := by omega
                  simp only [freeB, HE.out, HH.out, Bool.and_false], by rw [HW.out, World.drewN_drewN]⟩
              case measure => simp [intOf]; omega
            | true =>
              have h1 : (((Pl.hold M k : Nat) : Int) == ((Pl.hold t j : Nat) : Int)) = true := beq_iff_eq.2 (by have := beq_iff_eq.1 hh; omega)
              have h2 : (((shp M k : Nat) : Int) == ((shp t j : Nat) : Int)) = true := beq_iff_eq.2 (by have := beq_iff_eq.1 hh; unfold shp; rw [this])
              have HH := Lib.hid hh
              clear hh
              go_wp2_with fail
              go_quiet ((go_at_call 24; exact quiet_eq (holding_any _ _ _ (by first | exact HM.out | exact HT.out) (by first | exact hlt | exact hjl))))
              have t4 := two4 j hjl
              go_wp2_with fail
              refine ⟨⟨k + 1, _, by omega, by go_num, ?_, by rw [HW.out, World.drewN_drewN]⟩, by simp [intOf]; omega⟩
              rw [ho.out HBit.out, gto_succ, ← HX.out, gstep_first _ x j hjl (by simp only [freeB, HE.out, HH.out, HBit.out, Bool.and_true]) HNO.out]
        · obtain rfl : j = 4 := by omega
          have HNO := Lib.hid hno
          clear hno
          have HW := Lib.hid hwr
          clear hwr
          go_wp2_with fail
          refine ⟨⟨k + 1, n', by omega, by go_num, ?_, HW.out⟩, by simp [intOf]; omega⟩
          rw [gto_succ, ← HX.out, gstep_none _ x HNO.out]
    · obtain rfl : k = 4 := by omega
      have hg : gto E 4 = 15 := by
        rw [HE.out]
        exact greedy (fun s => Pl.hold M s) (fun o => Pl.hold t o) a b c d hP TH.out.1 TH.out.2.1 TH.out.2.2.1 TH.out.2.2.2
      rw [hg]
      clear hg
      go_wp2_with fail
      refine (awake_i (w0 := w) ⟨hT.keep (below_drewN (Below.refl _ _) n), below_drewN hB n⟩).mono ?_
      rintro e w18 ⟨rfl, h18⟩
      go_wp2_with fail
      go_ret
      exact ⟨rfl, h18.below⟩
theorem u8_lt {b : Nat} (h : (Lit.int .u8 (b : Int)).wf = true) : b < 256 := by
  have := bounds_u8 h
  omega
end Go.Proofs.YtdebhdjcacojeaaDoor
