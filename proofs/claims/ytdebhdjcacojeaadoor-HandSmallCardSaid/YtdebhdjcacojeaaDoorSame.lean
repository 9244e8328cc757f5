/- same returns true, whatever the mask. -/
import Derived.Test.YtdebhdjcacojeaaDoorRefK
import Derived.Test.YtdebhdjcacojeaaDoorAwake
import Derived.OpenShut
namespace Go.Proofs.YtdebhdjcacojeaaDoor
open Go.RowKit

set_option maxHeartbeats 1000000 in
theorem rholding_out (m s : Nat) (w : World) (hs : 4 ≤ s) (hs2 : s < 256) :
    Calls Tryd.prog 32 #[.int .u64 (m : Nat), .int .u8 (s : Nat)] w fun e w' => e = .returned (.int .u16 0) ∧ w = w' := by
  have f0 : decide ((3 : Int) < (s : Int)) = true := decide_eq_true (by omega)
  have f1 : decide (3 < s) = true := decide_eq_true (by omega)
  go_enter Tryd.func32, Tryd.ntmps32
  go_wp2_with fail
  go_ret
  exact ⟨rfl, rfl⟩
/-- The call of a function that leaves the world's invariant. -/
def SC (f : FuncId) (m : Nat) (v : Value) : Prop := ∀ w0 w : World, Inv w0 w → Calls Tryd.prog f #[.int .u64 (m : Nat)] w fun e w' => e = .returned v ∧ Inv w0 w'
set_option maxRecDepth 100000 in
set_option maxHeartbeats 4000000 in
theorem same_i (m : Nat) (hm : m < 18446744073709551616) {w0 w : World} (hi : Inv w0 w) :
    Calls Tryd.prog 10 #[.int .u64 (m : Nat)] w fun e w' => e = .returned (.bool true) ∧ Inv w0 w' := by
  obtain ⟨⟨a, b, c, d⟩, hq⟩ : ∃ q, q = sortTo (shp m) 4 := ⟨_, rfl⟩
  have A0 : Hid (SC 22 m (.bool (rightB m))) := Lib.hid fun w0 w hi => inv_pure (fun w => right_any m w (Lib.hid hm)) hi
  have B0 : Hid (SC 27 m (.bool (rightB m))) := Lib.hid fun w0 w hi => inv_pure (fun w => rright_any m w hm) hi
  have A1 : Hid (SC 16 m (.int .i64 (Pl.tot (Pl.hon 1 2 3 4) m : Nat))) := Lib.hid fun w0 w hi => points_i m hm hi
  have B1 : Hid (SC 28 m (.int .i64 (Pl.tot (Pl.hon 1 2 3 4) m : Nat))) := Lib.hid fun w0 w hi => inv_pure (fun w => rpoints_any m w hm) hi
  have A2 : Hid (SC 17 m (.int .i64 (Pl.tot (Pl.hon 0 0 1 2) m : Nat))) := Lib.hid fun w0 w hi => controls_i m hm hi
  have B2 : Hid (SC 29 m (.int .i64 (Pl.tot (Pl.hon 0 0 1 2) m : Nat))) := Lib.hid fun w0 w hi => inv_pure (fun w => rcontrols_any m w hm) hi
  have A3 : Hid (SC 18 m (.int .i64 (Pl.tot Pl.los m : Nat))) := Lib.hid fun w0 w hi => losers_i m hm hi
  have B3 : Hid (SC 30 m (.int .i64 (Pl.tot Pl.los m : Nat))) := Lib.hid fun w0 w hi => inv_pure (fun w => rlosers_any m w hm) hi
  have A4 : Hid (SC 19 m (.int .i64 (Pl.tot Pl.qck m : Nat))) := Lib.hid fun w0 w hi => quick_i m hm hi
  have B4 : Hid (SC 31 m (.int .i64 (Pl.tot Pl.qck m : Nat))) := Lib.hid fun w0 w hi => inv_pure (fun w => rquick_any m w hm) hi
  have A5 : Hid (SC 23 m (.agg #[.int .i64 (shp m 0 : Nat), .int .i64 (shp m 1 : Nat), .int .i64 (shp m 2 : Nat), .int .i64 (shp m 3 : Nat)])) := Lib.hid fun w0 w hi => shape_i m hm hi
  have B5 : Hid (SC 33 m (.agg #[.int .i64 (shp m 0 : Nat), .int .i64 (shp m 1 : Nat), .int .i64 (shp m 2 : Nat), .int .i64 (shp m 3 : Nat)])) := Lib.hid fun w0 w hi => inv_of (fun w _ => rshape_any m w hm) hi
  have A6 : Hid (SC 20 m (.string ⟨(patL (shp m) (sortTo (shp m) 4)).toArray⟩)) := Lib.hid fun w0 w hi => pattern_i m hm hi
  have B6 : Hid (SC 34 m (.string ⟨(patL (shp m) (sortTo (shp m) 4)).toArray⟩)) := Lib.hid fun w0 w hi => inv_of (fun w _ => rpattern_any m w hm) hi
  have A7 : Hid (SC 21 m (.bool (balB m))) := Lib.hid fun w0 w hi => balanced_i m hm hi
  have B7 : Hid (SC 35 m (.bool (balB m))) := Lib.hid fun w0 w hi => inv_of (fun w _ => rbalanced_any m w hm) hi
  have A8 : Hid (SC 26 m (.agg #[.int .u8 (a : Nat), .int .u8 (b : Nat), .int .u8 (c : Nat), .int .u8 (d : Nat)])) := Lib.hid fun w0 w hi => suits_i m a b c d hq.symm hm hi
  have B8 : Hid (SC 36 m (.agg #[.int .u8 (a : Nat), .int .u8 (b : Nat), .int .u8 (c : Nat), .int .u8 (d : Nat)])) := Lib.hid fun w0 w hi => inv_of (fun w _ => rsuits_any m a b c d w hm hq.symm) hi
  have HA : Hid (∀ s : Nat, s < 4 → ∀ w, Calls Tryd.prog 24 #[.int .u64 (m : Nat), .int .u8 (s : Nat)] w fun e w' => e = .returned (.int .u16 (Pl.hold m s : Nat)) ∧ w = w') := Lib.hid fun s hs w => holding_any m s w hm hs
  have HB : Hid (∀ s : Nat, s < 4 → ∀ w, Calls Tryd.prog 32 #[.int .u64 (m : Nat), .int .u8 (s : Nat)] w fun e w' => e = .returned (.int .u16 (Pl.hold m s : Nat)) ∧ w = w') := Lib.hid fun s hs w => rholding_any m s w hm hs
  clear hq
  generalize rightB m = g0 at *
  generalize Pl.tot (Pl.hon 1 2 3 4) m = g1 at *
  generalize Pl.tot (Pl.hon 0 0 1 2) m = g2 at *
  generalize Pl.tot Pl.los m = g3 at *
  generalize Pl.tot Pl.qck m = g4 at *
  generalize patL (shp m) (sortTo (shp m) 4) = g6 at *
  generalize shp m 0 = s0 at *
  generalize shp m 1 = s1 at *
  generalize shp m 2 = s2 at *
  generalize shp m 3 = s3 at *
  generalize balB m = g7 at *
  have c0 : (g0 != g0) = false := bne_self_eq_false g0
  have c1 : ((g1 : Int) != (g1 : Int)) = false := bne_self_eq_false _
  have c2 : ((g2 : Int) != (g2 : Int)) = false := bne_self_eq_false _
  have c3 : ((g3 : Int) != (g3 : Int)) = false := bne_self_eq_false _
  have c4 : ((g4 : Int) != (g4 : Int)) = false := bne_self_eq_false _
  have c7 : (g7 == g7) = true := beq_self_eq_true _
  have qi := eq4
  have qb := eq4b
  have HI := Lib.hid hi
  clear hi
  go_enter Tryd.func10, Tryd.ntmps10
  go_wp2_with fail
  refine (A0.out _ _ HI.out).mono ?_
  rintro e w1 ⟨rfl, hi⟩
  clear HI
  have HI := Lib.hid hi
  clear hi
  go_wp2_with fail
  refine (B0.out _ _ HI.out).mono ?_
  rintro e w1 ⟨rfl, hi⟩
  clear HI
  have HI := Lib.hid hi
  clear hi
  go_wp2_with fail
  refine (A1.out _ _ HI.out).mono ?_
  rintro e w1 ⟨rfl, hi⟩
  clear HI
  have HI := Lib.hid hi
  clear hi
  go_wp2_with fail
  refine (B1.out _ _ HI.out).mono ?_
  rintro e w1 ⟨rfl, hi⟩
  clear HI
  have HI := Lib.hid hi
  clear hi
  go_wp2_with fail
  refine (A2.out _ _ HI.out).mono ?_
  rintro e w1 ⟨rfl, hi⟩
  clear HI
  have HI := Lib.hid hi
  clear hi
  go_wp2_with fail
  refine (B2.out _ _ HI.out).mono ?_
  rintro e w1 ⟨rfl, hi⟩
  clear HI
  have HI := Lib.hid hi
  clear hi
  go_wp2_with fail
  refine (A3.out _ _ HI.out).mono ?_
  rintro e w1 ⟨rfl, hi⟩
  clear HI
  have HI := Lib.hid hi
  clear hi
  go_wp2_with fail
  refine (B3.out _ _ HI.out).mono ?_
  rintro e w1 ⟨rfl, hi⟩
  clear HI
  have HI := Lib.hid hi
  clear hi
  go_wp2_with fail
  refine (A4.out _ _ HI.out).mono ?_
  rintro e w1 ⟨rfl, hi⟩
  clear HI
  have HI := Lib.hid hi
  clear hi
  go_wp2_with fail
  refine (B4.out _ _ HI.out).mono ?_
  rintro e w1 ⟨rfl, hi⟩
  clear HI
  have HI := Lib.hid hi
  clear hi
  go_wp2_with fail
  go_loop [3] (fun v3 => ∃ s : Nat, s ≤ 5 ∧ v3 = .int .u8 s) (fun v3 => 5 - (intOf v3).toNat)
  case atStart => exact ⟨0, by omega, rfl⟩
  case round =>
    obtain ⟨s, hs, rfl⟩ := hrel
    by_cases h5 : s < 5
    · have t0 : decide ((s : Int) < 5) = true := decide_eq_true (by omega)
      by_cases h4 : s < 4
      · have CA := Lib.hid (HA.out s h4)
        have CB := Lib.hid (HB.out s h4)
        generalize Pl.hold m s = q at *
        have cq : ((q : Int) != (q : Int)) = false := bne_self_eq_false _
        go_wp2_with fail
        refine (CA.out _).mono ?_
        rintro e w2 ⟨rfl, rfl⟩
        go_wp2_with fail
        refine (CB.out _).mono ?_
        rintro e w2 ⟨rfl, rfl⟩
        go_wp2_with fail
        exact ⟨⟨s + 1, by omega, by go_num⟩, by simp [intOf]; omega⟩
      · have CA := Lib.hid (fun w => holding_out m s w (by omega))
        have CB := Lib.hid (fun w => rholding_out m s w (by omega) (by omega))
        go_wp2_with fail
        refine (CA.out _).mono ?_
        rintro e w2 ⟨rfl, rfl⟩
        go_wp2_with fail
        refine (CB.out _).mono ?_
        rintro e w2 ⟨rfl, rfl⟩
        go_wp2_with fail
        exact ⟨⟨s + 1, by omega, by go_num⟩, by simp [intOf]; omega⟩
    · obtain rfl : s = 5 := by omega
      go_wp2_with fail
      refine (A5.out _ _ HI.out).mono ?_
      rintro e w1 ⟨rfl, hi⟩
      clear HI
      have HI := Lib.hid hi
      clear hi
      go_wp2_with fail
      refine (B5.out _ _ HI.out).mono ?_
      rintro e w1 ⟨rfl, hi⟩
      clear HI
      have HI := Lib.hid hi
      clear hi
      go_wp2_with fail
      refine (A6.out _ _ HI.out).mono ?_
      rintro e w1 ⟨rfl, hi⟩
      clear HI
      have HI := Lib.hid hi
      clear hi
      go_wp2_with fail
      refine (B6.out _ _ HI.out).mono ?_
      rintro e w1 ⟨rfl, hi⟩
      clear HI
      have HI := Lib.hid hi
      clear hi
      go_wp2_with fail
      refine (A7.out _ _ HI.out).mono ?_
      rintro e w1 ⟨rfl, hi⟩
      clear HI
      have HI := Lib.hid hi
      clear hi
      go_wp2_with fail
      refine (B7.out _ _ HI.out).mono ?_
      rintro e w1 ⟨rfl, hi⟩
      clear HI
      have HI := Lib.hid hi
      clear hi
      go_wp2_with fail
      refine (A8.out _ _ HI.out).mono ?_
      rintro e w1 ⟨rfl, hi⟩
      clear HI
      have HI := Lib.hid hi
      clear hi
      go_wp2_with fail
      refine (B8.out _ _ HI.out).mono ?_
      rintro e w1 ⟨rfl, hi⟩
      clear HI
      have HI := Lib.hid hi
      clear hi
      go_wp2_with fail
      go_ret
      exact ⟨rfl, HI.out⟩
end Go.Proofs.YtdebhdjcacojeaaDoor
