/- The examples of the chapter: awake returns true. -/
import Derived.Test.YtdebhdjcacojeaaDoorPat
import Derived.Test.YtdebhdjcacojeaaDoorEq
namespace Go.Proofs.YtdebhdjcacojeaaDoor
open Go.RowKit

/-- The tables are there, and of what was there at the beginning nothing has changed. -/
structure Inv (w0 w : World) : Prop where
  tabs : Tabs w
  below : Below w0.heap.size w0 w
theorem inv_of {f : FuncId} {args : Array Value} {v : Value} (h : ∀ w, Tabs w → Calls Tryd.prog f args w (fun e w' => e = .returned v ∧ Below w.heap.size w w')) {w0 w : World} (hi : Inv w0 w) :
    Calls Tryd.prog f args w (fun e w' => e = .returned v ∧ Inv w0 w') :=
  (h w hi.tabs).mono fun _ _ ⟨he, hb⟩ => ⟨he, hi.tabs.keep hb, bchain hi.below hb⟩
theorem inv_pure {f : FuncId} {args : Array Value} {v : Value} (h : ∀ w, Calls Tryd.prog f args w (fun e w' => e = .returned v ∧ w = w')) {w0 w : World} (hi : Inv w0 w) :
    Calls Tryd.prog f args w (fun e w' => e = .returned v ∧ Inv w0 w') :=
  (h w).mono fun _ _ ⟨he, hb⟩ => ⟨he, hb ▸ hi⟩

theorem points_i (m : Nat) (hm : m < 18446744073709551616) {w0 w : World} (hi : Inv w0 w) : Calls Tryd.prog 16 #[.int .u64 m] w (fun e w' => e = .returned (.int .i64 (Pl.tot (Pl.hon 1 2 3 4) m : Nat)) ∧ Inv w0 w') := inv_of (fun w ht => points_any m w hm ht) hi
theorem controls_i (m : Nat) (hm : m < 18446744073709551616) {w0 w : World} (hi : Inv w0 w) : Calls Tryd.prog 17 #[.int .u64 m] w (fun e w' => e = .returned (.int .i64 (Pl.tot (Pl.hon 0 0 1 2) m : Nat)) ∧ Inv w0 w') := inv_of (fun w ht => controls_any m w hm ht) hi
theorem losers_i (m : Nat) (hm : m < 18446744073709551616) {w0 w : World} (hi : Inv w0 w) : Calls Tryd.prog 18 #[.int .u64 m] w (fun e w' => e = .returned (.int .i64 (Pl.tot Pl.los m : Nat)) ∧ Inv w0 w') := inv_of (fun w _ => losers_any m w hm) hi
theorem quick_i (m : Nat) (hm : m < 18446744073709551616) {w0 w : World} (hi : Inv w0 w) : Calls Tryd.prog 19 #[.int .u64 m] w (fun e w' => e = .returned (.int .i64 (Pl.tot Pl.qck m : Nat)) ∧ Inv w0 w') := inv_of (fun w _ => quick_any m w hm) hi
theorem shape_i (m : Nat) (hm : m < 18446744073709551616) {w0 w : World} (hi : Inv w0 w) : Calls Tryd.prog 23 #[.int .u64 m] w (fun e w' => e = .returned (.agg #[.int .i64 (shp m 0 : Nat), .int .i64 (shp m 1 : Nat), .int .i64 (shp m 2 : Nat), .int .i64 (shp m 3 : Nat)]) ∧ Inv w0 w') := inv_of (fun w _ => shape_any m w hm) hi
theorem pattern_i (m : Nat) (hm : m < 18446744073709551616) {w0 w : World} (hi : Inv w0 w) : Calls Tryd.prog 20 #[.int .u64 m] w (fun e w' => e = .returned (.string ⟨(patL (shp m) (sortTo (shp m) 4)).toArray⟩) ∧ Inv w0 w') := inv_of (fun w _ => pattern_any m w hm) hi
theorem suits_i (m : Nat) (a b c d : Nat) (hq : sortTo (shp m) 4 = (a, b, c, d)) (hm : m < 18446744073709551616) {w0 w : World} (hi : Inv w0 w) : Calls Tryd.prog 26 #[.int .u64 m] w (fun e w' => e = .returned (.agg #[.int .u8 (a : Nat), .int .u8 (b : Nat), .int .u8 (c : Nat), .int .u8 (d : Nat)]) ∧ Inv w0 w') :=
  inv_of (fun w _ => (suits_any m w hm).mono fun e w' ⟨⟨a', b', c', d', h, he⟩, hb⟩ => by
    rw [hq] at h
    simp only [Prod.mk.injEq] at h
    obtain ⟨rfl, rfl, rfl, rfl⟩ := h
    exact ⟨he, hb⟩) hi
theorem balanced_i (m : Nat) (hm : m < 18446744073709551616) {w0 w : World} (hi : Inv w0 w) : Calls Tryd.prog 21 #[.int .u64 m] w (fun e w' => e = .returned (.bool (balB m)) ∧ Inv w0 w') := inv_of (fun w _ => balanced_any m w (Lib.hid hm)) hi

/-- The two hands of the examples. -/
def ex1 : Nat := 395 + 1090 * 67108864 + 6532 * 549755813888
def ex2 : Nat := 5647 + 4096 * 8192 + 3074 * 67108864 + 2049 * 549755813888
def exA : Nat := 4503599627370495
attribute [irreducible] ex1 ex2 exA
theorem ex1_lt : ex1 < 18446744073709551616 := by decide +kernel
theorem ex2_lt : ex2 < 18446744073709551616 := by decide +kernel
theorem exA_lt : exA < 18446744073709551616 := by decide +kernel
theorem of_1 (w : World) : Calls Tryd.prog 13 #[.int .u64 395, .int .u64 0, .int .u64 1090, .int .u64 6532] w fun e w' => e = .returned (.int .u64 (ex1 : Nat)) ∧ w = w' := by
  go_enter Tryd.func13, Tryd.ntmps13
  go_wp2
  go_ret
  exact ⟨ret_int (by decide +kernel), rfl⟩
theorem of_2 (w : World) : Calls Tryd.prog 13 #[.int .u64 5647, .int .u64 4096, .int .u64 3074, .int .u64 2049] w fun e w' => e = .returned (.int .u64 (ex2 : Nat)) ∧ w = w' := by
  go_enter Tryd.func13, Tryd.ntmps13
  go_wp2
  go_ret
  exact ⟨ret_int (by decide +kernel), rfl⟩
theorem ex_p1 : Pl.tot (Pl.hon 1 2 3 4) ex1 = 9 := by decide +kernel
theorem ex_c1 : Pl.tot (Pl.hon 0 0 1 2) ex1 = 3 := by decide +kernel
theorem ex_l1 : Pl.tot Pl.los ex1 = 6 := by decide +kernel
theorem ex_q1 : Pl.tot Pl.qck ex1 = 4 := by decide +kernel
theorem ex_s1 : shp ex1 0 = 5 ∧ shp ex1 1 = 0 ∧ shp ex1 2 = 3 ∧ shp ex1 3 = 5 := by decide +kernel
theorem ex_t1 : patL (shp ex1) (sortTo (shp ex1) 4) = [53, 45, 53, 45, 51, 45, 48] := by decide +kernel
theorem ex_o1 : sortTo (shp ex1) 4 = (3, 0, 2, 1) := by decide +kernel
theorem ex_b1 : balB ex1 = false := by decide +kernel
theorem ex_r1 : rightB ex1 = true := by decide +kernel
theorem ex_q2 : Pl.tot Pl.qck ex2 = 8 := by decide +kernel
theorem ex_pA : Pl.tot (Pl.hon 1 2 3 4) exA = 40 := by decide +kernel
theorem ex_tA : patL (shp exA) (sortTo (shp exA) 4) = [49, 51, 45, 49, 51, 45, 49, 51, 45, 49, 51] := by decide +kernel
theorem ex_bA : balB exA = false := by decide +kernel
theorem ex_h2 : Pl.hold ex2 3 = 2049 := by decide +kernel
theorem awake_i {w0 w : World} (hi : Inv w0 w) : Calls Tryd.prog 14 #[] w (fun e w' => e = .returned (.bool true) ∧ Inv w0 w') := by
  have p1 := ex_p1
  have c1 := ex_c1
  have l1 := ex_l1
  have q1 := ex_q1
  obtain ⟨s0, s1, s2, s3⟩ := ex_s1
  have t1 := ex_t1
  have b1 := ex_b1
  have r1 := ex_r1
  have q2 := ex_q2
  have pA := ex_pA
  have tA := ex_tA
  have bA := ex_bA
  have h2 := ex_h2
  have eA : (4503599627370495 : Int) = ((exA : Nat) : Int) := by decide +kernel
  have qi := eq4
  have qb := eq4b
  go_enter Tryd.func14, Tryd.ntmps14
  go_wp2_with fail
  refine (inv_pure of_1 hi).mono ?_
  rintro e w1 ⟨rfl, h1⟩
  go_wp2_with (first
    | (go_at_call 22; refine (inv_pure (fun w => right_any ex1 w (Lib.hid ex1_lt)) (by assumption)).mono ?_; rintro e w2 ⟨rfl, h2'⟩)
    | (go_at_call 16; refine (points_i ex1 ex1_lt (by assumption)).mono ?_; rintro e w2 ⟨rfl, h2'⟩)
    | (go_at_call 17; refine (controls_i ex1 ex1_lt (by assumption)).mono ?_; rintro e w2 ⟨rfl, h2'⟩)
    | (go_at_call 18; refine (losers_i ex1 ex1_lt (by assumption)).mono ?_; rintro e w2 ⟨rfl, h2'⟩)
    | (go_at_call 19; refine (quick_i ex1 ex1_lt (by assumption)).mono ?_; rintro e w2 ⟨rfl, h2'⟩)
    | (go_at_call 23; refine (shape_i ex1 ex1_lt (by assumption)).mono ?_; rintro e w2 ⟨rfl, h2'⟩)
    | (go_at_call 20; refine (pattern_i ex1 ex1_lt (by assumption)).mono ?_; rintro e w2 ⟨rfl, h2'⟩)
    | (go_at_call 26; refine (suits_i ex1 3 0 2 1 ex_o1 ex1_lt (by assumption)).mono ?_; rintro e w2 ⟨rfl, h2'⟩)
    | (go_at_call 21; refine (balanced_i ex1 ex1_lt (by assumption)).mono ?_; rintro e w2 ⟨rfl, h2'⟩))
  refine (inv_pure of_2 (by assumption)).mono ?_
  rintro e w2 ⟨rfl, h2'⟩
  go_wp2_with fail
  refine (quick_i ex2 ex2_lt (by assumption)).mono ?_
  rintro e w2 ⟨rfl, h2'⟩
  go_wp2_with (first
    | (go_at_call 16; refine (points_i exA exA_lt (by assumption)).mono ?_; rintro e w2 ⟨rfl, h2'⟩)
    | (go_at_call 20; refine (pattern_i exA exA_lt (by assumption)).mono ?_; rintro e w2 ⟨rfl, h2'⟩)
    | (go_at_call 21; refine (balanced_i exA exA_lt (by assumption)).mono ?_; rintro e w2 ⟨rfl, h2'⟩)
    | (go_at_call 24; refine (inv_pure (fun w => holding_any ex2 3 w ex2_lt (by omega)) (by assumption)).mono ?_; rintro e w2 ⟨rfl, h2'⟩))
  go_ret
  exact ⟨rfl, by assumption⟩
end Go.Proofs.YtdebhdjcacojeaaDoor
