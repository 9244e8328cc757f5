/- Contracts of the functions of package hand that count. -/
import Derived.Test.YtdebhdjcacojeaaDoorTotal
namespace Go.Proofs.YtdebhdjcacojeaaDoor
open Go.RowKit

/-- What the two tables hold. -/
structure Tabs (w : World) : Prop where
  p0 : w.cell? ⟨0, 0, none⟩ = some (.int .i64 1)
  p1 : w.cell? ⟨0, 1, none⟩ = some (.int .i64 2)
  p2 : w.cell? ⟨0, 2, none⟩ = some (.int .i64 3)
  p3 : w.cell? ⟨0, 3, none⟩ = some (.int .i64 4)
  c0 : w.cell? ⟨1, 0, none⟩ = some (.int .i64 0)
  c1 : w.cell? ⟨1, 1, none⟩ = some (.int .i64 0)
  c2 : w.cell? ⟨1, 2, none⟩ = some (.int .i64 1)
  c3 : w.cell? ⟨1, 3, none⟩ = some (.int .i64 2)
theorem Tabs.keep {w w' : World} (h : Tabs w) (hb : Below w.heap.size w w') : Tabs w' :=
  ⟨keepW hb h.p0, keepW hb h.p1, keepW hb h.p2, keepW hb h.p3, keepW hb h.c0, keepW hb h.c1, keepW hb h.c2, keepW hb h.c3⟩

theorem points_any (m : Nat) (w : World) (hm : m < 18446744073709551616) (ht : Tabs w) :
    Calls Tryd.prog 16 #[.int .u64 m] w fun e w' => e = .returned (.int .i64 (Pl.tot (Pl.hon 1 2 3 4) m : Nat)) ∧ Below w.heap.size w w' := by
  obtain ⟨h0, h1, h2, h3, _, _, _, _⟩ := ht
  go_enter Tryd.func16, Tryd.ntmps16
  go_wp2_with (first | (go_at_call 38; go_in))
  refine (tot_hon m w.heap.size 1 2 3 4 _ hm (by omega) (by omega) (by omega) (by omega) (by omega) (by go_cell) (by go_cell) (by go_cell) (by go_cell)).mono ?_
  rintro e w' ⟨rfl, hb⟩
  go_wp2
  go_ret
  exact ⟨rfl, ((Below.refl _ _).alloc (Nat.le_refl _) _).trans (hb.mono (by simp))⟩
theorem controls_any (m : Nat) (w : World) (hm : m < 18446744073709551616) (ht : Tabs w) :
    Calls Tryd.prog 17 #[.int .u64 m] w fun e w' => e = .returned (.int .i64 (Pl.tot (Pl.hon 0 0 1 2) m : Nat)) ∧ Below w.heap.size w w' := by
  obtain ⟨_, _, _, _, h0, h1, h2, h3⟩ := ht
  go_enter Tryd.func17, Tryd.ntmps17
  go_wp2_with (first | (go_at_call 38; go_in))
  refine (tot_hon m w.heap.size 0 0 1 2 _ hm (by omega) (by omega) (by omega) (by omega) (by omega) (by go_cell) (by go_cell) (by go_cell) (by go_cell)).mono ?_
  rintro e w' ⟨rfl, hb⟩
  go_wp2
  go_ret
  exact ⟨rfl, ((Below.refl _ _).alloc (Nat.le_refl _) _).trans (hb.mono (by simp))⟩
theorem losers_any (m : Nat) (w : World) (hm : m < 18446744073709551616) :
    Calls Tryd.prog 18 #[.int .u64 m] w fun e w' => e = .returned (.int .i64 (Pl.tot Pl.los m : Nat)) ∧ Below w.heap.size w w' := by
  go_enter Tryd.func18, Tryd.ntmps18
  go_wp2_with fail
  refine (tot_los m _ hm).mono ?_
  rintro e w' ⟨rfl, hb⟩
  go_wp2
  go_ret
  exact ⟨rfl, hb⟩
theorem quick_any (m : Nat) (w : World) (hm : m < 18446744073709551616) :
    Calls Tryd.prog 19 #[.int .u64 m] w fun e w' => e = .returned (.int .i64 (Pl.tot Pl.qck m : Nat)) ∧ Below w.heap.size w w' := by
  go_enter Tryd.func19, Tryd.ntmps19
  go_wp2_with fail
  refine (tot_qck m _ hm).mono ?_
  rintro e w' ⟨rfl, hb⟩
  go_wp2
  go_ret
  exact ⟨rfl, hb⟩
def rightB (m : Nat) : Bool := decide (m < 4503599627370496) && decide (Pl.pc 64 m = 13)
attribute [irreducible] rightB
theorem right_any (m : Nat) (w : World) (hm : Hid (m < 18446744073709551616)) :
    Calls Tryd.prog 22 #[.int .u64 m] w fun e w' => e = .returned (.bool (rightB m)) ∧ w = w' := by
  by_cases h1 : m < 4503599627370496
  · have k1 : decide ((m : Int) < 4503599627370496) = true := by simp; omega
    have H1 := Lib.hid h1; clear h1
    by_cases h2 : Pl.pc 64 m = 13
    · have h2' : (((Pl.pc 64 m : Nat) : Int) == 13) = true := by simp [h2]
      have H := Lib.hid h2
      clear h2
      go_enter Tryd.func22, Tryd.ntmps22
      go_wp2_with (go_at_call 44; refine (ones64_any m _ hm.out).mono ?_; rintro e w' ⟨rfl, rfl⟩)
      go_ret
      exact ⟨by simp [rightB, H1.out, H.out], rfl⟩
    · have h2' : (((Pl.pc 64 m : Nat) : Int) == 13) = false := by simp; omega
      go_enter Tryd.func22, Tryd.ntmps22
      go_wp2_with (go_at_call 44; refine (ones64_any m _ hm.out).mono ?_; rintro e w' ⟨rfl, rfl⟩)
      go_ret
      exact ⟨by simp [rightB, h2], rfl⟩
  · have k1 : decide ((m : Int) < 4503599627370496) = false := by simp; omega
    have H1 := Lib.hid h1; clear h1
    go_enter Tryd.func22, Tryd.ntmps22
    go_wp2
    go_ret
    exact ⟨by simp [rightB, H1.out], rfl⟩

/-- The lengths of the suits. -/
def shp (m s : Nat) : Nat := Pl.pc 16 (Pl.hold m s)
def shpTo (m k s : Nat) : Nat := if s < k then shp m s else 0
theorem shpTo_0 (m s : Nat) : shpTo m 0 s = 0 := by simp [shpTo]
theorem shpTo_new (m k : Nat) : Pl.pc 16 (Pl.hold m k) = shpTo m (k + 1) k := by simp [shpTo, shp]
theorem shpTo_same (m k s : Nat) (h : s ≠ k) : shpTo m k s = shpTo m (k + 1) s := by
  unfold shpTo
  by_cases e : s < k
  · rw [if_pos e, if_pos (by omega)]
  · rw [if_neg e, if_neg (by omega)]
theorem shpTo_4 (m s : Nat) (h : s < 4) : shpTo m 4 s = shp m s := by simp [shpTo, h]
theorem shp_le (m s : Nat) : shp m s ≤ 13 := by
  have h : Pl.pc 13 (Pl.hold m s) ≤ 13 := Pl.pc_le 13 _
  have e := Pl.pc_add 13 3 (Pl.hold m s)
  have d : Pl.hold m s / 2 ^ 13 = 0 := Nat.div_eq_of_lt (Pl.hold_lt m s)
  rw [d, Pl.pc_zero] at e
  unfold shp; rw [show (16 : Nat) = 13 + 3 from rfl, e]; omega
attribute [irreducible] shp shpTo
theorem shape_any (m : Nat) (w : World) (hm : m < 18446744073709551616) :
    Calls Tryd.prog 23 #[.int .u64 m] w fun e w' => e = .returned (.agg #[.int .i64 (shp m 0 : Nat), .int .i64 (shp m 1 : Nat), .int .i64 (shp m 2 : Nat), .int .i64 (shp m 3 : Nat)]) ∧ Below w.heap.size w w' := by
  go_enter Tryd.func23, Tryd.ntmps23
  go_wp2
  go_loopw [5] (fun v5 wr => ∃ k n : Nat, k ≤ 4 ∧ v5 = .int .i64 k ∧ wr = ((w.alloc (.cells #[.int .i64 0, .int .i64 0, .int .i64 0, .int .i64 0] 31)).alloc
      (.cells #[.int .i64 (shpTo m k 0 : Nat), .int .i64 (shpTo m k 1 : Nat), .int .i64 (shpTo m k 2 : Nat), .int .i64 (shpTo m k 3 : Nat)] 31)).drewN n) (fun v5 _ => 4 - (intOf v5).toNat)
  case atStart => exact ⟨0, 0, by omega, rfl, by simp only [shpTo_0]; rfl⟩
  case round =>
    obtain ⟨k, n, hk, rfl, rfl⟩ := hrel
    rcases (by omega : k = 0 ∨ k = 1 ∨ k = 2 ∨ k = 3 ∨ k = 4) with rfl | rfl | rfl | rfl | rfl
    · have hh := Pl.hold_lt m 0
      go_wp2_with (first
        | (go_at_call 24; refine (holding_any m 0 _ hm (by omega)).mono ?_; rintro e w' ⟨rfl, rfl⟩)
        | (go_at_call 40; refine (ones16_any (Pl.hold m 0) _ (by omega)).mono ?_; rintro e w' ⟨rfl, q, rfl⟩))
      go_roundw
      case rel => exact ⟨1, _, by omega, rfl, by rw [shpTo_new m 0, shpTo_same m 0 1 (by omega), shpTo_same m 0 2 (by omega), shpTo_same m 0 3 (by omega)]⟩
      case measure => simp [intOf]
    · have hh := Pl.hold_lt m 1
      go_wp2_with (first
        | (go_at_call 24; refine (holding_any m 1 _ hm (by omega)).mono ?_; rintro e w' ⟨rfl, rfl⟩)
        | (go_at_call 40; refine (ones16_any (Pl.hold m 1) _ (by omega)).mono ?_; rintro e w' ⟨rfl, q, rfl⟩))
      go_roundw
      case rel => exact ⟨2, _, by omega, rfl, by rw [shpTo_new m 1, shpTo_same m 1 0 (by omega), shpTo_same m 1 2 (by omega), shpTo_same m 1 3 (by omega)]⟩
      case measure => simp [intOf]
    · have hh := Pl.hold_lt m 2
      go_wp2_with (first
        | (go_at_call 24; refine (holding_any m 2 _ hm (by omega)).mono ?_; rintro e w' ⟨rfl, rfl⟩)
        | (go_at_call 40; refine (ones16_any (Pl.hold m 2) _ (by omega)).mono ?_; rintro e w' ⟨rfl, q, rfl⟩))
      go_roundw
      case rel => exact ⟨3, _, by omega, rfl, by rw [shpTo_new m 2, shpTo_same m 2 0 (by omega), shpTo_same m 2 1 (by omega), shpTo_same m 2 3 (by omega)]⟩
      case measure => simp [intOf]
    · have hh := Pl.hold_lt m 3
      go_wp2_with (first
        | (go_at_call 24; refine (holding_any m 3 _ hm (by omega)).mono ?_; rintro e w' ⟨rfl, rfl⟩)
        | (go_at_call 40; refine (ones16_any (Pl.hold m 3) _ (by omega)).mono ?_; rintro e w' ⟨rfl, q, rfl⟩))
      go_roundw
      case rel => exact ⟨4, _, by omega, rfl, by rw [shpTo_new m 3, shpTo_same m 3 0 (by omega), shpTo_same m 3 1 (by omega), shpTo_same m 3 2 (by omega)]⟩
      case measure => simp [intOf]
    · go_wp2
      refine bodyPost_ret (v := .agg #[.int .i64 (shpTo m 4 0 : Nat), .int .i64 (shpTo m 4 1 : Nat), .int .i64 (shpTo m 4 2 : Nat), .int .i64 (shpTo m 4 3 : Nat)]) (by simp [results, Tryd.results23, go_sem]) rfl ⟨?_, below_drewN ?_ _⟩
      · rw [shpTo_4 m 0 (by omega), shpTo_4 m 1 (by omega), shpTo_4 m 2 (by omega), shpTo_4 m 3 (by omega)]
      · go_grown
end Go.Proofs.YtdebhdjcacojeaaDoor
