/- The walk of HandBalanced. -/
import Derived.Test.YtdebhdjcacojeaaDoorDealLaw
import Derived.Test.YtdebhdjcacojeaaDoorTurned
import Derived.Test.YtdebhdjcacojeaaDoorBalP

import Derived.Deep.RegionHeld3
namespace Go.Proofs.YtdebhdjcacojeaaDoor
open Go.RowKit

theorem deck_lt (L : List Nat) (hL : L.Perm (List.range 52)) (j : Nat) : Pl.maskTo (fun i => L.getD i 0) 52 j < 4503599627370496 := by
  have := Pl.mask_lt _ (Pl.deck_of L hL) j 52 (Nat.le_refl _)
  simpa using this
/-- The seven sets of cards, as cells. -/
def c7 (X : Nat → Nat) : Array Value := #[.int .u64 (X 0 : Nat), .int .u64 (X 1 : Nat), .int .u64 (X 2 : Nat), .int .u64 (X 3 : Nat), .int .u64 (X 4 : Nat), .int .u64 (X 5 : Nat), .int .u64 (X 6 : Nat)]
theorem c7_get (X : Nat → Nat) (j : Nat) (hj : j < 7) : (c7 X)[j]? = some (.int .u64 (X j : Nat)) := by
  rcases (by omega : j = 0 ∨ j = 1 ∨ j = 2 ∨ j = 3 ∨ j = 4 ∨ j = 5 ∨ j = 6) with rfl | rfl | rfl | rfl | rfl | rfl | rfl <;> rfl
theorem turned_c1 (q : Nat) (w : World) (hq : q < 256) : Calls Tryd.prog 15 #[.int .u64 1649737261087, .int .u8 q] w fun e w' => e = .returned (.int .u64 (Pl.turnV 1649737261087 q : Nat)) ∧ Below w.heap.size w w' :=
  turned_fix 1649737261087 q w (Lib.hid (by decide)) hq
theorem turned_c2 (q : Nat) (w : World) (hq : q < 256) : Calls Tryd.prog 15 #[.int .u64 1649737326607, .int .u8 q] w fun e w' => e = .returned (.int .u64 (Pl.turnV 1649737326607 q : Nat)) ∧ Below w.heap.size w w' :=
  turned_fix 1649737326607 q w (Lib.hid (by decide)) hq
set_option maxRecDepth 100000 in
set_option maxHeartbeats 1000000 in
theorem bal_walk (m : Nat) (x : Value) (w : World) (ht : Tabs w) (hm : m < 18446744073709551616) (hD : Hid (∀ w1, Below w.heap.size w w1 → Calls Tryd.prog 25 #[x] w1 (DealtPost w1))) :
    Calls Tryd.prog 8 #[.int .u64 m, x] w fun e w' => e = .returned (.bool true) ∧ Below w.heap.size w w' := by
  have HT := Lib.hid ht
  clear ht
  obtain ⟨M, hM⟩ : ∃ M, M = m % 4503599627370496 := ⟨_, rfl⟩
  have eM : (m : Int) % 4503599627370496 = (M : Int) := by omega
  have hM2 : M < 4503599627370496 := by omega
  obtain ⟨q, hq⟩ : ∃ q, q = m % 24 := ⟨_, rfl⟩
  have eq : (m : Int) % 24 = (q : Int) := by omega
  have eMt : (m : Int).tmod 4503599627370496 = (M : Int) := by rw [Int.tmod_eq_emod_of_nonneg (Int.natCast_nonneg m)]; exact eM
  have eqt : (m : Int).tmod 24 = (q : Int) := by rw [Int.tmod_eq_emod_of_nonneg (Int.natCast_nonneg m)]; exact eq
  have ew : IntKind.u8.wrap (q : Int) = (q : Int) := IntWalk.u8_in _ (by omega)
  have ew2 : IntKind.u64.wrap (q : Int) = (q : Int) := IntWalk.u64_in _ (by omega)
  have ew3 : IntKind.u64.wrap (M : Int) = (M : Int) := IntWalk.u64_in _ (by omega)
  have hq2 : q < 256 := by omega
  have hq3 : (q : Int) < 256 := by omega
  have HM := Lib.hid hM2
  clear hM hq hM2 hm
  go_enter Tryd.func8, Tryd.ntmps8
  go_wp2_with fail
  refine (hD.out _ (Below.refl _ _)).mono ?_
  rintro e w1 ⟨⟨L, hL, rfl⟩, hb1⟩
  have l0 := deck_lt L hL 0
  have l1 := deck_lt L hL 1
  have l2 := deck_lt L hL 2
  have l3 := deck_lt L hL 3
  generalize Pl.maskTo (fun i => L.getD i 0) 52 0 = d0 at *
  generalize Pl.maskTo (fun i => L.getD i 0) 52 1 = d1 at *
  generalize Pl.maskTo (fun i => L.getD i 0) 52 2 = d2 at *
  generalize Pl.maskTo (fun i => L.getD i 0) 52 3 = d3 at *
  have L0 := Lib.hid l0
  have L1 := Lib.hid l1
  have L2 := Lib.hid l2
  have L3 := Lib.hid l3
  clear l0 l1 l2 l3 hL hD
  go_wp2_with fail
  obtain ⟨W, hW⟩ : ∃ W, W = w1.alloc (.cells #[.int .u64 (d0 : Nat), .int .u64 (d1 : Nat), .int .u64 (d2 : Nat), .int .u64 (d3 : Nat)] 37) := ⟨_, rfl⟩
  have hBW : Below w.heap.size w W := hW ▸ hb1.alloc hb1.size _
  have k0 : W.cell? ⟨w1.heap.size, 0, none⟩ = some (.int .u64 (d0 : Nat)) := by rw [hW]; simp
  have k1 : W.cell? ⟨w1.heap.size, 1, none⟩ = some (.int .u64 (d1 : Nat)) := by rw [hW]; simp
  have k2 : W.cell? ⟨w1.heap.size, 2, none⟩ = some (.int .u64 (d2 : Nat)) := by rw [hW]; simp
  have k3 : W.cell? ⟨w1.heap.size, 3, none⟩ = some (.int .u64 (d3 : Nat)) := by rw [hW]; simp
  rw [← hW]
  clear hW hb1
  have sof : ∀ w2 : World, Below W.heap.size W w2 → (w2.cell? ⟨w1.heap.size, 0, none⟩ = some (.int .u64 (d0 : Nat)) ∧ w2.cell? ⟨w1.heap.size, 1, none⟩ = some (.int .u64 (d1 : Nat)) ∧ w2.cell? ⟨w1.heap.size, 2, none⟩ = some (.int .u64 (d2 : Nat)) ∧
      w2.cell? ⟨w1.heap.size, 3, none⟩ = some (.int .u64 (d3 : Nat)) ∧ Below W.heap.size W w2) := fun _ h => ⟨keepW h k0, keepW h k1, keepW h k2, keepW h k3, h⟩
  have SOF := Lib.hid sof
  clear sof k0 k1 k2 k3
  go_region_held3 (fun w2 => w2.cell? ⟨w1.heap.size, 0, none⟩ = some (.int .u64 (d0 : Nat)) ∧ w2.cell? ⟨w1.heap.size, 1, none⟩ = some (.int .u64 (d1 : Nat)) ∧ w2.cell? ⟨w1.heap.size, 2, none⟩ = some (.int .u64 (d2 : Nat)) ∧
      w2.cell? ⟨w1.heap.size, 3, none⟩ = some (.int .u64 (d3 : Nat)) ∧ Below W.heap.size W w2)
    (first | exact SOF.out _ (Below.refl _ _) | exact SOF.out _ (Below.drew (Below.refl _ _)) | exact SOF.out _ (bchain (by assumption : _ ∧ _ ∧ _ ∧ _ ∧ _).2.2.2.2 hb) | exact SOF.out _ (Below.alloc (by assumption : _ ∧ _ ∧ _ ∧ _ ∧ _).2.2.2.2 (Below.size (by assumption : _ ∧ _ ∧ _ ∧ _ ∧ _).2.2.2.2) _))
    (first | (go_at_call 15; (with_reducible refine (turned_c1 q _ hq2).mono ?_); rintro e w' ⟨rfl, hb⟩) | (go_at_call 15; (with_reducible refine (turned_c2 q _ hq2).mono ?_); rintro e w' ⟨rfl, hb⟩))
  all_goals
    rename_i hh
    have hBB := hh.2.2.2.2
    clear hh hb SOF
    have t1 := Pl.turnV_lt 1649737261087 q
    have t2 := Pl.turnV_lt 1649737326607 q
    obtain ⟨X, hX0, hX1, hX2, hX3, hX4, hX5, hX6⟩ : ∃ X : Nat → Nat, X 0 = M ∧ X 1 = d0 ∧ X 2 = d1 ∧ X 3 = d2 ∧ X 4 = d3 ∧ X 5 = Pl.turnV 1649737261087 q ∧ X 6 = Pl.turnV 1649737326607 q :=
      ⟨fun j => [M, d0, d1, d2, d3, Pl.turnV 1649737261087 q, Pl.turnV 1649737326607 q].getD j 0, rfl, rfl, rfl, rfl, rfl, rfl, rfl⟩
    have hlt : ∀ j, j < 7 → X j < 4503599627370496 := fun j hj => by
      have a0 := HM.out
      have a1 := L0.out
      have a2 := L1.out
      have a3 := L2.out
      have a4 := L3.out
      rcases (by omega : j = 0 ∨ j = 1 ∨ j = 2 ∨ j = 3 ∨ j = 4 ∨ j = 5 ∨ j = 6) with rfl | rfl | rfl | rfl | rfl | rfl | rfl <;> omega
    have HLT := Lib.hid hlt
    clear hlt t1 t2
    rw [← hX0, ← hX1, ← hX2, ← hX3, ← hX4, ← hX5, ← hX6] at hBB ⊢
    clear hX0 hX1 hX2 hX3 hX4 hX5 hX6 eM eq eMt eqt ew ew2 ew3 hq2 hq3 HM L0 L1 L2 L3
    have hi : InvL w (w'.alloc (.cells (c7 X) 22)) w'.heap.size 22 (c7 X) :=
      ⟨HT.out.keep (bchain hBW hBB), bchain hBW hBB, Blk.new _ _ _⟩
    have HI := Lib.hid hi
    clear hi hBB
    go_wp2_with fail
    go_loopw [35] (fun v35 wr => ∃ j : Nat, j ≤ 7 ∧ v35 = .int .i64 j ∧ InvL w wr w'.heap.size 22 (c7 X)) (fun v35 _ => 7 - (intOf v35).toNat)
    case atStart => exact ⟨0, by omega, rfl, HI.out⟩
    case round =>
      obtain ⟨j, hj, rfl, hi⟩ := hrel
      clear HI
      by_cases hjl : j < 7
      · have c1 := hi.blk.cell (c7_get X j hjl)
        have hx := HLT.out j hjl
        have HX := Lib.hid hx
        have HX64 : Hid (X j < 18446744073709551616) := Lib.hid (by omega)
        clear hx
        have dj : decide ((j : Int) < 7) = true := decide_eq_true (by omega)
        go_wp2_with fail
        refine (invl_of (fun w _ => shape_any (X j) w HX64.out) hi).mono ?_
        rintro e w2 ⟨rfl, h2⟩
        clear hi c1
        have H2 := Lib.hid h2
        clear h2
        go_wp2_with fail
        go_loopw [8, 9, 10, 41] (fun v8 v9 v10 v41 wr => ∃ s : Nat, s ≤ 4 ∧ v41 = .int .i64 s ∧ v8 = .int .i64 (twoTo (shp (X j)) s : Nat) ∧ v9 = .bool (okTo (shp (X j)) s) ∧ v10 = .int .i64 (Pl.sm (shp (X j)) s : Nat) ∧ wr = w2) (fun _ _ _ v41 _ => 4 - (intOf v41).toNat)
        case atStart => exact ⟨0, by omega, rfl, rfl, rfl, by rw [Pl.sm_0]; rfl, rfl⟩
        case round =>
          obtain ⟨s, hs, rfl, rfl, rfl, rfl, rfl⟩ := hrel
          by_cases hsl : s < 4
          · have iy := idx_int (fun i => shp (X j) i) s hsl
            have b1 := twoTo_le (shp (X j)) s
            have b2 := Pl.sm_le (shp (X j)) (fun i => by have := shp_le (X j) i; omega) s
            have b3 := shp_le (X j) s
            have S1 := Lib.hid (Pl.sm_succ (shp (X j)) s)
            have K1 := Lib.hid (okTo_s (shp (X j)) s)
            have hT : Hid (twoTo (shp (X j)) (s + 1) = if shp (X j) s = 2 then twoTo (shp (X j)) s + 1 else twoTo (shp (X j)) s) := by
              split
              · exact twoTo_yes _ _ (by assumption)
              · exact twoTo_no _ _ (by assumption)
            generalize twoTo (shp (X j)) s = T at *
            generalize okTo (shp (X j)) s = K at *
            generalize Pl.sm (shp (X j)) s = S at *
            generalize shp (X j) s = l at *
            rcases (by omega : l = 2 ∨ l < 2 ∨ (2 < l ∧ l ≤ 5) ∨ 5 < l) with hl | hl | hl | hl
            · have f1 : ((l : Int) == 2) = true := beq_iff_eq.2 (by omega)
              have f2 : decide ((2 : Int) ≤ (l : Int)) = true := decide_eq_true (by omega)
              have f3 : decide ((l : Int) ≤ 5) = true := decide_eq_true (by omega)
              have g2 : Hid (decide (2 ≤ l) = true) := Lib.hid (decide_eq_true (by omega))
              have g3 : Hid (decide (l ≤ 5) = true) := Lib.hid (decide_eq_true (by omega))
              have gt : Hid (twoTo (shp (X j)) (s + 1) = T + 1) := Lib.hid (by rw [hT.out]; rw [if_pos hl])
              have HL := Lib.hid hl; clear hl hT
              cases K
              all_goals
                go_wp2_with fail
                exact ⟨⟨s + 1, by omega, by go_num, by (rw [gt.out]) <;> first | rfl | go_num, by rw [K1.out, g2.out, g3.out]; rfl, by rw [S1.out]; rfl, by trivial⟩, by simp [intOf]; omega⟩
            · have f1 : ((l : Int) == 2) = false := beq_eq_false_iff_ne.2 (by omega)
              have f2 : decide ((2 : Int) ≤ (l : Int)) = false := decide_eq_false (by omega)
              have f3 : decide ((l : Int) ≤ 5) = true := decide_eq_true (by omega)
              have g2 : Hid (decide (2 ≤ l) = false) := Lib.hid (decide_eq_false (by omega))
              have g3 : Hid (decide (l ≤ 5) = true) := Lib.hid (decide_eq_true (by omega))
              have gt : Hid (twoTo (shp (X j)) (s + 1) = T) := Lib.hid (by rw [hT.out]; rw [if_neg (by omega)])
              clear hT
              cases K
              all_goals
                go_wp2_with fail
                exact ⟨⟨s + 1, by omega, by go_num, by (rw [gt.out]) <;> first | rfl | go_num, by rw [K1.out, g2.out, g3.out]; rfl, by rw [S1.out]; rfl, by trivial⟩, by simp [intOf]; omega⟩
            · have f1 : ((l : Int) == 2) = false := beq_eq_false_iff_ne.2 (by omega)
              have f2 : decide ((2 : Int) ≤ (l : Int)) = true := decide_eq_true (by omega)
              have f3 : decide ((l : Int) ≤ 5) = true := decide_eq_true (by omega)
              have g2 : Hid (decide (2 ≤ l) = true) := Lib.hid (decide_eq_true (by omega))
              have g3 : Hid (decide (l ≤ 5) = true) := Lib.hid (decide_eq_true (by omega))
              have gt : Hid (twoTo (shp (X j)) (s + 1) = T) := Lib.hid (by rw [hT.out]; rw [if_neg (by omega)])
              clear hT
              cases K
              all_goals
                go_wp2_with fail
                exact ⟨⟨s + 1, by omega, by go_num, by (rw [gt.out]) <;> first | rfl | go_num, by rw [K1.out, g2.out, g3.out]; rfl, by rw [S1.out]; rfl, by trivial⟩, by simp [intOf]; omega⟩
            · have f1 : ((l : Int) == 2) = false := beq_eq_false_iff_ne.2 (by omega)
              have f2 : decide ((2 : Int) ≤ (l : Int)) = true := decide_eq_true (by omega)
              have f3 : decide ((l : Int) ≤ 5) = false := decide_eq_false (by omega)
              have g2 : Hid (decide (2 ≤ l) = true) := Lib.hid (decide_eq_true (by omega))
              have g3 : Hid (decide (l ≤ 5) = false) := Lib.hid (decide_eq_false (by omega))
              have gt : Hid (twoTo (shp (X j)) (s + 1) = T) := Lib.hid (by rw [hT.out]; rw [if_neg (by omega)])
              clear hT
              cases K
              all_goals
                go_wp2_with fail
                exact ⟨⟨s + 1, by omega, by go_num, by (rw [gt.out]) <;> first | rfl | go_num, by rw [K1.out, g2.out, g3.out]; rfl, by rw [S1.out]; rfl, by trivial⟩, by simp [intOf]; omega⟩
          · obtain rfl : s = 4 := by omega
            have hbal := Lib.hid (bal_is (X j) HX.out)
            have b1 := twoTo_le (shp (X j)) 4
            generalize okTo (shp (X j)) 4 = K at *
            generalize twoTo (shp (X j)) 4 = T at *
            generalize Pl.sm (shp (X j)) 4 = S at *
            go_wp2_with fail
            refine (invl_of (fun w _ => balanced_any (X j) w HX64) H2.out).mono ?_
            rintro e w3 ⟨rfl, h3⟩
            rw [hbal.out]
            have H3 := Lib.hid h3
            clear h3 hbal
            rcases Nat.lt_or_ge 1 T with ht | ht
            all_goals rcases (by omega : S = 13 ∨ S ≠ 13) with hs13 | hs13
            · have f1 : decide ((T : Int) ≤ 1) = false := decide_eq_false (by omega)
              have f2 : ((S : Int) == 13) = true := beq_iff_eq.2 (by omega)
              rw [decide_eq_false (show ¬ T ≤ 1 by omega), decide_eq_true hs13]
              clear hs13
              cases K
              all_goals
                go_wp2_with fail
                exact ⟨⟨j + 1, by omega, by go_num, H3.out⟩, by simp [intOf]; omega⟩
            · have f1 : decide ((T : Int) ≤ 1) = false := decide_eq_false (by omega)
              have f2 : ((S : Int) == 13) = false := beq_eq_false_iff_ne.2 (by omega)
              rw [decide_eq_false (show ¬ T ≤ 1 by omega), decide_eq_false hs13]
              clear hs13
              cases K
              all_goals
                go_wp2_with fail
                exact ⟨⟨j + 1, by omega, by go_num, H3.out⟩, by simp [intOf]; omega⟩
            · have f1 : decide ((T : Int) ≤ 1) = true := decide_eq_true (by omega)
              have f2 : ((S : Int) == 13) = true := beq_iff_eq.2 (by omega)
              rw [decide_eq_true (show T ≤ 1 by omega), decide_eq_true hs13]
              clear hs13
              cases K
              all_goals
                go_wp2_with fail
                exact ⟨⟨j + 1, by omega, by go_num, H3.out⟩, by simp [intOf]; omega⟩
            · have f1 : decide ((T : Int) ≤ 1) = true := decide_eq_true (by omega)
              have f2 : ((S : Int) == 13) = false := beq_eq_false_iff_ne.2 (by omega)
              rw [decide_eq_true (show T ≤ 1 by omega), decide_eq_false hs13]
              clear hs13
              cases K
              all_goals
                go_wp2_with fail
                exact ⟨⟨j + 1, by omega, by go_num, H3.out⟩, by simp [intOf]; omega⟩
      · obtain rfl : j = 7 := by omega
        have hv : Inv w wr := ⟨hi.tabs, hi.below⟩
        clear hi
        go_wp2_with fail
        refine (awake_i hv).mono ?_
        rintro e w6 ⟨rfl, h6⟩
        go_wp2_with fail
        go_ret
        exact ⟨rfl, h6.below⟩
end Go.Proofs.YtdebhdjcacojeaaDoor
