/- The walk of HandMore. -/
import Derived.Test.YtdebhdjcacojeaaDoorAwake
import Derived.Test.YtdebhdjcacojeaaDoorPlain
import Derived.Test.YtdebhdjcacojeaaDoorQt
import Derived.Deep.QuietTactic
import Derived.BigQuiet
namespace Go.Proofs.YtdebhdjcacojeaaDoor
open Go.RowKit

set_option maxRecDepth 100000 in
set_option maxHeartbeats 2000000 in
theorem more_walk (m c : Nat) (w : World) (ht : Tabs w) :
    Calls Tryd.prog 6 #[.int .u64 m, .int .u8 c] w fun e w' => e = .returned (.bool true) ∧ Below w.heap.size w w' := by
  obtain ⟨M, hM⟩ : ∃ M, M = m % 4503599627370496 := ⟨_, rfl⟩
  obtain ⟨C, hC⟩ : ∃ C, C = c % 52 := ⟨_, rfl⟩
  have eM : (m : Int) % 4503599627370496 = (M : Int) := by omega
  have eC : (c : Int) % 52 = (C : Int) := by omega
  have hM1 : M < 18446744073709551616 := by omega
  have hM2 : M < 4503599627370496 := by omega
  have hC1 : C < 52 := by omega
  clear hM hC
  obtain ⟨q, r, hq, hr, hqr⟩ : ∃ q r, q < 4 ∧ r < 13 ∧ C = 13 * q + r := ⟨C / 13, C % 13, by omega, by omega, by omega⟩
  have pe : ((2 ^ C : Nat) : Int) = (2 : Int) ^ C := by simp
  have l1 : bits BinOp.andNot IntKind.u64 (M : Int) ((2 : Int) ^ C) = ((Pl.lessC M C : Nat) : Int) := pe ▸ less_e M C hM1 hC1
  have l2 : bits BinOp.or IntKind.u64 ((Pl.lessC M C : Nat) : Int) ((2 : Int) ^ C) = ((Pl.moreC M C : Nat) : Int) := pe ▸ more_e M C hM1 hC1
  have e0 : IntKind.u64.wrap ((2 : Int) ^ C) = (2 : Int) ^ C := by
    have h2 : 2 ^ C < 2 ^ 52 := Nat.pow_lt_pow_right (by omega) hC1
    rw [← pe, IntKind.wrap_u64]
    exact Int.emod_eq_of_lt (Int.natCast_nonneg _) (Int.ofNat_lt.2 (Nat.lt_trans h2 (by decide)))
  clear pe
  have e1 : (C : Int) / 13 = (q : Int) := by omega
  have e2 : (C : Int) % 13 = (r : Int) := by omega
  have hi : Inv w w := ⟨ht, Below.refl _ _⟩
  have hL : Pl.lessC M C < 18446744073709551616 := by have := Pl.less_le M C; omega
  have hN : Pl.moreC M C < 18446744073709551616 := Pl.more_lt M C hM2 hC1
  have HL := Lib.hid hL
  have HN := Lib.hid hN
  have hb : Pl.hold (Pl.lessC M C) q / 2 ^ r % 2 = 0 := by rw [Pl.hold_bit _ _ _ hr, ← hqr]; exact Pl.less_bit M C
  have hNL : Pl.moreC M C = Pl.lessC M C + 2 ^ (13 * q + r) := by rw [← hqr, Pl.moreC]
  obtain ⟨L, hLd⟩ : ∃ L, L = Pl.lessC M C := ⟨_, rfl⟩
  obtain ⟨N, hNd⟩ : ∃ N, N = Pl.moreC M C := ⟨_, rfl⟩
  rw [← hLd] at l1 l2 hb hNL HL
  rw [← hNd] at l2 hNL HN
  obtain ⟨d8, hd8⟩ : ∃ d, d = r - 8 := ⟨_, rfl⟩
  obtain ⟨d10, hd10⟩ : ∃ d, d = r - 10 := ⟨_, rfl⟩
  have p1 : Pl.tot (Pl.hon 1 2 3 4) N = Pl.tot (Pl.hon 1 2 3 4) L + d8 := by rw [hNL, hd8]; exact Pl.tot_put _ L q r _ hq hr hb (Pl.hon_put _ r hr hb).1
  have p2 : Pl.tot (Pl.hon 0 0 1 2) N = Pl.tot (Pl.hon 0 0 1 2) L + d10 := by rw [hNL, hd10]; exact Pl.tot_put _ L q r _ hq hr hb (Pl.hon_put _ r hr hb).2
  have p3 : Pl.tot Pl.qck L ≤ Pl.tot Pl.qck N := by rw [hNL]; exact Pl.tot_put_le _ L q r hq hr hb (Pl.qck_put _ r hr hb)
  have x8 : max ((r : Int) - 8) 0 = (d8 : Int) := by omega
  have x10 : max ((r : Int) - 10) 0 = (d10 : Int) := by omega
  obtain ⟨X, hX⟩ : ∃ X, X = Pl.hold L q + 2 ^ r := ⟨_, rfl⟩
  have pr : ((2 ^ r : Nat) : Int) = (2 : Int) ^ r := by simp
  have y1 : Pl.hold N q = X := by rw [hNL, Pl.hold_put L q r q hq hq hr hb, if_pos rfl, hX]
  have y2 : bits BinOp.or IntKind.u16 ((Pl.hold L q : Nat) : Int) ((2 : Int) ^ r) = (X : Int) := by rw [hX]; exact pr ▸ put_e (Pl.hold L q) r (Pl.hold_lt L q) hr hb
  have y3 : IntKind.u16.wrap ((2 : Int) ^ r) = (2 : Int) ^ r := by
    have h2 : 2 ^ r < 2 ^ 13 := Nat.pow_lt_pow_right (by omega) hr
    rw [← pr, IntKind.wrap_u16]
    exact Int.emod_eq_of_lt (Int.natCast_nonneg _) (Int.ofNat_lt.2 (Nat.lt_trans h2 (by decide)))
  have z1 : shp N q = shp L q + 1 := by unfold shp; rw [y1, hX]; exact Pl.pc_put r 16 _ (by omega) hb
  have z2 : ∀ s, s < 4 → s ≠ q → shp N s = shp L s := fun s hs hsq => by unfold shp; rw [hNL, Pl.hold_put L q r s hq hs hr hb, if_neg hsq]
  have zl := shp_le L q
  have t8 : Pl.tot (Pl.hon 1 2 3 4) L ≤ 40 := by rw [← Pl.totTo_4]; exact Pl.totTo_le _ 10 _ 4 (Pl.hon_le 1 2 3 4)
  have t10 : Pl.tot (Pl.hon 0 0 1 2) L ≤ 12 := by rw [← Pl.totTo_4]; exact Pl.totTo_le _ 3 _ 4 (Pl.hon_le 0 0 1 2)
  have w8 : IntKind.i64.wrap ((r : Int) - 8) = (r : Int) - 8 := by rw [IntKind.wrap_i64]; omega
  have w10 : IntKind.i64.wrap ((r : Int) - 10) = (r : Int) - 10 := by rw [IntKind.wrap_i64]; omega
  have v8 : IntKind.i64.wrap ((Pl.tot (Pl.hon 1 2 3 4) L : Nat) + (d8 : Int)) = (Pl.tot (Pl.hon 1 2 3 4) L : Nat) + (d8 : Int) := by rw [IntKind.wrap_i64]; omega
  have v10 : IntKind.i64.wrap ((Pl.tot (Pl.hon 0 0 1 2) L : Nat) + (d10 : Int)) = (Pl.tot (Pl.hon 0 0 1 2) L : Nat) + (d10 : Int) := by rw [IntKind.wrap_i64]; omega
  have p3i : ((Pl.tot Pl.qck L : Nat) : Int) ≤ ((Pl.tot Pl.qck N : Nat) : Int) := by omega
  clear hM1 hM2 hL hN hqr hb hNL hLd hNd hd8 hd10 hX pr
  have qi := eq4
  rcases (by omega : q = 0 ∨ q = 1 ∨ q = 2 ∨ q = 3) with rfl | rfl | rfl | rfl
  ·
    have z1o := z2 1 (by omega) (by omega)
    have z2o := z2 2 (by omega) (by omega)
    have z3o := z2 3 (by omega) (by omega)
    clear z2
    go_enter Tryd.func6, Tryd.ntmps6
    go_wp2_with fail
    refine (shape_i L HL.out hi).mono ?_
    rintro e w1 ⟨rfl, h1⟩
    go_wp2_with fail
    refine (shape_i N HN.out h1).mono ?_
    rintro e w2 ⟨rfl, h2⟩
    go_wp2_with fail
    have hB : Below w.heap.size w ((w2.alloc (.cells #[.int .i64 (((shp L 0 : Nat) : Int) + 1), .int .i64 (shp L 1 : Nat), .int .i64 (shp L 2 : Nat), .int .i64 (shp L 3 : Nat)] 31)).alloc (.cells #[.int .i64 (((shp L 0 : Nat) : Int) + 1), .int .i64 (shp L 1 : Nat), .int .i64 (shp L 2 : Nat), .int .i64 (shp L 3 : Nat)] 31)) := (h2.below.alloc h2.below.size _).alloc (by have := h2.below.size; simp; omega) _
    have hT : Tabs ((w2.alloc (.cells #[.int .i64 (((shp L 0 : Nat) : Int) + 1), .int .i64 (shp L 1 : Nat), .int .i64 (shp L 2 : Nat), .int .i64 (shp L 3 : Nat)] 31)).alloc (.cells #[.int .i64 (((shp L 0 : Nat) : Int) + 1), .int .i64 (shp L 1 : Nat), .int .i64 (shp L 2 : Nat), .int .i64 (shp L 3 : Nat)] 31)) := h2.tabs.keep (((Below.refl _ _).alloc (Nat.le_refl _) _).alloc (by simp) _)
    generalize hW : (w2.alloc (.cells #[.int .i64 (((shp L 0 : Nat) : Int) + 1), .int .i64 (shp L 1 : Nat), .int .i64 (shp L 2 : Nat), .int .i64 (shp L 3 : Nat)] 31)).alloc (.cells #[.int .i64 (((shp L 0 : Nat) : Int) + 1), .int .i64 (shp L 1 : Nat), .int .i64 (shp L 2 : Nat), .int .i64 (shp L 3 : Nat)] 31) = W at *
    have k00 : W.cell? ⟨w2.heap.size, 0, none⟩ = some (.int .i64 (((shp L 0 : Nat) : Int) + 1)) := by rw [← hW]; simp
    have s00 := Since.cell k00
    have k01 : W.cell? ⟨w2.heap.size, 1, none⟩ = some (.int .i64 (shp L 1 : Nat)) := by rw [← hW]; simp
    have s01 := Since.cell k01
    have k02 : W.cell? ⟨w2.heap.size, 2, none⟩ = some (.int .i64 (shp L 2 : Nat)) := by rw [← hW]; simp
    have s02 := Since.cell k02
    have k03 : W.cell? ⟨w2.heap.size, 3, none⟩ = some (.int .i64 (shp L 3 : Nat)) := by rw [← hW]; simp
    have s03 := Since.cell k03
    have k10 : W.cell? ⟨w2.heap.size + 1, 0, none⟩ = some (.int .i64 (((shp L 0 : Nat) : Int) + 1)) := by rw [← hW]; simp
    have s10 := Since.cell k10
    have k11 : W.cell? ⟨w2.heap.size + 1, 1, none⟩ = some (.int .i64 (shp L 1 : Nat)) := by rw [← hW]; simp
    have s11 := Since.cell k11
    have k12 : W.cell? ⟨w2.heap.size + 1, 2, none⟩ = some (.int .i64 (shp L 2 : Nat)) := by rw [← hW]; simp
    have s12 := Since.cell k12
    have k13 : W.cell? ⟨w2.heap.size + 1, 3, none⟩ = some (.int .i64 (shp L 3 : Nat)) := by rw [← hW]; simp
    have s13 := Since.cell k13
    clear hW h1 h2 ht hi
    refine region_since (by kernel_rfl) (by kernel_rfl) ?_
    repeat (quiet_step ((first
      | (go_at_call 16; exact Calls.since (points_any _ _ (by first | exact HL.out | exact HN.out) (hT.keep (Since.property _))))
      | (go_at_call 17; exact Calls.since (controls_any _ _ (by first | exact HL.out | exact HN.out) (hT.keep (Since.property _))))
      | (go_at_call 19; exact Calls.since (quick_any _ _ (by first | exact HL.out | exact HN.out)))
      | (go_at_call 24; exact Calls.since ((holding_any _ 0 _ (by first | exact HL.out | exact HN.out) (by omega)).mono fun e w' ⟨he, hw⟩ => ⟨he, below_pure hw⟩))
      | (go_at_call 14; exact Calls.since ((awake_i ⟨hT.keep (Since.property _), Below.refl _ _⟩).mono fun e w' ⟨he, hw⟩ => ⟨he, hw.below⟩)))))
    refine wpQuiet_nil ?_
    rintro w' ⟨u, rfl⟩
    go_wp2
    go_ret
    exact ⟨rfl, hB.trans (u.property.mono hB.size)⟩
  ·
    have z0o := z2 0 (by omega) (by omega)
    have z2o := z2 2 (by omega) (by omega)
    have z3o := z2 3 (by omega) (by omega)
    clear z2
    go_enter Tryd.func6, Tryd.ntmps6
    go_wp2_with fail
    refine (shape_i L HL.out hi).mono ?_
    rintro e w1 ⟨rfl, h1⟩
    go_wp2_with fail
    refine (shape_i N HN.out h1).mono ?_
    rintro e w2 ⟨rfl, h2⟩
    go_wp2_with fail
    have hB : Below w.heap.size w ((w2.alloc (.cells #[.int .i64 (shp L 0 : Nat), .int .i64 (((shp L 1 : Nat) : Int) + 1), .int .i64 (shp L 2 : Nat), .int .i64 (shp L 3 : Nat)] 31)).alloc (.cells #[.int .i64 (shp L 0 : Nat), .int .i64 (((shp L 1 : Nat) : Int) + 1), .int .i64 (shp L 2 : Nat), .int .i64 (shp L 3 : Nat)] 31)) := (h2.below.alloc h2.below.size _).alloc (by have := h2.below.size; simp; omega) _
    have hT : Tabs ((w2.alloc (.cells #[.int .i64 (shp L 0 : Nat), .int .i64 (((shp L 1 : Nat) : Int) + 1), .int .i64 (shp L 2 : Nat), .int .i64 (shp L 3 : Nat)] 31)).alloc (.cells #[.int .i64 (shp L 0 : Nat), .int .i64 (((shp L 1 : Nat) : Int) + 1), .int .i64 (shp L 2 : Nat), .int .i64 (shp L 3 : Nat)] 31)) := h2.tabs.keep (((Below.refl _ _).alloc (Nat.le_refl _) _).alloc (by simp) _)
    generalize hW : (w2.alloc (.cells #[.int .i64 (shp L 0 : Nat), .int .i64 (((shp L 1 : Nat) : Int) + 1), .int .i64 (shp L 2 : Nat), .int .i64 (shp L 3 : Nat)] 31)).alloc (.cells #[.int .i64 (shp L 0 : Nat), .int .i64 (((shp L 1 : Nat) : Int) + 1), .int .i64 (shp L 2 : Nat), .int .i64 (shp L 3 : Nat)] 31) = W at *
    have k00 : W.cell? ⟨w2.heap.size, 0, none⟩ = some (.int .i64 (shp L 0 : Nat)) := by rw [← hW]; simp
    have s00 := Since.cell k00
    have k01 : W.cell? ⟨w2.heap.size, 1, none⟩ = some (.int .i64 (((shp L 1 : Nat) : Int) + 1)) := by rw [← hW]; simp
    have s01 := Since.cell k01
    have k02 : W.cell? ⟨w2.heap.size, 2, none⟩ = some (.int .i64 (shp L 2 : Nat)) := by rw [← hW]; simp
    have s02 := Since.cell k02
    have k03 : W.cell? ⟨w2.heap.size, 3, none⟩ = some (.int .i64 (shp L 3 : Nat)) := by rw [← hW]; simp
    have s03 := Since.cell k03
    have k10 : W.cell? ⟨w2.heap.size + 1, 0, none⟩ = some (.int .i64 (shp L 0 : Nat)) := by rw [← hW]; simp
    have s10 := Since.cell k10
    have k11 : W.cell? ⟨w2.heap.size + 1, 1, none⟩ = some (.int .i64 (((shp L 1 : Nat) : Int) + 1)) := by rw [← hW]; simp
    have s11 := Since.cell k11
    have k12 : W.cell? ⟨w2.heap.size + 1, 2, none⟩ = some (.int .i64 (shp L 2 : Nat)) := by rw [← hW]; simp
    have s12 := Since.cell k12
    have k13 : W.cell? ⟨w2.heap.size + 1, 3, none⟩ = some (.int .i64 (shp L 3 : Nat)) := by rw [← hW]; simp
    have s13 := Since.cell k13
    clear hW h1 h2 ht hi
    refine region_since (by kernel_rfl) (by kernel_rfl) ?_
    repeat (quiet_step ((first
      | (go_at_call 16; exact Calls.since (points_any _ _ (by first | exact HL.out | exact HN.out) (hT.keep (Since.property _))))
      | (go_at_call 17; exact Calls.since (controls_any _ _ (by first | exact HL.out | exact HN.out) (hT.keep (Since.property _))))
      | (go_at_call 19; exact Calls.since (quick_any _ _ (by first | exact HL.out | exact HN.out)))
      | (go_at_call 24; exact Calls.since ((holding_any _ 1 _ (by first | exact HL.out | exact HN.out) (by omega)).mono fun e w' ⟨he, hw⟩ => ⟨he, below_pure hw⟩))
      | (go_at_call 14; exact Calls.since ((awake_i ⟨hT.keep (Since.property _), Below.refl _ _⟩).mono fun e w' ⟨he, hw⟩ => ⟨he, hw.below⟩)))))
    refine wpQuiet_nil ?_
    rintro w' ⟨u, rfl⟩
    go_wp2
    go_ret
    exact ⟨rfl, hB.trans (u.property.mono hB.size)⟩
  ·
    have z0o := z2 0 (by omega) (by omega)
    have z1o := z2 1 (by omega) (by omega)
    have z3o := z2 3 (by omega) (by omega)
    clear z2
    go_enter Tryd.func6, Tryd.ntmps6
    go_wp2_with fail
    refine (shape_i L HL.out hi).mono ?_
    rintro e w1 ⟨rfl, h1⟩
    go_wp2_with fail
    refine (shape_i N HN.out h1).mono ?_
    rintro e w2 ⟨rfl, h2⟩
    go_wp2_with fail
    have hB : Below w.heap.size w ((w2.alloc (.cells #[.int .i64 (shp L 0 : Nat), .int .i64 (shp L 1 : Nat), .int .i64 (((shp L 2 : Nat) : Int) + 1), .int .i64 (shp L 3 : Nat)] 31)).alloc (.cells #[.int .i64 (shp L 0 : Nat), .int .i64 (shp L 1 : Nat), .int .i64 (((shp L 2 : Nat) : Int) + 1), .int .i64 (shp L 3 : Nat)] 31)) := (h2.below.alloc h2.below.size _).alloc (by have := h2.below.size; simp; omega) _
    have hT : Tabs ((w2.alloc (.cells #[.int .i64 (shp L 0 : Nat), .int .i64 (shp L 1 : Nat), .int .i64 (((shp L 2 : Nat) : Int) + 1), .int .i64 (shp L 3 : Nat)] 31)).alloc (.cells #[.int .i64 (shp L 0 : Nat), .int .i64 (shp L 1 : Nat), .int .i64 (((shp L 2 : Nat) : Int) + 1), .int .i64 (shp L 3 : Nat)] 31)) := h2.tabs.keep (((Below.refl _ _).alloc (Nat.le_refl _) _).alloc (by simp) _)
    generalize hW : (w2.alloc (.cells #[.int .i64 (shp L 0 : Nat), .int .i64 (shp L 1 : Nat), .int .i64 (((shp L 2 : Nat) : Int) + 1), .int .i64 (shp L 3 : Nat)] 31)).alloc (.cells #[.int .i64 (shp L 0 : Nat), .int .i64 (shp L 1 : Nat), .int .i64 (((shp L 2 : Nat) : Int) + 1), .int .i64 (shp L 3 : Nat)] 31) = W at *
    have k00 : W.cell? ⟨w2.heap.size, 0, none⟩ = some (.int .i64 (shp L 0 : Nat)) := by rw [← hW]; simp
    have s00 := Since.cell k00
    have k01 : W.cell? ⟨w2.heap.size, 1, none⟩ = some (.int .i64 (shp L 1 : Nat)) := by rw [← hW]; simp
    have s01 := Since.cell k01
    have k02 : W.cell? ⟨w2.heap.size, 2, none⟩ = some (.int .i64 (((shp L 2 : Nat) : Int) + 1)) := by rw [← hW]; simp
    have s02 := Since.cell k02
    have k03 : W.cell? ⟨w2.heap.size, 3, none⟩ = some (.int .i64 (shp L 3 : Nat)) := by rw [← hW]; simp
    have s03 := Since.cell k03
    have k10 : W.cell? ⟨w2.heap.size + 1, 0, none⟩ = some (.int .i64 (shp L 0 : Nat)) := by rw [← hW]; simp
    have s10 := Since.cell k10
    have k11 : W.cell? ⟨w2.heap.size + 1, 1, none⟩ = some (.int .i64 (shp L 1 : Nat)) := by rw [← hW]; simp
    have s11 := Since.cell k11
    have k12 : W.cell? ⟨w2.heap.size + 1, 2, none⟩ = some (.int .i64 (((shp L 2 : Nat) : Int) + 1)) := by rw [← hW]; simp
    have s12 := Since.cell k12
    have k13 : W.cell? ⟨w2.heap.size + 1, 3, none⟩ = some (.int .i64 (shp L 3 : Nat)) := by rw [← hW]; simp
    have s13 := Since.cell k13
    clear hW h1 h2 ht hi
    refine region_since (by kernel_rfl) (by kernel_rfl) ?_
    repeat (quiet_step ((first
      | (go_at_call 16; exact Calls.since (points_any _ _ (by first | exact HL.out | exact HN.out) (hT.keep (Since.property _))))
      | (go_at_call 17; exact Calls.since (controls_any _ _ (by first | exact HL.out | exact HN.out) (hT.keep (Since.property _))))
      | (go_at_call 19; exact Calls.since (quick_any _ _ (by first | exact HL.out | exact HN.out)))
      | (go_at_call 24; exact Calls.since ((holding_any _ 2 _ (by first | exact HL.out | exact HN.out) (by omega)).mono fun e w' ⟨he, hw⟩ => ⟨he, below_pure hw⟩))
      | (go_at_call 14; exact Calls.since ((awake_i ⟨hT.keep (Since.property _), Below.refl _ _⟩).mono fun e w' ⟨he, hw⟩ => ⟨he, hw.below⟩)))))
    refine wpQuiet_nil ?_
    rintro w' ⟨u, rfl⟩
    go_wp2
    go_ret
    exact ⟨rfl, hB.trans (u.property.mono hB.size)⟩
  ·
    have z0o := z2 0 (by omega) (by omega)
    have z1o := z2 1 (by omega) (by omega)
    have z2o := z2 2 (by omega) (by omega)
    clear z2
    go_enter Tryd.func6, Tryd.ntmps6
    go_wp2_with fail
    refine (shape_i L HL.out hi).mono ?_
    rintro e w1 ⟨rfl, h1⟩
    go_wp2_with fail
    refine (shape_i N HN.out h1).mono ?_
    rintro e w2 ⟨rfl, h2⟩
    go_wp2_with fail
    have hB : Below w.heap.size w ((w2.alloc (.cells #[.int .i64 (shp L 0 : Nat), .int .i64 (shp L 1 : Nat), .int .i64 (shp L 2 : Nat), .int .i64 (((shp L 3 : Nat) : Int) + 1)] 31)).alloc (.cells #[.int .i64 (shp L 0 : Nat), .int .i64 (shp L 1 : Nat), .int .i64 (shp L 2 : Nat), .int .i64 (((shp L 3 : Nat) : Int) + 1)] 31)) := (h2.below.alloc h2.below.size _).alloc (by have := h2.below.size; simp; omega) _
    have hT : Tabs ((w2.alloc (.cells #[.int .i64 (shp L 0 : Nat), .int .i64 (shp L 1 : Nat), .int .i64 (shp L 2 : Nat), .int .i64 (((shp L 3 : Nat) : Int) + 1)] 31)).alloc (.cells #[.int .i64 (shp L 0 : Nat), .int .i64 (shp L 1 : Nat), .int .i64 (shp L 2 : Nat), .int .i64 (((shp L 3 : Nat) : Int) + 1)] 31)) := h2.tabs.keep (((Below.refl _ _).alloc (Nat.le_refl _) _).alloc (by simp) _)
    generalize hW : (w2.alloc (.cells #[.int .i64 (shp L 0 : Nat), .int .i64 (shp L 1 : Nat), .int .i64 (shp L 2 : Nat), .int .i64 (((shp L 3 : Nat) : Int) + 1)] 31)).alloc (.cells #[.int .i64 (shp L 0 : Nat), .int .i64 (shp L 1 : Nat), .int .i64 (shp L 2 : Nat), .int .i64 (((shp L 3 : Nat) : Int) + 1)] 31) = W at *
    have k00 : W.cell? ⟨w2.heap.size, 0, none⟩ = some (.int .i64 (shp L 0 : Nat)) := by rw [← hW]; simp
    have s00 := Since.cell k00
    have k01 : W.cell? ⟨w2.heap.size, 1, none⟩ = some (.int .i64 (shp L 1 : Nat)) := by rw [← hW]; simp
    have s01 := Since.cell k01
    have k02 : W.cell? ⟨w2.heap.size, 2, none⟩ = some (.int .i64 (shp L 2 : Nat)) := by rw [← hW]; simp
    have s02 := Since.cell k02
    have k03 : W.cell? ⟨w2.heap.size, 3, none⟩ = some (.int .i64 (((shp L 3 : Nat) : Int) + 1)) := by rw [← hW]; simp
    have s03 := Since.cell k03
    have k10 : W.cell? ⟨w2.heap.size + 1, 0, none⟩ = some (.int .i64 (shp L 0 : Nat)) := by rw [← hW]; simp
    have s10 := Since.cell k10
    have k11 : W.cell? ⟨w2.heap.size + 1, 1, none⟩ = some (.int .i64 (shp L 1 : Nat)) := by rw [← hW]; simp
    have s11 := Since.cell k11
    have k12 : W.cell? ⟨w2.heap.size + 1, 2, none⟩ = some (.int .i64 (shp L 2 : Nat)) := by rw [← hW]; simp
    have s12 := Since.cell k12
    have k13 : W.cell? ⟨w2.heap.size + 1, 3, none⟩ = some (.int .i64 (((shp L 3 : Nat) : Int) + 1)) := by rw [← hW]; simp
    have s13 := Since.cell k13
    clear hW h1 h2 ht hi
    refine region_since (by kernel_rfl) (by kernel_rfl) ?_
    repeat (quiet_step ((first
      | (go_at_call 16; exact Calls.since (points_any _ _ (by first | exact HL.out | exact HN.out) (hT.keep (Since.property _))))
      | (go_at_call 17; exact Calls.since (controls_any _ _ (by first | exact HL.out | exact HN.out) (hT.keep (Since.property _))))
      | (go_at_call 19; exact Calls.since (quick_any _ _ (by first | exact HL.out | exact HN.out)))
      | (go_at_call 24; exact Calls.since ((holding_any _ 3 _ (by first | exact HL.out | exact HN.out) (by omega)).mono fun e w' ⟨he, hw⟩ => ⟨he, below_pure hw⟩))
      | (go_at_call 14; exact Calls.since ((awake_i ⟨hT.keep (Since.property _), Below.refl _ _⟩).mono fun e w' ⟨he, hw⟩ => ⟨he, hw.below⟩)))))
    refine wpQuiet_nil ?_
    rintro w' ⟨u, rfl⟩
    go_wp2
    go_ret
    exact ⟨rfl, hB.trans (u.property.mono hB.size)⟩

end Go.Proofs.YtdebhdjcacojeaaDoor
