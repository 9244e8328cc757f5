/- awake of finesselaw30. -/
import Derived.Test.YtidpfggikighlaaDoorEP
import Derived.Test.YtidpfggikighlaaDoorHT
namespace Go.Proofs.YtidpfggikighlaaDoor
open Go Go.RowKit

theorem al_lt (w : World) (o : Obj) : w.heap.size < (w.alloc o).heap.size := by rw [size_al]; exact Nat.lt_succ_self _
theorem rs4 (w : World) (a b c d : List UInt8) : RS (w.alloc (.cells #[strV a, strV b, strV c, strV d] 9)) (.slice (some ⟨w.heap.size, 0, none⟩) 4 4) [a, b, c, d] :=
  RS.some_ w.heap.size 0 4 [a, b, c, d] (al_lt _ _) (fun i u hj => by
    rw [Nat.zero_add]
    exact (Blk.new w 9 #[strV a, strV b, strV c, strV d]).cell (by
      match i, hj with
      | 0, hj => cases hj; rfl
      | 1, hj => cases hj; rfl
      | 2, hj => cases hj; rfl
      | 3, hj => cases hj; rfl))
theorem RS.int {w : World} {v : Value} {l : List (List UInt8)} {a : Addr} {k : IntKind} {x : Int} (h : RS w v l) (hz : w.cell? a = some (.int k x)) (u : Value) : RS (w.setCell a u) v l := by
  cases h with
  | none_ => exact .none_
  | some_ b o cap l hlt h => exact .some_ b o cap l (by simpa using hlt) (fun i r hi => by
      rw [World.cell?_setCell_other _ _ _ _ (fun e => by have h9 := h i r hi; rw [← e, hz] at h9; simp [strV] at h9)]
      exact h i r hi)
set_option maxRecDepth 100000 in
set_option maxHeartbeats 4000000 in
theorem awake_any (w : World) (he : Env w) : Calls Tryd.prog 11 #[] w (fun e w' => e = .returned (.bool true) ∧ Below w.heap.size w w') := by
  have HE := Lib.hid he
  clear he
  have TO := Lib.hid (fun wx g c (hb : Below w.heap.size w wx) (h : wx.ownsRow w.heap.size 45 5 (.slice (some ⟨g, 0, none⟩) 9 c) 9 (rv exRows)) => text_any exM _ wx (HE.out.keep hb) (ex_mv h))
  have P6 := Lib.hid (fun wx g c (hb : Below w.heap.size w wx) (h : wx.ownsRow w.heap.size 45 5 (.slice (some ⟨g, 0, none⟩) 9 c) 9 (rv exRows)) => pair_any exM _ 6 (by constructor <;> decide) wx (HE.out.keep hb) (ex_mv h))
  have T1 := Lib.hid (fun wx g c (hb : Below w.heap.size w wx) (h : wx.ownsRow w.heap.size 45 5 (.slice (some ⟨g, 0, none⟩) 9 c) 9 (rv exRows)) => table_any exM _ 1 (by constructor <;> decide) wx (HE.out.keep hb) (ex_mv h))
  have P9 := Lib.hid (fun wx g c (hb : Below w.heap.size w wx) (h : wx.ownsRow w.heap.size 45 5 (.slice (some ⟨g, 0, none⟩) 9 c) 9 (rv exRows)) => pair_any exM _ 9 (by constructor <;> decide) wx (HE.out.keep hb) (ex_mv h))
  have P2 := Lib.hid (fun wx g c (hb : Below w.heap.size w wx) (h : wx.ownsRow w.heap.size 45 5 (.slice (some ⟨g, 0, none⟩) 9 c) 9 (rv exRows2)) => pair_any exM2 _ 2 (by constructor <;> decide) wx (HE.out.keep hb) (ex_mv2 h))
  rw [ex_text.2.2.2] at TO
  rw [ex_six.2] at P6
  rw [ex_one.2] at T1
  rw [ex_nine.2] at P9
  rw [ex_two.2.2.2] at P2
  obtain ⟨LT, hLT⟩ : ∃ l, textO exM = l := ⟨_, rfl⟩
  obtain ⟨LP, hLP⟩ : ∃ l, pairO exM2 2 = l := ⟨_, rfl⟩
  have XT := ex_text
  have XP := ex_two
  rw [hLT] at TO XT
  rw [hLP] at P2 XP
  rw [ex_six.1] at P6
  rw [ex_one.1] at T1
  rw [ex_nine.1] at P9
  have HT := Lib.hid XT
  have HP := Lib.hid XP
  clear hLT hLP XT XP
  unfold mvV at TO P6 T1 P9 P2
  simp only [exM, exM2] at TO P6 T1 P9 P2
  go_enter Tryd.func11, Tryd.ntmps11
  go_wp2_with fail
  refine (example_any w).mono ?_
  rintro e w1 ⟨v, rfl, ho, hb⟩
  obtain ⟨g, c, rfl, hg, hc⟩ := own_some ho (by omega)
  clear hc
  unfold mvV
  simp only [exM]
  go_upto_region 2 with fail
  have HB2 := Lib.hid (Blk.new w1 24 #[.int .i64 3, .int .i64 3, .int .i64 3, .int .i64 1, .int .i64 2, .slice (some ⟨g, 0, none⟩) 9 c])
  have O2 := Lib.hid (ho.alloc (.cells #[.int .i64 3, .int .i64 3, .int .i64 3, .int .i64 1, .int .i64 2, .slice (some ⟨g, 0, none⟩) 9 c] 24))
  have B2 := Lib.hid (bchain hb (below1 w1 (.cells #[.int .i64 3, .int .i64 3, .int .i64 3, .int .i64 1, .int .i64 2, .slice (some ⟨g, 0, none⟩) 9 c] 24)))
  have HGM : Hid (w.heap.size ≤ g ∧ g < w1.heap.size ∧ w.heap.size ≤ w1.heap.size) := Lib.hid ⟨hg, (mr_of_own ho).1, hb.size⟩
  clear ho hb hg
  generalize w1.alloc (.cells #[.int .i64 3, .int .i64 3, .int .i64 3, .int .i64 1, .int .i64 2, .slice (some ⟨g, 0, none⟩) 9 c] 24) = w2 at *
  obtain ⟨mb, hmb⟩ : ∃ mb, w1.heap.size = mb := ⟨_, rfl⟩
  rw [hmb] at HB2 HGM ⊢
  clear hmb
  have x0 := HB2.out.cell (j := 0) (v := .int .i64 3) rfl
  have x1 := HB2.out.cell (j := 1) (v := .int .i64 3) rfl
  have x2 := HB2.out.cell (j := 2) (v := .int .i64 3) rfl
  have x3 := HB2.out.cell (j := 3) (v := .int .i64 1) rfl
  have x4 := HB2.out.cell (j := 4) (v := .int .i64 2) rfl
  have x5 := HB2.out.cell (j := 5) (v := .slice (some ⟨g, 0, none⟩) 9 c) rfl
  go_wp2_with fail
  refine (TO.out _ _ _ B2.out O2.out).mono ?_
  rintro e w3 ⟨v2, rfl, hr, hb⟩
  have B3 := Lib.hid (bchain B2.out hb)
  have HB3 := Lib.hid (HB2.out.keep hb HB2.out.lt)
  have O3 := Lib.hid (own_keep O2.out hb)
  have R2 := Lib.hid hr
  clear hr hb B2 HB2 O2 x0 x1 x2 x3 x4 x5 TO
  go_upto_region 3 with fail
  have x0 := HB3.out.cell (j := 0) (v := .int .i64 3) rfl
  have x1 := HB3.out.cell (j := 1) (v := .int .i64 3) rfl
  have x2 := HB3.out.cell (j := 2) (v := .int .i64 3) rfl
  have x3 := HB3.out.cell (j := 3) (v := .int .i64 1) rfl
  have x4 := HB3.out.cell (j := 4) (v := .int .i64 2) rfl
  have x5 := HB3.out.cell (j := 5) (v := .slice (some ⟨g, 0, none⟩) 9 c) rfl
  go_wp2_with fail
  refine (P6.out _ _ _ B3.out O3.out).mono ?_
  rintro e w4 ⟨v3, rfl, hr, hb⟩
  have B4 := Lib.hid (bchain B3.out hb)
  have HB4 := Lib.hid (HB3.out.keep hb HB3.out.lt)
  have O4 := Lib.hid (own_keep O3.out hb)
  replace R2 := Lib.hid (R2.out.keep hb)
  have R3 := Lib.hid hr
  clear hr hb B3 HB3 O3 x0 x1 x2 x3 x4 x5 P6
  go_upto_region 4 with fail
  have x0 := HB4.out.cell (j := 0) (v := .int .i64 3) rfl
  have x1 := HB4.out.cell (j := 1) (v := .int .i64 3) rfl
  have x2 := HB4.out.cell (j := 2) (v := .int .i64 3) rfl
  have x3 := HB4.out.cell (j := 3) (v := .int .i64 1) rfl
  have x4 := HB4.out.cell (j := 4) (v := .int .i64 2) rfl
  have x5 := HB4.out.cell (j := 5) (v := .slice (some ⟨g, 0, none⟩) 9 c) rfl
  go_wp2_with fail
  refine (T1.out _ _ _ B4.out O4.out).mono ?_
  rintro e w5 ⟨v4, rfl, hr, hb⟩
  have B5 := Lib.hid (bchain B4.out hb)
  have HB5 := Lib.hid (HB4.out.keep hb HB4.out.lt)
  have O5 := Lib.hid (own_keep O4.out hb)
  replace R2 := Lib.hid (R2.out.keep hb)
  replace R3 := Lib.hid (R3.out.keep hb)
  have R4 := Lib.hid hr
  clear hr hb B4 HB4 O4 x0 x1 x2 x3 x4 x5 T1
  go_upto_region 5 with fail
  have x0 := HB5.out.cell (j := 0) (v := .int .i64 3) rfl
  have x1 := HB5.out.cell (j := 1) (v := .int .i64 3) rfl
  have x2 := HB5.out.cell (j := 2) (v := .int .i64 3) rfl
  have x3 := HB5.out.cell (j := 3) (v := .int .i64 1) rfl
  have x4 := HB5.out.cell (j := 4) (v := .int .i64 2) rfl
  have x5 := HB5.out.cell (j := 5) (v := .slice (some ⟨g, 0, none⟩) 9 c) rfl
  go_wp2_with fail
  refine (P9.out _ _ _ B5.out O5.out).mono ?_
  rintro e w6 ⟨v5, rfl, hr, hb⟩
  have B6 := Lib.hid (bchain B5.out hb)
  have HB6 := Lib.hid (HB5.out.keep hb HB5.out.lt)
  have O6 := Lib.hid (own_keep O5.out hb)
  replace R2 := Lib.hid (R2.out.keep hb)
  replace R3 := Lib.hid (R3.out.keep hb)
  replace R4 := Lib.hid (R4.out.keep hb)
  have R5 := Lib.hid hr
  clear hr hb B5 HB5 O5 x0 x1 x2 x3 x4 x5 P9
  go_upto_region 6 with fail
  have x5 := HB6.out.cell (j := 5) (v := .slice (some ⟨g, 0, none⟩) 9 c) rfl
  have z1 : w6.cell? ⟨g, 8, none⟩ = some (.int .i64 5) := O6.out.cellAt 8 (by omega)
  have z2 : w6.cell? ⟨g, 18, none⟩ = some (.int .i64 5) := O6.out.cellAt 18 (by omega)
  have z3 : w6.cell? ⟨g, 43, none⟩ = some (.int .i64 5) := O6.out.cellAt 43 (by omega)
  have f1 : w6.frozen? ⟨g, 8, none⟩ = false := O6.out.frozenAt 8
  have f2 : w6.frozen? ⟨g, 18, none⟩ = false := O6.out.frozenAt 18
  have f3 : w6.frozen? ⟨g, 43, none⟩ = false := O6.out.frozenAt 43
  go_region
  go_upto_region 7 with fail
  have hgm : g ≠ mb ∧ w.heap.size ≤ g := by have := HGM.out; omega
  have z2' : (w6.setCell ⟨g, 8, none⟩ (.int .i64 0)).cell? ⟨g, 18, none⟩ = some (.int .i64 5) := by rw [World.cell?_setCell_other _ _ _ _ (by simp)]; exact z2
  have z3' : ((w6.setCell ⟨g, 8, none⟩ (.int .i64 0)).setCell ⟨g, 18, none⟩ (.int .i64 0)).cell? ⟨g, 43, none⟩ = some (.int .i64 5) := by rw [World.cell?_setCell_other _ _ _ _ (by simp), World.cell?_setCell_other _ _ _ _ (by simp)]; exact z3
  have O7 : Hid ((((w6.setCell ⟨g, 8, none⟩ (.int .i64 0)).setCell ⟨g, 18, none⟩ (.int .i64 0)).setCell ⟨g, 43, none⟩ (.int .i64 0)).drew.ownsRow w.heap.size 45 5 (.slice (some ⟨g, 0, none⟩) 9 c) 9 (rv exRows2)) := Lib.hid (((((O6.out.stored 8 (.int .i64 0)).1.stored 18 (.int .i64 0)).1.stored 43 (.int .i64 0)).1))
  have B7 := Lib.hid ((((B6.out.setCell (p := ⟨g, 8, none⟩) hgm.2 (.int .i64 0)).setCell (p := ⟨g, 18, none⟩) hgm.2 (.int .i64 0)).setCell (p := ⟨g, 43, none⟩) hgm.2 (.int .i64 0)).drew)
  have hb3 := ((HB6.out.other hgm.1.symm 8 (.int .i64 0)).other hgm.1.symm 18 (.int .i64 0)).other hgm.1.symm 43 (.int .i64 0)
  have HB7 := Lib.hid (hb3.keep (Below.drew (Below.refl _ _)) hb3.lt)
  replace R2 := Lib.hid (RS.keep (((R2.out.int z1 (.int .i64 0)).int z2' (.int .i64 0)).int z3' (.int .i64 0)) (Below.drew (Below.refl _ _)))
  replace R3 := Lib.hid (RS.keep (((R3.out.int z1 (.int .i64 0)).int z2' (.int .i64 0)).int z3' (.int .i64 0)) (Below.drew (Below.refl _ _)))
  replace R4 := Lib.hid (RS.keep (((R4.out.int z1 (.int .i64 0)).int z2' (.int .i64 0)).int z3' (.int .i64 0)) (Below.drew (Below.refl _ _)))
  replace R5 := Lib.hid (RS.keep (((R5.out.int z1 (.int .i64 0)).int z2' (.int .i64 0)).int z3' (.int .i64 0)) (Below.drew (Below.refl _ _)))
  clear x5 z1 z2 z3 z2' z3' f1 f2 f3 hgm hb3 O6 B6 HB6
  generalize (((w6.setCell ⟨g, 8, none⟩ (.int .i64 0)).setCell ⟨g, 18, none⟩ (.int .i64 0)).setCell ⟨g, 43, none⟩ (.int .i64 0)).drew = w7 at *
  have x0 := HB7.out.cell (j := 0) (v := .int .i64 3) rfl
  have x1 := HB7.out.cell (j := 1) (v := .int .i64 3) rfl
  have x2 := HB7.out.cell (j := 2) (v := .int .i64 3) rfl
  have x3 := HB7.out.cell (j := 3) (v := .int .i64 1) rfl
  have x4 := HB7.out.cell (j := 4) (v := .int .i64 2) rfl
  have x5 := HB7.out.cell (j := 5) (v := .slice (some ⟨g, 0, none⟩) 9 c) rfl
  go_wp2_with fail
  refine (P2.out _ _ _ B7.out O7.out).mono ?_
  rintro e w8 ⟨v7, rfl, hr, hb⟩
  have B8 := Lib.hid (bchain B7.out hb)
  have HB8 := Lib.hid (HB7.out.keep hb HB7.out.lt)
  have O8 := Lib.hid (own_keep O7.out hb)
  replace R2 := Lib.hid (R2.out.keep hb)
  replace R3 := Lib.hid (R3.out.keep hb)
  replace R4 := Lib.hid (R4.out.keep hb)
  replace R5 := Lib.hid (R5.out.keep hb)
  have R7 := Lib.hid hr
  clear hr hb B7 HB7 O7 x0 x1 x2 x3 x4 x5 P2
  go_upto_region 8 with fail
  clear HB8 O8
  obtain ⟨A1, k1, rfl⟩ := R2.out.len
  obtain ⟨b1, o1, rfl, y0⟩ := R2.out.at HT.out.2.1
  obtain ⟨b2, o2, hh, y1⟩ := R2.out.at HT.out.2.2.1
  simp only [Option.some.injEq, Addr.mk.injEq, and_true] at hh
  obtain ⟨rfl, rfl⟩ := hh
  obtain ⟨A2, k2, rfl⟩ := R7.out.len
  obtain ⟨b2, o2, rfl, y2⟩ := R7.out.at HP.out.2.1
  obtain ⟨b3, o3, hh, y3⟩ := R7.out.at HP.out.2.2.1
  simp only [Option.some.injEq, Addr.mk.injEq, and_true] at hh
  obtain ⟨rfl, rfl⟩ := hh
  rw [HT.out.1, HP.out.1]
  clear R2 R7
  rw [Nat.add_zero] at y0 y2
  replace y0 : w8.cell? ⟨b1, o1, none⟩ = some (.string ⟨#[109, 111, 118, 101, 109, 101, 110, 116, 32, 51, 32, 51, 32, 51, 32, 49, 32, 50]⟩) := y0
  replace y1 : w8.cell? ⟨b1, o1 + 1, none⟩ = some (.string ⟨#[114, 111, 119, 32, 48, 32, 48, 32, 49, 32, 52, 32, 48]⟩) := y1
  replace y2 : w8.cell? ⟨b2, o2, none⟩ = some (.string ⟨#[112, 97, 105, 114, 32, 50]⟩) := y2
  replace y3 : w8.cell? ⟨b2, o2 + 1, none⟩ = some (.string ⟨#[114, 111, 117, 110, 100, 32, 48, 32, 116, 97, 98, 108, 101, 32, 49, 32, 78, 83, 32, 97, 108, 111, 110, 101]⟩) := y3
  go_upto_region 10 with fail
  clear y0 y1 y2 y3
  have N8 : Hid (RS (w8.alloc (.cells #[.string ⟨#[112, 97, 105, 114, 32, 54]⟩, .string ⟨#[114, 111, 117, 110, 100, 32, 48, 32, 116, 97, 98, 108, 101, 32, 50, 32, 69, 87, 32, 97, 103, 97, 105, 110, 115, 116, 32, 51, 32, 115, 101, 116, 32, 50]⟩, .string ⟨#[114, 111, 117, 110, 100, 32, 49, 32, 116, 97, 98, 108, 101, 32, 49, 32, 69, 87, 32, 97, 103, 97, 105, 110, 115, 116, 32, 50, 32, 115, 101, 116, 32, 48]⟩, .string ⟨#[114, 111, 117, 110, 100, 32, 50, 32, 116, 97, 98, 108, 101, 32, 48, 32, 69, 87, 32, 97, 103, 97, 105, 110, 115, 116, 32, 49, 32, 115, 101, 116, 32, 49]⟩] 9)) (.slice (some ⟨w8.heap.size, 0, none⟩) 4 4) [[112, 97, 105, 114, 32, 54], [114, 111, 117, 110, 100, 32, 48, 32, 116, 97, 98, 108, 101, 32, 50, 32, 69, 87, 32, 97, 103, 97, 105, 110, 115, 116, 32, 51, 32, 115, 101, 116, 32, 50], [114, 111, 117, 110, 100, 32, 49, 32, 116, 97, 98, 108, 101, 32, 49, 32, 69, 87, 32, 97, 103, 97, 105, 110, 115, 116, 32, 50, 32, 115, 101, 116, 32, 48], [114, 111, 117, 110, 100, 32, 50, 32, 116, 97, 98, 108, 101, 32, 48, 32, 69, 87, 32, 97, 103, 97, 105, 110, 115, 116, 32, 49, 32, 115, 101, 116, 32, 49]]) := Lib.hid (rs4 w8 [112, 97, 105, 114, 32, 54] [114, 111, 117, 110, 100, 32, 48, 32, 116, 97, 98, 108, 101, 32, 50, 32, 69, 87, 32, 97, 103, 97, 105, 110, 115, 116, 32, 51, 32, 115, 101, 116, 32, 50] [114, 111, 117, 110, 100, 32, 49, 32, 116, 97, 98, 108, 101, 32, 49, 32, 69, 87, 32, 97, 103, 97, 105, 110, 115, 116, 32, 50, 32, 115, 101, 116, 32, 48] [114, 111, 117, 110, 100, 32, 50, 32, 116, 97, 98, 108, 101, 32, 48, 32, 69, 87, 32, 97, 103, 97, 105, 110, 115, 116, 32, 49, 32, 115, 101, 116, 32, 49])
  have M8 := Lib.hid (sameTexts_any _ _ _ (by simp) _ (by have h := R3.out.keep (below1 w8 (.cells #[.string ⟨#[112, 97, 105, 114, 32, 54]⟩, .string ⟨#[114, 111, 117, 110, 100, 32, 48, 32, 116, 97, 98, 108, 101, 32, 50, 32, 69, 87, 32, 97, 103, 97, 105, 110, 115, 116, 32, 51, 32, 115, 101, 116, 32, 50]⟩, .string ⟨#[114, 111, 117, 110, 100, 32, 49, 32, 116, 97, 98, 108, 101, 32, 49, 32, 69, 87, 32, 97, 103, 97, 105, 110, 115, 116, 32, 50, 32, 115, 101, 116, 32, 48]⟩, .string ⟨#[114, 111, 117, 110, 100, 32, 50, 32, 116, 97, 98, 108, 101, 32, 48, 32, 69, 87, 32, 97, 103, 97, 105, 110, 115, 116, 32, 49, 32, 115, 101, 116, 32, 49]⟩] 9)); exact h) N8.out)
  go_wp2_with fail
  refine M8.out.mono ?_
  rintro e w9 ⟨rfl, hb⟩
  have B9 := Lib.hid (bchain B8.out (bchain (below1 w8 (.cells #[.string ⟨#[112, 97, 105, 114, 32, 54]⟩, .string ⟨#[114, 111, 117, 110, 100, 32, 48, 32, 116, 97, 98, 108, 101, 32, 50, 32, 69, 87, 32, 97, 103, 97, 105, 110, 115, 116, 32, 51, 32, 115, 101, 116, 32, 50]⟩, .string ⟨#[114, 111, 117, 110, 100, 32, 49, 32, 116, 97, 98, 108, 101, 32, 49, 32, 69, 87, 32, 97, 103, 97, 105, 110, 115, 116, 32, 50, 32, 115, 101, 116, 32, 48]⟩, .string ⟨#[114, 111, 117, 110, 100, 32, 50, 32, 116, 97, 98, 108, 101, 32, 48, 32, 69, 87, 32, 97, 103, 97, 105, 110, 115, 116, 32, 49, 32, 115, 101, 116, 32, 49]⟩] 9)) hb))
  replace R4 := Lib.hid ((R4.out.keep (below1 w8 (.cells #[.string ⟨#[112, 97, 105, 114, 32, 54]⟩, .string ⟨#[114, 111, 117, 110, 100, 32, 48, 32, 116, 97, 98, 108, 101, 32, 50, 32, 69, 87, 32, 97, 103, 97, 105, 110, 115, 116, 32, 51, 32, 115, 101, 116, 32, 50]⟩, .string ⟨#[114, 111, 117, 110, 100, 32, 49, 32, 116, 97, 98, 108, 101, 32, 49, 32, 69, 87, 32, 97, 103, 97, 105, 110, 115, 116, 32, 50, 32, 115, 101, 116, 32, 48]⟩, .string ⟨#[114, 111, 117, 110, 100, 32, 50, 32, 116, 97, 98, 108, 101, 32, 48, 32, 69, 87, 32, 97, 103, 97, 105, 110, 115, 116, 32, 49, 32, 115, 101, 116, 32, 49]⟩] 9))).keep hb)
  replace R5 := Lib.hid ((R5.out.keep (below1 w8 (.cells #[.string ⟨#[112, 97, 105, 114, 32, 54]⟩, .string ⟨#[114, 111, 117, 110, 100, 32, 48, 32, 116, 97, 98, 108, 101, 32, 50, 32, 69, 87, 32, 97, 103, 97, 105, 110, 115, 116, 32, 51, 32, 115, 101, 116, 32, 50]⟩, .string ⟨#[114, 111, 117, 110, 100, 32, 49, 32, 116, 97, 98, 108, 101, 32, 49, 32, 69, 87, 32, 97, 103, 97, 105, 110, 115, 116, 32, 50, 32, 115, 101, 116, 32, 48]⟩, .string ⟨#[114, 111, 117, 110, 100, 32, 50, 32, 116, 97, 98, 108, 101, 32, 48, 32, 69, 87, 32, 97, 103, 97, 105, 110, 115, 116, 32, 49, 32, 115, 101, 116, 32, 49]⟩] 9))).keep hb)
  clear hb N8 M8 R3 B8
  have N9 : Hid (RS (w9.alloc (.cells #[.string ⟨#[116, 97, 98, 108, 101, 32, 49]⟩, .string ⟨#[114, 111, 117, 110, 100, 32, 48, 32, 78, 83, 32, 50, 32, 69, 87, 32, 53, 32, 115, 101, 116, 32, 49]⟩, .string ⟨#[114, 111, 117, 110, 100, 32, 49, 32, 78, 83, 32, 50, 32, 69, 87, 32, 54, 32, 115, 101, 116, 32, 48]⟩, .string ⟨#[114, 111, 117, 110, 100, 32, 50, 32, 78, 83, 32, 50, 32, 69, 87, 32, 52, 32, 115, 101, 116, 32, 50]⟩] 9)) (.slice (some ⟨w9.heap.size, 0, none⟩) 4 4) [[116, 97, 98, 108, 101, 32, 49], [114, 111, 117, 110, 100, 32, 48, 32, 78, 83, 32, 50, 32, 69, 87, 32, 53, 32, 115, 101, 116, 32, 49], [114, 111, 117, 110, 100, 32, 49, 32, 78, 83, 32, 50, 32, 69, 87, 32, 54, 32, 115, 101, 116, 32, 48], [114, 111, 117, 110, 100, 32, 50, 32, 78, 83, 32, 50, 32, 69, 87, 32, 52, 32, 115, 101, 116, 32, 50]]) := Lib.hid (rs4 w9 [116, 97, 98, 108, 101, 32, 49] [114, 111, 117, 110, 100, 32, 48, 32, 78, 83, 32, 50, 32, 69, 87, 32, 53, 32, 115, 101, 116, 32, 49] [114, 111, 117, 110, 100, 32, 49, 32, 78, 83, 32, 50, 32, 69, 87, 32, 54, 32, 115, 101, 116, 32, 48] [114, 111, 117, 110, 100, 32, 50, 32, 78, 83, 32, 50, 32, 69, 87, 32, 52, 32, 115, 101, 116, 32, 50])
  have M9 := Lib.hid (sameTexts_any _ _ _ (by simp) _ (by have h := R4.out.keep (below1 w9 (.cells #[.string ⟨#[116, 97, 98, 108, 101, 32, 49]⟩, .string ⟨#[114, 111, 117, 110, 100, 32, 48, 32, 78, 83, 32, 50, 32, 69, 87, 32, 53, 32, 115, 101, 116, 32, 49]⟩, .string ⟨#[114, 111, 117, 110, 100, 32, 49, 32, 78, 83, 32, 50, 32, 69, 87, 32, 54, 32, 115, 101, 116, 32, 48]⟩, .string ⟨#[114, 111, 117, 110, 100, 32, 50, 32, 78, 83, 32, 50, 32, 69, 87, 32, 52, 32, 115, 101, 116, 32, 50]⟩] 9)); exact h) N9.out)
  go_wp2_with fail
  refine M9.out.mono ?_
  rintro e w10 ⟨rfl, hb⟩
  have B10 := Lib.hid (bchain B9.out (bchain (below1 w9 (.cells #[.string ⟨#[116, 97, 98, 108, 101, 32, 49]⟩, .string ⟨#[114, 111, 117, 110, 100, 32, 48, 32, 78, 83, 32, 50, 32, 69, 87, 32, 53, 32, 115, 101, 116, 32, 49]⟩, .string ⟨#[114, 111, 117, 110, 100, 32, 49, 32, 78, 83, 32, 50, 32, 69, 87, 32, 54, 32, 115, 101, 116, 32, 48]⟩, .string ⟨#[114, 111, 117, 110, 100, 32, 50, 32, 78, 83, 32, 50, 32, 69, 87, 32, 52, 32, 115, 101, 116, 32, 50]⟩] 9)) hb))
  replace R5 := Lib.hid ((R5.out.keep (below1 w9 (.cells #[.string ⟨#[116, 97, 98, 108, 101, 32, 49]⟩, .string ⟨#[114, 111, 117, 110, 100, 32, 48, 32, 78, 83, 32, 50, 32, 69, 87, 32, 53, 32, 115, 101, 116, 32, 49]⟩, .string ⟨#[114, 111, 117, 110, 100, 32, 49, 32, 78, 83, 32, 50, 32, 69, 87, 32, 54, 32, 115, 101, 116, 32, 48]⟩, .string ⟨#[114, 111, 117, 110, 100, 32, 50, 32, 78, 83, 32, 50, 32, 69, 87, 32, 52, 32, 115, 101, 116, 32, 50]⟩] 9))).keep hb)
  clear hb N9 M9 R4 B9
  have N10 : Hid (RS (w10.alloc (.cells #[.string ⟨#[112, 97, 105, 114, 32, 57]⟩, .string ⟨#[114, 111, 117, 110, 100, 32, 48, 32, 111, 117, 116]⟩, .string ⟨#[114, 111, 117, 110, 100, 32, 49, 32, 111, 117, 116]⟩, .string ⟨#[114, 111, 117, 110, 100, 32, 50, 32, 111, 117, 116]⟩] 9)) (.slice (some ⟨w10.heap.size, 0, none⟩) 4 4) [[112, 97, 105, 114, 32, 57], [114, 111, 117, 110, 100, 32, 48, 32, 111, 117, 116], [114, 111, 117, 110, 100, 32, 49, 32, 111, 117, 116], [114, 111, 117, 110, 100, 32, 50, 32, 111, 117, 116]]) := Lib.hid (rs4 w10 [112, 97, 105, 114, 32, 57] [114, 111, 117, 110, 100, 32, 48, 32, 111, 117, 116] [114, 111, 117, 110, 100, 32, 49, 32, 111, 117, 116] [114, 111, 117, 110, 100, 32, 50, 32, 111, 117, 116])
  have M10 := Lib.hid (sameTexts_any _ _ _ (by simp) _ (by have h := R5.out.keep (below1 w10 (.cells #[.string ⟨#[112, 97, 105, 114, 32, 57]⟩, .string ⟨#[114, 111, 117, 110, 100, 32, 48, 32, 111, 117, 116]⟩, .string ⟨#[114, 111, 117, 110, 100, 32, 49, 32, 111, 117, 116]⟩, .string ⟨#[114, 111, 117, 110, 100, 32, 50, 32, 111, 117, 116]⟩] 9)); exact h) N10.out)
  go_wp2_with fail
  refine M10.out.mono ?_
  rintro e w11 ⟨rfl, hb⟩
  have B11 := Lib.hid (bchain B10.out (bchain (below1 w10 (.cells #[.string ⟨#[112, 97, 105, 114, 32, 57]⟩, .string ⟨#[114, 111, 117, 110, 100, 32, 48, 32, 111, 117, 116]⟩, .string ⟨#[114, 111, 117, 110, 100, 32, 49, 32, 111, 117, 116]⟩, .string ⟨#[114, 111, 117, 110, 100, 32, 50, 32, 111, 117, 116]⟩] 9)) hb))
  clear hb N10 M10 R5 B10
  go_wp2_with fail
  go_ret
  exact ⟨rfl, B11.out⟩
end Go.Proofs.YtidpfggikighlaaDoor
