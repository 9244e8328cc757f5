/- tells of finesselaw30. -/
import Derived.Test.YtidpfggikighlaaDoorGO
import Derived.Test.YtidpfggikighlaaDoorGQ
import Derived.Test.YtidpfggikighlaaDoorGU
import Derived.Test.YtidpfggikighlaaDoorGV
import Derived.Test.YtidpfggikighlaaDoorGW
import Derived.Test.YtidpfggikighlaaDoorGS
namespace Go.Proofs.YtidpfggikighlaaDoor
open Go Go.RowKit

theorem own_mv {w wx : World} {m : Mv} {v : Value} {g : Nat} (h : MV w m v) (hG : LR wx g m.rows) : MV wx m (.slice (some ⟨g, 0, none⟩) m.rows.length (m.rows.length + 12)) := { h with rows := hG.mr }
theorem textO_len (m : Mv) (h : m.rows.length ≤ 60) : (textO m).length ≤ 1000000 := by
  unfold textO textL
  split
  · simp; omega
  · simp
theorem rou_le {m : Mv} (h : fitB m = true) : m.rou.toNat ≤ 47 := by have := fit_head h; omega
theorem pairO_len (m : Mv) (p : Int) : (pairO m p).length ≤ 1000000 := by
  unfold pairO
  split
  · rename_i h
    have := rou_le h
    split
    · simp
    · rw [cardL_len]; omega
  · simp
theorem tableO_len (m : Mv) (p : Int) : (tableO m p).length ≤ 1000000 := by
  unfold tableO
  split
  · rename_i h
    have := rou_le h
    split
    · simp
    · rw [cardL_len]; omega
  · simp
set_option maxRecDepth 100000 in
set_option maxHeartbeats 4000000 in
theorem tells_any (m : Mv) (v : Value) (p t : Int) (hp : inI p) (ht : inI t) (w : World) (he : Env w) (h : MV w m v) : Calls Tryd.prog 10 #[mvV m v, .int .i64 p, .int .i64 t] w (fun e w' => e = .returned (.bool true) ∧ Below w.heap.size w w') := by
  obtain ⟨A, c, rfl⟩ := h.rows.len
  have LM := Lib.hid (fun wx (hb : Below w.heap.size w wx) (hl : m.rows.length ≤ 60) => lentMv_any m _ (by omega) wx (h.rows.keep hb))
  have TO := Lib.hid (fun wx g (hb : Below w.heap.size w wx) (hG : LR wx g m.rows) => text_any m _ wx (he.keep hb) (own_mv h hG))
  have TR := Lib.hid (fun wx (hb : Below w.heap.size w wx) => rtext_walk m _ wx (he.keep hb) (h.keep hb))
  have PO := Lib.hid (fun wx g (hb : Below w.heap.size w wx) (hG : LR wx g m.rows) => pair_any m _ p hp wx (he.keep hb) (own_mv h hG))
  have PR := Lib.hid (fun wx (hb : Below w.heap.size w wx) => rpair_walk m _ p hp wx (he.keep hb) (h.keep hb))
  have BO := Lib.hid (fun wx g (hb : Below w.heap.size w wx) (hG : LR wx g m.rows) => table_any m _ t ht wx (he.keep hb) (own_mv h hG))
  have BR := Lib.hid (fun wx (hb : Below w.heap.size w wx) => rtable_walk m _ t ht wx (he.keep hb) (h.keep hb))
  have S1 := Lib.hid (fun (hl : m.rows.length ≤ 60) v1 v2 wx => sameTexts_any v1 v2 (textO m) (textO_len m hl) wx)
  have S2 := Lib.hid (fun v1 v2 wx => sameTexts_any v1 v2 (pairO m p) (pairO_len m p) wx)
  have S3 := Lib.hid (fun v1 v2 wx => sameTexts_any v1 v2 (tableO m t) (tableO_len m t) wx)
  have KM := Lib.hid (fun wx g (hl : m.rows.length ≤ 60) (hb : Below w.heap.size w wx) (hG : LR wx g m.rows) => keptMv_any m g _ (by omega) wx hG (h.rows.keep hb))
  obtain ⟨N, hN⟩ : ∃ N, m.rows.length = N := ⟨_, rfl⟩
  rw [hN] at LM TO PO BO TR PR BR S1 KM ⊢
  clear h he hN
  have q1 : (textE m == textE m) = true := beq_self_eq_true _
  have q2 : (pairE m p == pairE m p) = true := beq_self_eq_true _
  have q3 : (tableE m t == tableE m t) = true := beq_self_eq_true _
  generalize textE m = te at *
  generalize pairE m p = pe at *
  generalize tableE m t = be at *
  obtain ⟨tl, htl⟩ : ∃ tl, textO m = tl := ⟨_, rfl⟩
  obtain ⟨pl, hpl⟩ : ∃ pl, pairO m p = pl := ⟨_, rfl⟩
  obtain ⟨bl, hbl⟩ : ∃ bl, tableO m t = bl := ⟨_, rfl⟩
  rw [htl] at TO TR S1
  rw [hpl] at PO PR S2
  rw [hbl] at BO BR S3
  clear htl hpl hbl
  unfold mvV at LM TO PO BO TR PR BR KM ⊢
  go_enter Tryd.func10, Tryd.ntmps10
  have B0 := Lib.hid (below1 w (.cells #[.int .i64 m.tab, .int .i64 m.rou, .int .i64 m.set, .int .i64 m.cop, .int .i64 m.win, .slice A N c] 24))
  have HB0 := Lib.hid (Blk.new w 24 #[.int .i64 m.tab, .int .i64 m.rou, .int .i64 m.set, .int .i64 m.cop, .int .i64 m.win, .slice A N c])
  go_upto_region 1 with fail
  obtain ⟨mb, hmb⟩ : ∃ mb, w.heap.size = mb := ⟨_, rfl⟩
  generalize w.alloc (.cells #[.int .i64 m.tab, .int .i64 m.rou, .int .i64 m.set, .int .i64 m.cop, .int .i64 m.win, .slice A N c] 24) = w0 at *
  rw [hmb] at HB0 ⊢
  have HMB := Lib.hid hmb
  clear hmb
  have x5 := HB0.out.cell (j := 5) (v := .slice A N c) rfl
  by_cases hc : 60 < N
  · have c1 : decide ((60 : Int) < (N : Int)) = true := decide_eq_true (by omega)
    go_wp2_with fail
    go_ret
    exact ⟨rfl, B0.out⟩
  have c1 : decide ((60 : Int) < (N : Int)) = false := decide_eq_false (by omega)
  have hl : N ≤ 60 := by omega
  have HL := Lib.hid hl
  go_upto_region 3 with fail
  clear x5 c1 hc hl
  have x0 := HB0.out.cell (j := 0) (v := .int .i64 m.tab) rfl
  have x1 := HB0.out.cell (j := 1) (v := .int .i64 m.rou) rfl
  have x2 := HB0.out.cell (j := 2) (v := .int .i64 m.set) rfl
  have x3 := HB0.out.cell (j := 3) (v := .int .i64 m.cop) rfl
  have x4 := HB0.out.cell (j := 4) (v := .int .i64 m.win) rfl
  have x5 := HB0.out.cell (j := 5) (v := .slice A N c) rfl
  go_wp2_with fail
  refine (LM.out _ B0.out HL.out).mono ?_
  rintro e w1 ⟨g, rfl, hG, hb⟩
  have B1 := Lib.hid (bchain B0.out hb)
  have HB1 := Lib.hid (HB0.out.keep hb HB0.out.lt)
  have HG := Lib.hid hG
  clear hb hG B0 HB0 x0 x1 x2 x3 x4 x5 LM
  go_upto_region 4 with fail
  have HB2 := Lib.hid (HB1.out.alloc (.cells #[.int .i64 m.tab, .int .i64 m.rou, .int .i64 m.set, .int .i64 m.cop, .int .i64 m.win, .slice (some ⟨g, 0, none⟩) N (N + 12)] 24))
  have HO2 := Lib.hid (Blk.new w1 24 #[.int .i64 m.tab, .int .i64 m.rou, .int .i64 m.set, .int .i64 m.cop, .int .i64 m.win, .slice (some ⟨g, 0, none⟩) N (N + 12)])
  have HG2 := Lib.hid (HG.out.keep (below1 w1 (.cells #[.int .i64 m.tab, .int .i64 m.rou, .int .i64 m.set, .int .i64 m.cop, .int .i64 m.win, .slice (some ⟨g, 0, none⟩) N (N + 12)] 24)))
  have B2 := Lib.hid (bchain B1.out (below1 w1 (.cells #[.int .i64 m.tab, .int .i64 m.rou, .int .i64 m.set, .int .i64 m.cop, .int .i64 m.win, .slice (some ⟨g, 0, none⟩) N (N + 12)] 24)))
  clear HB1 HG B1
  generalize w1.alloc (.cells #[.int .i64 m.tab, .int .i64 m.rou, .int .i64 m.set, .int .i64 m.cop, .int .i64 m.win, .slice (some ⟨g, 0, none⟩) N (N + 12)] 24) = w2 at *
  generalize w1.heap.size = ob at *
  have x0 := HO2.out.cell (j := 0) (v := .int .i64 m.tab) rfl
  have x1 := HO2.out.cell (j := 1) (v := .int .i64 m.rou) rfl
  have x2 := HO2.out.cell (j := 2) (v := .int .i64 m.set) rfl
  have x3 := HO2.out.cell (j := 3) (v := .int .i64 m.cop) rfl
  have x4 := HO2.out.cell (j := 4) (v := .int .i64 m.win) rfl
  have x5 := HO2.out.cell (j := 5) (v := .slice (some ⟨g, 0, none⟩) N (N + 12)) rfl
  go_wp2_with fail
  refine (TO.out _ _ B2.out HG2.out).mono ?_
  rintro e w3 ⟨v4, rfl, hr, hb⟩
  have B3 := Lib.hid (bchain B2.out hb)
  have HB3 := Lib.hid (HB2.out.keep hb HB2.out.lt)
  have HO3 := Lib.hid (HO2.out.keep hb HO2.out.lt)
  have HG3 := Lib.hid (HG2.out.keep hb)
  have R4 := Lib.hid hr
  clear hr hb B2 HB2 HO2 HG2 x0 x1 x2 x3 x4 x5 TO
  go_upto_region 5 with fail
  have x0 := HB3.out.cell (j := 0) (v := .int .i64 m.tab) rfl
  have x1 := HB3.out.cell (j := 1) (v := .int .i64 m.rou) rfl
  have x2 := HB3.out.cell (j := 2) (v := .int .i64 m.set) rfl
  have x3 := HB3.out.cell (j := 3) (v := .int .i64 m.cop) rfl
  have x4 := HB3.out.cell (j := 4) (v := .int .i64 m.win) rfl
  have x5 := HB3.out.cell (j := 5) (v := .slice A N c) rfl
  go_wp2_with fail
  refine (TR.out _ B3.out).mono ?_
  rintro e w4 ⟨v5, rfl, hr, hb⟩
  have B4 := Lib.hid (bchain B3.out hb)
  have HB4 := Lib.hid (HB3.out.keep hb HB3.out.lt)
  have HO4 := Lib.hid (HO3.out.keep hb HO3.out.lt)
  have HG4 := Lib.hid (HG3.out.keep hb)
  replace R4 := Lib.hid (R4.out.keep hb)
  have R5 := Lib.hid hr
  clear hr hb B3 HB3 HO3 HG3 x0 x1 x2 x3 x4 x5 TR
  go_upto_region 6 with fail
  have x0 := HO4.out.cell (j := 0) (v := .int .i64 m.tab) rfl
  have x1 := HO4.out.cell (j := 1) (v := .int .i64 m.rou) rfl
  have x2 := HO4.out.cell (j := 2) (v := .int .i64 m.set) rfl
  have x3 := HO4.out.cell (j := 3) (v := .int .i64 m.cop) rfl
  have x4 := HO4.out.cell (j := 4) (v := .int .i64 m.win) rfl
  have x5 := HO4.out.cell (j := 5) (v := .slice (some ⟨g, 0, none⟩) N (N + 12)) rfl
  go_wp2_with fail
  refine (PO.out _ _ B4.out HG4.out).mono ?_
  rintro e w5 ⟨v6, rfl, hr, hb⟩
  have B5 := Lib.hid (bchain B4.out hb)
  have HB5 := Lib.hid (HB4.out.keep hb HB4.out.lt)
  have HO5 := Lib.hid (HO4.out.keep hb HO4.out.lt)
  have HG5 := Lib.hid (HG4.out.keep hb)
  replace R4 := Lib.hid (R4.out.keep hb)
  replace R5 := Lib.hid (R5.out.keep hb)
  have R6 := Lib.hid hr
  clear hr hb B4 HB4 HO4 HG4 x0 x1 x2 x3 x4 x5 PO
  go_upto_region 7 with fail
  have x0 := HB5.out.cell (j := 0) (v := .int .i64 m.tab) rfl
  have x1 := HB5.out.cell (j := 1) (v := .int .i64 m.rou) rfl
  have x2 := HB5.out.cell (j := 2) (v := .int .i64 m.set) rfl
  have x3 := HB5.out.cell (j := 3) (v := .int .i64 m.cop) rfl
  have x4 := HB5.out.cell (j := 4) (v := .int .i64 m.win) rfl
  have x5 := HB5.out.cell (j := 5) (v := .slice A N c) rfl
  go_wp2_with fail
  refine (PR.out _ B5.out).mono ?_
  rintro e w6 ⟨v7, rfl, hr, hb⟩
  have B6 := Lib.hid (bchain B5.out hb)
  have HB6 := Lib.hid (HB5.out.keep hb HB5.out.lt)
  have HO6 := Lib.hid (HO5.out.keep hb HO5.out.lt)
  have HG6 := Lib.hid (HG5.out.keep hb)
  replace R4 := Lib.hid (R4.out.keep hb)
  replace R5 := Lib.hid (R5.out.keep hb)
  replace R6 := Lib.hid (R6.out.keep hb)
  have R7 := Lib.hid hr
  clear hr hb B5 HB5 HO5 HG5 x0 x1 x2 x3 x4 x5 PR
  go_upto_region 8 with fail
  have x0 := HO6.out.cell (j := 0) (v := .int .i64 m.tab) rfl
  have x1 := HO6.out.cell (j := 1) (v := .int .i64 m.rou) rfl
  have x2 := HO6.out.cell (j := 2) (v := .int .i64 m.set) rfl
  have x3 := HO6.out.cell (j := 3) (v := .int .i64 m.cop) rfl
  have x4 := HO6.out.cell (j := 4) (v := .int .i64 m.win) rfl
  have x5 := HO6.out.cell (j := 5) (v := .slice (some ⟨g, 0, none⟩) N (N + 12)) rfl
  go_wp2_with fail
  refine (BO.out _ _ B6.out HG6.out).mono ?_
  rintro e w7 ⟨v8, rfl, hr, hb⟩
  have B7 := Lib.hid (bchain B6.out hb)
  have HB7 := Lib.hid (HB6.out.keep hb HB6.out.lt)
  have HO7 := Lib.hid (HO6.out.keep hb HO6.out.lt)
  have HG7 := Lib.hid (HG6.out.keep hb)
  replace R4 := Lib.hid (R4.out.keep hb)
  replace R5 := Lib.hid (R5.out.keep hb)
  replace R6 := Lib.hid (R6.out.keep hb)
  replace R7 := Lib.hid (R7.out.keep hb)
  have R8 := Lib.hid hr
  clear hr hb B6 HB6 HO6 HG6 x0 x1 x2 x3 x4 x5 BO
  go_upto_region 9 with fail
  have x0 := HB7.out.cell (j := 0) (v := .int .i64 m.tab) rfl
  have x1 := HB7.out.cell (j := 1) (v := .int .i64 m.rou) rfl
  have x2 := HB7.out.cell (j := 2) (v := .int .i64 m.set) rfl
  have x3 := HB7.out.cell (j := 3) (v := .int .i64 m.cop) rfl
  have x4 := HB7.out.cell (j := 4) (v := .int .i64 m.win) rfl
  have x5 := HB7.out.cell (j := 5) (v := .slice A N c) rfl
  go_wp2_with fail
  refine (BR.out _ B7.out).mono ?_
  rintro e w8 ⟨v9, rfl, hr, hb⟩
  have B8 := Lib.hid (bchain B7.out hb)
  have HB8 := Lib.hid (HB7.out.keep hb HB7.out.lt)
  have HO8 := Lib.hid (HO7.out.keep hb HO7.out.lt)
  have HG8 := Lib.hid (HG7.out.keep hb)
  replace R4 := Lib.hid (R4.out.keep hb)
  replace R5 := Lib.hid (R5.out.keep hb)
  replace R6 := Lib.hid (R6.out.keep hb)
  replace R7 := Lib.hid (R7.out.keep hb)
  replace R8 := Lib.hid (R8.out.keep hb)
  have R9 := Lib.hid hr
  clear hr hb B7 HB7 HO7 HG7 x0 x1 x2 x3 x4 x5 BR
  go_upto_region 10 with fail
  go_wp2_with fail
  refine (S1.out HL.out _ _ _ R4.out R5.out).mono ?_
  rintro e w9 ⟨rfl, hb⟩
  have B9 := Lib.hid (bchain B8.out hb)
  have HB9 := Lib.hid (HB8.out.keep hb HB8.out.lt)
  have HO9 := Lib.hid (HO8.out.keep hb HO8.out.lt)
  have HG9 := Lib.hid (HG8.out.keep hb)
  replace R6 := Lib.hid (R6.out.keep hb)
  replace R7 := Lib.hid (R7.out.keep hb)
  replace R8 := Lib.hid (R8.out.keep hb)
  replace R9 := Lib.hid (R9.out.keep hb)
  clear hb B8 HB8 HO8 HG8 R4 R5 S1
  go_wp2_with fail
  refine (S2.out _ _ _ R6.out R7.out).mono ?_
  rintro e w10 ⟨rfl, hb⟩
  have B10 := Lib.hid (bchain B9.out hb)
  have HB10 := Lib.hid (HB9.out.keep hb HB9.out.lt)
  have HO10 := Lib.hid (HO9.out.keep hb HO9.out.lt)
  have HG10 := Lib.hid (HG9.out.keep hb)
  replace R8 := Lib.hid (R8.out.keep hb)
  replace R9 := Lib.hid (R9.out.keep hb)
  clear hb B9 HB9 HO9 HG9 R6 R7 S2
  go_wp2_with fail
  refine (S3.out _ _ _ R8.out R9.out).mono ?_
  rintro e w11 ⟨rfl, hb⟩
  have B11 := Lib.hid (bchain B10.out hb)
  have HB11 := Lib.hid (HB10.out.keep hb HB10.out.lt)
  have HO11 := Lib.hid (HO10.out.keep hb HO10.out.lt)
  have HG11 := Lib.hid (HG10.out.keep hb)
  clear hb B10 HB10 HO10 HG10 R8 R9 S3
  have x0 := HO11.out.cell (j := 0) (v := .int .i64 m.tab) rfl
  have x1 := HO11.out.cell (j := 1) (v := .int .i64 m.rou) rfl
  have x2 := HO11.out.cell (j := 2) (v := .int .i64 m.set) rfl
  have x3 := HO11.out.cell (j := 3) (v := .int .i64 m.cop) rfl
  have x4 := HO11.out.cell (j := 4) (v := .int .i64 m.win) rfl
  have x5 := HO11.out.cell (j := 5) (v := .slice (some ⟨g, 0, none⟩) N (N + 12)) rfl
  have y0 := HB11.out.cell (j := 0) (v := .int .i64 m.tab) rfl
  have y1 := HB11.out.cell (j := 1) (v := .int .i64 m.rou) rfl
  have y2 := HB11.out.cell (j := 2) (v := .int .i64 m.set) rfl
  have y3 := HB11.out.cell (j := 3) (v := .int .i64 m.cop) rfl
  have y4 := HB11.out.cell (j := 4) (v := .int .i64 m.win) rfl
  have y5 := HB11.out.cell (j := 5) (v := .slice A N c) rfl
  go_wp2_with fail
  refine (KM.out _ _ HL.out B11.out HG11.out).mono ?_
  rintro e w12 ⟨rfl, hb⟩
  have B12 := Lib.hid (bchain B11.out hb)
  clear hb x0 x1 x2 x3 x4 x5 y0 y1 y2 y3 y4 y5
  go_wp2_with fail
  go_ret
  exact ⟨rfl, B12.out⟩
end Go.Proofs.YtidpfggikighlaaDoor
