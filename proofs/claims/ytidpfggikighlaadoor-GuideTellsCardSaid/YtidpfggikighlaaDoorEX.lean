/- Example of finesselaw29. -/
import Derived.Test.YtidpfggikighlaaDoorGK
namespace Go.Proofs.YtidpfggikighlaaDoor
open Go Go.RowKit

def exRows : List Rw := [⟨0, 0, 1, 4, 0⟩, ⟨0, 1, 2, 5, 1⟩, ⟨0, 2, 3, 6, 2⟩, ⟨1, 0, 1, 5, 2⟩, ⟨1, 1, 2, 6, 0⟩, ⟨1, 2, 3, 4, 1⟩, ⟨2, 0, 1, 6, 1⟩, ⟨2, 1, 2, 4, 2⟩, ⟨2, 2, 3, 5, 0⟩]
def exM : Mv := ⟨3, 3, 3, 1, 2, exRows⟩
theorem ex_take {r t : Nat} (hr : r < 3) (ht : t < 3) : exRows.take (3 * r + (t + 1)) = exRows.take (3 * r + t) ++ [⟨(r : Int), (t : Int), (t : Int) + 1, 4 + ((t : Int) + (r : Int)) % 3, ((t : Int) + 2 * (r : Int)) % 3⟩] := by
  rcases (by omega : r = 0 ∨ r = 1 ∨ r = 2) with rfl | rfl | rfl <;> rcases (by omega : t = 0 ∨ t = 1 ∨ t = 2) with rfl | rfl | rfl <;> rfl
theorem own_le {w : World} {B B' e size n : Nat} {v : Value} {xs : List Value} (h : w.ownsRow B e size v n xs) (hb : B' ≤ B) : w.ownsRow B' e size v n xs := by
  refine ⟨h.1, ?_⟩
  rcases h.2 with hn | ⟨g, cap, cur, hv, hg, rest⟩
  · exact .inl hn
  · exact .inr ⟨g, cap, cur, hv, Nat.le_trans hb hg, rest⟩
structure EQ (w W : World) (p q B k : Nat) (v : Value) : Prop where
  own : W.ownsRow B 45 5 v k (rv (exRows.take k))
  below : Below w.heap.size w W
  bp : Blk W p 24 #[.int .i64 0, .int .i64 0, .int .i64 0, .int .i64 0, .int .i64 0, .slice none 0 0]
  bq : Blk W q 24 #[.int .i64 3, .int .i64 3, .int .i64 3, .int .i64 1, .int .i64 2, v]
  size : B ≤ W.heap.size
set_option maxRecDepth 100000 in
set_option maxHeartbeats 4000000 in
theorem example_any (w : World) : Calls Tryd.prog 32 #[] w (fun e w' => ∃ v, e = .returned (mvV exM v) ∧ w'.ownsRow w.heap.size 45 5 v 9 (rv exRows) ∧ Below w.heap.size w w') := by
  obtain ⟨i0, hi0, hz0, hz1, hz2⟩ := info_parts_row
  go_enter Tryd.func32, Tryd.ntmps32
  go_upto_region 2 with fail
  have HB1 := Lib.hid ((Blk.new w 24 #[.int .i64 0, .int .i64 0, .int .i64 0, .int .i64 0, .int .i64 0, .slice none 0 0]).alloc (.cells #[.int .i64 3, .int .i64 3, .int .i64 3, .int .i64 1, .int .i64 2, .slice none 0 0] 24))
  have HB2 := Lib.hid (Blk.new (w.alloc (.cells #[.int .i64 0, .int .i64 0, .int .i64 0, .int .i64 0, .int .i64 0, .slice none 0 0] 24)) 24 #[.int .i64 3, .int .i64 3, .int .i64 3, .int .i64 1, .int .i64 2, .slice none 0 0])
  have BA := Lib.hid (bchain (below1 w (.cells #[.int .i64 0, .int .i64 0, .int .i64 0, .int .i64 0, .int .i64 0, .slice none 0 0] 24)) (below1 _ (.cells #[.int .i64 3, .int .i64 3, .int .i64 3, .int .i64 1, .int .i64 2, .slice none 0 0] 24)))
  have HSZ : Hid (((w.alloc (.cells #[.int .i64 0, .int .i64 0, .int .i64 0, .int .i64 0, .int .i64 0, .slice none 0 0] 24)).alloc (.cells #[.int .i64 3, .int .i64 3, .int .i64 3, .int .i64 1, .int .i64 2, .slice none 0 0] 24)).heap.size = w.heap.size + 1 + 1) := Lib.hid (by rw [size_al, size_al])
  rw [size_al] at HB2
  generalize (w.alloc (.cells #[.int .i64 0, .int .i64 0, .int .i64 0, .int .i64 0, .int .i64 0, .slice none 0 0] 24)).alloc (.cells #[.int .i64 3, .int .i64 3, .int .i64 3, .int .i64 1, .int .i64 2, .slice none 0 0] 24) = wa at *
  obtain ⟨p, hp⟩ : ∃ p, w.heap.size = p := ⟨_, rfl⟩
  obtain ⟨q, hq⟩ : ∃ q, p + 1 = q := ⟨_, rfl⟩
  rw [hp] at HB1 HB2 HSZ ⊢
  rw [hq] at HB2 HSZ ⊢
  have HPQ := Lib.hid (And.intro hp hq)
  clear hp hq
  have HQ : Hid (EQ w wa p q (q + 1) 0 (.slice none 0 0)) := Lib.hid ⟨World.ownsRow_nil _ _ _ _, BA.out, HB1.out, HB2.out, by rw [HSZ.out]; omega⟩
  clear HB1 HB2 BA HSZ
  go_wp2_with fail
  go_loopw [5] (fun s5 wr => ∃ (r : Nat) (v : Value), r ≤ 3 ∧ s5 = .int .i64 (r : Int) ∧ Hid (EQ w wr p q (q + 1) (3 * r) v)) (fun s5 _ => 3 - (intOf s5).toNat)
  case atStart => exact ⟨0, _, by omega, rfl, HQ⟩
  case round =>
    obtain ⟨r, v, hr, rfl, HQ1⟩ := hrel
    clear HQ
    by_cases hlt : r < 3
    · have t1 : decide ((r : Int) < 3) = true := decide_eq_true (by omega)
      go_wp2_with fail
      clear t1
      go_loopw [8] (fun s8 wr => ∃ (t : Nat) (v : Value), t ≤ 3 ∧ s8 = .int .i64 (t : Int) ∧ Hid (EQ w wr p q (q + 1) (3 * r + t) v)) (fun s8 _ => 3 - (intOf s8).toNat)
      case atStart => exact ⟨0, v, by omega, rfl, HQ1⟩
      case round =>
        obtain ⟨t, v, ht, rfl, HQ2⟩ := hrel
        clear HQ1
        by_cases hlt2 : t < 3
        · have t1 : decide ((t : Int) < 3) = true := decide_eq_true (by omega)
          have x5 := HQ2.out.bq.cell (j := 5) (v := v) rfl
          have f5 := HQ2.out.bq.free 5
          have a1 : IntKind.i64.wrap ((t : Int) + 1) = (t : Int) + 1 := IntWalk.i64_in _ (by omega)
          have a2 : IntKind.i64.wrap ((t : Int) + (r : Int)) = (t : Int) + (r : Int) := IntWalk.i64_in _ (by omega)
          have HO := Lib.hid (HQ2.out.own.alloc (.cells #[.int .i64 (r : Int), .int .i64 (t : Int), .int .i64 ((t : Int) + 1), .int .i64 (4 + ((t : Int) + (r : Int)) % 3), .int .i64 (((t : Int) + 2 * (r : Int)) % 3)] 45))
          have HW : Hid (SrcR (wr.alloc (.cells #[.int .i64 (r : Int), .int .i64 (t : Int), .int .i64 ((t : Int) + 1), .int .i64 (4 + ((t : Int) + (r : Int)) % 3), .int .i64 (((t : Int) + 2 * (r : Int)) % 3)] 45)) 5 (.slice (some ⟨wr.heap.size, 0, none⟩) 1 1) 1 (rv [⟨(r : Int), (t : Int), (t : Int) + 1, 4 + ((t : Int) + (r : Int)) % 3, ((t : Int) + 2 * (r : Int)) % 3⟩])) := Lib.hid (.some_ wr.heap.size 0 1 1 _ rfl (fun j u hj => by
            rw [Nat.zero_add]
            exact (Blk.new wr 45 #[.int .i64 (r : Int), .int .i64 (t : Int), .int .i64 ((t : Int) + 1), .int .i64 (4 + ((t : Int) + (r : Int)) % 3), .int .i64 (((t : Int) + 2 * (r : Int)) % 3)]).cell (by
              match j, hj with
              | 0, hj => exact hj
              | 1, hj => exact hj
              | 2, hj => exact hj
              | 3, hj => exact hj
              | 4, hj => exact hj
              | j + 5, hj => exact hj)))
          have HS : Hid (q + 1 ≤ (wr.alloc (.cells #[.int .i64 (r : Int), .int .i64 (t : Int), .int .i64 ((t : Int) + 1), .int .i64 (4 + ((t : Int) + (r : Int)) % 3), .int .i64 (((t : Int) + 2 * (r : Int)) % 3)] 45)).heap.size) := Lib.hid (by rw [size_al]; have := HQ2.out.size; omega)
          have HQB := Lib.hid (HQ2.out.bq.alloc (.cells #[.int .i64 (r : Int), .int .i64 (t : Int), .int .i64 ((t : Int) + 1), .int .i64 (4 + ((t : Int) + (r : Int)) % 3), .int .i64 (((t : Int) + 2 * (r : Int)) % 3)] 45))
          go_upto_region 9 with (at_builtin; refine appS rfl _ _ rfl Tryd.underlying22 hi0 hz0 hz1 hz2 rfl (by decide) _ (q + 1) v (3 * r + t) (rv (exRows.take (3 * r + t))) rfl HO.out (.slice (some ⟨wr.heap.size, 0, none⟩) 1 1) 1 (rv [⟨(r : Int), (t : Int), (t : Int) + 1, 4 + ((t : Int) + (r : Int)) % 3, ((t : Int) + 2 * (r : Int)) % 3⟩]) rfl HW.out (rv_one _) (by omega) (by decide) HS.out ?_; intro v' w1 hown1 hgrow1 hob1 hb1; obtain ⟨g1, c1, rfl, hg1, hc1⟩ := own_some hown1 (by omega); clear hob1 hg1 hc1; have f6 := (HQB.out.keep hb1 (Nat.lt_succ_self q)).free 5; have x6 := (HQB.out.keep hb1 (Nat.lt_succ_self q)).cell (j := 5) (v := v) rfl)
          have HQ3 : Hid (EQ w (w1.setCell ⟨q, 5, none⟩ (.slice (some ⟨g1, 0, none⟩) (3 * r + t + 1) c1)) p q (q + 1) (3 * r + (t + 1)) (.slice (some ⟨g1, 0, none⟩) (3 * r + t + 1) c1)) := Lib.hid ⟨by
              rw [ex_take hlt hlt2, rv_app, ← Nat.add_assoc]
              exact ownsRow_setCell_below hown1 (Nat.lt_succ_self q) (.slice (some ⟨g1, 0, none⟩) (3 * r + t + 1) c1),
            ((bchain HQ2.out.below (below1 wr _)).grown hgrow1 (bchain HQ2.out.below (below1 wr _)).size (fun k hk => by have := (HQ2.out.own.lt k hk).1; have := HPQ.out; omega)).setCell (p := ⟨q, 5, none⟩) (by have := HPQ.out; simp only []; omega) (.slice (some ⟨g1, 0, none⟩) (3 * r + t + 1) c1),
            ((HQ2.out.bp.alloc _).keep hb1 (by have := HPQ.out; omega)).other (by have := HPQ.out; omega) 5 (.slice (some ⟨g1, 0, none⟩) (3 * r + t + 1) c1),
            (HQB.out.keep hb1 (Nat.lt_succ_self q)).set 5 (.slice (some ⟨g1, 0, none⟩) (3 * r + t + 1) c1),
            by have := hb1.size; have := HS.out; have e : (w1.setCell ⟨q, 5, none⟩ (.slice (some ⟨g1, 0, none⟩) (3 * r + t + 1) c1)).heap.size = w1.heap.size := (by simp); rw [e]; omega⟩
          generalize w1.setCell ⟨q, 5, none⟩ (.slice (some ⟨g1, 0, none⟩) (3 * r + t + 1) c1) = w2 at *
          clear hown1 hgrow1 hb1 f5 f6 x6 x5 HO HW HS HQB HQ2
          go_wp2_with fail
          go_roundw
          case rel => exact ⟨t + 1, (.slice (some ⟨g1, 0, none⟩) (3 * r + t + 1) c1), by omega, by go_num, HQ3⟩
          case measure => simp [intOf]; omega
        · obtain rfl : t = 3 := by omega
          rw [show ((3 : Nat) : Int) = 3 from rfl]
          go_wp2_with fail
          go_roundw
          case rel => exact ⟨r + 1, v, by omega, by go_num, HQ2⟩
          case measure => simp [intOf]; omega
    · obtain rfl : r = 3 := by omega
      rw [show ((3 : Nat) : Int) = 3 from rfl]
      obtain ⟨g, c, rfl, hg, hc⟩ := own_some HQ1.out.own (by omega)
      clear hg hc
      have x0 := HQ1.out.bq.cell (j := 0) (v := (.int .i64 3)) rfl
      have x1 := HQ1.out.bq.cell (j := 1) (v := (.int .i64 3)) rfl
      have x2 := HQ1.out.bq.cell (j := 2) (v := (.int .i64 3)) rfl
      have x3 := HQ1.out.bq.cell (j := 3) (v := (.int .i64 1)) rfl
      have x4 := HQ1.out.bq.cell (j := 4) (v := (.int .i64 2)) rfl
      have x5 := HQ1.out.bq.cell (j := 5) (v := .slice (some ⟨g, 0, none⟩) (3 * 3) c) rfl
      have y0 := HQ1.out.bp.cell (j := 0) (v := .int .i64 0) rfl
      have f0 := HQ1.out.bp.free 0
      have y1 := HQ1.out.bp.cell (j := 1) (v := .int .i64 0) rfl
      have f1 := HQ1.out.bp.free 1
      have y2 := HQ1.out.bp.cell (j := 2) (v := .int .i64 0) rfl
      have f2 := HQ1.out.bp.free 2
      have y3 := HQ1.out.bp.cell (j := 3) (v := .int .i64 0) rfl
      have f3 := HQ1.out.bp.free 3
      have y4 := HQ1.out.bp.cell (j := 4) (v := .int .i64 0) rfl
      have f4 := HQ1.out.bp.free 4
      have y5 := HQ1.out.bp.cell (j := 5) (v := .slice none 0 0) rfl
      have f5 := HQ1.out.bp.free 5
      go_wp2_with fail
      clear x0 x1 x2 x3 x4 x5 y0 y1 y2 y3 y4 y5 f0 f1 f2 f3 f4 f5
      have hpw : w.heap.size ≤ p := by have := HPQ.out; omega
      have hpq : p < q + 1 := by have := HPQ.out; omega
      have HBP := Lib.hid ((((((HQ1.out.bp.set 0 (.int .i64 3)).set 1 (.int .i64 3)).set 2 (.int .i64 3)).set 3 (.int .i64 1)).set 4 (.int .i64 2)).set 5 (.slice (some ⟨g, 0, none⟩) (3 * 3) c))
      have HBL := Lib.hid ((((((HQ1.out.below.setCell (p := ⟨p, 0, none⟩) hpw (.int .i64 3)).setCell (p := ⟨p, 1, none⟩) hpw (.int .i64 3)).setCell (p := ⟨p, 2, none⟩) hpw (.int .i64 3)).setCell (p := ⟨p, 3, none⟩) hpw (.int .i64 1)).setCell (p := ⟨p, 4, none⟩) hpw (.int .i64 2)).setCell (p := ⟨p, 5, none⟩) hpw (.slice (some ⟨g, 0, none⟩) (3 * 3) c))
      have HOW := Lib.hid (ownsRow_setCell_below (ownsRow_setCell_below (ownsRow_setCell_below (ownsRow_setCell_below (ownsRow_setCell_below (ownsRow_setCell_below HQ1.out.own (a := ⟨p, 0, none⟩) hpq (.int .i64 3)) (a := ⟨p, 1, none⟩) hpq (.int .i64 3)) (a := ⟨p, 2, none⟩) hpq (.int .i64 3)) (a := ⟨p, 3, none⟩) hpq (.int .i64 1)) (a := ⟨p, 4, none⟩) hpq (.int .i64 2)) (a := ⟨p, 5, none⟩) hpq (.slice (some ⟨g, 0, none⟩) (3 * 3) c))
      generalize (((((wr.setCell ⟨p, 0, none⟩ (.int .i64 3)).setCell ⟨p, 1, none⟩ (.int .i64 3)).setCell ⟨p, 2, none⟩ (.int .i64 3)).setCell ⟨p, 3, none⟩ (.int .i64 1)).setCell ⟨p, 4, none⟩ (.int .i64 2)).setCell ⟨p, 5, none⟩ (.slice (some ⟨g, 0, none⟩) (3 * 3) c) = w3 at *
      have y0 := HBP.out.cell (j := 0) (v := (.int .i64 3)) rfl
      have y1 := HBP.out.cell (j := 1) (v := (.int .i64 3)) rfl
      have y2 := HBP.out.cell (j := 2) (v := (.int .i64 3)) rfl
      have y3 := HBP.out.cell (j := 3) (v := (.int .i64 1)) rfl
      have y4 := HBP.out.cell (j := 4) (v := (.int .i64 2)) rfl
      have y5 := HBP.out.cell (j := 5) (v := .slice (some ⟨g, 0, none⟩) (3 * 3) c) rfl
      refine bodyPost_ret (by simp [results, Tryd.results32, go_sem, y0, y1, y2, y3, y4, y5]; try rfl) rfl ?_
      exact ⟨_, rfl, own_le HOW.out (by omega), HBL.out⟩
end Go.Proofs.YtidpfggikighlaaDoor
