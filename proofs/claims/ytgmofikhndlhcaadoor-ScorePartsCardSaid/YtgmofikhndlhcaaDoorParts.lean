/- The walk of ScoreParts. -/
import Derived.Test.YtgmofikhndlhcaaDoorTurns
import Derived.Test.YtgmofikhndlhcaaDoorPartsP
import Derived.Deep.DeepCutAuto
namespace Go.Proofs.YtgmofikhndlhcaaDoor
open Go.RowKit

theorem InvB.keep {w0 w w' : World} {b : Nat} {t : TypeId} {c : Array Value} (h : InvB w0 w b t c) (hb : Below w.heap.size w w') : InvB w0 w' b t c :=
  ⟨⟨h.inv.env.keep hb, bchain h.inv.below hb⟩, h.blk.keep hb h.blk.lt⟩
theorem Blk.new2 (w : World) (o : Obj) (t : TypeId) (c : Array Value) : Blk ((w.alloc o).alloc (.cells c t)) (w.heap.size + 1) t c := by simpa using Blk.new (w.alloc o) t c
def OfC (l d r s : Nat) (k : Int) (v : Bool) (p : Int) : Prop := ∀ w, Env w → Calls Tryd.prog 15 #[.agg #[.int .u8 l, .int .u8 d, .int .u8 r, .int .u8 s], .int .i64 k, .bool v] w fun e w' => e = .returned (.tuple #[.int .i64 p, .bool true]) ∧ Below w.heap.size w w'
theorem ofc_mk (l d r s : Nat) (k : Int) (v : Bool) (p : Int) (hl : l < 256) (h : ptsP l d r s k v = (p, 0)) : OfC l d r s k v p := fun w hw =>
  (of_any l d r s k v w hw.tabs hl).mono fun e w' ⟨he, hb⟩ => ⟨by rw [he, h]; rfl, hb⟩
def gameZ (d : Nat) : Int := (gameP d : Nat)
theorem game_idx (d : Nat) (hd : d ≤ 4) (w : World) : (Instr.index 44 (.agg #[.int .u8 5, .int .u8 5, .int .u8 4, .int .u8 4, .int .u8 3]) (.int .u8 (d : Nat))).run Tryd.prog w = .ok (.int .u8 (gameZ d)) w := by
  rcases (by omega : d = 0 ∨ d = 1 ∨ d = 2 ∨ d = 3 ∨ d = 4) with rfl | rfl | rfl | rfl | rfl <;> kernel_rfl
attribute [irreducible] gameZ
set_option maxRecDepth 100000 in
set_option maxHeartbeats 4000000 in
theorem parts_low (n l d r s k : Nat) (v : Bool) (w : World) (hE : Env w) (MC : Hid (∀ w, Calls Tryd.prog 14 #[.int .u32 n] w fun e w' => e = .returned (.tuple #[.agg #[.int .u8 (l : Nat), .int .u8 (d : Nat), .int .u8 (r : Nat), .int .u8 (s : Nat)], .int .i64 (k : Nat)]) ∧ Below w.heap.size w w'))
    (hl : l < 2) :
    Calls Tryd.prog 8 #[.int .u32 n, .bool v] w fun e w' => e = .returned (.bool true) ∧ Below w.heap.size w w' := by
  have HE := Lib.hid hE
  have f0 : decide ((l : Int) < 2) = true := decide_eq_true (by omega)
  clear hE hl
  go_enter Tryd.func8, Tryd.ntmps8
  go_wp2_with fail
  refine (MC.out _).mono ?_
  rintro e w2 ⟨rfl, hb⟩
  have hi : InvB w (w2.alloc (.cells #[.int .u8 (l : Nat), .int .u8 (d : Nat), .int .u8 (r : Nat), .int .u8 (s : Nat)] 23)) w2.heap.size 23 #[.int .u8 (l : Nat), .int .u8 (d : Nat), .int .u8 (r : Nat), .int .u8 (s : Nat)] := ⟨Inv.alloc ⟨HE.out.keep hb, hb⟩ _, Blk.new _ _ _⟩
  have H1 := Lib.hid hi
  clear hb hi
  go_wp2_with fail
  refine (awake_i H1.out.inv).mono ?_
  rintro e w9 ⟨rfl, h9⟩
  go_wp2_with fail
  go_ret
  exact ⟨rfl, h9.below⟩
set_option maxRecDepth 100000 in
set_option maxHeartbeats 8000000 in
theorem parts_hi (n l l1 d r s k : Nat) (v : Bool) (w : World) (hE : Env w) (MC : Hid (∀ w, Calls Tryd.prog 14 #[.int .u32 n] w fun e w' => e = .returned (.tuple #[.agg #[.int .u8 (l : Nat), .int .u8 (d : Nat), .int .u8 (r : Nat), .int .u8 (s : Nat)], .int .i64 (k : Nat)]) ∧ Below w.heap.size w w'))
    (hl2 : 2 ≤ l) (hl7 : l ≤ 7) (hd : d ≤ 4) (hr : r ≤ 2) (hs : s ≤ 3) (h1 : l = l1 + 1) (a b bo : Int) (hbo : bo = bonusP l d v) (hab : 6 + l ≤ k → l ≠ 6 → l ≠ 7 → OfC l d 0 s (k : Nat) v a ∧ OfC l1 d 0 s (k : Nat) v b ∧ a = b + bo)
    (hb1 : -10000 ≤ b) (hb2 : b ≤ 10000)
    (LP : Nat → Int) (hLP : ∀ j, 1 ≤ j → j ≤ 6 + l → OfC l d 1 s ((6 + l - j : Nat) : Int) v (LP j) ∧ LP j = LP (j - 1) - eachP v j) (hL0 : LP 0 = 0) (hLb : ∀ j, -10000 ≤ LP j ∧ LP j ≤ 10000) :
    Calls Tryd.prog 8 #[.int .u32 n, .bool v] w fun e w' => e = .returned (.bool true) ∧ Below w.heap.size w w' := by
  have HE := Lib.hid hE
  have HAB := Lib.hid hab
  have HLP := Lib.hid hLP
  have HL0 := Lib.hid hL0
  have HLB := Lib.hid hLb
  have HBO := Lib.hid hbo
  have hg := Lib.hid (rgt_mk l d r s (by omega) hl7 hd hr hs)
  have hg1 := Lib.hid (rgt_mk l d 1 s (by omega) hl7 hd (by omega) hs)
  have H0 := Lib.hid (show 0 < l by omega)
  have H256 := Lib.hid (show l < 256 by omega)
  have f0 : decide ((l : Int) < 2) = false := decide_eq_false (by omega)
  have f1 : IntKind.u8.wrap ((l : Int) - 1) = (l1 : Int) := by rw [IntWalk.u8_in _ (by omega)]; omega
  have f2 : (l : Int) - 1 = (l1 : Int) := by omega
  clear hE h1 hab hLP hL0 hLb hbo
  go_enter Tryd.func8, Tryd.ntmps8
  go_wp2_with fail
  refine (MC.out _).mono ?_
  rintro e w2 ⟨rfl, hb⟩
  have hi : InvB w (w2.alloc (.cells #[.int .u8 (l : Nat), .int .u8 (d : Nat), .int .u8 (r : Nat), .int .u8 (s : Nat)] 23)) w2.heap.size 23 #[.int .u8 (l : Nat), .int .u8 (d : Nat), .int .u8 (r : Nat), .int .u8 (s : Nat)] := ⟨Inv.alloc ⟨HE.out.keep hb, hb⟩ _, Blk.new _ _ _⟩
  have H1 := Lib.hid hi
  have gb : w.heap.size ≤ w2.heap.size := hb.size
  clear hb hi
  go_upto_region 2 with fail
  generalize w2.alloc (.cells #[.int .u8 (l : Nat), .int .u8 (d : Nat), .int .u8 (r : Nat), .int .u8 (s : Nat)] 23) = W1 at *
  generalize w2.heap.size = b0 at *
  have x0 := H1.out.blk.cell (j := 0) (v := .int .u8 (l : Nat)) rfl
  have x1 := H1.out.blk.cell (j := 1) (v := .int .u8 (d : Nat)) rfl
  have x2 := H1.out.blk.cell (j := 2) (v := .int .u8 (r : Nat)) rfl
  have x3 := H1.out.blk.cell (j := 3) (v := .int .u8 (s : Nat)) rfl
  have hlt : b0 < W1.heap.size := H1.out.blk.lt
  go_upto_region 4 with fail
  go_cut [7, 8] (fun s7 s8 wx => ∃ t7 t8 : Nat, s7 = .pointer (some ⟨t7, 0, none⟩) ∧ s8 = .pointer (some ⟨t8, 0, none⟩) ∧ t7 ≠ t8 ∧ b0 ≠ t7 ∧ b0 ≠ t8 ∧ w.heap.size ≤ t7 ∧ w.heap.size ≤ t8 ∧ Inv3 w wx b0 t7 t8 #[.int .u8 (l : Nat), .int .u8 (d : Nat), .int .u8 (r : Nat), .int .u8 (s : Nat)] #[.int .u8 (l : Nat), .int .u8 (d : Nat), .int .u8 (r : Nat), .int .u8 (s : Nat)] #[.int .u8 (l : Nat), .int .u8 (d : Nat), .int .u8 (r : Nat), .int .u8 (s : Nat)])
  case first =>
    go_region
    · go_wp2_with fail
      go_meet
      have hlt := H1.out.blk.lt
      have hsz := H1.out.inv.below.size
      exact ⟨W1.heap.size, W1.heap.size + 1, rfl, rfl, by omega, by omega, by omega, by omega, by omega,
        ⟨⟨((H1.out.inv.alloc _).alloc _).env.keep (below_grow _ 1 #[]), bchain ((H1.out.inv.alloc _).alloc _).below (below_grow _ 1 #[])⟩, ((H1.out.blk.alloc _).alloc _).drewN 1, ((Blk.new W1 23 #[.int .u8 (l : Nat), .int .u8 (d : Nat), .int .u8 (r : Nat), .int .u8 (s : Nat)]).alloc _).drewN 1, (Blk.new2 W1 _ 23 #[.int .u8 (l : Nat), .int .u8 (d : Nat), .int .u8 (r : Nat), .int .u8 (s : Nat)]).drewN 1⟩⟩
    · go_wp2_with fail
      go_meet
      have hlt := H1.out.blk.lt
      have hsz := H1.out.inv.below.size
      exact ⟨W1.heap.size + 1, W1.heap.size, rfl, rfl, by omega, by omega, by omega, by omega, by omega,
        ⟨⟨((H1.out.inv.alloc _).alloc _).env.keep (below_grow _ 1 #[]), bchain ((H1.out.inv.alloc _).alloc _).below (below_grow _ 1 #[])⟩, ((H1.out.blk.alloc _).alloc _).drewN 1, (Blk.new2 W1 _ 23 #[.int .u8 (l : Nat), .int .u8 (d : Nat), .int .u8 (r : Nat), .int .u8 (s : Nat)]).drewN 1, ((Blk.new W1 23 #[.int .u8 (l : Nat), .int .u8 (d : Nat), .int .u8 (r : Nat), .int .u8 (s : Nat)]).alloc _).drewN 1⟩⟩
  case rest =>
  obtain ⟨t7, t8, rfl, rfl, n78, n07, n08, g7, g8, hI⟩ := hcut
  have y0 := hI.b9.cell (j := 0) (v := .int .u8 (l : Nat)) rfl
  have y1 := hI.b9.free 0
  have y2 := hI.b9.free 2
  have z2 := hI.b10.free 2
  have y3 := hI.b9.cell (j := 2) (v := .int .u8 (r : Nat)) rfl
  have z3 := hI.b10.cell (j := 2) (v := .int .u8 (r : Nat)) rfl
  have n87 := n78.symm
  have HI := Lib.hid hI
  clear hI H1 x0 x1 x2 x3 hlt
  go_upto_region 7 with fail
  have h4 : Inv3 w (((wc.setCell ⟨t7, 0, none⟩ (.int .u8 (l1 : Nat))).setCell ⟨t7, 2, none⟩ (.int .u8 0)).setCell ⟨t8, 2, none⟩ (.int .u8 0)) b0 t7 t8 #[.int .u8 (l : Nat), .int .u8 (d : Nat), .int .u8 (r : Nat), .int .u8 (s : Nat)] #[.int .u8 (l1 : Nat), .int .u8 (d : Nat), .int .u8 0, .int .u8 (s : Nat)] #[.int .u8 (l : Nat), .int .u8 (d : Nat), .int .u8 0, .int .u8 (s : Nat)] := by
    have hB4 := ((HI.out.inv.below.setCell (p := ⟨t7, 0, none⟩) g7 (.int .u8 (l1 : Nat))).setCell (p := ⟨t7, 2, none⟩) g7 (.int .u8 0)).setCell (p := ⟨t8, 2, none⟩) g8 (.int .u8 0)
    exact ⟨⟨HE.out.keep hB4, hB4⟩, ((HI.out.b0.other n07 0 _).other n07 2 _).other n08 2 _, (((HI.out.b9.set 0 _).set 2 _).other n78 2 _), ((HI.out.b10.other n87 0 _).other n87 2 _).set 2 _⟩
  clear y0 y1 y2 z2 y3 z3
  generalize ((wc.setCell ⟨t7, 0, none⟩ (.int .u8 (l1 : Nat))).setCell ⟨t7, 2, none⟩ (.int .u8 0)).setCell ⟨t8, 2, none⟩ (.int .u8 0) = w4 at *
  clear HI
  have H4 := Lib.hid h4
  clear h4
  go_cut [50] (fun s50 wx => s50 = .bool (decide (6 + l ≤ k ∧ l ≠ 6 ∧ l ≠ 7)) ∧ Inv3 w wx b0 t7 t8 #[.int .u8 (l : Nat), .int .u8 (d : Nat), .int .u8 (r : Nat), .int .u8 (s : Nat)] #[.int .u8 (l1 : Nat), .int .u8 (d : Nat), .int .u8 0, .int .u8 (s : Nat)] #[.int .u8 (l : Nat), .int .u8 (d : Nat), .int .u8 0, .int .u8 (s : Nat)])
  case first =>
    have x0 := H4.out.b0.cell (j := 0) (v := .int .u8 (l : Nat)) rfl
    have x1 := H4.out.b0.cell (j := 1) (v := .int .u8 (d : Nat)) rfl
    have x2 := H4.out.b0.cell (j := 2) (v := .int .u8 (r : Nat)) rfl
    have x3 := H4.out.b0.cell (j := 3) (v := .int .u8 (s : Nat)) rfl
    go_wp2_with fail
    refine (inv3_of (fun w _ => need_pos l d r s w H256.out hg.out H0.out) H4.out).mono ?_
    rintro e w5 ⟨rfl, h5⟩
    clear x0 x1 x2 x3 H4
    have H5 := Lib.hid h5
    have x0 := h5.b0.cell (j := 0) (v := .int .u8 (l : Nat)) rfl
    clear h5
    rcases (by omega : k < 6 + l ∨ (6 + l ≤ k ∧ l = 6) ∨ (6 + l ≤ k ∧ l = 7) ∨ (6 + l ≤ k ∧ l ≠ 6 ∧ l ≠ 7)) with hc | hc | hc | hc
    · have t0 : decide (6 + (l : Int) ≤ (k : Int)) = false := decide_eq_false (by omega)
      go_wp2_with fail
      go_meet
      exact ⟨congrArg Value.bool (decide_eq_false (by omega)).symm, H5.out⟩
    · have t0 : decide (6 + (l : Int) ≤ (k : Int)) = true := decide_eq_true (by omega)
      have t1 : ((l : Int) != 6) = false := by simp; omega
      have hc' := Lib.hid hc
      clear hc
      go_wp2_with fail
      go_meet
      exact ⟨congrArg Value.bool (decide_eq_false (by have := hc'.out; omega)).symm, H5.out⟩
    · have t0 : decide (6 + (l : Int) ≤ (k : Int)) = true := decide_eq_true (by omega)
      have t1 : ((l : Int) != 6) = true := by simp; omega
      have t2 : ((l : Int) != 7) = false := by simp; omega
      have hc' := Lib.hid hc
      clear hc
      go_wp2_with fail
      go_meet
      exact ⟨congrArg Value.bool (decide_eq_false (by have := hc'.out; omega)).symm, H5.out⟩
    · have t0 : decide (6 + (l : Int) ≤ (k : Int)) = true := decide_eq_true (by omega)
      have t1 : ((l : Int) != 6) = true := by simp; omega
      have t2 : ((l : Int) != 7) = true := by simp; omega
      have hc' := Lib.hid hc
      clear hc
      go_wp2_with fail
      go_meet
      exact ⟨congrArg Value.bool (decide_eq_true hc'.out).symm, H5.out⟩
  case rest =>
  obtain ⟨rfl, hI⟩ := hcut
  clear H4
  go_upto_if 50 with fail
  have H5 := Lib.hid hI
  clear hI
  go_cut [4] (fun s4 wx => s4 = .bool false ∧ InvB w wx b0 23 #[.int .u8 (l : Nat), .int .u8 (d : Nat), .int .u8 (r : Nat), .int .u8 (s : Nat)])
  case first =>
    by_cases hc : 6 + l ≤ k ∧ l ≠ 6 ∧ l ≠ 7
    · rw [decide_eq_true hc]
      obtain ⟨ha, hb', hE3⟩ := HAB.out hc.1 hc.2.1 hc.2.2
      have HA := Lib.hid ha
      have HB := Lib.hid hb'
      have HE3 := Lib.hid hE3
      have z0 := H5.out.b10.cell (j := 0) (v := .int .u8 (l : Nat)) rfl
      have z1 := H5.out.b10.cell (j := 1) (v := .int .u8 (d : Nat)) rfl
      have z2 := H5.out.b10.cell (j := 2) (v := .int .u8 0) rfl
      have z3 := H5.out.b10.cell (j := 3) (v := .int .u8 (s : Nat)) rfl
      clear ha hb' hE3 hc
      go_wp2_with fail
      refine (inv3_of HA.out H5.out).mono ?_
      rintro e w6 ⟨rfl, h6⟩
      clear z0 z1 z2 z3 H5
      have H6 := Lib.hid h6
      have y0 := h6.b9.cell (j := 0) (v := .int .u8 (l1 : Nat)) rfl
      have y1 := h6.b9.cell (j := 1) (v := .int .u8 (d : Nat)) rfl
      have y2 := h6.b9.cell (j := 2) (v := .int .u8 0) rfl
      have y3 := h6.b9.cell (j := 3) (v := .int .u8 (s : Nat)) rfl
      clear h6
      go_wp2_with fail
      refine (inv3_of HB.out H6.out).mono ?_
      rintro e w7 ⟨rfl, h7⟩
      clear y0 y1 y2 y3 H6
      have H7 := Lib.hid h7
      have x0 := h7.b0.cell (j := 0) (v := .int .u8 (l : Nat)) rfl
      have x1 := h7.b0.cell (j := 1) (v := .int .u8 (d : Nat)) rfl
      clear h7
      have gi := fun w => game_idx d hd w
      by_cases hgm : l = gameP d
      · have t4 : ((l : Int) == gameZ d) = true := by unfold gameZ; simp; omega
        have HGM := Lib.hid hgm
        clear hgm
        cases v
        · have e4 : a = b + 250 := by rw [HE3.out, HBO.out]; unfold bonusP; rw [if_pos HGM.out]; rfl
          have t5 : (a != b + 250) = false := by simp [e4]
          clear e4
          go_wp2_with fail
          go_meet
          exact ⟨rfl, H7.out.inv, H7.out.b0⟩
        · have e4 : a = b + 450 := by rw [HE3.out, HBO.out]; unfold bonusP; rw [if_pos HGM.out]; rfl
          have t5 : (a != b + 450) = false := by simp [e4]
          clear e4
          go_wp2_with fail
          go_meet
          exact ⟨rfl, H7.out.inv, H7.out.b0⟩
      · have t4 : ((l : Int) == gameZ d) = false := by unfold gameZ; simp; omega
        have HGM := Lib.hid hgm
        clear hgm
        have e4 : a = b := by rw [HE3.out, HBO.out]; unfold bonusP; rw [if_neg HGM.out]; simp
        have t5 : (a != b) = false := by simp [e4]
        clear e4
        go_wp2_with fail
        go_meet
        exact ⟨rfl, H7.out.inv, H7.out.b0⟩
    · rw [decide_eq_false hc]
      clear hc
      go_wp2_with fail
      go_meet
      exact ⟨rfl, H5.out.inv, H5.out.b0⟩
  case rest =>
  obtain ⟨rfl, hI⟩ := hcut
  clear H5
  have gB : w.heap.size ≤ b0 := gb
  have x2 := hI.blk.free 2
  have x3 := hI.blk.cell (j := 2) (v := .int .u8 (r : Nat)) rfl
  have HI := Lib.hid hI
  clear hI
  go_wp2_with fail
  have hst : InvB w (wc.setCell ⟨b0, 2, none⟩ (.int .u8 1)) b0 23 #[.int .u8 (l : Nat), .int .u8 (d : Nat), .int .u8 1, .int .u8 (s : Nat)] := by
    have hB4 := HI.out.inv.below.setCell (p := ⟨b0, 2, none⟩) gB (.int .u8 1)
    exact ⟨⟨HE.out.keep hB4, hB4⟩, HI.out.blk.set 2 _⟩
  generalize wc.setCell ⟨b0, 2, none⟩ (.int .u8 1) = w8 at *
  clear HI x2 x3
  go_loopw [4, 15, 16] (fun v4 v15 v16 wr => ∃ j : Nat, 1 ≤ j ∧ j ≤ 7 + l ∧ v4 = .bool false ∧ v15 = .int .i64 (LP (j - 1)) ∧ v16 = .int .i64 j ∧ InvB w wr b0 23 #[.int .u8 (l : Nat), .int .u8 (d : Nat), .int .u8 1, .int .u8 (s : Nat)]) (fun _ _ v16 _ => 7 + l - (intOf v16).toNat)
  case atStart => exact ⟨1, by omega, by omega, rfl, by rw [show 1 - 1 = 0 from rfl, HL0.out], rfl, hst⟩
  case round =>
    obtain ⟨j, hj1, hj2, rfl, rfl, rfl, hi⟩ := hrel
    clear hst
    have x0 := hi.blk.cell (j := 0) (v := .int .u8 (l : Nat)) rfl
    have x1 := hi.blk.cell (j := 1) (v := .int .u8 (d : Nat)) rfl
    have x2 := hi.blk.cell (j := 2) (v := .int .u8 1) rfl
    have x3 := hi.blk.cell (j := 3) (v := .int .u8 (s : Nat)) rfl
    have HI := Lib.hid hi
    clear hi
    go_wp2_with fail
    refine (invb_of (fun w _ => need_pos l d 1 s w H256.out hg1.out H0.out) HI.out).mono ?_
    rintro e w9 ⟨rfl, h9⟩
    clear x0 x1 x2 x3 HI
    by_cases hjl : j ≤ 6 + l
    · have t0 : decide ((j : Int) ≤ 6 + (l : Int)) = true := decide_eq_true (by omega)
      have x0 := h9.blk.cell (j := 0) (v := .int .u8 (l : Nat)) rfl
      have x1 := h9.blk.cell (j := 1) (v := .int .u8 (d : Nat)) rfl
      have x2 := h9.blk.cell (j := 2) (v := .int .u8 1) rfl
      have x3 := h9.blk.cell (j := 3) (v := .int .u8 (s : Nat)) rfl
      obtain ⟨hO, hE4⟩ := HLP.out j hj1 hjl
      have hbd := HLB.out (j - 1)
      have HO := Lib.hid hO
      have HE4 := Lib.hid hE4
      have HJ := Lib.hid (show LP (j + 1 - 1) = LP j from rfl)
      have H9 := Lib.hid h9
      have t1 : IntKind.i64.wrap (6 + (l : Int) - (j : Int)) = ((6 + l - j : Nat) : Int) := by rw [IntWalk.i64_in _ (by omega)]; omega
      clear hO hE4 h9
      generalize LP j = P at *
      generalize LP (j - 1) = L at *
      have k0 := Since.cell x0
      have k1 := Since.cell x1
      have k2 := Since.cell x2
      have k3 := Since.cell x3
      go_wp2_with fail
      refine region_since (by kernel_rfl) (by kernel_rfl) ?_
      repeat (quiet_step ((first
        | (go_at_call 16; exact Calls.since (need_pos l d 1 s _ H256.out hg1.out H0.out))
        | (go_at_call 15; exact Calls.since (HO.out _ (H9.out.inv.env.keep (Since.property _)))))))
      refine wpQuiet_nil ?_
      rintro w' ⟨u', rfl⟩
      clear k0 k1 k2 k3 x0 x1 x2 x3 t1
      have HN := Lib.hid (H9.out.keep u'.property)
      clear H9
      have hjc := Lib.hid hjl
      have hj1c := Lib.hid hj1
      rcases (by omega : j = 1 ∨ j = 2 ∨ j = 3 ∨ 4 ≤ j) with hj | hj | hj | hj
      · have q1 : ((j : Int) == 1) = true := by simp; omega
        have q2 : ((j : Int) == 2) = false := by simp; omega
        have q3 : ((j : Int) == 3) = false := by simp; omega
        have HJJ := Lib.hid hj
        clear hj
        cases v
        · have hP : P = L - 100 := by
            have hj := HJJ.out
            rw [HE4.out]
            congr 1
            unfold eachP
            rw [if_pos hj]; rfl
          have q5 : (P != L - 100) = false := by simp [hP]
          clear hP
          go_wp2_with fail
          first
            | exact ⟨⟨j + 1, by omega, by have := hjc.out; omega, rfl, by rw [HJ.out], by go_num, HN.out⟩, by have := hjc.out; simp [intOf]; omega⟩
            | (refine ⟨?_, by have := hjc.out; simp [intOf]; omega⟩; (repeat apply Exists.intro); exact ⟨⟨j + 1, by omega, by have := hjc.out; omega, rfl, by rw [HJ.out], by go_num, HN.out⟩, rfl⟩)
        · have hP : P = L - 200 := by
            have hj := HJJ.out
            rw [HE4.out]
            congr 1
            unfold eachP
            rw [if_pos hj]; rfl
          have q5 : (P != L - 200) = false := by simp [hP]
          clear hP
          go_wp2_with fail
          first
            | exact ⟨⟨j + 1, by omega, by have := hjc.out; omega, rfl, by rw [HJ.out], by go_num, HN.out⟩, by have := hjc.out; simp [intOf]; omega⟩
            | (refine ⟨?_, by have := hjc.out; simp [intOf]; omega⟩; (repeat apply Exists.intro); exact ⟨⟨j + 1, by omega, by have := hjc.out; omega, rfl, by rw [HJ.out], by go_num, HN.out⟩, rfl⟩)
      · have q1 : ((j : Int) == 1) = false := by simp; omega
        have q2 : ((j : Int) == 2) = true := by simp; omega
        have q3 : ((j : Int) == 3) = false := by simp; omega
        have HJJ := Lib.hid hj
        clear hj
        cases v
        · have hP : P = L - 200 := by
            have hj := HJJ.out
            rw [HE4.out]
            congr 1
            unfold eachP
            rw [if_neg (by omega), if_neg (by decide), if_pos (by omega)]
          have q5 : (P != L - 200) = false := by simp [hP]
          clear hP
          go_wp2_with fail
          first
            | exact ⟨⟨j + 1, by omega, by have := hjc.out; omega, rfl, by rw [HJ.out], by go_num, HN.out⟩, by have := hjc.out; simp [intOf]; omega⟩
            | (refine ⟨?_, by have := hjc.out; simp [intOf]; omega⟩; (repeat apply Exists.intro); exact ⟨⟨j + 1, by omega, by have := hjc.out; omega, rfl, by rw [HJ.out], by go_num, HN.out⟩, rfl⟩)
        · have hP : P = L - 300 := by
            have hj := HJJ.out
            rw [HE4.out]
            congr 1
            unfold eachP
            rw [if_neg (by omega)]; rfl
          have q5 : (P != L - 300) = false := by simp [hP]
          clear hP
          go_wp2_with fail
          first
            | exact ⟨⟨j + 1, by omega, by have := hjc.out; omega, rfl, by rw [HJ.out], by go_num, HN.out⟩, by have := hjc.out; simp [intOf]; omega⟩
            | (refine ⟨?_, by have := hjc.out; simp [intOf]; omega⟩; (repeat apply Exists.intro); exact ⟨⟨j + 1, by omega, by have := hjc.out; omega, rfl, by rw [HJ.out], by go_num, HN.out⟩, rfl⟩)
      · have q1 : ((j : Int) == 1) = false := by simp; omega
        have q2 : ((j : Int) == 2) = false := by simp; omega
        have q3 : ((j : Int) == 3) = true := by simp; omega
        have HJJ := Lib.hid hj
        clear hj
        cases v
        · have hP : P = L - 200 := by
            have hj := HJJ.out
            rw [HE4.out]
            congr 1
            unfold eachP
            rw [if_neg (by omega), if_neg (by decide), if_pos (by omega)]
          have q5 : (P != L - 200) = false := by simp [hP]
          clear hP
          go_wp2_with fail
          first
            | exact ⟨⟨j + 1, by omega, by have := hjc.out; omega, rfl, by rw [HJ.out], by go_num, HN.out⟩, by have := hjc.out; simp [intOf]; omega⟩
            | (refine ⟨?_, by have := hjc.out; simp [intOf]; omega⟩; (repeat apply Exists.intro); exact ⟨⟨j + 1, by omega, by have := hjc.out; omega, rfl, by rw [HJ.out], by go_num, HN.out⟩, rfl⟩)
        · have hP : P = L - 300 := by
            have hj := HJJ.out
            rw [HE4.out]
            congr 1
            unfold eachP
            rw [if_neg (by omega)]; rfl
          have q5 : (P != L - 300) = false := by simp [hP]
          clear hP
          go_wp2_with fail
          first
            | exact ⟨⟨j + 1, by omega, by have := hjc.out; omega, rfl, by rw [HJ.out], by go_num, HN.out⟩, by have := hjc.out; simp [intOf]; omega⟩
            | (refine ⟨?_, by have := hjc.out; simp [intOf]; omega⟩; (repeat apply Exists.intro); exact ⟨⟨j + 1, by omega, by have := hjc.out; omega, rfl, by rw [HJ.out], by go_num, HN.out⟩, rfl⟩)
      · have q1 : ((j : Int) == 1) = false := by simp; omega
        have q2 : ((j : Int) == 2) = false := by simp; omega
        have q3 : ((j : Int) == 3) = false := by simp; omega
        have HJJ := Lib.hid hj
        clear hj
        cases v
        · have hP : P = L - 300 := by
            have hj := HJJ.out
            rw [HE4.out]
            congr 1
            unfold eachP
            rw [if_neg (by omega), if_neg (by decide), if_neg (by omega)]
          have q5 : (P != L - 300) = false := by simp [hP]
          clear hP
          go_wp2_with fail
          first
            | exact ⟨⟨j + 1, by omega, by have := hjc.out; omega, rfl, by rw [HJ.out], by go_num, HN.out⟩, by have := hjc.out; simp [intOf]; omega⟩
            | (refine ⟨?_, by have := hjc.out; simp [intOf]; omega⟩; (repeat apply Exists.intro); exact ⟨⟨j + 1, by omega, by have := hjc.out; omega, rfl, by rw [HJ.out], by go_num, HN.out⟩, rfl⟩)
        · have hP : P = L - 300 := by
            have hj := HJJ.out
            rw [HE4.out]
            congr 1
            unfold eachP
            rw [if_neg (by omega)]; rfl
          have q5 : (P != L - 300) = false := by simp [hP]
          clear hP
          go_wp2_with fail
          first
            | exact ⟨⟨j + 1, by omega, by have := hjc.out; omega, rfl, by rw [HJ.out], by go_num, HN.out⟩, by have := hjc.out; simp [intOf]; omega⟩
            | (refine ⟨?_, by have := hjc.out; simp [intOf]; omega⟩; (repeat apply Exists.intro); exact ⟨⟨j + 1, by omega, by have := hjc.out; omega, rfl, by rw [HJ.out], by go_num, HN.out⟩, rfl⟩)
    · have t0 : decide ((j : Int) ≤ 6 + (l : Int)) = false := decide_eq_false (by omega)
      go_wp2_with fail
      refine (awake_i h9.inv).mono ?_
      rintro e w10 ⟨rfl, h10⟩
      go_wp2_with fail
      go_ret
      exact ⟨rfl, h10.below⟩
end Go.Proofs.YtgmofikhndlhcaaDoor
