/- The walk of ScoreGrows. -/
import Derived.Test.YtgmofikhndlhcaaDoorAwake
import Derived.Test.YtgmofikhndlhcaaDoorGrowP
namespace Go.Proofs.YtgmofikhndlhcaaDoor
open Go.RowKit

/-- 'of' at known points. -/
def OfC (l d r s : Nat) (k : Int) (v : Bool) (p : Int) : Prop := ∀ w, Env w → Calls Tryd.prog 15 #[.agg #[.int .u8 l, .int .u8 d, .int .u8 r, .int .u8 s], .int .i64 k, .bool v] w fun e w' => e = .returned (.tuple #[.int .i64 p, .bool true]) ∧ Below w.heap.size w w'
theorem ofc_mk (l d r s : Nat) (k : Int) (v : Bool) (p : Int) (hl : l < 256) (h : ptsP l d r s k v = (p, 0)) : OfC l d r s k v p := fun w hw =>
  (of_any l d r s k v w hw.tabs hl).mono fun e w' ⟨he, hb⟩ => ⟨by rw [he, h]; rfl, hb⟩
theorem grow_of (l d r s k : Nat) (v : Bool) (h1 : 1 ≤ l) (h7 : l ≤ 7) (hd : d ≤ 4) (hr : r ≤ 2) (hs : s ≤ 3) (hk : k ≤ 13) :
    ∃ p q1 q2 a b : Int, ptsP l d r s k v = (p, 0) ∧ p.tmod 10 = 0 ∧ -7600 ≤ p ∧ p ≤ 3160 ∧ p ≠ 0 ∧ (k < 13 → ptsP l d r s (k + 1 : Nat) v = (q1, 0) ∧ p < q1) ∧ (0 < p ↔ 6 + l ≤ k) ∧
      (r < 2 → ptsP l d (r + 1) s k v = (q2, 0) ∧ q2 ≠ p ∧ (p < q2 ↔ 6 + l ≤ k)) ∧ ptsP l d r s k false = (a, 0) ∧ ptsP l d r s k true = (b, 0) ∧ (b < a ↔ ¬ 6 + l ≤ k) := by
  have hf := grow_fin ⟨l - 1, by omega⟩ ⟨d, by omega⟩ ⟨r, by omega⟩ ⟨k, by omega⟩
  simp only [Nat.sub_add_cancel h1] at hf
  have hg : growB l d r k v = true := by cases v; exact hf.1; exact hf.2
  refine ⟨(ptsP l d r 0 k v).1, (ptsP l d r 0 (k + 1 : Nat) v).1, (ptsP l d (r + 1) 0 k v).1, (ptsP l d r 0 k false).1, (ptsP l d r 0 k true).1, ?_⟩
  simp only [ptsP_s l d r s _ _ h1 hs, ptsP_s l d (r + 1) s _ _ h1 hs]
  unfold growB at hg
  generalize ptsP l d r 0 k v = P at *
  generalize ptsP l d r 0 (k + 1 : Nat) v = Q at *
  generalize ptsP l d (r + 1) 0 k v = R at *
  generalize ptsP l d r 0 k false = A at *
  generalize ptsP l d r 0 k true = B at *
  obtain ⟨p1, p2⟩ := P
  obtain ⟨q1, q2⟩ := Q
  obtain ⟨r1, r2⟩ := R
  obtain ⟨a1, a2⟩ := A
  obtain ⟨b1, b2⟩ := B
  simp only [Bool.and_eq_true, Bool.or_eq_true, beq_iff_eq, bne_iff_ne, decide_eq_true_eq, decide_eq_decide, ne_eq, Prod.mk.injEq] at hg ⊢
  obtain ⟨⟨⟨⟨⟨⟨⟨⟨⟨⟨g1, g2⟩, g3⟩, g4⟩, g5⟩, g6⟩, g7⟩, g8⟩, g9⟩, g10⟩, g11⟩ := hg
  have g12 : b1 < a1 ↔ ¬ 6 + l ≤ k := by
    rw [← decide_not, decide_eq_decide] at g11
    exact g11
  refine ⟨⟨trivial, g1⟩, g2, g3, g4, g5, fun h => ?_, g7, fun h => ?_, ⟨trivial, g9⟩, ⟨trivial, g10⟩, g12⟩
  · rcases g6 with g | g
    · omega
    · exact ⟨⟨trivial, g.1⟩, g.2⟩
  · rcases g8 with g | g
    · omega
    · exact ⟨⟨trivial, g.1.1⟩, g.1.2, g.2⟩
set_option maxRecDepth 100000 in
set_option maxHeartbeats 4000000 in
theorem grow_zero (n : Nat) (v : Bool) (w : World) (hE : Env w) (hn : n < 4294967296) (h0 : madeL n = 0 ∧ madeD n = 0 ∧ madeR n = 0 ∧ madeS n = 0 ∧ madeK n = 0) :
    Calls Tryd.prog 6 #[.int .u32 n, .bool v] w fun e w' => e = .returned (.bool true) ∧ Below w.heap.size w w' := by
  have HE := Lib.hid hE
  have MC := Lib.hid (fun w => made_c n w hn)
  obtain ⟨a1, a2, a3, a4, a5⟩ := h0
  rw [a1, a2, a3, a4, a5] at MC
  have PC : Hid (OfC 0 0 0 0 (0 : Nat) v 0) := Lib.hid (ofc_mk _ _ _ _ _ _ _ (by decide) (by cases v <;> decide +kernel))
  clear a1 a2 a3 a4 a5 hE
  go_enter Tryd.func6, Tryd.ntmps6
  go_wp2_with fail
  refine (MC.out _).mono ?_
  rintro e w1 ⟨rfl, hb⟩
  have I1 : Inv w (w1.alloc (.cells #[.int .u8 0, .int .u8 0, .int .u8 0, .int .u8 0] 23)) := Inv.alloc ⟨HE.out.keep hb, hb⟩ _
  have H1 := Lib.hid I1
  clear hb I1
  go_wp2_with fail
  refine (PC.out _ H1.out.env).mono ?_
  rintro e w2 ⟨rfl, hb⟩
  have I2 : Inv w w2 := ⟨H1.out.env.keep hb, bchain H1.out.below hb⟩
  have H2 := Lib.hid I2
  have c0 := hb.cell (p := ⟨w1.heap.size, 0, none⟩) (by simp)
  simp at c0
  clear hb I2
  go_wp2_with fail
  refine (awake_i H2.out).mono ?_
  rintro e w3 ⟨rfl, h3⟩
  go_wp2_with fail
  go_ret
  exact ⟨rfl, h3.below⟩
set_option maxRecDepth 100000 in
set_option maxHeartbeats 4000000 in
theorem grow_111 (n l d r s k : Nat) (v : Bool) (w : World) (hE : Env w) (p q1 q2 a b : Int) (MC : Hid (∀ w, Calls Tryd.prog 14 #[.int .u32 n] w fun e w' => e = .returned (.tuple #[.agg #[.int .u8 (l : Nat), .int .u8 (d : Nat), .int .u8 (r : Nat), .int .u8 (s : Nat)], .int .i64 (k : Nat)]) ∧ Below w.heap.size w w'))
    (hl1 : 1 ≤ l) (hl7 : l ≤ 7) (hd : d ≤ 4) (hr : r ≤ 2) (hs : s ≤ 3) (hk : k ≤ 13) (P1 : Hid (OfC l d r s k v p)) (hmod : p.tmod 10 = 0) (hlo : -7600 ≤ p) (hhi : p ≤ 3160) (hne : p ≠ 0)
    (P2 : Hid (OfC l d r s (k + 1 : Nat) v q1)) (hq1 : p < q1) (hk13 : k < 13) (hm : 6 + l ≤ k) (hp : 0 < p)
    (P3 : Hid (OfC l d (r + 1) s k v q2)) (hr2 : r < 2) (hq2 : p < q2) (P4 : Hid (OfC l d r s k false a)) (P5 : Hid (OfC l d r s k true b)) (hab : a ≤ b) :
    Calls Tryd.prog 6 #[.int .u32 n, .bool v] w fun e w' => e = .returned (.bool true) ∧ Below w.heap.size w w' := by
  have HE := Lib.hid hE
  have hg := Lib.hid (rgt_mk l d r s hl1 hl7 hd hr hs)
  have H0 := Lib.hid (show 0 < l by omega)
  have H256 := Lib.hid (show l < 256 by omega)
  have f0 : ((l : Int) == 0) = false := beq_eq_false_iff_ne.2 (by omega)
  have f1 : (p == 0) = false := beq_eq_false_iff_ne.2 hne
  have f2 : decide (p < -7600) = false := decide_eq_false (by omega)
  have f3 : decide (3160 < p) = false := decide_eq_false (by omega)
  have f4 : decide ((k : Int) < 13) = true := decide_eq_true (by omega)
  have f5 : decide (6 + (l : Int) ≤ (k : Int)) = true := decide_eq_true (by omega)
  have f6 : decide (0 < p) = true := decide_eq_true hp
  have f7 : decide ((r : Int) < 2) = true := decide_eq_true (by omega)
  have f8 : decide (q1 ≤ p) = false := decide_eq_false (by omega)
  have f9 : (q2 == p) = false := beq_eq_false_iff_ne.2 (by omega)
  have f10 : decide (p < q2) = true := decide_eq_true hq2
  have f11 : IntKind.u8.wrap ((r : Int) + 1) = (r : Int) + 1 := IntWalk.u8_in _ (by omega)
  have f12 : decide (a ≤ b) = true := decide_eq_true hab
  have f13 : decide (b < a) = false := decide_eq_false (by omega)
  clear hE hne hk13 hr2 hm
  go_enter Tryd.func6, Tryd.ntmps6
  go_wp2_with fail
  refine (MC.out _).mono ?_
  rintro e w1 ⟨rfl, hb⟩
  have hi : InvB w (w1.alloc (.cells #[.int .u8 (l : Nat), .int .u8 (d : Nat), .int .u8 (r : Nat), .int .u8 (s : Nat)] 23)) w1.heap.size 23 #[.int .u8 (l : Nat), .int .u8 (d : Nat), .int .u8 (r : Nat), .int .u8 (s : Nat)] := ⟨Inv.alloc ⟨HE.out.keep hb, hb⟩ _, Blk.new _ _ _⟩
  have H1 := Lib.hid hi
  clear hb hi
  go_wp2_with fail
  refine (invb_of P1.out H1.out).mono ?_
  rintro e w2 ⟨rfl, hi⟩
  have x0 := hi.blk.cell (j := 0) (v := .int .u8 (l : Nat)) rfl
  have x1 := hi.blk.cell (j := 1) (v := .int .u8 (d : Nat)) rfl
  have x2 := hi.blk.cell (j := 2) (v := .int .u8 (r : Nat)) rfl
  have x3 := hi.blk.cell (j := 3) (v := .int .u8 (s : Nat)) rfl
  have Hw2 := Lib.hid hi
  clear hi
  go_wp2_with fail
  refine (invb_of P2.out Hw2.out).mono ?_
  clear x0 x1 x2 x3
  rintro e w3 ⟨rfl, hi⟩
  have x0 := hi.blk.cell (j := 0) (v := .int .u8 (l : Nat)) rfl
  have x1 := hi.blk.cell (j := 1) (v := .int .u8 (d : Nat)) rfl
  have x2 := hi.blk.cell (j := 2) (v := .int .u8 (r : Nat)) rfl
  have x3 := hi.blk.cell (j := 3) (v := .int .u8 (s : Nat)) rfl
  have Hw3 := Lib.hid hi
  clear hi
  go_wp2_with fail
  refine (invb_of (fun w _ => need_pos l d r s w H256.out hg.out H0.out) Hw3.out).mono ?_
  clear x0 x1 x2 x3
  rintro e w4 ⟨rfl, hi⟩
  have x0 := hi.blk.cell (j := 0) (v := .int .u8 (l : Nat)) rfl
  have x1 := hi.blk.cell (j := 1) (v := .int .u8 (d : Nat)) rfl
  have x2 := hi.blk.cell (j := 2) (v := .int .u8 (r : Nat)) rfl
  have x3 := hi.blk.cell (j := 3) (v := .int .u8 (s : Nat)) rfl
  have Hw4 := Lib.hid hi
  clear hi
  go_wp2_with fail
  have H5 := Lib.hid (InvB.alloc Hw4.out (.cells #[.int .u8 (l : Nat), .int .u8 (d : Nat), .int .u8 ((r : Int) + 1), .int .u8 (s : Nat)] 23))
  refine (invb_of P3.out H5.out).mono ?_
  clear x0 x1 x2 x3
  rintro e w6 ⟨rfl, hi⟩
  have x0 := hi.blk.cell (j := 0) (v := .int .u8 (l : Nat)) rfl
  have x1 := hi.blk.cell (j := 1) (v := .int .u8 (d : Nat)) rfl
  have x2 := hi.blk.cell (j := 2) (v := .int .u8 (r : Nat)) rfl
  have x3 := hi.blk.cell (j := 3) (v := .int .u8 (s : Nat)) rfl
  have Hw6 := Lib.hid hi
  clear hi
  go_wp2_with fail
  refine (invb_of P4.out Hw6.out).mono ?_
  clear x0 x1 x2 x3
  rintro e w7 ⟨rfl, hi⟩
  have x0 := hi.blk.cell (j := 0) (v := .int .u8 (l : Nat)) rfl
  have x1 := hi.blk.cell (j := 1) (v := .int .u8 (d : Nat)) rfl
  have x2 := hi.blk.cell (j := 2) (v := .int .u8 (r : Nat)) rfl
  have x3 := hi.blk.cell (j := 3) (v := .int .u8 (s : Nat)) rfl
  have Hw7 := Lib.hid hi
  clear hi
  go_wp2_with fail
  refine (invb_of P5.out Hw7.out).mono ?_
  clear x0 x1 x2 x3
  rintro e w8 ⟨rfl, hi⟩
  have x0 := hi.blk.cell (j := 0) (v := .int .u8 (l : Nat)) rfl
  have x1 := hi.blk.cell (j := 1) (v := .int .u8 (d : Nat)) rfl
  have x2 := hi.blk.cell (j := 2) (v := .int .u8 (r : Nat)) rfl
  have x3 := hi.blk.cell (j := 3) (v := .int .u8 (s : Nat)) rfl
  have Hw8 := Lib.hid hi
  clear hi
  go_wp2_with fail
  refine (awake_i Hw8.out.inv).mono ?_
  rintro e w9 ⟨rfl, h9⟩
  go_wp2_with fail
  go_ret
  exact ⟨rfl, h9.below⟩
set_option maxRecDepth 100000 in
set_option maxHeartbeats 4000000 in
theorem grow_110 (n l d r s k : Nat) (v : Bool) (w : World) (hE : Env w) (p q1 _q2 a b : Int) (MC : Hid (∀ w, Calls Tryd.prog 14 #[.int .u32 n] w fun e w' => e = .returned (.tuple #[.agg #[.int .u8 (l : Nat), .int .u8 (d : Nat), .int .u8 (r : Nat), .int .u8 (s : Nat)], .int .i64 (k : Nat)]) ∧ Below w.heap.size w w'))
    (hl1 : 1 ≤ l) (hl7 : l ≤ 7) (hd : d ≤ 4) (hr : r ≤ 2) (hs : s ≤ 3) (hk : k ≤ 13) (P1 : Hid (OfC l d r s k v p)) (hmod : p.tmod 10 = 0) (hlo : -7600 ≤ p) (hhi : p ≤ 3160) (hne : p ≠ 0)
    (P2 : Hid (OfC l d r s (k + 1 : Nat) v q1)) (hq1 : p < q1) (hk13 : k < 13) (hm : 6 + l ≤ k) (hp : 0 < p)
    (hr2 : 2 ≤ r) (P4 : Hid (OfC l d r s k false a)) (P5 : Hid (OfC l d r s k true b)) (hab : a ≤ b) :
    Calls Tryd.prog 6 #[.int .u32 n, .bool v] w fun e w' => e = .returned (.bool true) ∧ Below w.heap.size w w' := by
  have HE := Lib.hid hE
  have hg := Lib.hid (rgt_mk l d r s hl1 hl7 hd hr hs)
  have H0 := Lib.hid (show 0 < l by omega)
  have H256 := Lib.hid (show l < 256 by omega)
  have f0 : ((l : Int) == 0) = false := beq_eq_false_iff_ne.2 (by omega)
  have f1 : (p == 0) = false := beq_eq_false_iff_ne.2 hne
  have f2 : decide (p < -7600) = false := decide_eq_false (by omega)
  have f3 : decide (3160 < p) = false := decide_eq_false (by omega)
  have f4 : decide ((k : Int) < 13) = true := decide_eq_true (by omega)
  have f5 : decide (6 + (l : Int) ≤ (k : Int)) = true := decide_eq_true (by omega)
  have f6 : decide (0 < p) = true := decide_eq_true hp
  have f7 : decide ((r : Int) < 2) = false := decide_eq_false (by omega)
  have f8 : decide (q1 ≤ p) = false := decide_eq_false (by omega)
  have f12 : decide (a ≤ b) = true := decide_eq_true hab
  have f13 : decide (b < a) = false := decide_eq_false (by omega)
  clear hE hne hk13 hr2 hm
  go_enter Tryd.func6, Tryd.ntmps6
  go_wp2_with fail
  refine (MC.out _).mono ?_
  rintro e w1 ⟨rfl, hb⟩
  have hi : InvB w (w1.alloc (.cells #[.int .u8 (l : Nat), .int .u8 (d : Nat), .int .u8 (r : Nat), .int .u8 (s : Nat)] 23)) w1.heap.size 23 #[.int .u8 (l : Nat), .int .u8 (d : Nat), .int .u8 (r : Nat), .int .u8 (s : Nat)] := ⟨Inv.alloc ⟨HE.out.keep hb, hb⟩ _, Blk.new _ _ _⟩
  have H1 := Lib.hid hi
  clear hb hi
  go_wp2_with fail
  refine (invb_of P1.out H1.out).mono ?_
  rintro e w2 ⟨rfl, hi⟩
  have x0 := hi.blk.cell (j := 0) (v := .int .u8 (l : Nat)) rfl
  have x1 := hi.blk.cell (j := 1) (v := .int .u8 (d : Nat)) rfl
  have x2 := hi.blk.cell (j := 2) (v := .int .u8 (r : Nat)) rfl
  have x3 := hi.blk.cell (j := 3) (v := .int .u8 (s : Nat)) rfl
  have Hw2 := Lib.hid hi
  clear hi
  go_wp2_with fail
  refine (invb_of P2.out Hw2.out).mono ?_
  clear x0 x1 x2 x3
  rintro e w3 ⟨rfl, hi⟩
  have x0 := hi.blk.cell (j := 0) (v := .int .u8 (l : Nat)) rfl
  have x1 := hi.blk.cell (j := 1) (v := .int .u8 (d : Nat)) rfl
  have x2 := hi.blk.cell (j := 2) (v := .int .u8 (r : Nat)) rfl
  have x3 := hi.blk.cell (j := 3) (v := .int .u8 (s : Nat)) rfl
  have Hw3 := Lib.hid hi
  clear hi
  go_wp2_with fail
  refine (invb_of (fun w _ => need_pos l d r s w H256.out hg.out H0.out) Hw3.out).mono ?_
  clear x0 x1 x2 x3
  rintro e w4 ⟨rfl, hi⟩
  have x0 := hi.blk.cell (j := 0) (v := .int .u8 (l : Nat)) rfl
  have x1 := hi.blk.cell (j := 1) (v := .int .u8 (d : Nat)) rfl
  have x2 := hi.blk.cell (j := 2) (v := .int .u8 (r : Nat)) rfl
  have x3 := hi.blk.cell (j := 3) (v := .int .u8 (s : Nat)) rfl
  have Hw4 := Lib.hid hi
  clear hi
  go_wp2_with fail
  refine (invb_of P4.out Hw4.out).mono ?_
  clear x0 x1 x2 x3
  rintro e w7 ⟨rfl, hi⟩
  have x0 := hi.blk.cell (j := 0) (v := .int .u8 (l : Nat)) rfl
  have x1 := hi.blk.cell (j := 1) (v := .int .u8 (d : Nat)) rfl
  have x2 := hi.blk.cell (j := 2) (v := .int .u8 (r : Nat)) rfl
  have x3 := hi.blk.cell (j := 3) (v := .int .u8 (s : Nat)) rfl
  have Hw7 := Lib.hid hi
  clear hi
  go_wp2_with fail
  refine (invb_of P5.out Hw7.out).mono ?_
  clear x0 x1 x2 x3
  rintro e w8 ⟨rfl, hi⟩
  have x0 := hi.blk.cell (j := 0) (v := .int .u8 (l : Nat)) rfl
  have x1 := hi.blk.cell (j := 1) (v := .int .u8 (d : Nat)) rfl
  have x2 := hi.blk.cell (j := 2) (v := .int .u8 (r : Nat)) rfl
  have x3 := hi.blk.cell (j := 3) (v := .int .u8 (s : Nat)) rfl
  have Hw8 := Lib.hid hi
  clear hi
  go_wp2_with fail
  refine (awake_i Hw8.out.inv).mono ?_
  rintro e w9 ⟨rfl, h9⟩
  go_wp2_with fail
  go_ret
  exact ⟨rfl, h9.below⟩
set_option maxRecDepth 100000 in
set_option maxHeartbeats 4000000 in
theorem grow_101 (n l d r s k : Nat) (v : Bool) (w : World) (hE : Env w) (p _q1 q2 a b : Int) (MC : Hid (∀ w, Calls Tryd.prog 14 #[.int .u32 n] w fun e w' => e = .returned (.tuple #[.agg #[.int .u8 (l : Nat), .int .u8 (d : Nat), .int .u8 (r : Nat), .int .u8 (s : Nat)], .int .i64 (k : Nat)]) ∧ Below w.heap.size w w'))
    (hl1 : 1 ≤ l) (hl7 : l ≤ 7) (hd : d ≤ 4) (hr : r ≤ 2) (hs : s ≤ 3) (hk : k ≤ 13) (P1 : Hid (OfC l d r s k v p)) (hmod : p.tmod 10 = 0) (hlo : -7600 ≤ p) (hhi : p ≤ 3160) (hne : p ≠ 0)
    (hk13 : 13 ≤ k) (hm : 6 + l ≤ k) (hp : 0 < p)
    (P3 : Hid (OfC l d (r + 1) s k v q2)) (hr2 : r < 2) (hq2 : p < q2) (P4 : Hid (OfC l d r s k false a)) (P5 : Hid (OfC l d r s k true b)) (hab : a ≤ b) :
    Calls Tryd.prog 6 #[.int .u32 n, .bool v] w fun e w' => e = .returned (.bool true) ∧ Below w.heap.size w w' := by
  have HE := Lib.hid hE
  have hg := Lib.hid (rgt_mk l d r s hl1 hl7 hd hr hs)
  have H0 := Lib.hid (show 0 < l by omega)
  have H256 := Lib.hid (show l < 256 by omega)
  have f0 : ((l : Int) == 0) = false := beq_eq_false_iff_ne.2 (by omega)
  have f1 : (p == 0) = false := beq_eq_false_iff_ne.2 hne
  have f2 : decide (p < -7600) = false := decide_eq_false (by omega)
  have f3 : decide (3160 < p) = false := decide_eq_false (by omega)
  have f4 : decide ((k : Int) < 13) = false := decide_eq_false (by omega)
  have f5 : decide (6 + (l : Int) ≤ (k : Int)) = true := decide_eq_true (by omega)
  have f6 : decide (0 < p) = true := decide_eq_true hp
  have f7 : decide ((r : Int) < 2) = true := decide_eq_true (by omega)
  have f9 : (q2 == p) = false := beq_eq_false_iff_ne.2 (by omega)
  have f10 : decide (p < q2) = true := decide_eq_true hq2
  have f11 : IntKind.u8.wrap ((r : Int) + 1) = (r : Int) + 1 := IntWalk.u8_in _ (by omega)
  have f12 : decide (a ≤ b) = true := decide_eq_true hab
  have f13 : decide (b < a) = false := decide_eq_false (by omega)
  clear hE hne hk13 hr2 hm
  go_enter Tryd.func6, Tryd.ntmps6
  go_wp2_with fail
  refine (MC.out _).mono ?_
  rintro e w1 ⟨rfl, hb⟩
  have hi : InvB w (w1.alloc (.cells #[.int .u8 (l : Nat), .int .u8 (d : Nat), .int .u8 (r : Nat), .int .u8 (s : Nat)] 23)) w1.heap.size 23 #[.int .u8 (l : Nat), .int .u8 (d : Nat), .int .u8 (r : Nat), .int .u8 (s : Nat)] := ⟨Inv.alloc ⟨HE.out.keep hb, hb⟩ _, Blk.new _ _ _⟩
  have H1 := Lib.hid hi
  clear hb hi
  go_wp2_with fail
  refine (invb_of P1.out H1.out).mono ?_
  rintro e w2 ⟨rfl, hi⟩
  have x0 := hi.blk.cell (j := 0) (v := .int .u8 (l : Nat)) rfl
  have x1 := hi.blk.cell (j := 1) (v := .int .u8 (d : Nat)) rfl
  have x2 := hi.blk.cell (j := 2) (v := .int .u8 (r : Nat)) rfl
  have x3 := hi.blk.cell (j := 3) (v := .int .u8 (s : Nat)) rfl
  have Hw2 := Lib.hid hi
  clear hi
  go_wp2_with fail
  refine (invb_of (fun w _ => need_pos l d r s w H256.out hg.out H0.out) Hw2.out).mono ?_
  clear x0 x1 x2 x3
  rintro e w4 ⟨rfl, hi⟩
  have x0 := hi.blk.cell (j := 0) (v := .int .u8 (l : Nat)) rfl
  have x1 := hi.blk.cell (j := 1) (v := .int .u8 (d : Nat)) rfl
  have x2 := hi.blk.cell (j := 2) (v := .int .u8 (r : Nat)) rfl
  have x3 := hi.blk.cell (j := 3) (v := .int .u8 (s : Nat)) rfl
  have Hw4 := Lib.hid hi
  clear hi
  go_wp2_with fail
  have H5 := Lib.hid (InvB.alloc Hw4.out (.cells #[.int .u8 (l : Nat), .int .u8 (d : Nat), .int .u8 ((r : Int) + 1), .int .u8 (s : Nat)] 23))
  refine (invb_of P3.out H5.out).mono ?_
  clear x0 x1 x2 x3
  rintro e w6 ⟨rfl, hi⟩
  have x0 := hi.blk.cell (j := 0) (v := .int .u8 (l : Nat)) rfl
  have x1 := hi.blk.cell (j := 1) (v := .int .u8 (d : Nat)) rfl
  have x2 := hi.blk.cell (j := 2) (v := .int .u8 (r : Nat)) rfl
  have x3 := hi.blk.cell (j := 3) (v := .int .u8 (s : Nat)) rfl
  have Hw6 := Lib.hid hi
  clear hi
  go_wp2_with fail
  refine (invb_of P4.out Hw6.out).mono ?_
  clear x0 x1 x2 x3
  rintro e w7 ⟨rfl, hi⟩
  have x0 := hi.blk.cell (j := 0) (v := .int .u8 (l : Nat)) rfl
  have x1 := hi.blk.cell (j := 1) (v := .int .u8 (d : Nat)) rfl
  have x2 := hi.blk.cell (j := 2) (v := .int .u8 (r : Nat)) rfl
  have x3 := hi.blk.cell (j := 3) (v := .int .u8 (s : Nat)) rfl
  have Hw7 := Lib.hid hi
  clear hi
  go_wp2_with fail
  refine (invb_of P5.out Hw7.out).mono ?_
  clear x0 x1 x2 x3
  rintro e w8 ⟨rfl, hi⟩
  have x0 := hi.blk.cell (j := 0) (v := .int .u8 (l : Nat)) rfl
  have x1 := hi.blk.cell (j := 1) (v := .int .u8 (d : Nat)) rfl
  have x2 := hi.blk.cell (j := 2) (v := .int .u8 (r : Nat)) rfl
  have x3 := hi.blk.cell (j := 3) (v := .int .u8 (s : Nat)) rfl
  have Hw8 := Lib.hid hi
  clear hi
  go_wp2_with fail
  refine (awake_i Hw8.out.inv).mono ?_
  rintro e w9 ⟨rfl, h9⟩
  go_wp2_with fail
  go_ret
  exact ⟨rfl, h9.below⟩
set_option maxRecDepth 100000 in
set_option maxHeartbeats 4000000 in
theorem grow_100 (n l d r s k : Nat) (v : Bool) (w : World) (hE : Env w) (p _q1 _q2 a b : Int) (MC : Hid (∀ w, Calls Tryd.prog 14 #[.int .u32 n] w fun e w' => e = .returned (.tuple #[.agg #[.int .u8 (l : Nat), .int .u8 (d : Nat), .int .u8 (r : Nat), .int .u8 (s : Nat)], .int .i64 (k : Nat)]) ∧ Below w.heap.size w w'))
    (hl1 : 1 ≤ l) (hl7 : l ≤ 7) (hd : d ≤ 4) (hr : r ≤ 2) (hs : s ≤ 3) (hk : k ≤ 13) (P1 : Hid (OfC l d r s k v p)) (hmod : p.tmod 10 = 0) (hlo : -7600 ≤ p) (hhi : p ≤ 3160) (hne : p ≠ 0)
    (hk13 : 13 ≤ k) (hm : 6 + l ≤ k) (hp : 0 < p)
    (hr2 : 2 ≤ r) (P4 : Hid (OfC l d r s k false a)) (P5 : Hid (OfC l d r s k true b)) (hab : a ≤ b) :
    Calls Tryd.prog 6 #[.int .u32 n, .bool v] w fun e w' => e = .returned (.bool true) ∧ Below w.heap.size w w' := by
  have HE := Lib.hid hE
  have hg := Lib.hid (rgt_mk l d r s hl1 hl7 hd hr hs)
  have H0 := Lib.hid (show 0 < l by omega)
  have H256 := Lib.hid (show l < 256 by omega)
  have f0 : ((l : Int) == 0) = false := beq_eq_false_iff_ne.2 (by omega)
  have f1 : (p == 0) = false := beq_eq_false_iff_ne.2 hne
  have f2 : decide (p < -7600) = false := decide_eq_false (by omega)
  have f3 : decide (3160 < p) = false := decide_eq_false (by omega)
  have f4 : decide ((k : Int) < 13) = false := decide_eq_false (by omega)
  have f5 : decide (6 + (l : Int) ≤ (k : Int)) = true := decide_eq_true (by omega)
  have f6 : decide (0 < p) = true := decide_eq_true hp
  have f7 : decide ((r : Int) < 2) = false := decide_eq_false (by omega)
  have f12 : decide (a ≤ b) = true := decide_eq_true hab
  have f13 : decide (b < a) = false := decide_eq_false (by omega)
  clear hE hne hk13 hr2 hm
  go_enter Tryd.func6, Tryd.ntmps6
  go_wp2_with fail
  refine (MC.out _).mono ?_
  rintro e w1 ⟨rfl, hb⟩
  have hi : InvB w (w1.alloc (.cells #[.int .u8 (l : Nat), .int .u8 (d : Nat), .int .u8 (r : Nat), .int .u8 (s : Nat)] 23)) w1.heap.size 23 #[.int .u8 (l : Nat), .int .u8 (d : Nat), .int .u8 (r : Nat), .int .u8 (s : Nat)] := ⟨Inv.alloc ⟨HE.out.keep hb, hb⟩ _, Blk.new _ _ _⟩
  have H1 := Lib.hid hi
  clear hb hi
  go_wp2_with fail
  refine (invb_of P1.out H1.out).mono ?_
  rintro e w2 ⟨rfl, hi⟩
  have x0 := hi.blk.cell (j := 0) (v := .int .u8 (l : Nat)) rfl
  have x1 := hi.blk.cell (j := 1) (v := .int .u8 (d : Nat)) rfl
  have x2 := hi.blk.cell (j := 2) (v := .int .u8 (r : Nat)) rfl
  have x3 := hi.blk.cell (j := 3) (v := .int .u8 (s : Nat)) rfl
  have Hw2 := Lib.hid hi
  clear hi
  go_wp2_with fail
  refine (invb_of (fun w _ => need_pos l d r s w H256.out hg.out H0.out) Hw2.out).mono ?_
  clear x0 x1 x2 x3
  rintro e w4 ⟨rfl, hi⟩
  have x0 := hi.blk.cell (j := 0) (v := .int .u8 (l : Nat)) rfl
  have x1 := hi.blk.cell (j := 1) (v := .int .u8 (d : Nat)) rfl
  have x2 := hi.blk.cell (j := 2) (v := .int .u8 (r : Nat)) rfl
  have x3 := hi.blk.cell (j := 3) (v := .int .u8 (s : Nat)) rfl
  have Hw4 := Lib.hid hi
  clear hi
  go_wp2_with fail
  refine (invb_of P4.out Hw4.out).mono ?_
  clear x0 x1 x2 x3
  rintro e w7 ⟨rfl, hi⟩
  have x0 := hi.blk.cell (j := 0) (v := .int .u8 (l : Nat)) rfl
  have x1 := hi.blk.cell (j := 1) (v := .int .u8 (d : Nat)) rfl
  have x2 := hi.blk.cell (j := 2) (v := .int .u8 (r : Nat)) rfl
  have x3 := hi.blk.cell (j := 3) (v := .int .u8 (s : Nat)) rfl
  have Hw7 := Lib.hid hi
  clear hi
  go_wp2_with fail
  refine (invb_of P5.out Hw7.out).mono ?_
  clear x0 x1 x2 x3
  rintro e w8 ⟨rfl, hi⟩
  have x0 := hi.blk.cell (j := 0) (v := .int .u8 (l : Nat)) rfl
  have x1 := hi.blk.cell (j := 1) (v := .int .u8 (d : Nat)) rfl
  have x2 := hi.blk.cell (j := 2) (v := .int .u8 (r : Nat)) rfl
  have x3 := hi.blk.cell (j := 3) (v := .int .u8 (s : Nat)) rfl
  have Hw8 := Lib.hid hi
  clear hi
  go_wp2_with fail
  refine (awake_i Hw8.out.inv).mono ?_
  rintro e w9 ⟨rfl, h9⟩
  go_wp2_with fail
  go_ret
  exact ⟨rfl, h9.below⟩
set_option maxRecDepth 100000 in
set_option maxHeartbeats 4000000 in
theorem grow_011 (n l d r s k : Nat) (v : Bool) (w : World) (hE : Env w) (p q1 q2 a b : Int) (MC : Hid (∀ w, Calls Tryd.prog 14 #[.int .u32 n] w fun e w' => e = .returned (.tuple #[.agg #[.int .u8 (l : Nat), .int .u8 (d : Nat), .int .u8 (r : Nat), .int .u8 (s : Nat)], .int .i64 (k : Nat)]) ∧ Below w.heap.size w w'))
    (hl1 : 1 ≤ l) (hl7 : l ≤ 7) (hd : d ≤ 4) (hr : r ≤ 2) (hs : s ≤ 3) (hk : k ≤ 13) (P1 : Hid (OfC l d r s k v p)) (hmod : p.tmod 10 = 0) (hlo : -7600 ≤ p) (hhi : p ≤ 3160) (hne : p ≠ 0)
    (P2 : Hid (OfC l d r s (k + 1 : Nat) v q1)) (hq1 : p < q1) (hk13 : k < 13) (hm : k < 6 + l) (hp : p < 0)
    (P3 : Hid (OfC l d (r + 1) s k v q2)) (hr2 : r < 2) (hq2 : q2 < p) (P4 : Hid (OfC l d r s k false a)) (P5 : Hid (OfC l d r s k true b)) (hab : b < a) :
    Calls Tryd.prog 6 #[.int .u32 n, .bool v] w fun e w' => e = .returned (.bool true) ∧ Below w.heap.size w w' := by
  have HE := Lib.hid hE
  have hg := Lib.hid (rgt_mk l d r s hl1 hl7 hd hr hs)
  have H0 := Lib.hid (show 0 < l by omega)
  have H256 := Lib.hid (show l < 256 by omega)
  have f0 : ((l : Int) == 0) = false := beq_eq_false_iff_ne.2 (by omega)
  have f1 : (p == 0) = false := beq_eq_false_iff_ne.2 hne
  have f2 : decide (p < -7600) = false := decide_eq_false (by omega)
  have f3 : decide (3160 < p) = false := decide_eq_false (by omega)
  have f4 : decide ((k : Int) < 13) = true := decide_eq_true (by omega)
  have f5 : decide (6 + (l : Int) ≤ (k : Int)) = false := decide_eq_false (by omega)
  have f6 : decide (0 < p) = false := decide_eq_false (by omega)
  have f7 : decide ((r : Int) < 2) = true := decide_eq_true (by omega)
  have f8 : decide (q1 ≤ p) = false := decide_eq_false (by omega)
  have f9 : (q2 == p) = false := beq_eq_false_iff_ne.2 (by omega)
  have f10 : decide (p < q2) = false := decide_eq_false (by omega)
  have f11 : IntKind.u8.wrap ((r : Int) + 1) = (r : Int) + 1 := IntWalk.u8_in _ (by omega)
  have f12 : decide (a ≤ b) = false := decide_eq_false (by omega)
  have f13 : decide (b < a) = true := decide_eq_true hab
  clear hE hne hk13 hr2 hm
  go_enter Tryd.func6, Tryd.ntmps6
  go_wp2_with fail
  refine (MC.out _).mono ?_
  rintro e w1 ⟨rfl, hb⟩
  have hi : InvB w (w1.alloc (.cells #[.int .u8 (l : Nat), .int .u8 (d : Nat), .int .u8 (r : Nat), .int .u8 (s : Nat)] 23)) w1.heap.size 23 #[.int .u8 (l : Nat), .int .u8 (d : Nat), .int .u8 (r : Nat), .int .u8 (s : Nat)] := ⟨Inv.alloc ⟨HE.out.keep hb, hb⟩ _, Blk.new _ _ _⟩
  have H1 := Lib.hid hi
  clear hb hi
  go_wp2_with fail
  refine (invb_of P1.out H1.out).mono ?_
  rintro e w2 ⟨rfl, hi⟩
  have x0 := hi.blk.cell (j := 0) (v := .int .u8 (l : Nat)) rfl
  have x1 := hi.blk.cell (j := 1) (v := .int .u8 (d : Nat)) rfl
  have x2 := hi.blk.cell (j := 2) (v := .int .u8 (r : Nat)) rfl
  have x3 := hi.blk.cell (j := 3) (v := .int .u8 (s : Nat)) rfl
  have Hw2 := Lib.hid hi
  clear hi
  go_wp2_with fail
  refine (invb_of P2.out Hw2.out).mono ?_
  clear x0 x1 x2 x3
  rintro e w3 ⟨rfl, hi⟩
  have x0 := hi.blk.cell (j := 0) (v := .int .u8 (l : Nat)) rfl
  have x1 := hi.blk.cell (j := 1) (v := .int .u8 (d : Nat)) rfl
  have x2 := hi.blk.cell (j := 2) (v := .int .u8 (r : Nat)) rfl
  have x3 := hi.blk.cell (j := 3) (v := .int .u8 (s : Nat)) rfl
  have Hw3 := Lib.hid hi
  clear hi
  go_wp2_with fail
  refine (invb_of (fun w _ => need_pos l d r s w H256.out hg.out H0.out) Hw3.out).mono ?_
  clear x0 x1 x2 x3
  rintro e w4 ⟨rfl, hi⟩
  have x0 := hi.blk.cell (j := 0) (v := .int .u8 (l : Nat)) rfl
  have x1 := hi.blk.cell (j := 1) (v := .int .u8 (d : Nat)) rfl
  have x2 := hi.blk.cell (j := 2) (v := .int .u8 (r : Nat)) rfl
  have x3 := hi.blk.cell (j := 3) (v := .int .u8 (s : Nat)) rfl
  have Hw4 := Lib.hid hi
  clear hi
  go_wp2_with fail
  have H5 := Lib.hid (InvB.alloc Hw4.out (.cells #[.int .u8 (l : Nat), .int .u8 (d : Nat), .int .u8 ((r : Int) + 1), .int .u8 (s : Nat)] 23))
  refine (invb_of P3.out H5.out).mono ?_
  clear x0 x1 x2 x3
  rintro e w6 ⟨rfl, hi⟩
  have x0 := hi.blk.cell (j := 0) (v := .int .u8 (l : Nat)) rfl
  have x1 := hi.blk.cell (j := 1) (v := .int .u8 (d : Nat)) rfl
  have x2 := hi.blk.cell (j := 2) (v := .int .u8 (r : Nat)) rfl
  have x3 := hi.blk.cell (j := 3) (v := .int .u8 (s : Nat)) rfl
  have Hw6 := Lib.hid hi
  clear hi
  go_wp2_with fail
  refine (invb_of P4.out Hw6.out).mono ?_
  clear x0 x1 x2 x3
  rintro e w7 ⟨rfl, hi⟩
  have x0 := hi.blk.cell (j := 0) (v := .int .u8 (l : Nat)) rfl
  have x1 := hi.blk.cell (j := 1) (v := .int .u8 (d : Nat)) rfl
  have x2 := hi.blk.cell (j := 2) (v := .int .u8 (r : Nat)) rfl
  have x3 := hi.blk.cell (j := 3) (v := .int .u8 (s : Nat)) rfl
  have Hw7 := Lib.hid hi
  clear hi
  go_wp2_with fail
  refine (invb_of P5.out Hw7.out).mono ?_
  clear x0 x1 x2 x3
  rintro e w8 ⟨rfl, hi⟩
  have x0 := hi.blk.cell (j := 0) (v := .int .u8 (l : Nat)) rfl
  have x1 := hi.blk.cell (j := 1) (v := .int .u8 (d : Nat)) rfl
  have x2 := hi.blk.cell (j := 2) (v := .int .u8 (r : Nat)) rfl
  have x3 := hi.blk.cell (j := 3) (v := .int .u8 (s : Nat)) rfl
  have Hw8 := Lib.hid hi
  clear hi
  go_wp2_with fail
  refine (awake_i Hw8.out.inv).mono ?_
  rintro e w9 ⟨rfl, h9⟩
  go_wp2_with fail
  go_ret
  exact ⟨rfl, h9.below⟩
set_option maxRecDepth 100000 in
set_option maxHeartbeats 4000000 in
theorem grow_010 (n l d r s k : Nat) (v : Bool) (w : World) (hE : Env w) (p q1 _q2 a b : Int) (MC : Hid (∀ w, Calls Tryd.prog 14 #[.int .u32 n] w fun e w' => e = .returned (.tuple #[.agg #[.int .u8 (l : Nat), .int .u8 (d : Nat), .int .u8 (r : Nat), .int .u8 (s : Nat)], .int .i64 (k : Nat)]) ∧ Below w.heap.size w w'))
    (hl1 : 1 ≤ l) (hl7 : l ≤ 7) (hd : d ≤ 4) (hr : r ≤ 2) (hs : s ≤ 3) (hk : k ≤ 13) (P1 : Hid (OfC l d r s k v p)) (hmod : p.tmod 10 = 0) (hlo : -7600 ≤ p) (hhi : p ≤ 3160) (hne : p ≠ 0)
    (P2 : Hid (OfC l d r s (k + 1 : Nat) v q1)) (hq1 : p < q1) (hk13 : k < 13) (hm : k < 6 + l) (hp : p < 0)
    (hr2 : 2 ≤ r) (P4 : Hid (OfC l d r s k false a)) (P5 : Hid (OfC l d r s k true b)) (hab : b < a) :
    Calls Tryd.prog 6 #[.int .u32 n, .bool v] w fun e w' => e = .returned (.bool true) ∧ Below w.heap.size w w' := by
  have HE := Lib.hid hE
  have hg := Lib.hid (rgt_mk l d r s hl1 hl7 hd hr hs)
  have H0 := Lib.hid (show 0 < l by omega)
  have H256 := Lib.hid (show l < 256 by omega)
  have f0 : ((l : Int) == 0) = false := beq_eq_false_iff_ne.2 (by omega)
  have f1 : (p == 0) = false := beq_eq_false_iff_ne.2 hne
  have f2 : decide (p < -7600) = false := decide_eq_false (by omega)
  have f3 : decide (3160 < p) = false := decide_eq_false (by omega)
  have f4 : decide ((k : Int) < 13) = true := decide_eq_true (by omega)
  have f5 : decide (6 + (l : Int) ≤ (k : Int)) = false := decide_eq_false (by omega)
  have f6 : decide (0 < p) = false := decide_eq_false (by omega)
  have f7 : decide ((r : Int) < 2) = false := decide_eq_false (by omega)
  have f8 : decide (q1 ≤ p) = false := decide_eq_false (by omega)
  have f12 : decide (a ≤ b) = false := decide_eq_false (by omega)
  have f13 : decide (b < a) = true := decide_eq_true hab
  clear hE hne hk13 hr2 hm
  go_enter Tryd.func6, Tryd.ntmps6
  go_wp2_with fail
  refine (MC.out _).mono ?_
  rintro e w1 ⟨rfl, hb⟩
  have hi : InvB w (w1.alloc (.cells #[.int .u8 (l : Nat), .int .u8 (d : Nat), .int .u8 (r : Nat), .int .u8 (s : Nat)] 23)) w1.heap.size 23 #[.int .u8 (l : Nat), .int .u8 (d : Nat), .int .u8 (r : Nat), .int .u8 (s : Nat)] := ⟨Inv.alloc ⟨HE.out.keep hb, hb⟩ _, Blk.new _ _ _⟩
  have H1 := Lib.hid hi
  clear hb hi
  go_wp2_with fail
  refine (invb_of P1.out H1.out).mono ?_
  rintro e w2 ⟨rfl, hi⟩
  have x0 := hi.blk.cell (j := 0) (v := .int .u8 (l : Nat)) rfl
  have x1 := hi.blk.cell (j := 1) (v := .int .u8 (d : Nat)) rfl
  have x2 := hi.blk.cell (j := 2) (v := .int .u8 (r : Nat)) rfl
  have x3 := hi.blk.cell (j := 3) (v := .int .u8 (s : Nat)) rfl
  have Hw2 := Lib.hid hi
  clear hi
  go_wp2_with fail
  refine (invb_of P2.out Hw2.out).mono ?_
  clear x0 x1 x2 x3
  rintro e w3 ⟨rfl, hi⟩
  have x0 := hi.blk.cell (j := 0) (v := .int .u8 (l : Nat)) rfl
  have x1 := hi.blk.cell (j := 1) (v := .int .u8 (d : Nat)) rfl
  have x2 := hi.blk.cell (j := 2) (v := .int .u8 (r : Nat)) rfl
  have x3 := hi.blk.cell (j := 3) (v := .int .u8 (s : Nat)) rfl
  have Hw3 := Lib.hid hi
  clear hi
  go_wp2_with fail
  refine (invb_of (fun w _ => need_pos l d r s w H256.out hg.out H0.out) Hw3.out).mono ?_
  clear x0 x1 x2 x3
  rintro e w4 ⟨rfl, hi⟩
  have x0 := hi.blk.cell (j := 0) (v := .int .u8 (l : Nat)) rfl
  have x1 := hi.blk.cell (j := 1) (v := .int .u8 (d : Nat)) rfl
  have x2 := hi.blk.cell (j := 2) (v := .int .u8 (r : Nat)) rfl
  have x3 := hi.blk.cell (j := 3) (v := .int .u8 (s : Nat)) rfl
  have Hw4 := Lib.hid hi
  clear hi
  go_wp2_with fail
  refine (invb_of P4.out Hw4.out).mono ?_
  clear x0 x1 x2 x3
  rintro e w7 ⟨rfl, hi⟩
  have x0 := hi.blk.cell (j := 0) (v := .int .u8 (l : Nat)) rfl
  have x1 := hi.blk.cell (j := 1) (v := .int .u8 (d : Nat)) rfl
  have x2 := hi.blk.cell (j := 2) (v := .int .u8 (r : Nat)) rfl
  have x3 := hi.blk.cell (j := 3) (v := .int .u8 (s : Nat)) rfl
  have Hw7 := Lib.hid hi
  clear hi
  go_wp2_with fail
  refine (invb_of P5.out Hw7.out).mono ?_
  clear x0 x1 x2 x3
  rintro e w8 ⟨rfl, hi⟩
  have x0 := hi.blk.cell (j := 0) (v := .int .u8 (l : Nat)) rfl
  have x1 := hi.blk.cell (j := 1) (v := .int .u8 (d : Nat)) rfl
  have x2 := hi.blk.cell (j := 2) (v := .int .u8 (r : Nat)) rfl
  have x3 := hi.blk.cell (j := 3) (v := .int .u8 (s : Nat)) rfl
  have Hw8 := Lib.hid hi
  clear hi
  go_wp2_with fail
  refine (awake_i Hw8.out.inv).mono ?_
  rintro e w9 ⟨rfl, h9⟩
  go_wp2_with fail
  go_ret
  exact ⟨rfl, h9.below⟩
theorem grow_walk (n : Nat) (v : Bool) (w : World) (hE : Env w) (hn : n < 4294967296) :
    Calls Tryd.prog 6 #[.int .u32 n, .bool v] w fun e w' => e = .returned (.bool true) ∧ Below w.heap.size w w' := by
  rcases made_ok n with h0 | ⟨h1, h7, hd, hr, hs, hk⟩
  · exact grow_zero n v w hE hn h0
  · have MC := Lib.hid (fun w => made_c n w hn)
    generalize madeL n = l at *
    generalize madeD n = d at *
    generalize madeR n = r at *
    generalize madeS n = s at *
    generalize madeK n = k at *
    obtain ⟨p, q1, q2, a, b, g1, g2, g3, g4, g5, g6, g7, g8, g9, g10, g11⟩ := grow_of l d r s k v h1 h7 hd hr hs hk
    have h256 : l < 256 := by omega
    have P1 := Lib.hid (ofc_mk l d r s k v p h256 g1)
    have P4 := Lib.hid (ofc_mk l d r s k false a h256 g9)
    have P5 := Lib.hid (ofc_mk l d r s k true b h256 g10)
    rcases Nat.lt_or_ge k (6 + l) with hm | hm
    · have hp : p < 0 := by have := mt g7.1 (by omega); omega
      have hab : b < a := g11.2 (by omega)
      have hk13 : k < 13 := by omega
      obtain ⟨e1, e2⟩ := g6 hk13
      have P2 := Lib.hid (ofc_mk l d r s (k + 1 : Nat) v q1 h256 e1)
      rcases Nat.lt_or_ge r 2 with hr2 | hr2
      · obtain ⟨e3, e4, e5⟩ := g8 hr2
        have hq2 : q2 < p := by have := mt e5.1 (by omega); omega
        exact grow_011 n l d r s k v w hE p q1 q2 a b MC h1 h7 hd hr hs hk P1 g2 g3 g4 g5 P2 e2 hk13 hm hp (Lib.hid (ofc_mk l d (r + 1) s k v q2 h256 e3)) hr2 hq2 P4 P5 hab
      · exact grow_010 n l d r s k v w hE p q1 q2 a b MC h1 h7 hd hr hs hk P1 g2 g3 g4 g5 P2 e2 hk13 hm hp hr2 P4 P5 hab
    · have hp : 0 < p := g7.2 hm
      have hab : a ≤ b := by have := mt g11.1 (by omega); omega
      rcases Nat.lt_or_ge k 13 with hk13 | hk13
      · obtain ⟨e1, e2⟩ := g6 hk13
        have P2 := Lib.hid (ofc_mk l d r s (k + 1 : Nat) v q1 h256 e1)
        rcases Nat.lt_or_ge r 2 with hr2 | hr2
        · obtain ⟨e3, e4, e5⟩ := g8 hr2
          exact grow_111 n l d r s k v w hE p q1 q2 a b MC h1 h7 hd hr hs hk P1 g2 g3 g4 g5 P2 e2 hk13 hm hp (Lib.hid (ofc_mk l d (r + 1) s k v q2 h256 e3)) hr2 (e5.2 hm) P4 P5 hab
        · exact grow_110 n l d r s k v w hE p q1 q2 a b MC h1 h7 hd hr hs hk P1 g2 g3 g4 g5 P2 e2 hk13 hm hp hr2 P4 P5 hab
      · rcases Nat.lt_or_ge r 2 with hr2 | hr2
        · obtain ⟨e3, e4, e5⟩ := g8 hr2
          exact grow_101 n l d r s k v w hE p q1 q2 a b MC h1 h7 hd hr hs hk P1 g2 g3 g4 g5 hk13 hm hp (Lib.hid (ofc_mk l d (r + 1) s k v q2 h256 e3)) hr2 (e5.2 hm) P4 P5 hab
        · exact grow_100 n l d r s k v w hE p q1 q2 a b MC h1 h7 hd hr hs hk P1 g2 g3 g4 g5 hk13 hm hp hr2 P4 P5 hab
end Go.Proofs.YtgmofikhndlhcaaDoor
