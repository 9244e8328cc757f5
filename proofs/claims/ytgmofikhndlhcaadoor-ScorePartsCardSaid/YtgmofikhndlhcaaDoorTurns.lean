/- The walk of ScoreTurns. -/
import Derived.Test.YtgmofikhndlhcaaDoorAwake
import Derived.Test.YtgmofikhndlhcaaDoorGrowP
namespace Go.Proofs.YtgmofikhndlhcaaDoor
open Go.RowKit

def ScC (l d r s k u : Nat) (p : Int) : Prop := ∀ w, Env w → Calls Tryd.prog 17 #[.agg #[.int .u8 l, .int .u8 d, .int .u8 r, .int .u8 s], .int .i64 (k : Nat), .int .u8 (u : Nat)] w fun e w' => e = .returned (.tuple #[.int .i64 p, .int .i64 0]) ∧ Below w.heap.size w w'
theorem scc_mk (l d r s k u : Nat) (p : Int) (hl : l < 256) (h : scoreP l d r s k u = (p, 0)) : ScC l d r s k u p := fun w hw =>
  (score_any l d r s k u w hw.tabs hl).mono fun e w' ⟨he, hb⟩ => ⟨by rw [he, h], hb⟩
def PtC (l d r s k : Nat) (v : Bool) (p : Int) : Prop := ∀ w, Env w → Calls Tryd.prog 18 #[.agg #[.int .u8 l, .int .u8 d, .int .u8 r, .int .u8 s], .int .i64 (k : Nat), .bool v] w fun e w' => e = .returned (.tuple #[.int .i64 p, .int .i64 0]) ∧ Below w.heap.size w w'
theorem ptc_mk (l d r s k : Nat) (v : Bool) (p : Int) (hl : l < 256) (h : ptsP l d r s k v = (p, 0)) : PtC l d r s k v p := fun w hw =>
  (points_any l d r s k v w hw.tabs hl).mono fun e w' ⟨he, hb⟩ => ⟨by rw [he, h], hb⟩
structure Inv3 (w0 w : World) (b t9 t10 : Nat) (c c9 c10 : Array Value) : Prop where
  inv : Inv w0 w
  b0 : Blk w b 23 c
  b9 : Blk w t9 23 c9
  b10 : Blk w t10 23 c10
theorem Inv3.keep {w0 w w' : World} {b t9 t10 : Nat} {c c9 c10 : Array Value} (hi : Inv3 w0 w b t9 t10 c c9 c10) (hb : Below w.heap.size w w') : Inv3 w0 w' b t9 t10 c c9 c10 :=
  ⟨⟨hi.inv.env.keep hb, bchain hi.inv.below hb⟩, hi.b0.keep hb hi.b0.lt, hi.b9.keep hb hi.b9.lt, hi.b10.keep hb hi.b10.lt⟩
theorem inv3_of {f : FuncId} {args : Array Value} {v : Value} (h : ∀ w, Env w → Calls Tryd.prog f args w (fun e w' => e = .returned v ∧ Below w.heap.size w w')) {w0 w : World} {b t9 t10 : Nat} {c c9 c10 : Array Value} (hi : Inv3 w0 w b t9 t10 c c9 c10) :
    Calls Tryd.prog f args w (fun e w' => e = .returned v ∧ Inv3 w0 w' b t9 t10 c c9 c10) :=
  (h w hi.inv.env).mono fun _ _ ⟨he, hb⟩ => ⟨he, hi.keep hb⟩
set_option maxRecDepth 100000 in
set_option maxHeartbeats 4000000 in
theorem turns_even (n m l d r s k u s1 s2 u1 : Nat) (w : World) (hE : Env w) (p p2 : Int) (MC : Hid (∀ w, Calls Tryd.prog 14 #[.int .u32 n] w fun e w' => e = .returned (.tuple #[.agg #[.int .u8 (l : Nat), .int .u8 (d : Nat), .int .u8 (r : Nat), .int .u8 (s : Nat)], .int .i64 (k : Nat)]) ∧ Below w.heap.size w w'))
    (hl1 : 1 ≤ l) (hl7 : l ≤ 7) (hs : s ≤ 3) (hlo : -10000 ≤ p) (hhi : p ≤ 10000) (hp0 : p ≠ 0) (hu4 : u < 4) (hu : m % 4 = u) (hp2 : p2 = -p)
    (S1 : Hid (ScC l d r s k u p)) (S2 : Hid (ScC l d r s1 k u1 p2)) (S3 : Hid (ScC l d r s2 k u p)) (S4 : Hid (PtC l d r s k (vulP u s) p)) (hs1 : (s + 1) % 4 = s1) (hs2 : (s + 2) % 4 = s2) (hpar : s % 2 = 0)
    (f10 : bits BinOp.or IntKind.u8 ((u : Int) / 2) (bits BinOp.and IntKind.u8 ((u : Int) * 2) 2) = (u1 : Int)) :
    Calls Tryd.prog 7 #[.int .u32 n, .int .u8 m] w fun e w' => e = .returned (.bool true) ∧ Below w.heap.size w w' := by
  have HE := Lib.hid hE
  have f0 : ((l : Int) == 0) = false := beq_eq_false_iff_ne.2 (by omega)
  have f1 : (m : Int) % 4 = (u : Int) := by omega
  have f2 : ((s : Int) + 1) % 4 = (s1 : Int) := by omega
  have f3 : ((s : Int) + 2) % 4 = (s2 : Int) := by omega
  have f4 : ((s : Int) + 1).tmod 4 = (s1 : Int) := by rw [Int.tmod_eq_emod_of_nonneg (by omega)]; omega
  have f5 : ((s : Int) + 2).tmod 4 = (s2 : Int) := by rw [Int.tmod_eq_emod_of_nonneg (by omega)]; omega
  have f6 : IntKind.u8.wrap ((s : Int) + 1) = (s : Int) + 1 := IntWalk.u8_in _ (by omega)
  have f7 : IntKind.u8.wrap ((s : Int) + 2) = (s : Int) + 2 := IntWalk.u8_in _ (by omega)
  have f8 : IntKind.u8.wrap (s1 : Int) = (s1 : Int) := IntWalk.u8_in _ (by omega)
  have f9 : IntKind.u8.wrap (s2 : Int) = (s2 : Int) := IntWalk.u8_in _ (by omega)
  have f11 : (p2 == -p) = true := beq_iff_eq.2 hp2
  have f12 : (s : Int) % 2 = 0 := by omega
  have f13 : (p == p2) = false := beq_eq_false_iff_ne.2 (by omega)
  have f14 : (p == -p2) = true := beq_iff_eq.2 (by omega)
  have f15 : IntKind.i64.wrap (-p2) = -p2 := IntWalk.i64_in _ (by omega)
  clear hE hpar hp2 hs1 hs2 hu
  go_enter Tryd.func7, Tryd.ntmps7
  go_wp2_with fail
  refine (MC.out _).mono ?_
  rintro e w1 ⟨rfl, hb⟩
  have hi : InvB w (w1.alloc (.cells #[.int .u8 (l : Nat), .int .u8 (d : Nat), .int .u8 (r : Nat), .int .u8 (s : Nat)] 23)) w1.heap.size 23 #[.int .u8 (l : Nat), .int .u8 (d : Nat), .int .u8 (r : Nat), .int .u8 (s : Nat)] := ⟨Inv.alloc ⟨HE.out.keep hb, hb⟩ _, Blk.new _ _ _⟩
  have H1 := Lib.hid hi
  clear hb hi
  go_wp2_with fail
  refine (invb_of S1.out H1.out).mono ?_
  rintro e w2 ⟨rfl, hi⟩
  have x0 := hi.blk.cell (j := 0) (v := .int .u8 (l : Nat)) rfl
  have x1 := hi.blk.cell (j := 1) (v := .int .u8 (d : Nat)) rfl
  have x2 := hi.blk.cell (j := 2) (v := .int .u8 (r : Nat)) rfl
  have x3 := hi.blk.cell (j := 3) (v := .int .u8 (s : Nat)) rfl
  have hlt : w1.heap.size < w2.heap.size := hi.blk.lt
  have Hw2 := Lib.hid hi
  clear hi
  go_wp2_with fail
  go_region
  · have G : Inv3 w (((w2.alloc (.cells #[.int .u8 (l : Nat), .int .u8 (d : Nat), .int .u8 (r : Nat), .int .u8 (s : Nat)] 23)).alloc (.cells #[.int .u8 (l : Nat), .int .u8 (d : Nat), .int .u8 (r : Nat), .int .u8 (s : Nat)] 23)).drewN 1) w1.heap.size (w2.heap.size) (w2.heap.size + 1) #[.int .u8 (l : Nat), .int .u8 (d : Nat), .int .u8 (r : Nat), .int .u8 (s : Nat)] #[.int .u8 (l : Nat), .int .u8 (d : Nat), .int .u8 (r : Nat), .int .u8 (s : Nat)] #[.int .u8 (l : Nat), .int .u8 (d : Nat), .int .u8 (r : Nat), .int .u8 (s : Nat)] :=
      ⟨⟨((Hw2.out.inv.alloc _).alloc _).env.keep (below_grow _ 1 #[]), bchain ((Hw2.out.inv.alloc _).alloc _).below (below_grow _ 1 #[])⟩, ((Hw2.out.blk.alloc _).alloc _).drewN 1, ((Blk.new w2 23 #[.int .u8 (l : Nat), .int .u8 (d : Nat), .int .u8 (r : Nat), .int .u8 (s : Nat)]).alloc _).drewN 1, by simpa using (Blk.new (w2.alloc (.cells #[.int .u8 (l : Nat), .int .u8 (d : Nat), .int .u8 (r : Nat), .int .u8 (s : Nat)] 23)) 23 #[.int .u8 (l : Nat), .int .u8 (d : Nat), .int .u8 (r : Nat), .int .u8 (s : Nat)]).drewN 1⟩
    have n1 : w1.heap.size ≠ w2.heap.size := by omega
    have n2 : w1.heap.size ≠ w2.heap.size + 1 := by omega
    have n3 : w2.heap.size ≠ w2.heap.size + 1 := by omega
    have g0 := Hw2.out.inv.below.size
    have g9 : w.heap.size ≤ w2.heap.size := by omega
    have g10 : w.heap.size ≤ w2.heap.size + 1 := by omega
    change Inv3 _ (((w2.alloc (.cells #[.int .u8 (l : Nat), .int .u8 (d : Nat), .int .u8 (r : Nat), .int .u8 (s : Nat)] 23)).alloc (.cells #[.int .u8 (l : Nat), .int .u8 (d : Nat), .int .u8 (r : Nat), .int .u8 (s : Nat)] 23)).drew) _ _ _ _ _ _ at G
    clear x0 x1 x2 x3 hlt Hw2 H1 g0
    generalize ((w2.alloc (.cells #[.int .u8 (l : Nat), .int .u8 (d : Nat), .int .u8 (r : Nat), .int .u8 (s : Nat)] 23)).alloc (.cells #[.int .u8 (l : Nat), .int .u8 (d : Nat), .int .u8 (r : Nat), .int .u8 (s : Nat)] 23)).drew = w3 at *
    generalize w2.heap.size + 1 = t10 at *
    generalize w2.heap.size = t9 at *
    generalize w1.heap.size = b0 at *
    have y3 := G.b9.cell (j := 3) (v := .int .u8 (s : Nat)) rfl
    have z3 := G.b10.cell (j := 3) (v := .int .u8 (s : Nat)) rfl
    have y4 := G.b9.free 3
    have z4 := G.b10.free 3
    have n4 := n3.symm
    have H3 := Lib.hid G
    clear G
    have x0 := H3.out.b0.cell (j := 0) (v := .int .u8 (l : Nat)) rfl
    have x1 := H3.out.b0.cell (j := 1) (v := .int .u8 (d : Nat)) rfl
    have x2 := H3.out.b0.cell (j := 2) (v := .int .u8 (r : Nat)) rfl
    have x3 := H3.out.b0.cell (j := 3) (v := .int .u8 (s : Nat)) rfl
    go_wp2_with fail
    go_region
    have hB4 := ((H3.out.inv.below.setCell (p := ⟨t9, 3, none⟩) g9 (.int .u8 (s1 : Nat))).setCell (p := ⟨t10, 3, none⟩) g10 (.int .u8 (s2 : Nat))).drew
    have H4 : Hid (Inv3 w ((w3.setCell ⟨t9, 3, none⟩ (.int .u8 (s1 : Nat))).setCell ⟨t10, 3, none⟩ (.int .u8 (s2 : Nat))).drew b0 t9 t10 #[.int .u8 (l : Nat), .int .u8 (d : Nat), .int .u8 (r : Nat), .int .u8 (s : Nat)] #[.int .u8 (l : Nat), .int .u8 (d : Nat), .int .u8 (r : Nat), .int .u8 (s1 : Nat)] #[.int .u8 (l : Nat), .int .u8 (d : Nat), .int .u8 (r : Nat), .int .u8 (s2 : Nat)]) := Lib.hid
      ⟨⟨HE.out.keep hB4, hB4⟩, ((H3.out.b0.other n1 3 _).other n2 3 _).drewN 1, ((H3.out.b9.set 3 _).other n3 3 _).drewN 1, ((H3.out.b10.other n4 3 _).set 3 _).drewN 1⟩
    clear x0 x1 x2 x3 y3 z3 y4 z4 hB4 H3
    generalize ((w3.setCell ⟨t9, 3, none⟩ (.int .u8 (s1 : Nat))).setCell ⟨t10, 3, none⟩ (.int .u8 (s2 : Nat))).drew = w4 at *
    have x0 := H4.out.b0.cell (j := 0) (v := .int .u8 (l : Nat)) rfl
    have x1 := H4.out.b0.cell (j := 1) (v := .int .u8 (d : Nat)) rfl
    have x2 := H4.out.b0.cell (j := 2) (v := .int .u8 (r : Nat)) rfl
    have x3 := H4.out.b0.cell (j := 3) (v := .int .u8 (s : Nat)) rfl
    have y0 := H4.out.b9.cell (j := 0) (v := .int .u8 (l : Nat)) rfl
    have y1 := H4.out.b9.cell (j := 1) (v := .int .u8 (d : Nat)) rfl
    have y2 := H4.out.b9.cell (j := 2) (v := .int .u8 (r : Nat)) rfl
    have y3 := H4.out.b9.cell (j := 3) (v := .int .u8 (s1 : Nat)) rfl
    have z0 := H4.out.b10.cell (j := 0) (v := .int .u8 (l : Nat)) rfl
    have z1 := H4.out.b10.cell (j := 1) (v := .int .u8 (d : Nat)) rfl
    have z2 := H4.out.b10.cell (j := 2) (v := .int .u8 (r : Nat)) rfl
    have z3 := H4.out.b10.cell (j := 3) (v := .int .u8 (s2 : Nat)) rfl
    go_wp2_with fail
    refine (inv3_of S2.out H4.out).mono ?_
    rintro e w5 ⟨rfl, h5⟩
    have H5 := Lib.hid h5
    clear h5 x0 x1 x2 x3 y0 y1 y2 y3 z0 z1 z2 z3 H4
    have x0 := H5.out.b0.cell (j := 0) (v := .int .u8 (l : Nat)) rfl
    have x1 := H5.out.b0.cell (j := 1) (v := .int .u8 (d : Nat)) rfl
    have x2 := H5.out.b0.cell (j := 2) (v := .int .u8 (r : Nat)) rfl
    have x3 := H5.out.b0.cell (j := 3) (v := .int .u8 (s : Nat)) rfl
    have z0 := H5.out.b10.cell (j := 0) (v := .int .u8 (l : Nat)) rfl
    have z1 := H5.out.b10.cell (j := 1) (v := .int .u8 (d : Nat)) rfl
    have z2 := H5.out.b10.cell (j := 2) (v := .int .u8 (r : Nat)) rfl
    have z3 := H5.out.b10.cell (j := 3) (v := .int .u8 (s2 : Nat)) rfl
    go_wp2_with fail
    refine (inv3_of S3.out H5.out).mono ?_
    rintro e w6 ⟨rfl, h6⟩
    have H6 := Lib.hid h6
    clear h6 x0 x1 x2 x3 z0 z1 z2 z3 H5
    have x0 := H6.out.b0.cell (j := 0) (v := .int .u8 (l : Nat)) rfl
    have x1 := H6.out.b0.cell (j := 1) (v := .int .u8 (d : Nat)) rfl
    have x2 := H6.out.b0.cell (j := 2) (v := .int .u8 (r : Nat)) rfl
    have x3 := H6.out.b0.cell (j := 3) (v := .int .u8 (s : Nat)) rfl
    have k0 := Since.cell x0
    have k1 := Since.cell x1
    have k2 := Since.cell x2
    have k3 := Since.cell x3
    go_wp2_with fail
    refine region_since (by kernel_rfl) (by kernel_rfl) ?_
    repeat (quiet_step ((first
      | (go_at_call 19; exact Calls.since ((vul_any u s _).mono fun e w' ⟨he, hw⟩ => ⟨he, below_pure hw⟩))
      | (go_at_call 18; exact Calls.since (S4.out _ (H6.out.inv.env.keep (Since.property _)))))))
    refine wpQuiet_nil ?_
    rintro w' ⟨u', rfl⟩
    have H7 : Hid (Inv3 w u'.val b0 t9 t10 #[.int .u8 (l : Nat), .int .u8 (d : Nat), .int .u8 (r : Nat), .int .u8 (s : Nat)] #[.int .u8 (l : Nat), .int .u8 (d : Nat), .int .u8 (r : Nat), .int .u8 (s1 : Nat)] #[.int .u8 (l : Nat), .int .u8 (d : Nat), .int .u8 (r : Nat), .int .u8 (s2 : Nat)]) := Lib.hid (H6.out.keep u'.property)
    clear H6
    go_wp2_with fail
    refine (awake_i H7.out.inv).mono ?_
    rintro e w8 ⟨rfl, h8⟩
    go_wp2_with fail
    go_ret
    exact ⟨rfl, h8.below⟩
  · have G : Inv3 w (((w2.alloc (.cells #[.int .u8 (l : Nat), .int .u8 (d : Nat), .int .u8 (r : Nat), .int .u8 (s : Nat)] 23)).alloc (.cells #[.int .u8 (l : Nat), .int .u8 (d : Nat), .int .u8 (r : Nat), .int .u8 (s : Nat)] 23)).drewN 1) w1.heap.size (w2.heap.size + 1) (w2.heap.size) #[.int .u8 (l : Nat), .int .u8 (d : Nat), .int .u8 (r : Nat), .int .u8 (s : Nat)] #[.int .u8 (l : Nat), .int .u8 (d : Nat), .int .u8 (r : Nat), .int .u8 (s : Nat)] #[.int .u8 (l : Nat), .int .u8 (d : Nat), .int .u8 (r : Nat), .int .u8 (s : Nat)] :=
      ⟨⟨((Hw2.out.inv.alloc _).alloc _).env.keep (below_grow _ 1 #[]), bchain ((Hw2.out.inv.alloc _).alloc _).below (below_grow _ 1 #[])⟩, ((Hw2.out.blk.alloc _).alloc _).drewN 1, by simpa using (Blk.new (w2.alloc (.cells #[.int .u8 (l : Nat), .int .u8 (d : Nat), .int .u8 (r : Nat), .int .u8 (s : Nat)] 23)) 23 #[.int .u8 (l : Nat), .int .u8 (d : Nat), .int .u8 (r : Nat), .int .u8 (s : Nat)]).drewN 1, ((Blk.new w2 23 #[.int .u8 (l : Nat), .int .u8 (d : Nat), .int .u8 (r : Nat), .int .u8 (s : Nat)]).alloc _).drewN 1⟩
    have n1 : w1.heap.size ≠ w2.heap.size + 1 := by omega
    have n2 : w1.heap.size ≠ w2.heap.size := by omega
    have n3 : w2.heap.size + 1 ≠ w2.heap.size := by omega
    have g0 := Hw2.out.inv.below.size
    have g9 : w.heap.size ≤ w2.heap.size + 1 := by omega
    have g10 : w.heap.size ≤ w2.heap.size := by omega
    change Inv3 _ (((w2.alloc (.cells #[.int .u8 (l : Nat), .int .u8 (d : Nat), .int .u8 (r : Nat), .int .u8 (s : Nat)] 23)).alloc (.cells #[.int .u8 (l : Nat), .int .u8 (d : Nat), .int .u8 (r : Nat), .int .u8 (s : Nat)] 23)).drew) _ _ _ _ _ _ at G
    clear x0 x1 x2 x3 hlt Hw2 H1 g0
    generalize ((w2.alloc (.cells #[.int .u8 (l : Nat), .int .u8 (d : Nat), .int .u8 (r : Nat), .int .u8 (s : Nat)] 23)).alloc (.cells #[.int .u8 (l : Nat), .int .u8 (d : Nat), .int .u8 (r : Nat), .int .u8 (s : Nat)] 23)).drew = w3 at *
    generalize w2.heap.size + 1 = t9 at *
    generalize w2.heap.size = t10 at *
    generalize w1.heap.size = b0 at *
    have y3 := G.b9.cell (j := 3) (v := .int .u8 (s : Nat)) rfl
    have z3 := G.b10.cell (j := 3) (v := .int .u8 (s : Nat)) rfl
    have y4 := G.b9.free 3
    have z4 := G.b10.free 3
    have n4 := n3.symm
    have H3 := Lib.hid G
    clear G
    have x0 := H3.out.b0.cell (j := 0) (v := .int .u8 (l : Nat)) rfl
    have x1 := H3.out.b0.cell (j := 1) (v := .int .u8 (d : Nat)) rfl
    have x2 := H3.out.b0.cell (j := 2) (v := .int .u8 (r : Nat)) rfl
    have x3 := H3.out.b0.cell (j := 3) (v := .int .u8 (s : Nat)) rfl
    go_wp2_with fail
    go_region
    have hB4 := ((H3.out.inv.below.setCell (p := ⟨t9, 3, none⟩) g9 (.int .u8 (s1 : Nat))).setCell (p := ⟨t10, 3, none⟩) g10 (.int .u8 (s2 : Nat))).drew
    have H4 : Hid (Inv3 w ((w3.setCell ⟨t9, 3, none⟩ (.int .u8 (s1 : Nat))).setCell ⟨t10, 3, none⟩ (.int .u8 (s2 : Nat))).drew b0 t9 t10 #[.int .u8 (l : Nat), .int .u8 (d : Nat), .int .u8 (r : Nat), .int .u8 (s : Nat)] #[.int .u8 (l : Nat), .int .u8 (d : Nat), .int .u8 (r : Nat), .int .u8 (s1 : Nat)] #[.int .u8 (l : Nat), .int .u8 (d : Nat), .int .u8 (r : Nat), .int .u8 (s2 : Nat)]) := Lib.hid
      ⟨⟨HE.out.keep hB4, hB4⟩, ((H3.out.b0.other n1 3 _).other n2 3 _).drewN 1, ((H3.out.b9.set 3 _).other n3 3 _).drewN 1, ((H3.out.b10.other n4 3 _).set 3 _).drewN 1⟩
    clear x0 x1 x2 x3 y3 z3 y4 z4 hB4 H3
    generalize ((w3.setCell ⟨t9, 3, none⟩ (.int .u8 (s1 : Nat))).setCell ⟨t10, 3, none⟩ (.int .u8 (s2 : Nat))).drew = w4 at *
    have x0 := H4.out.b0.cell (j := 0) (v := .int .u8 (l : Nat)) rfl
    have x1 := H4.out.b0.cell (j := 1) (v := .int .u8 (d : Nat)) rfl
    have x2 := H4.out.b0.cell (j := 2) (v := .int .u8 (r : Nat)) rfl
    have x3 := H4.out.b0.cell (j := 3) (v := .int .u8 (s : Nat)) rfl
    have y0 := H4.out.b9.cell (j := 0) (v := .int .u8 (l : Nat)) rfl
    have y1 := H4.out.b9.cell (j := 1) (v := .int .u8 (d : Nat)) rfl
    have y2 := H4.out.b9.cell (j := 2) (v := .int .u8 (r : Nat)) rfl
    have y3 := H4.out.b9.cell (j := 3) (v := .int .u8 (s1 : Nat)) rfl
    have z0 := H4.out.b10.cell (j := 0) (v := .int .u8 (l : Nat)) rfl
    have z1 := H4.out.b10.cell (j := 1) (v := .int .u8 (d : Nat)) rfl
    have z2 := H4.out.b10.cell (j := 2) (v := .int .u8 (r : Nat)) rfl
    have z3 := H4.out.b10.cell (j := 3) (v := .int .u8 (s2 : Nat)) rfl
    go_wp2_with fail
    refine (inv3_of S2.out H4.out).mono ?_
    rintro e w5 ⟨rfl, h5⟩
    have H5 := Lib.hid h5
    clear h5 x0 x1 x2 x3 y0 y1 y2 y3 z0 z1 z2 z3 H4
    have x0 := H5.out.b0.cell (j := 0) (v := .int .u8 (l : Nat)) rfl
    have x1 := H5.out.b0.cell (j := 1) (v := .int .u8 (d : Nat)) rfl
    have x2 := H5.out.b0.cell (j := 2) (v := .int .u8 (r : Nat)) rfl
    have x3 := H5.out.b0.cell (j := 3) (v := .int .u8 (s : Nat)) rfl
    have z0 := H5.out.b10.cell (j := 0) (v := .int .u8 (l : Nat)) rfl
    have z1 := H5.out.b10.cell (j := 1) (v := .int .u8 (d : Nat)) rfl
    have z2 := H5.out.b10.cell (j := 2) (v := .int .u8 (r : Nat)) rfl
    have z3 := H5.out.b10.cell (j := 3) (v := .int .u8 (s2 : Nat)) rfl
    go_wp2_with fail
    refine (inv3_of S3.out H5.out).mono ?_
    rintro e w6 ⟨rfl, h6⟩
    have H6 := Lib.hid h6
    clear h6 x0 x1 x2 x3 z0 z1 z2 z3 H5
    have x0 := H6.out.b0.cell (j := 0) (v := .int .u8 (l : Nat)) rfl
    have x1 := H6.out.b0.cell (j := 1) (v := .int .u8 (d : Nat)) rfl
    have x2 := H6.out.b0.cell (j := 2) (v := .int .u8 (r : Nat)) rfl
    have x3 := H6.out.b0.cell (j := 3) (v := .int .u8 (s : Nat)) rfl
    have k0 := Since.cell x0
    have k1 := Since.cell x1
    have k2 := Since.cell x2
    have k3 := Since.cell x3
    go_wp2_with fail
    refine region_since (by kernel_rfl) (by kernel_rfl) ?_
    repeat (quiet_step ((first
      | (go_at_call 19; exact Calls.since ((vul_any u s _).mono fun e w' ⟨he, hw⟩ => ⟨he, below_pure hw⟩))
      | (go_at_call 18; exact Calls.since (S4.out _ (H6.out.inv.env.keep (Since.property _)))))))
    refine wpQuiet_nil ?_
    rintro w' ⟨u', rfl⟩
    have H7 : Hid (Inv3 w u'.val b0 t9 t10 #[.int .u8 (l : Nat), .int .u8 (d : Nat), .int .u8 (r : Nat), .int .u8 (s : Nat)] #[.int .u8 (l : Nat), .int .u8 (d : Nat), .int .u8 (r : Nat), .int .u8 (s1 : Nat)] #[.int .u8 (l : Nat), .int .u8 (d : Nat), .int .u8 (r : Nat), .int .u8 (s2 : Nat)]) := Lib.hid (H6.out.keep u'.property)
    clear H6
    go_wp2_with fail
    refine (awake_i H7.out.inv).mono ?_
    rintro e w8 ⟨rfl, h8⟩
    go_wp2_with fail
    go_ret
    exact ⟨rfl, h8.below⟩
set_option maxRecDepth 100000 in
set_option maxHeartbeats 4000000 in
theorem turns_odd (n m l d r s k u s1 s2 u1 : Nat) (w : World) (hE : Env w) (p p2 : Int) (MC : Hid (∀ w, Calls Tryd.prog 14 #[.int .u32 n] w fun e w' => e = .returned (.tuple #[.agg #[.int .u8 (l : Nat), .int .u8 (d : Nat), .int .u8 (r : Nat), .int .u8 (s : Nat)], .int .i64 (k : Nat)]) ∧ Below w.heap.size w w'))
    (hl1 : 1 ≤ l) (hl7 : l ≤ 7) (hs : s ≤ 3) (hlo : -10000 ≤ p) (hhi : p ≤ 10000) (hp0 : p ≠ 0) (hu4 : u < 4) (hu : m % 4 = u) (hp2 : p2 = -p)
    (S1 : Hid (ScC l d r s k u p)) (S2 : Hid (ScC l d r s1 k u1 p2)) (S3 : Hid (ScC l d r s2 k u p)) (S4 : Hid (PtC l d r s k (vulP u s) p2)) (hs1 : (s + 1) % 4 = s1) (hs2 : (s + 2) % 4 = s2) (hpar : s % 2 = 1)
    (f10 : bits BinOp.or IntKind.u8 ((u : Int) / 2) (bits BinOp.and IntKind.u8 ((u : Int) * 2) 2) = (u1 : Int)) :
    Calls Tryd.prog 7 #[.int .u32 n, .int .u8 m] w fun e w' => e = .returned (.bool true) ∧ Below w.heap.size w w' := by
  have HE := Lib.hid hE
  have f0 : ((l : Int) == 0) = false := beq_eq_false_iff_ne.2 (by omega)
  have f1 : (m : Int) % 4 = (u : Int) := by omega
  have f2 : ((s : Int) + 1) % 4 = (s1 : Int) := by omega
  have f3 : ((s : Int) + 2) % 4 = (s2 : Int) := by omega
  have f4 : ((s : Int) + 1).tmod 4 = (s1 : Int) := by rw [Int.tmod_eq_emod_of_nonneg (by omega)]; omega
  have f5 : ((s : Int) + 2).tmod 4 = (s2 : Int) := by rw [Int.tmod_eq_emod_of_nonneg (by omega)]; omega
  have f6 : IntKind.u8.wrap ((s : Int) + 1) = (s : Int) + 1 := IntWalk.u8_in _ (by omega)
  have f7 : IntKind.u8.wrap ((s : Int) + 2) = (s : Int) + 2 := IntWalk.u8_in _ (by omega)
  have f8 : IntKind.u8.wrap (s1 : Int) = (s1 : Int) := IntWalk.u8_in _ (by omega)
  have f9 : IntKind.u8.wrap (s2 : Int) = (s2 : Int) := IntWalk.u8_in _ (by omega)
  have f11 : (p2 == -p) = true := beq_iff_eq.2 hp2
  have f12 : (s : Int) % 2 = 1 := by omega
  have f13 : (p == p2) = false := beq_eq_false_iff_ne.2 (by omega)
  have f14 : (p == -p2) = true := beq_iff_eq.2 (by omega)
  have f15 : IntKind.i64.wrap (-p2) = -p2 := IntWalk.i64_in _ (by omega)
  clear hE hpar hp2 hs1 hs2 hu
  go_enter Tryd.func7, Tryd.ntmps7
  go_wp2_with fail
  refine (MC.out _).mono ?_
  rintro e w1 ⟨rfl, hb⟩
  have hi : InvB w (w1.alloc (.cells #[.int .u8 (l : Nat), .int .u8 (d : Nat), .int .u8 (r : Nat), .int .u8 (s : Nat)] 23)) w1.heap.size 23 #[.int .u8 (l : Nat), .int .u8 (d : Nat), .int .u8 (r : Nat), .int .u8 (s : Nat)] := ⟨Inv.alloc ⟨HE.out.keep hb, hb⟩ _, Blk.new _ _ _⟩
  have H1 := Lib.hid hi
  clear hb hi
  go_wp2_with fail
  refine (invb_of S1.out H1.out).mono ?_
  rintro e w2 ⟨rfl, hi⟩
  have x0 := hi.blk.cell (j := 0) (v := .int .u8 (l : Nat)) rfl
  have x1 := hi.blk.cell (j := 1) (v := .int .u8 (d : Nat)) rfl
  have x2 := hi.blk.cell (j := 2) (v := .int .u8 (r : Nat)) rfl
  have x3 := hi.blk.cell (j := 3) (v := .int .u8 (s : Nat)) rfl
  have hlt : w1.heap.size < w2.heap.size := hi.blk.lt
  have Hw2 := Lib.hid hi
  clear hi
  go_wp2_with fail
  go_region
  · have G : Inv3 w (((w2.alloc (.cells #[.int .u8 (l : Nat), .int .u8 (d : Nat), .int .u8 (r : Nat), .int .u8 (s : Nat)] 23)).alloc (.cells #[.int .u8 (l : Nat), .int .u8 (d : Nat), .int .u8 (r : Nat), .int .u8 (s : Nat)] 23)).drewN 1) w1.heap.size (w2.heap.size) (w2.heap.size + 1) #[.int .u8 (l : Nat), .int .u8 (d : Nat), .int .u8 (r : Nat), .int .u8 (s : Nat)] #[.int .u8 (l : Nat), .int .u8 (d : Nat), .int .u8 (r : Nat), .int .u8 (s : Nat)] #[.int .u8 (l : Nat), .int .u8 (d : Nat), .int .u8 (r : Nat), .int .u8 (s : Nat)] :=
      ⟨⟨((Hw2.out.inv.alloc _).alloc _).env.keep (below_grow _ 1 #[]), bchain ((Hw2.out.inv.alloc _).alloc _).below (below_grow _ 1 #[])⟩, ((Hw2.out.blk.alloc _).alloc _).drewN 1, ((Blk.new w2 23 #[.int .u8 (l : Nat), .int .u8 (d : Nat), .int .u8 (r : Nat), .int .u8 (s : Nat)]).alloc _).drewN 1, by simpa using (Blk.new (w2.alloc (.cells #[.int .u8 (l : Nat), .int .u8 (d : Nat), .int .u8 (r : Nat), .int .u8 (s : Nat)] 23)) 23 #[.int .u8 (l : Nat), .int .u8 (d : Nat), .int .u8 (r : Nat), .int .u8 (s : Nat)]).drewN 1⟩
    have n1 : w1.heap.size ≠ w2.heap.size := by omega
    have n2 : w1.heap.size ≠ w2.heap.size + 1 := by omega
    have n3 : w2.heap.size ≠ w2.heap.size + 1 := by omega
    have g0 := Hw2.out.inv.below.size
    have g9 : w.heap.size ≤ w2.heap.size := by omega
    have g10 : w.heap.size ≤ w2.heap.size + 1 := by omega
    change Inv3 _ (((w2.alloc (.cells #[.int .u8 (l : Nat), .int .u8 (d : Nat), .int .u8 (r : Nat), .int .u8 (s : Nat)] 23)).alloc (.cells #[.int .u8 (l : Nat), .int .u8 (d : Nat), .int .u8 (r : Nat), .int .u8 (s : Nat)] 23)).drew) _ _ _ _ _ _ at G
    clear x0 x1 x2 x3 hlt Hw2 H1 g0
    generalize ((w2.alloc (.cells #[.int .u8 (l : Nat), .int .u8 (d : Nat), .int .u8 (r : Nat), .int .u8 (s : Nat)] 23)).alloc (.cells #[.int .u8 (l : Nat), .int .u8 (d : Nat), .int .u8 (r : Nat), .int .u8 (s : Nat)] 23)).drew = w3 at *
    generalize w2.heap.size + 1 = t10 at *
    generalize w2.heap.size = t9 at *
    generalize w1.heap.size = b0 at *
    have y3 := G.b9.cell (j := 3) (v := .int .u8 (s : Nat)) rfl
    have z3 := G.b10.cell (j := 3) (v := .int .u8 (s : Nat)) rfl
    have y4 := G.b9.free 3
    have z4 := G.b10.free 3
    have n4 := n3.symm
    have H3 := Lib.hid G
    clear G
    have x0 := H3.out.b0.cell (j := 0) (v := .int .u8 (l : Nat)) rfl
    have x1 := H3.out.b0.cell (j := 1) (v := .int .u8 (d : Nat)) rfl
    have x2 := H3.out.b0.cell (j := 2) (v := .int .u8 (r : Nat)) rfl
    have x3 := H3.out.b0.cell (j := 3) (v := .int .u8 (s : Nat)) rfl
    go_wp2_with fail
    go_region
    have hB4 := ((H3.out.inv.below.setCell (p := ⟨t9, 3, none⟩) g9 (.int .u8 (s1 : Nat))).setCell (p := ⟨t10, 3, none⟩) g10 (.int .u8 (s2 : Nat))).drew
    have H4 : Hid (Inv3 w ((w3.setCell ⟨t9, 3, none⟩ (.int .u8 (s1 : Nat))).setCell ⟨t10, 3, none⟩ (.int .u8 (s2 : Nat))).drew b0 t9 t10 #[.int .u8 (l : Nat), .int .u8 (d : Nat), .int .u8 (r : Nat), .int .u8 (s : Nat)] #[.int .u8 (l : Nat), .int .u8 (d : Nat), .int .u8 (r : Nat), .int .u8 (s1 : Nat)] #[.int .u8 (l : Nat), .int .u8 (d : Nat), .int .u8 (r : Nat), .int .u8 (s2 : Nat)]) := Lib.hid
      ⟨⟨HE.out.keep hB4, hB4⟩, ((H3.out.b0.other n1 3 _).other n2 3 _).drewN 1, ((H3.out.b9.set 3 _).other n3 3 _).drewN 1, ((H3.out.b10.other n4 3 _).set 3 _).drewN 1⟩
    clear x0 x1 x2 x3 y3 z3 y4 z4 hB4 H3
    generalize ((w3.setCell ⟨t9, 3, none⟩ (.int .u8 (s1 : Nat))).setCell ⟨t10, 3, none⟩ (.int .u8 (s2 : Nat))).drew = w4 at *
    have x0 := H4.out.b0.cell (j := 0) (v := .int .u8 (l : Nat)) rfl
    have x1 := H4.out.b0.cell (j := 1) (v := .int .u8 (d : Nat)) rfl
    have x2 := H4.out.b0.cell (j := 2) (v := .int .u8 (r : Nat)) rfl
    have x3 := H4.out.b0.cell (j := 3) (v := .int .u8 (s : Nat)) rfl
    have y0 := H4.out.b9.cell (j := 0) (v := .int .u8 (l : Nat)) rfl
    have y1 := H4.out.b9.cell (j := 1) (v := .int .u8 (d : Nat)) rfl
    have y2 := H4.out.b9.cell (j := 2) (v := .int .u8 (r : Nat)) rfl
    have y3 := H4.out.b9.cell (j := 3) (v := .int .u8 (s1 : Nat)) rfl
    have z0 := H4.out.b10.cell (j := 0) (v := .int .u8 (l : Nat)) rfl
    have z1 := H4.out.b10.cell (j := 1) (v := .int .u8 (d : Nat)) rfl
    have z2 := H4.out.b10.cell (j := 2) (v := .int .u8 (r : Nat)) rfl
    have z3 := H4.out.b10.cell (j := 3) (v := .int .u8 (s2 : Nat)) rfl
    go_wp2_with fail
    refine (inv3_of S2.out H4.out).mono ?_
    rintro e w5 ⟨rfl, h5⟩
    have H5 := Lib.hid h5
    clear h5 x0 x1 x2 x3 y0 y1 y2 y3 z0 z1 z2 z3 H4
    have x0 := H5.out.b0.cell (j := 0) (v := .int .u8 (l : Nat)) rfl
    have x1 := H5.out.b0.cell (j := 1) (v := .int .u8 (d : Nat)) rfl
    have x2 := H5.out.b0.cell (j := 2) (v := .int .u8 (r : Nat)) rfl
    have x3 := H5.out.b0.cell (j := 3) (v := .int .u8 (s : Nat)) rfl
    have z0 := H5.out.b10.cell (j := 0) (v := .int .u8 (l : Nat)) rfl
    have z1 := H5.out.b10.cell (j := 1) (v := .int .u8 (d : Nat)) rfl
    have z2 := H5.out.b10.cell (j := 2) (v := .int .u8 (r : Nat)) rfl
    have z3 := H5.out.b10.cell (j := 3) (v := .int .u8 (s2 : Nat)) rfl
    go_wp2_with fail
    refine (inv3_of S3.out H5.out).mono ?_
    rintro e w6 ⟨rfl, h6⟩
    have H6 := Lib.hid h6
    clear h6 x0 x1 x2 x3 z0 z1 z2 z3 H5
    have x0 := H6.out.b0.cell (j := 0) (v := .int .u8 (l : Nat)) rfl
    have x1 := H6.out.b0.cell (j := 1) (v := .int .u8 (d : Nat)) rfl
    have x2 := H6.out.b0.cell (j := 2) (v := .int .u8 (r : Nat)) rfl
    have x3 := H6.out.b0.cell (j := 3) (v := .int .u8 (s : Nat)) rfl
    have k0 := Since.cell x0
    have k1 := Since.cell x1
    have k2 := Since.cell x2
    have k3 := Since.cell x3
    go_wp2_with fail
    refine region_since (by kernel_rfl) (by kernel_rfl) ?_
    repeat (quiet_step ((first
      | (go_at_call 19; exact Calls.since ((vul_any u s _).mono fun e w' ⟨he, hw⟩ => ⟨he, below_pure hw⟩))
      | (go_at_call 18; exact Calls.since (S4.out _ (H6.out.inv.env.keep (Since.property _)))))))
    refine wpQuiet_nil ?_
    rintro w' ⟨u', rfl⟩
    have H7 : Hid (Inv3 w u'.val b0 t9 t10 #[.int .u8 (l : Nat), .int .u8 (d : Nat), .int .u8 (r : Nat), .int .u8 (s : Nat)] #[.int .u8 (l : Nat), .int .u8 (d : Nat), .int .u8 (r : Nat), .int .u8 (s1 : Nat)] #[.int .u8 (l : Nat), .int .u8 (d : Nat), .int .u8 (r : Nat), .int .u8 (s2 : Nat)]) := Lib.hid (H6.out.keep u'.property)
    clear H6
    go_wp2_with fail
    refine (awake_i H7.out.inv).mono ?_
    rintro e w8 ⟨rfl, h8⟩
    go_wp2_with fail
    go_ret
    exact ⟨rfl, h8.below⟩
  · have G : Inv3 w (((w2.alloc (.cells #[.int .u8 (l : Nat), .int .u8 (d : Nat), .int .u8 (r : Nat), .int .u8 (s : Nat)] 23)).alloc (.cells #[.int .u8 (l : Nat), .int .u8 (d : Nat), .int .u8 (r : Nat), .int .u8 (s : Nat)] 23)).drewN 1) w1.heap.size (w2.heap.size + 1) (w2.heap.size) #[.int .u8 (l : Nat), .int .u8 (d : Nat), .int .u8 (r : Nat), .int .u8 (s : Nat)] #[.int .u8 (l : Nat), .int .u8 (d : Nat), .int .u8 (r : Nat), .int .u8 (s : Nat)] #[.int .u8 (l : Nat), .int .u8 (d : Nat), .int .u8 (r : Nat), .int .u8 (s : Nat)] :=
      ⟨⟨((Hw2.out.inv.alloc _).alloc _).env.keep (below_grow _ 1 #[]), bchain ((Hw2.out.inv.alloc _).alloc _).below (below_grow _ 1 #[])⟩, ((Hw2.out.blk.alloc _).alloc _).drewN 1, by simpa using (Blk.new (w2.alloc (.cells #[.int .u8 (l : Nat), .int .u8 (d : Nat), .int .u8 (r : Nat), .int .u8 (s : Nat)] 23)) 23 #[.int .u8 (l : Nat), .int .u8 (d : Nat), .int .u8 (r : Nat), .int .u8 (s : Nat)]).drewN 1, ((Blk.new w2 23 #[.int .u8 (l : Nat), .int .u8 (d : Nat), .int .u8 (r : Nat), .int .u8 (s : Nat)]).alloc _).drewN 1⟩
    have n1 : w1.heap.size ≠ w2.heap.size + 1 := by omega
    have n2 : w1.heap.size ≠ w2.heap.size := by omega
    have n3 : w2.heap.size + 1 ≠ w2.heap.size := by omega
    have g0 := Hw2.out.inv.below.size
    have g9 : w.heap.size ≤ w2.heap.size + 1 := by omega
    have g10 : w.heap.size ≤ w2.heap.size := by omega
    change Inv3 _ (((w2.alloc (.cells #[.int .u8 (l : Nat), .int .u8 (d : Nat), .int .u8 (r : Nat), .int .u8 (s : Nat)] 23)).alloc (.cells #[.int .u8 (l : Nat), .int .u8 (d : Nat), .int .u8 (r : Nat), .int .u8 (s : Nat)] 23)).drew) _ _ _ _ _ _ at G
    clear x0 x1 x2 x3 hlt Hw2 H1 g0
    generalize ((w2.alloc (.cells #[.int .u8 (l : Nat), .int .u8 (d : Nat), .int .u8 (r : Nat), .int .u8 (s : Nat)] 23)).alloc (.cells #[.int .u8 (l : Nat), .int .u8 (d : Nat), .int .u8 (r : Nat), .int .u8 (s : Nat)] 23)).drew = w3 at *
    generalize w2.heap.size + 1 = t9 at *
    generalize w2.heap.size = t10 at *
    generalize w1.heap.size = b0 at *
    have y3 := G.b9.cell (j := 3) (v := .int .u8 (s : Nat)) rfl
    have z3 := G.b10.cell (j := 3) (v := .int .u8 (s : Nat)) rfl
    have y4 := G.b9.free 3
    have z4 := G.b10.free 3
    have n4 := n3.symm
    have H3 := Lib.hid G
    clear G
    have x0 := H3.out.b0.cell (j := 0) (v := .int .u8 (l : Nat)) rfl
    have x1 := H3.out.b0.cell (j := 1) (v := .int .u8 (d : Nat)) rfl
    have x2 := H3.out.b0.cell (j := 2) (v := .int .u8 (r : Nat)) rfl
    have x3 := H3.out.b0.cell (j := 3) (v := .int .u8 (s : Nat)) rfl
    go_wp2_with fail
    go_region
    have hB4 := ((H3.out.inv.below.setCell (p := ⟨t9, 3, none⟩) g9 (.int .u8 (s1 : Nat))).setCell (p := ⟨t10, 3, none⟩) g10 (.int .u8 (s2 : Nat))).drew
    have H4 : Hid (Inv3 w ((w3.setCell ⟨t9, 3, none⟩ (.int .u8 (s1 : Nat))).setCell ⟨t10, 3, none⟩ (.int .u8 (s2 : Nat))).drew b0 t9 t10 #[.int .u8 (l : Nat), .int .u8 (d : Nat), .int .u8 (r : Nat), .int .u8 (s : Nat)] #[.int .u8 (l : Nat), .int .u8 (d : Nat), .int .u8 (r : Nat), .int .u8 (s1 : Nat)] #[.int .u8 (l : Nat), .int .u8 (d : Nat), .int .u8 (r : Nat), .int .u8 (s2 : Nat)]) := Lib.hid
      ⟨⟨HE.out.keep hB4, hB4⟩, ((H3.out.b0.other n1 3 _).other n2 3 _).drewN 1, ((H3.out.b9.set 3 _).other n3 3 _).drewN 1, ((H3.out.b10.other n4 3 _).set 3 _).drewN 1⟩
    clear x0 x1 x2 x3 y3 z3 y4 z4 hB4 H3
    generalize ((w3.setCell ⟨t9, 3, none⟩ (.int .u8 (s1 : Nat))).setCell ⟨t10, 3, none⟩ (.int .u8 (s2 : Nat))).drew = w4 at *
    have x0 := H4.out.b0.cell (j := 0) (v := .int .u8 (l : Nat)) rfl
    have x1 := H4.out.b0.cell (j := 1) (v := .int .u8 (d : Nat)) rfl
    have x2 := H4.out.b0.cell (j := 2) (v := .int .u8 (r : Nat)) rfl
    have x3 := H4.out.b0.cell (j := 3) (v := .int .u8 (s : Nat)) rfl
    have y0 := H4.out.b9.cell (j := 0) (v := .int .u8 (l : Nat)) rfl
    have y1 := H4.out.b9.cell (j := 1) (v := .int .u8 (d : Nat)) rfl
    have y2 := H4.out.b9.cell (j := 2) (v := .int .u8 (r : Nat)) rfl
    have y3 := H4.out.b9.cell (j := 3) (v := .int .u8 (s1 : Nat)) rfl
    have z0 := H4.out.b10.cell (j := 0) (v := .int .u8 (l : Nat)) rfl
    have z1 := H4.out.b10.cell (j := 1) (v := .int .u8 (d : Nat)) rfl
    have z2 := H4.out.b10.cell (j := 2) (v := .int .u8 (r : Nat)) rfl
    have z3 := H4.out.b10.cell (j := 3) (v := .int .u8 (s2 : Nat)) rfl
    go_wp2_with fail
    refine (inv3_of S2.out H4.out).mono ?_
    rintro e w5 ⟨rfl, h5⟩
    have H5 := Lib.hid h5
    clear h5 x0 x1 x2 x3 y0 y1 y2 y3 z0 z1 z2 z3 H4
    have x0 := H5.out.b0.cell (j := 0) (v := .int .u8 (l : Nat)) rfl
    have x1 := H5.out.b0.cell (j := 1) (v := .int .u8 (d : Nat)) rfl
    have x2 := H5.out.b0.cell (j := 2) (v := .int .u8 (r : Nat)) rfl
    have x3 := H5.out.b0.cell (j := 3) (v := .int .u8 (s : Nat)) rfl
    have z0 := H5.out.b10.cell (j := 0) (v := .int .u8 (l : Nat)) rfl
    have z1 := H5.out.b10.cell (j := 1) (v := .int .u8 (d : Nat)) rfl
    have z2 := H5.out.b10.cell (j := 2) (v := .int .u8 (r : Nat)) rfl
    have z3 := H5.out.b10.cell (j := 3) (v := .int .u8 (s2 : Nat)) rfl
    go_wp2_with fail
    refine (inv3_of S3.out H5.out).mono ?_
    rintro e w6 ⟨rfl, h6⟩
    have H6 := Lib.hid h6
    clear h6 x0 x1 x2 x3 z0 z1 z2 z3 H5
    have x0 := H6.out.b0.cell (j := 0) (v := .int .u8 (l : Nat)) rfl
    have x1 := H6.out.b0.cell (j := 1) (v := .int .u8 (d : Nat)) rfl
    have x2 := H6.out.b0.cell (j := 2) (v := .int .u8 (r : Nat)) rfl
    have x3 := H6.out.b0.cell (j := 3) (v := .int .u8 (s : Nat)) rfl
    have k0 := Since.cell x0
    have k1 := Since.cell x1
    have k2 := Since.cell x2
    have k3 := Since.cell x3
    go_wp2_with fail
    refine region_since (by kernel_rfl) (by kernel_rfl) ?_
    repeat (quiet_step ((first
      | (go_at_call 19; exact Calls.since ((vul_any u s _).mono fun e w' ⟨he, hw⟩ => ⟨he, below_pure hw⟩))
      | (go_at_call 18; exact Calls.since (S4.out _ (H6.out.inv.env.keep (Since.property _)))))))
    refine wpQuiet_nil ?_
    rintro w' ⟨u', rfl⟩
    have H7 : Hid (Inv3 w u'.val b0 t9 t10 #[.int .u8 (l : Nat), .int .u8 (d : Nat), .int .u8 (r : Nat), .int .u8 (s : Nat)] #[.int .u8 (l : Nat), .int .u8 (d : Nat), .int .u8 (r : Nat), .int .u8 (s1 : Nat)] #[.int .u8 (l : Nat), .int .u8 (d : Nat), .int .u8 (r : Nat), .int .u8 (s2 : Nat)]) := Lib.hid (H6.out.keep u'.property)
    clear H6
    go_wp2_with fail
    refine (awake_i H7.out.inv).mono ?_
    rintro e w8 ⟨rfl, h8⟩
    go_wp2_with fail
    go_ret
    exact ⟨rfl, h8.below⟩
end Go.Proofs.YtgmofikhndlhcaaDoor
