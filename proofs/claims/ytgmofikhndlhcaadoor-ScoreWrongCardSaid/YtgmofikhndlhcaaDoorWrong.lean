/- The walk of ScoreWrong. -/
import Derived.Test.YtgmofikhndlhcaaDoorAwake
import Derived.Test.YtgmofikhndlhcaaDoorMadeC
namespace Go.Proofs.YtgmofikhndlhcaaDoor
open Go.RowKit

/-- What f returns for these arguments, wherever the tables lie. -/
def Bd (f : FuncId) (args : Array Value) (v : Value) : Prop := ∀ w, Env w → Calls Tryd.prog f args w fun e w' => e = .returned v ∧ Below w.heap.size w w'
theorem bad_pts (l d r s : Nat) (K : Int) (v : Bool) (hb : resP l d r s K = false) : ptsP l d r s K v = (0, 2) := by
  unfold ptsP
  rw [if_pos hb]
theorem bad_score (l d r s : Nat) (K : Int) (u : Nat) (hb : resP l d r s K = false ∨ 3 < u) : scoreP l d r s K u = (0, 2) := by
  unfold scoreP
  split
  · rfl
  · rename_i h
    rw [bad_pts _ _ _ _ _ _ (hb.resolve_right h)]
    split <;> rfl
theorem bad_write (l d r s : Nat) (K : Int) (hb : resP l d r s K = false) : writeP l d r s K = ([], 2) := by
  unfold writeP
  rw [if_pos hb]
theorem bd_score (l d r s : Nat) (K : Int) (u : Nat) (hl : l < 256) (hb : resP l d r s K = false ∨ 3 < u) : Bd 17 #[.agg #[.int .u8 l, .int .u8 d, .int .u8 r, .int .u8 s], .int .i64 K, .int .u8 u] (.tuple #[.int .i64 0, .int .i64 2]) := fun w hw =>
  (score_any l d r s K u w hw.tabs hl).mono fun e w' ⟨he, h⟩ => ⟨by rw [he, bad_score _ _ _ _ _ _ hb], h⟩
theorem bd_points (l d r s : Nat) (K : Int) (v : Bool) (hl : l < 256) (hb : resP l d r s K = false) : Bd 18 #[.agg #[.int .u8 l, .int .u8 d, .int .u8 r, .int .u8 s], .int .i64 K, .bool v] (.tuple #[.int .i64 0, .int .i64 2]) := fun w hw =>
  (points_any l d r s K v w hw.tabs hl).mono fun e w' ⟨he, h⟩ => ⟨by rw [he, bad_pts _ _ _ _ _ _ hb], h⟩
theorem bd_write (l d r s : Nat) (K : Int) (hl : l < 256) (hb : resP l d r s K = false) : Bd 20 #[.agg #[.int .u8 l, .int .u8 d, .int .u8 r, .int .u8 s], .int .i64 K] (.tuple #[.string ⟨#[]⟩, .int .i64 2]) := fun w hw =>
  (write_any l d r s K w hw hl).mono fun e w' ⟨he, h⟩ => ⟨by rw [he, bad_write _ _ _ _ _ hb], h⟩
theorem bd_text (l d r s : Nat) (hb : rgt l d r s = false) : Bd 22 #[.agg #[.int .u8 l, .int .u8 d, .int .u8 r, .int .u8 s]] (.tuple #[.string ⟨#[]⟩, .int .i64 2]) := fun w _ =>
  (text_any l d r s w).mono fun e w' ⟨he, h⟩ => ⟨by rw [he, show textR l d r s = ([], 2) by unfold textR; rw [if_neg (by rw [hb]; decide)]], h⟩
theorem bd_right (l d r s : Nat) (hb : rgt l d r s = false) : Bd 24 #[.agg #[.int .u8 l, .int .u8 d, .int .u8 r, .int .u8 s]] (.bool false) := fun w _ =>
  (right_any l d r s w).mono fun e w' ⟨he, h⟩ => ⟨by rw [he, hb], h⟩
theorem bd_need (l d r s : Nat) (hl : l < 256) (hb : rgt l d r s = false) : Bd 16 #[.agg #[.int .u8 l, .int .u8 d, .int .u8 r, .int .u8 s]] (.int .i64 0) := fun w _ =>
  (need_any l d r s w hl).mono fun e w' ⟨he, h⟩ => ⟨by rw [he, show needP l d r s = 0 by unfold needP; rw [if_neg (by rw [hb]; simp)]]; rfl, h⟩
theorem bd_vul (v s : Nat) (h : vulP v s = false) : Bd 19 #[.int .u8 v, .int .u8 s] (.bool false) := fun w _ =>
  (vul_any v s w).mono fun e w' ⟨he, hw⟩ => ⟨by rw [he, h], below_pure hw⟩
set_option maxRecDepth 100000 in
set_option maxHeartbeats 4000000 in
theorem wrong_0 (n h x l d r s k M : Nat) (K : Int) (w : World) (hE : Env w) (MC : Hid (∀ w, Calls Tryd.prog 14 #[.int .u32 n] w fun e w' => e = .returned (.tuple #[.agg #[.int .u8 (l : Nat), .int .u8 (d : Nat), .int .u8 (r : Nat), .int .u8 (s : Nat)], .int .i64 (k : Nat)]) ∧ Below w.heap.size w w'))
    (hh : h % 6 = 0) (hM : max (x : Int) 8 = (M : Int))
    (S1 : Hid (Bd 17 #[.agg #[.int .u8 (M : Nat), .int .u8 (d : Nat), .int .u8 (r : Nat), .int .u8 (s : Nat)], .int .i64 (k : Nat), .int .u8 0] (.tuple #[.int .i64 0, .int .i64 2])))
    (S2 : Hid (∀ v : Bool, Bd 18 #[.agg #[.int .u8 (M : Nat), .int .u8 (d : Nat), .int .u8 (r : Nat), .int .u8 (s : Nat)], .int .i64 (k : Nat), .bool v] (.tuple #[.int .i64 0, .int .i64 2]))) (S3 : Hid (Bd 20 #[.agg #[.int .u8 (M : Nat), .int .u8 (d : Nat), .int .u8 (r : Nat), .int .u8 (s : Nat)], .int .i64 (k : Nat)] (.tuple #[.string ⟨#[]⟩, .int .i64 2])))
    (S4 : Hid (Bd 22 #[.agg #[.int .u8 (M : Nat), .int .u8 (d : Nat), .int .u8 (r : Nat), .int .u8 (s : Nat)]] (.tuple #[.string ⟨#[]⟩, .int .i64 2]))) (S5 : Hid (Bd 24 #[.agg #[.int .u8 (M : Nat), .int .u8 (d : Nat), .int .u8 (r : Nat), .int .u8 (s : Nat)]] (.bool false))) (S6 : Hid (Bd 16 #[.agg #[.int .u8 (M : Nat), .int .u8 (d : Nat), .int .u8 (r : Nat), .int .u8 (s : Nat)]] (.int .i64 0))) :
    Calls Tryd.prog 10 #[.int .u32 n, .int .u8 h, .int .u8 x, .int .i64 K] w fun e w' => e = .returned (.bool true) ∧ Below w.heap.size w w' := by
  have HE := Lib.hid hE
  have f1 : (h : Int) % 6 = 0 := by omega
  clear hE hh
  go_enter Tryd.func10, Tryd.ntmps10
  go_wp2_with fail
  refine (MC.out _).mono ?_
  rintro e w1 ⟨rfl, hb⟩
  have hi : InvB w (w1.alloc (.cells #[.int .u8 (M : Nat), .int .u8 (d : Nat), .int .u8 (r : Nat), .int .u8 (s : Nat)] 23)) w1.heap.size 23 #[.int .u8 (M : Nat), .int .u8 (d : Nat), .int .u8 (r : Nat), .int .u8 (s : Nat)] := ⟨Inv.alloc ⟨HE.out.keep hb, hb⟩ _, Blk.new _ _ _⟩
  have H1 := Lib.hid hi
  clear hb hi
  go_wp2_with fail
  refine (invb_of S1.out H1.out).mono ?_
  rintro e w2 ⟨rfl, hi⟩
  have x0 := hi.blk.cell (j := 0) (v := .int .u8 (M : Nat)) rfl
  have x1 := hi.blk.cell (j := 1) (v := .int .u8 (d : Nat)) rfl
  have x2 := hi.blk.cell (j := 2) (v := .int .u8 (r : Nat)) rfl
  have x3 := hi.blk.cell (j := 3) (v := .int .u8 (s : Nat)) rfl
  have Hw2 := Lib.hid hi
  clear hi
  go_wp2_with fail
  refine (invb_of (S2.out _) Hw2.out).mono ?_
  rintro e w3 ⟨rfl, hi⟩
  clear x0 x1 x2 x3
  have x0 := hi.blk.cell (j := 0) (v := .int .u8 (M : Nat)) rfl
  have x1 := hi.blk.cell (j := 1) (v := .int .u8 (d : Nat)) rfl
  have x2 := hi.blk.cell (j := 2) (v := .int .u8 (r : Nat)) rfl
  have x3 := hi.blk.cell (j := 3) (v := .int .u8 (s : Nat)) rfl
  have Hw3 := Lib.hid hi
  clear hi
  go_wp2_with fail
  refine (invb_of S3.out Hw3.out).mono ?_
  rintro e w4 ⟨rfl, hi⟩
  clear x0 x1 x2 x3
  have x0 := hi.blk.cell (j := 0) (v := .int .u8 (M : Nat)) rfl
  have x1 := hi.blk.cell (j := 1) (v := .int .u8 (d : Nat)) rfl
  have x2 := hi.blk.cell (j := 2) (v := .int .u8 (r : Nat)) rfl
  have x3 := hi.blk.cell (j := 3) (v := .int .u8 (s : Nat)) rfl
  have Hw4 := Lib.hid hi
  clear hi
  go_wp2_with fail
  refine (invb_of S4.out Hw4.out).mono ?_
  rintro e w5 ⟨rfl, hi⟩
  clear x0 x1 x2 x3
  have x0 := hi.blk.cell (j := 0) (v := .int .u8 (M : Nat)) rfl
  have x1 := hi.blk.cell (j := 1) (v := .int .u8 (d : Nat)) rfl
  have x2 := hi.blk.cell (j := 2) (v := .int .u8 (r : Nat)) rfl
  have x3 := hi.blk.cell (j := 3) (v := .int .u8 (s : Nat)) rfl
  have Hw5 := Lib.hid hi
  clear hi
  go_wp2_with fail
  refine (invb_of S5.out Hw5.out).mono ?_
  rintro e w6 ⟨rfl, hi⟩
  clear x0 x1 x2 x3
  have x0 := hi.blk.cell (j := 0) (v := .int .u8 (M : Nat)) rfl
  have x1 := hi.blk.cell (j := 1) (v := .int .u8 (d : Nat)) rfl
  have x2 := hi.blk.cell (j := 2) (v := .int .u8 (r : Nat)) rfl
  have x3 := hi.blk.cell (j := 3) (v := .int .u8 (s : Nat)) rfl
  have Hw6 := Lib.hid hi
  clear hi
  go_wp2_with fail
  refine (invb_of S6.out Hw6.out).mono ?_
  rintro e w7 ⟨rfl, hi⟩
  clear x0 x1 x2 x3
  have x0 := hi.blk.cell (j := 0) (v := .int .u8 (M : Nat)) rfl
  have x1 := hi.blk.cell (j := 1) (v := .int .u8 (d : Nat)) rfl
  have x2 := hi.blk.cell (j := 2) (v := .int .u8 (r : Nat)) rfl
  have x3 := hi.blk.cell (j := 3) (v := .int .u8 (s : Nat)) rfl
  have Hw7 := Lib.hid hi
  clear hi
  go_wp2_with fail
  refine (awake_i Hw7.out.inv).mono ?_
  rintro e w9 ⟨rfl, h9⟩
  go_wp2_with fail
  go_ret
  exact ⟨rfl, h9.below⟩
set_option maxRecDepth 100000 in
set_option maxHeartbeats 4000000 in
theorem wrong_1 (n h x l d r s k L M : Nat) (K : Int) (w : World) (hE : Env w) (MC : Hid (∀ w, Calls Tryd.prog 14 #[.int .u32 n] w fun e w' => e = .returned (.tuple #[.agg #[.int .u8 (l : Nat), .int .u8 (d : Nat), .int .u8 (r : Nat), .int .u8 (s : Nat)], .int .i64 (k : Nat)]) ∧ Below w.heap.size w w'))
    (hh : h % 6 = 1) (hL : max (l : Int) 1 = (L : Int)) (hM : max (x : Int) 5 = (M : Int))
    (S1 : Hid (Bd 17 #[.agg #[.int .u8 (L : Nat), .int .u8 (M : Nat), .int .u8 (r : Nat), .int .u8 (s : Nat)], .int .i64 (k : Nat), .int .u8 0] (.tuple #[.int .i64 0, .int .i64 2])))
    (S2 : Hid (∀ v : Bool, Bd 18 #[.agg #[.int .u8 (L : Nat), .int .u8 (M : Nat), .int .u8 (r : Nat), .int .u8 (s : Nat)], .int .i64 (k : Nat), .bool v] (.tuple #[.int .i64 0, .int .i64 2]))) (S3 : Hid (Bd 20 #[.agg #[.int .u8 (L : Nat), .int .u8 (M : Nat), .int .u8 (r : Nat), .int .u8 (s : Nat)], .int .i64 (k : Nat)] (.tuple #[.string ⟨#[]⟩, .int .i64 2])))
    (S4 : Hid (Bd 22 #[.agg #[.int .u8 (L : Nat), .int .u8 (M : Nat), .int .u8 (r : Nat), .int .u8 (s : Nat)]] (.tuple #[.string ⟨#[]⟩, .int .i64 2]))) (S5 : Hid (Bd 24 #[.agg #[.int .u8 (L : Nat), .int .u8 (M : Nat), .int .u8 (r : Nat), .int .u8 (s : Nat)]] (.bool false))) (S6 : Hid (Bd 16 #[.agg #[.int .u8 (L : Nat), .int .u8 (M : Nat), .int .u8 (r : Nat), .int .u8 (s : Nat)]] (.int .i64 0))) :
    Calls Tryd.prog 10 #[.int .u32 n, .int .u8 h, .int .u8 x, .int .i64 K] w fun e w' => e = .returned (.bool true) ∧ Below w.heap.size w w' := by
  have HE := Lib.hid hE
  have f1 : (h : Int) % 6 = 1 := by omega
  clear hE hh
  go_enter Tryd.func10, Tryd.ntmps10
  go_wp2_with fail
  refine (MC.out _).mono ?_
  rintro e w1 ⟨rfl, hb⟩
  have hi : InvB w (w1.alloc (.cells #[.int .u8 (L : Nat), .int .u8 (M : Nat), .int .u8 (r : Nat), .int .u8 (s : Nat)] 23)) w1.heap.size 23 #[.int .u8 (L : Nat), .int .u8 (M : Nat), .int .u8 (r : Nat), .int .u8 (s : Nat)] := ⟨Inv.alloc ⟨HE.out.keep hb, hb⟩ _, Blk.new _ _ _⟩
  have H1 := Lib.hid hi
  clear hb hi
  go_wp2_with fail
  refine (invb_of S1.out H1.out).mono ?_
  rintro e w2 ⟨rfl, hi⟩
  have x0 := hi.blk.cell (j := 0) (v := .int .u8 (L : Nat)) rfl
  have x1 := hi.blk.cell (j := 1) (v := .int .u8 (M : Nat)) rfl
  have x2 := hi.blk.cell (j := 2) (v := .int .u8 (r : Nat)) rfl
  have x3 := hi.blk.cell (j := 3) (v := .int .u8 (s : Nat)) rfl
  have Hw2 := Lib.hid hi
  clear hi
  go_wp2_with fail
  refine (invb_of (S2.out _) Hw2.out).mono ?_
  rintro e w3 ⟨rfl, hi⟩
  clear x0 x1 x2 x3
  have x0 := hi.blk.cell (j := 0) (v := .int .u8 (L : Nat)) rfl
  have x1 := hi.blk.cell (j := 1) (v := .int .u8 (M : Nat)) rfl
  have x2 := hi.blk.cell (j := 2) (v := .int .u8 (r : Nat)) rfl
  have x3 := hi.blk.cell (j := 3) (v := .int .u8 (s : Nat)) rfl
  have Hw3 := Lib.hid hi
  clear hi
  go_wp2_with fail
  refine (invb_of S3.out Hw3.out).mono ?_
  rintro e w4 ⟨rfl, hi⟩
  clear x0 x1 x2 x3
  have x0 := hi.blk.cell (j := 0) (v := .int .u8 (L : Nat)) rfl
  have x1 := hi.blk.cell (j := 1) (v := .int .u8 (M : Nat)) rfl
  have x2 := hi.blk.cell (j := 2) (v := .int .u8 (r : Nat)) rfl
  have x3 := hi.blk.cell (j := 3) (v := .int .u8 (s : Nat)) rfl
  have Hw4 := Lib.hid hi
  clear hi
  go_wp2_with fail
  refine (invb_of S4.out Hw4.out).mono ?_
  rintro e w5 ⟨rfl, hi⟩
  clear x0 x1 x2 x3
  have x0 := hi.blk.cell (j := 0) (v := .int .u8 (L : Nat)) rfl
  have x1 := hi.blk.cell (j := 1) (v := .int .u8 (M : Nat)) rfl
  have x2 := hi.blk.cell (j := 2) (v := .int .u8 (r : Nat)) rfl
  have x3 := hi.blk.cell (j := 3) (v := .int .u8 (s : Nat)) rfl
  have Hw5 := Lib.hid hi
  clear hi
  go_wp2_with fail
  refine (invb_of S5.out Hw5.out).mono ?_
  rintro e w6 ⟨rfl, hi⟩
  clear x0 x1 x2 x3
  have x0 := hi.blk.cell (j := 0) (v := .int .u8 (L : Nat)) rfl
  have x1 := hi.blk.cell (j := 1) (v := .int .u8 (M : Nat)) rfl
  have x2 := hi.blk.cell (j := 2) (v := .int .u8 (r : Nat)) rfl
  have x3 := hi.blk.cell (j := 3) (v := .int .u8 (s : Nat)) rfl
  have Hw6 := Lib.hid hi
  clear hi
  go_wp2_with fail
  refine (invb_of S6.out Hw6.out).mono ?_
  rintro e w7 ⟨rfl, hi⟩
  clear x0 x1 x2 x3
  have x0 := hi.blk.cell (j := 0) (v := .int .u8 (L : Nat)) rfl
  have x1 := hi.blk.cell (j := 1) (v := .int .u8 (M : Nat)) rfl
  have x2 := hi.blk.cell (j := 2) (v := .int .u8 (r : Nat)) rfl
  have x3 := hi.blk.cell (j := 3) (v := .int .u8 (s : Nat)) rfl
  have Hw7 := Lib.hid hi
  clear hi
  go_wp2_with fail
  refine (awake_i Hw7.out.inv).mono ?_
  rintro e w9 ⟨rfl, h9⟩
  go_wp2_with fail
  go_ret
  exact ⟨rfl, h9.below⟩
set_option maxRecDepth 100000 in
set_option maxHeartbeats 4000000 in
theorem wrong_2 (n h x l d r s k M : Nat) (K : Int) (w : World) (hE : Env w) (MC : Hid (∀ w, Calls Tryd.prog 14 #[.int .u32 n] w fun e w' => e = .returned (.tuple #[.agg #[.int .u8 (l : Nat), .int .u8 (d : Nat), .int .u8 (r : Nat), .int .u8 (s : Nat)], .int .i64 (k : Nat)]) ∧ Below w.heap.size w w'))
    (hh : h % 6 = 2) (hM : max (x : Int) 3 = (M : Int))
    (S1 : Hid (Bd 17 #[.agg #[.int .u8 (l : Nat), .int .u8 (d : Nat), .int .u8 (M : Nat), .int .u8 (s : Nat)], .int .i64 (k : Nat), .int .u8 0] (.tuple #[.int .i64 0, .int .i64 2])))
    (S2 : Hid (∀ v : Bool, Bd 18 #[.agg #[.int .u8 (l : Nat), .int .u8 (d : Nat), .int .u8 (M : Nat), .int .u8 (s : Nat)], .int .i64 (k : Nat), .bool v] (.tuple #[.int .i64 0, .int .i64 2]))) (S3 : Hid (Bd 20 #[.agg #[.int .u8 (l : Nat), .int .u8 (d : Nat), .int .u8 (M : Nat), .int .u8 (s : Nat)], .int .i64 (k : Nat)] (.tuple #[.string ⟨#[]⟩, .int .i64 2])))
    (S4 : Hid (Bd 22 #[.agg #[.int .u8 (l : Nat), .int .u8 (d : Nat), .int .u8 (M : Nat), .int .u8 (s : Nat)]] (.tuple #[.string ⟨#[]⟩, .int .i64 2]))) (S5 : Hid (Bd 24 #[.agg #[.int .u8 (l : Nat), .int .u8 (d : Nat), .int .u8 (M : Nat), .int .u8 (s : Nat)]] (.bool false))) (S6 : Hid (Bd 16 #[.agg #[.int .u8 (l : Nat), .int .u8 (d : Nat), .int .u8 (M : Nat), .int .u8 (s : Nat)]] (.int .i64 0))) :
    Calls Tryd.prog 10 #[.int .u32 n, .int .u8 h, .int .u8 x, .int .i64 K] w fun e w' => e = .returned (.bool true) ∧ Below w.heap.size w w' := by
  have HE := Lib.hid hE
  have f1 : (h : Int) % 6 = 2 := by omega
  clear hE hh
  go_enter Tryd.func10, Tryd.ntmps10
  go_wp2_with fail
  refine (MC.out _).mono ?_
  rintro e w1 ⟨rfl, hb⟩
  have hi : InvB w (w1.alloc (.cells #[.int .u8 (l : Nat), .int .u8 (d : Nat), .int .u8 (M : Nat), .int .u8 (s : Nat)] 23)) w1.heap.size 23 #[.int .u8 (l : Nat), .int .u8 (d : Nat), .int .u8 (M : Nat), .int .u8 (s : Nat)] := ⟨Inv.alloc ⟨HE.out.keep hb, hb⟩ _, Blk.new _ _ _⟩
  have H1 := Lib.hid hi
  clear hb hi
  go_wp2_with fail
  refine (invb_of S1.out H1.out).mono ?_
  rintro e w2 ⟨rfl, hi⟩
  have x0 := hi.blk.cell (j := 0) (v := .int .u8 (l : Nat)) rfl
  have x1 := hi.blk.cell (j := 1) (v := .int .u8 (d : Nat)) rfl
  have x2 := hi.blk.cell (j := 2) (v := .int .u8 (M : Nat)) rfl
  have x3 := hi.blk.cell (j := 3) (v := .int .u8 (s : Nat)) rfl
  have Hw2 := Lib.hid hi
  clear hi
  go_wp2_with fail
  refine (invb_of (S2.out _) Hw2.out).mono ?_
  rintro e w3 ⟨rfl, hi⟩
  clear x0 x1 x2 x3
  have x0 := hi.blk.cell (j := 0) (v := .int .u8 (l : Nat)) rfl
  have x1 := hi.blk.cell (j := 1) (v := .int .u8 (d : Nat)) rfl
  have x2 := hi.blk.cell (j := 2) (v := .int .u8 (M : Nat)) rfl
  have x3 := hi.blk.cell (j := 3) (v := .int .u8 (s : Nat)) rfl
  have Hw3 := Lib.hid hi
  clear hi
  go_wp2_with fail
  refine (invb_of S3.out Hw3.out).mono ?_
  rintro e w4 ⟨rfl, hi⟩
  clear x0 x1 x2 x3
  have x0 := hi.blk.cell (j := 0) (v := .int .u8 (l : Nat)) rfl
  have x1 := hi.blk.cell (j := 1) (v := .int .u8 (d : Nat)) rfl
  have x2 := hi.blk.cell (j := 2) (v := .int .u8 (M : Nat)) rfl
  have x3 := hi.blk.cell (j := 3) (v := .int .u8 (s : Nat)) rfl
  have Hw4 := Lib.hid hi
  clear hi
  go_wp2_with fail
  refine (invb_of S4.out Hw4.out).mono ?_
  rintro e w5 ⟨rfl, hi⟩
  clear x0 x1 x2 x3
  have x0 := hi.blk.cell (j := 0) (v := .int .u8 (l : Nat)) rfl
  have x1 := hi.blk.cell (j := 1) (v := .int .u8 (d : Nat)) rfl
  have x2 := hi.blk.cell (j := 2) (v := .int .u8 (M : Nat)) rfl
  have x3 := hi.blk.cell (j := 3) (v := .int .u8 (s : Nat)) rfl
  have Hw5 := Lib.hid hi
  clear hi
  go_wp2_with fail
  refine (invb_of S5.out Hw5.out).mono ?_
  rintro e w6 ⟨rfl, hi⟩
  clear x0 x1 x2 x3
  have x0 := hi.blk.cell (j := 0) (v := .int .u8 (l : Nat)) rfl
  have x1 := hi.blk.cell (j := 1) (v := .int .u8 (d : Nat)) rfl
  have x2 := hi.blk.cell (j := 2) (v := .int .u8 (M : Nat)) rfl
  have x3 := hi.blk.cell (j := 3) (v := .int .u8 (s : Nat)) rfl
  have Hw6 := Lib.hid hi
  clear hi
  go_wp2_with fail
  refine (invb_of S6.out Hw6.out).mono ?_
  rintro e w7 ⟨rfl, hi⟩
  clear x0 x1 x2 x3
  have x0 := hi.blk.cell (j := 0) (v := .int .u8 (l : Nat)) rfl
  have x1 := hi.blk.cell (j := 1) (v := .int .u8 (d : Nat)) rfl
  have x2 := hi.blk.cell (j := 2) (v := .int .u8 (M : Nat)) rfl
  have x3 := hi.blk.cell (j := 3) (v := .int .u8 (s : Nat)) rfl
  have Hw7 := Lib.hid hi
  clear hi
  go_wp2_with fail
  refine (awake_i Hw7.out.inv).mono ?_
  rintro e w9 ⟨rfl, h9⟩
  go_wp2_with fail
  go_ret
  exact ⟨rfl, h9.below⟩
set_option maxRecDepth 100000 in
set_option maxHeartbeats 4000000 in
theorem wrong_3 (n h x l d r s k M : Nat) (K : Int) (w : World) (hE : Env w) (MC : Hid (∀ w, Calls Tryd.prog 14 #[.int .u32 n] w fun e w' => e = .returned (.tuple #[.agg #[.int .u8 (l : Nat), .int .u8 (d : Nat), .int .u8 (r : Nat), .int .u8 (s : Nat)], .int .i64 (k : Nat)]) ∧ Below w.heap.size w w'))
    (hh : h % 6 = 3) (hM : max (x : Int) 4 = (M : Int))
    (S1 : Hid (Bd 17 #[.agg #[.int .u8 (l : Nat), .int .u8 (d : Nat), .int .u8 (r : Nat), .int .u8 (M : Nat)], .int .i64 (k : Nat), .int .u8 0] (.tuple #[.int .i64 0, .int .i64 2])))
    (S2 : Hid (∀ v : Bool, Bd 18 #[.agg #[.int .u8 (l : Nat), .int .u8 (d : Nat), .int .u8 (r : Nat), .int .u8 (M : Nat)], .int .i64 (k : Nat), .bool v] (.tuple #[.int .i64 0, .int .i64 2]))) (S3 : Hid (Bd 20 #[.agg #[.int .u8 (l : Nat), .int .u8 (d : Nat), .int .u8 (r : Nat), .int .u8 (M : Nat)], .int .i64 (k : Nat)] (.tuple #[.string ⟨#[]⟩, .int .i64 2])))
    (S4 : Hid (Bd 22 #[.agg #[.int .u8 (l : Nat), .int .u8 (d : Nat), .int .u8 (r : Nat), .int .u8 (M : Nat)]] (.tuple #[.string ⟨#[]⟩, .int .i64 2]))) (S5 : Hid (Bd 24 #[.agg #[.int .u8 (l : Nat), .int .u8 (d : Nat), .int .u8 (r : Nat), .int .u8 (M : Nat)]] (.bool false))) (S6 : Hid (Bd 16 #[.agg #[.int .u8 (l : Nat), .int .u8 (d : Nat), .int .u8 (r : Nat), .int .u8 (M : Nat)]] (.int .i64 0))) :
    Calls Tryd.prog 10 #[.int .u32 n, .int .u8 h, .int .u8 x, .int .i64 K] w fun e w' => e = .returned (.bool true) ∧ Below w.heap.size w w' := by
  have HE := Lib.hid hE
  have f1 : (h : Int) % 6 = 3 := by omega
  clear hE hh
  go_enter Tryd.func10, Tryd.ntmps10
  go_wp2_with fail
  refine (MC.out _).mono ?_
  rintro e w1 ⟨rfl, hb⟩
  have hi : InvB w (w1.alloc (.cells #[.int .u8 (l : Nat), .int .u8 (d : Nat), .int .u8 (r : Nat), .int .u8 (M : Nat)] 23)) w1.heap.size 23 #[.int .u8 (l : Nat), .int .u8 (d : Nat), .int .u8 (r : Nat), .int .u8 (M : Nat)] := ⟨Inv.alloc ⟨HE.out.keep hb, hb⟩ _, Blk.new _ _ _⟩
  have H1 := Lib.hid hi
  clear hb hi
  go_wp2_with fail
  refine (invb_of S1.out H1.out).mono ?_
  rintro e w2 ⟨rfl, hi⟩
  have x0 := hi.blk.cell (j := 0) (v := .int .u8 (l : Nat)) rfl
  have x1 := hi.blk.cell (j := 1) (v := .int .u8 (d : Nat)) rfl
  have x2 := hi.blk.cell (j := 2) (v := .int .u8 (r : Nat)) rfl
  have x3 := hi.blk.cell (j := 3) (v := .int .u8 (M : Nat)) rfl
  have Hw2 := Lib.hid hi
  clear hi
  go_wp2_with fail
  refine (invb_of (S2.out _) Hw2.out).mono ?_
  rintro e w3 ⟨rfl, hi⟩
  clear x0 x1 x2 x3
  have x0 := hi.blk.cell (j := 0) (v := .int .u8 (l : Nat)) rfl
  have x1 := hi.blk.cell (j := 1) (v := .int .u8 (d : Nat)) rfl
  have x2 := hi.blk.cell (j := 2) (v := .int .u8 (r : Nat)) rfl
  have x3 := hi.blk.cell (j := 3) (v := .int .u8 (M : Nat)) rfl
  have Hw3 := Lib.hid hi
  clear hi
  go_wp2_with fail
  refine (invb_of S3.out Hw3.out).mono ?_
  rintro e w4 ⟨rfl, hi⟩
  clear x0 x1 x2 x3
  have x0 := hi.blk.cell (j := 0) (v := .int .u8 (l : Nat)) rfl
  have x1 := hi.blk.cell (j := 1) (v := .int .u8 (d : Nat)) rfl
  have x2 := hi.blk.cell (j := 2) (v := .int .u8 (r : Nat)) rfl
  have x3 := hi.blk.cell (j := 3) (v := .int .u8 (M : Nat)) rfl
  have Hw4 := Lib.hid hi
  clear hi
  go_wp2_with fail
  refine (invb_of S4.out Hw4.out).mono ?_
  rintro e w5 ⟨rfl, hi⟩
  clear x0 x1 x2 x3
  have x0 := hi.blk.cell (j := 0) (v := .int .u8 (l : Nat)) rfl
  have x1 := hi.blk.cell (j := 1) (v := .int .u8 (d : Nat)) rfl
  have x2 := hi.blk.cell (j := 2) (v := .int .u8 (r : Nat)) rfl
  have x3 := hi.blk.cell (j := 3) (v := .int .u8 (M : Nat)) rfl
  have Hw5 := Lib.hid hi
  clear hi
  go_wp2_with fail
  refine (invb_of S5.out Hw5.out).mono ?_
  rintro e w6 ⟨rfl, hi⟩
  clear x0 x1 x2 x3
  have x0 := hi.blk.cell (j := 0) (v := .int .u8 (l : Nat)) rfl
  have x1 := hi.blk.cell (j := 1) (v := .int .u8 (d : Nat)) rfl
  have x2 := hi.blk.cell (j := 2) (v := .int .u8 (r : Nat)) rfl
  have x3 := hi.blk.cell (j := 3) (v := .int .u8 (M : Nat)) rfl
  have Hw6 := Lib.hid hi
  clear hi
  go_wp2_with fail
  refine (invb_of S6.out Hw6.out).mono ?_
  rintro e w7 ⟨rfl, hi⟩
  clear x0 x1 x2 x3
  have x0 := hi.blk.cell (j := 0) (v := .int .u8 (l : Nat)) rfl
  have x1 := hi.blk.cell (j := 1) (v := .int .u8 (d : Nat)) rfl
  have x2 := hi.blk.cell (j := 2) (v := .int .u8 (r : Nat)) rfl
  have x3 := hi.blk.cell (j := 3) (v := .int .u8 (M : Nat)) rfl
  have Hw7 := Lib.hid hi
  clear hi
  go_wp2_with fail
  refine (awake_i Hw7.out.inv).mono ?_
  rintro e w9 ⟨rfl, h9⟩
  go_wp2_with fail
  go_ret
  exact ⟨rfl, h9.below⟩
set_option maxRecDepth 100000 in
set_option maxHeartbeats 4000000 in
theorem wrong_4a (n h x l d r s k : Nat) (K T : Int) (w : World) (hE : Env w) (MC : Hid (∀ w, Calls Tryd.prog 14 #[.int .u32 n] w fun e w' => e = .returned (.tuple #[.agg #[.int .u8 (l : Nat), .int .u8 (d : Nat), .int .u8 (r : Nat), .int .u8 (s : Nat)], .int .i64 (k : Nat)]) ∧ Below w.heap.size w w'))
    (hh : h % 6 = 4) (hT : min K (-1) = T) (hx : x % 2 = 0)
    (S1 : Hid (Bd 17 #[.agg #[.int .u8 (l : Nat), .int .u8 (d : Nat), .int .u8 (r : Nat), .int .u8 (s : Nat)], .int .i64 T, .int .u8 0] (.tuple #[.int .i64 0, .int .i64 2])))
    (S2 : Hid (∀ v : Bool, Bd 18 #[.agg #[.int .u8 (l : Nat), .int .u8 (d : Nat), .int .u8 (r : Nat), .int .u8 (s : Nat)], .int .i64 T, .bool v] (.tuple #[.int .i64 0, .int .i64 2]))) (S3 : Hid (Bd 20 #[.agg #[.int .u8 (l : Nat), .int .u8 (d : Nat), .int .u8 (r : Nat), .int .u8 (s : Nat)], .int .i64 T] (.tuple #[.string ⟨#[]⟩, .int .i64 2]))) :
    Calls Tryd.prog 10 #[.int .u32 n, .int .u8 h, .int .u8 x, .int .i64 K] w fun e w' => e = .returned (.bool true) ∧ Below w.heap.size w w' := by
  have HE := Lib.hid hE
  have f1 : (h : Int) % 6 = 4 := by omega
  have f2 : (x : Int) % 2 = 0 := by omega
  clear hE hh hx
  go_enter Tryd.func10, Tryd.ntmps10
  go_wp2_with fail
  refine (MC.out _).mono ?_
  rintro e w1 ⟨rfl, hb⟩
  have hi : InvB w (w1.alloc (.cells #[.int .u8 (l : Nat), .int .u8 (d : Nat), .int .u8 (r : Nat), .int .u8 (s : Nat)] 23)) w1.heap.size 23 #[.int .u8 (l : Nat), .int .u8 (d : Nat), .int .u8 (r : Nat), .int .u8 (s : Nat)] := ⟨Inv.alloc ⟨HE.out.keep hb, hb⟩ _, Blk.new _ _ _⟩
  have H1 := Lib.hid hi
  clear hb hi
  go_wp2_with fail
  refine (invb_of S1.out H1.out).mono ?_
  rintro e w2 ⟨rfl, hi⟩
  have x0 := hi.blk.cell (j := 0) (v := .int .u8 (l : Nat)) rfl
  have x1 := hi.blk.cell (j := 1) (v := .int .u8 (d : Nat)) rfl
  have x2 := hi.blk.cell (j := 2) (v := .int .u8 (r : Nat)) rfl
  have x3 := hi.blk.cell (j := 3) (v := .int .u8 (s : Nat)) rfl
  have Hw2 := Lib.hid hi
  clear hi
  go_wp2_with fail
  refine (invb_of (S2.out _) Hw2.out).mono ?_
  rintro e w3 ⟨rfl, hi⟩
  clear x0 x1 x2 x3
  have x0 := hi.blk.cell (j := 0) (v := .int .u8 (l : Nat)) rfl
  have x1 := hi.blk.cell (j := 1) (v := .int .u8 (d : Nat)) rfl
  have x2 := hi.blk.cell (j := 2) (v := .int .u8 (r : Nat)) rfl
  have x3 := hi.blk.cell (j := 3) (v := .int .u8 (s : Nat)) rfl
  have Hw3 := Lib.hid hi
  clear hi
  go_wp2_with fail
  refine (invb_of S3.out Hw3.out).mono ?_
  rintro e w4 ⟨rfl, hi⟩
  clear x0 x1 x2 x3
  have x0 := hi.blk.cell (j := 0) (v := .int .u8 (l : Nat)) rfl
  have x1 := hi.blk.cell (j := 1) (v := .int .u8 (d : Nat)) rfl
  have x2 := hi.blk.cell (j := 2) (v := .int .u8 (r : Nat)) rfl
  have x3 := hi.blk.cell (j := 3) (v := .int .u8 (s : Nat)) rfl
  have Hw4 := Lib.hid hi
  clear hi
  go_wp2_with fail
  refine (awake_i Hw4.out.inv).mono ?_
  rintro e w9 ⟨rfl, h9⟩
  go_wp2_with fail
  go_ret
  exact ⟨rfl, h9.below⟩
set_option maxRecDepth 100000 in
set_option maxHeartbeats 4000000 in
theorem wrong_4b (n h x l d r s k : Nat) (K T : Int) (w : World) (hE : Env w) (MC : Hid (∀ w, Calls Tryd.prog 14 #[.int .u32 n] w fun e w' => e = .returned (.tuple #[.agg #[.int .u8 (l : Nat), .int .u8 (d : Nat), .int .u8 (r : Nat), .int .u8 (s : Nat)], .int .i64 (k : Nat)]) ∧ Below w.heap.size w w'))
    (hh : h % 6 = 4) (hT : max K 14 = T) (hx : x % 2 = 1)
    (S1 : Hid (Bd 17 #[.agg #[.int .u8 (l : Nat), .int .u8 (d : Nat), .int .u8 (r : Nat), .int .u8 (s : Nat)], .int .i64 T, .int .u8 0] (.tuple #[.int .i64 0, .int .i64 2])))
    (S2 : Hid (∀ v : Bool, Bd 18 #[.agg #[.int .u8 (l : Nat), .int .u8 (d : Nat), .int .u8 (r : Nat), .int .u8 (s : Nat)], .int .i64 T, .bool v] (.tuple #[.int .i64 0, .int .i64 2]))) (S3 : Hid (Bd 20 #[.agg #[.int .u8 (l : Nat), .int .u8 (d : Nat), .int .u8 (r : Nat), .int .u8 (s : Nat)], .int .i64 T] (.tuple #[.string ⟨#[]⟩, .int .i64 2]))) :
    Calls Tryd.prog 10 #[.int .u32 n, .int .u8 h, .int .u8 x, .int .i64 K] w fun e w' => e = .returned (.bool true) ∧ Below w.heap.size w w' := by
  have HE := Lib.hid hE
  have f1 : (h : Int) % 6 = 4 := by omega
  have f2 : (x : Int) % 2 = 1 := by omega
  clear hE hh hx
  go_enter Tryd.func10, Tryd.ntmps10
  go_wp2_with fail
  refine (MC.out _).mono ?_
  rintro e w1 ⟨rfl, hb⟩
  have hi : InvB w (w1.alloc (.cells #[.int .u8 (l : Nat), .int .u8 (d : Nat), .int .u8 (r : Nat), .int .u8 (s : Nat)] 23)) w1.heap.size 23 #[.int .u8 (l : Nat), .int .u8 (d : Nat), .int .u8 (r : Nat), .int .u8 (s : Nat)] := ⟨Inv.alloc ⟨HE.out.keep hb, hb⟩ _, Blk.new _ _ _⟩
  have H1 := Lib.hid hi
  clear hb hi
  go_wp2_with fail
  refine (invb_of S1.out H1.out).mono ?_
  rintro e w2 ⟨rfl, hi⟩
  have x0 := hi.blk.cell (j := 0) (v := .int .u8 (l : Nat)) rfl
  have x1 := hi.blk.cell (j := 1) (v := .int .u8 (d : Nat)) rfl
  have x2 := hi.blk.cell (j := 2) (v := .int .u8 (r : Nat)) rfl
  have x3 := hi.blk.cell (j := 3) (v := .int .u8 (s : Nat)) rfl
  have Hw2 := Lib.hid hi
  clear hi
  go_wp2_with fail
  refine (invb_of (S2.out _) Hw2.out).mono ?_
  rintro e w3 ⟨rfl, hi⟩
  clear x0 x1 x2 x3
  have x0 := hi.blk.cell (j := 0) (v := .int .u8 (l : Nat)) rfl
  have x1 := hi.blk.cell (j := 1) (v := .int .u8 (d : Nat)) rfl
  have x2 := hi.blk.cell (j := 2) (v := .int .u8 (r : Nat)) rfl
  have x3 := hi.blk.cell (j := 3) (v := .int .u8 (s : Nat)) rfl
  have Hw3 := Lib.hid hi
  clear hi
  go_wp2_with fail
  refine (invb_of S3.out Hw3.out).mono ?_
  rintro e w4 ⟨rfl, hi⟩
  clear x0 x1 x2 x3
  have x0 := hi.blk.cell (j := 0) (v := .int .u8 (l : Nat)) rfl
  have x1 := hi.blk.cell (j := 1) (v := .int .u8 (d : Nat)) rfl
  have x2 := hi.blk.cell (j := 2) (v := .int .u8 (r : Nat)) rfl
  have x3 := hi.blk.cell (j := 3) (v := .int .u8 (s : Nat)) rfl
  have Hw4 := Lib.hid hi
  clear hi
  go_wp2_with fail
  refine (awake_i Hw4.out.inv).mono ?_
  rintro e w9 ⟨rfl, h9⟩
  go_wp2_with fail
  go_ret
  exact ⟨rfl, h9.below⟩
set_option maxRecDepth 100000 in
set_option maxHeartbeats 4000000 in
theorem wrong_5 (n h x l d r s k V : Nat) (K : Int) (w : World) (hE : Env w) (MC : Hid (∀ w, Calls Tryd.prog 14 #[.int .u32 n] w fun e w' => e = .returned (.tuple #[.agg #[.int .u8 (l : Nat), .int .u8 (d : Nat), .int .u8 (r : Nat), .int .u8 (s : Nat)], .int .i64 (k : Nat)]) ∧ Below w.heap.size w w'))
    (hh : h % 6 = 5) (hV : max (x : Int) 4 = (V : Int))
    (S1 : Hid (Bd 17 #[.agg #[.int .u8 (l : Nat), .int .u8 (d : Nat), .int .u8 (r : Nat), .int .u8 (s : Nat)], .int .i64 (k : Nat), .int .u8 (V : Nat)] (.tuple #[.int .i64 0, .int .i64 2])))
    (S2 : Hid (Bd 19 #[.int .u8 (V : Nat), .int .u8 (x : Nat)] (.bool false))) (S3 : Hid (Bd 19 #[.int .u8 3, .int .u8 (V : Nat)] (.bool false))) :
    Calls Tryd.prog 10 #[.int .u32 n, .int .u8 h, .int .u8 x, .int .i64 K] w fun e w' => e = .returned (.bool true) ∧ Below w.heap.size w w' := by
  have HE := Lib.hid hE
  have f1 : (h : Int) % 6 = 5 := by omega
  clear hE hh
  go_enter Tryd.func10, Tryd.ntmps10
  go_wp2_with fail
  refine (MC.out _).mono ?_
  rintro e w1 ⟨rfl, hb⟩
  have hi : InvB w (w1.alloc (.cells #[.int .u8 (l : Nat), .int .u8 (d : Nat), .int .u8 (r : Nat), .int .u8 (s : Nat)] 23)) w1.heap.size 23 #[.int .u8 (l : Nat), .int .u8 (d : Nat), .int .u8 (r : Nat), .int .u8 (s : Nat)] := ⟨Inv.alloc ⟨HE.out.keep hb, hb⟩ _, Blk.new _ _ _⟩
  have H1 := Lib.hid hi
  clear hb hi
  go_wp2_with fail
  refine (invb_of S1.out H1.out).mono ?_
  rintro e w2 ⟨rfl, hi⟩
  have x0 := hi.blk.cell (j := 0) (v := .int .u8 (l : Nat)) rfl
  have x1 := hi.blk.cell (j := 1) (v := .int .u8 (d : Nat)) rfl
  have x2 := hi.blk.cell (j := 2) (v := .int .u8 (r : Nat)) rfl
  have x3 := hi.blk.cell (j := 3) (v := .int .u8 (s : Nat)) rfl
  have Hw2 := Lib.hid hi
  clear hi
  go_wp2_with fail
  refine (invb_of S2.out Hw2.out).mono ?_
  rintro e w3 ⟨rfl, hi⟩
  clear x0 x1 x2 x3
  have x0 := hi.blk.cell (j := 0) (v := .int .u8 (l : Nat)) rfl
  have x1 := hi.blk.cell (j := 1) (v := .int .u8 (d : Nat)) rfl
  have x2 := hi.blk.cell (j := 2) (v := .int .u8 (r : Nat)) rfl
  have x3 := hi.blk.cell (j := 3) (v := .int .u8 (s : Nat)) rfl
  have Hw3 := Lib.hid hi
  clear hi
  go_wp2_with fail
  refine (invb_of S3.out Hw3.out).mono ?_
  rintro e w4 ⟨rfl, hi⟩
  clear x0 x1 x2 x3
  have x0 := hi.blk.cell (j := 0) (v := .int .u8 (l : Nat)) rfl
  have x1 := hi.blk.cell (j := 1) (v := .int .u8 (d : Nat)) rfl
  have x2 := hi.blk.cell (j := 2) (v := .int .u8 (r : Nat)) rfl
  have x3 := hi.blk.cell (j := 3) (v := .int .u8 (s : Nat)) rfl
  have Hw4 := Lib.hid hi
  clear hi
  go_wp2_with fail
  refine (awake_i Hw4.out.inv).mono ?_
  rintro e w9 ⟨rfl, h9⟩
  go_wp2_with fail
  go_ret
  exact ⟨rfl, h9.below⟩
theorem rgt_no (l d r s : Nat) (h : 8 ≤ l ∨ (1 ≤ l ∧ 5 ≤ d) ∨ 3 ≤ r ∨ 4 ≤ s) : rgt l d r s = false := by
  cases hr : rgt l d r s
  · rfl
  · have := rgt_of l d r s hr
    omega
theorem res_no (l d r s : Nat) (K : Int) (h : rgt l d r s = false) : resP l d r s K = false := by
  unfold resP
  rw [h]; rfl
theorem res_out (l d r s : Nat) (K : Int) (h : K < 0 ∨ 13 < K) : resP l d r s K = false := by
  cases hr : resP l d r s K
  · rfl
  · have := res_of hr
    omega
theorem wrong_walk (n h x : Nat) (K : Int) (w : World) (hE : Env w) (hn : n < 4294967296) (hx : x < 256) :
    Calls Tryd.prog 10 #[.int .u32 n, .int .u8 h, .int .u8 x, .int .i64 K] w fun e w' => e = .returned (.bool true) ∧ Below w.heap.size w w' := by
  have h7 : madeL n ≤ 7 := by rcases made_ok n with h0 | h0 <;> omega
  have MC := Lib.hid (fun w => made_c n w hn)
  generalize madeL n = l at *
  generalize madeD n = d at *
  generalize madeR n = r at *
  generalize madeS n = s at *
  generalize madeK n = k at *
  rcases (by omega : h % 6 = 0 ∨ h % 6 = 1 ∨ h % 6 = 2 ∨ h % 6 = 3 ∨ h % 6 = 4 ∨ h % 6 = 5) with hh | hh | hh | hh | hh | hh
  · obtain ⟨M, hM⟩ : ∃ M : Nat, M = max x 8 := ⟨_, rfl⟩
    have hb := rgt_no M d r s (by omega)
    have hl : M < 256 := by omega
    exact wrong_0 n h x l d r s k M K w hE MC hh (by omega) (Lib.hid (bd_score _ _ _ _ _ 0 hl (.inl (res_no _ _ _ _ _ hb)))) (Lib.hid fun v => bd_points _ _ _ _ _ v hl (res_no _ _ _ _ _ hb)) (Lib.hid (bd_write _ _ _ _ _ hl (res_no _ _ _ _ _ hb))) (Lib.hid (bd_text _ _ _ _ hb)) (Lib.hid (bd_right _ _ _ _ hb)) (Lib.hid (bd_need _ _ _ _ hl hb))
  · obtain ⟨M, hM⟩ : ∃ M : Nat, M = max x 5 := ⟨_, rfl⟩
    obtain ⟨L, hL⟩ : ∃ L : Nat, L = max l 1 := ⟨_, rfl⟩
    have hb := rgt_no L M r s (by omega)
    have hl : L < 256 := by omega
    exact wrong_1 n h x l d r s k L M K w hE MC hh (by omega) (by omega) (Lib.hid (bd_score _ _ _ _ _ 0 hl (.inl (res_no _ _ _ _ _ hb)))) (Lib.hid fun v => bd_points _ _ _ _ _ v hl (res_no _ _ _ _ _ hb)) (Lib.hid (bd_write _ _ _ _ _ hl (res_no _ _ _ _ _ hb))) (Lib.hid (bd_text _ _ _ _ hb)) (Lib.hid (bd_right _ _ _ _ hb)) (Lib.hid (bd_need _ _ _ _ hl hb))
  · obtain ⟨M, hM⟩ : ∃ M : Nat, M = max x 3 := ⟨_, rfl⟩
    have hb := rgt_no l d M s (by omega)
    have hl : l < 256 := by omega
    exact wrong_2 n h x l d r s k M K w hE MC hh (by omega) (Lib.hid (bd_score _ _ _ _ _ 0 hl (.inl (res_no _ _ _ _ _ hb)))) (Lib.hid fun v => bd_points _ _ _ _ _ v hl (res_no _ _ _ _ _ hb)) (Lib.hid (bd_write _ _ _ _ _ hl (res_no _ _ _ _ _ hb))) (Lib.hid (bd_text _ _ _ _ hb)) (Lib.hid (bd_right _ _ _ _ hb)) (Lib.hid (bd_need _ _ _ _ hl hb))
  · obtain ⟨M, hM⟩ : ∃ M : Nat, M = max x 4 := ⟨_, rfl⟩
    have hb := rgt_no l d r M (by omega)
    have hl : l < 256 := by omega
    exact wrong_3 n h x l d r s k M K w hE MC hh (by omega) (Lib.hid (bd_score _ _ _ _ _ 0 hl (.inl (res_no _ _ _ _ _ hb)))) (Lib.hid fun v => bd_points _ _ _ _ _ v hl (res_no _ _ _ _ _ hb)) (Lib.hid (bd_write _ _ _ _ _ hl (res_no _ _ _ _ _ hb))) (Lib.hid (bd_text _ _ _ _ hb)) (Lib.hid (bd_right _ _ _ _ hb)) (Lib.hid (bd_need _ _ _ _ hl hb))
  · have hl : l < 256 := by omega
    rcases (by omega : x % 2 = 0 ∨ x % 2 = 1) with h2 | h2
    · have hb := res_out l d r s (min K (-1)) (by omega)
      exact wrong_4a n h x l d r s k K _ w hE MC hh rfl h2 (Lib.hid (bd_score _ _ _ _ _ 0 hl (.inl hb))) (Lib.hid fun v => bd_points _ _ _ _ _ v hl hb) (Lib.hid (bd_write _ _ _ _ _ hl hb))
    · have hb := res_out l d r s (max K 14) (by omega)
      exact wrong_4b n h x l d r s k K _ w hE MC hh rfl h2 (Lib.hid (bd_score _ _ _ _ _ 0 hl (.inl hb))) (Lib.hid fun v => bd_points _ _ _ _ _ v hl hb) (Lib.hid (bd_write _ _ _ _ _ hl hb))
  · obtain ⟨V, hV⟩ : ∃ V : Nat, V = max x 4 := ⟨_, rfl⟩
    have hl : l < 256 := by omega
    exact wrong_5 n h x l d r s k V K w hE MC hh (by omega) (Lib.hid (bd_score _ _ _ _ _ V hl (.inr (by omega)))) (Lib.hid (bd_vul V x (vul_out _ _ (by omega)))) (Lib.hid (bd_vul 3 V (vul_out _ _ (by omega))))
end Go.Proofs.YtgmofikhndlhcaaDoor
