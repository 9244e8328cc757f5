/- ScoreTells: the walk. -/
import Derived.Test.YtgmofikhndlhcaaDoorSame
namespace Go.Proofs.YtgmofikhndlhcaaDoor
open Go.RowKit

set_option maxRecDepth 100000 in
set_option maxHeartbeats 4000000 in
theorem tells_walk (l d r s u : Nat) (k : Int) (w : World) (hE : Env w) (hl : l < 256) :
    Calls Tryd.prog 3 #[.agg #[.int .u8 (l : Nat), .int .u8 (d : Nat), .int .u8 (r : Nat), .int .u8 (s : Nat)], .int .i64 k, .int .u8 u] w fun e w' => e = .returned (.bool true) ∧ Below w.heap.size w w' := by
  have HE := Lib.hid hE
  clear hE
  have SC := Lib.hid (fun w hw => same_any l d r s u k w hw hl)
  go_enter Tryd.func3, Tryd.ntmps3
  go_upto_region 1 with fail
  have H1 : Hid (InvB w (w.alloc (.cells #[.int .u8 (l : Nat), .int .u8 (d : Nat), .int .u8 (r : Nat), .int .u8 (s : Nat)] 23)) w.heap.size 23 #[.int .u8 (l : Nat), .int .u8 (d : Nat), .int .u8 (r : Nat), .int .u8 (s : Nat)]) := Lib.hid ⟨Inv.alloc ⟨HE.out, Below.refl _ _⟩ _, Blk.new _ _ _⟩
  generalize w.alloc (.cells #[.int .u8 (l : Nat), .int .u8 (d : Nat), .int .u8 (r : Nat), .int .u8 (s : Nat)] 23) = w1 at *
  generalize w.heap.size = b0 at *
  have k0 := H1.out.blk.cell (j := 0) (v := .int .u8 (l : Nat)) rfl
  have k1 := H1.out.blk.cell (j := 1) (v := .int .u8 (d : Nat)) rfl
  have k2 := H1.out.blk.cell (j := 2) (v := .int .u8 (r : Nat)) rfl
  have k3 := H1.out.blk.cell (j := 3) (v := .int .u8 (s : Nat)) rfl
  go_wp2_with fail
  refine (invb_of SC.out H1.out).mono ?_
  rintro e w2 ⟨rfl, h⟩
  clear k0 k1 k2 k3 H1
  have H2 := Lib.hid h
  clear h
  go_wp2_with fail
  refine (awake_i H2.out.inv).mono ?_
  rintro e w3 ⟨rfl, h⟩
  go_wp2_with fail
  go_ret
  exact ⟨rfl, h.below⟩
end Go.Proofs.YtgmofikhndlhcaaDoor
