/- BoardDiffers: the walk. -/
import Derived.Test.YtaadipccgckehaaDoorDiffB
namespace Go.Proofs.YtaadipccgckehaaDoor
open Go Go.RowKit Pl

set_option maxRecDepth 100000 in
set_option maxHeartbeats 2000000 in
theorem boarddiffers_walk (x y : Four) (hx : F64 x) (hy : F64 y) (v : Value) (l : List Four) (hall : ∀ (j : Nat) (y : Four), l[j]? = some y → F64 y) (w : World) (he : Env w) (hd : DR 35 w v l) : Calls Tryd.prog 4 #[.agg #[.int .u64 (ofF x 0 : Nat), .int .u64 (ofF x 1 : Nat), .int .u64 (ofF x 2 : Nat), .int .u64 (ofF x 3 : Nat)], .agg #[.int .u64 (ofF y 0 : Nat), .int .u64 (ofF y 1 : Nat), .int .u64 (ofF y 2 : Nat), .int .u64 (ofF y 3 : Nat)], v] w (fun e w' => e = .returned (.bool true) ∧ Below w.heap.size w w') := by
  have DF := Lib.hid (fun W => differs_any (ofF x) (ofF y) hx hy W)
  have CL := Lib.hid (fun (hl : l.length ≤ 100000) W hd => lclasses_any v l hl hall W hd)
  have HD := Lib.hid hd
  have HE := Lib.hid he
  have BX := Lib.hid (boxes (w := w) (D := ofF x) (E := ofF y) 35)
  rw [show dC (ofF x) = #[.int .u64 (ofF x 0 : Nat), .int .u64 (ofF x 1 : Nat), .int .u64 (ofF x 2 : Nat), .int .u64 (ofF x 3 : Nat)] from rfl, show dC (ofF y) = #[.int .u64 (ofF y 0 : Nat), .int .u64 (ofF y 1 : Nat), .int .u64 (ofF y 2 : Nat), .int .u64 (ofF y 3 : Nat)] from rfl] at BX
  obtain ⟨A, cap, hv⟩ := hd.len
  obtain ⟨N, hN⟩ : ∃ N, l.length = N := ⟨_, rfl⟩
  rw [hN] at hv CL
  subst hv
  clear hd he hall hx hy hN
  go_enter Tryd.func4, Tryd.ntmps4
  go_upto_region 1 with fail
  generalize (w.alloc (.cells #[.int .u64 (ofF x 0 : Nat), .int .u64 (ofF x 1 : Nat), .int .u64 (ofF x 2 : Nat), .int .u64 (ofF x 3 : Nat)] 35)).alloc (.cells #[.int .u64 (ofF y 0 : Nat), .int .u64 (ofF y 1 : Nat), .int .u64 (ofF y 2 : Nat), .int .u64 (ofF y 3 : Nat)] 35) = W1 at *
  obtain ⟨ba, bb, bw⟩ := BX.out
  have a0 := ba.cell (j := 0) rfl
  have a1 := ba.cell (j := 1) rfl
  have a2 := ba.cell (j := 2) rfl
  have a3 := ba.cell (j := 3) rfl
  have b0 := bb.cell (j := 0) rfl
  have b1 := bb.cell (j := 1) rfl
  have b2 := bb.cell (j := 2) rfl
  have b3 := bb.cell (j := 3) rfl
  have BW := Lib.hid bw
  clear ba bb bw BX
  by_cases h40 : 40 < N
  · have t1 : decide (40 < (N : Int)) = true := decide_eq_true (by omega)
    have t2 : decide (40 < N) = true := decide_eq_true h40
    go_wp2_with fail
    refine (DF.out _).mono ?_
    rintro e w1 ⟨rfl, hb⟩
    have B1 := Lib.hid (bchain BW.out hb)
    clear hb BW a0 a1 a2 a3 b0 b1 b2 b3
    go_wp2_with fail
    refine (awake_any _ (HE.out.keep B1.out)).mono ?_
    rintro e w2 ⟨rfl, hb⟩
    have B2 := Lib.hid (bchain B1.out hb)
    clear hb B1
    go_wp2_with fail
    go_ret
    exact ⟨rfl, B2.out⟩
  · have t1 : decide (40 < (N : Int)) = false := decide_eq_false (by omega)
    have t2 : decide (40 < N) = false := decide_eq_false h40
    go_wp2_with fail
    refine (DF.out _).mono ?_
    rintro e w1 ⟨rfl, hb⟩
    have B1 := Lib.hid (bchain BW.out hb)
    clear hb BW a0 a1 a2 a3 b0 b1 b2 b3
    go_wp2_with fail
    refine (CL.out (by omega) _ (HD.out.keep B1.out)).mono ?_
    rintro e w2 ⟨rfl, hb⟩
    have B2 := Lib.hid (bchain B1.out hb)
    clear hb B1
    go_wp2_with fail
    refine (awake_any _ (HE.out.keep B2.out)).mono ?_
    rintro e w3 ⟨rfl, hb⟩
    have B3 := Lib.hid (bchain B2.out hb)
    clear hb B2
    go_wp2_with fail
    go_ret
    exact ⟨rfl, B3.out⟩
theorem boarddiffers_open (x y : Four) (hx : F64 x) (hy : F64 y) (v : Value) (w : World) (he : Env w) (hd : ∃ l : List Four, DR 35 w v l ∧ ∀ (j : Nat) (y : Four), l[j]? = some y → F64 y) : Calls Tryd.prog 4 #[.agg #[.int .u64 (ofF x 0 : Nat), .int .u64 (ofF x 1 : Nat), .int .u64 (ofF x 2 : Nat), .int .u64 (ofF x 3 : Nat)], .agg #[.int .u64 (ofF y 0 : Nat), .int .u64 (ofF y 1 : Nat), .int .u64 (ofF y 2 : Nat), .int .u64 (ofF y 3 : Nat)], v] w (fun e w' => e = .returned (.bool true) ∧ Below w.heap.size w w') := by
  obtain ⟨l, h1, h2⟩ := hd
  exact boarddiffers_walk x y hx hy v l h2 w he h1
end Go.Proofs.YtaadipccgckehaaDoor
