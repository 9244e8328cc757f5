/- The contract of sums: no fraction; more than forty. -/
import Derived.Test.YtfhkgpipbegpgaaGreatDoorSums
import Derived.Test.YtfhkgpipbegpgaaGreatDoorKeptN
import Derived.Test.YtfhkgpipbegpgaaGreatDoorRefSumN
namespace Go.Proofs.YtfhkgpipbegpgaaGreatDoor
open Go Go.RowKit

/-- What sums keeps where there is no fraction. -/
structure SN (w0 W : World) (g : Nat) (l : List (Nat × TypeId × Array Value)) : Prop where
  inv : InvL w0 W l
  own : RowF W g 0 (marks 12)
section
variable {w0 W W' : World} {g : Nat} {l : List (Nat × TypeId × Array Value)}
theorem SN.keep (h : SN w0 W g l) (hb : Below W.heap.size W W') : SN w0 W' g l := ⟨h.inv.keep hb, h.own.keep hb⟩
theorem SN.push (h : SN w0 W g l) (t : TypeId) (c : Array Value) : SN w0 (W.alloc (.cells c t)) g ((W.heap.size, t, c) :: l) := ⟨h.inv.push t c, h.own.keep (below1 _ _)⟩
end
set_option maxRecDepth 100000 in
set_option maxHeartbeats 4000000 in
theorem sums_nil (n d : Int) (hf : FB n d) (w : World) (he : Env w) :
    Calls Tryz.prog 8 #[.int .i64 n, .int .i64 d, .slice none 0 0] w (RetBool true w) := by
  obtain ⟨⟨qa, qb, qc⟩, hq⟩ : ∃ q, q = ((0, 1, 0) : Int × Int × Int) := ⟨_, rfl⟩
  obtain ⟨⟨ma, mb, mc⟩, hm⟩ : ∃ q, makeP n d = q := ⟨_, rfl⟩
  have L1 := Lib.hid (lent_nil w)
  have S1 := Lib.hid (fun g W h => sum_any g 0 [] 12 (by decide) (fun x h => by cases h) W h)
  have S2 := Lib.hid (fun W => rsumn_nil W)
  have P1 := Lib.hid (fun W => make_any n d hf W)
  have P2 := Lib.hid (fun W => rmake_any n d hf W)
  have K1 := Lib.hid (fun g W h => kept_nil g W h)
  rw [show sumF [] = (0, 1, 0) from rfl, ← hq] at S1
  rw [← hq] at S2
  rw [hm] at P1 P2
  have HE := Lib.hid he
  clear hm hq hf he
  go_enter Tryz.func8, Tryz.ntmps8
  go_wp2_with fail
  refine L1.out.mono ?_
  rintro e w1 ⟨g, rfl, hg, _, hb⟩
  have H1 : Hid (SN w w1 g []) := Lib.hid ⟨(InvL.start HE.out).keep hb, hg⟩
  clear hb hg L1
  go_wp2_with fail
  refine (S1.out _ _ (RowF.pre (l := []) H1.out.own)).mono ?_
  rintro e w2 ⟨rfl, hb⟩
  have H2 := Lib.hid ((H1.out.keep hb).push 23 #[.int .i64 qa, .int .i64 qb])
  clear hb H1 S1
  go_upto_region 5 with fail
  generalize w2.alloc (.cells #[.int .i64 qa, .int .i64 qb] 23) = W2 at *
  generalize w2.heap.size = p1 at *
  go_wp2_with fail
  refine (S2.out _).mono ?_
  rintro e w3 ⟨rfl, hb⟩
  have H3 := Lib.hid ((H2.out.keep hb).push 23 #[.int .i64 qa, .int .i64 qb])
  clear hb H2 S2
  go_upto_region 6 with fail
  generalize w3.alloc (.cells #[.int .i64 qa, .int .i64 qb] 23) = W3 at *
  generalize w3.heap.size = p2 at *
  go_wp2_with fail
  refine (P1.out _).mono ?_
  rintro e w4 ⟨rfl, hb⟩
  have H4 := Lib.hid ((H3.out.keep hb).push 23 #[.int .i64 ma, .int .i64 mb])
  clear hb H3 P1
  go_upto_region 7 with fail
  generalize w4.alloc (.cells #[.int .i64 ma, .int .i64 mb] 23) = W4 at *
  generalize w4.heap.size = p3 at *
  go_wp2_with fail
  refine (P2.out _).mono ?_
  rintro e w5 ⟨rfl, hb⟩
  have H5 := Lib.hid ((H4.out.keep hb).push 23 #[.int .i64 ma, .int .i64 mb])
  clear hb H4 P2
  go_upto_region 8 with fail
  generalize w5.alloc (.cells #[.int .i64 ma, .int .i64 mb] 23) = W5 at *
  generalize w5.heap.size = p4 at *
  have a0 := H5.out.inv.cell (i := 3) rfl (j := 0) (v := .int .i64 qa) rfl
  have a1 := H5.out.inv.cell (i := 3) rfl (j := 1) (v := .int .i64 qb) rfl
  have b0 := H5.out.inv.cell (i := 2) rfl (j := 0) (v := .int .i64 qa) rfl
  have b1 := H5.out.inv.cell (i := 2) rfl (j := 1) (v := .int .i64 qb) rfl
  have c0 := H5.out.inv.cell (i := 1) rfl (j := 0) (v := .int .i64 ma) rfl
  have c1 := H5.out.inv.cell (i := 1) rfl (j := 1) (v := .int .i64 mb) rfl
  have d0 := H5.out.inv.cell (i := 0) rfl (j := 0) (v := .int .i64 ma) rfl
  have d1 := H5.out.inv.cell (i := 0) rfl (j := 1) (v := .int .i64 mb) rfl
  go_wp2_with fail
  refine (K1.out _ _ H5.out.own).mono ?_
  rintro e w6 ⟨rfl, hb⟩
  have HB := Lib.hid (bchain H5.out.inv.below hb)
  clear hb a0 a1 b0 b1 c0 c1 d0 d1 H5 K1
  go_wp2
  go_ret
  exact ⟨rfl, HB.out⟩
theorem sums_long (n d : Int) (A : Option Addr) (N cap : Nat) (hn : 40 < N) (w : World) :
    Calls Tryz.prog 8 #[.int .i64 n, .int .i64 d, .slice A N cap] w (RetBool true w) := by
  have t1 : decide (40 < (N : Int)) = true := decide_eq_true (by omega)
  have t1' : decide (40 < N) = true := decide_eq_true hn
  go_enter Tryz.func8, Tryz.ntmps8
  go_wp2_with fail
  go_ret
  exact ⟨rfl, Below.refl _ _⟩
end Go.Proofs.YtfhkgpipbegpgaaGreatDoor
