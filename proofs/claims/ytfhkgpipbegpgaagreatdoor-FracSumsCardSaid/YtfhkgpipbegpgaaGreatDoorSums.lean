/- The contract of sums. -/
import Derived.Test.YtfhkgpipbegpgaaGreatDoorKept
import Derived.Test.YtfhkgpipbegpgaaGreatDoorRefSum
import Derived.Test.YtfhkgpipbegpgaaGreatDoorRefR
import Derived.Test.YtfhkgpipbegpgaaGreatDoorOps2
import Derived.Deep.DeepCutAuto
namespace Go.Proofs.YtfhkgpipbegpgaaGreatDoor
open Go Go.RowKit

theorem RowF.pre {W : World} {b off : Nat} {l m : List (Int × Int)} (h : RowF W b off (l ++ m)) : RowF W b off l :=
  have hp : ∀ i x, l[i]? = some x → (l ++ m)[i]? = some x := fun i x hi => by
    rw [List.getElem?_append_left (List.getElem?_eq_some_iff.1 hi).1]; exact hi
  ⟨h.lt, fun i n d hi => h.num i n d (hp _ _ hi), fun i n d hi => h.den i n d (hp _ _ hi)⟩
/-- What sums keeps. -/
structure SU (w0 W : World) (g b off : Nat) (fs : List (Int × Int)) (l : List (Nat × TypeId × Array Value)) : Prop where
  inv : InvL w0 W l
  own : RowF W g 0 (fs ++ marks 12)
  arg : RowF W b off fs
section
variable {w0 W W' : World} {g b off : Nat} {fs : List (Int × Int)} {l : List (Nat × TypeId × Array Value)}
theorem SU.keep (h : SU w0 W g b off fs l) (hb : Below W.heap.size W W') : SU w0 W' g b off fs l := ⟨h.inv.keep hb, h.own.keep hb, h.arg.keep hb⟩
theorem SU.push (h : SU w0 W g b off fs l) (t : TypeId) (c : Array Value) : SU w0 (W.alloc (.cells c t)) g b off fs ((W.heap.size, t, c) :: l) :=
  ⟨h.inv.push t c, h.own.keep (below1 _ _), h.arg.keep (below1 _ _)⟩
end
set_option maxRecDepth 100000 in
set_option maxHeartbeats 4000000 in
theorem sums_any (n d : Int) (hf : FB n d) (b off : Nat) (fs : List (Int × Int)) (cap : Nat) (hn : fs.length ≤ 40) (hfs : ∀ x ∈ fs, FB x.1 x.2) (w : World) (he : Env w) (hR : RowF w b off fs) :
    Calls Tryz.prog 8 #[.int .i64 n, .int .i64 d, .slice (some ⟨b, off, none⟩) fs.length cap] w (RetBool true w) := by
  obtain ⟨⟨qa, qb, qc⟩, hq⟩ : ∃ q, sumF fs = q := ⟨_, rfl⟩
  obtain ⟨⟨ma, mb, mc⟩, hm⟩ : ∃ q, makeP n d = q := ⟨_, rfl⟩
  have L1 := Lib.hid (lent_any b off fs cap hn w hR)
  have S1 := Lib.hid (fun g W h => sum_any g 0 fs (fs.length + 12) (by omega) hfs W h)
  have S2 := Lib.hid (fun W h => rsumn_any b off fs cap (by omega) hfs W h)
  have P1 := Lib.hid (fun W => make_any n d hf W)
  have P2 := Lib.hid (fun W => rmake_any n d hf W)
  have K1 := Lib.hid (fun g W h1 h2 => kept_any b off g fs cap hn W h1 h2)
  rw [hq] at S1 S2
  rw [hm] at P1 P2
  have HE := Lib.hid he
  have HR := Lib.hid hR
  obtain ⟨N, hN⟩ : ∃ N, fs.length = N := ⟨_, rfl⟩
  rw [hN] at hn L1 S1 S2 K1 ⊢
  have t1 : decide (40 < (N : Int)) = false := decide_eq_false (by omega)
  have t1' : decide (40 < N) = false := decide_eq_false (by omega)
  clear hN hq hm hf hfs he hR
  go_enter Tryz.func8, Tryz.ntmps8
  go_wp2_with fail
  refine L1.out.mono ?_
  rintro e w1 ⟨g, rfl, hg, _, hb⟩
  have H1 : Hid (SU w w1 g b off fs []) := Lib.hid ⟨(InvL.start HE.out).keep hb, hg, HR.out.keep hb⟩
  clear hb hg L1 HR
  go_wp2_with fail
  refine (S1.out _ _ H1.out.own.pre).mono ?_
  rintro e w2 ⟨rfl, hb⟩
  have H2 := Lib.hid ((H1.out.keep hb).push 23 #[.int .i64 qa, .int .i64 qb])
  clear hb H1 S1
  go_upto_region 5 with fail
  generalize w2.alloc (.cells #[.int .i64 qa, .int .i64 qb] 23) = W2 at *
  generalize w2.heap.size = p1 at *
  go_wp2_with fail
  refine (S2.out _ H2.out.arg).mono ?_
  rintro e w3 ⟨rfl, hb⟩
  have H3 := Lib.hid ((H2.out.keep hb).push 23 #[.int .i64 qa, .int .i64 qb])
  clear hb H2 S2
  go_upto_region 6 with fail
  generalize w3.alloc (.cells #[.int .i64 qa, .int .i64 qb] 23) = W3 at *
  generalize w3.heap.size = p2 at *
  go_wp2_with fail
  refine (P1.out _).mono ?_
  rintro e w4 ⟨rfl, hb⟩
  have H4 := Lib.hid ((H3.out.keep hb).push 23 #[.int .i64 ma, .int .i64 mb])
  clear hb H3 P1
  go_upto_region 7 with fail
  generalize w4.alloc (.cells #[.int .i64 ma, .int .i64 mb] 23) = W4 at *
  generalize w4.heap.size = p3 at *
  go_wp2_with fail
  refine (P2.out _).mono ?_
  rintro e w5 ⟨rfl, hb⟩
  have H5 := Lib.hid ((H4.out.keep hb).push 23 #[.int .i64 ma, .int .i64 mb])
  clear hb H4 P2
  go_upto_region 8 with fail
  generalize w5.alloc (.cells #[.int .i64 ma, .int .i64 mb] 23) = W5 at *
  generalize w5.heap.size = p4 at *
  have a0 := H5.out.inv.cell (i := 3) rfl (j := 0) (v := .int .i64 qa) rfl
  have a1 := H5.out.inv.cell (i := 3) rfl (j := 1) (v := .int .i64 qb) rfl
  have b0 := H5.out.inv.cell (i := 2) rfl (j := 0) (v := .int .i64 qa) rfl
  have b1 := H5.out.inv.cell (i := 2) rfl (j := 1) (v := .int .i64 qb) rfl
  have c0 := H5.out.inv.cell (i := 1) rfl (j := 0) (v := .int .i64 ma) rfl
  have c1 := H5.out.inv.cell (i := 1) rfl (j := 1) (v := .int .i64 mb) rfl
  have d0 := H5.out.inv.cell (i := 0) rfl (j := 0) (v := .int .i64 ma) rfl
  have d1 := H5.out.inv.cell (i := 0) rfl (j := 1) (v := .int .i64 mb) rfl
  go_wp2_with fail
  refine (K1.out _ _ H5.out.arg H5.out.own).mono ?_
  rintro e w6 ⟨rfl, hb⟩
  have HB := Lib.hid (bchain H5.out.inv.below hb)
  clear hb a0 a1 b0 b1 c0 c1 d0 d1 H5 K1
  go_wp2
  go_ret
  exact ⟨rfl, HB.out⟩
end Go.Proofs.YtfhkgpipbegpgaaGreatDoor
