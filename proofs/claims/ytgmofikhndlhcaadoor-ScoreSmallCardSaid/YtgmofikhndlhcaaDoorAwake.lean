/- The examples of the chapter: awake returns true. -/
import Derived.Test.YtgmofikhndlhcaaDoorParse
import Derived.Test.YtgmofikhndlhcaaDoorBlk
namespace Go.Proofs.YtgmofikhndlhcaaDoor
open Go.RowKit

structure Inv (w0 w : World) : Prop where
  env : Env w
  below : Below w0.heap.size w0 w
theorem inv_of {f : FuncId} {args : Array Value} {v : Value} (h : ∀ w, Env w → Calls Tryd.prog f args w (fun e w' => e = .returned v ∧ Below w.heap.size w w')) {w0 w : World} (hi : Inv w0 w) :
    Calls Tryd.prog f args w (fun e w' => e = .returned v ∧ Inv w0 w') :=
  (h w hi.env).mono fun _ _ ⟨he, hb⟩ => ⟨he, hi.env.keep hb, bchain hi.below hb⟩
set_option maxRecDepth 100000 in
set_option maxHeartbeats 2000000 in
theorem lpoints_any (s : ByteArray) (v : Bool) (want : Int) (l d r c k : Nat) (w : World) (hE : Env w) (hs : s.size < 4611686018427387904) (hl : l < 256) (hp : parseP s = (((l, d, r, c), k), 0)) (hq : ptsP l d r c k v = (want, 0)) :
    Calls Tryd.prog 32 #[.string s, .bool v, .int .i64 want] w fun e w' => e = .returned (.bool true) ∧ Below w.heap.size w w' := by
  have HE := Lib.hid hE
  have PC : Hid (∀ w, Env w → Calls Tryd.prog 21 #[.string s] w fun e w' => e = .returned (.tuple #[.agg #[.int .u8 (l : Nat), .int .u8 (d : Nat), .int .u8 (r : Nat), .int .u8 (c : Nat)], .int .i64 (k : Nat), .int .i64 0]) ∧ Below w.heap.size w w') := Lib.hid fun w hw => (parse_any s w hw hs).mono fun e w' ⟨he, hb⟩ => ⟨by rw [he, hp], hb⟩
  have QC : Hid (∀ w, Env w → Calls Tryd.prog 18 #[.agg #[.int .u8 (l : Nat), .int .u8 (d : Nat), .int .u8 (r : Nat), .int .u8 (c : Nat)], .int .i64 (k : Nat), .bool v] w fun e w' => e = .returned (.tuple #[.int .i64 want, .int .i64 0]) ∧ Below w.heap.size w w') := Lib.hid fun w hw => (points_any l d r c k v w hw.tabs hl).mono fun e w' ⟨he, hb⟩ => ⟨by rw [he, hq], hb⟩
  clear hp hq hE
  go_enter Tryd.func32, Tryd.ntmps32
  go_wp2_with fail
  refine (PC.out _ HE.out).mono ?_
  rintro e w1 ⟨rfl, hb⟩
  have E1 := Lib.hid (HE.out.keep (hb.trans ((Below.refl _ _).alloc hb.size (.cells #[.int .u8 (l : Nat), .int .u8 (d : Nat), .int .u8 (r : Nat), .int .u8 (c : Nat)] 23))))
  have hB : Below w.heap.size w (w1.alloc (.cells #[.int .u8 (l : Nat), .int .u8 (d : Nat), .int .u8 (r : Nat), .int .u8 (c : Nat)] 23)) := hb.alloc hb.size _
  clear hb
  go_wp2_with fail
  refine (QC.out _ E1.out).mono ?_
  rintro e w2 ⟨rfl, hb⟩
  have hB2 := bchain hB hb
  clear hb hB
  go_wp2_with fail
  go_ret
  exact ⟨rfl, hB2⟩
theorem pp_0 : parseP ⟨#[52, 83, 32, 78, 32, 61]⟩ = (((4, 3, 0, 0), 10), 0) := by decide +kernel
theorem pq_0 : ptsP 4 3 0 0 (10 : Nat) false = (420, 0) := by decide +kernel
theorem pt_0 {w0 w : World} (hi : Inv w0 w) : Calls Tryd.prog 32 #[.string ⟨#[52, 83, 32, 78, 32, 61]⟩, .bool false, .int .i64 420] w fun e w' => e = .returned (.bool true) ∧ Inv w0 w' :=
  inv_of (fun w hw => lpoints_any _ _ _ _ _ _ _ _ w hw (by decide) (by decide) pp_0 pq_0) hi
theorem pp_1 : parseP ⟨#[52, 83, 32, 78, 32, 43, 49]⟩ = (((4, 3, 0, 0), 11), 0) := by decide +kernel
theorem pq_1 : ptsP 4 3 0 0 (11 : Nat) false = (450, 0) := by decide +kernel
theorem pt_1 {w0 w : World} (hi : Inv w0 w) : Calls Tryd.prog 32 #[.string ⟨#[52, 83, 32, 78, 32, 43, 49]⟩, .bool false, .int .i64 450] w fun e w' => e = .returned (.bool true) ∧ Inv w0 w' :=
  inv_of (fun w hw => lpoints_any _ _ _ _ _ _ _ _ w hw (by decide) (by decide) pp_1 pq_1) hi
theorem pp_2 : parseP ⟨#[52, 83, 32, 78, 32, 45, 50]⟩ = (((4, 3, 0, 0), 8), 0) := by decide +kernel
theorem pq_2 : ptsP 4 3 0 0 (8 : Nat) false = (-100, 0) := by decide +kernel
theorem pt_2 {w0 w : World} (hi : Inv w0 w) : Calls Tryd.prog 32 #[.string ⟨#[52, 83, 32, 78, 32, 45, 50]⟩, .bool false, .int .i64 (-100)] w fun e w' => e = .returned (.bool true) ∧ Inv w0 w' :=
  inv_of (fun w hw => lpoints_any _ _ _ _ _ _ _ _ w hw (by decide) (by decide) pp_2 pq_2) hi
theorem pp_3 : parseP ⟨#[50, 72, 88, 32, 83, 32, 61]⟩ = (((2, 2, 1, 2), 8), 0) := by decide +kernel
theorem pq_3 : ptsP 2 2 1 2 (8 : Nat) false = (470, 0) := by decide +kernel
theorem pt_3 {w0 w : World} (hi : Inv w0 w) : Calls Tryd.prog 32 #[.string ⟨#[50, 72, 88, 32, 83, 32, 61]⟩, .bool false, .int .i64 470] w fun e w' => e = .returned (.bool true) ∧ Inv w0 w' :=
  inv_of (fun w hw => lpoints_any _ _ _ _ _ _ _ _ w hw (by decide) (by decide) pp_3 pq_3) hi
theorem pp_4 : parseP ⟨#[50, 72, 88, 32, 83, 32, 45, 49]⟩ = (((2, 2, 1, 2), 7), 0) := by decide +kernel
theorem pq_4 : ptsP 2 2 1 2 (7 : Nat) false = (-100, 0) := by decide +kernel
theorem pt_4 {w0 w : World} (hi : Inv w0 w) : Calls Tryd.prog 32 #[.string ⟨#[50, 72, 88, 32, 83, 32, 45, 49]⟩, .bool false, .int .i64 (-100)] w fun e w' => e = .returned (.bool true) ∧ Inv w0 w' :=
  inv_of (fun w hw => lpoints_any _ _ _ _ _ _ _ _ w hw (by decide) (by decide) pp_4 pq_4) hi
theorem pp_5 : parseP ⟨#[55, 78, 88, 88, 32, 87, 32, 61]⟩ = (((7, 4, 2, 3), 13), 0) := by decide +kernel
theorem pq_5 : ptsP 7 4 2 3 (13 : Nat) true = (2980, 0) := by decide +kernel
theorem pt_5 {w0 w : World} (hi : Inv w0 w) : Calls Tryd.prog 32 #[.string ⟨#[55, 78, 88, 88, 32, 87, 32, 61]⟩, .bool true, .int .i64 2980] w fun e w' => e = .returned (.bool true) ∧ Inv w0 w' :=
  inv_of (fun w hw => lpoints_any _ _ _ _ _ _ _ _ w hw (by decide) (by decide) pp_5 pq_5) hi
theorem pp_6 : parseP ⟨#[49, 78, 88, 88, 32, 87, 32, 43, 54]⟩ = (((1, 4, 2, 3), 13), 0) := by decide +kernel
theorem pq_6 : ptsP 1 4 2 3 (13 : Nat) true = (3160, 0) := by decide +kernel
theorem pt_6 {w0 w : World} (hi : Inv w0 w) : Calls Tryd.prog 32 #[.string ⟨#[49, 78, 88, 88, 32, 87, 32, 43, 54]⟩, .bool true, .int .i64 3160] w fun e w' => e = .returned (.bool true) ∧ Inv w0 w' :=
  inv_of (fun w hw => lpoints_any _ _ _ _ _ _ _ _ w hw (by decide) (by decide) pp_6 pq_6) hi
theorem pp_7 : parseP ⟨#[55, 78, 88, 88, 32, 87, 32, 45, 49, 51]⟩ = (((7, 4, 2, 3), 0), 0) := by decide +kernel
theorem pq_7 : ptsP 7 4 2 3 (0 : Nat) true = (-7600, 0) := by decide +kernel
theorem pt_7 {w0 w : World} (hi : Inv w0 w) : Calls Tryd.prog 32 #[.string ⟨#[55, 78, 88, 88, 32, 87, 32, 45, 49, 51]⟩, .bool true, .int .i64 (-7600)] w fun e w' => e = .returned (.bool true) ∧ Inv w0 w' :=
  inv_of (fun w hw => lpoints_any _ _ _ _ _ _ _ _ w hw (by decide) (by decide) pp_7 pq_7) hi
theorem pp_8 : parseP ⟨#[112, 97, 115, 115]⟩ = (((0, 0, 0, 0), 0), 0) := by decide +kernel
theorem pq_8 : ptsP 0 0 0 0 (0 : Nat) true = (0, 0) := by decide +kernel
theorem pt_8 {w0 w : World} (hi : Inv w0 w) : Calls Tryd.prog 32 #[.string ⟨#[112, 97, 115, 115]⟩, .bool true, .int .i64 0] w fun e w' => e = .returned (.bool true) ∧ Inv w0 w' :=
  inv_of (fun w hw => lpoints_any _ _ _ _ _ _ _ _ w hw (by decide) (by decide) pp_8 pq_8) hi
theorem sc_1 : scoreP 3 4 0 1 (9 : Nat) 3 = (-600, 0) := by decide +kernel
theorem sc_i {w0 w : World} (hi : Inv w0 w) : Calls Tryd.prog 17 #[.agg #[.int .u8 3, .int .u8 4, .int .u8 0, .int .u8 1], .int .i64 9, .int .u8 3] w fun e w' => e = .returned (.tuple #[.int .i64 (-600), .int .i64 0]) ∧ Inv w0 w' :=
  inv_of (fun w hw => (score_any 3 4 0 1 (9 : Nat) 3 w hw.tabs (by decide)).mono fun e w' ⟨he, hb⟩ => ⟨by rw [he, sc_1], hb⟩) hi
theorem rp_0 : readP (#[52, 83, 88, 88, 88, 32, 78] : Array UInt8).toList = badR := by decide +kernel
theorem rd_0 (w : World) (_hw : Env w) : Calls Tryd.prog 23 #[.string ⟨#[52, 83, 88, 88, 88, 32, 78]⟩] w fun e w' => e = .returned (.tuple #[.agg #[.int .u8 0, .int .u8 0, .int .u8 0, .int .u8 0], .int .i64 170]) ∧ Below w.heap.size w w' :=
  (read_any ⟨#[52, 83, 88, 88, 88, 32, 78]⟩ w (by decide)).mono fun e w' ⟨he, hb⟩ => ⟨by rw [he, show (⟨#[52, 83, 88, 88, 88, 32, 78]⟩ : ByteArray).data.toList = (#[52, 83, 88, 88, 88, 32, 78] : Array UInt8).toList from rfl, rp_0]; rfl, hb⟩
theorem rp_1 : readP (#[56, 67, 32, 78] : Array UInt8).toList = badR := by decide +kernel
theorem rd_1 (w : World) (_hw : Env w) : Calls Tryd.prog 23 #[.string ⟨#[56, 67, 32, 78]⟩] w fun e w' => e = .returned (.tuple #[.agg #[.int .u8 0, .int .u8 0, .int .u8 0, .int .u8 0], .int .i64 170]) ∧ Below w.heap.size w w' :=
  (read_any ⟨#[56, 67, 32, 78]⟩ w (by decide)).mono fun e w' ⟨he, hb⟩ => ⟨by rw [he, show (⟨#[56, 67, 32, 78]⟩ : ByteArray).data.toList = (#[56, 67, 32, 78] : Array UInt8).toList from rfl, rp_1]; rfl, hb⟩
theorem qp_0 : parseP ⟨#[52, 83, 32, 78, 32, 45, 48]⟩ = badP := by decide +kernel
theorem qd_0 (w : World) (hw : Env w) : Calls Tryd.prog 21 #[.string ⟨#[52, 83, 32, 78, 32, 45, 48]⟩] w fun e w' => e = .returned (.tuple #[.agg #[.int .u8 0, .int .u8 0, .int .u8 0, .int .u8 0], .int .i64 0, .int .i64 170]) ∧ Below w.heap.size w w' :=
  (parse_any ⟨#[52, 83, 32, 78, 32, 45, 48]⟩ w hw (by decide)).mono fun e w' ⟨he, hb⟩ => ⟨by rw [he, qp_0]; rfl, hb⟩
theorem qp_1 : parseP ⟨#[52, 83, 32, 78, 32, 43, 52]⟩ = badP := by decide +kernel
theorem qd_1 (w : World) (hw : Env w) : Calls Tryd.prog 21 #[.string ⟨#[52, 83, 32, 78, 32, 43, 52]⟩] w fun e w' => e = .returned (.tuple #[.agg #[.int .u8 0, .int .u8 0, .int .u8 0, .int .u8 0], .int .i64 0, .int .i64 170]) ∧ Below w.heap.size w w' :=
  (parse_any ⟨#[52, 83, 32, 78, 32, 43, 52]⟩ w hw (by decide)).mono fun e w' ⟨he, hb⟩ => ⟨by rw [he, qp_1]; rfl, hb⟩
/-- .. and block b has the cells c. -/
structure InvB (w0 w : World) (b : Nat) (t : TypeId) (c : Array Value) : Prop where
  inv : Inv w0 w
  blk : Blk w b t c
theorem invb_of {f : FuncId} {args : Array Value} {v : Value} (h : ∀ w, Env w → Calls Tryd.prog f args w (fun e w' => e = .returned v ∧ Below w.heap.size w w')) {w0 w : World} {b : Nat} {t : TypeId} {c : Array Value} (hi : InvB w0 w b t c) :
    Calls Tryd.prog f args w (fun e w' => e = .returned v ∧ InvB w0 w' b t c) :=
  (h w hi.inv.env).mono fun _ _ ⟨he, hb⟩ => ⟨he, ⟨hi.inv.env.keep hb, bchain hi.inv.below hb⟩, hi.blk.keep hb hi.blk.lt⟩
theorem Inv.alloc {w0 w : World} (h : Inv w0 w) (o : Obj) : Inv w0 (w.alloc o) := ⟨h.env.keep ((Below.refl _ _).alloc (Nat.le_refl _) _), h.below.alloc h.below.size _⟩
theorem InvB.alloc {w0 w : World} {b : Nat} {t : TypeId} {c : Array Value} (h : InvB w0 w b t c) (o : Obj) : InvB w0 (w.alloc o) b t c := ⟨h.inv.alloc o, h.blk.alloc o⟩
set_option maxRecDepth 100000 in
set_option maxHeartbeats 4000000 in
theorem awake_i {w0 w : World} (hi : Inv w0 w) : Calls Tryd.prog 12 #[] w (fun e w' => e = .returned (.bool true) ∧ Inv w0 w') := by
  go_enter Tryd.func12, Tryd.ntmps12
  go_wp2_with fail
  refine (pt_0 hi).mono ?_
  rintro e w1 ⟨rfl, h1⟩
  clear hi
  go_wp2_with fail
  refine (pt_1 h1).mono ?_
  rintro e w2 ⟨rfl, h2⟩
  clear h1
  go_wp2_with fail
  refine (pt_2 h2).mono ?_
  rintro e w3 ⟨rfl, h3⟩
  clear h2
  go_wp2_with fail
  refine (pt_3 h3).mono ?_
  rintro e w4 ⟨rfl, h4⟩
  clear h3
  go_wp2_with fail
  refine (pt_4 h4).mono ?_
  rintro e w5 ⟨rfl, h5⟩
  clear h4
  go_wp2_with fail
  refine (pt_5 h5).mono ?_
  rintro e w6 ⟨rfl, h6⟩
  clear h5
  go_wp2_with fail
  refine (pt_6 h6).mono ?_
  rintro e w7 ⟨rfl, h7⟩
  clear h6
  go_wp2_with fail
  refine (pt_7 h7).mono ?_
  rintro e w8 ⟨rfl, h8⟩
  clear h7
  go_wp2_with fail
  refine (pt_8 h8).mono ?_
  rintro e w9 ⟨rfl, h9⟩
  clear h8
  go_wp2_with fail
  refine (sc_i h9).mono ?_
  rintro e w10 ⟨rfl, h10⟩
  clear h9
  go_wp2_with fail
  have hb0 : InvB w0 (w10.alloc (.cells #[.string ⟨#[52, 83, 88, 88, 88, 32, 78]⟩, .string ⟨#[56, 67, 32, 78]⟩] 9)) w10.heap.size 9 #[.string ⟨#[52, 83, 88, 88, 88, 32, 78]⟩, .string ⟨#[56, 67, 32, 78]⟩] := ⟨h10.alloc _, Blk.new _ _ _⟩
  generalize w10.alloc (.cells #[.string ⟨#[52, 83, 88, 88, 88, 32, 78]⟩, .string ⟨#[56, 67, 32, 78]⟩] 9) = V0 at *
  generalize w10.heap.size = B0 at *
  go_loopw [59] (fun v wr => ∃ k : Nat, k ≤ 2 ∧ v = .int .i64 k ∧ InvB w0 wr B0 9 #[.string ⟨#[52, 83, 88, 88, 88, 32, 78]⟩, .string ⟨#[56, 67, 32, 78]⟩]) (fun v _ => 2 - (intOf v).toNat)
  case atStart => exact ⟨0, by omega, rfl, hb0⟩
  case round =>
    obtain ⟨k, hk, rfl, hi⟩ := hrel
    clear hb0
    rcases (by omega : k = 0 ∨ k = 1 ∨ k = 2) with rfl | rfl | rfl
    · have c0 := hi.blk.cell (j := 0) (v := .string ⟨#[52, 83, 88, 88, 88, 32, 78]⟩) rfl
      go_wp2_with fail
      refine (invb_of rd_0 hi).mono ?_
      rintro e wz ⟨rfl, hz⟩
      clear c0 hi
      go_wp2_with fail
      first
        | exact ⟨⟨1, by omega, rfl, hz.alloc _⟩, by simp [intOf]⟩
        | (refine ⟨?_, by simp [intOf]⟩; (repeat apply Exists.intro); exact ⟨⟨1, by omega, rfl, hz.alloc _⟩, rfl⟩)
    · have c0 := hi.blk.cell (j := 1) (v := .string ⟨#[56, 67, 32, 78]⟩) rfl
      go_wp2_with fail
      refine (invb_of rd_1 hi).mono ?_
      rintro e wz ⟨rfl, hz⟩
      clear c0 hi
      go_wp2_with fail
      first
        | exact ⟨⟨2, by omega, rfl, hz.alloc _⟩, by simp [intOf]⟩
        | (refine ⟨?_, by simp [intOf]⟩; (repeat apply Exists.intro); exact ⟨⟨2, by omega, rfl, hz.alloc _⟩, rfl⟩)
    · go_wp2_with fail
      have hb1 : InvB w0 (wr.alloc (.cells #[.string ⟨#[52, 83, 32, 78, 32, 45, 48]⟩, .string ⟨#[52, 83, 32, 78, 32, 43, 52]⟩] 9)) wr.heap.size 9 #[.string ⟨#[52, 83, 32, 78, 32, 45, 48]⟩, .string ⟨#[52, 83, 32, 78, 32, 43, 52]⟩] := ⟨hi.inv.alloc _, Blk.new _ _ _⟩
      generalize wr.alloc (.cells #[.string ⟨#[52, 83, 32, 78, 32, 45, 48]⟩, .string ⟨#[52, 83, 32, 78, 32, 43, 52]⟩] 9) = V1 at *
      generalize wr.heap.size = B1 at *
      go_loopw [73] (fun v wr => ∃ k : Nat, k ≤ 2 ∧ v = .int .i64 k ∧ InvB w0 wr B1 9 #[.string ⟨#[52, 83, 32, 78, 32, 45, 48]⟩, .string ⟨#[52, 83, 32, 78, 32, 43, 52]⟩]) (fun v _ => 2 - (intOf v).toNat)
      case atStart => exact ⟨0, by omega, rfl, hb1⟩
      case round =>
        obtain ⟨k, hk, rfl, hi⟩ := hrel
        clear hb1
        rcases (by omega : k = 0 ∨ k = 1 ∨ k = 2) with rfl | rfl | rfl
        · have c0 := hi.blk.cell (j := 0) (v := .string ⟨#[52, 83, 32, 78, 32, 45, 48]⟩) rfl
          go_wp2_with fail
          refine (invb_of qd_0 hi).mono ?_
          rintro e wz ⟨rfl, hz⟩
          clear c0 hi
          go_wp2_with fail
          first
            | exact ⟨⟨1, by omega, rfl, hz.alloc _⟩, by simp [intOf]⟩
            | (refine ⟨?_, by simp [intOf]⟩; (repeat apply Exists.intro); exact ⟨⟨1, by omega, rfl, hz.alloc _⟩, rfl⟩)
        · have c0 := hi.blk.cell (j := 1) (v := .string ⟨#[52, 83, 32, 78, 32, 43, 52]⟩) rfl
          go_wp2_with fail
          refine (invb_of qd_1 hi).mono ?_
          rintro e wz ⟨rfl, hz⟩
          clear c0 hi
          go_wp2_with fail
          first
            | exact ⟨⟨2, by omega, rfl, hz.alloc _⟩, by simp [intOf]⟩
            | (refine ⟨?_, by simp [intOf]⟩; (repeat apply Exists.intro); exact ⟨⟨2, by omega, rfl, hz.alloc _⟩, rfl⟩)
        · go_wp2_with fail
          go_ret
          exact ⟨rfl, hi.inv⟩
end Go.Proofs.YtgmofikhndlhcaaDoor
