/- The walk of ScoreBack. -/
import Derived.Test.YtgmofikhndlhcaaDoorAwake
import Derived.Test.YtgmofikhndlhcaaDoorBackP
import Derived.Deep.DeepCutAuto
namespace Go.Proofs.YtgmofikhndlhcaaDoor
open Go.RowKit

/-- Blocks known whole, beside the invariant. -/
structure InvL (w0 w : World) (L : List (Nat × TypeId × Array Value)) : Prop where
  inv : Inv w0 w
  blks : ∀ x ∈ L, Blk w x.1 x.2.1 x.2.2
theorem InvL.keep {w0 w w' : World} {L : List (Nat × TypeId × Array Value)} (h : InvL w0 w L) (hb : Below w.heap.size w w') : InvL w0 w' L :=
  ⟨⟨h.inv.env.keep hb, bchain h.inv.below hb⟩, fun x hx => (h.blks x hx).keep hb (h.blks x hx).lt⟩
theorem InvL.push {w0 w : World} {L : List (Nat × TypeId × Array Value)} (h : InvL w0 w L) (t : TypeId) (c : Array Value) : InvL w0 (w.alloc (.cells c t)) ((w.heap.size, t, c) :: L) :=
  ⟨h.inv.alloc _, fun x hx => by
    rcases List.mem_cons.1 hx with rfl | hx
    · exact Blk.new _ _ _
    · exact (h.blks x hx).alloc _⟩
theorem InvL.get {w0 w : World} {L : List (Nat × TypeId × Array Value)} (h : InvL w0 w L) {b : Nat} {t : TypeId} {c : Array Value} (i : Nat) (hi : L[i]? = some (b, t, c)) : Blk w b t c :=
  h.blks (b, t, c) (List.mem_of_getElem? hi)
theorem InvL.sub {w0 w : World} {L L' : List (Nat × TypeId × Array Value)} (h : InvL w0 w L) (hs : ∀ x ∈ L', x ∈ L) : InvL w0 w L' := ⟨h.inv, fun x hx => h.blks x (hs x hx)⟩
theorem invl_of {f : FuncId} {args : Array Value} {v : Value} (h : ∀ w, Env w → Calls Tryd.prog f args w (fun e w' => e = .returned v ∧ Below w.heap.size w w')) {w0 w : World} {L : List (Nat × TypeId × Array Value)} (hi : InvL w0 w L) :
    Calls Tryd.prog f args w (fun e w' => e = .returned v ∧ InvL w0 w' L) :=
  (h w hi.inv.env).mono fun _ _ ⟨he, hb⟩ => ⟨he, hi.keep hb⟩
set_option maxRecDepth 100000 in
set_option maxHeartbeats 8000000 in
theorem back_walk (m n : Nat) (s : ByteArray) (l d r q k l' d' r' q' k' l2 d2 r2 q2 l3 d3 r3 q3 k3 : Nat) (e2 e3 : Int) (TB UB VB : ByteArray) (w : World) (hE : Env w)
    (MC : Hid (∀ w, Calls Tryd.prog 14 #[.int .u32 m] w fun e w' => e = .returned (.tuple #[.agg #[.int .u8 (l : Nat), .int .u8 (d : Nat), .int .u8 (r : Nat), .int .u8 (q : Nat)], .int .i64 (k : Nat)]) ∧ Below w.heap.size w w')) (MD : Hid (∀ w, Calls Tryd.prog 14 #[.int .u32 n] w fun e w' => e = .returned (.tuple #[.agg #[.int .u8 (l' : Nat), .int .u8 (d' : Nat), .int .u8 (r' : Nat), .int .u8 (q' : Nat)], .int .i64 (k' : Nat)]) ∧ Below w.heap.size w w'))
    (WC : Hid (∀ w, Env w → Calls Tryd.prog 20 #[.agg #[.int .u8 (l : Nat), .int .u8 (d : Nat), .int .u8 (r : Nat), .int .u8 (q : Nat)], .int .i64 (k : Nat)] w fun e w' => e = .returned (.tuple #[.string TB, .int .i64 0]) ∧ Below w.heap.size w w')) (WD : Hid (∀ w, Env w → Calls Tryd.prog 20 #[.agg #[.int .u8 (l' : Nat), .int .u8 (d' : Nat), .int .u8 (r' : Nat), .int .u8 (q' : Nat)], .int .i64 (k' : Nat)] w fun e w' => e = .returned (.tuple #[.string UB, .int .i64 0]) ∧ Below w.heap.size w w'))
    (PC : Hid (∀ w, Env w → Calls Tryd.prog 21 #[.string TB] w fun e w' => e = .returned (.tuple #[.agg #[.int .u8 (l : Nat), .int .u8 (d : Nat), .int .u8 (r : Nat), .int .u8 (q : Nat)], .int .i64 (k : Nat), .int .i64 0]) ∧ Below w.heap.size w w')) (TC : Hid (∀ w, Env w → Calls Tryd.prog 22 #[.agg #[.int .u8 (l : Nat), .int .u8 (d : Nat), .int .u8 (r : Nat), .int .u8 (q : Nat)]] w fun e w' => e = .returned (.tuple #[.string VB, .int .i64 0]) ∧ Below w.heap.size w w')) (RC : Hid (∀ w, Env w → Calls Tryd.prog 23 #[.string VB] w fun e w' => e = .returned (.tuple #[.agg #[.int .u8 (l : Nat), .int .u8 (d : Nat), .int .u8 (r : Nat), .int .u8 (q : Nat)], .int .i64 0]) ∧ Below w.heap.size w w'))
    (hsm : TB.size ≤ 100) (hpre : VB.size ≤ TB.size) (hex : TB.extract 0 VB.size = VB) (hdiff : (l = l' ∧ d = d' ∧ r = r' ∧ q = q') ∧ k = k' → TB = UB) (hsame : TB = UB → (l = l' ∧ d = d' ∧ r = r' ∧ q = q') ∧ k = k')
    (R2 : Hid (∀ w, Env w → Calls Tryd.prog 23 #[.string s] w fun e w' => e = .returned (.tuple #[.agg #[.int .u8 (l2 : Nat), .int .u8 (d2 : Nat), .int .u8 (r2 : Nat), .int .u8 (q2 : Nat)], .int .i64 e2]) ∧ Below w.heap.size w w')) (T2 : Hid (e2 = 0 → ∀ w, Env w → Calls Tryd.prog 22 #[.agg #[.int .u8 (l2 : Nat), .int .u8 (d2 : Nat), .int .u8 (r2 : Nat), .int .u8 (q2 : Nat)]] w fun e w' => e = .returned (.tuple #[.string s, .int .i64 0]) ∧ Below w.heap.size w w'))
    (P3 : Hid (∀ w, Env w → Calls Tryd.prog 21 #[.string s] w fun e w' => e = .returned (.tuple #[.agg #[.int .u8 (l3 : Nat), .int .u8 (d3 : Nat), .int .u8 (r3 : Nat), .int .u8 (q3 : Nat)], .int .i64 (k3 : Nat), .int .i64 e3]) ∧ Below w.heap.size w w')) (W3 : Hid (e3 = 0 → ∀ w, Env w → Calls Tryd.prog 20 #[.agg #[.int .u8 (l3 : Nat), .int .u8 (d3 : Nat), .int .u8 (r3 : Nat), .int .u8 (q3 : Nat)], .int .i64 (k3 : Nat)] w fun e w' => e = .returned (.tuple #[.string s, .int .i64 0]) ∧ Below w.heap.size w w')) :
    Calls Tryd.prog 9 #[.int .u32 m, .int .u32 n, .string s] w fun e w' => e = .returned (.bool true) ∧ Below w.heap.size w w' := by
  have HE := Lib.hid hE
  have HX := Lib.hid hex
  have HS := Lib.hid hsame
  have HD := Lib.hid hdiff
  have hts : decide (TB.size < VB.size) = false := decide_eq_false (by omega)
  clear hE hex hsame hdiff
  go_enter Tryd.func9, Tryd.ntmps9
  go_wp2_with fail
  refine (MC.out _).mono ?_
  rintro e w1 ⟨rfl, hb⟩
  have h1 : InvL w (w1.alloc (.cells #[.int .u8 (l : Nat), .int .u8 (d : Nat), .int .u8 (r : Nat), .int .u8 (q : Nat)] 23)) [(w1.heap.size, 23, #[.int .u8 (l : Nat), .int .u8 (d : Nat), .int .u8 (r : Nat), .int .u8 (q : Nat)])] := InvL.push (L := []) ⟨⟨HE.out.keep hb, hb⟩, fun _ hx => absurd hx (by simp)⟩ _ _
  clear hb
  go_upto_region 2 with fail
  generalize w1.alloc (.cells #[.int .u8 (l : Nat), .int .u8 (d : Nat), .int .u8 (r : Nat), .int .u8 (q : Nat)] 23) = W1 at *
  generalize w1.heap.size = b7 at *
  have H1 := Lib.hid h1
  clear h1
  go_wp2_with fail
  refine (MD.out _).mono ?_
  rintro e w2 ⟨rfl, hb⟩
  have h2 := (H1.out.keep hb).push 23 #[.int .u8 (l' : Nat), .int .u8 (d' : Nat), .int .u8 (r' : Nat), .int .u8 (q' : Nat)]
  clear hb H1
  go_upto_region 3 with fail
  generalize w2.alloc (.cells #[.int .u8 (l' : Nat), .int .u8 (d' : Nat), .int .u8 (r' : Nat), .int .u8 (q' : Nat)] 23) = W2 at *
  generalize w2.heap.size = b9 at *
  have H2 := Lib.hid h2
  clear h2
  have x0 := (H2.out.get 1 rfl).cell (j := 0) (v := .int .u8 (l : Nat)) rfl
  have x1 := (H2.out.get 1 rfl).cell (j := 1) (v := .int .u8 (d : Nat)) rfl
  have x2 := (H2.out.get 1 rfl).cell (j := 2) (v := .int .u8 (r : Nat)) rfl
  have x3 := (H2.out.get 1 rfl).cell (j := 3) (v := .int .u8 (q : Nat)) rfl
  go_wp2_with fail
  refine (invl_of WC.out H2.out).mono ?_
  rintro e w3 ⟨rfl, h3⟩
  clear x0 x1 x2 x3 H2
  have H3 := Lib.hid h3
  clear h3
  have y0 := (H3.out.get 0 rfl).cell (j := 0) (v := .int .u8 (l' : Nat)) rfl
  have y1 := (H3.out.get 0 rfl).cell (j := 1) (v := .int .u8 (d' : Nat)) rfl
  have y2 := (H3.out.get 0 rfl).cell (j := 2) (v := .int .u8 (r' : Nat)) rfl
  have y3 := (H3.out.get 0 rfl).cell (j := 3) (v := .int .u8 (q' : Nat)) rfl
  go_wp2_with fail
  refine (invl_of WD.out H3.out).mono ?_
  rintro e w4 ⟨rfl, h4⟩
  clear y0 y1 y2 y3 H3
  have H4 := Lib.hid h4
  clear h4
  go_wp2_with fail
  refine (invl_of PC.out H4.out).mono ?_
  rintro e w5 ⟨rfl, h5⟩
  clear H4
  have h5 := h5.push 23 #[.int .u8 (l : Nat), .int .u8 (d : Nat), .int .u8 (r : Nat), .int .u8 (q : Nat)]
  go_upto_region 6 with fail
  generalize w5.alloc (.cells #[.int .u8 (l : Nat), .int .u8 (d : Nat), .int .u8 (r : Nat), .int .u8 (q : Nat)] 23) = W5 at *
  generalize w5.heap.size = b15 at *
  have H5 := Lib.hid h5
  clear h5
  have x0 := (H5.out.get 2 rfl).cell (j := 0) (v := .int .u8 (l : Nat)) rfl
  have x1 := (H5.out.get 2 rfl).cell (j := 1) (v := .int .u8 (d : Nat)) rfl
  have x2 := (H5.out.get 2 rfl).cell (j := 2) (v := .int .u8 (r : Nat)) rfl
  have x3 := (H5.out.get 2 rfl).cell (j := 3) (v := .int .u8 (q : Nat)) rfl
  go_wp2_with fail
  refine (invl_of TC.out H5.out).mono ?_
  rintro e w6 ⟨rfl, h6⟩
  clear x0 x1 x2 x3 H5
  have H6 := Lib.hid h6
  clear h6
  go_wp2_with fail
  refine (invl_of RC.out H6.out).mono ?_
  rintro e w7 ⟨rfl, h7⟩
  clear H6
  have h7 := h7.push 23 #[.int .u8 (l : Nat), .int .u8 (d : Nat), .int .u8 (r : Nat), .int .u8 (q : Nat)]
  go_upto_region 8 with fail
  generalize w7.alloc (.cells #[.int .u8 (l : Nat), .int .u8 (d : Nat), .int .u8 (r : Nat), .int .u8 (q : Nat)] 23) = W7 at *
  generalize w7.heap.size = b20 at *
  have H7 := Lib.hid h7
  clear h7
  go_cut [130] (fun s130 wx => s130 = .bool false ∧ InvL w wx [])
  case first =>
    have x0 := (H7.out.get 3 rfl).cell (j := 0) (v := .int .u8 (l : Nat)) rfl
    have x1 := (H7.out.get 3 rfl).cell (j := 1) (v := .int .u8 (d : Nat)) rfl
    have x2 := (H7.out.get 3 rfl).cell (j := 2) (v := .int .u8 (r : Nat)) rfl
    have x3 := (H7.out.get 3 rfl).cell (j := 3) (v := .int .u8 (q : Nat)) rfl
    have y0 := (H7.out.get 2 rfl).cell (j := 0) (v := .int .u8 (l' : Nat)) rfl
    have y1 := (H7.out.get 2 rfl).cell (j := 1) (v := .int .u8 (d' : Nat)) rfl
    have y2 := (H7.out.get 2 rfl).cell (j := 2) (v := .int .u8 (r' : Nat)) rfl
    have y3 := (H7.out.get 2 rfl).cell (j := 3) (v := .int .u8 (q' : Nat)) rfl
    have z0 := (H7.out.get 1 rfl).cell (j := 0) (v := .int .u8 (l : Nat)) rfl
    have z1 := (H7.out.get 1 rfl).cell (j := 1) (v := .int .u8 (d : Nat)) rfl
    have z2 := (H7.out.get 1 rfl).cell (j := 2) (v := .int .u8 (r : Nat)) rfl
    have z3 := (H7.out.get 1 rfl).cell (j := 3) (v := .int .u8 (q : Nat)) rfl
    have g0 := (H7.out.get 0 rfl).cell (j := 0) (v := .int .u8 (l : Nat)) rfl
    have g1 := (H7.out.get 0 rfl).cell (j := 1) (v := .int .u8 (d : Nat)) rfl
    have g2 := (H7.out.get 0 rfl).cell (j := 2) (v := .int .u8 (r : Nat)) rfl
    have g3 := (H7.out.get 0 rfl).cell (j := 3) (v := .int .u8 (q : Nat)) rfl
    by_cases he : TB = UB
    · obtain ⟨⟨rfl, rfl, rfl, rfl⟩, rfl⟩ := HS.out he
      subst he
      have ex := HX.out
      go_wp2_with fail
      go_meet
      exact ⟨rfl, H7.out.sub (fun _ hx => absurd hx (by simp))⟩
    · have ex := HX.out
      have hne : (TB.toList == UB.toList) = false := by
        rw [beq_eq_false_iff_ne]
        intro h
        rw [ByteArray.toList_eq, ByteArray.toList_eq] at h
        exact he (ByteArray.ext (Array.toList_inj.1 h))
      have HN := Lib.hid he
      clear he
      by_cases hk : k = k'
      · have hkk : ((k : Int) == (k' : Int)) = true := beq_iff_eq.2 (by omega)
        have HK := Lib.hid hk
        clear hk
        go_wp2_with fail
        all_goals first
          | (exfalso; exact HN.out (HD.out ⟨⟨by omega, by omega, by omega, by omega⟩, HK.out⟩))
          | (go_meet; exact ⟨rfl, H7.out.sub (fun _ hx => absurd hx (by simp))⟩)
      · have hkk : ((k : Int) == (k' : Int)) = false := beq_eq_false_iff_ne.2 (by omega)
        have HK := Lib.hid hk
        clear hk
        go_wp2_with fail
        all_goals (go_meet; exact ⟨rfl, H7.out.sub (fun _ hx => absurd hx (by simp))⟩)
  case rest =>
  obtain ⟨rfl, h8⟩ := hcut
  clear H7 HX HS HD hts MC MD WC WD PC TC RC hsm hpre
  have H8 := Lib.hid h8
  clear h8
  go_wp2_with fail
  refine (invl_of R2.out H8.out).mono ?_
  rintro e w9 ⟨rfl, h9⟩
  clear H8
  have h9 := h9.push 23 #[.int .u8 (l2 : Nat), .int .u8 (d2 : Nat), .int .u8 (r2 : Nat), .int .u8 (q2 : Nat)]
  go_upto_region 11 with fail
  generalize w9.alloc (.cells #[.int .u8 (l2 : Nat), .int .u8 (d2 : Nat), .int .u8 (r2 : Nat), .int .u8 (q2 : Nat)] 23) = W9 at *
  generalize w9.heap.size = b22 at *
  have H9 := Lib.hid h9
  clear h9
  go_upto_if 137 with fail
  go_cut [6] (fun s6 wx => s6 = .bool false ∧ InvL w wx [])
  case first =>
    have x0 := (H9.out.get 0 rfl).cell (j := 0) (v := .int .u8 (l2 : Nat)) rfl
    have x1 := (H9.out.get 0 rfl).cell (j := 1) (v := .int .u8 (d2 : Nat)) rfl
    have x2 := (H9.out.get 0 rfl).cell (j := 2) (v := .int .u8 (r2 : Nat)) rfl
    have x3 := (H9.out.get 0 rfl).cell (j := 3) (v := .int .u8 (q2 : Nat)) rfl
    by_cases he : e2 = 0
    · have t0 : (e2 == 0) = true := beq_iff_eq.2 he
      have HT := Lib.hid (T2.out he)
      clear he
      go_wp2_with fail
      refine (invl_of HT.out H9.out).mono ?_
      rintro e w10 ⟨rfl, h10⟩
      go_wp2_with fail
      go_meet
      exact ⟨rfl, h10.sub (fun _ hx => absurd hx (by simp))⟩
    · have t0 : (e2 == 0) = false := beq_eq_false_iff_ne.2 he
      clear he
      go_wp2_with fail
      go_meet
      exact ⟨rfl, H9.out.sub (fun _ hx => absurd hx (by simp))⟩
  case rest =>
  obtain ⟨rfl, h10⟩ := hcut
  clear H9
  have H10 := Lib.hid h10
  clear h10
  go_wp2_with fail
  refine (invl_of P3.out H10.out).mono ?_
  rintro e w11 ⟨rfl, h11⟩
  clear H10
  have h11 := h11.push 23 #[.int .u8 (l3 : Nat), .int .u8 (d3 : Nat), .int .u8 (r3 : Nat), .int .u8 (q3 : Nat)]
  go_upto_region 16 with fail
  generalize w11.alloc (.cells #[.int .u8 (l3 : Nat), .int .u8 (d3 : Nat), .int .u8 (r3 : Nat), .int .u8 (q3 : Nat)] 23) = W11 at *
  generalize w11.heap.size = b26 at *
  have H11 := Lib.hid h11
  clear h11
  go_upto_if 157 with fail
  go_cut [6] (fun s6 wx => s6 = .bool false ∧ InvL w wx [])
  case first =>
    have x0 := (H11.out.get 0 rfl).cell (j := 0) (v := .int .u8 (l3 : Nat)) rfl
    have x1 := (H11.out.get 0 rfl).cell (j := 1) (v := .int .u8 (d3 : Nat)) rfl
    have x2 := (H11.out.get 0 rfl).cell (j := 2) (v := .int .u8 (r3 : Nat)) rfl
    have x3 := (H11.out.get 0 rfl).cell (j := 3) (v := .int .u8 (q3 : Nat)) rfl
    by_cases he : e3 = 0
    · have t0 : (e3 == 0) = true := beq_iff_eq.2 he
      have HT := Lib.hid (W3.out he)
      clear he
      go_wp2_with fail
      refine (invl_of HT.out H11.out).mono ?_
      rintro e w12 ⟨rfl, h12⟩
      go_wp2_with fail
      go_meet
      exact ⟨rfl, h12.sub (fun _ hx => absurd hx (by simp))⟩
    · have t0 : (e3 == 0) = false := beq_eq_false_iff_ne.2 he
      clear he
      go_wp2_with fail
      go_meet
      exact ⟨rfl, H11.out.sub (fun _ hx => absurd hx (by simp))⟩
  case rest =>
  obtain ⟨rfl, h12⟩ := hcut
  go_wp2_with fail
  refine (awake_i h12.inv).mono ?_
  rintro e w13 ⟨rfl, h13⟩
  go_wp2_with fail
  go_ret
  exact ⟨rfl, h13.below⟩
end Go.Proofs.YtgmofikhndlhcaaDoor
