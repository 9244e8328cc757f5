/- ScoreReads: the walk. -/
import Derived.Test.YtgmofikhndlhcaaDoorRefG
import Derived.Test.YtgmofikhndlhcaaDoorBack
namespace Go.Proofs.YtgmofikhndlhcaaDoor
open Go.RowKit

set_option maxRecDepth 100000 in
set_option maxHeartbeats 4000000 in
theorem reads_any (s : ByteArray) (w : World) (hE : Env w) (hz : s.size < 4611686018427387904) :
    Calls Tryd.prog 13 #[.string s] w fun e w' => e = .returned (.bool true) ∧ Below w.heap.size w w' := by
  have hm : s.size ≤ maxLen := by unfold maxLen; omega
  obtain ⟨⟨⟨l, d, r, c⟩, er⟩, hR⟩ : ∃ x, x = readP s.data.toList := ⟨_, rfl⟩
  obtain ⟨⟨⟨⟨l', d', r', c'⟩, k'⟩, ep⟩, hP⟩ : ∃ x, x = parseP s := ⟨_, rfl⟩
  have R1 : Hid (∀ w, Env w → Calls Tryd.prog 23 #[.string s] w fun e w' => e = .returned (.tuple #[.agg #[.int .u8 (l : Nat), .int .u8 (d : Nat), .int .u8 (r : Nat), .int .u8 (c : Nat)], .int .i64 er]) ∧ Below w.heap.size w w') := Lib.hid fun w hw => (read_any s w hm).mono fun e w' ⟨he, hb⟩ => ⟨by rw [he, ← hR], hb⟩
  have R2 : Hid (∀ w, Env w → Calls Tryd.prog 33 #[.string s] w fun e w' => e = .returned (.tuple #[.agg #[.int .u8 (l : Nat), .int .u8 (d : Nat), .int .u8 (r : Nat), .int .u8 (c : Nat)], .int .i64 er]) ∧ Below w.heap.size w w') := Lib.hid fun w hw => (rread_any s w).mono fun e w' ⟨he, hb⟩ => ⟨by rw [he, ← hR], hb⟩
  have P1 : Hid (∀ w, Env w → Calls Tryd.prog 21 #[.string s] w fun e w' => e = .returned (.tuple #[.agg #[.int .u8 (l' : Nat), .int .u8 (d' : Nat), .int .u8 (r' : Nat), .int .u8 (c' : Nat)], .int .i64 (k' : Nat), .int .i64 ep]) ∧ Below w.heap.size w w') := Lib.hid fun w hw => (parse_any s w hw hz).mono fun e w' ⟨he, hb⟩ => ⟨by rw [he, ← hP], hb⟩
  have P2 : Hid (∀ w, Env w → Calls Tryd.prog 34 #[.string s] w fun e w' => e = .returned (.tuple #[.agg #[.int .u8 (l' : Nat), .int .u8 (d' : Nat), .int .u8 (r' : Nat), .int .u8 (c' : Nat)], .int .i64 (k' : Nat), .int .i64 ep]) ∧ Below w.heap.size w w') := Lib.hid fun w hw => (rparse_any s w hz).mono fun e w' ⟨he, hb⟩ => ⟨by rw [he, ← hP], hb⟩
  have H1 : Hid (InvL w w []) := Lib.hid ⟨⟨hE, Below.refl _ _⟩, fun x hx => absurd hx (by simp)⟩
  clear hR hP hm hz hE
  go_enter Tryd.func13, Tryd.ntmps13
  go_wp2_with fail
  refine (invl_of R1.out H1.out).mono ?_
  rintro e w1 ⟨rfl, h⟩
  have h := h.push 23 #[.int .u8 (l : Nat), .int .u8 (d : Nat), .int .u8 (r : Nat), .int .u8 (c : Nat)]
  go_upto_region 2 with fail
  generalize w1.alloc (.cells #[.int .u8 (l : Nat), .int .u8 (d : Nat), .int .u8 (r : Nat), .int .u8 (c : Nat)] 23) = W1 at *
  generalize w1.heap.size = b3 at *
  clear H1
  have H2 := Lib.hid h
  clear h
  go_wp2_with fail
  refine (invl_of R2.out H2.out).mono ?_
  rintro e w2 ⟨rfl, h⟩
  have h := h.push 23 #[.int .u8 (l : Nat), .int .u8 (d : Nat), .int .u8 (r : Nat), .int .u8 (c : Nat)]
  go_upto_region 3 with fail
  generalize w2.alloc (.cells #[.int .u8 (l : Nat), .int .u8 (d : Nat), .int .u8 (r : Nat), .int .u8 (c : Nat)] 23) = W2 at *
  generalize w2.heap.size = b5 at *
  clear H2
  have H3 := Lib.hid h
  clear h
  go_wp2_with fail
  refine (invl_of P1.out H3.out).mono ?_
  rintro e w3 ⟨rfl, h⟩
  have h := h.push 23 #[.int .u8 (l' : Nat), .int .u8 (d' : Nat), .int .u8 (r' : Nat), .int .u8 (c' : Nat)]
  go_upto_region 4 with fail
  generalize w3.alloc (.cells #[.int .u8 (l' : Nat), .int .u8 (d' : Nat), .int .u8 (r' : Nat), .int .u8 (c' : Nat)] 23) = W3 at *
  generalize w3.heap.size = b7 at *
  clear H3
  have H4 := Lib.hid h
  clear h
  go_wp2_with fail
  refine (invl_of P2.out H4.out).mono ?_
  rintro e w4 ⟨rfl, h⟩
  have h := h.push 23 #[.int .u8 (l' : Nat), .int .u8 (d' : Nat), .int .u8 (r' : Nat), .int .u8 (c' : Nat)]
  go_upto_region 5 with fail
  generalize w4.alloc (.cells #[.int .u8 (l' : Nat), .int .u8 (d' : Nat), .int .u8 (r' : Nat), .int .u8 (c' : Nat)] 23) = W4 at *
  generalize w4.heap.size = b10 at *
  clear H4
  have H5 := Lib.hid h
  clear h
  have x0 := (H5.out.get 3 rfl).cell (j := 0) (v := .int .u8 (l : Nat)) rfl
  have x1 := (H5.out.get 3 rfl).cell (j := 1) (v := .int .u8 (d : Nat)) rfl
  have x2 := (H5.out.get 3 rfl).cell (j := 2) (v := .int .u8 (r : Nat)) rfl
  have x3 := (H5.out.get 3 rfl).cell (j := 3) (v := .int .u8 (c : Nat)) rfl
  have y0 := (H5.out.get 2 rfl).cell (j := 0) (v := .int .u8 (l : Nat)) rfl
  have y1 := (H5.out.get 2 rfl).cell (j := 1) (v := .int .u8 (d : Nat)) rfl
  have y2 := (H5.out.get 2 rfl).cell (j := 2) (v := .int .u8 (r : Nat)) rfl
  have y3 := (H5.out.get 2 rfl).cell (j := 3) (v := .int .u8 (c : Nat)) rfl
  have z0 := (H5.out.get 1 rfl).cell (j := 0) (v := .int .u8 (l' : Nat)) rfl
  have z1 := (H5.out.get 1 rfl).cell (j := 1) (v := .int .u8 (d' : Nat)) rfl
  have z2 := (H5.out.get 1 rfl).cell (j := 2) (v := .int .u8 (r' : Nat)) rfl
  have z3 := (H5.out.get 1 rfl).cell (j := 3) (v := .int .u8 (c' : Nat)) rfl
  have g0 := (H5.out.get 0 rfl).cell (j := 0) (v := .int .u8 (l' : Nat)) rfl
  have g1 := (H5.out.get 0 rfl).cell (j := 1) (v := .int .u8 (d' : Nat)) rfl
  have g2 := (H5.out.get 0 rfl).cell (j := 2) (v := .int .u8 (r' : Nat)) rfl
  have g3 := (H5.out.get 0 rfl).cell (j := 3) (v := .int .u8 (c' : Nat)) rfl
  go_wp2_with fail
  go_ret
  exact ⟨rfl, H5.out.inv.below⟩
set_option maxRecDepth 100000 in
set_option maxHeartbeats 4000000 in
theorem reads_main (s : ByteArray) (w : World) (hE : Env w) (hs : s.size ≤ maxLen) (hz : s.data.toList.length ≤ reachBytes) :
    Calls Tryd.prog 4 #[.string s] w fun e w' => e = .returned (.bool true) ∧ Below w.heap.size w w' := by
  have hz' : s.size < 4611686018427387904 := by
    have : s.data.toList.length = s.size := Array.length_toList
    unfold reachBytes at hz
    omega
  have H0 : Hid (Inv w w) := Lib.hid ⟨hE, Below.refl _ _⟩
  have RC := Lib.hid (fun w hw => reads_any s w hw hz')
  unfold maxLen at hs
  clear hE hz
  by_cases h200 : 200 < s.size
  · have t0 : decide (200 < s.size) = true := decide_eq_true h200
    have t1 : decide ((200 : Int) < (s.size : Nat)) = true := decide_eq_true (by omega)
    go_enter Tryd.func4, Tryd.ntmps4
    go_wp2_with fail
    refine (awake_i H0.out).mono ?_
    rintro e w3 ⟨rfl, h⟩
    go_wp2_with fail
    go_ret
    exact ⟨rfl, h.below⟩
  · have t0 : decide (200 < s.size) = false := decide_eq_false h200
    have t1 : decide ((200 : Int) < (s.size : Nat)) = false := decide_eq_false (by omega)
    go_enter Tryd.func4, Tryd.ntmps4
    go_wp2_with fail
    refine (inv_of RC.out H0.out).mono ?_
    rintro e w2 ⟨rfl, h2⟩
    go_wp2_with fail
    refine (awake_i h2).mono ?_
    rintro e w3 ⟨rfl, h⟩
    go_wp2_with fail
    go_ret
    exact ⟨rfl, h.below⟩
end Go.Proofs.YtgmofikhndlhcaaDoor
