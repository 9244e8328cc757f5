/- The contracts of FracRing's closure, which adds the errors. -/
import Derived.Test.YtfhkgpipbegpgaaDoorSome
namespace Go.Proofs.YtfhkgpipbegpgaaDoor
open Go Go.RowKit
set_option maxRecDepth 100000 in
set_option maxHeartbeats 1000000 in
theorem op_add (a b c d r s : Int) (p : Nat) (H : ∀ w, Calls Tryd.prog 15 #[.agg #[.int .i64 a, .int .i64 b], .agg #[.int .i64 c, .int .i64 d]] w (fun e w' => e = .returned (.tuple #[.agg #[.int .i64 r, .int .i64 s], .int .i64 0]) ∧ Below w.heap.size w w')) (w : World) (hp : Blk w p 28 #[.int .i64 0]) :
    Calls Tryd.prog 29 #[.func (.func 15) #[] #[], .agg #[.int .i64 a, .int .i64 b], .agg #[.int .i64 c, .int .i64 d], .pointer (some ⟨p, 0, none⟩)] w (fun e w' => e = .returned (.agg #[.int .i64 r, .int .i64 s]) ∧ Below w.heap.size w w') := by
  have HH := Lib.hid H
  have HP := Lib.hid hp
  clear H hp
  go_enter Tryd.func29, Tryd.ntmps29
  go_wp2_with fail
  have hA := AM.start w a b c d
  have hP := HP.out.keep (below3 w (.cells #[.int .i64 a, .int .i64 b] 26) (.cells #[.int .i64 c, .int .i64 d] 26) (.cells #[.int .i64 0, .int .i64 0] 26)) HP.out.lt
  generalize ((w.alloc (.cells #[.int .i64 a, .int .i64 b] 26)).alloc (.cells #[.int .i64 c, .int .i64 d] 26)).alloc (.cells #[.int .i64 0, .int .i64 0] 26) = W1 at *
  refine (HH.out _).mono ?_
  rintro e w2 ⟨rfl, hb⟩
  have hP2 := (hP.keep hb hP.lt).alloc (.cells #[.int .i64 r, .int .i64 s] 26)
  have hA2 := (hA.keep hb).keep (below1 _ (.cells #[.int .i64 r, .int .i64 s] 26))
  clear hb hA hP
  have es := setCell_id hP2 (j := 0) (v := .int .i64 0) rfl
  have q0 := hP2.cell (j := 0) (v := .int .i64 0) rfl
  have q1 := hP2.free 0
  have r0 := hA2.br.cell (j := 0) (v := .int .i64 0) rfl
  have r1 := hA2.br.cell (j := 1) (v := .int .i64 0) rfl
  have f0 := hA2.br.free 0
  have f1 := hA2.br.free 1
  have hB := hA2.below
  clear hA2 hP2
  go_wp2
  refine bodyPost_ret (v := .agg #[.int .i64 r, .int .i64 s]) (by simp [results, Tryd.results29, go_sem, r0, r1]) rfl ?_
  exact ⟨rfl, (hB.setCell (by simp; omega) _).setCell (by simp; omega) _⟩
set_option maxRecDepth 100000 in
set_option maxHeartbeats 1000000 in
theorem op_sub (a b c d r s : Int) (p : Nat) (H : ∀ w, Calls Tryd.prog 14 #[.agg #[.int .i64 a, .int .i64 b], .agg #[.int .i64 c, .int .i64 d]] w (fun e w' => e = .returned (.tuple #[.agg #[.int .i64 r, .int .i64 s], .int .i64 0]) ∧ Below w.heap.size w w')) (w : World) (hp : Blk w p 28 #[.int .i64 0]) :
    Calls Tryd.prog 29 #[.func (.func 14) #[] #[], .agg #[.int .i64 a, .int .i64 b], .agg #[.int .i64 c, .int .i64 d], .pointer (some ⟨p, 0, none⟩)] w (fun e w' => e = .returned (.agg #[.int .i64 r, .int .i64 s]) ∧ Below w.heap.size w w') := by
  have HH := Lib.hid H
  have HP := Lib.hid hp
  clear H hp
  go_enter Tryd.func29, Tryd.ntmps29
  go_wp2_with fail
  have hA := AM.start w a b c d
  have hP := HP.out.keep (below3 w (.cells #[.int .i64 a, .int .i64 b] 26) (.cells #[.int .i64 c, .int .i64 d] 26) (.cells #[.int .i64 0, .int .i64 0] 26)) HP.out.lt
  generalize ((w.alloc (.cells #[.int .i64 a, .int .i64 b] 26)).alloc (.cells #[.int .i64 c, .int .i64 d] 26)).alloc (.cells #[.int .i64 0, .int .i64 0] 26) = W1 at *
  refine (HH.out _).mono ?_
  rintro e w2 ⟨rfl, hb⟩
  have hP2 := (hP.keep hb hP.lt).alloc (.cells #[.int .i64 r, .int .i64 s] 26)
  have hA2 := (hA.keep hb).keep (below1 _ (.cells #[.int .i64 r, .int .i64 s] 26))
  clear hb hA hP
  have es := setCell_id hP2 (j := 0) (v := .int .i64 0) rfl
  have q0 := hP2.cell (j := 0) (v := .int .i64 0) rfl
  have q1 := hP2.free 0
  have r0 := hA2.br.cell (j := 0) (v := .int .i64 0) rfl
  have r1 := hA2.br.cell (j := 1) (v := .int .i64 0) rfl
  have f0 := hA2.br.free 0
  have f1 := hA2.br.free 1
  have hB := hA2.below
  clear hA2 hP2
  go_wp2
  refine bodyPost_ret (v := .agg #[.int .i64 r, .int .i64 s]) (by simp [results, Tryd.results29, go_sem, r0, r1]) rfl ?_
  exact ⟨rfl, (hB.setCell (by simp; omega) _).setCell (by simp; omega) _⟩
set_option maxRecDepth 100000 in
set_option maxHeartbeats 1000000 in
theorem op_mul (a b c d r s : Int) (p : Nat) (H : ∀ w, Calls Tryd.prog 16 #[.agg #[.int .i64 a, .int .i64 b], .agg #[.int .i64 c, .int .i64 d]] w (fun e w' => e = .returned (.tuple #[.agg #[.int .i64 r, .int .i64 s], .int .i64 0]) ∧ Below w.heap.size w w')) (w : World) (hp : Blk w p 28 #[.int .i64 0]) :
    Calls Tryd.prog 29 #[.func (.func 16) #[] #[], .agg #[.int .i64 a, .int .i64 b], .agg #[.int .i64 c, .int .i64 d], .pointer (some ⟨p, 0, none⟩)] w (fun e w' => e = .returned (.agg #[.int .i64 r, .int .i64 s]) ∧ Below w.heap.size w w') := by
  have HH := Lib.hid H
  have HP := Lib.hid hp
  clear H hp
  go_enter Tryd.func29, Tryd.ntmps29
  go_wp2_with fail
  have hA := AM.start w a b c d
  have hP := HP.out.keep (below3 w (.cells #[.int .i64 a, .int .i64 b] 26) (.cells #[.int .i64 c, .int .i64 d] 26) (.cells #[.int .i64 0, .int .i64 0] 26)) HP.out.lt
  generalize ((w.alloc (.cells #[.int .i64 a, .int .i64 b] 26)).alloc (.cells #[.int .i64 c, .int .i64 d] 26)).alloc (.cells #[.int .i64 0, .int .i64 0] 26) = W1 at *
  refine (HH.out _).mono ?_
  rintro e w2 ⟨rfl, hb⟩
  have hP2 := (hP.keep hb hP.lt).alloc (.cells #[.int .i64 r, .int .i64 s] 26)
  have hA2 := (hA.keep hb).keep (below1 _ (.cells #[.int .i64 r, .int .i64 s] 26))
  clear hb hA hP
  have es := setCell_id hP2 (j := 0) (v := .int .i64 0) rfl
  have q0 := hP2.cell (j := 0) (v := .int .i64 0) rfl
  have q1 := hP2.free 0
  have r0 := hA2.br.cell (j := 0) (v := .int .i64 0) rfl
  have r1 := hA2.br.cell (j := 1) (v := .int .i64 0) rfl
  have f0 := hA2.br.free 0
  have f1 := hA2.br.free 1
  have hB := hA2.below
  clear hA2 hP2
  go_wp2
  refine bodyPost_ret (v := .agg #[.int .i64 r, .int .i64 s]) (by simp [results, Tryd.results29, go_sem, r0, r1]) rfl ?_
  exact ⟨rfl, (hB.setCell (by simp; omega) _).setCell (by simp; omega) _⟩
set_option maxRecDepth 100000 in
set_option maxHeartbeats 1000000 in
theorem op_div (a b c d r s : Int) (p : Nat) (H : ∀ w, Calls Tryd.prog 20 #[.agg #[.int .i64 a, .int .i64 b], .agg #[.int .i64 c, .int .i64 d]] w (fun e w' => e = .returned (.tuple #[.agg #[.int .i64 r, .int .i64 s], .int .i64 0]) ∧ Below w.heap.size w w')) (w : World) (hp : Blk w p 28 #[.int .i64 0]) :
    Calls Tryd.prog 29 #[.func (.func 20) #[] #[], .agg #[.int .i64 a, .int .i64 b], .agg #[.int .i64 c, .int .i64 d], .pointer (some ⟨p, 0, none⟩)] w (fun e w' => e = .returned (.agg #[.int .i64 r, .int .i64 s]) ∧ Below w.heap.size w w') := by
  have HH := Lib.hid H
  have HP := Lib.hid hp
  clear H hp
  go_enter Tryd.func29, Tryd.ntmps29
  go_wp2_with fail
  have hA := AM.start w a b c d
  have hP := HP.out.keep (below3 w (.cells #[.int .i64 a, .int .i64 b] 26) (.cells #[.int .i64 c, .int .i64 d] 26) (.cells #[.int .i64 0, .int .i64 0] 26)) HP.out.lt
  generalize ((w.alloc (.cells #[.int .i64 a, .int .i64 b] 26)).alloc (.cells #[.int .i64 c, .int .i64 d] 26)).alloc (.cells #[.int .i64 0, .int .i64 0] 26) = W1 at *
  refine (HH.out _).mono ?_
  rintro e w2 ⟨rfl, hb⟩
  have hP2 := (hP.keep hb hP.lt).alloc (.cells #[.int .i64 r, .int .i64 s] 26)
  have hA2 := (hA.keep hb).keep (below1 _ (.cells #[.int .i64 r, .int .i64 s] 26))
  clear hb hA hP
  have es := setCell_id hP2 (j := 0) (v := .int .i64 0) rfl
  have q0 := hP2.cell (j := 0) (v := .int .i64 0) rfl
  have q1 := hP2.free 0
  have r0 := hA2.br.cell (j := 0) (v := .int .i64 0) rfl
  have r1 := hA2.br.cell (j := 1) (v := .int .i64 0) rfl
  have f0 := hA2.br.free 0
  have f1 := hA2.br.free 1
  have hB := hA2.below
  clear hA2 hP2
  go_wp2
  refine bodyPost_ret (v := .agg #[.int .i64 r, .int .i64 s]) (by simp [results, Tryd.results29, go_sem, r0, r1]) rfl ?_
  exact ⟨rfl, (hB.setCell (by simp; omega) _).setCell (by simp; omega) _⟩
end Go.Proofs.YtfhkgpipbegpgaaDoor
