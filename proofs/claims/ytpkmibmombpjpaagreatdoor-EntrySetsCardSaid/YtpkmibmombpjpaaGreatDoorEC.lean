/- Entries compared: compareKeys. -/
import Derived.Test.YtpkmibmombpjpaaGreatDoorEV
import Derived.Test.YtpkmibmombpjpaaGreatDoorSeg
namespace Go.Proofs.YtpkmibmombpjpaaGreatDoor
open Go Go.RowKit

theorem two_blk (w : World) (t : TypeId) (a b : Array Value) : Blk ((w.alloc (.cells a t)).alloc (.cells b t)) w.heap.size t a ∧ Blk ((w.alloc (.cells a t)).alloc (.cells b t)) (w.heap.size + 1) t b ∧ Below w.heap.size w ((w.alloc (.cells a t)).alloc (.cells b t)) := by
  refine ⟨(Blk.new w _ _).alloc _, ?_, (below1 w _).alloc (by simp) _⟩
  have := Blk.new (w.alloc (.cells a t)) t b
  rwa [show (w.alloc (.cells a t)).heap.size = w.heap.size + 1 by simp] at this
set_option maxRecDepth 100000 in
theorem cmpK_any (a b : En) (w : World) : Calls Tryz.prog 54 #[.agg (enC a), .agg (enC b)] w (fun e w' => e = .returned (.int .i64 (cmpK a b)) ∧ Below w.heap.size w w') := by
  have HK := Lib.hid (or3_key a b)
  have C0 := Lib.hid (fun W => cmpI_any a.rd b.rd W)
  have C1 := Lib.hid (fun W => cmpI_any a.tb b.tb W)
  have C2 := Lib.hid (fun W => cmpI_any a.bd b.bd W)
  generalize cmpI a.rd b.rd = c0 at *
  generalize cmpI a.tb b.tb = c1 at *
  generalize cmpI a.bd b.bd = c2 at *
  generalize cmpK a b = ck at *
  go_enter Tryz.func54, Tryz.ntmps54
  go_wp2_with fail
  obtain ⟨HA, HB, HW⟩ := two_blk w 34 (enC a) (enC b)
  generalize (w.alloc (.cells (enC a) 34)).alloc (.cells (enC b) 34) = W2 at *
  have HW2 := Lib.hid HW
  generalize w.heap.size + 1 = p1 at *
  generalize hp0 : w.heap.size = p0 at *
  refine rest_begin (by kernel_rfl) ?_
  have HA1 : Blk W2.drew p0 34 (enC a) := HA
  have HB1 : Blk W2.drew p1 34 (enC b) := HB
  have HW3 := Lib.hid HW2.out.drew
  clear HA HB HW HW2
  generalize W2.drew = X at *
  have x0 := HA1.cell (enC_rd a)
  have x1 := HA1.cell (enC_tb a)
  have x2 := HA1.cell (enC_bd a)
  have y0 := HB1.cell (enC_rd b)
  have y1 := HB1.cell (enC_tb b)
  have y2 := HB1.cell (enC_bd b)
  clear HA1 HB1
  refine rest_quiet (fun w' => ∃ n, w' = X.drewN n) 15 (by kernel_rfl) ⟨0, rfl⟩ ?_
  simp only [List.take_succ_cons, List.take_zero, List.drop_zero]
  repeat (quiet_step ((first
    | (go_at_call 91; with_reducible exact Calls.quiet_of_same ((C0.out _).mono fun e w' h => ⟨h.1, h.2.symm⟩))
    | (go_at_call 91; with_reducible exact Calls.quiet_of_same ((C1.out _).mono fun e w' h => ⟨h.1, h.2.symm⟩))
    | (go_at_call 91; with_reducible exact Calls.quiet_of_same ((C2.out _).mono fun e w' h => ⟨h.1, h.2.symm⟩)))))
  refine wpQuiet_nil ?_
  rintro wq ⟨nq, rfl⟩
  have HW4 : Hid (Below p0 w (X.drewN nq)) := Lib.hid (below_drewN HW3.out nq)
  clear x0 x1 x2 y0 y1 y2 HW3 C0 C1 C2
  generalize X.drewN nq = Y at *
  refine rest_forced 3 (by kernel_rfl) ?_
  go_wp2_with fail
  refine (or3_any c0 c1 c2 Y.heap.size _ (Blk.new Y 3 _)).mono ?_
  rintro e w' ⟨rfl, rfl⟩
  rw [HK.out]
  have HW5 := Lib.hid (HW4.out.alloc (by have := HW4.out.size; omega) (.cells #[.int .i64 c0, .int .i64 c1, .int .i64 c2] 3))
  go_wp2_with fail
  refine rest_done rfl ?_
  go_wp2_with fail
  go_ret
  exact ⟨rfl, by rw [hp0]; exact HW5.out⟩
end Go.Proofs.YtpkmibmombpjpaaGreatDoor
