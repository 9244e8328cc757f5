/- The examples of the chapter: Example. -/
import Derived.Test.YtpkmibmombpjpaaGreatDoorEmM
set_option linter.unusedSimpArgs false
namespace Go.Proofs.YtpkmibmombpjpaaGreatDoor
open Go Go.RowKit

/-- A slice built out of values, in one step. -/
theorem op_bslice {ops : Array Oper} {rest : List Oper} {o : Oper} {a : Act} {Q : Exit → Act → World → Prop} {w : World} (T e : TypeId) (len : Nat) (parts : Array (Nat × Operand)) (C : Array Value) (hg : o.guard = none) (ho : o.op = .buildSlice T len parts)
    (hr : (Instr.buildSlice T len (parts.map fun (i, x) => (i, a.eval x))).run Tryz.prog w = .ok (.slice (some ⟨w.heap.size, 0, none⟩) len len) (w.alloc (.cells C e)))
    (h : wpList Tryz.prog ops Q rest (a.put o.dst (.slice (some ⟨w.heap.size, 0, none⟩) len len)) (w.alloc (.cells C e))) : wpList Tryz.prog ops Q (o :: rest) a w := by
  refine wpList_plain hg fun K hK => ?_
  unfold Oper.wp
  have he : (execOp a.eval o).run Tryz.prog w = .ok (.value (.slice (some ⟨w.heap.size, 0, none⟩) len len)) (w.alloc (.cells C e)) := by
    simp only [execOp, ho, Sem.run_bind, hr, Result.andThen_ok, Sem.run_pure]
  rw [he, Oper.upon_value]
  exact hK _ _ h
def atE (v : Int) (k : Nat) : En := gE 0 2 9 v k 0 false [] 0 0
set_option maxRecDepth 100000 in
theorem exAt_any (v : Int) (k : Nat) (w : World) : Calls Tryz.prog 50 #[.int .i64 v, .int .u8 (k : Int)] w (fun x w' => x = .returned (.agg (enC (atE v k))) ∧ Below w.heap.size w w') := by
  have HB := Lib.hid (below1 w (.cells (enC (atE v k)) 34))
  have st := storeAt_row (T := 34) (C := enC (atE v k)) (Blk.new w 34 (enC zE)) (by rw [enC_size]; kernel_rfl) (by simp only [enC_size]) (enC_one _)
  rw [setRow_new, zE_lit] at st
  go_enter Tryz.func50, Tryz.ntmps50
  go_wp2_with (first
    | refine op_build 34 _ (enC (atE v k)) rfl rfl (by kernel_rfl) ?_
    | refine op_store (p := .pointer (some ⟨w.heap.size, 0, none⟩)) (C := .agg (enC (atE v k))) 34 (.tmp 4) (.tmp 7) rfl rfl rfl rfl rfl st ?_)
  have lf := loadVar_blk (T := 34) (Blk.new w 34 (enC (atE v k))) Tryz.underlying34 rfl (by rw [enC_size]; kernel_rfl)
  (try simp only [Exit.inBlock, Exit.then])
  refine bodyPost_ret (results_cell Tryz.results50 rfl lf) rfl ?_
  exact ⟨rfl, HB.out⟩
theorem ls_of_blk {α : Type} {enc : α → Array Value} {sz : Nat} (hs : ∀ x, (enc x).size = sz) {W : World} {b : Nat} {t : TypeId} {C : Array Value} {l : List α} (n cap : Nat) (hb : Blk W b t C) (hC : C.toList = flat enc l) (hn : l.length = n) (hc : n ≤ cap) : LS enc sz W (.slice (some ⟨b, 0, none⟩) n cap) l := by
  subst hn
  refine .some_ b 0 cap l hb.lt hc (fun i x hi j v hj => ?_)
  have hf := flat_at hs l i x hi j v hj
  rw [← hC] at hf
  rw [Nat.zero_add]
  exact hb.cell (by simpa using hf)
/-- The rows and the entries of the examples. -/
def exRows : List Rw := [⟨0, 3, 4, 0, 4⟩, ⟨0, 2, 3, 8, 4⟩]
def exL : List En := [gE 0 2 9 1 1 0 false [wonO 10 0] 0 0, gE 0 2 9 2 2 0 false [wonO 10 60, wonO 9 40] 0 0, gE 0 2 9 3 4 0 false [] 60 40, atE 4 0]
theorem ex_puts : putC (flat enC [atE 1 1, atE 2 2, atE 3 4, atE 4 0]).toArray 7 (ouA (wonO 10 0)).toList = (flat enC [gE 0 2 9 1 1 0 false [wonO 10 0] 0 0, atE 2 2, atE 3 4, atE 4 0]).toArray ∧ putC (flat enC [gE 0 2 9 1 1 0 false [wonO 10 0] 0 0, atE 2 2, atE 3 4, atE 4 0]).toArray 40 (ouA (wonO 10 60)).toList = (flat enC [gE 0 2 9 1 1 0 false [wonO 10 0] 0 0, gE 0 2 9 2 2 0 false [wonO 10 60] 0 0, atE 3 4, atE 4 0]).toArray ∧ putC (flat enC [gE 0 2 9 1 1 0 false [wonO 10 0] 0 0, gE 0 2 9 2 2 0 false [wonO 10 60] 0 0, atE 3 4, atE 4 0]).toArray 40 (ouA (wonO 10 60)).toList = (flat enC [gE 0 2 9 1 1 0 false [wonO 10 0] 0 0, gE 0 2 9 2 2 0 false [wonO 10 60] 0 0, atE 3 4, atE 4 0]).toArray ∧ putC (flat enC [gE 0 2 9 1 1 0 false [wonO 10 0] 0 0, gE 0 2 9 2 2 0 false [wonO 10 60] 0 0, atE 3 4, atE 4 0]).toArray 46 (ouA (wonO 9 40)).toList = (flat enC [gE 0 2 9 1 1 0 false [wonO 10 0] 0 0, gE 0 2 9 2 2 0 false [wonO 10 60, wonO 9 40] 0 0, atE 3 4, atE 4 0]).toArray ∧ putC (flat enC [gE 0 2 9 1 1 0 false [wonO 10 0] 0 0, gE 0 2 9 2 2 0 false [wonO 10 60, wonO 9 40] 0 0, atE 3 4, atE 4 0]).toArray 97 [.int .i64 60, .int .i64 40] = (flat enC exL).toArray := by
  refine ⟨?_, ?_, ?_, ?_, ?_⟩ <;> kernel_rfl
theorem ex_sizes : ((flat enC [atE 1 1, atE 2 2, atE 3 4, atE 4 0]).toArray).size = 132 ∧ ((flat enC [gE 0 2 9 1 1 0 false [wonO 10 0] 0 0, atE 2 2, atE 3 4, atE 4 0]).toArray).size = 132 ∧ ((flat enC [gE 0 2 9 1 1 0 false [wonO 10 0] 0 0, gE 0 2 9 2 2 0 false [wonO 10 60] 0 0, atE 3 4, atE 4 0]).toArray).size = 132 ∧ ((flat enC [gE 0 2 9 1 1 0 false [wonO 10 0] 0 0, gE 0 2 9 2 2 0 false [wonO 10 60, wonO 9 40] 0 0, atE 3 4, atE 4 0]).toArray).size = 132 ∧ ((flat enC exL).toArray).size = 132 := by
  refine ⟨?_, ?_, ?_, ?_, ?_⟩ <;> (rw [List.size_toArray, flat_len enC_size]; rfl)
theorem blk_cell {w : World} {b : Nat} {t : TypeId} {C : Array Value} (h : Blk w b t C) (j : Nat) (hj : j < C.size) : (w.cell? ⟨b, j, none⟩).isSome = true := by
  rw [h.cell (Array.getElem?_eq_getElem hj)]; rfl
set_option maxRecDepth 100000 in
set_option maxHeartbeats 4000000 in
theorem exampleL_any (w : World) : Calls Tryz.prog 20 #[] w (fun x w' => (∃ v u, x = .returned (.tuple #[.agg (snC 0 0 0 0 0 v 2), u]) ∧ WS w' v exRows ∧ ES w' u exL) ∧ Below w.heap.size w w') := by
  have C1 : Hid (∀ W, Calls Tryz.prog 50 #[.int .i64 1, .int .u8 1] W (fun x w' => x = .returned (.agg (enC (atE 1 1))) ∧ Below W.heap.size W w')) := Lib.hid (fun W => exAt_any 1 1 W)
  have C2 : Hid (∀ W, Calls Tryz.prog 50 #[.int .i64 2, .int .u8 2] W (fun x w' => x = .returned (.agg (enC (atE 2 2))) ∧ Below W.heap.size W w')) := Lib.hid (fun W => exAt_any 2 2 W)
  have C3 : Hid (∀ W, Calls Tryz.prog 50 #[.int .i64 3, .int .u8 4] W (fun x w' => x = .returned (.agg (enC (atE 3 4))) ∧ Below W.heap.size W w')) := Lib.hid (fun W => exAt_any 3 4 W)
  have C4 : Hid (∀ W, Calls Tryz.prog 50 #[.int .i64 4, .int .u8 0] W (fun x w' => x = .returned (.agg (enC (atE 4 0))) ∧ Below W.heap.size W w')) := Lib.hid (fun W => exAt_any 4 0 W)
  go_enter Tryz.func20, Tryz.ntmps20
  go_upto_region 2 with fail
  have HZ : Hid (Blk (((w.alloc (.cells #[.int .i64 0, .int .i64 0, .int .i64 0, .int .i64 0, .int .i64 0, .slice none 0 0, .int .i64 0] 26)).alloc (.cells #[.int .i64 0, .int .i64 3, .int .i64 4, .int .i64 0, .int .i64 4, .int .i64 0, .int .i64 2, .int .i64 3, .int .i64 8, .int .i64 4] 90)).alloc (.cells #[.int .i64 0, .int .i64 0, .int .i64 0, .int .i64 0, .int .i64 0, .slice (some ⟨w.heap.size + 1, 0, none⟩) 2 2, .int .i64 2] 26)) w.heap.size 26 #[.int .i64 0, .int .i64 0, .int .i64 0, .int .i64 0, .int .i64 0, .slice none 0 0, .int .i64 0]) := Lib.hid (((Blk.new w _ _).alloc _).alloc _)
  have HR : Hid (Blk (((w.alloc (.cells #[.int .i64 0, .int .i64 0, .int .i64 0, .int .i64 0, .int .i64 0, .slice none 0 0, .int .i64 0] 26)).alloc (.cells #[.int .i64 0, .int .i64 3, .int .i64 4, .int .i64 0, .int .i64 4, .int .i64 0, .int .i64 2, .int .i64 3, .int .i64 8, .int .i64 4] 90)).alloc (.cells #[.int .i64 0, .int .i64 0, .int .i64 0, .int .i64 0, .int .i64 0, .slice (some ⟨w.heap.size + 1, 0, none⟩) 2 2, .int .i64 2] 26)) (w.heap.size + 1) 90 #[.int .i64 0, .int .i64 3, .int .i64 4, .int .i64 0, .int .i64 4, .int .i64 0, .int .i64 2, .int .i64 3, .int .i64 8, .int .i64 4]) := Lib.hid (by
    have := (Blk.new (w.alloc (.cells #[.int .i64 0, .int .i64 0, .int .i64 0, .int .i64 0, .int .i64 0, .slice none 0 0, .int .i64 0] 26)) 90 #[.int .i64 0, .int .i64 3, .int .i64 4, .int .i64 0, .int .i64 4, .int .i64 0, .int .i64 2, .int .i64 3, .int .i64 8, .int .i64 4]).alloc (.cells #[.int .i64 0, .int .i64 0, .int .i64 0, .int .i64 0, .int .i64 0, .slice (some ⟨w.heap.size + 1, 0, none⟩) 2 2, .int .i64 2] 26)
    rwa [size_al] at this)
  have HS : Hid (Blk (((w.alloc (.cells #[.int .i64 0, .int .i64 0, .int .i64 0, .int .i64 0, .int .i64 0, .slice none 0 0, .int .i64 0] 26)).alloc (.cells #[.int .i64 0, .int .i64 3, .int .i64 4, .int .i64 0, .int .i64 4, .int .i64 0, .int .i64 2, .int .i64 3, .int .i64 8, .int .i64 4] 90)).alloc (.cells #[.int .i64 0, .int .i64 0, .int .i64 0, .int .i64 0, .int .i64 0, .slice (some ⟨w.heap.size + 1, 0, none⟩) 2 2, .int .i64 2] 26)) (w.heap.size + 1 + 1) 26 #[.int .i64 0, .int .i64 0, .int .i64 0, .int .i64 0, .int .i64 0, .slice (some ⟨w.heap.size + 1, 0, none⟩) 2 2, .int .i64 2]) := Lib.hid (by
    have := Blk.new ((w.alloc (.cells #[.int .i64 0, .int .i64 0, .int .i64 0, .int .i64 0, .int .i64 0, .slice none 0 0, .int .i64 0] 26)).alloc (.cells #[.int .i64 0, .int .i64 3, .int .i64 4, .int .i64 0, .int .i64 4, .int .i64 0, .int .i64 2, .int .i64 3, .int .i64 8, .int .i64 4] 90)) 26 #[.int .i64 0, .int .i64 0, .int .i64 0, .int .i64 0, .int .i64 0, .slice (some ⟨w.heap.size + 1, 0, none⟩) 2 2, .int .i64 2]
    rwa [size_al, size_al] at this)
  have HW : Hid (Below w.heap.size w (((w.alloc (.cells #[.int .i64 0, .int .i64 0, .int .i64 0, .int .i64 0, .int .i64 0, .slice none 0 0, .int .i64 0] 26)).alloc (.cells #[.int .i64 0, .int .i64 3, .int .i64 4, .int .i64 0, .int .i64 4, .int .i64 0, .int .i64 2, .int .i64 3, .int .i64 8, .int .i64 4] 90)).alloc (.cells #[.int .i64 0, .int .i64 0, .int .i64 0, .int .i64 0, .int .i64 0, .slice (some ⟨w.heap.size + 1, 0, none⟩) 2 2, .int .i64 2] 26))) := Lib.hid (((below1 w _).alloc (by simp) _).alloc (by simp; omega) _)
  generalize (((w.alloc (.cells #[.int .i64 0, .int .i64 0, .int .i64 0, .int .i64 0, .int .i64 0, .slice none 0 0, .int .i64 0] 26)).alloc (.cells #[.int .i64 0, .int .i64 3, .int .i64 4, .int .i64 0, .int .i64 4, .int .i64 0, .int .i64 2, .int .i64 3, .int .i64 8, .int .i64 4] 90)).alloc (.cells #[.int .i64 0, .int .i64 0, .int .i64 0, .int .i64 0, .int .i64 0, .slice (some ⟨w.heap.size + 1, 0, none⟩) 2 2, .int .i64 2] 26)) = W1 at *
  have HL : Hid (w.heap.size < w.heap.size + 1 ∧ w.heap.size < w.heap.size + 1 + 1) := Lib.hid (by omega)
  generalize w.heap.size + 1 + 1 = p2 at *
  generalize w.heap.size + 1 = p1 at *
  generalize hp0 : w.heap.size = p0 at *
  go_wp2_with fail
  refine (C1.out _).mono ?_
  rintro x w2 ⟨rfl, hb1⟩
  go_wp2_with fail
  refine (C2.out _).mono ?_
  rintro x w3 ⟨rfl, hb2⟩
  go_wp2_with fail
  refine (C3.out _).mono ?_
  rintro x w4 ⟨rfl, hb3⟩
  go_wp2_with fail
  refine (C4.out _).mono ?_
  rintro x w5 ⟨rfl, hb4⟩
  have hb := ((hb1.trans (hb2.mono hb1.size)).trans (hb3.mono (Nat.le_trans hb1.size hb2.size))).trans (hb4.mono (Nat.le_trans (Nat.le_trans hb1.size hb2.size) hb3.size))
  have HZ2 := Lib.hid (HZ.out.keep hb HZ.out.lt)
  have HS2 := Lib.hid (HS.out.keep hb HS.out.lt)
  have HR2 := Lib.hid (HR.out.keep hb HR.out.lt)
  have HW2 := Lib.hid (HW.out.trans (hb.mono (by have := HZ.out.lt; omega)))
  clear hb hb1 hb2 hb3 hb4 HZ HR HS HW C1 C2 C3 C4
  clear w2 w3 w4
  clear W1
  go_upto_region 4 with (refine op_bslice 40 34 4 _ (flat enC [atE 1 1, atE 2 2, atE 3 4, atE 4 0]).toArray rfl rfl (by kernel_rfl) ?_)
  have HB2 := Lib.hid (Blk.new w5 34 (flat enC [atE 1 1, atE 2 2, atE 3 4, atE 4 0]).toArray)
  have HZ3 := Lib.hid (HZ2.out.alloc (.cells (flat enC [atE 1 1, atE 2 2, atE 3 4, atE 4 0]).toArray 34))
  have HS3 := Lib.hid (HS2.out.alloc (.cells (flat enC [atE 1 1, atE 2 2, atE 3 4, atE 4 0]).toArray 34))
  have HR3 := Lib.hid (HR2.out.alloc (.cells (flat enC [atE 1 1, atE 2 2, atE 3 4, atE 4 0]).toArray 34))
  have hr2 := HR2.out.lt
  have hz := HZ2.out.lt
  have hs2 := HS2.out.lt
  have hle := HW2.out.size
  have HW3 := Lib.hid (HW2.out.alloc (by omega) (.cells (flat enC [atE 1 1, atE 2 2, atE 3 4, atE 4 0]).toArray 34))
  have HL2 : Hid (p0 ≠ w5.heap.size ∧ p2 ≠ w5.heap.size ∧ p0 ≤ w5.heap.size ∧ p0 ≠ p2 ∧ p1 ≠ w5.heap.size ∧ p1 ≠ p0) := Lib.hid (by have := HL.out; omega)
  have HP := Lib.hid ex_puts
  have HC := Lib.hid ex_sizes
  have HE : Hid (((flat enC exL).toArray).toList = flat enC exL) := Lib.hid (by simp)
  clear HZ2 HS2 HR2 HW2 hz hs2 hr2 hle HL
  generalize w5.alloc (.cells (flat enC [atE 1 1, atE 2 2, atE 3 4, atE 4 0]).toArray 34) = W6 at *
  generalize w5.heap.size = p4 at *
  clear w5
  generalize (flat enC [atE 1 1, atE 2 2, atE 3 4, atE 4 0]).toArray = C0 at *
  generalize (flat enC [gE 0 2 9 1 1 0 false [wonO 10 0] 0 0, atE 2 2, atE 3 4, atE 4 0]).toArray = C1 at *
  generalize (flat enC [gE 0 2 9 1 1 0 false [wonO 10 0] 0 0, gE 0 2 9 2 2 0 false [wonO 10 60] 0 0, atE 3 4, atE 4 0]).toArray = C2 at *
  generalize (flat enC [gE 0 2 9 1 1 0 false [wonO 10 0] 0 0, gE 0 2 9 2 2 0 false [wonO 10 60, wonO 9 40] 0 0, atE 3 4, atE 4 0]).toArray = C3 at *
  generalize (flat enC exL).toArray = C4 at *
  have WA := Lib.hid (fun W => won_at 10 0 W)
  have WB := Lib.hid (fun W => won_at 10 60 W)
  have WC := Lib.hid (fun W => won_at 9 40 W)
  have HOA := Lib.hid (ouA_facts (wonO 10 0))
  have HOB := Lib.hid (ouA_facts (wonO 10 60))
  have HOC := Lib.hid (ouA_facts (wonO 9 40))
  generalize ouA (wonO 10 0) = OA at *
  generalize ouA (wonO 10 60) = OB at *
  generalize ouA (wonO 9 40) = OC at *
  have HB4 : Hid (Blk W6.drew p4 34 C0) := HB2
  have HZ4 : Hid (Blk W6.drew p0 26 _) := HZ3
  have HS4 : Hid (Blk W6.drew p2 26 _) := HS3
  have HR4 : Hid (Blk W6.drew p1 90 _) := HR3
  have HW4 := Lib.hid HW3.out.drew
  refine rest_begin (by kernel_rfl) ?_
  obtain ⟨W7, hW7⟩ : ∃ W7, W6.drew = W7 := ⟨_, rfl⟩
  rw [hW7] at HB4 HZ4 HS4 HR4 HW4 ⊢
  clear hW7 HB2 HZ3 HS3 HR3 HW3
  clear W6
  refine rest_flow3 [some 19, some 20, some 21, some 22, some 23] [Sp.is (.slice (some ⟨p4, 0, none⟩) 4 4), Sp.is (.agg OA), Sp.is (.pointer (some ⟨p4, 0, none⟩)), Sp.is (.pointer (some ⟨p4, 7, none⟩)), Sp.is (.pointer (some ⟨p4, 7, none⟩))] [false, false, false, false, false] 5 (by kernel_rfl) (by kernel_rfl) (fun u F hF => ?_) (fun u w' hbF hsF hold hap => ?_)
  case refine_1 =>
    have E4 : F.eval (.tmp 4) = (.slice (some ⟨p4, 0, none⟩) 4 4) := (congrArg (fun a => Act.eval a (.tmp 4)) hF).trans (eval_out _ 0 _ (by decide))
    have D19 : F.eval (.tmp 19) = u 0 := (congrArg (fun a => Act.eval a (.tmp 19)) hF).trans (eval_in _ 0 0 _ (by decide) (by omega) rfl (of_decide_eq_true (by kernel_rfl)))
    have D21 : F.eval (.tmp 21) = u 2 := (congrArg (fun a => Act.eval a (.tmp 21)) hF).trans (eval_in _ 0 2 _ (by decide) (by omega) rfl (of_decide_eq_true (by kernel_rfl)))
    have D22 : F.eval (.tmp 22) = u 3 := (congrArg (fun a => Act.eval a (.tmp 22)) hF).trans (eval_in _ 0 3 _ (by decide) (by omega) rfl (of_decide_eq_true (by kernel_rfl)))
    clear hF
    refine ⟨?_, ?_, ?_, ?_, ?_, trivial⟩
    · intro w1 hb hd K hK
      have e4 := E4
      exact op_val (v := (.slice (some ⟨p4, 0, none⟩) 4 4)) rfl (by simp only [execOp, List.map_toArray, List.map_cons, List.map_nil, e4]; go_simp) (hK _ _ (show _ = _ from rfl) (Below.refl _ _) (Fresh.no _ _ _))
    · intro w1 hb hd K hK
      refine op_call (R := fun v w2 => v = (.agg OA) ∧ Below w1.heap.size w1 w2) (f := 21) (args := #[.int .i64 10, .int .i64 0]) rfl (by simp only [execOp]; go_simp) ((WA.out w1).mono fun e w2 hh => ⟨_, hh.1, rfl, hh.2⟩) (fun v w2 hh => hK _ _ hh.1 hh.2 (Fresh.no _ _ _))
    · intro w1 hb hd K hK
      have e19 := D19.trans (show u 0 = _ from hd ⟨0, .data⟩ (by simp) rfl (by omega))
      exact op_val (v := (.pointer (some ⟨p4, 0, none⟩))) rfl (by simp only [execOp, List.map_toArray, List.map_cons, List.map_nil, e19]; go_simp) (hK _ _ (show _ = _ from rfl) (Below.refl _ _) (Fresh.no _ _ _))
    · intro w1 hb hd K hK
      have e21 := D21.trans (show u 2 = _ from hd ⟨2, .data⟩ (by simp) rfl (by omega))
      exact op_val (v := (.pointer (some ⟨p4, 7, none⟩))) rfl (by simp only [execOp, List.map_toArray, List.map_cons, List.map_nil, e21]; go_simp) (hK _ _ (show _ = _ from rfl) (Below.refl _ _) (Fresh.no _ _ _))
    · intro w1 hb hd K hK
      have e22 := D22.trans (show u 3 = _ from hd ⟨3, .data⟩ (by simp) rfl (by omega))
      exact op_val (v := (.pointer (some ⟨p4, 7, none⟩))) rfl (by simp only [execOp, List.map_toArray, List.map_cons, List.map_nil, e22]; go_simp) (hK _ _ (show _ = _ from rfl) (Below.refl _ _) (Fresh.no _ _ _))
  have hv19 : u 0 = (.slice (some ⟨p4, 0, none⟩) 4 4) := (show u 0 = _ from hsF 0 (by omega) (by omega))
  have hv20 : u 1 = (.agg OA) := (show u 1 = _ from hsF 1 (by omega) (by omega))
  have hv21 : u 2 = (.pointer (some ⟨p4, 0, none⟩)) := (show u 2 = _ from hsF 2 (by omega) (by omega))
  have hv22 : u 3 = (.pointer (some ⟨p4, 7, none⟩)) := (show u 3 = _ from hsF 3 (by omega) (by omega))
  have hv23 : u 4 = (.pointer (some ⟨p4, 7, none⟩)) := (show u 4 = _ from hsF 4 (by omega) (by omega))
  simp only [putRow, hv19, hv20, hv21, hv22, hv23, Act.put, List.setIfInBounds_toArray, List.set_cons_succ, List.set_cons_zero]
  clear hsF hold hap hv19 hv20 hv21 hv22 hv23
  have HB5 := Lib.hid (HB4.out.keep hbF HB4.out.lt)
  have HZ5 := Lib.hid (HZ4.out.keep hbF HZ4.out.lt)
  have HS5 := Lib.hid (HS4.out.keep hbF HS4.out.lt)
  have HR5 := Lib.hid (HR4.out.keep hbF HR4.out.lt)
  have HW5 := Lib.hid (HW4.out.trans (hbF.mono (by rw [← hp0]; exact HW4.out.size)))
  clear HB4 HZ4 HS4 HR4 HW4 hbF WA
  have st := storeAt_run (T := 30) (w := w') (b := p4) (off := 7) (C := OA) (by rw [HOA.out.1]; kernel_rfl) (fun j hj => by rw [HOA.out.1] at hj; exact blk_cell HB5.out (7 + j) (by rw [HC.out.1]; omega)) (fun j hj => HB5.out.free _) HOA.out.2.1
  refine rest_forced 1 (by kernel_rfl) ?_
  simp only [List.drop_succ_cons, List.drop_zero, List.take_succ_cons, List.take_zero]
  go_wp2_with (refine op_store (p := .pointer (some ⟨p4, 7, none⟩)) (C := .agg OA) 30 (.tmp 23) (.tmp 20) rfl rfl rfl rfl rfl st ?_)
  clear st
  refine rest_done rfl ?_
  have hb6 := Blk.putC OA.toList 7 w' _ HB5.out
  rw [HP.out.1] at hb6
  have HB6 := Lib.hid hb6
  have HZ6 := Lib.hid (Blk.otherCells (b' := p4) HL2.out.1 OA.toList 7 w' HZ5.out)
  have HS6 := Lib.hid (Blk.otherCells (b' := p4) HL2.out.2.1 OA.toList 7 w' HS5.out)
  have HW6 := Lib.hid (Below.setCells' (b := p4) HL2.out.2.2.1 OA.toList 7 w' HW5.out)
  have HR6 := Lib.hid (Blk.otherCells (b' := p4) HL2.out.2.2.2.2.1 OA.toList 7 w' HR5.out)
  clear HB5 HZ5 HS5 HR5 HW5 hb6 HOA
  go_upto_region 5 with fail
  generalize w'.setCells p4 7 OA.toList = W8 at *
  clear w'
  have hBlk : Blk W8.drew p4 34 C1 := HB6.out
  have HZ7 : Hid (Blk W8.drew p0 26 _) := HZ6
  have HS7 : Hid (Blk W8.drew p2 26 _) := HS6
  have HR7 : Hid (Blk W8.drew p1 90 _) := HR6
  have HW7 := Lib.hid HW6.out.drew
  refine rest_begin (by kernel_rfl) ?_
  obtain ⟨W9, hW9⟩ : ∃ W9, W8.drew = W9 := ⟨_, rfl⟩
  rw [hW9] at hBlk HZ7 HS7 HR7 HW7 ⊢
  clear hW9 HB6 HZ6 HS6 HR6 HW6
  clear W8
  have hBW : p0 ≤ W9.heap.size := by rw [← hp0]; exact HW7.out.size
  have hBb : p0 ≤ p4 := HL2.out.2.2.1
  refine rest_flowG (grBlk p0 p4 34 C1 C2) [some 24, some 25, some 26, some 27, some 28, some 29, some 30, none, some 31, some 32] [SpG.is (.slice (some ⟨p4, 0, none⟩) 4 4), SpG.is (.slice (some ⟨p4, 0, none⟩) 4 4), SpG.is (.agg OB), SpG.is (.agg OC), SpG.is (.pointer (some ⟨p4, 33, none⟩)), SpG.is (.pointer (some ⟨p4, 40, none⟩)), SpG.is (.pointer (some ⟨p4, 40, none⟩)), SpG.cells, SpG.is (.pointer (some ⟨p4, 33, none⟩)), SpG.is (.pointer (some ⟨p4, 40, none⟩))] 10 (by kernel_rfl) (by kernel_rfl) (fun u F hF => ?_) (fun u w' hbF hsF => ?_)
  case refine_1 =>
    have E4 : F.eval (.tmp 4) = (.slice (some ⟨p4, 0, none⟩) 4 4) := (congrArg (fun a => Act.eval a (.tmp 4)) hF).trans (eval_out [some 24, some 25, some 26, some 27, some 28, some 29, some 30, none, some 31, some 32] 0 _ (by decide))
    have D24 : F.eval (.tmp 24) = u 0 := (congrArg (fun a => Act.eval a (.tmp 24)) hF).trans (eval_in [some 24, some 25, some 26, some 27, some 28, some 29, some 30, none, some 31, some 32] 0 0 _ (by decide) (by omega) rfl (of_decide_eq_true (by kernel_rfl)))
    have D28 : F.eval (.tmp 28) = u 4 := (congrArg (fun a => Act.eval a (.tmp 28)) hF).trans (eval_in [some 24, some 25, some 26, some 27, some 28, some 29, some 30, none, some 31, some 32] 0 4 _ (by decide) (by omega) rfl (of_decide_eq_true (by kernel_rfl)))
    have D29 : F.eval (.tmp 29) = u 5 := (congrArg (fun a => Act.eval a (.tmp 29)) hF).trans (eval_in [some 24, some 25, some 26, some 27, some 28, some 29, some 30, none, some 31, some 32] 0 5 _ (by decide) (by omega) rfl (of_decide_eq_true (by kernel_rfl)))
    have D30 : F.eval (.tmp 30) = u 6 := (congrArg (fun a => Act.eval a (.tmp 30)) hF).trans (eval_in [some 24, some 25, some 26, some 27, some 28, some 29, some 30, none, some 31, some 32] 0 6 _ (by decide) (by omega) rfl (of_decide_eq_true (by kernel_rfl)))
    have D26 : F.eval (.tmp 26) = u 2 := (congrArg (fun a => Act.eval a (.tmp 26)) hF).trans (eval_in [some 24, some 25, some 26, some 27, some 28, some 29, some 30, none, some 31, some 32] 0 2 _ (by decide) (by omega) rfl (of_decide_eq_true (by kernel_rfl)))
    have D25 : F.eval (.tmp 25) = u 1 := (congrArg (fun a => Act.eval a (.tmp 25)) hF).trans (eval_in [some 24, some 25, some 26, some 27, some 28, some 29, some 30, none, some 31, some 32] 0 1 _ (by decide) (by omega) rfl (of_decide_eq_true (by kernel_rfl)))
    have D31 : F.eval (.tmp 31) = u 8 := (congrArg (fun a => Act.eval a (.tmp 31)) hF).trans (eval_in [some 24, some 25, some 26, some 27, some 28, some 29, some 30, none, some 31, some 32] 0 8 _ (by decide) (by omega) rfl (of_decide_eq_true (by kernel_rfl)))
    clear hF
    refine ⟨?_, ?_, ?_, ?_, ?_, ?_, ?_, ?_, ?_, ?_, trivial⟩
    · intro w1 hb hd K hK
      have e4 := E4
      exact op_val (v := (.slice (some ⟨p4, 0, none⟩) 4 4)) rfl (by simp only [execOp, List.map_toArray, List.map_cons, List.map_nil, e4]; go_simp) (hK _ _ (show _ = _ from rfl) ((grBlk p0 p4 34 C1 C2).refl _))
    · intro w1 hb hd K hK
      have e4 := E4
      exact op_val (v := (.slice (some ⟨p4, 0, none⟩) 4 4)) rfl (by simp only [execOp, List.map_toArray, List.map_cons, List.map_nil, e4]; go_simp) (hK _ _ (show _ = _ from rfl) ((grBlk p0 p4 34 C1 C2).refl _))
    · intro w1 hb hd K hK
      refine op_call (R := fun v w2 => v = (.agg OB) ∧ Below w1.heap.size w1 w2) (f := 21) (args := #[.int .i64 10, .int .i64 60]) rfl (by simp only [execOp]; go_simp) ((WB.out w1).mono fun e w2 hh => ⟨_, hh.1, rfl, hh.2⟩) (fun v w2 hh => hK _ _ hh.1 (grBlk_below hh.2 (Nat.le_trans hBW hb.1.size)))
    · intro w1 hb hd K hK
      refine op_call (R := fun v w2 => v = (.agg OC) ∧ Below w1.heap.size w1 w2) (f := 21) (args := #[.int .i64 9, .int .i64 40]) rfl (by simp only [execOp]; go_simp) ((WC.out w1).mono fun e w2 hh => ⟨_, hh.1, rfl, hh.2⟩) (fun v w2 hh => hK _ _ hh.1 (grBlk_below hh.2 (Nat.le_trans hBW hb.1.size)))
    · intro w1 hb hd K hK
      have e24 := D24.trans (show u 0 = (.slice (some ⟨p4, 0, none⟩) 4 4) from hd ⟨0, .data⟩ (by simp) rfl (by omega))
      exact op_val (v := (.pointer (some ⟨p4, 33, none⟩))) rfl (by simp only [execOp, List.map_toArray, List.map_cons, List.map_nil, e24]; go_simp) (hK _ _ (show _ = _ from rfl) ((grBlk p0 p4 34 C1 C2).refl _))
    · intro w1 hb hd K hK
      have e28 := D28.trans (show u 4 = (.pointer (some ⟨p4, 33, none⟩)) from hd ⟨4, .data⟩ (by simp) rfl (by omega))
      exact op_val (v := (.pointer (some ⟨p4, 40, none⟩))) rfl (by simp only [execOp, List.map_toArray, List.map_cons, List.map_nil, e28]; go_simp) (hK _ _ (show _ = _ from rfl) ((grBlk p0 p4 34 C1 C2).refl _))
    · intro w1 hb hd K hK
      have e29 := D29.trans (show u 5 = (.pointer (some ⟨p4, 40, none⟩)) from hd ⟨5, .data⟩ (by simp) rfl (by omega))
      exact op_val (v := (.pointer (some ⟨p4, 40, none⟩))) rfl (by simp only [execOp, List.map_toArray, List.map_cons, List.map_nil, e29]; go_simp) (hK _ _ (show _ = _ from rfl) ((grBlk p0 p4 34 C1 C2).refl _))
    · intro w1 hb hd K hK
      have e30 := D30.trans (show u 6 = (.pointer (some ⟨p4, 40, none⟩)) from hd ⟨6, .data⟩ (by simp) rfl (by omega))
      have e26 := D26.trans (show u 2 = (.agg OB) from hd ⟨2, .data⟩ (by simp) rfl (by omega))
      have hor := hb.2.2.2 hBlk
      have st := storeAt_run (T := 30) (w := w1) (b := p4) (off := 40) (C := OB) (by rw [HOB.out.1]; kernel_rfl) (fun j hj => by rw [HOB.out.1] at hj; rcases hor with h | h; exact blk_cell h (40 + j) (by rw [HC.out.2.1]; omega); exact blk_cell h (40 + j) (by rw [HC.out.2.2.1]; omega)) (fun j hj => by rcases hor with h | h <;> exact h.free _) HOB.out.2.1
      have hs := grBlk_put (vs := OB.toList) hBb hor HP.out.2.1 HP.out.2.2.1
      exact op_skip (w' := w1.setCells p4 40 OB.toList) rfl rfl (exec_store rfl e30 e26 st) (hK _ _ hs.1 hs.2)
    · intro w1 hb hd K hK
      have e25 := D25.trans (show u 1 = (.slice (some ⟨p4, 0, none⟩) 4 4) from hd ⟨1, .data⟩ (by simp) rfl (by omega))
      exact op_val (v := (.pointer (some ⟨p4, 33, none⟩))) rfl (by simp only [execOp, List.map_toArray, List.map_cons, List.map_nil, e25]; go_simp) (hK _ _ (show _ = _ from rfl) ((grBlk p0 p4 34 C1 C2).refl _))
    · intro w1 hb hd K hK
      have e31 := D31.trans (show u 8 = (.pointer (some ⟨p4, 33, none⟩)) from hd ⟨8, .data⟩ (by simp) rfl (by omega))
      exact op_val (v := (.pointer (some ⟨p4, 40, none⟩))) rfl (by simp only [execOp, List.map_toArray, List.map_cons, List.map_nil, e31]; go_simp) (hK _ _ (show _ = _ from rfl) ((grBlk p0 p4 34 C1 C2).refl _))
  have hv24 : u 0 = (.slice (some ⟨p4, 0, none⟩) 4 4) := (show u 0 = _ from hsF 0 (by omega) (by omega))
  have hv25 : u 1 = (.slice (some ⟨p4, 0, none⟩) 4 4) := (show u 1 = _ from hsF 1 (by omega) (by omega))
  have hv26 : u 2 = (.agg OB) := (show u 2 = _ from hsF 2 (by omega) (by omega))
  have hv27 : u 3 = (.agg OC) := (show u 3 = _ from hsF 3 (by omega) (by omega))
  have hv28 : u 4 = (.pointer (some ⟨p4, 33, none⟩)) := (show u 4 = _ from hsF 4 (by omega) (by omega))
  have hv29 : u 5 = (.pointer (some ⟨p4, 40, none⟩)) := (show u 5 = _ from hsF 5 (by omega) (by omega))
  have hv30 : u 6 = (.pointer (some ⟨p4, 40, none⟩)) := (show u 6 = _ from hsF 6 (by omega) (by omega))
  have hst1 : Blk w' p4 34 C2 := hsF 7 (by omega) (by omega)
  have hv31 : u 8 = (.pointer (some ⟨p4, 33, none⟩)) := (show u 8 = _ from hsF 8 (by omega) (by omega))
  have hv32 : u 9 = (.pointer (some ⟨p4, 40, none⟩)) := (show u 9 = _ from hsF 9 (by omega) (by omega))
  simp only [putRow, hv24, hv25, hv26, hv27, hv28, hv29, hv30, hv31, hv32, Act.put, List.setIfInBounds_toArray, List.set_cons_succ, List.set_cons_zero]
  clear hsF hv24 hv25 hv26 hv27 hv28 hv29 hv30 hv31 hv32
  have HB8 := Lib.hid hst1
  have HZ8 := Lib.hid (hbF.2.1 p0 _ _ HL2.out.1 HZ7.out)
  have HS8 := Lib.hid (hbF.2.1 p2 _ _ HL2.out.2.1 HS7.out)
  have HR8 := Lib.hid (hbF.2.1 p1 _ _ HL2.out.2.2.2.2.1 HR7.out)
  have HW8 := Lib.hid (HW7.out.trans hbF.1)
  clear hst1 hBlk HZ7 HS7 HR7 HW7 hbF hBW hBb WB WC HOB
  clear W9
  have st := storeAt_run (T := 30) (w := w') (b := p4) (off := 46) (C := OC) (by rw [HOC.out.1]; kernel_rfl) (fun j hj => by rw [HOC.out.1] at hj; exact blk_cell HB8.out (46 + j) (by rw [HC.out.2.2.1]; omega)) (fun j hj => HB8.out.free _) HOC.out.2.1
  refine rest_forced 2 (by kernel_rfl) ?_
  simp only [List.drop_succ_cons, List.drop_zero, List.take_succ_cons, List.take_zero]
  go_wp2_with (refine op_store (p := .pointer (some ⟨p4, 46, none⟩)) (C := .agg OC) 30 (.tmp 33) (.tmp 27) rfl rfl rfl rfl rfl st ?_)
  clear st
  refine rest_done rfl ?_
  have hb9 := Blk.putC OC.toList 46 w' _ HB8.out
  rw [HP.out.2.2.2.1] at hb9
  have HB9 := Lib.hid hb9
  have HZ9 := Lib.hid (Blk.otherCells (b' := p4) HL2.out.1 OC.toList 46 w' HZ8.out)
  have HS9 := Lib.hid (Blk.otherCells (b' := p4) HL2.out.2.1 OC.toList 46 w' HS8.out)
  have HR9 := Lib.hid (Blk.otherCells (b' := p4) HL2.out.2.2.2.2.1 OC.toList 46 w' HR8.out)
  have HW9 := Lib.hid (Below.setCells' (b := p4) HL2.out.2.2.1 OC.toList 46 w' HW8.out)
  clear HB8 HZ8 HS8 HR8 HW8 hb9 HOC
  go_upto_region 6 with fail
  generalize w'.setCells p4 46 OC.toList = WB at *
  have st := storeAt_run (T := 32) (w := WB) (b := p4) (off := 97) (C := #[.int .i64 60, .int .i64 40]) (by kernel_rfl) (fun j hj => by have hj2 : j < 2 := hj; exact blk_cell HB9.out (97 + j) (by rw [HC.out.2.2.2.1]; omega)) (fun j hj => HB9.out.free _) (by simp [Value.oneCell'])
  have hba := Blk.putC [.int .i64 60, .int .i64 40] 97 WB _ HB9.out
  rw [HP.out.2.2.2.2] at hba
  have HBA := Lib.hid hba
  have HZA := Lib.hid (Blk.otherCells (b' := p4) HL2.out.1 [.int .i64 60, .int .i64 40] 97 WB HZ9.out)
  have HSA := Lib.hid (Blk.otherCells (b' := p4) HL2.out.2.1 [.int .i64 60, .int .i64 40] 97 WB HS9.out)
  have HRA := Lib.hid (Blk.otherCells (b' := p4) HL2.out.2.2.2.2.1 [.int .i64 60, .int .i64 40] 97 WB HR9.out)
  have HWA := Lib.hid (Below.setCells' (b := p4) HL2.out.2.2.1 [.int .i64 60, .int .i64 40] 97 WB HW9.out)
  clear HB9 HZ9 HS9 HR9 HW9 hba
  go_upto_region 7 with (refine op_store (p := .pointer (some ⟨p4, 97, none⟩)) (C := .agg #[.int .i64 60, .int .i64 40]) 32 (.tmp 37) (.tmp 35) rfl rfl rfl rfl rfl st ?_)
  clear st
  generalize WB.setCells p4 97 #[.int .i64 60, .int .i64 40].toList = WC at *
  have la := loadAt_blk (T := 26) HSA.out Tryz.underlying26 rfl (by kernel_rfl)
  have st := storeAt_row (T := 26) (C := #[.int .i64 0, .int .i64 0, .int .i64 0, .int .i64 0, .int .i64 0, .slice (some ⟨p1, 0, none⟩) 2 2, .int .i64 2]) HZA.out (by kernel_rfl) rfl (by kernel_rfl)
  have HF := Lib.hid (HZA.out.row #[.int .i64 0, .int .i64 0, .int .i64 0, .int .i64 0, .int .i64 0, .slice (some ⟨p1, 0, none⟩) 2 2, .int .i64 2])
  have HRF := Lib.hid (HRA.out.row_other (b' := p0) (by have := HL2.out; omega) #[.int .i64 0, .int .i64 0, .int .i64 0, .int .i64 0, .int .i64 0, .slice (some ⟨p1, 0, none⟩) 2 2, .int .i64 2])
  have HBF := Lib.hid (HBA.out.row_other (b' := p0) (by have := HL2.out; omega) #[.int .i64 0, .int .i64 0, .int .i64 0, .int .i64 0, .int .i64 0, .slice (some ⟨p1, 0, none⟩) 2 2, .int .i64 2])
  have HX := Lib.hid (Below.setRow' (Nat.le_refl _) HWA.out #[.int .i64 0, .int .i64 0, .int .i64 0, .int .i64 0, .int .i64 0, .slice (some ⟨p1, 0, none⟩) 2 2, .int .i64 2])
  clear HZA HSA HRA HBA HWA
  go_wp2_with (first
    | refine op_load (p := .pointer (some ⟨p2, 0, none⟩)) 26 (.tmp 2) rfl rfl rfl la ?_
    | refine op_store (p := .pointer (some ⟨p0, 0, none⟩)) (C := .agg #[.int .i64 0, .int .i64 0, .int .i64 0, .int .i64 0, .int .i64 0, .slice (some ⟨p1, 0, none⟩) 2 2, .int .i64 2]) 26 (.tmp 0) (.tmp 38) rfl rfl rfl rfl rfl st ?_)
  clear la st
  generalize WC.setRow p0 #[.int .i64 0, .int .i64 0, .int .i64 0, .int .i64 0, .int .i64 0, .slice (some ⟨p1, 0, none⟩) 2 2, .int .i64 2] = WF at *
  have lf := loadVar_blk (T := 26) HF.out Tryz.underlying26 rfl (by kernel_rfl)
  (try simp only [Exit.inBlock, Exit.then])
  refine bodyPost_ret (results_cell_tmp Tryz.results20 rfl rfl lf) rfl ?_
  exact ⟨⟨_, _, rfl, ls_of_blk (enc := rwC) (l := exRows) rwC_size 2 2 HRF.out rfl rfl (Nat.le_refl _), ls_of_blk (enc := enC) (l := exL) enC_size 4 4 HBF.out HE.out rfl (Nat.le_refl _)⟩, by rw [hp0]; exact HX.out⟩
end Go.Proofs.YtpkmibmombpjpaaGreatDoor
