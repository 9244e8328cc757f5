/- Loads and stores of a whole block of many cells, in one step. -/
import Derived.Test.YtpkmibmombpjpaaGreatDoorOwn
import Derived.Laws.IdiomCopy
import Derived.Laws.Tables
import Derived.Deep.Quiet
namespace Go.Proofs.YtpkmibmombpjpaaGreatDoor
open Go Go.RowKit

theorem Blk.row {w : World} {b : Nat} {t : TypeId} {c : Array Value} (h : Blk w b t c) (d : Array Value) : Blk (w.setRow b d) b t d := by
  have hlt := h.lt
  have h' : w.heap[b] = .cells c t (0, 0) := by simpa [Array.getElem?_eq_getElem hlt] using (show w.heap[b]? = _ from h)
  show (w.heap.modify b _)[b]? = _
  rw [Array.getElem?_eq_getElem (by simpa using hlt), Array.getElem_modify_self, h']
theorem Blk.row_other {w : World} {b b' : Nat} {t : TypeId} {c : Array Value} (h : Blk w b t c) (hb : b ≠ b') (d : Array Value) : Blk (w.setRow b' d) b t c := by
  show (w.heap.modify b' _)[b]? = _
  rw [Array.getElem?_modify, if_neg (fun e => hb e.symm)]
  exact h
theorem Below.setRow' {B b : Nat} {w0 w : World} (hb : B ≤ b) (h : Below B w0 w) (C : Array Value) : Below B w0 (w.setRow b C) := by
  refine ⟨h.1, h.2, h.3, by simpa [World.setRow] using h.4, fun i hi => ?_⟩
  rw [show (w.setRow b C).heap[i]? = w.heap[i]? by
    unfold World.setRow
    rw [Array.getElem?_modify, if_neg (by omega)]]
  exact h.5 i hi
/-- All cells of a block are loaded. -/
theorem load_blk {w : World} {b n : Nat} {t : TypeId} {C : Array Value} (h : Blk w b t C) (hn : C.size = n) : Sem.run Tryz.prog (loadCellsFrom ⟨b, 0, none⟩ 0 n #[]) w = .ok C w := by
  subst hn
  have := run_loadCells_list (P := Tryz.prog) (w := w) ⟨b, 0, none⟩ C.toList (fun j v hj => by
    rw [add_at, Nat.zero_add]
    exact h.cell (by simpa using hj))
  unfold loadCells at this
  simpa using this
/-- Cells from a place on. -/
theorem load_at {w : World} {b off : Nat} {C : List Value} (h : ∀ j v, C[j]? = some v → w.cell? ⟨b, off + j, none⟩ = some v) : Sem.run Tryz.prog (loadCellsFrom ⟨b, off, none⟩ 0 C.length #[]) w = .ok C.toArray w := by
  have := run_loadCells_list (P := Tryz.prog) (w := w) ⟨b, off, none⟩ C (fun j v hj => by
    rw [add_at]
    exact h j v hj)
  unfold loadCells at this
  exact this
/-- What a load of an aggregate gives. -/
theorem loadAt_run {w : World} {T : TypeId} {b off : Nat} {C : Array Value} {d : TypeDesc} (hu : Tryz.prog.underlying T = some d) (hd : (match d with | .struct _ | .array _ _ => true | _ => false) = true) (hi : (Tryz.prog.info? T).map (·.size) = some C.size)
    (h : ∀ j v, C[j]? = some v → w.cell? ⟨b, off + j, none⟩ = some v) : (Instr.loadAt T (.pointer (some ⟨b, off, none⟩))).run Tryz.prog w = .ok (.agg C) w := by
  have hl := load_at (w := w) (b := b) (off := off) (C := C.toList) (fun j v hj => h j v (by simpa using hj))
  have hagg : (isAgg T).run Tryz.prog w = .ok true w := by
    unfold isAgg
    rw [Sem.run_bind, run_underlying hu w]
    cases d <;> simp_all
  cases hq : Tryz.prog.info? T with
  | none => simp [hq] at hi
  | some i =>
    have hs : i.size = C.size := by simpa [hq] using hi
    simp only [Array.length_toList, Array.toArray_toList] at hl
    simp [Instr.loadAt, Instr.sureAddr, loadVar, loadCells, Sem.run_bind, hagg, sizeOf, typeInfo, hq, hs, hl]
theorem exec_load {o : Oper} {w : World} {T : TypeId} {s : Operand} {a : Act} {p C : Value} (ho : o.op = .load T s) (hs : a.eval s = p) (h : (Instr.loadAt T p).run Tryz.prog w = .ok C w) : (execOp a.eval o).run Tryz.prog w = .ok (.value C) w := by
  subst hs
  simp only [execOp, ho, Sem.run_bind, h, Result.andThen_ok, Sem.run_pure]
/-- .. in a walk. -/
theorem op_load {ops : Array Oper} {rest : List Oper} {o : Oper} {a : Act} {Q : Exit → Act → World → Prop} {w : World} {p C : Value} (T : TypeId) (s : Operand) (hg : o.guard = none) (ho : o.op = .load T s) (hs : a.eval s = p) (hr : (Instr.loadAt T p).run Tryz.prog w = .ok C w)
    (h : wpList Tryz.prog ops Q rest (a.put o.dst C) w) : wpList Tryz.prog ops Q (o :: rest) a w := by
  refine wpList_plain hg fun K hK => ?_
  unfold Oper.wp
  rw [exec_load ho hs hr, Oper.upon_value]
  exact hK _ _ h
/-- .. in a quiet walk. -/
theorem q_load {ops : Array Oper} {rest : List Oper} {o : Oper} {a : Act} {Cl : World → Prop} {Q : Act → Prop} {p C : Value} (T : TypeId) (s : Operand) (hg : o.guard = none) (ho : o.op = .load T s) (hs : a.eval s = p) (hr : ∀ w, Cl w → (Instr.loadAt T p).run Tryz.prog w = .ok C w)
    (h : wpQuiet Tryz.prog ops Cl Q rest (a.put o.dst C)) : wpQuiet Tryz.prog ops Cl Q (o :: rest) a := by
  unfold wpQuiet
  rw [if_pos (by simp [Region.wanted, hg])]
  refine ⟨C, fun w hw => ?_, h⟩
  unfold Oper.quietAt
  rw [exec_load ho hs (hr w hw)]
  exact ⟨rfl, rfl⟩
theorem storeAt_run {w : World} {T : TypeId} {b off : Nat} {C : Array Value} (hi : (Tryz.prog.info? T).map (·.size) = some C.size) (hc : ∀ j, j < C.size → (w.cell? ⟨b, off + j, none⟩).isSome = true) (hf : ∀ j, j < C.size → w.frozen? ⟨b, off + j, none⟩ = false) (h1 : ∀ v ∈ C.toList, v.oneCell' = true) :
    (Instr.storeAt T (.pointer (some ⟨b, off, none⟩)) (.agg C)).run Tryz.prog w = .ok () (w.setCells b off C.toList) := by
  have hst := run_storeCells_cells (P := Tryz.prog) b off C.toList 0 w (by simpa using hc) (by simpa using hf) h1
  cases hq : Tryz.prog.info? T with
  | none => simp [hq] at hi
  | some i =>
    have hs : C.size = i.size := by simp [hq] at hi; omega
    simp [Instr.storeAt, Instr.sureAddr, storeVar, sizeOf, typeInfo, hq, Value.cells, hs, Sem.run_bind, hst]
theorem exec_store {o : Oper} {w w' : World} {T : TypeId} {s x : Operand} {a : Act} {p C : Value} (ho : o.op = .store T s x) (hs : a.eval s = p) (hx : a.eval x = C) (h : (Instr.storeAt T p C).run Tryz.prog w = .ok () w') : (execOp a.eval o).run Tryz.prog w = .ok .skip w' := by
  subst hs hx
  simp only [execOp, ho, Sem.run_bind, h, Result.andThen_ok, Sem.run_pure]
theorem op_store {ops : Array Oper} {rest : List Oper} {o : Oper} {a : Act} {Q : Exit → Act → World → Prop} {w w' : World} {p C : Value} (T : TypeId) (s x : Operand) (hg : o.guard = none) (hd : o.dst = none) (ho : o.op = .store T s x) (hs : a.eval s = p) (hx : a.eval x = C) (hr : (Instr.storeAt T p C).run Tryz.prog w = .ok () w')
    (h : wpList Tryz.prog ops Q rest a w') : wpList Tryz.prog ops Q (o :: rest) a w := by
  refine wpList_plain hg fun K hK => ?_
  unfold Oper.wp
  rw [exec_store ho hs hx hr, Oper.upon_skip, hd]
  exact hK _ _ h
theorem storeAt_row {w : World} {T t : TypeId} {b : Nat} {old C : Array Value} (hB : Blk w b t old) (hi : (Tryz.prog.info? T).map (·.size) = some C.size) (hold : old.size = C.size) (h1 : C.all (·.oneCell') = true) :
    (Instr.storeAt T (.pointer (some ⟨b, 0, none⟩)) (.agg C)).run Tryz.prog w = .ok () (w.setRow b C) := by
  simp only [Instr.storeAt, Instr.sureAddr, Sem.run_bind, Sem.run_pure, Result.andThen_ok, run_storeVar_row w b t T old C hB hi hold h1]
theorem loadAt_blk {w : World} {T t : TypeId} {b : Nat} {C : Array Value} {d : TypeDesc} (hB : Blk w b t C) (hu : Tryz.prog.underlying T = some d) (hd : (match d with | .struct _ | .array _ _ => true | _ => false) = true) (hi : (Tryz.prog.info? T).map (·.size) = some C.size) : (Instr.loadAt T (.pointer (some ⟨b, 0, none⟩))).run Tryz.prog w = .ok (.agg C) w :=
  loadAt_run hu hd hi (fun j v hj => by rw [Nat.zero_add]; exact hB.cell hj)
theorem setRow_new (w : World) (t : TypeId) (c d : Array Value) : (w.alloc (.cells c t)).setRow w.heap.size d = w.alloc (.cells d t) := by
  unfold World.setRow World.alloc
  congr 1
  apply Array.ext_getElem?
  intro i
  rw [Array.getElem?_modify]
  by_cases h : w.heap.size = i
  · subst h; simp
  · rw [if_neg h, Array.getElem?_push, Array.getElem?_push, if_neg (fun e => h e.symm), if_neg (fun e => h e.symm)]
/-- An array in memory, sliced. -/
theorem slice_lo {T e : TypeId} {n size b off q : Nat} (hu : Tryz.prog.underlying T = some (.array n e)) (hs : ∀ w, (sizeOf e).run Tryz.prog w = .ok size w) (hq : q ≤ n) (w : World) :
    (Instr.sliceAt T (.pointer (some ⟨b, off, none⟩)) (some (.int .i64 (q : Int))) none none).run Tryz.prog w = .ok (.slice (some (if n = q then ⟨b, off, none⟩ else ⟨b, off + q * size, none⟩)) (n - q) (n - q)) w := by
  have h1 : (0 : Int) ≤ (q : Int) ∧ (q : Int) ≤ (n : Int) := by omega
  simp only [Instr.sliceAt, Sem.run_bind, run_underlying hu, Result.andThen_ok, Instr.sureAddr, Sem.run_pure, Instr.sliceBounds, run_sliceBound_if, h1, hs, and_self, if_true, Int.toNat_natCast]
  split <;> simp [add_at]
theorem slice_hi {T e : TypeId} {n size b off q : Nat} (hu : Tryz.prog.underlying T = some (.array n e)) (hs : ∀ w, (sizeOf e).run Tryz.prog w = .ok size w) (hq : q ≤ n) (w : World) :
    (Instr.sliceAt T (.pointer (some ⟨b, off, none⟩)) none (some (.int .i64 (q : Int))) none).run Tryz.prog w = .ok (.slice (some ⟨b, off, none⟩) q n) w := by
  have h1 : (0 : Int) ≤ (q : Int) ∧ (q : Int) ≤ (n : Int) := by omega
  simp [Instr.sliceAt, Sem.run_bind, run_underlying hu, Result.andThen_ok, Instr.sureAddr, Instr.sliceBounds, run_sliceBound_if, h1, hs, add_at]
theorem exec_slice {o : Oper} {w : World} {T : TypeId} {s : Operand} {lo hi mx : Option Operand} {a : Act} {p v : Value} {l h m : Option Value} (ho : o.op = .slice T s lo hi mx) (hs : a.eval s = p) (hl : lo.map a.eval = l) (hh : hi.map a.eval = h) (hm : mx.map a.eval = m) (hr : (Instr.sliceAt T p l h m).run Tryz.prog w = .ok v w) : (execOp a.eval o).run Tryz.prog w = .ok (.value v) w := by
  subst hs hl hh hm
  simp only [execOp, ho, Sem.run_bind, hr, Result.andThen_ok, Sem.run_pure]
theorem q_slice {ops : Array Oper} {rest : List Oper} {o : Oper} {a : Act} {Cl : World → Prop} {Q : Act → Prop} {p v : Value} {l h m : Option Value} (T : TypeId) (s : Operand) (lo hi mx : Option Operand) (hg : o.guard = none) (ho : o.op = .slice T s lo hi mx) (hs : a.eval s = p) (hl : lo.map a.eval = l) (hh : hi.map a.eval = h) (hm : mx.map a.eval = m)
    (hr : ∀ w, (Instr.sliceAt T p l h m).run Tryz.prog w = .ok v w) (hk : wpQuiet Tryz.prog ops Cl Q rest (a.put o.dst v)) : wpQuiet Tryz.prog ops Cl Q (o :: rest) a := by
  unfold wpQuiet
  rw [if_pos (by simp [Region.wanted, hg])]
  refine ⟨v, fun w hw => ?_, hk⟩
  unfold Oper.quietAt
  rw [exec_slice ho hs hl hh hm (hr w)]
  exact ⟨rfl, rfl⟩
/-- What is handed back out of a variable of many cells. -/
theorem loadVar_blk {w : World} {T t : TypeId} {b : Nat} {C : Array Value} {d : TypeDesc} (hB : Blk w b t C) (hu : Tryz.prog.underlying T = some d) (hd : (match d with | .struct _ | .array _ _ => true | _ => false) = true) (hi : (Tryz.prog.info? T).map (·.size) = some C.size) : (loadVar T ⟨b, 0, none⟩).run Tryz.prog w = .ok (.agg C) w := by
  have h := loadAt_blk hB hu hd hi
  simpa [Instr.loadAt, Instr.sureAddr, Sem.run_bind] using h
theorem results_cell {fn : Func} {tmps : Array Value} {a : Tmp} {t : TypeId} {p : Addr} {v : Value} {w : World} (hr : fn.results = #[.cell a t]) (ha : tmps.getD a undef = .pointer (some p)) (hl : (loadVar t p).run Tryz.prog w = .ok v w) : (results fn tmps).run Tryz.prog w = .ok v w := by
  unfold results
  rw [hr]
  simp only [Array.getD_eq_getD_getElem?] at ha
  simp [ha, hl, asAddr]
theorem results_cell_tmp {fn : Func} {tmps : Array Value} {a b : Tmp} {t : TypeId} {p : Addr} {v u : Value} {w : World} (hr : fn.results = #[.cell a t, .tmp b]) (ha : tmps.getD a undef = .pointer (some p)) (hb : tmps.getD b undef = u) (hl : (loadVar t p).run Tryz.prog w = .ok v w) : (results fn tmps).run Tryz.prog w = .ok (.tuple #[v, u]) w := by
  unfold results
  rw [hr]
  simp only [Array.getD_eq_getD_getElem?] at ha hb
  simp [ha, hb, hl, asAddr]
theorem op_build {ops : Array Oper} {rest : List Oper} {o : Oper} {a : Act} {w : World} {Q : Exit → Act → World → Prop} (t : TypeId) (parts : Array (Nat × Operand)) (C : Array Value) (hg : o.guard = none) (ho : o.op = .build t parts)
    (hC : Tryz.prog.built t (parts.map fun (i, x) => (i, a.eval x)).toList = some C) (h : wpList Tryz.prog ops Q rest (a.put o.dst (.agg C)) w) : wpList Tryz.prog ops Q (o :: rest) a w :=
  wpList_build hg t parts ho (by rw [hC]; rfl) (by rw [hC]; exact h)
end Go.Proofs.YtpkmibmombpjpaaGreatDoor
