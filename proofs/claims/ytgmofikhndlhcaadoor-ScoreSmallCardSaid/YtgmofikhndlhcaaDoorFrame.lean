/- From the listed variables to the cells of the tables; the heap that the program's door leaves meets the list. -/
import Derived.Test.YtgmofikhndlhcaaDoorRows
import Derived.Test.YtgmofikhndlhcaaDoorWrite
import Derived.ProofKit
import Derived.LaidMore
import Derived.LaidSub
import Derived.OpenShut
import Derived.Stop.Joined
import Derived.Lib.LaidTab
namespace Go.Proofs.YtgmofikhndlhcaaDoor
open Go.ChangeShapes Go.WideShapes Go.ChangeAt Go.RowKit

theorem own : ownKnob Tryd.prog.godebug = none := by kernel_rfl
/-- What the rows list. -/
def laids : List (String × DataW Unit) := [("math/bits.deBruijn32tab", Rows.laid_math_bits_deBruijn32tab), ("math/bits.deBruijn64tab", Rows.laid_math_bits_deBruijn64tab), ("internal/strconv.uint64pow10", Rows.laid_internal_strconv_uint64pow10), ("finesse/score.value", Rows.laid_finesse_score_value), ("finesse/score.factor", Rows.laid_finesse_score_factor), ("finesse/score.insult", Rows.laid_finesse_score_insult), ("finesse/score.more", Rows.laid_finesse_score_more)]
theorem gVal : Tryd.prog.globalNamed "finesse/score.value" = some 0 := by kernel_rfl
theorem gFac : Tryd.prog.globalNamed "finesse/score.factor" = some 1 := by kernel_rfl
theorem gIns : Tryd.prog.globalNamed "finesse/score.insult" = some 3 := by kernel_rfl
theorem gMore : Tryd.prog.globalNamed "finesse/score.more" = some 2 := by kernel_rfl
theorem tVal : (Tryd.prog.globals[0]?).map (·.type) = some 75 := by kernel_rfl
theorem tFac : (Tryd.prog.globals[1]?).map (·.type) = some 76 := by kernel_rfl
theorem tIns : (Tryd.prog.globals[3]?).map (·.type) = some 76 := by kernel_rfl
theorem tMore : (Tryd.prog.globals[2]?).map (·.type) = some 77 := by kernel_rfl
theorem tPow : (Tryd.prog.globals[5]?).map (·.type) = some 107 := by kernel_rfl
theorem cInt : Tryd.prog.cellsOf 3 = 1 := by kernel_rfl
theorem cU64 : Tryd.prog.cellsOf 95 = 1 := by kernel_rfl
theorem c5 : Tryd.prog.cellsOf 75 = 5 := by kernel_rfl
theorem c3 : Tryd.prog.cellsOf 76 = 3 := by kernel_rfl
theorem c20 : Tryd.prog.cellsOf 107 = 20 := by kernel_rfl
theorem c32 : Tryd.prog.cellsOf 77 = 6 := by kernel_rfl
theorem c2 : Tryd.prog.cellsOf 73 = 2 := by kernel_rfl
def moreZ (r : Nat) : List Int := if r = 0 then [0, 0] else if r = 1 then [100, 200] else [200, 400]
theorem more_cells {W : World} (h : laidMet Tryd.prog [("finesse/score.more", Rows.laid_finesse_score_more)] W) (r : Nat) (hr : r < 3) (v : Nat) (hv : v < 2) :
    W.cell? ⟨2, r * 2 + v, none⟩ = some (.int .i64 ((moreZ r).getD v 0)) := by
  obtain ⟨ps, ⟨g', t', cs, fuel, p, q, hg', ht', hvar, hd, _, _⟩, _⟩ := h
  obtain rfl := Option.some.inj (gMore.symm.trans hg')
  obtain rfl := Option.some.inj (tMore.symm.trans ht')
  obtain ⟨xs, m, _, hx, hl, hxl, hel⟩ := DataW.trod_array Tryd.underlying77 hd
  have hx1 : xs.map (·.1) = [Lib.tabData .i64 (moreZ 0), Lib.tabData .i64 (moreZ 1), Lib.tabData .i64 (moreZ 2)] := by
    have := congrArg Prod.fst hx
    injection this with this
    exact this.symm
  have he := hel r hr
  obtain ⟨y, hy⟩ : ∃ y, xs[r]? = some y := ⟨_, List.getElem?_eq_getElem (by omega)⟩
  have hy1 : y.1 = Lib.tabData .i64 (moreZ r) := by
    have h1 : (xs.map (·.1))[r]? = some y.1 := by simp [hy]
    rw [hx1] at h1
    rcases (by omega : r = 0 ∨ r = 1 ∨ r = 2) with rfl | rfl | rfl <;> simpa using h1.symm
  rw [hy] at he
  have hc := Lib.cells_of_tab (zs := moreZ r) (p := y.2) Tryd.underlying73 Tryd.underlying3 cInt c2 (by rw [he, ← hy1])
  rw [c2] at hc
  have h3 := congrArg (·[v]?) hc
  have hml : (moreZ r).length = 2 := by unfold moreZ; split; rfl; split <;> rfl
  simp only [List.getElem?_take, List.getElem?_drop, List.getElem?_map, if_pos hv] at h3
  rw [World.var?_cell gMore hvar, show r * 2 + v = r * 2 + v from rfl]
  have h4 : cs.toList[r * 2 + v]? = some (Value.int .i64 ((moreZ r).getD v 0)) := by
    rw [h3, List.getElem?_eq_getElem (by omega)]
    simp [List.getD, List.getElem?_eq_getElem (show v < (moreZ r).length by omega)]
  simpa using h4
theorem env_of_laid {W : World} (h : laidMetH Tryd.prog laids W) : Env W := by
  rw [MakeChecks.laidMetH_plain _ _ _ (by kernel_rfl)] at h
  have h0 : laidMet Tryd.prog [("internal/strconv.uint64pow10", Lib.tabData .u64 Lib.pow10Tab)] W := h.filter (fun x => x.1 == "internal/strconv.uint64pow10")
  have h1 : laidMet Tryd.prog [("finesse/score.value", Lib.tabData .i64 [20, 20, 30, 30, 30])] W := h.filter (fun x => x.1 == "finesse/score.value")
  have h2 : laidMet Tryd.prog [("finesse/score.factor", Lib.tabData .i64 [1, 2, 4])] W := h.filter (fun x => x.1 == "finesse/score.factor")
  have h3 : laidMet Tryd.prog [("finesse/score.insult", Lib.tabData .i64 [0, 50, 100])] W := h.filter (fun x => x.1 == "finesse/score.insult")
  have h4 : laidMet Tryd.prog [("finesse/score.more", Rows.laid_finesse_score_more)] W := h.filter (fun x => x.1 == "finesse/score.more")
  have t0 := Lib.tabIs_of_head gPow tPow Tryd.underlying107 Tryd.underlying95 cU64 c20 h0
  have t1 := Lib.tabIs_of_head gVal tVal Tryd.underlying75 Tryd.underlying3 cInt c5 h1
  have t2 := Lib.tabIs_of_head gFac tFac Tryd.underlying76 Tryd.underlying3 cInt c3 h2
  have t3 := Lib.tabIs_of_head gIns tIns Tryd.underlying76 Tryd.underlying3 cInt c3 h3
  refine ⟨⟨fun d hd => ?_, fun r hr => ?_, fun r hr => ?_, fun r hr v => ?_⟩, t0⟩
  · have := t1.cell gVal d (by simpa using hd)
    rcases (by omega : d = 0 ∨ d = 1 ∨ d = 2 ∨ d = 3 ∨ d = 4) with rfl | rfl | rfl | rfl | rfl <;> exact this
  · have := t2.cell gFac r (by simpa using hr)
    rcases (by omega : r = 0 ∨ r = 1 ∨ r = 2) with rfl | rfl | rfl <;> exact this
  · have := t3.cell gIns r (by simpa using hr)
    rcases (by omega : r = 0 ∨ r = 1 ∨ r = 2) with rfl | rfl | rfl <;> exact this
  · have := more_cells h4 r hr (b01 v) (by cases v <;> decide)
    rw [this]
    cases v <;> rcases (by omega : r = 0 ∨ r = 1 ∨ r = 2) with rfl | rfl | rfl <;> rfl
theorem door_met (os : Os) (args : Array Value) : laidMetH Tryd.prog laids ((World.doorLaid Tryd.prog 400 os).forCall (fun _ _ => 0) ⟨#[], args, []⟩).memory :=
  laidMetH_of_parts3 (fuel := 8) (laidMet_of_run' 8 (by kernel_rfl) (by kernel_rfl)) (by kernel_rfl) (by kernel_rfl)
theorem nat_of_u32 {n : Int} (h : (Lit.int .u32 n).wf = true) : ∃ b : Nat, n = (b : Int) := by
  have := bounds_u32 h
  exact ⟨n.toNat, by omega⟩
theorem u32_lt {b : Nat} (h : (Lit.int .u32 (b : Int)).wf = true) : b < 4294967296 := by
  have := bounds_u32 h
  omega
theorem nat_of_u8 {n : Int} (h : (Lit.int .u8 n).wf = true) : ∃ b : Nat, n = (b : Int) := by
  have := bounds_u8 h
  exact ⟨n.toNat, by omega⟩
theorem u8_lt {b : Nat} (h : (Lit.int .u8 (b : Int)).wf = true) : b < 256 := by
  have := bounds_u8 h
  omega
end Go.Proofs.YtgmofikhndlhcaaDoor
