/- From the listed variables of FracSmall, the variable edges among them, to what its walk asks of the world. -/
import Derived.Test.YtfhkgpipbegpgaaGreatDoorFrame
import Derived.Test.YtfhkgpipbegpgaaGreatDoorSumM
namespace Go.Proofs.YtfhkgpipbegpgaaGreatDoor
open Go Go.ChangeShapes Go.WideShapes Go.ChangeAt Go.RowKit

def laidsS : List (String × DataW Unit) := [("math/bits.deBruijn32tab", Rows.laid_math_bits_deBruijn32tab), ("math/bits.deBruijn64tab", Rows.laid_math_bits_deBruijn64tab), ("internal/strconv.uint64pow10", Rows.laid_internal_strconv_uint64pow10), ("strconv.ErrRange", Rows.laid_strconv_ErrRange), ("strconv.ErrSyntax", Rows.laid_strconv_ErrSyntax), ("finesse/finesselaw01.edges", Rows.laid_finesse_finesselaw01_edges)]
theorem gEdg : Tryz.prog.globalNamed "finesse/finesselaw01.edges" = some 0 := by kernel_rfl
theorem tEdg : (Tryz.prog.globals[0]?).map (·.type) = some 29 := by kernel_rfl
theorem cInt : Tryz.prog.cellsOf 3 = 1 := by kernel_rfl
theorem spot_none {W : World} {a : Addr} {v : Value} (h : W.cell? a = some v) : a.spot = none := by
  unfold World.cell? at h
  rcases hs : a.spot with _ | s
  · rfl
  · rw [hs] at h
    split at h
    · simp at h
    · cases h
set_option maxRecDepth 100000 in
theorem edges_of {W : World} (h : laidMet Tryz.prog [("finesse/finesselaw01.edges", Rows.laid_finesse_finesselaw01_edges)] W) : ∃ eb eo ec, Edges W eb eo ec (fun i => edgeL.getD i 0) := by
  obtain ⟨ps, ⟨g', t', cs, fuel, p, q, hg', ht', hvar, hd, _, _⟩, _⟩ := h
  obtain rfl := Option.some.inj (gEdg.symm.trans hg')
  obtain rfl := Option.some.inj (tEdg.symm.trans ht')
  rw [show (Rows.laid_finesse_finesselaw01_edges : DataW Unit) = .slice (edgeL.map fun z => .lit (.int .i64 z)) [] from rfl] at hd
  obtain ⟨a, cap, hcs, hl, hi⟩ := open_row Tryz.underlying29 cInt hd
  have hcell : ∀ i, i < 24 → W.cell? (a.add i) = some (.int .i64 (edgeL.getD i 0)) := fun i hi24 => by
    have hz : edgeL[i]? = some (edgeL.getD i 0) := by
      rw [List.getD_eq_getElem?_getD]
      rw [List.getElem?_eq_getElem (show i < edgeL.length from hi24)]
      rfl
    obtain ⟨v, n, q, hv, ht⟩ := hi i (.lit (.int .i64 (edgeL.getD i 0))) (by rw [List.getElem?_map, hz]; rfl)
    obtain ⟨x, e0, e1, _⟩ := DataW.trod_int Tryz.underlying3 ht
    simp only [List.cons.injEq, and_true] at e0
    subst e0
    simp only [Prod.mk.injEq, DataW.lit.injEq, Lit.int.injEq, true_and] at e1
    rw [hv, e1.1]
  obtain ⟨b, o, sp⟩ := a
  have hs := spot_none (hcell 0 (by decide))
  have hsp : sp = none := by
    unfold Addr.add at hs
    simpa using hs
  subst hsp
  refine ⟨b, o, cap, ?_, fun i hi24 => ?_, edge_bd⟩
  · have hcs' : cs = #[.slice (some ⟨b, o, none⟩) 24 cap] := by rw [← Array.toArray_toList (xs := cs), hcs]; rfl
    rw [hcs'] at hvar
    have := World.var?_cell gEdg hvar 0
    simpa using this
  · have := hcell i hi24
    rwa [add_at] at this
theorem env_of_laidS {W : World} (h : laidMetH Tryz.prog laidsS W) (hsh : W.ShapedOpen Tryz.prog) : Env W :=
  env_of_laid (h.filter (fun x => x.1 != "finesse/finesselaw01.edges")) hsh
theorem edges_of_laidS {W : World} (h : laidMetH Tryz.prog laidsS W) : ∃ eb eo ec, Edges W eb eo ec (fun i => edgeL.getD i 0) := by
  rw [MakeChecks.laidMetH_plain _ _ _ (by kernel_rfl)] at h
  exact edges_of (h.filter (fun x => x.1 == "finesse/finesselaw01.edges"))
theorem door_metS (os : Os) (args : Array Value) : laidMetH Tryz.prog laidsS ((World.doorLaid Tryz.prog 400 os).forCall (fun _ _ => 0) ⟨#[], args, []⟩).memory :=
  laidMetH_of_parts3 (fuel := 8) (laidMet_of_run' 8 (by kernel_rfl) (by kernel_rfl)) (by kernel_rfl) (by kernel_rfl)
end Go.Proofs.YtfhkgpipbegpgaaGreatDoor
