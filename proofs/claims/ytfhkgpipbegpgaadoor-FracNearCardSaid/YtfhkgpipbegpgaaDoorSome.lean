/- The contracts of some (a fraction of two numbers of 16 bits), and of the closure of FracRing. -/
import Derived.Test.YtfhkgpipbegpgaaDoorAwake
import Derived.Test.YtfhkgpipbegpgaaDoorSumW
namespace Go.Proofs.YtfhkgpipbegpgaaDoor
open Go Go.RowKit

theorem mask_i64 (d : Int) : bits BinOp.and IntKind.i64 d 32767 = d % 32768 := by
  show IntKind.i64.wrap ((BitVec.ofInt 64 d &&& BitVec.ofInt 64 32767).toNat : Int) = _
  rw [BitVec.toNat_and, BitVec.toNat_ofInt, show (BitVec.ofInt 64 32767).toNat = 2 ^ 15 - 1 by decide, Nat.and_two_pow_sub_one_eq_mod, IntKind.wrap_i64]
  omega
/-- The fraction that some makes. -/
def someR (n d : Int) : Rat := Rat.divInt n (d % 32768 + 1)
theorem some_bd (n d : Int) (h0 : -32768 ≤ n) (h1 : n ≤ 32767) : Bd (someR n d) 32768 32768 := Bd.divInt (by omega) (by omega) (by omega)
theorem bd_fits {x : Rat} (h : Bd x 32768 32768) : fits x = true := h.fits (by decide) (by decide)
set_option maxRecDepth 100000 in
set_option maxHeartbeats 1000000 in
theorem some_any (n d : Int) (h0 : -32768 ≤ n) (h1 : n ≤ 32767) (h2 : -32768 ≤ d) (h3 : d ≤ 32767) (w : World) :
    Calls Tryd.prog 12 #[.int .i16 n, .int .i16 d] w (fun e w' => e = .returned (.agg #[.int .i64 (someR n d).num, .int .i64 ((someR n d).den : Nat)]) ∧ Below w.heap.size w w') := by
  obtain ⟨x, hx⟩ : ∃ x, someR n d = x := ⟨_, rfl⟩
  have hfit : fits x = true := hx ▸ bd_fits (some_bd n d h0 h1)
  have e1 := mask_i64 d
  obtain ⟨m, hm⟩ : ∃ m, d % 32768 = m := ⟨_, rfl⟩
  have b1 : 0 ≤ m ∧ m < 32768 := by omega
  have M : Hid (∀ w, Calls Tryd.prog 17 #[.int .i64 n, .int .i64 (m + 1)] w fun e w' => e = .returned (.tuple #[.agg #[.int .i64 x.num, .int .i64 (x.den : Nat)], .int .i64 0]) ∧ Below w.heap.size w w') := Lib.hid fun w => by
    have := make_any n (m + 1) ⟨by omega, by omega, by omega, by omega⟩ w
    rw [make_out _ _ (by omega), ← hm, show Rat.divInt n (d % 32768 + 1) = x from hx, outF_fits hfit, hm] at this
    exact this
  rw [hm] at e1
  rw [hx]
  have w1 : IntKind.i64.wrap n = n := IntWalk.i64_in _ (by omega)
  have w2 : IntKind.i64.wrap d = d := IntWalk.i64_in _ (by omega)
  have w3 : IntKind.i64.wrap (m + 1) = m + 1 := IntWalk.i64_in _ (by omega)
  clear hx hfit hm h0 h1 h2 h3
  go_enter Tryd.func12, Tryd.ntmps12
  go_wp2_with fail
  have hB := below1 w (.cells #[.int .i64 0, .int .i64 0] 26)
  have hA := Blk.new w 26 #[.int .i64 0, .int .i64 0]
  generalize w.alloc (.cells #[.int .i64 0, .int .i64 0] 26) = W1 at *
  refine (M.out _).mono ?_
  rintro e w2 ⟨rfl, hb⟩
  have hA2 := (hA.keep hb hA.lt).alloc (.cells #[.int .i64 x.num, .int .i64 (x.den : Nat)] 26)
  have hB2 := (bchain hB hb).alloc (bchain hB hb).size (.cells #[.int .i64 x.num, .int .i64 (x.den : Nat)] 26)
  clear hb hA hB
  have r0 := hA2.cell (j := 0) (v := .int .i64 0) rfl
  have r1 := hA2.cell (j := 1) (v := .int .i64 0) rfl
  have f0 := hA2.free 0
  have f1 := hA2.free 1
  clear hA2
  go_wp2
  refine bodyPost_ret (v := .agg #[.int .i64 x.num, .int .i64 (x.den : Nat)]) (by simp [results, Tryd.results12, go_sem, r0, r1]) rfl ?_
  exact ⟨rfl, (hB2.setCell (by simp) _).setCell (by simp) _⟩

theorem setCell_id {w : World} {p : Nat} {t : TypeId} {c : Array Value} {j : Nat} {v : Value} (h : Blk w p t c) (hj : c[j]? = some v) : w.setCell ⟨p, j, none⟩ v = w := by
  have hlt := h.lt
  have h' : w.heap[p] = .cells c t (0, 0) := by simpa [Array.getElem?_eq_getElem hlt] using (show w.heap[p]? = _ from h)
  have hc : c.setIfInBounds j v = c := by
    apply Array.ext_getElem?
    intro i
    rw [Array.getElem?_setIfInBounds]
    split
    · rename_i e
      subst e
      split
      · exact hj.symm
      · rename_i hn; rw [Array.getElem?_eq_none (by omega)] at hj; cases hj
    · rfl
  rw [Go.Sort.setCell_eq]
  unfold Go.Sort.mapBlock
  have e : w.heap.modify p (Go.Sort.onCells fun x => x.setIfInBounds j v) = w.heap := by
    apply Array.ext_getElem?
    intro i
    rw [Array.getElem?_modify]
    split
    · rename_i e
      subst e
      rw [Array.getElem?_eq_getElem hlt, h']
      simp [Go.Sort.onCells, hc]
    · rfl
  rw [e]
end Go.Proofs.YtfhkgpipbegpgaaDoor
