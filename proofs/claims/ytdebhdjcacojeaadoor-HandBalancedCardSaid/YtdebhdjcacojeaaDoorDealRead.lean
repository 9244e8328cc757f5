/- From a slice of bytes that reads as data to Dealt's contract. -/
import Derived.Test.YtdebhdjcacojeaaDoorDealLaw
import Derived.Test.YtdebhdjcacojeaaDoorFrame
namespace Go.Proofs.YtdebhdjcacojeaaDoor
open Go Go.ChangeShapes Go.WideShapes Go.ChangeAt Go.WideMaps Go.WideElems Go.RowKit

theorem cU8 : Tryd.prog.cellsOf 5 = 1 := by kernel_rfl
theorem dealt_read {H : Type} {enc : TypeId × Value → H} {W : World} {v0 : Value} {d0 : DataW H} {p0 : List MemPlace}
    (h0 : DataW.Trod enc Tryd.prog W 0 (fun _ => true) true 36 v0 d0 p0) (hlt : ∀ x ∈ p0, x.block < W.heap.size) (A : Option Addr) (len cap : Nat) (hv : v0 = .slice A len cap) :
    ∀ w1, Below W.heap.size W w1 → Calls Tryd.prog 25 #[v0] w1 (DealtPost w1) := by
  subst hv
  intro w1 hb
  obtain ⟨fuel, hf⟩ := h0
  rcases open_ints Tryd.underlying36 Tryd.underlying5 cU8 hf with ⟨hcs, hx⟩ | ⟨a, len', cap', zs, hcs, _, hl, hm, hz, hx, hcell, hwz⟩
  · simp [Value.cells] at hcs
    obtain ⟨rfl, rfl, rfl⟩ := hcs
    exact (dealt_nil none 0 w1 (by simp [maxLen])).mono fun e w' h => h
  · simp [Value.cells] at hcs
    obtain ⟨rfl, rfl, rfl⟩ := hcs
    simp only [Prod.mk.injEq] at hx
    obtain ⟨rfl, rfl⟩ := hx
    simp only [if_true] at hz
    by_cases hl0 : len = 0
    · subst hl0
      exact (dealt_nil (some a) cap w1 hm).mono fun e w' h => h
    · obtain ⟨b, off, spot⟩ := a
      have hspot : spot = none := by simpa [Addr.add] using World.cell?_spot (hcell 0 (by omega))
      subst hspot
      have hbW : b < W.heap.size := hlt (.cell b off) (MemPlace.mem_row.2 ⟨0, by omega, by simp⟩)
      refine (dealt_any b off len cap (fun i => (zs.getD i 0).toNat) w1 hl hm (fun i hi => ?_) (fun i hi => ?_)).mono fun e w' h => h
      · have hi' : i < zs.length := by omega
        have := bounds_u8 (hwz (zs.getD i 0) (by simp [List.getD, List.getElem?_eq_getElem hi']))
        omega
      · have hi' : i < zs.length := by omega
        have hu := bounds_u8 (hwz (zs.getD i 0) (by simp [List.getD, List.getElem?_eq_getElem hi']))
        have hc := hcell i hi'
        rw [add_plain] at hc
        rw [hb.cell (p := ⟨b, off + i, none⟩) hbW, hc, Int.toNat_of_nonneg hu.1]
theorem u64_lt {b : Nat} (h : (Lit.int .u64 (b : Int)).wf = true) : b < 18446744073709551616 := by
  have := bounds_u64 h
  omega
end Go.Proofs.YtdebhdjcacojeaaDoor
