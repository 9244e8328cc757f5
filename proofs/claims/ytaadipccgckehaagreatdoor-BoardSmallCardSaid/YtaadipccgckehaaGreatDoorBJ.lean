/- A deal turned: deal.Turn. -/
import Derived.Test.YtaadipccgckehaaGreatDoorBI
import Derived.Handy
namespace Go.Proofs.YtaadipccgckehaaGreatDoor
open Go Go.RowKit Pl

/-- By how many seats a deal is turned. -/
def quart (k : Int) : Nat := (k % 4).toNat
theorem quart_lt (k : Int) : quart k < 4 := by unfold quart; omega
def turnD (D : Nat → Nat) (k : Int) (s : Nat) : Nat := D ((s + 4 - quart k) % 4)
def tCell (D : Nat → Nat) (r j s : Nat) : Value := if (s + 4 - r) % 4 < j then .int .u64 (D ((s + 4 - r) % 4) : Nat) else .int .u64 0
def turnC (D : Nat → Nat) (r j : Nat) : Array Value := #[tCell D r j 0, tCell D r j 1, tCell D r j 2, tCell D r j 3]
theorem turnC_0 (D : Nat → Nat) (r : Nat) : turnC D r 0 = #[.int .u64 0, .int .u64 0, .int .u64 0, .int .u64 0] := by simp [turnC, tCell]
theorem turnC_4 (D : Nat → Nat) (k : Int) : turnC D (quart k) 4 = dC (turnD D k) := by
  have h : ∀ s, (s + 4 - quart k) % 4 < 4 := fun s => Nat.mod_lt _ (by omega)
  simp [turnC, tCell, dC, turnD, h]
theorem turnC_set (D : Nat → Nat) : ∀ j, j < 4 → ∀ r, r < 4 → (turnC D r j).setIfInBounds ((j + r) % 4) (.int .u64 (D j : Nat)) = turnC D r (j + 1) := by
  intro j hj r hr
  rcases (by omega : j = 0 ∨ j = 1 ∨ j = 2 ∨ j = 3) with rfl | rfl | rfl | rfl <;> rcases (by omega : r = 0 ∨ r = 1 ∨ r = 2 ∨ r = 3) with rfl | rfl | rfl | rfl <;> simp [turnC, tCell]
theorem turnC_get (D : Nat → Nat) (r j s : Nat) (hs : s < 4) : ∃ v, (turnC D r j)[s]? = some v := ⟨_, Array.getElem?_eq_getElem (show s < 4 from hs)⟩
theorem three {w : World} (t : TypeId) (c0 c1 c2 : Array Value) : Blk (((w.alloc (.cells c0 t)).alloc (.cells c1 t)).alloc (.cells c2 t)) (w.heap.size + 1) t c1 ∧ Blk (((w.alloc (.cells c0 t)).alloc (.cells c1 t)).alloc (.cells c2 t)) (w.heap.size + 2) t c2 ∧ Below w.heap.size w (((w.alloc (.cells c0 t)).alloc (.cells c1 t)).alloc (.cells c2 t)) := by
  have h1 := Blk.new (w.alloc (.cells c0 t)) t c1
  rw [show (w.alloc (.cells c0 t)).heap.size = w.heap.size + 1 by simp] at h1
  have h2 := Blk.new ((w.alloc (.cells c0 t)).alloc (.cells c1 t)) t c2
  rw [show ((w.alloc (.cells c0 t)).alloc (.cells c1 t)).heap.size = w.heap.size + 2 by simp] at h2
  exact ⟨h1.alloc _, h2, (((Below.refl _ w).alloc (Nat.le_refl _) _).alloc (by simp) _).alloc (by simp; omega) _⟩
set_option maxRecDepth 100000 in
theorem turn_any (D : Nat → Nat) (k : Int) (hk : -9223372036854775808 ≤ k ∧ k ≤ 9223372036854775807) (w : World) : Calls Tryz.prog 16 #[.agg #[.int .u64 (D 0 : Nat), .int .u64 (D 1 : Nat), .int .u64 (D 2 : Nat), .int .u64 (D 3 : Nat)], .int .i64 k] w (fun e w' => e = .returned (.agg #[.int .u64 (turnD D k 0 : Nat), .int .u64 (turnD D k 1 : Nat), .int .u64 (turnD D k 2 : Nat), .int .u64 (turnD D k 3 : Nat)]) ∧ Below w.heap.size w w') := by
  have IX := Lib.hid (ix_deal D)
  have hr := quart_lt k
  obtain ⟨q, hq⟩ : ∃ q, k.tmod 4 = q := ⟨_, rfl⟩
  have hqr : -4 < q ∧ q < 4 ∧ (q + 4) % 4 = (quart k : Nat) := by
    rw [← hq]
    unfold quart
    have h1 := Int.tmod_lt_of_pos k (show (0 : Int) < 4 by omega)
    rcases Int.le_total 0 k with h | h
    · have := Int.tmod_eq_emod_of_nonneg (b := 4) h; omega
    · have h2 := Int.neg_tmod k 4
      have h3 := Int.tmod_eq_emod_of_nonneg (a := -k) (b := 4) (by omega)
      omega
  have T4 := Lib.hid (turnC_4 D k)
  have HQ := Lib.hid hqr
  have TS := Lib.hid (fun j hj => turnC_set D j hj (quart k) hr)
  have TG := Lib.hid (turnC_get D (quart k))
  have T0 := Lib.hid (turnC_0 D (quart k))
  generalize quart k = r at *
  clear hqr hk
  go_enter Tryz.func16, Tryz.ntmps16
  go_wp2_with fail
  have BX := Lib.hid (three (w := w) 24 #[.int .u64 (D 0 : Nat), .int .u64 (D 1 : Nat), .int .u64 (D 2 : Nat), .int .u64 (D 3 : Nat)] #[.int .u64 0, .int .u64 0, .int .u64 0, .int .u64 0] #[.int .u64 0, .int .u64 0, .int .u64 0, .int .u64 0])
  generalize ((w.alloc (.cells #[.int .u64 (D 0 : Nat), .int .u64 (D 1 : Nat), .int .u64 (D 2 : Nat), .int .u64 (D 3 : Nat)] 24)).alloc (.cells #[.int .u64 0, .int .u64 0, .int .u64 0, .int .u64 0] 24)).alloc (.cells #[.int .u64 0, .int .u64 0, .int .u64 0, .int .u64 0] 24) = W3 at *
  have HB1 := Lib.hid BX.out.1
  have HB2 := Lib.hid BX.out.2.1
  have HBW := Lib.hid BX.out.2.2
  rw [← T0.out] at HB2
  have L1 : Hid (w.heap.size ≤ w.heap.size + 2 ∧ w.heap.size + 1 ≠ w.heap.size + 2 ∧ w.heap.size ≤ w.heap.size + 1) := Lib.hid ⟨by omega, by omega, by omega⟩
  clear BX T0
  generalize w.heap.size + 2 = p2 at *
  generalize w.heap.size + 1 = p1 at *
  go_loopw [9] (fun s9 wr => ∃ j : Nat, j ≤ 4 ∧ s9 = .int .i64 (j : Int) ∧ Hid (Blk wr p2 24 (turnC D r j)) ∧ Hid (Blk wr p1 24 #[.int .u64 0, .int .u64 0, .int .u64 0, .int .u64 0]) ∧ Hid (Below w.heap.size w wr)) (fun s9 _ => 4 - (intOf s9).toNat)
  case atStart => exact ⟨0, by omega, rfl, HB2, HB1, HBW⟩
  case round =>
    clear HB1 HB2 HBW
    obtain ⟨j, hj, rfl, HB2, HB1, HBW⟩ := hrel
    by_cases hlt : j < 4
    · have u1 : decide ((j : Int) < 4) = true := decide_eq_true (by omega)
      have ix := IX.out j hlt
      have hq3 := HQ.out
      obtain ⟨P, hP⟩ : ∃ P, (j + r) % 4 = P := ⟨_, rfl⟩
      have hP4 : P < 4 := by omega
      have ts := TS.out j hlt
      rw [hP] at ts
      obtain ⟨v, hv⟩ := TG.out j P hP4
      have x0 := HB2.out.cell hv
      have x1 := HB2.out.free P
      have N2 : Hid (Blk (wr.setCell ⟨p2, P, none⟩ (.int .u64 (D j : Nat))) p2 24 (turnC D r (j + 1))) := Lib.hid (by
        have := HB2.out.set P (.int .u64 (D j : Nat))
        rwa [ts] at this)
      have N1 := Lib.hid (HB1.out.other L1.out.2.1 P (.int .u64 (D j : Nat)))
      have NW := Lib.hid (HBW.out.setCell (show w.heap.size ≤ (⟨p2, P, none⟩ : Addr).block from L1.out.1) (.int .u64 (D j : Nat)))
      have e1 : IntKind.i64.wrap ((j : Int) + q) = (j : Int) + q := IntWalk.i64_in _ (by omega)
      have e2 : IntKind.i64.wrap ((j : Int) + q + 4) = (j : Int) + q + 4 := IntWalk.i64_in _ (by omega)
      have e3 : ((j : Int) + q + 4).tmod 4 = (P : Int) := by rw [Int.tmod_eq_emod_of_nonneg (by omega)]; omega
      have e3b : ((j : Int) + q + 4) % 4 = (P : Int) := by omega
      have e4 := inc64 j (by omega)
      have e5 : (P : Int) < 4 := by omega
      have e6 : (0 : Int) ≤ (P : Int) := by omega
      clear HB2 HB1 HBW hv ts hP HQ hr
      generalize D j = h at *
      go_wp2_with fail
      go_roundw
      case rel => exact ⟨j + 1, by omega, by simp, N2, N1, NW⟩
      case measure => simp [intOf]; omega
    · obtain rfl : j = 4 := by omega
      have u1 : decide ((4 : Int) < 4) = false := rfl
      rw [show ((4 : Nat) : Int) = 4 from rfl]
      have hb2 := HB2.out
      rw [T4.out] at hb2
      have x0 := hb2.cell (dC_get _ 0 (by omega))
      have x1 := hb2.cell (dC_get _ 1 (by omega))
      have x2 := hb2.cell (dC_get _ 2 (by omega))
      have x3 := hb2.cell (dC_get _ 3 (by omega))
      have y0 := HB1.out.cell (j := 0) rfl
      have y1 := HB1.out.cell (j := 1) rfl
      have y2 := HB1.out.cell (j := 2) rfl
      have y3 := HB1.out.cell (j := 3) rfl
      have f0 := HB1.out.free 0
      have f1 := HB1.out.free 1
      have f2 := HB1.out.free 2
      have f3 := HB1.out.free 3
      clear hb2 IX TS TG HQ
      have HF : Hid (Blk ((((wr.setCell ⟨p1, 0, none⟩ (.int .u64 (turnD D k 0 : Nat))).setCell ⟨p1, 1, none⟩ (.int .u64 (turnD D k 1 : Nat))).setCell ⟨p1, 2, none⟩ (.int .u64 (turnD D k 2 : Nat))).setCell ⟨p1, 3, none⟩ (.int .u64 (turnD D k 3 : Nat))) p1 24 #[.int .u64 (turnD D k 0 : Nat), .int .u64 (turnD D k 1 : Nat), .int .u64 (turnD D k 2 : Nat), .int .u64 (turnD D k 3 : Nat)]) :=
        Lib.hid ((((HB1.out.set 0 _).set 1 _).set 2 _).set 3 _)
      have HX : Hid (Below w.heap.size w ((((wr.setCell ⟨p1, 0, none⟩ (.int .u64 (turnD D k 0 : Nat))).setCell ⟨p1, 1, none⟩ (.int .u64 (turnD D k 1 : Nat))).setCell ⟨p1, 2, none⟩ (.int .u64 (turnD D k 2 : Nat))).setCell ⟨p1, 3, none⟩ (.int .u64 (turnD D k 3 : Nat)))) :=
        Lib.hid ((((HBW.out.setCell (show w.heap.size ≤ (⟨p1, 0, none⟩ : Addr).block from L1.out.2.2) _).setCell (show w.heap.size ≤ (⟨p1, 1, none⟩ : Addr).block from L1.out.2.2) _).setCell (show w.heap.size ≤ (⟨p1, 2, none⟩ : Addr).block from L1.out.2.2) _).setCell (show w.heap.size ≤ (⟨p1, 3, none⟩ : Addr).block from L1.out.2.2) _)
      go_wp2_with fail
      generalize (((wr.setCell ⟨p1, 0, none⟩ (.int .u64 (turnD D k 0 : Nat))).setCell ⟨p1, 1, none⟩ (.int .u64 (turnD D k 1 : Nat))).setCell ⟨p1, 2, none⟩ (.int .u64 (turnD D k 2 : Nat))).setCell ⟨p1, 3, none⟩ (.int .u64 (turnD D k 3 : Nat)) = wf at *
      clear x0 x1 x2 x3 y0 y1 y2 y3 f0 f1 f2 f3
      have x0 := HF.out.cell (j := 0) rfl
      have x1 := HF.out.cell (j := 1) rfl
      have x2 := HF.out.cell (j := 2) rfl
      have x3 := HF.out.cell (j := 3) rfl
      (try simp only [Exit.inBlock, Exit.then])
      refine bodyPost_ret (by simp [results, Tryz.results16, go_sem, x0, x1, x2, x3]; try rfl) rfl ?_
      exact ⟨rfl, HX.out⟩
end Go.Proofs.YtaadipccgckehaaGreatDoor
