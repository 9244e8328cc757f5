/- The iterator of the lines of a disk, and its contract. -/
import Derived.Test.YtbompgfjlllioaaDoorRangeC
import Derived.Test.YtbompgfjlllioaaDoorJGood
namespace Go.Proofs.YtbompgfjlllioaaDoor
open Go Go.RowKit Go.Shelf
attribute [local go_sem] Oper.semAt_some

theorem bytesOf_map (l : List UInt8) : Lib.bytesOf (l.map fun c => (c.toNat : Int)) = l := by
  unfold Lib.bytesOf
  rw [List.map_map]
  conv => rhs; rw [← List.map_id l]
  apply List.map_congr_left
  intro c _
  simp
theorem idx_any (b o cap : Nat) (l : List UInt8) (w : World) (hB : BS w b o l) : Calls Tryd.prog 65 #[.slice (some ⟨b, o, none⟩) l.length cap, .int .u8 10] w (fun e w' => e = .returned (.int .i64 (Lib.indexByte l 10)) ∧ w' = w) := by
  have h := Tryd.bytes_IndexByte b o l.length cap (l.map fun c => (c.toNat : Int)) 10 w (by simp) (fun i hi => by
    rw [hB.at_ hi]
    simp [List.getD, List.getElem?_eq_getElem hi])
  rw [bytesOf_map] at h
  exact h
/-- A line that is yielded, with the bytes that it has in the world in which the scan began. -/
structure Ln (w0 : World) where
  b : Nat
  o : Nat
  cap : Nat
  l : List UInt8
  hB : BS w0 b o l
  hl : l.length ≤ cap
  hs : l.length ≤ 2000000
def encL {w0 : World} (x : Ln w0) : Array Value := #[.slice (some ⟨x.b, x.o, none⟩) x.l.length x.cap]
/-- What a round keeps: all that there was when the scan began, and the iterator's own cell. -/
structure KpL (w0 : World) (Bn : Nat) (W W' : World) : Prop where
  below : Below w0.heap.size W W'
  cell : ∀ v, W.cell? ⟨Bn, 0, none⟩ = some v → W'.cell? ⟨Bn, 0, none⟩ = some v
  froz : W.frozen? ⟨Bn, 0, none⟩ = false → W'.frozen? ⟨Bn, 0, none⟩ = false
theorem KpL.trans {w0 A B C : World} {Bn : Nat} (h : KpL w0 Bn A B) (k : KpL w0 Bn B C) : KpL w0 Bn A C :=
  ⟨h.below.trans k.below, fun v hv => k.cell v (h.cell v hv), fun hf => k.froz (h.froz hf)⟩
def StL (Bn : Nat) (A B : World) : Prop := ∃ v, B = A.setCell ⟨Bn, 0, none⟩ v
/-- How many bytes the iterator has still to look at. -/
def leftL (Bn : Nat) (W : World) : Nat := match W.cell? ⟨Bn, 0, none⟩ with | some (.slice _ n _) => n | _ => 0
theorem leftL_eq {Bn n c : Nat} {A : Option Addr} {W : World} (h : W.cell? ⟨Bn, 0, none⟩ = some (.slice A n c)) : leftL Bn W = n := by
  unfold leftL; rw [h]

set_option maxRecDepth 100000 in
set_option maxHeartbeats 2000000 in
theorem lines1_stops (n : Nat) (hn : 1 ≤ n) (w0 w : World) (Bn : Nat) (hBn : w0.heap.size ≤ Bn) (b o cap : Nat) (bs : List UInt8) (hs : bs.length ≤ 2000000) (hcap : bs.length ≤ cap) (hB : BS w0 b o bs)
    (hw : Below w0.heap.size w0 w) (hlt : Bn < w.heap.size) (hc : w.cell? ⟨Bn, 0, none⟩ = some (.slice (some ⟨b, o, none⟩) bs.length cap)) (hf : w.frozen? ⟨Bn, 0, none⟩ = false) :
    SeqStopsC Fence.wide n Tryd.prog 64 #[.pointer (some ⟨Bn, 0, none⟩)] (encL (w0 := w0)) (KpL w0 Bn) (StL Bn) (fun xs => xs.map (·.l) = linesL bs) (fun pre => pre.map (·.l) <+: linesL bs) (linesL bs).length w := fun l J Jx W hW hJ hJx hJ2 hJx2 hY h0 => by
  have hcW := (hW.cell (p := ⟨Bn, 0, none⟩) hlt).trans hc
  have hfW : W.frozen? ⟨Bn, 0, none⟩ = false := by
    unfold World.frozen? at hf ⊢
    rw [hW.block Bn hlt]
    exact hf
  have hwW : Below w0.heap.size w0 W := hw.trans (hW.mono hw.size)
  have HY := Lib.hid hY
  have HJ2 := Lib.hid hJ2
  clear hY hJ2 hJ hJx hJx2 hW
  refine callsIn_of_wp Tryd.func64 rfl trivial ?_ rfl
  simp only [Tryd.ntmps64, List.size_toArray, List.length_cons, List.length_nil, Nat.reduceAdd, Nat.reduceSub, Array.replicate_succ, Array.replicate_zero, List.push_toArray, List.append_toArray, List.nil_append, List.cons_append]
  gi_wp2
  gi_loopw [3] (fun _ wr => ∃ (pre : List (Ln w0)) (r : List UInt8) (o' cap' : Nat), pre.map (·.l) ++ linesL r = linesL bs ∧ r.length ≤ cap' ∧ r.length ≤ bs.length ∧ BS w0 b o' r ∧ wr.cell? ⟨Bn, 0, none⟩ = some (.slice (some ⟨b, o', none⟩) r.length cap') ∧ wr.frozen? ⟨Bn, 0, none⟩ = false ∧ Below w0.heap.size w0 wr ∧ J pre wr)
    (fun _ wr => leftL Bn wr)
  case atStart => exact ⟨[], bs, o, cap, rfl, hcap, Nat.le_refl _, hB, hcW, hfW, hwW, h0⟩
  case round =>
    obtain ⟨pre, r, o', cap', hpre, hrc, hrl, hBr, hcr, hfr, hbr, hJr⟩ := hrel
    obtain ⟨i, hi⟩ : ∃ i, Lib.indexByte r 10 = i := ⟨_, rfl⟩
    have IX := Lib.hid (idx_any b o' cap' r wr (hBr.keep hbr))
    rw [hi] at IX
    by_cases hneg : i < 0
    · have HD : Hid (pre.map (·.l) = linesL bs) := Lib.hid (by rw [← hpre, lines_no r (by rw [hi]; exact hneg), List.append_nil])
      have HJ := Lib.hid hJr
      have t1 : decide (i < 0) = true := decide_eq_true hneg
      obtain ⟨M, hM⟩ : ∃ M, r.length = M := ⟨_, rfl⟩
      rw [hM] at hcr IX
      clear hi hneg hpre hrc hrl hBr hfr hbr hJr hM HY HJ2 h0 hcW hfW hwW hB hw hc hf
      gi_wp2_with (refine ⟨trivial, ?_⟩; gi_at_call 65; refine (callsIn_wide.2 IX.out).mono ?_; rintro e w' ⟨rfl, rfl⟩)
      refine ⟨fun _ h => (by cases h), ?_⟩
      gi_wp2
      refine bodyPost_ret (results_none rfl _ _ _) rfl ?_
      exact ⟨⟨_, rfl⟩, .inl ⟨pre, HD.out, HJ.out⟩⟩
    · obtain ⟨k, rfl⟩ : ∃ k : Nat, i = (k : Int) := ⟨i.toNat, by omega⟩
      obtain ⟨hk, _, _⟩ := idx_pos r 10 k hi
      have hL := lines_first r k hi
      rw [hL] at hpre
      have e1 : (r.take k).length = k := by simp; omega
      have t1 : decide ((k : Int) < 0) = false := decide_eq_false hneg
      obtain ⟨fn, tmps, assign, body, hy, hR⟩ := HY.out pre ⟨b, o', cap', r.take k, hBr.take k, by omega, by omega⟩ wr hJr (by rw [← hpre]; simp)
      simp only [encL, e1] at hy
      have HP : Hid ((pre ++ [(⟨b, o', cap', r.take k, hBr.take k, by omega, by omega⟩ : Ln w0)]).map (·.l) ++ linesL (r.drop (k + 1)) = linesL bs) := Lib.hid (by rw [← hpre]; simp)
      have HBR := Lib.hid (hBr.rest (k + 1) cap' hrc)
      have e2 : (r.drop (k + 1)).length = r.length - (k + 1) := by simp
      have hmeas := leftL_eq hcr
      have HPre : Hid ((pre ++ [(⟨b, o', cap', r.take k, hBr.take k, by omega, by omega⟩ : Ln w0)]).map (·.l) <+: linesL bs) := Lib.hid ⟨linesL (r.drop (k + 1)), HP.out⟩
      have HFR := Lib.hid hfr
      have HBW := Lib.hid hbr
      generalize pre ++ [(⟨b, o', cap', r.take k, hBr.take k, by omega, by omega⟩ : Ln w0)] = pre' at *
      obtain ⟨M, hM⟩ : ∃ M, r.length = M := ⟨_, rfl⟩
      rw [hM] at hcr IX hk hrc hrl e2 hmeas
      have HCR := Lib.hid hcr
      have i0 : (0 : Int) ≤ (k : Int) := by omega
      have i1 : (k : Int) ≤ (M : Int) := by omega
      have i2 : (k : Int) + 1 ≤ (M : Int) := by omega
      have i3 : (M : Int) ≤ (cap' : Int) := by omega
      have w1 : IntKind.i64.wrap ((k : Int) + 1) = ((k + 1 : Nat) : Int) := by
        rw [show (((k + 1 : Nat) : Int)) = (k : Int) + 1 by omega]
        exact IntWalk.i64_in _ (by omega)
      clear hi hneg hpre hBr hfr hbr hJr hM h0 hcW hfW hwW hB hw hc hf e1 hL HY
      gi_wp2_with (refine ⟨trivial, ?_⟩; gi_at_call 65; refine (callsIn_wide.2 IX.out).mono ?_; rintro e w' ⟨rfl, rfl⟩)
      refine hR.mono ?_
      rintro e W' (⟨rfl, hJ', hk'⟩ | ⟨rfl, hJx'⟩)
      · have HJ := Lib.hid hJ'
        have HK := Lib.hid hk'
        have c1 := hk'.cell _ HCR.out
        have f1 := hk'.froz HFR.out
        clear hJ' hk' hR hcr IX
        by_cases hz : cap' = k + 1
        · rw [if_pos hz] at HBR
          have hM1 : M = k + 1 := by omega
          subst hM1
          subst hz
          gi_wp2
          go_roundw
          case rel => exact ⟨pre', r.drop (k + 1), o', 0, HP.out, by omega, by omega, HBR.out, by rw [e2, Nat.sub_self]; exact World.cell?_setCell_same' _ _ _ (by rw [c1]; rfl), by rw [World.frozen?_setCell]; exact f1, (HBW.out.trans HK.out.below).setCell hBn _, HJ2.out _ _ _ HJ.out ⟨_, rfl⟩⟩
          case measure => rw [hmeas, leftL_eq (World.cell?_setCell_same' _ _ _ (by rw [c1]; rfl))]; omega
        · rw [if_neg hz] at HBR
          have i4 : ¬ cap' = k + 1 := hz
          have i5 : ¬ cap' - (k + 1) = 0 := by omega
          gi_wp2
          go_roundw
          case rel => exact ⟨pre', r.drop (k + 1), o' + (k + 1), cap' - (k + 1), HP.out, by omega, by omega, HBR.out, by rw [e2]; exact World.cell?_setCell_same' _ _ _ (by rw [c1]; rfl), by rw [World.frozen?_setCell]; exact f1, (HBW.out.trans HK.out.below).setCell hBn _, HJ2.out _ _ _ HJ.out ⟨_, rfl⟩⟩
          case measure => rw [hmeas, leftL_eq (World.cell?_setCell_same' _ _ _ (by rw [c1]; rfl))]; omega
      · have HJ := Lib.hid hJx'
        clear hJx' hR hcr IX
        gi_wp2
        refine bodyPost_ret (results_none rfl _ _ _) rfl ?_
        exact ⟨⟨_, rfl⟩, .inr ⟨pre', HPre.out, HJ.out⟩⟩
end Go.Proofs.YtbompgfjlllioaaDoor
