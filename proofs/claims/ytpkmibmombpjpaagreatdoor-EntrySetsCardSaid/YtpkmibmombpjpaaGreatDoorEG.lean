/- The words as an entry: entry.guess. -/
import Derived.Test.YtpkmibmombpjpaaGreatDoorEH
import Derived.Test.YtpkmibmombpjpaaGreatDoorFlow4
set_option linter.unusedSimpArgs false
namespace Go.Proofs.YtpkmibmombpjpaaGreatDoor
open Go Go.RowKit

theorem enC_one (e : En) : (enC e).all (·.oneCell') = true := by
  unfold enC
  rw [List.all_toArray]
  rfl
theorem five_up {α : Type} {l : List α} (h : 5 ≤ l.length) : ∃ a b c d e r, l = a :: b :: c :: d :: e :: r := by
  match l, h with
  | a :: b :: c :: d :: e :: r, _ => exact ⟨a, b, c, d, e, r, rfl⟩
def ouA (o : Ou) : Array Value := (ouL o).toArray
theorem ouA_one (o : Ou) : ∀ v ∈ (ouA o).toList, v.oneCell' = true := by
  intro v hv
  have h : v ∈ ouL o := by simpa [ouA] using hv
  simp only [ouL, List.mem_cons, List.not_mem_nil, or_false] at h
  rcases h with rfl | rfl | rfl | rfl | rfl | rfl <;> rfl
theorem outV_split (r : Option Ou) : ∃ o b, outV r = .tuple #[.agg (ouA o), .bool b] ∧ (b = true → r = some o) ∧ (b = false → r = none) := by
  cases r with
  | none => exact ⟨zeroO, false, rfl, fun h => (by cases h), fun _ => rfl⟩
  | some o => exact ⟨o, true, rfl, fun _ => rfl, fun h => (by cases h)⟩
def zE : En := gE 0 0 0 0 0 0 false [] 0 0
theorem zE_lit : enC zE = #[.int .i64 0, .int .i64 0, .int .i64 0, .int .i64 0, .int .u8 0, .int .u8 0, .bool false, .int .u8 0, .int .u8 0, .int .u8 0, .int .u8 0, .int .i64 0, .int .i64 0, .int .u8 0, .int .u8 0, .int .u8 0, .int .u8 0, .int .i64 0, .int .i64 0, .int .u8 0, .int .u8 0, .int .u8 0, .int .u8 0, .int .i64 0, .int .i64 0, .int .u8 0, .int .u8 0, .int .u8 0, .int .u8 0, .int .i64 0, .int .i64 0, .int .i64 0, .int .i64 0] := by
  unfold enC
  rfl
set_option maxRecDepth 100000 in
set_option maxHeartbeats 4000000 in
theorem guess_any (ws : List (List UInt8)) (hw : ∀ x ∈ ws, x.length ≤ 1000000) (h5 : 5 ≤ ws.length) (h11 : ws.length ≤ 1000) (A : Option Addr) (cp : Nat) (hcp : ws.length ≤ cp) (w : World) (hrs : RS w (.slice A ws.length cp) ws) (he : Env w) :
    Calls Tryz.prog 69 #[.slice A ws.length cp] w (fun e w' => ∃ x ok, e = .returned (.tuple #[.agg (enC x), .bool ok]) ∧ guessP ws = (if ok then some x else none) ∧ Below w.heap.size w w') := by
  obtain ⟨q0, q1, q2, q3, q4, os, rfl⟩ := five_up h5
  obtain ⟨G, hG⟩ : ∃ G, guessP (q0 :: q1 :: q2 :: q3 :: q4 :: os) = G := ⟨_, rfl⟩
  rw [hG]
  rw [guessP_K] at hG
  have HG := Lib.hid hG.symm
  have HE := Lib.hid he
  obtain ⟨bw, ow, rfl, c0⟩ := hrs.at (i := 0) rfl
  obtain ⟨_, _, e1, c1⟩ := hrs.at (i := 1) rfl
  cases e1
  obtain ⟨_, _, e2, c2⟩ := hrs.at (i := 2) rfl
  cases e2
  obtain ⟨_, _, e3, c3⟩ := hrs.at (i := 3) rfl
  cases e3
  obtain ⟨_, _, e4, c4⟩ := hrs.at (i := 4) rfl
  cases e4
  rw [Nat.add_zero] at c0
  obtain ⟨r, hr⟩ : ∃ r, os.length = r := ⟨_, rfl⟩
  have hlen : (q0 :: q1 :: q2 :: q3 :: q4 :: os).length = r + 5 := by simp [← hr]
  rw [hlen] at hrs hcp h11 ⊢
  obtain ⟨A5, sl5, rs5⟩ := slice_str (b := bw) (o := ow) (n := r + 5) (c := cp) (k := 5) (by omega) hcp
  have hrs5 := rs5 w _ hrs
  rw [show r + 5 - 5 = r by omega] at sl5 hrs5
  have HR5 : Hid (RS w (.slice (some A5) r (cp - 5)) os) := Lib.hid hrs5
  have hcp5 : r ≤ cp - 5 := by omega
  obtain ⟨c5, hc5⟩ : ∃ c5, cp - 5 = c5 := ⟨_, rfl⟩
  rw [hc5] at sl5 HR5 hcp5
  have SL5 := Lib.hid sl5
  have HCP := Lib.hid hcp5
  have HWO : Hid (∀ x ∈ os, x.length ≤ 1000000) := Lib.hid (fun x hx => hw x (by simp [hx]))
  have HR := Lib.hid (show os.length = r ∧ r + 5 ≤ 1000 from ⟨hr, h11⟩)
  have HC4 := Lib.hid c4
  have hl4 := hw q4 (by simp)
  have NM0 := Lib.hid (fun W hW => number_any q0 (hw q0 (by simp)) W hW)
  have NM1 := Lib.hid (fun W hW => number_any q1 (hw q1 (by simp)) W hW)
  have NM2 := Lib.hid (fun W hW => number_any q2 (hw q2 (by simp)) W hW)
  have NM3 := Lib.hid (fun W hW => number_any q3 (hw q3 (by simp)) W hW)
  generalize numW q0 = n0 at *
  generalize numW q1 = n1 at *
  generalize numW q2 = n2 at *
  generalize numW q3 = n3 at *
  clear hw h5 h11 hcp he hrs hrs5 rs5 sl5 hcp5 hlen hr hc5 hG hl4
  go_enter Tryz.func69, Tryz.ntmps69
  go_upto_region 1 with fail
  rw [← zE_lit]
  have HZ : Hid (Blk (w.alloc (.cells (enC zE) 34)).drew w.heap.size 34 (enC zE)) := Lib.hid (Blk.new w 34 (enC zE))
  have HW := Lib.hid (below1 w (.cells (enC zE) 34)).drew
  refine rest_begin (by kernel_rfl) ?_
  obtain ⟨W0, hW0⟩ : ∃ W0, (w.alloc (.cells (enC zE) 34)).drew = W0 := ⟨_, rfl⟩
  rw [hW0] at HZ HW ⊢
  clear hW0
  have HE1 := Lib.hid (HE.out.keep HW.out)
  replace c0 := keepW HW.out c0
  replace c1 := keepW HW.out c1
  replace c2 := keepW HW.out c2
  replace c3 := keepW HW.out c3
  clear c4
  generalize hp0 : w.heap.size = p0 at *
  have j0 : ¬ ((r : Int) + 5 ≤ 0) := by omega
  have j1 : ¬ ((r : Int) + 5 ≤ 1) := by omega
  have j2 : ¬ ((r : Int) + 5 ≤ 2) := by omega
  have j3 : ¬ ((r : Int) + 5 ≤ 3) := by omega
  refine rest_flow3 [some 10, some 11, some 12, some 13, some 14, some 15, some 16, some 17, some 18, some 19, some 20, some 21, some 22, some 23, some 24, some 25, some 26, some 4] [Sp.is (.slice (some ⟨bw, ow, none⟩) (r + 5) cp), Sp.is (.pointer (some ⟨bw, ow, none⟩)), Sp.is (.string (bS q0)), Sp.is (.int .i64 n0), Sp.is (.slice (some ⟨bw, ow, none⟩) (r + 5) cp), Sp.is (.pointer (some ⟨bw, ow + 1, none⟩)), Sp.is (.string (bS q1)), Sp.is (.int .i64 n1), Sp.is (.slice (some ⟨bw, ow, none⟩) (r + 5) cp), Sp.is (.pointer (some ⟨bw, ow + 2, none⟩)), Sp.is (.string (bS q2)), Sp.is (.int .i64 n2), Sp.is (.slice (some ⟨bw, ow, none⟩) (r + 5) cp), Sp.is (.pointer (some ⟨bw, ow + 3, none⟩)), Sp.is (.string (bS q3)), Sp.is (.int .i64 n3), Sp.is (.agg (enC (gE n0 n1 n2 n3 0 0 false [] 0 0))), Sp.blk 34 (enC zE)] [false, false, false, false, false, false, false, false, false, false, false, false, false, false, false, false, false, true] 18 (by kernel_rfl) (by kernel_rfl) (fun u F hF => ?_) (fun u w' hbF hsF hold hap => ?_)
  case refine_1 =>
    have E0 : F.eval (.tmp 0) = (.slice (some ⟨bw, ow, none⟩) (r + 5) cp) := (congrArg (fun a => Act.eval a (.tmp 0)) hF).trans (eval_out _ 0 _ (by decide))
    have D10 : F.eval (.tmp 10) = u 0 := (congrArg (fun a => Act.eval a (.tmp 10)) hF).trans (eval_in _ 0 0 _ (by decide) (by omega) rfl (of_decide_eq_true (by kernel_rfl)))
    have D11 : F.eval (.tmp 11) = u 1 := (congrArg (fun a => Act.eval a (.tmp 11)) hF).trans (eval_in _ 0 1 _ (by decide) (by omega) rfl (of_decide_eq_true (by kernel_rfl)))
    have D12 : F.eval (.tmp 12) = u 2 := (congrArg (fun a => Act.eval a (.tmp 12)) hF).trans (eval_in _ 0 2 _ (by decide) (by omega) rfl (of_decide_eq_true (by kernel_rfl)))
    have D14 : F.eval (.tmp 14) = u 4 := (congrArg (fun a => Act.eval a (.tmp 14)) hF).trans (eval_in _ 0 4 _ (by decide) (by omega) rfl (of_decide_eq_true (by kernel_rfl)))
    have D15 : F.eval (.tmp 15) = u 5 := (congrArg (fun a => Act.eval a (.tmp 15)) hF).trans (eval_in _ 0 5 _ (by decide) (by omega) rfl (of_decide_eq_true (by kernel_rfl)))
    have D16 : F.eval (.tmp 16) = u 6 := (congrArg (fun a => Act.eval a (.tmp 16)) hF).trans (eval_in _ 0 6 _ (by decide) (by omega) rfl (of_decide_eq_true (by kernel_rfl)))
    have D18 : F.eval (.tmp 18) = u 8 := (congrArg (fun a => Act.eval a (.tmp 18)) hF).trans (eval_in _ 0 8 _ (by decide) (by omega) rfl (of_decide_eq_true (by kernel_rfl)))
    have D19 : F.eval (.tmp 19) = u 9 := (congrArg (fun a => Act.eval a (.tmp 19)) hF).trans (eval_in _ 0 9 _ (by decide) (by omega) rfl (of_decide_eq_true (by kernel_rfl)))
    have D20 : F.eval (.tmp 20) = u 10 := (congrArg (fun a => Act.eval a (.tmp 20)) hF).trans (eval_in _ 0 10 _ (by decide) (by omega) rfl (of_decide_eq_true (by kernel_rfl)))
    have D22 : F.eval (.tmp 22) = u 12 := (congrArg (fun a => Act.eval a (.tmp 22)) hF).trans (eval_in _ 0 12 _ (by decide) (by omega) rfl (of_decide_eq_true (by kernel_rfl)))
    have D23 : F.eval (.tmp 23) = u 13 := (congrArg (fun a => Act.eval a (.tmp 23)) hF).trans (eval_in _ 0 13 _ (by decide) (by omega) rfl (of_decide_eq_true (by kernel_rfl)))
    have D24 : F.eval (.tmp 24) = u 14 := (congrArg (fun a => Act.eval a (.tmp 24)) hF).trans (eval_in _ 0 14 _ (by decide) (by omega) rfl (of_decide_eq_true (by kernel_rfl)))
    have D13 : F.eval (.tmp 13) = u 3 := (congrArg (fun a => Act.eval a (.tmp 13)) hF).trans (eval_in _ 0 3 _ (by decide) (by omega) rfl (of_decide_eq_true (by kernel_rfl)))
    have D17 : F.eval (.tmp 17) = u 7 := (congrArg (fun a => Act.eval a (.tmp 17)) hF).trans (eval_in _ 0 7 _ (by decide) (by omega) rfl (of_decide_eq_true (by kernel_rfl)))
    have D21 : F.eval (.tmp 21) = u 11 := (congrArg (fun a => Act.eval a (.tmp 21)) hF).trans (eval_in _ 0 11 _ (by decide) (by omega) rfl (of_decide_eq_true (by kernel_rfl)))
    have D25 : F.eval (.tmp 25) = u 15 := (congrArg (fun a => Act.eval a (.tmp 25)) hF).trans (eval_in _ 0 15 _ (by decide) (by omega) rfl (of_decide_eq_true (by kernel_rfl)))
    clear hF
    refine ⟨?_, ?_, ?_, ?_, ?_, ?_, ?_, ?_, ?_, ?_, ?_, ?_, ?_, ?_, ?_, ?_, ?_, ?_, trivial⟩
    · intro w1 hb hd K hK
      have e0 := E0
      exact op_val (v := (.slice (some ⟨bw, ow, none⟩) (r + 5) cp)) rfl (by simp only [execOp, List.map_toArray, List.map_cons, List.map_nil, e0]; go_simp) (hK _ _ (show _ = _ from rfl) (Below.refl _ _) (Fresh.no _ _ _))
    · intro w1 hb hd K hK
      have e10 := D10.trans (show u 0 = _ from hd ⟨0, .data⟩ (by simp) rfl (by omega))
      exact op_val (v := (.pointer (some ⟨bw, ow, none⟩))) rfl (by simp only [execOp, List.map_toArray, List.map_cons, List.map_nil, e10]; go_simp) (hK _ _ (show _ = _ from rfl) (Below.refl _ _) (Fresh.no _ _ _))
    · intro w1 hb hd K hK
      have e11 := D11.trans (show u 1 = _ from hd ⟨1, .data⟩ (by simp) rfl (by omega))
      have c0 : w1.cell? ⟨bw, ow, none⟩ = some (.string (bS q0)) := keepW hb c0
      exact op_val (v := (.string (bS q0))) rfl (by simp only [execOp, e11]; go_simp) (hK _ _ (show _ = _ from rfl) (Below.refl _ _) (Fresh.no _ _ _))
    · intro w1 hb hd K hK
      have e12 := D12.trans (show u 2 = _ from hd ⟨2, .data⟩ (by simp) rfl (by omega))
      refine op_call (R := fun v w2 => v = (.int .i64 n0) ∧ Below w1.heap.size w1 w2) (f := 100) (args := #[.string (bS q0)]) rfl (by simp only [execOp]; go_simp; first | exact eval_get e12 | exact ⟨rfl, eval_get e12⟩ | exact ⟨eval_get e12, rfl⟩ | (simp only [Act.eval] at *; simp_all)) ((NM0.out w1 (HE1.out.keep hb)).mono fun e w2 hh => ⟨_, hh.1, rfl, hh.2⟩) (fun v w2 hh => hK _ _ hh.1 hh.2 (Fresh.no _ _ _))
    · intro w1 hb hd K hK
      have e0 := E0
      exact op_val (v := (.slice (some ⟨bw, ow, none⟩) (r + 5) cp)) rfl (by simp only [execOp, List.map_toArray, List.map_cons, List.map_nil, e0]; go_simp) (hK _ _ (show _ = _ from rfl) (Below.refl _ _) (Fresh.no _ _ _))
    · intro w1 hb hd K hK
      have e14 := D14.trans (show u 4 = _ from hd ⟨4, .data⟩ (by simp) rfl (by omega))
      exact op_val (v := (.pointer (some ⟨bw, ow + 1, none⟩))) rfl (by simp only [execOp, List.map_toArray, List.map_cons, List.map_nil, e14]; go_simp) (hK _ _ (show _ = _ from rfl) (Below.refl _ _) (Fresh.no _ _ _))
    · intro w1 hb hd K hK
      have e15 := D15.trans (show u 5 = _ from hd ⟨5, .data⟩ (by simp) rfl (by omega))
      have c0 : w1.cell? ⟨bw, ow + 1, none⟩ = some (.string (bS q1)) := keepW hb c1
      exact op_val (v := (.string (bS q1))) rfl (by simp only [execOp, e15]; go_simp) (hK _ _ (show _ = _ from rfl) (Below.refl _ _) (Fresh.no _ _ _))
    · intro w1 hb hd K hK
      have e16 := D16.trans (show u 6 = _ from hd ⟨6, .data⟩ (by simp) rfl (by omega))
      refine op_call (R := fun v w2 => v = (.int .i64 n1) ∧ Below w1.heap.size w1 w2) (f := 100) (args := #[.string (bS q1)]) rfl (by simp only [execOp]; go_simp; first | exact eval_get e16 | exact ⟨rfl, eval_get e16⟩ | exact ⟨eval_get e16, rfl⟩ | (simp only [Act.eval] at *; simp_all)) ((NM1.out w1 (HE1.out.keep hb)).mono fun e w2 hh => ⟨_, hh.1, rfl, hh.2⟩) (fun v w2 hh => hK _ _ hh.1 hh.2 (Fresh.no _ _ _))
    · intro w1 hb hd K hK
      have e0 := E0
      exact op_val (v := (.slice (some ⟨bw, ow, none⟩) (r + 5) cp)) rfl (by simp only [execOp, List.map_toArray, List.map_cons, List.map_nil, e0]; go_simp) (hK _ _ (show _ = _ from rfl) (Below.refl _ _) (Fresh.no _ _ _))
    · intro w1 hb hd K hK
      have e18 := D18.trans (show u 8 = _ from hd ⟨8, .data⟩ (by simp) rfl (by omega))
      exact op_val (v := (.pointer (some ⟨bw, ow + 2, none⟩))) rfl (by simp only [execOp, List.map_toArray, List.map_cons, List.map_nil, e18]; go_simp) (hK _ _ (show _ = _ from rfl) (Below.refl _ _) (Fresh.no _ _ _))
    · intro w1 hb hd K hK
      have e19 := D19.trans (show u 9 = _ from hd ⟨9, .data⟩ (by simp) rfl (by omega))
      have c0 : w1.cell? ⟨bw, ow + 2, none⟩ = some (.string (bS q2)) := keepW hb c2
      exact op_val (v := (.string (bS q2))) rfl (by simp only [execOp, e19]; go_simp) (hK _ _ (show _ = _ from rfl) (Below.refl _ _) (Fresh.no _ _ _))
    · intro w1 hb hd K hK
      have e20 := D20.trans (show u 10 = _ from hd ⟨10, .data⟩ (by simp) rfl (by omega))
      refine op_call (R := fun v w2 => v = (.int .i64 n2) ∧ Below w1.heap.size w1 w2) (f := 100) (args := #[.string (bS q2)]) rfl (by simp only [execOp]; go_simp; first | exact eval_get e20 | exact ⟨rfl, eval_get e20⟩ | exact ⟨eval_get e20, rfl⟩ | (simp only [Act.eval] at *; simp_all)) ((NM2.out w1 (HE1.out.keep hb)).mono fun e w2 hh => ⟨_, hh.1, rfl, hh.2⟩) (fun v w2 hh => hK _ _ hh.1 hh.2 (Fresh.no _ _ _))
    · intro w1 hb hd K hK
      have e0 := E0
      exact op_val (v := (.slice (some ⟨bw, ow, none⟩) (r + 5) cp)) rfl (by simp only [execOp, List.map_toArray, List.map_cons, List.map_nil, e0]; go_simp) (hK _ _ (show _ = _ from rfl) (Below.refl _ _) (Fresh.no _ _ _))
    · intro w1 hb hd K hK
      have e22 := D22.trans (show u 12 = _ from hd ⟨12, .data⟩ (by simp) rfl (by omega))
      exact op_val (v := (.pointer (some ⟨bw, ow + 3, none⟩))) rfl (by simp only [execOp, List.map_toArray, List.map_cons, List.map_nil, e22]; go_simp) (hK _ _ (show _ = _ from rfl) (Below.refl _ _) (Fresh.no _ _ _))
    · intro w1 hb hd K hK
      have e23 := D23.trans (show u 13 = _ from hd ⟨13, .data⟩ (by simp) rfl (by omega))
      have c0 : w1.cell? ⟨bw, ow + 3, none⟩ = some (.string (bS q3)) := keepW hb c3
      exact op_val (v := (.string (bS q3))) rfl (by simp only [execOp, e23]; go_simp) (hK _ _ (show _ = _ from rfl) (Below.refl _ _) (Fresh.no _ _ _))
    · intro w1 hb hd K hK
      have e24 := D24.trans (show u 14 = _ from hd ⟨14, .data⟩ (by simp) rfl (by omega))
      refine op_call (R := fun v w2 => v = (.int .i64 n3) ∧ Below w1.heap.size w1 w2) (f := 100) (args := #[.string (bS q3)]) rfl (by simp only [execOp]; go_simp; first | exact eval_get e24 | exact ⟨rfl, eval_get e24⟩ | exact ⟨eval_get e24, rfl⟩ | (simp only [Act.eval] at *; simp_all)) ((NM3.out w1 (HE1.out.keep hb)).mono fun e w2 hh => ⟨_, hh.1, rfl, hh.2⟩) (fun v w2 hh => hK _ _ hh.1 hh.2 (Fresh.no _ _ _))
    · intro w1 hb hd K hK
      have e13 := D13.trans (show u 3 = _ from hd ⟨3, .data⟩ (by simp) rfl (by omega))
      have e17 := D17.trans (show u 7 = _ from hd ⟨7, .data⟩ (by simp) rfl (by omega))
      have e21 := D21.trans (show u 11 = _ from hd ⟨11, .data⟩ (by simp) rfl (by omega))
      have e25 := D25.trans (show u 15 = _ from hd ⟨15, .data⟩ (by simp) rfl (by omega))
      exact op_val (v := (.agg (enC (gE n0 n1 n2 n3 0 0 false [] 0 0)))) rfl (by simp only [execOp, List.map_toArray, List.map_cons, List.map_nil, e13, e17, e21, e25]; kernel_rfl) (hK _ _ (show _ = _ from rfl) (Below.refl _ _) (Fresh.no _ _ _))
    · intro w1 hb hd K hK
      exact op_val (v := .pointer (some ⟨w1.heap.size, 0, none⟩)) (w' := w1.alloc (.cells (enC zE) 34)) rfl (by kernel_rfl) (hK _ _ (show ∃ b, _ ∧ _ from ⟨_, rfl, Blk.new w1 _ _⟩) (below1 _ _) (fun _ => ⟨_, rfl, Nat.le_refl _, by show _ < _; rw [size_al]; exact Nat.lt_succ_self _⟩))
  have hv10 : u 0 = (.slice (some ⟨bw, ow, none⟩) (r + 5) cp) := (show u 0 = _ from hsF 0 (by omega) (by omega))
  have hv11 : u 1 = (.pointer (some ⟨bw, ow, none⟩)) := (show u 1 = _ from hsF 1 (by omega) (by omega))
  have hv12 : u 2 = (.string (bS q0)) := (show u 2 = _ from hsF 2 (by omega) (by omega))
  have hv13 : u 3 = (.int .i64 n0) := (show u 3 = _ from hsF 3 (by omega) (by omega))
  have hv14 : u 4 = (.slice (some ⟨bw, ow, none⟩) (r + 5) cp) := (show u 4 = _ from hsF 4 (by omega) (by omega))
  have hv15 : u 5 = (.pointer (some ⟨bw, ow + 1, none⟩)) := (show u 5 = _ from hsF 5 (by omega) (by omega))
  have hv16 : u 6 = (.string (bS q1)) := (show u 6 = _ from hsF 6 (by omega) (by omega))
  have hv17 : u 7 = (.int .i64 n1) := (show u 7 = _ from hsF 7 (by omega) (by omega))
  have hv18 : u 8 = (.slice (some ⟨bw, ow, none⟩) (r + 5) cp) := (show u 8 = _ from hsF 8 (by omega) (by omega))
  have hv19 : u 9 = (.pointer (some ⟨bw, ow + 2, none⟩)) := (show u 9 = _ from hsF 9 (by omega) (by omega))
  have hv20 : u 10 = (.string (bS q2)) := (show u 10 = _ from hsF 10 (by omega) (by omega))
  have hv21 : u 11 = (.int .i64 n2) := (show u 11 = _ from hsF 11 (by omega) (by omega))
  have hv22 : u 12 = (.slice (some ⟨bw, ow, none⟩) (r + 5) cp) := (show u 12 = _ from hsF 12 (by omega) (by omega))
  have hv23 : u 13 = (.pointer (some ⟨bw, ow + 3, none⟩)) := (show u 13 = _ from hsF 13 (by omega) (by omega))
  have hv24 : u 14 = (.string (bS q3)) := (show u 14 = _ from hsF 14 (by omega) (by omega))
  have hv25 : u 15 = (.int .i64 n3) := (show u 15 = _ from hsF 15 (by omega) (by omega))
  have hv26 : u 16 = (.agg (enC (gE n0 n1 n2 n3 0 0 false [] 0 0))) := (show u 16 = _ from hsF 16 (by omega) (by omega))
  obtain ⟨b4, hv4, hB4⟩ := (show ∃ b, u 17 = .pointer (some ⟨b, 0, none⟩) ∧ Blk w' b 34 (enC zE) from hsF 17 (by omega) (by omega))
  obtain ⟨xb4, hx4, hge4, -⟩ := hold 17 (by omega) (by omega) rfl
  rw [hv4] at hx4
  obtain rfl : b4 = xb4 := by simpa [blkOf] using hx4
  simp only [putRow, hv10, hv11, hv12, hv13, hv14, hv15, hv16, hv17, hv18, hv19, hv20, hv21, hv22, hv23, hv24, hv25, hv26, hv4, Act.put, List.setIfInBounds_toArray, List.set_cons_succ, List.set_cons_zero]
  clear hsF hold hap hv10 hv11 hv12 hv13 hv14 hv15 hv16 hv17 hv18 hv19 hv20 hv21 hv22 hv23 hv24 hv25 hv26 hv4 hx4
  have hlz : p0 < W0.heap.size := HZ.out.lt
  have HZ2 := Lib.hid ((HZ.out.keep hbF HZ.out.lt).row_other (b' := b4) (by omega) (enC (gE n0 n1 n2 n3 0 0 false [] 0 0)))
  have HB2 := Lib.hid (hB4.row (enC (gE n0 n1 n2 n3 0 0 false [] 0 0)))
  have HW2 := Lib.hid (Below.setRow' (b := b4) (by omega) (HW.out.trans (hbF.mono (by omega))) (enC (gE n0 n1 n2 n3 0 0 false [] 0 0)))
  have HL := Lib.hid (show p0 < b4 by omega)
  have st := storeAt_row (T := 34) (C := enC (gE n0 n1 n2 n3 0 0 false [] 0 0)) hB4 (by rw [enC_size]; kernel_rfl) (by rw [enC_size, enC_size]) (enC_one _)
  refine rest_forced 1 (by kernel_rfl) ?_
  simp only [List.drop_succ_cons, List.drop_zero, List.take_succ_cons, List.take_zero]
  go_wp2_with (refine op_store (p := .pointer (some ⟨b4, 0, none⟩)) (C := .agg (enC (gE n0 n1 n2 n3 0 0 false [] 0 0))) 34 (.tmp 4) (.tmp 26) rfl rfl rfl rfl rfl st ?_)
  clear st
  refine rest_done rfl ?_
  go_upto_block 0 with fail
  generalize w'.setRow b4 (enC (gE n0 n1 n2 n3 0 0 false [] 0 0)) = W2 at *
  clear hbF hge4 hB4 hlz HZ HW HE1 c0 c1 c2 c3 j0 j1 j2 j3 NM0 NM1 NM2 NM3
  clear w'
  clear W0
  go_cut [] (fun wx => ∃ k : Nat, k ≤ 4 ∧ Hid (kindOf q4 = k) ∧ Hid (Blk wx p0 34 (enC zE)) ∧ Hid (Blk wx b4 34 (enC (gE n0 n1 n2 n3 k 0 false [] 0 0))) ∧ Hid (Below p0 w wx))
  case first =>
    clear HG HR5 SL5 HCP HWO HE
    go_wp2_with fail
    go_loopw [] (fun wr => ∃ k : Nat, k ≤ 4 ∧ Hid (Blk wr p0 34 (enC zE)) ∧ Hid (Blk wr b4 34 (enC (gE n0 n1 n2 n3 k 0 false [] 0 0))) ∧ Hid (Below p0 w wr) ∧ Hid (∀ j, j < k → q4 ≠ kindW j)) (fun wr => 4 - (intOf ((wr.cell? ⟨b4, 4, none⟩).getD undef)).toNat)
    case atStart => exact ⟨0, by omega, HZ2, HB2, HW2, Lib.hid (fun j h => by omega)⟩
    case round =>
      clear HZ2 HB2 HW2
      obtain ⟨k, hk, HZ2, HB2, HW2, HK⟩ := hrel
      have x4 : wr.cell? ⟨b4, 4, none⟩ = some (.int .u8 (k : Int)) := HB2.out.cell (enC_kd (gE n0 n1 n2 n3 k 0 false [] 0 0))
      have c4 : wr.cell? ⟨bw, ow + 4, none⟩ = some (.string (bS q4)) := keepW (by rw [hp0]; exact HW2.out) HC4.out
      by_cases hk4 : k < 4
      · have u1 : decide ((k : Int) < 4) = true := decide_eq_true (by omega)
        have j4 : ¬ ((r : Int) + 5 ≤ 4) := by omega
        by_cases hq : q4 = kindW k
        · have HN : Hid (kindOf q4 = k) := Lib.hid (kindOf_is q4 k hk HK.out (Or.inr hq))
          go_upto_region 2 with fail
          go_quiet ((go_at_call 58; exact Calls.quiet_of_same (kindWord_same k hk _)))
          have HZ4 : Hid (Blk (wr.drewN nq) p0 34 (enC zE)) := HZ2
          have HB4 : Hid (Blk (wr.drewN nq) b4 34 (enC (gE n0 n1 n2 n3 k 0 false [] 0 0))) := HB2
          have HW4 := Lib.hid (below_drewN HW2.out nq)
          clear HZ2 HB2 HW2 x4 c4
          generalize wr.drewN nq = W4 at *
          go_wp2_with fail
          go_meet
          exact ⟨k, hk, HN, HZ4, HB4, HW4⟩
        · have s1 : ((bS q4).toList == (bS (kindW k)).toList) = false := str_ne hq
          go_upto_region 2 with fail
          go_quiet ((go_at_call 58; exact Calls.quiet_of_same (kindWord_same k hk _)))
          have y4 : (wr.drewN nq).cell? ⟨b4, 4, none⟩ = some (.int .u8 (k : Int)) := x4
          have f4 : (wr.drewN nq).frozen? ⟨b4, 4, none⟩ = false := HB2.out.free _
          have HZ4 : Hid (Blk (wr.drewN nq) p0 34 (enC zE)) := HZ2
          have HB4 : Hid (Blk (wr.drewN nq) b4 34 (enC (gE n0 n1 n2 n3 k 0 false [] 0 0))) := HB2
          have HW4 := Lib.hid (below_drewN HW2.out nq)
          clear HZ2 HB2 HW2 c4
          generalize wr.drewN nq = W4 at *
          have hcast : (((k + 1 : Nat)) : Int) = (k : Int) + 1 := by omega
          have HZ5 := Lib.hid (HZ4.out.other (b' := b4) (Nat.ne_of_lt HL.out) 4 (.int .u8 ((k : Int) + 1)))
          have hb5 := HB4.out.set 4 (.int .u8 ((k + 1 : Nat) : Int))
          rw [gE_kd, hcast] at hb5
          have HB5 := Lib.hid hb5
          have HW5 := Lib.hid (HW4.out.setCell (p := ⟨b4, 4, none⟩) (Nat.le_of_lt HL.out) (.int .u8 ((k : Int) + 1)))
          have z4 : (W4.setCell ⟨b4, 4, none⟩ (.int .u8 ((k : Int) + 1))).cell? ⟨b4, 4, none⟩ = some (.int .u8 ((k + 1 : Nat) : Int)) := hb5.cell (enC_kd (gE n0 n1 n2 n3 (k + 1) 0 false [] 0 0))
          rw [hcast] at z4
          have HX4 := Lib.hid (And.intro x4 z4)
          clear HZ4 HB4 HW4 hb5 x4 z4 hcast
          have k1 : IntKind.u8.wrap ((k : Int) + 1) = ((k + 1 : Nat) : Int) := by rw [show ((k : Int) + 1) = ((k + 1 : Nat) : Int) by omega]; exact IntWalk.u8_in _ (by omega)
          go_wp2_with fail
          go_roundw
          case rel => exact ⟨k + 1, by omega, HZ5, HB5, HW5, Lib.hid (fun j hj => by
            rcases Nat.lt_or_ge j k with h | h
            · exact HK.out j h
            · obtain rfl : j = k := by omega
              exact hq)⟩
          case measure =>
            rw [HX4.out.1, HX4.out.2]
            simp only [Option.getD_some, intOf]
            omega
      · obtain rfl : k = 4 := by omega
        have HN : Hid (kindOf q4 = 4) := Lib.hid (kindOf_is q4 4 (Nat.le_refl _) HK.out (Or.inl rfl))
        replace x4 : wr.cell? ⟨b4, 4, none⟩ = some (.int .u8 4) := x4
        have u1 : decide ((4 : Int) < 4) = false := rfl
        go_upto_region 2 with fail
        go_quiet (fail)
        have HZ4 : Hid (Blk (wr.drewN nq) p0 34 (enC zE)) := HZ2
        have HB4 : Hid (Blk (wr.drewN nq) b4 34 (enC (gE n0 n1 n2 n3 4 0 false [] 0 0))) := HB2
        have HW4 := Lib.hid (below_drewN HW2.out nq)
        clear HZ2 HB2 HW2 x4 c4
        generalize wr.drewN nq = W4 at *
        go_wp2_with fail
        go_meet
        exact ⟨4, Nat.le_refl _, HN, HZ4, HB4, HW4⟩
  case rest =>
    obtain ⟨k, hk, HK, HZ3, HB3, HW3⟩ := hcut
    clear HZ2 HB2 HW2 HC4
    have HG2 : Hid (G = guessK n0 n1 n2 n3 k os) := Lib.hid (by rw [HG.out, HK.out])
    clear HG HK
    clear W2
    have sl : ∀ W, (Instr.sliceAt 59 (.slice (some ⟨bw, ow, none⟩) (r + 5) cp) (some (.int .i64 5)) none none).run Tryz.prog W = .ok (.slice (some A5) r c5) W := SL5.out
    have x4 : wc.cell? ⟨b4, 4, none⟩ = some (.int .u8 (k : Int)) := HB3.out.cell (enC_kd (gE n0 n1 n2 n3 k 0 false [] 0 0))
    by_cases hk0 : k = 0
    · subst hk0
      replace x4 : wc.cell? ⟨b4, 4, none⟩ = some (.int .u8 0) := x4
      have la := loadAt_blk (T := 34) HB3.out Tryz.underlying34 rfl (by rw [enC_size]; kernel_rfl)
      have st := storeAt_row (T := 34) (C := enC (gE n0 n1 n2 n3 0 0 false [] 0 0)) HZ3.out (by rw [enC_size]; kernel_rfl) (by rw [enC_size, enC_size]) (enC_one _)
      have HF := Lib.hid (HZ3.out.row (enC (gE n0 n1 n2 n3 0 0 false [] 0 0)))
      have HX := Lib.hid (Below.setRow' (Nat.le_refl _) HW3.out (enC (gE n0 n1 n2 n3 0 0 false [] 0 0)))
      obtain ⟨f, hf⟩ : ∃ f, ((r : Int) == 0) = f := ⟨_, rfl⟩
      have HG3 : Hid (G = if f then some (gE n0 n1 n2 n3 0 0 false [] 0 0) else none) := Lib.hid (by
        rw [HG2.out, guessK_0, HR.out.1, ← hf]
        by_cases h : r = 0
        · subst h; rfl
        · rw [decide_eq_false h, show ((r : Int) == 0) = false by rw [beq_eq_false_iff_ne]; omega])
      clear HG2 HR HZ3 HB3 HW3
      go_wp2_with (first
        | refine op_load (p := .pointer (some ⟨b4, 0, none⟩)) 34 (.tmp 4) rfl rfl rfl la ?_
        | refine op_store (p := .pointer (some ⟨p0, 0, none⟩)) (C := .agg (enC (gE n0 n1 n2 n3 0 0 false [] 0 0))) 34 (.tmp 2) (.tmp 49) rfl rfl rfl rfl rfl st ?_)
      clear st la
      generalize wc.setRow p0 (enC (gE n0 n1 n2 n3 0 0 false [] 0 0)) = WF at *
      have lf := loadVar_blk (T := 34) HF.out Tryz.underlying34 rfl (by rw [enC_size]; kernel_rfl)
      (try simp only [Exit.inBlock, Exit.then])
      refine bodyPost_ret (results_cell_tmp Tryz.results69 rfl rfl lf) rfl ?_
      exact ⟨_, _, rfl, HG3.out, by rw [hp0]; exact HX.out⟩
    · have t0 : ((k : Int) == 0) = false := by rw [beq_eq_false_iff_ne]; omega
      by_cases hk4 : k = 4
      · subst hk4
        replace x4 : wc.cell? ⟨b4, 4, none⟩ = some (.int .u8 4) := x4
        by_cases hr2 : r = 2
        · have t2 : ((r : Int) != 2) = false := by rw [hr2]; rfl
          obtain ⟨y0, y1, rfl⟩ : ∃ y0 y1, os = [y0, y1] := by
            have h := HR.out.1
            match os, h with
            | [a, b], _ => exact ⟨a, b, rfl⟩
            | [], h => simp at h; omega
            | [_], h => simp at h; omega
            | _ :: _ :: _ :: _, h => simp at h; omega
          obtain ⟨b5, o5, eA, d0⟩ := HR5.out.at (i := 0) rfl
          injection eA with eA
          subst eA
          obtain ⟨_, _, e1, d1⟩ := HR5.out.at (i := 1) rfl
          cases e1
          rw [Nat.add_zero] at d0
          have NM0 := Lib.hid (fun W hW => number_any y0 (HWO.out y0 (by simp)) W hW)
          have NM1 := Lib.hid (fun W hW => number_any y1 (HWO.out y1 (by simp)) W hW)
          have HG3 : Hid (G = some (gE n0 n1 n2 n3 4 0 false [] (numW y0) (numW y1))) := Lib.hid (by rw [HG2.out, guessK_4])
          generalize numW y0 = m0 at *
          generalize numW y1 = m1 at *
          clear HG2 HR HWO HR5 SL5
          have HR2 := Lib.hid hr2
          clear hr2
          go_upto_region 10 with fail
          clear sl x4 t0 t2
          have hr2 := HR2.out
          have HW4 := Lib.hid HW3.out.drew
          have HZ4 : Hid (Blk wc.drew p0 34 (enC zE)) := HZ3
          have HB4 : Hid (Blk wc.drew b4 34 (enC (gE n0 n1 n2 n3 4 0 false [] 0 0))) := HB3
          refine rest_begin (by kernel_rfl) ?_
          obtain ⟨W4, hW4⟩ : ∃ W4, wc.drew = W4 := ⟨_, rfl⟩
          rw [hW4] at HW4 HZ4 HB4 ⊢
          clear hW4 HW3 HZ3 HB3
          clear wc
          have HE4 := Lib.hid (HE.out.keep (by rw [hp0]; exact HW4.out))
          replace d0 : W4.cell? ⟨b5, o5, none⟩ = some (.string (bS y0)) := keepW (by rw [hp0]; exact HW4.out) d0
          replace d1 : W4.cell? ⟨b5, o5 + 1, none⟩ = some (.string (bS y1)) := keepW (by rw [hp0]; exact HW4.out) d1
          have j0 : ¬ (r = 0) := by omega
          have j1 : ¬ ((r : Int) ≤ 1) := by omega
          have j2 : (0 : Int) < (r : Int) := by omega
          have j3 : (1 : Int) < (r : Int) := by omega
          clear hr2 HR2
          refine rest_flow3 [some 61, some 62, some 63, some 64, some 65, some 66, some 67, some 68, some 69] [Sp.is (.slice (some ⟨b5, o5, none⟩) r c5), Sp.is (.pointer (some ⟨b5, o5, none⟩)), Sp.is (.string (bS y0)), Sp.is (.int .i64 m0), Sp.is (.slice (some ⟨b5, o5, none⟩) r c5), Sp.is (.pointer (some ⟨b5, o5 + 1, none⟩)), Sp.is (.string (bS y1)), Sp.is (.int .i64 m1), Sp.is (.agg #[.int .i64 m0, .int .i64 m1])] [false, false, false, false, false, false, false, false, false] 9 (by kernel_rfl) (by kernel_rfl) (fun u F hF => ?_) (fun u w' hbF hsF hold hap => ?_)
          case refine_1 =>
            have E5 : F.eval (.tmp 5) = (.slice (some ⟨b5, o5, none⟩) r c5) := (congrArg (fun a => Act.eval a (.tmp 5)) hF).trans (eval_out _ 0 _ (by decide))
            have D61 : F.eval (.tmp 61) = u 0 := (congrArg (fun a => Act.eval a (.tmp 61)) hF).trans (eval_in _ 0 0 _ (by decide) (by omega) rfl (of_decide_eq_true (by kernel_rfl)))
            have D62 : F.eval (.tmp 62) = u 1 := (congrArg (fun a => Act.eval a (.tmp 62)) hF).trans (eval_in _ 0 1 _ (by decide) (by omega) rfl (of_decide_eq_true (by kernel_rfl)))
            have D63 : F.eval (.tmp 63) = u 2 := (congrArg (fun a => Act.eval a (.tmp 63)) hF).trans (eval_in _ 0 2 _ (by decide) (by omega) rfl (of_decide_eq_true (by kernel_rfl)))
            have D65 : F.eval (.tmp 65) = u 4 := (congrArg (fun a => Act.eval a (.tmp 65)) hF).trans (eval_in _ 0 4 _ (by decide) (by omega) rfl (of_decide_eq_true (by kernel_rfl)))
            have D66 : F.eval (.tmp 66) = u 5 := (congrArg (fun a => Act.eval a (.tmp 66)) hF).trans (eval_in _ 0 5 _ (by decide) (by omega) rfl (of_decide_eq_true (by kernel_rfl)))
            have D67 : F.eval (.tmp 67) = u 6 := (congrArg (fun a => Act.eval a (.tmp 67)) hF).trans (eval_in _ 0 6 _ (by decide) (by omega) rfl (of_decide_eq_true (by kernel_rfl)))
            have D64 : F.eval (.tmp 64) = u 3 := (congrArg (fun a => Act.eval a (.tmp 64)) hF).trans (eval_in _ 0 3 _ (by decide) (by omega) rfl (of_decide_eq_true (by kernel_rfl)))
            have D68 : F.eval (.tmp 68) = u 7 := (congrArg (fun a => Act.eval a (.tmp 68)) hF).trans (eval_in _ 0 7 _ (by decide) (by omega) rfl (of_decide_eq_true (by kernel_rfl)))
            clear hF
            refine ⟨?_, ?_, ?_, ?_, ?_, ?_, ?_, ?_, ?_, trivial⟩
            · intro w1 hb hd K hK
              have e5 := E5
              exact op_val (v := (.slice (some ⟨b5, o5, none⟩) r c5)) rfl (by simp only [execOp, List.map_toArray, List.map_cons, List.map_nil, e5]; go_simp) (hK _ _ (show _ = _ from rfl) (Below.refl _ _) (Fresh.no _ _ _))
            · intro w1 hb hd K hK
              have e61 := D61.trans (show u 0 = _ from hd ⟨0, .data⟩ (by simp) rfl (by omega))
              exact op_val (v := (.pointer (some ⟨b5, o5, none⟩))) rfl (by simp only [execOp, List.map_toArray, List.map_cons, List.map_nil, e61]; go_simp) (hK _ _ (show _ = _ from rfl) (Below.refl _ _) (Fresh.no _ _ _))
            · intro w1 hb hd K hK
              have e62 := D62.trans (show u 1 = _ from hd ⟨1, .data⟩ (by simp) rfl (by omega))
              have c0 : w1.cell? ⟨b5, o5, none⟩ = some (.string (bS y0)) := keepW hb d0
              exact op_val (v := (.string (bS y0))) rfl (by simp only [execOp, e62]; go_simp) (hK _ _ (show _ = _ from rfl) (Below.refl _ _) (Fresh.no _ _ _))
            · intro w1 hb hd K hK
              have e63 := D63.trans (show u 2 = _ from hd ⟨2, .data⟩ (by simp) rfl (by omega))
              refine op_call (R := fun v w2 => v = (.int .i64 m0) ∧ Below w1.heap.size w1 w2) (f := 100) (args := #[.string (bS y0)]) rfl (by simp only [execOp]; go_simp; first | exact eval_get e63 | exact ⟨rfl, eval_get e63⟩ | exact ⟨eval_get e63, rfl⟩ | (simp only [Act.eval] at *; simp_all)) ((NM0.out w1 (HE4.out.keep hb)).mono fun e w2 hh => ⟨_, hh.1, rfl, hh.2⟩) (fun v w2 hh => hK _ _ hh.1 hh.2 (Fresh.no _ _ _))
            · intro w1 hb hd K hK
              have e5 := E5
              exact op_val (v := (.slice (some ⟨b5, o5, none⟩) r c5)) rfl (by simp only [execOp, List.map_toArray, List.map_cons, List.map_nil, e5]; go_simp) (hK _ _ (show _ = _ from rfl) (Below.refl _ _) (Fresh.no _ _ _))
            · intro w1 hb hd K hK
              have e65 := D65.trans (show u 4 = _ from hd ⟨4, .data⟩ (by simp) rfl (by omega))
              exact op_val (v := (.pointer (some ⟨b5, o5 + 1, none⟩))) rfl (by simp only [execOp, List.map_toArray, List.map_cons, List.map_nil, e65]; go_simp) (hK _ _ (show _ = _ from rfl) (Below.refl _ _) (Fresh.no _ _ _))
            · intro w1 hb hd K hK
              have e66 := D66.trans (show u 5 = _ from hd ⟨5, .data⟩ (by simp) rfl (by omega))
              have c0 : w1.cell? ⟨b5, o5 + 1, none⟩ = some (.string (bS y1)) := keepW hb d1
              exact op_val (v := (.string (bS y1))) rfl (by simp only [execOp, e66]; go_simp) (hK _ _ (show _ = _ from rfl) (Below.refl _ _) (Fresh.no _ _ _))
            · intro w1 hb hd K hK
              have e67 := D67.trans (show u 6 = _ from hd ⟨6, .data⟩ (by simp) rfl (by omega))
              refine op_call (R := fun v w2 => v = (.int .i64 m1) ∧ Below w1.heap.size w1 w2) (f := 100) (args := #[.string (bS y1)]) rfl (by simp only [execOp]; go_simp; first | exact eval_get e67 | exact ⟨rfl, eval_get e67⟩ | exact ⟨eval_get e67, rfl⟩ | (simp only [Act.eval] at *; simp_all)) ((NM1.out w1 (HE4.out.keep hb)).mono fun e w2 hh => ⟨_, hh.1, rfl, hh.2⟩) (fun v w2 hh => hK _ _ hh.1 hh.2 (Fresh.no _ _ _))
            · intro w1 hb hd K hK
              have e64 := D64.trans (show u 3 = _ from hd ⟨3, .data⟩ (by simp) rfl (by omega))
              have e68 := D68.trans (show u 7 = _ from hd ⟨7, .data⟩ (by simp) rfl (by omega))
              exact op_val (v := (.agg #[.int .i64 m0, .int .i64 m1])) rfl (by simp only [execOp, List.map_toArray, List.map_cons, List.map_nil, e64, e68]; go_simp) (hK _ _ (show _ = _ from rfl) (Below.refl _ _) (Fresh.no _ _ _))
          have hv61 : u 0 = (.slice (some ⟨b5, o5, none⟩) r c5) := (show u 0 = _ from hsF 0 (by omega) (by omega))
          have hv62 : u 1 = (.pointer (some ⟨b5, o5, none⟩)) := (show u 1 = _ from hsF 1 (by omega) (by omega))
          have hv63 : u 2 = (.string (bS y0)) := (show u 2 = _ from hsF 2 (by omega) (by omega))
          have hv64 : u 3 = (.int .i64 m0) := (show u 3 = _ from hsF 3 (by omega) (by omega))
          have hv65 : u 4 = (.slice (some ⟨b5, o5, none⟩) r c5) := (show u 4 = _ from hsF 4 (by omega) (by omega))
          have hv66 : u 5 = (.pointer (some ⟨b5, o5 + 1, none⟩)) := (show u 5 = _ from hsF 5 (by omega) (by omega))
          have hv67 : u 6 = (.string (bS y1)) := (show u 6 = _ from hsF 6 (by omega) (by omega))
          have hv68 : u 7 = (.int .i64 m1) := (show u 7 = _ from hsF 7 (by omega) (by omega))
          have hv69 : u 8 = (.agg #[.int .i64 m0, .int .i64 m1]) := (show u 8 = _ from hsF 8 (by omega) (by omega))
          simp only [putRow, hv61, hv62, hv63, hv64, hv65, hv66, hv67, hv68, hv69, Act.put, List.setIfInBounds_toArray, List.set_cons_succ, List.set_cons_zero]
          clear hsF hold hap hv61 hv62 hv63 hv64 hv65 hv66 hv67 hv68 hv69
          have HZ5 := Lib.hid (HZ4.out.keep hbF HZ4.out.lt)
          have HB5 := Lib.hid (HB4.out.keep hbF HB4.out.lt)
          have HW5 := Lib.hid (HW4.out.trans (hbF.mono (by have := HZ4.out.lt; omega)))
          clear HZ4 HB4 HW4 HE4 d0 d1 j0 j1 j2 j3 NM0 NM1 hbF
          have st := storeAt_run (T := 32) (w := w') (b := b4) (off := 31) (C := #[.int .i64 m0, .int .i64 m1]) (by kernel_rfl) (fun j hj => enC_cell HB5.out (31 + j) (by have : j < 2 := hj; omega)) (fun j hj => HB5.out.free _) (by simp [Value.oneCell'])
          refine rest_forced 2 (by kernel_rfl) ?_
          simp only [List.drop_succ_cons, List.drop_zero, List.take_succ_cons, List.take_zero]
          go_wp2_with (refine op_store (p := .pointer (some ⟨b4, 31, none⟩)) (C := .agg #[.int .i64 m0, .int .i64 m1]) 32 (.tmp 70) (.tmp 69) rfl rfl rfl rfl rfl st ?_)
          clear st
          refine rest_done rfl ?_
          have HZ6 := Lib.hid (Blk.otherCells (b' := b4) (Nat.ne_of_lt HL.out) [.int .i64 m0, .int .i64 m1] 31 w' HZ5.out)
          have hb6 := Blk.putC [.int .i64 m0, .int .i64 m1] 31 w' _ HB5.out
          rw [gE_aw] at hb6
          have HB6 := Lib.hid hb6
          have HW6 := Lib.hid (Below.setCells' (b := b4) (Nat.le_of_lt HL.out) [.int .i64 m0, .int .i64 m1] 31 w' HW5.out)
          clear HZ5 HB5 HW5 hb6
          generalize w'.setCells b4 31 #[.int .i64 m0, .int .i64 m1].toList = W6 at *
          change Hid (Blk W6 _ _ _) at HZ6
          have la := loadAt_blk (T := 34) HB6.out Tryz.underlying34 rfl (by rw [enC_size]; kernel_rfl)
          have st := storeAt_row (T := 34) (C := enC (gE n0 n1 n2 n3 4 0 false [] m0 m1)) HZ6.out (by rw [enC_size]; kernel_rfl) (by rw [enC_size, enC_size]) (enC_one _)
          have HF := Lib.hid (HZ6.out.row (enC (gE n0 n1 n2 n3 4 0 false [] m0 m1)))
          have HX := Lib.hid (Below.setRow' (Nat.le_refl _) HW6.out (enC (gE n0 n1 n2 n3 4 0 false [] m0 m1)))
          clear HZ6 HB6 HW6
          go_wp2_with (first | refine op_load (p := .pointer (some ⟨b4, 0, none⟩)) 34 (.tmp 4) rfl rfl rfl la ?_ | refine op_store (p := .pointer (some ⟨p0, 0, none⟩)) (C := .agg (enC (gE n0 n1 n2 n3 4 0 false [] m0 m1))) 34 (.tmp 2) (.tmp 71) rfl rfl rfl rfl rfl st ?_)
          clear st la
          generalize W6.setRow p0 (enC (gE n0 n1 n2 n3 4 0 false [] m0 m1)) = WF at *
          have lf := loadVar_blk (T := 34) HF.out Tryz.underlying34 rfl (by rw [enC_size]; kernel_rfl)
          (try simp only [Exit.inBlock, Exit.then])
          refine bodyPost_ret (results_cell_tmp Tryz.results69 rfl rfl lf) rfl ?_
          exact ⟨_, _, rfl, HG3.out, by rw [hp0]; exact HX.out⟩
        · have t2 : ((r : Int) != 2) = true := by rw [bne_iff_ne]; omega
          have la := loadAt_blk (T := 34) HB3.out Tryz.underlying34 rfl (by rw [enC_size]; kernel_rfl)
          have st := storeAt_row (T := 34) (C := enC (gE n0 n1 n2 n3 4 0 false [] 0 0)) HZ3.out (by rw [enC_size]; kernel_rfl) (by rw [enC_size, enC_size]) (enC_one _)
          have HF := Lib.hid (HZ3.out.row (enC (gE n0 n1 n2 n3 4 0 false [] 0 0)))
          have HX := Lib.hid (Below.setRow' (Nat.le_refl _) HW3.out (enC (gE n0 n1 n2 n3 4 0 false [] 0 0)))
          have HG3 : Hid (G = none) := Lib.hid (by rw [HG2.out, guessK_4' _ _ _ _ _ (by rw [HR.out.1]; exact hr2)])
          clear HG2 HR HZ3 HB3 HW3
          go_wp2_with (first
            | refine op_load (p := .pointer (some ⟨b4, 0, none⟩)) 34 (.tmp 4) rfl rfl rfl la ?_
            | refine op_store (p := .pointer (some ⟨p0, 0, none⟩)) (C := .agg (enC (gE n0 n1 n2 n3 4 0 false [] 0 0))) 34 (.tmp 2) (.tmp 60) rfl rfl rfl rfl rfl st ?_)
          clear st la
          generalize wc.setRow p0 (enC (gE n0 n1 n2 n3 4 0 false [] 0 0)) = WF at *
          have lf := loadVar_blk (T := 34) HF.out Tryz.underlying34 rfl (by rw [enC_size]; kernel_rfl)
          (try simp only [Exit.inBlock, Exit.then])
          refine bodyPost_ret (results_cell_tmp Tryz.results69 rfl rfl lf) rfl ?_
          exact ⟨_, _, rfl, HG3.out, by rw [hp0]; exact HX.out⟩
      · have t4 : ((k : Int) == 4) = false := by rw [beq_eq_false_iff_ne]; omega
        by_cases hr3 : r < 3
        · have u3 : decide ((r : Int) < 3) = true := decide_eq_true (by omega)
          have HG3 : Hid (G = none) := Lib.hid (by rw [HG2.out, guessK_n _ _ _ _ _ _ hk0 hk4 (by rw [HR.out.1]; omega)])
          have la := loadAt_blk (T := 34) HB3.out Tryz.underlying34 rfl (by rw [enC_size]; kernel_rfl)
          have st := storeAt_row (T := 34) (C := enC (gE n0 n1 n2 n3 k 0 false [] 0 0)) HZ3.out (by rw [enC_size]; kernel_rfl) (by rw [enC_size, enC_size]) (enC_one _)
          have HF := Lib.hid (HZ3.out.row (enC (gE n0 n1 n2 n3 k 0 false [] 0 0)))
          have HX := Lib.hid (Below.setRow' (Nat.le_refl _) HW3.out (enC (gE n0 n1 n2 n3 k 0 false [] 0 0)))
          clear HZ3 HB3 HW3
          go_wp2_with (first | refine op_load (p := .pointer (some ⟨b4, 0, none⟩)) 34 (.tmp 4) rfl rfl rfl la ?_ | refine op_store (p := .pointer (some ⟨p0, 0, none⟩)) (C := .agg (enC (gE n0 n1 n2 n3 k 0 false [] 0 0))) 34 (.tmp 2) (.tmp 81) rfl rfl rfl rfl rfl st ?_)
          clear st la
          generalize wc.setRow p0 (enC (gE n0 n1 n2 n3 k 0 false [] 0 0)) = WF at *
          have lf := loadVar_blk (T := 34) HF.out Tryz.underlying34 rfl (by rw [enC_size]; kernel_rfl)
          (try simp only [Exit.inBlock, Exit.then])
          refine bodyPost_ret (results_cell_tmp Tryz.results69 rfl rfl lf) rfl ?_
          exact ⟨_, _, rfl, HG3.out, by rw [hp0]; exact HX.out⟩
        · have u3 : decide ((r : Int) < 3) = false := decide_eq_false (by omega)
          by_cases hr6 : 6 < r
          · have u6 : decide ((6 : Int) < (r : Int)) = true := decide_eq_true (by omega)
            have HG3 : Hid (G = none) := Lib.hid (by rw [HG2.out, guessK_n _ _ _ _ _ _ hk0 hk4 (by rw [HR.out.1]; omega)])
            have la := loadAt_blk (T := 34) HB3.out Tryz.underlying34 rfl (by rw [enC_size]; kernel_rfl)
            have st := storeAt_row (T := 34) (C := enC (gE n0 n1 n2 n3 k 0 false [] 0 0)) HZ3.out (by rw [enC_size]; kernel_rfl) (by rw [enC_size, enC_size]) (enC_one _)
            have HF := Lib.hid (HZ3.out.row (enC (gE n0 n1 n2 n3 k 0 false [] 0 0)))
            have HX := Lib.hid (Below.setRow' (Nat.le_refl _) HW3.out (enC (gE n0 n1 n2 n3 k 0 false [] 0 0)))
            clear HZ3 HB3 HW3
            go_wp2_with (first | refine op_load (p := .pointer (some ⟨b4, 0, none⟩)) 34 (.tmp 4) rfl rfl rfl la ?_ | refine op_store (p := .pointer (some ⟨p0, 0, none⟩)) (C := .agg (enC (gE n0 n1 n2 n3 k 0 false [] 0 0))) 34 (.tmp 2) (.tmp 81) rfl rfl rfl rfl rfl st ?_)
            clear st la
            generalize wc.setRow p0 (enC (gE n0 n1 n2 n3 k 0 false [] 0 0)) = WF at *
            have lf := loadVar_blk (T := 34) HF.out Tryz.underlying34 rfl (by rw [enC_size]; kernel_rfl)
            (try simp only [Exit.inBlock, Exit.then])
            refine bodyPost_ret (results_cell_tmp Tryz.results69 rfl rfl lf) rfl ?_
            exact ⟨_, _, rfl, HG3.out, by rw [hp0]; exact HX.out⟩
          · have u6 : decide ((6 : Int) < (r : Int)) = false := decide_eq_false (by omega)
            obtain ⟨yf, yt, ys, rfl⟩ : ∃ a b c, os = a :: b :: c := by
              have h := HR.out.1
              match os, h with
              | a :: b :: c, _ => exact ⟨a, b, c, rfl⟩
              | [], h => simp at h; omega
              | [_], h => simp at h; omega
            obtain ⟨b5, o5, eA, d0⟩ := HR5.out.at (i := 0) rfl
            injection eA with eA
            subst eA
            obtain ⟨_, _, e1, d1⟩ := HR5.out.at (i := 1) rfl
            cases e1
            rw [Nat.add_zero] at d0
            have SM := Lib.hid (fun W hW => small_any yf (HWO.out yf (by simp)) W hW)
            have HWY : Hid (∀ x ∈ ys, x.length ≤ 1000000) := Lib.hid (fun x hx => HWO.out x (by simp [hx]))
            obtain ⟨s, hs⟩ : ∃ s, ys.length = s := ⟨_, rfl⟩
            have hrs : r = s + 2 := by rw [← HR.out.1, ← hs]; simp
            have hs1 : 1 ≤ s := by omega
            have hs4 : s ≤ 4 := by omega
            obtain ⟨tv, htv⟩ : ∃ tv, decide (yt = wTurned) = tv := ⟨_, rfl⟩
            have HG3 : Hid (G = (outsW ys).map fun l => gE n0 n1 n2 n3 k (smallW yf) tv l 0 0) := Lib.hid (by
              rw [HG2.out, guessK_s _ _ _ _ _ _ _ _ hk0 hk4 (by omega) (by omega), htv])
            have e0 : ((bS yt).toList == [116, 117, 114, 110, 101, 100]) = tv := by
              rw [show ([116, 117, 114, 110, 101, 100] : List UInt8) = (bS wTurned).toList by kernel_rfl]
              rw [← htv]
              by_cases h : yt = wTurned
              · subst h; rw [decide_eq_true rfl]; exact beq_self_eq_true _
              · rw [decide_eq_false h]; exact str_ne h
            obtain ⟨A2, sl2, rs2⟩ := slice_str (b := b5) (o := o5) (n := r) (c := c5) (k := 2) (by omega) HCP.out
            have hr5 := rs2 w _ HR5.out
            have HR2 : Hid (RS w (.slice (some A2) s (c5 - 2)) ys) := Lib.hid (by
              have : r - 2 = s := by omega
              rw [this] at hr5
              exact hr5)
            rw [show r - 2 = s by omega] at sl2
            have SL2 := Lib.hid sl2
            obtain ⟨c2, hc2⟩ : ∃ c2, c5 - 2 = c2 := ⟨_, rfl⟩
            rw [hc2] at HR2 SL2
            have HS := Lib.hid (And.intro hs (And.intro hs1 hs4))
            have HR3 := Lib.hid hrs
            generalize smallW yf = sf at *
            clear HG2 HWO HR5 HR SL5 htv hr5 sl2 rs2 hs hs1 hs4 hrs hc2 HCP hr3 hr6
            go_upto_region 14 with fail
            clear sl x4 t0 t4 u3 u6
            have hrs := HR3.out
            have HW4 := Lib.hid HW3.out.drew
            have HZ4 : Hid (Blk wc.drew p0 34 (enC zE)) := HZ3
            have hBlk : Blk wc.drew b4 34 (enC (gE n0 n1 n2 n3 k 0 false [] 0 0)) := HB3.out
            refine rest_begin (by kernel_rfl) ?_
            obtain ⟨W4, hW4⟩ : ∃ W4, wc.drew = W4 := ⟨_, rfl⟩
            rw [hW4] at HW4 HZ4 hBlk ⊢
            clear hW4 HW3 HZ3 HB3
            clear wc
            have hBW : p0 ≤ W4.heap.size := Nat.le_of_lt HZ4.out.lt
            have hBb : p0 ≤ b4 := Nat.le_of_lt HL.out
            have j0 : ¬ (r = 0) := by omega
            have j1 : ¬ ((r : Int) ≤ 1) := by omega
            have j2 : (0 : Int) < (r : Int) := by omega
            have j3 : (1 : Int) < (r : Int) := by omega
            clear hrs
            refine rest_flowG (grBlk p0 b4 34 (enC (gE n0 n1 n2 n3 k 0 false [] 0 0)) (enC (gE n0 n1 n2 n3 k sf false [] 0 0))) [some 82, some 83, some 84, some 85, some 86, some 87, some 88, some 89, some 90, none] [SpG.is (.slice (some ⟨b5, o5, none⟩) r c5), SpG.is (.pointer (some ⟨b5, o5, none⟩)), SpG.is (.string (bS yf)), SpG.is (.int .u8 ((sf : Nat) : Int)), SpG.is (.slice (some ⟨b5, o5, none⟩) r c5), SpG.is (.pointer (some ⟨b5, o5 + 1, none⟩)), SpG.is (.string (bS yt)), SpG.is (.bool tv), SpG.is (.pointer (some ⟨b4, 5, none⟩)), SpG.cells] 10 (by kernel_rfl) (by kernel_rfl) (fun u F hF => ?_) (fun u w' hbF hsF => ?_)
            case refine_1 =>
              have E5 : F.eval (.tmp 5) = (.slice (some ⟨b5, o5, none⟩) r c5) := (congrArg (fun a => Act.eval a (.tmp 5)) hF).trans (eval_out [some 82, some 83, some 84, some 85, some 86, some 87, some 88, some 89, some 90, none] 0 _ (by decide))
              have D82 : F.eval (.tmp 82) = u 0 := (congrArg (fun a => Act.eval a (.tmp 82)) hF).trans (eval_in [some 82, some 83, some 84, some 85, some 86, some 87, some 88, some 89, some 90, none] 0 0 _ (by decide) (by omega) rfl (of_decide_eq_true (by kernel_rfl)))
              have D83 : F.eval (.tmp 83) = u 1 := (congrArg (fun a => Act.eval a (.tmp 83)) hF).trans (eval_in [some 82, some 83, some 84, some 85, some 86, some 87, some 88, some 89, some 90, none] 0 1 _ (by decide) (by omega) rfl (of_decide_eq_true (by kernel_rfl)))
              have D84 : F.eval (.tmp 84) = u 2 := (congrArg (fun a => Act.eval a (.tmp 84)) hF).trans (eval_in [some 82, some 83, some 84, some 85, some 86, some 87, some 88, some 89, some 90, none] 0 2 _ (by decide) (by omega) rfl (of_decide_eq_true (by kernel_rfl)))
              have D86 : F.eval (.tmp 86) = u 4 := (congrArg (fun a => Act.eval a (.tmp 86)) hF).trans (eval_in [some 82, some 83, some 84, some 85, some 86, some 87, some 88, some 89, some 90, none] 0 4 _ (by decide) (by omega) rfl (of_decide_eq_true (by kernel_rfl)))
              have D87 : F.eval (.tmp 87) = u 5 := (congrArg (fun a => Act.eval a (.tmp 87)) hF).trans (eval_in [some 82, some 83, some 84, some 85, some 86, some 87, some 88, some 89, some 90, none] 0 5 _ (by decide) (by omega) rfl (of_decide_eq_true (by kernel_rfl)))
              have D88 : F.eval (.tmp 88) = u 6 := (congrArg (fun a => Act.eval a (.tmp 88)) hF).trans (eval_in [some 82, some 83, some 84, some 85, some 86, some 87, some 88, some 89, some 90, none] 0 6 _ (by decide) (by omega) rfl (of_decide_eq_true (by kernel_rfl)))
              have E4 : F.eval (.tmp 4) = (.pointer (some ⟨b4, 0, none⟩)) := (congrArg (fun a => Act.eval a (.tmp 4)) hF).trans (eval_out [some 82, some 83, some 84, some 85, some 86, some 87, some 88, some 89, some 90, none] 0 _ (by decide))
              have D90 : F.eval (.tmp 90) = u 8 := (congrArg (fun a => Act.eval a (.tmp 90)) hF).trans (eval_in [some 82, some 83, some 84, some 85, some 86, some 87, some 88, some 89, some 90, none] 0 8 _ (by decide) (by omega) rfl (of_decide_eq_true (by kernel_rfl)))
              have D85 : F.eval (.tmp 85) = u 3 := (congrArg (fun a => Act.eval a (.tmp 85)) hF).trans (eval_in [some 82, some 83, some 84, some 85, some 86, some 87, some 88, some 89, some 90, none] 0 3 _ (by decide) (by omega) rfl (of_decide_eq_true (by kernel_rfl)))
              clear hF
              refine ⟨?_, ?_, ?_, ?_, ?_, ?_, ?_, ?_, ?_, ?_, trivial⟩
              · intro w1 hb hd K hK
                have e5 := E5
                exact op_val (v := (.slice (some ⟨b5, o5, none⟩) r c5)) rfl (by simp only [execOp, List.map_toArray, List.map_cons, List.map_nil, e5]; go_simp) (hK _ _ (show _ = _ from rfl) ((grBlk p0 b4 34 (enC (gE n0 n1 n2 n3 k 0 false [] 0 0)) (enC (gE n0 n1 n2 n3 k sf false [] 0 0))).refl _))
              · intro w1 hb hd K hK
                have e82 := D82.trans (show u 0 = (.slice (some ⟨b5, o5, none⟩) r c5) from hd ⟨0, .data⟩ (by simp) rfl (by omega))
                exact op_val (v := (.pointer (some ⟨b5, o5, none⟩))) rfl (by simp only [execOp, List.map_toArray, List.map_cons, List.map_nil, e82]; go_simp) (hK _ _ (show _ = _ from rfl) ((grBlk p0 b4 34 (enC (gE n0 n1 n2 n3 k 0 false [] 0 0)) (enC (gE n0 n1 n2 n3 k sf false [] 0 0))).refl _))
              · intro w1 hb hd K hK
                have e83 := D83.trans (show u 1 = (.pointer (some ⟨b5, o5, none⟩)) from hd ⟨1, .data⟩ (by simp) rfl (by omega))
                have c0 : w1.cell? ⟨b5, o5, none⟩ = some (.string (bS yf)) := keepW (by rw [hp0]; exact HW4.out.trans hb.1) d0
                exact op_val (v := (.string (bS yf))) rfl (by simp only [execOp, e83]; go_simp) (hK _ _ (show _ = _ from rfl) ((grBlk p0 b4 34 (enC (gE n0 n1 n2 n3 k 0 false [] 0 0)) (enC (gE n0 n1 n2 n3 k sf false [] 0 0))).refl _))
              · intro w1 hb hd K hK
                have e84 := D84.trans (show u 2 = (.string (bS yf)) from hd ⟨2, .data⟩ (by simp) rfl (by omega))
                refine op_call (R := fun v w2 => v = (.int .u8 ((sf : Nat) : Int)) ∧ Below w1.heap.size w1 w2) (f := 101) (args := #[.string (bS yf)]) rfl (by simp only [execOp]; go_simp; first | exact eval_get e84 | exact ⟨rfl, eval_get e84⟩ | exact ⟨eval_get e84, rfl⟩ | (simp only [Act.eval] at *; simp_all)) ((SM.out w1 (HE.out.keep (by rw [hp0]; exact HW4.out.trans hb.1))).mono fun e w2 hh => ⟨_, hh.1, rfl, hh.2⟩) (fun v w2 hh => hK _ _ hh.1 (grBlk_below hh.2 (Nat.le_trans hBW hb.1.size)))
              · intro w1 hb hd K hK
                have e5 := E5
                exact op_val (v := (.slice (some ⟨b5, o5, none⟩) r c5)) rfl (by simp only [execOp, List.map_toArray, List.map_cons, List.map_nil, e5]; go_simp) (hK _ _ (show _ = _ from rfl) ((grBlk p0 b4 34 (enC (gE n0 n1 n2 n3 k 0 false [] 0 0)) (enC (gE n0 n1 n2 n3 k sf false [] 0 0))).refl _))
              · intro w1 hb hd K hK
                have e86 := D86.trans (show u 4 = (.slice (some ⟨b5, o5, none⟩) r c5) from hd ⟨4, .data⟩ (by simp) rfl (by omega))
                exact op_val (v := (.pointer (some ⟨b5, o5 + 1, none⟩))) rfl (by simp only [execOp, List.map_toArray, List.map_cons, List.map_nil, e86]; go_simp) (hK _ _ (show _ = _ from rfl) ((grBlk p0 b4 34 (enC (gE n0 n1 n2 n3 k 0 false [] 0 0)) (enC (gE n0 n1 n2 n3 k sf false [] 0 0))).refl _))
              · intro w1 hb hd K hK
                have e87 := D87.trans (show u 5 = (.pointer (some ⟨b5, o5 + 1, none⟩)) from hd ⟨5, .data⟩ (by simp) rfl (by omega))
                have c0 : w1.cell? ⟨b5, o5 + 1, none⟩ = some (.string (bS yt)) := keepW (by rw [hp0]; exact HW4.out.trans hb.1) d1
                exact op_val (v := (.string (bS yt))) rfl (by simp only [execOp, e87]; go_simp) (hK _ _ (show _ = _ from rfl) ((grBlk p0 b4 34 (enC (gE n0 n1 n2 n3 k 0 false [] 0 0)) (enC (gE n0 n1 n2 n3 k sf false [] 0 0))).refl _))
              · intro w1 hb hd K hK
                have e88 := D88.trans (show u 6 = (.string (bS yt)) from hd ⟨6, .data⟩ (by simp) rfl (by omega))
                exact op_val (v := (.bool tv)) rfl (by simp only [execOp, List.map_toArray, List.map_cons, List.map_nil, e88]; go_simp) (hK _ _ (show _ = _ from rfl) ((grBlk p0 b4 34 (enC (gE n0 n1 n2 n3 k 0 false [] 0 0)) (enC (gE n0 n1 n2 n3 k sf false [] 0 0))).refl _))
              · intro w1 hb hd K hK
                have e4 := E4
                exact op_val (v := (.pointer (some ⟨b4, 5, none⟩))) rfl (by simp only [execOp, List.map_toArray, List.map_cons, List.map_nil, e4]; go_simp) (hK _ _ (show _ = _ from rfl) ((grBlk p0 b4 34 (enC (gE n0 n1 n2 n3 k 0 false [] 0 0)) (enC (gE n0 n1 n2 n3 k sf false [] 0 0))).refl _))
              · intro w1 hb hd K hK
                have e90 := D90.trans (show u 8 = (.pointer (some ⟨b4, 5, none⟩)) from hd ⟨8, .data⟩ (by simp) rfl (by omega))
                have e85 := D85.trans (show u 3 = (.int .u8 ((sf : Nat) : Int)) from hd ⟨3, .data⟩ (by simp) rfl (by omega))
                have hor := hb.2.2.2 hBlk
                obtain ⟨xx, c0⟩ : ∃ x, w1.cell? ⟨b4, 5, none⟩ = some x := by rcases hor with h | h <;> exact ⟨_, h.cell (enC_fd _)⟩
                have f0 : w1.frozen? ⟨b4, 5, none⟩ = false := by rcases hor with h | h <;> exact h.free _
                have hs := grBlk_set (v := (.int .u8 ((sf : Nat) : Int))) hBb hor (gE_fd _ _ _ _ _ _ _ _ _ _ _) (gE_fd _ _ _ _ _ _ _ _ _ _ _)
                exact op_skip (w' := w1.setCell ⟨b4, 5, none⟩ (.int .u8 ((sf : Nat) : Int))) rfl rfl (by simp only [execOp, e90, e85]; go_simp) (hK _ _ hs.1 hs.2)
            have hv82 : u 0 = (.slice (some ⟨b5, o5, none⟩) r c5) := (show u 0 = _ from hsF 0 (by omega) (by omega))
            have hv83 : u 1 = (.pointer (some ⟨b5, o5, none⟩)) := (show u 1 = _ from hsF 1 (by omega) (by omega))
            have hv84 : u 2 = (.string (bS yf)) := (show u 2 = _ from hsF 2 (by omega) (by omega))
            have hv85 : u 3 = (.int .u8 ((sf : Nat) : Int)) := (show u 3 = _ from hsF 3 (by omega) (by omega))
            have hv86 : u 4 = (.slice (some ⟨b5, o5, none⟩) r c5) := (show u 4 = _ from hsF 4 (by omega) (by omega))
            have hv87 : u 5 = (.pointer (some ⟨b5, o5 + 1, none⟩)) := (show u 5 = _ from hsF 5 (by omega) (by omega))
            have hv88 : u 6 = (.string (bS yt)) := (show u 6 = _ from hsF 6 (by omega) (by omega))
            have hv89 : u 7 = (.bool tv) := (show u 7 = _ from hsF 7 (by omega) (by omega))
            have hv90 : u 8 = (.pointer (some ⟨b4, 5, none⟩)) := (show u 8 = _ from hsF 8 (by omega) (by omega))
            have hBb4 : Blk w' b4 34 (enC (gE n0 n1 n2 n3 k sf false [] 0 0)) := hsF 9 (by omega) (by omega)
            simp only [putRow, hv82, hv83, hv84, hv85, hv86, hv87, hv88, hv89, hv90, Act.put, List.setIfInBounds_toArray, List.set_cons_succ, List.set_cons_zero]
            clear hsF hv82 hv83 hv84 hv85 hv86 hv87 hv88 hv89 hv90
            have HZ5 := Lib.hid (hbF.2.1 p0 _ _ (Nat.ne_of_lt HL.out) HZ4.out)
            have HB5 := Lib.hid hBb4
            have HW5 := Lib.hid (HW4.out.trans hbF.1)
            clear HZ4 hBlk hBW hBb hBb4 HW4 d0 d1 j0 j1 j2 j3 SM hbF e0
            clear W4
            have y6 : w'.cell? ⟨b4, 6, none⟩ = some (.bool false) := HB5.out.cell (enC_tn _)
            have f6 := HB5.out.free 6
            refine rest_forced 2 (by kernel_rfl) ?_
            simp only [List.drop_succ_cons, List.drop_zero, List.take_succ_cons, List.take_zero]
            go_wp2_with fail
            refine rest_done rfl ?_
            have HZ6 := Lib.hid (HZ5.out.other (b' := b4) (Nat.ne_of_lt HL.out) 6 (.bool tv))
            have hb6 := HB5.out.set 6 (.bool tv)
            rw [gE_tn] at hb6
            have HB6 := Lib.hid hb6
            have HW6 := Lib.hid (HW5.out.setCell (p := ⟨b4, 6, none⟩) (Nat.le_of_lt HL.out) (.bool tv))
            clear HZ5 HB5 HW5 hb6 y6 f6
            generalize w'.setCell ⟨b4, 6, none⟩ (.bool tv) = W6 at *
            clear w'
            have sl : ∀ W, (Instr.sliceAt 59 (.slice (some ⟨b5, o5, none⟩) r c5) (some (.int .i64 2)) none none).run Tryz.prog W = .ok (.slice (some A2) s c2) W := SL2.out
            go_wp2_with fail
            clear sl
            go_loopw [95] (fun s95 wr => ∃ (i : Nat) (l : List Ou), i ≤ s ∧ s95 = .int .i64 (i : Int) ∧ l.length = i ∧ Hid (outsW (ys.take i) = some l) ∧ Hid (Blk wr p0 34 (enC zE)) ∧ Hid (Blk wr b4 34 (enC (gE n0 n1 n2 n3 k sf tv l 0 0))) ∧ Hid (Below p0 w wr)) (fun s95 _ => s - (intOf s95).toNat)
            case atStart => exact ⟨0, [], by omega, rfl, rfl, Lib.hid rfl, HZ6, HB6, HW6⟩
            case round =>
              clear HZ6 HB6 HW6
              obtain ⟨i, l, hi, rfl, hl, HO, HZ6, HB6, HW6⟩ := hrel
              by_cases hlt : i < s
              · have u1 : decide ((i : Int) < (s : Int)) = true := decide_eq_true (by omega)
                obtain ⟨x, hx⟩ : ∃ x, ys[i]? = some x := ⟨_, List.getElem?_eq_getElem (by rw [HS.out.1]; exact hlt)⟩
                obtain ⟨b2, o2, eA, d2⟩ := HR2.out.at hx
                injection eA with eA
                subst eA
                replace d2 : wr.cell? ⟨b2, o2 + i, none⟩ = some (.string (bS x)) := keepW (by rw [hp0]; exact HW6.out) d2
                have OC := Lib.hid (fun W hW => outcome_any x (HWY.out x (List.mem_of_getElem? hx)) W hW)
                have HI := Lib.hid (And.intro hlt (And.intro hx hl))
                have j1 : ¬ ((s : Int) ≤ (i : Int)) := by omega
                have j2 : (i : Int) < (s : Int) := by omega
                have j3 : (0 : Int) ≤ (i : Int) := by omega
                clear hx hl hi
                clear hlt
                go_wp2_with fail
                refine (OC.out _ (HE.out.keep (by rw [hp0]; exact HW6.out))).mono ?_
                rintro e w7 ⟨rfl, hb⟩
                have HZ7 := HZ6.out.keep hb HZ6.out.lt
                have HB7 := HB6.out.keep hb HB6.out.lt
                have HW7 := HW6.out.trans (hb.mono (by have := HW6.out.size; omega))
                have hlz := HZ7.lt
                have hlb := HB7.lt
                obtain ⟨o, b, eo, hb1, hb0⟩ := outV_split (outW x)
                have HOX := Lib.hid (And.intro hb1 hb0)
                rw [eo]
                have HPC : Hid (∀ W, Blk W b4 34 (enC (gE n0 n1 n2 n3 k sf tv l 0 0)) → i < 4 → Blk (W.setCells b4 (7 + i * 6) (ouA o).toList) b4 34 (enC (gE n0 n1 n2 n3 k sf tv (l ++ [o]) 0 0))) := Lib.hid (fun W hW h4 => by
                  have hb9 := Blk.putC (ouL o) (7 + l.length * 6) W _ hW
                  rw [gE_ou _ _ _ _ _ _ _ _ _ _ _ (by rw [HI.out.2.2]; exact h4), HI.out.2.2] at hb9
                  exact hb9)
                have HCO := Lib.hid (show (ouA o).size = 6 ∧ (∀ v ∈ (ouA o).toList, v.oneCell' = true) ∧ (ouA o).all (·.oneCell') = true from ⟨rfl, ouA_one o, by kernel_rfl⟩)
                clear eo
                generalize ouA o = CO at *
                obtain ⟨p8, hp8⟩ : ∃ p8, w7.heap.size = p8 := ⟨_, rfl⟩
                have st := storeAt_row (T := 30) (C := CO) (Blk.new w7 30 #[.int .u8 0, .int .u8 0, .int .u8 0, .int .u8 0, .int .i64 0, .int .i64 0]) (by rw [HCO.out.1]; kernel_rfl) (by rw [HCO.out.1]; rfl) HCO.out.2.2
                have HZ8 := Lib.hid ((HZ7.alloc (.cells #[.int .u8 0, .int .u8 0, .int .u8 0, .int .u8 0, .int .i64 0, .int .i64 0] 30)).row_other (b' := p8) (by omega) CO)
                have HB8 := Lib.hid ((HB7.alloc (.cells #[.int .u8 0, .int .u8 0, .int .u8 0, .int .u8 0, .int .i64 0, .int .i64 0] 30)).row_other (b' := p8) (by omega) CO)
                have HW8 := Lib.hid (Below.setRow' (b := p8) (by omega) (HW7.alloc (by omega) (.cells #[.int .u8 0, .int .u8 0, .int .u8 0, .int .u8 0, .int .i64 0, .int .i64 0] 30)) CO)
                have HP8 := Lib.hid (Blk.row (Blk.new w7 30 #[.int .u8 0, .int .u8 0, .int .u8 0, .int .u8 0, .int .i64 0, .int .i64 0]) CO)
                rw [hp8] at HP8 st
                clear HZ7 HB7 HW7 hlz hlb HZ6 HB6 HW6 hb hb1 hb0 OC d2
                go_upto_region 19 with (refine op_store (p := .pointer (some ⟨p8, 0, none⟩)) (C := .agg CO) 30 (.tmp 8) (.tmp 103) rfl rfl rfl rfl rfl st ?_)
                clear st
                generalize (w7.alloc (.cells #[.int .u8 0, .int .u8 0, .int .u8 0, .int .u8 0, .int .i64 0, .int .i64 0] 30)).setRow p8 CO = W8 at *
                clear hp8
                clear w7
                rcases b with _ | _
                · have hox := HOX.out.2 rfl
                  have HG4 : Hid (G = none) := Lib.hid (by rw [HG3.out, outsW_bad HI.out.2.1 hox]; rfl)
                  clear HG3 HOX
                  have HG3 := HG4
                  clear hox j1 j2 j3 u1
                  have la := loadAt_blk (T := 34) HB8.out Tryz.underlying34 rfl (by rw [enC_size]; kernel_rfl)
                  have st := storeAt_row (T := 34) (C := enC (gE n0 n1 n2 n3 k sf tv l 0 0)) HZ8.out (by rw [enC_size]; kernel_rfl) (by rw [enC_size, enC_size]) (enC_one _)
                  have HF := Lib.hid (HZ8.out.row (enC (gE n0 n1 n2 n3 k sf tv l 0 0)))
                  have HX := Lib.hid (Below.setRow' (Nat.le_refl _) HW8.out (enC (gE n0 n1 n2 n3 k sf tv l 0 0)))
                  clear HZ8 HB8 HW8
                  go_wp2_with (first | refine op_load (p := .pointer (some ⟨b4, 0, none⟩)) 34 (.tmp 4) rfl rfl rfl la ?_ | refine op_store (p := .pointer (some ⟨p0, 0, none⟩)) (C := .agg (enC (gE n0 n1 n2 n3 k sf tv l 0 0))) 34 (.tmp 2) (.tmp 107) rfl rfl rfl rfl rfl st ?_)
                  clear st la
                  generalize W8.setRow p0 (enC (gE n0 n1 n2 n3 k sf tv l 0 0)) = WF at *
                  have lf := loadVar_blk (T := 34) HF.out Tryz.underlying34 rfl (by rw [enC_size]; kernel_rfl)
                  (try simp only [Exit.inBlock, Exit.then])
                  refine bodyPost_ret (results_cell_tmp Tryz.results69 rfl rfl lf) rfl ?_
                  exact ⟨_, _, rfl, HG3.out, by rw [hp0]; exact HX.out⟩
                · have hox := HOX.out.1 rfl
                  have HO9 : Hid (outsW (ys.take (i + 1)) = some (l ++ [o])) := Lib.hid (outsW_good HI.out.2.1 HO.out hox)
                  clear hox
                  have hl4 : l.length < 4 := by rw [HI.out.2.2]; have := HI.out.1; have := HS.out.2.2; omega
                  have hi4 : i < 4 := by rw [← HI.out.2.2]; exact hl4
                  have k1 : ¬ (4 : Int) ≤ (i : Int) := by omega
                  have k2 : (i : Int) < 4 := by omega
                  have lo := loadAt_blk (T := 30) HP8.out Tryz.underlying30 rfl (by rw [HCO.out.1]; kernel_rfl)
                  have hsz : CO.size = 6 := HCO.out.1
                  have st := storeAt_run (T := 30) (w := W8) (b := b4) (off := 7 + i * 6) (C := CO) (by rw [hsz]; kernel_rfl) (fun j hj => by rw [hsz] at hj; exact enC_cell HB8.out (7 + i * 6 + j) (by omega)) (fun j hj => HB8.out.free _) HCO.out.2.1
                  have HZ9 := Lib.hid (Blk.otherCells (b' := b4) (Nat.ne_of_lt HL.out) CO.toList (7 + i * 6) W8 HZ8.out)
                  have HB9 := Lib.hid (HPC.out W8 HB8.out hi4)
                  have HW9 := Lib.hid (Below.setCells' (b := b4) (Nat.le_of_lt HL.out) CO.toList (7 + i * 6) W8 HW8.out)
                  clear HZ8 HB8 HW8 HP8 hl4 hi4 hsz
                  have e1 : IntKind.i64.wrap ((i : Int) + 1) = (i : Int) + 1 := IntWalk.i64_in _ (by omega)
                  go_wp2_with (first
                    | refine op_load (p := .pointer (some ⟨p8, 0, none⟩)) (C := .agg CO) 30 (.tmp 8) rfl rfl rfl lo ?_
                    | refine op_store (p := .pointer (some ⟨b4, 7 + i * 6, none⟩)) (C := .agg CO) 30 (.tmp 111) (.tmp 109) rfl rfl rfl rfl rfl st ?_)
                  go_roundw
                  case rel => exact ⟨i + 1, l ++ [o], HI.out.1, by simp, by simp [HI.out.2.2], HO9, HZ9, HB9, HW9⟩
                  case measure => have := HI.out.1; simp [intOf]; omega
              · obtain rfl : i = s := by omega
                have u1 : decide ((i : Int) < (i : Int)) = false := decide_eq_false (by omega)
                have HG4 : Hid (G = some (gE n0 n1 n2 n3 k sf tv l 0 0)) := Lib.hid (by
                  have h := HO.out
                  rw [List.take_of_length_le (by rw [HS.out.1]; exact Nat.le_refl _)] at h
                  rw [HG3.out, h]; rfl)
                clear HG3
                have HG3 := HG4
                have la := loadAt_blk (T := 34) HB6.out Tryz.underlying34 rfl (by rw [enC_size]; kernel_rfl)
                have st := storeAt_row (T := 34) (C := enC (gE n0 n1 n2 n3 k sf tv l 0 0)) HZ6.out (by rw [enC_size]; kernel_rfl) (by rw [enC_size, enC_size]) (enC_one _)
                have HF := Lib.hid (HZ6.out.row (enC (gE n0 n1 n2 n3 k sf tv l 0 0)))
                have HX := Lib.hid (Below.setRow' (Nat.le_refl _) HW6.out (enC (gE n0 n1 n2 n3 k sf tv l 0 0)))
                clear HZ6 HB6 HW6
                go_wp2_with (first | refine op_load (p := .pointer (some ⟨b4, 0, none⟩)) 34 (.tmp 4) rfl rfl rfl la ?_ | refine op_store (p := .pointer (some ⟨p0, 0, none⟩)) (C := .agg (enC (gE n0 n1 n2 n3 k sf tv l 0 0))) 34 (.tmp 2) (.tmp 113) rfl rfl rfl rfl rfl st ?_)
                clear st la
                generalize wr.setRow p0 (enC (gE n0 n1 n2 n3 k sf tv l 0 0)) = WF at *
                have lf := loadVar_blk (T := 34) HF.out Tryz.underlying34 rfl (by rw [enC_size]; kernel_rfl)
                (try simp only [Exit.inBlock, Exit.then])
                refine bodyPost_ret (results_cell_tmp Tryz.results69 rfl rfl lf) rfl ?_
                exact ⟨_, _, rfl, HG3.out, by rw [hp0]; exact HX.out⟩
end Go.Proofs.YtpkmibmombpjpaaGreatDoor
