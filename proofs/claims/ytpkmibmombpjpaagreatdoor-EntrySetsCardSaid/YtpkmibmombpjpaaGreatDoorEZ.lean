/- slices.BinarySearchFunc with compareKeys. -/
import Derived.Test.YtpkmibmombpjpaaGreatDoorEJ
import Derived.Test.YtpkmibmombpjpaaGreatDoorEC
import Derived.Test.YtpkmibmombpjpaaGreatDoorFlow5
set_option linter.unusedSimpArgs false
namespace Go.Proofs.YtpkmibmombpjpaaGreatDoor
open Go Go.RowKit

/-- The entries before k are less in their keys, those from k on are not. -/
structure Split (l : List En) (e : En) (k : Nat) : Prop where
  le : k ≤ l.length
  low : ∀ a x, a < k → l[a]? = some x → cmpK x e < 0
  high : ∀ a x, k ≤ a → l[a]? = some x → 0 ≤ cmpK x e
/-- Keys do not fall. -/
def Mono (l : List En) : Prop := ∀ (a b : Nat) (x y : En), a ≤ b → l[a]? = some x → l[b]? = some y → cmpK x y ≤ 0
set_option maxRecDepth 100000 in
set_option maxHeartbeats 4000000 in
theorem bsearch_any (l : List En) (e : En) (hn : l.length ≤ 1000000) (hmo : ∀ (a b : Nat) (x y : En), a ≤ b → l[a]? = some x → l[b]? = some y → cmpK y e < 0 → cmpK x e < 0) (v : Value) (w : World) (hv : ES w v l) : Calls Tryz.prog 79 #[v, .agg (enC e), .func (.func 54) #[] #[]] w (fun r w' => (∃ k b, r = .returned (.tuple #[.int .i64 ((k : Nat) : Int), .bool b]) ∧ Split l e k) ∧ Below w.heap.size w w') := by
  obtain ⟨A, cp, rfl, -⟩ := hv.len
  have HV := Lib.hid hv
  have HMO := Lib.hid hmo
  obtain ⟨n, hn1⟩ : ∃ n, l.length = n := ⟨_, rfl⟩
  rw [hn1] at hn HV ⊢
  have HN := Lib.hid hn1
  clear hv hmo hn1
  go_enter Tryz.func79, Tryz.ntmps79
  go_upto_region 1 with fail
  have HT := Lib.hid (Blk.new w 34 (enC e))
  have HW := Lib.hid (below1 w (.cells (enC e) 34))
  generalize w.alloc (.cells (enC e) 34) = W1 at *
  generalize hp : w.heap.size = p at *
  go_upto_block 0 with fail
  go_cut [9] (fun s9 wx => ∃ k : Nat, s9 = .int .i64 (k : Int) ∧ Hid (Split l e k) ∧ Hid (Blk wx p 34 (enC e)) ∧ Hid (Below p w wx))
  case first =>
    go_wp2_with fail
    go_loopw [9, 10] (fun s9 s10 wr => ∃ i j : Nat, s9 = .int .i64 (i : Int) ∧ s10 = .int .i64 (j : Int) ∧ i ≤ j ∧ j ≤ n ∧ Hid (∀ a x, a < i → l[a]? = some x → cmpK x e < 0) ∧ Hid (∀ a x, j ≤ a → l[a]? = some x → 0 ≤ cmpK x e) ∧ Hid (Blk wr p 34 (enC e)) ∧ Hid (Below p w wr)) (fun s9 s10 _ => (intOf s10).toNat - (intOf s9).toNat)
    case atStart => exact ⟨0, n, rfl, rfl, Nat.zero_le _, Nat.le_refl _, Lib.hid (fun a x h => by omega), Lib.hid (fun a x h1 h2 => by have := (List.getElem?_eq_some_iff.1 h2).1; have := HN.out; omega), HT, HW⟩
    case round =>
      clear HT HW
      obtain ⟨i, j, rfl, rfl, hij, hjn, HLO, HHI, HT, HW⟩ := hrel
      by_cases hlt : i < j
      · have u1 : decide ((i : Int) < (j : Int)) = true := decide_eq_true (by omega)
        have e1 : IntKind.i64.wrap ((i : Int) + (j : Int)) = (i : Int) + (j : Int) := IntWalk.i64_in _ (by omega)
        go_upto_region 5 with fail
        obtain ⟨h, hh⟩ : ∃ h, (i + j) / 2 = h := ⟨_, rfl⟩
        have eh : ((i : Int) + (j : Int)) / 2 = (h : Int) := by omega
        rw [eh]
        obtain ⟨x, hx⟩ : ∃ x, l[h]? = some x := ⟨_, List.getElem?_eq_getElem (by rw [HN.out]; omega)⟩
        obtain ⟨bl, ol, rfl⟩ := HV.out.ptr (by rw [HN.out]; omega)
        have lo1 := fun W (hb : Below w.heap.size w W) => HV.out.load hx hb
        have CK := Lib.hid (fun W => cmpK_any x e W)
        have HX := Lib.hid hx
        have HH := Lib.hid (show i ≤ h ∧ h < j ∧ j ≤ n by omega)
        have j0 : (0 : Int) ≤ (h : Int) := by omega
        have j1 : (h : Int) < (n : Int) := by omega
        have j2 : ¬ (n : Int) ≤ (h : Int) := by omega
        have j3 : ¬ n ≤ h := by omega
        have e3 : IntKind.i64.wrap ((h : Int) + 1) = (h : Int) + 1 := IntWalk.i64_in _ (by omega)
        have HT2 : Hid (Blk wr.drew p 34 (enC e)) := HT
        have HW2 := Lib.hid HW.out.drew
        refine rest_begin (by kernel_rfl) ?_
        obtain ⟨W2, hW2⟩ : ∃ W2, wr.drew = W2 := ⟨_, rfl⟩
        rw [hW2] at HT2 HW2 ⊢
        clear hW2 HT HW e1 eh hh hx u1 hlt hij hjn
        clear wr
        refine rest_flow3 [some 24, some 25, some 26, some 27, some 28, some 29, some 30] [Sp.is (.func (.func 54) #[] #[]), Sp.is (.slice (some ⟨bl, ol, none⟩) n cp), Sp.is (.int .i64 (h : Int)), Sp.is (.pointer (some ⟨bl, ol + h * 33, none⟩)), Sp.is (.agg (enC x)), Sp.is (.agg (enC e)), Sp.is (.int .i64 (cmpK x e))] [false, false, false, false, false, false, false] 7 (by kernel_rfl) (by kernel_rfl) (fun u F hF => ?_) (fun u w' hbF hsF hold hap => ?_)
        case refine_1 =>
          have E2 : F.eval (.tmp 2) = (.func (.func 54) #[] #[]) := (congrArg (fun a => Act.eval a (.tmp 2)) hF).trans (eval_out _ 0 _ (by decide))
          have E0 : F.eval (.tmp 0) = (.slice (some ⟨bl, ol, none⟩) n cp) := (congrArg (fun a => Act.eval a (.tmp 0)) hF).trans (eval_out _ 0 _ (by decide))
          have E11 : F.eval (.tmp 11) = (.int .i64 (h : Int)) := (congrArg (fun a => Act.eval a (.tmp 11)) hF).trans (eval_out _ 0 _ (by decide))
          have D25 : F.eval (.tmp 25) = u 1 := (congrArg (fun a => Act.eval a (.tmp 25)) hF).trans (eval_in _ 0 1 _ (by decide) (by omega) rfl (of_decide_eq_true (by kernel_rfl)))
          have D26 : F.eval (.tmp 26) = u 2 := (congrArg (fun a => Act.eval a (.tmp 26)) hF).trans (eval_in _ 0 2 _ (by decide) (by omega) rfl (of_decide_eq_true (by kernel_rfl)))
          have D27 : F.eval (.tmp 27) = u 3 := (congrArg (fun a => Act.eval a (.tmp 27)) hF).trans (eval_in _ 0 3 _ (by decide) (by omega) rfl (of_decide_eq_true (by kernel_rfl)))
          have E4 : F.eval (.tmp 4) = (.pointer (some ⟨p, 0, none⟩)) := (congrArg (fun a => Act.eval a (.tmp 4)) hF).trans (eval_out _ 0 _ (by decide))
          have D24 : F.eval (.tmp 24) = u 0 := (congrArg (fun a => Act.eval a (.tmp 24)) hF).trans (eval_in _ 0 0 _ (by decide) (by omega) rfl (of_decide_eq_true (by kernel_rfl)))
          have D28 : F.eval (.tmp 28) = u 4 := (congrArg (fun a => Act.eval a (.tmp 28)) hF).trans (eval_in _ 0 4 _ (by decide) (by omega) rfl (of_decide_eq_true (by kernel_rfl)))
          have D29 : F.eval (.tmp 29) = u 5 := (congrArg (fun a => Act.eval a (.tmp 29)) hF).trans (eval_in _ 0 5 _ (by decide) (by omega) rfl (of_decide_eq_true (by kernel_rfl)))
          clear hF
          refine ⟨?_, ?_, ?_, ?_, ?_, ?_, ?_, trivial⟩
          · intro w1 hb hd K hK
            have e2 := E2
            exact op_val (v := (.func (.func 54) #[] #[])) rfl (by simp only [execOp, List.map_toArray, List.map_cons, List.map_nil, e2]; go_simp) (hK _ _ (show _ = _ from rfl) (Below.refl _ _) (Fresh.no _ _ _))
          · intro w1 hb hd K hK
            have e0 := E0
            exact op_val (v := (.slice (some ⟨bl, ol, none⟩) n cp)) rfl (by simp only [execOp, List.map_toArray, List.map_cons, List.map_nil, e0]; go_simp) (hK _ _ (show _ = _ from rfl) (Below.refl _ _) (Fresh.no _ _ _))
          · intro w1 hb hd K hK
            have e11 := E11
            exact op_val (v := (.int .i64 (h : Int))) rfl (by simp only [execOp, List.map_toArray, List.map_cons, List.map_nil, e11]; go_simp) (hK _ _ (show _ = _ from rfl) (Below.refl _ _) (Fresh.no _ _ _))
          · intro w1 hb hd K hK
            have e25 := D25.trans (show u 1 = _ from hd ⟨1, .data⟩ (by simp) rfl (by omega))
            have e26 := D26.trans (show u 2 = _ from hd ⟨2, .data⟩ (by simp) rfl (by omega))
            exact op_val (v := (.pointer (some ⟨bl, ol + h * 33, none⟩))) rfl (by simp only [execOp, List.map_toArray, List.map_cons, List.map_nil, e25, e26]; go_simp) (hK _ _ (show _ = _ from rfl) (Below.refl _ _) (Fresh.no _ _ _))
          · intro w1 hb hd K hK
            have e27 := D27.trans (show u 3 = _ from hd ⟨3, .data⟩ (by simp) rfl (by omega))
            exact op_val (v := (.agg (enC x))) rfl (exec_load rfl e27 (lo1 w1 (by rw [hp]; exact HW2.out.trans (hb.mono (by rw [← hp]; exact HW2.out.size))))) (hK _ _ (show _ = _ from rfl) (Below.refl _ _) (Fresh.no _ _ _))
          · intro w1 hb hd K hK
            have e4 := E4
            exact op_val (v := (.agg (enC e))) rfl (exec_load rfl e4 (loadAt_blk (HT2.out.keep hb HT2.out.lt) Tryz.underlying34 rfl (by rw [enC_size]; kernel_rfl))) (hK _ _ (show _ = _ from rfl) (Below.refl _ _) (Fresh.no _ _ _))
          · intro w1 hb hd K hK
            have e24 := D24.trans (show u 0 = _ from hd ⟨0, .data⟩ (by simp) rfl (by omega))
            have e28 := D28.trans (show u 4 = _ from hd ⟨4, .data⟩ (by simp) rfl (by omega))
            have e29 := D29.trans (show u 5 = _ from hd ⟨5, .data⟩ (by simp) rfl (by omega))
            have t24 := eval_get e24
            have t28 := eval_get e28
            have t29 := eval_get e29
            refine op_call (R := fun v w2 => v = (.int .i64 (cmpK x e)) ∧ Below w1.heap.size w1 w2) (f := 54) (args := #[.agg (enC x), .agg (enC e)]) rfl (by simp only [execOp]; go_simp) ((CK.out w1).mono fun e w2 hh => ⟨_, hh.1, rfl, hh.2⟩) (fun v w2 hh => hK _ _ hh.1 hh.2 (Fresh.no _ _ _))
        have hv24 : u 0 = (.func (.func 54) #[] #[]) := (show u 0 = _ from hsF 0 (by omega) (by omega))
        have hv25 : u 1 = (.slice (some ⟨bl, ol, none⟩) n cp) := (show u 1 = _ from hsF 1 (by omega) (by omega))
        have hv26 : u 2 = (.int .i64 (h : Int)) := (show u 2 = _ from hsF 2 (by omega) (by omega))
        have hv27 : u 3 = (.pointer (some ⟨bl, ol + h * 33, none⟩)) := (show u 3 = _ from hsF 3 (by omega) (by omega))
        have hv28 : u 4 = (.agg (enC x)) := (show u 4 = _ from hsF 4 (by omega) (by omega))
        have hv29 : u 5 = (.agg (enC e)) := (show u 5 = _ from hsF 5 (by omega) (by omega))
        have hv30 : u 6 = (.int .i64 (cmpK x e)) := (show u 6 = _ from hsF 6 (by omega) (by omega))
        simp only [putRow, hv24, hv25, hv26, hv27, hv28, hv29, hv30, Act.put, List.setIfInBounds_toArray, List.set_cons_succ, List.set_cons_zero]
        clear hsF hold hap hv24 hv25 hv26 hv27 hv28 hv29 hv30
        have HT3 := Lib.hid (HT2.out.keep hbF HT2.out.lt)
        have HW3 := Lib.hid (HW2.out.trans (hbF.mono (by rw [← hp]; exact HW2.out.size)))
        clear HT2 HW2 hbF lo1 CK j0 j1 j2 j3
        clear W2
        rcases Int.lt_or_le (cmpK x e) 0 with hc | hc
        · have t1 : decide (cmpK x e < 0) = true := decide_eq_true hc
          have HLO2 : Hid (∀ a y, a < h + 1 → l[a]? = some y → cmpK y e < 0) := Lib.hid (fun a y ha hy => HMO.out a h y x (by omega) hy HX.out hc)
          clear hc
          refine rest_forced 1 (by kernel_rfl) ?_
          simp only [List.drop_succ_cons, List.drop_zero, List.take_succ_cons, List.take_zero]
          go_wp2_with fail
          refine rest_done rfl ?_
          go_wp2_with fail
          go_roundw
          case rel => exact ⟨h + 1, j, by simp, rfl, by have := HH.out; omega, HH.out.2.2, HLO2, HHI, HT3, HW3⟩
          case measure => have := HH.out; simp only [intOf]; omega
        · have t1 : decide (cmpK x e < 0) = false := decide_eq_false (by omega)
          have HHI2 : Hid (∀ a y, h ≤ a → l[a]? = some y → 0 ≤ cmpK y e) := Lib.hid (fun a y ha hy => by
            rcases Int.lt_or_le (cmpK y e) 0 with hn | hn
            · have := HMO.out h a x y ha HX.out hy hn
              omega
            · exact hn)
          clear hc
          refine rest_forced 1 (by kernel_rfl) ?_
          simp only [List.drop_succ_cons, List.drop_zero, List.take_succ_cons, List.take_zero]
          go_wp2_with fail
          refine rest_done rfl ?_
          go_wp2_with fail
          go_roundw
          case rel => exact ⟨i, h, rfl, rfl, HH.out.1, by have := HH.out; omega, HLO, HHI2, HT3, HW3⟩
          case measure => have := HH.out; simp only [intOf]; omega
      · obtain rfl : i = j := by omega
        have u1 : decide ((i : Int) < (i : Int)) = false := decide_eq_false (by omega)
        have HSP : Hid (Split l e i) := Lib.hid ⟨by rw [HN.out]; exact hjn, HLO.out, HHI.out⟩
        clear hlt hij
        go_wp2_with fail
        go_meet
        exact ⟨i, rfl, HSP, HT, HW⟩
  case rest =>
    obtain ⟨k, rfl, HSP, HT2, HW2⟩ := hcut
    clear HT HW
    have hk := HSP.out.le
    rw [HN.out] at hk
    by_cases hlt : k < n
    · have u1 : decide ((k : Int) < (n : Int)) = true := decide_eq_true (by omega)
      obtain ⟨x, hx⟩ : ∃ x, l[k]? = some x := ⟨_, List.getElem?_eq_getElem (by rw [HN.out]; omega)⟩
      obtain ⟨bl, ol, rfl⟩ := HV.out.ptr (by rw [HN.out]; omega)
      have lo1 := fun W (hb : Below w.heap.size w W) => HV.out.load hx hb
      have CK := Lib.hid (fun W => cmpK_any x e W)
      have j0 : (0 : Int) ≤ (k : Int) := by omega
      have j1 : (k : Int) < (n : Int) := by omega
      have j2 : ¬ (n : Int) ≤ (k : Int) := by omega
      have j3 : ¬ n ≤ k := by omega
      obtain ⟨q, hq⟩ : ∃ q, (cmpK x e == 0) = q := ⟨_, rfl⟩
      go_upto_region 8 with fail
      have HT3 : Hid (Blk wc.drew p 34 (enC e)) := HT2
      have HW3 := Lib.hid HW2.out.drew
      refine rest_begin (by kernel_rfl) ?_
      obtain ⟨W2, hW2⟩ : ∃ W2, wc.drew = W2 := ⟨_, rfl⟩
      rw [hW2] at HT3 HW3 ⊢
      clear hW2 HT2 HW2 hx hlt hk
      clear wc
      refine rest_flow3 [some 35, some 36, some 37, some 38, some 39, some 40, some 41, some 42, some 43, some 44, some 45, some 46, some 47, some 48, some 6] [Sp.is (.int .i64 (k : Int)), Sp.is (.int .i64 (k : Int)), Sp.is (.int .i64 (n : Int)), Sp.is (.bool true), Sp.is (.bool true), Sp.is (.func (.func 54) #[] #[]), Sp.is (.slice (some ⟨bl, ol, none⟩) n cp), Sp.is (.int .i64 (k : Int)), Sp.is (.pointer (some ⟨bl, ol + k * 33, none⟩)), Sp.is (.agg (enC x)), Sp.is (.agg (enC e)), Sp.is (.int .i64 (cmpK x e)), Sp.is (.bool q), Sp.is (.bool q), Sp.is (.int .i64 (k : Int))] [false, false, false, false, false, false, false, false, false, false, false, false, false, false, false] 15 (by kernel_rfl) (by kernel_rfl) (fun u F hF => ?_) (fun u w' hbF hsF hold hap => ?_)
      case refine_1 =>
        have E9 : F.eval (.tmp 9) = (.int .i64 (k : Int)) := (congrArg (fun a => Act.eval a (.tmp 9)) hF).trans (eval_out _ 0 _ (by decide))
        have E8 : F.eval (.tmp 8) = (.int .i64 (n : Int)) := (congrArg (fun a => Act.eval a (.tmp 8)) hF).trans (eval_out _ 0 _ (by decide))
        have D36 : F.eval (.tmp 36) = u 1 := (congrArg (fun a => Act.eval a (.tmp 36)) hF).trans (eval_in _ 0 1 _ (by decide) (by omega) rfl (of_decide_eq_true (by kernel_rfl)))
        have D37 : F.eval (.tmp 37) = u 2 := (congrArg (fun a => Act.eval a (.tmp 37)) hF).trans (eval_in _ 0 2 _ (by decide) (by omega) rfl (of_decide_eq_true (by kernel_rfl)))
        have D38 : F.eval (.tmp 38) = u 3 := (congrArg (fun a => Act.eval a (.tmp 38)) hF).trans (eval_in _ 0 3 _ (by decide) (by omega) rfl (of_decide_eq_true (by kernel_rfl)))
        have E2 : F.eval (.tmp 2) = (.func (.func 54) #[] #[]) := (congrArg (fun a => Act.eval a (.tmp 2)) hF).trans (eval_out _ 0 _ (by decide))
        have D39 : F.eval (.tmp 39) = u 4 := (congrArg (fun a => Act.eval a (.tmp 39)) hF).trans (eval_in _ 0 4 _ (by decide) (by omega) rfl (of_decide_eq_true (by kernel_rfl)))
        have E0 : F.eval (.tmp 0) = (.slice (some ⟨bl, ol, none⟩) n cp) := (congrArg (fun a => Act.eval a (.tmp 0)) hF).trans (eval_out _ 0 _ (by decide))
        have D41 : F.eval (.tmp 41) = u 6 := (congrArg (fun a => Act.eval a (.tmp 41)) hF).trans (eval_in _ 0 6 _ (by decide) (by omega) rfl (of_decide_eq_true (by kernel_rfl)))
        have D42 : F.eval (.tmp 42) = u 7 := (congrArg (fun a => Act.eval a (.tmp 42)) hF).trans (eval_in _ 0 7 _ (by decide) (by omega) rfl (of_decide_eq_true (by kernel_rfl)))
        have D43 : F.eval (.tmp 43) = u 8 := (congrArg (fun a => Act.eval a (.tmp 43)) hF).trans (eval_in _ 0 8 _ (by decide) (by omega) rfl (of_decide_eq_true (by kernel_rfl)))
        have E4 : F.eval (.tmp 4) = (.pointer (some ⟨p, 0, none⟩)) := (congrArg (fun a => Act.eval a (.tmp 4)) hF).trans (eval_out _ 0 _ (by decide))
        have D40 : F.eval (.tmp 40) = u 5 := (congrArg (fun a => Act.eval a (.tmp 40)) hF).trans (eval_in _ 0 5 _ (by decide) (by omega) rfl (of_decide_eq_true (by kernel_rfl)))
        have D44 : F.eval (.tmp 44) = u 9 := (congrArg (fun a => Act.eval a (.tmp 44)) hF).trans (eval_in _ 0 9 _ (by decide) (by omega) rfl (of_decide_eq_true (by kernel_rfl)))
        have D45 : F.eval (.tmp 45) = u 10 := (congrArg (fun a => Act.eval a (.tmp 45)) hF).trans (eval_in _ 0 10 _ (by decide) (by omega) rfl (of_decide_eq_true (by kernel_rfl)))
        have D46 : F.eval (.tmp 46) = u 11 := (congrArg (fun a => Act.eval a (.tmp 46)) hF).trans (eval_in _ 0 11 _ (by decide) (by omega) rfl (of_decide_eq_true (by kernel_rfl)))
        have D47 : F.eval (.tmp 47) = u 12 := (congrArg (fun a => Act.eval a (.tmp 47)) hF).trans (eval_in _ 0 12 _ (by decide) (by omega) rfl (of_decide_eq_true (by kernel_rfl)))
        have D35 : F.eval (.tmp 35) = u 0 := (congrArg (fun a => Act.eval a (.tmp 35)) hF).trans (eval_in _ 0 0 _ (by decide) (by omega) rfl (of_decide_eq_true (by kernel_rfl)))
        clear hF
        refine ⟨?_, ?_, ?_, ?_, ?_, ?_, ?_, ?_, ?_, ?_, ?_, ?_, ?_, ?_, ?_, trivial⟩
        · intro w1 hb hd K hK
          have e9 := E9
          exact op_val (v := (.int .i64 (k : Int))) rfl (by simp only [execOp, List.map_toArray, List.map_cons, List.map_nil, e9]; go_simp) (hK _ _ (show _ = _ from rfl) (Below.refl _ _) (Fresh.no _ _ _))
        · intro w1 hb hd K hK
          have e9 := E9
          exact op_val (v := (.int .i64 (k : Int))) rfl (by simp only [execOp, List.map_toArray, List.map_cons, List.map_nil, e9]; go_simp) (hK _ _ (show _ = _ from rfl) (Below.refl _ _) (Fresh.no _ _ _))
        · intro w1 hb hd K hK
          have e8 := E8
          exact op_val (v := (.int .i64 (n : Int))) rfl (by simp only [execOp, List.map_toArray, List.map_cons, List.map_nil, e8]; go_simp) (hK _ _ (show _ = _ from rfl) (Below.refl _ _) (Fresh.no _ _ _))
        · intro w1 hb hd K hK
          have e36 := D36.trans (show u 1 = _ from hd ⟨1, .data⟩ (by simp) rfl (by omega))
          have e37 := D37.trans (show u 2 = _ from hd ⟨2, .data⟩ (by simp) rfl (by omega))
          exact op_val (v := (.bool true)) rfl (by simp only [execOp, List.map_toArray, List.map_cons, List.map_nil, e36, e37]; go_simp) (hK _ _ (show _ = _ from rfl) (Below.refl _ _) (Fresh.no _ _ _))
        · intro w1 hb hd K hK
          have e38 := D38.trans (show u 3 = _ from hd ⟨3, .data⟩ (by simp) rfl (by omega))
          exact op_val (v := (.bool true)) rfl (by simp only [execOp, List.map_toArray, List.map_cons, List.map_nil, e38]; go_simp) (hK _ _ (show _ = _ from rfl) (Below.refl _ _) (Fresh.no _ _ _))
        · intro w1 hb hd K hK
          have e2 := E2
          have g := D39.trans (show u 4 = .bool true from hd ⟨4, .guard⟩ (by simp) rfl (by omega))
          exact op_val_w (v := (.func (.func 54) #[] #[])) (wanted_of (j := 4) (s := 39) (b := true) (by kernel_rfl) (by kernel_rfl) g) (by simp only [execOp, List.map_toArray, List.map_cons, List.map_nil, e2]; go_simp) (hK _ _ (show _ = _ from rfl) (Below.refl _ _) (Fresh.no _ _ _))
        · intro w1 hb hd K hK
          have e0 := E0
          have g := D39.trans (show u 4 = .bool true from hd ⟨4, .guard⟩ (by simp) rfl (by omega))
          exact op_val_w (v := (.slice (some ⟨bl, ol, none⟩) n cp)) (wanted_of (j := 4) (s := 39) (b := true) (by kernel_rfl) (by kernel_rfl) g) (by simp only [execOp, List.map_toArray, List.map_cons, List.map_nil, e0]; go_simp) (hK _ _ (show _ = _ from rfl) (Below.refl _ _) (Fresh.no _ _ _))
        · intro w1 hb hd K hK
          have e9 := E9
          have g := D39.trans (show u 4 = .bool true from hd ⟨4, .guard⟩ (by simp) rfl (by omega))
          exact op_val_w (v := (.int .i64 (k : Int))) (wanted_of (j := 4) (s := 39) (b := true) (by kernel_rfl) (by kernel_rfl) g) (by simp only [execOp, List.map_toArray, List.map_cons, List.map_nil, e9]; go_simp) (hK _ _ (show _ = _ from rfl) (Below.refl _ _) (Fresh.no _ _ _))
        · intro w1 hb hd K hK
          have e41 := D41.trans (show u 6 = _ from hd ⟨6, .data⟩ (by simp) rfl (by omega))
          have e42 := D42.trans (show u 7 = _ from hd ⟨7, .data⟩ (by simp) rfl (by omega))
          have g := D39.trans (show u 4 = .bool true from hd ⟨4, .guard⟩ (by simp) rfl (by omega))
          exact op_val_w (v := (.pointer (some ⟨bl, ol + k * 33, none⟩))) (wanted_of (j := 4) (s := 39) (b := true) (by kernel_rfl) (by kernel_rfl) g) (by simp only [execOp, List.map_toArray, List.map_cons, List.map_nil, e41, e42]; go_simp) (hK _ _ (show _ = _ from rfl) (Below.refl _ _) (Fresh.no _ _ _))
        · intro w1 hb hd K hK
          have e43 := D43.trans (show u 8 = _ from hd ⟨8, .data⟩ (by simp) rfl (by omega))
          have g := D39.trans (show u 4 = .bool true from hd ⟨4, .guard⟩ (by simp) rfl (by omega))
          exact op_val_w (v := (.agg (enC x))) (wanted_of (j := 4) (s := 39) (b := true) (by kernel_rfl) (by kernel_rfl) g) (exec_load rfl e43 (lo1 w1 (by rw [hp]; exact HW3.out.trans (hb.mono (by rw [← hp]; exact HW3.out.size))))) (hK _ _ (show _ = _ from rfl) (Below.refl _ _) (Fresh.no _ _ _))
        · intro w1 hb hd K hK
          have e4 := E4
          have g := D39.trans (show u 4 = .bool true from hd ⟨4, .guard⟩ (by simp) rfl (by omega))
          exact op_val_w (v := (.agg (enC e))) (wanted_of (j := 4) (s := 39) (b := true) (by kernel_rfl) (by kernel_rfl) g) (exec_load rfl e4 (loadAt_blk (HT3.out.keep hb HT3.out.lt) Tryz.underlying34 rfl (by rw [enC_size]; kernel_rfl))) (hK _ _ (show _ = _ from rfl) (Below.refl _ _) (Fresh.no _ _ _))
        · intro w1 hb hd K hK
          have e40 := D40.trans (show u 5 = _ from hd ⟨5, .data⟩ (by simp) rfl (by omega))
          have e44 := D44.trans (show u 9 = _ from hd ⟨9, .data⟩ (by simp) rfl (by omega))
          have e45 := D45.trans (show u 10 = _ from hd ⟨10, .data⟩ (by simp) rfl (by omega))
          have g := D39.trans (show u 4 = .bool true from hd ⟨4, .guard⟩ (by simp) rfl (by omega))
          have t40 := eval_get e40
          have t44 := eval_get e44
          have t45 := eval_get e45
          refine op_call_w (R := fun v w2 => v = (.int .i64 (cmpK x e)) ∧ Below w1.heap.size w1 w2) (f := 54) (args := #[.agg (enC x), .agg (enC e)]) (wanted_of (j := 4) (s := 39) (b := true) (by kernel_rfl) (by kernel_rfl) g) (by simp only [execOp]; go_simp) ((CK.out w1).mono fun e w2 hh => ⟨_, hh.1, rfl, hh.2⟩) (fun v w2 hh => hK _ _ hh.1 hh.2 (Fresh.no _ _ _))
        · intro w1 hb hd K hK
          have e46 := D46.trans (show u 11 = _ from hd ⟨11, .data⟩ (by simp) rfl (by omega))
          have g := D39.trans (show u 4 = .bool true from hd ⟨4, .guard⟩ (by simp) rfl (by omega))
          exact op_val_w (v := (.bool q)) (wanted_of (j := 4) (s := 39) (b := true) (by kernel_rfl) (by kernel_rfl) g) (by simp only [execOp, List.map_toArray, List.map_cons, List.map_nil, e46]; go_simp) (hK _ _ (show _ = _ from rfl) (Below.refl _ _) (Fresh.no _ _ _))
        · intro w1 hb hd K hK
          have e39 := D39.trans (show u 4 = _ from hd ⟨4, .data⟩ (by simp) rfl (by omega))
          have e47 := D47.trans (show u 12 = _ from hd ⟨12, .data⟩ (by simp) rfl (by omega))
          exact op_val (v := (.bool q)) rfl (by simp only [execOp, List.map_toArray, List.map_cons, List.map_nil, e39, e47]; go_simp) (hK _ _ (show _ = _ from rfl) (Below.refl _ _) (Fresh.no _ _ _))
        · intro w1 hb hd K hK
          have e35 := D35.trans (show u 0 = _ from hd ⟨0, .data⟩ (by simp) rfl (by omega))
          exact op_val (v := (.int .i64 (k : Int))) rfl (by simp only [execOp, List.map_toArray, List.map_cons, List.map_nil, e35]; go_simp) (hK _ _ (show _ = _ from rfl) (Below.refl _ _) (Fresh.no _ _ _))
      have hv35 : u 0 = (.int .i64 (k : Int)) := (show u 0 = _ from hsF 0 (by omega) (by omega))
      have hv36 : u 1 = (.int .i64 (k : Int)) := (show u 1 = _ from hsF 1 (by omega) (by omega))
      have hv37 : u 2 = (.int .i64 (n : Int)) := (show u 2 = _ from hsF 2 (by omega) (by omega))
      have hv38 : u 3 = (.bool true) := (show u 3 = _ from hsF 3 (by omega) (by omega))
      have hv39 : u 4 = (.bool true) := (show u 4 = _ from hsF 4 (by omega) (by omega))
      have hv40 : u 5 = (.func (.func 54) #[] #[]) := (show u 5 = _ from hsF 5 (by omega) (by omega))
      have hv41 : u 6 = (.slice (some ⟨bl, ol, none⟩) n cp) := (show u 6 = _ from hsF 6 (by omega) (by omega))
      have hv42 : u 7 = (.int .i64 (k : Int)) := (show u 7 = _ from hsF 7 (by omega) (by omega))
      have hv43 : u 8 = (.pointer (some ⟨bl, ol + k * 33, none⟩)) := (show u 8 = _ from hsF 8 (by omega) (by omega))
      have hv44 : u 9 = (.agg (enC x)) := (show u 9 = _ from hsF 9 (by omega) (by omega))
      have hv45 : u 10 = (.agg (enC e)) := (show u 10 = _ from hsF 10 (by omega) (by omega))
      have hv46 : u 11 = (.int .i64 (cmpK x e)) := (show u 11 = _ from hsF 11 (by omega) (by omega))
      have hv47 : u 12 = (.bool q) := (show u 12 = _ from hsF 12 (by omega) (by omega))
      have hv48 : u 13 = (.bool q) := (show u 13 = _ from hsF 13 (by omega) (by omega))
      have hv6 : u 14 = (.int .i64 (k : Int)) := (show u 14 = _ from hsF 14 (by omega) (by omega))
      simp only [putRow, hv35, hv36, hv37, hv38, hv39, hv40, hv41, hv42, hv43, hv44, hv45, hv46, hv47, hv48, hv6, Act.put, List.setIfInBounds_toArray, List.set_cons_succ, List.set_cons_zero]
      clear hsF hold hap hv35 hv36 hv37 hv38 hv39 hv40 hv41 hv42 hv43 hv44 hv45 hv46 hv47 hv48 hv6
      have HW4 := Lib.hid (HW3.out.trans (hbF.mono (by rw [← hp]; exact HW3.out.size)))
      clear HT3 HW3 hbF lo1 CK j0 j1 j2 j3 u1 hq
      refine rest_forced 1 (by kernel_rfl) ?_
      simp only [List.drop_succ_cons, List.drop_zero, List.take_succ_cons, List.take_zero]
      go_wp2_with fail
      refine rest_done rfl ?_
      go_wp2_with fail
      go_ret2
      exact ⟨⟨k, q, rfl, HSP.out⟩, by rw [hp]; exact HW4.out⟩
    · obtain rfl : k = n := by omega
      have u1 : decide ((k : Int) < (k : Int)) = false := decide_eq_false (by omega)
      clear hlt hk
      go_upto_region 8 with fail
      go_quiet (fail)
      have HW4 := Lib.hid (below_drewN HW2.out nq)
      go_wp2_with fail
      go_ret2
      exact ⟨⟨k, _, rfl, HSP.out⟩, by rw [hp]; exact HW4.out⟩
end Go.Proofs.YtpkmibmombpjpaaGreatDoor
