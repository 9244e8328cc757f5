/- The reference's sets: inserting, what counts, versions; plain laws, no program. The reference's sets: IsSet, insert, Set, Merge, same, Counting, Versions. The reference's sets: same, Set, Merge, Counting, Versions. The reference's sets: Counting, Versions. -/
import Derived.Test.YtpkmibmombpjpaaGreatDoorSetM
import Derived.Test.YtpkmibmombpjpaaGreatDoorFlow8
import Derived.Test.YtpkmibmombpjpaaGreatDoorRnM
import Derived.Test.YtpkmibmombpjpaaGreatDoorApM
set_option linter.unusedSimpArgs false
namespace Go.Proofs.YtpkmibmombpjpaaGreatDoor
open Go Go.RowKit

theorem ins_skip {a e : En} {r : List En} (h : cmpE a e < 0) : insE e (a :: r) = a :: insE e r := by
  show (if cmpE a e < 0 then a :: insE e r else if eqEn a e = true then e :: r else e :: a :: r) = _
  rw [if_pos h]
theorem ins_stop {a e : En} {r : List En} (h : ¬ cmpE a e < 0) : insE e (a :: r) = e :: (if eqEn a e = true then r else a :: r) := by
  show (if cmpE a e < 0 then a :: insE e r else if eqEn a e = true then e :: r else e :: a :: r) = _
  rw [if_neg h]
  split <;> rfl
/-- Inserting, up to an index. -/
theorem ins_at {l : List En} {k : Nat} {a e : En} (hk : l[k]? = some a) (h : cmpE a e < 0) : l.take k ++ insE e (l.drop k) = l.take (k + 1) ++ insE e (l.drop (k + 1)) := by
  have hlt := (List.getElem?_eq_some_iff.1 hk).1
  rw [List.drop_eq_getElem_cons hlt, (List.getElem?_eq_some_iff.1 hk).2, ins_skip h, take_more hk, List.append_assoc]
  rfl
theorem ins_end {l : List En} {k : Nat} {e : En} (hk : l.length ≤ k) : l.take k ++ insE e (l.drop k) = l.take k ++ [e] := by
  rw [List.drop_eq_nil_of_le hk]; rfl
theorem ins_mid {l : List En} {k : Nat} {a e : En} (hk : l[k]? = some a) (h : ¬ cmpE a e < 0) : l.take k ++ insE e (l.drop k) = (l.take k ++ [e]) ++ l.drop (if eqEn a e = true then k + 1 else k) := by
  have hlt := (List.getElem?_eq_some_iff.1 hk).1
  have hd : l.drop k = a :: l.drop (k + 1) := by rw [List.drop_eq_getElem_cons hlt, (List.getElem?_eq_some_iff.1 hk).2]
  rw [hd, ins_stop h, List.append_assoc]
  split
  · rfl
  · rw [hd]; rfl
theorem setL_more {l : List En} {k : Nat} {e : En} (hk : l[k]? = some e) : setL (l.take (k + 1)) = insE e (setL (l.take k)) := by
  rw [take_more hk]
  unfold setL
  rw [List.foldl_append]
  rfl
/-- Entries after which no other one has the key. -/
def sameK (a b : En) : Bool := decide (a.rd = b.rd) && (decide (a.tb = b.tb) && decide (a.bd = b.bd))
theorem sameK_iff (a b : En) : sameK a b = true ↔ keyE a = keyE b := by
  simp [sameK, keyE]
def lastK : List En → List En
  | [] => []
  | a :: r => if r.any (sameK a) = true then lastK r else a :: lastK r
theorem lastK_count : ∀ S, setB S = true → lastK S = countP S
  | [], _ => rfl
  | [a], _ => rfl
  | a :: b :: r, h => by
    have hr := setB_uncons h
    have ih := lastK_count (b :: r) hr
    have hab : cmpE a b < 0 := setB_first a (b :: r) h b (by simp)
    show (if (b :: r).any (sameK a) = true then lastK (b :: r) else a :: lastK (b :: r)) = if keyE a = keyE b then countP (b :: r) else a :: countP (b :: r)
    rw [ih]
    by_cases hk : keyE a = keyE b
    · rw [if_pos hk, if_pos]
      rw [List.any_cons, (sameK_iff a b).2 hk]; rfl
    · rw [if_neg hk, if_neg]
      intro hany
      obtain ⟨y, hy, hyk⟩ := List.any_eq_true.1 hany
      have hyk := (sameK_iff a y).1 hyk
      rcases List.mem_cons.1 hy with rfl | hy
      · exact hk hyk
      · have h5 := cmpK_of_cmpE (Int.le_of_lt hab)
        have h6 : cmpK a b < 0 := by
          rcases Int.lt_or_eq_of_le h5 with h6 | h6
          · exact h6
          · exact absurd ((cmpK_zero a b).1 h6) hk
        have h7 : cmpK y a = 0 := (cmpK_zero y a).2 hyk.symm
        have h8 : cmpK y b < 0 := cmpK_lt (by omega) h6
        have h9 : cmpK b y ≤ 0 := cmpK_of_cmpE (Int.le_of_lt (setB_first b r hr y hy))
        have := cmpK_swap b y
        omega
theorem lastK_cnt (l : List En) (h : setB l = true) : lastK l = cntL l := by
  unfold cntL
  rw [if_pos h, lastK_count l h]
theorem last_step {l : List En} {k : Nat} {a : En} (hk : l[k]? = some a) : lastK (l.drop k) = if (l.drop (k + 1)).any (sameK a) = true then lastK (l.drop (k + 1)) else a :: lastK (l.drop (k + 1)) := by
  have hlt := (List.getElem?_eq_some_iff.1 hk).1
  rw [List.drop_eq_getElem_cons hlt, (List.getElem?_eq_some_iff.1 hk).2]
  rfl
theorem any_step {l : List En} {k j : Nat} {a b : En} (hj : l[j]? = some b) (hkj : k ≤ j) : ((l.take (j + 1)).drop k).any (sameK a) = (((l.take j).drop k).any (sameK a) || sameK a b) := by
  have hlt := (List.getElem?_eq_some_iff.1 hj).1
  rw [take_more hj, List.drop_append_of_le_length (by rw [List.length_take]; omega), List.any_append]
  simp
theorem vers_step {l : List En} {k : Nat} {a : En} (r t b : Int) (hk : l[k]? = some a) : versP (l.take (k + 1)) (keyN r t b) = if (decide (a.rd = r) && (decide (a.tb = t) && decide (a.bd = b))) = true then versP (l.take k) (keyN r t b) ++ [a] else versP (l.take k) (keyN r t b) := by
  have h : (cmpK a (keyN r t b) == 0) = (decide (a.rd = r) && (decide (a.tb = t) && decide (a.bd = b))) := by
    rw [Bool.eq_iff_iff, beq_iff_eq, cmpK_zero]
    simp [keyE, keyN, gE]
  unfold versP
  rw [take_more hk, List.filter_append, List.filter_cons, h]
  split <;> simp
theorem set_stop {l : List En} {k : Nat} {a b : En} (ha : l[k]? = some a) (hb : l[k + 1]? = some b) (h : ¬ cmpE a b = -1) : setB l = false := by
  refine setB_take (k := k + 2) ?_
  rw [setB_step ha hb]
  have : ¬ cmpE a b < 0 := by
    rcases cmp_range a b with h1 | h1 | h1 <;> omega
  rw [decide_eq_false this, Bool.and_false]
theorem set_go {l : List En} {k : Nat} {a b : En} (ha : l[k]? = some a) (hb : l[k + 1]? = some b) (h : cmpE a b = -1) (hs : setB (l.take (k + 1)) = true) : setB (l.take (k + 2)) = true := by
  rw [setB_step ha hb, hs, h]; rfl
end Go.Proofs.YtpkmibmombpjpaaGreatDoor
set_option linter.unusedSimpArgs false
namespace Go.Proofs.YtpkmibmombpjpaaGreatDoor
open Go Go.RowKit

set_option maxRecDepth 100000 in
set_option maxHeartbeats 4000000 in
theorem risSet_any (l : List En) (hin : ∀ e ∈ l, e.In) (hl : l.length ≤ 1000000) (v : Value) (w : World) (hv : ES w v l) : Calls Tryz.prog 81 #[v] w (fun r w' => r = .returned (.bool (setB l)) ∧ Below w.heap.size w w') := by
  obtain ⟨A, cp, rfl, hcp⟩ := hv.len
  obtain ⟨R, hR⟩ : ∃ R, setB l = R := ⟨_, rfl⟩
  rw [hR]
  have HR := Lib.hid hR
  have HV := Lib.hid hv
  have HIN := Lib.hid hin
  obtain ⟨n, hn⟩ : ∃ n, l.length = n := ⟨_, rfl⟩
  rw [hn] at hl HV ⊢
  have HN := Lib.hid hn
  clear hR hv hin hn hcp
  go_enter Tryz.func81, Tryz.ntmps81
  go_wp2_with fail
  go_loopw [3] (fun s3 wr => ∃ k : Nat, (k + 1 ≤ n ∨ k = 0) ∧ s3 = .int .i64 (k : Int) ∧ Hid (setB (l.take (k + 1)) = true) ∧ Hid (Below w.heap.size w wr)) (fun s3 _ => n - (intOf s3).toNat)
  case atStart => exact ⟨0, Or.inr rfl, rfl, Lib.hid (by cases l with | nil => rfl | cons a r => rfl), Lib.hid (Below.refl _ _)⟩
  case round =>
    obtain ⟨k, hk, rfl, HS, HW⟩ := hrel
    have hk2 : k ≤ 1000000 := by omega
    have e1 : IntKind.i64.wrap ((k : Int) + 1) = (k : Int) + 1 := IntWalk.i64_in _ (by omega)
    by_cases hlt : k + 1 < n
    · have u1 : decide ((k : Int) + 1 < (n : Int)) = true := decide_eq_true (by omega)
      obtain ⟨a, ha⟩ : ∃ a, l[k]? = some a := ⟨_, List.getElem?_eq_getElem (by rw [HN.out]; omega)⟩
      obtain ⟨b, hb⟩ : ∃ b, l[k + 1]? = some b := ⟨_, List.getElem?_eq_getElem (by rw [HN.out]; omega)⟩
      obtain ⟨bl, ol, rfl⟩ := HV.out.ptr (by rw [HN.out]; omega)
      have HA := Lib.hid (And.intro ha hb)
      have CE := Lib.hid (fun W => rcompare_any a b (HIN.out a (List.mem_of_getElem? ha)) (HIN.out b (List.mem_of_getElem? hb)) W)
      have e2 : ((k : Int) + 1).toNat = k + 1 := by omega
      have j0 : (0 : Int) ≤ (k : Int) := by omega
      have j1 : (k : Int) < (n : Int) := by omega
      have j2 : (0 : Int) ≤ (k : Int) + 1 := by omega
      have j3 : ¬ (n : Int) ≤ (k : Int) := by omega
      have j4 : ¬ (n : Int) ≤ (k : Int) + 1 := by omega
      have j5 : ¬ (k : Int) + 1 < 0 := by omega
      have j6 : ¬ n ≤ k := by omega
      have j7 : ¬ n ≤ k + 1 := by omega
      have j8 : (k : Int) + 1 < (n : Int) := by omega
      have HK := Lib.hid hlt
      clear ha hb hk hlt hk2
      go_upto_region 4 with fail
      have HW2 := Lib.hid HW.out.drew
      refine rest_begin (by kernel_rfl) ?_
      obtain ⟨W4, hW4⟩ : ∃ W4, wr.drew = W4 := ⟨_, rfl⟩
      rw [hW4] at HW2 ⊢
      clear hW4 HW u1
      clear wr
      have lo1 := fun W (h : Below w.heap.size w W) => HV.out.load HA.out.1 h
      have lo2 := fun W (h : Below w.heap.size w W) => HV.out.load HA.out.2 h
      refine rest_flow3 [some 11, some 12, some 13, some 14, some 15, some 16, some 17, some 18, some 19, some 20] [Sp.is (.slice (some ⟨bl, ol, none⟩) n cp), Sp.is (.int .i64 (k : Int)), Sp.is (.pointer (some ⟨bl, ol + k * 33, none⟩)), Sp.is (.agg (enC a)), Sp.is (.slice (some ⟨bl, ol, none⟩) n cp), Sp.is (.int .i64 (k : Int)), Sp.is (.int .i64 ((k : Int) + 1)), Sp.is (.pointer (some ⟨bl, ol + (k + 1) * 33, none⟩)), Sp.is (.agg (enC b)), Sp.is (.int .i64 (cmpE a b))] [false, false, false, false, false, false, false, false, false, false] 10 (by kernel_rfl) (by kernel_rfl) (fun u F hF => ?_) (fun u w' hbF hsF hold hap => ?_)
      case refine_1 =>
        have E0 : F.eval (.tmp 0) = (.slice (some ⟨bl, ol, none⟩) n cp) := (congrArg (fun a => Act.eval a (.tmp 0)) hF).trans (eval_out _ 0 _ (by decide))
        have E3 : F.eval (.tmp 3) = (.int .i64 (k : Int)) := (congrArg (fun a => Act.eval a (.tmp 3)) hF).trans (eval_out _ 0 _ (by decide))
        have D11 : F.eval (.tmp 11) = u 0 := (congrArg (fun a => Act.eval a (.tmp 11)) hF).trans (eval_in _ 0 0 _ (by decide) (by omega) rfl (of_decide_eq_true (by kernel_rfl)))
        have D12 : F.eval (.tmp 12) = u 1 := (congrArg (fun a => Act.eval a (.tmp 12)) hF).trans (eval_in _ 0 1 _ (by decide) (by omega) rfl (of_decide_eq_true (by kernel_rfl)))
        have D13 : F.eval (.tmp 13) = u 2 := (congrArg (fun a => Act.eval a (.tmp 13)) hF).trans (eval_in _ 0 2 _ (by decide) (by omega) rfl (of_decide_eq_true (by kernel_rfl)))
        have D16 : F.eval (.tmp 16) = u 5 := (congrArg (fun a => Act.eval a (.tmp 16)) hF).trans (eval_in _ 0 5 _ (by decide) (by omega) rfl (of_decide_eq_true (by kernel_rfl)))
        have D15 : F.eval (.tmp 15) = u 4 := (congrArg (fun a => Act.eval a (.tmp 15)) hF).trans (eval_in _ 0 4 _ (by decide) (by omega) rfl (of_decide_eq_true (by kernel_rfl)))
        have D17 : F.eval (.tmp 17) = u 6 := (congrArg (fun a => Act.eval a (.tmp 17)) hF).trans (eval_in _ 0 6 _ (by decide) (by omega) rfl (of_decide_eq_true (by kernel_rfl)))
        have D18 : F.eval (.tmp 18) = u 7 := (congrArg (fun a => Act.eval a (.tmp 18)) hF).trans (eval_in _ 0 7 _ (by decide) (by omega) rfl (of_decide_eq_true (by kernel_rfl)))
        have D14 : F.eval (.tmp 14) = u 3 := (congrArg (fun a => Act.eval a (.tmp 14)) hF).trans (eval_in _ 0 3 _ (by decide) (by omega) rfl (of_decide_eq_true (by kernel_rfl)))
        have D19 : F.eval (.tmp 19) = u 8 := (congrArg (fun a => Act.eval a (.tmp 19)) hF).trans (eval_in _ 0 8 _ (by decide) (by omega) rfl (of_decide_eq_true (by kernel_rfl)))
        clear hF
        refine ⟨?_, ?_, ?_, ?_, ?_, ?_, ?_, ?_, ?_, ?_, trivial⟩
        · intro w1 hb hd K hK
          have e0 := E0
          exact op_val (v := (.slice (some ⟨bl, ol, none⟩) n cp)) rfl (by simp only [execOp, List.map_toArray, List.map_cons, List.map_nil, e0]; go_simp) (hK _ _ (show _ = _ from rfl) (Below.refl _ _) (Fresh.no _ _ _))
        · intro w1 hb hd K hK
          have e3 := E3
          exact op_val (v := (.int .i64 (k : Int))) rfl (by simp only [execOp, List.map_toArray, List.map_cons, List.map_nil, e3]; go_simp) (hK _ _ (show _ = _ from rfl) (Below.refl _ _) (Fresh.no _ _ _))
        · intro w1 hb hd K hK
          have e11 := D11.trans (show u 0 = _ from hd ⟨0, .data⟩ (by simp) rfl (by omega))
          have e12 := D12.trans (show u 1 = _ from hd ⟨1, .data⟩ (by simp) rfl (by omega))
          exact op_val (v := (.pointer (some ⟨bl, ol + k * 33, none⟩))) rfl (by simp only [execOp, List.map_toArray, List.map_cons, List.map_nil, e11, e12]; go_simp) (hK _ _ (show _ = _ from rfl) (Below.refl _ _) (Fresh.no _ _ _))
        · intro w1 hb hd K hK
          have e13 := D13.trans (show u 2 = _ from hd ⟨2, .data⟩ (by simp) rfl (by omega))
          exact op_val (v := (.agg (enC a))) rfl (exec_load rfl e13 (lo1 w1 (HW2.out.trans (hb.mono HW2.out.size)))) (hK _ _ (show _ = _ from rfl) (Below.refl _ _) (Fresh.no _ _ _))
        · intro w1 hb hd K hK
          have e0 := E0
          exact op_val (v := (.slice (some ⟨bl, ol, none⟩) n cp)) rfl (by simp only [execOp, List.map_toArray, List.map_cons, List.map_nil, e0]; go_simp) (hK _ _ (show _ = _ from rfl) (Below.refl _ _) (Fresh.no _ _ _))
        · intro w1 hb hd K hK
          have e3 := E3
          exact op_val (v := (.int .i64 (k : Int))) rfl (by simp only [execOp, List.map_toArray, List.map_cons, List.map_nil, e3]; go_simp) (hK _ _ (show _ = _ from rfl) (Below.refl _ _) (Fresh.no _ _ _))
        · intro w1 hb hd K hK
          have e16 := D16.trans (show u 5 = _ from hd ⟨5, .data⟩ (by simp) rfl (by omega))
          exact op_val (v := (.int .i64 ((k : Int) + 1))) rfl (by simp only [execOp, List.map_toArray, List.map_cons, List.map_nil, e16]; go_simp) (hK _ _ (show _ = _ from rfl) (Below.refl _ _) (Fresh.no _ _ _))
        · intro w1 hb hd K hK
          have e15 := D15.trans (show u 4 = _ from hd ⟨4, .data⟩ (by simp) rfl (by omega))
          have e17 := D17.trans (show u 6 = _ from hd ⟨6, .data⟩ (by simp) rfl (by omega))
          exact op_val (v := (.pointer (some ⟨bl, ol + (k + 1) * 33, none⟩))) rfl (by simp only [execOp, List.map_toArray, List.map_cons, List.map_nil, e15, e17]; go_simp) (hK _ _ (show _ = _ from rfl) (Below.refl _ _) (Fresh.no _ _ _))
        · intro w1 hb hd K hK
          have e18 := D18.trans (show u 7 = _ from hd ⟨7, .data⟩ (by simp) rfl (by omega))
          exact op_val (v := (.agg (enC b))) rfl (exec_load rfl e18 (lo2 w1 (HW2.out.trans (hb.mono HW2.out.size)))) (hK _ _ (show _ = _ from rfl) (Below.refl _ _) (Fresh.no _ _ _))
        · intro w1 hb hd K hK
          have e14 := D14.trans (show u 3 = _ from hd ⟨3, .data⟩ (by simp) rfl (by omega))
          have e19 := D19.trans (show u 8 = _ from hd ⟨8, .data⟩ (by simp) rfl (by omega))
          refine op_call (R := fun v w2 => v = (.int .i64 (cmpE a b)) ∧ Below w1.heap.size w1 w2) (f := 32) (args := #[.agg (enC a), .agg (enC b)]) rfl (by simp only [execOp]; go_simp; first | exact ⟨eval_get e14, eval_get e19⟩ | (simp only [Act.eval] at *; simp_all)) ((CE.out w1).mono fun e w2 hh => ⟨_, hh.1, rfl, hh.2⟩) (fun v w2 hh => hK _ _ hh.1 hh.2 (Fresh.no _ _ _))
      have hv11 : u 0 = (.slice (some ⟨bl, ol, none⟩) n cp) := (show u 0 = _ from hsF 0 (by omega) (by omega))
      have hv12 : u 1 = (.int .i64 (k : Int)) := (show u 1 = _ from hsF 1 (by omega) (by omega))
      have hv13 : u 2 = (.pointer (some ⟨bl, ol + k * 33, none⟩)) := (show u 2 = _ from hsF 2 (by omega) (by omega))
      have hv14 : u 3 = (.agg (enC a)) := (show u 3 = _ from hsF 3 (by omega) (by omega))
      have hv15 : u 4 = (.slice (some ⟨bl, ol, none⟩) n cp) := (show u 4 = _ from hsF 4 (by omega) (by omega))
      have hv16 : u 5 = (.int .i64 (k : Int)) := (show u 5 = _ from hsF 5 (by omega) (by omega))
      have hv17 : u 6 = (.int .i64 ((k : Int) + 1)) := (show u 6 = _ from hsF 6 (by omega) (by omega))
      have hv18 : u 7 = (.pointer (some ⟨bl, ol + (k + 1) * 33, none⟩)) := (show u 7 = _ from hsF 7 (by omega) (by omega))
      have hv19 : u 8 = (.agg (enC b)) := (show u 8 = _ from hsF 8 (by omega) (by omega))
      have hv20 : u 9 = (.int .i64 (cmpE a b)) := (show u 9 = _ from hsF 9 (by omega) (by omega))
      simp only [putRow, hv11, hv12, hv13, hv14, hv15, hv16, hv17, hv18, hv19, hv20, Act.put, List.setIfInBounds_toArray, List.set_cons_succ, List.set_cons_zero]
      clear hsF hold hap hv11 hv12 hv13 hv14 hv15 hv16 hv17 hv18 hv19 hv20
      have HW3 := Lib.hid (HW2.out.trans (hbF.mono (HW2.out.size)))
      clear HW2 hbF lo1 lo2 CE j0 j1 j2 j3 j4 j5 j6 j7 j8
      clear W4
      by_cases hc : cmpE a b = -1
      · have t1 : (cmpE a b != (-1)) = false := by rw [hc]; rfl
        have HS2 : Hid (setB (l.take (k + 1 + 1)) = true) := Lib.hid (set_go HA.out.1 HA.out.2 hc HS.out)
        clear hc
        refine rest_forced 1 (by kernel_rfl) ?_
        simp only [List.drop_succ_cons, List.drop_zero, List.take_succ_cons, List.take_zero]
        go_wp2_with fail
        refine rest_done rfl ?_
        go_wp2_with fail
        go_roundw
        case rel => exact ⟨k + 1, Or.inl (by have := HK.out; omega), by simp, HS2, HW3⟩
        case measure => have := HK.out; simp only [intOf]; omega
      · have t1 : (cmpE a b != (-1)) = true := by rw [bne_iff_ne]; exact hc
        have HX : Hid (R = false) := Lib.hid (by rw [← HR.out]; exact set_stop HA.out.1 HA.out.2 hc)
        clear hc
        refine rest_forced 1 (by kernel_rfl) ?_
        simp only [List.drop_succ_cons, List.drop_zero, List.take_succ_cons, List.take_zero]
        go_wp2_with fail
        refine rest_done rfl ?_
        go_wp2_with fail
        go_ret
        exact ⟨by rw [HX.out]; rfl, HW3.out⟩
    · have u1 : decide ((k : Int) + 1 < (n : Int)) = false := decide_eq_false (by omega)
      have HX : Hid (R = true) := Lib.hid (by
        have h := HS.out
        rw [List.take_of_length_le (by rw [HN.out]; omega)] at h
        rw [← HR.out, h])
      clear hlt hk hk2
      go_wp2_with fail
      go_ret
      exact ⟨by rw [HX.out]; rfl, HW.out⟩
theorem own_nilE (W : World) (B : Nat) : W.ownsRow B 34 33 (.slice none 0 0) 0 (flat enC []) := World.ownsRow_nil _ _ _ _
/-- A slice of entries of the call's own. -/
def OwnR (W : World) (B : Nat) (v : Value) (l : List En) : Prop := W.ownsRow B 34 33 v l.length (flat enC l)
theorem OwnR.keep {W W' : World} {B : Nat} {v : Value} {l : List En} (h : OwnR W B v l) (hb : Below W.heap.size W W') : OwnR W' B v l := own_keep h hb
theorem OwnR.slice {W : World} {B : Nat} {v : Value} {l : List En} (h : OwnR W B v l) : ∃ A c, v = .slice A l.length c := own_slice h
theorem OwnR.es {W : World} {B : Nat} {v : Value} {l : List En} (h : OwnR W B v l) : ES W v l := ls_of_own enC_size h
theorem one_src (W : World) (e : En) : SrcR (W.alloc (.cells (flat enC [e]).toArray 34)) 33 (.slice (some ⟨W.heap.size, 0, none⟩) 1 1) 1 (flat enC [e]) := .some_ W.heap.size 0 1 1 _ (flat_l [e]) (fun j u hj => by
  rw [Nat.zero_add]
  exact (Blk.new W 34 (flat enC [e]).toArray).cell (by rw [List.getElem?_toArray]; exact hj))
/-- The tail of a slice. -/
theorem tail_es {w : World} {A : Option Addr} {n cp k : Nat} {l : List En} (hv : ES w (.slice A n cp) l) (hn : l.length = n) (hk : k ≤ n) (hcp : n ≤ cp) : ∃ A2 c2, (∀ W, (Instr.sliceAt 40 (.slice A n cp) (some (.int .i64 (k : Int))) none none).run Tryz.prog W = .ok (.slice A2 (n - k) c2) W) ∧ ES w (.slice A2 (n - k) c2) (l.drop k) := by
  cases A with
  | none =>
    have h0 : n = 0 ∧ cp = 0 ∧ l = [] := by
      cases hv
      exact ⟨rfl, rfl, rfl⟩
    obtain ⟨rfl, rfl, rfl⟩ := h0
    obtain rfl : k = 0 := by omega
    exact ⟨none, 0, fun W => by kernel_rfl, .none_⟩
  | some a =>
    have hb : ∃ b o, a = ⟨b, o, none⟩ := by
      generalize hx : Value.slice (some a) n cp = x at hv
      cases hv with
      | none_ => cases hx
      | some_ b o c l hb hc h =>
        injection hx with e1 e2 e3
        injection e1 with e1
        exact ⟨b, o, e1⟩
    obtain ⟨b, o, rfl⟩ := hb
    obtain ⟨A2, h1, h2, h3, h4⟩ := slice_ls (T := 40) (sz := 33) (enc := enC) (by kernel_rfl) (fun W => by kernel_rfl) (b := b) (o := o) (n := n) (c := cp) (lo := k) (hi := n) hk hcp
    refine ⟨some A2, cp - k, h2 rfl, ?_⟩
    have := h4 w l hv (Nat.le_refl _)
    rwa [← hn, List.take_length, hn] at this
set_option maxRecDepth 100000 in
set_option maxHeartbeats 4000000 in
theorem rinsert_any (l : List En) (e : En) (hin : ∀ x ∈ l, x.In) (he : e.In) (hl : l.length ≤ 900000) (v : Value) (w : World) (hv : ES w v l) : Calls Tryz.prog 82 #[v, .agg (enC e)] w (fun r w' => ∃ u, r = .returned u ∧ OwnR w' w.heap.size u (insE e l) ∧ Below w.heap.size w w') := by
  obtain ⟨i0, z0, hi0, hz0, hz1, hz2, hz3⟩ := info_parts_ent
  obtain ⟨A, cp, rfl, hcp⟩ := hv.len
  obtain ⟨R, hR⟩ : ∃ R, insE e l = R := ⟨_, rfl⟩
  rw [hR]
  have HR : Hid (l.take 0 ++ insE e (l.drop 0) = R) := Lib.hid hR
  have HV := Lib.hid hv
  have HIN := Lib.hid (And.intro hin he)
  obtain ⟨n, hn⟩ : ∃ n, l.length = n := ⟨_, rfl⟩
  rw [hn] at hl hcp HV ⊢
  have HN := Lib.hid (And.intro hn hcp)
  clear hR hv hin he hn hcp
  go_enter Tryz.func82, Tryz.ntmps82
  go_wp2_with fail
  have HE0 : Hid (Blk (w.alloc (.cells (enC e) 34)) w.heap.size 34 (enC e)) := Lib.hid (Blk.new w _ _)
  have HW0 : Hid (Below w.heap.size w (w.alloc (.cells (enC e) 34))) := Lib.hid (below1 w _)
  have HO0 : Hid (OwnR (w.alloc (.cells (enC e) 34)) (w.heap.size + 1) (.slice none 0 0) (l.take 0)) := Lib.hid (own_nilE _ _)
  have HS0 : Hid ((w.alloc (.cells (enC e) 34)).heap.size = w.heap.size + 1) := Lib.hid (size_al _ _)
  generalize w.alloc (.cells (enC e) 34) = W1 at *
  go_loopw [5, 6] (fun s5 s6 wr => ∃ (k : Nat) (A2 : Option Addr) (m c2 : Nat), k ≤ n ∧ s5 = .slice A2 m c2 ∧ s6 = .int .i64 (k : Int) ∧ Hid (l.take k ++ insE e (l.drop k) = R) ∧ Hid (OwnR wr (w.heap.size + 1) (.slice A2 m c2) (l.take k)) ∧ Hid (Blk wr w.heap.size 34 (enC e)) ∧ Hid (Below w.heap.size w wr) ∧ Hid (w.heap.size + 1 ≤ wr.heap.size)) (fun _ s6 _ => n - (intOf s6).toNat)
  case atStart => exact ⟨0, _, _, _, Nat.zero_le _, rfl, rfl, HR, HO0, HE0, HW0, Lib.hid (by rw [HS0.out]; exact Nat.le_refl _)⟩
  case round =>
    clear HO0 HE0 HW0 HS0 HR
    clear W1
    obtain ⟨k, A2, m, c2, hk, rfl, rfl, HR, HO, HE, HW, HZ⟩ := hrel
    have hlt2 : ∀ W, Blk W w.heap.size 34 (enC e) → (Instr.loadAt 34 (.pointer (some ⟨w.heap.size, 0, none⟩))).run Tryz.prog W = .ok (.agg (enC e)) W := fun W h => loadAt_blk h Tryz.underlying34 rfl (by rw [enC_size]; kernel_rfl)
    have HLE := Lib.hid hlt2
    clear hlt2
    obtain ⟨p, hp⟩ : ∃ p, w.heap.size = p := ⟨_, rfl⟩
    have HP := Lib.hid hp
    rw [hp] at HO HE HLE HZ ⊢
    clear hp
    have hm : m = k := by
      obtain ⟨A', c', e1⟩ := HO.out.slice
      injection e1 with _ e2 _
      rw [e2, List.length_take, HN.out.1]; omega
    subst hm
    by_cases hlt : m < n
    · have u1 : decide ((m : Int) < (n : Int)) = true := decide_eq_true (by omega)
      obtain ⟨a, ha⟩ : ∃ a, l[m]? = some a := ⟨_, List.getElem?_eq_getElem (by rw [HN.out.1]; omega)⟩
      obtain ⟨bl, ol, rfl⟩ := HV.out.ptr (by rw [HN.out.1]; omega)
      have HA := Lib.hid ha
      have AIN := Lib.hid (HIN.out.1 a (List.mem_of_getElem? ha))
      have CE := Lib.hid (fun W => rcompare_any a e (HIN.out.1 a (List.mem_of_getElem? ha)) HIN.out.2 W)
      have e1 : IntKind.i64.wrap ((m : Int) + 1) = (m : Int) + 1 := IntWalk.i64_in _ (by omega)
      have j0 : (0 : Int) ≤ (m : Int) := by omega
      have j1 : (m : Int) < (n : Int) := by omega
      have j3 : ¬ (n : Int) ≤ (m : Int) := by omega
      have j6 : ¬ n ≤ m := by omega
      have HK := Lib.hid hlt
      clear ha hk hlt
      go_upto_region 3 with fail
      have HW2 := Lib.hid HW.out.drew
      have HO2 := Lib.hid (HO.out.keep (Below.refl _ wr).drew)
      have HE2 : Hid (Blk wr.drew p 34 (enC e)) := HE
      have HZ2 : Hid (p + 1 ≤ wr.drew.heap.size) := HZ
      refine rest_begin (by kernel_rfl) ?_
      obtain ⟨W4, hW4⟩ : ∃ W4, wr.drew = W4 := ⟨_, rfl⟩
      rw [hW4] at HW2 HO2 HE2 HZ2 ⊢
      clear hW4 HW HO HE HZ
      clear wr
      have lo1 := fun W (h : Below w.heap.size w W) => HV.out.load HA.out h
      have hwle : w.heap.size ≤ W4.heap.size := HW2.out.size
      rcases Int.lt_or_le (cmpE a e) 0 with hc | hc
      · have t1 : decide (cmpE a e < 0) = true := decide_eq_true hc
        have HR2 := Lib.hid ((ins_at HA.out hc).symm.trans HR.out)
        clear hc
        refine rest_flow3 [some 7, some 8, some 9, some 10, some 11, some 12, some 13, some 14, some 15, some 16, some 17, some 18] [Sp.is (.int .i64 (m : Int)), Sp.is (.slice (some ⟨bl, ol, none⟩) n cp), Sp.is (.int .i64 (n : Int)), Sp.is (.bool true), Sp.is (.bool true), Sp.is (.slice (some ⟨bl, ol, none⟩) n cp), Sp.is (.int .i64 (m : Int)), Sp.is (.pointer (some ⟨bl, ol + m * 33, none⟩)), Sp.is (.agg (enC a)), Sp.is (.agg (enC e)), Sp.is (.int .i64 (cmpE a e)), Sp.is (.bool true)] [false, false, false, false, false, false, false, false, false, false, false, false] 12 (by kernel_rfl) (by kernel_rfl) (fun u F hF => ?_) (fun u w' hbF hsF hold hap => ?_)
        case refine_1 =>
          have E6 : F.eval (.tmp 6) = (.int .i64 (m : Int)) := (congrArg (fun a => Act.eval a (.tmp 6)) hF).trans (eval_out _ 0 _ (by decide))
          have E0 : F.eval (.tmp 0) = (.slice (some ⟨bl, ol, none⟩) n cp) := (congrArg (fun a => Act.eval a (.tmp 0)) hF).trans (eval_out _ 0 _ (by decide))
          have D8 : F.eval (.tmp 8) = u 1 := (congrArg (fun a => Act.eval a (.tmp 8)) hF).trans (eval_in _ 0 1 _ (by decide) (by omega) rfl (of_decide_eq_true (by kernel_rfl)))
          have D7 : F.eval (.tmp 7) = u 0 := (congrArg (fun a => Act.eval a (.tmp 7)) hF).trans (eval_in _ 0 0 _ (by decide) (by omega) rfl (of_decide_eq_true (by kernel_rfl)))
          have D9 : F.eval (.tmp 9) = u 2 := (congrArg (fun a => Act.eval a (.tmp 9)) hF).trans (eval_in _ 0 2 _ (by decide) (by omega) rfl (of_decide_eq_true (by kernel_rfl)))
          have D10 : F.eval (.tmp 10) = u 3 := (congrArg (fun a => Act.eval a (.tmp 10)) hF).trans (eval_in _ 0 3 _ (by decide) (by omega) rfl (of_decide_eq_true (by kernel_rfl)))
          have D11 : F.eval (.tmp 11) = u 4 := (congrArg (fun a => Act.eval a (.tmp 11)) hF).trans (eval_in _ 0 4 _ (by decide) (by omega) rfl (of_decide_eq_true (by kernel_rfl)))
          have D12 : F.eval (.tmp 12) = u 5 := (congrArg (fun a => Act.eval a (.tmp 12)) hF).trans (eval_in _ 0 5 _ (by decide) (by omega) rfl (of_decide_eq_true (by kernel_rfl)))
          have D13 : F.eval (.tmp 13) = u 6 := (congrArg (fun a => Act.eval a (.tmp 13)) hF).trans (eval_in _ 0 6 _ (by decide) (by omega) rfl (of_decide_eq_true (by kernel_rfl)))
          have D14 : F.eval (.tmp 14) = u 7 := (congrArg (fun a => Act.eval a (.tmp 14)) hF).trans (eval_in _ 0 7 _ (by decide) (by omega) rfl (of_decide_eq_true (by kernel_rfl)))
          have E3 : F.eval (.tmp 3) = (.pointer (some ⟨p, 0, none⟩)) := (congrArg (fun a => Act.eval a (.tmp 3)) hF).trans (eval_out _ 0 _ (by decide))
          have D15 : F.eval (.tmp 15) = u 8 := (congrArg (fun a => Act.eval a (.tmp 15)) hF).trans (eval_in _ 0 8 _ (by decide) (by omega) rfl (of_decide_eq_true (by kernel_rfl)))
          have D16 : F.eval (.tmp 16) = u 9 := (congrArg (fun a => Act.eval a (.tmp 16)) hF).trans (eval_in _ 0 9 _ (by decide) (by omega) rfl (of_decide_eq_true (by kernel_rfl)))
          have D17 : F.eval (.tmp 17) = u 10 := (congrArg (fun a => Act.eval a (.tmp 17)) hF).trans (eval_in _ 0 10 _ (by decide) (by omega) rfl (of_decide_eq_true (by kernel_rfl)))
          clear hF
          refine ⟨?_, ?_, ?_, ?_, ?_, ?_, ?_, ?_, ?_, ?_, ?_, ?_, trivial⟩
          · intro w1 hb hd K hK
            have e6 := E6
            exact op_val (v := (.int .i64 (m : Int))) rfl (by simp only [execOp, List.map_toArray, List.map_cons, List.map_nil, e6]; go_simp) (hK _ _ (show _ = _ from rfl) (Below.refl _ _) (Fresh.no _ _ _))
          · intro w1 hb hd K hK
            have e0 := E0
            exact op_val (v := (.slice (some ⟨bl, ol, none⟩) n cp)) rfl (by simp only [execOp, List.map_toArray, List.map_cons, List.map_nil, e0]; go_simp) (hK _ _ (show _ = _ from rfl) (Below.refl _ _) (Fresh.no _ _ _))
          · intro w1 hb hd K hK
            have e8 := D8.trans (show u 1 = _ from hd ⟨1, .data⟩ (by simp) rfl (by omega))
            exact op_val (v := (.int .i64 (n : Int))) rfl (exec_len Tryz.underlying40 rfl e8) (hK _ _ (show _ = _ from rfl) (Below.refl _ _) (Fresh.no _ _ _))
          · intro w1 hb hd K hK
            have e7 := D7.trans (show u 0 = _ from hd ⟨0, .data⟩ (by simp) rfl (by omega))
            have e9 := D9.trans (show u 2 = _ from hd ⟨2, .data⟩ (by simp) rfl (by omega))
            exact op_val (v := (.bool true)) rfl (by simp only [execOp, List.map_toArray, List.map_cons, List.map_nil, e7, e9]; go_simp) (hK _ _ (show _ = _ from rfl) (Below.refl _ _) (Fresh.no _ _ _))
          · intro w1 hb hd K hK
            have e10 := D10.trans (show u 3 = _ from hd ⟨3, .data⟩ (by simp) rfl (by omega))
            exact op_val (v := (.bool true)) rfl (by simp only [execOp, List.map_toArray, List.map_cons, List.map_nil, e10]; go_simp) (hK _ _ (show _ = _ from rfl) (Below.refl _ _) (Fresh.no _ _ _))
          · intro w1 hb hd K hK
            have e0 := E0
            have g := D11.trans (show u 4 = .bool true from hd ⟨4, .guard⟩ (by simp) rfl (by omega))
            exact op_val_w (v := (.slice (some ⟨bl, ol, none⟩) n cp)) (wanted_of (j := 4) (s := 11) (b := true) (by kernel_rfl) (by kernel_rfl) g) (by simp only [execOp, List.map_toArray, List.map_cons, List.map_nil, e0]; go_simp) (hK _ _ (show _ = _ from rfl) (Below.refl _ _) (Fresh.no _ _ _))
          · intro w1 hb hd K hK
            have e6 := E6
            have g := D11.trans (show u 4 = .bool true from hd ⟨4, .guard⟩ (by simp) rfl (by omega))
            exact op_val_w (v := (.int .i64 (m : Int))) (wanted_of (j := 4) (s := 11) (b := true) (by kernel_rfl) (by kernel_rfl) g) (by simp only [execOp, List.map_toArray, List.map_cons, List.map_nil, e6]; go_simp) (hK _ _ (show _ = _ from rfl) (Below.refl _ _) (Fresh.no _ _ _))
          · intro w1 hb hd K hK
            have e12 := D12.trans (show u 5 = _ from hd ⟨5, .data⟩ (by simp) rfl (by omega))
            have e13 := D13.trans (show u 6 = _ from hd ⟨6, .data⟩ (by simp) rfl (by omega))
            have g := D11.trans (show u 4 = .bool true from hd ⟨4, .guard⟩ (by simp) rfl (by omega))
            exact op_val_w (v := (.pointer (some ⟨bl, ol + m * 33, none⟩))) (wanted_of (j := 4) (s := 11) (b := true) (by kernel_rfl) (by kernel_rfl) g) (by simp only [execOp, List.map_toArray, List.map_cons, List.map_nil, e12, e13]; go_simp) (hK _ _ (show _ = _ from rfl) (Below.refl _ _) (Fresh.no _ _ _))
          · intro w1 hb hd K hK
            have e14 := D14.trans (show u 7 = _ from hd ⟨7, .data⟩ (by simp) rfl (by omega))
            have g := D11.trans (show u 4 = .bool true from hd ⟨4, .guard⟩ (by simp) rfl (by omega))
            exact op_val_w (v := (.agg (enC a))) (wanted_of (j := 4) (s := 11) (b := true) (by kernel_rfl) (by kernel_rfl) g) (exec_load rfl e14 (lo1 w1 (HW2.out.trans (hb.mono hwle)))) (hK _ _ (show _ = _ from rfl) (Below.refl _ _) (Fresh.no _ _ _))
          · intro w1 hb hd K hK
            have e3 := E3
            have g := D11.trans (show u 4 = .bool true from hd ⟨4, .guard⟩ (by simp) rfl (by omega))
            exact op_val_w (v := (.agg (enC e))) (wanted_of (j := 4) (s := 11) (b := true) (by kernel_rfl) (by kernel_rfl) g) (exec_load rfl e3 (HLE.out w1 (HE2.out.keep hb HE2.out.lt))) (hK _ _ (show _ = _ from rfl) (Below.refl _ _) (Fresh.no _ _ _))
          · intro w1 hb hd K hK
            have e15 := D15.trans (show u 8 = _ from hd ⟨8, .data⟩ (by simp) rfl (by omega))
            have e16 := D16.trans (show u 9 = _ from hd ⟨9, .data⟩ (by simp) rfl (by omega))
            have g := D11.trans (show u 4 = .bool true from hd ⟨4, .guard⟩ (by simp) rfl (by omega))
            refine op_call_w (R := fun v w2 => v = (.int .i64 (cmpE a e)) ∧ Below w1.heap.size w1 w2) (f := 32) (args := #[.agg (enC a), .agg (enC e)]) (wanted_of (j := 4) (s := 11) (b := true) (by kernel_rfl) (by kernel_rfl) g) (by simp only [execOp]; go_simp; first | exact ⟨eval_get e15, eval_get e16⟩ | (simp only [Act.eval] at *; simp_all)) ((CE.out w1).mono fun e w2 hh => ⟨_, hh.1, rfl, hh.2⟩) (fun v w2 hh => hK _ _ hh.1 hh.2 (Fresh.no _ _ _))
          · intro w1 hb hd K hK
            have e17 := D17.trans (show u 10 = _ from hd ⟨10, .data⟩ (by simp) rfl (by omega))
            have g := D11.trans (show u 4 = .bool true from hd ⟨4, .guard⟩ (by simp) rfl (by omega))
            exact op_val_w (v := (.bool true)) (wanted_of (j := 4) (s := 11) (b := true) (by kernel_rfl) (by kernel_rfl) g) (by simp only [execOp, List.map_toArray, List.map_cons, List.map_nil, e17]; go_simp) (hK _ _ (show _ = _ from rfl) (Below.refl _ _) (Fresh.no _ _ _))
        have hv7 : u 0 = (.int .i64 (m : Int)) := (show u 0 = _ from hsF 0 (by omega) (by omega))
        have hv8 : u 1 = (.slice (some ⟨bl, ol, none⟩) n cp) := (show u 1 = _ from hsF 1 (by omega) (by omega))
        have hv9 : u 2 = (.int .i64 (n : Int)) := (show u 2 = _ from hsF 2 (by omega) (by omega))
        have hv10 : u 3 = (.bool true) := (show u 3 = _ from hsF 3 (by omega) (by omega))
        have hv11 : u 4 = (.bool true) := (show u 4 = _ from hsF 4 (by omega) (by omega))
        have hv12 : u 5 = (.slice (some ⟨bl, ol, none⟩) n cp) := (show u 5 = _ from hsF 5 (by omega) (by omega))
        have hv13 : u 6 = (.int .i64 (m : Int)) := (show u 6 = _ from hsF 6 (by omega) (by omega))
        have hv14 : u 7 = (.pointer (some ⟨bl, ol + m * 33, none⟩)) := (show u 7 = _ from hsF 7 (by omega) (by omega))
        have hv15 : u 8 = (.agg (enC a)) := (show u 8 = _ from hsF 8 (by omega) (by omega))
        have hv16 : u 9 = (.agg (enC e)) := (show u 9 = _ from hsF 9 (by omega) (by omega))
        have hv17 : u 10 = (.int .i64 (cmpE a e)) := (show u 10 = _ from hsF 10 (by omega) (by omega))
        have hv18 : u 11 = (.bool true) := (show u 11 = _ from hsF 11 (by omega) (by omega))
        simp only [putRow, hv7, hv8, hv9, hv10, hv11, hv12, hv13, hv14, hv15, hv16, hv17, hv18, Act.put, List.setIfInBounds_toArray, List.set_cons_succ, List.set_cons_zero]
        clear hsF hold hap hv7 hv8 hv9 hv10 hv11 hv12 hv13 hv14 hv15 hv16 hv17 hv18
        have HW3 := Lib.hid (HW2.out.trans (hbF.mono hwle))
        have HO3 := Lib.hid (HO2.out.keep hbF)
        have HE3 := Lib.hid (HE2.out.keep hbF HE2.out.lt)
        have HZ3 := Lib.hid (Nat.le_trans HZ2.out hbF.size)
        clear HW2 HO2 HE2 HZ2 hwle CE hbF
        refine rest_forced 1 (by kernel_rfl) ?_
        simp only [List.drop_succ_cons, List.drop_zero, List.take_succ_cons, List.take_zero]
        go_wp2_with fail
        refine rest_done rfl ?_
        clear W4
        have lo2 := lo1 w' HW3.out
        have HSR := Lib.hid (one_src w' a)
        have HO4 := Lib.hid (HO3.out.keep (below1 w' (.cells (flat enC [a]).toArray 34)))
        have HB4 := Lib.hid (HW3.out.alloc HW3.out.size (.cells (flat enC [a]).toArray 34))
        have HE4 := Lib.hid (HE3.out.alloc (.cells (flat enC [a]).toArray 34))
        have hlen : (l.take m).length = m := by rw [List.length_take, HN.out.1]; have := HK.out; omega
        have HLM := Lib.hid (And.intro hlen (take_more HA.out))
        have hzz : m + 1 ≤ 1000000 := by omega
        have hsz : p + 1 ≤ (w'.alloc (.cells (flat enC [a]).toArray 34)).heap.size := by rw [size_al]; have := HZ3.out; omega
        have HSZ := Lib.hid hsz
        have HO5 : Hid ((w'.alloc (.cells (flat enC [a]).toArray 34)).ownsRow (p + 1) 34 33 (.slice A2 m c2) m (flat enC (l.take m))) := Lib.hid (by have := HO4.out; unfold OwnR at this; rwa [hlen] at this)
        clear lo1 hlen HO4 HO3
        go_wp2_with (first
          | (refine op_load (p := .pointer (some ⟨bl, ol + m * 33, none⟩)) (C := .agg (enC a)) 34 (.tmp 23) rfl rfl rfl lo2 ?_)
          | (refine op_bsl 40 34 1 _ (flat enC [a]).toArray rfl rfl (by kernel_rfl) ?_)
          | (at_builtin; refine appS rfl _ _ rfl Tryz.underlying40 hi0 hz0 hz1 hz2 hz3 (by decide) _ (p + 1) (.slice A2 m c2) m (flat enC (l.take m)) rfl HO5.out (.slice (some ⟨w'.heap.size, 0, none⟩) 1 1) 1 (flat enC [a]) rfl HSR.out (ent_one [a]) hzz (by decide) hsz ?_; intro u2 w5 hown5 hgrow5 hob5 hb5; obtain ⟨g5, c5', rfl, hg5, hc5⟩ := own_some hown5 (by omega)))
        have HO6 : Hid (OwnR w5 (p + 1) (.slice (some ⟨g5, 0, none⟩) (m + 1) c5') (l.take (m + 1))) := Lib.hid (by unfold OwnR; rw [HLM.out.2, flat_app, List.length_append, HLM.out.1]; exact hown5)
        have HE6 : Hid (Blk w5 p 34 (enC e)) := Lib.hid (HE4.out.keep hb5 (Nat.lt_succ_self _))
        have HB6 : Hid (Below w.heap.size w w5) := Lib.hid (HB4.out.trans (hb5.mono (by rw [HP.out]; exact Nat.le_succ _)))
        have HZ6 : Hid (p + 1 ≤ w5.heap.size) := Lib.hid (Nat.le_trans HSZ.out hb5.size)
        clear hown5 hgrow5 hob5 hb5 HO5 HE4 HB4 hsz hg5 hc5
        go_wp2_with fail
        go_roundw
        case rel => exact ⟨m + 1, _, _, _, HK.out, rfl, by simp, HR2, HO6, HE6, Lib.hid (by have h := HB6.out; rw [HP.out] at h; exact h), HZ6⟩
        case measure => have := HK.out; simp only [intOf]; omega
      · have t1 : decide (cmpE a e < 0) = false := decide_eq_false (by omega)
        obtain ⟨q, hq⟩ : ∃ q, eqEn a e = q := ⟨_, rfl⟩
        have hc' : ¬ cmpE a e < 0 := by omega
        have HR2 := ins_mid HA.out hc'
        rw [hq] at HR2
        have HR3 := Lib.hid (HR2.symm.trans HR.out)
        have EQ := eql_deep (eq_en a e AIN.out HIN.out.2)
        rw [hq] at EQ
        clear hc hc' HR2 hq
        refine rest_flow3 [some 7, some 8, some 9, some 10, some 11, some 12, some 13, some 14, some 15, some 16, some 17, some 18] [Sp.is (.int .i64 (m : Int)), Sp.is (.slice (some ⟨bl, ol, none⟩) n cp), Sp.is (.int .i64 (n : Int)), Sp.is (.bool true), Sp.is (.bool true), Sp.is (.slice (some ⟨bl, ol, none⟩) n cp), Sp.is (.int .i64 (m : Int)), Sp.is (.pointer (some ⟨bl, ol + m * 33, none⟩)), Sp.is (.agg (enC a)), Sp.is (.agg (enC e)), Sp.is (.int .i64 (cmpE a e)), Sp.is (.bool false)] [false, false, false, false, false, false, false, false, false, false, false, false] 12 (by kernel_rfl) (by kernel_rfl) (fun u F hF => ?_) (fun u w' hbF hsF hold hap => ?_)
        case refine_1 =>
          have E6 : F.eval (.tmp 6) = (.int .i64 (m : Int)) := (congrArg (fun a => Act.eval a (.tmp 6)) hF).trans (eval_out _ 0 _ (by decide))
          have E0 : F.eval (.tmp 0) = (.slice (some ⟨bl, ol, none⟩) n cp) := (congrArg (fun a => Act.eval a (.tmp 0)) hF).trans (eval_out _ 0 _ (by decide))
          have D8 : F.eval (.tmp 8) = u 1 := (congrArg (fun a => Act.eval a (.tmp 8)) hF).trans (eval_in _ 0 1 _ (by decide) (by omega) rfl (of_decide_eq_true (by kernel_rfl)))
          have D7 : F.eval (.tmp 7) = u 0 := (congrArg (fun a => Act.eval a (.tmp 7)) hF).trans (eval_in _ 0 0 _ (by decide) (by omega) rfl (of_decide_eq_true (by kernel_rfl)))
          have D9 : F.eval (.tmp 9) = u 2 := (congrArg (fun a => Act.eval a (.tmp 9)) hF).trans (eval_in _ 0 2 _ (by decide) (by omega) rfl (of_decide_eq_true (by kernel_rfl)))
          have D10 : F.eval (.tmp 10) = u 3 := (congrArg (fun a => Act.eval a (.tmp 10)) hF).trans (eval_in _ 0 3 _ (by decide) (by omega) rfl (of_decide_eq_true (by kernel_rfl)))
          have D11 : F.eval (.tmp 11) = u 4 := (congrArg (fun a => Act.eval a (.tmp 11)) hF).trans (eval_in _ 0 4 _ (by decide) (by omega) rfl (of_decide_eq_true (by kernel_rfl)))
          have D12 : F.eval (.tmp 12) = u 5 := (congrArg (fun a => Act.eval a (.tmp 12)) hF).trans (eval_in _ 0 5 _ (by decide) (by omega) rfl (of_decide_eq_true (by kernel_rfl)))
          have D13 : F.eval (.tmp 13) = u 6 := (congrArg (fun a => Act.eval a (.tmp 13)) hF).trans (eval_in _ 0 6 _ (by decide) (by omega) rfl (of_decide_eq_true (by kernel_rfl)))
          have D14 : F.eval (.tmp 14) = u 7 := (congrArg (fun a => Act.eval a (.tmp 14)) hF).trans (eval_in _ 0 7 _ (by decide) (by omega) rfl (of_decide_eq_true (by kernel_rfl)))
          have E3 : F.eval (.tmp 3) = (.pointer (some ⟨p, 0, none⟩)) := (congrArg (fun a => Act.eval a (.tmp 3)) hF).trans (eval_out _ 0 _ (by decide))
          have D15 : F.eval (.tmp 15) = u 8 := (congrArg (fun a => Act.eval a (.tmp 15)) hF).trans (eval_in _ 0 8 _ (by decide) (by omega) rfl (of_decide_eq_true (by kernel_rfl)))
          have D16 : F.eval (.tmp 16) = u 9 := (congrArg (fun a => Act.eval a (.tmp 16)) hF).trans (eval_in _ 0 9 _ (by decide) (by omega) rfl (of_decide_eq_true (by kernel_rfl)))
          have D17 : F.eval (.tmp 17) = u 10 := (congrArg (fun a => Act.eval a (.tmp 17)) hF).trans (eval_in _ 0 10 _ (by decide) (by omega) rfl (of_decide_eq_true (by kernel_rfl)))
          clear hF
          refine ⟨?_, ?_, ?_, ?_, ?_, ?_, ?_, ?_, ?_, ?_, ?_, ?_, trivial⟩
          · intro w1 hb hd K hK
            have e6 := E6
            exact op_val (v := (.int .i64 (m : Int))) rfl (by simp only [execOp, List.map_toArray, List.map_cons, List.map_nil, e6]; go_simp) (hK _ _ (show _ = _ from rfl) (Below.refl _ _) (Fresh.no _ _ _))
          · intro w1 hb hd K hK
            have e0 := E0
            exact op_val (v := (.slice (some ⟨bl, ol, none⟩) n cp)) rfl (by simp only [execOp, List.map_toArray, List.map_cons, List.map_nil, e0]; go_simp) (hK _ _ (show _ = _ from rfl) (Below.refl _ _) (Fresh.no _ _ _))
          · intro w1 hb hd K hK
            have e8 := D8.trans (show u 1 = _ from hd ⟨1, .data⟩ (by simp) rfl (by omega))
            exact op_val (v := (.int .i64 (n : Int))) rfl (exec_len Tryz.underlying40 rfl e8) (hK _ _ (show _ = _ from rfl) (Below.refl _ _) (Fresh.no _ _ _))
          · intro w1 hb hd K hK
            have e7 := D7.trans (show u 0 = _ from hd ⟨0, .data⟩ (by simp) rfl (by omega))
            have e9 := D9.trans (show u 2 = _ from hd ⟨2, .data⟩ (by simp) rfl (by omega))
            exact op_val (v := (.bool true)) rfl (by simp only [execOp, List.map_toArray, List.map_cons, List.map_nil, e7, e9]; go_simp) (hK _ _ (show _ = _ from rfl) (Below.refl _ _) (Fresh.no _ _ _))
          · intro w1 hb hd K hK
            have e10 := D10.trans (show u 3 = _ from hd ⟨3, .data⟩ (by simp) rfl (by omega))
            exact op_val (v := (.bool true)) rfl (by simp only [execOp, List.map_toArray, List.map_cons, List.map_nil, e10]; go_simp) (hK _ _ (show _ = _ from rfl) (Below.refl _ _) (Fresh.no _ _ _))
          · intro w1 hb hd K hK
            have e0 := E0
            have g := D11.trans (show u 4 = .bool true from hd ⟨4, .guard⟩ (by simp) rfl (by omega))
            exact op_val_w (v := (.slice (some ⟨bl, ol, none⟩) n cp)) (wanted_of (j := 4) (s := 11) (b := true) (by kernel_rfl) (by kernel_rfl) g) (by simp only [execOp, List.map_toArray, List.map_cons, List.map_nil, e0]; go_simp) (hK _ _ (show _ = _ from rfl) (Below.refl _ _) (Fresh.no _ _ _))
          · intro w1 hb hd K hK
            have e6 := E6
            have g := D11.trans (show u 4 = .bool true from hd ⟨4, .guard⟩ (by simp) rfl (by omega))
            exact op_val_w (v := (.int .i64 (m : Int))) (wanted_of (j := 4) (s := 11) (b := true) (by kernel_rfl) (by kernel_rfl) g) (by simp only [execOp, List.map_toArray, List.map_cons, List.map_nil, e6]; go_simp) (hK _ _ (show _ = _ from rfl) (Below.refl _ _) (Fresh.no _ _ _))
          · intro w1 hb hd K hK
            have e12 := D12.trans (show u 5 = _ from hd ⟨5, .data⟩ (by simp) rfl (by omega))
            have e13 := D13.trans (show u 6 = _ from hd ⟨6, .data⟩ (by simp) rfl (by omega))
            have g := D11.trans (show u 4 = .bool true from hd ⟨4, .guard⟩ (by simp) rfl (by omega))
            exact op_val_w (v := (.pointer (some ⟨bl, ol + m * 33, none⟩))) (wanted_of (j := 4) (s := 11) (b := true) (by kernel_rfl) (by kernel_rfl) g) (by simp only [execOp, List.map_toArray, List.map_cons, List.map_nil, e12, e13]; go_simp) (hK _ _ (show _ = _ from rfl) (Below.refl _ _) (Fresh.no _ _ _))
          · intro w1 hb hd K hK
            have e14 := D14.trans (show u 7 = _ from hd ⟨7, .data⟩ (by simp) rfl (by omega))
            have g := D11.trans (show u 4 = .bool true from hd ⟨4, .guard⟩ (by simp) rfl (by omega))
            exact op_val_w (v := (.agg (enC a))) (wanted_of (j := 4) (s := 11) (b := true) (by kernel_rfl) (by kernel_rfl) g) (exec_load rfl e14 (lo1 w1 (HW2.out.trans (hb.mono hwle)))) (hK _ _ (show _ = _ from rfl) (Below.refl _ _) (Fresh.no _ _ _))
          · intro w1 hb hd K hK
            have e3 := E3
            have g := D11.trans (show u 4 = .bool true from hd ⟨4, .guard⟩ (by simp) rfl (by omega))
            exact op_val_w (v := (.agg (enC e))) (wanted_of (j := 4) (s := 11) (b := true) (by kernel_rfl) (by kernel_rfl) g) (exec_load rfl e3 (HLE.out w1 (HE2.out.keep hb HE2.out.lt))) (hK _ _ (show _ = _ from rfl) (Below.refl _ _) (Fresh.no _ _ _))
          · intro w1 hb hd K hK
            have e15 := D15.trans (show u 8 = _ from hd ⟨8, .data⟩ (by simp) rfl (by omega))
            have e16 := D16.trans (show u 9 = _ from hd ⟨9, .data⟩ (by simp) rfl (by omega))
            have g := D11.trans (show u 4 = .bool true from hd ⟨4, .guard⟩ (by simp) rfl (by omega))
            refine op_call_w (R := fun v w2 => v = (.int .i64 (cmpE a e)) ∧ Below w1.heap.size w1 w2) (f := 32) (args := #[.agg (enC a), .agg (enC e)]) (wanted_of (j := 4) (s := 11) (b := true) (by kernel_rfl) (by kernel_rfl) g) (by simp only [execOp]; go_simp; first | exact ⟨eval_get e15, eval_get e16⟩ | (simp only [Act.eval] at *; simp_all)) ((CE.out w1).mono fun e w2 hh => ⟨_, hh.1, rfl, hh.2⟩) (fun v w2 hh => hK _ _ hh.1 hh.2 (Fresh.no _ _ _))
          · intro w1 hb hd K hK
            have e17 := D17.trans (show u 10 = _ from hd ⟨10, .data⟩ (by simp) rfl (by omega))
            have g := D11.trans (show u 4 = .bool true from hd ⟨4, .guard⟩ (by simp) rfl (by omega))
            exact op_val_w (v := (.bool false)) (wanted_of (j := 4) (s := 11) (b := true) (by kernel_rfl) (by kernel_rfl) g) (by simp only [execOp, List.map_toArray, List.map_cons, List.map_nil, e17]; go_simp) (hK _ _ (show _ = _ from rfl) (Below.refl _ _) (Fresh.no _ _ _))
        have hv7 : u 0 = (.int .i64 (m : Int)) := (show u 0 = _ from hsF 0 (by omega) (by omega))
        have hv8 : u 1 = (.slice (some ⟨bl, ol, none⟩) n cp) := (show u 1 = _ from hsF 1 (by omega) (by omega))
        have hv9 : u 2 = (.int .i64 (n : Int)) := (show u 2 = _ from hsF 2 (by omega) (by omega))
        have hv10 : u 3 = (.bool true) := (show u 3 = _ from hsF 3 (by omega) (by omega))
        have hv11 : u 4 = (.bool true) := (show u 4 = _ from hsF 4 (by omega) (by omega))
        have hv12 : u 5 = (.slice (some ⟨bl, ol, none⟩) n cp) := (show u 5 = _ from hsF 5 (by omega) (by omega))
        have hv13 : u 6 = (.int .i64 (m : Int)) := (show u 6 = _ from hsF 6 (by omega) (by omega))
        have hv14 : u 7 = (.pointer (some ⟨bl, ol + m * 33, none⟩)) := (show u 7 = _ from hsF 7 (by omega) (by omega))
        have hv15 : u 8 = (.agg (enC a)) := (show u 8 = _ from hsF 8 (by omega) (by omega))
        have hv16 : u 9 = (.agg (enC e)) := (show u 9 = _ from hsF 9 (by omega) (by omega))
        have hv17 : u 10 = (.int .i64 (cmpE a e)) := (show u 10 = _ from hsF 10 (by omega) (by omega))
        have hv18 : u 11 = (.bool false) := (show u 11 = _ from hsF 11 (by omega) (by omega))
        simp only [putRow, hv7, hv8, hv9, hv10, hv11, hv12, hv13, hv14, hv15, hv16, hv17, hv18, Act.put, List.setIfInBounds_toArray, List.set_cons_succ, List.set_cons_zero]
        clear hsF hold hap hv7 hv8 hv9 hv10 hv11 hv12 hv13 hv14 hv15 hv16 hv17 hv18
        have HW3 := Lib.hid (HW2.out.trans (hbF.mono hwle))
        have HO3 := Lib.hid (HO2.out.keep hbF)
        have HE3 := Lib.hid (HE2.out.keep hbF HE2.out.lt)
        have HZ3 := Lib.hid (Nat.le_trans HZ2.out hbF.size)
        clear HW2 HO2 HE2 HZ2 hwle CE hbF
        refine rest_forced 1 (by kernel_rfl) ?_
        simp only [List.drop_succ_cons, List.drop_zero, List.take_succ_cons, List.take_zero]
        go_wp2_with fail
        refine rest_done rfl ?_
        clear W4
        have HSR := Lib.hid (one_src w' e)
        have lo2 := HLE.out w' HE3.out
        have HO4 := Lib.hid (HO3.out.keep (below1 w' (.cells (flat enC [e]).toArray 34)))
        have HB4 := Lib.hid (HW3.out.alloc HW3.out.size (.cells (flat enC [e]).toArray 34))
        have HE4 := Lib.hid (HE3.out.alloc (.cells (flat enC [e]).toArray 34))
        have hlen : (l.take m).length = m := by rw [List.length_take, HN.out.1]; have := HK.out; omega
        have HLM := Lib.hid hlen
        have hzz : m + 1 ≤ 1000000 := by omega
        have hsz : p + 1 ≤ (w'.alloc (.cells (flat enC [e]).toArray 34)).heap.size := by rw [size_al]; have := HZ3.out; omega
        have HSZ := Lib.hid hsz
        have HO5 : Hid ((w'.alloc (.cells (flat enC [e]).toArray 34)).ownsRow (p + 1) 34 33 (.slice A2 m c2) m (flat enC (l.take m))) := Lib.hid (by have := HO4.out; unfold OwnR at this; rwa [hlen] at this)
        clear hlen HO4 HO3
        go_upto_region 7 with (first
          | (refine op_load (p := .pointer (some ⟨p, 0, none⟩)) (C := .agg (enC e)) 34 (.tmp 3) rfl rfl rfl lo2 ?_)
          | (refine op_bsl 40 34 1 _ (flat enC [e]).toArray rfl rfl (by kernel_rfl) ?_)
          | (at_builtin; refine appS rfl _ _ rfl Tryz.underlying40 hi0 hz0 hz1 hz2 hz3 (by decide) _ (p + 1) (.slice A2 m c2) m (flat enC (l.take m)) rfl HO5.out (.slice (some ⟨w'.heap.size, 0, none⟩) 1 1) 1 (flat enC [e]) rfl HSR.out (ent_one [e]) hzz (by decide) hsz ?_; intro u2 w5 hown5 hgrow5 hob5 hb5; obtain ⟨g5, c5', rfl, hg5, hc5⟩ := own_some hown5 (by omega)))
        have HO6 : Hid (w5.ownsRow (p + 1) 34 33 (.slice (some ⟨g5, 0, none⟩) (m + 1) c5') (m + 1) (flat enC (l.take m ++ [e]))) := Lib.hid (by rw [flat_app]; exact hown5)
        have HE6 : Hid (Blk w5 p 34 (enC e)) := Lib.hid (HE4.out.keep hb5 (Nat.lt_succ_self _))
        have HB6 : Hid (Below w.heap.size w w5) := Lib.hid (HB4.out.trans (hb5.mono (by rw [HP.out]; exact Nat.le_succ _)))
        have HZ6 : Hid (p + 1 ≤ w5.heap.size) := Lib.hid (Nat.le_trans HSZ.out hb5.size)
        clear hown5 hgrow5 hob5 hb5 HO5 HE4 HB4 hsz hg5 hc5 lo2 HSR HW3 HE3 HZ3 HSZ
        have HW7 := Lib.hid HB6.out.drew
        have HO7 := Lib.hid (own_keep HO6.out (Below.refl _ w5).drew)
        have HE7 : Hid (Blk w5.drew p 34 (enC e)) := HE6
        have HZ7 : Hid (p + 1 ≤ w5.drew.heap.size) := HZ6
        refine rest_begin (by kernel_rfl) ?_
        obtain ⟨W4, hW4⟩ : ∃ W4, w5.drew = W4 := ⟨_, rfl⟩
        rw [hW4] at HW7 HO7 HE7 HZ7 ⊢
        clear hW4 HB6 HO6 HE6 HZ6
        clear w5
        have hwle : w.heap.size ≤ W4.heap.size := HW7.out.size
        refine rest_flow3 [some 33, some 34, some 35, some 36, some 37, some 38, some 39, some 40, some 41, some 42, some 43] [Sp.is (.int .i64 (m : Int)), Sp.is (.slice (some ⟨bl, ol, none⟩) n cp), Sp.is (.int .i64 (n : Int)), Sp.is (.bool true), Sp.is (.bool true), Sp.is (.slice (some ⟨bl, ol, none⟩) n cp), Sp.is (.int .i64 (m : Int)), Sp.is (.pointer (some ⟨bl, ol + m * 33, none⟩)), Sp.is (.agg (enC a)), Sp.is (.agg (enC e)), Sp.is (.bool q)] [false, false, false, false, false, false, false, false, false, false, false] 11 (by kernel_rfl) (by kernel_rfl) (fun u F hF => ?_) (fun u w' hbF hsF hold hap => ?_)
        case refine_1 =>
          have E6 : F.eval (.tmp 6) = (.int .i64 (m : Int)) := (congrArg (fun a => Act.eval a (.tmp 6)) hF).trans (eval_out _ 0 _ (by decide))
          have E0 : F.eval (.tmp 0) = (.slice (some ⟨bl, ol, none⟩) n cp) := (congrArg (fun a => Act.eval a (.tmp 0)) hF).trans (eval_out _ 0 _ (by decide))
          have D34 : F.eval (.tmp 34) = u 1 := (congrArg (fun a => Act.eval a (.tmp 34)) hF).trans (eval_in _ 0 1 _ (by decide) (by omega) rfl (of_decide_eq_true (by kernel_rfl)))
          have D33 : F.eval (.tmp 33) = u 0 := (congrArg (fun a => Act.eval a (.tmp 33)) hF).trans (eval_in _ 0 0 _ (by decide) (by omega) rfl (of_decide_eq_true (by kernel_rfl)))
          have D35 : F.eval (.tmp 35) = u 2 := (congrArg (fun a => Act.eval a (.tmp 35)) hF).trans (eval_in _ 0 2 _ (by decide) (by omega) rfl (of_decide_eq_true (by kernel_rfl)))
          have D36 : F.eval (.tmp 36) = u 3 := (congrArg (fun a => Act.eval a (.tmp 36)) hF).trans (eval_in _ 0 3 _ (by decide) (by omega) rfl (of_decide_eq_true (by kernel_rfl)))
          have D37 : F.eval (.tmp 37) = u 4 := (congrArg (fun a => Act.eval a (.tmp 37)) hF).trans (eval_in _ 0 4 _ (by decide) (by omega) rfl (of_decide_eq_true (by kernel_rfl)))
          have D38 : F.eval (.tmp 38) = u 5 := (congrArg (fun a => Act.eval a (.tmp 38)) hF).trans (eval_in _ 0 5 _ (by decide) (by omega) rfl (of_decide_eq_true (by kernel_rfl)))
          have D39 : F.eval (.tmp 39) = u 6 := (congrArg (fun a => Act.eval a (.tmp 39)) hF).trans (eval_in _ 0 6 _ (by decide) (by omega) rfl (of_decide_eq_true (by kernel_rfl)))
          have D40 : F.eval (.tmp 40) = u 7 := (congrArg (fun a => Act.eval a (.tmp 40)) hF).trans (eval_in _ 0 7 _ (by decide) (by omega) rfl (of_decide_eq_true (by kernel_rfl)))
          have E3 : F.eval (.tmp 3) = (.pointer (some ⟨p, 0, none⟩)) := (congrArg (fun a => Act.eval a (.tmp 3)) hF).trans (eval_out _ 0 _ (by decide))
          have D41 : F.eval (.tmp 41) = u 8 := (congrArg (fun a => Act.eval a (.tmp 41)) hF).trans (eval_in _ 0 8 _ (by decide) (by omega) rfl (of_decide_eq_true (by kernel_rfl)))
          have D42 : F.eval (.tmp 42) = u 9 := (congrArg (fun a => Act.eval a (.tmp 42)) hF).trans (eval_in _ 0 9 _ (by decide) (by omega) rfl (of_decide_eq_true (by kernel_rfl)))
          clear hF
          refine ⟨?_, ?_, ?_, ?_, ?_, ?_, ?_, ?_, ?_, ?_, ?_, trivial⟩
          · intro w1 hb hd K hK
            have e6 := E6
            exact op_val (v := (.int .i64 (m : Int))) rfl (by simp only [execOp, List.map_toArray, List.map_cons, List.map_nil, e6]; go_simp) (hK _ _ (show _ = _ from rfl) (Below.refl _ _) (Fresh.no _ _ _))
          · intro w1 hb hd K hK
            have e0 := E0
            exact op_val (v := (.slice (some ⟨bl, ol, none⟩) n cp)) rfl (by simp only [execOp, List.map_toArray, List.map_cons, List.map_nil, e0]; go_simp) (hK _ _ (show _ = _ from rfl) (Below.refl _ _) (Fresh.no _ _ _))
          · intro w1 hb hd K hK
            have e34 := D34.trans (show u 1 = _ from hd ⟨1, .data⟩ (by simp) rfl (by omega))
            exact op_val (v := (.int .i64 (n : Int))) rfl (exec_len Tryz.underlying40 rfl e34) (hK _ _ (show _ = _ from rfl) (Below.refl _ _) (Fresh.no _ _ _))
          · intro w1 hb hd K hK
            have e33 := D33.trans (show u 0 = _ from hd ⟨0, .data⟩ (by simp) rfl (by omega))
            have e35 := D35.trans (show u 2 = _ from hd ⟨2, .data⟩ (by simp) rfl (by omega))
            exact op_val (v := (.bool true)) rfl (by simp only [execOp, List.map_toArray, List.map_cons, List.map_nil, e33, e35]; go_simp) (hK _ _ (show _ = _ from rfl) (Below.refl _ _) (Fresh.no _ _ _))
          · intro w1 hb hd K hK
            have e36 := D36.trans (show u 3 = _ from hd ⟨3, .data⟩ (by simp) rfl (by omega))
            exact op_val (v := (.bool true)) rfl (by simp only [execOp, List.map_toArray, List.map_cons, List.map_nil, e36]; go_simp) (hK _ _ (show _ = _ from rfl) (Below.refl _ _) (Fresh.no _ _ _))
          · intro w1 hb hd K hK
            have e0 := E0
            have g := D37.trans (show u 4 = .bool true from hd ⟨4, .guard⟩ (by simp) rfl (by omega))
            exact op_val_w (v := (.slice (some ⟨bl, ol, none⟩) n cp)) (wanted_of (j := 4) (s := 37) (b := true) (by kernel_rfl) (by kernel_rfl) g) (by simp only [execOp, List.map_toArray, List.map_cons, List.map_nil, e0]; go_simp) (hK _ _ (show _ = _ from rfl) (Below.refl _ _) (Fresh.no _ _ _))
          · intro w1 hb hd K hK
            have e6 := E6
            have g := D37.trans (show u 4 = .bool true from hd ⟨4, .guard⟩ (by simp) rfl (by omega))
            exact op_val_w (v := (.int .i64 (m : Int))) (wanted_of (j := 4) (s := 37) (b := true) (by kernel_rfl) (by kernel_rfl) g) (by simp only [execOp, List.map_toArray, List.map_cons, List.map_nil, e6]; go_simp) (hK _ _ (show _ = _ from rfl) (Below.refl _ _) (Fresh.no _ _ _))
          · intro w1 hb hd K hK
            have e38 := D38.trans (show u 5 = _ from hd ⟨5, .data⟩ (by simp) rfl (by omega))
            have e39 := D39.trans (show u 6 = _ from hd ⟨6, .data⟩ (by simp) rfl (by omega))
            have g := D37.trans (show u 4 = .bool true from hd ⟨4, .guard⟩ (by simp) rfl (by omega))
            exact op_val_w (v := (.pointer (some ⟨bl, ol + m * 33, none⟩))) (wanted_of (j := 4) (s := 37) (b := true) (by kernel_rfl) (by kernel_rfl) g) (by simp only [execOp, List.map_toArray, List.map_cons, List.map_nil, e38, e39]; go_simp) (hK _ _ (show _ = _ from rfl) (Below.refl _ _) (Fresh.no _ _ _))
          · intro w1 hb hd K hK
            have e40 := D40.trans (show u 7 = _ from hd ⟨7, .data⟩ (by simp) rfl (by omega))
            have g := D37.trans (show u 4 = .bool true from hd ⟨4, .guard⟩ (by simp) rfl (by omega))
            exact op_val_w (v := (.agg (enC a))) (wanted_of (j := 4) (s := 37) (b := true) (by kernel_rfl) (by kernel_rfl) g) (exec_load rfl e40 (lo1 w1 (HW7.out.trans (hb.mono hwle)))) (hK _ _ (show _ = _ from rfl) (Below.refl _ _) (Fresh.no _ _ _))
          · intro w1 hb hd K hK
            have e3 := E3
            have g := D37.trans (show u 4 = .bool true from hd ⟨4, .guard⟩ (by simp) rfl (by omega))
            exact op_val_w (v := (.agg (enC e))) (wanted_of (j := 4) (s := 37) (b := true) (by kernel_rfl) (by kernel_rfl) g) (exec_load rfl e3 (HLE.out w1 (HE7.out.keep hb HE7.out.lt))) (hK _ _ (show _ = _ from rfl) (Below.refl _ _) (Fresh.no _ _ _))
          · intro w1 hb hd K hK
            have e41 := D41.trans (show u 8 = _ from hd ⟨8, .data⟩ (by simp) rfl (by omega))
            have e42 := D42.trans (show u 9 = _ from hd ⟨9, .data⟩ (by simp) rfl (by omega))
            have g := D37.trans (show u 4 = .bool true from hd ⟨4, .guard⟩ (by simp) rfl (by omega))
            exact op_val_w (v := (.bool q)) (wanted_of (j := 4) (s := 37) (b := true) (by kernel_rfl) (by kernel_rfl) g) (exec_bin rfl e41 e42 (by kernel_rfl) (EQ w1)) (hK _ _ (show _ = _ from rfl) (Below.refl _ _) (Fresh.no _ _ _))
        have hv33 : u 0 = (.int .i64 (m : Int)) := (show u 0 = _ from hsF 0 (by omega) (by omega))
        have hv34 : u 1 = (.slice (some ⟨bl, ol, none⟩) n cp) := (show u 1 = _ from hsF 1 (by omega) (by omega))
        have hv35 : u 2 = (.int .i64 (n : Int)) := (show u 2 = _ from hsF 2 (by omega) (by omega))
        have hv36 : u 3 = (.bool true) := (show u 3 = _ from hsF 3 (by omega) (by omega))
        have hv37 : u 4 = (.bool true) := (show u 4 = _ from hsF 4 (by omega) (by omega))
        have hv38 : u 5 = (.slice (some ⟨bl, ol, none⟩) n cp) := (show u 5 = _ from hsF 5 (by omega) (by omega))
        have hv39 : u 6 = (.int .i64 (m : Int)) := (show u 6 = _ from hsF 6 (by omega) (by omega))
        have hv40 : u 7 = (.pointer (some ⟨bl, ol + m * 33, none⟩)) := (show u 7 = _ from hsF 7 (by omega) (by omega))
        have hv41 : u 8 = (.agg (enC a)) := (show u 8 = _ from hsF 8 (by omega) (by omega))
        have hv42 : u 9 = (.agg (enC e)) := (show u 9 = _ from hsF 9 (by omega) (by omega))
        have hv43 : u 10 = (.bool q) := (show u 10 = _ from hsF 10 (by omega) (by omega))
        simp only [putRow, hv33, hv34, hv35, hv36, hv37, hv38, hv39, hv40, hv41, hv42, hv43, Act.put, List.setIfInBounds_toArray, List.set_cons_succ, List.set_cons_zero]
        clear hsF hold hap hv33 hv34 hv35 hv36 hv37 hv38 hv39 hv40 hv41 hv42 hv43
        have HW8 := Lib.hid (HW7.out.trans (hbF.mono hwle))
        have HO8 := Lib.hid (own_keep HO7.out hbF)
        have HZ8 := Lib.hid (Nat.le_trans HZ7.out hbF.size)
        clear HW7 HO7 HE7 HZ7 hwle hbF HLE lo1
        refine rest_forced 1 (by kernel_rfl) ?_
        simp only [List.drop_succ_cons, List.drop_zero, List.take_succ_cons, List.take_zero]
        go_wp2_with fail
        refine rest_done rfl ?_
        clear W4
        rcases q with _ | _
        · obtain ⟨A9, c9, sl, hes⟩ := tail_es HV.out HN.out.1 (Nat.le_of_lt HK.out) HN.out.2
          have HS9 := Lib.hid (src_es (n := n - m) (hes.keep HW8.out) (by rw [List.length_drop, HN.out.1]))
          have hzz2 : m + 1 + (n - m) ≤ 1000000 := by omega
          have hbs := HZ8.out
          have HF : Hid (R = (l.take m ++ [e]) ++ l.drop m) := Lib.hid (by rw [← HR3.out]; rfl)
          have HL9 : Hid (m + 1 + (n - m) = R.length) := Lib.hid (by rw [HF.out]; simp only [List.length_append, List.length_singleton, List.length_take, List.length_drop, HN.out.1]; have := HK.out; omega)
          clear hes
          go_wp2_with (first
            | (at_builtin; refine appS rfl _ _ rfl Tryz.underlying40 hi0 hz0 hz1 hz2 hz3 (by decide) _ (p + 1) (.slice (some ⟨g5, 0, none⟩) (m + 1) c5') (m + 1) (flat enC (l.take m ++ [e])) rfl HO8.out (.slice A9 (n - m) c9) (n - m) (flat enC (l.drop m)) rfl HS9.out (ent_one _) hzz2 (by decide) hbs ?_; intro u3 w9 hown9 hgrow9 hob9 hb9))
          have HO9 : Hid (OwnR w9 (p + 1) u3 R) := Lib.hid (by unfold OwnR; rw [← HL9.out, HF.out, flat_app]; exact hown9)
          have HB9 : Hid (Below w.heap.size w w9) := Lib.hid (HW8.out.trans (hb9.mono (by rw [HP.out]; exact Nat.le_succ _)))
          clear hown9 hgrow9 hob9 hb9 hbs
          go_wp2_with fail
          go_ret
          exact ⟨_, rfl, own_base HO9.out (Nat.le_succ_of_le (Nat.le_of_eq HP.out)), HB9.out⟩
        · obtain ⟨A9, c9, sl, hes⟩ := tail_es HV.out HN.out.1 (k := m + 1) HK.out HN.out.2
          rw [show ((m + 1 : Nat) : Int) = (m : Int) + 1 by omega] at sl
          have HS9 := Lib.hid (src_es (n := n - (m + 1)) (hes.keep HW8.out) (by rw [List.length_drop, HN.out.1]))
          have hzz2 : m + 1 + (n - (m + 1)) ≤ 1000000 := by omega
          have hbs := HZ8.out
          have HF : Hid (R = (l.take m ++ [e]) ++ l.drop (m + 1)) := Lib.hid (by rw [← HR3.out]; rfl)
          have HL9 : Hid (m + 1 + (n - (m + 1)) = R.length) := Lib.hid (by rw [HF.out]; simp only [List.length_append, List.length_singleton, List.length_take, List.length_drop, HN.out.1]; have := HK.out; omega)
          clear hes
          go_wp2_with (first
            | (at_builtin; refine appS rfl _ _ rfl Tryz.underlying40 hi0 hz0 hz1 hz2 hz3 (by decide) _ (p + 1) (.slice (some ⟨g5, 0, none⟩) (m + 1) c5') (m + 1) (flat enC (l.take m ++ [e])) rfl HO8.out (.slice A9 (n - (m + 1)) c9) (n - (m + 1)) (flat enC (l.drop (m + 1))) rfl HS9.out (ent_one _) hzz2 (by decide) hbs ?_; intro u3 w9 hown9 hgrow9 hob9 hb9))
          have HO9 : Hid (OwnR w9 (p + 1) u3 R) := Lib.hid (by unfold OwnR; rw [← HL9.out, HF.out, flat_app]; exact hown9)
          have HB9 : Hid (Below w.heap.size w w9) := Lib.hid (HW8.out.trans (hb9.mono (by rw [HP.out]; exact Nat.le_succ _)))
          clear hown9 hgrow9 hob9 hb9 hbs
          go_wp2_with fail
          go_ret
          exact ⟨_, rfl, own_base HO9.out (Nat.le_succ_of_le (Nat.le_of_eq HP.out)), HB9.out⟩
    · obtain rfl : m = n := by omega
      have u1 : decide ((m : Int) < (m : Int)) = false := decide_eq_false (by omega)
      have HR2 : Hid (R = l.take m ++ [e]) := Lib.hid (by rw [← HR.out, ins_end (by rw [HN.out.1]; exact Nat.le_refl _)])
      clear hlt hk
      go_upto_region 3 with fail
      go_quiet (fail)
      have HW3 := Lib.hid (below_drewN HW.out nq)
      have HO3 : Hid (OwnR (wr.drewN nq) (p + 1) (.slice A2 m c2) (l.take m)) := Lib.hid (HO.out.keep (below_drewN (Below.refl _ wr) nq))
      have HE3 : Hid (Blk (wr.drewN nq) p 34 (enC e)) := HE
      have HZ3 : Hid (p + 1 ≤ (wr.drewN nq).heap.size) := HZ
      clear HW HO HE HZ
      generalize wr.drewN nq = w' at *
      have HSR := Lib.hid (one_src w' e)
      have lo2 := HLE.out w' HE3.out
      have HO4 := Lib.hid (HO3.out.keep (below1 w' (.cells (flat enC [e]).toArray 34)))
      have HB4 := Lib.hid (HW3.out.alloc HW3.out.size (.cells (flat enC [e]).toArray 34))
      have hlen : (l.take m).length = m := by rw [List.length_take, HN.out.1]; omega
      have HLM := Lib.hid hlen
      have hzz : m + 1 ≤ 1000000 := by omega
      have hsz : p + 1 ≤ (w'.alloc (.cells (flat enC [e]).toArray 34)).heap.size := by rw [size_al]; have := HZ3.out; omega
      have HSZ := Lib.hid hsz
      have HO5 : Hid ((w'.alloc (.cells (flat enC [e]).toArray 34)).ownsRow (p + 1) 34 33 (.slice A2 m c2) m (flat enC (l.take m))) := Lib.hid (by have := HO4.out; unfold OwnR at this; rwa [hlen] at this)
      clear hlen HO4 HO3 u1
      go_upto_region 7 with (first
        | (refine op_load (p := .pointer (some ⟨p, 0, none⟩)) (C := .agg (enC e)) 34 (.tmp 3) rfl rfl rfl lo2 ?_)
        | (refine op_bsl 40 34 1 _ (flat enC [e]).toArray rfl rfl (by kernel_rfl) ?_)
        | (at_builtin; refine appS rfl _ _ rfl Tryz.underlying40 hi0 hz0 hz1 hz2 hz3 (by decide) _ (p + 1) (.slice A2 m c2) m (flat enC (l.take m)) rfl HO5.out (.slice (some ⟨w'.heap.size, 0, none⟩) 1 1) 1 (flat enC [e]) rfl HSR.out (ent_one [e]) hzz (by decide) hsz ?_; intro u2 w5 hown5 hgrow5 hob5 hb5; obtain ⟨g5, c5', rfl, hg5, hc5⟩ := own_some hown5 (by omega)))
      have HO6 : Hid (w5.ownsRow (p + 1) 34 33 (.slice (some ⟨g5, 0, none⟩) (m + 1) c5') (m + 1) (flat enC (l.take m ++ [e]))) := Lib.hid (by rw [flat_app]; exact hown5)
      have HB6 : Hid (Below w.heap.size w w5) := Lib.hid (HB4.out.trans (hb5.mono (by rw [HP.out]; exact Nat.le_succ _)))
      have HZ6 : Hid (p + 1 ≤ w5.heap.size) := Lib.hid (Nat.le_trans HSZ.out hb5.size)
      clear hown5 hgrow5 hob5 hb5 HO5 HB4 hsz hg5 hc5 lo2 HSR HW3 HE3 HZ3 HSZ
      have u1 : decide ((m : Int) < (m : Int)) = false := decide_eq_false (by omega)
      go_quiet (fail)
      have HW8 := Lib.hid (below_drewN HB6.out nq)
      have HO8 : Hid ((w5.drewN nq).ownsRow (p + 1) 34 33 (.slice (some ⟨g5, 0, none⟩) (m + 1) c5') (m + 1) (flat enC (l.take m ++ [e]))) := Lib.hid (own_keep HO6.out (below_drewN (Below.refl _ w5) nq))
      have HZ8 : Hid (p + 1 ≤ (w5.drewN nq).heap.size) := HZ6
      clear HB6 HO6 HZ6 u1
      generalize w5.drewN nq = w' at *
      obtain ⟨A9, c9, sl, hes⟩ := tail_es HV.out HN.out.1 (Nat.le_refl m) HN.out.2
      have HS9 := Lib.hid (src_es (n := m - m) (hes.keep HW8.out) (by rw [List.length_drop, HN.out.1]))
      have hzz2 : m + 1 + (m - m) ≤ 1000000 := by omega
      have hbs := HZ8.out
      have HF : Hid (R = (l.take m ++ [e]) ++ l.drop m) := Lib.hid (by rw [HR2.out, List.drop_eq_nil_of_le (by rw [HN.out.1]; exact Nat.le_refl _), List.append_nil])
      have HL9 : Hid (m + 1 + (m - m) = R.length) := Lib.hid (by rw [HF.out]; simp only [List.length_append, List.length_singleton, List.length_take, List.length_drop, HN.out.1]; omega)
      obtain ⟨z9, hz9⟩ : ∃ z9, m - m = z9 := ⟨_, rfl⟩
      rw [hz9] at sl HS9 hzz2 HL9
      clear hes hz9
      go_wp2_with (first
        | (at_builtin; refine appS rfl _ _ rfl Tryz.underlying40 hi0 hz0 hz1 hz2 hz3 (by decide) _ (p + 1) (.slice (some ⟨g5, 0, none⟩) (m + 1) c5') (m + 1) (flat enC (l.take m ++ [e])) rfl HO8.out (.slice A9 z9 c9) z9 (flat enC (l.drop m)) rfl HS9.out (ent_one _) hzz2 (by decide) hbs ?_; intro u3 w9 hown9 hgrow9 hob9 hb9))
      have HO9 : Hid (OwnR w9 (p + 1) u3 R) := Lib.hid (by unfold OwnR; rw [← HL9.out, HF.out, flat_app]; exact hown9)
      have HB9 : Hid (Below w.heap.size w w9) := Lib.hid (HW8.out.trans (hb9.mono (by rw [HP.out]; exact Nat.le_succ _)))
      clear hown9 hgrow9 hob9 hb9 hbs
      go_wp2_with fail
      go_ret
      exact ⟨_, rfl, own_base HO9.out (Nat.le_succ_of_le (Nat.le_of_eq HP.out)), HB9.out⟩
end Go.Proofs.YtpkmibmombpjpaaGreatDoor
set_option linter.unusedSimpArgs false
namespace Go.Proofs.YtpkmibmombpjpaaGreatDoor
open Go Go.RowKit

set_option maxRecDepth 100000 in
set_option maxHeartbeats 2000000 in
theorem rsame_any (a b : En) (w : World) : Calls Tryz.prog 83 #[.agg (enC a), .agg (enC b)] w (fun r w' => r = .returned (.bool (sameK a b)) ∧ Below w.heap.size w w') := by
  obtain ⟨R, hR⟩ : ∃ R, sameK a b = R := ⟨_, rfl⟩
  rw [hR]
  have HR := Lib.hid hR
  clear hR
  go_enter Tryz.func83, Tryz.ntmps83
  go_upto_region 1 with fail
  have HA : Hid (Blk ((w.alloc (.cells (enC a) 34)).alloc (.cells (enC b) 34)) w.heap.size 34 (enC a)) := Lib.hid ((Blk.new w _ _).alloc _)
  have HB : Hid (Blk ((w.alloc (.cells (enC a) 34)).alloc (.cells (enC b) 34)) (w.heap.size + 1) 34 (enC b)) := Lib.hid (by
    have := Blk.new (w.alloc (.cells (enC a) 34)) 34 (enC b)
    rwa [size_al] at this)
  have HW : Hid (Below w.heap.size w ((w.alloc (.cells (enC a) 34)).alloc (.cells (enC b) 34))) := Lib.hid ((below1 w _).alloc (by simp) _)
  generalize (w.alloc (.cells (enC a) 34)).alloc (.cells (enC b) 34) = W1 at *
  generalize w.heap.size + 1 = p3 at *
  obtain ⟨p2, hp2⟩ : ∃ p2, w.heap.size = p2 := ⟨_, rfl⟩
  rw [hp2] at HA ⊢
  clear hp2
  have x0 := HA.out.cell (enC_rd a)
  have x1 := HA.out.cell (enC_tb a)
  have x2 := HA.out.cell (enC_bd a)
  have y0 := HB.out.cell (enC_rd b)
  have y1 := HB.out.cell (enC_tb b)
  have y2 := HB.out.cell (enC_bd b)
  by_cases h0 : a.rd = b.rd
  · have t0 : (a.rd == b.rd) = true := by rw [beq_iff_eq]; exact h0
    by_cases h1 : a.tb = b.tb
    · have t1 : (a.tb == b.tb) = true := by rw [beq_iff_eq]; exact h1
      by_cases h2 : a.bd = b.bd
      · have t2 : (a.bd == b.bd) = true := by rw [beq_iff_eq]; exact h2
        have HX : Hid (R = true) := Lib.hid (by rw [← HR.out]; simp [sameK, h0, h1, h2])
        clear h0 h1 h2
        go_wp2_with fail
        go_ret
        exact ⟨by rw [HX.out]; rfl, HW.out⟩
      · have t2 : (a.bd == b.bd) = false := by rw [beq_eq_false_iff_ne]; exact h2
        have HX : Hid (R = false) := Lib.hid (by rw [← HR.out]; simp [sameK, h0, h1, h2])
        clear h0 h1 h2
        go_wp2_with fail
        go_ret
        exact ⟨by rw [HX.out]; rfl, HW.out⟩
    · have t1 : (a.tb == b.tb) = false := by rw [beq_eq_false_iff_ne]; exact h1
      have HX : Hid (R = false) := Lib.hid (by rw [← HR.out]; simp [sameK, h0, h1])
      clear h0 h1
      go_wp2_with fail
      go_ret
      exact ⟨by rw [HX.out]; rfl, HW.out⟩
  · have t0 : (a.rd == b.rd) = false := by rw [beq_eq_false_iff_ne]; exact h0
    have HX : Hid (R = false) := Lib.hid (by rw [← HR.out]; simp [sameK, h0])
    clear h0
    go_wp2_with fail
    go_ret
    exact ⟨by rw [HX.out]; rfl, HW.out⟩
theorem setL_snoc (l : List En) (e : En) : setL (l ++ [e]) = insE e (setL l) := by
  unfold setL
  rw [List.foldl_append]
  rfl
set_option maxRecDepth 100000 in
set_option maxHeartbeats 2000000 in
theorem rset_any (l : List En) (hin : ∀ e ∈ l, e.In) (hl : l.length ≤ 900000) (v : Value) (w : World) (hv : ES w v l) : Calls Tryz.prog 47 #[v] w (fun r w' => ∃ u, r = .returned u ∧ OwnR w' w.heap.size u (setL l) ∧ Below w.heap.size w w') := by
  obtain ⟨A, cp, rfl, -⟩ := hv.len
  have HV := Lib.hid hv
  have HIN := Lib.hid hin
  have HSL := Lib.hid (fun k => setL_len (l.take k))
  have HSI := Lib.hid (fun k => setL_in (l := l.take k) (fun e he => hin e (List.mem_of_mem_take he)))
  obtain ⟨R, hR⟩ : ∃ R, setL l = R := ⟨_, rfl⟩
  rw [hR]
  have HR := Lib.hid hR
  obtain ⟨n, hn⟩ : ∃ n, l.length = n := ⟨_, rfl⟩
  rw [hn] at hl HV ⊢
  have HN := Lib.hid hn
  clear hv hn hin hR
  go_enter Tryz.func47, Tryz.ntmps47
  go_wp2_with fail
  go_loopw [3, 4] (fun s3 s4 wr => ∃ (k : Nat) (A : Option Addr) (m c : Nat), k ≤ n ∧ s3 = .slice A m c ∧ s4 = .int .i64 (k : Int) ∧ Hid (OwnR wr w.heap.size (.slice A m c) (setL (l.take k))) ∧ Hid (Below w.heap.size w wr)) (fun _ s4 _ => n - (intOf s4).toNat)
  case atStart => exact ⟨0, _, _, _, Nat.zero_le _, rfl, rfl, Lib.hid (own_nilE _ _), Lib.hid (Below.refl _ _)⟩
  case round =>
    obtain ⟨k, A2, m, c, hk, rfl, rfl, HO, HW⟩ := hrel
    by_cases hlt : k < n
    · have u1 : decide ((k : Int) < (n : Int)) = true := decide_eq_true (by omega)
      obtain ⟨e, he⟩ : ∃ a, l[k]? = some a := ⟨_, List.getElem?_eq_getElem (by rw [HN.out]; omega)⟩
      obtain ⟨bl, ol, rfl⟩ := HV.out.ptr (by rw [HN.out]; omega)
      have lo := HV.out.load he HW.out
      have HM := Lib.hid (setL_more he)
      have IC := Lib.hid (rinsert_any (setL (l.take k)) e (HSI.out k) (HIN.out e (List.mem_of_getElem? he)) (by have := HSL.out k; rw [List.length_take] at this; omega) _ wr HO.out.es)
      have e1 : IntKind.i64.wrap ((k : Int) + 1) = (k : Int) + 1 := IntWalk.i64_in _ (by omega)
      have j0 : (0 : Int) ≤ (k : Int) := by omega
      have j1 : (k : Int) < (n : Int) := by omega
      have j3 : ¬ (n : Int) ≤ (k : Int) := by omega
      have j6 : ¬ n ≤ k := by omega
      have HK := Lib.hid hlt
      clear he hlt hk
      go_wp2_with (refine op_load (p := .pointer (some ⟨bl, ol + k * 33, none⟩)) (C := .agg (enC e)) 34 (.tmp 14) rfl rfl rfl lo ?_)
      refine IC.out.mono ?_
      rintro r w2 ⟨u, rfl, ho, hb⟩
      obtain ⟨A3, c3, rfl⟩ := ho.slice
      have HO2 : Hid (OwnR w2 w.heap.size (.slice A3 (insE e (setL (l.take k))).length c3) (setL (l.take (k + 1)))) := Lib.hid (by rw [HM.out]; exact own_base ho HW.out.size)
      have HW2 := Lib.hid (HW.out.trans (hb.mono HW.out.size))
      clear IC ho hb HO HW lo
      go_wp2_with fail
      go_roundw
      case rel => exact ⟨k + 1, _, _, _, HK.out, rfl, by simp, HO2, HW2⟩
      case measure => have := HK.out; simp only [intOf]; omega
    · obtain rfl : k = n := by omega
      have u1 : decide ((k : Int) < (k : Int)) = false := decide_eq_false (by omega)
      have HO2 : Hid (OwnR wr w.heap.size (.slice A2 m c) R) := Lib.hid (by
        have h := HO.out
        rw [List.take_of_length_le (by rw [HN.out]; exact Nat.le_refl _), HR.out] at h
        exact h)
      clear hlt hk
      go_wp2_with fail
      go_ret
      exact ⟨_, rfl, HO2.out, HW.out⟩
set_option maxRecDepth 100000 in
set_option maxHeartbeats 2000000 in
theorem rmerge_any (ls : List (List En)) (hin : ∀ l ∈ ls, ∀ e ∈ l, e.In) (hl : ls.flatten.length ≤ 900000) (hn : ls.length ≤ 1000000) (v : Value) (w : World) (hv : LLS w v ls) : Calls Tryz.prog 44 #[v] w (fun r w' => ∃ u, r = .returned (.tuple #[u, .int .i64 (mergC ls)]) ∧ OwnR w' w.heap.size u (mergL ls) ∧ Below w.heap.size w w') := by
  obtain ⟨A, cp, rfl, -⟩ := hv.len
  have HV := Lib.hid hv
  have HIN := Lib.hid hin
  have HL := Lib.hid hl
  obtain ⟨n, hn1⟩ : ∃ n, ls.length = n := ⟨_, rfl⟩
  rw [hn1] at hn HV ⊢
  have HN := Lib.hid hn1
  obtain ⟨ml, hml⟩ : ∃ ml, mergL ls = ml := ⟨_, rfl⟩
  obtain ⟨mc, hmc⟩ : ∃ mc, mergC ls = mc := ⟨_, rfl⟩
  rw [hml, hmc]
  have HM := Lib.hid (And.intro hml hmc)
  clear hv hn1 hl hml hmc hin
  go_enter Tryz.func44, Tryz.ntmps44
  go_wp2_with fail
  go_loopw [5] (fun s5 wr => ∃ k : Nat, k ≤ n ∧ s5 = .int .i64 (k : Int) ∧ Hid ((ls.take k).all setB = true) ∧ Hid (Below w.heap.size w wr)) (fun s5 _ => n - (intOf s5).toNat)
  case atStart => exact ⟨0, Nat.zero_le _, rfl, Lib.hid rfl, Lib.hid (Below.refl _ _)⟩
  case round =>
    obtain ⟨k, hk, rfl, HS, HB⟩ := hrel
    by_cases hlt : k < n
    · have u1 : decide ((k : Int) < (n : Int)) = true := decide_eq_true (by omega)
      obtain ⟨l, hlk⟩ : ∃ l, ls[k]? = some l := ⟨_, List.getElem?_eq_getElem (by rw [HN.out]; exact hlt)⟩
      obtain ⟨b, o, A', c', rfl, c0, hes⟩ := (HV.out.keep HB.out).at hlk
      have hll : l.length ≤ 1000000 := by
        have h1 := preN_le ls (k + 1)
        rw [preN_more hlk] at h1
        have := HL.out
        omega
      have IS := Lib.hid (risSet_any l (HIN.out l (List.mem_of_getElem? hlk)) hll _ wr hes)
      have HA := Lib.hid (preAll_more hlk)
      have e2 : IntKind.i64.wrap ((k : Int) + 1) = (k : Int) + 1 := IntWalk.i64_in _ (by omega)
      have j0 : (0 : Int) ≤ (k : Int) := by omega
      have j1 : (k : Int) < (n : Int) := by omega
      have j2 : ¬ (n : Int) ≤ (k : Int) := by omega
      have j3 : ¬ n ≤ k := by omega
      have HK := Lib.hid hlt
      obtain ⟨q, hq⟩ : ∃ q, setB l = q := ⟨_, rfl⟩
      obtain ⟨m, hm⟩ : ∃ m, l.length = m := ⟨_, rfl⟩
      rw [hq] at IS HA
      rw [hm] at IS c0
      clear hlk hlt hes hll hq hm
      go_wp2_with fail
      refine IS.out.mono ?_
      rintro r w2 ⟨rfl, hb⟩
      have HB2 := Lib.hid (HB.out.trans (hb.mono HB.out.size))
      clear IS hb c0 HB
      rcases q with _ | _
      · have HX : Hid (ls.all setB = false) := Lib.hid (preAll_stop (k := k + 1) (by rw [HA.out, HS.out]; rfl))
        go_wp2_with fail
        go_returns
        have h1 : ml = [] := by rw [← HM.out.1]; unfold mergL; rw [HX.out]; rfl
        have h2 : mc = 314 := by rw [← HM.out.2]; unfold mergC; rw [HX.out]; rfl
        rw [h1, h2]
        exact ⟨_, rfl, own_nilE _ _, HB2.out⟩
      · have HX : Hid ((ls.take (k + 1)).all setB = true) := Lib.hid (by rw [HA.out, HS.out]; rfl)
        go_wp2_with fail
        go_roundw
        case rel => exact ⟨k + 1, HK.out, by simp, HX, HB2⟩
        case measure => have := HK.out; simp only [intOf]; omega
    · obtain rfl : k = n := by omega
      have u1 : decide ((k : Int) < (k : Int)) = false := decide_eq_false (by omega)
      have HX : Hid (ml = setL ls.flatten ∧ mc = 0) := Lib.hid (by
        have h := HS.out
        rw [List.take_of_length_le (by rw [HN.out]; exact Nat.le_refl _)] at h
        exact ⟨by rw [← HM.out.1]; unfold mergL; rw [h]; rfl, by rw [← HM.out.2]; unfold mergC; rw [h]; rfl⟩)
      have HPL := Lib.hid (fun k => Nat.le_trans (preN_le ls k) HL.out)
      have HPI : Hid (∀ k, ∀ e ∈ preE ls k, e.In) := Lib.hid (fun k e he => by
        unfold preE at he
        obtain ⟨l, hl, hel⟩ := List.mem_flatten.1 he
        exact HIN.out l (List.mem_of_mem_take hl) e hel)
      clear hlt hk HS HM
      go_wp2_with fail
      go_loopw [4, 6] (fun s4 s6 wr => ∃ (i : Nat) (A : Option Addr) (m c : Nat), i ≤ k ∧ s4 = .slice A m c ∧ s6 = .int .i64 (i : Int) ∧ Hid (OwnR wr w.heap.size (.slice A m c) (setL (preE ls i))) ∧ Hid (Below w.heap.size w wr)) (fun _ s6 _ => k - (intOf s6).toNat)
      case atStart => exact ⟨0, _, _, _, Nat.zero_le _, rfl, rfl, Lib.hid (by rw [preE_zero]; exact own_nilE _ _), HB⟩
      case round =>
        clear HB u1
        obtain ⟨i, A2, m2, c2, hi, rfl, rfl, HO, HB⟩ := hrel
        by_cases hlt : i < k
        · have u1 : decide ((i : Int) < (k : Int)) = true := decide_eq_true (by omega)
          obtain ⟨l, hlk⟩ : ∃ l, ls[i]? = some l := ⟨_, List.getElem?_eq_getElem (by rw [HN.out]; exact hlt)⟩
          obtain ⟨b, o, A', c', rfl, -, -⟩ := HV.out.at hlk
          have HF := Lib.hid (preE_more hlk)
          have HLP : Hid ((preE ls i).length + l.length ≤ 900000) := Lib.hid (by
            have h1 := HPL.out (i + 1)
            rw [preN_more hlk] at h1
            rw [preN_len]; exact h1)
          have HC : Hid (∀ W, Below w.heap.size w W → ∃ A' c', W.cell? ⟨b, o + i, none⟩ = some (.slice A' l.length c') ∧ ES W (.slice A' l.length c') l) := Lib.hid (fun W hW => by
            obtain ⟨b', o', A', c', e1, h1, h2⟩ := (HV.out.keep hW).at hlk
            injection e1 with e1
            injection e1 with e2 e3
            subst e2; subst e3
            exact ⟨A', c', h1, h2⟩)
          have HLI := Lib.hid (fun e he => HIN.out l (List.mem_of_getElem? hlk) e he)
          have e2 : IntKind.i64.wrap ((i : Int) + 1) = (i : Int) + 1 := IntWalk.i64_in _ (by omega)
          have j0 : (0 : Int) ≤ (i : Int) := by omega
          have j1 : (i : Int) < (k : Int) := by omega
          have j2 : ¬ (k : Int) ≤ (i : Int) := by omega
          have j3 : ¬ k ≤ i := by omega
          have HK := Lib.hid hlt
          obtain ⟨X, hX⟩ : ∃ X, preE ls i = X := ⟨_, rfl⟩
          have HXI := HPI.out i
          rw [hX] at HF HLP HO HXI
          have HXI2 := Lib.hid HXI
          clear hlk hlt hi hX HXI
          go_wp2_with fail
          go_loopw [4, 7] (fun s4 s7 wr => ∃ (j : Nat) (A : Option Addr) (m c : Nat), j ≤ l.length ∧ s4 = .slice A m c ∧ s7 = .int .i64 (j : Int) ∧ Hid (OwnR wr w.heap.size (.slice A m c) (setL (X ++ l.take j))) ∧ Hid (Below w.heap.size w wr)) (fun _ s7 _ => l.length - (intOf s7).toNat)
          case atStart => exact ⟨0, _, _, _, Nat.zero_le _, rfl, rfl, Lib.hid (by rw [List.take_zero, List.append_nil]; exact HO.out), HB⟩
          case round =>
            clear HO HB
            obtain ⟨j, A3, m3, c3, hj, rfl, rfl, HO, HB⟩ := hrel
            obtain ⟨A4, c4, x1, hes⟩ := HC.out wr HB.out
            have HES := Lib.hid hes
            have HLL : Hid (l.length ≤ 900000) := Lib.hid (by have := HLP.out; omega)
            obtain ⟨ll, hll⟩ : ∃ ll, l.length = ll := ⟨_, rfl⟩
            rw [hll] at hj x1 HES HLL ⊢
            have HLN := Lib.hid hll
            clear hes hll
            by_cases hlt : j < ll
            · have u2 : decide ((j : Int) < (ll : Int)) = true := decide_eq_true (by omega)
              obtain ⟨e, he⟩ : ∃ e, l[j]? = some e := ⟨_, List.getElem?_eq_getElem (by rw [HLN.out]; exact hlt)⟩
              obtain ⟨bl, ol, rfl⟩ := HES.out.ptr (by rw [HLN.out]; omega)
              have lo := HES.out.load he (Below.refl _ wr)
              have HTM : Hid (X ++ l.take (j + 1) = (X ++ l.take j) ++ [e]) := Lib.hid (by rw [take_more he, List.append_assoc])
              have IC := Lib.hid (rinsert_any (setL (X ++ l.take j)) e (setL_in (fun x hx => by
                rcases List.mem_append.1 hx with hx | hx
                · exact HXI2.out x hx
                · exact HLI.out x (List.mem_of_mem_take hx))) (HLI.out e (List.mem_of_getElem? he)) (by have h1 := setL_len (X ++ l.take j); rw [List.length_append, List.length_take] at h1; have := HLP.out; omega) _ wr HO.out.es)
              have hll := HLL.out
              have e3 : IntKind.i64.wrap ((j : Int) + 1) = (j : Int) + 1 := IntWalk.i64_in _ (by omega)
              have k0 : (0 : Int) ≤ (j : Int) := by omega
              have k1 : (j : Int) < (ll : Int) := by omega
              have k2 : ¬ (ll : Int) ≤ (j : Int) := by omega
              have k3 : ¬ ll ≤ j := by omega
              have HJ := Lib.hid hlt
              clear he hlt hj hll
              go_wp2_with (refine op_load (p := .pointer (some ⟨bl, ol + j * 33, none⟩)) (C := .agg (enC e)) 34 (.tmp 41) rfl rfl rfl lo ?_)
              refine IC.out.mono ?_
              rintro r w2 ⟨u, rfl, ho, hb⟩
              obtain ⟨A5, c5, rfl⟩ := ho.slice
              have HO2 : Hid (OwnR w2 w.heap.size (.slice A5 (insE e (setL (X ++ l.take j))).length c5) (setL (X ++ l.take (j + 1)))) := Lib.hid (by rw [HTM.out, setL_snoc]; exact own_base ho HB.out.size)
              have HW2 := Lib.hid (HB.out.trans (hb.mono HB.out.size))
              clear IC ho hb HO HB lo x1
              go_wp2_with fail
              go_roundw
              case rel => exact ⟨j + 1, _, _, _, HJ.out, rfl, by simp, HO2, HW2⟩
              case measure => have := HJ.out; simp only [intOf]; omega
            · obtain rfl : j = ll := by omega
              have u2 : decide ((j : Int) < (j : Int)) = false := decide_eq_false (by omega)
              have HO2 : Hid (OwnR wr w.heap.size (.slice A3 m3 c3) (setL (preE ls (i + 1)))) := Lib.hid (by
                have h := HO.out
                rw [List.take_of_length_le (by rw [HLN.out]; exact Nat.le_refl _)] at h
                rw [HF.out]
                exact h)
              clear hlt hj
              go_wp2_with fail
              go_roundw
              case rel => exact ⟨i + 1, _, _, _, HK.out, rfl, by simp, HO2, HB⟩
              case measure => have := HK.out; simp only [intOf]; omega
        · obtain rfl : i = k := by omega
          have u1 : decide ((i : Int) < (i : Int)) = false := decide_eq_false (by omega)
          have HO2 : Hid (OwnR wr w.heap.size (.slice A2 m2 c2) (setL ls.flatten)) := Lib.hid (by
            have h := HO.out
            rw [← HN.out, preE_all] at h
            exact h)
          clear hlt hi
          go_wp2_with fail
          go_returns
          rw [HX.out.1, HX.out.2]
          exact ⟨_, rfl, HO2.out, HB.out⟩
end Go.Proofs.YtpkmibmombpjpaaGreatDoor
set_option linter.unusedSimpArgs false
namespace Go.Proofs.YtpkmibmombpjpaaGreatDoor
open Go Go.RowKit

theorem app_len {l m : List En} {n : Nat} (h : l.length = n) : (l ++ m).length = n + m.length := by rw [List.length_append, h]
theorem last_fin {l : List En} {k n : Nat} (hn : l.length = n) (h : n ≤ k) : lastK (l.drop k) = [] := by
  rw [List.drop_eq_nil_of_le (by omega)]; rfl
theorem last_le (l : List En) : (lastK l).length ≤ l.length := by
  induction l with
  | nil => exact Nat.le_refl _
  | cons a r ih =>
    show (if r.any (sameK a) = true then lastK r else a :: lastK r).length ≤ _
    split
    · simp only [List.length_cons]; omega
    · simp only [List.length_cons]; omega
set_option maxRecDepth 100000 in
set_option maxHeartbeats 4000000 in
theorem rcounting_any (l : List En) (hin : ∀ e ∈ l, e.In) (hl : l.length ≤ 900000) (v : Value) (w : World) (hv : ES w v l) : Calls Tryz.prog 45 #[v] w (fun r w' => ∃ u, r = .returned (.tuple #[u, .int .i64 (if setB l then 0 else 314)]) ∧ OwnR w' w.heap.size u (cntL l) ∧ Below w.heap.size w w') := by
  obtain ⟨i0, z0, hi0, hz0, hz1, hz2, hz3⟩ := info_parts_ent
  obtain ⟨A, cp, rfl, -⟩ := hv.len
  have HV := Lib.hid hv
  have IS := Lib.hid (risSet_any l hin (by omega) _ w hv)
  have HLL := Lib.hid (last_le l)
  obtain ⟨q, hq⟩ : ∃ q, setB l = q := ⟨_, rfl⟩
  have HQ := Lib.hid hq
  rw [hq] at IS ⊢
  obtain ⟨R, hR⟩ : ∃ R, lastK l = R := ⟨_, rfl⟩
  have HR : Hid (lastK (l.drop 0) = R) := Lib.hid hR
  rw [hR] at HLL
  have HC : Hid (cntL l = if q = true then R else []) := Lib.hid (by
    cases q with
    | true => rw [← hR]; exact (lastK_cnt l hq).symm
    | false => unfold cntL; rw [hq]; rfl)
  obtain ⟨n, hn⟩ : ∃ n, l.length = n := ⟨_, rfl⟩
  rw [hn] at hl HV HLL IS ⊢
  have HN := Lib.hid hn
  clear hv hn hin hq hR
  go_enter Tryz.func45, Tryz.ntmps45
  go_wp2_with fail
  refine IS.out.mono ?_
  rintro r w1 ⟨rfl, hb⟩
  have HB := Lib.hid hb
  clear IS hb
  rcases q with _ | _
  · go_wp2_with fail
    go_returns
    have h9 : cntL l = [] := by simpa using HC.out
    rw [h9]
    exact ⟨_, rfl, own_nilE _ _, HB.out⟩
  · go_wp2_with fail
    go_loopw [4, 5] (fun s4 s5 wr => ∃ (k : Nat) (A : Option Addr) (m c : Nat) (out : List En), k ≤ n ∧ s4 = .slice A m c ∧ s5 = .int .i64 (k : Int) ∧ Hid (out ++ lastK (l.drop k) = R) ∧ Hid (OwnR wr w.heap.size (.slice A m c) out) ∧ Hid (Below w.heap.size w wr)) (fun _ s5 _ => n - (intOf s5).toNat)
    case atStart => exact ⟨0, _, _, _, [], Nat.zero_le _, rfl, rfl, Lib.hid HR.out, Lib.hid (own_nilE _ _), HB⟩
    case round =>
      clear HB HR
      obtain ⟨k, A2, m, c, out, hk, rfl, rfl, HR, HO, HB⟩ := hrel
      by_cases hlt : k < n
      · have u1 : decide ((k : Int) < (n : Int)) = true := decide_eq_true (by omega)
        obtain ⟨a, ha⟩ : ∃ a, l[k]? = some a := ⟨_, List.getElem?_eq_getElem (by rw [HN.out]; omega)⟩
        obtain ⟨bl, ol, rfl⟩ := HV.out.ptr (by rw [HN.out]; omega)
        have HA := Lib.hid ha
        have HST := Lib.hid (last_step ha)
        have e1 : IntKind.i64.wrap ((k : Int) + 1) = (k : Int) + 1 := IntWalk.i64_in _ (by omega)
        have j0 : (0 : Int) ≤ (k : Int) := by omega
        have j1 : (k : Int) < (n : Int) := by omega
        have j3 : ¬ (n : Int) ≤ (k : Int) := by omega
        have j6 : ¬ n ≤ k := by omega
        have HK := Lib.hid hlt
        clear ha hk hlt
        go_wp2_with fail
        go_loopw [6, 7] (fun s6 s7 wr => ∃ j : Nat, k ≤ j ∧ j + 1 ≤ n ∧ s6 = .bool (!((l.take (j + 1)).drop (k + 1)).any (sameK a)) ∧ s7 = .int .i64 ((j : Int) + 1) ∧ Hid (OwnR wr w.heap.size (.slice A2 m c) out) ∧ Hid (Below w.heap.size w wr)) (fun _ s7 _ => n + 1 - (intOf s7).toNat)
        case atStart => exact ⟨k, Nat.le_refl _, HK.out, by rw [List.drop_eq_nil_of_le (by rw [List.length_take]; omega)]; rfl, rfl, HO, HB⟩
        case round =>
          clear HO HB u1
          obtain ⟨j, hkj, hj, rfl, rfl, HO, HB⟩ := hrel
          obtain ⟨q, hq⟩ : ∃ q, ((l.take (j + 1)).drop (k + 1)).any (sameK a) = q := ⟨_, rfl⟩
          rw [hq]
          have HQ2 := Lib.hid hq
          clear hq
          have e2 : IntKind.i64.wrap ((j : Int) + 1 + 1) = (j : Int) + 1 + 1 := IntWalk.i64_in _ (by omega)
          by_cases hlt : j + 1 < n
          · have u2 : decide ((j : Int) + 1 < (n : Int)) = true := decide_eq_true (by omega)
            obtain ⟨b, hb⟩ : ∃ b, l[j + 1]? = some b := ⟨_, List.getElem?_eq_getElem (by rw [HN.out]; omega)⟩
            have HBE := Lib.hid hb
            have HAS := Lib.hid (any_step (k := k + 1) (a := a) hb (by omega))
            have t2 : ((j : Int) + 1).toNat = j + 1 := by omega
            have k0 : (0 : Int) ≤ (j : Int) + 1 := by omega
            have k1 : (j : Int) + 1 < (n : Int) := by omega
            have k2 : ¬ (n : Int) ≤ (j : Int) + 1 := by omega
            have k3 : ¬ n ≤ j + 1 := by omega
            have k4 : ¬ (j : Int) + 1 < 0 := by omega
            have HJ := Lib.hid (And.intro hkj hlt)
            clear hb hlt hkj hj
            rcases q with _ | _
            · go_upto_region 11 with fail
              have SC := Lib.hid (fun W => rsame_any a b W)
              obtain ⟨s, hs⟩ : ∃ s, sameK a b = s := ⟨_, rfl⟩
              rw [hs] at SC HAS
              clear hs
              have HW2 := Lib.hid HB.out.drew
              have HO2 := Lib.hid (HO.out.keep (Below.refl _ wr).drew)
              refine rest_begin (by kernel_rfl) ?_
              obtain ⟨W4, hW4⟩ : ∃ W4, wr.drew = W4 := ⟨_, rfl⟩
              rw [hW4] at HW2 HO2 ⊢
              clear hW4 HB HO
              clear wr
              have lo1 := fun W (h : Below w.heap.size w W) => HV.out.load HA.out h
              have lo2 := fun W (h : Below w.heap.size w W) => HV.out.load HBE.out h
              have hwle : w.heap.size ≤ W4.heap.size := HW2.out.size
              refine rest_flow3 [some 25, some 26, some 27, some 28, some 29, some 30, some 31, some 32, some 33, some 34, some 35, some 36, some 37] [Sp.is (.bool true), Sp.is (.bool true), Sp.is (.slice (some ⟨bl, ol, none⟩) n cp), Sp.is (.int .i64 (k : Int)), Sp.is (.pointer (some ⟨bl, ol + k * 33, none⟩)), Sp.is (.agg (enC a)), Sp.is (.slice (some ⟨bl, ol, none⟩) n cp), Sp.is (.int .i64 ((j : Int) + 1)), Sp.is (.pointer (some ⟨bl, ol + (j + 1) * 33, none⟩)), Sp.is (.agg (enC b)), Sp.is (.bool s), Sp.is (.bool (!s)), Sp.is (.bool (!s))] [false, false, false, false, false, false, false, false, false, false, false, false, false] 13 (by kernel_rfl) (by kernel_rfl) (fun u F hF => ?_) (fun u w' hbF hsF hold hap => ?_)
              case refine_1 =>
                have E6 : F.eval (.tmp 6) = (.bool true) := (congrArg (fun a => Act.eval a (.tmp 6)) hF).trans (eval_out _ 0 _ (by decide))
                have D25 : F.eval (.tmp 25) = u 0 := (congrArg (fun a => Act.eval a (.tmp 25)) hF).trans (eval_in _ 0 0 _ (by decide) (by omega) rfl (of_decide_eq_true (by kernel_rfl)))
                have E0 : F.eval (.tmp 0) = (.slice (some ⟨bl, ol, none⟩) n cp) := (congrArg (fun a => Act.eval a (.tmp 0)) hF).trans (eval_out _ 0 _ (by decide))
                have D26 : F.eval (.tmp 26) = u 1 := (congrArg (fun a => Act.eval a (.tmp 26)) hF).trans (eval_in _ 0 1 _ (by decide) (by omega) rfl (of_decide_eq_true (by kernel_rfl)))
                have E5 : F.eval (.tmp 5) = (.int .i64 (k : Int)) := (congrArg (fun a => Act.eval a (.tmp 5)) hF).trans (eval_out _ 0 _ (by decide))
                have D27 : F.eval (.tmp 27) = u 2 := (congrArg (fun a => Act.eval a (.tmp 27)) hF).trans (eval_in _ 0 2 _ (by decide) (by omega) rfl (of_decide_eq_true (by kernel_rfl)))
                have D28 : F.eval (.tmp 28) = u 3 := (congrArg (fun a => Act.eval a (.tmp 28)) hF).trans (eval_in _ 0 3 _ (by decide) (by omega) rfl (of_decide_eq_true (by kernel_rfl)))
                have D29 : F.eval (.tmp 29) = u 4 := (congrArg (fun a => Act.eval a (.tmp 29)) hF).trans (eval_in _ 0 4 _ (by decide) (by omega) rfl (of_decide_eq_true (by kernel_rfl)))
                have E7 : F.eval (.tmp 7) = (.int .i64 ((j : Int) + 1)) := (congrArg (fun a => Act.eval a (.tmp 7)) hF).trans (eval_out _ 0 _ (by decide))
                have D31 : F.eval (.tmp 31) = u 6 := (congrArg (fun a => Act.eval a (.tmp 31)) hF).trans (eval_in _ 0 6 _ (by decide) (by omega) rfl (of_decide_eq_true (by kernel_rfl)))
                have D32 : F.eval (.tmp 32) = u 7 := (congrArg (fun a => Act.eval a (.tmp 32)) hF).trans (eval_in _ 0 7 _ (by decide) (by omega) rfl (of_decide_eq_true (by kernel_rfl)))
                have D33 : F.eval (.tmp 33) = u 8 := (congrArg (fun a => Act.eval a (.tmp 33)) hF).trans (eval_in _ 0 8 _ (by decide) (by omega) rfl (of_decide_eq_true (by kernel_rfl)))
                have D30 : F.eval (.tmp 30) = u 5 := (congrArg (fun a => Act.eval a (.tmp 30)) hF).trans (eval_in _ 0 5 _ (by decide) (by omega) rfl (of_decide_eq_true (by kernel_rfl)))
                have D34 : F.eval (.tmp 34) = u 9 := (congrArg (fun a => Act.eval a (.tmp 34)) hF).trans (eval_in _ 0 9 _ (by decide) (by omega) rfl (of_decide_eq_true (by kernel_rfl)))
                have D35 : F.eval (.tmp 35) = u 10 := (congrArg (fun a => Act.eval a (.tmp 35)) hF).trans (eval_in _ 0 10 _ (by decide) (by omega) rfl (of_decide_eq_true (by kernel_rfl)))
                have D36 : F.eval (.tmp 36) = u 11 := (congrArg (fun a => Act.eval a (.tmp 36)) hF).trans (eval_in _ 0 11 _ (by decide) (by omega) rfl (of_decide_eq_true (by kernel_rfl)))
                clear hF
                refine ⟨?_, ?_, ?_, ?_, ?_, ?_, ?_, ?_, ?_, ?_, ?_, ?_, ?_, trivial⟩
                · intro w1 hb hd K hK
                  have e6 := E6
                  exact op_val (v := (.bool true)) rfl (by simp only [execOp, List.map_toArray, List.map_cons, List.map_nil, e6]; go_simp) (hK _ _ (show _ = _ from rfl) (Below.refl _ _) (Fresh.no _ _ _))
                · intro w1 hb hd K hK
                  have e25 := D25.trans (show u 0 = _ from hd ⟨0, .data⟩ (by simp) rfl (by omega))
                  exact op_val (v := (.bool true)) rfl (by simp only [execOp, List.map_toArray, List.map_cons, List.map_nil, e25]; go_simp) (hK _ _ (show _ = _ from rfl) (Below.refl _ _) (Fresh.no _ _ _))
                · intro w1 hb hd K hK
                  have e0 := E0
                  have g := D26.trans (show u 1 = .bool true from hd ⟨1, .guard⟩ (by simp) rfl (by omega))
                  exact op_val_w (v := (.slice (some ⟨bl, ol, none⟩) n cp)) (wanted_of (j := 1) (s := 26) (b := true) (by kernel_rfl) (by kernel_rfl) g) (by simp only [execOp, List.map_toArray, List.map_cons, List.map_nil, e0]; go_simp) (hK _ _ (show _ = _ from rfl) (Below.refl _ _) (Fresh.no _ _ _))
                · intro w1 hb hd K hK
                  have e5 := E5
                  have g := D26.trans (show u 1 = .bool true from hd ⟨1, .guard⟩ (by simp) rfl (by omega))
                  exact op_val_w (v := (.int .i64 (k : Int))) (wanted_of (j := 1) (s := 26) (b := true) (by kernel_rfl) (by kernel_rfl) g) (by simp only [execOp, List.map_toArray, List.map_cons, List.map_nil, e5]; go_simp) (hK _ _ (show _ = _ from rfl) (Below.refl _ _) (Fresh.no _ _ _))
                · intro w1 hb hd K hK
                  have e27 := D27.trans (show u 2 = _ from hd ⟨2, .data⟩ (by simp) rfl (by omega))
                  have e28 := D28.trans (show u 3 = _ from hd ⟨3, .data⟩ (by simp) rfl (by omega))
                  have g := D26.trans (show u 1 = .bool true from hd ⟨1, .guard⟩ (by simp) rfl (by omega))
                  exact op_val_w (v := (.pointer (some ⟨bl, ol + k * 33, none⟩))) (wanted_of (j := 1) (s := 26) (b := true) (by kernel_rfl) (by kernel_rfl) g) (by simp only [execOp, List.map_toArray, List.map_cons, List.map_nil, e27, e28]; go_simp) (hK _ _ (show _ = _ from rfl) (Below.refl _ _) (Fresh.no _ _ _))
                · intro w1 hb hd K hK
                  have e29 := D29.trans (show u 4 = _ from hd ⟨4, .data⟩ (by simp) rfl (by omega))
                  have g := D26.trans (show u 1 = .bool true from hd ⟨1, .guard⟩ (by simp) rfl (by omega))
                  exact op_val_w (v := (.agg (enC a))) (wanted_of (j := 1) (s := 26) (b := true) (by kernel_rfl) (by kernel_rfl) g) (exec_load rfl e29 (lo1 w1 (HW2.out.trans (hb.mono hwle)))) (hK _ _ (show _ = _ from rfl) (Below.refl _ _) (Fresh.no _ _ _))
                · intro w1 hb hd K hK
                  have e0 := E0
                  have g := D26.trans (show u 1 = .bool true from hd ⟨1, .guard⟩ (by simp) rfl (by omega))
                  exact op_val_w (v := (.slice (some ⟨bl, ol, none⟩) n cp)) (wanted_of (j := 1) (s := 26) (b := true) (by kernel_rfl) (by kernel_rfl) g) (by simp only [execOp, List.map_toArray, List.map_cons, List.map_nil, e0]; go_simp) (hK _ _ (show _ = _ from rfl) (Below.refl _ _) (Fresh.no _ _ _))
                · intro w1 hb hd K hK
                  have e7 := E7
                  have g := D26.trans (show u 1 = .bool true from hd ⟨1, .guard⟩ (by simp) rfl (by omega))
                  exact op_val_w (v := (.int .i64 ((j : Int) + 1))) (wanted_of (j := 1) (s := 26) (b := true) (by kernel_rfl) (by kernel_rfl) g) (by simp only [execOp, List.map_toArray, List.map_cons, List.map_nil, e7]; go_simp) (hK _ _ (show _ = _ from rfl) (Below.refl _ _) (Fresh.no _ _ _))
                · intro w1 hb hd K hK
                  have e31 := D31.trans (show u 6 = _ from hd ⟨6, .data⟩ (by simp) rfl (by omega))
                  have e32 := D32.trans (show u 7 = _ from hd ⟨7, .data⟩ (by simp) rfl (by omega))
                  have g := D26.trans (show u 1 = .bool true from hd ⟨1, .guard⟩ (by simp) rfl (by omega))
                  exact op_val_w (v := (.pointer (some ⟨bl, ol + (j + 1) * 33, none⟩))) (wanted_of (j := 1) (s := 26) (b := true) (by kernel_rfl) (by kernel_rfl) g) (by simp only [execOp, List.map_toArray, List.map_cons, List.map_nil, e31, e32]; go_simp) (hK _ _ (show _ = _ from rfl) (Below.refl _ _) (Fresh.no _ _ _))
                · intro w1 hb hd K hK
                  have e33 := D33.trans (show u 8 = _ from hd ⟨8, .data⟩ (by simp) rfl (by omega))
                  have g := D26.trans (show u 1 = .bool true from hd ⟨1, .guard⟩ (by simp) rfl (by omega))
                  exact op_val_w (v := (.agg (enC b))) (wanted_of (j := 1) (s := 26) (b := true) (by kernel_rfl) (by kernel_rfl) g) (exec_load rfl e33 (lo2 w1 (HW2.out.trans (hb.mono hwle)))) (hK _ _ (show _ = _ from rfl) (Below.refl _ _) (Fresh.no _ _ _))
                · intro w1 hb hd K hK
                  have e30 := D30.trans (show u 5 = _ from hd ⟨5, .data⟩ (by simp) rfl (by omega))
                  have e34 := D34.trans (show u 9 = _ from hd ⟨9, .data⟩ (by simp) rfl (by omega))
                  have g := D26.trans (show u 1 = .bool true from hd ⟨1, .guard⟩ (by simp) rfl (by omega))
                  refine op_call_w (R := fun v w2 => v = (.bool s) ∧ Below w1.heap.size w1 w2) (f := 83) (args := #[.agg (enC a), .agg (enC b)]) (wanted_of (j := 1) (s := 26) (b := true) (by kernel_rfl) (by kernel_rfl) g) (by simp only [execOp]; go_simp; first | exact ⟨eval_get e30, eval_get e34⟩ | (simp only [Act.eval] at *; simp_all)) ((SC.out w1).mono fun e w2 hh => ⟨_, hh.1, rfl, hh.2⟩) (fun v w2 hh => hK _ _ hh.1 hh.2 (Fresh.no _ _ _))
                · intro w1 hb hd K hK
                  have e35 := D35.trans (show u 10 = _ from hd ⟨10, .data⟩ (by simp) rfl (by omega))
                  have g := D26.trans (show u 1 = .bool true from hd ⟨1, .guard⟩ (by simp) rfl (by omega))
                  exact op_val_w (v := (.bool (!s))) (wanted_of (j := 1) (s := 26) (b := true) (by kernel_rfl) (by kernel_rfl) g) (by simp only [execOp, List.map_toArray, List.map_cons, List.map_nil, e35]; go_simp) (hK _ _ (show _ = _ from rfl) (Below.refl _ _) (Fresh.no _ _ _))
                · intro w1 hb hd K hK
                  have e26 := D26.trans (show u 1 = _ from hd ⟨1, .data⟩ (by simp) rfl (by omega))
                  have e36 := D36.trans (show u 11 = _ from hd ⟨11, .data⟩ (by simp) rfl (by omega))
                  exact op_val (v := (.bool (!s))) rfl (by simp only [execOp, List.map_toArray, List.map_cons, List.map_nil, e26, e36]; go_simp) (hK _ _ (show _ = _ from rfl) (Below.refl _ _) (Fresh.no _ _ _))
              have hv25 : u 0 = (.bool true) := (show u 0 = _ from hsF 0 (by omega) (by omega))
              have hv26 : u 1 = (.bool true) := (show u 1 = _ from hsF 1 (by omega) (by omega))
              have hv27 : u 2 = (.slice (some ⟨bl, ol, none⟩) n cp) := (show u 2 = _ from hsF 2 (by omega) (by omega))
              have hv28 : u 3 = (.int .i64 (k : Int)) := (show u 3 = _ from hsF 3 (by omega) (by omega))
              have hv29 : u 4 = (.pointer (some ⟨bl, ol + k * 33, none⟩)) := (show u 4 = _ from hsF 4 (by omega) (by omega))
              have hv30 : u 5 = (.agg (enC a)) := (show u 5 = _ from hsF 5 (by omega) (by omega))
              have hv31 : u 6 = (.slice (some ⟨bl, ol, none⟩) n cp) := (show u 6 = _ from hsF 6 (by omega) (by omega))
              have hv32 : u 7 = (.int .i64 ((j : Int) + 1)) := (show u 7 = _ from hsF 7 (by omega) (by omega))
              have hv33 : u 8 = (.pointer (some ⟨bl, ol + (j + 1) * 33, none⟩)) := (show u 8 = _ from hsF 8 (by omega) (by omega))
              have hv34 : u 9 = (.agg (enC b)) := (show u 9 = _ from hsF 9 (by omega) (by omega))
              have hv35 : u 10 = (.bool s) := (show u 10 = _ from hsF 10 (by omega) (by omega))
              have hv36 : u 11 = (.bool (!s)) := (show u 11 = _ from hsF 11 (by omega) (by omega))
              have hv37 : u 12 = (.bool (!s)) := (show u 12 = _ from hsF 12 (by omega) (by omega))
              simp only [putRow, hv25, hv26, hv27, hv28, hv29, hv30, hv31, hv32, hv33, hv34, hv35, hv36, hv37, Act.put, List.setIfInBounds_toArray, List.set_cons_succ, List.set_cons_zero]
              clear hsF hold hap hv25 hv26 hv27 hv28 hv29 hv30 hv31 hv32 hv33 hv34 hv35 hv36 hv37
              have HW3 := Lib.hid (HW2.out.trans (hbF.mono hwle))
              have HO3 := Lib.hid (HO2.out.keep hbF)
              have HX : Hid (((l.take (j + 1 + 1)).drop (k + 1)).any (sameK a) = s) := Lib.hid (by rw [HAS.out, HQ2.out]; rfl)
              clear HW2 HO2 hwle SC hbF lo1 lo2
              refine rest_forced 1 (by kernel_rfl) ?_
              simp only [List.drop_succ_cons, List.drop_zero, List.take_succ_cons, List.take_zero]
              go_wp2_with fail
              refine rest_done rfl ?_
              clear W4
              go_wp2_with fail
              go_roundw
              case rel => exact ⟨j + 1, by have := HJ.out.1; omega, HJ.out.2, by rw [HX.out], by simp, HO3, HW3⟩
              case measure => have := HJ.out.2; simp only [intOf]; omega
            · have HX : Hid (((l.take (j + 1 + 1)).drop (k + 1)).any (sameK a) = true) := Lib.hid (by rw [HAS.out, HQ2.out]; rfl)
              go_upto_region 11 with fail
              have HW2 := Lib.hid HB.out.drew
              have HO2 := Lib.hid (HO.out.keep (Below.refl _ wr).drew)
              refine rest_begin (by kernel_rfl) ?_
              obtain ⟨W4, hW4⟩ : ∃ W4, wr.drew = W4 := ⟨_, rfl⟩
              rw [hW4] at HW2 HO2 ⊢
              clear hW4 HB HO
              clear wr
              have hwle : w.heap.size ≤ W4.heap.size := HW2.out.size
              refine rest_flow3 [some 25, some 26, some 27, some 28, some 29, some 30, some 31, some 32, some 33, some 34, some 35, some 36, some 37] [Sp.is (.bool false), Sp.is (.bool false), Sp.is undef, Sp.is undef, Sp.is undef, Sp.is undef, Sp.is undef, Sp.is undef, Sp.is undef, Sp.is undef, Sp.is undef, Sp.is undef, Sp.is (.bool false)] [false, false, false, false, false, false, false, false, false, false, false, false, false] 13 (by kernel_rfl) (by kernel_rfl) (fun u F hF => ?_) (fun u w' hbF hsF hold hap => ?_)
              case refine_1 =>
                have E6 : F.eval (.tmp 6) = (.bool false) := (congrArg (fun a => Act.eval a (.tmp 6)) hF).trans (eval_out _ 0 _ (by decide))
                have D25 : F.eval (.tmp 25) = u 0 := (congrArg (fun a => Act.eval a (.tmp 25)) hF).trans (eval_in _ 0 0 _ (by decide) (by omega) rfl (of_decide_eq_true (by kernel_rfl)))
                have D26 : F.eval (.tmp 26) = u 1 := (congrArg (fun a => Act.eval a (.tmp 26)) hF).trans (eval_in _ 0 1 _ (by decide) (by omega) rfl (of_decide_eq_true (by kernel_rfl)))
                clear hF
                refine ⟨?_, ?_, ?_, ?_, ?_, ?_, ?_, ?_, ?_, ?_, ?_, ?_, ?_, trivial⟩
                · intro w1 hb hd K hK
                  have e6 := E6
                  exact op_val (v := (.bool false)) rfl (by simp only [execOp, List.map_toArray, List.map_cons, List.map_nil, e6]; go_simp) (hK _ _ (show _ = _ from rfl) (Below.refl _ _) (Fresh.no _ _ _))
                · intro w1 hb hd K hK
                  have e25 := D25.trans (show u 0 = _ from hd ⟨0, .data⟩ (by simp) rfl (by omega))
                  exact op_val (v := (.bool false)) rfl (by simp only [execOp, List.map_toArray, List.map_cons, List.map_nil, e25]; go_simp) (hK _ _ (show _ = _ from rfl) (Below.refl _ _) (Fresh.no _ _ _))
                · intro w1 hb hd K hK
                  have g := D26.trans (show u 1 = .bool false from hd ⟨1, .guard⟩ (by simp) rfl (by omega))
                  exact op_pass (unwanted_of (j := 1) (s := 26) (b := true) (by kernel_rfl) (by kernel_rfl) g) (hK _ _ (show _ = _ from rfl) (Below.refl _ _) (Fresh.no _ _ _))
                · intro w1 hb hd K hK
                  have g := D26.trans (show u 1 = .bool false from hd ⟨1, .guard⟩ (by simp) rfl (by omega))
                  exact op_pass (unwanted_of (j := 1) (s := 26) (b := true) (by kernel_rfl) (by kernel_rfl) g) (hK _ _ (show _ = _ from rfl) (Below.refl _ _) (Fresh.no _ _ _))
                · intro w1 hb hd K hK
                  have g := D26.trans (show u 1 = .bool false from hd ⟨1, .guard⟩ (by simp) rfl (by omega))
                  exact op_pass (unwanted_of (j := 1) (s := 26) (b := true) (by kernel_rfl) (by kernel_rfl) g) (hK _ _ (show _ = _ from rfl) (Below.refl _ _) (Fresh.no _ _ _))
                · intro w1 hb hd K hK
                  have g := D26.trans (show u 1 = .bool false from hd ⟨1, .guard⟩ (by simp) rfl (by omega))
                  exact op_pass (unwanted_of (j := 1) (s := 26) (b := true) (by kernel_rfl) (by kernel_rfl) g) (hK _ _ (show _ = _ from rfl) (Below.refl _ _) (Fresh.no _ _ _))
                · intro w1 hb hd K hK
                  have g := D26.trans (show u 1 = .bool false from hd ⟨1, .guard⟩ (by simp) rfl (by omega))
                  exact op_pass (unwanted_of (j := 1) (s := 26) (b := true) (by kernel_rfl) (by kernel_rfl) g) (hK _ _ (show _ = _ from rfl) (Below.refl _ _) (Fresh.no _ _ _))
                · intro w1 hb hd K hK
                  have g := D26.trans (show u 1 = .bool false from hd ⟨1, .guard⟩ (by simp) rfl (by omega))
                  exact op_pass (unwanted_of (j := 1) (s := 26) (b := true) (by kernel_rfl) (by kernel_rfl) g) (hK _ _ (show _ = _ from rfl) (Below.refl _ _) (Fresh.no _ _ _))
                · intro w1 hb hd K hK
                  have g := D26.trans (show u 1 = .bool false from hd ⟨1, .guard⟩ (by simp) rfl (by omega))
                  exact op_pass (unwanted_of (j := 1) (s := 26) (b := true) (by kernel_rfl) (by kernel_rfl) g) (hK _ _ (show _ = _ from rfl) (Below.refl _ _) (Fresh.no _ _ _))
                · intro w1 hb hd K hK
                  have g := D26.trans (show u 1 = .bool false from hd ⟨1, .guard⟩ (by simp) rfl (by omega))
                  exact op_pass (unwanted_of (j := 1) (s := 26) (b := true) (by kernel_rfl) (by kernel_rfl) g) (hK _ _ (show _ = _ from rfl) (Below.refl _ _) (Fresh.no _ _ _))
                · intro w1 hb hd K hK
                  have g := D26.trans (show u 1 = .bool false from hd ⟨1, .guard⟩ (by simp) rfl (by omega))
                  exact op_pass (unwanted_of (j := 1) (s := 26) (b := true) (by kernel_rfl) (by kernel_rfl) g) (hK _ _ (show _ = _ from rfl) (Below.refl _ _) (Fresh.no _ _ _))
                · intro w1 hb hd K hK
                  have g := D26.trans (show u 1 = .bool false from hd ⟨1, .guard⟩ (by simp) rfl (by omega))
                  exact op_pass (unwanted_of (j := 1) (s := 26) (b := true) (by kernel_rfl) (by kernel_rfl) g) (hK _ _ (show _ = _ from rfl) (Below.refl _ _) (Fresh.no _ _ _))
                · intro w1 hb hd K hK
                  have e26 := D26.trans (show u 1 = _ from hd ⟨1, .data⟩ (by simp) rfl (by omega))
                  exact op_val (v := (.bool false)) rfl (by simp only [execOp, List.map_toArray, List.map_cons, List.map_nil, e26]; go_simp) (hK _ _ (show _ = _ from rfl) (Below.refl _ _) (Fresh.no _ _ _))
              have hv25 : u 0 = (.bool false) := (show u 0 = _ from hsF 0 (by omega) (by omega))
              have hv26 : u 1 = (.bool false) := (show u 1 = _ from hsF 1 (by omega) (by omega))
              have hv27 : u 2 = undef := (show u 2 = _ from hsF 2 (by omega) (by omega))
              have hv28 : u 3 = undef := (show u 3 = _ from hsF 3 (by omega) (by omega))
              have hv29 : u 4 = undef := (show u 4 = _ from hsF 4 (by omega) (by omega))
              have hv30 : u 5 = undef := (show u 5 = _ from hsF 5 (by omega) (by omega))
              have hv31 : u 6 = undef := (show u 6 = _ from hsF 6 (by omega) (by omega))
              have hv32 : u 7 = undef := (show u 7 = _ from hsF 7 (by omega) (by omega))
              have hv33 : u 8 = undef := (show u 8 = _ from hsF 8 (by omega) (by omega))
              have hv34 : u 9 = undef := (show u 9 = _ from hsF 9 (by omega) (by omega))
              have hv35 : u 10 = undef := (show u 10 = _ from hsF 10 (by omega) (by omega))
              have hv36 : u 11 = undef := (show u 11 = _ from hsF 11 (by omega) (by omega))
              have hv37 : u 12 = (.bool false) := (show u 12 = _ from hsF 12 (by omega) (by omega))
              simp only [putRow, hv25, hv26, hv27, hv28, hv29, hv30, hv31, hv32, hv33, hv34, hv35, hv36, hv37, Act.put, List.setIfInBounds_toArray, List.set_cons_succ, List.set_cons_zero]
              clear hsF hold hap hv25 hv26 hv27 hv28 hv29 hv30 hv31 hv32 hv33 hv34 hv35 hv36 hv37
              have HW3 := Lib.hid (HW2.out.trans (hbF.mono hwle))
              have HO3 := Lib.hid (HO2.out.keep hbF)
              clear HW2 HO2 hwle hbF
              refine rest_forced 1 (by kernel_rfl) ?_
              simp only [List.drop_succ_cons, List.drop_zero, List.take_succ_cons, List.take_zero]
              go_wp2_with fail
              refine rest_done rfl ?_
              clear W4
              go_wp2_with fail
              go_roundw
              case rel => exact ⟨j + 1, by have := HJ.out.1; omega, HJ.out.2, by rw [HX.out]; rfl, by simp, HO3, HW3⟩
              case measure => have := HJ.out.2; simp only [intOf]; omega
          · obtain rfl : n = j + 1 := by omega
            have u2 : decide ((j : Int) + 1 < ((j + 1 : Nat) : Int)) = false := decide_eq_false (by omega)
            have HST2 : Hid (lastK (l.drop k) = if q = true then lastK (l.drop (k + 1)) else a :: lastK (l.drop (k + 1))) := Lib.hid (by
              have h := HQ2.out
              rw [List.take_of_length_le (by rw [HN.out]; exact Nat.le_refl _)] at h
              rw [HST.out, h])
            have HKJ := Lib.hid (And.intro hkj hl)
            clear hlt hkj hj
            rcases q with _ | _
            · have HR2 : Hid ((out ++ [a]) ++ lastK (l.drop (k + 1)) = R) := Lib.hid (by rw [← HR.out, HST2.out, List.append_assoc]; rfl)
              have lo2 := HV.out.load HA.out HB.out
              have HSR := Lib.hid (one_src wr a)
              have hm : out.length = m := by
                obtain ⟨A', c', e1⟩ := HO.out.slice
                injection e1 with _ e2 _
                exact e2.symm
              have HO4 : Hid ((wr.alloc (.cells (flat enC [a]).toArray 34)).ownsRow w.heap.size 34 33 (.slice A2 m c) m (flat enC out)) := Lib.hid (by
                have := HO.out.keep (below1 wr (.cells (flat enC [a]).toArray 34))
                unfold OwnR at this
                rwa [hm] at this)
              have hzz : m + 1 ≤ 1000000 := by
                have h1 := HLL.out
                rw [← HR2.out] at h1
                simp only [List.length_append, List.length_singleton] at h1
                omega
              have hsz : w.heap.size ≤ (wr.alloc (.cells (flat enC [a]).toArray 34)).heap.size := by rw [size_al]; have := HB.out.size; omega
              have HM := Lib.hid hm
              have HBA := Lib.hid (HB.out.alloc HB.out.size (.cells (flat enC [a]).toArray 34))
              clear hm
              go_wp2_with (first
                | (refine op_load (p := .pointer (some ⟨bl, ol + k * 33, none⟩)) (C := .agg (enC a)) 34 (.tmp 42) rfl rfl rfl lo2 ?_)
                | (refine op_bsl 40 34 1 _ (flat enC [a]).toArray rfl rfl (by kernel_rfl) ?_)
                | (at_builtin; refine appS rfl _ _ rfl Tryz.underlying40 hi0 hz0 hz1 hz2 hz3 (by decide) _ w.heap.size (.slice A2 m c) m (flat enC out) rfl HO4.out (.slice (some ⟨wr.heap.size, 0, none⟩) 1 1) 1 (flat enC [a]) rfl HSR.out (ent_one [a]) hzz (by decide) hsz ?_; intro u2 w5 hown5 hgrow5 hob5 hb5; obtain ⟨g5, c5', rfl, hg5, hc5⟩ := own_some hown5 (by omega)))
              have HO6 : Hid (OwnR w5 w.heap.size (.slice (some ⟨g5, 0, none⟩) (m + 1) c5') (out ++ [a])) := Lib.hid (by unfold OwnR; rw [flat_app, List.length_append, HM.out]; exact hown5)
              have HB6 : Hid (Below w.heap.size w w5) := Lib.hid (HBA.out.trans hb5)
              clear hown5 hgrow5 hob5 hb5 hg5 hc5 HO4 HBA hsz hzz
              go_wp2_with fail
              go_roundw
              case rel => exact ⟨k + 1, _, _, _, out ++ [a], HK.out, rfl, by simp, HR2, HO6, HB6⟩
              case measure => have := HK.out; simp only [intOf]; omega
            · have HR2 : Hid (out ++ lastK (l.drop (k + 1)) = R) := Lib.hid (by rw [← HR.out, HST2.out]; rfl)
              go_wp2_with fail
              go_roundw
              case rel => exact ⟨k + 1, _, _, _, out, HK.out, rfl, by simp, HR2, HO, HB⟩
              case measure => have := HK.out; simp only [intOf]; omega
      · obtain rfl : k = n := by omega
        have u1 : decide ((k : Int) < (k : Int)) = false := decide_eq_false (by omega)
        have HO2 : Hid (OwnR wr w.heap.size (.slice A2 m c) (cntL l)) := Lib.hid (by
          have h := HR.out
          rw [last_fin HN.out (Nat.le_refl _), List.append_nil] at h
          have h9 : cntL l = R := by simpa using HC.out
          rw [h9, ← h]
          exact HO.out)
        clear hlt hk
        go_wp2_with fail
        go_returns
        exact ⟨_, rfl, HO2.out, HB.out⟩
theorem vers_le (l : List En) (e : En) (k : Nat) : (versP (l.take k) e).length ≤ l.length := by
  unfold versP
  exact Nat.le_trans (List.length_filter_le _ _) (by rw [List.length_take]; omega)
set_option maxRecDepth 100000 in
set_option maxHeartbeats 4000000 in
theorem rversions_any (l : List En) (hin : ∀ e ∈ l, e.In) (hl : l.length ≤ 900000) (r t b : Int) (v : Value) (w : World) (hv : ES w v l) : Calls Tryz.prog 46 #[v, .int .i64 r, .int .i64 t, .int .i64 b] w (fun x w' => ∃ u, x = .returned (.tuple #[u, .int .i64 (if setB l then 0 else 314)]) ∧ OwnR w' w.heap.size u (versL l r t b) ∧ Below w.heap.size w w') := by
  obtain ⟨i0, z0, hi0, hz0, hz1, hz2, hz3⟩ := info_parts_ent
  obtain ⟨A, cp, rfl, -⟩ := hv.len
  have HV := Lib.hid hv
  have IS := Lib.hid (risSet_any l hin (by omega) _ w hv)
  have HVL := Lib.hid (fun k => vers_le l (keyN r t b) k)
  obtain ⟨q, hq⟩ : ∃ q, setB l = q := ⟨_, rfl⟩
  rw [hq] at IS ⊢
  obtain ⟨R, hR⟩ : ∃ R, versL l r t b = R := ⟨_, rfl⟩
  rw [hR]
  have HC : Hid (R = if q = true then versP l (keyN r t b) else []) := Lib.hid (by rw [← hR]; unfold versL; rw [hq])
  obtain ⟨n, hn⟩ : ∃ n, l.length = n := ⟨_, rfl⟩
  rw [hn] at hl HV HVL IS ⊢
  have HN := Lib.hid hn
  clear hv hn hin hq hR
  go_enter Tryz.func46, Tryz.ntmps46
  go_wp2_with fail
  refine IS.out.mono ?_
  rintro x w1 ⟨rfl, hb⟩
  have HB := Lib.hid hb
  clear IS hb
  rcases q with _ | _
  · go_wp2_with fail
    go_returns
    have h9 : R = [] := by simpa using HC.out
    rw [h9]
    exact ⟨_, rfl, own_nilE _ _, HB.out⟩
  · go_wp2_with fail
    go_loopw [10, 11] (fun s10 s11 wr => ∃ (k : Nat) (A : Option Addr) (m c : Nat), k ≤ n ∧ s10 = .slice A m c ∧ s11 = .int .i64 (k : Int) ∧ Hid (OwnR wr w.heap.size (.slice A m c) (versP (l.take k) (keyN r t b))) ∧ Hid (Below w.heap.size w wr)) (fun _ s11 _ => n - (intOf s11).toNat)
    case atStart => exact ⟨0, _, _, _, Nat.zero_le _, rfl, rfl, Lib.hid (own_nilE _ _), HB⟩
    case round =>
      clear HB
      obtain ⟨k, A2, m, c, hk, rfl, rfl, HO, HB⟩ := hrel
      by_cases hlt : k < n
      · have u1 : decide ((k : Int) < (n : Int)) = true := decide_eq_true (by omega)
        obtain ⟨a, ha⟩ : ∃ a, l[k]? = some a := ⟨_, List.getElem?_eq_getElem (by rw [HN.out]; omega)⟩
        obtain ⟨bl, ol, hA, -, hcell⟩ := HV.out.at ha
        subst hA
        have lo2 := HV.out.load ha HB.out
        have x0 : wr.cell? ⟨bl, ol + k * 33, none⟩ = some (.int .i64 a.rd) := by
          have := keepW HB.out (hcell 0 _ (enC_rd a)); exact this
        have x1 : wr.cell? ⟨bl, ol + k * 33 + 1, none⟩ = some (.int .i64 a.tb) := keepW HB.out (hcell 1 _ (enC_tb a))
        have x2 : wr.cell? ⟨bl, ol + k * 33 + 2, none⟩ = some (.int .i64 a.bd) := keepW HB.out (hcell 2 _ (enC_bd a))
        have HST := Lib.hid (vers_step r t b ha)
        have e1 : IntKind.i64.wrap ((k : Int) + 1) = (k : Int) + 1 := IntWalk.i64_in _ (by omega)
        have j0 : (0 : Int) ≤ (k : Int) := by omega
        have j1 : (k : Int) < (n : Int) := by omega
        have j3 : ¬ (n : Int) ≤ (k : Int) := by omega
        have j6 : ¬ n ≤ k := by omega
        have HK := Lib.hid hlt
        clear ha hk hlt hcell
        by_cases h0 : a.rd = r
        · have t0 : (a.rd == r) = true := by rw [beq_iff_eq]; exact h0
          by_cases h1 : a.tb = t
          · have t1 : (a.tb == t) = true := by rw [beq_iff_eq]; exact h1
            by_cases h2 : a.bd = b
            · have t2 : (a.bd == b) = true := by rw [beq_iff_eq]; exact h2
              obtain ⟨X, hX⟩ : ∃ X, versP (l.take k) (keyN r t b) = X := ⟨_, rfl⟩
              have HX : Hid (versP (l.take (k + 1)) (keyN r t b) = X ++ [a]) := Lib.hid (by rw [HST.out, hX]; simp [h0, h1, h2])
              rw [hX] at HO
              have hXl : X.length ≤ n := by rw [← hX]; exact HVL.out k
              have HSR := Lib.hid (one_src wr a)
              have hm : X.length = m := by
                obtain ⟨A', c', e1⟩ := HO.out.slice
                injection e1 with _ e2 _
                exact e2.symm
              have HO4 : Hid ((wr.alloc (.cells (flat enC [a]).toArray 34)).ownsRow w.heap.size 34 33 (.slice A2 m c) m (flat enC X)) := Lib.hid (by
                have := HO.out.keep (below1 wr (.cells (flat enC [a]).toArray 34))
                unfold OwnR at this
                rwa [hm] at this)
              have hzz : m + 1 ≤ 1000000 := by omega
              have hsz : w.heap.size ≤ (wr.alloc (.cells (flat enC [a]).toArray 34)).heap.size := by rw [size_al]; have := HB.out.size; omega
              have HM := Lib.hid hm
              have HBA := Lib.hid (HB.out.alloc HB.out.size (.cells (flat enC [a]).toArray 34))
              clear hm hX hXl h0 h1 h2
              go_wp2_with (first
                | (refine op_load (p := .pointer (some ⟨bl, ol + k * 33, none⟩)) (C := .agg (enC a)) 34 (.tmp 49) rfl rfl rfl lo2 ?_)
                | (refine op_bsl 40 34 1 _ (flat enC [a]).toArray rfl rfl (by kernel_rfl) ?_)
                | (at_builtin; refine appS rfl _ _ rfl Tryz.underlying40 hi0 hz0 hz1 hz2 hz3 (by decide) _ w.heap.size (.slice A2 m c) m (flat enC X) rfl HO4.out (.slice (some ⟨wr.heap.size, 0, none⟩) 1 1) 1 (flat enC [a]) rfl HSR.out (ent_one [a]) hzz (by decide) hsz ?_; intro u2 w5 hown5 hgrow5 hob5 hb5; obtain ⟨g5, c5', rfl, hg5, hc5⟩ := own_some hown5 (by omega)))
              have HO6 : Hid (OwnR w5 w.heap.size (.slice (some ⟨g5, 0, none⟩) (m + 1) c5') (versP (l.take (k + 1)) (keyN r t b))) := Lib.hid (by rw [HX.out]; unfold OwnR; rw [flat_app, List.length_append, HM.out]; exact hown5)
              have HB6 : Hid (Below w.heap.size w w5) := Lib.hid (HBA.out.trans hb5)
              clear hown5 hgrow5 hob5 hb5 hg5 hc5 HO4 HBA hsz hzz x0 x1 x2
              go_wp2_with fail
              go_roundw
              case rel => exact ⟨k + 1, _, _, _, HK.out, rfl, by simp, HO6, HB6⟩
              case measure => have := HK.out; simp only [intOf]; omega
            · have t2 : (a.bd == b) = false := by rw [beq_eq_false_iff_ne]; exact h2
              have HO6 : Hid (OwnR wr w.heap.size (.slice A2 m c) (versP (l.take (k + 1)) (keyN r t b))) := Lib.hid (by rw [HST.out, if_neg (by simp [h2])]; exact HO.out)
              clear h0 h1 h2 lo2
              go_wp2_with fail
              go_roundw
              case rel => exact ⟨k + 1, _, _, _, HK.out, rfl, by simp, HO6, HB⟩
              case measure => have := HK.out; simp only [intOf]; omega
          · have t1 : (a.tb == t) = false := by rw [beq_eq_false_iff_ne]; exact h1
            have HO6 : Hid (OwnR wr w.heap.size (.slice A2 m c) (versP (l.take (k + 1)) (keyN r t b))) := Lib.hid (by rw [HST.out, if_neg (by simp [h1])]; exact HO.out)
            clear h0 h1 lo2
            go_wp2_with fail
            go_roundw
            case rel => exact ⟨k + 1, _, _, _, HK.out, rfl, by simp, HO6, HB⟩
            case measure => have := HK.out; simp only [intOf]; omega
        · have t0 : (a.rd == r) = false := by rw [beq_eq_false_iff_ne]; exact h0
          have HO6 : Hid (OwnR wr w.heap.size (.slice A2 m c) (versP (l.take (k + 1)) (keyN r t b))) := Lib.hid (by rw [HST.out, if_neg (by simp [h0])]; exact HO.out)
          clear h0 lo2
          go_wp2_with fail
          go_roundw
          case rel => exact ⟨k + 1, _, _, _, HK.out, rfl, by simp, HO6, HB⟩
          case measure => have := HK.out; simp only [intOf]; omega
      · obtain rfl : k = n := by omega
        have u1 : decide ((k : Int) < (k : Int)) = false := decide_eq_false (by omega)
        have HO2 : Hid (OwnR wr w.heap.size (.slice A2 m c) R) := Lib.hid (by
          have h := HO.out
          have h9 : R = versP l (keyN r t b) := by simpa using HC.out
          rw [List.take_of_length_le (by rw [HN.out]; exact Nat.le_refl _), ← h9] at h
          exact h)
        clear hlt hk
        go_wp2_with fail
        go_returns
        exact ⟨_, rfl, HO2.out, HB.out⟩
end Go.Proofs.YtpkmibmombpjpaaGreatDoor
