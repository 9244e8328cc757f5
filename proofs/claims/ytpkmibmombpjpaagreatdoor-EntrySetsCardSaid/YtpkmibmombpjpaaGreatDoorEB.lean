/- A word as an outcome: entry.outcome. -/
import Derived.Test.YtpkmibmombpjpaaGreatDoorEA
set_option linter.unusedSimpArgs false
namespace Go.Proofs.YtpkmibmombpjpaaGreatDoor
open Go Go.RowKit

theorem splitK_le (c : UInt8) : ∀ (k : Nat) (s : List UInt8), ∀ x ∈ Lib.splitK [c] 0 k s, x.length ≤ s.length
  | 0, s, x, hx => by rw [List.mem_singleton.1 hx]; exact Nat.le_refl _
  | k + 1, s, x, hx => by
    rw [Lib.splitK] at hx
    split at hx
    · rw [List.mem_singleton.1 hx]; exact Nat.le_refl _
    · rcases List.mem_cons.1 hx with rfl | hx
      · rw [List.length_take]; omega
      · have := splitK_le c k _ x hx
        rw [List.length_drop] at this
        omega
theorem splitAt_le (c : UInt8) (n : Nat) (s : List UInt8) : ∀ x ∈ splitAt1 c n s, x.length ≤ s.length := splitK_le c _ s
theorem cut_le (c : UInt8) (s : List UInt8) : (Lib.cut s [c]).1.length ≤ s.length ∧ (Lib.cut s [c]).2.1.length ≤ s.length := by
  unfold Lib.cut
  split
  · simp only [List.length_take, List.length_drop]; omega
  · simp
def ouV (o : Ou) : Value := .agg #[.int .u8 (o.lv : Int), .int .u8 (o.dn : Int), .int .u8 (o.rk : Int), .int .u8 (o.dc : Int), .int .i64 o.tr, .int .i64 o.wt]
def outV : Option Ou → Value
  | some o => .tuple #[ouV o, .bool true]
  | none => .tuple #[ouV zeroO, .bool false]
def outFive (wt : List UInt8) : List (List UInt8) → Option Ou
  | [a, b, c, d, t] => some ⟨smallW a, smallW b, smallW c, smallW d, numW t, numW wt⟩
  | _ => none
theorem outFive_none (wt : List UInt8) (l : List (List UInt8)) (h : l.length ≠ 5) : outFive wt l = none := by
  match l, h with
  | [], _ => rfl
  | [_], _ => rfl
  | [_, _], _ => rfl
  | [_, _, _], _ => rfl
  | [_, _, _, _], _ => rfl
  | [_, _, _, _, _], h => exact absurd rfl h
  | _ :: _ :: _ :: _ :: _ :: _ :: _, _ => rfl
theorem outW_five (l : List UInt8) : outW l = outFive (Lib.cut l [58]).2.1 (splitAt1 46 6 (Lib.cut l [58]).1) := by
  unfold outW
  rfl
theorem five {α : Type} {l : List α} (h : l.length = 5) : ∃ a b c d e, l = [a, b, c, d, e] := by
  match l, h with
  | [a, b, c, d, e], _ => exact ⟨a, b, c, d, e, rfl⟩
set_option maxRecDepth 100000 in
set_option maxHeartbeats 4000000 in
theorem outcome_any (l : List UInt8) (hl : l.length ≤ 1000000) (w : World) (he : Env w) : Calls Tryz.prog 102 #[.string (bS l)] w (fun r w' => r = .returned (outV (outW l)) ∧ Below w.heap.size w w') := by
  have HE := Lib.hid he
  obtain ⟨rs, hrs⟩ : ∃ rs, (Lib.cut l [58]).1 = rs := ⟨_, rfl⟩
  obtain ⟨wt, hwt⟩ : ∃ wt, (Lib.cut l [58]).2.1 = wt := ⟨_, rfl⟩
  obtain ⟨fl, hfl⟩ : ∃ fl, (Lib.cut l [58]).2.2 = fl := ⟨_, rfl⟩
  have hle := cut_le 58 l
  have CT := Lib.hid (fun W => cut1_any (bS l) 58 (by rw [bS_size]; omega) W)
  rw [bS_list, hrs, hwt, hfl] at CT
  rw [show (⟨rs.toArray⟩ : ByteArray) = bS rs from rfl, show (⟨wt.toArray⟩ : ByteArray) = bS wt from rfl] at CT
  rw [hrs, hwt] at hle
  have HLR : Hid (rs.length ≤ 1000000) := Lib.hid (by omega)
  have HLW : Hid (wt.length ≤ 1000000) := Lib.hid (by omega)
  have SPN := Lib.hid (fun W hW => splitN_any 46 6 (by omega) (by omega) rs HLR.out W hW)
  have hpl := splitAt_le 46 6 rs
  obtain ⟨ws, hws⟩ : ∃ ws, splitAt1 46 6 rs = ws := ⟨_, rfl⟩
  have HO : Hid (outW l = outFive wt ws) := Lib.hid (by rw [outW_five, hrs, hwt, hws])
  rw [hws] at SPN hpl
  have HPL : Hid (∀ x ∈ ws, x.length ≤ 1000000) := Lib.hid (fun x hx => Nat.le_trans (hpl x hx) HLR.out)
  clear he hle hpl hrs hwt hfl hws hl
  go_enter Tryz.func102, Tryz.ntmps102
  go_wp2_with fail
  have HZ := Lib.hid (Blk.new w 30 #[.int .u8 0, .int .u8 0, .int .u8 0, .int .u8 0, .int .i64 0, .int .i64 0])
  have HW := Lib.hid (below1 w (.cells #[.int .u8 0, .int .u8 0, .int .u8 0, .int .u8 0, .int .i64 0, .int .i64 0] 30))
  generalize w.alloc (.cells #[.int .u8 0, .int .u8 0, .int .u8 0, .int .u8 0, .int .i64 0, .int .i64 0] 30) = W1 at *
  generalize hp0 : w.heap.size = p0 at *
  refine (CT.out _).mono ?_
  rintro e w1 ⟨rfl, n1, rfl⟩
  have HZ2 : Hid (Blk (W1.drewN n1) p0 30 #[.int .u8 0, .int .u8 0, .int .u8 0, .int .u8 0, .int .i64 0, .int .i64 0]) := HZ
  have HW2 := Lib.hid (below_drewN HW.out n1)
  clear HZ HW CT
  generalize W1.drewN n1 = W2 at *
  go_wp2_with fail
  refine (SPN.out _ (HE.out.keep (by rw [hp0]; exact HW2.out))).mono ?_
  rintro e w3 ⟨v, rfl, hrs, hb⟩
  have HZ3 := Lib.hid (HZ2.out.keep hb HZ2.out.lt)
  have HW3 := Lib.hid (HW2.out.trans (hb.mono (by have := HW2.out.size; omega)))
  have HRS := Lib.hid hrs
  obtain ⟨AV, cv, rfl⟩ := hrs.len
  clear hb hrs HZ2 HW2 SPN
  obtain ⟨m, hm⟩ : ∃ m, ws.length = m := ⟨_, rfl⟩
  rw [hm] at HRS ⊢
  by_cases h5 : m = 5
  · subst h5
    obtain ⟨q0, q1, q2, q3, q4, rfl⟩ := five hm
    obtain ⟨bw, ow, rfl, c0⟩ := HRS.out.at (i := 0) rfl
    obtain ⟨_, _, e1, c1⟩ := HRS.out.at (i := 1) rfl
    cases e1
    obtain ⟨_, _, e2, c2⟩ := HRS.out.at (i := 2) rfl
    cases e2
    obtain ⟨_, _, e3, c3⟩ := HRS.out.at (i := 3) rfl
    cases e3
    obtain ⟨_, _, e4, c4⟩ := HRS.out.at (i := 4) rfl
    cases e4
    have HO2 : Hid (outW l = some ⟨smallW q0, smallW q1, smallW q2, smallW q3, numW q4, numW wt⟩) := Lib.hid HO.out
    rw [Nat.add_zero] at c0
    have SM0 := Lib.hid (fun W hW => small_any q0 (HPL.out q0 (by simp)) W hW)
    have SM1 := Lib.hid (fun W hW => small_any q1 (HPL.out q1 (by simp)) W hW)
    have SM2 := Lib.hid (fun W hW => small_any q2 (HPL.out q2 (by simp)) W hW)
    have SM3 := Lib.hid (fun W hW => small_any q3 (HPL.out q3 (by simp)) W hW)
    have NM4 := Lib.hid (fun W hW => number_any q4 (HPL.out q4 (by simp)) W hW)
    have NM5 := Lib.hid (fun W hW => number_any wt HLW.out W hW)
    generalize smallW q0 = s0 at *
    generalize smallW q1 = s1 at *
    generalize smallW q2 = s2 at *
    generalize smallW q3 = s3 at *
    generalize numW q4 = n4 at *
    generalize numW wt = n5 at *
    clear HO HRS HPL hm
    go_wp2_with fail
    · obtain ⟨W0, hW0⟩ : ∃ W0, w3.drew = W0 := ⟨_, rfl⟩
      have hD : Below w3.heap.size w3 W0 := hW0 ▸ (Below.refl _ w3).drew
      have HZ4 := Lib.hid (HZ3.out.keep hD HZ3.out.lt)
      have HW4 := Lib.hid (HW3.out.trans (hD.mono (by have := HW3.out.size; omega)))
      have HE5 := Lib.hid (HE.out.keep (by rw [hp0]; exact HW4.out))
      replace c0 : W0.cell? ⟨bw, ow, none⟩ = some (.string (bS q0)) := keepW hD c0
      replace c1 : W0.cell? ⟨bw, ow + 1, none⟩ = some (.string (bS q1)) := keepW hD c1
      replace c2 : W0.cell? ⟨bw, ow + 2, none⟩ = some (.string (bS q2)) := keepW hD c2
      replace c3 : W0.cell? ⟨bw, ow + 3, none⟩ = some (.string (bS q3)) := keepW hD c3
      replace c4 : W0.cell? ⟨bw, ow + 4, none⟩ = some (.string (bS q4)) := keepW hD c4
      refine rest_begin (by kernel_rfl) ?_
      rw [hW0]
      clear hD hW0 HZ3 HW3
      clear w3
      refine rest_flow3 [some 21, some 22, some 23, some 24, some 25, some 26, some 27, some 28, some 29, some 30, some 31, some 32, some 33, some 34, some 35, some 36, some 37, some 8] [Sp.is (.slice (some ⟨bw, ow, none⟩) 5 cv), Sp.is (.pointer (some ⟨bw, ow, none⟩)), Sp.is (.string (bS q0)), Sp.is (.int .u8 ((s0 : Nat) : Int)), Sp.is (.slice (some ⟨bw, ow, none⟩) 5 cv), Sp.is (.pointer (some ⟨bw, ow + 1, none⟩)), Sp.is (.string (bS q1)), Sp.is (.int .u8 ((s1 : Nat) : Int)), Sp.is (.slice (some ⟨bw, ow, none⟩) 5 cv), Sp.is (.pointer (some ⟨bw, ow + 2, none⟩)), Sp.is (.string (bS q2)), Sp.is (.int .u8 ((s2 : Nat) : Int)), Sp.is (.slice (some ⟨bw, ow, none⟩) 5 cv), Sp.is (.pointer (some ⟨bw, ow + 3, none⟩)), Sp.is (.string (bS q3)), Sp.is (.int .u8 ((s3 : Nat) : Int)), Sp.is (.agg #[.int .u8 ((s0 : Nat) : Int), .int .u8 ((s1 : Nat) : Int), .int .u8 ((s2 : Nat) : Int), .int .u8 ((s3 : Nat) : Int)]), Sp.blk 28 #[.int .u8 0, .int .u8 0, .int .u8 0, .int .u8 0]] [false, false, false, false, false, false, false, false, false, false, false, false, false, false, false, false, false, true] 18 (by kernel_rfl) (by kernel_rfl) (fun u F hF => ?_) (fun u w' hbF hsF hold hap => ?_)
      case refine_1 =>
        have E7 : F.eval (.tmp 7) = (.slice (some ⟨bw, ow, none⟩) 5 cv) := (congrArg (fun a => Act.eval a (.tmp 7)) hF).trans (eval_out _ 0 _ (by decide))
        have D21 : F.eval (.tmp 21) = u 0 := (congrArg (fun a => Act.eval a (.tmp 21)) hF).trans (eval_in _ 0 0 _ (by decide) (by omega) rfl (of_decide_eq_true (by kernel_rfl)))
        have D22 : F.eval (.tmp 22) = u 1 := (congrArg (fun a => Act.eval a (.tmp 22)) hF).trans (eval_in _ 0 1 _ (by decide) (by omega) rfl (of_decide_eq_true (by kernel_rfl)))
        have D23 : F.eval (.tmp 23) = u 2 := (congrArg (fun a => Act.eval a (.tmp 23)) hF).trans (eval_in _ 0 2 _ (by decide) (by omega) rfl (of_decide_eq_true (by kernel_rfl)))
        have D25 : F.eval (.tmp 25) = u 4 := (congrArg (fun a => Act.eval a (.tmp 25)) hF).trans (eval_in _ 0 4 _ (by decide) (by omega) rfl (of_decide_eq_true (by kernel_rfl)))
        have D26 : F.eval (.tmp 26) = u 5 := (congrArg (fun a => Act.eval a (.tmp 26)) hF).trans (eval_in _ 0 5 _ (by decide) (by omega) rfl (of_decide_eq_true (by kernel_rfl)))
        have D27 : F.eval (.tmp 27) = u 6 := (congrArg (fun a => Act.eval a (.tmp 27)) hF).trans (eval_in _ 0 6 _ (by decide) (by omega) rfl (of_decide_eq_true (by kernel_rfl)))
        have D29 : F.eval (.tmp 29) = u 8 := (congrArg (fun a => Act.eval a (.tmp 29)) hF).trans (eval_in _ 0 8 _ (by decide) (by omega) rfl (of_decide_eq_true (by kernel_rfl)))
        have D30 : F.eval (.tmp 30) = u 9 := (congrArg (fun a => Act.eval a (.tmp 30)) hF).trans (eval_in _ 0 9 _ (by decide) (by omega) rfl (of_decide_eq_true (by kernel_rfl)))
        have D31 : F.eval (.tmp 31) = u 10 := (congrArg (fun a => Act.eval a (.tmp 31)) hF).trans (eval_in _ 0 10 _ (by decide) (by omega) rfl (of_decide_eq_true (by kernel_rfl)))
        have D33 : F.eval (.tmp 33) = u 12 := (congrArg (fun a => Act.eval a (.tmp 33)) hF).trans (eval_in _ 0 12 _ (by decide) (by omega) rfl (of_decide_eq_true (by kernel_rfl)))
        have D34 : F.eval (.tmp 34) = u 13 := (congrArg (fun a => Act.eval a (.tmp 34)) hF).trans (eval_in _ 0 13 _ (by decide) (by omega) rfl (of_decide_eq_true (by kernel_rfl)))
        have D35 : F.eval (.tmp 35) = u 14 := (congrArg (fun a => Act.eval a (.tmp 35)) hF).trans (eval_in _ 0 14 _ (by decide) (by omega) rfl (of_decide_eq_true (by kernel_rfl)))
        have D24 : F.eval (.tmp 24) = u 3 := (congrArg (fun a => Act.eval a (.tmp 24)) hF).trans (eval_in _ 0 3 _ (by decide) (by omega) rfl (of_decide_eq_true (by kernel_rfl)))
        have D28 : F.eval (.tmp 28) = u 7 := (congrArg (fun a => Act.eval a (.tmp 28)) hF).trans (eval_in _ 0 7 _ (by decide) (by omega) rfl (of_decide_eq_true (by kernel_rfl)))
        have D32 : F.eval (.tmp 32) = u 11 := (congrArg (fun a => Act.eval a (.tmp 32)) hF).trans (eval_in _ 0 11 _ (by decide) (by omega) rfl (of_decide_eq_true (by kernel_rfl)))
        have D36 : F.eval (.tmp 36) = u 15 := (congrArg (fun a => Act.eval a (.tmp 36)) hF).trans (eval_in _ 0 15 _ (by decide) (by omega) rfl (of_decide_eq_true (by kernel_rfl)))
        clear hF
        refine ⟨?_, ?_, ?_, ?_, ?_, ?_, ?_, ?_, ?_, ?_, ?_, ?_, ?_, ?_, ?_, ?_, ?_, ?_, trivial⟩
        · intro w1 hb hd K hK
          have e7 := E7
          exact op_val (v := (.slice (some ⟨bw, ow, none⟩) 5 cv)) rfl (by simp only [execOp, List.map_toArray, List.map_cons, List.map_nil, e7]; go_simp) (hK _ _ (show _ = _ from rfl) (Below.refl _ _) (Fresh.no _ _ _))
        · intro w1 hb hd K hK
          have e21 := D21.trans (show u 0 = _ from hd ⟨0, .data⟩ (by simp) rfl (by omega))
          exact op_val (v := (.pointer (some ⟨bw, ow, none⟩))) rfl (by simp only [execOp, List.map_toArray, List.map_cons, List.map_nil, e21]; go_simp) (hK _ _ (show _ = _ from rfl) (Below.refl _ _) (Fresh.no _ _ _))
        · intro w1 hb hd K hK
          have e22 := D22.trans (show u 1 = _ from hd ⟨1, .data⟩ (by simp) rfl (by omega))
          have c0 : w1.cell? ⟨bw, ow, none⟩ = some (.string (bS q0)) := keepW hb c0
          exact op_val (v := (.string (bS q0))) rfl (by simp only [execOp, e22]; go_simp) (hK _ _ (show _ = _ from rfl) (Below.refl _ _) (Fresh.no _ _ _))
        · intro w1 hb hd K hK
          have e23 := D23.trans (show u 2 = _ from hd ⟨2, .data⟩ (by simp) rfl (by omega))
          refine op_call (R := fun v w2 => v = (.int .u8 ((s0 : Nat) : Int)) ∧ Below w1.heap.size w1 w2) (f := 101) (args := #[.string (bS q0)]) rfl (by simp only [execOp]; go_simp; first | exact eval_get e23 | exact ⟨rfl, eval_get e23⟩ | exact ⟨eval_get e23, rfl⟩ | (simp only [Act.eval] at *; simp_all)) ((SM0.out w1 (HE5.out.keep hb)).mono fun e w2 hh => ⟨_, hh.1, rfl, hh.2⟩) (fun v w2 hh => hK _ _ hh.1 hh.2 (Fresh.no _ _ _))
        · intro w1 hb hd K hK
          have e7 := E7
          exact op_val (v := (.slice (some ⟨bw, ow, none⟩) 5 cv)) rfl (by simp only [execOp, List.map_toArray, List.map_cons, List.map_nil, e7]; go_simp) (hK _ _ (show _ = _ from rfl) (Below.refl _ _) (Fresh.no _ _ _))
        · intro w1 hb hd K hK
          have e25 := D25.trans (show u 4 = _ from hd ⟨4, .data⟩ (by simp) rfl (by omega))
          exact op_val (v := (.pointer (some ⟨bw, ow + 1, none⟩))) rfl (by simp only [execOp, List.map_toArray, List.map_cons, List.map_nil, e25]; go_simp) (hK _ _ (show _ = _ from rfl) (Below.refl _ _) (Fresh.no _ _ _))
        · intro w1 hb hd K hK
          have e26 := D26.trans (show u 5 = _ from hd ⟨5, .data⟩ (by simp) rfl (by omega))
          have c0 : w1.cell? ⟨bw, ow + 1, none⟩ = some (.string (bS q1)) := keepW hb c1
          exact op_val (v := (.string (bS q1))) rfl (by simp only [execOp, e26]; go_simp) (hK _ _ (show _ = _ from rfl) (Below.refl _ _) (Fresh.no _ _ _))
        · intro w1 hb hd K hK
          have e27 := D27.trans (show u 6 = _ from hd ⟨6, .data⟩ (by simp) rfl (by omega))
          refine op_call (R := fun v w2 => v = (.int .u8 ((s1 : Nat) : Int)) ∧ Below w1.heap.size w1 w2) (f := 101) (args := #[.string (bS q1)]) rfl (by simp only [execOp]; go_simp; first | exact eval_get e27 | exact ⟨rfl, eval_get e27⟩ | exact ⟨eval_get e27, rfl⟩ | (simp only [Act.eval] at *; simp_all)) ((SM1.out w1 (HE5.out.keep hb)).mono fun e w2 hh => ⟨_, hh.1, rfl, hh.2⟩) (fun v w2 hh => hK _ _ hh.1 hh.2 (Fresh.no _ _ _))
        · intro w1 hb hd K hK
          have e7 := E7
          exact op_val (v := (.slice (some ⟨bw, ow, none⟩) 5 cv)) rfl (by simp only [execOp, List.map_toArray, List.map_cons, List.map_nil, e7]; go_simp) (hK _ _ (show _ = _ from rfl) (Below.refl _ _) (Fresh.no _ _ _))
        · intro w1 hb hd K hK
          have e29 := D29.trans (show u 8 = _ from hd ⟨8, .data⟩ (by simp) rfl (by omega))
          exact op_val (v := (.pointer (some ⟨bw, ow + 2, none⟩))) rfl (by simp only [execOp, List.map_toArray, List.map_cons, List.map_nil, e29]; go_simp) (hK _ _ (show _ = _ from rfl) (Below.refl _ _) (Fresh.no _ _ _))
        · intro w1 hb hd K hK
          have e30 := D30.trans (show u 9 = _ from hd ⟨9, .data⟩ (by simp) rfl (by omega))
          have c0 : w1.cell? ⟨bw, ow + 2, none⟩ = some (.string (bS q2)) := keepW hb c2
          exact op_val (v := (.string (bS q2))) rfl (by simp only [execOp, e30]; go_simp) (hK _ _ (show _ = _ from rfl) (Below.refl _ _) (Fresh.no _ _ _))
        · intro w1 hb hd K hK
          have e31 := D31.trans (show u 10 = _ from hd ⟨10, .data⟩ (by simp) rfl (by omega))
          refine op_call (R := fun v w2 => v = (.int .u8 ((s2 : Nat) : Int)) ∧ Below w1.heap.size w1 w2) (f := 101) (args := #[.string (bS q2)]) rfl (by simp only [execOp]; go_simp; first | exact eval_get e31 | exact ⟨rfl, eval_get e31⟩ | exact ⟨eval_get e31, rfl⟩ | (simp only [Act.eval] at *; simp_all)) ((SM2.out w1 (HE5.out.keep hb)).mono fun e w2 hh => ⟨_, hh.1, rfl, hh.2⟩) (fun v w2 hh => hK _ _ hh.1 hh.2 (Fresh.no _ _ _))
        · intro w1 hb hd K hK
          have e7 := E7
          exact op_val (v := (.slice (some ⟨bw, ow, none⟩) 5 cv)) rfl (by simp only [execOp, List.map_toArray, List.map_cons, List.map_nil, e7]; go_simp) (hK _ _ (show _ = _ from rfl) (Below.refl _ _) (Fresh.no _ _ _))
        · intro w1 hb hd K hK
          have e33 := D33.trans (show u 12 = _ from hd ⟨12, .data⟩ (by simp) rfl (by omega))
          exact op_val (v := (.pointer (some ⟨bw, ow + 3, none⟩))) rfl (by simp only [execOp, List.map_toArray, List.map_cons, List.map_nil, e33]; go_simp) (hK _ _ (show _ = _ from rfl) (Below.refl _ _) (Fresh.no _ _ _))
        · intro w1 hb hd K hK
          have e34 := D34.trans (show u 13 = _ from hd ⟨13, .data⟩ (by simp) rfl (by omega))
          have c0 : w1.cell? ⟨bw, ow + 3, none⟩ = some (.string (bS q3)) := keepW hb c3
          exact op_val (v := (.string (bS q3))) rfl (by simp only [execOp, e34]; go_simp) (hK _ _ (show _ = _ from rfl) (Below.refl _ _) (Fresh.no _ _ _))
        · intro w1 hb hd K hK
          have e35 := D35.trans (show u 14 = _ from hd ⟨14, .data⟩ (by simp) rfl (by omega))
          refine op_call (R := fun v w2 => v = (.int .u8 ((s3 : Nat) : Int)) ∧ Below w1.heap.size w1 w2) (f := 101) (args := #[.string (bS q3)]) rfl (by simp only [execOp]; go_simp; first | exact eval_get e35 | exact ⟨rfl, eval_get e35⟩ | exact ⟨eval_get e35, rfl⟩ | (simp only [Act.eval] at *; simp_all)) ((SM3.out w1 (HE5.out.keep hb)).mono fun e w2 hh => ⟨_, hh.1, rfl, hh.2⟩) (fun v w2 hh => hK _ _ hh.1 hh.2 (Fresh.no _ _ _))
        · intro w1 hb hd K hK
          have e24 := D24.trans (show u 3 = _ from hd ⟨3, .data⟩ (by simp) rfl (by omega))
          have e28 := D28.trans (show u 7 = _ from hd ⟨7, .data⟩ (by simp) rfl (by omega))
          have e32 := D32.trans (show u 11 = _ from hd ⟨11, .data⟩ (by simp) rfl (by omega))
          have e36 := D36.trans (show u 15 = _ from hd ⟨15, .data⟩ (by simp) rfl (by omega))
          exact op_val (v := (.agg #[.int .u8 ((s0 : Nat) : Int), .int .u8 ((s1 : Nat) : Int), .int .u8 ((s2 : Nat) : Int), .int .u8 ((s3 : Nat) : Int)])) rfl (by simp only [execOp, List.map_toArray, List.map_cons, List.map_nil, e24, e28, e32, e36]; go_simp) (hK _ _ (show _ = _ from rfl) (Below.refl _ _) (Fresh.no _ _ _))
        · intro w1 hb hd K hK
          exact op_val (v := .pointer (some ⟨w1.heap.size, 0, none⟩)) (w' := w1.alloc (.cells #[.int .u8 0, .int .u8 0, .int .u8 0, .int .u8 0] 28)) rfl (by kernel_rfl) (hK _ _ (show ∃ b, _ ∧ _ from ⟨_, rfl, Blk.new w1 _ _⟩) (below1 _ _) (fun _ => ⟨_, rfl, Nat.le_refl _, by show _ < _; rw [size_al]; exact Nat.lt_succ_self _⟩))
      have hv21 : u 0 = (.slice (some ⟨bw, ow, none⟩) 5 cv) := (show u 0 = _ from hsF 0 (by omega) (by omega))
      have hv22 : u 1 = (.pointer (some ⟨bw, ow, none⟩)) := (show u 1 = _ from hsF 1 (by omega) (by omega))
      have hv23 : u 2 = (.string (bS q0)) := (show u 2 = _ from hsF 2 (by omega) (by omega))
      have hv24 : u 3 = (.int .u8 ((s0 : Nat) : Int)) := (show u 3 = _ from hsF 3 (by omega) (by omega))
      have hv25 : u 4 = (.slice (some ⟨bw, ow, none⟩) 5 cv) := (show u 4 = _ from hsF 4 (by omega) (by omega))
      have hv26 : u 5 = (.pointer (some ⟨bw, ow + 1, none⟩)) := (show u 5 = _ from hsF 5 (by omega) (by omega))
      have hv27 : u 6 = (.string (bS q1)) := (show u 6 = _ from hsF 6 (by omega) (by omega))
      have hv28 : u 7 = (.int .u8 ((s1 : Nat) : Int)) := (show u 7 = _ from hsF 7 (by omega) (by omega))
      have hv29 : u 8 = (.slice (some ⟨bw, ow, none⟩) 5 cv) := (show u 8 = _ from hsF 8 (by omega) (by omega))
      have hv30 : u 9 = (.pointer (some ⟨bw, ow + 2, none⟩)) := (show u 9 = _ from hsF 9 (by omega) (by omega))
      have hv31 : u 10 = (.string (bS q2)) := (show u 10 = _ from hsF 10 (by omega) (by omega))
      have hv32 : u 11 = (.int .u8 ((s2 : Nat) : Int)) := (show u 11 = _ from hsF 11 (by omega) (by omega))
      have hv33 : u 12 = (.slice (some ⟨bw, ow, none⟩) 5 cv) := (show u 12 = _ from hsF 12 (by omega) (by omega))
      have hv34 : u 13 = (.pointer (some ⟨bw, ow + 3, none⟩)) := (show u 13 = _ from hsF 13 (by omega) (by omega))
      have hv35 : u 14 = (.string (bS q3)) := (show u 14 = _ from hsF 14 (by omega) (by omega))
      have hv36 : u 15 = (.int .u8 ((s3 : Nat) : Int)) := (show u 15 = _ from hsF 15 (by omega) (by omega))
      have hv37 : u 16 = (.agg #[.int .u8 ((s0 : Nat) : Int), .int .u8 ((s1 : Nat) : Int), .int .u8 ((s2 : Nat) : Int), .int .u8 ((s3 : Nat) : Int)]) := (show u 16 = _ from hsF 16 (by omega) (by omega))
      obtain ⟨b8, hv8, hB8⟩ := (show ∃ b, u 17 = .pointer (some ⟨b, 0, none⟩) ∧ Blk w' b 28 #[.int .u8 0, .int .u8 0, .int .u8 0, .int .u8 0] from hsF 17 (by omega) (by omega))
      obtain ⟨xb8, hx8, hge8, -⟩ := hold 17 (by omega) (by omega) rfl
      rw [hv8] at hx8
      obtain rfl : b8 = xb8 := by simpa [blkOf] using hx8
      simp only [putRow, hv21, hv22, hv23, hv24, hv25, hv26, hv27, hv28, hv29, hv30, hv31, hv32, hv33, hv34, hv35, hv36, hv37, hv8, Act.put, List.setIfInBounds_toArray, List.set_cons_succ, List.set_cons_zero]
      clear hsF hold hap hv21 hv22 hv23 hv24 hv25 hv26 hv27 hv28 hv29 hv30 hv31 hv32 hv33 hv34 hv35 hv36 hv37 hv8 hx8
      have st := storeAt_row (T := 28) (C := #[.int .u8 ((s0 : Nat) : Int), .int .u8 ((s1 : Nat) : Int), .int .u8 ((s2 : Nat) : Int), .int .u8 ((s3 : Nat) : Int)]) hB8 (by kernel_rfl) rfl (by kernel_rfl)
      refine rest_forced 1 (by kernel_rfl) ?_
      simp only [List.drop_succ_cons, List.drop_zero, List.take_succ_cons, List.take_zero]
      go_wp2_with (refine op_store (p := .pointer (some ⟨b8, 0, none⟩)) (C := .agg #[.int .u8 ((s0 : Nat) : Int), .int .u8 ((s1 : Nat) : Int), .int .u8 ((s2 : Nat) : Int), .int .u8 ((s3 : Nat) : Int)]) 28 (.tmp 8) (.tmp 37) rfl rfl rfl rfl rfl st ?_)
      clear st
      refine rest_done rfl ?_
      go_wp2_with fail
      have hD : Below W0.heap.size W0 (w'.setRow b8 #[.int .u8 ((s0 : Nat) : Int), .int .u8 ((s1 : Nat) : Int), .int .u8 ((s2 : Nat) : Int), .int .u8 ((s3 : Nat) : Int)]).drew := (Below.setRow' hge8 hbF _).drew
      have hlz : p0 < W0.heap.size := HZ4.out.lt
      have HC : Hid (Blk (w'.setRow b8 #[.int .u8 ((s0 : Nat) : Int), .int .u8 ((s1 : Nat) : Int), .int .u8 ((s2 : Nat) : Int), .int .u8 ((s3 : Nat) : Int)]).drew b8 28 #[.int .u8 ((s0 : Nat) : Int), .int .u8 ((s1 : Nat) : Int), .int .u8 ((s2 : Nat) : Int), .int .u8 ((s3 : Nat) : Int)]) := Lib.hid (hB8.row _)
      have HZ6 : Hid (Blk (w'.setRow b8 #[.int .u8 ((s0 : Nat) : Int), .int .u8 ((s1 : Nat) : Int), .int .u8 ((s2 : Nat) : Int), .int .u8 ((s3 : Nat) : Int)]).drew p0 30 #[.int .u8 0, .int .u8 0, .int .u8 0, .int .u8 0, .int .i64 0, .int .i64 0]) := Lib.hid ((HZ4.out.keep hbF HZ4.out.lt).row_other (by omega) _)
      have HW6 := Lib.hid (HW4.out.trans (hD.mono (by omega)))
      have HE6 := Lib.hid (HE5.out.keep hD)
      replace c4 := keepW hD c4
      clear c0 c1 c2 c3 SM0 SM1 SM2 SM3 HE5 HW4 HZ4 hB8 hD
      refine rest_begin (by kernel_rfl) ?_
      generalize (w'.setRow b8 #[.int .u8 ((s0 : Nat) : Int), .int .u8 ((s1 : Nat) : Int), .int .u8 ((s2 : Nat) : Int), .int .u8 ((s3 : Nat) : Int)]).drew = W6 at *
      clear hbF hge8
      clear w'
      refine rest_flow3 [some 38, some 39, some 40, some 41, some 42, some 43, some 44, some 45] [Sp.is (.agg #[.int .u8 ((s0 : Nat) : Int), .int .u8 ((s1 : Nat) : Int), .int .u8 ((s2 : Nat) : Int), .int .u8 ((s3 : Nat) : Int)]), Sp.is (.slice (some ⟨bw, ow, none⟩) 5 cv), Sp.is (.pointer (some ⟨bw, ow + 4, none⟩)), Sp.is (.string (bS q4)), Sp.is (.int .i64 n4), Sp.is (.string (bS wt)), Sp.is (.int .i64 n5), Sp.is (.agg #[.int .u8 ((s0 : Nat) : Int), .int .u8 ((s1 : Nat) : Int), .int .u8 ((s2 : Nat) : Int), .int .u8 ((s3 : Nat) : Int), .int .i64 n4, .int .i64 n5])] [false, false, false, false, false, false, false, false] 8 (by kernel_rfl) (by kernel_rfl) (fun u F hF => ?_) (fun u w' hbF hsF hold hap => ?_)
      case refine_1 =>
        have E8 : F.eval (.tmp 8) = (.pointer (some ⟨b8, 0, none⟩)) := (congrArg (fun a => Act.eval a (.tmp 8)) hF).trans (eval_out _ 0 _ (by decide))
        have E7 : F.eval (.tmp 7) = (.slice (some ⟨bw, ow, none⟩) 5 cv) := (congrArg (fun a => Act.eval a (.tmp 7)) hF).trans (eval_out _ 0 _ (by decide))
        have D39 : F.eval (.tmp 39) = u 1 := (congrArg (fun a => Act.eval a (.tmp 39)) hF).trans (eval_in _ 0 1 _ (by decide) (by omega) rfl (of_decide_eq_true (by kernel_rfl)))
        have D40 : F.eval (.tmp 40) = u 2 := (congrArg (fun a => Act.eval a (.tmp 40)) hF).trans (eval_in _ 0 2 _ (by decide) (by omega) rfl (of_decide_eq_true (by kernel_rfl)))
        have D41 : F.eval (.tmp 41) = u 3 := (congrArg (fun a => Act.eval a (.tmp 41)) hF).trans (eval_in _ 0 3 _ (by decide) (by omega) rfl (of_decide_eq_true (by kernel_rfl)))
        have E5 : F.eval (.tmp 5) = (.string (bS wt)) := (congrArg (fun a => Act.eval a (.tmp 5)) hF).trans (eval_out _ 0 _ (by decide))
        have D43 : F.eval (.tmp 43) = u 5 := (congrArg (fun a => Act.eval a (.tmp 43)) hF).trans (eval_in _ 0 5 _ (by decide) (by omega) rfl (of_decide_eq_true (by kernel_rfl)))
        have D38 : F.eval (.tmp 38) = u 0 := (congrArg (fun a => Act.eval a (.tmp 38)) hF).trans (eval_in _ 0 0 _ (by decide) (by omega) rfl (of_decide_eq_true (by kernel_rfl)))
        have D42 : F.eval (.tmp 42) = u 4 := (congrArg (fun a => Act.eval a (.tmp 42)) hF).trans (eval_in _ 0 4 _ (by decide) (by omega) rfl (of_decide_eq_true (by kernel_rfl)))
        have D44 : F.eval (.tmp 44) = u 6 := (congrArg (fun a => Act.eval a (.tmp 44)) hF).trans (eval_in _ 0 6 _ (by decide) (by omega) rfl (of_decide_eq_true (by kernel_rfl)))
        clear hF
        refine ⟨?_, ?_, ?_, ?_, ?_, ?_, ?_, ?_, trivial⟩
        · intro w1 hb hd K hK
          have e8 := E8
          exact op_val (v := (.agg #[.int .u8 ((s0 : Nat) : Int), .int .u8 ((s1 : Nat) : Int), .int .u8 ((s2 : Nat) : Int), .int .u8 ((s3 : Nat) : Int)])) rfl (exec_load rfl e8 (loadAt_blk (HC.out.keep hb HC.out.lt) Tryz.underlying28 rfl (by kernel_rfl))) (hK _ _ (show _ = _ from rfl) (Below.refl _ _) (Fresh.no _ _ _))
        · intro w1 hb hd K hK
          have e7 := E7
          exact op_val (v := (.slice (some ⟨bw, ow, none⟩) 5 cv)) rfl (by simp only [execOp, List.map_toArray, List.map_cons, List.map_nil, e7]; go_simp) (hK _ _ (show _ = _ from rfl) (Below.refl _ _) (Fresh.no _ _ _))
        · intro w1 hb hd K hK
          have e39 := D39.trans (show u 1 = _ from hd ⟨1, .data⟩ (by simp) rfl (by omega))
          exact op_val (v := (.pointer (some ⟨bw, ow + 4, none⟩))) rfl (by simp only [execOp, List.map_toArray, List.map_cons, List.map_nil, e39]; go_simp) (hK _ _ (show _ = _ from rfl) (Below.refl _ _) (Fresh.no _ _ _))
        · intro w1 hb hd K hK
          have e40 := D40.trans (show u 2 = _ from hd ⟨2, .data⟩ (by simp) rfl (by omega))
          have c0 : w1.cell? ⟨bw, ow + 4, none⟩ = some (.string (bS q4)) := keepW hb c4
          exact op_val (v := (.string (bS q4))) rfl (by simp only [execOp, e40]; go_simp) (hK _ _ (show _ = _ from rfl) (Below.refl _ _) (Fresh.no _ _ _))
        · intro w1 hb hd K hK
          have e41 := D41.trans (show u 3 = _ from hd ⟨3, .data⟩ (by simp) rfl (by omega))
          refine op_call (R := fun v w2 => v = (.int .i64 n4) ∧ Below w1.heap.size w1 w2) (f := 100) (args := #[.string (bS q4)]) rfl (by simp only [execOp]; go_simp; first | exact eval_get e41 | exact ⟨rfl, eval_get e41⟩ | exact ⟨eval_get e41, rfl⟩ | (simp only [Act.eval] at *; simp_all)) ((NM4.out w1 (HE6.out.keep hb)).mono fun e w2 hh => ⟨_, hh.1, rfl, hh.2⟩) (fun v w2 hh => hK _ _ hh.1 hh.2 (Fresh.no _ _ _))
        · intro w1 hb hd K hK
          have e5 := E5
          exact op_val (v := (.string (bS wt))) rfl (by simp only [execOp, List.map_toArray, List.map_cons, List.map_nil, e5]; go_simp) (hK _ _ (show _ = _ from rfl) (Below.refl _ _) (Fresh.no _ _ _))
        · intro w1 hb hd K hK
          have e43 := D43.trans (show u 5 = _ from hd ⟨5, .data⟩ (by simp) rfl (by omega))
          refine op_call (R := fun v w2 => v = (.int .i64 n5) ∧ Below w1.heap.size w1 w2) (f := 100) (args := #[.string (bS wt)]) rfl (by simp only [execOp]; go_simp; first | exact eval_get e43 | exact ⟨rfl, eval_get e43⟩ | exact ⟨eval_get e43, rfl⟩ | (simp only [Act.eval] at *; simp_all)) ((NM5.out w1 (HE6.out.keep hb)).mono fun e w2 hh => ⟨_, hh.1, rfl, hh.2⟩) (fun v w2 hh => hK _ _ hh.1 hh.2 (Fresh.no _ _ _))
        · intro w1 hb hd K hK
          have e38 := D38.trans (show u 0 = _ from hd ⟨0, .data⟩ (by simp) rfl (by omega))
          have e42 := D42.trans (show u 4 = _ from hd ⟨4, .data⟩ (by simp) rfl (by omega))
          have e44 := D44.trans (show u 6 = _ from hd ⟨6, .data⟩ (by simp) rfl (by omega))
          exact op_val (v := (.agg #[.int .u8 ((s0 : Nat) : Int), .int .u8 ((s1 : Nat) : Int), .int .u8 ((s2 : Nat) : Int), .int .u8 ((s3 : Nat) : Int), .int .i64 n4, .int .i64 n5])) rfl (by simp only [execOp, List.map_toArray, List.map_cons, List.map_nil, e38, e42, e44]; go_simp) (hK _ _ (show _ = _ from rfl) (Below.refl _ _) (Fresh.no _ _ _))
      have hv38 : u 0 = (.agg #[.int .u8 ((s0 : Nat) : Int), .int .u8 ((s1 : Nat) : Int), .int .u8 ((s2 : Nat) : Int), .int .u8 ((s3 : Nat) : Int)]) := (show u 0 = _ from hsF 0 (by omega) (by omega))
      have hv39 : u 1 = (.slice (some ⟨bw, ow, none⟩) 5 cv) := (show u 1 = _ from hsF 1 (by omega) (by omega))
      have hv40 : u 2 = (.pointer (some ⟨bw, ow + 4, none⟩)) := (show u 2 = _ from hsF 2 (by omega) (by omega))
      have hv41 : u 3 = (.string (bS q4)) := (show u 3 = _ from hsF 3 (by omega) (by omega))
      have hv42 : u 4 = (.int .i64 n4) := (show u 4 = _ from hsF 4 (by omega) (by omega))
      have hv43 : u 5 = (.string (bS wt)) := (show u 5 = _ from hsF 5 (by omega) (by omega))
      have hv44 : u 6 = (.int .i64 n5) := (show u 6 = _ from hsF 6 (by omega) (by omega))
      have hv45 : u 7 = (.agg #[.int .u8 ((s0 : Nat) : Int), .int .u8 ((s1 : Nat) : Int), .int .u8 ((s2 : Nat) : Int), .int .u8 ((s3 : Nat) : Int), .int .i64 n4, .int .i64 n5]) := (show u 7 = _ from hsF 7 (by omega) (by omega))
      simp only [putRow, hv38, hv39, hv40, hv41, hv42, hv43, hv44, hv45, Act.put, List.setIfInBounds_toArray, List.set_cons_succ, List.set_cons_zero]
      clear hsF hold hap hv38 hv39 hv40 hv41 hv42 hv43 hv44 hv45
      have HZ7 := Lib.hid (HZ6.out.keep hbF HZ6.out.lt)
      have HW7 := Lib.hid (HW6.out.trans (hbF.mono (by have := HZ6.out.lt; omega)))
      clear HZ6 HW6 HE6 HC c4 NM4 NM5 hbF
      have st := storeAt_row (T := 30) (C := #[.int .u8 ((s0 : Nat) : Int), .int .u8 ((s1 : Nat) : Int), .int .u8 ((s2 : Nat) : Int), .int .u8 ((s3 : Nat) : Int), .int .i64 n4, .int .i64 n5]) HZ7.out (by kernel_rfl) rfl (by kernel_rfl)
      refine rest_forced 2 (by kernel_rfl) ?_
      simp only [List.drop_succ_cons, List.drop_zero, List.take_succ_cons, List.take_zero]
      go_wp2_with (refine op_store (p := .pointer (some ⟨p0, 0, none⟩)) (C := .agg #[.int .u8 ((s0 : Nat) : Int), .int .u8 ((s1 : Nat) : Int), .int .u8 ((s2 : Nat) : Int), .int .u8 ((s3 : Nat) : Int), .int .i64 n4, .int .i64 n5]) 30 (.tmp 2) (.tmp 45) rfl rfl rfl rfl rfl st ?_)
      clear st
      refine rest_done rfl ?_
      have HF := Lib.hid (HZ7.out.row #[.int .u8 ((s0 : Nat) : Int), .int .u8 ((s1 : Nat) : Int), .int .u8 ((s2 : Nat) : Int), .int .u8 ((s3 : Nat) : Int), .int .i64 n4, .int .i64 n5])
      have HX := Lib.hid (Below.setRow' (Nat.le_refl _) HW7.out #[.int .u8 ((s0 : Nat) : Int), .int .u8 ((s1 : Nat) : Int), .int .u8 ((s2 : Nat) : Int), .int .u8 ((s3 : Nat) : Int), .int .i64 n4, .int .i64 n5])
      clear HZ7 HW7
      generalize w'.setRow p0 #[.int .u8 ((s0 : Nat) : Int), .int .u8 ((s1 : Nat) : Int), .int .u8 ((s2 : Nat) : Int), .int .u8 ((s3 : Nat) : Int), .int .i64 n4, .int .i64 n5] = WF at *
      have lf := loadVar_blk (T := 30) HF.out Tryz.underlying30 rfl (by kernel_rfl)
      go_wp2_with fail
      (try simp only [Exit.inBlock, Exit.then])
      refine bodyPost_ret (results_cell_tmp Tryz.results102 rfl rfl lf) rfl ?_
      exact ⟨by rw [HO2.out]; rfl, by rw [hp0]; exact HX.out⟩
  · have u1 : (((m : Nat) : Int) == 5) = false := by rw [beq_eq_false_iff_ne]; omega
    have HO2 : Hid (outW l = none) := Lib.hid (HO.out.trans (outFive_none wt ws (by omega)))
    clear HO HRS HPL hm h5
    have st := storeAt_row (T := 30) (C := #[.int .u8 0, .int .u8 0, .int .u8 0, .int .u8 0, .int .i64 0, .int .i64 0]) HZ3.out (by kernel_rfl) rfl (by kernel_rfl)
    have HF := Lib.hid (HZ3.out.row #[.int .u8 0, .int .u8 0, .int .u8 0, .int .u8 0, .int .i64 0, .int .i64 0])
    have HX := Lib.hid (Below.setRow' (Nat.le_refl _) HW3.out #[.int .u8 0, .int .u8 0, .int .u8 0, .int .u8 0, .int .i64 0, .int .i64 0])
    clear HZ3 HW3
    go_wp2_with (refine op_store (p := .pointer (some ⟨p0, 0, none⟩)) (C := .agg #[.int .u8 0, .int .u8 0, .int .u8 0, .int .u8 0, .int .i64 0, .int .i64 0]) 30 (.tmp 2) (.tmp 20) rfl rfl rfl rfl rfl st ?_)
    clear st
    generalize w3.setRow p0 #[.int .u8 0, .int .u8 0, .int .u8 0, .int .u8 0, .int .i64 0, .int .i64 0] = WF at *
    have lf := loadVar_blk (T := 30) HF.out Tryz.underlying30 rfl (by kernel_rfl)
    (try simp only [Exit.inBlock, Exit.then])
    refine bodyPost_ret (results_cell_tmp Tryz.results102 rfl rfl lf) rfl ?_
    exact ⟨by rw [HO2.out]; rfl, by rw [hp0]; exact HX.out⟩
end Go.Proofs.YtpkmibmombpjpaaGreatDoor
