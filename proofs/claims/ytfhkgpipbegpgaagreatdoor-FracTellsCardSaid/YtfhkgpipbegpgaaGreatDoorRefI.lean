/- The contract of the reference's Text. -/
import Derived.Test.YtfhkgpipbegpgaaGreatDoorRefH
namespace Go.Proofs.YtfhkgpipbegpgaaGreatDoor
open Go Go.RowKit

set_option maxRecDepth 100000 in
set_option maxHeartbeats 2000000 in
theorem rtext_bad (n d : Int) (hf : FB n d) (h : rightB n d = false) (w : World) :
    Calls Tryz.prog 29 #[.agg #[.int .i64 n, .int .i64 d]] w (RetS [] 2 w) := by
  have R1 := Lib.hid (fun W => rright_any n d hf W)
  rw [h] at R1
  have HR := Lib.hid (Blk.new w 23 #[.int .i64 n, .int .i64 d])
  have HB := Lib.hid (blw1 w (.cells #[.int .i64 n, .int .i64 d] 23))
  have c0 := HR.out.cell (j := 0) (v := .int .i64 n) rfl
  have c1 := HR.out.cell (j := 1) (v := .int .i64 d) rfl
  clear h hf
  go_enter Tryz.func29, Tryz.ntmps29
  go_wp2_with fail
  generalize w.alloc (.cells #[.int .i64 n, .int .i64 d] 23) = W1 at *
  refine (R1.out _).mono ?_
  rintro e w1 ⟨rfl, hb⟩
  have HB1 := Lib.hid (bchain HB.out hb)
  clear hb c0 c1
  go_wp2
  go_ret2
  exact retS_mk rfl HB1.out
theorem dec_short (n : Int) (h0 : -9223372036854775808 ≤ n) (h1 : n ≤ 9223372036854775807) : (Lib.decDigits n.natAbs).length ≤ 20 := dec_len _ (by omega)
theorem itoa_abs (n : Int) : Lib.itoa n = (if n < 0 then [45] else []) ++ Lib.decDigits n.natAbs := by
  unfold Lib.itoa
  split
  · rfl
  · rw [List.nil_append]; congr 1; omega
set_option maxRecDepth 100000 in
set_option maxHeartbeats 4000000 in
theorem rtext_ok (n d : Int) (hf : FB n d) (h : rightB n d = true) (w : World) :
    Calls Tryz.prog 29 #[.agg #[.int .i64 n, .int .i64 d]] w (RetS (textF n d) 0 w) := by
  have hd0 := right_pos h
  have R1 := Lib.hid (fun W => rright_any n d hf W)
  rw [h] at R1
  have k1 : nd n.natAbs ≤ 4 := by have := hf.n0; have := hf.n1; exact nd_64 (by omega)
  have k2 : nd d.natAbs ≤ 4 := by have := hf.d0; have := hf.d1; exact nd_64 (by omega)
  have l1 := dec_short n hf.n0 hf.n1
  have l2 := dec_short d hf.d0 hf.d1
  have W1 := Lib.hid (fun W => whole_any n hf.n0 hf.n1 W)
  have W2 := Lib.hid (fun W => whole_any d hf.d0 hf.d1 W)
  have D1 : Hid (∀ W A ca, Dg W A ca n.natAbs → Calls Tryz.prog 57 #[.slice A (nd n.natAbs) ca] W (RetStr (Lib.decDigits n.natAbs) W)) := Lib.hid fun W A ca h => decimal_any A ca _ (by omega) (by omega) W h
  have D2 : Hid (∀ W A ca, Dg W A ca d.natAbs → Calls Tryz.prog 57 #[.slice A (nd d.natAbs) ca] W (RetStr (Lib.decDigits d.natAbs) W)) := Lib.hid fun W A ca h => decimal_any A ca _ (by omega) (by omega) W h
  have HX : Hid (textF n d = ((if n < 0 then [45] else []) ++ Lib.decDigits n.natAbs) ++ if d = 1 then [] else 47 :: Lib.decDigits d.natAbs) := Lib.hid (by
    unfold textF
    rw [itoa_abs n, itoa_abs d, if_neg (by omega : ¬ d < 0)]; rfl)
  obtain ⟨T, hT⟩ : ∃ T, Lib.decDigits n.natAbs = T := ⟨_, rfl⟩
  obtain ⟨U, hU⟩ : ∃ T, Lib.decDigits d.natAbs = T := ⟨_, rfl⟩
  rw [hT] at D1 HX l1
  rw [hU] at D2 HX l2
  obtain ⟨N, hN⟩ : ∃ N, n.natAbs = N := ⟨_, rfl⟩
  obtain ⟨D, hD⟩ : ∃ N, d.natAbs = N := ⟨_, rfl⟩
  rw [hN] at W1 D1
  rw [hD] at W2 D2
  have HR := Lib.hid (Blk.new w 23 #[.int .i64 n, .int .i64 d])
  have HB := Lib.hid (blw1 w (.cells #[.int .i64 n, .int .i64 d] 23))
  have c0 := HR.out.cell (j := 0) (v := .int .i64 n) rfl
  have c1 := HR.out.cell (j := 1) (v := .int .i64 d) rfl
  have z1 : ¬ 9223372036854775807 < 1 + T.length := by omega
  have z2 : ¬ 9223372036854775807 < T.length + 1 := by omega
  have z3 : ¬ 9223372036854775807 < T.length + 1 + U.length := by omega
  have z4 : ¬ 9223372036854775807 < 1 + T.length + 1 := by omega
  have z5 : ¬ 9223372036854775807 < 1 + T.length + 1 + U.length := by omega
  clear h hf hT hU hN hD k1 k2
  go_enter Tryz.func29, Tryz.ntmps29
  go_wp2_with fail
  generalize w.alloc (.cells #[.int .i64 n, .int .i64 d] 23) = V1 at *
  refine (R1.out _).mono ?_
  rintro e w1 ⟨rfl, hb⟩
  have HB1 := Lib.hid (bchain HB.out hb)
  have HR1 := Lib.hid (HR.out.keep hb HR.out.lt)
  clear hb c0 c1 HB HR R1
  have c0 := HR1.out.cell (j := 0) (v := .int .i64 n) rfl
  go_wp2_with fail
  refine (W1.out _).mono ?_
  rintro e w2 ⟨A, ca, rfl, hA, hb⟩
  have HB2 := Lib.hid (bchain HB1.out hb)
  have HR2 := Lib.hid (HR1.out.keep hb HR1.out.lt)
  have HA := Lib.hid hA
  clear hb c0 HB1 HR1 W1 hA
  go_wp2_with fail
  refine (D1.out _ _ _ HA.out).mono ?_
  rintro e w3 ⟨rfl, hb⟩
  have HB3 := Lib.hid (bchain HB2.out hb)
  have HR3 := Lib.hid (HR2.out.keep hb HR2.out.lt)
  have c0 := HR3.out.cell (j := 0) (v := .int .i64 n) rfl
  have c1 := HR3.out.cell (j := 1) (v := .int .i64 d) rfl
  clear hb HB2 HR2 D1 HA
  by_cases hn : n < 0
  · by_cases hd1 : d = 1
    · have t1 : decide (n < 0) = true := decide_eq_true (by omega)
      have t2 : decide (1 < d) = false := decide_eq_false (by omega)
      have HY : Hid (textF n d = ([45] ++ T) ++ []) := Lib.hid (by rw [HX.out, if_pos (by omega : n < 0), if_pos (by omega : d = 1)])
      clear hn hd1 HX
      go_wp2
      go_ret2
      exact retS_mk (by rw [HY.out]; apply ByteArray.ext; simp) HB3.out
    · have t1 : decide (n < 0) = true := decide_eq_true (by omega)
      have t2 : decide (1 < d) = true := decide_eq_true (by omega)
      have HY : Hid (textF n d = ([45] ++ T) ++ (47 :: U)) := Lib.hid (by rw [HX.out, if_pos (by omega : n < 0), if_neg (by omega : ¬ d = 1)])
      clear hn hd1 HX
      go_wp2_with fail
      refine (W2.out _).mono ?_
      rintro e w4 ⟨B, cb, rfl, hB, hb⟩
      have HB4 := Lib.hid (bchain HB3.out hb)
      have HBB := Lib.hid hB
      clear hb hB
      go_wp2_with fail
      refine (D2.out _ _ _ HBB.out).mono ?_
      rintro e w5 ⟨rfl, hb⟩
      have HB5 := Lib.hid (bchain HB4.out hb)
      clear hb c0 c1 HR3 HBB
      go_wp2
      go_ret2
      exact retS_mk (by rw [HY.out]; apply ByteArray.ext; simp) HB5.out
  · by_cases hd1 : d = 1
    · have t1 : decide (n < 0) = false := decide_eq_false (by omega)
      have t2 : decide (1 < d) = false := decide_eq_false (by omega)
      have HY : Hid (textF n d = ([] ++ T) ++ []) := Lib.hid (by rw [HX.out, if_neg (by omega : ¬ n < 0), if_pos (by omega : d = 1)])
      clear hn hd1 HX
      go_wp2
      go_ret2
      exact retS_mk (by rw [HY.out]; apply ByteArray.ext; simp) HB3.out
    · have t1 : decide (n < 0) = false := decide_eq_false (by omega)
      have t2 : decide (1 < d) = true := decide_eq_true (by omega)
      have HY : Hid (textF n d = ([] ++ T) ++ (47 :: U)) := Lib.hid (by rw [HX.out, if_neg (by omega : ¬ n < 0), if_neg (by omega : ¬ d = 1)])
      clear hn hd1 HX
      go_wp2_with fail
      refine (W2.out _).mono ?_
      rintro e w4 ⟨B, cb, rfl, hB, hb⟩
      have HB4 := Lib.hid (bchain HB3.out hb)
      have HBB := Lib.hid hB
      clear hb hB
      go_wp2_with fail
      refine (D2.out _ _ _ HBB.out).mono ?_
      rintro e w5 ⟨rfl, hb⟩
      have HB5 := Lib.hid (bchain HB4.out hb)
      clear hb c0 c1 HR3 HBB
      go_wp2
      go_ret2
      exact retS_mk (by rw [HY.out]; apply ByteArray.ext; simp) HB5.out
end Go.Proofs.YtfhkgpipbegpgaaGreatDoor
