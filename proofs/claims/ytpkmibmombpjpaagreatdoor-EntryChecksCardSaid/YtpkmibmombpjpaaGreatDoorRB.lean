/- The reference's texts: outcomeText, Text. -/
import Derived.Test.YtpkmibmombpjpaaGreatDoorRA
import Derived.Test.YtpkmibmombpjpaaGreatDoorEX
import Derived.Test.YtpkmibmombpjpaaGreatDoorFlow5
set_option linter.unusedSimpArgs false
namespace Go.Proofs.YtpkmibmombpjpaaGreatDoor
open Go Go.RowKit

theorem Blk.kp2 {w w' : World} {b : Nat} {t : TypeId} {c : Array Value} (h : Blk w b t c) (hb : Below w.heap.size w w') : Blk w' b t c := h.keep hb h.lt
/-- Strings put together. -/
theorem exec_sadd {o : Oper} {w : World} {a : Act} {U : TypeId} {x y : Operand} {l m : List UInt8} (ho : o.op = .binOp .add 9 x y U) (hx : a.eval x = .string (bS l)) (hy : a.eval y = .string (bS m)) (h : l.length + m.length ≤ 1000000000) :
    (execOp a.eval o).run Tryz.prog w = .ok (.value (.string (bS (l ++ m)))) w := by
  have e1 : ¬ 9223372036854775807 < (bS l).size + (bS m).size := by rw [bS_size, bS_size]; omega
  rw [← bS_app l m]
  generalize bS l = L at *
  generalize bS m = M at *
  simp only [execOp, ho, hx, hy]
  go_simp
set_option maxRecDepth 100000 in
set_option maxHeartbeats 4000000 in
theorem routt_any (o : Ou) (ho : o.In) (w : World) (he : Env w) : Calls Tryz.prog 53 #[ouV o] w (fun e w' => e = .returned (.string (bS o.txt)) ∧ Below w.heap.size w w') := by
  have HE := Lib.hid he
  have k1 : IntKind.i64.wrap (o.lv : Int) = (o.lv : Int) := IntWalk.i64_in _ (by have := ho.lv; omega)
  have k2 : IntKind.i64.wrap (o.dn : Int) = (o.dn : Int) := IntWalk.i64_in _ (by have := ho.dn; omega)
  have k3 : IntKind.i64.wrap (o.rk : Int) = (o.rk : Int) := IntWalk.i64_in _ (by have := ho.rk; omega)
  have k4 : IntKind.i64.wrap (o.dc : Int) = (o.dc : Int) := IntWalk.i64_in _ (by have := ho.dc; omega)
  have in8 : ∀ n : Nat, n < 256 → inI (n : Int) := fun n h => ⟨by omega, by omega⟩
  have IA := Lib.hid (fun W (h : Env W) => itoa_any (o.lv : Int) W h (in8 _ ho.lv))
  have IB := Lib.hid (fun W (h : Env W) => itoa_any (o.dn : Int) W h (in8 _ ho.dn))
  have IC := Lib.hid (fun W (h : Env W) => itoa_any (o.rk : Int) W h (in8 _ ho.rk))
  have ID := Lib.hid (fun W (h : Env W) => itoa_any (o.dc : Int) W h (in8 _ ho.dc))
  have IE := Lib.hid (fun W (h : Env W) => itoa_any o.tr W h ho.tr)
  have IW := Lib.hid (fun W (h : Env W) => itoa_any o.wt W h ho.wt)
  have lA := itoa_len (o.lv : Int) (in8 _ ho.lv)
  have lB := itoa_len (o.dn : Int) (in8 _ ho.dn)
  have lC := itoa_len (o.rk : Int) (in8 _ ho.rk)
  have lD := itoa_len (o.dc : Int) (in8 _ ho.dc)
  have lE := itoa_len o.tr ho.tr
  have lW := itoa_len o.wt ho.wt
  have HTX : Hid (o.txt = if o.wt = 0 then ((((((((Lib.itoa o.lv ++ [46]) ++ Lib.itoa o.dn) ++ [46]) ++ Lib.itoa o.rk) ++ [46]) ++ Lib.itoa o.dc) ++ [46]) ++ Lib.itoa o.tr) else ((((((((((Lib.itoa o.lv ++ [46]) ++ Lib.itoa o.dn) ++ [46]) ++ Lib.itoa o.rk) ++ [46]) ++ Lib.itoa o.dc) ++ [46]) ++ Lib.itoa o.tr) ++ [58]) ++ Lib.itoa o.wt)) := Lib.hid (by
    unfold Ou.txt Ou.parts
    split <;> simp [jn, List.flatMap_cons])
  generalize o.txt = TX at *
  unfold ouV
  generalize Lib.itoa (o.lv : Int) = A at *
  generalize Lib.itoa (o.dn : Int) = B at *
  generalize Lib.itoa (o.rk : Int) = C at *
  generalize Lib.itoa (o.dc : Int) = D at *
  generalize Lib.itoa o.tr = E at *
  generalize Lib.itoa o.wt = WT at *
  generalize o.lv = a at *
  generalize o.dn = b at *
  generalize o.rk = c at *
  generalize o.dc = d at *
  generalize o.tr = t at *
  generalize o.wt = wt at *
  clear he ho in8
  go_enter Tryz.func53, Tryz.ntmps53
  go_upto_region 2 with fail
  have HA := Lib.hid ((Blk.new w 30 #[.int .u8 (a : Int), .int .u8 (b : Int), .int .u8 (c : Int), .int .u8 (d : Int), .int .i64 t, .int .i64 wt]).alloc (.cells #[.int .u8 (a : Int), .int .u8 (b : Int), .int .u8 (c : Int), .int .u8 (d : Int)] 28))
  have HC := Lib.hid (Blk.new (w.alloc (.cells #[.int .u8 (a : Int), .int .u8 (b : Int), .int .u8 (c : Int), .int .u8 (d : Int), .int .i64 t, .int .i64 wt] 30)) 28 #[.int .u8 (a : Int), .int .u8 (b : Int), .int .u8 (c : Int), .int .u8 (d : Int)])
  have HW := Lib.hid (below2 w (.cells #[.int .u8 (a : Int), .int .u8 (b : Int), .int .u8 (c : Int), .int .u8 (d : Int), .int .i64 t, .int .i64 wt] 30) (.cells #[.int .u8 (a : Int), .int .u8 (b : Int), .int .u8 (c : Int), .int .u8 (d : Int)] 28))
  rw [size_al] at HC
  generalize (w.alloc (.cells #[.int .u8 (a : Int), .int .u8 (b : Int), .int .u8 (c : Int), .int .u8 (d : Int), .int .i64 t, .int .i64 wt] 30)).alloc (.cells #[.int .u8 (a : Int), .int .u8 (b : Int), .int .u8 (c : Int), .int .u8 (d : Int)] 28) = W1 at *
  have HE1 := Lib.hid (HE.out.keep HW.out)
  obtain ⟨pc, hpc⟩ : ∃ p, w.heap.size + 1 = p := ⟨_, rfl⟩
  obtain ⟨po, hpo⟩ : ∃ p, w.heap.size = p := ⟨_, rfl⟩
  rw [hpc] at HC ⊢
  rw [hpo] at HA ⊢
  clear hpc hpo HE
  refine rest_begin (by kernel_rfl) ?_
  have HA2 : Hid (Blk W1.drew po 30 _) := HA
  have HC2 : Hid (Blk W1.drew pc 28 _) := HC
  have HE2 := Lib.hid (HE1.out.keep (Below.refl _ W1).drew)
  have HW2 := Lib.hid HW.out.drew
  clear HA HC HE1 HW
  generalize W1.drew = W2 at *
  clear W1
  refine rest_flow3 [some 7, some 8, some 9, some 10, some 11, some 12, some 13, some 14, some 15, some 16, some 17, some 18, some 19, some 20, some 21, some 22, some 23, some 24, some 25, some 26, some 27, some 28, some 29, some 30, some 31, some 32, some 33] [Sp.is (.pointer (some ⟨pc, 0, none⟩)), Sp.is (.int .u8 (a : Int)), Sp.is (.int .i64 (a : Int)), Sp.is (.string (bS A)), Sp.is (.string (bS (A ++ [46]))), Sp.is (.pointer (some ⟨pc, 1, none⟩)), Sp.is (.int .u8 (b : Int)), Sp.is (.int .i64 (b : Int)), Sp.is (.string (bS B)), Sp.is (.string (bS ((A ++ [46]) ++ B))), Sp.is (.string (bS (((A ++ [46]) ++ B) ++ [46]))), Sp.is (.pointer (some ⟨pc, 2, none⟩)), Sp.is (.int .u8 (c : Int)), Sp.is (.int .i64 (c : Int)), Sp.is (.string (bS C)), Sp.is (.string (bS ((((A ++ [46]) ++ B) ++ [46]) ++ C))), Sp.is (.string (bS (((((A ++ [46]) ++ B) ++ [46]) ++ C) ++ [46]))), Sp.is (.pointer (some ⟨pc, 3, none⟩)), Sp.is (.int .u8 (d : Int)), Sp.is (.int .i64 (d : Int)), Sp.is (.string (bS D)), Sp.is (.string (bS ((((((A ++ [46]) ++ B) ++ [46]) ++ C) ++ [46]) ++ D))), Sp.is (.string (bS (((((((A ++ [46]) ++ B) ++ [46]) ++ C) ++ [46]) ++ D) ++ [46]))), Sp.is (.pointer (some ⟨po, 4, none⟩)), Sp.is (.int .i64 t), Sp.is (.string (bS E)), Sp.is (.string (bS ((((((((A ++ [46]) ++ B) ++ [46]) ++ C) ++ [46]) ++ D) ++ [46]) ++ E)))] [false, false, false, false, false, false, false, false, false, false, false, false, false, false, false, false, false, false, false, false, false, false, false, false, false, false, false] 27 (by kernel_rfl) (by kernel_rfl) (fun u F hF => ?_) (fun u w' hbF hsF hold hap => ?_)
  case refine_1 =>
    have E3 : F.eval (.tmp 3) = (.pointer (some ⟨pc, 0, none⟩)) := (congrArg (fun a => Act.eval a (.tmp 3)) hF).trans (eval_out [some 7, some 8, some 9, some 10, some 11, some 12, some 13, some 14, some 15, some 16, some 17, some 18, some 19, some 20, some 21, some 22, some 23, some 24, some 25, some 26, some 27, some 28, some 29, some 30, some 31, some 32, some 33] 0 _ (by decide))
    have D7 : F.eval (.tmp 7) = u 0 := (congrArg (fun a => Act.eval a (.tmp 7)) hF).trans (eval_in [some 7, some 8, some 9, some 10, some 11, some 12, some 13, some 14, some 15, some 16, some 17, some 18, some 19, some 20, some 21, some 22, some 23, some 24, some 25, some 26, some 27, some 28, some 29, some 30, some 31, some 32, some 33] 0 0 _ (by decide) (by omega) rfl (of_decide_eq_true (by kernel_rfl)))
    have D8 : F.eval (.tmp 8) = u 1 := (congrArg (fun a => Act.eval a (.tmp 8)) hF).trans (eval_in [some 7, some 8, some 9, some 10, some 11, some 12, some 13, some 14, some 15, some 16, some 17, some 18, some 19, some 20, some 21, some 22, some 23, some 24, some 25, some 26, some 27, some 28, some 29, some 30, some 31, some 32, some 33] 0 1 _ (by decide) (by omega) rfl (of_decide_eq_true (by kernel_rfl)))
    have D9 : F.eval (.tmp 9) = u 2 := (congrArg (fun a => Act.eval a (.tmp 9)) hF).trans (eval_in [some 7, some 8, some 9, some 10, some 11, some 12, some 13, some 14, some 15, some 16, some 17, some 18, some 19, some 20, some 21, some 22, some 23, some 24, some 25, some 26, some 27, some 28, some 29, some 30, some 31, some 32, some 33] 0 2 _ (by decide) (by omega) rfl (of_decide_eq_true (by kernel_rfl)))
    have D10 : F.eval (.tmp 10) = u 3 := (congrArg (fun a => Act.eval a (.tmp 10)) hF).trans (eval_in [some 7, some 8, some 9, some 10, some 11, some 12, some 13, some 14, some 15, some 16, some 17, some 18, some 19, some 20, some 21, some 22, some 23, some 24, some 25, some 26, some 27, some 28, some 29, some 30, some 31, some 32, some 33] 0 3 _ (by decide) (by omega) rfl (of_decide_eq_true (by kernel_rfl)))
    have D12 : F.eval (.tmp 12) = u 5 := (congrArg (fun a => Act.eval a (.tmp 12)) hF).trans (eval_in [some 7, some 8, some 9, some 10, some 11, some 12, some 13, some 14, some 15, some 16, some 17, some 18, some 19, some 20, some 21, some 22, some 23, some 24, some 25, some 26, some 27, some 28, some 29, some 30, some 31, some 32, some 33] 0 5 _ (by decide) (by omega) rfl (of_decide_eq_true (by kernel_rfl)))
    have D13 : F.eval (.tmp 13) = u 6 := (congrArg (fun a => Act.eval a (.tmp 13)) hF).trans (eval_in [some 7, some 8, some 9, some 10, some 11, some 12, some 13, some 14, some 15, some 16, some 17, some 18, some 19, some 20, some 21, some 22, some 23, some 24, some 25, some 26, some 27, some 28, some 29, some 30, some 31, some 32, some 33] 0 6 _ (by decide) (by omega) rfl (of_decide_eq_true (by kernel_rfl)))
    have D14 : F.eval (.tmp 14) = u 7 := (congrArg (fun a => Act.eval a (.tmp 14)) hF).trans (eval_in [some 7, some 8, some 9, some 10, some 11, some 12, some 13, some 14, some 15, some 16, some 17, some 18, some 19, some 20, some 21, some 22, some 23, some 24, some 25, some 26, some 27, some 28, some 29, some 30, some 31, some 32, some 33] 0 7 _ (by decide) (by omega) rfl (of_decide_eq_true (by kernel_rfl)))
    have D11 : F.eval (.tmp 11) = u 4 := (congrArg (fun a => Act.eval a (.tmp 11)) hF).trans (eval_in [some 7, some 8, some 9, some 10, some 11, some 12, some 13, some 14, some 15, some 16, some 17, some 18, some 19, some 20, some 21, some 22, some 23, some 24, some 25, some 26, some 27, some 28, some 29, some 30, some 31, some 32, some 33] 0 4 _ (by decide) (by omega) rfl (of_decide_eq_true (by kernel_rfl)))
    have D15 : F.eval (.tmp 15) = u 8 := (congrArg (fun a => Act.eval a (.tmp 15)) hF).trans (eval_in [some 7, some 8, some 9, some 10, some 11, some 12, some 13, some 14, some 15, some 16, some 17, some 18, some 19, some 20, some 21, some 22, some 23, some 24, some 25, some 26, some 27, some 28, some 29, some 30, some 31, some 32, some 33] 0 8 _ (by decide) (by omega) rfl (of_decide_eq_true (by kernel_rfl)))
    have D16 : F.eval (.tmp 16) = u 9 := (congrArg (fun a => Act.eval a (.tmp 16)) hF).trans (eval_in [some 7, some 8, some 9, some 10, some 11, some 12, some 13, some 14, some 15, some 16, some 17, some 18, some 19, some 20, some 21, some 22, some 23, some 24, some 25, some 26, some 27, some 28, some 29, some 30, some 31, some 32, some 33] 0 9 _ (by decide) (by omega) rfl (of_decide_eq_true (by kernel_rfl)))
    have D18 : F.eval (.tmp 18) = u 11 := (congrArg (fun a => Act.eval a (.tmp 18)) hF).trans (eval_in [some 7, some 8, some 9, some 10, some 11, some 12, some 13, some 14, some 15, some 16, some 17, some 18, some 19, some 20, some 21, some 22, some 23, some 24, some 25, some 26, some 27, some 28, some 29, some 30, some 31, some 32, some 33] 0 11 _ (by decide) (by omega) rfl (of_decide_eq_true (by kernel_rfl)))
    have D19 : F.eval (.tmp 19) = u 12 := (congrArg (fun a => Act.eval a (.tmp 19)) hF).trans (eval_in [some 7, some 8, some 9, some 10, some 11, some 12, some 13, some 14, some 15, some 16, some 17, some 18, some 19, some 20, some 21, some 22, some 23, some 24, some 25, some 26, some 27, some 28, some 29, some 30, some 31, some 32, some 33] 0 12 _ (by decide) (by omega) rfl (of_decide_eq_true (by kernel_rfl)))
    have D20 : F.eval (.tmp 20) = u 13 := (congrArg (fun a => Act.eval a (.tmp 20)) hF).trans (eval_in [some 7, some 8, some 9, some 10, some 11, some 12, some 13, some 14, some 15, some 16, some 17, some 18, some 19, some 20, some 21, some 22, some 23, some 24, some 25, some 26, some 27, some 28, some 29, some 30, some 31, some 32, some 33] 0 13 _ (by decide) (by omega) rfl (of_decide_eq_true (by kernel_rfl)))
    have D17 : F.eval (.tmp 17) = u 10 := (congrArg (fun a => Act.eval a (.tmp 17)) hF).trans (eval_in [some 7, some 8, some 9, some 10, some 11, some 12, some 13, some 14, some 15, some 16, some 17, some 18, some 19, some 20, some 21, some 22, some 23, some 24, some 25, some 26, some 27, some 28, some 29, some 30, some 31, some 32, some 33] 0 10 _ (by decide) (by omega) rfl (of_decide_eq_true (by kernel_rfl)))
    have D21 : F.eval (.tmp 21) = u 14 := (congrArg (fun a => Act.eval a (.tmp 21)) hF).trans (eval_in [some 7, some 8, some 9, some 10, some 11, some 12, some 13, some 14, some 15, some 16, some 17, some 18, some 19, some 20, some 21, some 22, some 23, some 24, some 25, some 26, some 27, some 28, some 29, some 30, some 31, some 32, some 33] 0 14 _ (by decide) (by omega) rfl (of_decide_eq_true (by kernel_rfl)))
    have D22 : F.eval (.tmp 22) = u 15 := (congrArg (fun a => Act.eval a (.tmp 22)) hF).trans (eval_in [some 7, some 8, some 9, some 10, some 11, some 12, some 13, some 14, some 15, some 16, some 17, some 18, some 19, some 20, some 21, some 22, some 23, some 24, some 25, some 26, some 27, some 28, some 29, some 30, some 31, some 32, some 33] 0 15 _ (by decide) (by omega) rfl (of_decide_eq_true (by kernel_rfl)))
    have D24 : F.eval (.tmp 24) = u 17 := (congrArg (fun a => Act.eval a (.tmp 24)) hF).trans (eval_in [some 7, some 8, some 9, some 10, some 11, some 12, some 13, some 14, some 15, some 16, some 17, some 18, some 19, some 20, some 21, some 22, some 23, some 24, some 25, some 26, some 27, some 28, some 29, some 30, some 31, some 32, some 33] 0 17 _ (by decide) (by omega) rfl (of_decide_eq_true (by kernel_rfl)))
    have D25 : F.eval (.tmp 25) = u 18 := (congrArg (fun a => Act.eval a (.tmp 25)) hF).trans (eval_in [some 7, some 8, some 9, some 10, some 11, some 12, some 13, some 14, some 15, some 16, some 17, some 18, some 19, some 20, some 21, some 22, some 23, some 24, some 25, some 26, some 27, some 28, some 29, some 30, some 31, some 32, some 33] 0 18 _ (by decide) (by omega) rfl (of_decide_eq_true (by kernel_rfl)))
    have D26 : F.eval (.tmp 26) = u 19 := (congrArg (fun a => Act.eval a (.tmp 26)) hF).trans (eval_in [some 7, some 8, some 9, some 10, some 11, some 12, some 13, some 14, some 15, some 16, some 17, some 18, some 19, some 20, some 21, some 22, some 23, some 24, some 25, some 26, some 27, some 28, some 29, some 30, some 31, some 32, some 33] 0 19 _ (by decide) (by omega) rfl (of_decide_eq_true (by kernel_rfl)))
    have D23 : F.eval (.tmp 23) = u 16 := (congrArg (fun a => Act.eval a (.tmp 23)) hF).trans (eval_in [some 7, some 8, some 9, some 10, some 11, some 12, some 13, some 14, some 15, some 16, some 17, some 18, some 19, some 20, some 21, some 22, some 23, some 24, some 25, some 26, some 27, some 28, some 29, some 30, some 31, some 32, some 33] 0 16 _ (by decide) (by omega) rfl (of_decide_eq_true (by kernel_rfl)))
    have D27 : F.eval (.tmp 27) = u 20 := (congrArg (fun a => Act.eval a (.tmp 27)) hF).trans (eval_in [some 7, some 8, some 9, some 10, some 11, some 12, some 13, some 14, some 15, some 16, some 17, some 18, some 19, some 20, some 21, some 22, some 23, some 24, some 25, some 26, some 27, some 28, some 29, some 30, some 31, some 32, some 33] 0 20 _ (by decide) (by omega) rfl (of_decide_eq_true (by kernel_rfl)))
    have D28 : F.eval (.tmp 28) = u 21 := (congrArg (fun a => Act.eval a (.tmp 28)) hF).trans (eval_in [some 7, some 8, some 9, some 10, some 11, some 12, some 13, some 14, some 15, some 16, some 17, some 18, some 19, some 20, some 21, some 22, some 23, some 24, some 25, some 26, some 27, some 28, some 29, some 30, some 31, some 32, some 33] 0 21 _ (by decide) (by omega) rfl (of_decide_eq_true (by kernel_rfl)))
    have E1 : F.eval (.tmp 1) = (.pointer (some ⟨po, 0, none⟩)) := (congrArg (fun a => Act.eval a (.tmp 1)) hF).trans (eval_out [some 7, some 8, some 9, some 10, some 11, some 12, some 13, some 14, some 15, some 16, some 17, some 18, some 19, some 20, some 21, some 22, some 23, some 24, some 25, some 26, some 27, some 28, some 29, some 30, some 31, some 32, some 33] 0 _ (by decide))
    have D30 : F.eval (.tmp 30) = u 23 := (congrArg (fun a => Act.eval a (.tmp 30)) hF).trans (eval_in [some 7, some 8, some 9, some 10, some 11, some 12, some 13, some 14, some 15, some 16, some 17, some 18, some 19, some 20, some 21, some 22, some 23, some 24, some 25, some 26, some 27, some 28, some 29, some 30, some 31, some 32, some 33] 0 23 _ (by decide) (by omega) rfl (of_decide_eq_true (by kernel_rfl)))
    have D31 : F.eval (.tmp 31) = u 24 := (congrArg (fun a => Act.eval a (.tmp 31)) hF).trans (eval_in [some 7, some 8, some 9, some 10, some 11, some 12, some 13, some 14, some 15, some 16, some 17, some 18, some 19, some 20, some 21, some 22, some 23, some 24, some 25, some 26, some 27, some 28, some 29, some 30, some 31, some 32, some 33] 0 24 _ (by decide) (by omega) rfl (of_decide_eq_true (by kernel_rfl)))
    have D29 : F.eval (.tmp 29) = u 22 := (congrArg (fun a => Act.eval a (.tmp 29)) hF).trans (eval_in [some 7, some 8, some 9, some 10, some 11, some 12, some 13, some 14, some 15, some 16, some 17, some 18, some 19, some 20, some 21, some 22, some 23, some 24, some 25, some 26, some 27, some 28, some 29, some 30, some 31, some 32, some 33] 0 22 _ (by decide) (by omega) rfl (of_decide_eq_true (by kernel_rfl)))
    have D32 : F.eval (.tmp 32) = u 25 := (congrArg (fun a => Act.eval a (.tmp 32)) hF).trans (eval_in [some 7, some 8, some 9, some 10, some 11, some 12, some 13, some 14, some 15, some 16, some 17, some 18, some 19, some 20, some 21, some 22, some 23, some 24, some 25, some 26, some 27, some 28, some 29, some 30, some 31, some 32, some 33] 0 25 _ (by decide) (by omega) rfl (of_decide_eq_true (by kernel_rfl)))
    clear hF
    refine ⟨?_, ?_, ?_, ?_, ?_, ?_, ?_, ?_, ?_, ?_, ?_, ?_, ?_, ?_, ?_, ?_, ?_, ?_, ?_, ?_, ?_, ?_, ?_, ?_, ?_, ?_, ?_, trivial⟩
    · intro w1 hb hd K hK
      have e3 := E3
      exact op_val (v := (.pointer (some ⟨pc, 0, none⟩))) rfl (by simp only [execOp, List.map_toArray, List.map_cons, List.map_nil, e3]; go_simp) (hK _ _ (show _ = _ from rfl) (Below.refl _ _) (Fresh.no _ _ _))
    · intro w1 hb hd K hK
      have e7 := D7.trans (show u 0 = (.pointer (some ⟨pc, 0, none⟩)) from hd ⟨0, .data⟩ (by simp) rfl (by omega))
      have c0 : w1.cell? ⟨pc, 0, none⟩ = some (.int .u8 (a : Int)) := (HC2.out.keep hb HC2.out.lt).cell (j := 0) rfl
      exact op_val (v := (.int .u8 (a : Int))) rfl (by simp only [execOp, e7]; go_simp) (hK _ _ (show _ = _ from rfl) (Below.refl _ _) (Fresh.no _ _ _))
    · intro w1 hb hd K hK
      have e8 := D8.trans (show u 1 = (.int .u8 (a : Int)) from hd ⟨1, .data⟩ (by simp) rfl (by omega))
      exact op_val (v := (.int .i64 (a : Int))) rfl (by simp only [execOp, List.map_toArray, List.map_cons, List.map_nil, e8]; go_simp) (hK _ _ (show _ = _ from rfl) (Below.refl _ _) (Fresh.no _ _ _))
    · intro w1 hb hd K hK
      have e9 := D9.trans (show u 2 = (.int .i64 (a : Int)) from hd ⟨2, .data⟩ (by simp) rfl (by omega))
      refine op_call (R := fun v w2 => v = (.string (bS A)) ∧ Below w1.heap.size w1 w2) (f := 52) (args := #[.int .i64 (a : Int)]) rfl (by simp only [execOp]; go_simp; first | exact eval_get e9 | exact ⟨rfl, eval_get e9⟩ | exact ⟨eval_get e9, rfl⟩ | (simp only [Act.eval] at *; simp_all)) ((IA.out w1 (HE2.out.keep hb)).mono fun e w2 hh => ⟨_, hh.1, rfl, hh.2⟩) (fun v w2 hh => hK _ _ hh.1 hh.2 (Fresh.no _ _ _))
    · intro w1 hb hd K hK
      have e10 := D10.trans (show u 3 = (.string (bS A)) from hd ⟨3, .data⟩ (by simp) rfl (by omega))
      exact op_val (v := (.string (bS (A ++ [46])))) rfl (exec_sadd (l := A) (m := [46]) rfl e10 rfl (by simp only [List.length_append, List.length_cons, List.length_nil]; omega)) (hK _ _ (show _ = _ from rfl) (Below.refl _ _) (Fresh.no _ _ _))
    · intro w1 hb hd K hK
      have e3 := E3
      exact op_val (v := (.pointer (some ⟨pc, 1, none⟩))) rfl (by simp only [execOp, List.map_toArray, List.map_cons, List.map_nil, e3]; go_simp) (hK _ _ (show _ = _ from rfl) (Below.refl _ _) (Fresh.no _ _ _))
    · intro w1 hb hd K hK
      have e12 := D12.trans (show u 5 = (.pointer (some ⟨pc, 1, none⟩)) from hd ⟨5, .data⟩ (by simp) rfl (by omega))
      have c0 : w1.cell? ⟨pc, 1, none⟩ = some (.int .u8 (b : Int)) := (HC2.out.keep hb HC2.out.lt).cell (j := 1) rfl
      exact op_val (v := (.int .u8 (b : Int))) rfl (by simp only [execOp, e12]; go_simp) (hK _ _ (show _ = _ from rfl) (Below.refl _ _) (Fresh.no _ _ _))
    · intro w1 hb hd K hK
      have e13 := D13.trans (show u 6 = (.int .u8 (b : Int)) from hd ⟨6, .data⟩ (by simp) rfl (by omega))
      exact op_val (v := (.int .i64 (b : Int))) rfl (by simp only [execOp, List.map_toArray, List.map_cons, List.map_nil, e13]; go_simp) (hK _ _ (show _ = _ from rfl) (Below.refl _ _) (Fresh.no _ _ _))
    · intro w1 hb hd K hK
      have e14 := D14.trans (show u 7 = (.int .i64 (b : Int)) from hd ⟨7, .data⟩ (by simp) rfl (by omega))
      refine op_call (R := fun v w2 => v = (.string (bS B)) ∧ Below w1.heap.size w1 w2) (f := 52) (args := #[.int .i64 (b : Int)]) rfl (by simp only [execOp]; go_simp; first | exact eval_get e14 | exact ⟨rfl, eval_get e14⟩ | exact ⟨eval_get e14, rfl⟩ | (simp only [Act.eval] at *; simp_all)) ((IB.out w1 (HE2.out.keep hb)).mono fun e w2 hh => ⟨_, hh.1, rfl, hh.2⟩) (fun v w2 hh => hK _ _ hh.1 hh.2 (Fresh.no _ _ _))
    · intro w1 hb hd K hK
      have e11 := D11.trans (show u 4 = (.string (bS (A ++ [46]))) from hd ⟨4, .data⟩ (by simp) rfl (by omega))
      have e15 := D15.trans (show u 8 = (.string (bS B)) from hd ⟨8, .data⟩ (by simp) rfl (by omega))
      exact op_val (v := (.string (bS ((A ++ [46]) ++ B)))) rfl (exec_sadd (l := (A ++ [46])) (m := B) rfl e11 e15 (by simp only [List.length_append, List.length_cons, List.length_nil]; omega)) (hK _ _ (show _ = _ from rfl) (Below.refl _ _) (Fresh.no _ _ _))
    · intro w1 hb hd K hK
      have e16 := D16.trans (show u 9 = (.string (bS ((A ++ [46]) ++ B))) from hd ⟨9, .data⟩ (by simp) rfl (by omega))
      exact op_val (v := (.string (bS (((A ++ [46]) ++ B) ++ [46])))) rfl (exec_sadd (l := ((A ++ [46]) ++ B)) (m := [46]) rfl e16 rfl (by simp only [List.length_append, List.length_cons, List.length_nil]; omega)) (hK _ _ (show _ = _ from rfl) (Below.refl _ _) (Fresh.no _ _ _))
    · intro w1 hb hd K hK
      have e3 := E3
      exact op_val (v := (.pointer (some ⟨pc, 2, none⟩))) rfl (by simp only [execOp, List.map_toArray, List.map_cons, List.map_nil, e3]; go_simp) (hK _ _ (show _ = _ from rfl) (Below.refl _ _) (Fresh.no _ _ _))
    · intro w1 hb hd K hK
      have e18 := D18.trans (show u 11 = (.pointer (some ⟨pc, 2, none⟩)) from hd ⟨11, .data⟩ (by simp) rfl (by omega))
      have c0 : w1.cell? ⟨pc, 2, none⟩ = some (.int .u8 (c : Int)) := (HC2.out.keep hb HC2.out.lt).cell (j := 2) rfl
      exact op_val (v := (.int .u8 (c : Int))) rfl (by simp only [execOp, e18]; go_simp) (hK _ _ (show _ = _ from rfl) (Below.refl _ _) (Fresh.no _ _ _))
    · intro w1 hb hd K hK
      have e19 := D19.trans (show u 12 = (.int .u8 (c : Int)) from hd ⟨12, .data⟩ (by simp) rfl (by omega))
      exact op_val (v := (.int .i64 (c : Int))) rfl (by simp only [execOp, List.map_toArray, List.map_cons, List.map_nil, e19]; go_simp) (hK _ _ (show _ = _ from rfl) (Below.refl _ _) (Fresh.no _ _ _))
    · intro w1 hb hd K hK
      have e20 := D20.trans (show u 13 = (.int .i64 (c : Int)) from hd ⟨13, .data⟩ (by simp) rfl (by omega))
      refine op_call (R := fun v w2 => v = (.string (bS C)) ∧ Below w1.heap.size w1 w2) (f := 52) (args := #[.int .i64 (c : Int)]) rfl (by simp only [execOp]; go_simp; first | exact eval_get e20 | exact ⟨rfl, eval_get e20⟩ | exact ⟨eval_get e20, rfl⟩ | (simp only [Act.eval] at *; simp_all)) ((IC.out w1 (HE2.out.keep hb)).mono fun e w2 hh => ⟨_, hh.1, rfl, hh.2⟩) (fun v w2 hh => hK _ _ hh.1 hh.2 (Fresh.no _ _ _))
    · intro w1 hb hd K hK
      have e17 := D17.trans (show u 10 = (.string (bS (((A ++ [46]) ++ B) ++ [46]))) from hd ⟨10, .data⟩ (by simp) rfl (by omega))
      have e21 := D21.trans (show u 14 = (.string (bS C)) from hd ⟨14, .data⟩ (by simp) rfl (by omega))
      exact op_val (v := (.string (bS ((((A ++ [46]) ++ B) ++ [46]) ++ C)))) rfl (exec_sadd (l := (((A ++ [46]) ++ B) ++ [46])) (m := C) rfl e17 e21 (by simp only [List.length_append, List.length_cons, List.length_nil]; omega)) (hK _ _ (show _ = _ from rfl) (Below.refl _ _) (Fresh.no _ _ _))
    · intro w1 hb hd K hK
      have e22 := D22.trans (show u 15 = (.string (bS ((((A ++ [46]) ++ B) ++ [46]) ++ C))) from hd ⟨15, .data⟩ (by simp) rfl (by omega))
      exact op_val (v := (.string (bS (((((A ++ [46]) ++ B) ++ [46]) ++ C) ++ [46])))) rfl (exec_sadd (l := ((((A ++ [46]) ++ B) ++ [46]) ++ C)) (m := [46]) rfl e22 rfl (by simp only [List.length_append, List.length_cons, List.length_nil]; omega)) (hK _ _ (show _ = _ from rfl) (Below.refl _ _) (Fresh.no _ _ _))
    · intro w1 hb hd K hK
      have e3 := E3
      exact op_val (v := (.pointer (some ⟨pc, 3, none⟩))) rfl (by simp only [execOp, List.map_toArray, List.map_cons, List.map_nil, e3]; go_simp) (hK _ _ (show _ = _ from rfl) (Below.refl _ _) (Fresh.no _ _ _))
    · intro w1 hb hd K hK
      have e24 := D24.trans (show u 17 = (.pointer (some ⟨pc, 3, none⟩)) from hd ⟨17, .data⟩ (by simp) rfl (by omega))
      have c0 : w1.cell? ⟨pc, 3, none⟩ = some (.int .u8 (d : Int)) := (HC2.out.keep hb HC2.out.lt).cell (j := 3) rfl
      exact op_val (v := (.int .u8 (d : Int))) rfl (by simp only [execOp, e24]; go_simp) (hK _ _ (show _ = _ from rfl) (Below.refl _ _) (Fresh.no _ _ _))
    · intro w1 hb hd K hK
      have e25 := D25.trans (show u 18 = (.int .u8 (d : Int)) from hd ⟨18, .data⟩ (by simp) rfl (by omega))
      exact op_val (v := (.int .i64 (d : Int))) rfl (by simp only [execOp, List.map_toArray, List.map_cons, List.map_nil, e25]; go_simp) (hK _ _ (show _ = _ from rfl) (Below.refl _ _) (Fresh.no _ _ _))
    · intro w1 hb hd K hK
      have e26 := D26.trans (show u 19 = (.int .i64 (d : Int)) from hd ⟨19, .data⟩ (by simp) rfl (by omega))
      refine op_call (R := fun v w2 => v = (.string (bS D)) ∧ Below w1.heap.size w1 w2) (f := 52) (args := #[.int .i64 (d : Int)]) rfl (by simp only [execOp]; go_simp; first | exact eval_get e26 | exact ⟨rfl, eval_get e26⟩ | exact ⟨eval_get e26, rfl⟩ | (simp only [Act.eval] at *; simp_all)) ((ID.out w1 (HE2.out.keep hb)).mono fun e w2 hh => ⟨_, hh.1, rfl, hh.2⟩) (fun v w2 hh => hK _ _ hh.1 hh.2 (Fresh.no _ _ _))
    · intro w1 hb hd K hK
      have e23 := D23.trans (show u 16 = (.string (bS (((((A ++ [46]) ++ B) ++ [46]) ++ C) ++ [46]))) from hd ⟨16, .data⟩ (by simp) rfl (by omega))
      have e27 := D27.trans (show u 20 = (.string (bS D)) from hd ⟨20, .data⟩ (by simp) rfl (by omega))
      exact op_val (v := (.string (bS ((((((A ++ [46]) ++ B) ++ [46]) ++ C) ++ [46]) ++ D)))) rfl (exec_sadd (l := (((((A ++ [46]) ++ B) ++ [46]) ++ C) ++ [46])) (m := D) rfl e23 e27 (by simp only [List.length_append, List.length_cons, List.length_nil]; omega)) (hK _ _ (show _ = _ from rfl) (Below.refl _ _) (Fresh.no _ _ _))
    · intro w1 hb hd K hK
      have e28 := D28.trans (show u 21 = (.string (bS ((((((A ++ [46]) ++ B) ++ [46]) ++ C) ++ [46]) ++ D))) from hd ⟨21, .data⟩ (by simp) rfl (by omega))
      exact op_val (v := (.string (bS (((((((A ++ [46]) ++ B) ++ [46]) ++ C) ++ [46]) ++ D) ++ [46])))) rfl (exec_sadd (l := ((((((A ++ [46]) ++ B) ++ [46]) ++ C) ++ [46]) ++ D)) (m := [46]) rfl e28 rfl (by simp only [List.length_append, List.length_cons, List.length_nil]; omega)) (hK _ _ (show _ = _ from rfl) (Below.refl _ _) (Fresh.no _ _ _))
    · intro w1 hb hd K hK
      have e1 := E1
      exact op_val (v := (.pointer (some ⟨po, 4, none⟩))) rfl (by simp only [execOp, List.map_toArray, List.map_cons, List.map_nil, e1]; go_simp) (hK _ _ (show _ = _ from rfl) (Below.refl _ _) (Fresh.no _ _ _))
    · intro w1 hb hd K hK
      have e30 := D30.trans (show u 23 = (.pointer (some ⟨po, 4, none⟩)) from hd ⟨23, .data⟩ (by simp) rfl (by omega))
      have c0 : w1.cell? ⟨po, 4, none⟩ = some (.int .i64 t) := (HA2.out.keep hb HA2.out.lt).cell (j := 4) rfl
      exact op_val (v := (.int .i64 t)) rfl (by simp only [execOp, e30]; go_simp) (hK _ _ (show _ = _ from rfl) (Below.refl _ _) (Fresh.no _ _ _))
    · intro w1 hb hd K hK
      have e31 := D31.trans (show u 24 = (.int .i64 t) from hd ⟨24, .data⟩ (by simp) rfl (by omega))
      refine op_call (R := fun v w2 => v = (.string (bS E)) ∧ Below w1.heap.size w1 w2) (f := 52) (args := #[.int .i64 t]) rfl (by simp only [execOp]; go_simp; first | exact eval_get e31 | exact ⟨rfl, eval_get e31⟩ | exact ⟨eval_get e31, rfl⟩ | (simp only [Act.eval] at *; simp_all)) ((IE.out w1 (HE2.out.keep hb)).mono fun e w2 hh => ⟨_, hh.1, rfl, hh.2⟩) (fun v w2 hh => hK _ _ hh.1 hh.2 (Fresh.no _ _ _))
    · intro w1 hb hd K hK
      have e29 := D29.trans (show u 22 = (.string (bS (((((((A ++ [46]) ++ B) ++ [46]) ++ C) ++ [46]) ++ D) ++ [46]))) from hd ⟨22, .data⟩ (by simp) rfl (by omega))
      have e32 := D32.trans (show u 25 = (.string (bS E)) from hd ⟨25, .data⟩ (by simp) rfl (by omega))
      exact op_val (v := (.string (bS ((((((((A ++ [46]) ++ B) ++ [46]) ++ C) ++ [46]) ++ D) ++ [46]) ++ E)))) rfl (exec_sadd (l := (((((((A ++ [46]) ++ B) ++ [46]) ++ C) ++ [46]) ++ D) ++ [46])) (m := E) rfl e29 e32 (by simp only [List.length_append, List.length_cons, List.length_nil]; omega)) (hK _ _ (show _ = _ from rfl) (Below.refl _ _) (Fresh.no _ _ _))
  have hv7 : u 0 = (.pointer (some ⟨pc, 0, none⟩)) := (show u 0 = _ from hsF 0 (by omega) (by omega))
  have hv8 : u 1 = (.int .u8 (a : Int)) := (show u 1 = _ from hsF 1 (by omega) (by omega))
  have hv9 : u 2 = (.int .i64 (a : Int)) := (show u 2 = _ from hsF 2 (by omega) (by omega))
  have hv10 : u 3 = (.string (bS A)) := (show u 3 = _ from hsF 3 (by omega) (by omega))
  have hv11 : u 4 = (.string (bS (A ++ [46]))) := (show u 4 = _ from hsF 4 (by omega) (by omega))
  have hv12 : u 5 = (.pointer (some ⟨pc, 1, none⟩)) := (show u 5 = _ from hsF 5 (by omega) (by omega))
  have hv13 : u 6 = (.int .u8 (b : Int)) := (show u 6 = _ from hsF 6 (by omega) (by omega))
  have hv14 : u 7 = (.int .i64 (b : Int)) := (show u 7 = _ from hsF 7 (by omega) (by omega))
  have hv15 : u 8 = (.string (bS B)) := (show u 8 = _ from hsF 8 (by omega) (by omega))
  have hv16 : u 9 = (.string (bS ((A ++ [46]) ++ B))) := (show u 9 = _ from hsF 9 (by omega) (by omega))
  have hv17 : u 10 = (.string (bS (((A ++ [46]) ++ B) ++ [46]))) := (show u 10 = _ from hsF 10 (by omega) (by omega))
  have hv18 : u 11 = (.pointer (some ⟨pc, 2, none⟩)) := (show u 11 = _ from hsF 11 (by omega) (by omega))
  have hv19 : u 12 = (.int .u8 (c : Int)) := (show u 12 = _ from hsF 12 (by omega) (by omega))
  have hv20 : u 13 = (.int .i64 (c : Int)) := (show u 13 = _ from hsF 13 (by omega) (by omega))
  have hv21 : u 14 = (.string (bS C)) := (show u 14 = _ from hsF 14 (by omega) (by omega))
  have hv22 : u 15 = (.string (bS ((((A ++ [46]) ++ B) ++ [46]) ++ C))) := (show u 15 = _ from hsF 15 (by omega) (by omega))
  have hv23 : u 16 = (.string (bS (((((A ++ [46]) ++ B) ++ [46]) ++ C) ++ [46]))) := (show u 16 = _ from hsF 16 (by omega) (by omega))
  have hv24 : u 17 = (.pointer (some ⟨pc, 3, none⟩)) := (show u 17 = _ from hsF 17 (by omega) (by omega))
  have hv25 : u 18 = (.int .u8 (d : Int)) := (show u 18 = _ from hsF 18 (by omega) (by omega))
  have hv26 : u 19 = (.int .i64 (d : Int)) := (show u 19 = _ from hsF 19 (by omega) (by omega))
  have hv27 : u 20 = (.string (bS D)) := (show u 20 = _ from hsF 20 (by omega) (by omega))
  have hv28 : u 21 = (.string (bS ((((((A ++ [46]) ++ B) ++ [46]) ++ C) ++ [46]) ++ D))) := (show u 21 = _ from hsF 21 (by omega) (by omega))
  have hv29 : u 22 = (.string (bS (((((((A ++ [46]) ++ B) ++ [46]) ++ C) ++ [46]) ++ D) ++ [46]))) := (show u 22 = _ from hsF 22 (by omega) (by omega))
  have hv30 : u 23 = (.pointer (some ⟨po, 4, none⟩)) := (show u 23 = _ from hsF 23 (by omega) (by omega))
  have hv31 : u 24 = (.int .i64 t) := (show u 24 = _ from hsF 24 (by omega) (by omega))
  have hv32 : u 25 = (.string (bS E)) := (show u 25 = _ from hsF 25 (by omega) (by omega))
  have hv33 : u 26 = (.string (bS ((((((((A ++ [46]) ++ B) ++ [46]) ++ C) ++ [46]) ++ D) ++ [46]) ++ E))) := (show u 26 = _ from hsF 26 (by omega) (by omega))
  simp only [putRow, hv7, hv8, hv9, hv10, hv11, hv12, hv13, hv14, hv15, hv16, hv17, hv18, hv19, hv20, hv21, hv22, hv23, hv24, hv25, hv26, hv27, hv28, hv29, hv30, hv31, hv32, hv33, Act.put, List.setIfInBounds_toArray, List.set_cons_succ, List.set_cons_zero]
  clear hsF hold hap hv7 hv8 hv9 hv10 hv11 hv12 hv13 hv14 hv15 hv16 hv17 hv18 hv19 hv20 hv21 hv22 hv23 hv24 hv25 hv26 hv27 hv28 hv29 hv30 hv31 hv32 hv33
  have HA3 := Lib.hid (HA2.out.keep hbF HA2.out.lt)
  have HE3 := Lib.hid (HE2.out.keep hbF)
  have HW3 := Lib.hid (HW2.out.trans (hbF.mono HW2.out.size))
  clear HA2 HC2 HE2 HW2 hbF IA IB IC ID IE k1 k2 k3 k4
  clear W2
  refine rest_forced 1 (by kernel_rfl) ?_
  simp only [List.drop_succ_cons, List.drop_zero, List.take_succ_cons, List.take_zero]
  go_wp2_with fail
  refine rest_done rfl ?_
  have x5 := HA3.out.cell (j := 5) rfl
  obtain ⟨S, hS⟩ : ∃ S, (((((((((A ++ [46]) ++ B) ++ [46]) ++ C) ++ [46]) ++ D) ++ [46]) ++ E)) = S := ⟨_, rfl⟩
  have lS : S.length ≤ 200 := by rw [← hS]; simp only [List.length_append, List.length_cons, List.length_nil]; omega
  rw [hS] at HTX ⊢
  clear hS lA lB lC lD lE
  by_cases hz : wt = 0
  · have t1 : (wt != 0) = false := by simp [hz]
    rw [if_pos hz] at HTX
    clear hz
    go_wp2_with fail
    go_ret
    exact ⟨by rw [HTX.out]; rfl, HW3.out⟩
  · have t1 : (wt != 0) = true := by simp [hz]
    rw [if_neg hz] at HTX
    clear hz

    go_wp2_with (guard_target =~ wpList _ _ _ (⟨some 38, _, _, _, _, _⟩ :: _) _ _; refine opl_val_w (by kernel_rfl) (exec_sadd (l := S) (m := [58]) rfl rfl rfl (by simp only [List.length_cons, List.length_nil]; omega)) ?_)
    refine (IW.out _ HE3.out).mono ?_
    rintro x w3 ⟨rfl, hb⟩
    have HW4 := Lib.hid (HW3.out.trans (hb.mono HW3.out.size))
    clear hb HW3 HA3 HE3
    go_wp2_with (guard_target =~ wpList _ _ _ (⟨some 42, _, _, _, _, _⟩ :: _) _ _; refine opl_val_w (by kernel_rfl) (exec_sadd (l := S ++ [58]) (m := WT) rfl rfl rfl (by simp only [List.length_append, List.length_cons, List.length_nil]; omega)) ?_)
    go_ret
    exact ⟨by rw [HTX.out, List.append_assoc]; rfl, HW4.out⟩
theorem sp_cons (w : List UInt8) (l : List (List UInt8)) : sp (w :: l) = w ++ l.flatMap (fun x => 32 :: x) := rfl
/-- The text of a right entry, in pieces. -/
def hd4 (e : En) : List UInt8 := (((((Lib.itoa e.rd ++ [32]) ++ Lib.itoa e.tb) ++ [32]) ++ Lib.itoa e.bd) ++ [32]) ++ Lib.itoa e.vs
def outsT (e : En) (k : Nat) : List UInt8 := ((e.outs.take k).map Ou.txt).flatMap (fun x => 32 :: x)
theorem txt_0 {e : En} (h : rightE e = true) (hk : e.kd = 0) : e.txt = hd4 e ++ [32, 118, 111, 105, 100] := by
  have hn := (num_kind h).1 (.inl hk)
  unfold En.txt En.words En.head hd4
  rw [hn, hk]
  simp [sp, kindW, wVoid]
theorem txt_4 {e : En} (h : rightE e = true) (hk : e.kd = 4) : e.txt = (((hd4 e ++ [32, 97, 119, 97, 114, 100, 32]) ++ Lib.itoa e.a0) ++ [32]) ++ Lib.itoa e.a1 := by
  have hn := (num_kind h).1 (.inr hk)
  unfold En.txt En.words En.head hd4
  rw [hn, hk]
  simp [sp, kindW, wAward]
theorem txt_w {e : En} (h0 : e.num ≠ 0) (h4 : e.kd ≠ 4) : e.txt = (((hd4 e ++ (32 :: (kindW e.kd ++ [32]))) ++ Lib.itoa e.fd) ++ (32 :: wayW e.tn)) ++ outsT e e.num := by
  unfold En.txt En.words En.head hd4 outsT
  rw [if_neg h0, if_neg h4]
  simp [sp]
theorem wgo_wt : ∀ (l : List Ou) (n : Nat) (s : Int), (wgo l n s).2 = true → ∀ i, n + i < (wgo l n s).1 → 0 < (l.getD i zeroO).wt
  | [], n, s, _, i, hi => by
    have hi : n + i < n := hi
    omega
  | o :: l, n, s, h, i, hi => by
    unfold wgo at h hi
    by_cases hz : o.wt = 0
    · rw [if_pos hz] at hi
      have hi : n + i < n := hi
      omega
    · rw [if_neg hz] at h hi
      by_cases ho : o.okW 1 99 = true
      · rw [if_pos ho] at h hi
        cases i with
        | zero =>
          show 0 < o.wt
          have := (okW_le ho).1
          omega
        | succ i => simpa using wgo_wt l (n + 1) _ h i (by omega)
      · rw [if_neg ho] at h
        cases h
theorem ou_getD (e : En) {k : Nat} (h : k < 4) : e.outs.getD k zeroO = e.ou k := by
  rcases (by omega : k = 0 ∨ k = 1 ∨ k = 2 ∨ k = 3) with rfl | rfl | rfl | rfl <;> rfl
theorem wt_pos {e : En} (h : rightE e = true) (h2 : e.kd = 2) {k : Nat} (hk : k < e.num) : 0 < (e.ou k).wt := by
  have hu := (right_parts h).2.2.1
  have e1 : usedP e = wgo e.outs 0 0 := by unfold usedP; rw [if_neg (by omega), if_neg (by omega), if_pos h2]
  have hn : e.num = (wgo e.outs 0 0).1 := by unfold En.num; rw [e1]
  rw [e1] at hu
  have h4 := (num_kind h).2.2.2.2
  rw [← ou_getD e (by omega)]
  exact wgo_wt e.outs 0 0 hu k (by rw [← hn]; omega)
theorem wt_none {e : En} (h : rightE e = true) {k : Nat} (hk : e.num ≤ k) (h4 : k < 4) : (e.ou k).wt = 0 := by
  rw [(right_parts h).2.2.2.2.1 k hk h4]; rfl
theorem outsT_step (e : En) {k : Nat} (h : k < 4) : outsT e (k + 1) = (outsT e k ++ [32]) ++ (e.ou k).txt := by
  unfold outsT
  rw [wtake e h, List.map_append, List.flatMap_append]
  simp
theorem outsT_len (e : En) (hi : e.In) : ∀ k, k ≤ 4 → (outsT e k).length ≤ 141 * k
  | 0, _ => by simp [outsT]
  | k + 1, h => by
    have ih := outsT_len e hi k (by omega)
    have hl := txt_len (outs_in hi (e.ou k) (List.mem_of_getElem? (e.ou_at k (by omega))))
    rw [outsT_step e (by omega)]
    simp only [List.length_append, List.length_cons, List.length_nil]
    omega
theorem hd4_len (e : En) (h : e.In) : (hd4 e).length ≤ 100 := by
  have h1 := itoa_len e.rd h.rd
  have h2 := itoa_len e.tb h.tb
  have h3 := itoa_len e.bd h.bd
  have h4 := itoa_len e.vs h.vs
  unfold hd4
  simp only [List.length_append, List.length_cons, List.length_nil]
  omega
theorem kindW_len (k : Nat) : (kindW k).length ≤ 8 := by
  unfold kindW wVoid wPlayed wWeighted wSplit wAward
  repeat' split
  all_goals simp
attribute [irreducible] hd4 outsT
set_option maxRecDepth 100000 in
set_option maxHeartbeats 8000000 in
theorem rtext_any (e : En) (hi : e.In) (w : World) (he : Env w) : Calls Tryz.prog 23 #[.agg (enC e)] w (fun r w' => r = .returned (textV e) ∧ Below w.heap.size w w') := by
  have HE := Lib.hid he
  have HI := Lib.hid hi
  have RA := Lib.hid (fun W => rright_any e hi W)
  clear he hi
  go_enter Tryz.func23, Tryz.ntmps23
  go_upto_region 1 with fail
  have HA := Lib.hid (Blk.new w 34 (enC e))
  have HW := Lib.hid (below1 w (.cells (enC e) 34))
  generalize w.alloc (.cells (enC e) 34) = W1 at *
  have HE1 := Lib.hid (HE.out.keep HW.out)
  obtain ⟨p0, hp0⟩ : ∃ p, w.heap.size = p := ⟨_, rfl⟩
  rw [hp0] at HA ⊢
  clear hp0 HE
  have la := loadAt_blk (T := 34) HA.out Tryz.underlying34 rfl (by rw [enC_size]; kernel_rfl)
  go_wp2_with (refine op_load (p := .pointer (some ⟨p0, 0, none⟩)) 34 (.tmp 1) rfl rfl rfl la ?_)
  refine (RA.out _).mono ?_
  rintro x w1 ⟨rfl, hb⟩
  have HA1 := Lib.hid (HA.out.kp2 hb)
  have HE2 := Lib.hid (HE1.out.keep hb)
  have HW1 := Lib.hid (HW.out.trans (hb.mono HW.out.size))
  clear hb la RA HA HE1 HW
  clear W1
  rcases hr : rightE e with _ | _
  · have HX := Lib.hid (textV_f hr)
    clear hr
    go_wp2_with fail
    go_ret2
    exact ⟨by rw [HX.out]; rfl, HW1.out⟩
  have HX := Lib.hid (textV_t hr)
  have HR := Lib.hid hr
  have hi := HI.out
  have I1 := Lib.hid (fun W (h : Env W) => itoa_any e.rd W h hi.rd)
  have I2 := Lib.hid (fun W (h : Env W) => itoa_any e.tb W h hi.tb)
  have I3 := Lib.hid (fun W (h : Env W) => itoa_any e.bd W h hi.bd)
  have I4 := Lib.hid (fun W (h : Env W) => itoa_any e.vs W h hi.vs)
  have IF := Lib.hid (fun W (h : Env W) => itoa_any (e.fd : Int) W h ⟨by omega, by have := hi.fd; omega⟩)
  have J0 := Lib.hid (fun W (h : Env W) => itoa_any e.a0 W h hi.a0)
  have J1 := Lib.hid (fun W (h : Env W) => itoa_any e.a1 W h hi.a1)
  have l1 := itoa_len e.rd hi.rd
  have l2 := itoa_len e.tb hi.tb
  have l3 := itoa_len e.bd hi.bd
  have l4 := itoa_len e.vs hi.vs
  have lf := itoa_len (e.fd : Int) ⟨by omega, by have := hi.fd; omega⟩
  have m0 := itoa_len e.a0 hi.a0
  have m1 := itoa_len e.a1 hi.a1
  have HHD : Hid (hd4 e = (((((Lib.itoa e.rd ++ [32]) ++ Lib.itoa e.tb) ++ [32]) ++ Lib.itoa e.bd) ++ [32]) ++ Lib.itoa e.vs) := Lib.hid (by unfold hd4; rfl)
  have lh := hd4_len e hi
  have lk := kindW_len e.kd
  have wf : IntKind.i64.wrap (e.fd : Int) = (e.fd : Int) := IntWalk.i64_in _ (by have := hi.fd; omega)
  have HK4 := Lib.hid (right_parts hr).1
  have H0 := Lib.hid (fun h => txt_0 hr h)
  have H4 := Lib.hid (fun h => txt_4 hr h)
  have HWD := Lib.hid (fun h h' => txt_w (e := e) h h')
  have HNK := Lib.hid (num_kind hr)
  have HWP := Lib.hid (fun h k hk => wt_pos hr h (k := k) hk)
  have HWN := Lib.hid (fun k hk h4 => wt_none hr (k := k) hk h4)
  clear hr hi
  obtain ⟨kd, hkd⟩ : ∃ kd, e.kd = kd := ⟨_, rfl⟩
  obtain ⟨TX, hTX⟩ : ∃ TX, e.txt = TX := ⟨_, rfl⟩
  obtain ⟨A, hA⟩ : ∃ A, Lib.itoa e.rd = A := ⟨_, rfl⟩
  obtain ⟨B, hB⟩ : ∃ A, Lib.itoa e.tb = A := ⟨_, rfl⟩
  obtain ⟨C, hC⟩ : ∃ A, Lib.itoa e.bd = A := ⟨_, rfl⟩
  obtain ⟨D, hD⟩ : ∃ A, Lib.itoa e.vs = A := ⟨_, rfl⟩
  obtain ⟨FD, hFD⟩ : ∃ A, Lib.itoa (e.fd : Int) = A := ⟨_, rfl⟩
  obtain ⟨X0, hX0⟩ : ∃ A, Lib.itoa e.a0 = A := ⟨_, rfl⟩
  obtain ⟨X1, hX1⟩ : ∃ A, Lib.itoa e.a1 = A := ⟨_, rfl⟩
  rw [hTX] at HX H0 H4 HWD
  rw [hA] at I1 l1 HHD
  rw [hB] at I2 l2 HHD
  rw [hC] at I3 l3 HHD
  rw [hD] at I4 l4 HHD
  rw [hFD] at IF lf HWD
  rw [hX0] at J0 m0 H4
  rw [hX1] at J1 m1 H4
  rw [hkd] at H0 H4 HWD HK4 HNK HWP lk
  clear hTX hA hB hC hD hFD hX0 hX1
  go_upto_region 3 with fail
  refine rest_begin (by kernel_rfl) ?_
  have HA2 : Hid (Blk w1.drew p0 34 (enC e)) := HA1
  have HE3 := Lib.hid (HE2.out.keep (Below.refl _ w1).drew)
  have HW2 := Lib.hid HW1.out.drew
  clear HA1 HE2 HW1
  generalize w1.drew = W2 at *
  clear w1
  refine rest_flow3 [some 10, some 11, some 12, some 13, some 14, some 15, some 16, some 17, some 18, some 19, some 20, some 21, some 22, some 23, some 24, some 25, some 26, some 27] [Sp.is (.pointer (some ⟨p0, 0, none⟩)), Sp.is (.int .i64 e.rd), Sp.is (.string (bS A)), Sp.is (.string (bS (A ++ [32]))), Sp.is (.pointer (some ⟨p0, 1, none⟩)), Sp.is (.int .i64 e.tb), Sp.is (.string (bS B)), Sp.is (.string (bS ((A ++ [32]) ++ B))), Sp.is (.string (bS (((A ++ [32]) ++ B) ++ [32]))), Sp.is (.pointer (some ⟨p0, 2, none⟩)), Sp.is (.int .i64 e.bd), Sp.is (.string (bS C)), Sp.is (.string (bS ((((A ++ [32]) ++ B) ++ [32]) ++ C))), Sp.is (.string (bS (((((A ++ [32]) ++ B) ++ [32]) ++ C) ++ [32]))), Sp.is (.pointer (some ⟨p0, 3, none⟩)), Sp.is (.int .i64 e.vs), Sp.is (.string (bS D)), Sp.is (.string (bS ((((((A ++ [32]) ++ B) ++ [32]) ++ C) ++ [32]) ++ D)))] [false, false, false, false, false, false, false, false, false, false, false, false, false, false, false, false, false, false] 18 (by kernel_rfl) (by kernel_rfl) (fun u F hF => ?_) (fun u w' hbF hsF hold hap => ?_)
  case refine_1 =>
    have E1 : F.eval (.tmp 1) = (.pointer (some ⟨p0, 0, none⟩)) := (congrArg (fun a => Act.eval a (.tmp 1)) hF).trans (eval_out [some 10, some 11, some 12, some 13, some 14, some 15, some 16, some 17, some 18, some 19, some 20, some 21, some 22, some 23, some 24, some 25, some 26, some 27] 0 _ (by decide))
    have D10 : F.eval (.tmp 10) = u 0 := (congrArg (fun a => Act.eval a (.tmp 10)) hF).trans (eval_in [some 10, some 11, some 12, some 13, some 14, some 15, some 16, some 17, some 18, some 19, some 20, some 21, some 22, some 23, some 24, some 25, some 26, some 27] 0 0 _ (by decide) (by omega) rfl (of_decide_eq_true (by kernel_rfl)))
    have D11 : F.eval (.tmp 11) = u 1 := (congrArg (fun a => Act.eval a (.tmp 11)) hF).trans (eval_in [some 10, some 11, some 12, some 13, some 14, some 15, some 16, some 17, some 18, some 19, some 20, some 21, some 22, some 23, some 24, some 25, some 26, some 27] 0 1 _ (by decide) (by omega) rfl (of_decide_eq_true (by kernel_rfl)))
    have D12 : F.eval (.tmp 12) = u 2 := (congrArg (fun a => Act.eval a (.tmp 12)) hF).trans (eval_in [some 10, some 11, some 12, some 13, some 14, some 15, some 16, some 17, some 18, some 19, some 20, some 21, some 22, some 23, some 24, some 25, some 26, some 27] 0 2 _ (by decide) (by omega) rfl (of_decide_eq_true (by kernel_rfl)))
    have D14 : F.eval (.tmp 14) = u 4 := (congrArg (fun a => Act.eval a (.tmp 14)) hF).trans (eval_in [some 10, some 11, some 12, some 13, some 14, some 15, some 16, some 17, some 18, some 19, some 20, some 21, some 22, some 23, some 24, some 25, some 26, some 27] 0 4 _ (by decide) (by omega) rfl (of_decide_eq_true (by kernel_rfl)))
    have D15 : F.eval (.tmp 15) = u 5 := (congrArg (fun a => Act.eval a (.tmp 15)) hF).trans (eval_in [some 10, some 11, some 12, some 13, some 14, some 15, some 16, some 17, some 18, some 19, some 20, some 21, some 22, some 23, some 24, some 25, some 26, some 27] 0 5 _ (by decide) (by omega) rfl (of_decide_eq_true (by kernel_rfl)))
    have D13 : F.eval (.tmp 13) = u 3 := (congrArg (fun a => Act.eval a (.tmp 13)) hF).trans (eval_in [some 10, some 11, some 12, some 13, some 14, some 15, some 16, some 17, some 18, some 19, some 20, some 21, some 22, some 23, some 24, some 25, some 26, some 27] 0 3 _ (by decide) (by omega) rfl (of_decide_eq_true (by kernel_rfl)))
    have D16 : F.eval (.tmp 16) = u 6 := (congrArg (fun a => Act.eval a (.tmp 16)) hF).trans (eval_in [some 10, some 11, some 12, some 13, some 14, some 15, some 16, some 17, some 18, some 19, some 20, some 21, some 22, some 23, some 24, some 25, some 26, some 27] 0 6 _ (by decide) (by omega) rfl (of_decide_eq_true (by kernel_rfl)))
    have D17 : F.eval (.tmp 17) = u 7 := (congrArg (fun a => Act.eval a (.tmp 17)) hF).trans (eval_in [some 10, some 11, some 12, some 13, some 14, some 15, some 16, some 17, some 18, some 19, some 20, some 21, some 22, some 23, some 24, some 25, some 26, some 27] 0 7 _ (by decide) (by omega) rfl (of_decide_eq_true (by kernel_rfl)))
    have D19 : F.eval (.tmp 19) = u 9 := (congrArg (fun a => Act.eval a (.tmp 19)) hF).trans (eval_in [some 10, some 11, some 12, some 13, some 14, some 15, some 16, some 17, some 18, some 19, some 20, some 21, some 22, some 23, some 24, some 25, some 26, some 27] 0 9 _ (by decide) (by omega) rfl (of_decide_eq_true (by kernel_rfl)))
    have D20 : F.eval (.tmp 20) = u 10 := (congrArg (fun a => Act.eval a (.tmp 20)) hF).trans (eval_in [some 10, some 11, some 12, some 13, some 14, some 15, some 16, some 17, some 18, some 19, some 20, some 21, some 22, some 23, some 24, some 25, some 26, some 27] 0 10 _ (by decide) (by omega) rfl (of_decide_eq_true (by kernel_rfl)))
    have D18 : F.eval (.tmp 18) = u 8 := (congrArg (fun a => Act.eval a (.tmp 18)) hF).trans (eval_in [some 10, some 11, some 12, some 13, some 14, some 15, some 16, some 17, some 18, some 19, some 20, some 21, some 22, some 23, some 24, some 25, some 26, some 27] 0 8 _ (by decide) (by omega) rfl (of_decide_eq_true (by kernel_rfl)))
    have D21 : F.eval (.tmp 21) = u 11 := (congrArg (fun a => Act.eval a (.tmp 21)) hF).trans (eval_in [some 10, some 11, some 12, some 13, some 14, some 15, some 16, some 17, some 18, some 19, some 20, some 21, some 22, some 23, some 24, some 25, some 26, some 27] 0 11 _ (by decide) (by omega) rfl (of_decide_eq_true (by kernel_rfl)))
    have D22 : F.eval (.tmp 22) = u 12 := (congrArg (fun a => Act.eval a (.tmp 22)) hF).trans (eval_in [some 10, some 11, some 12, some 13, some 14, some 15, some 16, some 17, some 18, some 19, some 20, some 21, some 22, some 23, some 24, some 25, some 26, some 27] 0 12 _ (by decide) (by omega) rfl (of_decide_eq_true (by kernel_rfl)))
    have D24 : F.eval (.tmp 24) = u 14 := (congrArg (fun a => Act.eval a (.tmp 24)) hF).trans (eval_in [some 10, some 11, some 12, some 13, some 14, some 15, some 16, some 17, some 18, some 19, some 20, some 21, some 22, some 23, some 24, some 25, some 26, some 27] 0 14 _ (by decide) (by omega) rfl (of_decide_eq_true (by kernel_rfl)))
    have D25 : F.eval (.tmp 25) = u 15 := (congrArg (fun a => Act.eval a (.tmp 25)) hF).trans (eval_in [some 10, some 11, some 12, some 13, some 14, some 15, some 16, some 17, some 18, some 19, some 20, some 21, some 22, some 23, some 24, some 25, some 26, some 27] 0 15 _ (by decide) (by omega) rfl (of_decide_eq_true (by kernel_rfl)))
    have D23 : F.eval (.tmp 23) = u 13 := (congrArg (fun a => Act.eval a (.tmp 23)) hF).trans (eval_in [some 10, some 11, some 12, some 13, some 14, some 15, some 16, some 17, some 18, some 19, some 20, some 21, some 22, some 23, some 24, some 25, some 26, some 27] 0 13 _ (by decide) (by omega) rfl (of_decide_eq_true (by kernel_rfl)))
    have D26 : F.eval (.tmp 26) = u 16 := (congrArg (fun a => Act.eval a (.tmp 26)) hF).trans (eval_in [some 10, some 11, some 12, some 13, some 14, some 15, some 16, some 17, some 18, some 19, some 20, some 21, some 22, some 23, some 24, some 25, some 26, some 27] 0 16 _ (by decide) (by omega) rfl (of_decide_eq_true (by kernel_rfl)))
    clear hF
    refine ⟨?_, ?_, ?_, ?_, ?_, ?_, ?_, ?_, ?_, ?_, ?_, ?_, ?_, ?_, ?_, ?_, ?_, ?_, trivial⟩
    · intro w1 hb hd K hK
      have e1 := E1
      exact op_val (v := (.pointer (some ⟨p0, 0, none⟩))) rfl (by simp only [execOp, List.map_toArray, List.map_cons, List.map_nil, e1]; go_simp) (hK _ _ (show _ = _ from rfl) (Below.refl _ _) (Fresh.no _ _ _))
    · intro w1 hb hd K hK
      have e10 := D10.trans (show u 0 = (.pointer (some ⟨p0, 0, none⟩)) from hd ⟨0, .data⟩ (by simp) rfl (by omega))
      have c0 : w1.cell? ⟨p0, 0, none⟩ = some (.int .i64 e.rd) := (HA2.out.kp2 hb).cell (enC_rd e)
      exact op_val (v := (.int .i64 e.rd)) rfl (by simp only [execOp, e10]; go_simp) (hK _ _ (show _ = _ from rfl) (Below.refl _ _) (Fresh.no _ _ _))
    · intro w1 hb hd K hK
      have e11 := D11.trans (show u 1 = (.int .i64 e.rd) from hd ⟨1, .data⟩ (by simp) rfl (by omega))
      refine op_call (R := fun v w2 => v = (.string (bS A)) ∧ Below w1.heap.size w1 w2) (f := 52) (args := #[.int .i64 e.rd]) rfl (by simp only [execOp]; go_simp; first | exact eval_get e11 | exact ⟨rfl, eval_get e11⟩ | exact ⟨eval_get e11, rfl⟩ | (simp only [Act.eval] at *; simp_all)) ((I1.out w1 (HE3.out.keep hb)).mono fun e w2 hh => ⟨_, hh.1, rfl, hh.2⟩) (fun v w2 hh => hK _ _ hh.1 hh.2 (Fresh.no _ _ _))
    · intro w1 hb hd K hK
      have e12 := D12.trans (show u 2 = (.string (bS A)) from hd ⟨2, .data⟩ (by simp) rfl (by omega))
      exact op_val (v := (.string (bS (A ++ [32])))) rfl (exec_sadd (l := A) (m := [32]) rfl e12 rfl (by simp only [List.length_append, List.length_cons, List.length_nil]; omega)) (hK _ _ (show _ = _ from rfl) (Below.refl _ _) (Fresh.no _ _ _))
    · intro w1 hb hd K hK
      have e1 := E1
      exact op_val (v := (.pointer (some ⟨p0, 1, none⟩))) rfl (by simp only [execOp, List.map_toArray, List.map_cons, List.map_nil, e1]; go_simp) (hK _ _ (show _ = _ from rfl) (Below.refl _ _) (Fresh.no _ _ _))
    · intro w1 hb hd K hK
      have e14 := D14.trans (show u 4 = (.pointer (some ⟨p0, 1, none⟩)) from hd ⟨4, .data⟩ (by simp) rfl (by omega))
      have c0 : w1.cell? ⟨p0, 1, none⟩ = some (.int .i64 e.tb) := (HA2.out.kp2 hb).cell (enC_tb e)
      exact op_val (v := (.int .i64 e.tb)) rfl (by simp only [execOp, e14]; go_simp) (hK _ _ (show _ = _ from rfl) (Below.refl _ _) (Fresh.no _ _ _))
    · intro w1 hb hd K hK
      have e15 := D15.trans (show u 5 = (.int .i64 e.tb) from hd ⟨5, .data⟩ (by simp) rfl (by omega))
      refine op_call (R := fun v w2 => v = (.string (bS B)) ∧ Below w1.heap.size w1 w2) (f := 52) (args := #[.int .i64 e.tb]) rfl (by simp only [execOp]; go_simp; first | exact eval_get e15 | exact ⟨rfl, eval_get e15⟩ | exact ⟨eval_get e15, rfl⟩ | (simp only [Act.eval] at *; simp_all)) ((I2.out w1 (HE3.out.keep hb)).mono fun e w2 hh => ⟨_, hh.1, rfl, hh.2⟩) (fun v w2 hh => hK _ _ hh.1 hh.2 (Fresh.no _ _ _))
    · intro w1 hb hd K hK
      have e13 := D13.trans (show u 3 = (.string (bS (A ++ [32]))) from hd ⟨3, .data⟩ (by simp) rfl (by omega))
      have e16 := D16.trans (show u 6 = (.string (bS B)) from hd ⟨6, .data⟩ (by simp) rfl (by omega))
      exact op_val (v := (.string (bS ((A ++ [32]) ++ B)))) rfl (exec_sadd (l := (A ++ [32])) (m := B) rfl e13 e16 (by simp only [List.length_append, List.length_cons, List.length_nil]; omega)) (hK _ _ (show _ = _ from rfl) (Below.refl _ _) (Fresh.no _ _ _))
    · intro w1 hb hd K hK
      have e17 := D17.trans (show u 7 = (.string (bS ((A ++ [32]) ++ B))) from hd ⟨7, .data⟩ (by simp) rfl (by omega))
      exact op_val (v := (.string (bS (((A ++ [32]) ++ B) ++ [32])))) rfl (exec_sadd (l := ((A ++ [32]) ++ B)) (m := [32]) rfl e17 rfl (by simp only [List.length_append, List.length_cons, List.length_nil]; omega)) (hK _ _ (show _ = _ from rfl) (Below.refl _ _) (Fresh.no _ _ _))
    · intro w1 hb hd K hK
      have e1 := E1
      exact op_val (v := (.pointer (some ⟨p0, 2, none⟩))) rfl (by simp only [execOp, List.map_toArray, List.map_cons, List.map_nil, e1]; go_simp) (hK _ _ (show _ = _ from rfl) (Below.refl _ _) (Fresh.no _ _ _))
    · intro w1 hb hd K hK
      have e19 := D19.trans (show u 9 = (.pointer (some ⟨p0, 2, none⟩)) from hd ⟨9, .data⟩ (by simp) rfl (by omega))
      have c0 : w1.cell? ⟨p0, 2, none⟩ = some (.int .i64 e.bd) := (HA2.out.kp2 hb).cell (enC_bd e)
      exact op_val (v := (.int .i64 e.bd)) rfl (by simp only [execOp, e19]; go_simp) (hK _ _ (show _ = _ from rfl) (Below.refl _ _) (Fresh.no _ _ _))
    · intro w1 hb hd K hK
      have e20 := D20.trans (show u 10 = (.int .i64 e.bd) from hd ⟨10, .data⟩ (by simp) rfl (by omega))
      refine op_call (R := fun v w2 => v = (.string (bS C)) ∧ Below w1.heap.size w1 w2) (f := 52) (args := #[.int .i64 e.bd]) rfl (by simp only [execOp]; go_simp; first | exact eval_get e20 | exact ⟨rfl, eval_get e20⟩ | exact ⟨eval_get e20, rfl⟩ | (simp only [Act.eval] at *; simp_all)) ((I3.out w1 (HE3.out.keep hb)).mono fun e w2 hh => ⟨_, hh.1, rfl, hh.2⟩) (fun v w2 hh => hK _ _ hh.1 hh.2 (Fresh.no _ _ _))
    · intro w1 hb hd K hK
      have e18 := D18.trans (show u 8 = (.string (bS (((A ++ [32]) ++ B) ++ [32]))) from hd ⟨8, .data⟩ (by simp) rfl (by omega))
      have e21 := D21.trans (show u 11 = (.string (bS C)) from hd ⟨11, .data⟩ (by simp) rfl (by omega))
      exact op_val (v := (.string (bS ((((A ++ [32]) ++ B) ++ [32]) ++ C)))) rfl (exec_sadd (l := (((A ++ [32]) ++ B) ++ [32])) (m := C) rfl e18 e21 (by simp only [List.length_append, List.length_cons, List.length_nil]; omega)) (hK _ _ (show _ = _ from rfl) (Below.refl _ _) (Fresh.no _ _ _))
    · intro w1 hb hd K hK
      have e22 := D22.trans (show u 12 = (.string (bS ((((A ++ [32]) ++ B) ++ [32]) ++ C))) from hd ⟨12, .data⟩ (by simp) rfl (by omega))
      exact op_val (v := (.string (bS (((((A ++ [32]) ++ B) ++ [32]) ++ C) ++ [32])))) rfl (exec_sadd (l := ((((A ++ [32]) ++ B) ++ [32]) ++ C)) (m := [32]) rfl e22 rfl (by simp only [List.length_append, List.length_cons, List.length_nil]; omega)) (hK _ _ (show _ = _ from rfl) (Below.refl _ _) (Fresh.no _ _ _))
    · intro w1 hb hd K hK
      have e1 := E1
      exact op_val (v := (.pointer (some ⟨p0, 3, none⟩))) rfl (by simp only [execOp, List.map_toArray, List.map_cons, List.map_nil, e1]; go_simp) (hK _ _ (show _ = _ from rfl) (Below.refl _ _) (Fresh.no _ _ _))
    · intro w1 hb hd K hK
      have e24 := D24.trans (show u 14 = (.pointer (some ⟨p0, 3, none⟩)) from hd ⟨14, .data⟩ (by simp) rfl (by omega))
      have c0 : w1.cell? ⟨p0, 3, none⟩ = some (.int .i64 e.vs) := (HA2.out.kp2 hb).cell (enC_vs e)
      exact op_val (v := (.int .i64 e.vs)) rfl (by simp only [execOp, e24]; go_simp) (hK _ _ (show _ = _ from rfl) (Below.refl _ _) (Fresh.no _ _ _))
    · intro w1 hb hd K hK
      have e25 := D25.trans (show u 15 = (.int .i64 e.vs) from hd ⟨15, .data⟩ (by simp) rfl (by omega))
      refine op_call (R := fun v w2 => v = (.string (bS D)) ∧ Below w1.heap.size w1 w2) (f := 52) (args := #[.int .i64 e.vs]) rfl (by simp only [execOp]; go_simp; first | exact eval_get e25 | exact ⟨rfl, eval_get e25⟩ | exact ⟨eval_get e25, rfl⟩ | (simp only [Act.eval] at *; simp_all)) ((I4.out w1 (HE3.out.keep hb)).mono fun e w2 hh => ⟨_, hh.1, rfl, hh.2⟩) (fun v w2 hh => hK _ _ hh.1 hh.2 (Fresh.no _ _ _))
    · intro w1 hb hd K hK
      have e23 := D23.trans (show u 13 = (.string (bS (((((A ++ [32]) ++ B) ++ [32]) ++ C) ++ [32]))) from hd ⟨13, .data⟩ (by simp) rfl (by omega))
      have e26 := D26.trans (show u 16 = (.string (bS D)) from hd ⟨16, .data⟩ (by simp) rfl (by omega))
      exact op_val (v := (.string (bS ((((((A ++ [32]) ++ B) ++ [32]) ++ C) ++ [32]) ++ D)))) rfl (exec_sadd (l := (((((A ++ [32]) ++ B) ++ [32]) ++ C) ++ [32])) (m := D) rfl e23 e26 (by simp only [List.length_append, List.length_cons, List.length_nil]; omega)) (hK _ _ (show _ = _ from rfl) (Below.refl _ _) (Fresh.no _ _ _))
  have hv10 : u 0 = (.pointer (some ⟨p0, 0, none⟩)) := (show u 0 = _ from hsF 0 (by omega) (by omega))
  have hv11 : u 1 = (.int .i64 e.rd) := (show u 1 = _ from hsF 1 (by omega) (by omega))
  have hv12 : u 2 = (.string (bS A)) := (show u 2 = _ from hsF 2 (by omega) (by omega))
  have hv13 : u 3 = (.string (bS (A ++ [32]))) := (show u 3 = _ from hsF 3 (by omega) (by omega))
  have hv14 : u 4 = (.pointer (some ⟨p0, 1, none⟩)) := (show u 4 = _ from hsF 4 (by omega) (by omega))
  have hv15 : u 5 = (.int .i64 e.tb) := (show u 5 = _ from hsF 5 (by omega) (by omega))
  have hv16 : u 6 = (.string (bS B)) := (show u 6 = _ from hsF 6 (by omega) (by omega))
  have hv17 : u 7 = (.string (bS ((A ++ [32]) ++ B))) := (show u 7 = _ from hsF 7 (by omega) (by omega))
  have hv18 : u 8 = (.string (bS (((A ++ [32]) ++ B) ++ [32]))) := (show u 8 = _ from hsF 8 (by omega) (by omega))
  have hv19 : u 9 = (.pointer (some ⟨p0, 2, none⟩)) := (show u 9 = _ from hsF 9 (by omega) (by omega))
  have hv20 : u 10 = (.int .i64 e.bd) := (show u 10 = _ from hsF 10 (by omega) (by omega))
  have hv21 : u 11 = (.string (bS C)) := (show u 11 = _ from hsF 11 (by omega) (by omega))
  have hv22 : u 12 = (.string (bS ((((A ++ [32]) ++ B) ++ [32]) ++ C))) := (show u 12 = _ from hsF 12 (by omega) (by omega))
  have hv23 : u 13 = (.string (bS (((((A ++ [32]) ++ B) ++ [32]) ++ C) ++ [32]))) := (show u 13 = _ from hsF 13 (by omega) (by omega))
  have hv24 : u 14 = (.pointer (some ⟨p0, 3, none⟩)) := (show u 14 = _ from hsF 14 (by omega) (by omega))
  have hv25 : u 15 = (.int .i64 e.vs) := (show u 15 = _ from hsF 15 (by omega) (by omega))
  have hv26 : u 16 = (.string (bS D)) := (show u 16 = _ from hsF 16 (by omega) (by omega))
  have hv27 : u 17 = (.string (bS ((((((A ++ [32]) ++ B) ++ [32]) ++ C) ++ [32]) ++ D))) := (show u 17 = _ from hsF 17 (by omega) (by omega))
  simp only [putRow, hv10, hv11, hv12, hv13, hv14, hv15, hv16, hv17, hv18, hv19, hv20, hv21, hv22, hv23, hv24, hv25, hv26, hv27, Act.put, List.setIfInBounds_toArray, List.set_cons_succ, List.set_cons_zero]
  clear hsF hold hap hv10 hv11 hv12 hv13 hv14 hv15 hv16 hv17 hv18 hv19 hv20 hv21 hv22 hv23 hv24 hv25 hv26 hv27
  have HA3 := Lib.hid (HA2.out.kp2 hbF)
  have HE4 := Lib.hid (HE3.out.keep hbF)
  have HW3 := Lib.hid (HW2.out.trans (hbF.mono HW2.out.size))
  clear HA2 HE3 HW2 hbF I1 I2 I3 I4
  clear W2
  rw [← HHD.out]
  clear HHD l1 l2 l3 l4
  obtain ⟨S, hS⟩ : ∃ S, hd4 e = S := ⟨_, rfl⟩
  rw [hS] at H0 H4 HWD lh ⊢
  clear hS
  refine rest_forced 1 (by kernel_rfl) ?_
  simp only [List.drop_succ_cons, List.drop_zero, List.take_succ_cons, List.take_zero]
  go_wp2_with fail
  refine rest_done rfl ?_
  have x4 := HA3.out.cell (enC_kd e)
  rw [hkd] at x4
  by_cases k0 : kd = 0
  · subst k0
    have HN := Lib.hid (H0.out rfl)
    clear H0 H4 HWD HNK HWP HWN IF J0 J1
    go_wp2_with (guard_target =~ wpList _ _ _ (⟨some 32, _, _, _, _, _⟩ :: _) _ _; refine opl_val_w (by kernel_rfl) (exec_sadd (l := S) (m := [32, 118, 111, 105, 100]) rfl rfl rfl (by simp only [List.length_cons, List.length_nil]; omega)) ?_)
    go_ret2
    exact ⟨by rw [HX.out, HN.out]; rfl, HW3.out⟩
  have t0 : ((kd : Int) == 0) = false := by simp [k0]
  clear H0
  by_cases k4 : kd = 4
  · subst k4
    have HN := Lib.hid (H4.out rfl)
    clear H4 HWD HNK HWP HWN IF t0 k0
    go_upto_region 7 with fail
    refine rest_begin (by kernel_rfl) ?_
    have HA4 : Hid (Blk w'.drew p0 34 (enC e)) := HA3
    have HE5 := Lib.hid (HE4.out.keep (Below.refl _ w').drew)
    have HW4 := Lib.hid HW3.out.drew
    clear HA3 HE4 HW3 x4
    generalize w'.drew = W4 at *
    clear w'
    refine rest_flow3 [some 36, some 37, some 38, some 39, some 40, some 41, some 42, some 43, some 44, some 45, some 46, some 47, some 48] [Sp.is (.string (bS S)), Sp.is (.string (bS (S ++ [32, 97, 119, 97, 114, 100, 32]))), Sp.is (.pointer (some ⟨p0, 31, none⟩)), Sp.is (.pointer (some ⟨p0, 31, none⟩)), Sp.is (.int .i64 e.a0), Sp.is (.string (bS X0)), Sp.is (.string (bS ((S ++ [32, 97, 119, 97, 114, 100, 32]) ++ X0))), Sp.is (.string (bS (((S ++ [32, 97, 119, 97, 114, 100, 32]) ++ X0) ++ [32]))), Sp.is (.pointer (some ⟨p0, 31, none⟩)), Sp.is (.pointer (some ⟨p0, 32, none⟩)), Sp.is (.int .i64 e.a1), Sp.is (.string (bS X1)), Sp.is (.string (bS ((((S ++ [32, 97, 119, 97, 114, 100, 32]) ++ X0) ++ [32]) ++ X1)))] [false, false, false, false, false, false, false, false, false, false, false, false, false] 13 (by kernel_rfl) (by kernel_rfl) (fun u F hF => ?_) (fun u w' hbF hsF hold hap => ?_)
    case refine_1 =>
      have E4 : F.eval (.tmp 4) = (.string (bS S)) := (congrArg (fun a => Act.eval a (.tmp 4)) hF).trans (eval_out [some 36, some 37, some 38, some 39, some 40, some 41, some 42, some 43, some 44, some 45, some 46, some 47, some 48] 0 _ (by decide))
      have D36 : F.eval (.tmp 36) = u 0 := (congrArg (fun a => Act.eval a (.tmp 36)) hF).trans (eval_in [some 36, some 37, some 38, some 39, some 40, some 41, some 42, some 43, some 44, some 45, some 46, some 47, some 48] 0 0 _ (by decide) (by omega) rfl (of_decide_eq_true (by kernel_rfl)))
      have E1 : F.eval (.tmp 1) = (.pointer (some ⟨p0, 0, none⟩)) := (congrArg (fun a => Act.eval a (.tmp 1)) hF).trans (eval_out [some 36, some 37, some 38, some 39, some 40, some 41, some 42, some 43, some 44, some 45, some 46, some 47, some 48] 0 _ (by decide))
      have D38 : F.eval (.tmp 38) = u 2 := (congrArg (fun a => Act.eval a (.tmp 38)) hF).trans (eval_in [some 36, some 37, some 38, some 39, some 40, some 41, some 42, some 43, some 44, some 45, some 46, some 47, some 48] 0 2 _ (by decide) (by omega) rfl (of_decide_eq_true (by kernel_rfl)))
      have D39 : F.eval (.tmp 39) = u 3 := (congrArg (fun a => Act.eval a (.tmp 39)) hF).trans (eval_in [some 36, some 37, some 38, some 39, some 40, some 41, some 42, some 43, some 44, some 45, some 46, some 47, some 48] 0 3 _ (by decide) (by omega) rfl (of_decide_eq_true (by kernel_rfl)))
      have D40 : F.eval (.tmp 40) = u 4 := (congrArg (fun a => Act.eval a (.tmp 40)) hF).trans (eval_in [some 36, some 37, some 38, some 39, some 40, some 41, some 42, some 43, some 44, some 45, some 46, some 47, some 48] 0 4 _ (by decide) (by omega) rfl (of_decide_eq_true (by kernel_rfl)))
      have D37 : F.eval (.tmp 37) = u 1 := (congrArg (fun a => Act.eval a (.tmp 37)) hF).trans (eval_in [some 36, some 37, some 38, some 39, some 40, some 41, some 42, some 43, some 44, some 45, some 46, some 47, some 48] 0 1 _ (by decide) (by omega) rfl (of_decide_eq_true (by kernel_rfl)))
      have D41 : F.eval (.tmp 41) = u 5 := (congrArg (fun a => Act.eval a (.tmp 41)) hF).trans (eval_in [some 36, some 37, some 38, some 39, some 40, some 41, some 42, some 43, some 44, some 45, some 46, some 47, some 48] 0 5 _ (by decide) (by omega) rfl (of_decide_eq_true (by kernel_rfl)))
      have D42 : F.eval (.tmp 42) = u 6 := (congrArg (fun a => Act.eval a (.tmp 42)) hF).trans (eval_in [some 36, some 37, some 38, some 39, some 40, some 41, some 42, some 43, some 44, some 45, some 46, some 47, some 48] 0 6 _ (by decide) (by omega) rfl (of_decide_eq_true (by kernel_rfl)))
      have D44 : F.eval (.tmp 44) = u 8 := (congrArg (fun a => Act.eval a (.tmp 44)) hF).trans (eval_in [some 36, some 37, some 38, some 39, some 40, some 41, some 42, some 43, some 44, some 45, some 46, some 47, some 48] 0 8 _ (by decide) (by omega) rfl (of_decide_eq_true (by kernel_rfl)))
      have D45 : F.eval (.tmp 45) = u 9 := (congrArg (fun a => Act.eval a (.tmp 45)) hF).trans (eval_in [some 36, some 37, some 38, some 39, some 40, some 41, some 42, some 43, some 44, some 45, some 46, some 47, some 48] 0 9 _ (by decide) (by omega) rfl (of_decide_eq_true (by kernel_rfl)))
      have D46 : F.eval (.tmp 46) = u 10 := (congrArg (fun a => Act.eval a (.tmp 46)) hF).trans (eval_in [some 36, some 37, some 38, some 39, some 40, some 41, some 42, some 43, some 44, some 45, some 46, some 47, some 48] 0 10 _ (by decide) (by omega) rfl (of_decide_eq_true (by kernel_rfl)))
      have D43 : F.eval (.tmp 43) = u 7 := (congrArg (fun a => Act.eval a (.tmp 43)) hF).trans (eval_in [some 36, some 37, some 38, some 39, some 40, some 41, some 42, some 43, some 44, some 45, some 46, some 47, some 48] 0 7 _ (by decide) (by omega) rfl (of_decide_eq_true (by kernel_rfl)))
      have D47 : F.eval (.tmp 47) = u 11 := (congrArg (fun a => Act.eval a (.tmp 47)) hF).trans (eval_in [some 36, some 37, some 38, some 39, some 40, some 41, some 42, some 43, some 44, some 45, some 46, some 47, some 48] 0 11 _ (by decide) (by omega) rfl (of_decide_eq_true (by kernel_rfl)))
      clear hF
      refine ⟨?_, ?_, ?_, ?_, ?_, ?_, ?_, ?_, ?_, ?_, ?_, ?_, ?_, trivial⟩
      · intro w1 hb hd K hK
        have e4 := E4
        exact op_val (v := (.string (bS S))) rfl (by simp only [execOp, List.map_toArray, List.map_cons, List.map_nil, e4]; go_simp) (hK _ _ (show _ = _ from rfl) (Below.refl _ _) (Fresh.no _ _ _))
      · intro w1 hb hd K hK
        have e36 := D36.trans (show u 0 = (.string (bS S)) from hd ⟨0, .data⟩ (by simp) rfl (by omega))
        exact op_val (v := (.string (bS (S ++ [32, 97, 119, 97, 114, 100, 32])))) rfl (exec_sadd (l := S) (m := [32, 97, 119, 97, 114, 100, 32]) rfl e36 rfl (by simp only [List.length_append, List.length_cons, List.length_nil]; omega)) (hK _ _ (show _ = _ from rfl) (Below.refl _ _) (Fresh.no _ _ _))
      · intro w1 hb hd K hK
        have e1 := E1
        exact op_val (v := (.pointer (some ⟨p0, 31, none⟩))) rfl (by simp only [execOp, List.map_toArray, List.map_cons, List.map_nil, e1]; go_simp) (hK _ _ (show _ = _ from rfl) (Below.refl _ _) (Fresh.no _ _ _))
      · intro w1 hb hd K hK
        have e38 := D38.trans (show u 2 = (.pointer (some ⟨p0, 31, none⟩)) from hd ⟨2, .data⟩ (by simp) rfl (by omega))
        exact op_val (v := (.pointer (some ⟨p0, 31, none⟩))) rfl (by simp only [execOp, List.map_toArray, List.map_cons, List.map_nil, e38]; go_simp) (hK _ _ (show _ = _ from rfl) (Below.refl _ _) (Fresh.no _ _ _))
      · intro w1 hb hd K hK
        have e39 := D39.trans (show u 3 = (.pointer (some ⟨p0, 31, none⟩)) from hd ⟨3, .data⟩ (by simp) rfl (by omega))
        have c0 : w1.cell? ⟨p0, 31, none⟩ = some (.int .i64 e.a0) := (HA4.out.kp2 hb).cell (enC_a0 e)
        exact op_val (v := (.int .i64 e.a0)) rfl (by simp only [execOp, e39]; go_simp) (hK _ _ (show _ = _ from rfl) (Below.refl _ _) (Fresh.no _ _ _))
      · intro w1 hb hd K hK
        have e40 := D40.trans (show u 4 = (.int .i64 e.a0) from hd ⟨4, .data⟩ (by simp) rfl (by omega))
        refine op_call (R := fun v w2 => v = (.string (bS X0)) ∧ Below w1.heap.size w1 w2) (f := 52) (args := #[.int .i64 e.a0]) rfl (by simp only [execOp]; go_simp; first | exact eval_get e40 | exact ⟨rfl, eval_get e40⟩ | exact ⟨eval_get e40, rfl⟩ | (simp only [Act.eval] at *; simp_all)) ((J0.out w1 (HE5.out.keep hb)).mono fun e w2 hh => ⟨_, hh.1, rfl, hh.2⟩) (fun v w2 hh => hK _ _ hh.1 hh.2 (Fresh.no _ _ _))
      · intro w1 hb hd K hK
        have e37 := D37.trans (show u 1 = (.string (bS (S ++ [32, 97, 119, 97, 114, 100, 32]))) from hd ⟨1, .data⟩ (by simp) rfl (by omega))
        have e41 := D41.trans (show u 5 = (.string (bS X0)) from hd ⟨5, .data⟩ (by simp) rfl (by omega))
        exact op_val (v := (.string (bS ((S ++ [32, 97, 119, 97, 114, 100, 32]) ++ X0)))) rfl (exec_sadd (l := (S ++ [32, 97, 119, 97, 114, 100, 32])) (m := X0) rfl e37 e41 (by simp only [List.length_append, List.length_cons, List.length_nil]; omega)) (hK _ _ (show _ = _ from rfl) (Below.refl _ _) (Fresh.no _ _ _))
      · intro w1 hb hd K hK
        have e42 := D42.trans (show u 6 = (.string (bS ((S ++ [32, 97, 119, 97, 114, 100, 32]) ++ X0))) from hd ⟨6, .data⟩ (by simp) rfl (by omega))
        exact op_val (v := (.string (bS (((S ++ [32, 97, 119, 97, 114, 100, 32]) ++ X0) ++ [32])))) rfl (exec_sadd (l := ((S ++ [32, 97, 119, 97, 114, 100, 32]) ++ X0)) (m := [32]) rfl e42 rfl (by simp only [List.length_append, List.length_cons, List.length_nil]; omega)) (hK _ _ (show _ = _ from rfl) (Below.refl _ _) (Fresh.no _ _ _))
      · intro w1 hb hd K hK
        have e1 := E1
        exact op_val (v := (.pointer (some ⟨p0, 31, none⟩))) rfl (by simp only [execOp, List.map_toArray, List.map_cons, List.map_nil, e1]; go_simp) (hK _ _ (show _ = _ from rfl) (Below.refl _ _) (Fresh.no _ _ _))
      · intro w1 hb hd K hK
        have e44 := D44.trans (show u 8 = (.pointer (some ⟨p0, 31, none⟩)) from hd ⟨8, .data⟩ (by simp) rfl (by omega))
        exact op_val (v := (.pointer (some ⟨p0, 32, none⟩))) rfl (by simp only [execOp, List.map_toArray, List.map_cons, List.map_nil, e44]; go_simp) (hK _ _ (show _ = _ from rfl) (Below.refl _ _) (Fresh.no _ _ _))
      · intro w1 hb hd K hK
        have e45 := D45.trans (show u 9 = (.pointer (some ⟨p0, 32, none⟩)) from hd ⟨9, .data⟩ (by simp) rfl (by omega))
        have c0 : w1.cell? ⟨p0, 32, none⟩ = some (.int .i64 e.a1) := (HA4.out.kp2 hb).cell (enC_a1 e)
        exact op_val (v := (.int .i64 e.a1)) rfl (by simp only [execOp, e45]; go_simp) (hK _ _ (show _ = _ from rfl) (Below.refl _ _) (Fresh.no _ _ _))
      · intro w1 hb hd K hK
        have e46 := D46.trans (show u 10 = (.int .i64 e.a1) from hd ⟨10, .data⟩ (by simp) rfl (by omega))
        refine op_call (R := fun v w2 => v = (.string (bS X1)) ∧ Below w1.heap.size w1 w2) (f := 52) (args := #[.int .i64 e.a1]) rfl (by simp only [execOp]; go_simp; first | exact eval_get e46 | exact ⟨rfl, eval_get e46⟩ | exact ⟨eval_get e46, rfl⟩ | (simp only [Act.eval] at *; simp_all)) ((J1.out w1 (HE5.out.keep hb)).mono fun e w2 hh => ⟨_, hh.1, rfl, hh.2⟩) (fun v w2 hh => hK _ _ hh.1 hh.2 (Fresh.no _ _ _))
      · intro w1 hb hd K hK
        have e43 := D43.trans (show u 7 = (.string (bS (((S ++ [32, 97, 119, 97, 114, 100, 32]) ++ X0) ++ [32]))) from hd ⟨7, .data⟩ (by simp) rfl (by omega))
        have e47 := D47.trans (show u 11 = (.string (bS X1)) from hd ⟨11, .data⟩ (by simp) rfl (by omega))
        exact op_val (v := (.string (bS ((((S ++ [32, 97, 119, 97, 114, 100, 32]) ++ X0) ++ [32]) ++ X1)))) rfl (exec_sadd (l := (((S ++ [32, 97, 119, 97, 114, 100, 32]) ++ X0) ++ [32])) (m := X1) rfl e43 e47 (by simp only [List.length_append, List.length_cons, List.length_nil]; omega)) (hK _ _ (show _ = _ from rfl) (Below.refl _ _) (Fresh.no _ _ _))
    have hv36 : u 0 = (.string (bS S)) := (show u 0 = _ from hsF 0 (by omega) (by omega))
    have hv37 : u 1 = (.string (bS (S ++ [32, 97, 119, 97, 114, 100, 32]))) := (show u 1 = _ from hsF 1 (by omega) (by omega))
    have hv38 : u 2 = (.pointer (some ⟨p0, 31, none⟩)) := (show u 2 = _ from hsF 2 (by omega) (by omega))
    have hv39 : u 3 = (.pointer (some ⟨p0, 31, none⟩)) := (show u 3 = _ from hsF 3 (by omega) (by omega))
    have hv40 : u 4 = (.int .i64 e.a0) := (show u 4 = _ from hsF 4 (by omega) (by omega))
    have hv41 : u 5 = (.string (bS X0)) := (show u 5 = _ from hsF 5 (by omega) (by omega))
    have hv42 : u 6 = (.string (bS ((S ++ [32, 97, 119, 97, 114, 100, 32]) ++ X0))) := (show u 6 = _ from hsF 6 (by omega) (by omega))
    have hv43 : u 7 = (.string (bS (((S ++ [32, 97, 119, 97, 114, 100, 32]) ++ X0) ++ [32]))) := (show u 7 = _ from hsF 7 (by omega) (by omega))
    have hv44 : u 8 = (.pointer (some ⟨p0, 31, none⟩)) := (show u 8 = _ from hsF 8 (by omega) (by omega))
    have hv45 : u 9 = (.pointer (some ⟨p0, 32, none⟩)) := (show u 9 = _ from hsF 9 (by omega) (by omega))
    have hv46 : u 10 = (.int .i64 e.a1) := (show u 10 = _ from hsF 10 (by omega) (by omega))
    have hv47 : u 11 = (.string (bS X1)) := (show u 11 = _ from hsF 11 (by omega) (by omega))
    have hv48 : u 12 = (.string (bS ((((S ++ [32, 97, 119, 97, 114, 100, 32]) ++ X0) ++ [32]) ++ X1))) := (show u 12 = _ from hsF 12 (by omega) (by omega))
    simp only [putRow, hv36, hv37, hv38, hv39, hv40, hv41, hv42, hv43, hv44, hv45, hv46, hv47, hv48, Act.put, List.setIfInBounds_toArray, List.set_cons_succ, List.set_cons_zero]
    clear hsF hold hap hv36 hv37 hv38 hv39 hv40 hv41 hv42 hv43 hv44 hv45 hv46 hv47 hv48
    have HW5 := Lib.hid (HW4.out.trans (hbF.mono HW4.out.size))
    clear HA4 HE5 HW4 hbF J0 J1
    clear W4
    rw [← HN.out]
    refine rest_forced 2 (by kernel_rfl) ?_
    simp only [List.drop_succ_cons, List.drop_zero, List.take_succ_cons, List.take_zero]
    go_wp2_with fail
    refine rest_done rfl ?_
    go_wp2_with fail
    go_ret2
    exact ⟨by rw [HX.out]; rfl, HW5.out⟩
  have t4 : ((kd : Int) == 4) = false := by simp; omega
  clear H4 J0 J1
  have hnum : e.num ≠ 0 := by
    obtain ⟨g0, g1, g3, g2, g4⟩ := HNK.out
    have := HK4.out
    rcases (by omega : kd = 1 ∨ kd = 2 ∨ kd = 3) with h | h | h
    · have := g1 h; omega
    · have := g2 h; omega
    · have := g3 h; omega
  have HTX := Lib.hid (HWD.out hnum k4)
  obtain ⟨WK, hWK⟩ : ∃ WK, (32 :: (kindW kd ++ [32])) = WK := ⟨_, rfl⟩
  have lWK : WK.length ≤ 10 := by rw [← hWK]; simp only [List.length_append, List.length_cons, List.length_nil]; omega
  rw [hWK] at HTX
  have HWK := Lib.hid hWK
  have HK3 : Hid (kd = 1 ∨ kd = 2 ∨ kd = 3) := Lib.hid (by have := HK4.out; omega)
  clear hWK HWD HK4 k0 k4 lk
  go_upto_if 51 with fail
  go_cut [5] (fun s5 wx => s5 = .string (bS (if kd = 2 then [32, 119, 101, 105, 103, 104, 116, 101, 100, 32] else [32, 112, 108, 97, 121, 101, 100, 32])) ∧ wx = w')
  case first =>
    by_cases k2 : kd = 2
    · have t2 : ((kd : Int) == 2) = true := by simp [k2]
      have HK2 := Lib.hid k2
      clear k2
      go_wp2_with fail
      go_meet
      exact ⟨by rw [if_pos HK2.out]; rfl, rfl⟩
    · have t2 : ((kd : Int) == 2) = false := by simp; omega
      have HK2 := Lib.hid k2
      clear k2
      go_wp2_with fail
      go_meet
      exact ⟨by rw [if_neg HK2.out]; rfl, rfl⟩
  case rest =>
  obtain ⟨rfl, rfl⟩ := hcut
  go_upto_if 54 with fail
  go_cut [5] (fun s5 wx => s5 = .string (bS WK) ∧ wx = wc)
  case first =>
    by_cases k3 : kd = 3
    · have t3 : ((kd : Int) == 3) = true := by simp [k3]
      have hw : Hid (WK = [32, 115, 112, 108, 105, 116, 32]) := Lib.hid (by rw [← HWK.out, k3]; rfl)
      clear k3
      go_wp2_with fail
      go_meet
      exact ⟨by rw [hw.out]; rfl, rfl⟩
    · have t3 : ((kd : Int) == 3) = false := by simp; omega
      have hw : Hid ((if kd = 2 then [32, 119, 101, 105, 103, 104, 116, 101, 100, 32] else [32, 112, 108, 97, 121, 101, 100, 32] : List UInt8) = WK) := Lib.hid (by
        rw [← HWK.out]
        rcases HK3.out with h | h | h
        · rw [h]; rfl
        · rw [h]; rfl
        · omega)
      clear k3
      rw [hw.out]
      go_wp2_with fail
      go_meet
      exact ⟨rfl, rfl⟩
  case rest =>
  obtain ⟨rfl, rfl⟩ := hcut
  have x5 := HA3.out.cell (enC_fd e)
  clear x4 t0 t4
  go_wp2_with (guard_target =~ wpList _ _ _ (⟨some 57, _, _, _, _, _⟩ :: _) _ _; refine opl_val_w (by kernel_rfl) (exec_sadd (l := S) (m := WK) rfl rfl rfl (by omega)) ?_)
  refine (IF.out _ HE4.out).mono ?_
  rintro x w2 ⟨rfl, hb⟩
  have HA4 := Lib.hid (HA3.out.kp2 hb)
  have HE5 := Lib.hid (HE4.out.keep hb)
  have HW4 := Lib.hid (HW3.out.trans (hb.mono HW3.out.size))
  clear hb IF HA3 HE4 HW3 x5 wf
  obtain ⟨S2, hS2⟩ : ∃ S2, (S ++ WK) ++ FD = S2 := ⟨_, rfl⟩
  have lS2 : S2.length ≤ 140 := by rw [← hS2]; simp only [List.length_append]; omega
  rw [hS2] at HTX
  have x6 := HA4.out.cell (enC_tn e)
  obtain ⟨tn, htn⟩ : ∃ tn, e.tn = tn := ⟨_, rfl⟩
  rw [htn] at x6 HTX
  go_upto_region 14 with (guard_target =~ wpList _ _ _ (⟨some 62, _, _, _, _, _⟩ :: _) _ _; refine opl_val_w (by kernel_rfl) (exec_sadd (l := S ++ WK) (m := FD) rfl rfl rfl (by simp only [List.length_append]; omega)) ?_)
  clear hS2 htn lh lf lWK
  go_upto_if 64 with fail
  go_cut [4] (fun s4 wx => s4 = .string (bS (S2 ++ (32 :: wayW tn))) ∧ wx = w2)
  case first =>
    rcases tn with _ | _
    · go_wp2_with (guard_target =~ wpList _ _ _ (⟨some 68, _, _, _, _, _⟩ :: _) _ _; refine opl_val_w (by kernel_rfl) (exec_sadd (l := S2) (m := [32, 115, 116, 114, 97, 105, 103, 104, 116]) rfl rfl rfl (by simp only [List.length_cons, List.length_nil]; omega)) ?_)
      go_meet
      exact ⟨rfl, rfl⟩
    · go_wp2_with (guard_target =~ wpList _ _ _ (⟨some 66, _, _, _, _, _⟩ :: _) _ _; refine opl_val_w (by kernel_rfl) (exec_sadd (l := S2) (m := [32, 116, 117, 114, 110, 101, 100]) rfl rfl rfl (by simp only [List.length_cons, List.length_nil]; omega)) ?_)
      go_meet
      exact ⟨rfl, rfl⟩
  case rest =>
  obtain ⟨rfl, rfl⟩ := hcut
  obtain ⟨S3, hS3⟩ : ∃ S3, S2 ++ (32 :: wayW tn) = S3 := ⟨_, rfl⟩
  have lS3 : S3.length ≤ 160 := by
    rw [← hS3]
    have : (wayW tn).length ≤ 8 := by unfold wayW wTurned wStraight; split <;> simp
    simp only [List.length_append, List.length_cons]; omega
  rw [hS3] at HTX ⊢
  clear hS3 x6 lS2
  obtain ⟨n, hn⟩ : ∃ n, e.num = n := ⟨_, rfl⟩
  rw [hn] at HTX HNK HWP HWN hnum
  have hn4 := HNK.out.2.2.2.2
  clear hn
  go_wp2_with fail
  go_loopw [4, 6] (fun s4 s6 wr => ∃ k : Nat, k ≤ 4 ∧ s6 = .int .i64 (k : Int) ∧ s4 = .string (bS (S3 ++ outsT e (min k n))) ∧ Hid (Blk wr p0 34 (enC e)) ∧ Hid (Env wr) ∧ Hid (Below w.heap.size w wr)) (fun _ s6 _ => 4 - (intOf s6).toNat)
  case atStart => exact ⟨0, by omega, rfl, by rw [Nat.zero_min]; unfold outsT; simp, HA4, HE5, HW4⟩
  case round =>
    clear HA4 HE5 HW4
    obtain ⟨k, hk, rfl, rfl, HA, HE, HW⟩ := hrel
    by_cases hlt : k < 4
    · have u1 : decide ((k : Int) < 4) = true := decide_eq_true (by omega)
      have ek : IntKind.i64.wrap ((k : Int) + 1) = ((k + 1 : Nat) : Int) := by rw [show (((k + 1 : Nat) : Int)) = (k : Int) + 1 by omega]; exact IntWalk.i64_in _ (by omega)
      have j0 : (0 : Int) ≤ (k : Int) := by omega
      have j1 : (k : Int) < 4 := by omega
      have j2 : ¬ (4 : Int) ≤ (k : Int) := by omega
      have j3 : ¬ 4 ≤ k := by omega
      have y4 := HA.out.cell (enC_kd e)
      rw [hkd] at y4
      have y5 := (ou_cells HA.out k hlt).2.2.2.2.2
      have hlo := outsT_len e HI.out (min k n) (by omega)
      obtain ⟨cnd, hcnd⟩ : ∃ cnd, decide (k < n) = cnd := ⟨_, rfl⟩
      have HCN := Lib.hid hcnd
      have HKS := Lib.hid hk
      clear hcnd
      go_upto_region 20 with fail
      go_cut [91] (fun s91 wx => s91 = .bool cnd ∧ wx = wr)
      case first =>
        by_cases k0 : k = 0
        · have v0 : ((k : Int) == 0) = true := by simp [k0]
          have hc : cnd = true := by rw [← HCN.out]; exact decide_eq_true (by omega)
          clear k0
          subst hc
          go_wp2_with fail
          go_meet
          exact ⟨rfl, rfl⟩
        · have v0 : ((k : Int) == 0) = false := by simp [k0]
          have hwt : ¬ (kd = 3 ∧ k = 1) → decide (0 < (e.ou k).wt) = cnd := fun h => by
            rw [← HCN.out]
            obtain ⟨g0, g1, g3, g2, g4⟩ := HNK.out
            by_cases hkn : k < n
            · have hk2 : kd = 2 := by
                rcases HK3.out with h1 | h1 | h1
                · have := g1 h1; omega
                · exact h1
                · have := g3 h1; omega
              rw [decide_eq_true hkn, decide_eq_true (HWP.out hk2 k hkn)]
            · rw [decide_eq_false hkn, HWN.out k (by omega) hlt]; rfl
          by_cases k3 : kd = 3
          · have v3 : ((kd : Int) == 3) = true := by simp [k3]
            by_cases k1 : k = 1
            · have v1 : ((k : Int) == 1) = true := by simp [k1]
              have hc : cnd = true := by
                rw [← HCN.out]
                have := HNK.out.2.2.1 k3
                exact decide_eq_true (by omega)
              clear k0 k1 k3 hwt
              subst hc
              go_wp2_with fail
              go_meet
              exact ⟨rfl, rfl⟩
            · have v1 : ((k : Int) == 1) = false := by simp; omega
              have v9 := hwt (by omega)
              clear k0 k1 k3 hwt HCN
              go_wp2_with fail
              go_meet
              exact ⟨rfl, rfl⟩
          · have v3 : ((kd : Int) == 3) = false := by simp; omega
            have v9 := hwt (by omega)
            clear k0 k3 hwt HCN
            go_wp2_with fail
            go_meet
            exact ⟨rfl, rfl⟩
      case rest =>
        obtain ⟨rfl, rfl⟩ := hcut
        clear y4 y5
        rcases cnd with _ | _
        · have hkn := of_decide_eq_false HCN.out
          have hm : Hid (min (k + 1) n = min k n) := Lib.hid (by omega)
          clear hkn HCN
          go_wp2_with fail
          go_roundw
          case rel => exact ⟨k + 1, by omega, by simp, by rw [hm.out], HA, HE, HW⟩
          case measure => simp [intOf]; omega
        · have hkn := of_decide_eq_true HCN.out
          have hm : Hid (min (k + 1) n = k + 1 ∧ min k n = k) := Lib.hid (by omega)
          have lo := ou_load HA.out k hlt
          have OT := Lib.hid (routt_any (e.ou k) (outs_in HI.out _ (List.mem_of_getElem? (e.ou_at k hlt))) wc HE.out)
          have HST := Lib.hid (outsT_step e hlt)
          have hlx := txt_len (outs_in HI.out (e.ou k) (List.mem_of_getElem? (e.ou_at k hlt)))
          rw [hm.out.2] at hlo ⊢
          clear hkn HCN
          obtain ⟨Y, hY⟩ : ∃ Y, S3 ++ outsT e k = Y := ⟨_, rfl⟩
          have lY : Y.length ≤ 1000 := by rw [← hY, List.length_append]; omega
          rw [hY]
          have HY := Lib.hid hY
          clear hY hlo
          go_wp2_with (first
            | (guard_target =~ wpList _ _ _ (⟨some 93, _, _, _, _, _⟩ :: _) _ _; refine opl_val_w (by kernel_rfl) (exec_sadd (l := Y) (m := [32]) rfl rfl rfl (by simp only [List.length_cons, List.length_nil]; omega)) ?_)
            | (guard_target =~ wpList _ _ _ (⟨some 97, _, _, _, _, _⟩ :: _) _ _; refine op_load (p := .pointer (some ⟨p0, 7 + k * 6, none⟩)) (C := ouV (e.ou k)) 30 (.tmp 96) rfl rfl rfl lo ?_))
          refine OT.out.mono ?_
          rintro x w3 ⟨rfl, hb⟩
          have HA2 := Lib.hid (HA.out.kp2 hb)
          have HE2 := Lib.hid (HE.out.keep hb)
          have HW2 := Lib.hid (HW.out.trans (hb.mono HW.out.size))
          clear hb lo OT HA HE HW
          generalize (e.ou k).txt = OX at *
          go_wp2_with (guard_target =~ wpList _ _ _ (⟨some 99, _, _, _, _, _⟩ :: _) _ _; refine opl_val_w (by kernel_rfl) (exec_sadd (l := Y ++ [32]) (m := OX) rfl rfl rfl (by simp only [List.length_append, List.length_cons, List.length_nil]; omega)) ?_)
          go_roundw
          case rel => exact ⟨k + 1, by omega, by simp, by rw [hm.out.1, HST.out, ← HY.out]; simp, HA2, HE2, HW2⟩
          case measure => simp [intOf]; omega
    · obtain rfl : k = 4 := by omega
      clear hlt
      rw [show min 4 n = n by omega, ← HTX.out]
      rw [show ((4 : Nat) : Int) = 4 from rfl]
      go_wp2_with fail
      go_ret2
      exact ⟨by rw [HX.out]; rfl, HW.out⟩
end Go.Proofs.YtpkmibmombpjpaaGreatDoor
