/- The examples of the chapter are so: awake. -/
import Derived.Test.YtpkmibmombpjpaaGreatDoorEF
import Derived.Test.YtpkmibmombpjpaaGreatDoorEmM
import Derived.Test.YtpkmibmombpjpaaGreatDoorKcM
import Derived.Test.YtpkmibmombpjpaaGreatDoorEM
import Derived.Test.YtpkmibmombpjpaaGreatDoorEI
set_option linter.unusedSimpArgs false
namespace Go.Proofs.YtpkmibmombpjpaaGreatDoor
open Go Go.RowKit

theorem ex_in : ∀ e ∈ exL, e.In := by
  have z : inI 0 := inI_small (by omega)
  intro e he
  simp only [exL, atE, List.mem_cons, List.not_mem_nil, or_false] at he
  rcases he with rfl | rfl | rfl | rfl
  · exact gE_in ⟨z, inI_small (by omega), inI_small (by omega), inI_small (by omega)⟩ (by omega) (by omega) (fun o ho => by
      rw [List.mem_singleton.1 ho]; exact won_in (by omega) (by omega)) z z
  · exact gE_in ⟨z, inI_small (by omega), inI_small (by omega), inI_small (by omega)⟩ (by omega) (by omega) (fun o ho => by
      rcases List.mem_cons.1 ho with rfl | ho
      · exact won_in (by omega) (by omega)
      · rw [List.mem_singleton.1 ho]; exact won_in (by omega) (by omega)) z z
  · exact gE_in ⟨z, inI_small (by omega), inI_small (by omega), inI_small (by omega)⟩ (by omega) (by omega) (fun o ho => by cases ho) (inI_small (by omega)) (inI_small (by omega))
  · exact gE_in ⟨z, inI_small (by omega), inI_small (by omega), inI_small (by omega)⟩ (by omega) (by omega) (fun o ho => by cases ho) z z
theorem ex_right : ∀ e ∈ exL, rightE e = true := by
  intro e he
  simp only [exL, atE, List.mem_cons, List.not_mem_nil, or_false] at he
  rcases he with rfl | rfl | rfl | rfl <;> decide
theorem ex_check : ∀ e ∈ exL, checkE 2 exRows e = 0 := by
  intro e he
  simp only [exL, atE, List.mem_cons, List.not_mem_nil, or_false] at he
  rcases he with rfl | rfl | rfl | rfl <;> decide
theorem ex_set : setB exL = true ∧ setB (exL.take 3) = true ∧ countP exL = exL.drop 3 ∧ countP (exL.take 3) = (exL.take 3).drop 2 := by
  refine ⟨by decide, by decide, ?_, ?_⟩
  · simp [exL, countP, keyE, gE, atE]
  · simp [exL, countP, keyE, gE, atE]
/-- The first entry with one thing changed. -/
def chgE (i : Nat) : En :=
  let e := gE 0 2 9 1 1 0 false [wonO 10 0] 0 0
  if i = 0 then { e with bd := 11 } else if i = 1 then { e with tb := 3 } else if i = 2 then { e with vs := 0 } else if i = 3 then gE 0 2 9 1 1 0 false [wonO 14 0] 0 0 else gE 0 2 9 0 1 0 false [wonO 14 0] 0 0
def wantE (i : Nat) : Int := if i = 0 then 311 else if i = 1 then 310 else if i = 2 then 312 else if i = 3 then 313 else 312
theorem chg_check (i : Nat) (h : i < 5) : checkE 2 exRows (chgE i) = wantE i := by
  rcases (by omega : i = 0 ∨ i = 1 ∨ i = 2 ∨ i = 3 ∨ i = 4) with rfl | rfl | rfl | rfl | rfl <;> decide
theorem wonB_in {t w : Int} (h : 0 ≤ t ∧ t ≤ 100) (hw : 0 ≤ w ∧ w ≤ 100) : (wonO t w).In := ⟨by show 4 < 256; omega, by show 3 < 256; omega, by show 0 < 256; omega, by show 2 < 256; omega, inI_small (by show -1000 ≤ t ∧ t ≤ 1000; omega), inI_small (by show -1000 ≤ w ∧ w ≤ 1000; omega)⟩
theorem chg_in (i : Nat) (h : i < 5) : (chgE i).In := by
  have z : inI 0 := inI_small (by omega)
  have key : ∀ (a b c : Int) (t : Int), (0 ≤ a ∧ a ≤ 100) → (0 ≤ b ∧ b ≤ 100) → (0 ≤ c ∧ c ≤ 100) → (0 ≤ t ∧ t ≤ 100) → (gE 0 a b c 1 0 false [wonO t 0] 0 0).In := fun a b c t h1 h2 h3 h4 =>
    gE_in ⟨z, inI_small (by omega), inI_small (by omega), inI_small (by omega)⟩ (by omega) (by omega) (fun o ho => by rw [List.mem_singleton.1 ho]; exact wonB_in h4 (by omega)) z z
  rcases (by omega : i = 0 ∨ i = 1 ∨ i = 2 ∨ i = 3 ∨ i = 4) with rfl | rfl | rfl | rfl | rfl
  · exact key 2 11 1 10 (by omega) (by omega) (by omega) (by omega)
  · exact key 3 9 1 10 (by omega) (by omega) (by omega) (by omega)
  · exact key 2 9 0 10 (by omega) (by omega) (by omega) (by omega)
  · exact key 2 9 1 14 (by omega) (by omega) (by omega) (by omega)
  · exact key 2 9 0 14 (by omega) (by omega) (by omega) (by omega)
theorem ex_texts : (exL.map fun e => Value.string (bS e.txt)).toArray = #[.string ⟨#[48, 32, 50, 32, 57, 32, 49, 32, 112, 108, 97, 121, 101, 100, 32, 48, 32, 115, 116, 114, 97, 105, 103, 104, 116, 32, 52, 46, 51, 46, 48, 46, 50, 46, 49, 48]⟩,
   .string ⟨#[48, 32, 50, 32, 57, 32, 50, 32, 119, 101, 105, 103, 104, 116, 101, 100, 32, 48, 32, 115, 116, 114, 97, 105, 103, 104, 116, 32, 52, 46, 51, 46, 48, 46, 50, 46, 49, 48, 58, 54, 48, 32, 52, 46, 51, 46, 48, 46, 50, 46, 57, 58, 52, 48]⟩,
   .string ⟨#[48, 32, 50, 32, 57, 32, 51, 32, 97, 119, 97, 114, 100, 32, 54, 48, 32, 52, 48]⟩,
   .string ⟨#[48, 32, 50, 32, 57, 32, 52, 32, 118, 111, 105, 100]⟩] := by kernel_rfl
attribute [irreducible] wantE chgE
end Go.Proofs.YtpkmibmombpjpaaGreatDoor
set_option linter.unusedSimpArgs false
namespace Go.Proofs.YtpkmibmombpjpaaGreatDoor
open Go Go.RowKit

theorem op_slice {ops : Array Oper} {rest : List Oper} {o : Oper} {a : Act} {Q : Exit → Act → World → Prop} {w : World} {p v : Value} {l h m : Option Value} (T : TypeId) (s : Operand) (lo hi mx : Option Operand) (hg : o.guard = none) (ho : o.op = .slice T s lo hi mx) (hs : a.eval s = p) (hl : lo.map a.eval = l) (hh : hi.map a.eval = h) (hm : mx.map a.eval = m)
    (hr : (Instr.sliceAt T p l h m).run Tryz.prog w = .ok v w) (hK : wpList Tryz.prog ops Q rest (a.put o.dst v) w) : wpList Tryz.prog ops Q (o :: rest) a w := by
  refine wpList_plain hg fun K hk => ?_
  unfold Oper.wp
  rw [exec_slice ho hs hl hh hm hr, Oper.upon_value]
  exact hk _ _ hK
theorem es_part {W : World} {b o n c lo hi : Nat} {l : List En} (h : ES W (.slice (some ⟨b, o, none⟩) n c) l) (h1 : lo ≤ hi) (h2 : hi ≤ n) : ES W (.slice (some ⟨b, o + lo * 33, none⟩) (hi - lo) (c - lo)) ((l.take hi).drop lo) := by
  cases h with
  | some_ b o cap l hlt hc h =>
    have hl : ((l.take hi).drop lo).length = hi - lo := by simp; omega
    have := LS.some_ (enc := enC) (sz := 33) (W := W) b (o + lo * 33) (c - lo) ((l.take hi).drop lo) hlt (by rw [hl]; omega) (fun i e he j v hj => by
      rw [show o + lo * 33 + i * 33 + j = o + (lo + i) * 33 + j by rw [Nat.add_mul]; omega]
      refine h (lo + i) e ?_ j v hj
      rw [List.getElem?_drop, List.getElem?_take] at he
      split at he
      · exact he
      · cases he)
    rwa [hl] at this
/-- What the examples' function holds. -/
structure AW (w W : World) (ps : Nat) (v u : Value) : Prop where
  env : Env W
  below : Below w.heap.size w W
  ses : Blk W ps 26 (snC 0 0 0 0 0 v 2)
  rows : WS W v exRows
  ents : ES W u exL
theorem AW.keep {w W W' : World} {ps : Nat} {v u : Value} (h : AW w W ps v u) (hb : Below W.heap.size W W') : AW w W' ps v u :=
  ⟨h.env.keep hb, h.below.trans (hb.mono h.below.size), h.ses.keep hb h.ses.lt, h.rows.keep hb, h.ents.keep hb⟩
theorem ex_at {i : Nat} (h : i < 4) : ∃ e, exL[i]? = some e ∧ e ∈ exL := ⟨_, List.getElem?_eq_getElem (show i < exL.length from h), List.getElem_mem _⟩
theorem tx_at {i : Nat} {e : En} (h : exL[i]? = some e) : ((exL.map fun e => Value.string (bS e.txt)).toArray)[i]? = some (.string (bS e.txt)) := by
  rw [List.getElem?_toArray, List.getElem?_map, h]; rfl
theorem ex_len : ∀ e ∈ exL, e.txt.length ≤ 1000000 := by
  intro e he
  simp only [exL, atE, List.mem_cons, List.not_mem_nil, or_false] at he
  rcases he with rfl | rfl | rfl | rfl <;> exact of_decide_eq_true (by kernel_rfl)
/-- What is wanted of the changed entries. -/
def wantC : Array Value := ((List.range 5).map fun i => Value.int .i64 (wantE i)).toArray
theorem want_at (i : Nat) (h : i < 5) : wantC[i]? = some (.int .i64 (wantE i)) := by
  unfold wantC
  rw [List.getElem?_toArray, List.getElem?_map, List.getElem?_range h]; rfl
def ex0 : En := gE 0 2 9 1 1 0 false [wonO 10 0] 0 0
set_option maxRecDepth 100000 in
set_option maxHeartbeats 8000000 in
theorem awake_any (w : World) (he : Env w) : Calls Tryz.prog 11 #[] w (fun r w' => r = .returned (.bool true) ∧ Below w.heap.size w w') := by
  have HE := Lib.hid he
  have EX := Lib.hid (exampleL_any w)
  clear he
  go_enter Tryz.func11, Tryz.ntmps11
  go_wp2_with fail
  refine EX.out.mono ?_
  rintro x w1 ⟨⟨v, u, rfl, hv, hu⟩, hb⟩
  obtain ⟨Av, cv, rfl, -⟩ := hv.len
  obtain ⟨Au, cu, rfl, hcu⟩ := hu.len
  obtain ⟨bu, ou, rfl⟩ := hu.ptr (by show 0 < 4; omega)
  obtain ⟨v, hv0⟩ : ∃ v, Value.slice Av exRows.length cv = v := ⟨_, rfl⟩
  have hv1 : (snC 0 0 0 0 0 v 2).all (·.oneCell') = true := by rw [← hv0]; kernel_rfl
  rw [hv0] at hv ⊢
  have hcu : 4 ≤ cu := hcu
  rw [show exL.length = 4 from rfl] at hu ⊢
  have HA0 : Hid (AW w (w1.alloc (.cells (snC 0 0 0 0 0 v 2) 26)) w1.heap.size v (.slice (some ⟨bu, ou, none⟩) 4 cu)) := Lib.hid
    ⟨(HE.out.keep hb).keep (below1 _ _), hb.trans ((below1 w1 _).mono hb.size), Blk.new _ _ _, hv.keep (below1 _ _), hu.keep (below1 _ _)⟩
  have st := storeAt_row (T := 26) (C := snC 0 0 0 0 0 v 2) (Blk.new w1 26 #[.int .i64 0, .int .i64 0, .int .i64 0, .int .i64 0, .int .i64 0, .slice none 0 0, .int .i64 0]) (by kernel_rfl) rfl hv1
  rw [setRow_new] at st
  clear EX HE hv hu hb hv0
  go_upto_region 2 with (refine op_store (p := .pointer (some ⟨w1.heap.size, 0, none⟩)) (C := .agg (snC 0 0 0 0 0 v 2)) 26 (.tmp 1) (.tmp 18) rfl rfl rfl rfl rfl st ?_)
  clear st
  generalize w1.heap.size = ps at *
  generalize w1.alloc (.cells (snC 0 0 0 0 0 v 2) 26) = W1 at *
  clear w1
  have HA1 := Lib.hid (HA0.out.keep (below1 W1 (.cells (exL.map fun e => Value.string (bS e.txt)).toArray 9)))
  have HT1 := Lib.hid (Blk.new W1 9 (exL.map fun e => Value.string (bS e.txt)).toArray)
  have HTX := Lib.hid (fun (i : Nat) (e : En) (h : exL[i]? = some e) => tx_at h)
  clear HA0
  go_wp2_with (refine op_bsl 59 9 4 _ (exL.map fun e => Value.string (bS e.txt)).toArray rfl rfl (by rw [ex_texts]; kernel_rfl) ?_)
  generalize (exL.map fun e => Value.string (bS e.txt)).toArray = TX at *
  generalize W1.heap.size = pt at *
  generalize W1.alloc (.cells TX 9) = W2 at *
  clear W1
  go_loopw [22] (fun s22 wr => ∃ i : Nat, i ≤ 4 ∧ s22 = .int .i64 (i : Int) ∧ Hid (AW w wr ps v (.slice (some ⟨bu, ou, none⟩) 4 cu)) ∧ Hid (Blk wr pt 9 TX)) (fun s22 _ => 4 - (intOf s22).toNat)
  case atStart => exact ⟨0, by omega, rfl, HA1, HT1⟩
  case round =>
    clear HA1 HT1
    obtain ⟨i, hi, rfl, HA, HT⟩ := hrel
    by_cases hlt : i < 4
    · have t1 : decide ((i : Int) < 4) = true := decide_eq_true (by omega)
      obtain ⟨e, hx, hm⟩ := ex_at hlt
      have c0 := HT.out.cell (HTX.out i e hx)
      have lo1 := fun W (hb : Below wr.heap.size wr W) => HA.out.ents.load hx hb
      have TC := Lib.hid (fun W (hb : Below wr.heap.size wr W) => text_any e (ex_in e hm) W (HA.out.env.keep hb))
      rw [textV_t (ex_right e hm)] at TC
      have RC := Lib.hid (fun W (hb : Below wr.heap.size wr W) => read_any e.txt (ex_len e hm) W (HA.out.env.keep hb))
      rw [read_is ⟨ex_in e hm, ex_right e hm, rfl⟩, readV] at RC
      have CC := Lib.hid (fun W (hb : Below wr.heap.size wr W) => check_any 0 0 0 0 0 2 exRows e (by decide) (ex_in e hm) v W (HA.out.rows.keep hb))
      rw [ex_check e hm] at CC
      have ne := neq_deep (eq_en e e (ex_in e hm) (ex_in e hm))
      rw [eqEn_self] at ne
      have j0 : (0 : Int) ≤ (i : Int) := by omega
      have j1 : (i : Int) < 4 := by omega
      have j2 : ¬ (4 : Int) ≤ (i : Int) := by omega
      have j3 : ¬ 4 ≤ i := by omega
      have e1 : IntKind.i64.wrap ((i : Int) + 1) = (i : Int) + 1 := IntWalk.i64_in _ (by omega)
      obtain ⟨S, hS⟩ : ∃ S, bS e.txt = S := ⟨_, rfl⟩
      rw [hS] at c0 TC RC
      have w0 : IntKind.i64.wrap 0 = 0 := by decide
      have sn : (S.toList == S.toList) = true := by simp
      have la := lo1 wr (Below.refl _ _)
      clear hx hm hS
      go_wp2_with (refine op_load (p := .pointer (some ⟨bu, ou + i * 33, none⟩)) 34 (.tmp 30) rfl rfl rfl la ?_)
      refine (TC.out _ (Below.refl _ _)).mono ?_
      rintro x w3 ⟨rfl, hb3⟩
      go_wp2_with fail
      refine (RC.out _ hb3).mono ?_
      rintro x w4 ⟨rfl, hb4⟩
      have hb5 := (hb3.trans (hb4.mono hb3.size)).trans ((below1 w4 (.cells (enC e) 34)).mono (Nat.le_trans hb3.size hb4.size))
      have HB := Lib.hid (Blk.new w4 34 (enC e))
      have HA2 := Lib.hid (HA.out.keep hb5)
      have HT2 := Lib.hid (HT.out.keep hb5 HT.out.lt)
      have st := storeAt_row (T := 34) (C := enC e) (Blk.new w4 34 (enC zE)) (by rw [enC_size]; kernel_rfl) (by simp only [enC_size]) (enC_one e)
      rw [setRow_new, zE_lit] at st
      have lo2 := fun W (hb : Below (w4.alloc (.cells (enC e) 34)).heap.size (w4.alloc (.cells (enC e) 34)) W) => lo1 W (hb5.trans (hb.mono hb5.size))
      have CD := Lib.hid (fun W (hb : Below (w4.alloc (.cells (enC e) 34)).heap.size (w4.alloc (.cells (enC e) 34)) W) => CC.out W (hb5.trans (hb.mono hb5.size)))
      clear TC RC CC la lo1 hb3 hb4 hb5 HA HT c0
      clear w3
      go_upto_region 7 with (refine op_store (p := .pointer (some ⟨w4.heap.size, 0, none⟩)) (C := .agg (enC e)) 34 (.tmp 7) (.tmp 38) rfl rfl rfl rfl rfl st ?_)
      clear st
      generalize w4.heap.size = pb at *
      generalize w4.alloc (.cells (enC e) 34) = W5 at *
      clear w4
      refine rest_begin (by kernel_rfl) ?_
      have HA3 : Hid (AW w W5.drew ps v (.slice (some ⟨bu, ou, none⟩) 4 cu)) := Lib.hid (HA2.out.keep (Below.refl _ _).drew)
      have HT3 : Hid (Blk W5.drew pt 9 TX) := HT2
      have HB3 : Hid (Blk W5.drew pb 34 (enC e)) := HB
      have lo3 := fun W (hb : Below W5.drew.heap.size W5.drew W) => lo2 W ((Below.refl _ W5).drew.trans hb)
      have CK := Lib.hid (fun W (hb : Below W5.drew.heap.size W5.drew W) => CD.out W ((Below.refl _ W5).drew.trans hb))
      clear HA2 HT2 HB lo2 CD
      generalize W5.drew = W6 at *
      clear W5
      refine rest_flow3 [some 40, some 41, some 42, some 43, some 44, some 45, some 46, some 47, some 48, some 49, some 50, some 51, some 52, some 53, some 54, some 55, some 56, some 57, some 58, some 59, some 60, some 61, some 62, some 63, some 64] [Sp.is (.int .i64 0), Sp.is (.int .i64 0), Sp.is (.int .i64 0), Sp.is (.bool false), Sp.is (.bool false), Sp.is (.string S), Sp.is (.string S), Sp.is (.bool false), Sp.is (.bool false), Sp.is (.bool false), Sp.is (.agg (enC e)), Sp.is (.slice (some ⟨bu, ou, none⟩) 4 cu), Sp.is (.int .i64 ((i : Nat) : Int)), Sp.is (.pointer (some ⟨bu, ou + i * 33, none⟩)), Sp.is (.agg (enC e)), Sp.is (.bool false), Sp.is (.bool false), Sp.is (.bool false), Sp.is (.agg (snC 0 0 0 0 0 v 2)), Sp.is (.slice (some ⟨bu, ou, none⟩) 4 cu), Sp.is (.int .i64 ((i : Nat) : Int)), Sp.is (.pointer (some ⟨bu, ou + i * 33, none⟩)), Sp.is (.agg (enC e)), Sp.is (.int .i64 0), Sp.is (.bool false)] [false, false, false, false, false, false, false, false, false, false, false, false, false, false, false, false, false, false, false, false, false, false, false, false, false] 25 (by kernel_rfl) (by kernel_rfl) (fun u F hF => ?_) (fun u w' hbF hsF hold hap => ?_)
      case refine_1 =>
        have E6 : F.eval (.tmp 6) = (.int .i64 0) := (congrArg (fun a => Act.eval a (.tmp 6)) hF).trans (eval_out _ 0 _ (by decide))
        have E8 : F.eval (.tmp 8) = (.int .i64 0) := (congrArg (fun a => Act.eval a (.tmp 8)) hF).trans (eval_out _ 0 _ (by decide))
        have D40 : F.eval (.tmp 40) = u 0 := (congrArg (fun a => Act.eval a (.tmp 40)) hF).trans (eval_in _ 0 0 _ (by decide) (by omega) rfl (of_decide_eq_true (by kernel_rfl)))
        have D41 : F.eval (.tmp 41) = u 1 := (congrArg (fun a => Act.eval a (.tmp 41)) hF).trans (eval_in _ 0 1 _ (by decide) (by omega) rfl (of_decide_eq_true (by kernel_rfl)))
        have D42 : F.eval (.tmp 42) = u 2 := (congrArg (fun a => Act.eval a (.tmp 42)) hF).trans (eval_in _ 0 2 _ (by decide) (by omega) rfl (of_decide_eq_true (by kernel_rfl)))
        have D43 : F.eval (.tmp 43) = u 3 := (congrArg (fun a => Act.eval a (.tmp 43)) hF).trans (eval_in _ 0 3 _ (by decide) (by omega) rfl (of_decide_eq_true (by kernel_rfl)))
        have E5 : F.eval (.tmp 5) = (.string S) := (congrArg (fun a => Act.eval a (.tmp 5)) hF).trans (eval_out _ 0 _ (by decide))
        have D44 : F.eval (.tmp 44) = u 4 := (congrArg (fun a => Act.eval a (.tmp 44)) hF).trans (eval_in _ 0 4 _ (by decide) (by omega) rfl (of_decide_eq_true (by kernel_rfl)))
        have E4 : F.eval (.tmp 4) = (.string S) := (congrArg (fun a => Act.eval a (.tmp 4)) hF).trans (eval_out _ 0 _ (by decide))
        have D45 : F.eval (.tmp 45) = u 5 := (congrArg (fun a => Act.eval a (.tmp 45)) hF).trans (eval_in _ 0 5 _ (by decide) (by omega) rfl (of_decide_eq_true (by kernel_rfl)))
        have D46 : F.eval (.tmp 46) = u 6 := (congrArg (fun a => Act.eval a (.tmp 46)) hF).trans (eval_in _ 0 6 _ (by decide) (by omega) rfl (of_decide_eq_true (by kernel_rfl)))
        have D47 : F.eval (.tmp 47) = u 7 := (congrArg (fun a => Act.eval a (.tmp 47)) hF).trans (eval_in _ 0 7 _ (by decide) (by omega) rfl (of_decide_eq_true (by kernel_rfl)))
        have D48 : F.eval (.tmp 48) = u 8 := (congrArg (fun a => Act.eval a (.tmp 48)) hF).trans (eval_in _ 0 8 _ (by decide) (by omega) rfl (of_decide_eq_true (by kernel_rfl)))
        have E7 : F.eval (.tmp 7) = (.pointer (some ⟨pb, 0, none⟩)) := (congrArg (fun a => Act.eval a (.tmp 7)) hF).trans (eval_out _ 0 _ (by decide))
        have D49 : F.eval (.tmp 49) = u 9 := (congrArg (fun a => Act.eval a (.tmp 49)) hF).trans (eval_in _ 0 9 _ (by decide) (by omega) rfl (of_decide_eq_true (by kernel_rfl)))
        have E2 : F.eval (.tmp 2) = (.slice (some ⟨bu, ou, none⟩) 4 cu) := (congrArg (fun a => Act.eval a (.tmp 2)) hF).trans (eval_out _ 0 _ (by decide))
        have E3 : F.eval (.tmp 3) = (.int .i64 ((i : Nat) : Int)) := (congrArg (fun a => Act.eval a (.tmp 3)) hF).trans (eval_out _ 0 _ (by decide))
        have D51 : F.eval (.tmp 51) = u 11 := (congrArg (fun a => Act.eval a (.tmp 51)) hF).trans (eval_in _ 0 11 _ (by decide) (by omega) rfl (of_decide_eq_true (by kernel_rfl)))
        have D52 : F.eval (.tmp 52) = u 12 := (congrArg (fun a => Act.eval a (.tmp 52)) hF).trans (eval_in _ 0 12 _ (by decide) (by omega) rfl (of_decide_eq_true (by kernel_rfl)))
        have D53 : F.eval (.tmp 53) = u 13 := (congrArg (fun a => Act.eval a (.tmp 53)) hF).trans (eval_in _ 0 13 _ (by decide) (by omega) rfl (of_decide_eq_true (by kernel_rfl)))
        have D50 : F.eval (.tmp 50) = u 10 := (congrArg (fun a => Act.eval a (.tmp 50)) hF).trans (eval_in _ 0 10 _ (by decide) (by omega) rfl (of_decide_eq_true (by kernel_rfl)))
        have D54 : F.eval (.tmp 54) = u 14 := (congrArg (fun a => Act.eval a (.tmp 54)) hF).trans (eval_in _ 0 14 _ (by decide) (by omega) rfl (of_decide_eq_true (by kernel_rfl)))
        have D55 : F.eval (.tmp 55) = u 15 := (congrArg (fun a => Act.eval a (.tmp 55)) hF).trans (eval_in _ 0 15 _ (by decide) (by omega) rfl (of_decide_eq_true (by kernel_rfl)))
        have D56 : F.eval (.tmp 56) = u 16 := (congrArg (fun a => Act.eval a (.tmp 56)) hF).trans (eval_in _ 0 16 _ (by decide) (by omega) rfl (of_decide_eq_true (by kernel_rfl)))
        have E1 : F.eval (.tmp 1) = (.pointer (some ⟨ps, 0, none⟩)) := (congrArg (fun a => Act.eval a (.tmp 1)) hF).trans (eval_out _ 0 _ (by decide))
        have D57 : F.eval (.tmp 57) = u 17 := (congrArg (fun a => Act.eval a (.tmp 57)) hF).trans (eval_in _ 0 17 _ (by decide) (by omega) rfl (of_decide_eq_true (by kernel_rfl)))
        have D59 : F.eval (.tmp 59) = u 19 := (congrArg (fun a => Act.eval a (.tmp 59)) hF).trans (eval_in _ 0 19 _ (by decide) (by omega) rfl (of_decide_eq_true (by kernel_rfl)))
        have D60 : F.eval (.tmp 60) = u 20 := (congrArg (fun a => Act.eval a (.tmp 60)) hF).trans (eval_in _ 0 20 _ (by decide) (by omega) rfl (of_decide_eq_true (by kernel_rfl)))
        have D61 : F.eval (.tmp 61) = u 21 := (congrArg (fun a => Act.eval a (.tmp 61)) hF).trans (eval_in _ 0 21 _ (by decide) (by omega) rfl (of_decide_eq_true (by kernel_rfl)))
        have D58 : F.eval (.tmp 58) = u 18 := (congrArg (fun a => Act.eval a (.tmp 58)) hF).trans (eval_in _ 0 18 _ (by decide) (by omega) rfl (of_decide_eq_true (by kernel_rfl)))
        have D62 : F.eval (.tmp 62) = u 22 := (congrArg (fun a => Act.eval a (.tmp 62)) hF).trans (eval_in _ 0 22 _ (by decide) (by omega) rfl (of_decide_eq_true (by kernel_rfl)))
        have D63 : F.eval (.tmp 63) = u 23 := (congrArg (fun a => Act.eval a (.tmp 63)) hF).trans (eval_in _ 0 23 _ (by decide) (by omega) rfl (of_decide_eq_true (by kernel_rfl)))
        clear hF
        refine ⟨?_, ?_, ?_, ?_, ?_, ?_, ?_, ?_, ?_, ?_, ?_, ?_, ?_, ?_, ?_, ?_, ?_, ?_, ?_, ?_, ?_, ?_, ?_, ?_, ?_, trivial⟩
        · intro w1 hb hd K hK
          have e6 := E6
          exact op_val (v := (.int .i64 0)) rfl (by simp only [execOp, List.map_toArray, List.map_cons, List.map_nil, e6]; go_simp) (hK _ _ (show _ = _ from rfl) (Below.refl _ _) (Fresh.no _ _ _))
        · intro w1 hb hd K hK
          have e8 := E8
          exact op_val (v := (.int .i64 0)) rfl (by simp only [execOp, List.map_toArray, List.map_cons, List.map_nil, e8]; go_simp) (hK _ _ (show _ = _ from rfl) (Below.refl _ _) (Fresh.no _ _ _))
        · intro w1 hb hd K hK
          have e40 := D40.trans (show u 0 = _ from hd ⟨0, .data⟩ (by simp) rfl (by omega))
          have e41 := D41.trans (show u 1 = _ from hd ⟨1, .data⟩ (by simp) rfl (by omega))
          exact op_val (v := (.int .i64 0)) rfl (by simp only [execOp, List.map_toArray, List.map_cons, List.map_nil, e40, e41]; go_simp) (hK _ _ (show _ = _ from rfl) (Below.refl _ _) (Fresh.no _ _ _))
        · intro w1 hb hd K hK
          have e42 := D42.trans (show u 2 = _ from hd ⟨2, .data⟩ (by simp) rfl (by omega))
          exact op_val (v := (.bool false)) rfl (by simp only [execOp, List.map_toArray, List.map_cons, List.map_nil, e42]; go_simp) (hK _ _ (show _ = _ from rfl) (Below.refl _ _) (Fresh.no _ _ _))
        · intro w1 hb hd K hK
          have e43 := D43.trans (show u 3 = _ from hd ⟨3, .data⟩ (by simp) rfl (by omega))
          exact op_val (v := (.bool false)) rfl (by simp only [execOp, List.map_toArray, List.map_cons, List.map_nil, e43]; go_simp) (hK _ _ (show _ = _ from rfl) (Below.refl _ _) (Fresh.no _ _ _))
        · intro w1 hb hd K hK
          have e5 := E5
          have g := D44.trans (show u 4 = .bool false from hd ⟨4, .guard⟩ (by simp) rfl (by omega))
          exact op_val_w (v := (.string S)) (wanted_of (j := 4) (s := 44) (b := false) (by kernel_rfl) (by kernel_rfl) g) (by simp only [execOp, List.map_toArray, List.map_cons, List.map_nil, e5]; go_simp) (hK _ _ (show _ = _ from rfl) (Below.refl _ _) (Fresh.no _ _ _))
        · intro w1 hb hd K hK
          have e4 := E4
          have g := D44.trans (show u 4 = .bool false from hd ⟨4, .guard⟩ (by simp) rfl (by omega))
          exact op_val_w (v := (.string S)) (wanted_of (j := 4) (s := 44) (b := false) (by kernel_rfl) (by kernel_rfl) g) (by simp only [execOp, List.map_toArray, List.map_cons, List.map_nil, e4]; go_simp) (hK _ _ (show _ = _ from rfl) (Below.refl _ _) (Fresh.no _ _ _))
        · intro w1 hb hd K hK
          have e45 := D45.trans (show u 5 = _ from hd ⟨5, .data⟩ (by simp) rfl (by omega))
          have e46 := D46.trans (show u 6 = _ from hd ⟨6, .data⟩ (by simp) rfl (by omega))
          have g := D44.trans (show u 4 = .bool false from hd ⟨4, .guard⟩ (by simp) rfl (by omega))
          exact op_val_w (v := (.bool false)) (wanted_of (j := 4) (s := 44) (b := false) (by kernel_rfl) (by kernel_rfl) g) (by simp only [execOp, List.map_toArray, List.map_cons, List.map_nil, e45, e46]; go_simp) (hK _ _ (show _ = _ from rfl) (Below.refl _ _) (Fresh.no _ _ _))
        · intro w1 hb hd K hK
          have e44 := D44.trans (show u 4 = _ from hd ⟨4, .data⟩ (by simp) rfl (by omega))
          have e47 := D47.trans (show u 7 = _ from hd ⟨7, .data⟩ (by simp) rfl (by omega))
          exact op_val (v := (.bool false)) rfl (by simp only [execOp, List.map_toArray, List.map_cons, List.map_nil, e44, e47]; go_simp) (hK _ _ (show _ = _ from rfl) (Below.refl _ _) (Fresh.no _ _ _))
        · intro w1 hb hd K hK
          have e48 := D48.trans (show u 8 = _ from hd ⟨8, .data⟩ (by simp) rfl (by omega))
          exact op_val (v := (.bool false)) rfl (by simp only [execOp, List.map_toArray, List.map_cons, List.map_nil, e48]; go_simp) (hK _ _ (show _ = _ from rfl) (Below.refl _ _) (Fresh.no _ _ _))
        · intro w1 hb hd K hK
          have e7 := E7
          have g := D49.trans (show u 9 = .bool false from hd ⟨9, .guard⟩ (by simp) rfl (by omega))
          exact op_val_w (v := (.agg (enC e))) (wanted_of (j := 9) (s := 49) (b := false) (by kernel_rfl) (by kernel_rfl) g) (exec_load rfl e7 (loadAt_blk (HB3.out.keep hb HB3.out.lt) Tryz.underlying34 rfl (by rw [enC_size]; kernel_rfl))) (hK _ _ (show _ = _ from rfl) (Below.refl _ _) (Fresh.no _ _ _))
        · intro w1 hb hd K hK
          have e2 := E2
          have g := D49.trans (show u 9 = .bool false from hd ⟨9, .guard⟩ (by simp) rfl (by omega))
          exact op_val_w (v := (.slice (some ⟨bu, ou, none⟩) 4 cu)) (wanted_of (j := 9) (s := 49) (b := false) (by kernel_rfl) (by kernel_rfl) g) (by simp only [execOp, List.map_toArray, List.map_cons, List.map_nil, e2]; go_simp) (hK _ _ (show _ = _ from rfl) (Below.refl _ _) (Fresh.no _ _ _))
        · intro w1 hb hd K hK
          have e3 := E3
          have g := D49.trans (show u 9 = .bool false from hd ⟨9, .guard⟩ (by simp) rfl (by omega))
          exact op_val_w (v := (.int .i64 ((i : Nat) : Int))) (wanted_of (j := 9) (s := 49) (b := false) (by kernel_rfl) (by kernel_rfl) g) (by simp only [execOp, List.map_toArray, List.map_cons, List.map_nil, e3]; go_simp) (hK _ _ (show _ = _ from rfl) (Below.refl _ _) (Fresh.no _ _ _))
        · intro w1 hb hd K hK
          have e51 := D51.trans (show u 11 = _ from hd ⟨11, .data⟩ (by simp) rfl (by omega))
          have e52 := D52.trans (show u 12 = _ from hd ⟨12, .data⟩ (by simp) rfl (by omega))
          have g := D49.trans (show u 9 = .bool false from hd ⟨9, .guard⟩ (by simp) rfl (by omega))
          exact op_val_w (v := (.pointer (some ⟨bu, ou + i * 33, none⟩))) (wanted_of (j := 9) (s := 49) (b := false) (by kernel_rfl) (by kernel_rfl) g) (by simp only [execOp, List.map_toArray, List.map_cons, List.map_nil, e51, e52]; go_simp) (hK _ _ (show _ = _ from rfl) (Below.refl _ _) (Fresh.no _ _ _))
        · intro w1 hb hd K hK
          have e53 := D53.trans (show u 13 = _ from hd ⟨13, .data⟩ (by simp) rfl (by omega))
          have g := D49.trans (show u 9 = .bool false from hd ⟨9, .guard⟩ (by simp) rfl (by omega))
          exact op_val_w (v := (.agg (enC e))) (wanted_of (j := 9) (s := 49) (b := false) (by kernel_rfl) (by kernel_rfl) g) (exec_load rfl e53 (lo3 w1 hb)) (hK _ _ (show _ = _ from rfl) (Below.refl _ _) (Fresh.no _ _ _))
        · intro w1 hb hd K hK
          have e50 := D50.trans (show u 10 = _ from hd ⟨10, .data⟩ (by simp) rfl (by omega))
          have e54 := D54.trans (show u 14 = _ from hd ⟨14, .data⟩ (by simp) rfl (by omega))
          have g := D49.trans (show u 9 = .bool false from hd ⟨9, .guard⟩ (by simp) rfl (by omega))
          exact op_val_w (v := (.bool false)) (wanted_of (j := 9) (s := 49) (b := false) (by kernel_rfl) (by kernel_rfl) g) (exec_bin (X := enC e) (Y := enC e) rfl e50 e54 (by kernel_rfl) (ne w1)) (hK _ _ (show _ = _ from rfl) (Below.refl _ _) (Fresh.no _ _ _))
        · intro w1 hb hd K hK
          have e49 := D49.trans (show u 9 = _ from hd ⟨9, .data⟩ (by simp) rfl (by omega))
          have e55 := D55.trans (show u 15 = _ from hd ⟨15, .data⟩ (by simp) rfl (by omega))
          exact op_val (v := (.bool false)) rfl (by simp only [execOp, List.map_toArray, List.map_cons, List.map_nil, e49, e55]; go_simp) (hK _ _ (show _ = _ from rfl) (Below.refl _ _) (Fresh.no _ _ _))
        · intro w1 hb hd K hK
          have e56 := D56.trans (show u 16 = _ from hd ⟨16, .data⟩ (by simp) rfl (by omega))
          exact op_val (v := (.bool false)) rfl (by simp only [execOp, List.map_toArray, List.map_cons, List.map_nil, e56]; go_simp) (hK _ _ (show _ = _ from rfl) (Below.refl _ _) (Fresh.no _ _ _))
        · intro w1 hb hd K hK
          have e1 := E1
          have g := D57.trans (show u 17 = .bool false from hd ⟨17, .guard⟩ (by simp) rfl (by omega))
          exact op_val_w (v := (.agg (snC 0 0 0 0 0 v 2))) (wanted_of (j := 17) (s := 57) (b := false) (by kernel_rfl) (by kernel_rfl) g) (exec_load rfl e1 (loadAt_blk (HA3.out.ses.keep hb HA3.out.ses.lt) Tryz.underlying26 rfl (by kernel_rfl))) (hK _ _ (show _ = _ from rfl) (Below.refl _ _) (Fresh.no _ _ _))
        · intro w1 hb hd K hK
          have e2 := E2
          have g := D57.trans (show u 17 = .bool false from hd ⟨17, .guard⟩ (by simp) rfl (by omega))
          exact op_val_w (v := (.slice (some ⟨bu, ou, none⟩) 4 cu)) (wanted_of (j := 17) (s := 57) (b := false) (by kernel_rfl) (by kernel_rfl) g) (by simp only [execOp, List.map_toArray, List.map_cons, List.map_nil, e2]; go_simp) (hK _ _ (show _ = _ from rfl) (Below.refl _ _) (Fresh.no _ _ _))
        · intro w1 hb hd K hK
          have e3 := E3
          have g := D57.trans (show u 17 = .bool false from hd ⟨17, .guard⟩ (by simp) rfl (by omega))
          exact op_val_w (v := (.int .i64 ((i : Nat) : Int))) (wanted_of (j := 17) (s := 57) (b := false) (by kernel_rfl) (by kernel_rfl) g) (by simp only [execOp, List.map_toArray, List.map_cons, List.map_nil, e3]; go_simp) (hK _ _ (show _ = _ from rfl) (Below.refl _ _) (Fresh.no _ _ _))
        · intro w1 hb hd K hK
          have e59 := D59.trans (show u 19 = _ from hd ⟨19, .data⟩ (by simp) rfl (by omega))
          have e60 := D60.trans (show u 20 = _ from hd ⟨20, .data⟩ (by simp) rfl (by omega))
          have g := D57.trans (show u 17 = .bool false from hd ⟨17, .guard⟩ (by simp) rfl (by omega))
          exact op_val_w (v := (.pointer (some ⟨bu, ou + i * 33, none⟩))) (wanted_of (j := 17) (s := 57) (b := false) (by kernel_rfl) (by kernel_rfl) g) (by simp only [execOp, List.map_toArray, List.map_cons, List.map_nil, e59, e60]; go_simp) (hK _ _ (show _ = _ from rfl) (Below.refl _ _) (Fresh.no _ _ _))
        · intro w1 hb hd K hK
          have e61 := D61.trans (show u 21 = _ from hd ⟨21, .data⟩ (by simp) rfl (by omega))
          have g := D57.trans (show u 17 = .bool false from hd ⟨17, .guard⟩ (by simp) rfl (by omega))
          exact op_val_w (v := (.agg (enC e))) (wanted_of (j := 17) (s := 57) (b := false) (by kernel_rfl) (by kernel_rfl) g) (exec_load rfl e61 (lo3 w1 hb)) (hK _ _ (show _ = _ from rfl) (Below.refl _ _) (Fresh.no _ _ _))
        · intro w1 hb hd K hK
          have e58 := D58.trans (show u 18 = _ from hd ⟨18, .data⟩ (by simp) rfl (by omega))
          have e62 := D62.trans (show u 22 = _ from hd ⟨22, .data⟩ (by simp) rfl (by omega))
          have g := D57.trans (show u 17 = .bool false from hd ⟨17, .guard⟩ (by simp) rfl (by omega))
          refine op_call_w (R := fun v w2 => v = (.int .i64 0) ∧ Below w1.heap.size w1 w2) (f := 28) (args := #[.agg (snC 0 0 0 0 0 v 2), .agg (enC e)]) (wanted_of (j := 17) (s := 57) (b := false) (by kernel_rfl) (by kernel_rfl) g) (by simp only [execOp]; go_simp; first | exact ⟨eval_get e58, eval_get e62⟩ | (simp only [Act.eval] at *; simp_all)) ((CK.out w1 hb).mono fun e w2 hh => ⟨_, hh.1, rfl, hh.2⟩) (fun v w2 hh => hK _ _ hh.1 hh.2 (Fresh.no _ _ _))
        · intro w1 hb hd K hK
          have e63 := D63.trans (show u 23 = _ from hd ⟨23, .data⟩ (by simp) rfl (by omega))
          have g := D57.trans (show u 17 = .bool false from hd ⟨17, .guard⟩ (by simp) rfl (by omega))
          exact op_val_w (v := (.bool false)) (wanted_of (j := 17) (s := 57) (b := false) (by kernel_rfl) (by kernel_rfl) g) (by simp only [execOp, List.map_toArray, List.map_cons, List.map_nil, e63]; go_simp) (hK _ _ (show _ = _ from rfl) (Below.refl _ _) (Fresh.no _ _ _))
      have hv40 : u 0 = (.int .i64 0) := (show u 0 = _ from hsF 0 (by omega) (by omega))
      have hv41 : u 1 = (.int .i64 0) := (show u 1 = _ from hsF 1 (by omega) (by omega))
      have hv42 : u 2 = (.int .i64 0) := (show u 2 = _ from hsF 2 (by omega) (by omega))
      have hv43 : u 3 = (.bool false) := (show u 3 = _ from hsF 3 (by omega) (by omega))
      have hv44 : u 4 = (.bool false) := (show u 4 = _ from hsF 4 (by omega) (by omega))
      have hv45 : u 5 = (.string S) := (show u 5 = _ from hsF 5 (by omega) (by omega))
      have hv46 : u 6 = (.string S) := (show u 6 = _ from hsF 6 (by omega) (by omega))
      have hv47 : u 7 = (.bool false) := (show u 7 = _ from hsF 7 (by omega) (by omega))
      have hv48 : u 8 = (.bool false) := (show u 8 = _ from hsF 8 (by omega) (by omega))
      have hv49 : u 9 = (.bool false) := (show u 9 = _ from hsF 9 (by omega) (by omega))
      have hv50 : u 10 = (.agg (enC e)) := (show u 10 = _ from hsF 10 (by omega) (by omega))
      have hv51 : u 11 = (.slice (some ⟨bu, ou, none⟩) 4 cu) := (show u 11 = _ from hsF 11 (by omega) (by omega))
      have hv52 : u 12 = (.int .i64 ((i : Nat) : Int)) := (show u 12 = _ from hsF 12 (by omega) (by omega))
      have hv53 : u 13 = (.pointer (some ⟨bu, ou + i * 33, none⟩)) := (show u 13 = _ from hsF 13 (by omega) (by omega))
      have hv54 : u 14 = (.agg (enC e)) := (show u 14 = _ from hsF 14 (by omega) (by omega))
      have hv55 : u 15 = (.bool false) := (show u 15 = _ from hsF 15 (by omega) (by omega))
      have hv56 : u 16 = (.bool false) := (show u 16 = _ from hsF 16 (by omega) (by omega))
      have hv57 : u 17 = (.bool false) := (show u 17 = _ from hsF 17 (by omega) (by omega))
      have hv58 : u 18 = (.agg (snC 0 0 0 0 0 v 2)) := (show u 18 = _ from hsF 18 (by omega) (by omega))
      have hv59 : u 19 = (.slice (some ⟨bu, ou, none⟩) 4 cu) := (show u 19 = _ from hsF 19 (by omega) (by omega))
      have hv60 : u 20 = (.int .i64 ((i : Nat) : Int)) := (show u 20 = _ from hsF 20 (by omega) (by omega))
      have hv61 : u 21 = (.pointer (some ⟨bu, ou + i * 33, none⟩)) := (show u 21 = _ from hsF 21 (by omega) (by omega))
      have hv62 : u 22 = (.agg (enC e)) := (show u 22 = _ from hsF 22 (by omega) (by omega))
      have hv63 : u 23 = (.int .i64 0) := (show u 23 = _ from hsF 23 (by omega) (by omega))
      have hv64 : u 24 = (.bool false) := (show u 24 = _ from hsF 24 (by omega) (by omega))
      simp only [putRow, hv40, hv41, hv42, hv43, hv44, hv45, hv46, hv47, hv48, hv49, hv50, hv51, hv52, hv53, hv54, hv55, hv56, hv57, hv58, hv59, hv60, hv61, hv62, hv63, hv64, Act.put, List.setIfInBounds_toArray, List.set_cons_succ, List.set_cons_zero]
      clear hsF hold hap hv40 hv41 hv42 hv43 hv44 hv45 hv46 hv47 hv48 hv49 hv50 hv51 hv52 hv53 hv54 hv55 hv56 hv57 hv58 hv59 hv60 hv61 hv62 hv63 hv64
      have HA4 := Lib.hid (HA3.out.keep hbF)
      have HT4 := Lib.hid (HT3.out.keep hbF HT3.out.lt)
      clear HA3 HT3 HB3 lo3 CK hbF ne sn w0
      clear W6
      refine rest_forced 1 (by kernel_rfl) ?_
      simp only [List.drop_succ_cons, List.drop_zero, List.take_succ_cons, List.take_zero]
      go_wp2_with fail
      refine rest_done rfl ?_
      go_wp2_with fail
      go_roundw
      case rel => exact ⟨i + 1, by omega, by simp, HA4, HT4⟩
      case measure => simp only [intOf]; omega
    · obtain rfl : i = 4 := by omega
      clear hlt hi HT HTX
      rw [show ((4 : Nat) : Int) = 4 from rfl]
      have HA1 := Lib.hid (HA.out.keep (below1 wr (.cells wantC 44)))
      have HT1 := Lib.hid (Blk.new wr 44 wantC)
      clear HA
      go_wp2_with (refine op_bsl 76 44 5 _ wantC rfl rfl (by unfold wantC; kernel_rfl) ?_)
      generalize wr.heap.size = pw at *
      generalize wr.alloc (.cells wantC 44) = W2 at *
      clear wr
      go_loopw [69] (fun s69 wr => ∃ i : Nat, i ≤ 5 ∧ s69 = .int .i64 (i : Int) ∧ Hid (AW w wr ps v (.slice (some ⟨bu, ou, none⟩) 4 cu)) ∧ Hid (Blk wr pw 44 wantC)) (fun s69 _ => 5 - (intOf s69).toNat)
      case atStart => exact ⟨0, by omega, rfl, HA1, HT1⟩
      case round =>
        clear HA1 HT1
        obtain ⟨i, hi, rfl, HA, HT⟩ := hrel
        by_cases hlt : i < 5
        · have c0 := HT.out.cell (want_at i hlt)
          have hx : exL[0]? = some ex0 := rfl
          have la := HA.out.ents.load hx (Below.refl _ _)
          rw [show ou + 0 * 33 = ou by omega] at la
          have CC := Lib.hid (fun W (hb : Below wr.heap.size wr W) => check_any 0 0 0 0 0 2 exRows (chgE i) (by decide) (chg_in i hlt) v W (HA.out.rows.keep hb))
          rw [chg_check i hlt] at CC
          have st := storeAt_row (T := 34) (C := enC ex0) (Blk.new wr 34 (enC zE)) (by rw [enC_size]; kernel_rfl) (by simp only [enC_size]) (enC_one ex0)
          rw [setRow_new, zE_lit] at st
          have HB := Lib.hid (Blk.new wr 34 (enC ex0))
          have hb1 := below1 wr (.cells (enC ex0) 34)
          have j0 : (0 : Int) ≤ (i : Int) := by omega
          have j1 : (i : Int) < 5 := by omega
          have j2 : ¬ (5 : Int) ≤ (i : Int) := by omega
          have j3 : ¬ 5 ≤ i := by omega
          have e1 : IntKind.i64.wrap ((i : Int) + 1) = (i : Int) + 1 := IntWalk.i64_in _ (by omega)
          have t1 : decide ((i : Int) < 5) = true := decide_eq_true (by omega)
          clear hx
          go_upto_region 14 with (first
            | refine op_load (p := .pointer (some ⟨bu, ou, none⟩)) 34 (.tmp 75) rfl rfl rfl la ?_
            | refine op_store (p := .pointer (some ⟨wr.heap.size, 0, none⟩)) (C := .agg (enC ex0)) 34 (.tmp 11) (.tmp 76) rfl rfl rfl rfl rfl st ?_)
          clear st la c0 t1
          obtain ⟨pe, hpe⟩ : ∃ pe, wr.heap.size = pe := ⟨_, rfl⟩
          rw [hpe] at HB ⊢
          generalize wr.alloc (.cells (enC ex0) 34) = W3 at *
          obtain ⟨T, hT⟩ : ∃ T, wantE i = T := ⟨_, rfl⟩
          rw [hT] at CC ⊢
          have tn : (T != T) = false := by simp
          clear hT
          obtain ⟨z, hz⟩ : ∃ z : Int, (i : Int) = z := ⟨_, rfl⟩
          rw [hz] at e1 j0 j1 j2 ⊢
          clear e1 j0 j1 j2 j3
          rcases (by omega : (i = 0 ∧ z = 0) ∨ (i = 1 ∧ z = 1) ∨ (i = 2 ∧ z = 2) ∨ (i = 3 ∧ z = 3) ∨ (i = 4 ∧ z = 4)) with ⟨rfl, rfl⟩ | ⟨rfl, rfl⟩ | ⟨rfl, rfl⟩ | ⟨rfl, rfl⟩ | ⟨rfl, rfl⟩
          · have x0 := (HB.out).cell (j := 2) (v := .int .i64 9) (by kernel_rfl)
            have f0 := (HB.out).free 2
            have HB4 := Lib.hid ((HB.out).set 2 (.int .i64 11))
            rw [show ((enC ex0).setIfInBounds 2 (.int .i64 11)) = enC (chgE 0) from (by kernel_rfl)] at HB4
            have HA4 := Lib.hid (HA.out.keep (hb1.setCell (p := ⟨pe, 2, none⟩) (Nat.le_of_eq hpe) (.int .i64 11)))
            have HT4 := Lib.hid (HT.out.keep (hb1.setCell (p := ⟨pe, 2, none⟩) (Nat.le_of_eq hpe) (.int .i64 11)) HT.out.lt)
            have CK := Lib.hid (CC.out _ (hb1.setCell (p := ⟨pe, 2, none⟩) (Nat.le_of_eq hpe) (.int .i64 11)))
            clear HB HA HT CC
            go_upto_region 24 with fail
            clear x0 f0
            generalize (W3.setCell ⟨pe, 2, none⟩ (.int .i64 11)) = W4 at *
            clear hb1 hpe
            clear W3 wr
            have la1 := loadAt_blk (T := 26) HA4.out.ses Tryz.underlying26 rfl (by kernel_rfl)
            have la2 := loadAt_blk (T := 34) HB4.out Tryz.underlying34 rfl (by rw [enC_size]; kernel_rfl)
            go_wp2_with (first | refine op_load (p := .pointer (some ⟨ps, 0, none⟩)) (C := .agg (snC 0 0 0 0 0 v 2)) 26 (.tmp 1) rfl rfl rfl la1 ?_ | refine op_load (p := .pointer (some ⟨pe, 0, none⟩)) (C := .agg (enC (chgE 0))) 34 (.tmp 11) rfl rfl rfl la2 ?_)
            refine CK.out.mono ?_
            rintro x w4 ⟨rfl, hb4⟩
            have HA5 := Lib.hid (HA4.out.keep hb4)
            have HT5 := Lib.hid (HT4.out.keep hb4 HT4.out.lt)
            clear CK la1 la2 HA4 HB4 HT4 hb4
            clear W4
            go_wp2_with fail
            go_roundw
            case rel => exact ⟨1, by omega, rfl, HA5, HT5⟩
            case measure => simp [intOf]
          · have x0 := (HB.out).cell (j := 1) (v := .int .i64 2) (by kernel_rfl)
            have f0 := (HB.out).free 1
            have HB4 := Lib.hid ((HB.out).set 1 (.int .i64 3))
            rw [show ((enC ex0).setIfInBounds 1 (.int .i64 3)) = enC (chgE 1) from (by kernel_rfl)] at HB4
            have HA4 := Lib.hid (HA.out.keep (hb1.setCell (p := ⟨pe, 1, none⟩) (Nat.le_of_eq hpe) (.int .i64 3)))
            have HT4 := Lib.hid (HT.out.keep (hb1.setCell (p := ⟨pe, 1, none⟩) (Nat.le_of_eq hpe) (.int .i64 3)) HT.out.lt)
            have CK := Lib.hid (CC.out _ (hb1.setCell (p := ⟨pe, 1, none⟩) (Nat.le_of_eq hpe) (.int .i64 3)))
            clear HB HA HT CC
            go_upto_region 24 with fail
            clear x0 f0
            generalize (W3.setCell ⟨pe, 1, none⟩ (.int .i64 3)) = W4 at *
            clear hb1 hpe
            clear W3 wr
            have la1 := loadAt_blk (T := 26) HA4.out.ses Tryz.underlying26 rfl (by kernel_rfl)
            have la2 := loadAt_blk (T := 34) HB4.out Tryz.underlying34 rfl (by rw [enC_size]; kernel_rfl)
            go_wp2_with (first | refine op_load (p := .pointer (some ⟨ps, 0, none⟩)) (C := .agg (snC 0 0 0 0 0 v 2)) 26 (.tmp 1) rfl rfl rfl la1 ?_ | refine op_load (p := .pointer (some ⟨pe, 0, none⟩)) (C := .agg (enC (chgE 1))) 34 (.tmp 11) rfl rfl rfl la2 ?_)
            refine CK.out.mono ?_
            rintro x w4 ⟨rfl, hb4⟩
            have HA5 := Lib.hid (HA4.out.keep hb4)
            have HT5 := Lib.hid (HT4.out.keep hb4 HT4.out.lt)
            clear CK la1 la2 HA4 HB4 HT4 hb4
            clear W4
            go_wp2_with fail
            go_roundw
            case rel => exact ⟨2, by omega, rfl, HA5, HT5⟩
            case measure => simp [intOf]
          · have x0 := (HB.out).cell (j := 3) (v := .int .i64 1) (by kernel_rfl)
            have f0 := (HB.out).free 3
            have HB4 := Lib.hid ((HB.out).set 3 (.int .i64 0))
            rw [show ((enC ex0).setIfInBounds 3 (.int .i64 0)) = enC (chgE 2) from (by kernel_rfl)] at HB4
            have HA4 := Lib.hid (HA.out.keep (hb1.setCell (p := ⟨pe, 3, none⟩) (Nat.le_of_eq hpe) (.int .i64 0)))
            have HT4 := Lib.hid (HT.out.keep (hb1.setCell (p := ⟨pe, 3, none⟩) (Nat.le_of_eq hpe) (.int .i64 0)) HT.out.lt)
            have CK := Lib.hid (CC.out _ (hb1.setCell (p := ⟨pe, 3, none⟩) (Nat.le_of_eq hpe) (.int .i64 0)))
            clear HB HA HT CC
            go_upto_region 24 with fail
            clear x0 f0
            generalize (W3.setCell ⟨pe, 3, none⟩ (.int .i64 0)) = W4 at *
            clear hb1 hpe
            clear W3 wr
            have la1 := loadAt_blk (T := 26) HA4.out.ses Tryz.underlying26 rfl (by kernel_rfl)
            have la2 := loadAt_blk (T := 34) HB4.out Tryz.underlying34 rfl (by rw [enC_size]; kernel_rfl)
            go_wp2_with (first | refine op_load (p := .pointer (some ⟨ps, 0, none⟩)) (C := .agg (snC 0 0 0 0 0 v 2)) 26 (.tmp 1) rfl rfl rfl la1 ?_ | refine op_load (p := .pointer (some ⟨pe, 0, none⟩)) (C := .agg (enC (chgE 2))) 34 (.tmp 11) rfl rfl rfl la2 ?_)
            refine CK.out.mono ?_
            rintro x w4 ⟨rfl, hb4⟩
            have HA5 := Lib.hid (HA4.out.keep hb4)
            have HT5 := Lib.hid (HT4.out.keep hb4 HT4.out.lt)
            clear CK la1 la2 HA4 HB4 HT4 hb4
            clear W4
            go_wp2_with fail
            go_roundw
            case rel => exact ⟨3, by omega, rfl, HA5, HT5⟩
            case measure => simp [intOf]
          · have x0 := (HB.out).cell (j := 11) (v := .int .i64 10) (by kernel_rfl)
            have f0 := (HB.out).free 11
            have HB4 := Lib.hid ((HB.out).set 11 (.int .i64 14))
            rw [show ((enC ex0).setIfInBounds 11 (.int .i64 14)) = enC (chgE 3) from (by kernel_rfl)] at HB4
            have HA4 := Lib.hid (HA.out.keep (hb1.setCell (p := ⟨pe, 11, none⟩) (Nat.le_of_eq hpe) (.int .i64 14)))
            have HT4 := Lib.hid (HT.out.keep (hb1.setCell (p := ⟨pe, 11, none⟩) (Nat.le_of_eq hpe) (.int .i64 14)) HT.out.lt)
            have CK := Lib.hid (CC.out _ (hb1.setCell (p := ⟨pe, 11, none⟩) (Nat.le_of_eq hpe) (.int .i64 14)))
            clear HB HA HT CC
            go_upto_region 24 with fail
            clear x0 f0
            generalize (W3.setCell ⟨pe, 11, none⟩ (.int .i64 14)) = W4 at *
            clear hb1 hpe
            clear W3 wr
            have la1 := loadAt_blk (T := 26) HA4.out.ses Tryz.underlying26 rfl (by kernel_rfl)
            have la2 := loadAt_blk (T := 34) HB4.out Tryz.underlying34 rfl (by rw [enC_size]; kernel_rfl)
            go_wp2_with (first | refine op_load (p := .pointer (some ⟨ps, 0, none⟩)) (C := .agg (snC 0 0 0 0 0 v 2)) 26 (.tmp 1) rfl rfl rfl la1 ?_ | refine op_load (p := .pointer (some ⟨pe, 0, none⟩)) (C := .agg (enC (chgE 3))) 34 (.tmp 11) rfl rfl rfl la2 ?_)
            refine CK.out.mono ?_
            rintro x w4 ⟨rfl, hb4⟩
            have HA5 := Lib.hid (HA4.out.keep hb4)
            have HT5 := Lib.hid (HT4.out.keep hb4 HT4.out.lt)
            clear CK la1 la2 HA4 HB4 HT4 hb4
            clear W4
            go_wp2_with fail
            go_roundw
            case rel => exact ⟨4, by omega, rfl, HA5, HT5⟩
            case measure => simp [intOf]
          · have x0 := (HB.out).cell (j := 3) (v := .int .i64 1) (by kernel_rfl)
            have f0 := (HB.out).free 3
            have x1 := ((HB.out).set 3 (.int .i64 0)).cell (j := 11) (v := .int .i64 10) (by kernel_rfl)
            have f1 := ((HB.out).set 3 (.int .i64 0)).free 11
            have HB4 := Lib.hid (((HB.out).set 3 (.int .i64 0)).set 11 (.int .i64 14))
            rw [show (((enC ex0).setIfInBounds 3 (.int .i64 0)).setIfInBounds 11 (.int .i64 14)) = enC (chgE 4) from (by kernel_rfl)] at HB4
            have HA4 := Lib.hid (HA.out.keep ((hb1.setCell (p := ⟨pe, 3, none⟩) (Nat.le_of_eq hpe) (.int .i64 0)).setCell (p := ⟨pe, 11, none⟩) (Nat.le_of_eq hpe) (.int .i64 14)))
            have HT4 := Lib.hid (HT.out.keep ((hb1.setCell (p := ⟨pe, 3, none⟩) (Nat.le_of_eq hpe) (.int .i64 0)).setCell (p := ⟨pe, 11, none⟩) (Nat.le_of_eq hpe) (.int .i64 14)) HT.out.lt)
            have CK := Lib.hid (CC.out _ ((hb1.setCell (p := ⟨pe, 3, none⟩) (Nat.le_of_eq hpe) (.int .i64 0)).setCell (p := ⟨pe, 11, none⟩) (Nat.le_of_eq hpe) (.int .i64 14)))
            clear HB HA HT CC
            go_upto_region 24 with fail
            clear x0 f0 x1 f1
            generalize ((W3.setCell ⟨pe, 3, none⟩ (.int .i64 0)).setCell ⟨pe, 11, none⟩ (.int .i64 14)) = W4 at *
            clear hb1 hpe
            clear W3 wr
            have la1 := loadAt_blk (T := 26) HA4.out.ses Tryz.underlying26 rfl (by kernel_rfl)
            have la2 := loadAt_blk (T := 34) HB4.out Tryz.underlying34 rfl (by rw [enC_size]; kernel_rfl)
            go_wp2_with (first | refine op_load (p := .pointer (some ⟨ps, 0, none⟩)) (C := .agg (snC 0 0 0 0 0 v 2)) 26 (.tmp 1) rfl rfl rfl la1 ?_ | refine op_load (p := .pointer (some ⟨pe, 0, none⟩)) (C := .agg (enC (chgE 4))) 34 (.tmp 11) rfl rfl rfl la2 ?_)
            refine CK.out.mono ?_
            rintro x w4 ⟨rfl, hb4⟩
            have HA5 := Lib.hid (HA4.out.keep hb4)
            have HT5 := Lib.hid (HT4.out.keep hb4 HT4.out.lt)
            clear CK la1 la2 HA4 HB4 HT4 hb4
            clear W4
            go_wp2_with fail
            go_roundw
            case rel => exact ⟨5, by omega, rfl, HA5, HT5⟩
            case measure => simp [intOf]
        · obtain rfl : i = 5 := by omega
          clear hlt hi HT
          rw [show ((5 : Nat) : Int) = 5 from rfl]
          have HS := Lib.hid ex_set
          have hcu3 : 3 ≤ cu := by omega
          obtain ⟨A1, hA1⟩ := slice_ls (α := En) (enc := enC) (sz := 33) (T := 40) (b := bu) (o := ou) (n := 4) (c := cu) (lo := 0) (hi := 3) (by kernel_rfl) (fun W => by kernel_rfl) (by omega) hcu3
          have la := hA1.2.2.1 rfl
          have hl1 := hA1.2.2.2 _ _ HA.out.ents (by omega)
          have C1 := Lib.hid (counting_any ((exL.take 3).drop 0) (fun e he => ex_in e (by simpa using List.mem_of_mem_take (List.mem_of_mem_drop he))) (by decide) _ _ hl1)
          rw [List.drop_zero, show setB (exL.take 3) = true from ex_set.2.1, if_pos rfl, show cntL (exL.take 3) = (exL.take 3).drop 2 by unfold cntL; rw [ex_set.2.1, if_pos rfl]; exact ex_set.2.2.2] at C1
          clear hA1 hl1
          go_wp2_with (refine op_slice (p := .slice (some ⟨bu, ou, none⟩) 4 cu) (v := .slice (some A1) 3 cu) (l := none) (h := some (.int .i64 3)) (m := none) 40 (.tmp 103) _ _ _ rfl rfl rfl rfl rfl rfl (la _) ?_)
          refine C1.out.mono ?_
          rintro x w5 ⟨u1, rfl, ho1, hb5⟩
          have HE1 := Lib.hid (ls_of_own enC_size ho1)
          obtain ⟨A2, c2, rfl, -⟩ := HE1.out.len
          rw [show ((exL.take 3).drop 2).length = 1 from rfl] at HE1 ⊢
          have HA5 := Lib.hid (HA.out.keep hb5)
          have C2 := Lib.hid (counting_any exL ex_in (by decide) _ _ HA5.out.ents)
          rw [show setB exL = true from ex_set.1, if_pos rfl, show cntL exL = exL.drop 3 by unfold cntL; rw [ex_set.1, if_pos rfl]; exact ex_set.2.2.1] at C2
          clear C1 la ho1 hb5 HA
          go_wp2_with fail
          refine C2.out.mono ?_
          rintro x w6 ⟨u2, rfl, ho2, hb6⟩
          have HE2 := Lib.hid (ls_of_own enC_size ho2)
          obtain ⟨A3, c3, rfl, -⟩ := HE2.out.len
          rw [show (exL.drop 3).length = 1 from rfl] at HE2 ⊢
          have HA6 := Lib.hid (HA5.out.keep hb6)
          have HE3 := Lib.hid (HE1.out.keep hb6)
          have w0 : IntKind.i64.wrap 0 = 0 := by decide
          have d1 : ¬ cu = 2 := by omega
          have d2 : ¬ cu = 3 := by omega
          have d3 : (2 : Int) ≤ (cu : Int) := by omega
          have d4 : (3 : Int) ≤ (cu : Int) := by omega
          have d5 : (4 : Int) ≤ (cu : Int) := by omega
          clear C2 HE1 ho2 hb6 HA5
          have SA := Lib.hid (sameEn_any ((exL.take 3).drop 2) ((exL.take 3).drop 2) (fun e he => ex_in e (List.mem_of_mem_take (List.mem_of_mem_drop he))) (fun e he => ex_in e (List.mem_of_mem_take (List.mem_of_mem_drop he))) (by decide) _ _ w6 HE3.out (es_part HA6.out.ents (by omega) (by omega)))
          go_wp2_with fail
          refine SA.out.mono ?_
          rintro x w7 ⟨⟨b, rfl, hb⟩, hb7⟩
          obtain rfl := (show b = true by first | exact hb.2 rfl | exact hb.2 trivial)
          have SB := Lib.hid (sameEn_any (exL.drop 3) ((exL.take 4).drop 3) (fun e he => ex_in e (List.mem_of_mem_drop he)) (fun e he => ex_in e (List.mem_of_mem_take (List.mem_of_mem_drop he))) (by decide) _ _ w7 (HE2.out.keep hb7) (es_part (HA6.out.ents.keep hb7) (by omega) (by omega)))
          have HW7 := Lib.hid (HA6.out.below.trans (hb7.mono HA6.out.below.size))
          clear SA HE3 HE2 HA6 hb7 hb
          go_wp2_with fail
          refine SB.out.mono ?_
          rintro x w8 ⟨⟨b, rfl, hb⟩, hb8⟩
          obtain rfl := (show b = true by first | exact hb.2 rfl | exact hb.2 trivial)
          have HW8 := Lib.hid (HW7.out.trans (hb8.mono HW7.out.size))
          clear SB hb8 HW7 hb
          go_wp2_with fail
          go_ret
          exact ⟨rfl, HW8.out⟩
end Go.Proofs.YtpkmibmombpjpaaGreatDoor
