/- EntryBack: texts of entries are read as they were; changed ones are not. -/
import Derived.Test.YtpkmibmombpjpaaDoorKW
import Derived.Test.YtpkmibmombpjpaaDoorKP
import Derived.Test.YtpkmibmombpjpaaDoorGw
set_option linter.unusedSimpArgs false
namespace Go.Proofs.YtpkmibmombpjpaaDoor
open Go Go.RowKit

theorem zE_in : zE.In := by
  have z : inI 0 := inI_small (by omega)
  exact gE_in ⟨z, z, z, z⟩ (by omega) (by omega) (fun o ho => by cases ho) z z
theorem bS_toList (s : List UInt8) : (bS s).toList = s := by
  rw [ByteArray.toList_eq]
  rfl
theorem txt_le (e : En) (h : e.In) (hr : rightE e = true) : e.txt.length ≤ 100000 := by
  have h1 := jn_le 32 e.words 140 (word_len e h)
  have h2 := (words_len e hr).2
  have h3 : e.words.length * (140 + 1) ≤ 11 * 141 := Nat.mul_le_mul_right _ h2
  show (sp e.words).length ≤ _
  rw [← jn_sp]
  omega
theorem sp_le : ∀ (w : List UInt8) (l : List (List UInt8)), w.length ≤ (sp (w :: l)).length
  | w, [] => by rw [sp_one]; exact Nat.le_refl _
  | w, v :: l => by rw [sp_two]; simp
theorem txt_pos (e : En) : 0 < e.txt.length := by
  have h0 : 0 < (Lib.itoa e.rd).length := List.length_pos_iff.2 (itoa_nil e.rd)
  have h1 := sp_le (Lib.itoa e.rd) (e.words.drop 1)
  have h2 : Lib.itoa e.rd :: e.words.drop 1 = e.words := rfl
  rw [h2] at h1
  show 0 < (sp e.words).length
  omega
/-- The tables, and what lay below. -/
structure EW (w W : World) : Prop where
  env : Env W
  below : Below w.heap.size w W
theorem EW.keep {w W W' : World} (h : EW w W) (hb : Below W.heap.size W W') : EW w W' := ⟨h.env.keep hb, h.below.trans (hb.mono h.below.size)⟩
theorem EW.start {w : World} (h : Env w) : EW w w := ⟨h, Below.refl _ _⟩
/-- The texts that are read. -/
def chgT (s : List UInt8) : List (List UInt8) := [s ++ [32], 32 :: s, s ++ [48], s ++ [32, 48], 48 :: s, s.take (s.length - 1)]
theorem chgT_ne {s : List UInt8} (h : 0 < s.length) : ∀ z ∈ chgT s, z ≠ s ∧ z.length ≤ s.length + 2 := by
  intro z hz
  have key : z.length ≠ s.length ∧ z.length ≤ s.length + 2 := by
    simp only [chgT, List.mem_cons, List.not_mem_nil, or_false] at hz
    rcases hz with rfl | rfl | rfl | rfl | rfl | rfl <;> simp <;> omega
  exact ⟨fun e => key.1 (by rw [e]), key.2⟩
theorem chgT_at {s : List UInt8} {i : Nat} (h : i < 6) : ∃ z, (chgT s)[i]? = some z ∧ z ∈ chgT s := ⟨_, List.getElem?_eq_getElem (show i < (chgT s).length from h), List.getElem_mem _⟩
def chgA (s : List UInt8) : Array Value := ((chgT s).map fun z => Value.string (bS z)).toArray
theorem chgA_at {s z : List UInt8} {i : Nat} (h : (chgT s)[i]? = some z) : (chgA s)[i]? = some (.string (bS z)) := by
  unfold chgA
  rw [List.getElem?_toArray, List.getElem?_map, h]; rfl
theorem bS_take (s : List UInt8) (k : Nat) : (bS s).extract 0 k = bS (s.take k) := by
  apply ByteArray.ext
  simp [bS, ByteArray.data_extract]
theorem chgA_is (s : List UInt8) : #[Value.string (bS s ++ ⟨#[32]⟩), .string (⟨#[32]⟩ ++ bS s), .string (bS s ++ ⟨#[48]⟩), .string (bS s ++ ⟨#[32, 48]⟩), .string (⟨#[48]⟩ ++ bS s), .string ((bS s).extract 0 (s.length - 1))] = chgA s := by
  have e1 : ∀ l : List UInt8, (⟨l.toArray⟩ : ByteArray) = bS l := fun _ => rfl
  have e3 : (bS s).extract 0 (s.length - 1) = bS (s.take (s.length - 1)) := by
    exact bS_take _ _
  unfold chgA chgT
  rw [e3]
  simp only [List.map_cons, List.map_nil]
  rw [← bS_app s [32], ← bS_app s [48], ← bS_app s [32, 48], show (32 : UInt8) :: s = [32] ++ s from rfl, show (48 : UInt8) :: s = [48] ++ s from rfl, ← bS_app [32] s, ← bS_app [48] s]
  rfl
set_option maxRecDepth 100000 in
set_option maxHeartbeats 8000000 in
theorem back_any (x y : Sm) (hx : x.In) (hy : y.In) (w : World) (he : Env w) : Calls Tryd.prog 4 #[.agg (smC x), .agg (smC y)] w (fun r w' => r = .returned (.bool true) ∧ Below w.heap.size w w') := by
  obtain ⟨a, ha⟩ : ∃ a, madeE x = a := ⟨_, rfl⟩
  obtain ⟨b, hb⟩ : ∃ b, madeE y = b := ⟨_, rfl⟩
  have IA : IsE a.txt a := by rw [← ha]; exact made_is x
  have IB : IsE b.txt b := by rw [← hb]; exact made_is y
  have AW := Lib.hid (awake_any)
  have HE := Lib.hid (EW.start he)
  have MX := Lib.hid (fun W => made_any x hx W)
  have MY := Lib.hid (fun W => made_any y hy W)
  rw [ha] at MX
  rw [hb] at MY
  have CK := Lib.hid (fun u W (h : WS W u seRows) => check_any 3 2 3 1 2 2 seRows a (by decide) IA.1 u W h)
  rw [show checkE 2 seRows a = 0 by rw [← ha]; exact made_check x] at CK
  obtain ⟨hl1, hl2⟩ : 0 < a.txt.length ∧ a.txt.length ≤ 100000 := ⟨txt_pos a, txt_le a IA.1 IA.2.1⟩
  have hlb : b.txt.length ≤ 100000 := txt_le b IB.1 IB.2.1
  have TA := Lib.hid (fun W (h : Env W) => text_any a IA.1 W h)
  have TB := Lib.hid (fun W (h : Env W) => text_any b IB.1 W h)
  rw [textV_t IA.2.1] at TA
  rw [textV_t IB.2.1] at TB
  have RA := Lib.hid (fun W (h : Env W) => read_any a.txt (by omega) W h)
  rw [read_is IA, readV] at RA
  have HZ := Lib.hid (fun i z (h : (chgT a.txt)[i]? = some z) => chgA_at h)
  have HZ2 := Lib.hid (chgT_ne hl1)
  have HIA := Lib.hid IA
  have HIB := Lib.hid IB
  have HCA := Lib.hid (chgA_is a.txt)
  have neA := neq_deep (eq_en a a IA.1 IA.1)
  rw [eqEn_self] at neA
  obtain ⟨q, hq⟩ : ∃ q, eqEn a b = q := ⟨_, rfl⟩
  have eqAB := eql_deep (eq_en a b IA.1 IB.1)
  rw [hq] at eqAB
  have hst : ((bS a.txt).toList == (bS b.txt).toList) = q := by
    rw [← hq, Bool.eq_iff_iff, beq_iff_eq, eqEn_iff, bS_toList, bS_toList]
    constructor
    · intro h
      exact txt_inj IA.1 IB.1 IA.2.1 IB.2.1 h
    · intro h
      rw [h]
  have w0 : IntKind.i64.wrap 0 = 0 := by decide
  have n5 := eq_en zE zE zE_in zE_in
  have qq : (q != q) = false := by simp
  clear he hx hy ha hb hq
  go_enter Tryd.func4, Tryd.ntmps4
  have HX0 := Lib.hid ((Blk.new w 31 (smC x)).alloc (.cells (smC y) 31))
  have HY0 := Lib.hid (Blk.new (w.alloc (.cells (smC x) 31)) 31 (smC y))
  have HE0 := Lib.hid ((HE.out.keep (below1 w (.cells (smC x) 31))).keep (below1 _ (.cells (smC y) 31)))
  clear HE
  rw [size_al] at HY0
  go_wp2_with fail
  refine (AW.out _ HE0.out.env).mono ?_
  rintro r w1 ⟨rfl, hb⟩
  have HX1 := Lib.hid (HX0.out.keep hb HX0.out.lt)
  have HY1 := Lib.hid (HY0.out.keep hb HY0.out.lt)
  have HE1 := Lib.hid (HE0.out.keep hb)
  clear HX0 HY0 HE0 AW hb
  obtain ⟨py, hpy⟩ : ∃ py, w.heap.size + 1 = py := ⟨_, rfl⟩
  obtain ⟨px, hpx⟩ : ∃ px, w.heap.size = px := ⟨_, rfl⟩
  rw [hpy] at HY1 ⊢
  rw [hpx] at HX1 ⊢
  clear hpx hpy
  go_upto_region 3 with fail
  refine rest_begin (by kernel_rfl) ?_
  have HX2 : Hid (Blk w1.drew px 31 (smC x)) := HX1
  have HY2 : Hid (Blk w1.drew py 31 (smC y)) := HY1
  have HE2 := Lib.hid (HE1.out.keep (Below.refl _ w1).drew)
  clear HX1 HY1 HE1
  generalize w1.drew = W1 at *
  clear w1
  refine rest_flow3 [some 19, some 20, some 21, some 22, some 5, some 6] [Sp.is (.agg (smC x)), Sp.is (.agg (enC a)), Sp.is (.agg (smC y)), Sp.is (.agg (enC b)), Sp.blk 29 (enC zE), Sp.blk 29 (enC zE)] [false, false, false, false, true, true] 6 (by kernel_rfl) (by kernel_rfl) (fun u F hF => ?_) (fun u w' hbF hsF hold hap => ?_)
  case refine_1 =>
    have E2 : F.eval (.tmp 2) = (.pointer (some ⟨px, 0, none⟩)) := (congrArg (fun a => Act.eval a (.tmp 2)) hF).trans (eval_out [some 19, some 20, some 21, some 22, some 5, some 6] 0 _ (by decide))
    have D19 : F.eval (.tmp 19) = u 0 := (congrArg (fun a => Act.eval a (.tmp 19)) hF).trans (eval_in [some 19, some 20, some 21, some 22, some 5, some 6] 0 0 _ (by decide) (by omega) rfl (of_decide_eq_true (by kernel_rfl)))
    have E3 : F.eval (.tmp 3) = (.pointer (some ⟨py, 0, none⟩)) := (congrArg (fun a => Act.eval a (.tmp 3)) hF).trans (eval_out [some 19, some 20, some 21, some 22, some 5, some 6] 0 _ (by decide))
    have D21 : F.eval (.tmp 21) = u 2 := (congrArg (fun a => Act.eval a (.tmp 21)) hF).trans (eval_in [some 19, some 20, some 21, some 22, some 5, some 6] 0 2 _ (by decide) (by omega) rfl (of_decide_eq_true (by kernel_rfl)))
    clear hF
    refine ⟨?_, ?_, ?_, ?_, ?_, ?_, trivial⟩
    · intro w1 hb hd K hK
      have e2 := E2
      exact op_val (v := (.agg (smC x))) rfl (exec_load rfl e2 (loadAt_blk (HX2.out.keep hb HX2.out.lt) (show Tryd.prog.underlying 31 = some _ from Tryd.underlying31) rfl (by kernel_rfl))) (hK _ _ (show _ = _ from rfl) (Below.refl _ _) (Fresh.no _ _ _))
    · intro w1 hb hd K hK
      have e19 := D19.trans (show u 0 = (.agg (smC x)) from hd ⟨0, .data⟩ (by simp) rfl (by omega))
      refine op_call (R := fun v w2 => v = (.agg (enC a)) ∧ Below w1.heap.size w1 w2) (f := 6) (args := #[.agg (smC x)]) rfl (by simp only [execOp]; go_simp; first | exact eval_get e19 | exact ⟨rfl, eval_get e19⟩ | exact ⟨eval_get e19, rfl⟩ | (simp only [Act.eval] at *; simp_all)) ((MX.out w1).mono fun e w2 hh => ⟨_, hh.1, rfl, hh.2⟩) (fun v w2 hh => hK _ _ hh.1 hh.2 (Fresh.no _ _ _))
    · intro w1 hb hd K hK
      have e3 := E3
      exact op_val (v := (.agg (smC y))) rfl (exec_load rfl e3 (loadAt_blk (HY2.out.keep hb HY2.out.lt) (show Tryd.prog.underlying 31 = some _ from Tryd.underlying31) rfl (by kernel_rfl))) (hK _ _ (show _ = _ from rfl) (Below.refl _ _) (Fresh.no _ _ _))
    · intro w1 hb hd K hK
      have e21 := D21.trans (show u 2 = (.agg (smC y)) from hd ⟨2, .data⟩ (by simp) rfl (by omega))
      refine op_call (R := fun v w2 => v = (.agg (enC b)) ∧ Below w1.heap.size w1 w2) (f := 6) (args := #[.agg (smC y)]) rfl (by simp only [execOp]; go_simp; first | exact eval_get e21 | exact ⟨rfl, eval_get e21⟩ | exact ⟨eval_get e21, rfl⟩ | (simp only [Act.eval] at *; simp_all)) ((MY.out w1).mono fun e w2 hh => ⟨_, hh.1, rfl, hh.2⟩) (fun v w2 hh => hK _ _ hh.1 hh.2 (Fresh.no _ _ _))
    · intro w1 hb hd K hK
      exact op_val (v := .pointer (some ⟨w1.heap.size, 0, none⟩)) (w' := w1.alloc (.cells (enC zE) 29)) rfl (by kernel_rfl) (hK _ _ (show ∃ b, _ ∧ _ from ⟨_, rfl, Blk.new w1 _ _⟩) (below1 _ _) (fun _ => ⟨_, rfl, Nat.le_refl _, by show _ < _; rw [size_al]; exact Nat.lt_succ_self _⟩))
    · intro w1 hb hd K hK
      exact op_val (v := .pointer (some ⟨w1.heap.size, 0, none⟩)) (w' := w1.alloc (.cells (enC zE) 29)) rfl (by kernel_rfl) (hK _ _ (show ∃ b, _ ∧ _ from ⟨_, rfl, Blk.new w1 _ _⟩) (below1 _ _) (fun _ => ⟨_, rfl, Nat.le_refl _, by show _ < _; rw [size_al]; exact Nat.lt_succ_self _⟩))
  have hv19 : u 0 = (.agg (smC x)) := (show u 0 = _ from hsF 0 (by omega) (by omega))
  have hv20 : u 1 = (.agg (enC a)) := (show u 1 = _ from hsF 1 (by omega) (by omega))
  have hv21 : u 2 = (.agg (smC y)) := (show u 2 = _ from hsF 2 (by omega) (by omega))
  have hv22 : u 3 = (.agg (enC b)) := (show u 3 = _ from hsF 3 (by omega) (by omega))
  obtain ⟨b5, hv5, hB5⟩ := (show ∃ b, u 4 = .pointer (some ⟨b, 0, none⟩) ∧ Blk w' b 29 (enC zE) from hsF 4 (by omega) (by omega))
  obtain ⟨xb5, hx5, hge5, -⟩ := hold 4 (by omega) (by omega) rfl
  rw [hv5] at hx5
  obtain rfl : b5 = xb5 := by simpa [blkOf] using hx5
  obtain ⟨b6, hv6, hB6⟩ := (show ∃ b, u 5 = .pointer (some ⟨b, 0, none⟩) ∧ Blk w' b 29 (enC zE) from hsF 5 (by omega) (by omega))
  obtain ⟨xb6, hx6, hge6, -⟩ := hold 5 (by omega) (by omega) rfl
  rw [hv6] at hx6
  obtain rfl : b6 = xb6 := by simpa [blkOf] using hx6
  have hne5_6 : b5 ≠ b6 := by
    have h := hap 4 5 (by omega) (by omega) (by omega) (by omega) rfl rfl (by omega)
    rw [hv5, hv6] at h
    exact fun e => h (by rw [e])
  simp only [putRow, hv19, hv20, hv21, hv22, hv5, hv6, Act.put, List.setIfInBounds_toArray, List.set_cons_succ, List.set_cons_zero]
  clear hsF hold hap hv19 hv20 hv21 hv22 hv5 hv6 hx5 hx6
  have hp1 : W1.heap.size ≤ b5 := hge5
  have hp2 : W1.heap.size ≤ b6 := hge6
  have hb6o := hB6.row_other (b' := b5) (fun e => hne5_6 e.symm) (enC a)
  have st5 := storeAt_row (T := 29) (C := enC a) hB5 (by rw [enC_size]; kernel_rfl) (by simp only [enC_size]) (enC_one a)
  have st6 := storeAt_row (T := 29) (C := enC b) hb6o (by rw [enC_size]; kernel_rfl) (by simp only [enC_size]) (enC_one b)
  have HA := Lib.hid ((hB5.row (enC a)).row_other (b' := b6) hne5_6 (enC b))
  have HB := Lib.hid (hb6o.row (enC b))
  have HE3 := Lib.hid (HE2.out.keep (Below.setRow' hp2 (Below.setRow' hp1 hbF (enC a)) (enC b)))
  clear HX2 HY2 HE2 hbF hB5 hB6 hb6o hp1 hp2 hge5 hge6 hne5_6 MX MY
  clear W1
  refine rest_forced 2 (by kernel_rfl) ?_
  simp only [List.drop_succ_cons, List.drop_zero, List.take_succ_cons, List.take_zero]
  go_wp2_with (first
    | refine op_store (p := .pointer (some ⟨b5, 0, none⟩)) (C := .agg (enC a)) 29 (.tmp 5) (.tmp 20) rfl rfl rfl rfl rfl st5 ?_
    | refine op_store (p := .pointer (some ⟨b6, 0, none⟩)) (C := .agg (enC b)) 29 (.tmp 6) (.tmp 22) rfl rfl rfl rfl rfl st6 ?_)
  clear st5 st6
  refine rest_done rfl ?_
  generalize (w'.setRow b5 (enC a)).setRow b6 (enC b) = W2 at *
  clear w'
  have la := loadAt_blk (T := 29) HA.out Tryd.underlying29 rfl (by rw [enC_size]; kernel_rfl)
  go_wp2_with (refine op_load (p := .pointer (some ⟨b5, 0, none⟩)) 29 (.tmp 5) rfl rfl rfl la ?_)
  refine (TA.out _ HE3.out.env).mono ?_
  rintro r w2 ⟨rfl, hb⟩
  have HA2 := Lib.hid (HA.out.keep hb HA.out.lt)
  have HB2 := Lib.hid (HB.out.keep hb HB.out.lt)
  have HE4 := Lib.hid (HE3.out.keep hb)
  clear HA HB HE3 hb la TA
  clear W2
  have lb := loadAt_blk (T := 29) HB2.out Tryd.underlying29 rfl (by rw [enC_size]; kernel_rfl)
  go_wp2_with (refine op_load (p := .pointer (some ⟨b6, 0, none⟩)) 29 (.tmp 6) rfl rfl rfl lb ?_)
  refine (TB.out _ HE4.out.env).mono ?_
  rintro r w3 ⟨rfl, hb⟩
  have HA3 := Lib.hid (HA2.out.keep hb HA2.out.lt)
  have HB3 := Lib.hid (HB2.out.keep hb HB2.out.lt)
  have HE5 := Lib.hid (HE4.out.keep hb)
  clear HA2 HB2 HE4 hb lb TB
  clear w2
  go_wp2_with fail
  refine (RA.out _ HE5.out.env).mono ?_
  rintro r w4 ⟨rfl, hb⟩
  have HA4 := Lib.hid ((HA3.out.keep hb HA3.out.lt).alloc (.cells (enC a) 29))
  have HB4 := Lib.hid ((HB3.out.keep hb HB3.out.lt).alloc (.cells (enC a) 29))
  have HC4 := Lib.hid (Blk.new w4 29 (enC a))
  have HE6 := Lib.hid ((HE5.out.keep hb).keep (below1 w4 (.cells (enC a) 29)))
  have st := storeAt_row (T := 29) (C := enC a) (Blk.new w4 29 (enC zE)) (by rw [enC_size]; kernel_rfl) (by simp only [enC_size]) (enC_one a)
  rw [setRow_new, zE_lit] at st
  clear HA3 HB3 HE5 hb RA
  clear w3
  go_upto_region 7 with (refine op_store (p := .pointer (some ⟨w4.heap.size, 0, none⟩)) (C := .agg (enC a)) 29 (.tmp 11) (.tmp 36) rfl rfl rfl rfl rfl st ?_)
  clear st
  generalize w4.heap.size = pc at *
  generalize w4.alloc (.cells (enC a) 29) = W5 at *
  clear w4
  have la := loadAt_blk (T := 29) HA4.out Tryd.underlying29 rfl (by rw [enC_size]; kernel_rfl)
  have lb := loadAt_blk (T := 29) HB4.out Tryd.underlying29 rfl (by rw [enC_size]; kernel_rfl)
  have lc := loadAt_blk (T := 29) HC4.out Tryd.underlying29 rfl (by rw [enC_size]; kernel_rfl)
  obtain ⟨S, hS⟩ : ∃ S, bS a.txt = S := ⟨_, rfl⟩
  obtain ⟨T, hT⟩ : ∃ T, bS b.txt = T := ⟨_, rfl⟩
  have hSn : S.size = a.txt.length := by rw [← hS]; exact bS_size _
  rw [hS] at hst HCA ⊢
  rw [hT] at hst ⊢
  rw [← hSn] at hl1 hl2 HCA
  have HSn := Lib.hid hSn
  clear hS hT hSn hlb
  go_upto_region 9 with (first
    | (guard_target =~ wpList _ _ _ (⟨some 45, _, _, _, _, _⟩ :: _) _ _; refine op_load_w (p := .pointer (some ⟨pc, 0, none⟩)) (C := .agg (enC a)) 29 (.tmp 11) (by kernel_rfl) rfl rfl lc ?_)
    | (guard_target =~ wpList _ _ _ (⟨some 46, _, _, _, _, _⟩ :: _) _ _; refine op_load_w (p := .pointer (some ⟨b5, 0, none⟩)) (C := .agg (enC a)) 29 (.tmp 5) (by kernel_rfl) rfl rfl la ?_)
    | (guard_target =~ wpList _ _ _ (⟨some 47, _, _, _, _, _⟩ :: _) _ _; refine op_bin_w (X := enC a) (Y := enC a) .neq 29 _ (.tmp 45) (.tmp 46) (by kernel_rfl) rfl rfl rfl (by kernel_rfl) (neA _) ?_)
    | (guard_target =~ wpList _ _ _ (⟨some 53, _, _, _, _, _⟩ :: _) _ _; refine op_load_w (p := .pointer (some ⟨b5, 0, none⟩)) (C := .agg (enC a)) 29 (.tmp 5) (by kernel_rfl) rfl rfl la ?_)
    | (guard_target =~ wpList _ _ _ (⟨some 54, _, _, _, _, _⟩ :: _) _ _; refine op_load_w (p := .pointer (some ⟨b6, 0, none⟩)) (C := .agg (enC b)) 29 (.tmp 6) (by kernel_rfl) rfl rfl lb ?_)
    | (guard_target =~ wpList _ _ _ (⟨some 55, _, _, _, _, _⟩ :: _) _ _; refine op_bin_w (X := enC a) (Y := enC b) .eql 29 _ (.tmp 53) (.tmp 54) (by kernel_rfl) rfl rfl rfl (by kernel_rfl) (eqAB _) ?_))
  have HA5 := HA4
  clear la lb lc hst eqAB neA qq w0 HB4 HC4 HA4
  have s0 : IntKind.i64.wrap ((S.size : Int) - 1) = ((S.size - 1 : Nat) : Int) := by
    rw [show (S.size : Int) - 1 = ((S.size - 1 : Nat) : Int) by omega]
    exact IntWalk.i64_in _ (by omega)
  have s1 : ¬ 9223372036854775807 < S.size + 1 := by omega
  have s2 : ¬ 9223372036854775807 < 1 + S.size := by omega
  have s3 : ¬ 9223372036854775807 < S.size + 2 := by omega
  have s4 : ((S.size - 1 : Nat) : Int) ≤ (S.size : Int) := by omega
  have s5 : (0 : Int) ≤ ((S.size - 1 : Nat) : Int) := by omega
  go_wp2_with fail
  rw [HCA.out]
  have HT6 := Lib.hid (Blk.new W5 9 (chgA a.txt))
  have HA6 := Lib.hid (HA5.out.alloc (.cells (chgA a.txt) 9))
  have HE7 := Lib.hid (HE6.out.keep (below1 W5 (.cells (chgA a.txt) 9)))
  have n6 := neq_deep n5
  rw [eqEn_self] at n6
  clear HA5 HE6 HCA s0 s1 s2 s3 s4 s5 n5
  generalize chgA a.txt = ZA at *
  generalize W5.heap.size = pz at *
  generalize W5.alloc (.cells ZA 9) = W6 at *
  clear W5
  go_loopw [75] (fun s75 wr => ∃ i : Nat, i ≤ 6 ∧ s75 = .int .i64 (i : Int) ∧ Hid (Blk wr pz 9 ZA) ∧ Hid (Blk wr b5 29 (enC a)) ∧ Hid (EW w wr)) (fun s75 _ => 6 - (intOf s75).toNat)
  case atStart => exact ⟨0, by omega, rfl, HT6, HA6, HE7⟩
  case round =>
    clear HT6 HA6 HE7
    obtain ⟨i, hi, rfl, HT, HA, HE⟩ := hrel
    by_cases hlt : i < 6
    · have t1 : decide ((i : Int) < 6) = true := decide_eq_true (by omega)
      obtain ⟨z, hz, hzm⟩ := chgT_at (s := a.txt) hlt
      have c0 := HT.out.cell (HZ.out i z hz)
      obtain ⟨hz1, hz2⟩ := HZ2.out z hzm
      have RZ := Lib.hid (read_any z (by have := HSn.out; omega) wr HE.out.env)
      have HNO := Lib.hid (fun c (h : readW z = some c) => back_no HIA.out hz1 h)
      have HIN := Lib.hid (fun c (h : readW z = some c) => (readW_is h).1)
      have j0 : (0 : Int) ≤ (i : Int) := by omega
      have j1 : (i : Int) < 6 := by omega
      have j2 : ¬ (6 : Int) ≤ (i : Int) := by omega
      have j3 : ¬ 6 ≤ i := by omega
      have e1 : IntKind.i64.wrap ((i : Int) + 1) = (i : Int) + 1 := IntWalk.i64_in _ (by omega)
      generalize readW z = R at *
      generalize bS z = ZB at *
      clear hz hzm hz1 hz2
      rcases R with _ | c
      · rw [readV] at RZ
        clear HNO HIN
        go_wp2_with fail
        refine RZ.out.mono ?_
        rintro r w2 ⟨rfl, hb⟩
        have HT2 := Lib.hid ((HT.out.keep hb HT.out.lt).alloc (.cells (enC zE) 29))
        have HA2 := Lib.hid ((HA.out.keep hb HA.out.lt).alloc (.cells (enC zE) 29))
        have HC2 := Lib.hid (Blk.new w2 29 (enC zE))
        have HE2 := Lib.hid ((HE.out.keep hb).keep (below1 w2 (.cells (enC zE) 29)))
        have st := storeAt_row (T := 29) (C := enC zE) (Blk.new w2 29 (enC zE)) (by rw [enC_size]; kernel_rfl) (by simp only [enC_size]) (enC_one zE)
        rw [setRow_new] at st
        have st0 : ∀ Z, Z = enC zE → (Instr.storeAt 29 (.pointer (some ⟨w2.heap.size, 0, none⟩)) (.agg (enC zE))).run Tryd.prog (w2.alloc (.cells Z 29)) = .ok () (w2.alloc (.cells (enC zE) 29)) := fun Z hZ => by rw [hZ]; exact st
        have st := st0 _ zE_lit.symm
        clear st0
        clear HT HA HE RZ hb c0
        go_upto_region 13 with (refine op_store (p := .pointer (some ⟨w2.heap.size, 0, none⟩)) (C := .agg (enC zE)) 29 (.tmp 15) (.tmp 82) rfl rfl rfl rfl rfl st ?_)
        clear st
        generalize w2.heap.size = pd at *
        generalize w2.alloc (.cells (enC zE) 29) = W7 at *
        clear wr
        have lc := loadAt_blk (T := 29) HC2.out Tryd.underlying29 rfl (by rw [enC_size]; kernel_rfl)
        go_wp2_with (first
          | (guard_target =~ wpList _ _ _ (⟨some 98, _, _, _, _, _⟩ :: _) _ _; refine op_load_w (p := .pointer (some ⟨pd, 0, none⟩)) (C := .agg (enC zE)) 29 (.tmp 15) (by kernel_rfl) rfl rfl lc ?_)
          | (guard_target =~ wpList _ _ _ (⟨some 99, _, _, _, _, _⟩ :: _) _ _; refine op_agg_w (C := enC zE) (by kernel_rfl) (by kernel_rfl) ?_)
          | (guard_target =~ wpList _ _ _ (⟨some 100, _, _, _, _, _⟩ :: _) _ _; refine op_bin_w (X := enC zE) (Y := enC zE) .neq 29 _ (.tmp 98) (.tmp 99) (by kernel_rfl) rfl rfl rfl (by kernel_rfl) (n6 _) ?_))
        go_roundw
        case rel => exact ⟨i + 1, by omega, by simp, HT2, HA2, HE2⟩
        case measure => simp only [intOf]; omega
      · rw [readV] at RZ
        have hne : eqEn c a = false := by
          have := HNO.out c rfl
          rw [Bool.eq_false_iff, ne_eq, eqEn_iff]
          exact this
        have n7 := eql_deep (eq_en c a (HIN.out c rfl) HIA.out.1)
        rw [hne] at n7
        clear HNO HIN hne n6
        go_wp2_with fail
        refine RZ.out.mono ?_
        rintro r w2 ⟨rfl, hb⟩
        have HT2 := Lib.hid ((HT.out.keep hb HT.out.lt).alloc (.cells (enC c) 29))
        have HA2 := Lib.hid ((HA.out.keep hb HA.out.lt).alloc (.cells (enC c) 29))
        have HC2 := Lib.hid (Blk.new w2 29 (enC c))
        have HE2 := Lib.hid ((HE.out.keep hb).keep (below1 w2 (.cells (enC c) 29)))
        have st := storeAt_row (T := 29) (C := enC c) (Blk.new w2 29 (enC zE)) (by rw [enC_size]; kernel_rfl) (by simp only [enC_size]) (enC_one c)
        rw [setRow_new, zE_lit] at st
        clear HT HA HE RZ hb c0
        go_upto_region 13 with (refine op_store (p := .pointer (some ⟨w2.heap.size, 0, none⟩)) (C := .agg (enC c)) 29 (.tmp 15) (.tmp 82) rfl rfl rfl rfl rfl st ?_)
        clear st
        generalize w2.heap.size = pd at *
        generalize w2.alloc (.cells (enC c) 29) = W7 at *
        clear wr
        have lc := loadAt_blk (T := 29) HC2.out Tryd.underlying29 rfl (by rw [enC_size]; kernel_rfl)
        have la := loadAt_blk (T := 29) HA2.out Tryd.underlying29 rfl (by rw [enC_size]; kernel_rfl)
        go_wp2_with (first
          | (guard_target =~ wpList _ _ _ (⟨some 87, _, _, _, _, _⟩ :: _) _ _; refine op_load_w (p := .pointer (some ⟨pd, 0, none⟩)) (C := .agg (enC c)) 29 (.tmp 15) (by kernel_rfl) rfl rfl lc ?_)
          | (guard_target =~ wpList _ _ _ (⟨some 88, _, _, _, _, _⟩ :: _) _ _; refine op_load_w (p := .pointer (some ⟨b5, 0, none⟩)) (C := .agg (enC a)) 29 (.tmp 5) (by kernel_rfl) rfl rfl la ?_)
          | (guard_target =~ wpList _ _ _ (⟨some 89, _, _, _, _, _⟩ :: _) _ _; refine op_bin_w (X := enC c) (Y := enC a) .eql 29 _ (.tmp 87) (.tmp 88) (by kernel_rfl) rfl rfl rfl (by kernel_rfl) (n7 _) ?_))
        go_roundw
        case rel => exact ⟨i + 1, by omega, by simp, HT2, HA2, HE2⟩
        case measure => simp only [intOf]; omega
    · obtain rfl : i = 6 := by omega
      clear hlt hi HT n6
      rw [show ((6 : Nat) : Int) = 6 from rfl]
      go_upto_region 16 with fail
      refine rest_begin (by kernel_rfl) ?_
      have HA7 : Hid (Blk wr.drew b5 29 (enC a)) := HA
      have HE7 := Lib.hid (HE.out.keep (Below.refl _ wr).drew)
      clear HA HE
      generalize wr.drew = W7 at *
      clear wr
      refine rest_flow3 [some 105, some 106, some 107, some 108] [⟨fun v w => ∃ x, v = .agg (snC 3 2 3 1 2 x 2) ∧ WS w x seRows, fun _ _ _ ⟨x, h1, h2⟩ hb => ⟨x, h1, h2.keep hb⟩⟩, Sp.is (.agg (enC a)), Sp.is (.int .i64 0), Sp.is (.bool true)] [false, false, false, false] 4 (by kernel_rfl) (by kernel_rfl) (fun u F hF => ?_) (fun u w' hbF hsF hold hap => ?_)
      case refine_1 =>
        have E5 : F.eval (.tmp 5) = (.pointer (some ⟨b5, 0, none⟩)) := (congrArg (fun a => Act.eval a (.tmp 5)) hF).trans (eval_out [some 105, some 106, some 107, some 108] 0 _ (by decide))
        have D106 : F.eval (.tmp 106) = u 1 := (congrArg (fun a => Act.eval a (.tmp 106)) hF).trans (eval_in [some 105, some 106, some 107, some 108] 0 1 _ (by decide) (by omega) rfl (of_decide_eq_true (by kernel_rfl)))
        have D105 : F.eval (.tmp 105) = u 0 := (congrArg (fun a => Act.eval a (.tmp 105)) hF).trans (eval_in [some 105, some 106, some 107, some 108] 0 0 _ (by decide) (by omega) rfl (of_decide_eq_true (by kernel_rfl)))
        have D107 : F.eval (.tmp 107) = u 2 := (congrArg (fun a => Act.eval a (.tmp 107)) hF).trans (eval_in [some 105, some 106, some 107, some 108] 0 2 _ (by decide) (by omega) rfl (of_decide_eq_true (by kernel_rfl)))
        clear hF
        refine ⟨?_, ?_, ?_, ?_, trivial⟩
        · intro w1 hb hd K hK
          refine op_call (R := fun v w2 => (∃ x, v = .agg (snC 3 2 3 1 2 x 2) ∧ WS w2 x seRows) ∧ Below w1.heap.size w1 w2) (f := 11) (args := #[]) rfl (by simp only [execOp]; go_simp) ((session_any w1).mono fun e w2 hh => by obtain ⟨v, h1, h2, h3⟩ := hh; exact ⟨_, h1, ⟨v, rfl, h2⟩, h3⟩) (fun v w2 hh => hK _ _ hh.1 hh.2 (Fresh.no _ _ _))
        · intro w1 hb hd K hK
          have e5 := E5
          exact op_val (v := (.agg (enC a))) rfl (exec_load rfl e5 (loadAt_blk (HA7.out.keep hb HA7.out.lt) Tryd.underlying29 rfl (by rw [enC_size]; kernel_rfl))) (hK _ _ (show _ = _ from rfl) (Below.refl _ _) (Fresh.no _ _ _))
        · intro w1 hb hd K hK
          have e106 := D106.trans (show u 1 = (.agg (enC a)) from hd ⟨1, .data⟩ (by simp) rfl (by omega))
          obtain ⟨x, e0, hw⟩ := (show ∃ x, u 0 = .agg (snC 3 2 3 1 2 x 2) ∧ WS w1 x seRows from hd ⟨0, .data⟩ (by simp) rfl (by omega))
          have e105 := D105.trans e0
          refine op_call (R := fun v w2 => v = .int .i64 0 ∧ Below w1.heap.size w1 w2) (f := 10) (args := #[.agg (snC 3 2 3 1 2 x 2), .agg (enC a)]) rfl (by simp only [execOp]; go_simp; exact ⟨eval_get e105, eval_get e106⟩) ((CK.out x w1 hw).mono fun e w2 hh => ⟨_, hh.1, rfl, hh.2⟩) (fun v w2 hh => hK _ _ hh.1 hh.2 (Fresh.no _ _ _))
        · intro w1 hb hd K hK
          have e107 := D107.trans (show u 2 = (.int .i64 0) from hd ⟨2, .data⟩ (by simp) rfl (by omega))
          exact op_val (v := (.bool true)) rfl (by simp only [execOp, List.map_toArray, List.map_cons, List.map_nil, e107]; go_simp) (hK _ _ (show _ = _ from rfl) (Below.refl _ _) (Fresh.no _ _ _))
      obtain ⟨x105, hv105, -⟩ := (show ∃ x, u 0 = .agg (snC 3 2 3 1 2 x 2) ∧ WS w' x seRows from hsF 0 (by omega) (by omega))
      have hv106 : u 1 = (.agg (enC a)) := (show u 1 = _ from hsF 1 (by omega) (by omega))
      have hv107 : u 2 = .int .i64 0 := (show u 2 = _ from hsF 2 (by omega) (by omega))
      have hv108 : u 3 = (.bool true) := (show u 3 = _ from hsF 3 (by omega) (by omega))
      simp only [putRow, hv105, hv106, hv107, hv108, Act.put, List.setIfInBounds_toArray, List.set_cons_succ, List.set_cons_zero]
      clear hsF hold hap hv105 hv106 hv107 hv108
      have HE8 := Lib.hid (HE7.out.keep hbF)
      clear HE7 hbF HA7
      refine rest_forced 1 (by kernel_rfl) ?_
      simp only [List.drop_succ_cons, List.drop_zero, List.take_succ_cons, List.take_zero]
      go_wp2_with fail
      refine rest_done rfl ?_
      go_wp2_with fail
      go_ret
      exact ⟨rfl, HE8.out.below⟩
end Go.Proofs.YtpkmibmombpjpaaDoor
