/- checks: EntryChecks without the examples. EntryChecks: the walk. EntryChecks returns true whatever the input; no condition but the tables and errors as their initialisers lay them, which the card ties to the text. -/
import Derived.Test.YtpkmibmombpjpaaGreatDoorLtM
import Derived.Test.YtpkmibmombpjpaaGreatDoorRnM
import Derived.Test.YtpkmibmombpjpaaGreatDoorRB
import Derived.Test.YtpkmibmombpjpaaGreatDoorKW
import Derived.Test.YtpkmibmombpjpaaGreatDoorSetM
import Derived.Test.YtpkmibmombpjpaaGreatDoorGw
import Derived.Test.YtpkmibmombpjpaaGreatDoorFrame
import Derived.Test.YtpkmibmombpjpaaGreatDoorOpL
import Derived.Test.YtpkmibmombpjpaaGreatDoorCards
import Derived.Test.YtpkmibmombpjpaaGreatDoorTie
import Derived.SevenTiedAt
import Derived.SizedLaws
set_option linter.unusedSimpArgs false
namespace Go.Proofs.YtpkmibmombpjpaaGreatDoor
open Go Go.RowKit

theorem textV_of (e : En) : ∃ (T : ByteArray) (c : Int), textV e = .tuple #[.string T, .int .i64 c] := by
  by_cases h : rightE e = true
  · exact ⟨_, _, textV_t h⟩
  · exact ⟨_, _, textV_f (by simpa using h)⟩
structure CK (w : World) (p3 p4 p5 p7 g : Nat) (SC OC : Array Value) (a b : En) (m : Mv) (ve : Value) (W : World) : Prop where
  ex : EX w W
  s : Blk W p3 26 SC
  sa : Blk W p4 34 (enC a)
  sb : Blk W p5 34 (enC b)
  o : Blk W p7 26 OC
  e : ES W ve [a, b]
  g : LR W g m.rows
theorem CK.keep {w W W' : World} {p3 p4 p5 p7 g : Nat} {SC OC : Array Value} {a b : En} {m : Mv} {ve : Value} (h : CK w p3 p4 p5 p7 g SC OC a b m ve W) (hb : Below W.heap.size W W') : CK w p3 p4 p5 p7 g SC OC a b m ve W' := ⟨h.ex.keep hb, h.s.keep hb h.s.lt, h.sa.keep hb h.sa.lt, h.sb.keep hb h.sb.lt, h.o.keep hb h.o.lt, h.e.keep hb, h.g.keep hb⟩
theorem se_len (m : Mv) (v : Value) (bd : Int) : (snC m.tab m.rou m.set m.cop m.win v bd).size = 7 := rfl
set_option maxRecDepth 100000 in
set_option maxHeartbeats 4000000 in
theorem checks_any (m : Mv) (bd : Int) (a b : En) (ha : a.In) (hb : b.In) (v : Value) (w : World) (he : Env w) (hv : WS w v m.rows) : Calls Tryz.prog 10 #[seV m v bd, .agg (enC a), .agg (enC b)] w (fun r w' => r = .returned (.bool true) ∧ Below w.heap.size w w') := by
  obtain ⟨A, c, rfl, hc⟩ := hv.len
  obtain ⟨N, hN⟩ : ∃ N, m.rows.length = N := ⟨_, rfl⟩
  rw [hN] at hv ⊢
  have HV := Lib.hid hv
  have HN := Lib.hid hN
  have HI := Lib.hid (And.intro ha hb)
  have HEN := Lib.hid (show EX w w from ⟨he, Below.refl _ _⟩)
  clear hv hN hc he ha hb
  unfold seV
  obtain ⟨SC, hSC⟩ : ∃ SC, snC m.tab m.rou m.set m.cop m.win (.slice A N c) bd = SC := ⟨_, rfl⟩
  have HSC := Lib.hid hSC
  rw [hSC]
  clear hSC
  go_enter Tryz.func10, Tryz.ntmps10
  go_upto_region 1 with fail
  have HS : Hid (Blk (((w.alloc (.cells SC 26)).alloc (.cells (enC a) 34)).alloc (.cells (enC b) 34)) w.heap.size 26 SC) := Lib.hid (((Blk.new w _ _).alloc _).alloc _)
  have HA : Hid (Blk (((w.alloc (.cells SC 26)).alloc (.cells (enC a) 34)).alloc (.cells (enC b) 34)) (w.heap.size + 1) 34 (enC a)) := Lib.hid (by
    have := Blk.new (w.alloc (.cells SC 26)) 34 (enC a)
    rw [size_al] at this
    exact this.alloc _)
  have HB : Hid (Blk (((w.alloc (.cells SC 26)).alloc (.cells (enC a) 34)).alloc (.cells (enC b) 34)) (w.heap.size + 1 + 1) 34 (enC b)) := Lib.hid (by
    have := Blk.new ((w.alloc (.cells SC 26)).alloc (.cells (enC a) 34)) 34 (enC b)
    rwa [size_al, size_al] at this)
  have HW : Hid (EX w (((w.alloc (.cells SC 26)).alloc (.cells (enC a) 34)).alloc (.cells (enC b) 34))) := Lib.hid (((HEN.out.keep (below1 w _)).keep (below1 _ _)).keep (below1 _ _))
  generalize ((w.alloc (.cells SC 26)).alloc (.cells (enC a) 34)).alloc (.cells (enC b) 34) = W1 at *
  generalize w.heap.size + 1 + 1 = p5 at *
  generalize w.heap.size + 1 = p4 at *
  obtain ⟨p3, hp3⟩ : ∃ p, w.heap.size = p := ⟨_, rfl⟩
  rw [hp3] at HS ⊢
  have HP3 := Lib.hid hp3
  clear hp3 HEN
  have x5 : W1.cell? ⟨p3, 5, none⟩ = some (.slice A N c) := HS.out.cell (by rw [← HSC.out]; rfl)
  by_cases h60 : 60 < N
  · have u1 : decide ((60 : Int) < (N : Int)) = true := decide_eq_true (by omega)
    have u1b : decide (60 < N) = true := decide_eq_true h60
    clear h60
    go_wp2_with fail
    go_ret
    exact ⟨rfl, by have := HW.out.below; exact this⟩
  · have u1 : decide ((60 : Int) < (N : Int)) = false := decide_eq_false (by omega)
    have u1b : decide (60 < N) = false := decide_eq_false h60
    have h6 : N ≤ 60 := by omega
    have LE : Hid (∀ W, Below w.heap.size w W → Calls Tryz.prog 30 #[.agg SC] W (fun e w' => ∃ g, e = .returned (.agg (snC m.tab m.rou m.set m.cop m.win (.slice (some ⟨g, 0, none⟩) N (N + 12)) bd)) ∧ LR w' g m.rows ∧ W.heap.size ≤ g ∧ Below W.heap.size W w')) := Lib.hid (fun W hW => by
      have := lentSe_any m bd (.slice A N c) (by rw [HN.out]; omega) W (mr_of_ws (HV.out.keep hW))
      unfold seV at this
      rw [HSC.out, HN.out] at this
      exact this)
    have HN6 := Lib.hid h6
    have la := loadAt_blk (T := 26) HS.out Tryz.underlying26 rfl (by rw [← HSC.out]; kernel_rfl)
    clear h60 h6
    go_wp2_with (refine op_load (p := .pointer (some ⟨p3, 0, none⟩)) (C := .agg SC) 26 (.tmp 3) rfl rfl rfl la ?_)
    refine (LE.out _ HW.out.below).mono ?_
    rintro r w2 ⟨g, rfl, hG, hge, hb⟩
    obtain ⟨OC, hOC⟩ : ∃ OC, snC m.tab m.rou m.set m.cop m.win (.slice (some ⟨g, 0, none⟩) N (N + 12)) bd = OC := ⟨_, rfl⟩
    have HOC := Lib.hid hOC
    rw [hOC]
    have HG := Lib.hid hG
    have HS2 := Lib.hid (HS.out.keep hb HS.out.lt)
    have HA2 := Lib.hid (HA.out.keep hb HA.out.lt)
    have HB2 := Lib.hid (HB.out.keep hb HB.out.lt)
    have HW2 := Lib.hid (HW.out.keep hb)
    have h7 : OC.size = 7 := by rw [← hOC]; rfl
    have h1 : OC.all (·.oneCell') = true := by rw [← hOC]; kernel_rfl
    have st := storeAt_row (T := 26) (C := OC) (Blk.new w2 26 #[.int .i64 0, .int .i64 0, .int .i64 0, .int .i64 0, .int .i64 0, .slice none 0 0, .int .i64 0]) (by rw [h7]; kernel_rfl) (by rw [h7]; rfl) h1
    rw [setRow_new] at st
    clear hOC hG hge hb h7 h1 la x5 HS HA HB HW LE u1 u1b
    go_upto_region 4 with (refine op_store (p := .pointer (some ⟨w2.heap.size, 0, none⟩)) (C := .agg OC) 26 (.tmp 7) (.tmp 20) rfl rfl rfl rfl rfl st ?_)
    clear st
    have HO3 := Lib.hid (Blk.new w2 26 OC)
    have HS3 := Lib.hid (HS2.out.alloc (.cells OC 26))
    have HA3 := Lib.hid (HA2.out.alloc (.cells OC 26))
    have HB3 := Lib.hid (HB2.out.alloc (.cells OC 26))
    have HG3 := Lib.hid (HG.out.keep (below1 w2 (.cells OC 26)))
    have HW3 := Lib.hid (HW2.out.keep (below1 w2 (.cells OC 26)))
    clear HS2 HA2 HB2 HG HW2
    generalize w2.alloc (.cells OC 26) = W3 at *
    generalize w2.heap.size = p7 at *
    have la := loadAt_blk (T := 34) HA3.out Tryz.underlying34 rfl (by rw [enC_size]; kernel_rfl)
    have lb := loadAt_blk (T := 34) HB3.out Tryz.underlying34 rfl (by rw [enC_size]; kernel_rfl)
    go_upto_block 0 with (first
      | refine op_load (p := .pointer (some ⟨p4, 0, none⟩)) (C := .agg (enC a)) 34 (.tmp 4) rfl rfl rfl la ?_
      | refine op_load (p := .pointer (some ⟨p5, 0, none⟩)) (C := .agg (enC b)) 34 (.tmp 5) rfl rfl rfl lb ?_
      | refine op_bsl 40 34 2 _ (flat enC [a, b]).toArray rfl rfl (by kernel_rfl) ?_)
    have HE4 : Hid (ES (W3.alloc (.cells (flat enC [a, b]).toArray 34)) (.slice (some ⟨W3.heap.size, 0, none⟩) 2 2) [a, b]) := Lib.hid (EB.ls (T := []) (M := [a, b]) (c := 2) (by
      show Blk _ _ _ _
      rw [List.append_nil]
      exact Blk.new W3 _ _) (Nat.le_refl _))
    have HK4 : Hid (CK w p3 p4 p5 p7 g SC OC a b m (.slice (some ⟨W3.heap.size, 0, none⟩) 2 2) (W3.alloc (.cells (flat enC [a, b]).toArray 34))) := Lib.hid ⟨HW3.out.keep (below1 _ _), HS3.out.alloc _, HA3.out.alloc _, HB3.out.alloc _, HO3.out.alloc _, HE4.out, HG3.out.keep (below1 _ _)⟩
    clear la lb HS3 HA3 HB3 HO3 HG3 HW3 HE4
    generalize W3.alloc (.cells (flat enC [a, b]).toArray 34) = W4 at *
    generalize W3.heap.size = pe at *
    go_wp2_with fail
    go_loopw [25] (fun s25 wr => ∃ j : Nat, j ≤ 2 ∧ s25 = .int .i64 (j : Int) ∧ Hid (CK w p3 p4 p5 p7 g SC OC a b m (.slice (some ⟨pe, 0, none⟩) 2 2) wr)) (fun s25 _ => 2 - (intOf s25).toNat)
    case atStart => exact ⟨0, by omega, rfl, HK4⟩
    case round =>
      clear HK4
      obtain ⟨j, hj, rfl, HK5⟩ := hrel
      by_cases hlt : j < 2
      · have v1 : decide ((j : Int) < 2) = true := decide_eq_true (by omega)
        obtain ⟨x, hx⟩ : ∃ x, [a, b][j]? = some x := ⟨_, List.getElem?_eq_getElem (by simpa using hlt)⟩
        have hxi : x.In := by
          rcases List.mem_cons.1 (List.mem_of_getElem? hx) with rfl | h
          · exact HI.out.1
          · rw [List.mem_singleton.1 h]; exact HI.out.2
        have lo : (Instr.loadAt 34 (.pointer (some ⟨pe, j * 33, none⟩))).run Tryz.prog wr = .ok (.agg (enC x)) wr := by
          have := HK5.out.e.load hx (Below.refl _ _)
          rwa [Nat.zero_add] at this
        have st := storeAt_row (T := 34) (C := enC x) (Blk.new wr 34 (enC zE)) (by rw [enC_size]; kernel_rfl) (by simp only [enC_size]) (enC_one x)
        rw [setRow_new, zE_lit] at st
        have e2 : IntKind.i64.wrap ((j : Int) + 1) = (j : Int) + 1 := IntWalk.i64_in _ (by omega)
        have j0 : (0 : Int) ≤ (j : Int) := by omega
        have j1 : (j : Int) < 2 := by omega
        have j2 : ¬ (2 : Int) ≤ (j : Int) := by omega
        have j3 : ¬ 2 ≤ j := by omega
        have HXI := Lib.hid hxi
        clear hx hxi
        go_upto_region 7 with (first
          | refine op_load (p := .pointer (some ⟨pe, j * 33, none⟩)) (C := .agg (enC x)) 34 (.tmp 27) rfl rfl rfl lo ?_
          | refine op_store (p := .pointer (some ⟨wr.heap.size, 0, none⟩)) (C := .agg (enC x)) 34 (.tmp 9) (.tmp 28) rfl rfl rfl rfl rfl st ?_)
        have HX5 := Lib.hid (Blk.new wr 34 (enC x))
        have HK5b := Lib.hid (HK5.out.keep (below1 wr (.cells (enC x) 34)))
        clear lo st HK5 j0 j1 j2 j3
        generalize wr.alloc (.cells (enC x) 34) = W5 at *
        generalize wr.heap.size = p9 at *
        refine rest_begin (by kernel_rfl) ?_
        have HK6 := Lib.hid (HK5b.out.keep (Below.refl _ W5).drew)
        have HX6 : Hid (Blk W5.drew p9 34 (enC x)) := HX5
        clear HK5b HX5
        obtain ⟨W6, hW6⟩ : ∃ W6, W5.drew = W6 := ⟨_, rfl⟩
        rw [hW6] at HK6 HX6 ⊢
        clear hW6
        obtain ⟨cx, hcx⟩ : ∃ cx, checkE bd m.rows x = cx := ⟨_, rfl⟩
        have CKA : Hid (∀ W, Below W6.heap.size W6 W → Calls Tryz.prog 28 #[.agg OC, .agg (enC x)] W (fun e w' => e = .returned (.int .i64 cx) ∧ Below W.heap.size W w')) := Lib.hid (fun W hW => by
          have h9 := ws_of_lr (HK6.out.g.keep hW)
          rw [HN.out] at h9
          have := check_any m.tab m.rou m.set m.cop m.win bd m.rows x (by rw [HN.out]; have := HN6.out; omega) HXI.out _ W h9
          rw [HOC.out, hcx] at this
          exact this)
        have RCK : Hid (∀ W, Below W6.heap.size W6 W → Calls Tryz.prog 31 #[.agg SC, .agg (enC x)] W (fun e w' => e = .returned (.int .i64 cx) ∧ Below W.heap.size W w')) := Lib.hid (fun W hW => by
          have := rcheck_any m.tab m.rou m.set m.cop m.win bd m.rows x (by rw [HN.out]; have := HN6.out; omega) HXI.out (.slice A N c) W (HV.out.keep (HK6.out.ex.below.trans (hW.mono HK6.out.ex.below.size)))
          rw [HSC.out, hcx] at this
          exact this)
        have HZS : Hid (SC.size = 7 ∧ OC.size = 7) := Lib.hid ⟨by rw [← HSC.out]; rfl, by rw [← HOC.out]; rfl⟩
        clear hcx
        refine rest_flow3 [some 29, some 30, some 31, some 32, some 33, some 34] [Sp.is (.agg OC), Sp.is (.agg (enC x)), Sp.is (.int .i64 cx), Sp.is (.agg SC), Sp.is (.agg (enC x)), Sp.is (.int .i64 cx)] [false, false, false, false, false, false] 6 (by kernel_rfl) (by kernel_rfl) (fun u F hF => ?_) (fun u w' hbF hsF hold hap => ?_)
        case refine_1 =>
          have E7 : F.eval (.tmp 7) = (.pointer (some ⟨p7, 0, none⟩)) := (congrArg (fun a => Act.eval a (.tmp 7)) hF).trans (eval_out [some 29, some 30, some 31, some 32, some 33, some 34] 0 _ (by decide))
          have E9 : F.eval (.tmp 9) = (.pointer (some ⟨p9, 0, none⟩)) := (congrArg (fun a => Act.eval a (.tmp 9)) hF).trans (eval_out [some 29, some 30, some 31, some 32, some 33, some 34] 0 _ (by decide))
          have D29 : F.eval (.tmp 29) = u 0 := (congrArg (fun a => Act.eval a (.tmp 29)) hF).trans (eval_in [some 29, some 30, some 31, some 32, some 33, some 34] 0 0 _ (by decide) (by omega) rfl (of_decide_eq_true (by kernel_rfl)))
          have D30 : F.eval (.tmp 30) = u 1 := (congrArg (fun a => Act.eval a (.tmp 30)) hF).trans (eval_in [some 29, some 30, some 31, some 32, some 33, some 34] 0 1 _ (by decide) (by omega) rfl (of_decide_eq_true (by kernel_rfl)))
          have E3 : F.eval (.tmp 3) = (.pointer (some ⟨p3, 0, none⟩)) := (congrArg (fun a => Act.eval a (.tmp 3)) hF).trans (eval_out [some 29, some 30, some 31, some 32, some 33, some 34] 0 _ (by decide))
          have D32 : F.eval (.tmp 32) = u 3 := (congrArg (fun a => Act.eval a (.tmp 32)) hF).trans (eval_in [some 29, some 30, some 31, some 32, some 33, some 34] 0 3 _ (by decide) (by omega) rfl (of_decide_eq_true (by kernel_rfl)))
          have D33 : F.eval (.tmp 33) = u 4 := (congrArg (fun a => Act.eval a (.tmp 33)) hF).trans (eval_in [some 29, some 30, some 31, some 32, some 33, some 34] 0 4 _ (by decide) (by omega) rfl (of_decide_eq_true (by kernel_rfl)))
          clear hF
          refine ⟨?_, ?_, ?_, ?_, ?_, ?_, trivial⟩
          · intro w1 hb hd K hK
            have e7 := E7
            exact op_val (v := (.agg OC)) rfl (exec_load rfl e7 (loadAt_blk (HK6.out.o.keep hb HK6.out.o.lt) Tryz.underlying26 rfl (by rw [HZS.out.2]; kernel_rfl))) (hK _ _ (show _ = _ from rfl) (Below.refl _ _) (Fresh.no _ _ _))
          · intro w1 hb hd K hK
            have e9 := E9
            exact op_val (v := (.agg (enC x))) rfl (exec_load rfl e9 (loadAt_blk (HX6.out.keep hb HX6.out.lt) Tryz.underlying34 rfl (by rw [enC_size]; kernel_rfl))) (hK _ _ (show _ = _ from rfl) (Below.refl _ _) (Fresh.no _ _ _))
          · intro w1 hb hd K hK
            have e29 := D29.trans (show u 0 = (.agg OC) from hd ⟨0, .data⟩ (by simp) rfl (by omega))
            have e30 := D30.trans (show u 1 = (.agg (enC x)) from hd ⟨1, .data⟩ (by simp) rfl (by omega))
            refine op_call (R := fun v w2 => v = (.int .i64 cx) ∧ Below w1.heap.size w1 w2) (f := 28) (args := #[.agg OC, .agg (enC x)]) rfl (by simp only [execOp]; go_simp; first | exact ⟨eval_get e29, eval_get e30⟩ | (simp only [Act.eval] at *; simp_all)) ((CKA.out w1 hb).mono fun e w2 hh => ⟨_, hh.1, rfl, hh.2⟩) (fun v w2 hh => hK _ _ hh.1 hh.2 (Fresh.no _ _ _))
          · intro w1 hb hd K hK
            have e3 := E3
            exact op_val (v := (.agg SC)) rfl (exec_load rfl e3 (loadAt_blk (HK6.out.s.keep hb HK6.out.s.lt) Tryz.underlying26 rfl (by rw [HZS.out.1]; kernel_rfl))) (hK _ _ (show _ = _ from rfl) (Below.refl _ _) (Fresh.no _ _ _))
          · intro w1 hb hd K hK
            have e9 := E9
            exact op_val (v := (.agg (enC x))) rfl (exec_load rfl e9 (loadAt_blk (HX6.out.keep hb HX6.out.lt) Tryz.underlying34 rfl (by rw [enC_size]; kernel_rfl))) (hK _ _ (show _ = _ from rfl) (Below.refl _ _) (Fresh.no _ _ _))
          · intro w1 hb hd K hK
            have e32 := D32.trans (show u 3 = (.agg SC) from hd ⟨3, .data⟩ (by simp) rfl (by omega))
            have e33 := D33.trans (show u 4 = (.agg (enC x)) from hd ⟨4, .data⟩ (by simp) rfl (by omega))
            refine op_call (R := fun v w2 => v = (.int .i64 cx) ∧ Below w1.heap.size w1 w2) (f := 31) (args := #[.agg SC, .agg (enC x)]) rfl (by simp only [execOp]; go_simp; first | exact ⟨eval_get e32, eval_get e33⟩ | (simp only [Act.eval] at *; simp_all)) ((RCK.out w1 hb).mono fun e w2 hh => ⟨_, hh.1, rfl, hh.2⟩) (fun v w2 hh => hK _ _ hh.1 hh.2 (Fresh.no _ _ _))
        have hv29 : u 0 = (.agg OC) := (show u 0 = _ from hsF 0 (by omega) (by omega))
        have hv30 : u 1 = (.agg (enC x)) := (show u 1 = _ from hsF 1 (by omega) (by omega))
        have hv31 : u 2 = (.int .i64 cx) := (show u 2 = _ from hsF 2 (by omega) (by omega))
        have hv32 : u 3 = (.agg SC) := (show u 3 = _ from hsF 3 (by omega) (by omega))
        have hv33 : u 4 = (.agg (enC x)) := (show u 4 = _ from hsF 4 (by omega) (by omega))
        have hv34 : u 5 = (.int .i64 cx) := (show u 5 = _ from hsF 5 (by omega) (by omega))
        simp only [putRow, hv29, hv30, hv31, hv32, hv33, hv34, Act.put, List.setIfInBounds_toArray, List.set_cons_succ, List.set_cons_zero]
        clear hsF hold hap hv29 hv30 hv31 hv32 hv33 hv34
        have HK7 := Lib.hid (HK6.out.keep hbF)
        have HX7 := Lib.hid (HX6.out.keep hbF HX6.out.lt)
        have ne0 : (cx != cx) = false := by simp
        clear HK6 HX6 CKA RCK hbF
        refine rest_forced 1 (by kernel_rfl) ?_
        simp only [List.drop_succ_cons, List.drop_zero, List.take_succ_cons, List.take_zero]
        go_wp2_with fail
        refine rest_done rfl ?_
        obtain ⟨T, cc, hT⟩ := textV_of x
        have TX := Lib.hid (fun W (he : Env W) => text_any x HXI.out W he)
        have RX := Lib.hid (fun W (he : Env W) => rtext_any x HXI.out W he)
        rw [hT] at TX RX
        have lx := loadAt_blk (T := 34) HX7.out Tryz.underlying34 rfl (by rw [enC_size]; kernel_rfl)
        clear hT
        go_wp2_with (refine op_load (p := .pointer (some ⟨p9, 0, none⟩)) (C := .agg (enC x)) 34 (.tmp 9) rfl rfl rfl lx ?_)
        refine (TX.out _ HK7.out.ex.env).mono ?_
        rintro r w8 ⟨rfl, hb⟩
        have HK8 := Lib.hid (HK7.out.keep hb)
        have HX8 := Lib.hid (HX7.out.keep hb HX7.out.lt)
        clear lx HK7 HX7 TX hb
        have lx := loadAt_blk (T := 34) HX8.out Tryz.underlying34 rfl (by rw [enC_size]; kernel_rfl)
        go_wp2_with (refine op_load (p := .pointer (some ⟨p9, 0, none⟩)) (C := .agg (enC x)) 34 (.tmp 9) rfl rfl rfl lx ?_)
        refine (RX.out _ HK8.out.ex.env).mono ?_
        rintro r w9 ⟨rfl, hb⟩
        have HK9 := Lib.hid (HK8.out.keep hb)
        clear lx HK8 HX8 RX hb
        have t0 : (T.toList == T.toList) = true := beq_self_eq_true _
        go_wp2_with fail
        go_roundw
        case rel => exact ⟨j + 1, by omega, by simp, HK9⟩
        case measure => simp only [intOf]; omega
      · obtain rfl : j = 2 := by omega
        have v1 : decide ((2 : Int) < 2) = false := rfl
        rw [show ((2 : Nat) : Int) = 2 from rfl]
        go_upto_region 14 with fail
        refine rest_begin (by kernel_rfl) ?_
        have HK6 := Lib.hid (HK5.out.keep (Below.refl _ wr).drew)
        obtain ⟨W6, hW6⟩ : ∃ W6, wr.drew = W6 := ⟨_, rfl⟩
        rw [hW6] at HK6 ⊢
        clear hW6 HK5 hlt
        have HZS : Hid (SC.size = 7 ∧ OC.size = 7) := Lib.hid ⟨by rw [← HSC.out]; rfl, by rw [← HOC.out]; rfl⟩
        have C1 := Lib.hid (fun W => cmpE_any a b HI.out.1 HI.out.2 W)
        have C2 := Lib.hid (fun W => rcompare_any a b HI.out.1 HI.out.2 W)
        have C3 := Lib.hid (fun W => cmpE_any b a HI.out.2 HI.out.1 W)
        have C4 := Lib.hid (fun W => rcompare_any b a HI.out.2 HI.out.1 W)
        generalize cmpE a b = cab at *
        generalize cmpE b a = cba at *
        have KS : Hid (∀ W, Below W6.heap.size W6 W → Calls Tryz.prog 33 #[.agg OC, .agg SC] W (fun e w' => e = .returned (.bool true) ∧ Below W.heap.size W w')) := Lib.hid (fun W hW => by
          have := keptSe_any m bd g (.slice A N c) (by rw [HN.out]; have := HN6.out; omega) W (HK6.out.g.keep hW) (mr_of_ws (HV.out.keep (HK6.out.ex.below.trans (hW.mono HK6.out.ex.below.size))))
          unfold seV at this
          rw [HN.out, HOC.out, HSC.out] at this
          exact this)
        refine rest_flow3 [some 55, some 56, some 57, some 58, some 59, some 60, some 61, some 62, some 63, some 64, some 65, some 66, some 67, some 68, some 69, some 70, some 71, some 72, some 73, some 74, some 75] [Sp.is (.agg (enC a)), Sp.is (.agg (enC b)), Sp.is (.int .i64 cab), Sp.is (.agg (enC a)), Sp.is (.agg (enC b)), Sp.is (.int .i64 cab), Sp.is (.bool true), Sp.is (.bool true), Sp.is (.agg (enC b)), Sp.is (.agg (enC a)), Sp.is (.int .i64 cba), Sp.is (.agg (enC b)), Sp.is (.agg (enC a)), Sp.is (.int .i64 cba), Sp.is (.bool true), Sp.is (.bool true), Sp.is (.bool true), Sp.is (.agg OC), Sp.is (.agg SC), Sp.is (.bool true), Sp.is (.bool true)] [false, false, false, false, false, false, false, false, false, false, false, false, false, false, false, false, false, false, false, false, false] 21 (by kernel_rfl) (by kernel_rfl) (fun u F hF => ?_) (fun u w' hbF hsF hold hap => ?_)
        case refine_1 =>
          have E4 : F.eval (.tmp 4) = (.pointer (some ⟨p4, 0, none⟩)) := (congrArg (fun a => Act.eval a (.tmp 4)) hF).trans (eval_out [some 55, some 56, some 57, some 58, some 59, some 60, some 61, some 62, some 63, some 64, some 65, some 66, some 67, some 68, some 69, some 70, some 71, some 72, some 73, some 74, some 75] 0 _ (by decide))
          have E5 : F.eval (.tmp 5) = (.pointer (some ⟨p5, 0, none⟩)) := (congrArg (fun a => Act.eval a (.tmp 5)) hF).trans (eval_out [some 55, some 56, some 57, some 58, some 59, some 60, some 61, some 62, some 63, some 64, some 65, some 66, some 67, some 68, some 69, some 70, some 71, some 72, some 73, some 74, some 75] 0 _ (by decide))
          have D55 : F.eval (.tmp 55) = u 0 := (congrArg (fun a => Act.eval a (.tmp 55)) hF).trans (eval_in [some 55, some 56, some 57, some 58, some 59, some 60, some 61, some 62, some 63, some 64, some 65, some 66, some 67, some 68, some 69, some 70, some 71, some 72, some 73, some 74, some 75] 0 0 _ (by decide) (by omega) rfl (of_decide_eq_true (by kernel_rfl)))
          have D56 : F.eval (.tmp 56) = u 1 := (congrArg (fun a => Act.eval a (.tmp 56)) hF).trans (eval_in [some 55, some 56, some 57, some 58, some 59, some 60, some 61, some 62, some 63, some 64, some 65, some 66, some 67, some 68, some 69, some 70, some 71, some 72, some 73, some 74, some 75] 0 1 _ (by decide) (by omega) rfl (of_decide_eq_true (by kernel_rfl)))
          have D58 : F.eval (.tmp 58) = u 3 := (congrArg (fun a => Act.eval a (.tmp 58)) hF).trans (eval_in [some 55, some 56, some 57, some 58, some 59, some 60, some 61, some 62, some 63, some 64, some 65, some 66, some 67, some 68, some 69, some 70, some 71, some 72, some 73, some 74, some 75] 0 3 _ (by decide) (by omega) rfl (of_decide_eq_true (by kernel_rfl)))
          have D59 : F.eval (.tmp 59) = u 4 := (congrArg (fun a => Act.eval a (.tmp 59)) hF).trans (eval_in [some 55, some 56, some 57, some 58, some 59, some 60, some 61, some 62, some 63, some 64, some 65, some 66, some 67, some 68, some 69, some 70, some 71, some 72, some 73, some 74, some 75] 0 4 _ (by decide) (by omega) rfl (of_decide_eq_true (by kernel_rfl)))
          have D57 : F.eval (.tmp 57) = u 2 := (congrArg (fun a => Act.eval a (.tmp 57)) hF).trans (eval_in [some 55, some 56, some 57, some 58, some 59, some 60, some 61, some 62, some 63, some 64, some 65, some 66, some 67, some 68, some 69, some 70, some 71, some 72, some 73, some 74, some 75] 0 2 _ (by decide) (by omega) rfl (of_decide_eq_true (by kernel_rfl)))
          have D60 : F.eval (.tmp 60) = u 5 := (congrArg (fun a => Act.eval a (.tmp 60)) hF).trans (eval_in [some 55, some 56, some 57, some 58, some 59, some 60, some 61, some 62, some 63, some 64, some 65, some 66, some 67, some 68, some 69, some 70, some 71, some 72, some 73, some 74, some 75] 0 5 _ (by decide) (by omega) rfl (of_decide_eq_true (by kernel_rfl)))
          have D61 : F.eval (.tmp 61) = u 6 := (congrArg (fun a => Act.eval a (.tmp 61)) hF).trans (eval_in [some 55, some 56, some 57, some 58, some 59, some 60, some 61, some 62, some 63, some 64, some 65, some 66, some 67, some 68, some 69, some 70, some 71, some 72, some 73, some 74, some 75] 0 6 _ (by decide) (by omega) rfl (of_decide_eq_true (by kernel_rfl)))
          have D62 : F.eval (.tmp 62) = u 7 := (congrArg (fun a => Act.eval a (.tmp 62)) hF).trans (eval_in [some 55, some 56, some 57, some 58, some 59, some 60, some 61, some 62, some 63, some 64, some 65, some 66, some 67, some 68, some 69, some 70, some 71, some 72, some 73, some 74, some 75] 0 7 _ (by decide) (by omega) rfl (of_decide_eq_true (by kernel_rfl)))
          have D63 : F.eval (.tmp 63) = u 8 := (congrArg (fun a => Act.eval a (.tmp 63)) hF).trans (eval_in [some 55, some 56, some 57, some 58, some 59, some 60, some 61, some 62, some 63, some 64, some 65, some 66, some 67, some 68, some 69, some 70, some 71, some 72, some 73, some 74, some 75] 0 8 _ (by decide) (by omega) rfl (of_decide_eq_true (by kernel_rfl)))
          have D64 : F.eval (.tmp 64) = u 9 := (congrArg (fun a => Act.eval a (.tmp 64)) hF).trans (eval_in [some 55, some 56, some 57, some 58, some 59, some 60, some 61, some 62, some 63, some 64, some 65, some 66, some 67, some 68, some 69, some 70, some 71, some 72, some 73, some 74, some 75] 0 9 _ (by decide) (by omega) rfl (of_decide_eq_true (by kernel_rfl)))
          have D66 : F.eval (.tmp 66) = u 11 := (congrArg (fun a => Act.eval a (.tmp 66)) hF).trans (eval_in [some 55, some 56, some 57, some 58, some 59, some 60, some 61, some 62, some 63, some 64, some 65, some 66, some 67, some 68, some 69, some 70, some 71, some 72, some 73, some 74, some 75] 0 11 _ (by decide) (by omega) rfl (of_decide_eq_true (by kernel_rfl)))
          have D67 : F.eval (.tmp 67) = u 12 := (congrArg (fun a => Act.eval a (.tmp 67)) hF).trans (eval_in [some 55, some 56, some 57, some 58, some 59, some 60, some 61, some 62, some 63, some 64, some 65, some 66, some 67, some 68, some 69, some 70, some 71, some 72, some 73, some 74, some 75] 0 12 _ (by decide) (by omega) rfl (of_decide_eq_true (by kernel_rfl)))
          have D65 : F.eval (.tmp 65) = u 10 := (congrArg (fun a => Act.eval a (.tmp 65)) hF).trans (eval_in [some 55, some 56, some 57, some 58, some 59, some 60, some 61, some 62, some 63, some 64, some 65, some 66, some 67, some 68, some 69, some 70, some 71, some 72, some 73, some 74, some 75] 0 10 _ (by decide) (by omega) rfl (of_decide_eq_true (by kernel_rfl)))
          have D68 : F.eval (.tmp 68) = u 13 := (congrArg (fun a => Act.eval a (.tmp 68)) hF).trans (eval_in [some 55, some 56, some 57, some 58, some 59, some 60, some 61, some 62, some 63, some 64, some 65, some 66, some 67, some 68, some 69, some 70, some 71, some 72, some 73, some 74, some 75] 0 13 _ (by decide) (by omega) rfl (of_decide_eq_true (by kernel_rfl)))
          have D69 : F.eval (.tmp 69) = u 14 := (congrArg (fun a => Act.eval a (.tmp 69)) hF).trans (eval_in [some 55, some 56, some 57, some 58, some 59, some 60, some 61, some 62, some 63, some 64, some 65, some 66, some 67, some 68, some 69, some 70, some 71, some 72, some 73, some 74, some 75] 0 14 _ (by decide) (by omega) rfl (of_decide_eq_true (by kernel_rfl)))
          have D70 : F.eval (.tmp 70) = u 15 := (congrArg (fun a => Act.eval a (.tmp 70)) hF).trans (eval_in [some 55, some 56, some 57, some 58, some 59, some 60, some 61, some 62, some 63, some 64, some 65, some 66, some 67, some 68, some 69, some 70, some 71, some 72, some 73, some 74, some 75] 0 15 _ (by decide) (by omega) rfl (of_decide_eq_true (by kernel_rfl)))
          have E7 : F.eval (.tmp 7) = (.pointer (some ⟨p7, 0, none⟩)) := (congrArg (fun a => Act.eval a (.tmp 7)) hF).trans (eval_out [some 55, some 56, some 57, some 58, some 59, some 60, some 61, some 62, some 63, some 64, some 65, some 66, some 67, some 68, some 69, some 70, some 71, some 72, some 73, some 74, some 75] 0 _ (by decide))
          have D71 : F.eval (.tmp 71) = u 16 := (congrArg (fun a => Act.eval a (.tmp 71)) hF).trans (eval_in [some 55, some 56, some 57, some 58, some 59, some 60, some 61, some 62, some 63, some 64, some 65, some 66, some 67, some 68, some 69, some 70, some 71, some 72, some 73, some 74, some 75] 0 16 _ (by decide) (by omega) rfl (of_decide_eq_true (by kernel_rfl)))
          have E3 : F.eval (.tmp 3) = (.pointer (some ⟨p3, 0, none⟩)) := (congrArg (fun a => Act.eval a (.tmp 3)) hF).trans (eval_out [some 55, some 56, some 57, some 58, some 59, some 60, some 61, some 62, some 63, some 64, some 65, some 66, some 67, some 68, some 69, some 70, some 71, some 72, some 73, some 74, some 75] 0 _ (by decide))
          have D72 : F.eval (.tmp 72) = u 17 := (congrArg (fun a => Act.eval a (.tmp 72)) hF).trans (eval_in [some 55, some 56, some 57, some 58, some 59, some 60, some 61, some 62, some 63, some 64, some 65, some 66, some 67, some 68, some 69, some 70, some 71, some 72, some 73, some 74, some 75] 0 17 _ (by decide) (by omega) rfl (of_decide_eq_true (by kernel_rfl)))
          have D73 : F.eval (.tmp 73) = u 18 := (congrArg (fun a => Act.eval a (.tmp 73)) hF).trans (eval_in [some 55, some 56, some 57, some 58, some 59, some 60, some 61, some 62, some 63, some 64, some 65, some 66, some 67, some 68, some 69, some 70, some 71, some 72, some 73, some 74, some 75] 0 18 _ (by decide) (by omega) rfl (of_decide_eq_true (by kernel_rfl)))
          have D74 : F.eval (.tmp 74) = u 19 := (congrArg (fun a => Act.eval a (.tmp 74)) hF).trans (eval_in [some 55, some 56, some 57, some 58, some 59, some 60, some 61, some 62, some 63, some 64, some 65, some 66, some 67, some 68, some 69, some 70, some 71, some 72, some 73, some 74, some 75] 0 19 _ (by decide) (by omega) rfl (of_decide_eq_true (by kernel_rfl)))
          clear hF
          refine ⟨?_, ?_, ?_, ?_, ?_, ?_, ?_, ?_, ?_, ?_, ?_, ?_, ?_, ?_, ?_, ?_, ?_, ?_, ?_, ?_, ?_, trivial⟩
          · intro w1 hb hd K hK
            have e4 := E4
            exact op_val (v := (.agg (enC a))) rfl (exec_load rfl e4 (loadAt_blk (HK6.out.sa.keep hb HK6.out.sa.lt) Tryz.underlying34 rfl (by rw [enC_size]; kernel_rfl))) (hK _ _ (show _ = _ from rfl) (Below.refl _ _) (Fresh.no _ _ _))
          · intro w1 hb hd K hK
            have e5 := E5
            exact op_val (v := (.agg (enC b))) rfl (exec_load rfl e5 (loadAt_blk (HK6.out.sb.keep hb HK6.out.sb.lt) Tryz.underlying34 rfl (by rw [enC_size]; kernel_rfl))) (hK _ _ (show _ = _ from rfl) (Below.refl _ _) (Fresh.no _ _ _))
          · intro w1 hb hd K hK
            have e55 := D55.trans (show u 0 = (.agg (enC a)) from hd ⟨0, .data⟩ (by simp) rfl (by omega))
            have e56 := D56.trans (show u 1 = (.agg (enC b)) from hd ⟨1, .data⟩ (by simp) rfl (by omega))
            refine op_call (R := fun v w2 => v = (.int .i64 cab) ∧ Below w1.heap.size w1 w2) (f := 25) (args := #[.agg (enC a), .agg (enC b)]) rfl (by simp only [execOp]; go_simp; first | exact ⟨eval_get e55, eval_get e56⟩ | (simp only [Act.eval] at *; simp_all)) ((C1.out w1).mono fun e w2 hh => ⟨_, hh.1, rfl, hh.2⟩) (fun v w2 hh => hK _ _ hh.1 hh.2 (Fresh.no _ _ _))
          · intro w1 hb hd K hK
            have e4 := E4
            exact op_val (v := (.agg (enC a))) rfl (exec_load rfl e4 (loadAt_blk (HK6.out.sa.keep hb HK6.out.sa.lt) Tryz.underlying34 rfl (by rw [enC_size]; kernel_rfl))) (hK _ _ (show _ = _ from rfl) (Below.refl _ _) (Fresh.no _ _ _))
          · intro w1 hb hd K hK
            have e5 := E5
            exact op_val (v := (.agg (enC b))) rfl (exec_load rfl e5 (loadAt_blk (HK6.out.sb.keep hb HK6.out.sb.lt) Tryz.underlying34 rfl (by rw [enC_size]; kernel_rfl))) (hK _ _ (show _ = _ from rfl) (Below.refl _ _) (Fresh.no _ _ _))
          · intro w1 hb hd K hK
            have e58 := D58.trans (show u 3 = (.agg (enC a)) from hd ⟨3, .data⟩ (by simp) rfl (by omega))
            have e59 := D59.trans (show u 4 = (.agg (enC b)) from hd ⟨4, .data⟩ (by simp) rfl (by omega))
            refine op_call (R := fun v w2 => v = (.int .i64 cab) ∧ Below w1.heap.size w1 w2) (f := 32) (args := #[.agg (enC a), .agg (enC b)]) rfl (by simp only [execOp]; go_simp; first | exact ⟨eval_get e58, eval_get e59⟩ | (simp only [Act.eval] at *; simp_all)) ((C2.out w1).mono fun e w2 hh => ⟨_, hh.1, rfl, hh.2⟩) (fun v w2 hh => hK _ _ hh.1 hh.2 (Fresh.no _ _ _))
          · intro w1 hb hd K hK
            have e57 := D57.trans (show u 2 = (.int .i64 cab) from hd ⟨2, .data⟩ (by simp) rfl (by omega))
            have e60 := D60.trans (show u 5 = (.int .i64 cab) from hd ⟨5, .data⟩ (by simp) rfl (by omega))
            exact op_val (v := (.bool true)) rfl (by simp only [execOp, List.map_toArray, List.map_cons, List.map_nil, e57, e60]; go_simp) (hK _ _ (show _ = _ from rfl) (Below.refl _ _) (Fresh.no _ _ _))
          · intro w1 hb hd K hK
            have e61 := D61.trans (show u 6 = (.bool true) from hd ⟨6, .data⟩ (by simp) rfl (by omega))
            exact op_val (v := (.bool true)) rfl (by simp only [execOp, List.map_toArray, List.map_cons, List.map_nil, e61]; go_simp) (hK _ _ (show _ = _ from rfl) (Below.refl _ _) (Fresh.no _ _ _))
          · intro w1 hb hd K hK
            have e5 := E5
            have g := D62.trans (show u 7 = .bool true from hd ⟨7, .guard⟩ (by simp) rfl (by omega))
            exact op_val_w (v := (.agg (enC b))) (wanted_of (j := 7) (s := 62) (b := true) (by kernel_rfl) (by kernel_rfl) g) (exec_load rfl e5 (loadAt_blk (HK6.out.sb.keep hb HK6.out.sb.lt) Tryz.underlying34 rfl (by rw [enC_size]; kernel_rfl))) (hK _ _ (show _ = _ from rfl) (Below.refl _ _) (Fresh.no _ _ _))
          · intro w1 hb hd K hK
            have e4 := E4
            have g := D62.trans (show u 7 = .bool true from hd ⟨7, .guard⟩ (by simp) rfl (by omega))
            exact op_val_w (v := (.agg (enC a))) (wanted_of (j := 7) (s := 62) (b := true) (by kernel_rfl) (by kernel_rfl) g) (exec_load rfl e4 (loadAt_blk (HK6.out.sa.keep hb HK6.out.sa.lt) Tryz.underlying34 rfl (by rw [enC_size]; kernel_rfl))) (hK _ _ (show _ = _ from rfl) (Below.refl _ _) (Fresh.no _ _ _))
          · intro w1 hb hd K hK
            have e63 := D63.trans (show u 8 = (.agg (enC b)) from hd ⟨8, .data⟩ (by simp) rfl (by omega))
            have e64 := D64.trans (show u 9 = (.agg (enC a)) from hd ⟨9, .data⟩ (by simp) rfl (by omega))
            have g := D62.trans (show u 7 = .bool true from hd ⟨7, .guard⟩ (by simp) rfl (by omega))
            refine op_call_w (R := fun v w2 => v = (.int .i64 cba) ∧ Below w1.heap.size w1 w2) (f := 25) (args := #[.agg (enC b), .agg (enC a)]) (wanted_of (j := 7) (s := 62) (b := true) (by kernel_rfl) (by kernel_rfl) g) (by simp only [execOp]; go_simp; first | exact ⟨eval_get e63, eval_get e64⟩ | (simp only [Act.eval] at *; simp_all)) ((C3.out w1).mono fun e w2 hh => ⟨_, hh.1, rfl, hh.2⟩) (fun v w2 hh => hK _ _ hh.1 hh.2 (Fresh.no _ _ _))
          · intro w1 hb hd K hK
            have e5 := E5
            have g := D62.trans (show u 7 = .bool true from hd ⟨7, .guard⟩ (by simp) rfl (by omega))
            exact op_val_w (v := (.agg (enC b))) (wanted_of (j := 7) (s := 62) (b := true) (by kernel_rfl) (by kernel_rfl) g) (exec_load rfl e5 (loadAt_blk (HK6.out.sb.keep hb HK6.out.sb.lt) Tryz.underlying34 rfl (by rw [enC_size]; kernel_rfl))) (hK _ _ (show _ = _ from rfl) (Below.refl _ _) (Fresh.no _ _ _))
          · intro w1 hb hd K hK
            have e4 := E4
            have g := D62.trans (show u 7 = .bool true from hd ⟨7, .guard⟩ (by simp) rfl (by omega))
            exact op_val_w (v := (.agg (enC a))) (wanted_of (j := 7) (s := 62) (b := true) (by kernel_rfl) (by kernel_rfl) g) (exec_load rfl e4 (loadAt_blk (HK6.out.sa.keep hb HK6.out.sa.lt) Tryz.underlying34 rfl (by rw [enC_size]; kernel_rfl))) (hK _ _ (show _ = _ from rfl) (Below.refl _ _) (Fresh.no _ _ _))
          · intro w1 hb hd K hK
            have e66 := D66.trans (show u 11 = (.agg (enC b)) from hd ⟨11, .data⟩ (by simp) rfl (by omega))
            have e67 := D67.trans (show u 12 = (.agg (enC a)) from hd ⟨12, .data⟩ (by simp) rfl (by omega))
            have g := D62.trans (show u 7 = .bool true from hd ⟨7, .guard⟩ (by simp) rfl (by omega))
            refine op_call_w (R := fun v w2 => v = (.int .i64 cba) ∧ Below w1.heap.size w1 w2) (f := 32) (args := #[.agg (enC b), .agg (enC a)]) (wanted_of (j := 7) (s := 62) (b := true) (by kernel_rfl) (by kernel_rfl) g) (by simp only [execOp]; go_simp; first | exact ⟨eval_get e66, eval_get e67⟩ | (simp only [Act.eval] at *; simp_all)) ((C4.out w1).mono fun e w2 hh => ⟨_, hh.1, rfl, hh.2⟩) (fun v w2 hh => hK _ _ hh.1 hh.2 (Fresh.no _ _ _))
          · intro w1 hb hd K hK
            have e65 := D65.trans (show u 10 = (.int .i64 cba) from hd ⟨10, .data⟩ (by simp) rfl (by omega))
            have e68 := D68.trans (show u 13 = (.int .i64 cba) from hd ⟨13, .data⟩ (by simp) rfl (by omega))
            have g := D62.trans (show u 7 = .bool true from hd ⟨7, .guard⟩ (by simp) rfl (by omega))
            exact op_val_w (v := (.bool true)) (wanted_of (j := 7) (s := 62) (b := true) (by kernel_rfl) (by kernel_rfl) g) (by simp only [execOp, List.map_toArray, List.map_cons, List.map_nil, e65, e68]; go_simp) (hK _ _ (show _ = _ from rfl) (Below.refl _ _) (Fresh.no _ _ _))
          · intro w1 hb hd K hK
            have e62 := D62.trans (show u 7 = (.bool true) from hd ⟨7, .data⟩ (by simp) rfl (by omega))
            have e69 := D69.trans (show u 14 = (.bool true) from hd ⟨14, .data⟩ (by simp) rfl (by omega))
            exact op_val (v := (.bool true)) rfl (by simp only [execOp, List.map_toArray, List.map_cons, List.map_nil, e62, e69]; go_simp) (hK _ _ (show _ = _ from rfl) (Below.refl _ _) (Fresh.no _ _ _))
          · intro w1 hb hd K hK
            have e70 := D70.trans (show u 15 = (.bool true) from hd ⟨15, .data⟩ (by simp) rfl (by omega))
            exact op_val (v := (.bool true)) rfl (by simp only [execOp, List.map_toArray, List.map_cons, List.map_nil, e70]; go_simp) (hK _ _ (show _ = _ from rfl) (Below.refl _ _) (Fresh.no _ _ _))
          · intro w1 hb hd K hK
            have e7 := E7
            have g := D71.trans (show u 16 = .bool true from hd ⟨16, .guard⟩ (by simp) rfl (by omega))
            exact op_val_w (v := (.agg OC)) (wanted_of (j := 16) (s := 71) (b := true) (by kernel_rfl) (by kernel_rfl) g) (exec_load rfl e7 (loadAt_blk (HK6.out.o.keep hb HK6.out.o.lt) Tryz.underlying26 rfl (by rw [HZS.out.2]; kernel_rfl))) (hK _ _ (show _ = _ from rfl) (Below.refl _ _) (Fresh.no _ _ _))
          · intro w1 hb hd K hK
            have e3 := E3
            have g := D71.trans (show u 16 = .bool true from hd ⟨16, .guard⟩ (by simp) rfl (by omega))
            exact op_val_w (v := (.agg SC)) (wanted_of (j := 16) (s := 71) (b := true) (by kernel_rfl) (by kernel_rfl) g) (exec_load rfl e3 (loadAt_blk (HK6.out.s.keep hb HK6.out.s.lt) Tryz.underlying26 rfl (by rw [HZS.out.1]; kernel_rfl))) (hK _ _ (show _ = _ from rfl) (Below.refl _ _) (Fresh.no _ _ _))
          · intro w1 hb hd K hK
            have e72 := D72.trans (show u 17 = (.agg OC) from hd ⟨17, .data⟩ (by simp) rfl (by omega))
            have e73 := D73.trans (show u 18 = (.agg SC) from hd ⟨18, .data⟩ (by simp) rfl (by omega))
            have g := D71.trans (show u 16 = .bool true from hd ⟨16, .guard⟩ (by simp) rfl (by omega))
            refine op_call_w (R := fun v w2 => v = (.bool true) ∧ Below w1.heap.size w1 w2) (f := 33) (args := #[.agg OC, .agg SC]) (wanted_of (j := 16) (s := 71) (b := true) (by kernel_rfl) (by kernel_rfl) g) (by simp only [execOp]; go_simp; first | exact ⟨eval_get e72, eval_get e73⟩ | (simp only [Act.eval] at *; simp_all)) ((KS.out w1 hb).mono fun e w2 hh => ⟨_, hh.1, rfl, hh.2⟩) (fun v w2 hh => hK _ _ hh.1 hh.2 (Fresh.no _ _ _))
          · intro w1 hb hd K hK
            have e71 := D71.trans (show u 16 = (.bool true) from hd ⟨16, .data⟩ (by simp) rfl (by omega))
            have e74 := D74.trans (show u 19 = (.bool true) from hd ⟨19, .data⟩ (by simp) rfl (by omega))
            exact op_val (v := (.bool true)) rfl (by simp only [execOp, List.map_toArray, List.map_cons, List.map_nil, e71, e74]; go_simp) (hK _ _ (show _ = _ from rfl) (Below.refl _ _) (Fresh.no _ _ _))
        have hv55 : u 0 = (.agg (enC a)) := (show u 0 = _ from hsF 0 (by omega) (by omega))
        have hv56 : u 1 = (.agg (enC b)) := (show u 1 = _ from hsF 1 (by omega) (by omega))
        have hv57 : u 2 = (.int .i64 cab) := (show u 2 = _ from hsF 2 (by omega) (by omega))
        have hv58 : u 3 = (.agg (enC a)) := (show u 3 = _ from hsF 3 (by omega) (by omega))
        have hv59 : u 4 = (.agg (enC b)) := (show u 4 = _ from hsF 4 (by omega) (by omega))
        have hv60 : u 5 = (.int .i64 cab) := (show u 5 = _ from hsF 5 (by omega) (by omega))
        have hv61 : u 6 = (.bool true) := (show u 6 = _ from hsF 6 (by omega) (by omega))
        have hv62 : u 7 = (.bool true) := (show u 7 = _ from hsF 7 (by omega) (by omega))
        have hv63 : u 8 = (.agg (enC b)) := (show u 8 = _ from hsF 8 (by omega) (by omega))
        have hv64 : u 9 = (.agg (enC a)) := (show u 9 = _ from hsF 9 (by omega) (by omega))
        have hv65 : u 10 = (.int .i64 cba) := (show u 10 = _ from hsF 10 (by omega) (by omega))
        have hv66 : u 11 = (.agg (enC b)) := (show u 11 = _ from hsF 11 (by omega) (by omega))
        have hv67 : u 12 = (.agg (enC a)) := (show u 12 = _ from hsF 12 (by omega) (by omega))
        have hv68 : u 13 = (.int .i64 cba) := (show u 13 = _ from hsF 13 (by omega) (by omega))
        have hv69 : u 14 = (.bool true) := (show u 14 = _ from hsF 14 (by omega) (by omega))
        have hv70 : u 15 = (.bool true) := (show u 15 = _ from hsF 15 (by omega) (by omega))
        have hv71 : u 16 = (.bool true) := (show u 16 = _ from hsF 16 (by omega) (by omega))
        have hv72 : u 17 = (.agg OC) := (show u 17 = _ from hsF 17 (by omega) (by omega))
        have hv73 : u 18 = (.agg SC) := (show u 18 = _ from hsF 18 (by omega) (by omega))
        have hv74 : u 19 = (.bool true) := (show u 19 = _ from hsF 19 (by omega) (by omega))
        have hv75 : u 20 = (.bool true) := (show u 20 = _ from hsF 20 (by omega) (by omega))
        simp only [putRow, hv55, hv56, hv57, hv58, hv59, hv60, hv61, hv62, hv63, hv64, hv65, hv66, hv67, hv68, hv69, hv70, hv71, hv72, hv73, hv74, hv75, Act.put, List.setIfInBounds_toArray, List.set_cons_succ, List.set_cons_zero]
        clear hsF hold hap hv55 hv56 hv57 hv58 hv59 hv60 hv61 hv62 hv63 hv64 hv65 hv66 hv67 hv68 hv69 hv70 hv71 hv72 hv73 hv74 hv75
        have HK7 := Lib.hid (HK6.out.keep hbF)
        clear HK6 C1 C2 C3 C4 KS hbF
        refine rest_forced 1 (by kernel_rfl) ?_
        simp only [List.drop_succ_cons, List.drop_zero, List.take_succ_cons, List.take_zero]
        go_wp2_with fail
        refine rest_done rfl ?_
        go_wp2_with fail
        go_ret
        exact ⟨rfl, by have := HK7.out.ex.below; exact this⟩
end Go.Proofs.YtpkmibmombpjpaaGreatDoor
set_option linter.unusedSimpArgs false
namespace Go.Proofs.YtpkmibmombpjpaaGreatDoor
open Go Go.RowKit

set_option maxRecDepth 100000 in
set_option maxHeartbeats 4000000 in
theorem echecks_any (m : Mv) (bd : Int) (a b : En) (ha : a.In) (hb : b.In) (v : Value) (w : World) (he : Env w) (hv : WS w v m.rows) : Calls Tryz.prog 3 #[seV m v bd, .agg (enC a), .agg (enC b)] w (fun r w' => r = .returned (.bool true) ∧ Below w.heap.size w w') := by
  have CK := Lib.hid (fun W (hW : Below w.heap.size w W) => checks_any m bd a b ha hb v W (he.keep hW) (hv.keep hW))
  have HEN := Lib.hid (show EX w w from ⟨he, Below.refl _ _⟩)
  have HSZ : Hid ((snC m.tab m.rou m.set m.cop m.win v bd).size = 7) := Lib.hid rfl
  unfold seV at CK ⊢
  obtain ⟨SC, hSC⟩ : ∃ SC, snC m.tab m.rou m.set m.cop m.win v bd = SC := ⟨_, rfl⟩
  rw [hSC] at CK HSZ ⊢
  clear hSC ha hb he hv
  go_enter Tryz.func3, Tryz.ntmps3
  go_upto_region 1 with fail
  have HS : Hid (Blk (((w.alloc (.cells SC 26)).alloc (.cells (enC a) 34)).alloc (.cells (enC b) 34)) w.heap.size 26 SC) := Lib.hid (((Blk.new w _ _).alloc _).alloc _)
  have HA : Hid (Blk (((w.alloc (.cells SC 26)).alloc (.cells (enC a) 34)).alloc (.cells (enC b) 34)) (w.heap.size + 1) 34 (enC a)) := Lib.hid (by
    have := Blk.new (w.alloc (.cells SC 26)) 34 (enC a)
    rw [size_al] at this
    exact this.alloc _)
  have HB : Hid (Blk (((w.alloc (.cells SC 26)).alloc (.cells (enC a) 34)).alloc (.cells (enC b) 34)) (w.heap.size + 1 + 1) 34 (enC b)) := Lib.hid (by
    have := Blk.new ((w.alloc (.cells SC 26)).alloc (.cells (enC a) 34)) 34 (enC b)
    rwa [size_al, size_al] at this)
  have HW : Hid (EX w (((w.alloc (.cells SC 26)).alloc (.cells (enC a) 34)).alloc (.cells (enC b) 34))) := Lib.hid (((HEN.out.keep (below1 w _)).keep (below1 _ _)).keep (below1 _ _))
  generalize ((w.alloc (.cells SC 26)).alloc (.cells (enC a) 34)).alloc (.cells (enC b) 34) = W1 at *
  generalize w.heap.size + 1 + 1 = p5 at *
  generalize w.heap.size + 1 = p4 at *
  obtain ⟨p3, hp3⟩ : ∃ p, w.heap.size = p := ⟨_, rfl⟩
  rw [hp3] at HS ⊢
  clear hp3 HEN
  have l3 := loadAt_blk (T := 26) HS.out Tryz.underlying26 rfl (by rw [HSZ.out]; kernel_rfl)
  have l4 := loadAt_blk (T := 34) HA.out Tryz.underlying34 rfl (by rw [enC_size]; kernel_rfl)
  have l5 := loadAt_blk (T := 34) HB.out Tryz.underlying34 rfl (by rw [enC_size]; kernel_rfl)
  go_wp2_with (first
    | refine op_load (p := .pointer (some ⟨p3, 0, none⟩)) (C := .agg SC) 26 (.tmp 3) rfl rfl rfl l3 ?_
    | refine op_load (p := .pointer (some ⟨p4, 0, none⟩)) (C := .agg (enC a)) 34 (.tmp 4) rfl rfl rfl l4 ?_
    | refine op_load (p := .pointer (some ⟨p5, 0, none⟩)) (C := .agg (enC b)) 34 (.tmp 5) rfl rfl rfl l5 ?_)
  refine (CK.out _ HW.out.below).mono ?_
  rintro e w1 ⟨rfl, hb⟩
  have HW2 := Lib.hid (HW.out.keep hb)
  clear l3 l4 l5 HS HA HB HW CK hb
  go_wp2_with fail
  refine (awake_any _ HW2.out.env).mono ?_
  rintro e w2 ⟨rfl, hb⟩
  have HW3 := Lib.hid (HW2.out.keep hb)
  clear hb HW2
  go_wp2_with fail
  go_ret
  exact ⟨rfl, by have := HW3.out.below; exact this⟩
theorem echecks_open (v : Value) {w : World} (hv : ∃ (m : Mv) (rv : Value) (bd : Int), v = seV m rv bd ∧ WS w rv m.rows) (a b : En) (ha : a.In) (hb : b.In) (W : World) (he : Env W) (h : W = w) : Calls Tryz.prog 3 #[v, .agg (enC a), .agg (enC b)] W (fun r w' => r = .returned (.bool true) ∧ Below W.heap.size W w') := by
  subst h
  obtain ⟨m, rv, bd, rfl, hr⟩ := hv
  exact echecks_any m bd a b ha hb rv W he hr
end Go.Proofs.YtpkmibmombpjpaaGreatDoor
namespace Go.Proofs.YtpkmibmombpjpaaGreatDoor.entryChecks
open Go Go.ChangeShapes Go.ChangeMaps Go.WideShapes Go.ChangeAt Go.WideMaps Go.WideElems Go.RowKit

set_option maxRecDepth 100000 in
theorem lifted (os : Os) (started : os.Started) (H : Type) (enc : TypeId × Value → H) :
    ReturnsInHanded {} Tryz.checked os 3 .any (fun w args => (Rows.entryChecksSpec.pre enc Tryz.prog Tryz.f3 [] false w args ∧ laidMetH Tryz.prog laids w) ∧ sizedMet enc Tryz.prog Tryz.f3 (OpenSpec.ofChange Rows.entryChecksSpec) false w args)
      (Rows.entryChecksSpec.post enc Tryz.prog Tryz.f3 false true false false) := by
  refine handed_and_shaped (C := Tryz.checked) (X := fun w _ => laidMetH Tryz.prog laids w) (fun _ _ _ hh h => h.of_heap hh) own started (by kernel_rfl) Tryz.func3
    (ChangeSpec.witness_shaped (enc := enc) (C := Tryz.checked) (os := os) (X := fun w _ => laidMetH Tryz.prog laids w) false (World.laidAll Tryz.prog os laids) #[.agg #[.int .i64 0, .int .i64 0, .int .i64 0, .int .i64 0, .int .i64 0, .slice none 0 0, .int .i64 0], .agg #[.int .i64 0, .int .i64 0, .int .i64 0, .int .i64 0, .int .u8 0, .int .u8 0, .bool false, .int .u8 0, .int .u8 0, .int .u8 0, .int .u8 0, .int .i64 0, .int .i64 0, .int .u8 0, .int .u8 0, .int .u8 0, .int .u8 0, .int .i64 0, .int .i64 0, .int .u8 0, .int .u8 0, .int .u8 0, .int .u8 0, .int .i64 0, .int .i64 0, .int .u8 0, .int .u8 0, .int .u8 0, .int .u8 0, .int .i64 0, .int .i64 0, .int .i64 0, .int .i64 0], .agg #[.int .i64 0, .int .i64 0, .int .i64 0, .int .i64 0, .int .u8 0, .int .u8 0, .bool false, .int .u8 0, .int .u8 0, .int .u8 0, .int .u8 0, .int .i64 0, .int .i64 0, .int .u8 0, .int .u8 0, .int .u8 0, .int .u8 0, .int .i64 0, .int .i64 0, .int .u8 0, .int .u8 0, .int .u8 0, .int .u8 0, .int .i64 0, .int .i64 0, .int .u8 0, .int .u8 0, .int .u8 0, .int .u8 0, .int .i64 0, .int .i64 0, .int .i64 0, .int .i64 0]] 8 (World.laidAll_os _ _ _) (World.shaped_of_ZipB (by kernel_rfl) (by kernel_rfl)) (by kernel_rfl) (by kernel_rfl) (by kernel_rfl) (door_met os _)) ?_
  intro W base args ds gs before hval0 hW _ hsz hL hshape _
  have hval : ∀ (j : Nat) t v, Tryz.f3.params[j]? = some t → args[j]? = some v → Value.okWide Tryz.prog W .any base t v := hval0
  have hW' := hW
  obtain ⟨p, q, hA0, hV, rfl, hfz, hnd⟩ := hW
  have hA : DataW.TrodAll enc Tryz.prog W 0 (fun _ => true) true Tryz.f3.params.toList args.toList ds p := hA0
  rw [Tryz.params3] at hA hval
  obtain ⟨v0, vs0, d0, ds0, p0, q0, hargs0, rfl, rfl, h0, r0⟩ := trodAll_cons hA
  obtain ⟨v1, vs1, d1, ds1, p1, q1, hargs1, rfl, rfl, h1, r1⟩ := trodAll_cons r0
  obtain ⟨v2, vs2, d2, ds2, p2, q2, hargs2, rfl, rfl, h2, r2⟩ := trodAll_cons r1
  obtain ⟨rfl, rfl, rfl⟩ := trodAll_nil r2
  obtain rfl : args = #[v0, v1, v2] := by cases args; simp_all
  obtain ⟨rfl, rfl⟩ := trodVars_none hV
  obtain ⟨y1, rfl, f1⟩ := open_en (hval 1 34 v1 rfl rfl)
  obtain ⟨y2, rfl, f2⟩ := open_en (hval 2 34 v2 rfl rfl)
  clear hA0 hval0
  simp only [List.append_nil] at hW'
  have hlt0 : ∀ x ∈ p0, x.block < W.heap.size := fun x hx => by simpa using hW'.lt x (List.mem_append.2 (.inl hx))
  have hlt1 : ∀ x ∈ p1, x.block < W.heap.size := fun x hx => by simpa using hW'.lt x (List.mem_append.2 (.inr (List.mem_append.2 (.inl hx))))
  have hlt2 : ∀ x ∈ p2, x.block < W.heap.size := fun x hx => by simpa using hW'.lt x (List.mem_append.2 (.inr (List.mem_append.2 (.inr hx))))
  refine (echecks_open _ (open_se (hval 0 26 _ rfl rfl) h0) y1 y2 f1 f2 W (env_of_laid hL hshape) rfl).mono fun e W' ⟨he, hg⟩ => ?_
  subst he
  exact ⟨_, rfl, _, _, _, [], (p0 ++ (p1 ++ (p2 ++ []))), [], hW', trodAll_mk1 (shut_bool Tryz.underlying4 _), (trodAll_cons_mk (Below.trod (show laidOutB Tryz.prog = true by kernel_rfl) (by kernel_rfl) (of_decide_eq_true (by kernel_rfl)) h0 hg hlt0) (trodAll_cons_mk (Below.trod (show laidOutB Tryz.prog = true by kernel_rfl) (by kernel_rfl) (of_decide_eq_true (by kernel_rfl)) h1 hg hlt1) (trodAll_cons_mk (Below.trod (show laidOutB Tryz.prog = true by kernel_rfl) (by kernel_rfl) (of_decide_eq_true (by kernel_rfl)) h2 hg hlt2) trodAll_mk0))), rfl, hg.frame _, fun h => by cases h⟩

theorem over : Rows.EntryChecksSaid :=
  OpenClaim.holds_of_wide 3 Tryz.f3 rfl rfl rfl rfl rfl rfl rfl ⟨rfl, rfl, rfl, rfl, rfl⟩ rfl rfl rfl rfl rfl (by kernel_rfl) Tryz.func3 (by kernel_rfl)
    (of_decide_eq_true (by kernel_rfl)) (by unfold Func.isWrapper; first | (rw [if_pos (by decide +kernel)]; kernel_rfl) | (rw [if_neg (by decide +kernel)]; exact ⟨rfl, rfl⟩))
    (fun os started H enc _ => lifted os started H enc)

theorem card_holds : Rows.EntryChecksCardSaid :=
  Claim7.holds_tied_plain_at .later [] [.data, .data, .data, .data, .sentinel, .sentinel, .pinned] true (true, "0164e4441daa2ef451322f1291758c9700ccce8c29fafcad22677b4fb54b4141") true
    over (fun _ h => by cases h) (by kernel_rfl) (fun _ h => by cases h) entryChecks_row_tie rfl ⟨rfl, rfl⟩ (by kernel_rfl) rfl
    (fun f fn hf hfn => by
      obtain rfl : f = 3 := Option.some.inj ((show Tryz.prog.funcNamed "finesse/finesselaw31.EntryChecks" = some 3 by kernel_rfl).symm.trans hf) |>.symm
      obtain rfl : fn = Tryz.f3 := (Option.some.inj (Tryz.func3.symm.trans hfn)).symm
      exact ⟨by kernel_rfl, fun j t ht => by
        rw [Tryz.params3] at ht
        have hm : t ∈ [26, 34, 34] := by simpa using Array.mem_of_getElem? ht
        have hall : ([26, 34, 34].all fun u => !Tryz.prog.wantsStandIn u) = true := by kernel_rfl
        exact (show Tryz.prog.wantsStandIn t = false by simpa using List.all_eq_true.1 hall t hm)⟩)
    (by kernel_rfl)
#print axioms card_holds
end Go.Proofs.YtpkmibmombpjpaaGreatDoor.entryChecks
