/- The reference's Text. -/
import Derived.Test.YtidpfggikighlaaDoorGR
import Derived.Test.YtidpfggikighlaaDoorGT
import Derived.Test.YtidpfggikighlaaDoorQt
import Derived.Test.YtidpfggikighlaaDoorFlow2
import Derived.Test.YtidpfggikighlaaDoorApp
namespace Go.Proofs.YtidpfggikighlaaDoor
open Go Go.RowKit

/-- append of one string that lies somewhere. -/
theorem app_word {ops : Array Oper} {rest : List Oper} {o : Oper} {a : Act} {Q : Exit → Act → World → Prop} (hgd : o.guard = none) (s x : Operand)
    (ho : o.op = .call { callee := .builtin .append, args := #[s, x], argTypes := #[31, 31] }) (wr : World) (base : Nat) (v : Value) (n : Nat) (l : List (List UInt8)) (C : List UInt8)
    (hs : a.eval s = v) (u : Value) (hx : a.eval x = u) (hsrc : SrcR wr 1 u 1 [.string (bS C)]) (hown : wr.ownsRow base 9 1 v n (l.map strV)) (hb : base ≤ wr.heap.size) (hn : n ≤ 100000)
    (h : ∀ v' w', w'.ownsRow base 9 1 v' (n + 1) ((l ++ [C]).map strV) → wr.grownBy w' v.ownBlock → Below base wr w' → wpList Tryd.prog ops Q rest (a.put o.dst v') w') :
    wpList Tryd.prog ops Q (o :: rest) a wr := by
  obtain ⟨i0, hi0, hz0, hz1, hz2⟩ := info_parts_str
  refine appS hgd s x ho Tryd.underlying31 hi0 hz0 hz1 hz2 rfl (by decide) wr base v n (l.map strV) hs hown u 1 [.string (bS C)] hx hsrc (fun u hu => by
    obtain rfl : u = .string (bS C) := by simpa using hu
    rfl) (by omega) (by decide) hb (fun v' w' h1 h2 _ h4 => ?_)
  refine h v' w' ?_ h2 h4
  rw [List.map_append]
  exact h1
theorem itoa_short {n : Int} (h : inI n) : (Lib.itoa n).length ≤ 100000 := Nat.le_trans (itoa_len n h) (by decide)
set_option maxRecDepth 100000 in
set_option maxHeartbeats 8000000 in
theorem rtext_walk (m : Mv) (rv : Value) (w : World) (he : Env w) (h : MV w m rv) : Calls Tryd.prog 24 #[mvV m rv] w (RetT w (textO m) (textE m)) := by
  have HM := Lib.hid h
  have HE := Lib.hid he
  obtain ⟨A, cap, rfl⟩ := h.rows.len
  obtain ⟨N, hN⟩ : ∃ N, m.rows.length = N := ⟨_, rfl⟩
  have HN := Lib.hid hN
  have FI := Lib.hid (fun wx (hb : Below w.heap.size w wx) => rfit_any m _ wx (HM.out.keep hb))
  rw [hN] at FI ⊢
  clear h he hN
  unfold mvV
  go_enter Tryd.func24, Tryd.ntmps24
  go_wp2_with fail
  have B0 := Lib.hid (below1 w (.cells #[.int .i64 m.tab, .int .i64 m.rou, .int .i64 m.set, .int .i64 m.cop, .int .i64 m.win, .slice A N cap] 24))
  have HB0 := Lib.hid (Blk.new w 24 #[.int .i64 m.tab, .int .i64 m.rou, .int .i64 m.set, .int .i64 m.cop, .int .i64 m.win, .slice A N cap])
  obtain ⟨mb, hmb⟩ : ∃ mb, w.heap.size = mb := ⟨_, rfl⟩
  refine (FI.out _ B0.out).mono ?_
  rintro e w1 ⟨rfl, hb⟩
  have B1 := Lib.hid (bchain B0.out hb)
  have HB1 := Lib.hid (HB0.out.keep hb HB0.out.lt)
  rw [hmb] at HB1 ⊢
  have HMB := Lib.hid hmb
  clear hb B0 HB0 hmb FI
  rcases hf : fitB m with _ | _
  · have HX := Lib.hid (And.intro (textO_f hf) (textE_f hf))
    clear hf
    go_wp2_with fail
    go_ret2
    exact ⟨.slice none 0 0, by rw [HX.out.2]; rfl, by rw [HX.out.1]; exact .none_, B1.out⟩
  have hNb : N ≤ 1128 := by
    have h := fit_head hf
    have := prod_bd h.1 h.2.1 h.2.2.1 h.2.2.2.1
    have h5 := h.2.2.2.2
    have := HN.out
    omega
  have HX := Lib.hid (And.intro (textO_t hf) (textE_t hf))
  clear hf
  go_upto_region 3 with fail
  have HLT := Lib.hid HB1.out.lt
  have TX := Lib.hid (fun (n : Int) (hn : inI n) (wx : World) (hb : Below w.heap.size w wx) => rtext_any n hn wx (HE.out.keep hb))
  have hm0 := HM.out.tab
  have hm1 := HM.out.rou
  have hm2 := HM.out.set
  have hm3 := HM.out.cop
  have hm4 := HM.out.win
  have x0 := Since.cell (HB1.out.cell (j := 0) (v := .int .i64 m.tab) rfl)
  have x1 := Since.cell (HB1.out.cell (j := 1) (v := .int .i64 m.rou) rfl)
  have x2 := Since.cell (HB1.out.cell (j := 2) (v := .int .i64 m.set) rfl)
  have x3 := Since.cell (HB1.out.cell (j := 3) (v := .int .i64 m.cop) rfl)
  have x4 := Since.cell (HB1.out.cell (j := 4) (v := .int .i64 m.win) rfl)
  refine region_since_tail 15 (by kernel_rfl) (by kernel_rfl) ?_
  simp only [List.take_succ_cons, List.take_zero, List.drop_succ_cons, List.drop_zero]
  repeat (quiet_step ((go_at_call 48; exact Calls.since (TX.out _ (by first | exact hm0 | exact hm1 | exact hm2 | exact hm3 | exact hm4) _ (bchain B1.out (Since.property _))))))
  refine wpQuiet_nil ?_
  rintro w' ⟨u, rfl⟩
  have B2 := Lib.hid (bchain B1.out u.property)
  have HB2 := Lib.hid (HB1.out.keep u.property HB1.out.lt)
  clear x0 x1 x2 x3 x4 B1 HB1
  generalize u.val = w2 at *
  clear u
  go_wp2_with fail
  refine (rjoin_new [wMov, Lib.itoa m.tab, Lib.itoa m.rou, Lib.itoa m.set, Lib.itoa m.cop, Lib.itoa m.win] w2 rfl rfl (by simp) (by simp) (by
    intro x hx
    simp only [List.mem_cons, List.not_mem_nil, or_false] at hx
    rcases hx with rfl | rfl | rfl | rfl | rfl | rfl
    · decide
    · exact itoa_short hm0
    · exact itoa_short hm1
    · exact itoa_short hm2
    · exact itoa_short hm3
    · exact itoa_short hm4) rfl).mono ?_
  rintro e w3 ⟨rfl, rfl⟩
  have M0 : Hid (sp [wMov, Lib.itoa m.tab, Lib.itoa m.rou, Lib.itoa m.set, Lib.itoa m.cop, Lib.itoa m.win] = movL m) := Lib.hid (by unfold movL numL; rfl)
  rw [M0.out]
  obtain ⟨cs, hcs⟩ : ∃ cs : Array Value, cs = (([wMov, Lib.itoa m.tab, Lib.itoa m.rou, Lib.itoa m.set, Lib.itoa m.cop, Lib.itoa m.win] : List (List UInt8)).map fun x => Value.string (bS x)).toArray := ⟨_, rfl⟩
  rw [← hcs]
  have B3 := Lib.hid (bchain B2.out (below1 w2 (.cells cs 9)))
  have HB3 := Lib.hid (HB2.out.alloc (.cells cs 9))
  clear hcs HB2 B2
  generalize w2.alloc (.cells cs 9) = w3 at *
  go_upto_region 4 with fail
  have hrow : Hid ((w3.alloc (.cells #[.string (bS (movL m))] 9)).ownsRow w3.heap.size 9 1 (.slice (some ⟨w3.heap.size, 0, none⟩) 1 1) 1 ([movL m].map strV)) := Lib.hid (own_one w3 9 (.string (bS (movL m))))
  have B4 := Lib.hid (bchain B3.out (below1 w3 (.cells #[.string (bS (movL m))] 9)))
  have HB4 := Lib.hid (HB3.out.alloc (.cells #[.string (bS (movL m))] 9))
  have HLT2 := Lib.hid HB3.out.lt
  clear HB3 B3
  have hb2 : Hid (w3.heap.size ≤ (w3.alloc (.cells #[.string (bS (movL m))] 9)).heap.size) := Lib.hid (by simp)
  generalize w3.alloc (.cells #[.string (bS (movL m))] 9) = w4 at *
  generalize w3.heap.size = base at *
  clear hm0 hm1 hm2 hm3 hm4
  go_wp2_with fail
  go_loopw [4, 5] (fun s4 s5 wr => ∃ k : Nat, k ≤ N ∧ Hid (wr.ownsRow base 9 1 s4 (k + 1) ((movL m :: (m.rows.take k).map rowL).map strV)) ∧ s5 = .int .i64 (k : Int) ∧ Hid (Below w.heap.size w wr) ∧ Hid (Blk wr mb 24 #[.int .i64 m.tab, .int .i64 m.rou, .int .i64 m.set, .int .i64 m.cop, .int .i64 m.win, .slice A N cap]) ∧ Hid (base ≤ wr.heap.size)) (fun _ s5 _ => N - (intOf s5).toNat)
  case atStart => exact ⟨0, Nat.zero_le _, hrow, rfl, B4, HB4, hb2⟩
  case round =>
    obtain ⟨k, hk, HO, rfl, BR, HBr, Hbase⟩ := hrel
    obtain ⟨AO, co, rfl⟩ := own_slice HO.out
    have x5 := HBr.out.cell (j := 5) (v := .slice A N cap) rfl
    by_cases hlt : k < N
    · have t1 : decide ((k : Int) < (N : Int)) = true := decide_eq_true (by omega)
      obtain ⟨r, hr⟩ : ∃ r, m.rows[k]? = some r := ⟨_, List.getElem?_eq_getElem (by rw [HN.out]; exact hlt)⟩
      obtain ⟨b, o, rfl, c0, c1, c2, c3, c4⟩ := (HM.out.rows.keep BR.out).at hr
      have HR := Lib.hid hr
      have HRI := Lib.hid (HM.out.ri r (List.mem_of_getElem? hr))
      clear hr
      go_upto_region 8 with fail
      have HRw := Lib.hid (Blk.new wr 45 #[.int .i64 r.rd, .int .i64 r.tb, .int .i64 r.ns, .int .i64 r.ew, .int .i64 r.st])
      have B4 := Lib.hid (bchain BR.out (below1 wr (.cells #[.int .i64 r.rd, .int .i64 r.tb, .int .i64 r.ns, .int .i64 r.ew, .int .i64 r.st] 45)))
      have HB4 := Lib.hid (HBr.out.alloc (.cells #[.int .i64 r.rd, .int .i64 r.tb, .int .i64 r.ns, .int .i64 r.ew, .int .i64 r.st] 45))
      have HO4 := Lib.hid (own_keep HO.out (below1 wr (.cells #[.int .i64 r.rd, .int .i64 r.tb, .int .i64 r.ns, .int .i64 r.ew, .int .i64 r.st] 45)))
      have Hb4 : Hid (base ≤ (wr.alloc (.cells #[.int .i64 r.rd, .int .i64 r.tb, .int .i64 r.ns, .int .i64 r.ew, .int .i64 r.st] 45)).heap.size) := Lib.hid (by have := Hbase.out; rw [size_al]; omega)
      clear c0 c1 c2 c3 c4 BR HBr HO Hbase x5
      generalize wr.alloc (.cells #[.int .i64 r.rd, .int .i64 r.tb, .int .i64 r.ns, .int .i64 r.ew, .int .i64 r.st] 45) = w4 at *
      generalize wr.heap.size = rb at *
      have hm0 := HRI.out.rd
      have hm1 := HRI.out.tb
      have hm2 := HRI.out.ns
      have hm3 := HRI.out.ew
      have hm4 := HRI.out.st
      obtain ⟨W0, hW0⟩ : ∃ W0, w4.drew = W0 := ⟨_, rfl⟩
      have hD : Below w4.heap.size w4 W0 := hW0 ▸ (Below.refl _ w4).drew
      replace HRw := Lib.hid (HRw.out.keep hD HRw.out.lt)
      replace B4 := Lib.hid (bchain B4.out hD)
      replace HB4 := Lib.hid (HB4.out.keep hD HB4.out.lt)
      replace HO4 := Lib.hid (own_keep HO4.out hD)
      replace Hb4 := Lib.hid (Nat.le_trans Hb4.out hD.size)
      refine rest_begin (by kernel_rfl) ?_
      rw [hW0]
      clear hD hW0
      clear w4
      refine rest_flow2 [some 40, some 41, some 42, some 43, some 44, some 45, some 46, some 47, some 48, some 49, some 50, some 51, some 52, some 53, some 54, some 55, some 56, some 57, some 58] [Sp.is (.slice AO (k + 1) co), Sp.is (.pointer (some ⟨rb, 0, none⟩)), Sp.is (.int .i64 r.rd), Sp.is (.string (bS (Lib.itoa r.rd))), Sp.is (.pointer (some ⟨rb, 1, none⟩)), Sp.is (.int .i64 r.tb), Sp.is (.string (bS (Lib.itoa r.tb))), Sp.is (.pointer (some ⟨rb, 2, none⟩)), Sp.is (.int .i64 r.ns), Sp.is (.string (bS (Lib.itoa r.ns))), Sp.is (.pointer (some ⟨rb, 3, none⟩)), Sp.is (.int .i64 r.ew), Sp.is (.string (bS (Lib.itoa r.ew))), Sp.is (.pointer (some ⟨rb, 4, none⟩)), Sp.is (.int .i64 r.st), Sp.is (.string (bS (Lib.itoa r.st))), Sp.row [(.string ⟨#[114, 111, 119]⟩), (.string (bS (Lib.itoa r.rd))), (.string (bS (Lib.itoa r.tb))), (.string (bS (Lib.itoa r.ns))), (.string (bS (Lib.itoa r.ew))), (.string (bS (Lib.itoa r.st)))], Sp.is (.string (bS (sp [wRow, (Lib.itoa r.rd), (Lib.itoa r.tb), (Lib.itoa r.ns), (Lib.itoa r.ew), (Lib.itoa r.st)]))), Sp.row [(.string (bS (sp [wRow, (Lib.itoa r.rd), (Lib.itoa r.tb), (Lib.itoa r.ns), (Lib.itoa r.ew), (Lib.itoa r.st)])))]] 19 (by kernel_rfl) (by kernel_rfl) (fun u F hF => ?_) (fun u w' hbF hsF => ?_)
      case refine_1 =>
        have E4 : F.eval (.tmp 4) = (.slice AO (k + 1) co) := (congrArg (fun a => Act.eval a (.tmp 4)) hF).trans (eval_out [some 40, some 41, some 42, some 43, some 44, some 45, some 46, some 47, some 48, some 49, some 50, some 51, some 52, some 53, some 54, some 55, some 56, some 57, some 58] 0 _ (by decide))
        have E6 : F.eval (.tmp 6) = (.pointer (some ⟨rb, 0, none⟩)) := (congrArg (fun a => Act.eval a (.tmp 6)) hF).trans (eval_out [some 40, some 41, some 42, some 43, some 44, some 45, some 46, some 47, some 48, some 49, some 50, some 51, some 52, some 53, some 54, some 55, some 56, some 57, some 58] 0 _ (by decide))
        have D41 : F.eval (.tmp 41) = u 1 := (congrArg (fun a => Act.eval a (.tmp 41)) hF).trans (eval_in [some 40, some 41, some 42, some 43, some 44, some 45, some 46, some 47, some 48, some 49, some 50, some 51, some 52, some 53, some 54, some 55, some 56, some 57, some 58] 0 1 _ (by decide) (by omega) rfl (of_decide_eq_true (by kernel_rfl)))
        have D42 : F.eval (.tmp 42) = u 2 := (congrArg (fun a => Act.eval a (.tmp 42)) hF).trans (eval_in [some 40, some 41, some 42, some 43, some 44, some 45, some 46, some 47, some 48, some 49, some 50, some 51, some 52, some 53, some 54, some 55, some 56, some 57, some 58] 0 2 _ (by decide) (by omega) rfl (of_decide_eq_true (by kernel_rfl)))
        have D44 : F.eval (.tmp 44) = u 4 := (congrArg (fun a => Act.eval a (.tmp 44)) hF).trans (eval_in [some 40, some 41, some 42, some 43, some 44, some 45, some 46, some 47, some 48, some 49, some 50, some 51, some 52, some 53, some 54, some 55, some 56, some 57, some 58] 0 4 _ (by decide) (by omega) rfl (of_decide_eq_true (by kernel_rfl)))
        have D45 : F.eval (.tmp 45) = u 5 := (congrArg (fun a => Act.eval a (.tmp 45)) hF).trans (eval_in [some 40, some 41, some 42, some 43, some 44, some 45, some 46, some 47, some 48, some 49, some 50, some 51, some 52, some 53, some 54, some 55, some 56, some 57, some 58] 0 5 _ (by decide) (by omega) rfl (of_decide_eq_true (by kernel_rfl)))
        have D47 : F.eval (.tmp 47) = u 7 := (congrArg (fun a => Act.eval a (.tmp 47)) hF).trans (eval_in [some 40, some 41, some 42, some 43, some 44, some 45, some 46, some 47, some 48, some 49, some 50, some 51, some 52, some 53, some 54, some 55, some 56, some 57, some 58] 0 7 _ (by decide) (by omega) rfl (of_decide_eq_true (by kernel_rfl)))
        have D48 : F.eval (.tmp 48) = u 8 := (congrArg (fun a => Act.eval a (.tmp 48)) hF).trans (eval_in [some 40, some 41, some 42, some 43, some 44, some 45, some 46, some 47, some 48, some 49, some 50, some 51, some 52, some 53, some 54, some 55, some 56, some 57, some 58] 0 8 _ (by decide) (by omega) rfl (of_decide_eq_true (by kernel_rfl)))
        have D50 : F.eval (.tmp 50) = u 10 := (congrArg (fun a => Act.eval a (.tmp 50)) hF).trans (eval_in [some 40, some 41, some 42, some 43, some 44, some 45, some 46, some 47, some 48, some 49, some 50, some 51, some 52, some 53, some 54, some 55, some 56, some 57, some 58] 0 10 _ (by decide) (by omega) rfl (of_decide_eq_true (by kernel_rfl)))
        have D51 : F.eval (.tmp 51) = u 11 := (congrArg (fun a => Act.eval a (.tmp 51)) hF).trans (eval_in [some 40, some 41, some 42, some 43, some 44, some 45, some 46, some 47, some 48, some 49, some 50, some 51, some 52, some 53, some 54, some 55, some 56, some 57, some 58] 0 11 _ (by decide) (by omega) rfl (of_decide_eq_true (by kernel_rfl)))
        have D53 : F.eval (.tmp 53) = u 13 := (congrArg (fun a => Act.eval a (.tmp 53)) hF).trans (eval_in [some 40, some 41, some 42, some 43, some 44, some 45, some 46, some 47, some 48, some 49, some 50, some 51, some 52, some 53, some 54, some 55, some 56, some 57, some 58] 0 13 _ (by decide) (by omega) rfl (of_decide_eq_true (by kernel_rfl)))
        have D54 : F.eval (.tmp 54) = u 14 := (congrArg (fun a => Act.eval a (.tmp 54)) hF).trans (eval_in [some 40, some 41, some 42, some 43, some 44, some 45, some 46, some 47, some 48, some 49, some 50, some 51, some 52, some 53, some 54, some 55, some 56, some 57, some 58] 0 14 _ (by decide) (by omega) rfl (of_decide_eq_true (by kernel_rfl)))
        have D43 : F.eval (.tmp 43) = u 3 := (congrArg (fun a => Act.eval a (.tmp 43)) hF).trans (eval_in [some 40, some 41, some 42, some 43, some 44, some 45, some 46, some 47, some 48, some 49, some 50, some 51, some 52, some 53, some 54, some 55, some 56, some 57, some 58] 0 3 _ (by decide) (by omega) rfl (of_decide_eq_true (by kernel_rfl)))
        have D46 : F.eval (.tmp 46) = u 6 := (congrArg (fun a => Act.eval a (.tmp 46)) hF).trans (eval_in [some 40, some 41, some 42, some 43, some 44, some 45, some 46, some 47, some 48, some 49, some 50, some 51, some 52, some 53, some 54, some 55, some 56, some 57, some 58] 0 6 _ (by decide) (by omega) rfl (of_decide_eq_true (by kernel_rfl)))
        have D49 : F.eval (.tmp 49) = u 9 := (congrArg (fun a => Act.eval a (.tmp 49)) hF).trans (eval_in [some 40, some 41, some 42, some 43, some 44, some 45, some 46, some 47, some 48, some 49, some 50, some 51, some 52, some 53, some 54, some 55, some 56, some 57, some 58] 0 9 _ (by decide) (by omega) rfl (of_decide_eq_true (by kernel_rfl)))
        have D52 : F.eval (.tmp 52) = u 12 := (congrArg (fun a => Act.eval a (.tmp 52)) hF).trans (eval_in [some 40, some 41, some 42, some 43, some 44, some 45, some 46, some 47, some 48, some 49, some 50, some 51, some 52, some 53, some 54, some 55, some 56, some 57, some 58] 0 12 _ (by decide) (by omega) rfl (of_decide_eq_true (by kernel_rfl)))
        have D55 : F.eval (.tmp 55) = u 15 := (congrArg (fun a => Act.eval a (.tmp 55)) hF).trans (eval_in [some 40, some 41, some 42, some 43, some 44, some 45, some 46, some 47, some 48, some 49, some 50, some 51, some 52, some 53, some 54, some 55, some 56, some 57, some 58] 0 15 _ (by decide) (by omega) rfl (of_decide_eq_true (by kernel_rfl)))
        have D56 : F.eval (.tmp 56) = u 16 := (congrArg (fun a => Act.eval a (.tmp 56)) hF).trans (eval_in [some 40, some 41, some 42, some 43, some 44, some 45, some 46, some 47, some 48, some 49, some 50, some 51, some 52, some 53, some 54, some 55, some 56, some 57, some 58] 0 16 _ (by decide) (by omega) rfl (of_decide_eq_true (by kernel_rfl)))
        have D57 : F.eval (.tmp 57) = u 17 := (congrArg (fun a => Act.eval a (.tmp 57)) hF).trans (eval_in [some 40, some 41, some 42, some 43, some 44, some 45, some 46, some 47, some 48, some 49, some 50, some 51, some 52, some 53, some 54, some 55, some 56, some 57, some 58] 0 17 _ (by decide) (by omega) rfl (of_decide_eq_true (by kernel_rfl)))
        clear hF
        refine ⟨?_, ?_, ?_, ?_, ?_, ?_, ?_, ?_, ?_, ?_, ?_, ?_, ?_, ?_, ?_, ?_, ?_, ?_, ?_, trivial⟩
        · intro w1 hb hd K hK
          have e1 := E4
          exact op_val (v := (.slice AO (k + 1) co)) rfl (by simp only [execOp, e1]; go_simp) (hK _ _ (show _ = _ from rfl) (Below.refl _ _))
        · intro w1 hb hd K hK
          have e1 := E6
          exact op_val (v := (.pointer (some ⟨rb, 0, none⟩))) rfl (by simp only [execOp, e1]; go_simp) (hK _ _ (show _ = _ from rfl) (Below.refl _ _))
        · intro w1 hb hd K hK
          have e1 := D41.trans (show u 1 = (.pointer (some ⟨rb, 0, none⟩)) from hd ⟨1, .data⟩ (by simp) rfl (Nat.zero_le _))
          have c0 : w1.cell? ⟨rb, 0, none⟩ = some (.int .i64 r.rd) := (HRw.out.keep hb HRw.out.lt).cell (j := 0) rfl
          exact op_val (v := (.int .i64 r.rd)) rfl (by simp only [execOp, e1]; go_simp) (hK _ _ (show _ = _ from rfl) (Below.refl _ _))
        · intro w1 hb hd K hK
          have e1 := D42.trans (show u 2 = (.int .i64 r.rd) from hd ⟨2, .data⟩ (by simp) rfl (Nat.zero_le _))
          refine op_call (R := fun v w2 => v = (.string (bS (Lib.itoa r.rd))) ∧ Below w1.heap.size w1 w2) (f := 48) (args := #[.int .i64 r.rd]) rfl (by simp only [execOp]; go_simp; exact eval_get e1) ((rtext_any r.rd (by first | exact hm0 | exact hm1 | exact hm2 | exact hm3 | exact hm4) w1 (HE.out.keep (bchain B4.out hb))).mono fun e w2 hh => ⟨_, hh.1, rfl, hh.2⟩) (fun v w2 hh => hK _ _ hh.1 hh.2)
        · intro w1 hb hd K hK
          have e1 := E6
          exact op_val (v := (.pointer (some ⟨rb, 1, none⟩))) rfl (by simp only [execOp, e1]; go_simp) (hK _ _ (show _ = _ from rfl) (Below.refl _ _))
        · intro w1 hb hd K hK
          have e1 := D44.trans (show u 4 = (.pointer (some ⟨rb, 1, none⟩)) from hd ⟨4, .data⟩ (by simp) rfl (Nat.zero_le _))
          have c0 : w1.cell? ⟨rb, 1, none⟩ = some (.int .i64 r.tb) := (HRw.out.keep hb HRw.out.lt).cell (j := 1) rfl
          exact op_val (v := (.int .i64 r.tb)) rfl (by simp only [execOp, e1]; go_simp) (hK _ _ (show _ = _ from rfl) (Below.refl _ _))
        · intro w1 hb hd K hK
          have e1 := D45.trans (show u 5 = (.int .i64 r.tb) from hd ⟨5, .data⟩ (by simp) rfl (Nat.zero_le _))
          refine op_call (R := fun v w2 => v = (.string (bS (Lib.itoa r.tb))) ∧ Below w1.heap.size w1 w2) (f := 48) (args := #[.int .i64 r.tb]) rfl (by simp only [execOp]; go_simp; exact eval_get e1) ((rtext_any r.tb (by first | exact hm0 | exact hm1 | exact hm2 | exact hm3 | exact hm4) w1 (HE.out.keep (bchain B4.out hb))).mono fun e w2 hh => ⟨_, hh.1, rfl, hh.2⟩) (fun v w2 hh => hK _ _ hh.1 hh.2)
        · intro w1 hb hd K hK
          have e1 := E6
          exact op_val (v := (.pointer (some ⟨rb, 2, none⟩))) rfl (by simp only [execOp, e1]; go_simp) (hK _ _ (show _ = _ from rfl) (Below.refl _ _))
        · intro w1 hb hd K hK
          have e1 := D47.trans (show u 7 = (.pointer (some ⟨rb, 2, none⟩)) from hd ⟨7, .data⟩ (by simp) rfl (Nat.zero_le _))
          have c0 : w1.cell? ⟨rb, 2, none⟩ = some (.int .i64 r.ns) := (HRw.out.keep hb HRw.out.lt).cell (j := 2) rfl
          exact op_val (v := (.int .i64 r.ns)) rfl (by simp only [execOp, e1]; go_simp) (hK _ _ (show _ = _ from rfl) (Below.refl _ _))
        · intro w1 hb hd K hK
          have e1 := D48.trans (show u 8 = (.int .i64 r.ns) from hd ⟨8, .data⟩ (by simp) rfl (Nat.zero_le _))
          refine op_call (R := fun v w2 => v = (.string (bS (Lib.itoa r.ns))) ∧ Below w1.heap.size w1 w2) (f := 48) (args := #[.int .i64 r.ns]) rfl (by simp only [execOp]; go_simp; exact eval_get e1) ((rtext_any r.ns (by first | exact hm0 | exact hm1 | exact hm2 | exact hm3 | exact hm4) w1 (HE.out.keep (bchain B4.out hb))).mono fun e w2 hh => ⟨_, hh.1, rfl, hh.2⟩) (fun v w2 hh => hK _ _ hh.1 hh.2)
        · intro w1 hb hd K hK
          have e1 := E6
          exact op_val (v := (.pointer (some ⟨rb, 3, none⟩))) rfl (by simp only [execOp, e1]; go_simp) (hK _ _ (show _ = _ from rfl) (Below.refl _ _))
        · intro w1 hb hd K hK
          have e1 := D50.trans (show u 10 = (.pointer (some ⟨rb, 3, none⟩)) from hd ⟨10, .data⟩ (by simp) rfl (Nat.zero_le _))
          have c0 : w1.cell? ⟨rb, 3, none⟩ = some (.int .i64 r.ew) := (HRw.out.keep hb HRw.out.lt).cell (j := 3) rfl
          exact op_val (v := (.int .i64 r.ew)) rfl (by simp only [execOp, e1]; go_simp) (hK _ _ (show _ = _ from rfl) (Below.refl _ _))
        · intro w1 hb hd K hK
          have e1 := D51.trans (show u 11 = (.int .i64 r.ew) from hd ⟨11, .data⟩ (by simp) rfl (Nat.zero_le _))
          refine op_call (R := fun v w2 => v = (.string (bS (Lib.itoa r.ew))) ∧ Below w1.heap.size w1 w2) (f := 48) (args := #[.int .i64 r.ew]) rfl (by simp only [execOp]; go_simp; exact eval_get e1) ((rtext_any r.ew (by first | exact hm0 | exact hm1 | exact hm2 | exact hm3 | exact hm4) w1 (HE.out.keep (bchain B4.out hb))).mono fun e w2 hh => ⟨_, hh.1, rfl, hh.2⟩) (fun v w2 hh => hK _ _ hh.1 hh.2)
        · intro w1 hb hd K hK
          have e1 := E6
          exact op_val (v := (.pointer (some ⟨rb, 4, none⟩))) rfl (by simp only [execOp, e1]; go_simp) (hK _ _ (show _ = _ from rfl) (Below.refl _ _))
        · intro w1 hb hd K hK
          have e1 := D53.trans (show u 13 = (.pointer (some ⟨rb, 4, none⟩)) from hd ⟨13, .data⟩ (by simp) rfl (Nat.zero_le _))
          have c0 : w1.cell? ⟨rb, 4, none⟩ = some (.int .i64 r.st) := (HRw.out.keep hb HRw.out.lt).cell (j := 4) rfl
          exact op_val (v := (.int .i64 r.st)) rfl (by simp only [execOp, e1]; go_simp) (hK _ _ (show _ = _ from rfl) (Below.refl _ _))
        · intro w1 hb hd K hK
          have e1 := D54.trans (show u 14 = (.int .i64 r.st) from hd ⟨14, .data⟩ (by simp) rfl (Nat.zero_le _))
          refine op_call (R := fun v w2 => v = (.string (bS (Lib.itoa r.st))) ∧ Below w1.heap.size w1 w2) (f := 48) (args := #[.int .i64 r.st]) rfl (by simp only [execOp]; go_simp; exact eval_get e1) ((rtext_any r.st (by first | exact hm0 | exact hm1 | exact hm2 | exact hm3 | exact hm4) w1 (HE.out.keep (bchain B4.out hb))).mono fun e w2 hh => ⟨_, hh.1, rfl, hh.2⟩) (fun v w2 hh => hK _ _ hh.1 hh.2)
        · intro w1 hb hd K hK
          have e2 := D43.trans (show u 3 = (.string (bS (Lib.itoa r.rd))) from hd ⟨3, .data⟩ (by simp) rfl (Nat.zero_le _))
          have e3 := D46.trans (show u 6 = (.string (bS (Lib.itoa r.tb))) from hd ⟨6, .data⟩ (by simp) rfl (Nat.zero_le _))
          have e4 := D49.trans (show u 9 = (.string (bS (Lib.itoa r.ns))) from hd ⟨9, .data⟩ (by simp) rfl (Nat.zero_le _))
          have e5 := D52.trans (show u 12 = (.string (bS (Lib.itoa r.ew))) from hd ⟨12, .data⟩ (by simp) rfl (Nat.zero_le _))
          have e6 := D55.trans (show u 15 = (.string (bS (Lib.itoa r.st))) from hd ⟨15, .data⟩ (by simp) rfl (Nat.zero_le _))
          exact op_val (v := .slice (some ⟨w1.heap.size, 0, none⟩) 6 6) (w' := w1.alloc (.cells #[(.string ⟨#[114, 111, 119]⟩), (.string (bS (Lib.itoa r.rd))), (.string (bS (Lib.itoa r.tb))), (.string (bS (Lib.itoa r.ns))), (.string (bS (Lib.itoa r.ew))), (.string (bS (Lib.itoa r.st)))] 9)) rfl (by simp only [execOp, List.map_toArray, List.map_cons, List.map_nil, e2, e3, e4, e5, e6]; go_simp) (hK _ _ (Sp.row_new w1 9 [(.string ⟨#[114, 111, 119]⟩), (.string (bS (Lib.itoa r.rd))), (.string (bS (Lib.itoa r.tb))), (.string (bS (Lib.itoa r.ns))), (.string (bS (Lib.itoa r.ew))), (.string (bS (Lib.itoa r.st)))] 6 _ rfl rfl) (below1 _ _))
        · intro w1 hb hd K hK
          obtain ⟨b, hv, hlt, hc⟩ := (show (Sp.row [(.string ⟨#[114, 111, 119]⟩), (.string (bS (Lib.itoa r.rd))), (.string (bS (Lib.itoa r.tb))), (.string (bS (Lib.itoa r.ns))), (.string (bS (Lib.itoa r.ew))), (.string (bS (Lib.itoa r.st)))]).p (u 16) w1 from hd ⟨16, .data⟩ (by simp) rfl (Nat.zero_le _))
          have e1 := D56.trans hv
          refine op_call (R := fun v w2 => v = (.string (bS (sp [wRow, (Lib.itoa r.rd), (Lib.itoa r.tb), (Lib.itoa r.ns), (Lib.itoa r.ew), (Lib.itoa r.st)]))) ∧ Below w1.heap.size w1 w2) (f := 47) (args := #[.slice (some ⟨b, 0, none⟩) 6 6]) rfl (by simp only [execOp]; go_simp; exact eval_get e1) ((rjoin_b b 0 _ [wRow, (Lib.itoa r.rd), (Lib.itoa r.tb), (Lib.itoa r.ns), (Lib.itoa r.ew), (Lib.itoa r.st)] (by simp) (by simp) ((List.forall_mem_cons.2 ⟨(by first | decide | exact itoa_short hm0 | exact itoa_short hm1 | exact itoa_short hm2 | exact itoa_short hm3 | exact itoa_short hm4), (List.forall_mem_cons.2 ⟨(by first | decide | exact itoa_short hm0 | exact itoa_short hm1 | exact itoa_short hm2 | exact itoa_short hm3 | exact itoa_short hm4), (List.forall_mem_cons.2 ⟨(by first | decide | exact itoa_short hm0 | exact itoa_short hm1 | exact itoa_short hm2 | exact itoa_short hm3 | exact itoa_short hm4), (List.forall_mem_cons.2 ⟨(by first | decide | exact itoa_short hm0 | exact itoa_short hm1 | exact itoa_short hm2 | exact itoa_short hm3 | exact itoa_short hm4), (List.forall_mem_cons.2 ⟨(by first | decide | exact itoa_short hm0 | exact itoa_short hm1 | exact itoa_short hm2 | exact itoa_short hm3 | exact itoa_short hm4), (List.forall_mem_cons.2 ⟨(by first | decide | exact itoa_short hm0 | exact itoa_short hm1 | exact itoa_short hm2 | exact itoa_short hm3 | exact itoa_short hm4), (fun x hx => absurd hx (by simp))⟩)⟩)⟩)⟩)⟩)⟩)) w1 (wr_of_row (l := [wRow, (Lib.itoa r.rd), (Lib.itoa r.tb), (Lib.itoa r.ns), (Lib.itoa r.ew), (Lib.itoa r.st)]) hc)).mono fun e w2 hh => ⟨_, hh.1, rfl, hh.2⟩) (fun v w2 hh => hK _ _ hh.1 hh.2)
        · intro w1 hb hd K hK
          have e1 := D57.trans (show u 17 = (.string (bS (sp [wRow, (Lib.itoa r.rd), (Lib.itoa r.tb), (Lib.itoa r.ns), (Lib.itoa r.ew), (Lib.itoa r.st)]))) from hd ⟨17, .data⟩ (by simp) rfl (Nat.zero_le _))
          exact op_val (v := .slice (some ⟨w1.heap.size, 0, none⟩) 1 1) (w' := w1.alloc (.cells #[(.string (bS (sp [wRow, (Lib.itoa r.rd), (Lib.itoa r.tb), (Lib.itoa r.ns), (Lib.itoa r.ew), (Lib.itoa r.st)])))] 9)) rfl (by simp only [execOp, List.map_toArray, List.map_cons, List.map_nil, e1]; go_simp) (hK _ _ (Sp.row_new w1 9 [(.string (bS (sp [wRow, (Lib.itoa r.rd), (Lib.itoa r.tb), (Lib.itoa r.ns), (Lib.itoa r.ew), (Lib.itoa r.st)])))] 1 _ rfl rfl) (below1 _ _))
      have hv40 : u 0 = (.slice AO (k + 1) co) := (show u 0 = _ from hsF 0 (by omega) (by omega))
      have hv41 : u 1 = (.pointer (some ⟨rb, 0, none⟩)) := (show u 1 = _ from hsF 1 (by omega) (by omega))
      have hv42 : u 2 = (.int .i64 r.rd) := (show u 2 = _ from hsF 2 (by omega) (by omega))
      have hv43 : u 3 = (.string (bS (Lib.itoa r.rd))) := (show u 3 = _ from hsF 3 (by omega) (by omega))
      have hv44 : u 4 = (.pointer (some ⟨rb, 1, none⟩)) := (show u 4 = _ from hsF 4 (by omega) (by omega))
      have hv45 : u 5 = (.int .i64 r.tb) := (show u 5 = _ from hsF 5 (by omega) (by omega))
      have hv46 : u 6 = (.string (bS (Lib.itoa r.tb))) := (show u 6 = _ from hsF 6 (by omega) (by omega))
      have hv47 : u 7 = (.pointer (some ⟨rb, 2, none⟩)) := (show u 7 = _ from hsF 7 (by omega) (by omega))
      have hv48 : u 8 = (.int .i64 r.ns) := (show u 8 = _ from hsF 8 (by omega) (by omega))
      have hv49 : u 9 = (.string (bS (Lib.itoa r.ns))) := (show u 9 = _ from hsF 9 (by omega) (by omega))
      have hv50 : u 10 = (.pointer (some ⟨rb, 3, none⟩)) := (show u 10 = _ from hsF 10 (by omega) (by omega))
      have hv51 : u 11 = (.int .i64 r.ew) := (show u 11 = _ from hsF 11 (by omega) (by omega))
      have hv52 : u 12 = (.string (bS (Lib.itoa r.ew))) := (show u 12 = _ from hsF 12 (by omega) (by omega))
      have hv53 : u 13 = (.pointer (some ⟨rb, 4, none⟩)) := (show u 13 = _ from hsF 13 (by omega) (by omega))
      have hv54 : u 14 = (.int .i64 r.st) := (show u 14 = _ from hsF 14 (by omega) (by omega))
      have hv55 : u 15 = (.string (bS (Lib.itoa r.st))) := (show u 15 = _ from hsF 15 (by omega) (by omega))
      obtain ⟨b56, hv56, hlt56, hc56⟩ := (show (Sp.row [(.string ⟨#[114, 111, 119]⟩), (.string (bS (Lib.itoa r.rd))), (.string (bS (Lib.itoa r.tb))), (.string (bS (Lib.itoa r.ns))), (.string (bS (Lib.itoa r.ew))), (.string (bS (Lib.itoa r.st)))]).p (u 16) w' from hsF 16 (by omega) (by omega))
      have hv57 : u 17 = (.string (bS (sp [wRow, (Lib.itoa r.rd), (Lib.itoa r.tb), (Lib.itoa r.ns), (Lib.itoa r.ew), (Lib.itoa r.st)]))) := (show u 17 = _ from hsF 17 (by omega) (by omega))
      obtain ⟨b58, hv58, hlt58, hc58⟩ := (show (Sp.row [(.string (bS (sp [wRow, (Lib.itoa r.rd), (Lib.itoa r.tb), (Lib.itoa r.ns), (Lib.itoa r.ew), (Lib.itoa r.st)])))]).p (u 18) w' from hsF 18 (by omega) (by omega))
      simp only [putRow, hv40, hv41, hv42, hv43, hv44, hv45, hv46, hv47, hv48, hv49, hv50, hv51, hv52, hv53, hv54, hv55, hv56, hv57, hv58, Act.put, List.setIfInBounds_toArray, List.set_cons_succ, List.set_cons_zero]
      clear hsF hv40 hv41 hv42 hv43 hv44 hv45 hv46 hv47 hv48 hv49 hv50 hv51 hv52 hv53 hv54 hv55 hv56 hv57 hv58
      have B5 := Lib.hid (bchain B4.out hbF)
      have HB5 := Lib.hid (HB4.out.keep hbF HB4.out.lt)
      have HO5 := Lib.hid (own_keep HO4.out hbF)
      have Hb5 := Lib.hid (Nat.le_trans Hb4.out hbF.size)
      have R0 : Hid (sp [wRow, Lib.itoa r.rd, Lib.itoa r.tb, Lib.itoa r.ns, Lib.itoa r.ew, Lib.itoa r.st] = rowL r) := Lib.hid (by unfold rowL numL; rfl)
      rw [R0.out] at hc58 ⊢
      have HSR : Hid (SrcR w' 1 (.slice (some ⟨b58, 0, none⟩) 1 1) 1 [.string (bS (rowL r))]) := Lib.hid (.some_ b58 0 1 1 _ rfl (fun j x hj => by rw [Nat.zero_add]; exact hc58 j x hj))
      have HT : Hid (movL m :: (m.rows.take (k + 1)).map rowL = (movL m :: (m.rows.take k).map rowL) ++ [rowL r]) := Lib.hid (by rw [take_more HR.out]; simp)
      clear hbF hc56 hc58 hlt56 hlt58 HB4 HO4 Hb4 B4 HRw hm0 hm1 hm2 hm3 hm4
      obtain ⟨RL, hRL⟩ : ∃ RL, rowL r = RL := ⟨_, rfl⟩
      rw [hRL] at HT HSR ⊢
      clear hRL R0
      refine rest_forced 2 (by kernel_rfl) ?_
      simp only [List.drop_succ_cons, List.drop_zero, List.take_succ_cons, List.take_zero]
      refine app_word rfl (.tmp 40) (.tmp 58) rfl w' base _ (k + 1) (movL m :: (m.rows.take k).map rowL) RL rfl _ rfl HSR.out HO5.out Hb5.out (by omega) ?_
      intro v' w7 hown' hgrow hbl
      go_wp2_with fail
      refine rest_done (by kernel_rfl) ?_
      have HO7 : Hid (w7.ownsRow base 9 1 v' (k + 1 + 1) ((movL m :: (m.rows.take (k + 1)).map rowL).map strV)) := Lib.hid (by rw [HT.out]; exact hown')
      have B7 := Lib.hid (B5.out.trans (hbl.mono (by have := HMB.out; have := HLT2.out; omega)))
      have HB7 := Lib.hid (HB5.out.keep hbl HLT2.out)
      have Hb7 := Lib.hid (Nat.le_trans Hb5.out hbl.size)
      clear hown' hgrow hbl HO5 B5 HB5 Hb5 HSR
      go_wp2_with fail
      go_roundw
      case rel => exact ⟨k + 1, by omega, HO7, by go_num, B7, HB7, Hb7⟩
      case measure => simp [intOf]; omega
    · obtain rfl : k = N := by omega
      have t1 : decide ((k : Int) < (k : Int)) = false := decide_eq_false (by omega)
      have hR : Hid (RS wr (.slice AO (k + 1) co) (textL m)) := Lib.hid (by
        have hl : (movL m :: (m.rows.take k).map rowL) = textL m := by
          unfold textL; rw [← HN.out, List.take_length]
        have h := HO.out
        rw [hl] at h
        have hlen : (textL m).length = k + 1 := by unfold textL; simp [HN.out]
        rw [← hlen] at h ⊢
        exact rs_of_own h)
      go_wp2_with fail
      go_ret2
      exact ⟨.slice AO (k + 1) co, by rw [HX.out.2]; rfl, by rw [HX.out.1]; exact hR.out, BR.out⟩
end Go.Proofs.YtidpfggikighlaaDoor
