/- EntryCounts. -/
import Derived.Test.YtpkmibmombpjpaaGreatDoorKW
import Derived.Test.YtpkmibmombpjpaaGreatDoorSetM
import Derived.Test.YtpkmibmombpjpaaGreatDoorGw
set_option linter.unusedSimpArgs false
namespace Go.Proofs.YtpkmibmombpjpaaGreatDoor
open Go Go.RowKit

theorem count_len : ∀ S : List En, (countP S).length ≤ S.length
  | [] => Nat.le_refl _
  | [_] => Nat.le_refl _
  | a :: b :: r => by
    have := count_len (b :: r)
    unfold countP
    split
    · simp only [List.length_cons] at this ⊢; omega
    · simp only [List.length_cons] at this ⊢; omega
/-- The tables, and what lay below. -/
structure EX (w W : World) : Prop where
  e0 : Env w
  below : Below w.heap.size w W
theorem EX.env {w W : World} (h : EX w W) : Env W := h.e0.keep h.below
theorem EX.keep {w W W' : World} (h : EX w W) (hb : Below W.heap.size W W') : EX w W' := ⟨h.e0, h.below.trans (hb.mono h.below.size)⟩
/-- What EntryCounts holds. -/
structure CI (w : World) (px : Nat) (y : Sm) (us uc : Value) (S C : List En) (W : World) : Prop where
  ex : EX w W
  bx : Blk W px 61 (smC y)
  s : ES W us S
  c : ES W uc C
theorem CI.keep {w W W' : World} {px : Nat} {y : Sm} {us uc : Value} {S C : List En} (h : CI w px y us uc S C W) (hb : Below W.heap.size W W') : CI w px y us uc S C W' := ⟨h.ex.keep hb, h.bx.keep hb h.bx.lt, h.s.keep hb, h.c.keep hb⟩
/-- .. and in its inner loop. -/
structure CJ (w : World) (px : Nat) (y : Sm) (us uc : Value) (S C : List En) (p10 : Nat) (x : En) (uv : Value) (V : List En) (W : World) : Prop where
  ci : CI w px y us uc S C W
  bx : Blk W p10 34 (enC x)
  v : ES W uv V
theorem CJ.keep {w W W' : World} {px : Nat} {y : Sm} {us uc : Value} {S C : List En} {p10 : Nat} {x : En} {uv : Value} {V : List En} (h : CJ w px y us uc S C p10 x uv V W) (hb : Below W.heap.size W W') : CJ w px y us uc S C p10 x uv V W' := ⟨h.ci.keep hb, h.bx.keep hb h.bx.lt, h.v.keep hb⟩
theorem take_small {w : World} {A : Option Addr} {n cp k : Nat} {l : List Sm} (hv : SS w (.slice A n cp) l) (hn : l.length = n) (hk : k ≤ n) (hcp : n ≤ cp) : ∃ A2 c2, (∀ W, (Instr.sliceAt 38 (.slice A n cp) none (some (.int .i64 (k : Int))) none).run Tryz.prog W = .ok (.slice A2 k c2) W) ∧ SS w (.slice A2 k c2) (l.take k) := by
  cases A with
  | none =>
    have h0 : n = 0 ∧ cp = 0 ∧ l = [] := by
      cases hv
      exact ⟨rfl, rfl, rfl⟩
    obtain ⟨rfl, rfl, rfl⟩ := h0
    obtain rfl : k = 0 := by omega
    exact ⟨none, 0, fun W => by kernel_rfl, by simpa using hv⟩
  | some a =>
    obtain ⟨b, o, e⟩ : ∃ b o, a = ⟨b, o, none⟩ := by
      cases hv with
      | some_ b o cap l hb hc h => exact ⟨b, o, rfl⟩
    subst e
    obtain ⟨A2, -, -, h3, h4⟩ := slice_ls (α := Sm) (enc := smC) (sz := 6) (T := 38) (b := b) (o := o) (n := n) (c := cp) (lo := 0) (hi := k) (by kernel_rfl) (fun W => by kernel_rfl) (Nat.zero_le _) (by omega)
    exact ⟨some A2, cp, fun W => by simpa using h3 rfl W, by simpa using h4 w l hv hk⟩
theorem exec_len {o : Oper} {w : World} {a : Act} {x : Operand} {A : Option Addr} {n c : Nat} {T E : TypeId} (hu : Tryz.prog.underlying T = some (.slice E)) (ho : o.op = .call { callee := .builtin .len, args := #[x], argTypes := #[T] }) (hx : a.eval x = .slice A n c) : (execOp a.eval o).run Tryz.prog w = .ok (.value (.int .i64 (n : Int))) w := by
  simp only [execOp, ho, resolve, invoke, builtin, Sem.run_bind, Sem.run_pure, Result.andThen_ok, List.map_toArray, List.map_cons, List.map_nil, hx]
  simp [Builtin.len_, run_underlying hu, goInt]
theorem own_slice3 {W : World} {B e sz n : Nat} {u : Value} {xs : List Value} (h : W.ownsRow B e sz u n xs) : ∃ A c, u = .slice A n c := by
  rcases h.2 with ⟨rfl, rfl⟩ | ⟨g, cap, cur, rfl, _⟩
  · exact ⟨_, _, rfl⟩
  · exact ⟨_, _, rfl⟩
set_option maxRecDepth 100000 in
set_option maxHeartbeats 8000000 in
theorem counts_any (l : List Sm) (hin : ∀ x ∈ l, x.In) (v : Value) (y : Sm) (hy : y.In) (w : World) (he : Env w) (hv : SS w v l) : Calls Tryz.prog 8 #[v, .agg (smC y)] w (fun r w' => r = .returned (.bool true) ∧ Below w.heap.size w w') := by
  obtain ⟨A, cp, rfl, hcp⟩ := hv.len
  obtain ⟨n, hn⟩ : ∃ n, l.length = n := ⟨_, rfl⟩
  obtain ⟨k, hk⟩ : ∃ k, min n 60 = k := ⟨_, rfl⟩
  have hk1 : k ≤ n := by omega
  have hk2 : k ≤ 60 := by omega
  have emin : min (n : Int) 60 = (k : Int) := by omega
  rw [hn] at hv hcp ⊢
  obtain ⟨A2, c2, hrun, hss⟩ := take_small hv hn hk1 hcp
  have hin2 : ∀ x ∈ l.take k, x.In := fun x hx => hin x (List.mem_of_mem_take hx)
  have ML := Lib.hid (fun W (hb : Below w.heap.size w W) => madeL_any (l.take k) hin2 (by rw [List.length_take]; omega) _ W (hss.keep hb))
  have hLin : ∀ e ∈ madeL (l.take k), e.In := by
    intro e he
    obtain ⟨x, _, rfl⟩ := List.mem_map.1 he
    exact made_in x
  have hLn : (madeL (l.take k)).length ≤ 60 := by unfold madeL; rw [List.length_map, List.length_take]; omega
  obtain ⟨L, hL⟩ : ∃ L, madeL (l.take k) = L := ⟨_, rfl⟩
  rw [hL] at ML hLin hLn
  obtain ⟨S, hS⟩ : ∃ S, setL L = S := ⟨_, rfl⟩
  have hSb : setB S = true := by rw [← hS]; exact setB_setL L
  have hSin : ∀ e ∈ S, e.In := by rw [← hS]; exact setL_in hLin
  have hSn : S.length ≤ 60 := by have := setL_len L; rw [hS] at this; omega
  have SE := Lib.hid (fun u W h => set_any L hLin (by omega) u W h)
  rw [hS] at SE
  obtain ⟨C, hC⟩ : ∃ C, countP S = C := ⟨_, rfl⟩
  have CO := Lib.hid (fun u W h => counting_any S hSin (by omega) u W h)
  rw [show cntL S = C by unfold cntL; rw [hSb, if_pos rfl, hC], hSb, if_pos rfl] at CO
  have HS := Lib.hid (And.intro hSb (And.intro hSin hSn))
  have HC := Lib.hid hC
  have HCL : Hid (C.length ≤ 60) := Lib.hid (by rw [← hC]; exact Nat.le_trans (count_len S) hSn)
  have AW := Lib.hid (awake_any)
  have HE := Lib.hid (show EX w w from ⟨he, Below.refl _ _⟩)
  have MX := Lib.hid (fun W => made_any y hy W)
  have HY := Lib.hid hy
  clear he hy hin hin2 hv hss hn hL hS hC hSb hSin hSn hLin hLn hk hk1 hk2 hcp
  go_enter Tryz.func8, Tryz.ntmps8
  have HX0 := Lib.hid (Blk.new w 61 (smC y))
  have HE0 := Lib.hid (HE.out.keep (below1 w (.cells (smC y) 61)))
  clear HE
  go_wp2_with fail
  refine (AW.out _ HE0.out.env).mono ?_
  rintro r w1 ⟨rfl, hb⟩
  have HX1 := Lib.hid (HX0.out.keep hb HX0.out.lt)
  have HE1 := Lib.hid (HE0.out.keep hb)
  clear HX0 HE0 AW hb
  obtain ⟨px, hpx⟩ : ∃ px, w.heap.size = px := ⟨_, rfl⟩
  rw [hpx] at HX1 ⊢
  have HPX := Lib.hid hpx
  clear hpx
  go_wp2_with fail
  refine (ML.out _ HE1.out.below).mono ?_
  rintro r w2 ⟨u2, rfl, hown, hb⟩
  have HL2 := Lib.hid (ls_of_own (enc := enC) (sz := 33) enC_size hown)
  have HX2 := Lib.hid (HX1.out.keep hb HX1.out.lt)
  have HE2 := Lib.hid (HE1.out.keep hb)
  obtain ⟨A2', c2', rfl⟩ := own_slice3 hown
  clear HX1 HE1 hown hb ML hrun emin
  clear w1
  go_wp2_with fail
  refine (SE.out _ _ HL2.out).mono ?_
  rintro r w3 ⟨us, rfl, hus, hb⟩
  have HU3 := Lib.hid hus.es
  have HX3 := Lib.hid (HX2.out.keep hb HX2.out.lt)
  have HE3 := Lib.hid (HE2.out.keep hb)
  clear HX2 HE2 HL2 hus hb SE
  clear w2
  obtain ⟨AS, cS, rfl, -⟩ := HU3.out.len
  obtain ⟨nS, hnS⟩ : ∃ nS, S.length = nS := ⟨_, rfl⟩
  rw [hnS] at HU3 ⊢
  have HNS := Lib.hid hnS
  clear hnS
  go_wp2_with fail
  refine (CO.out _ _ HU3.out).mono ?_
  rintro r w4 ⟨uc, rfl, hown, hb⟩
  have HC4 : Hid (CI w px y (.slice AS nS cS) uc S C w4) := Lib.hid ⟨HE3.out.keep hb, HX3.out.keep hb HX3.out.lt, HU3.out.keep hb, ls_of_own (enc := enC) (sz := 33) enC_size hown⟩
  obtain ⟨AC, cC, rfl⟩ := own_slice3 hown
  clear HX3 HE3 HU3 hown hb CO
  clear w3
  obtain ⟨nC, hnC⟩ : ∃ nC, C.length = nC := ⟨_, rfl⟩
  rw [hnC] at HC4 HCL ⊢
  have HNC := Lib.hid hnC
  have hnC60 := HCL.out
  clear hnC
  have z0 := sumV_zero S
  go_wp2_with fail
  go_loopw [8, 40] (fun s8 s40 wr => ∃ k : Nat, k ≤ nC ∧ s8 = .int .i64 ((sumV S k : Nat) : Int) ∧ s40 = .int .i64 (k : Int) ∧ Hid (CI w px y (.slice AS nS cS) (.slice AC nC cC) S C wr)) (fun _ s40 _ => nC - (intOf s40).toNat)
  case atStart => exact ⟨0, Nat.zero_le _, by rw [z0]; rfl, rfl, HC4⟩
  case round =>
    clear HC4 z0 MX
    obtain ⟨k, hk, rfl, rfl, HC4⟩ := hrel
    by_cases hlt : k < nC
    · as_aux_lemma =>
        have u1 : decide ((k : Int) < (nC : Int)) = true := decide_eq_true (by omega)
        obtain ⟨x, hxk⟩ : ∃ x, C[k]? = some x := ⟨_, List.getElem?_eq_getElem (by rw [HNC.out]; exact hlt)⟩
        have hxC : x ∈ countP S := by rw [HC.out]; exact List.mem_of_getElem? hxk
        have HXI : Hid x.In := Lib.hid (HS.out.2.1 x (count_sub x S hxC))
        have HSM := Lib.hid (sumV_more (S := S) (k := k) (x := x) (by rw [HC.out]; exact hxk))
        have HSL := Lib.hid (sumV_le HS.out.1 (k + 1))
        have HVL := Lib.hid (vers_last HS.out.1 hxC)
        have HVF := Lib.hid (fun e (h : e ∈ versP S x) => vers_facts HS.out.1 hxC h)
        have HXP := Lib.hid (fun e (h : C[k - 1]? = some e) (h0 : 0 < k) => (show cmpE e x = -1 ∧ e.In by
          have h1 : setB C = true := by rw [← HC.out]; exact setB_count S HS.out.1
          have h2 := setB_lt h1 (show k - 1 < k by omega) h hxk
          have h3 := cmp_range e x
          exact ⟨by omega, HS.out.2.1 e (count_sub e S (by rw [HC.out]; exact List.mem_of_getElem? h))⟩))
        have VE := Lib.hid (fun u W h => versions_any S HS.out.2.1 (by have := HS.out.2.2; omega) x.rd x.tb x.bd u W h)
        rw [show versL S x.rd x.tb x.bd = versP S x by unfold versL; rw [HS.out.1, if_pos rfl]; exact versP_key S x, HS.out.1, if_pos rfl] at VE
        obtain ⟨bc, oc, rfl⟩ := HC4.out.c.ptr (by rw [HNC.out]; omega)
        have lo : (Instr.loadAt 34 (.pointer (some ⟨bc, oc + k * 33, none⟩))).run Tryz.prog wr = .ok (.agg (enC x)) wr := HC4.out.c.load hxk (Below.refl _ _)
        have j0 : (0 : Int) ≤ (k : Int) := by omega
        have j1 : (k : Int) < (nC : Int) := by omega
        have j2 : ¬ (nC : Int) ≤ (k : Int) := by omega
        have j3 : ¬ nC ≤ k := by omega
        have st := storeAt_row (T := 34) (C := enC x) (Blk.new wr 34 (enC zE)) (by rw [enC_size]; kernel_rfl) (by simp only [enC_size]) (enC_one x)
        rw [setRow_new, zE_lit] at st
        have HK := Lib.hid (And.intro hlt hxk)
        clear hlt hxk hxC
        go_upto_region 11 with (first
          | (refine op_load (p := .pointer (some ⟨bc, oc + k * 33, none⟩)) (C := .agg (enC x)) 34 (.tmp 43) rfl rfl rfl lo ?_)
          | (refine op_store (p := .pointer (some ⟨wr.heap.size, 0, none⟩)) (C := .agg (enC x)) 34 (.tmp 10) (.tmp 44) rfl rfl rfl rfl rfl st ?_))
        have HC5 := Lib.hid (HC4.out.keep (below1 wr (.cells (enC x) 34)))
        have HB5 := Lib.hid (Blk.new wr 34 (enC x))
        clear lo st HC4 j0 j1 j2 j3
        generalize wr.alloc (.cells (enC x) 34) = W5 at *
        obtain ⟨p10, hp10⟩ : ∃ p10, wr.heap.size = p10 := ⟨_, rfl⟩
        rw [hp10] at HB5 ⊢
        clear hp10
        clear wr
        have x0 := HB5.out.cell (enC_rd x)
        have x1 := HB5.out.cell (enC_tb x)
        have x2 := HB5.out.cell (enC_bd x)
        go_wp2_with fail
        refine (VE.out _ _ HC5.out.s).mono ?_
        rintro r w6 ⟨uv, rfl, hown, hb⟩
        have hv1 : ∃ m, (versP S x).length = m + 1 := by
          have := HVL.out
          cases hvv : versP S x with
          | nil => rw [hvv] at this; cases this
          | cons a r => exact ⟨r.length, rfl⟩
        obtain ⟨m, hm⟩ := hv1
        obtain ⟨V, hV⟩ : ∃ V, versP S x = V := ⟨_, rfl⟩
        rw [hV] at hm hown HVL HVF
        rw [hV, hm] at HSM
        have HJ6 : Hid (CJ w px y (.slice AS nS cS) (.slice (some ⟨bc, oc, none⟩) nC cC) S C p10 x uv V w6) := Lib.hid ⟨HC5.out.keep hb, HB5.out.keep hb HB5.out.lt, ls_of_own (enc := enC) (sz := 33) enC_size hown⟩
        rw [hm] at hown
        obtain ⟨gV, cV, rfl, hg, hcV⟩ := own_some hown (by omega)
        have HMV := Lib.hid hm
        have hlast : V[m]? = some x := by
          have := HVL.out
          rw [List.getLast?_eq_getElem?, hm] at this
          exact this
        have HLX := Lib.hid hlast
        have hm60 : m + 1 ≤ 60 := by
          have h1 := HSM.out
          have h2 := HSL.out
          have h3 := HS.out.2.2
          omega
        clear x0 x1 x2 HC5 HB5 hown hb VE hg hcV hV hm hlast
        clear W5
        go_upto_region 12 with fail
        go_cut [86] (fun s86 wx => s86 = .bool false ∧ Hid (CJ w px y (.slice AS nS cS) (.slice (some ⟨bc, oc, none⟩) nC cC) S C p10 x (.slice (some ⟨gV, 0, none⟩) (m + 1) cV) V wx))
        case first =>
          have HJ7 := Lib.hid (HJ6.out.keep (Below.refl _ w6).drew)
          refine rest_begin (by kernel_rfl) ?_
          obtain ⟨W0, hW0⟩ : ∃ W0, w6.drew = W0 := ⟨_, rfl⟩
          rw [hW0] at HJ7 ⊢
          clear hW0 HJ6
          clear w6
          have neX := neq_deep (eq_en x x HXI.out HXI.out)
          rw [eqEn_self] at neX
          have v0 : ((m : Int) + 1 == 0) = false := by rw [beq_eq_false_iff_ne]; omega
          have v1 : IntKind.i64.wrap (m : Int) = (m : Int) := IntWalk.i64_in _ (by omega)
          have k0 : (0 : Int) ≤ (m : Int) := by omega
          have k1 : (m : Int) < (m : Int) + 1 := by omega
          have k2 : ¬ (m : Int) + 1 ≤ (m : Int) := by omega
          have k3 : ¬ m + 1 ≤ m := by omega
          have lv : ∀ W, Below W0.heap.size W0 W → (Instr.loadAt 34 (.pointer (some ⟨gV, m * 33, none⟩))).run Tryz.prog W = .ok (.agg (enC x)) W := fun W hb => by
            have := HJ7.out.v.load HLX.out hb
            rwa [Nat.zero_add] at this
          have LV := Lib.hid lv
          clear lv
          by_cases h0 : 0 < k
          · obtain ⟨k', rfl⟩ : ∃ k', k = k' + 1 := ⟨k - 1, by omega⟩
            obtain ⟨xp, hxp⟩ : ∃ xp, C[k']? = some xp := ⟨_, List.getElem?_eq_getElem (by have := HK.out.1; have := HNC.out; omega)⟩
            obtain ⟨hcx, hxpi⟩ := HXP.out xp hxp h0
            have CP := Lib.hid (fun W => cmpE_any xp x hxpi HXI.out W)
            rw [hcx] at CP
            have lp := Lib.hid (fun W (hb : Below W0.heap.size W0 W) => HJ7.out.ci.c.load hxp hb)
            have g0 : decide ((0 : Int) < (k' : Int) + 1) = true := decide_eq_true (by omega)
            have g1 : IntKind.i64.wrap (k' : Int) = (k' : Int) := IntWalk.i64_in _ (by omega)
            have q0 : (0 : Int) ≤ (k' : Int) := by omega
            have q1 : (k' : Int) < (nC : Int) := by have := HK.out.1; omega
            have q2 : ¬ (nC : Int) ≤ (k' : Int) := by omega
            have q3 : ¬ nC ≤ k' := by omega
            clear hxp hcx hxpi h0
            refine rest_flow3 [some 56, some 57, some 58, some 59, some 60, some 61, some 62, some 63, some 64, some 65, some 66, some 67, some 68, some 69, some 70, some 71, some 72, some 73, some 74, some 75, some 76, some 77, some 78, some 79, some 80, some 81, some 82, some 83, some 84, some 85] [Sp.is (.int .i64 0), Sp.is (.bool false), Sp.is (.bool false), Sp.is (.slice (some ⟨gV, 0, none⟩) (m + 1) cV), Sp.is (.int .i64 ((m : Int) + 1)), Sp.is (.bool false), Sp.is (.bool false), Sp.is (.bool false), Sp.is (.slice (some ⟨gV, 0, none⟩) (m + 1) cV), Sp.is (.slice (some ⟨gV, 0, none⟩) (m + 1) cV), Sp.is (.int .i64 ((m : Int) + 1)), Sp.is (.int .i64 (m : Int)), Sp.is (.pointer (some ⟨gV, m * 33, none⟩)), Sp.is (.agg (enC x)), Sp.is (.agg (enC x)), Sp.is (.bool false), Sp.is (.bool false), Sp.is (.bool false), Sp.is (.int .i64 ((k' : Int) + 1)), Sp.is (.bool true), Sp.is (.bool true), Sp.is (.slice (some ⟨bc, oc, none⟩) nC cC), Sp.is (.int .i64 ((k' : Int) + 1)), Sp.is (.int .i64 (k' : Int)), Sp.is (.pointer (some ⟨bc, oc + k' * 33, none⟩)), Sp.is (.agg (enC xp)), Sp.is (.agg (enC x)), Sp.is (.int .i64 (-1)), Sp.is (.bool false), Sp.is (.bool false)] [false, false, false, false, false, false, false, false, false, false, false, false, false, false, false, false, false, false, false, false, false, false, false, false, false, false, false, false, false, false] 30 (by kernel_rfl) (by kernel_rfl) (fun u F hF => ?_) (fun u w' hbF hsF hold hap => ?_)
            case refine_1 =>
              have E12 : F.eval (.tmp 12) = (.int .i64 0) := (congrArg (fun a => Act.eval a (.tmp 12)) hF).trans (eval_out [some 56, some 57, some 58, some 59, some 60, some 61, some 62, some 63, some 64, some 65, some 66, some 67, some 68, some 69, some 70, some 71, some 72, some 73, some 74, some 75, some 76, some 77, some 78, some 79, some 80, some 81, some 82, some 83, some 84, some 85] 0 _ (by decide))
              have D56 : F.eval (.tmp 56) = u 0 := (congrArg (fun a => Act.eval a (.tmp 56)) hF).trans (eval_in [some 56, some 57, some 58, some 59, some 60, some 61, some 62, some 63, some 64, some 65, some 66, some 67, some 68, some 69, some 70, some 71, some 72, some 73, some 74, some 75, some 76, some 77, some 78, some 79, some 80, some 81, some 82, some 83, some 84, some 85] 0 0 _ (by decide) (by omega) rfl (of_decide_eq_true (by kernel_rfl)))
              have D57 : F.eval (.tmp 57) = u 1 := (congrArg (fun a => Act.eval a (.tmp 57)) hF).trans (eval_in [some 56, some 57, some 58, some 59, some 60, some 61, some 62, some 63, some 64, some 65, some 66, some 67, some 68, some 69, some 70, some 71, some 72, some 73, some 74, some 75, some 76, some 77, some 78, some 79, some 80, some 81, some 82, some 83, some 84, some 85] 0 1 _ (by decide) (by omega) rfl (of_decide_eq_true (by kernel_rfl)))
              have E11 : F.eval (.tmp 11) = (.slice (some ⟨gV, 0, none⟩) (m + 1) cV) := (congrArg (fun a => Act.eval a (.tmp 11)) hF).trans (eval_out [some 56, some 57, some 58, some 59, some 60, some 61, some 62, some 63, some 64, some 65, some 66, some 67, some 68, some 69, some 70, some 71, some 72, some 73, some 74, some 75, some 76, some 77, some 78, some 79, some 80, some 81, some 82, some 83, some 84, some 85] 0 _ (by decide))
              have D58 : F.eval (.tmp 58) = u 2 := (congrArg (fun a => Act.eval a (.tmp 58)) hF).trans (eval_in [some 56, some 57, some 58, some 59, some 60, some 61, some 62, some 63, some 64, some 65, some 66, some 67, some 68, some 69, some 70, some 71, some 72, some 73, some 74, some 75, some 76, some 77, some 78, some 79, some 80, some 81, some 82, some 83, some 84, some 85] 0 2 _ (by decide) (by omega) rfl (of_decide_eq_true (by kernel_rfl)))
              have D59 : F.eval (.tmp 59) = u 3 := (congrArg (fun a => Act.eval a (.tmp 59)) hF).trans (eval_in [some 56, some 57, some 58, some 59, some 60, some 61, some 62, some 63, some 64, some 65, some 66, some 67, some 68, some 69, some 70, some 71, some 72, some 73, some 74, some 75, some 76, some 77, some 78, some 79, some 80, some 81, some 82, some 83, some 84, some 85] 0 3 _ (by decide) (by omega) rfl (of_decide_eq_true (by kernel_rfl)))
              have D60 : F.eval (.tmp 60) = u 4 := (congrArg (fun a => Act.eval a (.tmp 60)) hF).trans (eval_in [some 56, some 57, some 58, some 59, some 60, some 61, some 62, some 63, some 64, some 65, some 66, some 67, some 68, some 69, some 70, some 71, some 72, some 73, some 74, some 75, some 76, some 77, some 78, some 79, some 80, some 81, some 82, some 83, some 84, some 85] 0 4 _ (by decide) (by omega) rfl (of_decide_eq_true (by kernel_rfl)))
              have D61 : F.eval (.tmp 61) = u 5 := (congrArg (fun a => Act.eval a (.tmp 61)) hF).trans (eval_in [some 56, some 57, some 58, some 59, some 60, some 61, some 62, some 63, some 64, some 65, some 66, some 67, some 68, some 69, some 70, some 71, some 72, some 73, some 74, some 75, some 76, some 77, some 78, some 79, some 80, some 81, some 82, some 83, some 84, some 85] 0 5 _ (by decide) (by omega) rfl (of_decide_eq_true (by kernel_rfl)))
              have D62 : F.eval (.tmp 62) = u 6 := (congrArg (fun a => Act.eval a (.tmp 62)) hF).trans (eval_in [some 56, some 57, some 58, some 59, some 60, some 61, some 62, some 63, some 64, some 65, some 66, some 67, some 68, some 69, some 70, some 71, some 72, some 73, some 74, some 75, some 76, some 77, some 78, some 79, some 80, some 81, some 82, some 83, some 84, some 85] 0 6 _ (by decide) (by omega) rfl (of_decide_eq_true (by kernel_rfl)))
              have D63 : F.eval (.tmp 63) = u 7 := (congrArg (fun a => Act.eval a (.tmp 63)) hF).trans (eval_in [some 56, some 57, some 58, some 59, some 60, some 61, some 62, some 63, some 64, some 65, some 66, some 67, some 68, some 69, some 70, some 71, some 72, some 73, some 74, some 75, some 76, some 77, some 78, some 79, some 80, some 81, some 82, some 83, some 84, some 85] 0 7 _ (by decide) (by omega) rfl (of_decide_eq_true (by kernel_rfl)))
              have D65 : F.eval (.tmp 65) = u 9 := (congrArg (fun a => Act.eval a (.tmp 65)) hF).trans (eval_in [some 56, some 57, some 58, some 59, some 60, some 61, some 62, some 63, some 64, some 65, some 66, some 67, some 68, some 69, some 70, some 71, some 72, some 73, some 74, some 75, some 76, some 77, some 78, some 79, some 80, some 81, some 82, some 83, some 84, some 85] 0 9 _ (by decide) (by omega) rfl (of_decide_eq_true (by kernel_rfl)))
              have D66 : F.eval (.tmp 66) = u 10 := (congrArg (fun a => Act.eval a (.tmp 66)) hF).trans (eval_in [some 56, some 57, some 58, some 59, some 60, some 61, some 62, some 63, some 64, some 65, some 66, some 67, some 68, some 69, some 70, some 71, some 72, some 73, some 74, some 75, some 76, some 77, some 78, some 79, some 80, some 81, some 82, some 83, some 84, some 85] 0 10 _ (by decide) (by omega) rfl (of_decide_eq_true (by kernel_rfl)))
              have D64 : F.eval (.tmp 64) = u 8 := (congrArg (fun a => Act.eval a (.tmp 64)) hF).trans (eval_in [some 56, some 57, some 58, some 59, some 60, some 61, some 62, some 63, some 64, some 65, some 66, some 67, some 68, some 69, some 70, some 71, some 72, some 73, some 74, some 75, some 76, some 77, some 78, some 79, some 80, some 81, some 82, some 83, some 84, some 85] 0 8 _ (by decide) (by omega) rfl (of_decide_eq_true (by kernel_rfl)))
              have D67 : F.eval (.tmp 67) = u 11 := (congrArg (fun a => Act.eval a (.tmp 67)) hF).trans (eval_in [some 56, some 57, some 58, some 59, some 60, some 61, some 62, some 63, some 64, some 65, some 66, some 67, some 68, some 69, some 70, some 71, some 72, some 73, some 74, some 75, some 76, some 77, some 78, some 79, some 80, some 81, some 82, some 83, some 84, some 85] 0 11 _ (by decide) (by omega) rfl (of_decide_eq_true (by kernel_rfl)))
              have D68 : F.eval (.tmp 68) = u 12 := (congrArg (fun a => Act.eval a (.tmp 68)) hF).trans (eval_in [some 56, some 57, some 58, some 59, some 60, some 61, some 62, some 63, some 64, some 65, some 66, some 67, some 68, some 69, some 70, some 71, some 72, some 73, some 74, some 75, some 76, some 77, some 78, some 79, some 80, some 81, some 82, some 83, some 84, some 85] 0 12 _ (by decide) (by omega) rfl (of_decide_eq_true (by kernel_rfl)))
              have E10 : F.eval (.tmp 10) = (.pointer (some ⟨p10, 0, none⟩)) := (congrArg (fun a => Act.eval a (.tmp 10)) hF).trans (eval_out [some 56, some 57, some 58, some 59, some 60, some 61, some 62, some 63, some 64, some 65, some 66, some 67, some 68, some 69, some 70, some 71, some 72, some 73, some 74, some 75, some 76, some 77, some 78, some 79, some 80, some 81, some 82, some 83, some 84, some 85] 0 _ (by decide))
              have D69 : F.eval (.tmp 69) = u 13 := (congrArg (fun a => Act.eval a (.tmp 69)) hF).trans (eval_in [some 56, some 57, some 58, some 59, some 60, some 61, some 62, some 63, some 64, some 65, some 66, some 67, some 68, some 69, some 70, some 71, some 72, some 73, some 74, some 75, some 76, some 77, some 78, some 79, some 80, some 81, some 82, some 83, some 84, some 85] 0 13 _ (by decide) (by omega) rfl (of_decide_eq_true (by kernel_rfl)))
              have D70 : F.eval (.tmp 70) = u 14 := (congrArg (fun a => Act.eval a (.tmp 70)) hF).trans (eval_in [some 56, some 57, some 58, some 59, some 60, some 61, some 62, some 63, some 64, some 65, some 66, some 67, some 68, some 69, some 70, some 71, some 72, some 73, some 74, some 75, some 76, some 77, some 78, some 79, some 80, some 81, some 82, some 83, some 84, some 85] 0 14 _ (by decide) (by omega) rfl (of_decide_eq_true (by kernel_rfl)))
              have D71 : F.eval (.tmp 71) = u 15 := (congrArg (fun a => Act.eval a (.tmp 71)) hF).trans (eval_in [some 56, some 57, some 58, some 59, some 60, some 61, some 62, some 63, some 64, some 65, some 66, some 67, some 68, some 69, some 70, some 71, some 72, some 73, some 74, some 75, some 76, some 77, some 78, some 79, some 80, some 81, some 82, some 83, some 84, some 85] 0 15 _ (by decide) (by omega) rfl (of_decide_eq_true (by kernel_rfl)))
              have D72 : F.eval (.tmp 72) = u 16 := (congrArg (fun a => Act.eval a (.tmp 72)) hF).trans (eval_in [some 56, some 57, some 58, some 59, some 60, some 61, some 62, some 63, some 64, some 65, some 66, some 67, some 68, some 69, some 70, some 71, some 72, some 73, some 74, some 75, some 76, some 77, some 78, some 79, some 80, some 81, some 82, some 83, some 84, some 85] 0 16 _ (by decide) (by omega) rfl (of_decide_eq_true (by kernel_rfl)))
              have E9 : F.eval (.tmp 9) = (.int .i64 ((k' : Int) + 1)) := (congrArg (fun a => Act.eval a (.tmp 9)) hF).trans (eval_out [some 56, some 57, some 58, some 59, some 60, some 61, some 62, some 63, some 64, some 65, some 66, some 67, some 68, some 69, some 70, some 71, some 72, some 73, some 74, some 75, some 76, some 77, some 78, some 79, some 80, some 81, some 82, some 83, some 84, some 85] 0 _ (by decide))
              have D73 : F.eval (.tmp 73) = u 17 := (congrArg (fun a => Act.eval a (.tmp 73)) hF).trans (eval_in [some 56, some 57, some 58, some 59, some 60, some 61, some 62, some 63, some 64, some 65, some 66, some 67, some 68, some 69, some 70, some 71, some 72, some 73, some 74, some 75, some 76, some 77, some 78, some 79, some 80, some 81, some 82, some 83, some 84, some 85] 0 17 _ (by decide) (by omega) rfl (of_decide_eq_true (by kernel_rfl)))
              have D74 : F.eval (.tmp 74) = u 18 := (congrArg (fun a => Act.eval a (.tmp 74)) hF).trans (eval_in [some 56, some 57, some 58, some 59, some 60, some 61, some 62, some 63, some 64, some 65, some 66, some 67, some 68, some 69, some 70, some 71, some 72, some 73, some 74, some 75, some 76, some 77, some 78, some 79, some 80, some 81, some 82, some 83, some 84, some 85] 0 18 _ (by decide) (by omega) rfl (of_decide_eq_true (by kernel_rfl)))
              have D75 : F.eval (.tmp 75) = u 19 := (congrArg (fun a => Act.eval a (.tmp 75)) hF).trans (eval_in [some 56, some 57, some 58, some 59, some 60, some 61, some 62, some 63, some 64, some 65, some 66, some 67, some 68, some 69, some 70, some 71, some 72, some 73, some 74, some 75, some 76, some 77, some 78, some 79, some 80, some 81, some 82, some 83, some 84, some 85] 0 19 _ (by decide) (by omega) rfl (of_decide_eq_true (by kernel_rfl)))
              have E6 : F.eval (.tmp 6) = (.slice (some ⟨bc, oc, none⟩) nC cC) := (congrArg (fun a => Act.eval a (.tmp 6)) hF).trans (eval_out [some 56, some 57, some 58, some 59, some 60, some 61, some 62, some 63, some 64, some 65, some 66, some 67, some 68, some 69, some 70, some 71, some 72, some 73, some 74, some 75, some 76, some 77, some 78, some 79, some 80, some 81, some 82, some 83, some 84, some 85] 0 _ (by decide))
              have D76 : F.eval (.tmp 76) = u 20 := (congrArg (fun a => Act.eval a (.tmp 76)) hF).trans (eval_in [some 56, some 57, some 58, some 59, some 60, some 61, some 62, some 63, some 64, some 65, some 66, some 67, some 68, some 69, some 70, some 71, some 72, some 73, some 74, some 75, some 76, some 77, some 78, some 79, some 80, some 81, some 82, some 83, some 84, some 85] 0 20 _ (by decide) (by omega) rfl (of_decide_eq_true (by kernel_rfl)))
              have D78 : F.eval (.tmp 78) = u 22 := (congrArg (fun a => Act.eval a (.tmp 78)) hF).trans (eval_in [some 56, some 57, some 58, some 59, some 60, some 61, some 62, some 63, some 64, some 65, some 66, some 67, some 68, some 69, some 70, some 71, some 72, some 73, some 74, some 75, some 76, some 77, some 78, some 79, some 80, some 81, some 82, some 83, some 84, some 85] 0 22 _ (by decide) (by omega) rfl (of_decide_eq_true (by kernel_rfl)))
              have D77 : F.eval (.tmp 77) = u 21 := (congrArg (fun a => Act.eval a (.tmp 77)) hF).trans (eval_in [some 56, some 57, some 58, some 59, some 60, some 61, some 62, some 63, some 64, some 65, some 66, some 67, some 68, some 69, some 70, some 71, some 72, some 73, some 74, some 75, some 76, some 77, some 78, some 79, some 80, some 81, some 82, some 83, some 84, some 85] 0 21 _ (by decide) (by omega) rfl (of_decide_eq_true (by kernel_rfl)))
              have D79 : F.eval (.tmp 79) = u 23 := (congrArg (fun a => Act.eval a (.tmp 79)) hF).trans (eval_in [some 56, some 57, some 58, some 59, some 60, some 61, some 62, some 63, some 64, some 65, some 66, some 67, some 68, some 69, some 70, some 71, some 72, some 73, some 74, some 75, some 76, some 77, some 78, some 79, some 80, some 81, some 82, some 83, some 84, some 85] 0 23 _ (by decide) (by omega) rfl (of_decide_eq_true (by kernel_rfl)))
              have D80 : F.eval (.tmp 80) = u 24 := (congrArg (fun a => Act.eval a (.tmp 80)) hF).trans (eval_in [some 56, some 57, some 58, some 59, some 60, some 61, some 62, some 63, some 64, some 65, some 66, some 67, some 68, some 69, some 70, some 71, some 72, some 73, some 74, some 75, some 76, some 77, some 78, some 79, some 80, some 81, some 82, some 83, some 84, some 85] 0 24 _ (by decide) (by omega) rfl (of_decide_eq_true (by kernel_rfl)))
              have D81 : F.eval (.tmp 81) = u 25 := (congrArg (fun a => Act.eval a (.tmp 81)) hF).trans (eval_in [some 56, some 57, some 58, some 59, some 60, some 61, some 62, some 63, some 64, some 65, some 66, some 67, some 68, some 69, some 70, some 71, some 72, some 73, some 74, some 75, some 76, some 77, some 78, some 79, some 80, some 81, some 82, some 83, some 84, some 85] 0 25 _ (by decide) (by omega) rfl (of_decide_eq_true (by kernel_rfl)))
              have D82 : F.eval (.tmp 82) = u 26 := (congrArg (fun a => Act.eval a (.tmp 82)) hF).trans (eval_in [some 56, some 57, some 58, some 59, some 60, some 61, some 62, some 63, some 64, some 65, some 66, some 67, some 68, some 69, some 70, some 71, some 72, some 73, some 74, some 75, some 76, some 77, some 78, some 79, some 80, some 81, some 82, some 83, some 84, some 85] 0 26 _ (by decide) (by omega) rfl (of_decide_eq_true (by kernel_rfl)))
              have D83 : F.eval (.tmp 83) = u 27 := (congrArg (fun a => Act.eval a (.tmp 83)) hF).trans (eval_in [some 56, some 57, some 58, some 59, some 60, some 61, some 62, some 63, some 64, some 65, some 66, some 67, some 68, some 69, some 70, some 71, some 72, some 73, some 74, some 75, some 76, some 77, some 78, some 79, some 80, some 81, some 82, some 83, some 84, some 85] 0 27 _ (by decide) (by omega) rfl (of_decide_eq_true (by kernel_rfl)))
              have D84 : F.eval (.tmp 84) = u 28 := (congrArg (fun a => Act.eval a (.tmp 84)) hF).trans (eval_in [some 56, some 57, some 58, some 59, some 60, some 61, some 62, some 63, some 64, some 65, some 66, some 67, some 68, some 69, some 70, some 71, some 72, some 73, some 74, some 75, some 76, some 77, some 78, some 79, some 80, some 81, some 82, some 83, some 84, some 85] 0 28 _ (by decide) (by omega) rfl (of_decide_eq_true (by kernel_rfl)))
              clear hF
              refine ⟨?_, ?_, ?_, ?_, ?_, ?_, ?_, ?_, ?_, ?_, ?_, ?_, ?_, ?_, ?_, ?_, ?_, ?_, ?_, ?_, ?_, ?_, ?_, ?_, ?_, ?_, ?_, ?_, ?_, ?_, trivial⟩
              · intro w1 hb hd K hK
                have e12 := E12
                exact op_val (v := (.int .i64 0)) rfl (by simp only [execOp, List.map_toArray, List.map_cons, List.map_nil, e12]; go_simp) (hK _ _ (show _ = _ from rfl) (Below.refl _ _) (Fresh.no _ _ _))
              · intro w1 hb hd K hK
                have e56 := D56.trans (show u 0 = (.int .i64 0) from hd ⟨0, .data⟩ (by simp) rfl (by omega))
                exact op_val (v := (.bool false)) rfl (by simp only [execOp, List.map_toArray, List.map_cons, List.map_nil, e56]; go_simp) (hK _ _ (show _ = _ from rfl) (Below.refl _ _) (Fresh.no _ _ _))
              · intro w1 hb hd K hK
                have e57 := D57.trans (show u 1 = (.bool false) from hd ⟨1, .data⟩ (by simp) rfl (by omega))
                exact op_val (v := (.bool false)) rfl (by simp only [execOp, List.map_toArray, List.map_cons, List.map_nil, e57]; go_simp) (hK _ _ (show _ = _ from rfl) (Below.refl _ _) (Fresh.no _ _ _))
              · intro w1 hb hd K hK
                have e11 := E11
                have g := D58.trans (show u 2 = .bool false from hd ⟨2, .guard⟩ (by simp) rfl (by omega))
                exact op_val_w (v := (.slice (some ⟨gV, 0, none⟩) (m + 1) cV)) (wanted_of (j := 2) (s := 58) (b := false) (by kernel_rfl) (by kernel_rfl) g) (by simp only [execOp, List.map_toArray, List.map_cons, List.map_nil, e11]; go_simp) (hK _ _ (show _ = _ from rfl) (Below.refl _ _) (Fresh.no _ _ _))
              · intro w1 hb hd K hK
                have e59 := D59.trans (show u 3 = (.slice (some ⟨gV, 0, none⟩) (m + 1) cV) from hd ⟨3, .data⟩ (by simp) rfl (by omega))
                have g := D58.trans (show u 2 = .bool false from hd ⟨2, .guard⟩ (by simp) rfl (by omega))
                exact op_val_w (v := (.int .i64 ((m : Int) + 1))) (wanted_of (j := 2) (s := 58) (b := false) (by kernel_rfl) (by kernel_rfl) g) ((exec_len Tryz.underlying40 rfl e59).trans (by rw [show ((m + 1 : Nat) : Int) = (m : Int) + 1 by omega])) (hK _ _ (show _ = _ from rfl) (Below.refl _ _) (Fresh.no _ _ _))
              · intro w1 hb hd K hK
                have e60 := D60.trans (show u 4 = (.int .i64 ((m : Int) + 1)) from hd ⟨4, .data⟩ (by simp) rfl (by omega))
                have g := D58.trans (show u 2 = .bool false from hd ⟨2, .guard⟩ (by simp) rfl (by omega))
                exact op_val_w (v := (.bool false)) (wanted_of (j := 2) (s := 58) (b := false) (by kernel_rfl) (by kernel_rfl) g) (by simp only [execOp, List.map_toArray, List.map_cons, List.map_nil, e60]; go_simp) (hK _ _ (show _ = _ from rfl) (Below.refl _ _) (Fresh.no _ _ _))
              · intro w1 hb hd K hK
                have e58 := D58.trans (show u 2 = (.bool false) from hd ⟨2, .data⟩ (by simp) rfl (by omega))
                have e61 := D61.trans (show u 5 = (.bool false) from hd ⟨5, .data⟩ (by simp) rfl (by omega))
                exact op_val (v := (.bool false)) rfl (by simp only [execOp, List.map_toArray, List.map_cons, List.map_nil, e58, e61]; go_simp) (hK _ _ (show _ = _ from rfl) (Below.refl _ _) (Fresh.no _ _ _))
              · intro w1 hb hd K hK
                have e62 := D62.trans (show u 6 = (.bool false) from hd ⟨6, .data⟩ (by simp) rfl (by omega))
                exact op_val (v := (.bool false)) rfl (by simp only [execOp, List.map_toArray, List.map_cons, List.map_nil, e62]; go_simp) (hK _ _ (show _ = _ from rfl) (Below.refl _ _) (Fresh.no _ _ _))
              · intro w1 hb hd K hK
                have e11 := E11
                have g := D63.trans (show u 7 = .bool false from hd ⟨7, .guard⟩ (by simp) rfl (by omega))
                exact op_val_w (v := (.slice (some ⟨gV, 0, none⟩) (m + 1) cV)) (wanted_of (j := 7) (s := 63) (b := false) (by kernel_rfl) (by kernel_rfl) g) (by simp only [execOp, List.map_toArray, List.map_cons, List.map_nil, e11]; go_simp) (hK _ _ (show _ = _ from rfl) (Below.refl _ _) (Fresh.no _ _ _))
              · intro w1 hb hd K hK
                have e11 := E11
                have g := D63.trans (show u 7 = .bool false from hd ⟨7, .guard⟩ (by simp) rfl (by omega))
                exact op_val_w (v := (.slice (some ⟨gV, 0, none⟩) (m + 1) cV)) (wanted_of (j := 7) (s := 63) (b := false) (by kernel_rfl) (by kernel_rfl) g) (by simp only [execOp, List.map_toArray, List.map_cons, List.map_nil, e11]; go_simp) (hK _ _ (show _ = _ from rfl) (Below.refl _ _) (Fresh.no _ _ _))
              · intro w1 hb hd K hK
                have e65 := D65.trans (show u 9 = (.slice (some ⟨gV, 0, none⟩) (m + 1) cV) from hd ⟨9, .data⟩ (by simp) rfl (by omega))
                have g := D63.trans (show u 7 = .bool false from hd ⟨7, .guard⟩ (by simp) rfl (by omega))
                exact op_val_w (v := (.int .i64 ((m : Int) + 1))) (wanted_of (j := 7) (s := 63) (b := false) (by kernel_rfl) (by kernel_rfl) g) ((exec_len Tryz.underlying40 rfl e65).trans (by rw [show ((m + 1 : Nat) : Int) = (m : Int) + 1 by omega])) (hK _ _ (show _ = _ from rfl) (Below.refl _ _) (Fresh.no _ _ _))
              · intro w1 hb hd K hK
                have e66 := D66.trans (show u 10 = (.int .i64 ((m : Int) + 1)) from hd ⟨10, .data⟩ (by simp) rfl (by omega))
                have g := D63.trans (show u 7 = .bool false from hd ⟨7, .guard⟩ (by simp) rfl (by omega))
                exact op_val_w (v := (.int .i64 (m : Int))) (wanted_of (j := 7) (s := 63) (b := false) (by kernel_rfl) (by kernel_rfl) g) (by simp only [execOp, List.map_toArray, List.map_cons, List.map_nil, e66]; go_simp) (hK _ _ (show _ = _ from rfl) (Below.refl _ _) (Fresh.no _ _ _))
              · intro w1 hb hd K hK
                have e64 := D64.trans (show u 8 = (.slice (some ⟨gV, 0, none⟩) (m + 1) cV) from hd ⟨8, .data⟩ (by simp) rfl (by omega))
                have e67 := D67.trans (show u 11 = (.int .i64 (m : Int)) from hd ⟨11, .data⟩ (by simp) rfl (by omega))
                have g := D63.trans (show u 7 = .bool false from hd ⟨7, .guard⟩ (by simp) rfl (by omega))
                exact op_val_w (v := (.pointer (some ⟨gV, m * 33, none⟩))) (wanted_of (j := 7) (s := 63) (b := false) (by kernel_rfl) (by kernel_rfl) g) (by simp only [execOp, List.map_toArray, List.map_cons, List.map_nil, e64, e67]; go_simp) (hK _ _ (show _ = _ from rfl) (Below.refl _ _) (Fresh.no _ _ _))
              · intro w1 hb hd K hK
                have e68 := D68.trans (show u 12 = (.pointer (some ⟨gV, m * 33, none⟩)) from hd ⟨12, .data⟩ (by simp) rfl (by omega))
                have g := D63.trans (show u 7 = .bool false from hd ⟨7, .guard⟩ (by simp) rfl (by omega))
                exact op_val_w (v := (.agg (enC x))) (wanted_of (j := 7) (s := 63) (b := false) (by kernel_rfl) (by kernel_rfl) g) (exec_load rfl e68 (LV.out w1 hb)) (hK _ _ (show _ = _ from rfl) (Below.refl _ _) (Fresh.no _ _ _))
              · intro w1 hb hd K hK
                have e10 := E10
                have g := D63.trans (show u 7 = .bool false from hd ⟨7, .guard⟩ (by simp) rfl (by omega))
                exact op_val_w (v := (.agg (enC x))) (wanted_of (j := 7) (s := 63) (b := false) (by kernel_rfl) (by kernel_rfl) g) (exec_load rfl e10 (loadAt_blk (HJ7.out.bx.keep hb HJ7.out.bx.lt) Tryz.underlying34 rfl (by rw [enC_size]; kernel_rfl))) (hK _ _ (show _ = _ from rfl) (Below.refl _ _) (Fresh.no _ _ _))
              · intro w1 hb hd K hK
                have e69 := D69.trans (show u 13 = (.agg (enC x)) from hd ⟨13, .data⟩ (by simp) rfl (by omega))
                have e70 := D70.trans (show u 14 = (.agg (enC x)) from hd ⟨14, .data⟩ (by simp) rfl (by omega))
                have g := D63.trans (show u 7 = .bool false from hd ⟨7, .guard⟩ (by simp) rfl (by omega))
                exact op_val_w (v := (.bool false)) (wanted_of (j := 7) (s := 63) (b := false) (by kernel_rfl) (by kernel_rfl) g) (exec_bin rfl e69 e70 (by kernel_rfl) (neX w1)) (hK _ _ (show _ = _ from rfl) (Below.refl _ _) (Fresh.no _ _ _))
              · intro w1 hb hd K hK
                have e63 := D63.trans (show u 7 = (.bool false) from hd ⟨7, .data⟩ (by simp) rfl (by omega))
                have e71 := D71.trans (show u 15 = (.bool false) from hd ⟨15, .data⟩ (by simp) rfl (by omega))
                exact op_val (v := (.bool false)) rfl (by simp only [execOp, List.map_toArray, List.map_cons, List.map_nil, e63, e71]; go_simp) (hK _ _ (show _ = _ from rfl) (Below.refl _ _) (Fresh.no _ _ _))
              · intro w1 hb hd K hK
                have e72 := D72.trans (show u 16 = (.bool false) from hd ⟨16, .data⟩ (by simp) rfl (by omega))
                exact op_val (v := (.bool false)) rfl (by simp only [execOp, List.map_toArray, List.map_cons, List.map_nil, e72]; go_simp) (hK _ _ (show _ = _ from rfl) (Below.refl _ _) (Fresh.no _ _ _))
              · intro w1 hb hd K hK
                have e9 := E9
                have g := D73.trans (show u 17 = .bool false from hd ⟨17, .guard⟩ (by simp) rfl (by omega))
                exact op_val_w (v := (.int .i64 ((k' : Int) + 1))) (wanted_of (j := 17) (s := 73) (b := false) (by kernel_rfl) (by kernel_rfl) g) (by simp only [execOp, List.map_toArray, List.map_cons, List.map_nil, e9]; go_simp) (hK _ _ (show _ = _ from rfl) (Below.refl _ _) (Fresh.no _ _ _))
              · intro w1 hb hd K hK
                have e74 := D74.trans (show u 18 = (.int .i64 ((k' : Int) + 1)) from hd ⟨18, .data⟩ (by simp) rfl (by omega))
                have g := D73.trans (show u 17 = .bool false from hd ⟨17, .guard⟩ (by simp) rfl (by omega))
                exact op_val_w (v := (.bool true)) (wanted_of (j := 17) (s := 73) (b := false) (by kernel_rfl) (by kernel_rfl) g) (by simp only [execOp, List.map_toArray, List.map_cons, List.map_nil, e74]; go_simp) (hK _ _ (show _ = _ from rfl) (Below.refl _ _) (Fresh.no _ _ _))
              · intro w1 hb hd K hK
                have e75 := D75.trans (show u 19 = (.bool true) from hd ⟨19, .data⟩ (by simp) rfl (by omega))
                have g := D73.trans (show u 17 = .bool false from hd ⟨17, .guard⟩ (by simp) rfl (by omega))
                exact op_val_w (v := (.bool true)) (wanted_of (j := 17) (s := 73) (b := false) (by kernel_rfl) (by kernel_rfl) g) (by simp only [execOp, List.map_toArray, List.map_cons, List.map_nil, e75]; go_simp) (hK _ _ (show _ = _ from rfl) (Below.refl _ _) (Fresh.no _ _ _))
              · intro w1 hb hd K hK
                have e6 := E6
                have g := D76.trans (show u 20 = .bool true from hd ⟨20, .guard⟩ (by simp) rfl (by omega))
                exact op_val_w (v := (.slice (some ⟨bc, oc, none⟩) nC cC)) (wanted_of (j := 20) (s := 76) (b := true) (by kernel_rfl) (by kernel_rfl) g) (by simp only [execOp, List.map_toArray, List.map_cons, List.map_nil, e6]; go_simp) (hK _ _ (show _ = _ from rfl) (Below.refl _ _) (Fresh.no _ _ _))
              · intro w1 hb hd K hK
                have e9 := E9
                have g := D76.trans (show u 20 = .bool true from hd ⟨20, .guard⟩ (by simp) rfl (by omega))
                exact op_val_w (v := (.int .i64 ((k' : Int) + 1))) (wanted_of (j := 20) (s := 76) (b := true) (by kernel_rfl) (by kernel_rfl) g) (by simp only [execOp, List.map_toArray, List.map_cons, List.map_nil, e9]; go_simp) (hK _ _ (show _ = _ from rfl) (Below.refl _ _) (Fresh.no _ _ _))
              · intro w1 hb hd K hK
                have e78 := D78.trans (show u 22 = (.int .i64 ((k' : Int) + 1)) from hd ⟨22, .data⟩ (by simp) rfl (by omega))
                have g := D76.trans (show u 20 = .bool true from hd ⟨20, .guard⟩ (by simp) rfl (by omega))
                exact op_val_w (v := (.int .i64 (k' : Int))) (wanted_of (j := 20) (s := 76) (b := true) (by kernel_rfl) (by kernel_rfl) g) (by simp only [execOp, List.map_toArray, List.map_cons, List.map_nil, e78]; go_simp) (hK _ _ (show _ = _ from rfl) (Below.refl _ _) (Fresh.no _ _ _))
              · intro w1 hb hd K hK
                have e77 := D77.trans (show u 21 = (.slice (some ⟨bc, oc, none⟩) nC cC) from hd ⟨21, .data⟩ (by simp) rfl (by omega))
                have e79 := D79.trans (show u 23 = (.int .i64 (k' : Int)) from hd ⟨23, .data⟩ (by simp) rfl (by omega))
                have g := D76.trans (show u 20 = .bool true from hd ⟨20, .guard⟩ (by simp) rfl (by omega))
                exact op_val_w (v := (.pointer (some ⟨bc, oc + k' * 33, none⟩))) (wanted_of (j := 20) (s := 76) (b := true) (by kernel_rfl) (by kernel_rfl) g) (by simp only [execOp, List.map_toArray, List.map_cons, List.map_nil, e77, e79]; go_simp) (hK _ _ (show _ = _ from rfl) (Below.refl _ _) (Fresh.no _ _ _))
              · intro w1 hb hd K hK
                have e80 := D80.trans (show u 24 = (.pointer (some ⟨bc, oc + k' * 33, none⟩)) from hd ⟨24, .data⟩ (by simp) rfl (by omega))
                have g := D76.trans (show u 20 = .bool true from hd ⟨20, .guard⟩ (by simp) rfl (by omega))
                exact op_val_w (v := (.agg (enC xp))) (wanted_of (j := 20) (s := 76) (b := true) (by kernel_rfl) (by kernel_rfl) g) (exec_load rfl e80 (lp.out w1 hb)) (hK _ _ (show _ = _ from rfl) (Below.refl _ _) (Fresh.no _ _ _))
              · intro w1 hb hd K hK
                have e10 := E10
                have g := D76.trans (show u 20 = .bool true from hd ⟨20, .guard⟩ (by simp) rfl (by omega))
                exact op_val_w (v := (.agg (enC x))) (wanted_of (j := 20) (s := 76) (b := true) (by kernel_rfl) (by kernel_rfl) g) (exec_load rfl e10 (loadAt_blk (HJ7.out.bx.keep hb HJ7.out.bx.lt) Tryz.underlying34 rfl (by rw [enC_size]; kernel_rfl))) (hK _ _ (show _ = _ from rfl) (Below.refl _ _) (Fresh.no _ _ _))
              · intro w1 hb hd K hK
                have e81 := D81.trans (show u 25 = (.agg (enC xp)) from hd ⟨25, .data⟩ (by simp) rfl (by omega))
                have e82 := D82.trans (show u 26 = (.agg (enC x)) from hd ⟨26, .data⟩ (by simp) rfl (by omega))
                have g := D76.trans (show u 20 = .bool true from hd ⟨20, .guard⟩ (by simp) rfl (by omega))
                refine op_call_w (R := fun v w2 => v = (.int .i64 (-1)) ∧ Below w1.heap.size w1 w2) (f := 25) (args := #[.agg (enC xp), .agg (enC x)]) (wanted_of (j := 20) (s := 76) (b := true) (by kernel_rfl) (by kernel_rfl) g) (by simp only [execOp]; go_simp; first | exact ⟨eval_get e81, eval_get e82⟩ | (simp only [Act.eval] at *; simp_all)) ((CP.out w1).mono fun e w2 hh => ⟨_, hh.1, rfl, hh.2⟩) (fun v w2 hh => hK _ _ hh.1 hh.2 (Fresh.no _ _ _))
              · intro w1 hb hd K hK
                have e83 := D83.trans (show u 27 = (.int .i64 (-1)) from hd ⟨27, .data⟩ (by simp) rfl (by omega))
                have g := D76.trans (show u 20 = .bool true from hd ⟨20, .guard⟩ (by simp) rfl (by omega))
                exact op_val_w (v := (.bool false)) (wanted_of (j := 20) (s := 76) (b := true) (by kernel_rfl) (by kernel_rfl) g) (by simp only [execOp, List.map_toArray, List.map_cons, List.map_nil, e83]; go_simp) (hK _ _ (show _ = _ from rfl) (Below.refl _ _) (Fresh.no _ _ _))
              · intro w1 hb hd K hK
                have e76 := D76.trans (show u 20 = (.bool true) from hd ⟨20, .data⟩ (by simp) rfl (by omega))
                have e84 := D84.trans (show u 28 = (.bool false) from hd ⟨28, .data⟩ (by simp) rfl (by omega))
                have g := D73.trans (show u 17 = .bool false from hd ⟨17, .guard⟩ (by simp) rfl (by omega))
                exact op_val_w (v := (.bool false)) (wanted_of (j := 17) (s := 73) (b := false) (by kernel_rfl) (by kernel_rfl) g) (by simp only [execOp, List.map_toArray, List.map_cons, List.map_nil, e76, e84]; go_simp) (hK _ _ (show _ = _ from rfl) (Below.refl _ _) (Fresh.no _ _ _))
            have hv56 : u 0 = (.int .i64 0) := (show u 0 = _ from hsF 0 (by omega) (by omega))
            have hv57 : u 1 = (.bool false) := (show u 1 = _ from hsF 1 (by omega) (by omega))
            have hv58 : u 2 = (.bool false) := (show u 2 = _ from hsF 2 (by omega) (by omega))
            have hv59 : u 3 = (.slice (some ⟨gV, 0, none⟩) (m + 1) cV) := (show u 3 = _ from hsF 3 (by omega) (by omega))
            have hv60 : u 4 = (.int .i64 ((m : Int) + 1)) := (show u 4 = _ from hsF 4 (by omega) (by omega))
            have hv61 : u 5 = (.bool false) := (show u 5 = _ from hsF 5 (by omega) (by omega))
            have hv62 : u 6 = (.bool false) := (show u 6 = _ from hsF 6 (by omega) (by omega))
            have hv63 : u 7 = (.bool false) := (show u 7 = _ from hsF 7 (by omega) (by omega))
            have hv64 : u 8 = (.slice (some ⟨gV, 0, none⟩) (m + 1) cV) := (show u 8 = _ from hsF 8 (by omega) (by omega))
            have hv65 : u 9 = (.slice (some ⟨gV, 0, none⟩) (m + 1) cV) := (show u 9 = _ from hsF 9 (by omega) (by omega))
            have hv66 : u 10 = (.int .i64 ((m : Int) + 1)) := (show u 10 = _ from hsF 10 (by omega) (by omega))
            have hv67 : u 11 = (.int .i64 (m : Int)) := (show u 11 = _ from hsF 11 (by omega) (by omega))
            have hv68 : u 12 = (.pointer (some ⟨gV, m * 33, none⟩)) := (show u 12 = _ from hsF 12 (by omega) (by omega))
            have hv69 : u 13 = (.agg (enC x)) := (show u 13 = _ from hsF 13 (by omega) (by omega))
            have hv70 : u 14 = (.agg (enC x)) := (show u 14 = _ from hsF 14 (by omega) (by omega))
            have hv71 : u 15 = (.bool false) := (show u 15 = _ from hsF 15 (by omega) (by omega))
            have hv72 : u 16 = (.bool false) := (show u 16 = _ from hsF 16 (by omega) (by omega))
            have hv73 : u 17 = (.bool false) := (show u 17 = _ from hsF 17 (by omega) (by omega))
            have hv74 : u 18 = (.int .i64 ((k' : Int) + 1)) := (show u 18 = _ from hsF 18 (by omega) (by omega))
            have hv75 : u 19 = (.bool true) := (show u 19 = _ from hsF 19 (by omega) (by omega))
            have hv76 : u 20 = (.bool true) := (show u 20 = _ from hsF 20 (by omega) (by omega))
            have hv77 : u 21 = (.slice (some ⟨bc, oc, none⟩) nC cC) := (show u 21 = _ from hsF 21 (by omega) (by omega))
            have hv78 : u 22 = (.int .i64 ((k' : Int) + 1)) := (show u 22 = _ from hsF 22 (by omega) (by omega))
            have hv79 : u 23 = (.int .i64 (k' : Int)) := (show u 23 = _ from hsF 23 (by omega) (by omega))
            have hv80 : u 24 = (.pointer (some ⟨bc, oc + k' * 33, none⟩)) := (show u 24 = _ from hsF 24 (by omega) (by omega))
            have hv81 : u 25 = (.agg (enC xp)) := (show u 25 = _ from hsF 25 (by omega) (by omega))
            have hv82 : u 26 = (.agg (enC x)) := (show u 26 = _ from hsF 26 (by omega) (by omega))
            have hv83 : u 27 = (.int .i64 (-1)) := (show u 27 = _ from hsF 27 (by omega) (by omega))
            have hv84 : u 28 = (.bool false) := (show u 28 = _ from hsF 28 (by omega) (by omega))
            have hv85 : u 29 = (.bool false) := (show u 29 = _ from hsF 29 (by omega) (by omega))
            simp only [putRow, hv56, hv57, hv58, hv59, hv60, hv61, hv62, hv63, hv64, hv65, hv66, hv67, hv68, hv69, hv70, hv71, hv72, hv73, hv74, hv75, hv76, hv77, hv78, hv79, hv80, hv81, hv82, hv83, hv84, hv85, Act.put, List.setIfInBounds_toArray, List.set_cons_succ, List.set_cons_zero]
            clear hsF hold hap hv56 hv57 hv58 hv59 hv60 hv61 hv62 hv63 hv64 hv65 hv66 hv67 hv68 hv69 hv70 hv71 hv72 hv73 hv74 hv75 hv76 hv77 hv78 hv79 hv80 hv81 hv82 hv83 hv84 hv85
            have HJ8 := Lib.hid (HJ7.out.keep hbF)
            clear HJ7 hbF
            refine rest_forced 1 (by kernel_rfl) ?_
            simp only [List.drop_succ_cons, List.drop_zero, List.take_succ_cons, List.take_zero]
            go_wp2_with fail
            refine rest_done rfl ?_
            go_wp2_with fail
            go_meet
            exact ⟨rfl, HJ8⟩
          · obtain rfl : k = 0 := by omega
            have g0 : decide ((0 : Int) < 0) = false := rfl
            clear h0
            rw [show ((0 : Nat) : Int) = 0 from rfl]
            refine rest_flow3 [some 56, some 57, some 58, some 59, some 60, some 61, some 62, some 63, some 64, some 65, some 66, some 67, some 68, some 69, some 70, some 71, some 72, some 73, some 74, some 75, some 76, some 77, some 78, some 79, some 80, some 81, some 82, some 83, some 84, some 85] [Sp.is (.int .i64 0), Sp.is (.bool false), Sp.is (.bool false), Sp.is (.slice (some ⟨gV, 0, none⟩) (m + 1) cV), Sp.is (.int .i64 ((m : Int) + 1)), Sp.is (.bool false), Sp.is (.bool false), Sp.is (.bool false), Sp.is (.slice (some ⟨gV, 0, none⟩) (m + 1) cV), Sp.is (.slice (some ⟨gV, 0, none⟩) (m + 1) cV), Sp.is (.int .i64 ((m : Int) + 1)), Sp.is (.int .i64 (m : Int)), Sp.is (.pointer (some ⟨gV, m * 33, none⟩)), Sp.is (.agg (enC x)), Sp.is (.agg (enC x)), Sp.is (.bool false), Sp.is (.bool false), Sp.is (.bool false), Sp.is (.int .i64 0), Sp.is (.bool false), Sp.is (.bool false), Sp.is undef, Sp.is undef, Sp.is undef, Sp.is undef, Sp.is undef, Sp.is undef, Sp.is undef, Sp.is undef, Sp.is (.bool false)] [false, false, false, false, false, false, false, false, false, false, false, false, false, false, false, false, false, false, false, false, false, false, false, false, false, false, false, false, false, false] 30 (by kernel_rfl) (by kernel_rfl) (fun u F hF => ?_) (fun u w' hbF hsF hold hap => ?_)
            case refine_1 =>
              have E12 : F.eval (.tmp 12) = (.int .i64 0) := (congrArg (fun a => Act.eval a (.tmp 12)) hF).trans (eval_out [some 56, some 57, some 58, some 59, some 60, some 61, some 62, some 63, some 64, some 65, some 66, some 67, some 68, some 69, some 70, some 71, some 72, some 73, some 74, some 75, some 76, some 77, some 78, some 79, some 80, some 81, some 82, some 83, some 84, some 85] 0 _ (by decide))
              have D56 : F.eval (.tmp 56) = u 0 := (congrArg (fun a => Act.eval a (.tmp 56)) hF).trans (eval_in [some 56, some 57, some 58, some 59, some 60, some 61, some 62, some 63, some 64, some 65, some 66, some 67, some 68, some 69, some 70, some 71, some 72, some 73, some 74, some 75, some 76, some 77, some 78, some 79, some 80, some 81, some 82, some 83, some 84, some 85] 0 0 _ (by decide) (by omega) rfl (of_decide_eq_true (by kernel_rfl)))
              have D57 : F.eval (.tmp 57) = u 1 := (congrArg (fun a => Act.eval a (.tmp 57)) hF).trans (eval_in [some 56, some 57, some 58, some 59, some 60, some 61, some 62, some 63, some 64, some 65, some 66, some 67, some 68, some 69, some 70, some 71, some 72, some 73, some 74, some 75, some 76, some 77, some 78, some 79, some 80, some 81, some 82, some 83, some 84, some 85] 0 1 _ (by decide) (by omega) rfl (of_decide_eq_true (by kernel_rfl)))
              have E11 : F.eval (.tmp 11) = (.slice (some ⟨gV, 0, none⟩) (m + 1) cV) := (congrArg (fun a => Act.eval a (.tmp 11)) hF).trans (eval_out [some 56, some 57, some 58, some 59, some 60, some 61, some 62, some 63, some 64, some 65, some 66, some 67, some 68, some 69, some 70, some 71, some 72, some 73, some 74, some 75, some 76, some 77, some 78, some 79, some 80, some 81, some 82, some 83, some 84, some 85] 0 _ (by decide))
              have D58 : F.eval (.tmp 58) = u 2 := (congrArg (fun a => Act.eval a (.tmp 58)) hF).trans (eval_in [some 56, some 57, some 58, some 59, some 60, some 61, some 62, some 63, some 64, some 65, some 66, some 67, some 68, some 69, some 70, some 71, some 72, some 73, some 74, some 75, some 76, some 77, some 78, some 79, some 80, some 81, some 82, some 83, some 84, some 85] 0 2 _ (by decide) (by omega) rfl (of_decide_eq_true (by kernel_rfl)))
              have D59 : F.eval (.tmp 59) = u 3 := (congrArg (fun a => Act.eval a (.tmp 59)) hF).trans (eval_in [some 56, some 57, some 58, some 59, some 60, some 61, some 62, some 63, some 64, some 65, some 66, some 67, some 68, some 69, some 70, some 71, some 72, some 73, some 74, some 75, some 76, some 77, some 78, some 79, some 80, some 81, some 82, some 83, some 84, some 85] 0 3 _ (by decide) (by omega) rfl (of_decide_eq_true (by kernel_rfl)))
              have D60 : F.eval (.tmp 60) = u 4 := (congrArg (fun a => Act.eval a (.tmp 60)) hF).trans (eval_in [some 56, some 57, some 58, some 59, some 60, some 61, some 62, some 63, some 64, some 65, some 66, some 67, some 68, some 69, some 70, some 71, some 72, some 73, some 74, some 75, some 76, some 77, some 78, some 79, some 80, some 81, some 82, some 83, some 84, some 85] 0 4 _ (by decide) (by omega) rfl (of_decide_eq_true (by kernel_rfl)))
              have D61 : F.eval (.tmp 61) = u 5 := (congrArg (fun a => Act.eval a (.tmp 61)) hF).trans (eval_in [some 56, some 57, some 58, some 59, some 60, some 61, some 62, some 63, some 64, some 65, some 66, some 67, some 68, some 69, some 70, some 71, some 72, some 73, some 74, some 75, some 76, some 77, some 78, some 79, some 80, some 81, some 82, some 83, some 84, some 85] 0 5 _ (by decide) (by omega) rfl (of_decide_eq_true (by kernel_rfl)))
              have D62 : F.eval (.tmp 62) = u 6 := (congrArg (fun a => Act.eval a (.tmp 62)) hF).trans (eval_in [some 56, some 57, some 58, some 59, some 60, some 61, some 62, some 63, some 64, some 65, some 66, some 67, some 68, some 69, some 70, some 71, some 72, some 73, some 74, some 75, some 76, some 77, some 78, some 79, some 80, some 81, some 82, some 83, some 84, some 85] 0 6 _ (by decide) (by omega) rfl (of_decide_eq_true (by kernel_rfl)))
              have D63 : F.eval (.tmp 63) = u 7 := (congrArg (fun a => Act.eval a (.tmp 63)) hF).trans (eval_in [some 56, some 57, some 58, some 59, some 60, some 61, some 62, some 63, some 64, some 65, some 66, some 67, some 68, some 69, some 70, some 71, some 72, some 73, some 74, some 75, some 76, some 77, some 78, some 79, some 80, some 81, some 82, some 83, some 84, some 85] 0 7 _ (by decide) (by omega) rfl (of_decide_eq_true (by kernel_rfl)))
              have D65 : F.eval (.tmp 65) = u 9 := (congrArg (fun a => Act.eval a (.tmp 65)) hF).trans (eval_in [some 56, some 57, some 58, some 59, some 60, some 61, some 62, some 63, some 64, some 65, some 66, some 67, some 68, some 69, some 70, some 71, some 72, some 73, some 74, some 75, some 76, some 77, some 78, some 79, some 80, some 81, some 82, some 83, some 84, some 85] 0 9 _ (by decide) (by omega) rfl (of_decide_eq_true (by kernel_rfl)))
              have D66 : F.eval (.tmp 66) = u 10 := (congrArg (fun a => Act.eval a (.tmp 66)) hF).trans (eval_in [some 56, some 57, some 58, some 59, some 60, some 61, some 62, some 63, some 64, some 65, some 66, some 67, some 68, some 69, some 70, some 71, some 72, some 73, some 74, some 75, some 76, some 77, some 78, some 79, some 80, some 81, some 82, some 83, some 84, some 85] 0 10 _ (by decide) (by omega) rfl (of_decide_eq_true (by kernel_rfl)))
              have D64 : F.eval (.tmp 64) = u 8 := (congrArg (fun a => Act.eval a (.tmp 64)) hF).trans (eval_in [some 56, some 57, some 58, some 59, some 60, some 61, some 62, some 63, some 64, some 65, some 66, some 67, some 68, some 69, some 70, some 71, some 72, some 73, some 74, some 75, some 76, some 77, some 78, some 79, some 80, some 81, some 82, some 83, some 84, some 85] 0 8 _ (by decide) (by omega) rfl (of_decide_eq_true (by kernel_rfl)))
              have D67 : F.eval (.tmp 67) = u 11 := (congrArg (fun a => Act.eval a (.tmp 67)) hF).trans (eval_in [some 56, some 57, some 58, some 59, some 60, some 61, some 62, some 63, some 64, some 65, some 66, some 67, some 68, some 69, some 70, some 71, some 72, some 73, some 74, some 75, some 76, some 77, some 78, some 79, some 80, some 81, some 82, some 83, some 84, some 85] 0 11 _ (by decide) (by omega) rfl (of_decide_eq_true (by kernel_rfl)))
              have D68 : F.eval (.tmp 68) = u 12 := (congrArg (fun a => Act.eval a (.tmp 68)) hF).trans (eval_in [some 56, some 57, some 58, some 59, some 60, some 61, some 62, some 63, some 64, some 65, some 66, some 67, some 68, some 69, some 70, some 71, some 72, some 73, some 74, some 75, some 76, some 77, some 78, some 79, some 80, some 81, some 82, some 83, some 84, some 85] 0 12 _ (by decide) (by omega) rfl (of_decide_eq_true (by kernel_rfl)))
              have E10 : F.eval (.tmp 10) = (.pointer (some ⟨p10, 0, none⟩)) := (congrArg (fun a => Act.eval a (.tmp 10)) hF).trans (eval_out [some 56, some 57, some 58, some 59, some 60, some 61, some 62, some 63, some 64, some 65, some 66, some 67, some 68, some 69, some 70, some 71, some 72, some 73, some 74, some 75, some 76, some 77, some 78, some 79, some 80, some 81, some 82, some 83, some 84, some 85] 0 _ (by decide))
              have D69 : F.eval (.tmp 69) = u 13 := (congrArg (fun a => Act.eval a (.tmp 69)) hF).trans (eval_in [some 56, some 57, some 58, some 59, some 60, some 61, some 62, some 63, some 64, some 65, some 66, some 67, some 68, some 69, some 70, some 71, some 72, some 73, some 74, some 75, some 76, some 77, some 78, some 79, some 80, some 81, some 82, some 83, some 84, some 85] 0 13 _ (by decide) (by omega) rfl (of_decide_eq_true (by kernel_rfl)))
              have D70 : F.eval (.tmp 70) = u 14 := (congrArg (fun a => Act.eval a (.tmp 70)) hF).trans (eval_in [some 56, some 57, some 58, some 59, some 60, some 61, some 62, some 63, some 64, some 65, some 66, some 67, some 68, some 69, some 70, some 71, some 72, some 73, some 74, some 75, some 76, some 77, some 78, some 79, some 80, some 81, some 82, some 83, some 84, some 85] 0 14 _ (by decide) (by omega) rfl (of_decide_eq_true (by kernel_rfl)))
              have D71 : F.eval (.tmp 71) = u 15 := (congrArg (fun a => Act.eval a (.tmp 71)) hF).trans (eval_in [some 56, some 57, some 58, some 59, some 60, some 61, some 62, some 63, some 64, some 65, some 66, some 67, some 68, some 69, some 70, some 71, some 72, some 73, some 74, some 75, some 76, some 77, some 78, some 79, some 80, some 81, some 82, some 83, some 84, some 85] 0 15 _ (by decide) (by omega) rfl (of_decide_eq_true (by kernel_rfl)))
              have D72 : F.eval (.tmp 72) = u 16 := (congrArg (fun a => Act.eval a (.tmp 72)) hF).trans (eval_in [some 56, some 57, some 58, some 59, some 60, some 61, some 62, some 63, some 64, some 65, some 66, some 67, some 68, some 69, some 70, some 71, some 72, some 73, some 74, some 75, some 76, some 77, some 78, some 79, some 80, some 81, some 82, some 83, some 84, some 85] 0 16 _ (by decide) (by omega) rfl (of_decide_eq_true (by kernel_rfl)))
              have E9 : F.eval (.tmp 9) = (.int .i64 0) := (congrArg (fun a => Act.eval a (.tmp 9)) hF).trans (eval_out [some 56, some 57, some 58, some 59, some 60, some 61, some 62, some 63, some 64, some 65, some 66, some 67, some 68, some 69, some 70, some 71, some 72, some 73, some 74, some 75, some 76, some 77, some 78, some 79, some 80, some 81, some 82, some 83, some 84, some 85] 0 _ (by decide))
              have D73 : F.eval (.tmp 73) = u 17 := (congrArg (fun a => Act.eval a (.tmp 73)) hF).trans (eval_in [some 56, some 57, some 58, some 59, some 60, some 61, some 62, some 63, some 64, some 65, some 66, some 67, some 68, some 69, some 70, some 71, some 72, some 73, some 74, some 75, some 76, some 77, some 78, some 79, some 80, some 81, some 82, some 83, some 84, some 85] 0 17 _ (by decide) (by omega) rfl (of_decide_eq_true (by kernel_rfl)))
              have D74 : F.eval (.tmp 74) = u 18 := (congrArg (fun a => Act.eval a (.tmp 74)) hF).trans (eval_in [some 56, some 57, some 58, some 59, some 60, some 61, some 62, some 63, some 64, some 65, some 66, some 67, some 68, some 69, some 70, some 71, some 72, some 73, some 74, some 75, some 76, some 77, some 78, some 79, some 80, some 81, some 82, some 83, some 84, some 85] 0 18 _ (by decide) (by omega) rfl (of_decide_eq_true (by kernel_rfl)))
              have D75 : F.eval (.tmp 75) = u 19 := (congrArg (fun a => Act.eval a (.tmp 75)) hF).trans (eval_in [some 56, some 57, some 58, some 59, some 60, some 61, some 62, some 63, some 64, some 65, some 66, some 67, some 68, some 69, some 70, some 71, some 72, some 73, some 74, some 75, some 76, some 77, some 78, some 79, some 80, some 81, some 82, some 83, some 84, some 85] 0 19 _ (by decide) (by omega) rfl (of_decide_eq_true (by kernel_rfl)))
              have D76 : F.eval (.tmp 76) = u 20 := (congrArg (fun a => Act.eval a (.tmp 76)) hF).trans (eval_in [some 56, some 57, some 58, some 59, some 60, some 61, some 62, some 63, some 64, some 65, some 66, some 67, some 68, some 69, some 70, some 71, some 72, some 73, some 74, some 75, some 76, some 77, some 78, some 79, some 80, some 81, some 82, some 83, some 84, some 85] 0 20 _ (by decide) (by omega) rfl (of_decide_eq_true (by kernel_rfl)))
              clear hF
              refine ⟨?_, ?_, ?_, ?_, ?_, ?_, ?_, ?_, ?_, ?_, ?_, ?_, ?_, ?_, ?_, ?_, ?_, ?_, ?_, ?_, ?_, ?_, ?_, ?_, ?_, ?_, ?_, ?_, ?_, ?_, trivial⟩
              · intro w1 hb hd K hK
                have e12 := E12
                exact op_val (v := (.int .i64 0)) rfl (by simp only [execOp, List.map_toArray, List.map_cons, List.map_nil, e12]; go_simp) (hK _ _ (show _ = _ from rfl) (Below.refl _ _) (Fresh.no _ _ _))
              · intro w1 hb hd K hK
                have e56 := D56.trans (show u 0 = (.int .i64 0) from hd ⟨0, .data⟩ (by simp) rfl (by omega))
                exact op_val (v := (.bool false)) rfl (by simp only [execOp, List.map_toArray, List.map_cons, List.map_nil, e56]; go_simp) (hK _ _ (show _ = _ from rfl) (Below.refl _ _) (Fresh.no _ _ _))
              · intro w1 hb hd K hK
                have e57 := D57.trans (show u 1 = (.bool false) from hd ⟨1, .data⟩ (by simp) rfl (by omega))
                exact op_val (v := (.bool false)) rfl (by simp only [execOp, List.map_toArray, List.map_cons, List.map_nil, e57]; go_simp) (hK _ _ (show _ = _ from rfl) (Below.refl _ _) (Fresh.no _ _ _))
              · intro w1 hb hd K hK
                have e11 := E11
                have g := D58.trans (show u 2 = .bool false from hd ⟨2, .guard⟩ (by simp) rfl (by omega))
                exact op_val_w (v := (.slice (some ⟨gV, 0, none⟩) (m + 1) cV)) (wanted_of (j := 2) (s := 58) (b := false) (by kernel_rfl) (by kernel_rfl) g) (by simp only [execOp, List.map_toArray, List.map_cons, List.map_nil, e11]; go_simp) (hK _ _ (show _ = _ from rfl) (Below.refl _ _) (Fresh.no _ _ _))
              · intro w1 hb hd K hK
                have e59 := D59.trans (show u 3 = (.slice (some ⟨gV, 0, none⟩) (m + 1) cV) from hd ⟨3, .data⟩ (by simp) rfl (by omega))
                have g := D58.trans (show u 2 = .bool false from hd ⟨2, .guard⟩ (by simp) rfl (by omega))
                exact op_val_w (v := (.int .i64 ((m : Int) + 1))) (wanted_of (j := 2) (s := 58) (b := false) (by kernel_rfl) (by kernel_rfl) g) ((exec_len Tryz.underlying40 rfl e59).trans (by rw [show ((m + 1 : Nat) : Int) = (m : Int) + 1 by omega])) (hK _ _ (show _ = _ from rfl) (Below.refl _ _) (Fresh.no _ _ _))
              · intro w1 hb hd K hK
                have e60 := D60.trans (show u 4 = (.int .i64 ((m : Int) + 1)) from hd ⟨4, .data⟩ (by simp) rfl (by omega))
                have g := D58.trans (show u 2 = .bool false from hd ⟨2, .guard⟩ (by simp) rfl (by omega))
                exact op_val_w (v := (.bool false)) (wanted_of (j := 2) (s := 58) (b := false) (by kernel_rfl) (by kernel_rfl) g) (by simp only [execOp, List.map_toArray, List.map_cons, List.map_nil, e60]; go_simp) (hK _ _ (show _ = _ from rfl) (Below.refl _ _) (Fresh.no _ _ _))
              · intro w1 hb hd K hK
                have e58 := D58.trans (show u 2 = (.bool false) from hd ⟨2, .data⟩ (by simp) rfl (by omega))
                have e61 := D61.trans (show u 5 = (.bool false) from hd ⟨5, .data⟩ (by simp) rfl (by omega))
                exact op_val (v := (.bool false)) rfl (by simp only [execOp, List.map_toArray, List.map_cons, List.map_nil, e58, e61]; go_simp) (hK _ _ (show _ = _ from rfl) (Below.refl _ _) (Fresh.no _ _ _))
              · intro w1 hb hd K hK
                have e62 := D62.trans (show u 6 = (.bool false) from hd ⟨6, .data⟩ (by simp) rfl (by omega))
                exact op_val (v := (.bool false)) rfl (by simp only [execOp, List.map_toArray, List.map_cons, List.map_nil, e62]; go_simp) (hK _ _ (show _ = _ from rfl) (Below.refl _ _) (Fresh.no _ _ _))
              · intro w1 hb hd K hK
                have e11 := E11
                have g := D63.trans (show u 7 = .bool false from hd ⟨7, .guard⟩ (by simp) rfl (by omega))
                exact op_val_w (v := (.slice (some ⟨gV, 0, none⟩) (m + 1) cV)) (wanted_of (j := 7) (s := 63) (b := false) (by kernel_rfl) (by kernel_rfl) g) (by simp only [execOp, List.map_toArray, List.map_cons, List.map_nil, e11]; go_simp) (hK _ _ (show _ = _ from rfl) (Below.refl _ _) (Fresh.no _ _ _))
              · intro w1 hb hd K hK
                have e11 := E11
                have g := D63.trans (show u 7 = .bool false from hd ⟨7, .guard⟩ (by simp) rfl (by omega))
                exact op_val_w (v := (.slice (some ⟨gV, 0, none⟩) (m + 1) cV)) (wanted_of (j := 7) (s := 63) (b := false) (by kernel_rfl) (by kernel_rfl) g) (by simp only [execOp, List.map_toArray, List.map_cons, List.map_nil, e11]; go_simp) (hK _ _ (show _ = _ from rfl) (Below.refl _ _) (Fresh.no _ _ _))
              · intro w1 hb hd K hK
                have e65 := D65.trans (show u 9 = (.slice (some ⟨gV, 0, none⟩) (m + 1) cV) from hd ⟨9, .data⟩ (by simp) rfl (by omega))
                have g := D63.trans (show u 7 = .bool false from hd ⟨7, .guard⟩ (by simp) rfl (by omega))
                exact op_val_w (v := (.int .i64 ((m : Int) + 1))) (wanted_of (j := 7) (s := 63) (b := false) (by kernel_rfl) (by kernel_rfl) g) ((exec_len Tryz.underlying40 rfl e65).trans (by rw [show ((m + 1 : Nat) : Int) = (m : Int) + 1 by omega])) (hK _ _ (show _ = _ from rfl) (Below.refl _ _) (Fresh.no _ _ _))
              · intro w1 hb hd K hK
                have e66 := D66.trans (show u 10 = (.int .i64 ((m : Int) + 1)) from hd ⟨10, .data⟩ (by simp) rfl (by omega))
                have g := D63.trans (show u 7 = .bool false from hd ⟨7, .guard⟩ (by simp) rfl (by omega))
                exact op_val_w (v := (.int .i64 (m : Int))) (wanted_of (j := 7) (s := 63) (b := false) (by kernel_rfl) (by kernel_rfl) g) (by simp only [execOp, List.map_toArray, List.map_cons, List.map_nil, e66]; go_simp) (hK _ _ (show _ = _ from rfl) (Below.refl _ _) (Fresh.no _ _ _))
              · intro w1 hb hd K hK
                have e64 := D64.trans (show u 8 = (.slice (some ⟨gV, 0, none⟩) (m + 1) cV) from hd ⟨8, .data⟩ (by simp) rfl (by omega))
                have e67 := D67.trans (show u 11 = (.int .i64 (m : Int)) from hd ⟨11, .data⟩ (by simp) rfl (by omega))
                have g := D63.trans (show u 7 = .bool false from hd ⟨7, .guard⟩ (by simp) rfl (by omega))
                exact op_val_w (v := (.pointer (some ⟨gV, m * 33, none⟩))) (wanted_of (j := 7) (s := 63) (b := false) (by kernel_rfl) (by kernel_rfl) g) (by simp only [execOp, List.map_toArray, List.map_cons, List.map_nil, e64, e67]; go_simp) (hK _ _ (show _ = _ from rfl) (Below.refl _ _) (Fresh.no _ _ _))
              · intro w1 hb hd K hK
                have e68 := D68.trans (show u 12 = (.pointer (some ⟨gV, m * 33, none⟩)) from hd ⟨12, .data⟩ (by simp) rfl (by omega))
                have g := D63.trans (show u 7 = .bool false from hd ⟨7, .guard⟩ (by simp) rfl (by omega))
                exact op_val_w (v := (.agg (enC x))) (wanted_of (j := 7) (s := 63) (b := false) (by kernel_rfl) (by kernel_rfl) g) (exec_load rfl e68 (LV.out w1 hb)) (hK _ _ (show _ = _ from rfl) (Below.refl _ _) (Fresh.no _ _ _))
              · intro w1 hb hd K hK
                have e10 := E10
                have g := D63.trans (show u 7 = .bool false from hd ⟨7, .guard⟩ (by simp) rfl (by omega))
                exact op_val_w (v := (.agg (enC x))) (wanted_of (j := 7) (s := 63) (b := false) (by kernel_rfl) (by kernel_rfl) g) (exec_load rfl e10 (loadAt_blk (HJ7.out.bx.keep hb HJ7.out.bx.lt) Tryz.underlying34 rfl (by rw [enC_size]; kernel_rfl))) (hK _ _ (show _ = _ from rfl) (Below.refl _ _) (Fresh.no _ _ _))
              · intro w1 hb hd K hK
                have e69 := D69.trans (show u 13 = (.agg (enC x)) from hd ⟨13, .data⟩ (by simp) rfl (by omega))
                have e70 := D70.trans (show u 14 = (.agg (enC x)) from hd ⟨14, .data⟩ (by simp) rfl (by omega))
                have g := D63.trans (show u 7 = .bool false from hd ⟨7, .guard⟩ (by simp) rfl (by omega))
                exact op_val_w (v := (.bool false)) (wanted_of (j := 7) (s := 63) (b := false) (by kernel_rfl) (by kernel_rfl) g) (exec_bin rfl e69 e70 (by kernel_rfl) (neX w1)) (hK _ _ (show _ = _ from rfl) (Below.refl _ _) (Fresh.no _ _ _))
              · intro w1 hb hd K hK
                have e63 := D63.trans (show u 7 = (.bool false) from hd ⟨7, .data⟩ (by simp) rfl (by omega))
                have e71 := D71.trans (show u 15 = (.bool false) from hd ⟨15, .data⟩ (by simp) rfl (by omega))
                exact op_val (v := (.bool false)) rfl (by simp only [execOp, List.map_toArray, List.map_cons, List.map_nil, e63, e71]; go_simp) (hK _ _ (show _ = _ from rfl) (Below.refl _ _) (Fresh.no _ _ _))
              · intro w1 hb hd K hK
                have e72 := D72.trans (show u 16 = (.bool false) from hd ⟨16, .data⟩ (by simp) rfl (by omega))
                exact op_val (v := (.bool false)) rfl (by simp only [execOp, List.map_toArray, List.map_cons, List.map_nil, e72]; go_simp) (hK _ _ (show _ = _ from rfl) (Below.refl _ _) (Fresh.no _ _ _))
              · intro w1 hb hd K hK
                have e9 := E9
                have g := D73.trans (show u 17 = .bool false from hd ⟨17, .guard⟩ (by simp) rfl (by omega))
                exact op_val_w (v := (.int .i64 0)) (wanted_of (j := 17) (s := 73) (b := false) (by kernel_rfl) (by kernel_rfl) g) (by simp only [execOp, List.map_toArray, List.map_cons, List.map_nil, e9]; go_simp) (hK _ _ (show _ = _ from rfl) (Below.refl _ _) (Fresh.no _ _ _))
              · intro w1 hb hd K hK
                have e74 := D74.trans (show u 18 = (.int .i64 0) from hd ⟨18, .data⟩ (by simp) rfl (by omega))
                have g := D73.trans (show u 17 = .bool false from hd ⟨17, .guard⟩ (by simp) rfl (by omega))
                exact op_val_w (v := (.bool false)) (wanted_of (j := 17) (s := 73) (b := false) (by kernel_rfl) (by kernel_rfl) g) (by simp only [execOp, List.map_toArray, List.map_cons, List.map_nil, e74]; go_simp) (hK _ _ (show _ = _ from rfl) (Below.refl _ _) (Fresh.no _ _ _))
              · intro w1 hb hd K hK
                have e75 := D75.trans (show u 19 = (.bool false) from hd ⟨19, .data⟩ (by simp) rfl (by omega))
                have g := D73.trans (show u 17 = .bool false from hd ⟨17, .guard⟩ (by simp) rfl (by omega))
                exact op_val_w (v := (.bool false)) (wanted_of (j := 17) (s := 73) (b := false) (by kernel_rfl) (by kernel_rfl) g) (by simp only [execOp, List.map_toArray, List.map_cons, List.map_nil, e75]; go_simp) (hK _ _ (show _ = _ from rfl) (Below.refl _ _) (Fresh.no _ _ _))
              · intro w1 hb hd K hK
                have g := D76.trans (show u 20 = .bool false from hd ⟨20, .guard⟩ (by simp) rfl (by omega))
                exact op_pass (unwanted_of (j := 20) (s := 76) (b := true) (by kernel_rfl) (by kernel_rfl) g) (hK _ _ (show _ = _ from rfl) (Below.refl _ _) (Fresh.no _ _ _))
              · intro w1 hb hd K hK
                have g := D76.trans (show u 20 = .bool false from hd ⟨20, .guard⟩ (by simp) rfl (by omega))
                exact op_pass (unwanted_of (j := 20) (s := 76) (b := true) (by kernel_rfl) (by kernel_rfl) g) (hK _ _ (show _ = _ from rfl) (Below.refl _ _) (Fresh.no _ _ _))
              · intro w1 hb hd K hK
                have g := D76.trans (show u 20 = .bool false from hd ⟨20, .guard⟩ (by simp) rfl (by omega))
                exact op_pass (unwanted_of (j := 20) (s := 76) (b := true) (by kernel_rfl) (by kernel_rfl) g) (hK _ _ (show _ = _ from rfl) (Below.refl _ _) (Fresh.no _ _ _))
              · intro w1 hb hd K hK
                have g := D76.trans (show u 20 = .bool false from hd ⟨20, .guard⟩ (by simp) rfl (by omega))
                exact op_pass (unwanted_of (j := 20) (s := 76) (b := true) (by kernel_rfl) (by kernel_rfl) g) (hK _ _ (show _ = _ from rfl) (Below.refl _ _) (Fresh.no _ _ _))
              · intro w1 hb hd K hK
                have g := D76.trans (show u 20 = .bool false from hd ⟨20, .guard⟩ (by simp) rfl (by omega))
                exact op_pass (unwanted_of (j := 20) (s := 76) (b := true) (by kernel_rfl) (by kernel_rfl) g) (hK _ _ (show _ = _ from rfl) (Below.refl _ _) (Fresh.no _ _ _))
              · intro w1 hb hd K hK
                have g := D76.trans (show u 20 = .bool false from hd ⟨20, .guard⟩ (by simp) rfl (by omega))
                exact op_pass (unwanted_of (j := 20) (s := 76) (b := true) (by kernel_rfl) (by kernel_rfl) g) (hK _ _ (show _ = _ from rfl) (Below.refl _ _) (Fresh.no _ _ _))
              · intro w1 hb hd K hK
                have g := D76.trans (show u 20 = .bool false from hd ⟨20, .guard⟩ (by simp) rfl (by omega))
                exact op_pass (unwanted_of (j := 20) (s := 76) (b := true) (by kernel_rfl) (by kernel_rfl) g) (hK _ _ (show _ = _ from rfl) (Below.refl _ _) (Fresh.no _ _ _))
              · intro w1 hb hd K hK
                have g := D76.trans (show u 20 = .bool false from hd ⟨20, .guard⟩ (by simp) rfl (by omega))
                exact op_pass (unwanted_of (j := 20) (s := 76) (b := true) (by kernel_rfl) (by kernel_rfl) g) (hK _ _ (show _ = _ from rfl) (Below.refl _ _) (Fresh.no _ _ _))
              · intro w1 hb hd K hK
                have e76 := D76.trans (show u 20 = (.bool false) from hd ⟨20, .data⟩ (by simp) rfl (by omega))
                have g := D73.trans (show u 17 = .bool false from hd ⟨17, .guard⟩ (by simp) rfl (by omega))
                exact op_val_w (v := (.bool false)) (wanted_of (j := 17) (s := 73) (b := false) (by kernel_rfl) (by kernel_rfl) g) (by simp only [execOp, List.map_toArray, List.map_cons, List.map_nil, e76]; go_simp) (hK _ _ (show _ = _ from rfl) (Below.refl _ _) (Fresh.no _ _ _))
            have hv56 : u 0 = (.int .i64 0) := (show u 0 = _ from hsF 0 (by omega) (by omega))
            have hv57 : u 1 = (.bool false) := (show u 1 = _ from hsF 1 (by omega) (by omega))
            have hv58 : u 2 = (.bool false) := (show u 2 = _ from hsF 2 (by omega) (by omega))
            have hv59 : u 3 = (.slice (some ⟨gV, 0, none⟩) (m + 1) cV) := (show u 3 = _ from hsF 3 (by omega) (by omega))
            have hv60 : u 4 = (.int .i64 ((m : Int) + 1)) := (show u 4 = _ from hsF 4 (by omega) (by omega))
            have hv61 : u 5 = (.bool false) := (show u 5 = _ from hsF 5 (by omega) (by omega))
            have hv62 : u 6 = (.bool false) := (show u 6 = _ from hsF 6 (by omega) (by omega))
            have hv63 : u 7 = (.bool false) := (show u 7 = _ from hsF 7 (by omega) (by omega))
            have hv64 : u 8 = (.slice (some ⟨gV, 0, none⟩) (m + 1) cV) := (show u 8 = _ from hsF 8 (by omega) (by omega))
            have hv65 : u 9 = (.slice (some ⟨gV, 0, none⟩) (m + 1) cV) := (show u 9 = _ from hsF 9 (by omega) (by omega))
            have hv66 : u 10 = (.int .i64 ((m : Int) + 1)) := (show u 10 = _ from hsF 10 (by omega) (by omega))
            have hv67 : u 11 = (.int .i64 (m : Int)) := (show u 11 = _ from hsF 11 (by omega) (by omega))
            have hv68 : u 12 = (.pointer (some ⟨gV, m * 33, none⟩)) := (show u 12 = _ from hsF 12 (by omega) (by omega))
            have hv69 : u 13 = (.agg (enC x)) := (show u 13 = _ from hsF 13 (by omega) (by omega))
            have hv70 : u 14 = (.agg (enC x)) := (show u 14 = _ from hsF 14 (by omega) (by omega))
            have hv71 : u 15 = (.bool false) := (show u 15 = _ from hsF 15 (by omega) (by omega))
            have hv72 : u 16 = (.bool false) := (show u 16 = _ from hsF 16 (by omega) (by omega))
            have hv73 : u 17 = (.bool false) := (show u 17 = _ from hsF 17 (by omega) (by omega))
            have hv74 : u 18 = (.int .i64 0) := (show u 18 = _ from hsF 18 (by omega) (by omega))
            have hv75 : u 19 = (.bool false) := (show u 19 = _ from hsF 19 (by omega) (by omega))
            have hv76 : u 20 = (.bool false) := (show u 20 = _ from hsF 20 (by omega) (by omega))
            have hv77 : u 21 = undef := (show u 21 = _ from hsF 21 (by omega) (by omega))
            have hv78 : u 22 = undef := (show u 22 = _ from hsF 22 (by omega) (by omega))
            have hv79 : u 23 = undef := (show u 23 = _ from hsF 23 (by omega) (by omega))
            have hv80 : u 24 = undef := (show u 24 = _ from hsF 24 (by omega) (by omega))
            have hv81 : u 25 = undef := (show u 25 = _ from hsF 25 (by omega) (by omega))
            have hv82 : u 26 = undef := (show u 26 = _ from hsF 26 (by omega) (by omega))
            have hv83 : u 27 = undef := (show u 27 = _ from hsF 27 (by omega) (by omega))
            have hv84 : u 28 = undef := (show u 28 = _ from hsF 28 (by omega) (by omega))
            have hv85 : u 29 = (.bool false) := (show u 29 = _ from hsF 29 (by omega) (by omega))
            simp only [putRow, hv56, hv57, hv58, hv59, hv60, hv61, hv62, hv63, hv64, hv65, hv66, hv67, hv68, hv69, hv70, hv71, hv72, hv73, hv74, hv75, hv76, hv77, hv78, hv79, hv80, hv81, hv82, hv83, hv84, hv85, Act.put, List.setIfInBounds_toArray, List.set_cons_succ, List.set_cons_zero]
            clear hsF hold hap hv56 hv57 hv58 hv59 hv60 hv61 hv62 hv63 hv64 hv65 hv66 hv67 hv68 hv69 hv70 hv71 hv72 hv73 hv74 hv75 hv76 hv77 hv78 hv79 hv80 hv81 hv82 hv83 hv84 hv85
            have HJ8 := Lib.hid (HJ7.out.keep hbF)
            clear HJ7 hbF
            refine rest_forced 1 (by kernel_rfl) ?_
            simp only [List.drop_succ_cons, List.drop_zero, List.take_succ_cons, List.take_zero]
            go_wp2_with fail
            refine rest_done rfl ?_
            go_wp2_with fail
            go_meet
            exact ⟨rfl, HJ8⟩
        case rest =>
          obtain ⟨rfl, HJ8⟩ := hcut
          clear HJ6 HXP HVL HLX
          go_wp2_with fail
          go_loopw [89] (fun s89 wr => ∃ j : Nat, j ≤ m + 1 ∧ s89 = .int .i64 (j : Int) ∧ Hid (CJ w px y (.slice AS nS cS) (.slice (some ⟨bc, oc, none⟩) nC cC) S C p10 x (.slice (some ⟨gV, 0, none⟩) (m + 1) cV) V wr)) (fun s89 _ => m + 1 - (intOf s89).toNat)
          case atStart => exact ⟨0, Nat.zero_le _, rfl, HJ8⟩
          case round =>
            clear HJ8
            obtain ⟨j, hj, rfl, HJ9⟩ := hrel
            by_cases hlj : j < m + 1
            · have u2 : decide ((j : Int) < (m : Int) + 1) = true := decide_eq_true (by omega)
              obtain ⟨z, hz⟩ : ∃ z, V[j]? = some z := ⟨_, List.getElem?_eq_getElem (by rw [HMV.out]; exact hlj)⟩
              obtain ⟨f1, f2, f3, f4, f5, f6⟩ := HVF.out z (List.mem_of_getElem? hz)
              have hzi := HS.out.2.1 z f6
              have CP := Lib.hid (fun W => cmpE_any z x hzi HXI.out W)
              have lo : (Instr.loadAt 34 (.pointer (some ⟨gV, j * 33, none⟩))).run Tryz.prog wr = .ok (.agg (enC z)) wr := by
                have := HJ9.out.v.load hz (Below.refl _ _)
                rwa [Nat.zero_add] at this
              have j0 : (0 : Int) ≤ (j : Int) := by omega
              have j1 : (j : Int) < (m : Int) + 1 := by omega
              have j2 : ¬ (m : Int) + 1 ≤ (j : Int) := by omega
              have j3 : ¬ m + 1 ≤ j := by omega
              have e2 : IntKind.i64.wrap ((j : Int) + 1) = (j : Int) + 1 := IntWalk.i64_in _ (by omega)
              have st := storeAt_row (T := 34) (C := enC z) (Blk.new wr 34 (enC zE)) (by rw [enC_size]; kernel_rfl) (by simp only [enC_size]) (enC_one z)
              rw [setRow_new, zE_lit] at st
              have HLJ := Lib.hid hlj
              obtain ⟨c, hc⟩ : ∃ c, cmpE z x = c := ⟨_, rfl⟩
              rw [hc] at CP f4
              clear hz hzi hlj f6 hc
              go_upto_region 17 with (first
                | (refine op_load (p := .pointer (some ⟨gV, j * 33, none⟩)) (C := .agg (enC z)) 34 (.tmp 91) rfl rfl rfl lo ?_)
                | (refine op_store (p := .pointer (some ⟨wr.heap.size, 0, none⟩)) (C := .agg (enC z)) 34 (.tmp 14) (.tmp 92) rfl rfl rfl rfl rfl st ?_))
              have HJ10 := Lib.hid (HJ9.out.keep (below1 wr (.cells (enC z) 34)))
              have HB10 := Lib.hid (Blk.new wr 34 (enC z))
              clear lo st HJ9 j0 j1 j2 j3
              generalize wr.alloc (.cells (enC z) 34) = W9 at *
              obtain ⟨p14, hp14⟩ : ∃ p14, wr.heap.size = p14 := ⟨_, rfl⟩
              rw [hp14] at HB10 ⊢
              clear hp14
              clear wr
              have y0 : W9.cell? ⟨p14, 0, none⟩ = some (.int .i64 x.rd) := by rw [← f1]; exact HB10.out.cell (enC_rd z)
              have y1 : W9.cell? ⟨p14, 1, none⟩ = some (.int .i64 x.tb) := by rw [← f2]; exact HB10.out.cell (enC_tb z)
              have y2 : W9.cell? ⟨p14, 2, none⟩ = some (.int .i64 x.bd) := by rw [← f3]; exact HB10.out.cell (enC_bd z)
              have x0 := HJ10.out.bx.cell (enC_rd x)
              have x1 := HJ10.out.bx.cell (enC_tb x)
              have x2 := HJ10.out.bx.cell (enC_bd x)
              have lz := loadAt_blk HB10.out Tryz.underlying34 rfl (by rw [enC_size]; kernel_rfl)
              have lx := loadAt_blk HJ10.out.bx Tryz.underlying34 rfl (by rw [enC_size]; kernel_rfl)
              have b0 : (x.rd != x.rd) = false := by simp
              have b1 : (x.tb != x.tb) = false := by simp
              have b2 : (x.bd != x.bd) = false := by simp
              have b4 : decide (0 < c) = false := decide_eq_false (by omega)
              have HF5 := Lib.hid f5
              clear f1 f2 f3 f4 f5
              go_wp2_with (first
                | (guard_target =~ wpList _ _ _ (⟨some 113, _, _, _, _, _⟩ :: _) _ _; refine op_load_w (p := .pointer (some ⟨p14, 0, none⟩)) (C := .agg (enC z)) 34 (.tmp 14) (by kernel_rfl) rfl rfl lz ?_)
                | (guard_target =~ wpList _ _ _ (⟨some 114, _, _, _, _, _⟩ :: _) _ _; refine op_load_w (p := .pointer (some ⟨p10, 0, none⟩)) (C := .agg (enC x)) 34 (.tmp 10) (by kernel_rfl) rfl rfl lx ?_))
              refine (CP.out _).mono ?_
              rintro r w10 ⟨rfl, hb⟩
              have HJ11 := Lib.hid (HJ10.out.keep hb)
              have HB11 := Lib.hid (HB10.out.keep hb HB10.out.lt)
              clear y0 y1 y2 x0 x1 x2 lz lx b0 b1 b2 HJ10 HB10 hb CP
              clear W9
              have y3 := HB11.out.cell (enC_vs z)
              have x3 := HJ11.out.bx.cell (enC_vs x)
              have b3 : decide (x.vs < z.vs) = false := decide_eq_false (by have := HF5.out; omega)
              go_wp2_with fail
              go_roundw
              case rel => exact ⟨j + 1, HLJ.out, by simp, HJ11⟩
              case measure => have := HLJ.out; simp only [intOf]; omega
            · obtain rfl : j = m + 1 := by omega
              have u2 : decide (((m + 1 : Nat) : Int) < (m : Int) + 1) = false := decide_eq_false (by omega)
              have t1 := HSM.out
              have t2 := HSL.out
              have t3 := HS.out.2.2
              have e1 : IntKind.i64.wrap (((sumV S k : Nat) : Int) + ((m : Int) + 1)) = ((sumV S k : Nat) : Int) + ((m : Int) + 1) := IntWalk.i64_in _ (by omega)
              have e2 : IntKind.i64.wrap ((k : Int) + 1) = (k : Int) + 1 := IntWalk.i64_in _ (by omega)
              clear hlj t1 t2 t3
              go_wp2_with fail
              go_roundw
              case rel => exact ⟨k + 1, HK.out.1, by rw [HSM.out]; simp, by simp, HJ9.out.ci⟩
              case measure => have := HK.out.1; simp only [intOf]; omega
    · obtain rfl : k = nC := by omega
      have MX := Lib.hid (fun W => made_any y HY.out W)
      have u1 : decide ((k : Int) < (k : Int)) = false := decide_eq_false (by omega)
      have hsum : sumV S k = nS := by
        rw [← HNC.out, ← HC.out, sumV_all HS.out.1, HNS.out]
      rw [hsum]
      have n0 : ((nS : Int) != (nS : Int)) = false := by simp
      obtain ⟨e, he⟩ : ∃ e, madeE y = e := ⟨_, rfl⟩
      have HEI : Hid e.In := Lib.hid (by rw [← he]; exact made_in y)
      rw [he] at MX
      have lx := loadAt_blk (T := 61) HC4.out.bx Tryz.underlying61 rfl (by kernel_rfl)
      have hSb := HS.out.1
      have hCb : setB C = true := by rw [← HC.out]; exact setB_count S hSb
      have hCin : ∀ e ∈ C, e.In := fun e he => HS.out.2.1 e (count_sub e S (by rw [HC.out]; exact he))
      obtain ⟨N, hN⟩ : ∃ N, countP (setL (S ++ [e])) = N := ⟨_, rfl⟩
      have hWin : ∀ z ∈ setL (S ++ [e]), z.In := setL_in (fun z hz => by
        rcases List.mem_append.1 hz with h | h
        · exact HS.out.2.1 z h
        · rw [List.mem_singleton.1 h]; exact HEI.out)
      have hWn : (setL (S ++ [e])).length ≤ 61 := by
        have := setL_len (S ++ [e])
        have := HS.out.2.2
        simp at *
        omega
      have CO := Lib.hid (fun u W h => counting_any (setL (S ++ [e])) hWin (by omega) u W h)
      rw [show cntL (setL (S ++ [e])) = N by unfold cntL; rw [setB_setL, if_pos rfl, hN], setB_setL, if_pos rfl] at CO
      have hNin : ∀ z ∈ N, z.In := fun z hz => hWin z (count_sub z _ (by rw [hN]; exact hz))
      have hNn : N.length ≤ 61 := by rw [← hN]; exact Nat.le_trans (count_len _) hWn
      have ME := Lib.hid (fun v W h => merge_any [S, [e]] (fun l hl z hz => by
        rcases List.mem_cons.1 hl with rfl | hl
        · exact HS.out.2.1 z hz
        · obtain rfl : l = [e] := by simpa using hl
          rw [List.mem_singleton.1 hz]; exact HEI.out) (by have := HS.out.2.2; simp; omega) (by show 2 ≤ 1000000; omega) v W h)
      rw [show mergL [S, [e]] = setL (S ++ [e]) by unfold mergL; simp [hSb, setB], show mergC [S, [e]] = 0 by unfold mergC; simp [hSb, setB]] at ME
      have VE := Lib.hid (fun u W h => versions_any C hCin (by have := HCL.out; have := HNC.out; omega) e.rd e.tb e.bd u W h)
      rw [show versL C e.rd e.tb e.bd = versP C e by unfold versL; rw [hCb, if_pos rfl]; exact versP_key C e, hCb, if_pos rfl] at VE
      have SM := Lib.hid (fun v u W h1 h2 => sameEn_any N C hNin hCin (by omega) v u W h1 h2)
      have HWAS := Lib.hid (was_le hSb e)
      rw [HC.out] at HWAS
      have HMS := Lib.hid (fun z h => more_same hSb e z h)
      have HMN := Lib.hid (fun h => more_new hSb e h)
      rw [HC.out, hN] at HMS HMN
      have HCI := Lib.hid hCin
      have HNN := Lib.hid hNn
      clear hSb hCb hCin hWin hWn hNin hNn hlt hsum he hN
      go_wp2_with (refine op_load (p := .pointer (some ⟨px, 0, none⟩)) (C := .agg (smC y)) 61 (.tmp 3) rfl rfl rfl lx ?_)
      refine (MX.out _).mono ?_
      rintro r w5 ⟨rfl, hb⟩
      have HC5 := Lib.hid ((HC4.out.keep hb).keep (below1 w5 (.cells (enC e) 34)))
      have HE5 := Lib.hid (Blk.new w5 34 (enC e))
      have st := storeAt_row (T := 34) (C := enC e) (Blk.new w5 34 (enC zE)) (by rw [enC_size]; kernel_rfl) (by simp only [enC_size]) (enC_one e)
      rw [setRow_new, zE_lit] at st
      clear lx HC4 hb MX n0
      go_upto_region 25 with (refine op_store (p := .pointer (some ⟨w5.heap.size, 0, none⟩)) (C := .agg (enC e)) 34 (.tmp 15) (.tmp 136) rfl rfl rfl rfl rfl st ?_)
      clear st
      generalize w5.alloc (.cells (enC e) 34) = W5 at *
      obtain ⟨p15, hp15⟩ : ∃ p15, w5.heap.size = p15 := ⟨_, rfl⟩
      rw [hp15] at HE5 ⊢
      clear hp15
      clear w5
      have le := loadAt_blk HE5.out Tryz.underlying34 rfl (by rw [enC_size]; kernel_rfl)
      have HC6 := Lib.hid (HC5.out.keep (below1 W5 (.cells (flat enC [e]).toArray 34)))
      have HE6 := Lib.hid (HE5.out.alloc (.cells (flat enC [e]).toArray 34))
      have HS6 : Hid (ES (W5.alloc (.cells (flat enC [e]).toArray 34)) (.slice (some ⟨W5.heap.size, 0, none⟩) 1 1) [e]) := Lib.hid (EB.ls (T := []) (M := [e]) (c := 1) (by
        show Blk _ _ _ _
        rw [List.append_nil]
        exact Blk.new W5 34 (flat enC [e]).toArray) (Nat.le_refl _))
      go_wp2_with (first
        | (refine op_load (p := .pointer (some ⟨p15, 0, none⟩)) (C := .agg (enC e)) 34 (.tmp 15) rfl rfl rfl le ?_)
        | (refine op_bsl 40 34 1 _ (flat enC [e]).toArray rfl rfl (by kernel_rfl) ?_))
      have HL6 : Hid (LLS ((W5.alloc (.cells (flat enC [e]).toArray 34)).alloc (.cells #[.slice AS nS cS, .slice (some ⟨W5.heap.size, 0, none⟩) 1 1] 40)) (.slice (some ⟨W5.heap.size + 1, 0, none⟩) 2 2) [S, [e]]) := Lib.hid (by
        have h := LLS.new (W5.alloc (.cells (flat enC [e]).toArray 34)) [.slice AS nS cS, .slice (some ⟨W5.heap.size, 0, none⟩) 1 1] [S, [e]] rfl (fun i v l hv hl => by
          match i, hv, hl with
          | 0, hv, hl => cases hv; cases hl; exact HC6.out.s
          | 1, hv, hl => cases hv; cases hl; exact HS6.out
          | i + 2, hv, hl => simp at hl)
        rw [size_al] at h
        exact h)
      have HC7 := Lib.hid (HC6.out.keep (below1 (W5.alloc (.cells (flat enC [e]).toArray 34)) (.cells #[.slice AS nS cS, .slice (some ⟨W5.heap.size, 0, none⟩) 1 1] 40)))
      have HE7 := Lib.hid (HE6.out.alloc (.cells #[.slice AS nS cS, .slice (some ⟨W5.heap.size, 0, none⟩) 1 1] 40))
      refine (ME.out _ _ HL6.out).mono ?_
      rintro r w8 ⟨uw, rfl, hown, hb⟩
      have HC8 := Lib.hid (HC7.out.keep hb)
      have HE8 := Lib.hid (HE7.out.keep hb HE7.out.lt)
      have HW8 := Lib.hid hown.es
      clear le HC5 HE5 HC6 HE6 HS6 HL6 HC7 HE7 hown hb ME
      obtain ⟨AW8, cW8, rfl, -⟩ := HW8.out.len
      have wz : IntKind.i64.wrap 0 = 0 := by decide
      go_wp2_with fail
      refine (CO.out _ _ HW8.out).mono ?_
      rintro r w9 ⟨un, rfl, hown, hb⟩
      have HC9 := Lib.hid (HC8.out.keep hb)
      have HE9 := Lib.hid (HE8.out.keep hb HE8.out.lt)
      have HN9 := Lib.hid (ls_of_own (enc := enC) (sz := 33) enC_size hown)
      obtain ⟨AN, cN, rfl⟩ := own_slice3 hown
      obtain ⟨nN, hnN⟩ : ∃ nN, N.length = nN := ⟨_, rfl⟩
      rw [hnN] at HN9 HMN HNN ⊢
      clear HC8 HE8 HW8 hown hb CO hnN
      clear w8
      have x0 := HE9.out.cell (enC_rd e)
      have x1 := HE9.out.cell (enC_tb e)
      have x2 := HE9.out.cell (enC_bd e)
      go_wp2_with fail
      refine (VE.out _ _ HC9.out.c).mono ?_
      rintro r w10 ⟨uq, rfl, hown, hb⟩
      have HC10 := Lib.hid (HC9.out.keep hb)
      have HE10 := Lib.hid (HE9.out.keep hb HE9.out.lt)
      have HN10 := Lib.hid (HN9.out.keep hb)
      have HQ10 := Lib.hid (ls_of_own (enc := enC) (sz := 33) enC_size hown)
      obtain ⟨AQ, cQ, rfl⟩ := own_slice3 hown
      clear x0 x1 x2 HC9 HE9 HN9 hown hb VE wz
      clear w9
      go_upto_region 30 with fail
      have HC11 := Lib.hid (HC10.out.keep (Below.refl _ w10).drew)
      have HE11 : Hid (Blk w10.drew p15 34 (enC e)) := HE10
      have HN11 := Lib.hid (HN10.out.keep (Below.refl _ w10).drew)
      have HQ11 := Lib.hid (HQ10.out.keep (Below.refl _ w10).drew)
      refine rest_begin (by kernel_rfl) ?_
      obtain ⟨W0, hW0⟩ : ∃ W0, w10.drew = W0 := ⟨_, rfl⟩
      rw [hW0] at HC11 HE11 HN11 HQ11 ⊢
      clear hW0 HC10 HE10 HN10 HQ10
      clear w10
      rcases HWAS.out with hwas | ⟨z, hwas⟩
      · obtain ⟨hm1, hm2⟩ := HMN.out hwas
        have HNE := Lib.hid hm1
        rw [hwas] at HQ11 ⊢
        rw [show ([] : List En).length = 0 from rfl] at HQ11 ⊢
        have hnn : nN = k + 1 := by rw [hm2, HNC.out]
        clear hwas hm1 hm2 HWAS HMS HMN
        subst hnn
        have i0 : ((0 : Int) == 1) = false := rfl
        refine rest_flow3 [some 165, some 166, some 167, some 168, some 169, some 170, some 171, some 172, some 173, some 174, some 175] [Sp.is (.slice AQ 0 cQ), Sp.is (.int .i64 0), Sp.is (.bool false), Sp.is (.bool false), Sp.is undef, Sp.is undef, Sp.is undef, Sp.is undef, Sp.is undef, Sp.is undef, Sp.is (.bool false)] [false, false, false, false, false, false, false, false, false, false, false] 11 (by kernel_rfl) (by kernel_rfl) (fun u F hF => ?_) (fun u w' hbF hsF hold hap => ?_)
        case refine_1 =>
          have E19 : F.eval (.tmp 19) = (.slice AQ 0 cQ) := (congrArg (fun a => Act.eval a (.tmp 19)) hF).trans (eval_out [some 165, some 166, some 167, some 168, some 169, some 170, some 171, some 172, some 173, some 174, some 175] 0 _ (by decide))
          have D165 : F.eval (.tmp 165) = u 0 := (congrArg (fun a => Act.eval a (.tmp 165)) hF).trans (eval_in [some 165, some 166, some 167, some 168, some 169, some 170, some 171, some 172, some 173, some 174, some 175] 0 0 _ (by decide) (by omega) rfl (of_decide_eq_true (by kernel_rfl)))
          have D166 : F.eval (.tmp 166) = u 1 := (congrArg (fun a => Act.eval a (.tmp 166)) hF).trans (eval_in [some 165, some 166, some 167, some 168, some 169, some 170, some 171, some 172, some 173, some 174, some 175] 0 1 _ (by decide) (by omega) rfl (of_decide_eq_true (by kernel_rfl)))
          have D167 : F.eval (.tmp 167) = u 2 := (congrArg (fun a => Act.eval a (.tmp 167)) hF).trans (eval_in [some 165, some 166, some 167, some 168, some 169, some 170, some 171, some 172, some 173, some 174, some 175] 0 2 _ (by decide) (by omega) rfl (of_decide_eq_true (by kernel_rfl)))
          have D168 : F.eval (.tmp 168) = u 3 := (congrArg (fun a => Act.eval a (.tmp 168)) hF).trans (eval_in [some 165, some 166, some 167, some 168, some 169, some 170, some 171, some 172, some 173, some 174, some 175] 0 3 _ (by decide) (by omega) rfl (of_decide_eq_true (by kernel_rfl)))
          clear hF
          refine ⟨?_, ?_, ?_, ?_, ?_, ?_, ?_, ?_, ?_, ?_, ?_, trivial⟩
          · intro w1 hb hd K hK
            have e19 := E19
            exact op_val (v := (.slice AQ 0 cQ)) rfl (by simp only [execOp, List.map_toArray, List.map_cons, List.map_nil, e19]; go_simp) (hK _ _ (show _ = _ from rfl) (Below.refl _ _) (Fresh.no _ _ _))
          · intro w1 hb hd K hK
            have e165 := D165.trans (show u 0 = (.slice AQ 0 cQ) from hd ⟨0, .data⟩ (by simp) rfl (by omega))
            exact op_val (v := (.int .i64 0)) rfl (exec_len Tryz.underlying40 rfl e165) (hK _ _ (show _ = _ from rfl) (Below.refl _ _) (Fresh.no _ _ _))
          · intro w1 hb hd K hK
            have e166 := D166.trans (show u 1 = (.int .i64 0) from hd ⟨1, .data⟩ (by simp) rfl (by omega))
            exact op_val (v := (.bool false)) rfl (by simp only [execOp, List.map_toArray, List.map_cons, List.map_nil, e166]; go_simp) (hK _ _ (show _ = _ from rfl) (Below.refl _ _) (Fresh.no _ _ _))
          · intro w1 hb hd K hK
            have e167 := D167.trans (show u 2 = (.bool false) from hd ⟨2, .data⟩ (by simp) rfl (by omega))
            exact op_val (v := (.bool false)) rfl (by simp only [execOp, List.map_toArray, List.map_cons, List.map_nil, e167]; go_simp) (hK _ _ (show _ = _ from rfl) (Below.refl _ _) (Fresh.no _ _ _))
          · intro w1 hb hd K hK
            have g := D168.trans (show u 3 = .bool false from hd ⟨3, .guard⟩ (by simp) rfl (by omega))
            exact op_pass (unwanted_of (j := 3) (s := 168) (b := true) (by kernel_rfl) (by kernel_rfl) g) (hK _ _ (show _ = _ from rfl) (Below.refl _ _) (Fresh.no _ _ _))
          · intro w1 hb hd K hK
            have g := D168.trans (show u 3 = .bool false from hd ⟨3, .guard⟩ (by simp) rfl (by omega))
            exact op_pass (unwanted_of (j := 3) (s := 168) (b := true) (by kernel_rfl) (by kernel_rfl) g) (hK _ _ (show _ = _ from rfl) (Below.refl _ _) (Fresh.no _ _ _))
          · intro w1 hb hd K hK
            have g := D168.trans (show u 3 = .bool false from hd ⟨3, .guard⟩ (by simp) rfl (by omega))
            exact op_pass (unwanted_of (j := 3) (s := 168) (b := true) (by kernel_rfl) (by kernel_rfl) g) (hK _ _ (show _ = _ from rfl) (Below.refl _ _) (Fresh.no _ _ _))
          · intro w1 hb hd K hK
            have g := D168.trans (show u 3 = .bool false from hd ⟨3, .guard⟩ (by simp) rfl (by omega))
            exact op_pass (unwanted_of (j := 3) (s := 168) (b := true) (by kernel_rfl) (by kernel_rfl) g) (hK _ _ (show _ = _ from rfl) (Below.refl _ _) (Fresh.no _ _ _))
          · intro w1 hb hd K hK
            have g := D168.trans (show u 3 = .bool false from hd ⟨3, .guard⟩ (by simp) rfl (by omega))
            exact op_pass (unwanted_of (j := 3) (s := 168) (b := true) (by kernel_rfl) (by kernel_rfl) g) (hK _ _ (show _ = _ from rfl) (Below.refl _ _) (Fresh.no _ _ _))
          · intro w1 hb hd K hK
            have g := D168.trans (show u 3 = .bool false from hd ⟨3, .guard⟩ (by simp) rfl (by omega))
            exact op_pass (unwanted_of (j := 3) (s := 168) (b := true) (by kernel_rfl) (by kernel_rfl) g) (hK _ _ (show _ = _ from rfl) (Below.refl _ _) (Fresh.no _ _ _))
          · intro w1 hb hd K hK
            have e168 := D168.trans (show u 3 = (.bool false) from hd ⟨3, .data⟩ (by simp) rfl (by omega))
            exact op_val (v := (.bool false)) rfl (by simp only [execOp, List.map_toArray, List.map_cons, List.map_nil, e168]; go_simp) (hK _ _ (show _ = _ from rfl) (Below.refl _ _) (Fresh.no _ _ _))
        have hv165 : u 0 = (.slice AQ 0 cQ) := (show u 0 = _ from hsF 0 (by omega) (by omega))
        have hv166 : u 1 = (.int .i64 0) := (show u 1 = _ from hsF 1 (by omega) (by omega))
        have hv167 : u 2 = (.bool false) := (show u 2 = _ from hsF 2 (by omega) (by omega))
        have hv168 : u 3 = (.bool false) := (show u 3 = _ from hsF 3 (by omega) (by omega))
        have hv169 : u 4 = undef := (show u 4 = _ from hsF 4 (by omega) (by omega))
        have hv170 : u 5 = undef := (show u 5 = _ from hsF 5 (by omega) (by omega))
        have hv171 : u 6 = undef := (show u 6 = _ from hsF 6 (by omega) (by omega))
        have hv172 : u 7 = undef := (show u 7 = _ from hsF 7 (by omega) (by omega))
        have hv173 : u 8 = undef := (show u 8 = _ from hsF 8 (by omega) (by omega))
        have hv174 : u 9 = undef := (show u 9 = _ from hsF 9 (by omega) (by omega))
        have hv175 : u 10 = (.bool false) := (show u 10 = _ from hsF 10 (by omega) (by omega))
        simp only [putRow, hv165, hv166, hv167, hv168, hv169, hv170, hv171, hv172, hv173, hv174, hv175, Act.put, List.setIfInBounds_toArray, List.set_cons_succ, List.set_cons_zero]
        clear hsF hold hap hv165 hv166 hv167 hv168 hv169 hv170 hv171 hv172 hv173 hv174 hv175
        have HC12 := Lib.hid (HC11.out.keep hbF)
        have HN12 := Lib.hid (HN11.out.keep hbF)
        clear HC11 HN11 HE11 HQ11 hbF
        refine rest_forced 1 (by kernel_rfl) ?_
        simp only [List.drop_succ_cons, List.drop_zero, List.take_succ_cons, List.take_zero]
        go_wp2_with fail
        refine rest_done rfl ?_
        go_wp2_with fail
        refine (SM.out _ _ _ HN12.out HC12.out.c).mono ?_
        rintro r w13 ⟨⟨b, rfl, hbb⟩, hb⟩
        have hbf : b = false := by
          rw [Bool.eq_false_iff]
          exact fun h => HNE.out (hbb.1 h)
        subst hbf
        have HX := Lib.hid (HC12.out.ex.keep hb).below
        have e9 : IntKind.i64.wrap ((k : Int) + 1) = (k : Int) + 1 := IntWalk.i64_in _ (by omega)
        clear hbb hb HN12 HC12 SM
        go_wp2_with fail
        go_ret
        exact ⟨rfl, HX.out⟩
      · have hms := HMS.out z hwas
        have hzC : z ∈ C := (mem_vers.1 (show z ∈ versP C e by rw [hwas]; simp)).1
        have CP := Lib.hid (fun W => cmpE_any e z HEI.out (HCI.out z hzC) W)
        rw [hwas] at HQ11 ⊢
        rw [show [z].length = 1 from rfl] at HQ11 ⊢
        obtain ⟨c, hc⟩ : ∃ c, cmpE e z = c := ⟨_, rfl⟩
        rw [hc] at hms CP
        have HMZ := Lib.hid hms
        clear hwas hms HWAS HMS HMN hzC hc
        have i0 : ((1 : Int) == 1) = true := rfl
        obtain ⟨gz, oz, rfl⟩ := HQ11.out.ptr (by simp)
        have lz : ∀ W, Below W0.heap.size W0 W → (Instr.loadAt 34 (.pointer (some ⟨gz, oz, none⟩))).run Tryz.prog W = .ok (.agg (enC z)) W := fun W hb => by
          have := ES.load (i := 0) (e := z) HQ11.out rfl hb
          simpa using this
        have LZ := Lib.hid lz
        obtain ⟨qc, hqc⟩ : ∃ qc, decide (c ≤ 0) = qc := ⟨_, rfl⟩
        clear lz
        refine rest_flow3 [some 165, some 166, some 167, some 168, some 169, some 170, some 171, some 172, some 173, some 174, some 175] [Sp.is (.slice (some ⟨gz, oz, none⟩) 1 cQ), Sp.is (.int .i64 1), Sp.is (.bool true), Sp.is (.bool true), Sp.is (.agg (enC e)), Sp.is (.slice (some ⟨gz, oz, none⟩) 1 cQ), Sp.is (.pointer (some ⟨gz, oz, none⟩)), Sp.is (.agg (enC z)), Sp.is (.int .i64 c), Sp.is (.bool qc), Sp.is (.bool qc)] [false, false, false, false, false, false, false, false, false, false, false] 11 (by kernel_rfl) (by kernel_rfl) (fun u F hF => ?_) (fun u w' hbF hsF hold hap => ?_)
        case refine_1 =>
          have E19 : F.eval (.tmp 19) = (.slice (some ⟨gz, oz, none⟩) 1 cQ) := (congrArg (fun a => Act.eval a (.tmp 19)) hF).trans (eval_out [some 165, some 166, some 167, some 168, some 169, some 170, some 171, some 172, some 173, some 174, some 175] 0 _ (by decide))
          have D165 : F.eval (.tmp 165) = u 0 := (congrArg (fun a => Act.eval a (.tmp 165)) hF).trans (eval_in [some 165, some 166, some 167, some 168, some 169, some 170, some 171, some 172, some 173, some 174, some 175] 0 0 _ (by decide) (by omega) rfl (of_decide_eq_true (by kernel_rfl)))
          have D166 : F.eval (.tmp 166) = u 1 := (congrArg (fun a => Act.eval a (.tmp 166)) hF).trans (eval_in [some 165, some 166, some 167, some 168, some 169, some 170, some 171, some 172, some 173, some 174, some 175] 0 1 _ (by decide) (by omega) rfl (of_decide_eq_true (by kernel_rfl)))
          have D167 : F.eval (.tmp 167) = u 2 := (congrArg (fun a => Act.eval a (.tmp 167)) hF).trans (eval_in [some 165, some 166, some 167, some 168, some 169, some 170, some 171, some 172, some 173, some 174, some 175] 0 2 _ (by decide) (by omega) rfl (of_decide_eq_true (by kernel_rfl)))
          have E15 : F.eval (.tmp 15) = (.pointer (some ⟨p15, 0, none⟩)) := (congrArg (fun a => Act.eval a (.tmp 15)) hF).trans (eval_out [some 165, some 166, some 167, some 168, some 169, some 170, some 171, some 172, some 173, some 174, some 175] 0 _ (by decide))
          have D168 : F.eval (.tmp 168) = u 3 := (congrArg (fun a => Act.eval a (.tmp 168)) hF).trans (eval_in [some 165, some 166, some 167, some 168, some 169, some 170, some 171, some 172, some 173, some 174, some 175] 0 3 _ (by decide) (by omega) rfl (of_decide_eq_true (by kernel_rfl)))
          have D170 : F.eval (.tmp 170) = u 5 := (congrArg (fun a => Act.eval a (.tmp 170)) hF).trans (eval_in [some 165, some 166, some 167, some 168, some 169, some 170, some 171, some 172, some 173, some 174, some 175] 0 5 _ (by decide) (by omega) rfl (of_decide_eq_true (by kernel_rfl)))
          have D171 : F.eval (.tmp 171) = u 6 := (congrArg (fun a => Act.eval a (.tmp 171)) hF).trans (eval_in [some 165, some 166, some 167, some 168, some 169, some 170, some 171, some 172, some 173, some 174, some 175] 0 6 _ (by decide) (by omega) rfl (of_decide_eq_true (by kernel_rfl)))
          have D169 : F.eval (.tmp 169) = u 4 := (congrArg (fun a => Act.eval a (.tmp 169)) hF).trans (eval_in [some 165, some 166, some 167, some 168, some 169, some 170, some 171, some 172, some 173, some 174, some 175] 0 4 _ (by decide) (by omega) rfl (of_decide_eq_true (by kernel_rfl)))
          have D172 : F.eval (.tmp 172) = u 7 := (congrArg (fun a => Act.eval a (.tmp 172)) hF).trans (eval_in [some 165, some 166, some 167, some 168, some 169, some 170, some 171, some 172, some 173, some 174, some 175] 0 7 _ (by decide) (by omega) rfl (of_decide_eq_true (by kernel_rfl)))
          have D173 : F.eval (.tmp 173) = u 8 := (congrArg (fun a => Act.eval a (.tmp 173)) hF).trans (eval_in [some 165, some 166, some 167, some 168, some 169, some 170, some 171, some 172, some 173, some 174, some 175] 0 8 _ (by decide) (by omega) rfl (of_decide_eq_true (by kernel_rfl)))
          have D174 : F.eval (.tmp 174) = u 9 := (congrArg (fun a => Act.eval a (.tmp 174)) hF).trans (eval_in [some 165, some 166, some 167, some 168, some 169, some 170, some 171, some 172, some 173, some 174, some 175] 0 9 _ (by decide) (by omega) rfl (of_decide_eq_true (by kernel_rfl)))
          clear hF
          refine ⟨?_, ?_, ?_, ?_, ?_, ?_, ?_, ?_, ?_, ?_, ?_, trivial⟩
          · intro w1 hb hd K hK
            have e19 := E19
            exact op_val (v := (.slice (some ⟨gz, oz, none⟩) 1 cQ)) rfl (by simp only [execOp, List.map_toArray, List.map_cons, List.map_nil, e19]; go_simp) (hK _ _ (show _ = _ from rfl) (Below.refl _ _) (Fresh.no _ _ _))
          · intro w1 hb hd K hK
            have e165 := D165.trans (show u 0 = (.slice (some ⟨gz, oz, none⟩) 1 cQ) from hd ⟨0, .data⟩ (by simp) rfl (by omega))
            exact op_val (v := (.int .i64 1)) rfl (exec_len Tryz.underlying40 rfl e165) (hK _ _ (show _ = _ from rfl) (Below.refl _ _) (Fresh.no _ _ _))
          · intro w1 hb hd K hK
            have e166 := D166.trans (show u 1 = (.int .i64 1) from hd ⟨1, .data⟩ (by simp) rfl (by omega))
            exact op_val (v := (.bool true)) rfl (by simp only [execOp, List.map_toArray, List.map_cons, List.map_nil, e166]; go_simp) (hK _ _ (show _ = _ from rfl) (Below.refl _ _) (Fresh.no _ _ _))
          · intro w1 hb hd K hK
            have e167 := D167.trans (show u 2 = (.bool true) from hd ⟨2, .data⟩ (by simp) rfl (by omega))
            exact op_val (v := (.bool true)) rfl (by simp only [execOp, List.map_toArray, List.map_cons, List.map_nil, e167]; go_simp) (hK _ _ (show _ = _ from rfl) (Below.refl _ _) (Fresh.no _ _ _))
          · intro w1 hb hd K hK
            have e15 := E15
            have g := D168.trans (show u 3 = .bool true from hd ⟨3, .guard⟩ (by simp) rfl (by omega))
            exact op_val_w (v := (.agg (enC e))) (wanted_of (j := 3) (s := 168) (b := true) (by kernel_rfl) (by kernel_rfl) g) (exec_load rfl e15 (loadAt_blk (HE11.out.keep hb HE11.out.lt) Tryz.underlying34 rfl (by rw [enC_size]; kernel_rfl))) (hK _ _ (show _ = _ from rfl) (Below.refl _ _) (Fresh.no _ _ _))
          · intro w1 hb hd K hK
            have e19 := E19
            have g := D168.trans (show u 3 = .bool true from hd ⟨3, .guard⟩ (by simp) rfl (by omega))
            exact op_val_w (v := (.slice (some ⟨gz, oz, none⟩) 1 cQ)) (wanted_of (j := 3) (s := 168) (b := true) (by kernel_rfl) (by kernel_rfl) g) (by simp only [execOp, List.map_toArray, List.map_cons, List.map_nil, e19]; go_simp) (hK _ _ (show _ = _ from rfl) (Below.refl _ _) (Fresh.no _ _ _))
          · intro w1 hb hd K hK
            have e170 := D170.trans (show u 5 = (.slice (some ⟨gz, oz, none⟩) 1 cQ) from hd ⟨5, .data⟩ (by simp) rfl (by omega))
            have g := D168.trans (show u 3 = .bool true from hd ⟨3, .guard⟩ (by simp) rfl (by omega))
            exact op_val_w (v := (.pointer (some ⟨gz, oz, none⟩))) (wanted_of (j := 3) (s := 168) (b := true) (by kernel_rfl) (by kernel_rfl) g) (by simp only [execOp, List.map_toArray, List.map_cons, List.map_nil, e170]; go_simp) (hK _ _ (show _ = _ from rfl) (Below.refl _ _) (Fresh.no _ _ _))
          · intro w1 hb hd K hK
            have e171 := D171.trans (show u 6 = (.pointer (some ⟨gz, oz, none⟩)) from hd ⟨6, .data⟩ (by simp) rfl (by omega))
            have g := D168.trans (show u 3 = .bool true from hd ⟨3, .guard⟩ (by simp) rfl (by omega))
            exact op_val_w (v := (.agg (enC z))) (wanted_of (j := 3) (s := 168) (b := true) (by kernel_rfl) (by kernel_rfl) g) (exec_load rfl e171 (LZ.out w1 hb)) (hK _ _ (show _ = _ from rfl) (Below.refl _ _) (Fresh.no _ _ _))
          · intro w1 hb hd K hK
            have e169 := D169.trans (show u 4 = (.agg (enC e)) from hd ⟨4, .data⟩ (by simp) rfl (by omega))
            have e172 := D172.trans (show u 7 = (.agg (enC z)) from hd ⟨7, .data⟩ (by simp) rfl (by omega))
            have g := D168.trans (show u 3 = .bool true from hd ⟨3, .guard⟩ (by simp) rfl (by omega))
            refine op_call_w (R := fun v w2 => v = (.int .i64 c) ∧ Below w1.heap.size w1 w2) (f := 25) (args := #[.agg (enC e), .agg (enC z)]) (wanted_of (j := 3) (s := 168) (b := true) (by kernel_rfl) (by kernel_rfl) g) (by simp only [execOp]; go_simp; first | exact ⟨eval_get e169, eval_get e172⟩ | (simp only [Act.eval] at *; simp_all)) ((CP.out w1).mono fun e w2 hh => ⟨_, hh.1, rfl, hh.2⟩) (fun v w2 hh => hK _ _ hh.1 hh.2 (Fresh.no _ _ _))
          · intro w1 hb hd K hK
            have e173 := D173.trans (show u 8 = (.int .i64 c) from hd ⟨8, .data⟩ (by simp) rfl (by omega))
            have g := D168.trans (show u 3 = .bool true from hd ⟨3, .guard⟩ (by simp) rfl (by omega))
            exact op_val_w (v := (.bool qc)) (wanted_of (j := 3) (s := 168) (b := true) (by kernel_rfl) (by kernel_rfl) g) (by simp only [execOp, List.map_toArray, List.map_cons, List.map_nil, e173]; go_simp) (hK _ _ (show _ = _ from rfl) (Below.refl _ _) (Fresh.no _ _ _))
          · intro w1 hb hd K hK
            have e168 := D168.trans (show u 3 = (.bool true) from hd ⟨3, .data⟩ (by simp) rfl (by omega))
            have e174 := D174.trans (show u 9 = (.bool qc) from hd ⟨9, .data⟩ (by simp) rfl (by omega))
            exact op_val (v := (.bool qc)) rfl (by simp only [execOp, List.map_toArray, List.map_cons, List.map_nil, e168, e174]; go_simp) (hK _ _ (show _ = _ from rfl) (Below.refl _ _) (Fresh.no _ _ _))
        have hv165 : u 0 = (.slice (some ⟨gz, oz, none⟩) 1 cQ) := (show u 0 = _ from hsF 0 (by omega) (by omega))
        have hv166 : u 1 = (.int .i64 1) := (show u 1 = _ from hsF 1 (by omega) (by omega))
        have hv167 : u 2 = (.bool true) := (show u 2 = _ from hsF 2 (by omega) (by omega))
        have hv168 : u 3 = (.bool true) := (show u 3 = _ from hsF 3 (by omega) (by omega))
        have hv169 : u 4 = (.agg (enC e)) := (show u 4 = _ from hsF 4 (by omega) (by omega))
        have hv170 : u 5 = (.slice (some ⟨gz, oz, none⟩) 1 cQ) := (show u 5 = _ from hsF 5 (by omega) (by omega))
        have hv171 : u 6 = (.pointer (some ⟨gz, oz, none⟩)) := (show u 6 = _ from hsF 6 (by omega) (by omega))
        have hv172 : u 7 = (.agg (enC z)) := (show u 7 = _ from hsF 7 (by omega) (by omega))
        have hv173 : u 8 = (.int .i64 c) := (show u 8 = _ from hsF 8 (by omega) (by omega))
        have hv174 : u 9 = (.bool qc) := (show u 9 = _ from hsF 9 (by omega) (by omega))
        have hv175 : u 10 = (.bool qc) := (show u 10 = _ from hsF 10 (by omega) (by omega))
        simp only [putRow, hv165, hv166, hv167, hv168, hv169, hv170, hv171, hv172, hv173, hv174, hv175, Act.put, List.setIfInBounds_toArray, List.set_cons_succ, List.set_cons_zero]
        clear hsF hold hap hv165 hv166 hv167 hv168 hv169 hv170 hv171 hv172 hv173 hv174 hv175
        have HC12 := Lib.hid (HC11.out.keep hbF)
        have HN12 := Lib.hid (HN11.out.keep hbF)
        clear HC11 HN11 HE11 HQ11 hbF
        refine rest_forced 1 (by kernel_rfl) ?_
        simp only [List.drop_succ_cons, List.drop_zero, List.take_succ_cons, List.take_zero]
        go_wp2_with fail
        refine rest_done rfl ?_
        go_wp2_with fail
        refine (SM.out _ _ _ HN12.out HC12.out.c).mono ?_
        rintro r w13 ⟨⟨b, rfl, hbb⟩, hb⟩
        have hbf : b = qc := by
          rw [Bool.eq_iff_iff, hbb, HMZ.out, ← hqc, decide_eq_true_eq]
        subst hbf
        have qq : (b == b) = true := by simp
        have HX := Lib.hid (HC12.out.ex.keep hb).below
        clear hbb hb HN12 HC12 SM hqc
        go_wp2_with fail
        go_ret
        exact ⟨rfl, HX.out⟩
theorem counts_open (v : Value) {w : World} (hv : ∃ l : List Sm, SS w v l ∧ ∀ x ∈ l, x.In) (y : Sm) (hy : y.In) (W : World) (he : Env W) (h : W = w) : Calls Tryz.prog 8 #[v, .agg (smC y)] W (fun r w' => r = .returned (.bool true) ∧ Below W.heap.size W w') := by
  subst h
  obtain ⟨l, h1, h2⟩ := hv
  exact counts_any l h2 v y hy W he h1
end Go.Proofs.YtpkmibmombpjpaaGreatDoor
