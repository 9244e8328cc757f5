/- Counting. -/
import Derived.Test.YtpkmibmombpjpaaGreatDoorKT
import Derived.Test.YtpkmibmombpjpaaGreatDoorKM
set_option linter.unusedSimpArgs false
namespace Go.Proofs.YtpkmibmombpjpaaGreatDoor
open Go Go.RowKit Go.Shelf
attribute [local go_sem] Oper.semAt_some

/-- A slice built out of values, in one step. -/
theorem op_bsl {ops : Array Oper} {rest : List Oper} {o : Oper} {a : Act} {Q : Exit → Act → World → Prop} {w : World} (T e : TypeId) (len : Nat) (parts : Array (Nat × Operand)) (C : Array Value) (hg : o.guard = none) (ho : o.op = .buildSlice T len parts)
    (hr : (Instr.buildSlice T len (parts.map fun (i, x) => (i, a.eval x))).run Tryz.prog w = .ok (.slice (some ⟨w.heap.size, 0, none⟩) len len) (w.alloc (.cells C e)))
    (h : wpList Tryz.prog ops Q rest (a.put o.dst (.slice (some ⟨w.heap.size, 0, none⟩) len len)) (w.alloc (.cells C e))) : wpList Tryz.prog ops Q (o :: rest) a w := by
  refine wpList_plain hg fun K hK => ?_
  unfold Oper.wp
  have he : (execOp a.eval o).run Tryz.prog w = .ok (.value (.slice (some ⟨w.heap.size, 0, none⟩) len len)) (w.alloc (.cells C e)) := by
    simp only [execOp, ho, Sem.run_bind, hr, Result.andThen_ok, Sem.run_pure]
  rw [he, Oper.upon_value]
  exact hK _ _ h
/-- What Counting returns. -/
def cntL (l : List En) : List En := if setB l then countP l else []
def lastIx (pre : List KE) : Nat := match pre.getLast? with | some x => x.i | none => 0
theorem lastIx_snoc (pre : List KE) (x : KE) : lastIx (pre ++ [x]) = x.i := by simp [lastIx]
theorem lastIx_range {xs : List KE} {m : Nat} (h : xs.map (·.i) = List.range' 0 xs.length) (hl : xs.length = m + 1) : lastIx xs = m := by
  rcases List.eq_nil_or_concat xs with rfl | ⟨ys, x, rfl⟩
  · simp at hl
  · rw [List.concat_eq_append] at h hl ⊢
    rw [lastIx_snoc]
    simp only [List.length_append, List.length_cons, List.length_nil, Nat.zero_add, Nat.add_right_cancel_iff] at hl
    rw [List.length_append, List.length_singleton, List.range'_concat, List.map_append] at h
    have := List.append_inj_right' h (by simp)
    simp at this
    omega
theorem info_ent : (Tryz.prog.info? 34).map (fun i => (i.size, i.bytes, i.zero.map (fun z => z.cells.size))) = some (33, 152, some 33) := by kernel_rfl
theorem info_parts_ent : ∃ i z, Tryz.prog.info? 34 = some i ∧ i.zero = some z ∧ i.size = 33 ∧ i.bytes = 152 ∧ z.cells.size = 33 := by
  have h := info_ent
  cases hi : Tryz.prog.info? 34 with
  | none => rw [hi] at h; cases h
  | some i =>
    rw [hi] at h
    simp only [Option.map_some, Option.some.injEq, Prod.mk.injEq] at h
    cases hz : i.zero with
    | none => rw [hz] at h; simp at h
    | some z => rw [hz] at h; exact ⟨i, z, rfl, hz, h.1, h.2.1, by simpa using h.2.2⟩
/-- Between two rounds of Counting's loop, m entries being left. -/
def CLoop (w : World) (v : Value) (l : List En) (m : Nat) (a : Act) (W : World) : Prop :=
  ∃ (k : Nat) (ds : List Nat) (pn : Nat) (u : Value) (c : List En) (u6 u7 u11 u12 u13 u14 u15 u16 u17 u18 u19 u20 u21 u22 u23 u24 u25 u26 u27 u28 u29 u30 u31 u32 u33 u34 u35 u36 u37 u38 : Value), m = l.length - k ∧ k ≤ l.length ∧ ds.Nodup ∧ c ++ countP (l.drop k) = countP l ∧ c.length ≤ k ∧ CW w W [(pn, (k : Int))] u c ds ∧
    a = { tmps := #[v, undef, .slice none 0 0, .int .i64 0, u, .pointer (some ⟨pn, 0, none⟩), u6, u7, v, .bool true, .bool false, u11, u12, u13, u14, u15, u16, u17, u18, u19, u20, u21, u22, u23, u24, u25, u26, u27, u28, u29, u30, u31, u32, u33, u34, u35, u36, u37, u38, undef], defers := ds.map mkD }
/-- Between two rounds of the range over the iterator. -/
def CIn (w : World) (pn pl k : Nat) (u : Value) (c : List En) (ds : List Nat) (pre : List KE) (W : World) : Prop := CW w W [(pn, (k : Int)), (pl, ((k + lastIx pre : Nat) : Int))] u c ds
theorem counting_no (l : List En) (hin : ∀ e ∈ l, e.In) (hl : l.length ≤ 1000000) (hs : setB l = false) (v : Value) (w : World) (hv : ES w v l) : Calls Tryz.prog 18 #[v] w (fun r w' => r = .returned (.tuple #[.slice none 0 0, .int .i64 314]) ∧ Below w.heap.size w w') := by
  obtain ⟨A, cp, rfl, -⟩ := hv.len
  have IS := Lib.hid (isSet_any l hin hl _ w hv)
  rw [hs] at IS
  clear hv
  refine (callsIn_wide (n := 3)).1 ?_
  refine callsIn_of_wp_marks Tryz.func18 rfl trivial ?_ rfl
  simp only [Tryz.ntmps18, List.size_toArray, List.length_cons, List.length_nil, Nat.reduceAdd, Nat.reduceSub, Array.replicate_succ, Array.replicate_zero, List.push_toArray, List.append_toArray, List.nil_append, List.cons_append]
  refine wpIn_wide.2 ?_
  go_wp2_with fail
  refine IS.out.mono ?_
  rintro r w2 ⟨rfl, hb⟩
  have HB := Lib.hid hb
  clear hb IS
  go_wp2_with fail
  exact ⟨_, results_tmp2 rfl _ _ _, rfl, HB.out⟩
set_option maxRecDepth 100000 in
set_option maxHeartbeats 8000000 in
theorem counting_yes (l : List En) (hin : ∀ e ∈ l, e.In) (hl : l.length ≤ 1000000) (hs : setB l = true) (v : Value) (w : World) (hv : ES w v l) : Calls Tryz.prog 18 #[v] w (fun r w' => ∃ u, r = .returned (.tuple #[u, .int .i64 0]) ∧ w'.ownsRow w.heap.size 34 33 u (countP l).length (flat enC (countP l)) ∧ Below w.heap.size w w') := by
  obtain ⟨A, cp, rfl, hcp⟩ := hv.len
  have IS := Lib.hid (isSet_any l hin hl _ w hv)
  rw [hs] at IS
  have HV := Lib.hid hv
  have HMO := Lib.hid (fun k => setB_mono (setB_tail l k hs))
  obtain ⟨i0, z0, hi0, hz0, hz1, hz2, hz3⟩ := info_parts_ent
  obtain ⟨N, hN⟩ : ∃ N, l.length = N := ⟨_, rfl⟩
  rw [hN] at hl hcp HV IS ⊢
  have HN := Lib.hid hN
  clear hv hs hin hN
  refine (callsIn_wide (n := 3)).1 ?_
  refine callsIn_of_wp_marks Tryz.func18 rfl trivial ?_ rfl
  simp only [Tryz.ntmps18, List.size_toArray, List.length_cons, List.length_nil, Nat.reduceAdd, Nat.reduceSub, Array.replicate_succ, Array.replicate_zero, List.push_toArray, List.append_toArray, List.nil_append, List.cons_append]
  refine wpIn_wide.2 ?_
  go_wp2_with fail
  refine IS.out.mono ?_
  rintro r w1 ⟨rfl, hb⟩
  have HC0 := Lib.hid ((CW.start w).keep hb)
  have hsz := hb.size
  clear IS hb
  go_wp2_with fail
  have HC1 := Lib.hid (((HC0.out.alloc (.cells #[.int .i64 0] 3)).more (b := w1.heap.size) (x := 0) hsz (Blk.new w1 _ _)))
  clear HC0
  refine wp_loop_ghost_k (CLoop w (.slice A N cp) l) N ?_ ?_
  · exact ⟨0, [], w1.heap.size, _, [], _, _, _, _, _, _, _, _, _, _, _, _, _, _, _, _, _, _, _, _, _, _, _, _, _, _, _, _, _, _, by rw [HN.out]; rfl, Nat.zero_le _, List.nodup_nil, rfl, Nat.le_refl _, HC1.out, rfl⟩
  · clear HC1 hsz
    clear w1
    rintro m a W ⟨k, ds, pn, ur, c, u6, u7, u11, u12, u13, u14, u15, u16, u17, u18, u19, u20, u21, u22, u23, u24, u25, u26, u27, u28, u29, u30, u31, u32, u33, u34, u35, u36, u37, u38, hm, hk, hnd, hcn, hcl, hcw, rfl⟩ J K hJ hK
    rw [HN.out] at hm hk
    subst hm
    have HJ := Lib.hid hJ
    have HK := Lib.hid hK
    have HC := Lib.hid hcw
    have HCN := Lib.hid (And.intro hnd hcn)
    clear hJ hK hcw hcn hnd
    have x5 := (HC.out.box pn (k : Int) (by simp)).2.cell (j := 0) rfl
    by_cases hlt : k < N
    · have t1 : decide ((k : Int) < (N : Int)) = true := decide_eq_true (by omega)
      obtain ⟨x, hx⟩ : ∃ x, l[k]? = some x := ⟨_, List.getElem?_eq_getElem (by rw [HN.out]; omega)⟩
      have hdr : l.drop k = x :: l.drop (k + 1) := by
        have hkl : k < l.length := by rw [HN.out]; exact hlt
        rw [List.drop_eq_getElem_cons hkl, (List.getElem?_eq_some_iff.1 hx).2]
      obtain ⟨bl, ol, rfl⟩ := HV.out.ptr (by rw [HN.out]; omega)
      go_upto_region 7 with fail
      have HC1 := Lib.hid (((HC.out.alloc (.cells #[.int .i64 (k : Int)] 3)).more (b := W.heap.size) (x := (k : Int)) HC.out.below.size (Blk.new W _ _)).drew)
      have HPN := Lib.hid (HC.out.box pn (k : Int) (by simp)).2.lt
      obtain ⟨W1, hW1⟩ : ∃ W1, (W.alloc (.cells #[.int .i64 (k : Int)] 3)).drew = W1 := ⟨_, rfl⟩
      obtain ⟨pl, hpl⟩ : ∃ pl, W.heap.size = pl := ⟨_, rfl⟩
      refine rest_begin (by kernel_rfl) ?_
      rw [hW1] at HC1 ⊢
      rw [hpl] at HC1 HPN ⊢
      clear hW1 hpl HC x5
      clear W
      obtain ⟨AS, hAS⟩ := slice_ls (α := En) (enc := enC) (sz := 33) (T := 40) (b := bl) (o := ol) (n := N) (c := cp) (lo := k) (hi := N) (by kernel_rfl) (fun W => by kernel_rfl) hk hcp
      have SL := Lib.hid (And.intro (hAS.2.1 rfl) (fun W (hb : Below w.heap.size w W) => hAS.2.2.2 W l (HV.out.keep hb) (Nat.le_refl _)))
      have lo1 := fun W (hb : Below w.heap.size w W) => HV.out.load hx hb
      have j0 : (0 : Int) ≤ (k : Int) := by omega
      have j1 : (k : Int) < (N : Int) := by omega
      have j2 : ¬ (N : Int) ≤ (k : Int) := by omega
      have j3 : ¬ N ≤ k := by omega
      clear hAS hx
      refine rest_flow3 [some 16, some 17, some 18, some 19, some 20, some 21, some 22] [Sp.is (.slice (some ⟨bl, ol, none⟩) N cp), Sp.is (.int .i64 ((k : Nat) : Int)), Sp.is (.slice (some AS) (N - k) (cp - k)), Sp.is (.slice (some ⟨bl, ol, none⟩) N cp), Sp.is (.int .i64 ((k : Nat) : Int)), Sp.is (.pointer (some ⟨bl, ol + k * 33, none⟩)), Sp.is (.agg (enC x))] [false, false, false, false, false, false, false] 7 (by kernel_rfl) (by kernel_rfl) (fun u F hF => ?_) (fun u w' hbF hsF hold hap => ?_)
      case refine_1 =>
        have E0 : F.eval (.tmp 0) = (.slice (some ⟨bl, ol, none⟩) N cp) := (congrArg (fun a => Act.eval a (.tmp 0)) hF).trans (eval_out [some 16, some 17, some 18, some 19, some 20, some 21, some 22] 0 _ (by decide))
        have E5 : F.eval (.tmp 5) = (.pointer (some ⟨pn, 0, none⟩)) := (congrArg (fun a => Act.eval a (.tmp 5)) hF).trans (eval_out [some 16, some 17, some 18, some 19, some 20, some 21, some 22] 0 _ (by decide))
        have D16 : F.eval (.tmp 16) = u 0 := (congrArg (fun a => Act.eval a (.tmp 16)) hF).trans (eval_in [some 16, some 17, some 18, some 19, some 20, some 21, some 22] 0 0 _ (by decide) (by omega) rfl (of_decide_eq_true (by kernel_rfl)))
        have D17 : F.eval (.tmp 17) = u 1 := (congrArg (fun a => Act.eval a (.tmp 17)) hF).trans (eval_in [some 16, some 17, some 18, some 19, some 20, some 21, some 22] 0 1 _ (by decide) (by omega) rfl (of_decide_eq_true (by kernel_rfl)))
        have D19 : F.eval (.tmp 19) = u 3 := (congrArg (fun a => Act.eval a (.tmp 19)) hF).trans (eval_in [some 16, some 17, some 18, some 19, some 20, some 21, some 22] 0 3 _ (by decide) (by omega) rfl (of_decide_eq_true (by kernel_rfl)))
        have D20 : F.eval (.tmp 20) = u 4 := (congrArg (fun a => Act.eval a (.tmp 20)) hF).trans (eval_in [some 16, some 17, some 18, some 19, some 20, some 21, some 22] 0 4 _ (by decide) (by omega) rfl (of_decide_eq_true (by kernel_rfl)))
        have D21 : F.eval (.tmp 21) = u 5 := (congrArg (fun a => Act.eval a (.tmp 21)) hF).trans (eval_in [some 16, some 17, some 18, some 19, some 20, some 21, some 22] 0 5 _ (by decide) (by omega) rfl (of_decide_eq_true (by kernel_rfl)))
        clear hF
        refine ⟨?_, ?_, ?_, ?_, ?_, ?_, ?_, trivial⟩
        · intro w1 hb hd K hK
          have e0 := E0
          exact op_val (v := (.slice (some ⟨bl, ol, none⟩) N cp)) rfl (by simp only [execOp, List.map_toArray, List.map_cons, List.map_nil, e0]; go_simp) (hK _ _ (show _ = _ from rfl) (Below.refl _ _) (Fresh.no _ _ _))
        · intro w1 hb hd K hK
          have e5 := E5
          have c0 : w1.cell? ⟨pn, 0, none⟩ = some (.int .i64 ((k : Nat) : Int)) := ((HC1.out.keep hb).box pn (k : Int) (by simp)).2.cell (j := 0) rfl
          exact op_val (v := (.int .i64 ((k : Nat) : Int))) rfl (by simp only [execOp, e5]; go_simp) (hK _ _ (show _ = _ from rfl) (Below.refl _ _) (Fresh.no _ _ _))
        · intro w1 hb hd K hK
          have e16 := D16.trans (show u 0 = (.slice (some ⟨bl, ol, none⟩) N cp) from hd ⟨0, .data⟩ (by simp) rfl (by omega))
          have e17 := D17.trans (show u 1 = (.int .i64 ((k : Nat) : Int)) from hd ⟨1, .data⟩ (by simp) rfl (by omega))
          exact op_val (v := (.slice (some AS) (N - k) (cp - k))) rfl (exec_slice rfl e16 (by simp only [Option.map_some, e17]) rfl rfl (SL.out.1 w1)) (hK _ _ (show _ = _ from rfl) (Below.refl _ _) (Fresh.no _ _ _))
        · intro w1 hb hd K hK
          have e0 := E0
          exact op_val (v := (.slice (some ⟨bl, ol, none⟩) N cp)) rfl (by simp only [execOp, List.map_toArray, List.map_cons, List.map_nil, e0]; go_simp) (hK _ _ (show _ = _ from rfl) (Below.refl _ _) (Fresh.no _ _ _))
        · intro w1 hb hd K hK
          have e5 := E5
          have c0 : w1.cell? ⟨pn, 0, none⟩ = some (.int .i64 ((k : Nat) : Int)) := ((HC1.out.keep hb).box pn (k : Int) (by simp)).2.cell (j := 0) rfl
          exact op_val (v := (.int .i64 ((k : Nat) : Int))) rfl (by simp only [execOp, e5]; go_simp) (hK _ _ (show _ = _ from rfl) (Below.refl _ _) (Fresh.no _ _ _))
        · intro w1 hb hd K hK
          have e19 := D19.trans (show u 3 = (.slice (some ⟨bl, ol, none⟩) N cp) from hd ⟨3, .data⟩ (by simp) rfl (by omega))
          have e20 := D20.trans (show u 4 = (.int .i64 ((k : Nat) : Int)) from hd ⟨4, .data⟩ (by simp) rfl (by omega))
          exact op_val (v := (.pointer (some ⟨bl, ol + k * 33, none⟩))) rfl (by simp only [execOp, List.map_toArray, List.map_cons, List.map_nil, e19, e20]; go_simp) (hK _ _ (show _ = _ from rfl) (Below.refl _ _) (Fresh.no _ _ _))
        · intro w1 hb hd K hK
          have e21 := D21.trans (show u 5 = (.pointer (some ⟨bl, ol + k * 33, none⟩)) from hd ⟨5, .data⟩ (by simp) rfl (by omega))
          exact op_val (v := (.agg (enC x))) rfl (exec_load rfl e21 (lo1 w1 (HC1.out.below.trans (hb.mono HC1.out.below.size)))) (hK _ _ (show _ = _ from rfl) (Below.refl _ _) (Fresh.no _ _ _))
      have hv16 : u 0 = (.slice (some ⟨bl, ol, none⟩) N cp) := (show u 0 = _ from hsF 0 (by omega) (by omega))
      have hv17 : u 1 = (.int .i64 ((k : Nat) : Int)) := (show u 1 = _ from hsF 1 (by omega) (by omega))
      have hv18 : u 2 = (.slice (some AS) (N - k) (cp - k)) := (show u 2 = _ from hsF 2 (by omega) (by omega))
      have hv19 : u 3 = (.slice (some ⟨bl, ol, none⟩) N cp) := (show u 3 = _ from hsF 3 (by omega) (by omega))
      have hv20 : u 4 = (.int .i64 ((k : Nat) : Int)) := (show u 4 = _ from hsF 4 (by omega) (by omega))
      have hv21 : u 5 = (.pointer (some ⟨bl, ol + k * 33, none⟩)) := (show u 5 = _ from hsF 5 (by omega) (by omega))
      have hv22 : u 6 = (.agg (enC x)) := (show u 6 = _ from hsF 6 (by omega) (by omega))
      simp only [putRow, hv16, hv17, hv18, hv19, hv20, hv21, hv22, Act.put, List.setIfInBounds_toArray, List.set_cons_succ, List.set_cons_zero]
      clear hsF hold hap hv16 hv17 hv18 hv19 hv20 hv21 hv22
      have HC2 := Lib.hid (HC1.out.keep hbF)
      clear HC1 hbF lo1
      clear W1
      have OK := Lib.hid (ofKey_any (.slice (some AS) (N - k) (cp - k)) rfl x w')
      refine rest_forced 1 (by kernel_rfl) ?_
      simp only [List.drop_succ_cons, List.drop_zero, List.take_succ_cons, List.take_zero]
      go_wp2_with fail
      refine OK.out.mono ?_
      rintro r w4 ⟨p, q, rfl, hp, hq, hpp, hpq, hb4⟩
      have HC3 := Lib.hid (HC2.out.keep hb4)
      have hle := HC2.out.below.size
      have hplt := (HC2.out.box pl (k : Int) (by simp)).2.lt
      have HLS := SL.out.2 w (Below.refl _ _)
      rw [show (l.take N).drop k = l.drop k by rw [← HN.out, List.take_length]] at HLS
      clear OK HC2 hb4 SL
      go_wp2_with fail
      refine rest_done rfl ?_
      go_wp2_with fail
      have hq4 := hq.lt
      have hlen : (l.drop k).length = N - k := by rw [List.length_drop, HN.out]
      refine (wpIn_wide (n := 3)).1 ?_
      have hI0 : CIn w pn pl k ur c ds [] w4 := HC3.out.less (by simp [lastIx])
      refine wpIn_rangeFunc_ownC rfl (by omega) (gf := 78) (lb := #[.pointer (some ⟨p, 0, none⟩), .pointer (some ⟨q, 0, none⟩)]) rfl trivial (enters_of Tryz.func78 (by kernel_rfl) rfl)
        (ofKey1_stops _ (by omega) w w4 p q _ (l.drop k) x (by omega) (HMO.out k) HLS HC3.out.below (by omega) hpq hp hq) KpK.trans (fun W l o o' hl ho _ _ => kpK_put (M := w4.heap.size) (Nat.le_trans hle (by omega)) (by omega) hq4 W l o o' hl ho) (Below.refl _ _) (fun _ => rfl)
        (CIn w pn pl k ur c ds) (fun _ _ _ => False) (fun A B hS i o hi hA => (hS.block i (Array.getElem?_eq_some_iff.1 hA).1).trans hA) (fun s A B h hS => CW.keep h hS) (fun _ _ _ _ h _ => h)
        (fun s A B row h hg hr => CW.turn h (Nat.le_trans hle (by omega)) (fun D hD => (Array.getElem?_eq_some_iff.1 (HC3.out.marks D hD).2).1) hg hr) (fun _ _ _ _ _ h _ _ => h) hI0 ?a₁ ?assign ?body ?done ?stop
      case assign =>
        intro lp x W K hK
        simp only [encK]
        gi_wp2
        exact hK
      case body =>
        rintro lp pre ⟨xi, xe, hxi⟩ W hi hlen
        dsimp only
        have c5 := (hi.box pn (k : Int) (by simp)).2.cell (j := 0) rfl
        have c6 := (hi.box pl ((k + lastIx pre : Nat) : Int) (by simp)).2.cell (j := 0) rfl
        have f6 := (hi.box pl ((k + lastIx pre : Nat) : Int) (by simp)).2.free 0
        have a1 : IntKind.i64.wrap ((k : Int) + (xi : Int)) = (k : Int) + (xi : Int) := IntWalk.i64_in _ (by omega)
        have HI := Lib.hid hi
        have HL : Hid (lastIx (pre ++ [⟨xi, xe, hxi⟩]) = xi) := Lib.hid (lastIx_snoc _ _)
        have HQ := Lib.hid (show w.heap.size ≤ pl ∧ pl < p ∧ pl < q from ⟨(hi.box pl ((k + lastIx pre : Nat) : Int) (by simp)).1, by omega, by omega⟩)
        generalize pre ++ [(⟨xi, xe, hxi⟩ : KE)] = pre' at *
        clear hi hlen HJ HK HC3 HLS HV HMO
        gi_wp2
        refine ⟨(KeepsOthers.setCell W ⟨pl, 0, none⟩ _).from _, ⟨(Below.refl _ W).setCell (p := ⟨pl, 0, none⟩) HQ.out.1 _, Below.heap_setCell _ _ _ _ (by have := HQ.out; show p ≠ pl; omega), Below.heap_setCell _ _ _ _ (by have := HQ.out; show q ≠ pl; omega)⟩, ?_⟩
        rw [show (k : Int) + (xi : Int) = ((k + lastIx pre' : Nat) : Int) by rw [HL.out]; omega]
        exact HI.out.set (x := ((k + lastIx pre : Nat) : Int)) (by simp) _ _ (fun t ht => by
          rcases List.mem_cons.1 ht with rfl | ht
          · exact .inr ⟨by show pn ≠ pl; have := HPN.out; omega, by simp⟩
          · exact .inl (List.mem_singleton.1 ht))
      case done =>
        rintro D xs W hD ⟨k', hsp, hxe, hxi⟩ hi hKD
        obtain ⟨g, hg1, hg2, hg3⟩ := run_head x (l.drop (k + 1))
        rw [hdr] at hsp hxe
        obtain rfl := split_zero hsp (cmpK_self x)
        rw [List.drop_zero, hg1] at hxe
        have hxl : xs.length = g.length + 1 := by
          have := congrArg List.length hxe
          simpa using this
        have hix := lastIx_range hxi hxl
        rw [← hdr] at hg2 hg3
        have hgn : k + g.length < N := by
          have h1 := congrArg List.length hg2
          rw [List.length_append, List.length_drop, HN.out] at h1
          simp only [List.length_cons] at h1
          omega
        obtain ⟨y, hy⟩ : ∃ y, (x :: g).getLast (by simp) = y := ⟨_, rfl⟩
        have hly : l[k + g.length]? = some y := by
          rw [← List.getElem?_drop, hg2, List.getElem?_append_left (by simp), ← hy, List.getLast_eq_getElem]
          simp
        rw [hy] at hg3
        rw [List.drop_drop] at hg3
        have hcm : (k : Int) + (g.length : Int) = ((k + g.length : Nat) : Int) := by omega
        unfold CIn at hi
        rw [hix] at hi
        obtain ⟨z, hz⟩ : ∃ z, k + g.length = z := ⟨_, rfl⟩
        rw [show k + (g.length + 1) = z + 1 by omega] at hg3
        rw [hz] at hi hly hgn
        have hkz : k ≤ z := by omega
        have c5 := (hi.box pn (k : Int) (by simp)).2.cell (j := 0) rfl
        have f5 := (hi.box pn (k : Int) (by simp)).2.free 0
        have c6 := (hi.box pl ((z : Nat) : Int) (by simp)).2.cell (j := 0) rfl
        have lo2 := HV.out.load hly hi.below
        have k0 : (0 : Int) ≤ (z : Int) := by omega
        have k1 : (z : Int) < (N : Int) := by omega
        have k2 : ¬ (N : Int) ≤ (z : Int) := by omega
        have k3 : ¬ N ≤ z := by omega
        have a1 : IntKind.i64.wrap ((z : Int) + 1) = (z : Int) + 1 := IntWalk.i64_in _ (by omega)
        have HD := Lib.hid (And.intro hD hKD)
        have HI := Lib.hid hi
        have HG := Lib.hid hg3
        have HMK := Lib.hid (fun D hD => (HC3.out.marks D hD))
        have HPW := Lib.hid (Nat.lt_of_lt_of_le hplt (Nat.le_refl _))
        have hW0 := Nat.le_trans hle (show w'.heap.size ≤ w4.heap.size by omega)
        have hpnl := HPN.out
        clear hi hsp hxe hxi hix hg1 hg2 hg3 hxl hy hcm hz hly hlen hI0 HLS hp hq hpp hpq hq4 hplt hle t1 j0 j1 j2 j3 hdr
        have HSR : Hid (SrcR (W.alloc (.cells (flat enC [y]).toArray 34)) 33 (.slice (some ⟨W.heap.size, 0, none⟩) 1 1) 1 (flat enC [y])) := Lib.hid (.some_ W.heap.size 0 1 1 _ (flat_len enC_size [y]) (fun j u hj => by
          rw [Nat.zero_add]
          exact (Blk.new W 34 (flat enC [y]).toArray).cell (by rw [List.getElem?_toArray]; exact hj)))
        have HO := Lib.hid (HI.out.own.alloc (.cells (flat enC [y]).toArray 34))
        have HCA := Lib.hid (HI.out.alloc (.cells (flat enC [y]).toArray 34))
        have hFl : ∀ u ∈ flat enC [y], u.oneCell' = true := by
          intro u hu
          have := enC_one y
          rw [Array.all_eq_true_iff_forall_mem] at this
          exact this u (by simpa [flat] using hu)
        have hzz : c.length + 1 ≤ 1000000 := by omega
        go_wp2_with (first
          | (refine op_load (p := .pointer (some ⟨bl, ol + z * 33, none⟩)) 34 (.tmp 32) rfl rfl rfl lo2 ?_)
          | (refine op_bsl 40 34 1 _ (flat enC [y]).toArray rfl rfl (by kernel_rfl) ?_)
          | (at_builtin; refine appS rfl _ _ rfl Tryz.underlying40 hi0 hz0 hz1 hz2 hz3 (by decide) _ w.heap.size ur c.length (flat enC c) rfl HO.out (.slice (some ⟨W.heap.size, 0, none⟩) 1 1) 1 (flat enC [y]) rfl HSR.out hFl hzz (by decide) HCA.out.below.size ?_; intro u2 w5 hown5 hgrow5 hob5 hb5; obtain ⟨g5, c5', rfl, hg5, hc5⟩ := own_some hown5 (by omega); have HC5 := Lib.hid (HCA.out.app (c' := c ++ [y]) hgrow5 hb5 (by rw [List.length_append, flat_app]; exact hown5)); have HD5 := Lib.hid (((HCA.out.mark (D := D) (by have := HD.out.1; omega) ((Below.heap_alloc W _ D (Array.getElem?_eq_some_iff.1 HD.out.2).1).trans HD.out.2)).app (c' := c ++ [y]) hgrow5 hb5 (by rw [List.length_append, flat_app]; exact hown5)).marks D (by simp)).2; clear hob5 hg5 hc5 hown5 hgrow5 hb5; have c5 := (HC5.out.box pn (k : Int) (by simp)).2.cell (j := 0) rfl; have f5 := (HC5.out.box pn (k : Int) (by simp)).2.free 0; have c6 := (HC5.out.box pl ((z : Nat) : Int) (by simp)).2.cell (j := 0) rfl))
        rw [show (z : Int) + 1 = ((z + 1 : Nat) : Int) by omega]
        have hnD : D ∉ ds := fun h => by
          have h1 := (HMK.out D h).2
          have := (Array.getElem?_eq_some_iff.1 h1).1
          have := HD.out.1
          omega
        have hs5 : (w5.setCell ⟨pn, 0, none⟩ (.int .i64 ((z + 1 : Nat) : Int))).heap.size = w5.heap.size := by simp
        have hm5 := ((HC5.out.mark (D := D) (by have := HD.out.1; omega) HD5.out).set (b := pn) (x := (k : Int)) (by simp) ((z + 1 : Nat) : Int) [] (by simp)).alloc (.cells #[.int .i64 ((z + 1 : Nat) : Int)] 3)
        have hnb := Blk.new (w5.setCell ⟨pn, 0, none⟩ (.int .i64 ((z + 1 : Nat) : Int))) 3 #[.int .i64 ((z + 1 : Nat) : Int)]
        rw [hs5] at hnb
        have hl5 := HC5.out.below.size
        refine HK.out _ _ (Handed.intro (N - (z + 1)) (by omega) (HJ.out _ _ _ ⟨z + 1, D :: ds, w5.heap.size, _, c ++ [y], _, _, _, _, _, _, _, _, _, _, _, _, _, _, _, _, _, _, _, _, _, _, _, _, _, _, _, _, _, _, by rw [HN.out], by rw [HN.out]; omega, List.nodup_cons.2 ⟨hnD, HCN.out.1⟩, ?_, ?_, hm5.more (b := w5.heap.size) (x := ((z + 1 : Nat) : Int)) hl5 hnb, rfl⟩))
        · rw [← HCN.out.2, HG.out]; simp
        · rw [List.length_append, List.length_singleton]; omega
      case stop =>
        rintro D c pre W hD hpre hf hK
        exact hf.elim
    · obtain rfl : k = N := by omega
      have t1 : decide ((k : Int) < (k : Int)) = false := decide_eq_false (by omega)
      clear hlt
      go_wp2_with fail
      have hc : countP l = c := by
        have h1 := HCN.out.2
        rw [List.drop_eq_nil_of_le (Nat.le_of_eq HN.out)] at h1
        rw [← h1]
        exact List.append_nil c
      show LeavesInM _ _ _ _ _ _ (ds.map mkD) .returning W
      rw [hc]
      exact leave_marks (fun W' => W'.ownsRow w.heap.size 34 33 ur c.length (flat enC c) ∧ Below w.heap.size w W') (fun W' h => ⟨_, results_tmp2 rfl _ _ _, _, rfl, h.1, h.2⟩) ds W HCN.out.1
        (fun D hD W' h hk => ⟨ownsRow_putObj h.1 _ hk rfl, h.2.grown (grownBy_putObj' W' D _) h.2.size (fun i e => by cases e; exact (HC.out.marks D hD).1)⟩) ⟨HC.out.own, HC.out.below⟩ (fun D hD => (HC.out.marks D hD).2)
/-- Counting of any list. -/
theorem counting_any (l : List En) (hin : ∀ e ∈ l, e.In) (hl : l.length ≤ 1000000) (v : Value) (w : World) (hv : ES w v l) : Calls Tryz.prog 18 #[v] w (fun r w' => ∃ u, r = .returned (.tuple #[u, .int .i64 (if setB l then 0 else 314)]) ∧ w'.ownsRow w.heap.size 34 33 u (cntL l).length (flat enC (cntL l)) ∧ Below w.heap.size w w') := by
  unfold cntL
  cases hs : setB l with
  | true => exact counting_yes l hin hl hs v w hv
  | false => exact (counting_no l hin hl hs v w hv).mono (fun r w' h => ⟨_, h.1, World.ownsRow_nil _ _ _ _, h.2⟩)
end Go.Proofs.YtpkmibmombpjpaaGreatDoor
