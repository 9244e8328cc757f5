/- ofKey and the contract of its iterator: it yields the entries of the key, with their indices, in their order. -/
import Derived.Test.YtpkmibmombpjpaaGreatDoorEZ
import Derived.Test.YtpkmibmombpjpaaGreatDoorKP
import Derived.Test.YtpkmibmombpjpaaGreatDoorRangeC
import Derived.Test.YtpkmibmombpjpaaGreatDoorInL
set_option linter.unusedSimpArgs false
namespace Go.Proofs.YtpkmibmombpjpaaGreatDoor
open Go Go.RowKit

set_option maxRecDepth 100000 in
theorem ofKey_any (v : Value) (hv : v.oneCell' = true) (e : En) (w : World) : Calls Tryz.prog 42 #[v, .agg (enC e)] w (fun r w' => ∃ p q, r = .returned (.func (.func 78) #[] #[.pointer (some ⟨p, 0, none⟩), .pointer (some ⟨q, 0, none⟩)]) ∧ Blk w' p 40 #[v] ∧ Blk w' q 34 (enC e) ∧ w.heap.size ≤ p ∧ p < q ∧ Below w.heap.size w w') := by
  have HP := Lib.hid ((Blk.new w 40 #[v]).alloc (.cells (enC e) 34))
  have HQ := Lib.hid (Blk.new (w.alloc (.cells #[v] 40)) 34 (enC e))
  have HW := Lib.hid ((below1 w (.cells #[v] 40)).alloc (by simp) (.cells (enC e) 34))
  rw [size_al] at HQ
  go_enter Tryz.func42, Tryz.ntmps42
  go_wp2_with fail
  go_ret
  exact ⟨_, _, rfl, HP.out, HQ.out, Nat.le_refl _, Nat.lt_succ_self _, HW.out⟩
end Go.Proofs.YtpkmibmombpjpaaGreatDoor
set_option linter.unusedSimpArgs false
namespace Go.Proofs.YtpkmibmombpjpaaGreatDoor
open Go Go.RowKit Go.Shelf
attribute [local go_sem] Oper.semAt_some

/-- An entry that is yielded, with its index. -/
structure KE where
  i : Nat
  e : En
  hi : i < 1000000
def encK (x : KE) : Array Value := #[.int .i64 ((x.i : Nat) : Int), .agg (enC x.e)]
/-- What a round keeps: all that there was below, and the iterator's two blocks. -/
structure KpK (B p q : Nat) (W W' : World) : Prop where
  below : Below B W W'
  hp : W'.heap[p]? = W.heap[p]?
  hq : W'.heap[q]? = W.heap[q]?
theorem KpK.trans {B p q : Nat} {A C D : World} (h : KpK B p q A C) (k : KpK B p q C D) : KpK B p q A D :=
  ⟨h.below.trans k.below, k.hp.trans h.hp, k.hq.trans h.hq⟩
theorem kpK_put {B p q M : Nat} (hB : B ≤ M) (hp : p < M) (hq : q < M) (W : World) (l : Nat) (o o' : Obj) (hl : M ≤ l) (h : W.heap[l]? = some o) : KpK B p q W (W.putObj l o') := by
  have hlt := (Array.getElem?_eq_some_iff.1 h).1
  exact ⟨(Below.refl _ W).grown (grownBy_putObj' W l o') (by omega) (fun k e => by cases e; omega), World.putObj_heap_other (by omega), World.putObj_heap_other (by omega)⟩
def StK (A B : World) : Prop := Below A.heap.size A B
/-- All of a key. -/
def AllK (l : List En) (e : En) (xs : List KE) : Prop := ∃ k, Split l e k ∧ xs.map (·.e) = runP (l.drop k) e ∧ xs.map (·.i) = List.range' k xs.length

set_option maxRecDepth 100000 in
set_option maxHeartbeats 4000000 in
theorem ofKey1_stops (n : Nat) (hn : 1 ≤ n) (w0 w : World) (p q : Nat) (v : Value) (l : List En) (e : En) (hl : l.length ≤ 1000000) (hmo : Mono l) (hv : ES w0 v l) (hw : Below w0.heap.size w0 w) (hp0 : w0.heap.size ≤ p) (hpq : p < q) (hp : Blk w p 40 #[v]) (hq : Blk w q 34 (enC e)) :
    SeqStopsC Fence.wide n Tryz.prog 78 #[.pointer (some ⟨p, 0, none⟩), .pointer (some ⟨q, 0, none⟩)] encK (KpK w0.heap.size p q) StK (AllK l e) (fun _ => True) l.length w := fun lp J Jx W hW hJ hJx hJ2 hJx2 hY h0 => by
  have HP : Hid (Blk W p 40 #[v]) := Lib.hid (hp.keep hW hp.lt)
  have HQ : Hid (Blk W q 34 (enC e)) := Lib.hid (hq.keep hW hq.lt)
  have HW : Hid (Below w0.heap.size w0 W) := Lib.hid (hw.trans (hW.mono hw.size))
  have HY := Lib.hid hY
  have HJ2 := Lib.hid hJ2
  have HJ0 := Lib.hid h0
  have HV := Lib.hid hv
  have HPQ := Lib.hid (And.intro hp0 hpq)
  have BS := Lib.hid (fun W2 (hb : Below w0.heap.size w0 W2) => bsearch_any l e hl (mono_e hmo e) v W2 (hv.keep hb))
  obtain ⟨A, cp, hve, -⟩ := hv.len
  obtain ⟨N, hN⟩ : ∃ N, l.length = N := ⟨_, rfl⟩
  rw [hN] at hl hve HY
  subst hve
  have HN := Lib.hid hN
  clear hY hJ2 hJ hJx hJx2 hW hp hq hw h0 hv hmo hN hp0 hpq
  clear w
  refine callsIn_of_wp Tryz.func78 rfl trivial ?_ rfl
  simp only [Tryz.ntmps78, List.size_toArray, List.length_cons, List.length_nil, Nat.reduceAdd, Nat.reduceSub, Array.replicate_succ, Array.replicate_zero, List.push_toArray, List.append_toArray, List.nil_append, List.cons_append]
  have x0 := HP.out.cell (j := 0) rfl
  have la := loadAt_blk (T := 34) HQ.out Tryz.underlying34 rfl (by rw [enC_size]; kernel_rfl)
  have CB := Lib.hid (BS.out W HW.out)
  clear BS
  gi_wp2_with (first
    | (refine in_load (p := .pointer (some ⟨q, 0, none⟩)) 34 (.tmp 2) rfl rfl rfl la ?_)
    | (refine ⟨trivial, ?_⟩; gi_at_call 79; refine (callsIn_wide.2 CB.out).mono ?_; rintro r w2 ⟨⟨k, b, rfl, hsp⟩, hb⟩))
  have HSP := Lib.hid hsp
  have HP2 := Lib.hid (HP.out.keep hb HP.out.lt)
  have HQ2 := Lib.hid (HQ.out.keep hb HQ.out.lt)
  have HW2 := Lib.hid (HW.out.trans (hb.mono HW.out.size))
  have HJ := Lib.hid (HJ2.out _ _ _ HJ0.out hb)
  clear hsp hb HP HQ HW HJ0 x0 la CB
  clear W
  gi_loopw [6] (fun s6 wr => ∃ (z : Nat) (pre : List KE), s6 = .int .i64 ((z : Nat) : Int) ∧ k ≤ z ∧ z ≤ N ∧ Hid (pre.map (·.e) = (l.drop k).take (z - k) ∧ (∀ x ∈ (l.drop k).take (z - k), cmpK x e = 0) ∧ pre.map (·.i) = List.range' k (z - k) ∧ pre.length = z - k) ∧ Hid (Blk wr p 40 #[.slice A N cp]) ∧ Hid (Blk wr q 34 (enC e)) ∧ Hid (Below w0.heap.size w0 wr) ∧ Hid (J pre wr)) (fun s6 _ => N - (intOf s6).toNat)
  case atStart => exact ⟨k, [], rfl, Nat.le_refl _, by have := HSP.out.le; rw [HN.out] at this; exact this, Lib.hid (by simp), HP2, HQ2, HW2, HJ⟩
  case round =>
    clear HP2 HQ2 HW2 HJ
    obtain ⟨z, pre, rfl, hkz, hzN, HPR, HP, HQ, HW, HJ⟩ := hrel
    have x0 := HP.out.cell (j := 0) rfl
    by_cases hlt : z < N
    · have u1 : decide ((z : Int) < (N : Int)) = true := decide_eq_true (by omega)
      obtain ⟨x, hx⟩ : ∃ x, l[z]? = some x := ⟨_, List.getElem?_eq_getElem (by rw [HN.out]; omega)⟩
      obtain ⟨bl, ol, rfl⟩ := HV.out.ptr (by rw [HN.out]; omega)
      have lo1 := fun W (hb : Below w0.heap.size w0 W) => HV.out.load hx hb
      have CK := Lib.hid (fun W => cmpK_any x e W)
      have HX := Lib.hid hx
      have j0 : (0 : Int) ≤ (z : Int) := by omega
      have j1 : (z : Int) < (N : Int) := by omega
      have j2 : ¬ (N : Int) ≤ (z : Int) := by omega
      have j3 : ¬ N ≤ z := by omega
      obtain ⟨d, hd⟩ : ∃ d, (cmpK x e == 0) = d := ⟨_, rfl⟩
      have HD := Lib.hid hd
      gi_wp2
      refine wpIn_wide.2 (rest_begin (by kernel_rfl) ?_)
      have HP3 : Hid (Blk wr.drew p 40 #[.slice (some ⟨bl, ol, none⟩) N cp]) := HP
      have HQ3 : Hid (Blk wr.drew q 34 (enC e)) := HQ
      have HW3 := Lib.hid HW.out.drew
      have HJ3 : Hid (J pre wr.drew) := Lib.hid (HJ2.out _ _ _ HJ.out (Below.refl _ wr).drew)
      clear HP HQ HW HJ x0 hx
      obtain ⟨W2, hW2⟩ : ∃ W2, wr.drew = W2 := ⟨_, rfl⟩
      rw [hW2] at HP3 HQ3 HW3 HJ3 ⊢
      clear hW2
      clear wr
      refine rest_flow3 [some 14, some 15, some 16, some 17, some 18, some 19, some 20, some 21, some 22, some 23, some 24, some 25] [Sp.is (.int .i64 ((z : Nat) : Int)), Sp.is (.slice (some ⟨bl, ol, none⟩) N cp), Sp.is (.int .i64 (N : Int)), Sp.is (.bool true), Sp.is (.bool true), Sp.is (.slice (some ⟨bl, ol, none⟩) N cp), Sp.is (.int .i64 ((z : Nat) : Int)), Sp.is (.pointer (some ⟨bl, ol + z * 33, none⟩)), Sp.is (.agg (enC x)), Sp.is (.agg (enC e)), Sp.is (.int .i64 (cmpK x e)), Sp.is (.bool d)] [false, false, false, false, false, false, false, false, false, false, false, false] 12 (by kernel_rfl) (by kernel_rfl) (fun u F hF => ?_) (fun u w' hbF hsF hold hap => ?_)
      case refine_1 =>
        have E6 : F.eval (.tmp 6) = (.int .i64 ((z : Nat) : Int)) := (congrArg (fun a => Act.eval a (.tmp 6)) hF).trans (eval_out [some 14, some 15, some 16, some 17, some 18, some 19, some 20, some 21, some 22, some 23, some 24, some 25] 0 _ (by decide))
        have E1 : F.eval (.tmp 1) = (.pointer (some ⟨p, 0, none⟩)) := (congrArg (fun a => Act.eval a (.tmp 1)) hF).trans (eval_out [some 14, some 15, some 16, some 17, some 18, some 19, some 20, some 21, some 22, some 23, some 24, some 25] 0 _ (by decide))
        have D15 : F.eval (.tmp 15) = u 1 := (congrArg (fun a => Act.eval a (.tmp 15)) hF).trans (eval_in [some 14, some 15, some 16, some 17, some 18, some 19, some 20, some 21, some 22, some 23, some 24, some 25] 0 1 _ (by decide) (by omega) rfl (of_decide_eq_true (by kernel_rfl)))
        have D14 : F.eval (.tmp 14) = u 0 := (congrArg (fun a => Act.eval a (.tmp 14)) hF).trans (eval_in [some 14, some 15, some 16, some 17, some 18, some 19, some 20, some 21, some 22, some 23, some 24, some 25] 0 0 _ (by decide) (by omega) rfl (of_decide_eq_true (by kernel_rfl)))
        have D16 : F.eval (.tmp 16) = u 2 := (congrArg (fun a => Act.eval a (.tmp 16)) hF).trans (eval_in [some 14, some 15, some 16, some 17, some 18, some 19, some 20, some 21, some 22, some 23, some 24, some 25] 0 2 _ (by decide) (by omega) rfl (of_decide_eq_true (by kernel_rfl)))
        have D17 : F.eval (.tmp 17) = u 3 := (congrArg (fun a => Act.eval a (.tmp 17)) hF).trans (eval_in [some 14, some 15, some 16, some 17, some 18, some 19, some 20, some 21, some 22, some 23, some 24, some 25] 0 3 _ (by decide) (by omega) rfl (of_decide_eq_true (by kernel_rfl)))
        have D18 : F.eval (.tmp 18) = u 4 := (congrArg (fun a => Act.eval a (.tmp 18)) hF).trans (eval_in [some 14, some 15, some 16, some 17, some 18, some 19, some 20, some 21, some 22, some 23, some 24, some 25] 0 4 _ (by decide) (by omega) rfl (of_decide_eq_true (by kernel_rfl)))
        have D19 : F.eval (.tmp 19) = u 5 := (congrArg (fun a => Act.eval a (.tmp 19)) hF).trans (eval_in [some 14, some 15, some 16, some 17, some 18, some 19, some 20, some 21, some 22, some 23, some 24, some 25] 0 5 _ (by decide) (by omega) rfl (of_decide_eq_true (by kernel_rfl)))
        have D20 : F.eval (.tmp 20) = u 6 := (congrArg (fun a => Act.eval a (.tmp 20)) hF).trans (eval_in [some 14, some 15, some 16, some 17, some 18, some 19, some 20, some 21, some 22, some 23, some 24, some 25] 0 6 _ (by decide) (by omega) rfl (of_decide_eq_true (by kernel_rfl)))
        have D21 : F.eval (.tmp 21) = u 7 := (congrArg (fun a => Act.eval a (.tmp 21)) hF).trans (eval_in [some 14, some 15, some 16, some 17, some 18, some 19, some 20, some 21, some 22, some 23, some 24, some 25] 0 7 _ (by decide) (by omega) rfl (of_decide_eq_true (by kernel_rfl)))
        have E2 : F.eval (.tmp 2) = (.pointer (some ⟨q, 0, none⟩)) := (congrArg (fun a => Act.eval a (.tmp 2)) hF).trans (eval_out [some 14, some 15, some 16, some 17, some 18, some 19, some 20, some 21, some 22, some 23, some 24, some 25] 0 _ (by decide))
        have D22 : F.eval (.tmp 22) = u 8 := (congrArg (fun a => Act.eval a (.tmp 22)) hF).trans (eval_in [some 14, some 15, some 16, some 17, some 18, some 19, some 20, some 21, some 22, some 23, some 24, some 25] 0 8 _ (by decide) (by omega) rfl (of_decide_eq_true (by kernel_rfl)))
        have D23 : F.eval (.tmp 23) = u 9 := (congrArg (fun a => Act.eval a (.tmp 23)) hF).trans (eval_in [some 14, some 15, some 16, some 17, some 18, some 19, some 20, some 21, some 22, some 23, some 24, some 25] 0 9 _ (by decide) (by omega) rfl (of_decide_eq_true (by kernel_rfl)))
        have D24 : F.eval (.tmp 24) = u 10 := (congrArg (fun a => Act.eval a (.tmp 24)) hF).trans (eval_in [some 14, some 15, some 16, some 17, some 18, some 19, some 20, some 21, some 22, some 23, some 24, some 25] 0 10 _ (by decide) (by omega) rfl (of_decide_eq_true (by kernel_rfl)))
        clear hF
        refine ⟨?_, ?_, ?_, ?_, ?_, ?_, ?_, ?_, ?_, ?_, ?_, ?_, trivial⟩
        · intro w1 hb hd K hK
          have e6 := E6
          exact op_val (v := (.int .i64 ((z : Nat) : Int))) rfl (by simp only [execOp, List.map_toArray, List.map_cons, List.map_nil, e6]; go_simp) (hK _ _ (show _ = _ from rfl) (Below.refl _ _) (Fresh.no _ _ _))
        · intro w1 hb hd K hK
          have e1 := E1
          have c0 : w1.cell? ⟨p, 0, none⟩ = some (.slice (some ⟨bl, ol, none⟩) N cp) := (HP3.out.keep hb HP3.out.lt).cell (j := 0) rfl
          exact op_val (v := (.slice (some ⟨bl, ol, none⟩) N cp)) rfl (by simp only [execOp, e1]; go_simp) (hK _ _ (show _ = _ from rfl) (Below.refl _ _) (Fresh.no _ _ _))
        · intro w1 hb hd K hK
          have e15 := D15.trans (show u 1 = (.slice (some ⟨bl, ol, none⟩) N cp) from hd ⟨1, .data⟩ (by simp) rfl (by omega))
          exact op_val (v := (.int .i64 (N : Int))) rfl (by have t15 := eval_get e15; simp only [execOp, List.map_toArray, List.map_cons, List.map_nil, e15]; go_simp) (hK _ _ (show _ = _ from rfl) (Below.refl _ _) (Fresh.no _ _ _))
        · intro w1 hb hd K hK
          have e14 := D14.trans (show u 0 = (.int .i64 ((z : Nat) : Int)) from hd ⟨0, .data⟩ (by simp) rfl (by omega))
          have e16 := D16.trans (show u 2 = (.int .i64 (N : Int)) from hd ⟨2, .data⟩ (by simp) rfl (by omega))
          exact op_val (v := (.bool true)) rfl (by simp only [execOp, List.map_toArray, List.map_cons, List.map_nil, e14, e16]; go_simp) (hK _ _ (show _ = _ from rfl) (Below.refl _ _) (Fresh.no _ _ _))
        · intro w1 hb hd K hK
          have e17 := D17.trans (show u 3 = (.bool true) from hd ⟨3, .data⟩ (by simp) rfl (by omega))
          exact op_val (v := (.bool true)) rfl (by simp only [execOp, List.map_toArray, List.map_cons, List.map_nil, e17]; go_simp) (hK _ _ (show _ = _ from rfl) (Below.refl _ _) (Fresh.no _ _ _))
        · intro w1 hb hd K hK
          have e1 := E1
          have g := D18.trans (show u 4 = .bool true from hd ⟨4, .guard⟩ (by simp) rfl (by omega))
          have c0 : w1.cell? ⟨p, 0, none⟩ = some (.slice (some ⟨bl, ol, none⟩) N cp) := (HP3.out.keep hb HP3.out.lt).cell (j := 0) rfl
          exact op_val_w (v := (.slice (some ⟨bl, ol, none⟩) N cp)) (wanted_of (j := 4) (s := 18) (b := true) (by kernel_rfl) (by kernel_rfl) g) (by simp only [execOp, e1]; go_simp) (hK _ _ (show _ = _ from rfl) (Below.refl _ _) (Fresh.no _ _ _))
        · intro w1 hb hd K hK
          have e6 := E6
          have g := D18.trans (show u 4 = .bool true from hd ⟨4, .guard⟩ (by simp) rfl (by omega))
          exact op_val_w (v := (.int .i64 ((z : Nat) : Int))) (wanted_of (j := 4) (s := 18) (b := true) (by kernel_rfl) (by kernel_rfl) g) (by simp only [execOp, List.map_toArray, List.map_cons, List.map_nil, e6]; go_simp) (hK _ _ (show _ = _ from rfl) (Below.refl _ _) (Fresh.no _ _ _))
        · intro w1 hb hd K hK
          have e19 := D19.trans (show u 5 = (.slice (some ⟨bl, ol, none⟩) N cp) from hd ⟨5, .data⟩ (by simp) rfl (by omega))
          have e20 := D20.trans (show u 6 = (.int .i64 ((z : Nat) : Int)) from hd ⟨6, .data⟩ (by simp) rfl (by omega))
          have g := D18.trans (show u 4 = .bool true from hd ⟨4, .guard⟩ (by simp) rfl (by omega))
          exact op_val_w (v := (.pointer (some ⟨bl, ol + z * 33, none⟩))) (wanted_of (j := 4) (s := 18) (b := true) (by kernel_rfl) (by kernel_rfl) g) (by simp only [execOp, List.map_toArray, List.map_cons, List.map_nil, e19, e20]; go_simp) (hK _ _ (show _ = _ from rfl) (Below.refl _ _) (Fresh.no _ _ _))
        · intro w1 hb hd K hK
          have e21 := D21.trans (show u 7 = (.pointer (some ⟨bl, ol + z * 33, none⟩)) from hd ⟨7, .data⟩ (by simp) rfl (by omega))
          have g := D18.trans (show u 4 = .bool true from hd ⟨4, .guard⟩ (by simp) rfl (by omega))
          exact op_val_w (v := (.agg (enC x))) (wanted_of (j := 4) (s := 18) (b := true) (by kernel_rfl) (by kernel_rfl) g) (exec_load rfl e21 (lo1 w1 (HW3.out.trans (hb.mono HW3.out.size)))) (hK _ _ (show _ = _ from rfl) (Below.refl _ _) (Fresh.no _ _ _))
        · intro w1 hb hd K hK
          have e2 := E2
          have g := D18.trans (show u 4 = .bool true from hd ⟨4, .guard⟩ (by simp) rfl (by omega))
          exact op_val_w (v := (.agg (enC e))) (wanted_of (j := 4) (s := 18) (b := true) (by kernel_rfl) (by kernel_rfl) g) (exec_load rfl e2 (loadAt_blk (HQ3.out.keep hb HQ3.out.lt) Tryz.underlying34 rfl (by rw [enC_size]; kernel_rfl))) (hK _ _ (show _ = _ from rfl) (Below.refl _ _) (Fresh.no _ _ _))
        · intro w1 hb hd K hK
          have e22 := D22.trans (show u 8 = (.agg (enC x)) from hd ⟨8, .data⟩ (by simp) rfl (by omega))
          have e23 := D23.trans (show u 9 = (.agg (enC e)) from hd ⟨9, .data⟩ (by simp) rfl (by omega))
          have g := D18.trans (show u 4 = .bool true from hd ⟨4, .guard⟩ (by simp) rfl (by omega))
          refine op_call_w (R := fun v w2 => v = (.int .i64 (cmpK x e)) ∧ Below w1.heap.size w1 w2) (f := 54) (args := #[.agg (enC x), .agg (enC e)]) (wanted_of (j := 4) (s := 18) (b := true) (by kernel_rfl) (by kernel_rfl) g) (by simp only [execOp]; go_simp; first | exact ⟨eval_get e22, eval_get e23⟩ | (simp only [Act.eval] at *; simp_all)) ((CK.out w1).mono fun e w2 hh => ⟨_, hh.1, rfl, hh.2⟩) (fun v w2 hh => hK _ _ hh.1 hh.2 (Fresh.no _ _ _))
        · intro w1 hb hd K hK
          have e24 := D24.trans (show u 10 = (.int .i64 (cmpK x e)) from hd ⟨10, .data⟩ (by simp) rfl (by omega))
          have g := D18.trans (show u 4 = .bool true from hd ⟨4, .guard⟩ (by simp) rfl (by omega))
          exact op_val_w (v := (.bool d)) (wanted_of (j := 4) (s := 18) (b := true) (by kernel_rfl) (by kernel_rfl) g) (by simp only [execOp, List.map_toArray, List.map_cons, List.map_nil, e24]; go_simp) (hK _ _ (show _ = _ from rfl) (Below.refl _ _) (Fresh.no _ _ _))
      have hv14 : u 0 = (.int .i64 ((z : Nat) : Int)) := (show u 0 = _ from hsF 0 (by omega) (by omega))
      have hv15 : u 1 = (.slice (some ⟨bl, ol, none⟩) N cp) := (show u 1 = _ from hsF 1 (by omega) (by omega))
      have hv16 : u 2 = (.int .i64 (N : Int)) := (show u 2 = _ from hsF 2 (by omega) (by omega))
      have hv17 : u 3 = (.bool true) := (show u 3 = _ from hsF 3 (by omega) (by omega))
      have hv18 : u 4 = (.bool true) := (show u 4 = _ from hsF 4 (by omega) (by omega))
      have hv19 : u 5 = (.slice (some ⟨bl, ol, none⟩) N cp) := (show u 5 = _ from hsF 5 (by omega) (by omega))
      have hv20 : u 6 = (.int .i64 ((z : Nat) : Int)) := (show u 6 = _ from hsF 6 (by omega) (by omega))
      have hv21 : u 7 = (.pointer (some ⟨bl, ol + z * 33, none⟩)) := (show u 7 = _ from hsF 7 (by omega) (by omega))
      have hv22 : u 8 = (.agg (enC x)) := (show u 8 = _ from hsF 8 (by omega) (by omega))
      have hv23 : u 9 = (.agg (enC e)) := (show u 9 = _ from hsF 9 (by omega) (by omega))
      have hv24 : u 10 = (.int .i64 (cmpK x e)) := (show u 10 = _ from hsF 10 (by omega) (by omega))
      have hv25 : u 11 = (.bool d) := (show u 11 = _ from hsF 11 (by omega) (by omega))
      simp only [putRow, hv14, hv15, hv16, hv17, hv18, hv19, hv20, hv21, hv22, hv23, hv24, hv25, Act.put, List.setIfInBounds_toArray, List.set_cons_succ, List.set_cons_zero]
      clear hsF hold hap hv14 hv15 hv16 hv17 hv18 hv19 hv20 hv21 hv22 hv23 hv24 hv25
      have HP4 := Lib.hid (HP3.out.keep hbF HP3.out.lt)
      have HQ4 := Lib.hid (HQ3.out.keep hbF HQ3.out.lt)
      have HW4 := Lib.hid (HW3.out.trans (hbF.mono HW3.out.size))
      have HJ4 := Lib.hid (HJ2.out _ _ _ HJ3.out hbF)
      clear HP3 HQ3 HW3 HJ3 hbF CK u1 hd
      clear W2
      refine rest_forced 1 (by kernel_rfl) ?_
      simp only [List.drop_succ_cons, List.drop_zero, List.take_succ_cons, List.take_zero]
      cases d with
      | true =>
        have hzk : (l.drop k).take (z + 1 - k) = (l.drop k).take (z - k) ++ [x] := by
          rw [show z + 1 - k = (z - k) + 1 by omega]
          refine take_more ?_
          rw [List.getElem?_drop, show k + (z - k) = z by omega]
          exact HX.out
        obtain ⟨ke, hke⟩ : ∃ ke : KE, ke = ⟨z, x, by omega⟩ := ⟨_, rfl⟩
        have HPR2 : Hid ((pre ++ [ke]).map (·.e) = (l.drop k).take (z + 1 - k) ∧ (∀ y ∈ (l.drop k).take (z + 1 - k), cmpK y e = 0) ∧ (pre ++ [ke]).map (·.i) = List.range' k (z + 1 - k) ∧ (pre ++ [ke]).length = z + 1 - k) := Lib.hid (by
          obtain ⟨a1, a2, a3, a4⟩ := HPR.out
          subst hke
          refine ⟨?_, ?_, ?_, ?_⟩
          · rw [hzk, List.map_append, a1]; rfl
          · rw [hzk]
            intro y hy
            rcases List.mem_append.1 hy with hy | hy
            · exact a2 y hy
            · rw [List.mem_singleton.1 hy]
              have := HD.out
              simpa using this
          · rw [show z + 1 - k = (z - k) + 1 by omega, List.range'_concat, List.map_append, a3]
            simp
            omega
          · rw [List.length_append, a4]; simp; omega)
        obtain ⟨fn, tmps, assign, body, hy, hR⟩ := HY.out pre ke w' HJ4.out (by rw [HPR.out.2.2.2]; omega)
        subst hke
        simp only [encK] at hy
        have la := lo1 w' HW4.out
        have x0 := HP4.out.cell (j := 0) rfl
        have e1 : IntKind.i64.wrap ((z : Int) + 1) = (z : Int) + 1 := IntWalk.i64_in _ (by omega)
        clear lo1 HPR hzk
        go_wp2_with fail
        refine rest_done rfl ?_
        gi_wp2_with (refine in_load (p := .pointer (some ⟨bl, ol + z * 33, none⟩)) 34 (.tmp 33) rfl rfl rfl la ?_)
        refine hR.mono ?_
        rintro r W' (⟨rfl, hJ', hk'⟩ | ⟨rfl, hJx'⟩)
        · have HJ5 := Lib.hid hJ'
          have HP5 : Hid (Blk W' p 40 #[.slice (some ⟨bl, ol, none⟩) N cp]) := Lib.hid (hk'.hp.trans HP4.out)
          have HQ5 : Hid (Blk W' q 34 (enC e)) := Lib.hid (hk'.hq.trans HQ4.out)
          have HW5 := Lib.hid (HW4.out.trans hk'.below)
          clear hJ' hk' hR la x0 HP4 HQ4 HW4 HJ4 hy
          gi_wp2
          go_roundw
          case rel => exact ⟨z + 1, _, by simp, by omega, by omega, HPR2, HP5, HQ5, HW5, HJ5⟩
          case measure => simp only [intOf]; omega
        · have HJ5 := Lib.hid hJx'
          clear hJx' hR la x0 HP4 HQ4 HW4 HJ4 hy
          gi_wp2
          refine bodyPost_ret (results_none rfl _ _ _) rfl ?_
          exact ⟨⟨_, rfl⟩, .inr ⟨_, trivial, HJ5.out⟩⟩
      | false =>
        have HA : Hid (AllK l e pre) := Lib.hid (by
          obtain ⟨a1, a2, a3, a4⟩ := HPR.out
          refine ⟨k, HSP.out, ?_, by rw [a4]; exact a3⟩
          rw [a1]
          refine (takeW_take _ _ _ (by rw [List.length_drop, HN.out]; omega) (fun y hy => by simp [a2 y hy]) (fun y hy => ?_)).symm
          rw [List.getElem?_drop, show k + (z - k) = z by omega, HX.out] at hy
          cases hy
          exact HD.out)
        clear lo1 HPR
        go_wp2_with fail
        refine rest_done rfl ?_
        gi_wp2
        go_end0
        exact ⟨⟨_, rfl⟩, .inl ⟨pre, HA.out, HJ4.out⟩⟩
    · obtain rfl : z = N := by omega
      have u1 : decide ((z : Int) < (z : Int)) = false := decide_eq_false (by omega)
      have HA : Hid (AllK l e pre) := Lib.hid (by
        obtain ⟨a1, a2, a3, a4⟩ := HPR.out
        refine ⟨k, HSP.out, ?_, by rw [a4]; exact a3⟩
        rw [a1]
        refine (takeW_take _ _ _ (by rw [List.length_drop, HN.out]; omega) (fun y hy => by simp [a2 y hy]) (fun y hy => ?_)).symm
        have := (List.getElem?_eq_some_iff.1 hy).1
        rw [List.length_drop, HN.out] at this
        omega)
      have HJ4 := Lib.hid (fun nq => HJ2.out _ _ _ HJ.out (below_drewN (Below.refl wr.heap.size wr) nq))
      clear HPR HQ HJ hlt
      gi_wp2
      refine wpIn_wide.2 ?_
      go_quiet (fail)
      gi_wp2
      go_end0
      exact ⟨⟨_, rfl⟩, .inl ⟨pre, HA.out, HJ4.out _⟩⟩
end Go.Proofs.YtpkmibmombpjpaaGreatDoor
