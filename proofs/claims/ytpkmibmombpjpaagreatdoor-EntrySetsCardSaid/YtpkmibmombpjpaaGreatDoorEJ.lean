/- Entries in a row of memory; sets; lists that are the same. -/
import Derived.Test.YtpkmibmombpjpaaGreatDoorEI
import Derived.Test.YtpkmibmombpjpaaGreatDoorEO
set_option linter.unusedSimpArgs false
namespace Go.Proofs.YtpkmibmombpjpaaGreatDoor
open Go Go.RowKit

/-- A slice of values of several cells each, nil or not. -/
inductive LS {α : Type} (enc : α → Array Value) (sz : Nat) (W : World) : Value → List α → Prop
  | none_ : LS enc sz W (.slice none 0 0) []
  | some_ (b o cap : Nat) (l : List α) (hb : b < W.heap.size) (hc : l.length ≤ cap) (h : ∀ i e, l[i]? = some e → ∀ j v, (enc e)[j]? = some v → W.cell? ⟨b, o + i * sz + j, none⟩ = some v) : LS enc sz W (.slice (some ⟨b, o, none⟩) l.length cap) l
section
variable {α : Type} {enc : α → Array Value} {sz : Nat}
theorem LS.keep {W W' : World} {v : Value} {l : List α} (h : LS enc sz W v l) (hb : Below W.heap.size W W') : LS enc sz W' v l := by
  cases h with
  | none_ => exact .none_
  | some_ b o cap l hlt hc h => exact .some_ b o cap l (Nat.lt_of_lt_of_le hlt hb.size) hc (fun i e hi j v hj => keepW hb (h i e hi j v hj))
theorem LS.len {W : World} {v : Value} {l : List α} (h : LS enc sz W v l) : ∃ A cap, v = .slice A l.length cap ∧ l.length ≤ cap := by
  cases h with
  | none_ => exact ⟨_, _, rfl, Nat.le_refl _⟩
  | some_ b o cap l _ hc h => exact ⟨_, _, rfl, hc⟩
/-- Where one of them lies. -/
theorem LS.at {W : World} {A : Option Addr} {n cap i : Nat} {l : List α} {e : α} (h : LS enc sz W (.slice A n cap) l) (hi : l[i]? = some e) : ∃ b o, A = some ⟨b, o, none⟩ ∧ b < W.heap.size ∧ ∀ j v, (enc e)[j]? = some v → W.cell? ⟨b, o + i * sz + j, none⟩ = some v := by
  cases h with
  | none_ => simp at hi
  | some_ b o cap l hlt hc h => exact ⟨b, o, rfl, hlt, h i e hi⟩
theorem LS.load {T : TypeId} {d : TypeDesc} (hu : Tryz.prog.underlying T = some d) (hd : (match d with | .struct _ | .array _ _ => true | _ => false) = true) {W W' : World} {n cap i b o : Nat} {l : List α} {e : α} (hsz : (Tryz.prog.info? T).map (·.size) = some (enc e).size) (h : LS enc sz W (.slice (some ⟨b, o, none⟩) n cap) l) (hi : l[i]? = some e) (hb : Below W.heap.size W W') : (Instr.loadAt T (.pointer (some ⟨b, o + i * sz, none⟩))).run Tryz.prog W' = .ok (.agg (enc e)) W' := by
  obtain ⟨_, _, e1, _, hc⟩ := h.at hi
  cases e1
  exact loadAt_run hu hd hsz (fun j v hj => keepW hb (hc j v hj))
theorem LS.ptr {W : World} {A : Option Addr} {n cap : Nat} {l : List α} (h : LS enc sz W (.slice A n cap) l) (hn : 0 < l.length) : ∃ b o, A = some ⟨b, o, none⟩ := by
  cases h with
  | none_ => simp at hn
  | some_ b o cap l hlt hc h => exact ⟨b, o, rfl⟩
/-- A part of it. -/
theorem slice_ls {T : TypeId} (hu : Tryz.prog.underlying T = some (.slice (Tryz.prog.elem T))) (hs : ∀ W, (sizeOf (Tryz.prog.elem T)).run Tryz.prog W = .ok sz W) {b o n c lo hi : Nat} (h1 : lo ≤ hi) (h2 : hi ≤ c) : ∃ A : Addr, (∀ W, (Instr.sliceAt T (.slice (some ⟨b, o, none⟩) n c) (some (.int .i64 (lo : Int))) (some (.int .i64 (hi : Int))) none).run Tryz.prog W = .ok (.slice (some A) (hi - lo) (c - lo)) W) ∧
    (hi = n → ∀ W, (Instr.sliceAt T (.slice (some ⟨b, o, none⟩) n c) (some (.int .i64 (lo : Int))) none none).run Tryz.prog W = .ok (.slice (some A) (hi - lo) (c - lo)) W) ∧
    (lo = 0 → ∀ W, (Instr.sliceAt T (.slice (some ⟨b, o, none⟩) n c) none (some (.int .i64 (hi : Int))) none).run Tryz.prog W = .ok (.slice (some A) (hi - lo) (c - lo)) W) ∧
    ∀ (W : World) (l : List α), LS enc sz W (.slice (some ⟨b, o, none⟩) n c) l → hi ≤ n → LS enc sz W (.slice (some A) (hi - lo) (c - lo)) ((l.take hi).drop lo) := by
  have g1 : (0 : Int) ≤ (lo : Int) ∧ (lo : Int) ≤ (hi : Int) := by omega
  have g2 : (0 : Int) ≤ (hi : Int) ∧ (hi : Int) ≤ (c : Int) := by omega
  refine ⟨if c = lo then ⟨b, o, none⟩ else ⟨b, o + lo * sz, none⟩, fun W => ?_, fun hn W => ?_, fun h0 W => ?_, fun W l h hle => ?_⟩
  · rw [run_sliceAt_slice _ _ _ _ _ _ hu, run_slice_lh _ _ _ _ _ hu _ _ _ _ g1.1 g1.2 g2.2]
    simp only [hs, Result.andThen_ok, sliced, Int.toNat_natCast]
    split <;> simp [Addr.add]
  · subst hn
    rw [run_sliceAt_slice _ _ _ _ _ _ hu, run_slice_any _ _ _ _ _ hu]
    simp only [Instr.sliceBounds, Sem.run_bind, Sem.run_pure, run_sliceBound_if, g1, and_self, if_true, Int.toNat_natCast, Result.andThen_ok, hs, sliced]
    simp [hs]
    split <;> simp [Addr.add]
  · subst h0
    rw [run_sliceAt_slice _ _ _ _ _ _ hu, run_slice_h _ _ _ _ _ hu _ _ g2.1 g2.2]
    simp only [hs, Result.andThen_ok, sliced, Int.toNat_natCast]
    split <;> simp [Addr.add]
  · cases h with
    | some_ b o cap l hlt hc h =>
      have hl : ((l.take hi).drop lo).length = hi - lo := by simp; omega
      have := LS.some_ (W := W) b (if c = lo then o else o + lo * sz) (c - lo) ((l.take hi).drop lo) hlt (by rw [hl]; omega) (fun i e he j v hj => by
        have hlt2 := (List.getElem?_eq_some_iff.1 he).1
        rw [if_neg (by omega), show o + lo * sz + i * sz + j = o + (lo + i) * sz + j by rw [Nat.add_mul]; omega]
        refine h (lo + i) e ?_ j v hj
        rw [List.getElem?_drop, List.getElem?_take] at he
        split at he
        · exact he
        · cases he)
      rw [hl] at this
      split
      · rename_i hx; rwa [if_pos hx] at this
      · rename_i hx; rwa [if_neg hx] at this
end
abbrev ES (W : World) : Value → List En → Prop := LS enC 33 W
theorem ES.load {W W' : World} {n cap i b o : Nat} {l : List En} {e : En} (h : ES W (.slice (some ⟨b, o, none⟩) n cap) l) (hi : l[i]? = some e) (hb : Below W.heap.size W W') : (Instr.loadAt 34 (.pointer (some ⟨b, o + i * 33, none⟩))).run Tryz.prog W' = .ok (.agg (enC e)) W' :=
  LS.load Tryz.underlying34 rfl (by rw [enC_size]; kernel_rfl) h hi hb
/-- A list that is a set. -/
def setB : List En → Bool
  | a :: b :: r => decide (cmpE a b < 0) && setB (b :: r)
  | _ => true
theorem setB_snoc : ∀ (l : List En) (a b : En), setB (l ++ [a, b]) = (setB (l ++ [a]) && decide (cmpE a b < 0))
  | [], a, b => by simp [setB]
  | [x], a, b => by simp [setB]
  | x :: y :: l, a, b => by
    show (decide (cmpE x y < 0) && setB (y :: l ++ [a, b])) = (decide (cmpE x y < 0) && setB (y :: l ++ [a]) && decide (cmpE a b < 0))
    rw [setB_snoc (y :: l) a b, Bool.and_assoc]
theorem setB_stop : ∀ (l m : List En), setB l = false → setB (l ++ m) = false
  | [], _, h => by cases h
  | [_], _, h => by cases h
  | x :: y :: l, m, h => by
    show (decide (cmpE x y < 0) && setB (y :: l ++ m)) = false
    have h : (decide (cmpE x y < 0) && setB (y :: l)) = false := h
    rcases hx : decide (cmpE x y < 0) with _ | _
    · rfl
    · rw [hx] at h
      rw [setB_stop (y :: l) m h]; rfl
theorem setB_step {l : List En} {k : Nat} {a b : En} (ha : l[k]? = some a) (hb : l[k + 1]? = some b) : setB (l.take (k + 2)) = (setB (l.take (k + 1)) && decide (cmpE a b < 0)) := by
  rw [take_more hb, take_more ha, List.append_assoc]
  exact setB_snoc _ a b
theorem setB_take {l : List En} {k : Nat} (h : setB (l.take k) = false) : setB l = false := by
  rw [← List.take_append_drop k l]
  exact setB_stop _ _ h
set_option maxRecDepth 100000 in
set_option maxHeartbeats 4000000 in
theorem isSet_any (l : List En) (hin : ∀ e ∈ l, e.In) (hl : l.length ≤ 1000000) (v : Value) (w : World) (hv : ES w v l) : Calls Tryz.prog 40 #[v] w (fun r w' => r = .returned (.bool (setB l)) ∧ Below w.heap.size w w') := by
  obtain ⟨A, cp, rfl, hcp⟩ := hv.len
  obtain ⟨R, hR⟩ : ∃ R, setB l = R := ⟨_, rfl⟩
  rw [hR]
  have HR := Lib.hid hR
  have HV := Lib.hid hv
  have HIN := Lib.hid hin
  obtain ⟨n, hn⟩ : ∃ n, l.length = n := ⟨_, rfl⟩
  rw [hn] at hl HV ⊢
  have HN := Lib.hid hn
  clear hR hv hin hn hcp
  go_enter Tryz.func40, Tryz.ntmps40
  go_wp2_with fail
  go_loopw [3] (fun s3 wr => ∃ (k : Nat) (z : Int), z = (k : Int) + 1 ∧ (k + 1 ≤ n ∨ k = 0) ∧ s3 = .int .i64 z ∧ Hid (setB (l.take (k + 1)) = true) ∧ Hid (Below w.heap.size w wr)) (fun s3 _ => n - (intOf s3).toNat)
  case atStart => exact ⟨0, 1, rfl, Or.inr rfl, rfl, Lib.hid (by cases l with | nil => rfl | cons a r => rfl), Lib.hid (Below.refl _ _)⟩
  case round =>
    obtain ⟨k, z, hz, hk, rfl, HS, HW⟩ := hrel
    by_cases hlt : z < (n : Int)
    · have u1 : decide (z < (n : Int)) = true := decide_eq_true hlt
      obtain ⟨a, ha⟩ : ∃ a, l[k]? = some a := ⟨_, List.getElem?_eq_getElem (by rw [HN.out]; omega)⟩
      obtain ⟨b, hb⟩ : ∃ b, l[k + 1]? = some b := ⟨_, List.getElem?_eq_getElem (by rw [HN.out]; omega)⟩
      obtain ⟨bl, ol, rfl⟩ := HV.out.ptr (by rw [HN.out]; omega)
      have HA := Lib.hid (And.intro ha hb)
      have CE := Lib.hid (fun W => cmpE_any a b (HIN.out a (List.mem_of_getElem? ha)) (HIN.out b (List.mem_of_getElem? hb)) W)
      have e1 : IntKind.i64.wrap (z - 1) = (k : Int) := by rw [show z - 1 = (k : Int) by omega]; exact IntWalk.i64_in _ (by omega)
      have e2 : z.toNat = k + 1 := by omega
      have j0 : (0 : Int) ≤ (k : Int) := by omega
      have j1 : (k : Int) < (n : Int) := by omega
      have j2 : (0 : Int) ≤ z := by omega
      have j3 : ¬ (n : Int) ≤ (k : Int) := by omega
      have j4 : ¬ (n : Int) ≤ z := by omega
      have j5 : ¬ z < 0 := by omega
      have j6 : ¬ n ≤ k := by omega
      have e3 : IntKind.i64.wrap (z + 1) = z + 1 := IntWalk.i64_in _ (by omega)
      have HK := Lib.hid (And.intro hz hk)
      have HRR := Lib.hid (setB_step ha hb)
      clear ha hb hz hk
      go_upto_region 4 with fail
      have HW2 := Lib.hid HW.out.drew
      refine rest_begin (by kernel_rfl) ?_
      obtain ⟨W4, hW4⟩ : ∃ W4, wr.drew = W4 := ⟨_, rfl⟩
      rw [hW4] at HW2 ⊢
      clear hW4 HW u1
      clear wr
      have lo1 := fun W (h : Below w.heap.size w W) => HV.out.load HA.out.1 h
      have lo2 := fun W (h : Below w.heap.size w W) => HV.out.load HA.out.2 h
      refine rest_flow3 [some 10, some 11, some 12, some 13, some 14, some 15, some 16, some 17, some 18, some 19] [Sp.is (.slice (some ⟨bl, ol, none⟩) n cp), Sp.is (.int .i64 z), Sp.is (.int .i64 (k : Int)), Sp.is (.pointer (some ⟨bl, ol + k * 33, none⟩)), Sp.is (.agg (enC a)), Sp.is (.slice (some ⟨bl, ol, none⟩) n cp), Sp.is (.int .i64 z), Sp.is (.pointer (some ⟨bl, ol + (k + 1) * 33, none⟩)), Sp.is (.agg (enC b)), Sp.is (.int .i64 (cmpE a b))] [false, false, false, false, false, false, false, false, false, false] 10 (by kernel_rfl) (by kernel_rfl) (fun u F hF => ?_) (fun u w' hbF hsF hold hap => ?_)
      case refine_1 =>
        have E0 : F.eval (.tmp 0) = (.slice (some ⟨bl, ol, none⟩) n cp) := (congrArg (fun a => Act.eval a (.tmp 0)) hF).trans (eval_out _ 0 _ (by decide))
        have E3 : F.eval (.tmp 3) = (.int .i64 z) := (congrArg (fun a => Act.eval a (.tmp 3)) hF).trans (eval_out _ 0 _ (by decide))
        have D11 : F.eval (.tmp 11) = u 1 := (congrArg (fun a => Act.eval a (.tmp 11)) hF).trans (eval_in _ 0 1 _ (by decide) (by omega) rfl (of_decide_eq_true (by kernel_rfl)))
        have D10 : F.eval (.tmp 10) = u 0 := (congrArg (fun a => Act.eval a (.tmp 10)) hF).trans (eval_in _ 0 0 _ (by decide) (by omega) rfl (of_decide_eq_true (by kernel_rfl)))
        have D12 : F.eval (.tmp 12) = u 2 := (congrArg (fun a => Act.eval a (.tmp 12)) hF).trans (eval_in _ 0 2 _ (by decide) (by omega) rfl (of_decide_eq_true (by kernel_rfl)))
        have D13 : F.eval (.tmp 13) = u 3 := (congrArg (fun a => Act.eval a (.tmp 13)) hF).trans (eval_in _ 0 3 _ (by decide) (by omega) rfl (of_decide_eq_true (by kernel_rfl)))
        have D15 : F.eval (.tmp 15) = u 5 := (congrArg (fun a => Act.eval a (.tmp 15)) hF).trans (eval_in _ 0 5 _ (by decide) (by omega) rfl (of_decide_eq_true (by kernel_rfl)))
        have D16 : F.eval (.tmp 16) = u 6 := (congrArg (fun a => Act.eval a (.tmp 16)) hF).trans (eval_in _ 0 6 _ (by decide) (by omega) rfl (of_decide_eq_true (by kernel_rfl)))
        have D17 : F.eval (.tmp 17) = u 7 := (congrArg (fun a => Act.eval a (.tmp 17)) hF).trans (eval_in _ 0 7 _ (by decide) (by omega) rfl (of_decide_eq_true (by kernel_rfl)))
        have D14 : F.eval (.tmp 14) = u 4 := (congrArg (fun a => Act.eval a (.tmp 14)) hF).trans (eval_in _ 0 4 _ (by decide) (by omega) rfl (of_decide_eq_true (by kernel_rfl)))
        have D18 : F.eval (.tmp 18) = u 8 := (congrArg (fun a => Act.eval a (.tmp 18)) hF).trans (eval_in _ 0 8 _ (by decide) (by omega) rfl (of_decide_eq_true (by kernel_rfl)))
        clear hF
        refine ⟨?_, ?_, ?_, ?_, ?_, ?_, ?_, ?_, ?_, ?_, trivial⟩
        · intro w1 hb hd K hK
          have e0 := E0
          exact op_val (v := (.slice (some ⟨bl, ol, none⟩) n cp)) rfl (by simp only [execOp, List.map_toArray, List.map_cons, List.map_nil, e0]; go_simp) (hK _ _ (show _ = _ from rfl) (Below.refl _ _) (Fresh.no _ _ _))
        · intro w1 hb hd K hK
          have e3 := E3
          exact op_val (v := (.int .i64 z)) rfl (by simp only [execOp, List.map_toArray, List.map_cons, List.map_nil, e3]; go_simp) (hK _ _ (show _ = _ from rfl) (Below.refl _ _) (Fresh.no _ _ _))
        · intro w1 hb hd K hK
          have e11 := D11.trans (show u 1 = _ from hd ⟨1, .data⟩ (by simp) rfl (by omega))
          exact op_val (v := (.int .i64 (k : Int))) rfl (by simp only [execOp, List.map_toArray, List.map_cons, List.map_nil, e11]; go_simp) (hK _ _ (show _ = _ from rfl) (Below.refl _ _) (Fresh.no _ _ _))
        · intro w1 hb hd K hK
          have e10 := D10.trans (show u 0 = _ from hd ⟨0, .data⟩ (by simp) rfl (by omega))
          have e12 := D12.trans (show u 2 = _ from hd ⟨2, .data⟩ (by simp) rfl (by omega))
          exact op_val (v := (.pointer (some ⟨bl, ol + k * 33, none⟩))) rfl (by simp only [execOp, List.map_toArray, List.map_cons, List.map_nil, e10, e12]; go_simp) (hK _ _ (show _ = _ from rfl) (Below.refl _ _) (Fresh.no _ _ _))
        · intro w1 hb hd K hK
          have e13 := D13.trans (show u 3 = _ from hd ⟨3, .data⟩ (by simp) rfl (by omega))
          exact op_val (v := (.agg (enC a))) rfl (exec_load rfl e13 (lo1 w1 (HW2.out.trans (hb.mono HW2.out.size)))) (hK _ _ (show _ = _ from rfl) (Below.refl _ _) (Fresh.no _ _ _))
        · intro w1 hb hd K hK
          have e0 := E0
          exact op_val (v := (.slice (some ⟨bl, ol, none⟩) n cp)) rfl (by simp only [execOp, List.map_toArray, List.map_cons, List.map_nil, e0]; go_simp) (hK _ _ (show _ = _ from rfl) (Below.refl _ _) (Fresh.no _ _ _))
        · intro w1 hb hd K hK
          have e3 := E3
          exact op_val (v := (.int .i64 z)) rfl (by simp only [execOp, List.map_toArray, List.map_cons, List.map_nil, e3]; go_simp) (hK _ _ (show _ = _ from rfl) (Below.refl _ _) (Fresh.no _ _ _))
        · intro w1 hb hd K hK
          have e15 := D15.trans (show u 5 = _ from hd ⟨5, .data⟩ (by simp) rfl (by omega))
          have e16 := D16.trans (show u 6 = _ from hd ⟨6, .data⟩ (by simp) rfl (by omega))
          exact op_val (v := (.pointer (some ⟨bl, ol + (k + 1) * 33, none⟩))) rfl (by simp only [execOp, List.map_toArray, List.map_cons, List.map_nil, e15, e16]; go_simp) (hK _ _ (show _ = _ from rfl) (Below.refl _ _) (Fresh.no _ _ _))
        · intro w1 hb hd K hK
          have e17 := D17.trans (show u 7 = _ from hd ⟨7, .data⟩ (by simp) rfl (by omega))
          exact op_val (v := (.agg (enC b))) rfl (exec_load rfl e17 (lo2 w1 (HW2.out.trans (hb.mono HW2.out.size)))) (hK _ _ (show _ = _ from rfl) (Below.refl _ _) (Fresh.no _ _ _))
        · intro w1 hb hd K hK
          have e14 := D14.trans (show u 4 = _ from hd ⟨4, .data⟩ (by simp) rfl (by omega))
          have e18 := D18.trans (show u 8 = _ from hd ⟨8, .data⟩ (by simp) rfl (by omega))
          refine op_call (R := fun v w2 => v = (.int .i64 (cmpE a b)) ∧ Below w1.heap.size w1 w2) (f := 25) (args := #[.agg (enC a), .agg (enC b)]) rfl (by simp only [execOp]; go_simp; first | exact ⟨eval_get e14, eval_get e18⟩ | (simp only [Act.eval] at *; simp_all)) ((CE.out w1).mono fun e w2 hh => ⟨_, hh.1, rfl, hh.2⟩) (fun v w2 hh => hK _ _ hh.1 hh.2 (Fresh.no _ _ _))
      have hv10 : u 0 = (.slice (some ⟨bl, ol, none⟩) n cp) := (show u 0 = _ from hsF 0 (by omega) (by omega))
      have hv11 : u 1 = (.int .i64 z) := (show u 1 = _ from hsF 1 (by omega) (by omega))
      have hv12 : u 2 = (.int .i64 (k : Int)) := (show u 2 = _ from hsF 2 (by omega) (by omega))
      have hv13 : u 3 = (.pointer (some ⟨bl, ol + k * 33, none⟩)) := (show u 3 = _ from hsF 3 (by omega) (by omega))
      have hv14 : u 4 = (.agg (enC a)) := (show u 4 = _ from hsF 4 (by omega) (by omega))
      have hv15 : u 5 = (.slice (some ⟨bl, ol, none⟩) n cp) := (show u 5 = _ from hsF 5 (by omega) (by omega))
      have hv16 : u 6 = (.int .i64 z) := (show u 6 = _ from hsF 6 (by omega) (by omega))
      have hv17 : u 7 = (.pointer (some ⟨bl, ol + (k + 1) * 33, none⟩)) := (show u 7 = _ from hsF 7 (by omega) (by omega))
      have hv18 : u 8 = (.agg (enC b)) := (show u 8 = _ from hsF 8 (by omega) (by omega))
      have hv19 : u 9 = (.int .i64 (cmpE a b)) := (show u 9 = _ from hsF 9 (by omega) (by omega))
      simp only [putRow, hv10, hv11, hv12, hv13, hv14, hv15, hv16, hv17, hv18, hv19, Act.put, List.setIfInBounds_toArray, List.set_cons_succ, List.set_cons_zero]
      clear hsF hold hap hv10 hv11 hv12 hv13 hv14 hv15 hv16 hv17 hv18 hv19
      have HW3 := Lib.hid (HW2.out.trans (hbF.mono (HW2.out.size)))
      clear HW2 hbF lo1 lo2 CE j0 j1 j2 j3 j4 j5 j6 e1
      clear W4
      rcases Int.lt_or_le (cmpE a b) 0 with hc | hc
      · have t1 : decide (0 ≤ cmpE a b) = false := decide_eq_false (by omega)
        have HS2 : Hid (setB (l.take (k + 1 + 1)) = true) := Lib.hid (by rw [HRR.out, HS.out, decide_eq_true hc]; rfl)
        clear hc
        refine rest_forced 1 (by kernel_rfl) ?_
        simp only [List.drop_succ_cons, List.drop_zero, List.take_succ_cons, List.take_zero]
        go_wp2_with fail
        refine rest_done rfl ?_
        go_wp2_with fail
        go_roundw
        case rel => exact ⟨k + 1, z + 1, by have := HK.out.1; omega, Or.inl (by have := HK.out.1; omega), rfl, HS2, HW3⟩
        case measure => simp only [intOf]; omega
      · have t1 : decide (0 ≤ cmpE a b) = true := decide_eq_true hc
        have HX : Hid (R = false) := Lib.hid (by
          rw [← HR.out]
          exact setB_take (k := k + 2) (by rw [HRR.out, decide_eq_false (by omega), Bool.and_false]))
        clear hc
        refine rest_forced 1 (by kernel_rfl) ?_
        simp only [List.drop_succ_cons, List.drop_zero, List.take_succ_cons, List.take_zero]
        go_wp2_with fail
        refine rest_done rfl ?_
        go_wp2_with fail
        go_ret
        exact ⟨by rw [HX.out]; rfl, HW3.out⟩
    · have u1 : decide (z < (n : Int)) = false := decide_eq_false hlt
      have HX : Hid (R = true) := Lib.hid (by
        have h := HS.out
        rw [List.take_of_length_le (by rw [HN.out]; omega)] at h
        rw [← HR.out, h])
      clear hlt hz hk
      go_wp2_with fail
      go_ret
      exact ⟨by rw [HX.out]; rfl, HW.out⟩
end Go.Proofs.YtpkmibmombpjpaaGreatDoor
