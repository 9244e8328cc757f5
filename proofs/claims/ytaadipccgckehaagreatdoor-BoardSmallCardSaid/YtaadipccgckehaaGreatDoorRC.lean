/- The reference's reading of a hand. -/
import Derived.Test.YtaadipccgckehaaGreatDoorRB
import Derived.Test.YtaadipccgckehaaGreatDoorKtM
set_option linter.unusedSimpArgs false
namespace Go.Proofs.YtaadipccgckehaaGreatDoor
open Go Go.RowKit Go.Shelf Pl

def handV (l : List UInt8) : Value := match rparse l with
  | some m => .tuple #[.int .u64 (m : Nat), .int .i64 0]
  | none => .tuple #[.int .u64 0, .int .i64 40]
theorem handV_none {l : List UInt8} (h : rparse l = none) : handV l = .tuple #[.int .u64 0, .int .i64 40] := by unfold handV; rw [h]
theorem handV_some {l : List UInt8} {m : Nat} (h : rparse l = some m) : handV l = .tuple #[.int .u64 (m : Nat), .int .i64 0] := by unfold handV; rw [h]
/-- The rank found among the first k. -/
def rkTo (c : UInt8) (k : Nat) : Int := if 0 ≤ rkI c ∧ rkI c < (k : Int) then rkI c else -1
theorem rkTo_0 (c : UInt8) : rkTo c 0 = -1 := by unfold rkTo; rw [if_neg (by omega)]
theorem rkTo_hit {c : UInt8} {k : Nat} (h : rkI c = k) : rkTo c (k + 1) = (k : Int) := by unfold rkTo; rw [if_pos (by omega), h]
theorem rkTo_miss {c : UInt8} {k : Nat} (h : rkI c ≠ k) : rkTo c (k + 1) = rkTo c k := by
  unfold rkTo
  by_cases h1 : 0 ≤ rkI c ∧ rkI c < (k : Int)
  · rw [if_pos h1, if_pos (by omega)]
  · rw [if_neg h1, if_neg (by omega)]
theorem rkTo_neg {c : UInt8} {k : Nat} (h : rkTo c k < 0) : rkI c < 0 ∨ (k : Int) ≤ rkI c := by
  unfold rkTo at h
  split at h
  · omega
  · omega
theorem rkTo_pos {c : UInt8} {k : Nat} (h : ¬ rkTo c k < 0) : ∃ r : Nat, rkTo c k = (r : Int) ∧ rkI c = (r : Int) ∧ r < k := by
  unfold rkTo at h ⊢
  split at h
  · rename_i h1
    rw [if_pos h1]
    exact ⟨(rkI c).toNat, by omega, by omega, by omega⟩
  · omega
theorem get_of {s : ByteArray} {i : Nat} (h : i < s.size) : s.data.toList[i]? = some s[i] := by
  rw [List.getElem?_eq_getElem (by simpa using h)]; rfl
theorem conv_at (c : UInt8) {w : World} {b : Nat} (h : ∀ i x, ([.int .u8 (c.toNat : Int)] : List Value)[i]? = some x → w.cell? ⟨b, i, none⟩ = some x) : (convert 101 9 (.slice (some ⟨b, 0, none⟩) 1 1)).run Tryz.prog w = .ok (.string ⟨#[c]⟩) w :=
  run_convert_bytes_back _ _ _ 5 _ 1 [c] (by kernel_rfl) (by kernel_rfl) (by kernel_rfl) (fun j hj => by
    obtain rfl : j = 0 := by simpa using hj
    have := h 0 _ rfl
    simpa [Addr.add] using this)
theorem exec_conv1 {o : Oper} {w : World} {a : Act} {x : Operand} {b : Nat} {c : UInt8} (ho : o.op = .convert 101 9 x) (hx : a.eval x = .slice (some ⟨b, 0, none⟩) 1 1) (h : ∀ i x, ([.int .u8 (c.toNat : Int)] : List Value)[i]? = some x → w.cell? ⟨b, i, none⟩ = some x) : (execOp a.eval o).run Tryz.prog w = .ok (.value (.string ⟨#[c]⟩)) w := by
  simp only [execOp, ho, hx, Sem.run_bind, conv_at c h, Result.andThen_ok, Sem.run_pure]
set_option maxRecDepth 100000 in
set_option maxHeartbeats 4000000 in
theorem rparse_any (s : ByteArray) (hs : s.size ≤ 100000) (w : World) : Calls Tryz.prog 62 #[.string s] w (fun e w' => e = .returned (handV s.data.toList) ∧ Below w.heap.size w w') := by
  obtain ⟨l, hl⟩ : ∃ l, s.data.toList = l := ⟨_, rfl⟩
  have hlen : l.length = s.size := by rw [← hl]; rfl
  have HG := Lib.hid (fun i (h : i < s.size) => hl ▸ get_of h)
  have HLEN := Lib.hid hlen
  rw [hl]
  clear hl hlen
  go_enter Tryz.func62, Tryz.ntmps62
  go_wp2_with fail
  go_loopw [4, 5, 6, 7] (fun s4 s5 s6 s7 wr => ∃ i M S L : Nat, i ≤ s.size ∧ s7 = .int .i64 (i : Int) ∧ s4 = .int .u64 (M : Int) ∧ s5 = .int .i64 (S : Int) ∧ s6 = .int .i64 (L : Int) ∧ Hid (RpI l i M S L) ∧ Hid (Below w.heap.size w wr)) (fun _ _ _ s7 _ => s.size - (intOf s7).toNat)
  case atStart => exact ⟨0, 0, 3, 13, by omega, rfl, rfl, rfl, rfl, Lib.hid (rpI_start l), Lib.hid (Below.refl _ _)⟩
  case round =>
    obtain ⟨i, M, S, L, hi, rfl, rfl, rfl, rfl, HI, HB⟩ := hrel
    have hS : S ≤ 3 := HI.out.2.1
    have hL : L ≤ 13 := HI.out.2.2.1
    by_cases hlt : i < s.size
    · have u1 : decide ((i : Int) < (s.size : Int)) = true := decide_eq_true (by omega)
      have u2 : decide (i < s.size) = true := decide_eq_true hlt
      have HC := Lib.hid (HG.out i hlt)
      have e9 : IntKind.i64.wrap ((i : Int) + 1) = ((i + 1 : Nat) : Int) := inc64 i (by omega)
      obtain ⟨c, hc⟩ : ∃ c, s[i] = c := ⟨_, rfl⟩
      rw [hc] at HC
      by_cases h46 : c = 46
      · have t1 : ((((s[i]).toNat : Nat) : Int) == 46) = true := by rw [hc, h46]; rfl
        rw [h46] at HC
        clear hc h46
        rcases S with _ | q
        · have HX := Lib.hid (handV_none (rp_dot_bad HI.out HC.out))
          clear HI HC hS hL e9
          go_wp2_with fail
          go_ret2
          exact ⟨by rw [HX.out]; rfl, HB.out⟩
        · have HN := Lib.hid (rpI_dot HI.out HC.out)
          have hq3 : q ≤ 3 := by omega
          have e7 : ((q + 1 : Nat) : Int) - 1 = (q : Int) := by omega
          have t2 : decide ((q : Int) < 0) = false := decide_eq_false (by omega)
          clear HI HC hS hL
          go_wp2_with fail
          go_roundw
          case rel => exact ⟨i + 1, M, q, 13, by omega, by simp, rfl, by first | rfl | (simp; try omega), rfl, HN, HB⟩
          case measure => simp [intOf]; try omega
      · have t1 : ((((s[i]).toNat : Nat) : Int) == 46) = false := by
          rw [hc]
          refine beq_eq_false_iff_ne.2 (fun e => h46 ?_)
          apply UInt8.toNat_inj.1
          show c.toNat = 46
          omega
        have HN46 := Lib.hid h46
        have HCC := Lib.hid hc
        clear hc h46
        go_wp2_with fail
        have h00 := rkTo_0 c
        have HS0 : Hid ((-1 : Int) = rkTo c 0) := Lib.hid h00.symm
        clear h00
        go_loopw [8, 9] (fun s8 s9 wq => ∃ k : Nat, k ≤ L ∧ s9 = .int .i64 (k : Int) ∧ s8 = .int .i64 (rkTo c k) ∧ Hid (Below w.heap.size w wq)) (fun _ s9 _ => L - (intOf s9).toNat)
        case atStart => exact ⟨0, by omega, rfl, by rw [← HS0.out], HB⟩
        case round =>
          clear HB
          obtain ⟨k, hk, rfl, rfl, HB⟩ := hrel
          by_cases hl2 : k < L
          · have v1 : decide ((k : Int) < (L : Int)) = true := decide_eq_true (by omega)
            have v2 : decide (k < L) = true := decide_eq_true hl2
            go_upto_region 16 with fail
            have SG := Lib.hid (fun W => sign_any k (by omega) W)
            have HK := Lib.hid (rk_iff c k (by omega))
            have HH := Lib.hid (fun (h : rkI c = (k : Int)) => rkTo_hit h)
            have HMS := Lib.hid (fun (h : rkI c ≠ (k : Int)) => rkTo_miss h)
            have e8 := inc64 k (by omega)
            generalize rkTo c k = rk at *
            generalize sign k = sg at *
            clear e9 t1
            go_cut [36] (fun s36 wx => s36 = .bool (sg == c) ∧ Hid (Below w.heap.size w wx))
            case first =>
              refine rest_begin (by kernel_rfl) ?_
              have HB2 := Lib.hid HB.out.drew
              clear HB
              generalize World.drew _ = W0 at *
              refine rest_flow3 [some 29, some 30, some 31, some 32, some 33, some 34, some 35] [Sp.is (.int .i64 (k : Int)), Sp.is (.string ⟨#[sg]⟩), Sp.is (.string s), Sp.is (.int .i64 (i : Int)), Sp.is (.int .u8 ((s[i].toNat : Nat) : Int)), Sp.row [.int .u8 ((s[i].toNat : Nat) : Int)], Sp.is (.string ⟨#[s[i]]⟩)] [false, false, false, false, false, false, false] 7 (by kernel_rfl) (by kernel_rfl) (fun u F hF => ?_) (fun u w' hbF hsF hold hap => ?_)
              case refine_1 =>
                have E9 : F.eval (.tmp 9) = (.int .i64 (k : Int)) := (congrArg (fun a => Act.eval a (.tmp 9)) hF).trans (eval_out [some 29, some 30, some 31, some 32, some 33, some 34, some 35] 0 _ (by decide))
                have D29 : F.eval (.tmp 29) = u 0 := (congrArg (fun a => Act.eval a (.tmp 29)) hF).trans (eval_in [some 29, some 30, some 31, some 32, some 33, some 34, some 35] 0 0 _ (by decide) (by omega) rfl (of_decide_eq_true (by kernel_rfl)))
                have E0 : F.eval (.tmp 0) = (.string s) := (congrArg (fun a => Act.eval a (.tmp 0)) hF).trans (eval_out [some 29, some 30, some 31, some 32, some 33, some 34, some 35] 0 _ (by decide))
                have E7 : F.eval (.tmp 7) = (.int .i64 (i : Int)) := (congrArg (fun a => Act.eval a (.tmp 7)) hF).trans (eval_out [some 29, some 30, some 31, some 32, some 33, some 34, some 35] 0 _ (by decide))
                have D31 : F.eval (.tmp 31) = u 2 := (congrArg (fun a => Act.eval a (.tmp 31)) hF).trans (eval_in [some 29, some 30, some 31, some 32, some 33, some 34, some 35] 0 2 _ (by decide) (by omega) rfl (of_decide_eq_true (by kernel_rfl)))
                have D32 : F.eval (.tmp 32) = u 3 := (congrArg (fun a => Act.eval a (.tmp 32)) hF).trans (eval_in [some 29, some 30, some 31, some 32, some 33, some 34, some 35] 0 3 _ (by decide) (by omega) rfl (of_decide_eq_true (by kernel_rfl)))
                have D33 : F.eval (.tmp 33) = u 4 := (congrArg (fun a => Act.eval a (.tmp 33)) hF).trans (eval_in [some 29, some 30, some 31, some 32, some 33, some 34, some 35] 0 4 _ (by decide) (by omega) rfl (of_decide_eq_true (by kernel_rfl)))
                have D34 : F.eval (.tmp 34) = u 5 := (congrArg (fun a => Act.eval a (.tmp 34)) hF).trans (eval_in [some 29, some 30, some 31, some 32, some 33, some 34, some 35] 0 5 _ (by decide) (by omega) rfl (of_decide_eq_true (by kernel_rfl)))
                clear hF
                refine ⟨?_, ?_, ?_, ?_, ?_, ?_, ?_, trivial⟩
                · intro w1 hb hd K hK
                  have e9 := E9
                  exact op_val (v := (.int .i64 (k : Int))) rfl (by simp only [execOp, List.map_toArray, List.map_cons, List.map_nil, e9]; go_simp) (hK _ _ (show _ = _ from rfl) (Below.refl _ _) (Fresh.no _ _ _))
                · intro w1 hb hd K hK
                  have e29 := D29.trans (show u 0 = (.int .i64 (k : Int)) from hd ⟨0, .data⟩ (by simp) rfl (by omega))
                  refine op_call (R := fun v w2 => v = (.string ⟨#[sg]⟩) ∧ Below w1.heap.size w1 w2) (f := 66) (args := #[.int .i64 (k : Int)]) rfl (by simp only [execOp]; go_simp; first | exact eval_get e29 | exact ⟨rfl, eval_get e29⟩ | exact ⟨eval_get e29, rfl⟩ | (simp only [Act.eval] at *; simp_all)) ((SG.out w1).mono fun e w2 hh => ⟨_, hh.1, rfl, hh.2⟩) (fun v w2 hh => hK _ _ hh.1 hh.2 (Fresh.no _ _ _))
                · intro w1 hb hd K hK
                  have e0 := E0
                  exact op_val (v := (.string s)) rfl (by simp only [execOp, List.map_toArray, List.map_cons, List.map_nil, e0]; go_simp) (hK _ _ (show _ = _ from rfl) (Below.refl _ _) (Fresh.no _ _ _))
                · intro w1 hb hd K hK
                  have e7 := E7
                  exact op_val (v := (.int .i64 (i : Int))) rfl (by simp only [execOp, List.map_toArray, List.map_cons, List.map_nil, e7]; go_simp) (hK _ _ (show _ = _ from rfl) (Below.refl _ _) (Fresh.no _ _ _))
                · intro w1 hb hd K hK
                  have e31 := D31.trans (show u 2 = (.string s) from hd ⟨2, .data⟩ (by simp) rfl (by omega))
                  have e32 := D32.trans (show u 3 = (.int .i64 (i : Int)) from hd ⟨3, .data⟩ (by simp) rfl (by omega))
                  exact op_val (v := (.int .u8 ((s[i].toNat : Nat) : Int))) rfl (by simp only [execOp, List.map_toArray, List.map_cons, List.map_nil, e31, e32]; go_simp) (hK _ _ (show _ = _ from rfl) (Below.refl _ _) (Fresh.no _ _ _))
                · intro w1 hb hd K hK
                  have e33 := D33.trans (show u 4 = (.int .u8 ((s[i].toNat : Nat) : Int)) from hd ⟨4, .data⟩ (by simp) rfl (by omega))
                  exact op_val (v := .slice (some ⟨w1.heap.size, 0, none⟩) 1 1) (w' := w1.alloc (.cells #[.int .u8 ((s[i].toNat : Nat) : Int)] 5)) rfl (by simp only [execOp, List.map_toArray, List.map_cons, List.map_nil, e33]; go_simp) (hK _ _ (Sp.row_new w1 5 [.int .u8 ((s[i].toNat : Nat) : Int)] 1 _ rfl rfl) (below1 _ _) (Fresh.no _ _ _))
                · intro w1 hb hd K hK
                  obtain ⟨b, h1, -, h3⟩ := (show (Sp.row [.int .u8 ((s[i].toNat : Nat) : Int)]).p (u 5) w1 from hd ⟨5, .data⟩ (by simp) rfl (by omega))
                  have e34 := D34.trans h1
                  exact op_val (v := .string ⟨#[s[i]]⟩) (w' := w1) rfl (exec_conv1 rfl e34 h3) (hK _ _ (show _ = _ from rfl) (Below.refl _ _) (Fresh.no _ _ _))
              have hv29 : u 0 = (.int .i64 (k : Int)) := (show u 0 = _ from hsF 0 (by omega) (by omega))
              have hv30 : u 1 = (.string ⟨#[sg]⟩) := (show u 1 = _ from hsF 1 (by omega) (by omega))
              have hv31 : u 2 = (.string s) := (show u 2 = _ from hsF 2 (by omega) (by omega))
              have hv32 : u 3 = (.int .i64 (i : Int)) := (show u 3 = _ from hsF 3 (by omega) (by omega))
              have hv33 : u 4 = (.int .u8 ((s[i].toNat : Nat) : Int)) := (show u 4 = _ from hsF 4 (by omega) (by omega))
              obtain ⟨b34, hv34, hlt34, hc34⟩ := (show (Sp.row [.int .u8 ((s[i].toNat : Nat) : Int)]).p (u 5) w' from hsF 5 (by omega) (by omega))
              have hv35 : u 6 = .string ⟨#[s[i]]⟩ := (show u 6 = _ from hsF 6 (by omega) (by omega))
              simp only [putRow, hv29, hv30, hv31, hv32, hv33, hv34, hv35, Act.put, List.setIfInBounds_toArray, List.set_cons_succ, List.set_cons_zero]
              clear hsF hold hap hv29 hv30 hv31 hv32 hv33 hv34 hv35

              refine rest_forced 1 (by kernel_rfl) ?_
              simp only [List.drop_succ_cons, List.drop_zero, List.take_succ_cons, List.take_zero]
              go_wp2_with fail
              refine rest_done rfl ?_
              go_wp2_with fail
              go_meet
              exact ⟨by rw [HCC.out], Lib.hid (HB2.out.trans (hbF.mono HB2.out.size))⟩
            case rest =>
              obtain ⟨rfl, HB⟩ := hcut
              rcases hq : (sg == c) with _ | _
              · have hne : sg ≠ c := by simpa using hq
                have HE := Lib.hid (HMS.out (fun e => hne (HK.out.2 e)))
                clear hq hne HMS HH HK SG
                go_wp2_with fail
                go_roundw
                case rel => exact ⟨k + 1, by omega, by simp, by rw [HE.out], HB⟩
                case measure => simp [intOf]; try omega
              · have heq : sg = c := by simpa using hq
                have HE := Lib.hid (HH.out (HK.out.1 heq))
                clear hq heq HMS HH HK SG
                go_wp2_with fail
                go_roundw
                case rel => exact ⟨k + 1, by omega, by simp, by rw [HE.out], HB⟩
                case measure => simp [intOf]; try omega
          · obtain rfl : k = L := by omega
            have v1 : decide ((k : Int) < (k : Int)) = false := decide_eq_false (by omega)
            have v2 : decide (k < k) = false := decide_eq_false (by omega)
            clear HS0 hl2
            by_cases hneg : rkTo c k < 0
            · have HX := Lib.hid (handV_none (rp_bad HI.out HC.out HN46.out (rkTo_neg hneg)))
              have v3 : decide (rkTo c k < 0) = true := decide_eq_true hneg
              clear HI HC e9 t1
              generalize rkTo c k = rk at *
              go_wp2_with fail
              go_ret2
              exact ⟨by rw [HX.out]; rfl, HB.out⟩
            · obtain ⟨r, h1, h2, h3⟩ := rkTo_pos hneg
              have hn := rpI_sign HI.out HC.out HN46.out h2 h3
              have HN := Lib.hid hn
              have hb1 := hn.2.2.2
              have hb2 := Nat.two_pow_pos (13 * S + r)
              have BT := Lib.hid (fun W => bit_any (13 * S + r) (by omega) W)
              rw [h1]
              have v3 : decide ((r : Int) < 0) = false := decide_eq_false (by omega)
              have x1 : IntKind.i64.wrap (13 * (S : Int)) = 13 * (S : Int) := IntWalk.i64_in _ (by omega)
              have x2 : IntKind.i64.wrap (13 * (S : Int) + (r : Int)) = ((13 * S + r : Nat) : Int) := by rw [IntWalk.i64_in _ (by omega)]; omega
              have x2b : 13 * (S : Int) + (r : Int) = ((13 * S + r : Nat) : Int) := by omega
              obtain ⟨B, hB⟩ : ∃ B, 2 ^ (13 * S + r) = B := ⟨_, rfl⟩
              rw [hB] at HN BT hb1 hb2
              have hMB : M + B ≤ 4503599627370496 := by
                have : (2 : Nat) ^ 52 = 4503599627370496 := rfl
                omega
              have x4 : IntKind.u64.wrap ((M : Int) + (B : Int)) = ((M + B : Nat) : Int) := by rw [IntWalk.u64_in _ (by omega)]; omega
              have hcb : 13 * S + r ≤ 51 := by omega
              obtain ⟨C, hC⟩ : ∃ C, 13 * S + r = C := ⟨_, rfl⟩
              rw [hC] at BT x2 x2b hcb
              have x3 : IntKind.u8.wrap (C : Int) = (C : Int) := by show (C : Int) % 256 = _; omega
              have HMB := Lib.hid hMB
              clear h1 h2 hneg hn hb1 hb2 HI HC t1 hB hC hMB
              go_wp2_with (go_at_call 84; refine (BT.out _).mono ?_; rintro e w' ⟨rfl, rfl⟩)
              go_roundw
              case rel => exact ⟨i + 1, M + B, S, r, by omega, by simp, by simp, rfl, rfl, HN, HB⟩
              case measure => simp [intOf]; try omega
    · obtain rfl : i = s.size := by omega
      have u1 : decide ((s.size : Int) < (s.size : Int)) = false := decide_eq_false (by omega)
      have u2 : decide (s.size < s.size) = false := decide_eq_false (by omega)
      have hi' := HI.out
      rw [← HLEN.out] at hi'
      have HE := Lib.hid (rp_end hi')
      clear hi' hlt
      rcases S with _ | q
      · have HX := Lib.hid (handV_some (HE.out.trans (if_pos rfl)))
        have t2 : (((0 : Nat) : Int) != 0) = false := rfl
        clear HE HI
        go_wp2_with fail
        go_ret2
        exact ⟨by rw [HX.out]; rfl, HB.out⟩
      · have HX := Lib.hid (handV_none (HE.out.trans (if_neg (by omega))))
        have t2 : (((q + 1 : Nat) : Int) != 0) = true := by rw [bne, Bool.not_eq_true', beq_eq_false_iff_ne]; omega
        have t3 : (((q + 1 : Nat) : Int) == 0) = false := beq_eq_false_iff_ne.2 (by omega)
        clear HE HI
        go_wp2_with fail
        go_ret2
        exact ⟨by rw [HX.out]; rfl, HB.out⟩
attribute [irreducible] handV
end Go.Proofs.YtaadipccgckehaaGreatDoor
