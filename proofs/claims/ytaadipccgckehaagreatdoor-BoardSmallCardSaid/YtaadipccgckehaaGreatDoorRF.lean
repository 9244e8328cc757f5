/- The reference's reading of a deal. -/
import Derived.Test.YtaadipccgckehaaGreatDoorRE
set_option linter.unusedSimpArgs false
namespace Go.Proofs.YtaadipccgckehaaGreatDoor
open Go Go.RowKit Go.Shelf Pl

def rdV (s : List UInt8) : Value := if rdB s then .tuple #[.agg (dC (rdD s)), .int .i64 0] else .tuple #[.agg #[.int .u64 0, .int .u64 0, .int .u64 0, .int .u64 0], .int .i64 61]
theorem rdV_no {s : List UInt8} (h : rdB s = false) : rdV s = .tuple #[.agg #[.int .u64 0, .int .u64 0, .int .u64 0, .int .u64 0], .int .i64 61] := by unfold rdV; rw [h]; rfl
theorem rdV_yes {s : List UInt8} (h : rdB s = true) : rdV s = .tuple #[.agg (dC (rdD s)), .int .i64 0] := by unfold rdV; rw [h]; rfl
def outC (acc : List Nat) : Array Value := dC (fun k => acc.getD k 0)
theorem outC_set (acc : List Nat) (m : Nat) (h : acc.length ≤ 3) : (outC acc).setIfInBounds acc.length (.int .u64 (m : Nat)) = outC (acc ++ [m]) := by
  match acc, h with
  | [], _ => rfl
  | [a], _ => rfl
  | [a, b], _ => rfl
  | [a, b, c], _ => rfl
  | a :: b :: c :: d :: r, h => simp at h
theorem outC_get (acc : List Nat) (k : Nat) (h : k < 4) : (outC acc)[k]? = some (.int .u64 (acc.getD k 0 : Nat)) := dC_get _ k h
theorem ext_cut (s : ByteArray) (f i : Nat) : (s.extract f i).data.toList = cutS s.data.toList f i := by
  unfold cutS
  simp [ByteArray.data_extract]
theorem one_new (w : World) (t : TypeId) (c : Array Value) : Blk (w.alloc (.cells c t)) w.heap.size t c ∧ Below w.heap.size w (w.alloc (.cells c t)) := ⟨Blk.new w t c, below1 w _⟩
set_option maxRecDepth 100000 in
set_option maxHeartbeats 4000000 in
theorem rread6_any (s : ByteArray) (hs : s.size ≤ 10000) (w : World) : Calls Tryz.prog 40 #[.string s] w (fun e w' => e = .returned (rdV s.data.toList) ∧ Below w.heap.size w w') := by
  obtain ⟨l, hl⟩ : ∃ l, s.data.toList = l := ⟨_, rfl⟩
  have hlen : l.length = s.size := by rw [← hl]; rfl
  have HG := Lib.hid (fun i (h : i < s.size) => hl ▸ get_of h)
  have HLEN := Lib.hid hlen
  have HCT := Lib.hid (fun f i => hl ▸ ext_cut s f i)
  have HPA := Lib.hid (fun f i (hfi : f ≤ i) (hi : i ≤ s.size) W => rparse_any (s.extract f i) (by rw [ByteArray.size_extract]; omega) W)
  have hpre : (s.extract 0 2).toList = l.take 2 := by rw [ByteArray.toList_eq, ext_cut, hl]; rfl
  rw [hl]
  clear hl
  have HZ : ∀ (W : World) (p0 : Nat), Blk W p0 23 #[.int .u64 0, .int .u64 0, .int .u64 0, .int .u64 0] → W.cell? ⟨p0, 0, none⟩ = some (.int .u64 0) ∧ W.cell? ⟨p0, 1, none⟩ = some (.int .u64 0) ∧ W.cell? ⟨p0, 2, none⟩ = some (.int .u64 0) ∧ W.cell? ⟨p0, 3, none⟩ = some (.int .u64 0) ∧ W.frozen? ⟨p0, 0, none⟩ = false ∧ W.frozen? ⟨p0, 1, none⟩ = false ∧ W.frozen? ⟨p0, 2, none⟩ = false ∧ W.frozen? ⟨p0, 3, none⟩ = false :=
    fun W p0 h => ⟨h.cell (j := 0) rfl, h.cell (j := 1) rfl, h.cell (j := 2) rfl, h.cell (j := 3) rfl, h.free 0, h.free 1, h.free 2, h.free 3⟩
  have HZZ := Lib.hid HZ
  clear HZ
  have BX := Lib.hid (one_new w 23 #[.int .u64 0, .int .u64 0, .int .u64 0, .int .u64 0])
  by_cases hok : l.take 2 = [78, 58]
  case neg =>
    have HX := Lib.hid (rdV_no (rdB_head hok))
    have t2 : ((s.extract 0 2).toList == [78, 58]) = false := by rw [hpre]; exact beq_eq_false_iff_ne.2 hok
    clear hok hpre hlen
    go_enter Tryz.func40, Tryz.ntmps40
    go_upto_region 1 with fail
    generalize w.alloc (.cells #[.int .u64 0, .int .u64 0, .int .u64 0, .int .u64 0] 23) = W1 at *
    generalize hp0 : w.heap.size = p0 at *
    obtain ⟨x0, x1, x2, x3, f0, f1, f2, f3⟩ := HZZ.out _ _ BX.out.1
    have HF := Lib.hid (four_set BX.out.1 (.int .u64 0) (.int .u64 0) (.int .u64 0) (.int .u64 0))
    have HBW := Lib.hid (zzbelow BX.out.2 (Nat.le_refl p0) (.int .u64 0) (.int .u64 0) (.int .u64 0) (.int .u64 0))
    clear BX
    by_cases h2 : s.size < 2
    all_goals
      go_wp2_with fail
      generalize (((W1.setCell ⟨p0, 0, none⟩ (.int .u64 0)).setCell ⟨p0, 1, none⟩ (.int .u64 0)).setCell ⟨p0, 2, none⟩ (.int .u64 0)).setCell ⟨p0, 3, none⟩ (.int .u64 0) = wf at *
      clear x0 x1 x2 x3 f0 f1 f2 f3
      obtain ⟨x0, x1, x2, x3, -⟩ := HZZ.out _ _ HF.out
      (try simp only [Exit.inBlock, Exit.then])
      refine bodyPost_ret (by simp [results, Tryz.results40, go_sem, x0, x1, x2, x3]; try rfl) rfl ?_
      exact ⟨by rw [HX.out], by first | exact HBW.out | (rw [hp0]; exact HBW.out)⟩
  have h2 : ¬ s.size < 2 := by
    have := congrArg List.length hok
    simp at this
    omega
  have t2 : ((s.extract 0 2).toList == [78, 58]) = true := by rw [hpre, hok]; rfl
  have HST := Lib.hid (rdI_start l (by omega))
  have HOK := Lib.hid hok
  clear hok hpre hlen
  go_enter Tryz.func40, Tryz.ntmps40
  go_upto_region 1 with fail
  generalize w.alloc (.cells #[.int .u64 0, .int .u64 0, .int .u64 0, .int .u64 0] 23) = W1 at *
  have BY := Lib.hid (one_new W1 23 #[.int .u64 0, .int .u64 0, .int .u64 0, .int .u64 0])
  go_upto_region 7 with fail
  have HB0 := Lib.hid (BX.out.1.keep BY.out.2 BX.out.1.lt)
  have HB1 : Hid (Blk (W1.alloc (.cells #[.int .u64 0, .int .u64 0, .int .u64 0, .int .u64 0] 23)) W1.heap.size 23 (outC [])) := Lib.hid BY.out.1
  have HBW := Lib.hid (BX.out.2.trans (BY.out.2.mono BX.out.2.size))
  have HNE : Hid (w.heap.size ≤ W1.heap.size ∧ w.heap.size ≠ W1.heap.size) := Lib.hid ⟨BX.out.2.size, Nat.ne_of_lt BX.out.1.lt⟩
  clear BX BY t2 h2
  generalize W1.alloc (.cells #[.int .u64 0, .int .u64 0, .int .u64 0, .int .u64 0] 23) = W2 at *
  generalize hp0 : w.heap.size = p0 at *
  generalize W1.heap.size = p1 at *
  go_loopw [5, 6, 7] (fun s5 s6 s7 wr => ∃ (acc : List Nat) (f i : Nat), acc.length ≤ 4 ∧ f ≤ i ∧ i ≤ s.size + 1 ∧ s5 = .int .i64 (acc.length : Int) ∧ s6 = .int .i64 (f : Int) ∧ s7 = .int .i64 (i : Int) ∧ Hid ((i ≤ s.size → RdI l acc f i) ∧ (i = s.size + 1 → rdGo [] [] (l.drop 2) = some acc ∧ ∀ m ∈ acc, m < 4503599627370496)) ∧ Hid (Blk wr p0 23 #[.int .u64 0, .int .u64 0, .int .u64 0, .int .u64 0]) ∧ Hid (Blk wr p1 23 (outC acc)) ∧ Hid (Below p0 w wr)) (fun _ _ s7 _ => s.size + 1 - (intOf s7).toNat)
  case atStart => exact ⟨[], 2, 2, by simp, by omega, by have := HST.out.2.1; have := HLEN.out; omega, rfl, rfl, rfl, Lib.hid ⟨fun _ => HST.out, fun h => by have := HST.out.2.1; have := HLEN.out; omega⟩, HB0, HB1, HBW⟩
  case round =>
    clear HB0 HB1 HBW HST
    obtain ⟨acc, f, i, ha, hfi, hi, rfl, rfl, rfl, HI, HB0, HB1, HBW⟩ := hrel
    obtain ⟨A, hA⟩ : ∃ A, acc.length = A := ⟨_, rfl⟩
    have HAC := Lib.hid hA
    rw [hA] at ha ⊢
    clear hA
    by_cases hle : i ≤ s.size
    · have u1 : decide ((i : Int) ≤ (s.size : Int)) = true := decide_eq_true (by omega)
      have u2 : decide (i ≤ s.size) = true := decide_eq_true hle
      have HR := Lib.hid (HI.out.1 hle)
      have e9 : IntKind.i64.wrap ((i : Int) + 1) = ((i + 1 : Nat) : Int) := inc64 i (by omega)
      go_upto_region 9 with fail
      go_cut [34] (fun s34 wx => ∃ b, s34 = .bool b ∧ wx = wr ∧ Hid ((b = true → i < s.size ∧ ∃ c, l[i]? = some c ∧ c ≠ 32) ∧ (b = false → i = l.length ∨ l[i]? = some 32)))
      case first =>
        by_cases hlt : i < s.size
        · have v1 : decide ((i : Int) < (s.size : Int)) = true := decide_eq_true (by omega)
          have v2 : decide (i < s.size) = true := decide_eq_true hlt
          have hg := HG.out i hlt
          by_cases hc : s[i] = 32
          · have t1 : ((((s[i]).toNat : Nat) : Int) == 32) = true := by rw [hc]; rfl
            have t3 : ((((s[i]).toNat : Nat) : Int) != 32) = false := by rw [bne, t1]; rfl
            rw [hc] at hg
            have HX := Lib.hid hg
            clear hg hc
            go_wp2_with fail
            go_meet
            exact ⟨_, rfl, rfl, Lib.hid ⟨fun h => (by cases h), fun _ => .inr HX.out⟩⟩
          · have t1 : ((((s[i]).toNat : Nat) : Int) == 32) = false := beq_eq_false_iff_ne.2 (fun e => hc (by
              apply UInt8.toNat_inj.1
              show (s[i]).toNat = 32
              omega))
            have t3 : ((((s[i]).toNat : Nat) : Int) != 32) = true := by rw [bne, t1]; rfl
            have HX := Lib.hid (And.intro hg hc)
            clear hg hc
            go_wp2_with fail
            go_meet
            exact ⟨_, rfl, rfl, Lib.hid ⟨fun _ => ⟨hlt, _, HX.out⟩, fun h => (by cases h)⟩⟩
        · have v1 : decide ((i : Int) < (s.size : Int)) = false := decide_eq_false (by omega)
          have v2 : decide (i < s.size) = false := decide_eq_false hlt
          go_wp2_with fail
          go_meet
          exact ⟨_, rfl, rfl, Lib.hid ⟨fun h => (by cases h), fun _ => .inl (by have := HLEN.out; omega)⟩⟩
      case rest =>
        obtain ⟨b, rfl, rfl, HX⟩ := hcut
        rcases b with _ | _
        · have HEND := Lib.hid (HX.out.2 rfl)
          have PA := Lib.hid (fun W => HPA.out f i hfi hle W)
          rw [HCT.out f i] at PA
          have hfi2 : (f : Int) ≤ (i : Int) := by omega
          have hle2 : (i : Int) ≤ (s.size : Int) := by omega
          clear HX
          rcases hrp : rparse (cutS l f i) with _ | m
          · have HNO := Lib.hid (rdV_no (rdB_none (rd_bad HR.out HEND.out (.inl hrp))))
            rw [handV_none hrp] at PA
            clear hrp HEND HR HI
            go_wp2_with fail
            refine (PA.out _).mono ?_
            rintro e w2 ⟨rfl, hb⟩
            have HB2 := Lib.hid (HB0.out.keep hb HB0.out.lt)
            have HBW2 := Lib.hid (HBW.out.trans (hb.mono (by have := HBW.out.size; omega)))
            clear hb PA HB0 HB1 HBW
            obtain ⟨x0, x1, x2, x3, f0, f1, f2, f3⟩ := HZZ.out _ _ HB2.out
            have HF := Lib.hid (four_set HB2.out (.int .u64 0) (.int .u64 0) (.int .u64 0) (.int .u64 0))
            have HBX := Lib.hid (zzbelow HBW2.out (Nat.le_refl p0) (.int .u64 0) (.int .u64 0) (.int .u64 0) (.int .u64 0))
            go_wp2_with fail
            generalize (((w2.setCell ⟨p0, 0, none⟩ (.int .u64 0)).setCell ⟨p0, 1, none⟩ (.int .u64 0)).setCell ⟨p0, 2, none⟩ (.int .u64 0)).setCell ⟨p0, 3, none⟩ (.int .u64 0) = wf at *
            clear x0 x1 x2 x3 f0 f1 f2 f3
            obtain ⟨x0, x1, x2, x3, -⟩ := HZZ.out _ _ HF.out
            (try simp only [Exit.inBlock, Exit.then])
            refine bodyPost_ret (by simp [results, Tryz.results40, go_sem, x0, x1, x2, x3]; try rfl) rfl ?_
            exact ⟨by rw [HNO.out], by first | exact HBX.out | (rw [hp0]; exact HBX.out)⟩
          · rw [handV_some hrp] at PA
            by_cases h3 : 3 < A
            · have HNO := Lib.hid (rdV_no (rdB_none (rd_bad HR.out HEND.out (.inr (by rw [HAC.out]; exact h3)))))
              have t3 : decide (3 < (A : Int)) = true := decide_eq_true (by omega)
              have t3b : decide (3 < A) = true := decide_eq_true h3
              clear hrp HEND HR HI h3
              go_wp2_with fail
              refine (PA.out _).mono ?_
              rintro e w2 ⟨rfl, hb⟩
              have HB2 := Lib.hid (HB0.out.keep hb HB0.out.lt)
              have HBW2 := Lib.hid (HBW.out.trans (hb.mono (by have := HBW.out.size; omega)))
              clear hb PA HB0 HB1 HBW
              obtain ⟨x0, x1, x2, x3, f0, f1, f2, f3⟩ := HZZ.out _ _ HB2.out
              have HF := Lib.hid (four_set HB2.out (.int .u64 0) (.int .u64 0) (.int .u64 0) (.int .u64 0))
              have HBX := Lib.hid (zzbelow HBW2.out (Nat.le_refl p0) (.int .u64 0) (.int .u64 0) (.int .u64 0) (.int .u64 0))
              go_wp2_with fail
              generalize (((w2.setCell ⟨p0, 0, none⟩ (.int .u64 0)).setCell ⟨p0, 1, none⟩ (.int .u64 0)).setCell ⟨p0, 2, none⟩ (.int .u64 0)).setCell ⟨p0, 3, none⟩ (.int .u64 0) = wf at *
              clear x0 x1 x2 x3 f0 f1 f2 f3
              obtain ⟨x0, x1, x2, x3, -⟩ := HZZ.out _ _ HF.out
              (try simp only [Exit.inBlock, Exit.then])
              refine bodyPost_ret (by simp [results, Tryz.results40, go_sem, x0, x1, x2, x3]; try rfl) rfl ?_
              exact ⟨by rw [HNO.out], by first | exact HBX.out | (rw [hp0]; exact HBX.out)⟩
            · have hA3 : A ≤ 3 := by omega
              have t3 : decide (3 < (A : Int)) = false := decide_eq_false (by omega)
              have t3b : decide (3 < A) = false := decide_eq_false h3
              have HN : Hid ((i + 1 ≤ s.size → RdI l (acc ++ [m]) (i + 1) (i + 1)) ∧ (i + 1 = s.size + 1 → rdGo [] [] (l.drop 2) = some (acc ++ [m]) ∧ ∀ x ∈ acc ++ [m], x < 4503599627370496)) := Lib.hid (by
                have ha3 : acc.length ≤ 3 := by rw [HAC.out]; exact hA3
                have hl := HLEN.out
                refine ⟨fun h => ?_, fun h => ?_⟩
                · rcases HEND.out with h0 | h0
                  · omega
                  · exact rdI_sep HR.out h0 hrp ha3
                · exact rd_end HR.out (by omega) hrp ha3)
              have HO := outC_set acc m (by rw [HAC.out]; exact hA3)
              rw [HAC.out] at HO
              have HOS := Lib.hid HO
              have e8 := inc64 A (by omega)
              have hA4 : (A : Int) < 4 := by omega
              obtain ⟨v, hv⟩ : ∃ v, (outC acc)[A]? = some v := ⟨_, outC_get acc A (by omega)⟩
              have HV := Lib.hid hv
              have HAN : Hid ((acc ++ [m]).length = A + 1) := Lib.hid (by simp [HAC.out])
              clear hrp HEND HR HI h3 HO hv
              go_wp2_with fail
              refine (PA.out _).mono ?_
              rintro e w2 ⟨rfl, hb⟩
              have HB2 := Lib.hid (HB0.out.keep hb HB0.out.lt)
              have HC2 := Lib.hid (HB1.out.keep hb HB1.out.lt)
              have HBW2 := Lib.hid (HBW.out.trans (hb.mono (by have := HBW.out.size; omega)))
              clear hb PA HB0 HB1 HBW
              have x0 := HC2.out.cell HV.out
              have f0 := HC2.out.free A
              have HC3 : Hid (Blk (w2.setCell ⟨p1, A, none⟩ (.int .u64 (m : Nat))) p1 23 (outC (acc ++ [m]))) := Lib.hid (by
                have := HC2.out.set A (.int .u64 (m : Nat))
                rwa [HOS.out] at this)
              have HB3 := Lib.hid (HB2.out.other HNE.out.2 A (.int .u64 (m : Nat)))
              have HBW3 := Lib.hid (HBW2.out.setCell (p := ⟨p1, A, none⟩) HNE.out.1 (.int .u64 (m : Nat)))
              clear HB2 HC2 HBW2
              go_wp2_with fail
              go_roundw
              case rel => exact ⟨acc ++ [m], i + 1, i + 1, by rw [HAN.out]; omega, by omega, by omega, by rw [HAN.out]; simp, by simp, by simp, HN, HB3, HC3, HBW3⟩
              case measure => simp [intOf]; try omega
        · obtain ⟨hlt, c, hg, hc⟩ := HX.out.1 rfl
          have HN := Lib.hid (rdI_skip HR.out hg hc)
          clear HX hg hc
          go_wp2_with fail
          go_roundw
          case rel => exact ⟨acc, f, i + 1, by rw [HAC.out]; exact ha, by omega, by omega, by rw [HAC.out], rfl, by simp, Lib.hid ⟨fun _ => HN.out, fun h => by omega⟩, HB0, HB1, HBW⟩
          case measure => simp [intOf]; try omega
    · obtain rfl : i = s.size + 1 := by omega
      have u1 : decide (((s.size + 1 : Nat) : Int) ≤ (s.size : Int)) = false := decide_eq_false (by omega)
      have u2 : decide (s.size + 1 ≤ s.size) = false := decide_eq_false (by omega)
      obtain ⟨hg, hbd⟩ := HI.out.2 rfl
      obtain ⟨hb1, hd1⟩ := rdB_some HOK.out hg
      rw [HAC.out] at hb1
      by_cases h4 : A = 4
      · subst h4
        have hD64 : D64 (fun k => acc.getD k 0) := by
          intro k hk
          show acc.getD k 0 < _
          rw [List.getD_eq_getElem?_getD, List.getElem?_eq_getElem (by rw [HAC.out]; exact hk)]
          have := hbd _ (List.getElem_mem (by rw [HAC.out]; exact hk : k < acc.length))
          simp only [Option.getD_some]
          omega
        have PT := Lib.hid (fun W => rpart_any (fun k => acc.getD k 0) hD64 W)
        have e0 : (((4 : Nat) : Int) != 4) = false := rfl
        have x0 := HB1.out.cell (outC_get acc 0 (by omega))
        have x1 := HB1.out.cell (outC_get acc 1 (by omega))
        have x2 := HB1.out.cell (outC_get acc 2 (by omega))
        have x3 := HB1.out.cell (outC_get acc 3 (by omega))
        rw [show (decide (4 = 4) : Bool) = true from rfl, Bool.true_and] at hb1
        rcases hp : partB (fun k => acc.getD k 0) with _ | _
        · rw [hp] at hb1 PT
          have HNO := Lib.hid (rdV_no hb1)
          clear hb1 hd1 hp hg hbd HI hD64
          go_wp2_with fail
          refine (PT.out _).mono ?_
          rintro e w2 ⟨rfl, hb⟩
          have HB2 := Lib.hid (HB0.out.keep hb HB0.out.lt)
          have HBW2 := Lib.hid (HBW.out.trans (hb.mono (by have := HBW.out.size; omega)))
          clear hb PT HB0 HB1 HBW x0 x1 x2 x3
          obtain ⟨x0, x1, x2, x3, f0, f1, f2, f3⟩ := HZZ.out _ _ HB2.out
          have HF := Lib.hid (four_set HB2.out (.int .u64 0) (.int .u64 0) (.int .u64 0) (.int .u64 0))
          have HBX := Lib.hid (zzbelow HBW2.out (Nat.le_refl p0) (.int .u64 0) (.int .u64 0) (.int .u64 0) (.int .u64 0))
          go_wp2_with fail
          generalize (((w2.setCell ⟨p0, 0, none⟩ (.int .u64 0)).setCell ⟨p0, 1, none⟩ (.int .u64 0)).setCell ⟨p0, 2, none⟩ (.int .u64 0)).setCell ⟨p0, 3, none⟩ (.int .u64 0) = wf at *
          clear x0 x1 x2 x3 f0 f1 f2 f3
          obtain ⟨x0, x1, x2, x3, -⟩ := HZZ.out _ _ HF.out
          (try simp only [Exit.inBlock, Exit.then])
          refine bodyPost_ret (by simp [results, Tryz.results40, go_sem, x0, x1, x2, x3]; try rfl) rfl ?_
          exact ⟨by rw [HNO.out], by first | exact HBX.out | (rw [hp0]; exact HBX.out)⟩
        · rw [hp] at hb1 PT
          have hyes := rdV_yes hb1
          rw [hd1] at hyes
          have HYES := Lib.hid hyes
          clear hb1 hd1 hp hg hbd HI hD64 hyes
          go_wp2_with fail
          refine (PT.out _).mono ?_
          rintro e w2 ⟨rfl, hb⟩
          have HB2 := Lib.hid (HB0.out.keep hb HB0.out.lt)
          have HC2 := Lib.hid (HB1.out.keep hb HB1.out.lt)
          have HBW2 := Lib.hid (HBW.out.trans (hb.mono (by have := HBW.out.size; omega)))
          clear hb PT HB0 HB1 HBW x0 x1 x2 x3
          have y0 := HC2.out.cell (outC_get acc 0 (by omega))
          have y1 := HC2.out.cell (outC_get acc 1 (by omega))
          have y2 := HC2.out.cell (outC_get acc 2 (by omega))
          have y3 := HC2.out.cell (outC_get acc 3 (by omega))
          obtain ⟨x0, x1, x2, x3, f0, f1, f2, f3⟩ := HZZ.out _ _ HB2.out
          obtain ⟨a0, g0⟩ : ∃ a, acc.getD 0 0 = a := ⟨_, rfl⟩
          obtain ⟨a1, g1⟩ : ∃ a, acc.getD 1 0 = a := ⟨_, rfl⟩
          obtain ⟨a2, g2⟩ : ∃ a, acc.getD 2 0 = a := ⟨_, rfl⟩
          obtain ⟨a3, g3⟩ : ∃ a, acc.getD 3 0 = a := ⟨_, rfl⟩
          rw [g0] at y0
          rw [g1] at y1
          rw [g2] at y2
          rw [g3] at y3
          have HY2 : Hid (rdV l = .tuple #[.agg #[.int .u64 (a0 : Nat), .int .u64 (a1 : Nat), .int .u64 (a2 : Nat), .int .u64 (a3 : Nat)], .int .i64 0]) := Lib.hid (by rw [HYES.out]; unfold dC; simp only [g0, g1, g2, g3])
          clear g0 g1 g2 g3 HYES
          have HF := Lib.hid (four_set HB2.out (.int .u64 (a0 : Nat)) (.int .u64 (a1 : Nat)) (.int .u64 (a2 : Nat)) (.int .u64 (a3 : Nat)))
          have HBX := Lib.hid (zzbelow HBW2.out (Nat.le_refl p0) (.int .u64 (a0 : Nat)) (.int .u64 (a1 : Nat)) (.int .u64 (a2 : Nat)) (.int .u64 (a3 : Nat)))
          clear HB2 HC2 HBW2
          go_wp2_with fail
          generalize (((w2.setCell ⟨p0, 0, none⟩ (.int .u64 (a0 : Nat))).setCell ⟨p0, 1, none⟩ (.int .u64 (a1 : Nat))).setCell ⟨p0, 2, none⟩ (.int .u64 (a2 : Nat))).setCell ⟨p0, 3, none⟩ (.int .u64 (a3 : Nat)) = wf at *
          clear x0 x1 x2 x3 f0 f1 f2 f3 y0 y1 y2 y3
          have x0 := HF.out.cell (j := 0) rfl
          have x1 := HF.out.cell (j := 1) rfl
          have x2 := HF.out.cell (j := 2) rfl
          have x3 := HF.out.cell (j := 3) rfl
          (try simp only [Exit.inBlock, Exit.then])
          refine bodyPost_ret (by simp [results, Tryz.results40, go_sem, x0, x1, x2, x3]; try rfl) rfl ?_
          exact ⟨by rw [HY2.out], by first | exact HBX.out | (rw [hp0]; exact HBX.out)⟩
      · rw [decide_eq_false h4, Bool.false_and] at hb1
        have HNO := Lib.hid (rdV_no hb1)
        have e0 : ((A : Int) == 4) = false := beq_eq_false_iff_ne.2 (by omega)
        have e1 : ((A : Int) != 4) = true := by rw [bne, e0]; rfl
        clear hb1 hd1 hg hbd HI h4 HB1
        obtain ⟨x0, x1, x2, x3, f0, f1, f2, f3⟩ := HZZ.out _ _ HB0.out
        have HF := Lib.hid (four_set HB0.out (.int .u64 0) (.int .u64 0) (.int .u64 0) (.int .u64 0))
        have HBX := Lib.hid (zzbelow HBW.out (Nat.le_refl p0) (.int .u64 0) (.int .u64 0) (.int .u64 0) (.int .u64 0))
        go_wp2_with fail
        generalize (((wr.setCell ⟨p0, 0, none⟩ (.int .u64 0)).setCell ⟨p0, 1, none⟩ (.int .u64 0)).setCell ⟨p0, 2, none⟩ (.int .u64 0)).setCell ⟨p0, 3, none⟩ (.int .u64 0) = wf at *
        clear x0 x1 x2 x3 f0 f1 f2 f3
        obtain ⟨x0, x1, x2, x3, -⟩ := HZZ.out _ _ HF.out
        (try simp only [Exit.inBlock, Exit.then])
        refine bodyPost_ret (by simp [results, Tryz.results40, go_sem, x0, x1, x2, x3]; try rfl) rfl ?_
        exact ⟨by rw [HNO.out], by first | exact HBX.out | (rw [hp0]; exact HBX.out)⟩
attribute [irreducible] rdV
end Go.Proofs.YtaadipccgckehaaGreatDoor
