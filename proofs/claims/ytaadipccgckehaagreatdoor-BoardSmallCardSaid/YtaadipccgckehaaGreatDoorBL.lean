/- Classes: the program's, whole. -/
import Derived.Test.YtaadipccgckehaaGreatDoorBK
namespace Go.Proofs.YtaadipccgckehaaGreatDoor
open Go Go.RowKit Go.Maps Pl

/-- A slice of numbers, nil or not. -/
inductive NR (W : World) : Value → List Nat → Prop
  | none_ : NR W (.slice none 0 0) []
  | some_ (b o cap : Nat) (l : List Nat) (hb : b < W.heap.size) (h : ∀ (i n : Nat), l[i]? = some n → W.cell? ⟨b, o + i, none⟩ = some (.int .i64 (n : Int))) : NR W (.slice (some ⟨b, o, none⟩) l.length cap) l
theorem NR.keep {W W' : World} {v : Value} {l : List Nat} (h : NR W v l) (hb : Below W.heap.size W W') : NR W' v l := by
  cases h with
  | none_ => exact .none_
  | some_ b o cap l hlt h => exact .some_ b o cap l (Nat.lt_of_lt_of_le hlt hb.size) (fun i r hi => keepW hb (h i r hi))
theorem NR.at {W : World} {A : Option Addr} {n cap i m : Nat} {l : List Nat} (h : NR W (.slice A n cap) l) (hi : l[i]? = some m) : ∃ b o, A = some ⟨b, o, none⟩ ∧ W.cell? ⟨b, o + i, none⟩ = some (.int .i64 (m : Int)) := by
  cases h with
  | none_ => simp at hi
  | some_ b o cap l hlt h => exact ⟨b, o, rfl, h i m hi⟩
theorem class_len (l : List Four) : (classL l).length = l.length := by simp [classL]
/-- What Classes returns. -/
def RetCls (w : World) (l : List Four) (e : Ending) (w' : World) : Prop :=
  Below w.heap.size w w' ∧ (if 24 < l.length then e = .returned (.tuple #[.slice none 0 0, .int .i64 5]) else if allRight l = true then ∃ A c, e = .returned (.tuple #[.slice A l.length c, .int .i64 0]) ∧ NR w' (.slice A l.length c) (classL l) else e = .returned (.tuple #[.slice none 0 0, .int .i64 60]))
theorem ret_cls_many {w w' : World} {l : List Four} {e : Ending} (h : 24 < l.length) (hb : Below w.heap.size w w') (he : e = .returned (.tuple #[.slice none 0 0, .int .i64 5])) : RetCls w l e w' := ⟨hb, by rw [if_pos h]; exact he⟩
theorem ret_cls_bad {w w' : World} {l : List Four} {e : Ending} (h : ¬ 24 < l.length) (hr : allRight l = false) (hb : Below w.heap.size w w') (he : e = .returned (.tuple #[.slice none 0 0, .int .i64 60])) : RetCls w l e w' := ⟨hb, by rw [if_neg h, hr]; exact he⟩
theorem ret_cls {w w' : World} {l : List Four} {A : Option Addr} {c : Nat} {e : Ending} (h : ¬ 24 < l.length) (hr : allRight l = true) (hb : Below w.heap.size w w') (he : e = .returned (.tuple #[.slice A l.length c, .int .i64 0])) (hn : NR w' (.slice A l.length c) (classL l)) : RetCls w l e w' := ⟨hb, by rw [if_neg h, if_pos hr]; exact ⟨A, c, he, hn⟩⟩
attribute [irreducible] RetCls
theorem CM.keep {w w' : World} {b i : Nat} {l : List Four} {Dm : DataW Unit} (h : CM w b i l Dm) (hb : Below w.heap.size w w') : CM w' b i l Dm := by
  obtain ⟨h1, h2, h3⟩ := h
  have hlt := h1.lt
  refine ⟨?_, h2, h3⟩
  unfold World.ownsMap at h1 ⊢
  rw [hb.block b hlt]
  exact h1
theorem made_cl (l : List Four) (N : Nat) : madeCells (Value.int .i64 0).cells (N * 1) = clC l N 0 := by
  apply Array.ext
  · simp [madeCells, clC]
  · intro j h1 h2
    simp [madeCells, clC, Value.cells, Nat.mod_one]
theorem nr_of {w : World} {b : Nat} {l : List Four} (h : Blk w b 3 (clC l l.length l.length)) : NR w (.slice (some ⟨b, 0, none⟩) l.length l.length) (classL l) := by
  have h2 := NR.some_ (W := w) b 0 l.length (classL l) h.lt (fun i n hi => by
    rw [Nat.zero_add]
    rw [clC_all] at h
    exact h.cell (by simp [hi]))
  rwa [class_len] at h2
theorem cm_ne {w : World} {b i c : Nat} {l : List Four} {Dm : DataW Unit} {t : TypeId} {cs : Array Value} (h : CM w b i l Dm) (hc : Blk w c t cs) : b ≠ c := fun e => by
  obtain ⟨es, clock, hb, _⟩ := h.own
  rw [e] at hb
  have h2 := hb.symm.trans (show w.heap[c]? = _ from hc)
  simp at h2
theorem grown_set (W : World) (b j : Nat) (v : Value) : W.grownBy (W.setCell ⟨b, j, none⟩ v) (some b) :=
  ⟨rfl, rfl, rfl, by simp, fun k _ hk => Below.heap_setCell _ _ _ k (fun e => hk (by rw [e]))⟩
theorem blk_grown {w w' : World} {b p : Nat} {t : TypeId} {c : Array Value} (h : Blk w b t c) (hg : w.grownBy w' (some p)) (hne : b ≠ p) : Blk w' b t c := (hg.block b h.lt (by simpa using hne)).trans h
theorem zeroI (w : World) : (zeroValue 3).run Tryz.prog w = .ok (.int .i64 0) w := by kernel_rfl
set_option maxRecDepth 100000 in
set_option maxHeartbeats 4000000 in
theorem classes_any (v : Value) (l : List Four) (hl : l.length ≤ 100000) (hall : ∀ (j : Nat) (y : Four), l[j]? = some y → F64 y) (w : World) (hd : DR 24 w v l) : Calls Tryz.prog 26 #[v] w (RetCls w l) := by
  obtain ⟨A, cap, rfl⟩ := hd.len
  obtain ⟨N, hN⟩ : ∃ N, l.length = N := ⟨_, rfl⟩
  have HN := Lib.hid hN
  have HD := Lib.hid hd
  have HA := Lib.hid hall
  rw [hN] at hl ⊢
  clear hd hall hN
  by_cases h1 : 24 < N
  · have t1 : decide (24 < (N : Int)) = true := decide_eq_true (by omega)
    have t1b : decide (24 < N) = true := decide_eq_true h1
    have HX := Lib.hid h1
    clear h1
    go_enter Tryz.func26, Tryz.ntmps26
    go_wp2
    go_ret2
    exact ret_cls_many (by rw [HN.out]; exact HX.out) (Below.refl _ _) rfl
  have t1 : decide (24 < (N : Int)) = false := decide_eq_false (by omega)
  have t1b : decide (24 < N) = false := decide_eq_false h1
  have HX := Lib.hid h1
  go_enter Tryz.func26, Tryz.ntmps26
  obtain ⟨i0, hi0, hz0, hz1, hz2⟩ := info_parts info_int
  have MK : ∀ W, (Instr.makeSlice 60 (.int .i64 (N : Int)) (.int .i64 (N : Int))).run Tryz.prog W = .ok (.slice (some ⟨W.heap.size, 0, none⟩) N N) (W.alloc (.cells (clC l N 0) 3)) := fun W => by
    have := run_makeSlice (P := Tryz.prog) W 60 3 i0 (.int .i64 0) Tryz.underlying60 hi0 hz0 .i64 .i64 (N : Int) (N : Int) (by omega) (by omega) (by rw [hz1]; simp; omega) (by rw [hz2]; omega) (by omega)
    rw [this, hz1, Int.toNat_natCast, made_cl l]
  have hmm := @run_makeMap Tryz.prog
  clear hi0 hz0 hz1 hz2
  go_wp2_with fail
  have hbl : Blk ((w.alloc (.cells (clC l N 0) 3)).alloc (.map #[] 0)) w.heap.size 3 (clC l N 0) := (Blk.new w _ _).alloc _
  have hcm := CM.new (w.alloc (.cells (clC l N 0) 3)) l
  have hbw : Below w.heap.size w ((w.alloc (.cells (clC l N 0) 3)).alloc (.map #[] 0)) := ((Below.refl _ w).alloc (Nat.le_refl _) _).alloc (by simp) _
  rw [show (w.alloc (.cells (clC l N 0) 3)).heap.size = w.heap.size + 1 by simp] at hcm
  have HBL := Lib.hid hbl
  have HCM := Lib.hid hcm
  have HBW := Lib.hid hbw
  have HMB : Hid (w.heap.size ≤ w.heap.size + 1) := Lib.hid (by omega)
  clear hbl hcm hbw MK hmm t1 t1b h1
  generalize (w.alloc (.cells (clC l N 0) 3)).alloc (.map #[] 0) = W1 at *
  generalize w.heap.size + 1 = mb at *
  obtain ⟨cb, hcb⟩ : ∃ cb, w.heap.size = cb := ⟨_, rfl⟩
  have HCB := Lib.hid hcb
  rw [hcb] at HBL HMB ⊢
  have HMC := HMB
  clear hcb
  go_loopw [19] (fun s19 wr => ∃ i : Nat, i ≤ N ∧ s19 = .int .i64 (i : Int) ∧ Hid (∃ Dm, CM wr mb i l Dm) ∧ Hid (Blk wr cb 3 (clC l N i)) ∧ Hid (Below w.heap.size w wr) ∧ Hid (∀ (j : Nat) (y : Four), j < i → l[j]? = some y → rightB (ofF y) = true)) (fun s19 _ => N - (intOf s19).toNat)
  case atStart => exact ⟨0, by omega, rfl, Lib.hid ⟨_, HCM.out⟩, HBL, HBW, Lib.hid (fun j y hj => absurd hj (by omega))⟩
  case round =>
    clear HCM HBL HBW
    obtain ⟨i, hi, rfl, HCM, HBL, HBW, HRT⟩ := hrel
    by_cases hlt : i < N
    · have u1 : decide ((i : Int) < (N : Int)) = true := decide_eq_true (by omega)
      have u2 : decide (i < N) = true := decide_eq_true hlt
      obtain ⟨x, hx⟩ : ∃ x, l[i]? = some x := ⟨_, List.getElem?_eq_getElem (by rw [HN.out]; exact hlt)⟩
      have HDx := HD.out.keep HBW.out
      rw [HN.out] at HDx
      obtain ⟨b, o, rfl, hcells⟩ := HDx.at hx
      have c0 := hcells 0 (by omega)
      have c1 := hcells 1 (by omega)
      have c2 := hcells 2 (by omega)
      have c3 := hcells 3 (by omega)
      rw [Nat.add_zero] at c0
      have H64 := Lib.hid (HA.out i x hx)
      have HXI := Lib.hid hx
      clear hx hcells HDx
      go_upto_region 8 with fail
      have HDB := Lib.hid (Blk.new wr 24 #[.int .u64 (ofF x 0 : Nat), .int .u64 (ofF x 1 : Nat), .int .u64 (ofF x 2 : Nat), .int .u64 (ofF x 3 : Nat)])
      have hb1 := below1 wr (.cells #[.int .u64 (ofF x 0 : Nat), .int .u64 (ofF x 1 : Nat), .int .u64 (ofF x 2 : Nat), .int .u64 (ofF x 3 : Nat)] 24)
      have HCM1 : Hid (∃ Dm, CM _ mb i l Dm) := Lib.hid (by obtain ⟨Dm, h⟩ := HCM.out; exact ⟨Dm, h.keep hb1⟩)
      have HBL1 := Lib.hid (HBL.out.keep hb1 HBL.out.lt)
      have HBW1 := Lib.hid (bchain HBW.out hb1)
      clear c0 c1 c2 c3 HCM HBL HBW hb1
      generalize wr.alloc (.cells #[.int .u64 (ofF x 0 : Nat), .int .u64 (ofF x 1 : Nat), .int .u64 (ofF x 2 : Nat), .int .u64 (ofF x 3 : Nat)] 24) = wa at *
      generalize wr.heap.size = db at *
      have d0 := HDB.out.cell (j := 0) rfl
      have d1 := HDB.out.cell (j := 1) rfl
      have d2 := HDB.out.cell (j := 2) rfl
      have d3 := HDB.out.cell (j := 3) rfl
      have RT := Lib.hid (fun W => right_any (ofF x) H64.out W)
      have KD := Lib.hid (key_deal (ofF x) H64.out)
      go_wp2_with fail
      refine (RT.out _).mono ?_
      rintro e wb ⟨rfl, hb⟩
      have HDB2 := Lib.hid (HDB.out.keep hb HDB.out.lt)
      have HCM2 : Hid (∃ Dm, CM wb mb i l Dm) := Lib.hid (by obtain ⟨Dm, h⟩ := HCM1.out; exact ⟨Dm, h.keep hb⟩)
      have HBL2 := Lib.hid (HBL1.out.keep hb HBL1.out.lt)
      have HBW2 := Lib.hid (bchain HBW1.out hb)
      clear hb d0 d1 d2 d3 HDB HCM1 HBL1 HBW1 RT
      rcases hr : rightB (ofF x) with _ | _
      · have HE := Lib.hid (all_bad HXI.out hr)
        clear hr KD
        go_wp2_with fail
        go_ret2
        exact ret_cls_bad (by rw [HN.out]; exact HX.out) HE.out HBW2.out rfl
      have HRT2 : Hid (∀ (j : Nat) (y : Four), j < i + 1 → l[j]? = some y → rightB (ofF y) = true) := Lib.hid (fun j y hj hy => by
        rcases Nat.lt_or_ge j i with h | h
        · exact HRT.out j y h hy
        · obtain rfl : j = i := by omega
          rw [HXI.out] at hy
          obtain rfl := Option.some.inj hy
          exact hr)
      clear hr HRT
      have d0 := HDB2.out.cell (j := 0) rfl
      have d1 := HDB2.out.cell (j := 1) rfl
      have d2 := HDB2.out.cell (j := 2) rfl
      have d3 := HDB2.out.cell (j := 3) rfl
      obtain ⟨Dm, hcm⟩ := HCM2.out
      have HC := Lib.hid hcm
      have hhas := hcm.has x H64.out
      have hne := cm_ne hcm HBL2.out
      obtain ⟨vo, hvo⟩ := clC_get l N i i hlt
      have y0 := HBL2.out.cell hvo
      have y1 := HBL2.out.free i
      have e2 := inc64 i (by omega)
      have i0' : (0 : Int) ≤ (i : Int) := by omega
      have HNE := Lib.hid hne
      clear hcm HCM2 hvo hne
      by_cases hin : x ∈ l.take i
      · rw [decide_eq_true hin] at hhas
        have HS := Lib.hid (HC.out.skip HXI.out hin)
        clear hin
        go_wp2_with (first
          | (at_lookup; refine wpList_lookup_own_ok_int wb rfl (.tmp 28) (.tmp 29) 95 rfl 24 3 .i64 lawD Tryz.underlying95 Tryz.underlying3 (zeroI _) mb i Dm rfl HC.out.own _ _ rfl KD.out ?_; intro cc hat hwc; clear hat hwc; rw [hhas])
          | (at_lookup; refine wpList_lookup_own_int wb rfl (.tmp 40) (.tmp 41) 95 rfl 24 3 .i64 lawD Tryz.underlying95 Tryz.underlying3 (zeroI _) mb i Dm rfl HC.out.own _ _ rfl KD.out ?_; intro c2 hat hwc; have HAT := Lib.hid hat; clear hat hwc))
        have hc : c2 = (firstIx l x : Nat) := by
          have := HAT.out.symm.trans (HS.out.get i x (by omega) HXI.out)
          simpa using this
        subst hc
        have N1 : Hid (∃ Dm, CM (wb.setCell ⟨cb, i, none⟩ (.int .i64 (firstIx l x : Nat))) mb (i + 1) l Dm) := Lib.hid ⟨Dm, HS.out.kept (grown_set wb cb i _) (fun e => HNE.out (Option.some.inj e))⟩
        have N2 : Hid (Blk (wb.setCell ⟨cb, i, none⟩ (.int .i64 (firstIx l x : Nat))) cb 3 (clC l N (i + 1))) := Lib.hid (by have := HBL2.out.set i (.int .i64 (firstIx l x : Nat)); rwa [clC_set l N i x HXI.out] at this)
        have N3 := Lib.hid (HBW2.out.setCell (show w.heap.size ≤ (⟨cb, i, none⟩ : Addr).block by show w.heap.size ≤ cb; rw [HCB.out]; exact Nat.le_refl _) (.int .i64 (firstIx l x : Nat)))
        clear HAT HS HC HBL2 HBW2 d0 d1 d2 d3 y0 y1 KD
        generalize firstIx l x = f at *
        go_wp2_with fail
        go_roundw
        case rel => exact ⟨i + 1, by omega, by simp, N1, N2, N3, HRT2⟩
        case measure => simp [intOf]; omega
      · rw [decide_eq_false hin] at hhas
        have PUT := Lib.hid (fun (wu : World) ho => HC.out.put (w' := wu) HA.out HXI.out hin ho)
        have hwf : (Lit.int .i64 (i : Int)).wf = true := WalkArith.wf_i64 (by omega)
        have HW := Lib.hid hwf
        have hdm := cm_ne HC.out HDB2.out
        have HDM := Lib.hid hdm
        clear hin hwf hdm
        go_wp2_with (first
          | (at_lookup; refine wpList_lookup_own_ok_int wb rfl (.tmp 28) (.tmp 29) 95 rfl 24 3 .i64 lawD Tryz.underlying95 Tryz.underlying3 (zeroI _) mb i Dm rfl HC.out.own _ _ rfl KD.out ?_; intro cc hat hwc; clear hat hwc; rw [hhas])
          | (at_mapUpdate; refine wpList_mapUpdate_own wb rfl (.tmp 35) (.tmp 36) (.tmp 37) 95 rfl 24 3 lawD Tryz.underlying95 (plainElem Tryz.prog 3) mb i Dm rfl HC.out.own (by unfold maxLen; omega) _ _ _ rfl rfl KD.out (.lit (.int .i64 (i : Int))) [] (plainElem_int Tryz.underlying3 HW.out) ?_; intro wu hown hgrow; have HS := Lib.hid (PUT.out _ hown); have HG := Lib.hid hgrow; have HDB3 := Lib.hid (blk_grown HDB2.out hgrow (fun e => HDM.out e.symm)); have HBL3 := Lib.hid (blk_grown HBL2.out hgrow (fun e => HNE.out e.symm)); have HBW3 := Lib.hid (HBW2.out.grown hgrow HBW2.out.size (fun k hk => by obtain rfl := Option.some.inj hk; rw [HCB.out]; exact HMC.out)); clear hown hgrow d0 d1 d2 d3 y0 y1; have d0 := HDB3.out.cell (j := 0) rfl; have d1 := HDB3.out.cell (j := 1) rfl; have d2 := HDB3.out.cell (j := 2) rfl; have d3 := HDB3.out.cell (j := 3) rfl; obtain ⟨vo, hvo⟩ := clC_get l N i i hlt; have y0 := HBL3.out.cell hvo; have y1 := HBL3.out.free i; clear hvo)
          | (at_lookup; refine wpList_lookup_own_int wu rfl (.tmp 40) (.tmp 41) 95 rfl 24 3 .i64 lawD Tryz.underlying95 Tryz.underlying3 (zeroI _) mb (i + 1) _ rfl HS.out.own _ _ rfl KD.out ?_; intro c2 hat hwc; have HAT := Lib.hid hat; clear hat hwc))
        have hc : c2 = (firstIx l x : Nat) := by
          have := HAT.out.symm.trans (HS.out.get i x (by omega) HXI.out)
          simpa using this
        subst hc
        have N1 : Hid (∃ Dm, CM (wu.setCell ⟨cb, i, none⟩ (.int .i64 (firstIx l x : Nat))) mb (i + 1) l Dm) := Lib.hid ⟨_, HS.out.kept (grown_set wu cb i _) (fun e => HNE.out (Option.some.inj e))⟩
        have N2 : Hid (Blk (wu.setCell ⟨cb, i, none⟩ (.int .i64 (firstIx l x : Nat))) cb 3 (clC l N (i + 1))) := Lib.hid (by have := HBL3.out.set i (.int .i64 (firstIx l x : Nat)); rwa [clC_set l N i x HXI.out] at this)
        have N3 := Lib.hid (HBW3.out.setCell (show w.heap.size ≤ (⟨cb, i, none⟩ : Addr).block by show w.heap.size ≤ cb; rw [HCB.out]; exact Nat.le_refl _) (.int .i64 (firstIx l x : Nat)))
        clear HAT HS HC HBL2 HBW2 HBL3 HBW3 d0 d1 d2 d3 y0 y1 KD
        generalize firstIx l x = f at *
        go_wp2_with fail
        go_roundw
        case rel => exact ⟨i + 1, by omega, by simp, N1, N2, N3, HRT2⟩
        case measure => simp [intOf]; omega
    · obtain rfl : i = N := by omega
      have u1 : decide ((i : Int) < (i : Int)) = false := decide_eq_false (by omega)
      have HE : Hid (allRight l = true) := Lib.hid (all_good (fun j y hy => HRT.out j y (by rw [← HN.out]; exact (List.getElem?_eq_some_iff.1 hy).1) hy))
      have HBQ := HBL.out
      rw [← HN.out] at HBQ
      have HNR := Lib.hid (nr_of HBQ)
      clear HBQ HCM HBL HRT
      go_wp2_with fail
      go_ret2
      refine ret_cls (by rw [HN.out]; exact HX.out) HE.out HBW.out ?_ HNR.out
      rw [HN.out]; rfl
end Go.Proofs.YtaadipccgckehaaGreatDoor
