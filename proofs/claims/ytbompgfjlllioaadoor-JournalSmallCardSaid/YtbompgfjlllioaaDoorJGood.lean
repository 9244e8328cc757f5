/- What a line must have: the four functions, must, good. -/
import Derived.Test.YtbompgfjlllioaaDoorJLine
import Derived.Test.YtbompgfjlllioaaDoorJScanP
import Derived.Deep.RegionHeld3
import Derived.Laws.EntriesVeiled
namespace Go.Proofs.YtbompgfjlllioaaDoor
open Go Go.RowKit

set_option maxRecDepth 100000 in
theorem must1 (A : Option Addr) (n cap : Nat) (w : World) : Calls Tryd.prog 71 #[.slice A n cap] w (fun e w' => e = .returned (.bool (decide (4 < n))) ∧ w = w') := by
  have t : decide (4 < (n : Int)) = decide (4 < n) := by simp only [decide_eq_decide]; omega
  go_enter Tryd.func71, Tryd.ntmps71
  go_wp2
  go_ret
  refine ⟨?_, rfl⟩
  first | rfl | (rw [← t]; rfl)
set_option maxRecDepth 100000 in
theorem must2 (b o cap : Nat) (l : List UInt8) (h : 4 < l.length) (w : World) (hB : BS w b o l) : Calls Tryd.prog 72 #[.slice (some ⟨b, o, none⟩) l.length cap] w (fun e w' => e = .returned (.bool (l.getD 4 0 == 32)) ∧ w = w') := by
  obtain ⟨c, hc⟩ : ∃ c, l[4] = c := ⟨_, rfl⟩
  have ck := hB.at_ h
  rw [hc] at ck
  have HG : Hid (l.getD 4 0 = c) := Lib.hid (by rw [List.getD_eq_getElem?_getD, List.getElem?_eq_getElem h, hc]; rfl)
  obtain ⟨N, hN⟩ : ∃ N, l.length = N := ⟨_, rfl⟩
  rw [hN] at h ⊢
  have i1 : (4 : Int) < (N : Int) := by omega
  clear hB hc hN
  by_cases hz : c = 32
  · subst hz
    go_enter Tryd.func72, Tryd.ntmps72
    go_wp2
    go_ret
    exact ⟨by rw [HG.out]; rfl, rfl⟩
  · have t1 : ((c.toNat : Int) == 32) = false := beq_eq_false_iff_ne.2 (fun h => hz (UInt8.toNat_inj.1 (by show c.toNat = 32; omega)))
    have t2 : (c == 32) = false := by simpa using hz
    clear hz
    go_enter Tryd.func72, Tryd.ntmps72
    go_wp2
    go_ret
    exact ⟨by rw [HG.out, t2]; rfl, rfl⟩
/-- What is left of a slice from k on: where it lies. -/
theorem BS.rest {W : World} {b o : Nat} {l : List UInt8} (h : BS W b o l) (k : Nat) (cap : Nat) (hl : l.length ≤ cap) : BS W b (if cap = k then o else o + k) (l.drop k) := by
  split
  · rename_i hk
    rw [List.drop_eq_nil_of_le (by omega)]
    exact BS.nil _ _ _
  · exact h.drop k
set_option maxRecDepth 100000 in
theorem must3 (b o cap : Nat) (l : List UInt8) (h : 4 < l.length) (hs : l.length ≤ 2000000) (hcap : l.length ≤ cap) (w : World) (hB : BS w b o l) : Calls Tryd.prog 73 #[.slice (some ⟨b, o, none⟩) l.length cap] w (fun e w' => e = .returned (.bool (rightL (l.drop 5))) ∧ w = w') := by
  have RB := Lib.hid (right_b b (if cap = 5 then o else o + 5) (cap - 5) (l.drop 5) (by simp; omega) w (hB.rest 5 cap hcap))
  rw [List.length_drop] at RB
  obtain ⟨N, hN⟩ : ∃ N, l.length = N := ⟨_, rfl⟩
  rw [hN] at h hs hcap RB ⊢
  have i1 : (5 : Int) ≤ (N : Int) := by omega
  have i2 : (N : Int) ≤ (cap : Int) := by omega
  have i3 : 5 ≤ N := by omega
  clear hB hN
  by_cases hz : cap = 5
  · rw [if_pos hz] at RB
    subst hz
    obtain rfl : N = 5 := by omega
    go_enter Tryd.func73, Tryd.ntmps73
    go_wp2_with fail
    refine RB.out.mono ?_
    rintro e w1 ⟨rfl, rfl⟩
    go_wp2
    go_ret
    exact ⟨rfl, rfl⟩
  · rw [if_neg hz] at RB
    have i4 : ¬ cap = 5 := hz
    have i5 : ¬ cap - 5 = 0 := by omega
    go_enter Tryd.func73, Tryd.ntmps73
    go_wp2_with fail
    refine RB.out.mono ?_
    rintro e w1 ⟨rfl, rfl⟩
    go_wp2
    go_ret
    exact ⟨rfl, rfl⟩
theorem conv_take (b o cap : Nat) (l : List UInt8) (k : Nat) (hk : k ≤ l.length) (W : World) (h : BS W b o l) : (convert 26 9 (.slice (some ⟨b, o, none⟩) k cap)).run Tryd.prog W = .ok (.string ⟨(l.take k).toArray⟩) W := by
  have e : (l.take k).length = k := by simp; omega
  conv => lhs; rw [← e]
  exact run_convert_bytes_back W _ _ 5 _ cap (l.take k) (by kernel_rfl) (by kernel_rfl) (by kernel_rfl) (fun j hj => by
    rw [add_at]
    exact (h.take k).at_ hj)
set_option maxRecDepth 100000 in
set_option maxHeartbeats 2000000 in
theorem must4 (x : Nat) (hx : x < 9973) (B : Nat) (b o cap : Nat) (l : List UInt8) (h : 4 < l.length) (hs : l.length ≤ 2000000) (hcap : l.length ≤ cap) (w : World) (he : Env w) (hB : BS w b o l) (hc : w.cell? ⟨B, 0, none⟩ = some (.int .i64 (x : Int))) :
    Calls Tryd.prog 75 #[.slice (some ⟨b, o, none⟩) l.length cap, .pointer (some ⟨B, 0, none⟩)] w (fun e w' => e = .returned (.bool (l.take 4 == figL (sumL x (l.drop 5)))) ∧ Below w.heap.size w w') := by
  have SB := Lib.hid (fun W (hB : BS W b o l) => sum_b x hx b (if cap = 5 then o else o + 5) (cap - 5) (l.drop 5) (by simp; omega) W (hB.rest 5 cap hcap))
  rw [List.length_drop] at SB
  obtain ⟨c, hcc⟩ : ∃ c, sumL x (l.drop 5) = c := ⟨_, rfl⟩
  have hc9 : c < 9973 := by rw [← hcc]; exact sumL_lt _ _
  rw [hcc] at SB ⊢
  have HE := Lib.hid he
  have FG := Lib.hid (fun W (hb : Below w.heap.size w W) => fig_any c hc9 W (he.keep hb))
  obtain ⟨G, hG⟩ : ∃ G : ByteArray, G = ⟨(figL c).toArray⟩ := ⟨_, rfl⟩
  rw [← hG] at FG
  obtain ⟨T, hT⟩ : ∃ T : ByteArray, T = ⟨(l.take 4).toArray⟩ := ⟨_, rfl⟩
  have CT := fun W => conv_take b o cap l 4 (by omega) W
  rw [← hT] at CT
  have HQ : Hid ((l.take 4 == figL c) = (T.toList == G.toList)) := Lib.hid (by rw [hT, hG, ByteArray.toList_eq, ByteArray.toList_eq])
  have SOF := Lib.hid (fun (wx : World) (hb : Below w.heap.size w wx) => (⟨keepW hb hc, hB.keep hb, hb⟩ : wx.cell? ⟨B, 0, none⟩ = some (.int .i64 (x : Int)) ∧ BS wx b o l ∧ Below w.heap.size w wx))
  obtain ⟨N, hN⟩ : ∃ N, l.length = N := ⟨_, rfl⟩
  rw [hN] at h hs hcap SB ⊢
  have i0 : (4 : Int) ≤ (N : Int) := by omega
  have i1 : (5 : Int) ≤ (N : Int) := by omega
  have i2 : (N : Int) ≤ (cap : Int) := by omega
  have i3 : 5 ≤ N := by omega
  have i6 : (4 : Int) ≤ (cap : Int) := by omega
  clear hB hN hc hG hT hcc he
  by_cases hz : cap = 5
  · rw [if_pos hz] at SB
    subst hz
    obtain rfl : N = 5 := by omega
    go_enter Tryd.func75, Tryd.ntmps75
    go_upto_region 1 with fail
    go_region_held3 (fun wx => wx.cell? ⟨B, 0, none⟩ = some (.int .i64 (x : Int)) ∧ BS wx b o l ∧ Below w.heap.size w wx)
      (first | exact SOF.out _ (Below.refl _ _) | exact SOF.out _ (Below.drew (Below.refl _ _)) | exact SOF.out _ (by assumption) | exact SOF.out _ hB | exact SOF.out _ (by assumption : _ ∧ _ ∧ Below w.heap.size w _).2.2)
      (first
        | (go_at_call 54; (with_reducible refine (SB.out _ (by assumption : _ ∧ BS _ b o l ∧ _).2.1).mono ?_); rintro e w' ⟨rfl, rfl⟩)
        | (go_at_call 41; (with_reducible refine (FG.out _ (by assumption : _ ∧ _ ∧ Below w.heap.size w _).2.2).mono ?_); rintro e w' ⟨rfl, hb⟩; (have hB := bchain (by assumption : _ ∧ _ ∧ Below w.heap.size w _).2.2 hb)))
    all_goals
      have HB := Lib.hid (by assumption : _ ∧ _ ∧ Below w.heap.size w _).2.2
      clear SB FG SOF
      go_wp2
      go_ret
      exact ⟨by rw [HQ.out]; rfl, HB.out⟩
  · rw [if_neg hz] at SB
    have i4 : ¬ cap = 5 := hz
    have i5 : ¬ cap - 5 = 0 := by omega
    go_enter Tryd.func75, Tryd.ntmps75
    go_upto_region 1 with fail
    go_region_held3 (fun wx => wx.cell? ⟨B, 0, none⟩ = some (.int .i64 (x : Int)) ∧ BS wx b o l ∧ Below w.heap.size w wx)
      (first | exact SOF.out _ (Below.refl _ _) | exact SOF.out _ (Below.drew (Below.refl _ _)) | exact SOF.out _ (by assumption) | exact SOF.out _ hB | exact SOF.out _ (by assumption : _ ∧ _ ∧ Below w.heap.size w _).2.2)
      (first
        | (go_at_call 54; (with_reducible refine (SB.out _ (by assumption : _ ∧ BS _ b o l ∧ _).2.1).mono ?_); rintro e w' ⟨rfl, rfl⟩)
        | (go_at_call 41; (with_reducible refine (FG.out _ (by assumption : _ ∧ _ ∧ Below w.heap.size w _).2.2).mono ?_); rintro e w' ⟨rfl, hb⟩; (have hB := bchain (by assumption : _ ∧ _ ∧ Below w.heap.size w _).2.2 hb)))
    all_goals
      have HB := Lib.hid (by assumption : _ ∧ _ ∧ Below w.heap.size w _).2.2
      clear SB FG SOF
      go_wp2
      go_ret
      exact ⟨by rw [HQ.out]; rfl, HB.out⟩
set_option maxRecDepth 100000 in
theorem must_any (x : Nat) (w : World) : Calls Tryd.prog 66 #[.int .i64 (x : Int)] w (fun e w' => ∃ B, e = .returned (.agg #[.func (.func 71) #[] #[], .func (.func 72) #[] #[], .func (.func 73) #[] #[], .func (.func 75) #[] #[.pointer (some ⟨B, 0, none⟩)]]) ∧ w'.cell? ⟨B, 0, none⟩ = some (.int .i64 (x : Int)) ∧ Below w.heap.size w w') := by
  go_enter Tryd.func66, Tryd.ntmps66
  go_upto_region 1 with fail
  have h0 : Blk ((w.alloc (.cells #[.int .i64 (x : Int)] 3)).alloc (.cells #[.nilFunc, .nilFunc, .nilFunc, .nilFunc] 115)) w.heap.size 3 #[.int .i64 (x : Int)] := (Blk.new w _ _).alloc _
  have h1 : Blk ((w.alloc (.cells #[.int .i64 (x : Int)] 3)).alloc (.cells #[.nilFunc, .nilFunc, .nilFunc, .nilFunc] 115)) (w.heap.size + 1) 115 #[.nilFunc, .nilFunc, .nilFunc, .nilFunc] := by
    have := Blk.new (w.alloc (.cells #[.int .i64 (x : Int)] 3)) 115 #[.nilFunc, .nilFunc, .nilFunc, .nilFunc]
    rwa [World.size_alloc] at this
  have hb : Below w.heap.size w ((w.alloc (.cells #[.int .i64 (x : Int)] 3)).alloc (.cells #[.nilFunc, .nilFunc, .nilFunc, .nilFunc] 115)) := bchain (below1 _ _) (below1 _ _)
  generalize (w.alloc (.cells #[.int .i64 (x : Int)] 3)).alloc (.cells #[.nilFunc, .nilFunc, .nilFunc, .nilFunc] 115) = W0 at *
  obtain ⟨B, hB⟩ : ∃ B, w.heap.size = B := ⟨_, rfl⟩
  obtain ⟨R, hR⟩ : ∃ R, w.heap.size + 1 = R := ⟨_, rfl⟩
  have hle : w.heap.size ≤ R := by omega
  have hne : B ≠ R := by omega
  rw [hR] at h1 ⊢
  rw [hB] at h0 ⊢
  clear hB hR
  have c0 := h1.cell (j := 0) (v := .nilFunc) rfl
  have c1 := h1.cell (j := 1) (v := .nilFunc) rfl
  have c2 := h1.cell (j := 2) (v := .nilFunc) rfl
  have c3 := h1.cell (j := 3) (v := .nilFunc) rfl
  have f0 := h1.free 0
  have f1 := h1.free 1
  have f2 := h1.free 2
  have f3 := h1.free 3
  have HB : Hid (Below w.heap.size w ((((W0.setCell ⟨R, 0, none⟩ (.func (.func 71) #[] #[])).setCell ⟨R, 1, none⟩ (.func (.func 72) #[] #[])).setCell ⟨R, 2, none⟩ (.func (.func 73) #[] #[])).setCell ⟨R, 3, none⟩ (.func (.func 75) #[] #[.pointer (some ⟨B, 0, none⟩)]))) := Lib.hid ((((hb.setCell hle _).setCell hle _).setCell hle _).setCell hle _)
  have H0 : Hid (Blk ((((W0.setCell ⟨R, 0, none⟩ (.func (.func 71) #[] #[])).setCell ⟨R, 1, none⟩ (.func (.func 72) #[] #[])).setCell ⟨R, 2, none⟩ (.func (.func 73) #[] #[])).setCell ⟨R, 3, none⟩ (.func (.func 75) #[] #[.pointer (some ⟨B, 0, none⟩)])) B 3 #[.int .i64 (x : Int)]) := Lib.hid ((((h0.other hne 0 _).other hne 1 _).other hne 2 _).other hne 3 _)
  have H1 : Hid (Blk ((((W0.setCell ⟨R, 0, none⟩ (.func (.func 71) #[] #[])).setCell ⟨R, 1, none⟩ (.func (.func 72) #[] #[])).setCell ⟨R, 2, none⟩ (.func (.func 73) #[] #[])).setCell ⟨R, 3, none⟩ (.func (.func 75) #[] #[.pointer (some ⟨B, 0, none⟩)])) R 115 #[.func (.func 71) #[] #[], .func (.func 72) #[] #[], .func (.func 73) #[] #[], .func (.func 75) #[] #[.pointer (some ⟨B, 0, none⟩)]]) := Lib.hid ((((h1.set 0 _).set 1 _).set 2 _).set 3 _)
  clear h0 h1 hb
  go_wp2
  generalize (((W0.setCell ⟨R, 0, none⟩ (.func (.func 71) #[] #[])).setCell ⟨R, 1, none⟩ (.func (.func 72) #[] #[])).setCell ⟨R, 2, none⟩ (.func (.func 73) #[] #[])).setCell ⟨R, 3, none⟩ (.func (.func 75) #[] #[.pointer (some ⟨B, 0, none⟩)]) = W4 at *
  have d0 := H1.out.cell (j := 0) (v := .func (.func 71) #[] #[]) rfl
  have d1 := H1.out.cell (j := 1) (v := .func (.func 72) #[] #[]) rfl
  have d2 := H1.out.cell (j := 2) (v := .func (.func 73) #[] #[]) rfl
  have d3 := H1.out.cell (j := 3) (v := .func (.func 75) #[] #[.pointer (some ⟨B, 0, none⟩)]) rfl
  simp [bodyPost, results, Tryd.results66, go_sem, d0, d1, d2, d3]
  exact ⟨H0.out.cell (j := 0) rfl, HB.out⟩
set_option maxRecDepth 100000 in
set_option maxHeartbeats 2000000 in
theorem good_any (x : Nat) (hx : x < 9973) (b o cap : Nat) (l : List UInt8) (hs : l.length ≤ 2000000) (hcap : l.length ≤ cap) (w : World) (he : Env w) (hB : BS w b o l) :
    Calls Tryd.prog 53 #[.int .i64 (x : Int), .slice (some ⟨b, o, none⟩) l.length cap] w (fun e w' => e = .returned (.bool (goodL x l)) ∧ Below w.heap.size w w') := by
  have MU := Lib.hid (must_any x w)
  have HE := Lib.hid he
  have HB := Lib.hid hB
  obtain ⟨N, hN⟩ : ∃ N, l.length = N := ⟨_, rfl⟩
  have M1 := Lib.hid (fun W => must1 (some ⟨b, o, none⟩) l.length cap W)
  by_cases g4 : l.length ≤ 4
  · have h4 : ¬ 4 < l.length := by omega
    have HG : Hid (goodL x l = false) := Lib.hid (by unfold goodL; rw [decide_eq_false h4]; rfl)
    rw [decide_eq_false h4] at M1
    rw [hN] at M1 ⊢
    clear hN hB he hs hcap hx
    clear h4 g4
    go_enter Tryd.func53, Tryd.ntmps53
    go_wp2_with fail
    refine MU.out.mono ?_
    rintro e w1 ⟨B, rfl, hc, hb⟩
    have HC := Lib.hid hc
    have HB1 := Lib.hid hb
    clear MU hc hb
    have X0 : ∀ W, (Instr.index 115 (.agg #[.func (.func 71) #[] #[], .func (.func 72) #[] #[], .func (.func 73) #[] #[], .func (.func 75) #[] #[.pointer (some ⟨B, 0, none⟩)]]) (.int .i64 0)).run Tryd.prog W = .ok (.func (.func 71) #[] #[]) W := fun W => by kernel_rfl
    go_wp2_with fail
    refine wp_loop_rounds 1 ?_
    rw [rounds_succ]
    go_wp2_with fail
    refine (M1.out w1).mono ?_
    rintro e w2 ⟨rfl, rfl⟩
    
    go_wp2
    go_ret
    exact ⟨by rw [HG.out]; rfl, HB1.out⟩
  have h4 : 4 < l.length := by omega
  clear g4
  rw [decide_eq_true h4] at M1
  have M2 := Lib.hid (fun W (hB : BS W b o l) => must2 b o cap l h4 W hB)
  rcases h5 : (l.getD 4 0 == 32) with _ | _
  · have HG : Hid (goodL x l = false) := Lib.hid (by unfold goodL; rw [decide_eq_true h4, h5]; simp)
    rw [h5] at M2
    rw [hN] at M1 M2 ⊢
    clear hN hB he hs hcap hx
    clear h4 h5
    go_enter Tryd.func53, Tryd.ntmps53
    go_wp2_with fail
    refine MU.out.mono ?_
    rintro e w1 ⟨B, rfl, hc, hb⟩
    have HC := Lib.hid hc
    have HB1 := Lib.hid hb
    clear MU hc hb
    have X0 : ∀ W, (Instr.index 115 (.agg #[.func (.func 71) #[] #[], .func (.func 72) #[] #[], .func (.func 73) #[] #[], .func (.func 75) #[] #[.pointer (some ⟨B, 0, none⟩)]]) (.int .i64 0)).run Tryd.prog W = .ok (.func (.func 71) #[] #[]) W := fun W => by kernel_rfl
    have X1 : ∀ W, (Instr.index 115 (.agg #[.func (.func 71) #[] #[], .func (.func 72) #[] #[], .func (.func 73) #[] #[], .func (.func 75) #[] #[.pointer (some ⟨B, 0, none⟩)]]) (.int .i64 1)).run Tryd.prog W = .ok (.func (.func 72) #[] #[]) W := fun W => by kernel_rfl
    go_wp2_with fail
    refine wp_loop_rounds 2 ?_
    rw [rounds_succ]
    go_wp2_with fail
    refine (M1.out w1).mono ?_
    rintro e w2 ⟨rfl, rfl⟩
    go_wp2_with fail
    rw [rounds_succ]
    go_wp2_with fail
    refine (M2.out w1 (HB.out.keep HB1.out)).mono ?_
    rintro e w2 ⟨rfl, rfl⟩
    
    go_wp2
    go_ret
    exact ⟨by rw [HG.out]; rfl, HB1.out⟩
  rw [h5] at M2
  have M3 := Lib.hid (fun W (hB : BS W b o l) => must3 b o cap l h4 hs hcap W hB)
  rcases h6 : (rightL (l.drop 5)) with _ | _
  · have HG : Hid (goodL x l = false) := Lib.hid (by unfold goodL; rw [decide_eq_true h4, h5, h6]; simp)
    rw [h6] at M3
    rw [hN] at M1 M2 M3 ⊢
    clear hN hB he hs hcap hx
    clear h4 h6
    go_enter Tryd.func53, Tryd.ntmps53
    go_wp2_with fail
    refine MU.out.mono ?_
    rintro e w1 ⟨B, rfl, hc, hb⟩
    have HC := Lib.hid hc
    have HB1 := Lib.hid hb
    clear MU hc hb
    have X0 : ∀ W, (Instr.index 115 (.agg #[.func (.func 71) #[] #[], .func (.func 72) #[] #[], .func (.func 73) #[] #[], .func (.func 75) #[] #[.pointer (some ⟨B, 0, none⟩)]]) (.int .i64 0)).run Tryd.prog W = .ok (.func (.func 71) #[] #[]) W := fun W => by kernel_rfl
    have X1 : ∀ W, (Instr.index 115 (.agg #[.func (.func 71) #[] #[], .func (.func 72) #[] #[], .func (.func 73) #[] #[], .func (.func 75) #[] #[.pointer (some ⟨B, 0, none⟩)]]) (.int .i64 1)).run Tryd.prog W = .ok (.func (.func 72) #[] #[]) W := fun W => by kernel_rfl
    have X2 : ∀ W, (Instr.index 115 (.agg #[.func (.func 71) #[] #[], .func (.func 72) #[] #[], .func (.func 73) #[] #[], .func (.func 75) #[] #[.pointer (some ⟨B, 0, none⟩)]]) (.int .i64 2)).run Tryd.prog W = .ok (.func (.func 73) #[] #[]) W := fun W => by kernel_rfl
    go_wp2_with fail
    refine wp_loop_rounds 3 ?_
    rw [rounds_succ]
    go_wp2_with fail
    refine (M1.out w1).mono ?_
    rintro e w2 ⟨rfl, rfl⟩
    go_wp2_with fail
    rw [rounds_succ]
    go_wp2_with fail
    refine (M2.out w1 (HB.out.keep HB1.out)).mono ?_
    rintro e w2 ⟨rfl, rfl⟩
    go_wp2_with fail
    rw [rounds_succ]
    go_wp2_with fail
    refine (M3.out w1 (HB.out.keep HB1.out)).mono ?_
    rintro e w2 ⟨rfl, rfl⟩
    
    go_wp2
    go_ret
    exact ⟨by rw [HG.out]; rfl, HB1.out⟩
  rw [h6] at M3
  have M4 := Lib.hid (fun W B (he : Env W) (hB : BS W b o l) hc => must4 x hx B b o cap l h4 hs hcap W he hB hc)
  rcases h7 : (l.take 4 == figL (sumL x (l.drop 5))) with _ | _
  · have HG : Hid (goodL x l = false) := Lib.hid (by unfold goodL; rw [decide_eq_true h4, h5, h6, h7]; simp)
    rw [h7] at M4
    rw [hN] at M1 M2 M3 M4 ⊢
    clear hN hB he hs hcap hx
    clear h4 h7
    go_enter Tryd.func53, Tryd.ntmps53
    go_wp2_with fail
    refine MU.out.mono ?_
    rintro e w1 ⟨B, rfl, hc, hb⟩
    have HC := Lib.hid hc
    have HB1 := Lib.hid hb
    clear MU hc hb
    have X0 : ∀ W, (Instr.index 115 (.agg #[.func (.func 71) #[] #[], .func (.func 72) #[] #[], .func (.func 73) #[] #[], .func (.func 75) #[] #[.pointer (some ⟨B, 0, none⟩)]]) (.int .i64 0)).run Tryd.prog W = .ok (.func (.func 71) #[] #[]) W := fun W => by kernel_rfl
    have X1 : ∀ W, (Instr.index 115 (.agg #[.func (.func 71) #[] #[], .func (.func 72) #[] #[], .func (.func 73) #[] #[], .func (.func 75) #[] #[.pointer (some ⟨B, 0, none⟩)]]) (.int .i64 1)).run Tryd.prog W = .ok (.func (.func 72) #[] #[]) W := fun W => by kernel_rfl
    have X2 : ∀ W, (Instr.index 115 (.agg #[.func (.func 71) #[] #[], .func (.func 72) #[] #[], .func (.func 73) #[] #[], .func (.func 75) #[] #[.pointer (some ⟨B, 0, none⟩)]]) (.int .i64 2)).run Tryd.prog W = .ok (.func (.func 73) #[] #[]) W := fun W => by kernel_rfl
    have X3 : ∀ W, (Instr.index 115 (.agg #[.func (.func 71) #[] #[], .func (.func 72) #[] #[], .func (.func 73) #[] #[], .func (.func 75) #[] #[.pointer (some ⟨B, 0, none⟩)]]) (.int .i64 3)).run Tryd.prog W = .ok (.func (.func 75) #[] #[.pointer (some ⟨B, 0, none⟩)]) W := fun W => by kernel_rfl
    go_wp2_with fail
    refine wp_loop_rounds 4 ?_
    rw [rounds_succ]
    go_wp2_with fail
    refine (M1.out w1).mono ?_
    rintro e w2 ⟨rfl, rfl⟩
    go_wp2_with fail
    rw [rounds_succ]
    go_wp2_with fail
    refine (M2.out w1 (HB.out.keep HB1.out)).mono ?_
    rintro e w2 ⟨rfl, rfl⟩
    go_wp2_with fail
    rw [rounds_succ]
    go_wp2_with fail
    refine (M3.out w1 (HB.out.keep HB1.out)).mono ?_
    rintro e w2 ⟨rfl, rfl⟩
    go_wp2_with fail
    rw [rounds_succ]
    go_wp2_with fail
    refine (M4.out w1 B (HE.out.keep HB1.out) (HB.out.keep HB1.out) HC.out).mono ?_
    rintro e w2 ⟨rfl, hb⟩
    have HB2 := Lib.hid (bchain HB1.out hb)
    clear hb
    go_wp2
    go_ret
    exact ⟨by rw [HG.out]; rfl, HB2.out⟩
  rw [h7] at M4
  have HG : Hid (goodL x l = true) := Lib.hid (by unfold goodL; rw [decide_eq_true h4, h5, h6, h7]; rfl)
  rw [hN] at M1 M2 M3 M4 ⊢
  clear hN hB he hs hcap hx
  go_enter Tryd.func53, Tryd.ntmps53
  go_wp2_with fail
  refine MU.out.mono ?_
  rintro e w1 ⟨B, rfl, hc, hb⟩
  have HC := Lib.hid hc
  have HB1 := Lib.hid hb
  clear MU hc hb
  have X0 : ∀ W, (Instr.index 115 (.agg #[.func (.func 71) #[] #[], .func (.func 72) #[] #[], .func (.func 73) #[] #[], .func (.func 75) #[] #[.pointer (some ⟨B, 0, none⟩)]]) (.int .i64 0)).run Tryd.prog W = .ok (.func (.func 71) #[] #[]) W := fun W => by kernel_rfl
  have X1 : ∀ W, (Instr.index 115 (.agg #[.func (.func 71) #[] #[], .func (.func 72) #[] #[], .func (.func 73) #[] #[], .func (.func 75) #[] #[.pointer (some ⟨B, 0, none⟩)]]) (.int .i64 1)).run Tryd.prog W = .ok (.func (.func 72) #[] #[]) W := fun W => by kernel_rfl
  have X2 : ∀ W, (Instr.index 115 (.agg #[.func (.func 71) #[] #[], .func (.func 72) #[] #[], .func (.func 73) #[] #[], .func (.func 75) #[] #[.pointer (some ⟨B, 0, none⟩)]]) (.int .i64 2)).run Tryd.prog W = .ok (.func (.func 73) #[] #[]) W := fun W => by kernel_rfl
  have X3 : ∀ W, (Instr.index 115 (.agg #[.func (.func 71) #[] #[], .func (.func 72) #[] #[], .func (.func 73) #[] #[], .func (.func 75) #[] #[.pointer (some ⟨B, 0, none⟩)]]) (.int .i64 3)).run Tryd.prog W = .ok (.func (.func 75) #[] #[.pointer (some ⟨B, 0, none⟩)]) W := fun W => by kernel_rfl
  go_wp2_with fail
  refine wp_loop_rounds 5 ?_
  rw [rounds_succ]
  go_wp2_with fail
  refine (M1.out w1).mono ?_
  rintro e w2 ⟨rfl, rfl⟩
  go_wp2_with fail
  rw [rounds_succ]
  go_wp2_with fail
  refine (M2.out w1 (HB.out.keep HB1.out)).mono ?_
  rintro e w2 ⟨rfl, rfl⟩
  go_wp2_with fail
  rw [rounds_succ]
  go_wp2_with fail
  refine (M3.out w1 (HB.out.keep HB1.out)).mono ?_
  rintro e w2 ⟨rfl, rfl⟩
  go_wp2_with fail
  rw [rounds_succ]
  go_wp2_with fail
  refine (M4.out w1 B (HE.out.keep HB1.out) (HB.out.keep HB1.out) HC.out).mono ?_
  rintro e w2 ⟨rfl, hb⟩
  have HB2 := Lib.hid (bchain HB1.out hb)
  clear hb
  go_wp2_with fail
  rw [rounds_succ]
  go_wp2
  go_ret
  exact ⟨by rw [HG.out]; rfl, HB2.out⟩
end Go.Proofs.YtbompgfjlllioaaDoor
