/- FracWide returns true. -/
import Derived.Test.YtfhkgpipbegpgaaDoorOrder
import Derived.Deep.DeepCutAuto
namespace Go.Proofs.YtfhkgpipbegpgaaDoor
open Go Go.RowKit

theorem make_ok {a b : Int} {q1 q2 : Int} (h : makeP a b = (q1, q2, 0)) : ∃ x : Rat, fits x = true ∧ q1 = x.num ∧ q2 = (x.den : Nat) := by
  by_cases hb : b = 0
  · subst hb
    rw [show makeP a 0 = (0, 0, 2) from rfl] at h
    cases h
  · rw [make_out a b hb] at h
    unfold outF at h
    by_cases hf : fits (Rat.divInt a b) = true
    · rw [if_pos hf] at h
      injection h with h1 h2
      injection h2 with h2 _
      exact ⟨_, hf, h1.symm, h2.symm⟩
    · rw [if_neg hf] at h
      cases h
theorem outF_not {x : Rat} (h : ¬ fits x = true) : outF x = (0, 0, 3) := by
  unfold outF; rw [if_neg h]
theorem late_blk {V W' : World} {o : Obj} (ho : o = .cells #[.int .i64 0, .int .i64 0] 26) (hb : Below (V.alloc o).drew.heap.size (V.alloc o).drew W') (n d : Int) :
    Blk ((W'.setCell ⟨V.heap.size, 0, none⟩ (.int .i64 n)).setCell ⟨V.heap.size, 1, none⟩ (.int .i64 d)) V.heap.size 26 #[.int .i64 n, .int .i64 d] ∧
    Below V.heap.size V ((W'.setCell ⟨V.heap.size, 0, none⟩ (.int .i64 n)).setCell ⟨V.heap.size, 1, none⟩ (.int .i64 d)) := by
  subst ho
  have b0 := Blk.new V 26 #[.int .i64 0, .int .i64 0]
  have b1 := b0.keep (Below.drew (Below.refl _ _)) b0.lt
  have b2 := ((b1.keep hb b1.lt).set 0 (.int .i64 n)).set 1 (.int .i64 d)
  exact ⟨b2, ((bchain (Below.drew (below1 _ _)) hb).setCell (Nat.le_refl _) _).setCell (Nat.le_refl _) _⟩
theorem add_not (x y : Rat) (hx : fits x = true) (hy : fits y = true) (hf : ¬ fits (x + y) = true) (w : World) :
    Calls Tryd.prog 15 #[.agg #[.int .i64 x.num, .int .i64 (x.den : Nat)], .agg #[.int .i64 y.num, .int .i64 (y.den : Nat)]] w (RetF (0, 0, 3) w) := by
  have := oadd_ok x.num x.den y.num y.den (fb_R hx) (fb_R hy) (right_R x) (right_R y) w
  rw [toR_R, toR_R, outF_not hf] at this
  exact this
theorem sub_not (x y : Rat) (hx : fits x = true) (hy : fits y = true) (hf : ¬ fits (x - y) = true) (w : World) :
    Calls Tryd.prog 14 #[.agg #[.int .i64 x.num, .int .i64 (x.den : Nat)], .agg #[.int .i64 y.num, .int .i64 (y.den : Nat)]] w (RetF (0, 0, 3) w) := by
  have := osub_ok x.num x.den y.num y.den (fb_R hx) (fb_R hy) (right_R x) (right_R y) w
  rw [toR_R, toR_R, outF_not hf] at this
  exact this
theorem mul_not (x y : Rat) (hx : fits x = true) (hy : fits y = true) (hf : ¬ fits (x * y) = true) (w : World) :
    Calls Tryd.prog 16 #[.agg #[.int .i64 x.num, .int .i64 (x.den : Nat)], .agg #[.int .i64 y.num, .int .i64 (y.den : Nat)]] w (RetF (0, 0, 3) w) := by
  have := omul_ok x.num x.den y.num y.den (fb_R hx) (fb_R hy) (right_R x) (right_R y) w
  rw [toR_R, toR_R, outF_not hf] at this
  exact this
theorem div_not (x y : Rat) (hx : fits x = true) (hy : fits y = true) (hz : y ≠ 0) (hf : ¬ fits (x / y) = true) (w : World) :
    Calls Tryd.prog 20 #[.agg #[.int .i64 x.num, .int .i64 (x.den : Nat)], .agg #[.int .i64 y.num, .int .i64 (y.den : Nat)]] w (RetF (0, 0, 3) w) := by
  have := odiv_ok x.num x.den y.num y.den (fb_R hx) (fb_R hy) (right_R x) (right_R y) (fun h => hz (Rat.num_eq_zero.1 h)) w
  rw [toR_R, toR_R, outF_not hf] at this
  exact this
set_option maxRecDepth 100000 in
set_option maxHeartbeats 16000000 in
theorem wide_walk (a b c d : Int) (ha : -9223372036854775808 ≤ a ∧ a ≤ 9223372036854775807) (hb : -9223372036854775808 ≤ b ∧ b ≤ 9223372036854775807) (hc : -9223372036854775808 ≤ c ∧ c ≤ 9223372036854775807) (hd : -9223372036854775808 ≤ d ∧ d ≤ 9223372036854775807) (w : World) (he : Env w) :
    Calls Tryd.prog 6 #[.int .i64 a, .int .i64 b, .int .i64 c, .int .i64 d] w (RetBool true w) := by
  obtain ⟨⟨fa, fb, fc⟩, hf⟩ : ∃ q, makeP a b = q := ⟨_, rfl⟩
  obtain ⟨⟨ga, gb, gc⟩, hg⟩ : ∃ q, makeP c d = q := ⟨_, rfl⟩
  have M1 := Lib.hid (fun w => make_any a b ⟨ha.1, ha.2, hb.1, hb.2⟩ w)
  have M2 := Lib.hid (fun w => make_any c d ⟨hc.1, hc.2, hd.1, hd.2⟩ w)
  have HF := Lib.hid hf
  have HG := Lib.hid hg
  clear hf hg ha hb hc hd
  have h0 := InvL.start he
  clear he
  go_enter Tryd.func6, Tryd.ntmps6
  go_wp2_with fail
  refine (invV (fun w hw => (awake_any w hw)) h0).mono ?_
  rintro e w1 ⟨rfl, h1⟩
  clear h0
  go_wp2_with fail
  refine (invF (fun w _ => M1.out w) HF.out h1).mono ?_
  rintro e w2 ⟨rfl, h2⟩
  clear h1 M1
  have h3 := h2.push 26 #[.int .i64 fa, .int .i64 fb]
  clear h2
  go_upto_region 4 with fail
  generalize w2.alloc (.cells #[.int .i64 fa, .int .i64 fb] 26) = W3 at *
  generalize w2.heap.size = PF at *
  go_wp2_with fail
  refine (invF (fun w _ => M2.out w) HG.out h3).mono ?_
  rintro e w4 ⟨rfl, h4⟩
  clear h3 M2
  have h5 := h4.push 26 #[.int .i64 ga, .int .i64 gb]
  clear h4
  go_upto_region 5 with fail
  generalize w4.alloc (.cells #[.int .i64 ga, .int .i64 gb] 26) = W5 at *
  generalize w4.heap.size = PG at *
  have hB5 := h5.below
  by_cases h1 : fc = 0
  case neg =>
    have t1 : (fc == 0) = false := by simpa using h1
    clear h1 HF HG h5
    go_wp2
    go_ret
    exact ⟨rfl, hB5⟩
  by_cases h2 : gc = 0
  case neg =>
    subst h1
    have t1 : (gc == 0) = false := by simpa using h2
    clear h2 HF HG h5
    go_wp2
    go_ret
    exact ⟨rfl, hB5⟩
  clear hB5
  subst h1 h2
  obtain ⟨x, hx, rfl, rfl⟩ := make_ok HF.out
  obtain ⟨y, hy, rfl, rfl⟩ := make_ok HG.out
  clear HF HG
  have h6 := (h5.push 32 #[.func (.func 15) #[] #[], .func (.func 14) #[] #[], .func (.func 16) #[] #[], .func (.func 20) #[] #[]]).push 32 #[.func (.func 14) #[] #[], .func (.func 15) #[] #[], .func (.func 20) #[] #[], .func (.func 16) #[] #[]]
  simp only [size_al] at h6
  clear h5
  go_wp2_with fail
  generalize (W5.alloc (.cells #[.func (.func 15) #[] #[], .func (.func 14) #[] #[], .func (.func 16) #[] #[], .func (.func 20) #[] #[]] 32)).alloc (.cells #[.func (.func 14) #[] #[], .func (.func 15) #[] #[], .func (.func 20) #[] #[], .func (.func 16) #[] #[]] 32) = W6 at *
  generalize W5.heap.size = PT at *
  obtain ⟨PB, hPB⟩ : ∃ o, PT + 1 = o := ⟨_, rfl⟩
  rw [hPB] at h6 ⊢
  clear hPB
  have HX := Lib.hid hx
  have HY := Lib.hid hy
  have H6 := Lib.hid h6
  clear hx hy h6
  go_loopw [45] (fun s45 wr => ∃ k : Nat, k ≤ 4 ∧ s45 = .int .i64 k ∧ InvL w wr [(PB, 32, #[.func (.func 14) #[] #[], .func (.func 15) #[] #[], .func (.func 20) #[] #[], .func (.func 16) #[] #[]]), (PT, 32, #[.func (.func 15) #[] #[], .func (.func 14) #[] #[], .func (.func 16) #[] #[], .func (.func 20) #[] #[]]), (PG, 26, #[.int .i64 y.num, .int .i64 (y.den : Nat)]), (PF, 26, #[.int .i64 x.num, .int .i64 (x.den : Nat)])]) (fun s45 _ => 4 - (intOf s45).toNat)
  case atStart => exact ⟨0, by omega, rfl, H6.out⟩
  case round =>
    obtain ⟨k, hk, rfl, hM⟩ := hrel
    clear H6
    rcases (by omega : k = 4 ∨ k = 0 ∨ k = 1 ∨ k = 2 ∨ k = 3) with rfl | rfl | rfl | rfl | rfl
    · have hB9 := hM.below
      clear hM
      go_wp2
      go_ret
      exact ⟨rfl, hB9⟩
    · by_cases hu : y.num = 0
      · have u1 : (y.num == 0) = true := by simpa using hu
        clear hu
        by_cases hft : fits (x + y) = true
        · obtain ⟨z, hz⟩ : ∃ z, x + y = z := ⟨_, rfl⟩
          rw [hz] at hft
          have T1 := Lib.hid (fun w => add_RR x y z HX.out HY.out hz hft w)
          have T2 := Lib.hid (fun w => sub_RR z y x hft HY.out (by rw [← hz, Rat.sub_eq_add_neg, Rat.add_assoc, Rat.add_neg_cancel, Rat.add_zero]) HX.out w)
          have RZ := Lib.hid (fun w => right_RR z hft w)
          clear hft hz
          have c0 := hM.cell (i := 1) rfl (j := 0) (v := .func (.func 15) #[] #[]) rfl
          have xx0 := hM.cell (i := 3) rfl (j := 0) (v := .int .i64 x.num) rfl
          have xx1 := hM.cell (i := 3) rfl (j := 1) (v := .int .i64 (x.den : Nat)) rfl
          have xy0 := hM.cell (i := 2) rfl (j := 0) (v := .int .i64 y.num) rfl
          have xy1 := hM.cell (i := 2) rfl (j := 1) (v := .int .i64 (y.den : Nat)) rfl
          go_wp2_with fail
          refine (invV (fun w _ => T1.out w) hM).mono ?_
          rintro e V1 ⟨rfl, v1⟩
          clear hM T1 c0 xx0 xx1 xy0 xy1
          have v2 := v1.push 26 #[.int .i64 z.num, .int .i64 (z.den : Nat)]
          clear v1
          go_upto_region 13 with fail
          generalize V1.alloc (.cells #[.int .i64 z.num, .int .i64 (z.den : Nat)] 26) = V2 at *
          generalize V1.heap.size = PX at *
          have xy0 := v2.cell (i := 3) rfl (j := 0) (v := .int .i64 y.num) rfl
          have V2H := Lib.hid v2
          go_upto_region 18 with fail
          go_cut [20, 18] (fun s20 s18 wx => ∃ P : Nat, s20 = .pointer (some ⟨P, 0, none⟩) ∧ s18 = .int .i64 0 ∧ Blk wx P 26 #[.int .i64 x.num, .int .i64 (x.den : Nat)] ∧ V2.heap.size ≤ P ∧ Below V2.heap.size V2 wx)
          case first =>
            have SOF := Lib.hid (fun (wx : World) (hb : Below V2.heap.size V2 wx) => (⟨(V2H.out.keep hb).cell (i := 1) rfl (j := 0) rfl, (V2H.out.keep hb).cell (i := 0) rfl (j := 0) rfl, (V2H.out.keep hb).cell (i := 0) rfl (j := 1) rfl, (V2H.out.keep hb).cell (i := 3) rfl (j := 0) rfl, (V2H.out.keep hb).cell (i := 3) rfl (j := 1) rfl, hb⟩ : wx.cell? ⟨PB, 0, none⟩ = some (.func (.func 14) #[] #[]) ∧ wx.cell? ⟨PX, 0, none⟩ = some (.int .i64 z.num) ∧ wx.cell? ⟨PX, 1, none⟩ = some (.int .i64 (z.den : Nat)) ∧ wx.cell? ⟨PG, 0, none⟩ = some (.int .i64 y.num) ∧ wx.cell? ⟨PG, 1, none⟩ = some (.int .i64 (y.den : Nat)) ∧ Below V2.heap.size V2 wx))
            clear v2 xy0
            go_region_held3 (fun wx => wx.cell? ⟨PB, 0, none⟩ = some (.func (.func 14) #[] #[]) ∧ wx.cell? ⟨PX, 0, none⟩ = some (.int .i64 z.num) ∧ wx.cell? ⟨PX, 1, none⟩ = some (.int .i64 (z.den : Nat)) ∧ wx.cell? ⟨PG, 0, none⟩ = some (.int .i64 y.num) ∧ wx.cell? ⟨PG, 1, none⟩ = some (.int .i64 (y.den : Nat)) ∧ Below V2.heap.size V2 wx)
              (first | exact SOF.out _ (Below.refl _ _) | exact SOF.out _ (Below.drew (Below.refl _ _)) | exact SOF.out _ (below1 _ _) | exact SOF.out _ (Below.alloc (Below.drew (Below.refl _ _)) (Nat.le_refl _) _) | exact SOF.out _ (Below.drew (below1 _ _)) | exact SOF.out _ hB | exact SOF.out _ (hB.alloc hB.size _) | exact SOF.out _ (hB.setCell (Nat.le_refl _) _) | exact SOF.out _ ((hB.setCell (Nat.le_refl _) _).setCell (Nat.le_refl _) _))
              (first | (go_at_call 14; (with_reducible refine (T2.out _).mono ?_); rintro e w' ⟨rfl, hb⟩; (have hB := bchain (by assumption : _ ∧ _ ∧ _ ∧ _ ∧ _ ∧ Below V2.heap.size V2 _).2.2.2.2.2 hb); obtain ⟨hc, hf⟩ := bcell hb))
            all_goals
              clear hc hf
              go_wp2
              go_meet
              first
                | exact ⟨_, rfl, rfl, Blk.new _ _ _, hB.size, hB.alloc hB.size _⟩
                | exact ⟨_, rfl, rfl, (late_blk rfl hb _ _).1, Nat.le_refl _, (late_blk rfl hb _ _).2⟩
          case rest =>
          obtain ⟨P, rfl, rfl, hP, hPs, hB⟩ := hcut
          clear v2 xy0 T2
          have v3 := V2H.out.keep hB
          clear V2H
          have xz0 := v3.cell (i := 0) rfl (j := 0) (v := .int .i64 z.num) rfl
          have xz1 := v3.cell (i := 0) rfl (j := 1) (v := .int .i64 (z.den : Nat)) rfl
          go_wp2_with fail
          refine (RZ.out _).mono ?_
          rintro e V4 ⟨rfl, hb4⟩
          have v4 := v3.keep hb4
          have hP4 := hP.keep hb4 hP.lt
          clear v3 hP hb4 xz0 xz1 hB
          have xx0 := v4.cell (i := 4) rfl (j := 0) (v := .int .i64 x.num) rfl
          have xx1 := v4.cell (i := 4) rfl (j := 1) (v := .int .i64 (x.den : Nat)) rfl
          have xp0 := hP4.cell (j := 0) (v := .int .i64 x.num) rfl
          have xp1 := hP4.cell (j := 1) (v := .int .i64 (x.den : Nat)) rfl
          have V4H := Lib.hid v4.tail
          clear v4 hP4
          go_wp2
          go_roundw
          case rel => exact ⟨1, by omega, rfl, V4H.out⟩
          case measure => simp [intOf]
        · have T1 := Lib.hid (fun w => add_not x y HX.out HY.out hft w)
          clear hft
          have c0 := hM.cell (i := 1) rfl (j := 0) (v := .func (.func 15) #[] #[]) rfl
          have xx0 := hM.cell (i := 3) rfl (j := 0) (v := .int .i64 x.num) rfl
          have xx1 := hM.cell (i := 3) rfl (j := 1) (v := .int .i64 (x.den : Nat)) rfl
          have xy0 := hM.cell (i := 2) rfl (j := 0) (v := .int .i64 y.num) rfl
          have xy1 := hM.cell (i := 2) rfl (j := 1) (v := .int .i64 (y.den : Nat)) rfl
          go_wp2_with fail
          refine (invF (fun w _ => T1.out w) rfl hM).mono ?_
          rintro e V1 ⟨rfl, v1⟩
          clear hM T1 c0 xx0 xx1 xy0 xy1
          have v2 := v1.push 26 #[.int .i64 0, .int .i64 0]
          clear v1
          go_upto_region 13 with fail
          generalize V1.alloc (.cells #[.int .i64 0, .int .i64 0] 26) = V2 at *
          generalize V1.heap.size = PX at *
          have xy0 := v2.cell (i := 3) rfl (j := 0) (v := .int .i64 y.num) rfl
          have xz0 := v2.cell (i := 0) rfl (j := 0) (v := .int .i64 0) rfl
          have xz1 := v2.cell (i := 0) rfl (j := 1) (v := .int .i64 0) rfl
          have V2H := Lib.hid v2.tail
          clear v2
          go_wp2
          go_roundw
          case rel => exact ⟨1, by omega, rfl, V2H.out⟩
          case measure => simp [intOf]
      · have u1 : (y.num == 0) = false := by simpa using hu
        have hy0 : y ≠ 0 := fun h => hu (Rat.num_eq_zero.2 h)
        clear hu
        by_cases hft : fits (x + y) = true
        · obtain ⟨z, hz⟩ : ∃ z, x + y = z := ⟨_, rfl⟩
          rw [hz] at hft
          have T1 := Lib.hid (fun w => add_RR x y z HX.out HY.out hz hft w)
          have T2 := Lib.hid (fun w => sub_RR z y x hft HY.out (by rw [← hz, Rat.sub_eq_add_neg, Rat.add_assoc, Rat.add_neg_cancel, Rat.add_zero]) HX.out w)
          have RZ := Lib.hid (fun w => right_RR z hft w)
          clear hft hz
          have c0 := hM.cell (i := 1) rfl (j := 0) (v := .func (.func 15) #[] #[]) rfl
          have xx0 := hM.cell (i := 3) rfl (j := 0) (v := .int .i64 x.num) rfl
          have xx1 := hM.cell (i := 3) rfl (j := 1) (v := .int .i64 (x.den : Nat)) rfl
          have xy0 := hM.cell (i := 2) rfl (j := 0) (v := .int .i64 y.num) rfl
          have xy1 := hM.cell (i := 2) rfl (j := 1) (v := .int .i64 (y.den : Nat)) rfl
          go_wp2_with fail
          refine (invV (fun w _ => T1.out w) hM).mono ?_
          rintro e V1 ⟨rfl, v1⟩
          clear hM T1 c0 xx0 xx1 xy0 xy1
          have v2 := v1.push 26 #[.int .i64 z.num, .int .i64 (z.den : Nat)]
          clear v1
          go_upto_region 13 with fail
          generalize V1.alloc (.cells #[.int .i64 z.num, .int .i64 (z.den : Nat)] 26) = V2 at *
          generalize V1.heap.size = PX at *
          have xy0 := v2.cell (i := 3) rfl (j := 0) (v := .int .i64 y.num) rfl
          have V2H := Lib.hid v2
          go_upto_region 18 with fail
          go_cut [20, 18] (fun s20 s18 wx => ∃ P : Nat, s20 = .pointer (some ⟨P, 0, none⟩) ∧ s18 = .int .i64 0 ∧ Blk wx P 26 #[.int .i64 x.num, .int .i64 (x.den : Nat)] ∧ V2.heap.size ≤ P ∧ Below V2.heap.size V2 wx)
          case first =>
            have SOF := Lib.hid (fun (wx : World) (hb : Below V2.heap.size V2 wx) => (⟨(V2H.out.keep hb).cell (i := 1) rfl (j := 0) rfl, (V2H.out.keep hb).cell (i := 0) rfl (j := 0) rfl, (V2H.out.keep hb).cell (i := 0) rfl (j := 1) rfl, (V2H.out.keep hb).cell (i := 3) rfl (j := 0) rfl, (V2H.out.keep hb).cell (i := 3) rfl (j := 1) rfl, hb⟩ : wx.cell? ⟨PB, 0, none⟩ = some (.func (.func 14) #[] #[]) ∧ wx.cell? ⟨PX, 0, none⟩ = some (.int .i64 z.num) ∧ wx.cell? ⟨PX, 1, none⟩ = some (.int .i64 (z.den : Nat)) ∧ wx.cell? ⟨PG, 0, none⟩ = some (.int .i64 y.num) ∧ wx.cell? ⟨PG, 1, none⟩ = some (.int .i64 (y.den : Nat)) ∧ Below V2.heap.size V2 wx))
            clear v2 xy0
            go_region_held3 (fun wx => wx.cell? ⟨PB, 0, none⟩ = some (.func (.func 14) #[] #[]) ∧ wx.cell? ⟨PX, 0, none⟩ = some (.int .i64 z.num) ∧ wx.cell? ⟨PX, 1, none⟩ = some (.int .i64 (z.den : Nat)) ∧ wx.cell? ⟨PG, 0, none⟩ = some (.int .i64 y.num) ∧ wx.cell? ⟨PG, 1, none⟩ = some (.int .i64 (y.den : Nat)) ∧ Below V2.heap.size V2 wx)
              (first | exact SOF.out _ (Below.refl _ _) | exact SOF.out _ (Below.drew (Below.refl _ _)) | exact SOF.out _ (below1 _ _) | exact SOF.out _ (Below.alloc (Below.drew (Below.refl _ _)) (Nat.le_refl _) _) | exact SOF.out _ (Below.drew (below1 _ _)) | exact SOF.out _ hB | exact SOF.out _ (hB.alloc hB.size _) | exact SOF.out _ (hB.setCell (Nat.le_refl _) _) | exact SOF.out _ ((hB.setCell (Nat.le_refl _) _).setCell (Nat.le_refl _) _))
              (first | (go_at_call 14; (with_reducible refine (T2.out _).mono ?_); rintro e w' ⟨rfl, hb⟩; (have hB := bchain (by assumption : _ ∧ _ ∧ _ ∧ _ ∧ _ ∧ Below V2.heap.size V2 _).2.2.2.2.2 hb); obtain ⟨hc, hf⟩ := bcell hb))
            all_goals
              clear hc hf
              go_wp2
              go_meet
              first
                | exact ⟨_, rfl, rfl, Blk.new _ _ _, hB.size, hB.alloc hB.size _⟩
                | exact ⟨_, rfl, rfl, (late_blk rfl hb _ _).1, Nat.le_refl _, (late_blk rfl hb _ _).2⟩
          case rest =>
          obtain ⟨P, rfl, rfl, hP, hPs, hB⟩ := hcut
          clear v2 xy0 T2
          have v3 := V2H.out.keep hB
          clear V2H
          have xz0 := v3.cell (i := 0) rfl (j := 0) (v := .int .i64 z.num) rfl
          have xz1 := v3.cell (i := 0) rfl (j := 1) (v := .int .i64 (z.den : Nat)) rfl
          go_wp2_with fail
          refine (RZ.out _).mono ?_
          rintro e V4 ⟨rfl, hb4⟩
          have v4 := v3.keep hb4
          have hP4 := hP.keep hb4 hP.lt
          clear v3 hP hb4 xz0 xz1 hB
          have xx0 := v4.cell (i := 4) rfl (j := 0) (v := .int .i64 x.num) rfl
          have xx1 := v4.cell (i := 4) rfl (j := 1) (v := .int .i64 (x.den : Nat)) rfl
          have xp0 := hP4.cell (j := 0) (v := .int .i64 x.num) rfl
          have xp1 := hP4.cell (j := 1) (v := .int .i64 (x.den : Nat)) rfl
          have V4H := Lib.hid v4.tail
          clear v4 hP4
          go_wp2
          go_roundw
          case rel => exact ⟨1, by omega, rfl, V4H.out⟩
          case measure => simp [intOf]
        · have T1 := Lib.hid (fun w => add_not x y HX.out HY.out hft w)
          clear hft
          have c0 := hM.cell (i := 1) rfl (j := 0) (v := .func (.func 15) #[] #[]) rfl
          have xx0 := hM.cell (i := 3) rfl (j := 0) (v := .int .i64 x.num) rfl
          have xx1 := hM.cell (i := 3) rfl (j := 1) (v := .int .i64 (x.den : Nat)) rfl
          have xy0 := hM.cell (i := 2) rfl (j := 0) (v := .int .i64 y.num) rfl
          have xy1 := hM.cell (i := 2) rfl (j := 1) (v := .int .i64 (y.den : Nat)) rfl
          go_wp2_with fail
          refine (invF (fun w _ => T1.out w) rfl hM).mono ?_
          rintro e V1 ⟨rfl, v1⟩
          clear hM T1 c0 xx0 xx1 xy0 xy1
          have v2 := v1.push 26 #[.int .i64 0, .int .i64 0]
          clear v1
          go_upto_region 13 with fail
          generalize V1.alloc (.cells #[.int .i64 0, .int .i64 0] 26) = V2 at *
          generalize V1.heap.size = PX at *
          have xy0 := v2.cell (i := 3) rfl (j := 0) (v := .int .i64 y.num) rfl
          have xz0 := v2.cell (i := 0) rfl (j := 0) (v := .int .i64 0) rfl
          have xz1 := v2.cell (i := 0) rfl (j := 1) (v := .int .i64 0) rfl
          have V2H := Lib.hid v2.tail
          clear v2
          go_wp2
          go_roundw
          case rel => exact ⟨1, by omega, rfl, V2H.out⟩
          case measure => simp [intOf]
    · by_cases hu : y.num = 0
      · have u1 : (y.num == 0) = true := by simpa using hu
        clear hu
        by_cases hft : fits (x - y) = true
        · obtain ⟨z, hz⟩ : ∃ z, x - y = z := ⟨_, rfl⟩
          rw [hz] at hft
          have T1 := Lib.hid (fun w => sub_RR x y z HX.out HY.out hz hft w)
          have T2 := Lib.hid (fun w => add_RR z y x hft HY.out (by rw [← hz, Rat.sub_eq_add_neg, Rat.add_assoc, Rat.neg_add_cancel, Rat.add_zero]) HX.out w)
          have RZ := Lib.hid (fun w => right_RR z hft w)
          clear hft hz
          have c0 := hM.cell (i := 1) rfl (j := 1) (v := .func (.func 14) #[] #[]) rfl
          have xx0 := hM.cell (i := 3) rfl (j := 0) (v := .int .i64 x.num) rfl
          have xx1 := hM.cell (i := 3) rfl (j := 1) (v := .int .i64 (x.den : Nat)) rfl
          have xy0 := hM.cell (i := 2) rfl (j := 0) (v := .int .i64 y.num) rfl
          have xy1 := hM.cell (i := 2) rfl (j := 1) (v := .int .i64 (y.den : Nat)) rfl
          go_wp2_with fail
          refine (invV (fun w _ => T1.out w) hM).mono ?_
          rintro e V1 ⟨rfl, v1⟩
          clear hM T1 c0 xx0 xx1 xy0 xy1
          have v2 := v1.push 26 #[.int .i64 z.num, .int .i64 (z.den : Nat)]
          clear v1
          go_upto_region 13 with fail
          generalize V1.alloc (.cells #[.int .i64 z.num, .int .i64 (z.den : Nat)] 26) = V2 at *
          generalize V1.heap.size = PX at *
          have xy0 := v2.cell (i := 3) rfl (j := 0) (v := .int .i64 y.num) rfl
          have V2H := Lib.hid v2
          go_upto_region 18 with fail
          go_cut [20, 18] (fun s20 s18 wx => ∃ P : Nat, s20 = .pointer (some ⟨P, 0, none⟩) ∧ s18 = .int .i64 0 ∧ Blk wx P 26 #[.int .i64 x.num, .int .i64 (x.den : Nat)] ∧ V2.heap.size ≤ P ∧ Below V2.heap.size V2 wx)
          case first =>
            have SOF := Lib.hid (fun (wx : World) (hb : Below V2.heap.size V2 wx) => (⟨(V2H.out.keep hb).cell (i := 1) rfl (j := 1) rfl, (V2H.out.keep hb).cell (i := 0) rfl (j := 0) rfl, (V2H.out.keep hb).cell (i := 0) rfl (j := 1) rfl, (V2H.out.keep hb).cell (i := 3) rfl (j := 0) rfl, (V2H.out.keep hb).cell (i := 3) rfl (j := 1) rfl, hb⟩ : wx.cell? ⟨PB, 1, none⟩ = some (.func (.func 15) #[] #[]) ∧ wx.cell? ⟨PX, 0, none⟩ = some (.int .i64 z.num) ∧ wx.cell? ⟨PX, 1, none⟩ = some (.int .i64 (z.den : Nat)) ∧ wx.cell? ⟨PG, 0, none⟩ = some (.int .i64 y.num) ∧ wx.cell? ⟨PG, 1, none⟩ = some (.int .i64 (y.den : Nat)) ∧ Below V2.heap.size V2 wx))
            clear v2 xy0
            go_region_held3 (fun wx => wx.cell? ⟨PB, 1, none⟩ = some (.func (.func 15) #[] #[]) ∧ wx.cell? ⟨PX, 0, none⟩ = some (.int .i64 z.num) ∧ wx.cell? ⟨PX, 1, none⟩ = some (.int .i64 (z.den : Nat)) ∧ wx.cell? ⟨PG, 0, none⟩ = some (.int .i64 y.num) ∧ wx.cell? ⟨PG, 1, none⟩ = some (.int .i64 (y.den : Nat)) ∧ Below V2.heap.size V2 wx)
              (first | exact SOF.out _ (Below.refl _ _) | exact SOF.out _ (Below.drew (Below.refl _ _)) | exact SOF.out _ (below1 _ _) | exact SOF.out _ (Below.alloc (Below.drew (Below.refl _ _)) (Nat.le_refl _) _) | exact SOF.out _ (Below.drew (below1 _ _)) | exact SOF.out _ hB | exact SOF.out _ (hB.alloc hB.size _) | exact SOF.out _ (hB.setCell (Nat.le_refl _) _) | exact SOF.out _ ((hB.setCell (Nat.le_refl _) _).setCell (Nat.le_refl _) _))
              (first | (go_at_call 15; (with_reducible refine (T2.out _).mono ?_); rintro e w' ⟨rfl, hb⟩; (have hB := bchain (by assumption : _ ∧ _ ∧ _ ∧ _ ∧ _ ∧ Below V2.heap.size V2 _).2.2.2.2.2 hb); obtain ⟨hc, hf⟩ := bcell hb))
            all_goals
              clear hc hf
              go_wp2
              go_meet
              first
                | exact ⟨_, rfl, rfl, Blk.new _ _ _, hB.size, hB.alloc hB.size _⟩
                | exact ⟨_, rfl, rfl, (late_blk rfl hb _ _).1, Nat.le_refl _, (late_blk rfl hb _ _).2⟩
          case rest =>
          obtain ⟨P, rfl, rfl, hP, hPs, hB⟩ := hcut
          clear v2 xy0 T2
          have v3 := V2H.out.keep hB
          clear V2H
          have xz0 := v3.cell (i := 0) rfl (j := 0) (v := .int .i64 z.num) rfl
          have xz1 := v3.cell (i := 0) rfl (j := 1) (v := .int .i64 (z.den : Nat)) rfl
          go_wp2_with fail
          refine (RZ.out _).mono ?_
          rintro e V4 ⟨rfl, hb4⟩
          have v4 := v3.keep hb4
          have hP4 := hP.keep hb4 hP.lt
          clear v3 hP hb4 xz0 xz1 hB
          have xx0 := v4.cell (i := 4) rfl (j := 0) (v := .int .i64 x.num) rfl
          have xx1 := v4.cell (i := 4) rfl (j := 1) (v := .int .i64 (x.den : Nat)) rfl
          have xp0 := hP4.cell (j := 0) (v := .int .i64 x.num) rfl
          have xp1 := hP4.cell (j := 1) (v := .int .i64 (x.den : Nat)) rfl
          have V4H := Lib.hid v4.tail
          clear v4 hP4
          go_wp2
          go_roundw
          case rel => exact ⟨2, by omega, rfl, V4H.out⟩
          case measure => simp [intOf]
        · have T1 := Lib.hid (fun w => sub_not x y HX.out HY.out hft w)
          clear hft
          have c0 := hM.cell (i := 1) rfl (j := 1) (v := .func (.func 14) #[] #[]) rfl
          have xx0 := hM.cell (i := 3) rfl (j := 0) (v := .int .i64 x.num) rfl
          have xx1 := hM.cell (i := 3) rfl (j := 1) (v := .int .i64 (x.den : Nat)) rfl
          have xy0 := hM.cell (i := 2) rfl (j := 0) (v := .int .i64 y.num) rfl
          have xy1 := hM.cell (i := 2) rfl (j := 1) (v := .int .i64 (y.den : Nat)) rfl
          go_wp2_with fail
          refine (invF (fun w _ => T1.out w) rfl hM).mono ?_
          rintro e V1 ⟨rfl, v1⟩
          clear hM T1 c0 xx0 xx1 xy0 xy1
          have v2 := v1.push 26 #[.int .i64 0, .int .i64 0]
          clear v1
          go_upto_region 13 with fail
          generalize V1.alloc (.cells #[.int .i64 0, .int .i64 0] 26) = V2 at *
          generalize V1.heap.size = PX at *
          have xy0 := v2.cell (i := 3) rfl (j := 0) (v := .int .i64 y.num) rfl
          have xz0 := v2.cell (i := 0) rfl (j := 0) (v := .int .i64 0) rfl
          have xz1 := v2.cell (i := 0) rfl (j := 1) (v := .int .i64 0) rfl
          have V2H := Lib.hid v2.tail
          clear v2
          go_wp2
          go_roundw
          case rel => exact ⟨2, by omega, rfl, V2H.out⟩
          case measure => simp [intOf]
      · have u1 : (y.num == 0) = false := by simpa using hu
        have hy0 : y ≠ 0 := fun h => hu (Rat.num_eq_zero.2 h)
        clear hu
        by_cases hft : fits (x - y) = true
        · obtain ⟨z, hz⟩ : ∃ z, x - y = z := ⟨_, rfl⟩
          rw [hz] at hft
          have T1 := Lib.hid (fun w => sub_RR x y z HX.out HY.out hz hft w)
          have T2 := Lib.hid (fun w => add_RR z y x hft HY.out (by rw [← hz, Rat.sub_eq_add_neg, Rat.add_assoc, Rat.neg_add_cancel, Rat.add_zero]) HX.out w)
          have RZ := Lib.hid (fun w => right_RR z hft w)
          clear hft hz
          have c0 := hM.cell (i := 1) rfl (j := 1) (v := .func (.func 14) #[] #[]) rfl
          have xx0 := hM.cell (i := 3) rfl (j := 0) (v := .int .i64 x.num) rfl
          have xx1 := hM.cell (i := 3) rfl (j := 1) (v := .int .i64 (x.den : Nat)) rfl
          have xy0 := hM.cell (i := 2) rfl (j := 0) (v := .int .i64 y.num) rfl
          have xy1 := hM.cell (i := 2) rfl (j := 1) (v := .int .i64 (y.den : Nat)) rfl
          go_wp2_with fail
          refine (invV (fun w _ => T1.out w) hM).mono ?_
          rintro e V1 ⟨rfl, v1⟩
          clear hM T1 c0 xx0 xx1 xy0 xy1
          have v2 := v1.push 26 #[.int .i64 z.num, .int .i64 (z.den : Nat)]
          clear v1
          go_upto_region 13 with fail
          generalize V1.alloc (.cells #[.int .i64 z.num, .int .i64 (z.den : Nat)] 26) = V2 at *
          generalize V1.heap.size = PX at *
          have xy0 := v2.cell (i := 3) rfl (j := 0) (v := .int .i64 y.num) rfl
          have V2H := Lib.hid v2
          go_upto_region 18 with fail
          go_cut [20, 18] (fun s20 s18 wx => ∃ P : Nat, s20 = .pointer (some ⟨P, 0, none⟩) ∧ s18 = .int .i64 0 ∧ Blk wx P 26 #[.int .i64 x.num, .int .i64 (x.den : Nat)] ∧ V2.heap.size ≤ P ∧ Below V2.heap.size V2 wx)
          case first =>
            have SOF := Lib.hid (fun (wx : World) (hb : Below V2.heap.size V2 wx) => (⟨(V2H.out.keep hb).cell (i := 1) rfl (j := 1) rfl, (V2H.out.keep hb).cell (i := 0) rfl (j := 0) rfl, (V2H.out.keep hb).cell (i := 0) rfl (j := 1) rfl, (V2H.out.keep hb).cell (i := 3) rfl (j := 0) rfl, (V2H.out.keep hb).cell (i := 3) rfl (j := 1) rfl, hb⟩ : wx.cell? ⟨PB, 1, none⟩ = some (.func (.func 15) #[] #[]) ∧ wx.cell? ⟨PX, 0, none⟩ = some (.int .i64 z.num) ∧ wx.cell? ⟨PX, 1, none⟩ = some (.int .i64 (z.den : Nat)) ∧ wx.cell? ⟨PG, 0, none⟩ = some (.int .i64 y.num) ∧ wx.cell? ⟨PG, 1, none⟩ = some (.int .i64 (y.den : Nat)) ∧ Below V2.heap.size V2 wx))
            clear v2 xy0
            go_region_held3 (fun wx => wx.cell? ⟨PB, 1, none⟩ = some (.func (.func 15) #[] #[]) ∧ wx.cell? ⟨PX, 0, none⟩ = some (.int .i64 z.num) ∧ wx.cell? ⟨PX, 1, none⟩ = some (.int .i64 (z.den : Nat)) ∧ wx.cell? ⟨PG, 0, none⟩ = some (.int .i64 y.num) ∧ wx.cell? ⟨PG, 1, none⟩ = some (.int .i64 (y.den : Nat)) ∧ Below V2.heap.size V2 wx)
              (first | exact SOF.out _ (Below.refl _ _) | exact SOF.out _ (Below.drew (Below.refl _ _)) | exact SOF.out _ (below1 _ _) | exact SOF.out _ (Below.alloc (Below.drew (Below.refl _ _)) (Nat.le_refl _) _) | exact SOF.out _ (Below.drew (below1 _ _)) | exact SOF.out _ hB | exact SOF.out _ (hB.alloc hB.size _) | exact SOF.out _ (hB.setCell (Nat.le_refl _) _) | exact SOF.out _ ((hB.setCell (Nat.le_refl _) _).setCell (Nat.le_refl _) _))
              (first | (go_at_call 15; (with_reducible refine (T2.out _).mono ?_); rintro e w' ⟨rfl, hb⟩; (have hB := bchain (by assumption : _ ∧ _ ∧ _ ∧ _ ∧ _ ∧ Below V2.heap.size V2 _).2.2.2.2.2 hb); obtain ⟨hc, hf⟩ := bcell hb))
            all_goals
              clear hc hf
              go_wp2
              go_meet
              first
                | exact ⟨_, rfl, rfl, Blk.new _ _ _, hB.size, hB.alloc hB.size _⟩
                | exact ⟨_, rfl, rfl, (late_blk rfl hb _ _).1, Nat.le_refl _, (late_blk rfl hb _ _).2⟩
          case rest =>
          obtain ⟨P, rfl, rfl, hP, hPs, hB⟩ := hcut
          clear v2 xy0 T2
          have v3 := V2H.out.keep hB
          clear V2H
          have xz0 := v3.cell (i := 0) rfl (j := 0) (v := .int .i64 z.num) rfl
          have xz1 := v3.cell (i := 0) rfl (j := 1) (v := .int .i64 (z.den : Nat)) rfl
          go_wp2_with fail
          refine (RZ.out _).mono ?_
          rintro e V4 ⟨rfl, hb4⟩
          have v4 := v3.keep hb4
          have hP4 := hP.keep hb4 hP.lt
          clear v3 hP hb4 xz0 xz1 hB
          have xx0 := v4.cell (i := 4) rfl (j := 0) (v := .int .i64 x.num) rfl
          have xx1 := v4.cell (i := 4) rfl (j := 1) (v := .int .i64 (x.den : Nat)) rfl
          have xp0 := hP4.cell (j := 0) (v := .int .i64 x.num) rfl
          have xp1 := hP4.cell (j := 1) (v := .int .i64 (x.den : Nat)) rfl
          have V4H := Lib.hid v4.tail
          clear v4 hP4
          go_wp2
          go_roundw
          case rel => exact ⟨2, by omega, rfl, V4H.out⟩
          case measure => simp [intOf]
        · have T1 := Lib.hid (fun w => sub_not x y HX.out HY.out hft w)
          clear hft
          have c0 := hM.cell (i := 1) rfl (j := 1) (v := .func (.func 14) #[] #[]) rfl
          have xx0 := hM.cell (i := 3) rfl (j := 0) (v := .int .i64 x.num) rfl
          have xx1 := hM.cell (i := 3) rfl (j := 1) (v := .int .i64 (x.den : Nat)) rfl
          have xy0 := hM.cell (i := 2) rfl (j := 0) (v := .int .i64 y.num) rfl
          have xy1 := hM.cell (i := 2) rfl (j := 1) (v := .int .i64 (y.den : Nat)) rfl
          go_wp2_with fail
          refine (invF (fun w _ => T1.out w) rfl hM).mono ?_
          rintro e V1 ⟨rfl, v1⟩
          clear hM T1 c0 xx0 xx1 xy0 xy1
          have v2 := v1.push 26 #[.int .i64 0, .int .i64 0]
          clear v1
          go_upto_region 13 with fail
          generalize V1.alloc (.cells #[.int .i64 0, .int .i64 0] 26) = V2 at *
          generalize V1.heap.size = PX at *
          have xy0 := v2.cell (i := 3) rfl (j := 0) (v := .int .i64 y.num) rfl
          have xz0 := v2.cell (i := 0) rfl (j := 0) (v := .int .i64 0) rfl
          have xz1 := v2.cell (i := 0) rfl (j := 1) (v := .int .i64 0) rfl
          have V2H := Lib.hid v2.tail
          clear v2
          go_wp2
          go_roundw
          case rel => exact ⟨2, by omega, rfl, V2H.out⟩
          case measure => simp [intOf]
    · by_cases hu : y.num = 0
      · have u1 : (y.num == 0) = true := by simpa using hu
        clear hu
        by_cases hft : fits (x * y) = true
        · obtain ⟨z, hz⟩ : ∃ z, x * y = z := ⟨_, rfl⟩
          rw [hz] at hft
          have T1 := Lib.hid (fun w => mul_RR x y z HX.out HY.out hz hft w)
          clear hft hz
          have c0 := hM.cell (i := 1) rfl (j := 2) (v := .func (.func 16) #[] #[]) rfl
          have xx0 := hM.cell (i := 3) rfl (j := 0) (v := .int .i64 x.num) rfl
          have xx1 := hM.cell (i := 3) rfl (j := 1) (v := .int .i64 (x.den : Nat)) rfl
          have xy0 := hM.cell (i := 2) rfl (j := 0) (v := .int .i64 y.num) rfl
          have xy1 := hM.cell (i := 2) rfl (j := 1) (v := .int .i64 (y.den : Nat)) rfl
          go_wp2_with fail
          refine (invV (fun w _ => T1.out w) hM).mono ?_
          rintro e V1 ⟨rfl, v1⟩
          clear hM T1 c0 xx0 xx1 xy0 xy1
          have v2 := v1.push 26 #[.int .i64 z.num, .int .i64 (z.den : Nat)]
          clear v1
          go_upto_region 13 with fail
          generalize V1.alloc (.cells #[.int .i64 z.num, .int .i64 (z.den : Nat)] 26) = V2 at *
          generalize V1.heap.size = PX at *
          have xy0 := v2.cell (i := 3) rfl (j := 0) (v := .int .i64 y.num) rfl
          have V2H := Lib.hid v2.tail
          clear v2
          go_wp2
          go_roundw
          case rel => exact ⟨3, by omega, rfl, V2H.out⟩
          case measure => simp [intOf]
        · have T1 := Lib.hid (fun w => mul_not x y HX.out HY.out hft w)
          clear hft
          have c0 := hM.cell (i := 1) rfl (j := 2) (v := .func (.func 16) #[] #[]) rfl
          have xx0 := hM.cell (i := 3) rfl (j := 0) (v := .int .i64 x.num) rfl
          have xx1 := hM.cell (i := 3) rfl (j := 1) (v := .int .i64 (x.den : Nat)) rfl
          have xy0 := hM.cell (i := 2) rfl (j := 0) (v := .int .i64 y.num) rfl
          have xy1 := hM.cell (i := 2) rfl (j := 1) (v := .int .i64 (y.den : Nat)) rfl
          go_wp2_with fail
          refine (invF (fun w _ => T1.out w) rfl hM).mono ?_
          rintro e V1 ⟨rfl, v1⟩
          clear hM T1 c0 xx0 xx1 xy0 xy1
          have v2 := v1.push 26 #[.int .i64 0, .int .i64 0]
          clear v1
          go_upto_region 13 with fail
          generalize V1.alloc (.cells #[.int .i64 0, .int .i64 0] 26) = V2 at *
          generalize V1.heap.size = PX at *
          have xy0 := v2.cell (i := 3) rfl (j := 0) (v := .int .i64 y.num) rfl
          have xz0 := v2.cell (i := 0) rfl (j := 0) (v := .int .i64 0) rfl
          have xz1 := v2.cell (i := 0) rfl (j := 1) (v := .int .i64 0) rfl
          have V2H := Lib.hid v2.tail
          clear v2
          go_wp2
          go_roundw
          case rel => exact ⟨3, by omega, rfl, V2H.out⟩
          case measure => simp [intOf]
      · have u1 : (y.num == 0) = false := by simpa using hu
        have hy0 : y ≠ 0 := fun h => hu (Rat.num_eq_zero.2 h)
        clear hu
        by_cases hft : fits (x * y) = true
        · obtain ⟨z, hz⟩ : ∃ z, x * y = z := ⟨_, rfl⟩
          rw [hz] at hft
          have T1 := Lib.hid (fun w => mul_RR x y z HX.out HY.out hz hft w)
          have T2 := Lib.hid (fun w => div_RR z y x hft HY.out hy0 (by rw [← hz, Rat.div_def, Rat.mul_assoc, Rat.mul_inv_cancel _ hy0, Rat.mul_one]) HX.out w)
          have RZ := Lib.hid (fun w => right_RR z hft w)
          clear hft hz
          have c0 := hM.cell (i := 1) rfl (j := 2) (v := .func (.func 16) #[] #[]) rfl
          have xx0 := hM.cell (i := 3) rfl (j := 0) (v := .int .i64 x.num) rfl
          have xx1 := hM.cell (i := 3) rfl (j := 1) (v := .int .i64 (x.den : Nat)) rfl
          have xy0 := hM.cell (i := 2) rfl (j := 0) (v := .int .i64 y.num) rfl
          have xy1 := hM.cell (i := 2) rfl (j := 1) (v := .int .i64 (y.den : Nat)) rfl
          go_wp2_with fail
          refine (invV (fun w _ => T1.out w) hM).mono ?_
          rintro e V1 ⟨rfl, v1⟩
          clear hM T1 c0 xx0 xx1 xy0 xy1
          have v2 := v1.push 26 #[.int .i64 z.num, .int .i64 (z.den : Nat)]
          clear v1
          go_upto_region 13 with fail
          generalize V1.alloc (.cells #[.int .i64 z.num, .int .i64 (z.den : Nat)] 26) = V2 at *
          generalize V1.heap.size = PX at *
          have xy0 := v2.cell (i := 3) rfl (j := 0) (v := .int .i64 y.num) rfl
          have V2H := Lib.hid v2
          go_upto_region 18 with fail
          go_cut [20, 18] (fun s20 s18 wx => ∃ P : Nat, s20 = .pointer (some ⟨P, 0, none⟩) ∧ s18 = .int .i64 0 ∧ Blk wx P 26 #[.int .i64 x.num, .int .i64 (x.den : Nat)] ∧ V2.heap.size ≤ P ∧ Below V2.heap.size V2 wx)
          case first =>
            have SOF := Lib.hid (fun (wx : World) (hb : Below V2.heap.size V2 wx) => (⟨(V2H.out.keep hb).cell (i := 1) rfl (j := 2) rfl, (V2H.out.keep hb).cell (i := 0) rfl (j := 0) rfl, (V2H.out.keep hb).cell (i := 0) rfl (j := 1) rfl, (V2H.out.keep hb).cell (i := 3) rfl (j := 0) rfl, (V2H.out.keep hb).cell (i := 3) rfl (j := 1) rfl, hb⟩ : wx.cell? ⟨PB, 2, none⟩ = some (.func (.func 20) #[] #[]) ∧ wx.cell? ⟨PX, 0, none⟩ = some (.int .i64 z.num) ∧ wx.cell? ⟨PX, 1, none⟩ = some (.int .i64 (z.den : Nat)) ∧ wx.cell? ⟨PG, 0, none⟩ = some (.int .i64 y.num) ∧ wx.cell? ⟨PG, 1, none⟩ = some (.int .i64 (y.den : Nat)) ∧ Below V2.heap.size V2 wx))
            clear v2 xy0
            go_region_held3 (fun wx => wx.cell? ⟨PB, 2, none⟩ = some (.func (.func 20) #[] #[]) ∧ wx.cell? ⟨PX, 0, none⟩ = some (.int .i64 z.num) ∧ wx.cell? ⟨PX, 1, none⟩ = some (.int .i64 (z.den : Nat)) ∧ wx.cell? ⟨PG, 0, none⟩ = some (.int .i64 y.num) ∧ wx.cell? ⟨PG, 1, none⟩ = some (.int .i64 (y.den : Nat)) ∧ Below V2.heap.size V2 wx)
              (first | exact SOF.out _ (Below.refl _ _) | exact SOF.out _ (Below.drew (Below.refl _ _)) | exact SOF.out _ (below1 _ _) | exact SOF.out _ (Below.alloc (Below.drew (Below.refl _ _)) (Nat.le_refl _) _) | exact SOF.out _ (Below.drew (below1 _ _)) | exact SOF.out _ hB | exact SOF.out _ (hB.alloc hB.size _) | exact SOF.out _ (hB.setCell (Nat.le_refl _) _) | exact SOF.out _ ((hB.setCell (Nat.le_refl _) _).setCell (Nat.le_refl _) _))
              (first | (go_at_call 20; (with_reducible refine (T2.out _).mono ?_); rintro e w' ⟨rfl, hb⟩; (have hB := bchain (by assumption : _ ∧ _ ∧ _ ∧ _ ∧ _ ∧ Below V2.heap.size V2 _).2.2.2.2.2 hb); obtain ⟨hc, hf⟩ := bcell hb))
            all_goals
              clear hc hf
              go_wp2
              go_meet
              first
                | exact ⟨_, rfl, rfl, Blk.new _ _ _, hB.size, hB.alloc hB.size _⟩
                | exact ⟨_, rfl, rfl, (late_blk rfl hb _ _).1, Nat.le_refl _, (late_blk rfl hb _ _).2⟩
          case rest =>
          obtain ⟨P, rfl, rfl, hP, hPs, hB⟩ := hcut
          clear v2 xy0 T2
          have v3 := V2H.out.keep hB
          clear V2H
          have xz0 := v3.cell (i := 0) rfl (j := 0) (v := .int .i64 z.num) rfl
          have xz1 := v3.cell (i := 0) rfl (j := 1) (v := .int .i64 (z.den : Nat)) rfl
          go_wp2_with fail
          refine (RZ.out _).mono ?_
          rintro e V4 ⟨rfl, hb4⟩
          have v4 := v3.keep hb4
          have hP4 := hP.keep hb4 hP.lt
          clear v3 hP hb4 xz0 xz1 hB
          have xx0 := v4.cell (i := 4) rfl (j := 0) (v := .int .i64 x.num) rfl
          have xx1 := v4.cell (i := 4) rfl (j := 1) (v := .int .i64 (x.den : Nat)) rfl
          have xp0 := hP4.cell (j := 0) (v := .int .i64 x.num) rfl
          have xp1 := hP4.cell (j := 1) (v := .int .i64 (x.den : Nat)) rfl
          have V4H := Lib.hid v4.tail
          clear v4 hP4
          go_wp2
          go_roundw
          case rel => exact ⟨3, by omega, rfl, V4H.out⟩
          case measure => simp [intOf]
        · have T1 := Lib.hid (fun w => mul_not x y HX.out HY.out hft w)
          clear hft
          have c0 := hM.cell (i := 1) rfl (j := 2) (v := .func (.func 16) #[] #[]) rfl
          have xx0 := hM.cell (i := 3) rfl (j := 0) (v := .int .i64 x.num) rfl
          have xx1 := hM.cell (i := 3) rfl (j := 1) (v := .int .i64 (x.den : Nat)) rfl
          have xy0 := hM.cell (i := 2) rfl (j := 0) (v := .int .i64 y.num) rfl
          have xy1 := hM.cell (i := 2) rfl (j := 1) (v := .int .i64 (y.den : Nat)) rfl
          go_wp2_with fail
          refine (invF (fun w _ => T1.out w) rfl hM).mono ?_
          rintro e V1 ⟨rfl, v1⟩
          clear hM T1 c0 xx0 xx1 xy0 xy1
          have v2 := v1.push 26 #[.int .i64 0, .int .i64 0]
          clear v1
          go_upto_region 13 with fail
          generalize V1.alloc (.cells #[.int .i64 0, .int .i64 0] 26) = V2 at *
          generalize V1.heap.size = PX at *
          have xy0 := v2.cell (i := 3) rfl (j := 0) (v := .int .i64 y.num) rfl
          have xz0 := v2.cell (i := 0) rfl (j := 0) (v := .int .i64 0) rfl
          have xz1 := v2.cell (i := 0) rfl (j := 1) (v := .int .i64 0) rfl
          have V2H := Lib.hid v2.tail
          clear v2
          go_wp2
          go_roundw
          case rel => exact ⟨3, by omega, rfl, V2H.out⟩
          case measure => simp [intOf]
    · by_cases hu : y.num = 0
      · have u1 : (y.num == 0) = true := by simpa using hu
        have T1 : Hid (∀ w, Calls Tryd.prog 20 #[.agg #[.int .i64 x.num, .int .i64 (x.den : Nat)], .agg #[.int .i64 y.num, .int .i64 (y.den : Nat)]] w (RetF (0, 0, 2) w)) := Lib.hid (fun w => by
          have hy0 : y = 0 := Rat.num_eq_zero.1 hu
          rw [hy0]
          exact odiv_zero x.num x.den (fb_R HX.out) (right_R x) w)
        clear hu
        have c0 := hM.cell (i := 1) rfl (j := 3) (v := .func (.func 20) #[] #[]) rfl
        have xx0 := hM.cell (i := 3) rfl (j := 0) (v := .int .i64 x.num) rfl
        have xx1 := hM.cell (i := 3) rfl (j := 1) (v := .int .i64 (x.den : Nat)) rfl
        have xy0 := hM.cell (i := 2) rfl (j := 0) (v := .int .i64 y.num) rfl
        have xy1 := hM.cell (i := 2) rfl (j := 1) (v := .int .i64 (y.den : Nat)) rfl
        go_wp2_with fail
        refine (invF (fun w _ => T1.out w) rfl hM).mono ?_
        rintro e V1 ⟨rfl, v1⟩
        clear hM T1 c0 xx0 xx1 xy0 xy1
        have v2 := v1.push 26 #[.int .i64 0, .int .i64 0]
        clear v1
        go_upto_region 13 with fail
        generalize V1.alloc (.cells #[.int .i64 0, .int .i64 0] 26) = V2 at *
        generalize V1.heap.size = PX at *
        have xy0 := v2.cell (i := 3) rfl (j := 0) (v := .int .i64 y.num) rfl
        have xz0 := v2.cell (i := 0) rfl (j := 0) (v := .int .i64 0) rfl
        have xz1 := v2.cell (i := 0) rfl (j := 1) (v := .int .i64 0) rfl
        have V2H := Lib.hid v2.tail
        clear v2
        go_wp2
        go_roundw
        case rel => exact ⟨4, by omega, rfl, V2H.out⟩
        case measure => simp [intOf]
      · have u1 : (y.num == 0) = false := by simpa using hu
        have hy0 : y ≠ 0 := fun h => hu (Rat.num_eq_zero.2 h)
        clear hu
        by_cases hft : fits (x / y) = true
        · obtain ⟨z, hz⟩ : ∃ z, x / y = z := ⟨_, rfl⟩
          rw [hz] at hft
          have T1 := Lib.hid (fun w => div_RR x y z HX.out HY.out hy0 hz hft w)
          have T2 := Lib.hid (fun w => mul_RR z y x hft HY.out (by rw [← hz, Rat.div_def, Rat.mul_assoc, Rat.inv_mul_cancel _ hy0, Rat.mul_one]) HX.out w)
          have RZ := Lib.hid (fun w => right_RR z hft w)
          clear hft hz
          have c0 := hM.cell (i := 1) rfl (j := 3) (v := .func (.func 20) #[] #[]) rfl
          have xx0 := hM.cell (i := 3) rfl (j := 0) (v := .int .i64 x.num) rfl
          have xx1 := hM.cell (i := 3) rfl (j := 1) (v := .int .i64 (x.den : Nat)) rfl
          have xy0 := hM.cell (i := 2) rfl (j := 0) (v := .int .i64 y.num) rfl
          have xy1 := hM.cell (i := 2) rfl (j := 1) (v := .int .i64 (y.den : Nat)) rfl
          go_wp2_with fail
          refine (invV (fun w _ => T1.out w) hM).mono ?_
          rintro e V1 ⟨rfl, v1⟩
          clear hM T1 c0 xx0 xx1 xy0 xy1
          have v2 := v1.push 26 #[.int .i64 z.num, .int .i64 (z.den : Nat)]
          clear v1
          go_upto_region 13 with fail
          generalize V1.alloc (.cells #[.int .i64 z.num, .int .i64 (z.den : Nat)] 26) = V2 at *
          generalize V1.heap.size = PX at *
          have xy0 := v2.cell (i := 3) rfl (j := 0) (v := .int .i64 y.num) rfl
          have V2H := Lib.hid v2
          go_upto_region 18 with fail
          go_cut [20, 18] (fun s20 s18 wx => ∃ P : Nat, s20 = .pointer (some ⟨P, 0, none⟩) ∧ s18 = .int .i64 0 ∧ Blk wx P 26 #[.int .i64 x.num, .int .i64 (x.den : Nat)] ∧ V2.heap.size ≤ P ∧ Below V2.heap.size V2 wx)
          case first =>
            have SOF := Lib.hid (fun (wx : World) (hb : Below V2.heap.size V2 wx) => (⟨(V2H.out.keep hb).cell (i := 1) rfl (j := 3) rfl, (V2H.out.keep hb).cell (i := 0) rfl (j := 0) rfl, (V2H.out.keep hb).cell (i := 0) rfl (j := 1) rfl, (V2H.out.keep hb).cell (i := 3) rfl (j := 0) rfl, (V2H.out.keep hb).cell (i := 3) rfl (j := 1) rfl, hb⟩ : wx.cell? ⟨PB, 3, none⟩ = some (.func (.func 16) #[] #[]) ∧ wx.cell? ⟨PX, 0, none⟩ = some (.int .i64 z.num) ∧ wx.cell? ⟨PX, 1, none⟩ = some (.int .i64 (z.den : Nat)) ∧ wx.cell? ⟨PG, 0, none⟩ = some (.int .i64 y.num) ∧ wx.cell? ⟨PG, 1, none⟩ = some (.int .i64 (y.den : Nat)) ∧ Below V2.heap.size V2 wx))
            clear v2 xy0
            go_region_held3 (fun wx => wx.cell? ⟨PB, 3, none⟩ = some (.func (.func 16) #[] #[]) ∧ wx.cell? ⟨PX, 0, none⟩ = some (.int .i64 z.num) ∧ wx.cell? ⟨PX, 1, none⟩ = some (.int .i64 (z.den : Nat)) ∧ wx.cell? ⟨PG, 0, none⟩ = some (.int .i64 y.num) ∧ wx.cell? ⟨PG, 1, none⟩ = some (.int .i64 (y.den : Nat)) ∧ Below V2.heap.size V2 wx)
              (first | exact SOF.out _ (Below.refl _ _) | exact SOF.out _ (Below.drew (Below.refl _ _)) | exact SOF.out _ (below1 _ _) | exact SOF.out _ (Below.alloc (Below.drew (Below.refl _ _)) (Nat.le_refl _) _) | exact SOF.out _ (Below.drew (below1 _ _)) | exact SOF.out _ hB | exact SOF.out _ (hB.alloc hB.size _) | exact SOF.out _ (hB.setCell (Nat.le_refl _) _) | exact SOF.out _ ((hB.setCell (Nat.le_refl _) _).setCell (Nat.le_refl _) _))
              (first | (go_at_call 16; (with_reducible refine (T2.out _).mono ?_); rintro e w' ⟨rfl, hb⟩; (have hB := bchain (by assumption : _ ∧ _ ∧ _ ∧ _ ∧ _ ∧ Below V2.heap.size V2 _).2.2.2.2.2 hb); obtain ⟨hc, hf⟩ := bcell hb))
            all_goals
              clear hc hf
              go_wp2
              go_meet
              first
                | exact ⟨_, rfl, rfl, Blk.new _ _ _, hB.size, hB.alloc hB.size _⟩
                | exact ⟨_, rfl, rfl, (late_blk rfl hb _ _).1, Nat.le_refl _, (late_blk rfl hb _ _).2⟩
          case rest =>
          obtain ⟨P, rfl, rfl, hP, hPs, hB⟩ := hcut
          clear v2 xy0 T2
          have v3 := V2H.out.keep hB
          clear V2H
          have xz0 := v3.cell (i := 0) rfl (j := 0) (v := .int .i64 z.num) rfl
          have xz1 := v3.cell (i := 0) rfl (j := 1) (v := .int .i64 (z.den : Nat)) rfl
          go_wp2_with fail
          refine (RZ.out _).mono ?_
          rintro e V4 ⟨rfl, hb4⟩
          have v4 := v3.keep hb4
          have hP4 := hP.keep hb4 hP.lt
          clear v3 hP hb4 xz0 xz1 hB
          have xx0 := v4.cell (i := 4) rfl (j := 0) (v := .int .i64 x.num) rfl
          have xx1 := v4.cell (i := 4) rfl (j := 1) (v := .int .i64 (x.den : Nat)) rfl
          have xp0 := hP4.cell (j := 0) (v := .int .i64 x.num) rfl
          have xp1 := hP4.cell (j := 1) (v := .int .i64 (x.den : Nat)) rfl
          have V4H := Lib.hid v4.tail
          clear v4 hP4
          go_wp2
          go_roundw
          case rel => exact ⟨4, by omega, rfl, V4H.out⟩
          case measure => simp [intOf]
        · have T1 := Lib.hid (fun w => div_not x y HX.out HY.out hy0 hft w)
          clear hft
          have c0 := hM.cell (i := 1) rfl (j := 3) (v := .func (.func 20) #[] #[]) rfl
          have xx0 := hM.cell (i := 3) rfl (j := 0) (v := .int .i64 x.num) rfl
          have xx1 := hM.cell (i := 3) rfl (j := 1) (v := .int .i64 (x.den : Nat)) rfl
          have xy0 := hM.cell (i := 2) rfl (j := 0) (v := .int .i64 y.num) rfl
          have xy1 := hM.cell (i := 2) rfl (j := 1) (v := .int .i64 (y.den : Nat)) rfl
          go_wp2_with fail
          refine (invF (fun w _ => T1.out w) rfl hM).mono ?_
          rintro e V1 ⟨rfl, v1⟩
          clear hM T1 c0 xx0 xx1 xy0 xy1
          have v2 := v1.push 26 #[.int .i64 0, .int .i64 0]
          clear v1
          go_upto_region 13 with fail
          generalize V1.alloc (.cells #[.int .i64 0, .int .i64 0] 26) = V2 at *
          generalize V1.heap.size = PX at *
          have xy0 := v2.cell (i := 3) rfl (j := 0) (v := .int .i64 y.num) rfl
          have xz0 := v2.cell (i := 0) rfl (j := 0) (v := .int .i64 0) rfl
          have xz1 := v2.cell (i := 0) rfl (j := 1) (v := .int .i64 0) rfl
          have V2H := Lib.hid v2.tail
          clear v2
          go_wp2
          go_roundw
          case rel => exact ⟨4, by omega, rfl, V2H.out⟩
          case measure => simp [intOf]
end Go.Proofs.YtfhkgpipbegpgaaDoor
