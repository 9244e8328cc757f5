/- FracBack returns true. -/
import Derived.Test.YtfhkgpipbegpgaaDoorBackP
import Derived.Test.YtfhkgpipbegpgaaDoorRR
import Derived.Test.YtfhkgpipbegpgaaDoorAwake
import Derived.Deep.DeepCutAuto
namespace Go.Proofs.YtfhkgpipbegpgaaDoor
open Go Go.RowKit

theorem make_ok' {a b : Int} {q1 q2 : Int} (h : makeP a b = (q1, q2, 0)) : ∃ x : Rat, fits x = true ∧ q1 = x.num ∧ q2 = (x.den : Nat) := by
  by_cases hb : b = 0
  · subst hb
    rw [show makeP a 0 = (0, 0, 2) from rfl] at h
    cases h
  · rw [make_out a b hb] at h
    unfold outF at h
    by_cases hf : fits (Rat.divInt a b) = true
    · rw [if_pos hf] at h
      injection h with h1 h2
      injection h2 with h2 _
      exact ⟨_, hf, h1.symm, h2.symm⟩
    · rw [if_neg hf] at h
      cases h
theorem text_len (x : Rat) (hx : fits x = true) : (textF x.num x.den).length ≤ 41 := by
  have hf := fb_R hx
  have h1 := itoa20 x.num hf.n0 hf.n1
  have h2 := itoa19 x.den (by omega) hf.d1
  unfold textF
  split
  · simp only [List.append_nil]; omega
  · simp only [List.length_append, List.length_cons]; omega
theorem read_at {L : List UInt8} {s : ByteArray} (hs : s = ⟨L.toArray⟩) (hL : L.length ≤ 60) {q : Int × Int × Int} (hq : readF L = q) :
    Hid (∀ w, Env w → Calls Tryd.prog 19 #[.string s] w (RetF q w)) :=
  Lib.hid fun w hw => by
    subst hs hq
    exact read_any L (by omega) w hw
theorem ne_rat {x y : Rat} (h : x ≠ y) : x.num ≠ y.num ∨ x.den ≠ y.den := by
  by_cases h1 : x.num = y.num
  · right
    intro h2
    exact h (Rat.ext h1 h2)
  · exact Or.inl h1
set_option maxRecDepth 100000 in
set_option maxHeartbeats 16000000 in
theorem back_walk (a b c d : Int) (ha : -9223372036854775808 ≤ a ∧ a ≤ 9223372036854775807) (hb : -9223372036854775808 ≤ b ∧ b ≤ 9223372036854775807) (hc : -9223372036854775808 ≤ c ∧ c ≤ 9223372036854775807) (hd : -9223372036854775808 ≤ d ∧ d ≤ 9223372036854775807) (w : World) (he : Env w) :
    Calls Tryd.prog 5 #[.int .i64 a, .int .i64 b, .int .i64 c, .int .i64 d] w (RetBool true w) := by
  obtain ⟨⟨fa, fb, fc⟩, hf⟩ : ∃ q, makeP a b = q := ⟨_, rfl⟩
  obtain ⟨⟨ga, gb, gc⟩, hg⟩ : ∃ q, makeP c d = q := ⟨_, rfl⟩
  have M1 := Lib.hid (fun w => make_any a b ⟨ha.1, ha.2, hb.1, hb.2⟩ w)
  have M2 := Lib.hid (fun w => make_any c d ⟨hc.1, hc.2, hd.1, hd.2⟩ w)
  have HF := Lib.hid hf
  have HG := Lib.hid hg
  clear hf hg ha hb hc hd
  have h0 := InvL.start he
  clear he
  go_enter Tryd.func5, Tryd.ntmps5
  go_wp2_with fail
  refine (invV (fun w hw => (awake_any w hw)) h0).mono ?_
  rintro e w1 ⟨rfl, h1⟩
  clear h0
  go_wp2_with fail
  refine (invF (fun w _ => M1.out w) HF.out h1).mono ?_
  rintro e w2 ⟨rfl, h2⟩
  clear h1 M1
  have h3 := h2.push 26 #[.int .i64 fa, .int .i64 fb]
  clear h2
  go_upto_region 4 with fail
  generalize w2.alloc (.cells #[.int .i64 fa, .int .i64 fb] 26) = W3 at *
  generalize w2.heap.size = PF at *
  go_wp2_with fail
  refine (invF (fun w _ => M2.out w) HG.out h3).mono ?_
  rintro e w4 ⟨rfl, h4⟩
  clear h3 M2
  have h5 := h4.push 26 #[.int .i64 ga, .int .i64 gb]
  clear h4
  go_upto_region 5 with fail
  generalize w4.alloc (.cells #[.int .i64 ga, .int .i64 gb] 26) = W5 at *
  generalize w4.heap.size = PG at *
  have hB5 := h5.below
  by_cases h1 : fc = 0
  case neg =>
    have t1 : (fc == 0) = false := by simpa using h1
    clear h1 HF HG h5
    go_wp2
    go_ret
    exact ⟨rfl, hB5⟩
  by_cases h2 : gc = 0
  case neg =>
    subst h1
    have t1 : (gc == 0) = false := by simpa using h2
    clear h2 HF HG h5
    go_wp2
    go_ret
    exact ⟨rfl, hB5⟩
  clear hB5
  subst h1 h2
  obtain ⟨x, hx, rfl, rfl⟩ := make_ok' HF.out
  obtain ⟨y, hy, rfl, rfl⟩ := make_ok' HG.out
  clear HF HG
  obtain ⟨S, hS⟩ : ∃ S : Array UInt8, textF x.num x.den = S.toList := ⟨(textF x.num x.den).toArray, by simp⟩
  obtain ⟨T, hT⟩ : ∃ S : Array UInt8, textF y.num y.den = S.toList := ⟨(textF y.num y.den).toArray, by simp⟩
  have SH := Lib.hid hS
  have TH := Lib.hid hT
  have HXY : Hid (x ≠ y → ((⟨S⟩ : ByteArray).toList == (⟨T⟩ : ByteArray).toList) = false) := Lib.hid fun h => by
    rw [beq_eq_false_iff_ne, ByteArray.toList_eq, ByteArray.toList_eq]
    show S.toList ≠ T.toList
    rw [← hS, ← hT]
    intro e
    obtain ⟨e1, e2⟩ := text_inj _ _ _ _ (fb_R hx) (fb_R hy) (right_R x) (right_R y) e
    exact h (Rat.ext e1 (by omega))
  have hlen : S.size ≤ 41 := by
    have := text_len x hx
    rw [hS] at this
    simpa using this
  have T1 := Lib.hid (fun w hw => otext_ok x.num x.den (fb_R hx) (right_R x) w hw)
  have T2 := Lib.hid (fun w hw => otext_ok y.num y.den (fb_R hy) (right_R y) w hw)
  have R1 : Hid (∀ w, Env w → Calls Tryd.prog 19 #[.string ⟨S⟩] w (RetF (x.num, (x.den : Nat), 0) w)) :=
    read_at (L := textF x.num x.den) (by rw [hS]) (by have := text_len x hx; omega) (read_text _ _ (fb_R hx) (right_R x))
  have N0 : Hid (∀ w, Env w → Calls Tryd.prog 19 #[.string (⟨#[48]⟩ ++ ⟨S⟩)] w (RetF (0, 0, 10) w)) :=
    read_at (L := (48 :: textF x.num x.den)) (by rw [hS]; apply ByteArray.ext; apply Array.ext'; simp) (by have := text_len x hx; simp; omega) (none_0 _ _)
  have N1 : Hid (∀ w, Env w → Calls Tryd.prog 19 #[.string (⟨#[32]⟩ ++ ⟨S⟩)] w (RetF (0, 0, 10) w)) :=
    read_at (L := (32 :: textF x.num x.den)) (by rw [hS]; apply ByteArray.ext; apply Array.ext'; simp) (by have := text_len x hx; simp; omega) (none_head 32 _ _ (by decide) (by decide))
  have N2 : Hid (∀ w, Env w → Calls Tryd.prog 19 #[.string (⟨#[43]⟩ ++ ⟨S⟩)] w (RetF (0, 0, 10) w)) :=
    read_at (L := (43 :: textF x.num x.den)) (by rw [hS]; apply ByteArray.ext; apply Array.ext'; simp) (by have := text_len x hx; simp; omega) (none_head 43 _ _ (by decide) (by decide))
  have N3 : Hid (∀ w, Env w → Calls Tryd.prog 19 #[.string (⟨S⟩ ++ ⟨#[47, 49]⟩)] w (RetF (0, 0, 10) w)) :=
    read_at (L := (textF x.num x.den ++ [47, 49])) (by rw [hS]; apply ByteArray.ext; apply Array.ext'; simp) (by have := text_len x hx; simp; omega) (none_1 _ _)
  have N4 : Hid (∀ w, Env w → Calls Tryd.prog 19 #[.string (⟨S⟩ ++ ⟨#[32]⟩)] w (RetF (0, 0, 10) w)) :=
    read_at (L := (textF x.num x.den ++ [32])) (by rw [hS]; apply ByteArray.ext; apply Array.ext'; simp) (by have := text_len x hx; simp; omega) (none_last 32 _ _ (by decide))
  have N5 : Hid (∀ w, Env w → Calls Tryd.prog 19 #[.string (⟨S⟩ ++ ⟨#[47]⟩)] w (RetF (0, 0, 10) w)) :=
    read_at (L := (textF x.num x.den ++ [47])) (by rw [hS]; apply ByteArray.ext; apply Array.ext'; simp) (by have := text_len x hx; simp; omega) (none_last 47 _ _ (by decide))
  have zL : (S.size : Int) ≤ 41 := by omega
  have z1 : ¬ 9223372036854775807 < 1 + S.size := by omega
  have z2 : ¬ 9223372036854775807 < S.size + 1 := by omega
  have z3 : ¬ 9223372036854775807 < S.size + 2 := by omega
  have HX := Lib.hid hx
  have HY := Lib.hid hy
  have H5 := Lib.hid h5
  clear hx hy hS hT h5 hlen
  have x0 := H5.out.cell (i := 1) rfl (j := 0) (v := .int .i64 x.num) rfl
  have x1 := H5.out.cell (i := 1) rfl (j := 1) (v := .int .i64 (x.den : Nat)) rfl
  go_wp2_with fail
  refine (invS T1.out SH.out H5.out).mono ?_
  rintro e w6 ⟨rfl, h6⟩
  clear T1 x0 x1 H5
  have H6 := Lib.hid h6
  clear h6
  have y0 := H6.out.cell (i := 0) rfl (j := 0) (v := .int .i64 y.num) rfl
  have y1 := H6.out.cell (i := 0) rfl (j := 1) (v := .int .i64 (y.den : Nat)) rfl
  go_wp2_with fail
  refine (invS T2.out TH.out H6.out).mono ?_
  rintro e w7 ⟨rfl, h7⟩
  clear T2 y0 y1 H6
  have H7 := Lib.hid h7
  clear h7
  go_wp2_with fail
  refine (invF R1.out rfl H7.out).mono ?_
  rintro e w8 ⟨rfl, h8⟩
  clear R1 H7
  have h9 := h8.push 26 #[.int .i64 x.num, .int .i64 (x.den : Nat)]
  clear h8
  go_upto_region 10 with fail
  generalize w8.alloc (.cells #[.int .i64 x.num, .int .i64 (x.den : Nat)] 26) = W9 at *
  generalize w8.heap.size = PB at *
  have H9 := Lib.hid h9
  clear h9
  go_cut [75] (fun s75 wx => s75 = .bool false ∧ ∃ V, V = wx ∧ InvL w V [])
  case first =>
    have x0 := H9.out.cell (i := 2) rfl (j := 0) (v := .int .i64 x.num) rfl
    have x1 := H9.out.cell (i := 2) rfl (j := 1) (v := .int .i64 (x.den : Nat)) rfl
    have y0 := H9.out.cell (i := 1) rfl (j := 0) (v := .int .i64 y.num) rfl
    have y1 := H9.out.cell (i := 1) rfl (j := 1) (v := .int .i64 (y.den : Nat)) rfl
    have b0 := H9.out.cell (i := 0) rfl (j := 0) (v := .int .i64 x.num) rfl
    have b1 := H9.out.cell (i := 0) rfl (j := 1) (v := .int .i64 (x.den : Nat)) rfl
    by_cases hxy : x = y
    · subst hxy
      obtain rfl : S = T := by have := SH.out.symm.trans TH.out; exact Array.toList_inj.1 this
      go_wp2_with fail
      go_meet
      exact ⟨rfl, _, rfl, H9.out.drop (fun _ h => by cases h)⟩
    · have hne := HXY.out hxy
      have HN := Lib.hid (ne_rat hxy)
      clear hxy
      by_cases hn : x.num = y.num
      · have HD : x.den ≠ y.den := fun h => HN.out.elim (fun g => g hn) (fun g => g h)
        have u1 : (x.num == y.num) = true := beq_iff_eq.2 hn
        have u2 : ((x.den : Int) == (y.den : Int)) = false := beq_eq_false_iff_ne.2 (by omega)
        clear hn HD
        go_wp2_with fail
        all_goals (go_meet; exact ⟨rfl, _, rfl, H9.out.drop (fun _ h => by cases h)⟩)
      · have u1 : (x.num == y.num) = false := beq_eq_false_iff_ne.2 hn
        clear hn
        go_wp2_with fail
        all_goals (go_meet; exact ⟨rfl, _, rfl, H9.out.drop (fun _ h => by cases h)⟩)
  case rest =>
  obtain ⟨rfl, Wc, rfl, h10⟩ := hcut
  clear H9 HXY SH TH
  have h11 := h10.push 9 #[.string (⟨#[48]⟩ ++ ⟨S⟩), .string (⟨#[32]⟩ ++ ⟨S⟩), .string (⟨#[43]⟩ ++ ⟨S⟩), .string (⟨S⟩ ++ ⟨#[47, 49]⟩), .string (⟨S⟩ ++ ⟨#[32]⟩), .string (⟨S⟩ ++ ⟨#[47]⟩)]
  clear h10
  go_upto_region 13 with fail
  generalize Wc.alloc (.cells #[.string (⟨#[48]⟩ ++ ⟨S⟩), .string (⟨#[32]⟩ ++ ⟨S⟩), .string (⟨#[43]⟩ ++ ⟨S⟩), .string (⟨S⟩ ++ ⟨#[47, 49]⟩), .string (⟨S⟩ ++ ⟨#[32]⟩), .string (⟨S⟩ ++ ⟨#[47]⟩)] 9) = W11 at *
  generalize Wc.heap.size = PS at *
  have H11 := Lib.hid h11
  clear h11
  go_loopw [90] (fun s90 wr => ∃ k : Nat, k ≤ 6 ∧ s90 = .int .i64 k ∧ InvL w wr [(PS, 9, #[.string (⟨#[48]⟩ ++ ⟨S⟩), .string (⟨#[32]⟩ ++ ⟨S⟩), .string (⟨#[43]⟩ ++ ⟨S⟩), .string (⟨S⟩ ++ ⟨#[47, 49]⟩), .string (⟨S⟩ ++ ⟨#[32]⟩), .string (⟨S⟩ ++ ⟨#[47]⟩)])]) (fun s90 _ => 6 - (intOf s90).toNat)
  case atStart => exact ⟨0, by omega, rfl, H11.out⟩
  case round =>
    obtain ⟨k, hk, rfl, hM⟩ := hrel
    clear H11
    rcases (by omega : k = 6 ∨ k = 0 ∨ k = 1 ∨ k = 2 ∨ k = 3 ∨ k = 4 ∨ k = 5) with rfl | rfl | rfl | rfl | rfl | rfl | rfl
    · have hB9 := hM.below
      clear hM
      go_wp2
      go_ret
      exact ⟨rfl, hB9⟩
    · have c0 := hM.cell (i := 0) rfl (j := 0) (v := .string (⟨#[48]⟩ ++ ⟨S⟩)) rfl
      go_wp2_with fail
      refine (invF N0.out rfl hM).mono ?_
      rintro e V1 ⟨rfl, v1⟩
      clear hM c0
      have v2 := v1.push 26 #[.int .i64 0, .int .i64 0]
      clear v1
      go_upto_region 16 with fail
      generalize V1.alloc (.cells #[.int .i64 0, .int .i64 0] 26) = V2 at *
      have V2H := Lib.hid v2.tail
      clear v2
      go_wp2
      go_roundw
      case rel => exact ⟨1, by omega, rfl, V2H.out⟩
      case measure => simp [intOf]
    · have c0 := hM.cell (i := 0) rfl (j := 1) (v := .string (⟨#[32]⟩ ++ ⟨S⟩)) rfl
      go_wp2_with fail
      refine (invF N1.out rfl hM).mono ?_
      rintro e V1 ⟨rfl, v1⟩
      clear hM c0
      have v2 := v1.push 26 #[.int .i64 0, .int .i64 0]
      clear v1
      go_upto_region 16 with fail
      generalize V1.alloc (.cells #[.int .i64 0, .int .i64 0] 26) = V2 at *
      have V2H := Lib.hid v2.tail
      clear v2
      go_wp2
      go_roundw
      case rel => exact ⟨2, by omega, rfl, V2H.out⟩
      case measure => simp [intOf]
    · have c0 := hM.cell (i := 0) rfl (j := 2) (v := .string (⟨#[43]⟩ ++ ⟨S⟩)) rfl
      go_wp2_with fail
      refine (invF N2.out rfl hM).mono ?_
      rintro e V1 ⟨rfl, v1⟩
      clear hM c0
      have v2 := v1.push 26 #[.int .i64 0, .int .i64 0]
      clear v1
      go_upto_region 16 with fail
      generalize V1.alloc (.cells #[.int .i64 0, .int .i64 0] 26) = V2 at *
      have V2H := Lib.hid v2.tail
      clear v2
      go_wp2
      go_roundw
      case rel => exact ⟨3, by omega, rfl, V2H.out⟩
      case measure => simp [intOf]
    · have c0 := hM.cell (i := 0) rfl (j := 3) (v := .string (⟨S⟩ ++ ⟨#[47, 49]⟩)) rfl
      go_wp2_with fail
      refine (invF N3.out rfl hM).mono ?_
      rintro e V1 ⟨rfl, v1⟩
      clear hM c0
      have v2 := v1.push 26 #[.int .i64 0, .int .i64 0]
      clear v1
      go_upto_region 16 with fail
      generalize V1.alloc (.cells #[.int .i64 0, .int .i64 0] 26) = V2 at *
      have V2H := Lib.hid v2.tail
      clear v2
      go_wp2
      go_roundw
      case rel => exact ⟨4, by omega, rfl, V2H.out⟩
      case measure => simp [intOf]
    · have c0 := hM.cell (i := 0) rfl (j := 4) (v := .string (⟨S⟩ ++ ⟨#[32]⟩)) rfl
      go_wp2_with fail
      refine (invF N4.out rfl hM).mono ?_
      rintro e V1 ⟨rfl, v1⟩
      clear hM c0
      have v2 := v1.push 26 #[.int .i64 0, .int .i64 0]
      clear v1
      go_upto_region 16 with fail
      generalize V1.alloc (.cells #[.int .i64 0, .int .i64 0] 26) = V2 at *
      have V2H := Lib.hid v2.tail
      clear v2
      go_wp2
      go_roundw
      case rel => exact ⟨5, by omega, rfl, V2H.out⟩
      case measure => simp [intOf]
    · have c0 := hM.cell (i := 0) rfl (j := 5) (v := .string (⟨S⟩ ++ ⟨#[47]⟩)) rfl
      go_wp2_with fail
      refine (invF N5.out rfl hM).mono ?_
      rintro e V1 ⟨rfl, v1⟩
      clear hM c0
      have v2 := v1.push 26 #[.int .i64 0, .int .i64 0]
      clear v1
      go_upto_region 16 with fail
      generalize V1.alloc (.cells #[.int .i64 0, .int .i64 0] 26) = V2 at *
      have V2H := Lib.hid v2.tail
      clear v2
      go_wp2
      go_roundw
      case rel => exact ⟨6, by omega, rfl, V2H.out⟩
      case measure => simp [intOf]
end Go.Proofs.YtfhkgpipbegpgaaDoor
