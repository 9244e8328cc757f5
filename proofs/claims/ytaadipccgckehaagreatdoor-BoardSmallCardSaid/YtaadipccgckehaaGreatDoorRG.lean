/- The reference's reading of a record. -/
import Derived.Test.YtaadipccgckehaaGreatDoorRF
import Derived.BigRegion
set_option linter.unusedSimpArgs false
namespace Go.Proofs.YtaadipccgckehaaGreatDoor
open Go Go.RowKit Go.Shelf Pl

theorem rdD_64 {s : List UInt8} (h : rdB s = true) : D64 (rdD s) := by
  intro k hk
  have := ((part_iff _).1 (rdB_text h).2 k hk).1
  omega
theorem no_next {l : List UInt8} {i : Nat} (h : ∀ j, 1 ≤ j → j < i → hitN l j = false) (hi : hitN l i = false) : ∀ j, 1 ≤ j → j < i + 1 → hitN l j = false := by
  intro j h1 h2
  rcases Nat.lt_or_ge j i with h3 | h3
  · exact h j h1 h3
  · obtain rfl : j = i := by omega
    exact hi
set_option maxRecDepth 100000 in
set_option maxHeartbeats 4000000 in
theorem rread7_bad (s : ByteArray) (hs : s.size ≤ 10000) (hno : ∀ j, 1 ≤ j → j ≤ 128 → hitN s.data.toList j = false) (w : World) : Calls Tryz.prog 24 #[.string s] w (fun e w' => e = .returned (.tuple #[.int .i64 0, .agg #[.int .u64 0, .int .u64 0, .int .u64 0, .int .u64 0], .int .i64 71]) ∧ Below w.heap.size w w') := by
  obtain ⟨l, hl⟩ : ∃ l, s.data.toList = l := ⟨_, rfl⟩
  have HLEN : Hid (l.length = s.size) := Lib.hid (by rw [← hl]; rfl)
  have HLL := Lib.hid hl
  rw [hl] at hno
  have HALL := Lib.hid hno
  clear hl hno
  have BX := Lib.hid (one_new w 23 #[.int .u64 0, .int .u64 0, .int .u64 0, .int .u64 0])
  go_enter Tryz.func24, Tryz.ntmps24
  go_wp2_with fail
  have HB := Lib.hid BX.out.1
  have HW := Lib.hid BX.out.2
  clear BX
  generalize w.alloc (.cells #[.int .u64 0, .int .u64 0, .int .u64 0, .int .u64 0] 23) = W1 at *
  generalize hp0 : w.heap.size = p0 at *
  go_loopw [5] (fun s5 wr => ∃ i : Nat, 1 ≤ i ∧ i ≤ 129 ∧ s5 = .int .i64 (i : Int) ∧ Hid (∀ j, 1 ≤ j → j < i → hitN l j = false) ∧ Hid (Blk wr p0 23 #[.int .u64 0, .int .u64 0, .int .u64 0, .int .u64 0]) ∧ Hid (Below p0 w wr)) (fun s5 _ => 129 - (intOf s5).toNat)
  case atStart => exact ⟨1, by omega, by omega, rfl, Lib.hid (fun j h1 h2 => by omega), HB, HW⟩
  case round =>
    clear HB HW
    obtain ⟨i, hi1, hi2, rfl, HNO, HB, HW⟩ := hrel
    by_cases hi128 : i ≤ 128
    · have HMISS := Lib.hid (HALL.out i hi1 hi128)
      have u1 : decide ((i : Int) ≤ 128) = true := decide_eq_true (by omega)
      have HD := Lib.hid (fun W => rhead_any i hi1 hi128 W)
      have hl := head_len i
      have e9 := inc64 i (by omega)
      have HHD : Hid (hitN l i = (decide (l.take (headL i).length = headL i) && (rdB (l.drop (headL i).length) && rightB (rdD (l.drop (headL i).length))))) := Lib.hid rfl
      obtain ⟨h, hh⟩ : ∃ h, headL i = h := ⟨_, rfl⟩
      have HHE := Lib.hid hh
      rw [hh] at HD hl HHD
      obtain ⟨H, hH⟩ : ∃ H : ByteArray, (⟨h.toArray⟩ : ByteArray) = H := ⟨_, rfl⟩
      have hHs : H.size = h.length := by rw [← hH]; rfl
      have hHl : H.toList = h := by rw [ByteArray.toList_eq, ← hH]
      rw [hH] at HD
      clear hH hh
      go_wp2_with fail
      refine (HD.out _).mono ?_
      rintro e w1 ⟨rfl, hb⟩
      have HB1 := Lib.hid (HB.out.keep hb HB.out.lt)
      have HW1 := Lib.hid (HW.out.trans (hb.mono (by have := HW.out.size; omega)))
      clear hb HB HW HD
      by_cases c1 : s.size < H.size
      · have t1 : decide (s.size < H.size) = true := decide_eq_true c1
        have t1b : decide ((s.size : Int) < (H.size : Int)) = true := decide_eq_true (by omega)
        clear c1 hHs hHl
        go_wp2_with fail
        go_roundw
        case rel => exact ⟨i + 1, by omega, by omega, by simp, Lib.hid (no_next HNO.out HMISS.out), HB1, HW1⟩
        case measure => simp [intOf]; try omega
      have t1 : decide (s.size < H.size) = false := decide_eq_false c1
      have t1b : decide ((s.size : Int) < (H.size : Int)) = false := decide_eq_false (by omega)
      have hpre : (s.extract 0 H.size).toList = l.take h.length := by rw [ByteArray.toList_eq, ext_cut, HLL.out, hHs]; unfold cutS; simp
      have hdrop : (s.extract H.size s.size).data.toList = l.drop h.length := by rw [ext_cut, HLL.out, hHs]; unfold cutS; rw [List.take_of_length_le (by rw [List.length_drop, HLEN.out]; omega)]
      have hr1 : (H.size : Int) ≤ (s.size : Int) := by omega
      by_cases c2 : l.take h.length = h
      case neg =>
        have t2 : ((s.extract 0 H.size).toList == H.toList) = false := by rw [hpre, hHl]; exact beq_eq_false_iff_ne.2 c2
        clear c1 c2 hHs hHl hpre hdrop
        go_wp2_with fail
        go_roundw
        case rel => exact ⟨i + 1, by omega, by omega, by simp, Lib.hid (no_next HNO.out HMISS.out), HB1, HW1⟩
        case measure => simp [intOf]; try omega
      have t2 : ((s.extract 0 H.size).toList == H.toList) = true := by rw [hpre, hHl, c2]; exact beq_self_eq_true _
      have RD := Lib.hid (fun W => rread6_any (s.extract H.size s.size) (by rw [ByteArray.size_extract]; omega) W)
      rw [hdrop] at RD
      have HM2 := HMISS.out
      rw [HHD.out, decide_eq_true c2, Bool.true_and] at HM2
      rcases hrb : rdB (l.drop h.length) with _ | _
      · rw [rdV_no hrb] at RD
        clear hrb HM2 c1 c2 hHs hHl hpre hdrop
        go_wp2_with fail
        refine (RD.out _).mono ?_
        rintro e w2 ⟨rfl, hb⟩
        have HB2 := Lib.hid (HB1.out.keep hb HB1.out.lt)
        have HW2 := Lib.hid (HW1.out.trans (hb.mono (by have := HW1.out.size; omega)))
        clear hb RD HB1 HW1
        go_wp2_with fail
        go_roundw
        case rel => exact ⟨i + 1, by omega, by omega, by simp, Lib.hid (no_next HNO.out HMISS.out), Lib.hid (HB2.out.alloc _), Lib.hid (HW2.out.alloc (by have := HW2.out.size; omega) _)⟩
        case measure => simp [intOf]; try omega
      · rw [rdV_yes hrb] at RD
        rw [hrb, Bool.true_and] at HM2
        have HRR := Lib.hid (fun W => rright_any (rdD (l.drop h.length)) (rdD_64 hrb) W)
        rw [HM2] at HRR
        unfold dC at RD
        generalize rdD (l.drop h.length) 0 = a0 at *
        generalize rdD (l.drop h.length) 1 = a1 at *
        generalize rdD (l.drop h.length) 2 = a2 at *
        generalize rdD (l.drop h.length) 3 = a3 at *
        clear hrb HM2 c1 c2 hHs hHl hpre hdrop HHD
        go_wp2_with fail
        refine (RD.out _).mono ?_
        rintro e w2 ⟨rfl, hb⟩
        have HB2 := Lib.hid (HB1.out.keep hb HB1.out.lt)
        have HW2 := Lib.hid (HW1.out.trans (hb.mono (by have := HW1.out.size; omega)))
        clear hb RD HB1 HW1
        go_wp2_with fail
        have HB3 := Lib.hid (HB2.out.alloc (.cells #[.int .u64 (a0 : Nat), .int .u64 (a1 : Nat), .int .u64 (a2 : Nat), .int .u64 (a3 : Nat)] 23))
        have HW3 := Lib.hid (HW2.out.alloc (by have := HW2.out.size; omega) (.cells #[.int .u64 (a0 : Nat), .int .u64 (a1 : Nat), .int .u64 (a2 : Nat), .int .u64 (a3 : Nat)] 23))
        clear HB2 HW2
        refine (HRR.out _).mono ?_
        rintro e w3 ⟨rfl, hb⟩
        have HB4 := Lib.hid (HB3.out.keep hb HB3.out.lt)
        have HW4 := Lib.hid (HW3.out.trans (hb.mono (by have := HW3.out.size; omega)))
        clear hb HB3 HW3
        go_wp2_with fail
        go_roundw
        case rel => exact ⟨i + 1, by omega, by omega, by simp, Lib.hid (no_next HNO.out HMISS.out), HB4, HW4⟩
        case measure => simp [intOf]; try omega
    · obtain rfl : i = 129 := by omega
      have u1 : decide (((129 : Nat) : Int) ≤ 128) = false := rfl
      rw [show ((129 : Nat) : Int) = 129 from rfl]
      clear hi128 hi1 hi2
      have x0 := HB.out.cell (j := 0) rfl
      have x1 := HB.out.cell (j := 1) rfl
      have x2 := HB.out.cell (j := 2) rfl
      have x3 := HB.out.cell (j := 3) rfl
      have f0 := HB.out.free 0
      have f1 := HB.out.free 1
      have f2 := HB.out.free 2
      have f3 := HB.out.free 3
      have HF := Lib.hid (four_set HB.out (.int .u64 0) (.int .u64 0) (.int .u64 0) (.int .u64 0))
      have HX := Lib.hid (zzbelow HW.out (Nat.le_refl p0) (.int .u64 0) (.int .u64 0) (.int .u64 0) (.int .u64 0))
      clear HB HW
      go_wp2_with fail
      generalize (((wr.setCell ⟨p0, 0, none⟩ (.int .u64 0)).setCell ⟨p0, 1, none⟩ (.int .u64 0)).setCell ⟨p0, 2, none⟩ (.int .u64 0)).setCell ⟨p0, 3, none⟩ (.int .u64 0) = wf at *
      clear x0 x1 x2 x3 f0 f1 f2 f3
      have x0 := HF.out.cell (j := 0) rfl
      have x1 := HF.out.cell (j := 1) rfl
      have x2 := HF.out.cell (j := 2) rfl
      have x3 := HF.out.cell (j := 3) rfl
      (try simp only [Exit.inBlock, Exit.then])
      refine bodyPost_ret (by simp [results, Tryz.results24, go_sem, x0, x1, x2, x3]; try rfl) rfl ?_
      exact ⟨rfl, by rw [hp0]; exact HX.out⟩

set_option maxRecDepth 100000 in
set_option maxHeartbeats 4000000 in
theorem rread7_ok (s : ByteArray) (hs : s.size ≤ 10000) (n : Nat) (hn1 : 1 ≤ n) (hn2 : n ≤ 128) (hno : ∀ j, 1 ≤ j → j < n → hitN s.data.toList j = false) (hyes : hitN s.data.toList n = true) (D : Nat → Nat) (hD : ∀ k, k < 4 → rdD (s.data.toList.drop (headL n).length) k = D k) (w : World) : Calls Tryz.prog 24 #[.string s] w (fun e w' => e = .returned (.tuple #[.int .i64 (n : Int), .agg #[.int .u64 (D 0 : Nat), .int .u64 (D 1 : Nat), .int .u64 (D 2 : Nat), .int .u64 (D 3 : Nat)], .int .i64 0]) ∧ Below w.heap.size w w') := by
  obtain ⟨l, hl⟩ : ∃ l, s.data.toList = l := ⟨_, rfl⟩
  have HLEN : Hid (l.length = s.size) := Lib.hid (by rw [← hl]; rfl)
  have HLL := Lib.hid hl
  rw [hl] at hno hyes hD
  have HALL := Lib.hid hno
  have HYES := Lib.hid hyes
  have HDD := Lib.hid hD
  clear hl hno hyes hD
  have BX := Lib.hid (one_new w 23 #[.int .u64 0, .int .u64 0, .int .u64 0, .int .u64 0])
  go_enter Tryz.func24, Tryz.ntmps24
  go_wp2_with fail
  have HB := Lib.hid BX.out.1
  have HW := Lib.hid BX.out.2
  clear BX
  generalize w.alloc (.cells #[.int .u64 0, .int .u64 0, .int .u64 0, .int .u64 0] 23) = W1 at *
  generalize hp0 : w.heap.size = p0 at *
  go_loopw [5] (fun s5 wr => ∃ i : Nat, 1 ≤ i ∧ i ≤ n ∧ s5 = .int .i64 (i : Int) ∧ Hid (∀ j, 1 ≤ j → j < i → hitN l j = false) ∧ Hid (Blk wr p0 23 #[.int .u64 0, .int .u64 0, .int .u64 0, .int .u64 0]) ∧ Hid (Below p0 w wr)) (fun s5 _ => 129 - (intOf s5).toNat)
  case atStart => exact ⟨1, by omega, by omega, rfl, Lib.hid (fun j h1 h2 => by omega), HB, HW⟩
  case round =>
    clear HB HW
    obtain ⟨i, hi1, hi2, rfl, HNO, HB, HW⟩ := hrel
    have hi128 : i ≤ 128 := by omega
    by_cases hin : i < n
    · have HMISS := Lib.hid (HALL.out i hi1 hin)
      have u1 : decide ((i : Int) ≤ 128) = true := decide_eq_true (by omega)
      have HD := Lib.hid (fun W => rhead_any i hi1 hi128 W)
      have hl := head_len i
      have e9 := inc64 i (by omega)
      have HHD : Hid (hitN l i = (decide (l.take (headL i).length = headL i) && (rdB (l.drop (headL i).length) && rightB (rdD (l.drop (headL i).length))))) := Lib.hid rfl
      obtain ⟨h, hh⟩ : ∃ h, headL i = h := ⟨_, rfl⟩
      have HHE := Lib.hid hh
      rw [hh] at HD hl HHD
      obtain ⟨H, hH⟩ : ∃ H : ByteArray, (⟨h.toArray⟩ : ByteArray) = H := ⟨_, rfl⟩
      have hHs : H.size = h.length := by rw [← hH]; rfl
      have hHl : H.toList = h := by rw [ByteArray.toList_eq, ← hH]
      rw [hH] at HD
      clear hH hh
      go_wp2_with fail
      refine (HD.out _).mono ?_
      rintro e w1 ⟨rfl, hb⟩
      have HB1 := Lib.hid (HB.out.keep hb HB.out.lt)
      have HW1 := Lib.hid (HW.out.trans (hb.mono (by have := HW.out.size; omega)))
      clear hb HB HW HD
      by_cases c1 : s.size < H.size
      · have t1 : decide (s.size < H.size) = true := decide_eq_true c1
        have t1b : decide ((s.size : Int) < (H.size : Int)) = true := decide_eq_true (by omega)
        clear c1 hHs hHl
        go_wp2_with fail
        go_roundw
        case rel => exact ⟨i + 1, by omega, by omega, by simp, Lib.hid (no_next HNO.out HMISS.out), HB1, HW1⟩
        case measure => simp [intOf]; try omega
      have t1 : decide (s.size < H.size) = false := decide_eq_false c1
      have t1b : decide ((s.size : Int) < (H.size : Int)) = false := decide_eq_false (by omega)
      have hpre : (s.extract 0 H.size).toList = l.take h.length := by rw [ByteArray.toList_eq, ext_cut, HLL.out, hHs]; unfold cutS; simp
      have hdrop : (s.extract H.size s.size).data.toList = l.drop h.length := by rw [ext_cut, HLL.out, hHs]; unfold cutS; rw [List.take_of_length_le (by rw [List.length_drop, HLEN.out]; omega)]
      have hr1 : (H.size : Int) ≤ (s.size : Int) := by omega
      by_cases c2 : l.take h.length = h
      case neg =>
        have t2 : ((s.extract 0 H.size).toList == H.toList) = false := by rw [hpre, hHl]; exact beq_eq_false_iff_ne.2 c2
        clear c1 c2 hHs hHl hpre hdrop
        go_wp2_with fail
        go_roundw
        case rel => exact ⟨i + 1, by omega, by omega, by simp, Lib.hid (no_next HNO.out HMISS.out), HB1, HW1⟩
        case measure => simp [intOf]; try omega
      have t2 : ((s.extract 0 H.size).toList == H.toList) = true := by rw [hpre, hHl, c2]; exact beq_self_eq_true _
      have RD := Lib.hid (fun W => rread6_any (s.extract H.size s.size) (by rw [ByteArray.size_extract]; omega) W)
      rw [hdrop] at RD
      have HM2 := HMISS.out
      rw [HHD.out, decide_eq_true c2, Bool.true_and] at HM2
      rcases hrb : rdB (l.drop h.length) with _ | _
      · rw [rdV_no hrb] at RD
        clear hrb HM2 c1 c2 hHs hHl hpre hdrop
        go_wp2_with fail
        refine (RD.out _).mono ?_
        rintro e w2 ⟨rfl, hb⟩
        have HB2 := Lib.hid (HB1.out.keep hb HB1.out.lt)
        have HW2 := Lib.hid (HW1.out.trans (hb.mono (by have := HW1.out.size; omega)))
        clear hb RD HB1 HW1
        go_wp2_with fail
        go_roundw
        case rel => exact ⟨i + 1, by omega, by omega, by simp, Lib.hid (no_next HNO.out HMISS.out), Lib.hid (HB2.out.alloc _), Lib.hid (HW2.out.alloc (by have := HW2.out.size; omega) _)⟩
        case measure => simp [intOf]; try omega
      · rw [rdV_yes hrb] at RD
        rw [hrb, Bool.true_and] at HM2
        have HRR := Lib.hid (fun W => rright_any (rdD (l.drop h.length)) (rdD_64 hrb) W)
        rw [HM2] at HRR
        unfold dC at RD
        generalize rdD (l.drop h.length) 0 = a0 at *
        generalize rdD (l.drop h.length) 1 = a1 at *
        generalize rdD (l.drop h.length) 2 = a2 at *
        generalize rdD (l.drop h.length) 3 = a3 at *
        clear hrb HM2 c1 c2 hHs hHl hpre hdrop HHD
        go_wp2_with fail
        refine (RD.out _).mono ?_
        rintro e w2 ⟨rfl, hb⟩
        have HB2 := Lib.hid (HB1.out.keep hb HB1.out.lt)
        have HW2 := Lib.hid (HW1.out.trans (hb.mono (by have := HW1.out.size; omega)))
        clear hb RD HB1 HW1
        go_wp2_with fail
        have HB3 := Lib.hid (HB2.out.alloc (.cells #[.int .u64 (a0 : Nat), .int .u64 (a1 : Nat), .int .u64 (a2 : Nat), .int .u64 (a3 : Nat)] 23))
        have HW3 := Lib.hid (HW2.out.alloc (by have := HW2.out.size; omega) (.cells #[.int .u64 (a0 : Nat), .int .u64 (a1 : Nat), .int .u64 (a2 : Nat), .int .u64 (a3 : Nat)] 23))
        clear HB2 HW2
        refine (HRR.out _).mono ?_
        rintro e w3 ⟨rfl, hb⟩
        have HB4 := Lib.hid (HB3.out.keep hb HB3.out.lt)
        have HW4 := Lib.hid (HW3.out.trans (hb.mono (by have := HW3.out.size; omega)))
        clear hb HB3 HW3
        go_wp2_with fail
        go_roundw
        case rel => exact ⟨i + 1, by omega, by omega, by simp, Lib.hid (no_next HNO.out HMISS.out), HB4, HW4⟩
        case measure => simp [intOf]; try omega
    · obtain rfl : i = n := by omega
      have HHIT := Lib.hid (show (decide (l.take (headL i).length = headL i) && (rdB (l.drop (headL i).length) && rightB (rdD (l.drop (headL i).length)))) = true from HYES.out)
      have u1 : decide ((i : Int) ≤ 128) = true := decide_eq_true (by omega)
      have HD := Lib.hid (fun W => rhead_any i hi1 hi128 W)
      have hl := head_len i
      have e9 := inc64 i (by omega)
      have HHD : Hid (hitN l i = (decide (l.take (headL i).length = headL i) && (rdB (l.drop (headL i).length) && rightB (rdD (l.drop (headL i).length))))) := Lib.hid rfl
      obtain ⟨h, hh⟩ : ∃ h, headL i = h := ⟨_, rfl⟩
      have HHE := Lib.hid hh
      rw [hh] at HD hl HHD
      obtain ⟨H, hH⟩ : ∃ H : ByteArray, (⟨h.toArray⟩ : ByteArray) = H := ⟨_, rfl⟩
      have hHs : H.size = h.length := by rw [← hH]; rfl
      have hHl : H.toList = h := by rw [ByteArray.toList_eq, ← hH]
      rw [hH] at HD
      clear hH hh
      go_wp2_with fail
      refine (HD.out _).mono ?_
      rintro e w1 ⟨rfl, hb⟩
      have HB1 := Lib.hid (HB.out.keep hb HB.out.lt)
      have HW1 := Lib.hid (HW.out.trans (hb.mono (by have := HW.out.size; omega)))
      clear hb HB HW HD
      obtain ⟨c2, hrb, HM2⟩ : l.take h.length = h ∧ rdB (l.drop h.length) = true ∧ rightB (rdD (l.drop h.length)) = true := by
        have := HHIT.out
        rw [HHE.out] at this
        simpa only [Bool.and_eq_true, decide_eq_true_eq] using this
      have HD2 : Hid (∀ k, k < 4 → rdD (l.drop h.length) k = D k) := Lib.hid (by rw [← HHE.out]; exact HDD.out)
      have c1 : ¬ s.size < H.size := by
        have := congrArg List.length c2
        rw [List.length_take, HLEN.out] at this
        omega
      have t1 : decide (s.size < H.size) = false := decide_eq_false c1
      have t1b : decide ((s.size : Int) < (H.size : Int)) = false := decide_eq_false (by omega)
      have hpre : (s.extract 0 H.size).toList = l.take h.length := by rw [ByteArray.toList_eq, ext_cut, HLL.out, hHs]; unfold cutS; simp
      have hdrop : (s.extract H.size s.size).data.toList = l.drop h.length := by rw [ext_cut, HLL.out, hHs]; unfold cutS; rw [List.take_of_length_le (by rw [List.length_drop, HLEN.out]; omega)]
      have hr1 : (H.size : Int) ≤ (s.size : Int) := by omega
      have t2 : ((s.extract 0 H.size).toList == H.toList) = true := by rw [hpre, hHl, c2]; exact beq_self_eq_true _
      have RD := Lib.hid (fun W => rread6_any (s.extract H.size s.size) (by rw [ByteArray.size_extract]; omega) W)
      rw [hdrop, rdV_yes hrb] at RD
      have HRR := Lib.hid (fun W => rright_any (rdD (l.drop h.length)) (rdD_64 hrb) W)
      rw [HM2] at HRR
      unfold dC at RD
      rw [HD2.out 0 (by omega), HD2.out 1 (by omega), HD2.out 2 (by omega), HD2.out 3 (by omega)] at RD HRR
      clear hrb HM2 c1 c2 hHs hHl hpre hdrop HHD HD2 HHIT
      obtain ⟨a0, g0⟩ : ∃ a, D 0 = a := ⟨_, rfl⟩
      obtain ⟨a1, g1⟩ : ∃ a, D 1 = a := ⟨_, rfl⟩
      obtain ⟨a2, g2⟩ : ∃ a, D 2 = a := ⟨_, rfl⟩
      obtain ⟨a3, g3⟩ : ∃ a, D 3 = a := ⟨_, rfl⟩
      rw [g0, g1, g2, g3] at RD HRR
      have G : Hid (D 0 = a0 ∧ D 1 = a1 ∧ D 2 = a2 ∧ D 3 = a3) := Lib.hid ⟨g0, g1, g2, g3⟩
      clear g0 g1 g2 g3
      go_wp2_with fail
      refine (RD.out _).mono ?_
      rintro e w2 ⟨rfl, hb⟩
      have HB2 := Lib.hid (HB1.out.keep hb HB1.out.lt)
      have HW2 := Lib.hid (HW1.out.trans (hb.mono (by have := HW1.out.size; omega)))
      clear hb RD HB1 HW1
      go_wp2_with fail
      have HB3 := Lib.hid (HB2.out.alloc (.cells #[.int .u64 (a0 : Nat), .int .u64 (a1 : Nat), .int .u64 (a2 : Nat), .int .u64 (a3 : Nat)] 23))
      have HW3 := Lib.hid (HW2.out.alloc (by have := HW2.out.size; omega) (.cells #[.int .u64 (a0 : Nat), .int .u64 (a1 : Nat), .int .u64 (a2 : Nat), .int .u64 (a3 : Nat)] 23))
      have HK3 := Lib.hid (Blk.new w2 23 #[.int .u64 (a0 : Nat), .int .u64 (a1 : Nat), .int .u64 (a2 : Nat), .int .u64 (a3 : Nat)])
      clear HB2 HW2
      refine (HRR.out _).mono ?_
      rintro e w3 ⟨rfl, hb⟩
      have HB := Lib.hid (HB3.out.keep hb HB3.out.lt)
      have HW := Lib.hid (HW3.out.trans (hb.mono (by have := HW3.out.size; omega)))
      have HK := Lib.hid (HK3.out.keep hb HK3.out.lt)
      clear hb HB3 HW3 HK3
      generalize w2.heap.size = p2 at *
      go_upto_region 8 with fail
      have y0 := HK.out.cell (j := 0) (v := .int .u64 (a0 : Nat)) rfl
      have y1 := HK.out.cell (j := 1) (v := .int .u64 (a1 : Nat)) rfl
      have y2 := HK.out.cell (j := 2) (v := .int .u64 (a2 : Nat)) rfl
      have y3 := HK.out.cell (j := 3) (v := .int .u64 (a3 : Nat)) rfl
      have x0 := HB.out.cell (j := 0) (v := .int .u64 0) rfl
      have x1 := HB.out.cell (j := 1) (v := .int .u64 0) rfl
      have x2 := HB.out.cell (j := 2) (v := .int .u64 0) rfl
      have x3 := HB.out.cell (j := 3) (v := .int .u64 0) rfl
      have f0 := HB.out.free 0
      have f1 := HB.out.free 1
      have f2 := HB.out.free 2
      have f3 := HB.out.free 3
      have HF := Lib.hid (four_set HB.out (.int .u64 (a0 : Nat)) (.int .u64 (a1 : Nat)) (.int .u64 (a2 : Nat)) (.int .u64 (a3 : Nat)))
      have HX := Lib.hid (zzbelow HW.out (Nat.le_refl p0) (.int .u64 (a0 : Nat)) (.int .u64 (a1 : Nat)) (.int .u64 (a2 : Nat)) (.int .u64 (a3 : Nat))).drew
      go_region
      generalize (((w3.setCell ⟨p0, 0, none⟩ (.int .u64 (a0 : Nat))).setCell ⟨p0, 1, none⟩ (.int .u64 (a1 : Nat))).setCell ⟨p0, 2, none⟩ (.int .u64 (a2 : Nat))).setCell ⟨p0, 3, none⟩ (.int .u64 (a3 : Nat)) = wf at *
      clear x0 x1 x2 x3 f0 f1 f2 f3 y0 y1 y2 y3
      have x0 : wf.drew.cell? _ = _ := HF.out.cell (j := 0) rfl
      have x1 : wf.drew.cell? _ = _ := HF.out.cell (j := 1) rfl
      have x2 : wf.drew.cell? _ = _ := HF.out.cell (j := 2) rfl
      have x3 : wf.drew.cell? _ = _ := HF.out.cell (j := 3) rfl
      generalize wf.drew = wg at *
      go_wp2_with fail
      (try simp only [Exit.inBlock, Exit.then])
      refine bodyPost_ret (by simp [results, Tryz.results24, go_sem, x0, x1, x2, x3]; try rfl) rfl ?_
      exact ⟨by rw [G.out.1, G.out.2.1, G.out.2.2.1, G.out.2.2.2], by rw [hp0]; exact HX.out⟩

end Go.Proofs.YtaadipccgckehaaGreatDoor
