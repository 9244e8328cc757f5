/- A text as an entry: entry.Read. -/
import Derived.Test.YtpkmibmombpjpaaGreatDoorEG
set_option linter.unusedSimpArgs false
namespace Go.Proofs.YtpkmibmombpjpaaGreatDoor
open Go Go.RowKit

theorem splitN_cap (c : UInt8) (n : Nat) (h1 : 1 ≤ n) (hn : n ≤ 1000) (l : List UInt8) (hl : l.length ≤ 1000000) (w : World) (he : Env w) :
    Calls Tryz.prog 68 #[.string (bS l), .string ⟨#[c]⟩, .int .i64 (n : Int)] w (fun e w' => ∃ A cp, e = .returned (.slice A (splitAt1 c n l).length cp) ∧ (splitAt1 c n l).length ≤ cp ∧ RS w' (.slice A (splitAt1 c n l).length cp) (splitAt1 c n l) ∧ Below w.heap.size w w') := by
  obtain ⟨m, hm⟩ := he.maxl
  refine (Tryz.strings_SplitN (bS l) ⟨#[c]⟩ n m w (by rw [bS_size]; omega) hm (by show 1 ≤ 1; omega) h1 (by omega)).mono ?_
  rintro e w' ⟨rfl, rfl⟩
  have hcap := Lib.splitB_length_le ⟨#[c]⟩ 0 (min n ((bS l).size + 1) - 1) (bS l)
  obtain ⟨k, hk⟩ : ∃ k, min n ((bS l).size + 1) - 1 = k := ⟨_, rfl⟩
  have hS : splitAt1 c n l = (Lib.splitB ⟨#[c]⟩ 0 k (bS l)).map (·.data.toList) := by
    rw [Lib.splitB_data, bS_list]
    unfold splitAt1
    rw [← hk, bS_size]
  rw [hk] at hcap ⊢
  generalize Lib.splitB ⟨#[c]⟩ 0 k (bS l) = A at *
  have hlen : A.length = (splitAt1 c n l).length := by rw [hS, List.length_map]
  rw [hlen] at hcap ⊢
  refine ⟨_, _, rfl, by omega, ?_, below1 _ _⟩
  refine RS.some_ _ 0 _ _ (by simp) (fun i r hi => ?_)
  rw [Nat.zero_add]
  refine (Blk.new w _ _).cell ?_
  rw [hS, List.getElem?_map] at hi
  cases hx : A[i]? with
  | none => rw [hx] at hi; cases hi
  | some y =>
    rw [hx] at hi
    have hy : y.data.toList = r := by simpa using hi
    have e1 : strV r = .string y := str_val r y hy
    rw [e1]
    unfold Lib.cellsOf
    rw [List.getElem?_toArray, List.getElem?_append_left (by simpa using (List.getElem?_eq_some_iff.1 hx).1), List.getElem?_map, hx]
    rfl
def readV : Option En → Value
  | some e => .tuple #[.agg (enC e), .int .i64 0]
  | none => .tuple #[.agg (enC zE), .int .i64 315]
theorem readW_len {s : List UInt8} (h : (splitAt1 32 12 s).length < 5 ∨ 11 < (splitAt1 32 12 s).length) : readW s = none := by
  unfold readW
  rw [if_pos h]
theorem readW_go {s : List UInt8} (h1 : ¬ (splitAt1 32 12 s).length < 5) (h2 : ¬ 11 < (splitAt1 32 12 s).length) : readW s = (guessP (splitAt1 32 12 s)).bind fun e => if rightE e = true ∧ e.txt = s then some e else none := by
  unfold readW
  rw [if_neg (by omega)]
set_option maxRecDepth 100000 in
set_option maxHeartbeats 4000000 in
theorem read_any (s : List UInt8) (hl : s.length ≤ 1000000) (w : World) (he : Env w) : Calls Tryz.prog 34 #[.string (bS s)] w (fun r w' => r = .returned (readV (readW s)) ∧ Below w.heap.size w w') := by
  have HE := Lib.hid he
  obtain ⟨R, hR⟩ : ∃ R, readW s = R := ⟨_, rfl⟩
  rw [hR]
  obtain ⟨ws, hws⟩ : ∃ ws, splitAt1 32 12 s = ws := ⟨_, rfl⟩
  have HRL : Hid ((ws.length < 5 ∨ 11 < ws.length) → R = none) := Lib.hid (fun h => by rw [← hR]; exact readW_len (by rw [hws]; exact h))
  have HRG : Hid (¬ ws.length < 5 → ¬ 11 < ws.length → R = (guessP ws).bind fun e => if rightE e = true ∧ e.txt = s then some e else none) := Lib.hid (fun h1 h2 => by rw [← hR, readW_go (by rw [hws]; exact h1) (by rw [hws]; exact h2), hws])
  have SPN := Lib.hid (fun W hW => splitN_cap 32 12 (by omega) (by omega) s hl W hW)
  have HWL : Hid (∀ x ∈ ws, x.length ≤ 1000000) := Lib.hid (fun x hx => Nat.le_trans (splitAt_le 32 12 s x (by rw [hws]; exact hx)) hl)
  rw [hws] at SPN
  clear hws hR he hl
  go_enter Tryz.func34, Tryz.ntmps34
  go_upto_region 1 with fail
  rw [← zE_lit]
  have HZ := Lib.hid (Blk.new w 34 (enC zE))
  have HW := Lib.hid (below1 w (.cells (enC zE) 34))
  generalize w.alloc (.cells (enC zE) 34) = W1 at *
  generalize hp0 : w.heap.size = p0 at *
  go_wp2_with fail
  refine (SPN.out _ (HE.out.keep (by rw [hp0]; exact HW.out))).mono ?_
  rintro e w2 ⟨A, cp, rfl, hcp, hrs, hb⟩
  have HZ2 := Lib.hid (HZ.out.keep hb HZ.out.lt)
  have HW2 := Lib.hid (HW.out.trans (hb.mono (by have := HZ.out.lt; omega)))
  have HRS := Lib.hid (And.intro hcp hrs)
  clear hb hcp hrs HZ HW SPN
  obtain ⟨m, hm⟩ : ∃ m, ws.length = m := ⟨_, rfl⟩
  rw [hm] at HRS HRL HRG ⊢
  by_cases h5 : m < 5
  · have u1 : decide ((m : Int) < 5) = true := decide_eq_true (by omega)
    have HR3 : Hid (R = none) := Lib.hid (HRL.out (Or.inl h5))
    have st := storeAt_row (T := 34) (C := enC zE) HZ2.out (by rw [enC_size]; kernel_rfl) (by simp only [enC_size]) (enC_one _)
    have HF := Lib.hid (HZ2.out.row (enC zE))
    have HX := Lib.hid (Below.setRow' (Nat.le_refl _) HW2.out (enC zE))
    clear HZ2 HW2
    go_wp2_with (first | refine op_build 34 _ (enC zE) rfl rfl (by kernel_rfl) ?_ | refine op_store (p := .pointer (some ⟨p0, 0, none⟩)) (C := .agg (enC zE)) 34 (.tmp 2) (.tmp 19) rfl rfl rfl rfl rfl st ?_)
    clear st
    generalize w2.setRow p0 (enC zE) = WF at *
    have lf := loadVar_blk (T := 34) HF.out Tryz.underlying34 rfl (by rw [enC_size]; kernel_rfl)
    (try simp only [Exit.inBlock, Exit.then])
    refine bodyPost_ret (results_cell_tmp Tryz.results34 rfl rfl lf) rfl ?_
    exact ⟨by rw [HR3.out]; rfl, by rw [hp0]; exact HX.out⟩
  · have u1 : decide ((m : Int) < 5) = false := decide_eq_false (by omega)
    by_cases h11 : 11 < m
    · have u2 : decide ((11 : Int) < (m : Int)) = true := decide_eq_true (by omega)
      have HR3 : Hid (R = none) := Lib.hid (HRL.out (Or.inr h11))
      have st := storeAt_row (T := 34) (C := enC zE) HZ2.out (by rw [enC_size]; kernel_rfl) (by simp only [enC_size]) (enC_one _)
      have HF := Lib.hid (HZ2.out.row (enC zE))
      have HX := Lib.hid (Below.setRow' (Nat.le_refl _) HW2.out (enC zE))
      clear HZ2 HW2
      go_wp2_with (first | refine op_build 34 _ (enC zE) rfl rfl (by kernel_rfl) ?_ | refine op_store (p := .pointer (some ⟨p0, 0, none⟩)) (C := .agg (enC zE)) 34 (.tmp 2) (.tmp 19) rfl rfl rfl rfl rfl st ?_)
      clear st
      generalize w2.setRow p0 (enC zE) = WF at *
      have lf := loadVar_blk (T := 34) HF.out Tryz.underlying34 rfl (by rw [enC_size]; kernel_rfl)
      (try simp only [Exit.inBlock, Exit.then])
      refine bodyPost_ret (results_cell_tmp Tryz.results34 rfl rfl lf) rfl ?_
      exact ⟨by rw [HR3.out]; rfl, by rw [hp0]; exact HX.out⟩
    · have u2 : decide ((11 : Int) < (m : Int)) = false := decide_eq_false (by omega)
      have GA := Lib.hid (fun W hrs hW => guess_any ws HWL.out (by omega) (by omega) A cp (by rw [hm]; exact HRS.out.1) W hrs hW)
      rw [hm] at GA
      have HG := Lib.hid (HRG.out h5 h11)
      go_upto_region 4 with fail
      go_wp2_with fail
      refine (GA.out _ HRS.out.2 (HE.out.keep (by rw [hp0]; exact HW2.out))).mono ?_
      rintro e w3 ⟨x, ok, rfl, hg, hb⟩
      rw [hg] at HG
      have HZ3 := HZ2.out.keep hb HZ2.out.lt
      have HW3 := HW2.out.trans (hb.mono (by have := HZ2.out.lt; omega))
      obtain ⟨p5, hp5⟩ : ∃ p5, w3.heap.size = p5 := ⟨_, rfl⟩
      have hlz := HZ3.lt
      have hle := HW3.size
      have st := storeAt_row (T := 34) (C := enC x) (Blk.new w3 34 (enC zE)) (by rw [enC_size]; kernel_rfl) (by simp only [enC_size]) (enC_one _)
      have HZ4 := Lib.hid ((HZ3.alloc (.cells (enC zE) 34)).row_other (b' := p5) (by omega) (enC x))
      have HW4 := Lib.hid (Below.setRow' (b := p5) (by omega) (HW3.alloc (by omega) (.cells (enC zE) 34)) (enC x))
      have HP4 := Lib.hid (Blk.row (Blk.new w3 34 (enC zE)) (enC x))
      rw [hp5] at HP4 st
      have HIN : Hid (ok = true → x.In) := Lib.hid (fun h => by subst h; exact guess_in (ws := ws) hg)
      clear HZ3 HW3 HZ2 HW2 hb hlz hle GA HRS HRL HRG hg h5 h11 u1 u2 hm
      rw [zE_lit] at st HZ4 HW4 HP4
      go_upto_region 5 with (refine op_store (p := .pointer (some ⟨p5, 0, none⟩)) (C := .agg (enC x)) 34 (.tmp 5) (.tmp 23) rfl rfl rfl rfl rfl st ?_)
      clear st hp5
      generalize (w3.alloc (.cells #[.int .i64 0, .int .i64 0, .int .i64 0, .int .i64 0, .int .u8 0, .int .u8 0, .bool false, .int .u8 0, .int .u8 0, .int .u8 0, .int .u8 0, .int .i64 0, .int .i64 0, .int .u8 0, .int .u8 0, .int .u8 0, .int .u8 0, .int .i64 0, .int .i64 0, .int .u8 0, .int .u8 0, .int .u8 0, .int .u8 0, .int .i64 0, .int .i64 0, .int .u8 0, .int .u8 0, .int .u8 0, .int .u8 0, .int .i64 0, .int .i64 0, .int .i64 0, .int .i64 0] 34)).setRow p5 (enC x) = W4 at *
      clear w3
      rw [← zE_lit] at HZ4
      rcases ok with _ | _
      · have HR3 : Hid (R = none) := Lib.hid (by rw [HG.out]; rfl)
        have st := storeAt_row (T := 34) (C := enC zE) HZ4.out (by rw [enC_size]; kernel_rfl) (by simp only [enC_size]) (enC_one _)
        have HF := Lib.hid (HZ4.out.row (enC zE))
        have HX := Lib.hid (Below.setRow' (Nat.le_refl _) HW4.out (enC zE))
        clear HZ4 HW4
        go_wp2_with (first | refine op_build 34 _ (enC zE) rfl rfl (by kernel_rfl) ?_ | refine op_store (p := .pointer (some ⟨p0, 0, none⟩)) (C := .agg (enC zE)) 34 (.tmp 2) (.tmp 27) rfl rfl rfl rfl rfl st ?_)
        clear st
        generalize W4.setRow p0 (enC zE) = WF at *
        have lf := loadVar_blk (T := 34) HF.out Tryz.underlying34 rfl (by rw [enC_size]; kernel_rfl)
        (try simp only [Exit.inBlock, Exit.then])
        refine bodyPost_ret (results_cell_tmp Tryz.results34 rfl rfl lf) rfl ?_
        exact ⟨by rw [HR3.out]; rfl, by rw [hp0]; exact HX.out⟩
      · have hx := HIN.out rfl
        have HR2 : Hid (R = if rightE x = true ∧ x.txt = s then some x else none) := Lib.hid (by rw [HG.out]; rfl)
        have TA := Lib.hid (fun W hW => text_any x hx W hW)
        have la := loadAt_blk (T := 34) HP4.out Tryz.underlying34 rfl (by rw [enC_size]; kernel_rfl)
        clear hx HIN HG
        go_wp2_with (refine op_load (p := .pointer (some ⟨p5, 0, none⟩)) 34 (.tmp 5) rfl rfl rfl la ?_)
        refine (TA.out _ (HE.out.keep (by rw [hp0]; exact HW4.out))).mono ?_
        rintro e w5 ⟨rfl, hb⟩
        have HZ5 := Lib.hid (HZ4.out.keep hb HZ4.out.lt)
        have HP5 := Lib.hid (HP4.out.keep hb HP4.out.lt)
        have HW5 := Lib.hid (HW4.out.trans (hb.mono (by have := HZ4.out.lt; omega)))
        clear HZ4 HP4 HW4 la hb TA
        rcases hr : rightE x with _ | _
        · have HR3 : Hid (R = none) := Lib.hid (by rw [HR2.out, if_neg (by rw [hr]; simp)])
          rw [textV_f hr]
          clear hr HR2
          have st := storeAt_row (T := 34) (C := enC zE) HZ5.out (by rw [enC_size]; kernel_rfl) (by simp only [enC_size]) (enC_one _)
          have HF := Lib.hid (HZ5.out.row (enC zE))
          have HX := Lib.hid (Below.setRow' (Nat.le_refl _) HW5.out (enC zE))
          clear HZ5 HW5
          go_wp2_with (first | refine op_build 34 _ (enC zE) rfl rfl (by kernel_rfl) ?_ | refine op_store (p := .pointer (some ⟨p0, 0, none⟩)) (C := .agg (enC zE)) 34 (.tmp 2) (.tmp 40) rfl rfl rfl rfl rfl st ?_)
          clear st
          generalize w5.setRow p0 (enC zE) = WF at *
          have lf := loadVar_blk (T := 34) HF.out Tryz.underlying34 rfl (by rw [enC_size]; kernel_rfl)
          (try simp only [Exit.inBlock, Exit.then])
          refine bodyPost_ret (results_cell_tmp Tryz.results34 rfl rfl lf) rfl ?_
          exact ⟨by rw [HR3.out]; rfl, by rw [hp0]; exact HX.out⟩
        · rw [textV_t hr]
          by_cases ht : x.txt = s
          · have HR3 : Hid (R = some x) := Lib.hid (by rw [HR2.out, if_pos ⟨hr, ht⟩])
            clear hr HR2
            rw [ht]
            clear ht
            have la := loadAt_blk (T := 34) HP5.out Tryz.underlying34 rfl (by rw [enC_size]; kernel_rfl)
            have st := storeAt_row (T := 34) (C := enC x) HZ5.out (by rw [enC_size]; kernel_rfl) (by simp only [enC_size]) (enC_one _)
            have HF := Lib.hid (HZ5.out.row (enC x))
            have HX := Lib.hid (Below.setRow' (Nat.le_refl _) HW5.out (enC x))
            clear HZ5 HW5
            go_wp2_with (first | refine op_load (p := .pointer (some ⟨p5, 0, none⟩)) 34 (.tmp 5) rfl rfl rfl la ?_ | refine op_store (p := .pointer (some ⟨p0, 0, none⟩)) (C := .agg (enC x)) 34 (.tmp 2) (.tmp 41) rfl rfl rfl rfl rfl st ?_)
            clear st la
            generalize w5.setRow p0 (enC x) = WF at *
            have lf := loadVar_blk (T := 34) HF.out Tryz.underlying34 rfl (by rw [enC_size]; kernel_rfl)
            (try simp only [Exit.inBlock, Exit.then])
            refine bodyPost_ret (results_cell_tmp Tryz.results34 rfl rfl lf) rfl ?_
            exact ⟨by rw [HR3.out]; rfl, by rw [hp0]; exact HX.out⟩
          · have HR3 : Hid (R = none) := Lib.hid (by rw [HR2.out, if_neg (fun h => ht h.2)])
            have e0 : ((bS x.txt).toList == (bS s).toList) = false := str_ne ht
            clear hr HR2 ht
            have st := storeAt_row (T := 34) (C := enC zE) HZ5.out (by rw [enC_size]; kernel_rfl) (by simp only [enC_size]) (enC_one _)
            have HF := Lib.hid (HZ5.out.row (enC zE))
            have HX := Lib.hid (Below.setRow' (Nat.le_refl _) HW5.out (enC zE))
            clear HZ5 HW5
            go_wp2_with (first | refine op_build 34 _ (enC zE) rfl rfl (by kernel_rfl) ?_ | refine op_store (p := .pointer (some ⟨p0, 0, none⟩)) (C := .agg (enC zE)) 34 (.tmp 2) (.tmp 40) rfl rfl rfl rfl rfl st ?_)
            clear st
            generalize w5.setRow p0 (enC zE) = WF at *
            have lf := loadVar_blk (T := 34) HF.out Tryz.underlying34 rfl (by rw [enC_size]; kernel_rfl)
            (try simp only [Exit.inBlock, Exit.then])
            refine bodyPost_ret (results_cell_tmp Tryz.results34 rfl rfl lf) rfl ?_
            exact ⟨by rw [HR3.out]; rfl, by rw [hp0]; exact HX.out⟩
end Go.Proofs.YtpkmibmombpjpaaGreatDoor
