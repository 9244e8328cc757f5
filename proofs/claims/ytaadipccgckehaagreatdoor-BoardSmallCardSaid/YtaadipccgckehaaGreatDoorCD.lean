/- Records: board.check, board.Text. -/
import Derived.Test.YtaadipccgckehaaGreatDoorCC
import Derived.Test.YtaadipccgckehaaGreatDoorEnv
import Derived.Deep.RegionHeld3
namespace Go.Proofs.YtaadipccgckehaaGreatDoor
open Go Go.RowKit Go.Shelf Pl

theorem check_bad (n : Int) (D : Nat → Nat) (h : n < 1 ∨ 128 < n) (w : World) : Calls Tryz.prog 32 #[.agg #[.int .i64 n, .int .u64 (D 0 : Nat), .int .u64 (D 1 : Nat), .int .u64 (D 2 : Nat), .int .u64 (D 3 : Nat)]] w (fun e w' => e = .returned (.int .i64 70) ∧ Below w.heap.size w w') := by
  have RB := Lib.hid (fun W => bright_bad n h W)
  clear h
  go_enter Tryz.func32, Tryz.ntmps32
  go_wp2_with (go_at_call 27; refine (RB.out _).mono ?_; rintro e w' ⟨rfl, rfl⟩)
  go_ret
  exact ⟨rfl, below1 w _⟩
theorem check_deal (n : Nat) (D : Nat → Nat) (h1 : 1 ≤ n) (h2 : n ≤ 128) (hD : D64 D) (w : World) : Calls Tryz.prog 32 #[.agg #[.int .i64 (n : Int), .int .u64 (D 0 : Nat), .int .u64 (D 1 : Nat), .int .u64 (D 2 : Nat), .int .u64 (D 3 : Nat)]] w (fun e w' => e = .returned (.int .i64 (if rightB D then 0 else 60)) ∧ Below w.heap.size w w') := by
  have RB := Lib.hid (fun W => bright_ok n h1 h2 W)
  have RD := Lib.hid (fun W => right_any D hD W)
  clear h1 h2 hD
  generalize rightB D = r at *
  obtain ⟨c, hc⟩ : ∃ c : Int, (if r = true then (0 : Int) else 60) = c := ⟨_, rfl⟩
  rw [hc]
  have HC := Lib.hid hc
  clear hc
  go_enter Tryz.func32, Tryz.ntmps32
  go_wp2_with (go_at_call 27; refine (RB.out _).mono ?_; rintro e w' ⟨rfl, rfl⟩)
  have HB := Lib.hid (below1 w (.cells #[.int .i64 (n : Int), .int .u64 (D 0 : Nat), .int .u64 (D 1 : Nat), .int .u64 (D 2 : Nat), .int .u64 (D 3 : Nat)] 26))
  refine (RD.out _).mono ?_
  rintro e w' ⟨rfl, hb⟩
  have HB2 := Lib.hid (HB.out.trans (hb.mono HB.out.size))
  clear hb HB RB RD
  cases r
  · have HC2 : Hid (60 = c) := HC
    clear HC
    go_wp2_with fail
    go_ret
    exact ⟨by rw [← HC2.out]; rfl, HB2.out⟩
  · have HC2 : Hid (0 = c) := HC
    clear HC
    go_wp2_with fail
    go_ret
    exact ⟨by rw [← HC2.out]; rfl, HB2.out⟩
set_option maxRecDepth 100000 in
theorem btext_bad (n : Int) (D : Nat → Nat) (h : n < 1 ∨ 128 < n) (w : World) : Calls Tryz.prog 20 #[.agg #[.int .i64 n, .int .u64 (D 0 : Nat), .int .u64 (D 1 : Nat), .int .u64 (D 2 : Nat), .int .u64 (D 3 : Nat)]] w (fun e w' => e = .returned (.tuple #[.string ⟨#[]⟩, .int .i64 70]) ∧ Below w.heap.size w w') := by
  have CB := Lib.hid (fun W => check_bad n D h W)
  clear h
  go_enter Tryz.func20, Tryz.ntmps20
  go_wp2_with fail
  have HB := Lib.hid (below1 w (.cells #[.int .i64 (n : Int), .int .u64 (D 0 : Nat), .int .u64 (D 1 : Nat), .int .u64 (D 2 : Nat), .int .u64 (D 3 : Nat)] 26))
  refine (CB.out _).mono ?_
  rintro e w' ⟨rfl, hb⟩
  have HB2 := Lib.hid (HB.out.trans (hb.mono HB.out.size))
  clear hb HB CB
  go_wp2_with fail
  go_returns
  exact ⟨rfl, HB2.out⟩
set_option maxRecDepth 100000 in
theorem btext_deal (n : Nat) (D : Nat → Nat) (h1 : 1 ≤ n) (h2 : n ≤ 128) (hD : D64 D) (hr : rightB D = false) (w : World) : Calls Tryz.prog 20 #[.agg #[.int .i64 (n : Int), .int .u64 (D 0 : Nat), .int .u64 (D 1 : Nat), .int .u64 (D 2 : Nat), .int .u64 (D 3 : Nat)]] w (fun e w' => e = .returned (.tuple #[.string ⟨#[]⟩, .int .i64 60]) ∧ Below w.heap.size w w') := by
  have CB := Lib.hid (fun W => check_deal n D h1 h2 hD W)
  rw [hr, if_neg (by decide)] at CB
  clear h1 h2 hD hr
  go_enter Tryz.func20, Tryz.ntmps20
  go_wp2_with fail
  have HB := Lib.hid (below1 w (.cells #[.int .i64 (n : Int), .int .u64 (D 0 : Nat), .int .u64 (D 1 : Nat), .int .u64 (D 2 : Nat), .int .u64 (D 3 : Nat)] 26))
  refine (CB.out _).mono ?_
  rintro e w' ⟨rfl, hb⟩
  have HB2 := Lib.hid (HB.out.trans (hb.mono HB.out.size))
  clear hb HB CB
  go_wp2_with fail
  go_returns
  exact ⟨rfl, HB2.out⟩
def bC (a b c d : List UInt8) : Array Value := #[strV' a, strV' b, strV' c, strV' d]
theorem num_len (n : Nat) : (numL n).length ≤ 3 := by
  unfold numL
  split
  · simp
  · split <;> simp
theorem word_len (v : Nat) : (wordW v).length ≤ 4 := by
  unfold wordW
  split
  · simp
  · split
    · simp
    · split <;> simp
theorem textD_len (D : Nat → Nat) : (textD D).length ≤ 225 := by
  have := deal_len D
  unfold textD
  simp only [List.length_cons]
  omega
theorem join_rec (n : Nat) (D : Nat → Nat) {W : World} {p : Nat} (hb : Blk W p 77 (bC (numL n) (seatW (dealP n)) (wordW (vulP n)) (textD D))) :
    Calls Tryz.prog 35 #[.slice (some ⟨p, 0, none⟩) 4 4, .string ⟨#[32]⟩] W fun e w' => e = .returned (strV' (textB n D)) ∧ Below W.heap.size W w' := by
  have hj : Lib.join ([(⟨(numL n).toArray⟩ : ByteArray), ⟨(seatW (dealP n)).toArray⟩, ⟨(wordW (vulP n)).toArray⟩, ⟨(textD D).toArray⟩].map (·.data.toList)) (⟨#[32]⟩ : ByteArray).data.toList = textB n D := by
    simp [Lib.join, textB, sp]
  have h := Tryz.strings_Join p 0 4 [⟨(numL n).toArray⟩, ⟨(seatW (dealP n)).toArray⟩, ⟨(wordW (vulP n)).toArray⟩, ⟨(textD D).toArray⟩] ⟨#[32]⟩ W (fun j x hx => by
    rw [Nat.zero_add]
    have hj4 : j < 4 := by simpa using (List.getElem?_eq_some_iff.1 hx).1
    refine hb.cell ?_
    rcases (by omega : j = 0 ∨ j = 1 ∨ j = 2 ∨ j = 3) with rfl | rfl | rfl | rfl <;> (simp at hx; subst hx; rfl)) hb.lt (by simp) (by simp) (by
      rw [hj]
      have l1 := num_len n
      have l2 := word_len (vulP n)
      have l3 := textD_len D
      unfold textB
      simp only [sp_cons2, sp_one, List.length_append, List.length_cons, seatW, List.length_nil]
      omega)
  rw [hj] at h
  exact h
theorem seat_cut (d : Nat) (hd : d < 4) : (⟨#[78, 69, 83, 87]⟩ : ByteArray).extract d (d + 1) = ⟨(seatW d).toArray⟩ := by
  rcases (by omega : d = 0 ∨ d = 1 ∨ d = 2 ∨ d = 3) with rfl | rfl | rfl | rfl <;> decide
theorem bcell {W w1 : World} (hb : Below W.heap.size W w1) : (∀ b o, b < W.heap.size → w1.cell? ⟨b, o, none⟩ = W.cell? ⟨b, o, none⟩) ∧ (∀ b o, b < W.heap.size → w1.frozen? ⟨b, o, none⟩ = W.frozen? ⟨b, o, none⟩) :=
  ⟨fun b o h => hb.cell (p := ⟨b, o, none⟩) h, fun b o h => hb.frozen (p := ⟨b, o, none⟩) h⟩
/-- Made first, written last. -/
theorem four_late {W W' : World} {o : Obj} (ho : o = .cells #[.string ⟨#[]⟩, .string ⟨#[]⟩, .string ⟨#[]⟩, .string ⟨#[]⟩] 77) (hb : Below (W.alloc o).drew.heap.size (W.alloc o).drew W') (a b c d : Value) :
    Blk ((((W'.setCell ⟨W.heap.size, 0, none⟩ a).setCell ⟨W.heap.size, 1, none⟩ b).setCell ⟨W.heap.size, 2, none⟩ c).setCell ⟨W.heap.size, 3, none⟩ d) W.heap.size 77 #[a, b, c, d] := by
  subst ho
  have h0 : Blk (W.alloc (.cells #[.string ⟨#[]⟩, .string ⟨#[]⟩, .string ⟨#[]⟩, .string ⟨#[]⟩] 77)).drew W.heap.size 77 #[.string ⟨#[]⟩, .string ⟨#[]⟩, .string ⟨#[]⟩, .string ⟨#[]⟩] := Blk.new W _ _
  have h1 := h0.keep hb h0.lt
  exact (((h1.set 0 a).set 1 b).set 2 c).set 3 d
set_option maxRecDepth 100000 in
set_option maxHeartbeats 2000000 in
theorem btext_ok (n : Nat) (D : Nat → Nat) (h1 : 1 ≤ n) (h2 : n ≤ 128) (hD : D64 D) (hr : rightB D = true) (w : World) (he : Env w) : Calls Tryz.prog 20 #[.agg #[.int .i64 (n : Int), .int .u64 (D 0 : Nat), .int .u64 (D 1 : Nat), .int .u64 (D 2 : Nat), .int .u64 (D 3 : Nat)]] w (fun e w' => e = .returned (.tuple #[strV' (textB n D), .int .i64 0]) ∧ Below w.heap.size w w') := by
  have CB := Lib.hid (fun W => check_deal n D h1 h2 hD W)
  rw [hr, if_pos rfl] at CB
  have DL := Lib.hid (fun W => dealer_ok n h1 h2 W)
  have VL := Lib.hid (fun W => vuln_ok n h1 h2 W)
  have hp : partB D = true := by
    unfold rightB at hr
    exact (Bool.and_eq_true _ _ ▸ hr).1
  have DT := Lib.hid (fun W => dtext_ok D hD hp W)
  have JN := Lib.hid (fun (W : World) (p : Nat) hb => join_rec n D (W := W) (p := p) hb)
  have IT := Lib.hid (fun W (hW : Env W) => itoa_any (n : Int) W hW (by omega) (by omega))
  rw [num_itoa n (by omega)] at IT
  have hd4 := deal_lt n
  have hv4 := vul_lt n
  generalize dealP n = dl at *
  generalize vulP n = vl at *
  have hcut := seat_cut dl hd4
  obtain ⟨SD, hSD⟩ : ∃ X : ByteArray, strV' (textD D) = .string X := ⟨_, rfl⟩
  obtain ⟨SW, hSW⟩ : ∃ X : ByteArray, strV' (wordW vl) = .string X := ⟨_, rfl⟩
  have hbC : bC (numL n) (seatW dl) (wordW vl) (textD D) = #[.string ⟨(numL n).toArray⟩, .string ⟨(seatW dl).toArray⟩, .string SW, .string SD] := by unfold bC; rw [hSD, hSW]; rfl
  rw [hbC] at JN
  rw [hSD] at DT
  have HW := Lib.hid (fun w he => (Env.wds (w := w) he vl hv4).trans (by rw [hSW]))
  clear hSD hSW hbC
  generalize (⟨(numL n).toArray⟩ : ByteArray) = TN at *
  generalize (⟨(seatW dl).toArray⟩ : ByteArray) = TS at *
  have HE := Lib.hid he
  clear h1 h2 hD hr he
  go_enter Tryz.func20, Tryz.ntmps20
  go_wp2_with fail
  have b0 := Blk.new w 26 #[.int .i64 (n : Int), .int .u64 (D 0 : Nat), .int .u64 (D 1 : Nat), .int .u64 (D 2 : Nat), .int .u64 (D 3 : Nat)]
  have HB := Lib.hid (below1 w (.cells #[.int .i64 (n : Int), .int .u64 (D 0 : Nat), .int .u64 (D 1 : Nat), .int .u64 (D 2 : Nat), .int .u64 (D 3 : Nat)] 26))
  refine (CB.out _).mono ?_
  rintro e w' ⟨rfl, hb⟩
  have HR := Lib.hid (b0.keep hb (by simp))
  have HB2 := Lib.hid (HB.out.trans (hb.mono HB.out.size))
  clear hb HB CB b0
  have x0 := HR.out.cell (j := 0) (v := .int .i64 (n : Int)) rfl
  have x1 := HR.out.cell (j := 1) (v := .int .u64 (D 0 : Nat)) rfl
  have x2 := HR.out.cell (j := 2) (v := .int .u64 (D 1 : Nat)) rfl
  have x3 := HR.out.cell (j := 3) (v := .int .u64 (D 2 : Nat)) rfl
  have x4 := HR.out.cell (j := 4) (v := .int .u64 (D 3 : Nat)) rfl
  generalize hp0 : w.heap.size = p0 at *
  go_wp2_with (first
    | (go_at_call 7; refine (DL.out _).mono ?_; rintro e w2 ⟨rfl, rfl⟩)
    | (go_at_call 9; refine (VL.out _).mono ?_; rintro e w2 ⟨rfl, rfl⟩))
  refine (DT.out _).mono ?_
  rintro e w3 ⟨rfl, hb⟩
  have HR3 := Lib.hid (HR.out.keep hb HR.out.lt)
  have HB3 := Lib.hid (HB2.out.trans (hb.mono (by have := HB2.out.size; omega)))
  clear hb HR HB2 DT DL VL x0 x1 x2 x3 x4
  go_upto_region 7 with fail
  have e1 : IntKind.u8.wrap ((dl : Int) + 1) = ((dl + 1 : Nat) : Int) := by show ((dl : Int) + 1) % 256 = _; omega
  have e1b : ((dl : Int) + 1) % 256 = ((dl + 1 : Nat) : Int) := by omega
  have hr1 : (0 : Int) ≤ (dl : Int) + 1 ∧ (dl : Int) + 1 ≤ 4 := by omega
  have hr2 : (dl : Int) ≤ (dl : Int) + 1 := by omega
  have hv5 : (vl : Int) < 4 := by omega
  have HE3 := Lib.hid (HE.out.keep (by rw [hp0]; exact HB3.out))
  go_cut [11] (fun s11 wx => ∃ pa : Nat, s11 = .pointer (some ⟨pa, 0, none⟩) ∧ Hid (Blk wx pa 77 #[.string TN, .string TS, .string SW, .string SD]) ∧ Hid (Below p0 w wx))
  case first =>
    have x0 := HR3.out.cell (j := 0) (v := .int .i64 (n : Int)) rfl
    have y0 := HW.out w3 HE3.out
    have SOF := Lib.hid (fun (wx : World) (hb : Below w3.heap.size w3 wx) => (⟨cell_keep x0 hb, cell_keep y0 hb, hb⟩ : wx.cell? ⟨p0, 0, none⟩ = some (.int .i64 (n : Int)) ∧ wx.cell? ⟨0, vl, none⟩ = some (.string SW) ∧ Below w3.heap.size w3 wx))
    have ITW := Lib.hid (fun (wx : World) (hb : Below w3.heap.size w3 wx) => IT.out wx (HE3.out.keep hb))
    have HB0 : Hid (p0 ≤ w3.heap.size) := Lib.hid (by have := HB3.out.size; omega)
    clear x0 y0 JN HR3 HE IT HE3 hp hd4 hv4
    go_region_held3 (fun wx => wx.cell? ⟨p0, 0, none⟩ = some (.int .i64 (n : Int)) ∧ wx.cell? ⟨0, vl, none⟩ = some (.string SW) ∧ Below w3.heap.size w3 wx)
      (first | exact SOF.out _ (Below.refl _ _) | exact SOF.out _ (Below.drew (Below.refl _ _)) | exact SOF.out _ (Below.alloc (Below.drew (Below.refl _ _)) (Nat.le_refl _) _) | exact SOF.out _ hB | exact SOF.out _ (hB.alloc hB.size _) | exact SOF.out _ (zzbelow hB (Nat.le_refl _) _ _ _ _))
      (first | (go_at_call 34; (with_reducible refine (ITW.out _ (by assumption : _ ∧ _ ∧ Below w3.heap.size w3 _).2.2).mono ?_); rintro e w' ⟨rfl, hb⟩; (have hB := bchain (by assumption : _ ∧ _ ∧ Below w3.heap.size w3 _).2.2 hb); obtain ⟨hc, hf⟩ := bcell hb))
    · clear hc hf
      go_wp2
      go_meet
      exact ⟨_, rfl, Lib.hid (Blk.new w' _ _), Lib.hid (HB3.out.trans ((hB.alloc hB.size _).mono HB0.out))⟩
    · clear hc hf
      go_wp2
      go_meet
      exact ⟨_, rfl, Lib.hid (four_late (W := w3) rfl hb _ _ _ _), Lib.hid (HB3.out.trans ((zzbelow hB (Nat.le_refl _) _ _ _ _).mono HB0.out))⟩
  case rest =>
    obtain ⟨pa, rfl, HP, HB⟩ := hcut
    go_wp2_with fail
    refine (JN.out _ _ HP.out).mono ?_
    rintro e w4 ⟨rfl, hb⟩
    have HB4 := Lib.hid (HB.out.trans (hb.mono (by have := HB.out.size; omega)))
    clear hb
    go_wp2_with fail
    go_returns
    exact ⟨rfl, by rw [hp0]; exact HB4.out⟩
end Go.Proofs.YtaadipccgckehaaGreatDoor
