/- Append for a log, once more: in which block the disk's bytes lie. -/
import Derived.Test.YtbompgfjlllioaaDoorJApp
namespace Go.Proofs.YtbompgfjlllioaaDoor
open Go Go.RowKit

section
variable {w : World} {B lp dp : Nat} {bs : List UInt8} {pow : Int} {recs : List (List UInt8)} {last size : Int} {closed : Bool} {dv rv bv : Value}
/-- write for a log: at least one byte. -/
theorem LG.write2 (h : LG w B lp dp bs pow recs last size closed dv rv bv) (line : ByteArray) (hm : 0 < line.size) (hm2 : line.size ≤ 1000) (hbs : bs.length ≤ 2000000) :
    Calls Tryd.prog 36 #[.pointer (some ⟨lp, 0, none⟩), .string line] w (fun e w' => (∃ v, e = .returned v) ∧ ∃ dv' bv', LG w' B lp dp (bs ++ line.data.toList) pow recs last size closed dv' rv bv' ∧ Fr (OL lp dp rv bv) w w' ∧ (∀ x, bv'.ownBlock = some x → x ∈ OL lp dp rv bv ∨ w.heap.size ≤ x) ∧ (∀ x, dv'.ownBlock = some x → bv'.ownBlock = some x)) := by
  obtain ⟨ob, OW, hob⟩ := h.own
  obtain ⟨n2, xs, hb⟩ := h.buf
  obtain ⟨A2, c2, rfl⟩ := own_slice hb
  obtain ⟨A, c, rfl⟩ := h.bytes.bv.len
  have hrl : ∀ x, rv.ownBlock = some x → x ∉ lp :: dp :: (Value.slice A2 n2 c2).ownBlock.toList := fun x hx hmem => by
    rcases h.rows.2 with ⟨rfl, _⟩ | ⟨g, cap, cur, rfl, _, hg, _⟩
    · simp [Value.ownBlock] at hx
    · obtain rfl : g = x := by simpa [Value.ownBlock] using hx
      rcases List.mem_cons.1 hmem with rfl | hmem
      · have := (show w.heap[g]? = _ from h.log).symm.trans hg; simp at this
      · rcases List.mem_cons.1 hmem with rfl | hmem
        · have := (show w.heap[g]? = _ from h.disk).symm.trans hg; simp at this
        · rcases hb.2 with ⟨e, _⟩ | ⟨g', cap', cur', e, _, hg', _⟩
          · injection e with e1 _ _
            subst e1
            simp [Value.ownBlock] at hmem
          · injection e with e1 _ _
            subst e1
            have : g = g' := by simpa [Value.ownBlock] using hmem
            subst this
            have := hg'.symm.trans hg; simp at this
  have hsub : ∀ x ∈ lp :: dp :: (Value.slice A2 n2 c2).ownBlock.toList, x ∈ OL lp dp rv (.slice A2 n2 c2) := fun x hx => by
    unfold OL
    rcases List.mem_cons.1 hx with rfl | hx
    · simp
    · rcases List.mem_cons.1 hx with rfl | hx
      · simp
      · simp only [List.mem_cons, List.mem_append]; exact .inr (.inr (.inr hx))
  refine (write_any B lp dp rv pow last size closed A bs.length c A2 n2 c2 bs line hm hm2 hbs rfl w h.disk h.log h.bl h.bytes ob OW hob (lp :: dp :: (Value.slice A2 n2 c2).ownBlock.toList) (by simp) (by simp) (fun x hx => by rw [hx]; simp)).mono ?_
  rintro e w' ⟨hv, g, cap, hw⟩
  obtain ⟨b1, b2, ⟨cur, b3⟩, b4, b5⟩ := bs_of_own hw.row
  refine ⟨hv, _, _, ⟨hw.disk, hw.log, ?_, own_fr h.rows hw.frame hrl, ⟨_, _, hw.row⟩, h.bl, h.bd⟩, hw.frame.mono hsub, fun x hx => ?_, fun _ hx => hx⟩
  · exact .some_ g (bs ++ line.data.toList).length (bs ++ line.data.toList) cur (Nat.le_refl _) b2 b3 b1
  · obtain rfl : g = x := by simpa [Value.ownBlock] using hx
    rcases hw.block with h1 | h1
    · exact .inl (hsub _ h1)
    · exact .inr h1
/-- write for a log: any line. -/
theorem LG.write02 (h : LG w B lp dp bs pow recs last size closed dv rv bv) (line : ByteArray) (hm2 : line.size ≤ 1000) (hbs : bs.length ≤ 2000000) :
    Calls Tryd.prog 36 #[.pointer (some ⟨lp, 0, none⟩), .string line] w (fun e w' => (∃ v, e = .returned v) ∧ ∃ dv' bv', LG w' B lp dp (bs ++ line.data.toList) pow recs last size closed dv' rv bv' ∧ Fr (OL lp dp rv bv) w w' ∧ (∀ x, bv'.ownBlock = some x → x ∈ OL lp dp rv bv ∨ w.heap.size ≤ x) ∧ (∀ x, dv'.ownBlock = some x → dv.ownBlock = some x ∨ bv'.ownBlock = some x)) := by
  by_cases h0 : line.size = 0
  · have e : line = ⟨#[]⟩ := by
      cases line with
      | mk d => have : d.size = 0 := h0; rw [Array.size_eq_zero_iff.1 this]
    rw [e]
    refine (write_empty lp w).mono ?_
    rintro e w' ⟨hv, rfl⟩
    exact ⟨hv, dv, bv, by simpa using h, Fr.refl _ _, fun x hx => .inl (by simp [OL, hx]), fun _ hx => .inl hx⟩
  · refine (h.write2 line (by omega) hm2 hbs).mono ?_
    rintro e w' ⟨hv, dv', bv', h1, h2, h3, h4⟩
    exact ⟨hv, dv', bv', h1, h2, h3, fun x hx => .inr (h4 x hx)⟩
end
/-- What is kept while a line is written: the log, what may have changed, where it lies. D: the disk's bytes before. -/
structure AP2 (D : Value) (w w' : World) (B lp dp : Nat) (bs : List UInt8) (pow : Int) (recs : List (List UInt8)) (last size : Int) (closed : Bool) (L : List Nat) (dv rv bv : Value) : Prop where
  lg : LG w' B lp dp bs pow recs last size closed dv rv bv
  fr : Fr L w w'
  rb : ∀ x, rv.ownBlock = some x → x ∈ L ∨ w.heap.size ≤ x
  bb : ∀ x, bv.ownBlock = some x → x ∈ L ∨ w.heap.size ≤ x
  db : ∀ x, dv.ownBlock = some x → D.ownBlock = some x ∨ x ∈ L ∨ w.heap.size ≤ x
section
variable (B lp dp : Nat) (bs : List UInt8) (pow : Int) (recs : List (List UInt8)) (last : Nat) (size : Int) (dv rv bv : Value) (s : ByteArray) (w : World)
set_option maxRecDepth 100000 in
set_option maxHeartbeats 4000000 in
theorem append_main2 (hs : s.size ≤ 2000000) (hbs : bs.length ≤ 2000000) (he : Env w) (hl : last < 9973) (hr : rightL s.data.toList = true) (hf : bs.length + (s.size + 6) ≤ 1048576) (hp : pow ≤ 9223372036854775807) (hz : 0 ≤ size ∧ size ≤ 2000000) (hrc : recs.length ≤ 2000000) (h : LG w B lp dp bs pow recs last size false dv rv bv) :
    Calls Tryd.prog 14 #[.pointer (some ⟨lp, 0, none⟩), .string s] w (fun e w' => (wrP pow (s.size + 6) < s.size + 6 → e = .returned (.int .i64 420) ∧ ∃ dv' bv', AP2 dv w w' B lp dp (bs ++ (lineL last s.data.toList).take (wrP pow (s.size + 6))) (powP pow (s.size + 6)) recs last size true (OL lp dp rv bv) dv' rv bv') ∧
      (wrP pow (s.size + 6) = s.size + 6 → e = .returned (.int .i64 0) ∧ ∃ dv' rv' bv', AP2 dv w w' B lp dp (bs ++ lineL last s.data.toList) (powP pow (s.size + 6)) (recs ++ [s.data.toList]) (sumL last s.data.toList : Nat) (size + (s.size + 6 : Nat)) false (OL lp dp rv bv) dv' rv' bv')) := by
  have IS := Lib.hid (is_any lp dp w h.log.c0)
  have LN := Lib.hid (line_any (last : Nat) s hs w he)
  have SU := Lib.hid (fun W => sum_s last hl s hs W)
  have hfp : failP (last : Nat) s.data.toList = 0 := by unfold failP; rw [if_neg (by omega), hr]; rfl
  rw [show lineP (last : Nat) s.data.toList = (lineL last s.data.toList, 0) by unfold lineP; rw [hfp]; rfl] at LN
  have hrl := rightL_len hr
  rw [str_len] at hrl
  obtain ⟨X, hX⟩ : ∃ X : ByteArray, X = ⟨(lineL last s.data.toList).toArray⟩ := ⟨_, rfl⟩
  have hXs : X.size = s.size + 6 := by rw [← str_len, hX]; show (lineL last s.data.toList).length = _; rw [lineL_len, str_len]
  have HXL : Hid (X.data.toList = lineL last s.data.toList) := Lib.hid (by rw [hX])
  rw [← hX] at LN
  obtain ⟨A, c, rfl⟩ := h.bytes.bv.len
  have H := Lib.hid h
  have c4 := h.log.c4
  have c2 := h.log.c2
  obtain ⟨m, hm⟩ : ∃ m, s.size + 6 = m := ⟨_, rfl⟩
  rw [hm] at hXs hf ⊢
  obtain ⟨W, hW⟩ : ∃ W, wrP pow m = W := ⟨_, rfl⟩
  have HWle : Hid (W ≤ m) := Lib.hid (by rw [← hW]; exact wr_le _ _)
  obtain ⟨P2, hP2⟩ : ∃ P2, powP pow m = P2 := ⟨_, rfl⟩
  have t1 : decide (1048576 < (bs.length : Int) + (m : Int)) = false := decide_eq_false (by omega)
  have w7 : IntKind.i64.wrap ((bs.length : Int) + (m : Int)) = (bs.length : Int) + (m : Int) := IntWalk.i64_in _ (by omega)
  have HPW : Hid ((0 ≤ pow → (min (m : Int) pow = (W : Int)) ∧ P2 = pow - (W : Int)) ∧ (¬ 0 ≤ pow → W = m ∧ P2 = pow)) := Lib.hid (by
    rw [← hP2]; unfold powP; rw [hW]
    rw [← hW]; unfold wrP
    constructor
    · intro h0; rw [if_pos h0, if_pos h0]; exact ⟨by omega, rfl⟩
    · intro h0; rw [if_neg h0, if_neg h0]; exact ⟨rfl, rfl⟩)
  rw [hW, hP2]
  have HXS := Lib.hid hXs
  clear h hr he hfp hX hXs hW hP2 hs
  go_enter Tryd.func14, Tryd.ntmps14
  go_wp2_with fail
  refine IS.out.mono ?_
  rintro e w1 ⟨rfl, rfl⟩
  go_wp2_with fail
  refine LN.out.mono ?_
  rintro e w1 ⟨rfl, hb⟩
  have HB := Lib.hid hb
  have H1 := Lib.hid (H.out.keep hb)
  have xs := HXS.out
  clear hb c4 c2
  have c0 := H1.out.log.c0
  have d0 := H1.out.disk.cell (j := 0) (v := .slice A bs.length c) rfl
  have d1 := H1.out.disk.cell (j := 1) (v := .int .i64 pow) rfl
  have y1 := H1.out.disk.free 1
  go_upto_if 47 with fail
  go_cut [0, 1, 5, 7] (fun s0 s1 s5 s7 wx => s0 = .pointer (some ⟨lp, 0, none⟩) ∧ s1 = .string s ∧ s5 = .string X ∧ s7 = .int .i64 (W : Int) ∧ LG wx B lp dp bs P2 recs last size false (.slice A bs.length c) rv bv ∧ Fr (OL lp dp rv bv) w wx)
  case first =>
    by_cases h0 : 0 ≤ pow
    · have t3 : decide (0 ≤ pow) = true := decide_eq_true h0
      obtain ⟨k1, k2⟩ := HPW.out.1 h0
      have w8 : IntKind.i64.wrap (pow - (W : Int)) = pow - (W : Int) := IntWalk.i64_in _ (by have := HWle.out; omega)
      have HK2 := Lib.hid k2
      clear k2
      go_wp2
      go_meet
      exact ⟨rfl, rfl, rfl, rfl, (by rw [HK2.out]; exact H1.out.setPow _), (Fr.of_below HB.out _).set (by simp [OL]) 1 _⟩
    · have t3 : decide (0 ≤ pow) = false := decide_eq_false h0
      obtain ⟨k1, k2⟩ := HPW.out.2 (by omega)
      subst k1
      have HK2 := Lib.hid k2
      clear k2
      go_wp2
      go_meet
      exact ⟨rfl, rfl, rfl, rfl, (by rw [HK2.out]; exact H1.out), Fr.of_below HB.out _⟩
  case rest =>
  obtain ⟨rfl, rfl, rfl, rfl, hlg, hfr⟩ := hcut
  have HFR := Lib.hid hfr
  have hXW : (X.extract 0 W).size ≤ 1000 := by simp; omega
  have HT : Hid ((X.extract 0 W).data.toList = (lineL last s.data.toList).take W) := Lib.hid (by rw [← HXL.out]; simp)
  have WRT := Lib.hid (hlg.write02 (X.extract 0 W) hXW hbs)
  have hWle := HWle.out
  have hXs := HXS.out
  clear hlg hfr
  go_wp2_with fail
  refine WRT.out.mono ?_
  rintro e w2 ⟨⟨v, rfl⟩, dv2, bv2, hlg, hfr, hbb, hdb⟩
  rw [HT.out] at hlg
  have HL := Lib.hid hlg
  have HF2 := Lib.hid (HFR.out.trans hfr)
  have HBB : Hid (∀ x, bv2.ownBlock = some x → x ∈ OL lp dp rv bv ∨ w.heap.size ≤ x) := Lib.hid (fun x hx => (hbb x hx).imp id (fun h => Nat.le_trans HFR.out.size h))
  have HDB : Hid (∀ x, dv2.ownBlock = some x → (Value.slice A bs.length c).ownBlock = some x ∨ x ∈ OL lp dp rv bv ∨ w.heap.size ≤ x) := Lib.hid (fun x hx => (hdb x hx).imp id (HBB.out x))
  have c0 := hlg.log.c0
  have c1 := hlg.log.c1
  have c2 := hlg.log.c2
  have c3 := hlg.log.c3
  have c4 := hlg.log.c4
  have y1 := hlg.log.free 1
  have y2 := hlg.log.free 2
  have y3 := hlg.log.free 3
  have y4 := hlg.log.free 4
  clear hlg hfr hbb hdb
  by_cases hWm : W < m
  · have t4 : decide ((W : Int) < (m : Int)) = true := decide_eq_true (by omega)
    go_wp2_with fail
    go_ret
    refine ⟨fun _ => ⟨rfl, dv2, bv2, HL.out.setClosed true, HF2.out.set (by simp [OL]) 4 _, fun x hx => .inl (by simp [OL, hx]), HBB.out, HDB.out⟩, fun h => ?_⟩
    omega
  · have t4 : decide ((W : Int) < (m : Int)) = false := decide_eq_false (by omega)
    have w8 : IntKind.i64.wrap (size + (m : Int)) = size + (m : Int) := IntWalk.i64_in _ (by omega)
    obtain ⟨i0, hi0, hz0, hz1, hz2⟩ := info_parts info_str
    have HB0 : Hid (B ≤ w2.heap.size) := Lib.hid (by have h1 := HL.out.bl; have h2 := HL.out.log.lt; omega)
    go_wp2_with (at_builtin; go_must (refine wpList_append_own_at _ rfl _ _ 22 rfl B 9 i0 (.string ⟨#[]⟩) 1 16 Tryd.underlying22 hi0 hz0 hz1 hz2 rfl (by decide) _ _ _ rfl ((HL.out.keep (below1 _ _)).rows) ⟨w2.heap.size, 0, none⟩ 1 1 [.string s] rfl rfl (cell_one_new w2 (.string s) 9) (by simp [Value.oneCell']) (by unfold maxLen; show recs.length + 1 ≤ _; omega) (by show (recs.length + 1) * 16 ≤ _; omega) (by have := HB0.out; simp; omega) ?_; intro v' w4 hown' hgrow _ hat; rw [show [Value.string s] = [strV s.data.toList] from rfl] at hown'; have HADD := Lib.hid (HL.out.addRec _ hown' hgrow hat); obtain ⟨g', cap', rfl⟩ := ownsRow_succ hown'; have hg4 := ((HL.out.keep (below1 _ _)).rowsGrown hgrow).2.1; have z1 := hg4.c1; have z2 := hg4.c2; have z3 := hg4.c3; have x1 := hg4.free 1; have x2 := hg4.free 2; have x3 := hg4.free 3; clear hg4 hown' hgrow hat))
    refine (SU.out _).mono ?_
    rintro e w5 ⟨rfl, rfl⟩
    go_wp2_with fail
    go_ret
    refine ⟨fun h => absurd h hWm, fun he => ⟨rfl, dv2, .slice (some ⟨g', 0, none⟩) (recs.length + 1) cap', bv2, ?_⟩⟩
    obtain ⟨ha, hb, hc⟩ := HADD.out
    have htk : (lineL last s.data.toList).take W = lineL last s.data.toList := by rw [he]; exact List.take_of_length_le (by rw [lineL_len, str_len]; omega)
    rw [htk] at ha
    have hsub : ∀ x ∈ OL lp dp rv bv2, x ∈ OL lp dp rv bv ∨ w.heap.size ≤ x := by
      intro x hx
      simp only [OL, List.mem_cons, List.mem_append, Option.mem_toList] at hx
      rcases hx with rfl | rfl | hx | hx
      · exact .inl (by simp [OL])
      · exact .inl (by simp [OL])
      · exact .inl (by simp [OL, hx])
      · exact HBB.out x hx
    refine ⟨(ha.setLast _).setSize _, ((HF2.out.trans2 hb hsub).set (by simp [OL]) 2 _).set (by simp [OL]) 3 _, fun x hx => ?_, HBB.out, HDB.out⟩
    rcases hc x hx with h1 | h1
    · exact hsub x h1
    · exact .inr (Nat.le_trans HF2.out.size h1)
end
end Go.Proofs.YtbompgfjlllioaaDoor
