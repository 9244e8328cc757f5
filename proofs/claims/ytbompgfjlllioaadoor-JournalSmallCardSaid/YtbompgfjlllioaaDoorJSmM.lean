/- full: disks about their limit. none: disks and logs that are none. Pieces of JournalSmall: literals of steps, strings of one and two bytes, the log of four records. The walk of JournalSmall. -/
import Derived.Test.YtbompgfjlllioaaDoorJAwake
import Derived.Test.YtbompgfjlllioaaDoorJDamage
import Derived.Test.YtbompgfjlllioaaDoorJApp
import Derived.Test.YtbompgfjlllioaaDoorJStep
import Derived.Test.YtbompgfjlllioaaDoorJStep3
import Derived.Test.YtbompgfjlllioaaDoorJDoes
import Derived.Lib.Repeat
namespace Go.Proofs.YtbompgfjlllioaaDoor
open Go Go.RowKit

/-- A new slice of zeros. -/
theorem mk_zero (n : Nat) (hn : n ≤ 2000000) : ∃ (ZC : Array Value) (ZL : List UInt8), ZL.length = n ∧ (∀ c ∈ ZL, c ≠ 10) ∧
    (∀ W, (Instr.makeSlice 26 (.int .i64 (n : Int)) (.int .i64 (n : Int))).run Tryd.prog W = .ok (.slice (some ⟨W.heap.size, 0, none⟩) n n) (W.alloc (.cells ZC 5))) ∧
    ∀ W : World, BS (W.alloc (.cells ZC 5)) W.heap.size 0 ZL := by
  obtain ⟨i0, hi0, hz0, hz1, hz2⟩ := info_parts info_u8
  refine ⟨madeCells (Value.int .u8 0).cells (n * 1), List.replicate n 0, by simp, fun c hc => ?_, fun W => ?_, fun W i c hi => ?_⟩
  · rw [(List.mem_replicate.1 hc).2]; decide
  · have := run_makeSlice (P := Tryd.prog) W 26 5 i0 (.int .u8 0) Tryd.underlying26 hi0 hz0 .i64 .i64 (n : Int) (n : Int) (by omega) (by omega) (by rw [hz1]; simp; omega) (by rw [hz2]; omega) (by omega)
    rw [this, hz1, Int.toNat_natCast]
  · have hi' := List.getElem?_eq_some_iff.1 hi
    obtain ⟨hlt, he⟩ := hi'
    have hlt' : i < n := by simpa using hlt
    have hc0 : c = 0 := by rw [← he]; simp
    subst hc0
    rw [Nat.zero_add]
    refine (Blk.new W 5 (madeCells (Value.int .u8 0).cells (n * 1))).cell ?_
    simp [madeCells, Value.cells, hlt', Nat.mod_one]
theorem zero_scan {ZL : List UInt8} (h : ∀ c ∈ ZL, c ≠ 10) : scanS (linesL ZL) = ⟨[], 1, 0, true⟩ := by
  unfold linesL
  rw [linesA_no _ _ h]
  rfl
/-- The log whose disk has got other bytes. -/
theorem LG.setBytes {w : World} {B lp dp : Nat} {bs : List UInt8} {pow : Int} {recs : List (List UInt8)} {last size : Int} {closed : Bool} {dv rv bv : Value} (h : LG w B lp dp bs pow recs last size closed dv rv bv) {dv' : Value} {bs' : List UInt8} (hd : DV w B dv' bs') :
    LG (w.setCell ⟨dp, 0, none⟩ dv') B lp dp bs' pow recs last size closed dv' rv bv :=
  ⟨h.disk.set 0 _, h.log.other h.ne _ _, hd.other h.disk (by decide) (grown_set _ _ _ _), own_other h.rows h.disk (by decide) _ _, by obtain ⟨k, xs, hx⟩ := h.buf; exact ⟨k, xs, own_other hx h.disk (by decide) _ _⟩, h.bl, h.bd⟩
theorem wr_all (m : Nat) : wrP (-1) m = m := by unfold wrP; rw [if_neg (by decide)]
theorem pow_all (m : Nat) : powP (-1) m = -1 := by unfold powP; rw [if_neg (by decide)]
/-- A disk with new zeros. -/
theorem zero_disk {n : Nat} {ZC : Array Value} {ZL : List UInt8} (hl : ZL.length = n) (hB : ∀ W : World, BS (W.alloc (.cells ZC 5)) W.heap.size 0 ZL) (W : World) (p : Int) :
    PD ((W.alloc (.cells ZC 5)).alloc (.cells #[.slice (some ⟨W.heap.size, 0, none⟩) n n, .int .i64 p] 28)) (W.heap.size + 1) (.slice (some ⟨W.heap.size, 0, none⟩) n n) p ∧
    DV ((W.alloc (.cells ZC 5)).alloc (.cells #[.slice (some ⟨W.heap.size, 0, none⟩) n n, .int .i64 p] 28)) W.heap.size (.slice (some ⟨W.heap.size, 0, none⟩) n n) ZL := by
  subst hl
  constructor
  · have := Blk.new (W.alloc (.cells ZC 5)) 28 #[.slice (some ⟨W.heap.size, 0, none⟩) ZL.length ZL.length, .int .i64 p]
    rw [World.size_alloc] at this
    exact this
  · exact DV.some_ W.heap.size ZL.length ZL ZC (Nat.le_refl _) (Nat.le_refl _) ((Blk.new W 5 ZC).alloc _) ((hB W).keep (below1 _ _))
theorem zero_dv {n : Nat} {ZC : Array Value} {ZL : List UInt8} (hl : ZL.length = n) (hB : ∀ W : World, BS (W.alloc (.cells ZC 5)) W.heap.size 0 ZL) (W : World) {B : Nat} (hb : B ≤ W.heap.size) (m : Nat) (hm : m ≤ n) :
    DV (W.alloc (.cells ZC 5)) B (.slice (some ⟨W.heap.size, 0, none⟩) m n) (ZL.take m) := by
  subst hl
  have hlen : (ZL.take m).length = m := by simp; omega
  have := DV.some_ (w := W.alloc (.cells ZC 5)) (B := B) W.heap.size ZL.length (ZL.take m) ZC (by omega) hb (Blk.new W 5 ZC) ((hB W).take m)
  rw [hlen] at this
  exact this
theorem DV.shorter {w : World} {B g n c : Nat} {l : List UInt8} (h : DV w B (.slice (some ⟨g, 0, none⟩) n c) l) (m : Nat) (hm : m ≤ n) : DV w B (.slice (some ⟨g, 0, none⟩) m c) (l.take m) := by
  generalize hv : Value.slice (some ⟨g, 0, none⟩) n c = v at h
  cases h with
  | none_ => injection hv with e _ _; cases e
  | some_ g' cap l cur hcap hB hg hc =>
    injection hv with e1 e2 e3
    have e1 := Option.some.inj e1
    injection e1 with e1 _ _
    subst e1 e2 e3
    have hl : (l.take m).length = m := by simp; omega
    have := DV.some_ (w := w) (B := B) g c (l.take m) cur (by omega) hB hg (hc.take m)
    rw [hl] at this
    exact this
theorem below_on {B : Nat} {a b c : World} (h : Below B a b) (hB : B ≤ a.heap.size) (k : Below b.heap.size b c) : Below B a c := h.trans (k.mono (Nat.le_trans hB h.size))
set_option maxRecDepth 100000 in
set_option maxHeartbeats 8000000 in
theorem full_any (w : World) (he : Env w) : Calls Tryd.prog 30 #[] w (fun e w' => e = .returned (.bool true) ∧ Below w.heap.size w w') := by
  have HE := Lib.hid he
  clear he
  obtain ⟨Z, hZ⟩ : ∃ Z : ByteArray, (⟨(Lib.repeatL (⟨#[122]⟩ : ByteArray).data.toList 200).toArray⟩ : ByteArray) = Z := ⟨_, rfl⟩
  have RP := Lib.hid (fun W => Tryd.strings_Repeat_main ⟨#[122]⟩ 200 W (by decide) (by decide) (by decide) (by decide))
  rw [hZ] at RP
  have HZ : Hid (rightL Z.data.toList = true ∧ Z.size = 200) := Lib.hid (by rw [← hZ]; exact ⟨by decide +kernel, by decide +kernel⟩)
  clear hZ
  have RL := Lib.hid (fun W => rline_any 1 Z (by rw [HZ.out.2]; decide) W)
  have hlp : lineP 1 Z.data.toList = (lineL 1 Z.data.toList, 0) := by
    have hf : failP 1 Z.data.toList = 0 := by unfold failP; rw [if_neg (by decide), HZ.out.1]; rfl
    unfold lineP
    rw [hf]
    rfl
  rw [hlp] at RL
  obtain ⟨X, hX⟩ : ∃ X : ByteArray, X = ⟨(lineL 1 Z.data.toList).toArray⟩ := ⟨_, rfl⟩
  have hXs : X.size = 206 := by rw [← str_len, hX]; show (lineL 1 Z.data.toList).length = _; rw [lineL_len, str_len, HZ.out.2]
  have HXL : Hid (X.data.toList = lineL 1 Z.data.toList) := Lib.hid (by rw [hX])
  rw [← hX] at RL
  clear hlp hX
  go_enter Tryd.func30, Tryd.ntmps30
  go_wp2_with fail
  refine (RP.out _).mono ?_
  rintro e w1 ⟨rfl, hb1⟩
  have B1 := Lib.hid hb1
  clear hb1
  go_wp2_with fail
  refine (RL.out _).mono ?_
  rintro e w2 ⟨rfl, hb2⟩
  have B2 := Lib.hid (bchain B1.out hb2)
  clear hb2 B1 RL
  have n1 : IntKind.i64.wrap (1048576 - (X.size : Int)) = 1048370 := by rw [hXs]; rfl
  go_upto_block 0 with fail
  have SB := Lib.hid (Blk.new w2 3 #[.int .i64 1048371, .int .i64 1048576, .int .i64 1048577])
  have BW := Lib.hid (bchain B2.out (below1 w2 (.cells #[.int .i64 1048371, .int .i64 1048576, .int .i64 1048577] 3)))
  clear n1
  generalize w2.alloc (.cells #[.int .i64 1048371, .int .i64 1048576, .int .i64 1048577] 3) = W2 at *
  generalize w2.heap.size = sb at *
  clear B2 w2
  have SBL := Lib.hid SB.out.lt
  go_wp2_with fail
  go_loopw [21] (fun s21 wr => ∃ k : Nat, k ≤ 3 ∧ s21 = .int .i64 (k : Int) ∧ Hid (Below W2.heap.size W2 wr)) (fun s21 _ => 3 - (intOf s21).toNat)
  case atStart => exact ⟨0, by omega, rfl, Lib.hid (Below.refl _ _)⟩
  case round =>
    obtain ⟨k, hk, rfl, BR⟩ := hrel
    obtain ⟨wo, rfl⟩ : ∃ wo : World, wo = wr := ⟨_, rfl⟩
    by_cases hlt : k < 3
    case neg =>
      obtain rfl : k = 3 := by omega
      rw [show ((3 : Nat) : Int) = 3 from rfl]
      go_wp2_with fail
      go_ret
      exact ⟨rfl, bchain BW.out BR.out⟩
    have t1 : decide ((k : Int) < 3) = true := decide_eq_true (by omega)
    obtain ⟨n, hn0, hn1, e0⟩ : ∃ n : Nat, 1048371 ≤ n ∧ n ≤ 1048577 ∧ wo.cell? ⟨sb, k, none⟩ = some (.int .i64 (n : Int)) := by
      have hb := SB.out.keep BR.out SBL.out
      match k, hlt with
      | 0, _ => exact ⟨1048371, by omega, by omega, hb.cell (j := 0) rfl⟩
      | 1, _ => exact ⟨1048576, by omega, by omega, hb.cell (j := 1) rfl⟩
      | 2, _ => exact ⟨1048577, by omega, by omega, hb.cell (j := 2) rfl⟩
    obtain ⟨ZC, ZL, hZl, hZ10, mk, hZB⟩ := mk_zero n (by omega)
    have HZl := Lib.hid hZl
    have HZ10 := Lib.hid hZ10
    have HZB := Lib.hid hZB
    clear hZl hZ10 hZB
    go_upto_region 6 with fail
    obtain ⟨hpd, hdv⟩ := zero_disk HZl.out HZB.out wo (-1)
    have PD1 := Lib.hid hpd
    have DV1 := Lib.hid hdv
    have BA := Lib.hid (bchain (below1 wo (.cells ZC 5)) (below1 _ (.cells #[.slice (some ⟨wo.heap.size, 0, none⟩) n n, .int .i64 (-1)] 28)))
    have BW1 := Lib.hid (bchain BW.out BR.out)
    have HE1 := Lib.hid (HE.out.keep (bchain BW1.out BA.out))
    have HSZ : Hid (scanS (linesL ZL) = ⟨[], 1, 0, true⟩) := Lib.hid (zero_scan HZ10.out)
    clear hpd hdv e0 HZ10
    by_cases hbig : 1048576 < n
    · have t2 : decide (1048576 < (n : Int)) = true := decide_eq_true (by omega)
      go_wp2_with fail
      refine (open_long (bs := ZL) (hl := by rw [HZl.out]; exact hbig) (hn := by rw [HZl.out]; omega) (h := PD1.out) (hB := DV1.out)).mono ?_
      rintro e w1 ⟨rfl, rfl⟩
      clear PD1 DV1
      go_upto_region 7 with fail
      generalize hwa : (wo.alloc (.cells ZC 5)).alloc (.cells #[.slice (some ⟨wo.heap.size, 0, none⟩) n n, .int .i64 (-1)] 28) = wa at *
      obtain ⟨hpd, hdv⟩ := zero_disk HZl.out HZB.out wa 1
      have PD2 := Lib.hid hpd
      have DV2 := Lib.hid hdv
      have BB := Lib.hid (bchain (below1 wa (.cells ZC 5)) (below1 _ (.cells #[.slice (some ⟨wa.heap.size, 0, none⟩) n n, .int .i64 1] 28)))
      clear hpd hdv hwa
      go_wp2_with fail
      refine (repair_long (bs := ZL) (hl := by rw [HZl.out]; exact hbig) (hn := by rw [HZl.out]; omega) (h := PD2.out) (hB := DV2.out)).mono ?_
      rintro e w1 ⟨rfl, rfl⟩
      clear PD2 DV2
      have BC := Lib.hid (bchain BR.out (bchain BA.out BB.out))
      go_wp2_with fail
      go_roundw
      case rel => exact ⟨k + 1, by omega, by go_num, BC⟩
      case measure => simp [intOf]; omega
    have hsm : n ≤ 1048576 := by omega
    have t2 : decide (1048576 < (n : Int)) = false := decide_eq_false (by omega)
    go_wp2_with fail
    refine (open_lg (bs := ZL) (B := wo.heap.size) (hl := by rw [HZl.out]; exact hsm) (ht := by rw [HSZ.out]) (he := HE1.out) (h := PD1.out) (hB := DV1.out) (hBd := by omega) (hp := .inr (by decide)) (hp0 := by decide) (hp1 := by decide)).mono ?_
    rintro e w3 ⟨lp, dv3, rv3, rfl, hlp, hlg, hfr, hrv⟩
    rw [HSZ.out, HZl.out] at hlg
    have hcp : cutPow n 0 (-1) = -1 := by unfold cutPow lessP; split <;> rfl
    change LG w3 wo.heap.size lp (wo.heap.size + 1) (List.take 0 ZL) (cutPow n 0 (-1)) [] ((1 : Nat) : Int) ((0 : Nat) : Int) false dv3 rv3 (.slice none 0 0) at hlg
    rw [hcp, List.take_zero] at hlg
    obtain ⟨A3, c3, rfl⟩ : ∃ A c, dv3 = .slice A 0 c := hlg.bytes.bv.len
    have G3 := Lib.hid hlg
    have B3 := Lib.hid (BA.out.trans (hfr.below BA.out.size (fun x hx => by
      have hxd : x = wo.heap.size + 1 := by simpa using hx
      omega)))
    have E3 := Lib.hid (HE.out.keep (bchain BW1.out B3.out))
    clear hlg hfr hrv hlp hcp PD1 DV1 BA HE1
    obtain ⟨B, hB⟩ : ∃ B, wo.heap.size = B := ⟨_, rfl⟩
    obtain ⟨dp, hdp⟩ : ∃ dp, B + 1 = dp := ⟨_, rfl⟩
    rw [hB, hdp] at G3
    rw [hB] at B3
    rw [hB, hdp]
    have HBB := Lib.hid hB
    clear hB hdp
    go_upto_region 7 with fail
    obtain ⟨hpd, hdv⟩ := zero_disk HZl.out HZB.out w3 1
    have PD2 := Lib.hid hpd
    have DV2 := Lib.hid hdv
    have BB := Lib.hid (bchain (below1 w3 (.cells ZC 5)) (below1 _ (.cells #[.slice (some ⟨w3.heap.size, 0, none⟩) n n, .int .i64 1] 28)))
    clear hpd hdv
    go_wp2_with fail
    refine (repair_lg2 (bs := ZL) (B := w3.heap.size) (hl := by rw [HZl.out]; exact hsm) (he := E3.out.keep BB.out) (h := PD2.out) (hB := DV2.out) (hp := .inr (by decide)) (hp0 := by decide) (hp1 := by decide)).mono ?_
    rintro e w6 ⟨he, dv6, hpd6, hdv6, hfr6, _⟩
    rw [HSZ.out, HZl.out] at he
    have he : e = .returned (.tuple #[.int .i64 (n : Int), .int .i64 0]) := by
      rw [he]
      show Ending.returned (.tuple #[.int .i64 ((n : Int) - ((0 : Nat) : Int)), .int .i64 0]) = _
      rw [show ((n : Int) - ((0 : Nat) : Int)) = (n : Int) by omega]
    subst he
    have BX := BB.out.trans (hfr6.below BB.out.size (fun x hx => by
      have hxd : x = w3.heap.size + 1 := by simpa using hx
      omega))
    have G6 := Lib.hid (G3.out.keep BX)
    have B6 := Lib.hid (Below.trans B3.out (BX.mono (show B ≤ w3.heap.size by have := B3.out.size; have := HBB.out; omega)))
    clear BX hpd6 hdv6 hfr6 PD2 DV2 BB G3 B3 E3
    have c0 := G6.out.disk.cell (j := 0) (v := .slice A3 0 c3) rfl
    go_upto_region 13 with fail
    have G7 := Lib.hid (G6.out.keep (below1 w6 (.cells ZC 5)))
    have B7 := Lib.hid (B6.out.alloc (by have := B6.out.size; have := HBB.out; omega) (.cells ZC 5))
    have hz7 := zero_dv HZl.out HZB.out w6 (B := B) (by have := B6.out.size; have := HBB.out; omega)
    have HZ7 := Lib.hid hz7
    clear hz7 c0
    have c0 := G7.out.disk.cell (j := 0) (v := .slice A3 0 c3) rfl
    have f0 := G7.out.disk.free 0
    go_upto_region 14 with fail
    have HBd : Hid (B ≤ dp ∧ B ≤ wo.heap.size) := Lib.hid ⟨G7.out.bd, by have := HBB.out; omega⟩
    have G8 := Lib.hid (G7.out.setBytes (HZ7.out n (Nat.le_refl _)))
    have B8 := Lib.hid (B7.out.setCell (p := ⟨dp, 0, none⟩) HBd.out.1 (.slice (some ⟨w6.heap.size, 0, none⟩) n n))
    have HZT : Hid (∀ m, m ≤ n → (ZL.take m).length = m) := Lib.hid (fun m hm => by rw [List.length_take, HZl.out]; omega)
    clear G6 G7 B6 B7 HZ7 c0 f0
    generalize (w6.alloc (.cells ZC 5)).setCell ⟨dp, 0, none⟩ (.slice (some ⟨w6.heap.size, 0, none⟩) n n) = w8 at *
    generalize w6.heap.size = zb at *
    clear w6
    go_wp2_with fail
    refine (RP.out _).mono ?_
    rintro e w9 ⟨rfl, hb⟩
    have G9 := Lib.hid (G8.out.keep hb)
    have B9 := Lib.hid (below_on B8.out HBd.out.2 hb)
    clear hb G8 B8
    go_wp2_with fail
    refine (append_full (h := G9.out) (hs := by rw [HZ.out.2]; decide) (hbs := by rw [HZT.out n (Nat.le_refl _)]; omega) (he := HE.out.keep (bchain BW1.out (B9.out.mono (by have := HBB.out; omega)))) (hl := by decide) (hr := HZ.out.1) (hf := by rw [HZT.out n (Nat.le_refl _), HZ.out.2]; omega)).mono ?_
    rintro e w10 ⟨rfl, hb⟩
    have G10 := Lib.hid (G9.out.keep hb)
    have B10 := Lib.hid (below_on B9.out HBd.out.2 hb)
    clear hb G9 B9
    have c0 := G10.out.disk.cell (j := 0) (v := .slice (some ⟨zb, 0, none⟩) n n) rfl
    go_wp2_with fail
    refine (size_any (h := G10.out.log)).mono ?_
    rintro e w11 ⟨rfl, rfl⟩
    have f0 := G10.out.disk.free 0
    have z1 : (1048370 : Int) ≤ (n : Int) := by omega
    have z2 : 1048370 ≤ n := by omega
    rw [show ((0 : Nat) : Int) = 0 from rfl]
    go_upto_region 17 with fail
    have G12 := Lib.hid (G10.out.setBytes (G10.out.bytes.shorter 1048370 z2))
    have B12 := Lib.hid (B10.out.setCell (p := ⟨dp, 0, none⟩) HBd.out.1 (.slice (some ⟨zb, 0, none⟩) 1048370 n))
    clear G10 B10 c0 f0 z1
    generalize w10.setCell ⟨dp, 0, none⟩ (.slice (some ⟨zb, 0, none⟩) 1048370 n) = w12 at *
    clear w10
    go_wp2_with fail
    refine (RP.out _).mono ?_
    rintro e w13 ⟨rfl, hb⟩
    have G13 := Lib.hid (G12.out.keep hb)
    have B13 := Lib.hid (below_on B12.out HBd.out.2 hb)
    clear hb G12 B12
    have hlen : (((ZL.take n).take 1048370) ++ lineL 1 Z.data.toList).length = 1048576 := by
      rw [List.length_append, List.length_take, HZT.out n (Nat.le_refl _), lineL_len, str_len, HZ.out.2]
      omega
    have HLEN := Lib.hid hlen
    have hlen2 : ((ZL.take n).take 1048370).length = 1048370 := by
      rw [List.length_take, HZT.out n (Nat.le_refl _)]; omega
    have AM := append_main (h := G13.out) (hs := by rw [HZ.out.2]; decide) (hbs := by rw [hlen2]; decide) (he := HE.out.keep (bchain BW1.out (B13.out.mono (by have := HBB.out; omega)))) (hl := by decide) (hr := HZ.out.1) (hf := by rw [hlen2, HZ.out.2]; decide) (hp := by decide) (hz := ⟨by decide, by decide⟩) (hrc := by decide)
    have HAM := Lib.hid AM
    clear hlen hlen2 AM
    go_wp2_with fail
    refine HAM.out.mono ?_
    rintro e w14 ⟨_, h2⟩
    obtain ⟨rfl, dv', rv', bv', hap⟩ := h2 (by rw [wr_all])
    obtain ⟨A5, c5, rfl⟩ : ∃ A c, dv' = .slice A 1048576 c := by
      obtain ⟨A, c, h⟩ := hap.lg.bytes.bv.len
      rw [HLEN.out] at h
      exact ⟨A, c, h⟩
    have B14 := Lib.hid (bchain BR.out ((Below.trans B13.out (G13.out.below hap.fr)).mono (by have := HBB.out; omega)))
    have c0 := hap.lg.disk.cell (j := 0) (v := .slice A5 1048576 c5) rfl
    clear hap h2 HAM G13 B13
    go_wp2_with fail
    go_roundw
    case rel => exact ⟨k + 1, by omega, by go_num, B14⟩
    case measure => simp [intOf]; omega
end Go.Proofs.YtbompgfjlllioaaDoor
namespace Go.Proofs.YtbompgfjlllioaaDoor
open Go Go.RowKit

set_option maxRecDepth 100000 in
set_option maxHeartbeats 4000000 in
theorem none_any (w : World) : Calls Tryd.prog 31 #[] w (fun e w' => e = .returned (.bool true) ∧ Below w.heap.size w w') := by
  go_enter Tryd.func31, Tryd.ntmps31
  go_wp2_with fail
  refine (open_nil (w := w)).mono ?_
  rintro e w1 ⟨rfl, rfl⟩
  go_wp2_with fail
  refine (repair_nil (w := w)).mono ?_
  rintro e w1 ⟨rfl, rfl⟩
  go_upto_block 0 with fail
  have HL := Blk.new w 69 #[.pointer none, .slice none 0 0, .int .i64 0, .int .i64 0, .bool false, .slice none 0 0]
  have HS := Blk.new (w.alloc (.cells #[.pointer none, .slice none 0 0, .int .i64 0, .int .i64 0, .bool false, .slice none 0 0] 69)) 29 #[.pointer none, .pointer (some ⟨w.heap.size, 0, none⟩)]
  have HL2 := HL.alloc (.cells #[.pointer none, .pointer (some ⟨w.heap.size, 0, none⟩)] 29)
  have BW := Lib.hid ((below1 w (.cells #[.pointer none, .slice none 0 0, .int .i64 0, .int .i64 0, .bool false, .slice none 0 0] 69)).alloc (by simp) (.cells #[.pointer none, .pointer (some ⟨w.heap.size, 0, none⟩)] 29))
  have SB := Lib.hid HS
  have LB := Lib.hid HL2
  clear HL HS HL2
  rw [World.size_alloc] at SB
  generalize (w.alloc (.cells #[.pointer none, .slice none 0 0, .int .i64 0, .int .i64 0, .bool false, .slice none 0 0] 69)).alloc (.cells #[.pointer none, .pointer (some ⟨w.heap.size, 0, none⟩)] 29) = W2 at *
  generalize w.heap.size + 1 = sb at *
  have IN := Lib.hid (is_nil W2)
  have IE := Lib.hid (is_empty w.heap.size W2 (LB.out.cell (j := 0) rfl))
  have e0 := SB.out.cell (j := 0) (v := .pointer none) rfl
  have e1 := SB.out.cell (j := 1) (v := .pointer (some ⟨w.heap.size, 0, none⟩)) rfl
  clear LB
  go_wp2_with fail
  go_loopw [33] (fun s33 wr => ∃ k : Nat, k ≤ 2 ∧ s33 = .int .i64 (k : Int) ∧ wr = W2) (fun s33 _ => 2 - (intOf s33).toNat)
  case atStart => exact ⟨0, by omega, rfl, rfl⟩
  case round =>
    obtain ⟨k, hk, rfl, rfl⟩ := hrel
    rcases (by omega : k = 0 ∨ k = 1 ∨ k = 2) with h | h | h
    · have t1 : decide ((k : Int) < 2) = true := decide_eq_true (by omega)
      have AN := Lib.hid (append_no ⟨#[65]⟩ wr (.pointer none) IN.out)
      have RN := Lib.hid (records_no (.pointer none) wr IN.out)
      have LN := Lib.hid (last_no (.pointer none) wr IN.out)
      have SN := Lib.hid (size_no (.pointer none) wr IN.out)
      obtain rfl : k = 0 := h
      rw [show ((0 : Nat) : Int) = 0 from rfl] at t1 ⊢
      clear e1
      go_wp2_with fail
      refine AN.out.mono ?_
      rintro e w1 ⟨rfl, rfl⟩
      go_wp2_with fail
      refine RN.out.mono ?_
      rintro e w1 ⟨rfl, rfl⟩
      go_wp2_with fail
      refine LN.out.mono ?_
      rintro e w1 ⟨rfl, rfl⟩
      go_wp2_with fail
      refine SN.out.mono ?_
      rintro e w1 ⟨rfl, rfl⟩
      go_wp2_with fail
      go_roundw
      case rel => exact ⟨1, by omega, by go_num, trivial⟩
      case measure => simp [intOf]
    · have t1 : decide ((k : Int) < 2) = true := decide_eq_true (by omega)
      have AN := Lib.hid (append_no ⟨#[65]⟩ wr (.pointer (some ⟨w.heap.size, 0, none⟩)) IE.out)
      have RN := Lib.hid (records_no (.pointer (some ⟨w.heap.size, 0, none⟩)) wr IE.out)
      have LN := Lib.hid (last_no (.pointer (some ⟨w.heap.size, 0, none⟩)) wr IE.out)
      have SN := Lib.hid (size_no (.pointer (some ⟨w.heap.size, 0, none⟩)) wr IE.out)
      obtain rfl : k = 1 := h
      rw [show ((1 : Nat) : Int) = 1 from rfl] at t1 ⊢
      clear e0
      go_wp2_with fail
      refine AN.out.mono ?_
      rintro e w1 ⟨rfl, rfl⟩
      go_wp2_with fail
      refine RN.out.mono ?_
      rintro e w1 ⟨rfl, rfl⟩
      go_wp2_with fail
      refine LN.out.mono ?_
      rintro e w1 ⟨rfl, rfl⟩
      go_wp2_with fail
      refine SN.out.mono ?_
      rintro e w1 ⟨rfl, rfl⟩
      go_wp2_with fail
      go_roundw
      case rel => exact ⟨2, by omega, by go_num, trivial⟩
      case measure => simp [intOf]
    · obtain rfl : k = 2 := h
      rw [show ((2 : Nat) : Int) = 2 from rfl]
      clear e0 e1
      go_wp2_with fail
      go_ret
      exact ⟨rfl, BW.out⟩
end Go.Proofs.YtbompgfjlllioaaDoor
namespace Go.Proofs.YtbompgfjlllioaaDoor
open Go Go.RowKit

def stepC (l : List (UInt8 × ByteArray × Int)) : List Value := l.flatMap fun s => [.int .u8 (s.1.toNat : Int), .string s.2.1, .int .i64 s.2.2]
theorem stepC_at : ∀ (l : List (UInt8 × ByteArray × Int)) (i : Nat) (s : UInt8 × ByteArray × Int), l[i]? = some s → (stepC l)[i * 3]? = some (.int .u8 (s.1.toNat : Int)) ∧ (stepC l)[i * 3 + 1]? = some (.string s.2.1) ∧ (stepC l)[i * 3 + 2]? = some (.int .i64 s.2.2) := by
  intro l
  induction l with
  | nil => intro i s h; simp at h
  | cons a l ih =>
    intro i s h
    cases i with
    | zero =>
      obtain rfl : a = s := by simpa using h
      exact ⟨rfl, rfl, rfl⟩
    | succ i =>
      obtain ⟨h1, h2, h3⟩ := ih i s (by simpa using h)
      have e1 : (i + 1) * 3 = i * 3 + 3 := by omega
      rw [e1]
      refine ⟨?_, ?_, ?_⟩
      · exact h1
      · exact h2
      · exact h3
/-- A literal of steps. -/
theorem sv_lit (W : World) (t : TypeId) (cs : Array Value) (n b : Nat) (l : List (UInt8 × ByteArray × Int)) (hc : cs = (stepC l).toArray) (hn : l.length = n) (hb : W.heap.size = b) : SV (W.alloc (.cells cs t)) (.slice (some ⟨b, 0, none⟩) n n) l := by
  subst hc hn hb
  refine .some_ _ 0 _ l (by simp) (fun i s hi => ?_)
  obtain ⟨h1, h2, h3⟩ := stepC_at l i s hi
  have hb := Blk.new W t (stepC l).toArray
  rw [Nat.zero_add]
  exact ⟨hb.cell (by simpa using h1), hb.cell (by simpa using h2), hb.cell (by simpa using h3)⟩
/-- A literal of bytes. -/
theorem bs_lit (W : World) (t : TypeId) (cs : Array Value) (b : Nat) (l : List UInt8) (hc : cs = (l.map byteV).toArray) (hb : W.heap.size = b) : BS (W.alloc (.cells cs t)) b 0 l := by
  subst hc hb
  intro i c hi
  rw [Nat.zero_add]
  refine (Blk.new W t _).cell ?_
  simp [hi, byteV]
theorem conv_two (a b : UInt8) (wr : World) : (convert 26 9 (.slice (some ⟨wr.heap.size, 0, none⟩) 2 2)).run Tryd.prog (wr.alloc (.cells #[.int .u8 (a.toNat : Int), .int .u8 (b.toNat : Int)] 5)) =
    .ok (.string ⟨#[a, b]⟩) (wr.alloc (.cells #[.int .u8 (a.toNat : Int), .int .u8 (b.toNat : Int)] 5)) :=
  run_convert_bytes_back _ _ _ 5 _ 2 [a, b] (by kernel_rfl) (by kernel_rfl) (by kernel_rfl) (fun j hj => by
    have hj' : j < 2 := by simpa using hj
    match j, hj' with
    | 0, _ => simp [Addr.add]
    | 1, _ => simp [Addr.add])
theorem conv_one (a : UInt8) (wr : World) : (convert 26 9 (.slice (some ⟨wr.heap.size, 0, none⟩) 1 1)).run Tryd.prog (wr.alloc (.cells #[.int .u8 (a.toNat : Int)] 5)) =
    .ok (.string ⟨#[a]⟩) (wr.alloc (.cells #[.int .u8 (a.toNat : Int)] 5)) :=
  run_convert_bytes_back _ _ _ 5 _ 1 [a] (by kernel_rfl) (by kernel_rfl) (by kernel_rfl) (fun j hj => by
    obtain rfl : j = 0 := by simpa using hj
    simp [Addr.add])
/-- The bytes of the log of four records. -/
def fourL : List UInt8 := [48, 57, 49, 49, 32, 111, 110, 101, 10, 56, 50, 57, 53, 32, 10, 56, 56, 57, 56, 32, 115, 101, 99, 111, 110, 100, 32, 114, 101, 99, 111, 114, 100, 10, 53, 54, 57, 57, 32, 51, 10]
/-- The records, the checks before them, the length of the lines before them. -/
def recN : Nat → ByteArray
  | 0 => ⟨#[111, 110, 101]⟩
  | 1 => ⟨#[]⟩
  | 2 => ⟨#[115, 101, 99, 111, 110, 100, 32, 114, 101, 99, 111, 114, 100]⟩
  | _ => ⟨#[51]⟩
def chkN : Nat → Int
  | 0 => 1
  | 1 => 911
  | 2 => 8295
  | 3 => 8898
  | _ => 5699
def lenN : Nat → Nat
  | 0 => 0
  | 1 => 9
  | 2 => 15
  | 3 => 34
  | _ => 41
theorem four_step : ∀ k : Nat, k < 4 → lineP (chkN k) (recN k).data.toList = ((fourL.take (lenN (k + 1))).drop (lenN k), 0) ∧ checkP (chkN k) (recN k).data.toList = (chkN (k + 1), 0) ∧ (recN k).size ≤ 2000000 ∧ lenN k + ((fourL.take (lenN (k + 1))).drop (lenN k)).length = lenN (k + 1) ∧ 0 < ((fourL.take (lenN (k + 1))).drop (lenN k)).length ∧ fourL.take (lenN k) ++ (fourL.take (lenN (k + 1))).drop (lenN k) = fourL.take (lenN (k + 1)) ∧ lenN k ≤ 41 ∧ lenN (k + 1) ≤ 41 := by
  intro k hk
  match k, hk with
  | 0, _ => decide +kernel
  | 1, _ => decide +kernel
  | 2, _ => decide +kernel
  | 3, _ => decide +kernel
end Go.Proofs.YtbompgfjlllioaaDoor
namespace Go.Proofs.YtbompgfjlllioaaDoor
open Go Go.RowKit

theorem rep_size (s : ByteArray) (n : Nat) : (⟨(Lib.repeatL s.data.toList n).toArray⟩ : ByteArray).size = n * s.size := by
  rw [← str_len]
  show (Lib.repeatL s.data.toList n).length = _
  rw [Lib.repeatL_length, str_len]
theorem u8_in {k : Nat} (h : k < 256) : IntKind.u8.wrap (k : Int) = (k : Int) := by
  show (k : Int) % 256 = k
  omega
theorem three_ok (Y : ByteArray) (h : Y.size ≤ 2000000) : ∀ s ∈ [((4 : UInt8), (⟨#[]⟩ : ByteArray), (0 : Int)), (0, Y, 0), (4, ⟨#[]⟩, 0)], s.2.1.size ≤ 2000000 ∧ -9223372036854775808 ≤ s.2.2 ∧ s.2.2 ≤ 9223372036854775807 := by
  intro s hs
  simp only [List.mem_cons, List.not_mem_nil, or_false] at hs
  rcases hs with rfl | rfl | rfl
  · exact ⟨by decide, by decide, by decide⟩
  · exact ⟨h, by show (-9223372036854775808 : Int) ≤ 0; decide, by show (0 : Int) ≤ 9223372036854775807; decide⟩
  · exact ⟨by decide, by decide, by decide⟩
theorem byte_of (k : Nat) (h : k < 256) : ∃ c : UInt8, (c.toNat : Int) = (k : Int) := ⟨UInt8.ofNat k, by simp; omega⟩
set_option maxRecDepth 100000 in
set_option maxHeartbeats 16000000 in
theorem small_walk (w : World) (he : Env w) : Calls Tryd.prog 10 #[] w (fun e w' => e = .returned (.bool true) ∧ Below w.heap.size w w') := by
  have HE := Lib.hid he
  have SC := Lib.hid (fun (v : Value) (bs : List UInt8) (hs : bs.length ≤ 3000) (x : Int) (s : ByteArray) (hl : s.size ≤ 300) (wx : World) (hb : Below w.heap.size w wx) (hB : BV wx v bs) => scans_any v bs hs x s hl wx (he.keep hb) hB)
  have DO := Lib.hid (fun (v : Value) (bs0 : List UInt8) (hbs : bs0.length ≤ 100000) (p0 : Int) (hp0 : -9223372036854775808 ≤ p0) (hp1 : p0 ≤ 9223372036854775807) (sv : Value) (l : List (UInt8 × ByteArray × Int)) (hl : l.length ≤ 100) (hst : ∀ s ∈ l, s.2.1.size ≤ 2000000 ∧ -9223372036854775808 ≤ s.2.2 ∧ s.2.2 ≤ 9223372036854775807) (wx : World) (hb : Below w.heap.size w wx) (hB : BV wx v bs0) (hS : SV wx sv l) => does_any v bs0 hbs p0 hp0 hp1 sv l hl hst wx (he.keep hb) hB hS)
  have B0 := Lib.hid (Below.refl w.heap.size w)
  clear he
  go_enter Tryd.func10, Tryd.ntmps10
  go_upto_block 0 with fail
  go_cut [0] (fun s0 wx => s0 = .bool false ∧ Hid (Below w.heap.size w wx))
  case first =>
    go_wp2_with fail
    go_loopw [0, 15] (fun s0 s15 wr => ∃ k : Nat, k ≤ 256 ∧ s0 = .bool false ∧ s15 = .int .i64 k ∧ Hid (Below w.heap.size w wr)) (fun _ s15 _ => 256 - (intOf s15).toNat)
    case atStart => exact ⟨0, by omega, rfl, rfl, B0⟩
    case round =>
      obtain ⟨k, hk, rfl, rfl, BR⟩ := hrel
      clear B0
      by_cases hlt : k < 256
      · have t1 : decide ((k : Int) < 256) = true := decide_eq_true (by omega)
        obtain ⟨c, hc⟩ := byte_of k hlt
        have w1 : IntKind.u8.wrap (k : Int) = (c.toNat : Int) := by rw [hc]; exact u8_in hlt
        have w2 : IntKind.i64.wrap (40 * (k : Int)) = 40 * (k : Int) := by rw [IntKind.wrap_i64]; omega
        have HC := Lib.hid hc
        clear hc
        go_upto_region 4 with fail
        have cv := conv_two 65 c (wr.alloc (.cells #[.int .u8 (c.toNat : Int), .int .u8 10, .int .u8 (c.toNat : Int)] 5))
        rw [World.size_alloc] at cv
        change (convert _ _ _).run _ (World.alloc _ (.cells #[.int .u8 65, .int .u8 (c.toNat : Int)] _)) = .ok _ (World.alloc _ (.cells #[.int .u8 65, .int .u8 (c.toNat : Int)] _)) at cv
        go_wp2_with fail
        have BA := Lib.hid (bchain BR.out (bchain (below1 wr (.cells #[.int .u8 (c.toNat : Int), .int .u8 10, .int .u8 (c.toNat : Int)] 5)) (below1 _ (.cells #[.int .u8 65, .int .u8 (c.toNat : Int)] 5))))
        have BV1 := BV.some_ wr.heap.size 0 3 [c, 10, c] (by simp) ((bs_lit wr 5 #[.int .u8 (c.toNat : Int), .int .u8 10, .int .u8 (c.toNat : Int)] wr.heap.size [c, 10, c] rfl rfl).keep (below1 _ (.cells #[.int .u8 65, .int .u8 (c.toNat : Int)] 5)))
        refine (SC.out _ _ (by simp) _ _ (by show 2 ≤ 300; omega) _ BA.out BV1).mono ?_
        rintro e w5 ⟨rfl, hb⟩
        have B5 := Lib.hid (bchain BA.out hb)
        clear hb BA BV1 cv
        have cv := conv_one c w5
        go_wp2_with fail
        have BA := Lib.hid (bchain B5.out (bchain (below1 w5 (.cells #[.int .u8 (c.toNat : Int)] 5)) (below1 _ (.cells #[.int .u8 4, .string ⟨#[]⟩, .int .i64 0, .int .u8 0, .string ⟨#[c]⟩, .int .i64 0, .int .u8 4, .string ⟨#[]⟩, .int .i64 0] 54))))
        refine (DO.out _ [] (by decide) _ (by decide) (by decide) _ [(4, ⟨#[]⟩, 0), (0, ⟨#[c]⟩, 0), (4, ⟨#[]⟩, 0)] (by simp) (three_ok _ (by show 1 ≤ 2000000; omega)) _ BA.out .none_ (sv_lit _ _ _ _ _ _ rfl rfl (by simp))).mono ?_
        rintro e w6 ⟨rfl, hb⟩
        have B6 := Lib.hid (bchain BA.out hb)
        clear hb BA cv
        go_wp2_with fail
        go_roundw
        case rel => exact ⟨k + 1, by omega, rfl, by go_num, B6⟩
        case measure => simp [intOf]; omega
      · obtain rfl : k = 256 := by omega
        go_wp2_with fail
        go_meet
        exact ⟨rfl, BR⟩
  case rest =>
  obtain ⟨rfl, B1⟩ := hcut
  clear B0
  go_upto_block 2 with fail
  go_cut [0] (fun s0 wx => s0 = .bool false ∧ Hid (Below w.heap.size w wx))
  case first =>
    go_wp2_with fail
    go_loopw [0, 2] (fun s0 s2 wr => ∃ N : Nat, 198 ≤ N ∧ N ≤ 203 ∧ s0 = .bool false ∧ s2 = .int .i64 (N : Int) ∧ Hid (Below w.heap.size w wr)) (fun _ s2 _ => 203 - (intOf s2).toNat)
    case atStart => exact ⟨198, by omega, by omega, rfl, rfl, B1⟩
    case round =>
      obtain ⟨N, hN0, hN1, rfl, rfl, BR⟩ := hrel
      clear B1
      by_cases hlt : N < 203
      · have t1 : decide ((N : Int) < 203) = true := decide_eq_true (by omega)
        obtain ⟨X, hX⟩ : ∃ X : ByteArray, (⟨(Lib.repeatL (⟨#[120]⟩ : ByteArray).data.toList N).toArray⟩ : ByteArray) = X := ⟨_, rfl⟩
        obtain ⟨Y, hY⟩ : ∃ Y : ByteArray, (⟨(Lib.repeatL (⟨#[126]⟩ : ByteArray).data.toList N).toArray⟩ : ByteArray) = Y := ⟨_, rfl⟩
        have RX := Lib.hid (fun W => Tryd.strings_Repeat_main ⟨#[120]⟩ N W (by omega) (by omega) (by show 1 * N ≤ _; omega) (by decide))
        have RY := Lib.hid (fun W => Tryd.strings_Repeat_main ⟨#[126]⟩ N W (by omega) (by omega) (by show 1 * N ≤ _; omega) (by decide))
        rw [hX] at RX
        rw [hY] at RY
        have HX : Hid (X.size = N) := Lib.hid (by rw [← hX, rep_size]; show N * 1 = N; omega)
        have HY : Hid (Y.size = N) := Lib.hid (by rw [← hY, rep_size]; show N * 1 = N; omega)
        clear hX hY
        go_wp2_with fail
        refine (RX.out _).mono ?_
        rintro e w1 ⟨rfl, hb⟩
        have BA := Lib.hid (bchain BR.out hb)
        clear hb
        go_wp2_with fail
        refine (SC.out _ [] (by decide) _ _ (by rw [HX.out]; omega) _ BA.out .none_).mono ?_
        rintro e w2 ⟨rfl, hb⟩
        have BB := Lib.hid (bchain BA.out hb)
        clear hb BA
        go_wp2_with fail
        refine (RY.out _).mono ?_
        rintro e w3 ⟨rfl, hb⟩
        have BD := Lib.hid (bchain BB.out hb)
        clear hb BB
        go_wp2_with fail
        refine (DO.out _ [] (by decide) _ (by decide) (by decide) _ [(4, ⟨#[]⟩, 0), (0, Y, 0), (4, ⟨#[]⟩, 0)] (by simp) (three_ok _ (by rw [HY.out]; omega)) _ (bchain BD.out (below1 _ _)) .none_ (sv_lit _ _ _ _ _ _ rfl rfl rfl)).mono ?_
        rintro e w4 ⟨rfl, hb⟩
        have B6 := Lib.hid (bchain BD.out (bchain (below1 _ _) hb))
        clear hb BD
        go_wp2_with fail
        go_roundw
        case rel => exact ⟨N + 1, by omega, by omega, rfl, by go_num, B6⟩
        case measure => simp [intOf]; omega
      · obtain rfl : N = 203 := by omega
        rw [show ((203 : Nat) : Int) = 203 from rfl]
        go_wp2_with fail
        go_meet
        exact ⟨rfl, BR⟩
  case rest =>
  obtain ⟨rfl, B2⟩ := hcut
  clear B1
  go_upto_block 4 with fail
  go_cut [0] (fun s0 wx => s0 = .bool false ∧ Hid (Below w.heap.size w wx))
  case first =>
    have HB := Blk.new wc 3 #[.int .i64 (-1), .int .i64 0, .int .i64 1, .int .i64 9972, .int .i64 9973, .int .i64 4611686018427387904, .int .i64 (-9223372036854775808)]
    have BA := Lib.hid (bchain B2.out (below1 wc (.cells #[.int .i64 (-1), .int .i64 0, .int .i64 1, .int .i64 9972, .int .i64 9973, .int .i64 4611686018427387904, .int .i64 (-9223372036854775808)] 3)))
    have HBl := Lib.hid HB
    clear HB B2
    generalize wc.alloc (.cells #[.int .i64 (-1), .int .i64 0, .int .i64 1, .int .i64 9972, .int .i64 9973, .int .i64 4611686018427387904, .int .i64 (-9223372036854775808)] 3) = wd at *
    generalize wc.heap.size = ib at *
    go_wp2_with fail
    go_loopw [0, 64] (fun s0 s64 wr => ∃ k : Nat, k ≤ 7 ∧ s0 = .bool false ∧ s64 = .int .i64 (k : Int) ∧ Hid (Below wd.heap.size wd wr)) (fun _ s64 _ => 7 - (intOf s64).toNat)
    case atStart => exact ⟨0, by omega, rfl, rfl, Lib.hid (Below.refl _ _)⟩
    case round =>
      obtain ⟨k, hk, rfl, rfl, BR⟩ := hrel
      by_cases hlt : k < 7
      · have t1 : decide ((k : Int) < 7) = true := decide_eq_true (by omega)
        obtain ⟨n, e0⟩ : ∃ n : Int, wr.cell? ⟨ib, k, none⟩ = some (.int .i64 n) := by
          have hb := HBl.out.keep BR.out HBl.out.lt
          match k, hlt with
          | 0, _ => exact ⟨_, hb.cell (j := 0) rfl⟩
          | 1, _ => exact ⟨_, hb.cell (j := 1) rfl⟩
          | 2, _ => exact ⟨_, hb.cell (j := 2) rfl⟩
          | 3, _ => exact ⟨_, hb.cell (j := 3) rfl⟩
          | 4, _ => exact ⟨_, hb.cell (j := 4) rfl⟩
          | 5, _ => exact ⟨_, hb.cell (j := 5) rfl⟩
          | 6, _ => exact ⟨_, hb.cell (j := 6) rfl⟩
        go_wp2_with fail
        refine (SC.out _ [] (by decide) _ _ (by decide) _ (bchain BA.out BR.out) .none_).mono ?_
        rintro e w2 ⟨rfl, hb⟩
        have BB := Lib.hid (bchain BR.out hb)
        clear hb e0
        go_wp2_with fail
        go_roundw
        case rel => exact ⟨k + 1, by omega, rfl, by go_num, BB⟩
        case measure => simp [intOf]; omega
      · obtain rfl : k = 7 := by omega
        rw [show ((7 : Nat) : Int) = 7 from rfl]
        go_wp2_with fail
        go_meet
        exact ⟨rfl, Lib.hid (bchain BA.out BR.out)⟩
  case rest =>
  obtain ⟨rfl, B3⟩ := hcut
  clear B2
  go_upto_block 6 with fail
  go_cut [0, 5] (fun s0 s5 wx => s0 = .bool false ∧ ∃ g c, s5 = .slice (some ⟨g, 0, none⟩) 41 c ∧ Hid (BS wx g 0 fourL) ∧ Hid (41 ≤ c) ∧ Hid (Below w.heap.size w wx))
  case first =>
    have HB := Blk.new wc 9 #[.string ⟨#[111, 110, 101]⟩, .string ⟨#[]⟩, .string ⟨#[115, 101, 99, 111, 110, 100, 32, 114, 101, 99, 111, 114, 100]⟩, .string ⟨#[51]⟩]
    have BA := Lib.hid (bchain B3.out (below1 wc (.cells #[.string ⟨#[111, 110, 101]⟩, .string ⟨#[]⟩, .string ⟨#[115, 101, 99, 111, 110, 100, 32, 114, 101, 99, 111, 114, 100]⟩, .string ⟨#[51]⟩] 9)))
    have HBl := Lib.hid HB
    clear HB B3
    generalize wc.alloc (.cells #[.string ⟨#[111, 110, 101]⟩, .string ⟨#[]⟩, .string ⟨#[115, 101, 99, 111, 110, 100, 32, 114, 101, 99, 111, 114, 100]⟩, .string ⟨#[51]⟩] 9) = wd at *
    generalize wc.heap.size = ib at *
    go_wp2_with fail
    go_loopw [5, 6, 74] (fun s5 s6 s74 wr => ∃ k : Nat, k ≤ 4 ∧ Hid (wr.ownsRow wd.heap.size 5 1 s5 (lenN k) ((fourL.take (lenN k)).map byteV)) ∧ s6 = .int .i64 (chkN k) ∧ s74 = .int .i64 (k : Int) ∧ Hid (Below wd.heap.size wd wr)) (fun _ _ s74 _ => 4 - (intOf s74).toNat)
    case atStart => exact ⟨0, by omega, Lib.hid (World.ownsRow_nil _ _ _ _), rfl, rfl, Lib.hid (Below.refl _ _)⟩
    case round =>
      obtain ⟨k, hk, HO, rfl, rfl, BR⟩ := hrel
      obtain ⟨wo, rfl⟩ : ∃ wo : World, wo = wr := ⟨_, rfl⟩
      obtain ⟨A, c, rfl⟩ := own_slice HO.out
      by_cases hlt : k < 4
      · have t1 : decide ((k : Int) < 4) = true := decide_eq_true (by omega)
        obtain ⟨f1, f2, f3, f4, f5, f6, f7, f8⟩ := four_step k hlt
        have e0 : wo.cell? ⟨ib, k, none⟩ = some (.string (recN k)) := by
          have hb := HBl.out.keep BR.out HBl.out.lt
          match k, hlt with
          | 0, _ => exact hb.cell (j := 0) rfl
          | 1, _ => exact hb.cell (j := 1) rfl
          | 2, _ => exact hb.cell (j := 2) rfl
          | 3, _ => exact hb.cell (j := 3) rfl
        have RL := Lib.hid (rline_any (chkN k) (recN k) f3 wo)
        have RC := Lib.hid (fun W => rcheck_any (chkN k) (recN k) f3 W)
        rw [f1] at RL
        rw [f2] at RC
        obtain ⟨S, hS⟩ : ∃ S : ByteArray, S = ⟨((fourL.take (lenN (k + 1))).drop (lenN k)).toArray⟩ := ⟨_, rfl⟩
        have HS : Hid (S.data.toList = (fourL.take (lenN (k + 1))).drop (lenN k)) := Lib.hid (by rw [hS])
        rw [← hS] at RL
        have hs0 : 0 < S.size := by rw [← str_len, HS.out]; exact f5
        have hs1 : lenN k + S.size = lenN (k + 1) := by rw [← str_len, HS.out]; exact f4
        have HS1 := Lib.hid hs1
        have F6 := Lib.hid f6
        clear hS f1 f2 f3 f4 f5 f6
        generalize recN k = T at *
        go_wp2_with fail
        refine RL.out.mono ?_
        rintro e w1 ⟨rfl, hb⟩
        have HO1 := Lib.hid (own_keep HO.out hb)
        have B1 := Lib.hid (Below.trans BR.out (hb.mono BR.out.size))
        clear hb HO RL
        go_wp2_with fail
        refine (RC.out _).mono ?_
        rintro e w2 ⟨rfl, rfl⟩
        clear RC e0
        have q1 : lenN k + S.size ≤ maxLen := by rw [hs1]; simp only [maxLen]; omega
        have q2 : lenN k + S.size ≤ 140737488355328 := by rw [hs1]; omega
        go_upto_region 26 with (at_builtin; refine wpList_str rfl (.tmp 90) (.tmp 91) rfl _ wd.heap.size (.slice A (lenN k) c) (lenN k) _ rfl HO1.out S rfl hs0 q1 q2 B1.out.size ?_; intro v' w4 hown' hgrow hwh)
        have HO4 : Hid (w4.ownsRow wd.heap.size 5 1 v' (lenN (k + 1)) ((fourL.take (lenN (k + 1))).map byteV)) := Lib.hid (by
          rw [HS1.out, strCells_eq, HS.out, ← List.map_append, F6.out] at hown'
          exact hown')
        have B4 := Lib.hid (B1.out.grown hgrow B1.out.size (fun x hx => own_ge HO1.out x hx))
        clear hown' hgrow hwh HO1 hs0 hs1 q1 q2
        go_wp2_with fail
        go_roundw
        case rel => exact ⟨k + 1, by omega, HO4, rfl, by go_num, B4⟩
        case measure => simp [intOf]; omega
      · obtain rfl : k = 4 := by omega
        rw [show ((4 : Nat) : Int) = 4 from rfl]
        have hO := HO.out
        change wo.ownsRow wd.heap.size 5 1 (.slice A 41 c) 41 (fourL.map byteV) at hO
        change Code.wp _ _ _ _ _ at *
        obtain ⟨g, c', hv, _, _⟩ := own_some hO (by decide)
        injection hv with e1 e2 e3
        subst e1 e3
        obtain ⟨b1, _, _, b4, _⟩ := bs_of_own hO
        have R1 : Hid (BS wo g 0 fourL) := Lib.hid b1
        have R2 : Hid (41 ≤ c) := Lib.hid b4
        have R3 : Hid (Below w.heap.size w wo) := Lib.hid (bchain BA.out BR.out)
        clear b1 b4 hO HO
        rw [show lenN 4 = 41 from rfl]
        go_wp2_with fail
        go_meet
        exact ⟨rfl, g, c, rfl, R1, R2, R3⟩
  case rest =>
  obtain ⟨rfl, bg, bc, rfl, BSq, CQ, B4⟩ := hcut
  clear B3
  have c41 := CQ.out
  go_upto_block 8 with fail
  go_cut [0] (fun s0 wx => s0 = .bool false ∧ Hid (Below w.heap.size w wx))
  case first =>
    obtain ⟨wq, rfl⟩ : ∃ wq : World, wq = wc := ⟨_, rfl⟩
    go_wp2_with fail
    go_loopw [0, 11] (fun s0 s11 wr => ∃ i : Nat, i ≤ 42 ∧ s0 = .bool false ∧ s11 = .int .i64 (i : Int) ∧ Hid (Below wq.heap.size wq wr)) (fun _ s11 _ => 42 - (intOf s11).toNat)
    case atStart => exact ⟨0, by omega, rfl, rfl, Lib.hid (Below.refl _ _)⟩
    case round =>
      obtain ⟨i, hi, rfl, rfl, BR⟩ := hrel
      obtain ⟨wo, rfl⟩ : ∃ wo : World, wo = wr := ⟨_, rfl⟩
      by_cases hlt : i < 42
      case neg =>
        obtain rfl : i = 42 := by omega
        rw [show ((42 : Nat) : Int) = 42 from rfl]
        go_wp2_with fail
        go_meet
        exact ⟨rfl, Lib.hid (bchain B4.out BR.out)⟩
      have t1 : decide ((i : Int) ≤ 41) = true := decide_eq_true (by omega)
      go_upto_block 10 with fail
      have HB := Blk.new wo 5 #[.int .u8 0, .int .u8 10, .int .u8 32, .int .u8 48, .int .u8 57, .int .u8 65, .int .u8 127, .int .u8 255]
      have BA := Lib.hid (bchain BR.out (below1 wo (.cells #[.int .u8 0, .int .u8 10, .int .u8 32, .int .u8 48, .int .u8 57, .int .u8 65, .int .u8 127, .int .u8 255] 5)))
      have HBl := Lib.hid HB
      clear HB BR t1
      generalize wo.alloc (.cells #[.int .u8 0, .int .u8 10, .int .u8 32, .int .u8 48, .int .u8 57, .int .u8 65, .int .u8 127, .int .u8 255] 5) = wa at *
      generalize wo.heap.size = cb at *
      go_cut [0] (fun s0 wx => s0 = .bool false ∧ Hid (Below wa.heap.size wa wx))
      case first =>
        go_wp2_with fail
        go_loopw [0, 102] (fun s0 s102 wr => ∃ k : Nat, k ≤ 8 ∧ s0 = .bool false ∧ s102 = .int .i64 (k : Int) ∧ Hid (Below wa.heap.size wa wr)) (fun _ s102 _ => 8 - (intOf s102).toNat)
        case atStart => exact ⟨0, by omega, rfl, rfl, Lib.hid (Below.refl _ _)⟩
        case round =>
          obtain ⟨k, hk, rfl, rfl, BR⟩ := hrel
          obtain ⟨wp, rfl⟩ : ∃ wp : World, wp = wr := ⟨_, rfl⟩
          by_cases hkl : k < 8
          case neg =>
            obtain rfl : k = 8 := by omega
            rw [show ((8 : Nat) : Int) = 8 from rfl]
            go_wp2_with fail
            go_meet
            exact ⟨rfl, BR⟩
          have t1 : decide ((k : Int) < 8) = true := decide_eq_true (by omega)
          obtain ⟨c, e0⟩ : ∃ c : UInt8, wp.cell? ⟨cb, k, none⟩ = some (.int .u8 (c.toNat : Int)) := by
            have hb := HBl.out.keep BR.out HBl.out.lt
            match k, hkl with
            | 0, _ => exact ⟨0, hb.cell (j := 0) rfl⟩
            | 1, _ => exact ⟨10, hb.cell (j := 1) rfl⟩
            | 2, _ => exact ⟨32, hb.cell (j := 2) rfl⟩
            | 3, _ => exact ⟨48, hb.cell (j := 3) rfl⟩
            | 4, _ => exact ⟨57, hb.cell (j := 4) rfl⟩
            | 5, _ => exact ⟨65, hb.cell (j := 5) rfl⟩
            | 6, _ => exact ⟨127, hb.cell (j := 6) rfl⟩
            | 7, _ => exact ⟨255, hb.cell (j := 7) rfl⟩
          have BSp : Hid (BS wp bg 0 fourL) := Lib.hid (BSq.out.keep (bchain BA.out BR.out))
          have BVp : Hid (∀ wx, Below wp.heap.size wp wx → BV wx (.slice (some ⟨bg, 0, none⟩) 41 bc) fourL) := Lib.hid (fun wx hb => BV.some_ bg 0 bc fourL (show 41 ≤ bc from CQ.out) (BSp.out.keep hb))
          go_upto_if 112 with (at_builtin; refine wp_bv_own rfl (.tmp 106) (.tmp 107) rfl _ wp.heap.size _ 0 [] rfl (own_empty wp 5) (some ⟨bg, 0, none⟩) 41 bc fourL (by decide) rfl (BVp.out _ (below1 wp (.cells #[] 5))) (by omega) (by simp) ?_; intro v1 w1 ho1 _ hb1; rw [Nat.zero_add, List.nil_append] at ho1; obtain ⟨g1, c1, rfl, hg1, hc1⟩ := own_some ho1 (by decide))
          have DV1 := Lib.hid (dv_of_own ho1)
          have B1 := Lib.hid (Below.trans (below1 wp (.cells #[] 5)) hb1)
          have HG1 := Lib.hid hg1
          obtain ⟨q1, _, ⟨cur, q3⟩, _, _⟩ := bs_of_own ho1
          have Q1 := Lib.hid q1
          have Q3 := Lib.hid q3
          clear ho1 hb1 hg1 hc1 e0 q1 q3
          go_cut [14] (fun s14 wx => s14 = .slice (some ⟨g1, 0, none⟩) 41 c1 ∧ ∃ L : List UInt8, Hid (L.length = 41) ∧ Hid (BV wx (.slice (some ⟨g1, 0, none⟩) 41 c1) L) ∧ Hid (Below wp.heap.size wp wx))
          case first =>
            by_cases h41 : i < 41
            · have t2 : decide ((i : Int) < 41) = true := decide_eq_true (by omega)
              have i1 : (0 : Int) ≤ (i : Int) := by omega
              have i2 : (i : Int) < 41 := by omega
              obtain ⟨d, hd⟩ : ∃ d, fourL[i]? = some d := ⟨_, List.getElem?_eq_getElem (show i < 41 from h41)⟩
              have y := Q1.out i d hd
              rw [Nat.zero_add] at y
              have yf := (show Blk w1 g1 5 cur from Q3.out).free i
              have R1 := Lib.hid (DV1.out.set i c).bv
              have R2 := Lib.hid (B1.out.setCell (p := ⟨g1, i, none⟩) HG1.out (.int .u8 (c.toNat : Int)))
              clear hd
              go_wp2_with fail
              go_meet
              exact ⟨rfl, fourL.set i c, Lib.hid (by simp; rfl), R1, R2⟩
            · have t2 : decide ((i : Int) < 41) = false := decide_eq_false (by omega)
              have t3 : decide (i < 41) = false := decide_eq_false (by omega)
              go_wp2_with fail
              go_meet
              exact ⟨rfl, fourL, Lib.hid rfl, Lib.hid DV1.out.bv, B1⟩
          case rest =>
          obtain ⟨rfl, L, HL, BVL, B2⟩ := hcut
          clear DV1 B1 Q1 Q3
          have BW2 := Lib.hid (bchain B4.out (bchain BA.out (bchain BR.out B2.out)))
          go_wp2_with fail
          refine (SC.out _ L (by rw [HL.out]; decide) _ ⟨#[]⟩ (by decide) _ BW2.out BVL.out).mono ?_
          rintro e w3 ⟨rfl, hb⟩
          have B3 := Lib.hid (bchain B2.out hb)
          have BVL3 := Lib.hid (BVL.out.keep hb)
          have i1 : (0 : Int) ≤ (i : Int) := by omega
          have i2 : (i : Int) ≤ (bc : Int) := by omega
          have i3 : i ≤ bc := by omega
          clear hb BVL B2 BW2
          go_wp2_with fail
          have hti : (fourL.take i).length = i := by rw [List.length_take]; show min i 41 = i; omega
          have BVt : BV w3 (.slice (some ⟨bg, 0, none⟩) i bc) (fourL.take i) := by
            have := BV.some_ bg 0 bc (fourL.take i) (by rw [hti]; exact i3) ((BSp.out.keep B3.out).take i)
            rw [hti] at this
            exact this
          refine (SC.out _ (fourL.take i) (by rw [hti]; omega) _ ⟨#[]⟩ (by decide) _ (bchain B4.out (bchain BA.out (bchain BR.out B3.out))) BVt).mono ?_
          rintro e w4 ⟨rfl, hb⟩
          have B5 := Lib.hid (bchain B3.out hb)
          have BVL5 := Lib.hid (BVL3.out.keep hb)
          obtain ⟨r, hr, hr3⟩ : ∃ r : Nat, (c.toNat : Int) % 3 = (r : Int) ∧ r < 3 := ⟨c.toNat % 3, by omega, by omega⟩
          have hr2 : (c.toNat : Int).tmod 3 = (r : Int) := by rw [Int.tmod_eq_emod_of_nonneg (by omega)]; exact hr
          have m1 : IntKind.i64.wrap (c.toNat : Int) = (c.toNat : Int) := by
            have := UInt8.toNat_lt c
            rw [IntKind.wrap_i64]; omega
          have m2 : IntKind.i64.wrap ((r : Int) - 1) = (r : Int) - 1 := by rw [IntKind.wrap_i64]; omega
          clear hb BVt hti BVL3 B3 i1 i2 i3
          go_wp2_with fail
          have B6 := Lib.hid (bchain B5.out (below1 w4 (.cells #[.int .u8 4, .string ⟨#[]⟩, .int .i64 0, .int .u8 0, .string ⟨#[65]⟩, .int .i64 0, .int .u8 5, .string ⟨#[]⟩, .int .i64 0, .int .u8 4, .string ⟨#[]⟩, .int .i64 0, .int .u8 0, .string ⟨#[66]⟩, .int .i64 0] 54)))
          refine (DO.out _ L (by rw [HL.out]; decide) _ (by omega) (by omega) _ [(4, ⟨#[]⟩, 0), (0, ⟨#[65]⟩, 0), (5, ⟨#[]⟩, 0), (4, ⟨#[]⟩, 0), (0, ⟨#[66]⟩, 0)] (by decide) (by decide) _ (bchain B4.out (bchain BA.out (bchain BR.out B6.out))) (BVL5.out.keep (below1 _ _)) (sv_lit _ _ _ _ _ _ rfl rfl rfl)).mono ?_
          rintro e w5 ⟨rfl, hb⟩
          have B7 := Lib.hid (bchain BR.out (bchain B6.out hb))
          clear hb B6 BVL5 hr hr2 hr3 m1 m2
          go_wp2_with fail
          go_roundw
          case rel => exact ⟨k + 1, by omega, rfl, by go_num, B7⟩
          case measure => simp [intOf]; omega
      case rest =>
      obtain ⟨rfl, B5⟩ := hcut
      clear HBl
      go_wp2_with fail
      have BX := Lib.hid (bchain BA.out B5.out)
      refine (DO.out _ [] (by decide) _ (by omega) (by omega) _ [(4, ⟨#[]⟩, 0), (0, ⟨#[111, 110, 101]⟩, 0), (0, ⟨#[]⟩, 0), (0, ⟨#[115, 101, 99, 111, 110, 100, 32, 114, 101, 99, 111, 114, 100]⟩, 0), (0, ⟨#[51]⟩, 0), (6, ⟨#[]⟩, 1), (4, ⟨#[]⟩, 0), (0, ⟨#[120]⟩, 0), (6, ⟨#[]⟩, -1), (4, ⟨#[]⟩, 0), (0, ⟨#[121]⟩, 0)] (by decide) (by decide) _ (bchain B4.out (bchain BX.out (below1 _ _))) .none_ (sv_lit _ _ _ _ _ _ rfl rfl rfl)).mono ?_
      rintro e w6 ⟨rfl, hb⟩
      have B7 := Lib.hid (bchain BX.out (bchain (below1 _ _) hb))
      clear hb BX
      go_wp2_with fail
      go_roundw
      case rel => exact ⟨i + 1, by omega, rfl, by go_num, B7⟩
      case measure => simp [intOf]; omega
  case rest =>
  obtain ⟨rfl, B5⟩ := hcut
  clear B4 BSq CQ c41 SC DO
  go_wp2_with fail
  refine (full_any _ (HE.out.keep B5.out)).mono ?_
  rintro e w1 ⟨rfl, hb⟩
  have B6 := Lib.hid (bchain B5.out hb)
  clear hb B5
  go_wp2_with fail
  refine (none_any _).mono ?_
  rintro e w2 ⟨rfl, hb⟩
  have B7 := Lib.hid (bchain B6.out hb)
  clear hb B6
  go_wp2_with fail
  refine (awake_any _ (HE.out.keep B7.out)).mono ?_
  rintro e w3 ⟨rfl, hb⟩
  have B8 := Lib.hid (bchain B7.out hb)
  clear hb B7
  go_wp2_with fail
  go_ret
  exact ⟨rfl, B8.out⟩
end Go.Proofs.YtbompgfjlllioaaDoor
