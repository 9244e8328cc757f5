/- JournalWrong: the walk. -/
import Derived.Test.YtbompgfjlllioaaDoorJNone
import Derived.Test.YtbompgfjlllioaaDoorJOneW
import Derived.Test.YtbompgfjlllioaaDoorJKeepsW
import Derived.OpenShut
import Derived.Test.YtbompgfjlllioaaDoorShelf
namespace Go.Proofs.YtbompgfjlllioaaDoor
open Go Go.RowKit

theorem check_fail (x : Int) (s : ByteArray) (e0 : Int) (hs : s.size ≤ 2000000) (hf : failP x s.data.toList = e0) (h0 : e0 ≠ 0) (w : World) : Calls Tryd.prog 22 #[.int .i64 x, .string s] w (fun e w' => e = .returned (.tuple #[.int .i64 0, .int .i64 e0]) ∧ w = w') := by
  have h := check_any x s hs w
  rwa [show checkP x s.data.toList = (0, e0) by unfold checkP; rw [hf, if_neg h0]] at h
theorem line_fail (x : Int) (s : ByteArray) (e0 : Int) (hs : s.size ≤ 2000000) (hf : failP x s.data.toList = e0) (h0 : e0 ≠ 0) (w : World) (he : Env w) : Calls Tryd.prog 23 #[.int .i64 x, .string s] w (fun e w' => e = .returned (.tuple #[.string ⟨#[]⟩, .int .i64 e0]) ∧ Below w.heap.size w w') := by
  have h := line_any x s hs w he
  rwa [show lineP x s.data.toList = ([], e0) by unfold lineP; rw [hf, if_neg h0]] at h
def recB : ByteArray := ⟨#[97, 32, 114, 101, 99, 111, 114, 100]⟩
theorem bad_ins (n : Nat) (c : UInt8) (hc : okB c = false) (hn : n ≤ 8) : rightL (recB.extract 0 n ++ ⟨#[c]⟩ ++ recB.extract n 8).data.toList = false ∧ (recB.extract 0 n ++ ⟨#[c]⟩ ++ recB.extract n 8).size ≤ 1000 := by
  constructor
  · unfold rightL
    rw [Bool.and_eq_false_iff]
    right
    rw [List.all_eq_false]
    exact ⟨c, by simp [ByteArray.data_append], by simp [hc]⟩
  · simp only [ByteArray.size_append, ByteArray.size_extract]
    have : recB.size = 8 := rfl
    have h1 : (⟨#[c]⟩ : ByteArray).size = 1 := rfl
    omega
/-- A row of bytes when the log has written elsewhere. -/
theorem row8_kept {w : World} {B lp dp : Nat} {bs : List UInt8} {pow : Int} {recs : List (List UInt8)} {last size : Int} {closed : Bool} {dv rv : Value} (h : LG w B lp dp bs pow recs last size closed dv rv (.slice none 0 0)) {v : Value} {n : Nat} {xs : List Value} {B' : Nat} (k : w.ownsRow B' 5 1 v n xs) {w' : World} (hf : Fr (OL lp dp rv (.slice none 0 0)) w w') : w'.ownsRow B' 5 1 v n xs := by
  refine own_fr k hf fun x hx hm => ?_
  rcases k.2 with ⟨rfl, _⟩ | ⟨g, cap, cur, rfl, _, hg, _⟩
  · simp [Value.ownBlock] at hx
  · obtain rfl : g = x := by simpa [Value.ownBlock] using hx
    simp only [OL, List.mem_cons, List.mem_append] at hm
    rcases hm with rfl | rfl | hm | hm
    · have := (show w.heap[g]? = _ from h.log).symm.trans hg; simp at this
    · have := (show w.heap[g]? = _ from h.disk).symm.trans hg; simp at this
    · exact row_ne h.rows hg (by decide) hm
    · simp [Value.ownBlock] at hm
theorem belowx {w w2 w7 w8 : World} (h2 : Below w.heap.size w w2) (h7 : Below w2.heap.size w2 w7) (h8 : Below w7.heap.size w7 w8) : Below w.heap.size w w8 := bchain (bchain h2 h7) h8
set_option maxRecDepth 100000 in
set_option maxHeartbeats 8000000 in
theorem wrong_any (A : Option Addr) (cap : Nat) (l0 : List (List UInt8)) (hcap : l0.length ≤ cap) (nn : Int) (hnn0 : -9223372036854775808 ≤ nn) (hnn1 : nn ≤ 9223372036854775807) (a : Nat) (ha : a < 256) (w : World) (he : Env w) (hB : RS w (.slice A l0.length cap) l0) :
    Calls Tryd.prog 11 #[.slice A l0.length cap, .int .i64 nn, .int .u8 (a : Int)] w (fun e w' => e = .returned (.bool true) ∧ Below w.heap.size w w') := by
  have TX := Lib.hid (texts_any A cap l0 hcap w hB)
  have HL2 := Lib.hid (textsL_len l0)
  have HLR := Lib.hid (textsL_right l0)
  have AW := Lib.hid (fun W he => awake_any W he)
  have HE := Lib.hid he
  generalize textsL l0 = L at *
  generalize l0.length = n0 at *
  clear he hB hcap
  go_enter Tryd.func11, Tryd.ntmps11
  go_wp2_with fail
  refine TX.out.mono ?_
  rintro e w1 ⟨v, rfl, hown, hb⟩
  obtain ⟨A1, c1, rfl⟩ := own_slice hown
  have B1 := Lib.hid hb
  have hc1 := own_cap hown
  have R1 := Lib.hid (rs_of_own hown)
  have WR := Lib.hid (written_any A1 c1 L (by have := HL2.out; omega) HLR.out w1 (HE.out.keep hb) R1.out)
  obtain ⟨N, hN⟩ : ∃ N, L.length = N := ⟨_, rfl⟩
  have HN := Lib.hid hN
  have HSZ := Lib.hid (sizeA_le L (fun t ht => (HLR.out t ht).2))
  rw [hN] at hc1 WR ⊢
  clear hown hb hN TX
  go_wp2_with fail
  refine WR.out.mono ?_
  rintro e w2 ⟨dv, ev, rfl, hdv, hev, hb⟩
  have hdv := dv_base hdv B1.out.size
  obtain ⟨A2, c2, rfl⟩ := hdv.bv.len
  rw [HN.out] at hev
  obtain ⟨A3, c3, rfl⟩ := own_slice hev
  have hc2 := (dv_cap hdv).1
  have DV2 := Lib.hid hdv
  have EV := Lib.hid hev
  have B2 := Lib.hid (bchain B1.out hb)
  have R2 := Lib.hid (R1.out.keep hb)
  rw [logA_len] at hc2 ⊢
  obtain ⟨M, hM⟩ : ∃ M, sizeA L = M := ⟨_, rfl⟩
  have HM := Lib.hid hM
  have hM2 : M ≤ 1320 := by have := HSZ.out; have := HN.out; have := HL2.out; omega
  have hN2 : N ≤ 20 := by have := HN.out; have := HL2.out; omega
  rw [hM] at hc2 ⊢
  clear hev EV hb hM WR hdv
  go_wp2_with (at_builtin; refine wp_bv_own rfl (.tmp 40) (.tmp 41) rfl _ w2.heap.size _ 0 [] rfl (own_empty w2 5) A2 M c2 (logA 1 L) (by rw [logA_len, HM.out]) rfl (by have h := DV2.out.bv.keep (below1 w2 (.cells #[] 5)); rw [logA_len, HM.out] at h; exact h) (by omega) (by simp) ?_; intro v3 w3 ho3 _ hb3; rw [Nat.zero_add, List.nil_append] at ho3; obtain ⟨A4, c4, rfl⟩ := own_slice ho3; have HO3 := Lib.hid ho3; have BB3 := Lib.hid (Below.trans (below1 w2 (.cells #[] 5)) hb3); clear ho3 hb3)
  obtain ⟨dp, hdp⟩ : ∃ dp, w3.heap.size = dp := ⟨_, rfl⟩
  have hdp2 : w2.heap.size ≤ dp := by rw [← hdp]; exact BB3.out.size
  obtain ⟨w4, hw4⟩ : ∃ w4, w3.alloc (.cells #[.slice A4 M c4, .int .i64 0] 28) = w4 := ⟨_, rfl⟩
  have P4 : Hid (PD w4 dp (.slice A4 M c4) 0) := Lib.hid (by rw [← hw4, ← hdp]; exact Blk.new _ _ _)
  have B4 : Hid (Below w2.heap.size w2 w4) := Lib.hid (by rw [← hw4]; exact bchain BB3.out (below1 _ _))
  have HO4 : Hid (w4.ownsRow w2.heap.size 5 1 (.slice A4 M c4) M ((logA 1 L).map byteV)) := Lib.hid (by rw [← hw4]; exact own_keep HO3.out (below1 _ _))
  rw [hw4, hdp]
  clear hw4 hdp HO3
  have RG := Lib.hid (fun t ht => (HLR.out t ht).1 : ∀ t ∈ L, rightL t = true)
  have OK := Lib.hid (open_keep (bs := logA 1 L) (pow := 0) (by rw [logA_len, HM.out]; omega) (by rw [scan_log _ RG.out]) (by rw [scan_log _ RG.out, logA_len]) (HE.out.keep (bchain B2.out B4.out)) P4.out (dv_of_own HO4.out) hdp2)
  rw [scan_log _ RG.out] at OK
  refine OK.out.mono ?_
  rintro e w5 ⟨lp, rv, rfl, hlp, hlg, hfr, hrv⟩
  have B5 := Lib.hid (B4.out.trans (hfr.below B4.out.size (fun x hx => by have hxd : x = dp := (by simpa using hx); omega)))
  have HO5 : Hid (w5.ownsRow w2.heap.size 5 1 (.slice A4 M c4) M ((logA 1 L).map byteV)) := Lib.hid (own_fr HO4.out hfr (fun x hx hm => by
    have hxd : x = dp := by simpa using hm
    subst hxd
    rcases HO4.out.2 with ⟨e, _⟩ | ⟨g, cap, cur, e, _, hg, _⟩
    · rw [e] at hx; simp [Value.ownBlock] at hx
    · rw [e] at hx
      obtain rfl : g = x := by simpa [Value.ownBlock] using hx
      have := (show w4.heap[g]? = _ from P4.out).symm.trans hg
      simp at this))
  have G5 := Lib.hid hlg
  clear hlg hfr hrv hlp OK P4 B4 HO4
  obtain ⟨i, hi0⟩ : ∃ i : Nat, a % 9 = i := ⟨_, rfl⟩
  have hi1 : (a : Int) % 9 = (i : Int) := by omega
  have hi2 : i ≤ 8 := by omega
  have hi3 : (i : Int) ≤ 8 := by omega
  have hi4 : (0 : Int) ≤ (i : Int) := by omega
  clear hi0
  obtain ⟨R5, hR5⟩ : ∃ R5 : ByteArray, (⟨(Lib.repeatL recB.data.toList 26).toArray⟩ : ByteArray) = R5 := ⟨_, rfl⟩
  have RP := Lib.hid (fun W => Tryd.strings_Repeat_main recB 26 W (by decide) (by decide) (by decide) (by decide))
  rw [hR5] at RP
  have HR5 : Hid (rightL R5.data.toList = false ∧ R5.size ≤ 1000) := Lib.hid (by rw [← hR5]; exact ⟨by decide +kernel, by decide +kernel⟩)
  clear hR5
  have RPX : Hid (∀ wx, Below w5.heap.size w5 wx → Calls Tryd.prog 27 #[.string ⟨#[97, 32, 114, 101, 99, 111, 114, 100]⟩, .int .i64 26] wx (fun e w' => e = .returned (.string R5) ∧ Below w5.heap.size w5 w')) := Lib.hid (fun wx hb => (RP.out wx).mono fun e w' hh => ⟨hh.1, bchain hb hh.2⟩)
  obtain ⟨E0, hE0⟩ : ∃ E0, recB.extract 0 i = E0 := ⟨_, rfl⟩
  obtain ⟨E1, hE1⟩ : ∃ E1, recB.extract i 8 = E1 := ⟨_, rfl⟩
  have e0 : (⟨#[97, 32, 114, 101, 99, 111, 114, 100]⟩ : ByteArray).extract 0 i = E0 := hE0
  have e1 : (⟨#[97, 32, 114, 101, 99, 111, 114, 100]⟩ : ByteArray).extract i 8 = E1 := hE1
  have hbad := fun (c : UInt8) (hc : okB c = false) => bad_ins i c hc hi2
  rw [hE0, hE1] at hbad
  have HBAD := Lib.hid hbad
  have z0 : E0.size ≤ 8 := by rw [← hE0, ByteArray.size_extract]; have : recB.size = 8 := rfl; omega
  have z1 : E1.size ≤ 8 := by rw [← hE1, ByteArray.size_extract]; have : recB.size = 8 := rfl; omega
  have k0 : ¬ 9223372036854775807 < E0.size + 1 := by omega
  have k1 : ¬ 9223372036854775807 < E0.size + 1 + E1.size := by omega
  clear hbad hE0 hE1
  go_upto_region 11 with fail
  go_region_held3 (fun wx => Below w5.heap.size w5 wx)
    (first | exact Below.refl _ _ | exact Below.drew (Below.refl _ _) | exact hB6 | exact hB6.alloc hB6.size _ | assumption)
    (first | (go_at_call 27; (with_reducible refine (RPX.out _ (by first | assumption | exact Below.drew (Below.refl _ _))).mono ?_); rintro e w6 ⟨rfl, hB6⟩))
  have hcells : ∃ w7, w6.alloc (.cells #[.string (E0 ++ ⟨#[10]⟩ ++ E1), .string (E0 ++ ⟨#[127]⟩ ++ E1), .string (E0 ++ ⟨#[31]⟩ ++ E1), .string (E0 ++ ⟨#[255]⟩ ++ E1), .string R5] 9) = w7 ∧ Below w5.heap.size w5 w7 ∧ ∀ k, k < 5 → ∃ b : ByteArray, w7.cell? ⟨w6.heap.size, k, none⟩ = some (.string b) ∧ rightL b.data.toList = false ∧ b.size ≤ 1000 := by
    refine ⟨_, rfl, hB6.alloc hB6.size _, fun k hk => ?_⟩
    have hb := Blk.new w6 9 #[.string (E0 ++ ⟨#[10]⟩ ++ E1), .string (E0 ++ ⟨#[127]⟩ ++ E1), .string (E0 ++ ⟨#[31]⟩ ++ E1), .string (E0 ++ ⟨#[255]⟩ ++ E1), .string R5]
    match k, hk with
    | 0, _ => exact ⟨_, hb.cell (j := 0) rfl, HBAD.out 10 (by decide)⟩
    | 1, _ => exact ⟨_, hb.cell (j := 1) rfl, HBAD.out 127 (by decide)⟩
    | 2, _ => exact ⟨_, hb.cell (j := 2) rfl, HBAD.out 31 (by decide)⟩
    | 3, _ => exact ⟨_, hb.cell (j := 3) rfl, HBAD.out 255 (by decide)⟩
    | 4, _ => exact ⟨_, hb.cell (j := 4) rfl, HR5.out⟩
  obtain ⟨w7, hw7, hb7, hc7⟩ := hcells
  rw [hw7]
  obtain ⟨g7, hg7⟩ : ∃ g, w6.heap.size = g := ⟨_, rfl⟩
  rw [hg7] at hc7 ⊢
  have B7 := Lib.hid (B5.out.trans (hb7.mono B5.out.size))
  have G7 := Lib.hid (G5.out.keep hb7)
  have HO7 := Lib.hid (own_keep HO5.out hb7)
  have C7 := Lib.hid hc7
  clear hw7 hb7 hc7 hg7 hB6 G5 HO5 B5 HBAD HR5 RP RPX e0 e1 k0 k1 z0 z1
  go_wp2
  go_loopw [98] (fun s98 wr => ∃ k : Nat, k ≤ 5 ∧ s98 = .int .i64 k ∧ Below w7.heap.size w7 wr) (fun s98 _ => 5 - (intOf s98).toNat)
  case atStart => exact ⟨0, by omega, rfl, Below.refl _ _⟩
  case round =>
    obtain ⟨k, hk, rfl, hbw⟩ := hrel
    have BW := Lib.hid hbw
    clear hbw
    by_cases hlt : k < 5
    · obtain ⟨b, c0, hbr, hbs⟩ := C7.out k hlt
      have c0 := keepW BW.out c0
      have t1 : decide ((k : Int) < 5) = true := decide_eq_true (by omega)
      have j1 : (k : Int) < 5 := by omega
      have hf : failP 1 b.data.toList = 422 := by unfold failP; rw [if_neg (by omega), hbr]; rfl
      have CF := Lib.hid (fun W => check_fail 1 b 422 (by omega) hf (by decide) W)
      have LF := Lib.hid (fun W he => line_fail 1 b 422 (by omega) hf (by decide) W he)
      have AF := Lib.hid (fun W h he => append_text (B := w2.heap.size) (lp := lp) (dp := dp) (bs := logA 1 L) (pow := 0) (recs := L) (last := lastA 1 L) (size := (sizeA L : Nat)) (dv := .slice A4 M c4) (rv := rv) (bv := .slice none 0 0) (s := b) (w := W) (hs := by omega) (he := he) (hl := lastA_lt L) (hr := hbr) (h := h))
      clear hbr hbs hf
      go_wp2_with fail
      refine (CF.out _).mono ?_
      rintro e w8 ⟨rfl, rfl⟩
      go_wp2_with fail
      refine (LF.out _ (HE.out.keep (belowx B2.out B7.out BW.out))).mono ?_
      rintro e w8 ⟨rfl, hb⟩
      have BW8 := Lib.hid (bchain BW.out hb)
      clear hb c0
      go_wp2_with fail
      refine (AF.out _ (G7.out.keep BW8.out) (HE.out.keep (belowx B2.out B7.out BW8.out))).mono ?_
      rintro e w9 ⟨rfl, hb⟩
      have BW9 := Lib.hid (bchain BW8.out hb)
      clear hb
      go_wp2
      go_roundw
      case rel => exact ⟨k + 1, by omega, by go_num, BW9.out⟩
      case measure => simp [intOf]; omega
    · obtain rfl : k = 5 := by omega
      clear hlt hk
      rw [show ((5 : Nat) : Int) = 5 from rfl]
      obtain ⟨x1, hx1⟩ : ∃ x1 : Int, min nn (-1) = x1 := ⟨_, rfl⟩
      obtain ⟨x2, hx2⟩ : ∃ x2 : Int, max nn 9973 = x2 := ⟨_, rfl⟩
      have hx3 : x1 < 0 := by omega
      have hx4 : 9973 ≤ x2 := by omega
      go_wp2
      try rw [hx1]
      try rw [hx2]
      clear hx1 hx2
      have hcells : ∃ w9, wr.alloc (.cells #[.int .i64 x1, .int .i64 x2] 3) = w9 ∧ Below wr.heap.size wr w9 ∧ ∀ k, k < 2 → ∃ x : Int, w9.cell? ⟨wr.heap.size, k, none⟩ = some (.int .i64 x) ∧ (x < 0 ∨ 9973 ≤ x) := by
        refine ⟨_, rfl, below1 _ _, fun k hk => ?_⟩
        have hb := Blk.new wr 3 #[.int .i64 x1, .int .i64 x2]
        match k, hk with
        | 0, _ => exact ⟨_, hb.cell (j := 0) rfl, .inl hx3⟩
        | 1, _ => exact ⟨_, hb.cell (j := 1) rfl, .inr hx4⟩
      obtain ⟨w9, hw9, hb9, hc9⟩ := hcells
      rw [hw9]
      obtain ⟨g9, hg9⟩ : ∃ g, wr.heap.size = g := ⟨_, rfl⟩
      rw [hg9] at hc9 ⊢
      have B9 := Lib.hid (B7.out.trans ((bchain BW.out hb9).mono B7.out.size))
      have G9 := Lib.hid (G7.out.keep (bchain BW.out hb9))
      have HO9 := Lib.hid (own_keep HO7.out (bchain BW.out hb9))
      have C9 := Lib.hid hc9
      clear hw9 hb9 hc9 hg9 BW C7 G7 HO7 B7 hx3 hx4
      clear wr
      go_loopw [135] (fun s98 wr => ∃ k : Nat, k ≤ 2 ∧ s98 = .int .i64 k ∧ Below w9.heap.size w9 wr) (fun s98 _ => 2 - (intOf s98).toNat)
      case atStart => exact ⟨0, by omega, rfl, Below.refl _ _⟩
      case round =>
        obtain ⟨k, hk, rfl, hbw⟩ := hrel
        have BW := Lib.hid hbw
        clear hbw
        by_cases hlt : k < 2
        · obtain ⟨x, c0, hxb⟩ := C9.out k hlt
          have c0 := keepW BW.out c0
          have t1 : decide ((k : Int) < 2) = true := decide_eq_true (by omega)
          have j1 : (k : Int) < 2 := by omega
          have hf : failP x recB.data.toList = 2 := by unfold failP; rw [if_pos hxb]
          have CF : Hid (∀ W, Calls Tryd.prog 22 #[.int .i64 x, .string ⟨#[97, 32, 114, 101, 99, 111, 114, 100]⟩] W (fun e w' => e = .returned (.tuple #[.int .i64 0, .int .i64 2]) ∧ W = w')) := Lib.hid (fun W => check_fail x recB 2 (by decide) hf (by decide) W)
          have LF : Hid (∀ W, Env W → Calls Tryd.prog 23 #[.int .i64 x, .string ⟨#[97, 32, 114, 101, 99, 111, 114, 100]⟩] W (fun e w' => e = .returned (.tuple #[.string ⟨#[]⟩, .int .i64 2]) ∧ Below W.heap.size W w')) := Lib.hid (fun W he => line_fail x recB 2 (by decide) hf (by decide) W he)
          clear hf hxb
          go_wp2_with fail
          refine (CF.out _).mono ?_
          rintro e w8 ⟨rfl, rfl⟩
          go_wp2_with fail
          refine (LF.out _ (HE.out.keep (belowx B2.out B9.out BW.out))).mono ?_
          rintro e w8 ⟨rfl, hb⟩
          have BW8 := Lib.hid (bchain BW.out hb)
          clear hb c0
          go_wp2
          go_roundw
          case rel => exact ⟨k + 1, by omega, by go_num, BW8.out⟩
          case measure => simp [intOf]; omega
        · obtain rfl : k = 2 := by omega
          clear hlt hk C9
          rw [show ((2 : Nat) : Int) = 2 from rfl]
          go_upto_region 27 with fail
          have G10 := Lib.hid (G9.out.keep BW.out)
          have HO10 := Lib.hid (own_keep HO9.out BW.out)
          have B10 := Lib.hid (B9.out.trans (BW.out.mono B9.out.size))
          clear G9 HO9 B9 BW
          refine rest_begin (by kernel_rfl) ?_
          have BD0 : Hid (Below wr.heap.size wr wr.drew) := Lib.hid (Below.drew (Below.refl _ _))
          have G11 := Lib.hid (G10.out.keep BD0.out)
          have HO11 := Lib.hid (own_keep HO10.out BD0.out)
          have B11 := Lib.hid (B10.out.trans (BD0.out.mono B10.out.size))
          clear BD0 G10 HO10 B10
          generalize wr.drew = wa at *
          refine rest_quiet (fun w' => ∃ u : Since wa, w' = u.val) 2 (by kernel_rfl) ⟨⟨wa, Below.refl _ _⟩, rfl⟩ ?_
          simp only [List.take_succ_cons, List.take_zero, List.drop_zero]
          repeat (quiet_step ((fail)))
          refine wpQuiet_nil ?_
          rintro wq ⟨u, rfl⟩
          have BQ := Lib.hid (u.property)
          generalize u.val = wb at *
          have G12 := Lib.hid (G11.out.keep BQ.out)
          have HO12 := Lib.hid (own_keep HO11.out BQ.out)
          have B12 := Lib.hid (B11.out.trans (BQ.out.mono B11.out.size))
          clear BQ G11 HO11 B11
          have AN := Lib.hid (append_none recB (by decide) (by rw [logA_len, HM.out]; omega) (HE.out.keep (bchain B2.out B12.out)) (lastA_lt L) (by decide) (by rw [logA_len, HM.out]; have : recB.size = 8 := rfl; omega) G12.out)
          refine rest_forced 3 (by kernel_rfl) ?_
          go_wp2_with fail
          refine AN.out.mono ?_
          rintro e wc ⟨rfl, hlg, hfr⟩
          have HO13 := Lib.hid (row8_kept G12.out HO12.out hfr)
          have B13 := Lib.hid (B12.out.trans (G12.out.below hfr))
          have G13 := Lib.hid hlg
          clear hlg hfr AN G12 HO12 B12
          go_wp2_with fail
          refine rest_quiet (fun w' => ∃ u : Since wc, w' = u.val) 2 (by kernel_rfl) ⟨⟨wc, Below.refl _ _⟩, rfl⟩ ?_
          simp only [List.take_succ_cons, List.take_zero, List.drop_succ_cons, List.drop_zero]
          repeat (quiet_step ((fail)))
          refine wpQuiet_nil ?_
          rintro wq ⟨u, rfl⟩
          have BQ := Lib.hid (u.property)
          generalize u.val = wd at *
          have G14 := Lib.hid (G13.out.keep BQ.out)
          have HO14 := Lib.hid (own_keep HO13.out BQ.out)
          have B14 := Lib.hid (B13.out.trans (BQ.out.mono B13.out.size))
          clear BQ G13 HO13 B13
          refine rest_forced 4 (by kernel_rfl) ?_
          go_wp2_with fail
          refine (append_closed (s := recB) (h := G14.out)).mono ?_
          rintro e we ⟨rfl, rfl⟩
          go_wp2_with fail
          have d0 : wd.cell? ⟨dp, 0, none⟩ = some (.slice A4 M c4) := G14.out.disk.cell (j := 0) rfl
          obtain ⟨Z, hZ⟩ : ∃ Z : ByteArray, (⟨(logA 1 L).toArray⟩ : ByteArray) = Z := ⟨_, rfl⟩
          have m0 := Since.cell d0
          have m1 : ∀ u : Since wd, (convert 26 9 (.slice A4 M c4)).run Tryd.prog u.val = .ok (.string Z) u.val := fun u => by
            have h := conv_bv (A := A4) (c := c4) (l := logA 1 L) (W := u.val) (by have h := (dv_of_own HO14.out).bv.keep u.property; rw [logA_len, HM.out]; exact h)
            rw [logA_len, HM.out, hZ] at h; exact h
          have m2 : ∀ u : Since wd, (convert 26 9 (.slice A2 M c2)).run Tryd.prog u.val = .ok (.string Z) u.val := fun u => by
            have h := conv_bv (A := A2) (c := c2) (l := logA 1 L) (W := u.val) (by have h := (DV2.out.bv.keep B14.out).keep u.property; exact h)
            rw [logA_len, HM.out, hZ] at h; exact h
          have t9 : (Z.toList == Z.toList) = true := beq_self_eq_true _
          clear hZ
          refine rest_quiet (fun w' => ∃ u : Since wd, w' = u.val) 9 (by kernel_rfl) ⟨⟨wd, Below.refl _ _⟩, rfl⟩ ?_
          simp only [List.take_succ_cons, List.take_zero, List.drop_succ_cons, List.drop_zero]
          repeat (quiet_step ((fail)))
          refine wpQuiet_nil ?_
          rintro wq ⟨u, rfl⟩
          have BQ := Lib.hid (u.property)
          generalize u.val = wf at *
          have G15 := Lib.hid (G14.out.keep BQ.out)
          have HO15 := Lib.hid (own_keep HO14.out BQ.out)
          have B15 := Lib.hid (B14.out.trans (BQ.out.mono B14.out.size))
          clear BQ G14 HO14 B14 m0 m1 m2 d0 t9
          refine rest_forced 1 (by kernel_rfl) ?_
          go_wp2_with fail
          have RC := Lib.hid (records_len (hr := rs_of_own G15.out.rows) (h := G15.out.log) (hs := by rw [HN.out]; omega))
          rw [HN.out] at RC
          have RK := Lib.hid (R2.out.keep B15.out)
          rw [HN.out] at RK
          refine rest_open 6 (by kernel_rfl) ?_
          refine rest_take 23 _ (.slice A1 N c1) rfl (by kernel_rfl) (by kernel_rfl) (by kernel_rfl) (fun _ _ _ h => h) (by kernel_rfl) (fun w => rfl) ?_
          refine rest_one (i := 21) (by kernel_rfl) rfl ?_
          go_wp2_with fail
          refine rest_one (i := 22) (by kernel_rfl) rfl ?_
          go_wp2_with fail
          refine RC.out.mono ?_
          rintro e wg ⟨A9, c9, rfl, hrs, hb⟩
          have SM := Lib.hid (same_self _ _ _ (by rw [HN.out]; omega) wg hrs (RK.out.keep hb))
          have BG := Lib.hid hb
          clear hrs hb RC RK
          go_wp2_with fail
          refine rest_one (i := 24) (by kernel_rfl) rfl ?_
          go_wp2_with fail
          refine SM.out.mono ?_
          rintro e wh ⟨rfl, hb⟩
          have BH := Lib.hid (bchain BG.out hb)
          have G16 := Lib.hid (G15.out.keep BH.out)
          have HO16 := Lib.hid (own_keep HO15.out BH.out)
          have B16 := Lib.hid (B15.out.trans (BH.out.mono B15.out.size))
          clear hb SM BG BH G15 HO15 B15
          go_wp2_with fail
          refine rest_close 25 (by kernel_rfl) (by kernel_rfl) ?_
          refine rest_forced 2 (by kernel_rfl) ?_
          go_wp2_with fail
          refine rest_done (by kernel_rfl) ?_
          have d0 : wh.cell? ⟨dp, 0, none⟩ = some (.slice A4 M c4) := G16.out.disk.cell (j := 0) rfl
          obtain ⟨i0, hi0, hz0, hz1, hz2⟩ := info_parts info_u8
          go_upto_region 29 with fail
          go_wp2_with (at_builtin; refine app1 rfl (.tmp 189) (.tmp 190) rfl Tryd.underlying26 hi0 hz0 hz1 hz2 rfl _ w2.heap.size _ M _ (.int .u8 48) rfl rfl rfl rfl HO16.out B16.out.size (by omega) (by decide) ?_; intro v12 w12 ho12 hg12 _ hb12; obtain ⟨A12, c12, rfl⟩ := own_slice ho12; have HO17 := Lib.hid ho12; have P12 := blk_grown HO16.out G16.out.disk (by decide) hg12; have B17 := Lib.hid (B16.out.trans hb12); have d12 := Blk.cell P12 (j := 0) (v := .slice A4 M c4) rfl; have f12 := Blk.free P12 0; have P17 := Lib.hid P12; clear ho12 hg12 hb12 d0)
          have PS := Lib.hid (Blk.set P17.out 0 (.slice A12 (M + 1) c12))
          have HOS := Lib.hid (own_other HO17.out P17.out (by decide) 0 (.slice A12 (M + 1) c12))
          have BS := Lib.hid (B17.out.setCell (show w2.heap.size ≤ (⟨dp, 0, none⟩ : Addr).block from hdp2) (.slice A12 (M + 1) c12))
          clear d12 f12 G16 HO16 B16 P12 P17 HO17 B17
          generalize w12.setCell ⟨dp, 0, none⟩ (.slice A12 (M + 1) c12) = w13 at *
          have hl13 : (logA 1 L ++ [48]).length = M + 1 := by rw [List.length_append, logA_len, HM.out]; rfl
          have P13 : Hid (PD w13 dp (.slice A12 (logA 1 L ++ [48]).length c12) 0) := Lib.hid (by rw [hl13]; exact PS.out)
          have D13 : Hid (DV w13 w2.heap.size (.slice A12 (logA 1 L ++ [48]).length c12) (logA 1 L ++ [48])) := Lib.hid (by
            rw [hl13]
            refine dv_of_own (n := M + 1) ?_
            have h := HOS.out
            rw [List.map_append]
            exact h)
          have hsc := scan_cut L [48] RG.out (by decide)
          have hcu : ∀ W, PD W dp (.slice A12 (logA 1 L ++ [48]).length c12) 0 → Calls Tryd.prog 34 #[.pointer (some ⟨dp, 0, none⟩), .int .i64 ((scanS (linesL (logA 1 L ++ [48]))).size : Nat)] W (fun e w' => e = .returned (.int .i64 420) ∧ W = w') := fun W hW => by
            rw [hsc]
            exact cut_none dp A12 (logA 1 L ++ [48] : List UInt8).length c12 (sizeA L) W (by rw [hl13, HM.out]; omega) hW
          have ON := Lib.hid (open_nopower dp (logA 1 L ++ [48]) 0 w13 w2.heap.size A12 c12 (by rw [hl13]; omega) (by rw [hsc]) (HE.out.keep (bchain B2.out BS.out)) P13.out D13.out hcu)
          have RN := Lib.hid (fun wx (hb : Below w13.heap.size w13 wx) => repair_nopower dp (logA 1 L ++ [48]) 0 wx w2.heap.size A12 c12 (by rw [hl13]; omega) (HE.out.keep (bchain (bchain B2.out BS.out) hb)) (Blk.keep P13.out hb P13.out.lt) (D13.out.keep hb) hcu)
          have d13 : w13.cell? ⟨dp, 0, none⟩ = some (.slice A12 (M + 1) c12) := PS.out.cell (j := 0) rfl
          have D0 := Lib.hid d13
          clear hsc hcu hl13 P13 D13 PS HOS d13
          refine ON.out.mono ?_
          rintro e w14 ⟨rfl, hb⟩
          have BE := Lib.hid hb
          clear hb ON
          go_wp2_with fail
          refine (RN.out _ BE.out).mono ?_
          rintro e w15 ⟨rfl, hb⟩
          have BF := Lib.hid (bchain BE.out hb)
          have d15 := keepW BF.out D0.out
          clear hb RN BE D0
          have B15 := Lib.hid (bchain (bchain B2.out BS.out) BF.out)
          clear BF BS
          have t1 : (((M + 1 : Nat) : Int) == (M : Int) + 1) = true := by simp
          go_wp2_with fail
          refine (AW.out _ (HE.out.keep B15.out)).mono ?_
          rintro e w16 ⟨rfl, hb⟩
          have B16 := Lib.hid (bchain B15.out hb)
          clear hb
          go_wp2
          go_ret
          exact ⟨rfl, B16.out⟩
theorem wrong_walk {v : Value} (nn : Int) (hnn : (Lit.int .i64 nn).wf = true) (a : Nat) (ha : a < 256) (w : World) (he : Env w) (hB : ∃ (A : Option Addr) (cap : Nat) (l : List (List UInt8)), v = .slice A l.length cap ∧ l.length ≤ cap ∧ RS w v l) :
    Calls Tryd.prog 11 #[v, .int .i64 nn, .int .u8 (a : Int)] w (fun e w' => e = .returned (.bool true) ∧ Below w.heap.size w w') := by
  obtain ⟨A, cap, l, rfl, hcap, hB⟩ := hB
  have hb := bounds_i64 hnn
  exact wrong_any A cap l hcap nn (by omega) (by omega) a ha w he hB
end Go.Proofs.YtbompgfjlllioaaDoor
