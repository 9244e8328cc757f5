/- Plain laws: a deal that lacks a card; a text with another dealer or vulnerability. No program. BoardWrong: the walk. BoardWrong returns true whatever the input; no condition but the tables, words and errors as their initialisers lay them, which the card ties to the text. -/
import Derived.Test.YtaadipccgckehaaDoorBackM
import Derived.Test.YtaadipccgckehaaDoorCR
import Derived.Test.YtaadipccgckehaaDoorDiffB
import Derived.Test.YtaadipccgckehaaDoorFrame
import Derived.Test.YtaadipccgckehaaDoorOpen
import Derived.Test.YtaadipccgckehaaDoorCards
import Derived.Test.YtaadipccgckehaaDoorTie
import Derived.SevenTiedAt
import Derived.SizedLaws
namespace Go.Proofs.YtaadipccgckehaaDoor
open Go
namespace Pl
/-- A hand less its lowest card. -/
def lack (x : Four) (r i : Nat) : Four := toF (fun s => if s = r then clr (ofF x s) i else ofF x s)
theorem lack_at (x : Four) (r i s : Nat) (hs : s < 4) : ofF (lack x r i) s = if s = r then clr (ofF x s) i else ofF x s := by
  rcases (by omega : s = 0 ∨ s = 1 ∨ s = 2 ∨ s = 3) with rfl | rfl | rfl | rfl <;> rfl
theorem pc_clr {m i : Nat} (hm : m < 4503599627370496) (hi : i < 52) (h : m.testBit i = true) : pc 52 m = pc 52 (clr m i) + 1 := by
  have hb : ∀ b, (clr m i).testBit b = (m.testBit b && decide (b ≠ i)) := fun b => clr_bit (by omega) hi
  have e1 : m = clr m i ||| 2 ^ i := by
    apply Nat.eq_of_testBit_eq
    intro b
    rw [Nat.testBit_or, hb, Nat.testBit_two_pow]
    by_cases h' : i = b
    · subst h'; simp [h]
    · simp [h', Ne.symm h']
  have z1 : clr m i &&& 2 ^ i = 0 := by
    apply Nat.eq_of_testBit_eq
    intro b
    rw [Nat.testBit_and, hb, Nat.testBit_two_pow, Nat.zero_testBit]
    by_cases h' : i = b
    · subst h'; simp
    · simp [h']
  conv => lhs; rw [e1]
  rw [pc_or _ _ _ z1, pc_one i hi]
theorem lack_wrong {x : Four} (h : rightB (ofF x) = true) (r i : Nat) (hr : r < 4) (hi : (ofF x r).testBit i = true) : rightB (ofF (lack x r i)) = false := by
  have hi52 := bit_lt (right_lt52 h r hr) hi
  have h1 := pc_clr (right_lt52 h r hr) hi52 hi
  rw [right_pc h r hr] at h1
  rw [← Bool.not_eq_true]
  intro hc
  have h2 := right_pc hc r hr
  rw [lack_at _ _ _ _ hr, if_pos rfl] at h2
  omega
theorem lack_lt {x : Four} (h : rightB (ofF x) = true) (r i : Nat) (s : Nat) (hs : s < 4) : ofF (lack x r i) s < 4503599627370496 := by
  rw [lack_at _ _ _ _ hs]
  split
  · exact Nat.lt_of_le_of_lt (clr_le _ _) (right_lt52 h s hs)
  · exact right_lt52 h s hs
/-- The text with a dealer and a vulnerability. -/
def tx (n a v : Nat) (D : Nat → Nat) : List UInt8 := numL n ++ 32 :: (seatW a ++ 32 :: (wordW v ++ 32 :: textD D))
theorem tx_is (n : Nat) (D : Nat → Nat) : textB n D = tx n (dealP n) (vulP n) D := by simp [textB, sp, tx]
theorem seat_inj : ∀ a, a < 4 → ∀ b, b < 4 → seatW a = seatW b → a = b := by decide
theorem word_inj : ∀ a, a < 4 → ∀ b, b < 4 → wordW a = wordW b → a = b := by decide
theorem tx_bok (n a v : Nat) (D : Nat → Nat) (h1 : 1 ≤ n) (h2 : n ≤ 128) (ha : a < 4) (hv : v < 4) (hr : rightB D = true) : bok (tx n a v D) = decide (a = dealP n ∧ v = vulP n) := by
  rcases hb : bok (tx n a v D) with _ | _
  · rw [eq_comm, decide_eq_false_iff_not]
    rintro ⟨rfl, rfl⟩
    rw [← tx_is] at hb
    have := (bok_of (s := textB n D) (n := n) (D := D) ⟨h1, h2, hr, rfl⟩).1
    rw [hb] at this
    cases this
  · rw [eq_comm, decide_eq_true_eq]
    obtain ⟨m, _, g1, g2, _, ht⟩ := bok_is hb
    rw [tx_is] at ht
    unfold tx at ht
    obtain ⟨e1, e2⟩ := first_sp (num_no n (by omega)) (num_no m (by omega)) ht
    obtain ⟨e3, e4⟩ := first_sp (seat_no a ha) (seat_no _ (deal_lt m)) e2
    obtain ⟨e5, _⟩ := first_sp (word_no v) (word_no _) e4
    have hnm : n = m := by rw [← val_num n (by omega), ← val_num m (by omega), e1]
    subst hnm
    exact ⟨seat_inj a ha _ (deal_lt n) e3, word_inj v hv _ (vul_lt n) e5⟩
theorem tx_len (n a v : Nat) (D : Nat → Nat) : (tx n a v D).length = (numL n).length + 1 + (wordW v).length + (textD D).length + 3 := by
  have : (seatW a).length = 1 := rfl
  unfold tx
  simp only [List.length_append, List.length_cons]
  omega
end Pl
end Go.Proofs.YtaadipccgckehaaDoor
namespace Go.Proofs.YtaadipccgckehaaDoor
open Go Go.RowKit Pl

theorem zero_four : ∀ k, k < 4 → ofF (0, 0, 0, 0) k = 0 := fun k hk => by
  rcases (by omega : k = 0 ∨ k = 1 ∨ k = 2 ∨ k = 3) with rfl | rfl | rfl | rfl <;> rfl
/-- 25 deals of nobody. -/
def mz25 : Array Value := (dV (List.replicate 25 (0, 0, 0, 0))).toArray
theorem mz_get : ∀ k, k < 4 → mz25[k]? = some (.int .u64 0) := fun k hk => by
  rcases (by omega : k = 0 ∨ k = 1 ∨ k = 2 ∨ k = 3) with rfl | rfl | rfl | rfl <;> rfl
theorem mz_set (b : Four) : (((mz25.setIfInBounds 0 (.int .u64 (ofF b 0 : Nat))).setIfInBounds 1 (.int .u64 (ofF b 1 : Nat))).setIfInBounds 2 (.int .u64 (ofF b 2 : Nat))).setIfInBounds 3 (.int .u64 (ofF b 3 : Nat)) = (dV (b :: List.replicate 24 (0, 0, 0, 0))).toArray := rfl
theorem mz_make (W : World) : (Instr.makeSlice 36 (.int .i64 25) (.int .i64 25)).run Tryd.prog W = .ok (.slice (some ⟨W.heap.size, 0, none⟩) 25 25) (W.alloc (.cells mz25 35)) := by
  obtain ⟨i0, hi0, hz0, hz1, hz2⟩ := info_parts info_deal
  have h := run_makeSlice (P := Tryd.prog) W 36 35 i0 (.agg #[.int .u64 0, .int .u64 0, .int .u64 0, .int .u64 0]) Tryd.underlying36 hi0 hz0 .i64 .i64 25 25 (by omega) (by omega) (by rw [hz1]; decide) (by rw [hz2]; decide) (by omega)
  rw [hz1, show madeCells (Value.agg #[.int .u64 0, .int .u64 0, .int .u64 0, .int .u64 0]).cells (Int.toNat 25 * 4) = mz25 from by kernel_rfl] at h
  exact h
attribute [irreducible] mz25
theorem dr_blk {W : World} {p : Nat} {t : TypeId} {l : List Four} (h : Blk W p t (dV l).toArray) (T : TypeId) : DR T W (.slice (some ⟨p, 0, none⟩) l.length l.length) l := by
  refine DR.some_ p 0 l.length l h.lt (fun i x hi k hk => ?_)
  refine h.cell ?_
  rw [Nat.zero_add]
  have := dV_at l i x hi k hk
  simpa using this
theorem cls_wrong {w w' : World} {l : List Four} {e : Ending} (hr : RetCls w l e w') (hl : ¬ 24 < l.length) (ha : allRight l = false) : Below w.heap.size w w' ∧ ∃ A c, e = .returned (.tuple #[.slice A 0 c, .int .i64 60]) := by
  obtain ⟨hb, A, c, he, _⟩ := cls_parts hr
  have h1 : clL l = [] := by unfold clL; rw [if_neg hl, ha]; rfl
  have h2 : clE l = 60 := by unfold clE; rw [if_neg hl, ha]; rfl
  rw [h1, h2] at he
  exact ⟨hb, A, c, he⟩
theorem cls_many {w w' : World} {l : List Four} {e : Ending} (hr : RetCls w l e w') (hl : 24 < l.length) : Below w.heap.size w w' ∧ ∃ A c, e = .returned (.tuple #[.slice A 0 c, .int .i64 5]) := by
  obtain ⟨hb, A, c, he, _⟩ := cls_parts hr
  have h1 : clL l = [] := by unfold clL; rw [if_pos hl]
  have h2 : clE l = 5 := by unfold clE; rw [if_pos hl]
  rw [h1, h2] at he
  exact ⟨hb, A, c, he⟩
theorem chg_wrong {t : TypeId} {w w' : World} {D E : Nat → Nat} {e : Ending} (h : RetChg t w D E e w') (hB : bothR D E = false) : e = .returned (.tuple #[.slice none 0 0, .int .i64 60]) ∧ Below w.heap.size w w' := by
  obtain ⟨hb, hc⟩ := chg_parts h
  rcases hc with ⟨_, he⟩ | ⟨h1, _⟩
  · exact ⟨he, hb⟩
  · rw [hB] at h1; cases h1
theorem eight (d b : Four) : (#[.int .u64 (ofF d 0 : Nat), .int .u64 (ofF d 1 : Nat), .int .u64 (ofF d 2 : Nat), .int .u64 (ofF d 3 : Nat), .int .u64 (ofF b 0 : Nat), .int .u64 (ofF b 1 : Nat), .int .u64 (ofF b 2 : Nat), .int .u64 (ofF b 3 : Nat)] : Array Value) = (dV [d, b]).toArray := rfl
/-- What is read out of a text with another dealer or vulnerability. -/
theorem read_tx (n a v : Nat) (x : Four) (h1 : 1 ≤ n) (h2 : n ≤ 128) (ha : a < 4) (hv : v < 4) (hr : rightB (ofF x) = true) : ∃ z0 z1 z2 z3 z4 : Int, ∀ w, Env w → Calls Tryd.prog 24 #[.string ⟨(tx n a v (ofF x)).toArray⟩] w (fun e w' => e = .returned (.tuple #[.agg #[.int .i64 z0, .int .u64 z1, .int .u64 z2, .int .u64 z3, .int .u64 z4], .int .i64 (if a = dealP n ∧ v = vulP n then 0 else 71)]) ∧ Below w.heap.size w w') := by
  have hl : (tx n a v (ofF x)).length < 140737488355328 := by
    rw [tx_len]
    have := num_len n
    have := word_len v
    have := textD_len (ofF x)
    omega
  have hb := tx_bok n a v (ofF x) h1 h2 ha hv hr
  by_cases hc : a = dealP n ∧ v = vulP n
  · rw [decide_eq_true hc] at hb
    refine ⟨((bnum (tx n a v (ofF x))).getD 0), ((dval (brest (tx n a v (ofF x))) 0 : Nat) : Int), ((dval (brest (tx n a v (ofF x))) 1 : Nat) : Int), ((dval (brest (tx n a v (ofF x))) 2 : Nat) : Int), ((dval (brest (tx n a v (ofF x))) 3 : Nat) : Int), fun w he => ?_⟩
    have h := bread_any (tx n a v (ofF x)) hl w he
    unfold bret at h
    rw [hb, if_pos rfl] at h
    unfold recV at h
    rw [if_pos hc]
    exact h
  · rw [decide_eq_false hc] at hb
    refine ⟨0, 0, 0, 0, 0, fun w he => ?_⟩
    have h := bread_any (tx n a v (ofF x)) hl w he
    unfold bret at h
    rw [hb, if_neg (by decide)] at h
    unfold z5 at h
    rw [if_neg hc]
    exact h
theorem rec_late {W W' : World} {o : Obj} {p : Nat} {t : TypeId} {c : Array Value} (h : Blk W p t c) (hb : Below (W.alloc o).drew.heap.size (W.alloc o).drew W') (a b d e f : Value) :
    Blk (((((W'.setCell ⟨W.heap.size, 0, none⟩ a).setCell ⟨W.heap.size, 1, none⟩ b).setCell ⟨W.heap.size, 2, none⟩ d).setCell ⟨W.heap.size, 3, none⟩ e).setCell ⟨W.heap.size, 4, none⟩ f) p t c := by
  have h0 : Blk (W.alloc o).drew p t c := h.alloc o
  have h1 := h0.keep hb h0.lt
  have hne : p ≠ W.heap.size := Nat.ne_of_lt h.lt
  exact ((((h1.other hne 0 a).other hne 1 b).other hne 2 d).other hne 3 e).other hne 4 f
set_option maxRecDepth 100000 in
set_option maxHeartbeats 40000000 in
theorem wrong_walk (v0 : Value) (l0 : List Nat) (N : Int) (hN : -9223372036854775808 ≤ N ∧ N ≤ 9223372036854775807) (x y : Nat) (hx : x < 256) (hy : y < 256) (w : World) (he : Env w) (h0 : BV w v0 l0) (h08 : ∀ x ∈ l0, x < 256) : Calls Tryd.prog 9 #[v0, .int .i64 N, .int .u8 (x : Int), .int .u8 (y : Int)] w (fun e w' => e = .returned (.bool true) ∧ Below w.heap.size w w') := by
  have M0 := Lib.hid (made_four h0 h08)
  have HE := Lib.hid he
  obtain ⟨A0, c0, rfl, _⟩ := h0.len
  clear h0 h08 he
  generalize l0.length = n0 at *
  obtain ⟨mn, hmn⟩ : ∃ mn, min N 0 = mn := ⟨_, rfl⟩
  obtain ⟨mx, hmx⟩ : ∃ mx, max N 129 = mx := ⟨_, rfl⟩
  have HMM : Hid (mn < 1 ∧ 128 < mx) := Lib.hid ⟨by omega, by omega⟩
  obtain ⟨x4, hx4⟩ : ∃ x4, x4 = max x 4 := ⟨_, rfl⟩
  obtain ⟨y4, hy4⟩ : ∃ y4, y4 = max y 4 := ⟨_, rfl⟩
  have q0 : max (x : Int) 4 = (x4 : Int) := by omega
  have q1 : max (y : Int) 4 = (y4 : Int) := by omega
  have F1 := Lib.hid (fun W => find_bad x4 y (by omega) hy (.inl (by omega)) W)
  have F2 := Lib.hid (fun W => find_bad x y4 hx (by omega) (.inr (by omega)) W)
  have HXY := Lib.hid (And.intro hx hy)
  clear hx4 hy4 hx hy hN
  go_enter Tryd.func9, Tryd.ntmps9
  go_wp2_with fail
  refine M0.out.mono ?_
  rintro e w1 ⟨⟨d, hd, hd64, rfl⟩, hb⟩
  have HD := Lib.hid (And.intro hd hd64)
  have HB1 := Lib.hid (bchain hb (below1 w1 (.cells #[.int .u64 (ofF d 0 : Nat), .int .u64 (ofF d 1 : Nat), .int .u64 (ofF d 2 : Nat), .int .u64 (ofF d 3 : Nat)] 35)))
  have HBD := Lib.hid (Blk.new w1 35 #[.int .u64 (ofF d 0 : Nat), .int .u64 (ofF d 1 : Nat), .int .u64 (ofF d 2 : Nat), .int .u64 (ofF d 3 : Nat)])
  clear hd hd64 hb M0
  go_upto_region 2 with fail
  generalize w1.alloc (.cells #[.int .u64 (ofF d 0 : Nat), .int .u64 (ofF d 1 : Nat), .int .u64 (ofF d 2 : Nat), .int .u64 (ofF d 3 : Nat)] 35) = W1 at *
  generalize w1.heap.size = p9 at *
  go_upto_region 3 with fail
  have hb2 := below1 W1 (.cells #[.int .i64 mn, .int .i64 mx] 3)
  have HB2 := Lib.hid (bchain HB1.out hb2)
  have HBD2 := Lib.hid (HBD.out.keep hb2 HBD.out.lt)
  have HBK := Lib.hid (Blk.new W1 3 #[.int .i64 mn, .int .i64 mx])
  clear hb2 HB1 HBD hmn hmx
  generalize W1.alloc (.cells #[.int .i64 mn, .int .i64 mx] 3) = W2 at *
  generalize W1.heap.size = pk at *
  go_loopw [60] (fun s60 wr => ∃ i : Nat, i ≤ 2 ∧ s60 = .int .i64 (i : Int) ∧ Hid (Blk wr p9 35 #[.int .u64 (ofF d 0 : Nat), .int .u64 (ofF d 1 : Nat), .int .u64 (ofF d 2 : Nat), .int .u64 (ofF d 3 : Nat)]) ∧ Hid (Blk wr pk 3 #[.int .i64 mn, .int .i64 mx]) ∧ Hid (Below w.heap.size w wr)) (fun s60 _ => 2 - (intOf s60).toNat)
  case atStart => exact ⟨0, by omega, rfl, HBD2, HBK, HB2⟩
  case round =>
    clear HBD2 HBK HB2
    obtain ⟨i, hi, rfl, HBD2, HBK, HB2⟩ := hrel
    by_cases hlt : i < 2
    · have u1 : decide ((i : Int) < 2) = true := decide_eq_true (by omega)
      have y1 := inc64 i (by omega)
      obtain ⟨K, hK, hcell⟩ : ∃ K : Int, (K < 1 ∨ 128 < K) ∧ (#[.int .i64 mn, .int .i64 mx] : Array Value)[i]? = some (.int .i64 K) := by
        rcases (by omega : i = 0 ∨ i = 1) with rfl | rfl
        · exact ⟨mn, .inl HMM.out.1, rfl⟩
        · exact ⟨mx, .inr HMM.out.2, rfl⟩
      have k0 := HBK.out.cell hcell
      have C1 := Lib.hid (fun W => dealer_bad K hK W)
      have C2 := Lib.hid (fun W => vuln_bad K hK W)
      have C3 := Lib.hid (fun W => btext_bad K (fun _ => 0) hK W)
      have C4 := Lib.hid (fun W => bturn_bad K 1 70 (ofF d 0) (ofF d 1) (ofF d 2) (ofF d 3) rfl (Lib.hid (fun W => check_bad K (ofF d) hK W)) W)
      unfold z5 at C4
      have i2 : (i : Int) < 2 := by omega
      clear hK hcell
      go_wp2_with (first
        | (go_at_call 10; refine (C1.out _).mono ?_; rintro e w' ⟨rfl, rfl⟩)
        | (go_at_call 12; refine (C2.out _).mono ?_; rintro e w' ⟨rfl, rfl⟩))
      refine (C3.out _).mono ?_
      rintro e w3 ⟨rfl, hb⟩
      have HB3 := Lib.hid (bchain HB2.out hb)
      have HBD3 := Lib.hid (HBD2.out.keep hb HBD2.out.lt)
      have HBK3 := Lib.hid (HBK.out.keep hb HBK.out.lt)
      clear hb HB2 HBD2 HBK C1 C2 C3 k0
      have a0 := HBD3.out.cell (j := 0) (v := .int .u64 (ofF d 0 : Nat)) rfl
      have a1 := HBD3.out.cell (j := 1) (v := .int .u64 (ofF d 1 : Nat)) rfl
      have a2 := HBD3.out.cell (j := 2) (v := .int .u64 (ofF d 2 : Nat)) rfl
      have a3 := HBD3.out.cell (j := 3) (v := .int .u64 (ofF d 3 : Nat)) rfl
      go_wp2_with fail
      refine (C4.out _).mono ?_
      rintro e w4 ⟨rfl, hb⟩
      have hb4 := below1 w4 (.cells #[.int .i64 0, .int .u64 0, .int .u64 0, .int .u64 0, .int .u64 0] 56)
      have HB4 := Lib.hid (bchain (bchain HB3.out hb) hb4)
      have HBD4 := Lib.hid ((HBD3.out.keep hb HBD3.out.lt).keep hb4 (HBD3.out.keep hb HBD3.out.lt).lt)
      have HBK4 := Lib.hid ((HBK3.out.keep hb HBK3.out.lt).keep hb4 (HBK3.out.keep hb HBK3.out.lt).lt)
      have HR4 := Lib.hid (Blk.new w4 56 #[.int .i64 0, .int .u64 0, .int .u64 0, .int .u64 0, .int .u64 0])
      clear hb hb4 HB3 HBD3 HBK3 C4 a0 a1 a2 a3
      go_upto_region 9 with fail
      generalize w4.alloc (.cells #[.int .i64 0, .int .u64 0, .int .u64 0, .int .u64 0, .int .u64 0] 56) = W4 at *
      generalize w4.heap.size = p4 at *
      have r0 := HR4.out.cell (j := 0) (v := .int .i64 0) rfl
      have r1 := HR4.out.cell (j := 1) (v := .int .u64 0) rfl
      have r2 := HR4.out.cell (j := 2) (v := .int .u64 0) rfl
      have r3 := HR4.out.cell (j := 3) (v := .int .u64 0) rfl
      have r4 := HR4.out.cell (j := 4) (v := .int .u64 0) rfl
      have EQ := fun W => eqU9 35 Tryd.underlying35 0 0 0 0 0 0 0 0 W
      go_wp2_with fail
      go_roundw
      case rel => exact ⟨i + 1, by omega, by simp, HBD4, HBK4, HB4⟩
      case measure => simp [intOf]; omega
    · obtain rfl : i = 2 := by omega
      rw [show ((2 : Nat) : Int) = 2 from rfl]
      clear hi hlt HBK
      go_wp2_with fail
      refine (F1.out _).mono ?_
      rintro e w' ⟨rfl, rfl⟩
      go_wp2_with fail
      refine (F2.out _).mono ?_
      rintro e w' ⟨rfl, rfl⟩
      clear F1 F2 q0 q1
      have a0 := HBD2.out.cell (j := 0) (v := .int .u64 (ofF d 0 : Nat)) rfl
      have a1 := HBD2.out.cell (j := 1) (v := .int .u64 (ofF d 1 : Nat)) rfl
      have a2 := HBD2.out.cell (j := 2) (v := .int .u64 (ofF d 2 : Nat)) rfl
      have a3 := HBD2.out.cell (j := 3) (v := .int .u64 (ofF d 3 : Nat)) rfl
      go_upto_region 15 with fail
      have hb2 := below1 wr (.cells #[.int .u64 (ofF d 0 : Nat), .int .u64 (ofF d 1 : Nat), .int .u64 (ofF d 2 : Nat), .int .u64 (ofF d 3 : Nat)] 35)
      have HB3 := Lib.hid (bchain HB2.out hb2)
      have HBD3 := Lib.hid (HBD2.out.keep hb2 HBD2.out.lt)
      have HBB := Lib.hid (Blk.new wr 35 #[.int .u64 (ofF d 0 : Nat), .int .u64 (ofF d 1 : Nat), .int .u64 (ofF d 2 : Nat), .int .u64 (ofF d 3 : Nat)])
      have HPQ : Hid (p9 ≠ wr.heap.size ∧ w.heap.size ≤ wr.heap.size) := Lib.hid ⟨Nat.ne_of_lt HBD2.out.lt, HB2.out.size⟩
      clear hb2 HB2 HBD2 a0 a1 a2 a3
      generalize wr.alloc (.cells #[.int .u64 (ofF d 0 : Nat), .int .u64 (ofF d 1 : Nat), .int .u64 (ofF d 2 : Nat), .int .u64 (ofF d 3 : Nat)] 35) = W3 at *
      generalize wr.heap.size = pb at *
      obtain ⟨r, hr⟩ : ∃ r, x % 4 = r := ⟨_, rfl⟩
      have hr4 : r < 4 := by omega
      obtain ⟨lo, _, hlo, hand⟩ := low_and 64 (ofF d r) (right_pos HD.out.1 r hr4) (by have := right_lt52 HD.out.1 r hr4; omega)
      have hz52 := right_lt52 HD.out.1 r hr4
      have hzp := right_pos HD.out.1 r hr4
      have hlo52 := bit_lt hz52 hlo
      have hp52 : 2 ^ lo < 2 ^ 52 := Nat.pow_lt_pow_right (by omega) hlo52
      have hgr := dC_get (ofF d) r hr4
      have HW := Lib.hid (lack_wrong HD.out.1 r lo hr4 hlo)
      have HW52 := Lib.hid (lack_lt HD.out.1 r lo)
      have hset : (dC (ofF d)).setIfInBounds r (.int .u64 (clr (ofF d r) lo : Nat)) = dC (ofF (lack d r lo)) := by
        unfold dC
        rw [lack_at _ _ _ _ (by omega), lack_at _ _ _ _ (by omega), lack_at _ _ _ _ (by omega), lack_at _ _ _ _ (by omega)]
        rcases (by omega : r = 0 ∨ r = 1 ∨ r = 2 ∨ r = 3) with rfl | rfl | rfl | rfl <;> rfl
      obtain ⟨bd, hbd⟩ : ∃ bd, lack d r lo = bd := ⟨_, rfl⟩
      rw [hbd] at HW HW52 hset
      obtain ⟨z, hz⟩ : ∃ z, ofF d r = z := ⟨_, rfl⟩
      rw [hz] at hand hz52 hzp hgr hset
      have m1 : ((x : Int)).tmod 4 = (r : Int) := by rw [Int.tmod_eq_emod_of_nonneg (by omega)]; omega
      have m1b : (x : Int) % 4 = (r : Int) := by omega
      have m2 : (r : Int) < 4 := by omega
      have m3 : IntKind.u64.wrap (-(z : Int)) = ((18446744073709551616 - z : Nat) : Int) := by
        show (-(z : Int)) % 18446744073709551616 = _
        omega
      obtain ⟨pw, hpw⟩ : ∃ pw, 2 ^ lo = pw := ⟨_, rfl⟩
      rw [hpw] at hand hp52
      have m4 : bits BinOp.and IntKind.u64 (z : Int) ((18446744073709551616 - z : Nat) : Int) = (pw : Int) := by rw [u64_and_nat _ _ (by omega) (by omega), show (18446744073709551616 : Nat) = 2 ^ 64 from rfl, hand]
      have m5 : bits BinOp.andNot IntKind.u64 (z : Int) (pw : Int) = ((clr z lo : Nat) : Int) := by
        rw [u64_andNot_nat _ _ (by omega) (by omega), ← hpw]
        rfl
      have g0 := HBB.out.cell hgr
      have g1 := HBB.out.free r
      have HSET := Lib.hid hset
      clear hr hlo hand hz52 hzp hlo52 hp52 hgr hset hbd hz hpw hr4
      go_region
      have HBB4 := Lib.hid ((HBB.out.set r (.int .u64 (clr z lo : Nat))).drewN 1)
      rw [show #[Value.int .u64 (ofF d 0 : Nat), .int .u64 (ofF d 1 : Nat), .int .u64 (ofF d 2 : Nat), .int .u64 (ofF d 3 : Nat)] = dC (ofF d) from rfl, HSET.out, drew_one, show dC (ofF bd) = #[.int .u64 (ofF bd 0 : Nat), .int .u64 (ofF bd 1 : Nat), .int .u64 (ofF bd 2 : Nat), .int .u64 (ofF bd 3 : Nat)] from rfl] at HBB4
      have HBD4 := Lib.hid ((HBD3.out.other HPQ.out.1 r (.int .u64 (clr z lo : Nat))).drewN 1)
      have HB4 := Lib.hid (below_drewN (HB3.out.setCell (p := ⟨pb, r, none⟩) HPQ.out.2 (.int .u64 (clr z lo : Nat))) 1)
      rw [drew_one] at HBD4 HB4
      clear g0 g1 m1 m1b m2 m3 m4 m5 HSET HBB HBD3 HB3
      generalize (W3.setCell ⟨pb, r, none⟩ (.int .u64 (clr z lo : Nat))).drew = W4 at *
      have HB64 : Hid (F64 bd) := Lib.hid (fun k hk => by have := HW52.out k hk; omega)
      have C5 := Lib.hid (fun W => Calls.mono (changes_any (ofF bd) (ofF d) HB64.out HD.out.2 W) (fun e w' h => chg_wrong h (by unfold bothR; rw [HW.out]; rfl)))
      have C6 := Lib.hid (fun W => Calls.mono (changes_any (ofF d) (ofF bd) HD.out.2 HB64.out W) (fun e w' h => chg_wrong h (by unfold bothR; rw [HW.out, Bool.and_false])))
      have C8 := Lib.hid (fun W => btext_deal 5 (ofF bd) (by omega) (by omega) HB64.out HW.out W)
      have C9 := Lib.hid (fun W => bturn_bad 5 1 60 (ofF bd 0) (ofF bd 1) (ofF bd 2) (ofF bd 3) rfl (Lib.hid (fun W => by have := check_deal 5 (ofF bd) (by omega) (by omega) HB64.out W; rw [HW.out] at this; exact this)) W)
      unfold z5 at C9
      have a0 := HBD4.out.cell (j := 0) (v := .int .u64 (ofF d 0 : Nat)) rfl
      have a1 := HBD4.out.cell (j := 1) (v := .int .u64 (ofF d 1 : Nat)) rfl
      have a2 := HBD4.out.cell (j := 2) (v := .int .u64 (ofF d 2 : Nat)) rfl
      have a3 := HBD4.out.cell (j := 3) (v := .int .u64 (ofF d 3 : Nat)) rfl
      have b0 := HBB4.out.cell (j := 0) (v := .int .u64 (ofF bd 0 : Nat)) rfl
      have b1 := HBB4.out.cell (j := 1) (v := .int .u64 (ofF bd 1 : Nat)) rfl
      have b2 := HBB4.out.cell (j := 2) (v := .int .u64 (ofF bd 2 : Nat)) rfl
      have b3 := HBB4.out.cell (j := 3) (v := .int .u64 (ofF bd 3 : Nat)) rfl
      go_wp2_with fail
      refine (C5.out _).mono ?_
      rintro e w5 ⟨rfl, hb⟩
      have HB5 := Lib.hid (bchain HB4.out hb)
      have HBD5 := Lib.hid (HBD4.out.keep hb HBD4.out.lt)
      have HBB5 := Lib.hid (HBB4.out.keep hb HBB4.out.lt)
      clear hb HB4 HBD4 HBB4 a0 a1 a2 a3 b0 b1 b2 b3 C5
      have a0 := HBD5.out.cell (j := 0) (v := .int .u64 (ofF d 0 : Nat)) rfl
      have a1 := HBD5.out.cell (j := 1) (v := .int .u64 (ofF d 1 : Nat)) rfl
      have a2 := HBD5.out.cell (j := 2) (v := .int .u64 (ofF d 2 : Nat)) rfl
      have a3 := HBD5.out.cell (j := 3) (v := .int .u64 (ofF d 3 : Nat)) rfl
      have b0 := HBB5.out.cell (j := 0) (v := .int .u64 (ofF bd 0 : Nat)) rfl
      have b1 := HBB5.out.cell (j := 1) (v := .int .u64 (ofF bd 1 : Nat)) rfl
      have b2 := HBB5.out.cell (j := 2) (v := .int .u64 (ofF bd 2 : Nat)) rfl
      have b3 := HBB5.out.cell (j := 3) (v := .int .u64 (ofF bd 3 : Nat)) rfl
      go_wp2_with fail
      refine (C6.out _).mono ?_
      rintro e w6 ⟨rfl, hb⟩
      have HB6 := Lib.hid (bchain HB5.out hb)
      have HBD6 := Lib.hid (HBD5.out.keep hb HBD5.out.lt)
      have HBB6 := Lib.hid (HBB5.out.keep hb HBB5.out.lt)
      clear hb HB5 HBD5 HBB5 a0 a1 a2 a3 b0 b1 b2 b3 C6
      have a0 := HBD6.out.cell (j := 0) (v := .int .u64 (ofF d 0 : Nat)) rfl
      have a1 := HBD6.out.cell (j := 1) (v := .int .u64 (ofF d 1 : Nat)) rfl
      have a2 := HBD6.out.cell (j := 2) (v := .int .u64 (ofF d 2 : Nat)) rfl
      have a3 := HBD6.out.cell (j := 3) (v := .int .u64 (ofF d 3 : Nat)) rfl
      have b0 := HBB6.out.cell (j := 0) (v := .int .u64 (ofF bd 0 : Nat)) rfl
      have b1 := HBB6.out.cell (j := 1) (v := .int .u64 (ofF bd 1 : Nat)) rfl
      have b2 := HBB6.out.cell (j := 2) (v := .int .u64 (ofF bd 2 : Nat)) rfl
      have b3 := HBB6.out.cell (j := 3) (v := .int .u64 (ofF bd 3 : Nat)) rfl
      go_wp2_with fail
      have hb2 := below1 w6 (.cells #[.int .u64 (ofF d 0 : Nat), .int .u64 (ofF d 1 : Nat), .int .u64 (ofF d 2 : Nat), .int .u64 (ofF d 3 : Nat), .int .u64 (ofF bd 0 : Nat), .int .u64 (ofF bd 1 : Nat), .int .u64 (ofF bd 2 : Nat), .int .u64 (ofF bd 3 : Nat)] 35)
      have HB7 := Lib.hid (bchain HB6.out hb2)
      have HBD7 := Lib.hid (HBD6.out.keep hb2 HBD6.out.lt)
      have HBB7 := Lib.hid (HBB6.out.keep hb2 HBB6.out.lt)
      have HBS := Lib.hid (Blk.new w6 35 #[.int .u64 (ofF d 0 : Nat), .int .u64 (ofF d 1 : Nat), .int .u64 (ofF d 2 : Nat), .int .u64 (ofF d 3 : Nat), .int .u64 (ofF bd 0 : Nat), .int .u64 (ofF bd 1 : Nat), .int .u64 (ofF bd 2 : Nat), .int .u64 (ofF bd 3 : Nat)])
      clear hb2 HB6 HBD6 HBB6 a0 a1 a2 a3 b0 b1 b2 b3
      generalize w6.alloc (.cells #[.int .u64 (ofF d 0 : Nat), .int .u64 (ofF d 1 : Nat), .int .u64 (ofF d 2 : Nat), .int .u64 (ofF d 3 : Nat), .int .u64 (ofF bd 0 : Nat), .int .u64 (ofF bd 1 : Nat), .int .u64 (ofF bd 2 : Nat), .int .u64 (ofF bd 3 : Nat)] 35) = W7 at *
      generalize w6.heap.size = ps at *
      rw [eight] at HBS
      have C7 := Lib.hid (Calls.mono (classes_any (.slice (some ⟨ps, 0, none⟩) 2 2) [d, bd] (by simp) (fun j u hu => by
        have hj : j < 2 := (List.getElem?_eq_some_iff.1 hu).1
        rcases (by omega : j = 0 ∨ j = 1) with rfl | rfl
        · cases hu; exact HD.out.2
        · cases hu; exact HB64.out) W7 (dr_blk HBS.out _)) (fun e w' h => cls_wrong h (by show ¬ 24 < 2; omega) (all_bad (l := [d, bd]) (i := 1) rfl HW.out)))
      refine C7.out.mono ?_
      rintro e w8 ⟨hb, Ak, ck, rfl⟩
      have HB8 := Lib.hid (bchain HB7.out hb)
      have HBD8 := Lib.hid (HBD7.out.keep hb HBD7.out.lt)
      have HBB8 := Lib.hid (HBB7.out.keep hb HBB7.out.lt)
      clear hb HB7 HBD7 HBB7 HBS C7
      have b0 := HBB8.out.cell (j := 0) (v := .int .u64 (ofF bd 0 : Nat)) rfl
      have b1 := HBB8.out.cell (j := 1) (v := .int .u64 (ofF bd 1 : Nat)) rfl
      have b2 := HBB8.out.cell (j := 2) (v := .int .u64 (ofF bd 2 : Nat)) rfl
      have b3 := HBB8.out.cell (j := 3) (v := .int .u64 (ofF bd 3 : Nat)) rfl
      go_wp2_with fail
      refine (C8.out _).mono ?_
      rintro e w9 ⟨rfl, hb⟩
      have HB9 := Lib.hid (bchain HB8.out hb)
      have HBD9 := Lib.hid (HBD8.out.keep hb HBD8.out.lt)
      have HBB9 := Lib.hid (HBB8.out.keep hb HBB8.out.lt)
      clear hb HB8 HBD8 HBB8 b0 b1 b2 b3 C8
      have b0 := HBB9.out.cell (j := 0) (v := .int .u64 (ofF bd 0 : Nat)) rfl
      have b1 := HBB9.out.cell (j := 1) (v := .int .u64 (ofF bd 1 : Nat)) rfl
      have b2 := HBB9.out.cell (j := 2) (v := .int .u64 (ofF bd 2 : Nat)) rfl
      have b3 := HBB9.out.cell (j := 3) (v := .int .u64 (ofF bd 3 : Nat)) rfl
      go_wp2_with fail
      refine (C9.out _).mono ?_
      rintro e wA ⟨rfl, hb⟩
      have HBA := Lib.hid (bchain HB9.out hb)
      have HBDA := Lib.hid (HBD9.out.keep hb HBD9.out.lt)
      have HBBA := Lib.hid (HBB9.out.keep hb HBB9.out.lt)
      clear hb HB9 HBD9 HBB9 b0 b1 b2 b3 C9
      have hb4 := below1 wA (.cells #[.int .i64 0, .int .u64 0, .int .u64 0, .int .u64 0, .int .u64 0] 56)
      have HBC := Lib.hid (bchain HBA.out hb4)
      have HBDC := Lib.hid (HBDA.out.keep hb4 HBDA.out.lt)
      have HBBC := Lib.hid (HBBA.out.keep hb4 HBBA.out.lt)
      have HR4 := Lib.hid (Blk.new wA 56 #[.int .i64 0, .int .u64 0, .int .u64 0, .int .u64 0, .int .u64 0])
      clear hb4 HBA HBDA HBBA
      go_upto_region 21 with fail
      generalize wA.alloc (.cells #[.int .i64 0, .int .u64 0, .int .u64 0, .int .u64 0, .int .u64 0] 56) = WC at *
      generalize wA.heap.size = p4 at *
      have r0 := HR4.out.cell (j := 0) (v := .int .i64 0) rfl
      have r1 := HR4.out.cell (j := 1) (v := .int .u64 0) rfl
      have r2 := HR4.out.cell (j := 2) (v := .int .u64 0) rfl
      have r3 := HR4.out.cell (j := 3) (v := .int .u64 0) rfl
      have r4 := HR4.out.cell (j := 4) (v := .int .u64 0) rfl
      have EQ := fun W => eqU9 35 Tryd.underlying35 0 0 0 0 0 0 0 0 W
      have MK := mz_make
      have b0 := HBBC.out.cell (j := 0) (v := .int .u64 (ofF bd 0 : Nat)) rfl
      have b1 := HBBC.out.cell (j := 1) (v := .int .u64 (ofF bd 1 : Nat)) rfl
      have b2 := HBBC.out.cell (j := 2) (v := .int .u64 (ofF bd 2 : Nat)) rfl
      have b3 := HBBC.out.cell (j := 3) (v := .int .u64 (ofF bd 3 : Nat)) rfl
      go_upto_region 23 with fail
      clear r0 r1 r2 r3 r4 EQ HR4
      have hb2 := below1 WC (.cells mz25 35)
      have HB10 := Lib.hid (bchain HBC.out hb2)
      have HBD10 := Lib.hid (HBDC.out.keep hb2 HBDC.out.lt)
      have HBB10 := Lib.hid (HBBC.out.keep hb2 HBBC.out.lt)
      have HBM := Lib.hid (Blk.new WC 35 mz25)
      have HPQ2 : Hid (p9 ≠ WC.heap.size ∧ w.heap.size ≤ WC.heap.size) := Lib.hid ⟨Nat.ne_of_lt HBDC.out.lt, HBC.out.size⟩
      clear hb2 HBC HBDC HBBC b0 b1 b2 b3
      go_upto_region 24 with fail
      generalize WC.alloc (.cells mz25 35) = WD at *
      generalize WC.heap.size = pm at *
      clear MK
      have b0 := HBB10.out.cell (j := 0) (v := .int .u64 (ofF bd 0 : Nat)) rfl
      have b1 := HBB10.out.cell (j := 1) (v := .int .u64 (ofF bd 1 : Nat)) rfl
      have b2 := HBB10.out.cell (j := 2) (v := .int .u64 (ofF bd 2 : Nat)) rfl
      have b3 := HBB10.out.cell (j := 3) (v := .int .u64 (ofF bd 3 : Nat)) rfl
      have m0 := HBM.out.cell (mz_get 0 (by omega))
      have m1 := HBM.out.cell (mz_get 1 (by omega))
      have m2 := HBM.out.cell (mz_get 2 (by omega))
      have m3 := HBM.out.cell (mz_get 3 (by omega))
      have g0 := HBM.out.free 0
      have g1 := HBM.out.free 1
      have g2 := HBM.out.free 2
      have g3 := HBM.out.free 3
      go_upto_region 25 with fail
      have HBM1 := Lib.hid ((((HBM.out.set 0 (.int .u64 (ofF bd 0 : Nat))).set 1 (.int .u64 (ofF bd 1 : Nat))).set 2 (.int .u64 (ofF bd 2 : Nat))).set 3 (.int .u64 (ofF bd 3 : Nat)))
      rw [mz_set] at HBM1
      have HBD11 := Lib.hid ((((HBD10.out.other HPQ2.out.1 0 (.int .u64 (ofF bd 0 : Nat))).other HPQ2.out.1 1 (.int .u64 (ofF bd 1 : Nat))).other HPQ2.out.1 2 (.int .u64 (ofF bd 2 : Nat))).other HPQ2.out.1 3 (.int .u64 (ofF bd 3 : Nat)))
      have HB11 := Lib.hid (((((HB10.out.setCell (p := ⟨pm, 0, none⟩) HPQ2.out.2 (.int .u64 (ofF bd 0 : Nat))).setCell (p := ⟨pm, 1, none⟩) HPQ2.out.2 (.int .u64 (ofF bd 1 : Nat))).setCell (p := ⟨pm, 2, none⟩) HPQ2.out.2 (.int .u64 (ofF bd 2 : Nat))).setCell (p := ⟨pm, 3, none⟩) HPQ2.out.2 (.int .u64 (ofF bd 3 : Nat))))
      clear b0 b1 b2 b3 m0 m1 m2 m3 g0 g1 g2 g3 HBM HBD10 HBB10 HB10
      generalize (((WD.setCell ⟨pm, 0, none⟩ (.int .u64 (ofF bd 0 : Nat))).setCell ⟨pm, 1, none⟩ (.int .u64 (ofF bd 1 : Nat))).setCell ⟨pm, 2, none⟩ (.int .u64 (ofF bd 2 : Nat))).setCell ⟨pm, 3, none⟩ (.int .u64 (ofF bd 3 : Nat)) = WE at *
      have C10 := Lib.hid (Calls.mono (classes_any (.slice (some ⟨pm, 0, none⟩) 25 25) (bd :: List.replicate 24 (0, 0, 0, 0)) (by show 25 ≤ 100000; omega) (fun j u hu => by
        rcases j with _ | j
        · cases hu; exact HB64.out
        · have hu2 : (List.replicate 24 ((0, 0, 0, 0) : Four))[j]? = some u := hu
          rw [List.getElem?_replicate] at hu2
          split at hu2
          · cases hu2; exact fun k hk => by rw [zero_four k hk]; omega
          · cases hu2) WE (by have h := dr_blk (l := (bd :: List.replicate 24 (0, 0, 0, 0))) HBM1.out 35; exact h)) (fun e w' h => cls_many h (by show 24 < 25; omega)))
      go_wp2_with fail
      refine C10.out.mono ?_
      rintro e w12 ⟨hb, Ak2, ck2, rfl⟩
      have HB12 := Lib.hid (bchain HB11.out hb)
      have HBD12 := Lib.hid (HBD11.out.keep hb HBD11.out.lt)
      clear hb HB11 HBD11 HBM1 C10
      go_upto_region 28 with fail
      obtain ⟨TD, hTD⟩ : ∃ X : ByteArray, X = ⟨(textD (ofF d)).toArray⟩ := ⟨_, rfl⟩
      have hp : partB (ofF d) = true := by
        have h := HD.out.1
        unfold rightB at h
        exact (Bool.and_eq_true _ _ ▸ h).1
      have C11 := Lib.hid (fun W => dtext_ok (ofF d) HD.out.2 hp W)
      unfold strV' at C11
      rw [← hTD] at C11
      have HTD := Lib.hid hTD
      clear hTD hp
      have a0 := HBD12.out.cell (j := 0) (v := .int .u64 (ofF d 0 : Nat)) rfl
      have a1 := HBD12.out.cell (j := 1) (v := .int .u64 (ofF d 1 : Nat)) rfl
      have a2 := HBD12.out.cell (j := 2) (v := .int .u64 (ofF d 2 : Nat)) rfl
      have a3 := HBD12.out.cell (j := 3) (v := .int .u64 (ofF d 3 : Nat)) rfl
      go_wp2_with fail
      refine (C11.out _).mono ?_
      rintro e w13 ⟨rfl, hb⟩
      have HB13 := Lib.hid (bchain HB12.out hb)
      have HBD13 := Lib.hid (HBD12.out.keep hb HBD12.out.lt)
      clear hb HB12 HBD12 C11 a0 a1 a2 a3
      go_upto_region 29 with fail
      obtain ⟨R, hR⟩ : ∃ R, R = x % 128 := ⟨_, rfl⟩
      obtain ⟨n, hn⟩ : ∃ n, n = 1 + R := ⟨_, rfl⟩
      have e0 : IntKind.i64.wrap (x : Int) = (x : Int) := IntWalk.i64_in _ (by have := HXY.out.1; omega)
      have e1 : ((x : Int)).tmod 128 = (R : Int) := by rw [Int.tmod_eq_emod_of_nonneg (by omega)]; omega
      have e2 : IntKind.i64.wrap (1 + (R : Int)) = ((n : Nat) : Int) := by rw [show ((n : Nat) : Int) = 1 + (R : Int) by omega]; exact IntWalk.i64_in _ (by have := HXY.out.1; omega)
      have HN : Hid (1 ≤ n ∧ n ≤ 128) := Lib.hid ⟨by omega, by omega⟩
      obtain ⟨TB, hTB⟩ : ∃ X : ByteArray, X = ⟨(textB n (ofF d)).toArray⟩ := ⟨_, rfl⟩
      have C12 := Lib.hid (fun W => dealer_ok n HN.out.1 HN.out.2 W)
      have C13 := Lib.hid (fun W => vuln_ok n HN.out.1 HN.out.2 W)
      have C14 := Lib.hid (fun W => btext_ok n (ofF d) HN.out.1 HN.out.2 HD.out.2 HD.out.1 W)
      unfold strV' at C14
      rw [← hTB] at C14
      obtain ⟨dl, hdl⟩ : ∃ dl, dl = dealP n := ⟨_, rfl⟩
      obtain ⟨vl, hvl⟩ : ∃ vl, vl = vulP n := ⟨_, rfl⟩
      rw [← hdl] at C12
      rw [← hvl] at C13
      have HDV : Hid (dl = dealP n ∧ vl = vulP n) := Lib.hid ⟨hdl, hvl⟩
      have HTB := Lib.hid hTB
      have HV4 : Hid (dl < 4 ∧ vl < 4) := Lib.hid ⟨by rw [hdl]; exact deal_lt n, by rw [hvl]; exact vul_lt n⟩
      clear hR hn hTB hdl hvl
      have a0 := HBD13.out.cell (j := 0) (v := .int .u64 (ofF d 0 : Nat)) rfl
      have a1 := HBD13.out.cell (j := 1) (v := .int .u64 (ofF d 1 : Nat)) rfl
      have a2 := HBD13.out.cell (j := 2) (v := .int .u64 (ofF d 2 : Nat)) rfl
      have a3 := HBD13.out.cell (j := 3) (v := .int .u64 (ofF d 3 : Nat)) rfl
      go_wp2_with (first
        | (go_at_call 10; refine (C12.out _).mono ?_; rintro e w' ⟨rfl, rfl⟩)
        | (go_at_call 12; refine (C13.out _).mono ?_; rintro e w' ⟨rfl, rfl⟩))
      refine (C14.out _ (HE.out.keep HB13.out)).mono ?_
      rintro e w14 ⟨rfl, hb⟩
      have HB14 := Lib.hid (bchain HB13.out hb)
      clear hb HB13 HBD13 C12 C13 C14 a0 a1 a2 a3 e0 e1 e2
      go_upto_region 33 with fail
      obtain ⟨b, hb0⟩ : ∃ b, TB.size = b := ⟨_, rfl⟩
      obtain ⟨t, ht0⟩ : ∃ t, TD.size = t := ⟨_, rfl⟩
      obtain ⟨W0, hW0⟩ : ∃ X : ByteArray, (⟨#[110, 111, 110, 101]⟩ : ByteArray) = X := ⟨_, rfl⟩
      obtain ⟨W1s, hW1⟩ : ∃ X : ByteArray, (⟨#[78, 83]⟩ : ByteArray) = X := ⟨_, rfl⟩
      obtain ⟨W2s, hW2⟩ : ∃ X : ByteArray, (⟨#[69, 87]⟩ : ByteArray) = X := ⟨_, rfl⟩
      obtain ⟨W3s, hW3⟩ : ∃ X : ByteArray, (⟨#[98, 111, 116, 104]⟩ : ByteArray) = X := ⟨_, rfl⟩
      have HBW := Lib.hid (Blk.new w14 64 #[.string ⟨#[110, 111, 110, 101]⟩, .string ⟨#[78, 83]⟩, .string ⟨#[69, 87]⟩, .string ⟨#[98, 111, 116, 104]⟩])
      have HWD : Hid (∀ v, v < 4 → (#[.string ⟨#[110, 111, 110, 101]⟩, .string ⟨#[78, 83]⟩, .string ⟨#[69, 87]⟩, .string ⟨#[98, 111, 116, 104]⟩] : Array Value)[v]? = some (.string ⟨(wordW v).toArray⟩)) := Lib.hid (fun v hv => by
        rcases (by omega : v = 0 ∨ v = 1 ∨ v = 2 ∨ v = 3) with rfl | rfl | rfl | rfl <;> rfl)
      clear hW0 hW1 hW2 hW3
      have HB15 := Lib.hid (bchain HB14.out (below1 w14 (.cells #[.string ⟨#[110, 111, 110, 101]⟩, .string ⟨#[78, 83]⟩, .string ⟨#[69, 87]⟩, .string ⟨#[98, 111, 116, 104]⟩] 64)))
      clear HB14
      go_upto_region 34 with fail
      generalize w14.alloc (.cells #[.string ⟨#[110, 111, 110, 101]⟩, .string ⟨#[78, 83]⟩, .string ⟨#[69, 87]⟩, .string ⟨#[98, 111, 116, 104]⟩] 64) = WF at *
      generalize w14.heap.size = pw at *
      obtain ⟨WV, hWV⟩ : ∃ X : ByteArray, X = ⟨(wordW vl).toArray⟩ := ⟨_, rfl⟩
      have x0 := HBW.out.cell (HWD.out vl HV4.out.2)
      rw [← hWV] at x0
      obtain ⟨v, hv0⟩ : ∃ v, WV.size = v := ⟨_, rfl⟩
      have hlen : b = (numL n).length + 1 + v + t + 3 := by
        have h := tx_len n (dealP n) (vulP n) (ofF d)
        rw [← tx_is] at h
        have h1 : TB.size = (textB n (ofF d)).length := by rw [HTB.out]; rfl
        have h2 : TD.size = (textD (ofF d)).length := by rw [HTD.out]; rfl
        have h3 : WV.size = (wordW vl).length := by rw [hWV]; rfl
        rw [HDV.out.2] at h3
        omega
      have hb2 : b < 1000 := by
        have h1 : TB.size = (textB n (ofF d)).length := by rw [HTB.out]; rfl
        have := textB_len n (ofF d)
        omega
      obtain ⟨k, hk⟩ : ∃ k, k = (numL n).length := ⟨_, rfl⟩
      have hvl4 := HV4.out.2
      have e1 : IntKind.i64.wrap ((b : Int) - (t : Int)) = ((b - t : Nat) : Int) := by rw [show ((b - t : Nat) : Int) = (b : Int) - (t : Int) by omega]; exact IntWalk.i64_in _ (by omega)
      have e2 : IntKind.i64.wrap (((b - t : Nat) : Int) - (v : Int)) = ((b - t - v : Nat) : Int) := by rw [show ((b - t - v : Nat) : Int) = ((b - t : Nat) : Int) - (v : Int) by omega]; exact IntWalk.i64_in _ (by omega)
      have e3 : IntKind.i64.wrap (((b - t - v : Nat) : Int) - 4) = ((k : Nat) : Int) := by rw [show ((k : Nat) : Int) = ((b - t - v : Nat) : Int) - 4 by omega]; exact IntWalk.i64_in _ (by omega)
      have hkb : (k : Int) ≤ (b : Int) := by omega
      have hkb2 : k ≤ b := by omega
      have hv4i : (vl : Int) < 4 := by omega
      obtain ⟨DG, hDG⟩ : ∃ X : ByteArray, X = TB.extract 0 k := ⟨_, rfl⟩
      have HDG : Hid (DG = ⟨(numL n).toArray⟩) := Lib.hid (by
        rw [hDG, HTB.out, hk]
        apply ByteArray.ext
        simp [textB, sp, ByteArray.data_extract])
      have HKS := Lib.hid (And.intro hk (And.intro hb2 hlen))
      have HWV := Lib.hid hWV
      have HDX := Lib.hid hDG
      clear hk hb2 hlen hWV hDG
      go_upto_region 35 with fail
      have hs48 : TB.extract 0 k = DG := HDX.out.symm
      go_wp2_with fail
      (try rw [hs48])
      (try simp only [Int.toNat_natCast, hs48])
      clear hs48 e1 e2 e3 hkb hkb2 hv4i x0 hvl4
      go_loopw [275] (fun s275 wr => ∃ i : Nat, i ≤ 16 ∧ s275 = .int .u8 (i : Int) ∧ Hid (Blk wr pw 64 #[.string ⟨#[110, 111, 110, 101]⟩, .string ⟨#[78, 83]⟩, .string ⟨#[69, 87]⟩, .string ⟨#[98, 111, 116, 104]⟩]) ∧ Hid (Below w.heap.size w wr)) (fun s275 _ => 16 - (intOf s275).toNat)
      case atStart => exact ⟨0, by omega, rfl, HBW, HB15⟩
      case round =>
        clear HBW HB15
        obtain ⟨i, hi, rfl, HBW, HB15⟩ := hrel
        by_cases hlt : i < 16
        · obtain ⟨r, hr⟩ : ∃ r, i % 4 = r := ⟨_, rfl⟩
          obtain ⟨q, hq⟩ : ∃ q, i / 4 = q := ⟨_, rfl⟩
          have hr4 : r < 4 := by omega
          have hq4 : q < 4 := by omega
          have hq5 : (q : Int) < 4 := by omega
          have u1 : decide ((i : Int) < 16) = true := decide_eq_true (by omega)
          have y1 : IntKind.u8.wrap ((i : Int) + 1) = ((i + 1 : Nat) : Int) := by show ((i : Int) + 1) % 256 = _; omega
          have y1b : ((i : Int) + 1) % 256 = ((i + 1 : Nat) : Int) := by omega
          have m1 : ((i : Int)).tmod 4 = (r : Int) := by rw [Int.tmod_eq_emod_of_nonneg (by omega)]; omega
          have m1b : (i : Int) % 4 = (r : Int) := by omega
          have m2 : ((i : Int)).tdiv 4 = (q : Int) := by rw [Int.tdiv_eq_ediv_of_nonneg (by omega)]; omega
          have m2b : (i : Int) / 4 = (q : Int) := by omega
          have m3 : IntKind.u8.wrap (q : Int) = (q : Int) := by show (q : Int) % 256 = _; omega
          have m3b : (q : Int) % 256 = (q : Int) := by omega
          have m4 : IntKind.u8.wrap (r : Int) = (r : Int) := by show (r : Int) % 256 = _; omega
          have m4b : (r : Int) % 256 = (r : Int) := by omega
          have e1 : IntKind.u8.wrap ((r : Int) + 1) = ((r + 1 : Nat) : Int) := by show ((r : Int) + 1) % 256 = _; omega
          have e1b : ((r : Int) + 1) % 256 = ((r + 1 : Nat) : Int) := by omega
          have hr1 : (0 : Int) ≤ (r : Int) + 1 ∧ (r : Int) + 1 ≤ 4 := by omega
          have hr2 : (r : Int) ≤ (r : Int) + 1 := by omega
          obtain ⟨SS, hSS⟩ : ∃ X : ByteArray, X = ⟨(seatW r).toArray⟩ := ⟨_, rfl⟩
          obtain ⟨WQ, hWQ⟩ : ∃ X : ByteArray, X = ⟨(wordW q).toArray⟩ := ⟨_, rfl⟩
          have hcut2 := seat_cut r hr4
          rw [← hSS] at hcut2
          have x0 := HBW.out.cell (HWD.out q hq4)
          rw [← hWQ] at x0
          obtain ⟨z0, z1, z2, z3, z4, hread⟩ := read_tx n r q d HN.out.1 HN.out.2 hr4 hq4 HD.out.1
          obtain ⟨G1, a1⟩ : ∃ X : ByteArray, DG ++ ⟨#[32]⟩ = X := ⟨_, rfl⟩
          obtain ⟨G2, a2⟩ : ∃ X : ByteArray, G1 ++ SS = X := ⟨_, rfl⟩
          obtain ⟨G3, a3⟩ : ∃ X : ByteArray, G2 ++ ⟨#[32]⟩ = X := ⟨_, rfl⟩
          obtain ⟨G4, a4⟩ : ∃ X : ByteArray, G3 ++ WQ = X := ⟨_, rfl⟩
          obtain ⟨G5, a5⟩ : ∃ X : ByteArray, G4 ++ ⟨#[32]⟩ = X := ⟨_, rfl⟩
          obtain ⟨S, a6⟩ : ∃ X : ByteArray, G5 ++ TD = X := ⟨_, rfl⟩
          have hS2 : S = ⟨(tx n r q (ofF d)).toArray⟩ := by
            rw [← a6, ← a5, ← a4, ← a3, ← a2, ← a1, HDG.out, hSS, hWQ, HTD.out]
            apply ByteArray.ext
            simp [tx]
          rw [← hS2] at hread
          obtain ⟨cc, hcc⟩ : ∃ cc : Int, cc = if r = dealP n ∧ q = vulP n then 0 else 71 := ⟨_, rfl⟩
          rw [← hcc] at hread
          rw [← HDV.out.1, ← HDV.out.2] at hcc
          have hz : DG.size + SS.size + WQ.size + TD.size < 2000 := by
            have h1 := HDG.out
            have h2 : DG.size = (numL n).length := by rw [h1]; rfl
            have h3 : SS.size = 1 := by rw [hSS]; rfl
            have h4 : WQ.size = (wordW q).length := by rw [hWQ]; rfl
            have h5 := num_len n
            have h6 := word_len q
            have h7 := HKS.out.2
            omega
          have s1 : G1.size = DG.size + 1 := by rw [← a1, ByteArray.size_append]; rfl
          have s2 : G2.size = G1.size + SS.size := by rw [← a2, ByteArray.size_append]
          have s3 : G3.size = G2.size + 1 := by rw [← a3, ByteArray.size_append]; rfl
          have s4 : G4.size = G3.size + WQ.size := by rw [← a4, ByteArray.size_append]
          have s5 : G5.size = G4.size + 1 := by rw [← a5, ByteArray.size_append]; rfl
          have t1 : ¬ 9223372036854775807 < DG.size + 1 := by omega
          have t2 : ¬ 9223372036854775807 < G1.size + SS.size := by omega
          have t3 : ¬ 9223372036854775807 < G2.size + 1 := by omega
          have t4 : ¬ 9223372036854775807 < G3.size + WQ.size := by omega
          have t5 : ¬ 9223372036854775807 < G4.size + 1 := by omega
          have t6 : ¬ 9223372036854775807 < G5.size + TD.size := by omega
          have t6b : ¬ 9223372036854775807 < G5.size + t := by omega
          clear s1 s2 s3 s4 s5 ht0
          have RD := Lib.hid hread
          have HCC := Lib.hid hcc
          have HRQ := Lib.hid (And.intro hlt (And.intro hr4 hq4))
          clear hS2 hread hcc hSS hWQ hz hr hq hi hlt hr4 hq4
          go_upto_region 38 with fail
          go_cut [51] (fun s51 wx => s51 = .int .i64 cc ∧ Hid (Blk wx pw 64 #[.string ⟨#[110, 111, 110, 101]⟩, .string ⟨#[78, 83]⟩, .string ⟨#[69, 87]⟩, .string ⟨#[98, 111, 116, 104]⟩]) ∧ Hid (Below w.heap.size w wx))
          case first =>
            have HEW := Lib.hid (HE.out.keep HB15.out)
            have HB0 : Hid (w.heap.size ≤ wr.heap.size) := Lib.hid HB15.out.size
            have SOF := Lib.hid (fun (wx : World) (hb : Below wr.heap.size wr wx) => (⟨cell_keep x0 hb, hb⟩ : wx.cell? ⟨pw, q, none⟩ = some (.string WQ) ∧ Below wr.heap.size wr wx))
            have RDW := Lib.hid (fun (wx : World) (hb : Below wr.heap.size wr wx) => RD.out wx (HEW.out.keep hb))
            clear x0 RD HE HEW y1 y1b HDV HTD HTB HKS HCC HRQ HN HDG HWV HDX HWD HV4 HD HXY
            go_region_held3 (fun wx => wx.cell? ⟨pw, q, none⟩ = some (.string WQ) ∧ Below wr.heap.size wr wx)
              (first | exact SOF.out _ (Below.refl _ _) | exact SOF.out _ (Below.drew (Below.refl _ _)) | exact SOF.out _ (Below.alloc (Below.drew (Below.refl _ _)) (Nat.le_refl _) _) | exact SOF.out _ hB | exact SOF.out _ (hB.alloc hB.size _) | exact SOF.out _ (z5below hB (Nat.le_refl _) _ _ _ _ _))
              (first | (go_at_call 24; (with_reducible refine (RDW.out _ (by assumption : _ ∧ Below wr.heap.size wr _).2).mono ?_); rintro e w' ⟨rfl, hb⟩; (have hB := bchain (by assumption : _ ∧ Below wr.heap.size wr _).2 hb); obtain ⟨hc, hf⟩ := bcell hb))
            all_goals
              clear hc hf
              go_wp2
              go_meet
              first
                | with_reducible exact ⟨rfl, Lib.hid ((HBW.out.keep hB HBW.out.lt).alloc _), Lib.hid (HB15.out.trans ((hB.alloc hB.size _).mono HB0.out))⟩
                | with_reducible exact ⟨rfl, Lib.hid (rec_late HBW.out hb _ _ _ _ _), Lib.hid (HB15.out.trans ((z5below hB (Nat.le_refl _) _ _ _ _ _).mono HB0.out))⟩
                | exact ⟨rfl, Lib.hid ((HBW.out.keep hB HBW.out.lt).alloc _), Lib.hid (HB15.out.trans ((hB.alloc hB.size _).mono HB0.out))⟩
                | exact ⟨rfl, Lib.hid (rec_late HBW.out hb _ _ _ _ _), Lib.hid (HB15.out.trans ((z5below hB (Nat.le_refl _) _ _ _ _ _).mono HB0.out))⟩
          case rest =>
            obtain ⟨rfl, HBW2, HB16⟩ := hcut
            clear HBW HB15 x0 RD a1 a2 a3 a4 a5 a6 t1 t2 t3 t4 t5 t6 t6b e1 e1b hr1 hr2 hcut2 hq5
            have hcc := HCC.out
            by_cases k1 : r = dl
            · by_cases k2 : q = vl
              · rw [if_pos ⟨k1, k2⟩] at hcc
                subst k1 k2 hcc
                go_wp2_with fail
                go_roundw
                case rel => exact ⟨i + 1, by have := HRQ.out; omega, by simp, HBW2, HB16⟩
                case measure => have := HRQ.out; simp [intOf]; omega
              · rw [if_neg (fun h => k2 h.2)] at hcc
                subst k1 hcc
                have k3 : ((q : Int) == (vl : Int)) = false := beq_eq_false_iff_ne.2 (by omega)
                have k4 : ¬ (q : Int) = (vl : Int) := by omega
                go_wp2_with fail
                go_roundw
                case rel => exact ⟨i + 1, by have := HRQ.out; omega, by simp, HBW2, HB16⟩
                case measure => have := HRQ.out; simp [intOf]; omega
            · rw [if_neg (fun h => k1 h.1)] at hcc
              subst hcc
              have k3 : ((r : Int) == (dl : Int)) = false := beq_eq_false_iff_ne.2 (by omega)
              have k4 : ¬ (r : Int) = (dl : Int) := by omega
              go_wp2_with fail
              go_roundw
              case rel => exact ⟨i + 1, by have := HRQ.out; omega, by simp, HBW2, HB16⟩
              case measure => have := HRQ.out; simp [intOf]; omega
        · obtain rfl : i = 16 := by omega
          rw [show ((16 : Nat) : Int) = 16 from rfl]
          clear hi hlt
          go_wp2_with fail
          refine (awake_any _ (HE.out.keep HB15.out)).mono ?_
          rintro e wA ⟨rfl, hb⟩
          have HBA := Lib.hid (bchain HB15.out hb)
          clear hb HB15
          go_wp2_with fail
          go_ret
          exact ⟨rfl, HBA.out⟩
theorem wrong_open (v0 : Value) (N : Int) (hN : -9223372036854775808 ≤ N ∧ N ≤ 9223372036854775807) (x y : Nat) (hx : x < 256) (hy : y < 256) (w : World) (he : Env w) (h0 : ∃ l : List Nat, BV w v0 l ∧ ∀ x ∈ l, x < 256) : Calls Tryd.prog 9 #[v0, .int .i64 N, .int .u8 (x : Int), .int .u8 (y : Int)] w (fun e w' => e = .returned (.bool true) ∧ Below w.heap.size w w') := by
  obtain ⟨l0, a0, b0⟩ := h0
  exact wrong_walk v0 l0 N hN x y hx hy w he a0 b0
end Go.Proofs.YtaadipccgckehaaDoor
namespace Go.Proofs.YtaadipccgckehaaDoor.boardWrong
open Go Go.ChangeShapes Go.ChangeMaps Go.WideShapes Go.ChangeAt Go.WideMaps Go.WideElems Go.RowKit

set_option maxRecDepth 100000 in
theorem lifted (os : Os) (started : os.Started) (H : Type) (enc : TypeId × Value → H) :
    ReturnsInHanded {} Tryd.checked os 9 .any (fun w args => (Rows.boardWrongSpec.pre enc Tryd.prog Tryd.f9 [] false w args ∧ laidMetH Tryd.prog laids w) ∧ sizedMet enc Tryd.prog Tryd.f9 (OpenSpec.ofChange Rows.boardWrongSpec) false w args)
      (Rows.boardWrongSpec.post enc Tryd.prog Tryd.f9 false true false false) := by
  refine handed_and_shaped (C := Tryd.checked) (X := fun w _ => laidMetH Tryd.prog laids w) (fun _ _ _ hh h => h.of_heap hh) own started (by kernel_rfl) Tryd.func9
    (ChangeSpec.witness_shaped (enc := enc) (C := Tryd.checked) (os := os) (X := fun w _ => laidMetH Tryd.prog laids w) false (World.laidAll Tryd.prog os laids) #[.slice none 0 0, .int .i64 0, .int .u8 0, .int .u8 0] 8 (World.laidAll_os _ _ _) (World.shaped_of_ZipB (by kernel_rfl) (by kernel_rfl)) (by kernel_rfl) (by kernel_rfl) (by kernel_rfl) (door_met os _)) ?_
  intro W base args ds gs before hval0 hW _ hsz hL hshape _
  have hval : ∀ (j : Nat) t v, Tryd.f9.params[j]? = some t → args[j]? = some v → Value.okWide Tryd.prog W .any base t v := hval0
  have hW' := hW
  obtain ⟨p, q, hA0, hV, rfl, hfz, hnd⟩ := hW
  have hA : DataW.TrodAll enc Tryd.prog W 0 (fun _ => true) true Tryd.f9.params.toList args.toList ds p := hA0
  rw [Tryd.params9] at hA hval
  obtain ⟨v0, vs0, d0, ds0, p0, q0, hargs0, rfl, rfl, h0, r0⟩ := trodAll_cons hA
  obtain ⟨v1, vs1, d1, ds1, p1, q1, hargs1, rfl, rfl, h1, r1⟩ := trodAll_cons r0
  obtain ⟨v2, vs2, d2, ds2, p2, q2, hargs2, rfl, rfl, h2, r2⟩ := trodAll_cons r1
  obtain ⟨v3, vs3, d3, ds3, p3, q3, hargs3, rfl, rfl, h3, r3⟩ := trodAll_cons r2
  obtain ⟨rfl, rfl, rfl⟩ := trodAll_nil r3
  obtain rfl : args = #[v0, v1, v2, v3] := by cases args; simp_all
  obtain ⟨rfl, rfl⟩ := trodVars_none hV
  obtain ⟨A0, n0, c0, rfl⟩ := okWide_slice Tryd.underlying43 (hval 0 43 v0 rfl rfl)
  obtain ⟨b1, rfl, rfl, rfl, w1⟩ := open_int Tryd.underlying3 (hval 1 3 v1 rfl rfl) h1
  obtain ⟨a2, rfl, rfl, rfl, w2⟩ := open_int Tryd.underlying5 (hval 2 5 v2 rfl rfl) h2
  obtain ⟨b2, e2⟩ := nat_of_u8 w2
  subst e2
  obtain ⟨a3, rfl, rfl, rfl, w3⟩ := open_int Tryd.underlying5 (hval 3 5 v3 rfl rfl) h3
  obtain ⟨b3, e3⟩ := nat_of_u8 w3
  subst e3
  clear hA0 hval0
  simp only [List.append_nil] at hW'
  have hlt0 : ∀ x ∈ p0, x.block < W.heap.size := fun x hx => by simpa using hW'.lt x (by first | (simpa using hx) | (simp; exact Or.inl hx) | (simp; exact Or.inr hx) | (simp; exact Or.inr (Or.inl hx)) | (simp; exact Or.inr (Or.inr hx)))
  refine (wrong_open _ b1 (i64_of w1) b2 b3 (u8_lt w2) (u8_lt w3) W (env_of_laid hL hshape) (open_bv (hval 0 43 _ rfl rfl) h0)).mono fun e W' ⟨he, hg⟩ => ?_
  subst he
  exact ⟨_, rfl, _, _, _, [], (p0 ++ ([] ++ ([] ++ ([] ++ [])))), [], hW', trodAll_mk1 (shut_bool Tryd.underlying4 _), (trodAll_cons_mk (Below.trod (show laidOutB Tryd.prog = true by kernel_rfl) (by kernel_rfl) (of_decide_eq_true (by kernel_rfl)) h0 hg hlt0) (trodAll_cons_mk (shut_int Tryd.underlying3 w1) (trodAll_cons_mk (shut_int Tryd.underlying5 w2) (trodAll_cons_mk (shut_int Tryd.underlying5 w3) trodAll_mk0)))), rfl, hg.frame _, fun h => by cases h⟩

theorem over : Rows.BoardWrongSaid :=
  OpenClaim.holds_of_wide 9 Tryd.f9 rfl rfl rfl rfl rfl rfl rfl ⟨rfl, rfl, rfl, rfl, rfl⟩ rfl rfl rfl rfl rfl (by kernel_rfl) Tryd.func9 (by kernel_rfl)
    (of_decide_eq_true (by kernel_rfl)) (by unfold Func.isWrapper; first | (rw [if_pos (by decide +kernel)]; kernel_rfl) | (rw [if_neg (by decide +kernel)]; exact ⟨rfl, rfl⟩))
    (fun os started H enc _ => lifted os started H enc)

theorem card_holds : Rows.BoardWrongCardSaid :=
  Claim7.holds_tied_plain_at .later [] [.data, .data, .data, .data, .sentinel, .sentinel, .data, .pinned] true (true, "3c7b59e18d11e63da416fff067d755b1a2c006713f14556e38621fc300f04fa6") true
    over (fun _ h => by cases h) (by kernel_rfl) (fun _ h => by cases h) boardWrong_row_tie rfl ⟨rfl, rfl⟩ (by kernel_rfl) rfl
    (fun f fn hf hfn => by
      obtain rfl : f = 9 := Option.some.inj ((show Tryd.prog.funcNamed "finesse/finesselaw07.BoardWrong" = some 9 by kernel_rfl).symm.trans hf) |>.symm
      obtain rfl : fn = Tryd.f9 := (Option.some.inj (Tryd.func9.symm.trans hfn)).symm
      exact ⟨by kernel_rfl, fun j t ht => by
        rw [Tryd.params9] at ht
        have hm : t ∈ [43, 3, 5, 5] := by simpa using Array.mem_of_getElem? ht
        have hall : ([43, 3, 5, 5].all fun u => !Tryd.prog.wantsStandIn u) = true := by kernel_rfl
        exact (show Tryd.prog.wantsStandIn t = false by simpa using List.all_eq_true.1 hall t hm)⟩)
    (by kernel_rfl)
#print axioms card_holds
end Go.Proofs.YtaadipccgckehaaDoor.boardWrong
