/- The reading of a record: board.Read. -/
import Derived.Test.YtaadipccgckehaaGreatDoorCD
import Derived.Test.YtaadipccgckehaaGreatDoorPlM
import Derived.Test.YtaadipccgckehaaGreatDoorCut
namespace Go.Proofs.YtaadipccgckehaaGreatDoor
open Go Go.RowKit Go.Shelf Pl

def recV (n : Int) (D : Nat → Nat) : Value := .agg #[.int .i64 n, .int .u64 (D 0 : Nat), .int .u64 (D 1 : Nat), .int .u64 (D 2 : Nat), .int .u64 (D 3 : Nat)]
def z5 : Array Value := #[.int .i64 0, .int .u64 0, .int .u64 0, .int .u64 0, .int .u64 0]
def bret (s : List UInt8) : Value := if bok s then .tuple #[recV ((bnum s).getD 0) (dval (brest s)), .int .i64 0] else .tuple #[.agg z5, .int .i64 71]
theorem below_draws' {w w' : World} (h : ∃ n, w' = w.drewN n) : Below w.heap.size w w' := by
  obtain ⟨n, rfl⟩ := h
  exact below_drewN (Below.refl _ w) n
theorem cut_hid (L a b : List UInt8) (f : Bool) (hL : L.length < 140737488355328) (hc : Lib.cut L [32] = (a, b, f)) :
    Hid (∀ w, Env w → Calls Tryz.prog 37 #[.string ⟨L.toArray⟩, .string ⟨#[32]⟩] w fun e w' => e = .returned (.tuple #[.string ⟨a.toArray⟩, .string ⟨b.toArray⟩, .bool f]) ∧ Below w.heap.size w w') :=
  Lib.hid fun w _ => by
    refine (cut1_any ⟨L.toArray⟩ 32 (by show L.length ≤ _; omega) w).mono ?_
    rintro e w' ⟨rfl, hn⟩
    have e1 : Lib.cut (⟨L.toArray⟩ : ByteArray).data.toList [32] = (a, b, f) := hc
    exact ⟨by rw [e1], below_draws' hn⟩
theorem atoi_ok_hid (a : List UInt8) (n : Int) (hL : a.length < 140737488355328) (h : Lib.atoiAll a = .ok n) :
    Hid (∀ w, Calls Tryz.prog 38 #[.string ⟨a.toArray⟩] w fun e w' => e = .returned (.tuple #[.int .i64 n, .nilIface]) ∧ Below w.heap.size w w') :=
  Lib.hid fun w => by
    refine (Tryz.strconv_Atoi_ok ⟨a.toArray⟩ (by show a.length ≤ _; omega) n h w).mono ?_
    rintro e w' ⟨rfl, hn⟩
    refine ⟨rfl, ?_⟩
    rcases hn with rfl | ⟨t, rfl⟩
    · exact Below.refl _ _
    · exact Lib.bytesWorld_below _ _ _
/-- An error that is not nil. -/
def AtoiBad (w : World) (e : Ending) (w' : World) : Prop := ∃ (k : Int) (N : Nat), e = .returned (.tuple #[.int .i64 k, .iface 128 (.pointer (some ⟨N, 0, none⟩))]) ∧ Below w.heap.size w w'
theorem atoi_bad_hid (a : List UInt8) (hL : a.length < 140737488355328) (h : ∀ n, Lib.atoiAll a ≠ .ok n) :
    Hid (∀ w, Env w → Calls Tryz.prog 38 #[.string ⟨a.toArray⟩] w (AtoiBad w)) :=
  Lib.hid fun w hw => by
    rcases hx : Lib.atoiAll a with n | _ | _
    · exact absurd hx (h n)
    · obtain ⟨t, p, hv⟩ := hw.syn
      refine (Tryz.strconv_Atoi_syntax ⟨a.toArray⟩ (by show a.length ≤ _; omega) hx _ w hv (.inr ⟨t, p, rfl⟩)).mono ?_
      rintro e w' ⟨N, rfl, _, _, hb⟩
      exact ⟨_, N, rfl, hb⟩
    · obtain ⟨t, p, hv⟩ := hw.rng
      refine (Tryz.strconv_Atoi_range ⟨a.toArray⟩ (by show a.length ≤ _; omega) hx _ w hv (.inr ⟨t, p, rfl⟩)).mono ?_
      rintro e w' ⟨N, rfl, _, _, hb⟩
      exact ⟨_, N, rfl, hb⟩
theorem z5below {w0 w : World} {p B : Nat} (h : Below B w0 w) (hp : B ≤ p) (a b c d e : Value) : Below B w0 (((((w.setCell ⟨p, 0, none⟩ a).setCell ⟨p, 1, none⟩ b).setCell ⟨p, 2, none⟩ c).setCell ⟨p, 3, none⟩ d).setCell ⟨p, 4, none⟩ e) :=
  (zzbelow h hp a b c d).setCell (p := ⟨p, 4, none⟩) hp e
theorem z5set {w : World} {p : Nat} (h : Blk w p 26 z5) (a b c d e : Value) : Blk (((((w.setCell ⟨p, 0, none⟩ a).setCell ⟨p, 1, none⟩ b).setCell ⟨p, 2, none⟩ c).setCell ⟨p, 3, none⟩ d).setCell ⟨p, 4, none⟩ e) p 26 #[a, b, c, d, e] :=
  ((((h.set 0 a).set 1 b).set 2 c).set 3 d).set 4 e
set_option maxRecDepth 100000 in
set_option maxHeartbeats 1000000 in
theorem bread_num (L : List UInt8) (hs : L.length < 140737488355328) (hn : bnum L = none) (w : World) (he : Env w) : Calls Tryz.prog 23 #[.string ⟨L.toArray⟩] w (fun e w' => e = .returned (bret L) ∧ Below w.heap.size w w') := by
  have HX : Hid (bret L = .tuple #[.agg z5, .int .i64 71]) := Lib.hid (by unfold bret bok; rw [hn]; rfl)
  obtain ⟨a1, b1, f1, hc1⟩ : ∃ a b f, Lib.cut L [32] = (a, b, f) := ⟨_, _, _, rfl⟩
  obtain ⟨a2, b2, f2, hc2⟩ : ∃ a b f, Lib.cut b1 [32] = (a, b, f) := ⟨_, _, _, rfl⟩
  obtain ⟨a3, b3, f3, hc3⟩ : ∃ a b f, Lib.cut b2 [32] = (a, b, f) := ⟨_, _, _, rfl⟩
  have l1 := cut_le 32 L
  have l2 := cut_le 32 b1
  have l3 := cut_le 32 b2
  rw [hc1] at l1
  rw [hc2] at l2
  rw [hc3] at l3
  simp only at l1 l2 l3
  have hbr : brest L = b3 := by unfold brest; rw [hc1]; simp only; rw [hc2]; simp only; rw [hc3]
  have C1 := cut_hid L a1 b1 f1 hs hc1
  have C2 := cut_hid b1 a2 b2 f2 (by omega) hc2
  have C3 := cut_hid b2 a3 b3 f3 (by omega) hc3
  have A1 := atoi_bad_hid a1 (by omega) (fun n e => by
    unfold bnum at hn
    rw [hc1, e] at hn
    cases hn)
  have HE := Lib.hid he
  clear hc1 hc2 hc3 l1 l2 l3 hn hs he hbr
  generalize hS0 : (⟨L.toArray⟩ : ByteArray) = S0 at *
  generalize (⟨a1.toArray⟩ : ByteArray) = S1 at *
  generalize (⟨b1.toArray⟩ : ByteArray) = T1 at *
  generalize (⟨a2.toArray⟩ : ByteArray) = S2 at *
  generalize (⟨b2.toArray⟩ : ByteArray) = T2 at *
  generalize (⟨a3.toArray⟩ : ByteArray) = S3 at *
  generalize (⟨b3.toArray⟩ : ByteArray) = T3 at *
  go_enter Tryz.func23, Tryz.ntmps23
  go_wp2_with fail
  have HB1 := Lib.hid (below1 w (.cells z5 26))
  have HR1 := Lib.hid (Blk.new w 26 z5)
  unfold z5 at HB1 HR1
  generalize w.alloc (.cells #[.int .i64 0, .int .u64 0, .int .u64 0, .int .u64 0, .int .u64 0] 26) = W1 at *
  refine (C1.out _ (HE.out.keep HB1.out)).mono ?_
  rintro e w2 ⟨rfl, hb⟩
  have HR2 := Lib.hid (HR1.out.keep hb HR1.out.lt)
  have HB2 := Lib.hid (bchain HB1.out hb)
  clear hb HR1 HB1 C1
  go_wp2_with fail
  refine (C2.out _ (HE.out.keep HB2.out)).mono ?_
  rintro e w3 ⟨rfl, hb⟩
  have HR3 := Lib.hid (HR2.out.keep hb HR2.out.lt)
  have HB3 := Lib.hid (bchain HB2.out hb)
  clear hb HR2 HB2 C2
  go_wp2_with fail
  refine (C3.out _ (HE.out.keep HB3.out)).mono ?_
  rintro e w4 ⟨rfl, hb⟩
  have HR4 := Lib.hid (HR3.out.keep hb HR3.out.lt)
  have HB4 := Lib.hid (bchain HB3.out hb)
  clear hb HR3 HB3 C3
  go_wp2_with fail
  refine (A1.out _ (HE.out.keep HB4.out)).mono ?_
  rintro e w5 ⟨kk, N, rfl, hb⟩
  have HR5 := Lib.hid (HR4.out.keep hb HR4.out.lt)
  have HB5 := Lib.hid (bchain HB4.out hb)
  clear hb HR4 HB4 A1
  clear HE
  generalize hp0 : w.heap.size = p0 at *
  have x0 := HR5.out.cell (j := 0) (v := .int .i64 0) rfl
  have x1 := HR5.out.cell (j := 1) (v := .int .u64 0) rfl
  have x2 := HR5.out.cell (j := 2) (v := .int .u64 0) rfl
  have x3 := HR5.out.cell (j := 3) (v := .int .u64 0) rfl
  have x4 := HR5.out.cell (j := 4) (v := .int .u64 0) rfl
  have g0 := HR5.out.free 0
  have g1 := HR5.out.free 1
  have g2 := HR5.out.free 2
  have g3 := HR5.out.free 3
  have g4 := HR5.out.free 4
  have HZ := Lib.hid (z5set HR5.out (.int .i64 0) (.int .u64 0) (.int .u64 0) (.int .u64 0) (.int .u64 0))
  have HBZ := Lib.hid (z5below HB5.out (Nat.le_refl p0) (.int .i64 0) (.int .u64 0) (.int .u64 0) (.int .u64 0) (.int .u64 0))
  clear HR5 HB5
  go_wp2_with fail
  generalize (((((w5).setCell ⟨p0, 0, none⟩ (.int .i64 0)).setCell ⟨p0, 1, none⟩ (.int .u64 0)).setCell ⟨p0, 2, none⟩ (.int .u64 0)).setCell ⟨p0, 3, none⟩ (.int .u64 0)).setCell ⟨p0, 4, none⟩ (.int .u64 0) = WF at *
  clear x0 x1 x2 x3 x4 g0 g1 g2 g3 g4
  have x0 := HZ.out.cell (j := 0) (v := .int .i64 0) rfl
  have x1 := HZ.out.cell (j := 1) (v := .int .u64 0) rfl
  have x2 := HZ.out.cell (j := 2) (v := .int .u64 0) rfl
  have x3 := HZ.out.cell (j := 3) (v := .int .u64 0) rfl
  have x4 := HZ.out.cell (j := 4) (v := .int .u64 0) rfl
  (try simp only [Exit.inBlock, Exit.then])
  refine bodyPost_ret (by simp [results, Tryz.results23, go_sem, x0, x1, x2, x3, x4]; try rfl) rfl ?_
  exact ⟨by rw [HX.out]; rfl, by rw [hp0]; exact HBZ.out⟩
set_option maxRecDepth 100000 in
set_option maxHeartbeats 1000000 in
theorem bread_deal (L : List UInt8) (hs : L.length < 140737488355328) (n : Int) (hn : bnum L = some n) (hd : dok (brest L) = false) (w : World) (he : Env w) : Calls Tryz.prog 23 #[.string ⟨L.toArray⟩] w (fun e w' => e = .returned (bret L) ∧ Below w.heap.size w w') := by
  have HX : Hid (bret L = .tuple #[.agg z5, .int .i64 71]) := Lib.hid (by unfold bret bok; rw [hn]; simp only [hd, Bool.false_and]; rfl)
  obtain ⟨a1, b1, f1, hc1⟩ : ∃ a b f, Lib.cut L [32] = (a, b, f) := ⟨_, _, _, rfl⟩
  obtain ⟨a2, b2, f2, hc2⟩ : ∃ a b f, Lib.cut b1 [32] = (a, b, f) := ⟨_, _, _, rfl⟩
  obtain ⟨a3, b3, f3, hc3⟩ : ∃ a b f, Lib.cut b2 [32] = (a, b, f) := ⟨_, _, _, rfl⟩
  have l1 := cut_le 32 L
  have l2 := cut_le 32 b1
  have l3 := cut_le 32 b2
  rw [hc1] at l1
  rw [hc2] at l2
  rw [hc3] at l3
  simp only at l1 l2 l3
  have hbr : brest L = b3 := by unfold brest; rw [hc1]; simp only; rw [hc2]; simp only; rw [hc3]
  have C1 := cut_hid L a1 b1 f1 hs hc1
  have C2 := cut_hid b1 a2 b2 f2 (by omega) hc2
  have C3 := cut_hid b2 a3 b3 f3 (by omega) hc3
  have A1 := atoi_ok_hid a1 n (by omega) (by
    unfold bnum at hn
    rw [hc1] at hn
    simp only at hn
    rcases hx : Lib.atoiAll a1 with m | _ | _
    · rw [hx] at hn; injection hn with hn; rw [hn]
    · rw [hx] at hn; cases hn
    · rw [hx] at hn; cases hn)
  have hnb : inI n := by
    unfold bnum at hn
    rw [hc1] at hn
    simp only at hn
    rcases hx : Lib.atoiAll a1 with m | _ | _
    · rw [hx] at hn; injection hn with hn; rw [← hn]; exact Lib.atoiAll_bounds hx
    · rw [hx] at hn; cases hn
    · rw [hx] at hn; cases hn
  have DR := Lib.hid (fun W (hW : Env W) => dread_any ⟨b3.toArray⟩ W hW.maxl)
  rw [show (⟨b3.toArray⟩ : ByteArray).data.toList = b3 by simp] at DR
  have hdr : dret b3 = .tuple #[.agg #[.int .u64 0, .int .u64 0, .int .u64 0, .int .u64 0], .int .i64 61] := by unfold dret; rw [← hbr, hd]; rfl
  rw [hdr] at DR
  have HE := Lib.hid he
  clear hc1 hc2 hc3 l1 l2 l3 hn hs he hbr hd hdr hnb
  generalize hS0 : (⟨L.toArray⟩ : ByteArray) = S0 at *
  generalize (⟨a1.toArray⟩ : ByteArray) = S1 at *
  generalize (⟨b1.toArray⟩ : ByteArray) = T1 at *
  generalize (⟨a2.toArray⟩ : ByteArray) = S2 at *
  generalize (⟨b2.toArray⟩ : ByteArray) = T2 at *
  generalize (⟨a3.toArray⟩ : ByteArray) = S3 at *
  generalize (⟨b3.toArray⟩ : ByteArray) = T3 at *
  go_enter Tryz.func23, Tryz.ntmps23
  go_wp2_with fail
  have HB1 := Lib.hid (below1 w (.cells z5 26))
  have HR1 := Lib.hid (Blk.new w 26 z5)
  unfold z5 at HB1 HR1
  generalize w.alloc (.cells #[.int .i64 0, .int .u64 0, .int .u64 0, .int .u64 0, .int .u64 0] 26) = W1 at *
  refine (C1.out _ (HE.out.keep HB1.out)).mono ?_
  rintro e w2 ⟨rfl, hb⟩
  have HR2 := Lib.hid (HR1.out.keep hb HR1.out.lt)
  have HB2 := Lib.hid (bchain HB1.out hb)
  clear hb HR1 HB1 C1
  go_wp2_with fail
  refine (C2.out _ (HE.out.keep HB2.out)).mono ?_
  rintro e w3 ⟨rfl, hb⟩
  have HR3 := Lib.hid (HR2.out.keep hb HR2.out.lt)
  have HB3 := Lib.hid (bchain HB2.out hb)
  clear hb HR2 HB2 C2
  go_wp2_with fail
  refine (C3.out _ (HE.out.keep HB3.out)).mono ?_
  rintro e w4 ⟨rfl, hb⟩
  have HR4 := Lib.hid (HR3.out.keep hb HR3.out.lt)
  have HB4 := Lib.hid (bchain HB3.out hb)
  clear hb HR3 HB3 C3
  go_wp2_with fail
  refine (A1.out _).mono ?_
  rintro e w5 ⟨rfl, hb⟩
  have HR5 := Lib.hid (HR4.out.keep hb HR4.out.lt)
  have HB5 := Lib.hid (bchain HB4.out hb)
  clear hb HR4 HB4 A1
  go_wp2_with fail
  refine (DR.out _ (HE.out.keep HB5.out)).mono ?_
  rintro e w6 ⟨rfl, hb⟩
  have HR6 := Lib.hid (HR5.out.keep hb HR5.out.lt)
  have HB6 := Lib.hid (bchain HB5.out hb)
  clear hb HR5 HB5 DR
  clear HE
  go_upto_region 8 with fail
  generalize hp0 : w.heap.size = p0 at *
  have HR7 := Lib.hid (HR6.out.alloc (.cells #[.int .u64 0, .int .u64 0, .int .u64 0, .int .u64 0] 24))
  have HD7 := Lib.hid (Blk.new w6 24 #[.int .u64 0, .int .u64 0, .int .u64 0, .int .u64 0])
  have HB7 := Lib.hid (HB6.out.alloc (by have := HB6.out.size; omega) (.cells #[.int .u64 0, .int .u64 0, .int .u64 0, .int .u64 0] 24))
  clear HR6 HB6
  generalize w6.heap.size = p9 at *
  generalize w6.alloc (.cells #[.int .u64 0, .int .u64 0, .int .u64 0, .int .u64 0] 24) = w7 at *
  have x0 := HR7.out.cell (j := 0) (v := .int .i64 0) rfl
  have x1 := HR7.out.cell (j := 1) (v := .int .u64 0) rfl
  have x2 := HR7.out.cell (j := 2) (v := .int .u64 0) rfl
  have x3 := HR7.out.cell (j := 3) (v := .int .u64 0) rfl
  have x4 := HR7.out.cell (j := 4) (v := .int .u64 0) rfl
  have g0 := HR7.out.free 0
  have g1 := HR7.out.free 1
  have g2 := HR7.out.free 2
  have g3 := HR7.out.free 3
  have g4 := HR7.out.free 4
  have HZ := Lib.hid (z5set HR7.out (.int .i64 0) (.int .u64 0) (.int .u64 0) (.int .u64 0) (.int .u64 0))
  have HBZ := Lib.hid (z5below HB7.out (Nat.le_refl p0) (.int .i64 0) (.int .u64 0) (.int .u64 0) (.int .u64 0) (.int .u64 0))
  clear HR7 HB7 HD7
  go_wp2_with fail
  generalize (((((w7).setCell ⟨p0, 0, none⟩ (.int .i64 0)).setCell ⟨p0, 1, none⟩ (.int .u64 0)).setCell ⟨p0, 2, none⟩ (.int .u64 0)).setCell ⟨p0, 3, none⟩ (.int .u64 0)).setCell ⟨p0, 4, none⟩ (.int .u64 0) = WF at *
  clear x0 x1 x2 x3 x4 g0 g1 g2 g3 g4
  have x0 := HZ.out.cell (j := 0) (v := .int .i64 0) rfl
  have x1 := HZ.out.cell (j := 1) (v := .int .u64 0) rfl
  have x2 := HZ.out.cell (j := 2) (v := .int .u64 0) rfl
  have x3 := HZ.out.cell (j := 3) (v := .int .u64 0) rfl
  have x4 := HZ.out.cell (j := 4) (v := .int .u64 0) rfl
  (try simp only [Exit.inBlock, Exit.then])
  refine bodyPost_ret (by simp [results, Tryz.results23, go_sem, x0, x1, x2, x3, x4]; try rfl) rfl ?_
  exact ⟨by rw [HX.out]; rfl, by rw [hp0]; exact HBZ.out⟩
set_option maxRecDepth 100000 in
set_option maxHeartbeats 1000000 in
theorem bread_text (L : List UInt8) (hs : L.length < 140737488355328) (n : Int) (hn : bnum L = some n) (hd : dok (brest L) = true) (ht : (n < 1 ∨ 128 < n) ∨ rightB (dval (brest L)) = false) (w : World) (he : Env w) : Calls Tryz.prog 23 #[.string ⟨L.toArray⟩] w (fun e w' => e = .returned (bret L) ∧ Below w.heap.size w w') := by
  have HX : Hid (bret L = .tuple #[.agg z5, .int .i64 71]) := Lib.hid (by
    have hk : bokn L n = false := by
      unfold bokn
      rcases ht with ht | ht
      · rw [decide_eq_false (by omega)]; rfl
      · rw [ht]; simp
    unfold bret bok
    rw [hn]
    simp only [hk, Bool.and_false]
    rfl)
  obtain ⟨a1, b1, f1, hc1⟩ : ∃ a b f, Lib.cut L [32] = (a, b, f) := ⟨_, _, _, rfl⟩
  obtain ⟨a2, b2, f2, hc2⟩ : ∃ a b f, Lib.cut b1 [32] = (a, b, f) := ⟨_, _, _, rfl⟩
  obtain ⟨a3, b3, f3, hc3⟩ : ∃ a b f, Lib.cut b2 [32] = (a, b, f) := ⟨_, _, _, rfl⟩
  have l1 := cut_le 32 L
  have l2 := cut_le 32 b1
  have l3 := cut_le 32 b2
  rw [hc1] at l1
  rw [hc2] at l2
  rw [hc3] at l3
  simp only at l1 l2 l3
  have hbr : brest L = b3 := by unfold brest; rw [hc1]; simp only; rw [hc2]; simp only; rw [hc3]
  have C1 := cut_hid L a1 b1 f1 hs hc1
  have C2 := cut_hid b1 a2 b2 f2 (by omega) hc2
  have C3 := cut_hid b2 a3 b3 f3 (by omega) hc3
  have A1 := atoi_ok_hid a1 n (by omega) (by
    unfold bnum at hn
    rw [hc1] at hn
    simp only at hn
    rcases hx : Lib.atoiAll a1 with m | _ | _
    · rw [hx] at hn; injection hn with hn; rw [hn]
    · rw [hx] at hn; cases hn
    · rw [hx] at hn; cases hn)
  have hnb : inI n := by
    unfold bnum at hn
    rw [hc1] at hn
    simp only at hn
    rcases hx : Lib.atoiAll a1 with m | _ | _
    · rw [hx] at hn; injection hn with hn; rw [← hn]; exact Lib.atoiAll_bounds hx
    · rw [hx] at hn; cases hn
    · rw [hx] at hn; cases hn
  have DR := Lib.hid (fun W (hW : Env W) => dread_any ⟨b3.toArray⟩ W hW.maxl)
  rw [show (⟨b3.toArray⟩ : ByteArray).data.toList = b3 by simp] at DR
  have hdr : dret b3 = .tuple #[.agg #[.int .u64 (dval b3 0 : Nat), .int .u64 (dval b3 1 : Nat), .int .u64 (dval b3 2 : Nat), .int .u64 (dval b3 3 : Nat)], .int .i64 0] := by unfold dret; rw [← hbr, hd]; rfl
  rw [hdr] at DR
  have TX : ∃ c : Int, (c != 0) = true ∧ Hid (∀ W, Env W → Calls Tryz.prog 20 #[.agg #[.int .i64 n, .int .u64 (dval b3 0 : Nat), .int .u64 (dval b3 1 : Nat), .int .u64 (dval b3 2 : Nat), .int .u64 (dval b3 3 : Nat)]] W (fun e w' => e = .returned (.tuple #[.string ⟨#[]⟩, .int .i64 c]) ∧ Below W.heap.size W w')) := by
    rw [hbr] at ht
    by_cases hr : n < 1 ∨ 128 < n
    · exact ⟨70, rfl, Lib.hid (fun W _ => btext_bad n (dval b3) hr W)⟩
    · obtain ⟨m, rfl⟩ : ∃ m : Nat, n = (m : Int) := ⟨n.toNat, by omega⟩
      exact ⟨60, rfl, Lib.hid (fun W _ => btext_deal m (dval b3) (by omega) (by omega) (fun k _ => by have := dval_lt b3 k; omega) (Or.resolve_left ht hr) W)⟩
  obtain ⟨c, hc, TX⟩ := TX
  have hc' : (c == 0) = false := by simpa using hc
  have hc0 : ¬ c = 0 := by simpa using hc
  have HE := Lib.hid he
  clear hc1 hc2 hc3 l1 l2 l3 hn hs he hbr hd hdr hnb ht
  generalize dval b3 0 = v0 at *
  generalize dval b3 1 = v1 at *
  generalize dval b3 2 = v2 at *
  generalize dval b3 3 = v3 at *
  generalize hS0 : (⟨L.toArray⟩ : ByteArray) = S0 at *
  generalize (⟨a1.toArray⟩ : ByteArray) = S1 at *
  generalize (⟨b1.toArray⟩ : ByteArray) = T1 at *
  generalize (⟨a2.toArray⟩ : ByteArray) = S2 at *
  generalize (⟨b2.toArray⟩ : ByteArray) = T2 at *
  generalize (⟨a3.toArray⟩ : ByteArray) = S3 at *
  generalize (⟨b3.toArray⟩ : ByteArray) = T3 at *
  go_enter Tryz.func23, Tryz.ntmps23
  go_wp2_with fail
  have HB1 := Lib.hid (below1 w (.cells z5 26))
  have HR1 := Lib.hid (Blk.new w 26 z5)
  unfold z5 at HB1 HR1
  generalize w.alloc (.cells #[.int .i64 0, .int .u64 0, .int .u64 0, .int .u64 0, .int .u64 0] 26) = W1 at *
  refine (C1.out _ (HE.out.keep HB1.out)).mono ?_
  rintro e w2 ⟨rfl, hb⟩
  have HR2 := Lib.hid (HR1.out.keep hb HR1.out.lt)
  have HB2 := Lib.hid (bchain HB1.out hb)
  clear hb HR1 HB1 C1
  go_wp2_with fail
  refine (C2.out _ (HE.out.keep HB2.out)).mono ?_
  rintro e w3 ⟨rfl, hb⟩
  have HR3 := Lib.hid (HR2.out.keep hb HR2.out.lt)
  have HB3 := Lib.hid (bchain HB2.out hb)
  clear hb HR2 HB2 C2
  go_wp2_with fail
  refine (C3.out _ (HE.out.keep HB3.out)).mono ?_
  rintro e w4 ⟨rfl, hb⟩
  have HR4 := Lib.hid (HR3.out.keep hb HR3.out.lt)
  have HB4 := Lib.hid (bchain HB3.out hb)
  clear hb HR3 HB3 C3
  go_wp2_with fail
  refine (A1.out _).mono ?_
  rintro e w5 ⟨rfl, hb⟩
  have HR5 := Lib.hid (HR4.out.keep hb HR4.out.lt)
  have HB5 := Lib.hid (bchain HB4.out hb)
  clear hb HR4 HB4 A1
  go_wp2_with fail
  refine (DR.out _ (HE.out.keep HB5.out)).mono ?_
  rintro e w6 ⟨rfl, hb⟩
  have HR6 := Lib.hid (HR5.out.keep hb HR5.out.lt)
  have HB6 := Lib.hid (bchain HB5.out hb)
  clear hb HR5 HB5 DR
  go_upto_region 8 with fail
  generalize hp0 : w.heap.size = p0 at *
  have HR7 := Lib.hid (HR6.out.alloc (.cells #[.int .u64 (v0 : Nat), .int .u64 (v1 : Nat), .int .u64 (v2 : Nat), .int .u64 (v3 : Nat)] 24))
  have HD7 := Lib.hid (Blk.new w6 24 #[.int .u64 (v0 : Nat), .int .u64 (v1 : Nat), .int .u64 (v2 : Nat), .int .u64 (v3 : Nat)])
  have HB7 := Lib.hid (HB6.out.alloc (by have := HB6.out.size; omega) (.cells #[.int .u64 (v0 : Nat), .int .u64 (v1 : Nat), .int .u64 (v2 : Nat), .int .u64 (v3 : Nat)] 24))
  clear HR6 HB6
  generalize w6.heap.size = p9 at *
  generalize w6.alloc (.cells #[.int .u64 (v0 : Nat), .int .u64 (v1 : Nat), .int .u64 (v2 : Nat), .int .u64 (v3 : Nat)] 24) = w7 at *
  have y0 := HD7.out.cell (j := 0) (v := .int .u64 (v0 : Nat)) rfl
  have y1 := HD7.out.cell (j := 1) (v := .int .u64 (v1 : Nat)) rfl
  have y2 := HD7.out.cell (j := 2) (v := .int .u64 (v2 : Nat)) rfl
  have y3 := HD7.out.cell (j := 3) (v := .int .u64 (v3 : Nat)) rfl
  go_upto_region 11 with fail
  clear y0 y1 y2 y3
  have HR8 := Lib.hid (HR7.out.alloc (.cells #[.int .i64 n, .int .u64 (v0 : Nat), .int .u64 (v1 : Nat), .int .u64 (v2 : Nat), .int .u64 (v3 : Nat)] 26))
  have HQ8 := Lib.hid (Blk.new w7 26 #[.int .i64 n, .int .u64 (v0 : Nat), .int .u64 (v1 : Nat), .int .u64 (v2 : Nat), .int .u64 (v3 : Nat)])
  have HB8 := Lib.hid (HB7.out.alloc (by have := HB7.out.size; omega) (.cells #[.int .i64 n, .int .u64 (v0 : Nat), .int .u64 (v1 : Nat), .int .u64 (v2 : Nat), .int .u64 (v3 : Nat)] 26))
  clear HR7 HB7 HD7
  generalize w7.heap.size = p11 at *
  generalize w7.alloc (.cells #[.int .i64 n, .int .u64 (v0 : Nat), .int .u64 (v1 : Nat), .int .u64 (v2 : Nat), .int .u64 (v3 : Nat)] 26) = w8 at *
  have y0 := HQ8.out.cell (j := 0) (v := .int .i64 n) rfl
  have y1 := HQ8.out.cell (j := 1) (v := .int .u64 (v0 : Nat)) rfl
  have y2 := HQ8.out.cell (j := 2) (v := .int .u64 (v1 : Nat)) rfl
  have y3 := HQ8.out.cell (j := 3) (v := .int .u64 (v2 : Nat)) rfl
  have y4 := HQ8.out.cell (j := 4) (v := .int .u64 (v3 : Nat)) rfl
  go_wp2_with fail
  clear y0 y1 y2 y3 y4
  refine (TX.out _ (HE.out.keep (by rw [hp0]; exact HB8.out))).mono ?_
  rintro e w9 ⟨rfl, hb⟩
  have HR9 := Lib.hid (HR8.out.keep hb HR8.out.lt)
  have HQ9 := Lib.hid (HQ8.out.keep hb HQ8.out.lt)
  have HB9 := Lib.hid (HB8.out.trans (hb.mono (by have := HB8.out.size; omega)))
  clear hb HR8 HQ8 HB8 TX HE
  have x0 := HR9.out.cell (j := 0) (v := .int .i64 0) rfl
  have x1 := HR9.out.cell (j := 1) (v := .int .u64 0) rfl
  have x2 := HR9.out.cell (j := 2) (v := .int .u64 0) rfl
  have x3 := HR9.out.cell (j := 3) (v := .int .u64 0) rfl
  have x4 := HR9.out.cell (j := 4) (v := .int .u64 0) rfl
  have g0 := HR9.out.free 0
  have g1 := HR9.out.free 1
  have g2 := HR9.out.free 2
  have g3 := HR9.out.free 3
  have g4 := HR9.out.free 4
  have HZ := Lib.hid (z5set HR9.out (.int .i64 0) (.int .u64 0) (.int .u64 0) (.int .u64 0) (.int .u64 0))
  have HBZ := Lib.hid (z5below HB9.out (Nat.le_refl p0) (.int .i64 0) (.int .u64 0) (.int .u64 0) (.int .u64 0) (.int .u64 0))
  clear HR9 HB9 HQ9
  go_wp2_with fail
  generalize (((((w9).setCell ⟨p0, 0, none⟩ (.int .i64 0)).setCell ⟨p0, 1, none⟩ (.int .u64 0)).setCell ⟨p0, 2, none⟩ (.int .u64 0)).setCell ⟨p0, 3, none⟩ (.int .u64 0)).setCell ⟨p0, 4, none⟩ (.int .u64 0) = WF at *
  clear x0 x1 x2 x3 x4 g0 g1 g2 g3 g4
  have x0 := HZ.out.cell (j := 0) (v := .int .i64 0) rfl
  have x1 := HZ.out.cell (j := 1) (v := .int .u64 0) rfl
  have x2 := HZ.out.cell (j := 2) (v := .int .u64 0) rfl
  have x3 := HZ.out.cell (j := 3) (v := .int .u64 0) rfl
  have x4 := HZ.out.cell (j := 4) (v := .int .u64 0) rfl
  (try simp only [Exit.inBlock, Exit.then])
  refine bodyPost_ret (by simp [results, Tryz.results23, go_sem, x0, x1, x2, x3, x4]; try rfl) rfl ?_
  exact ⟨by rw [HX.out]; rfl, by rw [hp0]; exact HBZ.out⟩
set_option maxRecDepth 100000 in
set_option maxHeartbeats 1000000 in
theorem bread_other (L : List UInt8) (hs : L.length < 140737488355328) (n : Int) (hn : bnum L = some n) (hd : dok (brest L) = true) (h1 : 1 ≤ n ∧ n ≤ 128) (hr : rightB (dval (brest L)) = true) (hq : textB n.toNat (dval (brest L)) ≠ L) (w : World) (he : Env w) : Calls Tryz.prog 23 #[.string ⟨L.toArray⟩] w (fun e w' => e = .returned (bret L) ∧ Below w.heap.size w w') := by
  have HX : Hid (bret L = .tuple #[.agg z5, .int .i64 71]) := Lib.hid (by
    have hk : bokn L n = false := by
      unfold bokn
      rw [decide_eq_false hq]
      simp
    unfold bret bok
    rw [hn]
    simp only [hk, Bool.and_false]
    rfl)
  obtain ⟨a1, b1, f1, hc1⟩ : ∃ a b f, Lib.cut L [32] = (a, b, f) := ⟨_, _, _, rfl⟩
  obtain ⟨a2, b2, f2, hc2⟩ : ∃ a b f, Lib.cut b1 [32] = (a, b, f) := ⟨_, _, _, rfl⟩
  obtain ⟨a3, b3, f3, hc3⟩ : ∃ a b f, Lib.cut b2 [32] = (a, b, f) := ⟨_, _, _, rfl⟩
  have l1 := cut_le 32 L
  have l2 := cut_le 32 b1
  have l3 := cut_le 32 b2
  rw [hc1] at l1
  rw [hc2] at l2
  rw [hc3] at l3
  simp only at l1 l2 l3
  have hbr : brest L = b3 := by unfold brest; rw [hc1]; simp only; rw [hc2]; simp only; rw [hc3]
  have C1 := cut_hid L a1 b1 f1 hs hc1
  have C2 := cut_hid b1 a2 b2 f2 (by omega) hc2
  have C3 := cut_hid b2 a3 b3 f3 (by omega) hc3
  have A1 := atoi_ok_hid a1 n (by omega) (by
    unfold bnum at hn
    rw [hc1] at hn
    simp only at hn
    rcases hx : Lib.atoiAll a1 with m | _ | _
    · rw [hx] at hn; injection hn with hn; rw [hn]
    · rw [hx] at hn; cases hn
    · rw [hx] at hn; cases hn)
  have hnb : inI n := by
    unfold bnum at hn
    rw [hc1] at hn
    simp only at hn
    rcases hx : Lib.atoiAll a1 with m | _ | _
    · rw [hx] at hn; injection hn with hn; rw [← hn]; exact Lib.atoiAll_bounds hx
    · rw [hx] at hn; cases hn
    · rw [hx] at hn; cases hn
  have DR := Lib.hid (fun W (hW : Env W) => dread_any ⟨b3.toArray⟩ W hW.maxl)
  rw [show (⟨b3.toArray⟩ : ByteArray).data.toList = b3 by simp] at DR
  have hdr : dret b3 = .tuple #[.agg #[.int .u64 (dval b3 0 : Nat), .int .u64 (dval b3 1 : Nat), .int .u64 (dval b3 2 : Nat), .int .u64 (dval b3 3 : Nat)], .int .i64 0] := by unfold dret; rw [← hbr, hd]; rfl
  rw [hdr] at DR
  obtain ⟨m, rfl⟩ : ∃ m : Nat, n = (m : Int) := ⟨n.toNat, by omega⟩
  have TX : Hid (∀ W, Env W → Calls Tryz.prog 20 #[.agg #[.int .i64 (m : Int), .int .u64 (dval b3 0 : Nat), .int .u64 (dval b3 1 : Nat), .int .u64 (dval b3 2 : Nat), .int .u64 (dval b3 3 : Nat)]] W (fun e w' => e = .returned (.tuple #[strV' (textB m (dval b3)), .int .i64 0]) ∧ Below W.heap.size W w')) :=
    Lib.hid (fun W hW => btext_ok m (dval b3) (by omega) (by omega) (fun k _ => by have := dval_lt b3 k; omega) (by rw [← hbr]; exact hr) W hW)
  rw [hbr] at hq
  rw [Int.toNat_natCast] at hq
  obtain ⟨X, hX⟩ : ∃ X : ByteArray, (⟨(textB m (dval b3)).toArray⟩ : ByteArray) = X := ⟨_, rfl⟩
  have hst : strV' (textB m (dval b3)) = .string X := by unfold strV'; rw [hX]
  rw [hst] at TX
  have hne : ¬ X = ⟨L.toArray⟩ := by
    rw [← hX]
    intro e
    injection e with e
    exact hq (by simpa using congrArg Array.toList e)
  have hneL : (X.toList == (⟨L.toArray⟩ : ByteArray).toList) = false := by
    rw [ByteArray.toList_eq, ByteArray.toList_eq, ← hX]
    simpa using hq
  have HE := Lib.hid he
  clear hc1 hc2 hc3 l1 l2 l3 hn hs he hbr hd hdr hnb hq hst hX hr h1
  generalize dval b3 0 = v0 at *
  generalize dval b3 1 = v1 at *
  generalize dval b3 2 = v2 at *
  generalize dval b3 3 = v3 at *
  generalize hS0 : (⟨L.toArray⟩ : ByteArray) = S0 at *
  generalize (⟨a1.toArray⟩ : ByteArray) = S1 at *
  generalize (⟨b1.toArray⟩ : ByteArray) = T1 at *
  generalize (⟨a2.toArray⟩ : ByteArray) = S2 at *
  generalize (⟨b2.toArray⟩ : ByteArray) = T2 at *
  generalize (⟨a3.toArray⟩ : ByteArray) = S3 at *
  generalize (⟨b3.toArray⟩ : ByteArray) = T3 at *
  go_enter Tryz.func23, Tryz.ntmps23
  go_wp2_with fail
  have HB1 := Lib.hid (below1 w (.cells z5 26))
  have HR1 := Lib.hid (Blk.new w 26 z5)
  unfold z5 at HB1 HR1
  generalize w.alloc (.cells #[.int .i64 0, .int .u64 0, .int .u64 0, .int .u64 0, .int .u64 0] 26) = W1 at *
  refine (C1.out _ (HE.out.keep HB1.out)).mono ?_
  rintro e w2 ⟨rfl, hb⟩
  have HR2 := Lib.hid (HR1.out.keep hb HR1.out.lt)
  have HB2 := Lib.hid (bchain HB1.out hb)
  clear hb HR1 HB1 C1
  go_wp2_with fail
  refine (C2.out _ (HE.out.keep HB2.out)).mono ?_
  rintro e w3 ⟨rfl, hb⟩
  have HR3 := Lib.hid (HR2.out.keep hb HR2.out.lt)
  have HB3 := Lib.hid (bchain HB2.out hb)
  clear hb HR2 HB2 C2
  go_wp2_with fail
  refine (C3.out _ (HE.out.keep HB3.out)).mono ?_
  rintro e w4 ⟨rfl, hb⟩
  have HR4 := Lib.hid (HR3.out.keep hb HR3.out.lt)
  have HB4 := Lib.hid (bchain HB3.out hb)
  clear hb HR3 HB3 C3
  go_wp2_with fail
  refine (A1.out _).mono ?_
  rintro e w5 ⟨rfl, hb⟩
  have HR5 := Lib.hid (HR4.out.keep hb HR4.out.lt)
  have HB5 := Lib.hid (bchain HB4.out hb)
  clear hb HR4 HB4 A1
  go_wp2_with fail
  refine (DR.out _ (HE.out.keep HB5.out)).mono ?_
  rintro e w6 ⟨rfl, hb⟩
  have HR6 := Lib.hid (HR5.out.keep hb HR5.out.lt)
  have HB6 := Lib.hid (bchain HB5.out hb)
  clear hb HR5 HB5 DR
  go_upto_region 8 with fail
  generalize hp0 : w.heap.size = p0 at *
  have HR7 := Lib.hid (HR6.out.alloc (.cells #[.int .u64 (v0 : Nat), .int .u64 (v1 : Nat), .int .u64 (v2 : Nat), .int .u64 (v3 : Nat)] 24))
  have HD7 := Lib.hid (Blk.new w6 24 #[.int .u64 (v0 : Nat), .int .u64 (v1 : Nat), .int .u64 (v2 : Nat), .int .u64 (v3 : Nat)])
  have HB7 := Lib.hid (HB6.out.alloc (by have := HB6.out.size; omega) (.cells #[.int .u64 (v0 : Nat), .int .u64 (v1 : Nat), .int .u64 (v2 : Nat), .int .u64 (v3 : Nat)] 24))
  clear HR6 HB6
  generalize w6.heap.size = p9 at *
  generalize w6.alloc (.cells #[.int .u64 (v0 : Nat), .int .u64 (v1 : Nat), .int .u64 (v2 : Nat), .int .u64 (v3 : Nat)] 24) = w7 at *
  have y0 := HD7.out.cell (j := 0) (v := .int .u64 (v0 : Nat)) rfl
  have y1 := HD7.out.cell (j := 1) (v := .int .u64 (v1 : Nat)) rfl
  have y2 := HD7.out.cell (j := 2) (v := .int .u64 (v2 : Nat)) rfl
  have y3 := HD7.out.cell (j := 3) (v := .int .u64 (v3 : Nat)) rfl
  go_upto_region 11 with fail
  clear y0 y1 y2 y3
  have HR8 := Lib.hid (HR7.out.alloc (.cells #[.int .i64 (m : Int), .int .u64 (v0 : Nat), .int .u64 (v1 : Nat), .int .u64 (v2 : Nat), .int .u64 (v3 : Nat)] 26))
  have HQ8 := Lib.hid (Blk.new w7 26 #[.int .i64 (m : Int), .int .u64 (v0 : Nat), .int .u64 (v1 : Nat), .int .u64 (v2 : Nat), .int .u64 (v3 : Nat)])
  have HB8 := Lib.hid (HB7.out.alloc (by have := HB7.out.size; omega) (.cells #[.int .i64 (m : Int), .int .u64 (v0 : Nat), .int .u64 (v1 : Nat), .int .u64 (v2 : Nat), .int .u64 (v3 : Nat)] 26))
  clear HR7 HB7 HD7
  generalize w7.heap.size = p11 at *
  generalize w7.alloc (.cells #[.int .i64 (m : Int), .int .u64 (v0 : Nat), .int .u64 (v1 : Nat), .int .u64 (v2 : Nat), .int .u64 (v3 : Nat)] 26) = w8 at *
  have y0 := HQ8.out.cell (j := 0) (v := .int .i64 (m : Int)) rfl
  have y1 := HQ8.out.cell (j := 1) (v := .int .u64 (v0 : Nat)) rfl
  have y2 := HQ8.out.cell (j := 2) (v := .int .u64 (v1 : Nat)) rfl
  have y3 := HQ8.out.cell (j := 3) (v := .int .u64 (v2 : Nat)) rfl
  have y4 := HQ8.out.cell (j := 4) (v := .int .u64 (v3 : Nat)) rfl
  go_wp2_with fail
  clear y0 y1 y2 y3 y4
  refine (TX.out _ (HE.out.keep (by rw [hp0]; exact HB8.out))).mono ?_
  rintro e w9 ⟨rfl, hb⟩
  have HR9 := Lib.hid (HR8.out.keep hb HR8.out.lt)
  have HQ9 := Lib.hid (HQ8.out.keep hb HQ8.out.lt)
  have HB9 := Lib.hid (HB8.out.trans (hb.mono (by have := HB8.out.size; omega)))
  clear hb HR8 HQ8 HB8 TX HE
  have x0 := HR9.out.cell (j := 0) (v := .int .i64 0) rfl
  have x1 := HR9.out.cell (j := 1) (v := .int .u64 0) rfl
  have x2 := HR9.out.cell (j := 2) (v := .int .u64 0) rfl
  have x3 := HR9.out.cell (j := 3) (v := .int .u64 0) rfl
  have x4 := HR9.out.cell (j := 4) (v := .int .u64 0) rfl
  have g0 := HR9.out.free 0
  have g1 := HR9.out.free 1
  have g2 := HR9.out.free 2
  have g3 := HR9.out.free 3
  have g4 := HR9.out.free 4
  have HZ := Lib.hid (z5set HR9.out (.int .i64 0) (.int .u64 0) (.int .u64 0) (.int .u64 0) (.int .u64 0))
  have HBZ := Lib.hid (z5below HB9.out (Nat.le_refl p0) (.int .i64 0) (.int .u64 0) (.int .u64 0) (.int .u64 0) (.int .u64 0))
  clear HR9 HB9 HQ9
  go_wp2_with fail
  generalize (((((w9).setCell ⟨p0, 0, none⟩ (.int .i64 0)).setCell ⟨p0, 1, none⟩ (.int .u64 0)).setCell ⟨p0, 2, none⟩ (.int .u64 0)).setCell ⟨p0, 3, none⟩ (.int .u64 0)).setCell ⟨p0, 4, none⟩ (.int .u64 0) = WF at *
  clear x0 x1 x2 x3 x4 g0 g1 g2 g3 g4
  have x0 := HZ.out.cell (j := 0) (v := .int .i64 0) rfl
  have x1 := HZ.out.cell (j := 1) (v := .int .u64 0) rfl
  have x2 := HZ.out.cell (j := 2) (v := .int .u64 0) rfl
  have x3 := HZ.out.cell (j := 3) (v := .int .u64 0) rfl
  have x4 := HZ.out.cell (j := 4) (v := .int .u64 0) rfl
  (try simp only [Exit.inBlock, Exit.then])
  refine bodyPost_ret (by simp [results, Tryz.results23, go_sem, x0, x1, x2, x3, x4]; try rfl) rfl ?_
  exact ⟨by rw [HX.out]; rfl, by rw [hp0]; exact HBZ.out⟩
set_option maxRecDepth 100000 in
set_option maxHeartbeats 1000000 in
theorem bread_ok (L : List UInt8) (hs : L.length < 140737488355328) (n : Int) (hn : bnum L = some n) (hd : dok (brest L) = true) (h1 : 1 ≤ n ∧ n ≤ 128) (hr : rightB (dval (brest L)) = true) (hq : textB n.toNat (dval (brest L)) = L) (w : World) (he : Env w) : Calls Tryz.prog 23 #[.string ⟨L.toArray⟩] w (fun e w' => e = .returned (bret L) ∧ Below w.heap.size w w') := by
  have hX0 : bret L = .tuple #[recV n (dval (brest L)), .int .i64 0] := by
    have hk : bokn L n = true := by
      unfold bokn
      rw [decide_eq_true h1, decide_eq_true hq, hr]
      rfl
    unfold bret bok
    rw [hn]
    simp only [hk, hd, Bool.and_true]
    rfl
  obtain ⟨a1, b1, f1, hc1⟩ : ∃ a b f, Lib.cut L [32] = (a, b, f) := ⟨_, _, _, rfl⟩
  obtain ⟨a2, b2, f2, hc2⟩ : ∃ a b f, Lib.cut b1 [32] = (a, b, f) := ⟨_, _, _, rfl⟩
  obtain ⟨a3, b3, f3, hc3⟩ : ∃ a b f, Lib.cut b2 [32] = (a, b, f) := ⟨_, _, _, rfl⟩
  have l1 := cut_le 32 L
  have l2 := cut_le 32 b1
  have l3 := cut_le 32 b2
  rw [hc1] at l1
  rw [hc2] at l2
  rw [hc3] at l3
  simp only at l1 l2 l3
  have hbr : brest L = b3 := by unfold brest; rw [hc1]; simp only; rw [hc2]; simp only; rw [hc3]
  have C1 := cut_hid L a1 b1 f1 hs hc1
  have C2 := cut_hid b1 a2 b2 f2 (by omega) hc2
  have C3 := cut_hid b2 a3 b3 f3 (by omega) hc3
  have A1 := atoi_ok_hid a1 n (by omega) (by
    unfold bnum at hn
    rw [hc1] at hn
    simp only at hn
    rcases hx : Lib.atoiAll a1 with m | _ | _
    · rw [hx] at hn; injection hn with hn; rw [hn]
    · rw [hx] at hn; cases hn
    · rw [hx] at hn; cases hn)
  have hnb : inI n := by
    unfold bnum at hn
    rw [hc1] at hn
    simp only at hn
    rcases hx : Lib.atoiAll a1 with m | _ | _
    · rw [hx] at hn; injection hn with hn; rw [← hn]; exact Lib.atoiAll_bounds hx
    · rw [hx] at hn; cases hn
    · rw [hx] at hn; cases hn
  have DR := Lib.hid (fun W (hW : Env W) => dread_any ⟨b3.toArray⟩ W hW.maxl)
  rw [show (⟨b3.toArray⟩ : ByteArray).data.toList = b3 by simp] at DR
  have hdr : dret b3 = .tuple #[.agg #[.int .u64 (dval b3 0 : Nat), .int .u64 (dval b3 1 : Nat), .int .u64 (dval b3 2 : Nat), .int .u64 (dval b3 3 : Nat)], .int .i64 0] := by unfold dret; rw [← hbr, hd]; rfl
  rw [hdr] at DR
  obtain ⟨m, rfl⟩ : ∃ m : Nat, n = (m : Int) := ⟨n.toNat, by omega⟩
  have TX : Hid (∀ W, Env W → Calls Tryz.prog 20 #[.agg #[.int .i64 (m : Int), .int .u64 (dval b3 0 : Nat), .int .u64 (dval b3 1 : Nat), .int .u64 (dval b3 2 : Nat), .int .u64 (dval b3 3 : Nat)]] W (fun e w' => e = .returned (.tuple #[strV' (textB m (dval b3)), .int .i64 0]) ∧ Below W.heap.size W w')) :=
    Lib.hid (fun W hW => btext_ok m (dval b3) (by omega) (by omega) (fun k _ => by have := dval_lt b3 k; omega) (by rw [← hbr]; exact hr) W hW)
  rw [hbr] at hq
  rw [Int.toNat_natCast] at hq
  have HX : Hid (bret L = .tuple #[.agg #[.int .i64 (m : Int), .int .u64 (dval b3 0 : Nat), .int .u64 (dval b3 1 : Nat), .int .u64 (dval b3 2 : Nat), .int .u64 (dval b3 3 : Nat)], .int .i64 0]) := Lib.hid (by rw [hX0, hbr]; rfl)
  have hst : strV' (textB m (dval b3)) = .string ⟨L.toArray⟩ := by unfold strV'; rw [hq]
  rw [hst] at TX
  have hneL : ((⟨L.toArray⟩ : ByteArray).toList == (⟨L.toArray⟩ : ByteArray).toList) = true := beq_self_eq_true _
  have HE := Lib.hid he
  clear hc1 hc2 hc3 l1 l2 l3 hn hs he hbr hd hdr hnb hq hst hr h1 hX0
  generalize dval b3 0 = v0 at *
  generalize dval b3 1 = v1 at *
  generalize dval b3 2 = v2 at *
  generalize dval b3 3 = v3 at *
  generalize hS0 : (⟨L.toArray⟩ : ByteArray) = S0 at *
  generalize (⟨a1.toArray⟩ : ByteArray) = S1 at *
  generalize (⟨b1.toArray⟩ : ByteArray) = T1 at *
  generalize (⟨a2.toArray⟩ : ByteArray) = S2 at *
  generalize (⟨b2.toArray⟩ : ByteArray) = T2 at *
  generalize (⟨a3.toArray⟩ : ByteArray) = S3 at *
  generalize (⟨b3.toArray⟩ : ByteArray) = T3 at *
  go_enter Tryz.func23, Tryz.ntmps23
  go_wp2_with fail
  have HB1 := Lib.hid (below1 w (.cells z5 26))
  have HR1 := Lib.hid (Blk.new w 26 z5)
  unfold z5 at HB1 HR1
  generalize w.alloc (.cells #[.int .i64 0, .int .u64 0, .int .u64 0, .int .u64 0, .int .u64 0] 26) = W1 at *
  refine (C1.out _ (HE.out.keep HB1.out)).mono ?_
  rintro e w2 ⟨rfl, hb⟩
  have HR2 := Lib.hid (HR1.out.keep hb HR1.out.lt)
  have HB2 := Lib.hid (bchain HB1.out hb)
  clear hb HR1 HB1 C1
  go_wp2_with fail
  refine (C2.out _ (HE.out.keep HB2.out)).mono ?_
  rintro e w3 ⟨rfl, hb⟩
  have HR3 := Lib.hid (HR2.out.keep hb HR2.out.lt)
  have HB3 := Lib.hid (bchain HB2.out hb)
  clear hb HR2 HB2 C2
  go_wp2_with fail
  refine (C3.out _ (HE.out.keep HB3.out)).mono ?_
  rintro e w4 ⟨rfl, hb⟩
  have HR4 := Lib.hid (HR3.out.keep hb HR3.out.lt)
  have HB4 := Lib.hid (bchain HB3.out hb)
  clear hb HR3 HB3 C3
  go_wp2_with fail
  refine (A1.out _).mono ?_
  rintro e w5 ⟨rfl, hb⟩
  have HR5 := Lib.hid (HR4.out.keep hb HR4.out.lt)
  have HB5 := Lib.hid (bchain HB4.out hb)
  clear hb HR4 HB4 A1
  go_wp2_with fail
  refine (DR.out _ (HE.out.keep HB5.out)).mono ?_
  rintro e w6 ⟨rfl, hb⟩
  have HR6 := Lib.hid (HR5.out.keep hb HR5.out.lt)
  have HB6 := Lib.hid (bchain HB5.out hb)
  clear hb HR5 HB5 DR
  go_upto_region 8 with fail
  generalize hp0 : w.heap.size = p0 at *
  have HR7 := Lib.hid (HR6.out.alloc (.cells #[.int .u64 (v0 : Nat), .int .u64 (v1 : Nat), .int .u64 (v2 : Nat), .int .u64 (v3 : Nat)] 24))
  have HD7 := Lib.hid (Blk.new w6 24 #[.int .u64 (v0 : Nat), .int .u64 (v1 : Nat), .int .u64 (v2 : Nat), .int .u64 (v3 : Nat)])
  have HB7 := Lib.hid (HB6.out.alloc (by have := HB6.out.size; omega) (.cells #[.int .u64 (v0 : Nat), .int .u64 (v1 : Nat), .int .u64 (v2 : Nat), .int .u64 (v3 : Nat)] 24))
  clear HR6 HB6
  generalize w6.heap.size = p9 at *
  generalize w6.alloc (.cells #[.int .u64 (v0 : Nat), .int .u64 (v1 : Nat), .int .u64 (v2 : Nat), .int .u64 (v3 : Nat)] 24) = w7 at *
  have y0 := HD7.out.cell (j := 0) (v := .int .u64 (v0 : Nat)) rfl
  have y1 := HD7.out.cell (j := 1) (v := .int .u64 (v1 : Nat)) rfl
  have y2 := HD7.out.cell (j := 2) (v := .int .u64 (v2 : Nat)) rfl
  have y3 := HD7.out.cell (j := 3) (v := .int .u64 (v3 : Nat)) rfl
  go_upto_region 11 with fail
  clear y0 y1 y2 y3
  have HR8 := Lib.hid (HR7.out.alloc (.cells #[.int .i64 (m : Int), .int .u64 (v0 : Nat), .int .u64 (v1 : Nat), .int .u64 (v2 : Nat), .int .u64 (v3 : Nat)] 26))
  have HQ8 := Lib.hid (Blk.new w7 26 #[.int .i64 (m : Int), .int .u64 (v0 : Nat), .int .u64 (v1 : Nat), .int .u64 (v2 : Nat), .int .u64 (v3 : Nat)])
  have HB8 := Lib.hid (HB7.out.alloc (by have := HB7.out.size; omega) (.cells #[.int .i64 (m : Int), .int .u64 (v0 : Nat), .int .u64 (v1 : Nat), .int .u64 (v2 : Nat), .int .u64 (v3 : Nat)] 26))
  clear HR7 HB7 HD7
  generalize w7.heap.size = p11 at *
  generalize w7.alloc (.cells #[.int .i64 (m : Int), .int .u64 (v0 : Nat), .int .u64 (v1 : Nat), .int .u64 (v2 : Nat), .int .u64 (v3 : Nat)] 26) = w8 at *
  have y0 := HQ8.out.cell (j := 0) (v := .int .i64 (m : Int)) rfl
  have y1 := HQ8.out.cell (j := 1) (v := .int .u64 (v0 : Nat)) rfl
  have y2 := HQ8.out.cell (j := 2) (v := .int .u64 (v1 : Nat)) rfl
  have y3 := HQ8.out.cell (j := 3) (v := .int .u64 (v2 : Nat)) rfl
  have y4 := HQ8.out.cell (j := 4) (v := .int .u64 (v3 : Nat)) rfl
  go_wp2_with fail
  clear y0 y1 y2 y3 y4
  refine (TX.out _ (HE.out.keep (by rw [hp0]; exact HB8.out))).mono ?_
  rintro e w9 ⟨rfl, hb⟩
  have HR9 := Lib.hid (HR8.out.keep hb HR8.out.lt)
  have HQ9 := Lib.hid (HQ8.out.keep hb HQ8.out.lt)
  have HB9 := Lib.hid (HB8.out.trans (hb.mono (by have := HB8.out.size; omega)))
  clear hb HR8 HQ8 HB8 TX HE
  have y0 := HQ9.out.cell (j := 0) (v := .int .i64 (m : Int)) rfl
  have y1 := HQ9.out.cell (j := 1) (v := .int .u64 (v0 : Nat)) rfl
  have y2 := HQ9.out.cell (j := 2) (v := .int .u64 (v1 : Nat)) rfl
  have y3 := HQ9.out.cell (j := 3) (v := .int .u64 (v2 : Nat)) rfl
  have y4 := HQ9.out.cell (j := 4) (v := .int .u64 (v3 : Nat)) rfl
  have x0 := HR9.out.cell (j := 0) (v := .int .i64 0) rfl
  have x1 := HR9.out.cell (j := 1) (v := .int .u64 0) rfl
  have x2 := HR9.out.cell (j := 2) (v := .int .u64 0) rfl
  have x3 := HR9.out.cell (j := 3) (v := .int .u64 0) rfl
  have x4 := HR9.out.cell (j := 4) (v := .int .u64 0) rfl
  have g0 := HR9.out.free 0
  have g1 := HR9.out.free 1
  have g2 := HR9.out.free 2
  have g3 := HR9.out.free 3
  have g4 := HR9.out.free 4
  have HZ := Lib.hid (z5set HR9.out (.int .i64 (m : Int)) (.int .u64 (v0 : Nat)) (.int .u64 (v1 : Nat)) (.int .u64 (v2 : Nat)) (.int .u64 (v3 : Nat)))
  have HBZ := Lib.hid (z5below HB9.out (Nat.le_refl p0) (.int .i64 (m : Int)) (.int .u64 (v0 : Nat)) (.int .u64 (v1 : Nat)) (.int .u64 (v2 : Nat)) (.int .u64 (v3 : Nat)))
  clear HR9 HB9 HQ9
  go_wp2_with fail
  generalize (((((w9).setCell ⟨p0, 0, none⟩ (.int .i64 (m : Int))).setCell ⟨p0, 1, none⟩ (.int .u64 (v0 : Nat))).setCell ⟨p0, 2, none⟩ (.int .u64 (v1 : Nat))).setCell ⟨p0, 3, none⟩ (.int .u64 (v2 : Nat))).setCell ⟨p0, 4, none⟩ (.int .u64 (v3 : Nat)) = WF at *
  clear y0 y1 y2 y3 y4 x0 x1 x2 x3 x4 g0 g1 g2 g3 g4
  have x0 := HZ.out.cell (j := 0) (v := .int .i64 (m : Int)) rfl
  have x1 := HZ.out.cell (j := 1) (v := .int .u64 (v0 : Nat)) rfl
  have x2 := HZ.out.cell (j := 2) (v := .int .u64 (v1 : Nat)) rfl
  have x3 := HZ.out.cell (j := 3) (v := .int .u64 (v2 : Nat)) rfl
  have x4 := HZ.out.cell (j := 4) (v := .int .u64 (v3 : Nat)) rfl
  (try simp only [Exit.inBlock, Exit.then])
  refine bodyPost_ret (by simp [results, Tryz.results23, go_sem, x0, x1, x2, x3, x4]; try rfl) rfl ?_
  exact ⟨by rw [HX.out], by rw [hp0]; exact HBZ.out⟩
theorem bread_any (L : List UInt8) (hs : L.length < 140737488355328) (w : World) (he : Env w) : Calls Tryz.prog 23 #[.string ⟨L.toArray⟩] w (fun e w' => e = .returned (bret L) ∧ Below w.heap.size w w') := by
  cases hn : bnum L with
  | none => exact bread_num L hs hn w he
  | some n =>
    rcases hd : dok (brest L) with _ | _
    · exact bread_deal L hs n hn hd w he
    by_cases h1 : n < 1 ∨ 128 < n
    · exact bread_text L hs n hn hd (.inl h1) w he
    rcases hr : rightB (dval (brest L)) with _ | _
    · exact bread_text L hs n hn hd (.inr hr) w he
    by_cases hq : textB n.toNat (dval (brest L)) = L
    · exact bread_ok L hs n hn hd (by omega) hr hq w he
    · exact bread_other L hs n hn hd (by omega) hr hq w he
end Go.Proofs.YtaadipccgckehaaGreatDoor
