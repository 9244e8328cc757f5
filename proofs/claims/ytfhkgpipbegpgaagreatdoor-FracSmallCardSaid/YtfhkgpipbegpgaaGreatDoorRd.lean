/- The contract of Read. -/
import Derived.Test.YtfhkgpipbegpgaaGreatDoorRound
import Derived.Lib.IndexMore
import Derived.Lib.SmallJoins
namespace Go.Proofs.YtfhkgpipbegpgaaGreatDoor
open Go Go.RowKit

/-- The numbers are those of a right fraction with this text. -/
def chkF (L : List UInt8) (n d : Int) : Int × Int × Int := if rightB n d = true ∧ textF n d = L then (n, d, 0) else (0, 0, 10)
/-- The number, if there is one. -/
def okOf : Lib.NumEnd Int → Option Int
  | .ok n => some n
  | _ => none
theorem okOf_some {x : Lib.NumEnd Int} {n : Int} : okOf x = some n ↔ x = .ok n := by
  cases x <;> simp [okOf]
def readR (L : List UInt8) (x y : Option Int) (two : Bool) : Int × Int × Int :=
  if 40 < L.length then (0, 0, 10) else
  match x with
  | none => (0, 0, 10)
  | some n => if two then (match y with | none => (0, 0, 10) | some d => chkF L n d) else chkF L n 1
/-- What Read returns. -/
def readF (L : List UInt8) : Int × Int × Int := readR L (okOf (Lib.atoiAll (Lib.cut L [47]).1)) (okOf (Lib.atoiAll (Lib.cut L [47]).2.1)) (Lib.cut L [47]).2.2
theorem cut_hid (L a b : List UInt8) (f : Bool) (hL : L.length < 4294967281) (hc : Lib.cut L [47] = (a, b, f)) :
    Hid (∀ w, Env w → Calls Tryz.prog 61 #[.string ⟨L.toArray⟩, .string ⟨#[47]⟩] w fun e w' => e = .returned (.tuple #[.string ⟨a.toArray⟩, .string ⟨b.toArray⟩, .bool f]) ∧ Below w.heap.size w w') :=
  Lib.hid fun w hw => by
    obtain ⟨m, hm⟩ := hw.max
    refine (Tryz.strings_Cut ⟨L.toArray⟩ ⟨#[47]⟩ m w hL hm).mono ?_
    rintro e w' ⟨rfl, hn⟩
    have e1 : Lib.cut (⟨L.toArray⟩ : ByteArray).data.toList (⟨#[47]⟩ : ByteArray).data.toList = (a, b, f) := hc
    exact ⟨by rw [e1], below_draws hn⟩
theorem atoi_ok_hid (a : List UInt8) (n : Int) (hL : a.length < 4294967281) (h : Lib.atoiAll a = .ok n) :
    Hid (∀ w, Calls Tryz.prog 62 #[.string ⟨a.toArray⟩] w fun e w' => e = .returned (.tuple #[.int .i64 n, .nilIface]) ∧ Below w.heap.size w w') :=
  Lib.hid fun w => by
    refine (Tryz.strconv_Atoi_ok ⟨a.toArray⟩ (by show a.length ≤ _; omega) n h w).mono ?_
    rintro e w' ⟨rfl, hn⟩
    refine ⟨rfl, ?_⟩
    rcases hn with rfl | ⟨t, rfl⟩
    · exact Below.refl _ _
    · exact Lib.bytesWorld_below _ _ _
/-- An error that is not nil. -/
def AtoiBad (w : World) (e : Ending) (w' : World) : Prop := ∃ (k : Int) (N : Nat), e = .returned (.tuple #[.int .i64 k, .iface 130 (.pointer (some ⟨N, 0, none⟩))]) ∧ Below w.heap.size w w'
theorem atoi_bad_hid (a : List UInt8) (hL : a.length < 4294967281) (h : ∀ n, Lib.atoiAll a ≠ .ok n) :
    Hid (∀ w, Env w → Calls Tryz.prog 62 #[.string ⟨a.toArray⟩] w (AtoiBad w)) :=
  Lib.hid fun w hw => by
    rcases hx : Lib.atoiAll a with n | _ | _
    · exact absurd hx (h n)
    · obtain ⟨t, p, hv⟩ := hw.syn
      refine (Tryz.strconv_Atoi_syntax ⟨a.toArray⟩ (by show a.length ≤ _; omega) hx _ w hv (.inr ⟨t, p, rfl⟩)).mono ?_
      rintro e w' ⟨N, rfl, _, _, hb⟩
      exact ⟨_, N, rfl, hb⟩
    · obtain ⟨t, p, hv⟩ := hw.rng
      refine (Tryz.strconv_Atoi_range ⟨a.toArray⟩ (by show a.length ≤ _; omega) hx _ w hv (.inr ⟨t, p, rfl⟩)).mono ?_
      rintro e w' ⟨N, rfl, _, _, hb⟩
      exact ⟨_, N, rfl, hb⟩
theorem cut_len (L : List UInt8) : (Lib.cut L [47]).1.length ≤ L.length ∧ (Lib.cut L [47]).2.1.length ≤ L.length := by
  unfold Lib.cut; split
  · constructor
    · simp only [List.length_take]; omega
    · simp only [List.length_drop]; omega
  · simp
/-- The memory of Read: its result, and the fraction that is read. -/
structure RM (w W : World) (p : Nat) (n d : Int) : Prop where
  below : Below w.heap.size w W
  br : Blk W w.heap.size 23 #[.int .i64 0, .int .i64 0]
  lt : w.heap.size < p
  bf : Blk W p 23 #[.int .i64 n, .int .i64 d]
theorem RM.keep {w W W' : World} {p : Nat} {n d : Int} (h : RM w W p n d) (hb : Below W.heap.size W W') : RM w W' p n d :=
  ⟨bchain h.below hb, h.br.keep hb h.br.lt, h.lt, h.bf.keep hb h.bf.lt⟩
theorem RM.set0 {w W : World} {p : Nat} {n d : Int} (h : RM w W p n d) (v : Int) : RM w (W.setCell ⟨p, 0, none⟩ (.int .i64 v)) p v d :=
  have := h.lt
  ⟨h.below.setCell (by simp; omega) _, h.br.other (by omega) _ _, h.lt, h.bf.set 0 _⟩
theorem RM.set1 {w W : World} {p : Nat} {n d : Int} (h : RM w W p n d) (v : Int) : RM w (W.setCell ⟨p, 1, none⟩ (.int .i64 v)) p n v :=
  have := h.lt
  ⟨h.below.setCell (by simp; omega) _, h.br.other (by omega) _ _, h.lt, h.bf.set 1 _⟩
theorem FB.one (n : Int) (h0 : -9223372036854775808 ≤ n) (h1 : n ≤ 9223372036854775807) : FB n 1 := ⟨h0, h1, by decide, by decide⟩
set_option maxRecDepth 100000 in
set_option maxHeartbeats 2000000 in
theorem oread_long (L a b : List UInt8) (f : Bool) (hL : L.length < 4294967281) (hc : Lib.cut L [47] = (a, b, f)) (hl : 40 < L.length) (w : World) (he : Env w) :
    Calls Tryz.prog 33 #[.string ⟨L.toArray⟩] w (RetF (0, 0, 10) w) := by
  have C1 := cut_hid L a b f hL hc
  have HE := Lib.hid he
  have cl : a.length ≤ L.length ∧ b.length ≤ L.length := by have := cut_len L; rw [hc] at this; exact this
  have t1 : decide (40 < (L.length : Int)) = true := decide_eq_true (by omega)
  have t2 : decide (40 < L.length) = true := decide_eq_true hl
  clear hl hL hc he cl
  go_enter Tryz.func33, Tryz.ntmps33
  go_wp2_with fail
  have hB := below1 w (.cells #[.int .i64 0, .int .i64 0] 23)
  have hA := Blk.new w 23 #[.int .i64 0, .int .i64 0]
  generalize w.alloc (.cells #[.int .i64 0, .int .i64 0] 23) = W1 at *
  refine (C1.out _ (HE.out.keep hB)).mono ?_
  rintro e w1 ⟨rfl, hb⟩
  have hB1 := bchain hB hb
  have hA1 := hA.keep hb hA.lt
  have hR : RM w (w1.alloc (.cells #[.int .i64 0, .int .i64 1] 23)) w1.heap.size 0 1 := ⟨bchain hB1 (below1 _ _), hA1.alloc _, hA1.lt, Blk.new _ _ _⟩
  clear hb hB hA hB1 hA1
  have r0 := hR.br.cell (j := 0) (v := .int .i64 0) rfl
  have r1 := hR.br.cell (j := 1) (v := .int .i64 0) rfl
  have f0 := hR.br.free 0
  have f1 := hR.br.free 1
  have hB9 := hR.below
  clear hR
  go_wp2
  refine bodyPost_ret (v := .tuple #[.agg #[.int .i64 0, .int .i64 0], .int .i64 10]) (by simp [results, Tryz.results33, go_sem, r0, r1]) rfl ?_
  exact retF_mk rfl ((hB9.setCell (by simp) _).setCell (by simp) _)
set_option maxRecDepth 100000 in
set_option maxHeartbeats 2000000 in
theorem oread_bad1 (L a b : List UInt8) (f : Bool) (hL : L.length < 4294967281) (hc : Lib.cut L [47] = (a, b, f)) (hl : ¬ 40 < L.length) (hx : ∀ n, Lib.atoiAll a ≠ .ok n) (w : World) (he : Env w) :
    Calls Tryz.prog 33 #[.string ⟨L.toArray⟩] w (RetF (0, 0, 10) w) := by
  have C1 := cut_hid L a b f hL hc
  have HE := Lib.hid he
  have cl : a.length ≤ L.length ∧ b.length ≤ L.length := by have := cut_len L; rw [hc] at this; exact this
  have t1 : decide (40 < (L.length : Int)) = false := decide_eq_false (by omega)
  have t2 : decide (40 < L.length) = false := decide_eq_false (by omega)
  have A1 := atoi_bad_hid a (by omega) hx
  clear hl hL hc he cl hx
  go_enter Tryz.func33, Tryz.ntmps33
  go_wp2_with fail
  have hB := below1 w (.cells #[.int .i64 0, .int .i64 0] 23)
  have hA := Blk.new w 23 #[.int .i64 0, .int .i64 0]
  generalize w.alloc (.cells #[.int .i64 0, .int .i64 0] 23) = W1 at *
  refine (C1.out _ (HE.out.keep hB)).mono ?_
  rintro e w1 ⟨rfl, hb⟩
  have hB1 := bchain hB hb
  have hA1 := hA.keep hb hA.lt
  have hR : RM w (w1.alloc (.cells #[.int .i64 0, .int .i64 1] 23)) w1.heap.size 0 1 := ⟨bchain hB1 (below1 _ _), hA1.alloc _, hA1.lt, Blk.new _ _ _⟩
  clear hb hB hA hB1 hA1
  go_wp2_with fail
  obtain ⟨p, hp⟩ : ∃ p, p = w1.heap.size := ⟨_, rfl⟩
  rw [← hp] at hR ⊢
  clear hp
  generalize w1.alloc (.cells #[.int .i64 0, .int .i64 1] 23) = W2 at *
  refine (A1.out _ (HE.out.keep hR.below)).mono ?_
  rintro e w2 ⟨k, N, rfl, hb⟩
  have hR2 := hR.keep hb
  clear hb hR
  have x0 := hR2.bf.cell (j := 0) (v := .int .i64 0) rfl
  have x1 := hR2.bf.free 0
  have hR3 := hR2.set0 k
  clear hR2
  have r0 := hR3.br.cell (j := 0) (v := .int .i64 0) rfl
  have r1 := hR3.br.cell (j := 1) (v := .int .i64 0) rfl
  have f0 := hR3.br.free 0
  have f1 := hR3.br.free 1
  have hB9 := hR3.below
  clear hR3
  go_wp2
  refine bodyPost_ret (v := .tuple #[.agg #[.int .i64 0, .int .i64 0], .int .i64 10]) (by simp [results, Tryz.results33, go_sem, r0, r1]) rfl ?_
  exact retF_mk rfl ((hB9.setCell (by simp) _).setCell (by simp) _)
set_option maxRecDepth 100000 in
set_option maxHeartbeats 2000000 in
theorem oread_bad2 (L a b : List UInt8) (f : Bool) (hL : L.length < 4294967281) (hc : Lib.cut L [47] = (a, b, f)) (hl : ¬ 40 < L.length) (n : Int) (hx : Lib.atoiAll a = .ok n) (hf : f = true) (hy : ∀ n, Lib.atoiAll b ≠ .ok n) (w : World) (he : Env w) :
    Calls Tryz.prog 33 #[.string ⟨L.toArray⟩] w (RetF (0, 0, 10) w) := by
  have C1 := cut_hid L a b f hL hc
  have HE := Lib.hid he
  have cl : a.length ≤ L.length ∧ b.length ≤ L.length := by have := cut_len L; rw [hc] at this; exact this
  have t1 : decide (40 < (L.length : Int)) = false := decide_eq_false (by omega)
  have t2 : decide (40 < L.length) = false := decide_eq_false (by omega)
  have A1 := atoi_ok_hid a n (by omega) hx
  have A2 := atoi_bad_hid b (by omega) hy
  subst hf
  clear hl hL hc he cl hx hy
  go_enter Tryz.func33, Tryz.ntmps33
  go_wp2_with fail
  have hB := below1 w (.cells #[.int .i64 0, .int .i64 0] 23)
  have hA := Blk.new w 23 #[.int .i64 0, .int .i64 0]
  generalize w.alloc (.cells #[.int .i64 0, .int .i64 0] 23) = W1 at *
  refine (C1.out _ (HE.out.keep hB)).mono ?_
  rintro e w1 ⟨rfl, hb⟩
  have hB1 := bchain hB hb
  have hA1 := hA.keep hb hA.lt
  have hR : RM w (w1.alloc (.cells #[.int .i64 0, .int .i64 1] 23)) w1.heap.size 0 1 := ⟨bchain hB1 (below1 _ _), hA1.alloc _, hA1.lt, Blk.new _ _ _⟩
  clear hb hB hA hB1 hA1
  go_wp2_with fail
  obtain ⟨p, hp⟩ : ∃ p, p = w1.heap.size := ⟨_, rfl⟩
  rw [← hp] at hR ⊢
  clear hp
  generalize w1.alloc (.cells #[.int .i64 0, .int .i64 1] 23) = W2 at *
  refine (A1.out _).mono ?_
  rintro e w2 ⟨rfl, hb⟩
  have hR2 := hR.keep hb
  clear hb hR
  have x0 := hR2.bf.cell (j := 0) (v := .int .i64 0) rfl
  have x1 := hR2.bf.free 0
  have hR3 := hR2.set0 n
  clear hR2
  go_wp2_with fail
  clear x0 x1
  generalize w2.setCell ⟨p, 0, none⟩ (.int .i64 n) = W3 at *
  refine (A2.out _ (HE.out.keep hR3.below)).mono ?_
  rintro e w4 ⟨k, N, rfl, hb⟩
  have hR4 := hR3.keep hb
  clear hb hR3
  have x0 := hR4.bf.cell (j := 1) (v := .int .i64 1) rfl
  have x1 := hR4.bf.free 1
  have hR5 := hR4.set1 k
  clear hR4
  have r0 := hR5.br.cell (j := 0) (v := .int .i64 0) rfl
  have r1 := hR5.br.cell (j := 1) (v := .int .i64 0) rfl
  have f0 := hR5.br.free 0
  have f1 := hR5.br.free 1
  have hB9 := hR5.below
  clear hR5
  go_wp2
  refine bodyPost_ret (v := .tuple #[.agg #[.int .i64 0, .int .i64 0], .int .i64 10]) (by simp [results, Tryz.results33, go_sem, r0, r1]) rfl ?_
  exact retF_mk rfl ((hB9.setCell (by simp) _).setCell (by simp) _)
set_option maxRecDepth 100000 in
set_option maxHeartbeats 2000000 in
theorem oread_wrong1 (L a b : List UInt8) (f : Bool) (hL : L.length < 4294967281) (hc : Lib.cut L [47] = (a, b, f)) (hl : ¬ 40 < L.length) (n : Int) (hx : Lib.atoiAll a = .ok n) (hf : f = false) (hr : rightB n 1 = false) (w : World) (he : Env w) :
    Calls Tryz.prog 33 #[.string ⟨L.toArray⟩] w (RetF (0, 0, 10) w) := by
  have C1 := cut_hid L a b f hL hc
  have HE := Lib.hid he
  have cl : a.length ≤ L.length ∧ b.length ≤ L.length := by have := cut_len L; rw [hc] at this; exact this
  have t1 : decide (40 < (L.length : Int)) = false := decide_eq_false (by omega)
  have t2 : decide (40 < L.length) = false := decide_eq_false (by omega)
  have A1 := atoi_ok_hid a n (by omega) hx
  have bn := Lib.atoiAll_bounds hx
  have hfb := FB.one n bn.1 bn.2
  have TX : Hid (∀ w, Calls Tryz.prog 28 #[.agg #[.int .i64 n, .int .i64 1]] w fun e w' => e = .returned (.tuple #[.string ⟨#[]⟩, .int .i64 2]) ∧ Below w.heap.size w w') := Lib.hid fun w => otext_bad n 1 hfb hr w
  subst hf
  clear hl hL hc he cl hx bn hfb hr
  go_enter Tryz.func33, Tryz.ntmps33
  go_wp2_with fail
  have hB := below1 w (.cells #[.int .i64 0, .int .i64 0] 23)
  have hA := Blk.new w 23 #[.int .i64 0, .int .i64 0]
  generalize w.alloc (.cells #[.int .i64 0, .int .i64 0] 23) = W1 at *
  refine (C1.out _ (HE.out.keep hB)).mono ?_
  rintro e w1 ⟨rfl, hb⟩
  have hB1 := bchain hB hb
  have hA1 := hA.keep hb hA.lt
  have hR : RM w (w1.alloc (.cells #[.int .i64 0, .int .i64 1] 23)) w1.heap.size 0 1 := ⟨bchain hB1 (below1 _ _), hA1.alloc _, hA1.lt, Blk.new _ _ _⟩
  clear hb hB hA hB1 hA1
  go_wp2_with fail
  obtain ⟨p, hp⟩ : ∃ p, p = w1.heap.size := ⟨_, rfl⟩
  rw [← hp] at hR ⊢
  clear hp
  generalize w1.alloc (.cells #[.int .i64 0, .int .i64 1] 23) = W2 at *
  refine (A1.out _).mono ?_
  rintro e w2 ⟨rfl, hb⟩
  have hR2 := hR.keep hb
  clear hb hR
  have x0 := hR2.bf.cell (j := 0) (v := .int .i64 0) rfl
  have x1 := hR2.bf.free 0
  have hR3 := hR2.set0 n
  have y1 := hR2.bf.cell (j := 1) (v := .int .i64 1) rfl
  clear hR2
  go_wp2_with fail
  clear x0 x1 y1
  generalize w2.setCell ⟨p, 0, none⟩ (.int .i64 n) = W3 at *
  refine (TX.out _).mono ?_
  rintro e w6 ⟨rfl, hb⟩
  have hR6 := hR3.keep hb
  clear hb hR3
  have r0 := hR6.br.cell (j := 0) (v := .int .i64 0) rfl
  have r1 := hR6.br.cell (j := 1) (v := .int .i64 0) rfl
  have f0 := hR6.br.free 0
  have f1 := hR6.br.free 1
  have hB9 := hR6.below
  clear hR6
  go_wp2
  refine bodyPost_ret (v := .tuple #[.agg #[.int .i64 0, .int .i64 0], .int .i64 10]) (by simp [results, Tryz.results33, go_sem, r0, r1]) rfl ?_
  exact retF_mk rfl ((hB9.setCell (by simp) _).setCell (by simp) _)
set_option maxRecDepth 100000 in
set_option maxHeartbeats 2000000 in
theorem oread_other1 (L a b : List UInt8) (f : Bool) (hL : L.length < 4294967281) (hc : Lib.cut L [47] = (a, b, f)) (hl : ¬ 40 < L.length) (n : Int) (hx : Lib.atoiAll a = .ok n) (hf : f = false) (hr : rightB n 1 = true) (ht : textF n 1 ≠ L) (w : World) (he : Env w) :
    Calls Tryz.prog 33 #[.string ⟨L.toArray⟩] w (RetF (0, 0, 10) w) := by
  have C1 := cut_hid L a b f hL hc
  have HE := Lib.hid he
  have cl : a.length ≤ L.length ∧ b.length ≤ L.length := by have := cut_len L; rw [hc] at this; exact this
  have t1 : decide (40 < (L.length : Int)) = false := decide_eq_false (by omega)
  have t2 : decide (40 < L.length) = false := decide_eq_false (by omega)
  have A1 := atoi_ok_hid a n (by omega) hx
  have bn := Lib.atoiAll_bounds hx
  have hfb := FB.one n bn.1 bn.2
  obtain ⟨T, hT⟩ : ∃ T, textF n 1 = T := ⟨_, rfl⟩
  have TX : Hid (∀ w, Env w → Calls Tryz.prog 28 #[.agg #[.int .i64 n, .int .i64 1]] w fun e w' => e = .returned (.tuple #[.string ⟨T.toArray⟩, .int .i64 0]) ∧ Below w.heap.size w w') := Lib.hid fun w hw => hT ▸ otext_ok n 1 hfb hr w hw
  rw [hT] at ht
  clear hT
  have te : (T == L) = false := by simpa using ht
  subst hf
  clear hl hL hc he cl hx bn hfb hr ht
  go_enter Tryz.func33, Tryz.ntmps33
  go_wp2_with fail
  have hB := below1 w (.cells #[.int .i64 0, .int .i64 0] 23)
  have hA := Blk.new w 23 #[.int .i64 0, .int .i64 0]
  generalize w.alloc (.cells #[.int .i64 0, .int .i64 0] 23) = W1 at *
  refine (C1.out _ (HE.out.keep hB)).mono ?_
  rintro e w1 ⟨rfl, hb⟩
  have hB1 := bchain hB hb
  have hA1 := hA.keep hb hA.lt
  have hR : RM w (w1.alloc (.cells #[.int .i64 0, .int .i64 1] 23)) w1.heap.size 0 1 := ⟨bchain hB1 (below1 _ _), hA1.alloc _, hA1.lt, Blk.new _ _ _⟩
  clear hb hB hA hB1 hA1
  go_wp2_with fail
  obtain ⟨p, hp⟩ : ∃ p, p = w1.heap.size := ⟨_, rfl⟩
  rw [← hp] at hR ⊢
  clear hp
  generalize w1.alloc (.cells #[.int .i64 0, .int .i64 1] 23) = W2 at *
  refine (A1.out _).mono ?_
  rintro e w2 ⟨rfl, hb⟩
  have hR2 := hR.keep hb
  clear hb hR
  have x0 := hR2.bf.cell (j := 0) (v := .int .i64 0) rfl
  have x1 := hR2.bf.free 0
  have hR3 := hR2.set0 n
  have y1 := hR2.bf.cell (j := 1) (v := .int .i64 1) rfl
  clear hR2
  go_wp2_with fail
  clear x0 x1 y1
  generalize w2.setCell ⟨p, 0, none⟩ (.int .i64 n) = W3 at *
  refine (TX.out _ (HE.out.keep hR3.below)).mono ?_
  rintro e w6 ⟨rfl, hb⟩
  have hR6 := hR3.keep hb
  clear hb hR3
  have r0 := hR6.br.cell (j := 0) (v := .int .i64 0) rfl
  have r1 := hR6.br.cell (j := 1) (v := .int .i64 0) rfl
  have f0 := hR6.br.free 0
  have f1 := hR6.br.free 1
  have hB9 := hR6.below
  clear hR6
  go_wp2
  refine bodyPost_ret (v := .tuple #[.agg #[.int .i64 0, .int .i64 0], .int .i64 10]) (by simp [results, Tryz.results33, go_sem, r0, r1]) rfl ?_
  exact retF_mk rfl ((hB9.setCell (by simp) _).setCell (by simp) _)
set_option maxRecDepth 100000 in
set_option maxHeartbeats 2000000 in
theorem oread_same1 (L a b : List UInt8) (f : Bool) (hL : L.length < 4294967281) (hc : Lib.cut L [47] = (a, b, f)) (hl : ¬ 40 < L.length) (n : Int) (hx : Lib.atoiAll a = .ok n) (hf : f = false) (hr : rightB n 1 = true) (ht : textF n 1 = L) (w : World) (he : Env w) :
    Calls Tryz.prog 33 #[.string ⟨L.toArray⟩] w (RetF (n, 1, 0) w) := by
  have C1 := cut_hid L a b f hL hc
  have HE := Lib.hid he
  have cl : a.length ≤ L.length ∧ b.length ≤ L.length := by have := cut_len L; rw [hc] at this; exact this
  have t1 : decide (40 < (L.length : Int)) = false := decide_eq_false (by omega)
  have t2 : decide (40 < L.length) = false := decide_eq_false (by omega)
  have A1 := atoi_ok_hid a n (by omega) hx
  have bn := Lib.atoiAll_bounds hx
  have hfb := FB.one n bn.1 bn.2
  obtain ⟨T, hT⟩ : ∃ T, textF n 1 = T := ⟨_, rfl⟩
  have TX : Hid (∀ w, Env w → Calls Tryz.prog 28 #[.agg #[.int .i64 n, .int .i64 1]] w fun e w' => e = .returned (.tuple #[.string ⟨T.toArray⟩, .int .i64 0]) ∧ Below w.heap.size w w') := Lib.hid fun w hw => hT ▸ otext_ok n 1 hfb hr w hw
  rw [hT] at ht
  clear hT
  subst ht
  subst hf
  clear hl hL hc he cl hx bn hfb hr
  go_enter Tryz.func33, Tryz.ntmps33
  go_wp2_with fail
  have hB := below1 w (.cells #[.int .i64 0, .int .i64 0] 23)
  have hA := Blk.new w 23 #[.int .i64 0, .int .i64 0]
  generalize w.alloc (.cells #[.int .i64 0, .int .i64 0] 23) = W1 at *
  refine (C1.out _ (HE.out.keep hB)).mono ?_
  rintro e w1 ⟨rfl, hb⟩
  have hB1 := bchain hB hb
  have hA1 := hA.keep hb hA.lt
  have hR : RM w (w1.alloc (.cells #[.int .i64 0, .int .i64 1] 23)) w1.heap.size 0 1 := ⟨bchain hB1 (below1 _ _), hA1.alloc _, hA1.lt, Blk.new _ _ _⟩
  clear hb hB hA hB1 hA1
  go_wp2_with fail
  obtain ⟨p, hp⟩ : ∃ p, p = w1.heap.size := ⟨_, rfl⟩
  rw [← hp] at hR ⊢
  clear hp
  generalize w1.alloc (.cells #[.int .i64 0, .int .i64 1] 23) = W2 at *
  refine (A1.out _).mono ?_
  rintro e w2 ⟨rfl, hb⟩
  have hR2 := hR.keep hb
  clear hb hR
  have x0 := hR2.bf.cell (j := 0) (v := .int .i64 0) rfl
  have x1 := hR2.bf.free 0
  have hR3 := hR2.set0 n
  have y1 := hR2.bf.cell (j := 1) (v := .int .i64 1) rfl
  clear hR2
  go_wp2_with fail
  clear x0 x1 y1
  generalize w2.setCell ⟨p, 0, none⟩ (.int .i64 n) = W3 at *
  refine (TX.out _ (HE.out.keep hR3.below)).mono ?_
  rintro e w6 ⟨rfl, hb⟩
  have hR6 := hR3.keep hb
  clear hb hR3
  have y0 := hR6.bf.cell (j := 0) (v := .int .i64 n) rfl
  have y1 := hR6.bf.cell (j := 1) (v := .int .i64 1) rfl
  have r0 := hR6.br.cell (j := 0) (v := .int .i64 0) rfl
  have r1 := hR6.br.cell (j := 1) (v := .int .i64 0) rfl
  have f0 := hR6.br.free 0
  have f1 := hR6.br.free 1
  have hB9 := hR6.below
  clear hR6
  go_wp2
  refine bodyPost_ret (v := .tuple #[.agg #[.int .i64 n, .int .i64 1], .int .i64 0]) (by simp [results, Tryz.results33, go_sem, r0, r1]) rfl ?_
  exact retF_mk rfl ((hB9.setCell (by simp) _).setCell (by simp) _)
set_option maxRecDepth 100000 in
set_option maxHeartbeats 2000000 in
theorem oread_wrong2 (L a b : List UInt8) (f : Bool) (hL : L.length < 4294967281) (hc : Lib.cut L [47] = (a, b, f)) (hl : ¬ 40 < L.length) (n : Int) (hx : Lib.atoiAll a = .ok n) (hf : f = true) (d : Int) (hy : Lib.atoiAll b = .ok d) (hr : rightB n d = false) (w : World) (he : Env w) :
    Calls Tryz.prog 33 #[.string ⟨L.toArray⟩] w (RetF (0, 0, 10) w) := by
  have C1 := cut_hid L a b f hL hc
  have HE := Lib.hid he
  have cl : a.length ≤ L.length ∧ b.length ≤ L.length := by have := cut_len L; rw [hc] at this; exact this
  have t1 : decide (40 < (L.length : Int)) = false := decide_eq_false (by omega)
  have t2 : decide (40 < L.length) = false := decide_eq_false (by omega)
  have A1 := atoi_ok_hid a n (by omega) hx
  have bn := Lib.atoiAll_bounds hx
  have A2 := atoi_ok_hid b d (by omega) hy
  have bd := Lib.atoiAll_bounds hy
  have hfb : FB n d := ⟨bn.1, bn.2, bd.1, bd.2⟩
  have TX : Hid (∀ w, Calls Tryz.prog 28 #[.agg #[.int .i64 n, .int .i64 d]] w fun e w' => e = .returned (.tuple #[.string ⟨#[]⟩, .int .i64 2]) ∧ Below w.heap.size w w') := Lib.hid fun w => otext_bad n d hfb hr w
  subst hf
  clear hl hL hc he cl hx bn hfb hr hy bd
  go_enter Tryz.func33, Tryz.ntmps33
  go_wp2_with fail
  have hB := below1 w (.cells #[.int .i64 0, .int .i64 0] 23)
  have hA := Blk.new w 23 #[.int .i64 0, .int .i64 0]
  generalize w.alloc (.cells #[.int .i64 0, .int .i64 0] 23) = W1 at *
  refine (C1.out _ (HE.out.keep hB)).mono ?_
  rintro e w1 ⟨rfl, hb⟩
  have hB1 := bchain hB hb
  have hA1 := hA.keep hb hA.lt
  have hR : RM w (w1.alloc (.cells #[.int .i64 0, .int .i64 1] 23)) w1.heap.size 0 1 := ⟨bchain hB1 (below1 _ _), hA1.alloc _, hA1.lt, Blk.new _ _ _⟩
  clear hb hB hA hB1 hA1
  go_wp2_with fail
  obtain ⟨p, hp⟩ : ∃ p, p = w1.heap.size := ⟨_, rfl⟩
  rw [← hp] at hR ⊢
  clear hp
  generalize w1.alloc (.cells #[.int .i64 0, .int .i64 1] 23) = W2 at *
  refine (A1.out _).mono ?_
  rintro e w2 ⟨rfl, hb⟩
  have hR2 := hR.keep hb
  clear hb hR
  have x0 := hR2.bf.cell (j := 0) (v := .int .i64 0) rfl
  have x1 := hR2.bf.free 0
  have hR3 := hR2.set0 n
  clear hR2
  go_wp2_with fail
  clear x0 x1
  generalize w2.setCell ⟨p, 0, none⟩ (.int .i64 n) = W3 at *
  refine (A2.out _).mono ?_
  rintro e w4 ⟨rfl, hb⟩
  have hR4 := hR3.keep hb
  clear hb hR3
  have x0 := hR4.bf.cell (j := 1) (v := .int .i64 1) rfl
  have x1 := hR4.bf.free 1
  have hR5 := hR4.set1 d
  have y0 := hR4.bf.cell (j := 0) (v := .int .i64 n) rfl
  clear hR4
  go_wp2_with fail
  clear x0 x1 y0
  generalize w4.setCell ⟨p, 1, none⟩ (.int .i64 d) = W5 at *
  refine (TX.out _).mono ?_
  rintro e w6 ⟨rfl, hb⟩
  have hR6 := hR5.keep hb
  clear hb hR5
  have r0 := hR6.br.cell (j := 0) (v := .int .i64 0) rfl
  have r1 := hR6.br.cell (j := 1) (v := .int .i64 0) rfl
  have f0 := hR6.br.free 0
  have f1 := hR6.br.free 1
  have hB9 := hR6.below
  clear hR6
  go_wp2
  refine bodyPost_ret (v := .tuple #[.agg #[.int .i64 0, .int .i64 0], .int .i64 10]) (by simp [results, Tryz.results33, go_sem, r0, r1]) rfl ?_
  exact retF_mk rfl ((hB9.setCell (by simp) _).setCell (by simp) _)
set_option maxRecDepth 100000 in
set_option maxHeartbeats 2000000 in
theorem oread_other2 (L a b : List UInt8) (f : Bool) (hL : L.length < 4294967281) (hc : Lib.cut L [47] = (a, b, f)) (hl : ¬ 40 < L.length) (n : Int) (hx : Lib.atoiAll a = .ok n) (hf : f = true) (d : Int) (hy : Lib.atoiAll b = .ok d) (hr : rightB n d = true) (ht : textF n d ≠ L) (w : World) (he : Env w) :
    Calls Tryz.prog 33 #[.string ⟨L.toArray⟩] w (RetF (0, 0, 10) w) := by
  have C1 := cut_hid L a b f hL hc
  have HE := Lib.hid he
  have cl : a.length ≤ L.length ∧ b.length ≤ L.length := by have := cut_len L; rw [hc] at this; exact this
  have t1 : decide (40 < (L.length : Int)) = false := decide_eq_false (by omega)
  have t2 : decide (40 < L.length) = false := decide_eq_false (by omega)
  have A1 := atoi_ok_hid a n (by omega) hx
  have bn := Lib.atoiAll_bounds hx
  have A2 := atoi_ok_hid b d (by omega) hy
  have bd := Lib.atoiAll_bounds hy
  have hfb : FB n d := ⟨bn.1, bn.2, bd.1, bd.2⟩
  obtain ⟨T, hT⟩ : ∃ T, textF n d = T := ⟨_, rfl⟩
  have TX : Hid (∀ w, Env w → Calls Tryz.prog 28 #[.agg #[.int .i64 n, .int .i64 d]] w fun e w' => e = .returned (.tuple #[.string ⟨T.toArray⟩, .int .i64 0]) ∧ Below w.heap.size w w') := Lib.hid fun w hw => hT ▸ otext_ok n d hfb hr w hw
  rw [hT] at ht
  clear hT
  have te : (T == L) = false := by simpa using ht
  subst hf
  clear hl hL hc he cl hx bn hfb hr hy bd ht
  go_enter Tryz.func33, Tryz.ntmps33
  go_wp2_with fail
  have hB := below1 w (.cells #[.int .i64 0, .int .i64 0] 23)
  have hA := Blk.new w 23 #[.int .i64 0, .int .i64 0]
  generalize w.alloc (.cells #[.int .i64 0, .int .i64 0] 23) = W1 at *
  refine (C1.out _ (HE.out.keep hB)).mono ?_
  rintro e w1 ⟨rfl, hb⟩
  have hB1 := bchain hB hb
  have hA1 := hA.keep hb hA.lt
  have hR : RM w (w1.alloc (.cells #[.int .i64 0, .int .i64 1] 23)) w1.heap.size 0 1 := ⟨bchain hB1 (below1 _ _), hA1.alloc _, hA1.lt, Blk.new _ _ _⟩
  clear hb hB hA hB1 hA1
  go_wp2_with fail
  obtain ⟨p, hp⟩ : ∃ p, p = w1.heap.size := ⟨_, rfl⟩
  rw [← hp] at hR ⊢
  clear hp
  generalize w1.alloc (.cells #[.int .i64 0, .int .i64 1] 23) = W2 at *
  refine (A1.out _).mono ?_
  rintro e w2 ⟨rfl, hb⟩
  have hR2 := hR.keep hb
  clear hb hR
  have x0 := hR2.bf.cell (j := 0) (v := .int .i64 0) rfl
  have x1 := hR2.bf.free 0
  have hR3 := hR2.set0 n
  clear hR2
  go_wp2_with fail
  clear x0 x1
  generalize w2.setCell ⟨p, 0, none⟩ (.int .i64 n) = W3 at *
  refine (A2.out _).mono ?_
  rintro e w4 ⟨rfl, hb⟩
  have hR4 := hR3.keep hb
  clear hb hR3
  have x0 := hR4.bf.cell (j := 1) (v := .int .i64 1) rfl
  have x1 := hR4.bf.free 1
  have hR5 := hR4.set1 d
  have y0 := hR4.bf.cell (j := 0) (v := .int .i64 n) rfl
  clear hR4
  go_wp2_with fail
  clear x0 x1 y0
  generalize w4.setCell ⟨p, 1, none⟩ (.int .i64 d) = W5 at *
  refine (TX.out _ (HE.out.keep hR5.below)).mono ?_
  rintro e w6 ⟨rfl, hb⟩
  have hR6 := hR5.keep hb
  clear hb hR5
  have r0 := hR6.br.cell (j := 0) (v := .int .i64 0) rfl
  have r1 := hR6.br.cell (j := 1) (v := .int .i64 0) rfl
  have f0 := hR6.br.free 0
  have f1 := hR6.br.free 1
  have hB9 := hR6.below
  clear hR6
  go_wp2
  refine bodyPost_ret (v := .tuple #[.agg #[.int .i64 0, .int .i64 0], .int .i64 10]) (by simp [results, Tryz.results33, go_sem, r0, r1]) rfl ?_
  exact retF_mk rfl ((hB9.setCell (by simp) _).setCell (by simp) _)
set_option maxRecDepth 100000 in
set_option maxHeartbeats 2000000 in
theorem oread_same2 (L a b : List UInt8) (f : Bool) (hL : L.length < 4294967281) (hc : Lib.cut L [47] = (a, b, f)) (hl : ¬ 40 < L.length) (n : Int) (hx : Lib.atoiAll a = .ok n) (hf : f = true) (d : Int) (hy : Lib.atoiAll b = .ok d) (hr : rightB n d = true) (ht : textF n d = L) (w : World) (he : Env w) :
    Calls Tryz.prog 33 #[.string ⟨L.toArray⟩] w (RetF (n, d, 0) w) := by
  have C1 := cut_hid L a b f hL hc
  have HE := Lib.hid he
  have cl : a.length ≤ L.length ∧ b.length ≤ L.length := by have := cut_len L; rw [hc] at this; exact this
  have t1 : decide (40 < (L.length : Int)) = false := decide_eq_false (by omega)
  have t2 : decide (40 < L.length) = false := decide_eq_false (by omega)
  have A1 := atoi_ok_hid a n (by omega) hx
  have bn := Lib.atoiAll_bounds hx
  have A2 := atoi_ok_hid b d (by omega) hy
  have bd := Lib.atoiAll_bounds hy
  have hfb : FB n d := ⟨bn.1, bn.2, bd.1, bd.2⟩
  obtain ⟨T, hT⟩ : ∃ T, textF n d = T := ⟨_, rfl⟩
  have TX : Hid (∀ w, Env w → Calls Tryz.prog 28 #[.agg #[.int .i64 n, .int .i64 d]] w fun e w' => e = .returned (.tuple #[.string ⟨T.toArray⟩, .int .i64 0]) ∧ Below w.heap.size w w') := Lib.hid fun w hw => hT ▸ otext_ok n d hfb hr w hw
  rw [hT] at ht
  clear hT
  subst ht
  subst hf
  clear hl hL hc he cl hx bn hfb hr hy bd
  go_enter Tryz.func33, Tryz.ntmps33
  go_wp2_with fail
  have hB := below1 w (.cells #[.int .i64 0, .int .i64 0] 23)
  have hA := Blk.new w 23 #[.int .i64 0, .int .i64 0]
  generalize w.alloc (.cells #[.int .i64 0, .int .i64 0] 23) = W1 at *
  refine (C1.out _ (HE.out.keep hB)).mono ?_
  rintro e w1 ⟨rfl, hb⟩
  have hB1 := bchain hB hb
  have hA1 := hA.keep hb hA.lt
  have hR : RM w (w1.alloc (.cells #[.int .i64 0, .int .i64 1] 23)) w1.heap.size 0 1 := ⟨bchain hB1 (below1 _ _), hA1.alloc _, hA1.lt, Blk.new _ _ _⟩
  clear hb hB hA hB1 hA1
  go_wp2_with fail
  obtain ⟨p, hp⟩ : ∃ p, p = w1.heap.size := ⟨_, rfl⟩
  rw [← hp] at hR ⊢
  clear hp
  generalize w1.alloc (.cells #[.int .i64 0, .int .i64 1] 23) = W2 at *
  refine (A1.out _).mono ?_
  rintro e w2 ⟨rfl, hb⟩
  have hR2 := hR.keep hb
  clear hb hR
  have x0 := hR2.bf.cell (j := 0) (v := .int .i64 0) rfl
  have x1 := hR2.bf.free 0
  have hR3 := hR2.set0 n
  clear hR2
  go_wp2_with fail
  clear x0 x1
  generalize w2.setCell ⟨p, 0, none⟩ (.int .i64 n) = W3 at *
  refine (A2.out _).mono ?_
  rintro e w4 ⟨rfl, hb⟩
  have hR4 := hR3.keep hb
  clear hb hR3
  have x0 := hR4.bf.cell (j := 1) (v := .int .i64 1) rfl
  have x1 := hR4.bf.free 1
  have hR5 := hR4.set1 d
  have y0 := hR4.bf.cell (j := 0) (v := .int .i64 n) rfl
  clear hR4
  go_wp2_with fail
  clear x0 x1 y0
  generalize w4.setCell ⟨p, 1, none⟩ (.int .i64 d) = W5 at *
  refine (TX.out _ (HE.out.keep hR5.below)).mono ?_
  rintro e w6 ⟨rfl, hb⟩
  have hR6 := hR5.keep hb
  clear hb hR5
  have y0 := hR6.bf.cell (j := 0) (v := .int .i64 n) rfl
  have y1 := hR6.bf.cell (j := 1) (v := .int .i64 d) rfl
  have r0 := hR6.br.cell (j := 0) (v := .int .i64 0) rfl
  have r1 := hR6.br.cell (j := 1) (v := .int .i64 0) rfl
  have f0 := hR6.br.free 0
  have f1 := hR6.br.free 1
  have hB9 := hR6.below
  clear hR6
  go_wp2
  refine bodyPost_ret (v := .tuple #[.agg #[.int .i64 n, .int .i64 d], .int .i64 0]) (by simp [results, Tryz.results33, go_sem, r0, r1]) rfl ?_
  exact retF_mk rfl ((hB9.setCell (by simp) _).setCell (by simp) _)
theorem read_any (L : List UInt8) (hL : L.length < 4294967281) (w : World) (he : Env w) :
    Calls Tryz.prog 33 #[.string ⟨L.toArray⟩] w (RetF (readF L) w) := by
  rcases hc : Lib.cut L [47] with ⟨a, b, f⟩
  have hR : readF L = readR L (okOf (Lib.atoiAll a)) (okOf (Lib.atoiAll b)) f := by rw [readF, hc]
  rw [hR]
  unfold readR
  by_cases hl : 40 < L.length
  · rw [if_pos hl]; exact oread_long L a b f hL hc hl w he
  · rw [if_neg hl]
    cases hx : okOf (Lib.atoiAll a) with
    | none => exact oread_bad1 L a b f hL hc hl (fun n h => by rw [okOf_some.2 h] at hx; cases hx) w he
    | some n =>
      have hx := okOf_some.1 hx
      cases hf : f
      · simp only [Bool.false_eq_true, if_false]
        unfold chkF
        cases hr : rightB n 1
        · rw [if_neg (by simp)]; exact oread_wrong1 L a b f hL hc hl n hx hf hr w he
        · by_cases ht : textF n 1 = L
          · rw [if_pos ⟨rfl, ht⟩]; exact oread_same1 L a b f hL hc hl n hx hf hr ht w he
          · rw [if_neg (fun h => ht h.2)]; exact oread_other1 L a b f hL hc hl n hx hf hr ht w he
      · simp only [if_true]
        cases hy : okOf (Lib.atoiAll b) with
        | none => exact oread_bad2 L a b f hL hc hl n hx hf (fun n h => by rw [okOf_some.2 h] at hy; cases hy) w he
        | some d =>
          have hy := okOf_some.1 hy
          simp only
          unfold chkF
          cases hr : rightB n d
          · rw [if_neg (by simp)]; exact oread_wrong2 L a b f hL hc hl n hx hf d hy hr w he
          · by_cases ht : textF n d = L
            · rw [if_pos ⟨rfl, ht⟩]; exact oread_same2 L a b f hL hc hl n hx hf d hy hr ht w he
            · rw [if_neg (fun h => ht h.2)]; exact oread_other2 L a b f hL hc hl n hx hf d hy hr ht w he
end Go.Proofs.YtfhkgpipbegpgaaGreatDoor
