/- The reading of a deal: deal.Read. -/
import Derived.Test.YtaadipccgckehaaGreatDoorCB
import Derived.Test.YtaadipccgckehaaGreatDoorPlM
namespace Go.Proofs.YtaadipccgckehaaGreatDoor
open Go Go.RowKit Go.Shelf Pl

def zC : Array Value := #[.int .u64 0, .int .u64 0, .int .u64 0, .int .u64 0]
def dret (s : List UInt8) : Value := if dok s then .tuple #[.agg #[.int .u64 (dval s 0 : Nat), .int .u64 (dval s 1 : Nat), .int .u64 (dval s 2 : Nat), .int .u64 (dval s 3 : Nat)], .int .i64 0] else .tuple #[.agg #[.int .u64 0, .int .u64 0, .int .u64 0, .int .u64 0], .int .i64 61]
theorem zzset {w : World} {p : Nat} (h : Blk w p 24 zC) : Blk ((((w.setCell ⟨p, 0, none⟩ (.int .u64 0)).setCell ⟨p, 1, none⟩ (.int .u64 0)).setCell ⟨p, 2, none⟩ (.int .u64 0)).setCell ⟨p, 3, none⟩ (.int .u64 0)) p 24 zC :=
  (((h.set 0 (.int .u64 0)).set 1 (.int .u64 0)).set 2 (.int .u64 0)).set 3 (.int .u64 0)
theorem zzbelow {w0 w : World} {p B : Nat} (h : Below B w0 w) (hp : B ≤ p) (a b c d : Value) : Below B w0 ((((w.setCell ⟨p, 0, none⟩ a).setCell ⟨p, 1, none⟩ b).setCell ⟨p, 2, none⟩ c).setCell ⟨p, 3, none⟩ d) :=
  (((h.setCell (p := ⟨p, 0, none⟩) hp a).setCell (p := ⟨p, 1, none⟩) hp b).setCell (p := ⟨p, 2, none⟩) hp c).setCell (p := ⟨p, 3, none⟩) hp d
theorem two_zero (w : World) : Blk ((w.alloc (.cells zC 24)).alloc (.cells zC 24)) w.heap.size 24 zC ∧ Blk ((w.alloc (.cells zC 24)).alloc (.cells zC 24)) (w.heap.size + 1) 24 zC ∧ Below w.heap.size w ((w.alloc (.cells zC 24)).alloc (.cells zC 24)) := by
  refine ⟨(Blk.new w _ _).alloc _, ?_, (below1 w _).alloc (by simp) _⟩
  have := Blk.new (w.alloc (.cells zC 24)) 24 zC
  rwa [show (w.alloc (.cells zC 24)).heap.size = w.heap.size + 1 by simp] at this
set_option maxRecDepth 100000 in
theorem dread_prefix (s : ByteArray) (h : Lib.hasPrefix s.data.toList [78, 58] = false) (w : World) : Calls Tryz.prog 39 #[.string s] w (fun e w' => e = .returned (dret s.data.toList) ∧ Below w.heap.size w w') := by
  have HX : Hid (dret s.data.toList = .tuple #[.agg zC, .int .i64 61]) := Lib.hid (by unfold dret dok; rw [h]; rfl)
  have CP := Lib.hid (fun W => Tryz.strings_CutPrefix s ⟨#[78, 58]⟩ W)
  have h' : Lib.hasPrefix s.data.toList (⟨#[78, 58]⟩ : ByteArray).data.toList = false := h
  rw [h'] at CP
  generalize (⟨(Lib.trimPrefix s.data.toList (⟨#[78, 58]⟩ : ByteArray).data.toList).toArray⟩ : ByteArray) = T at *
  clear h h'
  go_enter Tryz.func39, Tryz.ntmps39
  go_wp2_with (go_at_call 59; refine (CP.out _).mono ?_; rintro e w' ⟨rfl, rfl⟩)
  have b := two_zero w
  have x0 := b.1.cell (j := 0) rfl
  have x1 := b.1.cell (j := 1) rfl
  have x2 := b.1.cell (j := 2) rfl
  have x3 := b.1.cell (j := 3) rfl
  have HB := Lib.hid b.2.2
  unfold zC at x0 x1 x2 x3 HB
  clear b
  generalize (w.alloc (.cells #[.int .u64 0, .int .u64 0, .int .u64 0, .int .u64 0] 24)).alloc (.cells #[.int .u64 0, .int .u64 0, .int .u64 0, .int .u64 0] 24) = W at *
  refine bodyPost_ret (by simp [results, Tryz.results39, go_sem, x0, x1, x2, x3]; try rfl) rfl ?_
  exact ⟨by rw [HX.out]; rfl, HB.out⟩
set_option maxRecDepth 100000 in
theorem dread_long (s : ByteArray) (h : Lib.hasPrefix s.data.toList [78, 58] = true) (hl : 69 < s.size) (w : World) : Calls Tryz.prog 39 #[.string s] w (fun e w' => e = .returned (dret s.data.toList) ∧ Below w.heap.size w w') := by
  have HX : Hid (dret s.data.toList = .tuple #[.agg zC, .int .i64 61]) := Lib.hid (by
    have e : s.data.toList.length = s.size := by simp
    unfold dret dok
    rw [decide_eq_false (show ¬ s.data.toList.length ≤ 69 by omega)]
    simp [zC])
  have CP := Lib.hid (fun W => Tryz.strings_CutPrefix s ⟨#[78, 58]⟩ W)
  have h' : Lib.hasPrefix s.data.toList (⟨#[78, 58]⟩ : ByteArray).data.toList = true := h
  rw [h'] at CP
  generalize (⟨(Lib.trimPrefix s.data.toList (⟨#[78, 58]⟩ : ByteArray).data.toList).toArray⟩ : ByteArray) = T at *
  have t1 : decide ((69 : Int) < (s.size : Int)) = true := decide_eq_true (by omega)
  have t2 : decide (69 < s.size) = true := decide_eq_true hl
  clear h h' hl
  go_enter Tryz.func39, Tryz.ntmps39
  go_wp2_with (go_at_call 59; refine (CP.out _).mono ?_; rintro e w' ⟨rfl, rfl⟩)
  have b := two_zero w
  have x0 := b.1.cell (j := 0) rfl
  have x1 := b.1.cell (j := 1) rfl
  have x2 := b.1.cell (j := 2) rfl
  have x3 := b.1.cell (j := 3) rfl
  have HB := Lib.hid b.2.2
  unfold zC at x0 x1 x2 x3 HB
  clear b
  generalize (w.alloc (.cells #[.int .u64 0, .int .u64 0, .int .u64 0, .int .u64 0] 24)).alloc (.cells #[.int .u64 0, .int .u64 0, .int .u64 0, .int .u64 0] 24) = W at *
  refine bodyPost_ret (by simp [results, Tryz.results39, go_sem, x0, x1, x2, x3]; try rfl) rfl ?_
  exact ⟨by rw [HX.out]; rfl, HB.out⟩
theorem splitcells (A : List ByteArray) (j : Nat) (x : ByteArray) (h : A[j]? = some x) : (A.map Value.string).toArray[j]? = some (.string x) := by simp [h]
set_option maxRecDepth 100000 in
theorem dread_count (s : ByteArray) (h : Lib.hasPrefix s.data.toList [78, 58] = true) (hl : ¬ 69 < s.size) (hc : (drest s.data.toList).count 32 ≠ 3) (w : World) (hm : MaxL w) : Calls Tryz.prog 39 #[.string s] w (fun e w' => e = .returned (dret s.data.toList) ∧ Below w.heap.size w w') := by
  have HX : Hid (dret s.data.toList = .tuple #[.agg zC, .int .i64 61]) := Lib.hid (by
    unfold dret dok
    rw [decide_eq_false hc]
    simp [zC])
  have CP := Lib.hid (fun W => Tryz.strings_CutPrefix s ⟨#[78, 58]⟩ W)
  have h' : Lib.hasPrefix s.data.toList (⟨#[78, 58]⟩ : ByteArray).data.toList = true := h
  rw [h'] at CP
  have hT : (⟨(Lib.trimPrefix s.data.toList (⟨#[78, 58]⟩ : ByteArray).data.toList).toArray⟩ : ByteArray).data.toList = drest s.data.toList := by simp [drest]
  have hTs : (⟨(Lib.trimPrefix s.data.toList (⟨#[78, 58]⟩ : ByteArray).data.toList).toArray⟩ : ByteArray).size ≤ s.size := by
    show (Lib.trimPrefix s.data.toList (⟨#[78, 58]⟩ : ByteArray).data.toList).toArray.size ≤ s.data.size
    rw [List.size_toArray]
    unfold Lib.trimPrefix
    split <;> simp
  generalize (⟨(Lib.trimPrefix s.data.toList (⟨#[78, 58]⟩ : ByteArray).data.toList).toArray⟩ : ByteArray) = T at *
  rw [← hT] at hc
  have SP := Lib.hid (fun W (hW : MaxL W) => Tryz.strings_Split T ⟨#[32]⟩ hW.choose W (by omega) hW.choose_spec (by decide))
  have hcb : Lib.countB T ⟨#[32]⟩ ≠ 3 := by
    have := Lib.count_one 32 T.data.toList
    intro e
    exact hc (this.symm.trans e)
  generalize hq : Lib.countB T ⟨#[32]⟩ = q at *
  have hq70 : q ≤ 69 := by
    have := Lib.countB_le ⟨#[32]⟩ (by decide) T.size T (Nat.le_refl _)
    omega
  generalize (((Lib.splitB ⟨#[32]⟩ 0 q T).map Value.string).toArray) = cs at *
  have t1 : decide ((69 : Int) < (s.size : Int)) = false := decide_eq_false (by omega)
  have t2 : decide (69 < s.size) = false := decide_eq_false hl
  have t3 : (((q + 1 : Nat) : Int) != 4) = true := by simpa using (by omega : ¬ ((q : Int) + 1 = 4))
  obtain ⟨Q, hQ⟩ : ∃ Q, q + 1 = Q := ⟨_, rfl⟩
  rw [hQ] at t3 SP
  have HM := Lib.hid hm
  clear h h' hl hc hT hTs hcb hq hq70 hm hQ
  go_enter Tryz.func39, Tryz.ntmps39
  go_wp2_with (go_at_call 59; refine (CP.out _).mono ?_; rintro e w' ⟨rfl, rfl⟩)
  have BZ := two_zero w
  unfold zC at BZ
  have hs2 : ((w.alloc (.cells #[.int .u64 0, .int .u64 0, .int .u64 0, .int .u64 0] 24)).alloc (.cells #[.int .u64 0, .int .u64 0, .int .u64 0, .int .u64 0] 24)).heap.size = w.heap.size + 2 := by simp
  generalize (w.alloc (.cells #[.int .u64 0, .int .u64 0, .int .u64 0, .int .u64 0] 24)).alloc (.cells #[.int .u64 0, .int .u64 0, .int .u64 0, .int .u64 0] 24) = W2 at *
  refine (SP.out _ (HM.out.keep BZ.2.2)).mono ?_
  rintro e w' ⟨rfl, rfl⟩
  have b1 := BZ.1.alloc (.cells cs 9)
  have HB := Lib.hid (BZ.2.2.alloc (by omega) (.cells cs 9))
  clear BZ
  rw [hs2]
  generalize w.heap.size + 2 = p2 at *
  generalize hp0 : w.heap.size = p0 at *
  generalize W2.alloc (.cells cs 9) = W3 at *
  have x0 := b1.cell (j := 0) rfl
  have x1 := b1.cell (j := 1) rfl
  have x2 := b1.cell (j := 2) rfl
  have x3 := b1.cell (j := 3) rfl
  have f0 := b1.free 0
  have f1 := b1.free 1
  have f2 := b1.free 2
  have f3 := b1.free 3
  have HZ := Lib.hid (zzset b1)
  have HBZ := Lib.hid (zzbelow HB.out (Nat.le_refl p0) (.int .u64 0) (.int .u64 0) (.int .u64 0) (.int .u64 0))
  clear b1 HB hs2 SP CP HM
  go_wp2_with fail
  generalize (((W3.setCell ⟨p0, 0, none⟩ (.int .u64 0)).setCell ⟨p0, 1, none⟩ (.int .u64 0)).setCell ⟨p0, 2, none⟩ (.int .u64 0)).setCell ⟨p0, 3, none⟩ (.int .u64 0) = W4 at *
  clear x0 x1 x2 x3 f0 f1 f2 f3
  have x0 := HZ.out.cell (j := 0) (v := .int .u64 0) rfl
  have x1 := HZ.out.cell (j := 1) (v := .int .u64 0) rfl
  have x2 := HZ.out.cell (j := 2) (v := .int .u64 0) rfl
  have x3 := HZ.out.cell (j := 3) (v := .int .u64 0) rfl
  refine bodyPost_ret (by simp [results, Tryz.results39, go_sem, x0, x1, x2, x3]; try rfl) rfl ?_
  exact ⟨by rw [HX.out]; rfl, by rw [hp0]; exact HBZ.out⟩
/-- The cells of the deal while it is read. -/
def rC (V : Nat → Nat) (k : Nat) : Array Value := #[if 0 < k then .int .u64 (V 0 : Nat) else .int .u64 0, if 1 < k then .int .u64 (V 1 : Nat) else .int .u64 0, if 2 < k then .int .u64 (V 2 : Nat) else .int .u64 0, if 3 < k then .int .u64 (V 3 : Nat) else .int .u64 0]
theorem rC_set (V : Nat → Nat) (k : Nat) (hk : k < 4) : (rC V k).setIfInBounds k (.int .u64 (V k : Nat)) = rC V (k + 1) := by
  rcases (by omega : k = 0 ∨ k = 1 ∨ k = 2 ∨ k = 3) with rfl | rfl | rfl | rfl <;> simp [rC]
theorem rC_get (V : Nat → Nat) (k j : Nat) (hj : j < 4) : ∃ v, (rC V k)[j]? = some v := ⟨_, Array.getElem?_eq_getElem (show j < 4 from hj)⟩
theorem rC_0 (V : Nat → Nat) : rC V 0 = zC := by simp [rC, zC]
theorem rC_4 (V : Nat → Nat) : rC V 4 = #[.int .u64 (V 0 : Nat), .int .u64 (V 1 : Nat), .int .u64 (V 2 : Nat), .int .u64 (V 3 : Nat)] := by simp [rC]
theorem zxset {w : World} {p : Nat} (h : Blk w p 24 zC) (a b c d : Value) : Blk ((((w.setCell ⟨p, 0, none⟩ a).setCell ⟨p, 1, none⟩ b).setCell ⟨p, 2, none⟩ c).setCell ⟨p, 3, none⟩ d) p 24 #[a, b, c, d] :=
  (((h.set 0 a).set 1 b).set 2 c).set 3 d
set_option maxRecDepth 100000 in
theorem dread_main (s : ByteArray) (h : Lib.hasPrefix s.data.toList [78, 58] = true) (hl : ¬ 69 < s.size) (hc : (drest s.data.toList).count 32 = 3) (w : World) (hm : MaxL w) : Calls Tryz.prog 39 #[.string s] w (fun e w' => e = .returned (dret s.data.toList) ∧ Below w.heap.size w w') := by
  have hdok : dok s.data.toList = ((dhand s.data.toList 0).isSome && (dhand s.data.toList 1).isSome && (dhand s.data.toList 2).isSome && (dhand s.data.toList 3).isSome && partB (dval s.data.toList)) := by
    have e : s.data.toList.length = s.size := by simp
    unfold dok
    rw [h, decide_eq_true hc, decide_eq_true (show s.data.toList.length ≤ 69 by omega)]
    simp
  have CP := Lib.hid (fun W => Tryz.strings_CutPrefix s ⟨#[78, 58]⟩ W)
  have h' : Lib.hasPrefix s.data.toList (⟨#[78, 58]⟩ : ByteArray).data.toList = true := h
  rw [h'] at CP
  have hT : (⟨(Lib.trimPrefix s.data.toList (⟨#[78, 58]⟩ : ByteArray).data.toList).toArray⟩ : ByteArray).data.toList = drest s.data.toList := by simp [drest]
  have hTs : (⟨(Lib.trimPrefix s.data.toList (⟨#[78, 58]⟩ : ByteArray).data.toList).toArray⟩ : ByteArray).size ≤ s.size := by
    show (Lib.trimPrefix s.data.toList (⟨#[78, 58]⟩ : ByteArray).data.toList).toArray.size ≤ s.data.size
    rw [List.size_toArray]
    unfold Lib.trimPrefix
    split <;> simp
  generalize (⟨(Lib.trimPrefix s.data.toList (⟨#[78, 58]⟩ : ByteArray).data.toList).toArray⟩ : ByteArray) = T at *
  have SP := Lib.hid (fun W (hW : MaxL W) => Tryz.strings_Split T ⟨#[32]⟩ hW.choose W (by omega) hW.choose_spec (by decide))
  have hcb : Lib.countB T ⟨#[32]⟩ = 3 := by
    have := Lib.count_one 32 T.data.toList
    rw [hT, hc] at this
    rw [← this, ← hT]
  rw [hcb] at SP
  obtain ⟨A, hA⟩ : ∃ A, Lib.splitB ⟨#[32]⟩ 0 3 T = A := ⟨_, rfl⟩
  have hl4 : A.length = 4 := by rw [← hA]; exact Lib.splitB_all ⟨#[32]⟩ (by decide) 0 3 T hcb
  have hpc : ∀ k, dhand s.data.toList k = cparse ((A.map (·.data.toList)).getD k []) := by
    intro k
    unfold dhand pieces
    rw [← hT, ← hA, Lib.splitB_data]
  rw [hA] at SP
  obtain ⟨a0, a1, a2, a3, rfl⟩ := four_list hl4
  obtain ⟨a, h0, h1, h2, h3⟩ : ∃ a : Nat → ByteArray, a0 = a 0 ∧ a1 = a 1 ∧ a2 = a 2 ∧ a3 = a 3 := ⟨fun i => [a0, a1, a2, a3].getD i ⟨#[]⟩, rfl, rfl, rfl, rfl⟩
  subst h0 h1 h2 h3
  have hh : ∀ k, k < 4 → dhand s.data.toList k = cparse (a k).data.toList := by
    intro k hk
    rw [hpc k]
    rcases (by omega : k = 0 ∨ k = 1 ∨ k = 2 ∨ k = 3) with rfl | rfl | rfl | rfl <;> rfl
  have HH := Lib.hid hh
  have HD := Lib.hid hdok
  have SP4 : Hid (∀ W, MaxL W → Calls Tryz.prog 60 #[.string T, .string ⟨#[32]⟩] W fun e w' => e = .returned (.slice (some ⟨W.heap.size, 0, none⟩) 4 4) ∧ w' = W.alloc (.cells #[.string (a 0), .string (a 1), .string (a 2), .string (a 3)] 9)) := SP
  have t1 : decide ((69 : Int) < (s.size : Int)) = false := decide_eq_false (by omega)
  have t2 : decide (69 < s.size) = false := decide_eq_false hl
  have HM := Lib.hid hm
  clear h h' hl hc hT hTs hcb hm hl4 hpc hdok hh SP
  go_enter Tryz.func39, Tryz.ntmps39
  go_wp2_with (go_at_call 59; refine (CP.out _).mono ?_; rintro e w' ⟨rfl, rfl⟩)
  have BZ := two_zero w
  unfold zC at BZ
  have hs2 : ((w.alloc (.cells #[.int .u64 0, .int .u64 0, .int .u64 0, .int .u64 0] 24)).alloc (.cells #[.int .u64 0, .int .u64 0, .int .u64 0, .int .u64 0] 24)).heap.size = w.heap.size + 2 := by simp
  generalize (w.alloc (.cells #[.int .u64 0, .int .u64 0, .int .u64 0, .int .u64 0] 24)).alloc (.cells #[.int .u64 0, .int .u64 0, .int .u64 0, .int .u64 0] 24) = W2 at *
  refine (SP4.out _ (HM.out.keep BZ.2.2)).mono ?_
  rintro e w' ⟨rfl, rfl⟩
  have HR := Lib.hid (BZ.1.alloc (.cells #[.string (a 0), .string (a 1), .string (a 2), .string (a 3)] 9))
  have HP := Lib.hid (BZ.2.1.alloc (.cells #[.string (a 0), .string (a 1), .string (a 2), .string (a 3)] 9))
  have HS := Lib.hid (Blk.new W2 9 #[.string (a 0), .string (a 1), .string (a 2), .string (a 3)])
  have HB := Lib.hid (BZ.2.2.alloc (by omega) (.cells #[.string (a 0), .string (a 1), .string (a 2), .string (a 3)] 9))
  have HM3 := Lib.hid (HM.out.keep HB.out)
  clear BZ
  rw [hs2] at HS ⊢
  generalize hp2 : w.heap.size + 2 = p2 at *
  generalize hp1 : w.heap.size + 1 = p1 at *
  generalize hp0 : w.heap.size = p0 at *
  have HN : Hid (p0 ≠ p1 ∧ p1 ≠ p2 ∧ p0 ≤ p1 ∧ p2 ≠ p1) := Lib.hid (by omega)
  generalize W2.alloc (.cells #[.string (a 0), .string (a 1), .string (a 2), .string (a 3)] 9) = W3 at *
  obtain ⟨V, hV⟩ : ∃ V, dval s.data.toList = V := ⟨_, rfl⟩
  have HR3 : Hid (Blk W3 p0 24 zC) := HR
  have HP3 : Hid (Blk W3 p1 24 (rC V 0)) := Lib.hid (by rw [rC_0]; exact HP.out)
  clear hs2 SP4 CP HR HP HM3
  go_wp2_with fail
  have PA := Lib.hid (fun W => part_any V (fun k _ => by rw [← hV]; have := dval_lt s.data.toList k; omega) W)
  go_loopw [33] (fun s33 wr => ∃ k : Nat, k ≤ 4 ∧ s33 = .int .i64 (k : Int) ∧ Hid (Blk wr p0 24 zC) ∧ Hid (Blk wr p1 24 (rC V k)) ∧ Hid (Blk wr p2 9 #[.string (a 0), .string (a 1), .string (a 2), .string (a 3)]) ∧ Hid (Below p0 w wr) ∧ Hid (∀ j, j < k → (dhand s.data.toList j).isSome = true)) (fun s33 _ => 4 - (intOf s33).toNat)
  case atStart => exact ⟨0, by omega, rfl, HR3, HP3, HS, HB, Lib.hid (fun j hj => by omega)⟩
  case round =>
    clear HR3 HP3 HS HB
    obtain ⟨k, hk, rfl, HR, HP, HS, HB, HJ⟩ := hrel
    by_cases hlt : k < 4
    · have u1 : decide ((k : Int) < 4) = true := decide_eq_true (by omega)
      have e5 : (k : Int) < 4 := by omega
      have e6 : (0 : Int) ≤ (k : Int) := by omega
      have e53 := inc64 k (by omega)
      have y0 := HS.out.cell (j := k) (v := .string (a k)) (by rcases (by omega : k = 0 ∨ k = 1 ∨ k = 2 ∨ k = 3) with rfl | rfl | rfl | rfl <;> rfl)
      have PS := Lib.hid (parse_any (a k) wr (HM.out.keep (by rw [hp0]; exact HB.out)))
      have hhk := HH.out k hlt
      rw [← hhk] at PS
      generalize a k = E at *
      cases hd : dhand s.data.toList k with
      | none =>
        rw [hd] at PS
        have HX : Hid (dret s.data.toList = .tuple #[.agg zC, .int .i64 61]) := Lib.hid (by
          unfold dret
          rw [HD.out]
          rcases (by omega : k = 0 ∨ k = 1 ∨ k = 2 ∨ k = 3) with rfl | rfl | rfl | rfl <;> (rw [hd]; simp [zC]))
        have PS2 : Hid (Calls Tryz.prog 61 #[.string E] wr (fun e w' => e = .returned (.tuple #[.int .u64 0, .int .i64 40]) ∧ Below wr.heap.size wr w')) := PS
        clear PS hd hhk HH HD HJ PA
        go_wp2_with fail
        refine PS2.out.mono ?_
        rintro e w' ⟨rfl, hb⟩
        have HR2 := Lib.hid (HR.out.keep hb HR.out.lt)
        have HB2 := Lib.hid (HB.out.trans (hb.mono (by have := HB.out.size; omega)))
        clear hb HR HP HS HB y0 PS2
        have x0 := HR2.out.cell (j := 0) (v := .int .u64 0) rfl
        have x1 := HR2.out.cell (j := 1) (v := .int .u64 0) rfl
        have x2 := HR2.out.cell (j := 2) (v := .int .u64 0) rfl
        have x3 := HR2.out.cell (j := 3) (v := .int .u64 0) rfl
        have f0 := HR2.out.free 0
        have f1 := HR2.out.free 1
        have f2 := HR2.out.free 2
        have f3 := HR2.out.free 3
        have HZ := Lib.hid (zzset HR2.out)
        have HBZ := Lib.hid (zzbelow HB2.out (Nat.le_refl p0) (.int .u64 0) (.int .u64 0) (.int .u64 0) (.int .u64 0))
        clear HR2 HB2
        go_wp2_with fail
        generalize (((w'.setCell ⟨p0, 0, none⟩ (.int .u64 0)).setCell ⟨p0, 1, none⟩ (.int .u64 0)).setCell ⟨p0, 2, none⟩ (.int .u64 0)).setCell ⟨p0, 3, none⟩ (.int .u64 0) = W4 at *
        clear x0 x1 x2 x3 f0 f1 f2 f3
        have x0 := HZ.out.cell (j := 0) (v := .int .u64 0) rfl
        have x1 := HZ.out.cell (j := 1) (v := .int .u64 0) rfl
        have x2 := HZ.out.cell (j := 2) (v := .int .u64 0) rfl
        have x3 := HZ.out.cell (j := 3) (v := .int .u64 0) rfl
        (try simp only [Exit.inBlock, Exit.then])
        refine bodyPost_ret (by simp [results, Tryz.results39, go_sem, x0, x1, x2, x3]; try rfl) rfl ?_
        exact ⟨by rw [HX.out]; rfl, by rw [hp0]; exact HBZ.out⟩
      | some m =>
        rw [hd] at PS
        have hvk : V k = m := by rw [← hV]; unfold dval; rw [hd]; rfl
        have PS2 : Hid (Calls Tryz.prog 61 #[.string E] wr (fun e w' => e = .returned (.tuple #[.int .u64 (m : Int), .int .i64 0]) ∧ Below wr.heap.size wr w')) := PS
        have HS1 := Lib.hid (rC_set V k hlt)
        rw [hvk] at HS1
        obtain ⟨v, hv⟩ := rC_get V k k hlt
        have HV := Lib.hid hv
        have HJ2 : Hid (∀ j, j < k + 1 → (dhand s.data.toList j).isSome = true) := Lib.hid (fun j hj => by
          by_cases hjk : j = k
          · subst hjk; rw [hd]; rfl
          · exact HJ.out j (by omega))
        clear PS hd hhk HH HD HJ PA hvk hv
        go_wp2_with fail
        refine PS2.out.mono ?_
        rintro e w' ⟨rfl, hb⟩
        have HR2 := Lib.hid (HR.out.keep hb HR.out.lt)
        have HP2 := Lib.hid (HP.out.keep hb HP.out.lt)
        have HS2 := Lib.hid (HS.out.keep hb HS.out.lt)
        have HB2 := Lib.hid (HB.out.trans (hb.mono (by have := HB.out.size; omega)))
        clear hb HR HP HS HB y0 PS2
        have x0 := HP2.out.cell HV.out
        have f0 := HP2.out.free k
        go_wp2_with fail
        go_roundw
        case rel => exact ⟨k + 1, by omega, by simp, Lib.hid (HR2.out.other HN.out.1 k _), Lib.hid (by have h := HP2.out.set k (.int .u64 (m : Int)); rwa [HS1.out] at h), Lib.hid (HS2.out.other HN.out.2.2.2 k _), Lib.hid (HB2.out.setCell (p := ⟨p1, k, none⟩) HN.out.2.2.1 _), HJ2⟩
        case measure => simp [intOf]; omega
    · obtain rfl : k = 4 := by omega
      have u1 : decide ((4 : Int) < 4) = false := rfl
      rw [show ((4 : Nat) : Int) = 4 from rfl]
      rw [rC_4] at HP
      have y0 := HP.out.cell (j := 0) (v := .int .u64 (V 0 : Nat)) rfl
      have y1 := HP.out.cell (j := 1) (v := .int .u64 (V 1 : Nat)) rfl
      have y2 := HP.out.cell (j := 2) (v := .int .u64 (V 2 : Nat)) rfl
      have y3 := HP.out.cell (j := 3) (v := .int .u64 (V 3 : Nat)) rfl
      have hdd : dok s.data.toList = partB V := by
        rw [HD.out, HJ.out 0 (by omega), HJ.out 1 (by omega), HJ.out 2 (by omega), HJ.out 3 (by omega), hV]
        rfl
      clear HH HD HJ
      rcases hpb : partB V with _ | _
      · rw [hpb] at PA hdd
        have HX : Hid (dret s.data.toList = .tuple #[.agg zC, .int .i64 61]) := Lib.hid (by unfold dret; rw [hdd]; rfl)
        clear hpb hdd
        go_wp2_with fail
        refine (PA.out _).mono ?_
        rintro e w' ⟨rfl, hb⟩
        have HR2 := Lib.hid (HR.out.keep hb HR.out.lt)
        have HB2 := Lib.hid (HB.out.trans (hb.mono (by have := HB.out.size; omega)))
        clear hb HR HP HS HB y0 y1 y2 y3 PA
        have x0 := HR2.out.cell (j := 0) (v := .int .u64 0) rfl
        have x1 := HR2.out.cell (j := 1) (v := .int .u64 0) rfl
        have x2 := HR2.out.cell (j := 2) (v := .int .u64 0) rfl
        have x3 := HR2.out.cell (j := 3) (v := .int .u64 0) rfl
        have f0 := HR2.out.free 0
        have f1 := HR2.out.free 1
        have f2 := HR2.out.free 2
        have f3 := HR2.out.free 3
        have HZ := Lib.hid (zzset HR2.out)
        have HBZ := Lib.hid (zzbelow HB2.out (Nat.le_refl p0) (.int .u64 0) (.int .u64 0) (.int .u64 0) (.int .u64 0))
        clear HR2 HB2
        go_wp2_with fail
        generalize (((w'.setCell ⟨p0, 0, none⟩ (.int .u64 0)).setCell ⟨p0, 1, none⟩ (.int .u64 0)).setCell ⟨p0, 2, none⟩ (.int .u64 0)).setCell ⟨p0, 3, none⟩ (.int .u64 0) = W4 at *
        clear x0 x1 x2 x3 f0 f1 f2 f3
        have x0 := HZ.out.cell (j := 0) (v := .int .u64 0) rfl
        have x1 := HZ.out.cell (j := 1) (v := .int .u64 0) rfl
        have x2 := HZ.out.cell (j := 2) (v := .int .u64 0) rfl
        have x3 := HZ.out.cell (j := 3) (v := .int .u64 0) rfl
        (try simp only [Exit.inBlock, Exit.then])
        refine bodyPost_ret (by simp [results, Tryz.results39, go_sem, x0, x1, x2, x3]; try rfl) rfl ?_
        exact ⟨by rw [HX.out]; rfl, by rw [hp0]; exact HBZ.out⟩
      · rw [hpb] at PA hdd
        have HX : Hid (dret s.data.toList = .tuple #[.agg #[.int .u64 (V 0 : Nat), .int .u64 (V 1 : Nat), .int .u64 (V 2 : Nat), .int .u64 (V 3 : Nat)], .int .i64 0]) := Lib.hid (by unfold dret; rw [hdd, hV]; rfl)
        clear hpb hdd hV
        go_wp2_with fail
        refine (PA.out _).mono ?_
        rintro e w' ⟨rfl, hb⟩
        have HR2 := Lib.hid (HR.out.keep hb HR.out.lt)
        have HP2 := Lib.hid (HP.out.keep hb HP.out.lt)
        have HB2 := Lib.hid (HB.out.trans (hb.mono (by have := HB.out.size; omega)))
        clear hb HR HP HS HB y0 y1 y2 y3 PA
        have x0 := HR2.out.cell (j := 0) (v := .int .u64 0) rfl
        have x1 := HR2.out.cell (j := 1) (v := .int .u64 0) rfl
        have x2 := HR2.out.cell (j := 2) (v := .int .u64 0) rfl
        have x3 := HR2.out.cell (j := 3) (v := .int .u64 0) rfl
        have f0 := HR2.out.free 0
        have f1 := HR2.out.free 1
        have f2 := HR2.out.free 2
        have f3 := HR2.out.free 3
        have y0 := HP2.out.cell (j := 0) (v := .int .u64 (V 0 : Nat)) rfl
        have y1 := HP2.out.cell (j := 1) (v := .int .u64 (V 1 : Nat)) rfl
        have y2 := HP2.out.cell (j := 2) (v := .int .u64 (V 2 : Nat)) rfl
        have y3 := HP2.out.cell (j := 3) (v := .int .u64 (V 3 : Nat)) rfl
        have HZ := Lib.hid (zxset HR2.out (.int .u64 (V 0 : Nat)) (.int .u64 (V 1 : Nat)) (.int .u64 (V 2 : Nat)) (.int .u64 (V 3 : Nat)))
        have HBZ := Lib.hid (zzbelow HB2.out (Nat.le_refl p0) (.int .u64 (V 0 : Nat)) (.int .u64 (V 1 : Nat)) (.int .u64 (V 2 : Nat)) (.int .u64 (V 3 : Nat)))
        clear HR2 HB2 HP2
        generalize V 0 = v0 at *
        generalize V 1 = v1 at *
        generalize V 2 = v2 at *
        generalize V 3 = v3 at *
        go_wp2_with fail
        generalize (((w'.setCell ⟨p0, 0, none⟩ (.int .u64 (v0 : Nat))).setCell ⟨p0, 1, none⟩ (.int .u64 (v1 : Nat))).setCell ⟨p0, 2, none⟩ (.int .u64 (v2 : Nat))).setCell ⟨p0, 3, none⟩ (.int .u64 (v3 : Nat)) = W4 at *
        clear x0 x1 x2 x3 f0 f1 f2 f3 y0 y1 y2 y3
        have x0 := HZ.out.cell (j := 0) (v := .int .u64 (v0 : Nat)) rfl
        have x1 := HZ.out.cell (j := 1) (v := .int .u64 (v1 : Nat)) rfl
        have x2 := HZ.out.cell (j := 2) (v := .int .u64 (v2 : Nat)) rfl
        have x3 := HZ.out.cell (j := 3) (v := .int .u64 (v3 : Nat)) rfl
        (try simp only [Exit.inBlock, Exit.then])
        refine bodyPost_ret (by simp [results, Tryz.results39, go_sem, x0, x1, x2, x3]; try rfl) rfl ?_
        exact ⟨by rw [HX.out], by rw [hp0]; exact HBZ.out⟩
theorem dread_any (s : ByteArray) (w : World) (hm : MaxL w) : Calls Tryz.prog 39 #[.string s] w (fun e w' => e = .returned (dret s.data.toList) ∧ Below w.heap.size w w') := by
  rcases h : Lib.hasPrefix s.data.toList [78, 58] with _ | _
  · exact dread_prefix s h w
  by_cases hl : 69 < s.size
  · exact dread_long s h hl w
  by_cases hc : (drest s.data.toList).count 32 = 3
  · exact dread_main s h hl hc w hm
  · exact dread_count s h hl hc w hm
end Go.Proofs.YtaadipccgckehaaGreatDoor
