/- The reference's turning and writing of a deal, what it says of a record, the head of a record's text, and the text. -/
import Derived.Test.YtaadipccgckehaaGreatDoorRC
set_option linter.unusedSimpArgs false
namespace Go.Proofs.YtaadipccgckehaaGreatDoor
open Go Go.RowKit Go.Shelf Pl

theorem four_set {w : World} {p : Nat} {t : TypeId} {x0 x1 x2 x3 : Value} (h : Blk w p t #[x0, x1, x2, x3]) (a b c d : Value) : Blk ((((w.setCell ⟨p, 0, none⟩ a).setCell ⟨p, 1, none⟩ b).setCell ⟨p, 2, none⟩ c).setCell ⟨p, 3, none⟩ d) p t #[a, b, c, d] :=
  (((h.set 0 a).set 1 b).set 2 c).set 3 d
theorem four_other {w : World} {p q : Nat} {t : TypeId} {C : Array Value} (h : Blk w p t C) (hne : p ≠ q) (a b c d : Value) : Blk ((((w.setCell ⟨q, 0, none⟩ a).setCell ⟨q, 1, none⟩ b).setCell ⟨q, 2, none⟩ c).setCell ⟨q, 3, none⟩ d) p t C :=
  (((h.other hne 0 a).other hne 1 b).other hne 2 c).other hne 3 d
theorem two_new (w : World) (t : TypeId) (c1 c2 : Array Value) : Blk ((w.alloc (.cells c1 t)).alloc (.cells c2 t)) w.heap.size t c1 ∧ Blk ((w.alloc (.cells c1 t)).alloc (.cells c2 t)) (w.heap.size + 1) t c2 ∧ Below w.heap.size w ((w.alloc (.cells c1 t)).alloc (.cells c2 t)) := by
  refine ⟨(Blk.new w _ _).alloc _, ?_, (below1 w _).alloc (by simp) _⟩
  have := Blk.new (w.alloc (.cells c1 t)) t c2
  rwa [show (w.alloc (.cells c1 t)).heap.size = w.heap.size + 1 by simp] at this
def rotD (D : Nat → Nat) (i s : Nat) : Nat := D ((s + 4 - i) % 4)
theorem rot_0 (D : Nat → Nat) : dC (rotD D 0) = dC D := rfl
theorem rot_s (D : Nat → Nat) (i : Nat) (hi : i < 4) : dC (rotD D (i + 1)) = #[.int .u64 (rotD D i 3 : Nat), .int .u64 (rotD D i 0 : Nat), .int .u64 (rotD D i 1 : Nat), .int .u64 (rotD D i 2 : Nat)] := by
  rcases (by omega : i = 0 ∨ i = 1 ∨ i = 2 ∨ i = 3) with rfl | rfl | rfl | rfl <;> rfl
set_option maxRecDepth 100000 in
set_option maxHeartbeats 2000000 in
theorem rturn_any (D : Nat → Nat) (k : Int) (hk : -9223372036854775808 ≤ k ∧ k ≤ 9223372036854775807) (w : World) : Calls Tryz.prog 21 #[.agg #[.int .u64 (D 0 : Nat), .int .u64 (D 1 : Nat), .int .u64 (D 2 : Nat), .int .u64 (D 3 : Nat)], .int .i64 k] w (fun e w' => e = .returned (.agg #[.int .u64 (turnD D k 0 : Nat), .int .u64 (turnD D k 1 : Nat), .int .u64 (turnD D k 2 : Nat), .int .u64 (turnD D k 3 : Nat)]) ∧ Below w.heap.size w w') := by
  have hr := quart_lt k
  obtain ⟨q, hq⟩ : ∃ q, k.tmod 4 = q := ⟨_, rfl⟩
  have hqr : -4 < q ∧ q < 4 ∧ (q + 4) % 4 = (quart k : Nat) := by
    rw [← hq]
    unfold quart
    have h1 := Int.tmod_lt_of_pos k (show (0 : Int) < 4 by omega)
    rcases Int.le_total 0 k with h | h
    · have := Int.tmod_eq_emod_of_nonneg (b := 4) h; omega
    · have h2 := Int.neg_tmod k 4
      have h3 := Int.tmod_eq_emod_of_nonneg (a := -k) (b := 4) (by omega)
      omega
  have HT : Hid (∀ s, turnD D k s = rotD D (quart k) s) := Lib.hid (fun s => rfl)
  simp only [HT.out]
  clear HT
  generalize quart k = r at *
  clear hk
  go_enter Tryz.func21, Tryz.ntmps21
  go_upto_if 9 with fail
  have BX := Lib.hid (two_new w 23 #[.int .u64 (D 0 : Nat), .int .u64 (D 1 : Nat), .int .u64 (D 2 : Nat), .int .u64 (D 3 : Nat)] #[.int .u64 0, .int .u64 0, .int .u64 0, .int .u64 0])
  generalize (w.alloc (.cells #[.int .u64 (D 0 : Nat), .int .u64 (D 1 : Nat), .int .u64 (D 2 : Nat), .int .u64 (D 3 : Nat)] 23)).alloc (.cells #[.int .u64 0, .int .u64 0, .int .u64 0, .int .u64 0] 23) = W2 at *
  obtain ⟨h0, h1, h2⟩ := BX.out
  have HB0 : Hid (Blk W2 w.heap.size 23 (dC (rotD D 0))) := Lib.hid h0
  have HB1 := Lib.hid h1
  have HBW := Lib.hid h2
  clear h0 h1 h2 BX hq
  have L1 : Hid (w.heap.size ≤ w.heap.size + 1 ∧ w.heap.size ≠ w.heap.size + 1) := Lib.hid ⟨by omega, by omega⟩
  generalize hp0 : w.heap.size = p0 at *
  generalize p0 + 1 = p1 at *
  go_cut [1] (fun s1 wx => s1 = .int .i64 (r : Int) ∧ wx = W2)
  case first =>
    by_cases hneg : q < 0
    · have e1 : IntKind.i64.wrap (q + 4) = (r : Int) := by rw [IntWalk.i64_in _ (by omega)]; omega
      have e1b : q + 4 = (r : Int) := by omega
      have t1 : decide (q < 0) = true := decide_eq_true hneg
      clear hqr
      go_wp2_with fail
      go_meet
      exact ⟨by rfl, rfl⟩
    · obtain rfl : q = (r : Int) := by omega
      have t1 : decide ((r : Int) < 0) = false := decide_eq_false (by omega)
      clear hqr
      go_wp2_with fail
      go_meet
      exact ⟨rfl, rfl⟩
  case rest =>
    obtain ⟨rfl, rfl⟩ := hcut
    clear hqr
    go_wp2_with fail
    go_loopw [5] (fun s5 wr => ∃ i : Nat, i ≤ r ∧ s5 = .int .i64 (i : Int) ∧ Hid (Blk wr p0 23 (dC (rotD D i))) ∧ Hid (Blk wr p1 23 #[.int .u64 0, .int .u64 0, .int .u64 0, .int .u64 0]) ∧ Hid (Below p0 w wr)) (fun s5 _ => r - (intOf s5).toNat)
    case atStart => exact ⟨0, by omega, rfl, HB0, HB1, HBW⟩
    case round =>
      clear HB0 HB1 HBW
      obtain ⟨i, hi, rfl, HB0, HB1, HBW⟩ := hrel
      have x0 := HB0.out.cell (dC_get _ 0 (by omega))
      have x1 := HB0.out.cell (dC_get _ 1 (by omega))
      have x2 := HB0.out.cell (dC_get _ 2 (by omega))
      have x3 := HB0.out.cell (dC_get _ 3 (by omega))
      by_cases hlt : i < r
      · have u1 : decide ((i : Int) < (r : Int)) = true := decide_eq_true (by omega)
        have u2 : decide (i < r) = true := decide_eq_true hlt
        have f0 := HB0.out.free 0
        have f1 := HB0.out.free 1
        have f2 := HB0.out.free 2
        have f3 := HB0.out.free 3
        have e4 := inc64 i (by omega)
        have hs := rot_s D i (by omega)
        have HN : Hid (Blk ((((wr.setCell ⟨p0, 0, none⟩ (.int .u64 (rotD D i 3 : Nat))).setCell ⟨p0, 1, none⟩ (.int .u64 (rotD D i 0 : Nat))).setCell ⟨p0, 2, none⟩ (.int .u64 (rotD D i 1 : Nat))).setCell ⟨p0, 3, none⟩ (.int .u64 (rotD D i 2 : Nat))) p0 23 (dC (rotD D (i + 1)))) := Lib.hid (by rw [hs]; exact four_set HB0.out _ _ _ _)
        have HO := Lib.hid (four_other HB1.out (Ne.symm L1.out.2) (.int .u64 (rotD D i 3 : Nat)) (.int .u64 (rotD D i 0 : Nat)) (.int .u64 (rotD D i 1 : Nat)) (.int .u64 (rotD D i 2 : Nat)))
        have HW := Lib.hid (zzbelow HBW.out (Nat.le_refl p0) (.int .u64 (rotD D i 3 : Nat)) (.int .u64 (rotD D i 0 : Nat)) (.int .u64 (rotD D i 1 : Nat)) (.int .u64 (rotD D i 2 : Nat)))
        clear HB0 HB1 HBW hs
        generalize rotD D i 0 = a0 at *
        generalize rotD D i 1 = a1 at *
        generalize rotD D i 2 = a2 at *
        generalize rotD D i 3 = a3 at *
        go_wp2_with fail
        go_roundw
        case rel => exact ⟨i + 1, by omega, by simp, HN, HO, HW⟩
        case measure => simp [intOf]; try omega
      · obtain rfl : i = r := by omega
        have u1 : decide ((i : Int) < (i : Int)) = false := decide_eq_false (by omega)
        have u2 : decide (i < i) = false := decide_eq_false (by omega)
        have y0 := HB1.out.cell (j := 0) rfl
        have y1 := HB1.out.cell (j := 1) rfl
        have y2 := HB1.out.cell (j := 2) rfl
        have y3 := HB1.out.cell (j := 3) rfl
        have f0 := HB1.out.free 0
        have f1 := HB1.out.free 1
        have f2 := HB1.out.free 2
        have f3 := HB1.out.free 3
        obtain ⟨a0, g0⟩ : ∃ a, rotD D i 0 = a := ⟨_, rfl⟩
        obtain ⟨a1, g1⟩ : ∃ a, rotD D i 1 = a := ⟨_, rfl⟩
        obtain ⟨a2, g2⟩ : ∃ a, rotD D i 2 = a := ⟨_, rfl⟩
        obtain ⟨a3, g3⟩ : ∃ a, rotD D i 3 = a := ⟨_, rfl⟩
        rw [g0] at x0
        rw [g1] at x1
        rw [g2] at x2
        rw [g3] at x3
        have G : Hid (Value.agg #[.int .u64 (rotD D i 0 : Nat), .int .u64 (rotD D i 1 : Nat), .int .u64 (rotD D i 2 : Nat), .int .u64 (rotD D i 3 : Nat)] = .agg #[.int .u64 (a0 : Nat), .int .u64 (a1 : Nat), .int .u64 (a2 : Nat), .int .u64 (a3 : Nat)]) := Lib.hid (by rw [g0, g1, g2, g3])
        clear g0 g1 g2 g3
        have HF := Lib.hid (four_set HB1.out (.int .u64 (a0 : Nat)) (.int .u64 (a1 : Nat)) (.int .u64 (a2 : Nat)) (.int .u64 (a3 : Nat)))
        have HX := Lib.hid (zzbelow HBW.out L1.out.1 (.int .u64 (a0 : Nat)) (.int .u64 (a1 : Nat)) (.int .u64 (a2 : Nat)) (.int .u64 (a3 : Nat)))
        clear HB0 HB1 HBW
        go_wp2_with fail
        generalize (((wr.setCell ⟨p1, 0, none⟩ (.int .u64 (a0 : Nat))).setCell ⟨p1, 1, none⟩ (.int .u64 (a1 : Nat))).setCell ⟨p1, 2, none⟩ (.int .u64 (a2 : Nat))).setCell ⟨p1, 3, none⟩ (.int .u64 (a3 : Nat)) = wf at *
        clear x0 x1 x2 x3 y0 y1 y2 y3 f0 f1 f2 f3
        have x0 := HF.out.cell (j := 0) rfl
        have x1 := HF.out.cell (j := 1) rfl
        have x2 := HF.out.cell (j := 2) rfl
        have x3 := HF.out.cell (j := 3) rfl
        (try simp only [Exit.inBlock, Exit.then])
        refine bodyPost_ret (by simp [results, Tryz.results21, go_sem, x0, x1, x2, x3]; try rfl) rfl ?_
        exact ⟨by rw [G.out], by rw [hp0]; exact HX.out⟩
/-- What is wrong with a record: the number of the error. -/
def rcode (n : Int) (D : Nat → Nat) : Int := if n < 1 ∨ 128 < n then 70 else if rightB D then 0 else 60
theorem rright7_any (n : Int) (D : Nat → Nat) (hD : D64 D) (w : World) : Calls Tryz.prog 22 #[.int .i64 n, .agg #[.int .u64 (D 0 : Nat), .int .u64 (D 1 : Nat), .int .u64 (D 2 : Nat), .int .u64 (D 3 : Nat)]] w (fun e w' => e = .returned (.int .i64 (rcode n D)) ∧ Below w.heap.size w w') := by
  have RD := Lib.hid (fun W => rright_any D hD W)
  have HB0 := Lib.hid (below1 w (.cells #[.int .u64 (D 0 : Nat), .int .u64 (D 1 : Nat), .int .u64 (D 2 : Nat), .int .u64 (D 3 : Nat)] 23))
  clear hD
  by_cases h1 : n < 1
  · have HX : Hid (rcode n D = 70) := Lib.hid (by unfold rcode; rw [if_pos (.inl h1)])
    have t1 : decide (n < 1) = true := decide_eq_true h1
    go_enter Tryz.func22, Tryz.ntmps22
    go_wp2_with fail
    go_ret
    exact ⟨by rw [HX.out]; rfl, HB0.out⟩
  have t1 : decide (n < 1) = false := decide_eq_false h1
  by_cases h2 : 128 < n
  · have HX : Hid (rcode n D = 70) := Lib.hid (by unfold rcode; rw [if_pos (.inr h2)])
    have t2 : decide (128 < n) = true := decide_eq_true h2
    go_enter Tryz.func22, Tryz.ntmps22
    go_wp2_with fail
    go_ret
    exact ⟨by rw [HX.out]; rfl, HB0.out⟩
  have t2 : decide (128 < n) = false := decide_eq_false h2
  have HX : Hid (rcode n D = if rightB D then 0 else 60) := Lib.hid (by unfold rcode; rw [if_neg (by omega)])
  go_enter Tryz.func22, Tryz.ntmps22
  go_wp2_with fail
  refine (RD.out _).mono ?_
  rintro e w2 ⟨rfl, hb⟩
  have HB := Lib.hid (bchain HB0.out hb)
  clear hb
  rcases hr : rightB D with _ | _
  · rw [hr] at HX
    clear hr RD HB0
    go_wp2_with fail
    go_ret
    exact ⟨by rw [HX.out]; rfl, HB.out⟩
  · rw [hr] at HX
    clear hr RD HB0
    go_wp2_with fail
    go_ret
    exact ⟨by rw [HX.out]; rfl, HB.out⟩
attribute [irreducible] rcode
end Go.Proofs.YtaadipccgckehaaGreatDoor
