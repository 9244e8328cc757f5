/- The contracts of the reference's Right and decimal. -/
import Derived.Test.YtfhkgpipbegpgaaGreatDoorRefF
namespace Go.Proofs.YtfhkgpipbegpgaaGreatDoor
open Go Go.RowKit

theorem gcd_one_iff (g : Nat) : (nd g = 1 ∧ dg g 0 = 1) ↔ g = 1 := by
  constructor
  · rintro ⟨h1, h2⟩
    have h3 := lt_of_nd (n := g) (k := 1) (by omega)
    have h4 := dg_top (n := g) (k := 0) h3
    rw [h2, Nat.pow_zero, Nat.div_one] at h4
    exact h4.symm
  · rintro rfl
    refine ⟨by rw [nd_pos (by omega)]; simp [nd_zero], ?_⟩
    unfold dg; rfl
set_option maxRecDepth 100000 in
set_option maxHeartbeats 4000000 in
theorem rright_any (n d : Int) (hf : FB n d) (w : World) :
    Calls Tryz.prog 31 #[.agg #[.int .i64 n, .int .i64 d]] w (fun e w' => e = .returned (.bool (rightB n d)) ∧ Below w.heap.size w w') := by
  obtain ⟨r, hr⟩ : ∃ r, rightB n d = r := ⟨_, rfl⟩
  rw [hr]
  have HB := Lib.hid (blw1 w (.cells #[.int .i64 n, .int .i64 d] 23))
  have HR := Lib.hid (Blk.new w 23 #[.int .i64 n, .int .i64 d])
  have c0 := HR.out.cell (j := 0) (v := .int .i64 n) rfl
  have c1 := HR.out.cell (j := 1) (v := .int .i64 d) rfl
  by_cases hd : d < 1
  · have HE : Hid (r = false) := Lib.hid (by rw [← hr]; unfold rightB; rw [decide_eq_false (by omega)]; rfl)
    have t1 : decide (d < 1) = true := decide_eq_true hd
    clear hr hf
    go_enter Tryz.func31, Tryz.ntmps31
    go_wp2
    go_ret
    exact ⟨by rw [HE.out]; rfl, HB.out⟩
  · have t1 : decide (d < 1) = false := decide_eq_false hd
    have W1 := Lib.hid (fun W => whole_any n hf.n0 hf.n1 W)
    have W2 := Lib.hid (fun W => whole_any d hf.d0 hf.d1 W)
    have k1 : nd n.natAbs ≤ 4 := by have := hf.n0; have := hf.n1; exact nd_64 (by omega)
    have k2 : nd d.natAbs ≤ 4 := by have := hf.d0; have := hf.d1; exact nd_64 (by omega)
    obtain ⟨g, hg⟩ : ∃ g, Nat.gcd n.natAbs d.natAbs = g := ⟨_, rfl⟩
    have HE : Hid (r = decide (nd g = 1 ∧ dg g 0 = 1)) := Lib.hid (by
      rw [← hr]; unfold rightB
      rw [decide_eq_true (by omega : 0 < d), hg, Bool.true_and, Bool.eq_iff_iff, beq_iff_eq, decide_eq_true_eq, gcd_one_iff])
    have hg0 : 0 < g := by rw [← hg]; exact Nat.gcd_pos_of_pos_right _ (by omega)
    have hgn : 0 < nd g := by have := (nd_zero_iff g).1; omega
    obtain ⟨N, hN⟩ : ∃ N, n.natAbs = N := ⟨_, rfl⟩
    obtain ⟨D, hD⟩ : ∃ N, d.natAbs = N := ⟨_, rfl⟩
    rw [hN] at W1 k1 hg
    rw [hD] at W2 k2 hg
    have CM : Hid (∀ W A B ca cb, Dg W A ca N → Dg W B cb D → Calls Tryz.prog 60 #[.slice A (nd N) ca, .slice B (nd D) cb] W (RetD g W)) := Lib.hid fun W A B ca cb h1 h2 => hg ▸ common_any A B ca cb N D (by omega) (by omega) W h1 h2
    clear hr hf hN hD hg
    go_enter Tryz.func31, Tryz.ntmps31
    go_wp2
    generalize w.alloc (.cells #[.int .i64 n, .int .i64 d] 23) = V1 at *
    go_cut [3] (fun s3 wx => ∃ A ca, s3 = .slice A (nd g) ca ∧ Dg wx A ca g ∧ Below V1.heap.size V1 wx)
    case first =>
      have SOF : Hid (∀ wx, Below V1.heap.size V1 wx → (wx.cell? ⟨w.heap.size, 0, none⟩ = some (.int .i64 n) ∧ wx.cell? ⟨w.heap.size, 1, none⟩ = some (.int .i64 d) ∧ Below V1.heap.size V1 wx)) := Lib.hid fun wx hb => ⟨keepW hb c0, keepW hb c1, hb⟩
      clear c0 c1 HR HE
      go_region_held3 (fun wx => wx.cell? ⟨w.heap.size, 0, none⟩ = some (.int .i64 n) ∧ wx.cell? ⟨w.heap.size, 1, none⟩ = some (.int .i64 d) ∧ Below V1.heap.size V1 wx)
        (first | exact SOF.out _ (Below.drew (Below.refl _ _)) | exact SOF.out _ hB)
        (first
          | (go_at_call 39; (with_reducible refine (W1.out _).mono ?_); rintro e w2 ⟨A1, a1, rfl, hD1, hb1⟩; (have hB := bchain (by assumption : _ ∧ _ ∧ Below V1.heap.size V1 _).2.2 hb1))
          | (go_at_call 39; (with_reducible refine (W2.out _).mono ?_); rintro e w3 ⟨A2, a2, rfl, hD2, hb2⟩; (replace hB := bchain hB hb2); (replace hD1 := hD1.keep hb2))
          | (go_at_call 60; (with_reducible refine (CM.out _ _ _ _ _ hD1 hD2).mono ?_); rintro e w4 ⟨A3, a3, rfl, hD3, hb3⟩; (replace hB := bchain hB hb3)))
      all_goals
        clear hD1 hD2 hb1 hb2 hb3
        go_wp2
        go_meet
        exact ⟨A3, a3, rfl, hD3, hB⟩
    case rest =>
    obtain ⟨A, ca, rfl, hD, hb⟩ := hcut
    have HB2 := Lib.hid (bchain HB.out hb)
    have HD := Lib.hid hD
    obtain ⟨b, off, rfl, hbl, hcc⟩ := hD.at_ (k := 0) hgn
    have x0 := hcc 0 hgn
    rw [Nat.add_zero] at x0
    have hroom := hD.room
    clear hD hb hcc hbl c0 c1
    by_cases h1 : nd g = 1
    · obtain ⟨x, hx⟩ : ∃ x, dg g 0 = x := ⟨_, rfl⟩
      rw [hx] at x0
      have HX : Hid (r = decide (x = 1)) := Lib.hid (by rw [HE.out, hx]; simp [h1])
      have hN1 := Lib.hid h1
      rw [h1]
      have i1 : 1 ≤ ca := by omega
      clear HE hx h1 hroom hgn HD
      by_cases hx1 : x = 1
      · subst hx1
        go_wp2
        go_ret
        exact ⟨by rw [HX.out]; rfl, HB2.out⟩
      · have u1 : ((x : Int) == 1) = false := beq_eq_false_iff_ne.2 (by omega)
        have HX2 : Hid (r = false) := Lib.hid (by rw [HX.out]; exact decide_eq_false hx1)
        clear HX hx1
        go_wp2
        go_ret
        exact ⟨by rw [HX2.out]; rfl, HB2.out⟩
    · have u1 : ((nd g : Int) == 1) = false := beq_eq_false_iff_ne.2 (by omega)
      have HX2 : Hid (r = false) := Lib.hid (by rw [HE.out]; exact decide_eq_false (fun h => h1 h.1))
      clear h1 HE
      go_wp2
      go_ret
      exact ⟨by rw [HX2.out]; rfl, HB2.out⟩
end Go.Proofs.YtfhkgpipbegpgaaGreatDoor
