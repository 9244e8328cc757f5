/- The contract of the reference's mul. -/
import Derived.Test.YtfhkgpipbegpgaaGreatDoorRefE
namespace Go.Proofs.YtfhkgpipbegpgaaGreatDoor
open Go Go.RowKit

set_option maxRecDepth 100000 in
set_option maxHeartbeats 8000000 in
theorem mul_any (A B : Option Addr) (ca cb n m : Nat) (hk : nd n ≤ 100) (hk' : nd m ≤ 100) (w : World) (hA : Dg w A ca n) (hB : Dg w B cb m) :
    Calls Tryz.prog 46 #[.slice A (nd n) ca, .slice B (nd m) cb] w (RetD (n * m) w) := by
  have h1 := hA.room
  have h2 := hA.top
  have h3 := hB.room
  have h4 := hB.top
  unfold maxLen at h2 h4
  obtain ⟨N, hN⟩ : ∃ N, nd n = N := ⟨_, rfl⟩
  obtain ⟨M, hM⟩ : ∃ M, nd m = M := ⟨_, rfl⟩
  have HN := Lib.hid hN
  have HM := Lib.hid hM
  have HA := Lib.hid hA
  have HB := Lib.hid hB
  rw [hN] at h1 hk ⊢
  rw [hM] at h3 hk' ⊢
  clear hN hA hM hB
  go_enter Tryz.func46, Tryz.ntmps46
  go_wp2
  go_loopw [5, 6] (fun s5 s6 wr => ∃ i C cap : Nat, ∃ O, i ≤ M ∧ s6 = .int .i64 ((i : Int) - 1) ∧ s5 = .slice O C cap ∧ C = nd (n * (m / 65536 ^ i)) ∧ Dg wr O cap (n * (m / 65536 ^ i)) ∧ Below w.heap.size w wr) (fun _ s6 _ => (intOf s6 + 1).toNat)
  case atStart => exact ⟨M, 0, 0, none, Nat.le_refl _, rfl, rfl, by rw [← HM.out, top_zero, Nat.mul_zero, nd_zero], ⟨by rw [← HM.out, top_zero, Nat.mul_zero, dig_zero]; exact RowI.nil _ _, by rw [← HM.out, top_zero, Nat.mul_zero, nd_zero]; omega, by simp [maxLen]⟩, Below.refl _ _⟩
  case round =>
    obtain ⟨i, C, cap, O, hi, rfl, rfl, hC, hD, hbw⟩ := hrel
    have HO := Lib.hid hD
    have HW := Lib.hid hbw
    have HC := Lib.hid hC
    clear hC hD hbw
    cases i with
    | zero =>
      have e1 : (((0 : Nat) : Int)) - 1 = -1 := rfl
      rw [e1]
      clear e1
      have HE : Hid (n * (m / 65536 ^ 0) = n * m) := Lib.hid (by rw [Nat.pow_zero, Nat.div_one])
      have hD := HO.out
      rw [HE.out] at hD
      have TR := Lib.hid (trim_any O cap (n * m) C (by have := HC.out; rw [HE.out] at this; rw [this]; exact lt_pow_nd _) (by have := HC.out; rw [HE.out] at this; rw [this]; exact hD.room) hD.tops _ (by have := HC.out; rw [HE.out] at this; rw [this]; have h := hD.row; unfold dig at h; exact h))
      clear hD
      go_wp2_with fail
      refine TR.out.mono ?_
      rintro e w' ⟨A2, cap2, rfl, hD, hb2⟩
      have HD := Lib.hid hD
      have HBW := Lib.hid (bchain HW.out hb2)
      clear hD hb2
      go_wp2
      go_ret
      exact ⟨A2, cap2, rfl, HD.out, HBW.out⟩
    | succ i =>
      have e1 : ((i + 1 : Nat) : Int) - 1 = (i : Int) := by omega
      rw [e1]
      clear e1
      obtain ⟨g, off, rfl, hg, hcc⟩ := HB.out.at_ (k := i) (by rw [HM.out]; omega)
      have c0 := (HB.out.keep HW.out).cell (j := i) (by rw [HM.out]; omega)
      clear hcc hg
      have hdl := dg_lt m i
      have HH := Lib.hid (horner n m i)
      obtain ⟨d, hd⟩ : ∃ d, dg m i = d := ⟨_, rfl⟩
      rw [hd] at c0 hdl HH
      obtain ⟨x, hx⟩ : ∃ x, n * (m / 65536 ^ (i + 1)) = x := ⟨_, rfl⟩
      rw [hx] at HO HC HH
      have hxn : nd x ≤ 200 := by
        rw [← hx]
        have h5 := nd_mul n (m / 65536 ^ (i + 1))
        have h6 := nd_mono (Nat.div_le_self m (65536 ^ (i + 1)))
        rw [HN.out] at h5
        rw [HM.out] at h6
        omega
      obtain rfl := HC.out
      obtain ⟨y, hy⟩ : ∃ y, x * 65536 = y := ⟨_, rfl⟩
      have HY := Lib.hid hy
      rw [Nat.add_zero, hy] at HH
      have hyl : Hid (y < 65536 ^ (1 + nd x)) := Lib.hid (by rw [Nat.add_comm 1 (nd x)]; have := push_lt x 0 (by omega); rw [Nat.add_zero, hy] at this; exact this)
      have hny : nd y ≤ 201 := nd_le _ _ (Nat.lt_of_lt_of_le hyl.out (Nat.pow_le_pow_right (by omega) (by omega)))
      clear hd hx hy
      go_wp2
      have SOF : Hid (∀ wx, Below wr.heap.size wr wx → (wx.cell? ⟨g, off + i, none⟩ = some (.int .i64 (d : Int)) ∧ Below wr.heap.size wr wx)) := Lib.hid fun wx hb => ⟨keepW hb c0, hb⟩
      have SC : Hid (∀ W, Below wr.heap.size wr W → Calls Tryz.prog 56 #[.slice A N ca, .int .i64 (d : Int)] W (RetD (n * d) W)) := Lib.hid fun W hb => by
        have := scale_any A ca n d hdl (by rw [HN.out]; omega) W (HA.out.keep (bchain HW.out hb))
        rw [HN.out] at this
        exact this
      have hnd : nd (n * d) ≤ 200 := by
        have h5 := nd_mul n d
        have h6 := nd_small hdl
        rw [HN.out] at h5
        omega
      have RX := Lib.hid HO.out.row
      have TX := Lib.hid HO.out.tops
      clear c0
      have i0 : (0 : Int) ≤ (i : Int) := by omega
      have i1 : (i : Int) < (M : Int) := by omega
      go_region_held3 (fun wx => wx.cell? ⟨g, off + i, none⟩ = some (.int .i64 (d : Int)) ∧ Below wr.heap.size wr wx)
        (first | exact SOF.out _ (Below.drew (Below.refl _ _)) | exact SOF.out _ hB | exact SOF.out _ (Below.drew (blw1 _ _)) | exact SOF.out _ (Below.alloc (Below.drew (Below.refl _ _)) (Nat.le_refl _) _))
        (first
          | ((refine step_app rfl (.tmp 14) (.tmp 15) rfl _ wr.heap.size _ 1 [0] O (nd x) cap (dig x) rfl rfl (own_lit wr 0) (dig_len x) (RX.out.keep (Below.drew (blw1 _ _))) TX.out.2 (by simp) (by omega) ?_); intro v1 w1 hown1 hb1; (have hB : Below wr.heap.size wr w1 := (Below.drew (blw1 _ _)).trans hb1); (obtain ⟨hl1, A1, cap1, rfl, hcap1, htop1, hrow1⟩ := RowI.own hown1))
          | (go_at_call 71; (with_reducible refine (trim_any A1 cap1 y (1 + nd x) hyl.out hcap1 htop1 _ (by rw [Nat.add_comm 1 (nd x)]; exact push_zero HY.out hrow1 rfl)).mono ?_); rintro e w2 ⟨A2, cap2, rfl, hD2, hb2⟩; (replace hB := bchain hB hb2))
          | (go_at_call 56; (with_reducible refine (SC.out _ hB).mono ?_); rintro e w3 ⟨A3, cap3, rfl, hD3, hb3⟩; (replace hB := bchain hB hb3); (replace hD2 := hD2.keep hb3))
          | (go_at_call 69; (with_reducible refine (radd_any A2 A3 cap2 cap3 y (n * d) (by omega) (by omega) _ hD2 hD3).mono ?_); rintro e w4 ⟨A4, cap4, rfl, hD4, hb4⟩; (replace hB := bchain hB hb4)))
      rw [HH.out] at hD4
      have HR := Lib.hid (congrArg nd HH.out)
      have HB4 := Lib.hid (HW.out.trans (hB.mono HW.out.size))
      have HD4 := Lib.hid hD4
      clear hb1 hb2 hb3 hb4 hB hD2 hD3 hD4 hown1 hl1 hcap1 htop1 hrow1 hyl HY
      go_wp2
      go_roundw
      case rel => exact ⟨i, nd (y + n * d), cap4, A4, by omega, by go_num, rfl, HR.out, HD4.out, HB4.out⟩
      case measure => simp [intOf]
end Go.Proofs.YtfhkgpipbegpgaaGreatDoor
