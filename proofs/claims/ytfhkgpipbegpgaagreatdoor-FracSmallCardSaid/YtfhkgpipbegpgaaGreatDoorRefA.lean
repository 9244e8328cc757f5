/- The contracts of the reference's trim and less. -/
import Derived.Test.YtfhkgpipbegpgaaGreatDoorDg
namespace Go.Proofs.YtfhkgpipbegpgaaGreatDoor
open Go Go.RowKit

theorem digN_cell {W : World} {b off n k : Nat} (h : RowI W (some ⟨b, off, none⟩) (digN n k)) {j : Nat} (hj : j < k) : W.cell? ⟨b, off + j, none⟩ = some (.int .i64 (dg n j : Int)) := by
  obtain ⟨b', off', e, _, hc⟩ := h.get (k := j) (by rw [digN_len]; exact hj)
  injection e with e
  injection e with e1 e2 _
  subst e1 e2
  exact hc j _ (digN_get n k j hj)
theorem digN_take_le (n j k : Nat) (h : j ≤ k) : (digN n k).take j = digN n j := by
  unfold digN
  rw [← List.map_take, List.take_range, Nat.min_eq_left h]
theorem RowI.digs {W : World} {A : Option Addr} {n k : Nat} (h : RowI W A (digN n k)) (hk : nd n ≤ k) : RowI W A (dig n) := by
  have := h.take (nd n)
  rw [digN_take_le _ _ _ hk] at this
  unfold dig
  exact this
set_option maxRecDepth 100000 in
set_option maxHeartbeats 2000000 in
theorem trim_eq (A : Option Addr) (cap n k : Nat) (hn : n < 65536 ^ k) (hc : k ≤ cap) (hts : cap ≤ maxLen ∧ (A = none → cap = 0)) (w : World) (hR : RowI w A (digN n k)) :
    Calls Tryz.prog 71 #[.slice A k cap] w (fun e w' => e = .returned (.slice A (nd n) cap) ∧ w = w') := by
  have HT := Lib.hid hts
  have ht := hts.1
  unfold maxLen at ht
  clear hts
  have HR := Lib.hid hR
  have HN := Lib.hid hn
  have hle : nd n ≤ k := nd_le n k hn
  clear hR hn
  go_enter Tryz.func71, Tryz.ntmps71
  go_wp2
  go_loop [0] (fun s => ∃ j : Nat, j ≤ k ∧ s = .slice A j cap ∧ nd n ≤ j) (fun s => match s with | .slice _ m _ => m | _ => 0)
  case atStart => exact ⟨k, Nat.le_refl _, rfl, hle⟩
  case round =>
    obtain ⟨j, hj, rfl, hnj⟩ := hrel
    have hD : Dg w A cap n := ⟨HR.out.digs hle, by omega, HT.out⟩
    rcases Nat.eq_zero_or_pos j with h0 | h0
    · subst h0
      have HD := Lib.hid hD
      have HZ := Lib.hid (show nd n = 0 by omega)
      clear hD hnj hle
      have t1 : decide ((0 : Int) < 0) = false := by decide
      go_wp2
      go_ret
      exact ⟨by rw [HZ.out]; rfl, rfl⟩
    · obtain ⟨b, off, rfl, hb, hcc⟩ := HR.out.get (k := 0) (by rw [digN_len]; omega)
      have c0 := digN_cell HR.out (j := j - 1) (by omega)
      clear hcc
      by_cases hz : dg n (j - 1) = 0
      · have h1 : nd n ≤ j - 1 := by
          have h2 := lt_of_nd hnj
          rw [show j = j - 1 + 1 by omega] at h2
          exact nd_le _ _ (dg_top_zero h2 hz)
        clear hD hnj hle
        rw [hz] at c0
        clear hz
        go_wp2
        exact ⟨⟨j - 1, by omega, by go_num, h1⟩, by show j - 1 < j; omega⟩
      · have h1 : nd n = j := by
          have h2 := lt_of_nd hnj
          rw [show j = j - 1 + 1 by omega] at h2
          have := dg_top_pos h2 hz
          omega
        have t1 : ((dg n (j - 1) : Int) == 0) = false := beq_eq_false_iff_ne.2 (by omega)
        have HD := Lib.hid hD
        have HZ := Lib.hid h1
        clear hD hnj hle h1 hz
        go_wp2
        go_ret
        exact ⟨by rw [HZ.out]; rfl, rfl⟩
theorem Dg.of_digN {W : World} {A : Option Addr} {cap n k : Nat} (hn : n < 65536 ^ k) (hc : k ≤ cap) (hts : cap ≤ maxLen ∧ (A = none → cap = 0)) (hR : RowI W A (digN n k)) : Dg W A cap n :=
  ⟨hR.digs (nd_le n k hn), Nat.le_trans (nd_le n k hn) hc, hts⟩
theorem trim_any (A : Option Addr) (cap n k : Nat) (hn : n < 65536 ^ k) (hc : k ≤ cap) (hts : cap ≤ maxLen ∧ (A = none → cap = 0)) (w : World) (hR : RowI w A (digN n k)) :
    Calls Tryz.prog 71 #[.slice A k cap] w (RetD n w) :=
  (trim_eq A cap n k hn hc hts w hR).mono fun e w' ⟨he, hw⟩ => by
    subst hw
    exact ⟨A, cap, he, Dg.of_digN hn hc hts hR, Below.refl _ _⟩
set_option maxRecDepth 100000 in
set_option maxHeartbeats 2000000 in
theorem less_any (A B : Option Addr) (ca cb n m : Nat) (w : World) (hA : Dg w A ca n) (hB : Dg w B cb m) :
    Calls Tryz.prog 49 #[.slice A (nd n) ca, .slice B (nd m) cb] w (fun e w' => e = .returned (.bool (decide (n < m))) ∧ Below w.heap.size w w') := by
  have h1 := hA.room
  have h2 := hA.top
  have h3 := hB.room
  have h4 := hB.top
  unfold maxLen at h2 h4
  obtain ⟨N, hN⟩ : ∃ N, nd n = N := ⟨_, rfl⟩
  obtain ⟨M, hM⟩ : ∃ M, nd m = M := ⟨_, rfl⟩
  have HN := Lib.hid hN
  have HM := Lib.hid hM
  have HA := Lib.hid hA
  have HB := Lib.hid hB
  rw [hN] at h1 ⊢
  rw [hM] at h3 ⊢
  clear hN hM hA hB
  by_cases he : N = M
  case neg =>
    have t1 : ((N : Int) == (M : Int)) = false := beq_eq_false_iff_ne.2 (by omega)
    have HR : Hid (decide (n < m) = decide (N < M)) := Lib.hid (by
      rw [decide_eq_decide]
      constructor
      · intro h
        have := nd_mono (Nat.le_of_lt h)
        rw [HN.out, HM.out] at this; omega
      · intro h
        exact lt_of_nd_lt (by rw [HN.out, HM.out]; exact h))
    rw [HR.out]
    clear he
    go_enter Tryz.func49, Tryz.ntmps49
    go_wp2
    all_goals
      go_ret
      exact ⟨by simp, Below.refl _ _⟩
  subst he
  go_enter Tryz.func49, Tryz.ntmps49
  go_wp2
  go_loopw [5] (fun s wr => ∃ j : Nat, j ≤ N ∧ s = .int .i64 ((j : Int) - 1) ∧ Below w.heap.size w wr ∧ n / 65536 ^ j = m / 65536 ^ j) (fun s _ => (intOf s + 1).toNat)
  case atStart => exact ⟨N, Nat.le_refl _, rfl, Below.refl _ _, by rw [← HN.out, top_zero, HN.out, ← HM.out, top_zero]⟩
  case round =>
    obtain ⟨j, hj, rfl, hb, heq⟩ := hrel
    have HQ := Lib.hid heq
    have HW := Lib.hid hb
    clear heq hb
    cases j with
    | zero =>
      have HE : Hid (decide (n < m) = false) := Lib.hid (by
        have h := HQ.out
        rw [Nat.pow_zero, Nat.div_one, Nat.div_one] at h
        exact decide_eq_false (by omega))
      have t1 : (((0 : Nat) : Int)) - 1 = -1 := rfl
      rw [t1]
      clear t1
      go_wp2
      go_ret
      exact ⟨by rw [HE.out]; rfl, HW.out⟩
    | succ j =>
      have e1 : ((j + 1 : Nat) : Int) - 1 = (j : Int) := by omega
      rw [e1]
      clear e1
      obtain ⟨b, off, rfl, hb, hcc⟩ := HA.out.at_ (k := j) (by rw [HN.out]; omega)
      obtain ⟨b', off', rfl, hb', hcc'⟩ := HB.out.at_ (k := j) (by rw [HM.out]; omega)
      have c0 := (HA.out.keep HW.out).cell (j := j) (by rw [HN.out]; omega)
      have c1 := (HB.out.keep HW.out).cell (j := j) (by rw [HM.out]; omega)
      clear hcc hcc' hb hb'
      obtain ⟨x, hx⟩ : ∃ x, dg n j = x := ⟨_, rfl⟩
      obtain ⟨y, hy⟩ : ∃ x, dg m j = x := ⟨_, rfl⟩
      rw [hx] at c0
      rw [hy] at c1
      have HX := Lib.hid hx
      have HY := Lib.hid hy
      clear hx hy
      by_cases hd : x = y
      · have hs : Hid (n / 65536 ^ j = m / 65536 ^ j) := Lib.hid (eq_at HQ.out (by rw [HX.out, HY.out, hd]))
        subst hd
        go_wp2
        go_quiet (fail)
        go_wp2
        go_roundw
        case rel => exact ⟨j, by omega, by go_num, below_drewN HW.out _, hs.out⟩
        case measure => simp [intOf]
      · have t1 : ((x : Int) == (y : Int)) = false := beq_eq_false_iff_ne.2 (by omega)
        have hs : Hid (decide (n < m) = decide (x < y)) := Lib.hid (by
          rw [decide_eq_decide, less_at HQ.out (by rw [HX.out, HY.out]; exact hd), HX.out, HY.out])
        clear hd
        go_wp2
        go_quiet (fail)
        go_wp2
        go_quiet (fail)
        go_wp2
        go_ret
        refine ⟨?_, below_drewN (below_drewN HW.out _) _⟩
        rw [hs.out]
        simp
end Go.Proofs.YtfhkgpipbegpgaaGreatDoor
