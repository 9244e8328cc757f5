/- The plain law of ScoreTurns. -/
import Derived.Test.YtgmofikhndlhcaaDoorTurns
namespace Go.Proofs.YtgmofikhndlhcaaDoor
open Go.RowKit

theorem rot_fin : ∀ u : Fin 4, ∃ u1 : Fin 4, bits BinOp.or IntKind.u8 ((u.val : Int) / 2) (bits BinOp.and IntKind.u8 ((u.val : Int) * 2) 2) = (u1.val : Int) ∧ ∀ s : Fin 4, vulP u1.val ((s.val + 1) % 4) = vulP u.val s.val := by decide +kernel
theorem two_fin : ∀ u s : Fin 4, vulP u.val ((s.val + 2) % 4) = vulP u.val s.val := by decide +kernel
theorem pts_ne (l d r s k : Nat) (v : Bool) (h1 : 1 ≤ l) (h7 : l ≤ 7) (hd : d ≤ 4) (hr : r ≤ 2) (hs : s ≤ 3) (hk : k ≤ 13) :
    ∃ p : Int, ptsP l d r s k v = (p, 0) ∧ -10000 ≤ p ∧ p ≤ 10000 ∧ p ≠ 0 := by
  have hf := grow_fin ⟨l - 1, by omega⟩ ⟨d, by omega⟩ ⟨r, by omega⟩ ⟨k, by omega⟩
  simp only [Nat.sub_add_cancel h1] at hf
  have hg : growB l d r k v = true := by cases v; exact hf.1; exact hf.2
  refine ⟨(ptsP l d r 0 k v).1, ?_⟩
  have hb := ptsP_le l d r 0 k v
  simp only [ptsP_s l d r s _ _ h1 hs]
  unfold growB at hg
  generalize ptsP l d r 0 k v = P at *
  generalize ptsP l d r 0 (k + 1 : Nat) v = Q at *
  generalize ptsP l d (r + 1) 0 k v = R at *
  generalize ptsP l d r 0 k false = A at *
  generalize ptsP l d r 0 k true = B at *
  obtain ⟨p1, p2⟩ := P
  simp only [Bool.and_eq_true, Bool.or_eq_true, beq_iff_eq, bne_iff_ne, decide_eq_true_eq, ne_eq, Prod.mk.injEq] at hg hb ⊢
  obtain ⟨⟨⟨⟨⟨⟨⟨⟨⟨⟨g1, g2⟩, g3⟩, g4⟩, g5⟩, g6⟩, g7⟩, g8⟩, g9⟩, g10⟩, g11⟩ := hg
  exact ⟨⟨trivial, g1⟩, hb.1, hb.2, g5⟩
theorem score_of (l d r s k u : Nat) (p : Int) (hu : u < 4) (h : ptsP l d r s k (vulP u s) = (p, 0)) : scoreP l d r s k u = (if s % 2 = 1 then -p else p, 0) := by
  unfold scoreP
  rw [if_neg (by omega), h]
set_option maxRecDepth 100000 in
set_option maxHeartbeats 4000000 in
theorem turns_zero (n m u : Nat) (w : World) (hE : Env w) (hn : n < 4294967296) (h0 : madeL n = 0 ∧ madeD n = 0 ∧ madeR n = 0 ∧ madeS n = 0 ∧ madeK n = 0) (hu4 : u < 4) (hu : m % 4 = u) :
    Calls Tryd.prog 7 #[.int .u32 n, .int .u8 m] w fun e w' => e = .returned (.bool true) ∧ Below w.heap.size w w' := by
  have HE := Lib.hid hE
  have MC := Lib.hid (fun w => made_c n w hn)
  obtain ⟨a1, a2, a3, a4, a5⟩ := h0
  rw [a1, a2, a3, a4, a5] at MC
  have PC : Hid (ScC 0 0 0 0 0 u 0) := Lib.hid (scc_mk _ _ _ _ _ _ _ (by decide) (by
    rcases (by omega : u = 0 ∨ u = 1 ∨ u = 2 ∨ u = 3) with rfl | rfl | rfl | rfl <;> decide +kernel))
  have f1 : (m : Int) % 4 = (u : Int) := by omega
  clear a1 a2 a3 a4 a5 hE hu
  go_enter Tryd.func7, Tryd.ntmps7
  go_wp2_with fail
  refine (MC.out _).mono ?_
  rintro e w1 ⟨rfl, hb⟩
  have I1 : Inv w (w1.alloc (.cells #[.int .u8 0, .int .u8 0, .int .u8 0, .int .u8 0] 23)) := Inv.alloc ⟨HE.out.keep hb, hb⟩ _
  have H1 := Lib.hid I1
  clear hb I1
  go_wp2_with fail
  refine (PC.out _ H1.out.env).mono ?_
  rintro e w2 ⟨rfl, hb⟩
  have I2 : Inv w w2 := ⟨H1.out.env.keep hb, bchain H1.out.below hb⟩
  have H2 := Lib.hid I2
  have c0 := hb.cell (p := ⟨w1.heap.size, 0, none⟩) (by simp)
  simp at c0
  clear hb I2
  go_wp2_with fail
  refine (awake_i H2.out).mono ?_
  rintro e w3 ⟨rfl, h3⟩
  go_wp2_with fail
  go_ret
  exact ⟨rfl, h3.below⟩
theorem turns_walk (n m : Nat) (w : World) (hE : Env w) (hn : n < 4294967296) :
    Calls Tryd.prog 7 #[.int .u32 n, .int .u8 m] w fun e w' => e = .returned (.bool true) ∧ Below w.heap.size w w' := by
  obtain ⟨u, hu⟩ : ∃ u, m % 4 = u := ⟨_, rfl⟩
  have hu4 : u < 4 := by omega
  rcases made_ok n with h0 | ⟨h1, h7, hd, hr, hs, hk⟩
  · exact turns_zero n m u w hE hn h0 hu4 hu
  · have MC := Lib.hid (fun w => made_c n w hn)
    generalize madeL n = l at *
    generalize madeD n = d at *
    generalize madeR n = r at *
    generalize madeS n = s at *
    generalize madeK n = k at *
    obtain ⟨p, hp, hlo, hhi, hp0⟩ := pts_ne l d r s k (vulP u s) h1 h7 hd hr hs hk
    obtain ⟨u1, f10, hv1⟩ := rot_fin ⟨u, hu4⟩
    have hv1 := hv1 ⟨s, by omega⟩
    have hv2 := two_fin ⟨u, hu4⟩ ⟨s, by omega⟩
    simp only at f10 hv1 hv2
    obtain ⟨s1, hs1⟩ : ∃ s1, (s + 1) % 4 = s1 := ⟨_, rfl⟩
    obtain ⟨s2, hs2⟩ : ∃ s2, (s + 2) % 4 = s2 := ⟨_, rfl⟩
    rw [hs1] at hv1
    rw [hs2] at hv2
    have h256 : l < 256 := by omega
    have hp1 : ptsP l d r s1 k (vulP u1.val s1) = (p, 0) := by
      rw [hv1, ptsP_s l d r s1 _ _ h1 (by omega), ← ptsP_s l d r s _ _ h1 hs]; exact hp
    have hp2 : ptsP l d r s2 k (vulP u s2) = (p, 0) := by
      rw [hv2, ptsP_s l d r s2 _ _ h1 (by omega), ← ptsP_s l d r s _ _ h1 hs]; exact hp
    have e0 := score_of l d r s k u p hu4 hp
    have e1 := score_of l d r s1 k u1.val p u1.isLt hp1
    have e2 := score_of l d r s2 k u p hu4 hp2
    rcases (by omega : s % 2 = 0 ∨ s % 2 = 1) with hpar | hpar
    · rw [if_neg (by omega)] at e0 e2
      rw [if_pos (by omega)] at e1
      exact turns_even n m l d r s k u s1 s2 u1.val w hE p (-p) MC h1 h7 hs hlo hhi hp0 hu4 hu rfl (Lib.hid (scc_mk _ _ _ _ _ _ _ h256 e0)) (Lib.hid (scc_mk _ _ _ _ _ _ _ h256 e1)) (Lib.hid (scc_mk _ _ _ _ _ _ _ h256 e2)) (Lib.hid (ptc_mk _ _ _ _ _ _ _ h256 hp)) hs1 hs2 hpar f10
    · rw [if_pos (by omega)] at e0 e2
      rw [if_neg (by omega)] at e1
      exact turns_odd n m l d r s k u s1 s2 u1.val w hE (-p) p MC h1 h7 hs (by omega) (by omega) (by omega) hu4 hu (by omega) (Lib.hid (scc_mk _ _ _ _ _ _ _ h256 e0)) (Lib.hid (scc_mk _ _ _ _ _ _ _ h256 e1)) (Lib.hid (scc_mk _ _ _ _ _ _ _ h256 e2)) (Lib.hid (ptc_mk _ _ _ _ _ _ _ h256 hp)) hs1 hs2 hpar f10
end Go.Proofs.YtgmofikhndlhcaaDoor
