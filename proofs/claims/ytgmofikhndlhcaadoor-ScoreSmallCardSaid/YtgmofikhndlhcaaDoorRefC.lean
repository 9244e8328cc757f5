/- Contracts of the reference's Points and Score. -/
import Derived.Test.YtgmofikhndlhcaaDoorRefB
import Derived.Test.YtgmofikhndlhcaaDoorPoints
namespace Go.Proofs.YtgmofikhndlhcaaDoor
open Go.RowKit

theorem Own.start' {w w1 : World} {b : Nat} {t : TypeId} {c : Array Value} (hw : w1 = w.alloc (.cells c t)) (hb : b = w.heap.size) : Own w w1 b t c := by subst hw hb; exact Own.start w t c
theorem ptsP_bad (l d r s : Nat) (k : Int) (v : Bool) (h : resP l d r s k = false) : ptsP l d r s k v = (0, 2) := by unfold ptsP; rw [if_pos h]
theorem ptsP_out (d r s : Nat) (k : Int) (v : Bool) (h : resP 0 d r s k = true) : ptsP 0 d r s k v = (0, 0) := by unfold ptsP; rw [if_neg (by rw [h]; decide), if_pos rfl]
theorem ptsP_made (l d r s k : Nat) (v : Bool) (h : resP l d r s k = true) (hl : 1 ≤ l) (hk : 6 + l ≤ k) : ptsP l d r s k v = (((madeP l d r (k - 6 - l) v : Nat) : Int), 0) := by
  unfold ptsP
  rw [if_neg (by rw [h]; decide), if_neg (by omega), if_neg (by omega), show ((k : Int) - 6 - (l : Int)).toNat = k - 6 - l by omega]
theorem ptsP_lost (l d r s k : Nat) (v : Bool) (h : resP l d r s k = true) (hl : 1 ≤ l) (hk : k < 6 + l) : ptsP l d r s k v = (-((lostP r (6 + l - k) v : Nat) : Int), 0) := by
  unfold ptsP
  rw [if_neg (by rw [h]; decide), if_neg (by omega), if_pos (by omega), show (6 + (l : Int) - (k : Int)).toNat = 6 + l - k by omega]
set_option maxRecDepth 100000 in
set_option maxHeartbeats 4000000 in
theorem rpoints_any (l d r s : Nat) (k : Int) (v : Bool) (w : World) (hl256 : l < 256) :
    Calls Tryd.prog 25 #[.agg #[.int .u8 (l : Nat), .int .u8 (d : Nat), .int .u8 (r : Nat), .int .u8 (s : Nat)], .int .i64 k, .bool v] w fun e w' => e = .returned (.tuple #[.int .i64 (ptsP l d r s k v).1, .int .i64 (ptsP l d r s k v).2]) ∧ Below w.heap.size w w' := by
  cases hr : resP l d r s k
  · have HP := Lib.hid (ptsP_bad l d r s k v hr)
    have HR := Lib.hid hr
    clear hr
    go_enter Tryd.func25, Tryd.ntmps25
    go_wp2_with fail
    have H1 := Lib.hid (Own.start w 23 #[.int .u8 (l : Nat), .int .u8 (d : Nat), .int .u8 (r : Nat), .int .u8 (s : Nat)])
    generalize w.alloc (.cells #[.int .u8 (l : Nat), .int .u8 (d : Nat), .int .u8 (r : Nat), .int .u8 (s : Nat)] 23) = W1 at *
    generalize w.heap.size = b0 at *
    have x0 := H1.out.blk.cell (j := 0) (v := .int .u8 (l : Nat)) rfl
    have x1 := H1.out.blk.cell (j := 1) (v := .int .u8 (d : Nat)) rfl
    have x2 := H1.out.blk.cell (j := 2) (v := .int .u8 (r : Nat)) rfl
    have x3 := H1.out.blk.cell (j := 3) (v := .int .u8 (s : Nat)) rfl
    go_wp2_with fail
    refine (own_of (rresult_any l d r s k _) H1.out).mono ?_
    rintro e W2 ⟨rfl, h2⟩
    rw [HR.out]
    go_wp2_with fail
    go_ret2
    exact ⟨by rw [HP.out]; rfl, h2.below⟩
  · have hk := res_of hr
    have hg := res_rgt hr
    rcases rgt_of l d r s hg with ⟨rfl, rfl, rfl, rfl⟩ | ⟨h1, h2, h3, h4, h5⟩
    · have HP := Lib.hid (ptsP_out 0 0 0 k v hr)
      have HR := Lib.hid hr
      clear hr hg hk
      go_enter Tryd.func25, Tryd.ntmps25
      go_wp2_with fail
      have H1 := Lib.hid (Own.start w 23 #[.int .u8 0, .int .u8 0, .int .u8 0, .int .u8 0])
      generalize w.alloc (.cells #[.int .u8 0, .int .u8 0, .int .u8 0, .int .u8 0] 23) = W1 at *
      generalize w.heap.size = b0 at *
      have x0 := H1.out.blk.cell (j := 0) (v := .int .u8 0) rfl
      have x1 := H1.out.blk.cell (j := 1) (v := .int .u8 0) rfl
      have x2 := H1.out.blk.cell (j := 2) (v := .int .u8 0) rfl
      have x3 := H1.out.blk.cell (j := 3) (v := .int .u8 0) rfl
      go_wp2_with fail
      refine (own_of (rresult_any 0 0 0 0 k _) H1.out).mono ?_
      rintro e W2 ⟨rfl, h2⟩
      rw [HR.out]
      clear x0 x1 x2 x3
      have x0 := h2.blk.cell (j := 0) (v := .int .u8 0) rfl
      go_wp2_with fail
      go_ret2
      exact ⟨by rw [HP.out]; rfl, h2.below⟩
    · obtain ⟨k, rfl⟩ : ∃ n : Nat, k = (n : Int) := ⟨k.toNat, by omega⟩
      have hk13 : k ≤ 13 := by omega
      have hn : Hid (needP l d r s = 6 + l) := Lib.hid (rgt_need l d r s hg (by omega))
      have f0 : ((l : Int) == 0) = false := beq_eq_false_iff_ne.2 (by omega)
      rcases Nat.lt_or_ge k (6 + l) with hkl | hkl
      · have HP := Lib.hid (ptsP_lost l d r s k v hr h1 hkl)
        have f1 : decide (6 + l ≤ k) = false := decide_eq_false (by omega)
        have HR := Lib.hid hr
        have H0 := Lib.hid (lostP_zero r v)
        clear hr hg hk
        go_enter Tryd.func25, Tryd.ntmps25
        go_wp2_with fail
        have H1 := Lib.hid (Own.start w 23 #[.int .u8 (l : Nat), .int .u8 (d : Nat), .int .u8 (r : Nat), .int .u8 (s : Nat)])
        generalize w.alloc (.cells #[.int .u8 (l : Nat), .int .u8 (d : Nat), .int .u8 (r : Nat), .int .u8 (s : Nat)] 23) = W1 at *
        generalize w.heap.size = b0 at *
        have x0 := H1.out.blk.cell (j := 0) (v := .int .u8 (l : Nat)) rfl
        have x1 := H1.out.blk.cell (j := 1) (v := .int .u8 (d : Nat)) rfl
        have x2 := H1.out.blk.cell (j := 2) (v := .int .u8 (r : Nat)) rfl
        have x3 := H1.out.blk.cell (j := 3) (v := .int .u8 (s : Nat)) rfl
        go_wp2_with fail
        refine (own_of (rresult_any l d r s k _) H1.out).mono ?_
        rintro e W2 ⟨rfl, h2⟩
        rw [HR.out]
        clear x0 x1 x2 x3 H1
        have H2 := Lib.hid h2
        clear h2
        have x0 := H2.out.blk.cell (j := 0) (v := .int .u8 (l : Nat)) rfl
        have x1 := H2.out.blk.cell (j := 1) (v := .int .u8 (d : Nat)) rfl
        have x2 := H2.out.blk.cell (j := 2) (v := .int .u8 (r : Nat)) rfl
        have x3 := H2.out.blk.cell (j := 3) (v := .int .u8 (s : Nat)) rfl
        go_wp2_with fail
        refine (own_of (rneed_any l d r s _ hl256) H2.out).mono ?_
        rintro e W3 ⟨rfl, h3⟩
        rw [hn.out]
        clear x0 x1 x2 x3 H2
        go_wp2_with fail
        go_loopw [8, 9] (fun v8 v9 wr => ∃ j : Nat, j ≤ 6 + l - k ∧ v8 = .int .i64 (-((lostP r j v : Nat) : Int)) ∧ v9 = .int .i64 ((j + 1 : Nat) : Int) ∧ Own w wr b0 23 #[.int .u8 (l : Nat), .int .u8 (d : Nat), .int .u8 (r : Nat), .int .u8 (s : Nat)]) (fun _ v9 _ => 8 + l - k - (intOf v9).toNat)
        case atStart => exact ⟨0, by omega, by rw [H0.out]; rfl, rfl, h3⟩
        case round =>
          obtain ⟨j, hj, rfl, rfl, hi⟩ := hrel
          clear h3
          have HI := Lib.hid hi
          clear hi
          have x0 := HI.out.blk.cell (j := 0) (v := .int .u8 (l : Nat)) rfl
          have x1 := HI.out.blk.cell (j := 1) (v := .int .u8 (d : Nat)) rfl
          have x2 := HI.out.blk.cell (j := 2) (v := .int .u8 (r : Nat)) rfl
          have x3 := HI.out.blk.cell (j := 3) (v := .int .u8 (s : Nat)) rfl
          go_wp2_with fail
          refine (own_of (rneed_any l d r s _ hl256) HI.out).mono ?_
          rintro e W4 ⟨rfl, h4⟩
          rw [hn.out]
          clear x0 x1 x2 x3 HI
          have H4 := Lib.hid h4
          clear h4
          have hb := lostP_le r j v (by omega)
          by_cases hlt : j < 6 + l - k
          · have t0 : decide (((j + 1 : Nat) : Int) ≤ ((6 + l : Nat) : Int) - (k : Int)) = true := decide_eq_true (by omega)
            have t1 : decide ((j : Int) + 1 ≤ 6 + (l : Int) - (k : Int)) = true := decide_eq_true (by omega)
            have HS := Lib.hid (lostP_succ r j v)
            have hb2 := lostK_le r (j + 1) v
            have x2 := H4.out.blk.cell (j := 2) (v := .int .u8 (r : Nat)) rfl
            generalize lostP r j v = S at *
            have LK := Lib.hid (fun w => rlost_any r (j + 1) v w (by omega))
            generalize lostK r (j + 1) v = L at *
            go_wp2_with fail
            refine (LK.out _).mono ?_
            rintro e W5 ⟨rfl, rfl⟩
            go_wp2_with fail
            first
              | exact ⟨⟨j + 1, by omega, by rw [HS.out]; go_num, by go_num, H4.out⟩, by simp [intOf]; omega⟩
              | (refine ⟨?_, by simp [intOf]; omega⟩; (repeat apply Exists.intro); exact ⟨⟨j + 1, by omega, by rw [HS.out]; go_num, by go_num, H4.out⟩, rfl⟩)
          · obtain rfl : j = 6 + l - k := by omega
            have t1 : decide (((6 + l - k : Nat) : Int) + 1 ≤ 6 + (l : Int) - (k : Int)) = false := decide_eq_false (by omega)
            go_wp2_with fail
            go_ret2
            exact ⟨by rw [HP.out]; rfl, H4.out.below⟩
      · have HP := Lib.hid (ptsP_made l d r s k v hr h1 hkl)
        have f1 : decide (6 + l ≤ k) = true := decide_eq_true (by omega)
        have HR := Lib.hid hr
        clear hr hg hk
        go_enter Tryd.func25, Tryd.ntmps25
        go_wp2_with fail
        have H1 := Lib.hid (Own.start w 23 #[.int .u8 (l : Nat), .int .u8 (d : Nat), .int .u8 (r : Nat), .int .u8 (s : Nat)])
        generalize w.alloc (.cells #[.int .u8 (l : Nat), .int .u8 (d : Nat), .int .u8 (r : Nat), .int .u8 (s : Nat)] 23) = W1 at *
        generalize w.heap.size = b0 at *
        have x0 := H1.out.blk.cell (j := 0) (v := .int .u8 (l : Nat)) rfl
        have x1 := H1.out.blk.cell (j := 1) (v := .int .u8 (d : Nat)) rfl
        have x2 := H1.out.blk.cell (j := 2) (v := .int .u8 (r : Nat)) rfl
        have x3 := H1.out.blk.cell (j := 3) (v := .int .u8 (s : Nat)) rfl
        go_wp2_with fail
        refine (own_of (rresult_any l d r s k _) H1.out).mono ?_
        rintro e W2 ⟨rfl, h2⟩
        rw [HR.out]
        clear x0 x1 x2 x3 H1
        have H2 := Lib.hid h2
        clear h2
        have x0 := H2.out.blk.cell (j := 0) (v := .int .u8 (l : Nat)) rfl
        have x1 := H2.out.blk.cell (j := 1) (v := .int .u8 (d : Nat)) rfl
        have x2 := H2.out.blk.cell (j := 2) (v := .int .u8 (r : Nat)) rfl
        have x3 := H2.out.blk.cell (j := 3) (v := .int .u8 (s : Nat)) rfl
        go_wp2_with fail
        refine (own_of (rneed_any l d r s _ hl256) H2.out).mono ?_
        rintro e W3 ⟨rfl, h3⟩
        rw [hn.out]
        clear x0 x1 x2 x3 H2
        have H3 := Lib.hid h3
        clear h3
        have x0 := H3.out.blk.cell (j := 0) (v := .int .u8 (l : Nat)) rfl
        have x1 := H3.out.blk.cell (j := 1) (v := .int .u8 (d : Nat)) rfl
        have x2 := H3.out.blk.cell (j := 2) (v := .int .u8 (r : Nat)) rfl
        have x3 := H3.out.blk.cell (j := 3) (v := .int .u8 (s : Nat)) rfl
        go_wp2_with fail
        refine (own_of (rmade_any l d r s k v _ h1 h2 h3 h4 h5 hkl hk13) H3.out).mono ?_
        rintro e W4 ⟨rfl, h4⟩
        go_wp2_with fail
        go_ret2
        exact ⟨by rw [HP.out]; rfl, h4.below⟩
theorem scoreP_bad (l d r s : Nat) (k : Int) (u : Nat) (h : resP l d r s k = false) : scoreP l d r s k u = (0, 2) := by
  unfold scoreP
  rw [ptsP_bad l d r s k _ h]
  split <;> simp
theorem scoreP_out (l d r s : Nat) (k : Int) (u : Nat) (h : 3 < u) : scoreP l d r s k u = (0, 2) := by unfold scoreP; rw [if_pos h]
theorem scoreP_in (l d r s : Nat) (k : Int) (u : Nat) (h : ¬ 3 < u) : scoreP l d r s k u = (if s % 2 = 1 then -(ptsP l d r s k (vulP u s)).1 else (ptsP l d r s k (vulP u s)).1, (ptsP l d r s k (vulP u s)).2) := by unfold scoreP; rw [if_neg h]
theorem ptsP_err (l d r s : Nat) (k : Int) (v : Bool) (h : resP l d r s k = true) : (ptsP l d r s k v).2 = 0 := by
  unfold ptsP
  rw [if_neg (by rw [h]; decide)]
  split
  · rfl
  · split <;> rfl
set_option maxRecDepth 100000 in
set_option maxHeartbeats 4000000 in
theorem rscore_any (l d r s : Nat) (k : Int) (u : Nat) (w : World) (hl256 : l < 256) :
    Calls Tryd.prog 26 #[.agg #[.int .u8 (l : Nat), .int .u8 (d : Nat), .int .u8 (r : Nat), .int .u8 (s : Nat)], .int .i64 k, .int .u8 u] w fun e w' => e = .returned (.tuple #[.int .i64 (scoreP l d r s k u).1, .int .i64 (scoreP l d r s k u).2]) ∧ Below w.heap.size w w' := by
  cases hr : resP l d r s k
  · have HP := Lib.hid (scoreP_bad l d r s k u hr)
    have HR := Lib.hid hr
    clear hr
    go_enter Tryd.func26, Tryd.ntmps26
    go_wp2_with fail
    have H1 := Lib.hid (Own.start w 23 #[.int .u8 (l : Nat), .int .u8 (d : Nat), .int .u8 (r : Nat), .int .u8 (s : Nat)])
    generalize w.alloc (.cells #[.int .u8 (l : Nat), .int .u8 (d : Nat), .int .u8 (r : Nat), .int .u8 (s : Nat)] 23) = W1 at *
    generalize w.heap.size = b0 at *
    have x0 := H1.out.blk.cell (j := 0) (v := .int .u8 (l : Nat)) rfl
    have x1 := H1.out.blk.cell (j := 1) (v := .int .u8 (d : Nat)) rfl
    have x2 := H1.out.blk.cell (j := 2) (v := .int .u8 (r : Nat)) rfl
    have x3 := H1.out.blk.cell (j := 3) (v := .int .u8 (s : Nat)) rfl
    go_wp2_with fail
    refine (own_of (rresult_any l d r s k _) H1.out).mono ?_
    rintro e W2 ⟨rfl, h2⟩
    rw [HR.out]
    go_wp2_with fail
    go_ret2
    exact ⟨by rw [HP.out]; rfl, h2.below⟩
  · rcases Nat.lt_or_ge 3 u with hu | hu
    · have HP := Lib.hid (scoreP_out l d r s k u hu)
      have fu : decide (3 < u) = true := decide_eq_true hu
      have fu2 : decide ((3 : Int) < (u : Int)) = true := decide_eq_true (by omega)
      have HR := Lib.hid hr
      clear hr hu
      go_enter Tryd.func26, Tryd.ntmps26
      go_wp2_with fail
      have H1 := Lib.hid (Own.start w 23 #[.int .u8 (l : Nat), .int .u8 (d : Nat), .int .u8 (r : Nat), .int .u8 (s : Nat)])
      generalize w.alloc (.cells #[.int .u8 (l : Nat), .int .u8 (d : Nat), .int .u8 (r : Nat), .int .u8 (s : Nat)] 23) = W1 at *
      generalize w.heap.size = b0 at *
      have x0 := H1.out.blk.cell (j := 0) (v := .int .u8 (l : Nat)) rfl
      have x1 := H1.out.blk.cell (j := 1) (v := .int .u8 (d : Nat)) rfl
      have x2 := H1.out.blk.cell (j := 2) (v := .int .u8 (r : Nat)) rfl
      have x3 := H1.out.blk.cell (j := 3) (v := .int .u8 (s : Nat)) rfl
      go_wp2_with fail
      refine (own_of (rresult_any l d r s k _) H1.out).mono ?_
      rintro e W2 ⟨rfl, h2⟩
      rw [HR.out]
      go_wp2_with fail
      go_ret2
      exact ⟨by rw [HP.out]; rfl, h2.below⟩
    · have HP := Lib.hid (scoreP_in l d r s k u (by omega))
      have HE := Lib.hid (ptsP_err l d r s k (vulP u s) hr)
      have fu : decide (3 < u) = false := decide_eq_false (by omega)
      have fu2 : decide ((3 : Int) < (u : Int)) = false := decide_eq_false (by omega)
      have HR := Lib.hid hr
      have hs3 : s ≤ 3 := by have := rgt_of _ _ _ _ (res_rgt hr); omega
      have bp := ptsP_le l d r s k (vulP u s)
      have PC := Lib.hid (fun w => rpoints_any l d r s k (vulP u s) w hl256)
      clear hr hu
      generalize ptsP l d r s k (vulP u s) = p at *
      obtain ⟨p1, p2⟩ := p
      simp only at bp
      go_enter Tryd.func26, Tryd.ntmps26
      go_wp2_with fail
      have H1 := Lib.hid (Own.start w 23 #[.int .u8 (l : Nat), .int .u8 (d : Nat), .int .u8 (r : Nat), .int .u8 (s : Nat)])
      generalize w.alloc (.cells #[.int .u8 (l : Nat), .int .u8 (d : Nat), .int .u8 (r : Nat), .int .u8 (s : Nat)] 23) = W1 at *
      generalize w.heap.size = b0 at *
      have x0 := H1.out.blk.cell (j := 0) (v := .int .u8 (l : Nat)) rfl
      have x1 := H1.out.blk.cell (j := 1) (v := .int .u8 (d : Nat)) rfl
      have x2 := H1.out.blk.cell (j := 2) (v := .int .u8 (r : Nat)) rfl
      have x3 := H1.out.blk.cell (j := 3) (v := .int .u8 (s : Nat)) rfl
      go_wp2_with fail
      refine (own_of (rresult_any l d r s k _) H1.out).mono ?_
      rintro e W2 ⟨rfl, h2⟩
      rw [HR.out]
      clear x0 x1 x2 x3 H1
      have H2 := Lib.hid h2
      clear h2
      have x0 := H2.out.blk.cell (j := 0) (v := .int .u8 (l : Nat)) rfl
      have x1 := H2.out.blk.cell (j := 1) (v := .int .u8 (d : Nat)) rfl
      have x2 := H2.out.blk.cell (j := 2) (v := .int .u8 (r : Nat)) rfl
      have x3 := H2.out.blk.cell (j := 3) (v := .int .u8 (s : Nat)) rfl
      have k0 := Since.cell x0
      have k1 := Since.cell x1
      have k2 := Since.cell x2
      have k3 := Since.cell x3
      go_wp2_with fail
      refine region_since (by kernel_rfl) (by kernel_rfl) ?_
      repeat (quiet_step ((first
        | (go_at_call 29; exact Calls.since ((rvul_any u s _).mono fun e w' ⟨he, hw⟩ => ⟨he, below_pure hw⟩))
        | (go_at_call 25; exact Calls.since (PC.out _)))))
      refine wpQuiet_nil ?_
      rintro w' ⟨u', rfl⟩
      clear k0 k1 k2 k3
      have H3 := Lib.hid (H2.out.keep u'.property)
      clear x0 x1 x2 x3 H2
      have x3 := H3.out.blk.cell (j := 3) (v := .int .u8 (s : Nat)) rfl
      rcases (by omega : s = 0 ∨ s = 1 ∨ s = 2 ∨ s = 3) with h | h | h | h
      · have f1 : ((s : Int) == 1) = false := by simp; omega
        have f3 : ((s : Int) == 3) = false := by simp; omega
        have HS := Lib.hid h
        clear h
        go_wp2_with fail
        go_ret2
        exact ⟨by rw [HP.out, HS.out, show (p1, p2).2 = 0 from HE.out]; rfl, H3.out.below⟩
      · have f1 : ((s : Int) == 1) = true := by simp; omega
        have f3 : ((s : Int) == 3) = false := by simp; omega
        have HS := Lib.hid h
        clear h
        go_wp2_with fail
        go_ret2
        exact ⟨by rw [HP.out, HS.out, show (p1, p2).2 = 0 from HE.out]; rfl, H3.out.below⟩
      · have f1 : ((s : Int) == 1) = false := by simp; omega
        have f3 : ((s : Int) == 3) = false := by simp; omega
        have HS := Lib.hid h
        clear h
        go_wp2_with fail
        go_ret2
        exact ⟨by rw [HP.out, HS.out, show (p1, p2).2 = 0 from HE.out]; rfl, H3.out.below⟩
      · have f1 : ((s : Int) == 1) = false := by simp; omega
        have f3 : ((s : Int) == 3) = true := by simp; omega
        have HS := Lib.hid h
        clear h
        go_wp2_with fail
        go_ret2
        exact ⟨by rw [HP.out, HS.out, show (p1, p2).2 = 0 from HE.out]; rfl, H3.out.below⟩
end Go.Proofs.YtgmofikhndlhcaaDoor
