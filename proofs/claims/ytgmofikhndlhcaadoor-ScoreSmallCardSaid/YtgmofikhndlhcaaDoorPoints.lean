/- Contracts of Points and Score. -/
import Derived.Test.YtgmofikhndlhcaaDoorMade
import Derived.Test.YtgmofikhndlhcaaDoorMiss
import Derived.Test.YtgmofikhndlhcaaDoorRes
import Derived.Test.YtgmofikhndlhcaaDoorQt
namespace Go.Proofs.YtgmofikhndlhcaaDoor
open Go.RowKit

def ptsP (l d r s : Nat) (k : Int) (v : Bool) : Int × Int :=
  if resP l d r s k = false then (0, 2) else if l = 0 then (0, 0) else if k < 6 + (l : Int) then (-(lostP r (6 + (l : Int) - k).toNat v : Int), 0) else ((madeP l d r (k - 6 - (l : Int)).toNat v : Int), 0)
theorem boxB (w : World) (o : Obj) : Below w.heap.size w (w.alloc o) := (Below.refl _ _).alloc (Nat.le_refl _) _
theorem need_pos (l d r s : Nat) (w : World) (hl : l < 256) (hg : rgt l d r s = true) (h0 : 0 < l) :
    Calls Tryd.prog 16 #[.agg #[.int .u8 l, .int .u8 d, .int .u8 r, .int .u8 s]] w fun e w' => e = .returned (.int .i64 (6 + (l : Int))) ∧ Below w.heap.size w w' :=
  (need_any l d r s w hl).mono fun _ _ ⟨he, hb⟩ => ⟨by rw [he, rgt_need l d r s hg (by omega)]; rfl, hb⟩
set_option maxRecDepth 100000 in
set_option maxHeartbeats 2000000 in
theorem points_any (l d r s : Nat) (k : Int) (v : Bool) (w : World) (ht : Tabs w) (hl256 : l < 256) :
    Calls Tryd.prog 18 #[.agg #[.int .u8 l, .int .u8 d, .int .u8 r, .int .u8 s], .int .i64 k, .bool v] w fun e w' => e = .returned (.tuple #[.int .i64 (ptsP l d r s k v).1, .int .i64 (ptsP l d r s k v).2]) ∧ Below w.heap.size w w' := by
  have HT := Lib.hid ht
  clear ht
  cases hres : resP l d r s k
  · have hP : Hid (ptsP l d r s k v = (0, 2)) := Lib.hid (if_pos hres)
    have HR := Lib.hid hres
    clear hres
    go_enter Tryd.func18, Tryd.ntmps18
    go_wp2_with fail
    refine (result_any l d r s k _).mono ?_
    rintro e w1 ⟨rfl, hb⟩
    rw [HR.out]
    go_wp2_with fail
    go_ret2
    exact ⟨by rw [hP.out]; rfl, (boxB _ _).trans (hb.mono (by simp))⟩
  · have hk : 0 ≤ k ∧ k ≤ 13 ∧ (0 < l ∨ k = 0) := res_of hres
    have hg := Lib.hid (res_rgt hres)
    rcases Nat.eq_zero_or_pos l with h0 | h0
    · have hP : Hid (ptsP l d r s k v = (0, 0)) := Lib.hid (by rw [ptsP, if_neg (by rw [hres]; decide), if_pos h0])
      have f0 : ((l : Int) == 0) = true := beq_iff_eq.2 (by omega)
      have HR := Lib.hid hres
      clear hres hk h0
      go_enter Tryd.func18, Tryd.ntmps18
      go_wp2_with fail
      refine (result_any l d r s k _).mono ?_
      rintro e w1 ⟨rfl, hb⟩
      rw [HR.out]
      have c0 := hb.cell (p := ⟨w.heap.size, 0, none⟩) (by simp)
      simp at c0
      go_wp2_with fail
      go_ret2
      exact ⟨by rw [hP.out]; rfl, (boxB _ _).trans (hb.mono (by simp))⟩
    · have f0 : ((l : Int) == 0) = false := beq_eq_false_iff_ne.2 (by omega)
      have hl7 : l ≤ 7 ∧ d ≤ 4 ∧ r ≤ 2 := by have := rgt_of _ _ _ _ hg.out; omega
      have H0 := Lib.hid h0
      obtain ⟨k', rfl⟩ : ∃ k' : Nat, k = (k' : Int) := ⟨k.toNat, by omega⟩
      have hk13 : k' ≤ 13 := by omega
      have HR := Lib.hid hres
      rcases Nat.lt_or_ge k' (6 + l) with hlt | hge
      · have hP : Hid (ptsP l d r s k' v = (-(lostP r (6 + l - k') v : Int), 0)) := Lib.hid (by
          rw [ptsP, if_neg (by rw [hres]; decide), if_neg (by omega), if_pos (by omega), show (6 + (l : Int) - (k' : Int)).toNat = 6 + l - k' by omega])
        obtain ⟨u, hu⟩ : ∃ u, u = 6 + l - k' := ⟨_, rfl⟩
        rw [← hu] at hP
        have fl : decide (k' < 6 + l) = true := decide_eq_true hlt
        have fl2 : decide ((k' : Int) < 6 + (l : Int)) = true := decide_eq_true (by omega)
        have hu13 : u ≤ 13 := by omega
        have eu : (6 + (l : Int)) - (k' : Int) = (u : Int) := by omega
        have eu2 : IntKind.i64.wrap (u : Int) = (u : Int) := IntWalk.i64_in _ (by omega)
        have bl := lostP_le r u v hu13
        have bn : IntKind.i64.wrap (-((lostP r u v : Nat) : Int)) = -((lostP r u v : Nat) : Int) := IntWalk.i64_in _ (by omega)
        clear hres hk hu hlt h0
        go_enter Tryd.func18, Tryd.ntmps18
        go_wp2_with fail
        refine (result_any l d r s k' _).mono ?_
        rintro e w1 ⟨rfl, hb⟩
        rw [HR.out]
        have c0 := hb.cell (p := ⟨w.heap.size, 0, none⟩) (by simp)
        have c1 := hb.cell (p := ⟨w.heap.size, 1, none⟩) (by simp)
        have c2 := hb.cell (p := ⟨w.heap.size, 2, none⟩) (by simp)
        have c3 := hb.cell (p := ⟨w.heap.size, 3, none⟩) (by simp)
        simp at c0 c1 c2 c3
        have hB : Below w.heap.size w w1 := (boxB _ _).trans (hb.mono (by simp))
        clear hb
        go_wp2_with fail
        refine (need_pos l d r s _ hl256 hg.out H0.out).mono ?_
        rintro e w2 ⟨rfl, hb⟩
        have k0 := Since.cell (keepW hb c0)
        have k1 := Since.cell (keepW hb c1)
        have k2 := Since.cell (keepW hb c2)
        have k3 := Since.cell (keepW hb c3)
        have hB2 := bchain hB hb
        have TK := Lib.hid (HT.out.keep hB2)
        clear hb c0 c1 c2 c3 hB
        go_wp2_with fail
        refine region_since (by kernel_rfl) (by kernel_rfl) ?_
        repeat (quiet_step ((first
          | (go_at_call 16; exact Calls.since (need_pos l d r s _ hl256 hg.out H0.out))
          | (go_at_call 36; exact Calls.since (missing_any l d r s u v _ hu13)))))
        refine wpQuiet_nil ?_
        rintro w' ⟨u', rfl⟩
        have hB3 := bchain hB2 u'.property
        go_wp2_with fail
        go_ret2
        exact ⟨by rw [hP.out]; rfl, hB3⟩
      · have hP : Hid (ptsP l d r s k' v = ((madeP l d r (k' - 6 - l) v : Int), 0)) := Lib.hid (by
          rw [ptsP, if_neg (by rw [hres]; decide), if_neg (by omega), if_neg (by omega), show ((k' : Int) - 6 - (l : Int)).toNat = k' - 6 - l by omega])
        obtain ⟨u, hu⟩ : ∃ u, u = k' - 6 - l := ⟨_, rfl⟩
        rw [← hu] at hP
        have fl : decide (k' < 6 + l) = false := decide_eq_false (by omega)
        have fl2 : decide ((k' : Int) < 6 + (l : Int)) = false := decide_eq_false (by omega)
        have hu13 : u ≤ 13 := by omega
        have eu : (k' : Int) - (6 + (l : Int)) = (u : Int) := by omega
        have eu2 : IntKind.i64.wrap (u : Int) = (u : Int) := IntWalk.i64_in _ (by omega)
        clear hres hk hu hge h0
        go_enter Tryd.func18, Tryd.ntmps18
        go_wp2_with fail
        refine (result_any l d r s k' _).mono ?_
        rintro e w1 ⟨rfl, hb⟩
        rw [HR.out]
        have c0 := hb.cell (p := ⟨w.heap.size, 0, none⟩) (by simp)
        have c1 := hb.cell (p := ⟨w.heap.size, 1, none⟩) (by simp)
        have c2 := hb.cell (p := ⟨w.heap.size, 2, none⟩) (by simp)
        have c3 := hb.cell (p := ⟨w.heap.size, 3, none⟩) (by simp)
        simp at c0 c1 c2 c3
        have hB : Below w.heap.size w w1 := (boxB _ _).trans (hb.mono (by simp))
        clear hb
        go_wp2_with fail
        refine (need_pos l d r s _ hl256 hg.out H0.out).mono ?_
        rintro e w2 ⟨rfl, hb⟩
        have k0 := Since.cell (keepW hb c0)
        have k1 := Since.cell (keepW hb c1)
        have k2 := Since.cell (keepW hb c2)
        have k3 := Since.cell (keepW hb c3)
        have hB2 := bchain hB hb
        have TK := Lib.hid (HT.out.keep hB2)
        clear hb c0 c1 c2 c3 hB
        go_wp2_with fail
        refine region_since (by kernel_rfl) (by kernel_rfl) ?_
        repeat (quiet_step ((first
          | (go_at_call 16; exact Calls.since (need_pos l d r s _ hl256 hg.out H0.out))
          | (go_at_call 37; exact Calls.since (made_any l d r s u v _ (TK.out.keep (Since.property _)) hl7.1 hl7.2.1 hl7.2.2 hu13)))))
        refine wpQuiet_nil ?_
        rintro w' ⟨u', rfl⟩
        have hB3 := bchain hB2 u'.property
        go_wp2_with fail
        go_ret2
        exact ⟨by rw [hP.out]; rfl, hB3⟩
theorem ptsP_le (l d r s : Nat) (k : Int) (v : Bool) : -10000 ≤ (ptsP l d r s k v).1 ∧ (ptsP l d r s k v).1 ≤ 10000 := by
  unfold ptsP
  by_cases h : resP l d r s k = false
  · rw [if_pos h]; decide
  · rw [if_neg h]
    have h' : resP l d r s k = true := by simpa using h
    have hk := res_of h'
    have hr := rgt_of _ _ _ _ (res_rgt h')
    split
    · decide
    · split
      · have := lostP_le r (6 + (l : Int) - k).toNat v (by omega)
        show -10000 ≤ -((lostP r (6 + (l : Int) - k).toNat v : Nat) : Int) ∧ -((lostP r (6 + (l : Int) - k).toNat v : Nat) : Int) ≤ 10000
        omega
      · have := madeP_le l d r (k - 6 - (l : Int)).toNat v (by omega) (by omega) (by omega) (by omega)
        show -10000 ≤ ((madeP l d r (k - 6 - (l : Int)).toNat v : Nat) : Int) ∧ ((madeP l d r (k - 6 - (l : Int)).toNat v : Nat) : Int) ≤ 10000
        omega
attribute [irreducible] ptsP
def scoreP (l d r s : Nat) (k : Int) (u : Nat) : Int × Int :=
  if 3 < u then (0, 2) else (if s % 2 = 1 then -(ptsP l d r s k (vulP u s)).1 else (ptsP l d r s k (vulP u s)).1, (ptsP l d r s k (vulP u s)).2)
set_option maxRecDepth 100000 in
set_option maxHeartbeats 2000000 in
theorem score_any (l d r s : Nat) (k : Int) (u : Nat) (w : World) (ht : Tabs w) (hl256 : l < 256) :
    Calls Tryd.prog 17 #[.agg #[.int .u8 l, .int .u8 d, .int .u8 r, .int .u8 s], .int .i64 k, .int .u8 u] w fun e w' => e = .returned (.tuple #[.int .i64 (scoreP l d r s k u).1, .int .i64 (scoreP l d r s k u).2]) ∧ Below w.heap.size w w' := by
  have HT := Lib.hid ht
  clear ht
  rcases Nat.lt_or_ge 3 u with hu | hu
  · have hP : Hid (scoreP l d r s k u = (0, 2)) := Lib.hid (if_pos hu)
    have fu : decide (3 < u) = true := decide_eq_true hu
    have fu2 : decide ((3 : Int) < (u : Int)) = true := decide_eq_true (by omega)
    clear hu
    go_enter Tryd.func17, Tryd.ntmps17
    go_wp2_with fail
    go_ret2
    exact ⟨by rw [hP.out]; rfl, boxB _ _⟩
  · have hP : Hid (scoreP l d r s k u = (if s % 2 = 1 then -(ptsP l d r s k (vulP u s)).1 else (ptsP l d r s k (vulP u s)).1, (ptsP l d r s k (vulP u s)).2)) := Lib.hid (if_neg (by omega))
    have fu : decide (3 < u) = false := decide_eq_false (by omega)
    have fu2 : decide ((3 : Int) < (u : Int)) = false := decide_eq_false (by omega)
    have bp := ptsP_le l d r s k (vulP u s)
    obtain ⟨p, hp⟩ : ∃ p, ptsP l d r s k (vulP u s) = p := ⟨_, rfl⟩
    rw [hp] at hP bp
    have PC : ∀ w, Tabs w → Calls Tryd.prog 18 #[.agg #[.int .u8 l, .int .u8 d, .int .u8 r, .int .u8 s], .int .i64 k, .bool (vulP u s)] w fun e w' => e = .returned (.tuple #[.int .i64 p.1, .int .i64 p.2]) ∧ Below w.heap.size w w' := fun w hw => hp ▸ points_any l d r s k (vulP u s) w hw hl256
    have PCH := Lib.hid PC
    clear PC hp hu
    obtain ⟨p1, p2⟩ := p
    simp only at bp
    have k0 := Since.cell (show (w.alloc (.cells #[.int .u8 l, .int .u8 d, .int .u8 r, .int .u8 s] 23)).cell? ⟨w.heap.size, 0, none⟩ = some (.int .u8 (l : Nat)) by simp)
    have k1 := Since.cell (show (w.alloc (.cells #[.int .u8 l, .int .u8 d, .int .u8 r, .int .u8 s] 23)).cell? ⟨w.heap.size, 1, none⟩ = some (.int .u8 (d : Nat)) by simp)
    have k2 := Since.cell (show (w.alloc (.cells #[.int .u8 l, .int .u8 d, .int .u8 r, .int .u8 s] 23)).cell? ⟨w.heap.size, 2, none⟩ = some (.int .u8 (r : Nat)) by simp)
    have k3 := Since.cell (show (w.alloc (.cells #[.int .u8 l, .int .u8 d, .int .u8 r, .int .u8 s] 23)).cell? ⟨w.heap.size, 3, none⟩ = some (.int .u8 (s : Nat)) by simp)
    have TK := Lib.hid (HT.out.keep (boxB w (.cells #[.int .u8 l, .int .u8 d, .int .u8 r, .int .u8 s] 23)))
    go_enter Tryd.func17, Tryd.ntmps17
    go_wp2_with fail
    refine region_since (by kernel_rfl) (by kernel_rfl) ?_
    repeat (quiet_step ((first
      | (go_at_call 19; exact Calls.since ((vul_any u s _).mono fun e w' ⟨he, hw⟩ => ⟨he, below_pure hw⟩))
      | (go_at_call 18; exact Calls.since (PCH.out _ (TK.out.keep (Since.property _)))))))
    refine wpQuiet_nil ?_
    rintro w' ⟨u', rfl⟩
    have hB3 := bchain (boxB _ _) u'.property
    rcases (by omega : s % 2 = 1 ∨ s % 2 ≠ 1) with hs | hs
    · have f1 : (((s : Int) % 2) == 1) = true := beq_iff_eq.2 (by omega)
      have hQ : Hid ((if s % 2 = 1 then -p1 else p1) = -p1) := Lib.hid (if_pos hs)
      clear hs
      go_wp2_with fail
      go_ret2
      exact ⟨by rw [hP.out]; simp only; rw [hQ.out]; rfl, hB3⟩
    · have f1 : (((s : Int) % 2) == 1) = false := beq_eq_false_iff_ne.2 (by omega)
      have hQ : Hid ((if s % 2 = 1 then -p1 else p1) = p1) := Lib.hid (if_neg hs)
      clear hs
      go_wp2_with fail
      go_ret2
      exact ⟨by rw [hP.out]; simp only; rw [hQ.out]; rfl, hB3⟩
attribute [irreducible] scoreP
end Go.Proofs.YtgmofikhndlhcaaDoor
