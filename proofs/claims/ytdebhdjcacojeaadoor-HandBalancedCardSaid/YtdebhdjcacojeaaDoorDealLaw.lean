/- The walk of HandDeal. -/
import Derived.Test.YtdebhdjcacojeaaDoorAwake
import Derived.Test.YtdebhdjcacojeaaDoorDealt
import Derived.Outline
namespace Go.Proofs.YtdebhdjcacojeaaDoor
open Go.RowKit

theorem hon_le (a b c d h : Nat) : Pl.hon a b c d h ≤ a + b + c + d := by
  rw [← Pl.honTo_4]; exact Pl.honTo_le ..
theorem pts_le (m : Nat) : Pl.tot (Pl.hon 1 2 3 4) m ≤ 100 := by
  have h := fun s => hon_le 1 2 3 4 (Pl.hold m s)
  have h0 := h 0
  have h1 := h 1
  have h2 := h 2
  have h3 := h 3
  unfold Pl.tot; omega
theorem ctl_le (m : Nat) : Pl.tot (Pl.hon 0 0 1 2) m ≤ 100 := by
  have h := fun s => hon_le 0 0 1 2 (Pl.hold m s)
  have h0 := h 0
  have h1 := h 1
  have h2 := h 2
  have h3 := h 3
  unfold Pl.tot; omega
/-- Four lengths added up: of k hands whole, of the next one s suits. -/
def lenS (M : Nat → Nat) (k s j : Nat) : Nat := Pl.sm (fun i => shp (M i) j) (if j < s then k + 1 else k)
def lenC (M : Nat → Nat) (k s : Nat) : Array Value := #[.int .i64 (lenS M k s 0 : Nat), .int .i64 (lenS M k s 1 : Nat), .int .i64 (lenS M k s 2 : Nat), .int .i64 (lenS M k s 3 : Nat)]
theorem lenC_get (M : Nat → Nat) (k s : Nat) (hs : s < 4) : (lenC M k s)[s]? = some (.int .i64 (Pl.sm (fun i => shp (M i) s) k : Nat)) := by
  rcases (by omega : s = 0 ∨ s = 1 ∨ s = 2 ∨ s = 3) with rfl | rfl | rfl | rfl <;> simp [lenC, lenS]
theorem lenC_set (M : Nat → Nat) (k s : Nat) (hs : s < 4) : (lenC M k s).setIfInBounds s (.int .i64 ((Pl.sm (fun i => shp (M i) s) k : Nat) + (shp (M k) s : Nat) : Int)) = lenC M k (s + 1) := by
  rcases (by omega : s = 0 ∨ s = 1 ∨ s = 2 ∨ s = 3) with rfl | rfl | rfl | rfl <;> simp [lenC, lenS, Pl.sm_succ]
theorem lenC_4 (M : Nat → Nat) (k : Nat) : lenC M k 4 = lenC M (k + 1) 0 := by simp [lenC, lenS]
theorem lenC_0 (M : Nat → Nat) : lenC M 0 0 = #[.int .i64 0, .int .i64 0, .int .i64 0, .int .i64 0] := by simp [lenC, lenS, Pl.sm_0]

/-- The tables are there; of what was there at the beginning nothing has changed; block b has the cells c. -/
structure InvL (w0 w : World) (b : Nat) (t : TypeId) (c : Array Value) : Prop where
  tabs : Tabs w
  below : Below w0.heap.size w0 w
  blk : Blk w b t c
theorem invl_of {f : FuncId} {args : Array Value} {v : Value} (h : ∀ w, Tabs w → Calls Tryd.prog f args w (fun e w' => e = .returned v ∧ Below w.heap.size w w')) {w0 w : World} {b : Nat} {t : TypeId} {c : Array Value} (hi : InvL w0 w b t c) :
    Calls Tryd.prog f args w (fun e w' => e = .returned v ∧ InvL w0 w' b t c) :=
  (h w hi.tabs).mono fun _ _ ⟨he, hb⟩ => ⟨he, hi.tabs.keep hb, bchain hi.below hb, hi.blk.keep hb hi.blk.lt⟩
theorem invl_pure {f : FuncId} {args : Array Value} {v : Value} (h : ∀ w, Calls Tryd.prog f args w (fun e w' => e = .returned v ∧ w = w')) {w0 w : World} {b : Nat} {t : TypeId} {c : Array Value} (hi : InvL w0 w b t c) :
    Calls Tryd.prog f args w (fun e w' => e = .returned v ∧ InvL w0 w' b t c) :=
  (h w).mono fun _ _ ⟨he, hb⟩ => ⟨he, hb ▸ hi⟩
def DealtPost (w : World) (e : Ending) (w' : World) : Prop := (∃ L : List Nat, L.Perm (List.range 52) ∧
      e = .returned (.agg #[.int .u64 (Pl.maskTo (fun i => L.getD i 0) 52 0 : Nat), .int .u64 (Pl.maskTo (fun i => L.getD i 0) 52 1 : Nat), .int .u64 (Pl.maskTo (fun i => L.getD i 0) 52 2 : Nat), .int .u64 (Pl.maskTo (fun i => L.getD i 0) 52 3 : Nat)])) ∧ Below w.heap.size w w'
theorem idx_u64 (M : Nat → Nat) (t : Nat) (ht : t < 4) (w : World) : (Instr.index 37 (.agg #[.int .u64 (M 0 : Nat), .int .u64 (M 1 : Nat), .int .u64 (M 2 : Nat), .int .u64 (M 3 : Nat)]) (.int .i64 (t : Int))).run Tryd.prog w = .ok (.int .u64 (M t : Nat)) w :=
  run_index_row w _ 22 4 _ _ t _ Tryd.underlying37 (by kernel_rfl) (by kernel_rfl) ht (by rcases (by omega : t = 0 ∨ t = 1 ∨ t = 2 ∨ t = 3) with rfl | rfl | rfl | rfl <;> rfl)
theorem idx_int (M : Nat → Nat) (t : Nat) (ht : t < 4) (w : World) : (Instr.index 31 (.agg #[.int .i64 (M 0 : Nat), .int .i64 (M 1 : Nat), .int .i64 (M 2 : Nat), .int .i64 (M 3 : Nat)]) (.int .i64 (t : Int))).run Tryd.prog w = .ok (.int .i64 (M t : Nat)) w :=
  run_index_row w _ 3 4 _ _ t _ Tryd.underlying31 (by kernel_rfl) (by kernel_rfl) ht (by rcases (by omega : t = 0 ∨ t = 1 ∨ t = 2 ∨ t = 3) with rfl | rfl | rfl | rfl <;> rfl)

set_option maxRecDepth 100000 in
set_option maxHeartbeats 4000000 in
theorem deal_walk (x : Value) (w : World) (ht : Tabs w) (hD : Hid (∀ w1, Below w.heap.size w w1 → Calls Tryd.prog 25 #[x] w1 (DealtPost w1))) :
    Calls Tryd.prog 5 #[x] w fun e w' => e = .returned (.bool true) ∧ Below w.heap.size w w' := by
  have HT := Lib.hid ht
  clear ht
  go_enter Tryd.func5, Tryd.ntmps5
  go_wp2_with fail
  refine (hD.out _ ((Below.refl _ _).alloc (Nat.le_refl _) _)).mono ?_
  rintro e w1 ⟨⟨L, hL, rfl⟩, hb1⟩
  obtain ⟨M, hM0, hM1, hM2, hM3⟩ : ∃ M : Nat → Nat, M 0 = Pl.maskTo (fun i => L.getD i 0) 52 0 ∧ M 1 = Pl.maskTo (fun i => L.getD i 0) 52 1 ∧ M 2 = Pl.maskTo (fun i => L.getD i 0) 52 2 ∧ M 3 = Pl.maskTo (fun i => L.getD i 0) 52 3 :=
    ⟨fun j => Pl.maskTo (fun i => L.getD i 0) 52 j, rfl, rfl, rfl, rfl⟩
  have HA := Lib.hid (Pl.deal_all L hL _ _ _ _ hM0 hM1 hM2 hM3)
  rw [← hM0, ← hM1, ← hM2, ← hM3]
  clear hM0 hM1 hM2 hM3 hL
  have hi : InvL w w1 w.heap.size 31 (lenC M 0 0) := by
    refine ⟨?_, ?_, ?_⟩
    · exact (HT.out.keep ((Below.refl _ _).alloc (Nat.le_refl _) _)).keep hb1
    · exact ((Below.refl w.heap.size w).alloc (Nat.le_refl _) _).trans (hb1.mono (by simp))
    · rw [lenC_0]
      exact (Blk.new w 31 _).keep hb1 (by simp)
  clear hb1 hD
  have hlt : ∀ j, j < 4 → M j < 18446744073709551616 := fun j hj => by
    obtain ⟨⟨a, b, c, d⟩, -⟩ := HA.out
    rcases (by omega : j = 0 ∨ j = 1 ∨ j = 2 ∨ j = 3) with rfl | rfl | rfl | rfl <;> omega
  have hr : ∀ j, j < 4 → rightB (M j) = true := fun j hj => by
    obtain ⟨⟨a, b, c, d⟩, ⟨a', b', c', d'⟩, -⟩ := HA.out
    rcases (by omega : j = 0 ∨ j = 1 ∨ j = 2 ∨ j = 3) with rfl | rfl | rfl | rfl <;> simp [rightB, *]
  have HLT := Lib.hid hlt
  have HR := Lib.hid hr
  have HI := Lib.hid hi
  clear hlt hr hi
  go_wp2_with fail
  go_loopw [3, 4, 12] (fun v3 v4 v12 wr => ∃ k : Nat, k ≤ 4 ∧ v12 = .int .i64 k ∧ v3 = .int .i64 (Pl.sm (fun j => Pl.tot (Pl.hon 1 2 3 4) (M j)) k : Nat) ∧ v4 = .int .i64 (Pl.sm (fun j => Pl.tot (Pl.hon 0 0 1 2) (M j)) k : Nat) ∧ InvL w wr w.heap.size 31 (lenC M k 0)) (fun _ _ v12 _ => 4 - (intOf v12).toNat)
  case atStart => exact ⟨0, by omega, rfl, by rw [Pl.sm_0]; rfl, by rw [Pl.sm_0]; rfl, HI.out⟩
  case round =>
    obtain ⟨k, hk, rfl, rfl, rfl, hi⟩ := hrel
    clear HI
    by_cases hlt : k < 4
    · have ix := idx_u64 M k hlt
      have b1 := Pl.sm_le (fun j => Pl.tot (Pl.hon 1 2 3 4) (M j)) (fun i => pts_le _) k
      have b2 := Pl.sm_le (fun j => Pl.tot (Pl.hon 0 0 1 2) (M j)) (fun i => ctl_le _) k
      have b3 := pts_le (M k)
      have b4 := ctl_le (M k)
      have r1 := HR.out k hlt
      have s1 := Lib.hid (Pl.sm_succ (fun j => Pl.tot (Pl.hon 1 2 3 4) (M j)) k)
      have s2 := Lib.hid (Pl.sm_succ (fun j => Pl.tot (Pl.hon 0 0 1 2) (M j)) k)
      generalize Pl.sm (fun j => Pl.tot (Pl.hon 1 2 3 4) (M j)) k = p at *
      generalize Pl.sm (fun j => Pl.tot (Pl.hon 0 0 1 2) (M j)) k = c at *
      go_wp2_with fail
      refine (invl_pure (fun w => right_any (M k) w (Lib.hid (HLT.out k hlt))) hi).mono ?_
      rintro e w2 ⟨rfl, h2⟩
      clear hi
      go_wp2_with fail
      refine (invl_of (fun w ht => points_any (M k) w (HLT.out k hlt) ht) h2).mono ?_
      rintro e w3 ⟨rfl, h3⟩
      clear h2
      go_wp2_with fail
      refine (invl_of (fun w ht => controls_any (M k) w (HLT.out k hlt) ht) h3).mono ?_
      rintro e w4 ⟨rfl, h4⟩
      clear h3
      go_wp2_with fail
      refine (invl_of (fun w _ => shape_any (M k) w (HLT.out k hlt)) h4).mono ?_
      rintro e w5 ⟨rfl, h5⟩
      clear h4
      go_wp2_with fail
      go_loopw [28] (fun v28 wr => ∃ s : Nat, s ≤ 4 ∧ v28 = .int .i64 s ∧ InvL w wr w.heap.size 31 (lenC M k s)) (fun v28 _ => 4 - (intOf v28).toNat)
      case atStart => exact ⟨0, by omega, rfl, h5⟩
      case round =>
        obtain ⟨s, hs, rfl, hi⟩ := hrel
        clear h5
        by_cases hls : s < 4
        · have iy := idx_int (fun j => shp (M k) j) s hls
          have c1 := hi.blk.cell (lenC_get M k s hls)
          have f1 := hi.blk.free s
          have b5 := Pl.sm_le (fun i => shp (M i) s) (fun i => by have := shp_le (M i) s; omega) k
          have b6 := shp_le (M k) s
          have hn := Lib.hid (hi.blk.set s (.int .i64 ((Pl.sm (fun i => shp (M i) s) k : Nat) + (shp (M k) s : Nat) : Int)))
          have HI := Lib.hid hi
          clear hi
          generalize hq : Pl.sm (fun i => shp (M i) s) k = q at *
          have HQ := Lib.hid hq
          clear hq
          go_wp2_with fail
          refine ⟨⟨s + 1, by omega, by go_num, HT.out.keep (HI.out.below.setCell (by simp) _), HI.out.below.setCell (by simp) _, ?_⟩, by simp [intOf]; omega⟩
          · have h := hn.out
            rw [← HQ.out, lenC_set M k s hls] at h
            rw [← HQ.out]
            exact h
        · obtain rfl : s = 4 := by omega
          have HI := Lib.hid hi
          clear hi
          go_wp2_with fail
          exact ⟨⟨k + 1, by omega, by go_num, by rw [s1.out]; rfl, by rw [s2.out]; rfl, by rw [← lenC_4]; exact HI.out⟩, by simp [intOf]; omega⟩
    · obtain rfl : k = 4 := by omega
      have e1 : Pl.sm (fun j => Pl.tot (Pl.hon 1 2 3 4) (M j)) 4 = 40 := by rw [Pl.sm_4]; exact HA.out.2.2.1
      have e2 : Pl.sm (fun j => Pl.tot (Pl.hon 0 0 1 2) (M j)) 4 = 12 := by rw [Pl.sm_4]; exact HA.out.2.2.2.1
      have e3 : ∀ j, j < 4 → lenS M 4 0 j = 13 := fun j hj => by
        unfold lenS
        rw [if_neg (by omega), Pl.sm_4]
        unfold shp
        exact HA.out.2.2.2.2 j hj
      have e4 : lenC M 4 0 = #[.int .i64 13, .int .i64 13, .int .i64 13, .int .i64 13] := by
        unfold lenC
        rw [e3 0 (by omega), e3 1 (by omega), e3 2 (by omega), e3 3 (by omega)]
        rfl
      rw [e4] at hi
      rw [e1, e2]
      have c0 := hi.blk.cell (j := 0) (v := .int .i64 13) rfl
      have c1 := hi.blk.cell (j := 1) (v := .int .i64 13) rfl
      have c2 := hi.blk.cell (j := 2) (v := .int .i64 13) rfl
      have c3 := hi.blk.cell (j := 3) (v := .int .i64 13) rfl
      have qi := eq4
      have hv : Inv w wr := ⟨hi.tabs, hi.below⟩
      clear e1 e2 e3 e4 hi
      go_wp2_with fail
      refine (awake_i hv).mono ?_
      rintro e w6 ⟨rfl, h6⟩
      go_wp2_with fail
      go_ret
      exact ⟨rfl, h6.below⟩
end Go.Proofs.YtdebhdjcacojeaaDoor
