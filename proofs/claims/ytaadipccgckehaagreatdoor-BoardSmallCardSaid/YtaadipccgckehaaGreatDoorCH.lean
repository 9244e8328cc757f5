/- The examples: awake. -/
import Derived.Test.YtaadipccgckehaaGreatDoorCG
import Derived.Test.YtaadipccgckehaaGreatDoorCJ
namespace Go.Proofs.YtaadipccgckehaaGreatDoor
open Go Go.RowKit Go.Shelf Go.Maps Pl

theorem below_ins {a w w' : World} (h : Below a.heap.size a w) (hg : w.grownBy w' (some a.heap.size)) : Below a.heap.size a w' := h.grown hg h.size (fun k e => by cases e; exact Nat.le_refl _)
theorem dr_three (w : World) : DR 24 (w.alloc (.cells #[.int .u64 8191, .int .u64 67100672, .int .u64 549688705024, .int .u64 4503049871556608, .int .u64 16382, .int .u64 67092481, .int .u64 549688705024, .int .u64 4503049871556608, .int .u64 8191, .int .u64 67100672, .int .u64 549688705024, .int .u64 4503049871556608] 24)) (.slice (some ⟨w.heap.size, 0, none⟩) 3 3) [suitF, swapF, suitF] := by
  refine DR.some_ w.heap.size 0 3 [suitF, swapF, suitF] (by simp) (fun i x hi k hk => ?_)
  have hi3 : i < 3 := (List.getElem?_eq_some_iff.1 hi).1
  refine (Blk.new w _ _).cell ?_
  rcases (by omega : i = 0 ∨ i = 1 ∨ i = 2) with rfl | rfl | rfl <;> rcases (by omega : k = 0 ∨ k = 1 ∨ k = 2 ∨ k = 3) with rfl | rfl | rfl | rfl <;> cases hi <;> rfl
theorem btext_ex (w : World) (he : Env w) : Calls Tryz.prog 20 #[.agg #[.int .i64 7, .int .u64 8191, .int .u64 67100672, .int .u64 549688705024, .int .u64 4503049871556608]] w (fun e w' => e = .returned (.tuple #[.string ⟨#[55, 32, 83, 32, 98, 111, 116, 104, 32, 78, 58, 46, 46, 46, 65, 75, 81, 74, 84, 57, 56, 55, 54, 53, 52, 51, 50, 32, 46, 46, 65, 75, 81, 74, 84, 57, 56, 55, 54, 53, 52, 51, 50, 46, 32, 46, 65, 75, 81, 74, 84, 57, 56, 55, 54, 53, 52, 51, 50, 46, 46, 32, 65, 75, 81, 74, 84, 57, 56, 55, 54, 53, 52, 51, 50, 46, 46, 46]⟩, .int .i64 0]) ∧ Below w.heap.size w w') := by
  have h := btext_ok 7 (ofF suitF) (by omega) (by omega) suit_64 suit_right w he
  rw [ex_text] at h
  exact h
def exR : List UInt8 := 55 :: 32 :: 78 :: exS.drop 3
theorem ex_bok : bok exR = false := by decide +kernel
theorem bread_ex (w : World) (he : Env w) : Calls Tryz.prog 23 #[.string ⟨exR.toArray⟩] w (fun e w' => e = .returned (.tuple #[.agg z5, .int .i64 71]) ∧ Below w.heap.size w w') := by
  have h := bread_any exR (by decide) w he
  unfold bret at h
  rw [ex_bok] at h
  exact h
set_option maxRecDepth 100000 in
set_option maxHeartbeats 4000000 in
theorem awake_any (w : World) (he : Env w) : Calls Tryz.prog 6 #[] w (fun e w' => e = .returned (.bool true) ∧ Below w.heap.size w w') := by
  have hmm := @run_makeMap Tryz.prog
  have hown0 := World.ownsMap_made (H := Unit) w Tryz.prog 3 R2
  have hb0 := (Below.refl w.heap.size w).alloc (Nat.le_refl _) (.map #[] 0)
  have HE := Lib.hid he
  clear he
  go_enter Tryz.func6, Tryz.ntmps6
  go_wp2_with (first
    | (refine wpList_insert_own _ rfl _ _ _ 56 rfl 3 55 int_law Tryz.underlying56 R2 w.heap.size _ _ rfl (by assumption) (by unfold maxLen; omega) _ _ _ rfl rfl (key_int _ rfl) _ [] rfl ?_; intro wn hownn hgrow; have hbn : Below w.heap.size w wn := below_ins (by assumption) hgrow; clear hgrow)
    | (at_range; refine wpList_range_own _ rfl _ 56 rfl 3 55 int_law Tryz.underlying56 _ w.heap.size 8 D8 rfl (by assumption) ?_; intro wr hrg0 hg0 hs0))
  have HB := Lib.hid (hbn.grown hg0 hbn.size (fun k e => by cases e))
  have HRG := Lib.hid hrg0
  have hrs : w.heap.size ≤ wn.heap.size := hbn.size
  go_frame
  have HRS := Lib.hid hrs
  clear hmm hown0 hb0 hbn hg0 hs0 hrg0 hownn hrs
  generalize wn.heap.size = r at *
  generalize hp0 : w.heap.size = p0 at *
  go_loopw [1] (fun _ wr => ∃ left cnt, Hid (wr.ranges Tryz.prog 3 R2 p0 r 8 D8 left cnt) ∧ Hid (Below p0 w wr)) (fun _ wr => wr.rangeLeft p0 r)
  case atStart => exact ⟨_, _, HRG, HB⟩
  case round =>
    clear HB HRG
    obtain ⟨left, cnt, HRG, HB⟩ := hrel
    go_wp2_with (at_next; refine wpList_next_ranges _ rfl _ rfl 3 int_law R2 (Value.int .i64) mk2 (fun key kl hkey => by obtain ⟨x, rfl, _⟩ := Maps.keyOf_int_inv Tryz.underlying3 hkey; exact ⟨x, rfl⟩) R2_inv p0 r 8 D8 left cnt rfl HRG.out ?_ ?_)
    case refine_2 =>
      intro x a b kl y ps w1 cnt1 hkey hlk hv hat hrg1 hlt hg1 hs1 hen
      obtain ⟨x', ex, rfl, hwx⟩ := Maps.keyOf_int_inv Tryz.underlying3 hkey
      cases ex
      have hv' : some (pairE a b, []) = some (y, ps) := hv
      injection hv' with hv'
      injection hv' with hv1 hv2
      subst hv1 hv2
      obtain ⟨n, h1, h2, rfl, rfl, rfl⟩ := d8_key x a b hat
      have DL := Lib.hid (fun W => dealer_ok n h1 h2 W)
      have VL := Lib.hid (fun W => vuln_ok n h1 h2 W)
      have hd4 := deal_lt n
      have hv4 := vul_lt n
      generalize dealP n = dl at *
      generalize vulP n = vl at *
      have HRG1 := Lib.hid hrg1
      have HB1 := Lib.hid (HB.out.grown hg1 (by have := HB.out.size; omega) (fun k e => by cases e; exact HRS.out))
      unfold mk2 at hen
      have HLT := Lib.hid hlt
      clear hrg1 hkey hlk hv hat hlt hg1 hs1 hwx HB
      go_wp2_with (first
        | (go_at_call 7; refine (DL.out _).mono ?_; rintro e w2 ⟨rfl, rfl⟩)
        | (go_at_call 9; refine (VL.out _).mono ?_; rintro e w2 ⟨rfl, rfl⟩))
      refine ⟨⟨_, _, Lib.hid (HRG1.out.alloc _), Lib.hid (HB1.out.alloc (by have := HB1.out.size; omega) _)⟩, ?_⟩
      rw [(HRG1.out.alloc _).left_eq, HRG.out.left_eq]
      exact HLT.out
    case refine_1 =>
      intro _ _
      clear HRG HRS
      have HB0 : Hid (Below w.heap.size w wr) := Lib.hid (by rw [hp0]; exact HB.out)
      clear HB hp0
      go_wp2_with (go_at_call 13; refine (find_ex _).mono ?_; rintro e w2 ⟨rfl, rfl⟩)
      refine (suits_any _).mono ?_
      rintro e w1 ⟨rfl, hb⟩
      have HB1 := Lib.hid (bchain HB0.out hb)
      clear hb HB0
      go_wp2_with fail
      refine (swapped_any _).mono ?_
      rintro e w2 ⟨rfl, hb⟩
      have HB2 := Lib.hid (bchain HB1.out hb)
      clear hb HB1
      go_wp2_with fail
      refine (chg_ex _).mono ?_
      rintro e w3 ⟨g1, c1, rfl, hb, hc⟩
      have HB3 := Lib.hid (bchain HB2.out hb)
      have HC3 := Lib.hid (fun i v hi => And.intro (hc i v hi) (World.block_lt_of_cell? w3 _ (hc i v hi)))
      clear hb hc HB2
      go_wp2_with fail
      refine (suits_any _).mono ?_
      rintro e w4 ⟨rfl, hb⟩
      have HC4 := Lib.hid (fun i v hi => cell_keep (HC3.out i v hi).1 hb)
      have HB4 := Lib.hid (bchain HB3.out hb)
      clear hb HB3 HC3
      go_wp2_with fail
      refine (swapped_any _).mono ?_
      rintro e w5 ⟨rfl, hb⟩
      have HC5 := Lib.hid (fun i v hi => cell_keep (HC4.out i v hi) hb)
      have HB5 := Lib.hid (bchain HB4.out hb)
      clear hb HB4 HC4
      go_wp2_with fail
      refine (suits_any _).mono ?_
      rintro e w6 ⟨rfl, hb⟩
      have HC6 := Lib.hid (fun i v hi => cell_keep (HC5.out i v hi) hb)
      have HB6 := Lib.hid (bchain HB5.out hb)
      clear hb HB5 HC5
      go_wp2_with fail
      have HDR := Lib.hid (dr_three w6)
      have HC7 := Lib.hid (fun i v hi => cell_keep (HC6.out i v hi) (below1 w6 (.cells #[.int .u64 8191, .int .u64 67100672, .int .u64 549688705024, .int .u64 4503049871556608, .int .u64 16382, .int .u64 67092481, .int .u64 549688705024, .int .u64 4503049871556608, .int .u64 8191, .int .u64 67100672, .int .u64 549688705024, .int .u64 4503049871556608] 24)))
      have HB7 := Lib.hid (bchain HB6.out (below1 w6 (.cells #[.int .u64 8191, .int .u64 67100672, .int .u64 549688705024, .int .u64 4503049871556608, .int .u64 16382, .int .u64 67092481, .int .u64 549688705024, .int .u64 4503049871556608, .int .u64 8191, .int .u64 67100672, .int .u64 549688705024, .int .u64 4503049871556608] 24)))
      clear HB6 HC6
      generalize w6.alloc (.cells #[.int .u64 8191, .int .u64 67100672, .int .u64 549688705024, .int .u64 4503049871556608, .int .u64 16382, .int .u64 67092481, .int .u64 549688705024, .int .u64 4503049871556608, .int .u64 8191, .int .u64 67100672, .int .u64 549688705024, .int .u64 4503049871556608] 24) = W7 at *
      refine (cls_ex _ _ HDR.out).mono ?_
      rintro e w8 ⟨g2, o2, c2, rfl, hb, k0, k1, k2⟩
      have HB8 := Lib.hid (bchain HB7.out hb)
      have x0 := cell_keep (HC7.out 0 _ rfl) hb
      have x1 := cell_keep (HC7.out 1 _ rfl) hb
      have x2 := cell_keep (HC7.out 2 _ rfl) hb
      have x3 := cell_keep (HC7.out 3 _ rfl) hb
      have x4 := cell_keep (HC7.out 4 _ rfl) hb
      have x5 := cell_keep (HC7.out 5 _ rfl) hb
      clear hb HB7 HC7 HDR
      go_wp2_with fail
      clear k0 k1 k2 x0 x1 x2 x3 x4 x5
      refine (suits_any _).mono ?_
      rintro e w9 ⟨rfl, hb⟩
      have HB9 := Lib.hid (bchain HB8.out hb)
      clear hb HB8
      go_wp2_with fail
      refine (btext_ex _ (HE.out.keep HB9.out)).mono ?_
      rintro e wA ⟨rfl, hb⟩
      have HBA := Lib.hid (bchain HB9.out hb)
      clear hb HB9
      go_wp2_with fail
      refine (bread_ex _ (HE.out.keep HBA.out)).mono ?_
      rintro e wB ⟨rfl, hb⟩
      have HBB := Lib.hid (bchain HBA.out hb)
      clear hb HBA
      go_wp2_with fail
      go_ret
      exact ⟨rfl, HBB.out⟩
end Go.Proofs.YtaadipccgckehaaGreatDoor
