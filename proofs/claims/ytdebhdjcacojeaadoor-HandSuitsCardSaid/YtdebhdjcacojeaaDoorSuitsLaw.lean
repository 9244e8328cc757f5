/- The walk of HandSuits. -/
import Derived.Test.YtdebhdjcacojeaaDoorAwake
import Derived.Test.YtdebhdjcacojeaaDoorSort
import Derived.Test.YtdebhdjcacojeaaDoorEq
import Derived.Test.YtdebhdjcacojeaaDoorQt
import Derived.Deep.QuietTactic
import Derived.BigQuiet
import Derived.BigRegion
import Derived.Laws.IdiomStrings
namespace Go.Proofs.YtdebhdjcacojeaaDoor
open Go.RowKit

theorem digit_str (n q : Nat) (wr : World) : (convert 36 9 (.slice (some ⟨wr.heap.size, 0, none⟩) 1 1)).run Tryd.prog ((wr.alloc (.cells #[.int .u8 (48 + (n : Int) % 10)] 5)).drewN q) =
    .ok (.string ⟨#[UInt8.ofNat (48 + n % 10)]⟩) ((wr.alloc (.cells #[.int .u8 (48 + (n : Int) % 10)] 5)).drewN q) :=
  run_convert_bytes_back _ _ _ 5 _ 1 [UInt8.ofNat (48 + n % 10)] (by kernel_rfl) (by kernel_rfl) (by kernel_rfl) (fun j hj => by
    obtain rfl : j = 0 := by simpa using hj
    have h2 : (UInt8.ofNat (48 + n % 10)).toNat = 48 + n % 10 := by simp; omega
    simp only [List.getElem_cons_zero, h2]
    simp [Addr.add])

set_option maxRecDepth 100000 in
set_option maxHeartbeats 6000000 in
theorem suitslaw_walk (m : Nat) (w : World) (ht : Tabs w) :
    Calls Tryd.prog 9 #[.int .u64 m] w fun e w' => e = .returned (.bool true) ∧ Below w.heap.size w w' := by
  obtain ⟨M, hM⟩ : ∃ M, M = m % 4503599627370496 := ⟨_, rfl⟩
  have eM : (m : Int) % 4503599627370496 = (M : Int) := by omega
  have hM1 : M < 18446744073709551616 := by omega
  clear hM
  obtain ⟨⟨a, b, c, d⟩, hq⟩ : ∃ q, sortTo (shp M) 4 = q := ⟨_, rfl⟩
  have hi : Inv w w := ⟨ht, Below.refl _ _⟩
  have HM := Lib.hid hM1
  have HQ := Lib.hid hq
  obtain ⟨ha, hb, hc, hd⟩ := sort_lt (shp M) a b c d hq
  obtain ⟨hab, hbc, hcd, hne⟩ := sort_ok (shp M) a b c d hq
  obtain ⟨o1, o2, o3, o4⟩ := met_to a b c d ha hb hc hd hne
  have hx : Hid (textTo (shp M) a b c d 4 = patL (shp M) (sortTo (shp M) 4)) := Lib.hid (by rw [hq]; exact textTo_4 _ _ _ _ _ (shp_le M a) (shp_le M b) (shp_le M c) (shp_le M d))
  clear hM1 hq hne
  have ta := two4 a ha
  have ia : (a : Int) < 4 := by omega
  have na : decide ((3 : Int) < (a : Int)) = false := decide_eq_false (by omega)
  have la := shp_le M a
  have tb := two4 b hb
  have ib : (b : Int) < 4 := by omega
  have nb : decide ((3 : Int) < (b : Int)) = false := decide_eq_false (by omega)
  have lb := shp_le M b
  have tc := two4 c hc
  have ic : (c : Int) < 4 := by omega
  have nc : decide ((3 : Int) < (c : Int)) = false := decide_eq_false (by omega)
  have lc := shp_le M c
  have td := two4 d hd
  have id : (d : Int) < 4 := by omega
  have nd : decide ((3 : Int) < (d : Int)) = false := decide_eq_false (by omega)
  have ld := shp_le M d
  have i0 := sdx0 (.int .u8 (a : Nat)) (.int .u8 (b : Nat)) (.int .u8 (c : Nat)) (.int .u8 (d : Nat))
  have i1 := sdx1 (.int .u8 (a : Nat)) (.int .u8 (b : Nat)) (.int .u8 (c : Nat)) (.int .u8 (d : Nat))
  have i2 := sdx2 (.int .u8 (a : Nat)) (.int .u8 (b : Nat)) (.int .u8 (c : Nat)) (.int .u8 (d : Nat))
  have i3 := sdx3 (.int .u8 (a : Nat)) (.int .u8 (b : Nat)) (.int .u8 (c : Nat)) (.int .u8 (d : Nat))
  go_enter Tryd.func9, Tryd.ntmps9
  go_wp2_with fail
  refine (shape_i M HM.out hi).mono ?_
  rintro e w1 ⟨rfl, h1⟩
  go_wp2_with fail
  refine (suits_i M a b c d HQ.out HM.out h1).mono ?_
  rintro e w2 ⟨rfl, h2⟩
  go_wp2_with fail
  have hB : Below w.heap.size w ((w2.alloc (.cells #[.int .i64 (shp M 0 : Nat), .int .i64 (shp M 1 : Nat), .int .i64 (shp M 2 : Nat), .int .i64 (shp M 3 : Nat)] 31)).alloc (.cells #[.int .u8 (a : Nat), .int .u8 (b : Nat), .int .u8 (c : Nat), .int .u8 (d : Nat)] 42)) := (h2.below.alloc h2.below.size _).alloc (by have := h2.below.size; simp; omega) _
  have hT : Tabs ((w2.alloc (.cells #[.int .i64 (shp M 0 : Nat), .int .i64 (shp M 1 : Nat), .int .i64 (shp M 2 : Nat), .int .i64 (shp M 3 : Nat)] 31)).alloc (.cells #[.int .u8 (a : Nat), .int .u8 (b : Nat), .int .u8 (c : Nat), .int .u8 (d : Nat)] 42)) := h2.tabs.keep (((Below.refl _ _).alloc (Nat.le_refl _) _).alloc (by simp) _)
  have gs : ∀ t, t < 4 → ((w2.alloc (.cells #[.int .i64 (shp M 0 : Nat), .int .i64 (shp M 1 : Nat), .int .i64 (shp M 2 : Nat), .int .i64 (shp M 3 : Nat)] 31)).alloc (.cells #[.int .u8 (a : Nat), .int .u8 (b : Nat), .int .u8 (c : Nat), .int .u8 (d : Nat)] 42)).cell? ⟨w2.heap.size, t, none⟩ = some (.int .i64 (shp M t : Nat)) := fun t ht => by
    rcases (by omega : t = 0 ∨ t = 1 ∨ t = 2 ∨ t = 3) with rfl | rfl | rfl | rfl <;> simp
  have k0 : ((w2.alloc (.cells #[.int .i64 (shp M 0 : Nat), .int .i64 (shp M 1 : Nat), .int .i64 (shp M 2 : Nat), .int .i64 (shp M 3 : Nat)] 31)).alloc (.cells #[.int .u8 (a : Nat), .int .u8 (b : Nat), .int .u8 (c : Nat), .int .u8 (d : Nat)] 42)).cell? ⟨w2.heap.size + 1, 0, none⟩ = some (.int .u8 (a : Nat)) := by simp
  have k1 : ((w2.alloc (.cells #[.int .i64 (shp M 0 : Nat), .int .i64 (shp M 1 : Nat), .int .i64 (shp M 2 : Nat), .int .i64 (shp M 3 : Nat)] 31)).alloc (.cells #[.int .u8 (a : Nat), .int .u8 (b : Nat), .int .u8 (c : Nat), .int .u8 (d : Nat)] 42)).cell? ⟨w2.heap.size + 1, 1, none⟩ = some (.int .u8 (b : Nat)) := by simp
  have k2 : ((w2.alloc (.cells #[.int .i64 (shp M 0 : Nat), .int .i64 (shp M 1 : Nat), .int .i64 (shp M 2 : Nat), .int .i64 (shp M 3 : Nat)] 31)).alloc (.cells #[.int .u8 (a : Nat), .int .u8 (b : Nat), .int .u8 (c : Nat), .int .u8 (d : Nat)] 42)).cell? ⟨w2.heap.size + 1, 2, none⟩ = some (.int .u8 (c : Nat)) := by simp
  have k3 : ((w2.alloc (.cells #[.int .i64 (shp M 0 : Nat), .int .i64 (shp M 1 : Nat), .int .i64 (shp M 2 : Nat), .int .i64 (shp M 3 : Nat)] 31)).alloc (.cells #[.int .u8 (a : Nat), .int .u8 (b : Nat), .int .u8 (c : Nat), .int .u8 (d : Nat)] 42)).cell? ⟨w2.heap.size + 1, 3, none⟩ = some (.int .u8 (d : Nat)) := by simp
  generalize (w2.alloc (.cells #[.int .i64 (shp M 0 : Nat), .int .i64 (shp M 1 : Nat), .int .i64 (shp M 2 : Nat), .int .i64 (shp M 3 : Nat)] 31)).alloc (.cells #[.int .u8 (a : Nat), .int .u8 (b : Nat), .int .u8 (c : Nat), .int .u8 (d : Nat)] 42) = W at *
  clear h1 h2 ht hi
  have q0 := w64_0
  have dg := digit_str
  have q1 := w64_1
  have q2 := w64_2
  go_loopw [5, 6, 16] (fun v5 v6 v16 wr => ∃ k : Nat, k ≤ 4 ∧ v16 = .int .i64 k ∧ v5 = .int .i64 (metTo a b c d k) ∧ v6 = .string ⟨(textTo (shp M) a b c d k).toArray⟩ ∧ Below W.heap.size W wr) (fun _ _ v16 _ => 4 - (intOf v16).toNat)
  case atStart => exact ⟨0, by omega, rfl, by rw [met0], by rw [text0], Below.refl _ _⟩
  case round =>
    obtain ⟨k, hk, rfl, rfl, rfl, hw⟩ := hrel
    have gr : ∀ t, t < 4 → wr.cell? ⟨w2.heap.size, t, none⟩ = some (.int .i64 (shp M t : Nat)) := fun t ht => (hw.cell (World.block_lt_of_cell? W _ (gs t ht))).trans (gs t ht)
    have r0 := (hw.cell (World.block_lt_of_cell? W _ k0)).trans k0
    have r1 := (hw.cell (World.block_lt_of_cell? W _ k1)).trans k1
    have r2 := (hw.cell (World.block_lt_of_cell? W _ k2)).trans k2
    have r3 := (hw.cell (World.block_lt_of_cell? W _ k3)).trans k3
    have ga := gr a ha
    have gb := gr b hb
    have gc := gr c hc
    have gd := gr d hd
    clear gr gs k0 k1 k2 k3
    rcases (by omega : k = 0 ∨ k = 1 ∨ k = 2 ∨ k = 3 ∨ k = 4) with rfl | rfl | rfl | rfl | rfl
    · have TX := Lib.hid (text1 (shp M) a b c d)
      obtain ⟨T, hTd⟩ : ∃ T, T = textTo (shp M) a b c d 0 := ⟨_, rfl⟩
      obtain ⟨m0, hm0⟩ : ∃ T, T = metTo a b c d 0 := ⟨_, rfl⟩
      obtain ⟨m1, hm1⟩ : ∃ T, T = metTo a b c d 1 := ⟨_, rfl⟩
      have MX := Lib.hid hm1
      have zt : T.length ≤ 11 := by rw [hTd]; exact text_len ..
      have z1 : ¬ 9223372036854775807 < T.length + 1 := by omega
      have z2 : ¬ 9223372036854775807 < T.length + 1 + 1 := by omega
      have z3 : ¬ 9223372036854775807 < T.length + 1 + 1 + 1 := by omega
      have TD := Lib.hid hTd
      rw [← hm0, ← hm1] at o1
      rw [← hm0, ← hTd]
      clear hm0 hm1 hTd
      clear o2
      clear o3
      clear o4
      go_wp2_with fail
      go_quiet (fail)
      rcases Nat.lt_or_ge 9 (shp M a) with h9 | h9
      · have f9 : decide ((9 : Int) < ((shp M a : Nat) : Int)) = true := decide_eq_true (by omega)
        go_wp2_with fail
        exact ⟨⟨1, by omega, rfl, by rw [MX.out], by rw [TX.out, ← TD.out, digT_hi _ h9]; exact congrArg Value.string (ByteArray.ext (by simp)), below_drewN (hw.alloc hw.size _) _⟩, by simp [intOf]⟩
      · have f9 : decide ((9 : Int) < ((shp M a : Nat) : Int)) = false := decide_eq_false (by omega)
        go_wp2_with fail
        exact ⟨⟨1, by omega, rfl, by rw [MX.out], by rw [TX.out, ← TD.out, digT_lo _ (Nat.not_lt.2 h9)]; exact congrArg Value.string (ByteArray.ext (by simp)), below_drewN (hw.alloc hw.size _) _⟩, by simp [intOf]⟩
    · have TX := Lib.hid (text2 (shp M) a b c d)
      obtain ⟨T, hTd⟩ : ∃ T, T = textTo (shp M) a b c d 1 := ⟨_, rfl⟩
      obtain ⟨m0, hm0⟩ : ∃ T, T = metTo a b c d 1 := ⟨_, rfl⟩
      obtain ⟨m1, hm1⟩ : ∃ T, T = metTo a b c d 2 := ⟨_, rfl⟩
      have MX := Lib.hid hm1
      have zt : T.length ≤ 11 := by rw [hTd]; exact text_len ..
      have z1 : ¬ 9223372036854775807 < T.length + 1 := by omega
      have z2 : ¬ 9223372036854775807 < T.length + 1 + 1 := by omega
      have z3 : ¬ 9223372036854775807 < T.length + 1 + 1 + 1 := by omega
      have TD := Lib.hid hTd
      rw [← hm0, ← hm1] at o2
      rw [← hm0, ← hTd]
      clear hm0 hm1 hTd
      clear o1
      clear o3
      clear o4
      rcases hab with hc | ⟨hc, hc2⟩
      · have f1 : decide (shp M a < shp M b) = false := decide_eq_false (by omega)
        have f2 : (((shp M b : Nat) : Int) == ((shp M a : Nat) : Int)) = false := beq_eq_false_iff_ne.2 (by omega)
        clear hc
        go_wp2_with fail
        go_quiet (fail)
        rcases Nat.lt_or_ge 9 (shp M b) with h9 | h9
        · have f9 : decide ((9 : Int) < ((shp M b : Nat) : Int)) = true := decide_eq_true (by omega)
          go_wp2_with fail
          exact ⟨⟨2, by omega, rfl, by rw [MX.out], by rw [TX.out, ← TD.out, digT_hi _ h9]; exact congrArg Value.string (ByteArray.ext (by simp)), below_drewN (hw.alloc hw.size _) _⟩, by simp [intOf]⟩
        · have f9 : decide ((9 : Int) < ((shp M b : Nat) : Int)) = false := decide_eq_false (by omega)
          go_wp2_with fail
          exact ⟨⟨2, by omega, rfl, by rw [MX.out], by rw [TX.out, ← TD.out, digT_lo _ (Nat.not_lt.2 h9)]; exact congrArg Value.string (ByteArray.ext (by simp)), below_drewN (hw.alloc hw.size _) _⟩, by simp [intOf]⟩
      
      · have f1 : decide (shp M a < shp M b) = false := decide_eq_false (by omega)
        have f2 : (((shp M b : Nat) : Int) == ((shp M a : Nat) : Int)) = true := by simp [hc]
        have f3 : decide (a < b) = false := decide_eq_false (by omega)
        clear hc2
        clear hc
        go_wp2_with fail
        go_quiet (fail)
        rcases Nat.lt_or_ge 9 (shp M b) with h9 | h9
        · have f9 : decide ((9 : Int) < ((shp M b : Nat) : Int)) = true := decide_eq_true (by omega)
          go_wp2_with fail
          exact ⟨⟨2, by omega, rfl, by rw [MX.out], by rw [TX.out, ← TD.out, digT_hi _ h9]; exact congrArg Value.string (ByteArray.ext (by simp)), below_drewN (hw.alloc hw.size _) _⟩, by simp [intOf]⟩
        · have f9 : decide ((9 : Int) < ((shp M b : Nat) : Int)) = false := decide_eq_false (by omega)
          go_wp2_with fail
          exact ⟨⟨2, by omega, rfl, by rw [MX.out], by rw [TX.out, ← TD.out, digT_lo _ (Nat.not_lt.2 h9)]; exact congrArg Value.string (ByteArray.ext (by simp)), below_drewN (hw.alloc hw.size _) _⟩, by simp [intOf]⟩
    · have TX := Lib.hid (text3 (shp M) a b c d)
      obtain ⟨T, hTd⟩ : ∃ T, T = textTo (shp M) a b c d 2 := ⟨_, rfl⟩
      obtain ⟨m0, hm0⟩ : ∃ T, T = metTo a b c d 2 := ⟨_, rfl⟩
      obtain ⟨m1, hm1⟩ : ∃ T, T = metTo a b c d 3 := ⟨_, rfl⟩
      have MX := Lib.hid hm1
      have zt : T.length ≤ 11 := by rw [hTd]; exact text_len ..
      have z1 : ¬ 9223372036854775807 < T.length + 1 := by omega
      have z2 : ¬ 9223372036854775807 < T.length + 1 + 1 := by omega
      have z3 : ¬ 9223372036854775807 < T.length + 1 + 1 + 1 := by omega
      have TD := Lib.hid hTd
      rw [← hm0, ← hm1] at o3
      rw [← hm0, ← hTd]
      clear hm0 hm1 hTd
      clear o1
      clear o2
      clear o4
      rcases hbc with hc | ⟨hc, hc2⟩
      · have f1 : decide (shp M b < shp M c) = false := decide_eq_false (by omega)
        have f2 : (((shp M c : Nat) : Int) == ((shp M b : Nat) : Int)) = false := beq_eq_false_iff_ne.2 (by omega)
        clear hc
        go_wp2_with fail
        go_quiet (fail)
        rcases Nat.lt_or_ge 9 (shp M c) with h9 | h9
        · have f9 : decide ((9 : Int) < ((shp M c : Nat) : Int)) = true := decide_eq_true (by omega)
          go_wp2_with fail
          exact ⟨⟨3, by omega, rfl, by rw [MX.out], by rw [TX.out, ← TD.out, digT_hi _ h9]; exact congrArg Value.string (ByteArray.ext (by simp)), below_drewN (hw.alloc hw.size _) _⟩, by simp [intOf]⟩
        · have f9 : decide ((9 : Int) < ((shp M c : Nat) : Int)) = false := decide_eq_false (by omega)
          go_wp2_with fail
          exact ⟨⟨3, by omega, rfl, by rw [MX.out], by rw [TX.out, ← TD.out, digT_lo _ (Nat.not_lt.2 h9)]; exact congrArg Value.string (ByteArray.ext (by simp)), below_drewN (hw.alloc hw.size _) _⟩, by simp [intOf]⟩
      
      · have f1 : decide (shp M b < shp M c) = false := decide_eq_false (by omega)
        have f2 : (((shp M c : Nat) : Int) == ((shp M b : Nat) : Int)) = true := by simp [hc]
        have f3 : decide (b < c) = false := decide_eq_false (by omega)
        clear hc2
        clear hc
        go_wp2_with fail
        go_quiet (fail)
        rcases Nat.lt_or_ge 9 (shp M c) with h9 | h9
        · have f9 : decide ((9 : Int) < ((shp M c : Nat) : Int)) = true := decide_eq_true (by omega)
          go_wp2_with fail
          exact ⟨⟨3, by omega, rfl, by rw [MX.out], by rw [TX.out, ← TD.out, digT_hi _ h9]; exact congrArg Value.string (ByteArray.ext (by simp)), below_drewN (hw.alloc hw.size _) _⟩, by simp [intOf]⟩
        · have f9 : decide ((9 : Int) < ((shp M c : Nat) : Int)) = false := decide_eq_false (by omega)
          go_wp2_with fail
          exact ⟨⟨3, by omega, rfl, by rw [MX.out], by rw [TX.out, ← TD.out, digT_lo _ (Nat.not_lt.2 h9)]; exact congrArg Value.string (ByteArray.ext (by simp)), below_drewN (hw.alloc hw.size _) _⟩, by simp [intOf]⟩
    · have TX := Lib.hid (text4 (shp M) a b c d)
      obtain ⟨T, hTd⟩ : ∃ T, T = textTo (shp M) a b c d 3 := ⟨_, rfl⟩
      obtain ⟨m0, hm0⟩ : ∃ T, T = metTo a b c d 3 := ⟨_, rfl⟩
      obtain ⟨m1, hm1⟩ : ∃ T, T = metTo a b c d 4 := ⟨_, rfl⟩
      have MX := Lib.hid hm1
      have zt : T.length ≤ 11 := by rw [hTd]; exact text_len ..
      have z1 : ¬ 9223372036854775807 < T.length + 1 := by omega
      have z2 : ¬ 9223372036854775807 < T.length + 1 + 1 := by omega
      have z3 : ¬ 9223372036854775807 < T.length + 1 + 1 + 1 := by omega
      have TD := Lib.hid hTd
      rw [← hm0, ← hm1] at o4
      rw [← hm0, ← hTd]
      clear hm0 hm1 hTd
      clear o1
      clear o2
      clear o3
      rcases hcd with hc | ⟨hc, hc2⟩
      · have f1 : decide (shp M c < shp M d) = false := decide_eq_false (by omega)
        have f2 : (((shp M d : Nat) : Int) == ((shp M c : Nat) : Int)) = false := beq_eq_false_iff_ne.2 (by omega)
        clear hc
        go_wp2_with fail
        go_quiet (fail)
        rcases Nat.lt_or_ge 9 (shp M d) with h9 | h9
        · have f9 : decide ((9 : Int) < ((shp M d : Nat) : Int)) = true := decide_eq_true (by omega)
          go_wp2_with fail
          exact ⟨⟨4, by omega, rfl, by rw [MX.out], by rw [TX.out, ← TD.out, digT_hi _ h9]; exact congrArg Value.string (ByteArray.ext (by simp)), below_drewN (hw.alloc hw.size _) _⟩, by simp [intOf]⟩
        · have f9 : decide ((9 : Int) < ((shp M d : Nat) : Int)) = false := decide_eq_false (by omega)
          go_wp2_with fail
          exact ⟨⟨4, by omega, rfl, by rw [MX.out], by rw [TX.out, ← TD.out, digT_lo _ (Nat.not_lt.2 h9)]; exact congrArg Value.string (ByteArray.ext (by simp)), below_drewN (hw.alloc hw.size _) _⟩, by simp [intOf]⟩
      
      · have f1 : decide (shp M c < shp M d) = false := decide_eq_false (by omega)
        have f2 : (((shp M d : Nat) : Int) == ((shp M c : Nat) : Int)) = true := by simp [hc]
        have f3 : decide (c < d) = false := decide_eq_false (by omega)
        clear hc2
        clear hc
        go_wp2_with fail
        go_quiet (fail)
        rcases Nat.lt_or_ge 9 (shp M d) with h9 | h9
        · have f9 : decide ((9 : Int) < ((shp M d : Nat) : Int)) = true := decide_eq_true (by omega)
          go_wp2_with fail
          exact ⟨⟨4, by omega, rfl, by rw [MX.out], by rw [TX.out, ← TD.out, digT_hi _ h9]; exact congrArg Value.string (ByteArray.ext (by simp)), below_drewN (hw.alloc hw.size _) _⟩, by simp [intOf]⟩
        · have f9 : decide ((9 : Int) < ((shp M d : Nat) : Int)) = false := decide_eq_false (by omega)
          go_wp2_with fail
          exact ⟨⟨4, by omega, rfl, by rw [MX.out], by rw [TX.out, ← TD.out, digT_lo _ (Nat.not_lt.2 h9)]; exact congrArg Value.string (ByteArray.ext (by simp)), below_drewN (hw.alloc hw.size _) _⟩, by simp [intOf]⟩
    · have e4 := met4 a b c d
      rw [e4, hx.out]
      have h3 : Inv w wr := ⟨hT.keep hw, hB.trans (hw.mono hB.size)⟩
      go_wp2_with (first
        | (go_at_call 20; refine (pattern_i M HM.out h3).mono ?_; rintro e w3 ⟨rfl, h4⟩)
        | (go_at_call 14; refine (awake_i h4).mono ?_; rintro e w4 ⟨rfl, h5⟩))
      go_ret
      exact ⟨rfl, h5.below⟩
end Go.Proofs.YtdebhdjcacojeaaDoor
