/- The contract of the reference's Read. -/
import Derived.Test.YtgmofikhndlhcaaDoorRefE
import Derived.Test.YtgmofikhndlhcaaDoorReadP
namespace Go.Proofs.YtgmofikhndlhcaaDoor
open Go.RowKit

theorem fits_eq (L : List UInt8) (l d r q : Nat) : fits L l d r q = ((textR l d r q).2 == 0 && (textR l d r q).1 == L) := by unfold fits; rfl
theorem own4 {w0 w : World} {b : Nat} {t : TypeId} {c : Array Value} {v0 v1 v2 v3 : Value} (h : Own w0 w b t c) (hb : w0.heap.size ≤ b) : Below w0.heap.size w0 ((((w.setCell ⟨b, 0, none⟩ v0).setCell ⟨b, 1, none⟩ v1).setCell ⟨b, 2, none⟩ v2).setCell ⟨b, 3, none⟩ v3) := set4 h.below hb
set_option maxRecDepth 100000 in
set_option maxHeartbeats 8000000 in
theorem rread_any (s : ByteArray) (w : World) : Calls Tryd.prog 33 #[.string s] w (ReadPost s.data.toList w) := by
  obtain ⟨L, hL⟩ : ∃ L, L = s.data.toList := ⟨_, rfl⟩
  rw [← hL]
  have HLs : Hid (s.toList = L) := Lib.hid (by rw [ByteArray.toList_eq, hL])
  clear hL
  go_enter Tryd.func33, Tryd.ntmps33
  go_upto_region 1 with fail
  have h0 := Own.start w 23 #[.int .u8 0, .int .u8 0, .int .u8 0, .int .u8 0]
  have hbz : w.heap.size ≤ w.heap.size := Nat.le_refl _
  generalize w.alloc (.cells #[.int .u8 0, .int .u8 0, .int .u8 0, .int .u8 0] 23) = W0 at *
  generalize hb0 : w.heap.size = b0 at h0
  have hbb : w.heap.size ≤ b0 := by omega
  clear hb0 hbz
  go_wp2_with fail
  go_loopw [4] (fun v4 wr => ∃ l : Nat, l ≤ 8 ∧ v4 = .int .u8 l ∧ (∀ x, x < l * 60 → fitsI L x = false) ∧ Own w wr b0 23 #[.int .u8 0, .int .u8 0, .int .u8 0, .int .u8 0]) (fun v4 _ => 8 - (intOf v4).toNat)
  case atStart => exact ⟨0, by omega, rfl, fun x hx => absurd hx (by omega), h0⟩
  case round =>
    obtain ⟨l, hl, rfl, hm, hi⟩ := hrel
    clear h0
    obtain ⟨wo1, rfl⟩ : ∃ wo : World, wo = wr := ⟨_, rfl⟩
    have HM1 := Lib.hid hm
    have HI1 := Lib.hid hi
    clear hm hi
    by_cases hlt : l < 8
    · have HL1 := Lib.hid hlt
      have tl1 : decide ((l : Int) < 8) = true := decide_eq_true (by omega)
      go_wp2_with fail
      go_loopw [5] (fun v5 wr => ∃ d : Nat, d ≤ 5 ∧ v5 = .int .u8 d ∧ (∀ x, x < l * 60 + d * 12 → fitsI L x = false) ∧ Own w wr b0 23 #[.int .u8 0, .int .u8 0, .int .u8 0, .int .u8 0]) (fun v5 _ => 5 - (intOf v5).toNat)
      case atStart => exact ⟨0, by omega, rfl, fun x hx => HM1.out x (by omega), HI1.out⟩
      case round =>
        obtain ⟨d, hd, rfl, hm, hi⟩ := hrel
        clear HM1 HI1
        obtain ⟨wo2, rfl⟩ : ∃ wo : World, wo = wr := ⟨_, rfl⟩
        have HM2 := Lib.hid hm
        have HI2 := Lib.hid hi
        clear hm hi
        by_cases hlt2 : d < 5
        · have HL2 := Lib.hid hlt2
          have tl2 : decide ((d : Int) < 5) = true := decide_eq_true (by omega)
          go_wp2_with fail
          go_loopw [6] (fun v6 wr => ∃ r : Nat, r ≤ 3 ∧ v6 = .int .u8 r ∧ (∀ x, x < l * 60 + d * 12 + r * 4 → fitsI L x = false) ∧ Own w wr b0 23 #[.int .u8 0, .int .u8 0, .int .u8 0, .int .u8 0]) (fun v6 _ => 3 - (intOf v6).toNat)
          case atStart => exact ⟨0, by omega, rfl, fun x hx => HM2.out x (by omega), HI2.out⟩
          case round =>
            obtain ⟨r, hr, rfl, hm, hi⟩ := hrel
            clear HM2 HI2
            obtain ⟨wo3, rfl⟩ : ∃ wo : World, wo = wr := ⟨_, rfl⟩
            have HM3 := Lib.hid hm
            have HI3 := Lib.hid hi
            clear hm hi
            by_cases hlt3 : r < 3
            · have HL3 := Lib.hid hlt3
              have tl3 : decide ((r : Int) < 3) = true := decide_eq_true (by omega)
              go_wp2_with fail
              go_loopw [7] (fun v7 wr => ∃ q : Nat, q ≤ 4 ∧ v7 = .int .u8 q ∧ (∀ x, x < l * 60 + d * 12 + r * 4 + q → fitsI L x = false) ∧ Own w wr b0 23 #[.int .u8 0, .int .u8 0, .int .u8 0, .int .u8 0]) (fun v7 _ => 4 - (intOf v7).toNat)
              case atStart => exact ⟨0, by omega, rfl, fun x hx => HM3.out x (by omega), HI3.out⟩
              case round =>
                obtain ⟨q, hq, rfl, hm, hi⟩ := hrel
                clear HM3 HI3
                obtain ⟨wo4, rfl⟩ : ∃ wo : World, wo = wr := ⟨_, rfl⟩
                have HM4 := Lib.hid hm
                have HI4 := Lib.hid hi
                clear hm hi
                by_cases hlt4 : q < 4
                · have HL4 := Lib.hid hlt4
                  have tl4 : decide ((q : Int) < 4) = true := decide_eq_true (by omega)
                  go_wp2_with fail
                  have hC : Own w (wo4.alloc (.cells #[.int .u8 (l : Nat), .int .u8 (d : Nat), .int .u8 (r : Nat), .int .u8 (q : Nat)] 23)) b0 23 #[.int .u8 0, .int .u8 0, .int .u8 0, .int .u8 0] := HI4.out.keep ((Below.refl _ _).alloc (Nat.le_refl _) _)
                  have hB : Blk (wo4.alloc (.cells #[.int .u8 (l : Nat), .int .u8 (d : Nat), .int .u8 (r : Nat), .int .u8 (q : Nat)] 23)) wo4.heap.size 23 #[.int .u8 (l : Nat), .int .u8 (d : Nat), .int .u8 (r : Nat), .int .u8 (q : Nat)] := Blk.new _ _ _
                  have HC := Lib.hid hC
                  have HB := Lib.hid hB
                  clear hC hB
                  have hf := fitsI_at L l d r q (by omega) (by omega) (by omega)
                  rw [fits_eq] at hf
                  obtain ⟨⟨S, er⟩, hS⟩ : ∃ x, x = textR l d r q := ⟨_, rfl⟩
                  rw [← hS] at hf
                  simp only at hf
                  have TC : Hid (∀ w, Calls Tryd.prog 30 #[.agg #[.int .u8 (l : Nat), .int .u8 (d : Nat), .int .u8 (r : Nat), .int .u8 (q : Nat)]] w fun e w' => e = .returned (.tuple #[.string ⟨S.toArray⟩, .int .i64 er]) ∧ Below w.heap.size w w') := Lib.hid fun w => (rtext_any l d r q w).mono fun e w' ⟨he, hb⟩ => ⟨by rw [he, ← hS], hb⟩
                  have HF := Lib.hid hf
                  clear hf hS
                  refine (TC.out _).mono ?_
                  rintro e w5 ⟨rfl, hb⟩
                  have h5 := HC.out.keep hb
                  have k5 := HB.out.keep hb HB.out.lt
                  generalize wo4.heap.size = bc at *
                  have H5 := Lib.hid h5
                  have K5 := Lib.hid k5
                  clear h5 k5 hb HC HB
                  have e0 := HLs.out
                  cases hfit : fitsI L (l * 60 + d * 12 + r * 4 + q)
                  · have HN := Lib.hid hfit
                    rw [HF.out] at hfit
                    have hrel' : ∀ x, x < l * 60 + d * 12 + r * 4 + (q + 1) → fitsI L x = false := fun x hx => by
                      rcases Nat.lt_or_ge x (l * 60 + d * 12 + r * 4 + q) with h | h
                      · exact HM4.out x h
                      · obtain rfl : x = l * 60 + d * 12 + r * 4 + q := by omega
                        exact HN.out
                    have HRL := Lib.hid hrel'
                    clear hrel'
                    by_cases he : er = 0
                    · have t0 : (er == 0) = true := beq_iff_eq.2 he
                      have t1 : (S == L) = false := by rw [t0, Bool.true_and] at hfit; exact hfit
                      clear hfit he
                      go_wp2_with fail
                      first
                        | exact ⟨⟨q + 1, by omega, by go_num, HRL.out, H5.out⟩, by simp [intOf]; omega⟩
                        | (refine ⟨?_, by simp [intOf]; omega⟩; (repeat apply Exists.intro); exact ⟨⟨q + 1, by omega, by go_num, HRL.out, H5.out⟩, rfl⟩)
                    · have t0 : (er == 0) = false := beq_eq_false_iff_ne.2 he
                      clear hfit he
                      go_wp2_with fail
                      first
                        | exact ⟨⟨q + 1, by omega, by go_num, HRL.out, H5.out⟩, by simp [intOf]; omega⟩
                        | (refine ⟨?_, by simp [intOf]; omega⟩; (repeat apply Exists.intro); exact ⟨⟨q + 1, by omega, by go_num, HRL.out, H5.out⟩, rfl⟩)
                  · have hR : Hid (readP L = ((l, d, r, q), 0)) := Lib.hid (fits_read L l d r q (by rw [← fitsI_at L l d r q (by have := HL2.out; omega) (by have := HL3.out; omega) (by have := HL4.out; omega)]; exact hfit))
                    rw [HF.out, Bool.and_eq_true] at hfit
                    have t0 : (er == 0) = true := hfit.1
                    have t1 : (S == L) = true := hfit.2
                    clear hfit
                    have y0 := K5.out.cell (j := 0) (v := .int .u8 (l : Nat)) rfl
                    have y1 := K5.out.cell (j := 1) (v := .int .u8 (d : Nat)) rfl
                    have y2 := K5.out.cell (j := 2) (v := .int .u8 (r : Nat)) rfl
                    have y3 := K5.out.cell (j := 3) (v := .int .u8 (q : Nat)) rfl
                    have x0 := H5.out.blk.cell (j := 0) (v := .int .u8 0) rfl
                    have x1 := H5.out.blk.cell (j := 1) (v := .int .u8 0) rfl
                    have x2 := H5.out.blk.cell (j := 2) (v := .int .u8 0) rfl
                    have x3 := H5.out.blk.cell (j := 3) (v := .int .u8 0) rfl
                    have z0 := H5.out.blk.free 0
                    have z1 := H5.out.blk.free 1
                    have z2 := H5.out.blk.free 2
                    have z3 := H5.out.blk.free 3
                    go_wp2_with fail
                    refine bodyPost_ret (v := .tuple #[.agg #[.int .u8 (l : Nat), .int .u8 (d : Nat), .int .u8 (r : Nat), .int .u8 (q : Nat)], .int .i64 0]) (by simp [results, Tryd.results33, go_sem, x0, x1, x2, x3]) rfl (readPost_mk _ _ _ _ hR.out _ rfl ?_)
                    exact own4 H5.out hbb
                · obtain rfl : q = 4 := by omega
                  go_wp2_with fail
                  have hrel' : ∀ x, x < l * 60 + d * 12 + (r + 1) * 4 → fitsI L x = false := fun x hx => HM4.out x (by omega)
                  first
                    | exact ⟨⟨r + 1, by omega, by go_num, hrel', HI4.out⟩, by simp [intOf]; omega⟩
                    | (refine ⟨?_, by simp [intOf]; omega⟩; (repeat apply Exists.intro); exact ⟨⟨r + 1, by omega, by go_num, hrel', HI4.out⟩, rfl⟩)
            · obtain rfl : r = 3 := by omega
              go_wp2_with fail
              have hrel' : ∀ x, x < l * 60 + (d + 1) * 12 → fitsI L x = false := fun x hx => HM3.out x (by omega)
              first
                | exact ⟨⟨d + 1, by omega, by go_num, hrel', HI3.out⟩, by simp [intOf]; omega⟩
                | (refine ⟨?_, by simp [intOf]; omega⟩; (repeat apply Exists.intro); exact ⟨⟨d + 1, by omega, by go_num, hrel', HI3.out⟩, rfl⟩)
        · obtain rfl : d = 5 := by omega
          go_wp2_with fail
          have hrel' : ∀ x, x < (l + 1) * 60 → fitsI L x = false := fun x hx => HM2.out x (by omega)
          first
            | exact ⟨⟨l + 1, by omega, by go_num, hrel', HI2.out⟩, by simp [intOf]; omega⟩
            | (refine ⟨?_, by simp [intOf]; omega⟩; (repeat apply Exists.intro); exact ⟨⟨l + 1, by omega, by go_num, hrel', HI2.out⟩, rfl⟩)
    · obtain rfl : l = 8 := by omega
      have hR : Hid (readP L = badR) := Lib.hid (fits_none L (fun i hi => HM1.out i (by omega)))
      have x0 := HI1.out.blk.cell (j := 0) (v := .int .u8 0) rfl
      have x1 := HI1.out.blk.cell (j := 1) (v := .int .u8 0) rfl
      have x2 := HI1.out.blk.cell (j := 2) (v := .int .u8 0) rfl
      have x3 := HI1.out.blk.cell (j := 3) (v := .int .u8 0) rfl
      have z0 := HI1.out.blk.free 0
      have z1 := HI1.out.blk.free 1
      have z2 := HI1.out.blk.free 2
      have z3 := HI1.out.blk.free 3
      go_wp2_with fail
      refine bodyPost_ret (v := .tuple #[.agg #[.int .u8 0, .int .u8 0, .int .u8 0, .int .u8 0], .int .i64 170]) (by simp [results, Tryd.results33, go_sem, x0, x1, x2, x3]) rfl (readPost_mk _ _ _ badR hR.out _ rfl ?_)
      exact own4 HI1.out hbb
end Go.Proofs.YtgmofikhndlhcaaDoor
