/- The contract of the reference's Parse. -/
import Derived.Test.YtgmofikhndlhcaaDoorRefF
namespace Go.Proofs.YtgmofikhndlhcaaDoor
open Go.RowKit

theorem parseR_pass (s : ByteArray) (h : s.data.toList = [112, 97, 115, 115]) : parseP s = (((0, 0, 0, 0), 0), 0) := by
  rw [parse_eq]; unfold parseR; rw [if_pos (beq_iff_eq.2 h)]
theorem parseR_none (s : ByteArray) (h : ¬ s.data.toList = [112, 97, 115, 115]) (hi : Lib.lastIndexByte s 32 < 0) : parseP s = badP := by
  rw [parse_eq]; unfold parseR; rw [if_neg (by rw [beq_iff_eq]; exact h), if_pos hi]
theorem parseR_some (s : ByteArray) (h : ¬ s.data.toList = [112, 97, 115, 115]) (i : Nat) (hi : Lib.lastIndexByte s 32 = i) :
    parseP s = if (readP (s.extract 0 i).data.toList).2 != 0 then badP else parseQ (readP (s.extract 0 i).data.toList).1 s.data.toList := by
  rw [parse_eq]; unfold parseR; rw [if_neg (by rw [beq_iff_eq]; exact h), hi, if_neg (by omega), Int.toNat_natCast]
theorem hit_eq2 (c : Con) (L : List UInt8) (k : Nat) : hit c L k = ((writeP c.1 c.2.1 c.2.2.1 c.2.2.2 k).2 == 0 && (writeP c.1 c.2.1 c.2.2.1 c.2.2.2 k).1 == L) := by unfold hit; rfl
theorem lastIndex_eq (s : ByteArray) : Lib.lastIndexByte s 32 = Lib.lastIdx s 32 s.size := rfl
theorem lastIdx_le (s : ByteArray) (k : Nat) : -1 ≤ Lib.lastIdx s 32 k ∧ Lib.lastIdx s 32 k < k := by
  rcases Lib.lastIdx_spec s 32 k with ⟨h, _⟩ | ⟨i, h1, h2, _⟩ <;> omega
theorem getD_at (s : ByteArray) (k : Nat) (h : k < s.size) : s.data[k]! = s[k] := getElem!_pos s.data k h
set_option maxRecDepth 100000 in
set_option maxHeartbeats 8000000 in
theorem rparse_any (s : ByteArray) (w : World) (hs : s.size < 4611686018427387904) : Calls Tryd.prog 34 #[.string s] w (ParsePost s w) := by
  obtain ⟨L, hL⟩ : ∃ L, L = s.data.toList := ⟨_, rfl⟩
  have hLs : s.toList = L := by rw [ByteArray.toList_eq, hL]
  by_cases hp : s.data.toList = [112, 97, 115, 115]
  · have hP := Lib.hid (parseR_pass s hp)
    have t0 : (s.toList == [112, 97, 115, 115]) = true := by rw [hLs, hL, hp]; rfl
    clear hp hL hLs
    go_enter Tryd.func34, Tryd.ntmps34
    go_upto_region 1 with fail
    have h0 := Own.start w 23 #[.int .u8 0, .int .u8 0, .int .u8 0, .int .u8 0]
    have hbz : w.heap.size ≤ w.heap.size := Nat.le_refl _
    generalize w.alloc (.cells #[.int .u8 0, .int .u8 0, .int .u8 0, .int .u8 0] 23) = W0 at *
    generalize hb0 : w.heap.size = b0 at h0
    have hbb : w.heap.size ≤ b0 := by omega
    clear hb0 hbz
    have x0 := h0.blk.cell (j := 0) (v := .int .u8 0) rfl
    have x1 := h0.blk.cell (j := 1) (v := .int .u8 0) rfl
    have x2 := h0.blk.cell (j := 2) (v := .int .u8 0) rfl
    have x3 := h0.blk.cell (j := 3) (v := .int .u8 0) rfl
    have z0 := h0.blk.free 0
    have z1 := h0.blk.free 1
    have z2 := h0.blk.free 2
    have z3 := h0.blk.free 3
    go_wp2_with fail
    refine bodyPost_ret (v := .tuple #[.agg #[.int .u8 0, .int .u8 0, .int .u8 0, .int .u8 0], .int .i64 0, .int .i64 0]) (by simp [results, Tryd.results34, go_sem, x0, x1, x2, x3]) rfl (parsePost_mk _ _ _ _ hP.out _ rfl ?_)
    exact own4 h0 hbb
  · have t0 : (s.toList == [112, 97, 115, 115]) = false := by rw [hLs, hL]; exact beq_eq_false_iff_ne.2 hp
    have HLs := Lib.hid hLs
    have HL := Lib.hid hL
    have HNP := Lib.hid hp
    clear hp hL hLs
    go_enter Tryd.func34, Tryd.ntmps34
    go_upto_region 1 with fail
    have h0 := Own.start w 23 #[.int .u8 0, .int .u8 0, .int .u8 0, .int .u8 0]
    have hbz : w.heap.size ≤ w.heap.size := Nat.le_refl _
    generalize w.alloc (.cells #[.int .u8 0, .int .u8 0, .int .u8 0, .int .u8 0] 23) = W0 at *
    generalize hb0 : w.heap.size = b0 at h0
    have hbb : w.heap.size ≤ b0 := by omega
    clear hb0 hbz
    have H0 := Lib.hid h0
    clear h0
    go_wp2_with fail
    have hn1 : Lib.lastIdx s 32 0 = -1 := by unfold Lib.lastIdx; rfl
    have HN1 := Lib.hid hn1
    clear hn1
    go_loop [5, 6] (fun v5 v6 => ∃ k : Nat, k ≤ s.size ∧ v5 = .int .i64 (Lib.lastIdx s 32 k) ∧ v6 = .int .i64 k) (fun _ v6 => s.size - (intOf v6).toNat)
    case atStart => exact ⟨0, by omega, by rw [HN1.out], rfl⟩
    case round =>
      obtain ⟨k, hk, rfl, rfl⟩ := hrel
      by_cases hlt : k < s.size
      · have hg := getD_at s k hlt
        by_cases hc : ((s[k].toNat : Nat) : Int) = 32
        · have hx := Lib.hid (Lib.lastIdx_hit s 32 k (by rw [hg]; exact hc))
          have t1 : (((s[k].toNat : Nat) : Int) == 32) = true := beq_iff_eq.2 hc
          clear hg hc
          go_wp2_with fail
          exact ⟨⟨k + 1, by omega, by rw [hx.out], by go_num⟩, by simp [intOf]; omega⟩
        · have hx := Lib.hid (Lib.lastIdx_miss s 32 k (by rw [hg]; exact hc))
          have t1 : (((s[k].toNat : Nat) : Int) == 32) = false := beq_eq_false_iff_ne.2 hc
          clear hg hc
          go_wp2_with fail
          exact ⟨⟨k + 1, by omega, by rw [hx.out], by go_num⟩, by simp [intOf]; omega⟩
      · obtain rfl : k = s.size := by omega
        have hb := lastIdx_le s s.size
        obtain ⟨I, hI⟩ : ∃ I, I = Lib.lastIdx s 32 s.size := ⟨_, rfl⟩
        rw [← hI] at hb ⊢
        have HI : Hid (Lib.lastIndexByte s 32 = I) := Lib.hid (by rw [lastIndex_eq, hI])
        clear hI HN1
        by_cases hneg : I < 0
        · have hP := Lib.hid (parseR_none s HNP.out (by rw [HI.out]; exact hneg))
          have x0 := H0.out.blk.cell (j := 0) (v := .int .u8 0) rfl
          have x1 := H0.out.blk.cell (j := 1) (v := .int .u8 0) rfl
          have x2 := H0.out.blk.cell (j := 2) (v := .int .u8 0) rfl
          have x3 := H0.out.blk.cell (j := 3) (v := .int .u8 0) rfl
          have z0 := H0.out.blk.free 0
          have z1 := H0.out.blk.free 1
          have z2 := H0.out.blk.free 2
          have z3 := H0.out.blk.free 3
          go_wp2_with fail
          refine bodyPost_ret (v := .tuple #[.agg #[.int .u8 0, .int .u8 0, .int .u8 0, .int .u8 0], .int .i64 0, .int .i64 170]) (by simp [results, Tryd.results34, go_sem, x0, x1, x2, x3]) rfl (parsePost_mk _ _ _ badP hP.out _ rfl ?_)
          exact own4 H0.out hbb
        · obtain ⟨i, rfl⟩ : ∃ i : Nat, I = (i : Int) := ⟨I.toNat, by omega⟩
          have hP := parseR_some s HNP.out i HI.out
          have hi2 : i ≤ s.size := by omega
          have hi3 : (i : Int) ≤ (s.size : Nat) := by omega
          have hneg' : decide ((i : Int) < 0) = false := decide_eq_false (by omega)
          obtain ⟨⟨⟨l, d, r, q⟩, er⟩, hR⟩ : ∃ x, x = readP (s.extract 0 i).data.toList := ⟨_, rfl⟩
          rw [← hR, ← HL.out] at hP
          have RC : Hid (∀ w, Calls Tryd.prog 33 #[.string (s.extract 0 i)] w fun e w' => e = .returned (.tuple #[.agg #[.int .u8 (l : Nat), .int .u8 (d : Nat), .int .u8 (r : Nat), .int .u8 (q : Nat)], .int .i64 er]) ∧ Below w.heap.size w w') := Lib.hid fun w => (rread_any (s.extract 0 i) w).mono fun e w' ⟨he, hb⟩ => ⟨by rw [he, ← hR], hb⟩
          have hl256 : Hid (er = 0 → l < 256) := Lib.hid fun h => by
            have := read_right (s.extract 0 i).data.toList
            rw [← hR] at this
            have h2 : rgt l d r q = true := this h
            have := rgt_of _ _ _ _ h2
            omega
          have HP := Lib.hid hP
          clear hR hP hneg HI hb
          go_wp2_with fail
          refine (own_of (RC.out _) H0.out).mono ?_
          rintro e w2 ⟨rfl, h2⟩
          clear H0
          have h3 : Own w (w2.alloc (.cells #[.int .u8 (l : Nat), .int .u8 (d : Nat), .int .u8 (r : Nat), .int .u8 (q : Nat)] 23)) b0 23 #[.int .u8 0, .int .u8 0, .int .u8 0, .int .u8 0] := h2.keep ((Below.refl _ _).alloc (Nat.le_refl _) _)
          have k3 : Blk (w2.alloc (.cells #[.int .u8 (l : Nat), .int .u8 (d : Nat), .int .u8 (r : Nat), .int .u8 (q : Nat)] 23)) w2.heap.size 23 #[.int .u8 (l : Nat), .int .u8 (d : Nat), .int .u8 (r : Nat), .int .u8 (q : Nat)] := Blk.new _ _ _
          go_upto_region 12 with fail
          generalize w2.alloc (.cells #[.int .u8 (l : Nat), .int .u8 (d : Nat), .int .u8 (r : Nat), .int .u8 (q : Nat)] 23) = w3 at *
          generalize w2.heap.size = bc at *
          have H3 := Lib.hid h3
          have K3 := Lib.hid k3
          clear h2 h3 k3
          by_cases he : er = 0
          · have t2 : (er != 0) = false := by simp [he]
            have hl := hl256.out he
            have hP : Hid (parseP s = parseQ (l, d, r, q) L) := Lib.hid (by rw [HP.out]; exact if_neg (by simp [he]))
            clear he HP hl256
            go_wp2_with fail
            go_loopw [9] (fun v9 wr => ∃ k : Nat, k ≤ 14 ∧ v9 = .int .i64 k ∧ (∀ j, j < k → hit (l, d, r, q) L j = false) ∧ Own w wr b0 23 #[.int .u8 0, .int .u8 0, .int .u8 0, .int .u8 0] ∧ Blk wr bc 23 #[.int .u8 (l : Nat), .int .u8 (d : Nat), .int .u8 (r : Nat), .int .u8 (q : Nat)]) (fun v9 _ => 14 - (intOf v9).toNat)
            case atStart => exact ⟨0, by omega, rfl, fun _ h => absurd h (by omega), H3.out, K3.out⟩
            case round =>
              obtain ⟨k, hk, rfl, hno, hO, hB⟩ := hrel
              clear H3 K3
              have HNO := Lib.hid hno
              have HO := Lib.hid hO
              have HB := Lib.hid hB
              clear hno hO hB
              by_cases hlt : k < 14
              · obtain ⟨⟨S, ew⟩, hS⟩ : ∃ x, x = writeP l d r q k := ⟨_, rfl⟩
                have WC : Hid (∀ w, Calls Tryd.prog 31 #[.agg #[.int .u8 (l : Nat), .int .u8 (d : Nat), .int .u8 (r : Nat), .int .u8 (q : Nat)], .int .i64 (k : Nat)] w fun e w' => e = .returned (.tuple #[.string ⟨S.toArray⟩, .int .i64 ew]) ∧ Below w.heap.size w w') := Lib.hid fun w => (rwrite_any l d r q k w hl).mono fun e w' ⟨he, hb⟩ => ⟨by rw [he, ← hS], hb⟩
                have hh := hit_eq2 (l, d, r, q) L k
                simp only [← hS] at hh
                have HH := Lib.hid hh
                clear hh hS
                have tk : decide ((k : Int) < 14) = true := decide_eq_true (by omega)
                have y0 := HB.out.cell (j := 0) (v := .int .u8 (l : Nat)) rfl
                have y1 := HB.out.cell (j := 1) (v := .int .u8 (d : Nat)) rfl
                have y2 := HB.out.cell (j := 2) (v := .int .u8 (r : Nat)) rfl
                have y3 := HB.out.cell (j := 3) (v := .int .u8 (q : Nat)) rfl
                go_wp2_with fail
                refine (WC.out _).mono ?_
                rintro e w5 ⟨rfl, hb⟩
                have h5 := HO.out.keep hb
                have k5 := HB.out.keep hb HB.out.lt
                have H5 := Lib.hid h5
                have K5 := Lib.hid k5
                clear h5 k5 hb HO HB y0 y1 y2 y3
                have e0 := HLs.out
                cases hfit : hit (l, d, r, q) L k
                · have HN := Lib.hid hfit
                  rw [HH.out] at hfit
                  have HRL : Hid (∀ j, j < k + 1 → hit (l, d, r, q) L j = false) := Lib.hid fun j hj => by
                    rcases Nat.lt_or_ge j k with h | h
                    · exact HNO.out j h
                    · obtain rfl : j = k := by omega
                      exact HN.out
                  by_cases he : ew = 0
                  · have t3 : (ew == 0) = true := beq_iff_eq.2 he
                    have t4 : (S == L) = false := by rw [t3, Bool.true_and] at hfit; exact hfit
                    clear hfit he
                    go_wp2_with fail
                    first
                      | exact ⟨⟨k + 1, by omega, by go_num, HRL.out, H5.out, K5.out⟩, by simp [intOf]; omega⟩
                      | (refine ⟨?_, by simp [intOf]; omega⟩; (repeat apply Exists.intro); exact ⟨⟨k + 1, by omega, by go_num, HRL.out, H5.out, K5.out⟩, rfl⟩)
                  · have t3 : (ew == 0) = false := beq_eq_false_iff_ne.2 he
                    clear hfit he
                    go_wp2_with fail
                    first
                      | exact ⟨⟨k + 1, by omega, by go_num, HRL.out, H5.out, K5.out⟩, by simp [intOf]; omega⟩
                      | (refine ⟨?_, by simp [intOf]; omega⟩; (repeat apply Exists.intro); exact ⟨⟨k + 1, by omega, by go_num, HRL.out, H5.out, K5.out⟩, rfl⟩)
                · have hQ : Hid (parseP s = (((l, d, r, q), k), 0)) := Lib.hid (by rw [hP.out]; exact parseQ_hit _ _ k hlt HNO.out hfit)
                  rw [HH.out, Bool.and_eq_true] at hfit
                  have t3 : (ew == 0) = true := hfit.1
                  have t4 : (S == L) = true := hfit.2
                  clear hfit
                  have y0 := K5.out.cell (j := 0) (v := .int .u8 (l : Nat)) rfl
                  have y1 := K5.out.cell (j := 1) (v := .int .u8 (d : Nat)) rfl
                  have y2 := K5.out.cell (j := 2) (v := .int .u8 (r : Nat)) rfl
                  have y3 := K5.out.cell (j := 3) (v := .int .u8 (q : Nat)) rfl
                  have x0 := H5.out.blk.cell (j := 0) (v := .int .u8 0) rfl
                  have x1 := H5.out.blk.cell (j := 1) (v := .int .u8 0) rfl
                  have x2 := H5.out.blk.cell (j := 2) (v := .int .u8 0) rfl
                  have x3 := H5.out.blk.cell (j := 3) (v := .int .u8 0) rfl
                  have z0 := H5.out.blk.free 0
                  have z1 := H5.out.blk.free 1
                  have z2 := H5.out.blk.free 2
                  have z3 := H5.out.blk.free 3
                  go_wp2_with fail
                  refine bodyPost_ret (v := .tuple #[.agg #[.int .u8 (l : Nat), .int .u8 (d : Nat), .int .u8 (r : Nat), .int .u8 (q : Nat)], .int .i64 (k : Nat), .int .i64 0]) (by simp [results, Tryd.results34, go_sem, x0, x1, x2, x3]) rfl (parsePost_mk _ _ _ _ hQ.out _ rfl ?_)
                  exact own4 H5.out hbb
              · obtain rfl : k = 14 := by omega
                have hb : Hid (parseP s = badP) := Lib.hid (by rw [hP.out]; exact parseQ_none _ _ HNO.out)
                have x0 := HO.out.blk.cell (j := 0) (v := .int .u8 0) rfl
                have x1 := HO.out.blk.cell (j := 1) (v := .int .u8 0) rfl
                have x2 := HO.out.blk.cell (j := 2) (v := .int .u8 0) rfl
                have x3 := HO.out.blk.cell (j := 3) (v := .int .u8 0) rfl
                have z0 := HO.out.blk.free 0
                have z1 := HO.out.blk.free 1
                have z2 := HO.out.blk.free 2
                have z3 := HO.out.blk.free 3
                go_wp2_with fail
                refine bodyPost_ret (v := .tuple #[.agg #[.int .u8 0, .int .u8 0, .int .u8 0, .int .u8 0], .int .i64 0, .int .i64 170]) (by simp [results, Tryd.results34, go_sem, x0, x1, x2, x3]) rfl (parsePost_mk _ _ _ badP hb.out _ rfl ?_)
                exact own4 HO.out hbb
          · have t2 : (er != 0) = true := by simp [he]
            have hb : Hid (parseP s = badP) := Lib.hid (by rw [HP.out]; exact if_pos (by simp [he]))
            clear he HP hl256
            have x0 := H3.out.blk.cell (j := 0) (v := .int .u8 0) rfl
            have x1 := H3.out.blk.cell (j := 1) (v := .int .u8 0) rfl
            have x2 := H3.out.blk.cell (j := 2) (v := .int .u8 0) rfl
            have x3 := H3.out.blk.cell (j := 3) (v := .int .u8 0) rfl
            have z0 := H3.out.blk.free 0
            have z1 := H3.out.blk.free 1
            have z2 := H3.out.blk.free 2
            have z3 := H3.out.blk.free 3
            go_wp2_with fail
            refine bodyPost_ret (v := .tuple #[.agg #[.int .u8 0, .int .u8 0, .int .u8 0, .int .u8 0], .int .i64 0, .int .i64 170]) (by simp [results, Tryd.results34, go_sem, x0, x1, x2, x3]) rfl (parsePost_mk _ _ _ badP hb.out _ rfl ?_)
            exact own4 H3.out hbb
end Go.Proofs.YtgmofikhndlhcaaDoor
