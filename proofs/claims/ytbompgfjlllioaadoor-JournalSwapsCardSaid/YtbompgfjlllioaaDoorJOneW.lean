/- JournalOne: the walk. -/
import Derived.Test.YtbompgfjlllioaaDoorJDamage
namespace Go.Proofs.YtbompgfjlllioaaDoor
open Go Go.RowKit

theorem dv_base {w : World} {B B' : Nat} {v : Value} {l : List UInt8} (h : DV w B v l) (hB : B' ≤ B) : DV w B' v l := by
  cases h with
  | none_ => exact .none_
  | some_ g cap l cur hcap hb hg hc => exact .some_ g cap l cur hcap (Nat.le_trans hB hb) hg hc
theorem u8_eqs (c : UInt8) : (((c.toNat : Int) == 10) = (c == 10)) ∧ ((c.toNat == 10) = (c == 10)) := by
  have h : c = 10 ↔ c.toNat = 10 := UInt8.toNat_inj.symm
  constructor
  · rw [Bool.eq_iff_iff]; simp [h]; omega
  · rw [Bool.eq_iff_iff]; simp [h]
theorem u8_eq2 (c d : UInt8) : (((c.toNat : Int) == (d.toNat : Int)) = (c == d)) ∧ ((c.toNat == d.toNat) = (c == d)) := by
  have h : c = d ↔ c.toNat = d.toNat := UInt8.toNat_inj.symm
  constructor
  · rw [Bool.eq_iff_iff]; simp [h]; omega
  · rw [Bool.eq_iff_iff]; simp [h]
theorem wp_bytes_own2 {ops : Array Oper} {rest : List Oper} {o : Oper} {a : Act} {Q : Exit → Act → World → Prop} (hgd : o.guard = none) (sl x : Operand)
    (ho : o.op = .call { callee := .builtin .append, args := #[sl, x], argTypes := #[26, 26] }) (w : World) (base : Nat) (v : Value) (n : Nat) (l : List UInt8) (hs : a.eval sl = v) (hown : w.ownsRow base 5 1 v n (l.map byteV))
    (b off c m : Nat) (l2 : List UInt8) (hm : l2.length = m) (hx : a.eval x = .slice (some ⟨b, off, none⟩) m c) (hB : BS w b off l2) (hlen : n + m ≤ 100000000) (hbase : base ≤ w.heap.size)
    (h : ∀ v' w', w'.ownsRow base 5 1 v' (n + m) ((l ++ l2).map byteV) → w.grownBy w' v.ownBlock → (v'.ownBlock = v.ownBlock ∨ v'.ownBlock = some w.heap.size) → wpList Tryd.prog ops Q rest (a.put o.dst v') w') : wpList Tryd.prog ops Q (o :: rest) a w := by
  subst hm
  exact wp_bytes_own hgd sl x ho w base v n l hs hown b off c l2 hx hB hlen hbase h
theorem belowz {w w2 w6 w7 : World} {dp : Nat} (h2 : Below w.heap.size w w2) (h6 : Below w2.heap.size w2 w6) (hd : w6.heap.size = dp) (h7 : Below dp w6 w7) : Below w.heap.size w w7 := by
  subst hd; exact bchain (bchain h2 h6) h7
theorem belowy {w2 w6 wa : World} {dp : Nat} (h6 : Below w2.heap.size w2 w6) (hd : w6.heap.size = dp) (ha : Below dp w6 wa) : Below w2.heap.size w2 wa := by
  subst hd; exact bchain h6 ha
theorem dv_bs {w : World} {B g n c : Nat} {l : List UInt8} (h : DV w B (.slice (some ⟨g, 0, none⟩) n c) l) : BS w g 0 l := by
  generalize hv : Value.slice (some ⟨g, 0, none⟩) n c = v at h
  cases h with
  | none_ => injection hv with e _ _; cases e
  | some_ g' cap l cur hcap hB hg hc =>
    injection hv with e1 _ _
    have e1 := Option.some.inj e1
    injection e1 with e1 _ _
    subst e1
    exact hc
set_option maxRecDepth 100000 in
set_option maxHeartbeats 8000000 in
theorem one_any (A : Option Addr) (cap : Nat) (l0 : List (List UInt8)) (hcap : l0.length ≤ cap) (a : Nat) (ha : a < 65536) (d : UInt8) (w : World) (he : Env w) (hB : RS w (.slice A l0.length cap) l0) :
    Calls Tryd.prog 9 #[.slice A l0.length cap, .int .u16 (a : Int), .int .u8 (d.toNat : Int)] w (fun e w' => e = .returned (.bool true) ∧ Below w.heap.size w w') := by
  have TX := Lib.hid (texts_any A cap l0 hcap w hB)
  have HL2 := Lib.hid (textsL_len l0)
  have HLR := Lib.hid (textsL_right l0)
  have AW := Lib.hid (fun W he => awake_any W he)
  have HE := Lib.hid he
  generalize textsL l0 = L at *
  generalize l0.length = n0 at *
  clear he hB hcap
  go_enter Tryd.func9, Tryd.ntmps9
  go_wp2_with fail
  refine TX.out.mono ?_
  rintro e w1 ⟨v, rfl, hown, hb⟩
  obtain ⟨A1, c1, rfl⟩ := own_slice hown
  have B1 := Lib.hid hb
  have hc1 := own_cap hown
  have R1 := Lib.hid (rs_of_own hown)
  have WR := Lib.hid (written_any A1 c1 L (by have := HL2.out; omega) HLR.out w1 (HE.out.keep hb) R1.out)
  obtain ⟨N, hN⟩ : ∃ N, L.length = N := ⟨_, rfl⟩
  have HN := Lib.hid hN
  have HSZ := Lib.hid (sizeA_le L (fun t ht => (HLR.out t ht).2))
  rw [hN] at hc1 WR ⊢
  clear hown hb hN TX
  go_wp2_with fail
  refine WR.out.mono ?_
  rintro e w2 ⟨dv, ev, rfl, hdv, hev, hb⟩
  have hdv := dv_base hdv B1.out.size
  obtain ⟨A2, c2, rfl⟩ := hdv.bv.len
  rw [HN.out] at hev
  obtain ⟨A3, c3, rfl⟩ := own_slice hev
  have hc2 := (dv_cap hdv).1
  have DV2 := Lib.hid hdv
  have EV := Lib.hid hev
  have B2 := Lib.hid (bchain B1.out hb)
  have R2 := Lib.hid (R1.out.keep hb)
  rw [logA_len] at hc2 ⊢
  obtain ⟨M, hM⟩ : ∃ M, sizeA L = M := ⟨_, rfl⟩
  have HM := Lib.hid hM
  have hM2 : M ≤ 1320 := by have := HSZ.out; have := HN.out; have := HL2.out; omega
  have hN2 : N ≤ 20 := by have := HN.out; have := HL2.out; omega
  rw [hM] at hc2 ⊢
  clear hev hb hM WR
  by_cases hM0 : M = 0
  · have z1 : ((M : Int) == 0) = true := by rw [hM0]; rfl
    have z2 : (M == 0) = true := by rw [hM0]; rfl
    clear hM0 hdv
    go_wp2_with fail
    refine (AW.out _ (HE.out.keep B2.out)).mono ?_
    rintro e wz ⟨rfl, hb⟩
    have BZ := Lib.hid (bchain B2.out hb)
    clear hb
    go_wp2
    go_ret
    exact ⟨rfl, BZ.out⟩
  have z1 : ((M : Int) == 0) = false := beq_eq_false_iff_ne.2 (by omega)
  have z2 : (M == 0) = false := beq_eq_false_iff_ne.2 hM0
  obtain ⟨n, hn0⟩ : ∃ n : Nat, a % M = n := ⟨_, rfl⟩
  have hn : (a : Int) % (M : Int) = (n : Int) := by rw [← hn0]; simp
  have hn2 : n < M := by have := Nat.mod_lt a (by omega : 0 < M); omega
  have hnl : n < (logA 1 L).length := by rw [logA_len, HM.out]; exact hn2
  obtain ⟨g2, rfl, hg2, c0⟩ := hdv.at_ hnl
  obtain ⟨c, hc⟩ : ∃ c, (logA 1 L)[n] = c := ⟨_, rfl⟩
  have HC : Hid ((logA 1 L)[n]? = some c) := Lib.hid (by rw [List.getElem?_eq_getElem hnl, hc])
  rw [hc] at c0
  have i0 : (n : Int) < (M : Int) := by omega
  have i00 : (0 : Int) ≤ (n : Int) := by omega
  obtain ⟨x1, x2⟩ := u8_eqs c
  obtain ⟨x3, x4⟩ := u8_eqs d
  obtain ⟨x5, x6⟩ := u8_eq2 d c
  have X1 := Lib.hid x1
  have X2 := Lib.hid x2
  have X3 := Lib.hid x3
  have X4 := Lib.hid x4
  have X5 := Lib.hid x5
  have X6 := Lib.hid x6
  clear hc hnl hn0 hM0 hdv x1 x2 x3 x4 x5 x6 hg2
  by_cases h1 : c = 10
  · have y1 := X1.out
    have y2 := X2.out
    rw [beq_iff_eq.2 h1] at y1 y2
    clear h1 X1 X2 X3 X4 X5 X6
    go_wp2_with fail
    refine (AW.out _ (HE.out.keep B2.out)).mono ?_
    rintro e wz ⟨rfl, hb⟩
    have BZ := Lib.hid (bchain B2.out hb)
    clear hb
    go_wp2
    go_ret
    exact ⟨rfl, BZ.out⟩
  have y1 := X1.out
  have y2 := X2.out
  rw [beq_eq_false_iff_ne.2 h1] at y1 y2
  by_cases h2 : d = 10
  · have y3 := X3.out
    have y4 := X4.out
    rw [beq_iff_eq.2 h2] at y3 y4
    clear h1 h2 X1 X2 X3 X4 X5 X6
    go_wp2_with fail
    refine (AW.out _ (HE.out.keep B2.out)).mono ?_
    rintro e wz ⟨rfl, hb⟩
    have BZ := Lib.hid (bchain B2.out hb)
    clear hb
    go_wp2
    go_ret
    exact ⟨rfl, BZ.out⟩
  have y3 := X3.out
  have y4 := X4.out
  rw [beq_eq_false_iff_ne.2 h2] at y3 y4
  by_cases h3 : d = c
  · have y5 := X5.out
    have y6 := X6.out
    rw [beq_iff_eq.2 h3] at y5 y6
    clear h1 h2 h3 X1 X2 X3 X4 X5 X6
    go_wp2_with fail
    refine (AW.out _ (HE.out.keep B2.out)).mono ?_
    rintro e wz ⟨rfl, hb⟩
    have BZ := Lib.hid (bchain B2.out hb)
    clear hb
    go_wp2
    go_ret
    exact ⟨rfl, BZ.out⟩
  have y5 := X5.out
  have y6 := X6.out
  rw [beq_eq_false_iff_ne.2 h3] at y5 y6
  have H1 := Lib.hid h1
  have H2 := Lib.hid h2
  have H3 := Lib.hid h3
  clear h1 h2 h3 X1 X2 X3 X4 X5 X6
  go_upto_region 10 with fail
  rw [hn]
  clear hn c0 y1 y2 y3 y4 y5 y6
  go_upto_region 11 with (at_builtin; go_must (refine wp_bytes_own2 rfl _ _ rfl _ w2.heap.size (.slice (some ⟨w2.heap.size, 0, none⟩) 0 0) 0 [] rfl (own_made w2 w2.heap.size 0 #[] (Nat.le_refl _) rfl (by decide)) g2 0 c2 M (logA 1 L) (by rw [logA_len, HM.out]) rfl (dv_bs (DV2.out.keep (below1 w2 (.cells #[] 5)))) (by omega) (by simp) ?_; intro v3 w3 ho3 hg3 _; rw [Nat.zero_add, List.nil_append] at ho3; obtain ⟨g3, c3', rfl, hg3b, hc3'⟩ := own_some ho3 (by omega); have D3 := Lib.hid (dv_of_own ho3); have BB3 := Lib.hid ((below1 w2 (.cells #[] 5)).grown hg3 (by simp) (fun k e => by simp [Value.ownBlock] at e; omega)); clear ho3 hg3))
  obtain ⟨g4, e3, _, c0⟩ := D3.out.at_ (i := n) (by rw [logA_len, HM.out]; exact hn2)
  have e4 : g4 = g3 := by injection e3 with e3; injection e3 with e3 _ _; exact e3.symm
  subst e4
  have f0 := D3.out.free n
  have D4 := Lib.hid (D3.out.set n d)
  have BB4 := Lib.hid (BB3.out.setCell (show w2.heap.size ≤ (⟨g4, n, none⟩ : Addr).block from hg3b) (.int .u8 (d.toNat : Int)))
  clear e3
  go_wp2_with fail
  clear c0 f0
  generalize w3.setCell ⟨g4, n, none⟩ (.int .u8 (d.toNat : Int)) = w4 at *
  have B4 := Lib.hid (bchain B2.out BB4.out)
  clear D3 BB3
  have EV4 := Lib.hid (own_keep EV.out BB4.out)
  have R4 := Lib.hid (R2.out.keep BB4.out)
  go_loop [11, 12, 71] (fun s9 s10 s35 => ∃ i k : Nat, i ≤ N ∧ k ≤ i ∧ s35 = .int .i64 i ∧ s9 = .int .i64 k ∧ s10 = .int .i64 (sizeA (L.take k) : Nat) ∧ sizeA (L.take k) ≤ n ∧ (k < i → n < sizeA (L.take (k + 1)))) (fun _ _ s35 => N - (intOf s35).toNat)
  case atStart => exact ⟨0, 0, by omega, by omega, rfl, rfl, rfl, by simp [sizeA], fun h => by omega⟩
  case round =>
    obtain ⟨i, k, hi, hki, rfl, rfl, rfl, hsz, hnx⟩ := hrel
    have HNX := Lib.hid hnx
    clear hnx
    by_cases hlt : i < N
    · obtain ⟨g, rfl, c0⟩ := ends_cell EV4.out (endsA_at L i (by have := HN.out; omega)) (by rw [endsA_len]; exact HN.out)
      obtain ⟨E, hE⟩ : ∃ E, sizeA (L.take (i + 1)) = E := ⟨_, rfl⟩
      have HEE := Lib.hid hE
      obtain ⟨D, hD⟩ : ∃ D, sizeA (L.take k) = D := ⟨_, rfl⟩
      have HD := Lib.hid hD
      rw [hE] at c0
      rw [hD] at hsz ⊢
      have t1 : decide ((i : Int) < (N : Int)) = true := decide_eq_true (by omega)
      by_cases hle : E ≤ n
      · have t2 : decide ((E : Int) ≤ (n : Int)) = true := decide_eq_true (by omega)
        clear hE hD
        go_wp2
        go_round
        case rel => exact ⟨i + 1, i + 1, by omega, by omega, by go_num, by go_num, by rw [HEE.out], by rw [HEE.out]; exact hle, fun h => by omega⟩
        case measure => simp [intOf]; omega
      · have t2 : decide ((E : Int) ≤ (n : Int)) = false := decide_eq_false (by omega)
        clear hE hD
        go_wp2
        go_round
        case rel => exact ⟨i + 1, k, by omega, by omega, by go_num, rfl, by rw [HD.out], by rw [HD.out]; exact hsz, fun _ => by
          rcases Nat.lt_or_ge k i with h | h
          · exact HNX.out h
          · obtain rfl : k = i := by omega
            rw [HEE.out]; omega⟩
        case measure => simp [intOf]; omega
    · obtain rfl : i = N := by omega
      have t1 : decide ((i : Int) < (i : Int)) = false := decide_eq_false (by omega)
      have hkN : k < i := by
        rcases Nat.lt_or_ge k i with h | h
        · exact h
        · have h2 := HM.out
          obtain rfl : k = i := by omega
          rw [List.take_of_length_le (by have := HN.out; omega)] at hsz
          omega
      have SC := one_scan L (fun t ht => (HLR.out t ht).1) n k (by have := HN.out; omega) hsz (HNX.out hkN) c d HC.out H1.out H2.out H3.out
      have i3 : k ≤ c1 := by omega
      have i4 : (k : Int) ≤ (c1 : Int) := by omega
      have hlen : ((logA 1 L).set n d).length = M := by rw [List.length_set, logA_len, HM.out]
      have HLK : Hid ((L.take k).length = k) := Lib.hid (List.length_take_of_le (by have := HN.out; omega))
      obtain ⟨D, hD⟩ : ∃ D, sizeA (L.take k) = D := ⟨_, rfl⟩
      have HD := Lib.hid hD
      have hD3 : D ≤ n := by rw [← hD]; exact hsz
      have RG := Lib.hid (right_take (fun t ht => (HLR.out t ht).1) k : ∀ t ∈ L.take k, rightL t = true)
      have hpre : ((logA 1 L).set n d).take D = logA 1 (L.take k) := by
        rw [← hD, List.take_set_of_le hsz]
        conv => lhs; rw [logA_split 1 L k (by have := HN.out; omega)]
        exact List.take_left' (logA_len _ _)
      have HP := Lib.hid hpre
      rw [hD] at SC ⊢
      generalize hX : (logA 1 L).set n d = X at *
      have SCN := Lib.hid (scan_c (.slice (some ⟨g4, 0, none⟩) M c3') w4 (HE.out.keep B4.out) X (by omega) D4.out.bv (L.take k) D 2 (by rw [SC]) (by rw [SC]) (by rw [SC]; rfl))
      rw [HLK.out] at SCN
      have HSC := Lib.hid SC
      have HXL := Lib.hid hlen
      have j1 : (D : Int) ≤ (M : Int) := by omega
      clear SC hlen hD HNX hX hpre hsz
      go_wp2_with fail
      refine SCN.out.mono ?_
      rintro e w5 ⟨A5, c5, rfl, hrs, hb⟩
      have B5 := Lib.hid (bchain BB4.out hb)
      have D5 := Lib.hid (D4.out.keep hb)
      have SM := Lib.hid (same_self _ _ _ (by rw [HLK.out]; omega) w5 hrs ((R4.out.keep hb).take k (by have := HN.out; omega)))
      clear hrs hb SCN
      go_wp2_with fail
      refine SM.out.mono ?_
      rintro e w6 ⟨rfl, hb⟩
      have B6 := Lib.hid (bchain B5.out hb)
      have D6 := Lib.hid (D5.out.keep hb)
      clear hb SM
      go_wp2_with fail
      obtain ⟨dp, hdp⟩ : ∃ dp, w6.heap.size = dp := ⟨_, rfl⟩
      have hdp2 : w2.heap.size ≤ dp := by rw [← hdp]; exact B6.out.size
      obtain ⟨w7, hw7⟩ : ∃ w7, w6.alloc (.cells #[.slice (some ⟨g4, 0, none⟩) M c3', .int .i64 1] 28) = w7 := ⟨_, rfl⟩
      have P7 : Hid (PD w7 dp (.slice (some ⟨g4, 0, none⟩) M c3') 1) := Lib.hid (by rw [← hw7, ← hdp]; exact Blk.new _ _ _)
      have D7 : Hid (DV w7 w2.heap.size (.slice (some ⟨g4, 0, none⟩) M c3') X) := Lib.hid (by rw [← hw7]; exact D6.out.keep (below1 _ _))
      have B7 : Hid (Below dp w6 w7) := Lib.hid (by rw [← hw7, ← hdp]; exact below1 _ _)
      have hs7 : dp < w7.heap.size := by rw [← hw7, ← hdp]; simp
      rw [hw7, hdp]
      have HDP := Lib.hid hdp
      clear hw7 hdp
      have OB := Lib.hid (open_bad dp _ X 1 w7 w2.heap.size (by rw [HXL.out]; omega) (by rw [HSC.out]) (HE.out.keep (belowz B2.out B6.out HDP.out B7.out)) P7.out D7.out)
      refine OB.out.mono ?_
      rintro e w8 ⟨rfl, hb⟩
      have B8 := Lib.hid (B7.out.trans (hb.mono (by omega)))
      have P8 := Lib.hid (Blk.keep P7.out hb P7.out.lt : PD w8 dp (.slice (some ⟨g4, 0, none⟩) M c3') 1)
      have D8 := Lib.hid (D7.out.keep hb)
      have hs8 : dp < w8.heap.size := by have := hb.size; omega
      clear hb OB P7 D7 B7
      go_wp2_with fail
      have RP := Lib.hid (repair_lg (bs := X) (pow := 1) (by rw [HXL.out]; omega) (HE.out.keep (belowz B2.out B6.out HDP.out B8.out)) P8.out D8.out (.inr (by decide)) (by decide) (by decide))
      rw [HSC.out, HXL.out, HP.out, show cutPow M (Sc.mk (L.take k) (lastA 1 (L.take k)) D false).size 1 = 0 from if_neg (show ¬ D = M by omega)] at RP
      refine RP.out.mono ?_
      rintro e w9 ⟨rfl, dv9, hp9, hd9, hf9⟩
      have B9 := Lib.hid (B8.out.trans (hf9.below (Nat.le_of_lt hs8) (fun x hx => by have hxd : x = dp := (by simpa using hx); omega)))
      have hs9 : dp < w9.heap.size := by have := hf9.size; omega
      have P9 := Lib.hid hp9
      have D9 := Lib.hid hd9
      clear hp9 hd9 hf9 RP P8 D8 B8
      go_wp2_with fail
      have OG := Lib.hid (open_lg (bs := logA 1 (L.take k)) (pow := 0) (by rw [logA_len, HD.out]; omega) (by rw [scan_log _ RG.out]) (HE.out.keep (belowz B2.out B6.out HDP.out B9.out)) P9.out D9.out hdp2 (.inl (by rw [scan_log _ RG.out, logA_len])) (by decide) (by decide))
      rw [scan_log _ RG.out] at OG
      refine OG.out.mono ?_
      rintro e wa ⟨lp, dva, rva, rfl, hlp, hlg, hfa, _⟩
      have BA := Lib.hid (B9.out.trans (hfa.below (Nat.le_of_lt hs9) (fun x hx => by have hxd : x = dp := (by simpa using hx); omega)))
      have hpw : cutPow (logA 1 (L.take k)).length (Sc.mk (L.take k) (lastA 1 (L.take k)) (sizeA (L.take k)) true).size 0 = 0 := by unfold cutPow lessP; split <;> rfl
      rw [hpw] at hlg
      have GA := Lib.hid hlg
      have d1 : wa.cell? ⟨dp, 1, none⟩ = some (.int .i64 0) := hlg.disk.cell (j := 1) rfl
      clear hlg hfa OG P9 D9 B9 hpw hlp
      have RC := Lib.hid (fun (wx : World) (hb : Below wa.heap.size wa wx) => records_len (hr := rs_of_own (GA.out.keep hb).rows) (h := (GA.out.keep hb).log) (hs := by rw [HLK.out]; omega))
      have RK : Hid (RS wa (.slice A1 k c1) (L.take k)) := Lib.hid ((R2.out.keep (belowy B6.out HDP.out BA.out)).take k (by have := HN.out; omega))
      have SM := Lib.hid (fun (wx : World) (hb : Below wa.heap.size wa wx) (v : Value) (hv : RS wx v (L.take k)) => same_self v _ _ (by rw [HLK.out]; omega) wx hv (RK.out.keep hb))
      have AWK := Lib.hid (fun (wx : World) (hb : Below wa.heap.size wa wx) => AW.out wx (HE.out.keep (bchain (belowz B2.out B6.out HDP.out BA.out) hb)))
      have SOF := Lib.hid (fun (wx : World) (hb : Below wa.heap.size wa wx) => (⟨keepW hb d1, hb⟩ : wx.cell? ⟨dp, 1, none⟩ = some (.int .i64 0) ∧ Below wa.heap.size wa wx))
      rw [HLK.out] at RC
      go_upto_region 26 with fail
      have wz : IntKind.i64.wrap ((M : Int) - (D : Int)) = (M : Int) - (D : Int) := IntWalk.i64_in _ (by omega)
      go_region_held3 (fun wx => wx.cell? ⟨dp, 1, none⟩ = some (.int .i64 0) ∧ Below wa.heap.size wa wx)
        (first | exact SOF.out _ (Below.refl _ _) | exact SOF.out _ (Below.drew (Below.refl _ _)) | exact SOF.out _ hB | exact SOF.out _ (by assumption : _ ∧ Below wa.heap.size wa _).2)
        (first
          | (go_at_call 16; (with_reducible refine (RC.out _ (by assumption : _ ∧ Below wa.heap.size wa _).2).mono ?_); rintro e w' ⟨A9, c9, rfl, hrs, hb⟩; (have hB := bchain (by assumption : _ ∧ Below wa.heap.size wa _).2 hb))
          | (go_at_call 15; (with_reducible refine (SM.out _ hB _ hrs).mono ?_); rintro e w' ⟨rfl, hb⟩; (have hB := bchain hB hb))
          | (go_at_call 19; (with_reducible refine (AWK.out _ hB).mono ?_); rintro e w' ⟨rfl, hb⟩; (have hB := bchain hB hb)))
      all_goals
        have HBZ := Lib.hid hB
        clear SM RC AWK SOF hB
        go_wp2
        go_ret
        exact ⟨rfl, bchain (belowz B2.out B6.out HDP.out BA.out) HBZ.out⟩
theorem one_walk {v : Value} (a : Nat) (ha : a < 65536) (b : Nat) (hb : b < 256) (w : World) (he : Env w) (hB : ∃ (A : Option Addr) (cap : Nat) (l : List (List UInt8)), v = .slice A l.length cap ∧ l.length ≤ cap ∧ RS w v l) :
    Calls Tryd.prog 9 #[v, .int .u16 (a : Int), .int .u8 (b : Int)] w (fun e w' => e = .returned (.bool true) ∧ Below w.heap.size w w') := by
  obtain ⟨A, cap, l, rfl, hcap, hB⟩ := hB
  have h := one_any A cap l hcap a ha (UInt8.ofNat b) w he hB
  rwa [u8_of b hb] at h
end Go.Proofs.YtbompgfjlllioaaDoor
