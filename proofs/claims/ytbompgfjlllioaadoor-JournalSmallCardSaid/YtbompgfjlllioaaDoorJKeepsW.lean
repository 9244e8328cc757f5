/- JournalKeeps: the walk. -/
import Derived.Test.YtbompgfjlllioaaDoorJKeepsS
import Derived.Deep.RegionWith
namespace Go.Proofs.YtbompgfjlllioaaDoor
open Go Go.RowKit

theorem textsL_more (l0 : List (List UInt8)) (K : Nat) (hK : min l0.length 19 = K) (m : List UInt8) : textsL (l0.take K ++ [m]) = (l0.take K).map txt ++ [txt m] := by
  unfold textsL
  rw [List.take_of_length_le (by simp; omega), List.map_append]; rfl
set_option maxRecDepth 100000 in
theorem conv_bv {W : World} {A : Option Addr} {c : Nat} {l : List UInt8} (h : BV W (.slice A l.length c) l) : (convert 26 9 (.slice A l.length c)).run Tryd.prog W = .ok (.string ⟨l.toArray⟩) W := by
  generalize hv : Value.slice A l.length c = v at h
  cases h with
  | none_ =>
    injection hv with h1 h2 h3
    subst h1 h3
    exact conv_nil W
  | some_ b o c l hcap hc =>
    injection hv with h1 h2 h3
    subst h1 h3
    exact conv_all b o _ l W hc
theorem str_cell {w : World} {B n c : Nat} {A : Option Addr} {l : List (List UInt8)} (h : w.ownsRow B 9 1 (.slice A n c) n (l.map strV)) {i : Nat} {r : List UInt8} (hi : l[i]? = some r) (hn : l.length = n) : ∃ g, A = some ⟨g, 0, none⟩ ∧ w.cell? ⟨g, i, none⟩ = some (strV r) := by
  have hlt : i < n := by rw [← hn]; exact (List.getElem?_eq_some_iff.1 hi).1
  obtain ⟨g, cap, e, _, _⟩ := own_some h (by omega)
  injection e with e1 _ _
  subst e1
  have := h.cells (g := g) rfl i (strV r) (by rw [List.getElem?_map, hi]; rfl)
  rw [add_at, Nat.zero_add] at this
  exact ⟨g, rfl, this⟩
set_option maxRecDepth 100000 in
set_option maxHeartbeats 8000000 in
theorem keeps_any (A : Option Addr) (cap : Nat) (l0 : List (List UInt8)) (hcap : l0.length ≤ cap) (p : Nat) (hp : p < 65536) (X : ByteArray) (w : World) (he : Env w) (hB : RS w (.slice A l0.length cap) l0) :
    Calls Tryd.prog 3 #[.slice A l0.length cap, .int .u16 (p : Int), .string X] w (fun e w' => e = .returned (.bool true) ∧ Below w.heap.size w w') := by
  obtain ⟨j0, hj0, hy0, hy1, hy2⟩ := info_parts info_str
  have AW := Lib.hid (fun W he => awake_any W he)
  have HE := Lib.hid he
  obtain ⟨K, hK⟩ : ∃ K, min l0.length 19 = K := ⟨_, rfl⟩
  obtain ⟨n0, hn0⟩ : ∃ n0, l0.length = n0 := ⟨_, rfl⟩
  have HK := Lib.hid hK
  have hK19 : K ≤ 19 := by omega
  have m1 : min (n0 : Int) 19 = (K : Int) := by omega
  have i1 : K ≤ cap := by omega
  have i2 : (K : Int) ≤ (cap : Int) := by omega
  have RK := Lib.hid (hB.take K (by omega))
  have HLK : Hid ((l0.take K).length = K) := Lib.hid (by simp; omega)
  have HTX := Lib.hid (textsL_more l0 K hK X.data.toList)
  have HTQ : Hid (∀ t ∈ (l0.take K).map txt, rightL t = true ∧ t.length ≤ 60) := Lib.hid (fun t ht => by obtain ⟨s, _, rfl⟩ := List.mem_map.1 ht; exact ⟨txt_right s, txt_len s⟩)
  have HTR : Hid (rightL (txt X.data.toList) = true ∧ (txt X.data.toList).length ≤ 60) := Lib.hid ⟨txt_right _, txt_len _⟩
  rw [hn0] at hB hcap ⊢
  generalize l0.take K = l1 at *
  clear he hK hn0 hB
  go_enter Tryd.func3, Tryd.ntmps3
  go_wp2_with (first
    | (at_builtin; refine wp_strs_own rfl (.tmp 19) (.tmp 24) rfl _ w.heap.size _ 0 [] rfl (own_empty w 9) A K cap l1 HLK.out rfl (RK.out.keep (below1 _ _)) (by omega) (by simp) ?_; intro v1 w1 ho1 _ hb1; rw [Nat.zero_add, List.nil_append] at ho1; have HO1 := Lib.hid ho1; have B1 := Lib.hid (Below.trans (below1 w (.cells #[] 9)) hb1); clear ho1 hb1)
    | (at_builtin; refine app1 rfl (.tmp 25) (.tmp 27) rfl Tryd.underlying22 hj0 hy0 hy1 hy2 rfl _ w.heap.size _ K _ (.string X) rfl rfl rfl rfl HO1.out B1.out.size (by omega) (by decide) ?_; intro v2 w2 ho2 _ _ hb2; obtain ⟨A2, c2, rfl⟩ := own_slice ho2; have HO2 := Lib.hid ho2; have B2 := Lib.hid (B1.out.trans hb2); clear ho2 hb2))
  have hc2 := own_cap HO2.out
  have R2 : Hid (RS w2 (.slice A2 (l1 ++ [X.data.toList]).length c2) (l1 ++ [X.data.toList])) := Lib.hid (rs_of_own (base := w.heap.size) (by
    have h := HO2.out
    rw [List.length_append, HLK.out, List.map_append]
    exact h))
  have hl2 : (l1 ++ [X.data.toList]).length = K + 1 := by rw [List.length_append, HLK.out]; rfl
  have TX := Lib.hid (texts_any A2 c2 _ (by rw [hl2]; exact hc2) w2 R2.out)
  rw [HTX.out, hl2] at TX
  have HQ : Hid ((l1.map txt).length = K) := Lib.hid (by rw [List.length_map, HLK.out])
  generalize l1.map txt = Q at *
  generalize txt X.data.toList = T0 at *
  obtain ⟨T, hT⟩ : ∃ T : ByteArray, T.data.toList = T0 := ⟨⟨T0.toArray⟩, rfl⟩
  subst hT
  have hlQ : (Q ++ [T.data.toList]).length = K + 1 := by rw [List.length_append, HQ.out]; rfl
  rw [hlQ] at TX
  clear hl2 R2 HO2 HO1 RK HTX
  refine TX.out.mono ?_
  rintro e w3 ⟨v, rfl, hown, hb⟩
  obtain ⟨A3, c3, rfl⟩ := own_slice hown
  have hc3 := own_cap hown
  have B3 := Lib.hid (bchain B2.out hb)
  obtain ⟨g3, rfl, c0⟩ := str_cell hown (i := K) (r := T.data.toList) (by rw [List.getElem?_append_right (by rw [HQ.out]; exact Nat.le_refl _), HQ.out, Nat.sub_self]; rfl) hlQ
  rw [str_val _ T rfl] at c0
  have R3 : Hid (RS w3 (.slice (some ⟨g3, 0, none⟩) K c3) Q) := Lib.hid (by
    have h := rs_of_own (base := w2.heap.size) (v := .slice (some ⟨g3, 0, none⟩) (K + 1) c3) (l := Q ++ [T.data.toList]) (W := w3) (by rw [hlQ]; exact hown)
    rw [← hlQ] at h
    have h2 := h.take K (by omega)
    rwa [List.take_left' HQ.out] at h2)
  have R3Q : Hid (∀ k, k ≤ Q.length → RS w3 (.slice (some ⟨g3, 0, none⟩) k c3) (Q.take k)) := Lib.hid (fun k hk => by
    have h := R3.out
    rw [← HQ.out] at h
    exact h.take k hk)
  have RC3 : Hid (∀ i r, Q[i]? = some r → w3.cell? ⟨g3, i, none⟩ = some (strV r)) := Lib.hid (fun i r hi => by
    obtain ⟨g, e, hc⟩ := str_cell hown (i := i) (r := r) (by rw [List.getElem?_append_left (List.getElem?_eq_some_iff.1 hi).1]; exact hi) hlQ
    injection e with e; injection e with e _ _; subst e; exact hc)
  have i3 : K ≤ c3 := by omega
  have i4 : (K : Int) ≤ (c3 : Int) := by omega
  clear hown hb TX hlQ i1 i2
  go_wp2_with fail
  clear c0
  obtain ⟨dp, hdp⟩ : ∃ dp, w3.heap.size = dp := ⟨_, rfl⟩
  have BB4 := Lib.hid (below1 w3 (.cells #[.slice none 0 0, .int .i64 (p : Int)] 28))
  have OP := Lib.hid (open_new (B := w3.heap.size) (pow := (p : Int)) (HE.out.keep (bchain B3.out BB4.out)) (Blk.new w3 28 #[.slice none 0 0, .int .i64 (p : Int)]) (Nat.le_refl _) (by omega) (by omega))
  refine OP.out.mono ?_
  rintro e w5 ⟨lp, dv5, rv5, rfl, hlp, hlg, hfr, hrv⟩
  have BB5 := Lib.hid (BB4.out.trans (hfr.below (by simp) (fun x hx => by have hxd : x = w3.heap.size := (by simpa using hx); omega)))
  rw [hdp] at hlg ⊢
  have K5 : Hid (KS w3 w5 lp dp Q p 0 ((0 : Nat) : Int)) := Lib.hid (.go 0 ⟨dv5, rv5, _, by
    have e : ((p : Int) - (sizeA (Q.take 0) : Nat)) = (p : Int) := by simp [sizeA]
    rw [e, hdp]; exact hlg⟩ (by simp [sizeA]))
  have HDP := Lib.hid hdp
  clear OP BB4 hlp hlg hfr hrv hdp
  go_wp2
  go_loopw [11, 58] (fun s11 s58 wr => ∃ (i : Nat) (n : Int), i ≤ K ∧ s58 = .int .i64 i ∧ s11 = .int .i64 n ∧ KS w3 wr lp dp Q p i n ∧ Below w3.heap.size w3 wr) (fun _ s58 _ => K - (intOf s58).toNat)
  case atStart => exact ⟨0, 0, by omega, rfl, rfl, K5.out, BB5.out⟩
  case round =>
    obtain ⟨i, n, hi, rfl, rfl, hks, hbw⟩ := hrel
    have BW := Lib.hid hbw
    clear K5 BB5
    by_cases hlt : i < K
    · have hiQ : i < Q.length := by rw [HQ.out]; exact hlt
      obtain ⟨S, hS⟩ : ∃ S : ByteArray, S.data.toList = Q[i] := ⟨⟨Q[i].toArray⟩, rfl⟩
      have c0 : wr.cell? ⟨g3, i, none⟩ = some (.string S) := by
        rw [keepW hbw (RC3.out i _ (List.getElem?_eq_getElem hiQ)), str_val _ S hS]
      have t1 : decide ((i : Int) < (K : Int)) = true := decide_eq_true (by omega)
      clear hbw
      cases hks with
      | go log hpp =>
        have AP := Lib.hid (append_go hp hiQ (by rw [HQ.out]; omega) HTQ.out (HE.out.keep (bchain B3.out BW.out)) log hpp S hS)
        clear log hpp hS hiQ
        have t2 : decide ((0 : Int) ≤ (i : Int)) = true := decide_eq_true (by omega)
        have t3 : decide ((i : Int) < 0) = false := decide_eq_false (by omega)
        go_wp2_with fail
        refine AP.out.mono ?_
        rintro e w6 ⟨hb, hq⟩
        have BW6 := Lib.hid (BW.out.trans hb)
        clear hb c0 AP
        rcases hq with ⟨rfl, hks⟩ | ⟨rfl, hks, d1⟩
        · have HKS := Lib.hid hks
          clear hks
          go_wp2
          go_roundw
          case rel => exact ⟨i + 1, (i : Int) + 1, by omega, by go_num, rfl, HKS.out, BW6.out⟩
          case measure => simp [intOf]; omega
        · have HKS := Lib.hid hks
          clear hks
          go_wp2
          go_roundw
          case rel => exact ⟨i + 1, -1 - (i : Int), by omega, by go_num, rfl, HKS.out, BW6.out⟩
          case measure => simp [intOf]; omega
      | stop k hk qq hq hl log =>
        obtain ⟨pw, dvs, rvs, bvs, hlg⟩ := log
        have AP := Lib.hid (append_stop hlg S)
        have HG := Lib.hid hlg
        have HQQ := Lib.hid hq
        have t2 : decide ((0 : Int) ≤ -1 - (k : Int)) = false := decide_eq_false (by omega)
        have t3 : decide (-1 - (k : Int) < 0) = true := decide_eq_true (by omega)
        clear hlg hq hS
        go_wp2_with fail
        refine AP.out.mono ?_
        rintro e w6 ⟨rfl, rfl⟩
        go_wp2
        go_roundw
        case rel => exact ⟨i + 1, -1 - (k : Int), by omega, by go_num, rfl, .stop _ k (by omega) qq HQQ.out hl ⟨_, _, _, _, HG.out⟩, BW.out⟩
        case measure => simp [intOf]; omega
    · obtain rfl : i = K := by omega
      have t1 : decide ((i : Int) < (i : Int)) = false := decide_eq_false (by omega)
      clear hbw
      go_upto_if 100 with fail
      go_cut [11] (fun s11 wx => ∃ k : Nat, k ≤ i ∧ s11 = .int .i64 k ∧ KE w3 wx lp dp Q k ∧ Below w3.heap.size w3 wx)
      case first =>
        cases hks with
        | go log hpp =>
          obtain ⟨dvs, rvs, bvs, hlg⟩ := log
          have HK9 : Hid (KE w3 wr lp dp Q i) := Lib.hid ⟨[], _, _, _, _, _, by simp, by simp, by rw [List.append_nil]; exact hlg⟩
          have t3 : decide ((i : Int) < 0) = false := decide_eq_false (by omega)
          clear hlg hpp
          go_wp2
          go_meet
          exact ⟨i, Nat.le_refl _, rfl, HK9.out, BW.out⟩
        | stop k hk qq hq hl log =>
          obtain ⟨pw, dvs, rvs, bvs, hlg⟩ := log
          have HK9 : Hid (KE w3 wr lp dp Q k) := Lib.hid ⟨qq, _, _, _, _, _, hq, hl, hlg⟩
          have t3 : decide (-1 - (k : Int) < 0) = true := decide_eq_true (by omega)
          have t4 : -1 - (-1 - (k : Int)) = (k : Int) := by omega
          clear hlg hl hq
          go_wp2
          go_meet
          exact ⟨k, hk, rfl, HK9.out, BW.out⟩
      case rest =>
      obtain ⟨k, hk, rfl, ⟨qq, pw, cl, dvs, rvs, bvs, hq, hl, hlg⟩, hbw⟩ := hcut
      clear hks t1 hlt
      have d1 := hlg.disk.cell (j := 1) (v := .int .i64 pw) rfl
      have f1 := hlg.disk.free 1
      have G6 := Lib.hid (hlg.setPow (-1))
      have BW6 := Lib.hid (hbw.setCell (show w3.heap.size ≤ (⟨dp, 1, none⟩ : Addr).block from hlg.bd) (.int .i64 (-1)))
      have HQQ := Lib.hid hq
      have hkQ : k ≤ Q.length := by rw [HQ.out]; exact hk
      have RT := Lib.hid (right_take (fun t ht => (HTQ.out t ht).1) k : ∀ t ∈ Q.take k, rightL t = true)
      have hsz : sizeA (Q.take k) ≤ 1320 := by
        have h1 := sizeA_take_le Q k
        have h2 := sizeA_le Q (fun t ht => (HTQ.out t ht).2)
        rw [HQ.out] at h2; omega
      have HSZ := Lib.hid hsz
      clear hlg hbw hq BW hsz
      go_upto_region 23 with fail
      clear d1 f1
      generalize wc.setCell ⟨dp, 1, none⟩ (.int .i64 (-1)) = w6 at *
      have OP := Lib.hid (open_lg (bs := logA 1 (Q.take k) ++ qq) (pow := -1) (by rw [List.length_append, logA_len]; have := HSZ.out; omega) (by rw [scan_cut _ _ RT.out HQQ.out]) (HE.out.keep (bchain B3.out BW6.out)) G6.out.disk G6.out.bytes G6.out.bd (.inr (by decide)) (by decide) (by decide))
      rw [scan_cut _ _ RT.out HQQ.out, List.take_left' (logA_len 1 _)] at OP
      have hcp : cutPow (logA 1 (Q.take k) ++ qq).length (Sc.mk (Q.take k) (lastA 1 (Q.take k)) (sizeA (Q.take k)) true).size (-1) = -1 := by unfold cutPow lessP; split <;> rfl
      rw [hcp] at OP
      go_wp2_with fail
      refine OP.out.mono ?_
      rintro e w7 ⟨lp2, dv7, rv7, rfl, _, hlg, hfr, _⟩
      have hbd := G6.out.bd
      have BW7 := Lib.hid (BW6.out.trans (hfr.below BW6.out.size (fun x hx => by have hxd : x = dp := (by simpa using hx); omega)))
      have G7 := Lib.hid hlg
      clear hfr hlg OP hcp G6 BW6 hbd
      go_upto_region 24 with fail
      have HLQ : Hid ((Q.take k).length = k) := Lib.hid (List.length_take_of_le hkQ)
      obtain ⟨A7, c7, rfl⟩ := G7.out.bytes.bv.len
      have d0 := G7.out.disk.cell (j := 0) rfl
      rw [logA_len] at d0
      have i5 : k ≤ c3 := by omega
      have i6 : (k : Int) ≤ (c3 : Int) := by omega
      obtain ⟨M, hM⟩ : ∃ M, sizeA (Q.take k) = M := ⟨_, rfl⟩
      have HM := Lib.hid hM
      have SZ := Lib.hid (fun (wx : World) (hb : Below w7.heap.size w7 wx) => size_any lp2 dp _ _ _ _ _ wx (G7.out.keep hb).log)
      have RC := Lib.hid (fun (wx : World) (hb : Below w7.heap.size w7 wx) => records_len (hr := rs_of_own (G7.out.keep hb).rows) (h := (G7.out.keep hb).log) (hs := by rw [HLQ.out]; omega))
      have SM := Lib.hid (fun (wx : World) (hb : Below w7.heap.size w7 wx) (v : Value) (hv : RS wx v (Q.take k)) => same_self v (.slice (some ⟨g3, 0, none⟩) k c3) _ (by rw [HLQ.out]; omega) wx hv ((R3Q.out k hkQ).keep (BW7.out.trans (hb.mono BW7.out.size))))
      rw [HLQ.out] at RC
      rw [hM] at SZ d0
      have AP : Hid (∀ (wx : World), Below w7.heap.size w7 wx → Calls Tryd.prog 14 #[.pointer (some ⟨lp2, 0, none⟩), .string T] wx (fun e w' => e = .returned (.int .i64 0) ∧ KF w3 w' lp2 dp (Q.take k) T.data.toList ∧ Below w3.heap.size wx w')) :=
        Lib.hid (fun wx hb => append_kf (G7.out.keep hb) (HE.out.keep (bchain B3.out (BW7.out.trans (hb.mono BW7.out.size)))) HTR.out (by rw [HM.out]; have := HSZ.out; omega) (by rw [HLQ.out]; omega))
      go_cut [141] (fun s wx => s = .bool false ∧ KF w3 wx lp2 dp (Q.take k) T.data.toList ∧ Below w3.heap.size w3 wx)
      case first =>
        refine rest_begin (by kernel_rfl) ?_
        have BD7 : Hid (Below w7.heap.size w7 w7.drew) := Lib.hid (Below.drew (Below.refl _ w7))
        have d0' := keepW BD7.out d0
        have D0 := Lib.hid d0
        clear d0
        generalize w7.drew = w7d at *
        refine rest_forced 7 (by kernel_rfl) ?_
        go_wp2_with fail
        refine rest_open 24 (by kernel_rfl) ?_
        refine rest_take 9 _ (.slice (some ⟨g3, 0, none⟩) i c3) rfl (by kernel_rfl) (by kernel_rfl) (by kernel_rfl) (fun _ _ _ h => h) (by kernel_rfl) (fun w => rfl) ?_
        refine rest_take 10 _ (.int .i64 (k : Int)) rfl (by kernel_rfl) (by kernel_rfl) (by kernel_rfl) (fun _ _ _ h => h) (by kernel_rfl) (fun w => rfl) ?_
        refine rest_take 11 _ (.slice (some ⟨g3, 0, none⟩) k c3) rfl (by kernel_rfl) (by kernel_rfl) (by kernel_rfl) (fun _ _ _ h => h) (by kernel_rfl) (fun w => by go_simp) ?_
        refine rest_one (i := 7) (by kernel_rfl) rfl ?_
        go_wp2_with fail
        refine rest_one (i := 8) (by kernel_rfl) rfl ?_
        go_wp2_with fail
        refine (RC.out _ BD7.out).mono ?_
        rintro e w' ⟨A9, c9, rfl, hrs, hb⟩
        have BD8 := Lib.hid (bchain BD7.out hb)
        have SM8 := Lib.hid (SM.out _ BD8.out _ hrs)
        clear hrs hb
        go_wp2_with fail
        refine rest_one (i := 12) (by kernel_rfl) rfl ?_
        go_wp2_with fail
        refine SM8.out.mono ?_
        rintro e w'' ⟨rfl, hb⟩
        have BD9 := Lib.hid (bchain BD8.out hb)
        have d0'' := keepW BD9.out D0.out
        clear hb d0'
        go_wp2_with fail
        refine rest_close 13 (by kernel_rfl) (by kernel_rfl) ?_
        refine rest_forced 3 (by kernel_rfl) ?_
        go_wp2_with fail
        have m0 := Since.cell d0''
        refine rest_quiet (fun w' => ∃ u : Since w'', w' = u.val) 12 (by kernel_rfl) ⟨⟨w'', Below.refl _ _⟩, rfl⟩ ?_
        simp only [List.take_succ_cons, List.take_zero, List.drop_succ_cons, List.drop_zero]
        repeat (quiet_step ((go_at_call 17; exact Calls.since ((SZ.out _ (bchain BD9.out (Since.property _))).mono fun _ _ hh => ⟨hh.1, below_pure hh.2⟩))))
        refine wpQuiet_nil ?_
        rintro wq ⟨u, rfl⟩
        have BDA := Lib.hid (bchain BD9.out u.property)
        clear m0 d0'' BD9 BD8 BD7 SM8
        generalize u.val = wA at *
        refine rest_forced 3 (by kernel_rfl) ?_
        go_wp2_with fail
        refine (AP.out _ BDA.out).mono ?_
        rintro e w8 ⟨rfl, hkf, hb8⟩
        have HKF := Lib.hid hkf
        have HB8 := Lib.hid ((BW7.out.trans (BDA.out.mono BW7.out.size)).trans hb8)
        clear hkf hb8
        go_wp2_with fail
        refine rest_done (by kernel_rfl) ?_
        go_wp2_with fail
        go_meet
        exact ⟨rfl, HKF.out, HB8.out⟩
      case rest =>
      obtain ⟨rfl, hkf, hbw8⟩ := hcut
      have HKF := Lib.hid hkf
      have B8 := Lib.hid (bchain B3.out hbw8)
      have RW8 := Lib.hid ((R3Q.out k hkQ).keep hbw8)
      have BW8 := Lib.hid hbw8
      clear hkf hbw8 d0 SZ RC SM AP G7
      obtain ⟨dv8, rv8, bv8, hlg8⟩ := HKF.out
      obtain ⟨A8, c8, rfl⟩ := hlg8.bytes.bv.len
      have G8 := Lib.hid hlg8
      have BV8 := Lib.hid hlg8.bytes.bv
      clear hlg8 HKF
      go_wp2_with (first
        | (at_builtin; refine wp_strs_own rfl (.tmp 143) (.tmp 146) rfl _ wc.heap.size _ 0 [] rfl (own_empty wc 9) (some ⟨g3, 0, none⟩) k c3 (Q.take k) HLQ.out rfl (RW8.out.keep (below1 _ _)) (by omega) (by simp) ?_; intro v9 w9 ho9 _ hb9; rw [Nat.zero_add, List.nil_append] at ho9; have HO9 := Lib.hid ho9; have B9 := Lib.hid (Below.trans (below1 wc (.cells #[] 9)) hb9); clear ho9 hb9)
        | (at_builtin; refine app1 rfl (.tmp 147) (.tmp 149) rfl Tryd.underlying22 hj0 hy0 hy1 hy2 rfl _ wc.heap.size _ k _ (.string T) rfl rfl rfl rfl HO9.out B9.out.size (by omega) (by decide) ?_; intro v10 wd ho10 _ _ hb10; obtain ⟨AA, ca, rfl⟩ := own_slice ho10; have HOA := Lib.hid ho10; have BA := Lib.hid (B9.out.trans hb10); clear ho10 hb10))
      have hlA : (Q.take k ++ [T.data.toList]).length = k + 1 := by rw [List.length_append, HLQ.out]; rfl
      have WR := Lib.hid (written_any AA ca (Q.take k ++ [T.data.toList]) (by omega) (fun t ht => by
        rcases List.mem_append.1 ht with h | h
        · exact HTQ.out t (List.mem_of_mem_take h)
        · obtain rfl : t = T.data.toList := by simpa using h
          exact HTR.out) wd (HE.out.keep (bchain B8.out BA.out)) (rs_of_own (base := wc.heap.size) (by
        have h := HOA.out
        rw [hlA, List.map_append]
        exact h)))
      rw [hlA] at WR
      clear HO9 HOA
      refine WR.out.mono ?_
      rintro e we ⟨dvw, evw, rfl, hdv, hev, hb⟩
      obtain ⟨AW2, cw, rfl⟩ := hdv.bv.len
      have BVW := Lib.hid hdv.bv
      have BE := Lib.hid (bchain (bchain B8.out BA.out) hb)
      have BVE := Lib.hid (BV8.out.keep (bchain BA.out hb))
      have d8 : we.cell? ⟨dp, 0, none⟩ = some (.slice A8 (logA 1 (Q.take k ++ [T.data.toList])).length c8) := keepW (bchain BA.out hb) (G8.out.disk.cell (j := 0) rfl)
      clear hdv hev hb WR
      generalize logA 1 (Q.take k ++ [T.data.toList]) = BL at *
      obtain ⟨Z, hZ⟩ : ∃ Z : ByteArray, (⟨BL.toArray⟩ : ByteArray) = Z := ⟨_, rfl⟩
      have t9 : (Z.toList == Z.toList) = true := beq_self_eq_true _
      have m1 := fun u : Since we => (conv_bv (BVW.out.keep u.property)).trans (by rw [hZ])
      have m2 := fun u : Since we => (conv_bv (BVE.out.keep u.property)).trans (by rw [hZ])
      have m3 := Since.cell d8
      obtain ⟨BN, hBN⟩ : ∃ n, BL.length = n := ⟨_, rfl⟩
      rw [hBN] at m1 m2 m3 d8 ⊢
      clear hZ hBN
      go_upto_region 27 with fail
      refine region_since (by kernel_rfl) (by kernel_rfl) ?_
      repeat (quiet_step ((go_at_call 19; exact Calls.since (AW.out _ (HE.out.keep (bchain BE.out (Since.property _)))))))
      refine wpQuiet_nil ?_
      rintro wq ⟨u, rfl⟩
      have BF := Lib.hid (bchain BE.out u.property)
      clear m1 m2 m3
      generalize u.val = wf at *
      go_wp2_with fail
      go_ret
      exact ⟨rfl, BF.out⟩
theorem keeps_walk {v : Value} (p : Nat) (hp : p < 65536) (X : ByteArray) (w : World) (he : Env w) (hB : ∃ (A : Option Addr) (cap : Nat) (l : List (List UInt8)), v = .slice A l.length cap ∧ l.length ≤ cap ∧ RS w v l) :
    Calls Tryd.prog 3 #[v, .int .u16 (p : Int), .string X] w (fun e w' => e = .returned (.bool true) ∧ Below w.heap.size w w') := by
  obtain ⟨A, cap, l, rfl, hcap, hB⟩ := hB
  exact keeps_any A cap l hcap p hp X w he hB
end Go.Proofs.YtbompgfjlllioaaDoor
