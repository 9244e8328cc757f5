/- JournalSwaps: the walk. -/
import Derived.Test.YtbompgfjlllioaaDoorJNone
import Derived.Test.YtbompgfjlllioaaDoorJOneW
import Derived.Test.YtbompgfjlllioaaDoorJKeepsW
import Derived.BigRegion
namespace Go.Proofs.YtbompgfjlllioaaDoor
open Go Go.RowKit

/-- The check of the i-th line in the log. -/
theorem fig_at (L : List (List UInt8)) (i : Nat) (hi : i < L.length) : (logA 1 L).drop (sizeA (L.take i)) = figL (lastA 1 (L.take (i + 1))) ++ (logA 1 L).drop (sizeA (L.take i) + 4) := by
  have e : lastA 1 (L.take (i + 1)) = sumL (lastA 1 (L.take i)) L[i] := by
    rw [List.take_add_one, List.getElem?_eq_getElem hi]; exact lastA_snoc _ _ _
  have h1 : (logA 1 L).drop (sizeA (L.take i)) = figL (lastA 1 (L.take (i + 1))) ++ (([32] ++ L[i] ++ [10]) ++ logA (sumL (lastA 1 (L.take i)) L[i]) (L.drop (i + 1))) := by
    conv => lhs; rw [logA_split 1 L i hi]
    rw [List.drop_left' (logA_len 1 _), e]; unfold lineL; simp
  have h2 := congrArg (List.drop 4) h1
  rw [List.drop_drop, List.drop_left' (figL_len _)] at h2
  rw [h1, h2]
/-- append(out, b...) inside a region that draws its order. -/
theorem wp_bv_op {o : Oper} {a : Act} {K : Act → World → Prop} {Q : Exit → Act → World → Prop} (sl x : Operand)
    (ho : o.op = .call { callee := .builtin .append, args := #[sl, x], argTypes := #[26, 26] }) (w : World) (base : Nat) (v : Value) (n : Nat) (l : List UInt8) (hs : a.eval sl = v) (hown : w.ownsRow base 5 1 v n (l.map byteV))
    (A : Option Addr) (m c : Nat) (l2 : List UInt8) (hm : l2.length = m) (hx : a.eval x = .slice A m c) (hR : BV w (.slice A m c) l2) (hlen : n + m ≤ 100000000) (hbase : base ≤ w.heap.size)
    (h : ∀ v' w', w'.ownsRow base 5 1 v' (n + m) ((l ++ l2).map byteV) → Below base w w' → K (a.put o.dst v') w') : o.wp Tryd.prog a w K Q := by
  obtain ⟨i0, hi0, hz0, hz1, hz2⟩ := info_parts info_u8
  subst hm
  generalize hv : Value.slice A l2.length c = u at hR
  cases hR with
  | none_ =>
    injection hv with h1 h2 h3
    subst h1 h3
    have hr := run_append_owned_none (P := Tryd.prog) w base 26 o.type 5 i0 1 Tryd.underlying26 hi0 v n (l.map byteV) hown
    have hx' : a.eval x = .slice none 0 0 := hx
    unfold Oper.wp execOp
    simp only [ho, resolve, invoke, builtin, Sem.run_bind, Sem.run_pure, Result.andThen_ok, List.map_toArray, List.map_cons, List.map_nil, hs, hx', hr]
    exact h v w (by simpa using hown) (Below.refl _ _)
  | some_ b off c l2 hcap hc =>
    injection hv with h1 h2 h3
    subst h1 h3
    refine wp_append_own _ sl x 26 ho base 5 i0 (.int .u8 0) 1 1 Tryd.underlying26 hi0 hz0 hz1 hz2 rfl (by decide) v n (l.map byteV) hs hown ⟨b, off, none⟩ l2.length _ (l2.map byteV) hx (by simp) (cells_of_bs hc) byte_one (by unfold maxLen; omega) (by omega) hbase ?_
    intro v' w' h1 h2 _
    rw [← List.map_append] at h1
    exact h v' w' h1 ((Below.refl base w).grown h2 hbase fun k hk => (hown.lt k hk).1)
theorem u8_ne2 (c d : UInt8) : (((c.toNat : Int) != (d.toNat : Int)) = (c != d)) ∧ ((c.toNat != d.toNat) = (c != d)) := by
  obtain ⟨h1, h2⟩ := u8_eq2 c d
  constructor
  · unfold bne; rw [h1]
  · unfold bne; rw [h2]
/-- A byte of a record in the log. -/
theorem rec_at (L : List (List UInt8)) (i k : Nat) {t : List UInt8} (ht : L[i]? = some t) (hk : k < t.length) {p : Nat} (hp : sizeA (L.take i) + 5 + k = p) : (logA 1 L)[p]? = some t[k] := by
  have hi := (List.getElem?_eq_some_iff.1 ht).1
  have e : L[i] = t := by rw [List.getElem?_eq_getElem hi] at ht; exact Option.some.inj ht
  rw [logA_split 1 L i hi, e, List.getElem?_append_right (by rw [logA_len]; omega), logA_len, List.getElem?_append_left (by rw [lineL_len]; omega), lineL_body, List.getElem?_append_left (by rw [bodyL_len]; omega)]
  unfold bodyL
  rw [List.getElem?_append_right (by simp [figL_len]; omega)]
  have : p - sizeA (L.take i) - (figL (sumL (lastA 1 (L.take i)) t) ++ [32]).length = k := by simp [figL_len]; omega
  rw [this, List.getElem?_eq_getElem hk]
set_option maxRecDepth 100000 in
set_option maxHeartbeats 8000000 in
theorem swaps_any (A : Option Addr) (cap : Nat) (l0 : List (List UInt8)) (hcap : l0.length ≤ cap) (wh : Nat) (hwh : wh < 256) (a : Nat) (ha : a < 256) (w : World) (he : Env w) (hB : RS w (.slice A l0.length cap) l0) :
    Calls Tryd.prog 5 #[.slice A l0.length cap, .int .u8 (wh : Int), .int .u8 (a : Int)] w (fun e w' => e = .returned (.bool true) ∧ Below w.heap.size w w') := by
  have TX := Lib.hid (texts_any A cap l0 hcap w hB)
  have HL2 := Lib.hid (textsL_len l0)
  have HLR := Lib.hid (textsL_right l0)
  have AW := Lib.hid (fun W he => awake_any W he)
  have HE := Lib.hid he
  generalize textsL l0 = L at *
  generalize l0.length = n0 at *
  clear he hB hcap
  go_enter Tryd.func5, Tryd.ntmps5
  go_wp2_with fail
  refine TX.out.mono ?_
  rintro e w1 ⟨v, rfl, hown, hb⟩
  obtain ⟨A1, c1, rfl⟩ := own_slice hown
  have B1 := Lib.hid hb
  have hc1 := own_cap hown
  have R1 := Lib.hid (rs_of_own hown)
  have R1C : Hid (∀ i t, L[i]? = some t → ∃ g, A1 = some ⟨g, 0, none⟩ ∧ w1.cell? ⟨g, i, none⟩ = some (strV t)) := Lib.hid (fun i t hi => str_cell hown hi rfl)
  have WR := Lib.hid (written_any A1 c1 L (by have := HL2.out; omega) HLR.out w1 (HE.out.keep hb) R1.out)
  obtain ⟨N, hN⟩ : ∃ N, L.length = N := ⟨_, rfl⟩
  have HN := Lib.hid hN
  have HSZ := Lib.hid (sizeA_le L (fun t ht => (HLR.out t ht).2))
  rw [hN] at hc1 WR ⊢
  clear hown hb hN TX
  go_wp2_with fail
  refine WR.out.mono ?_
  rintro e w2 ⟨dv, ev, rfl, hdv, hev, hb⟩
  have hdv := dv_base hdv B1.out.size
  obtain ⟨A2, c2, rfl⟩ := hdv.bv.len
  rw [HN.out] at hev
  obtain ⟨A3, c3, rfl⟩ := own_slice hev
  have hc2 := (dv_cap hdv).1
  have DV2 := Lib.hid hdv
  have EV := Lib.hid hev
  have B2 := Lib.hid (bchain B1.out hb)
  have R2 := Lib.hid (R1.out.keep hb)
  rw [logA_len] at hc2 ⊢
  obtain ⟨M, hM⟩ : ∃ M, sizeA L = M := ⟨_, rfl⟩
  have HM := Lib.hid hM
  have hM2 : M ≤ 1320 := by have := HSZ.out; have := HN.out; have := HL2.out; omega
  have hN2 : N ≤ 20 := by have := HN.out; have := HL2.out; omega
  rw [hM] at hc2 ⊢
  have RCELL : Hid (∀ i t, L[i]? = some t → ∃ g, A1 = some ⟨g, 0, none⟩ ∧ w2.cell? ⟨g, i, none⟩ = some (strV t)) := Lib.hid (fun i t hi => by
    obtain ⟨g, e, hc⟩ := R1C.out i t hi
    exact ⟨g, e, keepW hb hc⟩)
  clear hev hb hM WR R1C
  by_cases hN0 : N = 0
  · have z1 : ((N : Int) == 0) = true := by rw [hN0]; rfl
    have z2 : (N == 0) = true := by rw [hN0]; rfl
    clear hN0 hdv
    go_wp2_with fail
    refine (AW.out _ (HE.out.keep B2.out)).mono ?_
    rintro e wz ⟨rfl, hb⟩
    have BZ := Lib.hid (bchain B2.out hb)
    clear hb
    go_wp2
    go_ret
    exact ⟨rfl, BZ.out⟩
  have z1 : ((N : Int) == 0) = false := beq_eq_false_iff_ne.2 (by omega)
  have z2 : (N == 0) = false := beq_eq_false_iff_ne.2 hN0
  obtain ⟨i, hi0⟩ : ∃ i : Nat, wh % N = i := ⟨_, rfl⟩
  have hi1 : (wh : Int) % (N : Int) = (i : Int) := by rw [← hi0]; simp
  have hi2 : i < N := by have := Nat.mod_lt wh (by omega : 0 < N); omega
  have hiL : i < L.length := by rw [HN.out]; exact hi2
  obtain ⟨T, hT⟩ : ∃ T : ByteArray, T.data.toList = L[i] := ⟨⟨L[i].toArray⟩, rfl⟩
  obtain ⟨gl, rfl, c0⟩ := RCELL.out i _ (List.getElem?_eq_getElem hiL)
  rw [str_val _ T hT] at c0
  have C0 := Lib.hid c0
  have HT : Hid (L[i]? = some T.data.toList) := Lib.hid (by rw [List.getElem?_eq_getElem hiL, hT])
  have HTS : Hid (T.size ≤ 60) := Lib.hid (by have := (HLR.out _ (List.getElem_mem hiL)).2; rw [← hT, str_len] at this; exact this)
  clear hN0 hdv hiL hT hi0
  obtain ⟨D, hD⟩ : ∃ D, sizeA (L.take i) = D := ⟨_, rfl⟩
  have HD := Lib.hid hD
  have hDM : D ≤ M := by rw [← hD, ← HM.out]; exact sizeA_take_le L i
  clear hD
  go_upto_if 41 with fail
  rw [hi1]
  clear hi1 z1 z2
  go_cut [11] (fun s11 wx => s11 = .int .i64 (D : Int) ∧ wx = w2)
  case first =>
    by_cases hi3 : i = 0
    · have t1 : decide ((0 : Int) < (i : Int)) = false := decide_eq_false (by omega)
      have t1' : decide (0 < i) = false := decide_eq_false (by omega)
      first | rw [t1'] | rw [t1]
      have hD0 : Hid (D = 0) := Lib.hid (by rw [← HD.out, hi3]; rfl)
      clear hi3
      go_wp2
      go_meet
      exact ⟨by rw [hD0.out]; rfl, rfl⟩
    · have t1 : decide ((0 : Int) < (i : Int)) = true := decide_eq_true (by omega)
      have t1' : decide (0 < i) = true := decide_eq_true (by omega)
      first | rw [t1'] | rw [t1]
      obtain ⟨j, hj⟩ : ∃ j, i = j + 1 := ⟨i - 1, by omega⟩
      subst hj
      obtain ⟨ge, rfl, c1⟩ := ends_cell EV.out (endsA_at L j (by have := HN.out; omega)) (by rw [endsA_len]; exact HN.out)
      rw [HD.out] at c1
      have j1 : (j : Int) < (N : Int) := by omega
      go_wp2
      go_meet
      exact ⟨rfl, rfl⟩
  case rest =>
  obtain ⟨rfl, hwc⟩ := hcut
  rw [hwc]
  clear hwc
  go_upto_if 53 with fail
  have RG := Lib.hid (fun t ht => (HLR.out t ht).1 : ∀ t ∈ L, rightL t = true)
  have hsp : D + T.size + 6 ≤ M := by
    rw [← HD.out, ← HM.out]
    have h1 := sizeA_take_next L i (by rw [HN.out]; exact hi2)
    have h2 := sizeA_take_le L (i + 1)
    have h3 := HT.out
    rw [List.getElem?_eq_getElem (by rw [HN.out]; exact hi2)] at h3
    have h4 : (L[i]'(by rw [HN.out]; exact hi2)).length = T.size := by rw [Option.some.inj h3, str_len]
    omega
  have hNB := hN2
  go_cut [12] (fun s12 wx => Below w2.heap.size w2 wx)
  case first =>
   as_aux_lemma =>
    clear c0
    by_cases hT1 : 1 < T.size
    case neg =>
      have t1 : decide ((1 : Int) < (T.size : Int)) = false := decide_eq_false (by omega)
      have t1' : decide (1 < T.size) = false := decide_eq_false (by omega)
      first | rw [t1'] | rw [t1]
      clear hT1
      go_wp2
      go_meet
      exact Below.refl _ _
    case pos =>
    have t1 : decide ((1 : Int) < (T.size : Int)) = true := decide_eq_true (by omega)
    have t1' : decide (1 < T.size) = true := decide_eq_true (by omega)
    first | rw [t1'] | rw [t1]
    obtain ⟨m, hm⟩ : ∃ m, T.size = m + 1 := ⟨T.size - 1, by omega⟩
    have hm0 : 0 < m := by omega
    have eTs : (T.size : Int) = (m : Int) + 1 := by omega
    obtain ⟨k, hk0⟩ : ∃ k : Nat, a % m = k := ⟨_, rfl⟩
    have hk1 : (a : Int) % (m : Int) = (k : Int) := by rw [← hk0]; simp
    have hk2 : k < m := by have := Nat.mod_lt a hm0; omega
    have hkT : k < T.size := by omega
    have hkT1 : k + 1 < T.size := by omega
    have hm60 : m ≤ 60 := by have := HTS.out; omega
    have hD1320 : D ≤ 1320 := by omega
    have z1 : (m == 0) = false := beq_eq_false_iff_ne.2 (by omega)
    have z2 : ((m : Int) == 0) = false := beq_eq_false_iff_ne.2 (by omega)
    have HK := Lib.hid hk2
    clear hk0 hT1 hm
    go_upto_region 14 with fail
    try rw [hk1]
    clear eTs hk1 z1 z2 t1 t1'
    go_upto_region 15 with (at_builtin; refine wp_bv_own rfl (.tmp 60) (.tmp 61) rfl _ w2.heap.size _ 0 [] rfl (own_empty w2 5) A2 M c2 (logA 1 L) (by rw [logA_len, HM.out]) rfl (by have h := DV2.out.bv.keep (below1 w2 (.cells #[] 5)); rw [logA_len, HM.out] at h; exact h) (by omega) (by simp) ?_; intro v3 w3 ho3 _ hb3; rw [Nat.zero_add, List.nil_append] at ho3; obtain ⟨A4, c4, rfl⟩ := own_slice ho3; have HO3 := Lib.hid ho3; have BB3 := Lib.hid (Below.trans (below1 w2 (.cells #[] 5)) hb3); clear ho3 hb3)
    have DV3 := Lib.hid (dv_of_own HO3.out)
    obtain ⟨P0, hP0⟩ : ∃ P0, D + 5 + k = P0 := ⟨_, rfl⟩
    obtain ⟨P1, hP1⟩ : ∃ P1, D + 6 + k = P1 := ⟨_, rfl⟩
    obtain ⟨Q0, hQ0⟩ : ∃ Q0, D + 5 = Q0 := ⟨_, rfl⟩
    obtain ⟨Q1, hQ1⟩ : ∃ Q1, D + 6 = Q1 := ⟨_, rfl⟩
    have hPP : P0 ≠ P1 := by omega
    have f1 : IntKind.i64.wrap ((D : Int) + 5) = (Q0 : Int) := by rw [IntWalk.i64_in _ (by omega)]; omega
    have f2 : IntKind.i64.wrap ((Q0 : Int) + (k : Int)) = (P0 : Int) := by rw [IntWalk.i64_in _ (by omega)]; omega
    have f3 : IntKind.i64.wrap ((D : Int) + 6) = (Q1 : Int) := by rw [IntWalk.i64_in _ (by omega)]; omega
    have f4 : IntKind.i64.wrap ((Q1 : Int) + (k : Int)) = (P1 : Int) := by rw [IntWalk.i64_in _ (by omega)]; omega
    have g1 : (0 : Int) ≤ (P0 : Int) := by omega
    have g2' : (P0 : Int) < (M : Int) := by omega
    have g3 : (0 : Int) ≤ (P1 : Int) := by omega
    have g4 : (P1 : Int) < (M : Int) := by omega
    have hx0 : (logA 1 L)[P0]? = some (T.data.toList[k]'(by rw [str_len]; exact hkT)) := rec_at L i k HT.out (by rw [str_len]; exact hkT) (by rw [HD.out]; exact hP0)
    have hx1 : (logA 1 L)[P1]? = some (T.data.toList[k + 1]'(by rw [str_len]; exact hkT1)) := rec_at L i (k + 1) HT.out (by rw [str_len]; exact hkT1) (by rw [HD.out]; omega)
    obtain ⟨gc, e4, hgc, -⟩ := DV3.out.at_ (i := P0) (by rw [logA_len, HM.out]; omega)
    subst e4
    have kc1 : w3.cell? ⟨gc, P1, none⟩ = some (.int .u8 ((T.data.toList[k + 1]'(by rw [str_len]; exact hkT1)).toNat : Int)) := by
      have := dv_bs DV3.out P1 _ hx1
      rwa [Nat.zero_add] at this
    have c0 : w3.cell? ⟨gc, P0, none⟩ = some (.int .u8 ((T.data.toList[k]'(by rw [str_len]; exact hkT)).toNat : Int)) := by
      have := dv_bs DV3.out P0 _ hx0
      rwa [Nat.zero_add] at this
    rw [str_at T k hkT] at c0
    rw [str_at T (k + 1) hkT1] at kc1
    have y0 := DV3.out.free P0
    have y1 := DV3.out.free P1
    clear hx0 hx1
    go_region
    obtain ⟨w4, hw4⟩ : ∃ w4, ((w3.setCell ⟨gc, P0, none⟩ (.int .u8 (T[k + 1].toNat : Int))).setCell ⟨gc, P1, none⟩ (.int .u8 (T[k].toNat : Int))).drew = w4 := ⟨_, rfl⟩
    have D4 : Hid (DV w4 w2.heap.size (.slice (some ⟨gc, 0, none⟩) M c4) (((logA 1 L).set P0 T[k + 1]).set P1 T[k])) := Lib.hid (by rw [← hw4]; exact ((DV3.out.set P0 T[k + 1]).set P1 T[k]).keep (Below.drew (Below.refl _ _)))
    have BB4 : Hid (Below w2.heap.size w2 w4) := Lib.hid (by rw [← hw4]; exact ((BB3.out.setCell (show w2.heap.size ≤ (⟨gc, P0, none⟩ : Addr).block from hgc) (.int .u8 (T[k + 1].toNat : Int))).setCell (show w2.heap.size ≤ (⟨gc, P1, none⟩ : Addr).block from hgc) (.int .u8 (T[k].toNat : Int))).drew)
    rw [hw4]
    have hXL : (((logA 1 L).set P0 T[k + 1]).set P1 T[k]).length = M := by rw [List.length_set, List.length_set, logA_len, HM.out]
    have hSW : T[k] ≠ T[k + 1] → scanS (linesL (((logA 1 L).set P0 T[k + 1]).set P1 T[k])) = ⟨L.take i, lastA 1 (L.take i), D, false⟩ := fun hn => by
      have h := swap_scan L RG.out i k (by rw [HN.out]; exact hi2) T.data.toList (by have h3 := HT.out; rw [List.getElem?_eq_getElem (by rw [HN.out]; exact hi2)] at h3; exact Option.some.inj h3) (by rw [str_len]; exact hkT1) (by rw [str_at T k hkT, str_at T (k + 1) hkT1]; exact hn)
      rw [HD.out, hP0, hP1, str_at T k hkT, str_at T (k + 1) hkT1] at h
      exact h
    have HSW := Lib.hid hSW
    generalize ((logA 1 L).set P0 T[k + 1]).set P1 T[k] = X at *
    have HXL := Lib.hid hXL
    have hlk : (L.take i).length = i := List.length_take_of_le (by rw [HN.out]; omega)
    have HLK := Lib.hid hlk
    have SM := Lib.hid (fun (wx : World) (hb : Below w4.heap.size w4 wx) (v : Value) (hv : RS wx v (L.take i)) => same_self v (.slice (some ⟨gl, 0, none⟩) i c1) _ (by rw [HLK.out]; omega) wx hv (((R2.out.keep BB4.out).keep hb).take i (by rw [HN.out]; omega)))
    have i5 : i ≤ c1 := by omega
    have i6 : (i : Int) ≤ (c1 : Int) := by omega
    have q1 : (k : Int) < (T.size : Int) := by omega
    have q2 : (k : Int) + 1 < (T.size : Int) := by omega
    have q3 : IntKind.i64.wrap ((k : Int) + 1) = (k : Int) + 1 := IntWalk.i64_in _ (by omega)
    have q4 : (0 : Int) ≤ (k : Int) := by omega
    have q5 : (0 : Int) ≤ (k : Int) + 1 := by omega
    have q6 : ((k : Int) + 1).toNat = k + 1 := by omega
    clear hw4 hXL hSW c0 kc1 y0 y1 DV3 BB3 HO3 f1 f2 f3 f4 g1 g2' g3 g4 hgc
    by_cases hne : T[k] = T[k + 1]
    · have SCX := Lib.hid (scanx_any (.slice (some ⟨gc, 0, none⟩) M c4) X (by rw [HXL.out]; omega) w4 (HE.out.keep (bchain B2.out BB4.out)) (by have := D4.out.bv; exact this))
      obtain ⟨u1, u2⟩ := u8_ne2 T[k] T[k + 1]
      rw [bne_eq_false_iff_eq.2 hne] at u1 u2
      generalize tailP (scanS (linesL X)) X.length = tl at *
      generalize scanS (linesL X) = SS at *
      clear hne HSW
      go_wp2_with fail
      refine SCX.out.mono ?_
      rintro e w5 ⟨u, rfl, hr, hb⟩
      obtain ⟨A5, c5, rfl⟩ := own_slice hr
      have BB5 := Lib.hid (bchain BB4.out hb)
      clear hr hb SCX
      go_upto_region 17 with fail
      go_quiet (fail)
      have BB6 := Lib.hid (below_drewN BB5.out nq)
      generalize w5.drewN nq = w6 at *
      go_wp2_with fail
      go_meet
      exact BB6.out
    · have SCX := Lib.hid (scan_c (.slice (some ⟨gc, 0, none⟩) M c4) w4 (HE.out.keep (bchain B2.out BB4.out)) X (by rw [HXL.out]; omega) (by have := D4.out.bv; exact this) (L.take i) D 2 (by rw [HSW.out hne]) (by rw [HSW.out hne]) (by rw [HSW.out hne]; rfl))
      rw [HLK.out] at SCX
      obtain ⟨u1, u2⟩ := u8_ne2 T[k] T[k + 1]
      rw [bne_iff_ne.2 hne] at u1 u2
      clear hne HSW
      go_wp2_with fail
      refine SCX.out.mono ?_
      rintro e w5 ⟨A5, c5, rfl, hrs, hb⟩
      have BB5 := Lib.hid (bchain BB4.out hb)
      have SM5 := Lib.hid (fun (wx : World) (hx : Below w5.heap.size w5 wx) => SM.out wx (bchain hb hx) _ (hrs.keep hx))
      clear hrs hb SCX SM
      go_upto_region 17 with fail
      refine region_since (by kernel_rfl) (by kernel_rfl) ?_
      repeat (quiet_step ((go_at_call 15; exact Calls.since (SM5.out _ (Since.property _)))))
      refine wpQuiet_nil ?_
      rintro wq ⟨u, rfl⟩
      have BB6 := Lib.hid (bchain BB5.out u.property)
      generalize u.val = w6 at *
      go_wp2_with fail
      go_meet
      exact BB6.out
  case rest =>
  clear c0 C0 HT HTS hsp hNB
  have BC := Lib.hid hcut
  clear hcut
  have BCW := Lib.hid (bchain B2.out BC.out)
  go_upto_region 19 with fail
  have v1 : IntKind.i64.wrap ((i : Int) + 1) = (i : Int) + 1 := IntWalk.i64_in _ (by omega)
  by_cases h1 : i + 1 < N
  case neg =>
    have t1 : decide ((i : Int) + 1 < (N : Int)) = false := decide_eq_false (by omega)
    clear h1
    go_quiet (fail)
    have BD := Lib.hid (below_drewN BCW.out nq)
    generalize wc.drewN nq = wd at *
    clear t1 v1
    go_wp2_with fail
    refine (AW.out _ (HE.out.keep BD.out)).mono ?_
    rintro e wz ⟨rfl, hb⟩
    have BZ := Lib.hid (bchain BD.out hb)
    clear hb
    go_wp2
    go_ret
    exact ⟨rfl, BZ.out⟩
  case pos =>
  have t1 : decide ((i : Int) + 1 < (N : Int)) = true := decide_eq_true (by omega)
  have hMi : D + 6 + 6 ≤ M := by
    rw [← HD.out, ← HM.out]
    have h2 := sizeA_take_next L i (by rw [HN.out]; exact hi2)
    have h3 := sizeA_take_next L (i + 1) (by rw [HN.out]; exact h1)
    have h4 := sizeA_take_le L (i + 1 + 1)
    omega
  have HM2 := Lib.hid h1
  obtain ⟨gb, e5, hgb, -⟩ := DV2.out.at_ (i := 0) (by rw [logA_len, HM.out]; omega)
  subst e5
  have hBS : BS wc gb 0 (logA 1 L) := (dv_bs DV2.out).keep (BC.out)
  have HBS := Lib.hid hBS
  have HF : Hid ((logA 1 L).drop D = figL (lastA 1 (L.take (i + 1))) ++ (logA 1 L).drop (D + 4)) := Lib.hid (by rw [← HD.out]; exact fig_at L i (by rw [HN.out]; exact hi2))
  obtain ⟨x', hx'⟩ : ∃ x', lastA 1 (L.take (i + 1)) = x' := ⟨_, rfl⟩
  obtain ⟨x, hx⟩ : ∃ x, lastA 1 (L.take i) = x := ⟨_, rfl⟩
  rw [hx'] at HF
  have HX' := Lib.hid hx'
  have HX := Lib.hid hx
  clear hBS h1 hx' hx
  go_cut [168] (fun s wx => s = .bool (!(figL x' == figL x)) ∧ Below wc.heap.size wc wx)
  case first =>
   as_aux_lemma =>
    obtain ⟨F1, hF1⟩ : ∃ F1 : ByteArray, (⟨(figL x').toArray⟩ : ByteArray) = F1 := ⟨_, rfl⟩
    by_cases hi3 : i = 0
    · have t2 : decide ((0 : Int) < (i : Int)) = false := decide_eq_false (by omega)
      have t2' : decide (0 < i) = false := decide_eq_false (by omega)
      have t3 : ((i : Int) == 0) = true := by rw [hi3]; rfl
      have t3' : (i == 0) = true := by rw [hi3]; rfl
      have hD0 : D = 0 := by rw [← HD.out, hi3]; rfl
      have hxx : x = 1 := by rw [← HX.out, hi3]; rfl
      have j1 : (4 : Int) ≤ (c2 : Int) := by omega
      have j2 : 4 ≤ c2 := by omega
      have CV : ∀ n, (convert 26 9 (.slice (some ⟨gb, 0, none⟩) 4 c2)).run Tryd.prog (wc.drewN n) = .ok (.string F1) (wc.drewN n) := fun n => by
        have hb : BS (wc.drewN n) gb 0 (figL x') := by
          have h2 := (HBS.out.keep (below_drewN (Below.refl _ wc) n)).take 4
          have h3 := HF.out
          rw [hD0, List.drop_zero] at h3
          rw [h3, List.take_left' (figL_len _)] at h2
          exact h2
        have h := conv_all gb 0 c2 (figL x') _ hb
        rw [hF1] at h; exact h
      have HX1 := Lib.hid hxx
      have HF2 : (F1.toList == [48, 48, 48, 49]) = (figL x' == figL x) := by
        rw [ByteArray.toList_eq, ← hF1, hxx]
        rfl
      obtain ⟨β, hβ⟩ : ∃ β, (figL x' == figL x) = β := ⟨_, rfl⟩
      have HB := Lib.hid hβ
      rw [hβ] at HF2
      clear hi3 hF1 hD0 hxx hβ
      cases β with
      | true =>
        go_quiet (fail)
        have BD : Hid (Below wc.heap.size wc (wc.drewN nq)) := Lib.hid (below_drewN (Below.refl _ wc) nq)
        generalize wc.drewN nq = wd at *
        go_wp2_with fail
        go_meet
        exact ⟨by rw [HB.out]; rfl, BD.out⟩
      | false =>
        go_quiet (fail)
        have BD : Hid (Below wc.heap.size wc (wc.drewN nq)) := Lib.hid (below_drewN (Below.refl _ wc) nq)
        generalize wc.drewN nq = wd at *
        go_wp2_with fail
        go_meet
        exact ⟨by rw [HB.out]; rfl, BD.out⟩
    · obtain ⟨j, hj⟩ : ∃ j, i = j + 1 := ⟨i - 1, by omega⟩
      have hjN : j < N := by omega
      have hjL : j < L.length := by rw [HN.out]; exact hjN
      obtain ⟨TJ, hTJ⟩ : ∃ TJ : ByteArray, TJ.data.toList = L[j] := ⟨⟨L[j].toArray⟩, rfl⟩
      obtain ⟨gl2, e6, cj⟩ := RCELL.out j _ (List.getElem?_eq_getElem hjL)
      injection e6 with e6
      injection e6 with e6 _ _
      subst e6
      rw [str_val _ TJ hTJ] at cj
      have cj := keepW BC.out cj
      obtain ⟨D1, hD1⟩ : ∃ D1, sizeA (L.take j) = D1 := ⟨_, rfl⟩
      have hTl : L[j].length = TJ.size := by rw [← hTJ, str_len]
      have hDD : D = D1 + TJ.size + 6 := by
        have h2 := sizeA_take_next L j hjL
        rw [hD1, hTl] at h2
        rw [← HD.out, hj]; exact h2
      have hF3 : (logA 1 L).drop D1 = figL x ++ (logA 1 L).drop (D1 + 4) := by
        rw [← hD1, ← HX.out, hj]; exact fig_at L j hjL
      obtain ⟨E1, hE1⟩ : ∃ E1, D1 + 6 = E1 := ⟨_, rfl⟩
      obtain ⟨E2, hE2⟩ : ∃ E2, D1 + 4 = E2 := ⟨_, rfl⟩
      obtain ⟨D4, hD4⟩ : ∃ D4, D + 4 = D4 := ⟨_, rfl⟩
      have t2 : decide ((0 : Int) < (i : Int)) = true := decide_eq_true (by omega)
      have t2' : decide (0 < i) = true := decide_eq_true (by omega)
      have t3 : ((i : Int) == 0) = false := beq_eq_false_iff_ne.2 (by omega)
      have t3' : (i == 0) = false := beq_eq_false_iff_ne.2 (by omega)
      have w1 : IntKind.i64.wrap ((i : Int) - 1) = (j : Int) := by rw [IntWalk.i64_in _ (by omega)]; omega
      have w2' : IntKind.i64.wrap ((D : Int) - (TJ.size : Int)) = (E1 : Int) := by rw [IntWalk.i64_in _ (by omega)]; omega
      have w3 : IntKind.i64.wrap ((E1 : Int) - 6) = (D1 : Int) := by rw [IntWalk.i64_in _ (by omega)]; omega
      have w4 : IntKind.i64.wrap ((E1 : Int) - 2) = (E2 : Int) := by rw [IntWalk.i64_in _ (by omega)]; omega
      have w5 : IntKind.i64.wrap ((D : Int) + 4) = (D4 : Int) := by rw [IntWalk.i64_in _ (by omega)]; omega
      have p1 : (0 : Int) ≤ (D1 : Int) := by omega
      have p2 : (D1 : Int) ≤ (E2 : Int) := by omega
      have p3 : (E2 : Int) ≤ (c2 : Int) := by omega
      have p4 : (D : Int) ≤ (D4 : Int) := by omega
      have p5 : (D4 : Int) ≤ (c2 : Int) := by omega
      have p6 : (j : Int) < (N : Int) := by omega
      have p7 : (0 : Int) ≤ (j : Int) := by omega
      have p8 : D1 ≤ E2 := by omega
      have p9 : E2 ≤ c2 := by omega
      have p10 : D ≤ D4 := by omega
      have p11 : D4 ≤ c2 := by omega
      have p12 : ¬ c2 = D1 := by omega
      have p13 : ¬ c2 = D := by omega
      have p14 : ¬ c2 - D1 = 0 := by omega
      have p15 : ¬ c2 - D = 0 := by omega
      obtain ⟨F2, hF2⟩ : ∃ F2 : ByteArray, (⟨(figL x).toArray⟩ : ByteArray) = F2 := ⟨_, rfl⟩
      have CV : ∀ n, (convert 26 9 (.slice (some ⟨gb, D, none⟩) (D4 - D) (c2 - D))).run Tryd.prog (wc.drewN n) = .ok (.string F1) (wc.drewN n) := fun n => by
        have hb : BS (wc.drewN n) gb D (figL x') := by
          have h2 := ((HBS.out.keep (below_drewN (Below.refl _ wc) n)).drop D).take 4
          rw [HF.out, List.take_left' (figL_len _), Nat.zero_add] at h2
          exact h2
        have h := conv_all gb D (c2 - D) (figL x') _ hb
        rw [hF1] at h
        rw [show D4 - D = 4 by omega]; exact h
      have CV2 : ∀ n, (convert 26 9 (.slice (some ⟨gb, D1, none⟩) (E2 - D1) (c2 - D1))).run Tryd.prog (wc.drewN n) = .ok (.string F2) (wc.drewN n) := fun n => by
        have hb : BS (wc.drewN n) gb D1 (figL x) := by
          have h2 := ((HBS.out.keep (below_drewN (Below.refl _ wc) n)).drop D1).take 4
          rw [hF3, List.take_left' (figL_len _), Nat.zero_add] at h2
          exact h2
        have h := conv_all gb D1 (c2 - D1) (figL x) _ hb
        rw [hF2] at h
        rw [show E2 - D1 = 4 by omega]; exact h
      have HFF : (F1.toList == F2.toList) = (figL x' == figL x) := by
        rw [ByteArray.toList_eq, ByteArray.toList_eq, ← hF1, ← hF2]
      obtain ⟨β, hβ⟩ : ∃ β, (figL x' == figL x) = β := ⟨_, rfl⟩
      have HB := Lib.hid hβ
      rw [hβ] at HFF
      clear hi3 hj hDD hTJ hTl hE1 hE2 hD4 hD1 hjN hjL hF1 hF2 hF3 hβ
      clear hi2 ha hwh hDM hMi hgb hc1 hc2 hM2 hN2 p8 p10
      cases β with
      | true =>
        go_quiet (fail)
        have BD : Hid (Below wc.heap.size wc (wc.drewN nq)) := Lib.hid (below_drewN (Below.refl _ wc) nq)
        generalize wc.drewN nq = wd at *
        go_wp2_with fail
        go_meet
        exact ⟨by rw [HB.out]; rfl, BD.out⟩
      | false =>
        go_quiet (fail)
        have BD : Hid (Below wc.heap.size wc (wc.drewN nq)) := Lib.hid (below_drewN (Below.refl _ wc) nq)
        generalize wc.drewN nq = wd at *
        go_wp2_with fail
        go_meet
        exact ⟨by rw [HB.out]; rfl, BD.out⟩
  case rest =>
  obtain ⟨rfl, hcd⟩ := hcut
  have BX := Lib.hid (bchain BC.out hcd)
  have BXW := Lib.hid (bchain BCW.out hcd)
  clear hcd BC BCW HBS HF RCELL
  rcases hfe : figL x' == figL x with _ | _
  case true =>
    clear hfe
    go_wp2_with fail
    refine (AW.out _ (HE.out.keep BXW.out)).mono ?_
    rintro e wz ⟨rfl, hb⟩
    have BZ := Lib.hid (bchain BXW.out hb)
    clear hb
    go_wp2
    go_ret
    exact ⟨rfl, BZ.out⟩
  case false =>
  as_aux_lemma =>
  have hne : figL (lastA 1 (L.take (i + 1))) ≠ figL (lastA 1 (L.take i)) := by rw [HX'.out, HX.out]; exact beq_eq_false_iff_ne.1 hfe
  have hi1N : i + 1 < N := HM2.out
  have SL := left_scan L RG.out i (by rw [HN.out]; exact hi1N) hne
  obtain ⟨E, hE⟩ : ∃ E, sizeA (L.take (i + 1)) = E := ⟨_, rfl⟩
  have hEM : E ≤ M := by rw [← hE, ← HM.out]; exact sizeA_take_le L (i + 1)
  have hEM2 : E < M := by
    have h3 := sizeA_take_next L (i + 1) (by rw [HN.out]; exact hi1N)
    have h4 := sizeA_take_le L (i + 1 + 1)
    rw [hE] at h3
    rw [HM.out] at h4
    omega
  rw [hE, HD.out] at SL
  obtain ⟨ge, rfl, c0⟩ := ends_cell EV.out (endsA_at L i (by rw [HN.out]; omega)) (by rw [endsA_len]; exact HN.out)
  rw [hE] at c0
  have c0 := keepW BX.out c0
  have hXl : ((logA 1 L).take D ++ (logA 1 L).drop E).length = D + (M - E) := by rw [List.length_append, List.length_take_of_le (by rw [logA_len, HM.out]; exact hDM), List.length_drop, logA_len, HM.out]
  have HXl := Lib.hid hXl
  have HBV1 := Lib.hid (fun (wx : World) (hb : Below wc.heap.size wc wx) => ((by
    have h := DV2.out.bv.keep (bchain BX.out hb)
    have h2 := h.take D (by rw [logA_len, HM.out]; exact hDM)
    exact h2) : BV wx (.slice (some ⟨gb, 0, none⟩) D c2) ((logA 1 L).take D)))
  have HBV2 := Lib.hid (fun (wx : World) (hb : Below wc.heap.size wc wx) => ((by
    have h := ((dv_bs DV2.out).keep (bchain BX.out hb)).drop E
    rw [Nat.zero_add] at h
    have h2 := BV.some_ (W := wx) gb E (c2 - E) ((logA 1 L).drop E) (by rw [List.length_drop, logA_len, HM.out]; omega) h
    rw [List.length_drop, logA_len, HM.out] at h2
    exact h2) : BV wx (.slice (some ⟨gb, E, none⟩) (M - E) (c2 - E)) ((logA 1 L).drop E)))
  have HL1 : Hid (((logA 1 L).take D).length = D) := Lib.hid (List.length_take_of_le (by rw [logA_len, HM.out]; exact hDM))
  have HL2' : Hid (((logA 1 L).drop E).length = M - E) := Lib.hid (by rw [List.length_drop, logA_len, HM.out])
  have HSL := Lib.hid SL
  generalize hY1 : (logA 1 L).take D = Y1 at *
  generalize hY2 : (logA 1 L).drop E = Y2 at *
  have HLK : Hid ((L.take i).length = i) := Lib.hid (List.length_take_of_le (by rw [HN.out]; omega))
  have HOE : Hid ((wc.alloc (.cells #[] 5)).drew.ownsRow wc.heap.size 5 1 (.slice (some ⟨wc.heap.size, 0, none⟩) 0 0) 0 (([] : List UInt8).map byteV)) := Lib.hid (own_empty wc 5)
  have SOF := Lib.hid (fun (wx : World) (hb : Below wc.heap.size wc wx) => (⟨keepW hb c0, hb⟩ : wx.cell? ⟨ge, i, none⟩ = some (.int .i64 (E : Int)) ∧ Below wc.heap.size wc wx))
  have j1 : (0 : Int) ≤ (D : Int) := by omega
  have j2 : (D : Int) ≤ (c2 : Int) := by omega
  have j3 : D ≤ c2 := by omega
  have j4 : (0 : Int) ≤ (E : Int) := by omega
  have j5 : (E : Int) ≤ (M : Int) := by omega
  have j6 : (E : Int) ≤ (c2 : Int) := by omega
  have j7 : ¬ c2 = E := by omega
  have j8 : ¬ c2 - E = 0 := by omega
  have j9 : (0 : Int) ≤ (i : Int) := by omega
  have j10 : (i : Int) < (N : Int) := by omega
  have hsum : D + (M - E) ≤ 3000 := by omega
  have i7 : i ≤ c1 := by omega
  have i8 : (i : Int) ≤ (c1 : Int) := by omega
  clear hE SL hXl hY1 hY2 hfe hne hMi hwh ha
  have SCY : ∀ (A6 : Option Addr) (c6 : Nat) {wx : World}, wx.ownsRow wc.heap.size 5 1 (.slice A6 (D + (M - E)) c6) (D + (M - E)) ((Y1 ++ Y2).map byteV) → Below wc.heap.size wc wx →
      Calls Tryd.prog 20 #[.slice A6 (D + (M - E)) c6] wx (fun e w' => ∃ A c, e = .returned (.tuple #[.slice A i c, .int .i64 (D : Int), .int .u8 2]) ∧ RS w' (.slice A i c) (L.take i) ∧ Below wx.heap.size wx w') := fun A6 c6 wx ho hb => by
    have h := scan_c (.slice A6 (D + (M - E)) c6) wx (HE.out.keep (bchain BXW.out hb)) (Y1 ++ Y2) (by rw [HXl.out]; omega) (by have h2 := (dv_of_own ho).bv; exact h2) (L.take i) D 2 (by rw [HSL.out]) (by rw [HSL.out]) (by rw [HSL.out]; rfl)
    rw [HLK.out] at h
    exact h
  have SCY := Lib.hid SCY
  go_upto_region 20 with fail
  go_region_held3 (fun wx => wx.cell? ⟨ge, i, none⟩ = some (.int .i64 (E : Int)) ∧ Below wc.heap.size wc wx)
    (first | exact SOF.out _ (Below.refl _ _) | exact SOF.out _ (Below.drew (Below.refl _ _)) | exact SOF.out _ (Below.drew (below1 _ _)) | exact SOF.out _ hB | exact SOF.out _ (by assumption : _ ∧ Below wc.heap.size wc _).2)
    (first
      | (refine wp_bv_op (.tmp 170) (.tmp 173) rfl _ wc.heap.size (.slice (some ⟨wc.heap.size, 0, none⟩) 0 0) 0 [] rfl HOE.out (some ⟨gb, 0, none⟩) D c2 Y1 HL1.out rfl (HBV1.out _ (Below.drew (below1 _ _))) (by omega) (by simp) ?_; intro v3 w3 ho3 hb3; (rw [Nat.zero_add, List.nil_append] at ho3); obtain ⟨A4, c4, rfl⟩ := own_slice ho3; (have HO4 := Lib.hid ho3); (have hB := Below.trans (Below.drew (below1 wc (.cells #[] 5))) hb3); clear ho3 hb3)
      | (refine wp_bv_op (.tmp 174) (.tmp 180) rfl _ wc.heap.size (.slice A4 D c4) D Y1 rfl HO4.out (some ⟨gb, E, none⟩) (M - E) (c2 - E) Y2 HL2'.out rfl (HBV2.out _ hB) (by omega) hB.size ?_; intro v5 w5 ho5 hb5; obtain ⟨A6, c6, rfl⟩ := own_slice ho5; (have HO6 := Lib.hid ho5); (have hB := hB.trans hb5); clear ho5 hb5)
      | (go_at_call 20; (with_reducible refine (SCY.out A6 c6 HO6.out hB).mono ?_); rintro e w7 ⟨A7, c7, rfl, hrs, hb⟩; (have HRS := Lib.hid hrs); (have hB := bchain hB hb)))
  have B7 := Lib.hid (bchain BXW.out hB)
  have SM := Lib.hid (same_self _ (.slice (some ⟨gl, 0, none⟩) i c1) _ (by rw [HLK.out]; omega) w7 HRS.out ((R2.out.keep (bchain BX.out hB)).take i (by rw [HN.out]; omega)))
  clear SCY HBV1 HBV2 HOE SOF hB HRS HO4 HO6 c0
  go_wp2_with fail
  refine SM.out.mono ?_
  rintro e w8 ⟨rfl, hb⟩
  have B8 := Lib.hid (bchain B7.out hb)
  clear hb SM
  go_wp2_with fail
  refine (AW.out _ (HE.out.keep B8.out)).mono ?_
  rintro e wz ⟨rfl, hb⟩
  have BZ := Lib.hid (bchain B8.out hb)
  clear hb
  go_wp2
  go_ret
  exact ⟨rfl, BZ.out⟩
theorem swaps_walk {v : Value} (wh : Nat) (hwh : wh < 256) (a : Nat) (ha : a < 256) (w : World) (he : Env w) (hB : ∃ (A : Option Addr) (cap : Nat) (l : List (List UInt8)), v = .slice A l.length cap ∧ l.length ≤ cap ∧ RS w v l) :
    Calls Tryd.prog 5 #[v, .int .u8 (wh : Int), .int .u8 (a : Int)] w (fun e w' => e = .returned (.bool true) ∧ Below w.heap.size w w') := by
  obtain ⟨A, cap, l, rfl, hcap, hB⟩ := hB
  exact swaps_any A cap l hcap wh hwh a ha w he hB
end Go.Proofs.YtbompgfjlllioaaDoor
