/- The contracts of the reference's div and common. -/
import Derived.Test.YtfhkgpipbegpgaaGreatDoorRefD
namespace Go.Proofs.YtfhkgpipbegpgaaGreatDoor
open Go Go.RowKit

/-- Two slices of digits are returned. -/
def RetDD (n m : Nat) (w : World) (e : Ending) (w' : World) : Prop :=
  ∃ A ca B cb, e = .returned (.tuple #[.slice A (nd n) ca, .slice B (nd m) cb]) ∧ Dg w' A ca n ∧ Dg w' B cb m ∧ Below w.heap.size w w'
set_option maxRecDepth 100000 in
set_option maxHeartbeats 8000000 in
theorem div_less (A B : Option Addr) (ca cb n m : Nat) (hlt : n < m) (w : World) (hA : Dg w A ca n) (hB : Dg w B cb m) :
    Calls Tryz.prog 64 #[.slice A (nd n) ca, .slice B (nd m) cb] w (RetDD 0 n w) := by
  have L1 := Lib.hid (less_any A B ca cb n m w hA hB)
  have HA := Lib.hid hA
  rw [decide_eq_true hlt] at L1
  obtain ⟨N, hN⟩ : ∃ N, nd n = N := ⟨_, rfl⟩
  obtain ⟨M, hM⟩ : ∃ M, nd m = M := ⟨_, rfl⟩
  have HN := Lib.hid hN
  rw [hN, hM] at L1 ⊢
  clear hN hM hA hB hlt
  go_enter Tryz.func64, Tryz.ntmps64
  go_wp2_with fail
  refine L1.out.mono ?_
  rintro e w1 ⟨rfl, hb⟩
  have HB := Lib.hid hb
  clear hb
  go_wp2
  go_ret2
  exact ⟨none, 0, A, ca, by rw [nd_zero, HN.out]; rfl, ⟨by rw [dig_zero]; exact RowI.nil _ _, by rw [nd_zero]; omega, by simp [maxLen], fun _ => rfl⟩, HA.out.keep HB.out, HB.out⟩
theorem own_base {W : World} {base : Nat} {e : TypeId} {A : Option Addr} {n cap : Nat} {xs : List Value} (h : W.ownsRow base e 1 (.slice A n cap) n xs) : ∀ b off, A = some ⟨b, off, none⟩ → base ≤ b := by
  rintro b off rfl
  exact (h.lt b rfl).1
theorem RowI.set {W : World} {A : Option Addr} {L : List Nat} (h : RowI W A L) {p : Nat} (hp : ∀ b off, A = some ⟨b, off, none⟩ → b ≠ p) (j : Nat) (v : Value) : RowI (W.setCell ⟨p, j, none⟩ v) A L := fun hn => by
  obtain ⟨b, off, e, hl, hc⟩ := h hn
  exact ⟨b, off, e, by simpa using hl, fun k x hk => (World.cell?_setCell_other W ⟨p, j, none⟩ ⟨b, off + k, none⟩ v (fun h => hp b off e (by injection h with h1 _ _; exact h1.symm))).trans (hc k x hk)⟩
theorem Dg.set {W : World} {A : Option Addr} {cap n : Nat} (h : Dg W A cap n) {p : Nat} (hp : ∀ b off, A = some ⟨b, off, none⟩ → b ≠ p) (j : Nat) (v : Value) : Dg (W.setCell ⟨p, j, none⟩ v) A cap n := ⟨h.row.set hp j v, h.room, h.tops⟩
/-- The block of the quotient's digits. -/
def OutB (W : World) (p : Nat) (L : List Nat) : Prop := Blk W p 3 (L.map iv).toArray
theorem OutB.keep {W W' : World} {p : Nat} {L : List Nat} (h : OutB W p L) (hb : Below W.heap.size W W') : OutB W' p L := Blk.keep h hb (Blk.lt h)
theorem OutB.row {W : World} {p : Nat} {L : List Nat} (h : OutB W p L) : RowI W (some ⟨p, 0, none⟩) L := fun _ => ⟨p, 0, rfl, Blk.lt h, fun j x hj => by
  rw [Nat.zero_add]
  exact Blk.cell h (by simp [hj, iv])⟩
theorem OutB.set {W : World} {p : Nat} {L : List Nat} (h : OutB W p L) (i x : Nat) : OutB (W.setCell ⟨p, i, none⟩ (.int .i64 (x : Int))) p (L.set i x) := by
  have h1 := Blk.set h i (.int .i64 (x : Int))
  unfold OutB
  have e : (L.map iv).toArray.setIfInBounds i (.int .i64 (x : Int)) = ((L.set i x).map iv).toArray := by
    rw [List.setIfInBounds_toArray, List.map_set]; rfl
  rw [← e]; exact h1
theorem OutB.made {W : World} {base p n : Nat} (h : W.ownsRow base 3 1 (.slice (some ⟨p, 0, none⟩) n n) n (madeCells (Value.int .i64 0).cells (n * 1)).toList) : OutB W p (List.replicate n 0) := by
  rcases h.2 with ⟨h0, _⟩ | ⟨g, cap, cur, hv, _, hg, _, _, hs, ht⟩
  · cases h0
  · injection hv with e1 e2 e3
    have e4 := Option.some.inj e1
    injection e4 with e5 _ _
    subst e5 e3
    have e6 : (madeCells (Value.int .i64 0).cells (n * 1)).toList = (List.replicate n 0).map iv := by
      rw [Nat.mul_one]
      show (madeCells #[.int .i64 0] n).toList = _
      rw [toList_madeCells_one, List.map_replicate]; rfl
    rw [e6] at ht
    have e7 : cur.toList = (List.replicate n 0).map iv := by
      rw [← ht, List.take_of_length_le (by rw [Array.length_toList, hs]; exact Nat.le_refl _)]
    unfold OutB Blk
    rw [← e7]
    exact hg
theorem OutB.at_ {W : World} {p : Nat} {L : List Nat} (h : OutB W p L) {i : Nat} (hi : i < L.length) : W.cell? ⟨p, i, none⟩ = some (.int .i64 (L[i] : Nat)) ∧ W.frozen? ⟨p, i, none⟩ = false :=
  ⟨Blk.cell h (by simp [hi, iv]), Blk.free h i⟩
set_option maxRecDepth 100000 in
set_option maxHeartbeats 16000000 in
theorem div_any (A B : Option Addr) (ca cb n m : Nat) (hm : 0 < m) (hle : m ≤ n) (hk : nd n ≤ 500) (w : World) (hA : Dg w A ca n) (hB : Dg w B cb m) :
    Calls Tryz.prog 64 #[.slice A (nd n) ca, .slice B (nd m) cb] w (RetDD (n / m) (n % m) w) := by
  have h1 := hA.room
  have h2 := hA.top
  have h3 := hB.room
  have h4 := hB.top
  unfold maxLen at h2 h4
  have L1 := Lib.hid (less_any A B ca cb n m w hA hB)
  rw [decide_eq_false (by omega : ¬ n < m)] at L1
  obtain ⟨q1, q2, q3⟩ := q_start n m hm hle
  have hM1 : 0 < nd m := by have := (nd_zero_iff m).1; omega
  obtain ⟨N, hN⟩ : ∃ N, nd n = N := ⟨_, rfl⟩
  obtain ⟨M, hM⟩ : ∃ M, nd m = M := ⟨_, rfl⟩
  have HN := Lib.hid hN
  have HM := Lib.hid hM
  have HA := Lib.hid hA
  have HB := Lib.hid hB
  rw [hN, hM] at L1 q1 q2
  rw [hN] at h1 hk q3 ⊢
  rw [hM] at h3 q3 hM1 ⊢
  obtain ⟨K, hK⟩ : ∃ K, N - M + 1 = K := ⟨_, rfl⟩
  rw [hK] at q1 q2
  have Q1 := Lib.hid q1
  have Q2 := Lib.hid q2
  clear hN hM hA hB q1 q2
  obtain ⟨b, off, rfl, hb, hcc⟩ := HA.out.at_ (k := 0) (by rw [HN.out]; omega)
  clear hb hcc
  go_enter Tryz.func64, Tryz.ntmps64
  go_wp2_with fail
  refine L1.out.mono ?_
  rintro e w1 ⟨rfl, hb⟩
  have HW1 := Lib.hid hb
  clear hb
  have e1 : (N : Int) - (M : Int) + 1 = (K : Int) := by omega
  have hKN : K ≤ N := by omega
  have HNK : Hid (nd (n / 65536 ^ K) = N - K) := Lib.hid (by rw [nd_div, HN.out])
  clear L1
  go_upto_region 4 with fail
  go_cut [7] (fun s7 wx => ∃ O cap, s7 = .slice O (N - K) cap ∧ Dg wx O cap (n / 65536 ^ K) ∧ Below w1.heap.size w1 wx)
  case first =>
    have hrow : RowI w1 (some ⟨b, off, none⟩) (dig n) := (HA.out.keep HW1.out).row
    by_cases hcap : ca = K
    · subst hcap
      have hz : N - ca = 0 := by omega
      have hnil : dig (n / 65536 ^ ca) = [] := List.eq_nil_of_length_eq_zero (by rw [dig_len, HNK.out]; exact hz)
      have HNIL := Lib.hid hnil
      clear hrow hnil
      go_wp2_with (at_builtin; refine wpList_app rfl (.tmp 21) (.tmp 28) rfl _ w1.heap.size _ 0 [] (some ⟨b, off, none⟩) 0 _ [] rfl rfl (World.ownsRow_made w1 _ 0 (Nat.le_refl _) (by simp [maxLen]) rfl) rfl (RowI.nil _ _) (fun h => by cases h) (by simp) (by omega) ?_; intro v' w2 hown hb2)
      obtain ⟨hl, O, cap, rfl, hcap', htop, hrow⟩ := RowI.own hown
      go_meet
      exact ⟨O, cap, by rw [hz], ⟨by rw [HNIL.out]; exact RowI.nil _ _, by rw [HNK.out]; omega, htop⟩, (blw1 w1 _).trans hb2⟩
    · have hdrop : RowI w1 (some ⟨b, off + K, none⟩) (dig (n / 65536 ^ K)) := by
        rw [← dig_drop]
        intro hne
        obtain ⟨b', off', e, hl, hc⟩ := hrow (fun h => by rw [h] at hne; simp at hne)
        injection e with e
        injection e with e1 e2 _
        subst e1 e2
        exact ⟨b, off + K, rfl, hl, fun j x hj => by rw [Nat.add_assoc]; exact hc (K + j) x (by rw [← hj, List.getElem?_drop])⟩
      have HR := Lib.hid hdrop
      clear hrow hdrop
      go_wp2_with (at_builtin; refine wpList_app rfl (.tmp 21) (.tmp 28) rfl _ w1.heap.size _ 0 [] (some ⟨b, off + K, none⟩) (N - K) _ (dig (n / 65536 ^ K)) rfl rfl (World.ownsRow_made w1 _ 0 (Nat.le_refl _) (by simp [maxLen]) rfl) (by rw [dig_len]; exact HNK.out) (HR.out.keep (blw1 w1 _)) (fun h => by cases h) (by simp) (by omega) ?_; intro v' w2 hown hb2)
      obtain ⟨hl, O, cap, rfl, hcap', htop, hrow⟩ := RowI.own hown
      go_meet
      exact ⟨O, cap, by rw [Nat.zero_add], ⟨by rw [List.nil_append] at hrow; exact hrow, by rw [HNK.out]; omega, htop⟩, (blw1 w1 _).trans hb2⟩
  case rest =>
  obtain ⟨O, cap, rfl, hD, hb2⟩ := hcut
  have HD := Lib.hid hD
  have HB2 := Lib.hid hb2
  clear hD hb2 hKN
  obtain ⟨i0, hi0, hz0, hz1, hz2⟩ := info_parts info_int
  have HI := Lib.hid hi0
  have HZ0 := Lib.hid hz0
  have HZ1 := Lib.hid hz1
  have HZ2 := Lib.hid hz2
  clear hi0 hz0 hz1 hz2
  go_wp2_with (at_make; refine wpList_make_full _ rfl (.tmp 34) (.tmp 34) 29 rfl w.heap.size 3 i0 (.int .i64 0) 1 Tryz.underlying29 HI.out HZ0.out HZ1.out _ _ _ _ K rfl rfl rfl rfl (by rw [HZ2.out]; omega) (by simp only [maxLen]; omega) (HW1.out.trans (HB2.out.mono HW1.out.size)).size ?_; intro W3 hown hgr)
  have hO := OutB.made hown
  have hb3 : Below wc.heap.size wc W3 := (Below.refl _ _).grown hgr (Nat.le_refl _) (fun k hk => by cases hk)
  have HB3 := Lib.hid (show Below w.heap.size w W3 from bchain (bchain HW1.out HB2.out) hb3)
  have hp : w.heap.size ≤ wc.heap.size := (bchain HW1.out HB2.out).size
  have HD3 := Lib.hid (HD.out.keep hb3)
  have HO := Lib.hid hO
  have hpl := Blk.lt hO
  clear hown hgr hb3 hO HD HB2
  obtain ⟨p, hpp⟩ : ∃ p, wc.heap.size = p := ⟨_, rfl⟩
  rw [hpp] at hp HO hpl ⊢
  clear hpp
  have e2 : (N : Int) - (M : Int) = (K : Int) - 1 := by omega
  rw [e2]
  clear e2
  have HNK' := HNK.out
  rw [← HNK']
  go_loopw [7, 9] (fun s7 s9 wr => ∃ i C cap : Nat, ∃ O, i ≤ K ∧ s9 = .int .i64 ((i : Int) - 1) ∧ s7 = .slice O C cap ∧ C = nd (n / 65536 ^ i % m) ∧ Dg wr O cap (n / 65536 ^ i % m) ∧ OutB wr p (outD (n / m) i K) ∧ Below w.heap.size w wr ∧ p < wr.heap.size) (fun _ s9 _ => (intOf s9 + 1).toNat)
  case atStart => exact ⟨K, _, cap, O, Nat.le_refl _, rfl, rfl, by rw [Q1.out], by rw [Q1.out]; exact HD3.out, by rw [outD_zero]; exact HO.out, HB3.out, hpl⟩
  case round =>
    obtain ⟨i, C, cap, O, hi, rfl, rfl, hC, hD, hOut, hbw, hpw⟩ := hrel
    have HC := Lib.hid hC
    have HD := Lib.hid hD
    have HO2 := Lib.hid hOut
    have HW := Lib.hid hbw
    clear hC hD hOut hbw HD3 HO HB3 hpl HNK' HNK
    cases i with
    | zero =>
      have e2 : (((0 : Nat) : Int)) - 1 = -1 := rfl
      rw [e2]
      clear e2
      have HR0 : Hid (n / 65536 ^ 0 % m = n % m) := Lib.hid (by rw [Nat.pow_zero, Nat.div_one])
      have hrow := HO2.out.row
      rw [outD_all] at hrow
      have TR := Lib.hid (trim_any (some ⟨p, 0, none⟩) K (n / m) K Q2.out (Nat.le_refl _) ⟨by simp only [maxLen]; omega, fun h => by cases h⟩ wr hrow)
      clear hrow
      go_wp2_with fail
      refine TR.out.mono ?_
      rintro e w' ⟨A2, cap2, rfl, hD2, hb2⟩
      have HD2 := Lib.hid hD2
      have HDR := Lib.hid (HD.out.keep hb2)
      have HBW := Lib.hid (bchain HW.out hb2)
      clear hD2 hb2 TR
      go_wp2
      go_ret2
      exact ⟨A2, cap2, O, cap, by rw [HC.out, HR0.out]; rfl, HD2.out, by rw [← HR0.out]; exact HDR.out, HBW.out⟩
    | succ i =>
      have e2 : ((i + 1 : Nat) : Int) - 1 = (i : Int) := by omega
      rw [e2]
      clear e2
      have c0 := (HA.out.keep HW.out).cell (j := i) (by rw [HN.out]; omega)
      have hdl := dg_lt n i
      have hRm := Nat.mod_lt (n / 65536 ^ (i + 1)) hm
      obtain ⟨R, hR⟩ : ∃ R, n / 65536 ^ (i + 1) % m = R := ⟨_, rfl⟩
      obtain ⟨d, hd⟩ : ∃ d, dg n i = d := ⟨_, rfl⟩
      obtain ⟨r, hr⟩ : ∃ r, R * 65536 + d = r := ⟨_, rfl⟩
      obtain ⟨q, hq⟩ : ∃ q, r / m = q := ⟨_, rfl⟩
      have hstep := q_step n m i q r hm (by rw [hR, hd, hr]) hq.symm
      obtain ⟨s1, s2, s3, s4⟩ := hstep
      obtain ⟨t1, t2, t3, t4, t5⟩ := top_two r m hm s4
      rw [HM.out] at t1 t2 t3 t4 t5
      rw [hd] at c0 hdl
      rw [hR] at HC HD hRm
      have hRl : nd R ≤ M := by have := nd_mono (Nat.le_of_lt hRm); rw [HM.out] at this; exact this
      have hPL := push_lt R d hdl
      rw [hr] at hPL
      have HPL := Lib.hid hPL
      have HR := Lib.hid hr
      have HQ := Lib.hid hq
      have HS2 := Lib.hid s2
      have HS3 := Lib.hid s3
      obtain rfl := HC.out
      clear hd hR hr hq s2 s3 hPL s4 hRm
      have i0' : (0 : Int) ≤ (i : Int) := by omega
      have i1' : (i : Int) < (N : Int) := by omega
      go_upto_region 10 with (first
        | (at_builtin; refine wpList_app rfl (.tmp 48) (.tmp 49) rfl _ wr.heap.size _ 1 [d] O (nd R) cap (dig R) rfl rfl (own_lit wr d) (dig_len R) (HD.out.row.keep (blw1 wr _)) HD.out.tops.2 (by simp) (by omega) ?_; intro v1 w4 hown1 hb1; (have hB4 : Below wr.heap.size wr w4 := (blw1 wr _).trans hb1); (obtain ⟨hl1, A1, cap1, rfl, hcap1, htop1, hrow1⟩ := RowI.own hown1); (have hbase := own_base hown1))
        | (go_at_call 71; (with_reducible refine (trim_eq A1 cap1 r (1 + nd R) (by rw [Nat.add_comm 1 (nd R)]; exact HPL.out) hcap1 htop1 _ (by rw [Nat.add_comm 1 (nd R), ← HR.out]; exact push_row hdl hrow1 rfl)).mono ?_); rintro e w5 ⟨rfl, rfl⟩))
      have HD5 := Lib.hid (Dg.of_digN (n := r) (k := 1 + nd R) (by rw [Nat.add_comm 1 (nd R)]; exact HPL.out) hcap1 htop1 (by rw [Nat.add_comm 1 (nd R), ← HR.out]; exact push_row hdl hrow1 rfl))
      have HBS := Lib.hid hbase
      have HB4 := Lib.hid hB4
      have hnr : nd r ≤ 501 := by omega
      have hroom := HD5.out.room
      have htop := HD5.out.tops.1
      unfold maxLen at htop
      clear hb1 hB4 hl1 hcap1 htop1 hrow1 hbase hown1 c0 HPL HR hdl
      go_wp2
      go_loop [10, 11] (fun s10 s11 => ∃ j : Nat, j ≤ nd r ∧ s11 = .int .i64 ((j : Int) - 1) ∧ s10 = .int .i64 ((r / 65536 ^ j : Nat) : Int) ∧ (M - 1 ≤ j ∨ j = nd r)) (fun _ s11 => (intOf s11 + 1).toNat)
      case atStart => exact ⟨nd r, Nat.le_refl _, rfl, by rw [top_zero]; rfl, .inr rfl⟩
      case round =>
        obtain ⟨j, hj, rfl, rfl, hjm⟩ := hrel
        by_cases hgo : M ≤ j
        · obtain ⟨j, rfl⟩ : ∃ j', j = j' + 1 := ⟨j - 1, by omega⟩
          have e2 : ((j + 1 : Nat) : Int) - 1 = (j : Int) := by omega
          rw [e2]
          clear e2 hjm
          obtain ⟨g, off2, rfl, hg, hcc⟩ := HD5.out.at_ (k := j) (by omega)
          have c0 := HD5.out.cell (j := j) (by omega)
          clear hcc hg
          have hsp := div_split r j
          have hle2 : r / 65536 ^ j ≤ r / 65536 ^ (M - 1) := Nat.div_le_div_left (Nat.pow_le_pow_right (by omega) (by omega)) (pp _)
          have hdl := dg_lt r j
          obtain ⟨X, hX⟩ : ∃ X, r / 65536 ^ (j + 1) = X := ⟨_, rfl⟩
          obtain ⟨D, hD⟩ : ∃ X, dg r j = X := ⟨_, rfl⟩
          obtain ⟨Y, hY⟩ : ∃ X, r / 65536 ^ j = X := ⟨_, rfl⟩
          rw [hX, hD, hY] at hsp
          rw [hD] at hdl c0
          rw [hY] at hle2
          rw [hX]
          have hXY : X * 65536 + D < 4294967296 := by omega
          have HYY := Lib.hid hY
          have HS := Lib.hid hsp
          clear hX hD hY hsp hle2 t5
          go_wp2
          go_round
          case rel => exact ⟨j, by omega, by go_num, by rw [HYY.out, HS.out]; first | rfl | (congr 1; omega) | congr 1, .inl (by omega)⟩
          case measure => simp [intOf]
        · have HT : Hid (r / 65536 ^ j = r / 65536 ^ (M - 1)) := Lib.hid (by
            rcases hjm with h | h
            · rw [show j = M - 1 by omega]
            · subst h
              rw [top_zero, Nat.div_eq_of_lt (lt_of_nd (by omega))])
          rw [HT.out]
          clear hjm HT
          obtain ⟨bb, off2, rfl, hg, hcc⟩ := HB.out.at_ (k := M - 1) (by rw [HM.out]; omega)
          have c1 := ((HB.out.keep HW.out).keep HB4.out).cell (j := M - 1) (by rw [HM.out]; omega)
          rw [t5] at c1
          clear hcc hg
          have Hlow := q_low r m (M - 1) hm
          have Hhigh := q_high r m (M - 1) t3
          rw [HQ.out] at Hlow Hhigh
          obtain ⟨T, hT⟩ : ∃ T, r / 65536 ^ (M - 1) = T := ⟨_, rfl⟩
          obtain ⟨bt, hbt⟩ : ∃ T, m / 65536 ^ (M - 1) = T := ⟨_, rfl⟩
          rw [hT] at Hlow Hhigh t2 ⊢
          rw [hbt] at Hlow Hhigh t3 t4 c1
          obtain ⟨lo, hlo⟩ : ∃ lo, T / (bt + 1) = lo := ⟨_, rfl⟩
          obtain ⟨hi2, hhi2⟩ : ∃ lo, T / bt = lo := ⟨_, rfl⟩
          rw [hlo] at Hlow
          rw [hhi2] at Hhigh
          obtain ⟨hi3, hhi3⟩ : ∃ x, min hi2 65535 = x := ⟨_, rfl⟩
          have b1 : q ≤ hi3 := by omega
          have b2 : hi3 ≤ 65535 := by omega
          have k1 : (T : Int).tdiv ((bt : Int) + 1) = (lo : Int) := by
            rw [Int.tdiv_eq_ediv_of_nonneg (by omega), ← hlo]; simp
          have k2 : (T : Int).tdiv (bt : Int) = (hi2 : Int) := by
            rw [Int.tdiv_eq_ediv_of_nonneg (by omega), ← hhi2]; simp
          have k3 : min (hi2 : Int) 65535 = (hi3 : Int) := by omega
          have k4 : IntKind.i64.wrap ((bt : Int) + 1) = (bt : Int) + 1 := IntWalk.i64_in _ (by omega)
          have k5 : IntKind.i64.wrap ((M : Int) - 1) = (M : Int) - 1 := IntWalk.i64_in _ (by omega)
          have k6 : ((M : Int) - 1).toNat = M - 1 := by omega
          have k7 : (0 : Int) ≤ (M : Int) - 1 := by omega
          have k8 : (M : Int) - 1 < (M : Int) := by omega
          have k9 : ((bt : Int) == 0) = false := beq_eq_false_iff_ne.2 (by omega)
          have k10 : ((bt : Int) + 1 == 0) = false := beq_eq_false_iff_ne.2 (by omega)
          have hT2 : hi2 ≤ T := by rw [← hhi2]; exact Nat.div_le_self _ _
          have k11 : IntKind.i64.wrap (hi2 : Int) = (hi2 : Int) := IntWalk.i64_in _ (by omega)
          have k12 : IntKind.i64.wrap (lo : Int) = (lo : Int) := IntWalk.i64_in _ (by omega)
          have t1' : decide ((M : Int) - 1 ≤ (j : Int) - 1) = false := decide_eq_false (by omega)
          clear hT hbt hlo hhi2 hhi3
          go_upto_region 15 with fail
          go_cut [12, 13] (fun s12 s13 wx => ∃ l h : Nat, s12 = .int .i64 l ∧ s13 = .int .i64 h ∧ l ≤ q ∧ q ≤ h ∧ h ≤ 65535 ∧ Below w4.heap.size w4 wx)
          case first =>
            go_wp2
            go_quiet (fail)
            go_wp2
            all_goals
              go_meet
              first
                | exact ⟨lo, hi3, rfl, rfl, Hlow, b1, b2, below_drewN (Below.refl _ _) _⟩
                | exact ⟨lo, 65535, rfl, rfl, Hlow, by omega, by omega, below_drewN (Below.refl _ _) _⟩
                | exact ⟨lo, hi2, rfl, rfl, Hlow, by omega, by omega, below_drewN (Below.refl _ _) _⟩
          case rest =>
          clear Hlow b1 b2
          obtain ⟨lo2, hi4, rfl, rfl, Hlow, b1, b2, hbq⟩ := hcut
          clear k1 k2 k3 k4 k5 k6 k7 k8 k9 k10 k11 k12 t1' c1 t5
          have SCM : Hid (∀ (W : World) (mid : Nat), mid < 65536 → Below w4.heap.size w4 W → Calls Tryz.prog 56 #[.slice (some ⟨bb, off2, none⟩) M cb, .int .i64 (mid : Int)] W (RetD (m * mid) W)) := Lib.hid fun W mid hmid hb => by
            have := scale_any (some ⟨bb, off2, none⟩) cb m mid hmid (by rw [HM.out]; omega) W (HB.out.keep (bchain (bchain HW.out HB4.out) hb))
            rw [HM.out] at this
            exact this
          go_wp2
          obtain ⟨wo, rfl⟩ : ∃ wo : World, wo = wr := ⟨_, rfl⟩
          go_loopw [12, 13, 14] (fun s12 s13 _ wx => ∃ l h : Nat, s12 = .int .i64 l ∧ s13 = .int .i64 h ∧ l ≤ q ∧ q ≤ h ∧ h ≤ 65535 ∧ Below w4.heap.size w4 wx) (fun s12 s13 _ _ => (intOf s13 - intOf s12).toNat)
          case atStart => exact ⟨lo2, hi4, rfl, rfl, Hlow, b1, b2, hbq⟩
          case round =>
            obtain ⟨l, h, rfl, rfl, hl, hh, hh2, hbx⟩ := hrel
            have HX := Lib.hid hbx
            clear hbx Hlow Hhigh b1 b2
            by_cases hlt : l < h
            · obtain ⟨mid, hmid⟩ : ∃ mid, (l + h + 1) / 2 = mid := ⟨_, rfl⟩
              have hm1 : l < mid := by omega
              have hm2 : mid ≤ h := by omega
              have k1 : ((l : Int) + (h : Int) + 1) / 2 = (mid : Int) := by omega
              clear hmid
              go_wp2_with fail
              refine (SCM.out wr mid (by omega) HX.out).mono ?_
              rintro e w6 ⟨A6, cap6, rfl, hD6, hb6⟩
              have HD6 := Lib.hid hD6
              have HX6 := Lib.hid (bchain HX.out hb6)
              clear hD6 hb6
              have LS := Lib.hid (less_any A1 A6 cap1 cap6 r (m * mid) w6 (HD5.out.keep HX6.out) HD6.out)
              by_cases hd : r < m * mid
              · rw [decide_eq_true hd] at LS
                have hq1 := half_low hm hd
                rw [HQ.out] at hq1
                clear hd
                go_wp2_with fail
                refine LS.out.mono ?_
                rintro e w7 ⟨rfl, hb7⟩
                have HX7 := Lib.hid (bchain HX6.out hb7)
                clear hb7 LS
                go_wp2
                go_roundw
                case rel => exact ⟨l, mid - 1, rfl, by first | go_num | (rw [k1]; go_num), hl, hq1, by omega, HX7.out⟩
                case measure => simp [intOf]; omega
              · rw [decide_eq_false hd] at LS
                have hq1 := half_high hm hd
                rw [HQ.out] at hq1
                clear hd
                go_wp2_with fail
                refine LS.out.mono ?_
                rintro e w7 ⟨rfl, hb7⟩
                have HX7 := Lib.hid (bchain HX6.out hb7)
                clear hb7 LS
                go_wp2
                go_roundw
                case rel => exact ⟨mid, h, by first | rfl | rw [k1], rfl, hq1, hh, hh2, HX7.out⟩
                case measure => simp [intOf]; omega
            · obtain rfl : l = q := by omega
              obtain rfl : l = h := by omega
              have hOx := HO2.out.keep (bchain HB4.out HX.out)
              have hix : i < (outD (n / m) (i + 1) K).length := by rw [outD_len]; omega
              obtain ⟨c2, f2⟩ := hOx.at_ hix
              have HOS := Lib.hid (hOx.set i l)
              have hD5x := HD5.out.keep HX.out
              have HD7 := Lib.hid (hD5x.set (p := p) (fun b' off' e => by have := HBS.out b' off' e; omega) i (.int .i64 (l : Int)))
              have HB7 := Lib.hid ((bchain (bchain HW.out HB4.out) HX.out).setCell (p := ⟨p, i, none⟩) hp (.int .i64 (l : Int)))
              have hix2 : (i : Int) < (K : Int) := by omega
              have SC7 : Hid (∀ W, Below w.heap.size w W → Calls Tryz.prog 56 #[.slice (some ⟨bb, off2, none⟩) M cb, .int .i64 (l : Int)] W (RetD (m * l) W)) := Lib.hid fun W hb => by
                have := scale_any (some ⟨bb, off2, none⟩) cb m l s1 (by rw [HM.out]; omega) W (HB.out.keep hb)
                rw [HM.out] at this
                exact this
              have hqm : m * l ≤ r := by have := HQ.out; rw [← this]; exact Nat.mul_div_le r m
              clear hOx hD5x hl hh hh2
              go_wp2_with fail
              generalize wr.setCell ⟨p, i, none⟩ (.int .i64 (l : Int)) = W8 at *
              refine (SC7.out _ HB7.out).mono ?_
              rintro e w9 ⟨A9, cap9, rfl, hD9, hb9⟩
              have HB9 := Lib.hid hb9
              have SB := Lib.hid (rsub_any A1 A9 cap1 cap9 r (m * l) hqm (by omega) w9 (HD7.out.keep hb9) hD9)
              clear hD9 hb9 hqm c2 f2
              go_wp2_with fail
              refine SB.out.mono ?_
              rintro e w10 ⟨A10, cap10, rfl, hD10, hb10⟩
              have HD10 := Lib.hid hD10
              have HB10 := Lib.hid (bchain HB9.out hb10)
              clear hD10 hb10 SB
              go_wp2
              go_roundw
              case rel => exact ⟨i, nd (r - m * l), cap10, A10, by omega, by go_num, rfl, by rw [HS3.out], by rw [← HS3.out]; exact HD10.out, by have := HOS.out; rw [← HS2.out, outD_set _ _ _ (by omega)] at this; exact this.keep HB10.out, HB7.out.trans (HB10.out.mono HB7.out.size), Nat.lt_of_lt_of_le (Blk.lt HOS.out) HB10.out.size⟩
              case measure => simp [intOf]
end Go.Proofs.YtfhkgpipbegpgaaGreatDoor
