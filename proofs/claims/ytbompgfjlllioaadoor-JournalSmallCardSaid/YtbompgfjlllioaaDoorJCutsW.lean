/- JournalCuts: the walk. -/
import Derived.Test.YtbompgfjlllioaaDoorJWritten
import Derived.Test.YtbompgfjlllioaaDoorJHurtP
namespace Go.Proofs.YtbompgfjlllioaaDoor
open Go Go.RowKit

theorem RS.take {W : World} {A : Option Addr} {cap : Nat} {l : List (List UInt8)} (h : RS W (.slice A l.length cap) l) (k : Nat) (hk : k ≤ l.length) : RS W (.slice A k cap) (l.take k) := by
  generalize hv : Value.slice A l.length cap = v at h
  cases h with
  | none_ =>
    injection hv with h1 h2 h3
    obtain rfl : k = 0 := by simpa using hk
    subst h1 h3
    exact .none_
  | some_ b o c l hb hc =>
    injection hv with h1 h2 h3
    subst h1 h3
    have := RS.some_ (W := W) b o cap (l.take k) hb (fun i r hi => hc i r (by
      rw [List.getElem?_take] at hi
      split at hi
      · exact hi
      · cases hi))
    rwa [List.length_take_of_le hk] at this
theorem BV.take {W : World} {A : Option Addr} {cap : Nat} {l : List UInt8} (h : BV W (.slice A l.length cap) l) (k : Nat) (hk : k ≤ l.length) : BV W (.slice A k cap) (l.take k) := by
  generalize hv : Value.slice A l.length cap = v at h
  cases h with
  | none_ =>
    injection hv with h1 h2 h3
    obtain rfl : k = 0 := by simpa using hk
    subst h1 h3
    exact .none_
  | some_ b o c l hcap hc =>
    injection hv with h1 h2 h3
    subst h1 h3
    have := BV.some_ (W := W) b o cap (l.take k) (by rw [List.length_take_of_le hk]; omega) (hc.take k)
    rwa [List.length_take_of_le hk] at this
theorem own_cap {w : World} {B e size n c : Nat} {A : Option Addr} {xs : List Value} (h : w.ownsRow B e size (.slice A n c) n xs) : n ≤ c := by
  rcases h.2 with ⟨e, h0⟩ | ⟨g, cap, cur, e, _, _, hc, _⟩
  · injection e; omega
  · injection e with _ _ h3; omega
theorem dv_cap {w : World} {B n c : Nat} {A : Option Addr} {l : List UInt8} (h : DV w B (.slice A n c) l) : n ≤ c ∧ l.length = n := by
  generalize hv : Value.slice A n c = v at h
  cases h with
  | none_ => injection hv with _ h2 h3; simp; omega
  | some_ g cap l cur hcap _ _ _ => injection hv with _ h2 h3; omega
/-- A cell of a row of integers. -/
theorem ends_cell {w : World} {B n c : Nat} {A : Option Addr} {l : List Nat} (h : w.ownsRow B 3 1 (.slice A n c) n (l.map iv)) {i x : Nat} (hi : l[i]? = some x) (hn : l.length = n) : ∃ g, A = some ⟨g, 0, none⟩ ∧ w.cell? ⟨g, i, none⟩ = some (.int .i64 (x : Int)) := by
  have hlt : i < n := by rw [← hn]; exact (List.getElem?_eq_some_iff.1 hi).1
  obtain ⟨g, cap, e, _, _⟩ := own_some h (by omega)
  injection e with e1 _ _
  subst e1
  have := h.cells (g := g) rfl i (iv x) (by rw [List.getElem?_map, hi]; rfl)
  rw [add_at, Nat.zero_add] at this
  exact ⟨g, rfl, this⟩
set_option maxRecDepth 100000 in
set_option maxHeartbeats 4000000 in
theorem cuts_any (A : Option Addr) (cap : Nat) (l0 : List (List UInt8)) (hcap : l0.length ≤ cap) (a : Nat) (ha : a < 65536) (w : World) (he : Env w) (hB : RS w (.slice A l0.length cap) l0) :
    Calls Tryd.prog 4 #[.slice A l0.length cap, .int .u16 (a : Int)] w (fun e w' => e = .returned (.bool true) ∧ Below w.heap.size w w') := by
  have TX := Lib.hid (texts_any A cap l0 hcap w hB)
  have HL2 := Lib.hid (textsL_len l0)
  have HLR := Lib.hid (textsL_right l0)
  have AW := Lib.hid (fun W he => awake_any W he)
  have HE := Lib.hid he
  generalize textsL l0 = L at *
  generalize l0.length = n0 at *
  clear he hB hcap
  go_enter Tryd.func4, Tryd.ntmps4
  go_wp2_with fail
  refine TX.out.mono ?_
  rintro e w1 ⟨v, rfl, hown, hb⟩
  obtain ⟨A1, c1, rfl⟩ := own_slice hown
  have B1 := Lib.hid hb
  have hc1 := own_cap hown
  have R1 := Lib.hid (rs_of_own hown)
  have WR := Lib.hid (written_any A1 c1 L (by have := HL2.out; omega) HLR.out w1 (HE.out.keep hb) R1.out)
  obtain ⟨N, hN⟩ : ∃ N, L.length = N := ⟨_, rfl⟩
  have HN := Lib.hid hN
  have HSZ := Lib.hid (sizeA_le L (fun t ht => (HLR.out t ht).2))
  rw [hN] at hc1 WR ⊢
  clear hown hb hN TX
  go_wp2_with fail
  refine WR.out.mono ?_
  rintro e w2 ⟨dv, ev, rfl, hdv, hev, hb⟩
  obtain ⟨A2, c2, rfl⟩ := hdv.bv.len
  rw [HN.out] at hev
  obtain ⟨A3, c3, rfl⟩ := own_slice hev
  have hc2 := (dv_cap hdv).1
  have BV2 := Lib.hid hdv.bv
  have EV := Lib.hid hev
  have B2 := Lib.hid (bchain B1.out hb)
  have R2 := Lib.hid (R1.out.keep hb)
  rw [logA_len] at hc2 ⊢
  obtain ⟨M, hM⟩ : ∃ M, sizeA L = M := ⟨_, rfl⟩
  have HM := Lib.hid hM
  have hM2 : M ≤ 1320 := by have := HSZ.out; have := HN.out; have := HL2.out; omega
  obtain ⟨n, hn0⟩ : ∃ n : Nat, a % (M + 1) = n := ⟨_, rfl⟩
  have hn : (a : Int) % ((M : Int) + 1) = (n : Int) := by rw [← hn0]; simp
  have hn2 : n ≤ M := by have := Nat.mod_lt a (by omega : 0 < M + 1); omega
  have hN2 : N ≤ 20 := by have := HN.out; have := HL2.out; omega
  rw [hM] at hc2 ⊢
  have i1 : n ≤ c2 := by omega
  have i2 : (n : Int) ≤ (c2 : Int) := by omega
  clear hdv hev hb hM WR hc2 hn0
  go_wp2_with fail
  go_loop [9, 10, 35] (fun s9 s10 s35 => ∃ i k : Nat, i ≤ N ∧ k ≤ i ∧ s35 = .int .i64 i ∧ s9 = .int .i64 k ∧ s10 = .int .i64 (sizeA (L.take k) : Nat) ∧ sizeA (L.take k) ≤ n ∧ (k < i → n < sizeA (L.take (k + 1)))) (fun _ _ s35 => N - (intOf s35).toNat)
  case atStart => exact ⟨0, 0, by omega, by omega, rfl, rfl, rfl, by simp [sizeA], fun h => by omega⟩
  case round =>
    obtain ⟨i, k, hi, hki, rfl, rfl, rfl, hsz, hnx⟩ := hrel
    have HNX := Lib.hid hnx
    clear hnx
    by_cases hlt : i < N
    · obtain ⟨g, rfl, c0⟩ := ends_cell EV.out (endsA_at L i (by have := HN.out; omega)) (by rw [endsA_len]; exact HN.out)
      obtain ⟨E, hE⟩ : ∃ E, sizeA (L.take (i + 1)) = E := ⟨_, rfl⟩
      have HEE := Lib.hid hE
      obtain ⟨D, hD⟩ : ∃ D, sizeA (L.take k) = D := ⟨_, rfl⟩
      have HD := Lib.hid hD
      rw [hE] at c0
      rw [hD] at hsz ⊢
      have t1 : decide ((i : Int) < (N : Int)) = true := decide_eq_true (by omega)
      by_cases hle : E ≤ n
      · have t2 : decide ((E : Int) ≤ (n : Int)) = true := decide_eq_true (by omega)
        clear hE hD
        go_wp2
        go_round
        case rel => exact ⟨i + 1, i + 1, by omega, by omega, by go_num, by go_num, by rw [HEE.out], by rw [HEE.out]; exact hle, fun h => by omega⟩
        case measure => simp [intOf]; omega
      · have t2 : decide ((E : Int) ≤ (n : Int)) = false := decide_eq_false (by omega)
        clear hE hD
        go_wp2
        go_round
        case rel => exact ⟨i + 1, k, by omega, by omega, by go_num, rfl, by rw [HD.out], by rw [HD.out]; exact hsz, fun _ => by
          rcases Nat.lt_or_ge k i with h | h
          · exact HNX.out h
          · obtain rfl : k = i := by omega
            rw [HEE.out]; omega⟩
        case measure => simp [intOf]; omega
    · obtain rfl : i = N := by omega
      have t1 : decide ((i : Int) < (i : Int)) = false := decide_eq_false (by omega)
      have SC := cut_scan L (fun t ht => (HLR.out t ht).1) n k (by have := HN.out; omega) hsz (fun h => HNX.out (by have := HN.out; omega)) (by rw [HM.out]; omega)
      have hk20 : k ≤ 20 := by omega
      have i3 : k ≤ c1 := by omega
      have i4 : (k : Int) ≤ (c1 : Int) := by omega
      have hlen : ((logA 1 L).take n).length = n := by rw [List.length_take_of_le (by rw [logA_len, HM.out]; omega)]
      obtain ⟨D, hD⟩ : ∃ D, sizeA (L.take k) = D := ⟨_, rfl⟩
      rw [hD] at SC hsz ⊢
      obtain ⟨tl, htl⟩ : ∃ tl, (if D < n then 1 else 0) = tl := ⟨_, rfl⟩
      have SCN := Lib.hid (scan_c (.slice A2 n c2) w2 (HE.out.keep B2.out) ((logA 1 L).take n) (by omega) (by have := BV2.out; rw [logA_len, HM.out] at this; rw [← HM.out, ← logA_len 1 L] at this; have h := BV.take this n (by rw [logA_len, HM.out]; omega); exact h) (L.take k) D tl (by rw [SC]) (by rw [SC]) (by rw [SC, hlen]; exact htl))
      have RT := Lib.hid ((by have := R2.out; exact this.take k (by have := HN.out; omega)) : RS w2 (.slice A1 k c1) (L.take k))
      have hlk : (L.take k).length = k := List.length_take_of_le (by have := HN.out; omega)
      rw [hlk] at SCN
      have HLK := Lib.hid hlk
      have t5 : ((D : Int) == (n : Int)) = decide (D = n) := by
        by_cases h : D = n
        · rw [h]; simp
        · rw [decide_eq_false h]; exact beq_eq_false_iff_ne.2 (by omega)
      have t6 : (D == n) = decide (D = n) := by by_cases h : D = n <;> simp [h]
      have T5 := Lib.hid t5
      have T6 := Lib.hid t6
      clear SC hlen hD HNX hlk t5 t6
      go_wp2_with fail
      refine SCN.out.mono ?_
      rintro e w3 ⟨A4, c4, rfl, hrs, hb⟩
      have B3 := Lib.hid (bchain B2.out hb)
      have SM := Lib.hid (same_self _ _ _ (by rw [HLK.out]; omega) w3 hrs (RT.out.keep hb))
      clear hrs hb RT SCN
      by_cases hDn : D = n
      · rw [if_neg (by omega)] at htl
        subst htl
        have t5 := T5.out
        have t6 := T6.out
        rw [decide_eq_true hDn] at t5 t6
        clear hDn T5 T6
        go_wp2_with fail
        refine SM.out.mono ?_
        rintro e w4 ⟨rfl, hb⟩
        have B4 := Lib.hid (bchain B3.out hb)
        clear hb
        go_wp2_with fail
        refine (AW.out _ (HE.out.keep B4.out)).mono ?_
        rintro e w5 ⟨rfl, hb⟩
        have B5 := Lib.hid (bchain B4.out hb)
        clear hb
        go_wp2
        go_ret
        exact ⟨rfl, B5.out⟩
      · rw [if_pos (by omega)] at htl
        subst htl
        have t5 := T5.out
        have t6 := T6.out
        rw [decide_eq_false hDn] at t5 t6
        clear hDn T5 T6
        go_wp2_with fail
        refine SM.out.mono ?_
        rintro e w4 ⟨rfl, hb⟩
        have B4 := Lib.hid (bchain B3.out hb)
        clear hb
        go_wp2_with fail
        refine (AW.out _ (HE.out.keep B4.out)).mono ?_
        rintro e w5 ⟨rfl, hb⟩
        have B5 := Lib.hid (bchain B4.out hb)
        clear hb
        go_wp2
        go_ret
        exact ⟨rfl, B5.out⟩
theorem cuts_walk {v : Value} (a : Nat) (ha : a < 65536) (w : World) (he : Env w) (hB : ∃ (A : Option Addr) (cap : Nat) (l : List (List UInt8)), v = .slice A l.length cap ∧ l.length ≤ cap ∧ RS w v l) :
    Calls Tryd.prog 4 #[v, .int .u16 (a : Int)] w (fun e w' => e = .returned (.bool true) ∧ Below w.heap.size w w') := by
  obtain ⟨A, cap, l, rfl, hcap, hB⟩ := hB
  exact cuts_any A cap l hcap a ha w he hB
end Go.Proofs.YtbompgfjlllioaaDoor
