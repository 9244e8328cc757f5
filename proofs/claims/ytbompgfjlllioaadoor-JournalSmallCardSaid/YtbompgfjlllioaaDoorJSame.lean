/- Slices of strings, and whether two of them are equal: same. -/
import Derived.Test.YtbompgfjlllioaaDoorJScan2
import Derived.BigQuiet
namespace Go.Proofs.YtbompgfjlllioaaDoor
open Go Go.RowKit

/-- A slice of strings, nil or not. -/
inductive RS (W : World) : Value → List (List UInt8) → Prop
  | none_ : RS W (.slice none 0 0) []
  | some_ (b o cap : Nat) (l : List (List UInt8)) (hb : b < W.heap.size) (h : ∀ i r, l[i]? = some r → W.cell? ⟨b, o + i, none⟩ = some (strV r)) : RS W (.slice (some ⟨b, o, none⟩) l.length cap) l
theorem RS.keep {W W' : World} {v : Value} {l : List (List UInt8)} (h : RS W v l) (hb : Below W.heap.size W W') : RS W' v l := by
  cases h with
  | none_ => exact .none_
  | some_ b o cap l hlt h => exact .some_ b o cap l (Nat.lt_of_lt_of_le hlt hb.size) (fun i r hi => keepW hb (h i r hi))
theorem RS.len {W : World} {v : Value} {l : List (List UInt8)} (h : RS W v l) : ∃ A cap, v = .slice A l.length cap := by
  cases h with
  | none_ => exact ⟨_, _, rfl⟩
  | some_ b o cap l _ h => exact ⟨_, _, rfl⟩
theorem rs_of_own {W : World} {base : Nat} {v : Value} {l : List (List UInt8)} (h : W.ownsRow base 9 1 v l.length (l.map strV)) : RS W v l := by
  rcases h.2 with ⟨rfl, h0⟩ | ⟨g, cap, cur, rfl, _, hg, hcur⟩
  · obtain rfl : l = [] := List.eq_nil_of_length_eq_zero h0
    exact .none_
  · refine .some_ g 0 cap l (Array.getElem?_eq_some_iff.1 hg).1 (fun i r hi => ?_)
    rw [Nat.zero_add]
    obtain ⟨_, _, _, h4⟩ := hcur
    have hj : (l.map strV)[i]? = some (strV r) := by rw [List.getElem?_map, hi]; rfl
    rw [← h4, List.getElem?_take] at hj
    split at hj
    · have hc : cur[i]? = some (strV r) := by simpa using hj
      simp [World.cell?, hg, hc]
    · cases hj
theorem str_ne {a b : List UInt8} (h : a ≠ b) : ((⟨a.toArray⟩ : ByteArray).toList == (⟨b.toArray⟩ : ByteArray).toList) = false := by
  rw [ByteArray.toList_eq, ByteArray.toList_eq]
  exact beq_eq_false_iff_ne.2 (by simpa using h)
theorem take_eq_next {α : Type} {l m : List α} {k : Nat} (h : l.take k = m.take k) {x : α} (h1 : l[k]? = some x) (h2 : m[k]? = some x) : l.take (k + 1) = m.take (k + 1) := by
  rw [List.take_add_one, List.take_add_one, h, h1, h2]
set_option maxRecDepth 100000 in
set_option maxHeartbeats 2000000 in
theorem same_any (v1 v2 : Value) (l1 l2 : List (List UInt8)) (hs : l1.length ≤ 10000000) (w : World) (h1 : RS w v1 l1) (h2 : RS w v2 l2) : Calls Tryd.prog 15 #[v1, v2] w (fun e w' => e = .returned (.bool (l1 == l2)) ∧ Below w.heap.size w w') := by
  obtain ⟨A1, c1, e1⟩ := h1.len
  obtain ⟨A2, c2, e2⟩ := h2.len
  by_cases hn : l1.length = l2.length
  case neg =>
    have HR : Hid ((l1 == l2) = false) := Lib.hid (beq_eq_false_iff_ne.2 (fun h => hn (by rw [h])))
    subst e1 e2
    obtain ⟨N, hN⟩ : ∃ N, l1.length = N := ⟨_, rfl⟩
    obtain ⟨M, hM⟩ : ∃ M, l2.length = M := ⟨_, rfl⟩
    rw [hN, hM] at hn ⊢
    have t1 : ((N : Int) == (M : Int)) = false := beq_eq_false_iff_ne.2 (by omega)
    have t2 : (N == M) = false := beq_eq_false_iff_ne.2 hn
    clear h1 h2 hN hM hn
    go_enter Tryd.func15, Tryd.ntmps15
    go_wp2
    go_ret
    exact ⟨by rw [HR.out]; rfl, Below.refl _ _⟩
  by_cases h0 : l1 = []
  · subst h0
    obtain rfl : l2 = [] := List.eq_nil_of_length_eq_zero (by simpa using hn.symm)
    subst e1 e2
    clear h1 h2 hn
    go_enter Tryd.func15, Tryd.ntmps15
    go_wp2
    refine wp_loop_rounds 1 ?_
    rw [rounds_succ]
    go_wp2
    go_ret
    exact ⟨rfl, Below.refl _ _⟩
  cases h1 with
  | none_ => exact absurd rfl h0
  | some_ b1 o1 k1 _ hb1 hc1 =>
  cases h2 with
  | none_ => exact absurd (List.eq_nil_of_length_eq_zero (by simpa using hn)) h0
  | some_ b2 o2 k2 _ hb2 hc2 =>
  clear e1 e2 h0
  have HC1 := Lib.hid hc1
  have HC2 := Lib.hid hc2
  obtain ⟨N, hN⟩ : ∃ N, l1.length = N := ⟨_, rfl⟩
  have HN1 := Lib.hid hN
  have HN2 : Hid (l2.length = N) := Lib.hid (by rw [← hn, hN])
  rw [← hn, hN]
  rw [hN] at hs
  have t0 : ((N : Int) == (N : Int)) = true := beq_self_eq_true _
  clear hc1 hc2 hn hN
  go_enter Tryd.func15, Tryd.ntmps15
  go_wp2
  go_loopw [13] (fun s13 wr => ∃ k : Nat, k ≤ N ∧ s13 = .int .i64 k ∧ l1.take k = l2.take k ∧ Below w.heap.size w wr) (fun s13 _ => N - (intOf s13).toNat)
  case atStart => exact ⟨0, Nat.zero_le _, rfl, rfl, Below.refl _ _⟩
  case round =>
    obtain ⟨k, hk, rfl, hX, hb⟩ := hrel
    have HX := Lib.hid hX
    have HB := Lib.hid hb
    clear hX hb
    by_cases hlt : k < N
    · have u1 : decide (k < N) = true := decide_eq_true hlt
      have i0 : (0 : Int) ≤ (k : Int) := by omega
      have i1 : (k : Int) < (N : Int) := by omega
      obtain ⟨a, ha⟩ : ∃ a, l1[k]? = some a := ⟨_, List.getElem?_eq_getElem (by rw [HN1.out]; exact hlt)⟩
      obtain ⟨b, hb⟩ : ∃ b, l2[k]? = some b := ⟨_, List.getElem?_eq_getElem (by rw [HN2.out]; exact hlt)⟩
      have ca : wr.cell? ⟨b1, o1 + k, none⟩ = some (.string ⟨a.toArray⟩) := (HB.out.cell (p := ⟨b1, o1 + k, none⟩) hb1).trans (HC1.out k a ha)
      have cb : wr.cell? ⟨b2, o2 + k, none⟩ = some (.string ⟨b.toArray⟩) := (HB.out.cell (p := ⟨b2, o2 + k, none⟩) hb2).trans (HC2.out k b hb)
      by_cases hab : a = b
      · subst hab
        have HX2 := Lib.hid (take_eq_next HX.out ha hb)
        clear ha hb
        go_wp2_with fail
        go_quiet (fail)
        have HB2 := Lib.hid (bchain HB.out (below_drewN (Below.refl _ wr) nq))
        clear ca cb
        go_wp2
        go_roundw
        case rel => exact ⟨k + 1, by omega, by go_num, HX2.out, HB2.out⟩
        case measure => simp [intOf]; omega
      · have HR : Hid ((l1 == l2) = false) := Lib.hid (beq_eq_false_iff_ne.2 (fun h => hab (by rw [h, hb] at ha; exact (Option.some.inj ha).symm)))
        have HE := str_ne hab
        have HE2 : ¬ ((⟨a.toArray⟩ : ByteArray) = ⟨b.toArray⟩) := fun h => hab (by simpa using h)
        generalize (⟨a.toArray⟩ : ByteArray) = TA at *
        generalize (⟨b.toArray⟩ : ByteArray) = TB at *
        clear ha hb hab
        go_wp2_with fail
        go_quiet (fail)
        have HB2 := Lib.hid (bchain HB.out (below_drewN (Below.refl _ wr) nq))
        clear ca cb
        go_wp2
        go_ret
        exact ⟨by rw [HR.out]; rfl, HB2.out⟩
    · obtain rfl : k = N := by omega
      have HR : Hid ((l1 == l2) = true) := Lib.hid (beq_iff_eq.2 (by have := HX.out; rwa [List.take_of_length_le (by rw [HN1.out]; exact Nat.le_refl _), List.take_of_length_le (by rw [HN2.out]; exact Nat.le_refl _)] at this))
      go_wp2
      go_ret
      exact ⟨by rw [HR.out]; rfl, HB.out⟩
end Go.Proofs.YtbompgfjlllioaaDoor
