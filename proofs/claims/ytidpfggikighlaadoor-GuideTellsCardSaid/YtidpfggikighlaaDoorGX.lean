/- Equal lists of strings and of rows: SameTexts, SameRows answer yes. -/
import Derived.Test.YtidpfggikighlaaDoorGM
import Derived.BigQuiet
import Derived.IntWalk
import Derived.Deep.CutBlock
namespace Go.Proofs.YtidpfggikighlaaDoor
open Go Go.RowKit

theorem RS.at {W : World} {A : Option Addr} {n cap i : Nat} {l : List (List UInt8)} {x : List UInt8} (h : RS W (.slice A n cap) l) (hi : l[i]? = some x) : ∃ b o, A = some ⟨b, o, none⟩ ∧ W.cell? ⟨b, o + i, none⟩ = some (strV x) := by
  cases h with
  | none_ => simp at hi
  | some_ b o cap l hlt h => exact ⟨b, o, rfl, h i x hi⟩
set_option maxRecDepth 100000 in
set_option maxHeartbeats 4000000 in
theorem sameTexts_any (v1 v2 : Value) (l : List (List UInt8)) (hl : l.length ≤ 1000000) (w : World) (h1 : RS w v1 l) (h2 : RS w v2 l) : Calls Tryd.prog 30 #[v1, v2] w (fun e w' => e = .returned (.bool true) ∧ Below w.heap.size w w') := by
  obtain ⟨A1, c1, rfl⟩ := h1.len
  obtain ⟨A2, c2, rfl⟩ := h2.len
  have H1 := Lib.hid h1
  have H2 := Lib.hid h2
  obtain ⟨N, hN⟩ : ∃ N, l.length = N := ⟨_, rfl⟩
  have HN := Lib.hid hN
  rw [hN] at hl H1 H2 ⊢
  clear h1 h2 hN
  go_enter Tryd.func30, Tryd.ntmps30
  go_wp2_with fail
  go_loopw [5] (fun s5 wr => ∃ k : Nat, k ≤ N ∧ s5 = .int .i64 (k : Int) ∧ Hid (Below w.heap.size w wr)) (fun s5 _ => N - (intOf s5).toNat)
  case atStart => exact ⟨0, Nat.zero_le _, rfl, Lib.hid (Below.refl _ _)⟩
  case round =>
    obtain ⟨k, hk, rfl, BR⟩ := hrel
    by_cases hlt : k < N
    case neg =>
      obtain rfl : k = N := by omega
      have t1 : decide ((k : Int) < (k : Int)) = false := decide_eq_false (by omega)
      go_wp2
      go_ret
      exact ⟨rfl, BR.out⟩
    have t1 : decide ((k : Int) < (N : Int)) = true := decide_eq_true (by omega)
    obtain ⟨x, hx⟩ : ∃ x, l[k]? = some x := ⟨_, List.getElem?_eq_getElem (by rw [HN.out]; exact hlt)⟩
    obtain ⟨b1, o1, rfl, e1⟩ := (H1.out.keep BR.out).at hx
    obtain ⟨b2, o2, rfl, e2⟩ := (H2.out.keep BR.out).at hx
    have i1 : (k : Int) < (N : Int) := by omega
    have i2 : (0 : Int) ≤ (k : Int) := by omega
    unfold strV at e1 e2
    obtain ⟨X, hX⟩ : ∃ X : ByteArray, (⟨x.toArray⟩ : ByteArray) = X := ⟨_, rfl⟩
    rw [hX] at e1 e2
    have eq : (X.toList == X.toList) = true := beq_self_eq_true _
    clear hx hX
    go_upto_region 6 with fail
    go_quiet (fail)
    have B2 := Lib.hid (below_drewN BR.out nq)
    clear e1 e2
    generalize wr.drewN nq = w2 at *
    go_wp2_with fail
    go_roundw
    case rel => exact ⟨k + 1, by omega, by go_num, B2⟩
    case measure => simp [intOf]; omega
set_option maxRecDepth 100000 in
set_option maxHeartbeats 4000000 in
theorem sameRows_any (v1 v2 : Value) (l : List Rw) (hl : l.length ≤ 1000000) (w : World) (h1 : MR w v1 l) (h2 : MR w v2 l) : Calls Tryd.prog 38 #[v1, v2] w (fun e w' => e = .returned (.bool true) ∧ Below w.heap.size w w') := by
  obtain ⟨A1, c1, rfl⟩ := h1.len
  obtain ⟨A2, c2, rfl⟩ := h2.len
  have H1 := Lib.hid h1
  have H2 := Lib.hid h2
  obtain ⟨N, hN⟩ : ∃ N, l.length = N := ⟨_, rfl⟩
  have HN := Lib.hid hN
  rw [hN] at hl H1 H2 ⊢
  clear h1 h2 hN
  go_enter Tryd.func38, Tryd.ntmps38
  go_wp2_with fail
  go_loopw [5] (fun s5 wr => ∃ k : Nat, k ≤ N ∧ s5 = .int .i64 (k : Int) ∧ Hid (Below w.heap.size w wr)) (fun s5 _ => N - (intOf s5).toNat)
  case atStart => exact ⟨0, Nat.zero_le _, rfl, Lib.hid (Below.refl _ _)⟩
  case round =>
    obtain ⟨k, hk, rfl, BR⟩ := hrel
    by_cases hlt : k < N
    case neg =>
      obtain rfl : k = N := by omega
      have t1 : decide ((k : Int) < (k : Int)) = false := decide_eq_false (by omega)
      go_wp2
      go_ret
      exact ⟨rfl, BR.out⟩
    have t1 : decide ((k : Int) < (N : Int)) = true := decide_eq_true (by omega)
    obtain ⟨r, hx⟩ : ∃ r, l[k]? = some r := ⟨_, List.getElem?_eq_getElem (by rw [HN.out]; exact hlt)⟩
    obtain ⟨b1, o1, rfl, c0, c1', c2', c3, c4⟩ := (H1.out.keep BR.out).at hx
    obtain ⟨b2, o2, rfl, d0, d1, d2, d3, d4⟩ := (H2.out.keep BR.out).at hx
    have i1 : (k : Int) < (N : Int) := by omega
    have i2 : (0 : Int) ≤ (k : Int) := by omega
    clear hx
    go_upto_region 6 with fail
    go_quiet (fail)
    have B2 := Lib.hid (below_drewN BR.out nq)
    clear c0 c1' c2' c3 c4 d0 d1 d2 d3 d4
    generalize wr.drewN nq = w2 at *
    go_wp2_with fail
    go_roundw
    case rel => exact ⟨k + 1, by omega, by go_num, B2⟩
    case measure => simp [intOf]; omega
end Go.Proofs.YtidpfggikighlaaDoor
