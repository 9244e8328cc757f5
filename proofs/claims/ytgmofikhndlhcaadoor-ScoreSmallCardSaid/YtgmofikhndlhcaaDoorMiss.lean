/- The contract of missing. -/
import Derived.Test.YtgmofikhndlhcaaDoorNums
namespace Go.Proofs.YtgmofikhndlhcaaDoor
open Go.RowKit

def trickP (r : Nat) (v : Bool) (i : Nat) : Nat :=
  if r = 0 then (if v then 100 else 50) else if i = 0 then (if v then 200 else 100) else if i < 3 then (if v then 300 else 200) else 300
def sm (f : Nat → Nat) : Nat → Nat
  | 0 => 0
  | k + 1 => sm f k + f k
theorem sm_0 (f : Nat → Nat) : sm f 0 = 0 := rfl
theorem sm_s (f : Nat → Nat) (k : Nat) : sm f (k + 1) = sm f k + f k := rfl
theorem trickP_le (r : Nat) (v : Bool) (i : Nat) : trickP r v i ≤ 300 := by
  unfold trickP
  repeat' split
  all_goals omega
theorem sm_le (r : Nat) (v : Bool) : ∀ k, sm (trickP r v) k ≤ 300 * k
  | 0 => by simp [sm]
  | k + 1 => by have := sm_le r v k; have := trickP_le r v k; rw [sm_s]; omega
def lostP (r u : Nat) (v : Bool) : Nat := if r = 2 then sm (trickP r v) u * 2 else sm (trickP r v) u
attribute [irreducible] sm
set_option maxRecDepth 10000 in
set_option maxHeartbeats 1000000 in
theorem trick_true (i r b g : Nat) (w : World) (hi : i ≤ 13) (c1 : w.cell? ⟨b, 2, none⟩ = some (.int .u8 (r : Nat))) (c2 : w.cell? ⟨g, 0, none⟩ = some (.int .i64 1)) :
    Calls Tryd.prog 48 #[.int .i64 i, .pointer (some ⟨b, 0, none⟩), .pointer (some ⟨g, 0, none⟩)] w fun e w' => e = .returned (.int .i64 (trickP r true i : Nat)) ∧ w = w' := by
  have i1 : ∀ (a b : Int) (w : World), (Instr.index 73 (.agg #[.int .i64 a, .int .i64 b]) (.int .i64 1)).run Tryd.prog w = .ok (.int .i64 b) w := fun a b w => idx2 a b true w
  rcases (by omega : r = 0 ∨ r ≠ 0) with h0 | h0
  · have f0 : ((r : Int) == 0) = true := beq_iff_eq.2 (by omega)
    have H0 := Lib.hid h0
    clear h0
    go_enter Tryd.func48, Tryd.ntmps48
    go_wp2_with fail
    all_goals
      go_ret
      exact ⟨ret_i (by simp [trickP, H0.out]), rfl⟩
  · have f0 : ((r : Int) == 0) = false := beq_eq_false_iff_ne.2 (by omega)
    have H0 := Lib.hid h0
    clear h0
    rcases (by omega : i = 0 ∨ (i ≠ 0 ∧ i < 3) ∨ 3 ≤ i) with h3 | h3 | h3
    · have f1 : ((i : Int) == 0) = true := beq_iff_eq.2 (by omega)
      have H3 := Lib.hid h3
      clear h3
      go_enter Tryd.func48, Tryd.ntmps48
      go_wp2_with fail
      all_goals
        go_ret
        exact ⟨ret_i (by simp [trickP, H0.out, H3.out]), rfl⟩
    · have f1 : ((i : Int) == 0) = false := beq_eq_false_iff_ne.2 (by omega)
      have f3 : decide ((i : Int) < 3) = true := decide_eq_true (by omega)
      have H3 := Lib.hid h3
      clear h3
      go_enter Tryd.func48, Tryd.ntmps48
      go_wp2_with fail
      all_goals
        go_ret
        exact ⟨ret_i (by simp [trickP, H0.out, H3.out.1, H3.out.2]), rfl⟩
    · have f1 : ((i : Int) == 0) = false := beq_eq_false_iff_ne.2 (by omega)
      have f3 : decide ((i : Int) < 3) = false := decide_eq_false (by omega)
      have H3 : Hid (i ≠ 0 ∧ ¬ i < 3) := Lib.hid (by omega)
      clear h3
      go_enter Tryd.func48, Tryd.ntmps48
      go_wp2_with fail
      all_goals
        go_ret
        exact ⟨ret_i (by simp [trickP, H0.out, H3.out.1, H3.out.2]), rfl⟩
set_option maxRecDepth 10000 in
set_option maxHeartbeats 1000000 in
theorem trick_false (i r b g : Nat) (w : World) (hi : i ≤ 13) (c1 : w.cell? ⟨b, 2, none⟩ = some (.int .u8 (r : Nat))) (c2 : w.cell? ⟨g, 0, none⟩ = some (.int .i64 0)) :
    Calls Tryd.prog 48 #[.int .i64 i, .pointer (some ⟨b, 0, none⟩), .pointer (some ⟨g, 0, none⟩)] w fun e w' => e = .returned (.int .i64 (trickP r false i : Nat)) ∧ w = w' := by
  have i1 : ∀ (a b : Int) (w : World), (Instr.index 73 (.agg #[.int .i64 a, .int .i64 b]) (.int .i64 0)).run Tryd.prog w = .ok (.int .i64 a) w := fun a b w => idx2 a b false w
  rcases (by omega : r = 0 ∨ r ≠ 0) with h0 | h0
  · have f0 : ((r : Int) == 0) = true := beq_iff_eq.2 (by omega)
    have H0 := Lib.hid h0
    clear h0
    go_enter Tryd.func48, Tryd.ntmps48
    go_wp2_with fail
    all_goals
      go_ret
      exact ⟨ret_i (by simp [trickP, H0.out]), rfl⟩
  · have f0 : ((r : Int) == 0) = false := beq_eq_false_iff_ne.2 (by omega)
    have H0 := Lib.hid h0
    clear h0
    rcases (by omega : i = 0 ∨ (i ≠ 0 ∧ i < 3) ∨ 3 ≤ i) with h3 | h3 | h3
    · have f1 : ((i : Int) == 0) = true := beq_iff_eq.2 (by omega)
      have H3 := Lib.hid h3
      clear h3
      go_enter Tryd.func48, Tryd.ntmps48
      go_wp2_with fail
      all_goals
        go_ret
        exact ⟨ret_i (by simp [trickP, H0.out, H3.out]), rfl⟩
    · have f1 : ((i : Int) == 0) = false := beq_eq_false_iff_ne.2 (by omega)
      have f3 : decide ((i : Int) < 3) = true := decide_eq_true (by omega)
      have H3 := Lib.hid h3
      clear h3
      go_enter Tryd.func48, Tryd.ntmps48
      go_wp2_with fail
      all_goals
        go_ret
        exact ⟨ret_i (by simp [trickP, H0.out, H3.out.1, H3.out.2]), rfl⟩
    · have f1 : ((i : Int) == 0) = false := beq_eq_false_iff_ne.2 (by omega)
      have f3 : decide ((i : Int) < 3) = false := decide_eq_false (by omega)
      have H3 : Hid (i ≠ 0 ∧ ¬ i < 3) := Lib.hid (by omega)
      clear h3
      go_enter Tryd.func48, Tryd.ntmps48
      go_wp2_with fail
      all_goals
        go_ret
        exact ⟨ret_i (by simp [trickP, H0.out, H3.out.1, H3.out.2]), rfl⟩
theorem lost_two (r u : Nat) (v : Bool) (h : r = 2) : lostP r u v = sm (trickP r v) u * 2 := if_pos h
theorem lost_one (r u : Nat) (v : Bool) (h : r ≠ 2) : lostP r u v = sm (trickP r v) u := if_neg h
set_option maxRecDepth 100000 in
set_option maxHeartbeats 2000000 in
theorem missing_true (l d r s u : Nat) (w : World) (hu : u ≤ 13) :
    Calls Tryd.prog 36 #[.agg #[.int .u8 l, .int .u8 d, .int .u8 r, .int .u8 s], .int .i64 u, .bool true] w fun e w' => e = .returned (.int .i64 (lostP r u true : Nat)) ∧ Below w.heap.size w w' := by
  go_enter Tryd.func36, Tryd.ntmps36
  go_wp2_with fail
  refine (column_true _).mono ?_
  rintro e w1 ⟨rfl, rfl⟩
  go_wp2_with fail
  have k2 : ((w.alloc (.cells #[.int .u8 l, .int .u8 d, .int .u8 r, .int .u8 s] 23)).alloc (.cells #[.int .i64 1] 3)).cell? ⟨w.heap.size, 2, none⟩ = some (.int .u8 (r : Nat)) := by simp
  have kv : ((w.alloc (.cells #[.int .u8 l, .int .u8 d, .int .u8 r, .int .u8 s] 23)).alloc (.cells #[.int .i64 1] 3)).cell? ⟨w.heap.size + 1, 0, none⟩ = some (.int .i64 1) := by simp
  have hB : Below w.heap.size w ((w.alloc (.cells #[.int .u8 l, .int .u8 d, .int .u8 r, .int .u8 s] 23)).alloc (.cells #[.int .i64 1] 3)) := ((Below.refl _ _).alloc (Nat.le_refl _) _).alloc (by simp) _
  generalize (w.alloc (.cells #[.int .u8 l, .int .u8 d, .int .u8 r, .int .u8 s] 23)).alloc (.cells #[.int .i64 1] 3) = W at *
  go_loop [9, 15] (fun v9 v15 => ∃ k : Nat, k ≤ u ∧ v15 = .int .i64 k ∧ v9 = .int .i64 (sm (trickP r true) k : Nat)) (fun _ v15 => u - (intOf v15).toNat)
  case atStart => exact ⟨0, by omega, rfl, by rw [sm_0]; rfl⟩
  case round =>
    obtain ⟨k, hk, rfl, rfl⟩ := hrel
    by_cases hlt : k < u
    · have b1 := sm_le r true k
      have b2 := trickP_le r true k
      have S1 := Lib.hid (sm_s (trickP r true) k)
      generalize sm (trickP r true) k = S at *
      go_wp2_with fail
      refine (trick_true k r w.heap.size (w.heap.size + 1) _ (by omega) k2 kv).mono ?_
      rintro e w1 ⟨rfl, rfl⟩
      go_wp2_with fail
      exact ⟨⟨k + 1, by omega, by go_num, by rw [S1.out]; rfl⟩, by simp [intOf]; omega⟩
    · obtain rfl : k = u := by omega
      have b1 := sm_le r true k
      rcases (by omega : r = 2 ∨ r ≠ 2) with h2 | h2
      · have f2 : ((r : Int) == 2) = true := beq_iff_eq.2 (by omega)
        have HL := Lib.hid (lost_two r k true h2)
        clear h2
        go_wp2_with fail
        go_ret
        exact ⟨ret_i (by rw [HL.out]; rfl), hB⟩
      · have f2 : ((r : Int) == 2) = false := beq_eq_false_iff_ne.2 (by omega)
        have HL := Lib.hid (lost_one r k true h2)
        clear h2
        go_wp2_with fail
        go_ret
        exact ⟨ret_i (by rw [HL.out]), hB⟩
set_option maxRecDepth 100000 in
set_option maxHeartbeats 2000000 in
theorem missing_false (l d r s u : Nat) (w : World) (hu : u ≤ 13) :
    Calls Tryd.prog 36 #[.agg #[.int .u8 l, .int .u8 d, .int .u8 r, .int .u8 s], .int .i64 u, .bool false] w fun e w' => e = .returned (.int .i64 (lostP r u false : Nat)) ∧ Below w.heap.size w w' := by
  go_enter Tryd.func36, Tryd.ntmps36
  go_wp2_with fail
  refine (column_false _).mono ?_
  rintro e w1 ⟨rfl, rfl⟩
  go_wp2_with fail
  have k2 : ((w.alloc (.cells #[.int .u8 l, .int .u8 d, .int .u8 r, .int .u8 s] 23)).alloc (.cells #[.int .i64 0] 3)).cell? ⟨w.heap.size, 2, none⟩ = some (.int .u8 (r : Nat)) := by simp
  have kv : ((w.alloc (.cells #[.int .u8 l, .int .u8 d, .int .u8 r, .int .u8 s] 23)).alloc (.cells #[.int .i64 0] 3)).cell? ⟨w.heap.size + 1, 0, none⟩ = some (.int .i64 0) := by simp
  have hB : Below w.heap.size w ((w.alloc (.cells #[.int .u8 l, .int .u8 d, .int .u8 r, .int .u8 s] 23)).alloc (.cells #[.int .i64 0] 3)) := ((Below.refl _ _).alloc (Nat.le_refl _) _).alloc (by simp) _
  generalize (w.alloc (.cells #[.int .u8 l, .int .u8 d, .int .u8 r, .int .u8 s] 23)).alloc (.cells #[.int .i64 0] 3) = W at *
  go_loop [9, 15] (fun v9 v15 => ∃ k : Nat, k ≤ u ∧ v15 = .int .i64 k ∧ v9 = .int .i64 (sm (trickP r false) k : Nat)) (fun _ v15 => u - (intOf v15).toNat)
  case atStart => exact ⟨0, by omega, rfl, by rw [sm_0]; rfl⟩
  case round =>
    obtain ⟨k, hk, rfl, rfl⟩ := hrel
    by_cases hlt : k < u
    · have b1 := sm_le r false k
      have b2 := trickP_le r false k
      have S1 := Lib.hid (sm_s (trickP r false) k)
      generalize sm (trickP r false) k = S at *
      go_wp2_with fail
      refine (trick_false k r w.heap.size (w.heap.size + 1) _ (by omega) k2 kv).mono ?_
      rintro e w1 ⟨rfl, rfl⟩
      go_wp2_with fail
      exact ⟨⟨k + 1, by omega, by go_num, by rw [S1.out]; rfl⟩, by simp [intOf]; omega⟩
    · obtain rfl : k = u := by omega
      have b1 := sm_le r false k
      rcases (by omega : r = 2 ∨ r ≠ 2) with h2 | h2
      · have f2 : ((r : Int) == 2) = true := beq_iff_eq.2 (by omega)
        have HL := Lib.hid (lost_two r k false h2)
        clear h2
        go_wp2_with fail
        go_ret
        exact ⟨ret_i (by rw [HL.out]; rfl), hB⟩
      · have f2 : ((r : Int) == 2) = false := beq_eq_false_iff_ne.2 (by omega)
        have HL := Lib.hid (lost_one r k false h2)
        clear h2
        go_wp2_with fail
        go_ret
        exact ⟨ret_i (by rw [HL.out]), hB⟩
theorem missing_any (l d r s u : Nat) (v : Bool) (w : World) (hu : u ≤ 13) :
    Calls Tryd.prog 36 #[.agg #[.int .u8 l, .int .u8 d, .int .u8 r, .int .u8 s], .int .i64 u, .bool v] w fun e w' => e = .returned (.int .i64 (lostP r u v : Nat)) ∧ Below w.heap.size w w' := by
  cases v
  · exact missing_false l d r s u w hu
  · exact missing_true l d r s u w hu
theorem lostP_le (r u : Nat) (v : Bool) (hu : u ≤ 13) : lostP r u v ≤ 10000 := by
  have := sm_le r v u
  unfold lostP
  split <;> omega
attribute [irreducible] lostP
end Go.Proofs.YtgmofikhndlhcaaDoor
