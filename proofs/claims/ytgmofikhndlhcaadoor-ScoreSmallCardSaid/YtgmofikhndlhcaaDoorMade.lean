/- The contract of made. -/
import Derived.Test.YtgmofikhndlhcaaDoorMadeP
namespace Go.Proofs.YtgmofikhndlhcaaDoor
open Go.RowKit

set_option maxRecDepth 100000 in
set_option maxHeartbeats 4000000 in
theorem made_true (l d r s o : Nat) (w : World) (ht : Tabs w) (hl : l ≤ 7) (hd : d ≤ 4) (hr : r ≤ 2) (ho : o ≤ 13) :
    Calls Tryd.prog 37 #[.agg #[.int .u8 l, .int .u8 d, .int .u8 r, .int .u8 s], .int .i64 o, .bool true] w fun e w' => e = .returned (.int .i64 (madeP l d r o true : Nat)) ∧ Below w.heap.size w w' := by
  have wl : IntKind.i64.wrap (l : Int) = (l : Int) := IntWalk.i64_in _ (by omega)
  have id5 : (d : Int) < 5 := by omega
  have ir3 : (r : Int) < 3 := by omega
  have v1 := val_le d
  have v2 := fac_le r
  have v3 := moreP_le r true
  have hB : madeP l d r o true = base l d r + (if 100 ≤ base l d r then 500 else 50) + (if l = 6 then 750 else if l = 7 then 1500 else 0) + 50 * r + o * each d r true := by rw [madeP_eq]; rfl
  obtain ⟨p0, hp0⟩ : ∃ p0, p0 = l * val d := ⟨_, rfl⟩
  obtain ⟨p1, hp1⟩ : ∃ p1, p1 = p0 + if d = 4 then 10 else 0 := ⟨_, rfl⟩
  obtain ⟨p2, hp2⟩ : ∃ p2, p2 = p1 * fac r := ⟨_, rfl⟩
  have e0 : IntKind.i64.wrap ((l : Int) * (val d : Nat)) = (p0 : Int) := hp0 ▸ mul_w l (val d) 7 30 hl v1 (by omega)
  have b0 : p0 ≤ 210 := by rw [hp0]; exact Nat.le_trans (Nat.mul_le_mul hl v1) (by omega)
  have b1 : p1 ≤ 220 := by rw [hp1]; split <;> omega
  have e2 : IntKind.i64.wrap ((p1 : Int) * (fac r : Nat)) = (p2 : Int) := hp2 ▸ mul_w p1 (fac r) 220 4 b1 v2 (by omega)
  have b2 : p2 ≤ 880 := by rw [hp2]; exact Nat.le_trans (Nat.mul_le_mul b1 v2) (by omega)
  have hbase : base l d r = p2 := by rw [hp2, hp1, hp0]; rfl
  rw [hbase] at hB
  clear hp2 hp0 hbase
  have c1 := fun o => keepA o (ht.v d (by omega))
  have c2 := fun o => keepA o (ht.f r (by omega))
  have c3 := fun o => keepA o (ht.i r (by omega))
  have c4 : ∀ o, (w.alloc o).cell? ⟨2, r * 2 + 1, none⟩ = some (.int .i64 (moreP r true : Nat)) := fun o => keepA o (ht.m r (by omega) true)
  have i1 : ∀ (a b : Int) w, (Instr.index 73 (.agg #[.int .i64 a, .int .i64 b]) (.int .i64 1)).run Tryd.prog w = .ok (.int .i64 b) w := fun a b w => idx2 a b true w
  clear ht
  rcases (by omega : d = 4 ∨ d ≠ 4) with hd4 | hd4
  · rw [if_pos hd4] at hp1
    have f4 : ((d : Int) == 4) = true := beq_iff_eq.2 (by omega)
    have e1 : (p0 : Int) + 10 = (p1 : Int) := by omega
    have HP := Lib.hid hp1
    clear hp1 hd4
    rcases (by omega : r = 0 ∨ 0 < r) with hr0 | hr0
    · have hx2 : each d r true = val d := by unfold each; rw [if_pos hr0]
      rw [hx2] at hB
      obtain ⟨y, hy⟩ : ∃ y, y = o * val d := ⟨_, rfl⟩
      have e3 : IntKind.i64.wrap ((o : Int) * (val d : Nat)) = (y : Int) := hy ▸ mul_w o (val d) 13 400 ho (by omega) (by omega)
      have by_ : y ≤ 5200 := by rw [hy]; exact Nat.le_trans (Nat.mul_le_mul ho (by omega : val d ≤ 400)) (by omega)
      rw [← hy] at hB
      have HB := Lib.hid hB
      clear hB hy hx2
      have fr : decide (0 < r) = false := decide_eq_false (by omega)
      clear hr0
      go_enter Tryd.func37, Tryd.ntmps37
      go_wp2_with fail
      refine (column_true _).mono ?_
      rintro e w1 ⟨rfl, rfl⟩
      go_wp2_with fail
      go_quiet (fail)
      go_wp2_with fail
      all_goals
        go_ret
        refine ⟨ret_i ?_, ?_⟩
        · have e4 : wrap64 ((o : Int) * (val d : Nat)) = (y : Int) := by rw [IntKind.wrap_i64] at e3; unfold wrap64; exact e3
          try rw [e4]
          try rw [IntWalk.wrap64_in _ (by omega)]
          rw [HB.out]
          repeat' split
          all_goals (first | omega | (clear c1 c2 c3 c4 i1 f4; simp only [beq_iff_eq, beq_eq_false_iff_ne, ne_eq] at *; omega))
        · exact below_drewN ((Below.refl _ _).alloc (Nat.le_refl _) _) _
    · have hx2 : each d r true = moreP r true := by unfold each; rw [if_neg (by omega)]
      rw [hx2] at hB
      obtain ⟨y, hy⟩ : ∃ y, y = o * moreP r true := ⟨_, rfl⟩
      have e3 : IntKind.i64.wrap ((o : Int) * (moreP r true : Nat)) = (y : Int) := hy ▸ mul_w o (moreP r true) 13 400 ho (by omega) (by omega)
      have by_ : y ≤ 5200 := by rw [hy]; exact Nat.le_trans (Nat.mul_le_mul ho (by omega : moreP r true ≤ 400)) (by omega)
      rw [← hy] at hB
      have HB := Lib.hid hB
      clear hB hy hx2
      have fr : decide (0 < r) = true := decide_eq_true (by omega)
      
      go_enter Tryd.func37, Tryd.ntmps37
      go_wp2_with fail
      refine (column_true _).mono ?_
      rintro e w1 ⟨rfl, rfl⟩
      go_wp2_with fail
      go_quiet (fail)
      go_wp2_with fail
      all_goals
        go_ret
        refine ⟨ret_i ?_, ?_⟩
        · have e4 : wrap64 ((o : Int) * (moreP r true : Nat)) = (y : Int) := by rw [IntKind.wrap_i64] at e3; unfold wrap64; exact e3
          try rw [e4]
          try rw [IntWalk.wrap64_in _ (by omega)]
          rw [HB.out]
          repeat' split
          all_goals (first | omega | (clear c1 c2 c3 c4 i1 f4; simp only [beq_iff_eq, beq_eq_false_iff_ne, ne_eq] at *; omega))
        · exact below_drewN ((Below.refl _ _).alloc (Nat.le_refl _) _) _
  · rw [if_neg hd4] at hp1
    have f4 : ((d : Int) == 4) = false := beq_eq_false_iff_ne.2 (by omega)
    obtain rfl : p1 = p0 := by omega
    have HP := Lib.hid hp1
    clear hp1 hd4
    rcases (by omega : r = 0 ∨ 0 < r) with hr0 | hr0
    · have hx2 : each d r true = val d := by unfold each; rw [if_pos hr0]
      rw [hx2] at hB
      obtain ⟨y, hy⟩ : ∃ y, y = o * val d := ⟨_, rfl⟩
      have e3 : IntKind.i64.wrap ((o : Int) * (val d : Nat)) = (y : Int) := hy ▸ mul_w o (val d) 13 400 ho (by omega) (by omega)
      have by_ : y ≤ 5200 := by rw [hy]; exact Nat.le_trans (Nat.mul_le_mul ho (by omega : val d ≤ 400)) (by omega)
      rw [← hy] at hB
      have HB := Lib.hid hB
      clear hB hy hx2
      have fr : decide (0 < r) = false := decide_eq_false (by omega)
      clear hr0
      go_enter Tryd.func37, Tryd.ntmps37
      go_wp2_with fail
      refine (column_true _).mono ?_
      rintro e w1 ⟨rfl, rfl⟩
      go_wp2_with fail
      go_quiet (fail)
      go_wp2_with fail
      all_goals
        go_ret
        refine ⟨ret_i ?_, ?_⟩
        · have e4 : wrap64 ((o : Int) * (val d : Nat)) = (y : Int) := by rw [IntKind.wrap_i64] at e3; unfold wrap64; exact e3
          try rw [e4]
          try rw [IntWalk.wrap64_in _ (by omega)]
          rw [HB.out]
          repeat' split
          all_goals (first | omega | (clear c1 c2 c3 c4 i1 f4; simp only [beq_iff_eq, beq_eq_false_iff_ne, ne_eq] at *; omega))
        · exact below_drewN ((Below.refl _ _).alloc (Nat.le_refl _) _) _
    · have hx2 : each d r true = moreP r true := by unfold each; rw [if_neg (by omega)]
      rw [hx2] at hB
      obtain ⟨y, hy⟩ : ∃ y, y = o * moreP r true := ⟨_, rfl⟩
      have e3 : IntKind.i64.wrap ((o : Int) * (moreP r true : Nat)) = (y : Int) := hy ▸ mul_w o (moreP r true) 13 400 ho (by omega) (by omega)
      have by_ : y ≤ 5200 := by rw [hy]; exact Nat.le_trans (Nat.mul_le_mul ho (by omega : moreP r true ≤ 400)) (by omega)
      rw [← hy] at hB
      have HB := Lib.hid hB
      clear hB hy hx2
      have fr : decide (0 < r) = true := decide_eq_true (by omega)
      
      go_enter Tryd.func37, Tryd.ntmps37
      go_wp2_with fail
      refine (column_true _).mono ?_
      rintro e w1 ⟨rfl, rfl⟩
      go_wp2_with fail
      go_quiet (fail)
      go_wp2_with fail
      all_goals
        go_ret
        refine ⟨ret_i ?_, ?_⟩
        · have e4 : wrap64 ((o : Int) * (moreP r true : Nat)) = (y : Int) := by rw [IntKind.wrap_i64] at e3; unfold wrap64; exact e3
          try rw [e4]
          try rw [IntWalk.wrap64_in _ (by omega)]
          rw [HB.out]
          repeat' split
          all_goals (first | omega | (clear c1 c2 c3 c4 i1 f4; simp only [beq_iff_eq, beq_eq_false_iff_ne, ne_eq] at *; omega))
        · exact below_drewN ((Below.refl _ _).alloc (Nat.le_refl _) _) _
set_option maxRecDepth 100000 in
set_option maxHeartbeats 4000000 in
theorem made_false (l d r s o : Nat) (w : World) (ht : Tabs w) (hl : l ≤ 7) (hd : d ≤ 4) (hr : r ≤ 2) (ho : o ≤ 13) :
    Calls Tryd.prog 37 #[.agg #[.int .u8 l, .int .u8 d, .int .u8 r, .int .u8 s], .int .i64 o, .bool false] w fun e w' => e = .returned (.int .i64 (madeP l d r o false : Nat)) ∧ Below w.heap.size w w' := by
  have wl : IntKind.i64.wrap (l : Int) = (l : Int) := IntWalk.i64_in _ (by omega)
  have id5 : (d : Int) < 5 := by omega
  have ir3 : (r : Int) < 3 := by omega
  have v1 := val_le d
  have v2 := fac_le r
  have v3 := moreP_le r false
  have hB : madeP l d r o false = base l d r + (if 100 ≤ base l d r then 300 else 50) + (if l = 6 then 500 else if l = 7 then 1000 else 0) + 50 * r + o * each d r false := by rw [madeP_eq]; rfl
  obtain ⟨p0, hp0⟩ : ∃ p0, p0 = l * val d := ⟨_, rfl⟩
  obtain ⟨p1, hp1⟩ : ∃ p1, p1 = p0 + if d = 4 then 10 else 0 := ⟨_, rfl⟩
  obtain ⟨p2, hp2⟩ : ∃ p2, p2 = p1 * fac r := ⟨_, rfl⟩
  have e0 : IntKind.i64.wrap ((l : Int) * (val d : Nat)) = (p0 : Int) := hp0 ▸ mul_w l (val d) 7 30 hl v1 (by omega)
  have b0 : p0 ≤ 210 := by rw [hp0]; exact Nat.le_trans (Nat.mul_le_mul hl v1) (by omega)
  have b1 : p1 ≤ 220 := by rw [hp1]; split <;> omega
  have e2 : IntKind.i64.wrap ((p1 : Int) * (fac r : Nat)) = (p2 : Int) := hp2 ▸ mul_w p1 (fac r) 220 4 b1 v2 (by omega)
  have b2 : p2 ≤ 880 := by rw [hp2]; exact Nat.le_trans (Nat.mul_le_mul b1 v2) (by omega)
  have hbase : base l d r = p2 := by rw [hp2, hp1, hp0]; rfl
  rw [hbase] at hB
  clear hp2 hp0 hbase
  have c1 := fun o => keepA o (ht.v d (by omega))
  have c2 := fun o => keepA o (ht.f r (by omega))
  have c3 := fun o => keepA o (ht.i r (by omega))
  have c4 : ∀ o, (w.alloc o).cell? ⟨2, r * 2, none⟩ = some (.int .i64 (moreP r false : Nat)) := fun o => keepA o (ht.m r (by omega) false)
  have i1 : ∀ (a b : Int) w, (Instr.index 73 (.agg #[.int .i64 a, .int .i64 b]) (.int .i64 0)).run Tryd.prog w = .ok (.int .i64 a) w := fun a b w => idx2 a b false w
  clear ht
  rcases (by omega : d = 4 ∨ d ≠ 4) with hd4 | hd4
  · rw [if_pos hd4] at hp1
    have f4 : ((d : Int) == 4) = true := beq_iff_eq.2 (by omega)
    have e1 : (p0 : Int) + 10 = (p1 : Int) := by omega
    have HP := Lib.hid hp1
    clear hp1 hd4
    rcases (by omega : r = 0 ∨ 0 < r) with hr0 | hr0
    · have hx2 : each d r false = val d := by unfold each; rw [if_pos hr0]
      rw [hx2] at hB
      obtain ⟨y, hy⟩ : ∃ y, y = o * val d := ⟨_, rfl⟩
      have e3 : IntKind.i64.wrap ((o : Int) * (val d : Nat)) = (y : Int) := hy ▸ mul_w o (val d) 13 400 ho (by omega) (by omega)
      have by_ : y ≤ 5200 := by rw [hy]; exact Nat.le_trans (Nat.mul_le_mul ho (by omega : val d ≤ 400)) (by omega)
      rw [← hy] at hB
      have HB := Lib.hid hB
      clear hB hy hx2
      have fr : decide (0 < r) = false := decide_eq_false (by omega)
      clear hr0
      go_enter Tryd.func37, Tryd.ntmps37
      go_wp2_with fail
      refine (column_false _).mono ?_
      rintro e w1 ⟨rfl, rfl⟩
      go_wp2_with fail
      go_quiet (fail)
      go_wp2_with fail
      all_goals
        go_ret
        refine ⟨ret_i ?_, ?_⟩
        · have e4 : wrap64 ((o : Int) * (val d : Nat)) = (y : Int) := by rw [IntKind.wrap_i64] at e3; unfold wrap64; exact e3
          try rw [e4]
          try rw [IntWalk.wrap64_in _ (by omega)]
          rw [HB.out]
          repeat' split
          all_goals (first | omega | (clear c1 c2 c3 c4 i1 f4; simp only [beq_iff_eq, beq_eq_false_iff_ne, ne_eq] at *; omega))
        · exact below_drewN ((Below.refl _ _).alloc (Nat.le_refl _) _) _
    · have hx2 : each d r false = moreP r false := by unfold each; rw [if_neg (by omega)]
      rw [hx2] at hB
      obtain ⟨y, hy⟩ : ∃ y, y = o * moreP r false := ⟨_, rfl⟩
      have e3 : IntKind.i64.wrap ((o : Int) * (moreP r false : Nat)) = (y : Int) := hy ▸ mul_w o (moreP r false) 13 400 ho (by omega) (by omega)
      have by_ : y ≤ 5200 := by rw [hy]; exact Nat.le_trans (Nat.mul_le_mul ho (by omega : moreP r false ≤ 400)) (by omega)
      rw [← hy] at hB
      have HB := Lib.hid hB
      clear hB hy hx2
      have fr : decide (0 < r) = true := decide_eq_true (by omega)
      
      go_enter Tryd.func37, Tryd.ntmps37
      go_wp2_with fail
      refine (column_false _).mono ?_
      rintro e w1 ⟨rfl, rfl⟩
      go_wp2_with fail
      go_quiet (fail)
      go_wp2_with fail
      all_goals
        go_ret
        refine ⟨ret_i ?_, ?_⟩
        · have e4 : wrap64 ((o : Int) * (moreP r false : Nat)) = (y : Int) := by rw [IntKind.wrap_i64] at e3; unfold wrap64; exact e3
          try rw [e4]
          try rw [IntWalk.wrap64_in _ (by omega)]
          rw [HB.out]
          repeat' split
          all_goals (first | omega | (clear c1 c2 c3 c4 i1 f4; simp only [beq_iff_eq, beq_eq_false_iff_ne, ne_eq] at *; omega))
        · exact below_drewN ((Below.refl _ _).alloc (Nat.le_refl _) _) _
  · rw [if_neg hd4] at hp1
    have f4 : ((d : Int) == 4) = false := beq_eq_false_iff_ne.2 (by omega)
    obtain rfl : p1 = p0 := by omega
    have HP := Lib.hid hp1
    clear hp1 hd4
    rcases (by omega : r = 0 ∨ 0 < r) with hr0 | hr0
    · have hx2 : each d r false = val d := by unfold each; rw [if_pos hr0]
      rw [hx2] at hB
      obtain ⟨y, hy⟩ : ∃ y, y = o * val d := ⟨_, rfl⟩
      have e3 : IntKind.i64.wrap ((o : Int) * (val d : Nat)) = (y : Int) := hy ▸ mul_w o (val d) 13 400 ho (by omega) (by omega)
      have by_ : y ≤ 5200 := by rw [hy]; exact Nat.le_trans (Nat.mul_le_mul ho (by omega : val d ≤ 400)) (by omega)
      rw [← hy] at hB
      have HB := Lib.hid hB
      clear hB hy hx2
      have fr : decide (0 < r) = false := decide_eq_false (by omega)
      clear hr0
      go_enter Tryd.func37, Tryd.ntmps37
      go_wp2_with fail
      refine (column_false _).mono ?_
      rintro e w1 ⟨rfl, rfl⟩
      go_wp2_with fail
      go_quiet (fail)
      go_wp2_with fail
      all_goals
        go_ret
        refine ⟨ret_i ?_, ?_⟩
        · have e4 : wrap64 ((o : Int) * (val d : Nat)) = (y : Int) := by rw [IntKind.wrap_i64] at e3; unfold wrap64; exact e3
          try rw [e4]
          try rw [IntWalk.wrap64_in _ (by omega)]
          rw [HB.out]
          repeat' split
          all_goals (first | omega | (clear c1 c2 c3 c4 i1 f4; simp only [beq_iff_eq, beq_eq_false_iff_ne, ne_eq] at *; omega))
        · exact below_drewN ((Below.refl _ _).alloc (Nat.le_refl _) _) _
    · have hx2 : each d r false = moreP r false := by unfold each; rw [if_neg (by omega)]
      rw [hx2] at hB
      obtain ⟨y, hy⟩ : ∃ y, y = o * moreP r false := ⟨_, rfl⟩
      have e3 : IntKind.i64.wrap ((o : Int) * (moreP r false : Nat)) = (y : Int) := hy ▸ mul_w o (moreP r false) 13 400 ho (by omega) (by omega)
      have by_ : y ≤ 5200 := by rw [hy]; exact Nat.le_trans (Nat.mul_le_mul ho (by omega : moreP r false ≤ 400)) (by omega)
      rw [← hy] at hB
      have HB := Lib.hid hB
      clear hB hy hx2
      have fr : decide (0 < r) = true := decide_eq_true (by omega)
      
      go_enter Tryd.func37, Tryd.ntmps37
      go_wp2_with fail
      refine (column_false _).mono ?_
      rintro e w1 ⟨rfl, rfl⟩
      go_wp2_with fail
      go_quiet (fail)
      go_wp2_with fail
      all_goals
        go_ret
        refine ⟨ret_i ?_, ?_⟩
        · have e4 : wrap64 ((o : Int) * (moreP r false : Nat)) = (y : Int) := by rw [IntKind.wrap_i64] at e3; unfold wrap64; exact e3
          try rw [e4]
          try rw [IntWalk.wrap64_in _ (by omega)]
          rw [HB.out]
          repeat' split
          all_goals (first | omega | (clear c1 c2 c3 c4 i1 f4; simp only [beq_iff_eq, beq_eq_false_iff_ne, ne_eq] at *; omega))
        · exact below_drewN ((Below.refl _ _).alloc (Nat.le_refl _) _) _
theorem made_any (l d r s o : Nat) (v : Bool) (w : World) (ht : Tabs w) (hl : l ≤ 7) (hd : d ≤ 4) (hr : r ≤ 2) (ho : o ≤ 13) :
    Calls Tryd.prog 37 #[.agg #[.int .u8 l, .int .u8 d, .int .u8 r, .int .u8 s], .int .i64 o, .bool v] w fun e w' => e = .returned (.int .i64 (madeP l d r o v : Nat)) ∧ Below w.heap.size w w' := by
  cases v
  · exact made_false l d r s o w ht hl hd hr ho
  · exact made_true l d r s o w ht hl hd hr ho
end Go.Proofs.YtgmofikhndlhcaaDoor
