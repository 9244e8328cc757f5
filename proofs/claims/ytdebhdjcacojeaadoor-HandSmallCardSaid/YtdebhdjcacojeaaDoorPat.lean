/- Contracts of hand.Pattern and hand.Balanced. -/
import Derived.Test.YtdebhdjcacojeaaDoorSuits
import Derived.Test.YtdebhdjcacojeaaDoorShelf
namespace Go.Proofs.YtdebhdjcacojeaaDoor
open Go.RowKit

/-- The four lengths in the order of the suits, in decimal, a dash between two. -/
def patL (L : Nat → Nat) : Nat × Nat × Nat × Nat → List UInt8
  | (a, b, c, d) => Lib.join [Lib.decDigits (L a), Lib.decDigits (L b), Lib.decDigits (L c), Lib.decDigits (L d)] [45]
theorem patL_len (L : Nat → Nat) (a b c d : Nat) (ha : L a ≤ 13) (hb : L b ≤ 13) (hc : L c ≤ 13) (hd : L d ≤ 13) :
    (Lib.join ([(⟨(Lib.decDigits (L a)).toArray⟩ : ByteArray), ⟨(Lib.decDigits (L b)).toArray⟩, ⟨(Lib.decDigits (L c)).toArray⟩, ⟨(Lib.decDigits (L d)).toArray⟩].map (·.data.toList)) (⟨#[45]⟩ : ByteArray).data.toList).length ≤ 140737488355328 := by
  have hk : ∀ n, n ≤ 13 → (Lib.decDigits n).length ≤ 2 := by
    intro n hn
    have : ∀ n : Fin 14, (Lib.decDigits n.val).length ≤ 2 := by decide +kernel
    exact this ⟨n, by omega⟩
  have h1 := hk _ ha
  have h2 := hk _ hb
  have h3 := hk _ hc
  have h4 := hk _ hd
  simp [Lib.join]
  omega
theorem patL_ret (L : Nat → Nat) (a b c d : Nat) :
    Ending.returned (.string ⟨(Lib.join ([(⟨(Lib.decDigits (L a)).toArray⟩ : ByteArray), ⟨(Lib.decDigits (L b)).toArray⟩, ⟨(Lib.decDigits (L c)).toArray⟩, ⟨(Lib.decDigits (L d)).toArray⟩].map (·.data.toList)) (⟨#[45]⟩ : ByteArray).data.toList).toArray⟩) = .returned (.string ⟨(patL L (a, b, c, d)).toArray⟩) := by
  simp [patL]
attribute [irreducible] patL
theorem sdx0 (x0 x1 x2 x3 : Value) (w : World) : (Instr.index 42 (.agg #[x0, x1, x2, x3]) (.int .i64 0)).run Tryd.prog w = .ok x0 w := by kernel_rfl
theorem sdx1 (x0 x1 x2 x3 : Value) (w : World) : (Instr.index 42 (.agg #[x0, x1, x2, x3]) (.int .i64 1)).run Tryd.prog w = .ok x1 w := by kernel_rfl
theorem sdx2 (x0 x1 x2 x3 : Value) (w : World) : (Instr.index 42 (.agg #[x0, x1, x2, x3]) (.int .i64 2)).run Tryd.prog w = .ok x2 w := by kernel_rfl
theorem sdx3 (x0 x1 x2 x3 : Value) (w : World) : (Instr.index 42 (.agg #[x0, x1, x2, x3]) (.int .i64 3)).run Tryd.prog w = .ok x3 w := by kernel_rfl

set_option maxHeartbeats 1000000 in
theorem pattern_any (m : Nat) (w : World) (hm : m < 18446744073709551616) :
    Calls Tryd.prog 20 #[.int .u64 m] w fun e w' => e = .returned (.string ⟨(patL (shp m) (sortTo (shp m) 4)).toArray⟩) ∧ Below w.heap.size w w' := by
  go_enter Tryd.func20, Tryd.ntmps20
  go_wp2_with fail
  refine (shape_any m _ hm).mono ?_
  rintro e w1 ⟨rfl, hb1⟩
  go_wp2_with fail
  refine (suits_any m _ hm).mono ?_
  rintro e w2 ⟨⟨a, b, c, d, hq, rfl⟩, hb2⟩
  have HQ := Lib.hid hq
  have hab := sort_lt (shp m) a b c d hq
  obtain ⟨ha, hb, hc, hd⟩ := hab
  clear hq
  have gs : ∀ t, t < 4 → w2.cell? ⟨w1.heap.size, t, none⟩ = some (.int .i64 (shp m t : Nat)) := fun t ht => keepB hb2 (by simp; omega) (by
    rcases (by omega : t = 0 ∨ t = 1 ∨ t = 2 ∨ t = 3) with rfl | rfl | rfl | rfl <;> simp)
  have ga := gs a ha
  have gb := gs b hb
  have gc := gs c hc
  have gd := gs d hd
  clear gs
  have p0 : w2.cell? ⟨w1.heap.size + 1, 0, none⟩ = some (.string ⟨#[]⟩) := keepB hb2 (by simp) (by simp)
  have p1 : w2.cell? ⟨w1.heap.size + 1, 1, none⟩ = some (.string ⟨#[]⟩) := keepB hb2 (by simp) (by simp)
  have p2 : w2.cell? ⟨w1.heap.size + 1, 2, none⟩ = some (.string ⟨#[]⟩) := keepB hb2 (by simp) (by simp)
  have p3 : w2.cell? ⟨w1.heap.size + 1, 3, none⟩ = some (.string ⟨#[]⟩) := keepB hb2 (by simp) (by simp)
  have kf : ∀ i, w2.frozen? ⟨w1.heap.size + 1, i, none⟩ = false := fun i => (hb2.frozen (by simp)).trans (by simp [World.frozen?_alloc_at])
  have la := shp_le m a
  have lb := shp_le m b
  have lc := shp_le m c
  have ld := shp_le m d
  have ia : (a : Int) < 4 := by omega
  have ib : (b : Int) < 4 := by omega
  have ic : (c : Int) < 4 := by omega
  have id : (d : Int) < 4 := by omega
  have i0 := sdx0 (.int .u8 (a : Nat)) (.int .u8 (b : Nat)) (.int .u8 (c : Nat)) (.int .u8 (d : Nat))
  have i1 := sdx1 (.int .u8 (a : Nat)) (.int .u8 (b : Nat)) (.int .u8 (c : Nat)) (.int .u8 (d : Nat))
  have i2 := sdx2 (.int .u8 (a : Nat)) (.int .u8 (b : Nat)) (.int .u8 (c : Nat)) (.int .u8 (d : Nat))
  have i3 := sdx3 (.int .u8 (a : Nat)) (.int .u8 (b : Nat)) (.int .u8 (c : Nat)) (.int .u8 (d : Nat))
  go_wp2_with fail
  refine wp_loop_rounds 5 ?_
  rw [rounds_succ]
  go_wp2_with (go_at_call 42; refine (Tryd.strconv_Itoa_small (shp m a) (by omega) _).mono ?_; rintro e w' ⟨rfl, rfl⟩)
  rw [rounds_succ]
  go_wp2_with (go_at_call 42; refine (Tryd.strconv_Itoa_small (shp m b) (by omega) _).mono ?_; rintro e w' ⟨rfl, rfl⟩)
  rw [rounds_succ]
  go_wp2_with (go_at_call 42; refine (Tryd.strconv_Itoa_small (shp m c) (by omega) _).mono ?_; rintro e w' ⟨rfl, rfl⟩)
  rw [rounds_succ]
  go_wp2_with (go_at_call 42; refine (Tryd.strconv_Itoa_small (shp m d) (by omega) _).mono ?_; rintro e w' ⟨rfl, rfl⟩)
  rw [rounds_succ]
  go_wp2_with fail
  have hz := hb2.size
  simp at hz
  have hlen := patL_len (shp m) a b c d (by omega) (by omega) (by omega) (by omega)
  refine (Tryd.strings_Join (w1.heap.size + 1) 0 4 [⟨(Lib.decDigits (shp m a)).toArray⟩, ⟨(Lib.decDigits (shp m b)).toArray⟩, ⟨(Lib.decDigits (shp m c)).toArray⟩, ⟨(Lib.decDigits (shp m d)).toArray⟩] ⟨#[45]⟩ _ ?_ ?_ ?_ ?_ ?_).mono ?_
  · intro j x hx
    rcases (by have := (List.getElem?_eq_some_iff.1 hx).1; simp at this; omega : j = 0 ∨ j = 1 ∨ j = 2 ∨ j = 3) with rfl | rfl | rfl | rfl <;> (simp at hx; subst hx; go_cell)
  · simp; omega
  · simp
  · simp
  · exact hlen
  rintro e w3 ⟨rfl, hb3⟩
  go_wp2
  go_ret
  refine ⟨by rw [HQ.out]; exact patL_ret _ _ _ _ _, ?_⟩
  have z1 := hb1.size
  have hB := ((hb1.alloc z1 (.cells #[.int .i64 (shp m 0 : Nat), .int .i64 (shp m 1 : Nat), .int .i64 (shp m 2 : Nat), .int .i64 (shp m 3 : Nat)] 31)).alloc (by simp; omega)
    (.cells #[.string ⟨#[]⟩, .string ⟨#[]⟩, .string ⟨#[]⟩, .string ⟨#[]⟩] 49)).trans (hb2.mono (by simp; omega))
  refine Below.trans ?_ (hb3.mono (by simp; omega))
  have q : w.heap.size ≤ w1.heap.size + 1 := by omega
  exact (((hB.setCell (by simpa using q) _).setCell (by simpa using q) _).setCell (by simpa using q) _).setCell (by simpa using q) _

/-- Balanced: right, and one of three patterns. -/
def balB (m : Nat) : Bool := rightB m && (patL (shp m) (sortTo (shp m) 4) == [52, 45, 51, 45, 51, 45, 51] || patL (shp m) (sortTo (shp m) 4) == [52, 45, 52, 45, 51, 45, 50] || patL (shp m) (sortTo (shp m) 4) == [53, 45, 51, 45, 51, 45, 50])
theorem balanced_any (m : Nat) (w : World) (hm : Hid (m < 18446744073709551616)) :
    Calls Tryd.prog 21 #[.int .u64 m] w fun e w' => e = .returned (.bool (balB m)) ∧ Below w.heap.size w w' := by
  cases hr : rightB m with
  | false =>
    have HR := Lib.hid hr
    go_enter Tryd.func21, Tryd.ntmps21
    go_wp2_with (go_at_call 22; refine (right_any m _ hm).mono ?_; rintro e w' ⟨rfl, rfl⟩)
    go_ret
    exact ⟨by simp [balB, HR.out], Below.refl _ _⟩
  | true =>
    have HR := Lib.hid hr
    obtain ⟨p, hp⟩ : ∃ p, p = patL (shp m) (sortTo (shp m) 4) := ⟨_, rfl⟩
    have hb : balB m = (p == [52, 45, 51, 45, 51, 45, 51] || p == [52, 45, 52, 45, 51, 45, 50] || p == [53, 45, 51, 45, 51, 45, 50]) := by simp [balB, HR.out, hp]
    have HB := Lib.hid hb
    have HP := Lib.hid hp
    clear hb hp
    go_enter Tryd.func21, Tryd.ntmps21
    go_wp2_with (first
      | (go_at_call 22; refine (right_any m _ hm).mono ?_; rintro e w' ⟨rfl, rfl⟩)
      | (go_at_call 20; refine (pattern_any m _ hm.out).mono ?_; rw [← HP.out]; rintro e w' ⟨rfl, hbw⟩))
    all_goals (first
      | (exfalso; clear hr HR HB HP; simp_all; done)
      | (go_ret; refine ⟨?_, by assumption⟩; rw [HB.out]; simp [*]))
end Go.Proofs.YtdebhdjcacojeaaDoor
