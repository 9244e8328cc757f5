/- The contracts of Made and of. -/
import Derived.Test.YtgmofikhndlhcaaDoorPoints
import Derived.Test.YtgmofikhndlhcaaDoorRead
namespace Go.Proofs.YtgmofikhndlhcaaDoor
open Go.RowKit

/-- A right contract and tricks, made of a number. -/
def madeL (n : Nat) : Nat := n % 8
def madeD (n : Nat) : Nat := if n % 8 = 0 then 0 else n / 8 % 5
def madeR (n : Nat) : Nat := if n % 8 = 0 then 0 else n / 8 / 5 % 3
def madeS (n : Nat) : Nat := if n % 8 = 0 then 0 else n / 8 / 15 % 4
def madeK (n : Nat) : Nat := if n % 8 = 0 then 0 else n / 8 / 60 % 14
theorem made_ok (n : Nat) : (madeL n = 0 ∧ madeD n = 0 ∧ madeR n = 0 ∧ madeS n = 0 ∧ madeK n = 0) ∨ (1 ≤ madeL n ∧ madeL n ≤ 7 ∧ madeD n ≤ 4 ∧ madeR n ≤ 2 ∧ madeS n ≤ 3 ∧ madeK n ≤ 13) := by
  unfold madeL madeD madeR madeS madeK
  split <;> omega
set_option maxRecDepth 100000 in
set_option maxHeartbeats 2000000 in
theorem made_c (n : Nat) (w : World) (hn : n < 4294967296) :
    Calls Tryd.prog 14 #[.int .u32 n] w fun e w' => e = .returned (.tuple #[.agg #[.int .u8 (madeL n : Nat), .int .u8 (madeD n : Nat), .int .u8 (madeR n : Nat), .int .u8 (madeS n : Nat)], .int .i64 (madeK n : Nat)]) ∧ Below w.heap.size w w' := by
  rcases (by omega : n % 8 = 0 ∨ n % 8 ≠ 0) with h0 | h0
  · have hM : Hid (madeL n = 0 ∧ madeD n = 0 ∧ madeR n = 0 ∧ madeS n = 0 ∧ madeK n = 0) := Lib.hid (by
      unfold madeL madeD madeR madeS madeK
      simp [h0])
    have e0 : (n : Int) % 8 = 0 := by omega
    clear h0
    go_enter Tryd.func14, Tryd.ntmps14
    go_wp2_with fail
    refine bodyPost_ret (v := .tuple #[.agg #[.int .u8 0, .int .u8 0, .int .u8 0, .int .u8 0], .int .i64 0]) (by simp [results, Tryd.results14, go_sem]) rfl ⟨?_, ?_⟩
    · obtain ⟨a, b, c, d, e⟩ := hM.out
      rw [a, b, c, d, e]; rfl
    · exact ((Below.refl _ _).alloc (Nat.le_refl _) _).alloc (by simp) _
  · obtain ⟨l, hl⟩ : ∃ l, l = n % 8 := ⟨_, rfl⟩
    obtain ⟨m, hm⟩ : ∃ m, m = n / 8 := ⟨_, rfl⟩
    obtain ⟨d, hd⟩ : ∃ d, d = m % 5 := ⟨_, rfl⟩
    obtain ⟨r, hr⟩ : ∃ r, r = m / 5 % 3 := ⟨_, rfl⟩
    obtain ⟨s, hs⟩ : ∃ s, s = m / 15 % 4 := ⟨_, rfl⟩
    obtain ⟨k, hk⟩ : ∃ k, k = m / 60 % 14 := ⟨_, rfl⟩
    have hM : Hid (madeL n = l ∧ madeD n = d ∧ madeR n = r ∧ madeS n = s ∧ madeK n = k) := Lib.hid (by
      unfold madeL madeD madeR madeS madeK
      rw [if_neg h0, if_neg h0, if_neg h0, if_neg h0, hl, hd, hr, hs, hk, hm]
      exact ⟨rfl, rfl, rfl, rfl, rfl⟩)
    have f0 : ((l : Int) == 0) = false := beq_eq_false_iff_ne.2 (by omega)
    have e0 : (n : Int) % 8 = (l : Int) := by omega
    have e1 : (n : Int) / 8 = (m : Int) := by omega
    have e2 : (m : Int) % 5 = (d : Int) := by omega
    have e3 : (m : Int) / 5 % 3 = (r : Int) := by omega
    have e4 : (m : Int) / 15 % 4 = (s : Int) := by omega
    have e5 : (m : Int) / 60 % 14 = (k : Int) := by omega
    have b0 : l < 8 := by omega
    have b1 : d < 5 := by omega
    have b2 : r < 3 := by omega
    have b3 : s < 4 := by omega
    have b4 : k < 14 := by omega
    have b5 : m < 4294967296 := by omega
    clear hl hm hd hr hs hk h0
    go_enter Tryd.func14, Tryd.ntmps14
    go_wp2_with fail
    refine bodyPost_ret (v := .tuple #[.agg #[.int .u8 (l : Nat), .int .u8 (d : Nat), .int .u8 (r : Nat), .int .u8 (s : Nat)], .int .i64 (k : Nat)]) (by simp [results, Tryd.results14, go_sem]) rfl ⟨?_, ?_⟩
    · obtain ⟨a, b, c, d', e⟩ := hM.out
      rw [a, b, c, d', e]
    · exact ((Below.refl _ _).alloc (Nat.le_refl _) _).alloc (by simp) _
attribute [irreducible] madeL madeD madeR madeS madeK
set_option maxHeartbeats 2000000 in
/-- What of returns: the points, and whether there are any. -/
theorem of_any (l d r s : Nat) (k : Int) (v : Bool) (w : World) (ht : Tabs w) (hl256 : l < 256) :
    Calls Tryd.prog 15 #[.agg #[.int .u8 l, .int .u8 d, .int .u8 r, .int .u8 s], .int .i64 k, .bool v] w fun e w' => e = .returned (.tuple #[.int .i64 (ptsP l d r s k v).1, .bool ((ptsP l d r s k v).2 == 0)]) ∧ Below w.heap.size w w' := by
  have TK := Lib.hid (ht.keep ((Below.refl _ _).alloc (Nat.le_refl _) (.cells #[.int .u8 l, .int .u8 d, .int .u8 r, .int .u8 s] 23)))
  have QC : Hid (∀ w, Tabs w → Calls Tryd.prog 18 #[.agg #[.int .u8 (l : Nat), .int .u8 (d : Nat), .int .u8 (r : Nat), .int .u8 (s : Nat)], .int .i64 k, .bool v] w fun e w' => e = .returned (.tuple #[.int .i64 (ptsP l d r s k v).1, .int .i64 (ptsP l d r s k v).2]) ∧ Below w.heap.size w w') := Lib.hid fun w hw => points_any l d r s k v w hw hl256
  generalize ptsP l d r s k v = q at *
  obtain ⟨p, e2⟩ := q
  clear ht
  go_enter Tryd.func15, Tryd.ntmps15
  go_wp2_with fail
  refine (QC.out _ TK.out).mono ?_
  rintro e w1 ⟨rfl, hb⟩
  go_wp2_with fail
  go_ret2
  exact ⟨rfl, ((Below.refl _ _).alloc (Nat.le_refl _) _).trans (hb.mono (by simp))⟩
end Go.Proofs.YtgmofikhndlhcaaDoor
