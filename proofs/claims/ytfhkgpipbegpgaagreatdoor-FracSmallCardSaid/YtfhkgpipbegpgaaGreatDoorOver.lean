/- The contracts of Div64 for all numbers, of product and of over. -/
import Derived.Test.YtfhkgpipbegpgaaGreatDoorDiv
import Derived.Test.YtfhkgpipbegpgaaGreatDoorPack
import Derived.Test.YtfhkgpipbegpgaaGreatDoorShelf
import Derived.Lib.ItoaNum
namespace Go.Proofs.YtfhkgpipbegpgaaGreatDoor
open Go Go.RowKit

theorem shift_of (y : Nat) (h0 : 0 < y) (h1 : y < 18446744073709551616) : ∃ s : Nat, s < 64 ∧ 9223372036854775808 ≤ y * 2 ^ s ∧ y * 2 ^ s < 18446744073709551616 ∧ 64 - (Lib.bitLen y : Int) = (s : Int) := by
  obtain ⟨a, b, c⟩ := Lib.bitLenAux_bounds 64 y (by simpa using h1) (by omega)
  have hL : Lib.bitLen y = Lib.bitLenAux 64 y := rfl
  have hle : Lib.bitLen y ≤ 64 := Lib.bitLen_le y 64 (by omega) (by simpa using h1)
  rw [← hL] at a b c
  generalize Lib.bitLen y = B at *
  refine ⟨64 - B, by omega, ?_, ?_, by omega⟩
  · have h2 : 2 ^ (B - 1) * 2 ^ (64 - B) ≤ y * 2 ^ (64 - B) := Nat.mul_le_mul b (Nat.le_refl _)
    rw [← Nat.pow_add, show B - 1 + (64 - B) = 63 by omega] at h2
    exact h2
  · have h2 : y * 2 ^ (64 - B) < 2 ^ B * 2 ^ (64 - B) := Nat.mul_lt_mul_of_pos_right c (Nat.pow_pos (by omega))
    rw [← Nat.pow_add, show B + (64 - B) = 64 by omega] at h2
    exact h2
theorem div64_any (h l y : Nat) (hl : l < 18446744073709551616) (hy : h < y) (hy2 : y < 18446744073709551616) (w : World) :
    Calls Tryz.prog 53 #[.int .u64 h, .int .u64 l, .int .u64 y] w (Div64Post ((h * 18446744073709551616 + l) / y) ((h * 18446744073709551616 + l) % y) w) := by
  rcases Nat.eq_zero_or_pos h with h0 | h0
  · subst h0
    rw [Nat.zero_mul, Nat.zero_add]
    exact div64_zero l y hl hy w
  · obtain ⟨s, hs, h1, h2, hb⟩ := shift_of y (by omega) hy2
    refine div64_pos h l y s hl hy h0 hs h1 h2 (fun w => ?_) w
    refine (Tryz.bits_LeadingZeros64 (y : Int) w (by omega) (by omega)).mono ?_
    rintro e w' ⟨rfl, rfl⟩
    exact ⟨by rw [Int.toNat_natCast, hb], rfl⟩

theorem product_any (x y h l : Nat) (hx : x < 18446744073709551616) (hy : y < 18446744073709551616) (hh : x * y = h * 18446744073709551616 + l) (hl : l < 18446744073709551616) (w : World) :
    Calls Tryz.prog 47 #[.int .u64 x, .int .u64 y] w fun e w' => e = .returned (.agg #[.int .u64 h, .int .u64 l]) ∧ Below w.heap.size w w' := by
  have M : Hid (∀ w, Calls Tryz.prog 52 #[.int .u64 x, .int .u64 y] w fun e w' => e = .returned (.tuple #[.int .u64 (h : Nat), .int .u64 (l : Nat)]) ∧ w = w') := Lib.hid fun w => (Tryz.bits_Mul64 x y hx hy w).mono fun e w' ⟨he, hw⟩ => ⟨by rw [he, hh, show (h * 18446744073709551616 + l) / 18446744073709551616 = h by omega, show (h * 18446744073709551616 + l) % 18446744073709551616 = l by omega], hw.symm⟩
  clear hh hl
  go_enter Tryz.func47, Tryz.ntmps47
  go_wp2_with fail
  refine (M.out _).mono ?_
  rintro e w' ⟨rfl, rfl⟩
  go_wp2
  simp [bodyPost, results, Tryz.results47, go_sem]
  exact (Below.refl _ _).alloc (Nat.le_refl _) _

/-- The quotient and the rest of a number of 128 bits. -/
theorem over_any (ah al d qh ql r : Nat) (ha : ah < 18446744073709551616) (hal : al < 18446744073709551616) (hd0 : 0 < d) (hd : d < 18446744073709551616)
    (h1 : qh = ah / d) (h2 : (ah % d * 18446744073709551616 + al) / d = ql) (h3 : (ah % d * 18446744073709551616 + al) % d = r) (w : World) :
    Calls Tryz.prog 68 #[.agg #[.int .u64 ah, .int .u64 al], .int .u64 d] w fun e w' => e = .returned (.tuple #[.agg #[.int .u64 qh, .int .u64 ql], .int .u64 r]) ∧ Below w.heap.size w w' := by
  obtain ⟨m, hm⟩ : ∃ m, m = ah % d := ⟨_, rfl⟩
  have hmlt : m < d := hm ▸ Nat.mod_lt _ hd0
  rw [← hm] at h2 h3
  have D : Hid (∀ w, Calls Tryz.prog 53 #[.int .u64 m, .int .u64 al, .int .u64 d] w (Div64Post ql r w)) := Lib.hid fun w => by
    have := div64_any m al d hal hmlt hd w
    rwa [h2, h3] at this
  have f0 : ¬ d = 0 := by omega
  have f1 : ((d : Int) == 0) = false := by simp; omega
  have m1 : ((ah : Int).tmod (d : Int)) = (m : Int) := by rw [Int.tmod_eq_emod_of_nonneg (by omega), hm]; rfl
  have m2 : ((ah : Int).tdiv (d : Int)) = (qh : Int) := by rw [Int.tdiv_eq_ediv_of_nonneg (by omega), h1]; rfl
  have hq : qh ≤ ah := h1 ▸ Nat.div_le_self _ _
  have m3 : IntKind.u64.wrap (m : Int) = (m : Int) := IntWalk.u64_in _ (by omega)
  have m4 : IntKind.u64.wrap (qh : Int) = (qh : Int) := IntWalk.u64_in _ (by omega)
  clear h1 h2 h3 hm hq
  go_enter Tryz.func68, Tryz.ntmps68
  go_wp2
  go_quiet (fail)
  go_wp2_with fail
  refine (D.out _).mono ?_
  rintro e w' ⟨rfl, n, rfl⟩
  go_wp2
  simp [bodyPost, results, Tryz.results68, go_sem]
  exact below_drewN (((Below.refl _ _).alloc (Nat.le_refl _) _).alloc (by simp) _) _
end Go.Proofs.YtfhkgpipbegpgaaGreatDoor
