/- How great numerators and denominators of sums and products are. Plain Lean, no program. -/
import Derived.Test.YtfhkgpipbegpgaaGreatDoorRat
namespace Go.Proofs.YtfhkgpipbegpgaaGreatDoor

structure Bd (x : Rat) (n d : Nat) : Prop where
  num : x.num.natAbs ≤ n
  den : x.den ≤ d
theorem Bd.mono {x : Rat} {n d n' d' : Nat} (h : Bd x n d) (hn : n ≤ n') (hd : d ≤ d') : Bd x n' d' := ⟨Nat.le_trans h.num hn, Nat.le_trans h.den hd⟩
theorem Bd.mk' {p : Int} {q n d : Nat} (hq : q ≠ 0) (hp : p.natAbs ≤ n) (hd : q ≤ d) : Bd (mkRat p q) n d := by
  refine ⟨?_, ?_⟩
  · rw [Rat.num_mkRat, if_neg hq]
    have h : p.natAbs / q.gcd p.natAbs ≤ p.natAbs := Nat.div_le_self _ _
    rw [Int.natAbs_ediv_of_dvd (Int.ofNat_dvd_left.2 (Nat.gcd_dvd_right _ _)), Int.natAbs_natCast]
    omega
  · rw [Rat.den_mkRat, if_neg hq]
    exact Nat.le_trans (Nat.div_le_self _ _) hd
theorem Bd.add {x y : Rat} {n d m k : Nat} (h : Bd x n d) (g : Bd y m k) : Bd (x + y) (n * k + m * d) (d * k) := by
  rw [Rat.add_def']
  refine Bd.mk' (Nat.mul_ne_zero x.den_nz y.den_nz) ?_ (Nat.mul_le_mul h.den g.den)
  refine Nat.le_trans (Int.natAbs_add_le _ _) ?_
  rw [Int.natAbs_mul, Int.natAbs_mul, Int.natAbs_natCast, Int.natAbs_natCast]
  exact Nat.add_le_add (Nat.mul_le_mul h.num g.den) (Nat.mul_le_mul g.num h.den)
theorem Bd.neg {x : Rat} {n d : Nat} (h : Bd x n d) : Bd (-x) n d := ⟨by rw [Rat.neg_num, Int.natAbs_neg]; exact h.num, h.den⟩
theorem Bd.sub {x y : Rat} {n d m k : Nat} (h : Bd x n d) (g : Bd y m k) : Bd (x - y) (n * k + m * d) (d * k) := by
  rw [Rat.sub_eq_add_neg]; exact h.add g.neg
theorem Bd.mul {x y : Rat} {n d m k : Nat} (h : Bd x n d) (g : Bd y m k) : Bd (x * y) (n * m) (d * k) := by
  rw [Rat.mul_def']
  refine Bd.mk' (Nat.mul_ne_zero x.den_nz y.den_nz) ?_ (Nat.mul_le_mul h.den g.den)
  rw [Int.natAbs_mul]
  exact Nat.mul_le_mul h.num g.num
theorem Bd.inv {y : Rat} {m k : Nat} (g : Bd y m k) (hy : y ≠ 0) : Bd y⁻¹ k m := by
  refine ⟨?_, ?_⟩
  · rw [Rat.num_inv, Int.natAbs_mul, Int.natAbs_natCast]
    have h1 : y.num.sign.natAbs ≤ 1 := by
      rcases Int.lt_trichotomy y.num 0 with h | h | h
      · rw [Int.sign_eq_neg_one_of_neg h]; decide
      · rw [h]; decide
      · rw [Int.sign_eq_one_of_pos h]; decide
    exact Nat.le_trans (Nat.mul_le_mul h1 g.den) (by omega)
  · rw [Rat.den_inv, if_neg (fun h => hy (Rat.num_eq_zero.1 h))]
    exact g.num
theorem Bd.div {x y : Rat} {n d m k : Nat} (h : Bd x n d) (g : Bd y m k) (hy : y ≠ 0) : Bd (x / y) (n * k) (d * m) := by
  rw [Rat.div_def]; exact h.mul (g.inv hy)
theorem Bd.fits {x : Rat} {n d : Nat} (h : Bd x n d) (hn : n ≤ 9223372036854775807) (hd : d ≤ 9223372036854775807) : fits x = true := by
  have h1 := h.num
  have h2 := h.den
  unfold Proofs.YtfhkgpipbegpgaaGreatDoor.fits
  simp only [Bool.and_eq_true, decide_eq_true_eq]
  omega
theorem outF_fits {x : Rat} (h : fits x = true) : outF x = (x.num, (x.den : Int), 0) := by
  unfold outF; rw [if_pos h]
/-- What Make returns of two numbers of 16 bits. -/
theorem Bd.divInt {a b : Int} (hb : 0 < b) {n d : Nat} (ha : a.natAbs ≤ n) (hd : b ≤ d) : Bd (Rat.divInt a b) n d := by
  obtain ⟨k, rfl⟩ : ∃ k : Nat, b = k := ⟨b.toNat, by omega⟩
  rw [Rat.divInt_ofNat]
  exact Bd.mk' (by omega) ha (by omega)

/-- -1, 0 or 1. -/
def cmpR (x y : Rat) : Int := if x < y then -1 else if x = y then 0 else 1
end Go.Proofs.YtfhkgpipbegpgaaGreatDoor
