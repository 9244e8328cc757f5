/- Plain arithmetic of bits: the number of bits, lane by lane. No condition but those that each lemma names. -/
import Derived.WalkKit
import Derived.Lib.Tables
namespace Go.Proofs.YtaadipccgckehaaGreatDoor
namespace Pl

/-- How many of the lowest k bits are set. -/
def pc : Nat → Nat → Nat
  | 0, _ => 0
  | k + 1, x => x % 2 + pc k (x / 2)

theorem pc_le (k : Nat) : ∀ x, pc k x ≤ k := by
  induction k with
  | zero => intro x; simp [pc]
  | succ k ih => intro x; have := ih (x / 2); simp only [pc]; omega

theorem pc_add (a b : Nat) : ∀ x, pc (a + b) x = pc a x + pc b (x / 2 ^ a) := by
  induction a with
  | zero => intro x; simp [pc]
  | succ a ih =>
    intro x
    rw [show a + 1 + b = (a + b) + 1 by omega]
    simp only [pc, ih (x / 2)]
    rw [Nat.div_div_eq_div_mul, ← Nat.pow_succ', Nat.add_assoc]

theorem pc_mod (k : Nat) : ∀ x, pc k (x % 2 ^ k) = pc k x := by
  induction k with
  | zero => intro x; simp [pc]
  | succ k ih =>
    intro x
    have h1 : x % 2 ^ (k + 1) % 2 = x % 2 := Nat.mod_mod_of_dvd _ ⟨2 ^ k, by rw [Nat.pow_succ']⟩
    have h2 : x % 2 ^ (k + 1) / 2 = x / 2 % 2 ^ k := by
      rw [Nat.pow_succ', Nat.mod_mul_right_div_self]
    simp only [pc, h1, h2, ih]

theorem pc_zero (k : Nat) : pc k 0 = 0 := by
  induction k with
  | zero => rfl
  | succ k ih => simp [pc, ih]

/-- 'and' goes lane by lane. -/
theorem and_lane (k a b c d : Nat) (ha : a < 2 ^ k) (hc : c < 2 ^ k) :
    (a + 2 ^ k * b) &&& (c + 2 ^ k * d) = (a &&& c) + 2 ^ k * (b &&& d) := by
  have hac : a &&& c < 2 ^ k := Nat.and_lt_two_pow a hc
  have e1 : ∀ x y : Nat, x < 2 ^ k → x + 2 ^ k * y = 2 ^ k * y ||| x := fun x y hx => by
    rw [Nat.add_comm]; exact Nat.two_pow_add_eq_or_of_lt hx y
  apply Nat.eq_of_testBit_eq
  intro i
  have t : ∀ x y : Nat, x < 2 ^ k → (x + 2 ^ k * y).testBit i = if i < k then x.testBit i else y.testBit (i - k) := fun x y hx => by
    rw [Nat.add_comm]; exact Nat.testBit_two_pow_mul_add y hx i
  rw [Nat.testBit_and, t a b ha, t c d hc, t _ _ hac]
  split <;> simp

/-- The byte c, n times. -/
def mk (c : Nat) : Nat → Nat
  | 0 => 0
  | n + 1 => c + 256 * mk c n

theorem and_mk (c n x : Nat) (hc : c < 256) : x &&& mk c (n + 1) = (x % 256 &&& c) + 256 * (x / 256 &&& mk c n) := by
  have e : x = x % 256 + 2 ^ 8 * (x / 256) := by omega
  conv => lhs; rw [e]
  exact and_lane 8 _ _ c _ (by omega) (by simpa using hc)

theorem and85 (a : Nat) (h : a < 256) : a &&& 85 = a % 2 + 4 * (a / 4 % 2) + 16 * (a / 16 % 2) + 64 * (a / 64 % 2) := by
  have : ∀ a < 256, a &&& 85 = a % 2 + 4 * (a / 4 % 2) + 16 * (a / 16 % 2) + 64 * (a / 64 % 2) := by decide +kernel
  exact this a h
theorem and51 (a : Nat) (h : a < 256) : a &&& 51 = a % 4 + 16 * (a / 16 % 4) := by
  have : ∀ a < 256, a &&& 51 = a % 4 + 16 * (a / 16 % 4) := by decide +kernel
  exact this a h
theorem and15 (a : Nat) (h : a < 256) : a &&& 15 = a % 16 := by
  have : ∀ a < 256, a &&& 15 = a % 16 := by decide +kernel
  exact this a h

/-- The three rounds, over n bytes; and what each does to one byte. -/
def r1 (n x : Nat) : Nat := (x / 2 &&& mk 85 n) + (x &&& mk 85 n)
def r2 (n x : Nat) : Nat := (x / 4 &&& mk 51 n) + (x &&& mk 51 n)
def r3 (n x : Nat) : Nat := (x / 16 + x) &&& mk 15 n
def g1 (a : Nat) : Nat := (a / 2 &&& 85) + (a &&& 85)
def g2 (a : Nat) : Nat := (a / 4 &&& 51) + (a &&& 51)

theorem g_small : ∀ a < 256, g1 a < 256 ∧ g2 (g1 a) % 16 + g2 (g1 a) / 16 = pc 8 a ∧ g2 (g1 a) % 16 ≤ 4 ∧ g2 (g1 a) / 16 ≤ 4 := by decide +kernel

theorem r1_succ (n x : Nat) : r1 (n + 1) x = g1 (x % 256) + 256 * r1 n (x / 256) := by
  have e : x / 2 % 256 = x % 256 / 2 + 128 * (x / 256 % 2) := by omega
  have d : x / 2 / 256 = x / 256 / 2 := by omega
  have l : (x % 256 / 2 + 128 * (x / 256 % 2)) &&& 85 = x % 256 / 2 &&& 85 := by
    rw [and85 _ (by omega), and85 _ (by omega)]; omega
  unfold r1 g1
  rw [and_mk _ _ _ (by omega), and_mk _ _ _ (by omega), e, d, l]
  omega
theorem r2_succ (n x : Nat) : r2 (n + 1) x = g2 (x % 256) + 256 * r2 n (x / 256) := by
  have e : x / 4 % 256 = x % 256 / 4 + 64 * (x / 256 % 4) := by omega
  have d : x / 4 / 256 = x / 256 / 4 := by omega
  have l : (x % 256 / 4 + 64 * (x / 256 % 4)) &&& 51 = x % 256 / 4 &&& 51 := by
    rw [and51 _ (by omega), and51 _ (by omega)]; omega
  unfold r2 g2
  rw [and_mk _ _ _ (by omega), and_mk _ _ _ (by omega), e, d, l]
  omega
theorem r3_succ (n x : Nat) (h1 : x % 16 ≤ 4) (h2 : x / 16 % 16 ≤ 4) (h3 : x / 256 % 16 ≤ 4) : r3 (n + 1) x = (x % 16 + x / 16 % 16) + 256 * r3 n (x / 256) := by
  have e : (x / 16 + x) % 256 % 16 = x % 16 + x / 16 % 16 := by omega
  have d : (x / 16 + x) / 256 = x / 256 / 16 + x / 256 := by
    clear e
    have k1 : x / 16 / 16 = x / 256 := Nat.div_div_eq_div_mul ..
    have x1 : x = 16 * (x / 16) + x % 16 := by omega
    have x2 : x / 16 = 16 * (x / 256) + x / 16 % 16 := by omega
    have x3 : x / 256 = 16 * (x / 256 / 16) + x / 256 % 16 := by omega
    generalize x / 256 / 16 = d at *
    generalize x / 256 % 16 = c at *
    generalize x / 16 % 16 = b at *
    generalize x % 16 = a at *
    generalize x / 256 = q at *
    generalize x / 16 = p at *
    have : p + x = (a + 17 * b + 16 * c) + 256 * (d + q) := by omega
    rw [this, Nat.add_mul_div_left _ _ (by omega), Nat.div_eq_of_lt (by omega), Nat.zero_add]
  unfold r3
  rw [and_mk _ _ _ (by omega), and15 _ (by omega), e, d]

/-- After the first two rounds each half of each byte is at most 4. -/
theorem r21_succ (n x : Nat) : r2 (n + 1) (r1 (n + 1) x) = g2 (g1 (x % 256)) + 256 * r2 n (r1 n (x / 256)) := by
  have h := (g_small (x % 256) (by omega)).1
  rw [r2_succ, r1_succ]
  congr 2
  · congr 1; omega
  · congr 1; omega
theorem g21_lt (a : Nat) (h : a < 256) : g2 (g1 a) < 256 := by have := g_small a h; omega
theorem r21_low (n x : Nat) : r2 n (r1 n x) % 16 ≤ 4 := by
  cases n with
  | zero => simp [r2, r1, mk]
  | succ n => rw [r21_succ]; have := g_small (x % 256) (by omega); omega
def r321 (n x : Nat) : Nat := r3 n (r2 n (r1 n x))
theorem r321_succ (n x : Nat) : r321 (n + 1) x = pc 8 (x % 256) + 256 * r321 n (x / 256) := by
  have h := g_small (x % 256) (by omega)
  have h' := g21_lt (x % 256) (by omega)
  have e := r21_succ n x
  have l := r21_low n (x / 256)
  have q : r2 (n + 1) (r1 (n + 1) x) / 256 = r2 n (r1 n (x / 256)) := by omega
  unfold r321
  rw [r3_succ n _ (by omega) (by omega) (by rw [q]; exact l), q]
  congr 1; omega

theorem dv (n a b : Nat) (h : a < n) : (a + n * b) / n = b := by rw [Nat.add_mul_div_left _ _ (by omega), Nat.div_eq_of_lt h, Nat.zero_add]
theorem sum8 (a0 a1 a2 a3 a4 a5 a6 a7 y y4 y5 y6 : Nat) (p0 : a0 ≤ 8) (p1 : a1 ≤ 8) (p2 : a2 ≤ 8) (p3 : a3 ≤ 8) (p4 : a4 ≤ 8) (p5 : a5 ≤ 8) (p6 : a6 ≤ 8) (p7 : a7 ≤ 8)
    (hy : y = a0 + 256 * (a1 + 256 * (a2 + 256 * (a3 + 256 * (a4 + 256 * (a5 + 256 * (a6 + 256 * a7)))))))
    (h4 : y4 = (y + y / 256) % 18446744073709551616) (h5 : y5 = (y4 + y4 / 65536) % 18446744073709551616) (h6 : y6 = (y5 + y5 / 4294967296) % 18446744073709551616) :
    y6 < 18446744073709551616 ∧ y6 % 128 = a0 + (a1 + (a2 + (a3 + (a4 + (a5 + (a6 + a7)))))) := by
  have f4 : y4 = ((a0 + a1) + 256 * (a1 + a2)) + 65536 * ((a2 + a3) + 256 * (a3 + a4) + 65536 * ((a4 + a5) + 256 * (a5 + a6) + 65536 * ((a6 + a7) + 256 * a7))) := by
    have q := dv 256 a0 (a1 + 256 * (a2 + 256 * (a3 + 256 * (a4 + 256 * (a5 + 256 * (a6 + 256 * a7)))))) (by omega)
    rw [← hy] at q
    rw [h4, q, Nat.mod_eq_of_lt (by clear h4 h5 h6; omega), hy]; clear h4 h5 h6 hy q; omega
  have f5 : y5 = ((a0 + a1 + a2 + a3) + 256 * (a1 + a2 + a3 + a4) + 65536 * ((a2 + a3 + a4 + a5) + 256 * (a3 + a4 + a5 + a6))) + 4294967296 * ((a4 + a5 + a6 + a7) + 256 * (a5 + a6 + a7) + 65536 * ((a6 + a7) + 256 * a7)) := by
    have q := dv 65536 ((a0 + a1) + 256 * (a1 + a2)) ((a2 + a3) + 256 * (a3 + a4) + 65536 * ((a4 + a5) + 256 * (a5 + a6) + 65536 * ((a6 + a7) + 256 * a7))) (by clear h4 h5 h6 hy f4; omega)
    rw [← f4] at q
    clear h4 hy h6
    rw [h5, q, Nat.mod_eq_of_lt (by clear h5 q; omega), f4]; clear h5 q f4; omega
  have f6 : y6 = (a0 + a1 + a2 + a3 + a4 + a5 + a6 + a7) + 128 * (2 * ((a1 + a2 + a3 + a4) + (a5 + a6 + a7) + 256 * ((a2 + a3 + a4 + a5) + (a6 + a7) + 256 * ((a3 + a4 + a5 + a6) + a7)) + 16777216 * ((a4 + a5 + a6 + a7) + 256 * (a5 + a6 + a7) + 65536 * ((a6 + a7) + 256 * a7)))) := by
    have q := dv 4294967296 ((a0 + a1 + a2 + a3) + 256 * (a1 + a2 + a3 + a4) + 65536 * ((a2 + a3 + a4 + a5) + 256 * (a3 + a4 + a5 + a6))) ((a4 + a5 + a6 + a7) + 256 * (a5 + a6 + a7) + 65536 * ((a6 + a7) + 256 * a7)) (by clear h4 h5 h6 hy f4 f5; omega)
    rw [← f5] at q
    clear h4 h5 hy f4
    rw [h6, q, Nat.mod_eq_of_lt (by clear h6 q; omega), f5]; clear h6 q f5; omega
  refine ⟨by rw [h6]; exact Nat.mod_lt _ (by decide), ?_⟩
  clear h4 h5 h6 hy f4 f5
  rw [f6, Nat.add_mul_mod_self_left, Nat.mod_eq_of_lt (by omega)]; omega

/-- The rest: the eight bytes are added up. -/
theorem ones64 (x y y4 y5 y6 : Nat) (hy : y = r321 8 x)
    (h4 : y4 = (y + y / 256) % 18446744073709551616) (h5 : y5 = (y4 + y4 / 65536) % 18446744073709551616) (h6 : y6 = (y5 + y5 / 4294967296) % 18446744073709551616) :
    y6 < 18446744073709551616 ∧ y6 % 128 = pc 64 x := by
  have e : pc 64 x = pc 8 (x % 256) + (pc 8 (x / 256 % 256) + (pc 8 (x / 256 / 256 % 256) + (pc 8 (x / 256 / 256 / 256 % 256) + (pc 8 (x / 256 / 256 / 256 / 256 % 256) + (pc 8 (x / 256 / 256 / 256 / 256 / 256 % 256) + (pc 8 (x / 256 / 256 / 256 / 256 / 256 / 256 % 256) + pc 8 (x / 256 / 256 / 256 / 256 / 256 / 256 / 256 % 256))))))) := by
    have m : ∀ y, pc 8 (y % 256) = pc 8 y := pc_mod 8
    have a : ∀ k y, pc (8 + k) y = pc 8 y + pc k (y / 256) := pc_add 8
    rw [m, m, m, m, m, m, m, m, show (64 : Nat) = 8 + (8 + (8 + (8 + (8 + (8 + (8 + 8)))))) by rfl, a, a, a, a, a, a, a]
  have z : ∀ y, r321 0 y = 0 := fun y => by simp [r321, r3, mk]
  simp only [r321_succ, z] at hy
  rw [e]
  exact sum8 _ _ _ _ _ _ _ _ y y4 y5 y6 (pc_le 8 _) (pc_le 8 _) (pc_le 8 _) (pc_le 8 _) (pc_le 8 _) (pc_le 8 _) (pc_le 8 _) (pc_le 8 _) hy h4 h5 h6
theorem mk85 : mk 85 8 = 6148914691236517205 := by decide
theorem mk51 : mk 51 8 = 3689348814741910323 := by decide
theorem mk15 : mk 15 8 = 1085102592571150095 := by decide

theorem r1_lt : ∀ n x, r1 n x < 256 ^ n := by
  intro n
  induction n with
  | zero => intro x; simp [r1, mk]
  | succ n ih =>
    intro x
    have h := (g_small (x % 256) (by omega)).1
    have := ih (x / 256)
    rw [r1_succ, Nat.pow_succ]; omega
theorem r21_lt : ∀ n x, r2 n (r1 n x) < 256 ^ n := by
  intro n
  induction n with
  | zero => intro x; simp [r2, mk]
  | succ n ih =>
    intro x
    have h := g21_lt (x % 256) (by omega)
    have := ih (x / 256)
    rw [r21_succ, Nat.pow_succ]; omega
/-- The cards of suit s in a mask. -/
def hold (m s : Nat) : Nat := m / 2 ^ (13 * s) % 8192
theorem hold_lt (m s : Nat) : hold m s < 8192 := by unfold hold; omega
end Pl

/-- The walk's own words for the three rounds. -/
theorem ones_e1 (m : Nat) (hm : m < 18446744073709551616) :
    IntKind.u64.wrap (bits BinOp.and IntKind.u64 ((m : Int) / 2) 6148914691236517205 + bits BinOp.and IntKind.u64 (m : Int) 6148914691236517205) = ((Pl.r1 8 m : Nat) : Int) := by
  have hb := Pl.r1_lt 8 m
  have a1 : bits BinOp.and IntKind.u64 ((m : Int) / 2) 6148914691236517205 = ((m / 2 &&& 6148914691236517205 : Nat) : Int) := u64_and_nat (m / 2) 6148914691236517205 (by omega) (by omega)
  have a2 : bits BinOp.and IntKind.u64 (m : Int) 6148914691236517205 = ((m &&& 6148914691236517205 : Nat) : Int) := u64_and_nat m 6148914691236517205 (by omega) (by omega)
  rw [a1, a2, IntKind.wrap_u64]
  unfold Pl.r1 at *
  rw [Pl.mk85] at *
  omega
theorem ones_e2 (m : Nat) :
    IntKind.u64.wrap (bits BinOp.and IntKind.u64 (((Pl.r1 8 m : Nat) : Int) / 4) 3689348814741910323 + bits BinOp.and IntKind.u64 ((Pl.r1 8 m : Nat) : Int) 3689348814741910323) = ((Pl.r2 8 (Pl.r1 8 m) : Nat) : Int) := by
  have hb := Pl.r21_lt 8 m
  have hx := Pl.r1_lt 8 m
  generalize Pl.r1 8 m = x at *
  have a1 : bits BinOp.and IntKind.u64 ((x : Int) / 4) 3689348814741910323 = ((x / 4 &&& 3689348814741910323 : Nat) : Int) := u64_and_nat (x / 4) 3689348814741910323 (by omega) (by omega)
  have a2 : bits BinOp.and IntKind.u64 (x : Int) 3689348814741910323 = ((x &&& 3689348814741910323 : Nat) : Int) := u64_and_nat x 3689348814741910323 (by omega) (by omega)
  rw [a1, a2, IntKind.wrap_u64]
  unfold Pl.r2 at *
  rw [Pl.mk51] at *
  omega
theorem r21_top : ∀ n x, 255 * Pl.r2 n (Pl.r1 n x) + 68 ≤ 68 * 256 ^ n := by
  intro n
  induction n with
  | zero => intro x; simp [Pl.r2, Pl.mk]
  | succ n ih =>
    intro x
    have h := Pl.g_small (x % 256) (by omega)
    have := ih (x / 256)
    rw [Pl.r21_succ, Nat.pow_succ]; omega
theorem ones_e3 (m : Nat) :
    bits BinOp.and IntKind.u64 (((Pl.r2 8 (Pl.r1 8 m) : Nat) : Int) / 16 + ((Pl.r2 8 (Pl.r1 8 m) : Nat) : Int)) 1085102592571150095 = ((Pl.r321 8 m : Nat) : Int) := by
  have hb := r21_top 8 m
  unfold Pl.r321 Pl.r3
  generalize Pl.r2 8 (Pl.r1 8 m) = x at *
  have a1 : bits BinOp.and IntKind.u64 ((x : Int) / 16 + (x : Int)) 1085102592571150095 = ((x / 16 + x &&& 1085102592571150095 : Nat) : Int) := by
    have := u64_and_nat (x / 16 + x) 1085102592571150095 (by omega) (by omega)
    rw [← this]; rfl
  rw [a1, Pl.mk15]
theorem r21_le (m : Nat) : ((Pl.r2 8 (Pl.r1 8 m) : Nat) : Int) ≤ 5000000000000000000 := by
  have hb := r21_top 8 m
  omega
namespace Pl
def s4 (m : Nat) : Nat := (r321 8 m + r321 8 m / 256) % 18446744073709551616
def s5 (m : Nat) : Nat := (s4 m + s4 m / 65536) % 18446744073709551616
def s6 (m : Nat) : Nat := (s5 m + s5 m / 4294967296) % 18446744073709551616
end Pl
theorem ones_e4 (m : Nat) : IntKind.u64.wrap (((Pl.r321 8 m : Nat) : Int) + ((Pl.r321 8 m : Nat) : Int) / 256) = ((Pl.s4 m : Nat) : Int) := by
  rw [IntKind.wrap_u64, Pl.s4]; omega
theorem ones_e5 (m : Nat) : IntKind.u64.wrap (((Pl.s4 m : Nat) : Int) + ((Pl.s4 m : Nat) : Int) / 65536) = ((Pl.s5 m : Nat) : Int) := by
  rw [IntKind.wrap_u64, Pl.s5]; omega
theorem ones_e6 (m : Nat) : IntKind.u64.wrap (((Pl.s5 m : Nat) : Int) + ((Pl.s5 m : Nat) : Int) / 4294967296) = ((Pl.s6 m : Nat) : Int) := by
  rw [IntKind.wrap_u64, Pl.s6]; omega
theorem ones_e7 (m : Nat) : bits BinOp.and IntKind.i64 (RowKit.wrap64 ((Pl.s6 m : Nat) : Int)) 127 = ((Pl.pc 64 m : Nat) : Int) := by
  obtain ⟨hl, hs⟩ := Pl.ones64 m _ _ _ _ rfl (rfl : Pl.s4 m = _) (rfl : Pl.s5 m = _) (rfl : Pl.s6 m = _)
  rw [i64_and127, ← hs]
  generalize Pl.s6 m = x at *
  simp only [RowKit.wrap64]
  omega
theorem pop8_pc (x : Int) (h0 : 0 ≤ x) (h1 : x ≤ 255) : Lib.pop8 x = ((Pl.pc 8 x.toNat : Nat) : Int) := by
  have h : ∀ n : Fin 256, Lib.pop8 (n.val : Int) = ((Pl.pc 8 n.val : Nat) : Int) := by decide +kernel
  have := h ⟨x.toNat, by omega⟩
  simpa [Int.toNat_of_nonneg h0] using this
theorem ones16_fin (m : Nat) (hm : m < 65536) : (Lib.pop8 ((m : Int) / 256) + Lib.pop8 ((m : Int) % 256)) % 256 = ((Pl.pc 16 m : Nat) : Int) := by
  have a : Pl.pc 16 m = Pl.pc 8 m + Pl.pc 8 (m / 256) := Pl.pc_add 8 8 m
  have b := Pl.pc_mod 8 m
  have c1 := Pl.pc_le 8 m
  have c2 := Pl.pc_le 8 (m / 256)
  rw [pop8_pc _ (by omega) (by omega), pop8_pc _ (by omega) (by omega)]
  have e1 : ((m : Int) / 256).toNat = m / 256 := by omega
  have e2 : ((m : Int) % 256).toNat = m % 256 := by omega
  rw [e1, e2, show (256 : Nat) = 2 ^ 8 from rfl] at *
  rw [b, a]; omega
namespace Pl
/-- What the four honours of a suit count, at four values. -/
def hon (v0 v1 v2 v3 h : Nat) : Nat := h / 512 % 2 * v0 + h / 1024 % 2 * v1 + h / 2048 % 2 * v2 + h / 4096 % 2 * v3
def honTo (v0 v1 v2 v3 h k : Nat) : Nat := (if 0 < k then h / 512 % 2 * v0 else 0) + (if 1 < k then h / 1024 % 2 * v1 else 0) + (if 2 < k then h / 2048 % 2 * v2 else 0) + (if 3 < k then h / 4096 % 2 * v3 else 0)
theorem bit_mul (b v : Nat) : (b % 2 = 0 ∧ b % 2 * v = 0) ∨ (b % 2 = 1 ∧ b % 2 * v = v) := by
  rcases (by omega : b % 2 = 0 ∨ b % 2 = 1) with h | h <;> simp [h]
theorem honTo_le (v0 v1 v2 v3 h k : Nat) : honTo v0 v1 v2 v3 h k ≤ v0 + v1 + v2 + v3 := by
  unfold honTo
  have := bit_mul (h / 512) v0
  have := bit_mul (h / 1024) v1
  have := bit_mul (h / 2048) v2
  have := bit_mul (h / 4096) v3
  repeat' split
  all_goals omega
theorem honTo_0 (v0 v1 v2 v3 h : Nat) : honTo v0 v1 v2 v3 h 0 = 0 := by simp [honTo]
theorem honTo_4 (v0 v1 v2 v3 h : Nat) : honTo v0 v1 v2 v3 h 4 = hon v0 v1 v2 v3 h := by simp [honTo, hon]
theorem honTo_1 (v0 v1 v2 v3 h : Nat) : honTo v0 v1 v2 v3 h 1 = honTo v0 v1 v2 v3 h 0 + h / 512 % 2 * v0 := by simp [honTo]
theorem honTo_2 (v0 v1 v2 v3 h : Nat) : honTo v0 v1 v2 v3 h 2 = honTo v0 v1 v2 v3 h 1 + h / 1024 % 2 * v1 := by simp [honTo]
theorem honTo_3 (v0 v1 v2 v3 h : Nat) : honTo v0 v1 v2 v3 h 3 = honTo v0 v1 v2 v3 h 2 + h / 2048 % 2 * v2 := by simp [honTo]
theorem honTo_4' (v0 v1 v2 v3 h : Nat) : honTo v0 v1 v2 v3 h 4 = honTo v0 v1 v2 v3 h 3 + h / 4096 % 2 * v3 := by simp [honTo]
theorem hon_yes (x n s t v c : Nat) (e : t = s + x / n % 2 * v) (hc : (((x : Int) / (n : Int) % 2 * (c : Int)) != 0) = true) : Value.int .i64 ((s : Int) + (v : Int)) = Value.int .i64 ((t : Nat) : Int) := by
  rcases bit_mul (x / n) v with ⟨h, _⟩ | ⟨_, h⟩
  · have h' : (x : Int) / (n : Int) % 2 = 0 := by omega
    rw [h'] at hc; simp at hc
  · rw [e, h]; rfl
theorem hon_no (x n s t v c : Nat) (hc0 : c ≠ 0) (e : t = s + x / n % 2 * v) (hc : (((x : Int) / (n : Int) % 2 * (c : Int)) != 0) = false) : Value.int .i64 (s : Int) = Value.int .i64 ((t : Nat) : Int) := by
  rcases bit_mul (x / n) v with ⟨_, h⟩ | ⟨h, _⟩
  · rw [e, h, Nat.add_zero]
  · have h' : (x : Int) / (n : Int) % 2 = 1 := by omega
    rw [h'] at hc; simp at hc; omega
end Pl
theorem bit_e (h i : Nat) (hh : h < 65536) (hi : i < 16) : bits BinOp.and IntKind.u16 (h : Int) ((2 ^ i : Nat) : Int) = ((h / 2 ^ i % 2 * 2 ^ i : Nat) : Int) := by
  have : 2 ^ i < 2 ^ 16 := Nat.pow_lt_pow_right (by omega) hi
  rw [u16_and_nat _ _ hh (by simpa using this), nat_bit]
theorem bit_e9 (h : Nat) (hh : h < 65536) : bits BinOp.and IntKind.u16 (h : Int) 512 = ((h / 512 % 2 * 512 : Nat) : Int) := bit_e h 9 hh (by omega)
theorem bit_e10 (h : Nat) (hh : h < 65536) : bits BinOp.and IntKind.u16 (h : Int) 1024 = ((h / 1024 % 2 * 1024 : Nat) : Int) := bit_e h 10 hh (by omega)
theorem bit_e11 (h : Nat) (hh : h < 65536) : bits BinOp.and IntKind.u16 (h : Int) 2048 = ((h / 2048 % 2 * 2048 : Nat) : Int) := bit_e h 11 hh (by omega)
theorem bit_e12 (h : Nat) (hh : h < 65536) : bits BinOp.and IntKind.u16 (h : Int) 4096 = ((h / 4096 % 2 * 4096 : Nat) : Int) := bit_e h 12 hh (by omega)
namespace Pl
def los1 (k h b : Nat) : Nat := if k < pc 16 h ∧ h / b % 2 = 0 then 1 else 0
def losTo (h k : Nat) : Nat := (if 0 < k then los1 0 h 4096 else 0) + (if 1 < k then los1 1 h 2048 else 0) + (if 2 < k then los1 2 h 1024 else 0)
/-- The losers of a suit. -/
def los (h : Nat) : Nat := los1 0 h 4096 + los1 1 h 2048 + los1 2 h 1024
theorem losTo_le (h k : Nat) : losTo h k ≤ 3 := by
  unfold losTo los1; repeat' split
  all_goals omega
theorem losTo_0 (h : Nat) : losTo h 0 = 0 := by simp [losTo]
theorem losTo_1 (h : Nat) : losTo h 1 = losTo h 0 + los1 0 h 4096 := by simp [losTo]
theorem losTo_2 (h : Nat) : losTo h 2 = losTo h 1 + los1 1 h 2048 := by simp [losTo]
theorem losTo_3 (h : Nat) : losTo h 3 = losTo h 2 + los1 2 h 1024 := by simp [losTo]
theorem losTo_all (h : Nat) : losTo h 3 = los h := by simp [losTo, los]
/-- The quick tricks of a suit, in halves. -/
def qck (h : Nat) : Nat :=
  if h / 4096 % 2 = 1 then (if h / 2048 % 2 = 1 then 4 else if h / 1024 % 2 = 1 then 3 else 2)
  else if h / 2048 % 2 = 1 then (if h / 1024 % 2 = 1 then 2 else if 1 < pc 16 h then 1 else 0) else 0
end Pl
theorem tops_e (h : Nat) (hh : h < 8192) : bits BinOp.and IntKind.u16 (h : Int) 7168 = ((h / 1024 * 1024 : Nat) : Int) := by
  rw [show (7168 : Int) = ((7168 : Nat) : Int) from rfl, u16_and_nat _ _ (by omega) (by omega)]
  congr 1
  have e : h = h % 1024 + 2 ^ 10 * (h / 1024) := by omega
  have f := Pl.and_lane 10 (h % 1024) (h / 1024) 0 7 (by omega) (by omega)
  rw [← e] at f
  have g : h / 1024 &&& 7 = h / 1024 := by rw [nat_mask3]; omega
  rw [g, Nat.and_zero] at f
  simpa [Nat.mul_comm] using f
theorem ret_int {k : IntKind} {a b : Int} (h : a = b) : Ending.returned (.int k a) = .returned (.int k b) := by rw [h]
theorem Pl.hon_le (v0 v1 v2 v3 h : Nat) : Pl.hon v0 v1 v2 v3 h ≤ v0 + v1 + v2 + v3 := by rw [← Pl.honTo_4]; exact Pl.honTo_le ..
theorem Pl.los_le (h : Nat) : Pl.los h ≤ 3 := by rw [← Pl.losTo_all]; exact Pl.losTo_le ..
theorem Pl.qck_le (h : Nat) : Pl.qck h ≤ 4 := by
  unfold Pl.qck; repeat' split
  all_goals omega
theorem Pl.los_yes (k h b c : Nat) (hk : k < Pl.pc 16 h) (hc0 : c ≠ 0) (hc : (((h : Int) / (b : Int) % 2 * (c : Int)) == 0) = true) : Pl.los1 k h b = 1 := by
  have h0 : (h : Int) / (b : Int) % 2 = 0 := by
    rcases (by omega : (h : Int) / (b : Int) % 2 = 0 ∨ (h : Int) / (b : Int) % 2 = 1) with e | e
    · exact e
    · rw [e] at hc; simp at hc; omega
  have h1 : h / b % 2 = 0 := by omega
  simp [Pl.los1, hk, h1]
theorem Pl.los_no (k h b c : Nat) (hc : (((h : Int) / (b : Int) % 2 * (c : Int)) == 0) = false) : Pl.los1 k h b = 0 := by
  have h0 : (h : Int) / (b : Int) % 2 = 1 := by
    rcases (by omega : (h : Int) / (b : Int) % 2 = 0 ∨ (h : Int) / (b : Int) % 2 = 1) with e | e
    · rw [e] at hc; simp at hc
    · exact e
  have h1 : h / b % 2 = 1 := by omega
  simp [Pl.los1, h1]
theorem Pl.los_few (k h b : Nat) (hk : Pl.pc 16 h ≤ k) : Pl.los1 k h b = 0 := by simp [Pl.los1]; omega
/-- What the walk's tests on the tops say. -/
theorem Pl.qck_4 (h : Nat) (_hh : h < 8192) (t : h / 1024 * 1024 = 7168 ∨ h / 1024 * 1024 = 6144) : Pl.qck h = 4 := by
  have a : h / 4096 % 2 = 1 := by omega
  have b : h / 2048 % 2 = 1 := by omega
  simp [Pl.qck, a, b]
theorem Pl.qck_3 (h : Nat) (_hh : h < 8192) (t : h / 1024 * 1024 = 5120) : Pl.qck h = 3 := by
  have a : h / 4096 % 2 = 1 := by omega
  have b : h / 2048 % 2 = 0 := by omega
  have c : h / 1024 % 2 = 1 := by omega
  simp [Pl.qck, a, b, c]
theorem Pl.qck_2 (h : Nat) (_hh : h < 8192) (t : h / 1024 * 1024 = 4096 ∨ h / 1024 * 1024 = 3072) : Pl.qck h = 2 := by
  rcases t with t | t
  · have a : h / 4096 % 2 = 1 := by omega
    have b : h / 2048 % 2 = 0 := by omega
    have c : h / 1024 % 2 = 0 := by omega
    simp [Pl.qck, a, b, c]
  · have a : h / 4096 % 2 = 0 := by omega
    have b : h / 2048 % 2 = 1 := by omega
    have c : h / 1024 % 2 = 1 := by omega
    simp [Pl.qck, a, b, c]
theorem Pl.qck_1 (h : Nat) (_hh : h < 8192) (t : h / 1024 * 1024 = 2048) (p : 1 < Pl.pc 16 h) : Pl.qck h = 1 := by
  have a : h / 4096 % 2 = 0 := by omega
  have b : h / 2048 % 2 = 1 := by omega
  have c : h / 1024 % 2 = 0 := by omega
  simp [Pl.qck, a, b, c, p]
theorem Pl.qck_0 (h : Nat) (hh : h < 8192) (t : (h / 1024 * 1024 = 2048 ∧ Pl.pc 16 h ≤ 1) ∨ (h / 1024 * 1024 ≠ 7168 ∧ h / 1024 * 1024 ≠ 6144 ∧ h / 1024 * 1024 ≠ 5120 ∧ h / 1024 * 1024 ≠ 4096 ∧ h / 1024 * 1024 ≠ 3072 ∧ h / 1024 * 1024 ≠ 2048)) : Pl.qck h = 0 := by
  rcases t with ⟨t, p⟩ | t
  · have a : h / 4096 % 2 = 0 := by omega
    have b : h / 2048 % 2 = 1 := by omega
    have c : h / 1024 % 2 = 0 := by omega
    simp [Pl.qck, a, b, c]; omega
  · have a : h / 4096 % 2 = 0 := by omega
    have b : h / 2048 % 2 = 0 := by omega
    simp [Pl.qck, a, b]
/-- The sum over the four suits. -/
def Pl.tot (f : Nat → Nat) (m : Nat) : Nat := f (Pl.hold m 0) + f (Pl.hold m 1) + f (Pl.hold m 2) + f (Pl.hold m 3)
def Pl.totTo (f : Nat → Nat) (m : Nat) : Nat → Nat
  | 0 => 0
  | k + 1 => Pl.totTo f m k + f (Pl.hold m k)
theorem Pl.totTo_0 (f : Nat → Nat) (m : Nat) : Pl.totTo f m 0 = 0 := rfl
theorem Pl.totTo_succ (f : Nat → Nat) (m k : Nat) : Pl.totTo f m (k + 1) = Pl.totTo f m k + f (Pl.hold m k) := rfl
theorem Pl.totTo_4 (f : Nat → Nat) (m : Nat) : Pl.totTo f m 4 = Pl.tot f m := by simp [Pl.totTo, Pl.tot]
theorem Pl.totTo_le (f : Nat → Nat) (b m k : Nat) (h : ∀ h, f h ≤ b) : Pl.totTo f m k ≤ b * k := by
  induction k with
  | zero => simp [Pl.totTo]
  | succ k ih => have := h (Pl.hold m k); rw [Pl.totTo, Nat.mul_succ]; omega
attribute [irreducible] Pl.tot Pl.totTo
attribute [irreducible] Pl.pc Pl.hold Pl.hon Pl.honTo Pl.los1 Pl.los Pl.losTo Pl.qck
end Go.Proofs.YtaadipccgckehaaGreatDoor
