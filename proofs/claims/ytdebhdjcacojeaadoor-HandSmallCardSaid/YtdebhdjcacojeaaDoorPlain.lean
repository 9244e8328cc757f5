/- Plain laws of hands: what one suit, one card more, an exchange of suits do. No program. -/
import Derived.Test.YtdebhdjcacojeaaDoorHand
namespace Go.Proofs.YtdebhdjcacojeaaDoor
namespace Pl

/-- All the cards of one suit of a mask. -/
def one (m k : Nat) : Nat := hold m k * 2 ^ (13 * k)
theorem hold_one (m k s : Nat) (hk : k < 4) (hs : s < 4) : hold (one m k) s = if s = k then hold m k else 0 := by
  have hh := hold_lt m k
  unfold one
  generalize hold m k = h at *
  unfold hold
  rcases (by omega : k = 0 ∨ k = 1 ∨ k = 2 ∨ k = 3) with rfl | rfl | rfl | rfl <;>
    rcases (by omega : s = 0 ∨ s = 1 ∨ s = 2 ∨ s = 3) with rfl | rfl | rfl | rfl <;> simp <;> omega
theorem pc_0 (k : Nat) : pc k 0 = 0 := pc_zero k
theorem los_0 : los 0 = 0 := by simp [los, los1, pc_zero]
theorem qck_0' : qck 0 = 0 := by simp [qck]
theorem hon_0 (a b c d : Nat) : hon a b c d 0 = 0 := by simp [hon]
theorem tot_one (f : Nat → Nat) (hf : f 0 = 0) (m k : Nat) (hk : k < 4) : tot f (one m k) = f (hold m k) := by
  unfold tot
  rw [hold_one m k 0 hk (by omega), hold_one m k 1 hk (by omega), hold_one m k 2 hk (by omega), hold_one m k 3 hk (by omega)]
  rcases (by omega : k = 0 ∨ k = 1 ∨ k = 2 ∨ k = 3) with rfl | rfl | rfl | rfl <;> simp [hf]
theorem one_lt (m k : Nat) (hk : k < 4) : one m k < 4503599627370496 := by
  have hh := hold_lt m k
  unfold one
  rcases (by omega : k = 0 ∨ k = 1 ∨ k = 2 ∨ k = 3) with rfl | rfl | rfl | rfl <;> simp <;> omega
theorem los_pc (h : Nat) : los h ≤ pc 16 h := by
  unfold los los1; repeat' split
  all_goals omega
theorem los_top (h : Nat) (p : 3 ≤ pc 16 h) : los h + h / 4096 % 2 + h / 2048 % 2 + h / 1024 % 2 = 3 := by
  unfold los los1; repeat' split
  all_goals omega
theorem los_lone (h : Nat) (hh : h < 8192) (p : pc 16 h = 1) : los h = 1 ↔ h / 4096 = 0 := by
  unfold los los1; repeat' split
  all_goals omega

/-- One card more. -/
theorem pc_put (r : Nat) : ∀ k x, r < k → x / 2 ^ r % 2 = 0 → pc k (x + 2 ^ r) = pc k x + 1 := by
  induction r with
  | zero =>
    intro k x hk hx
    cases k with
    | zero => omega
    | succ k =>
      simp only [Nat.pow_zero, Nat.div_one] at hx
      have h1 : (x + 1) % 2 = 1 := by omega
      have h2 : (x + 1) / 2 = x / 2 := by omega
      simp only [pc, Nat.pow_zero, h1, h2]; omega
  | succ r ih =>
    intro k x hk hx
    cases k with
    | zero => omega
    | succ k =>
      have e : 2 ^ (r + 1) = 2 * 2 ^ r := by rw [Nat.pow_succ, Nat.mul_comm]
      have h1 : (x + 2 ^ (r + 1)) % 2 = x % 2 := by rw [e]; omega
      have h2 : (x + 2 ^ (r + 1)) / 2 = x / 2 + 2 ^ r := by rw [e]; omega
      have h3 : x / 2 / 2 ^ r % 2 = 0 := by rw [Nat.div_div_eq_div_mul, ← e]; exact hx
      have := ih k (x / 2) (by omega) h3
      simp only [pc, h1, h2, this]; omega
theorem put_lt (h r : Nat) (hh : h < 8192) (hr : r < 13) (hb : h / 2 ^ r % 2 = 0) : h + 2 ^ r < 8192 := by
  rcases (by omega : r = 0 ∨ r = 1 ∨ r = 2 ∨ r = 3 ∨ r = 4 ∨ r = 5 ∨ r = 6 ∨ r = 7 ∨ r = 8 ∨ r = 9 ∨ r = 10 ∨ r = 11 ∨ r = 12) with rfl | rfl | rfl | rfl | rfl | rfl | rfl | rfl | rfl | rfl | rfl | rfl | rfl <;> simp at hb ⊢ <;> omega
theorem bits_put (h r : Nat) (hr : r < 13) (hb : h / 2 ^ r % 2 = 0) :
    ((h + 2 ^ r) / 512 % 2 = h / 512 % 2 + (if r = 9 then 1 else 0)) ∧ ((h + 2 ^ r) / 1024 % 2 = h / 1024 % 2 + (if r = 10 then 1 else 0)) ∧
    ((h + 2 ^ r) / 2048 % 2 = h / 2048 % 2 + (if r = 11 then 1 else 0)) ∧ ((h + 2 ^ r) / 4096 % 2 = h / 4096 % 2 + (if r = 12 then 1 else 0)) := by
  rcases (by omega : r = 0 ∨ r = 1 ∨ r = 2 ∨ r = 3 ∨ r = 4 ∨ r = 5 ∨ r = 6 ∨ r = 7 ∨ r = 8 ∨ r = 9 ∨ r = 10 ∨ r = 11 ∨ r = 12) with rfl | rfl | rfl | rfl | rfl | rfl | rfl | rfl | rfl | rfl | rfl | rfl | rfl <;> simp at hb ⊢ <;> omega
theorem hon_put (h r : Nat) (hr : r < 13) (hb : h / 2 ^ r % 2 = 0) : hon 1 2 3 4 (h + 2 ^ r) = hon 1 2 3 4 h + (r - 8) ∧ hon 0 0 1 2 (h + 2 ^ r) = hon 0 0 1 2 h + (r - 10) := by
  obtain ⟨h1, h2, h3, h4⟩ := bits_put h r hr hb
  unfold hon
  rw [h1, h2, h3, h4]
  rcases (by omega : r < 9 ∨ r = 9 ∨ r = 10 ∨ r = 11 ∨ r = 12) with c | rfl | rfl | rfl | rfl
  · simp [show r ≠ 9 by omega, show r ≠ 10 by omega, show r ≠ 11 by omega, show r ≠ 12 by omega]; omega
  all_goals (simp; omega)
theorem qck_put (h r : Nat) (hr : r < 13) (hb : h / 2 ^ r % 2 = 0) : qck h ≤ qck (h + 2 ^ r) := by
  obtain ⟨_, h2, h3, h4⟩ := bits_put h r hr hb
  have hp := pc_put r 16 h (by omega) hb
  unfold qck
  rw [h2, h3, h4, hp]
  rcases (by omega : r < 10 ∨ r = 10 ∨ r = 11 ∨ r = 12) with c | rfl | rfl | rfl
  · simp [show r ≠ 10 by omega, show r ≠ 11 by omega, show r ≠ 12 by omega]
    repeat' split
    all_goals omega
  all_goals
    simp
    repeat' split
    all_goals omega
/-- The hands without and with a card. -/
def lessC (m c : Nat) : Nat := m - m / 2 ^ c % 2 * 2 ^ c
def moreC (m c : Nat) : Nat := lessC m c + 2 ^ c
theorem two_le (m c : Nat) : m / 2 ^ c % 2 * 2 ^ c ≤ m := by
  have h1 := Nat.div_mul_le_self m (2 ^ c)
  have h2 : m / 2 ^ c % 2 ≤ m / 2 ^ c := Nat.mod_le _ _
  exact Nat.le_trans (Nat.mul_le_mul_right _ h2) h1
theorem less_bit (m c : Nat) : lessC m c / 2 ^ c % 2 = 0 := by
  unfold lessC
  have hp : 0 < 2 ^ c := Nat.pos_of_ne_zero (by simp)
  have e := Nat.div_add_mod m (2 ^ c)
  have hl := Nat.mod_lt m hp
  generalize m / 2 ^ c = q at *
  generalize m % 2 ^ c = l at *
  have h2 : m - q % 2 * 2 ^ c = l + 2 ^ c * (q - q % 2) := by
    rw [Nat.mul_sub, Nat.mul_comm (q % 2)]
    have : 2 ^ c * (q % 2) ≤ 2 ^ c * q := Nat.mul_le_mul_left _ (Nat.mod_le _ _)
    omega
  rw [h2, Nat.add_mul_div_left _ _ hp, Nat.div_eq_of_lt hl]
  omega
theorem hold_put (m q r s : Nat) (hq : q < 4) (hs : s < 4) (hr : r < 13) (hb : hold m q / 2 ^ r % 2 = 0) : hold (m + 2 ^ (13 * q + r)) s = if s = q then hold m q + 2 ^ r else hold m s := by
  have hl := put_lt (hold m q) r (hold_lt m q) hr hb
  have e : 2 ^ (13 * q + r) = 2 ^ (13 * q) * 2 ^ r := Nat.pow_add ..
  rw [e]
  have hp : 0 < 2 ^ r := Nat.pos_of_ne_zero (by simp)
  clear hb e
  generalize 2 ^ r = p at *
  unfold hold at *
  rcases (by omega : q = 0 ∨ q = 1 ∨ q = 2 ∨ q = 3) with rfl | rfl | rfl | rfl <;>
    rcases (by omega : s = 0 ∨ s = 1 ∨ s = 2 ∨ s = 3) with rfl | rfl | rfl | rfl <;> simp at hl ⊢ <;> omega
theorem hold_bit (m q r : Nat) (hr : r < 13) : hold m q / 2 ^ r % 2 = m / 2 ^ (13 * q + r) % 2 := by
  unfold hold
  rw [Nat.pow_add, ← Nat.div_div_eq_div_mul]
  generalize m / 2 ^ (13 * q) = x
  rcases (by omega : r = 0 ∨ r = 1 ∨ r = 2 ∨ r = 3 ∨ r = 4 ∨ r = 5 ∨ r = 6 ∨ r = 7 ∨ r = 8 ∨ r = 9 ∨ r = 10 ∨ r = 11 ∨ r = 12) with rfl | rfl | rfl | rfl | rfl | rfl | rfl | rfl | rfl | rfl | rfl | rfl | rfl <;> simp <;> omega
theorem tot_put (f : Nat → Nat) (m q r : Nat) (d : Nat) (hq : q < 4) (hr : r < 13) (hb : hold m q / 2 ^ r % 2 = 0) (hf : f (hold m q + 2 ^ r) = f (hold m q) + d) : tot f (m + 2 ^ (13 * q + r)) = tot f m + d := by
  unfold tot
  rw [hold_put m q r 0 hq (by omega) hr hb, hold_put m q r 1 hq (by omega) hr hb, hold_put m q r 2 hq (by omega) hr hb, hold_put m q r 3 hq (by omega) hr hb]
  rcases (by omega : q = 0 ∨ q = 1 ∨ q = 2 ∨ q = 3) with rfl | rfl | rfl | rfl <;> simp [hf] <;> omega
theorem tot_put_le (f : Nat → Nat) (m q r : Nat) (hq : q < 4) (hr : r < 13) (hb : hold m q / 2 ^ r % 2 = 0) (hf : f (hold m q) ≤ f (hold m q + 2 ^ r)) : tot f m ≤ tot f (m + 2 ^ (13 * q + r)) := by
  unfold tot
  rw [hold_put m q r 0 hq (by omega) hr hb, hold_put m q r 1 hq (by omega) hr hb, hold_put m q r 2 hq (by omega) hr hb, hold_put m q r 3 hq (by omega) hr hb]
  rcases (by omega : q = 0 ∨ q = 1 ∨ q = 2 ∨ q = 3) with rfl | rfl | rfl | rfl <;> simp <;> omega
end Pl
/-- The walk's word for 'one'. -/
theorem one_e (m k : Nat) (hm : m < 18446744073709551616) (hk : k < 4) : bits BinOp.and IntKind.u64 (m : Int) ((8191 * 2 ^ (13 * k) : Nat) : Int) = ((Pl.one m k : Nat) : Int) := by
  have hb : 8191 * 2 ^ (13 * k) < 18446744073709551616 := by
    rcases (by omega : k = 0 ∨ k = 1 ∨ k = 2 ∨ k = 3) with rfl | rfl | rfl | rfl <;> simp
  rw [u64_and_nat _ _ hm hb]
  congr 1
  have hp : 0 < 2 ^ (13 * k) := Nat.pos_of_ne_zero (by simp)
  have e : m = m % 2 ^ (13 * k) + 2 ^ (13 * k) * (m / 2 ^ (13 * k)) := by rw [Nat.mod_add_div]
  have f := Pl.and_lane (13 * k) (m % 2 ^ (13 * k)) (m / 2 ^ (13 * k)) 0 8191 (Nat.mod_lt _ hp) hp
  rw [← e, Nat.and_zero, Nat.zero_add, Nat.zero_add, nat_mask13] at f
  rw [Nat.mul_comm 8191, f, Pl.one, Pl.hold, Nat.mul_comm]
namespace Pl
theorem or_lane (k a b c d : Nat) (ha : a < 2 ^ k) (hc : c < 2 ^ k) : (a + 2 ^ k * b) ||| (c + 2 ^ k * d) = (a ||| c) + 2 ^ k * (b ||| d) := by
  have hac : a ||| c < 2 ^ k := Nat.or_lt_two_pow ha hc
  apply Nat.eq_of_testBit_eq
  intro i
  have t : ∀ x y : Nat, x < 2 ^ k → (x + 2 ^ k * y).testBit i = if i < k then x.testBit i else y.testBit (i - k) := fun x y hx => by
    rw [Nat.add_comm]; exact Nat.testBit_two_pow_mul_add y hx i
  rw [Nat.testBit_or, t a b ha, t c d hc, t _ _ hac]
  split <;> simp
theorem or_even (q : Nat) : (2 * q) ||| 1 = 2 * q + 1 := by
  have := or_lane 1 0 q 1 0 (by omega) (by omega)
  simp at this
  omega
theorem or_put (x c : Nat) (h : x / 2 ^ c % 2 = 0) : x ||| 2 ^ c = x + 2 ^ c := by
  have hp : 0 < 2 ^ c := Nat.pos_of_ne_zero (by simp)
  have f := or_lane c (x % 2 ^ c) (x / 2 ^ c) 0 1 (Nat.mod_lt _ hp) hp
  rw [Nat.mod_add_div, Nat.or_zero, Nat.zero_add, Nat.mul_one] at f
  have e : x / 2 ^ c = 2 * (x / 2 ^ c / 2) := by omega
  rw [f]
  conv => lhs; rw [e]
  rw [or_even, ← e, Nat.mul_add, Nat.mul_one, ← Nat.add_assoc, Nat.mod_add_div]
theorem and_even (q n : Nat) (h : q < 2 ^ (n + 1)) : q &&& (2 ^ (n + 1) - 2) = 2 * (q / 2) := by
  have f := and_lane 1 (q % 2) (q / 2) 0 (2 ^ n - 1) (by omega) (by omega)
  have e1 : q % 2 + 2 ^ 1 * (q / 2) = q := by omega
  have e2 : 0 + 2 ^ 1 * (2 ^ n - 1) = 2 ^ (n + 1) - 2 := by rw [Nat.pow_succ]; omega
  rw [e1, e2, Nat.and_zero, Nat.and_two_pow_sub_one_eq_mod, Nat.mod_eq_of_lt (by rw [Nat.pow_succ] at h; omega)] at f
  omega
theorem and_less (m c : Nat) (hm : m < 18446744073709551616) (hc : c < 64) : m &&& (18446744073709551615 - 2 ^ c) = lessC m c := by
  have hp : 0 < 2 ^ c := Nat.pos_of_ne_zero (by simp)
  have h64 : 18446744073709551616 = 2 ^ c * 2 ^ (64 - c) := by rw [← Nat.pow_add, show c + (64 - c) = 64 by omega]
  obtain ⟨n, hn⟩ : ∃ n, 64 - c = n + 1 := ⟨63 - c, by omega⟩
  rw [hn] at h64
  have hq : m / 2 ^ c < 2 ^ (n + 1) := by rw [Nat.div_lt_iff_lt_mul hp, Nat.mul_comm, ← h64]; exact hm
  have f := and_lane c (m % 2 ^ c) (m / 2 ^ c) (2 ^ c - 1) (2 ^ (n + 1) - 2) (Nat.mod_lt _ hp) (by omega)
  have hn2 : 2 ≤ 2 ^ (n + 1) := by rw [Nat.pow_succ]; have : 0 < 2 ^ n := Nat.pos_of_ne_zero (by simp); omega
  have e2 : 2 ^ c - 1 + 2 ^ c * (2 ^ (n + 1) - 2) = 18446744073709551615 - 2 ^ c := by
    rw [Nat.mul_sub]
    have : 2 ^ c * 2 ≤ 2 ^ c * 2 ^ (n + 1) := Nat.mul_le_mul_left _ hn2
    omega
  rw [Nat.mod_add_div, e2, and_even _ _ hq, Nat.and_two_pow_sub_one_eq_mod, Nat.mod_mod] at f
  rw [f]
  unfold lessC
  have e := Nat.div_add_mod m (2 ^ c)
  generalize m / 2 ^ c = q at *
  generalize m % 2 ^ c = l at *
  have h3 : q = 2 * (q / 2) + q % 2 := by omega
  have h4 : 2 ^ c * q = 2 ^ c * (2 * (q / 2)) + q % 2 * 2 ^ c := by
    conv => lhs; rw [h3]
    rw [Nat.mul_add, Nat.mul_comm (q % 2)]
  omega
theorem less_le (m c : Nat) : lessC m c ≤ m := Nat.sub_le _ _
theorem more_lt (m c : Nat) (hm : m < 4503599627370496) (hc : c < 52) : moreC m c < 18446744073709551616 := by
  have h1 := less_le m c
  have h2 : 2 ^ c < 2 ^ 52 := Nat.pow_lt_pow_right (by omega) hc
  unfold moreC; omega
end Pl
theorem less_e (m c : Nat) (hm : m < 18446744073709551616) (hc : c < 52) : bits BinOp.andNot IntKind.u64 (m : Int) ((2 ^ c : Nat) : Int) = ((Pl.lessC m c : Nat) : Int) := by
  have h2 : 2 ^ c < 2 ^ 52 := Nat.pow_lt_pow_right (by omega) hc
  rw [u64_andNot_nat _ _ hm (by omega), Pl.and_less m c hm (by omega)]
theorem more_e (m c : Nat) (hm : m < 18446744073709551616) (hc : c < 52) : bits BinOp.or IntKind.u64 ((Pl.lessC m c : Nat) : Int) ((2 ^ c : Nat) : Int) = ((Pl.moreC m c : Nat) : Int) := by
  have h2 : 2 ^ c < 2 ^ 52 := Nat.pow_lt_pow_right (by omega) hc
  have h1 := Pl.less_le m c
  rw [u64_or_nat _ _ (by omega) (by omega), Pl.or_put _ _ (Pl.less_bit m c)]; rfl
theorem put_e (h r : Nat) (hh : h < 8192) (hr : r < 13) (hb : h / 2 ^ r % 2 = 0) : bits BinOp.or IntKind.u16 (h : Int) ((2 ^ r : Nat) : Int) = ((h + 2 ^ r : Nat) : Int) := by
  have h2 : 2 ^ r < 2 ^ 13 := Nat.pow_lt_pow_right (by omega) hr
  rw [u16_or_nat _ _ (by omega) (by omega), Pl.or_put _ _ hb]
attribute [irreducible] Pl.lessC Pl.moreC
end Go.Proofs.YtdebhdjcacojeaaDoor
