/- Plain laws of hands: what one suit, one card more, an exchange of suits do. No program. -/
import Derived.Test.YtdebhdjcacojeaaDoorHand
namespace Go.Proofs.YtdebhdjcacojeaaDoor
namespace Pl

/-- All the cards of one suit of a mask. -/
def one (m k : Nat) : Nat := hold m k * 2 ^ (13 * k)
theorem hold_one (m k s : Nat) (hk : k < 4) (hs : s < 4) : hold (one m k) s = if s = k then hold m k else 0 := by
  have hh := hold_lt m k
  unfold one
  generalize hold m k = h at *
  unfold hold
  rcases (by omega : k = 0 ∨ k = 1 ∨ k = 2 ∨ k = 3) with rfl | rfl | rfl | rfl <;>
    rcases (by omega : s = 0 ∨ s = 1 ∨ s = 2 ∨ s = 3) with rfl | rfl | rfl | rfl <;> simp <;> omega
theorem pc_0 (k : Nat) : pc k 0 = 0 := pc_zero k
theorem los_0 : los 0 = 0 := by simp [los, los1, pc_zero]
theorem qck_0' : qck 0 = 0 := by simp [qck]
theorem hon_0 (a b c d : Nat) : hon a b c d 0 = 0 := by simp [hon]
theorem tot_one (f : Nat → Nat) (hf : f 0 = 0) (m k : Nat) (hk : k < 4) : tot f (one m k) = f (hold m k) := by
  unfold tot
  rw [hold_one m k 0 hk (by omega), hold_one m k 1 hk (by omega), hold_one m k 2 hk (by omega), hold_one m k 3 hk (by omega)]
  rcases (by omega : k = 0 ∨ k = 1 ∨ k = 2 ∨ k = 3) with rfl | rfl | rfl | rfl <;> simp [hf]
theorem one_lt (m k : Nat) (hk : k < 4) : one m k < 4503599627370496 := by
  have hh := hold_lt m k
  unfold one
  rcases (by omega : k = 0 ∨ k = 1 ∨ k = 2 ∨ k = 3) with rfl | rfl | rfl | rfl <;> simp <;> omega
theorem los_pc (h : Nat) : los h ≤ pc 16 h := by
  unfold los los1; repeat' split
  all_goals omega
theorem los_top (h : Nat) (p : 3 ≤ pc 16 h) : los h + h / 4096 % 2 + h / 2048 % 2 + h / 1024 % 2 = 3 := by
  unfold los los1; repeat' split
  all_goals omega
theorem los_lone (h : Nat) (hh : h < 8192) (p : pc 16 h = 1) : los h = 1 ↔ h / 4096 = 0 := by
  unfold los los1; repeat' split
  all_goals omega
end Pl
/-- The walk's word for 'one'. -/
theorem one_e (m k : Nat) (hm : m < 18446744073709551616) (hk : k < 4) : bits BinOp.and IntKind.u64 (m : Int) ((8191 * 2 ^ (13 * k) : Nat) : Int) = ((Pl.one m k : Nat) : Int) := by
  have hb : 8191 * 2 ^ (13 * k) < 18446744073709551616 := by
    rcases (by omega : k = 0 ∨ k = 1 ∨ k = 2 ∨ k = 3) with rfl | rfl | rfl | rfl <;> simp
  rw [u64_and_nat _ _ hm hb]
  congr 1
  have hp : 0 < 2 ^ (13 * k) := Nat.pos_of_ne_zero (by simp)
  have e : m = m % 2 ^ (13 * k) + 2 ^ (13 * k) * (m / 2 ^ (13 * k)) := by rw [Nat.mod_add_div]
  have f := Pl.and_lane (13 * k) (m % 2 ^ (13 * k)) (m / 2 ^ (13 * k)) 0 8191 (Nat.mod_lt _ hp) hp
  rw [← e, Nat.and_zero, Nat.zero_add, Nat.zero_add, nat_mask13] at f
  rw [Nat.mul_comm 8191, f, Pl.one, Pl.hold, Nat.mul_comm]
end Go.Proofs.YtdebhdjcacojeaaDoor
