/- The contract of math/bits.Div64. -/
import Derived.Test.YtfhkgpipbegpgaaGreatDoorWide
import Derived.Test.YtfhkgpipbegpgaaGreatDoorDivP
import Derived.Deep.DeepCutAuto
import Derived.Deep.CutBlock
import Derived.Laws.Bits64b
namespace Go.Proofs.YtfhkgpipbegpgaaGreatDoor
open Go Go.RowKit

def Div64Post (q r : Nat) (w : World) (e : Ending) (w' : World) : Prop := e = .returned (.tuple #[.int .u64 (q : Nat), .int .u64 (r : Nat)]) ∧ ∃ n, w' = w.drewN n
set_option maxRecDepth 100000 in
set_option maxHeartbeats 1000000 in
theorem div64_zero (l y : Nat) (hl : l < 18446744073709551616) (hy : 0 < y) (w : World) :
    Calls Tryz.prog 53 #[.int .u64 0, .int .u64 l, .int .u64 y] w (Div64Post (l / y) (l % y) w) := by
  have f0 : ((y : Int) == 0) = false := by simp; omega
  have f1 : decide ((y : Int) ≤ 0) = false := decide_eq_false (by omega)
  have m1 : ((l : Int).tmod (y : Int)) = ((l % y : Nat) : Int) := by rw [Int.tmod_eq_emod_of_nonneg (by omega)]; rfl
  have m2 : ((l : Int).tdiv (y : Int)) = ((l / y : Nat) : Int) := by rw [Int.tdiv_eq_ediv_of_nonneg (by omega)]; rfl
  have h1 : l / y ≤ l := Nat.div_le_self _ _
  have h2 : l % y ≤ l := Nat.mod_le _ _
  obtain ⟨q, hq⟩ : ∃ q, q = l / y := ⟨_, rfl⟩
  obtain ⟨r, hr⟩ : ∃ r, r = l % y := ⟨_, rfl⟩
  rw [← hq, ← hr]
  rw [← hq] at m2 h1
  rw [← hr] at m1 h2
  have m3 : IntKind.u64.wrap (r : Int) = (r : Int) := IntWalk.u64_in _ (by omega)
  have m4 : IntKind.u64.wrap (q : Int) = (q : Int) := IntWalk.u64_in _ (by omega)
  clear hq hr
  go_enter Tryz.func53, Tryz.ntmps53
  go_wp2
  go_quiet (fail)
  go_wp2
  go_ret2
  exact ⟨rfl, _, rfl⟩

/-- What the shifted numbers are. -/
structure Prep (h l y s Y y1 y0 H lt u L d1 d0 : Nat) : Prop where
  hY : Y = y * 2 ^ s
  hH : H = h * 2 ^ s
  hlt : lt = l / 2 ^ (64 - s)
  hu : u = H + lt
  hL : l * 2 ^ s = lt * 18446744073709551616 + L
  L_lt : L < 18446744073709551616
  hy : Y = y1 * 4294967296 + y0
  hd : L = d1 * 4294967296 + d0
  y0_lt : y0 < 4294967296
  d0_lt : d0 < 4294967296
  d1_lt : d1 < 4294967296
  y1_lt : y1 < 4294967296
  y1_ge : 2147483648 ≤ y1
  u_lt : u < Y
theorem prep (h l y s : Nat) (hl : l < 18446744073709551616) (hy : h < y) (hs : s < 64) (h1 : 9223372036854775808 ≤ y * 2 ^ s) (h2 : y * 2 ^ s < 18446744073709551616) :
    ∃ Y y1 y0 H lt u L d1 d0, Prep h l y s Y y1 y0 H lt u L d1 d0 := by
  have hp : 0 < 2 ^ s := Nat.pow_pos (by omega)
  have hpp : 2 ^ s * 2 ^ (64 - s) = 18446744073709551616 := by rw [← Nat.pow_add, show s + (64 - s) = 64 by omega]
  have hq : 0 < 2 ^ (64 - s) := Nat.pow_pos (by omega)
  have e : l * 2 ^ s = l / 2 ^ (64 - s) * 18446744073709551616 + l % 2 ^ (64 - s) * 2 ^ s := by
    have := Nat.div_add_mod l (2 ^ (64 - s))
    calc l * 2 ^ s = (2 ^ (64 - s) * (l / 2 ^ (64 - s)) + l % 2 ^ (64 - s)) * 2 ^ s := by rw [this]
      _ = l / 2 ^ (64 - s) * (2 ^ s * 2 ^ (64 - s)) + l % 2 ^ (64 - s) * 2 ^ s := by rw [Nat.add_mul]; congr 1; ac_rfl
      _ = _ := by rw [hpp]
  have hL : l % 2 ^ (64 - s) * 2 ^ s < 18446744073709551616 := by
    rw [← hpp, Nat.mul_comm (2 ^ s)]
    exact Nat.mul_lt_mul_of_pos_right (Nat.mod_lt _ hq) hp
  have hlt : l / 2 ^ (64 - s) < 2 ^ s := by
    rw [Nat.div_lt_iff_lt_mul hq, hpp]; exact hl
  have hu : h * 2 ^ s + l / 2 ^ (64 - s) < y * 2 ^ s := by
    have : (h + 1) * 2 ^ s ≤ y * 2 ^ s := Nat.mul_le_mul hy (Nat.le_refl _)
    rw [Nat.add_mul, Nat.one_mul] at this
    omega
  refine ⟨y * 2 ^ s, y * 2 ^ s / 4294967296, y * 2 ^ s % 4294967296, h * 2 ^ s, _, _, l % 2 ^ (64 - s) * 2 ^ s, l % 2 ^ (64 - s) * 2 ^ s / 4294967296, l % 2 ^ (64 - s) * 2 ^ s % 4294967296, rfl, rfl, rfl, rfl, e, hL, ?_, ?_, ?_, ?_, ?_, ?_, ?_, hu⟩
  all_goals omega
/-- The quotient and the rest by the two digits. -/
theorem Prep.ends {h l y s Y y1 y0 H lt u L d1 d0 : Nat} (p : Prep h l y s Y y1 y0 H lt u L d1 d0) :
    (h * 18446744073709551616 + l) / y = (u * 4294967296 + d1) / Y * 4294967296 + ((u * 4294967296 + d1) % Y * 4294967296 + d0) / Y
    ∧ (h * 18446744073709551616 + l) % y = ((u * 4294967296 + d1) % Y * 4294967296 + d0) % Y / 2 ^ s := by
  have hY : 0 < Y := by have := p.u_lt; omega
  obtain ⟨a, b⟩ := div_two u d1 d0 Y hY
  rw [← a, ← b, ← p.hd]
  have e : u * 18446744073709551616 + L = (h * 18446744073709551616 + l) * 2 ^ s := by
    rw [p.hu, Nat.add_mul, Nat.add_mul, p.hL, p.hH, Nat.mul_right_comm h (2 ^ s)]
    exact Nat.add_assoc _ _ _
  rw [e, p.hY]
  have := div_shift (h * 18446744073709551616 + l) y (2 ^ s) (Nat.pow_pos (by omega))
  exact ⟨this.1.symm, this.2.symm⟩
theorem digit_of {h l y s Y y1 y0 H lt u L d1 d0 : Nat} (p : Prep h l y s Y y1 y0 H lt u L d1 d0) : Digit u d1 y1 y0 :=
  ⟨p.y1_ge, p.y1_lt, p.y0_lt, p.d1_lt, p.hy ▸ p.u_lt⟩

/-- One trial loop ends at the digit. -/
def TEnd (u d y1 y0 : Nat) (q : Nat) : Prop := q = (u * 4294967296 + d) / (y1 * 4294967296 + y0)
set_option maxRecDepth 100000 in
set_option maxHeartbeats 4000000 in
theorem div64_pos (h l y s : Nat) (hl : l < 18446744073709551616) (hy : h < y) (hh : 0 < h) (hs : s < 64) (h1 : 9223372036854775808 ≤ y * 2 ^ s) (h2 : y * 2 ^ s < 18446744073709551616)
   (LZ : ∀ w, Calls Tryz.prog 72 #[.int .u64 y] w fun e w' => e = .returned (.int .i64 (s : Nat)) ∧ w = w') (w : World) :
    Calls Tryz.prog 53 #[.int .u64 h, .int .u64 l, .int .u64 y] w (Div64Post ((h * 18446744073709551616 + l) / y) ((h * 18446744073709551616 + l) % y) w) := by
  obtain ⟨Y, y1, y0, H, lt, u, L, d1, d0, p⟩ := prep h l y s hl hy hs h1 h2
  have D1 := digit_of p
  have f0 : ((y : Int) == 0) = false := by simp; omega
  have f1 : decide ((y : Int) ≤ (h : Int)) = false := decide_eq_false (by omega)
  have f2 : ((h : Int) == 0) = false := by simp; omega
  have m3 : IntKind.u64.wrap (s : Int) = (s : Int) := IntWalk.u64_in _ (by omega)
  have pi : ∀ a : Nat, (a : Int) * 2 ^ s = ((a * 2 ^ s : Nat) : Int) := fun a => by rw [Int.natCast_mul, Int.natCast_pow]; rfl
  have hYlt : Y < 18446744073709551616 := by rw [p.hY]; exact h2
  have hu64 : u < 18446744073709551616 := Nat.lt_trans p.u_lt hYlt
  have e1 : IntKind.u64.wrap ((y : Int) * 2 ^ s) = (Y : Int) := by rw [pi, ← p.hY]; exact IntWalk.u64_in _ (by omega)
  have e2 : (Y : Int) / 4294967296 = (y1 : Int) := by have := p.hy; have := p.y0_lt; omega
  have e3 : bits BinOp.and IntKind.u64 (Y : Int) 4294967295 = (y0 : Int) := by
    rw [show (4294967295 : Int) = ((4294967295 : Nat) : Int) from rfl, bits_and_u64_nat _ _ hYlt (by omega), show (4294967295 : Nat) = 2 ^ 32 - 1 from rfl, Nat.and_two_pow_sub_one_eq_mod]
    have := p.hy; have := p.y0_lt; omega
  have e4 : IntKind.u64.wrap ((h : Int) * 2 ^ s) = (H : Int) := by rw [pi, ← p.hH]; exact IntWalk.u64_in _ (by have := p.hu; omega)
  have e5 : (l : Int) / 2 ^ (64 - s) = (lt : Int) := by rw [p.hlt, Int.natCast_ediv, Int.natCast_pow]; rfl
  have hltlt : lt < 2 ^ s := by
    rw [p.hlt, Nat.div_lt_iff_lt_mul (Nat.pow_pos (by omega)), ← Nat.pow_add, show s + (64 - s) = 64 by omega]; exact hl
  have e6 : bits BinOp.or IntKind.u64 (H : Int) (lt : Int) = (u : Int) := by
    rw [bits_or_u64_nat _ _ (by have := p.hu; omega) (by have := p.hu; omega), p.hH, Nat.mul_comm h, ← Nat.two_pow_add_eq_or_of_lt hltlt, Nat.mul_comm, ← p.hH, ← p.hu]
  have e7 : IntKind.u64.wrap ((l : Int) * 2 ^ s) = (L : Int) := by
    rw [pi, p.hL, IntKind.wrap_u64]; have := p.L_lt; omega
  have e8 : (L : Int) / 4294967296 = (d1 : Int) := by have := p.hd; have := p.d0_lt; omega
  have e9 : bits BinOp.and IntKind.u64 (L : Int) 4294967295 = (d0 : Int) := by
    rw [show (4294967295 : Int) = ((4294967295 : Nat) : Int) from rfl, bits_and_u64_nat _ _ p.L_lt (by omega), show (4294967295 : Nat) = 2 ^ 32 - 1 from rfl, Nat.and_two_pow_sub_one_eq_mod]
    have := p.hd; have := p.d0_lt; omega
  have T1 := Trial.first D1
  have y1pos := p.y1_ge
  have f3 : ¬ y1 = 0 := by omega
  obtain ⟨q, hq⟩ : ∃ q, q = u / y1 := ⟨_, rfl⟩
  obtain ⟨r, hr⟩ : ∃ r, r = u - u / y1 * y1 := ⟨_, rfl⟩
  rw [← hr, ← hq] at T1
  have e10 : ((u : Int).tdiv (y1 : Int)) = (q : Int) := by rw [Int.tdiv_eq_ediv_of_nonneg (by omega), hq]; rfl
  have hqle := T1.q_le
  have hrlt := T1.r_lt
  have hsum := T1.sum
  have e11 : IntKind.u64.wrap (q : Int) = (q : Int) := IntWalk.u64_in _ (by omega)
  have e12 : IntKind.u64.wrap ((u : Int) - IntKind.u64.wrap ((q : Int) * (y1 : Int))) = (r : Int) := by
    rw [← Int.natCast_mul, IntKind.wrap_u64, IntKind.wrap_u64]; generalize q * y1 = a at *; omega
  have hYpos : 0 < Y := by have := p.u_lt; omega
  obtain ⟨Q1, hQ1⟩ : ∃ Q1, Q1 = (u * 4294967296 + d1) / (y1 * 4294967296 + y0) := ⟨_, rfl⟩
  have HQd1 := Lib.hid hQ1
  have hQ1lt := D1.q_lt
  rw [← hQ1] at hQ1lt
  -- what is left behind the first digit
  obtain ⟨v, hv⟩ : ∃ v, v = (u * 4294967296 + d1) % Y := ⟨_, rfl⟩
  have hvlt : v < Y := hv ▸ Nat.mod_lt _ hYpos
  have hsum1 : u * 4294967296 + d1 = Q1 * Y + v := by rw [hv, hQ1, ← p.hy, Nat.mul_comm _ Y]; exact (Nat.div_add_mod _ _).symm
  have e13 : IntKind.u64.wrap (IntKind.u64.wrap (IntKind.u64.wrap ((u : Int) * 4294967296) + (d1 : Int)) - IntKind.u64.wrap ((Q1 : Int) * (Y : Int))) = (v : Int) := by
    rw [← Int.natCast_mul Q1 Y, IntKind.wrap_u64, IntKind.wrap_u64, IntKind.wrap_u64, IntKind.wrap_u64]
    clear hQ1 hv
    generalize Q1 * Y = a at *
    omega
  have D2 : Digit v d0 y1 y0 := ⟨p.y1_ge, p.y1_lt, p.y0_lt, p.d0_lt, p.hy ▸ hvlt⟩
  have T2 := Trial.first D2
  obtain ⟨q', hq'⟩ : ∃ q', q' = v / y1 := ⟨_, rfl⟩
  obtain ⟨r', hr'⟩ : ∃ r', r' = v - v / y1 * y1 := ⟨_, rfl⟩
  rw [← hr', ← hq'] at T2
  have e14 : ((v : Int).tdiv (y1 : Int)) = (q' : Int) := by rw [Int.tdiv_eq_ediv_of_nonneg (by omega), hq']; rfl
  have hqle2 := T2.q_le
  have hrlt2 := T2.r_lt
  have hsum2 := T2.sum
  have e15 : IntKind.u64.wrap (q' : Int) = (q' : Int) := IntWalk.u64_in _ (by omega)
  have e16 : IntKind.u64.wrap ((v : Int) - IntKind.u64.wrap ((q' : Int) * (y1 : Int))) = (r' : Int) := by
    rw [← Int.natCast_mul, IntKind.wrap_u64, IntKind.wrap_u64]; generalize q' * y1 = a at *; omega
  obtain ⟨Q0, hQ0⟩ : ∃ Q0, Q0 = (v * 4294967296 + d0) / (y1 * 4294967296 + y0) := ⟨_, rfl⟩
  have HQd0 := Lib.hid hQ0
  have hQ0lt := D2.q_lt
  rw [← hQ0] at hQ0lt
  obtain ⟨z, hz⟩ : ∃ z, z = (v * 4294967296 + d0) % Y := ⟨_, rfl⟩
  have hzlt : z < Y := hz ▸ Nat.mod_lt _ hYpos
  have hsum3 : v * 4294967296 + d0 = Q0 * Y + z := by rw [hz, hQ0, ← p.hy, Nat.mul_comm _ Y]; exact (Nat.div_add_mod _ _).symm
  have e17 : IntKind.u64.wrap (IntKind.u64.wrap (IntKind.u64.wrap ((v : Int) * 4294967296) + (d0 : Int)) - IntKind.u64.wrap ((Q0 : Int) * (Y : Int))) = (z : Int) := by
    rw [← Int.natCast_mul Q0 Y, IntKind.wrap_u64, IntKind.wrap_u64, IntKind.wrap_u64, IntKind.wrap_u64]
    clear hQ0 hz
    generalize Q0 * Y = a at *
    omega
  obtain ⟨ze, hze⟩ : ∃ ze, ze = z / 2 ^ s := ⟨_, rfl⟩
  have e18 : (z : Int) / 2 ^ s = (ze : Int) := by rw [hze, Int.natCast_ediv, Int.natCast_pow]; rfl
  obtain ⟨qq, hqq⟩ : ∃ qq, qq = Q1 * 4294967296 + Q0 := ⟨_, rfl⟩
  have e19 : IntKind.u64.wrap ((Q1 : Int) * 4294967296) = (Q1 : Int) * 4294967296 := IntWalk.u64_in _ (by omega)
  have e20 : IntKind.u64.wrap ((Q1 : Int) * 4294967296 + (Q0 : Int)) = (qq : Int) := by rw [hqq, IntKind.wrap_u64]; omega
  have hends := p.ends
  rw [← hv, p.hy, ← hQ1, ← hQ0, ← p.hy, ← hz, ← hze, ← hqq] at hends
  rw [hends.1, hends.2]
  have HT1 := Lib.hid T1
  have HD1 := Lib.hid D1
  have HT2 := Lib.hid T2
  have HD2 := Lib.hid D2
  clear T1 D1 T2 D2 p hsum hsum1 hsum2 hsum3 hq hr hq' hr' h1 h2 pi hQ1 hQ0 hv hz hze hqq hends
  go_enter Tryz.func53, Tryz.ntmps53
  go_wp2_with fail
  refine (LZ _).mono ?_
  rintro e w' ⟨rfl, rfl⟩
  go_upto_block 0 with fail
  clear LZ f0 f1 f2 m3 e1 e2 e3 e4 e5 e6 e7 e8 e9 e10 e11 e12
  go_cut [15] (fun s wx => s = .int .u64 (Q1 : Nat) ∧ wx = w)
  case first =>
    go_wp2
    go_loop [15, 16] (fun tq tr => ∃ q r : Nat, tq = .int .u64 q ∧ tr = .int .u64 r ∧ Trial u d1 y1 y0 q r) (fun tq _ => (intOf tq).toNat)
    case atStart => exact ⟨q, r, rfl, rfl, HT1.out⟩
    case round =>
      obtain ⟨q', r', rfl, rfl, t⟩ := hrel
      have gq := t.q_le
      have gr := t.r_lt
      have hD0 := HD1.out
      have gy1 := hD0.y1_lt
      have gy0 := hD0.y0_lt
      have gd := hD0.d_lt
      obtain ⟨m, hm⟩ : ∃ m, m = q' * y0 := ⟨_, rfl⟩
      obtain ⟨r2, hr2⟩ : ∃ r2, r2 = r' + y1 := ⟨_, rfl⟩
      obtain ⟨q2, hq2⟩ : ∃ q2, q2 = q' - 1 := ⟨_, rfl⟩
      have x1 : IntKind.u64.wrap ((r' : Int) + (y1 : Int)) = (r2 : Int) := by rw [hr2, IntKind.wrap_u64]; omega
      by_cases c : 4294967296 ≤ q' ∨ 4294967296 * r' + d1 < m
      · have gt := t.more hD0 (hm ▸ c)
        have gpos : 0 < q' := Nat.zero_lt_of_lt gt
        have x0 : IntKind.u64.wrap ((q' : Int) - 1) = (q2 : Int) := by rw [hq2, IntKind.wrap_u64]; omega
        have T2 : Hid (r2 < 4294967296 → Trial u d1 y1 y0 q2 r2) := Lib.hid (fun h => by rw [hq2, hr2] at *; exact t.next hD0 (hm ▸ c) h)
        have T3 : Hid (4294967296 ≤ r2 → Q1 = q2) := Lib.hid (fun h => by rw [hq2, HQd1.out]; rw [hr2] at h; exact t.last hD0 (hm ▸ c) h)
        have q2lt : q2 < q' := by omega
        by_cases c1 : 4294967296 ≤ q'
        · have g1 : decide ((4294967296 : Int) ≤ (q' : Int)) = true := decide_eq_true (by omega)
          clear gt hm c t hr2 hq2 gpos c1 hD0
          by_cases c2 : 4294967296 ≤ r2
          · have g2 : decide ((4294967296 : Int) ≤ (r2 : Int)) = true := decide_eq_true (by omega)
            go_wp2
            go_meet
            exact ⟨by rw [T3.out c2], rfl⟩
          · have g2 : decide ((4294967296 : Int) ≤ (r2 : Int)) = false := decide_eq_false (by omega)
            go_wp2
            go_round
            case rel => exact ⟨q2, r2, rfl, rfl, T2.out (by omega)⟩
            case measure => simp [intOf]; omega
        · have g1 : decide ((4294967296 : Int) ≤ (q' : Int)) = false := decide_eq_false (by omega)
          have hm64 : m ≤ 4294967296 * 4294967295 := by rw [hm]; exact Nat.mul_le_mul (by omega) (by omega)
          have x2 : IntKind.u64.wrap ((q' : Int) * (y0 : Int)) = (m : Int) := by rw [← Int.natCast_mul, ← hm, IntKind.wrap_u64]; omega
          have x3 : IntKind.u64.wrap (4294967296 * (r' : Int)) = 4294967296 * (r' : Int) := IntWalk.u64_in _ (by omega)
          have x4 : IntKind.u64.wrap (4294967296 * (r' : Int) + (d1 : Int)) = 4294967296 * (r' : Int) + (d1 : Int) := IntWalk.u64_in _ (by omega)
          have g3 : decide (4294967296 * (r' : Int) + (d1 : Int) < (m : Int)) = true := decide_eq_true (by omega)
          clear gt hm c t hr2 hq2 gpos c1 hm64 hD0
          by_cases c2 : 4294967296 ≤ r2
          · have g2 : decide ((4294967296 : Int) ≤ (r2 : Int)) = true := decide_eq_true (by omega)
            go_wp2
            go_meet
            exact ⟨by rw [T3.out c2], rfl⟩
          · have g2 : decide ((4294967296 : Int) ≤ (r2 : Int)) = false := decide_eq_false (by omega)
            go_wp2
            go_round
            case rel => exact ⟨q2, r2, rfl, rfl, T2.out (by omega)⟩
            case measure => simp [intOf]; omega
      · have c1 : ¬ 4294967296 ≤ q' := fun h => c (.inl h)
        have c3 : ¬ 4294967296 * r' + d1 < m := fun h => c (.inr h)
        have g1 : decide ((4294967296 : Int) ≤ (q' : Int)) = false := decide_eq_false (by omega)
        have hm64 : m ≤ 4294967296 * 4294967295 := by rw [hm]; exact Nat.mul_le_mul (by omega) (by omega)
        have x2 : IntKind.u64.wrap ((q' : Int) * (y0 : Int)) = (m : Int) := by rw [← Int.natCast_mul, ← hm, IntKind.wrap_u64]; omega
        have x3 : IntKind.u64.wrap (4294967296 * (r' : Int)) = 4294967296 * (r' : Int) := IntWalk.u64_in _ (by omega)
        have x4 : IntKind.u64.wrap (4294967296 * (r' : Int) + (d1 : Int)) = 4294967296 * (r' : Int) + (d1 : Int) := IntWalk.u64_in _ (by omega)
        have g3 : decide (4294967296 * (r' : Int) + (d1 : Int) < (m : Int)) = false := decide_eq_false (by omega)
        have T3 : Hid (Q1 = q') := Lib.hid (by rw [HQd1.out]; exact t.enough hD0 (by rw [← hm]; omega))
        clear hm c t hr2 hq2 c1 c3 hm64 hD0 x1
        go_wp2
        go_meet
        exact ⟨by rw [T3.out], rfl⟩
  case rest =>
  obtain ⟨rfl, rfl⟩ := hcut
  go_upto_block 2 with fail
  go_cut [18] (fun s wx => s = .int .u64 (Q0 : Nat) ∧ wx = wc)
  case first =>
    go_wp2
    go_loop [16, 18] (fun tr tq => ∃ q r : Nat, tq = .int .u64 q ∧ tr = .int .u64 r ∧ Trial v d0 y1 y0 q r) (fun _ tq => (intOf tq).toNat)
    case atStart => exact ⟨q', r', rfl, rfl, HT2.out⟩
    case round =>
      obtain ⟨q', r', rfl, rfl, t⟩ := hrel
      have gq := t.q_le
      have gr := t.r_lt
      have hD0 := HD2.out
      have gy1 := hD0.y1_lt
      have gy0 := hD0.y0_lt
      have gd := hD0.d_lt
      obtain ⟨m, hm⟩ : ∃ m, m = q' * y0 := ⟨_, rfl⟩
      obtain ⟨r2, hr2⟩ : ∃ r2, r2 = r' + y1 := ⟨_, rfl⟩
      obtain ⟨q2, hq2⟩ : ∃ q2, q2 = q' - 1 := ⟨_, rfl⟩
      have x1 : IntKind.u64.wrap ((r' : Int) + (y1 : Int)) = (r2 : Int) := by rw [hr2, IntKind.wrap_u64]; omega
      by_cases c : 4294967296 ≤ q' ∨ 4294967296 * r' + d0 < m
      · have gt := t.more hD0 (hm ▸ c)
        have gpos : 0 < q' := Nat.zero_lt_of_lt gt
        have x0 : IntKind.u64.wrap ((q' : Int) - 1) = (q2 : Int) := by rw [hq2, IntKind.wrap_u64]; omega
        have T2 : Hid (r2 < 4294967296 → Trial v d0 y1 y0 q2 r2) := Lib.hid (fun h => by rw [hq2, hr2] at *; exact t.next hD0 (hm ▸ c) h)
        have T3 : Hid (4294967296 ≤ r2 → Q0 = q2) := Lib.hid (fun h => by rw [hq2, HQd0.out]; rw [hr2] at h; exact t.last hD0 (hm ▸ c) h)
        have q2lt : q2 < q' := by omega
        by_cases c1 : 4294967296 ≤ q'
        · have g1 : decide ((4294967296 : Int) ≤ (q' : Int)) = true := decide_eq_true (by omega)
          clear gt hm c t hr2 hq2 gpos c1 hD0
          by_cases c2 : 4294967296 ≤ r2
          · have g2 : decide ((4294967296 : Int) ≤ (r2 : Int)) = true := decide_eq_true (by omega)
            go_wp2
            go_meet
            exact ⟨by rw [T3.out c2], rfl⟩
          · have g2 : decide ((4294967296 : Int) ≤ (r2 : Int)) = false := decide_eq_false (by omega)
            go_wp2
            go_round
            case rel => exact ⟨q2, r2, rfl, rfl, T2.out (by omega)⟩
            case measure => simp [intOf]; omega
        · have g1 : decide ((4294967296 : Int) ≤ (q' : Int)) = false := decide_eq_false (by omega)
          have hm64 : m ≤ 4294967296 * 4294967295 := by rw [hm]; exact Nat.mul_le_mul (by omega) (by omega)
          have x2 : IntKind.u64.wrap ((q' : Int) * (y0 : Int)) = (m : Int) := by rw [← Int.natCast_mul, ← hm, IntKind.wrap_u64]; omega
          have x3 : IntKind.u64.wrap (4294967296 * (r' : Int)) = 4294967296 * (r' : Int) := IntWalk.u64_in _ (by omega)
          have x4 : IntKind.u64.wrap (4294967296 * (r' : Int) + (d0 : Int)) = 4294967296 * (r' : Int) + (d0 : Int) := IntWalk.u64_in _ (by omega)
          have g3 : decide (4294967296 * (r' : Int) + (d0 : Int) < (m : Int)) = true := decide_eq_true (by omega)
          clear gt hm c t hr2 hq2 gpos c1 hm64 hD0
          by_cases c2 : 4294967296 ≤ r2
          · have g2 : decide ((4294967296 : Int) ≤ (r2 : Int)) = true := decide_eq_true (by omega)
            go_wp2
            go_meet
            exact ⟨by rw [T3.out c2], rfl⟩
          · have g2 : decide ((4294967296 : Int) ≤ (r2 : Int)) = false := decide_eq_false (by omega)
            go_wp2
            go_round
            case rel => exact ⟨q2, r2, rfl, rfl, T2.out (by omega)⟩
            case measure => simp [intOf]; omega
      · have c1 : ¬ 4294967296 ≤ q' := fun h => c (.inl h)
        have c3 : ¬ 4294967296 * r' + d0 < m := fun h => c (.inr h)
        have g1 : decide ((4294967296 : Int) ≤ (q' : Int)) = false := decide_eq_false (by omega)
        have hm64 : m ≤ 4294967296 * 4294967295 := by rw [hm]; exact Nat.mul_le_mul (by omega) (by omega)
        have x2 : IntKind.u64.wrap ((q' : Int) * (y0 : Int)) = (m : Int) := by rw [← Int.natCast_mul, ← hm, IntKind.wrap_u64]; omega
        have x3 : IntKind.u64.wrap (4294967296 * (r' : Int)) = 4294967296 * (r' : Int) := IntWalk.u64_in _ (by omega)
        have x4 : IntKind.u64.wrap (4294967296 * (r' : Int) + (d0 : Int)) = 4294967296 * (r' : Int) + (d0 : Int) := IntWalk.u64_in _ (by omega)
        have g3 : decide (4294967296 * (r' : Int) + (d0 : Int) < (m : Int)) = false := decide_eq_false (by omega)
        have T3 : Hid (Q0 = q') := Lib.hid (by rw [HQd0.out]; exact t.enough hD0 (by rw [← hm]; omega))
        clear hm c t hr2 hq2 c1 c3 hm64 hD0 x1
        go_wp2
        go_meet
        exact ⟨by rw [T3.out], rfl⟩
  case rest =>
  obtain ⟨rfl, rfl⟩ := hcut
  go_wp2
  go_ret2
  exact ⟨rfl, 0, by rw [World.drewN_zero]⟩
end Go.Proofs.YtfhkgpipbegpgaaGreatDoor
