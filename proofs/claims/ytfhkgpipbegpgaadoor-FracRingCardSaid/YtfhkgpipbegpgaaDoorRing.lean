/- FracRing returns true. -/
import Derived.Test.YtfhkgpipbegpgaaDoorRingOp
import Derived.Test.YtfhkgpipbegpgaaDoorRR
import Derived.Deep.CutBlock
namespace Go.Proofs.YtfhkgpipbegpgaaDoor
open Go Go.RowKit

set_option maxRecDepth 100000 in
set_option maxHeartbeats 8000000 in
theorem ring_walk (a b c d m n : Int) (ha : -32768 ≤ a ∧ a ≤ 32767) (hb : -32768 ≤ b ∧ b ≤ 32767) (hc : -32768 ≤ c ∧ c ≤ 32767) (hd : -32768 ≤ d ∧ d ≤ 32767) (hm : -32768 ≤ m ∧ m ≤ 32767) (hn : -32768 ≤ n ∧ n ≤ 32767) (w : World) (he : Env w) :
    Calls Tryd.prog 8 #[.int .i16 a, .int .i16 b, .int .i16 c, .int .i16 d, .int .i16 m, .int .i16 n] w (RetBool true w) := by
  have SX := Lib.hid (fun w => some_any a b ha.1 ha.2 hb.1 hb.2 w)
  have SY := Lib.hid (fun w => some_any c d hc.1 hc.2 hd.1 hd.2 w)
  have SZ := Lib.hid (fun w => some_any m n hm.1 hm.2 hn.1 hn.2 w)
  obtain ⟨x, hx⟩ : ∃ x, someR a b = x := ⟨_, rfl⟩
  obtain ⟨y, hy⟩ : ∃ x, someR c d = x := ⟨_, rfl⟩
  obtain ⟨z, hz⟩ : ∃ x, someR m n = x := ⟨_, rfl⟩
  have bx : Bd x 32768 32768 := hx ▸ some_bd a b ha.1 ha.2
  have by_ : Bd y 32768 32768 := hy ▸ some_bd c d hc.1 hc.2
  have bz : Bd z 32768 32768 := hz ▸ some_bd m n hm.1 hm.2
  rw [hx] at SX
  rw [hy] at SY
  rw [hz] at SZ
  clear hx hy hz ha hb hc hd hm hn
  obtain ⟨s, hs⟩ : ∃ o, x + y = o := ⟨_, rfl⟩
  obtain ⟨t, ht⟩ : ∃ o, y + z = o := ⟨_, rfl⟩
  obtain ⟨v, hv⟩ : ∃ o, s + z = o := ⟨_, rfl⟩
  obtain ⟨p, hp⟩ : ∃ o, x * y = o := ⟨_, rfl⟩
  obtain ⟨q, hq⟩ : ∃ o, y * z = o := ⟨_, rfl⟩
  obtain ⟨u, hu⟩ : ∃ o, p * z = o := ⟨_, rfl⟩
  obtain ⟨r, hr⟩ : ∃ o, x * z = o := ⟨_, rfl⟩
  obtain ⟨k, hk⟩ : ∃ o, x * t = o := ⟨_, rfl⟩
  obtain ⟨g, hg⟩ : ∃ o, -x = o := ⟨_, rfl⟩
  have f_x := bd_fits bx
  have f_y := bd_fits by_
  have f_z := bd_fits bz
  have f_s : fits s = true := hs ▸ (bx.add by_).fits (by decide) (by decide)
  have f_t : fits t = true := ht ▸ (by_.add bz).fits (by decide) (by decide)
  have f_v : fits v = true := hv ▸ hs ▸ ((bx.add by_).add bz).fits (by decide) (by decide)
  have f_p : fits p = true := hp ▸ (bx.mul by_).fits (by decide) (by decide)
  have f_q : fits q = true := hq ▸ (by_.mul bz).fits (by decide) (by decide)
  have f_u : fits u = true := hu ▸ hp ▸ ((bx.mul by_).mul bz).fits (by decide) (by decide)
  have f_r : fits r = true := hr ▸ (bx.mul bz).fits (by decide) (by decide)
  have f_k : fits k = true := hk ▸ ht ▸ (bx.mul (by_.add bz)).fits (by decide) (by decide)
  have f_g : fits g = true := hg ▸ bx.neg.fits (by decide) (by decide)
  have SU : Hid (sumF [(x.num, (x.den : Int)), (y.num, (y.den : Int)), (z.num, (z.den : Int))] = (v.num, (v.den : Int), 0)) := Lib.hid (by
    rw [sum_three x y z (by rw [hs]; exact f_s) (by rw [hs, hv]; exact f_v) f_x, hs, hv])
  have NG := Lib.hid (fun w => neg_RR x g f_x hg f_g w)
  have RI := Lib.hid (fun w => right_RR v f_v w)
  have FX := Lib.hid (show FB x.num x.den ∧ FB y.num y.den ∧ FB z.num z.den from ⟨fb_R f_x, fb_R f_y, fb_R f_z⟩)
  have K1 : Hid (∀ (P : Nat) w, Blk w P 28 #[.int .i64 0] → Calls Tryd.prog 29 #[.func (.func 15) #[] #[], .agg #[.int .i64 x.num, .int .i64 (x.den : Nat)], .agg #[.int .i64 y.num, .int .i64 (y.den : Nat)], .pointer (some ⟨P, 0, none⟩)] w (fun e w' => e = .returned (.agg #[.int .i64 s.num, .int .i64 (s.den : Nat)]) ∧ Below w.heap.size w w')) :=
    Lib.hid fun P w hBk => op_add x.num x.den y.num y.den s.num s.den P (fun w => add_RR x y s f_x f_y hs f_s w) w hBk
  have K2 : Hid (∀ (P : Nat) w, Blk w P 28 #[.int .i64 0] → Calls Tryd.prog 29 #[.func (.func 15) #[] #[], .agg #[.int .i64 y.num, .int .i64 (y.den : Nat)], .agg #[.int .i64 x.num, .int .i64 (x.den : Nat)], .pointer (some ⟨P, 0, none⟩)] w (fun e w' => e = .returned (.agg #[.int .i64 s.num, .int .i64 (s.den : Nat)]) ∧ Below w.heap.size w w')) :=
    Lib.hid fun P w hBk => op_add y.num y.den x.num x.den s.num s.den P (fun w => add_RR y x s f_y f_x (by rw [Rat.add_comm]; exact hs) f_s w) w hBk
  have K3 : Hid (∀ (P : Nat) w, Blk w P 28 #[.int .i64 0] → Calls Tryd.prog 29 #[.func (.func 15) #[] #[], .agg #[.int .i64 s.num, .int .i64 (s.den : Nat)], .agg #[.int .i64 z.num, .int .i64 (z.den : Nat)], .pointer (some ⟨P, 0, none⟩)] w (fun e w' => e = .returned (.agg #[.int .i64 v.num, .int .i64 (v.den : Nat)]) ∧ Below w.heap.size w w')) :=
    Lib.hid fun P w hBk => op_add s.num s.den z.num z.den v.num v.den P (fun w => add_RR s z v f_s f_z hv f_v w) w hBk
  have K4 : Hid (∀ (P : Nat) w, Blk w P 28 #[.int .i64 0] → Calls Tryd.prog 29 #[.func (.func 15) #[] #[], .agg #[.int .i64 y.num, .int .i64 (y.den : Nat)], .agg #[.int .i64 z.num, .int .i64 (z.den : Nat)], .pointer (some ⟨P, 0, none⟩)] w (fun e w' => e = .returned (.agg #[.int .i64 t.num, .int .i64 (t.den : Nat)]) ∧ Below w.heap.size w w')) :=
    Lib.hid fun P w hBk => op_add y.num y.den z.num z.den t.num t.den P (fun w => add_RR y z t f_y f_z ht f_t w) w hBk
  have K5 : Hid (∀ (P : Nat) w, Blk w P 28 #[.int .i64 0] → Calls Tryd.prog 29 #[.func (.func 15) #[] #[], .agg #[.int .i64 x.num, .int .i64 (x.den : Nat)], .agg #[.int .i64 t.num, .int .i64 (t.den : Nat)], .pointer (some ⟨P, 0, none⟩)] w (fun e w' => e = .returned (.agg #[.int .i64 v.num, .int .i64 (v.den : Nat)]) ∧ Below w.heap.size w w')) :=
    Lib.hid fun P w hBk => op_add x.num x.den t.num t.den v.num v.den P (fun w => add_RR x t v f_x f_t (by rw [← ht, ← Rat.add_assoc, hs]; exact hv) f_v w) w hBk
  have M1 : Hid (∀ (P : Nat) w, Blk w P 28 #[.int .i64 0] → Calls Tryd.prog 29 #[.func (.func 16) #[] #[], .agg #[.int .i64 x.num, .int .i64 (x.den : Nat)], .agg #[.int .i64 y.num, .int .i64 (y.den : Nat)], .pointer (some ⟨P, 0, none⟩)] w (fun e w' => e = .returned (.agg #[.int .i64 p.num, .int .i64 (p.den : Nat)]) ∧ Below w.heap.size w w')) :=
    Lib.hid fun P w hBk => op_mul x.num x.den y.num y.den p.num p.den P (fun w => mul_RR x y p f_x f_y hp f_p w) w hBk
  have M2 : Hid (∀ (P : Nat) w, Blk w P 28 #[.int .i64 0] → Calls Tryd.prog 29 #[.func (.func 16) #[] #[], .agg #[.int .i64 y.num, .int .i64 (y.den : Nat)], .agg #[.int .i64 x.num, .int .i64 (x.den : Nat)], .pointer (some ⟨P, 0, none⟩)] w (fun e w' => e = .returned (.agg #[.int .i64 p.num, .int .i64 (p.den : Nat)]) ∧ Below w.heap.size w w')) :=
    Lib.hid fun P w hBk => op_mul y.num y.den x.num x.den p.num p.den P (fun w => mul_RR y x p f_y f_x (by rw [Rat.mul_comm]; exact hp) f_p w) w hBk
  have M3 : Hid (∀ (P : Nat) w, Blk w P 28 #[.int .i64 0] → Calls Tryd.prog 29 #[.func (.func 16) #[] #[], .agg #[.int .i64 p.num, .int .i64 (p.den : Nat)], .agg #[.int .i64 z.num, .int .i64 (z.den : Nat)], .pointer (some ⟨P, 0, none⟩)] w (fun e w' => e = .returned (.agg #[.int .i64 u.num, .int .i64 (u.den : Nat)]) ∧ Below w.heap.size w w')) :=
    Lib.hid fun P w hBk => op_mul p.num p.den z.num z.den u.num u.den P (fun w => mul_RR p z u f_p f_z hu f_u w) w hBk
  have M4 : Hid (∀ (P : Nat) w, Blk w P 28 #[.int .i64 0] → Calls Tryd.prog 29 #[.func (.func 16) #[] #[], .agg #[.int .i64 y.num, .int .i64 (y.den : Nat)], .agg #[.int .i64 z.num, .int .i64 (z.den : Nat)], .pointer (some ⟨P, 0, none⟩)] w (fun e w' => e = .returned (.agg #[.int .i64 q.num, .int .i64 (q.den : Nat)]) ∧ Below w.heap.size w w')) :=
    Lib.hid fun P w hBk => op_mul y.num y.den z.num z.den q.num q.den P (fun w => mul_RR y z q f_y f_z hq f_q w) w hBk
  have M5 : Hid (∀ (P : Nat) w, Blk w P 28 #[.int .i64 0] → Calls Tryd.prog 29 #[.func (.func 16) #[] #[], .agg #[.int .i64 x.num, .int .i64 (x.den : Nat)], .agg #[.int .i64 q.num, .int .i64 (q.den : Nat)], .pointer (some ⟨P, 0, none⟩)] w (fun e w' => e = .returned (.agg #[.int .i64 u.num, .int .i64 (u.den : Nat)]) ∧ Below w.heap.size w w')) :=
    Lib.hid fun P w hBk => op_mul x.num x.den q.num q.den u.num u.den P (fun w => mul_RR x q u f_x f_q (by rw [← hq, ← Rat.mul_assoc, hp]; exact hu) f_u w) w hBk
  have D1 : Hid (∀ (P : Nat) w, Blk w P 28 #[.int .i64 0] → Calls Tryd.prog 29 #[.func (.func 16) #[] #[], .agg #[.int .i64 x.num, .int .i64 (x.den : Nat)], .agg #[.int .i64 t.num, .int .i64 (t.den : Nat)], .pointer (some ⟨P, 0, none⟩)] w (fun e w' => e = .returned (.agg #[.int .i64 k.num, .int .i64 (k.den : Nat)]) ∧ Below w.heap.size w w')) :=
    Lib.hid fun P w hBk => op_mul x.num x.den t.num t.den k.num k.den P (fun w => mul_RR x t k f_x f_t hk f_k w) w hBk
  have D2 : Hid (∀ (P : Nat) w, Blk w P 28 #[.int .i64 0] → Calls Tryd.prog 29 #[.func (.func 16) #[] #[], .agg #[.int .i64 x.num, .int .i64 (x.den : Nat)], .agg #[.int .i64 z.num, .int .i64 (z.den : Nat)], .pointer (some ⟨P, 0, none⟩)] w (fun e w' => e = .returned (.agg #[.int .i64 r.num, .int .i64 (r.den : Nat)]) ∧ Below w.heap.size w w')) :=
    Lib.hid fun P w hBk => op_mul x.num x.den z.num z.den r.num r.den P (fun w => mul_RR x z r f_x f_z hr f_r w) w hBk
  have D3 : Hid (∀ (P : Nat) w, Blk w P 28 #[.int .i64 0] → Calls Tryd.prog 29 #[.func (.func 15) #[] #[], .agg #[.int .i64 p.num, .int .i64 (p.den : Nat)], .agg #[.int .i64 r.num, .int .i64 (r.den : Nat)], .pointer (some ⟨P, 0, none⟩)] w (fun e w' => e = .returned (.agg #[.int .i64 k.num, .int .i64 (k.den : Nat)]) ∧ Below w.heap.size w w')) :=
    Lib.hid fun P w hBk => op_add p.num p.den r.num r.den k.num k.den P (fun w => add_RR p r k f_p f_r (by rw [← hp, ← hr, ← Rat.mul_add, ht]; exact hk) f_k w) w hBk
  have D4 : Hid (∀ (P : Nat) w, Blk w P 28 #[.int .i64 0] → Calls Tryd.prog 29 #[.func (.func 14) #[] #[], .agg #[.int .i64 s.num, .int .i64 (s.den : Nat)], .agg #[.int .i64 y.num, .int .i64 (y.den : Nat)], .pointer (some ⟨P, 0, none⟩)] w (fun e w' => e = .returned (.agg #[.int .i64 x.num, .int .i64 (x.den : Nat)]) ∧ Below w.heap.size w w')) :=
    Lib.hid fun P w hBk => op_sub s.num s.den y.num y.den x.num x.den P (fun w => sub_RR s y x f_s f_y (by rw [← hs]; exact Rat.add_sub_cancel) f_x w) w hBk
  have D5 : Hid (∀ (P : Nat) w, Blk w P 28 #[.int .i64 0] → Calls Tryd.prog 29 #[.func (.func 15) #[] #[], .agg #[.int .i64 x.num, .int .i64 (x.den : Nat)], .agg #[.int .i64 0, .int .i64 1], .pointer (some ⟨P, 0, none⟩)] w (fun e w' => e = .returned (.agg #[.int .i64 x.num, .int .i64 (x.den : Nat)]) ∧ Below w.heap.size w w')) :=
    Lib.hid fun P w hBk => op_add x.num x.den (0 : Rat).num (0 : Rat).den x.num x.den P (fun w => add_RR x (0 : Rat) x f_x fit0 (Rat.add_zero x) f_x w) w hBk
  have D6 : Hid (∀ (P : Nat) w, Blk w P 28 #[.int .i64 0] → Calls Tryd.prog 29 #[.func (.func 16) #[] #[], .agg #[.int .i64 x.num, .int .i64 (x.den : Nat)], .agg #[.int .i64 1, .int .i64 1], .pointer (some ⟨P, 0, none⟩)] w (fun e w' => e = .returned (.agg #[.int .i64 x.num, .int .i64 (x.den : Nat)]) ∧ Below w.heap.size w w')) :=
    Lib.hid fun P w hBk => op_mul x.num x.den (1 : Rat).num (1 : Rat).den x.num x.den P (fun w => mul_RR x (1 : Rat) x f_x fit1 (Rat.mul_one x) f_x w) w hBk
  have D7 : Hid (∀ (P : Nat) w, Blk w P 28 #[.int .i64 0] → Calls Tryd.prog 29 #[.func (.func 16) #[] #[], .agg #[.int .i64 x.num, .int .i64 (x.den : Nat)], .agg #[.int .i64 0, .int .i64 1], .pointer (some ⟨P, 0, none⟩)] w (fun e w' => e = .returned (.agg #[.int .i64 0, .int .i64 1]) ∧ Below w.heap.size w w')) :=
    Lib.hid fun P w hBk => op_mul x.num x.den (0 : Rat).num (0 : Rat).den (0 : Rat).num (0 : Rat).den P (fun w => mul_RR x (0 : Rat) (0 : Rat) f_x fit0 (Rat.mul_zero x) fit0 w) w hBk
  have D8 : Hid (∀ (P : Nat) w, Blk w P 28 #[.int .i64 0] → Calls Tryd.prog 29 #[.func (.func 14) #[] #[], .agg #[.int .i64 x.num, .int .i64 (x.den : Nat)], .agg #[.int .i64 x.num, .int .i64 (x.den : Nat)], .pointer (some ⟨P, 0, none⟩)] w (fun e w' => e = .returned (.agg #[.int .i64 0, .int .i64 1]) ∧ Below w.heap.size w w')) :=
    Lib.hid fun P w hBk => op_sub x.num x.den x.num x.den (0 : Rat).num (0 : Rat).den P (fun w => sub_RR x x (0 : Rat) f_x f_x Rat.sub_self fit0 w) w hBk
  have N1 : Hid (∀ (P : Nat) w, Blk w P 28 #[.int .i64 0] → Calls Tryd.prog 29 #[.func (.func 15) #[] #[], .agg #[.int .i64 x.num, .int .i64 (x.den : Nat)], .agg #[.int .i64 g.num, .int .i64 (g.den : Nat)], .pointer (some ⟨P, 0, none⟩)] w (fun e w' => e = .returned (.agg #[.int .i64 0, .int .i64 1]) ∧ Below w.heap.size w w')) :=
    Lib.hid fun P w hBk => op_add x.num x.den g.num g.den (0 : Rat).num (0 : Rat).den P (fun w => add_RR x g (0 : Rat) f_x f_g (by rw [← hg]; exact Rat.add_neg_cancel x) fit0 w) w hBk
  have Q1 : Hid (y ≠ 0 → ∀ (P : Nat) w, Blk w P 28 #[.int .i64 0] → Calls Tryd.prog 29 #[.func (.func 20) #[] #[], .agg #[.int .i64 p.num, .int .i64 (p.den : Nat)], .agg #[.int .i64 y.num, .int .i64 (y.den : Nat)], .pointer (some ⟨P, 0, none⟩)] w (fun e w' => e = .returned (.agg #[.int .i64 x.num, .int .i64 (x.den : Nat)]) ∧ Below w.heap.size w w')) :=
    Lib.hid fun hy0 P w hp' => op_div p.num p.den y.num y.den x.num x.den P (fun w => div_RR p y x f_p f_y hy0 (by rw [← hp]; exact Rat.mul_div_cancel hy0) f_x w) w hp'
  have Q2 : Hid (y ≠ 0 → ∀ (P : Nat) w, Blk w P 28 #[.int .i64 0] → Calls Tryd.prog 29 #[.func (.func 20) #[] #[], .agg #[.int .i64 y.num, .int .i64 (y.den : Nat)], .agg #[.int .i64 y.num, .int .i64 (y.den : Nat)], .pointer (some ⟨P, 0, none⟩)] w (fun e w' => e = .returned (.agg #[.int .i64 1, .int .i64 1]) ∧ Below w.heap.size w w')) :=
    Lib.hid fun hy0 P w hp' => op_div y.num y.den y.num y.den (1 : Rat).num (1 : Rat).den P (fun w => div_RR y y 1 f_y f_y hy0 (by rw [Rat.div_def]; exact Rat.mul_inv_cancel y hy0) fit1 w) w hp'
  have hy0 : y = 0 ∨ y ≠ 0 := Classical.em _
  have HY := Lib.hid hy0
  clear hs ht hv hp hq hu hr hk hg f_x f_y f_z f_s f_t f_v f_p f_q f_u f_r f_k f_g bx by_ bz hy0
  have h0 := InvL.start he
  clear he
  have hmf : ∀ (fn : Fn) (first cap : Array Value) (w : World), (Instr.makeFunc fn first cap).run Tryd.prog w = .ok (.func fn first cap) w := fun _ _ _ _ => rfl
  go_enter Tryd.func8, Tryd.ntmps8
  go_wp2_with fail
  refine (invV (fun w hw => (awake_any w hw)) h0).mono ?_
  rintro e w1 ⟨rfl, h1⟩
  clear h0
  go_wp2_with fail
  refine (invV (fun w _ => SX.out w) h1).mono ?_
  rintro e w2 ⟨rfl, h2⟩
  clear h1
  go_wp2_with fail
  refine (invV (fun w _ => SY.out w) h2).mono ?_
  rintro e w3 ⟨rfl, h3⟩
  clear h2
  go_wp2_with fail
  refine (invV (fun w _ => SZ.out w) h3).mono ?_
  rintro e w4 ⟨rfl, h4⟩
  clear h3
  have h5 := ((((((h4.push 26 #[.int .i64 x.num, .int .i64 (x.den : Nat)]).push 26 #[.int .i64 y.num, .int .i64 (y.den : Nat)]).push 26 #[.int .i64 z.num, .int .i64 (z.den : Nat)]).push 26 #[.int .i64 0, .int .i64 1]).push 26 #[.int .i64 1, .int .i64 1]).push 28 #[.int .i64 0]).push 32 #[.func (.func 15) #[] #[], .func (.func 16) #[] #[]]
  simp only [size_al] at h5
  clear h4
  go_upto_block 0 with fail
  generalize ((((((w4.alloc (.cells #[.int .i64 x.num, .int .i64 (x.den : Nat)] 26)).alloc (.cells #[.int .i64 y.num, .int .i64 (y.den : Nat)] 26)).alloc (.cells #[.int .i64 z.num, .int .i64 (z.den : Nat)] 26)).alloc (.cells #[.int .i64 0, .int .i64 1] 26)).alloc (.cells #[.int .i64 1, .int .i64 1] 26)).alloc (.cells #[.int .i64 0] 28)).alloc (.cells #[.func (.func 15) #[] #[], .func (.func 16) #[] #[]] 32) = W5 at *
  generalize w4.heap.size = B at *
  clear SX SY SZ hmf
  go_cut [] (fun wx => InvL w wx [(B + 1 + 1 + 1 + 1 + 1 + 1, 32, #[.func (.func 15) #[] #[], .func (.func 16) #[] #[]]), (B + 1 + 1 + 1 + 1 + 1, 28, #[.int .i64 0]), (B + 1 + 1 + 1 + 1, 26, #[.int .i64 1, .int .i64 1]), (B + 1 + 1 + 1, 26, #[.int .i64 0, .int .i64 1]), (B + 1 + 1, 26, #[.int .i64 z.num, .int .i64 (z.den : Nat)]), (B + 1, 26, #[.int .i64 y.num, .int .i64 (y.den : Nat)]), (B, 26, #[.int .i64 x.num, .int .i64 (x.den : Nat)])])
  case first =>
    go_wp2_with fail
    refine wp_loop_rounds 3 ?_
    rw [rounds_succ]
    have xx0 := h5.cell (i := 6) rfl (j := 0) (v := .int .i64 x.num) rfl
    have xx1 := h5.cell (i := 6) rfl (j := 1) (v := .int .i64 (x.den : Nat)) rfl
    have xy0 := h5.cell (i := 5) rfl (j := 0) (v := .int .i64 y.num) rfl
    have xy1 := h5.cell (i := 5) rfl (j := 1) (v := .int .i64 (y.den : Nat)) rfl
    have xz0 := h5.cell (i := 4) rfl (j := 0) (v := .int .i64 z.num) rfl
    have xz1 := h5.cell (i := 4) rfl (j := 1) (v := .int .i64 (z.den : Nat)) rfl
    have xf0 := h5.cell (i := 0) rfl (j := 0) (v := .func (.func 15) #[] #[]) rfl
    have xf1 := h5.cell (i := 0) rfl (j := 1) (v := .func (.func 16) #[] #[]) rfl
    go_wp2_with fail
    clear xf0 xf1
    have kxx0 := Since.cell xx0
    have kxx1 := Since.cell xx1
    have kxy0 := Since.cell xy0
    have kxy1 := Since.cell xy1
    have kxz0 := Since.cell xz0
    have kxz1 := Since.cell xz1
    clear xx0 xx1 xy0 xy1 xz0 xz1
    have H := Lib.hid h5
    have HP := Lib.hid (h5.all _ (List.mem_cons_of_mem _ (List.mem_cons_self ..))).1
    clear h5
    refine region_since (by kernel_rfl) (by kernel_rfl) ?_
    repeat (quiet_step (((go_at_call 29; (first | (with_reducible exact Calls.since (K1.out _ _ (HP.out.keep (Since.property _) HP.out.lt))) | (with_reducible exact Calls.since (K2.out _ _ (HP.out.keep (Since.property _) HP.out.lt))) | (with_reducible exact Calls.since (K3.out _ _ (HP.out.keep (Since.property _) HP.out.lt))) | (with_reducible exact Calls.since (K4.out _ _ (HP.out.keep (Since.property _) HP.out.lt))) | (with_reducible exact Calls.since (K5.out _ _ (HP.out.keep (Since.property _) HP.out.lt))))))))
    refine wpQuiet_nil ?_
    rintro w' ⟨u, rfl⟩
    clear kxx0 kxx1 kxy0 kxy1 kxz0 kxz1
    have h6 := H.out.keep u.property
    clear H HP
    generalize u.val = W6 at *
    have xx0 := h6.cell (i := 6) rfl (j := 0) (v := .int .i64 x.num) rfl
    have xx1 := h6.cell (i := 6) rfl (j := 1) (v := .int .i64 (x.den : Nat)) rfl
    have xy0 := h6.cell (i := 5) rfl (j := 0) (v := .int .i64 y.num) rfl
    have xy1 := h6.cell (i := 5) rfl (j := 1) (v := .int .i64 (y.den : Nat)) rfl
    have xz0 := h6.cell (i := 4) rfl (j := 0) (v := .int .i64 z.num) rfl
    have xz1 := h6.cell (i := 4) rfl (j := 1) (v := .int .i64 (z.den : Nat)) rfl
    have xf0 := h6.cell (i := 0) rfl (j := 0) (v := .func (.func 15) #[] #[]) rfl
    have xf1 := h6.cell (i := 0) rfl (j := 1) (v := .func (.func 16) #[] #[]) rfl
    go_wp2_with fail
    rw [rounds_succ]
    go_wp2_with fail
    clear xf0 xf1
    have kxx0 := Since.cell xx0
    have kxx1 := Since.cell xx1
    have kxy0 := Since.cell xy0
    have kxy1 := Since.cell xy1
    have kxz0 := Since.cell xz0
    have kxz1 := Since.cell xz1
    clear xx0 xx1 xy0 xy1 xz0 xz1
    have H := Lib.hid h6
    have HP := Lib.hid (h6.all _ (List.mem_cons_of_mem _ (List.mem_cons_self ..))).1
    clear h6
    refine region_since (by kernel_rfl) (by kernel_rfl) ?_
    repeat (quiet_step (((go_at_call 29; (first | (with_reducible exact Calls.since (M1.out _ _ (HP.out.keep (Since.property _) HP.out.lt))) | (with_reducible exact Calls.since (M2.out _ _ (HP.out.keep (Since.property _) HP.out.lt))) | (with_reducible exact Calls.since (M3.out _ _ (HP.out.keep (Since.property _) HP.out.lt))) | (with_reducible exact Calls.since (M4.out _ _ (HP.out.keep (Since.property _) HP.out.lt))) | (with_reducible exact Calls.since (M5.out _ _ (HP.out.keep (Since.property _) HP.out.lt))))))))
    refine wpQuiet_nil ?_
    rintro w' ⟨u, rfl⟩
    clear kxx0 kxx1 kxy0 kxy1 kxz0 kxz1
    have h7 := H.out.keep u.property
    clear H HP
    generalize u.val = W7 at *
    go_wp2_with fail
    rw [rounds_succ]
    go_wp2_with fail
    go_meet
    exact h7
  case rest =>
  have h7 := hcut
  clear h5 hcut
  go_upto_region 13 with fail
  go_cut [139] (fun s139 wx => s139 = .bool false ∧ InvL w wx [(B + 1 + 1 + 1 + 1 + 1 + 1, 32, #[.func (.func 15) #[] #[], .func (.func 16) #[] #[]]), (B + 1 + 1 + 1 + 1 + 1, 28, #[.int .i64 0]), (B + 1 + 1 + 1 + 1, 26, #[.int .i64 1, .int .i64 1]), (B + 1 + 1 + 1, 26, #[.int .i64 0, .int .i64 1]), (B + 1 + 1, 26, #[.int .i64 z.num, .int .i64 (z.den : Nat)]), (B + 1, 26, #[.int .i64 y.num, .int .i64 (y.den : Nat)]), (B, 26, #[.int .i64 x.num, .int .i64 (x.den : Nat)])])
  case first =>
    have xx0 := h7.cell (i := 6) rfl (j := 0) (v := .int .i64 x.num) rfl
    have xx1 := h7.cell (i := 6) rfl (j := 1) (v := .int .i64 (x.den : Nat)) rfl
    have xy0 := h7.cell (i := 5) rfl (j := 0) (v := .int .i64 y.num) rfl
    have xy1 := h7.cell (i := 5) rfl (j := 1) (v := .int .i64 (y.den : Nat)) rfl
    have xz0 := h7.cell (i := 4) rfl (j := 0) (v := .int .i64 z.num) rfl
    have xz1 := h7.cell (i := 4) rfl (j := 1) (v := .int .i64 (z.den : Nat)) rfl
    have x00 := h7.cell (i := 3) rfl (j := 0) (v := .int .i64 0) rfl
    have x01 := h7.cell (i := 3) rfl (j := 1) (v := .int .i64 1) rfl
    have x10 := h7.cell (i := 2) rfl (j := 0) (v := .int .i64 1) rfl
    have x11 := h7.cell (i := 2) rfl (j := 1) (v := .int .i64 1) rfl
    have kxx0 := Since.cell xx0
    have kxx1 := Since.cell xx1
    have kxy0 := Since.cell xy0
    have kxy1 := Since.cell xy1
    have kxz0 := Since.cell xz0
    have kxz1 := Since.cell xz1
    have kx00 := Since.cell x00
    have kx01 := Since.cell x01
    have kx10 := Since.cell x10
    have kx11 := Since.cell x11
    clear xx0 xx1 xy0 xy1 xz0 xz1 x00 x01 x10 x11
    have H := Lib.hid h7
    have HP := Lib.hid (h7.all _ (List.mem_cons_of_mem _ (List.mem_cons_self ..))).1
    clear h7
    refine region_since (by kernel_rfl) (by kernel_rfl) ?_
    repeat (quiet_step (((go_at_call 29; (first | (with_reducible exact Calls.since (D1.out _ _ (HP.out.keep (Since.property _) HP.out.lt))) | (with_reducible exact Calls.since (D2.out _ _ (HP.out.keep (Since.property _) HP.out.lt))) | (with_reducible exact Calls.since (D3.out _ _ (HP.out.keep (Since.property _) HP.out.lt))) | (with_reducible exact Calls.since (D4.out _ _ (HP.out.keep (Since.property _) HP.out.lt))) | (with_reducible exact Calls.since (D5.out _ _ (HP.out.keep (Since.property _) HP.out.lt))) | (with_reducible exact Calls.since (D6.out _ _ (HP.out.keep (Since.property _) HP.out.lt))) | (with_reducible exact Calls.since (D7.out _ _ (HP.out.keep (Since.property _) HP.out.lt))) | (with_reducible exact Calls.since (D8.out _ _ (HP.out.keep (Since.property _) HP.out.lt))) | (with_reducible exact Calls.since (K4.out _ _ (HP.out.keep (Since.property _) HP.out.lt))) | (with_reducible exact Calls.since (M1.out _ _ (HP.out.keep (Since.property _) HP.out.lt))) | (with_reducible exact Calls.since (K1.out _ _ (HP.out.keep (Since.property _) HP.out.lt))))))))
    refine wpQuiet_nil ?_
    rintro w' ⟨u, rfl⟩
    clear kxx0 kxx1 kxy0 kxy1 kxz0 kxz1 kx00 kx01 kx10 kx11
    have h8 := H.out.keep u.property
    clear H HP
    generalize u.val = W8 at *
    go_wp2_with fail
    go_meet
    exact ⟨rfl, h8⟩
  case rest =>
  obtain ⟨rfl, h8⟩ := hcut
  clear h7
  go_upto_region 15 with fail
  go_cut [161] (fun s161 wx => s161 = .bool false ∧ InvL w wx [(B + 1 + 1 + 1 + 1 + 1 + 1, 32, #[.func (.func 15) #[] #[], .func (.func 16) #[] #[]]), (B + 1 + 1 + 1 + 1 + 1, 28, #[.int .i64 0]), (B + 1 + 1 + 1 + 1, 26, #[.int .i64 1, .int .i64 1]), (B + 1 + 1 + 1, 26, #[.int .i64 0, .int .i64 1]), (B + 1 + 1, 26, #[.int .i64 z.num, .int .i64 (z.den : Nat)]), (B + 1, 26, #[.int .i64 y.num, .int .i64 (y.den : Nat)]), (B, 26, #[.int .i64 x.num, .int .i64 (x.den : Nat)])])
  case first =>
    rcases HY.out with hy | hy
    · have xy0 : wc.cell? ⟨B + 1, 0, none⟩ = some (.int .i64 0) := (h8.cell (i := 5) rfl (j := 0) (v := .int .i64 y.num) rfl).trans (by rw [hy]; rfl)
      have xy1 : wc.cell? ⟨B + 1, 1, none⟩ = some (.int .i64 1) := (h8.cell (i := 5) rfl (j := 1) (v := .int .i64 (y.den : Nat)) rfl).trans (by rw [hy]; rfl)
      clear hy
      have x00 := h8.cell (i := 3) rfl (j := 0) (v := .int .i64 0) rfl
      have x01 := h8.cell (i := 3) rfl (j := 1) (v := .int .i64 1) rfl
      have H := Lib.hid h8
      clear h8
      go_quiet (fail)
      go_wp2_with fail
      go_meet
      exact ⟨rfl, H.out.keep (below_drewN (Below.refl _ _) _)⟩
    · have e0 : (y.num == 0) = false := by simpa using fun h => hy (Rat.num_eq_zero.1 h)
      have e2 : (y.num != 0) = true := by simpa using fun h => hy (Rat.num_eq_zero.1 h)
      have Q3 := Lib.hid (Q1.out hy)
      have Q4 := Lib.hid (Q2.out hy)
      clear hy
      have xx0 := h8.cell (i := 6) rfl (j := 0) (v := .int .i64 x.num) rfl
      have xx1 := h8.cell (i := 6) rfl (j := 1) (v := .int .i64 (x.den : Nat)) rfl
      have xy0 := h8.cell (i := 5) rfl (j := 0) (v := .int .i64 y.num) rfl
      have xy1 := h8.cell (i := 5) rfl (j := 1) (v := .int .i64 (y.den : Nat)) rfl
      have xz0 := h8.cell (i := 4) rfl (j := 0) (v := .int .i64 z.num) rfl
      have xz1 := h8.cell (i := 4) rfl (j := 1) (v := .int .i64 (z.den : Nat)) rfl
      have x00 := h8.cell (i := 3) rfl (j := 0) (v := .int .i64 0) rfl
      have x01 := h8.cell (i := 3) rfl (j := 1) (v := .int .i64 1) rfl
      have x10 := h8.cell (i := 2) rfl (j := 0) (v := .int .i64 1) rfl
      have x11 := h8.cell (i := 2) rfl (j := 1) (v := .int .i64 1) rfl
      have kxx0 := Since.cell xx0
      have kxx1 := Since.cell xx1
      have kxy0 := Since.cell xy0
      have kxy1 := Since.cell xy1
      have kxz0 := Since.cell xz0
      have kxz1 := Since.cell xz1
      have kx00 := Since.cell x00
      have kx01 := Since.cell x01
      have kx10 := Since.cell x10
      have kx11 := Since.cell x11
      clear xx0 xx1 xy0 xy1 xz0 xz1 x00 x01 x10 x11
      have H := Lib.hid h8
      have HP := Lib.hid (h8.all _ (List.mem_cons_of_mem _ (List.mem_cons_self ..))).1
      clear h8
      refine region_since (by kernel_rfl) (by kernel_rfl) ?_
      repeat (quiet_step (((go_at_call 29; (first | (with_reducible exact Calls.since (M1.out _ _ (HP.out.keep (Since.property _) HP.out.lt))) | (with_reducible exact Calls.since (Q3.out _ _ (HP.out.keep (Since.property _) HP.out.lt))) | (with_reducible exact Calls.since (Q4.out _ _ (HP.out.keep (Since.property _) HP.out.lt))))))))
      refine wpQuiet_nil ?_
      rintro w' ⟨u, rfl⟩
      clear kxx0 kxx1 kxy0 kxy1 kxz0 kxz1 kx00 kx01 kx10 kx11
      have h9 := H.out.keep u.property
      clear H HP
      generalize u.val = W9 at *
      go_wp2_with fail
      go_meet
      exact ⟨rfl, h9⟩
  case rest =>
  obtain ⟨rfl, h9⟩ := hcut
  clear h8
  have xx0 := h9.cell (i := 6) rfl (j := 0) (v := .int .i64 x.num) rfl
  have xx1 := h9.cell (i := 6) rfl (j := 1) (v := .int .i64 (x.den : Nat)) rfl
  go_wp2_with fail
  refine (invV (fun w _ => NG.out w) h9).mono ?_
  rintro e w10 ⟨rfl, h10⟩
  clear h9 xx0 xx1
  have h11 := (h10.push 26 #[.int .i64 g.num, .int .i64 (g.den : Nat)]).push 26 #[.int .i64 x.num, .int .i64 (x.den : Nat), .int .i64 y.num, .int .i64 (y.den : Nat), .int .i64 z.num, .int .i64 (z.den : Nat)]
  simp only [size_al] at h11
  have xx0 := h10.cell (i := 6) rfl (j := 0) (v := .int .i64 x.num) rfl
  have xx1 := h10.cell (i := 6) rfl (j := 1) (v := .int .i64 (x.den : Nat)) rfl
  have xy0 := h10.cell (i := 5) rfl (j := 0) (v := .int .i64 y.num) rfl
  have xy1 := h10.cell (i := 5) rfl (j := 1) (v := .int .i64 (y.den : Nat)) rfl
  have xz0 := h10.cell (i := 4) rfl (j := 0) (v := .int .i64 z.num) rfl
  have xz1 := h10.cell (i := 4) rfl (j := 1) (v := .int .i64 (z.den : Nat)) rfl
  have y0 := fun o => keepA o xx0
  have y1 := fun o => keepA o xx1
  have y2 := fun o => keepA o xy0
  have y3 := fun o => keepA o xy1
  have y4 := fun o => keepA o xz0
  have y5 := fun o => keepA o xz1
  clear xx0 xx1 xy0 xy1 xz0 xz1 h10
  go_wp2_with fail
  have hrow : RowF (((w10.alloc (.cells #[.int .i64 g.num, .int .i64 (g.den : Nat)] 26)).alloc (.cells #[.int .i64 x.num, .int .i64 (x.den : Nat), .int .i64 y.num, .int .i64 (y.den : Nat), .int .i64 z.num, .int .i64 (z.den : Nat)] 26))) (w10.heap.size + 1) 0 [(x.num, (x.den : Int)), (y.num, (y.den : Int)), (z.num, (z.den : Int))] := by
    refine ⟨by simp, fun i n d hi => ?_, fun i n d hi => ?_⟩
    · rcases (by have := (List.getElem?_eq_some_iff.1 hi).1; simp at this; omega : i = 0 ∨ i = 1 ∨ i = 2) with rfl | rfl | rfl <;> cases hi
      · exact h11.cell (i := 0) rfl (j := 0) rfl
      · exact h11.cell (i := 0) rfl (j := 2) rfl
      · exact h11.cell (i := 0) rfl (j := 4) rfl
    · rcases (by have := (List.getElem?_eq_some_iff.1 hi).1; simp at this; omega : i = 0 ∨ i = 1 ∨ i = 2) with rfl | rfl | rfl <;> cases hi
      · exact h11.cell (i := 0) rfl (j := 1) rfl
      · exact h11.cell (i := 0) rfl (j := 3) rfl
      · exact h11.cell (i := 0) rfl (j := 5) rfl
  have hsum := sum_any (w10.heap.size + 1) 0 [(x.num, (x.den : Int)), (y.num, (y.den : Int)), (z.num, (z.den : Int))] 3 (by simp) (by
    intro o ho
    simp only [List.mem_cons, List.not_mem_nil, or_false] at ho
    rcases ho with rfl | rfl | rfl
    · exact FX.out.1
    · exact FX.out.2.1
    · exact FX.out.2.2) _ hrow
  rw [SU.out] at hsum
  refine hsum.mono ?_
  rintro e w12 ⟨rfl, hb⟩
  have h13 := (h11.keep hb).push 26 #[.int .i64 v.num, .int .i64 (v.den : Nat)]
  clear hb h11 hrow hsum y0 y1 y2 y3 y4 y5
  go_upto_region 19 with fail
  generalize w12.alloc (.cells #[.int .i64 v.num, .int .i64 (v.den : Nat)] 26) = W13 at *
  generalize w12.heap.size = B2 at *
  generalize w10.heap.size = B1 at *
  have xs0 := h13.cell (i := 0) rfl (j := 0) (v := .int .i64 v.num) rfl
  have xs1 := h13.cell (i := 0) rfl (j := 1) (v := .int .i64 (v.den : Nat)) rfl
  have xg0 := h13.cell (i := 2) rfl (j := 0) (v := .int .i64 g.num) rfl
  have xg1 := h13.cell (i := 2) rfl (j := 1) (v := .int .i64 (g.den : Nat)) rfl
  have h14 := h13.tail.tail.tail
  have hB13 := h13.below
  clear h13
  have xx0 := h14.cell (i := 6) rfl (j := 0) (v := .int .i64 x.num) rfl
  have xx1 := h14.cell (i := 6) rfl (j := 1) (v := .int .i64 (x.den : Nat)) rfl
  have xy0 := h14.cell (i := 5) rfl (j := 0) (v := .int .i64 y.num) rfl
  have xy1 := h14.cell (i := 5) rfl (j := 1) (v := .int .i64 (y.den : Nat)) rfl
  have xz0 := h14.cell (i := 4) rfl (j := 0) (v := .int .i64 z.num) rfl
  have xz1 := h14.cell (i := 4) rfl (j := 1) (v := .int .i64 (z.den : Nat)) rfl
  have x00 := h14.cell (i := 3) rfl (j := 0) (v := .int .i64 0) rfl
  have x01 := h14.cell (i := 3) rfl (j := 1) (v := .int .i64 1) rfl
  have xe0 := h14.cell (i := 1) rfl (j := 0) (v := .int .i64 0) rfl
  have kxx0 := Since.cell xx0
  have kxx1 := Since.cell xx1
  have kxy0 := Since.cell xy0
  have kxy1 := Since.cell xy1
  have kxz0 := Since.cell xz0
  have kxz1 := Since.cell xz1
  have kx00 := Since.cell x00
  have kx01 := Since.cell x01
  have kxe0 := Since.cell xe0
  have kxs0 := Since.cell xs0
  have kxs1 := Since.cell xs1
  have kxg0 := Since.cell xg0
  have kxg1 := Since.cell xg1
  clear xx0 xx1 xy0 xy1 xz0 xz1 x00 x01 xe0 xs0 xs1 xg0 xg1
  have H := Lib.hid hB13
  have HP := Lib.hid (h14.all _ (List.mem_cons_of_mem _ (List.mem_cons_self ..))).1
  clear h14 hB13
  refine region_since (by kernel_rfl) (by kernel_rfl) ?_
  repeat (quiet_step ((first | (go_at_call 29; (first | (with_reducible exact Calls.since (N1.out _ _ (HP.out.keep (Since.property _) HP.out.lt))) | (with_reducible exact Calls.since (K4.out _ _ (HP.out.keep (Since.property _) HP.out.lt))) | (with_reducible exact Calls.since (K5.out _ _ (HP.out.keep (Since.property _) HP.out.lt))))) | (go_at_call 21; exact Calls.since (RI.out _)))))
  refine wpQuiet_nil ?_
  rintro w' ⟨u, rfl⟩
  clear kxx0 kxx1 kxy0 kxy1 kxz0 kxz1 kx00 kx01 kxe0 kxs0 kxs1 kxg0 kxg1
  go_wp2_with fail
  go_ret
  exact ⟨rfl, bchain H.out u.property⟩
end Go.Proofs.YtfhkgpipbegpgaaDoor
