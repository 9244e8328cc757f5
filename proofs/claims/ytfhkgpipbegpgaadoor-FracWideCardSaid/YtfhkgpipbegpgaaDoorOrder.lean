/- FracOrder returns true. -/
import Derived.Test.YtfhkgpipbegpgaaDoorRR
import Derived.Deep.DeepCutAuto
namespace Go.Proofs.YtfhkgpipbegpgaaDoor
open Go Go.RowKit

theorem InvL.lts {w0 w : World} {l : List (Nat × TypeId × Array Value)} (h : InvL w0 w l) : ∀ x ∈ l, x.1 ≠ w.heap.size := fun x hx => by
  have := (h.all x hx).1.lt; omega
theorem InvL.setHead {w0 w : World} {l : List (Nat × TypeId × Array Value)} {p : Nat} {t : TypeId} {c : Array Value} (he : Env w0) (h : InvL w0 w ((p, t, c) :: l)) (hd : ∀ x ∈ l, x.1 ≠ p) (j : Nat) (v : Value) :
    InvL w0 (w.setCell ⟨p, j, none⟩ v) ((p, t, c.setIfInBounds j v) :: l) := by
  have hb : Below w0.heap.size w0 (w.setCell ⟨p, j, none⟩ v) := h.below.setCell (by simpa using h.base) _
  refine ⟨he.keep hb, hb, fun x hx => ?_⟩
  rcases List.mem_cons.1 hx with rfl | hx
  · exact ⟨h.head.set j v, h.base⟩
  · exact ⟨(h.all x (List.mem_cons_of_mem _ hx)).1.other (hd x hx) j v, (h.all x (List.mem_cons_of_mem _ hx)).2⟩
theorem cmp_RR (x y : Rat) (c : Int) (hx : fits x = true) (hy : fits y = true) (hc : cmpR x y = c) (w : World) :
    Calls Tryd.prog 13 #[.agg #[.int .i64 x.num, .int .i64 (x.den : Nat)], .agg #[.int .i64 y.num, .int .i64 (y.den : Nat)]] w (fun e w' => e = .returned (.tuple #[.int .i64 c, .int .i64 0]) ∧ Below w.heap.size w w') := by
  have := ocmp_ok x.num x.den y.num y.den (fb_R hx) (fb_R hy) (right_R x) (right_R y) w
  rw [toR_R, toR_R, hc] at this
  exact this
/-- The sign of a number. -/
def sg (n : Int) : Int := if 0 < n then 1 else if n < 0 then -1 else 0
theorem sg_pos {n : Int} (h : 0 < n) : sg n = 1 := by unfold sg; rw [if_pos h]
theorem sg_neg' {n : Int} (h : n < 0) : sg n = -1 := by unfold sg; rw [if_neg (by omega), if_pos h]
theorem sg_zero {n : Int} (h : n = 0) : sg n = 0 := by unfold sg; rw [if_neg (by omega), if_neg (by omega)]
theorem cmp_times (x y z : Rat) : cmpR (x * z) (y * z) = cmpR x y * sg z.num := by
  unfold sg
  by_cases h1 : 0 < z.num
  · rw [if_pos h1, cmp_mul_pos x y z ((num_pos z).1 h1), Int.mul_one]
  · rw [if_neg h1]
    by_cases h2 : z.num < 0
    · rw [if_pos h2, cmp_mul_neg x y z ((num_neg z).1 h2)]; omega
    · rw [if_neg h2]
      have hz : z = 0 := Rat.num_eq_zero.1 (by omega)
      rw [hz, Rat.mul_zero, Rat.mul_zero, cmp_self, Int.mul_zero]
theorem cmp_diff (x y : Rat) : cmpR x y = sg (x - y).num := cmp_sub x y
theorem cmp_range (x y : Rat) : cmpR x y = -1 ∨ cmpR x y = 0 ∨ cmpR x y = 1 := by
  unfold cmpR; repeat' split
  all_goals simp
set_option maxRecDepth 100000 in
set_option maxHeartbeats 8000000 in
theorem order_walk (a b c d m n : Int) (ha : -32768 ≤ a ∧ a ≤ 32767) (hb : -32768 ≤ b ∧ b ≤ 32767) (hc : -32768 ≤ c ∧ c ≤ 32767) (hd : -32768 ≤ d ∧ d ≤ 32767) (hm : -32768 ≤ m ∧ m ≤ 32767) (hn : -32768 ≤ n ∧ n ≤ 32767) (w : World) (he : Env w) :
    Calls Tryd.prog 4 #[.int .i16 a, .int .i16 b, .int .i16 c, .int .i16 d, .int .i16 m, .int .i16 n] w (RetBool true w) := by
  have SX := Lib.hid (fun w => some_any a b ha.1 ha.2 hb.1 hb.2 w)
  have SY := Lib.hid (fun w => some_any c d hc.1 hc.2 hd.1 hd.2 w)
  have SZ := Lib.hid (fun w => some_any m n hm.1 hm.2 hn.1 hn.2 w)
  obtain ⟨x, hx⟩ : ∃ x, someR a b = x := ⟨_, rfl⟩
  obtain ⟨y, hy⟩ : ∃ x, someR c d = x := ⟨_, rfl⟩
  obtain ⟨z, hz⟩ : ∃ x, someR m n = x := ⟨_, rfl⟩
  have bx : Bd x 32768 32768 := hx ▸ some_bd a b ha.1 ha.2
  have by_ : Bd y 32768 32768 := hy ▸ some_bd c d hc.1 hc.2
  have bz : Bd z 32768 32768 := hz ▸ some_bd m n hm.1 hm.2
  rw [hx] at SX
  rw [hy] at SY
  rw [hz] at SZ
  clear hx hy hz ha hb hc hd hm hn
  obtain ⟨k, hk⟩ : ∃ o, x - y = o := ⟨_, rfl⟩
  obtain ⟨s, hs⟩ : ∃ o, x + z = o := ⟨_, rfl⟩
  obtain ⟨t, ht⟩ : ∃ o, y + z = o := ⟨_, rfl⟩
  obtain ⟨u, hu⟩ : ∃ o, x * z = o := ⟨_, rfl⟩
  obtain ⟨v, hv⟩ : ∃ o, y * z = o := ⟨_, rfl⟩
  have f_x := bd_fits bx
  have f_y := bd_fits by_
  have f_z := bd_fits bz
  have f_k : fits k = true := hk ▸ (bx.sub by_).fits (by decide) (by decide)
  have f_s : fits s = true := hs ▸ (bx.add bz).fits (by decide) (by decide)
  have f_t : fits t = true := ht ▸ (by_.add bz).fits (by decide) (by decide)
  have f_u : fits u = true := hu ▸ (bx.mul bz).fits (by decide) (by decide)
  have f_v : fits v = true := hv ▸ (by_.mul bz).fits (by decide) (by decide)
  obtain ⟨p, hp⟩ : ∃ o, cmpR x y = o := ⟨_, rfl⟩
  obtain ⟨q, hq⟩ : ∃ o, cmpR y z = o := ⟨_, rfl⟩
  obtain ⟨r, hr⟩ : ∃ o, cmpR x z = o := ⟨_, rfl⟩
  obtain ⟨g, hg⟩ : ∃ o, cmpR y x = o := ⟨_, rfl⟩
  obtain ⟨i, hi⟩ : ∃ o, cmpR u v = o := ⟨_, rfl⟩
  have C1 := Lib.hid (fun w => cmp_RR x y p f_x f_y hp w)
  have C2 := Lib.hid (fun w => cmp_RR y z q f_y f_z hq w)
  have C3 := Lib.hid (fun w => cmp_RR x z r f_x f_z hr w)
  have C4 := Lib.hid (fun w => cmp_RR y x g f_y f_x hg w)
  have O1 := Lib.hid (fun w => sub_RR x y k f_x f_y hk f_k w)
  have O2 := Lib.hid (fun w => add_RR x z s f_x f_z hs f_s w)
  have O3 := Lib.hid (fun w => add_RR y z t f_y f_z ht f_t w)
  have C5 := Lib.hid (fun w => cmp_RR s t p f_s f_t (by rw [← hs, ← ht, cmp_add]; exact hp) w)
  have O4 := Lib.hid (fun w => mul_RR x z u f_x f_z hu f_u w)
  have O5 := Lib.hid (fun w => mul_RR y z v f_y f_z hv f_v w)
  have C6 := Lib.hid (fun w => cmp_RR u v i f_u f_v hi w)
  have P1 := Lib.hid (show g = -p by rw [← hg, ← hp]; exact cmp_back x y)
  have P2 := Lib.hid (show i = p * sg z.num by rw [← hi, ← hu, ← hv, cmp_times, hp])
  have P3 := Lib.hid (show p = sg k.num by rw [← hp, ← hk]; exact cmp_diff x y)
  have P4 := Lib.hid (show p = q → r = p from fun h => by rw [← hr, ← hp]; exact cmp_trans x y z (by rw [hp, hq, h]))
  have P5 := Lib.hid (show p = 0 ↔ x = y by rw [← hp]; exact cmp_zero)
  have P6 := Lib.hid (show p = -1 ∨ p = 0 ∨ p = 1 by rw [← hp]; exact cmp_range x y)
  clear hk hs ht hu hv hp hq hr hg hi f_x f_y f_z f_k f_s f_t f_u f_v bx by_ bz
  have HE0 := Lib.hid he
  have h0 := InvL.start he
  clear he
  go_enter Tryd.func4, Tryd.ntmps4
  go_wp2_with fail
  refine (invV (fun w hw => (awake_any w hw)) h0).mono ?_
  rintro e w1 ⟨rfl, h1⟩
  clear h0
  go_wp2_with fail
  refine (invV (fun w _ => SX.out w) h1).mono ?_
  rintro e w2 ⟨rfl, h2⟩
  clear h1
  go_wp2_with fail
  refine (invV (fun w _ => SY.out w) h2).mono ?_
  rintro e w3 ⟨rfl, h3⟩
  clear h2
  go_wp2_with fail
  refine (invV (fun w _ => SZ.out w) h3).mono ?_
  rintro e w4 ⟨rfl, h4⟩
  clear h3
  have h5 := ((h4.push 26 #[.int .i64 x.num, .int .i64 (x.den : Nat)]).push 26 #[.int .i64 y.num, .int .i64 (y.den : Nat)]).push 26 #[.int .i64 z.num, .int .i64 (z.den : Nat)]
  simp only [size_al] at h5
  clear h4 SX SY SZ
  go_upto_region 4 with fail
  generalize ((w4.alloc (.cells #[.int .i64 x.num, .int .i64 (x.den : Nat)] 26)).alloc (.cells #[.int .i64 y.num, .int .i64 (y.den : Nat)] 26)).alloc (.cells #[.int .i64 z.num, .int .i64 (z.den : Nat)] 26) = W5 at *
  generalize w4.heap.size = B at *
  have xx0 := h5.cell (i := 2) rfl (j := 0) (v := .int .i64 x.num) rfl
  have xx1 := h5.cell (i := 2) rfl (j := 1) (v := .int .i64 (x.den : Nat)) rfl
  have xy0 := h5.cell (i := 1) rfl (j := 0) (v := .int .i64 y.num) rfl
  have xy1 := h5.cell (i := 1) rfl (j := 1) (v := .int .i64 (y.den : Nat)) rfl
  go_wp2_with fail
  refine (invV (fun w _ => C1.out w) h5).mono ?_
  rintro e w6 ⟨rfl, h6⟩
  clear xx0 xx1 xy0 xy1
  clear h5 C1
  have xy0 := h6.cell (i := 1) rfl (j := 0) (v := .int .i64 y.num) rfl
  have xy1 := h6.cell (i := 1) rfl (j := 1) (v := .int .i64 (y.den : Nat)) rfl
  have xz0 := h6.cell (i := 0) rfl (j := 0) (v := .int .i64 z.num) rfl
  have xz1 := h6.cell (i := 0) rfl (j := 1) (v := .int .i64 (z.den : Nat)) rfl
  go_wp2_with fail
  refine (invV (fun w _ => C2.out w) h6).mono ?_
  rintro e w7 ⟨rfl, h7⟩
  clear xy0 xy1 xz0 xz1
  clear h6 C2
  have xx0 := h7.cell (i := 2) rfl (j := 0) (v := .int .i64 x.num) rfl
  have xx1 := h7.cell (i := 2) rfl (j := 1) (v := .int .i64 (x.den : Nat)) rfl
  have xz0 := h7.cell (i := 0) rfl (j := 0) (v := .int .i64 z.num) rfl
  have xz1 := h7.cell (i := 0) rfl (j := 1) (v := .int .i64 (z.den : Nat)) rfl
  go_wp2_with fail
  refine (invV (fun w _ => C3.out w) h7).mono ?_
  rintro e w8 ⟨rfl, h8⟩
  clear xx0 xx1 xz0 xz1
  clear h7 C3
  have xy0 := h8.cell (i := 1) rfl (j := 0) (v := .int .i64 y.num) rfl
  have xy1 := h8.cell (i := 1) rfl (j := 1) (v := .int .i64 (y.den : Nat)) rfl
  have xx0 := h8.cell (i := 2) rfl (j := 0) (v := .int .i64 x.num) rfl
  have xx1 := h8.cell (i := 2) rfl (j := 1) (v := .int .i64 (x.den : Nat)) rfl
  go_wp2_with fail
  refine (invV (fun w _ => C4.out w) h8).mono ?_
  rintro e w9 ⟨rfl, h9⟩
  clear xy0 xy1 xx0 xx1
  clear h8 C4
  have xx0 := h9.cell (i := 2) rfl (j := 0) (v := .int .i64 x.num) rfl
  have xx1 := h9.cell (i := 2) rfl (j := 1) (v := .int .i64 (x.den : Nat)) rfl
  have xy0 := h9.cell (i := 1) rfl (j := 0) (v := .int .i64 y.num) rfl
  have xy1 := h9.cell (i := 1) rfl (j := 1) (v := .int .i64 (y.den : Nat)) rfl
  go_wp2_with fail
  refine (invV (fun w _ => O1.out w) h9).mono ?_
  rintro e w10 ⟨rfl, h10⟩
  clear xx0 xx1 xy0 xy1
  clear h9 O1
  have d10 := h10.lts
  have h11 := h10.push 26 #[.int .i64 k.num, .int .i64 (k.den : Nat)]
  clear h10
  have Dk := Lib.hid d10
  clear d10
  go_upto_region 9 with fail
  generalize w10.alloc (.cells #[.int .i64 k.num, .int .i64 (k.den : Nat)] 26) = W11 at *
  obtain ⟨pk, hpk⟩ : ∃ o, o = w10.heap.size := ⟨_, rfl⟩
  rw [← hpk] at h11 Dk ⊢
  clear hpk
  have xx0 := h11.cell (i := 3) rfl (j := 0) (v := .int .i64 x.num) rfl
  have xx1 := h11.cell (i := 3) rfl (j := 1) (v := .int .i64 (x.den : Nat)) rfl
  have xz0 := h11.cell (i := 1) rfl (j := 0) (v := .int .i64 z.num) rfl
  have xz1 := h11.cell (i := 1) rfl (j := 1) (v := .int .i64 (z.den : Nat)) rfl
  go_wp2_with fail
  refine (invV (fun w _ => O2.out w) h11).mono ?_
  rintro e w12 ⟨rfl, h12⟩
  clear xx0 xx1 xz0 xz1
  clear h11 O2
  have d12 := h12.lts
  have h13 := h12.push 26 #[.int .i64 s.num, .int .i64 (s.den : Nat)]
  clear h12
  have Ds := Lib.hid d12
  clear d12
  go_upto_region 10 with fail
  generalize w12.alloc (.cells #[.int .i64 s.num, .int .i64 (s.den : Nat)] 26) = W13 at *
  obtain ⟨ps, hps⟩ : ∃ o, o = w12.heap.size := ⟨_, rfl⟩
  rw [← hps] at h13 Ds ⊢
  clear hps
  have xy0 := h13.cell (i := 3) rfl (j := 0) (v := .int .i64 y.num) rfl
  have xy1 := h13.cell (i := 3) rfl (j := 1) (v := .int .i64 (y.den : Nat)) rfl
  have xz0 := h13.cell (i := 2) rfl (j := 0) (v := .int .i64 z.num) rfl
  have xz1 := h13.cell (i := 2) rfl (j := 1) (v := .int .i64 (z.den : Nat)) rfl
  go_wp2_with fail
  refine (invV (fun w _ => O3.out w) h13).mono ?_
  rintro e w14 ⟨rfl, h14⟩
  clear xy0 xy1 xz0 xz1
  clear h13 O3
  have d14 := h14.lts
  have h15 := h14.push 26 #[.int .i64 t.num, .int .i64 (t.den : Nat)]
  clear h14
  have Dt := Lib.hid d14
  clear d14
  go_upto_region 11 with fail
  generalize w14.alloc (.cells #[.int .i64 t.num, .int .i64 (t.den : Nat)] 26) = W15 at *
  obtain ⟨pt, hpt⟩ : ∃ o, o = w14.heap.size := ⟨_, rfl⟩
  rw [← hpt] at h15 Dt ⊢
  clear hpt
  have xs0 := h15.cell (i := 1) rfl (j := 0) (v := .int .i64 s.num) rfl
  have xs1 := h15.cell (i := 1) rfl (j := 1) (v := .int .i64 (s.den : Nat)) rfl
  have xt0 := h15.cell (i := 0) rfl (j := 0) (v := .int .i64 t.num) rfl
  have xt1 := h15.cell (i := 0) rfl (j := 1) (v := .int .i64 (t.den : Nat)) rfl
  go_wp2_with fail
  refine (invV (fun w _ => C5.out w) h15).mono ?_
  rintro e w16 ⟨rfl, h16⟩
  clear xs0 xs1 xt0 xt1
  clear h15 C5
  have xx0 := h16.cell (i := 5) rfl (j := 0) (v := .int .i64 x.num) rfl
  have xx1 := h16.cell (i := 5) rfl (j := 1) (v := .int .i64 (x.den : Nat)) rfl
  have xz0 := h16.cell (i := 3) rfl (j := 0) (v := .int .i64 z.num) rfl
  have xz1 := h16.cell (i := 3) rfl (j := 1) (v := .int .i64 (z.den : Nat)) rfl
  go_wp2_with fail
  refine (invV (fun w _ => O4.out w) h16).mono ?_
  rintro e w17 ⟨rfl, h17⟩
  clear xx0 xx1 xz0 xz1
  clear h16 O4
  have q0 := h17.free (i := 1) rfl 0
  have q1 := h17.free (i := 1) rfl 1
  have xs0 := h17.cell (i := 1) rfl (j := 0) (v := .int .i64 s.num) rfl
  have xs1 := h17.cell (i := 1) rfl (j := 1) (v := .int .i64 (s.den : Nat)) rfl
  have hs1 : InvL w w17 ((ps, 26, #[.int .i64 s.num, .int .i64 (s.den : Nat)]) :: [(pt, 26, #[.int .i64 t.num, .int .i64 (t.den : Nat)]), (pk, 26, #[.int .i64 k.num, .int .i64 (k.den : Nat)]), (B + 1 + 1, 26, #[.int .i64 z.num, .int .i64 (z.den : Nat)]), (B + 1, 26, #[.int .i64 y.num, .int .i64 (y.den : Nat)]), (B, 26, #[.int .i64 x.num, .int .i64 (x.den : Nat)])]) := h17.drop (by intro o ho; simp only [List.mem_cons, List.not_mem_nil, or_false] at ho ⊢; rcases ho with h | h | h | h | h | h <;> simp [h])
  have hds : ∀ o ∈ ([(pt, 26, #[.int .i64 t.num, .int .i64 (t.den : Nat)]), (pk, 26, #[.int .i64 k.num, .int .i64 (k.den : Nat)]), (B + 1 + 1, 26, #[.int .i64 z.num, .int .i64 (z.den : Nat)]), (B + 1, 26, #[.int .i64 y.num, .int .i64 (y.den : Nat)]), (B, 26, #[.int .i64 x.num, .int .i64 (x.den : Nat)])] : List (Nat × TypeId × Array Value)), o.1 ≠ ps := by
    intro o ho
    rcases List.mem_cons.1 ho with h | h
    · rw [h]; exact fun e => Dt.out (ps, 26, #[.int .i64 s.num, .int .i64 (s.den : Nat)]) (List.mem_cons_self ..) e.symm
    · exact Ds.out o h
  have h18 := (hs1.setHead HE0.out hds 0 (.int .i64 u.num)).setHead HE0.out hds 1 (.int .i64 (u.den : Nat))
  clear h17 hs1 hds
  go_upto_region 13 with fail
  clear q0 q1 xs0 xs1
  generalize (w17.setCell ⟨ps, 0, none⟩ (.int .i64 u.num)).setCell ⟨ps, 1, none⟩ (.int .i64 (u.den : Nat)) = W18 at *
  have h18 : InvL w W18 [(ps, 26, #[.int .i64 u.num, .int .i64 (u.den : Nat)]), (pt, 26, #[.int .i64 t.num, .int .i64 (t.den : Nat)]), (pk, 26, #[.int .i64 k.num, .int .i64 (k.den : Nat)]), (B + 1 + 1, 26, #[.int .i64 z.num, .int .i64 (z.den : Nat)]), (B + 1, 26, #[.int .i64 y.num, .int .i64 (y.den : Nat)]), (B, 26, #[.int .i64 x.num, .int .i64 (x.den : Nat)])] := h18
  have xy0 := h18.cell (i := 4) rfl (j := 0) (v := .int .i64 y.num) rfl
  have xy1 := h18.cell (i := 4) rfl (j := 1) (v := .int .i64 (y.den : Nat)) rfl
  have xz0 := h18.cell (i := 3) rfl (j := 0) (v := .int .i64 z.num) rfl
  have xz1 := h18.cell (i := 3) rfl (j := 1) (v := .int .i64 (z.den : Nat)) rfl
  go_wp2_with fail
  refine (invV (fun w _ => O5.out w) h18).mono ?_
  rintro e w19 ⟨rfl, h19⟩
  clear xy0 xy1 xz0 xz1
  clear h18 O5
  have q0 := h19.free (i := 1) rfl 0
  have q1 := h19.free (i := 1) rfl 1
  have xt0 := h19.cell (i := 1) rfl (j := 0) (v := .int .i64 t.num) rfl
  have xt1 := h19.cell (i := 1) rfl (j := 1) (v := .int .i64 (t.den : Nat)) rfl
  have hs1 : InvL w w19 ((pt, 26, #[.int .i64 t.num, .int .i64 (t.den : Nat)]) :: [(ps, 26, #[.int .i64 u.num, .int .i64 (u.den : Nat)]), (pk, 26, #[.int .i64 k.num, .int .i64 (k.den : Nat)]), (B + 1 + 1, 26, #[.int .i64 z.num, .int .i64 (z.den : Nat)]), (B + 1, 26, #[.int .i64 y.num, .int .i64 (y.den : Nat)]), (B, 26, #[.int .i64 x.num, .int .i64 (x.den : Nat)])]) := h19.drop (by intro o ho; simp only [List.mem_cons, List.not_mem_nil, or_false] at ho ⊢; rcases ho with h | h | h | h | h | h <;> simp [h])
  have hds : ∀ o ∈ ([(ps, 26, #[.int .i64 u.num, .int .i64 (u.den : Nat)]), (pk, 26, #[.int .i64 k.num, .int .i64 (k.den : Nat)]), (B + 1 + 1, 26, #[.int .i64 z.num, .int .i64 (z.den : Nat)]), (B + 1, 26, #[.int .i64 y.num, .int .i64 (y.den : Nat)]), (B, 26, #[.int .i64 x.num, .int .i64 (x.den : Nat)])] : List (Nat × TypeId × Array Value)), o.1 ≠ pt := by
    intro o ho
    rcases List.mem_cons.1 ho with h | h
    · rw [h]; exact Dt.out (ps, 26, #[.int .i64 s.num, .int .i64 (s.den : Nat)]) (List.mem_cons_self ..)
    · exact Dt.out o (List.mem_cons_of_mem _ h)
  have h20 := (hs1.setHead HE0.out hds 0 (.int .i64 v.num)).setHead HE0.out hds 1 (.int .i64 (v.den : Nat))
  clear h19 hs1 hds
  go_upto_region 14 with fail
  clear q0 q1 xt0 xt1
  generalize (w19.setCell ⟨pt, 0, none⟩ (.int .i64 v.num)).setCell ⟨pt, 1, none⟩ (.int .i64 (v.den : Nat)) = W20 at *
  have h20 : InvL w W20 [(pt, 26, #[.int .i64 v.num, .int .i64 (v.den : Nat)]), (ps, 26, #[.int .i64 u.num, .int .i64 (u.den : Nat)]), (pk, 26, #[.int .i64 k.num, .int .i64 (k.den : Nat)]), (B + 1 + 1, 26, #[.int .i64 z.num, .int .i64 (z.den : Nat)]), (B + 1, 26, #[.int .i64 y.num, .int .i64 (y.den : Nat)]), (B, 26, #[.int .i64 x.num, .int .i64 (x.den : Nat)])] := h20
  have xu0 := h20.cell (i := 1) rfl (j := 0) (v := .int .i64 u.num) rfl
  have xu1 := h20.cell (i := 1) rfl (j := 1) (v := .int .i64 (u.den : Nat)) rfl
  have xv0 := h20.cell (i := 0) rfl (j := 0) (v := .int .i64 v.num) rfl
  have xv1 := h20.cell (i := 0) rfl (j := 1) (v := .int .i64 (v.den : Nat)) rfl
  go_wp2_with fail
  refine (invV (fun w _ => C6.out w) h20).mono ?_
  rintro e w21 ⟨rfl, h21⟩
  clear xu0 xu1 xv0 xv1
  clear h20 C6
  have xk0 := h21.cell (i := 2) rfl (j := 0) (v := .int .i64 k.num) rfl
  have xk1 := h21.cell (i := 2) rfl (j := 1) (v := .int .i64 (k.den : Nat)) rfl
  have xz0 := h21.cell (i := 3) rfl (j := 0) (v := .int .i64 z.num) rfl
  have xz1 := h21.cell (i := 3) rfl (j := 1) (v := .int .i64 (z.den : Nat)) rfl
  have xx0 := h21.cell (i := 5) rfl (j := 0) (v := .int .i64 x.num) rfl
  have xx1 := h21.cell (i := 5) rfl (j := 1) (v := .int .i64 (x.den : Nat)) rfl
  have xy0 := h21.cell (i := 4) rfl (j := 0) (v := .int .i64 y.num) rfl
  have xy1 := h21.cell (i := 4) rfl (j := 1) (v := .int .i64 (y.den : Nat)) rfl
  have hB := h21.below
  clear h21
  go_upto_region 16 with fail
  clear Dk Ds Dt
  have P7 := P5.out
  rcases (by omega : 0 < k.num ∨ k.num < 0 ∨ k.num = 0) with hk | hk | hk
  · have t1 : decide (0 < k.num) = true := decide_eq_true (by omega)
    have t2 : decide (k.num < 0) = false := decide_eq_false (by omega)
    obtain rfl : p = 1 := P3.out.trans (sg_pos hk)
    clear hk
    obtain rfl : g = -1 := by have := P1.out; omega
    have hne : ¬ x = y := fun h => by have := P7.2 h; omega
    by_cases hnum : x.num = y.num
    · have n1 : (x.num == y.num) = true := by simpa using hnum
      have n2 : ((x.den : Int) == (y.den : Int)) = false := by
        simp only [beq_eq_false_iff_ne, ne_eq]
        intro h
        exact hne (Rat.ext hnum (by omega))
      clear hnum hne
      rcases (by omega : 0 < z.num ∨ z.num < 0 ∨ z.num = 0) with hz | hz | hz
      · have u1 : decide (0 < z.num) = true := decide_eq_true (by omega)
        have u2 : decide (z.num < 0) = false := decide_eq_false (by omega)
        obtain rfl : i = 1 := by rw [P2.out, sg_pos hz]; rfl
        clear hz
        clear P1 P2 P3 P5 P6 P7
        go_upto_region 27 with fail
        by_cases hq : q = 1
        · obtain rfl : r = 1 := P4.out hq.symm
          subst hq
          clear P4
          go_wp2
          go_ret
          exact ⟨rfl, hB⟩
        · have v1 : ((1 : Int) == q) = false := by simp; omega
          have v2 : ((1 : Int) != q) = true := by simp; omega
          clear hq P4
          go_wp2
          go_ret
          exact ⟨rfl, hB⟩
      · have u1 : decide (0 < z.num) = false := decide_eq_false (by omega)
        have u2 : decide (z.num < 0) = true := decide_eq_true (by omega)
        obtain rfl : i = -1 := by rw [P2.out, sg_neg' hz]; rfl
        clear hz
        clear P1 P2 P3 P5 P6 P7
        go_upto_region 27 with fail
        by_cases hq : q = 1
        · obtain rfl : r = 1 := P4.out hq.symm
          subst hq
          clear P4
          go_wp2
          go_ret
          exact ⟨rfl, hB⟩
        · have v1 : ((1 : Int) == q) = false := by simp; omega
          have v2 : ((1 : Int) != q) = true := by simp; omega
          clear hq P4
          go_wp2
          go_ret
          exact ⟨rfl, hB⟩
      · have u1 : decide (0 < z.num) = false := decide_eq_false (by omega)
        have u2 : decide (z.num < 0) = false := decide_eq_false (by omega)
        obtain rfl : i = 0 := by rw [P2.out, sg_zero hz]; rfl
        clear hz
        clear P1 P2 P3 P5 P6 P7
        go_upto_region 27 with fail
        by_cases hq : q = 1
        · obtain rfl : r = 1 := P4.out hq.symm
          subst hq
          clear P4
          go_wp2
          go_ret
          exact ⟨rfl, hB⟩
        · have v1 : ((1 : Int) == q) = false := by simp; omega
          have v2 : ((1 : Int) != q) = true := by simp; omega
          clear hq P4
          go_wp2
          go_ret
          exact ⟨rfl, hB⟩
    · have n1 : (x.num == y.num) = false := by simpa using hnum
      clear hnum hne
      rcases (by omega : 0 < z.num ∨ z.num < 0 ∨ z.num = 0) with hz | hz | hz
      · have u1 : decide (0 < z.num) = true := decide_eq_true (by omega)
        have u2 : decide (z.num < 0) = false := decide_eq_false (by omega)
        obtain rfl : i = 1 := by rw [P2.out, sg_pos hz]; rfl
        clear hz
        clear P1 P2 P3 P5 P6 P7
        go_upto_region 27 with fail
        by_cases hq : q = 1
        · obtain rfl : r = 1 := P4.out hq.symm
          subst hq
          clear P4
          go_wp2
          go_ret
          exact ⟨rfl, hB⟩
        · have v1 : ((1 : Int) == q) = false := by simp; omega
          have v2 : ((1 : Int) != q) = true := by simp; omega
          clear hq P4
          go_wp2
          go_ret
          exact ⟨rfl, hB⟩
      · have u1 : decide (0 < z.num) = false := decide_eq_false (by omega)
        have u2 : decide (z.num < 0) = true := decide_eq_true (by omega)
        obtain rfl : i = -1 := by rw [P2.out, sg_neg' hz]; rfl
        clear hz
        clear P1 P2 P3 P5 P6 P7
        go_upto_region 27 with fail
        by_cases hq : q = 1
        · obtain rfl : r = 1 := P4.out hq.symm
          subst hq
          clear P4
          go_wp2
          go_ret
          exact ⟨rfl, hB⟩
        · have v1 : ((1 : Int) == q) = false := by simp; omega
          have v2 : ((1 : Int) != q) = true := by simp; omega
          clear hq P4
          go_wp2
          go_ret
          exact ⟨rfl, hB⟩
      · have u1 : decide (0 < z.num) = false := decide_eq_false (by omega)
        have u2 : decide (z.num < 0) = false := decide_eq_false (by omega)
        obtain rfl : i = 0 := by rw [P2.out, sg_zero hz]; rfl
        clear hz
        clear P1 P2 P3 P5 P6 P7
        go_upto_region 27 with fail
        by_cases hq : q = 1
        · obtain rfl : r = 1 := P4.out hq.symm
          subst hq
          clear P4
          go_wp2
          go_ret
          exact ⟨rfl, hB⟩
        · have v1 : ((1 : Int) == q) = false := by simp; omega
          have v2 : ((1 : Int) != q) = true := by simp; omega
          clear hq P4
          go_wp2
          go_ret
          exact ⟨rfl, hB⟩
  · have t1 : decide (0 < k.num) = false := decide_eq_false (by omega)
    have t2 : decide (k.num < 0) = true := decide_eq_true (by omega)
    obtain rfl : p = -1 := P3.out.trans (sg_neg' hk)
    clear hk
    obtain rfl : g = 1 := by have := P1.out; omega
    have hne : ¬ x = y := fun h => by have := P7.2 h; omega
    by_cases hnum : x.num = y.num
    · have n1 : (x.num == y.num) = true := by simpa using hnum
      have n2 : ((x.den : Int) == (y.den : Int)) = false := by
        simp only [beq_eq_false_iff_ne, ne_eq]
        intro h
        exact hne (Rat.ext hnum (by omega))
      clear hnum hne
      rcases (by omega : 0 < z.num ∨ z.num < 0 ∨ z.num = 0) with hz | hz | hz
      · have u1 : decide (0 < z.num) = true := decide_eq_true (by omega)
        have u2 : decide (z.num < 0) = false := decide_eq_false (by omega)
        obtain rfl : i = -1 := by rw [P2.out, sg_pos hz]; rfl
        clear hz
        clear P1 P2 P3 P5 P6 P7
        go_upto_region 27 with fail
        by_cases hq : q = -1
        · obtain rfl : r = -1 := P4.out hq.symm
          subst hq
          clear P4
          go_wp2
          go_ret
          exact ⟨rfl, hB⟩
        · have v1 : ((-1 : Int) == q) = false := by simp; omega
          have v2 : ((-1 : Int) != q) = true := by simp; omega
          clear hq P4
          go_wp2
          go_ret
          exact ⟨rfl, hB⟩
      · have u1 : decide (0 < z.num) = false := decide_eq_false (by omega)
        have u2 : decide (z.num < 0) = true := decide_eq_true (by omega)
        obtain rfl : i = 1 := by rw [P2.out, sg_neg' hz]; rfl
        clear hz
        clear P1 P2 P3 P5 P6 P7
        go_upto_region 27 with fail
        by_cases hq : q = -1
        · obtain rfl : r = -1 := P4.out hq.symm
          subst hq
          clear P4
          go_wp2
          go_ret
          exact ⟨rfl, hB⟩
        · have v1 : ((-1 : Int) == q) = false := by simp; omega
          have v2 : ((-1 : Int) != q) = true := by simp; omega
          clear hq P4
          go_wp2
          go_ret
          exact ⟨rfl, hB⟩
      · have u1 : decide (0 < z.num) = false := decide_eq_false (by omega)
        have u2 : decide (z.num < 0) = false := decide_eq_false (by omega)
        obtain rfl : i = 0 := by rw [P2.out, sg_zero hz]; rfl
        clear hz
        clear P1 P2 P3 P5 P6 P7
        go_upto_region 27 with fail
        by_cases hq : q = -1
        · obtain rfl : r = -1 := P4.out hq.symm
          subst hq
          clear P4
          go_wp2
          go_ret
          exact ⟨rfl, hB⟩
        · have v1 : ((-1 : Int) == q) = false := by simp; omega
          have v2 : ((-1 : Int) != q) = true := by simp; omega
          clear hq P4
          go_wp2
          go_ret
          exact ⟨rfl, hB⟩
    · have n1 : (x.num == y.num) = false := by simpa using hnum
      clear hnum hne
      rcases (by omega : 0 < z.num ∨ z.num < 0 ∨ z.num = 0) with hz | hz | hz
      · have u1 : decide (0 < z.num) = true := decide_eq_true (by omega)
        have u2 : decide (z.num < 0) = false := decide_eq_false (by omega)
        obtain rfl : i = -1 := by rw [P2.out, sg_pos hz]; rfl
        clear hz
        clear P1 P2 P3 P5 P6 P7
        go_upto_region 27 with fail
        by_cases hq : q = -1
        · obtain rfl : r = -1 := P4.out hq.symm
          subst hq
          clear P4
          go_wp2
          go_ret
          exact ⟨rfl, hB⟩
        · have v1 : ((-1 : Int) == q) = false := by simp; omega
          have v2 : ((-1 : Int) != q) = true := by simp; omega
          clear hq P4
          go_wp2
          go_ret
          exact ⟨rfl, hB⟩
      · have u1 : decide (0 < z.num) = false := decide_eq_false (by omega)
        have u2 : decide (z.num < 0) = true := decide_eq_true (by omega)
        obtain rfl : i = 1 := by rw [P2.out, sg_neg' hz]; rfl
        clear hz
        clear P1 P2 P3 P5 P6 P7
        go_upto_region 27 with fail
        by_cases hq : q = -1
        · obtain rfl : r = -1 := P4.out hq.symm
          subst hq
          clear P4
          go_wp2
          go_ret
          exact ⟨rfl, hB⟩
        · have v1 : ((-1 : Int) == q) = false := by simp; omega
          have v2 : ((-1 : Int) != q) = true := by simp; omega
          clear hq P4
          go_wp2
          go_ret
          exact ⟨rfl, hB⟩
      · have u1 : decide (0 < z.num) = false := decide_eq_false (by omega)
        have u2 : decide (z.num < 0) = false := decide_eq_false (by omega)
        obtain rfl : i = 0 := by rw [P2.out, sg_zero hz]; rfl
        clear hz
        clear P1 P2 P3 P5 P6 P7
        go_upto_region 27 with fail
        by_cases hq : q = -1
        · obtain rfl : r = -1 := P4.out hq.symm
          subst hq
          clear P4
          go_wp2
          go_ret
          exact ⟨rfl, hB⟩
        · have v1 : ((-1 : Int) == q) = false := by simp; omega
          have v2 : ((-1 : Int) != q) = true := by simp; omega
          clear hq P4
          go_wp2
          go_ret
          exact ⟨rfl, hB⟩
  · have t1 : decide (0 < k.num) = false := decide_eq_false (by omega)
    have t2 : decide (k.num < 0) = false := decide_eq_false (by omega)
    obtain rfl : p = 0 := P3.out.trans (sg_zero hk)
    clear hk
    obtain rfl : g = 0 := by have := P1.out; omega
    obtain rfl : x = y := P7.1 rfl
    rcases (by omega : 0 < z.num ∨ z.num < 0 ∨ z.num = 0) with hz | hz | hz
    · have u1 : decide (0 < z.num) = true := decide_eq_true (by omega)
      have u2 : decide (z.num < 0) = false := decide_eq_false (by omega)
      obtain rfl : i = 0 := by rw [P2.out, sg_pos hz]; rfl
      clear hz
      clear P1 P2 P3 P5 P6 P7
      go_upto_region 27 with fail
      by_cases hq : q = 0
      · obtain rfl : r = 0 := P4.out hq.symm
        subst hq
        clear P4
        go_wp2
        go_ret
        exact ⟨rfl, hB⟩
      · have v1 : ((0 : Int) == q) = false := by simp; omega
        have v2 : ((0 : Int) != q) = true := by simp; omega
        clear hq P4
        go_wp2
        go_ret
        exact ⟨rfl, hB⟩
    · have u1 : decide (0 < z.num) = false := decide_eq_false (by omega)
      have u2 : decide (z.num < 0) = true := decide_eq_true (by omega)
      obtain rfl : i = 0 := by rw [P2.out, sg_neg' hz]; rfl
      clear hz
      clear P1 P2 P3 P5 P6 P7
      go_upto_region 27 with fail
      by_cases hq : q = 0
      · obtain rfl : r = 0 := P4.out hq.symm
        subst hq
        clear P4
        go_wp2
        go_ret
        exact ⟨rfl, hB⟩
      · have v1 : ((0 : Int) == q) = false := by simp; omega
        have v2 : ((0 : Int) != q) = true := by simp; omega
        clear hq P4
        go_wp2
        go_ret
        exact ⟨rfl, hB⟩
    · have u1 : decide (0 < z.num) = false := decide_eq_false (by omega)
      have u2 : decide (z.num < 0) = false := decide_eq_false (by omega)
      obtain rfl : i = 0 := by rw [P2.out, sg_zero hz]; rfl
      clear hz
      clear P1 P2 P3 P5 P6 P7
      go_upto_region 27 with fail
      by_cases hq : q = 0
      · obtain rfl : r = 0 := P4.out hq.symm
        subst hq
        clear P4
        go_wp2
        go_ret
        exact ⟨rfl, hB⟩
      · have v1 : ((0 : Int) == q) = false := by simp; omega
        have v2 : ((0 : Int) != q) = true := by simp; omega
        clear hq P4
        go_wp2
        go_ret
        exact ⟨rfl, hB⟩
end Go.Proofs.YtfhkgpipbegpgaaDoor
