/- The program's and the reference's operations answer alike. The contract of tells. -/
import Derived.Test.YtfhkgpipbegpgaaGreatDoorNearM
import Derived.Test.YtfhkgpipbegpgaaGreatDoorSumM
import Derived.Test.YtfhkgpipbegpgaaGreatDoorRefS
import Derived.Test.YtfhkgpipbegpgaaGreatDoorRound
import Derived.Test.YtfhkgpipbegpgaaGreatDoorOps3
import Derived.Test.YtfhkgpipbegpgaaGreatDoorOps2
import Derived.Test.YtfhkgpipbegpgaaGreatDoorTxt
import Derived.Test.YtfhkgpipbegpgaaGreatDoorInv
import Derived.Deep.DeepCutAuto
namespace Go.Proofs.YtfhkgpipbegpgaaGreatDoor
open Go Go.RowKit

/-- Two functions answer alike at the same arguments. -/
def Alike (f g : FuncId) (args : Array Value) (v : Value) : Prop :=
  (∀ w, Env w → Calls Tryz.prog f args w (fun e w' => e = .returned v ∧ Below w.heap.size w w')) ∧
  ∀ w, Env w → Calls Tryz.prog g args w (fun e w' => e = .returned v ∧ Below w.heap.size w w')
theorem Alike.one {f g : FuncId} {args : Array Value} {v : Value} (h : Alike f g args v) {w0 w : World} {l : List (Nat × TypeId × Array Value)} (hi : InvL w0 w l) :
    Calls Tryz.prog f args w (fun e w' => e = .returned v ∧ InvL w0 w' l) := invV h.1 hi
theorem Alike.two {f g : FuncId} {args : Array Value} {v : Value} (h : Alike f g args v) {w0 w : World} {l : List (Nat × TypeId × Array Value)} (hi : InvL w0 w l) :
    Calls Tryz.prog g args w (fun e w' => e = .returned v ∧ InvL w0 w' l) := invV h.2 hi
theorem zero_den {k : Int} (h : rightB 0 k = true) : k = 1 := by
  have := right_pos h
  unfold rightB at h
  simp only [Bool.and_eq_true, beq_iff_eq, Int.natAbs_zero, Nat.gcd_zero_left] at h
  omega
theorem bool_cases (b : Bool) : b = true ∨ b = false := by cases b <;> simp
theorem alike_add (n d m k : Int) (hf : FB n d) (hg : FB m k) : ∃ a b c, Alike 12 17 #[.agg #[.int .i64 n, .int .i64 d], .agg #[.int .i64 m, .int .i64 k]] (.tuple #[.agg #[.int .i64 a, .int .i64 b], .int .i64 c]) := by
  rcases bool_cases (rightB n d) with h | h
  · rcases bool_cases (rightB m k) with h' | h'
    · exact ⟨_, _, _, fun w _ => oadd_ok n d m k hf hg h h' w, fun w _ => radd_ok n d m k hf hg h h' w⟩
    · exact ⟨_, _, _, fun w _ => oadd_bad2 n d m k hf hg h h' w, fun w _ => radd_bad2 n d m k hf hg h h' w⟩
  · exact ⟨_, _, _, fun w _ => oadd_bad1 n d m k hf h w, fun w _ => radd_bad1 n d m k hf h w⟩
theorem alike_sub (n d m k : Int) (hf : FB n d) (hg : FB m k) : ∃ a b c, Alike 13 18 #[.agg #[.int .i64 n, .int .i64 d], .agg #[.int .i64 m, .int .i64 k]] (.tuple #[.agg #[.int .i64 a, .int .i64 b], .int .i64 c]) := by
  rcases bool_cases (rightB n d) with h | h
  · rcases bool_cases (rightB m k) with h' | h'
    · exact ⟨_, _, _, fun w _ => osub_ok n d m k hf hg h h' w, fun w _ => rsub_ok n d m k hf hg h h' w⟩
    · exact ⟨_, _, _, fun w _ => osub_bad2 n d m k hf hg h h' w, fun w _ => rsub_bad2 n d m k hf hg h h' w⟩
  · exact ⟨_, _, _, fun w _ => osub_bad1 n d m k hf h w, fun w _ => rsub_bad1 n d m k hf h w⟩
theorem alike_mul (n d m k : Int) (hf : FB n d) (hg : FB m k) : ∃ a b c, Alike 14 19 #[.agg #[.int .i64 n, .int .i64 d], .agg #[.int .i64 m, .int .i64 k]] (.tuple #[.agg #[.int .i64 a, .int .i64 b], .int .i64 c]) := by
  rcases bool_cases (rightB n d) with h | h
  · rcases bool_cases (rightB m k) with h' | h'
    · exact ⟨_, _, _, fun w _ => omul_ok n d m k hf hg h h' w, fun w _ => rmul_ok n d m k hf hg h h' w⟩
    · exact ⟨_, _, _, fun w _ => omul_bad2 n d m k hf hg h h' w, fun w _ => rmul_bad2 n d m k hf hg h h' w⟩
  · exact ⟨_, _, _, fun w _ => omul_bad1 n d m k hf h w, fun w _ => rmul_bad1 n d m k hf h w⟩
theorem alike_div (n d m k : Int) (hf : FB n d) (hg : FB m k) : ∃ a b c, Alike 15 20 #[.agg #[.int .i64 n, .int .i64 d], .agg #[.int .i64 m, .int .i64 k]] (.tuple #[.agg #[.int .i64 a, .int .i64 b], .int .i64 c]) := by
  rcases bool_cases (rightB n d) with h | h
  · rcases bool_cases (rightB m k) with h' | h'
    · by_cases hm : m = 0
      · subst hm
        obtain rfl := zero_den h'
        exact ⟨_, _, _, fun w _ => odiv_zero n d hf h w, fun w _ => rdiv_zero n d 0 1 hf hg h h' rfl w⟩
      · exact ⟨_, _, _, fun w _ => odiv_ok n d m k hf hg h h' hm w, fun w _ => rdiv_ok n d m k hf hg h h' hm w⟩
    · exact ⟨_, _, _, fun w _ => odiv_bad2 n d m k hf hg h h' w, fun w _ => rdiv_bad2 n d m k hf hg h h' w⟩
  · exact ⟨_, _, _, fun w _ => odiv_bad1 n d m k hf h w, fun w _ => rdiv_bad1 n d m k hf h w⟩
theorem alike_neg (n d : Int) (hf : FB n d) : ∃ a b c, Alike 16 21 #[.agg #[.int .i64 n, .int .i64 d]] (.tuple #[.agg #[.int .i64 a, .int .i64 b], .int .i64 c]) := by
  rcases bool_cases (rightB n d) with h | h
  · exact ⟨_, _, _, fun w _ => oneg_ok n d hf h w, fun w _ => rneg_ok n d hf h w⟩
  · exact ⟨_, _, _, fun w _ => oneg_bad n d hf h w, fun w _ => rneg_bad n d hf h w⟩
theorem alike_cmp (n d m k : Int) (hf : FB n d) (hg : FB m k) : ∃ a c, Alike 22 23 #[.agg #[.int .i64 n, .int .i64 d], .agg #[.int .i64 m, .int .i64 k]] (.tuple #[.int .i64 a, .int .i64 c]) := by
  rcases bool_cases (rightB n d) with h | h
  · rcases bool_cases (rightB m k) with h' | h'
    · exact ⟨_, _, fun w _ => ocmp_ok n d m k hf hg h h' w, fun w _ => rcmp_ok n d m k hf hg h h' w⟩
    · exact ⟨_, _, fun w _ => ocmp_bad2 n d m k hf hg h h' w, fun w _ => rcmp_bad2 n d m k hf hg h h' w⟩
  · exact ⟨_, _, fun w _ => ocmp_bad1 n d m k hf h w, fun w _ => rcmp_bad1 n d m k hf h w⟩
theorem alike_near (n d : Int) (hf : FB n d) : ∃ a c, Alike 24 25 #[.agg #[.int .i64 n, .int .i64 d]] (.tuple #[.int .i64 a, .int .i64 c]) := by
  rcases bool_cases (rightB n d) with h | h
  · exact ⟨_, _, fun w _ => onear_ok n d hf h w, fun w _ => rnear_ok n d hf h w⟩
  · exact ⟨_, _, fun w _ => onear_bad n d hf h w, fun w _ => rnear_bad n d hf h w⟩
theorem alike_round (n d k : Int) (hf : FB n d) : ∃ s c, Alike 26 27 #[.agg #[.int .i64 n, .int .i64 d], .int .i64 k] (.tuple #[.string s, .int .i64 c]) := by
  rcases bool_cases (rightB n d) with h | h
  · by_cases hk : k < 0 ∨ 9 < k
    · exact ⟨_, _, fun w _ => oround_out n d k hf h hk w, fun w _ => rround_out n d k hf h hk w⟩
    · obtain ⟨j, rfl⟩ : ∃ j : Nat, k = j := ⟨k.toNat, by omega⟩
      have hj : j ≤ 9 := by omega
      exact ⟨_, _, fun w he => oround_ok n d j hj hf h w he, fun w _ => rround_ok n d j hj hf h w⟩
  · exact ⟨_, _, fun w _ => oround_bad n d k hf h w, fun w _ => rround_bad n d k hf h w⟩
theorem alike_text (n d : Int) (hf : FB n d) : ∃ s c, Alike 28 29 #[.agg #[.int .i64 n, .int .i64 d]] (.tuple #[.string s, .int .i64 c]) := by
  rcases bool_cases (rightB n d) with h | h
  · exact ⟨_, _, fun w he => otext_ok n d hf h w he, fun w _ => rtext_ok n d hf h w⟩
  · exact ⟨_, _, fun w _ => otext_bad n d hf h w, fun w _ => rtext_bad n d hf h w⟩
theorem alike_right (n d : Int) (hf : FB n d) : ∃ b, Alike 30 31 #[.agg #[.int .i64 n, .int .i64 d]] (.bool b) :=
  ⟨_, fun w _ => right_any n d hf.n0 hf.n1 hf.d0 hf.d1 w, fun w _ => rright_any n d hf w⟩
end Go.Proofs.YtfhkgpipbegpgaaGreatDoor
namespace Go.Proofs.YtfhkgpipbegpgaaGreatDoor
open Go Go.RowKit

theorem size_al (w : World) (o : Obj) : (w.alloc o).heap.size = w.heap.size + 1 := by simp
theorem size_ne {w : World} {o : Obj} {Q : Nat} {l : List (Nat × TypeId × Array Value)} (h : w.heap.size = Q) (hd : ∀ x ∈ l, x.1 ≠ (w.alloc o).heap.size) : ∀ x ∈ l, x.1 ≠ Q + 1 := fun x hx => by
  have := hd x hx; rw [size_al, h] at this; exact this
theorem InvL.lts {w0 w : World} {l : List (Nat × TypeId × Array Value)} (h : InvL w0 w l) : ∀ x ∈ l, x.1 ≠ w.heap.size := fun x hx => by
  have := (h.all x hx).1.lt; omega
theorem InvL.setHead {w0 w : World} {l : List (Nat × TypeId × Array Value)} {p : Nat} {t : TypeId} {c : Array Value} (he : Env w0) (h : InvL w0 w ((p, t, c) :: l)) (hd : ∀ x ∈ l, x.1 ≠ p) (j : Nat) (v : Value) :
    InvL w0 (w.setCell ⟨p, j, none⟩ v) ((p, t, c.setIfInBounds j v) :: l) := by
  have hb : Below w0.heap.size w0 (w.setCell ⟨p, j, none⟩ v) := h.below.setCell (by simpa using h.base) _
  refine ⟨he.keep hb, hb, fun x hx => ?_⟩
  rcases List.mem_cons.1 hx with rfl | hx
  · exact ⟨h.head.set j v, h.base⟩
  · exact ⟨(h.all x (List.mem_cons_of_mem _ hx)).1.other (hd x hx) j v, (h.all x (List.mem_cons_of_mem _ hx)).2⟩
set_option maxRecDepth 100000 in
set_option maxHeartbeats 8000000 in
theorem tells_any (n d m k p : Int) (hf : FB n d) (hg : FB m k) (w : World) (he : Env w) :
    Calls Tryz.prog 6 #[.agg #[.int .i64 n, .int .i64 d], .agg #[.int .i64 m, .int .i64 k], .int .i64 p] w (RetBool true w) := by
  obtain ⟨a0, a1, a2, HA⟩ := alike_add n d m k hf hg
  obtain ⟨b0, b1, b2, HB⟩ := alike_sub n d m k hf hg
  obtain ⟨c0, c1, c2, HC⟩ := alike_mul n d m k hf hg
  obtain ⟨d0, d1, d2, HD⟩ := alike_div n d m k hf hg
  obtain ⟨n0, n1, n2, HN⟩ := alike_neg n d hf
  obtain ⟨x0, x1, HX⟩ := alike_cmp n d m k hf hg
  obtain ⟨y0, y1, HY⟩ := alike_near n d hf
  obtain ⟨s0, s1, HS⟩ := alike_round n d p hf
  obtain ⟨t0, t1, HT⟩ := alike_text n d hf
  obtain ⟨r, HR⟩ := alike_right n d hf
  replace HA := Lib.hid HA
  replace HB := Lib.hid HB
  replace HC := Lib.hid HC
  replace HD := Lib.hid HD
  replace HN := Lib.hid HN
  replace HX := Lib.hid HX
  replace HY := Lib.hid HY
  replace HS := Lib.hid HS
  replace HT := Lib.hid HT
  replace HR := Lib.hid HR
  have HE := Lib.hid he
  have h0 := ((InvL.start he).push 23 #[.int .i64 n, .int .i64 d]).push 23 #[.int .i64 m, .int .i64 k]
  clear he hf hg
  go_enter Tryz.func6, Tryz.ntmps6
  go_upto_region 1 with fail
  simp only [size_al] at h0
  generalize (w.alloc (.cells #[.int .i64 n, .int .i64 d] 23)).alloc (.cells #[.int .i64 m, .int .i64 k] 23) = W0 at *
  generalize w.heap.size = P at *
  have xf0 := h0.cell (i := 1) rfl (j := 0) (v := .int .i64 n) rfl
  have xf1 := h0.cell (i := 1) rfl (j := 1) (v := .int .i64 d) rfl
  have xg0 := h0.cell (i := 0) rfl (j := 0) (v := .int .i64 m) rfl
  have xg1 := h0.cell (i := 0) rfl (j := 1) (v := .int .i64 k) rfl
  go_wp2_with fail
  refine (HA.out.one h0).mono ?_
  rintro e w1 ⟨rfl, k1⟩
  clear xf0 xf1 xg0 xg1 h0
  have h1 := k1.push 23 #[.int .i64 a0, .int .i64 a1]
  clear k1
  go_upto_region 2 with fail
  generalize w1.alloc (.cells #[.int .i64 a0, .int .i64 a1] 23) = W1 at *
  generalize w1.heap.size = pa at *
  have xf0 := h1.cell (i := 2) rfl (j := 0) (v := .int .i64 n) rfl
  have xf1 := h1.cell (i := 2) rfl (j := 1) (v := .int .i64 d) rfl
  have xg0 := h1.cell (i := 1) rfl (j := 0) (v := .int .i64 m) rfl
  have xg1 := h1.cell (i := 1) rfl (j := 1) (v := .int .i64 k) rfl
  go_wp2_with fail
  refine (HB.out.one h1).mono ?_
  rintro e w2 ⟨rfl, k2⟩
  clear xf0 xf1 xg0 xg1 h1
  have h2 := k2.push 23 #[.int .i64 b0, .int .i64 b1]
  clear k2
  go_upto_region 3 with fail
  generalize w2.alloc (.cells #[.int .i64 b0, .int .i64 b1] 23) = W2 at *
  generalize w2.heap.size = pb at *
  have xf0 := h2.cell (i := 3) rfl (j := 0) (v := .int .i64 n) rfl
  have xf1 := h2.cell (i := 3) rfl (j := 1) (v := .int .i64 d) rfl
  have xg0 := h2.cell (i := 2) rfl (j := 0) (v := .int .i64 m) rfl
  have xg1 := h2.cell (i := 2) rfl (j := 1) (v := .int .i64 k) rfl
  go_wp2_with fail
  refine (HC.out.one h2).mono ?_
  rintro e w3 ⟨rfl, k3⟩
  clear xf0 xf1 xg0 xg1 h2
  have h3 := k3.push 23 #[.int .i64 c0, .int .i64 c1]
  clear k3
  go_upto_region 4 with fail
  generalize w3.alloc (.cells #[.int .i64 c0, .int .i64 c1] 23) = W3 at *
  generalize w3.heap.size = pc at *
  have xf0 := h3.cell (i := 4) rfl (j := 0) (v := .int .i64 n) rfl
  have xf1 := h3.cell (i := 4) rfl (j := 1) (v := .int .i64 d) rfl
  have xg0 := h3.cell (i := 3) rfl (j := 0) (v := .int .i64 m) rfl
  have xg1 := h3.cell (i := 3) rfl (j := 1) (v := .int .i64 k) rfl
  go_wp2_with fail
  refine (HD.out.one h3).mono ?_
  rintro e w4 ⟨rfl, k4⟩
  clear xf0 xf1 xg0 xg1 h3
  have h4 := k4.push 23 #[.int .i64 d0, .int .i64 d1]
  clear k4
  go_upto_region 5 with fail
  generalize w4.alloc (.cells #[.int .i64 d0, .int .i64 d1] 23) = W4 at *
  generalize w4.heap.size = pd at *
  have xf0 := h4.cell (i := 5) rfl (j := 0) (v := .int .i64 n) rfl
  have xf1 := h4.cell (i := 5) rfl (j := 1) (v := .int .i64 d) rfl
  go_wp2_with fail
  refine (HN.out.one h4).mono ?_
  rintro e w5 ⟨rfl, k5⟩
  clear xf0 xf1 h4
  have h5 := k5.push 23 #[.int .i64 n0, .int .i64 n1]
  clear k5
  go_upto_region 6 with fail
  generalize w5.alloc (.cells #[.int .i64 n0, .int .i64 n1] 23) = W5 at *
  generalize w5.heap.size = pn at *
  have xa0 := h5.cell (i := 4) rfl (j := 0) (v := .int .i64 a0) rfl
  have xa1 := h5.cell (i := 4) rfl (j := 1) (v := .int .i64 a1) rfl
  have xb0 := h5.cell (i := 3) rfl (j := 0) (v := .int .i64 b0) rfl
  have xb1 := h5.cell (i := 3) rfl (j := 1) (v := .int .i64 b1) rfl
  have xc0 := h5.cell (i := 2) rfl (j := 0) (v := .int .i64 c0) rfl
  have xc1 := h5.cell (i := 2) rfl (j := 1) (v := .int .i64 c1) rfl
  have xd0 := h5.cell (i := 1) rfl (j := 0) (v := .int .i64 d0) rfl
  have xd1 := h5.cell (i := 1) rfl (j := 1) (v := .int .i64 d1) rfl
  have xn0 := h5.cell (i := 0) rfl (j := 0) (v := .int .i64 n0) rfl
  have xn1 := h5.cell (i := 0) rfl (j := 1) (v := .int .i64 n1) rfl
  go_upto_region 8 with fail
  have h6 := h5.push 40 #[.int .i64 a0, .int .i64 a1, .int .i64 a2, .int .i64 b0, .int .i64 b1, .int .i64 b2, .int .i64 c0, .int .i64 c1, .int .i64 c2, .int .i64 d0, .int .i64 d1, .int .i64 d2, .int .i64 n0, .int .i64 n1, .int .i64 n2]
  have hd := Lib.hid (InvL.lts h6)
  have h7 := h6.push 42 #[.int .i64 0, .int .i64 0, .int .i64 0, .int .i64 0, .int .i64 0, .int .i64 0, .int .i64 0, .int .i64 0, .int .i64 0, .int .i64 0, .int .i64 0, .int .i64 0, .int .i64 0, .int .i64 0, .int .i64 0]
  clear h5 h6 xa0 xa1 xb0 xb1 xc0 xc1 xd0 xd1 xn0 xn1
  simp only [size_al] at h7
  generalize (W5.alloc (.cells #[.int .i64 a0, .int .i64 a1, .int .i64 a2, .int .i64 b0, .int .i64 b1, .int .i64 b2, .int .i64 c0, .int .i64 c1, .int .i64 c2, .int .i64 d0, .int .i64 d1, .int .i64 d2, .int .i64 n0, .int .i64 n1, .int .i64 n2] 40)).alloc (.cells #[.int .i64 0, .int .i64 0, .int .i64 0, .int .i64 0, .int .i64 0, .int .i64 0, .int .i64 0, .int .i64 0, .int .i64 0, .int .i64 0, .int .i64 0, .int .i64 0, .int .i64 0, .int .i64 0, .int .i64 0] 42) = W7 at *
  generalize hQ : W5.heap.size = Q at *
  have hd' := Lib.hid (size_ne hQ hd.out)
  clear hd hQ
  have xf0 := h7.cell (i := 8) rfl (j := 0) (v := .int .i64 n) rfl
  have xf1 := h7.cell (i := 8) rfl (j := 1) (v := .int .i64 d) rfl
  have xg0 := h7.cell (i := 7) rfl (j := 0) (v := .int .i64 m) rfl
  have xg1 := h7.cell (i := 7) rfl (j := 1) (v := .int .i64 k) rfl
  go_wp2_with fail
  refine (HA.out.two h7).mono ?_
  rintro e w8 ⟨rfl, k8⟩
  clear xf0 xf1 xg0 xg1 h7
  have xw0 := k8.cell (i := 0) rfl (j := 0) (v := .int .i64 0) rfl
  have xv0 := k8.free (i := 0) rfl 0
  have xw1 := k8.cell (i := 0) rfl (j := 1) (v := .int .i64 0) rfl
  have xv1 := k8.free (i := 0) rfl 1
  have xw2 := k8.cell (i := 0) rfl (j := 2) (v := .int .i64 0) rfl
  have xv2 := k8.free (i := 0) rfl 2
  have m1 := k8.setHead HE.out hd'.out 0 (.int .i64 a0)
  have m2 := m1.setHead HE.out hd'.out 1 (.int .i64 a1)
  have h8 := m2.setHead HE.out hd'.out 2 (.int .i64 a2)
  go_upto_region 9 with fail
  clear m1 m2 k8 xw0 xw1 xw2 xv0 xv1 xv2
  generalize ((w8.setCell ⟨Q + 1, 0, none⟩ (.int .i64 a0)).setCell ⟨Q + 1, 1, none⟩ (.int .i64 a1)).setCell ⟨Q + 1, 2, none⟩ (.int .i64 a2) = W8 at *
  replace h8 : InvL w W8 ((Q + 1, 42, #[.int .i64 a0, .int .i64 a1, .int .i64 a2, .int .i64 0, .int .i64 0, .int .i64 0, .int .i64 0, .int .i64 0, .int .i64 0, .int .i64 0, .int .i64 0, .int .i64 0, .int .i64 0, .int .i64 0, .int .i64 0]) :: _) := h8
  have xf0 := h8.cell (i := 8) rfl (j := 0) (v := .int .i64 n) rfl
  have xf1 := h8.cell (i := 8) rfl (j := 1) (v := .int .i64 d) rfl
  have xg0 := h8.cell (i := 7) rfl (j := 0) (v := .int .i64 m) rfl
  have xg1 := h8.cell (i := 7) rfl (j := 1) (v := .int .i64 k) rfl
  go_wp2_with fail
  refine (HB.out.two h8).mono ?_
  rintro e w9 ⟨rfl, k9⟩
  clear xf0 xf1 xg0 xg1 h8
  have xw0 := k9.cell (i := 0) rfl (j := 3) (v := .int .i64 0) rfl
  have xv0 := k9.free (i := 0) rfl 3
  have xw1 := k9.cell (i := 0) rfl (j := 4) (v := .int .i64 0) rfl
  have xv1 := k9.free (i := 0) rfl 4
  have xw2 := k9.cell (i := 0) rfl (j := 5) (v := .int .i64 0) rfl
  have xv2 := k9.free (i := 0) rfl 5
  have m1 := k9.setHead HE.out hd'.out 3 (.int .i64 b0)
  have m2 := m1.setHead HE.out hd'.out 4 (.int .i64 b1)
  have h9 := m2.setHead HE.out hd'.out 5 (.int .i64 b2)
  go_upto_region 10 with fail
  clear m1 m2 k9 xw0 xw1 xw2 xv0 xv1 xv2
  generalize ((w9.setCell ⟨Q + 1, 3, none⟩ (.int .i64 b0)).setCell ⟨Q + 1, 4, none⟩ (.int .i64 b1)).setCell ⟨Q + 1, 5, none⟩ (.int .i64 b2) = W9 at *
  replace h9 : InvL w W9 ((Q + 1, 42, #[.int .i64 a0, .int .i64 a1, .int .i64 a2, .int .i64 b0, .int .i64 b1, .int .i64 b2, .int .i64 0, .int .i64 0, .int .i64 0, .int .i64 0, .int .i64 0, .int .i64 0, .int .i64 0, .int .i64 0, .int .i64 0]) :: _) := h9
  have xf0 := h9.cell (i := 8) rfl (j := 0) (v := .int .i64 n) rfl
  have xf1 := h9.cell (i := 8) rfl (j := 1) (v := .int .i64 d) rfl
  have xg0 := h9.cell (i := 7) rfl (j := 0) (v := .int .i64 m) rfl
  have xg1 := h9.cell (i := 7) rfl (j := 1) (v := .int .i64 k) rfl
  go_wp2_with fail
  refine (HC.out.two h9).mono ?_
  rintro e w10 ⟨rfl, k10⟩
  clear xf0 xf1 xg0 xg1 h9
  have xw0 := k10.cell (i := 0) rfl (j := 6) (v := .int .i64 0) rfl
  have xv0 := k10.free (i := 0) rfl 6
  have xw1 := k10.cell (i := 0) rfl (j := 7) (v := .int .i64 0) rfl
  have xv1 := k10.free (i := 0) rfl 7
  have xw2 := k10.cell (i := 0) rfl (j := 8) (v := .int .i64 0) rfl
  have xv2 := k10.free (i := 0) rfl 8
  have m1 := k10.setHead HE.out hd'.out 6 (.int .i64 c0)
  have m2 := m1.setHead HE.out hd'.out 7 (.int .i64 c1)
  have h10 := m2.setHead HE.out hd'.out 8 (.int .i64 c2)
  go_upto_region 11 with fail
  clear m1 m2 k10 xw0 xw1 xw2 xv0 xv1 xv2
  generalize ((w10.setCell ⟨Q + 1, 6, none⟩ (.int .i64 c0)).setCell ⟨Q + 1, 7, none⟩ (.int .i64 c1)).setCell ⟨Q + 1, 8, none⟩ (.int .i64 c2) = W10 at *
  replace h10 : InvL w W10 ((Q + 1, 42, #[.int .i64 a0, .int .i64 a1, .int .i64 a2, .int .i64 b0, .int .i64 b1, .int .i64 b2, .int .i64 c0, .int .i64 c1, .int .i64 c2, .int .i64 0, .int .i64 0, .int .i64 0, .int .i64 0, .int .i64 0, .int .i64 0]) :: _) := h10
  have xf0 := h10.cell (i := 8) rfl (j := 0) (v := .int .i64 n) rfl
  have xf1 := h10.cell (i := 8) rfl (j := 1) (v := .int .i64 d) rfl
  have xg0 := h10.cell (i := 7) rfl (j := 0) (v := .int .i64 m) rfl
  have xg1 := h10.cell (i := 7) rfl (j := 1) (v := .int .i64 k) rfl
  go_wp2_with fail
  refine (HD.out.two h10).mono ?_
  rintro e w11 ⟨rfl, k11⟩
  clear xf0 xf1 xg0 xg1 h10
  have xw0 := k11.cell (i := 0) rfl (j := 9) (v := .int .i64 0) rfl
  have xv0 := k11.free (i := 0) rfl 9
  have xw1 := k11.cell (i := 0) rfl (j := 10) (v := .int .i64 0) rfl
  have xv1 := k11.free (i := 0) rfl 10
  have xw2 := k11.cell (i := 0) rfl (j := 11) (v := .int .i64 0) rfl
  have xv2 := k11.free (i := 0) rfl 11
  have m1 := k11.setHead HE.out hd'.out 9 (.int .i64 d0)
  have m2 := m1.setHead HE.out hd'.out 10 (.int .i64 d1)
  have h11 := m2.setHead HE.out hd'.out 11 (.int .i64 d2)
  go_upto_region 12 with fail
  clear m1 m2 k11 xw0 xw1 xw2 xv0 xv1 xv2
  generalize ((w11.setCell ⟨Q + 1, 9, none⟩ (.int .i64 d0)).setCell ⟨Q + 1, 10, none⟩ (.int .i64 d1)).setCell ⟨Q + 1, 11, none⟩ (.int .i64 d2) = W11 at *
  replace h11 : InvL w W11 ((Q + 1, 42, #[.int .i64 a0, .int .i64 a1, .int .i64 a2, .int .i64 b0, .int .i64 b1, .int .i64 b2, .int .i64 c0, .int .i64 c1, .int .i64 c2, .int .i64 d0, .int .i64 d1, .int .i64 d2, .int .i64 0, .int .i64 0, .int .i64 0]) :: _) := h11
  have xf0 := h11.cell (i := 8) rfl (j := 0) (v := .int .i64 n) rfl
  have xf1 := h11.cell (i := 8) rfl (j := 1) (v := .int .i64 d) rfl
  go_wp2_with fail
  refine (HN.out.two h11).mono ?_
  rintro e w12 ⟨rfl, k12⟩
  clear xf0 xf1 h11
  have xw0 := k12.cell (i := 0) rfl (j := 12) (v := .int .i64 0) rfl
  have xv0 := k12.free (i := 0) rfl 12
  have xw1 := k12.cell (i := 0) rfl (j := 13) (v := .int .i64 0) rfl
  have xv1 := k12.free (i := 0) rfl 13
  have xw2 := k12.cell (i := 0) rfl (j := 14) (v := .int .i64 0) rfl
  have xv2 := k12.free (i := 0) rfl 14
  have m1 := k12.setHead HE.out hd'.out 12 (.int .i64 n0)
  have m2 := m1.setHead HE.out hd'.out 13 (.int .i64 n1)
  have h12 := m2.setHead HE.out hd'.out 14 (.int .i64 n2)
  go_upto_region 13 with fail
  clear m1 m2 k12 xw0 xw1 xw2 xv0 xv1 xv2
  generalize ((w12.setCell ⟨Q + 1, 12, none⟩ (.int .i64 n0)).setCell ⟨Q + 1, 13, none⟩ (.int .i64 n1)).setCell ⟨Q + 1, 14, none⟩ (.int .i64 n2) = W12 at *
  replace h12 : InvL w W12 ((Q + 1, 42, #[.int .i64 a0, .int .i64 a1, .int .i64 a2, .int .i64 b0, .int .i64 b1, .int .i64 b2, .int .i64 c0, .int .i64 c1, .int .i64 c2, .int .i64 d0, .int .i64 d1, .int .i64 d2, .int .i64 n0, .int .i64 n1, .int .i64 n2]) :: _) := h12
  clear HA HB HC HD HN hd'
  go_wp2_with fail
  refine wp_loop_rounds 6 ?_
  have xw0 := h12.cell (i := 0) rfl (j := 0) (v := .int .i64 a0) rfl
  have xv0 := h12.cell (i := 1) rfl (j := 0) (v := .int .i64 a0) rfl
  have xw1 := h12.cell (i := 0) rfl (j := 1) (v := .int .i64 a1) rfl
  have xv1 := h12.cell (i := 1) rfl (j := 1) (v := .int .i64 a1) rfl
  have xw2 := h12.cell (i := 0) rfl (j := 2) (v := .int .i64 a2) rfl
  have xv2 := h12.cell (i := 1) rfl (j := 2) (v := .int .i64 a2) rfl
  have hh0 := Lib.hid h12
  clear h12
  rw [rounds_succ]
  go_wp2_with fail
  go_quiet (fail)
  have h13 := hh0.out.keep (below_drewN (Below.refl _ _) nq)
  clear hh0 xw0 xw1 xw2 xv0 xv1 xv2
  generalize W12.drewN nq = W13 at *
  go_wp2_with fail
  have xw0 := h13.cell (i := 0) rfl (j := 3) (v := .int .i64 b0) rfl
  have xv0 := h13.cell (i := 1) rfl (j := 3) (v := .int .i64 b0) rfl
  have xw1 := h13.cell (i := 0) rfl (j := 4) (v := .int .i64 b1) rfl
  have xv1 := h13.cell (i := 1) rfl (j := 4) (v := .int .i64 b1) rfl
  have xw2 := h13.cell (i := 0) rfl (j := 5) (v := .int .i64 b2) rfl
  have xv2 := h13.cell (i := 1) rfl (j := 5) (v := .int .i64 b2) rfl
  have hh1 := Lib.hid h13
  clear h13
  rw [rounds_succ]
  go_wp2_with fail
  go_quiet (fail)
  have h14 := hh1.out.keep (below_drewN (Below.refl _ _) nq)
  clear hh1 xw0 xw1 xw2 xv0 xv1 xv2
  generalize W13.drewN nq = W14 at *
  go_wp2_with fail
  have xw0 := h14.cell (i := 0) rfl (j := 6) (v := .int .i64 c0) rfl
  have xv0 := h14.cell (i := 1) rfl (j := 6) (v := .int .i64 c0) rfl
  have xw1 := h14.cell (i := 0) rfl (j := 7) (v := .int .i64 c1) rfl
  have xv1 := h14.cell (i := 1) rfl (j := 7) (v := .int .i64 c1) rfl
  have xw2 := h14.cell (i := 0) rfl (j := 8) (v := .int .i64 c2) rfl
  have xv2 := h14.cell (i := 1) rfl (j := 8) (v := .int .i64 c2) rfl
  have hh2 := Lib.hid h14
  clear h14
  rw [rounds_succ]
  go_wp2_with fail
  go_quiet (fail)
  have h15 := hh2.out.keep (below_drewN (Below.refl _ _) nq)
  clear hh2 xw0 xw1 xw2 xv0 xv1 xv2
  generalize W14.drewN nq = W15 at *
  go_wp2_with fail
  have xw0 := h15.cell (i := 0) rfl (j := 9) (v := .int .i64 d0) rfl
  have xv0 := h15.cell (i := 1) rfl (j := 9) (v := .int .i64 d0) rfl
  have xw1 := h15.cell (i := 0) rfl (j := 10) (v := .int .i64 d1) rfl
  have xv1 := h15.cell (i := 1) rfl (j := 10) (v := .int .i64 d1) rfl
  have xw2 := h15.cell (i := 0) rfl (j := 11) (v := .int .i64 d2) rfl
  have xv2 := h15.cell (i := 1) rfl (j := 11) (v := .int .i64 d2) rfl
  have hh3 := Lib.hid h15
  clear h15
  rw [rounds_succ]
  go_wp2_with fail
  go_quiet (fail)
  have h16 := hh3.out.keep (below_drewN (Below.refl _ _) nq)
  clear hh3 xw0 xw1 xw2 xv0 xv1 xv2
  generalize W15.drewN nq = W16 at *
  go_wp2_with fail
  have xw0 := h16.cell (i := 0) rfl (j := 12) (v := .int .i64 n0) rfl
  have xv0 := h16.cell (i := 1) rfl (j := 12) (v := .int .i64 n0) rfl
  have xw1 := h16.cell (i := 0) rfl (j := 13) (v := .int .i64 n1) rfl
  have xv1 := h16.cell (i := 1) rfl (j := 13) (v := .int .i64 n1) rfl
  have xw2 := h16.cell (i := 0) rfl (j := 14) (v := .int .i64 n2) rfl
  have xv2 := h16.cell (i := 1) rfl (j := 14) (v := .int .i64 n2) rfl
  have hh4 := Lib.hid h16
  clear h16
  rw [rounds_succ]
  go_wp2_with fail
  go_quiet (fail)
  have h17 := hh4.out.keep (below_drewN (Below.refl _ _) nq)
  clear hh4 xw0 xw1 xw2 xv0 xv1 xv2
  generalize W16.drewN nq = W17 at *
  go_wp2_with fail
  have xf0 := h17.cell (i := 8) rfl (j := 0) (v := .int .i64 n) rfl
  have xf1 := h17.cell (i := 8) rfl (j := 1) (v := .int .i64 d) rfl
  have xg0 := h17.cell (i := 7) rfl (j := 0) (v := .int .i64 m) rfl
  have xg1 := h17.cell (i := 7) rfl (j := 1) (v := .int .i64 k) rfl
  rw [rounds_succ]
  go_wp2_with fail
  refine (HX.out.one h17).mono ?_
  rintro e w18 ⟨rfl, h18⟩
  clear xf0 xf1 xg0 xg1 h17
  have xf0 := h18.cell (i := 8) rfl (j := 0) (v := .int .i64 n) rfl
  have xf1 := h18.cell (i := 8) rfl (j := 1) (v := .int .i64 d) rfl
  have xg0 := h18.cell (i := 7) rfl (j := 0) (v := .int .i64 m) rfl
  have xg1 := h18.cell (i := 7) rfl (j := 1) (v := .int .i64 k) rfl
  go_wp2_with fail
  refine (HX.out.two h18).mono ?_
  rintro e w19 ⟨rfl, h19⟩
  clear xf0 xf1 xg0 xg1 h18
  clear HX
  have xf0 := h19.cell (i := 8) rfl (j := 0) (v := .int .i64 n) rfl
  have xf1 := h19.cell (i := 8) rfl (j := 1) (v := .int .i64 d) rfl
  go_wp2_with fail
  refine (HY.out.one h19).mono ?_
  rintro e w20 ⟨rfl, h20⟩
  clear xf0 xf1 h19
  have xf0 := h20.cell (i := 8) rfl (j := 0) (v := .int .i64 n) rfl
  have xf1 := h20.cell (i := 8) rfl (j := 1) (v := .int .i64 d) rfl
  go_wp2_with fail
  refine (HY.out.two h20).mono ?_
  rintro e w21 ⟨rfl, h21⟩
  clear xf0 xf1 h20
  clear HY
  have xf0 := h21.cell (i := 8) rfl (j := 0) (v := .int .i64 n) rfl
  have xf1 := h21.cell (i := 8) rfl (j := 1) (v := .int .i64 d) rfl
  go_wp2_with fail
  refine (HS.out.one h21).mono ?_
  rintro e w22 ⟨rfl, h22⟩
  clear xf0 xf1 h21
  have xf0 := h22.cell (i := 8) rfl (j := 0) (v := .int .i64 n) rfl
  have xf1 := h22.cell (i := 8) rfl (j := 1) (v := .int .i64 d) rfl
  go_wp2_with fail
  refine (HS.out.two h22).mono ?_
  rintro e w23 ⟨rfl, h23⟩
  clear xf0 xf1 h22
  clear HS
  have xf0 := h23.cell (i := 8) rfl (j := 0) (v := .int .i64 n) rfl
  have xf1 := h23.cell (i := 8) rfl (j := 1) (v := .int .i64 d) rfl
  go_wp2_with fail
  refine (HT.out.one h23).mono ?_
  rintro e w24 ⟨rfl, h24⟩
  clear xf0 xf1 h23
  have xf0 := h24.cell (i := 8) rfl (j := 0) (v := .int .i64 n) rfl
  have xf1 := h24.cell (i := 8) rfl (j := 1) (v := .int .i64 d) rfl
  go_wp2_with fail
  refine (HT.out.two h24).mono ?_
  rintro e w25 ⟨rfl, h25⟩
  clear xf0 xf1 h24
  clear HT
  have HH := Lib.hid h25
  have xf0 := h25.cell (i := 8) rfl (j := 0) (v := .int .i64 n) rfl
  have xf1 := h25.cell (i := 8) rfl (j := 1) (v := .int .i64 d) rfl
  clear h25
  have m0 := Since.cell xf0
  have m1 := Since.cell xf1
  go_upto_region 27 with fail
  refine region_since (by kernel_rfl) (by kernel_rfl) ?_
  repeat (quiet_step ((first
    | (go_at_call 30; exact Calls.since (HR.out.1 _ (HH.out.env.keep (Since.property _))))
    | (go_at_call 31; exact Calls.since (HR.out.2 _ (HH.out.env.keep (Since.property _)))))))
  refine wpQuiet_nil ?_
  rintro w' ⟨u', rfl⟩
  clear m0 m1 xf0 xf1
  have HB := Lib.hid (bchain HH.out.below u'.property)
  clear HH HR
  generalize u'.val = w6 at *
  go_wp2_with fail
  go_ret
  exact ⟨rfl, HB.out⟩
end Go.Proofs.YtfhkgpipbegpgaaGreatDoor
