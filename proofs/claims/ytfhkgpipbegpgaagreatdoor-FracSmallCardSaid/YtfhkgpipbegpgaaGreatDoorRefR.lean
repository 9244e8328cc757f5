/- What the reference's operations keep in memory: their arguments, their result; and Make. -/
import Derived.Test.YtfhkgpipbegpgaaGreatDoorRefM
import Derived.Test.YtfhkgpipbegpgaaGreatDoorRefG
namespace Go.Proofs.YtfhkgpipbegpgaaGreatDoor
open Go Go.RowKit

/-- Blocks that stay, and the block of the result. -/
structure Qm (w W : World) (l : List (Nat × TypeId × Array Value)) (pr : Nat) : Prop where
  below : Below w.heap.size w W
  all : ∀ x ∈ l, Blk W x.1 x.2.1 x.2.2 ∧ x.1 ≠ pr
  res : ∃ u v, Blk W pr 23 #[u, v]
  new : w.heap.size ≤ pr
section
variable {w W W' : World} {l : List (Nat × TypeId × Array Value)} {pr : Nat}
theorem Qm.keep (h : Qm w W l pr) (hb : Below W.heap.size W W') : Qm w W' l pr :=
  ⟨bchain h.below hb, fun x hx => ⟨(h.all x hx).1.keep hb (h.all x hx).1.lt, (h.all x hx).2⟩, by obtain ⟨u, v, hr⟩ := h.res; exact ⟨u, v, hr.keep hb hr.lt⟩, h.new⟩
theorem Qm.drew (h : Qm w W l pr) : Qm w W.drew l pr := h.keep (Below.drew (Below.refl _ _))
theorem Qm.store (h : Qm w W l pr) (a b : Value) : Qm w ((W.setCell ⟨pr, 0, none⟩ a).setCell ⟨pr, 1, none⟩ b) l pr := by
  obtain ⟨u, v, hr⟩ := h.res
  exact ⟨(h.below.setCell h.new _).setCell h.new _, fun x hx => ⟨((h.all x hx).1.other (h.all x hx).2 _ _).other (h.all x hx).2 _ _, (h.all x hx).2⟩, ⟨a, b, (hr.set 0 a).set 1 b⟩, h.new⟩
theorem Qm.cell (h : Qm w W l pr) {i p : Nat} {t : TypeId} {c : Array Value} (hi : l[i]? = some (p, t, c)) {j : Nat} {v : Value} (hj : c[j]? = some v) : W.cell? ⟨p, j, none⟩ = some v :=
  (h.all _ (List.mem_of_getElem? hi)).1.cell hj
/-- What a store into the result asks. -/
theorem Qm.ask (h : Qm w W l pr) : (∃ u, W.cell? ⟨pr, 0, none⟩ = some u) ∧ (∃ u, W.cell? ⟨pr, 1, none⟩ = some u) ∧ W.frozen? ⟨pr, 0, none⟩ = false ∧ W.frozen? ⟨pr, 1, none⟩ = false := by
  obtain ⟨u, v, hr⟩ := h.res
  exact ⟨⟨u, hr.cell rfl⟩, ⟨v, hr.cell rfl⟩, hr.free 0, hr.free 1⟩
/-- Two arguments, then the result. -/
theorem Qm.two (w : World) (n d m k : Int) : Qm w (((w.alloc (.cells #[.int .i64 n, .int .i64 d] 23)).alloc (.cells #[.int .i64 m, .int .i64 k] 23)).alloc (.cells #[.int .i64 0, .int .i64 0] 23)) [(w.heap.size, 23, #[.int .i64 n, .int .i64 d]), (w.heap.size + 1, 23, #[.int .i64 m, .int .i64 k])] (w.heap.size + 1 + 1) := by
  have h := AM.start w n d m k
  refine ⟨h.below, fun x hx => ?_, ⟨_, _, h.br⟩, by omega⟩
  rcases List.mem_cons.1 hx with rfl | hx
  · exact ⟨h.bf, by show w.heap.size ≠ _; omega⟩
  · rcases List.mem_cons.1 hx with rfl | hx
    · exact ⟨h.bg, by show w.heap.size + 1 ≠ _; omega⟩
    · cases hx
/-- One argument, then the result. -/
theorem Qm.one (w : World) (n d : Int) : Qm w ((w.alloc (.cells #[.int .i64 n, .int .i64 d] 23)).alloc (.cells #[.int .i64 0, .int .i64 0] 23)) [(w.heap.size, 23, #[.int .i64 n, .int .i64 d])] (w.heap.size + 1) := by
  have h1 := Blk.new w 23 #[.int .i64 n, .int .i64 d]
  have h2 := Blk.new (w.alloc (.cells #[.int .i64 n, .int .i64 d] 23)) 23 #[.int .i64 0, .int .i64 0]
  refine ⟨(blw1 _ _).trans ((blw1 _ _).mono (by simp)), fun x hx => ?_, ⟨.int .i64 0, .int .i64 0, by simpa using h2⟩, by omega⟩
  rcases List.mem_cons.1 hx with rfl | hx
  · exact ⟨h1.alloc _, by show w.heap.size ≠ _; omega⟩
  · cases hx
theorem Qm.none_ (w : World) : Qm w (w.alloc (.cells #[.int .i64 0, .int .i64 0] 23)) [] w.heap.size :=
  ⟨blw1 _ _, fun x hx => (by cases hx), ⟨_, _, Blk.new _ _ _⟩, Nat.le_refl _⟩
end
theorem pack_zero (b : Bool) (D : Nat) : packP b 0 D = packP false 0 D := by
  cases b
  · rfl
  · unfold packP sgn
    by_cases h : D ≤ 9223372036854775807 <;> simp [h]
theorem nd_abs {n : Int} (h0 : -9223372036854775808 ≤ n) (h1 : n ≤ 9223372036854775807) : nd n.natAbs ≤ 4 := nd_64 (by omega)
set_option maxRecDepth 100000 in
set_option maxHeartbeats 4000000 in
theorem rmake_any (a b : Int) (hf : FB a b) (w : World) :
    Calls Tryz.prog 10 #[.int .i64 a, .int .i64 b] w (RetF (makeP a b) w) := by
  have HQ := Lib.hid (Qm.none_ w)
  by_cases hb0 : b = 0
  · have HM : Hid (makeP a b = (0, 0, 2)) := Lib.hid (by unfold makeP; rw [if_pos hb0])
    have t1 : (b == 0) = true := beq_iff_eq.2 hb0
    clear hb0 hf
    go_enter Tryz.func10, Tryz.ntmps10
    go_upto_region 1 with fail
    generalize w.alloc (.cells #[.int .i64 0, .int .i64 0] 23) = V1 at *
    obtain ⟨⟨_, r0⟩, ⟨_, r1⟩, f0, f1⟩ := HQ.out.ask
    go_wp2
    refine bodyPost_ret (v := .tuple #[.agg #[.int .i64 0, .int .i64 0], .int .i64 2]) (by simp [results, Tryz.results10, go_sem, r0, r1]) rfl ?_
    exact retF_mk HM.out ((HQ.out.below.setCell (by simp) _).setCell (by simp) _)
  · have t1 : (b == 0) = false := beq_eq_false_iff_ne.2 hb0
    obtain ⟨neg, hneg⟩ : ∃ x : Bool, (decide (a < 0) && decide (0 < b) || decide (0 < a) && decide (b < 0)) = x := ⟨_, rfl⟩
    have hM : makeP a b = packP neg (a.natAbs / Nat.gcd a.natAbs b.natAbs) (b.natAbs / Nat.gcd a.natAbs b.natAbs) := by
      unfold makeP
      rw [if_neg hb0]
      by_cases ha : a = 0
      · subst ha
        simp only [Int.natAbs_zero, Nat.zero_div]
        rw [pack_zero, pack_zero neg]
      · congr 1
        rw [← hneg]
        by_cases h1 : a < 0 <;> by_cases h2 : b < 0
        · simp [h1, h2]; omega
        · simp [h1, h2, (by omega : 0 < b)]
        · simp [h1, h2, (by omega : 0 < a)]
        · simp [h1, h2]
    rw [hM]
    obtain ⟨⟨qa, qb, qc⟩, hq⟩ : ∃ q, packP neg (a.natAbs / Nat.gcd a.natAbs b.natAbs) (b.natAbs / Nat.gcd a.natAbs b.natAbs) = q := ⟨_, rfl⟩
    rw [hq]
    have W1 := Lib.hid (fun W => whole_any a hf.n0 hf.n1 W)
    have W2 := Lib.hid (fun W => whole_any b hf.d0 hf.d1 W)
    have M0 : Hid (∀ W A ca B cb, Dg W A ca a.natAbs → Dg W B cb b.natAbs → Calls Tryz.prog 38 #[.bool neg, .slice A (nd a.natAbs) ca, .slice B (nd b.natAbs) cb] W (RetF (qa, qb, qc) W)) := Lib.hid fun W A ca B cb h1 h2 => by
      have := make0_any neg A B ca cb a.natAbs b.natAbs (by omega) (by have := nd_abs hf.n0 hf.n1; omega) (by have := nd_abs hf.d0 hf.d1; omega) W h1 h2
      rw [hq] at this
      exact this
    obtain ⟨N, hN⟩ : ∃ N, a.natAbs = N := ⟨_, rfl⟩
    obtain ⟨D, hD⟩ : ∃ N, b.natAbs = N := ⟨_, rfl⟩
    rw [hN] at W1
    rw [hD] at W2
    rw [hN, hD] at M0
    have HNEG := Lib.hid hneg
    clear hM hq hN hD hneg hf
    go_enter Tryz.func10, Tryz.ntmps10
    go_upto_region 3 with fail
    generalize w.alloc (.cells #[.int .i64 0, .int .i64 0] 23) = V1 at *
    rcases (by omega : a < 0 ∨ a = 0 ∨ 0 < a) with h1 | h1 | h1 <;> rcases (by omega : b < 0 ∨ 0 < b) with h2 | h2
    all_goals
      have u1 : decide (a < 0) = decide (a < 0) := rfl
      first
        | (have v1 : decide (a < 0) = true := decide_eq_true (by omega))
        | (have v1 : decide (a < 0) = false := decide_eq_false (by omega))
      first
        | (have v2 : decide (0 < b) = true := decide_eq_true (by omega))
        | (have v2 : decide (0 < b) = false := decide_eq_false (by omega))
      first
        | (have v3 : decide (0 < a) = true := decide_eq_true (by omega))
        | (have v3 : decide (0 < a) = false := decide_eq_false (by omega))
      first
        | (have v4 : decide (b < 0) = true := decide_eq_true (by omega))
        | (have v4 : decide (b < 0) = false := decide_eq_false (by omega))
      have hng := HNEG.out
      rw [v1, v2, v3, v4] at hng
      simp only [Bool.and_true, Bool.and_false, Bool.or_true, Bool.or_false, Bool.and_self, Bool.or_self] at hng
      subst hng
      clear u1 h1 h2 HNEG hb0
      go_wp2_with fail
      refine (W1.out _).mono ?_
      rintro e w2 ⟨A, ca, rfl, hA, hb⟩
      have HQ2 := Lib.hid (HQ.out.keep hb)
      have HA := Lib.hid hA
      clear hb hA
      go_wp2_with fail
      refine (W2.out _).mono ?_
      rintro e w3 ⟨B, cb, rfl, hB, hb⟩
      have HQ3 := Lib.hid (HQ2.out.keep hb)
      have HA3 := Lib.hid (HA.out.keep hb)
      have HB := Lib.hid hB
      clear hb hB HA HQ2
      go_wp2_with fail
      refine (M0.out _ _ _ _ _ HA3.out HB.out).mono ?_
      rintro e w4 ⟨rfl, hb⟩
      have HQ4 := Lib.hid (HQ3.out.keep hb)
      obtain ⟨⟨_, r0⟩, ⟨_, r1⟩, f0, f1⟩ := HQ4.out.ask
      clear hb HA3 HB HQ3
      go_wp2
      refine bodyPost_ret (v := .tuple #[.agg #[.int .i64 qa, .int .i64 qb], .int .i64 qc]) (by simp [results, Tryz.results10, go_sem, r0, r1]) rfl ?_
      exact retF_mk rfl ((HQ4.out.below.setCell (by simp) _).setCell (by simp) _)
end Go.Proofs.YtfhkgpipbegpgaaGreatDoor
