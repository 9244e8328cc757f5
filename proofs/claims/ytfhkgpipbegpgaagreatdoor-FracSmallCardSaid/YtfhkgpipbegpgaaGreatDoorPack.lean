/- The contracts of cmp (of two numbers of 128 bits) and pack. -/
import Derived.Test.YtfhkgpipbegpgaaGreatDoorWide
import Derived.Test.YtfhkgpipbegpgaaGreatDoorBd
namespace Go.Proofs.YtfhkgpipbegpgaaGreatDoor
open Go Go.RowKit

def cmpN (a b : Nat) : Int := if a < b then -1 else if b < a then 1 else 0
def RetInt (v : Int) (w : World) (e : Ending) (w' : World) : Prop := e = .returned (.int .i64 v) ∧ Below w.heap.size w w'
theorem retInt_mk {v u : Int} {w w' : World} (h : v = u) (hb : Below w.heap.size w w') : RetInt u w (.returned (.int .i64 v)) w' := ⟨by rw [h], hb⟩
set_option maxHeartbeats 1000000 in
theorem cmp_any (ah al bh bl : Nat) (h1 : al < 18446744073709551616) (h2 : bl < 18446744073709551616) (w : World) :
    Calls Tryz.prog 48 #[.agg #[.int .u64 ah, .int .u64 al], .agg #[.int .u64 bh, .int .u64 bl]] w (RetInt (cmpN (ah * 18446744073709551616 + al) (bh * 18446744073709551616 + bl)) w) := by
  obtain ⟨c, hc⟩ : ∃ c, c = cmpN (ah * 18446744073709551616 + al) (bh * 18446744073709551616 + bl) := ⟨_, rfl⟩
  rw [← hc]
  have HC := Lib.hid hc
  clear hc
  have i0 : ∀ w, (Instr.index 73 (.agg #[.int .u64 ah, .int .u64 al]) (.int .i64 0)).run Tryz.prog w = .ok (.int .u64 ah) w := fun w => by kernel_rfl
  have i1 : ∀ w, (Instr.index 73 (.agg #[.int .u64 ah, .int .u64 al]) (.int .i64 1)).run Tryz.prog w = .ok (.int .u64 al) w := fun w => by kernel_rfl
  have H1 := Lib.hid h1
  have H2 := Lib.hid h2
  clear h1 h2
  rcases Nat.lt_trichotomy ah bh with h | h | h
  · have f0 : ah < bh := h
    go_enter Tryz.func48, Tryz.ntmps48
    go_wp2
    refine wp_loop_rounds 1 ?_
    rw [rounds_succ]
    go_wp2
    go_ret
    exact retInt_mk (by rw [HC.out, cmpN, if_pos (by have := H1.out; omega)]) (((Below.refl _ _).alloc (Nat.le_refl _) _).alloc (by simp) _)
  · subst h
    have f0 : ¬ ah < ah := by omega
    rcases Nat.lt_trichotomy al bl with g | g | g
    · go_enter Tryz.func48, Tryz.ntmps48
      go_wp2
      refine wp_loop_rounds 2 ?_
      rw [rounds_succ]
      go_wp2
      rw [rounds_succ]
      go_wp2
      go_ret
      exact retInt_mk (by rw [HC.out, cmpN, if_pos (by omega)]) (((Below.refl _ _).alloc (Nat.le_refl _) _).alloc (by simp) _)
    · subst g
      go_enter Tryz.func48, Tryz.ntmps48
      go_wp2
      refine wp_loop_rounds 3 ?_
      rw [rounds_succ]
      go_wp2
      rw [rounds_succ]
      go_wp2
      rw [rounds_succ]
      go_wp2
      go_ret
      exact retInt_mk (by rw [HC.out, cmpN, if_neg (by omega), if_neg (by omega)]) (((Below.refl _ _).alloc (Nat.le_refl _) _).alloc (by simp) _)
    · have g' : ¬ al < bl := by omega
      go_enter Tryz.func48, Tryz.ntmps48
      go_wp2
      refine wp_loop_rounds 2 ?_
      rw [rounds_succ]
      go_wp2
      rw [rounds_succ]
      go_wp2
      go_ret
      exact retInt_mk (by rw [HC.out, cmpN, if_neg (by omega), if_pos (by omega)]) (((Below.refl _ _).alloc (Nat.le_refl _) _).alloc (by simp) _)
  · have f0 : ¬ ah < bh := by omega
    go_enter Tryz.func48, Tryz.ntmps48
    go_wp2
    refine wp_loop_rounds 1 ?_
    rw [rounds_succ]
    go_wp2
    go_ret
    exact retInt_mk (by rw [HC.out, cmpN, if_neg (by have := H2.out; omega), if_pos (by have := H2.out; omega)]) (((Below.refl _ _).alloc (Nat.le_refl _) _).alloc (by simp) _)

/-- A fraction and the number of an error are returned; only new memory. -/
def RetF (q : Int × Int × Int) (w : World) (e : Ending) (w' : World) : Prop :=
  e = .returned (.tuple #[.agg #[.int .i64 q.1, .int .i64 q.2.1], .int .i64 q.2.2]) ∧ Below w.heap.size w w'
theorem retF_mk {q : Int × Int × Int} {a b c : Int} {w w' : World} (h : q = (a, b, c)) (hb : Below w.heap.size w w') : RetF q w (.returned (.tuple #[.agg #[.int .i64 a, .int .i64 b], .int .i64 c])) w' := by
  subst h; exact ⟨rfl, hb⟩
theorem pack_bad (minus : Bool) (N D : Nat) (h : ¬ (N ≤ 9223372036854775807 + (if minus then 1 else 0) ∧ D ≤ 9223372036854775807)) : packP minus N D = (0, 0, 3) := by
  unfold packP; rw [if_neg h]
theorem below3 (w : World) (a b c : Obj) : Below w.heap.size w (((w.alloc a).alloc b).alloc c) := (((Below.refl _ _).alloc (Nat.le_refl _) _).alloc (by simp) _).alloc (by simp; omega) _
set_option maxRecDepth 100000 in
set_option maxHeartbeats 1000000 in
theorem pack_false (nh nl dh dl : Nat) (hn : nl < 18446744073709551616) (w : World) :
    Calls Tryz.prog 44 #[.bool false, .agg #[.int .u64 nh, .int .u64 nl], .agg #[.int .u64 dh, .int .u64 dl]] w (RetF (packP false (nh * 18446744073709551616 + nl) (dh * 18446744073709551616 + dl)) w) := by
  obtain ⟨q, hq⟩ : ∃ q, q = packP false (nh * 18446744073709551616 + nl) (dh * 18446744073709551616 + dl) := ⟨_, rfl⟩
  rw [← hq]
  have HQ := Lib.hid hq
  clear hq
  by_cases a0 : nh = 0
  · subst a0
    by_cases a1 : nl ≤ 9223372036854775807
    · have f1 : decide ((9223372036854775807 : Int) < (nl : Int)) = false := decide_eq_false (by omega)
      by_cases a2 : dh = 0
      · subst a2
        by_cases a3 : dl ≤ 9223372036854775807
        · have f3 : decide ((9223372036854775807 : Int) < (dl : Int)) = false := decide_eq_false (by omega)
          have c1 : IntKind.i64.wrap (dl : Int) = (dl : Int) := IntWalk.i64_in _ (by omega)
          have c2 : IntKind.i64.wrap (nl : Int) = (nl : Int) := IntWalk.i64_in _ (by omega)
          have HP : Hid (packP false (0 * 18446744073709551616 + nl) (0 * 18446744073709551616 + dl) = ((nl : Int), (dl : Int), 0)) := Lib.hid (by
            unfold packP sgn
            simp only [Nat.zero_mul, Nat.zero_add]; rw [if_pos (by simp; omega)]; rfl)
          go_enter Tryz.func44, Tryz.ntmps44
          go_wp2
          simp [bodyPost, results, Tryz.results44, go_sem]
          exact retF_mk (by rw [HQ.out, HP.out]) (below3 _ _ _ _)
        · have f3 : decide ((9223372036854775807 : Int) < (dl : Int)) = true := decide_eq_true (by omega)
          go_enter Tryz.func44, Tryz.ntmps44
          go_wp2
          simp [bodyPost, results, Tryz.results44, go_sem]
          exact retF_mk (by rw [HQ.out]; exact pack_bad _ _ _ (by simp; omega)) (below3 _ _ _ _)

      · have f2 : ((dh : Int) != 0) = true := by simpa using a2
        go_enter Tryz.func44, Tryz.ntmps44
        go_wp2
        simp [bodyPost, results, Tryz.results44, go_sem]
        exact retF_mk (by rw [HQ.out]; exact pack_bad _ _ _ (by simp; omega)) (below3 _ _ _ _)

    · have f1 : decide ((9223372036854775807 : Int) < (nl : Int)) = true := decide_eq_true (by omega)
      go_enter Tryz.func44, Tryz.ntmps44
      go_wp2
      simp [bodyPost, results, Tryz.results44, go_sem]
      exact retF_mk (by rw [HQ.out]; exact pack_bad _ _ _ (by simp; omega)) (below3 _ _ _ _)

  · have f0 : ((nh : Int) != 0) = true := by simpa using a0
    go_enter Tryz.func44, Tryz.ntmps44
    go_wp2
    simp [bodyPost, results, Tryz.results44, go_sem]
    exact retF_mk (by rw [HQ.out]; exact pack_bad _ _ _ (by simp; omega)) (below3 _ _ _ _)

set_option maxRecDepth 100000 in
set_option maxHeartbeats 1000000 in
theorem pack_true (nh nl dh dl : Nat) (hn : nl < 18446744073709551616) (w : World) :
    Calls Tryz.prog 44 #[.bool true, .agg #[.int .u64 nh, .int .u64 nl], .agg #[.int .u64 dh, .int .u64 dl]] w (RetF (packP true (nh * 18446744073709551616 + nl) (dh * 18446744073709551616 + dl)) w) := by
  obtain ⟨q, hq⟩ : ∃ q, q = packP true (nh * 18446744073709551616 + nl) (dh * 18446744073709551616 + dl) := ⟨_, rfl⟩
  rw [← hq]
  have HQ := Lib.hid hq
  clear hq
  have w1 : IntKind.u64.wrap (9223372036854775807 + 1) = 9223372036854775808 := by decide
  by_cases a0 : nh = 0
  · subst a0
    by_cases a1 : nl ≤ 9223372036854775808
    · have f1 : decide ((9223372036854775808 : Int) < (nl : Int)) = false := decide_eq_false (by omega)
      by_cases a2 : dh = 0
      · subst a2
        by_cases a3 : dl ≤ 9223372036854775807
        · have f3 : decide ((9223372036854775807 : Int) < (dl : Int)) = false := decide_eq_false (by omega)
          have c1 : IntKind.i64.wrap (dl : Int) = (dl : Int) := IntWalk.i64_in _ (by omega)
          have c2 : IntKind.i64.wrap (IntKind.u64.wrap (-(nl : Int))) = -(nl : Int) := by rw [IntKind.wrap_u64, IntKind.wrap_i64]; omega
          have HP : Hid (packP true (0 * 18446744073709551616 + nl) (0 * 18446744073709551616 + dl) = (-(nl : Int), (dl : Int), 0)) := Lib.hid (by
            unfold packP sgn
            simp only [Nat.zero_mul, Nat.zero_add]; rw [if_pos (by simp; omega)]; rfl)
          go_enter Tryz.func44, Tryz.ntmps44
          go_wp2
          simp [bodyPost, results, Tryz.results44, go_sem]
          exact retF_mk (by rw [HQ.out, HP.out]) (below3 _ _ _ _)
        · have f3 : decide ((9223372036854775807 : Int) < (dl : Int)) = true := decide_eq_true (by omega)
          go_enter Tryz.func44, Tryz.ntmps44
          go_wp2
          simp [bodyPost, results, Tryz.results44, go_sem]
          exact retF_mk (by rw [HQ.out]; exact pack_bad _ _ _ (by simp; omega)) (below3 _ _ _ _)

      · have f2 : ((dh : Int) != 0) = true := by simpa using a2
        go_enter Tryz.func44, Tryz.ntmps44
        go_wp2
        simp [bodyPost, results, Tryz.results44, go_sem]
        exact retF_mk (by rw [HQ.out]; exact pack_bad _ _ _ (by simp; omega)) (below3 _ _ _ _)

    · have f1 : decide ((9223372036854775808 : Int) < (nl : Int)) = true := decide_eq_true (by omega)
      go_enter Tryz.func44, Tryz.ntmps44
      go_wp2
      simp [bodyPost, results, Tryz.results44, go_sem]
      exact retF_mk (by rw [HQ.out]; exact pack_bad _ _ _ (by simp; omega)) (below3 _ _ _ _)

  · have f0 : ((nh : Int) != 0) = true := by simpa using a0
    go_enter Tryz.func44, Tryz.ntmps44
    go_wp2
    simp [bodyPost, results, Tryz.results44, go_sem]
    exact retF_mk (by rw [HQ.out]; exact pack_bad _ _ _ (by simp; omega)) (below3 _ _ _ _)

theorem pack_any (minus : Bool) (nh nl dh dl : Nat) (hn : nl < 18446744073709551616) (w : World) :
    Calls Tryz.prog 44 #[.bool minus, .agg #[.int .u64 nh, .int .u64 nl], .agg #[.int .u64 dh, .int .u64 dl]] w (RetF (packP minus (nh * 18446744073709551616 + nl) (dh * 18446744073709551616 + dl)) w) := by
  cases minus
  · exact pack_false nh nl dh dl hn w
  · exact pack_true nh nl dh dl hn w
end Go.Proofs.YtfhkgpipbegpgaaGreatDoor
