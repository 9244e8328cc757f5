/- The contracts of Right and times. -/
import Derived.Test.YtfhkgpipbegpgaaGreatDoorOver
import Derived.Test.YtfhkgpipbegpgaaGreatDoorCmpP
namespace Go.Proofs.YtfhkgpipbegpgaaGreatDoor
open Go Go.RowKit

theorem quiet_eq {P : Program} {f : FuncId} {args : Array Value} {w : World} {n : Nat} {v : Value}
    (h : Calls P f args (w.drewN n) fun e w' => e = .returned v ∧ w.drewN n = w') : Calls P f args (w.drewN n) fun e w'' => e = .returned v ∧ ∃ m, w'' = w.drewN m :=
  h.mono fun _ _ ⟨he, hm⟩ => ⟨he, n, hm.symm⟩
def RetBool (b : Bool) (w : World) (e : Ending) (w' : World) : Prop := e = .returned (.bool b) ∧ Below w.heap.size w w'
set_option maxHeartbeats 1000000 in
theorem right_any (n d : Int) (h0 : -9223372036854775808 ≤ n) (h1 : n ≤ 9223372036854775807) (h2 : -9223372036854775808 ≤ d) (h3 : d ≤ 9223372036854775807) (w : World) :
    Calls Tryz.prog 30 #[.agg #[.int .i64 n, .int .i64 d]] w (RetBool (rightB n d) w) := by
  by_cases hd : 0 < d
  · have g1 : decide (0 < d) = true := decide_eq_true hd
    obtain ⟨g, hg⟩ : ∃ g, g = Nat.gcd n.natAbs d.natAbs := ⟨_, rfl⟩
    have hb : rightB n d = (g == 1) := by unfold rightB; rw [g1, ← hg]; rfl
    rw [hb]
    have hs : ((g : Int) == 1) = (g == 1) := by rw [Bool.eq_iff_iff]; simp; omega
    have S1 := Lib.hid (fun w => size_any n h0 h1 w)
    have S2 := Lib.hid (fun w => size_any d h2 h3 w)
    have G : Hid (∀ w, Calls Tryz.prog 59 #[.int .u64 (n.natAbs : Nat), .int .u64 (d.natAbs : Nat)] w fun e w' => e = .returned (.int .u64 (g : Nat)) ∧ ∃ n, w' = w.drewN n) := Lib.hid fun w => hg ▸ gcd_any n.natAbs d.natAbs (by omega) (by omega) w
    clear hb hg h0 h1 h2 h3
    obtain ⟨na, hna⟩ : ∃ k, k = n.natAbs := ⟨_, rfl⟩
    obtain ⟨da, hda⟩ : ∃ k, k = d.natAbs := ⟨_, rfl⟩
    rw [← hna] at S1 G
    rw [← hda] at S2 G
    clear hna hda
    go_enter Tryz.func30, Tryz.ntmps30
    go_wp2
    go_quiet ((first | (go_at_call 43; (first | (with_reducible exact quiet_eq (S1.out _)) | (with_reducible exact quiet_eq (S2.out _)))) | (go_at_call 59; exact Calls.quiet_of (G.out _))))
    go_wp2
    go_ret
    exact ⟨rfl, below_drewN ((Below.refl _ _).alloc (Nat.le_refl _) _) _⟩
  · have g1 : decide (0 < d) = false := decide_eq_false hd
    have hb : rightB n d = false := by unfold rightB; rw [g1]; rfl
    rw [hb]
    clear hb h0 h1 h2 h3
    go_enter Tryz.func30, Tryz.ntmps30
    go_wp2
    go_quiet (fail)
    go_wp2
    go_ret
    exact ⟨rfl, below_drewN ((Below.refl _ _).alloc (Nat.le_refl _) _) _⟩

theorem split128 (N : Nat) : ∃ h l, N = h * 18446744073709551616 + l ∧ l < 18446744073709551616 := ⟨N / 18446744073709551616, N % 18446744073709551616, by omega, by omega⟩
/-- product, its number split in two halves before. -/
theorem product_hid (x y N h l : Nat) (hx : x < 18446744073709551616) (hy : y < 18446744073709551616) (hN : N = x * y) (hh : N = h * 18446744073709551616 + l) (hl : l < 18446744073709551616) :
    Hid (∀ w, Calls Tryz.prog 47 #[.int .u64 (x : Nat), .int .u64 (y : Nat)] w fun e w' => e = .returned (.agg #[.int .u64 (h : Nat), .int .u64 (l : Nat)]) ∧ Below w.heap.size w w') :=
  Lib.hid fun w => product_any x y h l hx hy (by rw [← hN, hh]) hl w
theorem pack_hid (minus : Bool) (N D nh nl dh dl : Nat) (hn : N = nh * 18446744073709551616 + nl) (hd : D = dh * 18446744073709551616 + dl) (hl : nl < 18446744073709551616) (a b c : Int) (hq : packP minus N D = (a, b, c)) :
    Hid (∀ w, Calls Tryz.prog 44 #[.bool minus, .agg #[.int .u64 (nh : Nat), .int .u64 (nl : Nat)], .agg #[.int .u64 (dh : Nat), .int .u64 (dl : Nat)]] w fun e w' => e = .returned (.tuple #[.agg #[.int .i64 a, .int .i64 b], .int .i64 c]) ∧ Below w.heap.size w w') :=
  Lib.hid fun w => by
    have := pack_any minus nh nl dh dl hl w
    rw [← hn, ← hd, hq] at this
    exact this

set_option maxRecDepth 100000 in
set_option maxHeartbeats 1000000 in
theorem times_any (minus : Bool) (a b c d : Nat) (ha : a < 18446744073709551616) (hb : b < 18446744073709551616) (hc : c < 18446744073709551616) (hd : d < 18446744073709551616) (hb0 : 0 < b) (hd0 : 0 < d) (w : World) :
    Calls Tryz.prog 42 #[.bool minus, .int .u64 a, .int .u64 b, .int .u64 c, .int .u64 d] w (RetF (timesP minus a b c d) w) := by
  obtain ⟨g, hg⟩ : ∃ g, g = Nat.gcd a d := ⟨_, rfl⟩
  obtain ⟨h, hh⟩ : ∃ h, h = Nat.gcd c b := ⟨_, rfl⟩
  have G1 : Hid (∀ w, Calls Tryz.prog 59 #[.int .u64 (a : Nat), .int .u64 (d : Nat)] w fun e w' => e = .returned (.int .u64 (g : Nat)) ∧ ∃ n, w' = w.drewN n) := Lib.hid fun w => hg ▸ gcd_any a d ha hd w
  have G2 : Hid (∀ w, Calls Tryz.prog 59 #[.int .u64 (c : Nat), .int .u64 (b : Nat)] w fun e w' => e = .returned (.int .u64 (h : Nat)) ∧ ∃ n, w' = w.drewN n) := Lib.hid fun w => hh ▸ gcd_any c b hc hb w
  have g0 : 0 < g := hg ▸ Nat.gcd_pos_of_pos_right _ hd0
  have h0 : 0 < h := hh ▸ Nat.gcd_pos_of_pos_right _ hb0
  obtain ⟨a', ha'⟩ : ∃ x, x = a / g := ⟨_, rfl⟩
  obtain ⟨c', hc'⟩ : ∃ x, x = c / h := ⟨_, rfl⟩
  obtain ⟨b', hb'⟩ : ∃ x, x = b / h := ⟨_, rfl⟩
  obtain ⟨d', hd'⟩ : ∃ x, x = d / g := ⟨_, rfl⟩
  have la : a' < 18446744073709551616 := ha' ▸ Nat.lt_of_le_of_lt (Nat.div_le_self _ _) ha
  have lb : b' < 18446744073709551616 := hb' ▸ Nat.lt_of_le_of_lt (Nat.div_le_self _ _) hb
  have lc : c' < 18446744073709551616 := hc' ▸ Nat.lt_of_le_of_lt (Nat.div_le_self _ _) hc
  have ld : d' < 18446744073709551616 := hd' ▸ Nat.lt_of_le_of_lt (Nat.div_le_self _ _) hd
  obtain ⟨N, hN⟩ : ∃ N, N = a' * c' := ⟨_, rfl⟩
  obtain ⟨D, hD⟩ : ∃ D, D = b' * d' := ⟨_, rfl⟩
  obtain ⟨nh, nl, en, ln⟩ := split128 N
  obtain ⟨dh, dl, ed, lD⟩ := split128 D
  obtain ⟨⟨qa, qb, qc⟩, hq⟩ : ∃ q, packP minus N D = q := ⟨_, rfl⟩
  have P1 := product_hid a' c' N nh nl la lc hN en ln
  have P2 := product_hid b' d' D dh dl lb ld hD ed lD
  have PK := pack_hid minus N D nh nl dh dl en ed ln qa qb qc hq
  have hT : Hid (timesP minus a b c d = (qa, qb, qc)) := Lib.hid (by rw [← hq, hN, hD, ha', hb', hc', hd', hg, hh]; rfl)
  have m1 : ((a : Int).tdiv (g : Int)) = (a' : Int) := by rw [Int.tdiv_eq_ediv_of_nonneg (by omega), ha']; rfl
  have m2 : ((c : Int).tdiv (h : Int)) = (c' : Int) := by rw [Int.tdiv_eq_ediv_of_nonneg (by omega), hc']; rfl
  have m3 : ((b : Int).tdiv (h : Int)) = (b' : Int) := by rw [Int.tdiv_eq_ediv_of_nonneg (by omega), hb']; rfl
  have m4 : ((d : Int).tdiv (g : Int)) = (d' : Int) := by rw [Int.tdiv_eq_ediv_of_nonneg (by omega), hd']; rfl
  have w1 : IntKind.u64.wrap (a' : Int) = (a' : Int) := IntWalk.u64_in _ (by omega)
  have w2 : IntKind.u64.wrap (b' : Int) = (b' : Int) := IntWalk.u64_in _ (by omega)
  have w3 : IntKind.u64.wrap (c' : Int) = (c' : Int) := IntWalk.u64_in _ (by omega)
  have w4 : IntKind.u64.wrap (d' : Int) = (d' : Int) := IntWalk.u64_in _ (by omega)
  have z1 : ((g : Int) == 0) = false := by simp; omega
  have z2 : ((h : Int) == 0) = false := by simp; omega
  have z3 : ¬ g = 0 := by omega
  have z4 : ¬ h = 0 := by omega
  clear hg hh ha' hb' hc' hd' hN hD en ed ln lD hq ha hb hc hd hb0 hd0 g0 h0 la lb lc ld
  go_enter Tryz.func42, Tryz.ntmps42
  go_wp2_with fail
  refine (G1.out _).mono ?_
  rintro e w1 ⟨rfl, n1, rfl⟩
  go_wp2_with fail
  refine (G2.out _).mono ?_
  rintro e w2 ⟨rfl, n2, rfl⟩
  go_wp2
  refine region_since_tail 18 (by kernel_rfl) (by kernel_rfl) ?_
  repeat (quiet_step ((first
    | (go_at_call 47; (first | (with_reducible exact Calls.since (P1.out _)) | (with_reducible exact Calls.since (P2.out _))))
    | (go_at_call 44; exact Calls.since (PK.out _)))))
  refine wpQuiet_nil ?_
  rintro w' ⟨u, rfl⟩
  have hb := u.property
  have y0 := hb.cell (p := ⟨w.heap.size, 0, none⟩) (by simp)
  have y1 := hb.cell (p := ⟨w.heap.size, 1, none⟩) (by simp)
  have x0 := hb.frozen (p := ⟨w.heap.size, 0, none⟩) (by simp)
  have x1 := hb.frozen (p := ⟨w.heap.size, 1, none⟩) (by simp)
  simp at y0 y1 x0 x1
  have hB : Below w.heap.size w u.val := (below_drewN ((Below.refl _ _).alloc (Nat.le_refl _) _) _).trans (hb.mono (by simp))
  clear hb
  go_wp2
  refine bodyPost_ret (v := .tuple #[.agg #[.int .i64 qa, .int .i64 qb], .int .i64 qc]) (by simp [results, Tryz.results42, go_sem, y0, y1]) rfl ?_
  exact retF_mk hT.out ((hB.setCell (by simp) _).setCell (by simp) _)
end Go.Proofs.YtfhkgpipbegpgaaGreatDoor
