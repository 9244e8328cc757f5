/- records: what the program and the reference make of a record and of a string is the same. -/
import Derived.Test.YtaadipccgckehaaGreatDoorRG
import Derived.Test.YtaadipccgckehaaGreatDoorCH
import Derived.Test.YtaadipccgckehaaGreatDoorCL
set_option linter.unusedSimpArgs false
namespace Go.Proofs.YtaadipccgckehaaGreatDoor
open Go Go.RowKit Go.Shelf Pl

/-- What '==' says of two deals within a struct. -/
theorem eqU9 (T : TypeId) (hu : Tryz.prog.underlying T = some (.array 4 22)) (x0 x1 x2 x3 y0 y1 y2 y3 : Int) (w : World) : (Op.equalIn 9999 T (.agg #[.int .u64 x0, .int .u64 x1, .int .u64 x2, .int .u64 x3]) (.agg #[.int .u64 y0, .int .u64 y1, .int .u64 y2, .int .u64 y3])).run Tryz.prog w =
    .ok ((x0 == y0) && ((x1 == y1) && ((x2 == y2) && (x3 == y3)))) w := by
  have he : Tryz.prog.underlying 22 = some (.int .u64) := by kernel_rfl
  have hz : (sizeOf 22).run Tryz.prog w = .ok 1 w := by kernel_rfl
  have hp : ∀ (a b c d : Value) , (part 22 #[a, b, c, d] 0).run Tryz.prog w = .ok a w ∧ (part 22 #[a, b, c, d] 1).run Tryz.prog w = .ok b w ∧ (part 22 #[a, b, c, d] 2).run Tryz.prog w = .ok c w ∧ (part 22 #[a, b, c, d] 3).run Tryz.prog w = .ok d w := fun a b c d => ⟨by kernel_rfl, by kernel_rfl, by kernel_rfl, by kernel_rfl⟩
  have e : ∀ a b : Int, (Op.equalIn 9998 22 (.int .u64 a) (.int .u64 b)).run Tryz.prog w = .ok (a == b) w := fun a b => run_equalIn_int w 9997 _ _ _ a b he
  rw [Op.equalIn]
  simp only [Sem.run_bind, run_underlying hu, Result.andThen_ok, hz, Std.Legacy.Range.forIn_eq_forIn_range', Std.Legacy.Range.size, List.range', List.forIn_cons, List.forIn_nil, (hp _ _ _ _).1, e, Sem.run_ite]
  cases h0 : (x0 == y0) <;> cases h1 : (x1 == y1) <;> cases h2 : (x2 == y2) <;> cases h3 : (x3 == y3) <;> simp [Sem.run_bind, Result.andThen_ok, (hp _ _ _ _).2.1, (hp _ _ _ _).2.2.1, (hp _ _ _ _).2.2.2, e, h1, h2, h3]
theorem eq_deal (x0 x1 x2 x3 : Int) (w : World) : (Op.equalIn 10000 24 (.agg #[.int .u64 x0, .int .u64 x1, .int .u64 x2, .int .u64 x3]) (.agg #[.int .u64 x0, .int .u64 x1, .int .u64 x2, .int .u64 x3])).run Tryz.prog w = .ok true w := by
  rw [eqU _ Tryz.underlying24]; simp
theorem eq_deal9 (x0 x1 x2 x3 : Int) (w : World) : (Op.equalIn 9999 24 (.agg #[.int .u64 x0, .int .u64 x1, .int .u64 x2, .int .u64 x3]) (.agg #[.int .u64 x0, .int .u64 x1, .int .u64 x2, .int .u64 x3])).run Tryz.prog w = .ok true w := by
  rw [eqU9 _ Tryz.underlying24]; simp
theorem z5other {w : World} {p q : Nat} {t : TypeId} {C : Array Value} (h : Blk w p t C) (hne : p ≠ q) (a b c d e : Value) : Blk (((((w.setCell ⟨q, 0, none⟩ a).setCell ⟨q, 1, none⟩ b).setCell ⟨q, 2, none⟩ c).setCell ⟨q, 3, none⟩ d).setCell ⟨q, 4, none⟩ e) p t C :=
  ((((h.other hne 0 a).other hne 1 b).other hne 2 c).other hne 3 d).other hne 4 e
theorem r5set {w : World} {p : Nat} {t : TypeId} {y0 y1 y2 y3 y4 : Value} (h : Blk w p t #[y0, y1, y2, y3, y4]) (a b c d e : Value) : Blk (((((w.setCell ⟨p, 0, none⟩ a).setCell ⟨p, 1, none⟩ b).setCell ⟨p, 2, none⟩ c).setCell ⟨p, 3, none⟩ d).setCell ⟨p, 4, none⟩ e) p t #[a, b, c, d, e] :=
  ((((h.set 0 a).set 1 b).set 2 c).set 3 d).set 4 e
theorem code_cases (n : Int) (D : Nat → Nat) : (rcode n D = 70 ∧ (n < 1 ∨ 128 < n)) ∨ (∃ m : Nat, n = (m : Int) ∧ 1 ≤ m ∧ m ≤ 128 ∧ ((rcode n D = 60 ∧ rightB D = false) ∨ (rcode n D = 0 ∧ rightB D = true))) := by
  unfold rcode
  by_cases h : n < 1 ∨ 128 < n
  · exact .inl ⟨if_pos h, h⟩
  · refine .inr ⟨n.toNat, by omega, by omega, by omega, ?_⟩
    rw [if_neg h]
    cases rightB D
    · exact .inl ⟨rfl, rfl⟩
    · exact .inr ⟨rfl, rfl⟩
theorem turn_rec (n k : Int) (D : Nat → Nat) (hD : D64 D) (hk : -9223372036854775808 ≤ k ∧ k ≤ 9223372036854775807) : ∃ (tn : Int) (t0 t1 t2 t3 : Nat), (∀ w, Calls Tryz.prog 19 #[.agg #[.int .i64 n, .int .u64 (D 0 : Nat), .int .u64 (D 1 : Nat), .int .u64 (D 2 : Nat), .int .u64 (D 3 : Nat)], .int .i64 k] w (fun e w' => e = .returned (.tuple #[.agg #[.int .i64 tn, .int .u64 (t0 : Nat), .int .u64 (t1 : Nat), .int .u64 (t2 : Nat), .int .u64 (t3 : Nat)], .int .i64 (rcode n D)]) ∧ Below w.heap.size w w')) ∧
    (rcode n D = 0 → tn = n ∧ t0 = turnD D k 0 ∧ t1 = turnD D k 1 ∧ t2 = turnD D k 2 ∧ t3 = turnD D k 3) ∧ (rcode n D ≠ 0 → tn = 0 ∧ t0 = 0 ∧ t1 = 0 ∧ t2 = 0 ∧ t3 = 0) := by
  rcases code_cases n D with ⟨hc, hn⟩ | ⟨m, rfl, h1, h2, h⟩
  · rw [hc]
    refine ⟨0, 0, 0, 0, 0, fun w => ?_, (fun h => by cases h), fun _ => ⟨rfl, rfl, rfl, rfl, rfl⟩⟩
    exact bturn_bad n k 70 (D 0) (D 1) (D 2) (D 3) rfl (Lib.hid (fun W => check_bad n D hn W)) w
  rcases h with ⟨hc, hr⟩ | ⟨hc, hr⟩
  · rw [hc]
    refine ⟨0, 0, 0, 0, 0, fun w => ?_, (fun h => by cases h), fun _ => ⟨rfl, rfl, rfl, rfl, rfl⟩⟩
    refine bturn_bad (m : Int) k 60 (D 0) (D 1) (D 2) (D 3) rfl (Lib.hid (fun W => ?_)) w
    have := check_deal m D h1 h2 hD W
    rwa [hr] at this
  · rw [hc]
    exact ⟨_, _, _, _, _, fun w => bturn_ok m D k hk h1 h2 hD hr w, fun _ => ⟨rfl, rfl, rfl, rfl, rfl⟩, fun h => absurd rfl h⟩
theorem text_rec (n : Int) (D : Nat → Nat) (hD : D64 D) (w : World) (he : Env w) : Calls Tryz.prog 20 #[.agg #[.int .i64 n, .int .u64 (D 0 : Nat), .int .u64 (D 1 : Nat), .int .u64 (D 2 : Nat), .int .u64 (D 3 : Nat)]] w (fun e w' => e = .returned (.tuple #[strV' (wrT n D), .int .i64 (rcode n D)]) ∧ Below w.heap.size w w') := by
  rcases code_cases n D with ⟨hc, hn⟩ | ⟨m, rfl, h1, h2, h⟩
  · have : strV' (wrT n D) = .string ⟨#[]⟩ := by unfold wrT; rw [hc]; rfl
    rw [hc, this]
    exact btext_bad n D hn w
  rcases h with ⟨hc, hr⟩ | ⟨hc, hr⟩
  · have : strV' (wrT (m : Int) D) = .string ⟨#[]⟩ := by unfold wrT; rw [hc]; rfl
    rw [hc, this]
    exact btext_deal m D h1 h2 hD hr w
  · have : wrT (m : Int) D = textB m D := by unfold wrT; rw [hc, if_pos rfl, Int.toNat_natCast]
    rw [hc, this]
    exact btext_ok m D h1 h2 hD hr w he
theorem read_rec (s : ByteArray) (hs : s.size ≤ 10000) : ∃ (xn h : Int) (x0 x1 x2 x3 : Nat), (∀ w, Env w → Calls Tryz.prog 23 #[.string s] w (fun e w' => e = .returned (.tuple #[.agg #[.int .i64 xn, .int .u64 (x0 : Nat), .int .u64 (x1 : Nat), .int .u64 (x2 : Nat), .int .u64 (x3 : Nat)], .int .i64 h]) ∧ Below w.heap.size w w')) ∧
    (∀ w, Calls Tryz.prog 24 #[.string s] w (fun e w' => e = .returned (.tuple #[.int .i64 xn, .agg #[.int .u64 (x0 : Nat), .int .u64 (x1 : Nat), .int .u64 (x2 : Nat), .int .u64 (x3 : Nat)], .int .i64 h]) ∧ Below w.heap.size w w')) := by
  have hL : (⟨s.data.toList.toArray⟩ : ByteArray) = s := by simp
  have hlen : s.data.toList.length < 140737488355328 := by
    have : s.data.toList.length = s.size := rfl
    omega
  rcases hb : bok s.data.toList with _ | _
  · refine ⟨0, 71, 0, 0, 0, 0, fun w he => ?_, fun w => ?_⟩
    · have h := bread_any s.data.toList hlen w he
      unfold bret at h
      rw [hb, hL] at h
      exact h
    · refine rread7_bad s hs (fun j h1 h2 => ?_) w
      rcases hx : hitN s.data.toList j with _ | _
      · rfl
      · have := (bok_of (hit_isB h1 h2 hx)).1
        rw [hb] at this
        cases this
  · obtain ⟨n, hn, hB⟩ := bok_is hb
    obtain ⟨hy, hD⟩ := isB_hit hB
    refine ⟨(n : Int), 0, dval (brest s.data.toList) 0, dval (brest s.data.toList) 1, dval (brest s.data.toList) 2, dval (brest s.data.toList) 3, fun w he => ?_, fun w => ?_⟩
    · have h := bread_any s.data.toList hlen w he
      unfold bret at h
      rw [hb, if_pos rfl, hn, hL] at h
      exact h
    · refine rread7_ok s hs n hB.1 hB.2.1 (fun j h1 h2 => ?_) hy _ hD w
      rcases hx : hitN s.data.toList j with _ | _
      · rfl
      · have := (isB_one (hit_isB h1 (by have := hB.2.1; omega) hx) hB).1
        omega
set_option maxRecDepth 100000 in
set_option maxHeartbeats 4000000 in
theorem records_any (n k : Int) (D : Nat → Nat) (hD : D64 D) (hk : -9223372036854775808 ≤ k ∧ k ≤ 9223372036854775807) (s : ByteArray) (hs : s.size ≤ 10000) (w : World) (he : Env w) :
    Calls Tryz.prog 5 #[.agg #[.int .i64 n, .int .u64 (D 0 : Nat), .int .u64 (D 1 : Nat), .int .u64 (D 2 : Nat), .int .u64 (D 3 : Nat)], .int .i64 k, .string s] w (fun e w' => e = .returned (.bool true) ∧ Below w.heap.size w w') := by
  obtain ⟨tn, t0, t1, t2, t3, TA, T0, TZ⟩ := turn_rec n k D hD hk
  obtain ⟨xn, xh, x0, x1, x2, x3, BR, R7⟩ := read_rec s hs
  have HTA := Lib.hid TA
  have HBR := Lib.hid BR
  have HR7 := Lib.hid R7
  have HTX := Lib.hid (fun W hW => text_rec n D hD W hW)
  have HWR := Lib.hid (fun W => rwrite7_any n D hD W)
  have HRT := Lib.hid (fun W => rturn_any D k hk W)
  have HRR := Lib.hid (fun W => rright7_any n D hD W)
  obtain ⟨X, hX⟩ : ∃ X : ByteArray, strV' (wrT n D) = .string X := ⟨_, rfl⟩
  rw [hX] at HTX HWR
  clear hX TA BR R7 hD hk hs
  obtain ⟨c, hc⟩ : ∃ c, rcode n D = c := ⟨_, rfl⟩
  rw [hc] at HTA HTX HWR HRR T0 TZ
  clear hc
  have HTT := Lib.hid (And.intro T0 TZ)
  clear T0 TZ
  generalize turnD D k 0 = u0 at *
  generalize turnD D k 1 = u1 at *
  generalize turnD D k 2 = u2 at *
  generalize turnD D k 3 = u3 at *
  generalize D 0 = d0 at *
  generalize D 1 = d1 at *
  generalize D 2 = d2 at *
  generalize D 3 = d3 at *
  clear D
  have HE := Lib.hid he
  clear he
  go_enter Tryz.func5, Tryz.ntmps5
  go_upto_region 1 with fail
  have HK := Lib.hid (Blk.new w 26 #[.int .i64 n, .int .u64 (d0 : Nat), .int .u64 (d1 : Nat), .int .u64 (d2 : Nat), .int .u64 (d3 : Nat)])
  have HB := Lib.hid (below1 w (.cells #[.int .i64 n, .int .u64 (d0 : Nat), .int .u64 (d1 : Nat), .int .u64 (d2 : Nat), .int .u64 (d3 : Nat)] 26))
  generalize w.alloc (.cells #[.int .i64 n, .int .u64 (d0 : Nat), .int .u64 (d1 : Nat), .int .u64 (d2 : Nat), .int .u64 (d3 : Nat)] 26) = W0 at *
  generalize hp0 : w.heap.size = p0 at *
  have y0 := HK.out.cell (j := 0) (v := .int .i64 n) rfl
  have y1 := HK.out.cell (j := 1) (v := .int .u64 (d0 : Nat)) rfl
  have y2 := HK.out.cell (j := 2) (v := .int .u64 (d1 : Nat)) rfl
  have y3 := HK.out.cell (j := 3) (v := .int .u64 (d2 : Nat)) rfl
  have y4 := HK.out.cell (j := 4) (v := .int .u64 (d3 : Nat)) rfl
  go_wp2_with fail
  refine (HTA.out _).mono ?_
  rintro e w1 ⟨rfl, hb⟩
  have HK1 := Lib.hid (HK.out.keep hb HK.out.lt)
  have HB1 := Lib.hid (HB.out.trans (hb.mono (by have := HB.out.size; omega)))
  clear hb HK HB HTA y0 y1 y2 y3 y4
  go_upto_region 2 with fail
  have HA := Lib.hid (Blk.new w1 26 #[.int .i64 tn, .int .u64 (t0 : Nat), .int .u64 (t1 : Nat), .int .u64 (t2 : Nat), .int .u64 (t3 : Nat)])
  have HK2 := Lib.hid (HK1.out.alloc (.cells #[.int .i64 tn, .int .u64 (t0 : Nat), .int .u64 (t1 : Nat), .int .u64 (t2 : Nat), .int .u64 (t3 : Nat)] 26))
  have HB2 := Lib.hid (HB1.out.alloc (by have := HB1.out.size; omega) (.cells #[.int .i64 tn, .int .u64 (t0 : Nat), .int .u64 (t1 : Nat), .int .u64 (t2 : Nat), .int .u64 (t3 : Nat)] 26))
  clear HK1 HB1
  generalize w1.alloc (.cells #[.int .i64 tn, .int .u64 (t0 : Nat), .int .u64 (t1 : Nat), .int .u64 (t2 : Nat), .int .u64 (t3 : Nat)] 26) = W2 at *
  generalize w1.heap.size = pa at *
  have y0 := HK2.out.cell (j := 0) (v := .int .i64 n) rfl
  have y1 := HK2.out.cell (j := 1) (v := .int .u64 (d0 : Nat)) rfl
  have y2 := HK2.out.cell (j := 2) (v := .int .u64 (d1 : Nat)) rfl
  have y3 := HK2.out.cell (j := 3) (v := .int .u64 (d2 : Nat)) rfl
  have y4 := HK2.out.cell (j := 4) (v := .int .u64 (d3 : Nat)) rfl
  have HE2 := Lib.hid (HE.out.keep (by rw [hp0]; exact HB2.out))
  go_wp2_with fail
  refine (HTX.out _ HE2.out).mono ?_
  rintro e w3 ⟨rfl, hb⟩
  have HK3 := Lib.hid (HK2.out.keep hb HK2.out.lt)
  have HA3 := Lib.hid (HA.out.keep hb HA.out.lt)
  have HB3 := Lib.hid (HB2.out.trans (hb.mono (by have := HB2.out.size; omega)))
  clear hb HK2 HA HB2 HE2 HTX y0 y1 y2 y3 y4
  go_upto_region 3 with fail
  have y0 := HK3.out.cell (j := 0) (v := .int .i64 n) rfl
  have y1 := HK3.out.cell (j := 1) (v := .int .u64 (d0 : Nat)) rfl
  have y2 := HK3.out.cell (j := 2) (v := .int .u64 (d1 : Nat)) rfl
  have y3 := HK3.out.cell (j := 3) (v := .int .u64 (d2 : Nat)) rfl
  have y4 := HK3.out.cell (j := 4) (v := .int .u64 (d3 : Nat)) rfl
  go_wp2_with fail
  refine (HWR.out _).mono ?_
  rintro e w4 ⟨rfl, hb⟩
  have HK4 := Lib.hid (HK3.out.keep hb HK3.out.lt)
  have HA4 := Lib.hid (HA3.out.keep hb HA3.out.lt)
  have HB4 := Lib.hid (HB3.out.trans (hb.mono (by have := HB3.out.size; omega)))
  clear hb HK3 HA3 HB3 HWR y0 y1 y2 y3 y4
  go_upto_region 4 with fail
  go_cut [13] (fun s13 wx => ∃ pw : Nat, s13 = .pointer (some ⟨pw, 0, none⟩) ∧ Hid (Blk wx p0 26 #[.int .i64 n, .int .u64 (d0 : Nat), .int .u64 (d1 : Nat), .int .u64 (d2 : Nat), .int .u64 (d3 : Nat)]) ∧ Hid (Blk wx pa 26 #[.int .i64 tn, .int .u64 (t0 : Nat), .int .u64 (t1 : Nat), .int .u64 (t2 : Nat), .int .u64 (t3 : Nat)]) ∧ Hid (Blk wx pw 26 #[.int .i64 n, .int .u64 (u0 : Nat), .int .u64 (u1 : Nat), .int .u64 (u2 : Nat), .int .u64 (u3 : Nat)]) ∧ Hid (Below p0 w wx) ∧ Hid (p0 ≠ pw ∧ pa ≠ pw ∧ p0 ≤ pw))
  case first =>
    refine rest_begin (by kernel_rfl) ?_
    have HK5 : Hid (Blk w4.drew p0 26 #[.int .i64 n, .int .u64 (d0 : Nat), .int .u64 (d1 : Nat), .int .u64 (d2 : Nat), .int .u64 (d3 : Nat)]) := HK4
    have HA5 : Hid (Blk w4.drew pa 26 #[.int .i64 tn, .int .u64 (t0 : Nat), .int .u64 (t1 : Nat), .int .u64 (t2 : Nat), .int .u64 (t3 : Nat)]) := HA4
    have HB5 := Lib.hid HB4.out.drew
    clear HK4 HA4 HB4
    generalize w4.drew = W5 at *
    refine rest_flow3 [some 38, some 39, some 40, some 41, some 42, some 43, some 44, some 13] [Sp.is (.pointer (some ⟨p0, 0, none⟩)), Sp.is (.int .i64 n), Sp.is (.pointer (some ⟨p0, 1, none⟩)), Sp.is (.agg #[.int .u64 (d0 : Nat), .int .u64 (d1 : Nat), .int .u64 (d2 : Nat), .int .u64 (d3 : Nat)]), Sp.is (.int .i64 k), Sp.is (.agg #[.int .u64 (u0 : Nat), .int .u64 (u1 : Nat), .int .u64 (u2 : Nat), .int .u64 (u3 : Nat)]), Sp.is (.agg #[.int .i64 n, .int .u64 (u0 : Nat), .int .u64 (u1 : Nat), .int .u64 (u2 : Nat), .int .u64 (u3 : Nat)]), Sp.blk 26 #[.int .i64 0, .int .u64 0, .int .u64 0, .int .u64 0, .int .u64 0]] [false, false, false, false, false, false, false, true] 8 (by kernel_rfl) (by kernel_rfl) (fun u F hF => ?_) (fun u w' hbF hsF hold hap => ?_)
    case refine_1 =>
      have E3 : F.eval (.tmp 3) = (.pointer (some ⟨p0, 0, none⟩)) := (congrArg (fun a => Act.eval a (.tmp 3)) hF).trans (eval_out [some 38, some 39, some 40, some 41, some 42, some 43, some 44, some 13] 0 _ (by decide))
      have D38 : F.eval (.tmp 38) = u 0 := (congrArg (fun a => Act.eval a (.tmp 38)) hF).trans (eval_in [some 38, some 39, some 40, some 41, some 42, some 43, some 44, some 13] 0 0 _ (by decide) (by omega) rfl (of_decide_eq_true (by kernel_rfl)))
      have D40 : F.eval (.tmp 40) = u 2 := (congrArg (fun a => Act.eval a (.tmp 40)) hF).trans (eval_in [some 38, some 39, some 40, some 41, some 42, some 43, some 44, some 13] 0 2 _ (by decide) (by omega) rfl (of_decide_eq_true (by kernel_rfl)))
      have E1 : F.eval (.tmp 1) = (.int .i64 k) := (congrArg (fun a => Act.eval a (.tmp 1)) hF).trans (eval_out [some 38, some 39, some 40, some 41, some 42, some 43, some 44, some 13] 0 _ (by decide))
      have D41 : F.eval (.tmp 41) = u 3 := (congrArg (fun a => Act.eval a (.tmp 41)) hF).trans (eval_in [some 38, some 39, some 40, some 41, some 42, some 43, some 44, some 13] 0 3 _ (by decide) (by omega) rfl (of_decide_eq_true (by kernel_rfl)))
      have D42 : F.eval (.tmp 42) = u 4 := (congrArg (fun a => Act.eval a (.tmp 42)) hF).trans (eval_in [some 38, some 39, some 40, some 41, some 42, some 43, some 44, some 13] 0 4 _ (by decide) (by omega) rfl (of_decide_eq_true (by kernel_rfl)))
      have D39 : F.eval (.tmp 39) = u 1 := (congrArg (fun a => Act.eval a (.tmp 39)) hF).trans (eval_in [some 38, some 39, some 40, some 41, some 42, some 43, some 44, some 13] 0 1 _ (by decide) (by omega) rfl (of_decide_eq_true (by kernel_rfl)))
      have D43 : F.eval (.tmp 43) = u 5 := (congrArg (fun a => Act.eval a (.tmp 43)) hF).trans (eval_in [some 38, some 39, some 40, some 41, some 42, some 43, some 44, some 13] 0 5 _ (by decide) (by omega) rfl (of_decide_eq_true (by kernel_rfl)))
      clear hF
      refine ⟨?_, ?_, ?_, ?_, ?_, ?_, ?_, ?_, trivial⟩
      · intro w1 hb hd K hK
        have e3 := E3
        exact op_val (v := (.pointer (some ⟨p0, 0, none⟩))) rfl (by simp only [execOp, List.map_toArray, List.map_cons, List.map_nil, e3]; go_simp) (hK _ _ (show _ = _ from rfl) (Below.refl _ _) (Fresh.no _ _ _))
      · intro w1 hb hd K hK
        have e38 := D38.trans (show u 0 = (.pointer (some ⟨p0, 0, none⟩)) from hd ⟨0, .data⟩ (by simp) rfl (by omega))
        have q0 := (HK5.out.keep hb HK5.out.lt).cell (j := 0) (v := .int .i64 n) rfl
        exact op_val (v := .int .i64 n) (w' := w1) rfl (by simp only [execOp, e38]; go_simp) (hK _ _ (show _ = _ from rfl) (Below.refl _ _) (Fresh.no _ _ _))
      · intro w1 hb hd K hK
        have e3 := E3
        exact op_val (v := (.pointer (some ⟨p0, 1, none⟩))) rfl (by simp only [execOp, List.map_toArray, List.map_cons, List.map_nil, e3]; go_simp) (hK _ _ (show _ = _ from rfl) (Below.refl _ _) (Fresh.no _ _ _))
      · intro w1 hb hd K hK
        have e40 := D40.trans (show u 2 = (.pointer (some ⟨p0, 1, none⟩)) from hd ⟨2, .data⟩ (by simp) rfl (by omega))
        have q1 := (HK5.out.keep hb HK5.out.lt).cell (j := 1) (v := .int .u64 (d0 : Nat)) rfl
        have q2 := (HK5.out.keep hb HK5.out.lt).cell (j := 2) (v := .int .u64 (d1 : Nat)) rfl
        have q3 := (HK5.out.keep hb HK5.out.lt).cell (j := 3) (v := .int .u64 (d2 : Nat)) rfl
        have q4 := (HK5.out.keep hb HK5.out.lt).cell (j := 4) (v := .int .u64 (d3 : Nat)) rfl
        exact op_val (v := (.agg #[.int .u64 (d0 : Nat), .int .u64 (d1 : Nat), .int .u64 (d2 : Nat), .int .u64 (d3 : Nat)])) (w' := w1) rfl (by simp only [execOp, e40]; go_simp) (hK _ _ (show _ = _ from rfl) (Below.refl _ _) (Fresh.no _ _ _))
      · intro w1 hb hd K hK
        have e1 := E1
        exact op_val (v := (.int .i64 k)) rfl (by simp only [execOp, List.map_toArray, List.map_cons, List.map_nil, e1]; go_simp) (hK _ _ (show _ = _ from rfl) (Below.refl _ _) (Fresh.no _ _ _))
      · intro w1 hb hd K hK
        have e41 := D41.trans (show u 3 = (.agg #[.int .u64 (d0 : Nat), .int .u64 (d1 : Nat), .int .u64 (d2 : Nat), .int .u64 (d3 : Nat)]) from hd ⟨3, .data⟩ (by simp) rfl (by omega))
        have e42 := D42.trans (show u 4 = (.int .i64 k) from hd ⟨4, .data⟩ (by simp) rfl (by omega))
        refine op_call (R := fun v w2 => v = (.agg #[.int .u64 (u0 : Nat), .int .u64 (u1 : Nat), .int .u64 (u2 : Nat), .int .u64 (u3 : Nat)]) ∧ Below w1.heap.size w1 w2) (f := 21) (args := #[.agg #[.int .u64 (d0 : Nat), .int .u64 (d1 : Nat), .int .u64 (d2 : Nat), .int .u64 (d3 : Nat)], .int .i64 k]) rfl (by simp only [execOp]; go_simp; first | exact ⟨eval_get e41, eval_get e42⟩ | (simp only [Act.eval] at *; simp_all)) ((HRT.out w1).mono fun e w2 hh => ⟨_, hh.1, rfl, hh.2⟩) (fun v w2 hh => hK _ _ hh.1 hh.2 (Fresh.no _ _ _))
      · intro w1 hb hd K hK
        have e39 := D39.trans (show u 1 = (.int .i64 n) from hd ⟨1, .data⟩ (by simp) rfl (by omega))
        have e43 := D43.trans (show u 5 = (.agg #[.int .u64 (u0 : Nat), .int .u64 (u1 : Nat), .int .u64 (u2 : Nat), .int .u64 (u3 : Nat)]) from hd ⟨5, .data⟩ (by simp) rfl (by omega))
        exact op_val (v := (.agg #[.int .i64 n, .int .u64 (u0 : Nat), .int .u64 (u1 : Nat), .int .u64 (u2 : Nat), .int .u64 (u3 : Nat)])) rfl (by simp only [execOp, List.map_toArray, List.map_cons, List.map_nil, e39, e43]; go_simp) (hK _ _ (show _ = _ from rfl) (Below.refl _ _) (Fresh.no _ _ _))
      · intro w1 hb hd K hK
        exact op_val (v := .pointer (some ⟨w1.heap.size, 0, none⟩)) (w' := w1.alloc (.cells #[.int .i64 0, .int .u64 0, .int .u64 0, .int .u64 0, .int .u64 0] 26)) rfl (by kernel_rfl) (hK _ _ (show ∃ b, _ ∧ _ from ⟨_, rfl, Blk.new w1 _ _⟩) (below1 _ _) (fun _ => ⟨_, rfl, Nat.le_refl _, by show _ < _; rw [size_al]; exact Nat.lt_succ_self _⟩))
    have hv38 : u 0 = (.pointer (some ⟨p0, 0, none⟩)) := (show u 0 = _ from hsF 0 (by omega) (by omega))
    have hv39 : u 1 = .int .i64 n := (show u 1 = _ from hsF 1 (by omega) (by omega))
    have hv40 : u 2 = (.pointer (some ⟨p0, 1, none⟩)) := (show u 2 = _ from hsF 2 (by omega) (by omega))
    have hv41 : u 3 = (.agg #[.int .u64 (d0 : Nat), .int .u64 (d1 : Nat), .int .u64 (d2 : Nat), .int .u64 (d3 : Nat)]) := (show u 3 = _ from hsF 3 (by omega) (by omega))
    have hv42 : u 4 = (.int .i64 k) := (show u 4 = _ from hsF 4 (by omega) (by omega))
    have hv43 : u 5 = (.agg #[.int .u64 (u0 : Nat), .int .u64 (u1 : Nat), .int .u64 (u2 : Nat), .int .u64 (u3 : Nat)]) := (show u 5 = _ from hsF 5 (by omega) (by omega))
    have hv44 : u 6 = (.agg #[.int .i64 n, .int .u64 (u0 : Nat), .int .u64 (u1 : Nat), .int .u64 (u2 : Nat), .int .u64 (u3 : Nat)]) := (show u 6 = _ from hsF 6 (by omega) (by omega))
    obtain ⟨b13, hv13, hB13⟩ := (show ∃ b, u 7 = .pointer (some ⟨b, 0, none⟩) ∧ Blk w' b 26 #[.int .i64 0, .int .u64 0, .int .u64 0, .int .u64 0, .int .u64 0] from hsF 7 (by omega) (by omega))
    obtain ⟨xb13, hx13, hge13, -⟩ := hold 7 (by omega) (by omega) rfl
    rw [hv13] at hx13
    obtain rfl : b13 = xb13 := by simpa [blkOf] using hx13
    simp only [putRow, hv38, hv39, hv40, hv41, hv42, hv43, hv44, hv13, Act.put, List.setIfInBounds_toArray, List.set_cons_succ, List.set_cons_zero]
    clear hsF hold hap hv38 hv39 hv40 hv41 hv42 hv43 hv44 hv13 hx13

    have HK6 := Lib.hid (HK5.out.keep hbF HK5.out.lt)
    have HA6 := Lib.hid (HA5.out.keep hbF HA5.out.lt)
    have HB6 := Lib.hid (HB5.out.trans (hbF.mono (by have := HB5.out.size; omega)))
    have HNE : Hid (p0 ≠ b13 ∧ pa ≠ b13 ∧ p0 ≤ b13) := Lib.hid (by
      have h1 := HK5.out.lt
      have h2 := HA5.out.lt
      exact ⟨by omega, by omega, by omega⟩)
    have HP13 := Lib.hid hB13
    clear HK5 HA5 HB5 hbF hB13
    refine rest_forced 1 (by kernel_rfl) ?_
    simp only [List.drop_succ_cons, List.drop_zero, List.take_succ_cons, List.take_zero]
    have z0 := HP13.out.cell (j := 0) (v := .int .i64 0) rfl
    have z1 := HP13.out.cell (j := 1) (v := .int .u64 0) rfl
    have z2 := HP13.out.cell (j := 2) (v := .int .u64 0) rfl
    have z3 := HP13.out.cell (j := 3) (v := .int .u64 0) rfl
    have z4 := HP13.out.cell (j := 4) (v := .int .u64 0) rfl
    have g0 := HP13.out.free 0
    have g1 := HP13.out.free 1
    have g2 := HP13.out.free 2
    have g3 := HP13.out.free 3
    have g4 := HP13.out.free 4
    have HP7 := Lib.hid (z5set HP13.out (.int .i64 n) (.int .u64 (u0 : Nat)) (.int .u64 (u1 : Nat)) (.int .u64 (u2 : Nat)) (.int .u64 (u3 : Nat)))
    have HK7 := Lib.hid (z5other HK6.out HNE.out.1 (.int .i64 n) (.int .u64 (u0 : Nat)) (.int .u64 (u1 : Nat)) (.int .u64 (u2 : Nat)) (.int .u64 (u3 : Nat)))
    have HA7 := Lib.hid (z5other HA6.out HNE.out.2.1 (.int .i64 n) (.int .u64 (u0 : Nat)) (.int .u64 (u1 : Nat)) (.int .u64 (u2 : Nat)) (.int .u64 (u3 : Nat)))
    have HB7 := Lib.hid (z5below HB6.out HNE.out.2.2 (.int .i64 n) (.int .u64 (u0 : Nat)) (.int .u64 (u1 : Nat)) (.int .u64 (u2 : Nat)) (.int .u64 (u3 : Nat)))
    clear HP13 HK6 HA6 HB6
    go_wp2_with fail
    refine rest_done rfl ?_
    go_wp2_with fail
    go_meet
    exact ⟨_, rfl, HK7, HA7, HP7, HB7, HNE⟩
  case rest =>
    obtain ⟨pw, rfl, HK8, HA8, HP8, HB8, HNE⟩ := hcut
    clear HRT
    have y0 := HK8.out.cell (j := 0) (v := .int .i64 n) rfl
    have y1 := HK8.out.cell (j := 1) (v := .int .u64 (d0 : Nat)) rfl
    have y2 := HK8.out.cell (j := 2) (v := .int .u64 (d1 : Nat)) rfl
    have y3 := HK8.out.cell (j := 3) (v := .int .u64 (d2 : Nat)) rfl
    have y4 := HK8.out.cell (j := 4) (v := .int .u64 (d3 : Nat)) rfl
    go_wp2_with fail
    refine (HRR.out _).mono ?_
    rintro e w9 ⟨rfl, hb⟩
    have HK9 := Lib.hid (HK8.out.keep hb HK8.out.lt)
    have HA9 := Lib.hid (HA8.out.keep hb HA8.out.lt)
    have HP9 := Lib.hid (HP8.out.keep hb HP8.out.lt)
    have HB9 := Lib.hid (HB8.out.trans (hb.mono (by have := HB8.out.size; omega)))
    clear hb HK8 HA8 HP8 HB8 y0 y1 y2 y3 y4
    go_upto_if 50 with fail
    go_cut [] (fun wx => Hid (Blk wx p0 26 #[.int .i64 n, .int .u64 (d0 : Nat), .int .u64 (d1 : Nat), .int .u64 (d2 : Nat), .int .u64 (d3 : Nat)]) ∧ Hid (Blk wx pa 26 #[.int .i64 tn, .int .u64 (t0 : Nat), .int .u64 (t1 : Nat), .int .u64 (t2 : Nat), .int .u64 (t3 : Nat)]) ∧ Hid (Blk wx pw 26 #[.int .i64 tn, .int .u64 (t0 : Nat), .int .u64 (t1 : Nat), .int .u64 (t2 : Nat), .int .u64 (t3 : Nat)]) ∧ Hid (Below p0 w wx))
    case first =>
      by_cases hc : c = 0
      · obtain ⟨rfl, rfl, rfl, rfl, rfl⟩ := HTT.out.1 hc
        have t1 : (c != 0) = false := by rw [hc]; rfl
        have t2 : (c == 0) = true := by rw [hc]; rfl
        clear hc HTT
        go_wp2_with fail
        go_meet
        exact ⟨HK9, HA9, HP9, HB9⟩
      · obtain ⟨rfl, rfl, rfl, rfl, rfl⟩ := HTT.out.2 hc
        have t2 : (c == 0) = false := beq_eq_false_iff_ne.2 hc
        have t1 : (c != 0) = true := by rw [bne, t2]; rfl
        clear hc HTT
        have z0 := HP9.out.cell (j := 0) (v := .int .i64 n) rfl
        have z1 := HP9.out.cell (j := 1) (v := .int .u64 (u0 : Nat)) rfl
        have z2 := HP9.out.cell (j := 2) (v := .int .u64 (u1 : Nat)) rfl
        have z3 := HP9.out.cell (j := 3) (v := .int .u64 (u2 : Nat)) rfl
        have z4 := HP9.out.cell (j := 4) (v := .int .u64 (u3 : Nat)) rfl
        have g0 := HP9.out.free 0
        have g1 := HP9.out.free 1
        have g2 := HP9.out.free 2
        have g3 := HP9.out.free 3
        have g4 := HP9.out.free 4
        have HP7 := Lib.hid (r5set HP9.out (.int .i64 0) (.int .u64 0) (.int .u64 0) (.int .u64 0) (.int .u64 0))
        have HK7 := Lib.hid (z5other HK9.out HNE.out.1 (.int .i64 0) (.int .u64 0) (.int .u64 0) (.int .u64 0) (.int .u64 0))
        have HA7 := Lib.hid (z5other HA9.out HNE.out.2.1 (.int .i64 0) (.int .u64 0) (.int .u64 0) (.int .u64 0) (.int .u64 0))
        have HB7 := Lib.hid (z5below HB9.out HNE.out.2.2 (.int .i64 0) (.int .u64 0) (.int .u64 0) (.int .u64 0) (.int .u64 0))
        clear HP9 HK9 HA9 HB9
        go_wp2_with fail
        go_meet
        exact ⟨HK7, HA7, HP7, HB7⟩
    case rest =>
      clear HK9 HA9 HP9 HB9 HTT HNE
      obtain ⟨HK, HA, HP, HB⟩ := hcut
      have HE2 := Lib.hid (HE.out.keep (by rw [hp0]; exact HB.out))
      go_wp2_with fail
      refine (HBR.out _ HE2.out).mono ?_
      rintro e w1 ⟨rfl, hb⟩
      have HK1 := Lib.hid (HK.out.keep hb HK.out.lt)
      have HA1 := Lib.hid (HA.out.keep hb HA.out.lt)
      have HP1 := Lib.hid (HP.out.keep hb HP.out.lt)
      have HB1 := Lib.hid (HB.out.trans (hb.mono (by have := HB.out.size; omega)))
      clear hb HK HA HP HB HE2 HBR
      go_upto_region 8 with fail
      have HX2 := Lib.hid (Blk.new w1 26 #[.int .i64 xn, .int .u64 (x0 : Nat), .int .u64 (x1 : Nat), .int .u64 (x2 : Nat), .int .u64 (x3 : Nat)])
      have HK2 := Lib.hid (HK1.out.alloc (.cells #[.int .i64 xn, .int .u64 (x0 : Nat), .int .u64 (x1 : Nat), .int .u64 (x2 : Nat), .int .u64 (x3 : Nat)] 26))
      have HA2 := Lib.hid (HA1.out.alloc (.cells #[.int .i64 xn, .int .u64 (x0 : Nat), .int .u64 (x1 : Nat), .int .u64 (x2 : Nat), .int .u64 (x3 : Nat)] 26))
      have HP2 := Lib.hid (HP1.out.alloc (.cells #[.int .i64 xn, .int .u64 (x0 : Nat), .int .u64 (x1 : Nat), .int .u64 (x2 : Nat), .int .u64 (x3 : Nat)] 26))
      have HB2 := Lib.hid (HB1.out.alloc (by have := HB1.out.size; omega) (.cells #[.int .i64 xn, .int .u64 (x0 : Nat), .int .u64 (x1 : Nat), .int .u64 (x2 : Nat), .int .u64 (x3 : Nat)] 26))
      clear HK1 HA1 HP1 HB1
      generalize w1.alloc (.cells #[.int .i64 xn, .int .u64 (x0 : Nat), .int .u64 (x1 : Nat), .int .u64 (x2 : Nat), .int .u64 (x3 : Nat)] 26) = W2 at *
      generalize w1.heap.size = px at *
      go_wp2_with fail
      refine (HR7.out _).mono ?_
      rintro e w3 ⟨rfl, hb⟩
      have HK3 := Lib.hid (HK2.out.keep hb HK2.out.lt)
      have HA3 := Lib.hid (HA2.out.keep hb HA2.out.lt)
      have HP3 := Lib.hid (HP2.out.keep hb HP2.out.lt)
      have HX3 := Lib.hid (HX2.out.keep hb HX2.out.lt)
      have HB3 := Lib.hid (HB2.out.trans (hb.mono (by have := HB2.out.size; omega)))
      clear hb HK2 HA2 HP2 HX2 HB2 HR7
      go_upto_region 9 with fail
      have HY4 := Lib.hid (Blk.new w3 23 #[.int .u64 (x0 : Nat), .int .u64 (x1 : Nat), .int .u64 (x2 : Nat), .int .u64 (x3 : Nat)])
      have HK4 := Lib.hid (HK3.out.alloc (.cells #[.int .u64 (x0 : Nat), .int .u64 (x1 : Nat), .int .u64 (x2 : Nat), .int .u64 (x3 : Nat)] 23))
      have HA4 := Lib.hid (HA3.out.alloc (.cells #[.int .u64 (x0 : Nat), .int .u64 (x1 : Nat), .int .u64 (x2 : Nat), .int .u64 (x3 : Nat)] 23))
      have HP4 := Lib.hid (HP3.out.alloc (.cells #[.int .u64 (x0 : Nat), .int .u64 (x1 : Nat), .int .u64 (x2 : Nat), .int .u64 (x3 : Nat)] 23))
      have HX4 := Lib.hid (HX3.out.alloc (.cells #[.int .u64 (x0 : Nat), .int .u64 (x1 : Nat), .int .u64 (x2 : Nat), .int .u64 (x3 : Nat)] 23))
      have HB4 := Lib.hid (HB3.out.alloc (by have := HB3.out.size; omega) (.cells #[.int .u64 (x0 : Nat), .int .u64 (x1 : Nat), .int .u64 (x2 : Nat), .int .u64 (x3 : Nat)] 23))
      clear HK3 HA3 HP3 HX3 HB3
      generalize w3.alloc (.cells #[.int .u64 (x0 : Nat), .int .u64 (x1 : Nat), .int .u64 (x2 : Nat), .int .u64 (x3 : Nat)] 23) = W4 at *
      generalize w3.heap.size = py at *
      have y0 := HK4.out.cell (j := 0) (v := .int .i64 n) rfl
      have y1 := HK4.out.cell (j := 1) (v := .int .u64 (d0 : Nat)) rfl
      have y2 := HK4.out.cell (j := 2) (v := .int .u64 (d1 : Nat)) rfl
      have y3 := HK4.out.cell (j := 3) (v := .int .u64 (d2 : Nat)) rfl
      have y4 := HK4.out.cell (j := 4) (v := .int .u64 (d3 : Nat)) rfl
      have a0 := HA4.out.cell (j := 0) (v := .int .i64 tn) rfl
      have a1 := HA4.out.cell (j := 1) (v := .int .u64 (t0 : Nat)) rfl
      have a2 := HA4.out.cell (j := 2) (v := .int .u64 (t1 : Nat)) rfl
      have a3 := HA4.out.cell (j := 3) (v := .int .u64 (t2 : Nat)) rfl
      have a4 := HA4.out.cell (j := 4) (v := .int .u64 (t3 : Nat)) rfl
      have q0 := HP4.out.cell (j := 0) (v := .int .i64 tn) rfl
      have q1 := HP4.out.cell (j := 1) (v := .int .u64 (t0 : Nat)) rfl
      have q2 := HP4.out.cell (j := 2) (v := .int .u64 (t1 : Nat)) rfl
      have q3 := HP4.out.cell (j := 3) (v := .int .u64 (t2 : Nat)) rfl
      have q4 := HP4.out.cell (j := 4) (v := .int .u64 (t3 : Nat)) rfl
      have EQ9 := eq_deal9 (t0 : Int) (t1 : Int) (t2 : Int) (t3 : Int)
      go_wp2_with fail
      refine (HRR.out _).mono ?_
      rintro e w5 ⟨rfl, hb⟩
      have HX5 := HX4.out.keep hb HX4.out.lt
      have HY5 := HY4.out.keep hb HY4.out.lt
      have HB5 := Lib.hid (HB4.out.trans (hb.mono (by have := HB4.out.size; omega)))
      clear hb HK4 HA4 HP4 HX4 HY4 HB4 y0 y1 y2 y3 y4 a0 a1 a2 a3 a4 q0 q1 q2 q3 q4 EQ9 HRR
      have y0 := HX5.cell (j := 0) (v := .int .i64 xn) rfl
      have y1 := HX5.cell (j := 1) (v := .int .u64 (x0 : Nat)) rfl
      have y2 := HX5.cell (j := 2) (v := .int .u64 (x1 : Nat)) rfl
      have y3 := HX5.cell (j := 3) (v := .int .u64 (x2 : Nat)) rfl
      have y4 := HX5.cell (j := 4) (v := .int .u64 (x3 : Nat)) rfl
      have z0 := HY5.cell (j := 0) (v := .int .u64 (x0 : Nat)) rfl
      have z1 := HY5.cell (j := 1) (v := .int .u64 (x1 : Nat)) rfl
      have z2 := HY5.cell (j := 2) (v := .int .u64 (x2 : Nat)) rfl
      have z3 := HY5.cell (j := 3) (v := .int .u64 (x3 : Nat)) rfl
      have EQ0 := eq_deal (x0 : Int) (x1 : Int) (x2 : Int) (x3 : Int)
      clear HX5 HY5
      go_wp2_with fail
      go_ret
      exact ⟨rfl, by rw [hp0]; exact HB5.out⟩
end Go.Proofs.YtaadipccgckehaaGreatDoor
