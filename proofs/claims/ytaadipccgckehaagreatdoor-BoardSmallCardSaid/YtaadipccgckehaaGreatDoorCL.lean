/- Classes: the reference's. -/
import Derived.Test.YtaadipccgckehaaGreatDoorBL
import Derived.Test.YtaadipccgckehaaGreatDoorBI
namespace Go.Proofs.YtaadipccgckehaaGreatDoor
open Go Go.RowKit Go.Maps Pl

/-- What '==' says of two deals. -/
theorem eqU (T : TypeId) (hu : Tryz.prog.underlying T = some (.array 4 22)) (x0 x1 x2 x3 y0 y1 y2 y3 : Int) (w : World) : (Op.equalIn 10000 T (.agg #[.int .u64 x0, .int .u64 x1, .int .u64 x2, .int .u64 x3]) (.agg #[.int .u64 y0, .int .u64 y1, .int .u64 y2, .int .u64 y3])).run Tryz.prog w =
    .ok ((x0 == y0) && ((x1 == y1) && ((x2 == y2) && (x3 == y3)))) w := by
  have he : Tryz.prog.underlying 22 = some (.int .u64) := by kernel_rfl
  have hz : (sizeOf 22).run Tryz.prog w = .ok 1 w := by kernel_rfl
  have hp : ∀ (a b c d : Value) , (part 22 #[a, b, c, d] 0).run Tryz.prog w = .ok a w ∧ (part 22 #[a, b, c, d] 1).run Tryz.prog w = .ok b w ∧ (part 22 #[a, b, c, d] 2).run Tryz.prog w = .ok c w ∧ (part 22 #[a, b, c, d] 3).run Tryz.prog w = .ok d w := fun a b c d => ⟨by kernel_rfl, by kernel_rfl, by kernel_rfl, by kernel_rfl⟩
  have e : ∀ a b : Int, (Op.equalIn 9999 22 (.int .u64 a) (.int .u64 b)).run Tryz.prog w = .ok (a == b) w := fun a b => run_equalIn_int w 9998 _ _ _ a b he
  rw [Op.equalIn]
  simp only [Sem.run_bind, run_underlying hu, Result.andThen_ok, hz, Std.Legacy.Range.forIn_eq_forIn_range', Std.Legacy.Range.size, List.range', List.forIn_cons, List.forIn_nil, (hp _ _ _ _).1, e, Sem.run_ite]
  cases h0 : (x0 == y0) <;> cases h1 : (x1 == y1) <;> cases h2 : (x2 == y2) <;> cases h3 : (x3 == y3) <;> simp [Sem.run_bind, Result.andThen_ok, (hp _ _ _ _).2.1, (hp _ _ _ _).2.2.1, (hp _ _ _ _).2.2.2, e, h1, h2, h3]
theorem eqF (T : TypeId) (hu : Tryz.prog.underlying T = some (.array 4 22)) (x y : Four) (w : World) : (Op.equalIn 10000 T (.agg #[.int .u64 (ofF x 0 : Nat), .int .u64 (ofF x 1 : Nat), .int .u64 (ofF x 2 : Nat), .int .u64 (ofF x 3 : Nat)]) (.agg #[.int .u64 (ofF y 0 : Nat), .int .u64 (ofF y 1 : Nat), .int .u64 (ofF y 2 : Nat), .int .u64 (ofF y 3 : Nat)])).run Tryz.prog w =
    .ok (decide (x = y)) w := by
  have hb : (((ofF x 0 : Nat) : Int) == ((ofF y 0 : Nat) : Int) && (((ofF x 1 : Nat) : Int) == ((ofF y 1 : Nat) : Int) && (((ofF x 2 : Nat) : Int) == ((ofF y 2 : Nat) : Int) && ((ofF x 3 : Nat) : Int) == ((ofF y 3 : Nat) : Int)))) = decide (x = y) := by
    by_cases h : x = y
    · subst h
      simp
    · rw [decide_eq_false h]
      have hn : ¬ (ofF x 0 = ofF y 0 ∧ ofF x 1 = ofF y 1 ∧ ofF x 2 = ofF y 2 ∧ ofF x 3 = ofF y 3) := fun e => h (four_ext e)
      rw [← Bool.not_eq_true]
      intro e
      simp only [Bool.and_eq_true, beq_iff_eq] at e
      exact hn ⟨by omega, by omega, by omega, by omega⟩
  rw [eqU T hu, hb]
def clV (l : List Four) (i : Nat) : List Value := ((classL l).take i).map (fun n : Nat => Value.int .i64 (n : Int))
theorem clV_0 (l : List Four) : clV l 0 = [] := by simp [clV]
theorem clV_s (l : List Four) (i : Nat) (x : Four) (hx : l[i]? = some x) : clV l (i + 1) = clV l i ++ [.int .i64 (firstIx l x : Nat)] := by
  have h : (classL l)[i]? = some (firstIx l x) := by simp [classL, hx]
  obtain ⟨hlt, hv⟩ := List.getElem?_eq_some_iff.1 h
  unfold clV
  rw [List.take_succ_eq_append_getElem hlt, List.map_append, hv]
  rfl
theorem nr_own {w' : World} {B N : Nat} {A : Option Addr} {c : Nat} {l : List Four} (hN : l.length = N) (h : w'.ownsRow B 3 1 (.slice A N c) N (clV l N)) : NR w' (.slice A N c) (classL l) := by
  subst hN
  rcases Nat.eq_zero_or_pos l.length with h0 | h0
  · have hl : l = [] := List.length_eq_zero_iff.1 h0
    subst hl
    rcases h.2 with ⟨h2, _⟩ | ⟨g, cap, cur, e, _, hg, _⟩
    · injection h2 with h3 h4 h5
      subst h3 h5
      exact .none_
    · injection e with e1 e2 e3
      subst e1 e3
      exact NR.some_ (W := w') g 0 c [] (Array.getElem?_eq_some_iff.1 hg).1 (fun i n hi => by simp at hi)
  · obtain ⟨g, cap, e2, _, _⟩ := own_some h h0
    injection e2 with e3 _ _
    subst e3
    have hc := h.cells (g := g) rfl
    have hlen := class_len l
    have := NR.some_ (W := w') g 0 c (classL l) (h.lt g rfl).2 (fun i n hi => by
      have := hc i (.int .i64 (n : Int)) (by
        unfold clV
        rw [← hlen, List.take_length, List.getElem?_map, hi]
        rfl)
      rwa [add_at] at this)
    rwa [hlen] at this
theorem info_int' : (Tryz.prog.info? 3).map (fun i => (i.zero, i.size, i.bytes)) = some (some (.int .i64 0), 1, 8) := by kernel_rfl
set_option maxRecDepth 100000 in
set_option maxHeartbeats 4000000 in
theorem rclasses_any (v : Value) (l : List Four) (hl : l.length ≤ 100000) (hall : ∀ (j : Nat) (y : Four), l[j]? = some y → F64 y) (w : World) (hd : DR 23 w v l) : Calls Tryz.prog 31 #[v] w (RetCls w l) := by
  obtain ⟨A, cap, rfl⟩ := hd.len
  obtain ⟨N, hN⟩ : ∃ N, l.length = N := ⟨_, rfl⟩
  have HN := Lib.hid hN
  have HD := Lib.hid hd
  have HA := Lib.hid hall
  rw [hN] at hl ⊢
  clear hd hall hN
  by_cases h1 : 24 < N
  · have t1 : decide (24 < (N : Int)) = true := decide_eq_true (by omega)
    have t1b : decide (24 < N) = true := decide_eq_true h1
    have HX := Lib.hid h1
    clear h1
    go_enter Tryz.func31, Tryz.ntmps31
    go_wp2
    go_ret2
    exact ret_cls_many (by rw [HN.out]; exact HX.out) (Below.refl _ _) rfl
  have t1 : decide (24 < (N : Int)) = false := decide_eq_false (by omega)
  have t1b : decide (24 < N) = false := decide_eq_false h1
  have HX := Lib.hid h1
  obtain ⟨i0, hi0, hz0, hz1, hz2⟩ := info_parts info_int'
  go_enter Tryz.func31, Tryz.ntmps31
  go_wp2_with fail
  clear t1 t1b h1
  obtain ⟨B, hB⟩ : ∃ B, w.heap.size = B := ⟨_, rfl⟩
  have HBQ := Lib.hid hB
  clear hB
  go_loopw [4, 5] (fun s4 s5 wr => ∃ (i : Nat) (v : Value), i ≤ N ∧ s5 = .int .i64 (i : Int) ∧ s4 = v ∧ Hid (wr.ownsRow B 3 1 v i (clV l i)) ∧ Hid (Below B w wr) ∧ Hid (∀ (j : Nat) (y : Four), j < i → l[j]? = some y → rightB (ofF y) = true)) (fun _ s5 _ => N - (intOf s5).toNat)
  case atStart => exact ⟨0, _, by omega, rfl, rfl, Lib.hid ⟨by simp [clV_0], .inl ⟨rfl, rfl⟩⟩, Lib.hid (Below.refl _ _), Lib.hid (fun j y hj => absurd hj (by omega))⟩
  case round =>
    obtain ⟨i, v, hi, rfl, rfl, HRW, HBW, HRT⟩ := hrel
    obtain ⟨A1, c1, rfl⟩ := own_slice HRW.out
    by_cases hlt : i < N
    · have u1 : decide ((i : Int) < (N : Int)) = true := decide_eq_true (by omega)
      have u2 : decide (i < N) = true := decide_eq_true hlt
      obtain ⟨x, hx⟩ : ∃ x, l[i]? = some x := ⟨_, List.getElem?_eq_getElem (by rw [HN.out]; exact hlt)⟩
      have HDx := HD.out.keep (by have := HBW.out; rwa [← HBQ.out] at this)
      rw [HN.out] at HDx
      obtain ⟨b, o, rfl, hcells⟩ := HDx.at hx
      have HDY := Lib.hid HDx
      have c0 := hcells 0 (by omega)
      have c1' := hcells 1 (by omega)
      have c2 := hcells 2 (by omega)
      have c3 := hcells 3 (by omega)
      rw [Nat.add_zero] at c0
      have H64 := Lib.hid (HA.out i x hx)
      have HXI := Lib.hid hx
      have RT := Lib.hid (fun W => rright_any (ofF x) H64.out W)
      clear hx hcells HDx
      go_wp2_with fail
      refine (RT.out _).mono ?_
      rintro e wb ⟨rfl, hb⟩
      have R2 := Lib.hid (own_keep HRW.out hb)
      have HB2 := Lib.hid (HBW.out.trans (hb.mono (by have := HBW.out.size; rw [HBQ.out] at this; omega)))
      have HD2 := Lib.hid (HDY.out.keep hb)
      clear hb c0 c1' c2 c3 HRW HBW HDY RT
      rcases hr : rightB (ofF x) with _ | _
      · have HE := Lib.hid (all_bad HXI.out hr)
        clear hr
        go_wp2_with fail
        go_ret2
        exact ret_cls_bad (by rw [HN.out]; exact HX.out) HE.out (by rw [HBQ.out]; exact HB2.out) rfl
      have HRT2 : Hid (∀ (j : Nat) (y : Four), j < i + 1 → l[j]? = some y → rightB (ofF y) = true) := Lib.hid (fun j y hj hy => by
        rcases Nat.lt_or_ge j i with h | h
        · exact HRT.out j y h hy
        · obtain rfl : j = i := by omega
          rw [HXI.out] at hy
          obtain rfl := Option.some.inj hy
          exact hr)
      clear hr HRT
      go_wp2_with fail
      go_loopw [6, 7] (fun s6 s7 wq => ∃ (κ F : Nat), κ ≤ i + 1 ∧ F ≤ i ∧ s7 = .int .i64 ((κ : Int) - 1) ∧ s6 = .int .i64 (F : Int) ∧ Hid (l[F]? = some x ∧ ∀ j, κ ≤ j → j < F → l[j]? ≠ some x) ∧ Hid (Below wb.heap.size wb wq)) (fun _ s7 _ => (intOf s7 + 1).toNat)
      case atStart => exact ⟨i + 1, i, by omega, by omega, by simp, rfl, Lib.hid ⟨HXI.out, fun j h1 h2 => absurd h2 (by omega)⟩, Lib.hid (Below.refl _ _)⟩
      case round =>
        obtain ⟨κ, F, hκ, hF, rfl, rfl, HF, HBR⟩ := hrel
        have R3 := Lib.hid (own_keep R2.out HBR.out)
        have HB3 := Lib.hid (HB2.out.trans (HBR.out.mono (by have := HB2.out.size; rw [HBQ.out] at this; omega)))
        rcases κ with _ | m
        · have hfx : F = firstIx l x := first_back HXI.out HF.out.1 HF.out.2 rfl
          have hcs := clV_s l i x HXI.out
          have HS : Hid (∀ (v' : Value) (w' : World), w'.ownsRow B 3 1 v' (i + 1) (clV l i ++ [.int .i64 (F : Int)]) → w'.ownsRow B 3 1 v' (i + 1) (clV l (i + 1))) := Lib.hid (fun v' w' h => by rw [hcs, ← hfx]; exact h)
          have t0 : ((0 : Nat) : Int) - 1 = -1 := rfl
          have e2 := inc64 i (by omega)
          have hBs : B ≤ wr.heap.size := by have := HB3.out.size; rw [HBQ.out] at this; exact this
          rw [t0]
          clear hfx hcs R2 HB2 HF HBR t0
          generalize clV l i = XS at *
          go_wp2_with (at_builtin; refine appN rfl (.tmp 39) (.tmp 41) rfl Tryz.underlying60 hi0 hz0 hz1 hz2 rfl (by decide) wr B _ i XS [.int .i64 (F : Int)] rfl (by simp [Value.oneCell']) rfl rfl R3.out hBs (by omega) (by decide) ?_; intro v' w6 hr6 hb6; have N6 := Lib.hid (HS.out _ _ hr6); have HB6 := Lib.hid (HB3.out.trans hb6); clear hr6 hb6 HS)
          go_roundw
          case rel => exact ⟨i + 1, _, by omega, by simp, rfl, N6, HB6, HRT2⟩
          case measure => simp [intOf]; try omega
        · have t0 : ((m + 1 : Nat) : Int) - 1 = (m : Int) := by omega
          have t1 : decide (0 ≤ (m : Int)) = true := decide_eq_true (by omega)
          have hml : m < N := by omega
          have t2 : decide ((m : Int) < (N : Int)) = true := decide_eq_true (by omega)
          have e2 : IntKind.i64.wrap ((m : Int) - 1) = (m : Int) - 1 := IntWalk.i64_in _ (by omega)
          obtain ⟨y, hy⟩ : ∃ y, l[m]? = some y := ⟨_, List.getElem?_eq_getElem (by rw [HN.out]; exact hml)⟩
          have HDm := HD2.out.keep HBR.out
          obtain ⟨b1, o1, q1, hm⟩ := HDm.at hy
          obtain ⟨b2, o2, q2, hi2⟩ := HDm.at HXI.out
          have eq1 := Option.some.inj q1
          have eq2 := Option.some.inj q2
          cases eq1
          cases eq2
          have c0 := hm 0 (by omega)
          have c1' := hm 1 (by omega)
          have c2 := hm 2 (by omega)
          have c3 := hm 3 (by omega)
          rw [Nat.add_zero] at c0
          have d0 := hi2 0 (by omega)
          have d1 := hi2 1 (by omega)
          have d2 := hi2 2 (by omega)
          have d3 := hi2 3 (by omega)
          rw [Nat.add_zero] at d0
          have EQ := fun W => eqF 23 Tryz.underlying23 y x W
          have HY := Lib.hid hy
          clear hy hm hi2 HDm q1 q2 R3 HB3
          rw [t0]
          clear t0
          by_cases hyx : y = x
          · rw [decide_eq_true hyx] at EQ
            have HNX : Hid (l[m]? = some x ∧ ∀ j, m ≤ j → j < m → l[j]? ≠ some x) := Lib.hid ⟨by rw [HY.out, hyx], fun j h1 h2 => absurd h2 (by omega)⟩
            clear hyx HF
            go_wp2_with fail
            go_quiet (fail)
            have HBN := Lib.hid (below_drewN HBR.out nq)
            clear c0 c1' c2 c3 d0 d1 d2 d3 EQ HBR
            generalize World.drewN _ nq = WN at *
            go_wp2_with fail
            go_roundw
            case rel => exact ⟨m, m, by omega, by omega, by simp, rfl, HNX, HBN⟩
            case measure => simp [intOf]; try omega
          · rw [decide_eq_false hyx] at EQ
            have HNX : Hid (l[F]? = some x ∧ ∀ j, m ≤ j → j < F → l[j]? ≠ some x) := Lib.hid ⟨HF.out.1, fun j h1 h2 => by
              rcases Nat.lt_or_ge j (m + 1) with h | h
              · obtain rfl : j = m := by omega
                rw [HY.out]
                exact fun e => hyx (Option.some.inj e)
              · exact HF.out.2 j h h2⟩
            clear hyx HF
            go_wp2_with fail
            go_quiet (fail)
            have HBN := Lib.hid (below_drewN HBR.out nq)
            clear c0 c1' c2 c3 d0 d1 d2 d3 EQ HBR
            generalize World.drewN _ nq = WN at *
            go_wp2_with fail
            go_roundw
            case rel => exact ⟨m, F, by omega, by omega, by simp, rfl, HNX, HBN⟩
            case measure => simp [intOf]; try omega
    · obtain rfl : i = N := by omega
      have u1 : decide ((i : Int) < (i : Int)) = false := decide_eq_false (by omega)
      have u2 : decide (i < i) = false := decide_eq_false (by omega)
      have HR := Lib.hid (ret_cls (by rw [HN.out]; exact HX.out) (all_good (fun j y hy => HRT.out j y (by rw [← HN.out]; exact (List.getElem?_eq_some_iff.1 hy).1) hy)) (by rw [HBQ.out]; exact HBW.out) (by rw [HN.out]) (by rw [HN.out]; exact nr_own HN.out HRW.out))
      clear hi0 hz0 hz1 hz2 HRW HBW
      go_wp2_with fail
      go_ret2
      exact HR.out
end Go.Proofs.YtaadipccgckehaaGreatDoor
