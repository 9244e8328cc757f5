/- A list of deals: the program's classes are the reference's. -/
import Derived.Test.YtaadipccgckehaaGreatDoorDiffA
import Derived.Test.YtaadipccgckehaaGreatDoorKtM
namespace Go.Proofs.YtaadipccgckehaaGreatDoor
open Go Go.RowKit Pl

/-- The cells of a list of deals. -/
def dV (l : List Four) : List Value := l.flatMap (fun x => [.int .u64 (ofF x 0 : Nat), .int .u64 (ofF x 1 : Nat), .int .u64 (ofF x 2 : Nat), .int .u64 (ofF x 3 : Nat)])
theorem dV_len (l : List Four) : (dV l).length = l.length * 4 := by
  induction l with
  | nil => rfl
  | cons x t ih => simp only [dV, List.flatMap_cons, List.length_append, List.length_cons, List.length_nil] at ih ⊢; omega
theorem dV_app (l m : List Four) : dV (l ++ m) = dV l ++ dV m := by simp [dV]
theorem dV_at : ∀ (l : List Four) (i : Nat) (x : Four), l[i]? = some x → ∀ k, k < 4 → (dV l)[i * 4 + k]? = some (.int .u64 (ofF x k : Nat))
  | [], i, x, h, _, _ => by simp at h
  | y :: l, 0, x, h, k, hk => by
    obtain rfl : y = x := by simpa using h
    rcases (by omega : k = 0 ∨ k = 1 ∨ k = 2 ∨ k = 3) with rfl | rfl | rfl | rfl <;> rfl
  | y :: l, i + 1, x, h, k, hk => by
    have ih := dV_at l i x (by simpa using h) k hk
    have e : dV (y :: l) = [.int .u64 (ofF y 0 : Nat), .int .u64 (ofF y 1 : Nat), .int .u64 (ofF y 2 : Nat), .int .u64 (ofF y 3 : Nat)] ++ dV l := by simp [dV]
    rw [e, show (i + 1) * 4 + k = 4 + (i * 4 + k) by omega, List.getElem?_append_right (by simp), show 4 + (i * 4 + k) - [Value.int .u64 (ofF y 0 : Nat), .int .u64 (ofF y 1 : Nat), .int .u64 (ofF y 2 : Nat), .int .u64 (ofF y 3 : Nat)].length = i * 4 + k from Nat.add_sub_cancel_left ..]
    exact ih
theorem dV_one (l : List Four) : ∀ u ∈ dV l, u.oneCell' = true := by
  intro u hu
  simp only [dV, List.mem_flatMap] at hu
  obtain ⟨x, _, hx⟩ := hu
  simp only [List.mem_cons, List.not_mem_nil, or_false] at hx
  rcases hx with rfl | rfl | rfl | rfl <;> rfl
theorem dV_back (l : List Four) (j : Nat) (u : Value) (h : (dV l)[j]? = some u) : ∃ x, l[j / 4]? = some x ∧ u = .int .u64 (ofF x (j % 4) : Nat) := by
  have hlt := (List.getElem?_eq_some_iff.1 h).1
  rw [dV_len] at hlt
  obtain ⟨x, hx⟩ : ∃ x, l[j / 4]? = some x := ⟨_, List.getElem?_eq_getElem (by omega)⟩
  have := dV_at l (j / 4) x hx (j % 4) (by omega)
  rw [show j / 4 * 4 + j % 4 = j by omega, h] at this
  exact ⟨x, hx, Option.some.inj this⟩
theorem src_of_dr {t : TypeId} {W : World} {v : Value} {l : List Four} (h : DR t W v l) : SrcR W 4 v l.length (dV l) := by
  cases h with
  | none_ => exact .none_
  | some_ b o cap l hb h =>
    refine .some_ b o _ cap _ (dV_len l) (fun j u hj => ?_)
    obtain ⟨x, hx, rfl⟩ := dV_back l j u hj
    have := h _ x hx (j % 4) (by omega)
    rwa [show o + j / 4 * 4 + j % 4 = o + j by omega] at this
/-- A slice over part of a row. -/
theorem dr_of_own {t : TypeId} {W : World} {B n c : Nat} {A : Option Addr} {l m : List Four} (h : W.ownsRow B t 4 (.slice A n c) n (dV (l ++ m))) (hn : 0 < n) : ∃ g, A = some ⟨g, 0, none⟩ ∧ B ≤ g ∧ g < W.heap.size ∧ n ≤ c ∧ ∀ T, DR T W (.slice (some ⟨g, 0, none⟩) l.length c) l := by
  obtain ⟨g, cap, e2, hB, hc⟩ := own_some h hn
  injection e2 with e3 _ e4
  subst e3 e4
  have hlt := h.lt g rfl
  refine ⟨g, rfl, hB, hlt.2, hc, fun T => DR.some_ g 0 c l hlt.2 (fun i x hi k hk => ?_)⟩
  have h2 := dV_at l i x hi k hk
  have h3 := h.cells (g := g) rfl (i * 4 + k) _ (by rw [dV_app, List.getElem?_append_left (List.getElem?_eq_some_iff.1 h2).1]; exact h2)
  rw [add_at] at h3
  rw [Nat.add_assoc]
  exact h3
theorem dr_of_own0 {t : TypeId} {W : World} {B : Nat} {v : Value} {l : List Four} (h : W.ownsRow B t 4 v l.length (dV l)) (T : TypeId) : DR T W v l := by
  rcases Nat.eq_zero_or_pos l.length with h0 | h0
  · obtain rfl : l = [] := List.length_eq_zero_iff.1 h0
    rcases h.2 with ⟨rfl, _⟩ | ⟨g, cap, cur, rfl, h1, hg, _⟩
    · exact .none_
    · exact DR.some_ g 0 cap [] (Array.getElem?_eq_some_iff.1 hg).1 (fun i x hi => by simp at hi)
  · obtain ⟨A, c, rfl⟩ := own_slice h
    obtain ⟨g, rfl, _, _, _, hd⟩ := dr_of_own (m := []) (by rw [List.append_nil]; exact h) h0
    exact hd T
def clL (l : List Four) : List Nat := if 24 < l.length then [] else if allRight l = true then classL l else []
def clE (l : List Four) : Int := if 24 < l.length then 5 else if allRight l = true then 0 else 60
theorem cls_parts {w w' : World} {l : List Four} {e : Ending} (h : RetCls w l e w') : Below w.heap.size w w' ∧ ∃ A c, e = .returned (.tuple #[.slice A (clL l).length c, .int .i64 (clE l)]) ∧ NR w' (.slice A (clL l).length c) (clL l) := by
  unfold RetCls at h
  obtain ⟨hb, hr⟩ := h
  refine ⟨hb, ?_⟩
  unfold clL clE
  by_cases h1 : 24 < l.length
  · rw [if_pos h1] at hr
    rw [if_pos h1, if_pos h1]
    exact ⟨none, 0, hr, .none_⟩
  · rw [if_neg h1] at hr
    rw [if_neg h1, if_neg h1]
    rcases h2 : allRight l with _ | _
    · rw [h2] at hr
      exact ⟨none, 0, hr, .none_⟩
    · rw [if_pos h2] at hr
      obtain ⟨A, c, he, hn⟩ := hr
      have hl := class_len l
      refine ⟨A, c, ?_, ?_⟩
      · rw [if_pos rfl, if_pos rfl, hl]; exact he
      · rw [if_pos rfl, hl]; exact hn
theorem clL_le (l : List Four) : (clL l).length ≤ l.length := by
  unfold clL
  split
  · simp
  · split
    · rw [class_len]; exact Nat.le_refl _
    · simp
theorem info_deal : (Tryz.prog.info? 24).map (fun i => (i.zero, i.size, i.bytes)) = some (some (.agg #[.int .u64 0, .int .u64 0, .int .u64 0, .int .u64 0]), 4, 32) := by kernel_rfl
theorem info_four : (Tryz.prog.info? 23).map (fun i => (i.zero, i.size, i.bytes)) = some (some (.agg #[.int .u64 0, .int .u64 0, .int .u64 0, .int .u64 0]), 4, 32) := by kernel_rfl
def seven : Four := (7, 0, 0, 0)
/-- What the loops keep: the copy with its mark, and the list of arrays under way. -/
structure LC (w w2 : World) (g B2 N : Nat) (l : List Four) (i : Nat) (v : Value) (W : World) : Prop where
  below : Below B2 w2 W
  row : W.ownsRow B2 23 4 v i (dV (l.take i))
theorem LC.base {w w2 W : World} {g B2 N i : Nat} {l : List Four} {v : Value} (h : LC w w2 g B2 N l i v W) (hq : w2.heap.size = B2) (hb : Below w.heap.size w w2) : Below w.heap.size w W := by
  have := h.below
  rw [← hq] at this
  exact bchain hb this
set_option maxRecDepth 100000 in
set_option maxHeartbeats 4000000 in
theorem lclasses_any (v : Value) (l : List Four) (hl : l.length ≤ 100000) (hall : ∀ (j : Nat) (y : Four), l[j]? = some y → F64 y) (w : World) (hd : DR 24 w v l) : Calls Tryz.prog 18 #[v] w (fun e w' => e = .returned (.bool true) ∧ Below w.heap.size w w') := by
  obtain ⟨A, cap, rfl⟩ := hd.len
  obtain ⟨N, hN⟩ : ∃ N, l.length = N := ⟨_, rfl⟩
  have HN := Lib.hid hN
  have HD := Lib.hid hd
  have HA := Lib.hid hall
  obtain ⟨i0, hi0, hz0, hz1, hz2⟩ := info_parts info_deal
  obtain ⟨i1, hi1, hy0, hy1, hy2⟩ := info_parts info_four
  have HS0 : Hid (SrcR (w.alloc (.cells #[] 24)) 4 (.slice A N cap) N (dV l)) := Lib.hid (by rw [← hN]; exact (src_of_dr hd).keep (below1 _ _))
  rw [hN] at hl ⊢
  clear hd hall hN
  go_enter Tryz.func18, Tryz.ntmps18
  obtain ⟨B, hB⟩ : ∃ B, w.heap.size = B := ⟨_, rfl⟩
  have HBQ := Lib.hid hB
  clear hB
  have hw0 := own_emptyN w 24 4
  have hb0 := below1 w (.cells #[] 24)
  have hs0 : w.heap.size ≤ (w.alloc (.cells #[] 24)).heap.size := hb0.size
  go_wp2_with (first
    | (at_builtin; refine appS rfl (.tmp 14) (.tmp 15) rfl Tryz.underlying44 hi0 hz0 hz1 hz2 rfl (by decide) _ w.heap.size _ 0 [] rfl hw0 _ N (dV l) rfl HS0.out (dV_one l) (by omega) (by decide) hs0 ?_; intro v1 w1 hr1 hg1 _ hb1; clear hw0 hs0; rw [Nat.zero_add, List.nil_append] at hr1; obtain ⟨A1, c1, hv1⟩ := own_slice hr1; subst hv1)
    | (at_builtin; refine appN rfl (.tmp 16) (.tmp 18) rfl Tryz.underlying44 hi0 hz0 hz1 hz2 rfl (by decide) _ w.heap.size _ N (dV l) [.int .u64 7, .int .u64 0, .int .u64 0, .int .u64 0] rfl (by simp [Value.oneCell']) rfl rfl hr1 (Nat.le_trans hb0.size hb1.size) (by omega) (by decide) ?_; intro v2 w2 hr2 hb2; obtain ⟨A2, c2, hv2⟩ := own_slice hr2; subst hv2))
  have hB2 : Below w.heap.size w w2 := (hb0.trans hb1).trans hb2
  have hrow : w2.ownsRow w.heap.size 24 4 (.slice A2 (N + 1) c2) (N + 1) (dV (l ++ [seven])) := by
    rw [dV_app]
    exact hr2
  obtain ⟨g, rfl, hg, hglt, hcap, hsub⟩ := dr_of_own hrow (by omega)
  have hsev := hrow.cells (g := g) rfl
  have hin : ∀ k, k < 4 → w2.cell? ⟨g, N * 4 + k, none⟩ = some (.int .u64 (ofF seven k : Nat)) := fun k hk => by
    have h1 := dV_at (l ++ [seven]) N seven (by rw [← HN.out]; simp) k hk
    have h2 := hsev _ _ h1
    rwa [add_at, Nat.zero_add] at h2
  have HIN := Lib.hid hin
  have HSUB := Lib.hid hsub
  have HB2 := Lib.hid hB2
  have HG := Lib.hid (And.intro hg hglt)
  clear hb0 hb1 hb2 hr1 hr2 hg1 hB2 hrow hsev hin hsub hg hglt HS0
  obtain ⟨B2, hB2⟩ : ∃ B2, w2.heap.size = B2 := ⟨_, rfl⟩
  have HQ2 := Lib.hid hB2
  rw [hB2] at HG
  clear hB2
  go_loopw [4, 22] (fun s4 s22 wr => ∃ (i : Nat) (v : Value), i ≤ N ∧ s22 = .int .i64 (i : Int) ∧ s4 = v ∧ Hid (LC w w2 g B2 N l i v wr)) (fun _ s22 _ => N - (intOf s22).toNat)
  case atStart => exact ⟨0, _, by omega, rfl, rfl, Lib.hid ⟨by rw [← HQ2.out]; exact Below.refl _ _, ⟨by simp [dV], .inl ⟨rfl, rfl⟩⟩⟩⟩
  case round =>
    obtain ⟨i, v, hi, rfl, rfl, HL⟩ := hrel
    obtain ⟨A4, c4, rfl⟩ := own_slice HL.out.row
    by_cases hlt : i < N
    · have u1 : decide ((i : Int) < (N : Int)) = true := decide_eq_true (by omega)
      have u2 : decide (i < N) = true := decide_eq_true hlt
      obtain ⟨x, hx⟩ : ∃ x, l[i]? = some x := ⟨_, List.getElem?_eq_getElem (by rw [HN.out]; exact hlt)⟩
      have HDx := HD.out.keep (HL.out.base HQ2.out HB2.out)
      rw [HN.out] at HDx
      obtain ⟨b, o, rfl, hcells⟩ := HDx.at hx
      have c0 := hcells 0 (by omega)
      have c1' := hcells 1 (by omega)
      have c2' := hcells 2 (by omega)
      have c3 := hcells 3 (by omega)
      rw [Nat.add_zero] at c0
      have HT : Hid (∀ (v' : Value) (w' : World), w'.ownsRow B2 23 4 v' (i + 1) (dV (l.take i) ++ [.int .u64 (ofF x 0 : Nat), .int .u64 (ofF x 1 : Nat), .int .u64 (ofF x 2 : Nat), .int .u64 (ofF x 3 : Nat)]) → w'.ownsRow B2 23 4 v' (i + 1) (dV (l.take (i + 1)))) := Lib.hid (fun v' w' h => by
        obtain ⟨hlt', hv'⟩ := List.getElem?_eq_some_iff.1 hx
        rw [List.take_succ_eq_append_getElem hlt', dV_app, hv']
        exact h)
      have e2 := inc64 i (by omega)
      clear hx hcells HDx
      go_upto_region 6 with fail
      have hb1 := below1 wr (.cells #[.int .u64 (ofF x 0 : Nat), .int .u64 (ofF x 1 : Nat), .int .u64 (ofF x 2 : Nat), .int .u64 (ofF x 3 : Nat)] 24)
      have HDB := Lib.hid (Blk.new wr 24 #[.int .u64 (ofF x 0 : Nat), .int .u64 (ofF x 1 : Nat), .int .u64 (ofF x 2 : Nat), .int .u64 (ofF x 3 : Nat)])
      have hsz := HL.out.below.size
      rw [HQ2.out] at hsz
      have HR1 := Lib.hid (own_keep HL.out.row hb1)
      have HBB := Lib.hid (HL.out.below.trans (hb1.mono hsz))
      have hsz2 := Nat.le_trans hsz hb1.size
      clear c0 c1' c2' c3 hb1 HL
      generalize wr.alloc (.cells #[.int .u64 (ofF x 0 : Nat), .int .u64 (ofF x 1 : Nat), .int .u64 (ofF x 2 : Nat), .int .u64 (ofF x 3 : Nat)] 24) = wa at *
      generalize wr.heap.size = db at *
      have d0 := HDB.out.cell (j := 0) rfl
      have d1 := HDB.out.cell (j := 1) rfl
      have d2 := HDB.out.cell (j := 2) rfl
      have d3 := HDB.out.cell (j := 3) rfl
      generalize dV (l.take i) = XS at *
      go_wp2_with (at_builtin; refine appN rfl (.tmp 26) (.tmp 28) rfl Tryz.underlying72 hi1 hy0 hy1 hy2 rfl (by decide) wa B2 _ i XS [.int .u64 (ofF x 0 : Nat), .int .u64 (ofF x 1 : Nat), .int .u64 (ofF x 2 : Nat), .int .u64 (ofF x 3 : Nat)] rfl (by simp [Value.oneCell']) rfl rfl HR1.out hsz2 (by omega) (by decide) ?_; intro v' w6 hr6 hb6; have N6 : Hid (LC w w2 g B2 N l (i + 1) v' w6) := Lib.hid ⟨HBB.out.trans hb6, HT.out _ _ hr6⟩; clear hr6 hb6 HT)
      go_roundw
      case rel => exact ⟨i + 1, _, by omega, by simp, rfl, N6⟩
      case measure => simp [intOf]; omega
    · obtain rfl : i = N := by omega
      have u1 : decide ((i : Int) < (i : Int)) = false := decide_eq_false (by omega)
      have u2 : decide (i < i) = false := decide_eq_false (by omega)
      have HK : Hid (Below w2.heap.size w2 wr) := Lib.hid (by rw [HQ2.out]; exact HL.out.below)
      have HD1 : Hid (DR 24 wr (.slice (some ⟨g, 0, none⟩) i c2) l) := Lib.hid (by have := (HSUB.out 24).keep HK.out; rwa [HN.out] at this)
      have HD2 : Hid (DR 23 wr (.slice A4 i c4) l) := Lib.hid (by
        have h := HL.out.row
        rw [← HN.out] at h ⊢
        rw [List.take_length] at h
        exact dr_of_own0 h _)
      have hic : i ≤ c2 := by omega
      have C1 := Lib.hid (classes_any (.slice (some ⟨g, 0, none⟩) i c2) l (by rw [HN.out]; exact hl) HA.out wr HD1.out)
      clear hi0 hz0 hz1 hz2 hi1 hy0 hy1 hy2
      go_wp2_with fail
      refine C1.out.mono ?_
      rintro e w3 hr1
      obtain ⟨hb, Aa, ca, he1, hn1⟩ := cls_parts hr1
      have C2 := Lib.hid (rclasses_any (.slice A4 i c4) l (by rw [HN.out]; exact hl) HA.out w3 (HD2.out.keep hb))
      have HK3 := Lib.hid (bchain HK.out hb)
      have HN1 := Lib.hid hn1
      have hcl := clL_le l
      rw [HN.out] at hcl
      clear hb hr1 HK HD1 HD2 HL C1 hn1
      obtain ⟨CL, hCL⟩ : ∃ CL, clL l = CL := ⟨_, rfl⟩
      obtain ⟨CE, hCE⟩ : ∃ CE, clE l = CE := ⟨_, rfl⟩
      have HCL := Lib.hid hCL
      have HCE := Lib.hid hCE
      rw [hCL] at he1 hcl HN1
      rw [hCE] at he1
      obtain ⟨M, hM⟩ : ∃ M, CL.length = M := ⟨_, rfl⟩
      have HM := Lib.hid hM
      rw [hM] at he1 hcl HN1
      subst he1
      clear hCL hCE hM
      go_wp2_with fail
      refine C2.out.mono ?_
      rintro e w4 hr1
      obtain ⟨hb, Ab, cb, he1, hn1⟩ := cls_parts hr1
      rw [HCL.out, HM.out, HCE.out] at he1
      rw [HCL.out, HM.out] at hn1
      subst he1
      have HK4 := Lib.hid (bchain HK3.out hb)
      have HN2 := Lib.hid (HN1.out.keep hb)
      have HN3 := Lib.hid hn1
      have p0 := cell_keep (HIN.out 0 (by omega)) HK4.out
      have p1 := cell_keep (HIN.out 1 (by omega)) HK4.out
      have p2 := cell_keep (HIN.out 2 (by omega)) HK4.out
      have p3 := cell_keep (HIN.out 3 (by omega)) HK4.out
      rw [Nat.add_zero] at p0
      have q0 : ((ofF seven 0 : Nat) : Int) = 7 := rfl
      have q1 : ((ofF seven 1 : Nat) : Int) = 0 := rfl
      have q2 : ((ofF seven 2 : Nat) : Int) = 0 := rfl
      have q3 : ((ofF seven 3 : Nat) : Int) = 0 := rfl
      rw [q0] at p0
      rw [q1] at p1
      rw [q2] at p2
      rw [q3] at p3
      have EQ7 := fun W => eqU 24 Tryz.underlying24 7 0 0 0 7 0 0 0 W
      have t9 : decide ((i : Int) < ((i + 1 : Nat) : Int)) = true := decide_eq_true (by omega)
      clear hb hr1 hn1 C2 HK3 HN1 HCL HCE q0 q1 q2 q3
      go_wp2_with fail
      clear p0 p1 p2 p3 EQ7
      go_loopw [65] (fun s65 wq => ∃ k : Nat, k ≤ M ∧ s65 = .int .i64 (k : Int) ∧ Hid (Below w4.heap.size w4 wq)) (fun s65 _ => M - (intOf s65).toNat)
      case atStart => exact ⟨0, by omega, rfl, Lib.hid (Below.refl _ _)⟩
      case round =>
        obtain ⟨k, hk, rfl, HBK⟩ := hrel
        by_cases hkl : k < M
        · have u1 : decide ((k : Int) < (M : Int)) = true := decide_eq_true (by omega)
          have u2 : decide (k < M) = true := decide_eq_true hkl
          obtain ⟨x, hx⟩ : ∃ x, CL[k]? = some x := ⟨_, List.getElem?_eq_getElem (by rw [HM.out]; exact hkl)⟩
          obtain ⟨b1, o1, rfl, k1⟩ := (HN2.out.keep HBK.out).at hx
          obtain ⟨b2, o2, rfl, k2⟩ := (HN3.out.keep HBK.out).at hx
          have e2 := inc64 k (by omega)
          clear hx
          go_wp2_with fail
          go_quiet (fail)
          have HBN := Lib.hid (below_drewN HBK.out nq)
          clear k1 k2 HBK
          generalize World.drewN _ nq = WN at *
          go_wp2_with fail
          go_roundw
          case rel => exact ⟨k + 1, by omega, by simp, HBN⟩
          case measure => simp [intOf]; omega
        · obtain rfl : k = M := by omega
          have u1 : decide ((k : Int) < (k : Int)) = false := decide_eq_false (by omega)
          have u2 : decide (k < k) = false := decide_eq_false (by omega)
          have HK5 := Lib.hid (bchain HK4.out HBK.out)
          clear HN2 HN3 HK4 HBK
          go_wp2_with fail
          generalize wr = WR at *
          go_loopw [80] (fun s80 wq => ∃ j : Nat, j ≤ i ∧ s80 = .int .i64 (j : Int) ∧ Hid (Below WR.heap.size WR wq)) (fun s80 _ => i - (intOf s80).toNat)
          case atStart => exact ⟨0, by omega, rfl, Lib.hid (Below.refl _ _)⟩
          case round =>
            obtain ⟨j, hj, rfl, HBJ⟩ := hrel
            have HK6 := Lib.hid (bchain HK5.out HBJ.out)
            by_cases hjl : j < i
            · have v1 : decide ((j : Int) < (i : Int)) = true := decide_eq_true (by omega)
              have v2 : decide (j < i) = true := decide_eq_true hjl
              have v3 : decide ((j : Int) < ((i + 1 : Nat) : Int)) = true := decide_eq_true (by omega)
              have v4 : decide (j < i + 1) = true := decide_eq_true (by omega)
              have v5 : (j : Int) < (i : Int) + 1 := by omega
              have v6 : decide ((j : Int) < (i : Int) + 1) = true := decide_eq_true v5
              obtain ⟨x, hx⟩ : ∃ x, l[j]? = some x := ⟨_, List.getElem?_eq_getElem (by rw [HN.out]; exact hjl)⟩
              have HDx := HD.out.keep (bchain HB2.out HK6.out)
              rw [HN.out] at HDx
              obtain ⟨b, o, rfl, hcells⟩ := HDx.at hx
              have c0 := hcells 0 (by omega)
              have c1' := hcells 1 (by omega)
              have c2' := hcells 2 (by omega)
              have c3 := hcells 3 (by omega)
              rw [Nat.add_zero] at c0
              have HDy := (HSUB.out 24).keep HK6.out
              obtain ⟨b', o', eb, hcells2⟩ := HDy.at hx
              have eb2 := Option.some.inj eb
              cases eb2
              have m0 := hcells2 0 (by omega)
              have m1 := hcells2 1 (by omega)
              have m2 := hcells2 2 (by omega)
              have m3 := hcells2 3 (by omega)
              rw [Nat.add_zero, Nat.zero_add] at m0
              rw [Nat.zero_add] at m1 m2 m3
              have e2 := inc64 j (by omega)
              have EQ := fun W => eqF 24 Tryz.underlying24 x x W
              rw [decide_eq_true rfl] at EQ
              clear hx hcells hcells2 HDx HDy eb
              go_upto_region 21 with fail
              have hb1 := below1 wr (.cells #[.int .u64 (ofF x 0 : Nat), .int .u64 (ofF x 1 : Nat), .int .u64 (ofF x 2 : Nat), .int .u64 (ofF x 3 : Nat)] 24)
              have HDB := Lib.hid (Blk.new wr 24 #[.int .u64 (ofF x 0 : Nat), .int .u64 (ofF x 1 : Nat), .int .u64 (ofF x 2 : Nat), .int .u64 (ofF x 3 : Nat)])
              have HBJ2 := Lib.hid (bchain HBJ.out hb1)
              have n0 := cell_keep m0 hb1
              have n1 := cell_keep m1 hb1
              have n2 := cell_keep m2 hb1
              have n3 := cell_keep m3 hb1
              clear c0 c1' c2' c3 m0 m1 m2 m3 hb1 HBJ HK6
              generalize wr.alloc (.cells #[.int .u64 (ofF x 0 : Nat), .int .u64 (ofF x 1 : Nat), .int .u64 (ofF x 2 : Nat), .int .u64 (ofF x 3 : Nat)] 24) = wa at *
              generalize wr.heap.size = db at *
              have d0 := HDB.out.cell (j := 0) rfl
              have d1 := HDB.out.cell (j := 1) rfl
              have d2 := HDB.out.cell (j := 2) rfl
              have d3 := HDB.out.cell (j := 3) rfl
              go_quiet (fail)
              have HBN := Lib.hid (below_drewN HBJ2.out nq)
              clear n0 n1 n2 n3 d0 d1 d2 d3 HBJ2 HDB EQ
              generalize World.drewN _ nq = WN at *
              go_wp2_with fail
              go_roundw
              case rel => exact ⟨j + 1, by omega, by simp, HBN⟩
              case measure => simp [intOf]; omega
            · obtain rfl : j = i := by omega
              have v1 : decide ((j : Int) < (j : Int)) = false := decide_eq_false (by omega)
              have v2 : decide (j < j) = false := decide_eq_false (by omega)
              have HF := Lib.hid (bchain HB2.out HK6.out)
              go_wp2_with fail
              go_ret
              exact ⟨rfl, HF.out⟩
end Go.Proofs.YtaadipccgckehaaGreatDoor
