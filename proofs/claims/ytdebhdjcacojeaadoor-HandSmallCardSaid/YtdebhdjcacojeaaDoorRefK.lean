/- The contract of the reference's Suits. -/
import Derived.Test.YtdebhdjcacojeaaDoorRefJ
namespace Go.Proofs.YtdebhdjcacojeaaDoor
open Go.RowKit

/-- What the i-th place holds after k suits. -/
def sv (a b c d k i : Nat) : Nat := if i < k then lk a b c d i else 0
theorem sv_0 (a b c d i : Nat) : sv a b c d 0 i = 0 := by unfold sv; rw [if_neg (by omega)]
theorem sv_4 (a b c d i : Nat) (h : i < 4) : sv a b c d 4 i = lk a b c d i := by unfold sv; rw [if_pos h]
theorem sv_old (a b c d k i : Nat) (h : i ≠ k) : sv a b c d (k + 1) i = sv a b c d k i := by
  unfold sv
  by_cases h2 : i < k
  · rw [if_pos (by omega), if_pos h2]
  · rw [if_neg (by omega), if_neg h2]
theorem sv_new (a b c d k : Nat) : sv a b c d (k + 1) k = lk a b c d k := by unfold sv; rw [if_pos (by omega)]
theorem sv_set (a b c d k j : Nat) (hk : k < 4) (hj : lk a b c d k = j) : (#[.int .u8 (sv a b c d k 0 : Nat), .int .u8 (sv a b c d k 1 : Nat), .int .u8 (sv a b c d k 2 : Nat), .int .u8 (sv a b c d k 3 : Nat)] : Array Value).setIfInBounds k (.int .u8 (j : Nat)) = #[.int .u8 (sv a b c d (k + 1) 0 : Nat), .int .u8 (sv a b c d (k + 1) 1 : Nat), .int .u8 (sv a b c d (k + 1) 2 : Nat), .int .u8 (sv a b c d (k + 1) 3 : Nat)] := by
  subst hj
  rcases (by omega : k = 0 ∨ k = 1 ∨ k = 2 ∨ k = 3) with rfl | rfl | rfl | rfl
  · rw [sv_new, sv_old _ _ _ _ _ 1 (by omega), sv_old _ _ _ _ _ 2 (by omega), sv_old _ _ _ _ _ 3 (by omega)]; rfl
  · rw [sv_new, sv_old _ _ _ _ _ 0 (by omega), sv_old _ _ _ _ _ 2 (by omega), sv_old _ _ _ _ _ 3 (by omega)]; rfl
  · rw [sv_new, sv_old _ _ _ _ _ 0 (by omega), sv_old _ _ _ _ _ 1 (by omega), sv_old _ _ _ _ _ 3 (by omega)]; rfl
  · rw [sv_new, sv_old _ _ _ _ _ 0 (by omega), sv_old _ _ _ _ _ 1 (by omega), sv_old _ _ _ _ _ 2 (by omega)]; rfl
theorem sv_get (a b c d k : Nat) (hk : k < 4) : ∃ v : Value, (#[.int .u8 (sv a b c d k 0 : Nat), .int .u8 (sv a b c d k 1 : Nat), .int .u8 (sv a b c d k 2 : Nat), .int .u8 (sv a b c d k 3 : Nat)] : Array Value)[k]? = some v := ⟨_, Array.getElem?_eq_getElem (by simpa using hk)⟩
def cS (L : Nat → Nat) (N : Nat) : Nat := if N = 0 then 4 else cntS L (N - 1) 4
theorem cS_top (L : Nat → Nat) (h : ∀ i, L i ≤ 13) : cS L 14 = 0 := by unfold cS; rw [if_neg (by omega)]; exact cntS_top L h
theorem cS_at (L : Nat → Nat) (n : Nat) : cS L (n + 1) = cntS L n 4 := by unfold cS; rw [if_neg (by omega), Nat.add_sub_cancel]
theorem cS_next (L : Nat → Nat) (n : Nat) : cntS L n 0 = cS L n := by
  unfold cS
  by_cases h : n = 0
  · rw [if_pos h, h]; exact cntS_end L
  · rw [if_neg h, cntS_next, Nat.sub_add_cancel (by omega)]
theorem cS_0 (L : Nat → Nat) : cS L 0 = 4 := if_pos rfl
theorem cntS_le (L : Nat → Nat) (n j : Nat) : cntS L n j ≤ 4 := by
  unfold cntS o1
  repeat' split
  all_goals omega
attribute [irreducible] sv cS
structure InvS (w0 w : World) (b2 b3 : Nat) (A : Array Value) : Prop where
  below : Below w0.heap.size w0 w
  z : Blk w b2 42 #[.int .u8 0, .int .u8 0, .int .u8 0, .int .u8 0]
  a : Blk w b3 42 A
set_option maxRecDepth 100000 in
set_option maxHeartbeats 4000000 in
theorem rsuits_any (m a b c d : Nat) (w : World) (hm : m < 18446744073709551616) (hq : sortTo (shp m) 4 = (a, b, c, d)) :
    Calls Tryd.prog 36 #[.int .u64 (m : Nat)] w fun e w' => e = .returned (.agg #[.int .u8 (a : Nat), .int .u8 (b : Nat), .int .u8 (c : Nat), .int .u8 (d : Nat)]) ∧ Below w.heap.size w w' := by
  have hall := shp_le m
  have PS := Lib.hid (fun n j => suit_step (shp m) a b c d n j hq)
  have CT := Lib.hid (cS_top (shp m) hall)
  have S0 := Lib.hid (fun i => sv_0 a b c d i)
  clear hq hall
  go_enter Tryd.func36, Tryd.ntmps36
  go_upto_region 2 with fail
  have h0 : InvS w ((w.alloc (.cells #[.int .u8 0, .int .u8 0, .int .u8 0, .int .u8 0] 42)).alloc (.cells #[.int .u8 0, .int .u8 0, .int .u8 0, .int .u8 0] 42)) w.heap.size (w.heap.size + 1) #[.int .u8 (sv a b c d 0 0 : Nat), .int .u8 (sv a b c d 0 1 : Nat), .int .u8 (sv a b c d 0 2 : Nat), .int .u8 (sv a b c d 0 3 : Nat)] := by
    simp only [S0.out]
    exact ⟨((Below.refl _ _).alloc (Nat.le_refl _) _).alloc (by simp) _, (Blk.new _ _ _).alloc _, by simpa using Blk.new (w.alloc (.cells #[.int .u8 0, .int .u8 0, .int .u8 0, .int .u8 0] 42)) 42 #[.int .u8 0, .int .u8 0, .int .u8 0, .int .u8 0]⟩
  have g2 : w.heap.size ≤ w.heap.size := Nat.le_refl _
  have g3 : w.heap.size ≤ w.heap.size + 1 := by omega
  have n23 : w.heap.size ≠ w.heap.size + 1 := by omega
  generalize (w.alloc (.cells #[.int .u8 0, .int .u8 0, .int .u8 0, .int .u8 0] 42)).alloc (.cells #[.int .u8 0, .int .u8 0, .int .u8 0, .int .u8 0] 42) = w1 at *
  obtain ⟨b3, hb3⟩ : ∃ b3, b3 = w.heap.size + 1 := ⟨_, rfl⟩
  rw [← hb3] at h0 g3 n23 ⊢
  generalize hb2 : w.heap.size = b2 at h0 n23
  have g2 : w.heap.size ≤ b2 := by omega
  clear hb2 hb3
  have H0 := Lib.hid h0
  clear h0
  go_wp2_with fail
  go_loopw [4, 5] (fun v4 v5 wr => ∃ N : Nat, N ≤ 14 ∧ v4 = .int .i64 (cS (shp m) N : Nat) ∧ v5 = .int .i64 ((N : Int) - 1) ∧ InvS w wr b2 b3 #[.int .u8 (sv a b c d (cS (shp m) N) 0 : Nat), .int .u8 (sv a b c d (cS (shp m) N) 1 : Nat), .int .u8 (sv a b c d (cS (shp m) N) 2 : Nat), .int .u8 (sv a b c d (cS (shp m) N) 3 : Nat)]) (fun _ v5 _ => (intOf v5 + 1).toNat)
  case atStart => exact ⟨14, by omega, by rw [CT.out]; rfl, rfl, by rw [CT.out]; exact H0.out⟩
  case round =>
    obtain ⟨N, hN, rfl, rfl, hi⟩ := hrel
    clear H0
    obtain ⟨wo, rfl⟩ : ∃ wo : World, wo = wr := ⟨_, rfl⟩
    rcases Nat.eq_zero_or_pos N with h0 | h0
    · subst h0
      rw [cS_0] at hi ⊢
      rw [sv_4 _ _ _ _ 0 (by omega), sv_4 _ _ _ _ 1 (by omega), sv_4 _ _ _ _ 2 (by omega), sv_4 _ _ _ _ 3 (by omega)] at hi
      have HI := Lib.hid hi
      clear hi
      have x0 := HI.out.a.cell (j := 0) (v := .int .u8 (a : Nat)) rfl
      have x1 := HI.out.a.cell (j := 1) (v := .int .u8 (b : Nat)) rfl
      have x2 := HI.out.a.cell (j := 2) (v := .int .u8 (c : Nat)) rfl
      have x3 := HI.out.a.cell (j := 3) (v := .int .u8 (d : Nat)) rfl
      have y0 := HI.out.z.cell (j := 0) (v := .int .u8 0) rfl
      have z0 := HI.out.z.free 0
      have y1 := HI.out.z.cell (j := 1) (v := .int .u8 0) rfl
      have z1 := HI.out.z.free 1
      have y2 := HI.out.z.cell (j := 2) (v := .int .u8 0) rfl
      have z2 := HI.out.z.free 2
      have y3 := HI.out.z.cell (j := 3) (v := .int .u8 0) rfl
      have z3 := HI.out.z.free 3
      go_wp2_with fail
      refine bodyPost_ret (v := .agg #[.int .u8 (a : Nat), .int .u8 (b : Nat), .int .u8 (c : Nat), .int .u8 (d : Nat)]) (by simp [results, Tryd.results36, go_sem, y0, y1, y2, y3]) rfl ⟨rfl, ?_⟩
      exact set4 HI.out.below g2
    · obtain ⟨n, rfl⟩ : ∃ n, N = n + 1 := ⟨N - 1, by omega⟩
      have t1 : ((n + 1 : Nat) : Int) - 1 = (n : Int) := by omega
      rw [t1]
      clear t1
      have t3 : decide ((0 : Int) ≤ (n : Int)) = true := decide_eq_true (by omega)
      rw [cS_at] at hi ⊢
      have HN := Lib.hid (cS_next (shp m) n)
      have HI := Lib.hid hi
      clear hi
      go_wp2_with fail
      go_loopw [4, 6] (fun v4 v6 wr => ∃ J : Nat, J ≤ 4 ∧ v4 = .int .i64 (cntS (shp m) n J : Nat) ∧ v6 = .int .i64 ((J : Int) - 1) ∧ InvS w wr b2 b3 #[.int .u8 (sv a b c d (cntS (shp m) n J) 0 : Nat), .int .u8 (sv a b c d (cntS (shp m) n J) 1 : Nat), .int .u8 (sv a b c d (cntS (shp m) n J) 2 : Nat), .int .u8 (sv a b c d (cntS (shp m) n J) 3 : Nat)]) (fun _ v6 _ => (intOf v6 + 1).toNat)
      case atStart => exact ⟨4, by omega, rfl, rfl, HI.out⟩
      case round =>
        obtain ⟨J, hJ, rfl, rfl, hi⟩ := hrel
        clear HI
        obtain ⟨wo1, rfl⟩ : ∃ wo : World, wo = wr := ⟨_, rfl⟩
        have HI := Lib.hid hi
        clear hi
        rcases Nat.eq_zero_or_pos J with j0 | j0
        · subst j0
          go_wp2_with fail
          first
            | exact ⟨⟨n, by omega, by rw [← HN.out], by simp, by rw [← HN.out]; exact HI.out⟩, by simp [intOf]⟩
            | (refine ⟨?_, by simp [intOf]⟩; (repeat apply Exists.intro); exact ⟨⟨n, by omega, by rw [← HN.out], by simp, by rw [← HN.out]; exact HI.out⟩, rfl⟩)
        · obtain ⟨j, rfl⟩ : ∃ j, J = j + 1 := ⟨J - 1, by omega⟩
          have t1 : ((j + 1 : Nat) : Int) - 1 = (j : Int) := by omega
          rw [t1]
          clear t1
          have tj : decide ((0 : Int) ≤ (j : Int)) = true := decide_eq_true (by omega)
          have hlt : j < 4 := by omega
          have HL := Lib.hid (fun w => length_any m j w hm hlt)
          by_cases he : shp m j = n
          · have hst := PS.out n j hlt he
            have CY := cntS_yes (shp m) n j hlt he
            have hle := cntS_le (shp m) n j
            have HLn : Hid (∀ w, Calls Tryd.prog 45 #[.int .u64 (m : Nat), .int .i64 (j : Nat)] w fun e w' => e = .returned (.int .i64 (n : Nat)) ∧ w = w') := Lib.hid (by rw [← he]; exact HL.out)
            have tn : ((n : Int) == (n : Int)) = true := beq_self_eq_true _
            have HI2 := HI.out
            generalize cntS (shp m) n (j + 1) = k at *
            have hk4 : k < 4 := by omega
            have HCY := Lib.hid CY
            have HST := Lib.hid (sv_set a b c d k j hk4 hst)
            obtain ⟨v, hv⟩ := sv_get a b c d k hk4
            have cv := HI2.a.cell hv
            have fv := HI2.a.free k
            have HI := Lib.hid HI2
            clear HI2 CY hst he hv
            have u0 : IntKind.u8.wrap (j : Int) = (j : Int) := IntWalk.u8_in _ (by omega)
            go_wp2_with fail
            refine (HLn.out _).mono ?_
            rintro e w1 ⟨rfl, rfl⟩
            go_wp2_with fail
            have h2 : InvS w (wo1.setCell ⟨b3, k, none⟩ (.int .u8 (j : Nat))) b2 b3 #[.int .u8 (sv a b c d (k + 1) 0 : Nat), .int .u8 (sv a b c d (k + 1) 1 : Nat), .int .u8 (sv a b c d (k + 1) 2 : Nat), .int .u8 (sv a b c d (k + 1) 3 : Nat)] := ⟨HI.out.below.setCell (p := ⟨b3, k, none⟩) g3 _, HI.out.z.other n23 k _, by rw [← HST.out]; exact HI.out.a.set k _⟩
            first
              | exact ⟨⟨j, by omega, by rw [HCY.out]; go_num, by simp, by rw [HCY.out]; exact h2⟩, by simp [intOf]⟩
              | (refine ⟨?_, by simp [intOf]⟩; (repeat apply Exists.intro); exact ⟨⟨j, by omega, by rw [HCY.out]; go_num, by simp, by rw [HCY.out]; exact h2⟩, rfl⟩)
          · have CN := Lib.hid (cntS_no (shp m) n j hlt he)
            have tn : (((shp m j : Nat) : Int) == (n : Int)) = false := beq_eq_false_iff_ne.2 (by omega)
            clear he
            generalize shp m j = l at *
            go_wp2_with fail
            refine (HL.out _).mono ?_
            rintro e w1 ⟨rfl, rfl⟩
            go_wp2_with fail
            first
              | exact ⟨⟨j, by omega, by rw [CN.out], by simp, by rw [CN.out]; exact HI.out⟩, by simp [intOf]⟩
              | (refine ⟨?_, by simp [intOf]⟩; (repeat apply Exists.intro); exact ⟨⟨j, by omega, by rw [CN.out], by simp, by rw [CN.out]; exact HI.out⟩, rfl⟩)
end Go.Proofs.YtdebhdjcacojeaaDoor
