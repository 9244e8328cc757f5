/- BoardChanges: the walk. -/
import Derived.Test.YtaadipccgckehaaDoorDiffA
import Derived.Test.YtaadipccgckehaaDoorMade
import Derived.Test.YtaadipccgckehaaDoorChgP
import Derived.BigRegion
namespace Go.Proofs.YtaadipccgckehaaDoor
open Go Go.RowKit Pl

/-- What Made returns, as four numbers. -/
def MadeF (w : World) (e : Ending) (w' : World) : Prop := (∃ x : Four, rightB (ofF x) = true ∧ F64 x ∧ e = .returned (.agg #[.int .u64 (ofF x 0 : Nat), .int .u64 (ofF x 1 : Nat), .int .u64 (ofF x 2 : Nat), .int .u64 (ofF x 3 : Nat)])) ∧ Below w.heap.size w w'
theorem made_four {w : World} {v : Value} {l : List Nat} (h : BV w v l) (h8 : ∀ x ∈ l, x < 256) : Calls Tryd.prog 19 #[v] w (MadeF w) := by
  refine (made_any h h8).mono ?_
  rintro e w' ⟨⟨D, h1, h2, rfl⟩, hb⟩
  have hs : ∀ k, k < 4 → D k = ofF (toF D) k := fun k hk => by
    rcases (by omega : k = 0 ∨ k = 1 ∨ k = 2 ∨ k = 3) with rfl | rfl | rfl | rfl <;> rfl
  exact ⟨⟨toF D, by rw [← right_same hs]; exact h1, fun k hk => by rw [← hs k hk]; have := h2 k hk; omega, rfl⟩, hb⟩
/-- What '==' says of two equal arrays of four counts. -/
theorem eqI (x0 x1 x2 x3 : Nat) (w : World) : (Op.equalIn 10000 40 (.agg #[.int .i64 (x0 : Nat), .int .i64 (x1 : Nat), .int .i64 (x2 : Nat), .int .i64 (x3 : Nat)]) (.agg #[.int .i64 (x0 : Nat), .int .i64 (x1 : Nat), .int .i64 (x2 : Nat), .int .i64 (x3 : Nat)])).run Tryd.prog w = .ok true w := by
  have hu : Tryd.prog.underlying 40 = some (.array 4 3) := by kernel_rfl
  have he : Tryd.prog.underlying 3 = some (.int .i64) := by kernel_rfl
  have hz : (sizeOf 3).run Tryd.prog w = .ok 1 w := by kernel_rfl
  have hp : ∀ (a b c d : Value) , (part 3 #[a, b, c, d] 0).run Tryd.prog w = .ok a w ∧ (part 3 #[a, b, c, d] 1).run Tryd.prog w = .ok b w ∧ (part 3 #[a, b, c, d] 2).run Tryd.prog w = .ok c w ∧ (part 3 #[a, b, c, d] 3).run Tryd.prog w = .ok d w := fun a b c d => ⟨by kernel_rfl, by kernel_rfl, by kernel_rfl, by kernel_rfl⟩
  have e : ∀ a b : Int, (Op.equalIn 9999 3 (.int .i64 a) (.int .i64 b)).run Tryd.prog w = .ok (a == b) w := fun a b => run_equalIn_int w 9998 _ _ _ a b he
  rw [Op.equalIn]
  simp only [Sem.run_bind, run_underlying hu, Result.andThen_ok, hz, Std.Legacy.Range.forIn_eq_forIn_range', Std.Legacy.Range.size, List.range', List.forIn_cons, List.forIn_nil, (hp _ _ _ _).1, e, Sem.run_ite]
  simp [Sem.run_bind, Result.andThen_ok, (hp _ _ _ _).2.1, (hp _ _ _ _).2.2.1, (hp _ _ _ _).2.2.2, e]
theorem drew_one (W : World) : W.drewN 1 = W.drew := rfl
/-- Counts as the cells of an array. -/
def iC (F : Nat → Nat) (P : List Nat) : Array Value := #[.int .i64 (own F P 0 : Nat), .int .i64 (own F P 1 : Nat), .int .i64 (own F P 2 : Nat), .int .i64 (own F P 3 : Nat)]
theorem iC_get (F : Nat → Nat) (P : List Nat) (s : Nat) (hs : s < 4) : (iC F P)[s]? = some (.int .i64 (own F P s : Nat)) := by
  rcases (by omega : s = 0 ∨ s = 1 ∨ s = 2 ∨ s = 3) with rfl | rfl | rfl | rfl <;> rfl
theorem iC_set (F : Nat → Nat) (P : List Nat) (c f n : Nat) (hf : owner F c = f) (hn : own F P f = n) : (iC F P).setIfInBounds f (.int .i64 ((n + 1 : Nat) : Int)) = iC F (P ++ [c]) := by
  subst hf hn
  have hlt := owner_lt F c
  unfold iC
  simp only [own_put]
  rcases (by omega : owner F c = 0 ∨ owner F c = 1 ∨ owner F c = 2 ∨ owner F c = 3) with e | e | e | e <;> rw [e] <;> simp
theorem zC_set (D E Z : Nat → Nat) (c f t : Nat) (hf : owner D c = f) (ht : owner E c = t) (hne : f ≠ t) : ((dC Z).setIfInBounds f (.int .u64 (clr (Z f) c : Nat))).setIfInBounds t (.int .u64 (Z t ||| 2 ^ c : Nat)) = dC (zSt D E Z c) := by
  have h1 := owner_lt D c
  have h2 := owner_lt E c
  subst hf ht
  unfold dC
  rcases (by omega : owner D c = 0 ∨ owner D c = 1 ∨ owner D c = 2 ∨ owner D c = 3) with e | e | e | e <;> rcases (by omega : owner E c = 0 ∨ owner E c = 1 ∨ owner E c = 2 ∨ owner E c = 3) with e' | e' | e' | e' <;>
    first | (exfalso; omega) | (simp [zSt, e, e'])
/-- What the loop over the changes keeps: who comes, who leaves, and the deal under way. -/
structure CW (w6 : World) (q : Nat) (x y : Four) (l : List Nat) (i : Nat) (W : World) : Prop where
  below : Below q w6 W
  come : Blk W q 40 (iC (ofF y) (l.take i))
  leave : Blk W (q + 1) 40 (iC (ofF x) (l.take i))
  z : Blk W (q + 2) 35 (dC (zTo (ofF x) (ofF y) (l.take i)))
theorem cw_new {x y : Four} {l : List Nat} (w6 : World) : CW w6 w6.heap.size x y l 0 (((w6.alloc (.cells #[.int .i64 0, .int .i64 0, .int .i64 0, .int .i64 0] 40)).alloc (.cells #[.int .i64 0, .int .i64 0, .int .i64 0, .int .i64 0] 40)).alloc (.cells #[.int .u64 (ofF x 0 : Nat), .int .u64 (ofF x 1 : Nat), .int .u64 (ofF x 2 : Nat), .int .u64 (ofF x 3 : Nat)] 35)) := by
  have e : ∀ F, iC F (l.take 0) = #[.int .i64 0, .int .i64 0, .int .i64 0, .int .i64 0] := fun F => rfl
  refine ⟨((Below.refl _ w6).alloc (Nat.le_refl _) _ |>.alloc (by simp) _).alloc (by simp; omega) _, ?_, ?_, ?_⟩
  · rw [e]; exact ((Blk.new w6 _ _).alloc _).alloc _
  · rw [e]
    have h := (Blk.new (w6.alloc (.cells #[.int .i64 0, .int .i64 0, .int .i64 0, .int .i64 0] 40)) 40 #[.int .i64 0, .int .i64 0, .int .i64 0, .int .i64 0]).alloc (.cells #[.int .u64 (ofF x 0 : Nat), .int .u64 (ofF x 1 : Nat), .int .u64 (ofF x 2 : Nat), .int .u64 (ofF x 3 : Nat)] 35)
    rwa [size_al] at h
  · have h := Blk.new ((w6.alloc (.cells #[.int .i64 0, .int .i64 0, .int .i64 0, .int .i64 0] 40)).alloc (.cells #[.int .i64 0, .int .i64 0, .int .i64 0, .int .i64 0] 40)) 35 #[.int .u64 (ofF x 0 : Nat), .int .u64 (ofF x 1 : Nat), .int .u64 (ofF x 2 : Nat), .int .u64 (ofF x 3 : Nat)]
    rw [size_al, size_al] at h
    exact h
theorem cw_next {w6 : World} {q i cc : Nat} {x y : Four} {l : List Nat} (hs : l.take (i + 1) = l.take i ++ [cc]) (hne : owner (ofF x) cc ≠ owner (ofF y) cc) (W : World) (hb : Below q w6 W)
    (h1 : Blk W q 40 ((iC (ofF y) (l.take i)).setIfInBounds (owner (ofF y) cc) (.int .i64 ((own (ofF y) (l.take i) (owner (ofF y) cc) + 1 : Nat) : Int))))
    (h2 : Blk W (q + 1) 40 ((iC (ofF x) (l.take i)).setIfInBounds (owner (ofF x) cc) (.int .i64 ((own (ofF x) (l.take i) (owner (ofF x) cc) + 1 : Nat) : Int))))
    (h3 : Blk W (q + 2) 35 (((dC (zTo (ofF x) (ofF y) (l.take i))).setIfInBounds (owner (ofF x) cc) (.int .u64 (clr (zTo (ofF x) (ofF y) (l.take i) (owner (ofF x) cc)) cc : Nat))).setIfInBounds (owner (ofF y) cc) (.int .u64 (zTo (ofF x) (ofF y) (l.take i) (owner (ofF y) cc) ||| 2 ^ cc : Nat)))) :
    CW w6 q x y l (i + 1) W := by
  rw [iC_set _ _ cc _ _ rfl rfl] at h1 h2
  rw [zC_set _ _ _ _ _ _ rfl rfl hne, ← zTo_put] at h3
  rw [← hs] at h1 h2 h3
  exact ⟨hb, h1, h2, h3⟩
set_option maxRecDepth 100000 in
set_option maxHeartbeats 4000000 in
theorem changes_walk (v0 v1 : Value) (l0 l1 : List Nat) (w : World) (he : Env w) (h0 : BV w v0 l0) (h08 : ∀ x ∈ l0, x < 256) (h1 : BV w v1 l1) (h18 : ∀ x ∈ l1, x < 256) : Calls Tryd.prog 6 #[v0, v1] w (fun e w' => e = .returned (.bool true) ∧ Below w.heap.size w w') := by
  have M0 := Lib.hid (made_four h0 h08)
  have M1 := Lib.hid (fun w1 (hb : Below w.heap.size w w1) => made_four (h1.keep hb) h18)
  have HE := Lib.hid he
  obtain ⟨A0, c0, rfl, _⟩ := h0.len
  obtain ⟨A1, c1, rfl, _⟩ := h1.len
  clear h0 h1 h08 h18 he
  generalize l0.length = n0 at *
  generalize l1.length = n1 at *
  go_enter Tryd.func6, Tryd.ntmps6
  go_wp2_with fail
  refine M0.out.mono ?_
  rintro e w1 ⟨⟨x, hx, hx64, rfl⟩, hb⟩
  have HB1 := Lib.hid hb
  have HX := Lib.hid (And.intro hx hx64)
  clear hx hx64 M0
  go_wp2_with fail
  refine (M1.out w1 HB1.out).mono ?_
  rintro e w2 ⟨⟨y, hy, hy64, rfl⟩, hb⟩
  have HB2 := Lib.hid (bchain HB1.out hb)
  have HY := Lib.hid (And.intro hy hy64)
  clear hy hy64 hb M1 HB1
  go_upto_region 2 with fail
  have BX := Lib.hid (boxes (w := w2) (D := ofF x) (E := ofF y) 35)
  rw [show dC (ofF x) = #[.int .u64 (ofF x 0 : Nat), .int .u64 (ofF x 1 : Nat), .int .u64 (ofF x 2 : Nat), .int .u64 (ofF x 3 : Nat)] from rfl, show dC (ofF y) = #[.int .u64 (ofF y 0 : Nat), .int .u64 (ofF y 1 : Nat), .int .u64 (ofF y 2 : Nat), .int .u64 (ofF y 3 : Nat)] from rfl] at BX
  generalize (w2.alloc (.cells #[.int .u64 (ofF x 0 : Nat), .int .u64 (ofF x 1 : Nat), .int .u64 (ofF x 2 : Nat), .int .u64 (ofF x 3 : Nat)] 35)).alloc (.cells #[.int .u64 (ofF y 0 : Nat), .int .u64 (ofF y 1 : Nat), .int .u64 (ofF y 2 : Nat), .int .u64 (ofF y 3 : Nat)] 35) = W3 at *
  obtain ⟨ba, bb, bw⟩ := BX.out
  have BA := Lib.hid ba
  have BB := Lib.hid bb
  have BW := Lib.hid (bchain HB2.out bw)
  have HP5 : Hid (w.heap.size ≤ w2.heap.size) := Lib.hid HB2.out.size
  clear ba bb bw BX HB2
  generalize w2.heap.size = p5 at *
  have C1 := Lib.hid (fun W => changes_any (ofF x) (ofF y) HX.out.2 HY.out.2 W)
  have C2 := Lib.hid (fun W => changes_any (ofF y) (ofF x) HY.out.2 HX.out.2 W)
  have C3 := Lib.hid (fun W => changes_any (ofF x) (ofF x) HX.out.2 HX.out.2 W)
  have BR : Hid (∀ a b, rightB a = true → rightB b = true → bothR a b = true) := Lib.hid (fun a b h1 h2 => by unfold bothR; rw [h1, h2]; rfl)
  have a0 := BA.out.cell (j := 0) rfl
  have a1 := BA.out.cell (j := 1) rfl
  have a2 := BA.out.cell (j := 2) rfl
  have a3 := BA.out.cell (j := 3) rfl
  have b0 := BB.out.cell (j := 0) rfl
  have b1 := BB.out.cell (j := 1) rfl
  have b2 := BB.out.cell (j := 2) rfl
  have b3 := BB.out.cell (j := 3) rfl
  go_wp2_with fail
  refine (C1.out _).mono ?_
  rintro e w4 hr
  obtain ⟨hb, hc⟩ := chg_parts hr
  rcases hc with ⟨hB, _⟩ | ⟨_, A, c, rfl, hs⟩
  · rw [BR.out _ _ HX.out.1 HY.out.1] at hB; cases hB
  obtain ⟨l, hl⟩ : ∃ l, chg (ofF x) (ofF y) 52 = l := ⟨_, rfl⟩
  have HL := Lib.hid hl
  rw [hl] at hs ⊢
  have HS1 := Lib.hid hs
  have BA1 := Lib.hid (BA.out.keep hb BA.out.lt)
  have BB1 := Lib.hid (BB.out.keep hb BB.out.lt)
  have BW1 := Lib.hid (bchain BW.out hb)
  clear hb hr hs hl BA BB BW a0 a1 a2 a3 b0 b1 b2 b3 C1
  have a0 := BA1.out.cell (j := 0) rfl
  have a1 := BA1.out.cell (j := 1) rfl
  have a2 := BA1.out.cell (j := 2) rfl
  have a3 := BA1.out.cell (j := 3) rfl
  have b0 := BB1.out.cell (j := 0) rfl
  have b1 := BB1.out.cell (j := 1) rfl
  have b2 := BB1.out.cell (j := 2) rfl
  have b3 := BB1.out.cell (j := 3) rfl
  go_wp2_with fail
  refine (C2.out _).mono ?_
  rintro e w5 hr
  obtain ⟨hb, hc⟩ := chg_parts hr
  rcases hc with ⟨hB, _⟩ | ⟨_, A2, c2, rfl, hs⟩
  · rw [BR.out _ _ HY.out.1 HX.out.1] at hB; cases hB
  rw [chg_sym, HL.out] at hs ⊢
  have HS2 := Lib.hid (HS1.out.keep hb)
  have HT2 := Lib.hid hs
  have BA2 := Lib.hid (BA1.out.keep hb BA1.out.lt)
  have BB2 := Lib.hid (BB1.out.keep hb BB1.out.lt)
  have BW2 := Lib.hid (bchain BW1.out hb)
  clear hb hr hs BA1 BB1 BW1 HS1 a0 a1 a2 a3 b0 b1 b2 b3 C2
  have a0 := BA2.out.cell (j := 0) rfl
  have a1 := BA2.out.cell (j := 1) rfl
  have a2 := BA2.out.cell (j := 2) rfl
  have a3 := BA2.out.cell (j := 3) rfl
  go_wp2_with fail
  refine (C3.out _).mono ?_
  rintro e w6 hr
  obtain ⟨hb, hc⟩ := chg_parts hr
  rcases hc with ⟨hB, _⟩ | ⟨_, A3, c3, rfl, _⟩
  · rw [BR.out _ _ HX.out.1 HX.out.1] at hB; cases hB
  rw [chg_self]
  have HS3 := Lib.hid (HS2.out.keep hb)
  have HT3 := Lib.hid (HT2.out.keep hb)
  have BA3 := Lib.hid (BA2.out.keep hb BA2.out.lt)
  have BB3 := Lib.hid (BB2.out.keep hb BB2.out.lt)
  have BW3 := Lib.hid (bchain BW2.out hb)
  clear hb hr BA2 BB2 BW2 HS2 HT2 a0 a1 a2 a3 C3 BR
  obtain ⟨M, hM⟩ : ∃ M, l.length = M := ⟨_, rfl⟩
  have HM := Lib.hid hM
  have hM52 : M ≤ 52 := by have := chg_len (ofF x) (ofF y) 52; rw [HL.out] at this; omega
  obtain ⟨bq, hbq⟩ : ∃ bq, decide (x = y) = bq := ⟨_, rfl⟩
  have tM : ((M : Int) == 0) = bq := by
    rw [← hbq, Bool.eq_iff_iff, beq_iff_eq, decide_eq_true_eq]
    have h1 := chg_none HX.out.1 HY.out.1
    rw [HL.out] at h1
    constructor
    · intro h
      have h2 := h1.1 (List.length_eq_zero_iff.1 (by omega))
      exact four_ext ⟨h2 0 (by omega), h2 1 (by omega), h2 2 (by omega), h2 3 (by omega)⟩
    · intro h
      have h2 := h1.2 (fun s _ => by rw [h])
      rw [h2] at hM
      simp at hM
      omega
  have EQ := fun W => eqF 35 Tryd.underlying35 x y W
  rw [hbq] at EQ
  rw [hM]
  clear hM hbq
  have a0 := BA3.out.cell (j := 0) rfl
  have a1 := BA3.out.cell (j := 1) rfl
  have a2 := BA3.out.cell (j := 2) rfl
  have a3 := BA3.out.cell (j := 3) rfl
  have b0 := BB3.out.cell (j := 0) rfl
  have b1 := BB3.out.cell (j := 1) rfl
  have b2 := BB3.out.cell (j := 2) rfl
  have b3 := BB3.out.cell (j := 3) rfl
  go_upto_region 8 with fail
  have HC := Lib.hid (cw_new (x := x) (y := y) (l := l) w6)
  have BQ := Lib.hid (And.intro (Nat.le_refl w6.heap.size) BW3.out.size)
  have BA4 := Lib.hid ((BA3.out.alloc (.cells #[.int .i64 0, .int .i64 0, .int .i64 0, .int .i64 0] 40)).alloc (.cells #[.int .i64 0, .int .i64 0, .int .i64 0, .int .i64 0] 40))
  have hs7 : ((w6.alloc (.cells #[.int .i64 0, .int .i64 0, .int .i64 0, .int .i64 0] 40)).alloc (.cells #[.int .i64 0, .int .i64 0, .int .i64 0, .int .i64 0] 40)).heap.size = w6.heap.size + 2 := by simp
  clear a0 a1 a2 a3 b0 b1 b2 b3 tM EQ
  obtain ⟨q, hq⟩ : ∃ q, w6.heap.size = q := ⟨_, rfl⟩
  have HQ := Lib.hid hq
  rw [hq] at HC hs7 ⊢
  clear hq
  have H7 := Lib.hid hs7
  clear hs7
  generalize (w6.alloc (.cells #[.int .i64 0, .int .i64 0, .int .i64 0, .int .i64 0] 40)).alloc (.cells #[.int .i64 0, .int .i64 0, .int .i64 0, .int .i64 0] 40) = W7 at *
  have a0 := BA4.out.cell (j := 0) rfl
  have a1 := BA4.out.cell (j := 1) rfl
  have a2 := BA4.out.cell (j := 2) rfl
  have a3 := BA4.out.cell (j := 3) rfl
  go_upto_region 9 with fail
  rw [H7.out]
  clear a0 a1 a2 a3 BA4 H7
  generalize W7.alloc (.cells #[.int .u64 (ofF x 0 : Nat), .int .u64 (ofF x 1 : Nat), .int .u64 (ofF x 2 : Nat), .int .u64 (ofF x 3 : Nat)] 35) = W8 at *
  go_wp2_with fail
  go_loopw [74] (fun s74 wr => ∃ i : Nat, i ≤ M ∧ s74 = .int .i64 (i : Int) ∧ Hid (CW w6 q x y l i wr)) (fun s74 _ => M - (intOf s74).toNat)
  case atStart => exact ⟨0, by omega, rfl, HC⟩
  case round =>
    clear HC
    obtain ⟨i, hi, rfl, HC⟩ := hrel
    have HK : Hid (Below w6.heap.size w6 wr) := Lib.hid (by rw [HQ.out]; exact HC.out.below)
    by_cases hlt : i < M
    · have u1 : decide ((i : Int) < (M : Int)) = true := decide_eq_true (by omega)
      have u2 : decide (i < M) = true := decide_eq_true hlt
      obtain ⟨cc, hcc⟩ : ∃ cc, l[i]? = some cc := ⟨_, List.getElem?_eq_getElem (by rw [HM.out]; exact hlt)⟩
      have hmem : cc ∈ l := List.mem_of_getElem? hcc
      obtain ⟨hc52, hne⟩ := chg_mem.1 (by rw [HL.out]; exact hmem)
      have hsnoc : l.take (i + 1) = l.take i ++ [cc] := by
        obtain ⟨h1, h2⟩ := List.getElem?_eq_some_iff.1 hcc
        rw [List.take_succ_eq_append_getElem h1, h2]
      obtain ⟨g, rfl, hg, k0, k1, k2⟩ := HS3.out.keep HK.out i cc hcc
      obtain ⟨g2, rfl, hg2, m0, m1, m2⟩ := HT3.out.keep HK.out i cc hcc
      have HNX := Lib.hid (cw_next (w6 := w6) (q := q) (x := x) (y := y) (l := l) (i := i) (cc := cc) hsnoc hne)
      have hlt4 := And.intro (owner_lt (ofF x) cc) (owner_lt (ofF y) cc)
      have hz52 : ∀ s, s < 4 → zTo (ofF x) (ofF y) (l.take i) s < 4503599627370496 := zTo_lt HX.out.1 _ (fun c hc => by
        have : c ∈ l := List.mem_of_mem_take hc
        rw [← HL.out] at this
        exact (chg_mem.1 this).1)
      have hzf := hz52 (owner (ofF x) cc) hlt4.1
      have hzt := hz52 (owner (ofF y) cc) hlt4.2
      have ha := own_le (ofF x) (l.take i) (owner (ofF x) cc)
      have hb := own_le (ofF y) (l.take i) (owner (ofF y) cc)
      rw [List.length_take] at ha hb
      have r0 := iC_get (ofF x) (l.take i) (owner (ofF x) cc) hlt4.1
      have r1 := iC_get (ofF y) (l.take i) (owner (ofF y) cc) hlt4.2
      have r2 := dC_get (zTo (ofF x) (ofF y) (l.take i)) (owner (ofF x) cc) hlt4.1
      have r3 := dC_get (zTo (ofF x) (ofF y) (l.take i)) (owner (ofF y) cc) hlt4.2
      have HPV : Hid (∀ m, i = m + 1 → ∃ pc, l[m]? = some pc ∧ pc < cc) := Lib.hid (fun m hm => by
        obtain ⟨pc, hpc⟩ : ∃ pc, l[m]? = some pc := ⟨_, List.getElem?_eq_getElem (by rw [HM.out]; omega)⟩
        have hp := chg_up (ofF x) (ofF y) 52
        rw [HL.out] at hp
        obtain ⟨h1, h2⟩ := List.getElem?_eq_some_iff.1 hpc
        obtain ⟨h3, h4⟩ := List.getElem?_eq_some_iff.1 hcc
        have := List.pairwise_iff_getElem.1 hp m i h1 h3 (by omega)
        exact ⟨pc, hpc, by rw [h2, h4] at this; exact this⟩)
      obtain ⟨f, hf⟩ : ∃ f, owner (ofF x) cc = f := ⟨_, rfl⟩
      obtain ⟨t, ht⟩ : ∃ t, owner (ofF y) cc = t := ⟨_, rfl⟩
      rw [hf, ht] at HNX hlt4 hne
      rw [hf] at k1 m2 hzf ha r0 r2
      rw [ht] at k2 m1 hzt hb r1 r3
      clear hf ht hz52 hcc hmem hsnoc
      obtain ⟨na, hna⟩ : ∃ na, own (ofF x) (l.take i) f = na := ⟨_, rfl⟩
      obtain ⟨nb, hnb⟩ : ∃ nb, own (ofF y) (l.take i) t = nb := ⟨_, rfl⟩
      obtain ⟨zf, hzf'⟩ : ∃ zf, zTo (ofF x) (ofF y) (l.take i) f = zf := ⟨_, rfl⟩
      obtain ⟨zt, hzt'⟩ : ∃ zt, zTo (ofF x) (ofF y) (l.take i) t = zt := ⟨_, rfl⟩
      rw [hna] at HNX r0 ha
      rw [hnb] at HNX r1 hb
      rw [hzf'] at HNX r2 hzf
      rw [hzt'] at HNX r3 hzt
      clear hna hnb hzf' hzt'
      have HG := Lib.hid (And.intro r0 (And.intro r1 (And.intro r2 r3)))
      clear r0 r1 r2 r3
      go_upto_region 12 with fail
      have hb1 := below1 wr (.cells #[.int .u8 (cc : Nat), .int .u8 (f : Nat), .int .u8 (t : Nat)] 49)
      have HDB := Lib.hid (Blk.new wr 49 #[.int .u8 (cc : Nat), .int .u8 (f : Nat), .int .u8 (t : Nat)])
      have HCO := Lib.hid (HC.out.come.keep hb1 HC.out.come.lt)
      have HLE := Lib.hid (HC.out.leave.keep hb1 HC.out.leave.lt)
      have HZB := Lib.hid (HC.out.z.keep hb1 HC.out.z.lt)
      have hszr : q + 2 < wr.heap.size := HC.out.z.lt
      have HBL := Lib.hid (HC.out.below.trans (hb1.mono (by omega)))
      have HKA := Lib.hid (HK.out.trans (hb1.mono HK.out.size))
      have n0 := cell_keep m0 hb1
      have n1 := cell_keep m1 hb1
      have n2 := cell_keep m2 hb1
      clear k0 k1 k2 m0 m1 m2 hb1 HC HK
      generalize wr.alloc (.cells #[.int .u8 (cc : Nat), .int .u8 (f : Nat), .int .u8 (t : Nat)] 49) = wa at *
      generalize wr.heap.size = db at *
      have d0 := HDB.out.cell (j := 0) (v := .int .u8 (cc : Nat)) rfl
      have d1 := HDB.out.cell (j := 1) (v := .int .u8 (f : Nat)) rfl
      have d2 := HDB.out.cell (j := 2) (v := .int .u8 (t : Nat)) rfl
      have e1 : (((f : Nat) : Int) == ((t : Nat) : Int)) = false := beq_eq_false_iff_ne.2 (by omega)
      have e1b : (f == t) = false := beq_eq_false_iff_ne.2 (by omega)
      have e2b : decide (3 < f) = false := decide_eq_false (by omega)
      have e3b : decide (3 < t) = false := decide_eq_false (by omega)
      have e2 : decide (3 < ((f : Nat) : Int)) = false := decide_eq_false (by omega)
      have e3 : decide (3 < ((t : Nat) : Int)) = false := decide_eq_false (by omega)
      have HF := Lib.hid (And.intro hlt4 (And.intro hne (And.intro hzf (And.intro hzt (And.intro ha (And.intro hb (And.intro hc52 (And.intro hszr (And.intro hM52 hlt)))))))))
      have hiM : (i : Int) < (M : Int) := by omega
      have hi0M : i < M ∧ i < 1000000 := ⟨hlt, by omega⟩
      have HI := Lib.hid hi0M
      clear hlt4 hne hzf hzt ha hb hc52 hszr u2 hlt hi hM52 hg hg2 hi0M
      rcases (show i = 0 ∨ ∃ m, i = m + 1 by rcases i with _ | m; exact .inl rfl; exact .inr ⟨m, rfl⟩) with hi0 | ⟨m, hm⟩
      have e4 : decide (0 < (i : Int)) = false := decide_eq_false (by omega)
      have e4b : decide (0 < i) = false := decide_eq_false (by omega)
      clear hi0
      go_quiet (fail)
      clear e4 e4b
      rotate_left
      obtain ⟨pc, hpc, hpl⟩ := HPV.out m hm
      obtain ⟨g', eg, hg', k0, _, _⟩ := HS3.out.keep HKA.out m pc hpc
      have eg2 := Option.some.inj eg
      cases eg2
      have e4 : decide (0 < (i : Int)) = true := decide_eq_true (by omega)
      have e4b : decide (0 < i) = true := decide_eq_true (by omega)
      have e6b : decide (cc ≤ pc) = false := decide_eq_false (by omega)
      have e5 : IntKind.i64.wrap ((i : Int) - 1) = (m : Int) := by rw [show ((m : Int)) = (i : Int) - 1 by omega]; exact IntWalk.i64_in _ (by have := HI.out; omega)
      have e6 : decide ((cc : Int) ≤ (pc : Int)) = false := decide_eq_false (by omega)
      have e7 : (m : Int) < (M : Int) := by have := HI.out; omega
      have e8 : decide ((m : Int) < (M : Int)) = true := decide_eq_true e7
      clear hm eg hg' hpc
      go_quiet (fail)
      clear e4 e4b e5 e6 e6b e7 e8 hpl k0
      all_goals
        obtain ⟨⟨f4, t4⟩, hne, hzf, hzt, ha, hb, hc52, hszr, hM52, hlt⟩ := HF.out
        have HDB1 := Lib.hid (HDB.out.drewN nq)
        have HCO1 := Lib.hid (HCO.out.drewN nq)
        have HLE1 := Lib.hid (HLE.out.drewN nq)
        have HZB1 := Lib.hid (HZB.out.drewN nq)
        have HBL1 := Lib.hid (below_drewN HBL.out nq)
        clear n0 n1 n2 d0 d1 d2 HDB HCO HLE HZB HBL HKA e1 e1b e2 e2b e3 e3b HF
        generalize wa.drewN nq = wn at *
        have d0 := HDB1.out.cell (j := 0) (v := .int .u8 (cc : Nat)) rfl
        have d1 := HDB1.out.cell (j := 1) (v := .int .u8 (f : Nat)) rfl
        have d2 := HDB1.out.cell (j := 2) (v := .int .u8 (t : Nat)) rfl
        have r0 := HLE1.out.cell HG.out.1
        have r1 := HCO1.out.cell HG.out.2.1
        have g0 := HLE1.out.free f
        have g1 := HCO1.out.free t
        have x1 : IntKind.i64.wrap ((na : Int) + 1) = ((na + 1 : Nat) : Int) := by rw [show (((na + 1 : Nat) : Int)) = (na : Int) + 1 by omega]; exact IntWalk.i64_in _ (by omega)
        have x2 : IntKind.i64.wrap ((nb : Int) + 1) = ((nb + 1 : Nat) : Int) := by rw [show (((nb + 1 : Nat) : Int)) = (nb : Int) + 1 by omega]; exact IntWalk.i64_in _ (by omega)
        have f4i : (f : Int) < 4 := by omega
        have t4i : (t : Int) < 4 := by omega
        have h01 : db ≠ q + 1 := by omega
        have h02 : db ≠ q := by omega
        have h03 : db ≠ q + 2 := by omega
        have HF := Lib.hid (And.intro (And.intro f4 t4) (And.intro hne (And.intro hzf (And.intro hzt (And.intro hc52 (And.intro hszr (And.intro hM52 hlt)))))))
        clear f4 t4 hne hzf hzt ha hb hc52 hszr hM52 hlt
        go_upto_region 16 with fail
        have HLE2 := Lib.hid ((HLE1.out.set f (.int .i64 ((na : Int) + 1))).other (b' := q) (by omega) t (.int .i64 ((nb : Int) + 1)))
        have HCO2 := Lib.hid ((HCO1.out.other (b' := q + 1) (by omega) f (.int .i64 ((na : Int) + 1))).set t (.int .i64 ((nb : Int) + 1)))
        have HZB2 := Lib.hid ((HZB1.out.other (b' := q + 1) (by omega) f (.int .i64 ((na : Int) + 1))).other (b' := q) (by omega) t (.int .i64 ((nb : Int) + 1)))
        have HDB2 := Lib.hid ((HDB1.out.other h01 f (.int .i64 ((na : Int) + 1))).other h02 t (.int .i64 ((nb : Int) + 1)))
        have HBL2 := Lib.hid ((HBL1.out.setCell (p := ⟨q + 1, f, none⟩) (by show q ≤ q + 1; omega) (.int .i64 ((na : Int) + 1))).setCell (p := ⟨q, t, none⟩) (Nat.le_refl _) (.int .i64 ((nb : Int) + 1)))
        clear d0 d1 d2 r0 r1 g0 g1 x1 x2 HLE1 HCO1 HZB1 HDB1 HBL1
        generalize (wn.setCell ⟨q + 1, f, none⟩ (.int .i64 ((na : Int) + 1))).setCell ⟨q, t, none⟩ (.int .i64 ((nb : Int) + 1)) = wm at *
        have d0 := HDB2.out.cell (j := 0) (v := .int .u8 (cc : Nat)) rfl
        have d1 := HDB2.out.cell (j := 1) (v := .int .u8 (f : Nat)) rfl
        have d2 := HDB2.out.cell (j := 2) (v := .int .u8 (t : Nat)) rfl
        have r2 := HZB2.out.cell HG.out.2.2.1
        have g2' := HZB2.out.free f
        have p64 := two64 cc HF.out.2.2.2.2.1
        have pmin : min cc 64 = cc := by have := HF.out.2.2.2.2.1; omega
        have o1 : bits BinOp.andNot IntKind.u64 (zf : Int) ((2 : Int) ^ cc) = ((clr zf cc : Nat) : Int) := by
          have h1 := HF.out.2.2.1
          have h2 : 2 ^ cc < 2 ^ 52 := Nat.pow_lt_pow_right (by omega) HF.out.2.2.2.2.1
          rw [show (2 : Int) ^ cc = ((2 ^ cc : Nat) : Int) by simp, u64_andNot_nat _ _ (by omega) (by omega)]
          rfl
        go_region
        have HZB3 := Lib.hid ((HZB2.out.set f (.int .u64 (clr zf cc : Nat))).drewN 1)
        have HLE3 := Lib.hid ((HLE2.out.other (b' := q + 2) (by omega) f (.int .u64 (clr zf cc : Nat))).drewN 1)
        have HCO3 := Lib.hid ((HCO2.out.other (b' := q + 2) (by omega) f (.int .u64 (clr zf cc : Nat))).drewN 1)
        have HDB3 := Lib.hid ((HDB2.out.other h03 f (.int .u64 (clr zf cc : Nat))).drewN 1)
        have HBL3 := Lib.hid (below_drewN (HBL2.out.setCell (p := ⟨q + 2, f, none⟩) (by show q ≤ q + 2; omega) (.int .u64 (clr zf cc : Nat))) 1)
        clear d0 d1 d2 r2 g2' o1 HZB2 HLE2 HCO2 HDB2 HBL2
        rw [drew_one] at HZB3 HLE3 HCO3 HDB3 HBL3
        generalize (wm.setCell ⟨q + 2, f, none⟩ (.int .u64 (clr zf cc : Nat))).drew = wp at *
        have d0 := HDB3.out.cell (j := 0) (v := .int .u8 (cc : Nat)) rfl
        have d2 := HDB3.out.cell (j := 2) (v := .int .u8 (t : Nat)) rfl
        have r3 : wp.cell? ⟨q + 2, t, none⟩ = some (.int .u64 (zt : Nat)) := HZB3.out.cell (by rw [Array.getElem?_setIfInBounds_ne HF.out.2.1]; exact HG.out.2.2.2)
        have g3 := HZB3.out.free t
        have o2 := or_card zt cc (by have := HF.out.2.2.2.1; omega) HF.out.2.2.2.2.1
        go_upto_region 17 with fail
        go_region
        have N1 : Hid (CW w6 q x y l (i + 1) ((wp.setCell ⟨q + 2, t, none⟩ (.int .u64 (zt ||| 2 ^ cc : Nat))).drewN 1)) := Lib.hid (HNX.out _ (below_drewN (HBL3.out.setCell (p := ⟨q + 2, t, none⟩) (by show q ≤ q + 2; omega) _) 1) ((HCO3.out.other (b' := q + 2) (by omega) t _).drewN 1) ((HLE3.out.other (b' := q + 2) (by omega) t _).drewN 1) ((HZB3.out.set t _).drewN 1))
        clear d0 d2 r3 g3 o2 HZB3 HLE3 HCO3 HDB3 HBL3
        rw [drew_one] at N1
        generalize (wp.setCell ⟨q + 2, t, none⟩ (.int .u64 (zt ||| 2 ^ cc : Nat))).drew = wq at *
        have y1 := inc64 i (by have := HI.out; omega)
        go_wp2_with fail
        go_roundw
        case rel => exact ⟨i + 1, by have := HI.out; omega, by simp, N1⟩
        case measure => have := HI.out; simp [intOf]; omega
    · obtain rfl : i = M := by omega
      have u1 : decide ((i : Int) < (i : Int)) = false := decide_eq_false (by omega)
      have u2 : decide (i < i) = false := decide_eq_false (by omega)
      have htl : l.take i = l := by rw [← HM.out]; exact List.take_length
      have HCx := HC.out
      have hco := HCx.come
      have hle := HCx.leave
      have hzz := HCx.z
      rw [htl, ← HL.out] at hco hle hzz
      have e0 : iC (ofF y) (chg (ofF x) (ofF y) 52) = iC (ofF x) (chg (ofF x) (ofF y) 52) := by
        unfold iC
        rw [own_even HX.out.1 HY.out.1 0 (by omega), own_even HX.out.1 HY.out.1 1 (by omega), own_even HX.out.1 HY.out.1 2 (by omega), own_even HX.out.1 HY.out.1 3 (by omega)]
      have e1 : dC (zTo (ofF x) (ofF y) (chg (ofF x) (ofF y) 52)) = dC (ofF y) := by
        unfold dC
        rw [zTo_all HX.out.1 HY.out.1 0 (by omega), zTo_all HX.out.1 HY.out.1 1 (by omega), zTo_all HX.out.1 HY.out.1 2 (by omega), zTo_all HX.out.1 HY.out.1 3 (by omega)]
      rw [e0] at hco
      rw [e1] at hzz
      have hyy : Blk wr (p5 + 1) 35 (dC (ofF y)) := BB3.out.keep (B := q) HCx.below (by rw [← HQ.out]; exact BB3.out.lt)
      obtain ⟨k0, hk0⟩ : ∃ k0, own (ofF x) (chg (ofF x) (ofF y) 52) 0 = k0 := ⟨_, rfl⟩
      obtain ⟨k1, hk1⟩ : ∃ k1, own (ofF x) (chg (ofF x) (ofF y) 52) 1 = k1 := ⟨_, rfl⟩
      obtain ⟨k2, hk2⟩ : ∃ k2, own (ofF x) (chg (ofF x) (ofF y) 52) 2 = k2 := ⟨_, rfl⟩
      obtain ⟨k3, hk3⟩ : ∃ k3, own (ofF x) (chg (ofF x) (ofF y) 52) 3 = k3 := ⟨_, rfl⟩
      unfold iC at hco hle
      rw [hk0, hk1, hk2, hk3] at hco hle
      have m0 := hco.cell (j := 0) (v := .int .i64 (k0 : Nat)) rfl
      have m1 := hco.cell (j := 1) (v := .int .i64 (k1 : Nat)) rfl
      have m2 := hco.cell (j := 2) (v := .int .i64 (k2 : Nat)) rfl
      have m3 := hco.cell (j := 3) (v := .int .i64 (k3 : Nat)) rfl
      have n0 := hle.cell (j := 0) (v := .int .i64 (k0 : Nat)) rfl
      have n1 := hle.cell (j := 1) (v := .int .i64 (k1 : Nat)) rfl
      have n2 := hle.cell (j := 2) (v := .int .i64 (k2 : Nat)) rfl
      have n3 := hle.cell (j := 3) (v := .int .i64 (k3 : Nat)) rfl
      have z0 := hzz.cell (j := 0) (v := .int .u64 (ofF y 0 : Nat)) rfl
      have z1 := hzz.cell (j := 1) (v := .int .u64 (ofF y 1 : Nat)) rfl
      have z2 := hzz.cell (j := 2) (v := .int .u64 (ofF y 2 : Nat)) rfl
      have z3 := hzz.cell (j := 3) (v := .int .u64 (ofF y 3 : Nat)) rfl
      have b0 := hyy.cell (j := 0) (v := .int .u64 (ofF y 0 : Nat)) rfl
      have b1 := hyy.cell (j := 1) (v := .int .u64 (ofF y 1 : Nat)) rfl
      have b2 := hyy.cell (j := 2) (v := .int .u64 (ofF y 2 : Nat)) rfl
      have b3 := hyy.cell (j := 3) (v := .int .u64 (ofF y 3 : Nat)) rfl
      have EI := fun W => eqI k0 k1 k2 k3 W
      have EQ := fun W => eqF 35 Tryd.underlying35 y y W
      rw [decide_eq_true rfl] at EQ
      have HBF : Hid (Below w.heap.size w wr) := Lib.hid (bchain BW3.out (by rw [HQ.out]; exact HCx.below))
      clear hco hle hzz hyy e0 e1 htl HCx HC HK hk0 hk1 hk2 hk3 hi hlt hM52
      go_wp2_with fail
      refine (awake_any _ (HE.out.keep HBF.out)).mono ?_
      rintro e w9 ⟨rfl, hb⟩
      have HBG := Lib.hid (bchain HBF.out hb)
      clear hb HBF m0 m1 m2 m3 n0 n1 n2 n3 z0 z1 z2 z3 b0 b1 b2 b3 EI EQ
      go_wp2_with fail
      go_ret
      exact ⟨rfl, HBG.out⟩
theorem changes_open (v0 v1 : Value) (w : World) (he : Env w) (h0 : ∃ l : List Nat, BV w v0 l ∧ ∀ x ∈ l, x < 256) (h1 : ∃ l : List Nat, BV w v1 l ∧ ∀ x ∈ l, x < 256) : Calls Tryd.prog 6 #[v0, v1] w (fun e w' => e = .returned (.bool true) ∧ Below w.heap.size w w') := by
  obtain ⟨l0, a0, b0⟩ := h0
  obtain ⟨l1, a1, b1⟩ := h1
  exact changes_walk v0 v1 l0 l1 w he a0 b0 a1 b1
end Go.Proofs.YtaadipccgckehaaDoor
