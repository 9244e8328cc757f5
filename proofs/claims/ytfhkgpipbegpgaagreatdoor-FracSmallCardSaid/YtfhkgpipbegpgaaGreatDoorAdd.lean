/- The contract of add. -/
import Derived.Test.YtfhkgpipbegpgaaGreatDoorFrac
import Derived.Test.YtfhkgpipbegpgaaGreatDoorBlk
import Derived.Deep.DeepCutAuto
import Derived.Deep.RegionHeld3
import Derived.Deep.CutBlock
namespace Go.Proofs.YtfhkgpipbegpgaaGreatDoor
open Go Go.RowKit

/-- The memory of add: its two fractions and its result. -/
structure AM (w W : World) (fn fd gn gd : Int) : Prop where
  below : Below w.heap.size w W
  bf : Blk W w.heap.size 23 #[.int .i64 fn, .int .i64 fd]
  bg : Blk W (w.heap.size + 1) 23 #[.int .i64 gn, .int .i64 gd]
  br : Blk W (w.heap.size + 1 + 1) 23 #[.int .i64 0, .int .i64 0]
theorem AM.keep {w W W' : World} {fn fd gn gd : Int} (h : AM w W fn fd gn gd) (hb : Below W.heap.size W W') : AM w W' fn fd gn gd :=
  ⟨bchain h.below hb, h.bf.keep hb h.bf.lt, h.bg.keep hb h.bg.lt, h.br.keep hb h.br.lt⟩
theorem AM.start (w : World) (fn fd gn gd : Int) : AM w (((w.alloc (.cells #[.int .i64 fn, .int .i64 fd] 23)).alloc (.cells #[.int .i64 gn, .int .i64 gd] 23)).alloc (.cells #[.int .i64 0, .int .i64 0] 23)) fn fd gn gd := by
  refine ⟨below3 _ _ _ _, ((Blk.new w _ _).alloc _).alloc _, ?_, ?_⟩
  · have := (Blk.new (w.alloc (.cells #[.int .i64 fn, .int .i64 fd] 23)) 23 #[.int .i64 gn, .int .i64 gd]).alloc (.cells #[.int .i64 0, .int .i64 0] 23)
    simpa using this
  · have := Blk.new ((w.alloc (.cells #[.int .i64 fn, .int .i64 fd] 23)).alloc (.cells #[.int .i64 gn, .int .i64 gd] 23)) 23 #[.int .i64 0, .int .i64 0]
    simpa using this
theorem below_setNew {w W : World} (h : Below w.heap.size w W) {b : Nat} (hb : w.heap.size ≤ b) (j : Nat) (v : Value) : Below w.heap.size w (W.setCell ⟨b, j, none⟩ v) := h.setCell (by exact hb) v
/-- .. and numbers of 128 bits in blocks of their own. -/
structure AW (w W : World) (fn fd gn gd : Int) (p : Nat) (h l : Nat) : Prop where
  am : AM w W fn fd gn gd
  lt : w.heap.size + 1 + 1 < p
  bw : Blk W p 73 #[.int .u64 h, .int .u64 l]
theorem AW.keep {w W W' : World} {fn fd gn gd : Int} {p h l : Nat} (k : AW w W fn fd gn gd p h l) (hb : Below W.heap.size W W') : AW w W' fn fd gn gd p h l :=
  ⟨k.am.keep hb, k.lt, k.bw.keep hb k.bw.lt⟩
theorem AM.new {w W : World} {fn fd gn gd : Int} (k : AM w W fn fd gn gd) (h l : Nat) : AW w (W.alloc (.cells #[.int .u64 h, .int .u64 l] 73)) fn fd gn gd W.heap.size h l :=
  ⟨k.keep ((Below.refl _ _).alloc (Nat.le_refl _) _), k.br.lt, Blk.new _ _ _⟩
theorem AM.set {w W : World} {fn fd gn gd : Int} (k : AM w W fn fd gn gd) {p : Nat} (hp : w.heap.size + 1 + 1 < p) (j : Nat) (v : Value) : AM w (W.setCell ⟨p, j, none⟩ v) fn fd gn gd :=
  ⟨k.below.setCell (by simp; omega) _, k.bf.other (by omega) _ _, k.bg.other (by omega) _ _, k.br.other (by omega) _ _⟩
theorem AW.set2 {w W : World} {fn fd gn gd : Int} {p h l : Nat} (k : AW w W fn fd gn gd p h l) (h' l' : Nat) : AW w ((W.setCell ⟨p, 0, none⟩ (.int .u64 h')).setCell ⟨p, 1, none⟩ (.int .u64 l')) fn fd gn gd p h' l' :=
  ⟨(k.am.set k.lt _ _).set k.lt _ _, k.lt, (k.bw.set 0 _).set 1 _⟩
theorem AW.other2 {w W : World} {fn fd gn gd : Int} {p h l : Nat} (k : AW w W fn fd gn gd p h l) {q : Nat} (hq : p < q) (v u : Value) : AW w ((W.setCell ⟨q, 0, none⟩ v).setCell ⟨q, 1, none⟩ u) fn fd gn gd p h l :=
  have := k.lt
  ⟨(k.am.set (by omega) _ _).set (by omega) _ _, k.lt, (k.bw.other (by omega) 0 _).other (by omega) 1 _⟩
/-- Made first, written last. -/
theorem AM.late {w W W' : World} {fn fd gn gd : Int} (k : AM w W fn fd gn gd) {o : Obj} (ho : o = .cells #[.int .u64 0, .int .u64 0] 73) (hb : Below (W.alloc o).drew.heap.size (W.alloc o).drew W') (h l : Nat) :
    AW w ((W'.setCell ⟨W.heap.size, 0, none⟩ (.int .u64 h)).setCell ⟨W.heap.size, 1, none⟩ (.int .u64 l)) fn fd gn gd W.heap.size h l := by
  subst ho
  exact (((k.new 0 0).keep (Below.drew (Below.refl _ _))).keep hb).set2 h l
theorem AW.late {w W W' : World} {fn fd gn gd : Int} {p h l : Nat} (k : AW w W fn fd gn gd p h l) {o : Obj} (hb : Below (W.alloc o).drew.heap.size (W.alloc o).drew W') (v u : Value) :
    AW w ((W'.setCell ⟨W.heap.size, 0, none⟩ v).setCell ⟨W.heap.size, 1, none⟩ u) fn fd gn gd p h l :=
  ((((k.keep ((Below.refl _ _).alloc (Nat.le_refl _) _)).keep (Below.drew (Below.refl _ _))).keep hb)).other2 k.bw.lt v u
theorem bcell {W w1 : World} (hb : Below W.heap.size W w1) : (∀ b o, b < W.heap.size → w1.cell? ⟨b, o, none⟩ = W.cell? ⟨b, o, none⟩) ∧ (∀ b o, b < W.heap.size → w1.frozen? ⟨b, o, none⟩ = W.frozen? ⟨b, o, none⟩) :=
  ⟨fun b o h => hb.cell (p := ⟨b, o, none⟩) h, fun b o h => hb.frozen (p := ⟨b, o, none⟩) h⟩
theorem below1 (W : World) (o : Obj) : Below W.heap.size W (W.alloc o) := (Below.refl _ _).alloc (Nat.le_refl _) _
set_option maxRecDepth 100000 in
set_option maxHeartbeats 1000000 in
theorem add_any (fn fd gn gd : Int) (t : Bool) (h1 : -9223372036854775808 ≤ fn) (h2 : fn ≤ 9223372036854775807) (h3 : 0 < fd) (h4 : fd ≤ 9223372036854775807)
    (k1 : -9223372036854775808 ≤ gn) (k2 : gn ≤ 9223372036854775807) (k3 : 0 < gd) (k4 : gd ≤ 9223372036854775807) (w : World) :
    Calls Tryz.prog 41 #[.agg #[.int .i64 fn, .int .i64 fd], .agg #[.int .i64 gn, .int .i64 gd], .bool t] w (RetF (addP (decide (fn < 0)) t fn.natAbs fd.natAbs gn.natAbs gd.natAbs) w) := by
  obtain ⟨N, hN⟩ : ∃ N, fn.natAbs = N := ⟨_, rfl⟩
  obtain ⟨D, hD⟩ : ∃ N, fd.natAbs = N := ⟨_, rfl⟩
  obtain ⟨M, hM⟩ : ∃ N, gn.natAbs = N := ⟨_, rfl⟩
  obtain ⟨K, hK⟩ : ∃ N, gd.natAbs = N := ⟨_, rfl⟩
  obtain ⟨s, hs⟩ : ∃ s, decide (fn < 0) = s := ⟨_, rfl⟩
  have S1 := Lib.hid (fun w => size_any fn h1 h2 w)
  have S2 := Lib.hid (fun w => size_any fd (by omega) h4 w)
  have S3 := Lib.hid (fun w => size_any gn k1 k2 w)
  have S4 := Lib.hid (fun w => size_any gd (by omega) k4 w)
  rw [hN] at S1
  rw [hD] at S2
  rw [hM] at S3
  rw [hK] at S4
  have bN : N ≤ 9223372036854775808 := by omega
  have bM : M ≤ 9223372036854775808 := by omega
  have bD : D ≤ 9223372036854775807 := by omega
  have bK : K ≤ 9223372036854775807 := by omega
  have pD : 0 < D := by omega
  have pK : 0 < K := by omega
  rw [hN, hD, hM, hK, hs]
  clear hN hD hM hK h1 h2 h3 h4 k1 k2 k3 k4
  obtain ⟨c, hc⟩ : ∃ c, Nat.gcd D K = c := ⟨_, rfl⟩
  have G1 : Hid (∀ w, Calls Tryz.prog 59 #[.int .u64 (D : Nat), .int .u64 (K : Nat)] w fun e w' => e = .returned (.int .u64 (c : Nat)) ∧ ∃ n, w' = w.drewN n) := Lib.hid fun w => hc ▸ gcd_any D K (by omega) (by omega) w
  have pc : 0 < c := hc ▸ Nat.gcd_pos_of_pos_right _ pK
  have cle : c ≤ K := hc ▸ Nat.gcd_le_right _ pK
  obtain ⟨K', hK'⟩ : ∃ x, K / c = x := ⟨_, rfl⟩
  obtain ⟨D', hD'⟩ : ∃ x, D / c = x := ⟨_, rfl⟩
  have bK' : K' ≤ 9223372036854775807 := hK' ▸ Nat.le_trans (Nat.div_le_self _ _) bK
  have bD' : D' ≤ 9223372036854775807 := hD' ▸ Nat.le_trans (Nat.div_le_self _ _) bD
  have m1 : ((K : Int).tdiv (c : Int)) = (K' : Int) := by rw [Int.tdiv_eq_ediv_of_nonneg (by omega), ← hK']; rfl
  have m2 : ((D : Int).tdiv (c : Int)) = (D' : Int) := by rw [Int.tdiv_eq_ediv_of_nonneg (by omega), ← hD']; rfl
  have w1 : IntKind.u64.wrap (K' : Int) = (K' : Int) := IntWalk.u64_in _ (by omega)
  have w2 : IntKind.u64.wrap (D' : Int) = (D' : Int) := IntWalk.u64_in _ (by omega)
  have z1 : ((c : Int) == 0) = false := by simp; omega
  have z3 : ¬ c = 0 := by omega
  obtain ⟨a, ha⟩ : ∃ x, x = N * K' := ⟨_, rfl⟩
  obtain ⟨b, hb⟩ : ∃ x, x = M * D' := ⟨_, rfl⟩
  have ba : a ≤ 9223372036854775808 * 9223372036854775807 := ha ▸ Nat.mul_le_mul bN bK'
  have bb : b ≤ 9223372036854775808 * 9223372036854775807 := hb ▸ Nat.mul_le_mul bM bD'
  obtain ⟨ah, al, ea, la⟩ := split128 a
  obtain ⟨bh, bl, eb, lb⟩ := split128 b
  have P1 := product_hid N K' a ah al (by omega) (by omega) ha ea la
  have P2 := product_hid M D' b bh bl (by omega) (by omega) hb eb lb
  obtain ⟨num, hnum⟩ : ∃ x, x = (sumP s t a b).2 := ⟨_, rfl⟩
  obtain ⟨sg, hsg⟩ : ∃ x, x = (sumP s t a b).1 := ⟨_, rfl⟩
  have bnum : num < 170141183460469231731687303715884105728 := by
    rw [hnum]; unfold sumP; split
    · simp only; omega
    · split <;> simp only <;> omega
  obtain ⟨nh, nl, en, ln⟩ := split128 num
  have HPl : Hid (s = t → ∀ w, Calls Tryz.prog 66 #[.agg #[.int .u64 (ah : Nat), .int .u64 (al : Nat)], .agg #[.int .u64 (bh : Nat), .int .u64 (bl : Nat)]] w fun e w' => e = .returned (.agg #[.int .u64 (nh : Nat), .int .u64 (nl : Nat)]) ∧ Below w.heap.size w w') := Lib.hid fun h w => by
    have hn : num = a + b := by rw [hnum, sumP, if_pos h]
    exact plus_any ah al bh bl nh nl ((al + bl) / 18446744073709551616) (by omega) ln (by omega) (by omega) (by omega) w
  have HM1 : Hid (¬ s = t → b ≤ a → ∀ w, Calls Tryz.prog 67 #[.agg #[.int .u64 (ah : Nat), .int .u64 (al : Nat)], .agg #[.int .u64 (bh : Nat), .int .u64 (bl : Nat)]] w fun e w' => e = .returned (.agg #[.int .u64 (nh : Nat), .int .u64 (nl : Nat)]) ∧ Below w.heap.size w w') := Lib.hid fun h h' w => by
    have hn : num = a - b := by rw [hnum, sumP, if_neg h, if_pos h']
    exact minus_any ah al bh bl nh nl (if al < bl then 1 else 0) (by split <;> omega) ln (by split <;> omega) (by split <;> omega) (by omega) w
  have HM2 : Hid (¬ s = t → ¬ b ≤ a → ∀ w, Calls Tryz.prog 67 #[.agg #[.int .u64 (bh : Nat), .int .u64 (bl : Nat)], .agg #[.int .u64 (ah : Nat), .int .u64 (al : Nat)]] w fun e w' => e = .returned (.agg #[.int .u64 (nh : Nat), .int .u64 (nl : Nat)]) ∧ Below w.heap.size w w') := Lib.hid fun h h' w => by
    have hn : num = b - a := by rw [hnum, sumP, if_neg h, if_neg h']
    exact minus_any bh bl ah al nh nl (if bl < al then 1 else 0) (by split <;> omega) ln (by split <;> omega) (by split <;> omega) (by omega) w
  have HC : Hid (∀ w, Calls Tryz.prog 48 #[.agg #[.int .u64 (ah : Nat), .int .u64 (al : Nat)], .agg #[.int .u64 (bh : Nat), .int .u64 (bl : Nat)]] w (RetInt (cmpN a b) w)) := Lib.hid fun w => by
    have := cmp_any ah al bh bl la lb w
    rwa [← ea, ← eb] at this
  have HS1 : Hid (s = t → sg = s) := Lib.hid fun h => by rw [hsg, sumP, if_pos h]
  have HS2 : Hid (¬ s = t → b ≤ a → sg = s) := Lib.hid fun h h' => by rw [hsg, sumP, if_neg h, if_pos h']
  have HS3 : Hid (¬ s = t → ¬ b ≤ a → sg = t) := Lib.hid fun h h' => by rw [hsg, sumP, if_neg h, if_neg h']
  -- over the common divisor
  obtain ⟨r, hr⟩ : ∃ x, x = num % c := ⟨_, rfl⟩
  have red : (nh % c * 18446744073709551616 + nl) % c = r := by
    rw [hr, en, Nat.add_mod, Nat.mul_mod, Nat.mod_mod, ← Nat.mul_mod, ← Nat.add_mod]
  have O1 : Hid (∀ w, Calls Tryz.prog 68 #[.agg #[.int .u64 (nh : Nat), .int .u64 (nl : Nat)], .int .u64 (c : Nat)] w fun e w' => e = .returned (.tuple #[.agg #[.int .u64 (nh / c : Nat), .int .u64 ((nh % c * 18446744073709551616 + nl) / c : Nat)], .int .u64 (r : Nat)]) ∧ Below w.heap.size w w') :=
    Lib.hid fun w => over_any nh nl c _ _ r (by omega) ln pc (by omega) rfl rfl red w
  obtain ⟨o1, ho1⟩ : ∃ x, x = nh / c := ⟨_, rfl⟩
  obtain ⟨o2, ho2⟩ : ∃ x, x = (nh % c * 18446744073709551616 + nl) / c := ⟨_, rfl⟩
  rw [← ho1, ← ho2] at O1
  obtain ⟨g, hg⟩ : ∃ x, Nat.gcd c r = x := ⟨_, rfl⟩
  have rlt : r < c := hr ▸ Nat.mod_lt _ pc
  have G2 : Hid (∀ w, Calls Tryz.prog 59 #[.int .u64 (c : Nat), .int .u64 (r : Nat)] w fun e w' => e = .returned (.int .u64 (g : Nat)) ∧ ∃ n, w' = w.drewN n) := Lib.hid fun w => hg ▸ gcd_any c r (by omega) (by omega) w
  have pg : 0 < g := hg ▸ Nat.gcd_pos_of_pos_left _ pc
  have gle : g ≤ c := hg ▸ Nat.gcd_le_left _ pc
  obtain ⟨x, hx⟩ : ∃ x, x = num / g := ⟨_, rfl⟩
  have qe : x = (nh / g) * 18446744073709551616 + (nh % g * 18446744073709551616 + nl) / g := by
    rw [hx, en]
    have h := Nat.div_add_mod nh g
    have e : nh * 18446744073709551616 + nl = (nh % g * 18446744073709551616 + nl) + g * (nh / g * 18446744073709551616) := by
      rw [← Nat.mul_assoc]
      generalize g * (nh / g) = y at *
      generalize nh % g = z at *
      omega
    rw [e, Nat.add_mul_div_left _ _ pg, Nat.add_comm]
  have qlt : (nh % g * 18446744073709551616 + nl) / g < 18446744073709551616 := by
    rw [Nat.div_lt_iff_lt_mul pg]
    have := Nat.mod_lt nh pg
    generalize nh % g = z at *
    omega
  obtain ⟨xh, hxh⟩ : ∃ y, y = nh / g := ⟨_, rfl⟩
  obtain ⟨xl, hxl⟩ : ∃ y, y = (nh % g * 18446744073709551616 + nl) / g := ⟨_, rfl⟩
  have O2 : Hid (∀ w, Calls Tryz.prog 68 #[.agg #[.int .u64 (nh : Nat), .int .u64 (nl : Nat)], .int .u64 (g : Nat)] w fun e w' => e = .returned (.tuple #[.agg #[.int .u64 (xh : Nat), .int .u64 (xl : Nat)], .int .u64 ((nh % g * 18446744073709551616 + nl) % g : Nat)]) ∧ Below w.heap.size w w') :=
    Lib.hid fun w => over_any nh nl g _ _ _ (by omega) ln pg (by omega) hxh hxl.symm rfl w
  obtain ⟨o3, ho3⟩ : ∃ y, y = (nh % g * 18446744073709551616 + nl) % g := ⟨_, rfl⟩
  rw [← ho3] at O2
  rw [← hxl] at qlt
  rw [← hxh, ← hxl] at qe
  obtain ⟨K2, hK2⟩ : ∃ x, K / g = x := ⟨_, rfl⟩
  have bK2 : K2 ≤ 9223372036854775807 := hK2 ▸ Nat.le_trans (Nat.div_le_self _ _) bK
  have m3 : ((K : Int).tdiv (g : Int)) = (K2 : Int) := by rw [Int.tdiv_eq_ediv_of_nonneg (by omega), ← hK2]; rfl
  have w3 : IntKind.u64.wrap (K2 : Int) = (K2 : Int) := IntWalk.u64_in _ (by omega)
  have z2 : ((g : Int) == 0) = false := by simp; omega
  have z4 : ¬ g = 0 := by omega
  obtain ⟨d, hd⟩ : ∃ x, x = D' * K2 := ⟨_, rfl⟩
  obtain ⟨dh, dl, ed, ld⟩ := split128 d
  have P3 := product_hid D' K2 d dh dl (by omega) (by omega) hd ed ld
  obtain ⟨⟨qa, qb, qc⟩, hq⟩ : ∃ q, packP sg x d = q := ⟨_, rfl⟩
  have PK := pack_hid sg x d xh xl dh dl qe ed qlt qa qb qc hq
  have hT : Hid (addP s t N D M K = (qa, qb, qc)) := Lib.hid (by
    unfold addP
    simp only [hc, hK', hD', ← ha, ← hb, ← hnum, ← hsg, ← hr, hg, hK2, ← hx, ← hd, hq])
  rw [hT.out]
  clear hT hq hd hx hr hnum hsg ha hb hc hK' hD' hK2 hg ho1 ho2 ho3 hxh hxl qe en red qlt ln rlt gle cle pg pc pK pD ba bb bnum bK2 ld ed eb ea bK' bD' bK bD bM bN
  go_enter Tryz.func41, Tryz.ntmps41
  go_wp2
  have hA := AM.start w fn fd gn gd
  generalize ((w.alloc (.cells #[.int .i64 fn, .int .i64 fd] 23)).alloc (.cells #[.int .i64 gn, .int .i64 gd] 23)).alloc (.cells #[.int .i64 0, .int .i64 0] 23) = W1 at *
  have HA := Lib.hid hA
  have x1 := hA.bf.cell (j := 1) (v := .int .i64 fd) rfl
  have y1 := hA.bg.cell (j := 1) (v := .int .i64 gd) rfl
  clear hA
  go_quiet ((go_at_call 43; (first | (with_reducible exact quiet_eq (S2.out _)) | (with_reducible exact quiet_eq (S4.out _)))))
  go_wp2_with fail
  refine (G1.out _).mono ?_
  rintro e w1 ⟨rfl, n1, rfl⟩
  clear x1 y1
  go_upto_region 3 with fail
  have hA := HA.out.keep (below_drewN (Below.refl _ W1) (nq + n1))
  generalize W1.drewN (nq + n1) = W2 at *
  have HA2 := Lib.hid hA
  clear HA
  go_cut [11] (fun s11 wx => ∃ pa : Nat, s11 = .pointer (some ⟨pa, 0, none⟩) ∧ AW w wx fn fd gn gd pa ah al)
  case first =>
    have x0 := hA.bf.cell (j := 0) (v := .int .i64 fn) rfl
    clear hA
    have SOF := Lib.hid (fun (wx : World) (hb : Below W2.heap.size W2 wx) => (⟨(hb.cell (World.block_lt_of_cell? W2 _ x0)).trans x0, hb⟩ : wx.cell? ⟨w.heap.size, 0, none⟩ = some (.int .i64 fn) ∧ Below W2.heap.size W2 wx))
    clear x0
    go_region_held3 (fun wx => wx.cell? ⟨w.heap.size, 0, none⟩ = some (.int .i64 fn) ∧ Below W2.heap.size W2 wx)
      (first | exact SOF.out _ (Below.refl _ _) | exact SOF.out _ (Below.drew (Below.refl _ _)) | exact SOF.out _ (Below.alloc (Below.drew (Below.refl _ _)) (Nat.le_refl _) _) | exact SOF.out _ hB | exact SOF.out _ (hB.alloc hB.size _) | exact SOF.out _ (hB.setCell (Nat.le_refl _) _) | exact SOF.out _ ((hB.setCell (Nat.le_refl _) _).setCell (Nat.le_refl _) _))
      (first | (go_at_call 43; (with_reducible refine (S1.out _).mono ?_); rintro e w' ⟨rfl, rfl⟩) | (go_at_call 47; (with_reducible refine (P1.out _).mono ?_); rintro e w' ⟨rfl, hb⟩; (have hB := bchain (by assumption : _ ∧ Below W2.heap.size W2 _).2 hb); obtain ⟨hc, hf⟩ := bcell hb))
    all_goals
      clear hc hf
      go_wp2
      go_meet
      first
        | exact ⟨_, rfl, (HA2.out.keep hB).new ah al⟩
        | exact ⟨_, rfl, HA2.out.late rfl hb ah al⟩
  case rest =>
  obtain ⟨pa, rfl, hW⟩ := hcut
  clear hA HA2
  go_upto_region 4 with fail
  generalize wc = W3 at *
  have HA3 := Lib.hid hW
  go_cut [12] (fun s12 wx => ∃ pb : Nat, s12 = .pointer (some ⟨pb, 0, none⟩) ∧ pa < pb ∧ AW w wx fn fd gn gd pa ah al ∧ AW w wx fn fd gn gd pb bh bl)
  case first =>
    have x0 := hW.am.bg.cell (j := 0) (v := .int .i64 gn) rfl
    have hlt := hW.bw.lt
    clear hW
    have HLT := Lib.hid hlt
    clear hlt
    have SOF := Lib.hid (fun (wx : World) (hb : Below W3.heap.size W3 wx) => (⟨(hb.cell (World.block_lt_of_cell? W3 _ x0)).trans x0, hb⟩ : wx.cell? ⟨w.heap.size + 1, 0, none⟩ = some (.int .i64 gn) ∧ Below W3.heap.size W3 wx))
    clear x0
    go_region_held3 (fun wx => wx.cell? ⟨w.heap.size + 1, 0, none⟩ = some (.int .i64 gn) ∧ Below W3.heap.size W3 wx)
      (first | exact SOF.out _ (Below.refl _ _) | exact SOF.out _ (Below.drew (Below.refl _ _)) | exact SOF.out _ (Below.alloc (Below.drew (Below.refl _ _)) (Nat.le_refl _) _) | exact SOF.out _ hB | exact SOF.out _ (hB.alloc hB.size _) | exact SOF.out _ (hB.setCell (Nat.le_refl _) _) | exact SOF.out _ ((hB.setCell (Nat.le_refl _) _).setCell (Nat.le_refl _) _))
      (first | (go_at_call 43; (with_reducible refine (S3.out _).mono ?_); rintro e w' ⟨rfl, rfl⟩) | (go_at_call 47; (with_reducible refine (P2.out _).mono ?_); rintro e w' ⟨rfl, hb⟩; (have hB := bchain (by assumption : _ ∧ Below W3.heap.size W3 _).2 hb); obtain ⟨hc, hf⟩ := bcell hb))
    all_goals
      clear hc hf
      go_wp2
      go_meet
      first
        | exact ⟨_, rfl, Nat.lt_of_lt_of_le HLT.out hB.size, (HA3.out.keep hB).keep (below1 _ _), (HA3.out.keep hB).am.new bh bl⟩
        | exact ⟨_, rfl, HLT.out, HA3.out.late hb _ _, HA3.out.am.late rfl hb bh bl⟩
  case rest =>
  obtain ⟨pb, rfl, hab, hWa, hWb⟩ := hcut
  have x0 := hWa.am.bf.cell (j := 0) (v := .int .i64 fn) rfl
  go_upto_block 0 with fail
  have hN := hWa.am.new 0 0
  have hWa' := hWa.keep (below1 _ (.cells #[.int .u64 0, .int .u64 0] 73))
  have hWb' := hWb.keep (below1 _ (.cells #[.int .u64 0, .int .u64 0] 73))
  have hlt1 := hWa.bw.lt
  have hlt2 := hWb.bw.lt
  clear x0 hWa hWb
  obtain ⟨pn, hpn⟩ : ∃ pn, pn = wc.heap.size := ⟨_, rfl⟩
  rw [← hpn] at hlt1 hlt2 hN ⊢
  have HPn := Lib.hid hpn
  clear hpn
  have HL := Lib.hid (⟨hlt1, hlt2⟩ : pa < pn ∧ pb < pn)
  clear hlt1 hlt2
  generalize wc.alloc (.cells #[.int .u64 0, .int .u64 0] 73) = W5 at *
  have HN := Lib.hid hN
  have HWa := Lib.hid hWa'
  have HWb := Lib.hid hWb'
  clear hN hWa' hWb'
  go_cut [13] (fun s13 wx => s13 = .bool sg ∧ AW w wx fn fd gn gd pn nh nl)
  case first =>
    have a0 := HWa.out.bw.cell (j := 0) (v := .int .u64 ah) rfl
    have a1 := HWa.out.bw.cell (j := 1) (v := .int .u64 al) rfl
    have b0 := HWb.out.bw.cell (j := 0) (v := .int .u64 bh) rfl
    have b1 := HWb.out.bw.cell (j := 1) (v := .int .u64 bl) rfl
    by_cases hst : s = t
    · have e1 : (s == t) = true := by simpa using hst
      have HP := Lib.hid (HPl.out hst)
      have HS := Lib.hid (HS1.out hst)
      clear hst
      go_wp2_with fail
      refine (HP.out _).mono ?_
      rintro e w' ⟨rfl, hb⟩
      have hB := HN.out.keep hb
      have c0 := hB.bw.cell (j := 0) (v := .int .u64 0) rfl
      have c1 := hB.bw.cell (j := 1) (v := .int .u64 0) rfl
      have d0 := hB.bw.free 0
      have d1 := hB.bw.free 1
      clear hb a0 a1 b0 b1
      have HB := Lib.hid hB
      clear hB
      go_wp2
      go_meet
      exact ⟨by rw [HS.out], HB.out.set2 nh nl⟩
    · have e1 : (s == t) = false := by simpa using hst
      have HCC := HC
      go_wp2_with fail
      refine (HCC.out _).mono ?_
      rintro e w' ⟨rfl, hb⟩
      have hNa := HWa.out.keep hb
      have hNb := HWb.out.keep hb
      have hNn := HN.out.keep hb
      clear a0 a1 b0 b1 hb
      have a0 := hNa.bw.cell (j := 0) (v := .int .u64 ah) rfl
      have a1 := hNa.bw.cell (j := 1) (v := .int .u64 al) rfl
      have b0 := hNb.bw.cell (j := 0) (v := .int .u64 bh) rfl
      have b1 := hNb.bw.cell (j := 1) (v := .int .u64 bl) rfl
      have HN2 := Lib.hid hNn
      clear hNa hNb hNn
      by_cases hba : b ≤ a
      · obtain ⟨cv, hcv⟩ : ∃ cv, cv = cmpN a b := ⟨_, rfl⟩
        have g1 : decide (0 ≤ cv) = true := decide_eq_true (by rw [hcv, cmpN, if_neg (by omega)]; split <;> omega)
        rw [← hcv]
        have HM := Lib.hid (HM1.out hst hba)
        have HS := Lib.hid (HS2.out hst hba)
        clear hst hcv hba
        go_wp2_with fail
        refine (HM.out _).mono ?_
        rintro e w' ⟨rfl, hb⟩
        have hB := HN2.out.keep hb
        have c0 := hB.bw.cell (j := 0) (v := .int .u64 0) rfl
        have c1 := hB.bw.cell (j := 1) (v := .int .u64 0) rfl
        have d0 := hB.bw.free 0
        have d1 := hB.bw.free 1
        clear hb a0 a1 b0 b1
        have HB := Lib.hid hB
        clear hB
        go_wp2
        go_meet
        exact ⟨by rw [HS.out], HB.out.set2 nh nl⟩
      · obtain ⟨cv, hcv⟩ : ∃ cv, cv = cmpN a b := ⟨_, rfl⟩
        have g1 : decide (0 ≤ cv) = false := decide_eq_false (by rw [hcv, cmpN, if_pos (by omega)]; omega)
        rw [← hcv]
        have HM := Lib.hid (HM2.out hst hba)
        have HS := Lib.hid (HS3.out hst hba)
        clear hst hcv hba
        go_wp2_with fail
        refine (HM.out _).mono ?_
        rintro e w' ⟨rfl, hb⟩
        have hB := HN2.out.keep hb
        have c0 := hB.bw.cell (j := 0) (v := .int .u64 0) rfl
        have c1 := hB.bw.cell (j := 1) (v := .int .u64 0) rfl
        have d0 := hB.bw.free 0
        have d1 := hB.bw.free 1
        clear hb a0 a1 b0 b1
        have HB := Lib.hid hB
        clear hB
        go_wp2
        go_meet
        exact ⟨by rw [HS.out], HB.out.set2 nh nl⟩
  case rest =>
  obtain ⟨rfl, hN⟩ := hcut
  clear HN HWa HWb HL HPn
  have a0 := hN.bw.cell (j := 0) (v := .int .u64 nh) rfl
  have a1 := hN.bw.cell (j := 1) (v := .int .u64 nl) rfl
  have HN := Lib.hid hN
  clear hN
  go_wp2_with fail
  refine (O1.out _).mono ?_
  rintro e w' ⟨rfl, hb⟩
  have hN := (HN.out.keep hb).keep (below1 _ (.cells #[.int .u64 (o1 : Nat), .int .u64 (o2 : Nat)] 73))
  clear hb a0 a1
  go_wp2_with fail
  generalize w'.alloc (.cells #[.int .u64 (o1 : Nat), .int .u64 (o2 : Nat)] 73) = W6 at *
  refine (G2.out _).mono ?_
  rintro e w2 ⟨rfl, n2, rfl⟩
  have hM := hN.keep (below_drewN (Below.refl _ W6) n2)
  clear hN
  have a0 := hM.bw.cell (j := 0) (v := .int .u64 nh) rfl
  have a1 := hM.bw.cell (j := 1) (v := .int .u64 nl) rfl
  generalize W6.drewN n2 = W7 at *
  have HN := Lib.hid hM
  clear hM
  go_wp2_with fail
  refine (O2.out _).mono ?_
  rintro e w3 ⟨rfl, hb⟩
  have hB := HN.out.keep hb
  clear hb a0 a1
  have c0 := hB.bw.cell (j := 0) (v := .int .u64 nh) rfl
  have c1 := hB.bw.cell (j := 1) (v := .int .u64 nl) rfl
  have d0 := hB.bw.free 0
  have d1 := hB.bw.free 1
  have HB := Lib.hid (hB.set2 xh xl)
  clear hB
  go_upto_region 15 with fail
  clear c0 c1 d0 d1
  generalize (w3.setCell ⟨pn, 0, none⟩ (.int .u64 (xh : Nat))).setCell ⟨pn, 1, none⟩ (.int .u64 (xl : Nat)) = W8 at *
  have a0 := HB.out.bw.cell (j := 0) (v := .int .u64 xh) rfl
  have a1 := HB.out.bw.cell (j := 1) (v := .int .u64 xl) rfl
  have k0 := Since.cell a0
  have k1 := Since.cell a1
  clear a0 a1
  refine region_since_tail 12 (by kernel_rfl) (by kernel_rfl) ?_
  repeat (quiet_step ((first
    | (go_at_call 47; exact Calls.since (P3.out _))
    | (go_at_call 44; exact Calls.since (PK.out _)))))
  refine wpQuiet_nil ?_
  rintro w' ⟨u, rfl⟩
  have hR := HB.out.am.keep u.property
  clear k0 k1
  have y0 := hR.br.cell (j := 0) (v := .int .i64 0) rfl
  have y1 := hR.br.cell (j := 1) (v := .int .i64 0) rfl
  have x0 := hR.br.free 0
  have x1 := hR.br.free 1
  have hBB := hR.below
  have hlt := hR.br.lt
  clear hR
  go_wp2
  refine bodyPost_ret (v := .tuple #[.agg #[.int .i64 qa, .int .i64 qb], .int .i64 qc]) (by simp [results, Tryz.results41, go_sem, y0, y1]) rfl ?_
  exact retF_mk rfl ((hBB.setCell (by simp; omega) _).setCell (by simp; omega) _)
end Go.Proofs.YtfhkgpipbegpgaaGreatDoor
