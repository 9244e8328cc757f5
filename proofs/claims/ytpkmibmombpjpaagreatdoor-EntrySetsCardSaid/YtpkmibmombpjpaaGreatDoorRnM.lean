/- The reference's numbers of an entry, and its Compare. The reference's Compare. -/
import Derived.Test.YtpkmibmombpjpaaGreatDoorEO
import Derived.Test.YtpkmibmombpjpaaGreatDoorEY
import Derived.Test.YtpkmibmombpjpaaGreatDoorApp
import Derived.Test.YtpkmibmombpjpaaGreatDoorRA
import Derived.Test.YtpkmibmombpjpaaGreatDoorEF
set_option linter.unusedSimpArgs false
namespace Go.Proofs.YtpkmibmombpjpaaGreatDoor
open Go Go.RowKit

/-- Numbers in a block. -/
def NR (W : World) (g : Nat) (l : List Int) : Prop := g < W.heap.size ∧ ∀ i n, l[i]? = some n → W.cell? ⟨g, i, none⟩ = some (.int .i64 n)
theorem NR.keep {W W' : World} {g : Nat} {l : List Int} (h : NR W g l) (hb : Below W.heap.size W W') : NR W' g l := ⟨Nat.lt_of_lt_of_le h.1 hb.size, fun i n hi => keepW hb (h.2 i n hi)⟩
def nL (l : List Int) : List Value := l.map (Value.int .i64)
theorem nL_app (l m : List Int) : nL (l ++ m) = nL l ++ nL m := by simp [nL]
theorem nL_one (l : List Int) : ∀ u ∈ nL l, u.oneCell' = true := by
  intro u hu
  obtain ⟨n, _, rfl⟩ := List.mem_map.1 hu
  rfl
theorem nr_own {W : World} {B n c : Nat} {g : Nat} {l : List Int} (h : W.ownsRow B 3 1 (.slice (some ⟨g, 0, none⟩) n c) n (nL l)) : NR W g l := by
  rcases h.2 with ⟨h1, _⟩ | ⟨g', cap', cur, e, hb, hg, h1, h2, h3, h4⟩
  · cases h1
  · injection e with e1 _ _
    have e1 := Option.some.inj e1
    injection e1 with e1 _ _
    subst e1
    refine ⟨(Array.getElem?_eq_some_iff.1 hg).1, fun i m hi => ?_⟩
    have hj : (nL l)[i]? = some (.int .i64 m) := by unfold nL; rw [List.getElem?_map, hi]; rfl
    rw [← h4, List.getElem?_take] at hj
    split at hj
    · have : cur[i]? = some (.int .i64 m) := by simpa using hj
      simp [World.cell?, hg, this]
    · cases hj
theorem info_int3 : (Tryz.prog.info? 3).map (fun i => (i.size, i.bytes, i.zero.map (fun z => z.cells.size))) = some (1, 8, some 1) := by kernel_rfl
theorem info_parts_int : ∃ i z, Tryz.prog.info? 3 = some i ∧ i.zero = some z ∧ i.size = 1 ∧ i.bytes = 8 ∧ z.cells.size = 1 := by
  have h := info_int3
  cases hi : Tryz.prog.info? 3 with
  | none => rw [hi] at h; cases h
  | some i =>
    rw [hi] at h
    simp only [Option.map_some, Option.some.injEq, Prod.mk.injEq] at h
    cases hz : i.zero with
    | none => rw [hz] at h; simp at h
    | some z => rw [hz] at h; exact ⟨i, z, rfl, hz, h.1, h.2.1, by simpa using h.2.2⟩
/-- A row of numbers that has just been built. -/
theorem own_new (W : World) (B : Nat) (hB : B ≤ W.heap.size) (l : List Int) (hl : l.length ≤ 1000) : (W.alloc (.cells (nL l).toArray 3)).ownsRow B 3 1 (.slice (some ⟨W.heap.size, 0, none⟩) l.length l.length) l.length (nL l) :=
  ⟨by simp [nL], .inr ⟨W.heap.size, l.length, (nL l).toArray, rfl, hB, Blk.new W _ _, Nat.le_refl _, by simp [maxLen]; omega, by simp [nL], by simp [nL, List.take_of_length_le]⟩⟩
theorem src_new (W : World) (l : List Int) : SrcR (W.alloc (.cells (nL l).toArray 3)) 1 (.slice (some ⟨W.heap.size, 0, none⟩) l.length l.length) l.length (nL l) :=
  .some_ W.heap.size 0 l.length l.length _ (by simp [nL]) (fun j u hj => by rw [Nat.zero_add]; exact (Blk.new W 3 (nL l).toArray).cell (by rw [List.getElem?_toArray]; exact hj))
def pre7 (e : En) : List Int := [e.rd, e.tb, e.bd, e.vs, (e.kd : Int), (e.fd : Int), b01 e.tn]
def numsK (e : En) : Nat → List Int
  | 0 => pre7 e
  | k + 1 => numsK e k ++ (e.ou k).nums
theorem numsK_len (e : En) : ∀ k, (numsK e k).length = 7 + 6 * k
  | 0 => rfl
  | k + 1 => by rw [numsK, List.length_append, numsK_len e k]; simp [Ou.nums]; omega
theorem numsK_all (e : En) : numsK e 4 ++ [e.a0, e.a1] = e.nums := by
  simp [numsK, pre7, En.nums, En.ou]
set_option maxRecDepth 100000 in
set_option maxHeartbeats 4000000 in
theorem rnumbers_any (e : En) (he : e.In) (w : World) : Calls Tryz.prog 65 #[.agg (enC e)] w (fun r w' => (∃ g c, r = .returned (.slice (some ⟨g, 0, none⟩) 33 c) ∧ NR w' g e.nums) ∧ Below w.heap.size w w') := by
  obtain ⟨i0, z0, hi0, hz0, hz1, hz2, hz3⟩ := info_parts_int
  have k1 : IntKind.i64.wrap (e.kd : Int) = (e.kd : Int) := IntWalk.i64_in _ (by have := he.kd; omega)
  have k2 : IntKind.i64.wrap (e.fd : Int) = (e.fd : Int) := IntWalk.i64_in _ (by have := he.fd; omega)
  have HIN := Lib.hid (fun k (hk : k < 4) => outs_in he _ (List.mem_of_getElem? (e.ou_at k hk)))
  have HLEN := Lib.hid (numsK_len e)
  have HALL := Lib.hid (numsK_all e)
  go_enter Tryz.func65, Tryz.ntmps65
  go_upto_region 2 with fail
  have HA := Lib.hid (Blk.new w 34 (enC e))
  have HW := Lib.hid (below1 w (.cells (enC e) 34))
  have HP : Hid (w.heap.size < (w.alloc (.cells (enC e) 34)).heap.size) := Lib.hid (by simp)
  generalize w.alloc (.cells (enC e) 34) = W1 at *
  generalize hp0 : w.heap.size = p0 at *
  have x0 := HA.out.cell (enC_rd e)
  have x1 := HA.out.cell (enC_tb e)
  have x2 := HA.out.cell (enC_bd e)
  have x3 := HA.out.cell (enC_vs e)
  have x4 := HA.out.cell (enC_kd e)
  have x5 := HA.out.cell (enC_fd e)
  have x6 := HA.out.cell (enC_tn e)
  obtain ⟨tn, htn⟩ : ∃ tn, e.tn = tn := ⟨_, rfl⟩
  rw [htn] at x6
  have HTN := Lib.hid htn
  clear htn
  go_upto_if 8 with fail
  clear x6
  go_cut [3] (fun s3 wx => s3 = .int .i64 (b01 tn) ∧ wx = W1)
  case first =>
    rcases tn with _ | _
    · go_wp2_with fail
      go_meet
      exact ⟨rfl, rfl⟩
    · go_wp2_with fail
      go_meet
      exact ⟨rfl, rfl⟩
  case rest =>
    obtain ⟨rfl, rfl⟩ := hcut
    generalize hb1 : b01 tn = b1 at *
    go_upto_region 5 with fail
    have HB0 := Lib.hid (HW.out.alloc (by have := HP.out; omega) (.cells (nL (pre7 e)).toArray 3))
    have HA0 := Lib.hid (HA.out.alloc (.cells (nL (pre7 e)).toArray 3))
    have HO0 := Lib.hid (own_new wc wc.heap.size (Nat.le_refl _) (pre7 e) (by simp [pre7]))
    have e0 : (nL (pre7 e)).toArray = #[.int .i64 e.rd, .int .i64 e.tb, .int .i64 e.bd, .int .i64 e.vs, .int .i64 (e.kd : Int), .int .i64 (e.fd : Int), .int .i64 b1] := by
      unfold nL pre7; rw [HTN.out, hb1]; rfl
    rw [e0] at HB0 HA0 HO0
    have HO1 : Hid ((wc.alloc (.cells #[.int .i64 e.rd, .int .i64 e.tb, .int .i64 e.bd, .int .i64 e.vs, .int .i64 (e.kd : Int), .int .i64 (e.fd : Int), .int .i64 b1] 3)).ownsRow wc.heap.size 3 1 (.slice (some ⟨wc.heap.size, 0, none⟩) 7 7) 7 (nL (numsK e 0))) := Lib.hid HO0.out
    clear x0 x1 x2 x3 x4 x5 HO0 HA HW e0
    have HS1 : Hid (p0 ≤ wc.heap.size ∧ wc.heap.size ≤ (wc.alloc (.cells #[.int .i64 e.rd, .int .i64 e.tb, .int .i64 e.bd, .int .i64 e.vs, .int .i64 (e.kd : Int), .int .i64 (e.fd : Int), .int .i64 b1] 3)).heap.size) := Lib.hid (by have := HP.out; rw [size_al]; omega)
    generalize wc.alloc (.cells #[.int .i64 e.rd, .int .i64 e.tb, .int .i64 e.bd, .int .i64 e.vs, .int .i64 (e.kd : Int), .int .i64 (e.fd : Int), .int .i64 b1] 3) = W2 at *
    obtain ⟨BN, hBN⟩ : ∃ BN, wc.heap.size = BN := ⟨_, rfl⟩
    rw [hBN] at HO1 HS1 HP ⊢
    clear hBN k1 k2
    go_wp2_with fail
    go_loopw [4, 5] (fun s4 s5 wr => ∃ (k n c : Nat) (A : Option Addr), k ≤ 4 ∧ Hid (n = 7 + 6 * k) ∧ s4 = .slice A n c ∧ s5 = .int .i64 (k : Int) ∧ Hid (wr.ownsRow BN 3 1 (.slice A n c) n (nL (numsK e k))) ∧ Hid (Blk wr p0 34 (enC e)) ∧ Hid (Below p0 w wr) ∧ Hid (BN ≤ wr.heap.size)) (fun _ s5 _ => 4 - (intOf s5).toNat)
    case atStart => exact ⟨0, 7, 7, _, by omega, Lib.hid rfl, rfl, rfl, HO1, HA0, HB0, Lib.hid HS1.out.2⟩
    case round =>
      clear HO1 HA0 HB0
      obtain ⟨k, n, c, A, hk, HN, rfl, rfl, HO1, HA1, HB1, HS2⟩ := hrel
      by_cases hlt : k < 4
      · have u1 : decide ((k : Int) < 4) = true := decide_eq_true (by omega)
        have hoi := HIN.out k hlt
        have lo := ou_load HA1.out k hlt
        unfold ouV at lo
        have HNX : Hid (numsK e (k + 1) = numsK e k ++ (e.ou k).nums) := Lib.hid rfl
        generalize e.ou k = o at *
        have k1 : IntKind.i64.wrap (o.lv : Int) = (o.lv : Int) := IntWalk.i64_in _ (by have := hoi.lv; omega)
        have k2 : IntKind.i64.wrap (o.dn : Int) = (o.dn : Int) := IntWalk.i64_in _ (by have := hoi.dn; omega)
        have k3 : IntKind.i64.wrap (o.rk : Int) = (o.rk : Int) := IntWalk.i64_in _ (by have := hoi.rk; omega)
        have k4 : IntKind.i64.wrap (o.dc : Int) = (o.dc : Int) := IntWalk.i64_in _ (by have := hoi.dc; omega)
        have e2 : IntKind.i64.wrap ((k : Int) + 1) = (k : Int) + 1 := IntWalk.i64_in _ (by omega)
        have j0 : (0 : Int) ≤ (k : Int) := by omega
        have j1 : (k : Int) < 4 := by omega
        have j2 : ¬ (4 : Int) ≤ (k : Int) := by omega
        have j3 : ¬ 4 ≤ k := by omega
        clear hoi
        go_upto_region 9 with (refine op_load (p := .pointer (some ⟨p0, 7 + k * 6, none⟩)) 30 (.tmp 31) rfl rfl rfl lo ?_)
        have HOB := Lib.hid (Blk.new wr 30 #[.int .u8 (o.lv : Int), .int .u8 (o.dn : Int), .int .u8 (o.rk : Int), .int .u8 (o.dc : Int), .int .i64 o.tr, .int .i64 o.wt])
        have HA2 := Lib.hid (HA1.out.alloc (.cells #[.int .u8 (o.lv : Int), .int .u8 (o.dn : Int), .int .u8 (o.rk : Int), .int .u8 (o.dc : Int), .int .i64 o.tr, .int .i64 o.wt] 30))
        have HO2 := Lib.hid (HO1.out.alloc (.cells #[.int .u8 (o.lv : Int), .int .u8 (o.dn : Int), .int .u8 (o.rk : Int), .int .u8 (o.dc : Int), .int .i64 o.tr, .int .i64 o.wt] 30))
        have HB2 := Lib.hid (HB1.out.alloc (by have := HS1.out; have := HS2.out; omega) (.cells #[.int .u8 (o.lv : Int), .int .u8 (o.dn : Int), .int .u8 (o.rk : Int), .int .u8 (o.dc : Int), .int .i64 o.tr, .int .i64 o.wt] 30))
        have HS3 : Hid (BN ≤ (wr.alloc (.cells #[.int .u8 (o.lv : Int), .int .u8 (o.dn : Int), .int .u8 (o.rk : Int), .int .u8 (o.dc : Int), .int .i64 o.tr, .int .i64 o.wt] 30)).heap.size) := Lib.hid (by rw [size_al]; have := HS2.out; omega)
        clear lo HA1 HO1 HB1 HS2
        generalize wr.alloc (.cells #[.int .u8 (o.lv : Int), .int .u8 (o.dn : Int), .int .u8 (o.rk : Int), .int .u8 (o.dc : Int), .int .i64 o.tr, .int .i64 o.wt] 30) = w3 at *
        generalize wr.heap.size = p6 at *
        have y0 := HOB.out.cell (j := 0) rfl
        have y1 := HOB.out.cell (j := 1) rfl
        have y2 := HOB.out.cell (j := 2) rfl
        have y3 := HOB.out.cell (j := 3) rfl
        have y4 := HOB.out.cell (j := 4) rfl
        have y5 := HOB.out.cell (j := 5) rfl
        have hn6 := HN.out
        have hbs : BN ≤ (w3.alloc (.cells (nL o.nums).toArray 3)).heap.size := by rw [size_al]; have := HS3.out; omega
        have HO3 := Lib.hid (HO2.out.alloc (.cells (nL o.nums).toArray 3))
        have hnn : n + 6 ≤ 1000000 := by omega
        clear hn6
        go_wp2_with (at_builtin; refine appS rfl (.tmp 33) (.tmp 54) rfl Tryz.underlying55 hi0 hz0 hz1 hz2 hz3 (by decide) _ BN (.slice A n c) n (nL (numsK e k)) rfl HO3.out (.slice (some ⟨w3.heap.size, 0, none⟩) 6 6) 6 (nL o.nums) rfl (src_new w3 o.nums) (nL_one _) hnn (by decide) hbs ?_; intro u5 w5 hown5 _ _ hb5; obtain ⟨A5, c5, rfl⟩ := own_slice hown5)
        have HO6 : Hid (w5.ownsRow BN 3 1 (.slice A5 (n + 6) c5) (n + 6) (nL (numsK e (k + 1)))) := Lib.hid (by rw [HNX.out, nL_app]; exact hown5)
        have hps := HS1.out.1
        have hb6 := (below1 w3 (.cells (nL o.nums).toArray 3)).mono (Nat.le_trans hps HS3.out)
        have hb7 := hb6.trans (hb5.mono hps)
        have hb8 := ((below1 w3 (.cells (nL o.nums).toArray 3)).mono HS3.out).trans hb5
        have HA6 := Lib.hid (HA2.out.keep hb8 HP.out)
        have HB6 := Lib.hid (HB2.out.trans hb7)
        go_roundw
        case rel => exact ⟨k + 1, n + 6, c5, A5, by omega, Lib.hid (by have := HN.out; omega), rfl, by simp, HO6, HA6, HB6, Lib.hid (Nat.le_trans hbs hb5.size)⟩
        case measure => simp only [intOf]; omega
      · obtain rfl : k = 4 := by omega
        have HE9 := HALL.out
        have e30 : n = 31 := by have := HN.out; omega
        subst e30
        have x7 := HA1.out.cell (enC_a0 e)
        have x8 := HA1.out.cell (enC_a1 e)
        have HO3 := Lib.hid (HO1.out.alloc (.cells (nL [e.a0, e.a1]).toArray 3))
        have hbs : BN ≤ (wr.alloc (.cells (nL [e.a0, e.a1]).toArray 3)).heap.size := by rw [size_al]; have := HS2.out; omega
        have HE8 : Hid (nL (numsK e 4) ++ nL [e.a0, e.a1] = nL e.nums) := Lib.hid (by rw [← nL_app, HE9])
        clear HE9 hlt hk HN HIN HLEN HALL
        go_wp2_with (at_builtin; refine appS rfl (.tmp 56) (.tmp 63) rfl Tryz.underlying55 hi0 hz0 hz1 hz2 hz3 (by decide) _ BN (.slice A 31 c) 31 (nL (numsK e 4)) rfl HO3.out (.slice (some ⟨wr.heap.size, 0, none⟩) 2 2) 2 (nL [e.a0, e.a1]) rfl (src_new wr [e.a0, e.a1]) (nL_one _) (by decide) (by decide) hbs ?_; intro u5 w5 hown5 _ _ hb5; rw [HE8.out] at hown5; obtain ⟨g5, c5, rfl, hg5, _⟩ := own_some hown5 (by decide))
        have hps := HS1.out.1
        have HO6 := Lib.hid (nr_own hown5)
        have HB6 := Lib.hid ((HB1.out.trans ((below1 wr (.cells (nL [e.a0, e.a1]).toArray 3)).mono (Nat.le_trans hps HS2.out))).trans (hb5.mono hps))
        go_ret
        exact ⟨⟨g5, c5, rfl, HO6.out⟩, by rw [hp0]; exact HB6.out⟩
theorem nr_len {e : En} : e.nums.length = 33 := e.nums_len
end Go.Proofs.YtpkmibmombpjpaaGreatDoor
set_option linter.unusedSimpArgs false
namespace Go.Proofs.YtpkmibmombpjpaaGreatDoor
open Go Go.RowKit

theorem NR.drewN {W : World} {g : Nat} {l : List Int} (h : NR W g l) (n : Nat) : NR (W.drewN n) g l := h
def SpN (l : List Int) : Sp := ⟨fun v W => ∃ g c, v = .slice (some ⟨g, 0, none⟩) 33 c ∧ NR W g l, fun _ _ _ ⟨g, c, h1, h2⟩ hb => ⟨g, c, h1, h2.keep hb⟩⟩
set_option maxRecDepth 100000 in
set_option maxHeartbeats 4000000 in
theorem rcompare_any (a b : En) (ha : a.In) (hb : b.In) (w : World) : Calls Tryz.prog 32 #[.agg (enC a), .agg (enC b)] w (fun r w' => r = .returned (.int .i64 (cmpE a b)) ∧ Below w.heap.size w w') := by
  have NA := Lib.hid (fun W => rnumbers_any a ha W)
  have NB := Lib.hid (fun W => rnumbers_any b hb W)
  have HX := Lib.hid a.nums_len
  have HY := Lib.hid b.nums_len
  have HR : Hid (lexC a.nums b.nums = cmpE a b) := Lib.hid rfl
  obtain ⟨r, hr⟩ : ∃ r, cmpE a b = r := ⟨_, rfl⟩
  rw [hr] at HR ⊢
  clear ha hb hr
  go_enter Tryz.func32, Tryz.ntmps32
  go_upto_region 1 with fail
  obtain ⟨HA, HB, HW⟩ := two_blk w 34 (enC a) (enC b)
  generalize (w.alloc (.cells (enC a) 34)).alloc (.cells (enC b) 34) = W2 at *
  have L1 : Hid (w.heap.size ≤ w.heap.size + 1) := Lib.hid (by omega)
  generalize w.heap.size + 1 = p1 at *
  generalize hp0 : w.heap.size = p0 at *
  refine rest_begin (by kernel_rfl) ?_
  have HA2 : Hid (Blk W2.drew p0 34 (enC a)) := Lib.hid HA
  have HB2 : Hid (Blk W2.drew p1 34 (enC b)) := Lib.hid HB
  have HW2 := Lib.hid (HW.trans ((Below.refl W2.heap.size W2).drew.mono (by have := HW.size; omega)))
  clear HA HB HW
  generalize W2.drew = W3 at *
  clear W2
  refine rest_flow3 [some 8, some 9, some 10, some 11] [Sp.is (.agg (enC a)), SpN a.nums, Sp.is (.agg (enC b)), SpN b.nums] [false, false, false, false] 4 (by kernel_rfl) (by kernel_rfl) (fun u F hF => ?_) (fun u w' hbF hsF hold hap => ?_)
  case refine_1 =>
    have E2 : F.eval (.tmp 2) = (.pointer (some ⟨p0, 0, none⟩)) := (congrArg (fun a => Act.eval a (.tmp 2)) hF).trans (eval_out _ 0 _ (by decide))
    have D8 : F.eval (.tmp 8) = u 0 := (congrArg (fun a => Act.eval a (.tmp 8)) hF).trans (eval_in _ 0 0 _ (by decide) (by omega) rfl (of_decide_eq_true (by kernel_rfl)))
    have E3 : F.eval (.tmp 3) = (.pointer (some ⟨p1, 0, none⟩)) := (congrArg (fun a => Act.eval a (.tmp 3)) hF).trans (eval_out _ 0 _ (by decide))
    have D10 : F.eval (.tmp 10) = u 2 := (congrArg (fun a => Act.eval a (.tmp 10)) hF).trans (eval_in _ 0 2 _ (by decide) (by omega) rfl (of_decide_eq_true (by kernel_rfl)))
    clear hF
    refine ⟨?_, ?_, ?_, ?_, trivial⟩
    · intro w1 hb hd K hK
      have e2 := E2
      exact op_val (v := (.agg (enC a))) rfl (exec_load rfl e2 (loadAt_blk (HA2.out.keep hb HA2.out.lt) Tryz.underlying34 rfl (by rw [enC_size]; kernel_rfl))) (hK _ _ (show _ = _ from rfl) (Below.refl _ _) (Fresh.no _ _ _))
    · intro w1 hb hd K hK
      have e8 := D8.trans (show u 0 = _ from hd ⟨0, .data⟩ (by simp) rfl (by omega))
      refine op_call (R := fun v w2 => (SpN a.nums).p v w2 ∧ Below w1.heap.size w1 w2) (f := 65) (args := #[.agg (enC a)]) rfl (by simp only [execOp]; go_simp; first | exact eval_get e8 | exact ⟨rfl, eval_get e8⟩ | exact ⟨eval_get e8, rfl⟩) ((NA.out w1).mono fun e w2 hh => by obtain ⟨⟨g, c, h1, h2⟩, h3⟩ := hh; exact ⟨_, h1, ⟨g, c, rfl, h2⟩, h3⟩) (fun v w2 hh => hK _ _ hh.1 hh.2 (Fresh.no _ _ _))
    · intro w1 hb hd K hK
      have e3 := E3
      exact op_val (v := (.agg (enC b))) rfl (exec_load rfl e3 (loadAt_blk (HB2.out.keep hb HB2.out.lt) Tryz.underlying34 rfl (by rw [enC_size]; kernel_rfl))) (hK _ _ (show _ = _ from rfl) (Below.refl _ _) (Fresh.no _ _ _))
    · intro w1 hb hd K hK
      have e10 := D10.trans (show u 2 = _ from hd ⟨2, .data⟩ (by simp) rfl (by omega))
      refine op_call (R := fun v w2 => (SpN b.nums).p v w2 ∧ Below w1.heap.size w1 w2) (f := 65) (args := #[.agg (enC b)]) rfl (by simp only [execOp]; go_simp; first | exact eval_get e10 | exact ⟨rfl, eval_get e10⟩ | exact ⟨eval_get e10, rfl⟩) ((NB.out w1).mono fun e w2 hh => by obtain ⟨⟨g, c, h1, h2⟩, h3⟩ := hh; exact ⟨_, h1, ⟨g, c, rfl, h2⟩, h3⟩) (fun v w2 hh => hK _ _ hh.1 hh.2 (Fresh.no _ _ _))
  have hv8 : u 0 = (.agg (enC a)) := (show u 0 = _ from hsF 0 (by omega) (by omega))
  obtain ⟨g9, c9, hv9, hnr9⟩ := (show ∃ g c, u 1 = .slice (some ⟨g, 0, none⟩) 33 c ∧ NR w' g a.nums from hsF 1 (by omega) (by omega))
  have hv10 : u 2 = (.agg (enC b)) := (show u 2 = _ from hsF 2 (by omega) (by omega))
  obtain ⟨g11, c11, hv11, hnr11⟩ := (show ∃ g c, u 3 = .slice (some ⟨g, 0, none⟩) 33 c ∧ NR w' g b.nums from hsF 3 (by omega) (by omega))
  simp only [putRow, hv8, hv9, hv10, hv11, Act.put, List.setIfInBounds_toArray, List.set_cons_succ, List.set_cons_zero]
  clear hsF hold hap hv8 hv9 hv10 hv11
  have HN9 := Lib.hid hnr9
  have HN11 := Lib.hid hnr11
  have HW3 := Lib.hid (HW2.out.trans (hbF.mono (by have := HW2.out.size; omega)))
  clear HA2 HB2 HW2 hbF hnr9 hnr11 NA NB
  clear W3
  refine rest_forced 2 (by kernel_rfl) ?_
  simp only [List.drop_succ_cons, List.drop_zero, List.take_succ_cons, List.take_zero]
  go_wp2_with fail
  refine rest_done rfl ?_
  go_wp2_with fail
  go_loopw [7] (fun s7 wr => ∃ k : Nat, k ≤ 33 ∧ s7 = .int .i64 (k : Int) ∧ Hid (lexC (a.nums.drop k) (b.nums.drop k) = r) ∧ Hid (NR wr g9 a.nums) ∧ Hid (NR wr g11 b.nums) ∧ Hid (Below p0 w wr)) (fun s7 _ => 33 - (intOf s7).toNat)
  case atStart => exact ⟨0, by omega, rfl, Lib.hid HR.out, HN9, HN11, HW3⟩
  case round =>
    clear HN9 HN11 HW3
    obtain ⟨k, hk, rfl, HL, HN9, HN11, HW3⟩ := hrel
    by_cases hlt : k < 33
    · have u1 : decide ((k : Int) < 33) = true := decide_eq_true (by omega)
      obtain ⟨x, hx⟩ : ∃ x, a.nums[k]? = some x := ⟨_, List.getElem?_eq_getElem (by rw [HX.out]; exact hlt)⟩
      obtain ⟨y, hy⟩ : ∃ y, b.nums[k]? = some y := ⟨_, List.getElem?_eq_getElem (by rw [HY.out]; exact hlt)⟩
      have c0 := HN9.out.2 k x hx
      have c1 := HN11.out.2 k y hy
      have hstep : Hid ((if x < y then -1 else if y < x then 1 else lexC (a.nums.drop (k + 1)) (b.nums.drop (k + 1))) = r) := Lib.hid (by
        rw [← HL.out]
        have e1 : a.nums.drop k = x :: a.nums.drop (k + 1) := by rw [List.drop_eq_getElem_cons (by rw [HX.out]; exact hlt)]; rw [(List.getElem?_eq_some_iff.1 hx).2]
        have e2 : b.nums.drop k = y :: b.nums.drop (k + 1) := by rw [List.drop_eq_getElem_cons (by rw [HY.out]; exact hlt)]; rw [(List.getElem?_eq_some_iff.1 hy).2]
        rw [e1, e2]; rfl)
      have i1 : (0 : Int) ≤ (k : Int) := by omega
      have i2 : (k : Int) < 33 := by omega
      have i3 : ¬ (33 : Int) ≤ (k : Int) := by omega
      have i4 : ¬ 33 ≤ k := by omega
      have e2 : IntKind.i64.wrap ((k : Int) + 1) = (k : Int) + 1 := IntWalk.i64_in _ (by omega)
      clear hx hy
      by_cases h1 : x < y
      · have t1 : decide (x < y) = true := decide_eq_true h1
        have HN : Hid (-1 = r) := Lib.hid (by have := hstep.out; rwa [if_pos h1] at this)
        clear h1 hstep
        go_upto_region 5 with fail
        go_quiet (fail)
        have HW4 := Lib.hid (below_drewN HW3.out nq)
        go_wp2_with fail
        go_ret
        exact ⟨by rw [← HN.out]; rfl, HW4.out⟩
      · have t1 : decide (x < y) = false := decide_eq_false h1
        by_cases h2 : y < x
        · have t2 : decide (y < x) = true := decide_eq_true h2
          have HN : Hid (1 = r) := Lib.hid (by have := hstep.out; rwa [if_neg h1, if_pos h2] at this)
          clear h1 h2 hstep
          go_upto_region 5 with fail
          go_quiet (fail)
          have HW4 := Lib.hid (below_drewN HW3.out nq)
          have c2 : (wr.drewN nq).cell? ⟨g9, k, none⟩ = _ := c0
          have c3 : (wr.drewN nq).cell? ⟨g11, k, none⟩ = _ := c1
          clear c0 c1
          generalize wr.drewN nq = wq at *
          go_upto_region 7 with fail
          go_quiet (fail)
          have HW5 := Lib.hid (below_drewN HW4.out nq)
          go_wp2_with fail
          go_ret
          exact ⟨by rw [← HN.out]; rfl, HW5.out⟩
        · have t2 : decide (y < x) = false := decide_eq_false h2
          have HN : Hid (lexC (a.nums.drop (k + 1)) (b.nums.drop (k + 1)) = r) := Lib.hid (by have := hstep.out; rwa [if_neg h1, if_neg h2] at this)
          clear h1 h2 hstep
          go_upto_region 5 with fail
          go_quiet (fail)
          have HW4 := Lib.hid (below_drewN HW3.out nq)
          have HN14 := Lib.hid (HN9.out.drewN nq)
          have HN15 := Lib.hid (HN11.out.drewN nq)
          have c2 : (wr.drewN nq).cell? ⟨g9, k, none⟩ = _ := c0
          have c3 : (wr.drewN nq).cell? ⟨g11, k, none⟩ = _ := c1
          clear c0 c1
          generalize wr.drewN nq = wq at *
          go_upto_region 7 with fail
          go_quiet (fail)
          have HW5 := Lib.hid (below_drewN HW4.out nq)
          have HN16 := Lib.hid (HN14.out.drewN nq)
          have HN17 := Lib.hid (HN15.out.drewN nq)
          go_wp2_with fail
          go_roundw
          case rel => exact ⟨k + 1, by omega, by simp, HN, HN16, HN17, HW5⟩
          case measure => simp only [intOf]; omega
    · obtain rfl : k = 33 := by omega
      have u1 : decide ((33 : Int) < 33) = false := rfl
      rw [show ((33 : Nat) : Int) = 33 from rfl]
      have HN : Hid (r = 0) := Lib.hid (by rw [← HL.out, List.drop_eq_nil_of_le (by rw [HX.out]; omega)]; rfl)
      go_wp2_with fail
      go_ret
      exact ⟨by rw [HN.out]; rfl, by rw [hp0]; exact HW3.out⟩
end Go.Proofs.YtpkmibmombpjpaaGreatDoor
