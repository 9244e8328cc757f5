/- The contract of Sum. -/
import Derived.Test.YtfhkgpipbegpgaaGreatDoorInv
namespace Go.Proofs.YtfhkgpipbegpgaaGreatDoor
open Go Go.RowKit

/-- What Sum returns of right fractions, x being the sum of those before. -/
def sumR (x : Rat) : List (Int × Int) → Int × Int × Int
  | [] => (x.num, (x.den : Int), 0)
  | (n, d) :: t => if fits (x + toR n d) then sumR (x + toR n d) t else (0, 0, 3)
def sumF (fs : List (Int × Int)) : Int × Int × Int := if fs.all (fun x => rightB x.1 x.2) then sumR 0 fs else (0, 0, 2)
/-- The fractions of a slice, two cells each. -/
structure RowF (W : World) (b off : Nat) (fs : List (Int × Int)) : Prop where
  lt : b < W.heap.size
  num : ∀ i n d, fs[i]? = some (n, d) → W.cell? ⟨b, off + i * 2, none⟩ = some (.int .i64 n)
  den : ∀ i n d, fs[i]? = some (n, d) → W.cell? ⟨b, off + i * 2 + 1, none⟩ = some (.int .i64 d)
theorem RowF.keep {W W' : World} {b off : Nat} {fs : List (Int × Int)} (h : RowF W b off fs) (hb : Below W.heap.size W W') : RowF W' b off fs :=
  ⟨Nat.lt_of_lt_of_le h.lt hb.size, fun i n d hi => keepW hb (h.num i n d hi), fun i n d hi => keepW hb (h.den i n d hi)⟩
theorem RowF.set {W : World} {b off : Nat} {fs : List (Int × Int)} (h : RowF W b off fs) {p : Nat} (hp : b ≠ p) (j : Nat) (v : Value) : RowF (W.setCell ⟨p, j, none⟩ v) b off fs := by
  have hk : ∀ o, (W.setCell ⟨p, j, none⟩ v).cell? ⟨b, o, none⟩ = W.cell? ⟨b, o, none⟩ := fun o => World.cell?_setCell_other W ⟨p, j, none⟩ ⟨b, o, none⟩ v (fun e => hp (by injection e with e1 _ _; exact e1.symm))
  exact ⟨by simpa using h.lt, fun i n d hi => (hk _).trans (h.num i n d hi), fun i n d hi => (hk _).trans (h.den i n d hi)⟩
/-- The memory of Sum. -/
structure SM (w W : World) (b off : Nat) (fs : List (Int × Int)) : Prop where
  below : Below w.heap.size w W
  br : Blk W w.heap.size 23 #[.int .i64 0, .int .i64 0]
  row : RowF W b off fs
  old : b < w.heap.size
section
variable {w W W' : World} {b off : Nat} {fs : List (Int × Int)}
theorem SM.keep (h : SM w W b off fs) (hb : Below W.heap.size W W') : SM w W' b off fs := ⟨bchain h.below hb, h.br.keep hb h.br.lt, h.row.keep hb, h.old⟩
theorem SM.set (h : SM w W b off fs) {p : Nat} (hp : w.heap.size < p) (j : Nat) (v : Value) : SM w (W.setCell ⟨p, j, none⟩ v) b off fs :=
  have := h.old
  ⟨h.below.setCell (by simp; omega) _, h.br.other (by omega) _ _, h.row.set (by omega) _ _, h.old⟩
theorem SM.start (w : World) (h : RowF w b off fs) : SM w (w.alloc (.cells #[.int .i64 0, .int .i64 0] 23)) b off fs :=
  ⟨below1 _ _, Blk.new _ _ _, h.keep (below1 _ _), h.lt⟩
end
theorem right_of {n d : Int} {x : Rat} (hx : fits x = true) (h : x.num = n) (h' : (x.den : Int) = d) : FB n d ∧ rightB n d = true := by
  unfold fits at hx
  simp only [Bool.and_eq_true, decide_eq_true_eq] at hx
  subst h h'
  have := x.den_pos
  exact ⟨⟨hx.1.1, hx.1.2, by omega, by omega⟩, right_R x⟩
/-- add, for two rational numbers that fit. -/
theorem add_R (x : Rat) (n d : Int) (hx : fits x = true) (hf : FB n d) (h : rightB n d = true) (w : World) :
    Calls Tryz.prog 41 #[.agg #[.int .i64 x.num, .int .i64 (x.den : Nat)], .agg #[.int .i64 n, .int .i64 d], .bool (decide (n < 0))] w (RetF (outF (x + toR n d)) w) := by
  obtain ⟨hb, hr⟩ := right_of hx rfl rfl
  have := add_any x.num x.den n d (decide (n < 0)) hb.n0 hb.n1 (right_pos hr) hb.d1 hf.n0 hf.n1 (right_pos h) hf.d1 w
  rw [add_val hr h, toR_R] at this
  exact this

set_option maxRecDepth 100000 in
set_option maxHeartbeats 4000000 in
theorem sum_any (b off : Nat) (fs : List (Int × Int)) (cap : Nat) (hn : fs.length ≤ 1000000) (hfs : ∀ x ∈ fs, FB x.1 x.2) (w : World) (hR : RowF w b off fs) :
    Calls Tryz.prog 35 #[.slice (some ⟨b, off, none⟩) fs.length cap] w (RetF (sumF fs) w) := by
  obtain ⟨N, hN⟩ : ∃ N, fs.length = N := ⟨_, rfl⟩
  rw [hN] at hn ⊢
  have hS := SM.start w hR
  have HFS := Lib.hid hfs
  have HN := Lib.hid hN
  clear hR hfs hN
  go_enter Tryz.func35, Tryz.ntmps35
  go_wp2
  generalize w.alloc (.cells #[.int .i64 0, .int .i64 0] 23) = W0 at *
  have HS := Lib.hid hS
  clear hS
  go_loopw [13] (fun s13 wr => ∃ k : Nat, k ≤ N ∧ s13 = .int .i64 k ∧ SM w wr b off fs ∧ (∀ i, i < k → ∀ x, fs[i]? = some x → rightB x.1 x.2 = true)) (fun s13 _ => N - (intOf s13).toNat)
  case atStart => exact ⟨0, by omega, rfl, HS.out, fun i hi => by omega⟩
  case round =>
    obtain ⟨k, hk, rfl, hM, hall⟩ := hrel
    have HM := Lib.hid hM
    have HA := Lib.hid hall
    clear hM hall
    by_cases hlt : k < N
    · obtain ⟨⟨n, d⟩, hx⟩ : ∃ x, fs[k]? = some x := ⟨_, List.getElem?_eq_getElem (by rw [HN.out]; exact hlt)⟩
      have hfb := HFS.out _ (List.mem_of_getElem? hx)
      have t1 : decide ((k : Int) < (N : Int)) = true := decide_eq_true (by omega)
      have i1 : 0 ≤ (k : Int) := by omega
      have c0 := HM.out.row.num k n d hx
      have c1 := HM.out.row.den k n d hx
      have HX := Lib.hid hx
      clear hx
      cases hr : rightB n d
      · have R1 := right_hid hfb hr
        have HQ : Hid (sumF fs = (0, 0, 2)) := Lib.hid (by
          unfold sumF
          rw [if_neg]
          intro h
          have := List.all_eq_true.1 h _ (List.mem_of_getElem? HX.out)
          simp only at this
          rw [hr] at this; cases this)
        rw [HQ.out]
        clear hr hfb
        go_wp2_with fail
        refine (R1.out _).mono ?_
        rintro e w2 ⟨rfl, hb⟩
        have hM2 := (HM.out.keep (below1 _ _)).keep hb
        clear hb c0 c1
        have r0 := hM2.br.cell (j := 0) (v := .int .i64 0) rfl
        have r1 := hM2.br.cell (j := 1) (v := .int .i64 0) rfl
        have f0 := hM2.br.free 0
        have f1 := hM2.br.free 1
        have hB9 := hM2.below
        clear hM2
        go_wp2
        refine bodyPost_ret (v := .tuple #[.agg #[.int .i64 0, .int .i64 0], .int .i64 2]) (by simp [results, Tryz.results35, go_sem, r0, r1]) rfl ?_
        exact retF_mk rfl ((hB9.setCell (by simp) _).setCell (by simp) _)
      · have R1 := right_hid hfb hr
        have HR := Lib.hid hr
        clear hr hfb
        go_wp2_with fail
        refine (R1.out _).mono ?_
        rintro e w2 ⟨rfl, hb⟩
        have hM2 := (HM.out.keep (below1 _ _)).keep hb
        clear hb c0 c1
        have HM2 := Lib.hid hM2
        clear hM2
        go_wp2
        go_roundw
        case rel => exact ⟨k + 1, by omega, by go_num, HM2.out, fun i hi x hx => by
          rcases Nat.lt_or_ge i k with h | h
          · exact HA.out i h x hx
          · obtain rfl : i = k := by omega
            rw [HX.out] at hx; cases hx; exact HR.out⟩
        case measure => simp [intOf]; omega
    · obtain rfl : k = N := by omega
      have t1 : decide ((k : Int) < (k : Int)) = false := decide_eq_false (by omega)
      have HQ : Hid (sumF fs = sumR 0 fs) := Lib.hid (by
        unfold sumF
        rw [if_pos]
        rw [List.all_eq_true]
        intro x hx
        obtain ⟨i, hi⟩ := List.getElem?_of_mem hx
        have : i < fs.length := by
          rcases Nat.lt_or_ge i fs.length with h | h
          · exact h
          · rw [List.getElem?_eq_none h] at hi; cases hi
        exact HA.out i (by rw [← HN.out]; exact this) x hi)
      have HALL := HA
      clear hlt HA
      have hS := HM.out.keep (below1 _ (.cells #[.int .i64 0, .int .i64 1] 23))
      have hb6 := Blk.new wr 23 #[.int .i64 0, .int .i64 1]
      have hp6 := HM.out.br.lt
      go_wp2
      obtain ⟨p, hp⟩ : ∃ p, p = wr.heap.size := ⟨_, rfl⟩
      rw [← hp] at hb6 hp6 ⊢
      clear hp HM HS
      generalize wr.alloc (.cells #[.int .i64 0, .int .i64 1] 23) = W3 at *
      have HS := Lib.hid hS
      have HB6 := Lib.hid hb6
      clear hS hb6
      go_loopw [25] (fun s25 wr => ∃ (j : Nat) (x : Rat), j ≤ k ∧ s25 = .int .i64 j ∧ fits x = true ∧ SM w wr b off fs ∧ Blk wr p 23 #[.int .i64 x.num, .int .i64 (x.den : Nat)] ∧ sumR 0 fs = sumR x (fs.drop j)) (fun s25 _ => k - (intOf s25).toNat)
      case atStart => exact ⟨0, 0, by omega, rfl, by decide, HS.out, HB6.out, rfl⟩
      case round =>
        obtain ⟨j, x, hj, rfl, hfit, hM, hb6, hsum⟩ := hrel
        have HM := Lib.hid hM
        have HB := Lib.hid hb6
        have HF := Lib.hid hfit
        have HSU := Lib.hid hsum
        clear hM hb6 hsum hfit
        by_cases hlt : j < k
        · obtain ⟨⟨n, d⟩, hx⟩ : ∃ x, fs[j]? = some x := ⟨_, List.getElem?_eq_getElem (by rw [HN.out]; exact hlt)⟩
          have hfb := HFS.out _ (List.mem_of_getElem? hx)
          have hr : rightB n d = true := HALL.out j hlt _ hx
          have t2 : decide ((j : Int) < (k : Int)) = true := decide_eq_true (by omega)
          have i1 : 0 ≤ (j : Int) := by omega
          have c0 := HM.out.row.num j n d hx
          have c1 := HM.out.row.den j n d hx
          have d0 := fun o => keepA o (HB.out.cell (j := 0) (v := .int .i64 x.num) rfl)
          have d1 := fun o => keepA o (HB.out.cell (j := 1) (v := .int .i64 (x.den : Nat)) rfl)
          have hdrop : fs.drop j = (n, d) :: fs.drop (j + 1) := by
            rw [List.drop_eq_getElem_cons (by rw [HN.out]; exact hlt)]
            congr 1
            rw [List.getElem?_eq_getElem (by rw [HN.out]; exact hlt)] at hx
            exact Option.some.inj hx
          obtain ⟨s, hs⟩ : ∃ s, decide (n < 0) = s := ⟨_, rfl⟩
          obtain ⟨un, hun⟩ : ∃ a, x.num = a := ⟨_, rfl⟩
          obtain ⟨ud, hud⟩ : ∃ a : Int, (x.den : Int) = a := ⟨_, rfl⟩
          cases hfit : fits (x + toR n d)
          · have AD : Hid (∀ w, Calls Tryz.prog 41 #[.agg #[.int .i64 un, .int .i64 ud], .agg #[.int .i64 n, .int .i64 d], .bool s] w fun e w' => e = .returned (.tuple #[.agg #[.int .i64 0, .int .i64 0], .int .i64 3]) ∧ Below w.heap.size w w') := Lib.hid fun w => by
              have := add_R x n d HF.out hfb hr w
              rw [hs, hun, hud, show outF (x + toR n d) = (0, 0, 3) by unfold outF; rw [hfit]; rfl] at this
              exact this
            have HQ2 : Hid (sumR 0 fs = (0, 0, 3)) := Lib.hid (by rw [HSU.out, hdrop, sumR, hfit]; rfl)
            simp only [hun] at d0
            simp only [hud] at d1
            clear hx hr hfb hdrop hfit hun hud
            go_wp2_with fail
            refine (AD.out _).mono ?_
            rintro e w2 ⟨rfl, hb⟩
            have hM2 := ((HM.out.keep (below1 _ _)).keep hb).keep (below1 _ (.cells #[.int .i64 0, .int .i64 0] 23))
            clear hb c0 c1 d0 d1
            have r0 := hM2.br.cell (j := 0) (v := .int .i64 0) rfl
            have r1 := hM2.br.cell (j := 1) (v := .int .i64 0) rfl
            have f0 := hM2.br.free 0
            have f1 := hM2.br.free 1
            have hB9 := hM2.below
            clear hM2
            go_wp2
            refine bodyPost_ret (v := .tuple #[.agg #[.int .i64 0, .int .i64 0], .int .i64 3]) (by simp [results, Tryz.results35, go_sem, r0, r1]) rfl ?_
            exact retF_mk (HQ.out.trans HQ2.out) ((hB9.setCell (by simp) _).setCell (by simp) _)
          · have AD : Hid (∀ w, Calls Tryz.prog 41 #[.agg #[.int .i64 un, .int .i64 ud], .agg #[.int .i64 n, .int .i64 d], .bool s] w fun e w' => e = .returned (.tuple #[.agg #[.int .i64 (x + toR n d).num, .int .i64 ((x + toR n d).den : Nat)], .int .i64 0]) ∧ Below w.heap.size w w') := Lib.hid fun w => by
              have := add_R x n d HF.out hfb hr w
              rw [hs, hun, hud, outF_fits hfit] at this
              exact this
            have HQ2 : Hid (sumR 0 fs = sumR (x + toR n d) (fs.drop (j + 1))) := Lib.hid (by rw [HSU.out, hdrop, sumR, hfit]; rfl)
            have HF2 := Lib.hid hfit
            obtain ⟨y, hy⟩ : ∃ y, x + toR n d = y := ⟨_, rfl⟩
            rw [hy] at AD HQ2 HF2
            obtain ⟨yn, hyn⟩ : ∃ a, y.num = a := ⟨_, rfl⟩
            obtain ⟨yd, hyd⟩ : ∃ a : Int, (y.den : Int) = a := ⟨_, rfl⟩
            rw [hyn, hyd] at AD
            simp only [hun] at d0
            simp only [hud] at d1
            have HYN := Lib.hid hyn
            have HYD := Lib.hid hyd
            clear hx hr hfb hdrop hfit hun hud hy hyn hyd
            go_wp2_with fail
            refine (AD.out _).mono ?_
            rintro e w2 ⟨rfl, hb⟩
            have hM2 := ((HM.out.keep (below1 _ _)).keep hb).keep (below1 _ (.cells #[.int .i64 yn, .int .i64 yd] 23))
            have hb7 := (HB.out.keep (below1 _ _) HB.out.lt).keep hb (by simp; have := HB.out.lt; omega)
            have hb8 := hb7.alloc (.cells #[.int .i64 yn, .int .i64 yd] 23)
            clear hb c0 c1 d0 d1 hb7
            have d0 := hb8.cell (j := 0) (v := .int .i64 x.num) rfl
            have d1 := hb8.cell (j := 1) (v := .int .i64 (x.den : Nat)) rfl
            have g0 := hb8.free 0
            have g1 := hb8.free 1
            have HM3 := Lib.hid ((hM2.set hp6 0 (.int .i64 yn)).set hp6 1 (.int .i64 yd))
            have HB3 := Lib.hid ((hb8.set 0 (.int .i64 yn)).set 1 (.int .i64 yd))
            clear hM2 hb8
            go_wp2
            go_roundw
            case rel => exact ⟨j + 1, y, by omega, by go_num, HF2.out, HM3.out, by rw [HYN.out, HYD.out]; exact HB3.out, HQ2.out⟩
            case measure => simp [intOf]; omega
        · obtain rfl : j = k := by omega
          have t2 : decide ((j : Int) < (j : Int)) = false := decide_eq_false (by omega)
          have HQ3 : Hid (sumR 0 fs = (x.num, (x.den : Int), 0)) := Lib.hid (by rw [HSU.out, List.drop_eq_nil_of_le (by rw [HN.out]; exact Nat.le_refl _)]; rfl)
          have d0 := HB.out.cell (j := 0) (v := .int .i64 x.num) rfl
          have d1 := HB.out.cell (j := 1) (v := .int .i64 (x.den : Nat)) rfl
          have r0 := HM.out.br.cell (j := 0) (v := .int .i64 0) rfl
          have r1 := HM.out.br.cell (j := 1) (v := .int .i64 0) rfl
          have f0 := HM.out.br.free 0
          have f1 := HM.out.br.free 1
          have hB9 := HM.out.below
          clear hlt
          go_wp2
          refine bodyPost_ret (v := .tuple #[.agg #[.int .i64 x.num, .int .i64 (x.den : Nat)], .int .i64 0]) (by simp [results, Tryz.results35, go_sem, r0, r1]) rfl ?_
          exact retF_mk (HQ.out.trans HQ3.out) ((hB9.setCell (by simp) _).setCell (by simp) _)
end Go.Proofs.YtfhkgpipbegpgaaGreatDoor
