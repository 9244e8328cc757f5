/- The contract of the reference's Sum. -/
import Derived.Test.YtfhkgpipbegpgaaGreatDoorSumW
import Derived.Test.YtfhkgpipbegpgaaGreatDoorRefU
import Derived.Test.YtfhkgpipbegpgaaGreatDoorInv
namespace Go.Proofs.YtfhkgpipbegpgaaGreatDoor
open Go Go.RowKit

theorem radd_R (x : Rat) (n d : Int) (hx : fits x = true) (hf : FB n d) (h : rightB n d = true) (w : World) :
    Calls Tryz.prog 17 #[.agg #[.int .i64 x.num, .int .i64 (x.den : Nat)], .agg #[.int .i64 n, .int .i64 d]] w (RetF (outF (x + toR n d)) w) := by
  obtain ⟨hb, hr⟩ := right_of hx rfl rfl
  have := radd_ok x.num x.den n d hb hf hr h w
  rw [toR_R] at this
  exact this
/-- The memory of Sum, and what has been added up. -/
structure SQ (w W : World) (b off : Nat) (fs : List (Int × Int)) (p : Nat) (u v : Int) : Prop where
  sm : SM w W b off fs
  acc : Blk W p 23 #[.int .i64 u, .int .i64 v]
  new : w.heap.size < p
theorem SQ.keep {w W W' : World} {b off p : Nat} {fs : List (Int × Int)} {u v : Int} (h : SQ w W b off fs p u v) (hb : Below W.heap.size W W') : SQ w W' b off fs p u v :=
  ⟨h.sm.keep hb, h.acc.keep hb h.acc.lt, h.new⟩
theorem SQ.drew {w W : World} {b off p : Nat} {fs : List (Int × Int)} {u v : Int} (h : SQ w W b off fs p u v) : SQ w W.drew b off fs p u v := h.keep (Below.drew (Below.refl _ _))
theorem SQ.fresh {w W : World} {b off p : Nat} {fs : List (Int × Int)} {u v : Int} (h : SQ w W b off fs p u v) (a c : Int) :
    SQ w (W.alloc (.cells #[.int .i64 a, .int .i64 c] 23)) b off fs p u v ∧ Blk (W.alloc (.cells #[.int .i64 a, .int .i64 c] 23)) W.heap.size 23 #[.int .i64 a, .int .i64 c] := ⟨h.keep (below1 _ _), Blk.new _ _ _⟩
theorem SQ.late {w W W' : World} {b off p : Nat} {fs : List (Int × Int)} {u v : Int} (h : SQ w W b off fs p u v) (hb : Below (W.alloc (.cells #[.int .i64 0, .int .i64 0] 23)).drew.heap.size (W.alloc (.cells #[.int .i64 0, .int .i64 0] 23)).drew W') (a c : Int) :
    SQ w ((W'.setCell ⟨W.heap.size, 0, none⟩ (.int .i64 a)).setCell ⟨W.heap.size, 1, none⟩ (.int .i64 c)) b off fs p u v ∧ Blk ((W'.setCell ⟨W.heap.size, 0, none⟩ (.int .i64 a)).setCell ⟨W.heap.size, 1, none⟩ (.int .i64 c)) W.heap.size 23 #[.int .i64 a, .int .i64 c] := by
  have h1 : Blk (W.alloc (.cells #[.int .i64 0, .int .i64 0] 23)).drew W.heap.size 23 #[.int .i64 0, .int .i64 0] := Blk.new _ _ _
  exact ⟨h.keep (((bchain (Below.drew (below1 W _)) hb).setCell (Nat.le_refl _) _).setCell (Nat.le_refl _) _), ((h1.keep hb h1.lt).set 0 _).set 1 _⟩
theorem SQ.put {w W : World} {b off p : Nat} {fs : List (Int × Int)} {u v : Int} (h : SQ w W b off fs p u v) (a c : Int) :
    SQ w ((W.setCell ⟨p, 0, none⟩ (.int .i64 a)).setCell ⟨p, 1, none⟩ (.int .i64 c)) b off fs p a c :=
  ⟨(h.sm.set h.new _ _).set h.new _ _, (h.acc.set 0 _).set 1 _, h.new⟩
set_option maxRecDepth 100000 in
set_option maxHeartbeats 8000000 in
theorem rsumn_any (b off : Nat) (fs : List (Int × Int)) (cap : Nat) (hn : fs.length ≤ 1000000) (hfs : ∀ x ∈ fs, FB x.1 x.2) (w : World) (hR : RowF w b off fs) :
    Calls Tryz.prog 36 #[.slice (some ⟨b, off, none⟩) fs.length cap] w (RetF (sumF fs) w) := by
  obtain ⟨N, hN⟩ : ∃ N, fs.length = N := ⟨_, rfl⟩
  rw [hN] at hn ⊢
  have h0 := SM.start w hR
  have hS : SQ w ((w.alloc (.cells #[.int .i64 0, .int .i64 0] 23)).alloc (.cells #[.int .i64 0, .int .i64 1] 23)) b off fs (w.heap.size + 1) 0 1 :=
    ⟨h0.keep (below1 _ _), by have := Blk.new (w.alloc (.cells #[.int .i64 0, .int .i64 0] 23)) 23 #[.int .i64 0, .int .i64 1]; simpa using this, by omega⟩
  have HFS := Lib.hid hfs
  have HN := Lib.hid hN
  clear hR hfs hN h0
  go_enter Tryz.func36, Tryz.ntmps36
  go_wp2
  generalize (w.alloc (.cells #[.int .i64 0, .int .i64 0] 23)).alloc (.cells #[.int .i64 0, .int .i64 1] 23) = W0 at *
  obtain ⟨p, hp⟩ : ∃ p, p = w.heap.size + 1 := ⟨_, rfl⟩
  rw [← hp] at hS ⊢
  clear hp
  have HS := Lib.hid hS
  clear hS
  go_loopw [5] (fun s5 wr => ∃ k : Nat, k ≤ N ∧ s5 = .int .i64 k ∧ SQ w wr b off fs p 0 1 ∧ (∀ i, i < k → ∀ x, fs[i]? = some x → rightB x.1 x.2 = true)) (fun s5 _ => N - (intOf s5).toNat)
  case atStart => exact ⟨0, by omega, rfl, HS.out, fun i hi => by omega⟩
  case round =>
    obtain ⟨k, hk, rfl, hM, hall⟩ := hrel
    have HM := Lib.hid hM
    have HA := Lib.hid hall
    clear hM hall
    by_cases hlt : k < N
    · obtain ⟨⟨n, d⟩, hx⟩ : ∃ x, fs[k]? = some x := ⟨_, List.getElem?_eq_getElem (by rw [HN.out]; exact hlt)⟩
      have hfb := HFS.out _ (List.mem_of_getElem? hx)
      have t1 : decide ((k : Int) < (N : Int)) = true := decide_eq_true (by omega)
      have t1' : decide (k < N) = true := decide_eq_true hlt
      have i1 : 0 ≤ (k : Int) := by omega
      have c0 := HM.out.sm.row.num k n d hx
      have c1 := HM.out.sm.row.den k n d hx
      have HX := Lib.hid hx
      clear hx
      cases hr : rightB n d
      · have R1 := rright_hid hfb hr
        have HQ : Hid (sumF fs = (0, 0, 2)) := Lib.hid (by
          unfold sumF
          rw [if_neg]
          intro h
          have := List.all_eq_true.1 h _ (List.mem_of_getElem? HX.out)
          simp only at this
          rw [hr] at this; cases this)
        rw [HQ.out]
        clear hr hfb
        go_wp2_with fail
        refine (R1.out _).mono ?_
        rintro e w2 ⟨rfl, hb⟩
        have hM2 := (HM.out.keep hb).sm
        clear hb c0 c1
        have r0 := hM2.br.cell (j := 0) (v := .int .i64 0) rfl
        have r1 := hM2.br.cell (j := 1) (v := .int .i64 0) rfl
        have f0 := hM2.br.free 0
        have f1 := hM2.br.free 1
        have hB9 := hM2.below
        clear hM2
        go_wp2
        refine bodyPost_ret (v := .tuple #[.agg #[.int .i64 0, .int .i64 0], .int .i64 2]) (by simp [results, Tryz.results36, go_sem, r0, r1]) rfl ?_
        exact retF_mk rfl ((hB9.setCell (by simp) _).setCell (by simp) _)
      · have R1 := rright_hid hfb hr
        have HR := Lib.hid hr
        clear hr hfb
        go_wp2_with fail
        refine (R1.out _).mono ?_
        rintro e w2 ⟨rfl, hb⟩
        have HM2 := Lib.hid (HM.out.keep hb)
        clear hb c0 c1
        go_wp2
        go_roundw
        case rel => exact ⟨k + 1, by omega, by go_num, HM2.out, fun i hi x hx => by
          rcases Nat.lt_or_ge i k with h | h
          · exact HA.out i h x hx
          · obtain rfl : i = k := by omega
            rw [HX.out] at hx; cases hx; exact HR.out⟩
        case measure => simp [intOf]; omega
    · obtain rfl : k = N := by omega
      have t1 : decide ((k : Int) < (k : Int)) = false := decide_eq_false (by omega)
      have t1' : decide (k < k) = false := decide_eq_false (by omega)
      have HQ : Hid (sumF fs = sumR 0 fs) := Lib.hid (by
        unfold sumF
        rw [if_pos]
        rw [List.all_eq_true]
        intro x hx
        obtain ⟨i, hi⟩ := List.getElem?_of_mem hx
        have : i < fs.length := by
          rcases Nat.lt_or_ge i fs.length with h | h
          · exact h
          · rw [List.getElem?_eq_none h] at hi; cases hi
        exact HA.out i (by rw [← HN.out]; exact this) x hi)
      have HALL := HA
      clear hlt HA HS
      go_wp2

      go_loopw [6] (fun s6 wr => ∃ (j : Nat) (x : Rat), j ≤ k ∧ s6 = .int .i64 j ∧ fits x = true ∧ SQ w wr b off fs p x.num (x.den : Nat) ∧ sumR 0 fs = sumR x (fs.drop j)) (fun s6 _ => k - (intOf s6).toNat)
      case atStart => exact ⟨0, 0, by omega, rfl, by decide, HM.out, rfl⟩
      case round =>
        obtain ⟨j, x, hj, rfl, hfit, hM, hsum⟩ := hrel
        have HF := Lib.hid hfit
        have HSU := Lib.hid hsum
        have HQ0 := Lib.hid hM
        clear hM hsum hfit HM
        by_cases hlt : j < k
        · obtain ⟨⟨n, d⟩, hx⟩ : ∃ x, fs[j]? = some x := ⟨_, List.getElem?_eq_getElem (by rw [HN.out]; exact hlt)⟩
          have hfb := HFS.out _ (List.mem_of_getElem? hx)
          have hr : rightB n d = true := HALL.out j hlt _ hx
          have t2 : decide ((j : Int) < (k : Int)) = true := decide_eq_true (by omega)
          have t2' : decide (j < k) = true := decide_eq_true hlt
          have i1 : 0 ≤ (j : Int) := by omega
          have hdrop : fs.drop j = (n, d) :: fs.drop (j + 1) := by
            rw [List.drop_eq_getElem_cons (by rw [HN.out]; exact hlt)]
            congr 1
            rw [List.getElem?_eq_getElem (by rw [HN.out]; exact hlt)] at hx
            exact Option.some.inj hx
          obtain ⟨un, hun⟩ : ∃ a, x.num = a := ⟨_, rfl⟩
          obtain ⟨ud, hud⟩ : ∃ a : Int, (x.den : Int) = a := ⟨_, rfl⟩
          rw [hun, hud] at HQ0
          obtain ⟨⟨qa, qb, qc⟩, hq⟩ : ∃ q, outF (x + toR n d) = q := ⟨_, rfl⟩
          have AD : Hid (∀ w, Calls Tryz.prog 17 #[.agg #[.int .i64 un, .int .i64 ud], .agg #[.int .i64 n, .int .i64 d]] w fun e w' => e = .returned (.tuple #[.agg #[.int .i64 qa, .int .i64 qb], .int .i64 qc]) ∧ Below w.heap.size w w') := Lib.hid fun w => by
            have := radd_R x n d HF.out hfb hr w
            rw [hun, hud, hq] at this
            exact this
          have HQQ := Lib.hid hq
          have HDR := Lib.hid hdrop
          have c0 := HQ0.out.sm.row.num j n d hx
          have c1 := HQ0.out.sm.row.den j n d hx
          have d0 := HQ0.out.acc.cell (j := 0) (v := .int .i64 un) rfl
          have d1 := HQ0.out.acc.cell (j := 1) (v := .int .i64 ud) rfl
          have HX := Lib.hid hx
          clear hx hr hfb hdrop hun hud hq
          go_upto_region 10 with fail
          go_cut [7, 8] (fun s7 s8 wx => ∃ q : Nat, s7 = .pointer (some ⟨q, 0, none⟩) ∧ s8 = .int .i64 qc ∧ SQ w wx b off fs p un ud ∧ Blk wx q 23 #[.int .i64 qa, .int .i64 qb])
          case first =>
            have SOF := Lib.hid (fun (wx : World) (hb : Below wr.heap.size wr wx) => (⟨(hb.cell (World.block_lt_of_cell? wr _ d0)).trans d0, (hb.cell (World.block_lt_of_cell? wr _ d1)).trans d1, (hb.cell (World.block_lt_of_cell? wr _ c0)).trans c0, (hb.cell (World.block_lt_of_cell? wr _ c1)).trans c1, hb⟩ : wx.cell? ⟨p, 0, none⟩ = some (.int .i64 un) ∧ wx.cell? ⟨p, 1, none⟩ = some (.int .i64 ud) ∧ wx.cell? ⟨b, off + j * 2, none⟩ = some (.int .i64 n) ∧ wx.cell? ⟨b, off + j * 2 + 1, none⟩ = some (.int .i64 d) ∧ Below wr.heap.size wr wx))
            clear d0 d1 c0 c1
            go_region_held3 (fun wx => wx.cell? ⟨p, 0, none⟩ = some (.int .i64 un) ∧ wx.cell? ⟨p, 1, none⟩ = some (.int .i64 ud) ∧ wx.cell? ⟨b, off + j * 2, none⟩ = some (.int .i64 n) ∧ wx.cell? ⟨b, off + j * 2 + 1, none⟩ = some (.int .i64 d) ∧ Below wr.heap.size wr wx)
              (first | exact SOF.out _ (Below.refl _ _) | exact SOF.out _ (Below.drew (Below.refl _ _)) | exact SOF.out _ (Below.alloc (Below.drew (Below.refl _ _)) (Nat.le_refl _) _) | exact SOF.out _ (Below.drew (Below.alloc (Below.refl _ _) (Nat.le_refl _) _)) | exact SOF.out _ hB | exact SOF.out _ (hB.alloc hB.size _) | exact SOF.out _ (hB.setCell (Nat.le_refl _) _) | exact SOF.out _ ((hB.setCell (Nat.le_refl _) _).setCell (Nat.le_refl _) _))
              (first
                | (go_at_call 17; (with_reducible refine (AD.out _).mono ?_); rintro e w' ⟨rfl, hb⟩; (have hB := bchain (by assumption : _ ∧ _ ∧ _ ∧ _ ∧ Below wr.heap.size wr _).2.2.2.2 hb); obtain ⟨hc, hf⟩ := bcell hb))
            all_goals
              clear hc hf
              go_wp2
              go_meet
              first
                | exact ⟨_, rfl, rfl, (HQ0.out.keep hB).fresh _ _⟩
                | exact ⟨_, rfl, rfl, HQ0.out.late hb _ _⟩
          case rest =>
            obtain ⟨q, rfl, rfl, hS3, hb3⟩ := hcut
            clear c0 c1 d0 d1 AD HQ0
            have HS3 := Lib.hid hS3
            have HB3 := Lib.hid hb3
            clear hS3 hb3
            cases hfit2 : fits (x + toR n d)
            · obtain ⟨rfl, rfl, rfl⟩ : qa = 0 ∧ qb = 0 ∧ qc = 3 := by
                have := HQQ.out
                rw [show outF (x + toR n d) = (0, 0, 3) by unfold outF; rw [hfit2]; rfl] at this
                simp only [Prod.mk.injEq] at this
                omega
              have HQ2 : Hid (sumR 0 fs = (0, 0, 3)) := Lib.hid (by rw [HSU.out, HDR.out, sumR, hfit2]; rfl)
              clear hfit2
              have r0 := HS3.out.sm.br.cell (j := 0) (v := .int .i64 0) rfl
              have r1 := HS3.out.sm.br.cell (j := 1) (v := .int .i64 0) rfl
              have f0 := HS3.out.sm.br.free 0
              have f1 := HS3.out.sm.br.free 1
              have HB9 := Lib.hid HS3.out.sm.below
              go_wp2
              refine bodyPost_ret (v := .tuple #[.agg #[.int .i64 0, .int .i64 0], .int .i64 3]) (by simp [results, Tryz.results36, go_sem, r0, r1]) rfl ?_
              exact retF_mk (HQ.out.trans HQ2.out) ((HB9.out.setCell (by simp) _).setCell (by simp) _)
            · have hpair : qa = (x + toR n d).num ∧ qb = ((x + toR n d).den : Int) ∧ qc = 0 := by
                have := HQQ.out
                rw [outF_fits hfit2] at this
                simp only [Prod.mk.injEq] at this
                exact ⟨this.1.symm, this.2.1.symm, this.2.2.symm⟩
              obtain ⟨e1, e2, rfl⟩ := hpair
              have HQ2 : Hid (sumR 0 fs = sumR (x + toR n d) (fs.drop (j + 1))) := Lib.hid (by rw [HSU.out, HDR.out, sumR, hfit2]; rfl)
              have HF2 := Lib.hid hfit2
              have HE1 := Lib.hid e1
              have HE2 := Lib.hid e2
              clear hfit2 e1 e2
              have q0 := HB3.out.cell (j := 0) (v := .int .i64 qa) rfl
              have q1 := HB3.out.cell (j := 1) (v := .int .i64 qb) rfl
              have d0 := HS3.out.acc.cell (j := 0) (v := .int .i64 un) rfl
              have d1 := HS3.out.acc.cell (j := 1) (v := .int .i64 ud) rfl
              have g0 := HS3.out.acc.free 0
              have g1 := HS3.out.acc.free 1
              go_wp2
              go_roundw
              case rel => exact ⟨j + 1, x + toR n d, by omega, by go_num, HF2.out, by rw [← HE1.out, ← HE2.out]; exact HS3.out.put qa qb, HQ2.out⟩
              case measure => simp [intOf]; omega
        · obtain rfl : j = k := by omega
          have t2 : decide ((j : Int) < (j : Int)) = false := decide_eq_false (by omega)
          have t2' : decide (j < j) = false := decide_eq_false (by omega)
          have HQ3 : Hid (sumR 0 fs = (x.num, (x.den : Int), 0)) := Lib.hid (by rw [HSU.out, List.drop_eq_nil_of_le (by rw [HN.out]; exact Nat.le_refl _)]; rfl)
          have d0 := HQ0.out.acc.cell (j := 0) (v := .int .i64 x.num) rfl
          have d1 := HQ0.out.acc.cell (j := 1) (v := .int .i64 (x.den : Nat)) rfl
          have r0 := HQ0.out.sm.br.cell (j := 0) (v := .int .i64 0) rfl
          have r1 := HQ0.out.sm.br.cell (j := 1) (v := .int .i64 0) rfl
          have f0 := HQ0.out.sm.br.free 0
          have f1 := HQ0.out.sm.br.free 1
          have HB9 := Lib.hid HQ0.out.sm.below
          clear hlt
          go_wp2
          refine bodyPost_ret (v := .tuple #[.agg #[.int .i64 x.num, .int .i64 (x.den : Nat)], .int .i64 0]) (by simp [results, Tryz.results36, go_sem, r0, r1]) rfl ?_
          exact retF_mk (HQ.out.trans HQ3.out) ((HB9.out.setCell (by simp) _).setCell (by simp) _)
end Go.Proofs.YtfhkgpipbegpgaaGreatDoor
