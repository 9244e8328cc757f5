/- KeptRows, SameMovement, LentMovement, KeptMovement. -/
import Derived.Test.YtidpfggikighlaaDoorGK
namespace Go.Proofs.YtidpfggikighlaaDoor
open Go Go.RowKit

theorem LR.other {w : World} {g p : Nat} {l : List Rw} (h : LR w g l) (hp : p ≠ g) (j : Nat) (v : Value) : LR (w.setCell ⟨p, j, none⟩ v) g l := by
  have key : ∀ (i : Nat) (u : Value), w.cell? ⟨g, i, none⟩ = some u → (w.setCell ⟨p, j, none⟩ v).cell? ⟨g, i, none⟩ = some u := fun i u hu => by
    rw [← hu]
    exact World.cell?_of_block (Below.heap_setCell w ⟨p, j, none⟩ v g (fun e => hp e.symm))
  refine ⟨by simpa using h.1, fun i r hi => ?_⟩
  obtain ⟨a, b, c, d, e⟩ := h.2 i r hi
  exact ⟨key _ _ a, key _ _ b, key _ _ c, key _ _ d, key _ _ e⟩
theorem marks_at (l : List Rw) (k : Nat) (h : l.length ≤ k) (h' : k < l.length + 12) : (l ++ marks 12)[k]? = some ⟨0, 0, 8000024 + ((k : Int) - (l.length : Int)), 0, 0⟩ := by
  rw [List.getElem?_append_right h]
  unfold marks
  rw [List.getElem?_map, List.getElem?_range (by omega)]
  simp only [Option.map_some, markR]
  congr 2
  omega
set_option maxRecDepth 100000 in
set_option maxHeartbeats 4000000 in
theorem keptRows_any (g : Nat) (v : Value) (l : List Rw) (hn : l.length ≤ 900) (w : World) (hG : LR w g l) (hR : MR w v l) :
    Calls Tryd.prog 52 #[.slice (some ⟨g, 0, none⟩) l.length (l.length + 12), v] w (fun e w' => e = .returned (.bool true) ∧ Below w.heap.size w w') := by
  obtain ⟨A, c, rfl⟩ := hR.len
  obtain ⟨N, hN⟩ : ∃ N, l.length = N := ⟨_, rfl⟩
  have HR := Lib.hid hR
  have HG := Lib.hid hG
  have HM := Lib.hid (fun k => marks_at l k)
  have HN := Lib.hid hN
  rw [hN] at hn HR HM ⊢
  have wd : IntKind.i64.wrap ((N : Int) + 12) = (N : Int) + 12 := IntWalk.i64_in _ (by omega)
  clear hN hR hG
  go_enter Tryd.func52, Tryd.ntmps52
  go_wp2_with fail
  go_loopw [6] (fun s6 wr => ∃ k : Nat, k ≤ N + 12 ∧ s6 = .int .i64 (k : Int) ∧ Hid (Below w.heap.size w wr)) (fun s6 _ => N + 12 - (intOf s6).toNat)
  case atStart => exact ⟨0, by omega, rfl, Lib.hid (Below.refl _ _)⟩
  case round =>
    obtain ⟨k, hk, rfl, HB⟩ := hrel
    by_cases hlt : k < N + 12
    · have t1 : decide ((k : Int) < (N : Int) + 12) = true := decide_eq_true (by omega)
      have i1 : 0 ≤ (k : Int) := by omega
      by_cases hin : k < N
      · obtain ⟨r, hx⟩ : ∃ x, l[k]? = some x := ⟨_, List.getElem?_eq_getElem (by rw [HN.out]; exact hin)⟩
        obtain ⟨b, o, rfl, c0, c1, c2, c3, c4⟩ := (HR.out.keep HB.out).at hx
        have hy : (l ++ marks 12)[k]? = some r := by rw [List.getElem?_append_left (by rw [HN.out]; exact hin)]; exact hx
        obtain ⟨e0, e1, e2, e3, e4⟩ := (HG.out.keep HB.out).2 k r hy
        have t2 : decide (k < N) = true := decide_eq_true hin
        have t3 : decide (N ≤ k) = false := decide_eq_false (by omega)
        clear hx hy
        go_upto_region 7 with fail
        go_quiet (fail)
        have HB2 := Lib.hid (below_drewN HB.out nq)
        clear c0 c1 c2 c3 c4 e0 e1 e2 e3 e4
        generalize wr.drewN nq = w5 at *
        go_wp2_with fail
        go_roundw
        case rel => exact ⟨k + 1, by omega, by go_num, HB2⟩
        case measure => simp [intOf]; omega
      · have hx := HM.out k (by omega) (by omega)
        obtain ⟨e0, e1, e2, e3, e4⟩ := (HG.out.keep HB.out).2 k _ hx
        have t2 : decide (k < N) = false := decide_eq_false hin
        have t3 : decide (N ≤ k) = true := decide_eq_true (by omega)
        have w3 : IntKind.i64.wrap ((k : Int) - (N : Int)) = (k : Int) - (N : Int) := IntWalk.i64_in _ (by omega)
        have M1 := Lib.hid (fun W => markRow_one ((k : Int) - (N : Int)) (by omega) W)
        clear hx
        go_upto_region 7 with fail
        have m0 := Since.cell e0
        have m1 := Since.cell e1
        have m2 := Since.cell e2
        have m3 := Since.cell e3
        have m4 := Since.cell e4
        refine region_since (by kernel_rfl) (by kernel_rfl) ?_
        repeat (go_big_quiet_step ((go_at_call 69; exact Calls.since (M1.out _))))
        refine wpQuiet_nil ?_
        rintro w' ⟨u', rfl⟩
        have HB2 := Lib.hid (bchain HB.out u'.property)
        clear m0 m1 m2 m3 m4 e0 e1 e2 e3 e4
        generalize u'.val = w6 at *
        go_wp2_with fail
        go_roundw
        case rel => exact ⟨k + 1, by omega, by go_num, HB2⟩
        case measure => simp [intOf]; omega
    · obtain rfl : k = N + 12 := by omega
      have t1 : decide (((N + 12 : Nat) : Int) < (N : Int) + 12) = false := decide_eq_false (by omega)
      go_wp2
      go_ret
      exact ⟨rfl, HB.out⟩
set_option maxRecDepth 100000 in
set_option maxHeartbeats 4000000 in
theorem sameMv_any (m : Mv) (v1 v2 : Value) (hl : m.rows.length ≤ 1000000) (w : World) (h1 : MR w v1 m.rows) (h2 : MR w v2 m.rows) : Calls Tryd.prog 15 #[mvV m v1, mvV m v2] w (fun e w' => e = .returned (.bool true) ∧ Below w.heap.size w w') := by
  have SR := Lib.hid (fun wx (hb : Below w.heap.size w wx) => sameRows_any v1 v2 m.rows hl wx (h1.keep hb) (h2.keep hb))
  clear h1 h2
  unfold mvV
  have q0 : (m.tab == m.tab) = true := beq_self_eq_true _
  have q1 : (m.rou == m.rou) = true := beq_self_eq_true _
  have q2 : (m.set == m.set) = true := beq_self_eq_true _
  have q3 : (m.cop == m.cop) = true := beq_self_eq_true _
  have q4 : (m.win == m.win) = true := beq_self_eq_true _
  go_enter Tryd.func15, Tryd.ntmps15
  go_wp2_with fail
  refine (SR.out _ (bchain (below1 w _) (below1 _ _))).mono ?_
  rintro e w1 ⟨rfl, hb⟩
  have B1 := Lib.hid (bchain (bchain (below1 w _) (below1 _ _)) hb)
  clear hb
  go_wp2_with fail
  go_ret
  exact ⟨rfl, B1.out⟩
set_option maxRecDepth 100000 in
set_option maxHeartbeats 4000000 in
theorem keptMv_any (m : Mv) (g : Nat) (v : Value) (hl : m.rows.length ≤ 900) (w : World) (hG : LR w g m.rows) (hR : MR w v m.rows) : Calls Tryd.prog 31 #[mvV m (.slice (some ⟨g, 0, none⟩) m.rows.length (m.rows.length + 12)), mvV m v] w (fun e w' => e = .returned (.bool true) ∧ Below w.heap.size w w') := by
  have SM := Lib.hid (fun wx (hb : Below w.heap.size w wx) => sameMv_any m _ v (by omega) wx (hG.keep hb).mr (hR.keep hb))
  have KR := Lib.hid (fun wx (hb : Below w.heap.size w wx) => keptRows_any g v m.rows hl wx (hG.keep hb) (hR.keep hb))
  obtain ⟨A, c, rfl⟩ := hR.len
  obtain ⟨N, hN⟩ : ∃ N, m.rows.length = N := ⟨_, rfl⟩
  rw [hN] at SM KR ⊢
  clear hG hR hN
  unfold mvV at SM ⊢
  go_enter Tryd.func31, Tryd.ntmps31
  go_wp2_with fail
  have HB1 := Lib.hid ((Blk.new w 24 #[.int .i64 m.tab, .int .i64 m.rou, .int .i64 m.set, .int .i64 m.cop, .int .i64 m.win, .slice (some ⟨g, 0, none⟩) N (N + 12)]).alloc (.cells #[.int .i64 m.tab, .int .i64 m.rou, .int .i64 m.set, .int .i64 m.cop, .int .i64 m.win, .slice A N c] 24))
  have HB2 := Lib.hid (Blk.new (w.alloc (.cells #[.int .i64 m.tab, .int .i64 m.rou, .int .i64 m.set, .int .i64 m.cop, .int .i64 m.win, .slice (some ⟨g, 0, none⟩) N (N + 12)] 24)) 24 #[.int .i64 m.tab, .int .i64 m.rou, .int .i64 m.set, .int .i64 m.cop, .int .i64 m.win, .slice A N c])
  have BA := Lib.hid (bchain (below1 w (.cells #[.int .i64 m.tab, .int .i64 m.rou, .int .i64 m.set, .int .i64 m.cop, .int .i64 m.win, .slice (some ⟨g, 0, none⟩) N (N + 12)] 24)) (below1 _ (.cells #[.int .i64 m.tab, .int .i64 m.rou, .int .i64 m.set, .int .i64 m.cop, .int .i64 m.win, .slice A N c] 24)))
  refine (SM.out _ BA.out).mono ?_
  rintro e w1 ⟨rfl, hb⟩
  have B1 := Lib.hid (bchain BA.out hb)
  rw [size_al] at HB2
  have x5 := (HB1.out.keep hb HB1.out.lt).cell (j := 5) (v := .slice (some ⟨g, 0, none⟩) N (N + 12)) rfl
  have y5 := (HB2.out.keep hb HB2.out.lt).cell (j := 5) (v := .slice A N c) rfl
  clear hb HB1 HB2 BA SM
  go_wp2_with fail
  refine (KR.out _ B1.out).mono ?_
  rintro e w2 ⟨rfl, hb⟩
  have B2 := Lib.hid (bchain B1.out hb)
  clear hb B1 x5 y5 KR
  go_wp2_with fail
  go_ret
  exact ⟨rfl, B2.out⟩
set_option maxRecDepth 100000 in
set_option maxHeartbeats 4000000 in
theorem lentMv_any (m : Mv) (v : Value) (hl : m.rows.length ≤ 100000) (w : World) (h : MR w v m.rows) : Calls Tryd.prog 29 #[mvV m v] w (fun e w' => ∃ g, e = .returned (mvV m (.slice (some ⟨g, 0, none⟩) m.rows.length (m.rows.length + 12))) ∧ LR w' g m.rows ∧ Below w.heap.size w w') := by
  have LE := Lib.hid (fun wx (hb : Below w.heap.size w wx) => lentRows_any v m.rows hl wx (h.keep hb))
  obtain ⟨A, c, rfl⟩ := h.len
  obtain ⟨N, hN⟩ : ∃ N, m.rows.length = N := ⟨_, rfl⟩
  rw [hN] at LE ⊢
  clear h hN
  unfold mvV
  go_enter Tryd.func29, Tryd.ntmps29
  go_upto_region 1 with fail
  have HB1 := Lib.hid ((Blk.new w 24 #[.int .i64 m.tab, .int .i64 m.rou, .int .i64 m.set, .int .i64 m.cop, .int .i64 m.win, .slice A N c]).alloc (.cells #[.int .i64 0, .int .i64 0, .int .i64 0, .int .i64 0, .int .i64 0, .slice none 0 0] 24))
  have HB2 := Lib.hid (Blk.new (w.alloc (.cells #[.int .i64 m.tab, .int .i64 m.rou, .int .i64 m.set, .int .i64 m.cop, .int .i64 m.win, .slice A N c] 24)) 24 #[.int .i64 0, .int .i64 0, .int .i64 0, .int .i64 0, .int .i64 0, .slice none 0 0])
  have BA := Lib.hid (bchain (below1 w (.cells #[.int .i64 m.tab, .int .i64 m.rou, .int .i64 m.set, .int .i64 m.cop, .int .i64 m.win, .slice A N c] 24)) (below1 _ (.cells #[.int .i64 0, .int .i64 0, .int .i64 0, .int .i64 0, .int .i64 0, .slice none 0 0] 24)))
  have HSZ : Hid (((w.alloc (.cells #[.int .i64 m.tab, .int .i64 m.rou, .int .i64 m.set, .int .i64 m.cop, .int .i64 m.win, .slice A N c] 24)).alloc (.cells #[.int .i64 0, .int .i64 0, .int .i64 0, .int .i64 0, .int .i64 0, .slice none 0 0] 24)).heap.size = w.heap.size + 1 + 1) := Lib.hid (by rw [size_al, size_al])
  rw [size_al] at HB2
  generalize (w.alloc (.cells #[.int .i64 m.tab, .int .i64 m.rou, .int .i64 m.set, .int .i64 m.cop, .int .i64 m.win, .slice A N c] 24)).alloc (.cells #[.int .i64 0, .int .i64 0, .int .i64 0, .int .i64 0, .int .i64 0, .slice none 0 0] 24) = wa at *
  obtain ⟨p, hp⟩ : ∃ p, w.heap.size = p := ⟨_, rfl⟩
  obtain ⟨q, hq⟩ : ∃ q, p + 1 = q := ⟨_, rfl⟩
  rw [hp] at HB1 HB2 HSZ ⊢
  rw [hq] at HB2 HSZ ⊢
  have HPQ := Lib.hid (And.intro hp hq)
  clear hp hq
  have x5 := HB1.out.cell (j := 5) (v := .slice A N c) rfl
  go_wp2_with fail
  refine (LE.out _ BA.out).mono ?_
  rintro e w1 ⟨rfl, hG, hb⟩
  have B1 := Lib.hid (bchain BA.out hb)
  replace HB1 := Lib.hid (HB1.out.keep hb HB1.out.lt)
  replace HB2 := Lib.hid (HB2.out.keep hb HB2.out.lt)
  obtain ⟨g, hg⟩ : ∃ g, wa.heap.size = g := ⟨_, rfl⟩
  rw [hg] at hG HSZ ⊢
  have HG := Lib.hid hG
  clear hG hb hg x5 BA LE
  have x5 := HB1.out.cell (j := 5) (v := .slice A N c) rfl
  have f5 := HB1.out.free 5
  go_upto_region 2 with fail
  have hpg : p ≠ q ∧ p ≠ g ∧ q ≠ g ∧ w.heap.size ≤ p ∧ w.heap.size ≤ q := by have := HPQ.out; have := HSZ.out; omega
  have HNE := Lib.hid hpg
  replace HB2 := Lib.hid (HB2.out.other hpg.1.symm 5 (.slice (some ⟨g, 0, none⟩) N (N + 12)))
  replace HB1 := Lib.hid (HB1.out.set 5 (.slice (some ⟨g, 0, none⟩) N (N + 12)))
  replace B1 := Lib.hid (B1.out.setCell (p := ⟨p, 5, none⟩) hpg.2.2.2.1 (.slice (some ⟨g, 0, none⟩) N (N + 12)))
  replace HG := Lib.hid (HG.out.other hpg.2.1 5 (.slice (some ⟨g, 0, none⟩) N (N + 12)))
  clear x5 f5 hpg
  generalize w1.setCell ⟨p, 5, none⟩ (.slice (some ⟨g, 0, none⟩) N (N + 12)) = w2 at *
  have x0 := HB1.out.cell (j := 0) (v := .int .i64 m.tab) rfl
  have x1 := HB1.out.cell (j := 1) (v := .int .i64 m.rou) rfl
  have x2 := HB1.out.cell (j := 2) (v := .int .i64 m.set) rfl
  have x3 := HB1.out.cell (j := 3) (v := .int .i64 m.cop) rfl
  have x4 := HB1.out.cell (j := 4) (v := .int .i64 m.win) rfl
  have x5 := HB1.out.cell (j := 5) (v := .slice (some ⟨g, 0, none⟩) N (N + 12)) rfl
  have y0 := HB2.out.cell (j := 0) (v := .int .i64 0) rfl
  have y1 := HB2.out.cell (j := 1) (v := .int .i64 0) rfl
  have y2 := HB2.out.cell (j := 2) (v := .int .i64 0) rfl
  have y3 := HB2.out.cell (j := 3) (v := .int .i64 0) rfl
  have y4 := HB2.out.cell (j := 4) (v := .int .i64 0) rfl
  have y5 := HB2.out.cell (j := 5) (v := .slice none 0 0) rfl
  have f0 := HB2.out.free 0
  have f1 := HB2.out.free 1
  have f2 := HB2.out.free 2
  have f3 := HB2.out.free 3
  have f4 := HB2.out.free 4
  have f5 := HB2.out.free 5
  go_wp2_with fail
  clear x0 x1 x2 x3 x4 x5 y0 y1 y2 y3 y4 y5 f0 f1 f2 f3 f4 f5
  replace HB2 := Lib.hid ((((((HB2.out.set 0 (.int .i64 m.tab)).set 1 (.int .i64 m.rou)).set 2 (.int .i64 m.set)).set 3 (.int .i64 m.cop)).set 4 (.int .i64 m.win)).set 5 (.slice (some ⟨g, 0, none⟩) N (N + 12)))
  replace B1 := Lib.hid ((((((B1.out.setCell (p := ⟨q, 0, none⟩) HNE.out.2.2.2.2 (.int .i64 m.tab)).setCell (p := ⟨q, 1, none⟩) HNE.out.2.2.2.2 (.int .i64 m.rou)).setCell (p := ⟨q, 2, none⟩) HNE.out.2.2.2.2 (.int .i64 m.set)).setCell (p := ⟨q, 3, none⟩) HNE.out.2.2.2.2 (.int .i64 m.cop)).setCell (p := ⟨q, 4, none⟩) HNE.out.2.2.2.2 (.int .i64 m.win)).setCell (p := ⟨q, 5, none⟩) HNE.out.2.2.2.2 (.slice (some ⟨g, 0, none⟩) N (N + 12)))
  replace HG := Lib.hid ((((((HG.out.other HNE.out.2.2.1 0 (.int .i64 m.tab)).other HNE.out.2.2.1 1 (.int .i64 m.rou)).other HNE.out.2.2.1 2 (.int .i64 m.set)).other HNE.out.2.2.1 3 (.int .i64 m.cop)).other HNE.out.2.2.1 4 (.int .i64 m.win)).other HNE.out.2.2.1 5 (.slice (some ⟨g, 0, none⟩) N (N + 12)))
  generalize (((((w2.setCell ⟨q, 0, none⟩ (.int .i64 m.tab)).setCell ⟨q, 1, none⟩ (.int .i64 m.rou)).setCell ⟨q, 2, none⟩ (.int .i64 m.set)).setCell ⟨q, 3, none⟩ (.int .i64 m.cop)).setCell ⟨q, 4, none⟩ (.int .i64 m.win)).setCell ⟨q, 5, none⟩ (.slice (some ⟨g, 0, none⟩) N (N + 12)) = w3 at *
  have y0 := HB2.out.cell (j := 0) (v := .int .i64 m.tab) rfl
  have y1 := HB2.out.cell (j := 1) (v := .int .i64 m.rou) rfl
  have y2 := HB2.out.cell (j := 2) (v := .int .i64 m.set) rfl
  have y3 := HB2.out.cell (j := 3) (v := .int .i64 m.cop) rfl
  have y4 := HB2.out.cell (j := 4) (v := .int .i64 m.win) rfl
  have y5 := HB2.out.cell (j := 5) (v := .slice (some ⟨g, 0, none⟩) N (N + 12)) rfl
  refine bodyPost_ret (by simp [results, Tryd.results29, go_sem, y0, y1, y2, y3, y4, y5]; try rfl) rfl ?_
  exact ⟨g, rfl, HG.out, B1.out⟩
end Go.Proofs.YtidpfggikighlaaDoor
