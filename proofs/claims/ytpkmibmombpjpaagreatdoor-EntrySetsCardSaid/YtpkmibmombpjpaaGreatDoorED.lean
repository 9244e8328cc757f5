/- Why an entry is not right: entry.Check. -/
import Derived.Test.YtpkmibmombpjpaaGreatDoorEK
import Derived.Test.YtpkmibmombpjpaaGreatDoorES
set_option linter.unusedSimpArgs false
namespace Go.Proofs.YtpkmibmombpjpaaGreatDoor
open Go Go.RowKit

def snC (a b c d f : Int) (v : Value) (bd : Int) : Array Value := #[.int .i64 a, .int .i64 b, .int .i64 c, .int .i64 d, .int .i64 f, v, .int .i64 bd]
/-- What is to be said of an entry whose row is r. -/
def checkR (bd : Int) (r : Rw) (e : En) : Int :=
  if r.ns ≤ 0 ∨ r.ew ≤ 0 then 310
  else if bd < 1 ∨ e.bd < 1 ∨ 128 < e.bd ∨ (e.bd - 1).tdiv bd ≠ r.st then 311
  else if e.vs < 1 ∨ 99 < e.vs then 312
  else if rightE e = true then 0 else 313
def checkE (bd : Int) (l : List Rw) (e : En) : Int :=
  match l.find? (isRow e) with
  | none => 310
  | some r => checkR bd r e
theorem checkR_310 {bd : Int} {r : Rw} {e : En} (h : r.ns ≤ 0 ∨ r.ew ≤ 0) : checkR bd r e = 310 := by unfold checkR; rw [if_pos h]
theorem checkR_311 {bd : Int} {r : Rw} {e : En} (h1 : ¬ r.ns ≤ 0) (h2 : ¬ r.ew ≤ 0) (h : bd < 1 ∨ e.bd < 1 ∨ 128 < e.bd ∨ (e.bd - 1).tdiv bd ≠ r.st) : checkR bd r e = 311 := by unfold checkR; rw [if_neg (by omega), if_pos h]
theorem checkR_312 {bd : Int} {r : Rw} {e : En} (h1 : ¬ r.ns ≤ 0) (h2 : ¬ r.ew ≤ 0) (h : ¬ (bd < 1 ∨ e.bd < 1 ∨ 128 < e.bd ∨ (e.bd - 1).tdiv bd ≠ r.st)) (h3 : e.vs < 1 ∨ 99 < e.vs) : checkR bd r e = 312 := by unfold checkR; rw [if_neg (by omega), if_neg h, if_pos h3]
theorem checkR_end {bd : Int} {r : Rw} {e : En} (h1 : ¬ r.ns ≤ 0) (h2 : ¬ r.ew ≤ 0) (h : ¬ (bd < 1 ∨ e.bd < 1 ∨ 128 < e.bd ∨ (e.bd - 1).tdiv bd ≠ r.st)) (h3 : ¬ (e.vs < 1 ∨ 99 < e.vs)) : checkR bd r e = if rightE e = true then 0 else 313 := by unfold checkR; rw [if_neg (by omega), if_neg h, if_neg h3]
set_option maxRecDepth 100000 in
set_option maxHeartbeats 4000000 in
theorem check_any (a b c d f bd : Int) (l : List Rw) (e : En) (hl : l.length ≤ 1000000) (hi : e.In) (v : Value) (w : World) (hv : WS w v l) : Calls Tryz.prog 28 #[.agg (snC a b c d f v bd), .agg (enC e)] w (fun x w' => x = .returned (.int .i64 (checkE bd l e)) ∧ Below w.heap.size w w') := by
  have HV := Lib.hid hv
  have RA := Lib.hid (fun W => right_any e hi W)
  have HI := Lib.hid hi
  obtain ⟨A, cp, rfl, hcp⟩ := hv.len
  obtain ⟨R, hR⟩ : ∃ R, checkE bd l e = R := ⟨_, rfl⟩
  rw [hR]
  have HR := Lib.hid hR
  obtain ⟨n, hn⟩ : ∃ n, l.length = n := ⟨_, rfl⟩
  rw [hn] at HV ⊢
  have HN := Lib.hid (And.intro hn hl)
  clear hv hcp hR hn hl hi
  go_enter Tryz.func28, Tryz.ntmps28
  go_upto_region 1 with fail
  have HS : Hid (Blk ((w.alloc (.cells (snC a b c d f (.slice A n cp) bd) 26)).alloc (.cells (enC e) 34)) w.heap.size 26 (snC a b c d f (.slice A n cp) bd)) := Lib.hid ((Blk.new w _ _).alloc _)
  have HE : Hid (Blk ((w.alloc (.cells (snC a b c d f (.slice A n cp) bd) 26)).alloc (.cells (enC e) 34)) (w.heap.size + 1) 34 (enC e)) := Lib.hid (by
    have := Blk.new (w.alloc (.cells (snC a b c d f (.slice A n cp) bd) 26)) 34 (enC e)
    rwa [size_al] at this)
  have HW : Hid (Below w.heap.size w ((w.alloc (.cells (snC a b c d f (.slice A n cp) bd) 26)).alloc (.cells (enC e) 34))) := Lib.hid ((below1 w _).alloc (by simp) _)
  generalize (w.alloc (.cells (snC a b c d f (.slice A n cp) bd) 26)).alloc (.cells (enC e) 34) = W1 at *
  have HL : Hid (w.heap.size ≠ w.heap.size + 1 ∧ w.heap.size < W1.heap.size ∧ w.heap.size + 1 < W1.heap.size) := Lib.hid ⟨by omega, HS.out.lt, HE.out.lt⟩
  generalize w.heap.size + 1 = p3 at *
  have HV1 := Lib.hid (HV.out.keep HW.out)
  have IA := Lib.hid (index_any l e HN.out.2 (.slice A n cp) p3 W1 HV1.out HE.out)
  generalize hp2 : w.heap.size = p2 at *
  have x5 : W1.cell? ⟨p2, 5, none⟩ = some (.slice A n cp) := HS.out.cell rfl
  go_wp2_with fail
  refine IA.out.mono ?_
  rintro x w2 ⟨⟨i, rfl, hi⟩, hb⟩
  have HS2 := Lib.hid (HS.out.keep hb HS.out.lt)
  have HE2 := Lib.hid (HE.out.keep hb HE.out.lt)
  have HW2 := Lib.hid (HW.out.trans (hb.mono (by have := HL.out; omega)))
  clear x5 HS HE HW IA hb HV1 HL
  clear W1
  rcases hi with ⟨k, r, rfl, hk, hf⟩ | ⟨rfl, hf⟩
  · have HR2 : Hid (R = checkR bd r e) := Lib.hid (by rw [← HR.out]; unfold checkE; rw [hf])
    obtain ⟨bl, ol, rfl⟩ := HV.out.ptr (by have := (List.getElem?_eq_some_iff.1 hk).1; omega)
    have hkn : k < n := by rw [← HN.out.1]; exact (List.getElem?_eq_some_iff.1 hk).1
    obtain ⟨y2, y3, y4⟩ := HV.out.cells hk (by rw [hp2]; exact HW2.out)
    have x5 : w2.cell? ⟨p2, 5, none⟩ = some (.slice (some ⟨bl, ol, none⟩) n cp) := HS2.out.cell rfl
    have x6 : w2.cell? ⟨p2, 6, none⟩ = some (.int .i64 bd) := HS2.out.cell rfl
    have z2 := HE2.out.cell (enC_bd e)
    have z3 := HE2.out.cell (enC_vs e)
    have j0 : (0 : Int) ≤ (k : Int) ∧ (k : Int) < (n : Int) := by omega
    have j1 : ¬ (n : Int) ≤ (k : Int) := by omega
    have j2 : (k : Int) < (n : Int) := by omega
    have j3 : decide ((k : Int) < 0) = false := decide_eq_false (by omega)
    have j4 : ¬ n ≤ k := by omega
    clear HR hf hk hkn HV HN
    by_cases h1 : r.ns ≤ 0
    · have u1 : decide (r.ns ≤ 0) = true := decide_eq_true h1
      have HX : Hid (R = 310) := Lib.hid (by rw [HR2.out, checkR_310 (Or.inl h1)])
      clear h1
      go_wp2_with fail
      go_ret
      exact ⟨by rw [HX.out]; rfl, by rw [hp2]; exact HW2.out⟩
    · have u1 : decide (r.ns ≤ 0) = false := decide_eq_false h1
      by_cases h2 : r.ew ≤ 0
      · have u2 : decide (r.ew ≤ 0) = true := decide_eq_true h2
        have HX : Hid (R = 310) := Lib.hid (by rw [HR2.out, checkR_310 (Or.inr h2)])
        clear h1 h2
        go_wp2_with fail
        go_ret
        exact ⟨by rw [HX.out]; rfl, by rw [hp2]; exact HW2.out⟩
      · have u2 : decide (r.ew ≤ 0) = false := decide_eq_false h2
        by_cases h3 : bd < 1
        · have u3 : decide (bd < 1) = true := decide_eq_true h3
          have HX : Hid (R = 311) := Lib.hid (by rw [HR2.out, checkR_311 h1 h2 (Or.inl h3)])
          clear h1 h2 h3
          go_upto_region 4 with fail
          go_quiet (fail)
          replace HW2 := Lib.hid (below_drewN HW2.out nq)
          go_wp2_with fail
          go_ret
          exact ⟨by rw [HX.out]; rfl, by rw [hp2]; exact HW2.out⟩
        · have u3 : decide (bd < 1) = false := decide_eq_false h3
          by_cases h4 : e.bd < 1
          · have u4 : decide (e.bd < 1) = true := decide_eq_true h4
            have HX : Hid (R = 311) := Lib.hid (by rw [HR2.out, checkR_311 h1 h2 (Or.inr (Or.inl h4))])
            clear h1 h2 h3 h4
            go_upto_region 4 with fail
            go_quiet (fail)
            replace HW2 := Lib.hid (below_drewN HW2.out nq)
            go_wp2_with fail
            go_ret
            exact ⟨by rw [HX.out]; rfl, by rw [hp2]; exact HW2.out⟩
          · have u4 : decide (e.bd < 1) = false := decide_eq_false h4
            by_cases h5 : 128 < e.bd
            · have u5 : decide (128 < e.bd) = true := decide_eq_true h5
              have HX : Hid (R = 311) := Lib.hid (by rw [HR2.out, checkR_311 h1 h2 (Or.inr (Or.inr (Or.inl h5)))])
              clear h1 h2 h3 h4 h5
              go_upto_region 4 with fail
              go_quiet (fail)
              replace HW2 := Lib.hid (below_drewN HW2.out nq)
              go_wp2_with fail
              go_ret
              exact ⟨by rw [HX.out]; rfl, by rw [hp2]; exact HW2.out⟩
            · have u5 : decide (128 < e.bd) = false := decide_eq_false h5
              have e1 : IntKind.i64.wrap (e.bd - 1) = e.bd - 1 := IntWalk.i64_in _ (by omega)
              have q0 := Int.tdiv_eq_ediv_of_nonneg (a := e.bd - 1) (b := bd) (by omega)
              have q1 : 0 ≤ (e.bd - 1) / bd := Int.ediv_nonneg (by omega) (by omega)
              have q2 : (e.bd - 1) / bd ≤ e.bd - 1 := Int.ediv_le_self _ (by omega)
              have e2 : IntKind.i64.wrap ((e.bd - 1).tdiv bd) = (e.bd - 1).tdiv bd := IntWalk.i64_in _ (by rw [q0]; omega)
              have b0 : ¬ bd = 0 := by omega
              have b1 : (bd == 0) = false := by rw [beq_eq_false_iff_ne]; omega
              clear q0 q1 q2
              by_cases h6 : (e.bd - 1).tdiv bd = r.st
              · have u6 : ((e.bd - 1).tdiv bd != r.st) = false := by rw [h6]; simp
                have HQ := Lib.hid (show ¬ (bd < 1 ∨ e.bd < 1 ∨ 128 < e.bd ∨ (e.bd - 1).tdiv bd ≠ r.st) by rintro (h | h | h | h) <;> omega)
                have HH := Lib.hid (show 0 < r.ns ∧ 0 < r.ew by omega)
                clear h1 h2 h3 h4 h5 h6
                go_upto_region 4 with fail
                go_quiet (fail)
                have HE3 : Hid (Blk (w2.drewN nq) p3 34 (enC e)) := HE2
                have HW3 := Lib.hid (below_drewN HW2.out nq)
                replace z3 : (w2.drewN nq).cell? ⟨p3, 3, none⟩ = some (.int .i64 e.vs) := z3
                generalize w2.drewN nq = w3 at *
                clear y2 y3 y4 x5 x6 z2 HE2 HW2 HS2 j0 j1 j2 j3 j4 e1 e2 b0 b1 u1 u2 u3 u4 u5 u6
                by_cases h7 : e.vs < 1
                · have u7 : decide (e.vs < 1) = true := decide_eq_true h7
                  have HX : Hid (R = 312) := Lib.hid (by rw [HR2.out, checkR_312 (by have := HH.out.1; omega) (by have := HH.out.2; omega) HQ.out (Or.inl h7)])
                  clear h7
                  go_wp2_with fail
                  go_ret
                  exact ⟨by rw [HX.out]; rfl, by rw [hp2]; exact HW3.out⟩
                · have u7 : decide (e.vs < 1) = false := decide_eq_false h7
                  by_cases h8 : 99 < e.vs
                  · have u8 : decide (99 < e.vs) = true := decide_eq_true h8
                    have HX : Hid (R = 312) := Lib.hid (by rw [HR2.out, checkR_312 (by have := HH.out.1; omega) (by have := HH.out.2; omega) HQ.out (Or.inr h8)])
                    clear h7 h8
                    go_wp2_with fail
                    go_ret
                    exact ⟨by rw [HX.out]; rfl, by rw [hp2]; exact HW3.out⟩
                  · have u8 : decide (99 < e.vs) = false := decide_eq_false h8
                    have HX : Hid (R = if rightE e = true then 0 else 313) := Lib.hid (by rw [HR2.out, checkR_end (by have := HH.out.1; omega) (by have := HH.out.2; omega) HQ.out (by omega)])
                    have la := loadAt_blk (T := 34) HE3.out Tryz.underlying34 rfl (by rw [enC_size]; kernel_rfl)
                    clear h7 h8
                    go_wp2_with (refine op_load (p := .pointer (some ⟨p3, 0, none⟩)) (C := .agg (enC e)) 34 (.tmp 3) rfl rfl rfl la ?_)
                    refine (RA.out _).mono ?_
                    rintro x w5 ⟨rfl, hb⟩
                    have HW5 := Lib.hid (HW3.out.trans (hb.mono (by rw [← hp2]; exact HW3.out.size)))
                    clear la hb HW3 HE3 RA u7 u8 z3
                    clear w3
                    rcases hr : rightE e with _ | _
                    · rw [hr] at HX
                      clear hr
                      go_wp2_with fail
                      go_ret
                      exact ⟨by rw [HX.out]; rfl, by rw [hp2]; exact HW5.out⟩
                    · rw [hr] at HX
                      clear hr
                      go_wp2_with fail
                      go_ret
                      exact ⟨by rw [HX.out]; rfl, by rw [hp2]; exact HW5.out⟩
              · have u6 : ((e.bd - 1).tdiv bd != r.st) = true := by rw [bne_iff_ne]; exact h6
                have HX : Hid (R = 311) := Lib.hid (by rw [HR2.out, checkR_311 h1 h2 (Or.inr (Or.inr (Or.inr h6)))])
                clear h1 h2 h3 h4 h5 h6
                go_upto_region 4 with fail
                go_quiet (fail)
                replace HW2 := Lib.hid (below_drewN HW2.out nq)
                go_wp2_with fail
                go_ret
                exact ⟨by rw [HX.out]; rfl, by rw [hp2]; exact HW2.out⟩
  · have HR2 : Hid (R = 310) := Lib.hid (by rw [← HR.out]; unfold checkE; rw [hf])
    clear HR hf
    go_wp2_with fail
    go_ret
    exact ⟨by rw [HR2.out]; rfl, by rw [hp2]; exact HW2.out⟩
end Go.Proofs.YtpkmibmombpjpaaGreatDoor
