/- Open without power; Repair; is, Last, Size, Records. -/
import Derived.Test.YtbompgfjlllioaaDoorJOpen
namespace Go.Proofs.YtbompgfjlllioaaDoor
open Go Go.RowKit
section
variable (dp : Nat) (bs : List UInt8) (pow : Int) (w : World) (B : Nat)
set_option maxRecDepth 100000 in
set_option maxHeartbeats 2000000 in
theorem open_nopower (A : Option Addr) (cap : Nat) (hl : bs.length ≤ 1048576) (ht : (scanS (linesL bs)).ok = true) (he : Env w) (h : PD w dp (.slice A bs.length cap) pow) (hB : DV w B (.slice A bs.length cap) bs)
    (CU : ∀ W, PD W dp (.slice A bs.length cap) pow → Calls Tryd.prog 34 #[.pointer (some ⟨dp, 0, none⟩), .int .i64 ((scanS (linesL bs)).size : Nat)] W (fun e w' => e = .returned (.int .i64 420) ∧ W = w')) :
    Calls Tryd.prog 13 #[.pointer (some ⟨dp, 0, none⟩)] w (fun e w' => e = .returned (.tuple #[.pointer none, .int .i64 420]) ∧ Below w.heap.size w w') := by
  have LG := Lib.hid (legal_any dp A bs.length cap pow (by omega) w h)
  rw [show legalP bs.length = 0 from if_neg (by omega)] at LG
  have SC := Lib.hid (scan_any _ bs (by omega) w he hB.bv)
  obtain ⟨t, htt⟩ : ∃ t, tailP (scanS (linesL bs)) bs.length = t := ⟨_, rfl⟩
  have ht2 : t ≠ 2 := by rw [← htt]; unfold tailP; rw [ht, if_pos rfl]; split <;> decide
  have t2 : ((t : Int) == 2) = false := beq_eq_false_iff_ne.2 (by omega)
  have t2' : (t == 2) = false := beq_eq_false_iff_ne.2 ht2
  rw [htt] at SC
  have CU := Lib.hid CU
  have c0 := h.cell (j := 0) (v := .slice A bs.length cap) rfl
  have H := Lib.hid h
  have hle := scan_le bs
  generalize scanS (linesL bs) = S at *
  clear h hB he htt ht ht2
  go_enter Tryd.func13, Tryd.ntmps13
  go_wp2_with fail
  refine LG.out.mono ?_
  rintro e w1 ⟨rfl, rfl⟩
  go_wp2_with fail
  refine SC.out.mono ?_
  rintro e w1 ⟨v, rfl, hr, hb⟩
  obtain ⟨A2, c2, rfl⟩ := own_slice hr
  have HB := Lib.hid hb
  have H1 : Hid (PD w1 dp (.slice A bs.length cap) pow) := Lib.hid (Blk.keep H.out hb H.out.lt)
  have d0 := H1.out.cell (j := 0) (v := .slice A bs.length cap) rfl
  clear hr hb c0
  go_wp2_with fail
  refine (CU.out _ H1.out).mono ?_
  rintro e w2 ⟨rfl, rfl⟩
  go_wp2
  go_ret2
  exact ⟨rfl, HB.out⟩
set_option maxRecDepth 100000 in
theorem repair_nil : Calls Tryd.prog 26 #[.pointer none] w (fun e w' => e = .returned (.tuple #[.int .i64 0, .int .i64 1]) ∧ w = w') := by
  have LG := Lib.hid (legal_nil w)
  go_enter Tryd.func26, Tryd.ntmps26
  go_wp2_with fail
  refine LG.out.mono ?_
  rintro e w1 ⟨rfl, rfl⟩
  go_wp2
  go_ret2
  exact ⟨rfl, rfl⟩
set_option maxRecDepth 100000 in
theorem repair_long (dv : Value) (hl : 1048576 < bs.length) (hn : bs.length ≤ 100000000) (h : PD w dp dv pow) (hB : DV w B dv bs) :
    Calls Tryd.prog 26 #[.pointer (some ⟨dp, 0, none⟩)] w (fun e w' => e = .returned (.tuple #[.int .i64 0, .int .i64 3]) ∧ w = w') := by
  obtain ⟨A, cap, rfl⟩ := hB.bv.len
  have LG := Lib.hid (legal_any dp A bs.length cap pow hn w h)
  rw [show legalP bs.length = 3 from if_pos hl] at LG
  go_enter Tryd.func26, Tryd.ntmps26
  go_wp2_with fail
  refine LG.out.mono ?_
  rintro e w1 ⟨rfl, rfl⟩
  go_wp2
  go_ret2
  exact ⟨rfl, rfl⟩
set_option maxRecDepth 100000 in
set_option maxHeartbeats 2000000 in
theorem repair_nopower (A : Option Addr) (cap : Nat) (hl : bs.length ≤ 1048576) (he : Env w) (h : PD w dp (.slice A bs.length cap) pow) (hB : DV w B (.slice A bs.length cap) bs)
    (CU : ∀ W, PD W dp (.slice A bs.length cap) pow → Calls Tryd.prog 34 #[.pointer (some ⟨dp, 0, none⟩), .int .i64 ((scanS (linesL bs)).size : Nat)] W (fun e w' => e = .returned (.int .i64 420) ∧ W = w')) :
    Calls Tryd.prog 26 #[.pointer (some ⟨dp, 0, none⟩)] w (fun e w' => e = .returned (.tuple #[.int .i64 0, .int .i64 420]) ∧ Below w.heap.size w w') := by
  have LG := Lib.hid (legal_any dp A bs.length cap pow (by omega) w h)
  rw [show legalP bs.length = 0 from if_neg (by omega)] at LG
  have SC := Lib.hid (scan_any _ bs (by omega) w he hB.bv)
  obtain ⟨t, htt⟩ : ∃ t, tailP (scanS (linesL bs)) bs.length = t := ⟨_, rfl⟩
  rw [htt] at SC
  have CU := Lib.hid CU
  have c0 := h.cell (j := 0) (v := .slice A bs.length cap) rfl
  have H := Lib.hid h
  have hle := scan_le bs
  generalize scanS (linesL bs) = S at *
  clear h hB he htt 
  have w7 : IntKind.i64.wrap ((bs.length : Int) - (S.size : Int)) = (bs.length : Int) - (S.size : Int) := IntWalk.i64_in _ (by omega)
  go_enter Tryd.func26, Tryd.ntmps26
  go_wp2_with fail
  refine LG.out.mono ?_
  rintro e w1 ⟨rfl, rfl⟩
  go_wp2_with fail
  refine SC.out.mono ?_
  rintro e w1 ⟨v, rfl, hr, hb⟩
  obtain ⟨A2, c2, rfl⟩ := own_slice hr
  have HB := Lib.hid hb
  have H1 : Hid (PD w1 dp (.slice A bs.length cap) pow) := Lib.hid (Blk.keep H.out hb H.out.lt)
  have d0 := H1.out.cell (j := 0) (v := .slice A bs.length cap) rfl
  clear hr hb c0
  go_wp2_with fail
  refine (CU.out _ H1.out).mono ?_
  rintro e w2 ⟨rfl, rfl⟩
  go_wp2
  go_ret2
  exact ⟨rfl, HB.out⟩
set_option maxRecDepth 100000 in
set_option maxHeartbeats 2000000 in
theorem repair_ok (A : Option Addr) (cap : Nat) (hl : bs.length ≤ 1048576) (he : Env w) (h : PD w dp (.slice A bs.length cap) pow) (hB : DV w B (.slice A bs.length cap) bs)
    (pow' : Int) (n' c' : Nat) (CU : ∀ W, PD W dp (.slice A bs.length cap) pow → Calls Tryd.prog 34 #[.pointer (some ⟨dp, 0, none⟩), .int .i64 ((scanS (linesL bs)).size : Nat)] W (fun e w' => e = .returned (.int .i64 0) ∧ PD w' dp (.slice A n' c') pow' ∧ W.grownBy w' (some dp))) :
    Calls Tryd.prog 26 #[.pointer (some ⟨dp, 0, none⟩)] w (fun e w' => e = .returned (.tuple #[.int .i64 ((bs.length : Int) - ((scanS (linesL bs)).size : Nat)), .int .i64 0]) ∧ PD w' dp (.slice A n' c') pow' ∧ w.grownBy w' (some dp)) := by
  have LG := Lib.hid (legal_any dp A bs.length cap pow (by omega) w h)
  rw [show legalP bs.length = 0 from if_neg (by omega)] at LG
  have SC := Lib.hid (scan_any _ bs (by omega) w he hB.bv)
  obtain ⟨t, htt⟩ : ∃ t, tailP (scanS (linesL bs)) bs.length = t := ⟨_, rfl⟩
  rw [htt] at SC
  have CU := Lib.hid CU
  have c0 := h.cell (j := 0) (v := .slice A bs.length cap) rfl
  have H := Lib.hid h
  have hle := scan_le bs
  generalize scanS (linesL bs) = S at *
  clear h hB he htt 
  have w7 : IntKind.i64.wrap ((bs.length : Int) - (S.size : Int)) = (bs.length : Int) - (S.size : Int) := IntWalk.i64_in _ (by omega)
  go_enter Tryd.func26, Tryd.ntmps26
  go_wp2_with fail
  refine LG.out.mono ?_
  rintro e w1 ⟨rfl, rfl⟩
  go_wp2_with fail
  refine SC.out.mono ?_
  rintro e w1 ⟨v, rfl, hr, hb⟩
  obtain ⟨A2, c2, rfl⟩ := own_slice hr
  have HB := Lib.hid hb
  have H1 : Hid (PD w1 dp (.slice A bs.length cap) pow) := Lib.hid (Blk.keep H.out hb H.out.lt)
  have d0 := H1.out.cell (j := 0) (v := .slice A bs.length cap) rfl
  clear hr hb c0
  go_wp2_with fail
  refine (CU.out _ H1.out).mono ?_
  rintro e w2 ⟨rfl, hP, hg⟩
  have HP := Lib.hid hP
  have HG := Lib.hid hg
  clear hP hg d0
  go_wp2
  go_ret2
  exact ⟨rfl, HP.out, World.grownBy.trans ⟨HB.out.os, HB.out.tape, HB.out.output, HB.out.size, fun k hk _ => HB.out.block k hk⟩ HG.out⟩
end
/-- The block of a log. -/
def PL (w : World) (lp dp : Nat) (rv : Value) (last size : Int) (closed : Bool) (bv : Value) : Prop := Blk w lp 69 #[.pointer (some ⟨dp, 0, none⟩), rv, .int .i64 last, .int .i64 size, .bool closed, bv]
section
variable {w : World} {lp dp : Nat} {rv bv : Value} {last size : Int} {closed : Bool}
theorem PL.c0 (h : PL w lp dp rv last size closed bv) : w.cell? ⟨lp, 0, none⟩ = some (.pointer (some ⟨dp, 0, none⟩)) := h.cell (j := 0) rfl
theorem PL.c1 (h : PL w lp dp rv last size closed bv) : w.cell? ⟨lp, 1, none⟩ = some rv := h.cell (j := 1) rfl
theorem PL.c2 (h : PL w lp dp rv last size closed bv) : w.cell? ⟨lp, 2, none⟩ = some (.int .i64 last) := h.cell (j := 2) rfl
theorem PL.c3 (h : PL w lp dp rv last size closed bv) : w.cell? ⟨lp, 3, none⟩ = some (.int .i64 size) := h.cell (j := 3) rfl
theorem PL.c4 (h : PL w lp dp rv last size closed bv) : w.cell? ⟨lp, 4, none⟩ = some (.bool closed) := h.cell (j := 4) rfl
theorem PL.c5 (h : PL w lp dp rv last size closed bv) : w.cell? ⟨lp, 5, none⟩ = some bv := h.cell (j := 5) rfl
end
set_option maxRecDepth 100000 in
theorem is_any (lp dp : Nat) (w : World) (c0 : w.cell? ⟨lp, 0, none⟩ = some (.pointer (some ⟨dp, 0, none⟩))) : Calls Tryd.prog 35 #[.pointer (some ⟨lp, 0, none⟩)] w (fun e w' => e = .returned (.bool true) ∧ w = w') := by
  go_enter Tryd.func35, Tryd.ntmps35
  go_wp2
  go_ret
  exact ⟨rfl, rfl⟩
set_option maxRecDepth 100000 in
theorem is_nil (w : World) : Calls Tryd.prog 35 #[.pointer none] w (fun e w' => e = .returned (.bool false) ∧ w = w') := by
  go_enter Tryd.func35, Tryd.ntmps35
  go_wp2
  go_ret
  exact ⟨rfl, rfl⟩
set_option maxRecDepth 100000 in
theorem is_empty (lp : Nat) (w : World) (c0 : w.cell? ⟨lp, 0, none⟩ = some (.pointer none)) : Calls Tryd.prog 35 #[.pointer (some ⟨lp, 0, none⟩)] w (fun e w' => e = .returned (.bool false) ∧ w = w') := by
  go_enter Tryd.func35, Tryd.ntmps35
  go_wp2
  go_ret
  exact ⟨rfl, rfl⟩
set_option maxRecDepth 100000 in
theorem last_any (lp dp : Nat) (rv bv : Value) (last size : Int) (closed : Bool) (w : World) (h : PL w lp dp rv last size closed bv) : Calls Tryd.prog 24 #[.pointer (some ⟨lp, 0, none⟩)] w (fun e w' => e = .returned (.int .i64 last) ∧ w = w') := by
  have IS := Lib.hid (is_any lp dp w h.c0)
  have cj := h.c2
  clear h
  go_enter Tryd.func24, Tryd.ntmps24
  go_wp2_with fail
  refine IS.out.mono ?_
  rintro e w1 ⟨rfl, rfl⟩
  go_wp2
  go_ret
  exact ⟨rfl, rfl⟩
set_option maxRecDepth 100000 in
theorem last_no (v : Value) (w : World) (IS : Calls Tryd.prog 35 #[v] w (fun e w' => e = .returned (.bool false) ∧ w = w')) : Calls Tryd.prog 24 #[v] w (fun e w' => e = .returned (.int .i64 0) ∧ w = w') := by
  have IS := Lib.hid IS
  go_enter Tryd.func24, Tryd.ntmps24
  go_wp2_with fail
  refine IS.out.mono ?_
  rintro e w1 ⟨rfl, rfl⟩
  go_wp2
  go_ret
  exact ⟨rfl, rfl⟩
set_option maxRecDepth 100000 in
theorem size_any (lp dp : Nat) (rv bv : Value) (last size : Int) (closed : Bool) (w : World) (h : PL w lp dp rv last size closed bv) : Calls Tryd.prog 17 #[.pointer (some ⟨lp, 0, none⟩)] w (fun e w' => e = .returned (.int .i64 size) ∧ w = w') := by
  have IS := Lib.hid (is_any lp dp w h.c0)
  have cj := h.c3
  clear h
  go_enter Tryd.func17, Tryd.ntmps17
  go_wp2_with fail
  refine IS.out.mono ?_
  rintro e w1 ⟨rfl, rfl⟩
  go_wp2
  go_ret
  exact ⟨rfl, rfl⟩
set_option maxRecDepth 100000 in
theorem size_no (v : Value) (w : World) (IS : Calls Tryd.prog 35 #[v] w (fun e w' => e = .returned (.bool false) ∧ w = w')) : Calls Tryd.prog 17 #[v] w (fun e w' => e = .returned (.int .i64 0) ∧ w = w') := by
  have IS := Lib.hid IS
  go_enter Tryd.func17, Tryd.ntmps17
  go_wp2_with fail
  refine IS.out.mono ?_
  rintro e w1 ⟨rfl, rfl⟩
  go_wp2
  go_ret
  exact ⟨rfl, rfl⟩
theorem clone_any (v : Value) (l : List (List UInt8)) (hs : l.length ≤ 10000000) (w : World) (h : RS w v l) : Calls Tryd.prog 38 #[v] w (fun e w' => ∃ v', e = .returned v' ∧ RS w' v' l ∧ Below w.heap.size w w') := by
  cases h with
  | none_ => exact (Tryd.slices_Clone_string_nil 0 0 w).mono (fun e w' ⟨h1, h2⟩ => ⟨_, h1, .none_, h2 ▸ Below.refl _ _⟩)
  | some_ b o cap l hb h =>
    refine (Tryd.slices_Clone_string b o l.length cap (l.map fun r => (⟨r.toArray⟩ : ByteArray)) w (by simp) (by omega) (fun j hj => ?_)).mono (fun e w' ⟨v', h1, h2, _, h3⟩ => ⟨v', h1, rs_of_own (base := w.heap.size) ?_, h3⟩)
    · have hj' : j < l.length := by simpa using hj
      rw [h j l[j] (List.getElem?_eq_getElem hj')]
      simp [strV, List.getD, List.getElem?_eq_getElem hj']
    · rw [List.take_of_length_le (by simp), List.map_map] at h2
      exact h2
set_option maxRecDepth 100000 in
theorem records_any (lp dp : Nat) (rv bv : Value) (last size : Int) (closed : Bool) (l : List (List UInt8)) (hs : l.length ≤ 10000000) (w : World) (h : PL w lp dp rv last size closed bv) (hr : RS w rv l) :
    Calls Tryd.prog 16 #[.pointer (some ⟨lp, 0, none⟩)] w (fun e w' => ∃ v', e = .returned v' ∧ RS w' v' l ∧ Below w.heap.size w w') := by
  have IS := Lib.hid (is_any lp dp w h.c0)
  have CL := Lib.hid (clone_any rv l hs w hr)
  obtain ⟨A, c, rfl⟩ := hr.len
  have cj := h.c1
  clear h hr
  go_enter Tryd.func16, Tryd.ntmps16
  go_wp2_with fail
  refine IS.out.mono ?_
  rintro e w1 ⟨rfl, rfl⟩
  go_wp2_with fail
  refine CL.out.mono ?_
  rintro e w2 ⟨v', rfl, hr, hb⟩
  obtain ⟨A2, c2, rfl⟩ := hr.len
  have HR := Lib.hid hr
  have HB := Lib.hid hb
  clear hr hb cj
  go_wp2
  go_ret
  exact ⟨_, rfl, HR.out, HB.out⟩
set_option maxRecDepth 100000 in
theorem records_no (v : Value) (w : World) (IS : Calls Tryd.prog 35 #[v] w (fun e w' => e = .returned (.bool false) ∧ w = w')) : Calls Tryd.prog 16 #[v] w (fun e w' => e = .returned (.slice none 0 0) ∧ w = w') := by
  have IS := Lib.hid IS
  go_enter Tryd.func16, Tryd.ntmps16
  go_wp2_with fail
  refine IS.out.mono ?_
  rintro e w1 ⟨rfl, rfl⟩
  go_wp2
  go_ret
  exact ⟨rfl, rfl⟩
end Go.Proofs.YtbompgfjlllioaaDoor
