/- Rows of a movement; the row of an entry; won; lists that are the same. -/
import Derived.Test.YtpkmibmombpjpaaGreatDoorEJ
set_option linter.unusedSimpArgs false
namespace Go.Proofs.YtpkmibmombpjpaaGreatDoor
open Go Go.RowKit

/-- A row of a movement. -/
structure Rw where
  rd : Int
  tb : Int
  ns : Int
  ew : Int
  st : Int
def rwC (r : Rw) : Array Value := #[.int .i64 r.rd, .int .i64 r.tb, .int .i64 r.ns, .int .i64 r.ew, .int .i64 r.st]
theorem rwC_size (r : Rw) : (rwC r).size = 5 := rfl
abbrev WS (W : World) : Value → List Rw → Prop := LS rwC 5 W
theorem WS.load {W W' : World} {n cap i b o : Nat} {l : List Rw} {r : Rw} (h : WS W (.slice (some ⟨b, o, none⟩) n cap) l) (hi : l[i]? = some r) (hb : Below W.heap.size W W') : (Instr.loadAt 90 (.pointer (some ⟨b, o + i * 5, none⟩))).run Tryz.prog W' = .ok (.agg (rwC r)) W' :=
  LS.load Tryz.underlying90 rfl (by rw [rwC_size]; kernel_rfl) h hi hb
theorem WS.cells {W W' : World} {n cap i b o : Nat} {l : List Rw} {r : Rw} (h : WS W (.slice (some ⟨b, o, none⟩) n cap) l) (hi : l[i]? = some r) (hb : Below W.heap.size W W') :
    W'.cell? ⟨b, o + i * 5 + 2, none⟩ = some (.int .i64 r.ns) ∧ W'.cell? ⟨b, o + i * 5 + 3, none⟩ = some (.int .i64 r.ew) ∧ W'.cell? ⟨b, o + i * 5 + 4, none⟩ = some (.int .i64 r.st) := by
  obtain ⟨_, _, e1, _, hc⟩ := h.at hi
  cases e1
  exact ⟨keepW hb (hc 2 _ rfl), keepW hb (hc 3 _ rfl), keepW hb (hc 4 _ rfl)⟩
/-- The row is the entry's. -/
def isRow (e : En) (r : Rw) : Bool := decide (r.rd = e.rd) && decide (r.tb = e.tb)
set_option maxRecDepth 100000 in
theorem check1_any (r : Rw) (e : En) (p : Nat) (w : World) (hp : Blk w p 34 (enC e)) : Calls Tryz.prog 63 #[.agg (rwC r), .pointer (some ⟨p, 0, none⟩)] w (fun x w' => x = .returned (.bool (isRow e r)) ∧ Below w.heap.size w w') := by
  have HP := hp.alloc (.cells (rwC r) 90)
  have c0 := HP.cell (enC_rd e)
  have c1 := HP.cell (enC_tb e)
  have HB := Blk.new w 90 (rwC r)
  have d0 := HB.cell (j := 0) (v := .int .i64 r.rd) rfl
  have d1 := HB.cell (j := 1) (v := .int .i64 r.tb) rfl
  have HW := Lib.hid (below1 w (.cells (rwC r) 90))
  obtain ⟨b, hb⟩ : ∃ b, isRow e r = b := ⟨_, rfl⟩
  rw [hb]
  have HR := Lib.hid hb
  unfold isRow at hb
  obtain ⟨C, hC⟩ : ∃ C, rwC r = C := ⟨_, rfl⟩
  rw [hC] at c0 c1 d0 d1 HW ⊢
  clear HP HB hp hC
  rcases h0 : decide (r.rd = e.rd) with _ | _
  · have u0 : (r.rd == e.rd) = false := by rw [beq_eq_false_iff_ne]; exact of_decide_eq_false h0
    rw [h0] at hb
    have hb : false = b := hb
    subst hb
    clear h0
    go_enter Tryz.func63, Tryz.ntmps63
    go_wp2_with fail
    go_ret
    exact ⟨rfl, HW.out⟩
  · have u0 : (r.rd == e.rd) = true := by rw [beq_iff_eq]; exact of_decide_eq_true h0
    rw [h0] at hb
    have hb : decide (r.tb = e.tb) = b := hb
    have u1 : (r.tb == e.tb) = b := by
      rw [← hb]
      by_cases h : r.tb = e.tb
      · rw [decide_eq_true h, beq_iff_eq.2 h]
      · rw [decide_eq_false h, beq_eq_false_iff_ne.2 h]
    clear h0 hb
    go_enter Tryz.func63, Tryz.ntmps63
    go_wp2_with fail
    go_ret
    exact ⟨rfl, HW.out⟩
theorem find_drop {e : En} {l : List Rw} {k : Nat} {r : Rw} (hr : l[k]? = some r) : (l.drop k).find? (isRow e) = if isRow e r then some r else (l.drop (k + 1)).find? (isRow e) := by
  have hd : l.drop k = r :: l.drop (k + 1) := by
    obtain ⟨h, rfl⟩ := List.getElem?_eq_some_iff.1 hr
    exact List.drop_eq_getElem_cons h
  rw [hd, List.find?_cons]
  cases isRow e r <;> rfl
set_option maxRecDepth 100000 in
set_option maxHeartbeats 4000000 in
/-- The first row of an entry, in IndexFunc. -/
theorem index_any (l : List Rw) (e : En) (hl : l.length ≤ 1000000) (v : Value) (p : Nat) (w : World) (hv : WS w v l) (hp : Blk w p 34 (enC e)) : Calls Tryz.prog 62 #[v, .func (.func 63) #[] #[.pointer (some ⟨p, 0, none⟩)]] w (fun x w' => (∃ i : Int, x = .returned (.int .i64 i) ∧ ((∃ k r, i = ((k : Nat) : Int) ∧ l[k]? = some r ∧ l.find? (isRow e) = some r) ∨ (i = -1 ∧ l.find? (isRow e) = none))) ∧ Below w.heap.size w w') := by
  obtain ⟨A, cp, rfl, hcp⟩ := hv.len
  have HV := Lib.hid hv
  have HP := Lib.hid hp
  obtain ⟨n, hn⟩ : ∃ n, l.length = n := ⟨_, rfl⟩
  rw [hn] at hl HV ⊢
  have HN := Lib.hid hn
  clear hv hp hn hcp
  go_enter Tryz.func62, Tryz.ntmps62
  go_wp2_with fail
  go_loopw [8] (fun s8 wr => ∃ k : Nat, k ≤ n ∧ s8 = .int .i64 (k : Int) ∧ Hid (l.find? (isRow e) = (l.drop k).find? (isRow e)) ∧ Hid (Below w.heap.size w wr)) (fun s8 _ => n - (intOf s8).toNat)
  case atStart => exact ⟨0, Nat.zero_le _, rfl, Lib.hid rfl, Lib.hid (Below.refl _ _)⟩
  case round =>
    obtain ⟨k, hk, rfl, HF, HW⟩ := hrel
    by_cases hlt : k < n
    · have u1 : decide ((k : Int) < (n : Int)) = true := decide_eq_true (by omega)
      obtain ⟨r, hr⟩ : ∃ r, l[k]? = some r := ⟨_, List.getElem?_eq_getElem (by rw [HN.out]; exact hlt)⟩
      obtain ⟨bl, ol, rfl⟩ := HV.out.ptr (by rw [HN.out]; omega)
      have lo := HV.out.load hr HW.out
      have j0 : (0 : Int) ≤ (k : Int) ∧ (k : Int) < (n : Int) := by omega
      have j1 : ¬ (n : Int) ≤ (k : Int) := by omega
      have j2 : (k : Int) < (n : Int) := by omega
      have e1 : IntKind.i64.wrap ((k : Int) + 1) = (k : Int) + 1 := IntWalk.i64_in _ (by omega)
      have CK := Lib.hid (check1_any r e p wr (HP.out.keep HW.out HP.out.lt))
      have HFD := Lib.hid (find_drop (e := e) hr)
      have HK := Lib.hid (And.intro hk (And.intro hlt hr))
      clear hk hlt hr
      obtain ⟨b, hb⟩ : ∃ b, isRow e r = b := ⟨_, rfl⟩
      rw [hb] at CK HFD
      clear hb
      go_wp2_with (refine op_load (p := .pointer (some ⟨bl, ol + k * 5, none⟩)) (C := .agg (rwC r)) 90 (.tmp 14) rfl rfl rfl lo ?_)
      refine CK.out.mono ?_
      rintro x w5 ⟨rfl, hb5⟩
      have HW5 := Lib.hid (HW.out.trans (hb5.mono HW.out.size))
      clear lo CK hb5 HW
      clear wr
      rcases b with _ | _
      · have HF2 : Hid (l.find? (isRow e) = (l.drop (k + 1)).find? (isRow e)) := Lib.hid (by rw [HF.out, HFD.out]; rfl)
        go_wp2_with fail
        go_roundw
        case rel => exact ⟨k + 1, HK.out.2.1, by simp, HF2, HW5⟩
        case measure => have := HK.out.2.1; simp only [intOf]; omega
      · have HF2 : Hid (l.find? (isRow e) = some r) := Lib.hid (by rw [HF.out, HFD.out]; rfl)
        go_wp2_with fail
        go_ret
        exact ⟨⟨_, rfl, Or.inl ⟨k, r, rfl, HK.out.2.2, HF2.out⟩⟩, HW5.out⟩
    · obtain rfl : k = n := by omega
      have u1 : decide ((k : Int) < (k : Int)) = false := decide_eq_false (by omega)
      have HF2 : Hid (l.find? (isRow e) = none) := Lib.hid (by
        rw [HF.out, List.drop_of_length_le (by rw [HN.out]; exact Nat.le_refl _)]; rfl)
      clear hlt
      go_wp2_with fail
      go_ret
      exact ⟨⟨_, rfl, Or.inr ⟨rfl, HF2.out⟩⟩, HW.out⟩
/-- Tricks in 4 spades by South. -/
def wonO (t wt : Int) : Ou := ⟨4, 3, 0, 2, t, wt⟩
set_option maxRecDepth 100000 in
theorem won_any (t wt : Int) (w : World) : Calls Tryz.prog 21 #[.int .i64 t, .int .i64 wt] w (fun x w' => x = .returned (ouV (wonO t wt)) ∧ Below w.heap.size w w') := by
  have HB := Lib.hid (below1 w (.cells #[.int .u8 4, .int .u8 3, .int .u8 0, .int .u8 2, .int .i64 t, .int .i64 wt] 30))
  go_enter Tryz.func21, Tryz.ntmps21
  have st := storeAt_row (T := 30) (C := #[.int .u8 4, .int .u8 3, .int .u8 0, .int .u8 2, .int .i64 t, .int .i64 wt]) (Blk.new w 30 #[.int .u8 0, .int .u8 0, .int .u8 0, .int .u8 0, .int .i64 0, .int .i64 0]) (by kernel_rfl) rfl (by kernel_rfl)
  rw [setRow_new] at st
  go_wp2_with (refine op_store (p := .pointer (some ⟨w.heap.size, 0, none⟩)) (C := .agg #[.int .u8 4, .int .u8 3, .int .u8 0, .int .u8 2, .int .i64 t, .int .i64 wt]) 30 (.tmp 4) (.tmp 8) rfl rfl rfl rfl rfl st ?_)
  have lf := loadVar_blk (T := 30) (Blk.new w 30 #[.int .u8 4, .int .u8 3, .int .u8 0, .int .u8 2, .int .i64 t, .int .i64 wt]) Tryz.underlying30 rfl (by kernel_rfl)
  (try simp only [Exit.inBlock, Exit.then])
  refine bodyPost_ret (results_cell Tryz.results21 rfl lf) rfl ?_
  exact ⟨rfl, HB.out⟩
end Go.Proofs.YtpkmibmombpjpaaGreatDoor
