/- The contract of Text. -/
import Derived.Test.YtgmofikhndlhcaaDoorRes
import Derived.Test.YtgmofikhndlhcaaDoorShelf
import Derived.Test.YtgmofikhndlhcaaDoorBlk
import Derived.Deep.RegionHeld
import Derived.Laws.IdiomStrings
namespace Go.Proofs.YtgmofikhndlhcaaDoor
open Go.RowKit

def dch (d : Nat) : UInt8 := if d = 0 then 67 else if d = 1 then 68 else if d = 2 then 72 else if d = 3 then 83 else 78
def sch (s : Nat) : UInt8 := if s = 0 then 78 else if s = 1 then 69 else if s = 2 then 83 else 87
/-- The text of a right contract. -/
def textP (l d r s : Nat) : List UInt8 := if l = 0 then [112, 97, 115, 115] else [UInt8.ofNat (48 + l), dch d] ++ List.replicate r 88 ++ [32, sch s]
theorem ret_txt (x y : ByteArray) (n : Int) (h : x = y) : Ending.returned (.tuple #[.string x, .int .i64 n]) = .returned (.tuple #[.string y, .int .i64 n]) := by rw [h]
theorem tx_0 (l : Nat) (c e : UInt8) : ((⟨#[48 + UInt8.ofNat l, c]⟩ : ByteArray) ++ ⟨#[]⟩ ++ ⟨#[32]⟩ ++ ⟨#[e]⟩) = ⟨([UInt8.ofNat (48 + l), c] ++ List.replicate 0 88 ++ [32, e]).toArray⟩ := by
  apply ByteArray.ext; simp
theorem tx_1 (l : Nat) (c e : UInt8) : ((⟨#[48 + UInt8.ofNat l, c]⟩ : ByteArray) ++ ⟨#[88]⟩ ++ ⟨#[32]⟩ ++ ⟨#[e]⟩) = ⟨([UInt8.ofNat (48 + l), c] ++ List.replicate 1 88 ++ [32, e]).toArray⟩ := by
  apply ByteArray.ext; simp
theorem tx_2 (l : Nat) (c e : UInt8) : ((⟨#[48 + UInt8.ofNat l, c]⟩ : ByteArray) ++ ⟨#[88, 88]⟩ ++ ⟨#[32]⟩ ++ ⟨#[e]⟩) = ⟨([UInt8.ofNat (48 + l), c] ++ List.replicate 2 88 ++ [32, e]).toArray⟩ := by
  apply ByteArray.ext; simp
theorem bcell {W w1 : World} (hb : Below W.heap.size W w1) : (∀ b o, b < W.heap.size → w1.cell? ⟨b, o, none⟩ = W.cell? ⟨b, o, none⟩) ∧ (∀ b o, b < W.heap.size → w1.frozen? ⟨b, o, none⟩ = W.frozen? ⟨b, o, none⟩) :=
  ⟨fun b o h => hb.cell (p := ⟨b, o, none⟩) h, fun b o h => hb.frozen (p := ⟨b, o, none⟩) h⟩
theorem boxT (w : World) (o : Obj) : Below w.heap.size w (w.alloc o) := (Below.refl _ _).alloc (Nat.le_refl _) _
theorem idx_d (d : Nat) (hd : d ≤ 4) (w : World) : (Instr.index 9 (.string ⟨#[67, 68, 72, 83, 78]⟩) (.int .u8 (d : Nat))).run Tryd.prog w = .ok (.int .u8 ((dch d).toNat : Nat)) w := by
  rcases (by omega : d = 0 ∨ d = 1 ∨ d = 2 ∨ d = 3 ∨ d = 4) with rfl | rfl | rfl | rfl | rfl <;> kernel_rfl
theorem cut_s (s : Nat) (hs : s ≤ 3) (w : World) : (Instr.slice 9 (.string ⟨#[78, 69, 83, 87]⟩) (some (.int .u8 (s : Nat))) (some (.int .u8 ((s : Int) + 1))) none).run Tryd.prog w = .ok (.string ⟨#[sch s]⟩) w := by
  rcases (by omega : s = 0 ∨ s = 1 ∨ s = 2 ∨ s = 3) with rfl | rfl | rfl | rfl <;> kernel_rfl
theorem two_str (l d : Nat) (hl : l ≤ 7) (g : Nat) (w : World) (h0 : w.cell? ⟨g, 0, none⟩ = some (.int .u8 (48 + (l : Int)))) (h1 : w.cell? ⟨g, 1, none⟩ = some (.int .u8 ((dch d).toNat : Nat))) :
    (convert 28 9 (.slice (some ⟨g, 0, none⟩) 2 2)).run Tryd.prog w = .ok (.string ⟨#[UInt8.ofNat (48 + l), dch d]⟩) w :=
  run_convert_bytes_back _ _ _ 5 _ 2 [UInt8.ofNat (48 + l), dch d] (by kernel_rfl) (by kernel_rfl) (by kernel_rfl) (fun j hj => by
    have h2 : (UInt8.ofNat (48 + l)).toNat = 48 + l := by simp; omega
    rcases (by simp at hj; omega : j = 0 ∨ j = 1) with rfl | rfl
    · simp only [List.getElem_cons_zero, h2]
      simp [Addr.add, h0]
    · simp only [List.getElem_cons_succ, List.getElem_cons_zero]
      simp [Addr.add, h1])
theorem rep_any (r : Nat) (w : World) (hr : r ≤ 2) : Calls Tryd.prog 40 #[.string ⟨#[88]⟩, .int .i64 (r : Nat)] w fun e w' => e = .returned (.string ⟨(List.replicate r 88).toArray⟩) ∧ Below w.heap.size w w' :=
  (Tryd.strings_Repeat ⟨#[88]⟩ r w (by omega) (by
    have : (⟨#[88]⟩ : ByteArray).size = 1 := rfl
    rw [this]; omega)).mono fun _ _ ⟨he, hb⟩ => ⟨by
    rw [he]
    rcases (by omega : r = 0 ∨ r = 1 ∨ r = 2) with rfl | rfl | rfl <;> rfl, hb⟩
theorem rep_0 (w : World) : Calls Tryd.prog 40 #[.string ⟨#[88]⟩, .int .i64 0] w fun e w' => e = .returned (.string ⟨#[]⟩) ∧ Below w.heap.size w w' := rep_any 0 w (by omega)
theorem rep_1 (w : World) : Calls Tryd.prog 40 #[.string ⟨#[88]⟩, .int .i64 1] w fun e w' => e = .returned (.string ⟨#[88]⟩) ∧ Below w.heap.size w w' := rep_any 1 w (by omega)
theorem rep_2 (w : World) : Calls Tryd.prog 40 #[.string ⟨#[88]⟩, .int .i64 2] w fun e w' => e = .returned (.string ⟨#[88, 88]⟩) ∧ Below w.heap.size w w' := rep_any 2 w (by omega)

set_option maxRecDepth 100000 in
set_option maxHeartbeats 2000000 in
theorem text_0 (l d s : Nat) (w : World) (hl1 : 1 ≤ l) (hl : l ≤ 7) (hd : d ≤ 4) (hs : s ≤ 3) :
    Calls Tryd.prog 22 #[.agg #[.int .u8 l, .int .u8 d, .int .u8 0, .int .u8 s]] w fun e w' => e = .returned (.tuple #[.string ⟨(textP l d 0 s).toArray⟩, .int .i64 0]) ∧ Below w.heap.size w w' := by
  have hT : Hid (textP l d 0 s = [UInt8.ofNat (48 + l), dch d] ++ List.replicate 0 88 ++ [32, sch s]) := Lib.hid (if_neg (by omega))
  have hg := Lib.hid (rgt_mk l d 0 s hl1 hl hd (by omega) hs)
  have f0 : ((l : Int) == 0) = false := beq_eq_false_iff_ne.2 (by omega)
  have e1 : IntKind.u8.wrap (48 + (l : Int)) = 48 + (l : Int) := IntWalk.u8_in _ (by omega)
  have e2 : IntKind.u8.wrap ((s : Int) + 1) = (s : Int) + 1 := IntWalk.u8_in _ (by omega)
  have e3 : IntKind.i64.wrap 0 = 0 := by decide
  have ix := idx_d d hd
  have cs := cut_s s hs
  have ts := two_str l d hl
  go_enter Tryd.func22, Tryd.ntmps22
  go_wp2_with fail
  refine (right_any l d 0 s _).mono ?_
  rintro e w1 ⟨rfl, hb⟩
  rw [hg.out]
  have c0 := hb.cell (p := ⟨w.heap.size, 0, none⟩) (by simp)
  have c1 := hb.cell (p := ⟨w.heap.size, 1, none⟩) (by simp)
  have c2 := hb.cell (p := ⟨w.heap.size, 2, none⟩) (by simp)
  have c3 := hb.cell (p := ⟨w.heap.size, 3, none⟩) (by simp)
  simp at c0 c1 c2 c3
  have hB : Below w.heap.size w w1 := (boxT _ _).trans (hb.mono (by simp))
  clear hb
  go_wp2_with fail
  have SOF : Hid (∀ w2 : World, Below w1.heap.size w1 w2 → (w2.cell? ⟨w.heap.size, 0, none⟩ = some (.int .u8 (l : Nat)) ∧ w2.cell? ⟨w.heap.size, 1, none⟩ = some (.int .u8 (d : Nat)) ∧ w2.cell? ⟨w.heap.size, 2, none⟩ = some (.int .u8 0) ∧
      w2.cell? ⟨w.heap.size, 3, none⟩ = some (.int .u8 (s : Nat)) ∧ Below w1.heap.size w1 w2)) := Lib.hid fun _ h => ⟨keepW h c0, keepW h c1, keepW h c2, keepW h c3, h⟩
  clear c0 c1 c2 c3
  go_region_held (fun w2 => w2.cell? ⟨w.heap.size, 0, none⟩ = some (.int .u8 (l : Nat)) ∧ w2.cell? ⟨w.heap.size, 1, none⟩ = some (.int .u8 (d : Nat)) ∧ w2.cell? ⟨w.heap.size, 2, none⟩ = some (.int .u8 0) ∧
      w2.cell? ⟨w.heap.size, 3, none⟩ = some (.int .u8 (s : Nat)) ∧ Below w1.heap.size w1 w2)
    (first | exact SOF.out _ (Below.refl _ _) | exact SOF.out _ (Below.drew (by assumption : _ ∧ _ ∧ _ ∧ _ ∧ _).2.2.2.2) | exact (by assumption : _ ∧ _ ∧ _ ∧ _ ∧ _) | exact SOF.out _ (Below.drew (Below.refl _ _)) | exact SOF.out _ (bchain (by assumption : _ ∧ _ ∧ _ ∧ _ ∧ _).2.2.2.2 hb) | exact SOF.out _ (Below.alloc (by assumption : _ ∧ _ ∧ _ ∧ _ ∧ _).2.2.2.2 (Below.size (by assumption : _ ∧ _ ∧ _ ∧ _ ∧ _).2.2.2.2) _))
    (first | (go_at_call 40; (with_reducible refine (rep_0 _).mono ?_); rintro e w' ⟨rfl, hb⟩; obtain ⟨hc, hf⟩ := bcell hb))
  all_goals
    rename_i hh
    have hBB := hh.2.2.2.2
    clear hh
    go_wp2_with fail
    go_ret2
    exact ⟨ret_txt _ _ _ (by rw [hT.out]; exact tx_0 l (dch d) (sch s)), bchain hB hBB⟩

set_option maxRecDepth 100000 in
set_option maxHeartbeats 2000000 in
theorem text_1 (l d s : Nat) (w : World) (hl1 : 1 ≤ l) (hl : l ≤ 7) (hd : d ≤ 4) (hs : s ≤ 3) :
    Calls Tryd.prog 22 #[.agg #[.int .u8 l, .int .u8 d, .int .u8 1, .int .u8 s]] w fun e w' => e = .returned (.tuple #[.string ⟨(textP l d 1 s).toArray⟩, .int .i64 0]) ∧ Below w.heap.size w w' := by
  have hT : Hid (textP l d 1 s = [UInt8.ofNat (48 + l), dch d] ++ List.replicate 1 88 ++ [32, sch s]) := Lib.hid (if_neg (by omega))
  have hg := Lib.hid (rgt_mk l d 1 s hl1 hl hd (by omega) hs)
  have f0 : ((l : Int) == 0) = false := beq_eq_false_iff_ne.2 (by omega)
  have e1 : IntKind.u8.wrap (48 + (l : Int)) = 48 + (l : Int) := IntWalk.u8_in _ (by omega)
  have e2 : IntKind.u8.wrap ((s : Int) + 1) = (s : Int) + 1 := IntWalk.u8_in _ (by omega)
  have e3 : IntKind.i64.wrap 1 = 1 := by decide
  have ix := idx_d d hd
  have cs := cut_s s hs
  have ts := two_str l d hl
  go_enter Tryd.func22, Tryd.ntmps22
  go_wp2_with fail
  refine (right_any l d 1 s _).mono ?_
  rintro e w1 ⟨rfl, hb⟩
  rw [hg.out]
  have c0 := hb.cell (p := ⟨w.heap.size, 0, none⟩) (by simp)
  have c1 := hb.cell (p := ⟨w.heap.size, 1, none⟩) (by simp)
  have c2 := hb.cell (p := ⟨w.heap.size, 2, none⟩) (by simp)
  have c3 := hb.cell (p := ⟨w.heap.size, 3, none⟩) (by simp)
  simp at c0 c1 c2 c3
  have hB : Below w.heap.size w w1 := (boxT _ _).trans (hb.mono (by simp))
  clear hb
  go_wp2_with fail
  have SOF : Hid (∀ w2 : World, Below w1.heap.size w1 w2 → (w2.cell? ⟨w.heap.size, 0, none⟩ = some (.int .u8 (l : Nat)) ∧ w2.cell? ⟨w.heap.size, 1, none⟩ = some (.int .u8 (d : Nat)) ∧ w2.cell? ⟨w.heap.size, 2, none⟩ = some (.int .u8 1) ∧
      w2.cell? ⟨w.heap.size, 3, none⟩ = some (.int .u8 (s : Nat)) ∧ Below w1.heap.size w1 w2)) := Lib.hid fun _ h => ⟨keepW h c0, keepW h c1, keepW h c2, keepW h c3, h⟩
  clear c0 c1 c2 c3
  go_region_held (fun w2 => w2.cell? ⟨w.heap.size, 0, none⟩ = some (.int .u8 (l : Nat)) ∧ w2.cell? ⟨w.heap.size, 1, none⟩ = some (.int .u8 (d : Nat)) ∧ w2.cell? ⟨w.heap.size, 2, none⟩ = some (.int .u8 1) ∧
      w2.cell? ⟨w.heap.size, 3, none⟩ = some (.int .u8 (s : Nat)) ∧ Below w1.heap.size w1 w2)
    (first | exact SOF.out _ (Below.refl _ _) | exact SOF.out _ (Below.drew (by assumption : _ ∧ _ ∧ _ ∧ _ ∧ _).2.2.2.2) | exact (by assumption : _ ∧ _ ∧ _ ∧ _ ∧ _) | exact SOF.out _ (Below.drew (Below.refl _ _)) | exact SOF.out _ (bchain (by assumption : _ ∧ _ ∧ _ ∧ _ ∧ _).2.2.2.2 hb) | exact SOF.out _ (Below.alloc (by assumption : _ ∧ _ ∧ _ ∧ _ ∧ _).2.2.2.2 (Below.size (by assumption : _ ∧ _ ∧ _ ∧ _ ∧ _).2.2.2.2) _))
    (first | (go_at_call 40; (with_reducible refine (rep_1 _).mono ?_); rintro e w' ⟨rfl, hb⟩; obtain ⟨hc, hf⟩ := bcell hb))
  all_goals
    rename_i hh
    have hBB := hh.2.2.2.2
    clear hh
    go_wp2_with fail
    go_ret2
    exact ⟨ret_txt _ _ _ (by rw [hT.out]; exact tx_1 l (dch d) (sch s)), bchain hB hBB⟩

set_option maxRecDepth 100000 in
set_option maxHeartbeats 2000000 in
theorem text_2 (l d s : Nat) (w : World) (hl1 : 1 ≤ l) (hl : l ≤ 7) (hd : d ≤ 4) (hs : s ≤ 3) :
    Calls Tryd.prog 22 #[.agg #[.int .u8 l, .int .u8 d, .int .u8 2, .int .u8 s]] w fun e w' => e = .returned (.tuple #[.string ⟨(textP l d 2 s).toArray⟩, .int .i64 0]) ∧ Below w.heap.size w w' := by
  have hT : Hid (textP l d 2 s = [UInt8.ofNat (48 + l), dch d] ++ List.replicate 2 88 ++ [32, sch s]) := Lib.hid (if_neg (by omega))
  have hg := Lib.hid (rgt_mk l d 2 s hl1 hl hd (by omega) hs)
  have f0 : ((l : Int) == 0) = false := beq_eq_false_iff_ne.2 (by omega)
  have e1 : IntKind.u8.wrap (48 + (l : Int)) = 48 + (l : Int) := IntWalk.u8_in _ (by omega)
  have e2 : IntKind.u8.wrap ((s : Int) + 1) = (s : Int) + 1 := IntWalk.u8_in _ (by omega)
  have e3 : IntKind.i64.wrap 2 = 2 := by decide
  have ix := idx_d d hd
  have cs := cut_s s hs
  have ts := two_str l d hl
  go_enter Tryd.func22, Tryd.ntmps22
  go_wp2_with fail
  refine (right_any l d 2 s _).mono ?_
  rintro e w1 ⟨rfl, hb⟩
  rw [hg.out]
  have c0 := hb.cell (p := ⟨w.heap.size, 0, none⟩) (by simp)
  have c1 := hb.cell (p := ⟨w.heap.size, 1, none⟩) (by simp)
  have c2 := hb.cell (p := ⟨w.heap.size, 2, none⟩) (by simp)
  have c3 := hb.cell (p := ⟨w.heap.size, 3, none⟩) (by simp)
  simp at c0 c1 c2 c3
  have hB : Below w.heap.size w w1 := (boxT _ _).trans (hb.mono (by simp))
  clear hb
  go_wp2_with fail
  have SOF : Hid (∀ w2 : World, Below w1.heap.size w1 w2 → (w2.cell? ⟨w.heap.size, 0, none⟩ = some (.int .u8 (l : Nat)) ∧ w2.cell? ⟨w.heap.size, 1, none⟩ = some (.int .u8 (d : Nat)) ∧ w2.cell? ⟨w.heap.size, 2, none⟩ = some (.int .u8 2) ∧
      w2.cell? ⟨w.heap.size, 3, none⟩ = some (.int .u8 (s : Nat)) ∧ Below w1.heap.size w1 w2)) := Lib.hid fun _ h => ⟨keepW h c0, keepW h c1, keepW h c2, keepW h c3, h⟩
  clear c0 c1 c2 c3
  go_region_held (fun w2 => w2.cell? ⟨w.heap.size, 0, none⟩ = some (.int .u8 (l : Nat)) ∧ w2.cell? ⟨w.heap.size, 1, none⟩ = some (.int .u8 (d : Nat)) ∧ w2.cell? ⟨w.heap.size, 2, none⟩ = some (.int .u8 2) ∧
      w2.cell? ⟨w.heap.size, 3, none⟩ = some (.int .u8 (s : Nat)) ∧ Below w1.heap.size w1 w2)
    (first | exact SOF.out _ (Below.refl _ _) | exact SOF.out _ (Below.drew (by assumption : _ ∧ _ ∧ _ ∧ _ ∧ _).2.2.2.2) | exact (by assumption : _ ∧ _ ∧ _ ∧ _ ∧ _) | exact SOF.out _ (Below.drew (Below.refl _ _)) | exact SOF.out _ (bchain (by assumption : _ ∧ _ ∧ _ ∧ _ ∧ _).2.2.2.2 hb) | exact SOF.out _ (Below.alloc (by assumption : _ ∧ _ ∧ _ ∧ _ ∧ _).2.2.2.2 (Below.size (by assumption : _ ∧ _ ∧ _ ∧ _ ∧ _).2.2.2.2) _))
    (first | (go_at_call 40; (with_reducible refine (rep_2 _).mono ?_); rintro e w' ⟨rfl, hb⟩; obtain ⟨hc, hf⟩ := bcell hb))
  all_goals
    rename_i hh
    have hBB := hh.2.2.2.2
    clear hh
    go_wp2_with fail
    go_ret2
    exact ⟨ret_txt _ _ _ (by rw [hT.out]; exact tx_2 l (dch d) (sch s)), bchain hB hBB⟩

theorem text_pos (l d r s : Nat) (w : World) (hl1 : 1 ≤ l) (hl : l ≤ 7) (hd : d ≤ 4) (hr : r ≤ 2) (hs : s ≤ 3) :
    Calls Tryd.prog 22 #[.agg #[.int .u8 l, .int .u8 d, .int .u8 r, .int .u8 s]] w fun e w' => e = .returned (.tuple #[.string ⟨(textP l d r s).toArray⟩, .int .i64 0]) ∧ Below w.heap.size w w' := by
  rcases (by omega : r = 0 ∨ r = 1 ∨ r = 2) with rfl | rfl | rfl
  · exact text_0 l d s w hl1 hl hd hs
  · exact text_1 l d s w hl1 hl hd hs
  · exact text_2 l d s w hl1 hl hd hs
set_option maxHeartbeats 1000000 in
theorem text_zero (w : World) :
    Calls Tryd.prog 22 #[.agg #[.int .u8 0, .int .u8 0, .int .u8 0, .int .u8 0]] w fun e w' => e = .returned (.tuple #[.string ⟨#[112, 97, 115, 115]⟩, .int .i64 0]) ∧ Below w.heap.size w w' := by
  have hg : Hid (rgt 0 0 0 0 = true) := Lib.hid rgt_zero
  go_enter Tryd.func22, Tryd.ntmps22
  go_wp2_with fail
  refine (right_any 0 0 0 0 _).mono ?_
  rintro e w1 ⟨rfl, hb⟩
  rw [hg.out]
  have c0 := hb.cell (p := ⟨w.heap.size, 0, none⟩) (by simp)
  simp at c0
  go_wp2_with fail
  go_ret2
  exact ⟨rfl, (boxT _ _).trans (hb.mono (by simp))⟩
set_option maxHeartbeats 1000000 in
theorem text_bad (l d r s : Nat) (w : World) (hr : rgt l d r s = false) :
    Calls Tryd.prog 22 #[.agg #[.int .u8 l, .int .u8 d, .int .u8 r, .int .u8 s]] w fun e w' => e = .returned (.tuple #[.string ⟨#[]⟩, .int .i64 2]) ∧ Below w.heap.size w w' := by
  have hg := Lib.hid hr
  clear hr
  go_enter Tryd.func22, Tryd.ntmps22
  go_wp2_with fail
  refine (right_any l d r s _).mono ?_
  rintro e w1 ⟨rfl, hb⟩
  rw [hg.out]
  go_wp2_with fail
  go_ret2
  exact ⟨rfl, (boxT _ _).trans (hb.mono (by simp))⟩
/-- What Text returns. -/
def textR (l d r s : Nat) : List UInt8 × Int := if rgt l d r s = true then (textP l d r s, 0) else ([], 2)
theorem text_any (l d r s : Nat) (w : World) :
    Calls Tryd.prog 22 #[.agg #[.int .u8 l, .int .u8 d, .int .u8 r, .int .u8 s]] w fun e w' => e = .returned (.tuple #[.string ⟨(textR l d r s).1.toArray⟩, .int .i64 (textR l d r s).2]) ∧ Below w.heap.size w w' := by
  cases hr : rgt l d r s
  · have e : textR l d r s = ([], 2) := if_neg (by rw [hr]; decide)
    rw [e]
    exact text_bad l d r s w hr
  · have e : textR l d r s = (textP l d r s, 0) := if_pos hr
    rw [e]
    rcases rgt_of l d r s hr with ⟨rfl, rfl, rfl, rfl⟩ | ⟨h1, h2, h3, h4, h5⟩
    · exact text_zero w
    · exact text_pos l d r s w h1 h2 h3 h4 h5
attribute [irreducible] textP textR
end Go.Proofs.YtgmofikhndlhcaaDoor
