/- Disks: legal, cut; the reference's cut is in a text of its own. -/
import Derived.Test.YtbompgfjlllioaaDoorJRScan
namespace Go.Proofs.YtbompgfjlllioaaDoor
open Go Go.RowKit

set_option maxRecDepth 100000 in
theorem legal_nil (w : World) : Calls Tryd.prog 32 #[.pointer none] w (fun e w' => e = .returned (.int .i64 1) ∧ w = w') := by
  go_enter Tryd.func32, Tryd.ntmps32
  go_wp2
  go_ret
  exact ⟨rfl, rfl⟩
def legalP (n : Nat) : Int := if 1048576 < n then 3 else 0
set_option maxRecDepth 100000 in
theorem legal_any (dp : Nat) (A : Option Addr) (n cap : Nat) (pow : Int) (hn : n ≤ 100000000) (w : World) (h : Blk w dp 28 #[.slice A n cap, .int .i64 pow]) :
    Calls Tryd.prog 32 #[.pointer (some ⟨dp, 0, none⟩)] w (fun e w' => e = .returned (.int .i64 (legalP n)) ∧ w = w') := by
  have c0 := h.cell (j := 0) (v := .slice A n cap) rfl
  clear h
  by_cases hl : 1048576 < n
  · have HP : Hid (legalP n = 3) := Lib.hid (if_pos hl)
    have t1 : decide (1048576 < (n : Int)) = true := decide_eq_true (by omega)
    have t2 : decide (1048576 < n) = true := decide_eq_true hl
    clear hl
    go_enter Tryd.func32, Tryd.ntmps32
    go_wp2
    go_ret
    exact ⟨by rw [HP.out]; rfl, rfl⟩
  · have HP : Hid (legalP n = 0) := Lib.hid (if_neg hl)
    have t1 : decide (1048576 < (n : Int)) = false := decide_eq_false (by omega)
    have t2 : decide (1048576 < n) = false := decide_eq_false hl
    clear hl
    go_enter Tryd.func32, Tryd.ntmps32
    go_wp2
    go_ret
    exact ⟨by rw [HP.out]; rfl, rfl⟩
section
variable (dp : Nat) (A : Option Addr) (n cap size : Nat) (pow : Int) (w : World)
set_option maxRecDepth 100000 in
theorem cut_same (h : Blk w dp 28 #[.slice A n cap, .int .i64 pow]) :
    Calls Tryd.prog 34 #[.pointer (some ⟨dp, 0, none⟩), .int .i64 n] w (fun e w' => e = .returned (.int .i64 0) ∧ w = w') := by
  have c0 := h.cell (j := 0) (v := .slice A n cap) rfl
  clear h
  go_enter Tryd.func34, Tryd.ntmps34
  go_wp2
  go_ret
  exact ⟨rfl, rfl⟩
set_option maxRecDepth 100000 in
theorem cut_none (hs : size < n) (h : Blk w dp 28 #[.slice A n cap, .int .i64 0]) :
    Calls Tryd.prog 34 #[.pointer (some ⟨dp, 0, none⟩), .int .i64 size] w (fun e w' => e = .returned (.int .i64 420) ∧ w = w') := by
  have c0 := h.cell (j := 0) (v := .slice A n cap) rfl
  have c1 := h.cell (j := 1) (v := .int .i64 0) rfl
  have t1 : ((size : Int) == (n : Int)) = false := beq_eq_false_iff_ne.2 (by omega)
  have t2 : (size == n) = false := beq_eq_false_iff_ne.2 (by omega)
  clear h
  go_enter Tryd.func34, Tryd.ntmps34
  go_wp2
  go_ret
  exact ⟨rfl, rfl⟩
/-- The power behind a byte that is written, or a cut. -/
def lessP (pow : Int) : Int := if 0 < pow then pow - 1 else pow
set_option maxRecDepth 100000 in
set_option maxHeartbeats 1000000 in
theorem cut_done (a : Addr) (hs : size < n) (hcap : n ≤ cap) (hp : pow ≠ 0) (hp0 : -9223372036854775808 ≤ pow) (hp1 : pow ≤ 9223372036854775807) (h : Blk w dp 28 #[.slice (some a) n cap, .int .i64 pow]) :
    Calls Tryd.prog 34 #[.pointer (some ⟨dp, 0, none⟩), .int .i64 size] w (fun e w' => e = .returned (.int .i64 0) ∧ Blk w' dp 28 #[.slice (some a) size size, .int .i64 (lessP pow)] ∧ w.grownBy w' (some dp)) := by
  have c0 := h.cell (j := 0) (v := .slice (some a) n cap) rfl
  have c1 := h.cell (j := 1) (v := .int .i64 pow) rfl
  have f0 := h.free 0
  have f1 := h.free 1
  have HB := Lib.hid h
  have t1 : ((size : Int) == (n : Int)) = false := beq_eq_false_iff_ne.2 (by omega)
  have t2 : (size == n) = false := beq_eq_false_iff_ne.2 (by omega)
  have t3 : (pow == 0) = false := beq_eq_false_iff_ne.2 hp
  have i1 : (size : Int) ≤ (cap : Int) := by omega
  have i2 : size ≤ cap := by omega
  have i3 : (0 : Int) ≤ (size : Int) := by omega
  clear h hs hcap
  by_cases hpos : 0 < pow
  · have t4 : decide (0 < pow) = true := decide_eq_true hpos
    have HL : Hid (lessP pow = pow - 1) := Lib.hid (if_pos hpos)
    have w1 : IntKind.i64.wrap (pow - 1) = pow - 1 := IntWalk.i64_in _ (by omega)
    clear hpos hp
    go_enter Tryd.func34, Tryd.ntmps34
    go_wp2
    go_ret
    refine ⟨rfl, ?_, ?_⟩
    · rw [HL.out]; exact (HB.out.set 1 _).set 0 _
    · exact World.grownBy.trans (grown_set _ _ _ _) (grown_set _ _ _ _)
  · have t4 : decide (0 < pow) = false := decide_eq_false hpos
    have HL : Hid (lessP pow = pow) := Lib.hid (if_neg hpos)
    clear hpos hp
    go_enter Tryd.func34, Tryd.ntmps34
    go_wp2
    go_ret
    refine ⟨rfl, ?_, ?_⟩
    · rw [HL.out]; exact HB.out.set 0 _
    · exact grown_set _ _ _ _
end
end Go.Proofs.YtbompgfjlllioaaDoor
