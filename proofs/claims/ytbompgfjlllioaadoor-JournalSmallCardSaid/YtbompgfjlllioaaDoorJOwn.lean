/- own: whether the disk still has what the log wrote last. -/
import Derived.Test.YtbompgfjlllioaaDoorJOpen2
import Derived.BigQuiet
import Derived.LaidEqlPtr
namespace Go.Proofs.YtbompgfjlllioaaDoor
open Go Go.RowKit

theorem info_u8 : (Tryd.prog.info? 5).map (fun i => (i.zero, i.size, i.bytes)) = some (some (.int .u8 0), 1, 1) := by kernel_rfl
set_option maxRecDepth 100000 in
set_option maxHeartbeats 1000000 in
theorem own_zero (lp dp : Nat) (rv : Value) (pow last size : Int) (closed : Bool) (A A2 : Option Addr) (c n2 c2 : Nat) (w : World) (hd : PD w dp (.slice A 0 c) pow) (h : PL w lp dp rv last size closed (.slice A2 n2 c2)) :
    Calls Tryd.prog 55 #[.pointer (some ⟨lp, 0, none⟩)] w (fun e w' => e = .returned (.bool false) ∧ ∃ q, w' = w.drewN q) := by
  have c0 := h.c0
  have c5 := h.c5
  have d0 := hd.cell (j := 0) (v := .slice A 0 c) rfl
  clear hd h
  go_enter Tryd.func55, Tryd.ntmps55
  go_wp2_with fail
  go_quiet (fail)
  go_wp2
  go_ret
  exact ⟨rfl, _, rfl⟩
set_option maxRecDepth 100000 in
set_option maxHeartbeats 1000000 in
theorem own_len (lp dp : Nat) (rv : Value) (pow last size : Int) (closed : Bool) (A A2 : Option Addr) (n c n2 c2 : Nat) (hn : 0 < n) (hne : n ≠ n2) (w : World) (hd : PD w dp (.slice A n c) pow) (h : PL w lp dp rv last size closed (.slice A2 n2 c2)) :
    Calls Tryd.prog 55 #[.pointer (some ⟨lp, 0, none⟩)] w (fun e w' => e = .returned (.bool false) ∧ ∃ q, w' = w.drewN q) := by
  have c0 := h.c0
  have c5 := h.c5
  have d0 := hd.cell (j := 0) (v := .slice A n c) rfl
  have t1 : decide (0 < (n : Int)) = true := decide_eq_true (by omega)
  have t1' : decide (0 < n) = true := decide_eq_true hn
  have t2 : ((n : Int) == (n2 : Int)) = false := beq_eq_false_iff_ne.2 (by omega)
  have t2' : (n == n2) = false := beq_eq_false_iff_ne.2 hne
  clear hd h
  go_enter Tryd.func55, Tryd.ntmps55
  go_wp2_with fail
  go_quiet (fail)
  go_wp2
  go_ret
  exact ⟨rfl, _, rfl⟩
set_option maxRecDepth 100000 in
set_option maxHeartbeats 1000000 in
theorem own_addr (lp dp : Nat) (rv : Value) (pow last size : Int) (closed : Bool) (g g2 n c c2 : Nat) (hn : 0 < n) (hne : g ≠ g2) (cur cur2 : Array Value) (w : World) (hgb : w.heap[g]? = some (.cells cur 5 (0, 0))) (hgb2 : w.heap[g2]? = some (.cells cur2 5 (0, 0))) (hd : PD w dp (.slice (some ⟨g, 0, none⟩) n c) pow) (h : PL w lp dp rv last size closed (.slice (some ⟨g2, 0, none⟩) n c2)) :
    Calls Tryd.prog 55 #[.pointer (some ⟨lp, 0, none⟩)] w (fun e w' => e = .returned (.bool false) ∧ ∃ q, w' = w.drewN q) := by
  have c0 := h.c0
  have c5 := h.c5
  have d0 := hd.cell (j := 0) (v := .slice (some ⟨g, 0, none⟩) n c) rfl
  have t1 : decide (0 < (n : Int)) = true := decide_eq_true (by omega)
  have t1' : decide (0 < n) = true := decide_eq_true hn
  have i1 : (0 : Int) < (n : Int) := by omega
  obtain ⟨j0, hj0, _, hj1, _⟩ := info_parts info_u8
  have PE : ∀ q, (binOp .eql 112 (.pointer (some ⟨g, 0, none⟩)) (.pointer (some ⟨g2, 0, none⟩))).run Tryd.prog (w.drewN q) = .ok (.bool false) (w.drewN q) := fun q =>
    run_eql_ptr_other (w.drewN q) Tryd.underlying112 hj0 (by rw [hj1]; decide) (fun h => hne (by injection h)) hgb hgb2
  have PE0 := PE 0
  rw [World.drewN_zero] at PE0
  clear hd h
  go_enter Tryd.func55, Tryd.ntmps55
  go_wp2_with fail
  go_quiet (fail)
  go_wp2
  go_ret
  exact ⟨rfl, _, rfl⟩
set_option maxRecDepth 100000 in
set_option maxHeartbeats 1000000 in
theorem own_true (lp dp : Nat) (rv : Value) (pow last size : Int) (closed : Bool) (g n c c2 : Nat) (hn : 0 < n) (w : World) (hd : PD w dp (.slice (some ⟨g, 0, none⟩) n c) pow) (h : PL w lp dp rv last size closed (.slice (some ⟨g, 0, none⟩) n c2)) :
    Calls Tryd.prog 55 #[.pointer (some ⟨lp, 0, none⟩)] w (fun e w' => e = .returned (.bool true) ∧ ∃ q, w' = w.drewN q) := by
  have c0 := h.c0
  have c5 := h.c5
  have d0 := hd.cell (j := 0) (v := .slice (some ⟨g, 0, none⟩) n c) rfl
  have t1 : decide (0 < (n : Int)) = true := decide_eq_true (by omega)
  have t1' : decide (0 < n) = true := decide_eq_true hn
  have i1 : (0 : Int) < (n : Int) := by omega
  obtain ⟨j0, hj0, _, hj1, _⟩ := info_parts info_u8
  have PE : ∀ W, (binOp .eql 112 (.pointer (some ⟨g, 0, none⟩)) (.pointer (some ⟨g, 0, none⟩))).run Tryd.prog W = .ok (.bool true) W := fun W => run_eql_ptr_same W ⟨g, 0, none⟩ Tryd.underlying112 hj0
  clear hd h
  go_enter Tryd.func55, Tryd.ntmps55
  go_wp2_with fail
  go_quiet (fail)
  go_wp2
  go_ret
  exact ⟨rfl, _, rfl⟩
end Go.Proofs.YtbompgfjlllioaaDoor
