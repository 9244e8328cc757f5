/- Entries as values and in memory. -/
import Derived.Test.YtpkmibmombpjpaaGreatDoorEtP
import Derived.Test.YtpkmibmombpjpaaGreatDoorOwn
import Derived.WalkSmall
import Derived.IntWalk
import Derived.Deep.QuietTactic
import Derived.BigQuiet
import Derived.Deep.CutBlock
import Derived.Deep.DeepCutAuto
namespace Go.Proofs.YtpkmibmombpjpaaGreatDoor
open Go Go.RowKit

theorem ret_bool {a b : Bool} (h : a = b) : Ending.returned (.bool a) = .returned (.bool b) := by rw [h]
def ouL (o : Ou) : List Value := [.int .u8 (o.lv : Int), .int .u8 (o.dn : Int), .int .u8 (o.rk : Int), .int .u8 (o.dc : Int), .int .i64 o.tr, .int .i64 o.wt]
def enL (e : En) : List Value := [.int .i64 e.rd, .int .i64 e.tb, .int .i64 e.bd, .int .i64 e.vs, .int .u8 (e.kd : Int), .int .u8 (e.fd : Int), .bool e.tn] ++ (ouL e.o0 ++ (ouL e.o1 ++ (ouL e.o2 ++ (ouL e.o3 ++ [.int .i64 e.a0, .int .i64 e.a1]))))
/-- An entry as cells. -/
def enC (e : En) : Array Value := (enL e).toArray
theorem enC_size (e : En) : (enC e).size = 33 := rfl
theorem enC_rd (e : En) : (enC e)[0]? = some (.int .i64 e.rd) := rfl
theorem enC_tb (e : En) : (enC e)[1]? = some (.int .i64 e.tb) := rfl
theorem enC_bd (e : En) : (enC e)[2]? = some (.int .i64 e.bd) := rfl
theorem enC_vs (e : En) : (enC e)[3]? = some (.int .i64 e.vs) := rfl
theorem enC_kd (e : En) : (enC e)[4]? = some (.int .u8 (e.kd : Int)) := rfl
theorem enC_fd (e : En) : (enC e)[5]? = some (.int .u8 (e.fd : Int)) := rfl
theorem enC_tn (e : En) : (enC e)[6]? = some (.bool e.tn) := rfl
theorem enC_a0 (e : En) : (enC e)[31]? = some (.int .i64 e.a0) := rfl
theorem enC_a1 (e : En) : (enC e)[32]? = some (.int .i64 e.a1) := rfl
theorem enC_ou (e : En) (i : Nat) (hi : i < 4) : (enC e)[7 + 6 * i]? = some (.int .u8 ((e.ou i).lv : Int)) ∧ (enC e)[8 + 6 * i]? = some (.int .u8 ((e.ou i).dn : Int)) ∧ (enC e)[9 + 6 * i]? = some (.int .u8 ((e.ou i).rk : Int)) ∧
    (enC e)[10 + 6 * i]? = some (.int .u8 ((e.ou i).dc : Int)) ∧ (enC e)[11 + 6 * i]? = some (.int .i64 (e.ou i).tr) ∧ (enC e)[12 + 6 * i]? = some (.int .i64 (e.ou i).wt) := by
  rcases (by omega : i = 0 ∨ i = 1 ∨ i = 2 ∨ i = 3) with rfl | rfl | rfl | rfl <;> exact ⟨rfl, rfl, rfl, rfl, rfl, rfl⟩
theorem enC_inj {a b : En} (h : enC a = enC b) : a = b := by
  apply En.ext_nums
  have h := congrArg Array.toList h
  simp only [enC, enL, ouL, List.cons_append, List.nil_append, List.cons.injEq, Value.int.injEq, true_and, Value.bool.injEq, and_true] at h
  simp only [En.nums, Ou.nums, List.cons_append, List.nil_append, List.cons.injEq, and_true]
  simp [h]
/-- The four outcomes. -/
def ou4 (e : En) : Array Value := (ouL e.o0 ++ (ouL e.o1 ++ (ouL e.o2 ++ ouL e.o3))).toArray
theorem ou4_get (e : En) : ∀ j v, (ou4 e)[j]? = some v → (enC e)[7 + j]? = some v := by
  intro j v hj
  unfold ou4 at hj
  unfold enC enL
  rw [List.getElem?_toArray] at hj ⊢
  have hlt : j < 24 := (List.getElem?_eq_some_iff.1 hj).1
  rw [List.getElem?_append_right (by simp)]
  simp only [List.length_cons, List.length_nil]
  rw [show 7 + j - (0 + 1 + 1 + 1 + 1 + 1 + 1 + 1) = j by omega]
  rw [show ouL e.o0 ++ (ouL e.o1 ++ (ouL e.o2 ++ (ouL e.o3 ++ [Value.int .i64 e.a0, .int .i64 e.a1]))) = (ouL e.o0 ++ (ouL e.o1 ++ (ouL e.o2 ++ ouL e.o3))) ++ [Value.int .i64 e.a0, .int .i64 e.a1] by simp, List.getElem?_append_left hlt]
  exact hj
theorem ou4_size (e : En) : (ou4 e).size = 24 := rfl
theorem ix_ou (e : En) (i : Nat) (hi : i < 4) (w : World) : (Instr.index 31 (.agg (ou4 e)) (.int .i64 (i : Int))).run Tryz.prog w = .ok (.agg #[.int .u8 ((e.ou i).lv : Int), .int .u8 ((e.ou i).dn : Int), .int .u8 ((e.ou i).rk : Int), .int .u8 ((e.ou i).dc : Int), .int .i64 (e.ou i).tr, .int .i64 (e.ou i).wt]) w := by
  rcases (by omega : i = 0 ∨ i = 1 ∨ i = 2 ∨ i = 3) with rfl | rfl | rfl | rfl
  · show _ = Result.ok (Value.agg (ouL e.o0).toArray) w
    unfold ou4
    generalize e.o0 = a
    generalize e.o1 = b
    generalize e.o2 = c
    generalize e.o3 = d
    unfold ouL
    kernel_rfl
  · show _ = Result.ok (Value.agg (ouL e.o1).toArray) w
    unfold ou4
    generalize e.o0 = a
    generalize e.o1 = b
    generalize e.o2 = c
    generalize e.o3 = d
    unfold ouL
    kernel_rfl
  · show _ = Result.ok (Value.agg (ouL e.o2).toArray) w
    unfold ou4
    generalize e.o0 = a
    generalize e.o1 = b
    generalize e.o2 = c
    generalize e.o3 = d
    unfold ouL
    kernel_rfl
  · show _ = Result.ok (Value.agg (ouL e.o3).toArray) w
    unfold ou4
    generalize e.o0 = a
    generalize e.o1 = b
    generalize e.o2 = c
    generalize e.o3 = d
    unfold ouL
    kernel_rfl
attribute [irreducible] enC ou4
/-- Numbers as cells. -/
def nuC (l : List Int) : Array Value := (l.map (Value.int .i64)).toArray
theorem nuC_get {l : List Int} {i : Nat} {n : Int} (h : l[i]? = some n) : (nuC l)[i]? = some (.int .i64 n) := by simp [nuC, h]
theorem nuC_size (l : List Int) : (nuC l).size = l.length := by simp [nuC]
attribute [irreducible] nuC
def cmpI (a b : Int) : Int := if a < b then -1 else if b < a then 1 else 0
set_option maxRecDepth 100000 in
theorem cmpI_any (a b : Int) (w : World) : Calls Tryz.prog 91 #[.int .i64 a, .int .i64 b] w (fun e w' => e = .returned (.int .i64 (cmpI a b)) ∧ w = w') := by
  have NA : ∀ (a : Int) (w : World), Calls Tryz.prog 132 #[.int .i64 a] w (fun e w' => e = .returned (.bool false) ∧ w = w') := by
    intro a w
    have h1 : (a == a) = true := beq_self_eq_true a
    have h2 : (a != a) = false := by rw [bne, h1]; rfl
    go_enter Tryz.func132, Tryz.ntmps132
    go_wp2
    go_ret
    exact ⟨rfl, rfl⟩
  have N1 := Lib.hid NA
  clear NA
  obtain ⟨c, hc⟩ : ∃ c, cmpI a b = c := ⟨_, rfl⟩
  rw [hc]
  have HC := Lib.hid hc
  by_cases h1 : a < b
  · have t1 : decide (a < b) = true := decide_eq_true h1
    have HX : Hid (c = -1) := Lib.hid (by rw [← hc]; unfold cmpI; rw [if_pos h1])
    clear hc HC h1
    go_enter Tryz.func91, Tryz.ntmps91
    go_wp2_with (go_at_call 132; refine (N1.out _ _).mono ?_; rintro e w' ⟨rfl, rfl⟩)
    go_ret
    exact ⟨by rw [HX.out]; rfl, rfl⟩
  · have t1 : decide (a < b) = false := decide_eq_false h1
    by_cases h2 : b < a
    · have t2 : decide (b < a) = true := decide_eq_true h2
      have HX : Hid (c = 1) := Lib.hid (by rw [← hc]; unfold cmpI; rw [if_neg h1, if_pos h2])
      clear hc HC h1 h2
      go_enter Tryz.func91, Tryz.ntmps91
      go_wp2_with (go_at_call 132; refine (N1.out _ _).mono ?_; rintro e w' ⟨rfl, rfl⟩)
      go_ret
      exact ⟨by rw [HX.out]; rfl, rfl⟩
    · have t2 : decide (b < a) = false := decide_eq_false h2
      have HX : Hid (c = 0) := Lib.hid (by rw [← hc]; unfold cmpI; rw [if_neg h1, if_neg h2])
      clear hc HC h1 h2
      go_enter Tryz.func91, Tryz.ntmps91
      go_wp2_with (go_at_call 132; refine (N1.out _ _).mono ?_; rintro e w' ⟨rfl, rfl⟩)
      go_ret
      exact ⟨by rw [HX.out]; rfl, rfl⟩
def or3 (a b c : Int) : Int := if a ≠ 0 then a else if b ≠ 0 then b else c
set_option maxRecDepth 100000 in
theorem or3_any (a b c : Int) (p : Nat) (w : World) (h : Blk w p 3 #[.int .i64 a, .int .i64 b, .int .i64 c]) : Calls Tryz.prog 90 #[.slice (some ⟨p, 0, none⟩) 3 3] w (fun e w' => e = .returned (.int .i64 (or3 a b c)) ∧ w = w') := by
  have x0 := h.cell (j := 0) (v := .int .i64 a) rfl
  have x1 := h.cell (j := 1) (v := .int .i64 b) rfl
  have x2 := h.cell (j := 2) (v := .int .i64 c) rfl
  obtain ⟨r, hr⟩ : ∃ r, or3 a b c = r := ⟨_, rfl⟩
  rw [hr]
  clear h
  by_cases h1 : a = 0
  · by_cases h2 : b = 0
    · by_cases h3 : c = 0
      · have t1 : (a != 0) = false := by simp [h1]
        have t2 : (b != 0) = false := by simp [h2]
        have t3 : (c != 0) = false := by simp [h3]
        have HX : Hid (r = 0) := Lib.hid (by rw [← hr]; unfold or3; rw [if_neg (by simp [h1]), if_neg (by simp [h2])]; exact h3)
        clear hr h1 h2 h3
        go_enter Tryz.func90, Tryz.ntmps90
        go_wp2_with fail
        refine wp_loop_rounds 4 ?_
        rw [rounds_succ]
        go_wp2_with fail
        rw [rounds_succ]
        go_wp2_with fail
        rw [rounds_succ]
        go_wp2_with fail
        rw [rounds_succ]
        go_wp2_with fail
        go_ret
        exact ⟨by rw [HX.out]; rfl, rfl⟩
      · have t1 : (a != 0) = false := by simp [h1]
        have t2 : (b != 0) = false := by simp [h2]
        have t3 : (c != 0) = true := by simp [h3]
        have HX : Hid (r = c) := Lib.hid (by rw [← hr]; unfold or3; rw [if_neg (by simp [h1]), if_neg (by simp [h2])])
        clear hr h1 h2 h3
        go_enter Tryz.func90, Tryz.ntmps90
        go_wp2_with fail
        refine wp_loop_rounds 4 ?_
        rw [rounds_succ]
        go_wp2_with fail
        rw [rounds_succ]
        go_wp2_with fail
        rw [rounds_succ]
        go_wp2_with fail
        go_ret
        exact ⟨by rw [HX.out]; rfl, rfl⟩
    · have t1 : (a != 0) = false := by simp [h1]
      have t2 : (b != 0) = true := by simp [h2]
      have HX : Hid (r = b) := Lib.hid (by rw [← hr]; unfold or3; rw [if_neg (by simp [h1]), if_pos h2])
      clear hr h1 h2
      go_enter Tryz.func90, Tryz.ntmps90
      go_wp2_with fail
      refine wp_loop_rounds 4 ?_
      rw [rounds_succ]
      go_wp2_with fail
      rw [rounds_succ]
      go_wp2_with fail
      go_ret
      exact ⟨by rw [HX.out]; rfl, rfl⟩
  · have t1 : (a != 0) = true := by simp [h1]
    have HX : Hid (r = a) := Lib.hid (by rw [← hr]; unfold or3; rw [if_pos h1])
    clear hr h1
    go_enter Tryz.func90, Tryz.ntmps90
    go_wp2_with fail
    refine wp_loop_rounds 4 ?_
    rw [rounds_succ]
    go_wp2_with fail
    go_ret
    exact ⟨by rw [HX.out]; rfl, rfl⟩
attribute [irreducible] cmpI or3
theorem cmpI_eq (a b : Int) : cmpI a b = if a < b then -1 else if b < a then 1 else 0 := by unfold cmpI; rfl
theorem or3_eq (a b c : Int) : or3 a b c = if a ≠ 0 then a else if b ≠ 0 then b else c := by unfold or3; rfl
theorem or3_key (a b : En) : or3 (cmpI a.rd b.rd) (cmpI a.tb b.tb) (cmpI a.bd b.bd) = cmpK a b := by
  rw [or3_eq]
  simp only [cmpI_eq, cmpK, lexC]
  grind
end Go.Proofs.YtpkmibmombpjpaaGreatDoor
