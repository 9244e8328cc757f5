/- Walks: the closure that adds up what one suit counts. -/
import Derived.Test.YtdebhdjcacojeaaDoorSum
import Derived.Test.YtdebhdjcacojeaaDoorQt
import Derived.Deep.QuietTactic
namespace Go.Proofs.YtdebhdjcacojeaaDoor
open Go.RowKit

theorem add_hon (m s S bs bc bm bv v0 v1 v2 v3 : Nat) (w : World) (hm : m < 18446744073709551616) (hs : s < 4) (hS : S ≤ 10000)
    (g0 : v0 ≤ 100) (g1 : v1 ≤ 100) (g2 : v2 ≤ 100) (g3 : v3 ≤ 100) (c0 : w.cell? ⟨bv, 0, none⟩ = some (.int .i64 v0)) (c1 : w.cell? ⟨bv, 1, none⟩ = some (.int .i64 v1)) (c2 : w.cell? ⟨bv, 2, none⟩ = some (.int .i64 v2)) (c3 : w.cell? ⟨bv, 3, none⟩ = some (.int .i64 v3))
    (cS : w.cell? ⟨bs, 0, none⟩ = some (.int .i64 S)) (fS : w.frozen? ⟨bs, 0, none⟩ = false)
    (cC : w.cell? ⟨bc, 0, none⟩ = some (.func (.func 49) #[] #[.pointer (some ⟨bv, 0, none⟩)])) (cM : w.cell? ⟨bm, 0, none⟩ = some (.int .u64 m)) :
    Calls Tryd.prog 48 #[.int .u8 s, .pointer (some ⟨bs, 0, none⟩), .pointer (some ⟨bc, 0, none⟩), .pointer (some ⟨bm, 0, none⟩)] w fun e w' =>
      e = .returned (.tuple #[]) ∧ ∃ n, w' = (w.setCell ⟨bs, 0, none⟩ (.int .i64 (S + Pl.hon v0 v1 v2 v3 (Pl.hold m s) : Nat))).drewN n := by
  have hh := Pl.hold_lt m s
  have hb := Pl.hon_le v0 v1 v2 v3 (Pl.hold m s)
  have e1 : IntKind.i64.wrap ((S : Int) + ((Pl.hon v0 v1 v2 v3 (Pl.hold m s) : Nat) : Int)) = ((S + Pl.hon v0 v1 v2 v3 (Pl.hold m s) : Nat) : Int) := by rw [IntKind.wrap_i64]; omega
  go_enter Tryd.func48, Tryd.ntmps48
  go_wp2
  refine region_drew_tail 7 (by kernel_rfl) (by kernel_rfl) ?_
  simp only [List.take_succ_cons, List.take_zero, List.drop_succ_cons, List.drop_zero]
  repeat (quiet_step ((first
    | (go_at_call 24; exact Calls.quiet_of ((holding_any m s _ hm hs).mono fun e w' ⟨he, hw⟩ => ⟨he, 0, hw.symm⟩))
    | (go_at_call 49; exact Calls.quiet_of (Calls.mono (hon_any (Pl.hold m s) v0 v1 v2 v3 bv _ hh g0 g1 g2 g3 (by exact c0) (by exact c1) (by exact c2) (by exact c3)) fun e w' ⟨he, hw⟩ => ⟨he, 0, hw.symm⟩)))))
  refine wpQuiet_nil ?_
  rintro w' ⟨nq, rfl⟩
  go_wp2
  go_end0
  exact ⟨rfl, _, rfl⟩

theorem add_los (m s S bs bc bm : Nat) (w : World) (hm : m < 18446744073709551616) (hs : s < 4) (hS : S ≤ 10000)
    (cS : w.cell? ⟨bs, 0, none⟩ = some (.int .i64 S)) (fS : w.frozen? ⟨bs, 0, none⟩ = false)
    (cC : w.cell? ⟨bc, 0, none⟩ = some (.func (.func 39) #[] #[])) (cM : w.cell? ⟨bm, 0, none⟩ = some (.int .u64 m)) :
    Calls Tryd.prog 48 #[.int .u8 s, .pointer (some ⟨bs, 0, none⟩), .pointer (some ⟨bc, 0, none⟩), .pointer (some ⟨bm, 0, none⟩)] w fun e w' =>
      e = .returned (.tuple #[]) ∧ ∃ n, w' = (w.setCell ⟨bs, 0, none⟩ (.int .i64 (S + Pl.los (Pl.hold m s) : Nat))).drewN n := by
  have hh := Pl.hold_lt m s
  have hb := Pl.los_le (Pl.hold m s)
  have e1 : IntKind.i64.wrap ((S : Int) + ((Pl.los (Pl.hold m s) : Nat) : Int)) = ((S + Pl.los (Pl.hold m s) : Nat) : Int) := by rw [IntKind.wrap_i64]; omega
  go_enter Tryd.func48, Tryd.ntmps48
  go_wp2
  refine region_drew_tail 7 (by kernel_rfl) (by kernel_rfl) ?_
  simp only [List.take_succ_cons, List.take_zero, List.drop_succ_cons, List.drop_zero]
  repeat (quiet_step ((first
    | (go_at_call 24; exact Calls.quiet_of ((holding_any m s _ hm hs).mono fun e w' ⟨he, hw⟩ => ⟨he, 0, hw.symm⟩))
    | (go_at_call 39; exact Calls.quiet_of (los_any (Pl.hold m s) _ hh)))))
  refine wpQuiet_nil ?_
  rintro w' ⟨nq, rfl⟩
  go_wp2
  go_end0
  exact ⟨rfl, _, rfl⟩

theorem add_qck (m s S bs bc bm : Nat) (w : World) (hm : m < 18446744073709551616) (hs : s < 4) (hS : S ≤ 10000)
    (cS : w.cell? ⟨bs, 0, none⟩ = some (.int .i64 S)) (fS : w.frozen? ⟨bs, 0, none⟩ = false)
    (cC : w.cell? ⟨bc, 0, none⟩ = some (.func (.func 41) #[] #[])) (cM : w.cell? ⟨bm, 0, none⟩ = some (.int .u64 m)) :
    Calls Tryd.prog 48 #[.int .u8 s, .pointer (some ⟨bs, 0, none⟩), .pointer (some ⟨bc, 0, none⟩), .pointer (some ⟨bm, 0, none⟩)] w fun e w' =>
      e = .returned (.tuple #[]) ∧ ∃ n, w' = (w.setCell ⟨bs, 0, none⟩ (.int .i64 (S + Pl.qck (Pl.hold m s) : Nat))).drewN n := by
  have hh := Pl.hold_lt m s
  have hb := Pl.qck_le (Pl.hold m s)
  have e1 : IntKind.i64.wrap ((S : Int) + ((Pl.qck (Pl.hold m s) : Nat) : Int)) = ((S + Pl.qck (Pl.hold m s) : Nat) : Int) := by rw [IntKind.wrap_i64]; omega
  go_enter Tryd.func48, Tryd.ntmps48
  go_wp2
  refine region_drew_tail 7 (by kernel_rfl) (by kernel_rfl) ?_
  simp only [List.take_succ_cons, List.take_zero, List.drop_succ_cons, List.drop_zero]
  repeat (quiet_step ((first
    | (go_at_call 24; exact Calls.quiet_of ((holding_any m s _ hm hs).mono fun e w' ⟨he, hw⟩ => ⟨he, 0, hw.symm⟩))
    | (go_at_call 41; exact Calls.quiet_of (qck_any (Pl.hold m s) _ hh)))))
  refine wpQuiet_nil ?_
  rintro w' ⟨nq, rfl⟩
  go_wp2
  go_end0
  exact ⟨rfl, _, rfl⟩
end Go.Proofs.YtdebhdjcacojeaaDoor
