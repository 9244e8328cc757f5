/- BoardRecords: the walk. -/
import Derived.Test.YtaadipccgckehaaGreatDoorRH
namespace Go.Proofs.YtaadipccgckehaaGreatDoor
open Go Go.RowKit Go.Shelf Pl

theorem brec_any (n k : Int) (x : Four) (hx : F64 x) (hk : -9223372036854775808 ≤ k ∧ k ≤ 9223372036854775807) (s : ByteArray) (w : World) (he : Env w) :
    Calls Tryz.prog 3 #[.agg #[.int .i64 n, .int .u64 (ofF x 0 : Nat), .int .u64 (ofF x 1 : Nat), .int .u64 (ofF x 2 : Nat), .int .u64 (ofF x 3 : Nat)], .int .i64 k, .string s] w (fun e w' => e = .returned (.bool true) ∧ Below w.heap.size w w') := by
  have HB := Lib.hid (below1 w (.cells #[.int .i64 n, .int .u64 (ofF x 0 : Nat), .int .u64 (ofF x 1 : Nat), .int .u64 (ofF x 2 : Nat), .int .u64 (ofF x 3 : Nat)] 26))
  have HE := Lib.hid he
  by_cases h : 300 < s.size
  · have t1 : decide ((300 : Int) < (s.size : Int)) = true := decide_eq_true (by omega)
    have t1b : decide (300 < s.size) = true := decide_eq_true h
    clear hx hk he h
    go_enter Tryz.func3, Tryz.ntmps3
    go_wp2_with fail
    refine (awake_any _ (HE.out.keep HB.out)).mono ?_
    rintro e w2 ⟨rfl, hb⟩
    go_wp2_with fail
    go_ret
    exact ⟨rfl, bchain HB.out hb⟩
  · have t1 : decide ((300 : Int) < (s.size : Int)) = false := decide_eq_false (by omega)
    have t1b : decide (300 < s.size) = false := decide_eq_false h
    have RC := Lib.hid (fun W hW => records_any n k (ofF x) hx hk s (by omega) W hW)
    clear hx hk he h
    go_enter Tryz.func3, Tryz.ntmps3
    go_wp2_with fail
    refine (RC.out _ (HE.out.keep HB.out)).mono ?_
    rintro e w2 ⟨rfl, hb⟩
    have HB2 := Lib.hid (bchain HB.out hb)
    clear hb
    go_wp2_with fail
    refine (awake_any _ (HE.out.keep HB2.out)).mono ?_
    rintro e w3 ⟨rfl, hb⟩
    go_wp2_with fail
    go_ret
    exact ⟨rfl, bchain HB2.out hb⟩
end Go.Proofs.YtaadipccgckehaaGreatDoor
