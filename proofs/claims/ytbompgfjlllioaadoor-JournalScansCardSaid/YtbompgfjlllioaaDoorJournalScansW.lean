/- JournalScans: the walk. -/
import Derived.Test.YtbompgfjlllioaaDoorJScans
namespace Go.Proofs.YtbompgfjlllioaaDoor
open Go Go.RowKit

set_option maxRecDepth 100000 in
set_option maxHeartbeats 2000000 in
theorem journalScans_any (v : Value) (bs : List UInt8) (x : Int) (s : ByteArray) (w : World) (he : Env w) (hB : BV w v bs) :
    Calls Tryd.prog 6 #[v, .int .i64 x, .string s] w (fun e w' => e = .returned (.bool true) ∧ Below w.heap.size w w') := by
  have AW := Lib.hid (fun W he => awake_any W he)
  have HE := Lib.hid he
  by_cases h1 : 3000 < bs.length
  · obtain ⟨A, cap, rfl⟩ := hB.len
    have t1 : decide (3000 < (bs.length : Int)) = true := decide_eq_true (by omega)
    clear he hB
    go_enter Tryd.func6, Tryd.ntmps6
    go_wp2_with fail
    refine (AW.out _ HE.out).mono ?_
    rintro e w1 ⟨rfl, hb⟩
    go_wp2
    go_ret
    exact ⟨rfl, hb⟩
  by_cases h2 : 300 < s.size
  · obtain ⟨A, cap, rfl⟩ := hB.len
    have t1 : decide (3000 < (bs.length : Int)) = false := decide_eq_false (by omega)
    have t2 : decide (300 < (s.size : Int)) = true := decide_eq_true (by omega)
    clear he hB
    go_enter Tryd.func6, Tryd.ntmps6
    go_wp2_with fail
    refine (AW.out _ HE.out).mono ?_
    rintro e w1 ⟨rfl, hb⟩
    go_wp2
    go_ret
    exact ⟨rfl, hb⟩
  · have SC := Lib.hid (scans_any v bs (by omega) x s (by omega) w he hB)
    obtain ⟨A, cap, rfl⟩ := hB.len
    have t1 : decide (3000 < (bs.length : Int)) = false := decide_eq_false (by omega)
    have t2 : decide (300 < (s.size : Int)) = false := decide_eq_false (by omega)
    clear he hB
    go_enter Tryd.func6, Tryd.ntmps6
    go_wp2_with fail
    refine SC.out.mono ?_
    rintro e w1 ⟨rfl, hb⟩
    have B1 := Lib.hid hb
    clear hb
    go_wp2_with fail
    refine (AW.out _ (HE.out.keep B1.out)).mono ?_
    rintro e w2 ⟨rfl, hb⟩
    go_wp2
    go_ret
    exact ⟨rfl, bchain B1.out hb⟩
theorem journalScans_walk {v : Value} (x : Int) (s : ByteArray) (w : World) (he : Env w) (hB : ∃ bs, BV w v bs) :
    Calls Tryd.prog 6 #[v, .int .i64 x, .string s] w (fun e w' => e = .returned (.bool true) ∧ Below w.heap.size w w') := by
  obtain ⟨bs, hB⟩ := hB
  exact journalScans_any v bs x s w he hB
end Go.Proofs.YtbompgfjlllioaaDoor
