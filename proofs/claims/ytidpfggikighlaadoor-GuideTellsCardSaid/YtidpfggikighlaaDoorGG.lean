/- GuideTells, for every movement that a world holds. -/
import Derived.Test.YtidpfggikighlaaDoorEW
namespace Go.Proofs.YtidpfggikighlaaDoor
open Go Go.RowKit

set_option maxRecDepth 100000 in
set_option maxHeartbeats 4000000 in
theorem guideTells_any (m : Mv) (v : Value) (p t : Int) (hp : inI p) (ht : inI t) (w : World) (he : Env w) (h : MV w m v) : Calls Tryd.prog 3 #[mvV m v, .int .i64 p, .int .i64 t] w (fun e w' => e = .returned (.bool true) ∧ Below w.heap.size w w') := by
  have HT := Lib.hid (fun wx (hb : Below w.heap.size w wx) => tells_any m v p t hp ht wx (he.keep hb) (h.keep hb))
  have HA := Lib.hid (fun wx (hb : Below w.heap.size w wx) => awake_any wx (he.keep hb))
  obtain ⟨A, c, rfl⟩ := h.rows.len
  obtain ⟨N, hN⟩ : ∃ N, m.rows.length = N := ⟨_, rfl⟩
  rw [hN] at HT ⊢
  clear h he hN
  unfold mvV at HT ⊢
  go_enter Tryd.func3, Tryd.ntmps3
  have B0 := Lib.hid (below1 w (.cells #[.int .i64 m.tab, .int .i64 m.rou, .int .i64 m.set, .int .i64 m.cop, .int .i64 m.win, .slice A N c] 24))
  go_wp2_with fail
  refine (HT.out _ B0.out).mono ?_
  rintro e w1 ⟨rfl, hb⟩
  have B1 := Lib.hid (bchain B0.out hb)
  clear hb B0 HT
  go_wp2_with fail
  refine (HA.out _ B1.out).mono ?_
  rintro e w2 ⟨rfl, hb⟩
  have B2 := Lib.hid (bchain B1.out hb)
  clear hb B1 HA
  go_wp2_with fail
  go_ret
  exact ⟨rfl, B2.out⟩
end Go.Proofs.YtidpfggikighlaaDoor
