/- The contract of KeptFracs. -/
import Derived.Test.YtfhkgpipbegpgaaGreatDoorLentB
import Derived.Deep.RegionHeld3
namespace Go.Proofs.YtfhkgpipbegpgaaGreatDoor
open Go Go.RowKit

theorem marks_at (fs : List (Int × Int)) (k : Nat) (h : fs.length ≤ k) (h' : k < fs.length + 12) : (fs ++ marks 12)[k]? = some (8000024 + ((k : Int) - (fs.length : Int)), 1) := by
  rw [List.getElem?_append_right h]
  unfold marks
  rw [List.getElem?_map, List.getElem?_range (by omega)]
  simp only [Option.map_some]
  congr 2
  omega
set_option maxRecDepth 100000 in
set_option maxHeartbeats 4000000 in
theorem kept_any (b off g : Nat) (fs : List (Int × Int)) (cap : Nat) (hn : fs.length ≤ 40) (w : World) (hR : RowF w b off fs) (hG : RowF w g 0 (fs ++ marks 12)) :
    Calls Tryz.prog 37 #[.slice (some ⟨g, 0, none⟩) fs.length (fs.length + 12 : Nat), .slice (some ⟨b, off, none⟩) fs.length cap] w (fun e w' => e = .returned (.bool true) ∧ Below w.heap.size w w') := by
  obtain ⟨N, hN⟩ : ∃ N, fs.length = N := ⟨_, rfl⟩
  have HR := Lib.hid hR
  have HG := Lib.hid hG
  have HM := Lib.hid (fun k => marks_at fs k)
  have HN := Lib.hid hN
  rw [hN] at hn ⊢ HM
  have wd : IntKind.i64.wrap ((N : Int) + 12) = (N : Int) + 12 := IntWalk.i64_in _ (by omega)
  clear hN hR hG
  go_enter Tryz.func37, Tryz.ntmps37
  go_wp2_with fail
  go_loopw [6] (fun s6 wr => ∃ k : Nat, k ≤ N + 12 ∧ s6 = .int .i64 k ∧ Below w.heap.size w wr) (fun s6 _ => N + 12 - (intOf s6).toNat)
  case atStart => exact ⟨0, by omega, rfl, Below.refl _ _⟩
  case round =>
    obtain ⟨k, hk, rfl, hb⟩ := hrel
    have HB := Lib.hid hb
    clear hb
    by_cases hlt : k < N + 12
    · have t1 : decide ((k : Int) < (N : Int) + 12) = true := decide_eq_true (by omega)
      have i1 : 0 ≤ (k : Int) := by omega
      by_cases hin : k < N
      · obtain ⟨⟨n, d⟩, hx⟩ : ∃ x, fs[k]? = some x := ⟨_, List.getElem?_eq_getElem (by rw [HN.out]; exact hin)⟩
        have c0 := (HR.out.keep HB.out).num k n d hx
        have c1 := (HR.out.keep HB.out).den k n d hx
        have hy : (fs ++ marks 12)[k]? = some (n, d) := by rw [List.getElem?_append_left (by rw [HN.out]; exact hin)]; exact hx
        have e0 := (HG.out.keep HB.out).num k n d hy
        have e1 := (HG.out.keep HB.out).den k n d hy
        rw [Nat.zero_add] at e0 e1
        have t2 : decide (k < N) = true := decide_eq_true hin
        have t3 : decide (N ≤ k) = false := decide_eq_false (by omega)
        clear hx hy
        go_wp2_with fail
        go_quiet (fail)
        have HB2 := Lib.hid (bchain HB.out (below_drewN (Below.refl _ wr) nq))
        clear c0 c1 e0 e1
        go_wp2
        go_roundw
        case rel => exact ⟨k + 1, by omega, by go_num, HB2.out⟩
        case measure => simp [intOf]; omega
      · have hx := HM.out k (by omega) (by omega)
        have e0 := (HG.out.keep HB.out).num k _ _ hx
        have e1 := (HG.out.keep HB.out).den k _ _ hx
        rw [Nat.zero_add] at e0 e1
        have t2 : decide (k < N) = false := decide_eq_false hin
        have t3 : decide (N ≤ k) = true := decide_eq_true (by omega)
        have w3 : IntKind.i64.wrap ((k : Int) - (N : Int)) = (k : Int) - (N : Int) := IntWalk.i64_in _ (by omega)
        have M1 := Lib.hid (fun W => markFrac_one ((k : Int) - (N : Int)) (by omega) W)
        clear hx
        go_wp2_with fail
        have m0 := Since.cell e0
        have m1 := Since.cell e1
        refine region_since (by kernel_rfl) (by kernel_rfl) ?_
        repeat (go_big_quiet_step ((go_at_call 63; exact Calls.since (M1.out _))))
        refine wpQuiet_nil ?_
        rintro w' ⟨u', rfl⟩
        have HB2 := Lib.hid (bchain HB.out u'.property)
        clear m0 m1 e0 e1
        generalize u'.val = w6 at *
        go_wp2
        go_roundw
        case rel => exact ⟨k + 1, by omega, by go_num, HB2.out⟩
        case measure => simp [intOf]; omega
    · obtain rfl : k = N + 12 := by omega
      have t1 : decide (((N + 12 : Nat) : Int) < (N : Int) + 12) = false := decide_eq_false (by omega)
      go_wp2
      go_ret
      exact ⟨rfl, HB.out⟩
end Go.Proofs.YtfhkgpipbegpgaaGreatDoor
