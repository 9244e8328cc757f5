/- JournalDoes: the walk, at the arguments as they come. -/
import Derived.Test.YtbompgfjlllioaaDoorJDoes
import Derived.Test.YtbompgfjlllioaaDoorOpenSt
namespace Go.Proofs.YtbompgfjlllioaaDoor
open Go Go.RowKit

set_option maxRecDepth 100000 in
set_option maxHeartbeats 4000000 in
theorem journalDoes_any (v : Value) (bs : List UInt8) (p : Int) (hp0 : -9223372036854775808 ≤ p) (hp1 : p ≤ 9223372036854775807) (sv : Value) (l : List (UInt8 × ByteArray × Int)) (hst : ∀ s ∈ l, -9223372036854775808 ≤ s.2.2 ∧ s.2.2 ≤ 9223372036854775807) (w : World) (he : Env w) (hB : BV w v bs) (hS : SV w sv l) :
    Calls Tryd.prog 8 #[v, .int .i64 p, sv] w (fun e w' => e = .returned (.bool true) ∧ Below w.heap.size w w') := by
  have AW := Lib.hid (fun W he => awake_any W he)
  have HE := Lib.hid he
  obtain ⟨A, cap, rfl⟩ := hB.len
  obtain ⟨AS, cS, rfl⟩ := hS.len
  by_cases h1 : 2000 < bs.length
  · have t1 : decide (2000 < (bs.length : Int)) = true := decide_eq_true (by omega)
    clear he hB hS hst
    go_enter Tryd.func8, Tryd.ntmps8
    go_wp2_with fail
    refine (AW.out _ HE.out).mono ?_
    rintro e w1 ⟨rfl, hb⟩
    go_wp2
    go_ret
    exact ⟨rfl, hb⟩
  by_cases h2 : 40 < l.length
  · have t1 : decide (2000 < (bs.length : Int)) = false := decide_eq_false (by omega)
    have t2 : decide (40 < (l.length : Int)) = true := decide_eq_true (by omega)
    clear he hB hS hst
    go_enter Tryd.func8, Tryd.ntmps8
    go_wp2_with fail
    refine (AW.out _ HE.out).mono ?_
    rintro e w1 ⟨rfl, hb⟩
    go_wp2
    go_ret
    exact ⟨rfl, hb⟩
  have t1 : decide (2000 < (bs.length : Int)) = false := decide_eq_false (by omega)
  have t2 : decide (40 < (l.length : Int)) = false := decide_eq_false (by omega)
  obtain ⟨N, hN⟩ : ∃ N, l.length = N := ⟨_, rfl⟩
  have HN := Lib.hid hN
  have HS := Lib.hid hS
  have DO := Lib.hid (fun (wx : World) (hb : Below w.heap.size w wx) (h3 : ∀ s ∈ l, s.2.1.size ≤ 300) => does_any (.slice A bs.length cap) bs (by omega) p hp0 hp1 (.slice AS l.length cS) l (by omega) (fun s hs => ⟨by have := h3 s hs; omega, hst s hs⟩) wx (he.keep hb) (hB.keep hb) (hS.keep hb))
  rw [hN] at t2 DO h2 ⊢
  clear he hB hS hst hN h1
  go_enter Tryd.func8, Tryd.ntmps8
  go_wp2_with fail
  clear t1 t2
  go_loopw [20] (fun s20 wr => ∃ k : Nat, k ≤ N ∧ s20 = .int .i64 k ∧ Hid (∀ (i : Nat) s, i < k → l[i]? = some s → s.2.1.size ≤ 300) ∧ Hid (Below w.heap.size w wr)) (fun s20 _ => N - (intOf s20).toNat)
  case atStart => exact ⟨0, Nat.zero_le _, rfl, Lib.hid (fun i s hi => absurd hi (by omega)), Lib.hid (Below.refl _ _)⟩
  case round =>
    obtain ⟨k, hk, rfl, HO, BWr⟩ := hrel
    by_cases hlt : k < N
    · have u1 : decide ((k : Int) < (N : Int)) = true := decide_eq_true (by omega)
      obtain ⟨⟨kd, tx, nv⟩, hr⟩ : ∃ r, l[k]? = some r := ⟨_, List.getElem?_eq_getElem (by rw [HN.out]; exact hlt)⟩
      obtain ⟨b, o, rfl, c0, c1, c2⟩ := (HS.out.keep BWr.out).at hr
      have HR := Lib.hid hr
      clear hr
      go_upto_region 6 with fail
      have HRw : Hid (Blk _ _ _ _) := Lib.hid (blk_new wr 54 #[.int .u8 (kd.toNat : Int), .string tx, .int .i64 nv])
      have BW1 := Lib.hid (bchain BWr.out (below1 wr (.cells #[.int .u8 (kd.toNat : Int), .string tx, .int .i64 nv] 54)))
      clear c0 c1 c2 BWr
      generalize wr.alloc (.cells #[.int .u8 (kd.toNat : Int), .string tx, .int .i64 nv] 54) = wa at *
      generalize wr.heap.size = pb at *
      have x1 : wa.cell? ⟨pb, 1, none⟩ = some (.string tx) := HRw.out.cell (j := 1) rfl
      by_cases h3 : 300 < tx.size
      · have t3 : decide (300 < (tx.size : Int)) = true := decide_eq_true (by omega)
        clear DO
        go_wp2_with fail
        refine (AW.out _ (HE.out.keep BW1.out)).mono ?_
        rintro e w1 ⟨rfl, hb⟩
        have BB := Lib.hid (bchain BW1.out hb)
        clear hb x1
        go_wp2
        go_ret
        exact ⟨rfl, BB.out⟩
      · have t3 : decide (300 < (tx.size : Int)) = false := decide_eq_false (by omega)
        have HO2 : Hid (∀ (i : Nat) s, i < k + 1 → l[i]? = some s → s.2.1.size ≤ 300) := Lib.hid (fun i s hi hs => by
          rcases Nat.lt_or_ge i k with h | h
          · exact HO.out i s h hs
          · obtain rfl : i = k := by omega
            rw [HR.out] at hs
            obtain rfl := Option.some.inj hs
            show tx.size ≤ 300
            omega)
        clear HO DO
        go_wp2_with fail
        go_roundw
        case rel => exact ⟨k + 1, by omega, by simp, HO2, BW1⟩
        case measure => simp [intOf]; omega
    · obtain rfl : k = N := by omega
      have u1 : decide ((k : Int) < (k : Int)) = false := decide_eq_false (by omega)
      have D1 := Lib.hid (DO.out wr BWr.out (fun s hs => by
        obtain ⟨i, hi⟩ := List.getElem?_of_mem hs
        exact HO.out i s (by rw [← HN.out]; exact (List.getElem?_eq_some_iff.1 hi).1) hi))
      clear DO HO
      go_wp2_with fail
      refine D1.out.mono ?_
      rintro e w1 ⟨rfl, hb⟩
      have B1 := Lib.hid (bchain BWr.out hb)
      clear hb D1
      go_wp2_with fail
      refine (AW.out _ (HE.out.keep B1.out)).mono ?_
      rintro e w2 ⟨rfl, hb⟩
      have B2 := Lib.hid (bchain B1.out hb)
      clear hb
      go_wp2
      go_ret
      exact ⟨rfl, B2.out⟩
section
open Go.ChangeShapes Go.WideShapes
theorem does_walk {v sv : Value} (p : Int) (hp : (Lit.int .i64 p).wf = true) (w : World) (he : Env w) (hB : ∃ bs, BV w v bs) (hS : ∃ l : List (UInt8 × ByteArray × Int), SV w sv l ∧ ∀ s ∈ l, -9223372036854775808 ≤ s.2.2 ∧ s.2.2 ≤ 9223372036854775807) :
    Calls Tryd.prog 8 #[v, .int .i64 p, sv] w (fun e w' => e = .returned (.bool true) ∧ Below w.heap.size w w') := by
  obtain ⟨bs, hb⟩ := hB
  obtain ⟨l, hl, hl2⟩ := hS
  have := bounds_i64 hp
  exact journalDoes_any v bs p (by omega) (by omega) sv l hl2 w he hb hl
end
end Go.Proofs.YtbompgfjlllioaaDoor
