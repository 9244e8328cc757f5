/- Two deals: the program's changes are the reference's. -/
import Derived.Test.YtaadipccgckehaaGreatDoorCH
import Derived.Test.YtaadipccgckehaaGreatDoorCL
import Derived.BigQuiet
import Derived.Deep.QuietTactic
namespace Go.Proofs.YtaadipccgckehaaGreatDoor
open Go Go.RowKit Pl

theorem chVs_at (D E : Nat → Nat) : ∀ (l : List Nat) (i c : Nat), l[i]? = some c → (chVs D E l)[i * 3]? = some (.int .u8 (c : Nat)) ∧ (chVs D E l)[i * 3 + 1]? = some (.int .u8 (owner D c : Nat)) ∧ (chVs D E l)[i * 3 + 2]? = some (.int .u8 (owner E c : Nat))
  | [], i, c, h => by simp at h
  | x :: l, 0, c, h => by
    obtain rfl : x = c := by simpa using h
    exact ⟨rfl, rfl, rfl⟩
  | x :: l, i + 1, c, h => by
    have ih := chVs_at D E l i c (by simpa using h)
    have e : chVs D E (x :: l) = chV D E x ++ chVs D E l := by simp [chVs]
    have hl : (chV D E x).length = 3 := rfl
    rw [e, show (i + 1) * 3 = (chV D E x).length + i * 3 by rw [hl]; omega, Nat.add_assoc, Nat.add_assoc, List.getElem?_append_right (by omega), List.getElem?_append_right (by omega), List.getElem?_append_right (by omega), Nat.add_sub_cancel_left, Nat.add_sub_cancel_left, Nat.add_sub_cancel_left]
    exact ih
/-- A slice of changes. -/
def ChS (W : World) (D E : Nat → Nat) (A : Option Addr) (l : List Nat) : Prop := ∀ i c, l[i]? = some c → ∃ g, A = some ⟨g, 0, none⟩ ∧ g < W.heap.size ∧ W.cell? ⟨g, i * 3, none⟩ = some (.int .u8 (c : Nat)) ∧ W.cell? ⟨g, i * 3 + 1, none⟩ = some (.int .u8 (owner D c : Nat)) ∧ W.cell? ⟨g, i * 3 + 2, none⟩ = some (.int .u8 (owner E c : Nat))
theorem ChS.keep {W W' : World} {D E : Nat → Nat} {A : Option Addr} {l : List Nat} (h : ChS W D E A l) (hb : Below W.heap.size W W') : ChS W' D E A l := fun i c hi => by
  obtain ⟨g, rfl, hg, h0, h1, h2⟩ := h i c hi
  exact ⟨g, rfl, Nat.lt_of_lt_of_le hg hb.size, cell_keep h0 hb, cell_keep h1 hb, cell_keep h2 hb⟩
theorem chs_of {W : World} {B c : Nat} {t : TypeId} {A : Option Addr} {D E : Nat → Nat} {l : List Nat} (h : W.ownsRow B t 3 (.slice A l.length c) l.length (chVs D E l)) : ChS W D E A l := fun i x hi => by
  have hlt := (List.getElem?_eq_some_iff.1 hi).1
  obtain ⟨g, cap, e2, _, _⟩ := own_some h (by omega)
  injection e2 with e3 _ _
  subst e3
  have hc := h.cells (g := g) rfl
  obtain ⟨h0, h1, h2⟩ := chVs_at D E l i x hi
  have k0 := hc _ _ h0
  have k1 := hc _ _ h1
  have k2 := hc _ _ h2
  rw [add_at, Nat.zero_add] at k0 k1 k2
  exact ⟨g, rfl, World.block_lt_of_cell? W _ k0, k0, k1, k2⟩
theorem chg_parts {t : TypeId} {w w' : World} {D E : Nat → Nat} {e : Ending} (h : RetChg t w D E e w') : Below w.heap.size w w' ∧ ((bothR D E = false ∧ e = .returned (.tuple #[.slice none 0 0, .int .i64 60])) ∨ (bothR D E = true ∧ ∃ A c, e = .returned (.tuple #[.slice A (chg D E 52).length c, .int .i64 0]) ∧ ChS w' D E A (chg D E 52))) := by
  unfold RetChg at h
  obtain ⟨hb, hr⟩ := h
  refine ⟨hb, ?_⟩
  rcases hB : bothR D E with _ | _
  · rw [hB] at hr
    exact .inl ⟨rfl, hr⟩
  · rw [if_pos hB] at hr
    obtain ⟨A, c, he, ho⟩ := hr
    exact .inr ⟨rfl, A, c, he, chs_of ho⟩
set_option maxRecDepth 100000 in
set_option maxHeartbeats 4000000 in
theorem differs_any (D E : Nat → Nat) (hD : D64 D) (hE : D64 E) (w : World) :
    Calls Tryz.prog 15 #[.agg #[.int .u64 (D 0 : Nat), .int .u64 (D 1 : Nat), .int .u64 (D 2 : Nat), .int .u64 (D 3 : Nat)], .agg #[.int .u64 (E 0 : Nat), .int .u64 (E 1 : Nat), .int .u64 (E 2 : Nat), .int .u64 (E 3 : Nat)]] w (fun e w' => e = .returned (.bool true) ∧ Below w.heap.size w w') := by
  have C1 := Lib.hid (fun W => changes_any D E hD hE W)
  have C2 := Lib.hid (fun W => rchanges_any D E hD hE W)
  have BX := Lib.hid (boxes (w := w) (D := D) (E := E) 24)
  rw [show dC D = #[.int .u64 (D 0 : Nat), .int .u64 (D 1 : Nat), .int .u64 (D 2 : Nat), .int .u64 (D 3 : Nat)] from rfl, show dC E = #[.int .u64 (E 0 : Nat), .int .u64 (E 1 : Nat), .int .u64 (E 2 : Nat), .int .u64 (E 3 : Nat)] from rfl] at BX
  clear hD hE
  go_enter Tryz.func15, Tryz.ntmps15
  go_upto_region 1 with fail
  generalize (w.alloc (.cells #[.int .u64 (D 0 : Nat), .int .u64 (D 1 : Nat), .int .u64 (D 2 : Nat), .int .u64 (D 3 : Nat)] 24)).alloc (.cells #[.int .u64 (E 0 : Nat), .int .u64 (E 1 : Nat), .int .u64 (E 2 : Nat), .int .u64 (E 3 : Nat)] 24) = W1 at *
  obtain ⟨ba, bb, bw⟩ := BX.out
  have a0 := ba.cell (j := 0) rfl
  have a1 := ba.cell (j := 1) rfl
  have a2 := ba.cell (j := 2) rfl
  have a3 := ba.cell (j := 3) rfl
  have b0 := bb.cell (j := 0) rfl
  have b1 := bb.cell (j := 1) rfl
  have b2 := bb.cell (j := 2) rfl
  have b3 := bb.cell (j := 3) rfl
  have BA := Lib.hid ba
  have BB := Lib.hid bb
  have BW := Lib.hid bw
  clear ba bb bw BX
  go_wp2_with fail
  refine (C1.out _).mono ?_
  rintro e w1 hr1
  obtain ⟨hb, hc1⟩ := chg_parts hr1
  have B1 := Lib.hid (bchain BW.out hb)
  have BA1 := Lib.hid (BA.out.keep hb BA.out.lt)
  have BB1 := Lib.hid (BB.out.keep hb BB.out.lt)
  clear hb a0 a1 a2 a3 b0 b1 b2 b3 BA BB BW C1 hr1
  have a0 := BA1.out.cell (j := 0) rfl
  have a1 := BA1.out.cell (j := 1) rfl
  have a2 := BA1.out.cell (j := 2) rfl
  have a3 := BA1.out.cell (j := 3) rfl
  have b0 := BB1.out.cell (j := 0) rfl
  have b1 := BB1.out.cell (j := 1) rfl
  have b2 := BB1.out.cell (j := 2) rfl
  have b3 := BB1.out.cell (j := 3) rfl
  rcases hc1 with ⟨hB, rfl⟩ | ⟨hB, A, c, rfl, hs⟩
  · have HB := Lib.hid hB
    clear hB BA1 BB1
    go_wp2_with fail
    refine (C2.out _).mono ?_
    rintro e w2 hr2
    obtain ⟨hb, hc2⟩ := chg_parts hr2
    have B2 := Lib.hid (bchain B1.out hb)
    clear hb hr2 C2 a0 a1 a2 a3 b0 b1 b2 b3
    rcases hc2 with ⟨_, rfl⟩ | ⟨hB, _⟩
    rotate_left
    · rw [HB.out] at hB; cases hB
    go_wp2_with fail
    refine wp_loop_rounds 1 ?_
    rw [rounds_succ]
    go_wp2_with fail
    go_ret
    exact ⟨rfl, B2.out⟩
  · have HB := Lib.hid hB
    have HS := Lib.hid hs
    obtain ⟨l, hl⟩ : ∃ l, chg D E 52 = l := ⟨_, rfl⟩
    have hlen := chg_len D E 52
    have HL := Lib.hid hl
    rw [hl] at HS hlen ⊢
    clear hB BA1 BB1 hs hl
    go_wp2_with fail
    refine (C2.out _).mono ?_
    rintro e w2 hr2
    obtain ⟨hb, hc2⟩ := chg_parts hr2
    have B2 := Lib.hid (bchain B1.out hb)
    have HS1 := Lib.hid (HS.out.keep hb)
    clear hb hr2 C2 a0 a1 a2 a3 b0 b1 b2 b3 HS
    rcases hc2 with ⟨hB, _⟩ | ⟨_, A2, c2, rfl, hs2⟩
    · rw [HB.out] at hB; cases hB
    rw [HL.out] at hs2 ⊢
    have HS2 := Lib.hid hs2
    clear hs2 HB HL
    obtain ⟨M, hM⟩ : ∃ M, l.length = M := ⟨_, rfl⟩
    have HM := Lib.hid hM
    rw [hM] at hlen ⊢
    clear hM
    go_wp2_with fail
    go_loopw [35] (fun s35 wr => ∃ i : Nat, i ≤ M ∧ s35 = .int .i64 (i : Int) ∧ Hid (Below w2.heap.size w2 wr)) (fun s35 _ => M - (intOf s35).toNat)
    case atStart => exact ⟨0, by omega, rfl, Lib.hid (Below.refl _ _)⟩
    case round =>
      obtain ⟨i, hi, rfl, HBW⟩ := hrel
      by_cases hlt : i < M
      · have u1 : decide ((i : Int) < (M : Int)) = true := decide_eq_true (by omega)
        have u2 : decide (i < M) = true := decide_eq_true hlt
        obtain ⟨x, hx⟩ : ∃ x, l[i]? = some x := ⟨_, List.getElem?_eq_getElem (by rw [HM.out]; exact hlt)⟩
        have h1 := HS1.out.keep HBW.out i x hx
        have h2 := HS2.out.keep HBW.out i x hx
        obtain ⟨g, rfl, hg, k0, k1, k2⟩ := h1
        obtain ⟨g2, rfl, hg2, m0, m1, m2⟩ := h2
        have e2 : IntKind.i64.wrap ((i : Int) + 1) = ((i + 1 : Nat) : Int) := by rw [show (((i + 1 : Nat) : Int)) = (i : Int) + 1 by omega]; exact IntWalk.i64_in _ (by omega)
        generalize owner D x = y at *
        generalize owner E x = z at *
        clear hx
        go_upto_region 8 with fail
        have HDB := Lib.hid (Blk.new wr 64 #[.int .u8 (x : Nat), .int .u8 (y : Nat), .int .u8 (z : Nat)])
        have hb1 := below1 wr (.cells #[.int .u8 (x : Nat), .int .u8 (y : Nat), .int .u8 (z : Nat)] 64)
        have HB3 := Lib.hid (bchain HBW.out hb1)
        have n0 := cell_keep m0 hb1
        have n1 := cell_keep m1 hb1
        have n2 := cell_keep m2 hb1
        clear k0 k1 k2 m0 m1 m2 hb1 HBW
        generalize wr.alloc (.cells #[.int .u8 (x : Nat), .int .u8 (y : Nat), .int .u8 (z : Nat)] 64) = wa at *
        generalize wr.heap.size = db at *
        have d0 := HDB.out.cell (j := 0) rfl
        have d1 := HDB.out.cell (j := 1) rfl
        have d2 := HDB.out.cell (j := 2) rfl
        go_quiet (fail)
        have HBN := Lib.hid (below_drewN HB3.out nq)
        clear n0 n1 n2 d0 d1 d2 HDB HB3
        generalize World.drewN _ nq = WN at *
        go_wp2_with fail
        go_roundw
        case rel => exact ⟨i + 1, by omega, by simp, HBN⟩
        case measure => simp [intOf]; omega
      · obtain rfl : i = M := by omega
        have u1 : decide ((i : Int) < (i : Int)) = false := decide_eq_false (by omega)
        have u2 : decide (i < i) = false := decide_eq_false (by omega)
        go_wp2_with fail
        go_ret
        exact ⟨rfl, bchain B2.out HBW.out⟩
end Go.Proofs.YtaadipccgckehaaGreatDoor
