/- What BoardSmall keeps from call to call; contracts in the form that it needs. -/
import Derived.Test.YtaadipccgckehaaGreatDoorRI
import Derived.Test.YtaadipccgckehaaGreatDoorCK
import Derived.Test.YtaadipccgckehaaGreatDoorDiffB
namespace Go.Proofs.YtaadipccgckehaaGreatDoor
open Go Go.RowKit Go.Shelf Pl

structure Iv (w0 w : World) : Prop where
  e0 : Env w0
  below : Below w0.heap.size w0 w
theorem Iv.env {w0 w : World} (h : Iv w0 w) : Env w := h.e0.keep h.below
theorem Iv.step {w0 w w' : World} (h : Iv w0 w) (hb : Below w.heap.size w w') : Iv w0 w' := ⟨h.e0, bchain h.below hb⟩
theorem Iv.set {w0 w : World} (h : Iv w0 w) {p : Nat} (hp : w0.heap.size ≤ p) (j : Nat) (v : Value) : Iv w0 (w.setCell ⟨p, j, none⟩ v) := ⟨h.e0, h.below.setCell (p := ⟨p, j, none⟩) hp v⟩
theorem dealer_both (n : Int) : ∃ (a : Nat) (c : Int), (∀ w, Calls Tryz.prog 7 #[.int .i64 n] w (fun e w' => e = .returned (.tuple #[.int .u8 (a : Int), .int .i64 c]) ∧ w = w')) ∧ (∀ w, Calls Tryz.prog 8 #[.int .i64 n] w (fun e w' => e = .returned (.tuple #[.int .u8 (a : Int), .int .i64 c]) ∧ w = w')) := by
  by_cases h : n < 1 ∨ 128 < n
  · exact ⟨0, 70, dealer_bad n h, rdealer_bad n h⟩
  · obtain ⟨m, rfl⟩ : ∃ m : Nat, n = (m : Int) := ⟨n.toNat, by omega⟩
    exact ⟨_, 0, dealer_ok m (by omega) (by omega), rdealer_ok m (by omega) (by omega)⟩
theorem vuln_both (n : Int) : ∃ (a : Nat) (c : Int), (∀ w, Calls Tryz.prog 9 #[.int .i64 n] w (fun e w' => e = .returned (.tuple #[.int .u8 (a : Int), .int .i64 c]) ∧ w = w')) ∧ (∀ w, Calls Tryz.prog 10 #[.int .i64 n] w (fun e w' => e = .returned (.tuple #[.int .u8 (a : Int), .int .i64 c]) ∧ w = w')) := by
  by_cases h : n < 1 ∨ 128 < n
  · exact ⟨0, 70, vuln_bad n h, rvuln_bad n h⟩
  · obtain ⟨m, rfl⟩ : ∃ m : Nat, n = (m : Int) := ⟨n.toNat, by omega⟩
    exact ⟨_, 0, vuln_ok m (by omega) (by omega), rvuln_ok m (by omega) (by omega)⟩
theorem find_both (d v : Nat) (hd : d < 256) (hv : v < 256) : ∃ (a : Nat) (c : Int), (∀ w, Calls Tryz.prog 13 #[.int .u8 (d : Int), .int .u8 (v : Int)] w (fun e w' => e = .returned (.tuple #[.int .i64 (a : Int), .int .i64 c]) ∧ w = w')) ∧ (∀ w, Calls Tryz.prog 14 #[.int .u8 (d : Int), .int .u8 (v : Int)] w (fun e w' => e = .returned (.tuple #[.int .i64 (a : Int), .int .i64 c]) ∧ w = w')) := by
  by_cases h : 4 ≤ d ∨ 4 ≤ v
  · exact ⟨0, 2, find_bad d v hd hv h, rfind_bad d v h⟩
  · exact ⟨_, 0, find_ok' d v (by omega) (by omega), rfind_ok d v (by omega) (by omega)⟩
theorem textB_len (n : Nat) (D : Nat → Nat) : (textB n D).length < 1000 := by
  have h1 := num_len n
  have h2 := word_len (vulP n)
  have h3 := textD_len D
  have h4 : (seatW (dealP n)).length = 1 := rfl
  unfold textB
  simp only [sp_cons2, sp_one, List.length_append, List.length_cons]
  omega
theorem wr_short (n : Int) (D : Nat → Nat) : (wrT n D).length < 1000 := by
  unfold wrT
  split
  · exact textB_len _ _
  · simp
/-- The text of a record, as a string. -/
theorem wr_str (n : Int) (D : Nat → Nat) : ∃ X : ByteArray, strV' (wrT n D) = .string X ∧ X.size < 1000 := ⟨_, rfl, wr_short n D⟩
theorem suits_wr (n : Int) : ∃ (X : ByteArray) (c : Int), X.size < 1000 ∧ ∀ W, Calls Tryz.prog 11 #[.int .i64 n, .agg #[.int .u64 8191, .int .u64 67100672, .int .u64 549688705024, .int .u64 4503049871556608]] W (fun e w' => e = .returned (.tuple #[.string X, .int .i64 c]) ∧ Below W.heap.size W w') := by
  obtain ⟨X, h1, h2⟩ := wr_str n (ofF suitF)
  refine ⟨X, rcode n (ofF suitF), h2, fun W => ?_⟩
  have h := rwrite7_any n (ofF suitF) suit_64 W
  rw [h1] at h
  exact h
theorem swap_wr (n : Int) : ∃ (X : ByteArray) (c : Int), X.size < 1000 ∧ ∀ W, Calls Tryz.prog 11 #[.int .i64 n, .agg #[.int .u64 16382, .int .u64 67092481, .int .u64 549688705024, .int .u64 4503049871556608]] W (fun e w' => e = .returned (.tuple #[.string X, .int .i64 c]) ∧ Below W.heap.size W w') := by
  obtain ⟨X, h1, h2⟩ := wr_str n (ofF swapF)
  refine ⟨X, rcode n (ofF swapF), h2, fun W => ?_⟩
  have h := rwrite7_any n (ofF swapF) swap_64 W
  rw [h1] at h
  exact h
theorem recs_suit (n k : Int) (hk : -9223372036854775808 ≤ k ∧ k ≤ 9223372036854775807) (s : ByteArray) (hs : s.size ≤ 10000) (w : World) (he : Env w) :
    Calls Tryz.prog 5 #[.agg #[.int .i64 n, .int .u64 8191, .int .u64 67100672, .int .u64 549688705024, .int .u64 4503049871556608], .int .i64 k, .string s] w (fun e w' => e = .returned (.bool true) ∧ Below w.heap.size w w') :=
  records_any n k (ofF suitF) suit_64 hk s hs w he
theorem recs_zero (n k : Int) (hk : -9223372036854775808 ≤ k ∧ k ≤ 9223372036854775807) (s : ByteArray) (hs : s.size ≤ 10000) (w : World) (he : Env w) :
    Calls Tryz.prog 5 #[.agg #[.int .i64 n, .int .u64 0, .int .u64 0, .int .u64 0, .int .u64 0], .int .i64 k, .string s] w (fun e w' => e = .returned (.bool true) ∧ Below w.heap.size w w') :=
  records_any n k (fun _ => 0) (fun _ _ => by show 0 < _; omega) hk s hs w he
theorem bit1_ex (h c : Nat) (hh : h < 18446744073709551616) : ∃ a : Nat, a ≤ 1 ∧ bits BinOp.and IntKind.u64 ((h : Int) / 2 ^ c) 1 = (a : Int) := by
  refine ⟨h / 2 ^ c % 2, by omega, ?_⟩
  have := bit1_and h c hh
  rw [← this]
  simp
theorem or_ex (x y : Nat) (hx : x < 18446744073709551616) (hy : y < 18446744073709551616) : ∃ z : Nat, z < 18446744073709551616 ∧ bits BinOp.or IntKind.u64 (x : Int) (y : Int) = (z : Int) :=
  ⟨x ||| y, Nat.or_lt_two_pow (n := 64) hx hy, u64_or_nat x y hx hy⟩
theorem wrap_ex (t : Int) : ∃ z : Nat, z < 18446744073709551616 ∧ IntKind.u64.wrap t = (z : Int) := by
  have e : IntKind.u64.wrap t = t % 18446744073709551616 := rfl
  rw [e]
  exact ⟨(t % 18446744073709551616).toNat, by omega, by omega⟩
theorem sw_ex (h : Nat) (hh : h < 18446744073709551616) (a b c : Int) : ∃ y : Nat, y < 18446744073709551616 ∧ bits BinOp.or IntKind.u64 (bits BinOp.or IntKind.u64 (bits BinOp.andNot IntKind.u64 (h : Int) (IntKind.u64.wrap a)) (IntKind.u64.wrap b)) (IntKind.u64.wrap c) = (y : Int) := by
  obtain ⟨x1, h1, e1⟩ := wrap_ex a
  obtain ⟨x2, h2, e2⟩ := wrap_ex b
  obtain ⟨x3, h3, e3⟩ := wrap_ex c
  rw [e1, e2, e3, u64_andNot_nat h x1 hh h1]
  obtain ⟨z1, g1, f1⟩ := or_ex (h &&& (18446744073709551615 - x1)) x2 (Nat.lt_of_le_of_lt Nat.and_le_left hh) h2
  rw [f1]
  exact or_ex z1 x3 g1 h3
theorem dC_put {W : World} {p : Nat} {T : TypeId} {D : Nat → Nat} (h : Blk W p T (dC D)) (j y : Nat) (hj : j < 4) (hy : y < 18446744073709551616) (hD : D64 D) : ∃ E, D64 E ∧ Blk (W.setCell ⟨p, j, none⟩ (.int .u64 (y : Int))) p T (dC E) := by
  refine ⟨fun k => if k = j then y else D k, fun k hk => ?_, ?_⟩
  · show (if k = j then y else D k) < _
    split
    · exact hy
    · exact hD k hk
  · have := h.set j (.int .u64 (y : Int))
    rcases (by omega : j = 0 ∨ j = 1 ∨ j = 2 ∨ j = 3) with rfl | rfl | rfl | rfl <;> exact this
def fC (x : Four) : List Value := [.int .u64 (ofF x 0 : Nat), .int .u64 (ofF x 1 : Nat), .int .u64 (ofF x 2 : Nat), .int .u64 (ofF x 3 : Nat)]
theorem dr_list {W : World} {b : Nat} {T : TypeId} (l : List Four) (h : Blk W b T (l.flatMap fC).toArray) : DR 24 W (.slice (some ⟨b, 0, none⟩) l.length l.length) l := by
  refine DR.some_ b 0 l.length l h.lt (fun i x hi k hk => ?_)
  rw [Nat.zero_add]
  refine h.cell ?_
  have := dV_at l i x hi k hk
  have h2 : (l.flatMap fC).toArray = (dV l).toArray := rfl
  rw [h2]
  simpa using this
theorem four_of (D : Nat → Nat) (h : D64 D) : ∃ x : Four, D64 (ofF x) ∧ dC D = dC (ofF x) :=
  ⟨toF D, fun k hk => by rcases (by omega : k = 0 ∨ k = 1 ∨ k = 2 ∨ k = 3) with rfl | rfl | rfl | rfl <;> exact h _ (by omega), rfl⟩
theorem turn_64 (c : Int) : D64 (turnD (ofF suitF) c) := fun k _ => suit_64 _ (Nat.mod_lt _ (by omega))
theorem five_64 {x : Four} (h : D64 (ofF x)) : ∀ (j : Nat) (y : Four), ([x, suitF, x, swapF, suitF] : List Four)[j]? = some y → F64 y := by
  intro j y hy
  have hj : j < 5 := by simpa using (List.getElem?_eq_some_iff.1 hy).1
  rcases (by omega : j = 0 ∨ j = 1 ∨ j = 2 ∨ j = 3 ∨ j = 4) with rfl | rfl | rfl | rfl | rfl <;> (cases hy; first | exact h | exact suit_64 | exact swap_64)
def zF : Four := (0, 0, 0, 0)
theorem zero_64 : F64 zF := d64_four (by decide)
theorem made_deals (n : Nat) (hn : n ≤ 1000) (W : World) : (Instr.makeSlice 44 (.int .i64 (n : Int)) (.int .i64 (n : Int))).run Tryz.prog W = .ok (.slice (some ⟨W.heap.size, 0, none⟩) n n) (W.alloc (.cells (dV (List.replicate n zF)).toArray 24)) := by
  obtain ⟨i0, hi0, hz0, hz1, hz2⟩ := info_parts info_deal
  have := run_makeSlice (P := Tryz.prog) W 44 24 i0 (.agg #[.int .u64 0, .int .u64 0, .int .u64 0, .int .u64 0]) Tryz.underlying44 hi0 hz0 .i64 .i64 (n : Int) (n : Int) (by omega) (by omega) (by rw [hz1]; simp; omega) (by rw [hz2]; omega) (by omega)
  rw [this, hz1, Int.toNat_natCast]
  have e : madeCells (Value.agg #[.int .u64 0, .int .u64 0, .int .u64 0, .int .u64 0]).cells (n * 4) = (dV (List.replicate n zF)).toArray := by
    apply Array.ext
    · simp [madeCells, dV_len]
    · intro j h1 h2
      have hl : (madeCells (Value.agg #[.int .u64 0, .int .u64 0, .int .u64 0, .int .u64 0]).cells (n * 4))[j] = .int .u64 0 := by
        simp only [madeCells, Value.cells, Array.getElem_map, Array.getElem_range]
        have hj : j % 4 < 4 := Nat.mod_lt _ (by omega)
        show (#[Value.int .u64 0, .int .u64 0, .int .u64 0, .int .u64 0] : Array Value)[j % 4]! = _
        rcases (by omega : j % 4 = 0 ∨ j % 4 = 1 ∨ j % 4 = 2 ∨ j % 4 = 3) with e | e | e | e <;> rw [e] <;> rfl
      rw [hl]
      obtain ⟨u, hu⟩ : ∃ u, (dV (List.replicate n zF))[j]? = some u := ⟨_, List.getElem?_eq_getElem (by simpa using h2)⟩
      obtain ⟨x, hx, rfl⟩ := dV_back _ _ _ hu
      obtain rfl : x = zF := List.eq_of_mem_replicate (List.mem_of_getElem? hx)
      have h3 : ((dV (List.replicate n zF)).toArray)[j]? = some (.int .u64 (ofF zF (j % 4) : Nat)) := by simpa using hu
      rw [Array.getElem?_eq_getElem h2] at h3
      rw [Option.some.inj h3]
      have hj : j % 4 < 4 := Nat.mod_lt _ (by omega)
      rcases (by omega : j % 4 = 0 ∨ j % 4 = 1 ∨ j % 4 = 2 ∨ j % 4 = 3) with e | e | e | e <;> rw [e] <;> rfl
  rw [e]
theorem dV_set : ∀ (L : List Four) (i : Nat) (y : Four), i < L.length → ((((dV L).set (i * 4) (.int .u64 (ofF y 0 : Nat))).set (i * 4 + 1) (.int .u64 (ofF y 1 : Nat))).set (i * 4 + 2) (.int .u64 (ofF y 2 : Nat))).set (i * 4 + 3) (.int .u64 (ofF y 3 : Nat)) = dV (L.set i y)
  | [], i, y, h => by simp at h
  | x :: L, 0, y, _ => rfl
  | x :: L, i + 1, y, h => by
    have ih := dV_set L i y (by simpa using h)
    have e : ∀ M : List Four, dV (x :: M) = .int .u64 (ofF x 0 : Nat) :: .int .u64 (ofF x 1 : Nat) :: .int .u64 (ofF x 2 : Nat) :: .int .u64 (ofF x 3 : Nat) :: dV M := fun M => rfl
    rw [List.set_cons_succ, e, e, ← ih, show (i + 1) * 4 = i * 4 + 4 by omega]
    rfl
/-- A slice of deals that is written into. -/
def LD (w : World) (p n : Nat) (L : List Four) : Prop := L.length = n ∧ (∀ (j : Nat) (y : Four), L[j]? = some y → F64 y) ∧ Blk w p 24 (dV L).toArray
theorem LD.keep {w w' : World} {p n : Nat} {L : List Four} (h : LD w p n L) (hb : Below w.heap.size w w') : LD w' p n L := ⟨h.1, h.2.1, h.2.2.keep hb h.2.2.lt⟩
theorem LD.cells {w : World} {p n : Nat} {L : List Four} (h : LD w p n L) {i : Nat} (hi : i < n) : ∃ x : Four, ∀ k, k < 4 → w.cell? ⟨p, i * 4 + k, none⟩ = some (.int .u64 (ofF x k : Nat)) := by
  obtain ⟨x, hx⟩ : ∃ x, L[i]? = some x := ⟨_, List.getElem?_eq_getElem (by rw [h.1]; exact hi)⟩
  refine ⟨x, fun k hk => h.2.2.cell ?_⟩
  have := dV_at L i x hx k hk
  simpa using this
theorem LD.put {w : World} {p n : Nat} {L : List Four} (h : LD w p n L) {i : Nat} (hi : i < n) (y : Four) (hy : F64 y) : LD ((((w.setCell ⟨p, i * 4, none⟩ (.int .u64 (ofF y 0 : Nat))).setCell ⟨p, i * 4 + 1, none⟩ (.int .u64 (ofF y 1 : Nat))).setCell ⟨p, i * 4 + 2, none⟩ (.int .u64 (ofF y 2 : Nat))).setCell ⟨p, i * 4 + 3, none⟩ (.int .u64 (ofF y 3 : Nat))) p n (L.set i y) := by
  refine ⟨by rw [List.length_set]; exact h.1, fun j z hz => ?_, ?_⟩
  · rcases Nat.decEq i j with hne | he
    · rw [List.getElem?_set_ne hne] at hz
      exact h.2.1 j z hz
    · subst he
      rw [List.getElem?_set_self (by rw [h.1]; exact hi)] at hz
      cases hz
      exact hy
  · have := (((h.2.2.set (i * 4) (.int .u64 (ofF y 0 : Nat))).set (i * 4 + 1) (.int .u64 (ofF y 1 : Nat))).set (i * 4 + 2) (.int .u64 (ofF y 2 : Nat))).set (i * 4 + 3) (.int .u64 (ofF y 3 : Nat))
    simp only [List.setIfInBounds_toArray] at this
    rw [dV_set L i y (by rw [h.1]; exact hi)] at this
    exact this
theorem LD.dr {w : World} {p n : Nat} {L : List Four} (h : LD w p n L) : DR 24 w (.slice (some ⟨p, 0, none⟩) n n) L := by
  have := dr_list (T := 24) L h.2.2
  rwa [h.1] at this
theorem LD.classes {w : World} {p n : Nat} {L : List Four} (h : LD w p n L) (hn : n ≤ 1000) : Calls Tryz.prog 18 #[.slice (some ⟨p, 0, none⟩) n n] w (fun e w' => e = .returned (.bool true) ∧ Below w.heap.size w w') :=
  lclasses_any _ L (by rw [h.1]; omega) h.2.1 w h.dr
theorem slice_to (X : ByteArray) (i n : Nat) (hn : X.size = n) (hi : i ≤ n) (W : World) : (Instr.sliceAt 9 (.string X) none (some (.int .i64 (i : Int))) none).run Tryz.prog W = .ok (.string (X.extract 0 i)) W := by
  have h1 : (i : Int) ≤ (X.size : Int) := by omega
  go_simp
theorem slice_from (X : ByteArray) (i n : Nat) (hn : X.size = n) (hi : i ≤ n) (hs : n ≤ 1000) (W : World) : (Instr.sliceAt 9 (.string X) (some (.int .i64 (i : Int))) none none).run Tryz.prog W = .ok (.string (X.extract i n)) W := by
  subst hn
  have h1 : (i : Int) ≤ (X.size : Int) := by omega
  go_simp
end Go.Proofs.YtaadipccgckehaaGreatDoor
