/- Plain: the cards of pairs and tables while rows are written into them; lines put together of parts. -/
import Derived.Test.YtidpfggikighlaaDoorGT
namespace Go.Proofs.YtidpfggikighlaaDoor
open Go

theorem numL_def (w : List UInt8) (l : List Int) : numL w l = sp (w :: l.map Lib.itoa) := by unfold numL; rfl
theorem out_eq (k : Int) : sp [numL wRound [k], wOut] = outL k := by
  have := sp_sp [[wRound, Lib.itoa k], [wOut]] (by simp)
  rw [numL_def]
  unfold outL
  simpa [sp_one] using this
theorem empty_eq (k : Int) : sp [numL wRound [k], wEmpty] = emptyL k := by
  have := sp_sp [[wRound, Lib.itoa k], [wEmpty]] (by simp)
  rw [numL_def]
  unfold emptyL
  simpa [sp_one] using this
theorem place_eq (rd tb : Int) (S : List UInt8) : sp [numL wRound [rd], numL wTable [tb], S] = sp [wRound, Lib.itoa rd, wTable, Lib.itoa tb, S] := by
  have := sp_sp [[wRound, Lib.itoa rd], [wTable, Lib.itoa tb], [S]] (by simp)
  rw [numL_def, numL_def]
  simpa [sp_one] using this
theorem alone_eq (r : Rw) (p : Int) (h : otherP r p = 0) : sp [sp [wRound, Lib.itoa r.rd, wTable, Lib.itoa r.tb, sideW r p], wAlone] = seatL r p := by
  have := sp_sp [[wRound, Lib.itoa r.rd, wTable, Lib.itoa r.tb, sideW r p], [wAlone]] (by simp)
  unfold seatL placeW
  rw [if_pos h]
  simpa [sp_one] using this
theorem against_eq (r : Rw) (p : Int) (h : otherP r p ≠ 0) : sp [sp [wRound, Lib.itoa r.rd, wTable, Lib.itoa r.tb, sideW r p], numL wAgainst [otherP r p], numL wSet [r.st]] = seatL r p := by
  have := sp_sp [[wRound, Lib.itoa r.rd, wTable, Lib.itoa r.tb, sideW r p], [wAgainst, Lib.itoa (otherP r p)], [wSet, Lib.itoa r.st]] (by simp)
  unfold seatL placeW
  rw [if_neg h, numL_def, numL_def]
  simpa [sp_one] using this
theorem board_eq (r : Rw) : sp [numL wRound [r.rd], numL wNS [r.ns], numL wEW [r.ew], numL wSet [r.st]] = boardL r := by
  have := sp_sp [[wRound, Lib.itoa r.rd], [wNS, Lib.itoa r.ns], [wEW, Lib.itoa r.ew], [wSet, Lib.itoa r.st]] (by simp)
  unfold boardL
  rw [numL_def, numL_def, numL_def, numL_def]
  simpa [sp_one] using this
/-- A card: its first line, and what f says of each round. -/
def cardL (H : List UInt8) (R : Nat) (f : Nat → List UInt8) : List (List UInt8) := H :: (List.range R).map f
theorem cardL_len (H : List UInt8) (R : Nat) (f : Nat → List UInt8) : (cardL H R f).length = R + 1 := by simp [cardL]
theorem cardL_snoc (H : List UInt8) (k : Nat) (f : Nat → List UInt8) : cardL H (k + 1) f = cardL H k f ++ [f k] := by
  unfold cardL
  rw [List.range_succ, List.map_append]
  rfl
theorem cardL_congr {H : List UInt8} {R : Nat} {f g : Nat → List UInt8} (h : ∀ j, j < R → f j = g j) : cardL H R f = cardL H R g := by
  unfold cardL
  congr 1
  exact List.map_congr_left fun j hj => h j (List.mem_range.1 hj)
theorem cardL_set {H : List UInt8} {R i : Nat} {f g : Nat → List UInt8} {x : List UInt8} (_hi : i < R) (hx : g i = x) (h : ∀ j, j < R → j ≠ i → f j = g j) : (cardL H R f).set (i + 1) x = cardL H R g := by
  unfold cardL
  rw [List.set_cons_succ]
  congr 1
  apply List.ext_getElem?
  intro j
  rw [List.getElem?_set, List.length_map, List.length_range]
  by_cases hj : j < R
  · rw [List.getElem?_map, List.getElem?_map, List.getElem?_range hj]
    by_cases hij : i = j
    · subst hij; simp [hj, hx]
    · simp only [hij, if_false, Option.map_some]
      rw [h j hj (Ne.symm hij)]
  · rw [List.getElem?_eq_none (by simp; omega), List.getElem?_eq_none (by simp; omega)]
    by_cases hij : i = j
    · omega
    · simp [hij]
theorem pairAt_nil (p : Int) (k : Nat) : pairAt p [] k = outL k := by unfold pairAt; rfl
theorem pairAt_snoc (p : Int) (l : List Rw) (r : Rw) (k : Nat) : pairAt p (l ++ [r]) k = stepP p k (pairAt p l k) r := by unfold pairAt; rw [List.foldl_append]; rfl
theorem tableAt_nil (t : Int) (k : Nat) : tableAt t [] k = emptyL k := by unfold tableAt; rfl
theorem tableAt_snoc (t : Int) (l : List Rw) (r : Rw) (k : Nat) : tableAt t (l ++ [r]) k = stepT t k (tableAt t l k) r := by unfold tableAt; rw [List.foldl_append]; rfl
theorem pair_miss {H : List UInt8} {R : Nat} {p : Int} {l : List Rw} {r : Rw} (h : hits p r = false) : cardL H R (pairAt p (l ++ [r])) = cardL H R (pairAt p l) := cardL_congr fun j _ => by
  rw [pairAt_snoc]; unfold stepP; rw [if_neg (by simp [h])]
theorem pair_hit {H : List UInt8} {R i : Nat} {p : Int} {l : List Rw} {r : Rw} (h : hits p r = true) (hi : i < R) (hr : r.rd = i) : (cardL H R (pairAt p l)).set (i + 1) (seatL r p) = cardL H R (pairAt p (l ++ [r])) :=
  cardL_set hi (by rw [pairAt_snoc]; unfold stepP; rw [if_pos ⟨hr, h⟩]) (fun j _ hj => by rw [pairAt_snoc]; unfold stepP; rw [if_neg (by omega)])
theorem table_miss {H : List UInt8} {R : Nat} {t : Int} {l : List Rw} {r : Rw} (h : r.tb ≠ t) : cardL H R (tableAt t (l ++ [r])) = cardL H R (tableAt t l) := cardL_congr fun j _ => by
  rw [tableAt_snoc]; unfold stepT; rw [if_neg (by simp [h])]
theorem table_hit {H : List UInt8} {R i : Nat} {t : Int} {l : List Rw} {r : Rw} (h : r.tb = t) (hi : i < R) (hr : r.rd = i) : (cardL H R (tableAt t l)).set (i + 1) (boardL r) = cardL H R (tableAt t (l ++ [r])) :=
  cardL_set hi (by rw [tableAt_snoc]; unfold stepT; rw [if_pos ⟨hr, h⟩]) (fun j _ hj => by rw [tableAt_snoc]; unfold stepT; rw [if_neg (by omega)])
/-- What Pair and Table return. -/
def pairO (m : Mv) (p : Int) : List (List UInt8) := if fitB m then (if p < 1 ∨ 49 < p then [] else cardL (numL wPair [p]) m.rou.toNat (pairAt p m.rows)) else []
def pairE (m : Mv) (p : Int) : Int := if fitB m then (if p < 1 ∨ 49 < p then 2 else 0) else 300
def tableO (m : Mv) (t : Int) : List (List UInt8) := if fitB m then (if t < 0 ∨ m.tab ≤ t then [] else cardL (numL wTable [t]) m.rou.toNat (tableAt t m.rows)) else []
def tableE (m : Mv) (t : Int) : Int := if fitB m then (if t < 0 ∨ m.tab ≤ t then 2 else 0) else 300
theorem pair_no {m : Mv} (p : Int) (h : fitB m = false) : pairO m p = [] ∧ pairE m p = 300 := by unfold pairO pairE; rw [h]; exact ⟨rfl, rfl⟩
theorem pair_bad {m : Mv} {p : Int} (h : fitB m = true) (hp : p < 1 ∨ 49 < p) : pairO m p = [] ∧ pairE m p = 2 := by unfold pairO pairE; rw [h]; simp [hp]
theorem pair_ok {m : Mv} {p : Int} (h : fitB m = true) (hp : 1 ≤ p ∧ p ≤ 49) : pairO m p = cardL (numL wPair [p]) m.rou.toNat (pairAt p m.rows) ∧ pairE m p = 0 := by
  unfold pairO pairE; rw [h, if_neg (by omega : ¬ (p < 1 ∨ 49 < p))]
  exact ⟨rfl, by rw [if_neg (by omega : ¬ (p < 1 ∨ 49 < p))]; rfl⟩
theorem table_no {m : Mv} (p : Int) (h : fitB m = false) : tableO m p = [] ∧ tableE m p = 300 := by unfold tableO tableE; rw [h]; exact ⟨rfl, rfl⟩
theorem table_bad {m : Mv} {p : Int} (h : fitB m = true) (hp : p < 0 ∨ m.tab ≤ p) : tableO m p = [] ∧ tableE m p = 2 := by unfold tableO tableE; rw [h]; simp [hp]
theorem table_ok {m : Mv} {p : Int} (h : fitB m = true) (hp : 0 ≤ p ∧ p < m.tab) : tableO m p = cardL (numL wTable [p]) m.rou.toNat (tableAt p m.rows) ∧ tableE m p = 0 := by
  unfold tableO tableE; rw [h, if_neg (by omega : ¬ (p < 0 ∨ m.tab ≤ p))]
  exact ⟨rfl, by rw [if_neg (by omega : ¬ (p < 0 ∨ m.tab ≤ p))]; rfl⟩
attribute [irreducible] pairO pairE tableO tableE cardL
open Go.RowKit
/-- A cell of a row of the call's own is written. -/
theorem own_set {w : World} {B e n c g : Nat} {xs : List Value} (h : w.ownsRow B e 1 (.slice (some ⟨g, 0, none⟩) n c) n xs) (i : Nat) (v : Value) : (w.setCell ⟨g, i, none⟩ v).ownsRow B e 1 (.slice (some ⟨g, 0, none⟩) n c) n (xs.set i v) := by
  exact (h.stored i v).1
theorem numL_short {W : List UInt8} {x : Int} (hW : W.length ≤ 1000) (hx : inI x) : (numL W [x]).length ≤ 100000 := by
  have := numL_len W [x] (fun n hn => by obtain rfl := List.mem_singleton.1 hn; exact hx)
  simp only [List.length_cons, List.length_nil] at this
  omega
end Go.Proofs.YtidpfggikighlaaDoor
