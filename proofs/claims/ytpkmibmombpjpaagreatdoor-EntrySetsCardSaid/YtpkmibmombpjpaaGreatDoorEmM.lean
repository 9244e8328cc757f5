/- Entries of small numbers: what Made needs. Plain: what Made returns is right, and Check finds nothing. -/
import Derived.Test.YtpkmibmombpjpaaGreatDoorEY
import Derived.Test.YtpkmibmombpjpaaGreatDoorFlow4
set_option linter.unusedSimpArgs false
namespace Go.Proofs.YtpkmibmombpjpaaGreatDoor
open Go Go.RowKit

/-- Small numbers. -/
structure Sm where
  rw : Nat
  bd : Nat
  vs : Nat
  kd : Nat
  tk : Nat
  wt : Nat
structure Sm.In (x : Sm) : Prop where
  rw : x.rw < 256
  bd : x.bd < 256
  vs : x.vs < 256
  kd : x.kd < 256
  tk : x.tk < 256
  wt : x.wt < 256
def smC (x : Sm) : Array Value := #[.int .u8 (x.rw : Int), .int .u8 (x.bd : Int), .int .u8 (x.vs : Int), .int .u8 (x.kd : Int), .int .u8 (x.tk : Int), .int .u8 (x.wt : Int)]
def Sm.row (x : Sm) : Rw := seRows.getD (x.rw % 6) ⟨0, 0, 0, 0, 0⟩
theorem Sm.row_at (x : Sm) : seRows[x.rw % 6]? = some x.row := by
  unfold Sm.row
  have : x.rw % 6 < 6 := Nat.mod_lt _ (by omega)
  rcases (by omega : x.rw % 6 = 0 ∨ x.rw % 6 = 1 ∨ x.rw % 6 = 2 ∨ x.rw % 6 = 3 ∨ x.rw % 6 = 4 ∨ x.rw % 6 = 5) with h | h | h | h | h | h <;> rw [h] <;> rfl
def awN (k : Nat) : Int := [0, 30, 40, 50, 60, 70, 100].getD k 0
def Sm.base (x : Sm) (f : Nat) (t : Bool) (l : List Ou) (p q : Int) : En := gE x.row.rd x.row.tb (x.row.st * 2 + 1 + ((x.bd % 2 : Nat) : Int)) (1 + ((x.vs % 4 : Nat) : Int)) (x.kd % 5) f t l p q
def Sm.one (x : Sm) : Ou := wonO ((x.tk % 14 : Nat) : Int) 0
def madeE (x : Sm) : En :=
  if x.kd % 5 = 1 then x.base (x.wt % 4) (decide (3 < x.wt % 8)) [x.one] 0 0
  else if x.kd % 5 = 3 then x.base (x.wt % 4) (decide (3 < x.wt % 8)) [x.one, wonO ((x.wt % 14 : Nat) : Int) 0] 0 0
  else if x.kd % 5 = 2 then x.base 0 false [wonO ((x.tk % 14 : Nat) : Int) (1 + ((x.wt % 99 : Nat) : Int)), wonO ((x.bd % 14 : Nat) : Int) (100 - (1 + ((x.wt % 99 : Nat) : Int)))] 0 0
  else if x.kd % 5 = 4 then x.base 0 false [] (awN (x.tk % 7)) (awN (x.wt % 7))
  else x.base 0 false [] 0 0
theorem ouA_facts (o : Ou) : (ouA o).size = 6 ∧ (∀ v ∈ (ouA o).toList, v.oneCell' = true) ∧ (ouA o).all (·.oneCell') = true := ⟨rfl, ouA_one o, by kernel_rfl⟩
theorem won_at (t wt : Int) (w : World) : Calls Tryz.prog 21 #[.int .i64 t, .int .i64 wt] w (fun x w' => x = .returned (.agg (ouA (wonO t wt))) ∧ Below w.heap.size w w') := won_any t wt w
theorem put_ou {W : World} {p : Nat} {a b c d : Int} {k f : Nat} {t : Bool} {l : List Ou} {x y : Int} (o : Ou) (n : Nat) (hl : l.length = n) (h4 : n < 4) (h : Blk W p 34 (enC (gE a b c d k f t l x y))) : Blk (W.setCells p (7 + n * 6) (ouA o).toList) p 34 (enC (gE a b c d k f t (l ++ [o]) x y)) := by
  subst hl
  have hb := Blk.putC (ouL o) (7 + l.length * 6) W _ h
  rw [gE_ou _ _ _ _ _ _ _ _ _ _ _ h4] at hb
  exact hb
theorem put_first {a b c d : Int} {k f : Nat} {t : Bool} {x y : Int} (o : Ou) : putC (enC (gE a b c d k f t [] x y)) 7 (ouA o).toList = enC (gE a b c d k f t [o] x y) := gE_ou a b c d k f t [] x y o (by simp)
theorem put_again {a b c d : Int} {k f : Nat} {t : Bool} {x y : Int} (o : Ou) : putC (enC (gE a b c d k f t [o] x y)) 7 (ouA o).toList = enC (gE a b c d k f t [o] x y) := by
  show putC _ 7 (ouL o) = _
  unfold enC
  simp only [putC, ouL, List.setIfInBounds_toArray]
  rfl
theorem aw_at (k : Nat) (h : k < 7) : ([.int .i64 0, .int .i64 30, .int .i64 40, .int .i64 50, .int .i64 60, .int .i64 70, .int .i64 100] : List Value)[k]? = some (.int .i64 (awN k)) := by
  rcases (by omega : k = 0 ∨ k = 1 ∨ k = 2 ∨ k = 3 ∨ k = 4 ∨ k = 5 ∨ k = 6) with rfl | rfl | rfl | rfl | rfl | rfl | rfl <;> rfl
theorem row_st (x : Sm) : 0 ≤ x.row.st ∧ x.row.st ≤ 2 := by
  unfold Sm.row
  have : x.rw % 6 < 6 := Nat.mod_lt _ (by omega)
  rcases (by omega : x.rw % 6 = 0 ∨ x.rw % 6 = 1 ∨ x.rw % 6 = 2 ∨ x.rw % 6 = 3 ∨ x.rw % 6 = 4 ∨ x.rw % 6 = 5) with h | h | h | h | h | h <;> rw [h] <;> decide
/-- As grBlk, with two stores one after the other. -/
def grBlk3 (B b : Nat) (t : TypeId) (C0 C1 C2 : Array Value) : Gr where
  r w1 w2 := Below B w1 w2 ∧ (∀ x t' c, x ≠ b → Blk w1 x t' c → Blk w2 x t' c) ∧ (Blk w1 b t C2 → Blk w2 b t C2) ∧ (Blk w1 b t C1 → Blk w2 b t C1 ∨ Blk w2 b t C2) ∧ (Blk w1 b t C0 → Blk w2 b t C0 ∨ Blk w2 b t C1 ∨ Blk w2 b t C2)
  refl _ := ⟨Below.refl _ _, fun _ _ _ _ h => h, id, Or.inl, Or.inl⟩
  trans h1 h2 := ⟨h1.1.trans h2.1, fun x t' c hx h => h2.2.1 x t' c hx (h1.2.1 x t' c hx h), fun h => h2.2.2.1 (h1.2.2.1 h), fun h => (h1.2.2.2.1 h).elim h2.2.2.2.1 (fun h => Or.inr (h2.2.2.1 h)),
    fun h => (h1.2.2.2.2 h).elim h2.2.2.2.2 (fun h => Or.inr (h.elim h2.2.2.2.1 (fun h => Or.inr (h2.2.2.1 h))))⟩
theorem grBlk3_below {B b : Nat} {t : TypeId} {C0 C1 C2 : Array Value} {w1 w2 : World} (h : Below w1.heap.size w1 w2) (hB : B ≤ w1.heap.size) : (grBlk3 B b t C0 C1 C2).r w1 w2 :=
  ⟨h.mono hB, fun _ _ _ _ hx => hx.keep h hx.lt, fun hx => hx.keep h hx.lt, fun hx => Or.inl (hx.keep h hx.lt), fun hx => Or.inl (hx.keep h hx.lt)⟩
def SpG.one {B b : Nat} {t : TypeId} {C0 C1 C2 : Array Value} : SpG (grBlk3 B b t C0 C1 C2) := ⟨fun _ w => Blk w b t C1 ∨ Blk w b t C2, fun _ _ _ h hr => h.elim hr.2.2.2.1 (fun h => Or.inr (hr.2.2.1 h))⟩
def SpG.two {B b : Nat} {t : TypeId} {C0 C1 C2 : Array Value} : SpG (grBlk3 B b t C0 C1 C2) := ⟨fun _ w => Blk w b t C2, fun _ _ _ h hr => hr.2.2.1 h⟩
theorem grBlk3_one {B b : Nat} {t : TypeId} {C0 C1 C2 : Array Value} {w1 : World} {i : Nat} {v : Value} (hB : B ≤ b) (h : Blk w1 b t C0 ∨ Blk w1 b t C1 ∨ Blk w1 b t C2) (h0 : C0.setIfInBounds i v = C1) (h1 : C1.setIfInBounds i v = C1) (h2 : C2.setIfInBounds i v = C2) :
    (Blk (w1.setCell ⟨b, i, none⟩ v) b t C1 ∨ Blk (w1.setCell ⟨b, i, none⟩ v) b t C2) ∧ (grBlk3 B b t C0 C1 C2).r w1 (w1.setCell ⟨b, i, none⟩ v) := by
  have hs0 : Blk w1 b t C0 → Blk (w1.setCell ⟨b, i, none⟩ v) b t C1 := fun h => by have := h.set i v; rwa [h0] at this
  have hs1 : Blk w1 b t C1 → Blk (w1.setCell ⟨b, i, none⟩ v) b t C1 := fun h => by have := h.set i v; rwa [h1] at this
  have hs2 : Blk w1 b t C2 → Blk (w1.setCell ⟨b, i, none⟩ v) b t C2 := fun h => by have := h.set i v; rwa [h2] at this
  exact ⟨h.elim (fun h => Or.inl (hs0 h)) (fun h => h.elim (fun h => Or.inl (hs1 h)) (fun h => Or.inr (hs2 h))),
    (Below.refl _ _).setCell (p := ⟨b, i, none⟩) hB v, fun x t' c hx hk => hk.other hx i v, hs2, fun h => Or.inl (hs1 h), fun h => Or.inr (Or.inl (hs0 h))⟩
theorem grBlk3_two {B b : Nat} {t : TypeId} {C0 C1 C2 : Array Value} {w1 : World} {i : Nat} {v : Value} (hB : B ≤ b) (h : Blk w1 b t C1 ∨ Blk w1 b t C2) (h1 : C1.setIfInBounds i v = C2) (h2 : C2.setIfInBounds i v = C2) :
    Blk (w1.setCell ⟨b, i, none⟩ v) b t C2 ∧ (grBlk3 B b t C0 C1 C2).r w1 (w1.setCell ⟨b, i, none⟩ v) := by
  have hs : Blk (w1.setCell ⟨b, i, none⟩ v) b t C2 := by
    rcases h with h | h
    · have := h.set i v; rwa [h1] at this
    · have := h.set i v; rwa [h2] at this
  exact ⟨hs, (Below.refl _ _).setCell (p := ⟨b, i, none⟩) hB v, fun x t' c hx hk => hk.other hx i v, fun _ => hs, fun _ => Or.inr hs, fun _ => Or.inr (Or.inr hs)⟩
/-- A store of several cells. -/
theorem grBlk_put {B b : Nat} {t : TypeId} {C C' : Array Value} {w1 : World} {i : Nat} {vs : List Value} (hB : B ≤ b) (h : Blk w1 b t C ∨ Blk w1 b t C') (h1 : putC C i vs = C') (h2 : putC C' i vs = C') :
    Blk (w1.setCells b i vs) b t C' ∧ (grBlk B b t C C').r w1 (w1.setCells b i vs) := by
  have hs : Blk (w1.setCells b i vs) b t C' := by
    rcases h with h | h
    · have := Blk.putC vs i w1 _ h; rwa [h1] at this
    · have := Blk.putC vs i w1 _ h; rwa [h2] at this
  exact ⟨hs, Below.setCells' hB vs i w1 (Below.refl _ _), fun x t' c hx hk => Blk.otherCells hx vs i w1 hk, fun _ => hs, fun _ => Or.inr hs⟩
/-- A pointer to a cell that holds x. -/
def Sp.ptr (x : Value) : Sp := ⟨fun v w => ∃ b o, v = .pointer (some ⟨b, o, none⟩) ∧ b < w.heap.size ∧ w.cell? ⟨b, o, none⟩ = some x, fun _ _ _ ⟨b, o, h1, h2, h3⟩ hb => ⟨b, o, h1, Nat.lt_of_lt_of_le h2 hb.size, (hb.cell h2).trans h3⟩⟩
end Go.Proofs.YtpkmibmombpjpaaGreatDoor
namespace Go.Proofs.YtpkmibmombpjpaaGreatDoor
open Go

theorem won_ok {t w lo hi : Int} (h : 0 ≤ t ∧ t ≤ 13) (hw : lo ≤ w ∧ w ≤ hi) : (wonO t w).okW lo hi = true := by
  unfold Ou.okW Ou.pl wonO
  simp [h, hw]
theorem right1 {a b c d : Int} {f : Nat} {t : Bool} {o : Ou} (hf : f ≤ 3) (h : o.okW 0 0 = true) : rightE (gE a b c d 1 f t [o] 0 0) = true := by
  simp [rightE, usedP, gE, h, En.rest, En.outs, Ou.isZ, zeroO, hf]
theorem right3 {a b c d : Int} {f : Nat} {t : Bool} {o p : Ou} (hf : f ≤ 3) (h : o.okW 0 0 = true) (h2 : p.okW 0 0 = true) : rightE (gE a b c d 3 f t [o, p] 0 0) = true := by
  simp [rightE, usedP, gE, h, h2, En.rest, En.outs, Ou.isZ, zeroO, hf]
theorem right2 {a b c d : Int} {o p : Ou} (h : o.okW 1 99 = true) (h2 : p.okW 1 99 = true) (n1 : o.wt ≠ 0) (n2 : p.wt ≠ 0) (hs : o.wt + p.wt = 100) : rightE (gE a b c d 2 0 false [o, p] 0 0) = true := by
  have hu : usedP (gE a b c d 2 0 false [o, p] 0 0) = (2, true) := by
    unfold usedP
    rw [if_neg (by simp [gE]), if_neg (by simp [gE]), if_pos (show (gE a b c d 2 0 false [o, p] 0 0).kd = 2 from rfl)]
    show wgo [o, p, zeroO, zeroO] 0 0 = _
    rw [wgo, if_neg n1, if_pos h, wgo, if_neg n2, if_pos h2, wgo, if_pos (show zeroO.wt = 0 from rfl)]
    simp [hs]
  unfold rightE
  rw [hu]
  simp [gE, En.rest, En.outs, Ou.isZ, zeroO]
theorem right4 {a b c d x y : Int} (hx : awd x = true) (hy : awd y = true) : rightE (gE a b c d 4 0 false [] x y) = true := by
  simp [rightE, usedP, gE, En.rest, En.outs, Ou.isZ, zeroO, hx, hy]
theorem right0 {a b c d : Int} : rightE (gE a b c d 0 0 false [] 0 0) = true := by
  simp [rightE, usedP, gE, En.rest, En.outs, Ou.isZ, zeroO]
theorem awd_N (k : Nat) (h : k < 7) : awd (awN k) = true := by
  rcases (by omega : k = 0 ∨ k = 1 ∨ k = 2 ∨ k = 3 ∨ k = 4 ∨ k = 5 ∨ k = 6) with rfl | rfl | rfl | rfl | rfl | rfl | rfl <;> rfl
/-- Any way that Made goes. -/
theorem made_cases (x : Sm) {P : En → Prop}
    (h1 : P (gE x.row.rd x.row.tb (x.row.st * 2 + 1 + ((x.bd % 2 : Nat) : Int)) (1 + ((x.vs % 4 : Nat) : Int)) 1 (x.wt % 4) (decide (3 < x.wt % 8)) [x.one] 0 0))
    (h3 : P (gE x.row.rd x.row.tb (x.row.st * 2 + 1 + ((x.bd % 2 : Nat) : Int)) (1 + ((x.vs % 4 : Nat) : Int)) 3 (x.wt % 4) (decide (3 < x.wt % 8)) [x.one, wonO ((x.wt % 14 : Nat) : Int) 0] 0 0))
    (h2 : P (gE x.row.rd x.row.tb (x.row.st * 2 + 1 + ((x.bd % 2 : Nat) : Int)) (1 + ((x.vs % 4 : Nat) : Int)) 2 0 false [wonO ((x.tk % 14 : Nat) : Int) (1 + ((x.wt % 99 : Nat) : Int)), wonO ((x.bd % 14 : Nat) : Int) (100 - (1 + ((x.wt % 99 : Nat) : Int)))] 0 0))
    (h4 : P (gE x.row.rd x.row.tb (x.row.st * 2 + 1 + ((x.bd % 2 : Nat) : Int)) (1 + ((x.vs % 4 : Nat) : Int)) 4 0 false [] (awN (x.tk % 7)) (awN (x.wt % 7))))
    (h0 : P (gE x.row.rd x.row.tb (x.row.st * 2 + 1 + ((x.bd % 2 : Nat) : Int)) (1 + ((x.vs % 4 : Nat) : Int)) 0 0 false [] 0 0)) : P (madeE x) := by
  have hk : x.kd % 5 < 5 := Nat.mod_lt _ (by omega)
  unfold madeE Sm.base
  rcases (by omega : x.kd % 5 = 1 ∨ x.kd % 5 = 3 ∨ x.kd % 5 = 2 ∨ x.kd % 5 = 4 ∨ x.kd % 5 = 0) with h | h | h | h | h <;> rw [h]
  · exact h1
  · exact h3
  · exact h2
  · exact h4
  · exact h0
theorem made_right (x : Sm) : rightE (madeE x) = true := by
  refine made_cases x (P := fun e => rightE e = true) ?_ ?_ ?_ ?_ ?_
  · exact right1 (by omega) (won_ok (by omega) (by omega))
  · exact right3 (by omega) (won_ok (by omega) (by omega)) (won_ok (by omega) (by omega))
  · refine right2 (won_ok (by omega) (by omega)) (won_ok (by omega) (by omega)) ?_ ?_ ?_
    · show 1 + ((x.wt % 99 : Nat) : Int) ≠ 0; omega
    · show 100 - (1 + ((x.wt % 99 : Nat) : Int)) ≠ 0; omega
    · show 1 + ((x.wt % 99 : Nat) : Int) + (100 - (1 + ((x.wt % 99 : Nat) : Int))) = 100; omega
  · exact right4 (awd_N _ (Nat.mod_lt _ (by omega))) (awd_N _ (Nat.mod_lt _ (by omega)))
  · exact right0
theorem made_nums (x : Sm) : (madeE x).rd = x.row.rd ∧ (madeE x).tb = x.row.tb ∧ (madeE x).bd = x.row.st * 2 + 1 + ((x.bd % 2 : Nat) : Int) ∧ (madeE x).vs = 1 + ((x.vs % 4 : Nat) : Int) :=
  made_cases x (P := fun e => e.rd = x.row.rd ∧ e.tb = x.row.tb ∧ e.bd = x.row.st * 2 + 1 + ((x.bd % 2 : Nat) : Int) ∧ e.vs = 1 + ((x.vs % 4 : Nat) : Int)) ⟨rfl, rfl, rfl, rfl⟩ ⟨rfl, rfl, rfl, rfl⟩ ⟨rfl, rfl, rfl, rfl⟩ ⟨rfl, rfl, rfl, rfl⟩ ⟨rfl, rfl, rfl, rfl⟩
theorem row_facts (x : Sm) : seRows.find? (fun r => decide (r.rd = x.row.rd) && decide (r.tb = x.row.tb)) = some x.row ∧ 0 < x.row.ns ∧ 0 < x.row.ew ∧ 0 ≤ x.row.st ∧ x.row.st ≤ 2 ∧ 0 ≤ x.row.rd ∧ x.row.rd ≤ 1 ∧ 0 ≤ x.row.tb ∧ x.row.tb ≤ 2 := by
  unfold Sm.row
  have : x.rw % 6 < 6 := Nat.mod_lt _ (by omega)
  rcases (by omega : x.rw % 6 = 0 ∨ x.rw % 6 = 1 ∨ x.rw % 6 = 2 ∨ x.rw % 6 = 3 ∨ x.rw % 6 = 4 ∨ x.rw % 6 = 5) with h | h | h | h | h | h <;> rw [h] <;> exact ⟨rfl, by decide, by decide, by decide, by decide, by decide, by decide, by decide, by decide⟩
theorem made_check (x : Sm) : checkE 2 seRows (madeE x) = 0 := by
  obtain ⟨e1, e2, e3, e4⟩ := made_nums x
  obtain ⟨hf, h1, h2, h3, h4, -⟩ := row_facts x
  have hfi : seRows.find? (isRow (madeE x)) = some x.row := by
    have : isRow (madeE x) = fun r => decide (r.rd = x.row.rd) && decide (r.tb = x.row.tb) := by
      funext r
      unfold isRow
      rw [e1, e2]
    rw [this]; exact hf
  unfold checkE
  rw [hfi]
  show checkR 2 x.row (madeE x) = 0
  rw [checkR_end (by omega) (by omega) ?_ ?_, if_pos (made_right x)]
  · rw [e3]
    rintro (h | h | h | h)
    · omega
    · omega
    · omega
    · apply h
      rw [Int.tdiv_eq_ediv_of_nonneg (by omega)]
      omega
  · rw [e4]; omega
theorem inI_small {n : Int} (h : -1000 ≤ n ∧ n ≤ 1000) : inI n := ⟨by omega, by omega⟩
theorem won_in {t w : Int} (h : 0 ≤ t ∧ t ≤ 13) (hw : 0 ≤ w ∧ w ≤ 100) : (wonO t w).In := ⟨by show 4 < 256; omega, by show 3 < 256; omega, by show 0 < 256; omega, by show 2 < 256; omega, inI_small (by show -1000 ≤ t ∧ t ≤ 1000; omega), inI_small (by show -1000 ≤ w ∧ w ≤ 1000; omega)⟩
theorem awN_in (k : Nat) (h : k < 7) : inI (awN k) := by
  rcases (by omega : k = 0 ∨ k = 1 ∨ k = 2 ∨ k = 3 ∨ k = 4 ∨ k = 5 ∨ k = 6) with rfl | rfl | rfl | rfl | rfl | rfl | rfl <;> exact ⟨by decide, by decide⟩
theorem gE_in {a b c d : Int} {k f : Nat} {t : Bool} {l : List Ou} {x y : Int} (h : inI a ∧ inI b ∧ inI c ∧ inI d) (hk : k < 256) (hf : f < 256) (hl : ∀ o ∈ l, o.In) (hx : inI x) (hy : inI y) : (gE a b c d k f t l x y).In :=
  ⟨h.1, h.2.1, h.2.2.1, h.2.2.2, hk, hf, getD_in hl 0, getD_in hl 1, getD_in hl 2, getD_in hl 3, hx, hy⟩
theorem made_in (x : Sm) : (madeE x).In := by
  obtain ⟨-, -, -, h3, h4, h5, h6, h7, h8⟩ := row_facts x
  have hb : inI x.row.rd ∧ inI x.row.tb ∧ inI (x.row.st * 2 + 1 + ((x.bd % 2 : Nat) : Int)) ∧ inI (1 + ((x.vs % 4 : Nat) : Int)) := ⟨inI_small (by omega), inI_small (by omega), inI_small (by omega), inI_small (by omega)⟩
  have z : inI 0 := ⟨by decide, by decide⟩
  refine made_cases x (P := fun e => e.In) ?_ ?_ ?_ ?_ ?_
  · exact gE_in hb (by omega) (by omega) (fun o ho => by
      rcases List.mem_cons.1 ho with rfl | ho
      · exact won_in (by omega) (by omega)
      · cases ho) z z
  · exact gE_in hb (by omega) (by omega) (fun o ho => by
      rcases List.mem_cons.1 ho with rfl | ho
      · exact won_in (by omega) (by omega)
      · rcases List.mem_cons.1 ho with rfl | ho
        · exact won_in (by omega) (by omega)
        · cases ho) z z
  · exact gE_in hb (by omega) (by omega) (fun o ho => by
      rcases List.mem_cons.1 ho with rfl | ho
      · exact won_in (by omega) (by omega)
      · rcases List.mem_cons.1 ho with rfl | ho
        · exact won_in (by omega) (by omega)
        · cases ho) z z
  · exact gE_in hb (by omega) (by omega) (fun o ho => by cases ho) (awN_in _ (Nat.mod_lt _ (by omega))) (awN_in _ (Nat.mod_lt _ (by omega)))
  · exact gE_in hb (by omega) (by omega) (fun o ho => by cases ho) z z
/-- The text of what Made returns is its own. -/
theorem made_is (x : Sm) : IsE (madeE x).txt (madeE x) := ⟨made_in x, made_right x, rfl⟩
end Go.Proofs.YtpkmibmombpjpaaGreatDoor
