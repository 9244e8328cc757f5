/- Entries of small numbers: Made. -/
import Derived.Test.YtpkmibmombpjpaaGreatDoorEY
import Derived.Test.YtpkmibmombpjpaaGreatDoorFlow4
set_option linter.unusedSimpArgs false
namespace Go.Proofs.YtpkmibmombpjpaaGreatDoor
open Go Go.RowKit

/-- Small numbers. -/
structure Sm where
  rw : Nat
  bd : Nat
  vs : Nat
  kd : Nat
  tk : Nat
  wt : Nat
structure Sm.In (x : Sm) : Prop where
  rw : x.rw < 256
  bd : x.bd < 256
  vs : x.vs < 256
  kd : x.kd < 256
  tk : x.tk < 256
  wt : x.wt < 256
def smC (x : Sm) : Array Value := #[.int .u8 (x.rw : Int), .int .u8 (x.bd : Int), .int .u8 (x.vs : Int), .int .u8 (x.kd : Int), .int .u8 (x.tk : Int), .int .u8 (x.wt : Int)]
def Sm.row (x : Sm) : Rw := seRows.getD (x.rw % 6) ⟨0, 0, 0, 0, 0⟩
theorem Sm.row_at (x : Sm) : seRows[x.rw % 6]? = some x.row := by
  unfold Sm.row
  have : x.rw % 6 < 6 := Nat.mod_lt _ (by omega)
  rcases (by omega : x.rw % 6 = 0 ∨ x.rw % 6 = 1 ∨ x.rw % 6 = 2 ∨ x.rw % 6 = 3 ∨ x.rw % 6 = 4 ∨ x.rw % 6 = 5) with h | h | h | h | h | h <;> rw [h] <;> rfl
def awN (k : Nat) : Int := [0, 30, 40, 50, 60, 70, 100].getD k 0
def Sm.base (x : Sm) (f : Nat) (t : Bool) (l : List Ou) (p q : Int) : En := gE x.row.rd x.row.tb (x.row.st * 2 + 1 + ((x.bd % 2 : Nat) : Int)) (1 + ((x.vs % 4 : Nat) : Int)) (x.kd % 5) f t l p q
def Sm.one (x : Sm) : Ou := wonO ((x.tk % 14 : Nat) : Int) 0
def madeE (x : Sm) : En :=
  if x.kd % 5 = 1 then x.base (x.wt % 4) (decide (3 < x.wt % 8)) [x.one] 0 0
  else if x.kd % 5 = 3 then x.base (x.wt % 4) (decide (3 < x.wt % 8)) [x.one, wonO ((x.wt % 14 : Nat) : Int) 0] 0 0
  else if x.kd % 5 = 2 then x.base 0 false [wonO ((x.tk % 14 : Nat) : Int) (1 + ((x.wt % 99 : Nat) : Int)), wonO ((x.bd % 14 : Nat) : Int) (100 - (1 + ((x.wt % 99 : Nat) : Int)))] 0 0
  else if x.kd % 5 = 4 then x.base 0 false [] (awN (x.tk % 7)) (awN (x.wt % 7))
  else x.base 0 false [] 0 0
theorem ouA_facts (o : Ou) : (ouA o).size = 6 ∧ (∀ v ∈ (ouA o).toList, v.oneCell' = true) ∧ (ouA o).all (·.oneCell') = true := ⟨rfl, ouA_one o, by kernel_rfl⟩
theorem won_at (t wt : Int) (w : World) : Calls Tryz.prog 21 #[.int .i64 t, .int .i64 wt] w (fun x w' => x = .returned (.agg (ouA (wonO t wt))) ∧ Below w.heap.size w w') := won_any t wt w
theorem put_ou {W : World} {p : Nat} {a b c d : Int} {k f : Nat} {t : Bool} {l : List Ou} {x y : Int} (o : Ou) (n : Nat) (hl : l.length = n) (h4 : n < 4) (h : Blk W p 34 (enC (gE a b c d k f t l x y))) : Blk (W.setCells p (7 + n * 6) (ouA o).toList) p 34 (enC (gE a b c d k f t (l ++ [o]) x y)) := by
  subst hl
  have hb := Blk.putC (ouL o) (7 + l.length * 6) W _ h
  rw [gE_ou _ _ _ _ _ _ _ _ _ _ _ h4] at hb
  exact hb
theorem put_first {a b c d : Int} {k f : Nat} {t : Bool} {x y : Int} (o : Ou) : putC (enC (gE a b c d k f t [] x y)) 7 (ouA o).toList = enC (gE a b c d k f t [o] x y) := gE_ou a b c d k f t [] x y o (by simp)
theorem put_again {a b c d : Int} {k f : Nat} {t : Bool} {x y : Int} (o : Ou) : putC (enC (gE a b c d k f t [o] x y)) 7 (ouA o).toList = enC (gE a b c d k f t [o] x y) := by
  show putC _ 7 (ouL o) = _
  unfold enC
  simp only [putC, ouL, List.setIfInBounds_toArray]
  rfl
theorem aw_at (k : Nat) (h : k < 7) : ([.int .i64 0, .int .i64 30, .int .i64 40, .int .i64 50, .int .i64 60, .int .i64 70, .int .i64 100] : List Value)[k]? = some (.int .i64 (awN k)) := by
  rcases (by omega : k = 0 ∨ k = 1 ∨ k = 2 ∨ k = 3 ∨ k = 4 ∨ k = 5 ∨ k = 6) with rfl | rfl | rfl | rfl | rfl | rfl | rfl <;> rfl
theorem row_st (x : Sm) : 0 ≤ x.row.st ∧ x.row.st ≤ 2 := by
  unfold Sm.row
  have : x.rw % 6 < 6 := Nat.mod_lt _ (by omega)
  rcases (by omega : x.rw % 6 = 0 ∨ x.rw % 6 = 1 ∨ x.rw % 6 = 2 ∨ x.rw % 6 = 3 ∨ x.rw % 6 = 4 ∨ x.rw % 6 = 5) with h | h | h | h | h | h <;> rw [h] <;> decide
/-- As grBlk, with two stores one after the other. -/
def grBlk3 (B b : Nat) (t : TypeId) (C0 C1 C2 : Array Value) : Gr where
  r w1 w2 := Below B w1 w2 ∧ (∀ x t' c, x ≠ b → Blk w1 x t' c → Blk w2 x t' c) ∧ (Blk w1 b t C2 → Blk w2 b t C2) ∧ (Blk w1 b t C1 → Blk w2 b t C1 ∨ Blk w2 b t C2) ∧ (Blk w1 b t C0 → Blk w2 b t C0 ∨ Blk w2 b t C1 ∨ Blk w2 b t C2)
  refl _ := ⟨Below.refl _ _, fun _ _ _ _ h => h, id, Or.inl, Or.inl⟩
  trans h1 h2 := ⟨h1.1.trans h2.1, fun x t' c hx h => h2.2.1 x t' c hx (h1.2.1 x t' c hx h), fun h => h2.2.2.1 (h1.2.2.1 h), fun h => (h1.2.2.2.1 h).elim h2.2.2.2.1 (fun h => Or.inr (h2.2.2.1 h)),
    fun h => (h1.2.2.2.2 h).elim h2.2.2.2.2 (fun h => Or.inr (h.elim h2.2.2.2.1 (fun h => Or.inr (h2.2.2.1 h))))⟩
theorem grBlk3_below {B b : Nat} {t : TypeId} {C0 C1 C2 : Array Value} {w1 w2 : World} (h : Below w1.heap.size w1 w2) (hB : B ≤ w1.heap.size) : (grBlk3 B b t C0 C1 C2).r w1 w2 :=
  ⟨h.mono hB, fun _ _ _ _ hx => hx.keep h hx.lt, fun hx => hx.keep h hx.lt, fun hx => Or.inl (hx.keep h hx.lt), fun hx => Or.inl (hx.keep h hx.lt)⟩
def SpG.one {B b : Nat} {t : TypeId} {C0 C1 C2 : Array Value} : SpG (grBlk3 B b t C0 C1 C2) := ⟨fun _ w => Blk w b t C1 ∨ Blk w b t C2, fun _ _ _ h hr => h.elim hr.2.2.2.1 (fun h => Or.inr (hr.2.2.1 h))⟩
def SpG.two {B b : Nat} {t : TypeId} {C0 C1 C2 : Array Value} : SpG (grBlk3 B b t C0 C1 C2) := ⟨fun _ w => Blk w b t C2, fun _ _ _ h hr => hr.2.2.1 h⟩
theorem grBlk3_one {B b : Nat} {t : TypeId} {C0 C1 C2 : Array Value} {w1 : World} {i : Nat} {v : Value} (hB : B ≤ b) (h : Blk w1 b t C0 ∨ Blk w1 b t C1 ∨ Blk w1 b t C2) (h0 : C0.setIfInBounds i v = C1) (h1 : C1.setIfInBounds i v = C1) (h2 : C2.setIfInBounds i v = C2) :
    (Blk (w1.setCell ⟨b, i, none⟩ v) b t C1 ∨ Blk (w1.setCell ⟨b, i, none⟩ v) b t C2) ∧ (grBlk3 B b t C0 C1 C2).r w1 (w1.setCell ⟨b, i, none⟩ v) := by
  have hs0 : Blk w1 b t C0 → Blk (w1.setCell ⟨b, i, none⟩ v) b t C1 := fun h => by have := h.set i v; rwa [h0] at this
  have hs1 : Blk w1 b t C1 → Blk (w1.setCell ⟨b, i, none⟩ v) b t C1 := fun h => by have := h.set i v; rwa [h1] at this
  have hs2 : Blk w1 b t C2 → Blk (w1.setCell ⟨b, i, none⟩ v) b t C2 := fun h => by have := h.set i v; rwa [h2] at this
  exact ⟨h.elim (fun h => Or.inl (hs0 h)) (fun h => h.elim (fun h => Or.inl (hs1 h)) (fun h => Or.inr (hs2 h))),
    (Below.refl _ _).setCell (p := ⟨b, i, none⟩) hB v, fun x t' c hx hk => hk.other hx i v, hs2, fun h => Or.inl (hs1 h), fun h => Or.inr (Or.inl (hs0 h))⟩
theorem grBlk3_two {B b : Nat} {t : TypeId} {C0 C1 C2 : Array Value} {w1 : World} {i : Nat} {v : Value} (hB : B ≤ b) (h : Blk w1 b t C1 ∨ Blk w1 b t C2) (h1 : C1.setIfInBounds i v = C2) (h2 : C2.setIfInBounds i v = C2) :
    Blk (w1.setCell ⟨b, i, none⟩ v) b t C2 ∧ (grBlk3 B b t C0 C1 C2).r w1 (w1.setCell ⟨b, i, none⟩ v) := by
  have hs : Blk (w1.setCell ⟨b, i, none⟩ v) b t C2 := by
    rcases h with h | h
    · have := h.set i v; rwa [h1] at this
    · have := h.set i v; rwa [h2] at this
  exact ⟨hs, (Below.refl _ _).setCell (p := ⟨b, i, none⟩) hB v, fun x t' c hx hk => hk.other hx i v, fun _ => hs, fun _ => Or.inr hs, fun _ => Or.inr (Or.inr hs)⟩
/-- A store of several cells. -/
theorem grBlk_put {B b : Nat} {t : TypeId} {C C' : Array Value} {w1 : World} {i : Nat} {vs : List Value} (hB : B ≤ b) (h : Blk w1 b t C ∨ Blk w1 b t C') (h1 : putC C i vs = C') (h2 : putC C' i vs = C') :
    Blk (w1.setCells b i vs) b t C' ∧ (grBlk B b t C C').r w1 (w1.setCells b i vs) := by
  have hs : Blk (w1.setCells b i vs) b t C' := by
    rcases h with h | h
    · have := Blk.putC vs i w1 _ h; rwa [h1] at this
    · have := Blk.putC vs i w1 _ h; rwa [h2] at this
  exact ⟨hs, Below.setCells' hB vs i w1 (Below.refl _ _), fun x t' c hx hk => Blk.otherCells hx vs i w1 hk, fun _ => hs, fun _ => Or.inr hs⟩
/-- A pointer to a cell that holds x. -/
def Sp.ptr (x : Value) : Sp := ⟨fun v w => ∃ b o, v = .pointer (some ⟨b, o, none⟩) ∧ b < w.heap.size ∧ w.cell? ⟨b, o, none⟩ = some x, fun _ _ _ ⟨b, o, h1, h2, h3⟩ hb => ⟨b, o, h1, Nat.lt_of_lt_of_le h2 hb.size, (hb.cell h2).trans h3⟩⟩
set_option maxRecDepth 100000 in
set_option maxHeartbeats 4000000 in
theorem made_any (x : Sm) (hx : x.In) (w : World) : Calls Tryz.prog 26 #[.agg (smC x)] w (fun e w' => e = .returned (.agg (enC (madeE x))) ∧ Below w.heap.size w w') := by
  have SE := Lib.hid (fun W => session_any W)
  have HXI := Lib.hid hx
  have HAT := Lib.hid x.row_at
  obtain ⟨M, hM⟩ : ∃ M, madeE x = M := ⟨_, rfl⟩
  rw [hM]
  have HM := Lib.hid hM
  clear hM hx
  go_enter Tryz.func26, Tryz.ntmps26
  go_upto_region 1 with fail
  rw [← zE_lit]
  have HS : Hid (Blk ((w.alloc (.cells (smC x) 61)).alloc (.cells (enC zE) 34)) w.heap.size 61 (smC x)) := Lib.hid ((Blk.new w _ _).alloc _)
  have HZ : Hid (Blk ((w.alloc (.cells (smC x) 61)).alloc (.cells (enC zE) 34)) (w.heap.size + 1) 34 (enC zE)) := Lib.hid (by
    have := Blk.new (w.alloc (.cells (smC x) 61)) 34 (enC zE)
    rwa [size_al] at this)
  have HW : Hid (Below w.heap.size w ((w.alloc (.cells (smC x) 61)).alloc (.cells (enC zE) 34))) := Lib.hid ((below1 w _).alloc (by simp) _)
  generalize (w.alloc (.cells (smC x) 61)).alloc (.cells (enC zE) 34) = W1 at *
  obtain ⟨p2, hp2⟩ : ∃ p2, w.heap.size + 1 = p2 := ⟨_, rfl⟩
  rw [hp2] at HZ ⊢
  obtain ⟨p1, hp1⟩ : ∃ p1, w.heap.size = p1 := ⟨_, rfl⟩
  rw [hp1] at HS HW hp2 ⊢
  have HP := Lib.hid (And.intro hp1 hp2)
  clear hp1 hp2
  go_wp2_with fail
  refine (SE.out _).mono ?_
  rintro e w2 ⟨v, rfl, hv, hb⟩
  obtain ⟨A, cp, rfl, hcp⟩ := hv.len
  obtain ⟨bl, ol, rfl⟩ := hv.ptr (by show 0 < 6; omega)
  have HS2 := HS.out.keep hb HS.out.lt
  have HZ2 := HZ.out.keep hb HZ.out.lt
  have HW2 := HW.out.trans (hb.mono (by rw [← HP.out.1]; exact HW.out.size))
  have hls := HS2.lt
  have hlz := HZ2.lt
  have hle := HW2.size
  rw [HP.out.1] at hle
  rw [show seRows.length = 6 from rfl] at hv ⊢
  clear hcp
  have st := storeAt_row (T := 26) (C := snC 3 2 3 1 2 (.slice (some ⟨bl, ol, none⟩) 6 cp) 2) (Blk.new w2 26 #[.int .i64 0, .int .i64 0, .int .i64 0, .int .i64 0, .int .i64 0, .slice none 0 0, .int .i64 0]) (by kernel_rfl) rfl (by kernel_rfl)
  rw [setRow_new] at st
  obtain ⟨p3, hp3⟩ : ∃ p3, w2.heap.size = p3 := ⟨_, rfl⟩
  rw [hp3] at st
  have HS3 := Lib.hid (HS2.alloc (.cells (snC 3 2 3 1 2 (.slice (some ⟨bl, ol, none⟩) 6 cp) 2) 26))
  have HZ3 := Lib.hid (HZ2.alloc (.cells (snC 3 2 3 1 2 (.slice (some ⟨bl, ol, none⟩) 6 cp) 2) 26))
  have HW3 := Lib.hid (HW2.alloc (by omega) (.cells (snC 3 2 3 1 2 (.slice (some ⟨bl, ol, none⟩) 6 cp) 2) 26))
  have HN3 := Lib.hid (Blk.new w2 26 (snC 3 2 3 1 2 (.slice (some ⟨bl, ol, none⟩) 6 cp) 2))
  rw [hp3] at HN3
  have HV3 := Lib.hid (hv.keep (below1 w2 (.cells (snC 3 2 3 1 2 (.slice (some ⟨bl, ol, none⟩) 6 cp) 2) 26)))
  clear HS2 HZ2 HW2 HS HZ HW hb hls hlz hle hv SE
  go_upto_region 2 with (refine op_store (p := .pointer (some ⟨p3, 0, none⟩)) (C := .agg (snC 3 2 3 1 2 (.slice (some ⟨bl, ol, none⟩) 6 cp) 2)) 26 (.tmp 3) (.tmp 7) rfl rfl rfl rfl rfl st ?_)
  clear st
  generalize w2.alloc (.cells (snC 3 2 3 1 2 (.slice (some ⟨bl, ol, none⟩) 6 cp) 2) 26) = W3 at *
  clear hp3
  clear w2
  clear W1
  have x5 : W3.cell? ⟨p3, 5, none⟩ = some (.slice (some ⟨bl, ol, none⟩) 6 cp) := HN3.out.cell rfl
  have s0 : W3.cell? ⟨p1, 0, none⟩ = some (.int .u8 (x.rw : Int)) := HS3.out.cell rfl
  have k0 : IntKind.i64.wrap (x.rw : Int) = (x.rw : Int) := IntWalk.i64_in _ (by have := HXI.out.rw; omega)
  have r0 : ((x.rw : Int) % 6).toNat = x.rw % 6 := by omega
  have r1 : (0 : Int) ≤ (x.rw : Int) % 6 := by omega
  have r2 : (x.rw : Int) % 6 < 6 := by omega
  have lo := WS.load HV3.out HAT.out (Below.refl _ _)
  have st := storeAt_row (T := 90) (C := rwC x.row) (Blk.new W3 90 #[.int .i64 0, .int .i64 0, .int .i64 0, .int .i64 0, .int .i64 0]) (by kernel_rfl) rfl (by kernel_rfl)
  rw [setRow_new] at st
  have hz := HZ3.out.lt
  have hs := HS3.out.lt
  have hle := HW3.out.size
  rw [HP.out.1] at hle
  obtain ⟨p4, hp4⟩ : ∃ p4, W3.heap.size = p4 := ⟨_, rfl⟩
  rw [hp4] at st
  have HS4 := Lib.hid (HS3.out.alloc (.cells (rwC x.row) 90))
  have HZ4 := Lib.hid (HZ3.out.alloc (.cells (rwC x.row) 90))
  have HW4 := Lib.hid (HW3.out.alloc (by omega) (.cells (rwC x.row) 90))
  have HN4 := Lib.hid (Blk.new W3 90 (rwC x.row))
  rw [hp4] at HN4
  obtain ⟨R, hR⟩ : ∃ R, x.row = R := ⟨_, rfl⟩
  have hst := row_st x
  rw [hR] at lo st HS4 HZ4 HW4 HN4 hst
  clear hz hs hle HS3 HZ3 HW3 HN3 HV3
  go_upto_region 3 with (first
    | refine op_load (p := .pointer (some ⟨bl, ol + x.rw % 6 * 5, none⟩)) (C := .agg (rwC R)) 90 (.tmp 15) rfl rfl rfl lo ?_
    | refine op_store (p := .pointer (some ⟨p4, 0, none⟩)) (C := .agg (rwC R)) 90 (.tmp 4) (.tmp 16) rfl rfl rfl rfl rfl st ?_)
  clear lo st x5 s0 k0 r0 r1 r2 hp4
  generalize W3.alloc (.cells (rwC R) 90) = W4 at *
  clear W3
  have y0 : W4.cell? ⟨p4, 0, none⟩ = some (.int .i64 R.rd) := HN4.out.cell rfl
  have y1 : W4.cell? ⟨p4, 1, none⟩ = some (.int .i64 R.tb) := HN4.out.cell rfl
  have y4 : W4.cell? ⟨p4, 4, none⟩ = some (.int .i64 R.st) := HN4.out.cell rfl
  have s1 : W4.cell? ⟨p1, 1, none⟩ = some (.int .u8 (x.bd : Int)) := HS4.out.cell rfl
  have s2 : W4.cell? ⟨p1, 2, none⟩ = some (.int .u8 (x.vs : Int)) := HS4.out.cell rfl
  have s3 : W4.cell? ⟨p1, 3, none⟩ = some (.int .u8 (x.kd : Int)) := HS4.out.cell rfl
  have k1 : IntKind.i64.wrap (x.bd : Int) = (x.bd : Int) := IntWalk.i64_in _ (by have := HXI.out.bd; omega)
  have k2 : IntKind.i64.wrap (x.vs : Int) = (x.vs : Int) := IntWalk.i64_in _ (by have := HXI.out.vs; omega)
  obtain ⟨B, hB⟩ : ∃ B, R.st * 2 + 1 + ((x.bd % 2 : Nat) : Int) = B := ⟨_, rfl⟩
  obtain ⟨V, hV⟩ : ∃ V, 1 + ((x.vs % 4 : Nat) : Int) = V := ⟨_, rfl⟩
  obtain ⟨K, hK⟩ : ∃ K, x.kd % 5 = K := ⟨_, rfl⟩
  have a1 : IntKind.i64.wrap (R.st * 2) = R.st * 2 := IntWalk.i64_in _ (by omega)
  have a2 : IntKind.i64.wrap (R.st * 2 + 1) = R.st * 2 + 1 := IntWalk.i64_in _ (by omega)
  have a3 : IntKind.i64.wrap (R.st * 2 + 1 + (x.bd : Int) % 2) = B := by rw [← hB]; exact IntWalk.i64_in _ (by omega)
  have a4 : IntKind.i64.wrap (1 + (x.vs : Int) % 4) = V := by rw [← hV]; exact IntWalk.i64_in _ (by omega)
  have a5 : (x.kd : Int) % 5 = (K : Int) := by omega
  have hK5 : K < 5 := by omega
  have HM2 : Hid (M = if K = 1 then gE R.rd R.tb B V K (x.wt % 4) (decide (3 < x.wt % 8)) [x.one] 0 0
    else if K = 3 then gE R.rd R.tb B V K (x.wt % 4) (decide (3 < x.wt % 8)) [x.one, wonO ((x.wt % 14 : Nat) : Int) 0] 0 0
    else if K = 2 then gE R.rd R.tb B V K 0 false [wonO ((x.tk % 14 : Nat) : Int) (1 + ((x.wt % 99 : Nat) : Int)), wonO ((x.bd % 14 : Nat) : Int) (100 - (1 + ((x.wt % 99 : Nat) : Int)))] 0 0
    else if K = 4 then gE R.rd R.tb B V K 0 false [] (awN (x.tk % 7)) (awN (x.wt % 7))
    else gE R.rd R.tb B V K 0 false [] 0 0) := Lib.hid (by
      rw [← HM.out]
      unfold madeE Sm.base
      rw [hR, hK, hB, hV])
  clear hB hV hK hst HM HAT hR
  generalize R.rd = rd at *
  generalize R.tb = tb at *
  generalize R.st = sT at *
  obtain ⟨p5, hp5⟩ : ∃ p5, W4.heap.size = p5 := ⟨_, rfl⟩
  have st := storeAt_row (T := 34) (C := enC (gE rd tb B V K 0 false [] 0 0)) (Blk.new W4 34 (enC zE)) (by rw [enC_size]; kernel_rfl) (by simp only [enC_size]) (enC_one _)
  rw [setRow_new, zE_lit] at st
  rw [hp5] at st
  have hz := HZ4.out.lt
  have hs := HS4.out.lt
  have hle := HW4.out.size
  rw [HP.out.1] at hle
  have HL : Hid (p1 ≠ p5 ∧ p2 ≠ p5 ∧ p1 ≤ p5 ∧ p1 ≤ p2) := Lib.hid (by have := HP.out.2; omega)
  have HS5 := Lib.hid (HS4.out.alloc (.cells (enC (gE rd tb B V K 0 false [] 0 0)) 34))
  have HZ5 := Lib.hid (HZ4.out.alloc (.cells (enC (gE rd tb B V K 0 false [] 0 0)) 34))
  have HW5 := Lib.hid (HW4.out.alloc (by omega) (.cells (enC (gE rd tb B V K 0 false [] 0 0)) 34))
  have HB5 := Lib.hid (Blk.new W4 34 (enC (gE rd tb B V K 0 false [] 0 0)))
  rw [hp5] at HB5
  clear hz hs hle HS4 HZ4 HW4 HN4
  go_upto_region 4 with (first
    | (rw [a5]; refine op_build 34 _ (enC (gE rd tb B V K 0 false [] 0 0)) rfl rfl (by kernel_rfl) ?_)
    | refine op_store (p := .pointer (some ⟨p5, 0, none⟩)) (C := .agg (enC (gE rd tb B V K 0 false [] 0 0))) 34 (.tmp 5) (.tmp 38) rfl rfl rfl rfl rfl st ?_)
  clear st y0 y1 y4 s1 s2 s3 k1 k2 a1 a2 a3 a4 a5 hp5
  generalize W4.alloc (.cells (enC (gE rd tb B V K 0 false [] 0 0)) 34) = W5 at *
  clear W4
  by_cases h1 : K = 1
  · subst h1
    obtain ⟨f4, hf4⟩ : ∃ q, x.wt % 4 = q := ⟨_, rfl⟩
    obtain ⟨w8, hw8⟩ : ∃ q, x.wt % 8 = q := ⟨_, rfl⟩
    obtain ⟨tv, htv⟩ : ∃ q, decide (3 < x.wt % 8) = q := ⟨_, rfl⟩
    obtain ⟨t14, ht14⟩ : ∃ q, x.tk % 14 = q := ⟨_, rfl⟩
    obtain ⟨w14, hw14⟩ : ∃ q, x.wt % 14 = q := ⟨_, rfl⟩
    have HX : Hid (M = (gE rd tb B V 1 f4 tv [wonO (t14 : Int) 0] 0 0)) := Lib.hid (by rw [HM2.out]; show gE rd tb B V 1 (x.wt % 4) (decide (3 < x.wt % 8)) _ 0 0 = _; rw [hf4, htv, ← ht14]; rfl)
    have r4 : (x.wt : Int).tmod 4 = (f4 : Int) := by rw [Int.tmod_eq_emod_of_nonneg (by omega)]; omega
    have r8 : (x.wt : Int).tmod 8 = (w8 : Int) := by rw [Int.tmod_eq_emod_of_nonneg (by omega)]; omega
    have u8 : decide (3 < (w8 : Int)) = tv := by rw [← htv, decide_eq_decide]; omega
    have r14 : (x.tk : Int).tmod 14 = (t14 : Int) := by rw [Int.tmod_eq_emod_of_nonneg (by omega)]; omega
    have s14 : (x.wt : Int).tmod 14 = (w14 : Int) := by rw [Int.tmod_eq_emod_of_nonneg (by omega)]; omega
    have kt : IntKind.i64.wrap (x.tk : Int) = (x.tk : Int) := IntWalk.i64_in _ (by have := HXI.out.tk; omega)
    have kw : IntKind.i64.wrap (x.wt : Int) = (x.wt : Int) := IntWalk.i64_in _ (by have := HXI.out.wt; omega)
    clear hf4 hw8 htv ht14 hw14
    have WN := Lib.hid (fun W => won_at (t14 : Int) 0 W)
    have HPC : Hid (∀ W, Blk W p5 34 (enC (gE rd tb B V 1 f4 tv [] 0 0)) → Blk (W.setCells p5 7 (ouA (wonO (t14 : Int) 0)).toList) p5 34 (enC (gE rd tb B V 1 f4 tv [wonO (t14 : Int) 0] 0 0))) := Lib.hid (fun W h => put_ou (wonO (t14 : Int) 0) 0 rfl (by omega) h)
    have HOA := Lib.hid (ouA_facts (wonO (t14 : Int) 0))
    generalize ouA (wonO (t14 : Int) 0) = OA at *
    have x4 : W5.cell? ⟨p5, 4, none⟩ = some (.int .u8 1) := HB5.out.cell (enC_kd _)
    clear hK5 HM2
    go_upto_region 7 with fail
    clear x4
    have HS6 : Hid (Blk W5.drew p1 61 (smC x)) := HS5
    have HZ6 : Hid (Blk W5.drew p2 34 (enC zE)) := HZ5
    have hBlk : Blk W5.drew p5 34 (enC (gE rd tb B V 1 0 false [] 0 0)) := HB5.out
    have HW6 := Lib.hid HW5.out.drew
    refine rest_begin (by kernel_rfl) ?_
    obtain ⟨W6, hW6⟩ : ∃ W6, W5.drew = W6 := ⟨_, rfl⟩
    rw [hW6] at HS6 HZ6 hBlk HW6 ⊢
    clear hW6 HS5 HZ5 HB5 HW5
    clear W5
    have hBW : p1 ≤ W6.heap.size := by rw [← HP.out.1]; exact HW6.out.size
    have hBb : p1 ≤ p5 := HL.out.2.2.1
    refine rest_flowG (grBlk3 p1 p5 34 (enC (gE rd tb B V 1 0 false [] 0 0)) (enC (gE rd tb B V 1 f4 false [] 0 0)) (enC (gE rd tb B V 1 f4 tv [] 0 0))) [some 44, some 45, some 46, some 47, some 48, some 49, some 50, some 51, some 52, some 53, some 54, some 55, some 56, none, some 57, none, some 58, some 59] [SpG.is (.pointer (some ⟨p1, 5, none⟩)), SpG.is (.int .u8 (x.wt : Int)), SpG.is (.int .u8 (f4 : Int)), SpG.is (.pointer (some ⟨p1, 5, none⟩)), SpG.is (.int .u8 (x.wt : Int)), SpG.is (.int .u8 (w8 : Int)), SpG.is (.bool tv), SpG.is (.pointer (some ⟨p1, 4, none⟩)), SpG.is (.int .u8 (x.tk : Int)), SpG.is (.int .i64 (x.tk : Int)), SpG.is (.int .i64 (t14 : Int)), SpG.is (.agg OA), SpG.is (.pointer (some ⟨p5, 5, none⟩)), SpG.one, SpG.is (.pointer (some ⟨p5, 6, none⟩)), SpG.two, SpG.is (.pointer (some ⟨p5, 7, none⟩)), SpG.is (.pointer (some ⟨p5, 7, none⟩))] 18 (by kernel_rfl) (by kernel_rfl) (fun u F hF => ?_) (fun u w' hbF hsF => ?_)
    case refine_1 =>
      have E1 : F.eval (.tmp 1) = (.pointer (some ⟨p1, 0, none⟩)) := (congrArg (fun a => Act.eval a (.tmp 1)) hF).trans (eval_out [some 44, some 45, some 46, some 47, some 48, some 49, some 50, some 51, some 52, some 53, some 54, some 55, some 56, none, some 57, none, some 58, some 59] 0 _ (by decide))
      have D44 : F.eval (.tmp 44) = u 0 := (congrArg (fun a => Act.eval a (.tmp 44)) hF).trans (eval_in [some 44, some 45, some 46, some 47, some 48, some 49, some 50, some 51, some 52, some 53, some 54, some 55, some 56, none, some 57, none, some 58, some 59] 0 0 _ (by decide) (by omega) rfl (of_decide_eq_true (by kernel_rfl)))
      have D45 : F.eval (.tmp 45) = u 1 := (congrArg (fun a => Act.eval a (.tmp 45)) hF).trans (eval_in [some 44, some 45, some 46, some 47, some 48, some 49, some 50, some 51, some 52, some 53, some 54, some 55, some 56, none, some 57, none, some 58, some 59] 0 1 _ (by decide) (by omega) rfl (of_decide_eq_true (by kernel_rfl)))
      have D47 : F.eval (.tmp 47) = u 3 := (congrArg (fun a => Act.eval a (.tmp 47)) hF).trans (eval_in [some 44, some 45, some 46, some 47, some 48, some 49, some 50, some 51, some 52, some 53, some 54, some 55, some 56, none, some 57, none, some 58, some 59] 0 3 _ (by decide) (by omega) rfl (of_decide_eq_true (by kernel_rfl)))
      have D48 : F.eval (.tmp 48) = u 4 := (congrArg (fun a => Act.eval a (.tmp 48)) hF).trans (eval_in [some 44, some 45, some 46, some 47, some 48, some 49, some 50, some 51, some 52, some 53, some 54, some 55, some 56, none, some 57, none, some 58, some 59] 0 4 _ (by decide) (by omega) rfl (of_decide_eq_true (by kernel_rfl)))
      have D49 : F.eval (.tmp 49) = u 5 := (congrArg (fun a => Act.eval a (.tmp 49)) hF).trans (eval_in [some 44, some 45, some 46, some 47, some 48, some 49, some 50, some 51, some 52, some 53, some 54, some 55, some 56, none, some 57, none, some 58, some 59] 0 5 _ (by decide) (by omega) rfl (of_decide_eq_true (by kernel_rfl)))
      have D51 : F.eval (.tmp 51) = u 7 := (congrArg (fun a => Act.eval a (.tmp 51)) hF).trans (eval_in [some 44, some 45, some 46, some 47, some 48, some 49, some 50, some 51, some 52, some 53, some 54, some 55, some 56, none, some 57, none, some 58, some 59] 0 7 _ (by decide) (by omega) rfl (of_decide_eq_true (by kernel_rfl)))
      have D52 : F.eval (.tmp 52) = u 8 := (congrArg (fun a => Act.eval a (.tmp 52)) hF).trans (eval_in [some 44, some 45, some 46, some 47, some 48, some 49, some 50, some 51, some 52, some 53, some 54, some 55, some 56, none, some 57, none, some 58, some 59] 0 8 _ (by decide) (by omega) rfl (of_decide_eq_true (by kernel_rfl)))
      have D53 : F.eval (.tmp 53) = u 9 := (congrArg (fun a => Act.eval a (.tmp 53)) hF).trans (eval_in [some 44, some 45, some 46, some 47, some 48, some 49, some 50, some 51, some 52, some 53, some 54, some 55, some 56, none, some 57, none, some 58, some 59] 0 9 _ (by decide) (by omega) rfl (of_decide_eq_true (by kernel_rfl)))
      have D54 : F.eval (.tmp 54) = u 10 := (congrArg (fun a => Act.eval a (.tmp 54)) hF).trans (eval_in [some 44, some 45, some 46, some 47, some 48, some 49, some 50, some 51, some 52, some 53, some 54, some 55, some 56, none, some 57, none, some 58, some 59] 0 10 _ (by decide) (by omega) rfl (of_decide_eq_true (by kernel_rfl)))
      have E5 : F.eval (.tmp 5) = (.pointer (some ⟨p5, 0, none⟩)) := (congrArg (fun a => Act.eval a (.tmp 5)) hF).trans (eval_out [some 44, some 45, some 46, some 47, some 48, some 49, some 50, some 51, some 52, some 53, some 54, some 55, some 56, none, some 57, none, some 58, some 59] 0 _ (by decide))
      have D56 : F.eval (.tmp 56) = u 12 := (congrArg (fun a => Act.eval a (.tmp 56)) hF).trans (eval_in [some 44, some 45, some 46, some 47, some 48, some 49, some 50, some 51, some 52, some 53, some 54, some 55, some 56, none, some 57, none, some 58, some 59] 0 12 _ (by decide) (by omega) rfl (of_decide_eq_true (by kernel_rfl)))
      have D46 : F.eval (.tmp 46) = u 2 := (congrArg (fun a => Act.eval a (.tmp 46)) hF).trans (eval_in [some 44, some 45, some 46, some 47, some 48, some 49, some 50, some 51, some 52, some 53, some 54, some 55, some 56, none, some 57, none, some 58, some 59] 0 2 _ (by decide) (by omega) rfl (of_decide_eq_true (by kernel_rfl)))
      have D57 : F.eval (.tmp 57) = u 14 := (congrArg (fun a => Act.eval a (.tmp 57)) hF).trans (eval_in [some 44, some 45, some 46, some 47, some 48, some 49, some 50, some 51, some 52, some 53, some 54, some 55, some 56, none, some 57, none, some 58, some 59] 0 14 _ (by decide) (by omega) rfl (of_decide_eq_true (by kernel_rfl)))
      have D50 : F.eval (.tmp 50) = u 6 := (congrArg (fun a => Act.eval a (.tmp 50)) hF).trans (eval_in [some 44, some 45, some 46, some 47, some 48, some 49, some 50, some 51, some 52, some 53, some 54, some 55, some 56, none, some 57, none, some 58, some 59] 0 6 _ (by decide) (by omega) rfl (of_decide_eq_true (by kernel_rfl)))
      have D58 : F.eval (.tmp 58) = u 16 := (congrArg (fun a => Act.eval a (.tmp 58)) hF).trans (eval_in [some 44, some 45, some 46, some 47, some 48, some 49, some 50, some 51, some 52, some 53, some 54, some 55, some 56, none, some 57, none, some 58, some 59] 0 16 _ (by decide) (by omega) rfl (of_decide_eq_true (by kernel_rfl)))
      clear hF
      refine ⟨?_, ?_, ?_, ?_, ?_, ?_, ?_, ?_, ?_, ?_, ?_, ?_, ?_, ?_, ?_, ?_, ?_, ?_, trivial⟩
      · intro w1 hb hd K hK
        have e1 := E1
        exact op_val (v := (.pointer (some ⟨p1, 5, none⟩))) rfl (by simp only [execOp, List.map_toArray, List.map_cons, List.map_nil, e1]; go_simp) (hK _ _ (show _ = _ from rfl) ((grBlk3 p1 p5 34 (enC (gE rd tb B V 1 0 false [] 0 0)) (enC (gE rd tb B V 1 f4 false [] 0 0)) (enC (gE rd tb B V 1 f4 tv [] 0 0))).refl _))
      · intro w1 hb hd K hK
        have e44 := D44.trans (show u 0 = (.pointer (some ⟨p1, 5, none⟩)) from hd ⟨0, .data⟩ (by simp) rfl (by omega))
        have c0 : w1.cell? ⟨p1, 5, none⟩ = some (.int .u8 (x.wt : Int)) := ((hb.2.1 p1 _ _ HL.out.1 HS6.out).cell (j := 5) rfl)
        exact op_val (v := (.int .u8 (x.wt : Int))) rfl (by simp only [execOp, e44]; go_simp) (hK _ _ (show _ = _ from rfl) ((grBlk3 p1 p5 34 (enC (gE rd tb B V 1 0 false [] 0 0)) (enC (gE rd tb B V 1 f4 false [] 0 0)) (enC (gE rd tb B V 1 f4 tv [] 0 0))).refl _))
      · intro w1 hb hd K hK
        have e45 := D45.trans (show u 1 = (.int .u8 (x.wt : Int)) from hd ⟨1, .data⟩ (by simp) rfl (by omega))
        exact op_val (v := (.int .u8 (f4 : Int))) rfl (by simp only [execOp, List.map_toArray, List.map_cons, List.map_nil, e45]; go_simp) (hK _ _ (show _ = _ from rfl) ((grBlk3 p1 p5 34 (enC (gE rd tb B V 1 0 false [] 0 0)) (enC (gE rd tb B V 1 f4 false [] 0 0)) (enC (gE rd tb B V 1 f4 tv [] 0 0))).refl _))
      · intro w1 hb hd K hK
        have e1 := E1
        exact op_val (v := (.pointer (some ⟨p1, 5, none⟩))) rfl (by simp only [execOp, List.map_toArray, List.map_cons, List.map_nil, e1]; go_simp) (hK _ _ (show _ = _ from rfl) ((grBlk3 p1 p5 34 (enC (gE rd tb B V 1 0 false [] 0 0)) (enC (gE rd tb B V 1 f4 false [] 0 0)) (enC (gE rd tb B V 1 f4 tv [] 0 0))).refl _))
      · intro w1 hb hd K hK
        have e47 := D47.trans (show u 3 = (.pointer (some ⟨p1, 5, none⟩)) from hd ⟨3, .data⟩ (by simp) rfl (by omega))
        have c0 : w1.cell? ⟨p1, 5, none⟩ = some (.int .u8 (x.wt : Int)) := ((hb.2.1 p1 _ _ HL.out.1 HS6.out).cell (j := 5) rfl)
        exact op_val (v := (.int .u8 (x.wt : Int))) rfl (by simp only [execOp, e47]; go_simp) (hK _ _ (show _ = _ from rfl) ((grBlk3 p1 p5 34 (enC (gE rd tb B V 1 0 false [] 0 0)) (enC (gE rd tb B V 1 f4 false [] 0 0)) (enC (gE rd tb B V 1 f4 tv [] 0 0))).refl _))
      · intro w1 hb hd K hK
        have e48 := D48.trans (show u 4 = (.int .u8 (x.wt : Int)) from hd ⟨4, .data⟩ (by simp) rfl (by omega))
        exact op_val (v := (.int .u8 (w8 : Int))) rfl (by simp only [execOp, List.map_toArray, List.map_cons, List.map_nil, e48]; go_simp) (hK _ _ (show _ = _ from rfl) ((grBlk3 p1 p5 34 (enC (gE rd tb B V 1 0 false [] 0 0)) (enC (gE rd tb B V 1 f4 false [] 0 0)) (enC (gE rd tb B V 1 f4 tv [] 0 0))).refl _))
      · intro w1 hb hd K hK
        have e49 := D49.trans (show u 5 = (.int .u8 (w8 : Int)) from hd ⟨5, .data⟩ (by simp) rfl (by omega))
        exact op_val (v := (.bool tv)) rfl (by simp only [execOp, List.map_toArray, List.map_cons, List.map_nil, e49]; go_simp) (hK _ _ (show _ = _ from rfl) ((grBlk3 p1 p5 34 (enC (gE rd tb B V 1 0 false [] 0 0)) (enC (gE rd tb B V 1 f4 false [] 0 0)) (enC (gE rd tb B V 1 f4 tv [] 0 0))).refl _))
      · intro w1 hb hd K hK
        have e1 := E1
        exact op_val (v := (.pointer (some ⟨p1, 4, none⟩))) rfl (by simp only [execOp, List.map_toArray, List.map_cons, List.map_nil, e1]; go_simp) (hK _ _ (show _ = _ from rfl) ((grBlk3 p1 p5 34 (enC (gE rd tb B V 1 0 false [] 0 0)) (enC (gE rd tb B V 1 f4 false [] 0 0)) (enC (gE rd tb B V 1 f4 tv [] 0 0))).refl _))
      · intro w1 hb hd K hK
        have e51 := D51.trans (show u 7 = (.pointer (some ⟨p1, 4, none⟩)) from hd ⟨7, .data⟩ (by simp) rfl (by omega))
        have c0 : w1.cell? ⟨p1, 4, none⟩ = some (.int .u8 (x.tk : Int)) := ((hb.2.1 p1 _ _ HL.out.1 HS6.out).cell (j := 4) rfl)
        exact op_val (v := (.int .u8 (x.tk : Int))) rfl (by simp only [execOp, e51]; go_simp) (hK _ _ (show _ = _ from rfl) ((grBlk3 p1 p5 34 (enC (gE rd tb B V 1 0 false [] 0 0)) (enC (gE rd tb B V 1 f4 false [] 0 0)) (enC (gE rd tb B V 1 f4 tv [] 0 0))).refl _))
      · intro w1 hb hd K hK
        have e52 := D52.trans (show u 8 = (.int .u8 (x.tk : Int)) from hd ⟨8, .data⟩ (by simp) rfl (by omega))
        exact op_val (v := (.int .i64 (x.tk : Int))) rfl (by simp only [execOp, List.map_toArray, List.map_cons, List.map_nil, e52]; go_simp) (hK _ _ (show _ = _ from rfl) ((grBlk3 p1 p5 34 (enC (gE rd tb B V 1 0 false [] 0 0)) (enC (gE rd tb B V 1 f4 false [] 0 0)) (enC (gE rd tb B V 1 f4 tv [] 0 0))).refl _))
      · intro w1 hb hd K hK
        have e53 := D53.trans (show u 9 = (.int .i64 (x.tk : Int)) from hd ⟨9, .data⟩ (by simp) rfl (by omega))
        exact op_val (v := (.int .i64 (t14 : Int))) rfl (by simp only [execOp, List.map_toArray, List.map_cons, List.map_nil, e53]; go_simp) (hK _ _ (show _ = _ from rfl) ((grBlk3 p1 p5 34 (enC (gE rd tb B V 1 0 false [] 0 0)) (enC (gE rd tb B V 1 f4 false [] 0 0)) (enC (gE rd tb B V 1 f4 tv [] 0 0))).refl _))
      · intro w1 hb hd K hK
        have e54 := D54.trans (show u 10 = (.int .i64 (t14 : Int)) from hd ⟨10, .data⟩ (by simp) rfl (by omega))
        refine op_call (R := fun v w2 => v = (.agg OA) ∧ Below w1.heap.size w1 w2) (f := 21) (args := #[.int .i64 (t14 : Int), .int .i64 0]) rfl (by simp only [execOp]; go_simp; first | exact eval_get e54 | exact ⟨rfl, eval_get e54⟩ | exact ⟨eval_get e54, rfl⟩ | (simp only [Act.eval] at *; simp_all)) ((WN.out w1).mono fun e w2 hh => ⟨_, hh.1, rfl, hh.2⟩) (fun v w2 hh => hK _ _ hh.1 (grBlk3_below hh.2 (Nat.le_trans hBW hb.1.size)))
      · intro w1 hb hd K hK
        have e5 := E5
        exact op_val (v := (.pointer (some ⟨p5, 5, none⟩))) rfl (by simp only [execOp, List.map_toArray, List.map_cons, List.map_nil, e5]; go_simp) (hK _ _ (show _ = _ from rfl) ((grBlk3 p1 p5 34 (enC (gE rd tb B V 1 0 false [] 0 0)) (enC (gE rd tb B V 1 f4 false [] 0 0)) (enC (gE rd tb B V 1 f4 tv [] 0 0))).refl _))
      · intro w1 hb hd K hK
        have e56 := D56.trans (show u 12 = (.pointer (some ⟨p5, 5, none⟩)) from hd ⟨12, .data⟩ (by simp) rfl (by omega))
        have e46 := D46.trans (show u 2 = (.int .u8 (f4 : Int)) from hd ⟨2, .data⟩ (by simp) rfl (by omega))
        have hor := hb.2.2.2.2 hBlk
        obtain ⟨xx, c0⟩ : ∃ q, w1.cell? ⟨p5, 5, none⟩ = some q := by rcases hor with h | h | h <;> exact ⟨_, h.cell (enC_fd _)⟩
        have f0 : w1.frozen? ⟨p5, 5, none⟩ = false := by rcases hor with h | h | h <;> exact h.free _
        have hs := grBlk3_one (v := (.int .u8 (f4 : Int))) hBb hor (gE_fd _ _ _ _ _ _ _ _ _ _ _) (gE_fd _ _ _ _ _ _ _ _ _ _ _) (gE_fd _ _ _ _ _ _ _ _ _ _ _)
        exact op_skip (w' := w1.setCell ⟨p5, 5, none⟩ (.int .u8 (f4 : Int))) rfl rfl (by simp only [execOp, e56, e46]; go_simp) (hK _ _ hs.1 hs.2)
      · intro w1 hb hd K hK
        have e5 := E5
        exact op_val (v := (.pointer (some ⟨p5, 6, none⟩))) rfl (by simp only [execOp, List.map_toArray, List.map_cons, List.map_nil, e5]; go_simp) (hK _ _ (show _ = _ from rfl) ((grBlk3 p1 p5 34 (enC (gE rd tb B V 1 0 false [] 0 0)) (enC (gE rd tb B V 1 f4 false [] 0 0)) (enC (gE rd tb B V 1 f4 tv [] 0 0))).refl _))
      · intro w1 hb hd K hK
        have e57 := D57.trans (show u 14 = (.pointer (some ⟨p5, 6, none⟩)) from hd ⟨14, .data⟩ (by simp) rfl (by omega))
        have e50 := D50.trans (show u 6 = (.bool tv) from hd ⟨6, .data⟩ (by simp) rfl (by omega))
        have hor : Blk w1 p5 34 (enC (gE rd tb B V 1 f4 false [] 0 0)) ∨ Blk w1 p5 34 (enC (gE rd tb B V 1 f4 tv [] 0 0)) := hd ⟨13, .chain⟩ (by simp) rfl (by omega)
        obtain ⟨xx, c0⟩ : ∃ q, w1.cell? ⟨p5, 6, none⟩ = some q := by rcases hor with h | h <;> exact ⟨_, h.cell (enC_tn _)⟩
        have f0 : w1.frozen? ⟨p5, 6, none⟩ = false := by rcases hor with h | h <;> exact h.free _
        have hs := grBlk3_two (C0 := (enC (gE rd tb B V 1 0 false [] 0 0))) (v := (.bool tv)) hBb hor (gE_tn _ _ _ _ _ _ _ _ _ _ _) (gE_tn _ _ _ _ _ _ _ _ _ _ _)
        exact op_skip (w' := w1.setCell ⟨p5, 6, none⟩ (.bool tv)) rfl rfl (by simp only [execOp, e57, e50]; go_simp) (hK _ _ hs.1 hs.2)
      · intro w1 hb hd K hK
        have e5 := E5
        exact op_val (v := (.pointer (some ⟨p5, 7, none⟩))) rfl (by simp only [execOp, List.map_toArray, List.map_cons, List.map_nil, e5]; go_simp) (hK _ _ (show _ = _ from rfl) ((grBlk3 p1 p5 34 (enC (gE rd tb B V 1 0 false [] 0 0)) (enC (gE rd tb B V 1 f4 false [] 0 0)) (enC (gE rd tb B V 1 f4 tv [] 0 0))).refl _))
      · intro w1 hb hd K hK
        have e58 := D58.trans (show u 16 = (.pointer (some ⟨p5, 7, none⟩)) from hd ⟨16, .data⟩ (by simp) rfl (by omega))
        exact op_val (v := (.pointer (some ⟨p5, 7, none⟩))) rfl (by simp only [execOp, List.map_toArray, List.map_cons, List.map_nil, e58]; go_simp) (hK _ _ (show _ = _ from rfl) ((grBlk3 p1 p5 34 (enC (gE rd tb B V 1 0 false [] 0 0)) (enC (gE rd tb B V 1 f4 false [] 0 0)) (enC (gE rd tb B V 1 f4 tv [] 0 0))).refl _))
    have hv44 : u 0 = (.pointer (some ⟨p1, 5, none⟩)) := (show u 0 = _ from hsF 0 (by omega) (by omega))
    have hv45 : u 1 = (.int .u8 (x.wt : Int)) := (show u 1 = _ from hsF 1 (by omega) (by omega))
    have hv46 : u 2 = (.int .u8 (f4 : Int)) := (show u 2 = _ from hsF 2 (by omega) (by omega))
    have hv47 : u 3 = (.pointer (some ⟨p1, 5, none⟩)) := (show u 3 = _ from hsF 3 (by omega) (by omega))
    have hv48 : u 4 = (.int .u8 (x.wt : Int)) := (show u 4 = _ from hsF 4 (by omega) (by omega))
    have hv49 : u 5 = (.int .u8 (w8 : Int)) := (show u 5 = _ from hsF 5 (by omega) (by omega))
    have hv50 : u 6 = (.bool tv) := (show u 6 = _ from hsF 6 (by omega) (by omega))
    have hv51 : u 7 = (.pointer (some ⟨p1, 4, none⟩)) := (show u 7 = _ from hsF 7 (by omega) (by omega))
    have hv52 : u 8 = (.int .u8 (x.tk : Int)) := (show u 8 = _ from hsF 8 (by omega) (by omega))
    have hv53 : u 9 = (.int .i64 (x.tk : Int)) := (show u 9 = _ from hsF 9 (by omega) (by omega))
    have hv54 : u 10 = (.int .i64 (t14 : Int)) := (show u 10 = _ from hsF 10 (by omega) (by omega))
    have hv55 : u 11 = (.agg OA) := (show u 11 = _ from hsF 11 (by omega) (by omega))
    have hv56 : u 12 = (.pointer (some ⟨p5, 5, none⟩)) := (show u 12 = _ from hsF 12 (by omega) (by omega))
    have hst1 : Blk w' p5 34 (enC (gE rd tb B V 1 f4 false [] 0 0)) ∨ Blk w' p5 34 (enC (gE rd tb B V 1 f4 tv [] 0 0)) := hsF 13 (by omega) (by omega)
    have hv57 : u 14 = (.pointer (some ⟨p5, 6, none⟩)) := (show u 14 = _ from hsF 14 (by omega) (by omega))
    have hst2 : Blk w' p5 34 (enC (gE rd tb B V 1 f4 tv [] 0 0)) := hsF 15 (by omega) (by omega)
    have hv58 : u 16 = (.pointer (some ⟨p5, 7, none⟩)) := (show u 16 = _ from hsF 16 (by omega) (by omega))
    have hv59 : u 17 = (.pointer (some ⟨p5, 7, none⟩)) := (show u 17 = _ from hsF 17 (by omega) (by omega))
    simp only [putRow, hv44, hv45, hv46, hv47, hv48, hv49, hv50, hv51, hv52, hv53, hv54, hv55, hv56, hv57, hv58, hv59, Act.put, List.setIfInBounds_toArray, List.set_cons_succ, List.set_cons_zero]
    clear hsF hv44 hv45 hv46 hv47 hv48 hv49 hv50 hv51 hv52 hv53 hv54 hv55 hv56 hv57 hv58 hv59
    have HS7 := Lib.hid (hbF.2.1 p1 _ _ HL.out.1 HS6.out)
    have HZ7 := Lib.hid (hbF.2.1 p2 _ _ HL.out.2.1 HZ6.out)
    have HB7 := Lib.hid hst2
    have HW7 := Lib.hid (HW6.out.trans hbF.1)
    clear hst1 hst2 HS6 HZ6 hBlk hBW hBb HW6 hbF WN r4 r8 u8 r14 kt
    clear W6
    have st := storeAt_run (T := 30) (w := w') (b := p5) (off := 7) (C := OA) (by rw [HOA.out.1]; kernel_rfl) (fun j hj => by rw [HOA.out.1] at hj; exact enC_cell HB7.out (7 + j) (by omega)) (fun j hj => HB7.out.free _) HOA.out.2.1
    refine rest_forced 1 (by kernel_rfl) ?_
    simp only [List.drop_succ_cons, List.drop_zero, List.take_succ_cons, List.take_zero]
    go_wp2_with (refine op_store (p := .pointer (some ⟨p5, 7, none⟩)) (C := .agg OA) 30 (.tmp 59) (.tmp 55) rfl rfl rfl rfl rfl st ?_)
    clear st
    refine rest_done rfl ?_
    have HS8 := Lib.hid (Blk.otherCells (b' := p5) HL.out.1 OA.toList 7 w' HS7.out)
    have HZ8 := Lib.hid (Blk.otherCells (b' := p5) HL.out.2.1 OA.toList 7 w' HZ7.out)
    have HB8 := Lib.hid (HPC.out w' HB7.out)
    have HW8 := Lib.hid (Below.setCells' (b := p5) HL.out.2.2.1 OA.toList 7 w' HW7.out)
    clear HS7 HZ7 HB7 HW7 HPC HOA
    generalize w'.setCells p5 7 OA.toList = W8 at *
    clear w'
    have x4 : W8.cell? ⟨p5, 4, none⟩ = some (.int .u8 1) := HB8.out.cell (enC_kd _)
    have la := loadAt_blk (T := 34) HB8.out Tryz.underlying34 rfl (by rw [enC_size]; kernel_rfl)
    have st := storeAt_row (T := 34) (C := enC (gE rd tb B V 1 f4 tv [wonO (t14 : Int) 0] 0 0)) HZ8.out (by rw [enC_size]; kernel_rfl) (by simp only [enC_size]) (enC_one _)
    have HF := Lib.hid (HZ8.out.row (enC (gE rd tb B V 1 f4 tv [wonO (t14 : Int) 0] 0 0)))
    have HQ := Lib.hid (Below.setRow' HL.out.2.2.2 HW8.out (enC (gE rd tb B V 1 f4 tv [wonO (t14 : Int) 0] 0 0)))
    clear HZ8 HB8 HW8
    go_wp2_with (first | refine op_load (p := .pointer (some ⟨p5, 0, none⟩)) 34 (.tmp 5) rfl rfl rfl la ?_ | refine op_store (p := .pointer (some ⟨p2, 0, none⟩)) (C := .agg (enC (gE rd tb B V 1 f4 tv [wonO (t14 : Int) 0] 0 0))) 34 (.tmp 2) (.tmp 110) rfl rfl rfl rfl rfl st ?_)
    clear st la
    generalize W8.setRow p2 (enC (gE rd tb B V 1 f4 tv [wonO (t14 : Int) 0] 0 0)) = WF at *
    have lf := loadVar_blk (T := 34) HF.out Tryz.underlying34 rfl (by rw [enC_size]; kernel_rfl)
    (try simp only [Exit.inBlock, Exit.then])
    refine bodyPost_ret (results_cell Tryz.results26 rfl lf) rfl ?_
    exact ⟨by rw [HX.out], by rw [HP.out.1]; exact HQ.out⟩
  · by_cases h3 : K = 3
    · subst h3
      obtain ⟨f4, hf4⟩ : ∃ q, x.wt % 4 = q := ⟨_, rfl⟩
      obtain ⟨w8, hw8⟩ : ∃ q, x.wt % 8 = q := ⟨_, rfl⟩
      obtain ⟨tv, htv⟩ : ∃ q, decide (3 < x.wt % 8) = q := ⟨_, rfl⟩
      obtain ⟨t14, ht14⟩ : ∃ q, x.tk % 14 = q := ⟨_, rfl⟩
      obtain ⟨w14, hw14⟩ : ∃ q, x.wt % 14 = q := ⟨_, rfl⟩
      have HX : Hid (M = (gE rd tb B V 3 f4 tv [wonO (t14 : Int) 0, wonO (w14 : Int) 0] 0 0)) := Lib.hid (by rw [HM2.out]; show gE rd tb B V 3 (x.wt % 4) (decide (3 < x.wt % 8)) _ 0 0 = _; rw [hf4, htv, ← ht14, ← hw14]; rfl)
      have r4 : (x.wt : Int).tmod 4 = (f4 : Int) := by rw [Int.tmod_eq_emod_of_nonneg (by omega)]; omega
      have r8 : (x.wt : Int).tmod 8 = (w8 : Int) := by rw [Int.tmod_eq_emod_of_nonneg (by omega)]; omega
      have u8 : decide (3 < (w8 : Int)) = tv := by rw [← htv, decide_eq_decide]; omega
      have r14 : (x.tk : Int).tmod 14 = (t14 : Int) := by rw [Int.tmod_eq_emod_of_nonneg (by omega)]; omega
      have s14 : (x.wt : Int).tmod 14 = (w14 : Int) := by rw [Int.tmod_eq_emod_of_nonneg (by omega)]; omega
      have kt : IntKind.i64.wrap (x.tk : Int) = (x.tk : Int) := IntWalk.i64_in _ (by have := HXI.out.tk; omega)
      have kw : IntKind.i64.wrap (x.wt : Int) = (x.wt : Int) := IntWalk.i64_in _ (by have := HXI.out.wt; omega)
      clear hf4 hw8 htv ht14 hw14
      have WN := Lib.hid (fun W => won_at (t14 : Int) 0 W)
      have HPC : Hid (∀ W, Blk W p5 34 (enC (gE rd tb B V 3 f4 tv [] 0 0)) → Blk (W.setCells p5 7 (ouA (wonO (t14 : Int) 0)).toList) p5 34 (enC (gE rd tb B V 3 f4 tv [wonO (t14 : Int) 0] 0 0))) := Lib.hid (fun W h => put_ou (wonO (t14 : Int) 0) 0 rfl (by omega) h)
      have HOA := Lib.hid (ouA_facts (wonO (t14 : Int) 0))
      generalize ouA (wonO (t14 : Int) 0) = OA at *
      have x4 : W5.cell? ⟨p5, 4, none⟩ = some (.int .u8 3) := HB5.out.cell (enC_kd _)
      clear hK5 HM2
      go_upto_region 7 with fail
      clear x4
      have HS6 : Hid (Blk W5.drew p1 61 (smC x)) := HS5
      have HZ6 : Hid (Blk W5.drew p2 34 (enC zE)) := HZ5
      have hBlk : Blk W5.drew p5 34 (enC (gE rd tb B V 3 0 false [] 0 0)) := HB5.out
      have HW6 := Lib.hid HW5.out.drew
      refine rest_begin (by kernel_rfl) ?_
      obtain ⟨W6, hW6⟩ : ∃ W6, W5.drew = W6 := ⟨_, rfl⟩
      rw [hW6] at HS6 HZ6 hBlk HW6 ⊢
      clear hW6 HS5 HZ5 HB5 HW5
      clear W5
      have hBW : p1 ≤ W6.heap.size := by rw [← HP.out.1]; exact HW6.out.size
      have hBb : p1 ≤ p5 := HL.out.2.2.1
      refine rest_flowG (grBlk3 p1 p5 34 (enC (gE rd tb B V 3 0 false [] 0 0)) (enC (gE rd tb B V 3 f4 false [] 0 0)) (enC (gE rd tb B V 3 f4 tv [] 0 0))) [some 44, some 45, some 46, some 47, some 48, some 49, some 50, some 51, some 52, some 53, some 54, some 55, some 56, none, some 57, none, some 58, some 59] [SpG.is (.pointer (some ⟨p1, 5, none⟩)), SpG.is (.int .u8 (x.wt : Int)), SpG.is (.int .u8 (f4 : Int)), SpG.is (.pointer (some ⟨p1, 5, none⟩)), SpG.is (.int .u8 (x.wt : Int)), SpG.is (.int .u8 (w8 : Int)), SpG.is (.bool tv), SpG.is (.pointer (some ⟨p1, 4, none⟩)), SpG.is (.int .u8 (x.tk : Int)), SpG.is (.int .i64 (x.tk : Int)), SpG.is (.int .i64 (t14 : Int)), SpG.is (.agg OA), SpG.is (.pointer (some ⟨p5, 5, none⟩)), SpG.one, SpG.is (.pointer (some ⟨p5, 6, none⟩)), SpG.two, SpG.is (.pointer (some ⟨p5, 7, none⟩)), SpG.is (.pointer (some ⟨p5, 7, none⟩))] 18 (by kernel_rfl) (by kernel_rfl) (fun u F hF => ?_) (fun u w' hbF hsF => ?_)
      case refine_1 =>
        have E1 : F.eval (.tmp 1) = (.pointer (some ⟨p1, 0, none⟩)) := (congrArg (fun a => Act.eval a (.tmp 1)) hF).trans (eval_out [some 44, some 45, some 46, some 47, some 48, some 49, some 50, some 51, some 52, some 53, some 54, some 55, some 56, none, some 57, none, some 58, some 59] 0 _ (by decide))
        have D44 : F.eval (.tmp 44) = u 0 := (congrArg (fun a => Act.eval a (.tmp 44)) hF).trans (eval_in [some 44, some 45, some 46, some 47, some 48, some 49, some 50, some 51, some 52, some 53, some 54, some 55, some 56, none, some 57, none, some 58, some 59] 0 0 _ (by decide) (by omega) rfl (of_decide_eq_true (by kernel_rfl)))
        have D45 : F.eval (.tmp 45) = u 1 := (congrArg (fun a => Act.eval a (.tmp 45)) hF).trans (eval_in [some 44, some 45, some 46, some 47, some 48, some 49, some 50, some 51, some 52, some 53, some 54, some 55, some 56, none, some 57, none, some 58, some 59] 0 1 _ (by decide) (by omega) rfl (of_decide_eq_true (by kernel_rfl)))
        have D47 : F.eval (.tmp 47) = u 3 := (congrArg (fun a => Act.eval a (.tmp 47)) hF).trans (eval_in [some 44, some 45, some 46, some 47, some 48, some 49, some 50, some 51, some 52, some 53, some 54, some 55, some 56, none, some 57, none, some 58, some 59] 0 3 _ (by decide) (by omega) rfl (of_decide_eq_true (by kernel_rfl)))
        have D48 : F.eval (.tmp 48) = u 4 := (congrArg (fun a => Act.eval a (.tmp 48)) hF).trans (eval_in [some 44, some 45, some 46, some 47, some 48, some 49, some 50, some 51, some 52, some 53, some 54, some 55, some 56, none, some 57, none, some 58, some 59] 0 4 _ (by decide) (by omega) rfl (of_decide_eq_true (by kernel_rfl)))
        have D49 : F.eval (.tmp 49) = u 5 := (congrArg (fun a => Act.eval a (.tmp 49)) hF).trans (eval_in [some 44, some 45, some 46, some 47, some 48, some 49, some 50, some 51, some 52, some 53, some 54, some 55, some 56, none, some 57, none, some 58, some 59] 0 5 _ (by decide) (by omega) rfl (of_decide_eq_true (by kernel_rfl)))
        have D51 : F.eval (.tmp 51) = u 7 := (congrArg (fun a => Act.eval a (.tmp 51)) hF).trans (eval_in [some 44, some 45, some 46, some 47, some 48, some 49, some 50, some 51, some 52, some 53, some 54, some 55, some 56, none, some 57, none, some 58, some 59] 0 7 _ (by decide) (by omega) rfl (of_decide_eq_true (by kernel_rfl)))
        have D52 : F.eval (.tmp 52) = u 8 := (congrArg (fun a => Act.eval a (.tmp 52)) hF).trans (eval_in [some 44, some 45, some 46, some 47, some 48, some 49, some 50, some 51, some 52, some 53, some 54, some 55, some 56, none, some 57, none, some 58, some 59] 0 8 _ (by decide) (by omega) rfl (of_decide_eq_true (by kernel_rfl)))
        have D53 : F.eval (.tmp 53) = u 9 := (congrArg (fun a => Act.eval a (.tmp 53)) hF).trans (eval_in [some 44, some 45, some 46, some 47, some 48, some 49, some 50, some 51, some 52, some 53, some 54, some 55, some 56, none, some 57, none, some 58, some 59] 0 9 _ (by decide) (by omega) rfl (of_decide_eq_true (by kernel_rfl)))
        have D54 : F.eval (.tmp 54) = u 10 := (congrArg (fun a => Act.eval a (.tmp 54)) hF).trans (eval_in [some 44, some 45, some 46, some 47, some 48, some 49, some 50, some 51, some 52, some 53, some 54, some 55, some 56, none, some 57, none, some 58, some 59] 0 10 _ (by decide) (by omega) rfl (of_decide_eq_true (by kernel_rfl)))
        have E5 : F.eval (.tmp 5) = (.pointer (some ⟨p5, 0, none⟩)) := (congrArg (fun a => Act.eval a (.tmp 5)) hF).trans (eval_out [some 44, some 45, some 46, some 47, some 48, some 49, some 50, some 51, some 52, some 53, some 54, some 55, some 56, none, some 57, none, some 58, some 59] 0 _ (by decide))
        have D56 : F.eval (.tmp 56) = u 12 := (congrArg (fun a => Act.eval a (.tmp 56)) hF).trans (eval_in [some 44, some 45, some 46, some 47, some 48, some 49, some 50, some 51, some 52, some 53, some 54, some 55, some 56, none, some 57, none, some 58, some 59] 0 12 _ (by decide) (by omega) rfl (of_decide_eq_true (by kernel_rfl)))
        have D46 : F.eval (.tmp 46) = u 2 := (congrArg (fun a => Act.eval a (.tmp 46)) hF).trans (eval_in [some 44, some 45, some 46, some 47, some 48, some 49, some 50, some 51, some 52, some 53, some 54, some 55, some 56, none, some 57, none, some 58, some 59] 0 2 _ (by decide) (by omega) rfl (of_decide_eq_true (by kernel_rfl)))
        have D57 : F.eval (.tmp 57) = u 14 := (congrArg (fun a => Act.eval a (.tmp 57)) hF).trans (eval_in [some 44, some 45, some 46, some 47, some 48, some 49, some 50, some 51, some 52, some 53, some 54, some 55, some 56, none, some 57, none, some 58, some 59] 0 14 _ (by decide) (by omega) rfl (of_decide_eq_true (by kernel_rfl)))
        have D50 : F.eval (.tmp 50) = u 6 := (congrArg (fun a => Act.eval a (.tmp 50)) hF).trans (eval_in [some 44, some 45, some 46, some 47, some 48, some 49, some 50, some 51, some 52, some 53, some 54, some 55, some 56, none, some 57, none, some 58, some 59] 0 6 _ (by decide) (by omega) rfl (of_decide_eq_true (by kernel_rfl)))
        have D58 : F.eval (.tmp 58) = u 16 := (congrArg (fun a => Act.eval a (.tmp 58)) hF).trans (eval_in [some 44, some 45, some 46, some 47, some 48, some 49, some 50, some 51, some 52, some 53, some 54, some 55, some 56, none, some 57, none, some 58, some 59] 0 16 _ (by decide) (by omega) rfl (of_decide_eq_true (by kernel_rfl)))
        clear hF
        refine ⟨?_, ?_, ?_, ?_, ?_, ?_, ?_, ?_, ?_, ?_, ?_, ?_, ?_, ?_, ?_, ?_, ?_, ?_, trivial⟩
        · intro w1 hb hd K hK
          have e1 := E1
          exact op_val (v := (.pointer (some ⟨p1, 5, none⟩))) rfl (by simp only [execOp, List.map_toArray, List.map_cons, List.map_nil, e1]; go_simp) (hK _ _ (show _ = _ from rfl) ((grBlk3 p1 p5 34 (enC (gE rd tb B V 3 0 false [] 0 0)) (enC (gE rd tb B V 3 f4 false [] 0 0)) (enC (gE rd tb B V 3 f4 tv [] 0 0))).refl _))
        · intro w1 hb hd K hK
          have e44 := D44.trans (show u 0 = (.pointer (some ⟨p1, 5, none⟩)) from hd ⟨0, .data⟩ (by simp) rfl (by omega))
          have c0 : w1.cell? ⟨p1, 5, none⟩ = some (.int .u8 (x.wt : Int)) := ((hb.2.1 p1 _ _ HL.out.1 HS6.out).cell (j := 5) rfl)
          exact op_val (v := (.int .u8 (x.wt : Int))) rfl (by simp only [execOp, e44]; go_simp) (hK _ _ (show _ = _ from rfl) ((grBlk3 p1 p5 34 (enC (gE rd tb B V 3 0 false [] 0 0)) (enC (gE rd tb B V 3 f4 false [] 0 0)) (enC (gE rd tb B V 3 f4 tv [] 0 0))).refl _))
        · intro w1 hb hd K hK
          have e45 := D45.trans (show u 1 = (.int .u8 (x.wt : Int)) from hd ⟨1, .data⟩ (by simp) rfl (by omega))
          exact op_val (v := (.int .u8 (f4 : Int))) rfl (by simp only [execOp, List.map_toArray, List.map_cons, List.map_nil, e45]; go_simp) (hK _ _ (show _ = _ from rfl) ((grBlk3 p1 p5 34 (enC (gE rd tb B V 3 0 false [] 0 0)) (enC (gE rd tb B V 3 f4 false [] 0 0)) (enC (gE rd tb B V 3 f4 tv [] 0 0))).refl _))
        · intro w1 hb hd K hK
          have e1 := E1
          exact op_val (v := (.pointer (some ⟨p1, 5, none⟩))) rfl (by simp only [execOp, List.map_toArray, List.map_cons, List.map_nil, e1]; go_simp) (hK _ _ (show _ = _ from rfl) ((grBlk3 p1 p5 34 (enC (gE rd tb B V 3 0 false [] 0 0)) (enC (gE rd tb B V 3 f4 false [] 0 0)) (enC (gE rd tb B V 3 f4 tv [] 0 0))).refl _))
        · intro w1 hb hd K hK
          have e47 := D47.trans (show u 3 = (.pointer (some ⟨p1, 5, none⟩)) from hd ⟨3, .data⟩ (by simp) rfl (by omega))
          have c0 : w1.cell? ⟨p1, 5, none⟩ = some (.int .u8 (x.wt : Int)) := ((hb.2.1 p1 _ _ HL.out.1 HS6.out).cell (j := 5) rfl)
          exact op_val (v := (.int .u8 (x.wt : Int))) rfl (by simp only [execOp, e47]; go_simp) (hK _ _ (show _ = _ from rfl) ((grBlk3 p1 p5 34 (enC (gE rd tb B V 3 0 false [] 0 0)) (enC (gE rd tb B V 3 f4 false [] 0 0)) (enC (gE rd tb B V 3 f4 tv [] 0 0))).refl _))
        · intro w1 hb hd K hK
          have e48 := D48.trans (show u 4 = (.int .u8 (x.wt : Int)) from hd ⟨4, .data⟩ (by simp) rfl (by omega))
          exact op_val (v := (.int .u8 (w8 : Int))) rfl (by simp only [execOp, List.map_toArray, List.map_cons, List.map_nil, e48]; go_simp) (hK _ _ (show _ = _ from rfl) ((grBlk3 p1 p5 34 (enC (gE rd tb B V 3 0 false [] 0 0)) (enC (gE rd tb B V 3 f4 false [] 0 0)) (enC (gE rd tb B V 3 f4 tv [] 0 0))).refl _))
        · intro w1 hb hd K hK
          have e49 := D49.trans (show u 5 = (.int .u8 (w8 : Int)) from hd ⟨5, .data⟩ (by simp) rfl (by omega))
          exact op_val (v := (.bool tv)) rfl (by simp only [execOp, List.map_toArray, List.map_cons, List.map_nil, e49]; go_simp) (hK _ _ (show _ = _ from rfl) ((grBlk3 p1 p5 34 (enC (gE rd tb B V 3 0 false [] 0 0)) (enC (gE rd tb B V 3 f4 false [] 0 0)) (enC (gE rd tb B V 3 f4 tv [] 0 0))).refl _))
        · intro w1 hb hd K hK
          have e1 := E1
          exact op_val (v := (.pointer (some ⟨p1, 4, none⟩))) rfl (by simp only [execOp, List.map_toArray, List.map_cons, List.map_nil, e1]; go_simp) (hK _ _ (show _ = _ from rfl) ((grBlk3 p1 p5 34 (enC (gE rd tb B V 3 0 false [] 0 0)) (enC (gE rd tb B V 3 f4 false [] 0 0)) (enC (gE rd tb B V 3 f4 tv [] 0 0))).refl _))
        · intro w1 hb hd K hK
          have e51 := D51.trans (show u 7 = (.pointer (some ⟨p1, 4, none⟩)) from hd ⟨7, .data⟩ (by simp) rfl (by omega))
          have c0 : w1.cell? ⟨p1, 4, none⟩ = some (.int .u8 (x.tk : Int)) := ((hb.2.1 p1 _ _ HL.out.1 HS6.out).cell (j := 4) rfl)
          exact op_val (v := (.int .u8 (x.tk : Int))) rfl (by simp only [execOp, e51]; go_simp) (hK _ _ (show _ = _ from rfl) ((grBlk3 p1 p5 34 (enC (gE rd tb B V 3 0 false [] 0 0)) (enC (gE rd tb B V 3 f4 false [] 0 0)) (enC (gE rd tb B V 3 f4 tv [] 0 0))).refl _))
        · intro w1 hb hd K hK
          have e52 := D52.trans (show u 8 = (.int .u8 (x.tk : Int)) from hd ⟨8, .data⟩ (by simp) rfl (by omega))
          exact op_val (v := (.int .i64 (x.tk : Int))) rfl (by simp only [execOp, List.map_toArray, List.map_cons, List.map_nil, e52]; go_simp) (hK _ _ (show _ = _ from rfl) ((grBlk3 p1 p5 34 (enC (gE rd tb B V 3 0 false [] 0 0)) (enC (gE rd tb B V 3 f4 false [] 0 0)) (enC (gE rd tb B V 3 f4 tv [] 0 0))).refl _))
        · intro w1 hb hd K hK
          have e53 := D53.trans (show u 9 = (.int .i64 (x.tk : Int)) from hd ⟨9, .data⟩ (by simp) rfl (by omega))
          exact op_val (v := (.int .i64 (t14 : Int))) rfl (by simp only [execOp, List.map_toArray, List.map_cons, List.map_nil, e53]; go_simp) (hK _ _ (show _ = _ from rfl) ((grBlk3 p1 p5 34 (enC (gE rd tb B V 3 0 false [] 0 0)) (enC (gE rd tb B V 3 f4 false [] 0 0)) (enC (gE rd tb B V 3 f4 tv [] 0 0))).refl _))
        · intro w1 hb hd K hK
          have e54 := D54.trans (show u 10 = (.int .i64 (t14 : Int)) from hd ⟨10, .data⟩ (by simp) rfl (by omega))
          refine op_call (R := fun v w2 => v = (.agg OA) ∧ Below w1.heap.size w1 w2) (f := 21) (args := #[.int .i64 (t14 : Int), .int .i64 0]) rfl (by simp only [execOp]; go_simp; first | exact eval_get e54 | exact ⟨rfl, eval_get e54⟩ | exact ⟨eval_get e54, rfl⟩ | (simp only [Act.eval] at *; simp_all)) ((WN.out w1).mono fun e w2 hh => ⟨_, hh.1, rfl, hh.2⟩) (fun v w2 hh => hK _ _ hh.1 (grBlk3_below hh.2 (Nat.le_trans hBW hb.1.size)))
        · intro w1 hb hd K hK
          have e5 := E5
          exact op_val (v := (.pointer (some ⟨p5, 5, none⟩))) rfl (by simp only [execOp, List.map_toArray, List.map_cons, List.map_nil, e5]; go_simp) (hK _ _ (show _ = _ from rfl) ((grBlk3 p1 p5 34 (enC (gE rd tb B V 3 0 false [] 0 0)) (enC (gE rd tb B V 3 f4 false [] 0 0)) (enC (gE rd tb B V 3 f4 tv [] 0 0))).refl _))
        · intro w1 hb hd K hK
          have e56 := D56.trans (show u 12 = (.pointer (some ⟨p5, 5, none⟩)) from hd ⟨12, .data⟩ (by simp) rfl (by omega))
          have e46 := D46.trans (show u 2 = (.int .u8 (f4 : Int)) from hd ⟨2, .data⟩ (by simp) rfl (by omega))
          have hor := hb.2.2.2.2 hBlk
          obtain ⟨xx, c0⟩ : ∃ q, w1.cell? ⟨p5, 5, none⟩ = some q := by rcases hor with h | h | h <;> exact ⟨_, h.cell (enC_fd _)⟩
          have f0 : w1.frozen? ⟨p5, 5, none⟩ = false := by rcases hor with h | h | h <;> exact h.free _
          have hs := grBlk3_one (v := (.int .u8 (f4 : Int))) hBb hor (gE_fd _ _ _ _ _ _ _ _ _ _ _) (gE_fd _ _ _ _ _ _ _ _ _ _ _) (gE_fd _ _ _ _ _ _ _ _ _ _ _)
          exact op_skip (w' := w1.setCell ⟨p5, 5, none⟩ (.int .u8 (f4 : Int))) rfl rfl (by simp only [execOp, e56, e46]; go_simp) (hK _ _ hs.1 hs.2)
        · intro w1 hb hd K hK
          have e5 := E5
          exact op_val (v := (.pointer (some ⟨p5, 6, none⟩))) rfl (by simp only [execOp, List.map_toArray, List.map_cons, List.map_nil, e5]; go_simp) (hK _ _ (show _ = _ from rfl) ((grBlk3 p1 p5 34 (enC (gE rd tb B V 3 0 false [] 0 0)) (enC (gE rd tb B V 3 f4 false [] 0 0)) (enC (gE rd tb B V 3 f4 tv [] 0 0))).refl _))
        · intro w1 hb hd K hK
          have e57 := D57.trans (show u 14 = (.pointer (some ⟨p5, 6, none⟩)) from hd ⟨14, .data⟩ (by simp) rfl (by omega))
          have e50 := D50.trans (show u 6 = (.bool tv) from hd ⟨6, .data⟩ (by simp) rfl (by omega))
          have hor : Blk w1 p5 34 (enC (gE rd tb B V 3 f4 false [] 0 0)) ∨ Blk w1 p5 34 (enC (gE rd tb B V 3 f4 tv [] 0 0)) := hd ⟨13, .chain⟩ (by simp) rfl (by omega)
          obtain ⟨xx, c0⟩ : ∃ q, w1.cell? ⟨p5, 6, none⟩ = some q := by rcases hor with h | h <;> exact ⟨_, h.cell (enC_tn _)⟩
          have f0 : w1.frozen? ⟨p5, 6, none⟩ = false := by rcases hor with h | h <;> exact h.free _
          have hs := grBlk3_two (C0 := (enC (gE rd tb B V 3 0 false [] 0 0))) (v := (.bool tv)) hBb hor (gE_tn _ _ _ _ _ _ _ _ _ _ _) (gE_tn _ _ _ _ _ _ _ _ _ _ _)
          exact op_skip (w' := w1.setCell ⟨p5, 6, none⟩ (.bool tv)) rfl rfl (by simp only [execOp, e57, e50]; go_simp) (hK _ _ hs.1 hs.2)
        · intro w1 hb hd K hK
          have e5 := E5
          exact op_val (v := (.pointer (some ⟨p5, 7, none⟩))) rfl (by simp only [execOp, List.map_toArray, List.map_cons, List.map_nil, e5]; go_simp) (hK _ _ (show _ = _ from rfl) ((grBlk3 p1 p5 34 (enC (gE rd tb B V 3 0 false [] 0 0)) (enC (gE rd tb B V 3 f4 false [] 0 0)) (enC (gE rd tb B V 3 f4 tv [] 0 0))).refl _))
        · intro w1 hb hd K hK
          have e58 := D58.trans (show u 16 = (.pointer (some ⟨p5, 7, none⟩)) from hd ⟨16, .data⟩ (by simp) rfl (by omega))
          exact op_val (v := (.pointer (some ⟨p5, 7, none⟩))) rfl (by simp only [execOp, List.map_toArray, List.map_cons, List.map_nil, e58]; go_simp) (hK _ _ (show _ = _ from rfl) ((grBlk3 p1 p5 34 (enC (gE rd tb B V 3 0 false [] 0 0)) (enC (gE rd tb B V 3 f4 false [] 0 0)) (enC (gE rd tb B V 3 f4 tv [] 0 0))).refl _))
      have hv44 : u 0 = (.pointer (some ⟨p1, 5, none⟩)) := (show u 0 = _ from hsF 0 (by omega) (by omega))
      have hv45 : u 1 = (.int .u8 (x.wt : Int)) := (show u 1 = _ from hsF 1 (by omega) (by omega))
      have hv46 : u 2 = (.int .u8 (f4 : Int)) := (show u 2 = _ from hsF 2 (by omega) (by omega))
      have hv47 : u 3 = (.pointer (some ⟨p1, 5, none⟩)) := (show u 3 = _ from hsF 3 (by omega) (by omega))
      have hv48 : u 4 = (.int .u8 (x.wt : Int)) := (show u 4 = _ from hsF 4 (by omega) (by omega))
      have hv49 : u 5 = (.int .u8 (w8 : Int)) := (show u 5 = _ from hsF 5 (by omega) (by omega))
      have hv50 : u 6 = (.bool tv) := (show u 6 = _ from hsF 6 (by omega) (by omega))
      have hv51 : u 7 = (.pointer (some ⟨p1, 4, none⟩)) := (show u 7 = _ from hsF 7 (by omega) (by omega))
      have hv52 : u 8 = (.int .u8 (x.tk : Int)) := (show u 8 = _ from hsF 8 (by omega) (by omega))
      have hv53 : u 9 = (.int .i64 (x.tk : Int)) := (show u 9 = _ from hsF 9 (by omega) (by omega))
      have hv54 : u 10 = (.int .i64 (t14 : Int)) := (show u 10 = _ from hsF 10 (by omega) (by omega))
      have hv55 : u 11 = (.agg OA) := (show u 11 = _ from hsF 11 (by omega) (by omega))
      have hv56 : u 12 = (.pointer (some ⟨p5, 5, none⟩)) := (show u 12 = _ from hsF 12 (by omega) (by omega))
      have hst1 : Blk w' p5 34 (enC (gE rd tb B V 3 f4 false [] 0 0)) ∨ Blk w' p5 34 (enC (gE rd tb B V 3 f4 tv [] 0 0)) := hsF 13 (by omega) (by omega)
      have hv57 : u 14 = (.pointer (some ⟨p5, 6, none⟩)) := (show u 14 = _ from hsF 14 (by omega) (by omega))
      have hst2 : Blk w' p5 34 (enC (gE rd tb B V 3 f4 tv [] 0 0)) := hsF 15 (by omega) (by omega)
      have hv58 : u 16 = (.pointer (some ⟨p5, 7, none⟩)) := (show u 16 = _ from hsF 16 (by omega) (by omega))
      have hv59 : u 17 = (.pointer (some ⟨p5, 7, none⟩)) := (show u 17 = _ from hsF 17 (by omega) (by omega))
      simp only [putRow, hv44, hv45, hv46, hv47, hv48, hv49, hv50, hv51, hv52, hv53, hv54, hv55, hv56, hv57, hv58, hv59, Act.put, List.setIfInBounds_toArray, List.set_cons_succ, List.set_cons_zero]
      clear hsF hv44 hv45 hv46 hv47 hv48 hv49 hv50 hv51 hv52 hv53 hv54 hv55 hv56 hv57 hv58 hv59
      have HS7 := Lib.hid (hbF.2.1 p1 _ _ HL.out.1 HS6.out)
      have HZ7 := Lib.hid (hbF.2.1 p2 _ _ HL.out.2.1 HZ6.out)
      have HB7 := Lib.hid hst2
      have HW7 := Lib.hid (HW6.out.trans hbF.1)
      clear hst1 hst2 HS6 HZ6 hBlk hBW hBb HW6 hbF WN r4 r8 u8 r14 kt
      clear W6
      have st := storeAt_run (T := 30) (w := w') (b := p5) (off := 7) (C := OA) (by rw [HOA.out.1]; kernel_rfl) (fun j hj => by rw [HOA.out.1] at hj; exact enC_cell HB7.out (7 + j) (by omega)) (fun j hj => HB7.out.free _) HOA.out.2.1
      refine rest_forced 1 (by kernel_rfl) ?_
      simp only [List.drop_succ_cons, List.drop_zero, List.take_succ_cons, List.take_zero]
      go_wp2_with (refine op_store (p := .pointer (some ⟨p5, 7, none⟩)) (C := .agg OA) 30 (.tmp 59) (.tmp 55) rfl rfl rfl rfl rfl st ?_)
      clear st
      refine rest_done rfl ?_
      have HS8 := Lib.hid (Blk.otherCells (b' := p5) HL.out.1 OA.toList 7 w' HS7.out)
      have HZ8 := Lib.hid (Blk.otherCells (b' := p5) HL.out.2.1 OA.toList 7 w' HZ7.out)
      have HB8 := Lib.hid (HPC.out w' HB7.out)
      have HW8 := Lib.hid (Below.setCells' (b := p5) HL.out.2.2.1 OA.toList 7 w' HW7.out)
      clear HS7 HZ7 HB7 HW7 HPC HOA
      generalize w'.setCells p5 7 OA.toList = W8 at *
      clear w'
      have x4 : W8.cell? ⟨p5, 4, none⟩ = some (.int .u8 3) := HB8.out.cell (enC_kd _)
      have WN := Lib.hid (fun W => won_at (w14 : Int) 0 W)
      have HPC : Hid (∀ W, Blk W p5 34 (enC (gE rd tb B V 3 f4 tv [wonO (t14 : Int) 0] 0 0)) → Blk (W.setCells p5 13 (ouA (wonO (w14 : Int) 0)).toList) p5 34 (enC (gE rd tb B V 3 f4 tv [wonO (t14 : Int) 0, wonO (w14 : Int) 0] 0 0))) := Lib.hid (fun W h => put_ou (wonO (w14 : Int) 0) 1 rfl (by omega) h)
      have HOA := Lib.hid (ouA_facts (wonO (w14 : Int) 0))
      generalize ouA (wonO (w14 : Int) 0) = OB at *
      have x15 : W8.cell? ⟨p1, 5, none⟩ = some (.int .u8 (x.wt : Int)) := HS8.out.cell rfl
      have s15 : (x.wt : Int) % 14 = (w14 : Int) := by rw [← Int.tmod_eq_emod_of_nonneg (by omega)]; exact s14
      go_upto_region 9 with fail
      go_wp2_with fail
      try rw [s15]
      refine (WN.out _).mono ?_
      rintro e w' ⟨rfl, hbF⟩
      have HZ7 := Lib.hid (HZ8.out.keep hbF HZ8.out.lt)
      have HB7 := Lib.hid (HB8.out.keep hbF HB8.out.lt)
      have HW7 := Lib.hid (HW8.out.trans (hbF.mono (by rw [← HP.out.1]; exact HW8.out.size)))
      clear x4 x15 HS8 HZ8 HB8 HW8 hbF WN s14 s15 kw
      clear W8
      have st := storeAt_run (T := 30) (w := w') (b := p5) (off := 13) (C := OB) (by rw [HOA.out.1]; kernel_rfl) (fun j hj => by rw [HOA.out.1] at hj; exact enC_cell HB7.out (13 + j) (by omega)) (fun j hj => HB7.out.free _) HOA.out.2.1
      have HZA := Lib.hid (Blk.otherCells (b' := p5) HL.out.2.1 OB.toList 13 w' HZ7.out)
      have HBA := Lib.hid (HPC.out w' HB7.out)
      have HWA := Lib.hid (Below.setCells' (b := p5) HL.out.2.2.1 OB.toList 13 w' HW7.out)
      clear HZ7 HB7 HW7 HPC HOA
      go_upto_region 15 with (refine op_store (p := .pointer (some ⟨p5, 13, none⟩)) (C := .agg OB) 30 (.tmp 69) (.tmp 67) rfl rfl rfl rfl rfl st ?_)
      clear st
      generalize w'.setCells p5 13 OB.toList = WA at *
      clear w'
      have la := loadAt_blk (T := 34) HBA.out Tryz.underlying34 rfl (by rw [enC_size]; kernel_rfl)
      have st := storeAt_row (T := 34) (C := enC (gE rd tb B V 3 f4 tv [wonO (t14 : Int) 0, wonO (w14 : Int) 0] 0 0)) HZA.out (by rw [enC_size]; kernel_rfl) (by simp only [enC_size]) (enC_one _)
      have HF := Lib.hid (HZA.out.row (enC (gE rd tb B V 3 f4 tv [wonO (t14 : Int) 0, wonO (w14 : Int) 0] 0 0)))
      have HQ := Lib.hid (Below.setRow' HL.out.2.2.2 HWA.out (enC (gE rd tb B V 3 f4 tv [wonO (t14 : Int) 0, wonO (w14 : Int) 0] 0 0)))
      clear HZA HBA HWA
      go_wp2_with (first | refine op_load (p := .pointer (some ⟨p5, 0, none⟩)) 34 (.tmp 5) rfl rfl rfl la ?_ | refine op_store (p := .pointer (some ⟨p2, 0, none⟩)) (C := .agg (enC (gE rd tb B V 3 f4 tv [wonO (t14 : Int) 0, wonO (w14 : Int) 0] 0 0))) 34 (.tmp 2) (.tmp 110) rfl rfl rfl rfl rfl st ?_)
      clear st la
      generalize WA.setRow p2 (enC (gE rd tb B V 3 f4 tv [wonO (t14 : Int) 0, wonO (w14 : Int) 0] 0 0)) = WF at *
      have lf := loadVar_blk (T := 34) HF.out Tryz.underlying34 rfl (by rw [enC_size]; kernel_rfl)
      (try simp only [Exit.inBlock, Exit.then])
      refine bodyPost_ret (results_cell Tryz.results26 rfl lf) rfl ?_
      exact ⟨by rw [HX.out], by rw [HP.out.1]; exact HQ.out⟩
    · by_cases h2 : K = 2
      · subst h2
        obtain ⟨N, hN⟩ : ∃ q, 1 + ((x.wt % 99 : Nat) : Int) = q := ⟨_, rfl⟩
        obtain ⟨t14, ht14⟩ : ∃ q, x.tk % 14 = q := ⟨_, rfl⟩
        obtain ⟨b14, hb14⟩ : ∃ q, x.bd % 14 = q := ⟨_, rfl⟩
        have HX : Hid (M = (gE rd tb B V 2 0 false [wonO (t14 : Int) N, wonO (b14 : Int) (100 - N)] 0 0)) := Lib.hid (by rw [HM2.out, ← hN, ← ht14, ← hb14]; rfl)
        have hN1 : 1 ≤ N ∧ N ≤ 99 := by omega
        have r14 : (x.tk : Int).tmod 14 = (t14 : Int) := by rw [Int.tmod_eq_emod_of_nonneg (by omega)]; omega
        have s14 : (x.bd : Int).tmod 14 = (b14 : Int) := by rw [Int.tmod_eq_emod_of_nonneg (by omega)]; omega
        have kt : IntKind.i64.wrap (x.tk : Int) = (x.tk : Int) := IntWalk.i64_in _ (by have := HXI.out.tk; omega)
        have kb : IntKind.i64.wrap (x.bd : Int) = (x.bd : Int) := IntWalk.i64_in _ (by have := HXI.out.bd; omega)
        have kw : IntKind.i64.wrap (x.wt : Int) = (x.wt : Int) := IntWalk.i64_in _ (by have := HXI.out.wt; omega)
        have e9 : IntKind.i64.wrap (1 + (x.wt : Int) % 99) = N := by rw [← hN]; exact IntWalk.i64_in _ (by omega)
        have e10 : IntKind.i64.wrap (100 - N) = 100 - N := IntWalk.i64_in _ (by omega)
        clear hN ht14 hb14 hN1
        have WA := Lib.hid (fun W => won_at (t14 : Int) N W)
        have WB := Lib.hid (fun W => won_at (b14 : Int) (100 - N) W)
        have HP1 : Hid (putC (enC (gE rd tb B V 2 0 false [] 0 0)) 7 (ouA (wonO (t14 : Int) N)).toList = (enC (gE rd tb B V 2 0 false [wonO (t14 : Int) N] 0 0)) ∧ putC (enC (gE rd tb B V 2 0 false [wonO (t14 : Int) N] 0 0)) 7 (ouA (wonO (t14 : Int) N)).toList = (enC (gE rd tb B V 2 0 false [wonO (t14 : Int) N] 0 0))) := Lib.hid ⟨put_first _, put_again _⟩
        have HPC : Hid (∀ W, Blk W p5 34 (enC (gE rd tb B V 2 0 false [wonO (t14 : Int) N] 0 0)) → Blk (W.setCells p5 13 (ouA (wonO (b14 : Int) (100 - N))).toList) p5 34 (enC (gE rd tb B V 2 0 false [wonO (t14 : Int) N, wonO (b14 : Int) (100 - N)] 0 0))) := Lib.hid (fun W h => put_ou (wonO (b14 : Int) (100 - N)) 1 rfl (by omega) h)
        have HOA := Lib.hid (ouA_facts (wonO (t14 : Int) N))
        have HOB := Lib.hid (ouA_facts (wonO (b14 : Int) (100 - N)))
        generalize ouA (wonO (t14 : Int) N) = OA at *
        generalize ouA (wonO (b14 : Int) (100 - N)) = OB at *
        have x4 : W5.cell? ⟨p5, 4, none⟩ = some (.int .u8 2) := HB5.out.cell (enC_kd _)
        have x15 : W5.cell? ⟨p1, 5, none⟩ = some (.int .u8 (x.wt : Int)) := HS5.out.cell rfl
        clear hK5 HM2
        go_upto_region 12 with fail
        clear x4 x15
        have HS6 : Hid (Blk W5.drew p1 61 (smC x)) := HS5
        have HZ6 : Hid (Blk W5.drew p2 34 (enC zE)) := HZ5
        have hBlk : Blk W5.drew p5 34 (enC (gE rd tb B V 2 0 false [] 0 0)) := HB5.out
        have HW6 := Lib.hid HW5.out.drew
        refine rest_begin (by kernel_rfl) ?_
        obtain ⟨W6, hW6⟩ : ∃ W6, W5.drew = W6 := ⟨_, rfl⟩
        rw [hW6] at HS6 HZ6 hBlk HW6 ⊢
        clear hW6 HS5 HZ5 HB5 HW5
        clear W5
        have hBW : p1 ≤ W6.heap.size := by rw [← HP.out.1]; exact HW6.out.size
        have hBb : p1 ≤ p5 := HL.out.2.2.1
        refine rest_flowG (grBlk p1 p5 34 (enC (gE rd tb B V 2 0 false [] 0 0)) (enC (gE rd tb B V 2 0 false [wonO (t14 : Int) N] 0 0))) [some 77, some 78, some 79, some 80, some 81, some 82, some 83, some 84, some 85, some 86, some 87, some 88, some 89, some 90, some 91, none, some 92] [SpG.is (.pointer (some ⟨p1, 4, none⟩)), SpG.is (.int .u8 (x.tk : Int)), SpG.is (.int .i64 (x.tk : Int)), SpG.is (.int .i64 (t14 : Int)), SpG.is (.int .i64 N), SpG.is (.agg OA), SpG.is (.pointer (some ⟨p1, 1, none⟩)), SpG.is (.int .u8 (x.bd : Int)), SpG.is (.int .i64 (x.bd : Int)), SpG.is (.int .i64 (b14 : Int)), SpG.is (.int .i64 N), SpG.is (.int .i64 (100 - N)), SpG.is (.agg OB), SpG.is (.pointer (some ⟨p5, 7, none⟩)), SpG.is (.pointer (some ⟨p5, 7, none⟩)), SpG.cells, SpG.is (.pointer (some ⟨p5, 7, none⟩))] 17 (by kernel_rfl) (by kernel_rfl) (fun u F hF => ?_) (fun u w' hbF hsF => ?_)
        case refine_1 =>
          have E1 : F.eval (.tmp 1) = (.pointer (some ⟨p1, 0, none⟩)) := (congrArg (fun a => Act.eval a (.tmp 1)) hF).trans (eval_out [some 77, some 78, some 79, some 80, some 81, some 82, some 83, some 84, some 85, some 86, some 87, some 88, some 89, some 90, some 91, none, some 92] 0 _ (by decide))
          have D77 : F.eval (.tmp 77) = u 0 := (congrArg (fun a => Act.eval a (.tmp 77)) hF).trans (eval_in [some 77, some 78, some 79, some 80, some 81, some 82, some 83, some 84, some 85, some 86, some 87, some 88, some 89, some 90, some 91, none, some 92] 0 0 _ (by decide) (by omega) rfl (of_decide_eq_true (by kernel_rfl)))
          have D78 : F.eval (.tmp 78) = u 1 := (congrArg (fun a => Act.eval a (.tmp 78)) hF).trans (eval_in [some 77, some 78, some 79, some 80, some 81, some 82, some 83, some 84, some 85, some 86, some 87, some 88, some 89, some 90, some 91, none, some 92] 0 1 _ (by decide) (by omega) rfl (of_decide_eq_true (by kernel_rfl)))
          have D79 : F.eval (.tmp 79) = u 2 := (congrArg (fun a => Act.eval a (.tmp 79)) hF).trans (eval_in [some 77, some 78, some 79, some 80, some 81, some 82, some 83, some 84, some 85, some 86, some 87, some 88, some 89, some 90, some 91, none, some 92] 0 2 _ (by decide) (by omega) rfl (of_decide_eq_true (by kernel_rfl)))
          have E6 : F.eval (.tmp 6) = (.int .i64 N) := (congrArg (fun a => Act.eval a (.tmp 6)) hF).trans (eval_out [some 77, some 78, some 79, some 80, some 81, some 82, some 83, some 84, some 85, some 86, some 87, some 88, some 89, some 90, some 91, none, some 92] 0 _ (by decide))
          have D80 : F.eval (.tmp 80) = u 3 := (congrArg (fun a => Act.eval a (.tmp 80)) hF).trans (eval_in [some 77, some 78, some 79, some 80, some 81, some 82, some 83, some 84, some 85, some 86, some 87, some 88, some 89, some 90, some 91, none, some 92] 0 3 _ (by decide) (by omega) rfl (of_decide_eq_true (by kernel_rfl)))
          have D81 : F.eval (.tmp 81) = u 4 := (congrArg (fun a => Act.eval a (.tmp 81)) hF).trans (eval_in [some 77, some 78, some 79, some 80, some 81, some 82, some 83, some 84, some 85, some 86, some 87, some 88, some 89, some 90, some 91, none, some 92] 0 4 _ (by decide) (by omega) rfl (of_decide_eq_true (by kernel_rfl)))
          have D83 : F.eval (.tmp 83) = u 6 := (congrArg (fun a => Act.eval a (.tmp 83)) hF).trans (eval_in [some 77, some 78, some 79, some 80, some 81, some 82, some 83, some 84, some 85, some 86, some 87, some 88, some 89, some 90, some 91, none, some 92] 0 6 _ (by decide) (by omega) rfl (of_decide_eq_true (by kernel_rfl)))
          have D84 : F.eval (.tmp 84) = u 7 := (congrArg (fun a => Act.eval a (.tmp 84)) hF).trans (eval_in [some 77, some 78, some 79, some 80, some 81, some 82, some 83, some 84, some 85, some 86, some 87, some 88, some 89, some 90, some 91, none, some 92] 0 7 _ (by decide) (by omega) rfl (of_decide_eq_true (by kernel_rfl)))
          have D85 : F.eval (.tmp 85) = u 8 := (congrArg (fun a => Act.eval a (.tmp 85)) hF).trans (eval_in [some 77, some 78, some 79, some 80, some 81, some 82, some 83, some 84, some 85, some 86, some 87, some 88, some 89, some 90, some 91, none, some 92] 0 8 _ (by decide) (by omega) rfl (of_decide_eq_true (by kernel_rfl)))
          have D87 : F.eval (.tmp 87) = u 10 := (congrArg (fun a => Act.eval a (.tmp 87)) hF).trans (eval_in [some 77, some 78, some 79, some 80, some 81, some 82, some 83, some 84, some 85, some 86, some 87, some 88, some 89, some 90, some 91, none, some 92] 0 10 _ (by decide) (by omega) rfl (of_decide_eq_true (by kernel_rfl)))
          have D86 : F.eval (.tmp 86) = u 9 := (congrArg (fun a => Act.eval a (.tmp 86)) hF).trans (eval_in [some 77, some 78, some 79, some 80, some 81, some 82, some 83, some 84, some 85, some 86, some 87, some 88, some 89, some 90, some 91, none, some 92] 0 9 _ (by decide) (by omega) rfl (of_decide_eq_true (by kernel_rfl)))
          have D88 : F.eval (.tmp 88) = u 11 := (congrArg (fun a => Act.eval a (.tmp 88)) hF).trans (eval_in [some 77, some 78, some 79, some 80, some 81, some 82, some 83, some 84, some 85, some 86, some 87, some 88, some 89, some 90, some 91, none, some 92] 0 11 _ (by decide) (by omega) rfl (of_decide_eq_true (by kernel_rfl)))
          have E5 : F.eval (.tmp 5) = (.pointer (some ⟨p5, 0, none⟩)) := (congrArg (fun a => Act.eval a (.tmp 5)) hF).trans (eval_out [some 77, some 78, some 79, some 80, some 81, some 82, some 83, some 84, some 85, some 86, some 87, some 88, some 89, some 90, some 91, none, some 92] 0 _ (by decide))
          have D90 : F.eval (.tmp 90) = u 13 := (congrArg (fun a => Act.eval a (.tmp 90)) hF).trans (eval_in [some 77, some 78, some 79, some 80, some 81, some 82, some 83, some 84, some 85, some 86, some 87, some 88, some 89, some 90, some 91, none, some 92] 0 13 _ (by decide) (by omega) rfl (of_decide_eq_true (by kernel_rfl)))
          have D91 : F.eval (.tmp 91) = u 14 := (congrArg (fun a => Act.eval a (.tmp 91)) hF).trans (eval_in [some 77, some 78, some 79, some 80, some 81, some 82, some 83, some 84, some 85, some 86, some 87, some 88, some 89, some 90, some 91, none, some 92] 0 14 _ (by decide) (by omega) rfl (of_decide_eq_true (by kernel_rfl)))
          have D82 : F.eval (.tmp 82) = u 5 := (congrArg (fun a => Act.eval a (.tmp 82)) hF).trans (eval_in [some 77, some 78, some 79, some 80, some 81, some 82, some 83, some 84, some 85, some 86, some 87, some 88, some 89, some 90, some 91, none, some 92] 0 5 _ (by decide) (by omega) rfl (of_decide_eq_true (by kernel_rfl)))
          clear hF
          refine ⟨?_, ?_, ?_, ?_, ?_, ?_, ?_, ?_, ?_, ?_, ?_, ?_, ?_, ?_, ?_, ?_, ?_, trivial⟩
          · intro w1 hb hd K hK
            have e1 := E1
            exact op_val (v := (.pointer (some ⟨p1, 4, none⟩))) rfl (by simp only [execOp, List.map_toArray, List.map_cons, List.map_nil, e1]; go_simp) (hK _ _ (show _ = _ from rfl) ((grBlk p1 p5 34 (enC (gE rd tb B V 2 0 false [] 0 0)) (enC (gE rd tb B V 2 0 false [wonO (t14 : Int) N] 0 0))).refl _))
          · intro w1 hb hd K hK
            have e77 := D77.trans (show u 0 = (.pointer (some ⟨p1, 4, none⟩)) from hd ⟨0, .data⟩ (by simp) rfl (by omega))
            have c0 : w1.cell? ⟨p1, 4, none⟩ = some (.int .u8 (x.tk : Int)) := ((hb.2.1 p1 _ _ HL.out.1 HS6.out).cell (j := 4) rfl)
            exact op_val (v := (.int .u8 (x.tk : Int))) rfl (by simp only [execOp, e77]; go_simp) (hK _ _ (show _ = _ from rfl) ((grBlk p1 p5 34 (enC (gE rd tb B V 2 0 false [] 0 0)) (enC (gE rd tb B V 2 0 false [wonO (t14 : Int) N] 0 0))).refl _))
          · intro w1 hb hd K hK
            have e78 := D78.trans (show u 1 = (.int .u8 (x.tk : Int)) from hd ⟨1, .data⟩ (by simp) rfl (by omega))
            exact op_val (v := (.int .i64 (x.tk : Int))) rfl (by simp only [execOp, List.map_toArray, List.map_cons, List.map_nil, e78]; go_simp) (hK _ _ (show _ = _ from rfl) ((grBlk p1 p5 34 (enC (gE rd tb B V 2 0 false [] 0 0)) (enC (gE rd tb B V 2 0 false [wonO (t14 : Int) N] 0 0))).refl _))
          · intro w1 hb hd K hK
            have e79 := D79.trans (show u 2 = (.int .i64 (x.tk : Int)) from hd ⟨2, .data⟩ (by simp) rfl (by omega))
            exact op_val (v := (.int .i64 (t14 : Int))) rfl (by simp only [execOp, List.map_toArray, List.map_cons, List.map_nil, e79]; go_simp) (hK _ _ (show _ = _ from rfl) ((grBlk p1 p5 34 (enC (gE rd tb B V 2 0 false [] 0 0)) (enC (gE rd tb B V 2 0 false [wonO (t14 : Int) N] 0 0))).refl _))
          · intro w1 hb hd K hK
            have e6 := E6
            exact op_val (v := (.int .i64 N)) rfl (by simp only [execOp, List.map_toArray, List.map_cons, List.map_nil, e6]; go_simp) (hK _ _ (show _ = _ from rfl) ((grBlk p1 p5 34 (enC (gE rd tb B V 2 0 false [] 0 0)) (enC (gE rd tb B V 2 0 false [wonO (t14 : Int) N] 0 0))).refl _))
          · intro w1 hb hd K hK
            have e80 := D80.trans (show u 3 = (.int .i64 (t14 : Int)) from hd ⟨3, .data⟩ (by simp) rfl (by omega))
            have e81 := D81.trans (show u 4 = (.int .i64 N) from hd ⟨4, .data⟩ (by simp) rfl (by omega))
            refine op_call (R := fun v w2 => v = (.agg OA) ∧ Below w1.heap.size w1 w2) (f := 21) (args := #[.int .i64 (t14 : Int), .int .i64 N]) rfl (by simp only [execOp]; go_simp; first | exact ⟨eval_get e80, eval_get e81⟩ | (simp only [Act.eval] at *; simp_all)) ((WA.out w1).mono fun e w2 hh => ⟨_, hh.1, rfl, hh.2⟩) (fun v w2 hh => hK _ _ hh.1 (grBlk_below hh.2 (Nat.le_trans hBW hb.1.size)))
          · intro w1 hb hd K hK
            have e1 := E1
            exact op_val (v := (.pointer (some ⟨p1, 1, none⟩))) rfl (by simp only [execOp, List.map_toArray, List.map_cons, List.map_nil, e1]; go_simp) (hK _ _ (show _ = _ from rfl) ((grBlk p1 p5 34 (enC (gE rd tb B V 2 0 false [] 0 0)) (enC (gE rd tb B V 2 0 false [wonO (t14 : Int) N] 0 0))).refl _))
          · intro w1 hb hd K hK
            have e83 := D83.trans (show u 6 = (.pointer (some ⟨p1, 1, none⟩)) from hd ⟨6, .data⟩ (by simp) rfl (by omega))
            have c0 : w1.cell? ⟨p1, 1, none⟩ = some (.int .u8 (x.bd : Int)) := ((hb.2.1 p1 _ _ HL.out.1 HS6.out).cell (j := 1) rfl)
            exact op_val (v := (.int .u8 (x.bd : Int))) rfl (by simp only [execOp, e83]; go_simp) (hK _ _ (show _ = _ from rfl) ((grBlk p1 p5 34 (enC (gE rd tb B V 2 0 false [] 0 0)) (enC (gE rd tb B V 2 0 false [wonO (t14 : Int) N] 0 0))).refl _))
          · intro w1 hb hd K hK
            have e84 := D84.trans (show u 7 = (.int .u8 (x.bd : Int)) from hd ⟨7, .data⟩ (by simp) rfl (by omega))
            exact op_val (v := (.int .i64 (x.bd : Int))) rfl (by simp only [execOp, List.map_toArray, List.map_cons, List.map_nil, e84]; go_simp) (hK _ _ (show _ = _ from rfl) ((grBlk p1 p5 34 (enC (gE rd tb B V 2 0 false [] 0 0)) (enC (gE rd tb B V 2 0 false [wonO (t14 : Int) N] 0 0))).refl _))
          · intro w1 hb hd K hK
            have e85 := D85.trans (show u 8 = (.int .i64 (x.bd : Int)) from hd ⟨8, .data⟩ (by simp) rfl (by omega))
            exact op_val (v := (.int .i64 (b14 : Int))) rfl (by simp only [execOp, List.map_toArray, List.map_cons, List.map_nil, e85]; go_simp) (hK _ _ (show _ = _ from rfl) ((grBlk p1 p5 34 (enC (gE rd tb B V 2 0 false [] 0 0)) (enC (gE rd tb B V 2 0 false [wonO (t14 : Int) N] 0 0))).refl _))
          · intro w1 hb hd K hK
            have e6 := E6
            exact op_val (v := (.int .i64 N)) rfl (by simp only [execOp, List.map_toArray, List.map_cons, List.map_nil, e6]; go_simp) (hK _ _ (show _ = _ from rfl) ((grBlk p1 p5 34 (enC (gE rd tb B V 2 0 false [] 0 0)) (enC (gE rd tb B V 2 0 false [wonO (t14 : Int) N] 0 0))).refl _))
          · intro w1 hb hd K hK
            have e87 := D87.trans (show u 10 = (.int .i64 N) from hd ⟨10, .data⟩ (by simp) rfl (by omega))
            exact op_val (v := (.int .i64 (100 - N))) rfl (by simp only [execOp, List.map_toArray, List.map_cons, List.map_nil, e87]; go_simp) (hK _ _ (show _ = _ from rfl) ((grBlk p1 p5 34 (enC (gE rd tb B V 2 0 false [] 0 0)) (enC (gE rd tb B V 2 0 false [wonO (t14 : Int) N] 0 0))).refl _))
          · intro w1 hb hd K hK
            have e86 := D86.trans (show u 9 = (.int .i64 (b14 : Int)) from hd ⟨9, .data⟩ (by simp) rfl (by omega))
            have e88 := D88.trans (show u 11 = (.int .i64 (100 - N)) from hd ⟨11, .data⟩ (by simp) rfl (by omega))
            refine op_call (R := fun v w2 => v = (.agg OB) ∧ Below w1.heap.size w1 w2) (f := 21) (args := #[.int .i64 (b14 : Int), .int .i64 (100 - N)]) rfl (by simp only [execOp]; go_simp; first | exact ⟨eval_get e86, eval_get e88⟩ | (simp only [Act.eval] at *; simp_all)) ((WB.out w1).mono fun e w2 hh => ⟨_, hh.1, rfl, hh.2⟩) (fun v w2 hh => hK _ _ hh.1 (grBlk_below hh.2 (Nat.le_trans hBW hb.1.size)))
          · intro w1 hb hd K hK
            have e5 := E5
            exact op_val (v := (.pointer (some ⟨p5, 7, none⟩))) rfl (by simp only [execOp, List.map_toArray, List.map_cons, List.map_nil, e5]; go_simp) (hK _ _ (show _ = _ from rfl) ((grBlk p1 p5 34 (enC (gE rd tb B V 2 0 false [] 0 0)) (enC (gE rd tb B V 2 0 false [wonO (t14 : Int) N] 0 0))).refl _))
          · intro w1 hb hd K hK
            have e90 := D90.trans (show u 13 = (.pointer (some ⟨p5, 7, none⟩)) from hd ⟨13, .data⟩ (by simp) rfl (by omega))
            exact op_val (v := (.pointer (some ⟨p5, 7, none⟩))) rfl (by simp only [execOp, List.map_toArray, List.map_cons, List.map_nil, e90]; go_simp) (hK _ _ (show _ = _ from rfl) ((grBlk p1 p5 34 (enC (gE rd tb B V 2 0 false [] 0 0)) (enC (gE rd tb B V 2 0 false [wonO (t14 : Int) N] 0 0))).refl _))
          · intro w1 hb hd K hK
            have e91 := D91.trans (show u 14 = (.pointer (some ⟨p5, 7, none⟩)) from hd ⟨14, .data⟩ (by simp) rfl (by omega))
            have e82 := D82.trans (show u 5 = (.agg OA) from hd ⟨5, .data⟩ (by simp) rfl (by omega))
            have hor := hb.2.2.2 hBlk
            have st := storeAt_run (T := 30) (w := w1) (b := p5) (off := 7) (C := OA) (by rw [HOA.out.1]; kernel_rfl) (fun j hj => by rw [HOA.out.1] at hj; rcases hor with h | h <;> exact enC_cell h (7 + j) (by omega)) (fun j hj => by rcases hor with h | h <;> exact h.free _) HOA.out.2.1
            have hs := grBlk_put (vs := OA.toList) hBb hor HP1.out.1 HP1.out.2
            exact op_skip (w' := w1.setCells p5 7 OA.toList) rfl rfl (exec_store rfl e91 e82 st) (hK _ _ hs.1 hs.2)
          · intro w1 hb hd K hK
            have e5 := E5
            exact op_val (v := (.pointer (some ⟨p5, 7, none⟩))) rfl (by simp only [execOp, List.map_toArray, List.map_cons, List.map_nil, e5]; go_simp) (hK _ _ (show _ = _ from rfl) ((grBlk p1 p5 34 (enC (gE rd tb B V 2 0 false [] 0 0)) (enC (gE rd tb B V 2 0 false [wonO (t14 : Int) N] 0 0))).refl _))
        have hv77 : u 0 = (.pointer (some ⟨p1, 4, none⟩)) := (show u 0 = _ from hsF 0 (by omega) (by omega))
        have hv78 : u 1 = (.int .u8 (x.tk : Int)) := (show u 1 = _ from hsF 1 (by omega) (by omega))
        have hv79 : u 2 = (.int .i64 (x.tk : Int)) := (show u 2 = _ from hsF 2 (by omega) (by omega))
        have hv80 : u 3 = (.int .i64 (t14 : Int)) := (show u 3 = _ from hsF 3 (by omega) (by omega))
        have hv81 : u 4 = (.int .i64 N) := (show u 4 = _ from hsF 4 (by omega) (by omega))
        have hv82 : u 5 = (.agg OA) := (show u 5 = _ from hsF 5 (by omega) (by omega))
        have hv83 : u 6 = (.pointer (some ⟨p1, 1, none⟩)) := (show u 6 = _ from hsF 6 (by omega) (by omega))
        have hv84 : u 7 = (.int .u8 (x.bd : Int)) := (show u 7 = _ from hsF 7 (by omega) (by omega))
        have hv85 : u 8 = (.int .i64 (x.bd : Int)) := (show u 8 = _ from hsF 8 (by omega) (by omega))
        have hv86 : u 9 = (.int .i64 (b14 : Int)) := (show u 9 = _ from hsF 9 (by omega) (by omega))
        have hv87 : u 10 = (.int .i64 N) := (show u 10 = _ from hsF 10 (by omega) (by omega))
        have hv88 : u 11 = (.int .i64 (100 - N)) := (show u 11 = _ from hsF 11 (by omega) (by omega))
        have hv89 : u 12 = (.agg OB) := (show u 12 = _ from hsF 12 (by omega) (by omega))
        have hv90 : u 13 = (.pointer (some ⟨p5, 7, none⟩)) := (show u 13 = _ from hsF 13 (by omega) (by omega))
        have hv91 : u 14 = (.pointer (some ⟨p5, 7, none⟩)) := (show u 14 = _ from hsF 14 (by omega) (by omega))
        have hst1 : Blk w' p5 34 (enC (gE rd tb B V 2 0 false [wonO (t14 : Int) N] 0 0)) := hsF 15 (by omega) (by omega)
        have hv92 : u 16 = (.pointer (some ⟨p5, 7, none⟩)) := (show u 16 = _ from hsF 16 (by omega) (by omega))
        simp only [putRow, hv77, hv78, hv79, hv80, hv81, hv82, hv83, hv84, hv85, hv86, hv87, hv88, hv89, hv90, hv91, hv92, Act.put, List.setIfInBounds_toArray, List.set_cons_succ, List.set_cons_zero]
        clear hsF hv77 hv78 hv79 hv80 hv81 hv82 hv83 hv84 hv85 hv86 hv87 hv88 hv89 hv90 hv91 hv92
        have HZ7 := Lib.hid (hbF.2.1 p2 _ _ HL.out.2.1 HZ6.out)
        have HB7 := Lib.hid hst1
        have HW7 := Lib.hid (HW6.out.trans hbF.1)
        clear hst1 HS6 HZ6 hBlk hBW hBb HW6 hbF WA WB HP1 r14 s14 kt kb kw e9 e10 HOA
        clear W6
        have st := storeAt_run (T := 30) (w := w') (b := p5) (off := 13) (C := OB) (by rw [HOB.out.1]; kernel_rfl) (fun j hj => by rw [HOB.out.1] at hj; exact enC_cell HB7.out (13 + j) (by omega)) (fun j hj => HB7.out.free _) HOB.out.2.1
        refine rest_forced 2 (by kernel_rfl) ?_
        simp only [List.drop_succ_cons, List.drop_zero, List.take_succ_cons, List.take_zero]
        go_wp2_with (refine op_store (p := .pointer (some ⟨p5, 13, none⟩)) (C := .agg OB) 30 (.tmp 93) (.tmp 89) rfl rfl rfl rfl rfl st ?_)
        clear st
        refine rest_done rfl ?_
        have HZA := Lib.hid (Blk.otherCells (b' := p5) HL.out.2.1 OB.toList 13 w' HZ7.out)
        have HBA := Lib.hid (HPC.out w' HB7.out)
        have HWA := Lib.hid (Below.setCells' (b := p5) HL.out.2.2.1 OB.toList 13 w' HW7.out)
        clear HZ7 HB7 HW7 HPC HOB
        generalize w'.setCells p5 13 OB.toList = WA at *
        clear w'
        have la := loadAt_blk (T := 34) HBA.out Tryz.underlying34 rfl (by rw [enC_size]; kernel_rfl)
        have st := storeAt_row (T := 34) (C := enC (gE rd tb B V 2 0 false [wonO (t14 : Int) N, wonO (b14 : Int) (100 - N)] 0 0)) HZA.out (by rw [enC_size]; kernel_rfl) (by simp only [enC_size]) (enC_one _)
        have HF := Lib.hid (HZA.out.row (enC (gE rd tb B V 2 0 false [wonO (t14 : Int) N, wonO (b14 : Int) (100 - N)] 0 0)))
        have HQ := Lib.hid (Below.setRow' HL.out.2.2.2 HWA.out (enC (gE rd tb B V 2 0 false [wonO (t14 : Int) N, wonO (b14 : Int) (100 - N)] 0 0)))
        clear HZA HBA HWA
        go_wp2_with (first | refine op_load (p := .pointer (some ⟨p5, 0, none⟩)) 34 (.tmp 5) rfl rfl rfl la ?_ | refine op_store (p := .pointer (some ⟨p2, 0, none⟩)) (C := .agg (enC (gE rd tb B V 2 0 false [wonO (t14 : Int) N, wonO (b14 : Int) (100 - N)] 0 0))) 34 (.tmp 2) (.tmp 110) rfl rfl rfl rfl rfl st ?_)
        clear st la
        generalize WA.setRow p2 (enC (gE rd tb B V 2 0 false [wonO (t14 : Int) N, wonO (b14 : Int) (100 - N)] 0 0)) = WF at *
        have lf := loadVar_blk (T := 34) HF.out Tryz.underlying34 rfl (by rw [enC_size]; kernel_rfl)
        (try simp only [Exit.inBlock, Exit.then])
        refine bodyPost_ret (results_cell Tryz.results26 rfl lf) rfl ?_
        exact ⟨by rw [HX.out], by rw [HP.out.1]; exact HQ.out⟩
      · by_cases h4 : K = 4
        · subst h4
          obtain ⟨t7, ht7⟩ : ∃ q, x.tk % 7 = q := ⟨_, rfl⟩
          obtain ⟨w7, hw7⟩ : ∃ q, x.wt % 7 = q := ⟨_, rfl⟩
          have HX0 : Hid (M = (gE rd tb B V 4 0 false [] (awN t7) (awN w7))) := Lib.hid (by rw [HM2.out, ← ht7, ← hw7]; rfl)
          have r7 : (x.tk : Int).tmod 7 = (t7 : Int) := by rw [Int.tmod_eq_emod_of_nonneg (by omega)]; omega
          have s7 : (x.wt : Int).tmod 7 = (w7 : Int) := by rw [Int.tmod_eq_emod_of_nonneg (by omega)]; omega
          have AT := Lib.hid (aw_at t7 (by omega))
          have AX := Lib.hid (aw_at w7 (by omega))
          have j1 : (t7 : Int) < 7 := by omega
          have j2 : (w7 : Int) < 7 := by omega
          have j3 : ¬ (7 : Int) ≤ (t7 : Int) := by omega
          have j4 : ¬ (7 : Int) ≤ (w7 : Int) := by omega
          have j5 : (0 : Int) ≤ (t7 : Int) := by omega
          have j6 : (0 : Int) ≤ (w7 : Int) := by omega
          have j7 : ¬ 7 ≤ t7 := by omega
          have j8 : ¬ 7 ≤ w7 := by omega
          have j9 : t7 < 7 := by omega
          have j10 : w7 < 7 := by omega
          obtain ⟨m0, hm0⟩ : ∃ q, awN t7 = q := ⟨_, rfl⟩
          obtain ⟨m1, hm1⟩ : ∃ q, awN w7 = q := ⟨_, rfl⟩
          rw [hm0] at AT HX0
          rw [hm1] at AX HX0
          have HX := HX0
          clear ht7 hw7 HX0 hm0 hm1
          have x4 : W5.cell? ⟨p5, 4, none⟩ = some (.int .u8 4) := HB5.out.cell (enC_kd _)
          clear hK5 HM2
          go_upto_region 14 with fail
          clear x4
          have HS6 : Hid (Blk W5.drew p1 61 (smC x)) := HS5
          have HZ6 : Hid (Blk W5.drew p2 34 (enC zE)) := HZ5
          have hBlk : Blk W5.drew p5 34 (enC (gE rd tb B V 4 0 false [] 0 0)) := HB5.out
          have HW6 := Lib.hid HW5.out.drew
          refine rest_begin (by kernel_rfl) ?_
          obtain ⟨W6, hW6⟩ : ∃ W6, W5.drew = W6 := ⟨_, rfl⟩
          rw [hW6] at HS6 HZ6 hBlk HW6 ⊢
          clear hW6 HS5 HZ5 HB5 HW5
          clear W5
          have hBW : p1 ≤ W6.heap.size := by rw [← HP.out.1]; exact HW6.out.size
          have hBb : p1 ≤ p5 := HL.out.2.2.1
          refine rest_flow3 [some 96, some 97, some 98, some 99, some 100, some 101, some 102, some 103, some 104, some 105, some 106, some 107, some 108] [Sp.row [.int .i64 0, .int .i64 30, .int .i64 40, .int .i64 50, .int .i64 60, .int .i64 70, .int .i64 100], Sp.is (.pointer (some ⟨p1, 4, none⟩)), Sp.is (.int .u8 (x.tk : Int)), Sp.is (.int .u8 (t7 : Int)), Sp.ptr (.int .i64 m0), Sp.is (.int .i64 m0), Sp.row [.int .i64 0, .int .i64 30, .int .i64 40, .int .i64 50, .int .i64 60, .int .i64 70, .int .i64 100], Sp.is (.pointer (some ⟨p1, 5, none⟩)), Sp.is (.int .u8 (x.wt : Int)), Sp.is (.int .u8 (w7 : Int)), Sp.ptr (.int .i64 m1), Sp.is (.int .i64 m1), Sp.is (.agg #[.int .i64 m0, .int .i64 m1])] [false, false, false, false, false, false, false, false, false, false, false, false, false] 13 (by kernel_rfl) (by kernel_rfl) (fun u F hF => ?_) (fun u w' hbF hsF hold hap => ?_)
          case refine_1 =>
            have E1 : F.eval (.tmp 1) = (.pointer (some ⟨p1, 0, none⟩)) := (congrArg (fun a => Act.eval a (.tmp 1)) hF).trans (eval_out [some 96, some 97, some 98, some 99, some 100, some 101, some 102, some 103, some 104, some 105, some 106, some 107, some 108] 0 _ (by decide))
            have D97 : F.eval (.tmp 97) = u 1 := (congrArg (fun a => Act.eval a (.tmp 97)) hF).trans (eval_in [some 96, some 97, some 98, some 99, some 100, some 101, some 102, some 103, some 104, some 105, some 106, some 107, some 108] 0 1 _ (by decide) (by omega) rfl (of_decide_eq_true (by kernel_rfl)))
            have D98 : F.eval (.tmp 98) = u 2 := (congrArg (fun a => Act.eval a (.tmp 98)) hF).trans (eval_in [some 96, some 97, some 98, some 99, some 100, some 101, some 102, some 103, some 104, some 105, some 106, some 107, some 108] 0 2 _ (by decide) (by omega) rfl (of_decide_eq_true (by kernel_rfl)))
            have D99 : F.eval (.tmp 99) = u 3 := (congrArg (fun a => Act.eval a (.tmp 99)) hF).trans (eval_in [some 96, some 97, some 98, some 99, some 100, some 101, some 102, some 103, some 104, some 105, some 106, some 107, some 108] 0 3 _ (by decide) (by omega) rfl (of_decide_eq_true (by kernel_rfl)))
            have D96 : F.eval (.tmp 96) = u 0 := (congrArg (fun a => Act.eval a (.tmp 96)) hF).trans (eval_in [some 96, some 97, some 98, some 99, some 100, some 101, some 102, some 103, some 104, some 105, some 106, some 107, some 108] 0 0 _ (by decide) (by omega) rfl (of_decide_eq_true (by kernel_rfl)))
            have D100 : F.eval (.tmp 100) = u 4 := (congrArg (fun a => Act.eval a (.tmp 100)) hF).trans (eval_in [some 96, some 97, some 98, some 99, some 100, some 101, some 102, some 103, some 104, some 105, some 106, some 107, some 108] 0 4 _ (by decide) (by omega) rfl (of_decide_eq_true (by kernel_rfl)))
            have D103 : F.eval (.tmp 103) = u 7 := (congrArg (fun a => Act.eval a (.tmp 103)) hF).trans (eval_in [some 96, some 97, some 98, some 99, some 100, some 101, some 102, some 103, some 104, some 105, some 106, some 107, some 108] 0 7 _ (by decide) (by omega) rfl (of_decide_eq_true (by kernel_rfl)))
            have D104 : F.eval (.tmp 104) = u 8 := (congrArg (fun a => Act.eval a (.tmp 104)) hF).trans (eval_in [some 96, some 97, some 98, some 99, some 100, some 101, some 102, some 103, some 104, some 105, some 106, some 107, some 108] 0 8 _ (by decide) (by omega) rfl (of_decide_eq_true (by kernel_rfl)))
            have D105 : F.eval (.tmp 105) = u 9 := (congrArg (fun a => Act.eval a (.tmp 105)) hF).trans (eval_in [some 96, some 97, some 98, some 99, some 100, some 101, some 102, some 103, some 104, some 105, some 106, some 107, some 108] 0 9 _ (by decide) (by omega) rfl (of_decide_eq_true (by kernel_rfl)))
            have D102 : F.eval (.tmp 102) = u 6 := (congrArg (fun a => Act.eval a (.tmp 102)) hF).trans (eval_in [some 96, some 97, some 98, some 99, some 100, some 101, some 102, some 103, some 104, some 105, some 106, some 107, some 108] 0 6 _ (by decide) (by omega) rfl (of_decide_eq_true (by kernel_rfl)))
            have D106 : F.eval (.tmp 106) = u 10 := (congrArg (fun a => Act.eval a (.tmp 106)) hF).trans (eval_in [some 96, some 97, some 98, some 99, some 100, some 101, some 102, some 103, some 104, some 105, some 106, some 107, some 108] 0 10 _ (by decide) (by omega) rfl (of_decide_eq_true (by kernel_rfl)))
            have D101 : F.eval (.tmp 101) = u 5 := (congrArg (fun a => Act.eval a (.tmp 101)) hF).trans (eval_in [some 96, some 97, some 98, some 99, some 100, some 101, some 102, some 103, some 104, some 105, some 106, some 107, some 108] 0 5 _ (by decide) (by omega) rfl (of_decide_eq_true (by kernel_rfl)))
            have D107 : F.eval (.tmp 107) = u 11 := (congrArg (fun a => Act.eval a (.tmp 107)) hF).trans (eval_in [some 96, some 97, some 98, some 99, some 100, some 101, some 102, some 103, some 104, some 105, some 106, some 107, some 108] 0 11 _ (by decide) (by omega) rfl (of_decide_eq_true (by kernel_rfl)))
            clear hF
            refine ⟨?_, ?_, ?_, ?_, ?_, ?_, ?_, ?_, ?_, ?_, ?_, ?_, ?_, trivial⟩
            · intro w1 hb hd K hK
              exact op_val (v := .slice (some ⟨w1.heap.size, 0, none⟩) 7 7) (w' := w1.alloc (.cells #[.int .i64 0, .int .i64 30, .int .i64 40, .int .i64 50, .int .i64 60, .int .i64 70, .int .i64 100] 3)) rfl (by simp only [execOp, List.map_toArray, List.map_cons, List.map_nil, ]; go_simp) (hK _ _ (Sp.row_new w1 3 [.int .i64 0, .int .i64 30, .int .i64 40, .int .i64 50, .int .i64 60, .int .i64 70, .int .i64 100] 7 _ rfl rfl) (below1 _ _) (Fresh.no _ _ _))
            · intro w1 hb hd K hK
              have e1 := E1
              exact op_val (v := (.pointer (some ⟨p1, 4, none⟩))) rfl (by simp only [execOp, List.map_toArray, List.map_cons, List.map_nil, e1]; go_simp) (hK _ _ (show _ = _ from rfl) (Below.refl _ _) (Fresh.no _ _ _))
            · intro w1 hb hd K hK
              have e97 := D97.trans (show u 1 = (.pointer (some ⟨p1, 4, none⟩)) from hd ⟨1, .data⟩ (by simp) rfl (by omega))
              have c0 : w1.cell? ⟨p1, 4, none⟩ = some (.int .u8 (x.tk : Int)) := (HS6.out.keep hb HS6.out.lt).cell (j := 4) rfl
              exact op_val (v := (.int .u8 (x.tk : Int))) rfl (by simp only [execOp, e97]; go_simp) (hK _ _ (show _ = _ from rfl) (Below.refl _ _) (Fresh.no _ _ _))
            · intro w1 hb hd K hK
              have e98 := D98.trans (show u 2 = (.int .u8 (x.tk : Int)) from hd ⟨2, .data⟩ (by simp) rfl (by omega))
              exact op_val (v := (.int .u8 (t7 : Int))) rfl (by simp only [execOp, List.map_toArray, List.map_cons, List.map_nil, e98]; go_simp) (hK _ _ (show _ = _ from rfl) (Below.refl _ _) (Fresh.no _ _ _))
            · intro w1 hb hd K hK
              have e99 := D99.trans (show u 3 = (.int .u8 (t7 : Int)) from hd ⟨3, .data⟩ (by simp) rfl (by omega))
              obtain ⟨b9, h9, hl9, hc9⟩ := (show (Sp.row [.int .i64 0, .int .i64 30, .int .i64 40, .int .i64 50, .int .i64 60, .int .i64 70, .int .i64 100]).p (u 0) w1 from hd ⟨0, .data⟩ (by simp) rfl (by omega))
              have e96 := D96.trans h9
              have c9 := hc9 t7 (.int .i64 m0) AT.out
              exact op_val (v := .pointer (some ⟨b9, t7, none⟩)) rfl (by simp only [execOp, e96, e99]; go_simp) (hK _ _ (show ∃ b o, _ ∧ _ ∧ _ from ⟨b9, t7, rfl, hl9, c9⟩) (Below.refl _ _) (Fresh.no _ _ _))
            · intro w1 hb hd K hK
              obtain ⟨b9, o9, h9, hl9, c9⟩ := (show (Sp.ptr (.int .i64 m0)).p (u 4) w1 from hd ⟨4, .data⟩ (by simp) rfl (by omega))
              have e100 := D100.trans h9
              exact op_val (v := .int .i64 m0) rfl (by simp only [execOp, e100]; go_simp) (hK _ _ (show _ = _ from rfl) (Below.refl _ _) (Fresh.no _ _ _))
            · intro w1 hb hd K hK
              exact op_val (v := .slice (some ⟨w1.heap.size, 0, none⟩) 7 7) (w' := w1.alloc (.cells #[.int .i64 0, .int .i64 30, .int .i64 40, .int .i64 50, .int .i64 60, .int .i64 70, .int .i64 100] 3)) rfl (by simp only [execOp, List.map_toArray, List.map_cons, List.map_nil, ]; go_simp) (hK _ _ (Sp.row_new w1 3 [.int .i64 0, .int .i64 30, .int .i64 40, .int .i64 50, .int .i64 60, .int .i64 70, .int .i64 100] 7 _ rfl rfl) (below1 _ _) (Fresh.no _ _ _))
            · intro w1 hb hd K hK
              have e1 := E1
              exact op_val (v := (.pointer (some ⟨p1, 5, none⟩))) rfl (by simp only [execOp, List.map_toArray, List.map_cons, List.map_nil, e1]; go_simp) (hK _ _ (show _ = _ from rfl) (Below.refl _ _) (Fresh.no _ _ _))
            · intro w1 hb hd K hK
              have e103 := D103.trans (show u 7 = (.pointer (some ⟨p1, 5, none⟩)) from hd ⟨7, .data⟩ (by simp) rfl (by omega))
              have c0 : w1.cell? ⟨p1, 5, none⟩ = some (.int .u8 (x.wt : Int)) := (HS6.out.keep hb HS6.out.lt).cell (j := 5) rfl
              exact op_val (v := (.int .u8 (x.wt : Int))) rfl (by simp only [execOp, e103]; go_simp) (hK _ _ (show _ = _ from rfl) (Below.refl _ _) (Fresh.no _ _ _))
            · intro w1 hb hd K hK
              have e104 := D104.trans (show u 8 = (.int .u8 (x.wt : Int)) from hd ⟨8, .data⟩ (by simp) rfl (by omega))
              exact op_val (v := (.int .u8 (w7 : Int))) rfl (by simp only [execOp, List.map_toArray, List.map_cons, List.map_nil, e104]; go_simp) (hK _ _ (show _ = _ from rfl) (Below.refl _ _) (Fresh.no _ _ _))
            · intro w1 hb hd K hK
              have e105 := D105.trans (show u 9 = (.int .u8 (w7 : Int)) from hd ⟨9, .data⟩ (by simp) rfl (by omega))
              obtain ⟨b9, h9, hl9, hc9⟩ := (show (Sp.row [.int .i64 0, .int .i64 30, .int .i64 40, .int .i64 50, .int .i64 60, .int .i64 70, .int .i64 100]).p (u 6) w1 from hd ⟨6, .data⟩ (by simp) rfl (by omega))
              have e102 := D102.trans h9
              have c9 := hc9 w7 (.int .i64 m1) AX.out
              exact op_val (v := .pointer (some ⟨b9, w7, none⟩)) rfl (by simp only [execOp, e102, e105]; go_simp) (hK _ _ (show ∃ b o, _ ∧ _ ∧ _ from ⟨b9, w7, rfl, hl9, c9⟩) (Below.refl _ _) (Fresh.no _ _ _))
            · intro w1 hb hd K hK
              obtain ⟨b9, o9, h9, hl9, c9⟩ := (show (Sp.ptr (.int .i64 m1)).p (u 10) w1 from hd ⟨10, .data⟩ (by simp) rfl (by omega))
              have e106 := D106.trans h9
              exact op_val (v := .int .i64 m1) rfl (by simp only [execOp, e106]; go_simp) (hK _ _ (show _ = _ from rfl) (Below.refl _ _) (Fresh.no _ _ _))
            · intro w1 hb hd K hK
              have e101 := D101.trans (show u 5 = (.int .i64 m0) from hd ⟨5, .data⟩ (by simp) rfl (by omega))
              have e107 := D107.trans (show u 11 = (.int .i64 m1) from hd ⟨11, .data⟩ (by simp) rfl (by omega))
              exact op_val (v := (.agg #[.int .i64 m0, .int .i64 m1])) rfl (by simp only [execOp, List.map_toArray, List.map_cons, List.map_nil, e101, e107]; go_simp) (hK _ _ (show _ = _ from rfl) (Below.refl _ _) (Fresh.no _ _ _))
          obtain ⟨b96, hv96, hlt96, hc96⟩ := (show (Sp.row [.int .i64 0, .int .i64 30, .int .i64 40, .int .i64 50, .int .i64 60, .int .i64 70, .int .i64 100]).p (u 0) w' from hsF 0 (by omega) (by omega))
          have hv97 : u 1 = (.pointer (some ⟨p1, 4, none⟩)) := (show u 1 = _ from hsF 1 (by omega) (by omega))
          have hv98 : u 2 = (.int .u8 (x.tk : Int)) := (show u 2 = _ from hsF 2 (by omega) (by omega))
          have hv99 : u 3 = (.int .u8 (t7 : Int)) := (show u 3 = _ from hsF 3 (by omega) (by omega))
          obtain ⟨b100, o100, hv100, -, -⟩ := (show (Sp.ptr (.int .i64 m0)).p (u 4) w' from hsF 4 (by omega) (by omega))
          have hv101 : u 5 = .int .i64 m0 := (show u 5 = _ from hsF 5 (by omega) (by omega))
          obtain ⟨b102, hv102, hlt102, hc102⟩ := (show (Sp.row [.int .i64 0, .int .i64 30, .int .i64 40, .int .i64 50, .int .i64 60, .int .i64 70, .int .i64 100]).p (u 6) w' from hsF 6 (by omega) (by omega))
          have hv103 : u 7 = (.pointer (some ⟨p1, 5, none⟩)) := (show u 7 = _ from hsF 7 (by omega) (by omega))
          have hv104 : u 8 = (.int .u8 (x.wt : Int)) := (show u 8 = _ from hsF 8 (by omega) (by omega))
          have hv105 : u 9 = (.int .u8 (w7 : Int)) := (show u 9 = _ from hsF 9 (by omega) (by omega))
          obtain ⟨b106, o106, hv106, -, -⟩ := (show (Sp.ptr (.int .i64 m1)).p (u 10) w' from hsF 10 (by omega) (by omega))
          have hv107 : u 11 = .int .i64 m1 := (show u 11 = _ from hsF 11 (by omega) (by omega))
          have hv108 : u 12 = (.agg #[.int .i64 m0, .int .i64 m1]) := (show u 12 = _ from hsF 12 (by omega) (by omega))
          simp only [putRow, hv96, hv97, hv98, hv99, hv100, hv101, hv102, hv103, hv104, hv105, hv106, hv107, hv108, Act.put, List.setIfInBounds_toArray, List.set_cons_succ, List.set_cons_zero]
          clear hsF hold hap hv96 hv97 hv98 hv99 hv100 hv101 hv102 hv103 hv104 hv105 hv106 hv107 hv108
          have HZ7 := Lib.hid (HZ6.out.keep hbF HZ6.out.lt)
          have HB7 := Lib.hid (hBlk.keep hbF hBlk.lt)
          have HW7 := Lib.hid (HW6.out.trans (hbF.mono hBW))
          clear HS6 HZ6 hBlk hBW hBb HW6 hbF r7 s7 AT AX j1 j2 j3 j4 j5 j6 j7 j8 j9 j10
          clear W6
          have st := storeAt_run (T := 32) (w := w') (b := p5) (off := 31) (C := #[.int .i64 m0, .int .i64 m1]) (by kernel_rfl) (fun j hj => enC_cell HB7.out (31 + j) (by have : j < 2 := hj; omega)) (fun j hj => HB7.out.free _) (by simp [Value.oneCell'])
          refine rest_forced 2 (by kernel_rfl) ?_
          simp only [List.drop_succ_cons, List.drop_zero, List.take_succ_cons, List.take_zero]
          go_wp2_with (refine op_store (p := .pointer (some ⟨p5, 31, none⟩)) (C := .agg #[.int .i64 m0, .int .i64 m1]) 32 (.tmp 109) (.tmp 108) rfl rfl rfl rfl rfl st ?_)
          clear st
          refine rest_done rfl ?_
          have HZA := Lib.hid (Blk.otherCells (b' := p5) HL.out.2.1 [.int .i64 m0, .int .i64 m1] 31 w' HZ7.out)
          have hba := Blk.putC [.int .i64 m0, .int .i64 m1] 31 w' _ HB7.out
          rw [gE_aw] at hba
          have HBA := Lib.hid hba
          have HWA := Lib.hid (Below.setCells' (b := p5) HL.out.2.2.1 [.int .i64 m0, .int .i64 m1] 31 w' HW7.out)
          clear HZ7 HB7 HW7 hba
          generalize w'.setCells p5 31 #[.int .i64 m0, .int .i64 m1].toList = WA at *
          change Hid (Blk WA _ _ _) at HZA
          have la := loadAt_blk (T := 34) HBA.out Tryz.underlying34 rfl (by rw [enC_size]; kernel_rfl)
          have st := storeAt_row (T := 34) (C := enC (gE rd tb B V 4 0 false [] m0 m1)) HZA.out (by rw [enC_size]; kernel_rfl) (by simp only [enC_size]) (enC_one _)
          have HF := Lib.hid (HZA.out.row (enC (gE rd tb B V 4 0 false [] m0 m1)))
          have HQ := Lib.hid (Below.setRow' HL.out.2.2.2 HWA.out (enC (gE rd tb B V 4 0 false [] m0 m1)))
          clear HZA HBA HWA
          go_wp2_with (first | refine op_load (p := .pointer (some ⟨p5, 0, none⟩)) 34 (.tmp 5) rfl rfl rfl la ?_ | refine op_store (p := .pointer (some ⟨p2, 0, none⟩)) (C := .agg (enC (gE rd tb B V 4 0 false [] m0 m1))) 34 (.tmp 2) (.tmp 110) rfl rfl rfl rfl rfl st ?_)
          clear st la
          generalize WA.setRow p2 (enC (gE rd tb B V 4 0 false [] m0 m1)) = WF at *
          have lf := loadVar_blk (T := 34) HF.out Tryz.underlying34 rfl (by rw [enC_size]; kernel_rfl)
          (try simp only [Exit.inBlock, Exit.then])
          refine bodyPost_ret (results_cell Tryz.results26 rfl lf) rfl ?_
          exact ⟨by rw [HX.out], by rw [HP.out.1]; exact HQ.out⟩
        · obtain rfl : K = 0 := by omega
          have HX : Hid (M = (gE rd tb B V 0 0 false [] 0 0)) := Lib.hid (by rw [HM2.out]; rfl)
          have x4 : W5.cell? ⟨p5, 4, none⟩ = some (.int .u8 0) := HB5.out.cell (enC_kd _)
          have la := loadAt_blk (T := 34) HB5.out Tryz.underlying34 rfl (by rw [enC_size]; kernel_rfl)
          have st := storeAt_row (T := 34) (C := enC (gE rd tb B V 0 0 false [] 0 0)) HZ5.out (by rw [enC_size]; kernel_rfl) (by simp only [enC_size]) (enC_one _)
          have HF := Lib.hid (HZ5.out.row (enC (gE rd tb B V 0 0 false [] 0 0)))
          have HQ := Lib.hid (Below.setRow' HL.out.2.2.2 HW5.out (enC (gE rd tb B V 0 0 false [] 0 0)))
          clear HZ5 HB5 HW5
          go_wp2_with (first | refine op_load (p := .pointer (some ⟨p5, 0, none⟩)) 34 (.tmp 5) rfl rfl rfl la ?_ | refine op_store (p := .pointer (some ⟨p2, 0, none⟩)) (C := .agg (enC (gE rd tb B V 0 0 false [] 0 0))) 34 (.tmp 2) (.tmp 110) rfl rfl rfl rfl rfl st ?_)
          clear st la
          generalize W5.setRow p2 (enC (gE rd tb B V 0 0 false [] 0 0)) = WF at *
          have lf := loadVar_blk (T := 34) HF.out Tryz.underlying34 rfl (by rw [enC_size]; kernel_rfl)
          (try simp only [Exit.inBlock, Exit.then])
          refine bodyPost_ret (results_cell Tryz.results26 rfl lf) rfl ?_
          exact ⟨by rw [HX.out], by rw [HP.out.1]; exact HQ.out⟩
end Go.Proofs.YtpkmibmombpjpaaGreatDoor
