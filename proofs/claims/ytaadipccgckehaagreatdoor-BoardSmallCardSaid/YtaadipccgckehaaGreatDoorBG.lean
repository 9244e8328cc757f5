/- Changes: the program's. -/
import Derived.Test.YtaadipccgckehaaGreatDoorBF
import Derived.Laws.EntriesVeiled
namespace Go.Proofs.YtaadipccgckehaaGreatDoor
open Go Go.RowKit Pl

def chV (D E : Nat → Nat) (c : Nat) : List Value := [.int .u8 (c : Nat), .int .u8 (owner D c : Nat), .int .u8 (owner E c : Nat)]
def chVs (D E : Nat → Nat) (l : List Nat) : List Value := l.flatMap (chV D E)
theorem chVs_snoc (D E : Nat → Nat) (l : List Nat) (c : Nat) : chVs D E (l ++ [c]) = chVs D E l ++ chV D E c := by simp [chVs]
theorem chVs_len (D E : Nat → Nat) (l : List Nat) : (chVs D E l).length = l.length * 3 := by
  induction l with
  | nil => rfl
  | cons c l ih => rw [chVs, List.flatMap_cons, List.length_append, ← chVs, ih, List.length_cons]; simp [chV]; omega
/-- What Changes has behind k cards. -/
structure CS (w0 w : World) (B pa pb pl : Nat) (D E : Nat → Nat) (k : Nat) : Prop where
  ha : Blk w pa 24 (dC D)
  hb : Blk w pb 24 (dC E)
  hl : ∃ v, Blk w pl 57 #[v] ∧ w.ownsRow B 64 3 v (chg D E k).length (chVs D E (chg D E k))
  la : pa < B
  lb : pb < B
  ll : pl < B
  hB : B ≤ w.heap.size
  h0 : w0.heap.size ≤ pl
  below : Below w0.heap.size w0 w
theorem CS.keep {w0 w w' : World} {B pa pb pl : Nat} {D E : Nat → Nat} {k : Nat} (h : CS w0 w B pa pb pl D E k) (hb : Below w.heap.size w w') : CS w0 w' B pa pb pl D E k := by
  obtain ⟨v, h1, h2⟩ := h.hl
  exact ⟨h.ha.keep hb h.ha.lt, h.hb.keep hb h.hb.lt, ⟨v, h1.keep hb h1.lt, own_keep h2 hb⟩, h.la, h.lb, h.ll, Nat.le_trans h.hB hb.size, h.h0, h.below.trans (hb.mono h.below.size)⟩
theorem blkB {w w' : World} {b B : Nat} {t : TypeId} {c : Array Value} (h : Blk w b t c) (hb : Below B w w') (hlt : b < B) : Blk w' b t c := (hb.block b hlt).trans h
theorem info_chg : (Tryz.prog.info? 64).map (fun i => (i.zero, i.size, i.bytes)) = some (some (.agg #[.int .u8 0, .int .u8 0, .int .u8 0]), 3, 3) := by kernel_rfl
/-- A change put behind the others. -/
theorem CS.next {w0 w w' : World} {B pa pb pl : Nat} {D E : Nat → Nat} {k : Nat} (h : CS w0 w B pa pb pl D E k) (hne : owner D k ≠ owner E k) {v' : Value} (hrow : w'.ownsRow B 64 3 v' ((chg D E k).length + 1) (chVs D E (chg D E k) ++ chV D E k)) (hb : Below B w w') :
    CS w0 (w'.setCell ⟨pl, 0, none⟩ v') B pa pb pl D E (k + 1) := by
  obtain ⟨v, h1, h2⟩ := h.hl
  have hl' := blkB h1 hb h.ll
  have g0 : w0.heap.size ≤ w.heap.size := h.below.size
  have hpa : pa ≠ pl := fun e => by
    have h3 := (show w.heap[pa]? = _ from h.ha).symm.trans (e ▸ h1 : Blk w pa 57 #[v])
    simp at h3
  have hpb : pb ≠ pl := fun e => by
    have h3 := (show w.heap[pb]? = _ from h.hb).symm.trans (e ▸ h1 : Blk w pb 57 #[v])
    simp at h3
  have hB2 : Below w0.heap.size w0 w' := h.below.trans (hb.mono (by have := h.h0; have := h.ll; omega))
  refine ⟨(blkB h.ha hb h.la).other hpa 0 _, (blkB h.hb hb h.lb).other hpb 0 _, ⟨v', hl'.set 0 v', ?_⟩, h.la, h.lb, h.ll, ?_, h.h0, hB2.setCell (show w0.heap.size ≤ (⟨pl, 0, none⟩ : Addr).block from h.h0) v'⟩
  · rw [chg_yes D E k hne, List.length_append, chVs_snoc]
    have hlt := h.ll
    refine ⟨by have := hrow.1; simpa using this, ?_⟩
    rcases hrow.2 with hn | ⟨g, cap, cur, rfl, hg1, hg2, rest⟩
    · exact .inl hn
    · exact .inr ⟨g, cap, cur, rfl, hg1, (Blk.other (show Blk w' g 64 cur from hg2) (by omega) 0 _), rest⟩
  · have := hb.size; have := h.hB; simp; omega
set_option maxRecDepth 100000 in
set_option maxHeartbeats 2000000 in
theorem add_any (w0 w : World) (B pa pb pl : Nat) (D E : Nat → Nat) (hD : D64 D) (hE : D64 E) (k : Nat) (hk : k < 52) (h : CS w0 w B pa pb pl D E k) :
    Calls Tryz.prog 42 #[.int .u8 (k : Int), .pointer (some ⟨pa, 0, none⟩), .pointer (some ⟨pb, 0, none⟩), .pointer (some ⟨pl, 0, none⟩)] w (fun e w' => e = .returned (.tuple #[]) ∧ CS w0 w' B pa pb pl D E (k + 1)) := by
  have OD := Lib.hid (fun W => owner_any D hD k hk W)
  have OE := Lib.hid (fun W => owner_any E hE k hk W)
  have H := Lib.hid h
  have a0 := h.ha.cell (dC_get D 0 (by omega))
  have a1 := h.ha.cell (dC_get D 1 (by omega))
  have a2 := h.ha.cell (dC_get D 2 (by omega))
  have a3 := h.ha.cell (dC_get D 3 (by omega))
  clear h hD hE
  obtain ⟨i0, hi, hz0, hz1, hz2⟩ := info_parts info_chg
  go_enter Tryz.func42, Tryz.ntmps42
  go_wp2_with fail
  refine (OD.out _).mono ?_
  rintro e w1 ⟨rfl, hb⟩
  have H1 := Lib.hid (H.out.keep hb)
  clear hb a0 a1 a2 a3 H OD
  have b0 := H1.out.hb.cell (dC_get E 0 (by omega))
  have b1 := H1.out.hb.cell (dC_get E 1 (by omega))
  have b2 := H1.out.hb.cell (dC_get E 2 (by omega))
  have b3 := H1.out.hb.cell (dC_get E 3 (by omega))
  go_wp2_with fail
  refine (OE.out _).mono ?_
  rintro e w2 ⟨rfl, hb⟩
  have H2 := Lib.hid (H1.out.keep hb)
  clear hb b0 b1 b2 b3 H1 OE
  by_cases hne : owner D k = owner E k
  · have H3 : Hid (CS w0 w2 B pa pb pl D E (k + 1)) := Lib.hid (by
      obtain ⟨v, g1, g2⟩ := H2.out.hl
      exact { H2.out with hl := ⟨v, g1, by rw [chg_no D E k hne]; exact g2⟩ })
    have t1 : (((owner D k : Nat) : Int) == ((owner E k : Nat) : Int)) = true := beq_iff_eq.2 (by omega)
    clear hne H2
    generalize owner D k = x at *
    generalize owner E k = y at *
    go_wp2_with fail
    go_end0
    exact ⟨rfl, H3.out⟩
  · obtain ⟨v, g1, g2⟩ := H2.out.hl
    obtain ⟨A, c, rfl⟩ := own_slice g2
    have N := Lib.hid (fun (v' : Value) (w' : World) (hr : w'.ownsRow B 64 3 v' ((chg D E k).length + 1) (chVs D E (chg D E k) ++ chV D E k)) (hb : Below B w2 w') => H2.out.next hne hr hb)
    have hcl := chg_len D E k
    have l0 := g1.cell (j := 0) rfl
    have hBs := H2.out.hB
    have LL := Lib.hid H2.out.ll
    have G1 := Lib.hid g1
    have G2 := Lib.hid g2
    have t1 : (((owner D k : Nat) : Int) == ((owner E k : Nat) : Int)) = false := beq_eq_false_iff_ne.2 (by omega)
    obtain ⟨M, hM⟩ : ∃ M, (chg D E k).length = M := ⟨_, rfl⟩
    rw [hM] at G2 N hcl l0 G1
    obtain ⟨XS, hXS⟩ : ∃ XS, chVs D E (chg D E k) = XS := ⟨_, rfl⟩
    rw [hXS] at G2 N
    have hcv : chV D E k = [.int .u8 (k : Nat), .int .u8 (owner D k : Nat), .int .u8 (owner E k : Nat)] := rfl
    rw [hcv] at N
    clear hne H2 g1 g2 hM hXS hcv
    generalize owner D k = x at *
    generalize owner E k = y at *
    go_wp2_with (at_builtin; refine appN rfl (.tmp 24) (.tmp 29) rfl Tryz.underlying57 hi hz0 hz1 hz2 rfl (by decide) w2 B _ M XS [.int .u8 (k : Int), .int .u8 (x : Int), .int .u8 (y : Int)] rfl (by simp [Value.oneCell']) rfl rfl G2.out hBs (by omega) (by decide) ?_; intro v' w3 hr3 hb3; obtain ⟨A3, c3, rfl⟩ := own_slice hr3; have N3 := Lib.hid (N.out _ _ hr3 hb3); have z0 := (blkB G1.out hb3 LL.out).cell (j := 0) rfl; have z1 := (blkB G1.out hb3 LL.out).free 0; clear hr3 hb3 N)
    go_end0
    exact ⟨rfl, N3.out⟩
end Go.Proofs.YtaadipccgckehaaGreatDoor
