/- Changes: whole, the program's and the reference's. -/
import Derived.Test.YtaadipccgckehaaGreatDoorBG
namespace Go.Proofs.YtaadipccgckehaaGreatDoor
open Go Go.RowKit Pl

def bothR (D E : Nat → Nat) : Bool := rightB D && rightB E
/-- What Changes returns: of the type t, rows of 3 cells. -/
def RetChg (t : TypeId) (w : World) (D E : Nat → Nat) (e : Ending) (w' : World) : Prop :=
  Below w.heap.size w w' ∧ (if bothR D E = true then ∃ A c, e = .returned (.tuple #[.slice A (chg D E 52).length c, .int .i64 0]) ∧ w'.ownsRow w.heap.size t 3 (.slice A (chg D E 52).length c) (chg D E 52).length (chVs D E (chg D E 52)) else e = .returned (.tuple #[.slice none 0 0, .int .i64 60]))
theorem ret_chg_no {t : TypeId} {w w' : World} {D E : Nat → Nat} {e : Ending} (h : bothR D E = false) (hb : Below w.heap.size w w') (he : e = .returned (.tuple #[.slice none 0 0, .int .i64 60])) : RetChg t w D E e w' :=
  ⟨hb, by rw [h]; simpa using he⟩
theorem ret_chg {t : TypeId} {w w' : World} {D E : Nat → Nat} {A : Option Addr} {c : Nat} {e : Ending} (h : bothR D E = true) (hb : Below w.heap.size w w') (he : e = .returned (.tuple #[.slice A (chg D E 52).length c, .int .i64 0])) (hr : w'.ownsRow w.heap.size t 3 (.slice A (chg D E 52).length c) (chg D E 52).length (chVs D E (chg D E 52))) : RetChg t w D E e w' :=
  ⟨hb, by rw [if_pos h]; exact ⟨A, c, he, hr⟩⟩
attribute [irreducible] RetChg
theorem boxes {w : World} {D E : Nat → Nat} (t : TypeId) : Blk ((w.alloc (.cells (dC D) t)).alloc (.cells (dC E) t)) w.heap.size t (dC D) ∧ Blk ((w.alloc (.cells (dC D) t)).alloc (.cells (dC E) t)) (w.heap.size + 1) t (dC E) ∧ Below w.heap.size w ((w.alloc (.cells (dC D) t)).alloc (.cells (dC E) t)) := by
  refine ⟨(Blk.new w t (dC D)).alloc _, ?_, ((Below.refl _ w).alloc (Nat.le_refl _) _).alloc (by simp) _⟩
  have h := Blk.new (w.alloc (.cells (dC D) t)) t (dC E)
  rwa [show (w.alloc (.cells (dC D) t)).heap.size = w.heap.size + 1 by simp] at h
set_option maxRecDepth 100000 in
set_option maxHeartbeats 2000000 in
theorem changes_any (D E : Nat → Nat) (hD : D64 D) (hE : D64 E) (w : World) :
    Calls Tryz.prog 25 #[.agg #[.int .u64 (D 0 : Nat), .int .u64 (D 1 : Nat), .int .u64 (D 2 : Nat), .int .u64 (D 3 : Nat)], .agg #[.int .u64 (E 0 : Nat), .int .u64 (E 1 : Nat), .int .u64 (E 2 : Nat), .int .u64 (E 3 : Nat)]] w (RetChg 64 w D E) := by
  have RD := Lib.hid (fun W => right_any D hD W)
  have RE := Lib.hid (fun W => right_any E hE W)
  have H64 := Lib.hid (And.intro hD hE)
  have CR := Lib.hid (fun c W => cright_any c W)
  have BX := Lib.hid (boxes (w := w) (D := D) (E := E) 24)
  rw [show dC D = #[.int .u64 (D 0 : Nat), .int .u64 (D 1 : Nat), .int .u64 (D 2 : Nat), .int .u64 (D 3 : Nat)] from rfl, show dC E = #[.int .u64 (E 0 : Nat), .int .u64 (E 1 : Nat), .int .u64 (E 2 : Nat), .int .u64 (E 3 : Nat)] from rfl] at BX
  clear hD hE
  go_enter Tryz.func25, Tryz.ntmps25
  go_upto_region 1 with fail
  generalize (w.alloc (.cells #[.int .u64 (D 0 : Nat), .int .u64 (D 1 : Nat), .int .u64 (D 2 : Nat), .int .u64 (D 3 : Nat)] 24)).alloc (.cells #[.int .u64 (E 0 : Nat), .int .u64 (E 1 : Nat), .int .u64 (E 2 : Nat), .int .u64 (E 3 : Nat)] 24) = W1 at *
  obtain ⟨ba, bb, bw⟩ := BX.out
  have a0 := ba.cell (j := 0) rfl
  have a1 := ba.cell (j := 1) rfl
  have a2 := ba.cell (j := 2) rfl
  have a3 := ba.cell (j := 3) rfl
  have BA := Lib.hid ba
  have BB := Lib.hid bb
  have BW := Lib.hid bw
  clear ba bb bw BX
  go_wp2_with fail
  refine (RD.out _).mono ?_
  rintro e w1 ⟨rfl, hb⟩
  have B1 := Lib.hid (bchain BW.out hb)
  have BA1 := Lib.hid (BA.out.keep hb BA.out.lt)
  have BB1 := Lib.hid (BB.out.keep hb BB.out.lt)
  clear hb a0 a1 a2 a3 BA BB BW RD
  rcases hr1 : rightB D with _ | _
  · have HN : Hid (bothR D E = false) := Lib.hid (by unfold bothR; rw [hr1]; rfl)
    clear hr1 RE
    go_wp2_with fail
    go_ret2
    exact ret_chg_no HN.out B1.out rfl
  have b0 := BB1.out.cell (j := 0) rfl
  have b1 := BB1.out.cell (j := 1) rfl
  have b2 := BB1.out.cell (j := 2) rfl
  have b3 := BB1.out.cell (j := 3) rfl
  go_wp2_with fail
  refine (RE.out _).mono ?_
  rintro e w2 ⟨rfl, hb⟩
  have B2 := Lib.hid (bchain B1.out hb)
  have BA2 := Lib.hid (BA1.out.keep hb BA1.out.lt)
  have BB2 := Lib.hid (BB1.out.keep hb BB1.out.lt)
  clear hb b0 b1 b2 b3 BA1 BB1 B1 RE
  rcases hr2 : rightB E with _ | _
  · have HN : Hid (bothR D E = false) := Lib.hid (by unfold bothR; rw [hr1, hr2]; rfl)
    clear hr1 hr2
    go_wp2_with fail
    go_ret2
    exact ret_chg_no HN.out B2.out rfl
  have HN : Hid (bothR D E = true) := Lib.hid (by unfold bothR; rw [hr1, hr2]; rfl)
  clear hr1 hr2
  go_upto_region 4 with fail
  have C0 : Hid (CS w (w2.alloc (.cells #[.slice none 0 0] 57)) (w2.heap.size + 1) w.heap.size (w.heap.size + 1) w2.heap.size D E 0) := Lib.hid (by
    have hb3 := below1 w2 (.cells #[.slice none 0 0] 57)
    have l1 := BA2.out.lt
    have l2 := BB2.out.lt
    exact ⟨BA2.out.keep hb3 l1, BB2.out.keep hb3 l2, ⟨_, Blk.new w2 _ _, ⟨by simp [chVs, chg_0], .inl ⟨rfl, by simp [chg_0]⟩⟩⟩, by omega, by omega, by omega, by simp, B2.out.size, bchain B2.out hb3⟩)
  have HB : Hid (w.heap.size ≤ w2.heap.size + 1) := Lib.hid (by have := B2.out.size; omega)
  clear BA2 BB2 B2
  generalize w2.alloc (.cells #[.slice none 0 0] 57) = W3 at *
  generalize w2.heap.size = pl at *
  generalize w.heap.size + 1 = pb at *
  obtain ⟨pa, hpa⟩ : ∃ pa, w.heap.size = pa := ⟨_, rfl⟩
  have HPA := Lib.hid hpa
  rw [hpa] at C0 ⊢
  clear hpa
  go_wp2_with fail
  go_loopw [8] (fun s8 wr => ∃ k : Nat, k ≤ 52 ∧ s8 = .int .u8 (k : Int) ∧ Hid (CS w wr (pl + 1) pa pb pl D E k)) (fun s8 _ => 52 - (intOf s8).toNat)
  case atStart => exact ⟨0, by omega, rfl, C0⟩
  case round =>
    obtain ⟨k, hk, rfl, HC⟩ := hrel
    clear C0
    by_cases hlt : k < 52
    · have C1 := Lib.hid (fun W => CR.out k W)
      rw [decide_eq_true hlt] at C1
      have A1 := Lib.hid (add_any w wr (pl + 1) pa pb pl D E H64.out.1 H64.out.2 k hlt HC.out)
      have e1 : ((k : Int) + 1) % 256 = ((k + 1 : Nat) : Int) := by omega
      have e2 : IntKind.u8.wrap ((k : Int) + 1) = ((k + 1 : Nat) : Int) := by show ((k : Int) + 1) % 256 = _; omega
      clear CR HC
      go_wp2_with (go_at_call 44; refine (C1.out _).mono ?_; rintro e w' ⟨rfl, rfl⟩)
      refine A1.out.mono ?_
      rintro e w4 ⟨rfl, hc⟩
      have HC2 := Lib.hid hc
      clear hc A1
      go_wp2_with fail
      go_roundw
      case rel => exact ⟨k + 1, by omega, by simp, HC2⟩
      case measure => simp [intOf]; omega
    · obtain rfl : k = 52 := by omega
      have C1 := Lib.hid (fun W => CR.out 52 W)
      rw [decide_eq_false hlt] at C1
      obtain ⟨v, g1, g2⟩ := HC.out.hl
      obtain ⟨A, c, rfl⟩ := own_slice g2
      have l0 := g1.cell (j := 0) rfl
      have HR := Lib.hid (ret_chg HN.out HC.out.below rfl (own_base g2 HB.out))
      clear CR HC g1 g2
      rw [show ((52 : Nat) : Int) = 52 from rfl]
      rw [show ((52 : Nat) : Int) = 52 from rfl] at C1
      go_wp2_with (go_at_call 44; refine (C1.out _).mono ?_; rintro e w' ⟨rfl, rfl⟩)
      go_ret2
      exact HR.out
end Go.Proofs.YtaadipccgckehaaGreatDoor
