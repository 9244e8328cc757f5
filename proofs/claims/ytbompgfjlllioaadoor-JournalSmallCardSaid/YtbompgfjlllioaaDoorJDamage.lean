/- Repair for a disk, whole; a byte of a disk changed. -/
import Derived.Test.YtbompgfjlllioaaDoorJCutsW
import Derived.Test.YtbompgfjlllioaaDoorJScans
namespace Go.Proofs.YtbompgfjlllioaaDoor
open Go Go.RowKit

theorem repair_lg {w : World} {B dp : Nat} {dv : Value} {bs : List UInt8} {pow : Int} (hl : bs.length ≤ 1048576) (he : Env w) (h : PD w dp dv pow) (hB : DV w B dv bs)
    (hp : (scanS (linesL bs)).size = bs.length ∨ pow ≠ 0) (hp0 : -9223372036854775808 ≤ pow) (hp1 : pow ≤ 9223372036854775807) :
    Calls Tryd.prog 26 #[.pointer (some ⟨dp, 0, none⟩)] w (fun e w' => e = .returned (.tuple #[.int .i64 ((bs.length : Int) - ((scanS (linesL bs)).size : Nat)), .int .i64 0]) ∧
      ∃ dv', PD w' dp dv' (cutPow bs.length (scanS (linesL bs)).size pow) ∧ DV w' B dv' (bs.take (scanS (linesL bs)).size) ∧ Fr [dp] w w') := by
  obtain ⟨A, cap, rfl⟩ := hB.bv.len
  have hle := scan_le bs
  obtain ⟨S, hS⟩ : ∃ S, scanS (linesL bs) = S := ⟨_, rfl⟩
  have key : ∀ n' c' pow', (∀ W, PD W dp (.slice A bs.length cap) pow → Calls Tryd.prog 34 #[.pointer (some ⟨dp, 0, none⟩), .int .i64 ((scanS (linesL bs)).size : Nat)] W (fun e w' => e = .returned (.int .i64 0) ∧ PD w' dp (.slice A n' c') pow' ∧ W.grownBy w' (some dp))) →
      pow' = cutPow bs.length S.size pow → (∀ w', w.grownBy w' (some dp) → DV w' B (.slice A n' c') (bs.take S.size)) →
      Calls Tryd.prog 26 #[.pointer (some ⟨dp, 0, none⟩)] w (fun e w' => e = .returned (.tuple #[.int .i64 ((bs.length : Int) - (S.size : Nat)), .int .i64 0]) ∧
      ∃ dv', PD w' dp dv' (cutPow bs.length S.size pow) ∧ DV w' B dv' (bs.take S.size) ∧ Fr [dp] w w') := by
    intro n' c' pow' CU hpw hdv
    refine (repair_ok (w := w) (B := B) (dp := dp) (bs := bs) (pow := pow) A cap hl he h hB pow' n' c' CU).mono ?_
    rintro e w' ⟨rfl, hd, hg⟩
    rw [hS]
    exact ⟨rfl, _, by rw [← hpw]; exact hd, hdv w' hg, Fr.of_grown hg (fun x e => by cases e; simp)⟩
  rw [hS] at hp hle ⊢
  by_cases hsz : S.size = bs.length
  · refine key bs.length cap pow (fun W hW => ?_) (by unfold cutPow; rw [if_pos hsz]) (fun w' hg => ?_)
    · rw [hS, hsz]
      refine (cut_same dp A bs.length cap pow W hW).mono ?_
      rintro e w' ⟨rfl, rfl⟩
      exact ⟨rfl, hW, ⟨rfl, rfl, rfl, Nat.le_refl _, fun _ _ _ => rfl⟩⟩
    · rw [hsz, List.take_length]
      exact (hB.cut (bytes_kept h (by decide) hg) bs.length (Nat.le_refl _)).2
  · have hlt : S.size < bs.length := by omega
    obtain ⟨a, rfl⟩ : ∃ a, A = some a := by
      generalize hv : Value.slice A bs.length cap = v at hB
      cases hB with
      | none_ => simp at hlt
      | some_ g cap l cur hcap hB hg hc => injection hv with h1 _ _; exact ⟨_, h1⟩
    have hcap : bs.length ≤ cap := (dv_cap hB).1
    refine key S.size S.size (lessP pow) (fun W hW => ?_) (by unfold cutPow; rw [if_neg hsz]) (fun w' hg => ?_)
    · rw [hS]
      exact cut_done dp bs.length cap S.size pow W a hlt hcap (by omega) hp0 hp1 hW
    · have := (hB.cut (bytes_kept h (by decide) hg) S.size hle).1
      simpa using this
/-- One byte of a disk changed. -/
theorem DV.set {w : World} {B g n c : Nat} {l : List UInt8} (h : DV w B (.slice (some ⟨g, 0, none⟩) n c) l) (i : Nat) (d : UInt8) : DV (w.setCell ⟨g, i, none⟩ (.int .u8 (d.toNat : Int))) B (.slice (some ⟨g, 0, none⟩) n c) (l.set i d) := by
  generalize hv : Value.slice (some ⟨g, 0, none⟩) n c = v at h
  cases h with
  | none_ => injection hv with e _ _; cases e
  | some_ g' cap l cur hcap hB hg hc =>
    injection hv with e1 e2 e3
    have e1 := Option.some.inj e1
    injection e1 with e1 _ _
    subst e1 e2 e3
    have hb : Blk w g 5 cur := hg
    have hs := hb.set i (.int .u8 (d.toNat : Int))
    have := DV.some_ (w := w.setCell ⟨g, i, none⟩ (.int .u8 (d.toNat : Int))) (B := B) g c (l.set i d) _ (by rw [List.length_set]; omega) hB hs (fun j x hj => ?_)
    · rw [List.length_set] at this; exact this
    · rw [Nat.zero_add]
      rw [List.getElem?_set] at hj
      have hcj := fun (x : UInt8) (hx : l[j]? = some x) => hc j x hx
      split at hj
      · rename_i hij
        subst hij
        split at hj
        · rename_i hlt
          obtain rfl := Option.some.inj hj
          have hsz : i < cur.size := by
            have h0 := hc i (l[i]'hlt) (List.getElem?_eq_getElem hlt)
            rw [Nat.zero_add] at h0
            have h1 : w.heap[g]? = some (.cells cur 5 (0, 0)) := hg
            simp only [World.cell?, h1] at h0
            exact (Array.getElem?_eq_some_iff.1 h0).1
          exact hs.cell (by rw [Array.getElem?_setIfInBounds_self_of_lt hsz])
        · cases hj
      · rename_i hij
        have h0 := hc j x hj
        rw [Nat.zero_add] at h0
        have h1 : w.heap[g]? = some (.cells cur 5 (0, 0)) := hg
        simp only [World.cell?, h1] at h0
        exact hs.cell (by rw [Array.getElem?_setIfInBounds_ne hij]; exact h0)
theorem DV.free {w : World} {B g n c : Nat} {l : List UInt8} (h : DV w B (.slice (some ⟨g, 0, none⟩) n c) l) (i : Nat) : w.frozen? ⟨g, i, none⟩ = false := by
  generalize hv : Value.slice (some ⟨g, 0, none⟩) n c = v at h
  cases h with
  | none_ => injection hv with e _ _; cases e
  | some_ g' cap l cur hcap hB hg hc =>
    injection hv with e1 e2 e3
    have e1 := Option.some.inj e1
    injection e1 with e1 _ _
    subst e1
    exact Blk.free (show Blk w g 5 cur from hg) i
theorem DV.at_ {w : World} {B n c : Nat} {A : Option Addr} {l : List UInt8} (h : DV w B (.slice A n c) l) {i : Nat} (hi : i < l.length) : ∃ g, A = some ⟨g, 0, none⟩ ∧ B ≤ g ∧ w.cell? ⟨g, i, none⟩ = some (.int .u8 (l[i].toNat : Int)) := by
  generalize hv : Value.slice A n c = v at h
  cases h with
  | none_ => simp at hi
  | some_ g cap l cur hcap hB hg hc =>
    injection hv with e1 e2 e3
    refine ⟨g, e1, hB, ?_⟩
    have := hc i l[i] (List.getElem?_eq_getElem hi)
    rwa [Nat.zero_add] at this
/-- A row of bytes of the call's own is a disk's bytes. -/
theorem dv_of_own {w : World} {B n c : Nat} {A : Option Addr} {l : List UInt8} (h : w.ownsRow B 5 1 (.slice A n c) n (l.map byteV)) : DV w B (.slice A n c) l := by
  rcases h.2 with ⟨e, h0⟩ | ⟨g, cap, cur, e, hb, hg, _⟩
  · injection e with e1 e2 e3
    subst e1 e3 h0
    have := h.1
    obtain rfl : l = [] := by simpa using this
    exact .none_
  · injection e with e1 e2 e3
    subst e1 e3
    obtain ⟨h1, h2, ⟨cur', h3⟩, h4, h5⟩ := bs_of_own h
    have := DV.some_ (B := B) g c l cur' h4 h2 h3 h1
    rwa [h5] at this
end Go.Proofs.YtbompgfjlllioaaDoor
