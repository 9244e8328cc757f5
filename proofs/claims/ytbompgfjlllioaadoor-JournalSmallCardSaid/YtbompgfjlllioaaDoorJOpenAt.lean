/- Open and Repair for a disk, once more: in which block the disk's bytes lie. -/
import Derived.Test.YtbompgfjlllioaaDoorJApp2
import Derived.Test.YtbompgfjlllioaaDoorJDamage
namespace Go.Proofs.YtbompgfjlllioaaDoor
open Go Go.RowKit

theorem own_len_irr (A : Option Addr) (n c n' c' : Nat) : (Value.slice A n c).ownBlock = (Value.slice A n' c').ownBlock := by
  rcases A with _ | ⟨g, o, s⟩
  · simp [Value.ownBlock]
  · simp [Value.ownBlock]
theorem open_lg2 {w : World} {B dp : Nat} {dv : Value} {bs : List UInt8} {pow : Int} (hl : bs.length ≤ 1048576) (ht : (scanS (linesL bs)).ok = true) (he : Env w) (h : PD w dp dv pow) (hB : DV w B dv bs) (hBd : B ≤ dp)
    (hp : (scanS (linesL bs)).size = bs.length ∨ pow ≠ 0) (hp0 : -9223372036854775808 ≤ pow) (hp1 : pow ≤ 9223372036854775807) :
    Calls Tryd.prog 13 #[.pointer (some ⟨dp, 0, none⟩)] w (fun e w' => ∃ lp dv' rv, e = .returned (.tuple #[.pointer (some ⟨lp, 0, none⟩), .int .i64 0]) ∧ w.heap.size ≤ lp ∧
      LG w' B lp dp (bs.take (scanS (linesL bs)).size) (cutPow bs.length (scanS (linesL bs)).size pow) (scanS (linesL bs)).recs (scanS (linesL bs)).last (scanS (linesL bs)).size false dv' rv (.slice none 0 0) ∧ Fr [dp] w w' ∧ (∀ x, rv.ownBlock = some x → w.heap.size ≤ x) ∧ (∀ x, dv'.ownBlock = some x → dv.ownBlock = some x)) := by
  obtain ⟨A, cap, rfl⟩ := hB.bv.len
  have hle := scan_le bs
  have hdlt := h.lt
  obtain ⟨S, hS⟩ : ∃ S, scanS (linesL bs) = S := ⟨_, rfl⟩
  have key : ∀ n' c' pow', (∀ W, PD W dp (.slice A bs.length cap) pow → Calls Tryd.prog 34 #[.pointer (some ⟨dp, 0, none⟩), .int .i64 ((scanS (linesL bs)).size : Nat)] W (fun e w' => e = .returned (.int .i64 0) ∧ PD w' dp (.slice A n' c') pow' ∧ W.grownBy w' (some dp))) →
      pow' = cutPow bs.length S.size pow → (∀ w', w.grownBy w' (some dp) → DV w' B (.slice A n' c') (bs.take S.size)) →
      Calls Tryd.prog 13 #[.pointer (some ⟨dp, 0, none⟩)] w (fun e w' => ∃ lp dv' rv, e = .returned (.tuple #[.pointer (some ⟨lp, 0, none⟩), .int .i64 0]) ∧ w.heap.size ≤ lp ∧
      LG w' B lp dp (bs.take S.size) (cutPow bs.length S.size pow) S.recs S.last S.size false dv' rv (.slice none 0 0) ∧ Fr [dp] w w' ∧ (∀ x, rv.ownBlock = some x → w.heap.size ≤ x) ∧ (∀ x, dv'.ownBlock = some x → (Value.slice A bs.length cap).ownBlock = some x)) := by
    intro n' c' pow' CU hpw hdv
    refine (open_ok (w := w) (B := B) (dp := dp) (bs := bs) (pow := pow) A cap hl ht he h hB pow' n' c' CU).mono ?_
    rintro e w' ⟨lp, rv, rfl, hlp, hb, hr, hd, hg⟩
    rw [hS] at hb hr
    refine ⟨lp, _, rv, rfl, hlp, ⟨by rw [← hpw]; exact hd, hb, hdv w' hg, ?_, ⟨0, [], World.ownsRow_nil _ _ _ _⟩, by omega, hBd⟩, Fr.of_grown hg (fun x e => by cases e; simp), fun x hx => ?_, fun x hx => by rw [← hx]; exact own_len_irr _ _ _ _ _⟩
    · refine ⟨hr.1, ?_⟩
      rcases hr.2 with h0 | ⟨g, cap, cur, rfl, hbg, r⟩
      · exact .inl h0
      · exact .inr ⟨g, cap, cur, rfl, by omega, r⟩
    · rcases hr.2 with ⟨rfl, _⟩ | ⟨g, cap, cur, rfl, hbg, _⟩
      · simp [Value.ownBlock] at hx
      · obtain rfl : g = x := by simpa [Value.ownBlock] using hx
        exact hbg
  rw [hS] at hp hle ⊢
  by_cases hsz : S.size = bs.length
  · refine key bs.length cap pow (fun W hW => ?_) (by unfold cutPow; rw [if_pos hsz]) (fun w' hg => ?_)
    · rw [hS, hsz]
      refine (cut_same dp A bs.length cap pow W hW).mono ?_
      rintro e w' ⟨rfl, rfl⟩
      exact ⟨rfl, hW, ⟨rfl, rfl, rfl, Nat.le_refl _, fun _ _ _ => rfl⟩⟩
    · rw [hsz, List.take_length]
      exact (hB.cut (bytes_kept h (by decide) hg) bs.length (Nat.le_refl _)).2
  · have hlt : S.size < bs.length := by omega
    obtain ⟨a, rfl⟩ : ∃ a, A = some a := by
      generalize hv : Value.slice A bs.length cap = v at hB
      cases hB with
      | none_ => simp at hlt
      | some_ g cap l cur hcap hB hg hc => injection hv with h1 _ _; exact ⟨_, h1⟩
    have hcap : bs.length ≤ cap := by
      generalize hv : Value.slice (some a) bs.length cap = v at hB
      cases hB with
      | none_ => simp at hlt
      | some_ g cap l cur hcap hB hg hc => injection hv with h1 h2 h3; omega
    refine key S.size S.size (lessP pow) (fun W hW => ?_) (by unfold cutPow; rw [if_neg hsz]) (fun w' hg => ?_)
    · rw [hS]
      exact cut_done dp bs.length cap S.size pow W a hlt hcap (by omega) hp0 hp1 hW
    · have := (hB.cut (bytes_kept h (by decide) hg) S.size hle).1
      simpa using this
theorem repair_lg2 {w : World} {B dp : Nat} {dv : Value} {bs : List UInt8} {pow : Int} (hl : bs.length ≤ 1048576) (he : Env w) (h : PD w dp dv pow) (hB : DV w B dv bs)
    (hp : (scanS (linesL bs)).size = bs.length ∨ pow ≠ 0) (hp0 : -9223372036854775808 ≤ pow) (hp1 : pow ≤ 9223372036854775807) :
    Calls Tryd.prog 26 #[.pointer (some ⟨dp, 0, none⟩)] w (fun e w' => e = .returned (.tuple #[.int .i64 ((bs.length : Int) - ((scanS (linesL bs)).size : Nat)), .int .i64 0]) ∧
      ∃ dv', PD w' dp dv' (cutPow bs.length (scanS (linesL bs)).size pow) ∧ DV w' B dv' (bs.take (scanS (linesL bs)).size) ∧ Fr [dp] w w' ∧ (∀ x, dv'.ownBlock = some x → dv.ownBlock = some x)) := by
  obtain ⟨A, cap, rfl⟩ := hB.bv.len
  have hle := scan_le bs
  obtain ⟨S, hS⟩ : ∃ S, scanS (linesL bs) = S := ⟨_, rfl⟩
  have key : ∀ n' c' pow', (∀ W, PD W dp (.slice A bs.length cap) pow → Calls Tryd.prog 34 #[.pointer (some ⟨dp, 0, none⟩), .int .i64 ((scanS (linesL bs)).size : Nat)] W (fun e w' => e = .returned (.int .i64 0) ∧ PD w' dp (.slice A n' c') pow' ∧ W.grownBy w' (some dp))) →
      pow' = cutPow bs.length S.size pow → (∀ w', w.grownBy w' (some dp) → DV w' B (.slice A n' c') (bs.take S.size)) →
      Calls Tryd.prog 26 #[.pointer (some ⟨dp, 0, none⟩)] w (fun e w' => e = .returned (.tuple #[.int .i64 ((bs.length : Int) - (S.size : Nat)), .int .i64 0]) ∧
      ∃ dv', PD w' dp dv' (cutPow bs.length S.size pow) ∧ DV w' B dv' (bs.take S.size) ∧ Fr [dp] w w' ∧ (∀ x, dv'.ownBlock = some x → (Value.slice A bs.length cap).ownBlock = some x)) := by
    intro n' c' pow' CU hpw hdv
    refine (repair_ok (w := w) (B := B) (dp := dp) (bs := bs) (pow := pow) A cap hl he h hB pow' n' c' CU).mono ?_
    rintro e w' ⟨rfl, hd, hg⟩
    rw [hS]
    exact ⟨rfl, _, by rw [← hpw]; exact hd, hdv w' hg, Fr.of_grown hg (fun x e => by cases e; simp), fun x hx => by rw [← hx]; exact own_len_irr _ _ _ _ _⟩
  rw [hS] at hp hle ⊢
  by_cases hsz : S.size = bs.length
  · refine key bs.length cap pow (fun W hW => ?_) (by unfold cutPow; rw [if_pos hsz]) (fun w' hg => ?_)
    · rw [hS, hsz]
      refine (cut_same dp A bs.length cap pow W hW).mono ?_
      rintro e w' ⟨rfl, rfl⟩
      exact ⟨rfl, hW, ⟨rfl, rfl, rfl, Nat.le_refl _, fun _ _ _ => rfl⟩⟩
    · rw [hsz, List.take_length]
      exact (hB.cut (bytes_kept h (by decide) hg) bs.length (Nat.le_refl _)).2
  · have hlt : S.size < bs.length := by omega
    obtain ⟨a, rfl⟩ : ∃ a, A = some a := by
      generalize hv : Value.slice A bs.length cap = v at hB
      cases hB with
      | none_ => simp at hlt
      | some_ g cap l cur hcap hB hg hc => injection hv with h1 _ _; exact ⟨_, h1⟩
    have hcap : bs.length ≤ cap := (dv_cap hB).1
    refine key S.size S.size (lessP pow) (fun W hW => ?_) (by unfold cutPow; rw [if_neg hsz]) (fun w' hg => ?_)
    · rw [hS]
      exact cut_done dp bs.length cap S.size pow W a hlt hcap (by omega) hp0 hp1 hW
    · have := (hB.cut (bytes_kept h (by decide) hg) S.size hle).1
      simpa using this
end Go.Proofs.YtbompgfjlllioaaDoor
