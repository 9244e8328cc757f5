/- Open for a disk, whole: what it leaves is a log on its disk. -/
import Derived.Test.YtbompgfjlllioaaDoorJApp
namespace Go.Proofs.YtbompgfjlllioaaDoor
open Go Go.RowKit

/-- The power behind a cut. -/
def cutPow (n size : Nat) (pow : Int) : Int := if size = n then pow else lessP pow
/-- The bytes of a disk, cut. -/
theorem DV.cut {w w' : World} {B n c : Nat} {A : Option Addr} {bs : List UInt8} (h : DV w B (.slice A n c) bs) (hf : ∀ k, k < w.heap.size → (∃ cur, w.heap[k]? = some (.cells cur 5 (0, 0))) → w'.heap[k]? = w.heap[k]?) (m : Nat) (hm : m ≤ bs.length) : DV w' B (if A = none then .slice none 0 0 else .slice A m m) (bs.take m) ∧ DV w' B (.slice A n c) bs := by
  cases h with
  | none_ => simp; exact .none_
  | some_ g cap l cur hcap hB hg hc =>
    have he := hf g (Array.getElem?_eq_some_iff.1 hg).1 ⟨_, hg⟩
    have hc' := hc.of_block he
    refine ⟨?_, .some_ g c bs cur hcap hB (he.trans hg) hc'⟩
    have hl : (bs.take m).length = m := by simp; omega
    have := DV.some_ (B := B) g m (bs.take m) cur (by omega) hB (he.trans hg) (fun i c hi => hc' i c (by
      rw [List.getElem?_take] at hi
      split at hi
      · exact hi
      · cases hi))
    rw [hl] at this
    simpa using this
theorem bytes_kept {w w' : World} {dp : Nat} {t : TypeId} {cc : Array Value} (hp : Blk w dp t cc) (ht : t ≠ 5) (hg : w.grownBy w' (some dp)) :
    ∀ k, k < w.heap.size → (∃ cur, w.heap[k]? = some (.cells cur 5 (0, 0))) → w'.heap[k]? = w.heap[k]? := fun k hk ⟨cur, hc⟩ => hg.block k hk (fun e => by
  obtain rfl := Option.some.inj e
  have := (show w.heap[k]? = _ from hp).symm.trans hc
  simp at this
  exact ht this.2)
theorem open_lg {w : World} {B dp : Nat} {dv : Value} {bs : List UInt8} {pow : Int} (hl : bs.length ≤ 1048576) (ht : (scanS (linesL bs)).ok = true) (he : Env w) (h : PD w dp dv pow) (hB : DV w B dv bs) (hBd : B ≤ dp)
    (hp : (scanS (linesL bs)).size = bs.length ∨ pow ≠ 0) (hp0 : -9223372036854775808 ≤ pow) (hp1 : pow ≤ 9223372036854775807) :
    Calls Tryd.prog 13 #[.pointer (some ⟨dp, 0, none⟩)] w (fun e w' => ∃ lp dv' rv, e = .returned (.tuple #[.pointer (some ⟨lp, 0, none⟩), .int .i64 0]) ∧ w.heap.size ≤ lp ∧
      LG w' B lp dp (bs.take (scanS (linesL bs)).size) (cutPow bs.length (scanS (linesL bs)).size pow) (scanS (linesL bs)).recs (scanS (linesL bs)).last (scanS (linesL bs)).size false dv' rv (.slice none 0 0) ∧ Fr [dp] w w' ∧ (∀ x, rv.ownBlock = some x → w.heap.size ≤ x)) := by
  obtain ⟨A, cap, rfl⟩ := hB.bv.len
  have hle := scan_le bs
  have hdlt := h.lt
  obtain ⟨S, hS⟩ : ∃ S, scanS (linesL bs) = S := ⟨_, rfl⟩
  have key : ∀ n' c' pow', (∀ W, PD W dp (.slice A bs.length cap) pow → Calls Tryd.prog 34 #[.pointer (some ⟨dp, 0, none⟩), .int .i64 ((scanS (linesL bs)).size : Nat)] W (fun e w' => e = .returned (.int .i64 0) ∧ PD w' dp (.slice A n' c') pow' ∧ W.grownBy w' (some dp))) →
      pow' = cutPow bs.length S.size pow → (∀ w', w.grownBy w' (some dp) → DV w' B (.slice A n' c') (bs.take S.size)) →
      Calls Tryd.prog 13 #[.pointer (some ⟨dp, 0, none⟩)] w (fun e w' => ∃ lp dv' rv, e = .returned (.tuple #[.pointer (some ⟨lp, 0, none⟩), .int .i64 0]) ∧ w.heap.size ≤ lp ∧
      LG w' B lp dp (bs.take S.size) (cutPow bs.length S.size pow) S.recs S.last S.size false dv' rv (.slice none 0 0) ∧ Fr [dp] w w' ∧ (∀ x, rv.ownBlock = some x → w.heap.size ≤ x)) := by
    intro n' c' pow' CU hpw hdv
    refine (open_ok (w := w) (B := B) (dp := dp) (bs := bs) (pow := pow) A cap hl ht he h hB pow' n' c' CU).mono ?_
    rintro e w' ⟨lp, rv, rfl, hlp, hb, hr, hd, hg⟩
    rw [hS] at hb hr
    refine ⟨lp, _, rv, rfl, hlp, ⟨by rw [← hpw]; exact hd, hb, hdv w' hg, ?_, ⟨0, [], World.ownsRow_nil _ _ _ _⟩, by omega, hBd⟩, Fr.of_grown hg (fun x e => by cases e; simp), fun x hx => ?_⟩
    · refine ⟨hr.1, ?_⟩
      rcases hr.2 with h0 | ⟨g, cap, cur, rfl, hbg, r⟩
      · exact .inl h0
      · exact .inr ⟨g, cap, cur, rfl, by omega, r⟩
    · rcases hr.2 with ⟨rfl, _⟩ | ⟨g, cap, cur, rfl, hbg, _⟩
      · simp [Value.ownBlock] at hx
      · obtain rfl : g = x := by simpa [Value.ownBlock] using hx
        exact hbg
  rw [hS] at hp hle ⊢
  by_cases hsz : S.size = bs.length
  · refine key bs.length cap pow (fun W hW => ?_) (by unfold cutPow; rw [if_pos hsz]) (fun w' hg => ?_)
    · rw [hS, hsz]
      refine (cut_same dp A bs.length cap pow W hW).mono ?_
      rintro e w' ⟨rfl, rfl⟩
      exact ⟨rfl, hW, ⟨rfl, rfl, rfl, Nat.le_refl _, fun _ _ _ => rfl⟩⟩
    · rw [hsz, List.take_length]
      exact (hB.cut (bytes_kept h (by decide) hg) bs.length (Nat.le_refl _)).2
  · have hlt : S.size < bs.length := by omega
    obtain ⟨a, rfl⟩ : ∃ a, A = some a := by
      generalize hv : Value.slice A bs.length cap = v at hB
      cases hB with
      | none_ => simp at hlt
      | some_ g cap l cur hcap hB hg hc => injection hv with h1 _ _; exact ⟨_, h1⟩
    have hcap : bs.length ≤ cap := by
      generalize hv : Value.slice (some a) bs.length cap = v at hB
      cases hB with
      | none_ => simp at hlt
      | some_ g cap l cur hcap hB hg hc => injection hv with h1 h2 h3; omega
    refine key S.size S.size (lessP pow) (fun W hW => ?_) (by unfold cutPow; rw [if_neg hsz]) (fun w' hg => ?_)
    · rw [hS]
      exact cut_done dp bs.length cap S.size pow W a hlt hcap (by omega) hp0 hp1 hW
    · have := (hB.cut (bytes_kept h (by decide) hg) S.size hle).1
      simpa using this
end Go.Proofs.YtbompgfjlllioaaDoor
