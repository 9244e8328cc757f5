/- Plain: what turn.Fit keeps about the rows before: places used, pairs seated. -/
import Derived.Test.YtidpfggikighlaaDoorGM
namespace Go.Proofs.YtidpfggikighlaaDoor
open Go

def usedB (l : List Rw) (r t : Int) : Bool := l.any fun s => decide (s.rd = r ∧ s.tb = t)
def seatB (l : List Rw) (r p : Int) : Bool := l.any fun s => decide (s.rd = r ∧ (s.ns = p ∨ s.ew = p))
theorem usedB_snoc (l : List Rw) (x : Rw) (r t : Int) : usedB (l ++ [x]) r t = (usedB l r t || decide (x.rd = r ∧ x.tb = t)) := by
  unfold usedB; rw [List.any_append]; simp
theorem seatB_snoc (l : List Rw) (x : Rw) (r p : Int) : seatB (l ++ [x]) r p = (seatB l r p || decide (x.rd = r ∧ (x.ns = p ∨ x.ew = p))) := by
  unfold seatB; rw [List.any_append]; simp
/-- What the first test asks. -/
def bad8 (T R S : Int) (l : List Rw) (r : Rw) : Bool := decide (r.rd < 0) || decide (R ≤ r.rd) || decide (r.tb < 0) || decide (T ≤ r.tb) || decide (r.st < 0) || decide (S ≤ r.st) || usedB l r.rd r.tb
/-- A pair that may not sit: x tells whether it is the other one of the row. -/
def badP (l : List Rw) (rd p : Int) (x : Bool) : Bool := decide (p < 0) || decide (49 < p) || (decide (0 < p) && (seatB l rd p || x))
theorem okAt_parts (T R S : Int) (l : List Rw) (r : Rw) : okAt T R S l r = (!bad8 T R S l r && !badP l r.rd r.ns false && !badP l r.rd r.ew (decide (r.ns = r.ew))) := by
  have hcl : l.all (fun s => !clash s r) = (!usedB l r.rd r.tb && (!(decide (0 < r.ns) && seatB l r.rd r.ns) && !(decide (0 < r.ew) && seatB l r.rd r.ew))) := by
    induction l with
    | nil => simp [usedB, seatB]
    | cons a l ih =>
      rw [List.all_cons, ih]
      unfold usedB seatB
      rw [List.any_cons, List.any_cons, List.any_cons]
      have : (!clash a r) = (!decide (a.rd = r.rd ∧ a.tb = r.tb) && (!(decide (0 < r.ns) && decide (a.rd = r.rd ∧ (a.ns = r.ns ∨ a.ew = r.ns))) && !(decide (0 < r.ew) && decide (a.rd = r.rd ∧ (a.ns = r.ew ∨ a.ew = r.ew))))) := by
        unfold clash
        rw [Bool.eq_iff_iff]
        simp only [Bool.not_eq_true', Bool.and_eq_true, decide_eq_false_iff_not, Bool.and_eq_false_iff]
        by_cases h1 : a.rd = r.rd
        · by_cases h2 : a.tb = r.tb
          · simp [h1, h2]
          · simp only [h1, h2, true_and, false_or, not_false_eq_true, not_or, not_and]
            omega
        · simp [h1]
      rw [this]
      generalize (l.any fun s => decide (s.rd = r.rd ∧ s.tb = r.tb)) = u1
      generalize (l.any fun s => decide (s.rd = r.rd ∧ (s.ns = r.ns ∨ s.ew = r.ns))) = u2
      generalize (l.any fun s => decide (s.rd = r.rd ∧ (s.ns = r.ew ∨ s.ew = r.ew))) = u3
      generalize decide (a.rd = r.rd ∧ a.tb = r.tb) = v1
      generalize decide (a.rd = r.rd ∧ (a.ns = r.ns ∨ a.ew = r.ns)) = v2
      generalize decide (a.rd = r.rd ∧ (a.ns = r.ew ∨ a.ew = r.ew)) = v3
      generalize decide (0 < r.ns) = p1
      generalize decide (0 < r.ew) = p2
      cases u1 <;> cases u2 <;> cases u3 <;> cases v1 <;> cases v2 <;> cases v3 <;> cases p1 <;> cases p2 <;> rfl
  unfold okAt bad8 badP okIn
  rw [hcl]
  generalize usedB l r.rd r.tb = u1
  generalize seatB l r.rd r.ns = u2
  generalize seatB l r.rd r.ew = u3
  rw [Bool.eq_iff_iff]
  simp only [Bool.and_eq_true, Bool.not_eq_true', Bool.or_eq_false_iff, Bool.and_eq_false_iff, decide_eq_true_eq, decide_eq_false_iff_not, Bool.or_false]
  cases u1 <;> cases u2 <;> cases u3 <;> simp only [true_and, and_true, or_false, or_true, Bool.true_eq_false, false_and, and_false] <;> omega
/-- The places used, as cells. -/
def UC (c : Array Value) (l : List Rw) : Prop := ∀ r t : Nat, r < 47 → t < 24 → c[r * 24 + t]? = some (.bool (usedB l r t))
/-- The pairs seated, as cells; nobody is no pair. -/
def SC (c : Array Value) (f : Int → Int → Bool) : Prop := ∀ r p : Nat, r < 47 → 0 < p → p < 50 → c[r * 50 + p]? = some (.bool (f r p))
theorem UC.set {c : Array Value} {l : List Rw} (h : UC c l) (x : Rw) (r t : Nat) (hr : x.rd = r) (ht : x.tb = t) (hr2 : r < 47) (ht2 : t < 24) : UC (c.setIfInBounds (r * 24 + t) (.bool true)) (l ++ [x]) := by
  intro r' t' h1 h2
  have hc := h r' t' h1 h2
  rw [usedB_snoc]
  by_cases he : r' = r ∧ t' = t
  · obtain ⟨rfl, rfl⟩ := he
    rw [Array.getElem?_setIfInBounds_self_of_lt (Array.getElem?_eq_some_iff.1 hc).1]
    simp [hr, ht]
  · rw [Array.getElem?_setIfInBounds_ne (by omega), hc]
    have : ¬ (x.rd = (r' : Int) ∧ x.tb = (t' : Int)) := by omega
    simp [this]
theorem SC.set {c : Array Value} {f : Int → Int → Bool} (h : SC c f) (r p : Nat) (hr2 : r < 47) (hp : p < 50) (g : Int → Int → Bool) (hg : ∀ r' p' : Nat, r' < 47 → 0 < p' → p' < 50 → g r' p' = (f r' p' || decide (r' = r ∧ p' = p))) : SC (c.setIfInBounds (r * 50 + p) (.bool true)) g := by
  intro r' p' h1 h0 h2
  have hc := h r' p' h1 h0 h2
  rw [hg r' p' h1 h0 h2]
  by_cases he : r' = r ∧ p' = p
  · obtain ⟨rfl, rfl⟩ := he
    rw [Array.getElem?_setIfInBounds_self_of_lt (Array.getElem?_eq_some_iff.1 hc).1]
    simp
  · rw [Array.getElem?_setIfInBounds_ne (by omega), hc]
    simp [he]
/-- The two pairs of a row; whether the other one, tested before, is the same; who sits when j of them have sat down. -/
def pj (r : Rw) (j : Nat) : Int := if j = 0 then r.ns else r.ew
def xj (r : Rw) (j : Nat) : Bool := if j = 0 then false else decide (r.ns = r.ew)
def fj (l : List Rw) (r : Rw) (j : Nat) (a b : Int) : Bool := seatB l a b || (decide (0 < j) && decide (r.rd = a ∧ r.ns = b)) || (decide (1 < j) && decide (r.rd = a ∧ r.ew = b))
theorem fj_zero (l : List Rw) (r : Rw) : fj l r 0 = seatB l := by funext a b; simp [fj]
theorem fj_two (l : List Rw) (r : Rw) : fj l r 2 = seatB (l ++ [r]) := by
  funext a b
  rw [seatB_snoc]
  unfold fj
  generalize seatB l a b = s
  by_cases h : r.rd = a <;> by_cases h1 : r.ns = b <;> by_cases h2 : r.ew = b <;> simp [h, h1, h2]
theorem fj_at (l : List Rw) (r : Rw) (j : Nat) (hj : j < 2) : fj l r j r.rd (pj r j) = (seatB l r.rd (pj r j) || xj r j) := by
  match j, hj with
  | 0, _ => simp [fj, pj, xj]
  | 1, _ => simp [fj, pj, xj]
theorem fj_next (l : List Rw) (r : Rw) (j R P : Nat) (hj : j < 2) (hR : r.rd = R) (hP : pj r j = P) : ∀ r' p' : Nat, r' < 47 → 0 < p' → p' < 50 → fj l r (j + 1) r' p' = (fj l r j r' p' || decide (r' = R ∧ p' = P)) := by
  intro r' p' _ _ _
  match j, hj with
  | 0, _ =>
    have hP : r.ns = P := hP
    unfold fj
    rw [hR, hP]
    have : decide ((R : Int) = (r' : Int) ∧ (P : Int) = (p' : Int)) = decide (r' = R ∧ p' = P) := by
      rw [decide_eq_decide]; omega
    simp [this]
  | 1, _ =>
    have hP : r.ew = P := hP
    unfold fj
    rw [hR, hP]
    have : decide ((R : Int) = (r' : Int) ∧ (P : Int) = (p' : Int)) = decide (r' = R ∧ p' = P) := by
      rw [decide_eq_decide]; omega
    simp [this]
theorem badP_cases (l : List Rw) (rd p : Int) (x : Bool) : (badP l rd p x = true ∧ p < 0) ∨ (badP l rd p x = true ∧ 0 ≤ p ∧ 49 < p) ∨ (badP l rd p x = false ∧ p = 0) ∨ (badP l rd p x = (seatB l rd p || x) ∧ 0 < p ∧ p ≤ 49) := by
  unfold badP
  by_cases h1 : p < 0
  · exact .inl ⟨by simp [h1], h1⟩
  by_cases h2 : 49 < p
  · exact .inr (.inl ⟨by simp [h2], by omega, h2⟩)
  by_cases h3 : p = 0
  · subst h3; exact .inr (.inr (.inl ⟨by simp, rfl⟩))
  · have h4 : 0 < p := by omega
    exact .inr (.inr (.inr ⟨by simp [h1, h2, h4], h4, by omega⟩))
theorem badP_no {l : List Rw} {rd p : Int} {x : Bool} (h : badP l rd p x = false) : 0 ≤ p ∧ p ≤ 49 := by
  rcases badP_cases l rd p x with ⟨h1, _⟩ | ⟨h1, _⟩ | ⟨_, rfl⟩ | ⟨_, h1, h2⟩
  · rw [h] at h1; cases h1
  · rw [h] at h1; cases h1
  · omega
  · omega
theorem bad8_in {T R S : Int} {l : List Rw} {r : Rw} (h : bad8 T R S l r = false) (hR : R ≤ 47) (hT : T ≤ 24) : ∃ a b : Nat, r.rd = a ∧ r.tb = b ∧ a < 47 ∧ b < 24 := by
  unfold bad8 at h
  simp only [Bool.or_eq_false_iff, decide_eq_false_iff_not] at h
  obtain ⟨⟨⟨⟨⟨⟨h1, h2⟩, h3⟩, h4⟩, _⟩, _⟩, _⟩ := h
  exact ⟨r.rd.toNat, r.tb.toNat, by omega, by omega, by omega, by omega⟩
theorem okAt_bad8 {T R S : Int} {l : List Rw} {r : Rw} (h : bad8 T R S l r = true) : okAt T R S l r = false := by rw [okAt_parts, h]; rfl
theorem okAt_badP {T R S : Int} {l : List Rw} {r : Rw} {j : Nat} (hj : j < 2) (h : badP l r.rd (pj r j) (xj r j) = true) : okAt T R S l r = false := by
  rw [okAt_parts]
  match j, hj with
  | 0, _ =>
    have h : badP l r.rd r.ns false = true := h
    rw [h]; simp
  | 1, _ =>
    have h : badP l r.rd r.ew (decide (r.ns = r.ew)) = true := h
    rw [h]; simp
theorem okAt_all {T R S : Int} {l : List Rw} {r : Rw} (h8 : bad8 T R S l r = false) (h : ∀ j, j < 2 → badP l r.rd (pj r j) (xj r j) = false) : okAt T R S l r = true := by
  rw [okAt_parts, h8]
  have h0 : badP l r.rd r.ns false = false := h 0 (by decide)
  have h1 : badP l r.rd r.ew (decide (r.ns = r.ew)) = false := h 1 (by decide)
  rw [h0, h1]; rfl
attribute [irreducible] bad8 badP usedB seatB pj xj fj
end Go.Proofs.YtidpfggikighlaaDoor
