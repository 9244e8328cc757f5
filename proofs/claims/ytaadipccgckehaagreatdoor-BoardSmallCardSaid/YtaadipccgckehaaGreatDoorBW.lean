/- Plain: boards: dealers, vulnerabilities, the least board of both; changes and classes of deals. No program. -/
import Derived.Test.YtaadipccgckehaaGreatDoorPlM
namespace Go.Proofs.YtaadipccgckehaaGreatDoor
namespace Pl

/-- The vulnerability, board by board. -/
def vulTo (i : Nat) : Nat := i + i / 4
theorem vul_step4 (i : Nat) (h : (i + 1) % 4 = 0) : vulTo (i + 1) = vulTo i + 1 + 1 := by unfold vulTo; omega
theorem vul_step (i : Nat) (h : ¬ (i + 1) % 4 = 0) : vulTo (i + 1) = vulTo i + 1 := by unfold vulTo; omega
theorem vul_end (n : Nat) : vulTo (n - 1) % 4 = vulP n := rfl
theorem vul_le (i : Nat) : vulTo i ≤ 2 * i := by unfold vulTo; omega
theorem deal_lt (n : Nat) : dealP n < 4 := Nat.mod_lt _ (by omega)
theorem vul_lt (n : Nat) : vulP n < 4 := Nat.mod_lt _ (by omega)
/-- The least board with a dealer and a vulnerability. -/
def hitB (d v n : Nat) : Bool := decide (dealP n = d ∧ vulP n = v)
def findP (d v : Nat) : Nat := ((List.range 17).find? (fun n => decide (1 ≤ n) && hitB d v n)).getD 0
theorem find_ok : ∀ d, d < 4 → ∀ v, v < 4 → 1 ≤ findP d v ∧ findP d v ≤ 16 ∧ hitB d v (findP d v) = true := by decide +kernel
theorem find_one : ∀ d, d < 4 → ∀ v, v < 4 → ∀ n, n < 17 → 1 ≤ n → hitB d v n = true → n = findP d v := by decide +kernel
theorem hit_iff {d v n : Nat} : hitB d v n = true ↔ dealP n = d ∧ vulP n = v := decide_eq_true_iff
theorem hit_no {d v n : Nat} (h : 4 ≤ d ∨ 4 ≤ v) : hitB d v n = false := by
  rcases hb : hitB d v n with _ | _
  · rfl
  · have := hit_iff.1 hb
    have := deal_lt n
    have := vul_lt n
    omega
/-- The changes between two deals. -/
def chg (D E : Nat → Nat) (k : Nat) : List Nat := (List.range k).filter (fun c => decide (owner D c ≠ owner E c))
theorem chg_0 (D E : Nat → Nat) : chg D E 0 = [] := rfl
theorem chg_yes (D E : Nat → Nat) (k : Nat) (h : owner D k ≠ owner E k) : chg D E (k + 1) = chg D E k ++ [k] := by
  unfold chg
  rw [List.range_succ, List.filter_append]
  simp [h]
theorem chg_no (D E : Nat → Nat) (k : Nat) (h : owner D k = owner E k) : chg D E (k + 1) = chg D E k := by
  unfold chg
  rw [List.range_succ, List.filter_append]
  simp [h]
theorem chg_len (D E : Nat → Nat) (k : Nat) : (chg D E k).length ≤ k := by
  unfold chg
  exact Nat.le_trans (List.length_filter_le _ _) (by simp)
/-- A deal as four numbers. -/
def Four := Nat × Nat × Nat × Nat
def ofF (x : Four) (k : Nat) : Nat := if k = 0 then x.1 else if k = 1 then x.2.1 else if k = 2 then x.2.2.1 else x.2.2.2
def toF (D : Nat → Nat) : Four := (D 0, D 1, D 2, D 3)
instance : DecidableEq Four := inferInstanceAs (DecidableEq (Nat × Nat × Nat × Nat))
theorem ofF_0 (x : Four) : ofF x 0 = x.1 := rfl
theorem ofF_1 (x : Four) : ofF x 1 = x.2.1 := rfl
theorem ofF_2 (x : Four) : ofF x 2 = x.2.2.1 := rfl
theorem ofF_3 (x : Four) : ofF x 3 = x.2.2.2 := rfl
/-- The index of the first deal that is equal to one. -/
def firstIx (l : List Four) (d : Four) : Nat := l.findIdx (fun x => decide (x = d))
theorem first_lt {l : List Four} {i : Nat} {d : Four} (h : l[i]? = some d) : firstIx l d ≤ i := by
  have hi := (List.getElem?_eq_some_iff.1 h).1
  rcases Nat.lt_or_ge i (firstIx l d) with h1 | h1
  · have := List.not_of_lt_findIdx h1
    rw [(List.getElem?_eq_some_iff.1 h).2] at this
    simp at this
  · exact h1
theorem first_at {l : List Four} {i : Nat} {d : Four} (h : l[i]? = some d) : l[firstIx l d]? = some d := by
  have hlt : firstIx l d < l.length := Nat.lt_of_le_of_lt (first_lt h) (List.getElem?_eq_some_iff.1 h).1
  rw [List.getElem?_eq_getElem hlt]
  have := List.findIdx_getElem (w := hlt)
  exact congrArg some (of_decide_eq_true this)
/-- .. looked for from behind. -/
theorem first_back {l : List Four} {i k f : Nat} {d : Four} (h : l[i]? = some d) (hf : l[f]? = some d) (hn : ∀ j, k ≤ j → j < f → l[j]? ≠ some d) (hk : k = 0) : f = firstIx l d := by
  have h1 := first_lt hf
  rcases Nat.lt_or_ge (firstIx l d) f with h2 | h2
  · exact absurd (first_at h) (hn _ (by omega) h2)
  · omega
/-- .. among the first ones. -/
theorem first_take {l : List Four} {i n : Nat} {d : Four} (h : l[i]? = some d) (hn : i < n) : firstIx (l.take n) d = firstIx l d := by
  have h1 : (l.take n)[i]? = some d := by rw [List.getElem?_take, if_pos hn]; exact h
  have a := first_at h1
  have b := first_at h
  have c1 := first_lt h1
  have c2 := first_lt h
  rw [List.getElem?_take] at a
  have hlt : firstIx (l.take n) d < n := by omega
  rw [if_pos hlt] at a
  have d1 := first_lt a
  have e1 : (l.take n)[firstIx l d]? = some d := by rw [List.getElem?_take, if_pos (by omega)]; exact b
  have d2 := first_lt e1
  omega
def classL (l : List Four) : List Nat := l.map (firstIx l)
/-- The first deal of a list that is not right. -/
def allRight (l : List Four) : Bool := l.all (fun d => rightB (ofF d))
theorem all_bad {l : List Four} {i : Nat} {d : Four} (h : l[i]? = some d) (hb : rightB (ofF d) = false) : allRight l = false := by
  unfold allRight
  rw [List.all_eq_false]
  exact ⟨d, List.mem_of_getElem? h, by simp [hb]⟩
theorem all_good {l : List Four} (h : ∀ (i : Nat) (d : Four), l[i]? = some d → rightB (ofF d) = true) : allRight l = true := by
  unfold allRight
  rw [List.all_eq_true]
  intro d hd
  obtain ⟨i, hi⟩ := List.getElem?_of_mem hd
  exact h i d hi
/-- A deal turned. -/
def turnF (D : Nat → Nat) (k : Nat) (s : Nat) : Nat := D ((s + 4 - k % 4) % 4)
end Pl
end Go.Proofs.YtaadipccgckehaaGreatDoor
