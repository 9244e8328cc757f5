/- Plain: rows of a movement, fit movements, the lines of texts and cards. -/
import Derived.Lib.ItoaNum
import Derived.Lib.Join
namespace Go.Proofs.YtidpfggikighlaaDoor
open Go

/-- A row of a movement. -/
structure Rw where
  rd : Int
  tb : Int
  ns : Int
  ew : Int
  st : Int

/-- A movement. -/
structure Mv where
  tab : Int
  rou : Int
  set : Int
  cop : Int
  win : Int
  rows : List Rw
/-- Words and the spaces between them. -/
def sp : List (List UInt8) → List UInt8
  | [] => []
  | w :: l => w ++ l.flatMap (fun x => 32 :: x)
theorem sp_one (w : List UInt8) : sp [w] = w := by simp [sp]
theorem sp_snoc (l : List (List UInt8)) (h : l ≠ []) (x : List UInt8) : sp (l ++ [x]) = sp l ++ 32 :: x := by
  cases l with
  | nil => exact absurd rfl h
  | cons w l => simp [sp, List.flatMap_append]
theorem sp_app (l m : List (List UInt8)) (h : l ≠ []) (hm : m ≠ []) : sp (l ++ m) = sp l ++ 32 :: sp m := by
  cases l with
  | nil => exact absurd rfl h
  | cons w l =>
    cases m with
    | nil => exact absurd rfl hm
    | cons v m => simp [sp, List.flatMap_append]
theorem join_sp (l : List (List UInt8)) : Lib.join l [32] = sp l := by
  cases l with
  | nil => rfl
  | cons w l =>
    rw [Lib.join_cons]
    unfold Lib.joinTail
    show _ = w ++ l.flatMap (fun x => 32 :: x)
    rw [List.flatMap_def]
    rfl
/-- Lines put together are the words of all. -/
theorem sp_sp : ∀ (ls : List (List (List UInt8))), (∀ l ∈ ls, l ≠ []) → sp (ls.map sp) = sp ls.flatten
  | [], _ => rfl
  | [l], _ => by simp [sp_one]
  | l :: m :: ls, h => by
    have ih := sp_sp (m :: ls) (fun x hx => h x (List.mem_cons_of_mem _ hx))
    have hm : (m :: ls).flatten ≠ [] := by
      have := h m (by simp)
      simp only [List.flatten_cons]
      intro e
      exact this (List.append_eq_nil_iff.1 e).1
    rw [List.map_cons, List.flatten_cons, sp_app _ _ (h l (by simp)) hm, ← ih]
    simp only [List.map_cons, sp, List.flatMap_cons, List.cons_append]
/-- A word and its numbers. -/
def numL (w : List UInt8) (l : List Int) : List UInt8 := sp (w :: l.map Lib.itoa)
theorem numL_snoc (w : List UInt8) (l : List Int) (n : Int) : numL w (l ++ [n]) = numL w l ++ 32 :: Lib.itoa n := by
  unfold numL
  rw [List.map_append, ← List.cons_append]
  exact sp_snoc _ (by simp) _
theorem numL_nil (w : List UInt8) : numL w [] = w := sp_one w
def wMov : List UInt8 := [109, 111, 118, 101, 109, 101, 110, 116]
def wRow : List UInt8 := [114, 111, 119]
def wPair : List UInt8 := [112, 97, 105, 114]
def wRound : List UInt8 := [114, 111, 117, 110, 100]
def wOut : List UInt8 := [111, 117, 116]
def wTable : List UInt8 := [116, 97, 98, 108, 101]
def wNS : List UInt8 := [78, 83]
def wEW : List UInt8 := [69, 87]
def wAlone : List UInt8 := [97, 108, 111, 110, 101]
def wAgainst : List UInt8 := [97, 103, 97, 105, 110, 115, 116]
def wSet : List UInt8 := [115, 101, 116]
def wEmpty : List UInt8 := [101, 109, 112, 116, 121]
/-- The text of a movement. -/
def rowL (r : Rw) : List UInt8 := numL wRow [r.rd, r.tb, r.ns, r.ew, r.st]
def movL (m : Mv) : List UInt8 := numL wMov [m.tab, m.rou, m.set, m.cop, m.win]
def textL (m : Mv) : List (List UInt8) := movL m :: m.rows.map rowL
/-- A line of a guide card. -/
def outL (r : Int) : List UInt8 := sp [wRound, Lib.itoa r, wOut]
def sideW (r : Rw) (p : Int) : List UInt8 := if r.ew = p then wEW else wNS
def otherP (r : Rw) (p : Int) : Int := if r.ew = p then r.ns else r.ew
def placeW (r : Rw) (p : Int) : List (List UInt8) := [wRound, Lib.itoa r.rd, wTable, Lib.itoa r.tb, sideW r p]
def seatL (r : Rw) (p : Int) : List UInt8 := sp (placeW r p ++ if otherP r p = 0 then [wAlone] else [wAgainst, Lib.itoa (otherP r p), wSet, Lib.itoa r.st])
def hits (p : Int) (r : Rw) : Bool := decide (r.ns = p ∨ r.ew = p)
def stepP (p : Int) (k : Int) (s : List UInt8) (r : Rw) : List UInt8 := if r.rd = k ∧ hits p r = true then seatL r p else s
/-- What is written for round k by the rows. -/
def pairAt (p : Int) (l : List Rw) (k : Nat) : List UInt8 := l.foldl (stepP p k) (outL k)
def pairL (R : Nat) (p : Int) (l : List Rw) : List (List UInt8) := numL wPair [p] :: (List.range R).map (pairAt p l)
/-- A line of a table's card. -/
def emptyL (r : Int) : List UInt8 := sp [wRound, Lib.itoa r, wEmpty]
def boardL (r : Rw) : List UInt8 := sp [wRound, Lib.itoa r.rd, wNS, Lib.itoa r.ns, wEW, Lib.itoa r.ew, wSet, Lib.itoa r.st]
def stepT (t : Int) (k : Int) (s : List UInt8) (r : Rw) : List UInt8 := if r.rd = k ∧ r.tb = t then boardL r else s
def tableAt (t : Int) (l : List Rw) (k : Nat) : List UInt8 := l.foldl (stepT t k) (emptyL k)
def tableL (R : Nat) (t : Int) (l : List Rw) : List (List UInt8) := numL wTable [t] :: (List.range R).map (tableAt t l)
/-- A fit row behind others. -/
def okIn (T R S : Int) (r : Rw) : Bool := decide (0 ≤ r.rd ∧ r.rd < R ∧ 0 ≤ r.tb ∧ r.tb < T ∧ 0 ≤ r.st ∧ r.st < S ∧ 0 ≤ r.ns ∧ r.ns ≤ 49 ∧ 0 ≤ r.ew ∧ r.ew ≤ 49 ∧ (r.ns = r.ew → r.ns ≤ 0))
def clash (s r : Rw) : Bool := decide (s.rd = r.rd ∧ (s.tb = r.tb ∨ (0 < s.ns ∧ (r.ns = s.ns ∨ r.ew = s.ns)) ∨ (0 < s.ew ∧ (r.ns = s.ew ∨ r.ew = s.ew))))
def okAt (T R S : Int) (pre : List Rw) (r : Rw) : Bool := okIn T R S r && pre.all (fun s => !clash s r)
def fitRows (T R S : Int) : List Rw → List Rw → Bool
  | _, [] => true
  | pre, r :: l => okAt T R S pre r && fitRows T R S (pre ++ [r]) l
def okHead (m : Mv) : Bool := decide (1 ≤ m.tab ∧ m.tab ≤ 24 ∧ 1 ≤ m.rou ∧ m.rou ≤ 47 ∧ (m.rows.length : Int) ≤ m.tab * m.rou)
def fitB (m : Mv) : Bool := okHead m && fitRows m.tab m.rou m.set [] m.rows
theorem fitRows_split (T R S : Int) : ∀ (l pre : List Rw) (k : Nat) (r : Rw), l[k]? = some r → (∀ i s, i < k → l[i]? = some s → okAt T R S (pre ++ l.take i) s = true) →
    fitRows T R S pre l = (okAt T R S (pre ++ l.take k) r && fitRows T R S (pre ++ l.take (k + 1)) (l.drop (k + 1))) := by
  intro l
  induction l with
  | nil => intro pre k r h; simp at h
  | cons a l ih =>
    intro pre k r hr hp
    cases k with
    | zero =>
      obtain rfl : a = r := by simpa using hr
      simp [fitRows]
    | succ k =>
      have ha : okAt T R S pre a = true := by simpa using hp 0 a (by omega) rfl
      simp only [fitRows, ha, Bool.true_and]
      rw [ih (pre ++ [a]) k r (by simpa using hr) (fun i s hi hs => by
        have := hp (i + 1) s (by omega) (by simpa using hs)
        simpa [List.append_assoc] using this)]
      simp [List.append_assoc]
/-- All rows are fit. -/
theorem fitRows_true (T R S : Int) (l : List Rw) (h : ∀ i s, l[i]? = some s → okAt T R S (l.take i) s = true) : fitRows T R S [] l = true := by
  have key : ∀ (l pre : List Rw), (∀ i s, l[i]? = some s → okAt T R S (pre ++ l.take i) s = true) → fitRows T R S pre l = true := by
    intro l
    induction l with
    | nil => intro pre _; rfl
    | cons a l ih =>
      intro pre hp
      have ha : okAt T R S pre a = true := by simpa using hp 0 a rfl
      simp only [fitRows, ha, Bool.true_and]
      exact ih _ (fun i s hs => by
        have := hp (i + 1) s (by simpa using hs)
        simpa [List.append_assoc] using this)
  exact key l [] (by simpa using h)
theorem fitRows_false (T R S : Int) (l : List Rw) (k : Nat) (r : Rw) (hr : l[k]? = some r) (hp : ∀ i s, i < k → l[i]? = some s → okAt T R S (l.take i) s = true) (h : okAt T R S (l.take k) r = false) : fitRows T R S [] l = false := by
  rw [fitRows_split T R S l [] k r hr (by simpa using hp)]
  simp [h]
theorem fitRows_all {T R S : Int} {l : List Rw} (h : fitRows T R S [] l = true) : ∀ i s, l[i]? = some s → okAt T R S (l.take i) s = true := by
  intro i
  induction i using Nat.strongRecOn with
  | _ i ih =>
    intro s hs
    have := fitRows_split T R S l [] i s hs (fun j t hj ht => by simpa using ih j hj t ht)
    rw [h] at this
    simp only [List.nil_append] at this
    rcases hx : okAt T R S (l.take i) s with _ | _
    · rw [hx] at this; simp at this
    · rfl
/-- Every row of a fit movement is in the bounds. -/
theorem fit_in {m : Mv} (h : fitB m = true) : ∀ r ∈ m.rows, 0 ≤ r.rd ∧ r.rd < m.rou ∧ 0 ≤ r.tb ∧ r.tb < m.tab ∧ 0 ≤ r.st ∧ r.st < m.set ∧ 0 ≤ r.ns ∧ r.ns ≤ 49 ∧ 0 ≤ r.ew ∧ r.ew ≤ 49 := by
  intro r hr
  obtain ⟨i, hi⟩ := List.getElem?_of_mem hr
  unfold fitB at h
  rw [Bool.and_eq_true] at h
  have := fitRows_all h.2 i r hi
  unfold okAt okIn at this
  rw [Bool.and_eq_true, decide_eq_true_eq] at this
  obtain ⟨⟨a, b, c, d, e, f, g, i, j, k, _⟩, _⟩ := this
  exact ⟨a, b, c, d, e, f, g, i, j, k⟩
theorem fit_head {m : Mv} (h : fitB m = true) : 1 ≤ m.tab ∧ m.tab ≤ 24 ∧ 1 ≤ m.rou ∧ m.rou ≤ 47 ∧ (m.rows.length : Int) ≤ m.tab * m.rou := by
  unfold fitB at h
  rw [Bool.and_eq_true] at h
  exact of_decide_eq_true h.1
attribute [irreducible] numL rowL movL outL seatL emptyL boardL pairAt tableAt okAt fitB
end Go.Proofs.YtidpfggikighlaaDoor
