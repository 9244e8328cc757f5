/- What scan computes: lines, good lines, the good part. Plain Lean, no program. -/
import Derived.Test.YtbompgfjlllioaaDoorJP
namespace Go.Proofs.YtbompgfjlllioaaDoor

def goodL (x : Nat) (l : List UInt8) : Bool := decide (4 < l.length) && (l.getD 4 0 == 32) && rightL (l.drop 5) && (l.take 4 == figL (sumL x (l.drop 5)))
/-- The whole lines of some bytes. -/
def linesA : List UInt8 → List UInt8 → List (List UInt8)
  | _, [] => []
  | cur, c :: r => if c = 10 then cur :: linesA [] r else linesA (cur ++ [c]) r
def linesL (b : List UInt8) : List (List UInt8) := linesA [] b
/-- The state of a scan: records, the check of the last one, the length of the good part, whether all was good. -/
structure Sc where
  recs : List (List UInt8)
  last : Nat
  size : Nat
  ok : Bool
def Sc.start : Sc := ⟨[], 1, 0, true⟩
def Sc.step (s : Sc) (l : List UInt8) : Sc :=
  if s.ok then (if goodL s.last l then ⟨s.recs ++ [l.drop 5], sumL s.last (l.drop 5), s.size + l.length + 1, true⟩ else ⟨s.recs, s.last, s.size, false⟩) else s
def scanS (ls : List (List UInt8)) : Sc := ls.foldl Sc.step Sc.start
def tailP (s : Sc) (n : Nat) : Nat := if s.ok then (if s.size < n then 1 else 0) else 2

theorem lines_nil : linesL [] = [] := rfl
theorem linesA_no (cur b : List UInt8) (h : ∀ c ∈ b, c ≠ 10) : linesA cur b = [] := by
  induction b generalizing cur with
  | nil => rfl
  | cons c r ih =>
    unfold linesA
    rw [if_neg (h c (by simp))]
    exact ih _ (fun x hx => h x (by simp [hx]))
theorem linesA_first (cur a r : List UInt8) (h : ∀ c ∈ a, c ≠ 10) : linesA cur (a ++ 10 :: r) = (cur ++ a) :: linesA [] r := by
  induction a generalizing cur with
  | nil => simp [linesA]
  | cons c a ih =>
    rw [List.cons_append, linesA, if_neg (h c (by simp)), ih _ (fun x hx => h x (by simp [hx]))]
    simp
theorem idx_neg (l : List UInt8) (c : UInt8) (h : Lib.indexByte l c < 0) : ∀ x ∈ l, x ≠ c := by
  induction l with
  | nil => intro x hx; cases hx
  | cons b l ih =>
    rw [Lib.indexByte] at h
    split at h
    · simp at h
    · rename_i hb
      split at h
      · rename_i h1
        intro x hx
        rcases List.mem_cons.1 hx with rfl | hx
        · simpa using hb
        · exact ih (by have := eq_of_beq h1; omega) x hx
      · rename_i h1
        have hge : Lib.indexByte l c < 0 := by omega
        intro x hx
        rcases List.mem_cons.1 hx with rfl | hx
        · simpa using hb
        · exact ih hge x hx
theorem idx_ge (l : List UInt8) (c : UInt8) : -1 ≤ Lib.indexByte l c := by
  induction l with
  | nil => simp [Lib.indexByte]
  | cons b l ih =>
    rw [Lib.indexByte]
    split
    · omega
    · split
      · omega
      · omega
theorem idx_pos (l : List UInt8) (c : UInt8) (i : Nat) (h : Lib.indexByte l c = (i : Int)) : i < l.length ∧ l = l.take i ++ c :: l.drop (i + 1) ∧ ∀ x ∈ l.take i, x ≠ c := by
  induction l generalizing i with
  | nil => simp [Lib.indexByte] at h
  | cons b l ih =>
    rw [Lib.indexByte] at h
    split at h
    · rename_i hb
      obtain rfl : i = 0 := by omega
      have := eq_of_beq hb
      subst this
      simp
    · rename_i hb
      split at h
      · omega
      · rename_i h1
        have h2 := idx_ge l c
        have h3 : Lib.indexByte l c ≠ -1 := by simpa using h1
        obtain ⟨k, rfl⟩ : ∃ k, i = k + 1 := ⟨i - 1, by omega⟩
        obtain ⟨a1, a2, a3⟩ := ih k (by omega)
        refine ⟨by simp; omega, ?_, ?_⟩
        · simp only [List.take_succ_cons, List.drop_succ_cons, List.cons_append]
          rw [← a2]
        · intro x hx
          simp only [List.take_succ_cons] at hx
          rcases List.mem_cons.1 hx with rfl | hx
          · simpa using hb
          · exact a3 x hx
/-- No byte 10: no line. -/
theorem lines_no (b : List UInt8) (h : Lib.indexByte b 10 < 0) : linesL b = [] := linesA_no [] b (idx_neg b 10 h)
/-- The first byte 10: the first line. -/
theorem lines_first (b : List UInt8) (i : Nat) (h : Lib.indexByte b 10 = (i : Int)) : linesL b = b.take i :: linesL (b.drop (i + 1)) := by
  obtain ⟨_, h2, h3⟩ := idx_pos b 10 i h
  unfold linesL
  conv => lhs; rw [h2]
  rw [linesA_first [] _ _ h3]
  simp
theorem scanS_snoc (ls : List (List UInt8)) (l : List UInt8) : scanS (ls ++ [l]) = (scanS ls).step l := by
  unfold scanS; rw [List.foldl_append]; rfl
theorem scanS_bad (ls r : List (List UInt8)) (h : (scanS ls).ok = false) : scanS (ls ++ r) = scanS ls := by
  unfold scanS at h ⊢
  rw [List.foldl_append]
  generalize ls.foldl Sc.step Sc.start = s at h
  induction r with
  | nil => rfl
  | cons l r ih =>
    rw [List.foldl_cons]
    have : s.step l = s := by unfold Sc.step; rw [h]; simp
    rw [this]; exact ih
theorem step_ok {s : Sc} {l : List UInt8} (h : s.ok = true) (g : goodL s.last l = true) : s.step l = ⟨s.recs ++ [l.drop 5], sumL s.last (l.drop 5), s.size + l.length + 1, true⟩ := by
  unfold Sc.step; rw [h, g]; rfl
theorem step_bad {s : Sc} {l : List UInt8} (h : s.ok = true) (g : goodL s.last l = false) : s.step l = ⟨s.recs, s.last, s.size, false⟩ := by
  unfold Sc.step; rw [h, g]; rfl
theorem scanS_last (ls : List (List UInt8)) : (scanS ls).last < 9973 := by
  unfold scanS
  suffices ∀ s : Sc, s.last < 9973 → (ls.foldl Sc.step s).last < 9973 from this _ (by decide)
  induction ls with
  | nil => exact fun s h => h
  | cons l r ih =>
    intro s h
    rw [List.foldl_cons]
    refine ih _ ?_
    unfold Sc.step
    split
    · split
      · exact sumL_lt _ _
      · exact h
    · exact h
/-- What the lines of some bytes are long. -/
theorem lines_len (b : List UInt8) : ((linesL b).map fun l => l.length + 1).sum ≤ b.length := by
  suffices ∀ n, ∀ b : List UInt8, b.length ≤ n → ((linesL b).map fun l => l.length + 1).sum ≤ b.length from this _ _ (Nat.le_refl _)
  intro n
  induction n with
  | zero => intro b hb; obtain rfl : b = [] := List.eq_nil_of_length_eq_zero (by omega); simp [lines_nil]
  | succ n ih =>
    intro b hb
    rcases Int.lt_or_le (Lib.indexByte b 10) 0 with h | h
    · rw [lines_no b h]; simp
    · obtain ⟨i, hi⟩ : ∃ i : Nat, Lib.indexByte b 10 = (i : Int) := ⟨(Lib.indexByte b 10).toNat, by omega⟩
      obtain ⟨h1, _, _⟩ := idx_pos b 10 i hi
      rw [lines_first b i hi]
      have := ih (b.drop (i + 1)) (by simp; omega)
      simp only [List.map_cons, List.sum_cons, List.length_take, List.length_drop] at this ⊢
      omega
theorem scanS_size (ls : List (List UInt8)) : (scanS ls).size ≤ (ls.map fun l => l.length + 1).sum := by
  unfold scanS
  suffices ∀ s : Sc, (ls.foldl Sc.step s).size ≤ s.size + (ls.map fun l => l.length + 1).sum from by simpa [Sc.start] using this Sc.start
  induction ls with
  | nil => intro s; simp
  | cons l r ih =>
    intro s
    rw [List.foldl_cons, List.map_cons, List.sum_cons]
    have h := ih (s.step l)
    have : (s.step l).size ≤ s.size + l.length + 1 := by
      unfold Sc.step
      split
      · split
        · exact Nat.le_refl _
        · show s.size ≤ _; omega
      · omega
    omega
theorem scan_le (b : List UInt8) : (scanS (linesL b)).size ≤ b.length := Nat.le_trans (scanS_size _) (lines_len b)
theorem good_parts {x : Nat} {l : List UInt8} (h : goodL x l = true) : 4 < l.length ∧ rightL (l.drop 5) = true := by
  unfold goodL at h; simp only [Bool.and_eq_true, decide_eq_true_eq] at h; exact ⟨h.1.1.1, h.1.2⟩
end Go.Proofs.YtbompgfjlllioaaDoor
