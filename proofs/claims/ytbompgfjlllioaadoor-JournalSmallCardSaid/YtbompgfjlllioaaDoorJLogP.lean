/- Logs: lines of records one after the other; what a scan finds in them, whole, cut or damaged. Plain Lean, no program. -/
import Derived.Test.YtbompgfjlllioaaDoorJRefP
namespace Go.Proofs.YtbompgfjlllioaaDoor

/-- What texts makes of a string. -/
def txtB (c : UInt8) : UInt8 := 32 + c % 95
def txt (s : List UInt8) : List UInt8 := (s.take 60).map txtB
def textsL (l : List (List UInt8)) : List (List UInt8) := (l.take 20).map txt
def lastA (x : Nat) (l : List (List UInt8)) : Nat := l.foldl sumL x
def logA (x : Nat) : List (List UInt8) → List UInt8
  | [] => []
  | t :: r => lineL x t ++ logA (sumL x t) r
def sizeA (l : List (List UInt8)) : Nat := (l.map fun t => t.length + 6).sum
/-- A line without its end. -/
def bodyL (x : Nat) (t : List UInt8) : List UInt8 := figL (sumL x t) ++ [32] ++ t
def endsA (l : List (List UInt8)) : List Nat := (List.range l.length).map fun i => sizeA (l.take (i + 1))

theorem txtB_ok (c : UInt8) : okB (txtB c) = true := by
  have h : ∀ c : UInt8, okB (txtB c) = true := by
    intro c
    refine okB_t ?_ ?_ <;> · unfold txtB; rw [UInt8.toNat_add, UInt8.toNat_mod]; have := c.toNat_lt; simp; omega
  exact h c
theorem txt_right (s : List UInt8) : rightL (txt s) = true := by
  unfold rightL txt
  rw [Bool.and_eq_true, decide_eq_true_eq, List.all_eq_true]
  refine ⟨by simp; omega, fun c hc => ?_⟩
  obtain ⟨d, _, rfl⟩ := List.mem_map.1 hc
  exact txtB_ok d
theorem txt_len (s : List UInt8) : (txt s).length ≤ 60 := by unfold txt; simp; omega
theorem textsL_right (l : List (List UInt8)) : ∀ t ∈ textsL l, rightL t = true ∧ t.length ≤ 60 := by
  intro t ht
  obtain ⟨s, _, rfl⟩ := List.mem_map.1 ht
  exact ⟨txt_right s, txt_len s⟩
theorem textsL_len (l : List (List UInt8)) : (textsL l).length ≤ 20 := by unfold textsL; simp; omega
theorem lineL_body (x : Nat) (t : List UInt8) : lineL x t = bodyL x t ++ [10] := rfl
theorem bodyL_len (x : Nat) (t : List UInt8) : (bodyL x t).length = t.length + 5 := by
  unfold bodyL; simp only [List.length_append, figL_len, List.length_cons, List.length_nil]; omega
theorem bodyL_take (x : Nat) (t : List UInt8) : (bodyL x t).take 4 = figL (sumL x t) := by
  unfold bodyL; rw [List.append_assoc, List.take_left' (figL_len _)]
theorem bodyL_drop (x : Nat) (t : List UInt8) : (bodyL x t).drop 5 = t := by
  unfold bodyL; exact List.drop_left' rfl
theorem bodyL_four (x : Nat) (t : List UInt8) : (bodyL x t).getD 4 0 = 32 := rfl
theorem fig_ne (n : Nat) (h : n < 10) : UInt8.ofNat (48 + n) ≠ 10 := by
  intro e
  have := congrArg UInt8.toNat e
  rw [UInt8.toNat_ofNat'] at this
  have h2 : (10 : UInt8).toNat = 10 := rfl
  omega
theorem okB_ne {c : UInt8} (h : okB c = true) : c ≠ 10 := fun e => by
  rw [e] at h; exact absurd h (by decide)
theorem bodyL_no {x : Nat} {t : List UInt8} (h : rightL t = true) : ∀ c ∈ bodyL x t, c ≠ 10 := by
  intro c hc
  have hs := sumL_lt x t
  unfold bodyL figL at hc
  simp only [List.cons_append, List.nil_append, List.mem_cons] at hc
  rcases hc with rfl | rfl | rfl | rfl | rfl | hc
  · exact fig_ne _ (by omega)
  · exact fig_ne _ (by omega)
  · exact fig_ne _ (by omega)
  · exact fig_ne _ (by omega)
  · decide
  · exact okB_ne (List.all_eq_true.1 (rightL_all h) c hc)
theorem bodyL_good {x : Nat} {t : List UInt8} (h : rightL t = true) : goodL x (bodyL x t) = true := by
  unfold goodL
  rw [bodyL_drop, bodyL_take, bodyL_four, h, bodyL_len, decide_eq_true (by omega)]
  simp
/-- A good line is the line of its text. -/
theorem good_body {x : Nat} {q : List UInt8} (h : goodL x q = true) : q = bodyL x (q.drop 5) ∧ rightL (q.drop 5) = true := by
  obtain ⟨h1, h2⟩ := good_parts h
  refine ⟨?_, h2⟩
  unfold goodL at h
  simp only [Bool.and_eq_true, decide_eq_true_eq, beq_iff_eq] at h
  obtain ⟨⟨⟨_, h3⟩, _⟩, h4⟩ := h
  conv => lhs; rw [split_line q h1]
  rw [h3, h4]; rfl
theorem lastA_snoc (x : Nat) (l : List (List UInt8)) (t : List UInt8) : lastA x (l ++ [t]) = sumL (lastA x l) t := by unfold lastA; rw [List.foldl_append]; rfl
theorem lastA_lt (l : List (List UInt8)) : lastA 1 l < 9973 := by
  unfold lastA
  suffices ∀ x, x < 9973 → l.foldl sumL x < 9973 from this 1 (by decide)
  induction l with
  | nil => exact fun x h => h
  | cons t r ih => exact fun x _ => ih _ (sumL_lt x t)
theorem logA_app (x : Nat) (l m : List (List UInt8)) : logA x (l ++ m) = logA x l ++ logA (lastA x l) m := by
  induction l generalizing x with
  | nil => rfl
  | cons t r ih =>
    show lineL x t ++ logA (sumL x t) (r ++ m) = (lineL x t ++ logA (sumL x t) r) ++ logA (lastA x (t :: r)) m
    rw [ih, List.append_assoc]; rfl
theorem logA_snoc (x : Nat) (l : List (List UInt8)) (t : List UInt8) : logA x (l ++ [t]) = logA x l ++ lineL (lastA x l) t := by
  rw [logA_app]; simp [logA]
theorem sizeA_snoc (l : List (List UInt8)) (t : List UInt8) : sizeA (l ++ [t]) = sizeA l + t.length + 6 := by
  unfold sizeA; simp; omega
theorem sizeA_app (l m : List (List UInt8)) : sizeA (l ++ m) = sizeA l + sizeA m := by
  unfold sizeA; simp
theorem logA_len (x : Nat) (l : List (List UInt8)) : (logA x l).length = sizeA l := by
  induction l generalizing x with
  | nil => rfl
  | cons t r ih =>
    show (lineL x t ++ logA (sumL x t) r).length = _
    rw [List.length_append, ih, lineL_len]; unfold sizeA; simp
theorem sizeA_take_next (l : List (List UInt8)) (k : Nat) (h : k < l.length) : sizeA (l.take (k + 1)) = sizeA (l.take k) + l[k].length + 6 := by
  rw [List.take_add_one, List.getElem?_eq_getElem h]; exact sizeA_snoc _ _
theorem sizeA_le (l : List (List UInt8)) (h : ∀ t ∈ l, t.length ≤ 60) : sizeA l ≤ 66 * l.length := by
  induction l with
  | nil => exact Nat.le_refl _
  | cons t r ih =>
    have h1 := h t (by simp)
    have h2 := ih (fun x hx => h x (by simp [hx]))
    unfold sizeA at h2 ⊢
    simp only [List.map_cons, List.sum_cons, List.length_cons]
    omega
theorem sizeA_take_le (l : List (List UInt8)) (k : Nat) : sizeA (l.take k) ≤ sizeA l := by
  conv => rhs; rw [← List.take_append_drop k l, sizeA_app]
  omega
/-- The log up to a record, the record's line, the rest. -/
theorem logA_split (x : Nat) (l : List (List UInt8)) (k : Nat) (h : k < l.length) : logA x l = logA x (l.take k) ++ (lineL (lastA x (l.take k)) l[k] ++ logA (sumL (lastA x (l.take k)) l[k]) (l.drop (k + 1))) := by
  conv => lhs; rw [← List.take_append_drop k l, List.drop_eq_getElem_cons h]
  rw [logA_app]; rfl
theorem At.goodq {bs : List UInt8} {pre : List (List UInt8)} {S : Sc} (h : At bs pre S) (q r : List UInt8) (hd : bs.drop S.size = q ++ 10 :: r) (hq : ∀ c ∈ q, c ≠ 10) (hg : goodL S.last q = true) :
    At bs (pre ++ [q]) ⟨S.recs ++ [q.drop 5], sumL S.last (q.drop 5), S.size + q.length + 1, true⟩ := by
  have hk : (bs.drop S.size).take q.length = q := by rw [hd]; exact List.take_left' rfl
  have := At.good h (i := q.length) (by rw [hd]; simp) (by simp only [hd]; simp) (by rw [hk]; exact hq) (by rw [hk]; exact hg)
  rwa [hk] at this
theorem At.badq {bs : List UInt8} {pre : List (List UInt8)} {S : Sc} (h : At bs pre S) (q r : List UInt8) (hd : bs.drop S.size = q ++ 10 :: r) (hq : ∀ c ∈ q, c ≠ 10) (hg : goodL S.last q = false) :
    scanS (linesL bs) = ⟨S.recs, S.last, S.size, false⟩ := by
  have hk : (bs.drop S.size).take q.length = q := by rw [hd]; exact List.take_left' rfl
  exact At.bad h (i := q.length) (by rw [hd]; simp) (by simp only [hd]; simp) (by rw [hk]; exact hq) (by rw [hk]; exact hg)
/-- The scan stands behind a log. -/
theorem at_log (l : List (List UInt8)) (rest : List UInt8) (h : ∀ t ∈ l, rightL t = true) : ∃ pre, At (logA 1 l ++ rest) pre ⟨l, lastA 1 l, sizeA l, true⟩ := by
  suffices ∀ n, ∀ l : List (List UInt8), l.length = n → ∀ rest, (∀ t ∈ l, rightL t = true) → ∃ pre, At (logA 1 l ++ rest) pre ⟨l, lastA 1 l, sizeA l, true⟩ from this _ l rfl rest h
  intro n
  induction n with
  | zero =>
    intro l hl rest _
    obtain rfl : l = [] := List.eq_nil_of_length_eq_zero hl
    exact ⟨[], At.start _⟩
  | succ n ih =>
    intro l hl rest h
    obtain ⟨m, t, rfl⟩ : ∃ m t, l = m ++ [t] := by
      rcases List.eq_nil_or_concat l with rfl | ⟨m, t, rfl⟩
      · simp at hl
      · exact ⟨m, t, by simp⟩
    have ht := h t (by simp)
    obtain ⟨pre, hA⟩ := ih m (by simpa using hl) (lineL (lastA 1 m) t ++ rest) (fun x hx => h x (by simp [hx]))
    have hd : (logA 1 m ++ (lineL (lastA 1 m) t ++ rest)).drop (Sc.mk m (lastA 1 m) (sizeA m) true).size = bodyL (lastA 1 m) t ++ 10 :: rest := by
      rw [List.drop_left' (logA_len 1 m), lineL_body, List.append_assoc]; rfl
    have hA' := hA.goodq _ _ hd (bodyL_no ht) (bodyL_good ht)
    refine ⟨pre ++ [bodyL (lastA 1 m) t], ?_⟩
    rw [bodyL_drop, bodyL_len] at hA'
    rw [logA_snoc, List.append_assoc, lastA_snoc, sizeA_snoc]
    exact hA'
/-- Behind a log lies no byte 10. -/
theorem scan_cut (l : List (List UInt8)) (q : List UInt8) (h : ∀ t ∈ l, rightL t = true) (hq : ∀ c ∈ q, c ≠ 10) : scanS (linesL (logA 1 l ++ q)) = ⟨l, lastA 1 l, sizeA l, true⟩ := by
  obtain ⟨pre, hA⟩ := at_log l q h
  exact hA.none (by
    show ∀ c ∈ List.drop (sizeA l) _, c ≠ 10
    rw [List.drop_left' (logA_len 1 l)]; exact hq)
/-- A log, whole. -/
theorem scan_log (l : List (List UInt8)) (h : ∀ t ∈ l, rightL t = true) : scanS (linesL (logA 1 l)) = ⟨l, lastA 1 l, sizeA l, true⟩ := by
  have := scan_cut l [] h (by simp)
  rwa [List.append_nil] at this
/-- Behind a log lies a damaged line. -/
theorem scan_bad (l : List (List UInt8)) (q r : List UInt8) (h : ∀ t ∈ l, rightL t = true) (hq : ∀ c ∈ q, c ≠ 10) (hg : goodL (lastA 1 l) q = false) : scanS (linesL (logA 1 l ++ (q ++ 10 :: r))) = ⟨l, lastA 1 l, sizeA l, false⟩ := by
  obtain ⟨pre, hA⟩ := at_log l (q ++ 10 :: r) h
  exact hA.badq q r (List.drop_left' (logA_len 1 l)) hq hg
theorem step_inj (x y b : Nat) (hx : x < 9973) (hy : y < 9973) (h : (31 * x + b) % 9973 = (31 * y + b) % 9973) : x = y := by omega
theorem sumF_inj (x y : Nat) (l : List UInt8) (hx : x < 9973) (hy : y < 9973) (h : sumF x l = sumF y l) : x = y := by
  induction l generalizing x y with
  | nil => exact h
  | cons b r ih => exact step_inj x y _ hx hy (ih _ _ (Nat.mod_lt _ (by decide)) (Nat.mod_lt _ (by decide)) h)
theorem sumL_inj (x y : Nat) (l : List UInt8) (hx : x < 9973) (hy : y < 9973) (h : sumL x l = sumL y l) : x = y :=
  sumF_inj x y l hx hy (step_inj _ _ _ (sumF_lt x l hx) (sumF_lt y l hy) h)
theorem sumF_app (x : Nat) (a b : List UInt8) : sumF x (a ++ b) = sumF (sumF x a) b := by unfold sumF; rw [List.foldl_append]
theorem u8_of (n : Nat) (h : n < 256) : (UInt8.ofNat n).toNat = n := by rw [UInt8.toNat_ofNat']; omega
theorem ofNat_inj {a b : Nat} (ha : a < 256) (hb : b < 256) (h : UInt8.ofNat a = UInt8.ofNat b) : a = b := by
  have := congrArg UInt8.toNat h
  rwa [u8_of a ha, u8_of b hb] at this
theorem figL_inj (a b : Nat) (ha : a < 9973) (hb : b < 9973) (h : figL a = figL b) : a = b := by
  unfold figL at h
  simp only [List.cons.injEq, and_true] at h
  obtain ⟨h1, h2, h3, h4⟩ := h
  have h1 := ofNat_inj (by omega) (by omega) h1
  have h2 := ofNat_inj (by omega) (by omega) h2
  have h3 := ofNat_inj (by omega) (by omega) h3
  have h4 := ofNat_inj (by omega) (by omega) h4
  omega
/-- One byte of a record is another one: another check. -/
theorem sum_byte (x : Nat) (hx : x < 9973) (a r : List UInt8) (c d : UInt8) (hc : okB c = true) (hd : okB d = true) (hn : c ≠ d) : sumL x (a ++ c :: r) ≠ sumL x (a ++ d :: r) := by
  intro h
  unfold sumL at h
  have hl : (a ++ c :: r).length = (a ++ d :: r).length := by simp
  rw [hl] at h
  have h1 := step_inj _ _ _ (sumF_lt x _ hx) (sumF_lt x _ hx) h
  rw [sumF_app, sumF_app] at h1
  have hy := sumF_lt x a hx
  generalize sumF x a = y at h1 hy
  have h2 := sumF_inj ((31 * y + c.toNat) % 9973) ((31 * y + d.toNat) % 9973) r (Nat.mod_lt _ (by decide)) (Nat.mod_lt _ (by decide)) h1
  have c1 := okB_of hc
  have d1 := okB_of hd
  exact hn (UInt8.toNat_inj.1 (by omega))
/-- Two neighbouring bytes exchanged: another check. -/
theorem sum_swap (x : Nat) (hx : x < 9973) (a r : List UInt8) (c d : UInt8) (hc : okB c = true) (hd : okB d = true) (hn : c ≠ d) : sumL x (a ++ c :: d :: r) ≠ sumL x (a ++ d :: c :: r) := by
  intro h
  unfold sumL at h
  have hl : (a ++ c :: d :: r).length = (a ++ d :: c :: r).length := by simp
  rw [hl] at h
  have h1 := step_inj _ _ _ (sumF_lt x _ hx) (sumF_lt x _ hx) h
  rw [sumF_app, sumF_app] at h1
  have hy := sumF_lt x a hx
  generalize sumF x a = y at h1 hy
  have h2 := sumF_inj ((31 * ((31 * y + c.toNat) % 9973) + d.toNat) % 9973) ((31 * ((31 * y + d.toNat) % 9973) + c.toNat) % 9973) r (Nat.mod_lt _ (by decide)) (Nat.mod_lt _ (by decide)) h1
  have c1 := okB_of hc
  have d1 := okB_of hd
  exact hn (UInt8.toNat_inj.1 (by omega))
end Go.Proofs.YtbompgfjlllioaaDoor
