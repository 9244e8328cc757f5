/- Plain: the entries of one key in a set, those that count; the order of entries by their versions; what is read of a changed text. -/
import Derived.Test.YtpkmibmombpjpaaGreatDoorEnP
import Derived.Test.YtpkmibmombpjpaaGreatDoorEZ
import Derived.Test.YtpkmibmombpjpaaGreatDoorEmP
namespace Go.Proofs.YtpkmibmombpjpaaGreatDoor
open Go

def keyE (e : En) : List Int := [e.rd, e.tb, e.bd]
theorem cmpK_zero (a b : En) : cmpK a b = 0 ↔ keyE a = keyE b := by
  constructor
  · intro h
    exact lex_eq _ _ rfl h
  · intro h
    have : cmpK a b = lexC (keyE a) (keyE b) := rfl
    rw [this, h]
    exact lex_self _
/-- Of each key the last one. -/
def countP : List En → List En
  | a :: b :: r => if keyE a = keyE b then countP (b :: r) else a :: countP (b :: r)
  | l => l
theorem count_group : ∀ (g : List En) (a : En) (r : List En), (∀ x ∈ g, keyE x = keyE a) → (∀ y, r.head? = some y → keyE y ≠ keyE a) → countP (a :: (g ++ r)) = (a :: g).getLast (by simp) :: countP r
  | [], a, [], _, _ => rfl
  | [], a, y :: r, _, h => by
    show countP (a :: y :: r) = a :: countP (y :: r)
    rw [countP, if_neg (fun e => h y rfl e.symm)]
  | b :: g, a, r, hg, h => by
    have hb : keyE b = keyE a := hg b (by simp)
    show countP (a :: b :: (g ++ r)) = _
    rw [countP, if_pos hb.symm, count_group g b r (fun x hx => by rw [hb]; exact hg x (by simp [hx])) (fun y hy => by rw [hb]; exact h y hy)]
    congr 1
end Go.Proofs.YtpkmibmombpjpaaGreatDoor
namespace Go.Proofs.YtpkmibmombpjpaaGreatDoor
open Go

theorem takeW_take {α : Type} (p : α → Bool) : ∀ (l : List α) (j : Nat), j ≤ l.length → (∀ x ∈ l.take j, p x = true) → (∀ x, l[j]? = some x → p x = false) → l.takeWhile p = l.take j
  | [], j, _, _, _ => by simp
  | a :: t, 0, _, _, h => by
    have := h a rfl
    simp [List.takeWhile, this]
  | a :: t, j + 1, hj, h1, h2 => by
    have ha : p a = true := h1 a (by simp)
    have ih := takeW_take p t j (by simpa using hj) (fun x hx => h1 x (by simp [hx])) (fun x hx => h2 x (by simpa using hx))
    simp [List.takeWhile, ha, ih]
theorem takeW_len {α : Type} (p : α → Bool) : ∀ (l : List α), (l.takeWhile p).length ≤ l.length
  | [] => by simp
  | a :: t => by
    have := takeW_len p t
    simp only [List.takeWhile]
    split <;> simp <;> omega
theorem takeW_is {α : Type} (p : α → Bool) : ∀ (l : List α), l.takeWhile p = l.take (l.takeWhile p).length
  | [] => by simp
  | a :: t => by
    have := takeW_is p t
    simp only [List.takeWhile]
    split
    · simp only [List.length_cons, List.take_succ_cons]
      rw [← this]
    · simp
theorem dropW_head {α : Type} (p : α → Bool) : ∀ (l : List α) (y : α), l[(l.takeWhile p).length]? = some y → p y = false
  | [], y, h => by simp at h
  | a :: t, y, h => by
    cases ha : p a with
    | false =>
      simp only [List.takeWhile, ha, List.length_nil, List.getElem?_cons_zero, Option.some.injEq] at h
      exact h ▸ ha
    | true =>
      simp only [List.takeWhile, ha, List.length_cons, List.getElem?_cons_succ] at h
      exact dropW_head p t y h
/-- Keys of a set do not fall. -/
theorem cmpK_of_cmpE {a b : En} (h : cmpE a b ≤ 0) : cmpK a b ≤ 0 := by
  by_cases h0 : cmpK a b = 0
  · omega
  · rw [cmp_key h0] at h; exact h
theorem cmpK_trans {a b c : En} (h1 : cmpK a b ≤ 0) (h2 : cmpK b c ≤ 0) : cmpK a c ≤ 0 := lex_trans [a.rd, a.tb, a.bd] [b.rd, b.tb, b.bd] [c.rd, c.tb, c.bd] rfl rfl h1 h2
theorem cmpK_swap (a b : En) : cmpK b a = - cmpK a b := lex_swap _ _
theorem cmpK_lt {a b c : En} (h1 : cmpK a b ≤ 0) (h2 : cmpK b c < 0) : cmpK a c < 0 := by
  have h3 := cmpK_trans h1 (by omega : cmpK b c ≤ 0)
  by_cases h0 : cmpK a c = 0
  · have h4 : cmpK c a ≤ 0 := by rw [cmpK_swap]; omega
    have h5 := cmpK_trans h4 h1
    rw [cmpK_swap] at h5
    omega
  · omega
theorem setB_tail : ∀ (l : List En) (k : Nat), setB l = true → setB (l.drop k) = true
  | l, 0, h => by simpa using h
  | [], k + 1, h => by simpa using h
  | [a], k + 1, h => by simp [setB]
  | a :: b :: r, k + 1, h => by
    simp only [setB, Bool.and_eq_true] at h
    exact setB_tail (b :: r) k h.2
theorem setB_first : ∀ (a : En) (l : List En), setB (a :: l) = true → ∀ y ∈ l, cmpE a y < 0
  | _, [], _, y, hy => by simp at hy
  | a, b :: r, h, y, hy => by
    simp only [setB, Bool.and_eq_true, decide_eq_true_eq] at h
    rcases List.mem_cons.1 hy with rfl | hy
    · exact h.1
    · have h2 := setB_first b r h.2 y hy
      have h3 := cmp_trans (a := a) (b := b) (c := y) (by omega) (by omega)
      by_cases h0 : cmpE a y = 0
      · have := cmp_eq h0
        subst this
        have := cmp_swap a b
        omega
      · omega
theorem setB_lt {l : List En} (h : setB l = true) {i j : Nat} {x y : En} (hij : i < j) (hx : l[i]? = some x) (hy : l[j]? = some y) : cmpE x y < 0 := by
  have h1 := setB_tail l i h
  have hlt := (List.getElem?_eq_some_iff.1 hx).1
  rw [List.drop_eq_getElem_cons hlt] at h1
  have hxe : l[i] = x := (List.getElem?_eq_some_iff.1 hx).2
  rw [hxe] at h1
  refine setB_first x _ h1 y ?_
  have : (l.drop (i + 1))[j - (i + 1)]? = some y := by
    rw [List.getElem?_drop, show i + 1 + (j - (i + 1)) = j by omega]
    exact hy
  exact List.mem_of_getElem? this
theorem setB_mono {l : List En} (h : setB l = true) : Mono l := by
  intro i j x y hij hx hy
  rcases Nat.lt_or_eq_of_le hij with hlt | rfl
  · exact cmpK_of_cmpE (by have := setB_lt h hlt hx hy; omega)
  · rw [hx] at hy
    cases hy
    exact cmpK_of_cmpE (by rw [cmp_self]; omega)
theorem mono_e {l : List En} (h : Mono l) (e : En) : ∀ (a b : Nat) (x y : En), a ≤ b → l[a]? = some x → l[b]? = some y → cmpK y e < 0 → cmpK x e < 0 :=
  fun a b x y hab hx hy hc => cmpK_lt (h a b x y hab hx hy) hc
/-- The entries of a key at the head of a list. -/
def runP (l : List En) (e : En) : List En := l.takeWhile (fun x => cmpK x e == 0)
theorem cmpK_self (a : En) : cmpK a a = 0 := lex_self _
theorem run_head (a : En) (t : List En) : ∃ g, runP (a :: t) a = a :: g ∧ a :: t = (a :: g) ++ (a :: t).drop (g.length + 1) ∧ countP (a :: t) = (a :: g).getLast (by simp) :: countP ((a :: t).drop (g.length + 1)) := by
  refine ⟨t.takeWhile (fun x => cmpK x a == 0), ?_, ?_, ?_⟩
  · simp [runP, List.takeWhile, cmpK_self]
  · rw [List.drop_succ_cons, List.cons_append]
    congr 1
    conv => rhs; lhs; rw [takeW_is]
    rw [List.take_append_drop]
  · have ht : t = t.takeWhile (fun x => cmpK x a == 0) ++ t.drop (t.takeWhile (fun x => cmpK x a == 0)).length := by
      conv => rhs; lhs; rw [takeW_is]
      rw [List.take_append_drop]
    rw [List.drop_succ_cons]
    conv => lhs; rw [ht]
    refine count_group _ a _ (fun x hx => ?_) (fun y hy => ?_)
    · have : ∀ (l : List En), x ∈ l.takeWhile (fun x => cmpK x a == 0) → cmpK x a = 0 := by
        intro l
        induction l with
        | nil => intro h; simp at h
        | cons b r ih =>
          intro h
          simp only [List.takeWhile] at h
          split at h
          · rename_i hb
            rcases List.mem_cons.1 h with rfl | h
            · simpa using hb
            · exact ih h
          · simp at h
      exact (cmpK_zero x a).1 (this t hx)
    · intro hk
      have h1 := dropW_head (fun x => cmpK x a == 0) t y (by rw [← List.head?_drop]; exact hy)
      have h2 := (cmpK_zero y a).2 hk
      simp [h2] at h1
theorem split_zero {a e : En} {t : List En} {k : Nat} (h : Split (a :: t) e k) (h0 : cmpK a e = 0) : k = 0 := by
  rcases Nat.eq_zero_or_pos k with h1 | h1
  · exact h1
  · have := h.low 0 a h1 rfl
    omega
end Go.Proofs.YtpkmibmombpjpaaGreatDoor
namespace Go.Proofs.YtpkmibmombpjpaaGreatDoor
open Go

/-- An entry with the key of another one. -/
def En.key (d e : En) : En := { d with rd := e.rd, tb := e.tb, bd := e.bd }
theorem ver_lt {d e : En} (h : d.vs < e.vs) : cmpE (d.key e) e = -1 := by
  unfold cmpE En.nums En.key
  simp only [List.cons_append, lexC]
  rw [if_neg (by omega), if_neg (by omega), if_neg (by omega), if_neg (by omega), if_neg (by omega), if_neg (by omega), if_pos h]
theorem back_no {s z : List UInt8} {a c : En} (h : IsE s a) (hz : z ≠ s) (hr : readW z = some c) : c ≠ a := by
  rintro rfl
  have h2 := readW_is hr
  exact hz (h2.2.2.symm.trans h.2.2)
end Go.Proofs.YtpkmibmombpjpaaGreatDoor
