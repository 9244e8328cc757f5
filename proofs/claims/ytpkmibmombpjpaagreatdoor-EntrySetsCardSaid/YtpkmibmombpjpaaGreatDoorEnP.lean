/- Plain: entries: their numbers and their order, which contents are right, their texts. No program. -/
import Derived.Lib.ItoaNum
import Derived.Lib.Join
namespace Go.Proofs.YtpkmibmombpjpaaGreatDoor
open Go

/-- An outcome. -/
structure Ou where
  lv : Nat
  dn : Nat
  rk : Nat
  dc : Nat
  tr : Int
  wt : Int
/-- An entry. -/
structure En where
  rd : Int
  tb : Int
  bd : Int
  vs : Int
  kd : Nat
  fd : Nat
  tn : Bool
  o0 : Ou
  o1 : Ou
  o2 : Ou
  o3 : Ou
  a0 : Int
  a1 : Int
def En.ou (e : En) (i : Nat) : Ou := if i = 0 then e.o0 else if i = 1 then e.o1 else if i = 2 then e.o2 else e.o3
def En.outs (e : En) : List Ou := [e.o0, e.o1, e.o2, e.o3]
theorem En.ou_at (e : En) (i : Nat) (h : i < 4) : e.outs[i]? = some (e.ou i) := by
  rcases (by omega : i = 0 ∨ i = 1 ∨ i = 2 ∨ i = 3) with rfl | rfl | rfl | rfl <;> rfl
def b01 (b : Bool) : Int := if b then 1 else 0
theorem b01_inj {a b : Bool} (h : b01 a = b01 b) : a = b := by
  cases a <;> cases b <;> first | rfl | exact absurd h (by decide)
def Ou.nums (o : Ou) : List Int := [(o.lv : Int), (o.dn : Int), (o.rk : Int), (o.dc : Int), o.tr, o.wt]
def En.nums (e : En) : List Int := [e.rd, e.tb, e.bd, e.vs, (e.kd : Int), (e.fd : Int), b01 e.tn] ++ (e.o0.nums ++ (e.o1.nums ++ (e.o2.nums ++ (e.o3.nums ++ [e.a0, e.a1]))))
theorem En.nums_len (e : En) : e.nums.length = 33 := rfl
theorem Ou.ext_nums {a b : Ou} (h : a.nums = b.nums) : a = b := by
  cases a; cases b
  simp only [Ou.nums, List.cons.injEq, and_true, Int.natCast_inj] at h
  obtain ⟨rfl, rfl, rfl, rfl, rfl, rfl⟩ := h
  rfl
theorem En.ext_nums {a b : En} (h : a.nums = b.nums) : a = b := by
  obtain ⟨rd, tb, bd, vs, kd, fd, tn, ⟨⟩, ⟨⟩, ⟨⟩, ⟨⟩, a0, a1⟩ := a
  obtain ⟨rd', tb', bd', vs', kd', fd', tn', ⟨⟩, ⟨⟩, ⟨⟩, ⟨⟩, a0', a1'⟩ := b
  simp only [En.nums, Ou.nums, List.cons_append, List.nil_append, List.cons.injEq, and_true, Int.natCast_inj] at h
  obtain ⟨rfl, rfl, rfl, rfl, rfl, rfl, ht, rfl, rfl, rfl, rfl, rfl, rfl, rfl, rfl, rfl, rfl, rfl, rfl, rfl, rfl, rfl, rfl, rfl, rfl, rfl, rfl, rfl, rfl, rfl, rfl, rfl, rfl⟩ := h
  rw [b01_inj ht]
/-- The first number that differs. -/
def lexC : List Int → List Int → Int
  | a :: x, b :: y => if a < b then -1 else if b < a then 1 else lexC x y
  | _, _ => 0
theorem lex_self : ∀ x, lexC x x = 0
  | [] => rfl
  | a :: x => by unfold lexC; rw [if_neg (by omega), if_neg (by omega)]; exact lex_self x
theorem lex_swap : ∀ x y, lexC y x = - lexC x y
  | [], [] => rfl
  | [], _ :: _ => rfl
  | _ :: _, [] => rfl
  | a :: x, b :: y => by
    have := lex_swap x y
    unfold lexC
    by_cases h1 : a < b
    · rw [if_neg (by omega), if_pos h1, if_pos h1]; rfl
    · by_cases h2 : b < a
      · rw [if_pos h2, if_neg h1, if_pos h2]
      · rw [if_neg h2, if_neg h1, if_neg h1, if_neg h2, this]
theorem lex_eq : ∀ x y, x.length = y.length → lexC x y = 0 → x = y
  | [], [], _, _ => rfl
  | a :: x, b :: y, hl, h => by
    unfold lexC at h
    by_cases h1 : a < b
    · rw [if_pos h1] at h; omega
    · by_cases h2 : b < a
      · rw [if_neg h1, if_pos h2] at h; omega
      · rw [if_neg h1, if_neg h2] at h
        rw [show a = b by omega, lex_eq x y (by simpa using hl) h]
theorem lex_range : ∀ x y, lexC x y = -1 ∨ lexC x y = 0 ∨ lexC x y = 1
  | [], [] => .inr (.inl rfl)
  | [], _ :: _ => .inr (.inl rfl)
  | _ :: _, [] => .inr (.inl rfl)
  | a :: x, b :: y => by
    unfold lexC
    split
    · exact .inl rfl
    · split
      · exact .inr (.inr rfl)
      · exact lex_range x y
theorem lex_trans : ∀ x y z, x.length = y.length → y.length = z.length → lexC x y ≤ 0 → lexC y z ≤ 0 → lexC x z ≤ 0
  | [], _, _, _, _, _, _ => by simp [lexC]
  | _ :: _, [], _, h, _, _, _ => by simp at h
  | _ :: _, _ :: _, [], _, h, _, _ => by simp at h
  | a :: x, b :: y, c :: z, h1, h2, h3, h4 => by
    have ih := lex_trans x y z (by simpa using h1) (by simpa using h2)
    unfold lexC at h3 h4 ⊢
    by_cases c1 : a < b
    · by_cases c2 : b < c
      · rw [if_pos (by omega)]; omega
      · by_cases c3 : c < b
        · rw [if_neg c2, if_pos c3] at h4; omega
        · rw [if_pos (by omega)]; omega
    · by_cases c2 : b < a
      · rw [if_neg c1, if_pos c2] at h3; omega
      · rw [if_neg c1, if_neg c2] at h3
        by_cases c3 : b < c
        · rw [if_pos (by omega)]; omega
        · by_cases c4 : c < b
          · rw [if_neg c3, if_pos c4] at h4; omega
          · rw [if_neg c3, if_neg c4] at h4
            rw [if_neg (by omega), if_neg (by omega)]
            exact ih h3 h4
/-- .. of two entries. -/
def cmpE (a b : En) : Int := lexC a.nums b.nums
theorem cmp_self (a : En) : cmpE a a = 0 := lex_self _
theorem cmp_swap (a b : En) : cmpE b a = - cmpE a b := lex_swap _ _
theorem cmp_eq {a b : En} (h : cmpE a b = 0) : a = b := En.ext_nums (lex_eq _ _ rfl h)
theorem cmp_range (a b : En) : cmpE a b = -1 ∨ cmpE a b = 0 ∨ cmpE a b = 1 := lex_range _ _
theorem cmp_trans {a b c : En} (h1 : cmpE a b ≤ 0) (h2 : cmpE b c ≤ 0) : cmpE a c ≤ 0 := lex_trans a.nums b.nums c.nums rfl rfl h1 h2
/-- Of two keys. -/
def cmpK (a b : En) : Int := lexC [a.rd, a.tb, a.bd] [b.rd, b.tb, b.bd]
theorem lex_app : ∀ (x y u v : List Int), x.length = y.length → lexC (x ++ u) (y ++ v) = if lexC x y = 0 then lexC u v else lexC x y
  | [], [], _, _, _ => by simp [lexC]
  | a :: x, b :: y, u, v, h => by
    have ih := lex_app x y u v (by simpa using h)
    have e1 : ∀ p q : List Int, lexC (a :: p) (b :: q) = if a < b then -1 else if b < a then 1 else lexC p q := fun _ _ => rfl
    rw [List.cons_append, List.cons_append, e1, e1]
    by_cases c1 : a < b
    · rw [if_pos c1, if_pos c1, if_neg (by omega)]
    · by_cases c2 : b < a
      · rw [if_neg c1, if_pos c2, if_neg c1, if_pos c2, if_neg (by omega)]
      · rw [if_neg c1, if_neg c2, if_neg c1, if_neg c2]
        exact ih
theorem cmp_key {a b : En} (h : cmpK a b ≠ 0) : cmpE a b = cmpK a b := by
  have := lex_app [a.rd, a.tb, a.bd] [b.rd, b.tb, b.bd] (a.nums.drop 3) (b.nums.drop 3) rfl
  show lexC ([a.rd, a.tb, a.bd] ++ a.nums.drop 3) ([b.rd, b.tb, b.bd] ++ b.nums.drop 3) = _
  rw [this]
  exact if_neg h
/-- Right outcomes. -/
def zeroO : Ou := ⟨0, 0, 0, 0, 0, 0⟩
def Ou.pl (o : Ou) : Bool := if o.lv = 0 then decide (o.dn = 0 ∧ o.rk = 0 ∧ o.dc = 0 ∧ o.tr = 0) else decide (o.lv ≤ 7 ∧ o.dn ≤ 4 ∧ o.rk ≤ 2 ∧ o.dc ≤ 3 ∧ 0 ≤ o.tr ∧ o.tr ≤ 13)
def Ou.isZ (o : Ou) : Bool := decide (o.lv = 0 ∧ o.dn = 0 ∧ o.rk = 0 ∧ o.dc = 0 ∧ o.tr = 0 ∧ o.wt = 0)
def Ou.okW (o : Ou) (lo hi : Int) : Bool := decide (lo ≤ o.wt ∧ o.wt ≤ hi) && o.pl
theorem isZ_iff (o : Ou) : o.isZ = true ↔ o = zeroO := by
  obtain ⟨a, b, c, d, e, f⟩ := o
  unfold Ou.isZ zeroO
  rw [decide_eq_true_eq]
  simp
/-- How many outcomes are weighted, and whether they are right. -/
def wgo : List Ou → Nat → Int → Nat × Bool
  | [], n, s => (n, decide (2 ≤ n ∧ s = 100))
  | o :: l, n, s => if o.wt = 0 then (n, decide (2 ≤ n ∧ s = 100)) else if o.okW 1 99 then wgo l (n + 1) (s + o.wt) else (0, false)
def usedP (e : En) : Nat × Bool :=
  if e.kd = 1 then (if e.o0.okW 0 0 then (1, true) else (0, false))
  else if e.kd = 3 then (if e.o0.okW 0 0 && e.o1.okW 0 0 then (2, true) else (0, false))
  else if e.kd = 2 then wgo e.outs 0 0
  else (0, true)
def awd (n : Int) : Bool := decide (n = 0 ∨ n = 30 ∨ n = 40 ∨ n = 50 ∨ n = 60 ∨ n = 70 ∨ n = 100)
def En.rest (e : En) (n : Nat) : Bool := (e.outs.drop n).all Ou.isZ
def rightE (e : En) : Bool :=
  decide (e.kd ≤ 4 ∧ e.fd ≤ 3) && ((usedP e).2 && (!(decide ((usedP e).1 = 0) && (decide (e.fd ≠ 0) || e.tn)) && (e.rest (usedP e).1 &&
    (if e.kd = 4 then awd e.a0 && awd e.a1 else decide (e.a0 = 0 ∧ e.a1 = 0)))))
/-- .. as the reference has it. -/
def wok (e : En) (n : Nat) : Bool := (e.outs.take n).all (fun o => o.okW 1 99) && (decide (((e.outs.take n).map Ou.wt).sum = 100) && e.rest n)
def rightR (e : En) : Bool :=
  if e.fd > 3 ∨ (e.kd ≠ 4 ∧ (e.a0 ≠ 0 ∨ e.a1 ≠ 0)) then false
  else if e.kd = 0 then decide (e.fd = 0) && (!e.tn && e.rest 0)
  else if e.kd = 1 then e.o0.okW 0 0 && e.rest 1
  else if e.kd = 2 then wok e 2 || (wok e 3 || wok e 4)
  else if e.kd = 3 then e.o0.okW 0 0 && (e.o1.okW 0 0 && e.rest 2)
  else if e.kd = 4 then decide (e.fd = 0) && (!e.tn && (e.rest 0 && (awd e.a0 && awd e.a1)))
  else false
theorem okW_wt {o : Ou} (h : o.okW 1 99 = true) : ¬ o.wt = 0 := by
  unfold Ou.okW at h
  rw [Bool.and_eq_true, decide_eq_true_eq] at h
  omega
theorem z_wt {o : Ou} (h : o.isZ = true) : o.wt = 0 := by
  unfold Ou.isZ at h
  rw [decide_eq_true_eq] at h
  omega
theorem z_nok {o : Ou} (h : o.isZ = true) : o.okW 1 99 = false := by
  have h0 := z_wt h
  cases hk : o.okW 1 99
  · rfl
  · exact absurd h0 (okW_wt hk)
theorem used_lt {e : En} : (usedP e).1 ≤ 4 := by
  unfold usedP
  split
  · split <;> simp
  · split
    · split <;> simp
    · split
      · unfold En.outs
        simp only [wgo]
        repeat' split
        all_goals simp
      · simp
theorem weighted (e : En) (h : e.kd = 2) : ((usedP e).2 && e.rest (usedP e).1) = (wok e 2 || (wok e 3 || wok e 4)) := by
  have e1 : usedP e = wgo e.outs 0 0 := by unfold usedP; rw [if_neg (by omega), if_neg (by omega), if_pos h]
  rw [e1]
  unfold wok En.rest En.outs
  simp only [wgo, List.take_succ_cons, List.take_zero, List.drop_succ_cons, List.drop_zero, List.all_cons, List.all_nil, List.map_cons, List.map_nil, List.sum_cons, List.sum_nil, Bool.and_true]
  by_cases w0 : e.o0.wt = 0
  · rw [if_pos w0, show e.o0.okW 1 99 = false by cases hk : e.o0.okW 1 99; rfl; exact absurd w0 (okW_wt hk)]
    simp
  rw [if_neg w0]
  cases q0 : e.o0.okW 1 99
  · simp
  rw [if_pos rfl]
  by_cases w1 : e.o1.wt = 0
  · rw [if_pos w1, show e.o1.okW 1 99 = false by cases hk : e.o1.okW 1 99; rfl; exact absurd w1 (okW_wt hk)]
    simp
  rw [if_neg w1]
  cases q1 : e.o1.okW 1 99
  · simp
  rw [if_pos rfl]
  have zw2 := z_wt (o := e.o2)
  have zw3 := z_wt (o := e.o3)
  by_cases w2 : e.o2.wt = 0
  · rw [if_pos w2, show e.o2.okW 1 99 = false by cases hk : e.o2.okW 1 99; rfl; exact absurd w2 (okW_wt hk)]
    simp
  rw [if_neg w2]
  have z2 : e.o2.isZ = false := by cases hz : e.o2.isZ; rfl; exact absurd (zw2 hz) w2
  cases q2 : e.o2.okW 1 99
  · simp [z2]
  rw [if_pos rfl]
  by_cases w3 : e.o3.wt = 0
  · rw [if_pos w3, show e.o3.okW 1 99 = false by cases hk : e.o3.okW 1 99; rfl; exact absurd w3 (okW_wt hk)]
    simp [z2, Int.add_assoc]
  rw [if_neg w3]
  have z3 : e.o3.isZ = false := by cases hz : e.o3.isZ; rfl; exact absurd (zw3 hz) w3
  cases q3 : e.o3.okW 1 99
  · simp [z2, z3]
  · simp [z2, z3, Int.add_assoc]
theorem right_eq (e : En) : rightR e = rightE e := by
  have hw := weighted e
  unfold rightR rightE
  by_cases h0 : e.fd > 3 ∨ (e.kd ≠ 4 ∧ (e.a0 ≠ 0 ∨ e.a1 ≠ 0))
  · rw [if_pos h0]
    grind
  · rw [if_neg h0]
    by_cases k2 : e.kd = 2
    · have hw := hw k2
      have hn : (usedP e).2 = true → (usedP e).1 ≠ 0 := by
        have e1 : usedP e = wgo e.outs 0 0 := by unfold usedP; rw [if_neg (by omega), if_neg (by omega), if_pos k2]
        rw [e1]
        unfold En.outs
        simp only [wgo]
        grind
      grind
    · have u : usedP e = if e.kd = 1 then (if e.o0.okW 0 0 then (1, true) else (0, false)) else if e.kd = 3 then (if e.o0.okW 0 0 && e.o1.okW 0 0 then (2, true) else (0, false)) else (0, true) := by
        unfold usedP; rw [if_neg k2]
      rw [u]
      grind
end Go.Proofs.YtpkmibmombpjpaaGreatDoor
