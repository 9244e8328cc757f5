/- Plain: the reference's reading of an entry: it reads what the program reads. No program. -/
import Derived.Test.YtpkmibmombpjpaaGreatDoorEtP
import Derived.WalkSmall
namespace Go.Proofs.YtpkmibmombpjpaaGreatDoor
open Go Go.RowKit

/-- A text that is read from the left. -/
structure Rd where
  t : List UInt8
  bad : Bool
def rskip (r : Rd) (s : List UInt8) : Rd := if s.isPrefixOf r.t then ⟨r.t.drop s.length, r.bad⟩ else ⟨r.t, true⟩
def rhas (r : Rd) (s : List UInt8) : Bool := !(rskip r s).bad
def dstep (s n : Int) (c : UInt8) : Int := wrap64 (wrap64 (10 * n) + s * ((c.toNat : Int) - 48))
def rfirst (t : List UInt8) : Nat := if t.head? = some 45 then 1 else 0
def rsign (t : List UInt8) : Int := if t.head? = some 45 then -1 else 1
def rdigs (t : List UInt8) : List UInt8 := (t.drop (rfirst t)).takeWhile isD
def rval (t : List UInt8) : Int := (rdigs t).foldl (dstep (rsign t)) 0
def rlen (t : List UInt8) : Nat := rfirst t + (rdigs t).length
def rok (t : List UInt8) : Bool := !(decide (19 < (rdigs t).length) || decide (Lib.itoa (rval t) ≠ t.take (rlen t)))
def rnumR (r : Rd) : Rd := if rok r.t then ⟨r.t.drop (rlen r.t), r.bad⟩ else ⟨r.t, true⟩
def rnumV (r : Rd) : Int := if rok r.t then rval r.t else 0
def byOk (n : Int) : Bool := decide (0 ≤ n ∧ n ≤ 255)
def rbyteR (r : Rd) : Rd := if byOk (rnumV r) then rnumR r else ⟨(rnumR r).t, true⟩
def rbyteV (r : Rd) : Nat := (rnumV r % 256).toNat
theorem takeWhile_app {p : UInt8 → Bool} : ∀ (l r : List UInt8), (∀ c ∈ l, p c = true) → (∀ c, r.head? = some c → p c = false) → (l ++ r).takeWhile p = l
  | [], r, _, h => by
    cases r with
    | nil => rfl
    | cons c r => rw [List.nil_append, List.takeWhile_cons, h c rfl]; rfl
  | c :: l, r, h1, h2 => by
    rw [List.cons_append, List.takeWhile_cons, h1 c (by simp)]
    simp only [if_true]
    rw [takeWhile_app l r (fun x hx => h1 x (List.mem_cons_of_mem _ hx)) h2]
theorem nDigits_le : ∀ (k u : Nat), 0 < k → u < 10 ^ k → Lib.nDigits u ≤ k
  | 0, _, h, _ => by omega
  | k + 1, u, _, h => by
    by_cases hu : u < 10
    · rw [Lib.nDigits_small hu]; omega
    · rw [Lib.nDigits_big hu]
      rw [Nat.pow_succ] at h
      have h0 : 0 < k := by
        rcases Nat.eq_zero_or_pos k with rfl | h0
        · simp at h; omega
        · exact h0
      have := nDigits_le k (u / 10) h0 (by omega)
      omega
theorem fold_dec (s : Int) (B : Nat) (hw : ∀ x : Nat, x ≤ B → wrap64 (s * x) = s * x) : ∀ (u acc : Nat), acc * 10 ^ Lib.nDigits u + u ≤ B → (Lib.decDigits u).foldl (dstep s) (s * (acc : Int)) = s * ((acc * 10 ^ Lib.nDigits u + u : Nat) : Int) := by
  have step : ∀ (q d : Nat), d < 10 → q * 10 + d ≤ B → dstep s (s * (q : Int)) (UInt8.ofNat (48 + d)) = s * ((q * 10 + d : Nat) : Int) := by
    intro q d hd hq
    unfold dstep
    rw [dig_val d hd]
    have e1 : 10 * (s * (q : Int)) = s * ((q * 10 : Nat) : Int) := by
      rw [Int.natCast_mul, Int.mul_left_comm, Int.mul_comm 10 (q : Int)]; rfl
    rw [e1, hw _ (by omega), show (((48 + d : Nat) : Int) - 48) = (d : Int) by omega, ← Int.mul_add, ← Int.natCast_add, hw _ hq]
  intro u
  induction u using Nat.strongRecOn with
  | _ u ih =>
    intro acc h
    by_cases hu : u < 10
    · rw [Lib.decDigits, dif_pos hu, Lib.nDigits_small hu] at *
      rw [Nat.pow_one] at *
      exact step acc u hu h
    · rw [Lib.nDigits_big hu, Nat.pow_succ] at *
      have e : acc * (10 ^ Lib.nDigits (u / 10) * 10) + u = (acc * 10 ^ Lib.nDigits (u / 10) + u / 10) * 10 + u % 10 := by
        rw [Nat.add_mul, Nat.mul_assoc]; omega
      rw [e] at h ⊢
      rw [Lib.decDigits, dif_neg hu, List.foldl_append, ih (u / 10) (by omega) acc (by omega)]
      exact step _ (u % 10) (Nat.mod_lt _ (by omega)) h
theorem wrap_in {n : Int} (h : inI n) : wrap64 n = n := by unfold inI at h; unfold wrap64; omega
theorem itoa_read (n : Int) (hn : inI n) (r : List UInt8) (hr : ∀ c, r.head? = some c → isD c = false) :
    rfirst (Lib.itoa n ++ r) + (rdigs (Lib.itoa n ++ r)).length = (Lib.itoa n).length ∧ rval (Lib.itoa n ++ r) = n ∧ (rdigs (Lib.itoa n ++ r)).length ≤ 19 := by
  have hn' := hn
  unfold inI at hn'
  by_cases h : n < 0
  · have e : Lib.itoa n = 45 :: Lib.decDigits n.natAbs := by unfold Lib.itoa; rw [if_pos h]
    have e1 : rfirst (Lib.itoa n ++ r) = 1 := by rw [e]; rfl
    have e2 : rsign (Lib.itoa n ++ r) = -1 := by rw [e]; rfl
    have e3 : rdigs (Lib.itoa n ++ r) = Lib.decDigits n.natAbs := by
      unfold rdigs
      rw [e1, e]
      exact takeWhile_app _ _ (dec_dig _) hr
    refine ⟨?_, ?_, ?_⟩
    · rw [e1, e3, e, List.length_cons]; omega
    · unfold rval
      rw [e2, e3]
      have := fold_dec (-1) 9223372036854775808 (fun x hx => wrap_in ⟨by omega, by omega⟩) n.natAbs 0 (by omega)
      rw [Nat.zero_mul, Nat.zero_add, show (-1 : Int) * ((0 : Nat) : Int) = 0 from rfl] at this
      rw [this]
      omega
    · rw [e3, Lib.decDigits_length]
      exact nDigits_le 19 _ (by omega) (by omega)
  · have e : Lib.itoa n = Lib.decDigits n.toNat := by unfold Lib.itoa; rw [if_neg h]
    obtain ⟨c, q, hc, h1, h2⟩ := dec_head n.toNat
    have hne : ¬ (Lib.itoa n ++ r).head? = some 45 := by
      rw [e, hc]
      simp only [List.cons_append, List.head?_cons, Option.some.injEq]
      rintro rfl
      revert h1
      decide
    have e1 : rfirst (Lib.itoa n ++ r) = 0 := by unfold rfirst; rw [if_neg hne]
    have e2 : rsign (Lib.itoa n ++ r) = 1 := by unfold rsign; rw [if_neg hne]
    have e3 : rdigs (Lib.itoa n ++ r) = Lib.decDigits n.toNat := by
      unfold rdigs
      rw [e1, e, List.drop_zero]
      exact takeWhile_app _ _ (dec_dig _) hr
    refine ⟨?_, ?_, ?_⟩
    · rw [e1, e3, e]; omega
    · unfold rval
      rw [e2, e3]
      have := fold_dec 1 9223372036854775807 (fun x hx => wrap_in ⟨by omega, by omega⟩) n.toNat 0 (by omega)
      rw [Nat.zero_mul, Nat.zero_add, show (1 : Int) * ((0 : Nat) : Int) = 0 from rfl] at this
      rw [this]
      omega
    · rw [e3, Lib.decDigits_length]
      exact nDigits_le 19 _ (by omega) (by omega)
theorem num_read (n : Int) (hn : inI n) (r : List UInt8) (b : Bool) (hr : ∀ c, r.head? = some c → isD c = false) : rnumR ⟨Lib.itoa n ++ r, b⟩ = ⟨r, b⟩ ∧ rnumV ⟨Lib.itoa n ++ r, b⟩ = n := by
  obtain ⟨h1, h2, h3⟩ := itoa_read n hn r hr
  have hl : rlen (Lib.itoa n ++ r) = (Lib.itoa n).length := h1
  have hk : rok (Lib.itoa n ++ r) = true := by
    unfold rok
    rw [hl, h2, List.take_left, decide_eq_false (by omega), decide_eq_false (by simp)]
    rfl
  unfold rnumR rnumV
  simp only [hk, if_true, hl, h2, List.drop_left, and_self]
theorem byte_read (u : Nat) (hu : u < 256) (r : List UInt8) (b : Bool) (hr : ∀ c, r.head? = some c → isD c = false) : rbyteR ⟨Lib.itoa (u : Int) ++ r, b⟩ = ⟨r, b⟩ ∧ rbyteV ⟨Lib.itoa (u : Int) ++ r, b⟩ = u := by
  obtain ⟨h1, h2⟩ := num_read (u : Int) ⟨by omega, by omega⟩ r b hr
  unfold rbyteR rbyteV
  rw [h1, h2]
  refine ⟨?_, by omega⟩
  rw [if_pos]
  unfold byOk
  exact decide_eq_true ⟨by omega, by omega⟩
theorem skip_read (s r : List UInt8) (b : Bool) : rskip ⟨s ++ r, b⟩ s = ⟨r, b⟩ := by
  unfold rskip
  rw [if_pos (by simp)]
  simp
theorem next {q : Rd} {s a : List UInt8} (h : q = ⟨s ++ a, false⟩) : rskip q s = ⟨a, false⟩ := by rw [h]; exact skip_read s a false
/-- An outcome. -/
def rd1 (r : Rd) : Rd := rbyteR r
def rd2 (r : Rd) : Rd := rbyteR (rskip (rd1 r) [46])
def rd3 (r : Rd) : Rd := rbyteR (rskip (rd2 r) [46])
def rd4 (r : Rd) : Rd := rbyteR (rskip (rd3 r) [46])
def rd5 (r : Rd) : Rd := rnumR (rskip (rd4 r) [46])
def routR (r : Rd) : Rd := if rhas (rd5 r) [58] then rnumR (rskip (rd5 r) [58]) else rd5 r
def routV (r : Rd) : Ou := ⟨rbyteV r, rbyteV (rskip (rd1 r) [46]), rbyteV (rskip (rd2 r) [46]), rbyteV (rskip (rd3 r) [46]), rnumV (rskip (rd4 r) [46]), if rhas (rd5 r) [58] then rnumV (rskip (rd5 r) [58]) else 0⟩
theorem dot_nd (r : List UInt8) : ∀ c, (46 :: r).head? = some c → isD c = false := by
  intro c hc
  rw [List.head?_cons, Option.some.injEq] at hc
  subst hc; decide
theorem colon_nd (r : List UInt8) : ∀ c, (58 :: r).head? = some c → isD c = false := by
  intro c hc
  rw [List.head?_cons, Option.some.injEq] at hc
  subst hc; decide
/-- What may follow a word: nothing, or a space. -/
def Ends (r : List UInt8) : Prop := r = [] ∨ ∃ q, r = 32 :: q
theorem ends_nd {r : List UInt8} (h : Ends r) : ∀ c, r.head? = some c → isD c = false := by
  rcases h with rfl | ⟨q, rfl⟩
  · intro c hc; cases hc
  · intro c hc
    rw [List.head?_cons, Option.some.injEq] at hc
    subst hc; decide
theorem has_no {c d : UInt8} {r : List UInt8} {b : Bool} (h : r = [] ∨ ∃ q, r = d :: q) (hd : c ≠ d) (s : List UInt8) : rhas ⟨r, b⟩ (c :: s) = false := by
  unfold rhas rskip
  have : (c :: s).isPrefixOf r = false := by
    rcases h with rfl | ⟨q, rfl⟩
    · rfl
    · rw [List.isPrefixOf]
      have : (c == d) = false := by simpa using hd
      rw [this]; rfl
  rw [this]
  rfl
theorem has_yes (s r : List UInt8) : rhas ⟨s ++ r, false⟩ s = true := by
  unfold rhas
  rw [skip_read]
  rfl
theorem out_read (o : Ou) (ho : o.In) (r : List UInt8) (hr : Ends r) : routR ⟨o.txt ++ r, false⟩ = ⟨r, false⟩ ∧ routV ⟨o.txt ++ r, false⟩ = o := by
  obtain ⟨tail, ht, hh⟩ : ∃ tail, o.txt ++ r = Lib.itoa o.lv ++ ([46] ++ (Lib.itoa o.dn ++ ([46] ++ (Lib.itoa o.rk ++ ([46] ++ (Lib.itoa o.dc ++ ([46] ++ (Lib.itoa o.tr ++ tail)))))))) ∧ ((o.wt = 0 ∧ tail = r) ∨ (o.wt ≠ 0 ∧ tail = [58] ++ (Lib.itoa o.wt ++ r))) := by
    by_cases h0 : o.wt = 0
    · exact ⟨r, by unfold Ou.txt; rw [if_pos h0]; simp [jn, Ou.parts], .inl ⟨h0, rfl⟩⟩
    · exact ⟨_, by unfold Ou.txt; rw [if_neg h0]; simp [jn, Ou.parts], .inr ⟨h0, rfl⟩⟩
  have hnd : ∀ c, tail.head? = some c → isD c = false := by
    rcases hh with ⟨_, rfl⟩ | ⟨_, rfl⟩
    · exact ends_nd hr
    · exact colon_nd _
  rw [ht]
  have b1 := byte_read o.lv ho.lv ([46] ++ (Lib.itoa o.dn ++ ([46] ++ (Lib.itoa o.rk ++ ([46] ++ (Lib.itoa o.dc ++ ([46] ++ (Lib.itoa o.tr ++ tail)))))))) false (dot_nd _)
  have b2 := byte_read o.dn ho.dn ([46] ++ (Lib.itoa o.rk ++ ([46] ++ (Lib.itoa o.dc ++ ([46] ++ (Lib.itoa o.tr ++ tail)))))) false (dot_nd _)
  have b3 := byte_read o.rk ho.rk ([46] ++ (Lib.itoa o.dc ++ ([46] ++ (Lib.itoa o.tr ++ tail)))) false (dot_nd _)
  have b4 := byte_read o.dc ho.dc ([46] ++ (Lib.itoa o.tr ++ tail)) false (dot_nd _)
  have b5 := num_read o.tr ho.tr tail false hnd
  have c1 : rd1 ⟨Lib.itoa o.lv ++ ([46] ++ (Lib.itoa o.dn ++ ([46] ++ (Lib.itoa o.rk ++ ([46] ++ (Lib.itoa o.dc ++ ([46] ++ (Lib.itoa o.tr ++ tail)))))))), false⟩ = _ := b1.1
  have c2 : rd2 ⟨Lib.itoa o.lv ++ ([46] ++ (Lib.itoa o.dn ++ ([46] ++ (Lib.itoa o.rk ++ ([46] ++ (Lib.itoa o.dc ++ ([46] ++ (Lib.itoa o.tr ++ tail)))))))), false⟩ = _ := (congrArg rbyteR (next c1)).trans b2.1
  have c3 : rd3 ⟨Lib.itoa o.lv ++ ([46] ++ (Lib.itoa o.dn ++ ([46] ++ (Lib.itoa o.rk ++ ([46] ++ (Lib.itoa o.dc ++ ([46] ++ (Lib.itoa o.tr ++ tail)))))))), false⟩ = _ := (congrArg rbyteR (next c2)).trans b3.1
  have c4 : rd4 ⟨Lib.itoa o.lv ++ ([46] ++ (Lib.itoa o.dn ++ ([46] ++ (Lib.itoa o.rk ++ ([46] ++ (Lib.itoa o.dc ++ ([46] ++ (Lib.itoa o.tr ++ tail)))))))), false⟩ = _ := (congrArg rbyteR (next c3)).trans b4.1
  have c5 : rd5 ⟨Lib.itoa o.lv ++ ([46] ++ (Lib.itoa o.dn ++ ([46] ++ (Lib.itoa o.rk ++ ([46] ++ (Lib.itoa o.dc ++ ([46] ++ (Lib.itoa o.tr ++ tail)))))))), false⟩ = _ := (congrArg rnumR (next c4)).trans b5.1
  unfold routR routV
  rw [c1, c2, c3, c4, c5, skip_read, skip_read, skip_read, skip_read, b1.2, b2.2, b3.2, b4.2, b5.2]
  rcases hh with ⟨h0, rfl⟩ | ⟨h0, rfl⟩
  · have hn : rhas ⟨tail, false⟩ [58] = false := has_no hr (by decide) []
    rw [hn]
    refine ⟨rfl, ?_⟩
    rw [← h0]
    rfl
  · have b6 := num_read o.wt ho.wt r false (ends_nd hr)
    rw [has_yes, skip_read, b6.1, b6.2]
    exact ⟨rfl, rfl⟩
/-- Outcomes while a space comes next. -/
def routsR : Nat → Rd → Rd
  | 0, r => r
  | n + 1, r => if rhas r [32] then routsR n (routR (rskip r [32])) else r
def routsV : Nat → Rd → List Ou
  | 0, _ => []
  | n + 1, r => if rhas r [32] then routV (rskip r [32]) :: routsV n (routR (rskip r [32])) else []
theorem ends_map (l : List Ou) : Ends ((l.map Ou.txt).flatMap (fun x => 32 :: x)) := by
  cases l with
  | nil => exact .inl rfl
  | cons o l => exact .inr ⟨_, rfl⟩
theorem outs_read : ∀ (n : Nat) (l : List Ou), l.length ≤ n → (∀ o ∈ l, o.In) → routsR n ⟨(l.map Ou.txt).flatMap (fun x => 32 :: x), false⟩ = ⟨[], false⟩ ∧ routsV n ⟨(l.map Ou.txt).flatMap (fun x => 32 :: x), false⟩ = l
  | 0, [], _, _ => ⟨rfl, rfl⟩
  | 0, _ :: _, h, _ => by simp at h
  | n + 1, [], _, _ => by
    have hn : rhas ⟨(([] : List Ou).map Ou.txt).flatMap (fun x => 32 :: x), false⟩ [32] = false := has_no (d := 0) (.inl rfl) (by decide) []
    unfold routsR routsV
    rw [hn]
    exact ⟨rfl, rfl⟩
  | n + 1, o :: l, h, hi => by
    have ih := outs_read n l (by simpa using h) (fun x hx => hi x (List.mem_cons_of_mem _ hx))
    have e : ((o :: l).map Ou.txt).flatMap (fun x => 32 :: x) = [32] ++ (o.txt ++ (l.map Ou.txt).flatMap (fun x => 32 :: x)) := by simp
    have ho := out_read o (hi o (by simp)) _ (ends_map l)
    unfold routsR routsV
    rw [e, has_yes, skip_read, ho.1, ho.2, ih.1, ih.2]
    exact ⟨rfl, rfl⟩
/-- The kind whose word comes next. -/
def rkind (r : Rd) : Nat := if rhas r (32 :: wAward) then 4 else if rhas r (32 :: wSplit) then 3 else if rhas r (32 :: wWeighted) then 2 else if rhas r (32 :: wPlayed) then 1 else 0
theorem kind_read (k : Nat) (hk : k ≤ 4) (r : List UInt8) : rkind ⟨(32 :: kindW k) ++ r, false⟩ = k := by
  rcases (by omega : k = 0 ∨ k = 1 ∨ k = 2 ∨ k = 3 ∨ k = 4) with rfl | rfl | rfl | rfl | rfl <;>
    simp [rkind, rhas, rskip, kindW, wVoid, wPlayed, wWeighted, wSplit, wAward, List.isPrefixOf]
def ra (s : List UInt8) : Rd := rnumR ⟨s, false⟩
def rb (s : List UInt8) : Rd := rnumR (rskip (ra s) [32])
def rc (s : List UInt8) : Rd := rnumR (rskip (rb s) [32])
def rdd (s : List UInt8) : Rd := rnumR (rskip (rc s) [32])
/-- Behind the word of the kind. -/
def rk (s : List UInt8) : Rd := rskip (rdd s) (32 :: kindW (rkind (rdd s)))
def rx (s : List UInt8) : Rd := rnumR (rskip (rk s) [32])
def ry (s : List UInt8) : Rd := rnumR (rskip (rx s) [32])
def rf (s : List UInt8) : Rd := rbyteR (rskip (rk s) [32])
def rt (s : List UInt8) : Bool := rhas (rf s) (32 :: wTurned)
def rw_ (s : List UInt8) : Rd := rskip (rf s) (32 :: wayW (rt s))
def rEnd (s : List UInt8) : Rd := if rkind (rdd s) = 4 then ry s else if rkind (rdd s) = 0 then rk s else routsR 4 (rw_ s)
def rEnt (s : List UInt8) : En :=
  if rkind (rdd s) = 4 then ⟨rnumV ⟨s, false⟩, rnumV (rskip (ra s) [32]), rnumV (rskip (rb s) [32]), rnumV (rskip (rc s) [32]), 4, 0, false, zeroO, zeroO, zeroO, zeroO, rnumV (rskip (rk s) [32]), rnumV (rskip (rx s) [32])⟩
  else if rkind (rdd s) = 0 then ⟨rnumV ⟨s, false⟩, rnumV (rskip (ra s) [32]), rnumV (rskip (rb s) [32]), rnumV (rskip (rc s) [32]), 0, 0, false, zeroO, zeroO, zeroO, zeroO, 0, 0⟩
  else ⟨rnumV ⟨s, false⟩, rnumV (rskip (ra s) [32]), rnumV (rskip (rb s) [32]), rnumV (rskip (rc s) [32]), rkind (rdd s), rbyteV (rskip (rk s) [32]), rt s,
    (routsV 4 (rw_ s)).getD 0 zeroO, (routsV 4 (rw_ s)).getD 1 zeroO, (routsV 4 (rw_ s)).getD 2 zeroO, (routsV 4 (rw_ s)).getD 3 zeroO, 0, 0⟩
def rreadF (s : List UInt8) : Option En := if (rEnd s).bad = false ∧ rightE (rEnt s) = true ∧ (rEnt s).txt = s then some (rEnt s) else none
theorem space_nd (r : List UInt8) : ∀ c, ([32] ++ r).head? = some c → isD c = false := ends_nd (.inr ⟨r, rfl⟩)
theorem way_read (t : Bool) (r : List UInt8) : rhas ⟨(32 :: wayW t) ++ r, false⟩ (32 :: wTurned) = t := by
  cases t
  · simp [rhas, rskip, wayW, wStraight, wTurned, List.isPrefixOf]
  · exact has_yes _ _
/-- The text of a right entry is read by the reference as it was. -/
theorem rguess_txt (e : En) (hi : e.In) (h : rightE e = true) : rEnd e.txt = ⟨[], false⟩ ∧ rEnt e.txt = e := by
  obtain ⟨h1, h2, h3, h4, h5, h6⟩ := right_parts h
  obtain ⟨n0, n1, n3, n2, n4⟩ := num_kind h
  obtain ⟨T, hT⟩ : ∃ T, ((if e.num = 0 then [] else [Lib.itoa e.fd, wayW e.tn]) ++ ((e.outs.take e.num).map Ou.txt ++ (if e.kd = 4 then [Lib.itoa e.a0, Lib.itoa e.a1] else []))).flatMap (fun x => 32 :: x) = T := ⟨_, rfl⟩
  have hs : e.txt = Lib.itoa e.rd ++ ([32] ++ (Lib.itoa e.tb ++ ([32] ++ (Lib.itoa e.bd ++ ([32] ++ (Lib.itoa e.vs ++ ((32 :: kindW e.kd) ++ T))))))) := by
    unfold En.txt En.words En.head
    rw [← hT]
    simp [sp]
  rw [hs]
  have b1 := num_read e.rd hi.rd ([32] ++ (Lib.itoa e.tb ++ ([32] ++ (Lib.itoa e.bd ++ ([32] ++ (Lib.itoa e.vs ++ ((32 :: kindW e.kd) ++ T))))))) false (space_nd _)
  have b2 := num_read e.tb hi.tb ([32] ++ (Lib.itoa e.bd ++ ([32] ++ (Lib.itoa e.vs ++ ((32 :: kindW e.kd) ++ T))))) false (space_nd _)
  have b3 := num_read e.bd hi.bd ([32] ++ (Lib.itoa e.vs ++ ((32 :: kindW e.kd) ++ T))) false (space_nd _)
  have b4 := num_read e.vs hi.vs ((32 :: kindW e.kd) ++ T) false (ends_nd (.inr ⟨_, rfl⟩))
  generalize hS : Lib.itoa e.rd ++ ([32] ++ (Lib.itoa e.tb ++ ([32] ++ (Lib.itoa e.bd ++ ([32] ++ (Lib.itoa e.vs ++ ((32 :: kindW e.kd) ++ T))))))) = S at *
  have c1 : ra S = _ := b1.1
  have c2 : rb S = _ := (congrArg rnumR (next c1)).trans b2.1
  have c3 : rc S = _ := (congrArg rnumR (next c2)).trans b3.1
  have c4 : rdd S = _ := (congrArg rnumR (next c3)).trans b4.1
  have hk : rkind (rdd S) = e.kd := by rw [c4]; exact kind_read _ h1 _
  have ck : rk S = ⟨T, false⟩ := by unfold rk; rw [hk, c4, skip_read]
  have z : ∀ i, i < 4 → (e.outs.take e.num).getD i zeroO = e.ou i := fun i hi4 => take_getD e e.num i hi4 h5
  unfold rEnd rEnt
  rw [hk, c1, c2, c3, skip_read, skip_read, skip_read, b1.2, b2.2, b3.2, b4.2]
  by_cases k4 : e.kd = 4
  · have hn := n0 (.inr k4)
    have hz := fun i hi4 => h5 i (by omega) hi4
    obtain ⟨a, b⟩ := h4 hn
    rw [if_pos k4, if_pos k4]
    have hT2 : T = [32] ++ (Lib.itoa e.a0 ++ ([32] ++ (Lib.itoa e.a1 ++ []))) := by
      rw [← hT, if_pos hn, hn, if_pos k4]; simp
    have d1 := num_read e.a0 hi.a0 ([32] ++ (Lib.itoa e.a1 ++ [])) false (space_nd _)
    have d2 := num_read e.a1 hi.a1 [] false (ends_nd (.inl rfl))
    have cx : rx S = _ := (congrArg rnumR (next (ck.trans (by rw [hT2])))).trans d1.1
    have cy : ry S = _ := (congrArg rnumR (next cx)).trans d2.1
    rw [cy, ck, cx, hT2, skip_read, skip_read, d1.2, d2.2]
    exact ⟨rfl, En.ext' rfl rfl rfl rfl k4.symm a.symm b.symm (hz 0 (by omega)).symm (hz 1 (by omega)).symm (hz 2 (by omega)).symm (hz 3 (by omega)).symm rfl rfl⟩
  · obtain ⟨c, d⟩ := h6 k4
    rw [if_neg k4, if_neg k4]
    by_cases k0 : e.kd = 0
    · have hn := n0 (.inl k0)
      have hz := fun i hi4 => h5 i (by omega) hi4
      obtain ⟨a, b⟩ := h4 hn
      have hT2 : T = [] := by rw [← hT, if_pos hn, hn, if_neg k4]; simp
      rw [if_pos k0, if_pos k0, ck, hT2]
      exact ⟨rfl, En.ext' rfl rfl rfl rfl k0.symm a.symm b.symm (hz 0 (by omega)).symm (hz 1 (by omega)).symm (hz 2 (by omega)).symm (hz 3 (by omega)).symm c.symm d.symm⟩
    · have hn : e.num ≠ 0 := by
        rcases (by omega : e.kd = 1 ∨ e.kd = 2 ∨ e.kd = 3) with hk | hk | hk
        · rw [n1 hk]; decide
        · have := n2 hk; omega
        · rw [n3 hk]; decide
      have hT2 : T = [32] ++ (Lib.itoa (e.fd : Int) ++ ((32 :: wayW e.tn) ++ ((e.outs.take e.num).map Ou.txt).flatMap (fun x => 32 :: x))) := by
        rw [← hT, if_neg hn, if_neg k4]; simp
      have d1 := byte_read e.fd hi.fd ((32 :: wayW e.tn) ++ ((e.outs.take e.num).map Ou.txt).flatMap (fun x => 32 :: x)) false (ends_nd (.inr ⟨_, rfl⟩))
      have cf : rf S = _ := (congrArg rbyteR (next (ck.trans (by rw [hT2])))).trans d1.1
      have ct : rt S = e.tn := by unfold rt; rw [cf]; exact way_read _ _
      have cw : rw_ S = ⟨((e.outs.take e.num).map Ou.txt).flatMap (fun x => 32 :: x), false⟩ := by unfold rw_; rw [ct, cf, skip_read]
      have ho := outs_read 4 (e.outs.take e.num) (by rw [List.length_take]; omega) (fun o ho => outs_in hi o (List.mem_of_mem_take ho))
      rw [if_neg k0, if_neg k0, cw, ho.1, ho.2, ck, hT2, skip_read, d1.2, ct]
      exact ⟨rfl, En.ext' rfl rfl rfl rfl rfl rfl rfl (z 0 (by omega)) (z 1 (by omega)) (z 2 (by omega)) (z 3 (by omega)) c.symm d.symm⟩
theorem wrap_inI (n : Int) : inI (wrap64 n) := by unfold inI wrap64; omega
theorem fold_in (s : Int) : ∀ (l : List UInt8) (n : Int), inI n → inI (l.foldl (dstep s) n)
  | [], _, h => h
  | c :: l, n, _ => by rw [List.foldl_cons]; exact fold_in s l _ (wrap_inI _)
theorem rnumV_in (r : Rd) : inI (rnumV r) := by
  unfold rnumV
  split
  · exact fold_in _ _ 0 ⟨by decide, by decide⟩
  · exact ⟨by decide, by decide⟩
theorem rbyteV_lt (r : Rd) : rbyteV r < 256 := by unfold rbyteV; omega
attribute [irreducible] rnumV rnumR rbyteV rbyteR rskip rhas
theorem routV_in (r : Rd) : (routV r).In := by
  unfold routV
  refine ⟨rbyteV_lt _, rbyteV_lt _, rbyteV_lt _, rbyteV_lt _, rnumV_in _, ?_⟩
  show inI (if _ then _ else _)
  split
  · exact rnumV_in _
  · exact ⟨by decide, by decide⟩
attribute [irreducible] routV routR
theorem routsV_in : ∀ (n : Nat) (r : Rd), ∀ o ∈ routsV n r, o.In
  | 0, _, o, ho => by simp [routsV] at ho
  | n + 1, r, o, ho => by
    unfold routsV at ho
    split at ho
    · rcases List.mem_cons.1 ho with rfl | ho
      · exact routV_in _
      · exact routsV_in n _ o ho
    · simp at ho
theorem rkind_le (r : Rd) : rkind r ≤ 4 := by
  unfold rkind
  repeat' split
  all_goals omega
attribute [irreducible] rkind routsR routsV rdd rk rx ry rf rt rw_
theorem rEnt_in (s : List UInt8) : (rEnt s).In := by
  have i0 : inI 0 := ⟨by decide, by decide⟩
  have hk := rkind_le (rdd s)
  have hl := routsV_in 4 (rw_ s)
  unfold rEnt
  split
  · exact ⟨rnumV_in _, rnumV_in _, rnumV_in _, rnumV_in _, (show (4 : Nat) < 256 by decide), (show (0 : Nat) < 256 by decide), zeroO_in, zeroO_in, zeroO_in, zeroO_in, rnumV_in _, rnumV_in _⟩
  · split
    · exact ⟨rnumV_in _, rnumV_in _, rnumV_in _, rnumV_in _, (show (0 : Nat) < 256 by decide), (show (0 : Nat) < 256 by decide), zeroO_in, zeroO_in, zeroO_in, zeroO_in, i0, i0⟩
    · exact ⟨rnumV_in _, rnumV_in _, rnumV_in _, rnumV_in _, by show rkind (rdd s) < 256; omega, rbyteV_lt _, getD_in hl 0, getD_in hl 1, getD_in hl 2, getD_in hl 3, i0, i0⟩
/-- The reference reads what the program reads. -/
theorem rread_eq (s : List UInt8) : rreadF s = readW s := by
  cases hw : readW s with
  | some e =>
    obtain ⟨h1, h2, rfl⟩ := readW_is hw
    obtain ⟨g1, g2⟩ := rguess_txt e h1 h2
    unfold rreadF
    rw [g1, g2, if_pos ⟨rfl, h2, rfl⟩]
  | none =>
    unfold rreadF
    rw [if_neg]
    rintro ⟨h1, h2, h3⟩
    have : IsE s (rEnt s) := ⟨rEnt_in s, h2, h3⟩
    rw [read_is this] at hw
    cases hw
end Go.Proofs.YtpkmibmombpjpaaGreatDoor
