/- Plain: numbers and pieces of strings; the text of an entry is read as it was. No program. -/
import Derived.Test.YtpkmibmombpjpaaGreatDoorEnP
import Derived.Lib.ItoaLen
import Derived.Lib.AtoiAll
import Derived.Lib.ParseIntB
import Derived.Lib.SplitLaws
import Derived.Lib.CutLaws
import Derived.Lib.IndexBytes
namespace Go.Proofs.YtpkmibmombpjpaaGreatDoor
open Go

/-- Words and the spaces between them. -/
def sp : List (List UInt8) → List UInt8
  | [] => []
  | w :: l => w ++ l.flatMap (fun x => 32 :: x)
theorem sp_one (w : List UInt8) : sp [w] = w := by simp [sp]
theorem sp_two (w v : List UInt8) (l : List (List UInt8)) : sp (w :: v :: l) = w ++ 32 :: sp (v :: l) := by simp [sp]
theorem sp_snoc (l : List (List UInt8)) (h : l ≠ []) (x : List UInt8) : sp (l ++ [x]) = sp l ++ 32 :: x := by
  cases l with
  | nil => exact absurd rfl h
  | cons w l => simp [sp, List.flatMap_append]
theorem join_sp (l : List (List UInt8)) : Lib.join l [32] = sp l := by
  cases l with
  | nil => rfl
  | cons w l =>
    rw [Lib.join_cons]
    unfold Lib.joinTail
    show _ = w ++ l.flatMap (fun x => 32 :: x)
    rw [List.flatMap_def]
    rfl
/-- Digits. -/
def isD (c : UInt8) : Bool := decide (48 ≤ c.toNat ∧ c.toNat ≤ 57)
theorem dig_val (d : Nat) (h : d < 10) : (UInt8.ofNat (48 + d)).toNat = 48 + d := by
  rw [UInt8.toNat_ofNat']; omega
theorem dec_dig : ∀ u, ∀ c ∈ Lib.decDigits u, isD c = true := by
  intro u
  induction u using Nat.strongRecOn with
  | _ u ih =>
    intro c hc
    rw [Lib.decDigits] at hc
    have key : ∀ d, d < 10 → isD (UInt8.ofNat (48 + d)) = true := fun d hd => by
      unfold isD
      rw [dig_val d hd]
      exact decide_eq_true (by omega)
    split at hc
    · rename_i h
      rw [List.mem_singleton.1 hc]
      exact key u h
    · rename_i h
      rcases List.mem_append.1 hc with hc | hc
      · exact ih (u / 10) (by omega) c hc
      · rw [List.mem_singleton.1 hc]
        exact key _ (Nat.mod_lt _ (by omega))
theorem dec_ne (u : Nat) : Lib.decDigits u ≠ [] := by
  intro h
  have h1 := congrArg List.length h
  rw [Lib.decDigits_length, List.length_nil] at h1
  have := Lib.nDigits_pos u
  omega
theorem parse_dec (M : Nat) (hM : M ≤ 18446744073709551615) : ∀ (u acc : Nat) (r : List UInt8), acc * 10 ^ Lib.nDigits u + u ≤ M → Lib.parseUintM M acc (Lib.decDigits u ++ r) = Lib.parseUintM M (acc * 10 ^ Lib.nDigits u + u) r := by
  intro u
  induction u using Nat.strongRecOn with
  | _ u ih =>
    intro acc r h
    by_cases hu : u < 10
    · rw [Lib.decDigits, dif_pos hu, Lib.nDigits_small hu] at *
      rw [Nat.pow_one] at *
      rw [List.singleton_append, Lib.parseUintM, dig_val u hu, if_pos (by omega), if_neg (by omega), if_neg (by omega)]
      congr 1
      omega
    · rw [Lib.nDigits_big hu, Nat.pow_succ] at *
      have e : acc * (10 ^ Lib.nDigits (u / 10) * 10) + u = (acc * 10 ^ Lib.nDigits (u / 10) + u / 10) * 10 + u % 10 := by
        rw [Nat.add_mul, Nat.mul_assoc]; omega
      rw [e] at h ⊢
      rw [Lib.decDigits, dif_neg hu, List.append_assoc, ih (u / 10) (by omega) acc _ (by omega)]
      generalize acc * 10 ^ Lib.nDigits (u / 10) + u / 10 = q at *
      have hd : u % 10 < 10 := Nat.mod_lt _ (by omega)
      rw [List.singleton_append, Lib.parseUintM, dig_val _ hd, if_pos (by omega), if_neg (by omega), if_neg (by omega)]
      congr 1
      omega
theorem parseU_M : ∀ (l : List UInt8) (acc : Nat), Lib.parseUint10 acc l = Lib.parseUintM 18446744073709551615 acc l
  | [], _ => rfl
  | c :: r, acc => by
    unfold Lib.parseUint10 Lib.parseUintM
    split
    · split
      · rfl
      · by_cases h : 18446744073709551616 ≤ acc * 10 + (c.toNat - 48)
        · rw [if_pos h, if_pos (by omega)]
        · rw [if_neg h, if_neg (by omega)]
          exact parseU_M r _
    · rfl
theorem parse_all (M u : Nat) (hM : M ≤ 18446744073709551615) (h : u ≤ M) : Lib.parseUintM M 0 (Lib.decDigits u) = .ok u := by
  have := parse_dec M hM u 0 [] (by omega)
  rw [List.append_nil, Nat.zero_mul, Nat.zero_add] at this
  rw [this]
  rfl
theorem dec_head (u : Nat) : ∃ c r, Lib.decDigits u = c :: r ∧ 48 ≤ c.toNat ∧ c.toNat ≤ 57 := by
  cases h : Lib.decDigits u with
  | nil => exact absurd h (dec_ne u)
  | cons c r =>
    have := dec_dig u c (by rw [h]; simp)
    unfold isD at this
    exact ⟨c, r, rfl, of_decide_eq_true this⟩
def inI (n : Int) : Prop := -9223372036854775808 ≤ n ∧ n ≤ 9223372036854775807
theorem atoi_itoa (n : Int) (h : inI n) : Lib.atoiAll (Lib.itoa n) = .ok n := by
  unfold inI at h
  unfold Lib.itoa
  by_cases hn : n < 0
  · rw [if_pos hn]
    unfold Lib.atoiAll
    have e : (45 : UInt8).toNat = 45 := rfl
    simp only [e]
    unfold Lib.parseMag
    simp only [or_true, if_true]
    rw [if_neg (dec_ne _), parseU_M, parse_all _ _ (Nat.le_refl _) (by omega)]
    simp only [not_true_eq_false, false_and, if_false, true_and]
    rw [if_neg (by omega)]
    congr 1
    omega
  · rw [if_neg hn]
    obtain ⟨c, r, hc, h1, h2⟩ := dec_head n.toNat
    unfold Lib.atoiAll
    rw [hc]
    simp only
    rw [if_neg (by omega)]
    unfold Lib.parseMag
    rw [if_neg (by simp), ← hc, parseU_M, parse_all _ _ (Nat.le_refl _) (by omega)]
    simp only
    rw [if_neg (by omega), if_neg (by omega), if_neg (by omega)]
    congr 1
    omega
theorem itoa_chars (n : Int) : ∀ c ∈ Lib.itoa n, c = 45 ∨ isD c = true := by
  intro c hc
  unfold Lib.itoa at hc
  split at hc
  · rcases List.mem_cons.1 hc with rfl | hc
    · exact .inl rfl
    · exact .inr (dec_dig _ c hc)
  · exact .inr (dec_dig _ c hc)
theorem isD_ne {c : UInt8} (h : isD c = true) : c ≠ 32 ∧ c ≠ 46 ∧ c ≠ 58 ∧ c ≠ 45 := by
  unfold isD at h
  have h := of_decide_eq_true h
  refine ⟨?_, ?_, ?_, ?_⟩ <;> (rintro rfl; revert h; decide)
theorem itoa_ne (n : Int) : ∀ c ∈ Lib.itoa n, c ≠ 32 ∧ c ≠ 46 ∧ c ≠ 58 := by
  intro c hc
  rcases itoa_chars n c hc with rfl | h
  · decide
  · have := isD_ne h; exact ⟨this.1, this.2.1, this.2.2.1⟩
theorem itoa_nil (n : Int) : Lib.itoa n ≠ [] := by
  unfold Lib.itoa
  split
  · simp
  · exact dec_ne _
theorem itoa_nat (u : Nat) : Lib.itoa (u : Int) = Lib.decDigits u := by
  unfold Lib.itoa
  rw [if_neg (by omega), Int.toNat_natCast]
/-- A word as a number, as the program reads it. -/
def numW (w : List UInt8) : Int := match Lib.atoiAll w with
  | .ok n => n
  | _ => 0
def smallW (w : List UInt8) : Nat := if w = [] then 255 else match Lib.parseUintM 255 0 w with
  | .ok n => n
  | _ => 255
theorem num_itoa (n : Int) (h : inI n) : numW (Lib.itoa n) = n := by unfold numW; rw [atoi_itoa n h]
theorem num_nil : numW [] = 0 := rfl
theorem small_itoa (u : Nat) (h : u < 256) : smallW (Lib.itoa (u : Int)) = u := by
  unfold smallW
  rw [if_neg (itoa_nil _), itoa_nat, parse_all 255 u (by omega) (by omega)]
/-- Pieces between bytes c. -/
def jn (c : UInt8) : List (List UInt8) → List UInt8
  | [] => []
  | w :: l => w ++ l.flatMap (fun x => c :: x)
theorem jn_two (c : UInt8) (w v : List UInt8) (l : List (List UInt8)) : jn c (w :: v :: l) = w ++ c :: jn c (v :: l) := by simp [jn]
theorem jn_sp (l : List (List UInt8)) : jn 32 l = sp l := by cases l <;> rfl
theorem jn_len (c : UInt8) : ∀ l : List (List UInt8), l.length ≤ (jn c l).length + 1
  | [] => by simp
  | [w] => by simp
  | w :: v :: l => by
    have := jn_len c (v :: l)
    rw [jn_two, List.length_append, List.length_cons]
    simp only [List.length_cons] at *
    omega
theorem index_first (c : UInt8) (r : List UInt8) : ∀ a : List UInt8, (∀ x ∈ a, x ≠ c) → Lib.indexByte (a ++ c :: r) c = (a.length : Int)
  | [], _ => by simp [Lib.indexByte]
  | x :: a, h => by
    have h1 := index_first c r a (fun y hy => h y (by simp [hy]))
    have h2 := h x (by simp)
    simp only [List.cons_append, Lib.indexByte, h1]
    rw [if_neg (by simpa using h2), if_neg (by simp)]
    simp
theorem index_no (c : UInt8) : ∀ a : List UInt8, (∀ x ∈ a, x ≠ c) → Lib.indexByte a c = -1
  | [], _ => rfl
  | x :: a, h => by
    have h1 := index_no c a (fun y hy => h y (by simp [hy]))
    simp only [Lib.indexByte, h1]
    rw [if_neg (by simpa using h x (by simp))]
    rfl
theorem split_word (c : UInt8) (k : Nat) (a r : List UInt8) (h : ∀ x ∈ a, x ≠ c) : Lib.splitK [c] 0 (k + 1) (a ++ c :: r) = a :: Lib.splitK [c] 0 k r := by
  rw [Lib.splitK, Lib.index_one, index_first c r a h]
  rw [if_neg (by simp)]
  simp
theorem split_last (c : UInt8) (k : Nat) (a : List UInt8) (h : ∀ x ∈ a, x ≠ c) : Lib.splitK [c] 0 k a = [a] := by
  cases k with
  | zero => rfl
  | succ k => unfold Lib.splitK; rw [Lib.index_one, index_no c a h]; rfl
theorem split_jn (c : UInt8) : ∀ (l : List (List UInt8)) (k : Nat), l ≠ [] → l.length ≤ k + 1 → (∀ w ∈ l, ∀ x ∈ w, x ≠ c) → Lib.splitK [c] 0 k (jn c l) = l
  | [], _, h, _, _ => absurd rfl h
  | [w], k, _, _, h => by
    have : jn c [w] = w := by simp [jn]
    rw [this]
    exact split_last c k w (h w (by simp))
  | w :: v :: l, k, _, hk, h => by
    obtain ⟨k, rfl⟩ : ∃ j, k = j + 1 := ⟨k - 1, by simp at hk; omega⟩
    rw [jn_two, split_word c k w _ (h w (by simp)), split_jn c (v :: l) k (by simp) (by simpa using hk) (fun x hx => h x (List.mem_cons_of_mem _ hx))]
theorem cut_first (c : UInt8) (a r : List UInt8) (h : ∀ x ∈ a, x ≠ c) : Lib.cut (a ++ c :: r) [c] = (a, r, true) := by
  unfold Lib.cut
  rw [Lib.index_one, index_first c r a h]
  rw [if_pos (by simp)]
  simp
theorem cut_none (c : UInt8) (a : List UInt8) (h : ∀ x ∈ a, x ≠ c) : Lib.cut a [c] = (a, [], false) := by
  unfold Lib.cut
  rw [Lib.index_one, index_no c a h]
  rfl
/-- strings.SplitN at a byte. -/
def splitAt1 (c : UInt8) (n : Nat) (s : List UInt8) : List (List UInt8) := Lib.splitK [c] 0 (min n (s.length + 1) - 1) s
theorem splitAt_jn (c : UInt8) (n : Nat) (l : List (List UInt8)) (h : l ≠ []) (hn : l.length ≤ n) (hl : ∀ w ∈ l, ∀ x ∈ w, x ≠ c) : splitAt1 c n (jn c l) = l := by
  unfold splitAt1
  have h1 := jn_len c l
  have h2 : 0 < l.length := List.length_pos_iff.2 h
  exact split_jn c l _ h (by omega) hl
/-- The words of entries. -/
def wVoid : List UInt8 := [118, 111, 105, 100]
def wPlayed : List UInt8 := [112, 108, 97, 121, 101, 100]
def wWeighted : List UInt8 := [119, 101, 105, 103, 104, 116, 101, 100]
def wSplit : List UInt8 := [115, 112, 108, 105, 116]
def wAward : List UInt8 := [97, 119, 97, 114, 100]
def wStraight : List UInt8 := [115, 116, 114, 97, 105, 103, 104, 116]
def wTurned : List UInt8 := [116, 117, 114, 110, 101, 100]
def kindW (k : Nat) : List UInt8 := if k = 0 then wVoid else if k = 1 then wPlayed else if k = 2 then wWeighted else if k = 3 then wSplit else wAward
def wayW (t : Bool) : List UInt8 := if t then wTurned else wStraight
def Ou.parts (o : Ou) : List (List UInt8) := [Lib.itoa o.lv, Lib.itoa o.dn, Lib.itoa o.rk, Lib.itoa o.dc, Lib.itoa o.tr]
def Ou.txt (o : Ou) : List UInt8 := if o.wt = 0 then jn 46 o.parts else jn 46 o.parts ++ 58 :: Lib.itoa o.wt
def En.num (e : En) : Nat := (usedP e).1
def En.head (e : En) : List (List UInt8) := [Lib.itoa e.rd, Lib.itoa e.tb, Lib.itoa e.bd, Lib.itoa e.vs, kindW e.kd]
def En.words (e : En) : List (List UInt8) :=
  e.head ++ ((if e.num = 0 then [] else [Lib.itoa e.fd, wayW e.tn]) ++ ((e.outs.take e.num).map Ou.txt ++ (if e.kd = 4 then [Lib.itoa e.a0, Lib.itoa e.a1] else [])))
def En.txt (e : En) : List UInt8 := sp e.words
/-- What entries are in memory. -/
structure Ou.In (o : Ou) : Prop where
  lv : o.lv < 256
  dn : o.dn < 256
  rk : o.rk < 256
  dc : o.dc < 256
  tr : inI o.tr
  wt : inI o.wt
structure En.In (e : En) : Prop where
  rd : inI e.rd
  tb : inI e.tb
  bd : inI e.bd
  vs : inI e.vs
  kd : e.kd < 256
  fd : e.fd < 256
  o0 : e.o0.In
  o1 : e.o1.In
  o2 : e.o2.In
  o3 : e.o3.In
  a0 : inI e.a0
  a1 : inI e.a1
theorem jn_chars {c : UInt8} {P : UInt8 → Prop} (hc : P c) : ∀ l : List (List UInt8), (∀ w ∈ l, ∀ x ∈ w, P x) → ∀ x ∈ jn c l, P x
  | [], _, x, hx => by simp [jn] at hx
  | w :: l, h, x, hx => by
    unfold jn at hx
    rcases List.mem_append.1 hx with hx | hx
    · exact h w (by simp) x hx
    · obtain ⟨v, hv, hx⟩ := List.mem_flatMap.1 hx
      rcases List.mem_cons.1 hx with rfl | hx
      · exact hc
      · exact h v (by simp [hv]) x hx
theorem parts_chars (o : Ou) : ∀ w ∈ o.parts, ∀ x ∈ w, x ≠ 32 ∧ x ≠ 46 ∧ x ≠ 58 := by
  intro w hw x hx
  unfold Ou.parts at hw
  simp only [List.mem_cons, List.not_mem_nil, or_false] at hw
  rcases hw with rfl | rfl | rfl | rfl | rfl <;> exact itoa_ne _ x hx
theorem dots_58 (o : Ou) : ∀ x ∈ jn 46 o.parts, x ≠ 58 := jn_chars (P := fun x => x ≠ 58) (by decide) _ (fun w hw x hx => (parts_chars o w hw x hx).2.2)
theorem dots_32 (o : Ou) : ∀ x ∈ jn 46 o.parts, x ≠ 32 := jn_chars (P := fun x => x ≠ 32) (by decide) _ (fun w hw x hx => (parts_chars o w hw x hx).1)
theorem txt_32 (o : Ou) : ∀ x ∈ o.txt, x ≠ 32 := by
  intro x hx
  unfold Ou.txt at hx
  split at hx
  · exact dots_32 o x hx
  · rcases List.mem_append.1 hx with hx | hx
    · exact dots_32 o x hx
    · rcases List.mem_cons.1 hx with rfl | hx
      · decide
      · exact (itoa_ne _ x hx).1
theorem kind_32 (k : Nat) : ∀ x ∈ kindW k, x ≠ 32 := by
  unfold kindW
  split
  · decide
  · split
    · decide
    · split
      · decide
      · split <;> decide
theorem words_32 (e : En) : ∀ w ∈ e.words, ∀ x ∈ w, x ≠ 32 := by
  intro w hw
  unfold En.words En.head at hw
  simp only [List.mem_append, List.mem_cons, List.not_mem_nil, or_false] at hw
  rcases hw with (rfl | rfl | rfl | rfl | rfl) | hw | hw | hw
  · exact fun x hx => (itoa_ne _ x hx).1
  · exact fun x hx => (itoa_ne _ x hx).1
  · exact fun x hx => (itoa_ne _ x hx).1
  · exact fun x hx => (itoa_ne _ x hx).1
  · exact kind_32 _
  · split at hw
    · simp at hw
    · simp only [List.mem_cons, List.not_mem_nil, or_false] at hw
      rcases hw with rfl | rfl
      · exact fun x hx => (itoa_ne _ x hx).1
      · cases e.tn <;> decide
  · obtain ⟨o, _, rfl⟩ := List.mem_map.1 hw
    exact txt_32 o
  · split at hw
    · simp only [List.mem_cons, List.not_mem_nil, or_false] at hw
      rcases hw with rfl | rfl
      · exact fun x hx => (itoa_ne _ x hx).1
      · exact fun x hx => (itoa_ne _ x hx).1
    · simp at hw
/-- An outcome, as the program reads it. -/
def outW (w : List UInt8) : Option Ou :=
  match splitAt1 46 6 (Lib.cut w [58]).1 with
  | [a, b, c, d, t] => some ⟨smallW a, smallW b, smallW c, smallW d, numW t, numW (Lib.cut w [58]).2.1⟩
  | _ => none
theorem out_txt (o : Ou) (h : o.In) : outW o.txt = some o := by
  have hs : splitAt1 46 6 (jn 46 o.parts) = o.parts := splitAt_jn 46 6 _ (by simp [Ou.parts]) (by simp [Ou.parts]) (fun w hw x hx => (parts_chars o w hw x hx).2.1)
  unfold outW Ou.txt
  by_cases h0 : o.wt = 0
  · rw [if_pos h0, cut_none 58 _ (dots_58 o)]
    simp only [hs]
    unfold Ou.parts
    simp only [small_itoa _ h.lv, small_itoa _ h.dn, small_itoa _ h.rk, small_itoa _ h.dc, num_itoa _ h.tr, num_nil]
    rw [← h0]
  · rw [if_neg h0, cut_first 58 _ _ (dots_58 o)]
    simp only [hs]
    unfold Ou.parts
    simp only [small_itoa _ h.lv, small_itoa _ h.dn, small_itoa _ h.rk, small_itoa _ h.dc, num_itoa _ h.tr, num_itoa _ h.wt]
def kindOf (w : List UInt8) : Nat := if w = wVoid then 0 else if w = wPlayed then 1 else if w = wWeighted then 2 else if w = wSplit then 3 else 4
theorem kind_of (k : Nat) (h : k ≤ 4) : kindOf (kindW k) = k := by
  rcases (by omega : k = 0 ∨ k = 1 ∨ k = 2 ∨ k = 3 ∨ k = 4) with rfl | rfl | rfl | rfl | rfl <;> decide
/-- Outcomes one after the other; none if one is none. -/
def outsW : List (List UInt8) → Option (List Ou)
  | [] => some []
  | w :: l => (outW w).bind fun o => (outsW l).map (o :: ·)
theorem outs_txt : ∀ l : List Ou, (∀ o ∈ l, o.In) → outsW (l.map Ou.txt) = some l
  | [], _ => rfl
  | o :: l, h => by
    rw [List.map_cons, outsW, out_txt o (h o (by simp)), outs_txt l (fun x hx => h x (List.mem_cons_of_mem _ hx))]
    rfl
/-- The entry that words have to be. -/
def guessP (ws : List (List UInt8)) : Option En :=
  match ws with
  | a :: b :: c :: d :: k :: rest =>
    if kindOf k = 0 then (if rest.length = 0 then some ⟨numW a, numW b, numW c, numW d, 0, 0, false, zeroO, zeroO, zeroO, zeroO, 0, 0⟩ else none)
    else if kindOf k = 4 then (match rest with
      | [x, y] => some ⟨numW a, numW b, numW c, numW d, 4, 0, false, zeroO, zeroO, zeroO, zeroO, numW x, numW y⟩
      | _ => none)
    else (match rest with
      | f :: t :: os => if os.length < 1 ∨ 4 < os.length then none else (outsW os).map fun l =>
          ⟨numW a, numW b, numW c, numW d, kindOf k, smallW f, decide (t = wTurned), l.getD 0 zeroO, l.getD 1 zeroO, l.getD 2 zeroO, l.getD 3 zeroO, 0, 0⟩
      | _ => none)
  | _ => none
theorem En.ext' {a b : En} (h1 : a.rd = b.rd) (h2 : a.tb = b.tb) (h3 : a.bd = b.bd) (h4 : a.vs = b.vs) (h5 : a.kd = b.kd) (h6 : a.fd = b.fd) (h7 : a.tn = b.tn) (h8 : a.o0 = b.o0) (h9 : a.o1 = b.o1) (h10 : a.o2 = b.o2) (h11 : a.o3 = b.o3) (h12 : a.a0 = b.a0) (h13 : a.a1 = b.a1) : a = b := by
  cases a; cases b; simp_all
/-- What a right entry is made of. -/
theorem right_parts {e : En} (h : rightE e = true) : e.kd ≤ 4 ∧ e.fd ≤ 3 ∧ (usedP e).2 = true ∧ (e.num = 0 → e.fd = 0 ∧ e.tn = false) ∧ (∀ i, e.num ≤ i → i < 4 → e.ou i = zeroO) ∧ (e.kd ≠ 4 → e.a0 = 0 ∧ e.a1 = 0) := by
  unfold rightE at h
  simp only [Bool.and_eq_true, decide_eq_true_eq] at h
  obtain ⟨⟨h1, h2⟩, h3, h4, h5, h6⟩ := h
  refine ⟨h1, h2, h3, fun hn => ?_, fun i hi hi4 => ?_, fun hk => ?_⟩
  · unfold En.num at hn
    rw [hn] at h4
    simp at h4
    exact h4
  · unfold En.rest at h5
    rw [List.all_eq_true] at h5
    refine (isZ_iff _).1 (h5 _ ?_)
    have := e.ou_at i hi4
    refine List.mem_of_getElem? (i := i - e.num) ?_
    rw [List.getElem?_drop]
    show e.outs[e.num + (i - e.num)]? = _
    rw [show e.num + (i - e.num) = i by omega]
    exact this
  · rw [if_neg hk] at h6
    simpa using h6
theorem num_kind {e : En} (h : rightE e = true) : (e.kd = 0 ∨ e.kd = 4 → e.num = 0) ∧ (e.kd = 1 → e.num = 1) ∧ (e.kd = 3 → e.num = 2) ∧ (e.kd = 2 → 2 ≤ e.num) ∧ e.num ≤ 4 := by
  have h3 := (right_parts h).2.2.1
  have hl := used_lt (e := e)
  unfold En.num
  refine ⟨fun hk => ?_, fun hk => ?_, fun hk => ?_, fun hk => ?_, hl⟩
  · unfold usedP
    rw [if_neg (by omega), if_neg (by omega), if_neg (by omega)]
  · unfold usedP at h3 ⊢
    rw [if_pos hk] at h3 ⊢
    split
    · rfl
    · rename_i hx; rw [if_neg hx] at h3; cases h3
  · unfold usedP at h3 ⊢
    rw [if_neg (by omega), if_pos hk] at h3 ⊢
    split
    · rfl
    · rename_i hx; rw [if_neg hx] at h3; cases h3
  · have e1 : usedP e = wgo e.outs 0 0 := by unfold usedP; rw [if_neg (by omega), if_neg (by omega), if_pos hk]
    rw [e1] at h3 ⊢
    revert h3
    unfold En.outs
    simp only [wgo]
    grind
theorem outs_in {e : En} (h : e.In) : ∀ o ∈ e.outs, o.In := by
  intro o ho
  unfold En.outs at ho
  simp only [List.mem_cons, List.not_mem_nil, or_false] at ho
  rcases ho with rfl | rfl | rfl | rfl
  · exact h.o0
  · exact h.o1
  · exact h.o2
  · exact h.o3
theorem take_getD (e : En) (n i : Nat) (hi : i < 4) (h : ∀ i, n ≤ i → i < 4 → e.ou i = zeroO) : (e.outs.take n).getD i zeroO = e.ou i := by
  rw [List.getD_eq_getElem?_getD, List.getElem?_take]
  by_cases hlt : i < n
  · rw [if_pos hlt, e.ou_at i hi]; rfl
  · rw [if_neg hlt, h i (by omega) hi]; rfl
/-- The text of a right entry is read as it was. -/
theorem guess_words (e : En) (hi : e.In) (h : rightE e = true) : guessP e.words = some e := by
  obtain ⟨h1, h2, h3, h4, h5, h6⟩ := right_parts h
  obtain ⟨n0, n1, n3, n2, n4⟩ := num_kind h
  unfold En.words En.head
  simp only [List.cons_append, List.nil_append]
  unfold guessP
  simp only [kind_of e.kd h1, num_itoa _ hi.rd, num_itoa _ hi.tb, num_itoa _ hi.bd, num_itoa _ hi.vs]
  have z : ∀ i, i < 4 → (e.outs.take e.num).getD i zeroO = e.ou i := fun i hi4 => take_getD e e.num i hi4 h5
  by_cases k0 : e.kd = 0
  · have hn := n0 (.inl k0)
    have hz := fun i hi4 => h5 i (by omega) hi4
    obtain ⟨a, b⟩ := h4 hn
    obtain ⟨c, d⟩ := h6 (by omega)
    rw [if_pos k0, if_pos hn, hn, if_neg (show ¬ e.kd = 4 by omega)]
    simp only [List.take_zero, List.map_nil, List.append_nil, List.length_nil, if_true]
    congr 1
    exact En.ext' rfl rfl rfl rfl k0.symm a.symm b.symm (hz 0 (by omega)).symm (hz 1 (by omega)).symm (hz 2 (by omega)).symm (hz 3 (by omega)).symm c.symm d.symm
  · rw [if_neg k0]
    by_cases k4 : e.kd = 4
    · have hn := n0 (.inr k4)
      have hz := fun i hi4 => h5 i (by omega) hi4
      obtain ⟨a, b⟩ := h4 hn
      rw [if_pos k4, if_pos hn, hn, if_pos k4]
      simp only [List.take_zero, List.map_nil, List.nil_append, num_itoa _ hi.a0, num_itoa _ hi.a1]
      congr 1
      exact En.ext' rfl rfl rfl rfl k4.symm a.symm b.symm (hz 0 (by omega)).symm (hz 1 (by omega)).symm (hz 2 (by omega)).symm (hz 3 (by omega)).symm rfl rfl
    · have hn : e.num ≠ 0 := by
        rcases (by omega : e.kd = 1 ∨ e.kd = 2 ∨ e.kd = 3) with hk | hk | hk
        · rw [n1 hk]; decide
        · have := n2 hk; omega
        · rw [n3 hk]; decide
      obtain ⟨c, d⟩ := h6 k4
      rw [if_neg k4, if_neg hn, if_neg k4]
      simp only [List.cons_append, List.nil_append, List.append_nil]
      have hl : ((e.outs.take e.num).map Ou.txt).length = e.num := by
        rw [List.length_map, List.length_take]
        show min e.num 4 = _
        omega
      rw [if_neg (by rw [hl]; omega), outs_txt _ (fun o ho => outs_in hi o (List.mem_of_mem_take ho))]
      show some _ = some e
      congr 1
      refine En.ext' rfl rfl rfl rfl rfl (small_itoa _ hi.fd) ?_ (z 0 (by omega)) (z 1 (by omega)) (z 2 (by omega)) (z 3 (by omega)) c.symm d.symm
      show decide (wayW e.tn = wTurned) = e.tn
      cases e.tn <;> decide
theorem words_len (e : En) (h : rightE e = true) : 5 ≤ e.words.length ∧ e.words.length ≤ 11 := by
  obtain ⟨n0, n1, n3, n2, n4⟩ := num_kind h
  have h1 := (right_parts h).1
  unfold En.words En.head
  simp only [List.length_append, List.length_cons, List.length_nil, List.length_map, List.length_take]
  have h4 : e.outs.length = 4 := rfl
  rw [h4]
  by_cases k4 : e.kd = 4
  · rw [if_pos k4, n0 (.inr k4), if_pos rfl]; simp
  · rw [if_neg k4]
    split <;> simp only [List.length_nil, List.length_cons] <;> omega
/-- What the program reads. -/
def readW (s : List UInt8) : Option En :=
  if (splitAt1 32 12 s).length < 5 ∨ 11 < (splitAt1 32 12 s).length then none
  else (guessP (splitAt1 32 12 s)).bind fun e => if rightE e = true ∧ e.txt = s then some e else none
/-- A string that is the text of a right entry. -/
def IsE (s : List UInt8) (e : En) : Prop := e.In ∧ rightE e = true ∧ e.txt = s
theorem read_is {s : List UInt8} {e : En} (h : IsE s e) : readW s = some e := by
  obtain ⟨h1, h2, rfl⟩ := h
  have hs : splitAt1 32 12 e.txt = e.words := by
    unfold En.txt
    rw [← jn_sp]
    have := words_len e h2
    exact splitAt_jn 32 12 _ (by intro h; rw [h] at this; simp at this) (by omega) (words_32 e)
  have hl := words_len e h2
  unfold readW
  rw [hs, if_neg (by omega), guess_words e h1 h2]
  show (if _ then _ else _) = _
  rw [if_pos ⟨h2, rfl⟩]
theorem read_one {s : List UInt8} {a b : En} (h : IsE s a) (k : IsE s b) : a = b := by
  have h1 := read_is h
  rw [read_is k] at h1
  exact (Option.some.inj h1).symm
theorem txt_inj {a b : En} (ha : a.In) (hb : b.In) (ra : rightE a = true) (rb : rightE b = true) (h : a.txt = b.txt) : a = b := read_one (s := b.txt) ⟨ha, ra, h⟩ ⟨hb, rb, rfl⟩
theorem num_in (w : List UInt8) : inI (numW w) := by
  unfold numW
  split
  · rename_i h; exact Lib.atoiAll_bounds h
  · unfold inI; omega
theorem parseM_le (M : Nat) : ∀ (l : List UInt8) (acc u : Nat), acc ≤ M → Lib.parseUintM M acc l = .ok u → u ≤ M
  | [], acc, u, ha, h => by
    simp only [Lib.parseUintM] at h
    injection h with h
    omega
  | c :: r, acc, u, ha, h => by
    simp only [Lib.parseUintM] at h
    split at h
    · split at h
      · cases h
      · split at h
        · cases h
        · exact parseM_le M r _ u (by omega) h
    · cases h
theorem small_lt (w : List UInt8) : smallW w < 256 := by
  unfold smallW
  split
  · decide
  · split
    · rename_i h; have := parseM_le 255 _ _ _ (by omega) h; omega
    · decide
theorem outW_in {w : List UInt8} {o : Ou} (h : outW w = some o) : o.In := by
  unfold outW at h
  split at h
  · injection h with h
    subst h
    exact ⟨small_lt _, small_lt _, small_lt _, small_lt _, num_in _, num_in _⟩
  · cases h
theorem zeroO_in : zeroO.In := ⟨by decide, by decide, by decide, by decide, ⟨by decide, by decide⟩, ⟨by decide, by decide⟩⟩
theorem outsW_in : ∀ {ws : List (List UInt8)} {l : List Ou}, outsW ws = some l → ∀ o ∈ l, o.In
  | [], l, h, o, ho => by
    injection h with h
    subst h
    simp at ho
  | w :: ws, l, h, o, ho => by
    rw [outsW] at h
    cases hw : outW w with
    | none => rw [hw] at h; cases h
    | some x =>
      rw [hw] at h
      cases hs : outsW ws with
      | none => rw [hs] at h; cases h
      | some m =>
        rw [hs] at h
        injection h with h
        subst h
        rcases List.mem_cons.1 ho with rfl | ho
        · exact outW_in hw
        · exact outsW_in hs o ho
theorem getD_in {l : List Ou} (h : ∀ o ∈ l, o.In) (i : Nat) : (l.getD i zeroO).In := by
  rw [List.getD_eq_getElem?_getD]
  cases hx : l[i]? with
  | none => exact zeroO_in
  | some o => exact h o (List.mem_of_getElem? hx)
theorem guess_in {ws : List (List UInt8)} {e : En} (h : guessP ws = some e) : e.In := by
  have i0 : inI 0 := ⟨by decide, by decide⟩
  unfold guessP at h
  split at h
  · rename_i a b c d k rest
    have hk : kindOf k < 256 := by unfold kindOf; repeat' split
                                   all_goals decide
    split at h
    · split at h
      · injection h with h
        subst h
        exact ⟨num_in _, num_in _, num_in _, num_in _, (show (0 : Nat) < 256 by decide), (show (0 : Nat) < 256 by decide), zeroO_in, zeroO_in, zeroO_in, zeroO_in, i0, i0⟩
      · cases h
    · split at h
      · split at h
        · injection h with h
          subst h
          exact ⟨num_in _, num_in _, num_in _, num_in _, (show (4 : Nat) < 256 by decide), (show (0 : Nat) < 256 by decide), zeroO_in, zeroO_in, zeroO_in, zeroO_in, num_in _, num_in _⟩
        · cases h
      · split at h
        · split at h
          · cases h
          · rename_i f t os _
            cases ho : outsW os with
            | none => rw [ho] at h; cases h
            | some l =>
              rw [ho] at h
              injection h with h
              subst h
              have hl := outsW_in ho
              exact ⟨num_in _, num_in _, num_in _, num_in _, hk, small_lt _, getD_in hl 0, getD_in hl 1, getD_in hl 2, getD_in hl 3, i0, i0⟩
        · cases h
  · cases h
theorem readW_is {s : List UInt8} {e : En} (h : readW s = some e) : IsE s e := by
  unfold readW at h
  split at h
  · cases h
  · cases hg : guessP (splitAt1 32 12 s) with
    | none => rw [hg] at h; cases h
    | some x =>
      rw [hg] at h
      simp only [Option.bind_some] at h
      split at h
      · rename_i hx
        injection h with h
        subst h
        exact ⟨guess_in hg, hx.1, hx.2⟩
      · cases h
theorem read_iff (s : List UInt8) (e : En) : readW s = some e ↔ IsE s e := ⟨readW_is, read_is⟩
end Go.Proofs.YtpkmibmombpjpaaGreatDoor
