/- Plain: the texts of deals and of boards, each with one reading. No program. -/
import Derived.Test.YtaadipccgckehaaDoorBU
import Derived.Lib.ItoaNum
namespace Go.Proofs.YtaadipccgckehaaDoor
namespace Pl

/-- Words and the spaces between them. -/
def sp : List (List UInt8) → List UInt8
  | [] => []
  | w :: l => w ++ l.flatMap (fun x => 32 :: x)
theorem sp_cons2 (w v : List UInt8) (l : List (List UInt8)) : sp (w :: v :: l) = w ++ 32 :: sp (v :: l) := by simp [sp]
theorem sp_one (w : List UInt8) : sp [w] = w := by simp [sp]
/-- The next hand of a deal that is read. -/
def pushR (acc : List Nat) (cur : List UInt8) : Option (List Nat) := (rparse cur).bind fun m => if 3 < acc.length then none else some (acc ++ [m])
def rdGo : List Nat → List UInt8 → List UInt8 → Option (List Nat)
  | acc, cur, [] => pushR acc cur
  | acc, cur, c :: rest => if c = 32 then (pushR acc cur).bind fun acc' => rdGo acc' [] rest else rdGo acc (cur ++ [c]) rest
theorem push_some {acc L : List Nat} {cur : List UInt8} (h : pushR acc cur = some L) : ∃ m, m < 4503599627370496 ∧ cur = writeL m ∧ L = acc ++ [m] := by
  unfold pushR at h
  rcases hr : rparse cur with _ | m
  · rw [hr] at h; cases h
  · rw [hr] at h
    obtain ⟨h1, h2⟩ := (rparse_iff cur m).1 hr
    refine ⟨m, h1, h2, ?_⟩
    simp only [Option.bind_some] at h
    split at h
    · cases h
    · exact (Option.some.inj h).symm
theorem push_write {acc : List Nat} {m : Nat} (h : m < 4503599627370496) (ha : acc.length ≤ 3) : pushR acc (writeL m) = some (acc ++ [m]) := by
  unfold pushR
  rw [(rparse_iff _ m).2 ⟨h, rfl⟩]
  simp only [Option.bind_some]
  rw [if_neg (by omega)]
theorem rd_sound : ∀ (t : List UInt8) (acc : List Nat) (cur : List UInt8) (L : List Nat), rdGo acc cur t = some L → ∃ Ms : List Nat, Ms ≠ [] ∧ L = acc ++ Ms ∧ (∀ m ∈ Ms, m < 4503599627370496) ∧ cur ++ t = sp (Ms.map writeL) := by
  intro t
  induction t with
  | nil =>
    intro acc cur L h
    obtain ⟨m, h1, h2, h3⟩ := push_some h
    exact ⟨[m], by simp, h3, by simpa using h1, by rw [List.append_nil, h2]; simp [sp]⟩
  | cons c t ih =>
    intro acc cur L h
    unfold rdGo at h
    by_cases hc : c = 32
    · rw [if_pos hc] at h
      rcases hp : pushR acc cur with _ | acc'
      · rw [hp] at h; cases h
      · rw [hp] at h
        obtain ⟨m, h1, h2, h3⟩ := push_some hp
        obtain ⟨Ms, g1, g2, g3, g4⟩ := ih acc' [] L h
        obtain ⟨x, Ms', rfl⟩ := List.exists_cons_of_ne_nil g1
        refine ⟨m :: x :: Ms', by simp, by rw [g2, h3]; simp, ?_, ?_⟩
        · intro y hy
          rcases List.mem_cons.1 hy with rfl | hy
          · exact h1
          · exact g3 y hy
        · rw [List.nil_append] at g4
          rw [hc, h2, g4, List.map_cons, List.map_cons, List.map_cons, sp_cons2]
    · rw [if_neg hc] at h
      obtain ⟨Ms, g1, g2, g3, g4⟩ := ih acc _ L h
      exact ⟨Ms, g1, g2, g3, by rw [← g4]; simp⟩
theorem rd_skip : ∀ (l : List UInt8) (acc : List Nat) (cur rest : List UInt8), (∀ c ∈ l, c ≠ 32) → rdGo acc cur (l ++ rest) = rdGo acc (cur ++ l) rest
  | [], acc, cur, rest, _ => by simp
  | c :: l, acc, cur, rest, h => by
    rw [List.cons_append, rdGo, if_neg (h c (by simp)), rd_skip l acc _ rest (fun x hx => h x (by simp [hx]))]
    simp
theorem write_no (m : Nat) : ∀ c ∈ writeL m, c ≠ 32 := by
  intro c hc
  unfold writeL at hc
  simp only [List.mem_append, List.mem_cons] at hc
  rcases hc with h | h | h | h | h | h | h
  all_goals first
    | exact (suit_no m _ c h).2
    | (subst h; decide)
theorem rd_word (m : Nat) (acc : List Nat) (rest : List UInt8) (h : m < 4503599627370496) (ha : acc.length ≤ 3) : rdGo acc [] (writeL m ++ 32 :: rest) = rdGo (acc ++ [m]) [] rest := by
  rw [rd_skip _ _ _ _ (write_no m), List.nil_append, rdGo, if_pos rfl, push_write h ha]
  rfl
theorem rd_last (m : Nat) (acc : List Nat) (h : m < 4503599627370496) (ha : acc.length ≤ 3) : rdGo acc [] (writeL m) = some (acc ++ [m]) := by
  have := rd_skip (writeL m) acc [] [] (write_no m)
  rw [List.append_nil, List.nil_append] at this
  rw [this, rdGo, push_write h ha]
def four (D : Nat → Nat) : List Nat := [D 0, D 1, D 2, D 3]
def dealT (D : Nat → Nat) : List UInt8 := writeL (D 0) ++ 32 :: (writeL (D 1) ++ 32 :: (writeL (D 2) ++ 32 :: writeL (D 3)))
def textD (D : Nat → Nat) : List UInt8 := 78 :: 58 :: dealT D
theorem deal_sp (D : Nat → Nat) : dealT D = sp ((four D).map writeL) := by
  simp [dealT, four, sp]
theorem rd_iff (t : List UInt8) (D : Nat → Nat) : rdGo [] [] t = some (four D) ↔ (∀ k, k < 4 → D k < 4503599627370496) ∧ t = dealT D := by
  constructor
  · intro h
    obtain ⟨Ms, g1, g2, g3, g4⟩ := rd_sound t [] [] _ h
    rw [List.nil_append] at g2 g4
    subst g2
    refine ⟨fun k hk => g3 _ ?_, by rw [g4, deal_sp]⟩
    unfold four
    rcases (by omega : k = 0 ∨ k = 1 ∨ k = 2 ∨ k = 3) with rfl | rfl | rfl | rfl <;> simp
  · rintro ⟨h, rfl⟩
    unfold dealT
    rw [rd_word _ _ _ (h 0 (by omega)) (by simp), rd_word _ _ _ (h 1 (by omega)) (by simp), rd_word _ _ _ (h 2 (by omega)) (by simp), rd_last _ _ (h 3 (by omega)) (by simp)]
    rfl
theorem rd_len {t : List UInt8} {L : List Nat} (h : rdGo [] [] t = some L) (h4 : L.length = 4) : ∃ D, L = four D ∧ (∀ k, k < 4 → D k < 4503599627370496) ∧ t = dealT D := by
  match L, h4 with
  | [a, b, c, d], _ =>
    refine ⟨fun k => if k = 0 then a else if k = 1 then b else if k = 2 then c else d, rfl, ?_⟩
    exact (rd_iff t (fun k => if k = 0 then a else if k = 1 then b else if k = 2 then c else d)).1 h
/-- The number of a board. -/
def numL (n : Nat) : List UInt8 := if n < 10 then [UInt8.ofNat (48 + n)] else if n < 100 then [UInt8.ofNat (48 + n / 10), UInt8.ofNat (48 + n % 10)] else [UInt8.ofNat (48 + n / 100), UInt8.ofNat (48 + n / 10 % 10), UInt8.ofNat (48 + n % 10)]
theorem num_itoa (n : Nat) (h : n < 1000) : Lib.itoa (n : Int) = numL n := by
  unfold Lib.itoa numL
  rw [if_neg (by omega), Int.toNat_natCast]
  split
  · exact Lib.decDigits_one (by assumption)
  · split
    · exact Lib.decDigits_two (by assumption) (by assumption)
    · rw [Lib.decDigits, dif_neg (by omega), Lib.decDigits_two (by omega) (by omega)]
      simp only [List.cons_append, List.nil_append]
      rw [Nat.div_div_eq_div_mul]
def dealP (n : Nat) : Nat := (n - 1) % 4
def vulP (n : Nat) : Nat := (n - 1 + (n - 1) / 4) % 4
def seatW (d : Nat) : List UInt8 := [([78, 69, 83, 87] : List UInt8).getD d 0]
def wordW (v : Nat) : List UInt8 := if v = 0 then [110, 111, 110, 101] else if v = 1 then [78, 83] else if v = 2 then [69, 87] else [98, 111, 116, 104]
def headL (n : Nat) : List UInt8 := sp [numL n, seatW (dealP n), wordW (vulP n), []]
def textB (n : Nat) (D : Nat → Nat) : List UInt8 := sp [numL n, seatW (dealP n), wordW (vulP n), textD D]
theorem text_head (n : Nat) (D : Nat → Nat) : textB n D = headL n ++ textD D := by simp [textB, headL, sp]
theorem num_no : ∀ n, n < 129 → ∀ c ∈ numL n, c ≠ 32 := by decide +kernel
def val (l : List UInt8) : Nat := l.foldl (fun a c => 10 * a + (c.toNat - 48)) 0
theorem val_num : ∀ n, n < 129 → val (numL n) = n := by decide +kernel
theorem first_sp {l m : List UInt8} {a b : List UInt8} (hl : ∀ c ∈ l, c ≠ 32) (hm : ∀ c ∈ m, c ≠ 32) (h : l ++ 32 :: a = m ++ 32 :: b) : l = m ∧ a = b := by
  induction l generalizing m with
  | nil =>
    cases m with
    | nil => exact ⟨rfl, by simpa using h⟩
    | cons c m =>
      simp only [List.nil_append, List.cons_append] at h
      injection h with h _
      exact absurd h.symm (hm c (by simp))
  | cons c l ih =>
    cases m with
    | nil =>
      simp only [List.nil_append, List.cons_append] at h
      injection h with h _
      exact absurd h (hl c (by simp))
    | cons d m =>
      simp only [List.cons_append] at h
      injection h with h1 h2
      obtain ⟨h3, h4⟩ := ih (fun x hx => hl x (by simp [hx])) (fun x hx => hm x (by simp [hx])) h2
      exact ⟨by rw [h1, h3], h4⟩
theorem head_num {n m : Nat} {a b : List UInt8} (hn : n < 129) (hm : m < 129) (h : headL n ++ a = headL m ++ b) : n = m ∧ a = b := by
  have e : ∀ k (x : List UInt8), headL k ++ x = numL k ++ 32 :: (seatW (dealP k) ++ 32 :: (wordW (vulP k) ++ 32 :: x)) := by intro k x; simp [headL, sp]
  rw [e, e] at h
  obtain ⟨h1, h2⟩ := first_sp (num_no n hn) (num_no m hm) h
  have h3 : n = m := by rw [← val_num n hn, ← val_num m hm, h1]
  subst h3
  exact ⟨rfl, by simpa using h2⟩
theorem write_inj {a b : Nat} (ha : a < 4503599627370496) (hb : b < 4503599627370496) (h : writeL a = writeL b) : a = b := by
  have h1 := (rparse_iff (writeL a) a).2 ⟨ha, rfl⟩
  have h2 := (rparse_iff (writeL b) b).2 ⟨hb, rfl⟩
  rw [h, h2] at h1
  exact (Option.some.inj h1).symm
theorem deal_inj {D E : Nat → Nat} (hD : ∀ k, k < 4 → D k < 4503599627370496) (hE : ∀ k, k < 4 → E k < 4503599627370496) (h : dealT D = dealT E) : D 0 = E 0 ∧ D 1 = E 1 ∧ D 2 = E 2 ∧ D 3 = E 3 := by
  have h1 := (rd_iff (dealT D) D).2 ⟨hD, rfl⟩
  have h2 := (rd_iff (dealT E) E).2 ⟨hE, rfl⟩
  rw [h, h2] at h1
  have := Option.some.inj h1
  simp only [four, List.cons.injEq, and_true] at this
  obtain ⟨a, b, c, d⟩ := this
  exact ⟨a.symm, b.symm, c.symm, d.symm⟩
theorem right_lt {D : Nat → Nat} (h : rightB D = true) : ∀ k, k < 4 → D k < 4503599627370496 := fun k hk => by
  unfold rightB at h
  rw [Bool.and_eq_true] at h
  have := ((part_iff D).1 h.1 k hk).1
  omega
/-- A string that is the text of a right record. -/
def IsB (s : List UInt8) (n : Nat) (D : Nat → Nat) : Prop := 1 ≤ n ∧ n ≤ 128 ∧ rightB D = true ∧ s = textB n D
theorem isB_one {s : List UInt8} {n m : Nat} {D E : Nat → Nat} (h : IsB s n D) (k : IsB s m E) : n = m ∧ D 0 = E 0 ∧ D 1 = E 1 ∧ D 2 = E 2 ∧ D 3 = E 3 := by
  obtain ⟨a1, a2, a3, rfl⟩ := h
  obtain ⟨b1, b2, b3, h⟩ := k
  rw [text_head, text_head] at h
  obtain ⟨rfl, h2⟩ := head_num (by omega) (by omega) h
  refine ⟨rfl, deal_inj (right_lt a3) (right_lt b3) ?_⟩
  unfold textD at h2
  simpa using h2
end Pl
end Go.Proofs.YtaadipccgckehaaDoor
