/- For entry.guess: the entry under way, plain and in memory; the rest of a slice of words. -/
import Derived.Test.YtpkmibmombpjpaaGreatDoorEB
namespace Go.Proofs.YtpkmibmombpjpaaGreatDoor
open Go Go.RowKit

def gE (a b c d : Int) (k f : Nat) (t : Bool) (l : List Ou) (x y : Int) : En := ⟨a, b, c, d, k, f, t, l.getD 0 zeroO, l.getD 1 zeroO, l.getD 2 zeroO, l.getD 3 zeroO, x, y⟩
def guessK (a b c d : Int) (k : Nat) (rest : List (List UInt8)) : Option En :=
  if k = 0 then (if rest.length = 0 then some (gE a b c d 0 0 false [] 0 0) else none)
  else if k = 4 then (match rest with
    | [x, y] => some (gE a b c d 4 0 false [] (numW x) (numW y))
    | _ => none)
  else (match rest with
    | f :: t :: os => if os.length < 1 ∨ 4 < os.length then none else (outsW os).map fun l => gE a b c d k (smallW f) (decide (t = wTurned)) l 0 0
    | _ => none)
theorem guessP_K (a b c d k : List UInt8) (rest : List (List UInt8)) : guessP (a :: b :: c :: d :: k :: rest) = guessK (numW a) (numW b) (numW c) (numW d) (kindOf k) rest := by
  unfold guessP guessK
  rfl
theorem guessK_0 (a b c d : Int) (rest : List (List UInt8)) : guessK a b c d 0 rest = (if decide (rest.length = 0) then some (gE a b c d 0 0 false [] 0 0) else none) := by
  unfold guessK
  rw [if_pos rfl]
  by_cases h : rest.length = 0
  · rw [if_pos h, decide_eq_true h]; rfl
  · rw [if_neg h, decide_eq_false h]; rfl
theorem guessK_4 (a b c d : Int) (x y : List UInt8) : guessK a b c d 4 [x, y] = some (gE a b c d 4 0 false [] (numW x) (numW y)) := rfl
theorem guessK_4' (a b c d : Int) (rest : List (List UInt8)) (h : rest.length ≠ 2) : guessK a b c d 4 rest = none := by
  match rest, h with
  | [], _ => rfl
  | [_], _ => rfl
  | [_, _], h => exact absurd rfl h
  | _ :: _ :: _ :: _, _ => rfl
theorem guessK_n (a b c d : Int) (k : Nat) (rest : List (List UInt8)) (h0 : k ≠ 0) (h4 : k ≠ 4) (h : rest.length < 3 ∨ 6 < rest.length) : guessK a b c d k rest = none := by
  unfold guessK
  rw [if_neg h0, if_neg h4]
  match rest, h with
  | [], _ => rfl
  | [_], _ => rfl
  | _ :: _ :: os, h =>
    have : os.length < 1 ∨ 4 < os.length := by
      simp only [List.length_cons] at h; omega
    exact if_pos this
theorem guessK_s (a b c d : Int) (k : Nat) (f t : List UInt8) (os : List (List UInt8)) (h0 : k ≠ 0) (h4 : k ≠ 4) (h1 : 1 ≤ os.length) (h2 : os.length ≤ 4) : guessK a b c d k (f :: t :: os) = (outsW os).map fun l => gE a b c d k (smallW f) (decide (t = wTurned)) l 0 0 := by
  unfold guessK
  rw [if_neg h0, if_neg h4]
  exact if_neg (by omega)
theorem kindOf_is (q : List UInt8) (k : Nat) (hk : k ≤ 4) (hlow : ∀ j, j < k → q ≠ kindW j) (hat : k = 4 ∨ q = kindW k) : kindOf q = k := by
  rcases Nat.lt_or_ge k 4 with h | h
  · rcases hat with h4 | h4
    · omega
    · rw [h4]; exact kind_of k hk
  · obtain rfl : k = 4 := by omega
    have h0 := hlow 0 (by omega)
    have h1 := hlow 1 (by omega)
    have h2 := hlow 2 (by omega)
    have h3 := hlow 3 (by omega)
    unfold kindOf
    rw [if_neg (show q ≠ wVoid from h0), if_neg (show q ≠ wPlayed from h1), if_neg (show q ≠ wWeighted from h2), if_neg (show q ≠ wSplit from h3)]
theorem kindOf_le (q : List UInt8) : kindOf q ≤ 4 := by
  unfold kindOf
  repeat' split
  all_goals omega
theorem outsW_snoc : ∀ (l : List (List UInt8)) (x : List UInt8), outsW (l ++ [x]) = (outsW l).bind fun m => (outW x).map fun o => m ++ [o]
  | [], x => by
    show (outW x).bind _ = (outW x).map _
    cases outW x <;> rfl
  | w :: l, x => by
    rw [List.cons_append, outsW, outsW, outsW_snoc l x]
    cases outW w with
    | none => rfl
    | some o =>
      cases outsW l with
      | none => rfl
      | some m => cases outW x <;> rfl
theorem outsW_stop (l m : List (List UInt8)) (h : outsW l = none) : outsW (l ++ m) = none := by
  induction l with
  | nil => cases h
  | cons w l ih =>
    rw [List.cons_append, outsW]
    rw [outsW] at h
    cases hw : outW w with
    | none => rfl
    | some o =>
      rw [hw] at h
      cases hl : outsW l with
      | none => rw [ih hl]; rfl
      | some m => rw [hl] at h; cases h
theorem outsW_len : ∀ (l : List (List UInt8)) (m : List Ou), outsW l = some m → m.length = l.length
  | [], m, h => by injection h with h; subst h; rfl
  | w :: l, m, h => by
    rw [outsW] at h
    cases hw : outW w with
    | none => rw [hw] at h; cases h
    | some o =>
      rw [hw] at h
      cases hl : outsW l with
      | none => rw [hl] at h; cases h
      | some n =>
        rw [hl] at h
        injection h with h
        subst h
        rw [List.length_cons, List.length_cons, outsW_len l n hl]
theorem outsW_step {os : List (List UInt8)} {i : Nat} {x : List UInt8} (hx : os[i]? = some x) : os.take (i + 1) = os.take i ++ [x] := take_more hx
theorem outsW_bad {os : List (List UInt8)} {i : Nat} {x : List UInt8} (hx : os[i]? = some x) (h : outW x = none) : outsW os = none := by
  rw [← List.take_append_drop (i + 1) os, take_more hx]
  apply outsW_stop
  rw [outsW_snoc, h]
  cases outsW (os.take i) <;> rfl
theorem outsW_good {os : List (List UInt8)} {i : Nat} {x : List UInt8} {m : List Ou} {o : Ou} (hx : os[i]? = some x) (hm : outsW (os.take i) = some m) (h : outW x = some o) : outsW (os.take (i + 1)) = some (m ++ [o]) := by
  rw [take_more hx, outsW_snoc, hm, h]
  rfl
/-- The cells of the entry under way. -/
theorem gE_kd (a b c d : Int) (k k' f : Nat) (t : Bool) (l : List Ou) (x y : Int) : (enC (gE a b c d k f t l x y)).setIfInBounds 4 (.int .u8 ((k' : Nat) : Int)) = enC (gE a b c d k' f t l x y) := by
  unfold enC
  rw [List.setIfInBounds_toArray]
  rfl
theorem gE_fd (a b c d : Int) (k f f' : Nat) (t : Bool) (l : List Ou) (x y : Int) : (enC (gE a b c d k f t l x y)).setIfInBounds 5 (.int .u8 ((f' : Nat) : Int)) = enC (gE a b c d k f' t l x y) := by
  unfold enC
  rw [List.setIfInBounds_toArray]
  rfl
theorem gE_tn (a b c d : Int) (k f : Nat) (t t' : Bool) (l : List Ou) (x y : Int) : (enC (gE a b c d k f t l x y)).setIfInBounds 6 (.bool t') = enC (gE a b c d k f t' l x y) := by
  unfold enC
  rw [List.setIfInBounds_toArray]
  rfl
def putC (C : Array Value) (off : Nat) : List Value → Array Value
  | [] => C
  | v :: vs => putC (C.setIfInBounds off v) (off + 1) vs
theorem Blk.putC {b : Nat} {t : TypeId} : ∀ (vs : List Value) (k : Nat) (w : World) (C : Array Value), Blk w b t C → Blk (w.setCells b k vs) b t (putC C k vs)
  | [], _, _, _, h => h
  | v :: vs, k, _, _, h => Blk.putC vs (k + 1) _ _ (h.set k v)
theorem gE_aw (a b c d : Int) (k f : Nat) (t : Bool) (l : List Ou) (x y x' y' : Int) : putC (enC (gE a b c d k f t l x y)) 31 [.int .i64 x', .int .i64 y'] = enC (gE a b c d k f t l x' y') := by
  unfold enC
  simp only [putC, List.setIfInBounds_toArray]
  rfl
theorem gE_ou (a b c d : Int) (k f : Nat) (t : Bool) (l : List Ou) (x y : Int) (o : Ou) (hl : l.length < 4) : putC (enC (gE a b c d k f t l x y)) (7 + l.length * 6) (ouL o) = enC (gE a b c d k f t (l ++ [o]) x y) := by
  match l, hl with
  | [], _ => unfold enC; simp only [putC, ouL, List.setIfInBounds_toArray]; rfl
  | [_], _ => unfold enC; simp only [putC, ouL, List.setIfInBounds_toArray]; rfl
  | [_, _], _ => unfold enC; simp only [putC, ouL, List.setIfInBounds_toArray]; rfl
  | [_, _, _], _ => unfold enC; simp only [putC, ouL, List.setIfInBounds_toArray]; rfl
  | _ :: _ :: _ :: _ :: _, h => simp only [List.length_cons] at h; omega
theorem enC_cell {w : World} {b : Nat} {e : En} (h : Blk w b 34 (enC e)) (j : Nat) (hj : j < 33) : (w.cell? ⟨b, j, none⟩).isSome = true := by
  have : (enC e)[j]? = some ((enC e)[j]'(by rw [enC_size]; exact hj)) := Array.getElem?_eq_getElem _
  rw [h.cell this]; rfl
/-- The rest of a slice of words. -/
theorem slice_str {b o n c k : Nat} (hk : k ≤ n) (hn : n ≤ c) : ∃ A : Addr, (∀ W, (Instr.sliceAt 59 (.slice (some ⟨b, o, none⟩) n c) (some (.int .i64 (k : Int))) none none).run Tryz.prog W = .ok (.slice (some A) (n - k) (c - k)) W) ∧
    ∀ (W : World) (l : List (List UInt8)), RS W (.slice (some ⟨b, o, none⟩) n c) l → RS W (.slice (some A) (n - k) (c - k)) (l.drop k) := by
  have h1 : (0 : Int) ≤ (k : Int) ∧ (k : Int) ≤ (n : Int) := by omega
  refine ⟨if c = k then ⟨b, o, none⟩ else ⟨b, o + k, none⟩, fun W => ?_, fun W l h => ?_⟩
  · have hu : Tryz.prog.underlying 59 = some (.slice (Tryz.prog.elem 59)) := by kernel_rfl
    have hs : (sizeOf (Tryz.prog.elem 59)).run Tryz.prog W = .ok 1 W := by kernel_rfl
    rw [run_sliceAt_slice _ _ _ _ _ _ hu, run_slice_any _ _ _ _ _ hu]
    simp only [Instr.sliceBounds, Sem.run_bind, Sem.run_pure, run_sliceBound_if, h1, and_self, if_true, Int.toNat_natCast, Result.andThen_ok, hs, sliced]
    simp
    split <;> simp [Addr.add]
  · cases h with
    | some_ b o cap l hlt h =>
      have := RS.some_ (W := W) (if c = k then b else b) (if c = k then o else o + k) (c - k) (l.drop k) (by split <;> exact hlt) (fun i r hi => by
        rw [List.getElem?_drop] at hi
        by_cases hc : c = k
        · have := (List.getElem?_eq_some_iff.1 hi).1; omega
        · rw [if_neg hc, if_neg hc, Nat.add_assoc]
          exact h _ _ hi)
      rw [List.length_drop] at this
      by_cases hc : c = k
      · rw [if_pos hc] at this ⊢
        rwa [if_pos hc] at this
      · rw [if_neg hc] at this ⊢
        rwa [if_neg hc] at this
end Go.Proofs.YtpkmibmombpjpaaGreatDoor
