/- Classes: the program's map of deals. -/
import Derived.Test.YtaadipccgckehaaGreatDoorBJ
import Derived.Maps.OwnSet
import Derived.Maps.OwnOps
import Derived.Maps.Views
import Derived.DeepKeys4
import Derived.WideKeyPair
namespace Go.Proofs.YtaadipccgckehaaGreatDoor
open Go Go.RowKit Go.Maps Pl

theorem arrD : WideMaps.ArrKey Tryz.prog 24 22 4 := ⟨Tryz.underlying24, by kernel_rfl, by kernel_rfl, by kernel_rfl⟩
theorem wideD : (match Tryz.prog.underlying 24 with | some (.array _ _) | some (.struct _) => true | _ => false) = true := by rw [Tryz.underlying24]
set_option maxRecDepth 100000 in
theorem lawD : Maps.Keyed Tryz.prog 24 := Maps.Keyed.of_law (deep_law_laid (by kernel_rfl) (m := 2) (by omega) (of_decide_eq_true (by kernel_rfl)) (by kernel_rfl) wideD)
/-- What a deal reads as, as a key. -/
def KL (D : Nat → Nat) : Lit := .string (keyBytes [.int .u64 (D 0 : Nat), .int .u64 (D 1 : Nat), .int .u64 (D 2 : Nat), .int .u64 (D 3 : Nat)])
theorem wf64 {n : Nat} (h : n < 18446744073709551616) : (Lit.int .u64 (n : Int)).wf = true := by
  simp [Lit.wf, IntKind.min, IntKind.max, IntKind.bits, IntKind.signed]
  omega
theorem key_deal (D : Nat → Nat) (hD : D64 D) : keyOf Tryz.prog 24 (.agg #[.int .u64 (D 0 : Nat), .int .u64 (D 1 : Nat), .int .u64 (D 2 : Nat), .int .u64 (D 3 : Nat)]) = some (KL D) := by
  have hsz : ∃ m, Tryz.prog.types.size = m + 1 := ⟨Tryz.prog.types.size - 1, by have : 0 < Tryz.prog.types.size := of_decide_eq_true (by kernel_rfl); omega⟩
  have hkt := arrD.keyType hsz
  have he : Tryz.prog.underlying 22 = some (.int .u64) := Tryz.underlying22
  obtain ⟨m, hm⟩ := hsz
  unfold keyOf
  simp only [arrD.hu]
  rw [if_pos (by simp [hkt, Value.formed, arrD.hu, arrD.size]), hm]
  unfold Program.keyLits
  simp only [arrD.hu, Value.cells]
  rw [if_pos (by rw [arrD.size]; rfl), show List.range 4 = [0, 1, 2, 3] from rfl, List.mapM_cons, List.mapM_cons, List.mapM_cons, List.mapM_cons, List.mapM_nil]
  simp [arrD.one, Program.keyLits, he, wf64 (hD 0 (by omega)), wf64 (hD 1 (by omega)), wf64 (hD 2 (by omega)), wf64 (hD 3 (by omega)), KL]
theorem key_inj {D E : Nat → Nat} (hD : D64 D) (hE : D64 E) (h : KL D = KL E) : D 0 = E 0 ∧ D 1 = E 1 ∧ D 2 = E 2 ∧ D 3 = E 3 := by
  have h1 := lawD.inj (key_deal D hD) (h ▸ key_deal E hE)
  injection h1 with h1
  have h2 := congrArg Array.toList h1
  simp only [List.cons.injEq, Value.int.injEq, true_and, and_true] at h2
  omega
theorem key_lit (D : Nat → Nat) : WideAt.IsKeyLit (KL D) := trivial
def F64 (x : Four) : Prop := D64 (ofF x)
theorem four_ext {x y : Four} (h : ofF x 0 = ofF y 0 ∧ ofF x 1 = ofF y 1 ∧ ofF x 2 = ofF y 2 ∧ ofF x 3 = ofF y 3) : x = y := by
  obtain ⟨a, b, c, d⟩ := x
  obtain ⟨a', b', c', d'⟩ := y
  obtain ⟨rfl, rfl, rfl, rfl⟩ : a = a' ∧ b = b' ∧ c = c' ∧ d = d' := h
  rfl
theorem key_ne {x y : Four} (hx : F64 x) (hy : F64 y) (h : x ≠ y) : KL (ofF x) ≠ KL (ofF y) := fun e => h (four_ext (key_inj hx hy e))
/-- A slice of deals, nil or not. -/
inductive DR (t : TypeId) (W : World) : Value → List Four → Prop
  | none_ : DR t W (.slice none 0 0) []
  | some_ (b o cap : Nat) (l : List Four) (hb : b < W.heap.size) (h : ∀ i x, l[i]? = some x → ∀ k, k < 4 → W.cell? ⟨b, o + i * 4 + k, none⟩ = some (.int .u64 (ofF x k : Nat))) : DR t W (.slice (some ⟨b, o, none⟩) l.length cap) l
theorem DR.keep {t : TypeId} {W W' : World} {v : Value} {l : List Four} (h : DR t W v l) (hb : Below W.heap.size W W') : DR t W' v l := by
  cases h with
  | none_ => exact .none_
  | some_ b o cap l hlt h => exact .some_ b o cap l (Nat.lt_of_lt_of_le hlt hb.size) (fun i r hi k hk => keepW hb (h i r hi k hk))
theorem DR.len {t : TypeId} {W : World} {v : Value} {l : List Four} (h : DR t W v l) : ∃ A cap, v = .slice A l.length cap := by
  cases h with
  | none_ => exact ⟨_, _, rfl⟩
  | some_ b o cap l _ h => exact ⟨_, _, rfl⟩
theorem DR.at {t : TypeId} {W : World} {A : Option Addr} {n cap i : Nat} {l : List Four} {x : Four} (h : DR t W (.slice A n cap) l) (hi : l[i]? = some x) : ∃ b o, A = some ⟨b, o, none⟩ ∧ ∀ k, k < 4 → W.cell? ⟨b, o + i * 4 + k, none⟩ = some (.int .u64 (ofF x k : Nat)) := by
  cases h with
  | none_ => simp at hi
  | some_ b o cap l hlt h => exact ⟨b, o, rfl, h i x hi⟩
/-- The map of the first i deals. -/
structure CM (w : World) (b i : Nat) (l : List Four) (Dm : DataW Unit) : Prop where
  own : w.ownsMap Tryz.prog 24 (plainElem Tryz.prog 3) b i Dm
  has : ∀ x : Four, F64 x → Maps.has Dm (KL (ofF x)) = decide (x ∈ l.take i)
  get : ∀ (j : Nat) (x : Four), j < i → l[j]? = some x → Dm.atKey (KL (ofF x)) (.lit (.int .i64 0)) = .lit (.int .i64 (firstIx l x : Nat))
/-- The cells of the classes of the first i deals. -/
def clC (l : List Four) (N i : Nat) : Array Value := ((List.range N).map (fun j => Value.int .i64 ((if j < i then (classL l).getD j 0 else 0 : Nat) : Int))).toArray
theorem clC_0 (l : List Four) (N : Nat) : clC l N 0 = ((List.range N).map (fun _ => Value.int .i64 0)).toArray := by simp [clC]
theorem clC_get (l : List Four) (N i j : Nat) (hj : j < N) : ∃ v, (clC l N i)[j]? = some v := ⟨_, Array.getElem?_eq_getElem (by simp [clC]; exact hj)⟩
theorem clC_set (l : List Four) (N i : Nat) (x : Four) (hx : l[i]? = some x) : (clC l N i).setIfInBounds i (.int .i64 (firstIx l x : Nat)) = clC l N (i + 1) := by
  apply Array.ext
  · simp [clC]
  · intro j h1 h2
    have hj : j < N := by simpa [clC] using h2
    rw [Array.getElem_setIfInBounds]
    · by_cases h : i = j
      · subst h
        simp [clC, classL, hx]
      · simp only [h, if_false]
        simp only [clC, List.getElem_toArray, List.getElem_map, List.getElem_range]
        by_cases h3 : j < i
        · rw [if_pos h3, if_pos (by omega)]
        · rw [if_neg h3, if_neg (by omega)]
    · simpa [clC] using hj
theorem clC_all (l : List Four) : clC l l.length l.length = ((classL l).map (fun n : Nat => Value.int .i64 (n : Int))).toArray := by
  apply Array.ext
  · simp [clC, classL]
  · intro j h1 h2
    have hj : j < l.length := by simpa [clC] using h1
    simp [clC, classL, hj]
theorem CM.new (w : World) (l : List Four) : CM (w.alloc (.map #[] 0)) w.heap.size 0 l (.map []) :=
  ⟨World.ownsMap_made _ _ _ _, fun x _ => by simp [Maps.has], fun j x hj => absurd hj (by omega)⟩
theorem CM.kept {w w' : World} {b i : Nat} {l : List Four} {Dm : DataW Unit} {row : Option Nat} (h : CM w b i l Dm) (hg : w.grownBy w' row) (hne : some b ≠ row) : CM w' b i l Dm := ⟨h.own.kept hg hne, h.has, h.get⟩
theorem CM.skip {w : World} {b i : Nat} {l : List Four} {Dm : DataW Unit} {x : Four} (h : CM w b i l Dm) (hx : l[i]? = some x) (hin : x ∈ l.take i) : CM w b (i + 1) l Dm := by
  refine ⟨h.own.mono (by omega), fun y hy => ?_, fun j y hj hl => ?_⟩
  · rw [h.has y hy, take_more hx]
    by_cases e : y = x
    · subst e; simp [hin]
    · simp [e]
  · rcases Nat.lt_or_ge j i with h1 | h1
    · exact h.get j y h1 hl
    · obtain rfl : j = i := by omega
      rw [hx] at hl
      obtain rfl := Option.some.inj hl
      obtain ⟨q, hq⟩ := List.getElem?_of_mem hin
      rw [List.getElem?_take] at hq
      split at hq
      · exact h.get q x (by assumption) hq
      · cases hq
theorem CM.put {w w' : World} {b i : Nat} {l : List Four} {Dm : DataW Unit} {x : Four} (h : CM w b i l Dm) (hall : ∀ (j : Nat) (y : Four), l[j]? = some y → F64 y) (hx : l[i]? = some x) (hin : ¬ x ∈ l.take i)
    (hown : w'.ownsMap Tryz.prog 24 (plainElem Tryz.prog 3) b (i + 1) (Dm.put (KL (ofF x)) (.lit (.int .i64 (i : Int))))) : CM w' b (i + 1) l (Dm.put (KL (ofF x)) (.lit (.int .i64 (i : Int)))) := by
  have hm := h.own.isMap
  have h64 := hall i x hx
  have hfirst : firstIx l x = i := by
    have h1 := first_lt hx
    rcases Nat.lt_or_ge (firstIx l x) i with h2 | h2
    · exact absurd (List.mem_of_getElem? (i := firstIx l x) (by rw [List.getElem?_take, if_pos h2]; exact first_at hx)) hin
    · omega
  refine ⟨hown, fun y hy => ?_, fun j y hj hl => ?_⟩
  · rw [take_more hx]
    by_cases e : y = x
    · subst e
      rw [has_put_same hm (key_lit _)]
      simp
    · rw [has_put_other (key_ne hy h64 e), h.has y hy]
      simp [e]
  · by_cases e : y = x
    · subst e
      rw [atKey_put_same hm (key_lit _), hfirst]
    · rw [atKey_put_other (key_ne (hall j y hl) h64 e)]
      rcases Nat.lt_or_ge j i with h1 | h1
      · exact h.get j y h1 hl
      · obtain rfl : j = i := by omega
        rw [hx] at hl
        exact absurd (Option.some.inj hl).symm e
end Go.Proofs.YtaadipccgckehaaGreatDoor
