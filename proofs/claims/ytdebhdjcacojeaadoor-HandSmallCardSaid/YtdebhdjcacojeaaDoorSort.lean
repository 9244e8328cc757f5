/- Plain facts of the four suits sorted by length, longest first, the higher suit first of two alike. -/
import Derived.Test.YtdebhdjcacojeaaDoorPat
namespace Go.Proofs.YtdebhdjcacojeaaDoor

theorem sort_ok (L : Nat → Nat) (a b c d : Nat) (h : sortTo L 4 = (a, b, c, d)) :
    (L b < L a ∨ L b = L a ∧ b < a) ∧ (L c < L b ∨ L c = L b ∧ c < b) ∧ (L d < L c ∨ L d = L c ∧ d < c) ∧ (a ≠ b ∧ a ≠ c ∧ a ≠ d ∧ b ≠ c ∧ b ≠ d ∧ c ≠ d) := by
  unfold sortTo sortTo sortTo sortTo sortTo bub at h
  rcases Nat.lt_or_ge (L 3) (L 2) with h1 | h1 <;> rcases Nat.lt_or_ge (L 3) (L 1) with h2 | h2 <;> rcases Nat.lt_or_ge (L 2) (L 1) with h3 | h3 <;>
    rcases Nat.lt_or_ge (L 3) (L 0) with h4 | h4 <;> rcases Nat.lt_or_ge (L 2) (L 0) with h5 | h5 <;> rcases Nat.lt_or_ge (L 1) (L 0) with h6 | h6 <;>
    simp [h1, h2, h3, h4, h5, h6, Nat.not_lt.2] at h <;> (try omega) <;> (obtain ⟨rfl, rfl, rfl, rfl⟩ := h; omega)

theorem met_ok : ∀ a b c d : Fin 4, (a ≠ b ∧ a ≠ c ∧ a ≠ d ∧ b ≠ c ∧ b ≠ d ∧ c ≠ d) →
    bits BinOp.or IntKind.i64 0 ((2 : Int) ^ a.val) = (2 : Int) ^ a.val ∧ bits BinOp.or IntKind.i64 ((2 : Int) ^ a.val) ((2 : Int) ^ b.val) = (2 : Int) ^ a.val + (2 : Int) ^ b.val ∧
    bits BinOp.or IntKind.i64 ((2 : Int) ^ a.val + (2 : Int) ^ b.val) ((2 : Int) ^ c.val) = (2 : Int) ^ a.val + (2 : Int) ^ b.val + (2 : Int) ^ c.val ∧
    bits BinOp.or IntKind.i64 ((2 : Int) ^ a.val + (2 : Int) ^ b.val + (2 : Int) ^ c.val) ((2 : Int) ^ d.val) = 15 := by decide +kernel

/-- A length in decimal. -/
def digT (n : Nat) : List UInt8 := (if 9 < n then [49] else []) ++ [UInt8.ofNat (48 + n % 10)]
theorem digT_ok (n : Nat) (h : n ≤ 13) : digT n = Lib.decDigits n := by
  have : ∀ n : Fin 14, digT n.val = Lib.decDigits n.val := by decide +kernel
  exact this ⟨n, by omega⟩
/-- The text after k suits. -/
def textTo (L : Nat → Nat) (a b c d : Nat) : Nat → List UInt8
  | 0 => []
  | 1 => digT (L a)
  | 2 => digT (L a) ++ [45] ++ digT (L b)
  | 3 => digT (L a) ++ [45] ++ digT (L b) ++ [45] ++ digT (L c)
  | _ => digT (L a) ++ [45] ++ digT (L b) ++ [45] ++ digT (L c) ++ [45] ++ digT (L d)
theorem textTo_4 (L : Nat → Nat) (a b c d : Nat) (ha : L a ≤ 13) (hb : L b ≤ 13) (hc : L c ≤ 13) (hd : L d ≤ 13) : textTo L a b c d 4 = patL L (a, b, c, d) := by
  unfold patL
  simp [textTo, digT_ok, ha, hb, hc, hd, Lib.join]
theorem text1 (L : Nat → Nat) (a b c d : Nat) : textTo L a b c d 1 = textTo L a b c d 0 ++ digT (L a) := rfl
theorem text2 (L : Nat → Nat) (a b c d : Nat) : textTo L a b c d 2 = textTo L a b c d 1 ++ [45] ++ digT (L b) := rfl
theorem text3 (L : Nat → Nat) (a b c d : Nat) : textTo L a b c d 3 = textTo L a b c d 2 ++ [45] ++ digT (L c) := rfl
theorem text4 (L : Nat → Nat) (a b c d : Nat) : textTo L a b c d 4 = textTo L a b c d 3 ++ [45] ++ digT (L d) := rfl
theorem text0 (L : Nat → Nat) (a b c d : Nat) : textTo L a b c d 0 = [] := rfl
theorem digT_len (n : Nat) : (digT n).length ≤ 2 := by unfold digT; split <;> simp
theorem text_len (L : Nat → Nat) (a b c d k : Nat) : (textTo L a b c d k).length ≤ 11 := by
  have h1 := digT_len (L a)
  have h2 := digT_len (L b)
  have h3 := digT_len (L c)
  have h4 := digT_len (L d)
  unfold textTo
  split <;> simp <;> omega
attribute [irreducible] textTo
theorem digT_hi (n : Nat) (h : 9 < n) : digT n = [49, UInt8.ofNat (48 + n % 10)] := by simp [digT, h]
theorem digT_lo (n : Nat) (h : ¬ 9 < n) : digT n = [UInt8.ofNat (48 + n % 10)] := by simp [digT, h]
attribute [irreducible] digT
/-- The suits seen after k rounds, as bits. -/
def metTo (a b c _d : Nat) : Nat → Int
  | 0 => 0
  | 1 => (2 : Int) ^ a
  | 2 => (2 : Int) ^ a + (2 : Int) ^ b
  | 3 => (2 : Int) ^ a + (2 : Int) ^ b + (2 : Int) ^ c
  | _ => 15
theorem met_to (a b c d : Nat) (ha : a < 4) (hb : b < 4) (hc : c < 4) (hd : d < 4) (h : a ≠ b ∧ a ≠ c ∧ a ≠ d ∧ b ≠ c ∧ b ≠ d ∧ c ≠ d) :
    bits BinOp.or IntKind.i64 (metTo a b c d 0) ((2 : Int) ^ a) = metTo a b c d 1 ∧ bits BinOp.or IntKind.i64 (metTo a b c d 1) ((2 : Int) ^ b) = metTo a b c d 2 ∧
    bits BinOp.or IntKind.i64 (metTo a b c d 2) ((2 : Int) ^ c) = metTo a b c d 3 ∧ bits BinOp.or IntKind.i64 (metTo a b c d 3) ((2 : Int) ^ d) = metTo a b c d 4 :=
  met_ok ⟨a, ha⟩ ⟨b, hb⟩ ⟨c, hc⟩ ⟨d, hd⟩ (by simpa [Fin.ext_iff] using h)
theorem met0 (a b c d : Nat) : metTo a b c d 0 = 0 := rfl
theorem met4 (a b c d : Nat) : metTo a b c d 4 = 15 := rfl
attribute [irreducible] metTo
theorem two4 (a : Nat) (h : a < 4) : IntKind.i64.wrap ((2 : Int) ^ a) = (2 : Int) ^ a := by
  rcases (by omega : a = 0 ∨ a = 1 ∨ a = 2 ∨ a = 3) with rfl | rfl | rfl | rfl <;> decide
end Go.Proofs.YtdebhdjcacojeaaDoor
