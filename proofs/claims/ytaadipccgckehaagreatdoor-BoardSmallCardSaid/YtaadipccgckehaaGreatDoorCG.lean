/- The examples: the map literal that awake goes through. -/
import Derived.Test.YtaadipccgckehaaGreatDoorCF
import Derived.Test.YtaadipccgckehaaGreatDoorBL
import Derived.Maps.RangeWalk
namespace Go.Proofs.YtaadipccgckehaaGreatDoor
open Go Go.RowKit Go.Shelf Go.Maps Pl

/-- A pair of numbers as it reads. -/
def pairE (a b : Int) : DataW Unit := .agg [.lit (.int .u8 a), .lit (.int .u8 b)]
def R2l : List Value → Option (DataW Unit × List MemPlace)
  | [.int .u8 a, .int .u8 b] => some (pairE a b, [])
  | _ => none
def R2 : Value → Option (DataW Unit × List MemPlace)
  | .agg cs => R2l cs.toList
  | _ => none
def mk2 (c : Int × Int) : Value := .agg #[.int .u8 c.1, .int .u8 c.2]
theorem R2_inv (v : Value) (y : DataW Unit × List MemPlace) (h : R2 v = some y) : ∃ c : Int × Int, v = mk2 c := by
  cases v with
  | agg cs =>
    simp only [R2] at h
    obtain ⟨l⟩ := cs
    unfold R2l at h
    split at h
    · rename_i a b e
      exact ⟨(a, b), by unfold mk2; simp only at e; rw [e]⟩
    · cases h
  | _ => cases h
theorem pair_inj {a b c d : Int} (h : pairE a b = pairE c d) : a = c ∧ b = d := by
  unfold pairE at h
  injection h with h
  injection h with h1 h2
  injection h1 with h1
  injection h1 with _ h1
  injection h2 with h2 _
  injection h2 with h2
  injection h2 with _ h2
  exact ⟨h1, h2⟩
def kI (x : Int) : Lit := .int .i64 x
def D8 : DataW Unit := ((((((((DataW.map []).put (kI 1) (pairE 0 0)).put (kI 2) (pairE 1 1)).put (kI 3) (pairE 2 2)).put (kI 4) (pairE 3 3)).put (kI 5) (pairE 0 1)).put (kI 16) (pairE 3 2)).put (kI 17) (pairE 0 0)).put (kI 128) (pairE 3 2)
theorem kI_ne {x y : Int} (h : x ≠ y) : kI x ≠ kI y := fun e => h (by unfold kI at e; injection e)
theorem d8_key (x a b : Int) (h : ∀ zd, D8.atKey (kI x) zd = pairE a b) : ∃ n : Nat, 1 ≤ n ∧ n ≤ 128 ∧ x = (n : Int) ∧ a = (dealP n : Nat) ∧ b = (vulP n : Nat) := by
  by_cases h1 : x = 1
  · subst h1; obtain ⟨e1, e2⟩ := pair_inj (show pairE 0 0 = pairE a b from h .nil); exact ⟨1, by omega, by omega, rfl, by rw [← e1]; rfl, by rw [← e2]; rfl⟩
  by_cases h2 : x = 2
  · subst h2; obtain ⟨e1, e2⟩ := pair_inj (show pairE 1 1 = pairE a b from h .nil); exact ⟨2, by omega, by omega, rfl, by rw [← e1]; rfl, by rw [← e2]; rfl⟩
  by_cases h3 : x = 3
  · subst h3; obtain ⟨e1, e2⟩ := pair_inj (show pairE 2 2 = pairE a b from h .nil); exact ⟨3, by omega, by omega, rfl, by rw [← e1]; rfl, by rw [← e2]; rfl⟩
  by_cases h4 : x = 4
  · subst h4; obtain ⟨e1, e2⟩ := pair_inj (show pairE 3 3 = pairE a b from h .nil); exact ⟨4, by omega, by omega, rfl, by rw [← e1]; rfl, by rw [← e2]; rfl⟩
  by_cases h5 : x = 5
  · subst h5; obtain ⟨e1, e2⟩ := pair_inj (show pairE 0 1 = pairE a b from h .nil); exact ⟨5, by omega, by omega, rfl, by rw [← e1]; rfl, by rw [← e2]; rfl⟩
  by_cases h6 : x = 16
  · subst h6; obtain ⟨e1, e2⟩ := pair_inj (show pairE 3 2 = pairE a b from h .nil); exact ⟨16, by omega, by omega, rfl, by rw [← e1]; rfl, by rw [← e2]; rfl⟩
  by_cases h7 : x = 17
  · subst h7; obtain ⟨e1, e2⟩ := pair_inj (show pairE 0 0 = pairE a b from h .nil); exact ⟨17, by omega, by omega, rfl, by rw [← e1]; rfl, by rw [← e2]; rfl⟩
  by_cases h8 : x = 128
  · subst h8; obtain ⟨e1, e2⟩ := pair_inj (show pairE 3 2 = pairE a b from h .nil); exact ⟨128, by omega, by omega, rfl, by rw [← e1]; rfl, by rw [← e2]; rfl⟩
  exfalso
  have h0 := h .nil
  unfold D8 at h0
  rw [atKey_put_other (kI_ne h8), atKey_put_other (kI_ne h7), atKey_put_other (kI_ne h6), atKey_put_other (kI_ne h5), atKey_put_other (kI_ne h4), atKey_put_other (kI_ne h3), atKey_put_other (kI_ne h2), atKey_put_other (kI_ne h1)] at h0
  cases h0
theorem wpList_insert_own {H : Type} {P : Program} (w : World) {ops : Array Oper} {rest : List Oper} {o : Oper} {a : Act} {Q : Exit → Act → World → Prop}
    (hg : o.guard = none) (m x v : Operand) (t : TypeId) (hop : o.op = Op.insert t m x v)
    (k e : TypeId) (K : Keyed P k) (ht : P.underlying t = some (.map k e)) (R : Value → Option (DataW H × List MemPlace)) (b n : Nat) (D : DataW H)
    (hm : a.eval m = .map (some b)) (hown : w.ownsMap P k R b n D) (hn : n < maxLen) (key val : Value) (kl : Lit) (hx : a.eval x = key) (hv : a.eval v = val) (hkey : keyOf P k key = some kl)
    (d : DataW H) (ps : List MemPlace) (hval : R val = some (d, ps))
    (hK : ∀ w', w'.ownsMap P k R b (n + 1) (D.put kl d) → w.grownBy w' (some b) → wpList P ops Q rest (a.put o.dst undef) w') :
    wpList P ops Q (o :: rest) a w := by
  refine wpList_plain hg fun K' hK' => ?_
  obtain ⟨w', hrun, r1, r2⟩ := hown.update K ht hn hkey hval
  unfold Oper.wp
  simp [execOp, hop, hm, hx, hv, hrun, Result.andThen]
  exact hK' _ _ (hK w' r1 r2)
theorem int_law : Keyed Tryz.prog 3 := int_keyed Tryz.underlying3
theorem key_int (x : Int) (h : (Lit.int .i64 x).wf = true) : keyOf Tryz.prog 3 (.int .i64 x) = some (kI x) := keyOf_int_mk Tryz.underlying3 h
end Go.Proofs.YtaadipccgckehaaGreatDoor
