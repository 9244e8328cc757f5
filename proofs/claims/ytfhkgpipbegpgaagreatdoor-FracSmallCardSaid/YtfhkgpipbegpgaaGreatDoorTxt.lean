/- The contract of Text. -/
import Derived.Test.YtfhkgpipbegpgaaGreatDoorStr
namespace Go.Proofs.YtfhkgpipbegpgaaGreatDoor
open Go Go.RowKit

/-- A string and the number of an error are returned; only new memory. -/
def RetS (l : List UInt8) (c : Int) (w : World) (e : Ending) (w' : World) : Prop := e = .returned (.tuple #[.string ⟨l.toArray⟩, .int .i64 c]) ∧ Below w.heap.size w w'
theorem retS_mk {l : List UInt8} {s : ByteArray} {c : Int} {w w' : World} (h : s = ⟨l.toArray⟩) (hb : Below w.heap.size w w') : RetS l c w (.returned (.tuple #[.string s, .int .i64 c])) w' := by
  subst h; exact ⟨rfl, hb⟩
theorem nDigits_le : ∀ (k u : Nat), u < 10 ^ k → 0 < k → Lib.nDigits u ≤ k
  | 0, _, _, h => absurd h (by omega)
  | k + 1, u, h, _ => by
    by_cases hu : u < 10
    · rw [Lib.nDigits_small hu]; omega
    · rw [Lib.nDigits_big hu]
      rcases Nat.eq_zero_or_pos k with rfl | hk
      · rw [Nat.zero_add, Nat.pow_one] at h; omega
      · have := nDigits_le k (u / 10) (by rw [Nat.pow_succ] at h; omega) hk
        omega
theorem dec_len (u : Nat) (h : u < 18446744073709551616) : (Lib.decDigits u).length ≤ 20 := by
  rw [Lib.decDigits_length]; exact nDigits_le 20 u (by omega) (by omega)
theorem itoa_len (n : Int) (h0 : -9223372036854775808 ≤ n) (h1 : n ≤ 9223372036854775807) : (Lib.itoa n).length ≤ 21 := by
  unfold Lib.itoa
  split
  · have := dec_len n.natAbs (by omega); simp; omega
  · have := dec_len n.toNat (by omega); omega
/-- The text of a fraction. -/
def textF (n d : Int) : List UInt8 := Lib.itoa n ++ if d = 1 then [] else 47 :: Lib.itoa d
set_option maxRecDepth 100000 in
set_option maxHeartbeats 1000000 in
theorem otext_bad (n d : Int) (hf : FB n d) (h : rightB n d = false) (w : World) :
    Calls Tryz.prog 28 #[.agg #[.int .i64 n, .int .i64 d]] w (RetS [] 2 w) := by
  have R1 := right_hid hf h
  clear h hf
  go_enter Tryz.func28, Tryz.ntmps28
  go_wp2_with fail
  have hB := below1 w (.cells #[.int .i64 n, .int .i64 d] 23)
  generalize w.alloc (.cells #[.int .i64 n, .int .i64 d] 23) = W1 at *
  refine (R1.out _).mono ?_
  rintro e w1 ⟨rfl, hb⟩
  have hB1 := bchain hB hb
  clear hb hB
  go_wp2
  go_ret2
  exact retS_mk rfl hB1
set_option maxRecDepth 100000 in
set_option maxHeartbeats 1000000 in
theorem otext_ok (n d : Int) (hf : FB n d) (h : rightB n d = true) (w : World) (he : Env w) :
    Calls Tryz.prog 28 #[.agg #[.int .i64 n, .int .i64 d]] w (RetS (textF n d) 0 w) := by
  have R1 := right_hid hf h
  have HE := Lib.hid he
  obtain ⟨T, hT⟩ : ∃ T, Lib.itoa n = T := ⟨_, rfl⟩
  obtain ⟨D, hD⟩ : ∃ T, Lib.itoa d = T := ⟨_, rfl⟩
  have l1 := itoa_len n hf.n0 hf.n1
  have l2 := itoa_len d hf.d0 hf.d1
  have I1 : Hid (∀ w, Env w → Calls Tryz.prog 58 #[.int .i64 n] w fun e w' => e = .returned (.string ⟨T.toArray⟩) ∧ Below w.heap.size w w') := Lib.hid fun w hw => hT ▸ itoa_any n w hw hf.n0 hf.n1
  have I2 : Hid (∀ w, Env w → Calls Tryz.prog 58 #[.int .i64 d] w fun e w' => e = .returned (.string ⟨D.toArray⟩) ∧ Below w.heap.size w w') := Lib.hid fun w hw => hD ▸ itoa_any d w hw hf.d0 hf.d1
  have hX : Hid (textF n d = T ++ if d = 1 then [] else 47 :: D) := Lib.hid (by rw [textF, hT, hD])
  rw [hT] at l1
  rw [hD] at l2
  clear h hf he hT hD
  have z1 : ¬ 9223372036854775807 < 1 + D.length := by omega
  have z2 : ¬ 9223372036854775807 < T.length + (1 + D.length) := by omega
  by_cases h1 : d = 1
  · subst h1
    rw [if_pos rfl] at hX
    go_enter Tryz.func28, Tryz.ntmps28
    go_wp2_with fail
    have hB := below1 w (.cells #[.int .i64 n, .int .i64 1] 23)
    have hA := Blk.new w 23 #[.int .i64 n, .int .i64 1]
    generalize w.alloc (.cells #[.int .i64 n, .int .i64 1] 23) = W1 at *
    refine (R1.out _).mono ?_
    rintro e w1 ⟨rfl, hb⟩
    have hB1 := bchain hB hb
    have hA1 := hA.keep hb hA.lt
    clear hb hB hA
    have x0 := hA1.cell (j := 0) (v := .int .i64 n) rfl
    go_wp2_with fail
    refine (I1.out _ (HE.out.keep hB1)).mono ?_
    rintro e w2 ⟨rfl, hb⟩
    have hB2 := bchain hB1 hb
    have hA2 := hA1.keep hb hA1.lt
    clear hb hB1 hA1 x0
    have x1 := hA2.cell (j := 1) (v := .int .i64 1) rfl
    go_wp2
    go_ret2
    exact retS_mk (by rw [hX.out, List.append_nil]) hB2
  · have e1 : (d == 1) = false := by simpa using h1
    have e2 : (d != 1) = true := by simpa using h1
    rw [if_neg h1] at hX
    clear h1
    go_enter Tryz.func28, Tryz.ntmps28
    go_wp2_with fail
    have hB := below1 w (.cells #[.int .i64 n, .int .i64 d] 23)
    have hA := Blk.new w 23 #[.int .i64 n, .int .i64 d]
    generalize w.alloc (.cells #[.int .i64 n, .int .i64 d] 23) = W1 at *
    refine (R1.out _).mono ?_
    rintro e w1 ⟨rfl, hb⟩
    have hB1 := bchain hB hb
    have hA1 := hA.keep hb hA.lt
    clear hb hB hA
    have x0 := hA1.cell (j := 0) (v := .int .i64 n) rfl
    go_wp2_with fail
    refine (I1.out _ (HE.out.keep hB1)).mono ?_
    rintro e w2 ⟨rfl, hb⟩
    have hB2 := bchain hB1 hb
    have hA2 := hA1.keep hb hA1.lt
    clear hb hB1 hA1 x0
    have x1 := hA2.cell (j := 1) (v := .int .i64 d) rfl
    go_wp2_with fail
    refine (I2.out _ (HE.out.keep hB2)).mono ?_
    rintro e w3 ⟨rfl, hb⟩
    have hB3 := bchain hB2 hb
    clear hb hB2 hA2 x1
    go_wp2
    go_ret2
    exact retS_mk (by rw [hX.out]; apply ByteArray.ext; simp) hB3
end Go.Proofs.YtfhkgpipbegpgaaGreatDoor
