/- The program's and the reference's operations answer alike. -/
import Derived.Test.YtfhkgpipbegpgaaGreatDoorRefX
import Derived.Test.YtfhkgpipbegpgaaGreatDoorRefV
import Derived.Test.YtfhkgpipbegpgaaGreatDoorRefU
import Derived.Test.YtfhkgpipbegpgaaGreatDoorRefS
import Derived.Test.YtfhkgpipbegpgaaGreatDoorRefI
import Derived.Test.YtfhkgpipbegpgaaGreatDoorRound
import Derived.Test.YtfhkgpipbegpgaaGreatDoorOps3
import Derived.Test.YtfhkgpipbegpgaaGreatDoorOps2
import Derived.Test.YtfhkgpipbegpgaaGreatDoorTxt
import Derived.Test.YtfhkgpipbegpgaaGreatDoorInv
namespace Go.Proofs.YtfhkgpipbegpgaaGreatDoor
open Go Go.RowKit

/-- Two functions answer alike at the same arguments. -/
def Alike (f g : FuncId) (args : Array Value) (v : Value) : Prop :=
  (∀ w, Env w → Calls Tryz.prog f args w (fun e w' => e = .returned v ∧ Below w.heap.size w w')) ∧
  ∀ w, Env w → Calls Tryz.prog g args w (fun e w' => e = .returned v ∧ Below w.heap.size w w')
theorem Alike.one {f g : FuncId} {args : Array Value} {v : Value} (h : Alike f g args v) {w0 w : World} {l : List (Nat × TypeId × Array Value)} (hi : InvL w0 w l) :
    Calls Tryz.prog f args w (fun e w' => e = .returned v ∧ InvL w0 w' l) := invV h.1 hi
theorem Alike.two {f g : FuncId} {args : Array Value} {v : Value} (h : Alike f g args v) {w0 w : World} {l : List (Nat × TypeId × Array Value)} (hi : InvL w0 w l) :
    Calls Tryz.prog g args w (fun e w' => e = .returned v ∧ InvL w0 w' l) := invV h.2 hi
theorem zero_den {k : Int} (h : rightB 0 k = true) : k = 1 := by
  have := right_pos h
  unfold rightB at h
  simp only [Bool.and_eq_true, beq_iff_eq, Int.natAbs_zero, Nat.gcd_zero_left] at h
  omega
theorem bool_cases (b : Bool) : b = true ∨ b = false := by cases b <;> simp
theorem alike_add (n d m k : Int) (hf : FB n d) (hg : FB m k) : ∃ a b c, Alike 12 17 #[.agg #[.int .i64 n, .int .i64 d], .agg #[.int .i64 m, .int .i64 k]] (.tuple #[.agg #[.int .i64 a, .int .i64 b], .int .i64 c]) := by
  rcases bool_cases (rightB n d) with h | h
  · rcases bool_cases (rightB m k) with h' | h'
    · exact ⟨_, _, _, fun w _ => oadd_ok n d m k hf hg h h' w, fun w _ => radd_ok n d m k hf hg h h' w⟩
    · exact ⟨_, _, _, fun w _ => oadd_bad2 n d m k hf hg h h' w, fun w _ => radd_bad2 n d m k hf hg h h' w⟩
  · exact ⟨_, _, _, fun w _ => oadd_bad1 n d m k hf h w, fun w _ => radd_bad1 n d m k hf h w⟩
theorem alike_sub (n d m k : Int) (hf : FB n d) (hg : FB m k) : ∃ a b c, Alike 13 18 #[.agg #[.int .i64 n, .int .i64 d], .agg #[.int .i64 m, .int .i64 k]] (.tuple #[.agg #[.int .i64 a, .int .i64 b], .int .i64 c]) := by
  rcases bool_cases (rightB n d) with h | h
  · rcases bool_cases (rightB m k) with h' | h'
    · exact ⟨_, _, _, fun w _ => osub_ok n d m k hf hg h h' w, fun w _ => rsub_ok n d m k hf hg h h' w⟩
    · exact ⟨_, _, _, fun w _ => osub_bad2 n d m k hf hg h h' w, fun w _ => rsub_bad2 n d m k hf hg h h' w⟩
  · exact ⟨_, _, _, fun w _ => osub_bad1 n d m k hf h w, fun w _ => rsub_bad1 n d m k hf h w⟩
theorem alike_mul (n d m k : Int) (hf : FB n d) (hg : FB m k) : ∃ a b c, Alike 14 19 #[.agg #[.int .i64 n, .int .i64 d], .agg #[.int .i64 m, .int .i64 k]] (.tuple #[.agg #[.int .i64 a, .int .i64 b], .int .i64 c]) := by
  rcases bool_cases (rightB n d) with h | h
  · rcases bool_cases (rightB m k) with h' | h'
    · exact ⟨_, _, _, fun w _ => omul_ok n d m k hf hg h h' w, fun w _ => rmul_ok n d m k hf hg h h' w⟩
    · exact ⟨_, _, _, fun w _ => omul_bad2 n d m k hf hg h h' w, fun w _ => rmul_bad2 n d m k hf hg h h' w⟩
  · exact ⟨_, _, _, fun w _ => omul_bad1 n d m k hf h w, fun w _ => rmul_bad1 n d m k hf h w⟩
theorem alike_div (n d m k : Int) (hf : FB n d) (hg : FB m k) : ∃ a b c, Alike 15 20 #[.agg #[.int .i64 n, .int .i64 d], .agg #[.int .i64 m, .int .i64 k]] (.tuple #[.agg #[.int .i64 a, .int .i64 b], .int .i64 c]) := by
  rcases bool_cases (rightB n d) with h | h
  · rcases bool_cases (rightB m k) with h' | h'
    · by_cases hm : m = 0
      · subst hm
        obtain rfl := zero_den h'
        exact ⟨_, _, _, fun w _ => odiv_zero n d hf h w, fun w _ => rdiv_zero n d 0 1 hf hg h h' rfl w⟩
      · exact ⟨_, _, _, fun w _ => odiv_ok n d m k hf hg h h' hm w, fun w _ => rdiv_ok n d m k hf hg h h' hm w⟩
    · exact ⟨_, _, _, fun w _ => odiv_bad2 n d m k hf hg h h' w, fun w _ => rdiv_bad2 n d m k hf hg h h' w⟩
  · exact ⟨_, _, _, fun w _ => odiv_bad1 n d m k hf h w, fun w _ => rdiv_bad1 n d m k hf h w⟩
theorem alike_neg (n d : Int) (hf : FB n d) : ∃ a b c, Alike 16 21 #[.agg #[.int .i64 n, .int .i64 d]] (.tuple #[.agg #[.int .i64 a, .int .i64 b], .int .i64 c]) := by
  rcases bool_cases (rightB n d) with h | h
  · exact ⟨_, _, _, fun w _ => oneg_ok n d hf h w, fun w _ => rneg_ok n d hf h w⟩
  · exact ⟨_, _, _, fun w _ => oneg_bad n d hf h w, fun w _ => rneg_bad n d hf h w⟩
theorem alike_cmp (n d m k : Int) (hf : FB n d) (hg : FB m k) : ∃ a c, Alike 22 23 #[.agg #[.int .i64 n, .int .i64 d], .agg #[.int .i64 m, .int .i64 k]] (.tuple #[.int .i64 a, .int .i64 c]) := by
  rcases bool_cases (rightB n d) with h | h
  · rcases bool_cases (rightB m k) with h' | h'
    · exact ⟨_, _, fun w _ => ocmp_ok n d m k hf hg h h' w, fun w _ => rcmp_ok n d m k hf hg h h' w⟩
    · exact ⟨_, _, fun w _ => ocmp_bad2 n d m k hf hg h h' w, fun w _ => rcmp_bad2 n d m k hf hg h h' w⟩
  · exact ⟨_, _, fun w _ => ocmp_bad1 n d m k hf h w, fun w _ => rcmp_bad1 n d m k hf h w⟩
theorem alike_near (n d : Int) (hf : FB n d) : ∃ a c, Alike 24 25 #[.agg #[.int .i64 n, .int .i64 d]] (.tuple #[.int .i64 a, .int .i64 c]) := by
  rcases bool_cases (rightB n d) with h | h
  · exact ⟨_, _, fun w _ => onear_ok n d hf h w, fun w _ => rnear_ok n d hf h w⟩
  · exact ⟨_, _, fun w _ => onear_bad n d hf h w, fun w _ => rnear_bad n d hf h w⟩
theorem alike_round (n d k : Int) (hf : FB n d) : ∃ s c, Alike 26 27 #[.agg #[.int .i64 n, .int .i64 d], .int .i64 k] (.tuple #[.string s, .int .i64 c]) := by
  rcases bool_cases (rightB n d) with h | h
  · by_cases hk : k < 0 ∨ 9 < k
    · exact ⟨_, _, fun w _ => oround_out n d k hf h hk w, fun w _ => rround_out n d k hf h hk w⟩
    · obtain ⟨j, rfl⟩ : ∃ j : Nat, k = j := ⟨k.toNat, by omega⟩
      have hj : j ≤ 9 := by omega
      exact ⟨_, _, fun w he => oround_ok n d j hj hf h w he, fun w _ => rround_ok n d j hj hf h w⟩
  · exact ⟨_, _, fun w _ => oround_bad n d k hf h w, fun w _ => rround_bad n d k hf h w⟩
theorem alike_text (n d : Int) (hf : FB n d) : ∃ s c, Alike 28 29 #[.agg #[.int .i64 n, .int .i64 d]] (.tuple #[.string s, .int .i64 c]) := by
  rcases bool_cases (rightB n d) with h | h
  · exact ⟨_, _, fun w he => otext_ok n d hf h w he, fun w _ => rtext_ok n d hf h w⟩
  · exact ⟨_, _, fun w _ => otext_bad n d hf h w, fun w _ => rtext_bad n d hf h w⟩
theorem alike_right (n d : Int) (hf : FB n d) : ∃ b, Alike 30 31 #[.agg #[.int .i64 n, .int .i64 d]] (.bool b) :=
  ⟨_, fun w _ => right_any n d hf.n0 hf.n1 hf.d0 hf.d1 w, fun w _ => rright_any n d hf w⟩
end Go.Proofs.YtfhkgpipbegpgaaGreatDoor
