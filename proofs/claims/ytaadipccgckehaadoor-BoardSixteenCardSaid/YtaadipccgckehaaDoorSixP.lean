/- Sixteen boards in a row: the counts. No program. -/
import Derived.Test.YtaadipccgckehaaDoorBW
namespace Go.Proofs.YtaadipccgckehaaDoor
open Go
namespace Pl
def code (n : Nat) : Nat := dealP n * 4 + vulP n
def cnt (F : Nat) : Nat → Nat → Nat
  | 0, _ => 0
  | k + 1, c => cnt F k c + if code (F + k) = c then 1 else 0
theorem cnt_le (F c : Nat) : ∀ k, cnt F k c ≤ k
  | 0 => Nat.le_refl _
  | k + 1 => by have := cnt_le F c k; rw [cnt]; split <;> omega
theorem code_lt (n : Nat) : code n < 16 := by have := deal_lt n; have := vul_lt n; unfold code; omega
theorem cnt_one : ∀ F, F < 114 → 1 ≤ F → ∀ c, c < 16 → cnt F 16 c = 1 := by decide +kernel
theorem find_near : ∀ n, n < 129 → 1 ≤ n → findP (dealP n) (vulP n) ≤ n ∧ (n - findP (dealP n) (vulP n)) % 16 = 0 ∧ findP (dealP n) (vulP n) ≤ 16 := by decide +kernel
theorem deal_16 (m : Nat) (h : 1 ≤ m) : dealP (m + 16) = dealP m := by unfold dealP; omega
theorem vul_16 (m : Nat) (h : 1 ≤ m) : vulP (m + 16) = vulP m := by unfold vulP; omega
def metC (F k : Nat) : Array Value := ((List.range 16).map (fun c => Value.int .i64 (cnt F k c : Nat))).toArray
theorem met_0 (F : Nat) : metC F 0 = #[.int .i64 0, .int .i64 0, .int .i64 0, .int .i64 0, .int .i64 0, .int .i64 0, .int .i64 0, .int .i64 0, .int .i64 0, .int .i64 0, .int .i64 0, .int .i64 0, .int .i64 0, .int .i64 0, .int .i64 0, .int .i64 0] := rfl
theorem met_get (F k c : Nat) (hc : c < 16) : (metC F k)[c]? = some (.int .i64 (cnt F k c : Nat)) := by
  simp [metC, hc]
theorem met_set (F k c x : Nat) (hc : c = code (F + k)) (hx : x = cnt F k c) : (metC F k).setIfInBounds c (.int .i64 ((x + 1 : Nat) : Int)) = metC F (k + 1) := by
  have hlt := code_lt (F + k)
  subst hx
  apply Array.ext
  · simp [metC]
  · intro j h1 h2
    simp only [metC, List.setIfInBounds_toArray, List.getElem_toArray, List.getElem_set, List.getElem_map, List.getElem_range, cnt]
    by_cases h : c = j
    · rw [if_pos h, if_pos (by rw [← hc]; exact h), h]
    · rw [if_neg h, if_neg (by rw [← hc]; exact h), Nat.add_zero]
end Pl
end Go.Proofs.YtaadipccgckehaaDoor
