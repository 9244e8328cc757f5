/- The plain side of awake: what the writers say of the example. -/
import Derived.Test.YtidpfggikighlaaDoorEX
import Derived.Test.YtidpfggikighlaaDoorGQ
import Derived.Test.YtidpfggikighlaaDoorGU
namespace Go.Proofs.YtidpfggikighlaaDoor
open Go Go.RowKit

def exRows2 : List Rw := [⟨0, 0, 1, 4, 0⟩, ⟨0, 1, 2, 0, 1⟩, ⟨0, 2, 3, 6, 2⟩, ⟨1, 0, 1, 0, 2⟩, ⟨1, 1, 2, 6, 0⟩, ⟨1, 2, 3, 4, 1⟩, ⟨2, 0, 1, 6, 1⟩, ⟨2, 1, 2, 4, 2⟩, ⟨2, 2, 3, 0, 0⟩]
def exM2 : Mv := ⟨3, 3, 3, 1, 2, exRows2⟩
theorem ex_fit : fitB exM = true := by decide +kernel
theorem ex_fit2 : fitB exM2 = true := by decide +kernel
theorem ex_text : (textO exM).length = 10 ∧ (textO exM)[0]? = some [109, 111, 118, 101, 109, 101, 110, 116, 32, 51, 32, 51, 32, 51, 32, 49, 32, 50] ∧ (textO exM)[1]? = some [114, 111, 119, 32, 48, 32, 48, 32, 49, 32, 52, 32, 48] ∧ textE exM = 0 := by decide +kernel
theorem ex_six : pairO exM 6 = [[112, 97, 105, 114, 32, 54], [114, 111, 117, 110, 100, 32, 48, 32, 116, 97, 98, 108, 101, 32, 50, 32, 69, 87, 32, 97, 103, 97, 105, 110, 115, 116, 32, 51, 32, 115, 101, 116, 32, 50], [114, 111, 117, 110, 100, 32, 49, 32, 116, 97, 98, 108, 101, 32, 49, 32, 69, 87, 32, 97, 103, 97, 105, 110, 115, 116, 32, 50, 32, 115, 101, 116, 32, 48], [114, 111, 117, 110, 100, 32, 50, 32, 116, 97, 98, 108, 101, 32, 48, 32, 69, 87, 32, 97, 103, 97, 105, 110, 115, 116, 32, 49, 32, 115, 101, 116, 32, 49]] ∧ pairE exM 6 = 0 := by decide +kernel
theorem ex_one : tableO exM 1 = [[116, 97, 98, 108, 101, 32, 49], [114, 111, 117, 110, 100, 32, 48, 32, 78, 83, 32, 50, 32, 69, 87, 32, 53, 32, 115, 101, 116, 32, 49], [114, 111, 117, 110, 100, 32, 49, 32, 78, 83, 32, 50, 32, 69, 87, 32, 54, 32, 115, 101, 116, 32, 48], [114, 111, 117, 110, 100, 32, 50, 32, 78, 83, 32, 50, 32, 69, 87, 32, 52, 32, 115, 101, 116, 32, 50]] ∧ tableE exM 1 = 0 := by decide +kernel
theorem ex_nine : pairO exM 9 = [[112, 97, 105, 114, 32, 57], [114, 111, 117, 110, 100, 32, 48, 32, 111, 117, 116], [114, 111, 117, 110, 100, 32, 49, 32, 111, 117, 116], [114, 111, 117, 110, 100, 32, 50, 32, 111, 117, 116]] ∧ pairE exM 9 = 0 := by decide +kernel
theorem ex_two : (pairO exM2 2).length = 4 ∧ (pairO exM2 2)[0]? = some [112, 97, 105, 114, 32, 50] ∧ (pairO exM2 2)[1]? = some [114, 111, 117, 110, 100, 32, 48, 32, 116, 97, 98, 108, 101, 32, 49, 32, 78, 83, 32, 97, 108, 111, 110, 101] ∧ pairE exM2 2 = 0 := by decide +kernel
theorem ex_in (r : Rw) (h : r ∈ exRows) : r.In := by
  simp only [exRows, List.mem_cons, List.not_mem_nil, or_false] at h
  rcases h with rfl | rfl | rfl | rfl | rfl | rfl | rfl | rfl | rfl <;> exact ⟨by constructor <;> decide +kernel, by constructor <;> decide +kernel, by constructor <;> decide +kernel, by constructor <;> decide +kernel, by constructor <;> decide +kernel⟩
theorem ex_in2 (r : Rw) (h : r ∈ exRows2) : r.In := by
  simp only [exRows2, List.mem_cons, List.not_mem_nil, or_false] at h
  rcases h with rfl | rfl | rfl | rfl | rfl | rfl | rfl | rfl | rfl <;> exact ⟨by constructor <;> decide +kernel, by constructor <;> decide +kernel, by constructor <;> decide +kernel, by constructor <;> decide +kernel, by constructor <;> decide +kernel⟩
theorem ex_mv {w : World} {base g c : Nat} (h : w.ownsRow base 45 5 (.slice (some ⟨g, 0, none⟩) 9 c) 9 (rv exRows)) : MV w exM (.slice (some ⟨g, 0, none⟩) 9 c) := ⟨.some_ g 0 _ exRows (mr_of_own h).1 (fun i r hi => by rw [Nat.zero_add]; exact (mr_of_own h).2.2 i r hi), by constructor <;> decide +kernel, by constructor <;> decide +kernel, by constructor <;> decide +kernel, by constructor <;> decide +kernel, by constructor <;> decide +kernel, ex_in⟩
theorem ex_mv2 {w : World} {base g c : Nat} (h : w.ownsRow base 45 5 (.slice (some ⟨g, 0, none⟩) 9 c) 9 (rv exRows2)) : MV w exM2 (.slice (some ⟨g, 0, none⟩) 9 c) := ⟨.some_ g 0 _ exRows2 (mr_of_own h).1 (fun i r hi => by rw [Nat.zero_add]; exact (mr_of_own h).2.2 i r hi), by constructor <;> decide +kernel, by constructor <;> decide +kernel, by constructor <;> decide +kernel, by constructor <;> decide +kernel, by constructor <;> decide +kernel, ex_in2⟩
end Go.Proofs.YtidpfggikighlaaDoor
