/- The reference's number and head of a board, and what it says of a record. -/
import Derived.Test.YtaadipccgckehaaGreatDoorCF
import Derived.Test.YtaadipccgckehaaGreatDoorBI
namespace Go.Proofs.YtaadipccgckehaaGreatDoor
open Go Go.RowKit Go.Shelf Pl

theorem num_split (n : Nat) (h1 : 10 ≤ n) (h2 : n < 1000) : numL n = numL (n / 10) ++ numL (n % 10) := by
  have hm : n % 10 < 10 := Nat.mod_lt _ (by omega)
  unfold numL
  rw [if_neg (by omega), if_pos hm]
  by_cases h : n < 100
  · rw [if_pos h, if_pos (by omega)]
    rfl
  · rw [if_neg h, if_neg (by omega), if_pos (by omega)]
    rw [show n / 10 / 10 = n / 100 by omega]
    rfl
theorem one_num (n : Nat) (hn : n < 10) (wr : World) : (convert 101 9 (.slice (some ⟨wr.heap.size, 0, none⟩) 1 1)).run Tryz.prog (wr.alloc (.cells #[.int .u8 (48 + (n : Int))] 5)) =
    .ok (.string ⟨(numL n).toArray⟩) (wr.alloc (.cells #[.int .u8 (48 + (n : Int))] 5)) := by
  rw [show numL n = [UInt8.ofNat (48 + n)] by unfold numL; rw [if_pos hn]]
  exact run_convert_bytes_back _ _ _ 5 _ 1 [UInt8.ofNat (48 + n)] (by kernel_rfl) (by kernel_rfl) (by kernel_rfl) (fun j hj => by
    obtain rfl : j = 0 := by simpa using hj
    have h2 : (UInt8.ofNat (48 + n)).toNat = 48 + n := by simp; omega
    simp only [List.getElem_cons_zero, h2]
    simp [Addr.add])
set_option maxHeartbeats 2000000 in
theorem rnum_lo (n : Nat) (hn : n < 10) (w : World) :
    Calls Tryz.prog 47 #[.int .i64 (n : Int)] w fun e w' => e = .returned (.string ⟨(numL n).toArray⟩) ∧ Below w.heap.size w w' := by
  have os := one_num n hn
  have t0 : decide ((9 : Int) < (n : Int)) = false := decide_eq_false (by omega)
  have u0 : IntKind.u8.wrap (48 + (n : Int)) = 48 + (n : Int) := IntWalk.u8_in _ (by omega)
  go_enter Tryz.func47, Tryz.ntmps47
  go_wp2_with fail
  go_ret
  exact ⟨rfl, (Below.refl _ _).alloc (Nat.le_refl _) _⟩
set_option maxHeartbeats 2000000 in
theorem rnum_step (n : Nat) (h1 : 10 ≤ n) (h2 : n < 1000) (HA : Hid (∀ w, Calls Tryz.prog 47 #[.int .i64 ((n / 10 : Nat) : Int)] w fun e w' => e = .returned (.string ⟨(numL (n / 10)).toArray⟩) ∧ Below w.heap.size w w')) (w : World) :
    Calls Tryz.prog 47 #[.int .i64 (n : Int)] w fun e w' => e = .returned (.string ⟨(numL n).toArray⟩) ∧ Below w.heap.size w w' := by
  have HB := Lib.hid (fun w => rnum_lo (n % 10) (by omega) w)
  obtain ⟨A, hA⟩ : ∃ X : ByteArray, (⟨(numL (n / 10)).toArray⟩ : ByteArray) = X := ⟨_, rfl⟩
  obtain ⟨B, hB⟩ : ∃ X : ByteArray, (⟨(numL (n % 10)).toArray⟩ : ByteArray) = X := ⟨_, rfl⟩
  have HS : Hid ((⟨(numL n).toArray⟩ : ByteArray) = A ++ B) := Lib.hid (by rw [← hA, ← hB, num_split n h1 h2]; apply ByteArray.ext; simp)
  have z : ¬ 9223372036854775807 < A.size + B.size := by
    have a1 : A.size = (numL (n / 10)).length := by rw [← hA]; rfl
    have b1 : B.size = (numL (n % 10)).length := by rw [← hB]; rfl
    have := num_len (n / 10)
    have := num_len (n % 10)
    omega
  rw [hA] at HA
  rw [hB] at HB
  obtain ⟨q, hq⟩ : ∃ q, n / 10 = q := ⟨_, rfl⟩
  obtain ⟨r, hr⟩ : ∃ r, n % 10 = r := ⟨_, rfl⟩
  have e1 : ((n : Int)).tdiv 10 = (q : Int) := by rw [Int.tdiv_eq_ediv_of_nonneg (by omega)]; omega
  have e1b : (n : Int) / 10 = (q : Int) := by omega
  have e2 : ((n : Int)).tmod 10 = (r : Int) := by rw [Int.tmod_eq_emod_of_nonneg (by omega)]; omega
  have e2b : (n : Int) % 10 = (r : Int) := by omega
  have w1 : wrap64 (q : Int) = (q : Int) := by unfold wrap64; omega
  have t0 : decide ((9 : Int) < (n : Int)) = true := decide_eq_true (by omega)
  have t1 : (9 : Int) < (n : Int) := by omega
  rw [hq] at HA
  rw [hr] at HB
  clear hA hB hq hr h1 h2
  go_enter Tryz.func47, Tryz.ntmps47
  go_wp2_with fail
  refine (HA.out _).mono ?_
  rintro e w1 ⟨rfl, hb⟩
  go_wp2_with fail
  refine (HB.out _).mono ?_
  rintro e w2 ⟨rfl, hb2⟩
  go_wp2_with fail
  go_ret
  exact ⟨by rw [HS.out]; rfl, bchain hb hb2⟩
theorem rnum_any (n : Nat) (hn : n < 1000) (w : World) :
    Calls Tryz.prog 47 #[.int .i64 (n : Int)] w fun e w' => e = .returned (.string ⟨(numL n).toArray⟩) ∧ Below w.heap.size w w' := by
  by_cases h1 : n < 10
  · exact rnum_lo n h1 w
  · refine rnum_step n (by omega) hn (Lib.hid (fun w => ?_)) w
    by_cases h2 : n / 10 < 10
    · exact rnum_lo _ h2 w
    · exact rnum_step _ (by omega) (by omega) (Lib.hid (fun w => rnum_lo _ (by omega) w)) w
end Go.Proofs.YtaadipccgckehaaGreatDoor
