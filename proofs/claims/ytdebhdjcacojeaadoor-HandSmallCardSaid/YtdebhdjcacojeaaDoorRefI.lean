/- Contracts of the reference's Shape, digits, Holding, Pattern, Suits, Balanced. -/
import Derived.Test.YtdebhdjcacojeaaDoorRefH
import Derived.Test.YtdebhdjcacojeaaDoorRefS
import Derived.Test.YtdebhdjcacojeaaDoorBlk
import Derived.Laws.IdiomStrings
namespace Go.Proofs.YtdebhdjcacojeaaDoor
open Go.RowKit

theorem set4 {B b : Nat} {a w : World} {v0 v1 v2 v3 : Value} (h : Below B a w) (hb : B ≤ b) : Below B a ((((w.setCell ⟨b, 0, none⟩ v0).setCell ⟨b, 1, none⟩ v1).setCell ⟨b, 2, none⟩ v2).setCell ⟨b, 3, none⟩ v3) :=
  (((h.setCell (p := ⟨b, 0, none⟩) hb _).setCell (p := ⟨b, 1, none⟩) hb _).setCell (p := ⟨b, 2, none⟩) hb _).setCell (p := ⟨b, 3, none⟩) hb _
set_option maxHeartbeats 2000000 in
theorem rshape_any (m : Nat) (w : World) (hm : m < 18446744073709551616) :
    Calls Tryd.prog 33 #[.int .u64 (m : Nat)] w fun e w' => e = .returned (.agg #[.int .i64 (shp m 0 : Nat), .int .i64 (shp m 1 : Nat), .int .i64 (shp m 2 : Nat), .int .i64 (shp m 3 : Nat)]) ∧ Below w.heap.size w w' := by
  have H0 : Hid (∀ w, Calls Tryd.prog 45 #[.int .u64 (m : Nat), .int .i64 0] w fun e w' => e = .returned (.int .i64 (shp m 0 : Nat)) ∧ w = w') := Lib.hid fun w => length_any m 0 w hm (by omega)
  have H1 : Hid (∀ w, Calls Tryd.prog 45 #[.int .u64 (m : Nat), .int .i64 1] w fun e w' => e = .returned (.int .i64 (shp m 1 : Nat)) ∧ w = w') := Lib.hid fun w => length_any m 1 w hm (by omega)
  have H2 : Hid (∀ w, Calls Tryd.prog 45 #[.int .u64 (m : Nat), .int .i64 2] w fun e w' => e = .returned (.int .i64 (shp m 2 : Nat)) ∧ w = w') := Lib.hid fun w => length_any m 2 w hm (by omega)
  have H3 : Hid (∀ w, Calls Tryd.prog 45 #[.int .u64 (m : Nat), .int .i64 3] w fun e w' => e = .returned (.int .i64 (shp m 3 : Nat)) ∧ w = w') := Lib.hid fun w => length_any m 3 w hm (by omega)
  go_enter Tryd.func33, Tryd.ntmps33
  go_wp2_with fail
  refine (H0.out _).mono ?_
  rintro e w1 ⟨rfl, rfl⟩
  go_wp2_with fail
  refine (H1.out _).mono ?_
  rintro e w1 ⟨rfl, rfl⟩
  go_wp2_with fail
  refine (H2.out _).mono ?_
  rintro e w1 ⟨rfl, rfl⟩
  go_wp2_with fail
  refine (H3.out _).mono ?_
  rintro e w1 ⟨rfl, rfl⟩
  go_wp2_with fail
  refine bodyPost_ret (v := .agg #[.int .i64 (shp m 0 : Nat), .int .i64 (shp m 1 : Nat), .int .i64 (shp m 2 : Nat), .int .i64 (shp m 3 : Nat)]) (by simp [results, Tryd.results33, go_sem]) rfl ⟨rfl, ?_⟩
  exact (Below.refl _ _).alloc (Nat.le_refl _) _
theorem one_str (n : Nat) (hn : n < 10) (wr : World) : (convert 36 9 (.slice (some ⟨wr.heap.size, 0, none⟩) 1 1)).run Tryd.prog (wr.alloc (.cells #[.int .u8 (48 + (n : Int))] 5)) =
    .ok (.string ⟨(digT n).toArray⟩) (wr.alloc (.cells #[.int .u8 (48 + (n : Int))] 5)) := by
  rw [digT_lo n (by omega), Nat.mod_eq_of_lt hn]
  exact run_convert_bytes_back _ _ _ 5 _ 1 [UInt8.ofNat (48 + n)] (by kernel_rfl) (by kernel_rfl) (by kernel_rfl) (fun j hj => by
    obtain rfl : j = 0 := by simpa using hj
    have h2 : (UInt8.ofNat (48 + n)).toNat = 48 + n := by simp; omega
    simp only [List.getElem_cons_zero, h2]
    simp [Addr.add])
set_option maxHeartbeats 2000000 in
theorem digits_lo (n : Nat) (w : World) (hn : n < 10) :
    Calls Tryd.prog 47 #[.int .i64 (n : Nat)] w fun e w' => e = .returned (.string ⟨(digT n).toArray⟩) ∧ Below w.heap.size w w' := by
  have os := one_str n hn
  have t0 : decide ((9 : Int) < (n : Int)) = false := decide_eq_false (by omega)
  have u0 : IntKind.u8.wrap (48 + (n : Int)) = 48 + (n : Int) := IntWalk.u8_in _ (by omega)
  go_enter Tryd.func47, Tryd.ntmps47
  go_wp2_with fail
  go_ret
  exact ⟨rfl, (Below.refl _ _).alloc (Nat.le_refl _) _⟩
set_option maxHeartbeats 2000000 in
theorem digits_any (n : Nat) (w : World) (hn : n ≤ 13) :
    Calls Tryd.prog 47 #[.int .i64 (n : Nat)] w fun e w' => e = .returned (.string ⟨(digT n).toArray⟩) ∧ Below w.heap.size w w' := by
  rcases Nat.lt_or_ge n 10 with h | h
  · exact digits_lo n w h
  · obtain ⟨k, rfl⟩ : ∃ k, n = k + 10 := ⟨n - 10, by omega⟩
    have HD := Lib.hid (fun w => digits_lo k w (by omega))
    have HT : Hid (digT (k + 10) = 49 :: digT k) := Lib.hid (by rw [digT_hi _ (by omega), digT_lo k (by omega), Nat.add_mod_right])
    have hl := digT_len k
    have e1 : (k : Int) + 10 - 10 = (k : Int) := by omega
    have z : ¬ 9223372036854775807 < 1 + (digT k).length := by omega
    generalize digT k = D at *
    go_enter Tryd.func47, Tryd.ntmps47
    go_wp2_with fail
    refine (HD.out _).mono ?_
    rintro e w1 ⟨rfl, hb⟩
    go_wp2_with fail
    go_ret
    exact ⟨by rw [HT.out]; first | rfl | (congr 2; apply ByteArray.ext; simp), hb⟩
theorem hold_div (m s R : Nat) (h : 1 ≤ R) : Pl.hold m s / 2 ^ R ≤ 4095 := by
  have h1 := Pl.hold_lt m s
  have h2 : Pl.hold m s / 2 ^ R ≤ Pl.hold m s / 2 ^ 1 := Nat.div_le_div_left (Nat.pow_le_pow_right (by omega) h) (by omega)
  omega
set_option maxHeartbeats 2000000 in
theorem rholding_any (m s : Nat) (w : World) (hm : m < 18446744073709551616) (hs : s < 4) :
    Calls Tryd.prog 32 #[.int .u64 (m : Nat), .int .u8 (s : Nat)] w fun e w' => e = .returned (.int .u16 (Pl.hold m s : Nat)) ∧ w = w' := by
  have f0 : decide ((3 : Int) < (s : Int)) = false := decide_eq_false (by omega)
  have f1 : decide (3 < s) = false := decide_eq_false (by omega)
  have H13 : Hid (Pl.hold m s / 2 ^ 13 = 0) := Lib.hid (Nat.div_eq_of_lt (Pl.hold_lt m s))
  have H0 : Hid (Pl.hold m s / 2 ^ 0 = Pl.hold m s) := Lib.hid (by simp)
  go_enter Tryd.func32, Tryd.ntmps32
  go_wp2_with fail
  go_loop [5, 6] (fun v5 v6 => ∃ R : Nat, R ≤ 13 ∧ v5 = .int .u16 ((Pl.hold m s / 2 ^ R : Nat) : Int) ∧ v6 = .int .i64 ((R : Int) - 1)) (fun _ v6 => (intOf v6 + 1).toNat)
  case atStart => exact ⟨13, by omega, by rw [H13.out]; rfl, rfl⟩
  case round =>
    obtain ⟨R, hR, rfl, rfl⟩ := hrel
    rcases Nat.eq_zero_or_pos R with h0 | h0
    · subst h0
      rw [H0.out]
      go_wp2_with fail
      go_ret
      exact ⟨rfl, rfl⟩
    · obtain ⟨r, rfl⟩ : ∃ r, R = r + 1 := ⟨R - 1, by omega⟩
      have t0 : decide ((0 : Int) ≤ ((r + 1 : Nat) : Int) - 1) = true := decide_eq_true (by omega)
      have t1 : ((r + 1 : Nat) : Int) - 1 = (r : Int) := by omega
      have t2 : (r : Int) + 1 - 1 = (r : Int) := by omega
      have t3 : decide ((0 : Int) ≤ (r : Int)) = true := decide_eq_true (by omega)
      have hq := hold_div m s (r + 1) (by omega)
      have HS := Lib.hid (holdTo_s m s r)
      have HC := Lib.hid (fun w => has_any m s r w hm hs (by omega))
      generalize hb m s r = b at *
      generalize Pl.hold m s / 2 ^ (r + 1) = q at *
      go_wp2_with fail
      refine (HC.out _).mono ?_
      rintro e w1 ⟨rfl, rfl⟩
      cases b
      · go_wp2_with fail
        exact ⟨⟨r, by omega, by rw [HS.out]; simp; omega, by simp⟩, by simp [intOf]⟩
      · go_wp2_with fail
        exact ⟨⟨r, by omega, by rw [HS.out]; simp; omega, by simp⟩, by simp [intOf]⟩
end Go.Proofs.YtdebhdjcacojeaaDoor
