/- The line of a record: figures, fail, Check, Line; Check and Line of the reference. -/
import Derived.Test.YtbompgfjlllioaaDoorJLeaf
import Derived.Test.YtbompgfjlllioaaDoorShelf
import Derived.Lib.LaidTab
import Derived.Lib.ItoaNum
import Derived.WalkSmall
namespace Go.Proofs.YtbompgfjlllioaaDoor
open Go Go.RowKit

/-- What stands in the world from the beginning on. -/
def Env (w : World) : Prop := Lib.TabIs Tryd.prog w "internal/strconv.uint64pow10" .u64 Lib.pow10Tab
theorem gPow : Tryd.prog.globalNamed "internal/strconv.uint64pow10" = some 1 := by kernel_rfl
theorem Env.keep {w w' : World} (h : Env w) (hb : Below w.heap.size w w') : Env w' :=
  var?_below hb gPow (World.block_lt_of_cell? w _ (Lib.TabIs.cell h gPow 0 (by decide))) h
theorem below_grow (w : World) (k : Nat) (os : Array Obj) : Below w.heap.size w (Go.Sort.grow (w.drewN k) os) :=
  ⟨rfl, rfl, rfl, by simp [Go.Sort.grow, World.drewN], fun i hi => by simp [Go.Sort.grow, World.drewN, Array.getElem?_append_left hi]⟩
theorem itoa_any (n : Int) (w : World) (h : Env w) (h0 : -9223372036854775808 ≤ n) (h1 : n ≤ 9223372036854775807) :
    Calls Tryd.prog 57 #[.int .i64 n] w fun e w' => e = .returned (.string ⟨(Lib.itoa n).toArray⟩) ∧ Below w.heap.size w w' :=
  (Tryd.strconv_Itoa n h0 h1 w h).mono fun _ _ ⟨he, k, os, hw⟩ => ⟨he, hw ▸ below_grow w k os⟩
theorem str_app (a b : List UInt8) : (⟨a.toArray⟩ : ByteArray) ++ ⟨b.toArray⟩ = ⟨(a ++ b).toArray⟩ := by
  apply ByteArray.ext
  simp
theorem str_self (s : ByteArray) : s = ⟨s.data.toList.toArray⟩ := by
  apply ByteArray.ext
  simp
theorem str_line (c x : Nat) (s : ByteArray) (h : sumL x s.data.toList = c) : ((⟨(figL c).toArray⟩ : ByteArray) ++ ⟨#[32]⟩ ++ s ++ ⟨#[10]⟩) = ⟨(lineL x s.data.toList).toArray⟩ := by
  rw [show ((⟨#[32]⟩ : ByteArray)) = ⟨[32].toArray⟩ from rfl, show ((⟨#[10]⟩ : ByteArray)) = ⟨[10].toArray⟩ from rfl, str_app]
  conv => lhs; rw [str_self s]
  rw [str_app, str_app]
  unfold lineL
  rw [h]
theorem below1 (W : World) (o : Obj) : Below W.heap.size W (W.alloc o) := (Below.refl _ _).alloc (Nat.le_refl _) _
set_option maxRecDepth 100000 in
theorem fig_any (c : Nat) (hc : c < 9973) (w : World) (he : Env w) : Calls Tryd.prog 41 #[.int .i64 (c : Int)] w (fun e w' => e = .returned (.string ⟨(figL c).toArray⟩) ∧ Below w.heap.size w w') := by
  obtain ⟨f0, f1, f2, f3, hf⟩ : ∃ f0 f1 f2 f3, figL c = [f0, f1, f2, f3] := ⟨_, _, _, _, rfl⟩
  have IT := Lib.hid (itoa_any (10000 + (c : Int)) w he (by omega) (by omega))
  rw [itoa_fig c (by omega), hf] at IT
  have w1 : IntKind.i64.wrap (10000 + (c : Int)) = 10000 + (c : Int) := IntWalk.i64_in _ (by omega)
  have HF := Lib.hid hf
  clear hf he
  go_enter Tryd.func41, Tryd.ntmps41
  go_wp2_with fail
  refine IT.out.mono ?_
  rintro e w1 ⟨rfl, hb⟩
  have HB := Lib.hid hb
  clear hb IT
  go_wp2
  go_ret
  exact ⟨by rw [HF.out]; rfl, HB.out⟩
set_option maxRecDepth 100000 in
set_option maxHeartbeats 2000000 in
theorem fail_any (x : Int) (s : ByteArray) (hs : s.size ≤ 2000000) (w : World) : Calls Tryd.prog 40 #[.int .i64 x, .string s] w (fun e w' => e = .returned (.int .i64 (failP x s.data.toList)) ∧ w = w') := by
  by_cases hx0 : x < 0
  · have HP : Hid (failP x s.data.toList = 2) := Lib.hid (by unfold failP; rw [if_pos (.inl hx0)])
    have t1 : decide (x < 0) = true := decide_eq_true hx0
    clear hx0
    go_enter Tryd.func40, Tryd.ntmps40
    go_wp2
    go_ret
    exact ⟨by rw [HP.out]; rfl, rfl⟩
  by_cases hx1 : 9973 ≤ x
  · have HP : Hid (failP x s.data.toList = 2) := Lib.hid (by unfold failP; rw [if_pos (.inr hx1)])
    have t1 : decide (x < 0) = false := decide_eq_false hx0
    have t2 : decide (9973 ≤ x) = true := decide_eq_true hx1
    have t3 : decide (9972 < x) = true := decide_eq_true (by omega)
    clear hx0 hx1
    go_enter Tryd.func40, Tryd.ntmps40
    go_wp2
    go_ret
    exact ⟨by rw [HP.out]; rfl, rfl⟩
  obtain ⟨X, rfl⟩ : ∃ X : Nat, x = (X : Int) := ⟨x.toNat, by omega⟩
  have t1 : decide ((X : Int) < 0) = false := decide_eq_false hx0
  have t2 : decide (9973 ≤ (X : Int)) = false := decide_eq_false hx1
  have t3 : decide (9972 < (X : Int)) = false := decide_eq_false (by omega)
  have hX : X < 9973 := by omega
  have RT := Lib.hid (fun W => right_s s hs W)
  rcases hr : rightL s.data.toList with _ | _
  · have HP : Hid (failP (X : Int) s.data.toList = 422) := Lib.hid (by unfold failP; rw [if_neg (by omega), hr]; rfl)
    rw [hr] at RT
    clear hr hx0 hx1
    go_enter Tryd.func40, Tryd.ntmps40
    go_wp2_with fail
    refine (RT.out _).mono ?_
    rintro e w1 ⟨rfl, rfl⟩
    go_wp2
    go_ret
    exact ⟨by rw [HP.out]; rfl, rfl⟩
  have HP : Hid (failP (X : Int) s.data.toList = 0) := Lib.hid (by unfold failP; rw [if_neg (by omega), hr]; rfl)
  rw [hr] at RT
  clear hr hx0 hx1
  go_enter Tryd.func40, Tryd.ntmps40
  go_wp2_with fail
  refine (RT.out _).mono ?_
  rintro e w1 ⟨rfl, rfl⟩
  go_wp2
  go_ret
  exact ⟨by rw [HP.out]; rfl, rfl⟩
theorem failP_in {x : Int} {l : List UInt8} (h : failP x l = 0) : 0 ≤ x ∧ x < 9973 ∧ rightL l = true := by
  unfold failP at h
  split at h
  · cases h
  · split at h
    · rename_i h1 h2; exact ⟨by omega, by omega, h2⟩
    · cases h
theorem failP_ne {x : Int} {l : List UInt8} (h : failP x l ≠ 0) : (failP x l == 0) = false := by simpa using h
set_option maxRecDepth 100000 in
set_option maxHeartbeats 2000000 in
theorem check_any (x : Int) (s : ByteArray) (hs : s.size ≤ 2000000) (w : World) : Calls Tryd.prog 22 #[.int .i64 x, .string s] w (fun e w' => e = .returned (.tuple #[.int .i64 (checkP x s.data.toList).1, .int .i64 (checkP x s.data.toList).2]) ∧ w = w') := by
  obtain ⟨F, hF⟩ : ∃ F, failP x s.data.toList = F := ⟨_, rfl⟩
  have FA := Lib.hid (fail_any x s hs w)
  rw [hF] at FA
  by_cases h0 : F = 0
  · subst h0
    have HC : Hid (checkP x s.data.toList = (((sumL x.toNat s.data.toList : Nat) : Int), (0 : Int))) := Lib.hid (by unfold checkP; rw [if_pos hF])
    obtain ⟨hx0, hx1, _⟩ := failP_in hF
    obtain ⟨X, rfl⟩ : ∃ X : Nat, x = (X : Int) := ⟨x.toNat, by omega⟩
    have SU := Lib.hid (sum_s X (by omega) s hs w)
    clear hF hx0 hx1
    go_enter Tryd.func22, Tryd.ntmps22
    go_wp2_with fail
    refine FA.out.mono ?_
    rintro e w1 ⟨rfl, rfl⟩
    go_wp2_with fail
    refine SU.out.mono ?_
    rintro e w1 ⟨rfl, rfl⟩
    go_wp2
    go_ret2
    exact ⟨by rw [HC.out]; rfl, rfl⟩
  · have HC : Hid (checkP x s.data.toList = (0, F)) := Lib.hid (by unfold checkP; rw [if_neg (by rw [hF]; exact h0), hF])
    have t1 : (F == 0) = false := by simpa using h0
    clear hF h0
    go_enter Tryd.func22, Tryd.ntmps22
    go_wp2_with fail
    refine FA.out.mono ?_
    rintro e w1 ⟨rfl, rfl⟩
    go_wp2
    go_ret2
    exact ⟨by rw [HC.out]; rfl, rfl⟩
set_option maxRecDepth 100000 in
set_option maxHeartbeats 2000000 in
theorem line_any (x : Int) (s : ByteArray) (hs : s.size ≤ 2000000) (w : World) (he : Env w) : Calls Tryd.prog 23 #[.int .i64 x, .string s] w (fun e w' => e = .returned (.tuple #[.string ⟨(lineP x s.data.toList).1.toArray⟩, .int .i64 (lineP x s.data.toList).2]) ∧ Below w.heap.size w w') := by
  obtain ⟨F, hF⟩ : ∃ F, failP x s.data.toList = F := ⟨_, rfl⟩
  have FA := Lib.hid (fail_any x s hs w)
  rw [hF] at FA
  by_cases h0 : F = 0
  · subst h0
    have HC : Hid (lineP x s.data.toList = (lineL x.toNat s.data.toList, 0)) := Lib.hid (by unfold lineP; rw [if_pos hF])
    obtain ⟨hx0, hx1, _⟩ := failP_in hF
    obtain ⟨X, rfl⟩ : ∃ X : Nat, x = (X : Int) := ⟨x.toNat, by omega⟩
    have SU := Lib.hid (sum_s X (by omega) s hs w)
    obtain ⟨c, hc⟩ : ∃ c, sumL X s.data.toList = c := ⟨_, rfl⟩
    have hc9 : c < 9973 := by rw [← hc]; exact sumL_lt _ _
    have FG := Lib.hid (fig_any c hc9 w he)
    have HL := Lib.hid (str_line c X s hc)
    have hz : (figL c).toArray.size = 4 := rfl
    obtain ⟨G, hG⟩ : ∃ G : ByteArray, G = ⟨(figL c).toArray⟩ ∧ G.size = 4 := ⟨_, rfl, rfl⟩
    rw [hc] at SU
    rw [← hG.1] at FG HL
    have hG4 := hG.2
    clear hF hx0 hx1 hc hG hz
    go_enter Tryd.func23, Tryd.ntmps23
    go_wp2_with fail
    refine FA.out.mono ?_
    rintro e w1 ⟨rfl, rfl⟩
    go_wp2_with fail
    refine SU.out.mono ?_
    rintro e w1 ⟨rfl, rfl⟩
    go_wp2_with fail
    refine FG.out.mono ?_
    rintro e w2 ⟨rfl, hb⟩
    have HB := Lib.hid hb
    clear hb FG FA SU
    go_wp2
    go_ret2
    exact ⟨by rw [HC.out]; exact congrArg (fun z => Ending.returned (.tuple #[.string z, .int .i64 0])) HL.out, HB.out⟩
  · have HC : Hid (lineP x s.data.toList = ([], F)) := Lib.hid (by unfold lineP; rw [if_neg (by rw [hF]; exact h0), hF])
    have t1 : (F == 0) = false := by simpa using h0
    clear hF h0
    go_enter Tryd.func23, Tryd.ntmps23
    go_wp2_with fail
    refine FA.out.mono ?_
    rintro e w1 ⟨rfl, rfl⟩
    go_wp2
    go_ret2
    exact ⟨by rw [HC.out]; rfl, Below.refl _ _⟩
set_option maxRecDepth 100000 in
set_option maxHeartbeats 2000000 in
theorem rcheck_any (x : Int) (s : ByteArray) (hs : s.size ≤ 2000000) (w : World) : Calls Tryd.prog 29 #[.int .i64 x, .string s] w (fun e w' => e = .returned (.tuple #[.int .i64 (checkP x s.data.toList).1, .int .i64 (checkP x s.data.toList).2]) ∧ w = w') := by
  by_cases hx0 : x < 0
  · have HP : Hid (failP x s.data.toList = 2) := Lib.hid (by unfold failP; rw [if_pos (.inl hx0)])
    have t1 : decide (x < 0) = true := decide_eq_true hx0
    clear hx0
    go_enter Tryd.func29, Tryd.ntmps29
    go_wp2
    go_ret2
    exact ⟨by unfold checkP; rw [HP.out]; rfl, rfl⟩
  by_cases hx1 : 9973 ≤ x
  · have HP : Hid (failP x s.data.toList = 2) := Lib.hid (by unfold failP; rw [if_pos (.inr hx1)])
    have t1 : decide (x < 0) = false := decide_eq_false hx0
    have t2 : decide (9973 ≤ x) = true := decide_eq_true hx1
    have t3 : decide (9972 < x) = true := decide_eq_true (by omega)
    clear hx0 hx1
    go_enter Tryd.func29, Tryd.ntmps29
    go_wp2
    go_ret2
    exact ⟨by unfold checkP; rw [HP.out]; rfl, rfl⟩
  obtain ⟨X, rfl⟩ : ∃ X : Nat, x = (X : Int) := ⟨x.toNat, by omega⟩
  have t1 : decide ((X : Int) < 0) = false := decide_eq_false hx0
  have t2 : decide (9973 ≤ (X : Int)) = false := decide_eq_false hx1
  have t3 : decide (9972 < (X : Int)) = false := decide_eq_false (by omega)
  have hX : X < 9973 := by omega
  have RT := Lib.hid (fun W => record_any s hs W)
  rcases hr : rightL s.data.toList with _ | _
  · have HP : Hid (failP (X : Int) s.data.toList = 422) := Lib.hid (by unfold failP; rw [if_neg (by omega), hr]; rfl)
    rw [hr] at RT
    clear hr hx0 hx1
    go_enter Tryd.func29, Tryd.ntmps29
    go_wp2_with fail
    refine (RT.out _).mono ?_
    rintro e w1 ⟨rfl, rfl⟩
    go_wp2
    go_ret2
    exact ⟨by unfold checkP; rw [HP.out]; rfl, rfl⟩
  have HP : Hid (failP (X : Int) s.data.toList = 0) := Lib.hid (by unfold failP; rw [if_neg (by omega), hr]; rfl)
  rw [hr] at RT
  clear hr hx0 hx1
  have HC : Hid (checkP (X : Int) s.data.toList = (((sumL X s.data.toList : Nat) : Int), (0 : Int))) := Lib.hid (by unfold checkP; rw [if_pos HP.out]; rfl)
  clear HP
  go_enter Tryd.func29, Tryd.ntmps29
  go_wp2_with fail
  refine (RT.out _).mono ?_
  rintro e w1 ⟨rfl, rfl⟩
  clear RT
  go_wp2
  go_loopw [6, 7] (fun s6 s7 wr => ∃ k Y : Nat, k ≤ s.size ∧ s7 = .int .i64 k ∧ s6 = .int .i64 Y ∧ Y = sumF X (s.data.toList.take k) ∧ wr = w) (fun _ s7 _ => s.size - (intOf s7).toNat)
  case atStart => exact ⟨0, X, Nat.zero_le _, rfl, rfl, by rw [List.take_zero, sumF_nil], rfl⟩
  case round =>
    obtain ⟨k, Y, hk, rfl, rfl, hX', rfl⟩ := hrel
    have HX := Lib.hid hX'
    have hY2 : Y < 9973 := by rw [hX']; exact sumF_lt _ _ hX
    clear hX'
    by_cases hlt : k < s.size
    · have u1 : decide (k < s.size) = true := decide_eq_true hlt
      have i0 : (0 : Int) ≤ (k : Int) := by omega
      have i1 : (k : Int) < (s.size : Int) := by omega
      obtain ⟨c, hc⟩ : ∃ c : UInt8, s[k] = c := ⟨_, rfl⟩
      have HS : Hid (s.data.toList.take (k + 1) = s.data.toList.take k ++ [c]) := Lib.hid (by rw [take_next _ k (by rw [str_len]; exact hlt), str_at s k hlt, hc])
      have c1 := c.toNat_lt
      obtain ⟨Z, hZ⟩ : ∃ Z, (31 * Y + c.toNat) % 9973 = Z := ⟨_, rfl⟩
      obtain ⟨V, hV⟩ : ∃ V, (31 * Y + c.toNat) / 9973 = V := ⟨_, rfl⟩
      have HZ := Lib.hid hZ
      have w1 : IntKind.i64.wrap (31 * (Y : Int)) = 31 * (Y : Int) := IntWalk.i64_in _ (by omega)
      have w2 : IntKind.i64.wrap (31 * (Y : Int) + (c.toNat : Int)) = 31 * (Y : Int) + (c.toNat : Int) := IntWalk.i64_in _ (by omega)
      have w3 : (31 * (Y : Int) + (c.toNat : Int)).tdiv 9973 = (V : Int) := by rw [Int.tdiv_eq_ediv_of_nonneg (by omega)]; omega
      have w4 : (31 * (Y : Int) + (c.toNat : Int)) / 9973 = (V : Int) := by omega
      have w5 : IntKind.i64.wrap (V : Int) = (V : Int) := IntWalk.i64_in _ (by omega)
      have w6 : IntKind.i64.wrap ((V : Int) * 9973) = (V : Int) * 9973 := IntWalk.i64_in _ (by omega)
      have w7 : IntKind.i64.wrap (31 * (Y : Int) + (c.toNat : Int) - (V : Int) * 9973) = (Z : Int) := by
        rw [show (31 * (Y : Int) + (c.toNat : Int) - (V : Int) * 9973) = (Z : Int) by omega]
        exact IntWalk.i64_in _ (by omega)
      clear hZ hV
      go_wp2
      go_roundw
      case rel => exact ⟨k + 1, Z, by omega, by go_num, by go_num, by rw [HS.out, sumF_snoc, ← HX.out, HZ.out], trivial⟩
      case measure => simp [intOf]; omega
    · obtain rfl : k = s.size := by omega
      have HF : Hid (Y = sumF X s.data.toList) := Lib.hid (by rw [HX.out, List.take_of_length_le (by rw [str_len]; exact Nat.le_refl _)])
      obtain ⟨Z, hZ⟩ : ∃ Z, (31 * Y + s.size) % 9973 = Z := ⟨_, rfl⟩
      obtain ⟨V, hV⟩ : ∃ V, (31 * Y + s.size) / 9973 = V := ⟨_, rfl⟩
      have HZ : Hid (Z = sumL X s.data.toList) := Lib.hid (by unfold sumL; rw [← HF.out, str_len, hZ])
      have w1 : IntKind.i64.wrap (31 * (Y : Int)) = 31 * (Y : Int) := IntWalk.i64_in _ (by omega)
      have w2 : IntKind.i64.wrap (31 * (Y : Int) + (s.size : Int)) = 31 * (Y : Int) + (s.size : Int) := IntWalk.i64_in _ (by omega)
      have w3 : (31 * (Y : Int) + (s.size : Int)).tdiv 9973 = (V : Int) := by rw [Int.tdiv_eq_ediv_of_nonneg (by omega)]; omega
      have w4 : (31 * (Y : Int) + (s.size : Int)) / 9973 = (V : Int) := by omega
      have w5 : IntKind.i64.wrap (V : Int) = (V : Int) := IntWalk.i64_in _ (by omega)
      have w6 : IntKind.i64.wrap ((V : Int) * 9973) = (V : Int) * 9973 := IntWalk.i64_in _ (by omega)
      have w7 : IntKind.i64.wrap (31 * (Y : Int) + (s.size : Int) - (V : Int) * 9973) = (Z : Int) := by
        rw [show (31 * (Y : Int) + (s.size : Int) - (V : Int) * 9973) = (Z : Int) by omega]
        exact IntWalk.i64_in _ (by omega)
      clear hZ hV
      go_wp2
      go_ret2
      exact ⟨by rw [HC.out, ← HZ.out]; rfl, rfl⟩
theorem conv4 (a b c d : UInt8) (wr : World) : (convert 26 9 (.slice (some ⟨wr.heap.size, 0, none⟩) 4 4)).run Tryd.prog (wr.alloc (.cells #[.int .u8 (a.toNat : Int), .int .u8 (b.toNat : Int), .int .u8 (c.toNat : Int), .int .u8 (d.toNat : Int)] 5)) =
    .ok (.string ⟨#[a, b, c, d]⟩) (wr.alloc (.cells #[.int .u8 (a.toNat : Int), .int .u8 (b.toNat : Int), .int .u8 (c.toNat : Int), .int .u8 (d.toNat : Int)] 5)) :=
  run_convert_bytes_back _ _ _ 5 _ 4 [a, b, c, d] (by kernel_rfl) (by kernel_rfl) (by kernel_rfl) (fun j hj => by
    have hj' : j < 4 := by simpa using hj
    match j, hj' with
    | 0, _ => simp [Addr.add]
    | 1, _ => simp [Addr.add]
    | 2, _ => simp [Addr.add]
    | 3, _ => simp [Addr.add])
theorem conv1 (wr : World) : (convert 26 9 (.slice (some ⟨wr.heap.size, 0, none⟩) 1 1)).run Tryd.prog (wr.alloc (.cells #[.int .u8 10] 5)) =
    .ok (.string ⟨#[10]⟩) (wr.alloc (.cells #[.int .u8 10] 5)) :=
  run_convert_bytes_back _ _ _ 5 _ 1 [10] (by kernel_rfl) (by kernel_rfl) (by kernel_rfl) (fun j hj => by
    obtain rfl : j = 0 := by simpa using hj
    simp [Addr.add])
theorem fig_u8 (n : Nat) (h : n < 10) : ((UInt8.ofNat (48 + n)).toNat : Int) = 48 + (n : Int) := by
  have : (UInt8.ofNat (48 + n)).toNat = 48 + n := by simp; omega
  rw [this]; omega
set_option maxRecDepth 100000 in
set_option maxHeartbeats 2000000 in
theorem rline_any (x : Int) (s : ByteArray) (hs : s.size ≤ 2000000) (w : World) : Calls Tryd.prog 28 #[.int .i64 x, .string s] w (fun e w' => e = .returned (.tuple #[.string ⟨(lineP x s.data.toList).1.toArray⟩, .int .i64 (lineP x s.data.toList).2]) ∧ Below w.heap.size w w') := by
  have RC := Lib.hid (rcheck_any x s hs w)
  by_cases h0 : failP x s.data.toList = 0
  · have HC : Hid (lineP x s.data.toList = (lineL x.toNat s.data.toList, 0)) := Lib.hid (by unfold lineP; rw [if_pos h0])
    rw [show checkP x s.data.toList = (((sumL x.toNat s.data.toList : Nat) : Int), (0 : Int)) by unfold checkP; rw [if_pos h0]] at RC
    obtain ⟨c, hc⟩ : ∃ c, sumL x.toNat s.data.toList = c := ⟨_, rfl⟩
    have hc9 : c < 9973 := by rw [← hc]; exact sumL_lt _ _
    have HL := Lib.hid (str_line c x.toNat s hc)
    rw [hc] at RC
    obtain ⟨a0, ha0⟩ : ∃ a0, c / 1000 = a0 := ⟨_, rfl⟩
    obtain ⟨c1, hc1⟩ : ∃ c1, c / 100 = c1 := ⟨_, rfl⟩
    obtain ⟨a1, ha1⟩ : ∃ a1, c1 % 10 = a1 := ⟨_, rfl⟩
    obtain ⟨c2, hc2⟩ : ∃ c2, c / 10 = c2 := ⟨_, rfl⟩
    obtain ⟨a2, ha2⟩ : ∃ a2, c2 % 10 = a2 := ⟨_, rfl⟩
    obtain ⟨a3, ha3⟩ : ∃ a3, c % 10 = a3 := ⟨_, rfl⟩
    have b0 := fig_u8 a0 (by omega)
    have b1 := fig_u8 a1 (by omega)
    have b2 := fig_u8 a2 (by omega)
    have b3 := fig_u8 a3 (by omega)
    have hG : figL c = [UInt8.ofNat (48 + a0), UInt8.ofNat (48 + a1), UInt8.ofNat (48 + a2), UInt8.ofNat (48 + a3)] := by unfold figL; rw [ha0, hc1, ha1, hc2, ha2, ha3]
    have C4 := conv4 (UInt8.ofNat (48 + a0)) (UInt8.ofNat (48 + a1)) (UInt8.ofNat (48 + a2)) (UInt8.ofNat (48 + a3))
    have C1 := fun o => conv1 (w.alloc o)
    simp only [World.size_alloc] at C1
    obtain ⟨G, hG1, hG4⟩ : ∃ G : ByteArray, G = ⟨(figL c).toArray⟩ ∧ G.size = 4 := ⟨_, rfl, rfl⟩
    rw [b0, b1, b2, b3, show (⟨#[UInt8.ofNat (48 + a0), UInt8.ofNat (48 + a1), UInt8.ofNat (48 + a2), UInt8.ofNat (48 + a3)]⟩ : ByteArray) = G by rw [hG1, hG]] at C4
    rw [← hG1] at HL
    have q1 : (c : Int).tdiv 1000 = (a0 : Int) := by rw [Int.tdiv_eq_ediv_of_nonneg (by omega)]; omega
    have q2 : (c : Int).tdiv 100 = (c1 : Int) := by rw [Int.tdiv_eq_ediv_of_nonneg (by omega)]; omega
    have q3 : (c : Int).tdiv 10 = (c2 : Int) := by rw [Int.tdiv_eq_ediv_of_nonneg (by omega)]; omega
    have q1' : (c : Int) / 1000 = (a0 : Int) := by omega
    have q2' : (c : Int) / 100 = (c1 : Int) := by omega
    have q3' : (c : Int) / 10 = (c2 : Int) := by omega
    have r1 : (c1 : Int).tmod 10 = (a1 : Int) := by rw [Int.tmod_eq_emod_of_nonneg (by omega)]; omega
    have r2 : (c2 : Int).tmod 10 = (a2 : Int) := by rw [Int.tmod_eq_emod_of_nonneg (by omega)]; omega
    have r3 : (c : Int).tmod 10 = (a3 : Int) := by rw [Int.tmod_eq_emod_of_nonneg (by omega)]; omega
    have r1' : (c1 : Int) % 10 = (a1 : Int) := by omega
    have r2' : (c2 : Int) % 10 = (a2 : Int) := by omega
    have r3' : (c : Int) % 10 = (a3 : Int) := by omega
    have v0 : IntKind.i64.wrap (a0 : Int) = (a0 : Int) := IntWalk.i64_in _ (by omega)
    have v1 : IntKind.i64.wrap (c1 : Int) = (c1 : Int) := IntWalk.i64_in _ (by omega)
    have v2 : IntKind.i64.wrap (c2 : Int) = (c2 : Int) := IntWalk.i64_in _ (by omega)
    have w0 : IntKind.i64.wrap (48 + (a0 : Int)) = 48 + (a0 : Int) := IntWalk.i64_in _ (by omega)
    have w1 : IntKind.i64.wrap (48 + (a1 : Int)) = 48 + (a1 : Int) := IntWalk.i64_in _ (by omega)
    have w2 : IntKind.i64.wrap (48 + (a2 : Int)) = 48 + (a2 : Int) := IntWalk.i64_in _ (by omega)
    have w3 : IntKind.i64.wrap (48 + (a3 : Int)) = 48 + (a3 : Int) := IntWalk.i64_in _ (by omega)
    have y0 : IntKind.u8.wrap (48 + (a0 : Int)) = 48 + (a0 : Int) := IntWalk.u8_in _ (by omega)
    have y1 : IntKind.u8.wrap (48 + (a1 : Int)) = 48 + (a1 : Int) := IntWalk.u8_in _ (by omega)
    have y2 : IntKind.u8.wrap (48 + (a2 : Int)) = 48 + (a2 : Int) := IntWalk.u8_in _ (by omega)
    have y3 : IntKind.u8.wrap (48 + (a3 : Int)) = 48 + (a3 : Int) := IntWalk.u8_in _ (by omega)
    clear h0 hc ha0 ha1 ha2 ha3 hc1 hc2 b0 b1 b2 b3 hG hG1
    go_enter Tryd.func28, Tryd.ntmps28
    go_wp2_with fail
    refine RC.out.mono ?_
    rintro e w1 ⟨rfl, rfl⟩
    clear RC
    go_wp2
    go_ret2
    refine ⟨by rw [HC.out]; exact congrArg (fun z => Ending.returned (.tuple #[.string z, .int .i64 0])) HL.out, ?_⟩
    exact bchain (below1 _ _) (below1 _ _)
  · obtain ⟨F, hF⟩ : ∃ F, failP x s.data.toList = F := ⟨_, rfl⟩
    have HC : Hid (lineP x s.data.toList = ([], F)) := Lib.hid (by unfold lineP; rw [if_neg h0, hF])
    rw [show checkP x s.data.toList = (0, F) by unfold checkP; rw [if_neg h0, hF]] at RC
    have t1 : (F == 0) = false := by simpa [← hF] using h0
    clear hF h0
    go_enter Tryd.func28, Tryd.ntmps28
    go_wp2_with fail
    refine RC.out.mono ?_
    rintro e w1 ⟨rfl, rfl⟩
    go_wp2
    go_ret2
    exact ⟨by rw [HC.out]; rfl, Below.refl _ _⟩
end Go.Proofs.YtbompgfjlllioaaDoor
