/- The contract of the reference's decimal. -/
import Derived.Test.YtfhkgpipbegpgaaGreatDoorRefG
import Derived.Test.YtfhkgpipbegpgaaGreatDoorTxt
namespace Go.Proofs.YtfhkgpipbegpgaaGreatDoor
open Go Go.RowKit

theorem rune_str (d : Nat) (h : d < 10) (w : World) : (convert 21 9 (.int .i32 (48 + (d : Int)))).run Tryz.prog w = .ok (.string ⟨#[UInt8.ofNat (48 + d)]⟩) w := by
  rcases (by omega : d = 0 ∨ d = 1 ∨ d = 2 ∨ d = 3 ∨ d = 4 ∨ d = 5 ∨ d = 6 ∨ d = 7 ∨ d = 8 ∨ d = 9) with rfl | rfl | rfl | rfl | rfl | rfl | rfl | rfl | rfl | rfl <;> kernel_rfl
theorem ten_row (W : World) : Dg (W.alloc (.cells #[.int .i64 10] 3)) (some ⟨W.heap.size, 0, none⟩) 1 10 := by
  have h1 : dig 10 = [10] := dig_one (by omega) (by omega)
  have h2 : nd 10 = 1 := by rw [← dig_len, h1]; rfl
  refine ⟨fun _ => ⟨W.heap.size, 0, rfl, by simp, fun j x hj => ?_⟩, by rw [h2]; exact Nat.le_refl _, by simp [maxLen], fun h => by cases h⟩
  rw [h1] at hj
  have hB := Blk.new W 3 #[.int .i64 10]
  match j, hj with
  | 0, hj => have := Option.some.inj hj; subst this; exact hB.cell (j := 0) rfl
  | (j + 1), hj => simp at hj
theorem ten_nd : nd 10 = 1 := by rw [← dig_len, dig_one (by omega) (by omega)]; rfl
/-- What has been written of N's digits, x being left. -/
def DecP (N x : Nat) (T : List UInt8) : Prop := Lib.decDigits N = (if x = 0 ∧ T ≠ [] then [] else Lib.decDigits x) ++ T
theorem DecP.start (N : Nat) : DecP N N [] := by unfold DecP; simp
theorem dec_step (x : Nat) : Lib.decDigits x = (if x / 10 = 0 then [] else Lib.decDigits (x / 10)) ++ [UInt8.ofNat (48 + x % 10)] := by
  rw [Lib.decDigits]
  by_cases h : x < 10
  · rw [dif_pos h, if_pos (by omega), Nat.mod_eq_of_lt h]; rfl
  · rw [dif_neg h, if_neg (by omega)]
theorem DecP.step {N x : Nat} {T : List UInt8} (h : DecP N x T) (hx : ¬ (x = 0 ∧ T ≠ [])) : DecP N (x / 10) (UInt8.ofNat (48 + x % 10) :: T) := by
  unfold DecP at h ⊢
  rw [if_neg hx, dec_step x, List.append_assoc, List.singleton_append] at h
  rw [h]
  congr 1
  by_cases h0 : x / 10 = 0
  · rw [if_pos h0, if_pos ⟨h0, by simp⟩]
  · rw [if_neg h0, if_neg (fun h => h0 h.1)]
theorem DecP.done {N : Nat} {T : List UInt8} (h : DecP N 0 T) (hT : T ≠ []) : Lib.decDigits N = T := by
  unfold DecP at h
  rw [if_pos ⟨rfl, hT⟩] at h; exact h
theorem DecP.len {N x : Nat} {T : List UInt8} (h : DecP N x T) : T.length ≤ (Lib.decDigits N).length := by
  unfold DecP at h
  rw [h, List.length_append]; omega
def RetStr (l : List UInt8) (w : World) (e : Ending) (w' : World) : Prop := e = .returned (.string ⟨l.toArray⟩) ∧ Below w.heap.size w w'
set_option maxRecDepth 100000 in
set_option maxHeartbeats 4000000 in
theorem decimal_any (A : Option Addr) (ca n : Nat) (hk : nd n ≤ 400) (hl : (Lib.decDigits n).length ≤ 10000) (w : World) (hA : Dg w A ca n) :
    Calls Tryz.prog 57 #[.slice A (nd n) ca] w (RetStr (Lib.decDigits n) w) := by
  have HA := Lib.hid hA
  obtain ⟨N, hN⟩ : ∃ N, nd n = N := ⟨_, rfl⟩
  have HN := Lib.hid hN
  rw [hN] at hk ⊢
  clear hA hN
  go_enter Tryz.func57, Tryz.ntmps57
  go_wp2
  go_loopg [0, 3] (n + 1) (fun k s0 s3 wr => ∃ x : Nat, ∃ T : List UInt8, ∃ X C cx, s0 = .slice X C cx ∧ s3 = .string ⟨T.toArray⟩ ∧ C = nd x ∧ Dg wr X cx x ∧ DecP n x T ∧ nd x ≤ 400 ∧ ((T = [] ∧ x + 1 ≤ k) ∨ (T ≠ [] ∧ x ≤ k)) ∧ Below w.heap.size w wr)
  case atStart => exact ⟨n, [], A, N, ca, rfl, rfl, HN.out.symm, HA.out, DecP.start n, by rw [HN.out]; exact hk, .inl ⟨rfl, Nat.le_refl _⟩, Below.refl _ _⟩
  case round =>
    obtain ⟨x, T, X, C, cx, rfl, rfl, hC, hX, hP, hkx, hm, hbw⟩ := hrel
    have HX := Lib.hid hX
    have HW := Lib.hid hbw
    have HC := Lib.hid hC
    have HP := Lib.hid hP
    clear hX hbw hC HA
    by_cases hgo : x = 0 ∧ T ≠ []
    · obtain ⟨rfl, hT⟩ := hgo
      have hC0 := HC.out
      rw [nd_zero] at hC0
      subst hC0
      have HE := Lib.hid (hP.done hT)
      rcases T with _ | ⟨c, T⟩
      · exact absurd rfl hT
      clear HC hm hT HX HP hP hkx
      go_wp2
      go_ret
      exact ⟨by rw [HE.out]; rfl, HW.out⟩
    · have hlen : T.length ≤ 10000 := Nat.le_trans hP.len hl
      have HP2 := Lib.hid (hP.step hgo)
      have hgk : x / 10 < gk := by
        rcases hm with ⟨h1, h2⟩ | ⟨h1, h2⟩
        · omega
        · have : x ≠ 0 := fun h => hgo ⟨h, h1⟩
          omega
      have hx10 : nd (x / 10) ≤ 400 := Nat.le_trans (nd_mono (Nat.div_le_self _ _)) hkx
      have DV : Hid (Calls Tryz.prog 64 #[.slice X C cx, .slice (some ⟨wr.heap.size, 0, none⟩) 1 1] (wr.alloc (.cells #[.int .i64 10] 3)) (RetDD (x / 10) (x % 10) (wr.alloc (.cells #[.int .i64 10] 3)))) := Lib.hid (by
        have := div_all X (some ⟨wr.heap.size, 0, none⟩) cx 1 x 10 (by omega) (by omega) (wr.alloc (.cells #[.int .i64 10] 3)) (HX.out.keep (blw1 _ _)) (ten_row wr)
        rw [← HC.out, ten_nd] at this
        exact this)
      have hgo2 : Hid (x = 0 → T = []) := Lib.hid fun h => Classical.byContradiction fun h' => hgo ⟨h, h'⟩
      obtain ⟨d, hd⟩ : ∃ d, x % 10 = d := ⟨_, rfl⟩
      obtain ⟨y, hy⟩ : ∃ d, x / 10 = d := ⟨_, rfl⟩
      have hd10 : d < 10 := by omega
      rw [hd] at HP2 DV
      rw [hy] at HP2 DV hgk hx10
      have CV := rune_str d hd10
      have z1 : ¬ 9223372036854775807 < 1 + T.length := by omega
      have HD := Lib.hid hd
      have hC0 : Hid (C = 0 → x = 0) := Lib.hid fun h => (nd_zero_iff x).1 (by rw [← HC.out]; exact h)
      clear hd hy hgo hm HX HC HP hP hkx hlen hl
      rcases Nat.eq_zero_or_pos C with hc | hc
      · have hT := hgo2.out (hC0.out hc)
        subst hc hT
        go_wp2_with fail
        refine DV.out.mono ?_
        rintro e w2 ⟨Y, cy, Z, cz, rfl, hY, hZ, hb2⟩
        have HY := Lib.hid hY
        have HW2 := Lib.hid (bchain HW.out ((blw1 wr _).trans (hb2.mono (blw1 wr _).size)))
        rcases Nat.eq_zero_or_pos d with h0 | h0
        · subst h0
          clear hY hZ hb2 DV HW hgo2 hC0 HD
          rw [nd_zero]
          go_wp2
          go_roundg y
          case measure => exact hgk
          case rel => exact ⟨y, UInt8.ofNat (48 + 0) :: [], Y, nd y, cy, rfl, by first | rfl | (congr 1; done) | (congr 1; apply ByteArray.ext; simp; done) | (congr 1; apply ByteArray.ext; simp; rfl), rfl, HY.out, HP2.out, hx10, .inr ⟨by simp, Nat.le_refl _⟩, HW2.out⟩
        · obtain ⟨bb, off, rfl, hbl, hcc⟩ := hZ.at_ (k := 0) (by have := (nd_zero_iff d).1; omega)
          have x0 := hcc 0 (by have := (nd_zero_iff d).1; omega)
          have hdd : dg d 0 = d := by unfold dg; rw [Nat.pow_zero, Nat.div_one]; omega
          rw [hdd, Nat.add_zero] at x0
          have hn1 : nd d = 1 := by rw [← dig_len, dig_one (by omega) (by omega)]; rfl
          have hroom := hZ.room
          rw [hn1] at hroom ⊢
          clear hcc hbl hY hZ hb2 DV HW hdd hn1 hgo2 hC0 HD
          go_wp2
          go_roundg y
          case measure => exact hgk
          case rel => exact ⟨y, UInt8.ofNat (48 + d) :: [], Y, nd y, cy, rfl, by first | rfl | (congr 1; done) | (congr 1; apply ByteArray.ext; simp; done) | (congr 1; apply ByteArray.ext; simp; rfl), rfl, HY.out, HP2.out, hx10, .inr ⟨by simp, Nat.le_refl _⟩, HW2.out⟩
      · have u1 : decide (0 < C) = true := decide_eq_true hc
        have u2 : decide ((0 : Int) < (C : Int)) = true := decide_eq_true (by omega)
        go_wp2_with fail
        refine DV.out.mono ?_
        rintro e w2 ⟨Y, cy, Z, cz, rfl, hY, hZ, hb2⟩
        have HY := Lib.hid hY
        have HW2 := Lib.hid (bchain HW.out ((blw1 wr _).trans (hb2.mono (blw1 wr _).size)))
        rcases Nat.eq_zero_or_pos d with h0 | h0
        · subst h0
          clear hY hZ hb2 DV HW hgo2 hC0 HD
          rw [nd_zero]
          go_wp2
          go_roundg y
          case measure => exact hgk
          case rel => exact ⟨y, UInt8.ofNat (48 + 0) :: T, Y, nd y, cy, rfl, by first | rfl | (congr 1; done) | (congr 1; apply ByteArray.ext; simp; done) | (congr 1; apply ByteArray.ext; simp; rfl), rfl, HY.out, HP2.out, hx10, .inr ⟨by simp, Nat.le_refl _⟩, HW2.out⟩
        · obtain ⟨bb, off, rfl, hbl, hcc⟩ := hZ.at_ (k := 0) (by have := (nd_zero_iff d).1; omega)
          have x0 := hcc 0 (by have := (nd_zero_iff d).1; omega)
          have hdd : dg d 0 = d := by unfold dg; rw [Nat.pow_zero, Nat.div_one]; omega
          rw [hdd, Nat.add_zero] at x0
          have hn1 : nd d = 1 := by rw [← dig_len, dig_one (by omega) (by omega)]; rfl
          have hroom := hZ.room
          rw [hn1] at hroom ⊢
          clear hcc hbl hY hZ hb2 DV HW hdd hn1 hgo2 hC0 HD
          go_wp2
          go_roundg y
          case measure => exact hgk
          case rel => exact ⟨y, UInt8.ofNat (48 + d) :: T, Y, nd y, cy, rfl, by first | rfl | (congr 1; done) | (congr 1; apply ByteArray.ext; simp; done) | (congr 1; apply ByteArray.ext; simp; rfl), rfl, HY.out, HP2.out, hx10, .inr ⟨by simp, Nat.le_refl _⟩, HW2.out⟩
end Go.Proofs.YtfhkgpipbegpgaaGreatDoor
