/- The contract of Write. -/
import Derived.Test.YtgmofikhndlhcaaDoorPoints
import Derived.Test.YtgmofikhndlhcaaDoorText
import Derived.Lib.LaidTab
import Derived.Lib.ItoaNum
import Derived.WalkSmall
namespace Go.Proofs.YtgmofikhndlhcaaDoor
open Go.RowKit

/-- What stands in the world from the beginning on. -/
structure Env (w : World) : Prop where
  tabs : Tabs w
  tab : Lib.TabIs Tryd.prog w "internal/strconv.uint64pow10" .u64 Lib.pow10Tab
theorem gPow : Tryd.prog.globalNamed "internal/strconv.uint64pow10" = some 5 := by kernel_rfl
theorem Env.keep {w w' : World} (h : Env w) (hb : Below w.heap.size w w') : Env w' :=
  ⟨h.tabs.keep hb, var?_below hb gPow (World.block_lt_of_cell? w _ (h.tab.cell gPow 0 (by decide))) h.tab⟩
theorem below_grow (w : World) (k : Nat) (os : Array Obj) : Below w.heap.size w (Go.Sort.grow (w.drewN k) os) :=
  ⟨rfl, rfl, rfl, by simp [Go.Sort.grow, World.drewN], fun i hi => by simp [Go.Sort.grow, World.drewN, Array.getElem?_append_left hi]⟩
theorem itoa_any (n : Int) (w : World) (h : Env w) (h0 : -9223372036854775808 ≤ n) (h1 : n ≤ 9223372036854775807) :
    Calls Tryd.prog 38 #[.int .i64 n] w fun e w' => e = .returned (.string ⟨(Lib.itoa n).toArray⟩) ∧ Below w.heap.size w w' :=
  (Tryd.strconv_Itoa n h0 h1 w h.tab).mono fun _ _ ⟨he, k, os, hw⟩ => ⟨he, hw ▸ below_grow w k os⟩
theorem itoa_fin : ∀ n : Fin 27, (Lib.itoa ((n.val : Int) - 13)).length ≤ 3 := by decide +kernel
theorem itoa_le (n : Int) (h0 : -13 ≤ n) (h1 : n ≤ 13) : (Lib.itoa n).length ≤ 3 := by
  have := itoa_fin ⟨(n + 13).toNat, by omega⟩
  rw [show (((⟨(n + 13).toNat, by omega⟩ : Fin 27).val : Nat) : Int) - 13 = n by show (((n + 13).toNat : Nat) : Int) - 13 = n; omega] at this
  exact this
theorem textP_len (l d r s : Nat) (hr : r ≤ 2) : (textP l d r s).length ≤ 6 := by
  unfold textP
  split
  · simp
  · simp; omega
/-- What follows the contract in the text of a result. -/
def tailP (n : Int) : List UInt8 := if n = 0 then [32, 61] else if 0 < n then [32, 43] ++ Lib.itoa n else [32] ++ Lib.itoa n
def writeP (l d r s : Nat) (k : Int) : List UInt8 × Int := if resP l d r s k = false then ([], 2) else if l = 0 then ([112, 97, 115, 115], 0) else (textP l d r s ++ tailP (k - (6 + (l : Int))), 0)
set_option maxRecDepth 100000 in
set_option maxHeartbeats 2000000 in
theorem write_any (l d r s : Nat) (k : Int) (w : World) (he : Env w) (hl256 : l < 256) :
    Calls Tryd.prog 20 #[.agg #[.int .u8 l, .int .u8 d, .int .u8 r, .int .u8 s], .int .i64 k] w fun e w' => e = .returned (.tuple #[.string ⟨(writeP l d r s k).1.toArray⟩, .int .i64 (writeP l d r s k).2]) ∧ Below w.heap.size w w' := by
  have HE := Lib.hid he
  clear he
  cases hres : resP l d r s k
  · have hP : Hid (writeP l d r s k = ([], 2)) := Lib.hid (if_pos hres)
    have HR := Lib.hid hres
    clear hres
    go_enter Tryd.func20, Tryd.ntmps20
    go_wp2_with fail
    refine (result_any l d r s k _).mono ?_
    rintro e w1 ⟨rfl, hb⟩
    rw [HR.out]
    go_wp2_with fail
    go_ret2
    exact ⟨by rw [hP.out]; rfl, (boxB _ _).trans (hb.mono (by simp))⟩
  · have hk : 0 ≤ k ∧ k ≤ 13 ∧ (0 < l ∨ k = 0) := res_of hres
    have hg := Lib.hid (res_rgt hres)
    rcases Nat.eq_zero_or_pos l with h0 | h0
    · have hP : Hid (writeP l d r s k = ([112, 97, 115, 115], 0)) := Lib.hid (by rw [writeP, if_neg (by rw [hres]; decide), if_pos h0])
      obtain ⟨rfl, rfl, rfl, rfl⟩ : l = 0 ∧ d = 0 ∧ r = 0 ∧ s = 0 := by have := rgt_of _ _ _ _ hg.out; omega
      have HR := Lib.hid hres
      clear hres hk h0
      go_enter Tryd.func20, Tryd.ntmps20
      go_wp2_with fail
      refine (result_any 0 0 0 0 k _).mono ?_
      rintro e w1 ⟨rfl, hb⟩
      rw [HR.out]
      have c0 := hb.cell (p := ⟨w.heap.size, 0, none⟩) (by simp)
      have c1 := hb.cell (p := ⟨w.heap.size, 1, none⟩) (by simp)
      have c2 := hb.cell (p := ⟨w.heap.size, 2, none⟩) (by simp)
      have c3 := hb.cell (p := ⟨w.heap.size, 3, none⟩) (by simp)
      simp at c0 c1 c2 c3
      have hB : Below w.heap.size w w1 := (boxB _ _).trans (hb.mono (by simp))
      clear hb
      go_wp2_with fail
      refine (text_zero _).mono ?_
      rintro e w2 ⟨rfl, hb⟩
      have k0 := keepW hb c0
      have hB2 := bchain hB hb
      clear hb c0 c1 c2 c3 hB
      go_wp2_with fail
      go_ret2
      exact ⟨by rw [hP.out]; rfl, hB2⟩
    · have f0 : ((l : Int) == 0) = false := beq_eq_false_iff_ne.2 (by omega)
      have hl7 : l ≤ 7 ∧ d ≤ 4 ∧ r ≤ 2 ∧ s ≤ 3 := by have := rgt_of _ _ _ _ hg.out; omega
      have hP : Hid (writeP l d r s k = (textP l d r s ++ tailP (k - (6 + (l : Int))), 0)) := Lib.hid (by rw [writeP, if_neg (by rw [hres]; decide), if_neg (by omega)])
      have HR := Lib.hid hres
      have H0 := Lib.hid h0
      obtain ⟨n, hn⟩ : ∃ n, n = k - (6 + (l : Int)) := ⟨_, rfl⟩
      rw [← hn] at hP
      have hn1 : -13 ≤ n ∧ n ≤ 13 := by omega
      have en : k - (6 + (l : Int)) = n := hn.symm
      have tl := textP_len l d r s hl7.2.2.1
      have dl := itoa_le n hn1.1 hn1.2
      have TP := Lib.hid (text_pos l d r s · (by omega) hl7.1 hl7.2.1 hl7.2.2.1 hl7.2.2.2)
      clear hres hn
      rcases (by omega : n = 0 ∨ 0 < n ∨ n < 0) with h3 | h3 | h3
      · have f1 : (n == 0) = true := beq_iff_eq.2 h3
        have hT : Hid (tailP n = [32, 61]) := Lib.hid (if_pos h3)
        obtain ⟨T, hTd⟩ : ∃ T, T = textP l d r s := ⟨_, rfl⟩
        rw [← hTd] at hP tl TP
        obtain ⟨D, hDd⟩ : ∃ D, D = Lib.itoa n := ⟨_, rfl⟩
        rw [← hDd] at dl
        have IC : Hid (∀ w, Env w → Calls Tryd.prog 38 #[.int .i64 n] w fun e w' => e = .returned (.string ⟨D.toArray⟩) ∧ Below w.heap.size w w') := Lib.hid fun w hw => hDd ▸ itoa_any n w hw (by omega) (by omega)
        have HT := Lib.hid hTd
        have z1 : ¬ 9223372036854775807 < T.length + 1 := by omega
        have z2 : ¬ 9223372036854775807 < T.length + 1 + 1 := by omega
        have z3 : ¬ 9223372036854775807 < T.length + 2 := by omega
        have z4 : ¬ 9223372036854775807 < T.length + 1 + D.length := by omega
        have z5 : ¬ 9223372036854775807 < T.length + 2 + D.length := by omega
        clear hTd hDd
        go_enter Tryd.func20, Tryd.ntmps20
        go_wp2_with fail
        refine (result_any l d r s k _).mono ?_
        rintro e w1 ⟨rfl, hb⟩
        rw [HR.out]
        have c0 := hb.cell (p := ⟨w.heap.size, 0, none⟩) (by simp)
        have c1 := hb.cell (p := ⟨w.heap.size, 1, none⟩) (by simp)
        have c2 := hb.cell (p := ⟨w.heap.size, 2, none⟩) (by simp)
        have c3 := hb.cell (p := ⟨w.heap.size, 3, none⟩) (by simp)
        simp at c0 c1 c2 c3
        have hB : Below w.heap.size w w1 := (boxB _ _).trans (hb.mono (by simp))
        clear hb
        go_wp2_with fail
        refine (TP.out _).mono ?_
        rintro e w2 ⟨rfl, hb⟩
        have k0 := keepW hb c0
        have k1 := keepW hb c1
        have k2 := keepW hb c2
        have k3 := keepW hb c3
        have hB2 := bchain hB hb
        clear hb c0 c1 c2 c3 hB
        go_wp2_with fail
        refine (need_pos l d r s _ hl256 hg.out H0.out).mono ?_
        rintro e w3 ⟨rfl, hb⟩
        have hB3 := bchain hB2 hb
        have E3 := Lib.hid (HE.out.keep hB3)
        clear hb k0 k1 k2 k3 hB2
        go_wp2_with fail
        go_ret2
        exact ⟨by rw [hP.out, hT.out]; exact ret_txt _ _ _ (by apply ByteArray.ext; simp), hB3⟩
      · have f1 : (n == 0) = false := beq_eq_false_iff_ne.2 (by omega)
        have f2 : decide (0 < n) = true := decide_eq_true h3
        have hT : Hid (tailP n = [32, 43] ++ Lib.itoa n) := Lib.hid (by rw [tailP, if_neg (by omega), if_pos h3])
        obtain ⟨T, hTd⟩ : ∃ T, T = textP l d r s := ⟨_, rfl⟩
        rw [← hTd] at hP tl TP
        obtain ⟨D, hDd⟩ : ∃ D, D = Lib.itoa n := ⟨_, rfl⟩
        rw [← hDd] at hT dl
        have IC : Hid (∀ w, Env w → Calls Tryd.prog 38 #[.int .i64 n] w fun e w' => e = .returned (.string ⟨D.toArray⟩) ∧ Below w.heap.size w w') := Lib.hid fun w hw => hDd ▸ itoa_any n w hw (by omega) (by omega)
        have HT := Lib.hid hTd
        have z1 : ¬ 9223372036854775807 < T.length + 1 := by omega
        have z2 : ¬ 9223372036854775807 < T.length + 1 + 1 := by omega
        have z3 : ¬ 9223372036854775807 < T.length + 2 := by omega
        have z4 : ¬ 9223372036854775807 < T.length + 1 + D.length := by omega
        have z5 : ¬ 9223372036854775807 < T.length + 2 + D.length := by omega
        clear hTd hDd
        go_enter Tryd.func20, Tryd.ntmps20
        go_wp2_with fail
        refine (result_any l d r s k _).mono ?_
        rintro e w1 ⟨rfl, hb⟩
        rw [HR.out]
        have c0 := hb.cell (p := ⟨w.heap.size, 0, none⟩) (by simp)
        have c1 := hb.cell (p := ⟨w.heap.size, 1, none⟩) (by simp)
        have c2 := hb.cell (p := ⟨w.heap.size, 2, none⟩) (by simp)
        have c3 := hb.cell (p := ⟨w.heap.size, 3, none⟩) (by simp)
        simp at c0 c1 c2 c3
        have hB : Below w.heap.size w w1 := (boxB _ _).trans (hb.mono (by simp))
        clear hb
        go_wp2_with fail
        refine (TP.out _).mono ?_
        rintro e w2 ⟨rfl, hb⟩
        have k0 := keepW hb c0
        have k1 := keepW hb c1
        have k2 := keepW hb c2
        have k3 := keepW hb c3
        have hB2 := bchain hB hb
        clear hb c0 c1 c2 c3 hB
        go_wp2_with fail
        refine (need_pos l d r s _ hl256 hg.out H0.out).mono ?_
        rintro e w3 ⟨rfl, hb⟩
        have hB3 := bchain hB2 hb
        have E3 := Lib.hid (HE.out.keep hB3)
        clear hb k0 k1 k2 k3 hB2
        go_wp2_with fail
        refine (IC.out _ E3.out).mono ?_
        rintro e w4 ⟨rfl, hb⟩
        have hB4 := bchain hB3 hb
        clear hb hB3
        go_wp2_with fail
        go_ret2
        exact ⟨by rw [hP.out, hT.out]; exact ret_txt _ _ _ (by apply ByteArray.ext; simp), hB4⟩
      · have f1 : (n == 0) = false := beq_eq_false_iff_ne.2 (by omega)
        have f2 : decide (0 < n) = false := decide_eq_false (by omega)
        have hT : Hid (tailP n = [32] ++ Lib.itoa n) := Lib.hid (by rw [tailP, if_neg (by omega), if_neg (by omega)])
        obtain ⟨T, hTd⟩ : ∃ T, T = textP l d r s := ⟨_, rfl⟩
        rw [← hTd] at hP tl TP
        obtain ⟨D, hDd⟩ : ∃ D, D = Lib.itoa n := ⟨_, rfl⟩
        rw [← hDd] at hT dl
        have IC : Hid (∀ w, Env w → Calls Tryd.prog 38 #[.int .i64 n] w fun e w' => e = .returned (.string ⟨D.toArray⟩) ∧ Below w.heap.size w w') := Lib.hid fun w hw => hDd ▸ itoa_any n w hw (by omega) (by omega)
        have HT := Lib.hid hTd
        have z1 : ¬ 9223372036854775807 < T.length + 1 := by omega
        have z2 : ¬ 9223372036854775807 < T.length + 1 + 1 := by omega
        have z3 : ¬ 9223372036854775807 < T.length + 2 := by omega
        have z4 : ¬ 9223372036854775807 < T.length + 1 + D.length := by omega
        have z5 : ¬ 9223372036854775807 < T.length + 2 + D.length := by omega
        clear hTd hDd
        go_enter Tryd.func20, Tryd.ntmps20
        go_wp2_with fail
        refine (result_any l d r s k _).mono ?_
        rintro e w1 ⟨rfl, hb⟩
        rw [HR.out]
        have c0 := hb.cell (p := ⟨w.heap.size, 0, none⟩) (by simp)
        have c1 := hb.cell (p := ⟨w.heap.size, 1, none⟩) (by simp)
        have c2 := hb.cell (p := ⟨w.heap.size, 2, none⟩) (by simp)
        have c3 := hb.cell (p := ⟨w.heap.size, 3, none⟩) (by simp)
        simp at c0 c1 c2 c3
        have hB : Below w.heap.size w w1 := (boxB _ _).trans (hb.mono (by simp))
        clear hb
        go_wp2_with fail
        refine (TP.out _).mono ?_
        rintro e w2 ⟨rfl, hb⟩
        have k0 := keepW hb c0
        have k1 := keepW hb c1
        have k2 := keepW hb c2
        have k3 := keepW hb c3
        have hB2 := bchain hB hb
        clear hb c0 c1 c2 c3 hB
        go_wp2_with fail
        refine (need_pos l d r s _ hl256 hg.out H0.out).mono ?_
        rintro e w3 ⟨rfl, hb⟩
        have hB3 := bchain hB2 hb
        have E3 := Lib.hid (HE.out.keep hB3)
        clear hb k0 k1 k2 k3 hB2
        go_wp2_with fail
        refine (IC.out _ E3.out).mono ?_
        rintro e w4 ⟨rfl, hb⟩
        have hB4 := bchain hB3 hb
        clear hb hB3
        go_wp2_with fail
        go_ret2
        exact ⟨by rw [hP.out, hT.out]; exact ret_txt _ _ _ (by apply ByteArray.ext; simp), hB4⟩
attribute [irreducible] writeP tailP
end Go.Proofs.YtgmofikhndlhcaaDoor
