/- The contract of the reference's add for digits that may end in zeros. -/
import Derived.Test.YtfhkgpipbegpgaaGreatDoorRefC
namespace Go.Proofs.YtfhkgpipbegpgaaGreatDoor
open Go Go.RowKit

/-- A slice of digits that may end in zeros. -/
def RetG (n : Nat) (w : World) (e : Ending) (w' : World) : Prop := ∃ A k cap, e = .returned (.slice A k cap) ∧ RowI w' A (digN n k) ∧ n < 65536 ^ k ∧ k ≤ cap ∧ (cap ≤ maxLen ∧ (A = none → cap = 0)) ∧ Below w.heap.size w w'
theorem digN_at {W : World} {A : Option Addr} {n k : Nat} (h : RowI W A (digN n k)) {j : Nat} (hj : j < k) :
    ∃ b off, A = some ⟨b, off, none⟩ ∧ b < W.heap.size ∧ W.cell? ⟨b, off + j, none⟩ = some (.int .i64 (dg n j : Int)) := by
  obtain ⟨b, off, e, hl, hc⟩ := h.get (k := j) (by rw [digN_len]; exact hj)
  exact ⟨b, off, e, hl, hc j _ (digN_get n k j hj)⟩
theorem sum_fits {n m i : Nat} (h1 : n < 65536 ^ i) (h2 : m < 65536 ^ i) (hc : cad n m i = 0) : n + m < 65536 ^ i := by
  unfold cad at hc
  rw [Nat.mod_eq_of_lt h1, Nat.mod_eq_of_lt h2] at hc
  rcases Nat.lt_or_ge (n + m) (65536 ^ i) with h | h
  · exact h
  · have := Nat.div_pos h (pp i); omega
theorem lt_up {n i j : Nat} (h : n < 65536 ^ i) (hij : i ≤ j) : n < 65536 ^ j := Nat.lt_of_lt_of_le h (Nat.pow_le_pow_right (by omega) hij)
set_option maxRecDepth 100000 in
set_option maxHeartbeats 8000000 in
theorem radd_gen (A B : Option Addr) (ca cb n m N M : Nat) (hk : N ≤ 1000) (hk' : M ≤ 1000) (hn : n < 65536 ^ N) (hm : m < 65536 ^ M) (w : World) (hA : RowI w A (digN n N)) (hB : RowI w B (digN m M)) :
    Calls Tryz.prog 69 #[.slice A N ca, .slice B M cb] w (RetG (n + m) w) := by
  have HA := Lib.hid hA
  have HB := Lib.hid hB
  have HN := Lib.hid hn
  have HM := Lib.hid hm
  clear hA hB hn hm
  go_enter Tryz.func69, Tryz.ntmps69
  go_wp2
  go_loopw [5, 6, 7] (fun s5 s6 s7 wr => ∃ i : Nat, i ≤ 1001 ∧ s7 = .int .i64 i ∧ s6 = .int .i64 (cad n m i : Int) ∧ wr.ownsRow w.heap.size 3 1 s5 i ((digN (n + m) i).map iv) ∧ Below w.heap.size w wr ∧ (i ≤ N ∨ i ≤ M ∨ ((N + 1 = i ∨ M + 1 = i) ∧ cad n m i = 0))) (fun _ _ s7 _ => 1002 - (intOf s7).toNat)
  case atStart => exact ⟨0, by omega, rfl, by rw [cad_zero]; rfl, by rw [digN_nil]; exact World.ownsRow_nil _ _ _ _, Below.refl _ _, by omega⟩
  case round =>
    obtain ⟨i, hi, rfl, rfl, hown, hbw, hlast⟩ := hrel
    obtain ⟨C, hC⟩ : ∃ C, cad n m i = C := ⟨_, rfl⟩
    have hCb := cad_le n m i
    have HO := Lib.hid hown
    have HW := Lib.hid hbw
    rw [hC] at hCb hlast ⊢
    have HC := Lib.hid hC
    clear hown hbw hC
    by_cases hgo : i < N ∨ i < M ∨ 0 < C
    case neg =>
      have hc0 : C = 0 := by omega
      have g1 : N ≤ i := by omega
      have g2 : M ≤ i := by omega
      have HE := Lib.hid (sum_fits (lt_up HN.out g1) (lt_up HM.out g2) (by rw [HC.out]; exact hc0))
      subst hc0
      have t1 : decide (i < N) = false := decide_eq_false (by omega)
      have t2 : decide (i < M) = false := decide_eq_false (by omega)
      clear hgo hlast
      obtain ⟨hl, A', cap', rfl, hcap, hmax, hrow⟩ := RowI.own HO.out
      have HD := Lib.hid (And.intro hrow (And.intro HE.out (And.intro hcap hmax)))
      clear hl hrow hcap hmax
      go_wp2
      go_ret
      exact ⟨A', i, cap', rfl, HD.out.1, HD.out.2.1, HD.out.2.2.1, HD.out.2.2.2, HW.out⟩
    case pos =>
      have HS := Lib.hid (cad_succ n m i)
      have HT := Lib.hid (cad_digit n m i)
      rw [HC.out] at HS HT
      have HX := Lib.hid (digN_succ (n + m) i)
      have hx1 := dg_lt n i
      have hy1 := dg_lt m i
      have hx0 : N ≤ i → dg n i = 0 := fun h => dg_over (lt_up HN.out h)
      have hy0 : M ≤ i → dg m i = 0 := fun h => dg_over (lt_up HM.out h)
      obtain ⟨x, hx⟩ : ∃ x, dg n i = x := ⟨_, rfl⟩
      obtain ⟨y, hy⟩ : ∃ x, dg m i = x := ⟨_, rfl⟩
      rw [hx] at HS HT hx1 hx0
      rw [hy] at HS HT hy1 hy0
      obtain ⟨d, hd⟩ : ∃ d, (C + x + y) % 65536 = d := ⟨_, rfl⟩
      obtain ⟨q, hq⟩ : ∃ d, (C + x + y) / 65536 = d := ⟨_, rfl⟩
      rw [hq] at HS
      rw [hd] at HT
      have HL : Hid (i + 1 ≤ N ∨ i + 1 ≤ M ∨ ((N + 1 = i + 1 ∨ M + 1 = i + 1) ∧ cad n m (i + 1) = 0)) := Lib.hid (by
        rw [HS.out]
        omega)
      have hi' : i + 1 ≤ 1001 := by omega
      by_cases hl1 : i < N
      · have u1 : decide (i < N) = true := decide_eq_true (by omega)
        obtain ⟨g, off, rfl, hg, hcc⟩ := digN_at HA.out hl1
        have c0 := keepW HW.out hcc
        rw [hx] at c0
        clear hcc hg
        by_cases hl2 : i < M
        · have u2 : decide (i < M) = true := decide_eq_true (by omega)
          obtain ⟨g', off', rfl, hg', hcc'⟩ := digN_at HB.out hl2
          have c1 := keepW HW.out hcc'
          rw [hy] at c1
          clear hcc' hg'
          have e2 : ((C : Int) + (x : Int) + (y : Int)) % 65536 = (d : Int) := by omega
          have e3 : ((C : Int) + (x : Int) + (y : Int)) / 65536 = (q : Int) := by omega
          clear hx hy hd hq hgo hlast hx0 hy0
          go_wp2_with (at_builtin; refine app1 rfl (.tmp 44) (.tmp 47) rfl _ w.heap.size _ i _ d rfl rfl HO.out HW.out.size (by omega) ?_; intro v' w1 hown' hb')
          go_roundw
          case rel => exact ⟨i + 1, hi', by go_num, by first | rw [HS.out, e3] | (rw [HS.out]; rfl) | rw [HS.out], by rw [HX.out, HT.out]; exact hown', HW.out.trans hb', HL.out⟩
          case measure => simp [intOf] <;> omega
        · have u2 : decide (i < M) = false := decide_eq_false (by omega)
          obtain rfl : y = 0 := hy0 (by omega)
          have e2 : ((C : Int) + (x : Int)) % 65536 = (d : Int) := by omega
          have e3 : ((C : Int) + (x : Int)) / 65536 = (q : Int) := by omega
          clear hx hy hd hq hgo hlast hx0 hy0
          go_wp2_with (at_builtin; refine app1 rfl (.tmp 44) (.tmp 47) rfl _ w.heap.size _ i _ d rfl rfl HO.out HW.out.size (by omega) ?_; intro v' w1 hown' hb')
          go_roundw
          case rel => exact ⟨i + 1, hi', by go_num, by first | rw [HS.out, e3] | (rw [HS.out]; rfl) | rw [HS.out], by rw [HX.out, HT.out]; exact hown', HW.out.trans hb', HL.out⟩
          case measure => simp [intOf] <;> omega
      · have u1 : decide (i < N) = false := decide_eq_false (by omega)
        obtain rfl : x = 0 := hx0 (by omega)
        by_cases hl2 : i < M
        · have u2 : decide (i < M) = true := decide_eq_true (by omega)
          obtain ⟨g', off', rfl, hg', hcc'⟩ := digN_at HB.out hl2
          have c1 := keepW HW.out hcc'
          rw [hy] at c1
          clear hcc' hg'
          have e2 : ((C : Int) + (y : Int)) % 65536 = (d : Int) := by omega
          have e3 : ((C : Int) + (y : Int)) / 65536 = (q : Int) := by omega
          clear hx hy hd hq hgo hlast hx0 hy0
          go_wp2_with (at_builtin; refine app1 rfl (.tmp 44) (.tmp 47) rfl _ w.heap.size _ i _ d rfl rfl HO.out HW.out.size (by omega) ?_; intro v' w1 hown' hb')
          go_roundw
          case rel => exact ⟨i + 1, hi', by go_num, by first | rw [HS.out, e3] | (rw [HS.out]; rfl) | rw [HS.out], by rw [HX.out, HT.out]; exact hown', HW.out.trans hb', HL.out⟩
          case measure => simp [intOf] <;> omega
        · have u2 : decide (i < M) = false := decide_eq_false (by omega)
          obtain rfl : y = 0 := hy0 (by omega)
          have e2 : ((C : Int)) % 65536 = (d : Int) := by omega
          have e3 : ((C : Int)) / 65536 = (q : Int) := by omega
          have t3 : decide (0 < C) = true := decide_eq_true (by omega)
          clear hx hy hd hq hgo hlast hx0 hy0
          go_wp2_with (at_builtin; refine app1 rfl (.tmp 44) (.tmp 47) rfl _ w.heap.size _ i _ d rfl rfl HO.out HW.out.size (by omega) ?_; intro v' w1 hown' hb')
          go_roundw
          case rel => exact ⟨i + 1, hi', by go_num, by first | rw [HS.out, e3] | (rw [HS.out]; rfl) | rw [HS.out], by rw [HX.out, HT.out]; exact hown', HW.out.trans hb', HL.out⟩
          case measure => simp [intOf] <;> omega
end Go.Proofs.YtfhkgpipbegpgaaGreatDoor
