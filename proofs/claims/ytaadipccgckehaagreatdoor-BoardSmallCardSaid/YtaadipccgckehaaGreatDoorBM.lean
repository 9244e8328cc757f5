/- The iterator of the cards of a hand, and its contract. -/
import Derived.Test.YtaadipccgckehaaGreatDoorRangeC
import Derived.Test.YtaadipccgckehaaGreatDoorBQ
import Derived.Test.YtaadipccgckehaaGreatDoorBE
import Derived.Test.YtaadipccgckehaaGreatDoorShelf
namespace Go.Proofs.YtaadipccgckehaaGreatDoor
open Go Go.RowKit Go.Shelf Pl
attribute [local go_sem] Oper.semAt_some

def encC (c : Fin 52) : Array Value := #[.int .u8 ((c.val : Nat) : Int)]
/-- What a round keeps. -/
def KpC (w0 : World) (W W' : World) : Prop := Below w0.heap.size W W'
def StC (A B : World) : Prop := B = A
theorem andNot_top (m c : Nat) (h1 : 2 ^ c ≤ m) (h2 : m < 2 ^ (c + 1)) (hc : c < 52) : bits BinOp.andNot IntKind.u64 (m : Int) ((2 : Int) ^ c) = ((m - 2 ^ c : Nat) : Int) := by
  have h52 : 2 ^ (c + 1) ≤ 2 ^ 52 := Nat.pow_le_pow_right (by omega) (by omega)
  have hc52 : 2 ^ c < 2 ^ 52 := Nat.pow_lt_pow_right (by omega) hc
  have e : (2 : Int) ^ c = ((2 ^ c : Nat) : Int) := by simp
  rw [e, u64_andNot_nat _ _ (by omega) (by omega)]
  congr 1
  apply Nat.eq_of_testBit_eq
  intro i
  have h3 : 18446744073709551615 - 2 ^ c = 2 ^ 64 - (2 ^ c + 1) := by omega
  rw [Nat.testBit_and, h3, Nat.testBit_two_pow_sub_succ (by omega), Nat.testBit_two_pow]
  have e2 : ∀ i, m.testBit i = (decide (c = i) || (m - 2 ^ c).testBit i) := fun i => by
    have h4 := Nat.two_pow_add_eq_or_of_lt (i := c) (b := m - 2 ^ c) (by rw [Nat.pow_succ] at h2; omega) 1
    rw [Nat.mul_one] at h4
    conv => lhs; rw [show m = 2 ^ c + (m - 2 ^ c) by omega, h4]
    rw [Nat.testBit_or, Nat.testBit_two_pow]
  rw [e2 i]
  by_cases hci : c = i
  · subst hci
    have : (m - 2 ^ c).testBit c = false := Nat.testBit_lt_two_pow (by rw [Nat.pow_succ] at h2; omega)
    simp [this]
  · rcases Nat.lt_or_ge i 64 with h64 | h64
    · simp [hci, h64]
    · have : (m - 2 ^ c).testBit i = false := Nat.testBit_lt_two_pow (Nat.lt_of_lt_of_le (show m - 2 ^ c < 2 ^ 64 by omega) (Nat.pow_le_pow_right (by omega) h64))
      simp [hci, this]
theorem len64_any (m : Nat) (hm : m < 18446744073709551616) (w : World) : Calls Tryz.prog 86 #[.int .u64 (m : Int)] w (fun e w' => e = .returned (.int .i64 ((Lib.bitLen m : Nat) : Int)) ∧ w' = w) := by
  have h := Tryz.bits_Len64 (m : Int) w (by omega) (by omega)
  rwa [Int.toNat_natCast] at h
set_option maxRecDepth 100000 in
set_option maxHeartbeats 2000000 in
theorem cards1_stops (n : Nat) (hn : 1 ≤ n) (w0 w : World) (Bn : Nat) (m : Nat) (hm : m < 4503599627370496) (hlt : Bn < w.heap.size) (hc : w.cell? ⟨Bn, 0, none⟩ = some (.int .u64 (m : Int))) :
    SeqStopsC Fence.wide n Tryz.prog 85 #[.pointer (some ⟨Bn, 0, none⟩)] encC (KpC w0) StC (fun xs => xs.map (·.val) = cardsL m) (fun pre => pre.map (·.val) <+: cardsL m) (cardsL m).length w := fun l J Jx W hW hJ hJx hJ2 hJx2 hY h0 => by
  have hcW := (hW.cell (p := ⟨Bn, 0, none⟩) hlt).trans hc
  have HY := Lib.hid hY
  have HM := Lib.hid hm
  clear hY hJ2 hJ hJx hJx2 hW hc hm
  refine callsIn_of_wp Tryz.func85 rfl trivial ?_ rfl
  simp only [Tryz.ntmps85, List.size_toArray, List.length_cons, List.length_nil, Nat.reduceAdd, Nat.reduceSub, Array.replicate_succ, Array.replicate_zero, List.push_toArray, List.append_toArray, List.nil_append, List.cons_append]
  gi_wp2
  gi_loopw [3] (fun s3 wr => ∃ (pre : List (Fin 52)) (r : Nat), s3 = .int .u64 (r : Int) ∧ Hid (r < 4503599627370496 ∧ pre.map (·.val) ++ cardsL r = cardsL m) ∧ J pre wr) (fun s3 _ => (intOf s3).toNat)
  case atStart => exact ⟨[], m, rfl, Lib.hid ⟨HM.out, rfl⟩, h0⟩
  case round =>
    obtain ⟨pre, r, rfl, HR, hJr⟩ := hrel
    by_cases hz : r = 0
    · have HD : Hid (pre.map (·.val) = cardsL m) := Lib.hid (by have := HR.out.2; rw [hz, cards_0, List.append_nil] at this; exact this)
      have HJ := Lib.hid hJr
      have t1 : ((r : Int) != 0) = false := by rw [hz]; rfl
      have t2 : ((r : Int) == 0) = true := by rw [hz]; rfl
      clear hz hJr HY h0 hcW HR
      gi_wp2
      refine bodyPost_end (results_none rfl _ _ _) rfl ?_
      exact ⟨⟨_, rfl⟩, .inl ⟨pre, HD.out, HJ.out⟩⟩
    · obtain ⟨c, hc52, hbl, hc1, hc2⟩ := len_top r hz HR.out.1
      have hct := cards_top r c hc1 hc2 hc52
      have h64 : r < 18446744073709551616 := by have := HR.out.1; omega
      have L64 := Lib.hid (len64_any r h64 wr)
      rw [hbl] at L64
      have hlen : pre.length < (cardsL m).length := by rw [← HR.out.2, hct]; simp
      obtain ⟨fn, tmps, assign, body, hy, hRo⟩ := HY.out pre ⟨c, hc52⟩ wr hJr hlen
      simp only [encC] at hy
      have HR2 : Hid (r - 2 ^ c < 4503599627370496 ∧ (pre ++ [(⟨c, hc52⟩ : Fin 52)]).map (·.val) ++ cardsL (r - 2 ^ c) = cardsL m) := Lib.hid ⟨by have := HR.out.1; omega, by rw [List.map_append, List.append_assoc]; show pre.map (·.val) ++ (c :: cardsL (r - 2 ^ c)) = _; rw [← hct]; exact HR.out.2⟩
      have HPre : Hid ((pre ++ [(⟨c, hc52⟩ : Fin 52)]).map (·.val) <+: cardsL m) := Lib.hid ⟨cardsL (r - 2 ^ c), HR2.out.2⟩
      have hand := andNot_top r c hc1 hc2 hc52
      have hpos := Nat.two_pow_pos c
      have hdec : r - 2 ^ c < r := by omega
      have HDEC := Lib.hid hdec
      have t1 : ((r : Int) != 0) = true := by simp; omega
      have t2 : ((r : Int) == 0) = false := beq_eq_false_iff_ne.2 (by omega)
      have e1 : IntKind.i64.wrap ((((c + 1 : Nat)) : Int) - 1) = (c : Int) := by rw [show (((c + 1 : Nat) : Int) - 1) = (c : Int) by omega]; exact IntWalk.i64_in _ (by omega)
      have e2 : (c : Int) % 256 = (c : Int) := by omega
      have e3 : IntKind.u64.wrap ((2 : Int) ^ c) = (2 : Int) ^ c := by
        refine IntWalk.u64_in _ ?_
        rw [show (2 : Int) ^ c = ((2 ^ c : Nat) : Int) by simp]
        have h2 : 2 ^ c < 2 ^ 52 := Nat.pow_lt_pow_right (by omega) hc52
        generalize 2 ^ c = z at *
        omega
      generalize pre ++ [(⟨c, hc52⟩ : Fin 52)] = pre' at *
      generalize r - 2 ^ c = r' at *
      have i0 : (0 : Int) ≤ (c : Int) := by omega
      have i1 : (c : Int) < 64 := by omega
      clear hz hbl hc1 hc2 hct h64 hlen HR hdec hpos h0 hcW hJr HY
      gi_wp2_with (refine ⟨trivial, ?_⟩; gi_at_call 86; refine (callsIn_wide.2 L64.out).mono ?_; rintro e w' ⟨rfl, rfl⟩)
      refine hRo.mono ?_
      rintro e W' (⟨rfl, hJ', hk'⟩ | ⟨rfl, hJx'⟩)
      · have HJ := Lib.hid hJ'
        clear hJ' hk' hRo
        gi_wp2
        go_roundw
        case rel => exact ⟨pre', r', rfl, HR2, HJ.out⟩
        case measure => simp [intOf]; exact HDEC.out
      · have HJ := Lib.hid hJx'
        clear hJx' hRo
        gi_wp2
        refine bodyPost_ret (results_none rfl _ _ _) rfl ?_
        exact ⟨⟨_, rfl⟩, .inr ⟨pre', HPre.out, HJ.out⟩⟩
end Go.Proofs.YtaadipccgckehaaGreatDoor
