/- Deals: partial, right, the owner of a card: the program's. -/
import Derived.Test.YtaadipccgckehaaGreatDoorBN
import Derived.Test.YtaadipccgckehaaGreatDoorOnes
import Derived.Test.YtaadipccgckehaaGreatDoorKtM
import Derived.Deep.LoopGhost
import Derived.Laws.Rows
import Derived.ChangeKeysEq
import Derived.WalkLawsBesides
namespace Go.Proofs.YtaadipccgckehaaGreatDoor
open Go Go.RowKit Pl

theorem run_index_row {P : Program} (w : World) (t e : TypeId) (n : Nat) (cs : Array Value) (k : IntKind) (i : Nat) (v : Value) (h : P.underlying t = some (.array n e)) (he : P.plainKey e = true)
    (hs : (sizeOf e).run P w = .ok 1 w) (hi : i < n) (hv : cs[i]? = some v) : (Instr.index t (.agg cs) (.int k (i : Int))).run P w = .ok v w := by
  simp [Instr.index, run_underlying h, asIntOf, hi, hs, run_part_plain _ he hv]
def D64 (D : Nat → Nat) : Prop := ∀ k, k < 4 → D k < 18446744073709551616
theorem ix_deal (D : Nat → Nat) (k : Nat) (hk : k < 4) (w : World) : (Instr.index 24 (.agg #[.int .u64 (D 0 : Nat), .int .u64 (D 1 : Nat), .int .u64 (D 2 : Nat), .int .u64 (D 3 : Nat)]) (.int .i64 (k : Int))).run Tryz.prog w = .ok (.int .u64 (D k : Nat)) w :=
  run_index_row w _ 22 4 _ _ k _ Tryz.underlying24 (by kernel_rfl) (by kernel_rfl) hk (by rcases (by omega : k = 0 ∨ k = 1 ∨ k = 2 ∨ k = 3) with rfl | rfl | rfl | rfl <;> rfl)
theorem used52 (D : Nat → Nat) (k : Nat) (h : partTo D k = true) : usedTo D k < 4503599627370496 := by
  have hh := (part_le D k).1 h
  have : ∀ n, n ≤ k → usedTo D n < 4503599627370496 := by
    intro n
    induction n with
    | zero => intro _; rw [used_0]; omega
    | succ n ih =>
      intro hn
      rw [used_s]
      have h1 := of_decide_eq_true (hh n (by omega))
      exact Nat.or_lt_two_pow (n := 52) (ih (by omega)) (by omega)
  exact this k (Nat.le_refl _)
theorem ret_b {a b : Bool} (h : a = b) : Ending.returned (.bool a) = .returned (.bool b) := by rw [h]
set_option maxRecDepth 100000 in
theorem part_any (D : Nat → Nat) (hD : D64 D) (w : World) : Calls Tryz.prog 49 #[.agg #[.int .u64 (D 0 : Nat), .int .u64 (D 1 : Nat), .int .u64 (D 2 : Nat), .int .u64 (D 3 : Nat)]] w (fun e w' => e = .returned (.bool (partB D)) ∧ Below w.heap.size w w') := by
  have HD := Lib.hid hD
  have IX := Lib.hid (ix_deal D)
  clear hD
  go_enter Tryz.func49, Tryz.ntmps49
  go_wp2_with fail
  have BW := Lib.hid (below1 w (.cells #[.int .u64 (D 0 : Nat), .int .u64 (D 1 : Nat), .int .u64 (D 2 : Nat), .int .u64 (D 3 : Nat)] 24))
  generalize w.alloc (.cells #[.int .u64 (D 0 : Nat), .int .u64 (D 1 : Nat), .int .u64 (D 2 : Nat), .int .u64 (D 3 : Nat)] 24) = W1 at *
  go_loopw [3, 7] (fun s3 s7 wr => ∃ k : Nat, k ≤ 4 ∧ s7 = .int .i64 (k : Int) ∧ s3 = .int .u64 ((usedTo D k : Nat) : Int) ∧ Hid (partTo D k = true) ∧ wr = W1) (fun _ s7 _ => 4 - (intOf s7).toNat)
  case atStart => exact ⟨0, by omega, rfl, rfl, Lib.hid rfl, rfl⟩
  case round =>
    obtain ⟨k, hk, rfl, rfl, HP, rfl⟩ := hrel
    by_cases hlt : k < 4
    · have u1 : decide ((k : Int) < 4) = true := decide_eq_true (by omega)
      have ix := IX.out k hlt
      have hd := HD.out k hlt
      have hu := used52 D k HP.out
      have ho := ones64_any (D k) wr hd
      have hs := used_s D k
      have hdef : okAt D k = decide (D k ≤ 4503599627370495 ∧ pc 64 (D k) ≤ 13 ∧ D k &&& usedTo D k = 0) := rfl
      have hno : okAt D k = false → Hid (false = partB D) := fun h => Lib.hid (part_no D k 4 hlt h).symm
      have hyes : okAt D k = true → Hid (partTo D (k + 1) = true) := fun h => Lib.hid (by rw [partTo, HP.out, h]; rfl)
      obtain ⟨h, hh⟩ : ∃ h, D k = h := ⟨_, rfl⟩
      obtain ⟨u, huu⟩ : ∃ u, usedTo D k = u := ⟨_, rfl⟩
      rw [hh, huu] at hdef
      rw [hh] at ix hd ho
      rw [huu] at hu
      rw [hh, huu] at hs
      rw [huu]
      have OH := Lib.hid ho
      have hpc := Pl.pc_le 64 h
      clear ho hh huu HP
      by_cases c1 : 4503599627370495 < h
      · have t1 : decide ((4503599627370495 : Int) < (h : Int)) = true := decide_eq_true (by omega)
        have HX := hno (by rw [hdef]; exact decide_eq_false (by omega))
        clear hno hyes hdef hs hpc
        go_wp2_with fail
        go_ret
        exact ⟨ret_b HX.out, BW.out⟩
      have t1 : decide ((4503599627370495 : Int) < (h : Int)) = false := decide_eq_false (by omega)
      by_cases c2 : 13 < pc 64 h
      · have t2 : decide ((13 : Int) < ((pc 64 h : Nat) : Int)) = true := decide_eq_true (by omega)
        have t2b : decide (13 < pc 64 h) = true := decide_eq_true c2
        have HX := hno (by rw [hdef]; exact decide_eq_false (by omega))
        clear hno hyes hdef hs
        generalize pc 64 h = q at *
        go_wp2_with (go_at_call 67; refine OH.out.mono ?_; rintro e w' ⟨rfl, rfl⟩)
        go_ret
        exact ⟨ret_b HX.out, BW.out⟩
      have t2 : decide ((13 : Int) < ((pc 64 h : Nat) : Int)) = false := decide_eq_false (by omega)
      have t2b : decide (13 < pc 64 h) = false := decide_eq_false c2
      have ea : bits BinOp.and IntKind.u64 (h : Int) (u : Int) = ((h &&& u : Nat) : Int) := u64_and_nat _ _ (by omega) (by omega)
      have eo : bits BinOp.or IntKind.u64 (u : Int) (h : Int) = ((u ||| h : Nat) : Int) := u64_or_nat _ _ (by omega) (by omega)
      by_cases c3 : h &&& u = 0
      · have HX := hyes (by rw [hdef]; exact decide_eq_true ⟨by omega, by omega, c3⟩)
        rw [c3] at ea
        have e2 : IntKind.i64.wrap ((k : Int) + 1) = ((k + 1 : Nat) : Int) := by rw [show (((k + 1 : Nat) : Int)) = (k : Int) + 1 by omega]; exact IntWalk.i64_in _ (by omega)
        clear hno hyes hdef c3
        generalize pc 64 h = q at *
        go_wp2_with (go_at_call 67; refine OH.out.mono ?_; rintro e w' ⟨rfl, rfl⟩)
        go_roundw
        case rel => exact ⟨k + 1, by omega, by simp, by rw [hs], HX, trivial⟩
        case measure => simp [intOf]; omega
      · have c4 : (((h &&& u : Nat) : Int) != 0) = true := by simpa using c3
        have HX := hno (by rw [hdef]; exact decide_eq_false (by omega))
        clear hno hyes hdef hs
        generalize pc 64 h = q at *
        generalize h &&& u = z at *
        go_wp2_with (go_at_call 67; refine OH.out.mono ?_; rintro e w' ⟨rfl, rfl⟩)
        go_ret
        exact ⟨ret_b HX.out, BW.out⟩
    · obtain rfl : k = 4 := by omega
      have u1 : decide (((4 : Nat) : Int) < 4) = false := decide_eq_false (by omega)
      have HX : Hid (true = partB D) := Lib.hid HP.out.symm
      generalize usedTo D 4 = u at *
      go_wp2_with fail
      go_ret
      exact ⟨ret_b HX.out, BW.out⟩
theorem or52 {a b : Nat} (ha : a < 4503599627370496) (hb : b < 4503599627370496) : a ||| b < 4503599627370496 := Nat.or_lt_two_pow (n := 52) ha hb
set_option maxRecDepth 100000 in
theorem right_any (D : Nat → Nat) (hD : D64 D) (w : World) : Calls Tryz.prog 41 #[.agg #[.int .u64 (D 0 : Nat), .int .u64 (D 1 : Nat), .int .u64 (D 2 : Nat), .int .u64 (D 3 : Nat)]] w (fun e w' => e = .returned (.bool (rightB D)) ∧ Below w.heap.size w w') := by
  have PA := Lib.hid (fun W => part_any D hD W)
  rcases hp : partB D with _ | _
  · have HX : Hid (false = rightB D) := Lib.hid (by unfold rightB; rw [hp]; rfl)
    rw [hp] at PA
    clear hp hD
    go_enter Tryz.func41, Tryz.ntmps41
    go_wp2_with fail
    refine (PA.out _).mono ?_
    rintro e w' ⟨rfl, hb⟩
    have HB := Lib.hid ((below1 w _).trans (hb.mono (below1 w _).size))
    clear hb
    go_wp2_with fail
    go_ret
    exact ⟨ret_b HX.out, HB.out⟩
  · have h := (part_iff D).1 hp
    have h0 := (h 0 (by omega)).1
    have h1 := (h 1 (by omega)).1
    have h2 := (h 2 (by omega)).1
    have h3 := (h 3 (by omega)).1
    have HX : Hid (decide (D 0 ||| D 1 ||| D 2 ||| D 3 = 4503599627370495) = rightB D) := Lib.hid (by unfold rightB; rw [hp]; simp [usedTo])
    rw [hp] at PA
    clear hp hD h
    generalize D 0 = a at *
    generalize D 1 = b at *
    generalize D 2 = c at *
    generalize D 3 = d at *
    have o1 := or52 (a := a) (b := b) (by omega) (by omega)
    have o2 := or52 (a := a ||| b) (b := c) o1 (by omega)
    have e1 : bits BinOp.or IntKind.u64 (a : Int) (b : Int) = ((a ||| b : Nat) : Int) := u64_or_nat _ _ (by omega) (by omega)
    have e2 : bits BinOp.or IntKind.u64 ((a ||| b : Nat) : Int) (c : Int) = ((a ||| b ||| c : Nat) : Int) := u64_or_nat _ _ (by omega) (by omega)
    have e3 : bits BinOp.or IntKind.u64 ((a ||| b ||| c : Nat) : Int) (d : Int) = ((a ||| b ||| c ||| d : Nat) : Int) := u64_or_nat _ _ (by omega) (by omega)
    clear o1 o2
    generalize a ||| b ||| c ||| d = z at *
    generalize a ||| b ||| c = y at *
    generalize a ||| b = x at *
    have HX2 : Hid ((((z : Int) == 4503599627370495) : Bool) = rightB D) := Lib.hid (by rw [← HX.out]; by_cases hz : z = 4503599627370495 <;> simp [hz]; omega)
    clear HX
    go_enter Tryz.func41, Tryz.ntmps41
    go_wp2_with fail
    have HK := Lib.hid (Blk.new w 24 #[.int .u64 (a : Nat), .int .u64 (b : Nat), .int .u64 (c : Nat), .int .u64 (d : Nat)])
    have BW := Lib.hid (below1 w (.cells #[.int .u64 (a : Nat), .int .u64 (b : Nat), .int .u64 (c : Nat), .int .u64 (d : Nat)] 24))
    refine (PA.out _).mono ?_
    rintro e w' ⟨rfl, hb⟩
    have HB := Lib.hid (BW.out.trans (hb.mono BW.out.size))
    have x0 := keepW hb (HK.out.cell (j := 0) rfl)
    have x1 := keepW hb (HK.out.cell (j := 1) rfl)
    have x2 := keepW hb (HK.out.cell (j := 2) rfl)
    have x3 := keepW hb (HK.out.cell (j := 3) rfl)
    clear hb HK BW
    go_wp2_with fail
    go_ret
    exact ⟨ret_b HX2.out, HB.out⟩
theorem bit1_and (h c : Nat) (hh : h < 18446744073709551616) : bits BinOp.and IntKind.u64 ((h / 2 ^ c : Nat) : Int) 1 = ((h / 2 ^ c % 2 : Nat) : Int) := by
  have hlt : h / 2 ^ c < 18446744073709551616 := Nat.lt_of_le_of_lt (Nat.div_le_self _ _) hh
  rw [show (1 : Int) = ((1 : Nat) : Int) from rfl, u64_and_nat _ _ hlt (by omega), Nat.and_one_is_mod]
theorem bit_test (h c : Nat) (hh : h < 18446744073709551616) : (bits BinOp.and IntKind.u64 ((h : Int) / 2 ^ c) 1 == 1) = h.testBit c := by
  have e : (h : Int) / 2 ^ c = ((h / 2 ^ c : Nat) : Int) := by rw [Int.natCast_ediv]; simp
  rw [e, bit1_and h c hh, bit_div]
  by_cases hz : h / 2 ^ c % 2 = 1
  · rw [hz]; simp
  · have h0 : h / 2 ^ c % 2 = 0 := by omega
    rw [h0]; simp
theorem owner_at (D : Nat → Nat) (c k : Nat) (hk : k < 4) (hn : ∀ j, j < k → (D j).testBit c = false) (h : (D k).testBit c = true) : owner D c = k := by
  unfold owner
  rcases (by omega : k = 0 ∨ k = 1 ∨ k = 2 ∨ k = 3) with rfl | rfl | rfl | rfl
  · simp [h]
  · simp [h, hn 0 (by omega)]
  · simp [h, hn 0 (by omega), hn 1 (by omega)]
  · simp [h, hn 0 (by omega), hn 1 (by omega), hn 2 (by omega)]
theorem owned_at (D : Nat → Nat) (c k : Nat) (hk : k < 4) (h : (D k).testBit c = true) : owned D c = true := by
  unfold owned
  rcases (by omega : k = 0 ∨ k = 1 ∨ k = 2 ∨ k = 3) with rfl | rfl | rfl | rfl <;> simp [h]
theorem owner_no (D : Nat → Nat) (c : Nat) (hn : ∀ j, j < 4 → (D j).testBit c = false) : owner D c = 0 ∧ owned D c = false := by
  unfold owner owned
  simp [hn 0 (by omega), hn 1 (by omega), hn 2 (by omega), hn 3 (by omega)]
theorem cright_any (c : Nat) (w : World) : Calls Tryz.prog 44 #[.int .u8 (c : Int)] w (fun e w' => e = .returned (.bool (decide (c < 52))) ∧ w = w') := by
  by_cases h : c < 52
  · have t1 : decide ((c : Int) < 52) = true := decide_eq_true (by omega)
    have t2 : decide (c < 52) = true := decide_eq_true h
    go_enter Tryz.func44, Tryz.ntmps44
    go_wp2
    go_ret
    exact ⟨ret_b t2.symm, rfl⟩
  · have t1 : decide ((c : Int) < 52) = false := decide_eq_false (by omega)
    have t2 : decide (c < 52) = false := decide_eq_false h
    go_enter Tryz.func44, Tryz.ntmps44
    go_wp2
    go_ret
    exact ⟨ret_b t2.symm, rfl⟩
set_option maxRecDepth 100000 in
theorem owner_any (D : Nat → Nat) (hD : D64 D) (c : Nat) (hc : c < 52) (w : World) : Calls Tryz.prog 43 #[.agg #[.int .u64 (D 0 : Nat), .int .u64 (D 1 : Nat), .int .u64 (D 2 : Nat), .int .u64 (D 3 : Nat)], .int .u8 (c : Int)] w (fun e w' => e = .returned (.tuple #[.int .u8 (owner D c : Nat), .bool (owned D c)]) ∧ Below w.heap.size w w') := by
  have HD := Lib.hid hD
  have IX := Lib.hid (ix_deal D)
  have CR := Lib.hid (fun W => cright_any c W)
  rw [decide_eq_true hc] at CR
  clear hD
  go_enter Tryz.func43, Tryz.ntmps43
  go_wp2_with (go_at_call 44; refine (CR.out _).mono ?_; rintro e w' ⟨rfl, rfl⟩)
  have BW := Lib.hid (below1 w (.cells #[.int .u64 (D 0 : Nat), .int .u64 (D 1 : Nat), .int .u64 (D 2 : Nat), .int .u64 (D 3 : Nat)] 24))
  generalize w.alloc (.cells #[.int .u64 (D 0 : Nat), .int .u64 (D 1 : Nat), .int .u64 (D 2 : Nat), .int .u64 (D 3 : Nat)] 24) = W1 at *
  go_loopw [12] (fun s12 wr => ∃ k : Nat, k ≤ 4 ∧ s12 = .int .i64 (k : Int) ∧ Hid (∀ j, j < k → (D j).testBit c = false) ∧ wr = W1) (fun s12 _ => 4 - (intOf s12).toNat)
  case atStart => exact ⟨0, by omega, rfl, Lib.hid (fun j hj => absurd hj (by omega)), rfl⟩
  case round =>
    obtain ⟨k, hk, rfl, HN, rfl⟩ := hrel
    by_cases hlt : k < 4
    · have u1 : decide ((k : Int) < 4) = true := decide_eq_true (by omega)
      have ix := IX.out k hlt
      have hd := HD.out k hlt
      have HO := Lib.hid (owner_at D c k hlt HN.out)
      have HP := Lib.hid (owned_at D c k hlt)
      have bt := bit_test (D k) c hd
      have e2 : IntKind.i64.wrap ((k : Int) + 1) = ((k + 1 : Nat) : Int) := by rw [show (((k + 1 : Nat) : Int)) = (k : Int) + 1 by omega]; exact IntWalk.i64_in _ (by omega)
      have e3 : (k : Int) % 256 = (k : Int) := by omega
      rcases hx : (D k).testBit c with _ | _
      · have HN2 : Hid (∀ j, j < k + 1 → (D j).testBit c = false) := Lib.hid (fun j hj => by
          rcases Nat.lt_or_ge j k with h | h
          · exact HN.out j h
          · obtain rfl : j = k := by omega
            exact hx)
        rw [hx] at bt
        clear hx HN HO HP
        generalize D k = h at *
        go_wp2_with fail
        go_roundw
        case rel => exact ⟨k + 1, by omega, by simp, HN2, trivial⟩
        case measure => simp [intOf]; omega
      · have HR : Hid (owner D c = k ∧ owned D c = true) := Lib.hid ⟨HO.out hx, HP.out hx⟩
        rw [hx] at bt
        clear hx HN HO HP
        generalize D k = h at *
        go_wp2_with fail
        go_ret2
        exact ⟨by rw [HR.out.1, HR.out.2]; rfl, BW.out⟩
    · obtain rfl : k = 4 := by omega
      have u1 : decide (((4 : Nat) : Int) < 4) = false := decide_eq_false (by omega)
      have HR := Lib.hid (owner_no D c HN.out)
      clear HN
      go_wp2_with fail
      go_ret2
      exact ⟨by rw [HR.out.1, HR.out.2]; rfl, BW.out⟩
end Go.Proofs.YtaadipccgckehaaGreatDoor
