/- The reading of a hand: card.Parse. -/
import Derived.Test.YtaadipccgckehaaGreatDoorCA
import Derived.Laws.IdiomCopy
namespace Go.Proofs.YtaadipccgckehaaGreatDoor
open Go Go.RowKit Go.Shelf Pl

def MaxL (w : World) : Prop := ∃ m : Int, w.cell? ⟨1, 0, none⟩ = some (.int .i64 m)
theorem cell_keep {w w' : World} {a : Addr} {v : Value} (h : w.cell? a = some v) (hb : Below w.heap.size w w') : w'.cell? a = some v :=
  (hb.cell (World.block_lt_of_cell? w _ h)).trans h
theorem MaxL.keep {w w' : World} (h : MaxL w) (hb : Below w.heap.size w w') : MaxL w' := h.imp fun _ h => cell_keep h hb
def parsed : Option Nat → Value
  | some m => .tuple #[.int .u64 (m : Int), .int .i64 0]
  | none => .tuple #[.int .u64 0, .int .i64 40]
theorem parse_long (s : ByteArray) (h : 55 < s.size) (w : World) : Calls Tryz.prog 61 #[.string s] w (fun e w' => e = .returned (parsed (cparse s.data.toList)) ∧ Below w.heap.size w w') := by
  have HX : Hid (cparse s.data.toList = none) := Lib.hid (by unfold cparse; rw [if_pos (.inl (by simpa using h))])
  have t1 : decide ((55 : Int) < (s.size : Int)) = true := decide_eq_true (by omega)
  have t2 : decide (55 < s.size) = true := decide_eq_true h
  clear h
  go_enter Tryz.func61, Tryz.ntmps61
  go_wp2_with fail
  go_returns
  exact ⟨by rw [HX.out]; rfl, Below.refl _ _⟩
theorem parse_count (s : ByteArray) (h : ¬ 55 < s.size) (hc : s.data.toList.count 46 ≠ 3) (w : World) : Calls Tryz.prog 61 #[.string s] w (fun e w' => e = .returned (parsed (cparse s.data.toList)) ∧ Below w.heap.size w w') := by
  have HX : Hid (cparse s.data.toList = none) := Lib.hid (by unfold cparse; rw [if_pos (.inr hc)])
  have t1 : decide ((55 : Int) < (s.size : Int)) = false := decide_eq_false (by omega)
  have t2 : decide (55 < s.size) = false := decide_eq_false h
  have CN := Lib.hid (fun W => Tryz.strings_Count_one s 46 W)
  unfold Lib.countByte at CN
  generalize s.data.toList.count 46 = q at *
  have t3 : ((q : Int) != 3) = true := by simpa using (by omega : ¬ (q : Int) = 3)
  clear h hc
  go_enter Tryz.func61, Tryz.ntmps61
  go_wp2_with (go_at_call 82; refine (CN.out _).mono ?_; rintro e w' ⟨rfl, rfl⟩)
  go_returns
  exact ⟨by rw [HX.out]; rfl, Below.refl _ _⟩
/-- The four pieces, as cells. -/
def pcC (A : List ByteArray) : Array Value := (A.map Value.string).toArray
theorem four_list {A : List ByteArray} (h : A.length = 4) : ∃ a b c d, A = [a, b, c, d] := by
  match A, h with
  | [a, b, c, d], _ => exact ⟨a, b, c, d, rfl⟩
theorem ix_four (a : Nat → ByteArray) (k : Nat) (hk : k < 4) (w : World) : (Instr.index 77 (.agg #[.string (a 0), .string (a 1), .string (a 2), .string (a 3)]) (.int .i64 (k : Int))).run Tryz.prog w = .ok (.string (a k)) w :=
  run_index_row w _ 9 4 _ _ k _ Tryz.underlying77 (by kernel_rfl) (by kernel_rfl) hk (by rcases (by omega : k = 0 ∨ k = 1 ∨ k = 2 ∨ k = 3) with rfl | rfl | rfl | rfl <;> rfl)
theorem ixb_any (v : UInt8) (w : World) : Calls Tryz.prog 83 #[.string ⟨#[50, 51, 52, 53, 54, 55, 56, 57, 84, 74, 81, 75, 65]⟩, .int .u8 (v.toNat : Int)] w (fun e w' => e = .returned (.int .i64 (rkI v)) ∧ w' = w) :=
  (Tryz.strings_IndexByte ⟨#[50, 51, 52, 53, 54, 55, 56, 57, 84, 74, 81, 75, 65]⟩ (v.toNat : Nat) w).mono fun _ _ ⟨he, hw⟩ => ⟨by rw [he]; simp [rkI, rankS], hw⟩
theorem sign_at (S : ByteArray) (k : Nat) (hk : k < S.size) : ∃ v : UInt8, S.data.toList[k]? = some v ∧ ∀ W : World, (Instr.index 9 (.string S) (.int .i64 (k : Int))).run Tryz.prog W = .ok (.int .u8 (v.toNat : Int)) W :=
  ⟨S[k], by rw [Array.getElem?_toList]; exact Array.getElem?_eq_getElem hk, fun W => by
    rw [run_index_string W 9 S .i64 (k : Int) (by kernel_rfl), dif_pos ⟨by omega, by omega⟩]
    rfl⟩
set_option maxRecDepth 100000 in
theorem parse_main (s : ByteArray) (h : ¬ 55 < s.size) (hc : s.data.toList.count 46 = 3) (w : World) (hm : MaxL w) : Calls Tryz.prog 61 #[.string s] w (fun e w' => e = .returned (parsed (cparse s.data.toList)) ∧ Below w.heap.size w w') := by
  have HX : Hid (cparse s.data.toList = parseTo (pieces 46 s.data.toList) 4) := Lib.hid (by
    unfold cparse
    have e : s.data.toList.length = s.size := by simp
    rw [if_neg (by omega)])
  have t1 : decide ((55 : Int) < (s.size : Int)) = false := decide_eq_false (by omega)
  have t2 : decide (55 < s.size) = false := decide_eq_false h
  have CN := Lib.hid (fun W => Tryz.strings_Count_one s 46 W)
  unfold Lib.countByte at CN
  rw [hc] at CN
  have hcb : Lib.countB s ⟨#[46]⟩ = 3 := by
    have := Lib.count_one 46 s.data.toList
    rw [hc] at this
    exact this
  have SP := Lib.hid (fun W (hW : MaxL W) => Tryz.strings_Split s ⟨#[46]⟩ hW.choose W (by omega) hW.choose_spec (by decide))
  rw [hcb] at SP
  obtain ⟨A, hA⟩ : ∃ A, Lib.splitB ⟨#[46]⟩ 0 3 s = A := ⟨_, rfl⟩
  have hl4 : A.length = 4 := by rw [← hA]; exact Lib.splitB_all ⟨#[46]⟩ (by decide) 0 3 s hcb
  have hpc : pieces 46 s.data.toList = fun i => (A.map (·.data.toList)).getD i [] := by
    funext i
    unfold pieces
    rw [← hA, Lib.splitB_data]
  rw [hpc] at HX
  rw [hA] at SP
  obtain ⟨a0, a1, a2, a3, rfl⟩ := four_list hl4
  clear hA hl4 hpc hcb
  have HM := Lib.hid hm
  clear hm hc
  go_enter Tryz.func61, Tryz.ntmps61
  go_wp2_with (go_at_call 82; refine (CN.out _).mono ?_; rintro e w' ⟨rfl, rfl⟩)
  obtain ⟨p, hp⟩ : ∃ p, w'.heap.size = p := ⟨_, rfl⟩
  have b1 := Blk.new w' 77 #[.string ⟨#[]⟩, .string ⟨#[]⟩, .string ⟨#[]⟩, .string ⟨#[]⟩]
  have HB1 := Lib.hid (below1 w' (.cells #[.string ⟨#[]⟩, .string ⟨#[]⟩, .string ⟨#[]⟩, .string ⟨#[]⟩] 77))
  rw [hp] at b1 HB1 ⊢
  have hs1 : (w'.alloc (.cells #[.string ⟨#[]⟩, .string ⟨#[]⟩, .string ⟨#[]⟩, .string ⟨#[]⟩] 77)).heap.size = p + 1 := by simp [hp]
  have HM1 := Lib.hid (HM.out.keep (by rw [hp]; exact HB1.out))
  generalize w'.alloc (.cells #[.string ⟨#[]⟩, .string ⟨#[]⟩, .string ⟨#[]⟩, .string ⟨#[]⟩] 77) = W1 at *
  have SPW : Hid (Calls Tryz.prog 60 #[.string s, .string ⟨#[46]⟩] W1.drew fun e w2 => e = .returned (.slice (some ⟨p + 1, 0, none⟩) 4 4) ∧ w2 = W1.drew.alloc (.cells #[.string a0, .string a1, .string a2, .string a3] 9)) := Lib.hid (by
    have h := SP.out W1.drew (by obtain ⟨m, hm⟩ := HM1.out; exact ⟨m, hm⟩)
    rw [show W1.drew.heap.size = p + 1 from hs1] at h
    exact h)
  have b2 : Blk ((W1.alloc (.cells #[.string a0, .string a1, .string a2, .string a3] 9)).drew) p 77 #[.string ⟨#[]⟩, .string ⟨#[]⟩, .string ⟨#[]⟩, .string ⟨#[]⟩] := b1.alloc _
  have b3 : Blk ((W1.alloc (.cells #[.string a0, .string a1, .string a2, .string a3] 9)).drew) (p + 1) 9 #[.string a0, .string a1, .string a2, .string a3] := by
    have := Blk.new W1 9 #[.string a0, .string a1, .string a2, .string a3]
    rwa [hs1] at this
  have HB2 : Hid (Below p w' ((W1.alloc (.cells #[.string a0, .string a1, .string a2, .string a3] 9)).drew)) := Lib.hid ((HB1.out.alloc (by omega) _).drew)
  have e4 : ∀ j, j < 4 → (#[.string ⟨#[]⟩, .string ⟨#[]⟩, .string ⟨#[]⟩, .string ⟨#[]⟩] : Array Value)[j]? = some (.string ⟨#[]⟩) := by
    intro j hj
    rcases (by omega : j = 0 ∨ j = 1 ∨ j = 2 ∨ j = 3) with rfl | rfl | rfl | rfl <;> rfl
  have hcp : (Builtin.copy_ #[45, 45] 3 #[.slice (some ⟨p, 0, none⟩) 4 4, .slice (some ⟨p + 1, 0, none⟩) 4 4]).run Tryz.prog ((W1.alloc (.cells #[.string a0, .string a1, .string a2, .string a3] 9)).drew) = .ok (.int .i64 4) (((W1.alloc (.cells #[.string a0, .string a1, .string a2, .string a3] 9)).drew).setCells p 0 [.string a0, .string a1, .string a2, .string a3]) := by
    refine run_copy_cells ((W1.alloc (.cells #[.string a0, .string a1, .string a2, .string a3] 9)).drew) _ _ _ 9 p 0 4 4 ⟨p + 1, 0, none⟩ 4 4 [.string a0, .string a1, .string a2, .string a3] Tryz.underlying45 (by kernel_rfl) rfl (fun j v hj => ?_) (fun j hj => ?_) (fun j hj => by rw [Nat.zero_add]; exact b2.free j) (by intro v hv; simp at hv; rcases hv with rfl | rfl | rfl | rfl <;> rfl)
    · rw [add_at, Nat.zero_add]; exact b3.cell (by simpa using hj)
    · rw [Nat.zero_add]
      rw [b2.cell (e4 j hj)]; rfl
  go_region_with (go_at_call 60; refine SPW.out.mono ?_; rintro e w2 ⟨rfl, rfl⟩)
  have b4 : Hid (Blk (((W1.alloc (.cells #[.string a0, .string a1, .string a2, .string a3] 9)).drew).setCells p 0 [.string a0, .string a1, .string a2, .string a3]) p 77 #[.string a0, .string a1, .string a2, .string a3]) := Lib.hid ((((b2.set 0 _).set 1 _).set 2 _).set 3 _)
  have HB4 : Hid (Below w'.heap.size w' (((W1.alloc (.cells #[.string a0, .string a1, .string a2, .string a3] 9)).drew).setCells p 0 [.string a0, .string a1, .string a2, .string a3])) := Lib.hid (by
    rw [hp]
    exact ((((HB2.out.setCell (p := ⟨p, 0, none⟩) (Nat.le_refl _) _).setCell (p := ⟨p, 1, none⟩) (Nat.le_refl _) _).setCell (p := ⟨p, 2, none⟩) (Nat.le_refl _) _).setCell (p := ⟨p, 3, none⟩) (Nat.le_refl _) _))
  clear hcp HB2 b2 b3 SPW HM1 HB1 b1 SP CN e4 hs1 HM hp
  generalize ((W1.alloc (.cells #[.string a0, .string a1, .string a2, .string a3] 9)).drew).setCells p 0 [.string a0, .string a1, .string a2, .string a3] = W3 at *
  have x0 := b4.out.cell (j := 0) rfl
  have x1 := b4.out.cell (j := 1) rfl
  have x2 := b4.out.cell (j := 2) rfl
  have x3 := b4.out.cell (j := 3) rfl
  obtain ⟨a, h0, h1, h2, h3⟩ : ∃ a : Nat → ByteArray, a0 = a 0 ∧ a1 = a 1 ∧ a2 = a 2 ∧ a3 = a 3 := ⟨fun i => [a0, a1, a2, a3].getD i ⟨#[]⟩, rfl, rfl, rfl, rfl⟩
  subst h0 h1 h2 h3
  have HPS : Hid (∀ k, k < 4 → (fun i => (List.map (fun x : ByteArray => x.data.toList) [a 0, a 1, a 2, a 3]).getD i []) k = (a k).data.toList) := Lib.hid (fun k hk => by
    rcases (by omega : k = 0 ∨ k = 1 ∨ k = 2 ∨ k = 3) with rfl | rfl | rfl | rfl <;> rfl)
  obtain ⟨ps, hps⟩ : ∃ ps, (fun i => (List.map (fun x : ByteArray => x.data.toList) [a 0, a 1, a 2, a 3]).getD i []) = ps := ⟨_, rfl⟩
  rw [hps] at HX HPS
  have IX := Lib.hid (ix_four a)
  clear hps b4 h t1 t2
  go_wp2_with fail
  clear x0 x1 x2 x3
  go_loopw [4, 24] (fun s4 s24 wr => ∃ k m : Nat, k ≤ 4 ∧ s24 = .int .i64 (k : Int) ∧ s4 = .int .u64 (m : Int) ∧ Hid (parseTo ps k = some m) ∧ m < 4503599627370496 ∧ wr = W3) (fun _ s24 _ => 4 - (intOf s24).toNat)
  case atStart => exact ⟨0, 0, by omega, rfl, rfl, Lib.hid rfl, by omega, rfl⟩
  case round =>
    obtain ⟨k, m, hk, rfl, rfl, HP, hm, rfl⟩ := hrel
    by_cases hlt : k < 4
    · have u1 : decide ((k : Int) < 4) = true := decide_eq_true (by omega)
      have ix := IX.out k hlt
      have HK := Lib.hid (HPS.out k hlt)
      generalize a k = E at *
      clear IX HPS
      go_wp2_with fail
      clear ix
      have HLE : Hid (E.data.toList.length = E.size) := Lib.hid (by simp)
      obtain ⟨z3, hz3⟩ : ∃ z3, 3 - k = z3 := ⟨_, rfl⟩
      obtain ⟨zb, hzb⟩ : ∃ zb, z3 * 13 = zb := ⟨_, rfl⟩
      have e46 : IntKind.i64.wrap (3 - (k : Int)) = (z3 : Int) := by rw [show 3 - (k : Int) = (z3 : Int) by omega]; exact IntWalk.i64_in _ (by omega)
      have e47 : IntKind.i64.wrap ((z3 : Int) * 13) = (zb : Int) := by rw [show (z3 : Int) * 13 = (zb : Int) by omega]; exact IntWalk.i64_in _ (by omega)
      have HZ : Hid ((3 - k) * 13 = zb ∧ zb ≤ 39) := Lib.hid ⟨by rw [hz3]; exact hzb, by omega⟩
      have e53 := inc64 k (by omega)
      have HM := Lib.hid hm
      clear hz3 hzb hm
      go_loopw [4, 8, 30] (fun s4 s8 s30 wq => ∃ (j m' : Nat) (last : Int), j ≤ E.size ∧ s30 = .int .i64 (j : Int) ∧ s4 = .int .u64 (m' : Int) ∧ s8 = .int .i64 last ∧ 0 ≤ last ∧ (j : Int) ≤ 13 - last ∧ Hid ((E.data.toList.take j).foldl (pstep zb) (some (m, 13)) = some (m', last)) ∧ m' < 4503599627370496 ∧ wq = wr) (fun _ _ s30 _ => E.size - (intOf s30).toNat)
      case atStart => exact ⟨0, m, 13, by omega, rfl, rfl, rfl, by omega, by omega, Lib.hid rfl, HM.out, rfl⟩
      case round =>
        obtain ⟨j, m', last, hj, rfl, rfl, rfl, hl0, hl1, HF, hm', rfl⟩ := hrel
        by_cases hjl : j < E.size
        · have u2 : decide ((j : Int) < (E.size : Int)) = true := decide_eq_true (by omega)
          have u2b : decide (j < E.size) = true := decide_eq_true hjl
          obtain ⟨v, hv, iv⟩ := sign_at E j hjl
          have HV := Lib.hid (pfold_next zb E.data.toList j v (some (m, 13)) hv)
          have HI := Lib.hid (ixb_any v)
          have hr1 := rk_lt v
          have e5 := inc64 j (by omega)
          obtain ⟨R, hR⟩ : ∃ R, rkI v = R := ⟨_, rfl⟩
          rw [hR] at hr1 HI
          by_cases hneg : R < 0
          · have HN : Hid (cparse s.data.toList = none) := Lib.hid (by
              rw [HX.out]
              refine parseTo_no ps (k + 1) (parseTo_fail ps k m HP.out ?_) 4 (by omega)
              rw [HK.out, HZ.out.1]
              refine pfold_no zb _ (j + 1) _ ?_
              rw [HV.out, HF.out]
              exact pstep_no _ _ _ _ (.inl (by rw [hR]; exact hneg)))
            have t1 : decide (R < 0) = true := decide_eq_true hneg
            clear HV HF hv hneg hR
            go_wp2_with (go_at_call 83; refine (HI.out _).mono ?_; rintro e w2 ⟨rfl, rfl⟩)
            go_returns
            exact ⟨by rw [HN.out]; rfl, HB4.out⟩
          have t1 : decide (R < 0) = false := decide_eq_false hneg
          by_cases hge : last ≤ R
          · have HN : Hid (cparse s.data.toList = none) := Lib.hid (by
              rw [HX.out]
              refine parseTo_no ps (k + 1) (parseTo_fail ps k m HP.out ?_) 4 (by omega)
              rw [HK.out, HZ.out.1]
              refine pfold_no zb _ (j + 1) _ ?_
              rw [HV.out, HF.out]
              exact pstep_no _ _ _ _ (.inr (by rw [hR]; exact hge)))
            have t2 : decide (last ≤ R) = true := decide_eq_true hge
            clear HV HF hv hneg hR
            go_wp2_with (go_at_call 83; refine (HI.out _).mono ?_; rintro e w2 ⟨rfl, rfl⟩)
            go_returns
            exact ⟨by rw [HN.out]; rfl, HB4.out⟩
          have t2 : decide (last ≤ R) = false := decide_eq_false hge
          have HN : Hid ((E.data.toList.take (j + 1)).foldl (pstep zb) (some (m, 13)) = some (m' ||| 2 ^ (zb + R.toNat), R)) := Lib.hid (by
            rw [HV.out, HF.out, pstep_ok _ _ _ _ (by rw [hR]; omega), hR])
          clear HV HF hv hR
          obtain ⟨r, rfl⟩ : ∃ r : Nat, R = (r : Int) := ⟨R.toNat, by omega⟩
          rw [Int.toNat_natCast] at HN
          have hzb := HZ.out.2
          obtain ⟨t, ht⟩ : ∃ t, zb + r = t := ⟨_, rfl⟩
          rw [ht] at HN
          have e49 : IntKind.i64.wrap ((zb : Int) + (r : Int)) = (t : Int) := by rw [show (zb : Int) + (r : Int) = (t : Int) by omega]; exact IntWalk.i64_in _ (by omega)
          have ht52 : t < 52 := by omega
          clear HX HP HK HZ hk hlt
          go_wp2_with (go_at_call 83; refine (HI.out _).mono ?_; rintro e w2 ⟨rfl, rfl⟩)
          have hp52 : 2 ^ t < 4503599627370496 := Nat.pow_lt_pow_right (n := 52) (by omega) ht52
          have hor := or52 hm' hp52
          obtain ⟨z, hz⟩ : ∃ z : Nat, 2 ^ t = z := ⟨_, rfl⟩
          have hzi : (2 : Int) ^ t = (z : Int) := by rw [← hz]; simp
          rw [hz] at hp52 hor HN
          have eS : IntKind.u64.wrap ((2 : Int) ^ t) = (z : Int) := by
            rw [hzi]
            exact IntWalk.u64_in _ (by omega)
          have eO : bits BinOp.or IntKind.u64 (m' : Int) (z : Int) = ((m' ||| z : Nat) : Int) := u64_or_nat _ _ (by omega) (by omega)
          rw [eS, eO]
          go_roundw
          case rel => exact ⟨j + 1, m' ||| z, r, by omega, by simp, rfl, rfl, by omega, by omega, HN, hor, trivial⟩
          case measure => simp [intOf]; omega
        · obtain rfl : j = E.size := by omega
          have u2 : decide ((E.size : Int) < (E.size : Int)) = false := decide_eq_false (by omega)
          have u2b : decide (E.size < E.size) = false := decide_eq_false (by omega)
          have HN : Hid (parseTo ps (k + 1) = some m') := Lib.hid (parseTo_step ps k m m' last HP.out (by
            rw [HK.out, HZ.out.1, ← HF.out, ← HLE.out, List.take_length]))
          clear HX HP HK HZ HF HLE
          go_wp2_with fail
          go_roundw
          case rel => exact ⟨k + 1, m', by omega, by simp, rfl, HN, hm', trivial⟩
          case measure => simp [intOf]; omega
    · obtain rfl : k = 4 := by omega
      have u1 : decide ((4 : Int) < 4) = false := rfl
      rw [show ((4 : Nat) : Int) = 4 from rfl]
      rw [HP.out] at HX
      clear IX HPS
      go_wp2_with fail
      go_returns
      exact ⟨by rw [HX.out]; rfl, HB4.out⟩
theorem parse_any (s : ByteArray) (w : World) (hm : MaxL w) : Calls Tryz.prog 61 #[.string s] w (fun e w' => e = .returned (parsed (cparse s.data.toList)) ∧ Below w.heap.size w w') := by
  by_cases h : 55 < s.size
  · exact parse_long s h w
  by_cases hc : s.data.toList.count 46 = 3
  · exact parse_main s h hc w hm
  · exact parse_count s h hc w
end Go.Proofs.YtaadipccgckehaaGreatDoor
