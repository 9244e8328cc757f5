/- EntryWrong. -/
import Derived.Test.YtpkmibmombpjpaaGreatDoorKW
import Derived.Test.YtpkmibmombpjpaaGreatDoorSetM
import Derived.Test.YtpkmibmombpjpaaGreatDoorGw
import Derived.Test.YtpkmibmombpjpaaGreatDoorFlow5
import Derived.Laws.Bits128
set_option linter.unusedSimpArgs false
namespace Go.Proofs.YtpkmibmombpjpaaGreatDoor
open Go Go.RowKit

/-- The tables, and what lay below. -/
structure EX (w W : World) : Prop where
  e0 : Env w
  below : Below w.heap.size w W
theorem EX.env {w W : World} (h : EX w W) : Env W := h.e0.keep h.below
theorem EX.keep {w W W' : World} (h : EX w W) (hb : Below W.heap.size W W') : EX w W' := ⟨h.e0, h.below.trans (hb.mono h.below.size)⟩
theorem EX.set {w W : World} (h : EX w W) {p : Nat} (hp : w.heap.size ≤ p) (j : Nat) (v : Value) : EX w (W.setCell ⟨p, j, none⟩ v) := ⟨h.e0, h.below.setCell (p := ⟨p, j, none⟩) hp v⟩
theorem EX.sets {w W : World} (h : EX w W) {p : Nat} (hp : w.heap.size ≤ p) (vs : List Value) (j : Nat) : EX w (W.setCells p j vs) := ⟨h.e0, Below.setCells' hp vs j W h.below⟩
theorem set_o0 {W : World} {p : Nat} {a : En} (h : Blk W p 34 (enC a)) (o : Ou) : Blk (W.setCells p 7 (ouL o)) p 34 (enC { a with o0 := o }) := by
  have h1 := Blk.putC (ouL o) 7 W _ h
  rwa [show putC (enC a) 7 (ouL o) = enC { a with o0 := o } by
    unfold enC
    simp only [putC, ouL, List.setIfInBounds_toArray]
    rfl] at h1
theorem put_o0 {W : World} {p : Nat} {a : En} (h : Blk W p 34 (enC a)) (o : Ou) : (Instr.storeAt 30 (.pointer (some ⟨p, 7, none⟩)) (.agg (ouL o).toArray)).run Tryz.prog W = .ok () (W.setCells p 7 (ouL o)) := by
  refine storeAt_run (w := W) (T := 30) (b := p) (off := 7) (C := (ouL o).toArray) (by rw [show (ouL o).toArray.size = 6 from rfl]; kernel_rfl) (fun j hj => ?_) (fun j _ => h.free _) (fun v hv => ?_)
  · have hj6 : j < 6 := hj
    obtain ⟨v, hv⟩ : ∃ v, (enC a)[7 + j]? = some v := ⟨_, Array.getElem?_eq_getElem (by rw [enC_size]; omega)⟩
    rw [h.cell hv]; rfl
  · simp only [ouL, List.mem_cons, List.not_mem_nil, or_false] at hv
    rcases hv with rfl | rfl | rfl | rfl | rfl | rfl <;> rfl
theorem made_100 (x : Sm) : (madeE x).a1 ≤ 1000 ∧ (madeE x).o0.wt ≤ 1000 ∧ -1000 ≤ (madeE x).o0.wt := by
  refine made_cases x (P := fun e => e.a1 ≤ 1000 ∧ e.o0.wt ≤ 1000 ∧ -1000 ≤ e.o0.wt) ?_ ?_ ?_ ?_ ?_
  · exact ⟨by show (0 : Int) ≤ 1000; omega, by show (0 : Int) ≤ 1000; omega, by show (-1000 : Int) ≤ 0; omega⟩
  · exact ⟨by show (0 : Int) ≤ 1000; omega, by show (0 : Int) ≤ 1000; omega, by show (-1000 : Int) ≤ 0; omega⟩
  · exact ⟨by show (0 : Int) ≤ 1000; omega, by show 1 + ((x.wt % 99 : Nat) : Int) ≤ 1000; omega, by show -1000 ≤ 1 + ((x.wt % 99 : Nat) : Int); omega⟩
  · refine ⟨?_, by show (0 : Int) ≤ 1000; omega, by show (-1000 : Int) ≤ 0; omega⟩
    show awN (x.wt % 7) ≤ 1000
    have := Nat.mod_lt x.wt (show 0 < 7 by omega)
    rcases (by omega : x.wt % 7 = 0 ∨ x.wt % 7 = 1 ∨ x.wt % 7 = 2 ∨ x.wt % 7 = 3 ∨ x.wt % 7 = 4 ∨ x.wt % 7 = 5 ∨ x.wt % 7 = 6) with h | h | h | h | h | h | h <;> rw [h] <;> decide
  · exact ⟨by show (0 : Int) ≤ 1000; omega, by show (0 : Int) ≤ 1000; omega, by show (-1000 : Int) ≤ 0; omega⟩
theorem and127 (n : Int) : ∃ t : Nat, t < 128 ∧ bits BinOp.and IntKind.i64 n 127 = (t : Int) :=
  ⟨(n % 128).toNat, by omega, by rw [i64_and127]; omega⟩
theorem text_ex (e : En) (m : Nat) (hm : m < 14) (h : rightE e = decide (m < 6)) : ∃ (S : ByteArray) (k : Int), textV e = .tuple #[.string S, .int .i64 k] ∧ (k == 313) = (wantM m == 313) := by
  by_cases h6 : m < 6
  · rw [decide_eq_true h6] at h
    refine ⟨_, _, textV_t h, ?_⟩
    rcases (by omega : m = 0 ∨ m = 1 ∨ m = 2 ∨ m = 3 ∨ m = 4 ∨ m = 5) with rfl | rfl | rfl | rfl | rfl | rfl <;> rfl
  · rw [decide_eq_false h6] at h
    refine ⟨_, _, textV_f h, ?_⟩
    rcases (by omega : m = 6 ∨ m = 7 ∨ m = 8 ∨ m = 9 ∨ m = 10 ∨ m = 11 ∨ m = 12 ∨ m = 13) with rfl | rfl | rfl | rfl | rfl | rfl | rfl | rfl <;> rfl
theorem twice_no (a : En) : setB [a, a] = false := by
  show (decide (cmpE a a < 0) && true) = false
  rw [cmp_self]; rfl
theorem twice_set (a : En) : setL [a, a] = [a] := by
  simp [setL, insE, cmp_self, eqEn_self]
theorem merg_twice (a : En) : mergC [[], [a, a]] = 314 := by
  unfold mergC
  simp [twice_no]
set_option maxRecDepth 100000 in
set_option maxHeartbeats 8000000 in
theorem wrong_any (x : Sm) (hx : x.In) (n : Int) (hn : inI n) (way : Nat) (hway : way < 256) (w : World) (he : Env w) : Calls Tryz.prog 9 #[.agg (smC x), .int .i64 n, .int .u8 (way : Int)] w (fun r w' => r = .returned (.bool true) ∧ Below w.heap.size w w') := by
  obtain ⟨a, ha⟩ : ∃ a, madeE x = a := ⟨_, rfl⟩
  obtain ⟨m, hm⟩ : ∃ m, way % 14 = m := ⟨_, rfl⟩
  obtain ⟨t, ht, hand⟩ := and127 n
  have hm14 : m < 14 := by omega
  have HI := Lib.hid (show a.In by rw [← ha]; exact made_in x)
  have H100 := Lib.hid (show a.a1 ≤ 1000 ∧ a.o0.wt ≤ 1000 ∧ -1000 ≤ a.o0.wt by rw [← ha]; exact made_100 x)
  have HBI := Lib.hid (show (badE a n t m).In by rw [← ha]; exact bad_in x n t m hn ht)
  have HCK := Lib.hid (show checkE 2 seRows (badE a n t m) = wantM m by rw [← ha]; exact bad_check x n t m hm14)
  have HRT := Lib.hid (show rightE (badE a n t m) = decide (m < 6) by
    by_cases h6 : m < 6
    · rw [decide_eq_true h6, ← ha]; exact bad_content x n t m h6
    · rw [decide_eq_false h6, ← ha]; exact bad_right x n t m (by omega) hm14)
  have CKA := Lib.hid (show checkE 2 seRows a = 0 by rw [← ha]; exact made_check x)
  have AW := Lib.hid (awake_any)
  have HE := Lib.hid (show EX w w from ⟨he, Below.refl _ _⟩)
  have MX := Lib.hid (fun W => made_any x hx W)
  rw [ha] at MX
  have r1 : (way : Int) % 14 = (m : Int) := by omega
  have r2 : ((way : Int)).tmod 14 = (m : Int) := by rw [Int.tmod_eq_emod_of_nonneg (by omega)]; omega
  have r3 : IntKind.u8.wrap (m : Int) = (m : Int) := by simp [IntKind.wrap, IntKind.bits, IntKind.signed]; omega
  clear he hx hm hn hway
  go_enter Tryz.func9, Tryz.ntmps9
  have HX0 := Lib.hid (Blk.new w 61 (smC x))
  have HE0 := Lib.hid (HE.out.keep (below1 w (.cells (smC x) 61)))
  clear HE
  go_wp2_with fail
  refine (AW.out _ HE0.out.env).mono ?_
  rintro r w1 ⟨rfl, hb⟩
  have HX1 := Lib.hid (HX0.out.keep hb HX0.out.lt)
  have HE1 := Lib.hid (HE0.out.keep hb)
  clear HX0 HE0 AW hb
  obtain ⟨px, hpx⟩ : ∃ px, w.heap.size = px := ⟨_, rfl⟩
  rw [hpx] at HX1 ⊢
  have HPX := Lib.hid hpx
  clear hpx
  have lx := loadAt_blk (T := 61) HX1.out Tryz.underlying61 rfl (by kernel_rfl)
  go_wp2_with (refine op_load (p := .pointer (some ⟨px, 0, none⟩)) (C := .agg (smC x)) 61 (.tmp 3) rfl rfl rfl lx ?_)
  refine (MX.out _).mono ?_
  rintro r w2 ⟨rfl, hb⟩
  have HE2 := Lib.hid (HE1.out.keep hb)
  clear lx HX1 HE1 hb MX
  clear w1
  have HA0 := Lib.hid (Blk.new w2 34 (enC a))
  have st1 := storeAt_row (T := 34) (C := enC a) (Blk.new w2 34 (enC zE)) (by rw [enC_size]; kernel_rfl) (by simp only [enC_size]) (enC_one a)
  rw [setRow_new, zE_lit] at st1
  go_upto_region 4 with (refine op_store (p := .pointer (some ⟨w2.heap.size, 0, none⟩)) (C := .agg (enC a)) 34 (.tmp 7) (.tmp 22) rfl rfl rfl rfl rfl st1 ?_)
  have HE3 := Lib.hid (HE2.out.keep (below1 w2 (.cells (enC a) 34)))
  have hpg : w.heap.size ≤ w2.heap.size := HE2.out.below.size
  have hlt : w2.heap.size < (w2.alloc (.cells (enC a) 34)).heap.size := by rw [size_al]; omega
  clear st1 HE2
  generalize w2.heap.size = pg at *
  generalize w2.alloc (.cells (enC a) 34) = w3 at *
  clear w2
  have la := loadAt_blk (T := 34) HA0.out Tryz.underlying34 rfl (by rw [enC_size]; kernel_rfl)
  have HA := Lib.hid (HA0.out.alloc (.cells (enC a) 34))
  have HB := Lib.hid (Blk.new w3 34 (enC a))
  have st2 := storeAt_row (T := 34) (C := enC a) (Blk.new w3 34 (enC zE)) (by rw [enC_size]; kernel_rfl) (by simp only [enC_size]) (enC_one a)
  rw [setRow_new, zE_lit] at st2
  go_upto_region 5 with (first
    | (refine op_load (p := .pointer (some ⟨pg, 0, none⟩)) (C := .agg (enC a)) 34 (.tmp 7) rfl rfl rfl la ?_)
    | (refine op_store (p := .pointer (some ⟨w3.heap.size, 0, none⟩)) (C := .agg (enC a)) 34 (.tmp 8) (.tmp 23) rfl rfl rfl rfl rfl st2 ?_))
  have HE := Lib.hid (HE3.out.keep (below1 w3 (.cells (enC a) 34)))
  have HP : Hid (pg ≠ w3.heap.size ∧ w.heap.size ≤ w3.heap.size) := Lib.hid ⟨by omega, HE3.out.below.size⟩
  clear st2 la HE3 HA0 hlt
  generalize w3.heap.size = pb at *
  generalize w3.alloc (.cells (enC a) 34) = W3 at *
  clear w3
  go_upto_block 0 with fail
  go_cut [9] (fun s9 wx => s9 = .int .i64 (wantM m) ∧ Hid (Blk wx pb 34 (enC (badE a n t m))) ∧ Hid (Blk wx pg 34 (enC a)) ∧ Hid (EX w wx))
  case first =>
    clear HBI HCK HRT CKA r1 r2 r3 HPX hpg
    have c1 : IntKind.u8.wrap (t : Int) = (t : Int) := by simp [IntKind.wrap, IntKind.bits, IntKind.signed]; omega
    have c2 : IntKind.u8.wrap (5 + (t : Int)) = ((5 + t : Nat) : Int) := by simp [IntKind.wrap, IntKind.bits, IntKind.signed]; omega
    have c3 : IntKind.u8.wrap (4 + (t : Int)) = ((4 + t : Nat) : Int) := by simp [IntKind.wrap, IntKind.bits, IntKind.signed]; omega
    clear ht
    rcases (by omega : m = 0 ∨ m = 1 ∨ m = 2 ∨ m = 3 ∨ m = 4 ∨ m = 5 ∨ m = 6 ∨ m = 7 ∨ m = 8 ∨ m = 9 ∨ m = 10 ∨ m = 11 ∨ m = 12 ∨ m = 13) with rfl | rfl | rfl | rfl | rfl | rfl | rfl | rfl | rfl | rfl | rfl | rfl | rfl | rfl
    · as_aux_lemma =>
      have xj : W3.cell? ⟨pb, 0, none⟩ = some (.int .i64 a.rd) := HB.out.cell (by unfold enC; rfl)
      have fj := HB.out.free 0
      have HB4 : Hid (Blk (W3.setCell ⟨pb, 0, none⟩ (.int .i64 (max n 2))) pb 34 (enC (badE a n t 0))) := Lib.hid (by have h := HB.out.set 0 (.int .i64 (max n 2)); rwa [show (enC a).setIfInBounds 0 (.int .i64 (max n 2)) = enC (badE a n t 0) by unfold enC; rfl] at h)
      have HA4 := Lib.hid (HA.out.other HP.out.1 0 (.int .i64 (max n 2)))
      have HE4 := Lib.hid (EX.set HE.out HP.out.2 0 (.int .i64 (max n 2)))
      clear HB HA HE HI H100
      go_wp2_with fail
      go_meet
      exact ⟨rfl, HB4, HA4, HE4⟩
    · as_aux_lemma =>
      have xj : W3.cell? ⟨pb, 1, none⟩ = some (.int .i64 a.tb) := HB.out.cell (by unfold enC; rfl)
      have fj := HB.out.free 1
      have HB4 : Hid (Blk (W3.setCell ⟨pb, 1, none⟩ (.int .i64 (min n (-1)))) pb 34 (enC (badE a n t 1))) := Lib.hid (by have h := HB.out.set 1 (.int .i64 (min n (-1))); rwa [show (enC a).setIfInBounds 1 (.int .i64 (min n (-1))) = enC (badE a n t 1) by unfold enC; rfl] at h)
      have HA4 := Lib.hid (HA.out.other HP.out.1 1 (.int .i64 (min n (-1))))
      have HE4 := Lib.hid (EX.set HE.out HP.out.2 1 (.int .i64 (min n (-1))))
      clear HB HA HE HI H100
      go_wp2_with fail
      go_meet
      exact ⟨rfl, HB4, HA4, HE4⟩
    · as_aux_lemma =>
      have xj : W3.cell? ⟨pb, 2, none⟩ = some (.int .i64 a.bd) := HB.out.cell (by unfold enC; rfl)
      have fj := HB.out.free 2
      have HB4 : Hid (Blk (W3.setCell ⟨pb, 2, none⟩ (.int .i64 (max n 7))) pb 34 (enC (badE a n t 2))) := Lib.hid (by have h := HB.out.set 2 (.int .i64 (max n 7)); rwa [show (enC a).setIfInBounds 2 (.int .i64 (max n 7)) = enC (badE a n t 2) by unfold enC; rfl] at h)
      have HA4 := Lib.hid (HA.out.other HP.out.1 2 (.int .i64 (max n 7)))
      have HE4 := Lib.hid (EX.set HE.out HP.out.2 2 (.int .i64 (max n 7)))
      clear HB HA HE HI H100
      go_wp2_with fail
      go_meet
      exact ⟨rfl, HB4, HA4, HE4⟩
    · as_aux_lemma =>
      have xj : W3.cell? ⟨pb, 2, none⟩ = some (.int .i64 a.bd) := HB.out.cell (by unfold enC; rfl)
      have fj := HB.out.free 2
      have HB4 : Hid (Blk (W3.setCell ⟨pb, 2, none⟩ (.int .i64 (min n 0))) pb 34 (enC (badE a n t 3))) := Lib.hid (by have h := HB.out.set 2 (.int .i64 (min n 0)); rwa [show (enC a).setIfInBounds 2 (.int .i64 (min n 0)) = enC (badE a n t 3) by unfold enC; rfl] at h)
      have HA4 := Lib.hid (HA.out.other HP.out.1 2 (.int .i64 (min n 0)))
      have HE4 := Lib.hid (EX.set HE.out HP.out.2 2 (.int .i64 (min n 0)))
      clear HB HA HE HI H100
      go_wp2_with fail
      go_meet
      exact ⟨rfl, HB4, HA4, HE4⟩
    · as_aux_lemma =>
      have xj : W3.cell? ⟨pb, 3, none⟩ = some (.int .i64 a.vs) := HB.out.cell (by unfold enC; rfl)
      have fj := HB.out.free 3
      have HB4 : Hid (Blk (W3.setCell ⟨pb, 3, none⟩ (.int .i64 (max n 100))) pb 34 (enC (badE a n t 4))) := Lib.hid (by have h := HB.out.set 3 (.int .i64 (max n 100)); rwa [show (enC a).setIfInBounds 3 (.int .i64 (max n 100)) = enC (badE a n t 4) by unfold enC; rfl] at h)
      have HA4 := Lib.hid (HA.out.other HP.out.1 3 (.int .i64 (max n 100)))
      have HE4 := Lib.hid (EX.set HE.out HP.out.2 3 (.int .i64 (max n 100)))
      clear HB HA HE HI H100
      go_wp2_with fail
      go_meet
      exact ⟨rfl, HB4, HA4, HE4⟩
    · as_aux_lemma =>
      have xj : W3.cell? ⟨pb, 3, none⟩ = some (.int .i64 a.vs) := HB.out.cell (by unfold enC; rfl)
      have fj := HB.out.free 3
      have HB4 : Hid (Blk (W3.setCell ⟨pb, 3, none⟩ (.int .i64 (min n 0))) pb 34 (enC (badE a n t 5))) := Lib.hid (by have h := HB.out.set 3 (.int .i64 (min n 0)); rwa [show (enC a).setIfInBounds 3 (.int .i64 (min n 0)) = enC (badE a n t 5) by unfold enC; rfl] at h)
      have HA4 := Lib.hid (HA.out.other HP.out.1 3 (.int .i64 (min n 0)))
      have HE4 := Lib.hid (EX.set HE.out HP.out.2 3 (.int .i64 (min n 0)))
      clear HB HA HE HI H100
      go_wp2_with fail
      go_meet
      exact ⟨rfl, HB4, HA4, HE4⟩
    · as_aux_lemma =>
      have xj : W3.cell? ⟨pb, 4, none⟩ = some (.int .u8 (a.kd : Int)) := HB.out.cell (by unfold enC; rfl)
      have fj := HB.out.free 4
      have HB4 : Hid (Blk (W3.setCell ⟨pb, 4, none⟩ (.int .u8 ((5 + t : Nat) : Int))) pb 34 (enC (badE a n t 6))) := Lib.hid (by have h := HB.out.set 4 (.int .u8 ((5 + t : Nat) : Int)); rwa [show (enC a).setIfInBounds 4 (.int .u8 ((5 + t : Nat) : Int)) = enC (badE a n t 6) by unfold enC; rfl] at h)
      have HA4 := Lib.hid (HA.out.other HP.out.1 4 (.int .u8 ((5 + t : Nat) : Int)))
      have HE4 := Lib.hid (EX.set HE.out HP.out.2 4 (.int .u8 ((5 + t : Nat) : Int)))
      clear HB HA HE HI H100
      go_wp2_with fail
      go_meet
      exact ⟨rfl, HB4, HA4, HE4⟩
    · as_aux_lemma =>
      have xj : W3.cell? ⟨pb, 5, none⟩ = some (.int .u8 (a.fd : Int)) := HB.out.cell (by unfold enC; rfl)
      have fj := HB.out.free 5
      have HB4 : Hid (Blk (W3.setCell ⟨pb, 5, none⟩ (.int .u8 ((4 + t : Nat) : Int))) pb 34 (enC (badE a n t 7))) := Lib.hid (by have h := HB.out.set 5 (.int .u8 ((4 + t : Nat) : Int)); rwa [show (enC a).setIfInBounds 5 (.int .u8 ((4 + t : Nat) : Int)) = enC (badE a n t 7) by unfold enC; rfl] at h)
      have HA4 := Lib.hid (HA.out.other HP.out.1 5 (.int .u8 ((4 + t : Nat) : Int)))
      have HE4 := Lib.hid (EX.set HE.out HP.out.2 5 (.int .u8 ((4 + t : Nat) : Int)))
      clear HB HA HE HI H100
      go_wp2_with fail
      go_meet
      exact ⟨rfl, HB4, HA4, HE4⟩
    · as_aux_lemma =>
      have xj : W3.cell? ⟨pb, 29, none⟩ = some (.int .i64 a.o3.tr) := HB.out.cell (by unfold enC; rfl)
      have fj := HB.out.free 29
      have HB4 : Hid (Blk (W3.setCell ⟨pb, 29, none⟩ (.int .i64 5)) pb 34 (enC (badE a n t 8))) := Lib.hid (by have h := HB.out.set 29 (.int .i64 5); rwa [show (enC a).setIfInBounds 29 (.int .i64 5) = enC (badE a n t 8) by unfold enC; rfl] at h)
      have HA4 := Lib.hid (HA.out.other HP.out.1 29 (.int .i64 5))
      have HE4 := Lib.hid (EX.set HE.out HP.out.2 29 (.int .i64 5))
      clear HB HA HE HI H100
      go_wp2_with fail
      go_meet
      exact ⟨rfl, HB4, HA4, HE4⟩
    · as_aux_lemma =>
      have xj : W3.cell? ⟨pb, 32, none⟩ = some (.int .i64 a.a1) := HB.out.cell (by unfold enC; rfl)
      have fj := HB.out.free 32
      have HB4 : Hid (Blk (W3.setCell ⟨pb, 32, none⟩ (.int .i64 (a.a1 + 1))) pb 34 (enC (badE a n t 9))) := Lib.hid (by have h := HB.out.set 32 (.int .i64 (a.a1 + 1)); rwa [show (enC a).setIfInBounds 32 (.int .i64 (a.a1 + 1)) = enC (badE a n t 9) by unfold enC; rfl] at h)
      have HA4 := Lib.hid (HA.out.other HP.out.1 32 (.int .i64 (a.a1 + 1)))
      have HE4 := Lib.hid (EX.set HE.out HP.out.2 32 (.int .i64 (a.a1 + 1)))
      have e9 : IntKind.i64.wrap (a.a1 + 1) = a.a1 + 1 := IntWalk.i64_in _ (by have := HI.out.a1.1; have := HI.out.a1.2; have := H100.out.1; omega)
      clear HB HA HE HI H100
      go_wp2_with fail
      go_meet
      exact ⟨rfl, HB4, HA4, HE4⟩
    · as_aux_lemma =>
      have xw : W3.cell? ⟨pb, 12, none⟩ = some (.int .i64 a.o0.wt) := HB.out.cell (by unfold enC; rfl)
      have fw := HB.out.free 12
      have e9 : IntKind.i64.wrap (a.o0.wt + 1) = a.o0.wt + 1 := IntWalk.i64_in _ (by have := H100.out.2; omega)
      have HB4 : Hid (Blk (W3.setCell ⟨pb, 12, none⟩ (.int .i64 (a.o0.wt + 1))) pb 34 (enC { a with o0 := { a.o0 with wt := a.o0.wt + 1 } })) := Lib.hid (by have h := HB.out.set 12 (.int .i64 (a.o0.wt + 1)); rwa [show (enC a).setIfInBounds 12 (.int .i64 (a.o0.wt + 1)) = enC { a with o0 := { a.o0 with wt := a.o0.wt + 1 } } by unfold enC; rfl] at h)
      have HA4 := Lib.hid (HA.out.other HP.out.1 12 (.int .i64 (a.o0.wt + 1)))
      have HE4 := Lib.hid (EX.set HE.out HP.out.2 12 (.int .i64 (a.o0.wt + 1)))
      clear HB HA HE HI H100
      have xk : (W3.setCell ⟨pb, 12, none⟩ (.int .i64 (a.o0.wt + 1))).cell? ⟨pb, 4, none⟩ = some (.int .u8 (a.kd : Int)) := HB4.out.cell (by unfold enC; rfl)
      obtain ⟨kd, hkd⟩ : ∃ kd, a.kd = kd := ⟨_, rfl⟩
      rw [hkd] at xk
      go_upto_region 29 with fail
      generalize W3.setCell ⟨pb, 12, none⟩ (.int .i64 (a.o0.wt + 1)) = W4 at *
      clear xw fw e9
      have x6 : W4.cell? ⟨pb, 6, none⟩ = some (.bool a.tn) := HB4.out.cell (by unfold enC; rfl)
      have f6 := HB4.out.free 6
      have HB5 : Hid (Blk (W4.setCell ⟨pb, 6, none⟩ (.bool true)) pb 34 (enC { a with o0 := { a.o0 with wt := a.o0.wt + 1 }, tn := true })) := Lib.hid (by have h := HB4.out.set 6 (.bool true); rwa [show (enC { a with o0 := { a.o0 with wt := a.o0.wt + 1 } }).setIfInBounds 6 (.bool true) = enC { a with o0 := { a.o0 with wt := a.o0.wt + 1 }, tn := true } by unfold enC; rfl] at h)
      have HA5 := Lib.hid (HA4.out.other HP.out.1 6 (.bool true))
      have HE5 := Lib.hid (EX.set HE4.out HP.out.2 6 (.bool true))
      have HKD := Lib.hid hkd
      clear hkd
      by_cases h0 : kd = 0
      · have u0 : ((kd : Int) == 0) = true := by simp [h0]
        have HX : Hid (badE a n t 10 = { a with o0 := { a.o0 with wt := a.o0.wt + 1 }, tn := true }) := Lib.hid (by show ({ a with o0 := _, tn := a.tn || decide (a.kd = 0 ∨ a.kd = 4) } : En) = _; rw [HKD.out, decide_eq_true (by omega), Bool.or_true])
        clear h0
        go_wp2_with fail
        go_meet
        exact ⟨rfl, by rw [HX.out]; exact HB5, HA5, HE5⟩
      by_cases h4 : kd = 4
      · have u0 : ((kd : Int) == 0) = false := by simp [h0]
        have u4 : ((kd : Int) == 4) = true := by simp [h4]
        have HX : Hid (badE a n t 10 = { a with o0 := { a.o0 with wt := a.o0.wt + 1 }, tn := true }) := Lib.hid (by show ({ a with o0 := _, tn := a.tn || decide (a.kd = 0 ∨ a.kd = 4) } : En) = _; rw [HKD.out, decide_eq_true (by omega), Bool.or_true])
        clear h0 h4
        go_wp2_with fail
        go_meet
        exact ⟨rfl, by rw [HX.out]; exact HB5, HA5, HE5⟩
      · have u0 : ((kd : Int) == 0) = false := by rw [beq_eq_false_iff_ne]; omega
        have u4 : ((kd : Int) == 4) = false := by rw [beq_eq_false_iff_ne]; omega
        have HX : Hid (badE a n t 10 = { a with o0 := { a.o0 with wt := a.o0.wt + 1 } }) := Lib.hid (by show ({ a with o0 := _, tn := a.tn || decide (a.kd = 0 ∨ a.kd = 4) } : En) = _; rw [HKD.out, decide_eq_false (by omega), Bool.or_false])
        clear h0 h4
        go_wp2_with fail
        go_meet
        exact ⟨rfl, by rw [HX.out]; exact HB4, HA4, HE4⟩
    · as_aux_lemma =>
      obtain ⟨o, ho⟩ : ∃ o : Ou, ⟨8, 0, 0, 0, 0, 0⟩ = o := ⟨_, rfl⟩
      have HO : Hid ({ a with o0 := o } = badE a n t 11) := Lib.hid (by rw [← ho]; rfl)
      have st := put_o0 HB.out o
      have HB4 : Hid (Blk (W3.setCells pb 7 (ouL o)) pb 34 (enC (badE a n t 11))) := Lib.hid (by rw [← HO.out]; exact set_o0 HB.out o)
      have HA4 := Lib.hid (Blk.otherCells HP.out.1 (ouL o) 7 W3 HA.out)
      have HE4 := Lib.hid (EX.sets HE.out HP.out.2 (ouL o) 7)
      subst ho
      replace st : (Instr.storeAt 30 (.pointer (some ⟨pb, 7, none⟩)) (.agg #[.int .u8 8, .int .u8 0, .int .u8 0, .int .u8 0, .int .i64 0, .int .i64 0])).run Tryz.prog W3 = .ok () (W3.setCells pb 7 (ouL ⟨8, 0, 0, 0, 0, 0⟩)) := st
      clear HB HA HE HI H100
      go_wp2_with (refine op_store (p := .pointer (some ⟨pb, 7, none⟩)) (C := .agg #[.int .u8 8, .int .u8 0, .int .u8 0, .int .u8 0, .int .i64 0, .int .i64 0]) 30 (.tmp 116) (.tmp 114) rfl rfl rfl rfl rfl st ?_)
      go_meet
      exact ⟨rfl, HB4, HA4, HE4⟩
    · as_aux_lemma =>
      obtain ⟨o, ho⟩ : ∃ o : Ou, ⟨0, 0, 1, 0, 0, 0⟩ = o := ⟨_, rfl⟩
      have HO : Hid ({ a with o0 := o } = badE a n t 12) := Lib.hid (by rw [← ho]; rfl)
      have st := put_o0 HB.out o
      have HB4 : Hid (Blk (W3.setCells pb 7 (ouL o)) pb 34 (enC (badE a n t 12))) := Lib.hid (by rw [← HO.out]; exact set_o0 HB.out o)
      have HA4 := Lib.hid (Blk.otherCells HP.out.1 (ouL o) 7 W3 HA.out)
      have HE4 := Lib.hid (EX.sets HE.out HP.out.2 (ouL o) 7)
      subst ho
      replace st : (Instr.storeAt 30 (.pointer (some ⟨pb, 7, none⟩)) (.agg #[.int .u8 0, .int .u8 0, .int .u8 1, .int .u8 0, .int .i64 0, .int .i64 0])).run Tryz.prog W3 = .ok () (W3.setCells pb 7 (ouL ⟨0, 0, 1, 0, 0, 0⟩)) := st
      clear HB HA HE HI H100
      go_wp2_with (refine op_store (p := .pointer (some ⟨pb, 7, none⟩)) (C := .agg #[.int .u8 0, .int .u8 0, .int .u8 1, .int .u8 0, .int .i64 0, .int .i64 0]) 30 (.tmp 122) (.tmp 120) rfl rfl rfl rfl rfl st ?_)
      go_meet
      exact ⟨rfl, HB4, HA4, HE4⟩
    · as_aux_lemma =>
      have xw : W3.cell? ⟨pb, 12, none⟩ = some (.int .i64 a.o0.wt) := HB.out.cell (by unfold enC; rfl)
      go_wp2_with fail
      refine (won_any _ _ W3).mono ?_
      rintro r W4 ⟨rfl, hb⟩
      replace HB := Lib.hid (HB.out.keep hb HB.out.lt)
      replace HA := Lib.hid (HA.out.keep hb HA.out.lt)
      replace HE := Lib.hid (HE.out.keep hb)
      clear xw hb
      obtain ⟨o, ho⟩ : ∃ o : Ou, (wonO (max n 14) a.o0.wt) = o := ⟨_, rfl⟩
      have HO : Hid ({ a with o0 := o } = badE a n t 13) := Lib.hid (by rw [← ho]; rfl)
      have st := put_o0 HB.out o
      have HB4 : Hid (Blk (W4.setCells pb 7 (ouL o)) pb 34 (enC (badE a n t 13))) := Lib.hid (by rw [← HO.out]; exact set_o0 HB.out o)
      have HA4 := Lib.hid (Blk.otherCells HP.out.1 (ouL o) 7 W4 HA.out)
      have HE4 := Lib.hid (EX.sets HE.out HP.out.2 (ouL o) 7)
      rw [ho]
      replace st : (Instr.storeAt 30 (.pointer (some ⟨pb, 7, none⟩)) (ouV o)).run Tryz.prog W4 = .ok () (W4.setCells pb 7 (ouL o)) := st
      clear ho
      clear HB HA HE HI H100
      go_wp2_with (refine op_store (p := .pointer (some ⟨pb, 7, none⟩)) (C := ouV o) 30 (.tmp 34) (.tmp 32) rfl rfl rfl rfl rfl st ?_)
      go_meet
      exact ⟨rfl, HB4, HA4, HE4⟩
  case rest =>
    obtain ⟨rfl, HB4, HA4, HE4⟩ := hcut
    clear HB HA HE H100 hand r1 r2 r3
    have hm14b := hm14
    obtain ⟨S, k, hTV, hk⟩ := text_ex (badE a n t m) m hm14 HRT.out
    have TB := Lib.hid (fun W (h : Env W) => text_any (badE a n t m) HBI.out W h)
    rw [hTV] at TB
    have CA := Lib.hid (fun u W (h : WS W u seRows) => check_any 3 2 3 1 2 2 seRows a (by decide) HI.out u W h)
    rw [CKA.out] at CA
    have CB := Lib.hid (fun u W (h : WS W u seRows) => check_any 3 2 3 1 2 2 seRows (badE a n t m) (by decide) HBI.out u W h)
    rw [HCK.out] at CB
    obtain ⟨c, hc⟩ : ∃ c, wantM m = c := ⟨_, rfl⟩
    obtain ⟨b, hb⟩ : ∃ b, badE a n t m = b := ⟨_, rfl⟩
    rw [hc] at hk CB ⊢
    rw [hb] at HB4 TB CB
    have cc : (c != c) = false := by simp
    obtain ⟨q, hq⟩ : ∃ q, (c == 313) = q := ⟨_, rfl⟩
    rw [hq] at hk
    have qq : (q != q) = false := by simp
    clear hTV hc hb hm14 hm14b HBI HCK HRT CKA
    have lb := loadAt_blk (T := 34) HB4.out Tryz.underlying34 rfl (by rw [enC_size]; kernel_rfl)
    go_wp2_with (refine op_load (p := .pointer (some ⟨pb, 0, none⟩)) (C := .agg (enC b)) 34 (.tmp 8) rfl rfl rfl lb ?_)
    refine (TB.out _ HE4.out.env).mono ?_
    rintro r w4 ⟨rfl, hb4⟩
    have HA5 := Lib.hid (HA4.out.keep hb4 HA4.out.lt)
    have HB5 := Lib.hid (HB4.out.keep hb4 HB4.out.lt)
    have HE5 := Lib.hid (HE4.out.keep hb4)
    clear lb HA4 HB4 HE4 hb4 TB
    clear wc
    go_upto_region 36 with fail
    have HA6 : Hid (Blk w4.drew pg 34 (enC a)) := HA5
    have HB6 : Hid (Blk w4.drew pb 34 (enC b)) := HB5
    have HE6 := Lib.hid (HE5.out.keep (Below.refl _ w4).drew)
    refine rest_begin (by kernel_rfl) ?_
    obtain ⟨W0, hW0⟩ : ∃ W0, w4.drew = W0 := ⟨_, rfl⟩
    rw [hW0] at HA6 HB6 HE6 ⊢
    clear hW0 HA5 HB5 HE5
    clear w4
    refine rest_flow3 [some 128, some 129, some 130, some 131, some 132, some 133, some 134, some 135, some 136, some 137, some 138, some 139, some 140, some 141, some 142, some 143, some 144] [⟨fun v w => ∃ x, v = .agg (snC 3 2 3 1 2 x 2) ∧ WS w x seRows, fun _ _ _ ⟨x, h1, h2⟩ hb => ⟨x, h1, h2.keep hb⟩⟩, Sp.is (.agg (enC a)), Sp.is (.int .i64 0), Sp.is (.bool false), Sp.is (.bool false), ⟨fun v w => ∃ x, v = .agg (snC 3 2 3 1 2 x 2) ∧ WS w x seRows, fun _ _ _ ⟨x, h1, h2⟩ hb => ⟨x, h1, h2.keep hb⟩⟩, Sp.is (.agg (enC b)), Sp.is (.int .i64 c), Sp.is (.int .i64 c), Sp.is (.bool false), Sp.is (.bool false), Sp.is (.bool false), Sp.is (.int .i64 k), Sp.is (.bool q), Sp.is (.int .i64 c), Sp.is (.bool q), Sp.is (.bool false)] [false, false, false, false, false, false, false, false, false, false, false, false, false, false, false, false, false] 17 (by kernel_rfl) (by kernel_rfl) (fun u F hF => ?_) (fun u w' hbF hsF hold hap => ?_)
    case refine_1 =>
      have E7 : F.eval (.tmp 7) = (.pointer (some ⟨pg, 0, none⟩)) := (congrArg (fun a => Act.eval a (.tmp 7)) hF).trans (eval_out [some 128, some 129, some 130, some 131, some 132, some 133, some 134, some 135, some 136, some 137, some 138, some 139, some 140, some 141, some 142, some 143, some 144] 0 _ (by decide))
      have D129 : F.eval (.tmp 129) = u 1 := (congrArg (fun a => Act.eval a (.tmp 129)) hF).trans (eval_in [some 128, some 129, some 130, some 131, some 132, some 133, some 134, some 135, some 136, some 137, some 138, some 139, some 140, some 141, some 142, some 143, some 144] 0 1 _ (by decide) (by omega) rfl (of_decide_eq_true (by kernel_rfl)))
      have D128 : F.eval (.tmp 128) = u 0 := (congrArg (fun a => Act.eval a (.tmp 128)) hF).trans (eval_in [some 128, some 129, some 130, some 131, some 132, some 133, some 134, some 135, some 136, some 137, some 138, some 139, some 140, some 141, some 142, some 143, some 144] 0 0 _ (by decide) (by omega) rfl (of_decide_eq_true (by kernel_rfl)))
      have D130 : F.eval (.tmp 130) = u 2 := (congrArg (fun a => Act.eval a (.tmp 130)) hF).trans (eval_in [some 128, some 129, some 130, some 131, some 132, some 133, some 134, some 135, some 136, some 137, some 138, some 139, some 140, some 141, some 142, some 143, some 144] 0 2 _ (by decide) (by omega) rfl (of_decide_eq_true (by kernel_rfl)))
      have D131 : F.eval (.tmp 131) = u 3 := (congrArg (fun a => Act.eval a (.tmp 131)) hF).trans (eval_in [some 128, some 129, some 130, some 131, some 132, some 133, some 134, some 135, some 136, some 137, some 138, some 139, some 140, some 141, some 142, some 143, some 144] 0 3 _ (by decide) (by omega) rfl (of_decide_eq_true (by kernel_rfl)))
      have D132 : F.eval (.tmp 132) = u 4 := (congrArg (fun a => Act.eval a (.tmp 132)) hF).trans (eval_in [some 128, some 129, some 130, some 131, some 132, some 133, some 134, some 135, some 136, some 137, some 138, some 139, some 140, some 141, some 142, some 143, some 144] 0 4 _ (by decide) (by omega) rfl (of_decide_eq_true (by kernel_rfl)))
      have E8 : F.eval (.tmp 8) = (.pointer (some ⟨pb, 0, none⟩)) := (congrArg (fun a => Act.eval a (.tmp 8)) hF).trans (eval_out [some 128, some 129, some 130, some 131, some 132, some 133, some 134, some 135, some 136, some 137, some 138, some 139, some 140, some 141, some 142, some 143, some 144] 0 _ (by decide))
      have D134 : F.eval (.tmp 134) = u 6 := (congrArg (fun a => Act.eval a (.tmp 134)) hF).trans (eval_in [some 128, some 129, some 130, some 131, some 132, some 133, some 134, some 135, some 136, some 137, some 138, some 139, some 140, some 141, some 142, some 143, some 144] 0 6 _ (by decide) (by omega) rfl (of_decide_eq_true (by kernel_rfl)))
      have D133 : F.eval (.tmp 133) = u 5 := (congrArg (fun a => Act.eval a (.tmp 133)) hF).trans (eval_in [some 128, some 129, some 130, some 131, some 132, some 133, some 134, some 135, some 136, some 137, some 138, some 139, some 140, some 141, some 142, some 143, some 144] 0 5 _ (by decide) (by omega) rfl (of_decide_eq_true (by kernel_rfl)))
      have E9 : F.eval (.tmp 9) = (.int .i64 c) := (congrArg (fun a => Act.eval a (.tmp 9)) hF).trans (eval_out [some 128, some 129, some 130, some 131, some 132, some 133, some 134, some 135, some 136, some 137, some 138, some 139, some 140, some 141, some 142, some 143, some 144] 0 _ (by decide))
      have D135 : F.eval (.tmp 135) = u 7 := (congrArg (fun a => Act.eval a (.tmp 135)) hF).trans (eval_in [some 128, some 129, some 130, some 131, some 132, some 133, some 134, some 135, some 136, some 137, some 138, some 139, some 140, some 141, some 142, some 143, some 144] 0 7 _ (by decide) (by omega) rfl (of_decide_eq_true (by kernel_rfl)))
      have D136 : F.eval (.tmp 136) = u 8 := (congrArg (fun a => Act.eval a (.tmp 136)) hF).trans (eval_in [some 128, some 129, some 130, some 131, some 132, some 133, some 134, some 135, some 136, some 137, some 138, some 139, some 140, some 141, some 142, some 143, some 144] 0 8 _ (by decide) (by omega) rfl (of_decide_eq_true (by kernel_rfl)))
      have D137 : F.eval (.tmp 137) = u 9 := (congrArg (fun a => Act.eval a (.tmp 137)) hF).trans (eval_in [some 128, some 129, some 130, some 131, some 132, some 133, some 134, some 135, some 136, some 137, some 138, some 139, some 140, some 141, some 142, some 143, some 144] 0 9 _ (by decide) (by omega) rfl (of_decide_eq_true (by kernel_rfl)))
      have D138 : F.eval (.tmp 138) = u 10 := (congrArg (fun a => Act.eval a (.tmp 138)) hF).trans (eval_in [some 128, some 129, some 130, some 131, some 132, some 133, some 134, some 135, some 136, some 137, some 138, some 139, some 140, some 141, some 142, some 143, some 144] 0 10 _ (by decide) (by omega) rfl (of_decide_eq_true (by kernel_rfl)))
      have E11 : F.eval (.tmp 11) = (.int .i64 k) := (congrArg (fun a => Act.eval a (.tmp 11)) hF).trans (eval_out [some 128, some 129, some 130, some 131, some 132, some 133, some 134, some 135, some 136, some 137, some 138, some 139, some 140, some 141, some 142, some 143, some 144] 0 _ (by decide))
      have D139 : F.eval (.tmp 139) = u 11 := (congrArg (fun a => Act.eval a (.tmp 139)) hF).trans (eval_in [some 128, some 129, some 130, some 131, some 132, some 133, some 134, some 135, some 136, some 137, some 138, some 139, some 140, some 141, some 142, some 143, some 144] 0 11 _ (by decide) (by omega) rfl (of_decide_eq_true (by kernel_rfl)))
      have D140 : F.eval (.tmp 140) = u 12 := (congrArg (fun a => Act.eval a (.tmp 140)) hF).trans (eval_in [some 128, some 129, some 130, some 131, some 132, some 133, some 134, some 135, some 136, some 137, some 138, some 139, some 140, some 141, some 142, some 143, some 144] 0 12 _ (by decide) (by omega) rfl (of_decide_eq_true (by kernel_rfl)))
      have D142 : F.eval (.tmp 142) = u 14 := (congrArg (fun a => Act.eval a (.tmp 142)) hF).trans (eval_in [some 128, some 129, some 130, some 131, some 132, some 133, some 134, some 135, some 136, some 137, some 138, some 139, some 140, some 141, some 142, some 143, some 144] 0 14 _ (by decide) (by omega) rfl (of_decide_eq_true (by kernel_rfl)))
      have D141 : F.eval (.tmp 141) = u 13 := (congrArg (fun a => Act.eval a (.tmp 141)) hF).trans (eval_in [some 128, some 129, some 130, some 131, some 132, some 133, some 134, some 135, some 136, some 137, some 138, some 139, some 140, some 141, some 142, some 143, some 144] 0 13 _ (by decide) (by omega) rfl (of_decide_eq_true (by kernel_rfl)))
      have D143 : F.eval (.tmp 143) = u 15 := (congrArg (fun a => Act.eval a (.tmp 143)) hF).trans (eval_in [some 128, some 129, some 130, some 131, some 132, some 133, some 134, some 135, some 136, some 137, some 138, some 139, some 140, some 141, some 142, some 143, some 144] 0 15 _ (by decide) (by omega) rfl (of_decide_eq_true (by kernel_rfl)))
      clear hF
      refine ⟨?_, ?_, ?_, ?_, ?_, ?_, ?_, ?_, ?_, ?_, ?_, ?_, ?_, ?_, ?_, ?_, ?_, trivial⟩
      · intro w1 hb hd K hK
        refine op_call (R := fun v w2 => (∃ x, v = .agg (snC 3 2 3 1 2 x 2) ∧ WS w2 x seRows) ∧ Below w1.heap.size w1 w2) (f := 29) (args := #[]) rfl (by simp only [execOp]; go_simp) ((session_any w1).mono fun e w2 hh => by obtain ⟨v, h1, h2, h3⟩ := hh; exact ⟨_, h1, ⟨v, rfl, h2⟩, h3⟩) (fun v w2 hh => hK _ _ hh.1 hh.2 (Fresh.no _ _ _))
      · intro w1 hb hd K hK
        have e7 := E7
        exact op_val (v := (.agg (enC a))) rfl (exec_load rfl e7 (loadAt_blk (HA6.out.keep hb HA6.out.lt) Tryz.underlying34 rfl (by rw [enC_size]; kernel_rfl))) (hK _ _ (show _ = _ from rfl) (Below.refl _ _) (Fresh.no _ _ _))
      · intro w1 hb hd K hK
        have e129 := D129.trans (show u 1 = (.agg (enC a)) from hd ⟨1, .data⟩ (by simp) rfl (by omega))
        obtain ⟨x, e0, hw⟩ := (show ∃ x, u 0 = .agg (snC 3 2 3 1 2 x 2) ∧ WS w1 x seRows from hd ⟨0, .data⟩ (by simp) rfl (by omega))
        have e128 := D128.trans e0
        refine op_call (R := fun v w2 => v = (.int .i64 0) ∧ Below w1.heap.size w1 w2) (f := 28) (args := #[.agg (snC 3 2 3 1 2 x 2), .agg (enC a)]) rfl (by simp only [execOp]; go_simp; exact ⟨eval_get e128, eval_get e129⟩) ((CA.out x w1 hw).mono fun e w2 hh => ⟨_, hh.1, rfl, hh.2⟩) (fun v w2 hh => hK _ _ hh.1 hh.2 (Fresh.no _ _ _))
      · intro w1 hb hd K hK
        have e130 := D130.trans (show u 2 = (.int .i64 0) from hd ⟨2, .data⟩ (by simp) rfl (by omega))
        exact op_val (v := (.bool false)) rfl (by simp only [execOp, List.map_toArray, List.map_cons, List.map_nil, e130]; go_simp) (hK _ _ (show _ = _ from rfl) (Below.refl _ _) (Fresh.no _ _ _))
      · intro w1 hb hd K hK
        have e131 := D131.trans (show u 3 = (.bool false) from hd ⟨3, .data⟩ (by simp) rfl (by omega))
        exact op_val (v := (.bool false)) rfl (by simp only [execOp, List.map_toArray, List.map_cons, List.map_nil, e131]; go_simp) (hK _ _ (show _ = _ from rfl) (Below.refl _ _) (Fresh.no _ _ _))
      · intro w1 hb hd K hK
        have g := D132.trans (show u 4 = .bool false from hd ⟨4, .guard⟩ (by simp) rfl (by omega))
        refine op_call_w (R := fun v w2 => (∃ x, v = .agg (snC 3 2 3 1 2 x 2) ∧ WS w2 x seRows) ∧ Below w1.heap.size w1 w2) (f := 29) (args := #[]) (wanted_of (j := 4) (s := 132) (b := false) (by kernel_rfl) (by kernel_rfl) g) (by simp only [execOp]; go_simp) ((session_any w1).mono fun e w2 hh => by obtain ⟨v, h1, h2, h3⟩ := hh; exact ⟨_, h1, ⟨v, rfl, h2⟩, h3⟩) (fun v w2 hh => hK _ _ hh.1 hh.2 (Fresh.no _ _ _))
      · intro w1 hb hd K hK
        have e8 := E8
        have g := D132.trans (show u 4 = .bool false from hd ⟨4, .guard⟩ (by simp) rfl (by omega))
        exact op_val_w (v := (.agg (enC b))) (wanted_of (j := 4) (s := 132) (b := false) (by kernel_rfl) (by kernel_rfl) g) (exec_load rfl e8 (loadAt_blk (HB6.out.keep hb HB6.out.lt) Tryz.underlying34 rfl (by rw [enC_size]; kernel_rfl))) (hK _ _ (show _ = _ from rfl) (Below.refl _ _) (Fresh.no _ _ _))
      · intro w1 hb hd K hK
        have e134 := D134.trans (show u 6 = (.agg (enC b)) from hd ⟨6, .data⟩ (by simp) rfl (by omega))
        have g := D132.trans (show u 4 = .bool false from hd ⟨4, .guard⟩ (by simp) rfl (by omega))
        obtain ⟨x, e0, hw⟩ := (show ∃ x, u 5 = .agg (snC 3 2 3 1 2 x 2) ∧ WS w1 x seRows from hd ⟨5, .data⟩ (by simp) rfl (by omega))
        have e133 := D133.trans e0
        refine op_call_w (R := fun v w2 => v = (.int .i64 c) ∧ Below w1.heap.size w1 w2) (f := 28) (args := #[.agg (snC 3 2 3 1 2 x 2), .agg (enC b)]) (wanted_of (j := 4) (s := 132) (b := false) (by kernel_rfl) (by kernel_rfl) g) (by simp only [execOp]; go_simp; exact ⟨eval_get e133, eval_get e134⟩) ((CB.out x w1 hw).mono fun e w2 hh => ⟨_, hh.1, rfl, hh.2⟩) (fun v w2 hh => hK _ _ hh.1 hh.2 (Fresh.no _ _ _))
      · intro w1 hb hd K hK
        have e9 := E9
        have g := D132.trans (show u 4 = .bool false from hd ⟨4, .guard⟩ (by simp) rfl (by omega))
        exact op_val_w (v := (.int .i64 c)) (wanted_of (j := 4) (s := 132) (b := false) (by kernel_rfl) (by kernel_rfl) g) (by simp only [execOp, List.map_toArray, List.map_cons, List.map_nil, e9]; go_simp) (hK _ _ (show _ = _ from rfl) (Below.refl _ _) (Fresh.no _ _ _))
      · intro w1 hb hd K hK
        have e135 := D135.trans (show u 7 = (.int .i64 c) from hd ⟨7, .data⟩ (by simp) rfl (by omega))
        have e136 := D136.trans (show u 8 = (.int .i64 c) from hd ⟨8, .data⟩ (by simp) rfl (by omega))
        have g := D132.trans (show u 4 = .bool false from hd ⟨4, .guard⟩ (by simp) rfl (by omega))
        exact op_val_w (v := (.bool false)) (wanted_of (j := 4) (s := 132) (b := false) (by kernel_rfl) (by kernel_rfl) g) (by simp only [execOp, List.map_toArray, List.map_cons, List.map_nil, e135, e136]; go_simp) (hK _ _ (show _ = _ from rfl) (Below.refl _ _) (Fresh.no _ _ _))
      · intro w1 hb hd K hK
        have e132 := D132.trans (show u 4 = (.bool false) from hd ⟨4, .data⟩ (by simp) rfl (by omega))
        have e137 := D137.trans (show u 9 = (.bool false) from hd ⟨9, .data⟩ (by simp) rfl (by omega))
        exact op_val (v := (.bool false)) rfl (by simp only [execOp, List.map_toArray, List.map_cons, List.map_nil, e132, e137]; go_simp) (hK _ _ (show _ = _ from rfl) (Below.refl _ _) (Fresh.no _ _ _))
      · intro w1 hb hd K hK
        have e138 := D138.trans (show u 10 = (.bool false) from hd ⟨10, .data⟩ (by simp) rfl (by omega))
        exact op_val (v := (.bool false)) rfl (by simp only [execOp, List.map_toArray, List.map_cons, List.map_nil, e138]; go_simp) (hK _ _ (show _ = _ from rfl) (Below.refl _ _) (Fresh.no _ _ _))
      · intro w1 hb hd K hK
        have e11 := E11
        have g := D139.trans (show u 11 = .bool false from hd ⟨11, .guard⟩ (by simp) rfl (by omega))
        exact op_val_w (v := (.int .i64 k)) (wanted_of (j := 11) (s := 139) (b := false) (by kernel_rfl) (by kernel_rfl) g) (by simp only [execOp, List.map_toArray, List.map_cons, List.map_nil, e11]; go_simp) (hK _ _ (show _ = _ from rfl) (Below.refl _ _) (Fresh.no _ _ _))
      · intro w1 hb hd K hK
        have e140 := D140.trans (show u 12 = (.int .i64 k) from hd ⟨12, .data⟩ (by simp) rfl (by omega))
        have g := D139.trans (show u 11 = .bool false from hd ⟨11, .guard⟩ (by simp) rfl (by omega))
        exact op_val_w (v := (.bool q)) (wanted_of (j := 11) (s := 139) (b := false) (by kernel_rfl) (by kernel_rfl) g) (by simp only [execOp, List.map_toArray, List.map_cons, List.map_nil, e140]; go_simp) (hK _ _ (show _ = _ from rfl) (Below.refl _ _) (Fresh.no _ _ _))
      · intro w1 hb hd K hK
        have e9 := E9
        have g := D139.trans (show u 11 = .bool false from hd ⟨11, .guard⟩ (by simp) rfl (by omega))
        exact op_val_w (v := (.int .i64 c)) (wanted_of (j := 11) (s := 139) (b := false) (by kernel_rfl) (by kernel_rfl) g) (by simp only [execOp, List.map_toArray, List.map_cons, List.map_nil, e9]; go_simp) (hK _ _ (show _ = _ from rfl) (Below.refl _ _) (Fresh.no _ _ _))
      · intro w1 hb hd K hK
        have e142 := D142.trans (show u 14 = (.int .i64 c) from hd ⟨14, .data⟩ (by simp) rfl (by omega))
        have g := D139.trans (show u 11 = .bool false from hd ⟨11, .guard⟩ (by simp) rfl (by omega))
        exact op_val_w (v := (.bool q)) (wanted_of (j := 11) (s := 139) (b := false) (by kernel_rfl) (by kernel_rfl) g) (by simp only [execOp, List.map_toArray, List.map_cons, List.map_nil, e142]; go_simp) (hK _ _ (show _ = _ from rfl) (Below.refl _ _) (Fresh.no _ _ _))
      · intro w1 hb hd K hK
        have e141 := D141.trans (show u 13 = (.bool q) from hd ⟨13, .data⟩ (by simp) rfl (by omega))
        have e143 := D143.trans (show u 15 = (.bool q) from hd ⟨15, .data⟩ (by simp) rfl (by omega))
        have g := D139.trans (show u 11 = .bool false from hd ⟨11, .guard⟩ (by simp) rfl (by omega))
        exact op_val_w (v := (.bool false)) (wanted_of (j := 11) (s := 139) (b := false) (by kernel_rfl) (by kernel_rfl) g) (by simp only [execOp, List.map_toArray, List.map_cons, List.map_nil, e141, e143]; go_simp) (hK _ _ (show _ = _ from rfl) (Below.refl _ _) (Fresh.no _ _ _))
    obtain ⟨x128, hv128, -⟩ := (show ∃ x, u 0 = .agg (snC 3 2 3 1 2 x 2) ∧ WS w' x seRows from hsF 0 (by omega) (by omega))
    have hv129 : u 1 = (.agg (enC a)) := (show u 1 = _ from hsF 1 (by omega) (by omega))
    have hv130 : u 2 = (.int .i64 0) := (show u 2 = _ from hsF 2 (by omega) (by omega))
    have hv131 : u 3 = (.bool false) := (show u 3 = _ from hsF 3 (by omega) (by omega))
    have hv132 : u 4 = (.bool false) := (show u 4 = _ from hsF 4 (by omega) (by omega))
    obtain ⟨x133, hv133, -⟩ := (show ∃ x, u 5 = .agg (snC 3 2 3 1 2 x 2) ∧ WS w' x seRows from hsF 5 (by omega) (by omega))
    have hv134 : u 6 = (.agg (enC b)) := (show u 6 = _ from hsF 6 (by omega) (by omega))
    have hv135 : u 7 = (.int .i64 c) := (show u 7 = _ from hsF 7 (by omega) (by omega))
    have hv136 : u 8 = (.int .i64 c) := (show u 8 = _ from hsF 8 (by omega) (by omega))
    have hv137 : u 9 = (.bool false) := (show u 9 = _ from hsF 9 (by omega) (by omega))
    have hv138 : u 10 = (.bool false) := (show u 10 = _ from hsF 10 (by omega) (by omega))
    have hv139 : u 11 = (.bool false) := (show u 11 = _ from hsF 11 (by omega) (by omega))
    have hv140 : u 12 = (.int .i64 k) := (show u 12 = _ from hsF 12 (by omega) (by omega))
    have hv141 : u 13 = (.bool q) := (show u 13 = _ from hsF 13 (by omega) (by omega))
    have hv142 : u 14 = (.int .i64 c) := (show u 14 = _ from hsF 14 (by omega) (by omega))
    have hv143 : u 15 = (.bool q) := (show u 15 = _ from hsF 15 (by omega) (by omega))
    have hv144 : u 16 = (.bool false) := (show u 16 = _ from hsF 16 (by omega) (by omega))
    simp only [putRow, hv128, hv129, hv130, hv131, hv132, hv133, hv134, hv135, hv136, hv137, hv138, hv139, hv140, hv141, hv142, hv143, hv144, Act.put, List.setIfInBounds_toArray, List.set_cons_succ, List.set_cons_zero]
    clear hsF hold hap hv128 hv129 hv130 hv131 hv132 hv133 hv134 hv135 hv136 hv137 hv138 hv139 hv140 hv141 hv142 hv143 hv144
    have HA7 := Lib.hid (HA6.out.keep hbF HA6.out.lt)
    have HE7 := Lib.hid (HE6.out.keep hbF)
    clear HA6 HB6 HE6 hbF CA CB cc qq hk hq
    clear W0
    refine rest_forced 1 (by kernel_rfl) ?_
    simp only [List.drop_succ_cons, List.drop_zero, List.take_succ_cons, List.take_zero]
    go_wp2_with fail
    refine rest_done rfl ?_
    have la := loadAt_blk (T := 34) HA7.out Tryz.underlying34 rfl (by rw [enC_size]; kernel_rfl)
    go_upto_region 39 with (first
      | (refine op_load (p := .pointer (some ⟨pg, 0, none⟩)) (C := .agg (enC a)) 34 (.tmp 7) rfl rfl rfl la ?_)
      | (refine op_bsl 40 34 2 _ (flat enC [a, a]).toArray rfl rfl (by kernel_rfl) ?_))
    have HE8 := Lib.hid (HE7.out.keep (below1 w' (.cells (flat enC [a, a]).toArray 34)))
    have HS8 : Hid (ES (w'.alloc (.cells (flat enC [a, a]).toArray 34)) (.slice (some ⟨w'.heap.size, 0, none⟩) 2 2) [a, a]) := Lib.hid (EB.ls (T := []) (M := [a, a]) (c := 2) (by
      show Blk _ _ _ _
      rw [List.append_nil]
      exact Blk.new w' 34 (flat enC [a, a]).toArray) (Nat.le_refl _))
    clear la HA7 HE7
    generalize w'.alloc (.cells (flat enC [a, a]).toArray 34) = w8 at *
    obtain ⟨p8, hp8⟩ : ∃ p8, w'.heap.size = p8 := ⟨_, rfl⟩
    rw [hp8] at HS8 ⊢
    clear hp8
    clear w'
    have ALLIN : ∀ e ∈ [a, a], e.In := fun e he => by
      have : e = a := by simpa using he
      rw [this]; exact HI.out
    have AIN := Lib.hid ALLIN
    clear ALLIN
    go_upto_region 39 with fail
    have HL8 : Hid (LLS (w8.alloc (.cells #[.slice none 0 0, .slice (some ⟨p8, 0, none⟩) 2 2] 40)) (.slice (some ⟨w8.heap.size, 0, none⟩) 2 2) [[], [a, a]]) := Lib.hid (LLS.new w8 [.slice none 0 0, .slice (some ⟨p8, 0, none⟩) 2 2] [[], [a, a]] rfl (fun i v l hv hl => by
      match i, hv, hl with
      | 0, hv, hl => cases hv; cases hl; exact .none_
      | 1, hv, hl => cases hv; cases hl; exact HS8.out
      | i + 2, hv, hl => simp at hl))
    have HE9 := Lib.hid (HE8.out.keep (below1 w8 (.cells #[.slice none 0 0, .slice (some ⟨p8, 0, none⟩) 2 2] 40)))
    have HS9 := Lib.hid (HS8.out.keep (below1 w8 (.cells #[.slice none 0 0, .slice (some ⟨p8, 0, none⟩) 2 2] 40)))
    clear HE8 HS8
    go_wp2_with fail
    refine (merge_any [[], [a, a]] (fun l hl e he => by
      rcases List.mem_cons.1 hl with rfl | hl
      · cases he
      · obtain rfl : l = [a, a] := by simpa using hl
        exact AIN.out e he) (by show 2 ≤ 900000; omega) (by show 2 ≤ 1000000; omega) _ _ HL8.out).mono ?_
    rintro r w9 ⟨u9, rfl, hu9, hb9⟩
    have HE10 := Lib.hid (HE9.out.keep hb9)
    have HS10 := Lib.hid (HS9.out.keep hb9)
    have hc9 := merg_twice a
    generalize mergC [[], [a, a]] = mc at *
    subst hc9
    clear HE9 HS9 hb9 HL8
    have hu9c := hu9.one
    clear hu9
    go_wp2_with fail
    refine (counting_any [a, a] AIN.out (by show 2 ≤ 1000000; omega) _ _ HS10.out).mono ?_
    rw [twice_no]
    rintro r w10 ⟨u10, rfl, -, hb10⟩
    have HE11 := Lib.hid (HE10.out.keep hb10)
    have HS11 := Lib.hid (HS10.out.keep hb10)
    clear HE10 HS10 hb10
    go_wp2_with fail
    refine (versions_any [a, a] AIN.out (by show 2 ≤ 1000000; omega) 0 0 1 _ _ HS11.out).mono ?_
    rw [twice_no]
    rintro r w11 ⟨u11, rfl, -, hb11⟩
    have HE12 := Lib.hid (HE11.out.keep hb11)
    have HS12 := Lib.hid (HS11.out.keep hb11)
    clear HE11 HS11 hb11
    go_wp2_with fail
    refine (set_any [a, a] AIN.out (by show 2 ≤ 1000000; omega) _ _ HS12.out).mono ?_
    rw [twice_set]
    rintro r w12 ⟨u12, rfl, hu12, hb12⟩
    obtain ⟨A12, c12, rfl, -⟩ := hu12.es.len
    have HE13 := Lib.hid (HE12.out.keep hb12)
    clear HE12 HS12 hb12 hu12
    go_wp2_with fail
    go_ret
    exact ⟨rfl, HE13.out.below⟩
end Go.Proofs.YtpkmibmombpjpaaGreatDoor
