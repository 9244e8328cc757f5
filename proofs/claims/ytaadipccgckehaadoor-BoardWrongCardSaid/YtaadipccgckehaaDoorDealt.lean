/- The contract of Dealt: four hands made of an order of the cards. -/
import Derived.Test.YtaadipccgckehaaDoorMadeP
import Derived.Test.YtaadipccgckehaaDoorProg
import Derived.Test.YtaadipccgckehaaDoorBlk
import Derived.Test.YtaadipccgckehaaDoorKit
import Derived.Lib.Hide
import Derived.BigRegion
import Derived.BigQuiet
import Derived.Deep.QuietTactic
import Derived.Laws.Rows
import Derived.ChangeKeysEq
import Derived.WalkLawsBesides
namespace Go.Proofs.YtaadipccgckehaaDoor
open Go.RowKit

/-- A number as the array's cell. -/
def encI (n : Nat) : Value := .int .i64 n
def zero4 : Array Value := #[.int .u64 0, .int .u64 0, .int .u64 0, .int .u64 0]
def initTo (k : Nat) : Array Nat := (List.range k ++ List.replicate (52 - k) 0).toArray
theorem init_0 : (initTo 0).map encI = #[.int .i64 0, .int .i64 0, .int .i64 0, .int .i64 0, .int .i64 0, .int .i64 0, .int .i64 0, .int .i64 0, .int .i64 0, .int .i64 0, .int .i64 0, .int .i64 0, .int .i64 0, .int .i64 0, .int .i64 0, .int .i64 0, .int .i64 0, .int .i64 0, .int .i64 0, .int .i64 0, .int .i64 0, .int .i64 0, .int .i64 0, .int .i64 0, .int .i64 0, .int .i64 0, .int .i64 0, .int .i64 0, .int .i64 0, .int .i64 0, .int .i64 0, .int .i64 0, .int .i64 0, .int .i64 0, .int .i64 0, .int .i64 0, .int .i64 0, .int .i64 0, .int .i64 0, .int .i64 0, .int .i64 0, .int .i64 0, .int .i64 0, .int .i64 0, .int .i64 0, .int .i64 0, .int .i64 0, .int .i64 0, .int .i64 0, .int .i64 0, .int .i64 0, .int .i64 0] := by kernel_rfl
theorem init_get (k : Nat) (hk : k < 52) : ((initTo k).map encI)[k]? = some (.int .i64 0) := by
  simp [initTo, show 0 < 52 - k by omega, encI]
theorem init_set (k : Nat) (hk : k < 52) : ((initTo k).map encI).setIfInBounds k (encI k) = (initTo (k + 1)).map encI := by
  have e : initTo (k + 1) = (initTo k).setIfInBounds k k := by
    unfold initTo
    obtain ⟨n, hn⟩ : ∃ n, 52 - k = n + 1 := ⟨51 - k, by omega⟩
    rw [hn, show 52 - (k + 1) = n by omega, List.range_succ, List.setIfInBounds_toArray, List.set_append_right _ _ (by simp)]
    simp [List.replicate_succ]
  rw [e, Array.map_setIfInBounds]
theorem init_52 : (initTo 52).toList.Perm (List.range 52) := by
  have : (initTo 52).toList = List.range 52 := by simp [initTo]
  rw [this]
theorem swap_is (d : Array Nat) (k j x y : Nat) (hk : k < d.size) (hj : j < d.size) (hx : d[k]? = some x) (hy : d[j]? = some y) : (d.setIfInBounds k y).setIfInBounds j x = d.swap k j hk hj := by
  have ex : d[k] = x := by simpa [Array.getElem?_eq_getElem hk] using hx
  have ey : d[j] = y := by simpa [Array.getElem?_eq_getElem hj] using hy
  subst ex ey
  rw [Array.swap_def]
  simp [Array.setIfInBounds, hk, hj]
theorem run_index_row5 {P : Program} (w : World) (t e : TypeId) (n : Nat) (cs : Array Value) (k : IntKind) (i : Nat) (v : Value) (h : P.underlying t = some (.array n e)) (he : P.plainKey e = true)
    (hs : (sizeOf e).run P w = .ok 1 w) (hi : i < n) (hv : cs[i]? = some v) : (Instr.index t (.agg cs) (.int k (i : Int))).run P w = .ok v w := by
  simp [Instr.index, run_underlying h, asIntOf, hi, hs, run_part_plain _ he hv]
/-- The four hands after k cards, as cells. -/
def outC (f : Nat → Nat) (k : Nat) : Array Value := #[.int .u64 (Pl.maskTo f k 0 : Nat), .int .u64 (Pl.maskTo f k 1 : Nat), .int .u64 (Pl.maskTo f k 2 : Nat), .int .u64 (Pl.maskTo f k 3 : Nat)]
theorem outC_get (f : Nat → Nat) (k j : Nat) (hj : j < 4) : (outC f k)[j]? = some (.int .u64 (Pl.maskTo f k j : Nat)) := by
  rcases (by omega : j = 0 ∨ j = 1 ∨ j = 2 ∨ j = 3) with rfl | rfl | rfl | rfl <;> rfl
theorem outC_set (f : Nat → Nat) (k : Nat) (hk : k < 52) : (outC f k).setIfInBounds (k / 13) (.int .u64 (Pl.maskTo f k (k / 13) ||| 2 ^ f k : Nat)) = outC f (k + 1) := by
  unfold outC
  simp only [Pl.maskTo]
  rcases (by omega : k / 13 = 0 ∨ k / 13 = 1 ∨ k / 13 = 2 ∨ k / 13 = 3) with e | e | e | e <;> rw [e] <;> simp
theorem two64 (c : Nat) (hc : c < 52) : IntKind.u64.wrap ((2 : Int) ^ c) = (2 : Int) ^ c := by
  refine IntWalk.u64_in _ ?_
  rw [show (2 : Int) ^ c = ((2 ^ c : Nat) : Int) by simp]
  have h2 : 2 ^ c < 2 ^ 52 := Nat.pow_lt_pow_right (by omega) hc
  generalize 2 ^ c = z at *
  omega
theorem or_card (m c : Nat) (hm : m < 2 ^ 52) (hc : c < 52) : bits BinOp.or IntKind.u64 (m : Int) ((2 : Int) ^ c) = ((m ||| 2 ^ c : Nat) : Int) := by
  have h2 : 2 ^ c < 2 ^ 52 := Nat.pow_lt_pow_right (by omega) hc
  have e : (2 : Int) ^ c = ((2 ^ c : Nat) : Int) := by simp
  rw [e, u64_or_nat _ _ (Nat.lt_trans hm (by decide)) (Nat.lt_trans h2 (by decide))]

set_option maxRecDepth 100000 in
set_option maxHeartbeats 4000000 in
theorem dealt_le (b off len cap : Nat) (Z : Nat → Nat) (w : World) (hlen : len ≤ cap) (h52 : len ≤ 52) (_hcap : cap ≤ maxLen) (hz : ∀ i, i < len → Z i < 256)
    (hc : ∀ i, i < len → w.cell? ⟨b, off + i, none⟩ = some (.int .u8 (Z i : Nat))) :
    Calls Tryd.prog 32 #[.slice (some ⟨b, off, none⟩) len cap] w fun e w' => (∃ L : List Nat, L.Perm (List.range 52) ∧
      e = .returned (.agg #[.int .u64 (Pl.maskTo (fun i => L.getD i 0) 52 0 : Nat), .int .u64 (Pl.maskTo (fun i => L.getD i 0) 52 1 : Nat), .int .u64 (Pl.maskTo (fun i => L.getD i 0) 52 2 : Nat), .int .u64 (Pl.maskTo (fun i => L.getD i 0) 52 3 : Nat)])) ∧ Below w.heap.size w w' := by
  unfold maxLen at _hcap
  have q1 : decide ((len : Int) ≤ 52) = true := decide_eq_true (by omega)
  have q0 : (len : Int) ≤ 52 := by omega
  have q2 : max (len : Int) 0 = (len : Int) := by omega
  go_enter Tryd.func32, Tryd.ntmps32
  go_wp2_with fail
  generalize hW0 : (w.alloc (.cells #[.int .u64 0, .int .u64 0, .int .u64 0, .int .u64 0] 34)).alloc (.cells #[.int .i64 0, .int .i64 0, .int .i64 0, .int .i64 0, .int .i64 0, .int .i64 0, .int .i64 0, .int .i64 0, .int .i64 0, .int .i64 0, .int .i64 0, .int .i64 0, .int .i64 0, .int .i64 0, .int .i64 0, .int .i64 0, .int .i64 0, .int .i64 0, .int .i64 0, .int .i64 0, .int .i64 0, .int .i64 0, .int .i64 0, .int .i64 0, .int .i64 0, .int .i64 0, .int .i64 0, .int .i64 0, .int .i64 0, .int .i64 0, .int .i64 0, .int .i64 0, .int .i64 0, .int .i64 0, .int .i64 0, .int .i64 0, .int .i64 0, .int .i64 0, .int .i64 0, .int .i64 0, .int .i64 0, .int .i64 0, .int .i64 0, .int .i64 0, .int .i64 0, .int .i64 0, .int .i64 0, .int .i64 0, .int .i64 0, .int .i64 0, .int .i64 0, .int .i64 0] 99) = W
  have hB : Below w.heap.size w W := hW0 ▸ ((Below.refl _ _).alloc (Nat.le_refl _) _).alloc (by simp) _
  have hK : Blk W (w.heap.size + 1) 99 ((initTo 0).map encI) := by
    rw [← hW0]
    have := Blk.new (w.alloc (.cells #[.int .u64 0, .int .u64 0, .int .u64 0, .int .u64 0] 34)) 99 ((initTo 0).map encI)
    rw [init_0] at this ⊢
    simpa using this
  have hR : Blk W w.heap.size 34 zero4 := by
    rw [← hW0]
    exact (Blk.new w 34 zero4).alloc _
  have HO := Lib.hid hW0
  clear hW0
  go_loopw [4, 11] (fun _ v11 wr => ∃ k : Nat, k ≤ 52 ∧ v11 = .int .i64 k ∧ Blk wr (w.heap.size + 1) 99 ((initTo k).map encI) ∧ Blk wr w.heap.size 34 zero4 ∧ Below w.heap.size w wr) (fun _ v11 _ => 52 - (intOf v11).toNat)
  case atStart => exact ⟨0, by omega, rfl, hK, hR, hB⟩
  case round =>
    obtain ⟨k, hk, rfl, hk1, hr1, hb1⟩ := hrel
    have HR := Lib.hid hr1
    clear hr1 hR
    by_cases hlt : k < 52
    · have hf := hk1.free k
      have hcl : wr.cell? ⟨w.heap.size + 1, k, none⟩ = some (.int .i64 0) := hk1.cell (init_get k hlt)
      have hn := hk1.set k (encI k)
      have HN := Lib.hid hn
      have HK := Lib.hid hk1
      clear hn hk1
      go_wp2_with fail
      exact ⟨⟨k + 1, by omega, by go_num, by rw [← init_set k hlt]; exact HN.out, HR.out.other (by omega) _ _, hb1.setCell (by simp) _⟩, by simp [intOf]; omega⟩
    · obtain rfl : k = 52 := by omega
      have HK := Lib.hid hk1
      clear hk1
      go_wp2_with fail
      clear q1 q2
      have HP : Hid (∃ d : Array Nat, d.size = 52 ∧ d.toList.Perm (List.range 52) ∧ Blk wr (w.heap.size + 1) 99 (d.map encI) ∧ Blk wr w.heap.size 34 zero4) := Lib.hid ⟨_, by simp [initTo], init_52, HK.out, HR.out⟩
      clear HK HO hB hK HR
      generalize wr = W1 at *
      go_loopw [24] (fun v24 wr => ∃ (k : Nat) (d : Array Nat), k ≤ len ∧ v24 = .int .i64 k ∧ d.size = 52 ∧ d.toList.Perm (List.range 52) ∧ Blk wr (w.heap.size + 1) 99 (d.map encI) ∧ Blk wr w.heap.size 34 zero4 ∧ Below w.heap.size w wr) (fun v24 _ => len - (intOf v24).toNat)
      case atStart =>
        obtain ⟨d, h1, h2, h3, h4⟩ := HP.out
        exact ⟨0, d, by omega, rfl, h1, h2, h3, h4, hb1⟩
      case round =>
        obtain ⟨k, d, hk, rfl, hd, hp, hk1, hr1, hb2⟩ := hrel
        have HR := Lib.hid hr1
        clear hr1
        clear HP
        by_cases hlt : k < len
        · obtain ⟨j, hj⟩ : ∃ j, j = k + Z k % (52 - k) := ⟨_, rfl⟩
          have hj52 : j < 52 := by have := Nat.mod_lt (Z k) (show 0 < 52 - k by omega); omega
          have hji : (k : Int) + (Z k : Int) % (52 - (k : Int)) = (j : Int) := by
            rw [hj, Int.natCast_add, Int.natCast_emod, Int.natCast_sub (by omega)]; rfl
          have hz1 := hz k (by omega)
          have c1 := (hb2.cell (p := ⟨b, off + k, none⟩) (World.block_lt_of_cell? w _ (hc k (by omega)))).trans (hc k (by omega))
          obtain ⟨x, hx⟩ : ∃ x, d[k]? = some x := ⟨_, Array.getElem?_eq_getElem (by omega)⟩
          obtain ⟨y, hy⟩ : ∃ y, d[j]? = some y := ⟨_, Array.getElem?_eq_getElem (by omega)⟩
          have c2 : wr.cell? ⟨w.heap.size + 1, k, none⟩ = some (.int .i64 (x : Nat)) := hk1.cell (by simp [hx, encI])
          have c3 : wr.cell? ⟨w.heap.size + 1, j, none⟩ = some (.int .i64 (y : Nat)) := hk1.cell (by simp [hy, encI])
          have f2 := hk1.free k
          have f3 := hk1.free j
          obtain ⟨v', c4⟩ : ∃ v', (wr.setCell ⟨w.heap.size + 1, k, none⟩ (.int .i64 (y : Nat))).cell? ⟨w.heap.size + 1, j, none⟩ = some v' := ⟨_, (hk1.set k _).cell (Array.getElem?_eq_getElem (by simp [hd, hj52]))⟩
          have HN := Lib.hid ((hk1.set k (encI y)).set j (encI x))
          have HJ := Lib.hid hj
          have HX := Lib.hid hx
          have HY := Lib.hid hy
          have HP := Lib.hid hp
          have HD := Lib.hid hd
          clear hj hx hy hp hd hk1 hz hc
          go_wp2_with fail
          go_region
          all_goals
            go_wp2_with fail
            exact ⟨⟨k + 1, d.swap k j (by rw [HD.out]; omega) (by rw [HD.out]; omega), by omega, by go_num, by simp [HD.out], (Array.swap_perm _ _).toList.trans HP.out, by
              have h := HN.out
              rw [← Array.map_setIfInBounds, ← Array.map_setIfInBounds, swap_is d k j x y (by rw [HD.out]; omega) (by rw [HD.out]; omega) HX.out HY.out] at h
              exact h.drewN 1, ((HR.out.other (by omega) _ _).other (by omega) _ _).drewN 1, ((hb2.setCell (by simp) _).setCell (by simp) _).drew⟩, by simp [intOf]; omega⟩
        · obtain rfl : k = len := by omega
          have HK := Lib.hid hk1
          have HD := Lib.hid hd
          have HP := Lib.hid hp
          clear hz hc hp hd hk1 hb1
          go_wp2_with (refine wpList_load_row rfl 99 _ rfl (w.heap.size + 1) rfl 99 (d.map encI) (0, 0) _ (HK.out.alloc _) Tryd.underlying99 rfl (by rw [Array.size_map, HD.out]; kernel_rfl) ?_)
          generalize wr = W2 at *
          obtain ⟨f, hf⟩ : ∃ f : Nat → Nat, f = fun i => d.toList.getD i 0 := ⟨_, rfl⟩
          have hdk : Pl.Deck f := hf ▸ Pl.deck_of _ HP.out
          have HF := Lib.hid hf
          have idx : ∀ (t : Nat), t < 52 → ∀ w, (Instr.index 99 (.agg (d.map encI)) (.int .i64 (t : Int))).run Tryd.prog w = .ok (.int .i64 (f t : Nat)) w := fun t ht w =>
            run_index_row5 w _ 3 52 _ _ t _ Tryd.underlying99 (by kernel_rfl) (by kernel_rfl) ht (by
              have h1 : t < d.size := by rw [HD.out]; exact ht
              rw [HF.out]
              simp [encI, h1])
          have IDX := Lib.hid idx
          have DK := Lib.hid hdk
          clear hf idx hdk
          have hB3 : Below w.heap.size w (W2.alloc (.cells (outC f 0) 34)) := hb2.alloc hb2.size _
          have hK3 : Blk (W2.alloc (.cells (outC f 0) 34)) W2.heap.size 34 (outC f 0) := Blk.new _ _ _
          have hS3 : w.heap.size + 1 < W2.heap.size := HK.out.lt
          go_loopw [48] (fun v48 wr => ∃ k : Nat, k ≤ 52 ∧ v48 = .int .i64 k ∧ Blk wr W2.heap.size 34 (outC f k) ∧ Blk wr w.heap.size 34 zero4 ∧ Below w.heap.size w wr) (fun v48 _ => 52 - (intOf v48).toNat)
          case atStart => exact ⟨0, by omega, rfl, hK3, HR.out.alloc _, hB3⟩
          case round =>
            obtain ⟨n, hn, rfl, hk3, hr3, hb3⟩ := hrel
            clear hB3 hK3 HR
            by_cases hlt3 : n < 52
            · have ix := IDX.out n hlt3
              have hx52 : f n < 52 := DK.out.1 n hlt3
              have c1 : wr.cell? ⟨W2.heap.size, n / 13, none⟩ = some (.int .u64 (Pl.maskTo f n (n / 13) : Nat)) := hk3.cell (outC_get f n _ (by omega))
              have f1 := hk3.free (n / 13)
              have t1 := two64 (f n) hx52
              have o1 := or_card (Pl.maskTo f n (n / 13)) (f n) (Pl.mask_lt f DK.out _ n (by omega)) hx52
              have HR := Lib.hid hr3
              clear hr3
              have HN := Lib.hid (hk3.set (n / 13) (.int .u64 (Pl.maskTo f n (n / 13) ||| 2 ^ f n : Nat)))
              clear hk3
              go_wp2_with fail
              go_region
              all_goals
                go_wp2_with fail
                refine ⟨⟨n + 1, by omega, by go_num, ?_, (HR.out.other (by omega) _ _).drewN 1, (hb3.setCell (by simp; omega) _).drew⟩, by simp [intOf]; omega⟩
                have h := HN.out
                rw [outC_set f n hlt3] at h
                exact h.drewN 1
            · obtain rfl : n = 52 := by omega
              have c0 : wr.cell? ⟨W2.heap.size, 0, none⟩ = some (.int .u64 (Pl.maskTo f 52 0 : Nat)) := hk3.cell rfl
              have c1 : wr.cell? ⟨W2.heap.size, 1, none⟩ = some (.int .u64 (Pl.maskTo f 52 1 : Nat)) := hk3.cell rfl
              have c2 : wr.cell? ⟨W2.heap.size, 2, none⟩ = some (.int .u64 (Pl.maskTo f 52 2 : Nat)) := hk3.cell rfl
              have c3 : wr.cell? ⟨W2.heap.size, 3, none⟩ = some (.int .u64 (Pl.maskTo f 52 3 : Nat)) := hk3.cell rfl
              have z0 : wr.cell? ⟨w.heap.size, 0, none⟩ = some (.int .u64 0) := hr3.cell rfl
              have y0 := hr3.free 0
              have z1 : wr.cell? ⟨w.heap.size, 1, none⟩ = some (.int .u64 0) := hr3.cell rfl
              have y1 := hr3.free 1
              have z2 : wr.cell? ⟨w.heap.size, 2, none⟩ = some (.int .u64 0) := hr3.cell rfl
              have y2 := hr3.free 2
              have z3 : wr.cell? ⟨w.heap.size, 3, none⟩ = some (.int .u64 0) := hr3.cell rfl
              have y3 := hr3.free 3
              have HR := Lib.hid hr3
              clear hk3 hr3
              go_wp2_with fail
              have h5 := (((HR.out.set 0 (.int .u64 (Pl.maskTo f 52 0 : Nat))).set 1 (.int .u64 (Pl.maskTo f 52 1 : Nat))).set 2 (.int .u64 (Pl.maskTo f 52 2 : Nat))).set 3 (.int .u64 (Pl.maskTo f 52 3 : Nat))
              have r0 := h5.cell (j := 0) (v := .int .u64 (Pl.maskTo f 52 0 : Nat)) rfl
              have r1 := h5.cell (j := 1) (v := .int .u64 (Pl.maskTo f 52 1 : Nat)) rfl
              have r2 := h5.cell (j := 2) (v := .int .u64 (Pl.maskTo f 52 2 : Nat)) rfl
              have r3 := h5.cell (j := 3) (v := .int .u64 (Pl.maskTo f 52 3 : Nat)) rfl
              refine bodyPost_ret (v := .agg #[.int .u64 (Pl.maskTo f 52 0 : Nat), .int .u64 (Pl.maskTo f 52 1 : Nat), .int .u64 (Pl.maskTo f 52 2 : Nat), .int .u64 (Pl.maskTo f 52 3 : Nat)]) (by simp [results, Tryd.results32, go_sem, r0, r1, r2, r3]) rfl ⟨⟨d.toList, HP.out, ?_⟩, (((hb3.setCell (by simp) _).setCell (by simp) _).setCell (by simp) _).setCell (by simp) _⟩
              rw [HF.out]
set_option maxRecDepth 100000 in
set_option maxHeartbeats 4000000 in
theorem dealt_gt (b off len cap : Nat) (Z : Nat → Nat) (w : World) (hlen : len ≤ cap) (h52 : 52 < len) (hcap : cap ≤ maxLen) (hz : ∀ i, i < len → Z i < 256)
    (hc : ∀ i, i < len → w.cell? ⟨b, off + i, none⟩ = some (.int .u8 (Z i : Nat))) :
    Calls Tryd.prog 32 #[.slice (some ⟨b, off, none⟩) len cap] w fun e w' => (∃ L : List Nat, L.Perm (List.range 52) ∧
      e = .returned (.agg #[.int .u64 (Pl.maskTo (fun i => L.getD i 0) 52 0 : Nat), .int .u64 (Pl.maskTo (fun i => L.getD i 0) 52 1 : Nat), .int .u64 (Pl.maskTo (fun i => L.getD i 0) 52 2 : Nat), .int .u64 (Pl.maskTo (fun i => L.getD i 0) 52 3 : Nat)])) ∧ Below w.heap.size w w' := by
  unfold maxLen at hcap
  have q1 : decide ((len : Int) ≤ 52) = false := decide_eq_false (by omega)
  have q0 : ¬ (len : Int) ≤ 52 := by omega
  have q2 : max (52 : Int) 0 = 52 := by omega
  go_enter Tryd.func32, Tryd.ntmps32
  go_wp2_with fail
  generalize hW0 : (w.alloc (.cells #[.int .u64 0, .int .u64 0, .int .u64 0, .int .u64 0] 34)).alloc (.cells #[.int .i64 0, .int .i64 0, .int .i64 0, .int .i64 0, .int .i64 0, .int .i64 0, .int .i64 0, .int .i64 0, .int .i64 0, .int .i64 0, .int .i64 0, .int .i64 0, .int .i64 0, .int .i64 0, .int .i64 0, .int .i64 0, .int .i64 0, .int .i64 0, .int .i64 0, .int .i64 0, .int .i64 0, .int .i64 0, .int .i64 0, .int .i64 0, .int .i64 0, .int .i64 0, .int .i64 0, .int .i64 0, .int .i64 0, .int .i64 0, .int .i64 0, .int .i64 0, .int .i64 0, .int .i64 0, .int .i64 0, .int .i64 0, .int .i64 0, .int .i64 0, .int .i64 0, .int .i64 0, .int .i64 0, .int .i64 0, .int .i64 0, .int .i64 0, .int .i64 0, .int .i64 0, .int .i64 0, .int .i64 0, .int .i64 0, .int .i64 0, .int .i64 0, .int .i64 0] 99) = W
  have hB : Below w.heap.size w W := hW0 ▸ ((Below.refl _ _).alloc (Nat.le_refl _) _).alloc (by simp) _
  have hK : Blk W (w.heap.size + 1) 99 ((initTo 0).map encI) := by
    rw [← hW0]
    have := Blk.new (w.alloc (.cells #[.int .u64 0, .int .u64 0, .int .u64 0, .int .u64 0] 34)) 99 ((initTo 0).map encI)
    rw [init_0] at this ⊢
    simpa using this
  have hR : Blk W w.heap.size 34 zero4 := by
    rw [← hW0]
    exact (Blk.new w 34 zero4).alloc _
  have HO := Lib.hid hW0
  clear hW0
  go_loopw [4, 11] (fun _ v11 wr => ∃ k : Nat, k ≤ 52 ∧ v11 = .int .i64 k ∧ Blk wr (w.heap.size + 1) 99 ((initTo k).map encI) ∧ Blk wr w.heap.size 34 zero4 ∧ Below w.heap.size w wr) (fun _ v11 _ => 52 - (intOf v11).toNat)
  case atStart => exact ⟨0, by omega, rfl, hK, hR, hB⟩
  case round =>
    obtain ⟨k, hk, rfl, hk1, hr1, hb1⟩ := hrel
    have HR := Lib.hid hr1
    clear hr1 hR
    by_cases hlt : k < 52
    · have hf := hk1.free k
      have hcl : wr.cell? ⟨w.heap.size + 1, k, none⟩ = some (.int .i64 0) := hk1.cell (init_get k hlt)
      have hn := hk1.set k (encI k)
      have HN := Lib.hid hn
      have HK := Lib.hid hk1
      clear hn hk1
      go_wp2_with fail
      exact ⟨⟨k + 1, by omega, by go_num, by rw [← init_set k hlt]; exact HN.out, HR.out.other (by omega) _ _, hb1.setCell (by simp) _⟩, by simp [intOf]; omega⟩
    · obtain rfl : k = 52 := by omega
      have HK := Lib.hid hk1
      clear hk1
      go_wp2_with fail
      clear q1 q2
      have HP : Hid (∃ d : Array Nat, d.size = 52 ∧ d.toList.Perm (List.range 52) ∧ Blk wr (w.heap.size + 1) 99 (d.map encI) ∧ Blk wr w.heap.size 34 zero4) := Lib.hid ⟨_, by simp [initTo], init_52, HK.out, HR.out⟩
      clear HK HO hB hK HR
      generalize wr = W1 at *
      go_loopw [24] (fun v24 wr => ∃ (k : Nat) (d : Array Nat), k ≤ 52 ∧ v24 = .int .i64 k ∧ d.size = 52 ∧ d.toList.Perm (List.range 52) ∧ Blk wr (w.heap.size + 1) 99 (d.map encI) ∧ Blk wr w.heap.size 34 zero4 ∧ Below w.heap.size w wr) (fun v24 _ => 52 - (intOf v24).toNat)
      case atStart =>
        obtain ⟨d, h1, h2, h3, h4⟩ := HP.out
        exact ⟨0, d, by omega, rfl, h1, h2, h3, h4, hb1⟩
      case round =>
        obtain ⟨k, d, hk, rfl, hd, hp, hk1, hr1, hb2⟩ := hrel
        have HR := Lib.hid hr1
        clear hr1
        clear HP
        by_cases hlt : k < 52
        · obtain ⟨j, hj⟩ : ∃ j, j = k + Z k % (52 - k) := ⟨_, rfl⟩
          have hj52 : j < 52 := by have := Nat.mod_lt (Z k) (show 0 < 52 - k by omega); omega
          have hji : (k : Int) + (Z k : Int) % (52 - (k : Int)) = (j : Int) := by
            rw [hj, Int.natCast_add, Int.natCast_emod, Int.natCast_sub (by omega)]; rfl
          have hz1 := hz k (by omega)
          have c1 := (hb2.cell (p := ⟨b, off + k, none⟩) (World.block_lt_of_cell? w _ (hc k (by omega)))).trans (hc k (by omega))
          obtain ⟨x, hx⟩ : ∃ x, d[k]? = some x := ⟨_, Array.getElem?_eq_getElem (by omega)⟩
          obtain ⟨y, hy⟩ : ∃ y, d[j]? = some y := ⟨_, Array.getElem?_eq_getElem (by omega)⟩
          have c2 : wr.cell? ⟨w.heap.size + 1, k, none⟩ = some (.int .i64 (x : Nat)) := hk1.cell (by simp [hx, encI])
          have c3 : wr.cell? ⟨w.heap.size + 1, j, none⟩ = some (.int .i64 (y : Nat)) := hk1.cell (by simp [hy, encI])
          have f2 := hk1.free k
          have f3 := hk1.free j
          obtain ⟨v', c4⟩ : ∃ v', (wr.setCell ⟨w.heap.size + 1, k, none⟩ (.int .i64 (y : Nat))).cell? ⟨w.heap.size + 1, j, none⟩ = some v' := ⟨_, (hk1.set k _).cell (Array.getElem?_eq_getElem (by simp [hd, hj52]))⟩
          have HN := Lib.hid ((hk1.set k (encI y)).set j (encI x))
          have HJ := Lib.hid hj
          have HX := Lib.hid hx
          have HY := Lib.hid hy
          have HP := Lib.hid hp
          have HD := Lib.hid hd
          clear hj hx hy hp hd hk1 hz hc
          go_wp2_with fail
          go_region
          all_goals
            go_wp2_with fail
            exact ⟨⟨k + 1, d.swap k j (by rw [HD.out]; omega) (by rw [HD.out]; omega), by omega, by go_num, by simp [HD.out], (Array.swap_perm _ _).toList.trans HP.out, by
              have h := HN.out
              rw [← Array.map_setIfInBounds, ← Array.map_setIfInBounds, swap_is d k j x y (by rw [HD.out]; omega) (by rw [HD.out]; omega) HX.out HY.out] at h
              exact h.drewN 1, ((HR.out.other (by omega) _ _).other (by omega) _ _).drewN 1, ((hb2.setCell (by simp) _).setCell (by simp) _).drew⟩, by simp [intOf]; omega⟩
        · obtain rfl : k = 52 := by omega
          have HK := Lib.hid hk1
          have HD := Lib.hid hd
          have HP := Lib.hid hp
          clear hz hc hp hd hk1 hb1
          go_wp2_with (refine wpList_load_row rfl 99 _ rfl (w.heap.size + 1) rfl 99 (d.map encI) (0, 0) _ (HK.out.alloc _) Tryd.underlying99 rfl (by rw [Array.size_map, HD.out]; kernel_rfl) ?_)
          generalize wr = W2 at *
          obtain ⟨f, hf⟩ : ∃ f : Nat → Nat, f = fun i => d.toList.getD i 0 := ⟨_, rfl⟩
          have hdk : Pl.Deck f := hf ▸ Pl.deck_of _ HP.out
          have HF := Lib.hid hf
          have idx : ∀ (t : Nat), t < 52 → ∀ w, (Instr.index 99 (.agg (d.map encI)) (.int .i64 (t : Int))).run Tryd.prog w = .ok (.int .i64 (f t : Nat)) w := fun t ht w =>
            run_index_row5 w _ 3 52 _ _ t _ Tryd.underlying99 (by kernel_rfl) (by kernel_rfl) ht (by
              have h1 : t < d.size := by rw [HD.out]; exact ht
              rw [HF.out]
              simp [encI, h1])
          have IDX := Lib.hid idx
          have DK := Lib.hid hdk
          clear hf idx hdk
          have hB3 : Below w.heap.size w (W2.alloc (.cells (outC f 0) 34)) := hb2.alloc hb2.size _
          have hK3 : Blk (W2.alloc (.cells (outC f 0) 34)) W2.heap.size 34 (outC f 0) := Blk.new _ _ _
          have hS3 : w.heap.size + 1 < W2.heap.size := HK.out.lt
          go_loopw [48] (fun v48 wr => ∃ k : Nat, k ≤ 52 ∧ v48 = .int .i64 k ∧ Blk wr W2.heap.size 34 (outC f k) ∧ Blk wr w.heap.size 34 zero4 ∧ Below w.heap.size w wr) (fun v48 _ => 52 - (intOf v48).toNat)
          case atStart => exact ⟨0, by omega, rfl, hK3, HR.out.alloc _, hB3⟩
          case round =>
            obtain ⟨n, hn, rfl, hk3, hr3, hb3⟩ := hrel
            clear hB3 hK3 HR
            by_cases hlt3 : n < 52
            · have ix := IDX.out n hlt3
              have hx52 : f n < 52 := DK.out.1 n hlt3
              have c1 : wr.cell? ⟨W2.heap.size, n / 13, none⟩ = some (.int .u64 (Pl.maskTo f n (n / 13) : Nat)) := hk3.cell (outC_get f n _ (by omega))
              have f1 := hk3.free (n / 13)
              have t1 := two64 (f n) hx52
              have o1 := or_card (Pl.maskTo f n (n / 13)) (f n) (Pl.mask_lt f DK.out _ n (by omega)) hx52
              have HR := Lib.hid hr3
              clear hr3
              have HN := Lib.hid (hk3.set (n / 13) (.int .u64 (Pl.maskTo f n (n / 13) ||| 2 ^ f n : Nat)))
              clear hk3
              go_wp2_with fail
              go_region
              all_goals
                go_wp2_with fail
                refine ⟨⟨n + 1, by omega, by go_num, ?_, (HR.out.other (by omega) _ _).drewN 1, (hb3.setCell (by simp; omega) _).drew⟩, by simp [intOf]; omega⟩
                have h := HN.out
                rw [outC_set f n hlt3] at h
                exact h.drewN 1
            · obtain rfl : n = 52 := by omega
              have c0 : wr.cell? ⟨W2.heap.size, 0, none⟩ = some (.int .u64 (Pl.maskTo f 52 0 : Nat)) := hk3.cell rfl
              have c1 : wr.cell? ⟨W2.heap.size, 1, none⟩ = some (.int .u64 (Pl.maskTo f 52 1 : Nat)) := hk3.cell rfl
              have c2 : wr.cell? ⟨W2.heap.size, 2, none⟩ = some (.int .u64 (Pl.maskTo f 52 2 : Nat)) := hk3.cell rfl
              have c3 : wr.cell? ⟨W2.heap.size, 3, none⟩ = some (.int .u64 (Pl.maskTo f 52 3 : Nat)) := hk3.cell rfl
              have z0 : wr.cell? ⟨w.heap.size, 0, none⟩ = some (.int .u64 0) := hr3.cell rfl
              have y0 := hr3.free 0
              have z1 : wr.cell? ⟨w.heap.size, 1, none⟩ = some (.int .u64 0) := hr3.cell rfl
              have y1 := hr3.free 1
              have z2 : wr.cell? ⟨w.heap.size, 2, none⟩ = some (.int .u64 0) := hr3.cell rfl
              have y2 := hr3.free 2
              have z3 : wr.cell? ⟨w.heap.size, 3, none⟩ = some (.int .u64 0) := hr3.cell rfl
              have y3 := hr3.free 3
              have HR := Lib.hid hr3
              clear hk3 hr3
              go_wp2_with fail
              have h5 := (((HR.out.set 0 (.int .u64 (Pl.maskTo f 52 0 : Nat))).set 1 (.int .u64 (Pl.maskTo f 52 1 : Nat))).set 2 (.int .u64 (Pl.maskTo f 52 2 : Nat))).set 3 (.int .u64 (Pl.maskTo f 52 3 : Nat))
              have r0 := h5.cell (j := 0) (v := .int .u64 (Pl.maskTo f 52 0 : Nat)) rfl
              have r1 := h5.cell (j := 1) (v := .int .u64 (Pl.maskTo f 52 1 : Nat)) rfl
              have r2 := h5.cell (j := 2) (v := .int .u64 (Pl.maskTo f 52 2 : Nat)) rfl
              have r3 := h5.cell (j := 3) (v := .int .u64 (Pl.maskTo f 52 3 : Nat)) rfl
              refine bodyPost_ret (v := .agg #[.int .u64 (Pl.maskTo f 52 0 : Nat), .int .u64 (Pl.maskTo f 52 1 : Nat), .int .u64 (Pl.maskTo f 52 2 : Nat), .int .u64 (Pl.maskTo f 52 3 : Nat)]) (by simp [results, Tryd.results32, go_sem, r0, r1, r2, r3]) rfl ⟨⟨d.toList, HP.out, ?_⟩, (((hb3.setCell (by simp) _).setCell (by simp) _).setCell (by simp) _).setCell (by simp) _⟩
              rw [HF.out]
theorem dealt_any (b off len cap : Nat) (Z : Nat → Nat) (w : World) (hlen : len ≤ cap) (hcap : cap ≤ maxLen) (hz : ∀ i, i < len → Z i < 256)
    (hc : ∀ i, i < len → w.cell? ⟨b, off + i, none⟩ = some (.int .u8 (Z i : Nat))) :
    Calls Tryd.prog 32 #[.slice (some ⟨b, off, none⟩) len cap] w fun e w' => (∃ L : List Nat, L.Perm (List.range 52) ∧
      e = .returned (.agg #[.int .u64 (Pl.maskTo (fun i => L.getD i 0) 52 0 : Nat), .int .u64 (Pl.maskTo (fun i => L.getD i 0) 52 1 : Nat), .int .u64 (Pl.maskTo (fun i => L.getD i 0) 52 2 : Nat), .int .u64 (Pl.maskTo (fun i => L.getD i 0) 52 3 : Nat)])) ∧ Below w.heap.size w w' := by
  rcases Nat.lt_or_ge 52 len with h | h
  · exact dealt_gt b off len cap Z w hlen h hcap hz hc
  · exact dealt_le b off len cap Z w hlen h hcap hz hc
set_option maxRecDepth 100000 in
set_option maxHeartbeats 4000000 in
theorem dealt_nil (A : Option Addr) (cap : Nat) (w : World) (_hcap : cap ≤ maxLen) :
    Calls Tryd.prog 32 #[.slice A 0 cap] w fun e w' => (∃ L : List Nat, L.Perm (List.range 52) ∧
      e = .returned (.agg #[.int .u64 (Pl.maskTo (fun i => L.getD i 0) 52 0 : Nat), .int .u64 (Pl.maskTo (fun i => L.getD i 0) 52 1 : Nat), .int .u64 (Pl.maskTo (fun i => L.getD i 0) 52 2 : Nat), .int .u64 (Pl.maskTo (fun i => L.getD i 0) 52 3 : Nat)])) ∧ Below w.heap.size w w' := by
  go_enter Tryd.func32, Tryd.ntmps32
  go_wp2_with fail
  generalize hW0 : (w.alloc (.cells #[.int .u64 0, .int .u64 0, .int .u64 0, .int .u64 0] 34)).alloc (.cells #[.int .i64 0, .int .i64 0, .int .i64 0, .int .i64 0, .int .i64 0, .int .i64 0, .int .i64 0, .int .i64 0, .int .i64 0, .int .i64 0, .int .i64 0, .int .i64 0, .int .i64 0, .int .i64 0, .int .i64 0, .int .i64 0, .int .i64 0, .int .i64 0, .int .i64 0, .int .i64 0, .int .i64 0, .int .i64 0, .int .i64 0, .int .i64 0, .int .i64 0, .int .i64 0, .int .i64 0, .int .i64 0, .int .i64 0, .int .i64 0, .int .i64 0, .int .i64 0, .int .i64 0, .int .i64 0, .int .i64 0, .int .i64 0, .int .i64 0, .int .i64 0, .int .i64 0, .int .i64 0, .int .i64 0, .int .i64 0, .int .i64 0, .int .i64 0, .int .i64 0, .int .i64 0, .int .i64 0, .int .i64 0, .int .i64 0, .int .i64 0, .int .i64 0, .int .i64 0] 99) = W
  have hB : Below w.heap.size w W := hW0 ▸ ((Below.refl _ _).alloc (Nat.le_refl _) _).alloc (by simp) _
  have hK : Blk W (w.heap.size + 1) 99 ((initTo 0).map encI) := by
    rw [← hW0]
    have := Blk.new (w.alloc (.cells #[.int .u64 0, .int .u64 0, .int .u64 0, .int .u64 0] 34)) 99 ((initTo 0).map encI)
    rw [init_0] at this ⊢
    simpa using this
  have hR : Blk W w.heap.size 34 zero4 := by
    rw [← hW0]
    exact (Blk.new w 34 zero4).alloc _
  have HO := Lib.hid hW0
  clear hW0
  go_loopw [4, 11] (fun _ v11 wr => ∃ k : Nat, k ≤ 52 ∧ v11 = .int .i64 k ∧ Blk wr (w.heap.size + 1) 99 ((initTo k).map encI) ∧ Blk wr w.heap.size 34 zero4 ∧ Below w.heap.size w wr) (fun _ v11 _ => 52 - (intOf v11).toNat)
  case atStart => exact ⟨0, by omega, rfl, hK, hR, hB⟩
  case round =>
    obtain ⟨k, hk, rfl, hk1, hr1, hb1⟩ := hrel
    have HR := Lib.hid hr1
    clear hr1 hR
    by_cases hlt : k < 52
    · have hf := hk1.free k
      have hcl : wr.cell? ⟨w.heap.size + 1, k, none⟩ = some (.int .i64 0) := hk1.cell (init_get k hlt)
      have hn := hk1.set k (encI k)
      have HN := Lib.hid hn
      have HK := Lib.hid hk1
      clear hn hk1
      go_wp2_with fail
      exact ⟨⟨k + 1, by omega, by go_num, by rw [← init_set k hlt]; exact HN.out, HR.out.other (by omega) _ _, hb1.setCell (by simp) _⟩, by simp [intOf]; omega⟩
    · obtain rfl : k = 52 := by omega
      have HK := Lib.hid hk1
      clear hk1
      go_wp2_with fail
      have HP : Hid (∃ d : Array Nat, d.size = 52 ∧ d.toList.Perm (List.range 52) ∧ Blk wr (w.heap.size + 1) 99 (d.map encI) ∧ Blk wr w.heap.size 34 zero4) := Lib.hid ⟨_, by simp [initTo], init_52, HK.out, HR.out⟩
      clear HK HO hB hK HR
      generalize wr = W1 at *
      go_loopw [24] (fun v24 wr => ∃ (k : Nat) (d : Array Nat), k = 0 ∧ v24 = .int .i64 k ∧ d.size = 52 ∧ d.toList.Perm (List.range 52) ∧ Blk wr (w.heap.size + 1) 99 (d.map encI) ∧ Blk wr w.heap.size 34 zero4 ∧ Below w.heap.size w wr) (fun v24 _ => 0 - (intOf v24).toNat)
      case atStart =>
        obtain ⟨d, h1, h2, h3, h4⟩ := HP.out
        exact ⟨0, d, rfl, rfl, h1, h2, h3, h4, hb1⟩
      case round =>
        obtain ⟨k, d, hk, rfl, hd, hp, hk1, hr1, hb2⟩ := hrel
        have HR := Lib.hid hr1
        clear hr1
        clear HP
        subst hk
        · skip
          have HK := Lib.hid hk1
          have HD := Lib.hid hd
          have HP := Lib.hid hp
          clear hp hd hk1 hb1
          go_wp2_with (refine wpList_load_row rfl 99 _ rfl (w.heap.size + 1) rfl 99 (d.map encI) (0, 0) _ (HK.out.alloc _) Tryd.underlying99 rfl (by rw [Array.size_map, HD.out]; kernel_rfl) ?_)
          generalize wr = W2 at *
          obtain ⟨f, hf⟩ : ∃ f : Nat → Nat, f = fun i => d.toList.getD i 0 := ⟨_, rfl⟩
          have hdk : Pl.Deck f := hf ▸ Pl.deck_of _ HP.out
          have HF := Lib.hid hf
          have idx : ∀ (t : Nat), t < 52 → ∀ w, (Instr.index 99 (.agg (d.map encI)) (.int .i64 (t : Int))).run Tryd.prog w = .ok (.int .i64 (f t : Nat)) w := fun t ht w =>
            run_index_row5 w _ 3 52 _ _ t _ Tryd.underlying99 (by kernel_rfl) (by kernel_rfl) ht (by
              have h1 : t < d.size := by rw [HD.out]; exact ht
              rw [HF.out]
              simp [encI, h1])
          have IDX := Lib.hid idx
          have DK := Lib.hid hdk
          clear hf idx hdk
          have hB3 : Below w.heap.size w (W2.alloc (.cells (outC f 0) 34)) := hb2.alloc hb2.size _
          have hK3 : Blk (W2.alloc (.cells (outC f 0) 34)) W2.heap.size 34 (outC f 0) := Blk.new _ _ _
          have hS3 : w.heap.size + 1 < W2.heap.size := HK.out.lt
          go_loopw [48] (fun v48 wr => ∃ k : Nat, k ≤ 52 ∧ v48 = .int .i64 k ∧ Blk wr W2.heap.size 34 (outC f k) ∧ Blk wr w.heap.size 34 zero4 ∧ Below w.heap.size w wr) (fun v48 _ => 52 - (intOf v48).toNat)
          case atStart => exact ⟨0, by omega, rfl, hK3, HR.out.alloc _, hB3⟩
          case round =>
            obtain ⟨n, hn, rfl, hk3, hr3, hb3⟩ := hrel
            clear hB3 hK3 HR
            by_cases hlt3 : n < 52
            · have ix := IDX.out n hlt3
              have hx52 : f n < 52 := DK.out.1 n hlt3
              have c1 : wr.cell? ⟨W2.heap.size, n / 13, none⟩ = some (.int .u64 (Pl.maskTo f n (n / 13) : Nat)) := hk3.cell (outC_get f n _ (by omega))
              have f1 := hk3.free (n / 13)
              have t1 := two64 (f n) hx52
              have o1 := or_card (Pl.maskTo f n (n / 13)) (f n) (Pl.mask_lt f DK.out _ n (by omega)) hx52
              have HR := Lib.hid hr3
              clear hr3
              have HN := Lib.hid (hk3.set (n / 13) (.int .u64 (Pl.maskTo f n (n / 13) ||| 2 ^ f n : Nat)))
              clear hk3
              go_wp2_with fail
              go_region
              all_goals
                go_wp2_with fail
                refine ⟨⟨n + 1, by omega, by go_num, ?_, (HR.out.other (by omega) _ _).drewN 1, (hb3.setCell (by simp; omega) _).drew⟩, by simp [intOf]; omega⟩
                have h := HN.out
                rw [outC_set f n hlt3] at h
                exact h.drewN 1
            · obtain rfl : n = 52 := by omega
              have c0 : wr.cell? ⟨W2.heap.size, 0, none⟩ = some (.int .u64 (Pl.maskTo f 52 0 : Nat)) := hk3.cell rfl
              have c1 : wr.cell? ⟨W2.heap.size, 1, none⟩ = some (.int .u64 (Pl.maskTo f 52 1 : Nat)) := hk3.cell rfl
              have c2 : wr.cell? ⟨W2.heap.size, 2, none⟩ = some (.int .u64 (Pl.maskTo f 52 2 : Nat)) := hk3.cell rfl
              have c3 : wr.cell? ⟨W2.heap.size, 3, none⟩ = some (.int .u64 (Pl.maskTo f 52 3 : Nat)) := hk3.cell rfl
              have z0 : wr.cell? ⟨w.heap.size, 0, none⟩ = some (.int .u64 0) := hr3.cell rfl
              have y0 := hr3.free 0
              have z1 : wr.cell? ⟨w.heap.size, 1, none⟩ = some (.int .u64 0) := hr3.cell rfl
              have y1 := hr3.free 1
              have z2 : wr.cell? ⟨w.heap.size, 2, none⟩ = some (.int .u64 0) := hr3.cell rfl
              have y2 := hr3.free 2
              have z3 : wr.cell? ⟨w.heap.size, 3, none⟩ = some (.int .u64 0) := hr3.cell rfl
              have y3 := hr3.free 3
              have HR := Lib.hid hr3
              clear hk3 hr3
              go_wp2_with fail
              have h5 := (((HR.out.set 0 (.int .u64 (Pl.maskTo f 52 0 : Nat))).set 1 (.int .u64 (Pl.maskTo f 52 1 : Nat))).set 2 (.int .u64 (Pl.maskTo f 52 2 : Nat))).set 3 (.int .u64 (Pl.maskTo f 52 3 : Nat))
              have r0 := h5.cell (j := 0) (v := .int .u64 (Pl.maskTo f 52 0 : Nat)) rfl
              have r1 := h5.cell (j := 1) (v := .int .u64 (Pl.maskTo f 52 1 : Nat)) rfl
              have r2 := h5.cell (j := 2) (v := .int .u64 (Pl.maskTo f 52 2 : Nat)) rfl
              have r3 := h5.cell (j := 3) (v := .int .u64 (Pl.maskTo f 52 3 : Nat)) rfl
              refine bodyPost_ret (v := .agg #[.int .u64 (Pl.maskTo f 52 0 : Nat), .int .u64 (Pl.maskTo f 52 1 : Nat), .int .u64 (Pl.maskTo f 52 2 : Nat), .int .u64 (Pl.maskTo f 52 3 : Nat)]) (by simp [results, Tryd.results32, go_sem, r0, r1, r2, r3]) rfl ⟨⟨d.toList, HP.out, ?_⟩, (((hb3.setCell (by simp) _).setCell (by simp) _).setCell (by simp) _).setCell (by simp) _⟩
              rw [HF.out]
end Go.Proofs.YtaadipccgckehaaDoor
