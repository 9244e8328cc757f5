/- Lists of values of several cells in memory of one's own; Session. -/
import Derived.Test.YtpkmibmombpjpaaGreatDoorED
import Derived.Test.YtpkmibmombpjpaaGreatDoorApp
set_option linter.unusedSimpArgs false
namespace Go.Proofs.YtpkmibmombpjpaaGreatDoor
open Go Go.RowKit

section
variable {α : Type} {enc : α → Array Value} {sz : Nat}
/-- The cells of a list. -/
def flat (enc : α → Array Value) (l : List α) : List Value := l.flatMap fun x => (enc x).toList
theorem flat_len (hs : ∀ x, (enc x).size = sz) (l : List α) : (flat enc l).length = l.length * sz := by
  induction l with
  | nil => simp [flat]
  | cons x t ih =>
    have : (flat enc (x :: t)).length = (enc x).size + (flat enc t).length := by simp [flat]
    rw [this, ih, hs, List.length_cons, Nat.add_mul]; omega
theorem flat_app (l m : List α) : flat enc (l ++ m) = flat enc l ++ flat enc m := by simp [flat]
theorem flat_at (hs : ∀ x, (enc x).size = sz) : ∀ (l : List α) (i : Nat) (x : α), l[i]? = some x → ∀ j v, (enc x)[j]? = some v → (flat enc l)[i * sz + j]? = some v
  | [], _, _, h, _, _, _ => by simp at h
  | y :: t, i, x, h, j, v, hj => by
    have hf : flat enc (y :: t) = (enc y).toList ++ flat enc t := by simp [flat]
    rw [hf]
    cases i with
    | zero =>
      have h : y = x := by simpa using h
      subst h
      have hlt : j < (enc y).size := (Array.getElem?_eq_some_iff.1 hj).1
      rw [Nat.zero_mul, Nat.zero_add, List.getElem?_append_left (by simpa using hlt)]
      simpa using hj
    | succ i =>
      have h : t[i]? = some x := by simpa using h
      have e : (i + 1) * sz + j = (enc y).toList.length + (i * sz + j) := by rw [Array.length_toList, hs, Nat.add_mul]; omega
      rw [e, List.getElem?_append_right (by omega), Nat.add_sub_cancel_left]
      exact flat_at hs t i x h j v hj
theorem ls_of_own (hs : ∀ x, (enc x).size = sz) {W : World} {B e : Nat} {v : Value} {l : List α} (h : W.ownsRow B e sz v l.length (flat enc l)) : LS enc sz W v l := by
  rcases h.2 with ⟨rfl, hl⟩ | ⟨g, cap, cur, rfl, hg1, hg, hc, _, _, ht⟩
  · obtain rfl : l = [] := List.length_eq_zero_iff.1 hl
    exact .none_
  · refine .some_ g 0 cap l (Array.getElem?_eq_some_iff.1 hg).1 hc (fun i x hi j u hj => ?_)
    have hf := flat_at hs l i x hi j u hj
    rw [← ht, List.getElem?_take] at hf
    split at hf
    · have hcu : cur[i * sz + j]? = some u := by simpa using hf
      rw [Nat.zero_add]
      simp [World.cell?, hg, hcu]
    · cases hf
/-- As a source. -/
theorem LS.src (hs : ∀ x, (enc x).size = sz) (h0 : 0 < sz) {W : World} {v : Value} {l : List α} (h : LS enc sz W v l) : SrcR W sz v l.length (flat enc l) := by
  cases h with
  | none_ => exact .none_
  | some_ b o cap l hb hc h =>
    refine .some_ b o l.length cap _ (flat_len hs l) (fun j u hj => ?_)
    have hlt := (List.getElem?_eq_some_iff.1 hj).1
    rw [flat_len hs] at hlt
    have hi : j / sz < l.length := Nat.div_lt_of_lt_mul (by rw [Nat.mul_comm]; exact hlt)
    have hm : j % sz < sz := Nat.mod_lt _ h0
    have hd : j / sz * sz + j % sz = j := by rw [Nat.mul_comm]; exact Nat.div_add_mod j sz
    have hx : l[j / sz]? = some l[j / sz] := List.getElem?_eq_getElem hi
    have hv : (enc l[j / sz])[j % sz]? = some ((enc l[j / sz])[j % sz]'(by rw [hs]; exact hm)) := Array.getElem?_eq_getElem _
    have h1 := flat_at hs l _ _ hx _ _ hv
    rw [hd, hj] at h1
    have h2 := h _ _ hx _ _ hv
    rw [Nat.add_assoc, hd] at h2
    rw [h2]
    exact h1.symm
end
def rv (l : List Rw) : List Value := flat rwC l
theorem rv_app (l m : List Rw) : rv (l ++ m) = rv l ++ rv m := flat_app l m
theorem rv_one (l : List Rw) : ∀ u ∈ rv l, u.oneCell' = true := by
  intro u hu
  simp only [rv, flat, List.mem_flatMap] at hu
  obtain ⟨x, _, hu⟩ := hu
  have hu : u ∈ [Value.int .i64 x.rd, .int .i64 x.tb, .int .i64 x.ns, .int .i64 x.ew, .int .i64 x.st] := hu
  simp only [List.mem_cons, List.not_mem_nil, or_false] at hu
  rcases hu with rfl | rfl | rfl | rfl | rfl <;> rfl
theorem info_row : (Tryz.prog.info? 90).map (fun i => (i.zero, i.size, i.bytes)) = some (some (.agg #[.int .i64 0, .int .i64 0, .int .i64 0, .int .i64 0, .int .i64 0]), 5, 40) := by kernel_rfl
theorem info_parts_row : ∃ i, Tryz.prog.info? 90 = some i ∧ i.zero = some (.agg #[.int .i64 0, .int .i64 0, .int .i64 0, .int .i64 0, .int .i64 0]) ∧ i.size = 5 ∧ i.bytes = 40 := by
  have h := info_row
  cases hi : Tryz.prog.info? 90 with
  | none => rw [hi] at h; cases h
  | some i =>
    rw [hi] at h
    simp only [Option.map_some, Option.some.injEq, Prod.mk.injEq] at h
    exact ⟨i, rfl, h.1, h.2.1, h.2.2⟩
/-- The rows of the session of the outright statements. -/
def seRows : List Rw := [⟨0, 0, 1, 4, 0⟩, ⟨0, 1, 2, 5, 1⟩, ⟨0, 2, 3, 6, 2⟩, ⟨1, 0, 1, 5, 2⟩, ⟨1, 1, 2, 6, 0⟩, ⟨1, 2, 3, 4, 1⟩]
theorem se_take {r t : Nat} (hr : r < 2) (ht : t < 3) : seRows.take (3 * r + (t + 1)) = seRows.take (3 * r + t) ++ [⟨(r : Int), (t : Int), 1 + (t : Int), 4 + ((t : Int) + (r : Int)) % 3, ((t : Int) + 2 * (r : Int)) % 3⟩] := by
  rcases (by omega : r = 0 ∨ r = 1) with rfl | rfl <;> rcases (by omega : t = 0 ∨ t = 1 ∨ t = 2) with rfl | rfl | rfl <;> rfl
theorem own_le {w : World} {B B' e size n : Nat} {v : Value} {xs : List Value} (h : w.ownsRow B e size v n xs) (hb : B' ≤ B) : w.ownsRow B' e size v n xs := by
  refine ⟨h.1, ?_⟩
  rcases h.2 with hn | ⟨g, cap, cur, hv, hg, rest⟩
  · exact .inl hn
  · exact .inr ⟨g, cap, cur, hv, Nat.le_trans hb hg, rest⟩
theorem own_setRow {w : World} {B e size n b : Nat} {v : Value} {xs : List Value} (h : w.ownsRow B e size v n xs) (hb : b < B) (C : Array Value) : (w.setRow b C).ownsRow B e size v n xs := by
  refine ⟨h.1, ?_⟩
  rcases h.2 with hn | ⟨g, cap, cur, hv, hg1, hg, rest⟩
  · exact .inl hn
  · refine .inr ⟨g, cap, cur, hv, hg1, ?_, rest⟩
    have : Blk w g e cur := hg
    exact this.row_other (by omega) C
structure EQ (w W : World) (p q B k : Nat) (v : Value) : Prop where
  own : W.ownsRow B 90 5 v k (rv (seRows.take k))
  below : Below w.heap.size w W
  bp : Blk W p 26 #[.int .i64 0, .int .i64 0, .int .i64 0, .int .i64 0, .int .i64 0, .slice none 0 0, .int .i64 0]
  bq : Blk W q 26 #[.int .i64 3, .int .i64 2, .int .i64 3, .int .i64 1, .int .i64 2, v, .int .i64 2]
  size : B ≤ W.heap.size
set_option maxRecDepth 100000 in
set_option maxHeartbeats 4000000 in
theorem session_any (w : World) : Calls Tryz.prog 29 #[] w (fun e w' => ∃ v, e = .returned (.agg (snC 3 2 3 1 2 v 2)) ∧ WS w' v seRows ∧ Below w.heap.size w w') := by
  obtain ⟨i0, hi0, hz0, hz1, hz2⟩ := info_parts_row
  go_enter Tryz.func29, Tryz.ntmps29
  go_upto_region 2 with fail
  have HB1 := Lib.hid ((Blk.new w 26 #[.int .i64 0, .int .i64 0, .int .i64 0, .int .i64 0, .int .i64 0, .slice none 0 0, .int .i64 0]).alloc (.cells #[.int .i64 3, .int .i64 2, .int .i64 3, .int .i64 1, .int .i64 2, .slice none 0 0, .int .i64 2] 26))
  have HB2 := Lib.hid (Blk.new (w.alloc (.cells #[.int .i64 0, .int .i64 0, .int .i64 0, .int .i64 0, .int .i64 0, .slice none 0 0, .int .i64 0] 26)) 26 #[.int .i64 3, .int .i64 2, .int .i64 3, .int .i64 1, .int .i64 2, .slice none 0 0, .int .i64 2])
  have BA := Lib.hid (bchain (below1 w (.cells #[.int .i64 0, .int .i64 0, .int .i64 0, .int .i64 0, .int .i64 0, .slice none 0 0, .int .i64 0] 26)) (below1 _ (.cells #[.int .i64 3, .int .i64 2, .int .i64 3, .int .i64 1, .int .i64 2, .slice none 0 0, .int .i64 2] 26)))
  have HSZ : Hid (((w.alloc (.cells #[.int .i64 0, .int .i64 0, .int .i64 0, .int .i64 0, .int .i64 0, .slice none 0 0, .int .i64 0] 26)).alloc (.cells #[.int .i64 3, .int .i64 2, .int .i64 3, .int .i64 1, .int .i64 2, .slice none 0 0, .int .i64 2] 26)).heap.size = w.heap.size + 1 + 1) := Lib.hid (by rw [size_al, size_al])
  rw [size_al] at HB2
  generalize (w.alloc (.cells #[.int .i64 0, .int .i64 0, .int .i64 0, .int .i64 0, .int .i64 0, .slice none 0 0, .int .i64 0] 26)).alloc (.cells #[.int .i64 3, .int .i64 2, .int .i64 3, .int .i64 1, .int .i64 2, .slice none 0 0, .int .i64 2] 26) = wa at *
  obtain ⟨p, hp⟩ : ∃ p, w.heap.size = p := ⟨_, rfl⟩
  obtain ⟨q, hq⟩ : ∃ q, p + 1 = q := ⟨_, rfl⟩
  rw [hp] at HB1 HB2 HSZ ⊢
  rw [hq] at HB2 HSZ ⊢
  have HPQ := Lib.hid (And.intro hp hq)
  clear hp hq
  have HQ : Hid (EQ w wa p q (q + 1) 0 (.slice none 0 0)) := Lib.hid ⟨World.ownsRow_nil _ _ _ _, BA.out, HB1.out, HB2.out, by rw [HSZ.out]; omega⟩
  clear HB1 HB2 BA HSZ
  go_wp2_with fail
  go_loopw [6] (fun s5 wr => ∃ (r : Nat) (v : Value), r ≤ 2 ∧ s5 = .int .i64 (r : Int) ∧ Hid (EQ w wr p q (q + 1) (3 * r) v)) (fun s5 _ => 2 - (intOf s5).toNat)
  case atStart => exact ⟨0, _, by omega, rfl, HQ⟩
  case round =>
    obtain ⟨r, v, hr, rfl, HQ1⟩ := hrel
    clear HQ
    by_cases hlt : r < 2
    · have t1 : decide ((r : Int) < 2) = true := decide_eq_true (by omega)
      go_wp2_with fail
      clear t1
      go_loopw [9] (fun s8 wr => ∃ (t : Nat) (v : Value), t ≤ 3 ∧ s8 = .int .i64 (t : Int) ∧ Hid (EQ w wr p q (q + 1) (3 * r + t) v)) (fun s8 _ => 3 - (intOf s8).toNat)
      case atStart => exact ⟨0, v, by omega, rfl, HQ1⟩
      case round =>
        obtain ⟨t, v, ht, rfl, HQ2⟩ := hrel
        clear HQ1
        by_cases hlt2 : t < 3
        · have t1 : decide ((t : Int) < 3) = true := decide_eq_true (by omega)
          have x5 := HQ2.out.bq.cell (j := 5) (v := v) rfl
          have f5 := HQ2.out.bq.free 5
          have a1 : IntKind.i64.wrap (1 + (t : Int)) = 1 + (t : Int) := IntWalk.i64_in _ (by omega)
          have a2 : IntKind.i64.wrap ((t : Int) + (r : Int)) = (t : Int) + (r : Int) := IntWalk.i64_in _ (by omega)
          have HO := Lib.hid (HQ2.out.own.alloc (.cells #[.int .i64 (r : Int), .int .i64 (t : Int), .int .i64 (1 + (t : Int)), .int .i64 (4 + ((t : Int) + (r : Int)) % 3), .int .i64 (((t : Int) + 2 * (r : Int)) % 3)] 90))
          have HW : Hid (SrcR (wr.alloc (.cells #[.int .i64 (r : Int), .int .i64 (t : Int), .int .i64 (1 + (t : Int)), .int .i64 (4 + ((t : Int) + (r : Int)) % 3), .int .i64 (((t : Int) + 2 * (r : Int)) % 3)] 90)) 5 (.slice (some ⟨wr.heap.size, 0, none⟩) 1 1) 1 (rv [⟨(r : Int), (t : Int), 1 + (t : Int), 4 + ((t : Int) + (r : Int)) % 3, ((t : Int) + 2 * (r : Int)) % 3⟩])) := Lib.hid (.some_ wr.heap.size 0 1 1 _ rfl (fun j u hj => by
            rw [Nat.zero_add]
            exact (Blk.new wr 90 #[.int .i64 (r : Int), .int .i64 (t : Int), .int .i64 (1 + (t : Int)), .int .i64 (4 + ((t : Int) + (r : Int)) % 3), .int .i64 (((t : Int) + 2 * (r : Int)) % 3)]).cell (by
              match j, hj with
              | 0, hj => exact hj
              | 1, hj => exact hj
              | 2, hj => exact hj
              | 3, hj => exact hj
              | 4, hj => exact hj
              | j + 5, hj => exact hj)))
          have HS : Hid (q + 1 ≤ (wr.alloc (.cells #[.int .i64 (r : Int), .int .i64 (t : Int), .int .i64 (1 + (t : Int)), .int .i64 (4 + ((t : Int) + (r : Int)) % 3), .int .i64 (((t : Int) + 2 * (r : Int)) % 3)] 90)).heap.size) := Lib.hid (by rw [size_al]; have := HQ2.out.size; omega)
          have HQB := Lib.hid (HQ2.out.bq.alloc (.cells #[.int .i64 (r : Int), .int .i64 (t : Int), .int .i64 (1 + (t : Int)), .int .i64 (4 + ((t : Int) + (r : Int)) % 3), .int .i64 (((t : Int) + 2 * (r : Int)) % 3)] 90))
          go_upto_region 9 with (at_builtin; refine appS rfl _ _ rfl Tryz.underlying22 hi0 hz0 hz1 hz2 rfl (by decide) _ (q + 1) v (3 * r + t) (rv (seRows.take (3 * r + t))) rfl HO.out (.slice (some ⟨wr.heap.size, 0, none⟩) 1 1) 1 (rv [⟨(r : Int), (t : Int), 1 + (t : Int), 4 + ((t : Int) + (r : Int)) % 3, ((t : Int) + 2 * (r : Int)) % 3⟩]) rfl HW.out (rv_one _) (by omega) (by decide) HS.out ?_; intro v' w1 hown1 hgrow1 hob1 hb1; obtain ⟨g1, c1, rfl, hg1, hc1⟩ := own_some hown1 (by omega); clear hob1 hg1 hc1; have f6 := (HQB.out.keep hb1 (Nat.lt_succ_self q)).free 5; have x6 := (HQB.out.keep hb1 (Nat.lt_succ_self q)).cell (j := 5) (v := v) rfl)
          have HQ3 : Hid (EQ w (w1.setCell ⟨q, 5, none⟩ (.slice (some ⟨g1, 0, none⟩) (3 * r + t + 1) c1)) p q (q + 1) (3 * r + (t + 1)) (.slice (some ⟨g1, 0, none⟩) (3 * r + t + 1) c1)) := Lib.hid ⟨by
              rw [se_take hlt hlt2, rv_app, ← Nat.add_assoc]
              exact ownsRow_setCell_below hown1 (Nat.lt_succ_self q) (.slice (some ⟨g1, 0, none⟩) (3 * r + t + 1) c1),
            ((bchain HQ2.out.below (below1 wr _)).grown hgrow1 (bchain HQ2.out.below (below1 wr _)).size (fun k hk => by have := (HQ2.out.own.lt k hk).1; have := HPQ.out; omega)).setCell (p := ⟨q, 5, none⟩) (by have := HPQ.out; simp only []; omega) (.slice (some ⟨g1, 0, none⟩) (3 * r + t + 1) c1),
            ((HQ2.out.bp.alloc _).keep hb1 (by have := HPQ.out; omega)).other (by have := HPQ.out; omega) 5 (.slice (some ⟨g1, 0, none⟩) (3 * r + t + 1) c1),
            (HQB.out.keep hb1 (Nat.lt_succ_self q)).set 5 (.slice (some ⟨g1, 0, none⟩) (3 * r + t + 1) c1),
            by have := hb1.size; have := HS.out; have e : (w1.setCell ⟨q, 5, none⟩ (.slice (some ⟨g1, 0, none⟩) (3 * r + t + 1) c1)).heap.size = w1.heap.size := (by simp); rw [e]; omega⟩
          generalize w1.setCell ⟨q, 5, none⟩ (.slice (some ⟨g1, 0, none⟩) (3 * r + t + 1) c1) = w2 at *
          clear hown1 hgrow1 hb1 f5 f6 x6 x5 HO HW HS HQB HQ2
          go_wp2_with fail
          go_roundw
          case rel => exact ⟨t + 1, (.slice (some ⟨g1, 0, none⟩) (3 * r + t + 1) c1), by omega, by go_num, HQ3⟩
          case measure => simp [intOf]; omega
        · obtain rfl : t = 3 := by omega
          rw [show ((3 : Nat) : Int) = 3 from rfl]
          go_wp2_with fail
          go_roundw
          case rel => exact ⟨r + 1, v, by omega, by go_num, HQ2⟩
          case measure => simp [intOf]; omega
    · obtain rfl : r = 2 := by omega
      rw [show ((2 : Nat) : Int) = 2 from rfl]
      have hpw : w.heap.size ≤ p := by have := HPQ.out; omega
      have hpq : p < q + 1 := by have := HPQ.out; omega
      obtain ⟨g, c, rfl, hg, hc⟩ := own_some HQ1.out.own (by omega)
      have la := loadAt_blk (T := 26) HQ1.out.bq Tryz.underlying26 rfl (by kernel_rfl)
      have st := storeAt_row (T := 26) (C := #[.int .i64 3, .int .i64 2, .int .i64 3, .int .i64 1, .int .i64 2, .slice (some ⟨g, 0, none⟩) (3 * 2) c, .int .i64 2]) HQ1.out.bp (by kernel_rfl) rfl (by kernel_rfl)
      have HF := Lib.hid (HQ1.out.bp.row #[.int .i64 3, .int .i64 2, .int .i64 3, .int .i64 1, .int .i64 2, .slice (some ⟨g, 0, none⟩) (3 * 2) c, .int .i64 2])
      have HX := Lib.hid (Below.setRow' hpw HQ1.out.below #[.int .i64 3, .int .i64 2, .int .i64 3, .int .i64 1, .int .i64 2, .slice (some ⟨g, 0, none⟩) (3 * 2) c, .int .i64 2])
      have HO := Lib.hid (own_setRow HQ1.out.own hpq #[.int .i64 3, .int .i64 2, .int .i64 3, .int .i64 1, .int .i64 2, .slice (some ⟨g, 0, none⟩) (3 * 2) c, .int .i64 2])
      clear HQ1 hg hc hpw hpq
      go_wp2_with (first
        | refine op_load (p := .pointer (some ⟨q, 0, none⟩)) 26 (.tmp 1) rfl rfl rfl la ?_
        | refine op_store (p := .pointer (some ⟨p, 0, none⟩)) (C := .agg #[.int .i64 3, .int .i64 2, .int .i64 3, .int .i64 1, .int .i64 2, .slice (some ⟨g, 0, none⟩) (3 * 2) c, .int .i64 2]) 26 (.tmp 0) (.tmp 36) rfl rfl rfl rfl rfl st ?_)
      clear la st
      generalize wr.setRow p #[.int .i64 3, .int .i64 2, .int .i64 3, .int .i64 1, .int .i64 2, .slice (some ⟨g, 0, none⟩) (3 * 2) c, .int .i64 2] = WF at *
      have lf := loadVar_blk (T := 26) HF.out Tryz.underlying26 rfl (by kernel_rfl)
      (try simp only [Exit.inBlock, Exit.then])
      refine bodyPost_ret (results_cell Tryz.results29 rfl lf) rfl ?_
      exact ⟨_, rfl, ls_of_own rwC_size HO.out, HX.out⟩
end Go.Proofs.YtpkmibmombpjpaaGreatDoor
