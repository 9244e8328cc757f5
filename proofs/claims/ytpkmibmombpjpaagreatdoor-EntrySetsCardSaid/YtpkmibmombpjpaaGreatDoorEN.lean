/- The numbers of an entry: numbers. -/
import Derived.Test.YtpkmibmombpjpaaGreatDoorEC
import Derived.Test.YtpkmibmombpjpaaGreatDoorRow
namespace Go.Proofs.YtpkmibmombpjpaaGreatDoor
open Go Go.RowKit

/-- The first k numbers, zeros behind. -/
def nuP (l : List Int) (k : Nat) : Array Value := ((l.take k ++ List.replicate (33 - k) (0 : Int)).map (Value.int .i64)).toArray
theorem nuP_size (l : List Int) (k : Nat) (hl : l.length = 33) (hk : k ≤ 33) : (nuP l k).size = 33 := by simp [nuP, hl]; omega
theorem nuP_all (l : List Int) (hl : l.length = 33) : nuP l 33 = nuC l := by
  unfold nuP nuC
  rw [List.take_of_length_le (by omega)]; simp
theorem nuP_get (l : List Int) (k i : Nat) (hl : l.length = 33) (hk : k ≤ i) (hi : i < 33) : (nuP l k)[i]? = some (.int .i64 0) := by
  unfold nuP
  rw [List.getElem?_toArray, List.getElem?_map, List.getElem?_append_right (by rw [List.length_take]; omega), List.getElem?_replicate, if_pos (by rw [List.length_take]; omega)]
  rfl
theorem nuP_set (l : List Int) (k : Nat) (n : Int) (hl : l.length = 33) (hn : l[k]? = some n) : (nuP l k).setIfInBounds k (.int .i64 n) = nuP l (k + 1) := by
  have hk : k < 33 := by rw [← hl]; exact (List.getElem?_eq_some_iff.1 hn).1
  unfold nuP
  rw [List.setIfInBounds_toArray]
  congr 1
  apply List.ext_getElem?
  intro i
  rw [List.getElem?_set, List.getElem?_map, List.getElem?_map]
  by_cases h : k = i
  · subst h
    rw [if_pos rfl, if_pos (by simp [hl]; omega), List.getElem?_append_left (by rw [List.length_take]; omega), List.getElem?_take, if_pos (by omega), hn]
    rfl
  · rw [if_neg h]
    congr 1
    by_cases hi : i < k
    · rw [List.getElem?_append_left (by rw [List.length_take]; omega), List.getElem?_append_left (by rw [List.length_take]; omega), List.getElem?_take, List.getElem?_take, if_pos hi, if_pos (by omega)]
    · rw [List.getElem?_append_right (by rw [List.length_take]; omega), List.getElem?_append_right (by rw [List.length_take]; omega), List.getElem?_replicate, List.getElem?_replicate, List.length_take, List.length_take]
      by_cases hi2 : i < 33
      · rw [if_pos (by omega), if_pos (by omega)]
      · rw [if_neg (by omega), if_neg (by omega)]
theorem nuP_same (l : List Int) (k : Nat) (hl : l.length = 33) (hn : l[k]? = some 0) : nuP l k = nuP l (k + 1) := by
  have hk : k < 33 := by rw [← hl]; exact (List.getElem?_eq_some_iff.1 hn).1
  rw [← nuP_set l k 0 hl hn]
  have h := nuP_get l k k hl (Nat.le_refl _) hk
  apply Array.ext_getElem?
  intro i
  rw [Array.getElem?_setIfInBounds]
  by_cases hi : k = i
  · subst hi
    rw [if_pos rfl, if_pos (by rw [nuP_size l k hl (by omega)]; omega), h]
  · rw [if_neg hi]
theorem nuC_one (l : List Int) : (nuC l).all (·.oneCell') = true := by
  rw [Array.all_eq_true_iff_forall_mem]
  intro v hv
  unfold nuC at hv
  rw [List.mem_toArray] at hv
  obtain ⟨n, _, rfl⟩ := List.mem_map.1 hv
  rfl
theorem Blk.third (w : World) (a b : Obj) (t : TypeId) (c : Array Value) : Blk (((w.alloc a).alloc b).alloc (.cells c t)) (w.heap.size + 1 + 1) t c := by
  have := Blk.new ((w.alloc a).alloc b) t c
  rwa [size_al, size_al] at this
theorem Blk.nuP_cells {b : Nat} {t : TypeId} {l : List Int} (hl : l.length = 33) : ∀ (ns : List Int) (k : Nat) (w : World), Blk w b t (nuP l k) → (∀ j n, ns[j]? = some n → l[k + j]? = some n) → Blk (w.setCells b k (ns.map (Value.int .i64))) b t (nuP l (k + ns.length))
  | [], _, _, h, _ => h
  | n :: ns, k, w, h, hn => by
    have h0 := h.set k (.int .i64 n)
    rw [nuP_set l k n hl (by simpa using hn 0 n rfl)] at h0
    have := Blk.nuP_cells hl ns (k + 1) _ h0 (fun j m hm => by
      have := hn (j + 1) m (by simpa using hm)
      rwa [show k + 1 + j = k + (j + 1) by omega])
    rw [List.length_cons, show k + (ns.length + 1) = k + 1 + ns.length by omega]
    exact this
theorem Below.setCells' {B b : Nat} {w0 : World} (hb : B ≤ b) : ∀ (vs : List Value) (k : Nat) (w : World), Below B w0 w → Below B w0 (w.setCells b k vs)
  | [], _, _, h => h
  | v :: vs, k, _, h => Below.setCells' hb vs (k + 1) _ (h.setCell (p := ⟨b, k, none⟩) hb v)
theorem Blk.otherCells {b b' : Nat} {t : TypeId} {c : Array Value} (hb : b ≠ b') : ∀ (vs : List Value) (k : Nat) (w : World), Blk w b t c → Blk (w.setCells b' k vs) b t c
  | [], _, _, h => h
  | v :: vs, k, _, h => Blk.otherCells hb vs (k + 1) _ (h.other hb k v)
theorem nums_out (e : En) (i : Nat) (hi : i < 4) : ∀ j n, (e.ou i).nums[j]? = some n → e.nums[7 + 6 * i + j]? = some n := by
  intro j n hj
  have h6 : j < 6 := (List.getElem?_eq_some_iff.1 hj).1
  rcases (by omega : i = 0 ∨ i = 1 ∨ i = 2 ∨ i = 3) with rfl | rfl | rfl | rfl <;> rcases (by omega : j = 0 ∨ j = 1 ∨ j = 2 ∨ j = 3 ∨ j = 4 ∨ j = 5) with rfl | rfl | rfl | rfl | rfl | rfl <;> exact hj
theorem nuP6 (e : En) : nuP e.nums 6 = #[.int .i64 e.rd, .int .i64 e.tb, .int .i64 e.bd, .int .i64 e.vs, .int .i64 (e.kd : Int), .int .i64 (e.fd : Int), .int .i64 0, .int .i64 0, .int .i64 0, .int .i64 0, .int .i64 0, .int .i64 0, .int .i64 0, .int .i64 0, .int .i64 0, .int .i64 0, .int .i64 0, .int .i64 0, .int .i64 0, .int .i64 0, .int .i64 0, .int .i64 0, .int .i64 0, .int .i64 0, .int .i64 0, .int .i64 0, .int .i64 0, .int .i64 0, .int .i64 0, .int .i64 0, .int .i64 0, .int .i64 0, .int .i64 0] := rfl
theorem nuP0 (l : List Int) : nuP l 0 = #[.int .i64 0, .int .i64 0, .int .i64 0, .int .i64 0, .int .i64 0, .int .i64 0, .int .i64 0, .int .i64 0, .int .i64 0, .int .i64 0, .int .i64 0, .int .i64 0, .int .i64 0, .int .i64 0, .int .i64 0, .int .i64 0, .int .i64 0, .int .i64 0, .int .i64 0, .int .i64 0, .int .i64 0, .int .i64 0, .int .i64 0, .int .i64 0, .int .i64 0, .int .i64 0, .int .i64 0, .int .i64 0, .int .i64 0, .int .i64 0, .int .i64 0, .int .i64 0, .int .i64 0] := rfl
theorem nuP_one (l : List Int) (k : Nat) : (nuP l k).all (·.oneCell') = true := by
  rw [Array.all_eq_true_iff_forall_mem]
  intro v hv
  unfold nuP at hv
  rw [List.mem_toArray] at hv
  obtain ⟨n, _, rfl⟩ := List.mem_map.1 hv
  rfl
attribute [irreducible] nuP
theorem bchain3 {w wr : World} {p0 : Nat} (h : Below p0 w wr) (a b c : Obj) (hp : w.heap.size = p0) : Below p0 w (((wr.alloc a).alloc b).alloc c) := by
  have := h.size
  exact ((h.alloc (by omega) a).alloc (by rw [size_al]; omega) b).alloc (by rw [size_al, size_al]; omega) c
set_option maxRecDepth 100000 in
set_option maxHeartbeats 4000000 in
theorem numbers_any (e : En) (he : e.In) (w : World) : Calls Tryz.prog 55 #[.agg (enC e)] w (fun r w' => r = .returned (.agg (nuC e.nums)) ∧ Below w.heap.size w w') := by
  have HL := Lib.hid (e.nums_len)
  have k1 : IntKind.i64.wrap (e.kd : Int) = (e.kd : Int) := IntWalk.i64_in _ (by have := he.kd; omega)
  have k2 : IntKind.i64.wrap (e.fd : Int) = (e.fd : Int) := IntWalk.i64_in _ (by have := he.fd; omega)
  have N0 := Lib.hid (nuP0 e.nums)
  have HB0 := two_blk w 34 (enC e) #[]
  clear HB0
  go_enter Tryz.func55, Tryz.ntmps55
  go_upto_region 1 with fail
  rw [← N0.out]
  have HA : Hid (Blk ((w.alloc (.cells (enC e) 34)).alloc (.cells (nuP e.nums 0) 98)) w.heap.size 34 (enC e)) := Lib.hid ((Blk.new w _ _).alloc _)
  have HR : Hid (Blk ((w.alloc (.cells (enC e) 34)).alloc (.cells (nuP e.nums 0) 98)) (w.heap.size + 1) 98 (nuP e.nums 0)) := Lib.hid (by
    have := Blk.new (w.alloc (.cells (enC e) 34)) 98 (nuP e.nums 0)
    rwa [size_al] at this)
  have HW : Hid (Below w.heap.size w ((w.alloc (.cells (enC e) 34)).alloc (.cells (nuP e.nums 0) 98))) := Lib.hid ((below1 w _).alloc (by simp) _)
  generalize (w.alloc (.cells (enC e) 34)).alloc (.cells (nuP e.nums 0) 98) = W1 at *
  have L1 : Hid (w.heap.size ≤ w.heap.size + 1 ∧ w.heap.size + 1 < W1.heap.size ∧ w.heap.size ≠ w.heap.size + 1) := Lib.hid ⟨by omega, HR.out.lt, by omega⟩
  generalize w.heap.size + 1 = p2 at *
  generalize hp0 : w.heap.size = p0 at *
  have x0 := HA.out.cell (enC_rd e)
  have x1 := HA.out.cell (enC_tb e)
  have x2 := HA.out.cell (enC_bd e)
  have x3 := HA.out.cell (enC_vs e)
  have x4 := HA.out.cell (enC_kd e)
  have x5 := HA.out.cell (enC_fd e)
  go_upto_region 2 with (first | (refine op_build 98 _ (nuP e.nums 6) rfl rfl (by kernel_rfl) ?_) | refine op_store 98 (.tmp 3) (.tmp 22) rfl rfl rfl rfl rfl (storeAt_row (Blk.new W1 _ _) (by rw [nuP_size _ _ HL.out (by omega)]; kernel_rfl) (by rw [nuP_size _ _ HL.out (by omega)]; kernel_rfl) (nuP_one _ _)) ?_; rw [setRow_new])
  have HA2 := Lib.hid (HA.out.alloc (.cells (nuP e.nums 6) 98))
  have HR2 := Lib.hid (HR.out.alloc (.cells (nuP e.nums 6) 98))
  have HN2 := Lib.hid (Blk.new W1 98 (nuP e.nums 6))
  have HW2 := Lib.hid (HW.out.alloc (by have := HW.out.size; omega) (.cells (nuP e.nums 6) 98))
  have L2 : Hid (p0 ≤ W1.heap.size ∧ p0 ≠ W1.heap.size ∧ p2 ≠ W1.heap.size) := Lib.hid (by have := L1.out; omega)
  clear x0 x1 x2 x3 x4 x5 HA HR HW N0
  generalize W1.alloc (.cells (nuP e.nums 6) 98) = W2 at *
  generalize W1.heap.size = p3 at *
  have x6 := HA2.out.cell (enC_tn e)
  obtain ⟨tb, htb⟩ : ∃ tb, e.tn = tb := ⟨_, rfl⟩
  rw [htb] at x6
  go_upto_if 24 with fail
  clear x6
  go_cut [] (fun wx => Hid (Blk wx p0 34 (enC e)) ∧ Hid (Blk wx p2 98 (nuP e.nums 0)) ∧ Hid (Blk wx p3 98 (nuP e.nums 7)) ∧ Hid (Below p0 w wx))
  case first =>
    rcases tb with _ | _
    · have ht := htb
      have h7 := nuP_same e.nums 6 HL.out (by show some (b01 e.tn) = _; rw [ht]; rfl)
      rw [h7] at HN2
      clear ht h7 htb
      go_wp2_with fail
      go_meet
      exact ⟨HA2, HR2, HN2, HW2⟩
    · have ht := htb
      have h7 := HN2.out.set 6 (.int .i64 1)
      rw [nuP_set e.nums 6 1 HL.out (by show some (b01 e.tn) = _; rw [ht]; rfl)] at h7
      have HN3 := Lib.hid h7
      have HA3 := Lib.hid (HA2.out.other L2.out.2.1 6 (.int .i64 1))
      have HR3 := Lib.hid (HR2.out.other L2.out.2.2 6 (.int .i64 1))
      have HW3 := Lib.hid (HW2.out.setCell (p := ⟨p3, 6, none⟩) L2.out.1 (.int .i64 1))
      have y6 := HN2.out.cell (nuP_get e.nums 6 6 HL.out (Nat.le_refl _) (by omega))
      have f6 := HN2.out.free 6
      clear ht h7 htb
      go_wp2_with fail
      go_meet
      exact ⟨HA3, HR3, HN3, HW3⟩
  case rest =>
    obtain ⟨HA3, HR3, HN3, HW3⟩ := hcut
    clear HA2 HR2 HN2 HW2 htb
    have lo := loadAt_run (w := wc) (T := 31) (b := p0) (off := 7) (C := ou4 e) Tryz.underlying31 rfl (by rw [ou4_size]; kernel_rfl) (fun j v hj => HA3.out.cell (ou4_get e j v hj))
    have IX := Lib.hid (ix_ou e)
    go_wp2_with (refine op_load 31 (.tmp 26) rfl rfl rfl lo ?_)
    clear lo
    go_loopw [28] (fun s28 wr => ∃ k : Nat, k ≤ 4 ∧ s28 = .int .i64 (k : Int) ∧ Hid (Blk wr p0 34 (enC e)) ∧ Hid (Blk wr p2 98 (nuP e.nums 0)) ∧ Hid (Blk wr p3 98 (nuP e.nums (7 + 6 * k))) ∧ Hid (Below p0 w wr)) (fun s28 _ => 4 - (intOf s28).toNat)
    case atStart => exact ⟨0, by omega, rfl, HA3, HR3, HN3, HW3⟩
    case round =>
      clear HA3 HR3 HN3 HW3
      obtain ⟨k, hk, rfl, HA3, HR3, HN3, HW3⟩ := hrel
      by_cases hlt : k < 4
      · have u1 : decide ((k : Int) < 4) = true := decide_eq_true (by omega)
        have ix := IX.out k hlt
        have HO := Lib.hid (nums_out e k hlt)
        have hoi : (e.ou k).In := outs_in he _ (List.mem_of_getElem? (e.ou_at k hlt))
        generalize e.ou k = o at *
        have k1 : IntKind.i64.wrap (o.lv : Int) = (o.lv : Int) := IntWalk.i64_in _ (by have := hoi.lv; omega)
        have k2 : IntKind.i64.wrap (o.dn : Int) = (o.dn : Int) := IntWalk.i64_in _ (by have := hoi.dn; omega)
        have k3 : IntKind.i64.wrap (o.rk : Int) = (o.rk : Int) := IntWalk.i64_in _ (by have := hoi.rk; omega)
        have k4 : IntKind.i64.wrap (o.dc : Int) = (o.dc : Int) := IntWalk.i64_in _ (by have := hoi.dc; omega)
        go_upto_region 9 with fail
        have HA4 := Lib.hid (((HA3.out.alloc (.cells #[.int .u8 (o.lv : Int), .int .u8 (o.dn : Int), .int .u8 (o.rk : Int), .int .u8 (o.dc : Int), .int .i64 o.tr, .int .i64 o.wt] 30)).alloc (.cells #[.int .u8 (o.lv : Int), .int .u8 (o.dn : Int), .int .u8 (o.rk : Int), .int .u8 (o.dc : Int)] 28)).alloc (.cells #[.int .i64 (o.lv : Int), .int .i64 (o.dn : Int), .int .i64 (o.rk : Int), .int .i64 (o.dc : Int), .int .i64 o.tr, .int .i64 o.wt] 158))
        have HR4 := Lib.hid (((HR3.out.alloc (.cells #[.int .u8 (o.lv : Int), .int .u8 (o.dn : Int), .int .u8 (o.rk : Int), .int .u8 (o.dc : Int), .int .i64 o.tr, .int .i64 o.wt] 30)).alloc (.cells #[.int .u8 (o.lv : Int), .int .u8 (o.dn : Int), .int .u8 (o.rk : Int), .int .u8 (o.dc : Int)] 28)).alloc (.cells #[.int .i64 (o.lv : Int), .int .i64 (o.dn : Int), .int .i64 (o.rk : Int), .int .i64 (o.dc : Int), .int .i64 o.tr, .int .i64 o.wt] 158))
        have HN4 := Lib.hid (((HN3.out.alloc (.cells #[.int .u8 (o.lv : Int), .int .u8 (o.dn : Int), .int .u8 (o.rk : Int), .int .u8 (o.dc : Int), .int .i64 o.tr, .int .i64 o.wt] 30)).alloc (.cells #[.int .u8 (o.lv : Int), .int .u8 (o.dn : Int), .int .u8 (o.rk : Int), .int .u8 (o.dc : Int)] 28)).alloc (.cells #[.int .i64 (o.lv : Int), .int .i64 (o.dn : Int), .int .i64 (o.rk : Int), .int .i64 (o.dc : Int), .int .i64 o.tr, .int .i64 o.wt] 158))
        have HS4 := Lib.hid (Blk.third wr (.cells #[.int .u8 (o.lv : Int), .int .u8 (o.dn : Int), .int .u8 (o.rk : Int), .int .u8 (o.dc : Int), .int .i64 o.tr, .int .i64 o.wt] 30) (.cells #[.int .u8 (o.lv : Int), .int .u8 (o.dn : Int), .int .u8 (o.rk : Int), .int .u8 (o.dc : Int)] 28) 158 #[.int .i64 (o.lv : Int), .int .i64 (o.dn : Int), .int .i64 (o.rk : Int), .int .i64 (o.dc : Int), .int .i64 o.tr, .int .i64 o.wt])
        have HW4 := Lib.hid (bchain3 HW3.out (.cells #[.int .u8 (o.lv : Int), .int .u8 (o.dn : Int), .int .u8 (o.rk : Int), .int .u8 (o.dc : Int), .int .i64 o.tr, .int .i64 o.wt] 30) (.cells #[.int .u8 (o.lv : Int), .int .u8 (o.dn : Int), .int .u8 (o.rk : Int), .int .u8 (o.dc : Int)] 28) (.cells #[.int .i64 (o.lv : Int), .int .i64 (o.dn : Int), .int .i64 (o.rk : Int), .int .i64 (o.dc : Int), .int .i64 o.tr, .int .i64 o.wt] 158) hp0)
        have hne : p3 ≠ wr.heap.size + 1 + 1 := by have := HN3.out.lt; omega
        have HNE := Lib.hid hne
        clear HA3 HR3 HN3 HW3 ix k1 k2 k3 k4 hne
        generalize ((wr.alloc (.cells #[.int .u8 (o.lv : Int), .int .u8 (o.dn : Int), .int .u8 (o.rk : Int), .int .u8 (o.dc : Int), .int .i64 o.tr, .int .i64 o.wt] 30)).alloc (.cells #[.int .u8 (o.lv : Int), .int .u8 (o.dn : Int), .int .u8 (o.rk : Int), .int .u8 (o.dc : Int)] 28)).alloc (.cells #[.int .i64 (o.lv : Int), .int .i64 (o.dn : Int), .int .i64 (o.rk : Int), .int .i64 (o.dc : Int), .int .i64 o.tr, .int .i64 o.wt] 158) = W4 at *
        obtain ⟨p7, hp7⟩ : ∃ p7, wr.heap.size + 1 + 1 = p7 := ⟨_, rfl⟩
        rw [hp7] at HS4 HNE ⊢
        clear hp7
        obtain ⟨q, hq⟩ : ∃ q, 7 + 6 * k = q := ⟨_, rfl⟩
        have hq2 : q + 6 ≤ 31 := by omega
        have hq3 : 7 + 6 * (k + 1) = q + 6 := by omega
        have e1 : IntKind.i64.wrap ((k : Int) * 6) = 6 * (k : Int) := by rw [Int.mul_comm]; exact IntWalk.i64_in _ (by omega)
        have e2 : IntKind.i64.wrap (7 + 6 * (k : Int)) = (q : Int) := by rw [show 7 + 6 * (k : Int) = (q : Int) by omega]; exact IntWalk.i64_in _ (by omega)
        rw [hq] at HN4 HO
        have f1 : (0 : Int) ≤ (q : Int) ∧ (q : Int) ≤ 33 := by omega
        refine rest_begin (by kernel_rfl) ?_
        have HA5 : Hid (Blk W4.drew p0 34 (enC e)) := HA4
        have HR5 : Hid (Blk W4.drew p2 98 (nuP e.nums 0)) := HR4
        have HN5 : Hid (Blk W4.drew p3 98 (nuP e.nums q)) := HN4
        have HS5 : Hid (Blk W4.drew p7 158 #[.int .i64 (o.lv : Int), .int .i64 (o.dn : Int), .int .i64 (o.rk : Int), .int .i64 (o.dc : Int), .int .i64 o.tr, .int .i64 o.wt]) := HS4
        have HW5 := Lib.hid HW4.out.drew
        clear HA4 HR4 HN4 HS4 HW4
        generalize W4.drew = W5 at *
        refine rest_quiet (fun w' => ∃ n, w' = W5.drewN n) 5 (by kernel_rfl) ⟨0, rfl⟩ ?_
        simp only [List.take_succ_cons, List.take_zero, List.drop_zero]
        have sl : ∀ W, (Instr.sliceAt 98 (.pointer (some ⟨p3, 0, none⟩)) (some (.int .i64 (q : Int))) none none).run Tryz.prog W = .ok (.slice (some ⟨p3, q, none⟩) (33 - q) (33 - q)) W := fun W => by
          have := slice_lo (T := 98) (b := p3) (off := 0) (q := q) Tryz.underlying98 (size := 1) (fun w => by kernel_rfl) (by omega) W
          rwa [if_neg (by omega), Nat.zero_add, Nat.mul_one] at this
        iterate 3 (quiet_step (fail))
        refine q_slice (p := .pointer (some ⟨p3, 0, none⟩)) (l := some (.int .i64 (q : Int))) (h := none) (m := none) 98 (.tmp 3) (some (.tmp 53)) none none rfl rfl rfl rfl rfl rfl sl ?_
        repeat (quiet_step (fail))
        refine wpQuiet_nil ?_
        rintro wq ⟨nq, rfl⟩
        have HA6 : Hid (Blk (W5.drewN nq) p0 34 (enC e)) := HA5
        have HR6 : Hid (Blk (W5.drewN nq) p2 98 (nuP e.nums 0)) := HR5
        have HN6 : Hid (Blk (W5.drewN nq) p3 98 (nuP e.nums q)) := HN5
        have HS6 : Hid (Blk (W5.drewN nq) p7 158 #[.int .i64 (o.lv : Int), .int .i64 (o.dn : Int), .int .i64 (o.rk : Int), .int .i64 (o.dc : Int), .int .i64 o.tr, .int .i64 o.wt]) := HS5
        have HW6 := Lib.hid (below_drewN HW5.out nq)
        clear HA5 HR5 HN5 HS5 HW5 sl
        generalize W5.drewN nq = W6 at *
        have hcp : (Builtin.copy_ #[55, 55] 3 #[.slice (some ⟨p3, q, none⟩) (33 - q) (33 - q), .slice (some ⟨p7, 0, none⟩) 6 6]).run Tryz.prog W6 = .ok (.int .i64 6) (W6.setCells p3 q (o.nums.map (Value.int .i64))) := by
          refine run_copy_cells W6 _ _ _ 3 p3 q (33 - q) (33 - q) ⟨p7, 0, none⟩ 6 6 (o.nums.map (Value.int .i64)) Tryz.underlying55 (by kernel_rfl) (by show 6 = min 6 (33 - q); omega) (fun j v hj => ?_) (fun j hj => ?_) (fun j hj => HN6.out.free _) (by intro v hv; obtain ⟨n, _, rfl⟩ := List.mem_map.1 hv; rfl)
          · rw [add_at, Nat.zero_add]
            exact HS6.out.cell (by rw [← hj]; unfold Ou.nums; simp)
          · rw [HN6.out.cell (nuP_get e.nums q (q + j) HL.out (by omega) (by have hj6 : j < 6 := hj; omega))]; rfl
        have HN7 : Hid (Blk (W6.setCells p3 q (o.nums.map (Value.int .i64))) p3 98 (nuP e.nums (q + 6))) := Lib.hid (Blk.nuP_cells HL.out o.nums q W6 HN6.out (fun j n hj => HO.out j n hj))
        have HA7 : Hid (Blk (W6.setCells p3 q (o.nums.map (Value.int .i64))) p0 34 (enC e)) := Lib.hid (Blk.otherCells L2.out.2.1 _ q W6 HA6.out)
        have HR7 : Hid (Blk (W6.setCells p3 q (o.nums.map (Value.int .i64))) p2 98 (nuP e.nums 0)) := Lib.hid (Blk.otherCells L2.out.2.2 _ q W6 HR6.out)
        have HW7 : Hid (Below p0 w (W6.setCells p3 q (o.nums.map (Value.int .i64)))) := Lib.hid (Below.setCells' L2.out.1 _ q W6 HW6.out)
        clear HA6 HR6 HN6 HS6 HW6 HO
        refine rest_forced 1 (by kernel_rfl) ?_
        go_wp2_with fail
        refine rest_done rfl ?_
        clear hcp
        generalize W6.setCells p3 q (o.nums.map (Value.int .i64)) = W7 at *
        have e3 : IntKind.i64.wrap ((k : Int) + 1) = ((k + 1 : Nat) : Int) := by rw [show (((k + 1 : Nat) : Int)) = (k : Int) + 1 by omega]; exact IntWalk.i64_in _ (by omega)
        go_wp2_with fail
        go_roundw
        case rel => exact ⟨k + 1, by omega, by simp, HA7, HR7, by rw [hq3]; exact HN7, HW7⟩
        case measure => simp [intOf]; omega
      · obtain rfl : k = 4 := by omega
        have u1 : decide ((4 : Int) < 4) = false := rfl
        rw [show ((4 : Nat) : Int) = 4 from rfl]
        clear IX
        have x31 := HA3.out.cell (enC_a0 e)
        have x32 := HA3.out.cell (enC_a1 e)
        have y31 := HN3.out.cell (nuP_get e.nums 31 31 HL.out (by omega) (by omega))
        have y32 := HN3.out.cell (nuP_get e.nums 31 32 HL.out (by omega) (by omega))
        have f31 := HN3.out.free 31
        have f32 := HN3.out.free 32
        have h1 := HN3.out.set 31 (.int .i64 e.a0)
        rw [nuP_set e.nums 31 e.a0 HL.out rfl] at h1
        have h2 := h1.set 32 (.int .i64 e.a1)
        rw [nuP_set e.nums 32 e.a1 HL.out rfl, nuP_all _ HL.out] at h2
        have HN4 := Lib.hid h2
        have HR4 := Lib.hid ((HR3.out.other L2.out.2.2 31 (.int .i64 e.a0)).other L2.out.2.2 32 (.int .i64 e.a1))
        have HW4 := Lib.hid ((HW3.out.setCell (p := ⟨p3, 31, none⟩) L2.out.1 (.int .i64 e.a0)).setCell (p := ⟨p3, 32, none⟩) L2.out.1 (.int .i64 e.a1))
        clear h1 h2 HN3 HR3 HW3 HA3
        go_wp2_with fail
        go_region
        have HN5 : Hid (Blk ((wr.setCell ⟨p3, 31, none⟩ (.int .i64 e.a0)).setCell ⟨p3, 32, none⟩ (.int .i64 e.a1)).drew p3 98 (nuC e.nums)) := HN4
        have HR5 : Hid (Blk ((wr.setCell ⟨p3, 31, none⟩ (.int .i64 e.a0)).setCell ⟨p3, 32, none⟩ (.int .i64 e.a1)).drew p2 98 (nuP e.nums 0)) := HR4
        have HW5 := Lib.hid HW4.out.drew
        clear HN4 HR4 HW4 x31 x32 y31 y32 f31 f32
        generalize ((wr.setCell ⟨p3, 31, none⟩ (.int .i64 e.a0)).setCell ⟨p3, 32, none⟩ (.int .i64 e.a1)).drew = W9 at *
        have hn33 : (nuC e.nums).size = 33 := by rw [nuC_size, HL.out]
        have lo := loadAt_blk (T := 98) HN5.out Tryz.underlying98 rfl (by rw [hn33]; kernel_rfl)
        have st := storeAt_row (T := 98) (C := nuC e.nums) HR5.out (by rw [hn33]; kernel_rfl) (by rw [hn33, nuP_size _ _ HL.out (by omega)]) (nuC_one _)
        have HF := Lib.hid (HR5.out.row (nuC e.nums))
        have HX := Lib.hid (Below.setRow' L1.out.1 HW5.out (nuC e.nums))
        clear HN5 HR5 HW5
        go_wp2_with (first
          | refine op_load (p := .pointer (some ⟨p3, 0, none⟩)) 98 (.tmp 3) rfl rfl rfl lo ?_
          | refine op_store (p := .pointer (some ⟨p2, 0, none⟩)) (C := .agg (nuC e.nums)) 98 (.tmp 2) (.tmp 66) rfl rfl rfl rfl rfl st ?_)
        clear lo st
        generalize W9.setRow p2 (nuC e.nums) = WF at *
        have lf := loadVar_blk (T := 98) HF.out Tryz.underlying98 rfl (by rw [hn33]; kernel_rfl)
        (try simp only [Exit.inBlock, Exit.then])
        refine bodyPost_ret (results_cell Tryz.results55 rfl lf) rfl ?_
        exact ⟨rfl, by rw [hp0]; exact HX.out⟩
end Go.Proofs.YtpkmibmombpjpaaGreatDoor
