/- The reference's reader: skip, has, number, byte0, outcome. -/
import Derived.Test.YtpkmibmombpjpaaGreatDoorRB
import Derived.Test.YtpkmibmombpjpaaGreatDoorErP
import Derived.Test.YtpkmibmombpjpaaGreatDoorKcM
set_option linter.unusedSimpArgs false
namespace Go.Proofs.YtpkmibmombpjpaaGreatDoor
open Go Go.RowKit

def rdC (r : Rd) : Array Value := #[.string (bS r.t), .bool r.bad]
theorem bS_tl (s : List UInt8) : (bS s).toList = s := by
  rw [ByteArray.toList_eq]
  rfl
theorem bS_take2 (s : List UInt8) (k : Nat) : (bS s).extract 0 k = bS (s.take k) := by
  apply ByteArray.ext
  simp [bS, ByteArray.data_extract]
theorem bS_drop (s : List UInt8) (k : Nat) : (bS s).extract k s.length = bS (s.drop k) := by
  apply ByteArray.ext
  simp [bS, ByteArray.data_extract]
  rw [List.take_of_length_le (by simp)]
theorem prefix_take {s t : List UInt8} : s.isPrefixOf t = true ↔ s.length ≤ t.length ∧ t.take s.length = s := by
  rw [List.isPrefixOf_iff_prefix]
  constructor
  · rintro ⟨r, rfl⟩
    simp
  · rintro ⟨-, h⟩
    have := List.take_append_drop s.length t
    rw [h] at this
    exact ⟨_, this⟩
set_option maxRecDepth 100000 in
set_option maxHeartbeats 2000000 in
theorem rskip_any (r : Rd) (s : List UInt8) (hr : r.t.length ≤ 1000000) (hs : s.length ≤ 1000000) (w : World) : Calls Tryz.prog 71 #[.agg (rdC r), .string (bS s)] w (fun e w' => e = .returned (.agg (rdC (rskip r s))) ∧ Below w.heap.size w w') := by
  obtain ⟨t, bad⟩ := r
  have hr : t.length ≤ 1000000 := hr
  have zt : (bS t).size = t.length := bS_size t
  have zs : (bS s).size = s.length := bS_size s
  by_cases hp : s.isPrefixOf t = true
  · obtain ⟨h1, h2⟩ := prefix_take.1 hp
    have HX : Hid (rskip ⟨t, bad⟩ s = ⟨t.drop s.length, bad⟩) := Lib.hid (by unfold rskip; rw [if_pos hp])
    have e1 : (bS t).extract 0 s.length = bS s := by rw [bS_take2, h2]
    have e2 := bS_drop t s.length
    have c1 : decide (((bS t).size : Int) < ((bS s).size : Int)) = false := decide_eq_false (by omega)
    unfold rdC
    rw [HX.out]
    clear hp h2 HX
    go_enter Tryz.func71, Tryz.ntmps71
    go_wp2_with fail
    have lf := loadVar_blk (T := 116) (Blk.new (w.alloc (.cells #[.string (bS (t.drop s.length)), .bool bad] 116)) 116 #[.string (bS (t.drop s.length)), .bool bad]) Tryz.underlying116 rfl (by kernel_rfl)
    rw [size_al] at lf
    (try simp only [Exit.inBlock, Exit.then])
    refine bodyPost_ret (results_cell Tryz.results71 rfl lf) rfl ?_
    exact ⟨rfl, below2 _ _ _⟩
  · have HX : Hid (rskip ⟨t, bad⟩ s = ⟨t, true⟩) := Lib.hid (by unfold rskip; rw [if_neg hp])
    unfold rdC
    rw [HX.out]
    by_cases hl : t.length < s.length
    · have c1 : decide (((bS t).size : Int) < ((bS s).size : Int)) = true := decide_eq_true (by omega)
      clear hp HX
      go_enter Tryz.func71, Tryz.ntmps71
      go_wp2_with fail
      have lf := loadVar_blk (T := 116) (Blk.new (w.alloc (.cells #[.string (bS t), .bool true] 116)) 116 #[.string (bS t), .bool true]) Tryz.underlying116 rfl (by kernel_rfl)
      rw [size_al] at lf
      (try simp only [Exit.inBlock, Exit.then])
      refine bodyPost_ret (results_cell Tryz.results71 rfl lf) rfl ?_
      exact ⟨rfl, below2 _ _ _⟩
    · have hne : t.take s.length ≠ s := fun h => hp (prefix_take.2 ⟨by omega, h⟩)
      have e1 := bS_take2 t s.length
      have c1 : decide (((bS t).size : Int) < ((bS s).size : Int)) = false := decide_eq_false (by omega)
      have c2 : ((bS (t.take s.length)).toList == (bS s).toList) = false := by rw [bS_tl, bS_tl]; exact beq_eq_false_iff_ne.2 hne
      clear hp HX hne
      go_enter Tryz.func71, Tryz.ntmps71
      go_wp2_with fail
      have lf := loadVar_blk (T := 116) (Blk.new (w.alloc (.cells #[.string (bS t), .bool true] 116)) 116 #[.string (bS t), .bool true]) Tryz.underlying116 rfl (by kernel_rfl)
      rw [size_al] at lf
      (try simp only [Exit.inBlock, Exit.then])
      refine bodyPost_ret (results_cell Tryz.results71 rfl lf) rfl ?_
      exact ⟨rfl, below2 _ _ _⟩
theorem rskip_len (r : Rd) (s : List UInt8) : (rskip r s).t.length ≤ r.t.length := by
  unfold rskip
  split <;> simp
set_option maxRecDepth 100000 in
theorem rhas_any (r : Rd) (s : List UInt8) (hr : r.t.length ≤ 1000000) (hs : s.length ≤ 1000000) (w : World) : Calls Tryz.prog 72 #[.agg (rdC r), .string (bS s)] w (fun e w' => e = .returned (.bool (rhas r s)) ∧ Below w.heap.size w w') := by
  have SK := Lib.hid (fun W => rskip_any r s hr hs W)
  have HB := Lib.hid (show rhas r s = !(rskip r s).bad by unfold rhas; rfl)
  unfold rdC at SK ⊢
  obtain ⟨T, hT⟩ : ∃ T, rskip r s = T := ⟨_, rfl⟩
  rw [hT] at SK HB
  clear hT hr hs
  have HW := Lib.hid (below1 w (.cells #[.string (bS r.t), .bool r.bad] 116))
  go_enter Tryz.func72, Tryz.ntmps72
  go_wp2_with fail
  refine (SK.out _).mono ?_
  rintro x w2 ⟨rfl, hb⟩
  have HW2 := Lib.hid (HW.out.trans (hb.mono HW.out.size))
  clear hb HW SK
  go_wp2_with (guard_target =~ wpList _ _ _ (⟨some 8, _, _, _, _, _⟩ :: _) _ _; refine opl_val_w (v := .bool T.bad) (w' := w2) (by kernel_rfl) (by kernel_rfl) ?_)
  go_ret
  exact ⟨by rw [HB.out]; rfl, HW2.out⟩
theorem sidx {t : List UInt8} {i : Nat} {c : UInt8} (h : t[i]? = some c) (W : World) : (Instr.index 9 (.string (bS t)) (.int .i64 (i : Int))).run Tryz.prog W = .ok (.int .u8 (c.toNat : Int)) W := by
  have hlt : i < t.length := (List.getElem?_eq_some_iff.1 h).1
  have hz := bS_size t
  rw [run_index_string (h := Tryz.underlying9), dif_pos ⟨by omega, by omega⟩]
  have he : (bS t)[((i : Nat) : Int).toNat]'(by rw [hz]; omega) = c := by
    have h2 := (List.getElem?_eq_some_iff.1 h).2
    show t.toArray[((i : Nat) : Int).toNat]'(by simp; omega) = c
    simp [h2]
  rw [he]
theorem exec_sidx {o : Oper} {w : World} {a : Act} {x y : Operand} {t : List UInt8} {i : Nat} {c : UInt8} (ho : o.op = .index 9 x y) (hx : a.eval x = .string (bS t)) (hy : a.eval y = .int .i64 (i : Int)) (h : t[i]? = some c) :
    (execOp a.eval o).run Tryz.prog w = .ok (.value (.int .u8 (c.toNat : Int))) w := by
  simp only [execOp, ho, hx, hy, Sem.run_bind, sidx h, Result.andThen_ok, Sem.run_pure]
theorem exec_sneq {o : Oper} {w : World} {a : Act} {U : TypeId} {x y : Operand} {l m : List UInt8} (ho : o.op = .binOp .neq 9 x y U) (hx : a.eval x = .string (bS l)) (hy : a.eval y = .string (bS m)) :
    (execOp a.eval o).run Tryz.prog w = .ok (.value (.bool (decide (l ≠ m)))) w := by
  have e1 : ((bS l).toList == (bS m).toList) = decide (l = m) := by
    rw [bS_tl, bS_tl, Bool.eq_iff_iff, beq_iff_eq, decide_eq_true_iff]
  have e2 : decide (l ≠ m) = !decide (l = m) := by simp
  rw [e2, ← e1]
  generalize bS l = L at *
  generalize bS m = M at *
  clear e1 e2
  simp only [execOp, ho, hx, hy]
  go_simp
theorem exec_stake {o : Oper} {w : World} {a : Act} {x y : Operand} {t : List UInt8} {i : Nat} (ho : o.op = .slice 9 x none (some y) none) (hx : a.eval x = .string (bS t)) (hy : a.eval y = .int .i64 (i : Int)) (h : i ≤ t.length) :
    (execOp a.eval o).run Tryz.prog w = .ok (.value (.string (bS (t.take i)))) w := by
  have h1 : (0 : Int) ≤ (i : Int) := by omega
  have h2 : (i : Int) ≤ ((bS t).size : Int) := by rw [bS_size]; omega
  rw [← bS_take2]
  generalize bS t = L at *
  simp only [execOp, ho, Option.map_some, Option.map_none, hx, hy]
  go_simp
theorem tw_yes {T : List UInt8} {k : Nat} {c : UInt8} (hk : k ≤ (T.takeWhile isD).length) (h : T[k]? = some c) (hc : isD c = true) : k < (T.takeWhile isD).length ∧ (T.takeWhile isD)[k]? = some c := by
  have hlt : k < (T.takeWhile isD).length := by
    rcases Nat.lt_or_ge k (T.takeWhile isD).length with h1 | h1
    · exact h1
    · have e : k = (T.takeWhile isD).length := by omega
      rw [e] at h
      have := dropW_head isD T c h
      rw [hc] at this
      cases this
  refine ⟨hlt, ?_⟩
  rw [takeW_is, List.getElem?_take, if_pos hlt, h]
theorem tw_no {T : List UInt8} {k : Nat} (hk : k ≤ (T.takeWhile isD).length) (h : ∀ c, T[k]? = some c → isD c = false) : k = (T.takeWhile isD).length := by
  rcases Nat.lt_or_ge k (T.takeWhile isD).length with h1 | h1
  · exfalso
    obtain ⟨c, hc⟩ : ∃ c, (T.takeWhile isD)[k]? = some c := ⟨_, List.getElem?_eq_getElem h1⟩
    have hT : T[k]? = some c := by
      rw [takeW_is, List.getElem?_take, if_pos h1] at hc
      exact hc
    have hall : ∀ (l : List UInt8), ∀ x ∈ l.takeWhile isD, isD x = true := by
      intro l
      induction l with
      | nil => intro x hx; simp at hx
      | cons a l ih =>
        intro x hx
        simp only [List.takeWhile] at hx
        split at hx
        · rcases List.mem_cons.1 hx with rfl | hx
          · assumption
          · exact ih x hx
        · simp at hx
    have h2 := hall T c (List.mem_of_getElem? hc)
    rw [h c hT] at h2
    cases h2
  · omega
/-- What number has read behind k digits. -/
def rpart (t : List UInt8) (k : Nat) : Int := ((rdigs t).take k).foldl (dstep (rsign t)) 0
theorem rpart_step {t : List UInt8} {k : Nat} {c : UInt8} (h : (rdigs t)[k]? = some c) : rpart t (k + 1) = dstep (rsign t) (rpart t k) c := by
  unfold rpart
  rw [take_more h, List.foldl_append]; rfl
theorem rpart_end (t : List UInt8) : rpart t (rdigs t).length = rval t := by unfold rpart rval; rw [List.take_length]
theorem rlen_le (t : List UInt8) : rlen t ≤ t.length := by
  have h1 := takeW_len isD (t.drop (rfirst t))
  have h2 : rfirst t ≤ t.length := by
    unfold rfirst
    cases t with
    | nil => simp
    | cons c q => split <;> simp
  unfold rlen rdigs
  rw [List.length_drop] at h1
  omega
set_option maxRecDepth 100000 in
set_option maxHeartbeats 4000000 in
theorem rnum_any (r : Rd) (hr : r.t.length ≤ 1000000) (w : World) (he : Env w) : Calls Tryz.prog 70 #[.agg (rdC r)] w (fun e w' => e = .returned (.tuple #[.agg (rdC (rnumR r)), .int .i64 (rnumV r)]) ∧ Below w.heap.size w w') := by
  obtain ⟨T, bad⟩ := r
  have hr : T.length ≤ 1000000 := hr
  have HX : Hid ((rok T = true → rnumR ⟨T, bad⟩ = ⟨T.drop (rlen T), bad⟩ ∧ rnumV ⟨T, bad⟩ = rval T) ∧ (rok T = false → rnumR ⟨T, bad⟩ = ⟨T, true⟩ ∧ rnumV ⟨T, bad⟩ = 0)) := Lib.hid (by
    unfold rnumR rnumV
    exact ⟨fun h => by simp [h], fun h => by simp [h]⟩)
  have HOK : Hid (rok T = !(decide (19 < (rdigs T).length) || decide (Lib.itoa (rval T) ≠ T.take (rlen T)))) := Lib.hid rfl
  have zt : (bS T).size = T.length := bS_size T
  have HE := Lib.hid he
  have hrl := rlen_le T
  have HRL : Hid (rlen T = rfirst T + (rdigs T).length) := Lib.hid rfl
  have hf1 : rfirst T ≤ 1 := by unfold rfirst; split <;> omega
  have HSG : Hid ((rfirst T = 1 → rsign T = -1) ∧ (rfirst T = 0 → rsign T = 1)) := Lib.hid (by
    unfold rfirst rsign
    split <;> simp)
  have HFI : Hid ((∀ c q, T = c :: q → rfirst T = if c = 45 then 1 else 0) ∧ (T = [] → rfirst T = 0)) := Lib.hid (by
    refine ⟨fun c q h => ?_, fun h => by rw [h]; rfl⟩
    rw [h]
    unfold rfirst
    simp)
  have HIN := Lib.hid (fold_in (rsign T) (rdigs T) 0 ⟨by decide, by decide⟩)
  have HTW : Hid (rdigs T = (T.drop (rfirst T)).takeWhile isD) := Lib.hid rfl
  unfold rdC
  clear he
  go_enter Tryz.func70, Tryz.ntmps70
  go_upto_region 1 with fail
  have HA := Lib.hid ((Blk.new w 116 #[.string (bS T), .bool bad]).alloc (.cells #[.string ⟨#[]⟩, .bool false] 116))
  have HB := Lib.hid (Blk.new (w.alloc (.cells #[.string (bS T), .bool bad] 116)) 116 #[.string ⟨#[]⟩, .bool false])
  have HW := Lib.hid (below2 w (.cells #[.string (bS T), .bool bad] 116) (.cells #[.string ⟨#[]⟩, .bool false] 116))
  rw [size_al] at HB
  generalize (w.alloc (.cells #[.string (bS T), .bool bad] 116)).alloc (.cells #[.string ⟨#[]⟩, .bool false] 116) = W1 at *
  have HE1 := Lib.hid (HE.out.keep HW.out)
  obtain ⟨p2, hp2⟩ : ∃ p, w.heap.size + 1 = p := ⟨_, rfl⟩
  obtain ⟨p1, hp1⟩ : ∃ p, w.heap.size = p := ⟨_, rfl⟩
  have HPP : Hid (p1 ≠ p2 ∧ w.heap.size ≤ p1 ∧ w.heap.size ≤ p2) := Lib.hid (by omega)
  rw [hp2] at HB ⊢
  rw [hp1] at HA ⊢
  clear hp1 hp2 HE
  have x0 := HA.out.cell (j := 0) rfl
  go_upto_region 2 with fail
  go_cut [19] (fun s19 wx => s19 = .bool (decide (rfirst T = 1)) ∧ wx = W1)
  case first =>
    cases T with
    | nil =>
      have hf := HFI.out.2 rfl
      have HF := Lib.hid hf
      have c0 : (bS ([] : List UInt8)).size = 0 := rfl
      clear HX HOK hrl HRL hf1 HSG HFI HIN HTW hf zt
      go_wp2_with fail
      go_meet
      exact ⟨by rw [HF.out]; rfl, rfl⟩
    | cons c q =>
      have HF := Lib.hid (HFI.out.1 c q rfl)
      have hpos : (0 : Int) < (((c :: q).length : Nat) : Int) := by simp
      have hi : (c :: q)[0]? = some c := rfl
      clear HX HOK hrl HRL hf1 HSG HFI HIN HTW
      generalize c :: q = T at *
      have c1 : decide ((0 : Int) < ((bS T).size : Int)) = true := decide_eq_true (by omega)
      by_cases hc : c = 45
      · have c2 : ((c.toNat : Int) == 45) = true := by rw [hc]; rfl
        have HF2 : Hid (rfirst T = 1) := Lib.hid (by rw [HF.out, if_pos hc])
        clear HF hc
        go_wp2_with (guard_target =~ wpList _ _ _ (⟨some 17, _, _, _, _, _⟩ :: _) _ _; refine opl_val_w (by kernel_rfl) (exec_sidx (t := T) (i := 0) rfl rfl rfl hi) ?_)
        go_meet
        exact ⟨by rw [HF2.out]; rfl, rfl⟩
      · have c2 : ((c.toNat : Int) == 45) = false := by
          rw [beq_eq_false_iff_ne]
          intro h
          exact hc (UInt8.toNat_inj.1 (by show c.toNat = 45; omega))
        have HF2 : Hid (rfirst T = 0) := Lib.hid (by rw [HF.out, if_neg hc])
        clear HF hc
        go_wp2_with (guard_target =~ wpList _ _ _ (⟨some 17, _, _, _, _, _⟩ :: _) _ _; refine opl_val_w (by kernel_rfl) (exec_sidx (t := T) (i := 0) rfl rfl rfl hi) ?_)
        go_meet
        exact ⟨by rw [HF2.out]; rfl, rfl⟩
  case rest =>
  obtain ⟨rfl, rfl⟩ := hcut
  go_upto_if 19 with fail
  go_cut [4] (fun s4 wx => s4 = .int .i64 ((rfirst T : Nat) : Int) ∧ wx = wc)
  case first =>
    have hq : rfirst T = 0 ∨ rfirst T = 1 := by omega
    generalize rfirst T = f at *
    clear HX HOK hrl HRL hf1 HSG HFI HIN HTW
    rcases hq with rfl | rfl
    · go_wp2_with fail
      go_meet
      exact ⟨rfl, rfl⟩
    · go_wp2_with fail
      go_meet
      exact ⟨rfl, rfl⟩
  case rest =>
  obtain ⟨rfl, rfl⟩ := hcut
  clear HFI
  obtain ⟨f, hf⟩ : ∃ f, rfirst T = f := ⟨_, rfl⟩
  obtain ⟨dl, hdl⟩ : ∃ dl, (rdigs T).length = dl := ⟨_, rfl⟩
  obtain ⟨L, hL⟩ : ∃ L, rlen T = L := ⟨_, rfl⟩
  rw [hf] at HRL hf1 HSG HTW ⊢
  rw [hdl] at HRL HOK
  rw [hL] at HRL HOK HX hrl
  have HDL := Lib.hid hdl
  have hLf := HRL.out
  clear hf hdl hL
  go_upto_block 0 with fail
  go_cut [4, 6] (fun s4 s6 wx => s4 = .int .i64 ((L : Nat) : Int) ∧ s6 = .int .i64 (rval T) ∧ wx = wc)
  case first =>
    go_wp2_with fail
    go_loopw [4, 6] (fun s4 s6 wr => ∃ k : Nat, k ≤ dl ∧ s4 = .int .i64 ((f + k : Nat) : Int) ∧ s6 = .int .i64 (rpart T k) ∧ wr = wc) (fun s4 _ _ => f + dl - (intOf s4).toNat)
    case atStart => exact ⟨0, Nat.zero_le _, rfl, rfl, rfl⟩
    case round =>
      obtain ⟨k, hk, rfl, rfl, rfl⟩ := hrel
      obtain ⟨i, hi⟩ : ∃ i, f + k = i := ⟨_, rfl⟩
      rw [hi]
      have hil : i ≤ T.length := by omega
      have HI := Lib.hid hi
      have ei : IntKind.i64.wrap ((i : Int) + 1) = ((i + 1 : Nat) : Int) := by rw [show (((i + 1 : Nat) : Int)) = (i : Int) + 1 by omega]; exact IntWalk.i64_in _ (by omega)
      have hkd : k ≤ ((T.drop f).takeWhile isD).length := by rw [← HTW.out, HDL.out]; exact hk
      by_cases hlt : i < T.length
      · obtain ⟨c, hc⟩ : ∃ c, T[i]? = some c := ⟨_, List.getElem?_eq_getElem hlt⟩
        have hcd : (T.drop f)[k]? = some c := by rw [List.getElem?_drop, hi]; exact hc
        have t1 : decide ((i : Int) < (T.length : Int)) = true := decide_eq_true (by omega)
        have hc0 : c.toNat < 256 := c.toNat_lt
        by_cases hd : isD c = true
        · obtain ⟨h1, h2⟩ := tw_yes hkd hcd hd
          rw [← HTW.out] at h1 h2
          rw [HDL.out] at h1
          have HST := Lib.hid (rpart_step h2)
          have hd2 := of_decide_eq_true hd
          have t2 : decide ((48 : Int) ≤ (c.toNat : Int)) = true := decide_eq_true (by omega)
          have t3 : decide ((c.toNat : Int) ≤ 57) = true := decide_eq_true (by omega)
          have e8 : IntKind.u8.wrap ((c.toNat : Int) - 48) = (c.toNat : Int) - 48 := by show ((c.toNat : Int) - 48) % 256 = _; omega
          have e8b : ((c.toNat : Int) - 48) % 256 = (c.toNat : Int) - 48 := by omega
          have e9 : IntKind.i64.wrap ((c.toNat : Int) - 48) = (c.toNat : Int) - 48 := IntWalk.i64_in _ (by omega)
          have e10 : IntKind.i64.wrap (-((c.toNat : Int) - 48)) = -((c.toNat : Int) - 48) := IntWalk.i64_in _ (by omega)
          have HH := Lib.hid (And.intro h1 hk)
          generalize rpart T k = N at *
          obtain ⟨dv, hdv⟩ : ∃ dv, (c.toNat : Int) - 48 = dv := ⟨_, rfl⟩
          unfold dstep at HST
          rw [hdv] at HST e8 e8b e9 e10
          have hf2 : f = 0 ∨ f = 1 := by omega
          have HK2 := Lib.hid hk
          clear hi hcd hd hd2 h1 h2 hkd hc0 hk
          rcases hf2 with hf2 | hf2
          · have t4 : ((f : Int) == 1) = false := by rw [hf2]; rfl
            have HS2 : Hid (rpart T (k + 1) = wrap64 (wrap64 (10 * N) + dv)) := Lib.hid (by rw [HST.out, HSG.out.2 hf2, Int.one_mul])
            clear HST hf2
            go_wp2_with (first
              | (guard_target =~ wpList _ _ _ (⟨some 32, _, _, _, _, _⟩ :: _) _ _; refine opl_val_w (by kernel_rfl) (exec_sidx (t := T) (i := i) rfl rfl rfl hc) ?_)
              | (guard_target =~ wpList _ _ _ (⟨some 39, _, _, _, _, _⟩ :: _) _ _; refine opl_val_w (by kernel_rfl) (exec_sidx (t := T) (i := i) rfl rfl rfl hc) ?_)
              | (guard_target =~ wpList _ _ _ (⟨some 45, _, _, _, _, _⟩ :: _) _ _; refine opl_val_w (by kernel_rfl) (exec_sidx (t := T) (i := i) rfl rfl rfl hc) ?_))
            go_roundw
            case rel => exact ⟨k + 1, HH.out.1, by rw [← HI.out]; first | rfl | simp [Nat.add_assoc], by rw [HS2.out], by first | trivial | rfl⟩
            case measure => have := HH.out.1; have := HI.out; simp only [intOf]; omega
          · have t4 : ((f : Int) == 1) = true := by rw [hf2]; rfl
            have HS2 : Hid (rpart T (k + 1) = wrap64 (wrap64 (10 * N) + -dv)) := Lib.hid (by rw [HST.out, HSG.out.1 hf2, Int.neg_one_mul])
            clear HST hf2
            go_wp2_with (first
              | (guard_target =~ wpList _ _ _ (⟨some 32, _, _, _, _, _⟩ :: _) _ _; refine opl_val_w (by kernel_rfl) (exec_sidx (t := T) (i := i) rfl rfl rfl hc) ?_)
              | (guard_target =~ wpList _ _ _ (⟨some 39, _, _, _, _, _⟩ :: _) _ _; refine opl_val_w (by kernel_rfl) (exec_sidx (t := T) (i := i) rfl rfl rfl hc) ?_)
              | (guard_target =~ wpList _ _ _ (⟨some 45, _, _, _, _, _⟩ :: _) _ _; refine opl_val_w (by kernel_rfl) (exec_sidx (t := T) (i := i) rfl rfl rfl hc) ?_))
            go_roundw
            case rel => exact ⟨k + 1, HH.out.1, by rw [← HI.out]; first | rfl | simp [Nat.add_assoc], by rw [HS2.out], by first | trivial | rfl⟩
            case measure => have := HH.out.1; have := HI.out; simp only [intOf]; omega
        · have hk2 := tw_no hkd (fun d h => by rw [hcd] at h; cases h; simpa using hd)
          rw [← HTW.out, HDL.out] at hk2
          have HEE : Hid (rpart T k = rval T ∧ i = L) := Lib.hid ⟨by rw [hk2, ← HDL.out]; exact rpart_end T, by omega⟩
          rcases (by have := hd; unfold isD at this; rw [decide_eq_true_eq] at this; omega : c.toNat < 48 ∨ 57 < c.toNat) with h | h
          · have t2 : decide ((48 : Int) ≤ (c.toNat : Int)) = false := decide_eq_false (by omega)
            clear hi hcd hd hkd hc0 hk h hk2
            go_wp2_with (first
              | (guard_target =~ wpList _ _ _ (⟨some 32, _, _, _, _, _⟩ :: _) _ _; refine opl_val_w (by kernel_rfl) (exec_sidx (t := T) (i := i) rfl rfl rfl hc) ?_)
              | (guard_target =~ wpList _ _ _ (⟨some 39, _, _, _, _, _⟩ :: _) _ _; refine opl_val_w (by kernel_rfl) (exec_sidx (t := T) (i := i) rfl rfl rfl hc) ?_))
            go_meet
            exact ⟨by rw [HEE.out.2], by rw [HEE.out.1], rfl⟩
          · have t2 : decide ((48 : Int) ≤ (c.toNat : Int)) = true := decide_eq_true (by omega)
            have t3 : decide ((c.toNat : Int) ≤ 57) = false := decide_eq_false (by omega)
            clear hi hcd hd hkd hc0 hk h hk2
            go_wp2_with (first
              | (guard_target =~ wpList _ _ _ (⟨some 32, _, _, _, _, _⟩ :: _) _ _; refine opl_val_w (by kernel_rfl) (exec_sidx (t := T) (i := i) rfl rfl rfl hc) ?_)
              | (guard_target =~ wpList _ _ _ (⟨some 39, _, _, _, _, _⟩ :: _) _ _; refine opl_val_w (by kernel_rfl) (exec_sidx (t := T) (i := i) rfl rfl rfl hc) ?_))
            go_meet
            exact ⟨by rw [HEE.out.2], by rw [HEE.out.1], rfl⟩
      · have hk2 := tw_no hkd (fun d h => by
          have := (List.getElem?_eq_some_iff.1 h).1
          rw [List.length_drop] at this
          omega)
        rw [← HTW.out, HDL.out] at hk2
        have HEE : Hid (rpart T k = rval T ∧ i = L) := Lib.hid ⟨by rw [hk2, ← HDL.out]; exact rpart_end T, by omega⟩
        have t1 : decide ((i : Int) < (T.length : Int)) = false := decide_eq_false (by omega)
        clear hi hkd hk hk2
        go_wp2_with fail
        go_meet
        exact ⟨by rw [HEE.out.2], by rw [HEE.out.1], rfl⟩
  case rest =>
    obtain ⟨rfl, rfl, rfl⟩ := hcut
    clear HTW HSG
    have HI := Lib.hid (fun W (h : Env W) => itoa_any (rval T) W h HIN.out)
    have e60 : IntKind.i64.wrap ((L : Int) - (f : Int)) = (dl : Int) := by
      rw [show (L : Int) - (f : Int) = (dl : Int) by omega]
      exact IntWalk.i64_in _ (by omega)
    clear hLf
    generalize rval T = N at *
    generalize hIA : Lib.itoa N = IA at *
    clear hIA x0
    go_upto_region 12 with fail
    go_cut [70] (fun s70 wx => s70 = .bool (!(rok T)) ∧ Hid (Blk wx p1 116 #[.string (bS T), .bool bad]) ∧ Hid (Blk wx p2 116 #[.string ⟨#[]⟩, .bool false]) ∧ Hid (Below w.heap.size w wx))
    case first =>
      by_cases hd : 19 < dl
      · have t61 : decide ((19 : Int) < (dl : Int)) = true := decide_eq_true (by omega)
        have HN : Hid (rok T = false) := Lib.hid (by rw [HOK.out, decide_eq_true hd]; rfl)
        clear HX HOK hd
        go_quiet (fail)
        go_wp2_with fail
        go_meet
        exact ⟨by rw [HN.out]; rfl, Lib.hid (HA.out.drewN _), Lib.hid (HB.out.drewN _), Lib.hid (below_drewN HW.out _)⟩
      · have t61 : decide ((19 : Int) < (dl : Int)) = false := decide_eq_false (by omega)
        have HN : Hid (rok T = !(decide (IA ≠ T.take L))) := Lib.hid (by rw [HOK.out, decide_eq_false hd]; rfl)
        clear HX HOK hd
        refine rest_begin (by kernel_rfl) ?_
        have HA2 : Hid (Blk wc.drew p1 116 #[.string (bS T), .bool bad]) := HA
        have HB2 : Hid (Blk wc.drew p2 116 #[.string ⟨#[]⟩, .bool false]) := HB
        have HE2 := Lib.hid (HE1.out.keep (Below.refl _ wc).drew)
        have HW2 := Lib.hid HW.out.drew
        clear HA HB HE1 HW
        generalize wc.drew = W2 at *
        clear wc
        refine rest_flow3 [some 58, some 59, some 60, some 61, some 62, some 63, some 64, some 65, some 66, some 67, some 68, some 69] [Sp.is (.int .i64 (L : Int)), Sp.is (.int .i64 (f : Int)), Sp.is (.int .i64 (dl : Int)), Sp.is (.bool false), Sp.is (.bool false), Sp.is (.int .i64 N), Sp.is (.string (bS IA)), Sp.is (.pointer (some ⟨p1, 0, none⟩)), Sp.is (.string (bS T)), Sp.is (.int .i64 (L : Int)), Sp.is (.string (bS (T.take L))), Sp.is (.bool (decide (IA ≠ T.take L)))] [false, false, false, false, false, false, false, false, false, false, false, false] 12 (by kernel_rfl) (by kernel_rfl) (fun u F hF => ?_) (fun u w' hbF hsF hold hap => ?_)
        case refine_1 =>
          have E4 : F.eval (.tmp 4) = (.int .i64 (L : Int)) := (congrArg (fun a => Act.eval a (.tmp 4)) hF).trans (eval_out [some 58, some 59, some 60, some 61, some 62, some 63, some 64, some 65, some 66, some 67, some 68, some 69] 0 _ (by decide))
          have E5 : F.eval (.tmp 5) = (.int .i64 (f : Int)) := (congrArg (fun a => Act.eval a (.tmp 5)) hF).trans (eval_out [some 58, some 59, some 60, some 61, some 62, some 63, some 64, some 65, some 66, some 67, some 68, some 69] 0 _ (by decide))
          have D58 : F.eval (.tmp 58) = u 0 := (congrArg (fun a => Act.eval a (.tmp 58)) hF).trans (eval_in [some 58, some 59, some 60, some 61, some 62, some 63, some 64, some 65, some 66, some 67, some 68, some 69] 0 0 _ (by decide) (by omega) rfl (of_decide_eq_true (by kernel_rfl)))
          have D59 : F.eval (.tmp 59) = u 1 := (congrArg (fun a => Act.eval a (.tmp 59)) hF).trans (eval_in [some 58, some 59, some 60, some 61, some 62, some 63, some 64, some 65, some 66, some 67, some 68, some 69] 0 1 _ (by decide) (by omega) rfl (of_decide_eq_true (by kernel_rfl)))
          have D60 : F.eval (.tmp 60) = u 2 := (congrArg (fun a => Act.eval a (.tmp 60)) hF).trans (eval_in [some 58, some 59, some 60, some 61, some 62, some 63, some 64, some 65, some 66, some 67, some 68, some 69] 0 2 _ (by decide) (by omega) rfl (of_decide_eq_true (by kernel_rfl)))
          have D61 : F.eval (.tmp 61) = u 3 := (congrArg (fun a => Act.eval a (.tmp 61)) hF).trans (eval_in [some 58, some 59, some 60, some 61, some 62, some 63, some 64, some 65, some 66, some 67, some 68, some 69] 0 3 _ (by decide) (by omega) rfl (of_decide_eq_true (by kernel_rfl)))
          have E6 : F.eval (.tmp 6) = (.int .i64 N) := (congrArg (fun a => Act.eval a (.tmp 6)) hF).trans (eval_out [some 58, some 59, some 60, some 61, some 62, some 63, some 64, some 65, some 66, some 67, some 68, some 69] 0 _ (by decide))
          have D62 : F.eval (.tmp 62) = u 4 := (congrArg (fun a => Act.eval a (.tmp 62)) hF).trans (eval_in [some 58, some 59, some 60, some 61, some 62, some 63, some 64, some 65, some 66, some 67, some 68, some 69] 0 4 _ (by decide) (by omega) rfl (of_decide_eq_true (by kernel_rfl)))
          have D63 : F.eval (.tmp 63) = u 5 := (congrArg (fun a => Act.eval a (.tmp 63)) hF).trans (eval_in [some 58, some 59, some 60, some 61, some 62, some 63, some 64, some 65, some 66, some 67, some 68, some 69] 0 5 _ (by decide) (by omega) rfl (of_decide_eq_true (by kernel_rfl)))
          have E1 : F.eval (.tmp 1) = (.pointer (some ⟨p1, 0, none⟩)) := (congrArg (fun a => Act.eval a (.tmp 1)) hF).trans (eval_out [some 58, some 59, some 60, some 61, some 62, some 63, some 64, some 65, some 66, some 67, some 68, some 69] 0 _ (by decide))
          have D65 : F.eval (.tmp 65) = u 7 := (congrArg (fun a => Act.eval a (.tmp 65)) hF).trans (eval_in [some 58, some 59, some 60, some 61, some 62, some 63, some 64, some 65, some 66, some 67, some 68, some 69] 0 7 _ (by decide) (by omega) rfl (of_decide_eq_true (by kernel_rfl)))
          have D66 : F.eval (.tmp 66) = u 8 := (congrArg (fun a => Act.eval a (.tmp 66)) hF).trans (eval_in [some 58, some 59, some 60, some 61, some 62, some 63, some 64, some 65, some 66, some 67, some 68, some 69] 0 8 _ (by decide) (by omega) rfl (of_decide_eq_true (by kernel_rfl)))
          have D67 : F.eval (.tmp 67) = u 9 := (congrArg (fun a => Act.eval a (.tmp 67)) hF).trans (eval_in [some 58, some 59, some 60, some 61, some 62, some 63, some 64, some 65, some 66, some 67, some 68, some 69] 0 9 _ (by decide) (by omega) rfl (of_decide_eq_true (by kernel_rfl)))
          have D64 : F.eval (.tmp 64) = u 6 := (congrArg (fun a => Act.eval a (.tmp 64)) hF).trans (eval_in [some 58, some 59, some 60, some 61, some 62, some 63, some 64, some 65, some 66, some 67, some 68, some 69] 0 6 _ (by decide) (by omega) rfl (of_decide_eq_true (by kernel_rfl)))
          have D68 : F.eval (.tmp 68) = u 10 := (congrArg (fun a => Act.eval a (.tmp 68)) hF).trans (eval_in [some 58, some 59, some 60, some 61, some 62, some 63, some 64, some 65, some 66, some 67, some 68, some 69] 0 10 _ (by decide) (by omega) rfl (of_decide_eq_true (by kernel_rfl)))
          clear hF
          refine ⟨?_, ?_, ?_, ?_, ?_, ?_, ?_, ?_, ?_, ?_, ?_, ?_, trivial⟩
          · intro w1 hb hd K hK
            have e4 := E4
            exact op_val (v := (.int .i64 (L : Int))) rfl (by simp only [execOp, List.map_toArray, List.map_cons, List.map_nil, e4]; go_simp) (hK _ _ (show _ = _ from rfl) (Below.refl _ _) (Fresh.no _ _ _))
          · intro w1 hb hd K hK
            have e5 := E5
            exact op_val (v := (.int .i64 (f : Int))) rfl (by simp only [execOp, List.map_toArray, List.map_cons, List.map_nil, e5]; go_simp) (hK _ _ (show _ = _ from rfl) (Below.refl _ _) (Fresh.no _ _ _))
          · intro w1 hb hd K hK
            have e58 := D58.trans (show u 0 = (.int .i64 (L : Int)) from hd ⟨0, .data⟩ (by simp) rfl (by omega))
            have e59 := D59.trans (show u 1 = (.int .i64 (f : Int)) from hd ⟨1, .data⟩ (by simp) rfl (by omega))
            exact op_val (v := (.int .i64 (dl : Int))) rfl (by simp only [execOp, List.map_toArray, List.map_cons, List.map_nil, e58, e59]; go_simp) (hK _ _ (show _ = _ from rfl) (Below.refl _ _) (Fresh.no _ _ _))
          · intro w1 hb hd K hK
            have e60 := D60.trans (show u 2 = (.int .i64 (dl : Int)) from hd ⟨2, .data⟩ (by simp) rfl (by omega))
            exact op_val (v := (.bool false)) rfl (by simp only [execOp, List.map_toArray, List.map_cons, List.map_nil, e60]; go_simp) (hK _ _ (show _ = _ from rfl) (Below.refl _ _) (Fresh.no _ _ _))
          · intro w1 hb hd K hK
            have e61 := D61.trans (show u 3 = (.bool false) from hd ⟨3, .data⟩ (by simp) rfl (by omega))
            exact op_val (v := (.bool false)) rfl (by simp only [execOp, List.map_toArray, List.map_cons, List.map_nil, e61]; go_simp) (hK _ _ (show _ = _ from rfl) (Below.refl _ _) (Fresh.no _ _ _))
          · intro w1 hb hd K hK
            have e6 := E6
            have g := D62.trans (show u 4 = .bool false from hd ⟨4, .guard⟩ (by simp) rfl (by omega))
            exact op_val_w (v := (.int .i64 N)) (wanted_of (j := 4) (s := 62) (b := false) (by kernel_rfl) (by kernel_rfl) g) (by simp only [execOp, List.map_toArray, List.map_cons, List.map_nil, e6]; go_simp) (hK _ _ (show _ = _ from rfl) (Below.refl _ _) (Fresh.no _ _ _))
          · intro w1 hb hd K hK
            have e63 := D63.trans (show u 5 = (.int .i64 N) from hd ⟨5, .data⟩ (by simp) rfl (by omega))
            have g := D62.trans (show u 4 = .bool false from hd ⟨4, .guard⟩ (by simp) rfl (by omega))
            refine op_call_w (R := fun v w2 => v = (.string (bS IA)) ∧ Below w1.heap.size w1 w2) (f := 52) (args := #[.int .i64 N]) (wanted_of (j := 4) (s := 62) (b := false) (by kernel_rfl) (by kernel_rfl) g) (by simp only [execOp]; go_simp; first | exact eval_get e63 | exact ⟨rfl, eval_get e63⟩ | exact ⟨eval_get e63, rfl⟩ | (simp only [Act.eval] at *; simp_all)) ((HI.out w1 (HE2.out.keep hb)).mono fun e w2 hh => ⟨_, hh.1, rfl, hh.2⟩) (fun v w2 hh => hK _ _ hh.1 hh.2 (Fresh.no _ _ _))
          · intro w1 hb hd K hK
            have e1 := E1
            have g := D62.trans (show u 4 = .bool false from hd ⟨4, .guard⟩ (by simp) rfl (by omega))
            exact op_val_w (v := (.pointer (some ⟨p1, 0, none⟩))) (wanted_of (j := 4) (s := 62) (b := false) (by kernel_rfl) (by kernel_rfl) g) (by simp only [execOp, List.map_toArray, List.map_cons, List.map_nil, e1]; go_simp) (hK _ _ (show _ = _ from rfl) (Below.refl _ _) (Fresh.no _ _ _))
          · intro w1 hb hd K hK
            have e65 := D65.trans (show u 7 = (.pointer (some ⟨p1, 0, none⟩)) from hd ⟨7, .data⟩ (by simp) rfl (by omega))
            have g := D62.trans (show u 4 = .bool false from hd ⟨4, .guard⟩ (by simp) rfl (by omega))
            have c0 : w1.cell? ⟨p1, 0, none⟩ = some (.string (bS T)) := (HA2.out.kp2 hb).cell (j := 0) rfl
            exact op_val_w (v := (.string (bS T))) (wanted_of (j := 4) (s := 62) (b := false) (by kernel_rfl) (by kernel_rfl) g) (by simp only [execOp, e65]; go_simp) (hK _ _ (show _ = _ from rfl) (Below.refl _ _) (Fresh.no _ _ _))
          · intro w1 hb hd K hK
            have e4 := E4
            have g := D62.trans (show u 4 = .bool false from hd ⟨4, .guard⟩ (by simp) rfl (by omega))
            exact op_val_w (v := (.int .i64 (L : Int))) (wanted_of (j := 4) (s := 62) (b := false) (by kernel_rfl) (by kernel_rfl) g) (by simp only [execOp, List.map_toArray, List.map_cons, List.map_nil, e4]; go_simp) (hK _ _ (show _ = _ from rfl) (Below.refl _ _) (Fresh.no _ _ _))
          · intro w1 hb hd K hK
            have e66 := D66.trans (show u 8 = (.string (bS T)) from hd ⟨8, .data⟩ (by simp) rfl (by omega))
            have e67 := D67.trans (show u 9 = (.int .i64 (L : Int)) from hd ⟨9, .data⟩ (by simp) rfl (by omega))
            have g := D62.trans (show u 4 = .bool false from hd ⟨4, .guard⟩ (by simp) rfl (by omega))
            exact op_val_w (v := (.string (bS (T.take L)))) (wanted_of (j := 4) (s := 62) (b := false) (by kernel_rfl) (by kernel_rfl) g) (exec_stake rfl e66 e67 hrl) (hK _ _ (show _ = _ from rfl) (Below.refl _ _) (Fresh.no _ _ _))
          · intro w1 hb hd K hK
            have e64 := D64.trans (show u 6 = (.string (bS IA)) from hd ⟨6, .data⟩ (by simp) rfl (by omega))
            have e68 := D68.trans (show u 10 = (.string (bS (T.take L))) from hd ⟨10, .data⟩ (by simp) rfl (by omega))
            have g := D62.trans (show u 4 = .bool false from hd ⟨4, .guard⟩ (by simp) rfl (by omega))
            exact op_val_w (v := (.bool (decide (IA ≠ T.take L)))) (wanted_of (j := 4) (s := 62) (b := false) (by kernel_rfl) (by kernel_rfl) g) (exec_sneq rfl e64 e68) (hK _ _ (show _ = _ from rfl) (Below.refl _ _) (Fresh.no _ _ _))
        have hv58 : u 0 = (.int .i64 (L : Int)) := (show u 0 = _ from hsF 0 (by omega) (by omega))
        have hv59 : u 1 = (.int .i64 (f : Int)) := (show u 1 = _ from hsF 1 (by omega) (by omega))
        have hv60 : u 2 = (.int .i64 (dl : Int)) := (show u 2 = _ from hsF 2 (by omega) (by omega))
        have hv61 : u 3 = (.bool false) := (show u 3 = _ from hsF 3 (by omega) (by omega))
        have hv62 : u 4 = (.bool false) := (show u 4 = _ from hsF 4 (by omega) (by omega))
        have hv63 : u 5 = (.int .i64 N) := (show u 5 = _ from hsF 5 (by omega) (by omega))
        have hv64 : u 6 = (.string (bS IA)) := (show u 6 = _ from hsF 6 (by omega) (by omega))
        have hv65 : u 7 = (.pointer (some ⟨p1, 0, none⟩)) := (show u 7 = _ from hsF 7 (by omega) (by omega))
        have hv66 : u 8 = (.string (bS T)) := (show u 8 = _ from hsF 8 (by omega) (by omega))
        have hv67 : u 9 = (.int .i64 (L : Int)) := (show u 9 = _ from hsF 9 (by omega) (by omega))
        have hv68 : u 10 = (.string (bS (T.take L))) := (show u 10 = _ from hsF 10 (by omega) (by omega))
        have hv69 : u 11 = (.bool (decide (IA ≠ T.take L))) := (show u 11 = _ from hsF 11 (by omega) (by omega))
        simp only [putRow, hv58, hv59, hv60, hv61, hv62, hv63, hv64, hv65, hv66, hv67, hv68, hv69, Act.put, List.setIfInBounds_toArray, List.set_cons_succ, List.set_cons_zero]
        clear hsF hold hap hv58 hv59 hv60 hv61 hv62 hv63 hv64 hv65 hv66 hv67 hv68 hv69
        have HA3 := Lib.hid (HA2.out.kp2 hbF)
        have HB3 := Lib.hid (HB2.out.kp2 hbF)
        have HW3 := Lib.hid (HW2.out.trans (hbF.mono HW2.out.size))
        clear HA2 HB2 HE2 HW2 hbF HI e60
        clear W2
        refine rest_forced 1 (by kernel_rfl) ?_
        simp only [List.drop_succ_cons, List.drop_zero, List.take_succ_cons, List.take_zero]
        obtain ⟨q, hq⟩ : ∃ q, decide (IA ≠ T.take L) = q := ⟨_, rfl⟩
        rw [hq] at HN ⊢
        clear hq
        go_wp2_with fail
        refine rest_done rfl ?_
        go_wp2_with fail
        go_meet
        exact ⟨by rw [HN.out, Bool.not_not], HA3, HB3, HW3⟩
    case rest =>
      obtain ⟨rfl, HA2, HB2, HW2⟩ := hcut
      clear HA HB HW HE1 HOK HI
      have c0 := HA2.out.cell (j := 0) rfl
      have c1 := HA2.out.cell (j := 1) rfl
      have f0 := HA2.out.free 0
      have f1 := HA2.out.free 1
      rcases hok : rok T with _ | _
      · obtain ⟨hx1, hx2⟩ := HX.out.2 hok
        have HR := Lib.hid (And.intro hx1 hx2)
        have HA3 := Lib.hid (HA2.out.set 1 (.bool true))
        have HB3 := Lib.hid (HB2.out.other HPP.out.1.symm 1 (.bool true))
        have HW3 := Lib.hid (HW2.out.setCell (p := ⟨p1, 1, none⟩) HPP.out.2.1 (.bool true))
        clear HX hx1 hx2 hok
        go_upto_region 14 with fail
        clear c0 c1 f0 f1 HA2 HB2 HW2
        generalize wc.setCell ⟨p1, 1, none⟩ (.bool true) = W5 at *
        have la := loadAt_blk (T := 116) (C := #[.string (bS T), .bool true]) HA3.out Tryz.underlying116 rfl (by kernel_rfl)
        have st := storeAt_row (T := 116) (C := #[.string (bS T), .bool true]) HB3.out (by kernel_rfl) rfl (by kernel_rfl)
        have lf := loadVar_blk (T := 116) (HB3.out.row #[.string (bS T), .bool true]) Tryz.underlying116 rfl (by kernel_rfl)
        have HW4 := Lib.hid (Below.setRow' HPP.out.2.2 HW3.out #[.string (bS T), .bool true])
        go_wp2_with (first
          | refine op_load (p := .pointer (some ⟨p1, 0, none⟩)) 116 (.tmp 1) rfl rfl rfl la ?_
          | refine op_store (p := .pointer (some ⟨p2, 0, none⟩)) (C := .agg #[.string (bS T), .bool true]) 116 (.tmp 2) (.tmp 72) rfl rfl rfl rfl rfl st ?_)
        (try simp only [Exit.inBlock, Exit.then])
        refine bodyPost_ret (results_cell_tmp Tryz.results70 rfl rfl lf) rfl ?_
        exact ⟨by rw [HR.out.1, HR.out.2]; rfl, HW4.out⟩
      · obtain ⟨hx1, hx2⟩ := HX.out.1 hok
        have HR := Lib.hid (And.intro hx1 hx2)
        have e76 := bS_drop T L
        have b1 : (0 : Int) ≤ (L : Int) := by omega
        have b2 : (L : Int) ≤ (T.length : Int) := by omega
        have HA3 := Lib.hid (HA2.out.set 0 (.string (bS (T.drop L))))
        have HB3 := Lib.hid (HB2.out.other HPP.out.1.symm 0 (.string (bS (T.drop L))))
        have HW3 := Lib.hid (HW2.out.setCell (p := ⟨p1, 0, none⟩) HPP.out.2.1 (.string (bS (T.drop L))))
        clear HX hx1 hx2 hok
        go_upto_region 16 with fail
        clear c0 c1 f0 f1 HA2 HB2 HW2
        generalize wc.setCell ⟨p1, 0, none⟩ (.string (bS (T.drop L))) = W5 at *
        have la := loadAt_blk (T := 116) (C := #[.string (bS (T.drop L)), .bool bad]) HA3.out Tryz.underlying116 rfl (by kernel_rfl)
        have st := storeAt_row (T := 116) (C := #[.string (bS (T.drop L)), .bool bad]) HB3.out (by kernel_rfl) rfl (by kernel_rfl)
        have lf := loadVar_blk (T := 116) (HB3.out.row #[.string (bS (T.drop L)), .bool bad]) Tryz.underlying116 rfl (by kernel_rfl)
        have HW4 := Lib.hid (Below.setRow' HPP.out.2.2 HW3.out #[.string (bS (T.drop L)), .bool bad])
        go_wp2_with (first
          | refine op_load (p := .pointer (some ⟨p1, 0, none⟩)) 116 (.tmp 1) rfl rfl rfl la ?_
          | refine op_store (p := .pointer (some ⟨p2, 0, none⟩)) (C := .agg #[.string (bS (T.drop L)), .bool bad]) 116 (.tmp 2) (.tmp 78) rfl rfl rfl rfl rfl st ?_)
        (try simp only [Exit.inBlock, Exit.then])
        refine bodyPost_ret (results_cell_tmp Tryz.results70 rfl rfl lf) rfl ?_
        exact ⟨by rw [HR.out.1, HR.out.2]; rfl, HW4.out⟩
end Go.Proofs.YtpkmibmombpjpaaGreatDoor
