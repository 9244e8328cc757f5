/- scans: Check, Line and Scan against the reference. -/
import Derived.Test.YtbompgfjlllioaaDoorJAwake
import Derived.Test.YtbompgfjlllioaaDoorJRScan
import Derived.Lib.BufferRead
namespace Go.Proofs.YtbompgfjlllioaaDoor
open Go Go.RowKit

theorem cells_of_bs {W : World} {b o : Nat} {l : List UInt8} (h : BS W b o l) : ∀ j u, (l.map byteV)[j]? = some u → W.cell? ((⟨b, o, none⟩ : Addr).add j) = some u := fun j u hj => by
  rw [List.getElem?_map] at hj
  cases hl : l[j]? with
  | none => rw [hl] at hj; cases hj
  | some c =>
    rw [hl] at hj
    obtain rfl : byteV c = u := by simpa using hj
    rw [add_at]
    exact h j c hl
theorem scan_recs (bs : List UInt8) : (scanS (linesL bs)).recs.length ≤ bs.length := by
  refine Nat.le_trans ?_ (scan_le bs)
  suffices ∀ ls : List (List UInt8), (scanS ls).recs.length ≤ (scanS ls).size from this _
  intro ls
  unfold scanS
  suffices ∀ s : Sc, s.recs.length ≤ s.size → (ls.foldl Sc.step s).recs.length ≤ (ls.foldl Sc.step s).size from this _ (Nat.le_refl _)
  induction ls with
  | nil => exact fun s h => h
  | cons l r ih =>
    intro s h
    rw [List.foldl_cons]
    refine ih _ ?_
    unfold Sc.step
    split
    · split
      · simp; omega
      · exact h
    · exact h
/-- append of bytes to a row of the call's own. -/
theorem wp_bytes_own {ops : Array Oper} {rest : List Oper} {o : Oper} {a : Act} {Q : Exit → Act → World → Prop} (hgd : o.guard = none) (sl x : Operand)
    (ho : o.op = .call { callee := .builtin .append, args := #[sl, x], argTypes := #[26, 26] }) (w : World) (base : Nat) (v : Value) (n : Nat) (l : List UInt8) (hs : a.eval sl = v) (hown : w.ownsRow base 5 1 v n (l.map byteV))
    (b off c : Nat) (l2 : List UInt8) (hx : a.eval x = .slice (some ⟨b, off, none⟩) l2.length c) (hB : BS w b off l2) (hlen : n + l2.length ≤ 100000000) (hbase : base ≤ w.heap.size)
    (h : ∀ v' w', w'.ownsRow base 5 1 v' (n + l2.length) ((l ++ l2).map byteV) → w.grownBy w' v.ownBlock → (v'.ownBlock = v.ownBlock ∨ v'.ownBlock = some w.heap.size) → wpList Tryd.prog ops Q rest (a.put o.dst v') w') : wpList Tryd.prog ops Q (o :: rest) a w := by
  obtain ⟨i0, hi0, hz0, hz1, hz2⟩ := info_parts info_u8
  refine wpList_append_own_at _ hgd sl x 26 ho base 5 i0 (.int .u8 0) 1 1 Tryd.underlying26 hi0 hz0 hz1 hz2 rfl (by decide) v n (l.map byteV) hs hown ⟨b, off, none⟩ l2.length c (l2.map byteV) hx (by simp) (cells_of_bs hB) byte_one (by unfold maxLen; omega) (by omega) hbase ?_
  intro v' w' h1 h2 _ h3
  rw [← List.map_append] at h1
  exact h v' w' h1 h2 h3
set_option maxRecDepth 100000 in
set_option maxHeartbeats 4000000 in
theorem scans_some (b o cap : Nat) (bs : List UInt8) (hs : bs.length ≤ 3000) (hcap : bs.length ≤ cap) (x : Int) (s : ByteArray) (hl : s.size ≤ 300) (w : World) (he : Env w) (hB : BS w b o bs) :
    Calls Tryd.prog 21 #[.slice (some ⟨b, o, none⟩) bs.length cap, .int .i64 x, .string s] w (fun e w' => e = .returned (.bool true) ∧ Below w.heap.size w w') := by
  have HE := Lib.hid he
  have HB := Lib.hid hB
  clear he hB
  have S77 : ∀ W : World, BS (W.alloc (.cells #[.int .u8 77] 5)) W.heap.size 0 [77] := fun W i c hi => by
    match i, hi with
    | 0, hi =>
      obtain rfl : 77 = c := by simpa using hi
      exact cell_one_new W (.int .u8 77) 5 0 _ rfl
    | i + 1, hi => simp at hi
  have HS7 := Lib.hid S77
  clear S77
  go_enter Tryd.func21, Tryd.ntmps21
  go_wp2_with (first
    | (at_builtin; refine wp_bytes_own rfl _ _ rfl _ w.heap.size (.slice (some ⟨w.heap.size, 0, none⟩) 0 0) 0 [] rfl (own_made w w.heap.size 0 #[] (Nat.le_refl _) rfl (by decide)) b o cap bs rfl (HB.out.keep (below1 _ _)) (by omega) (by simp) ?_; intro v1 w1 ho1 hg1 _; rw [Nat.zero_add, List.nil_append] at ho1; have HO1 := Lib.hid ho1; have BB1 := Lib.hid ((below1 w (.cells #[] 5)).grown hg1 (by simp) (fun k e => by simp [Value.ownBlock] at e; omega)); clear ho1 hg1)
    | (at_builtin; refine wp_bytes_own rfl _ _ rfl _ w.heap.size _ bs.length bs rfl (own_keep HO1.out (below1 _ _)) w1.heap.size 0 1 [77] rfl (HS7.out w1) (by simp; omega) (by have := BB1.out.size; simp; omega) ?_; intro v2 w2 ho2 hg2 _; obtain ⟨g, c2, rfl⟩ := ownsRow_succ ho2; have HO2 := Lib.hid ho2; have BB2 := Lib.hid (bchain BB1.out (below1 w1 (.cells #[.int .u8 77] 5))); have HG2 := Lib.hid hg2; clear ho2 hg2))
  have hbw : Below w.heap.size w w2 := BB2.out.grown HG2.out (by have := BB1.out.size; simp; omega) (fun k e => own_le HO1.out k e)
  have B2 := Lib.hid hbw
  have E2 := Lib.hid (HE.out.keep hbw)
  obtain ⟨hg1, _, _, hg4, _⟩ := bs_of_own HO2.out
  have HG := Lib.hid hg1
  simp only [List.length_append, List.length_cons, List.length_nil] at hg4
  have i1 : bs.length ≤ c2 := by omega
  have i2 : (bs.length : Int) ≤ (c2 : Int) := by omega
  clear hbw hg1 hg4 HG2 BB2 BB1 HO1 HO2
  have L1 := Lib.hid (fun W he => line_any x s (by omega) W he)
  have L2 := Lib.hid (fun W => rline_any x s (by omega) W)
  have K1 := Lib.hid (fun W => check_any x s (by omega) W)
  have K2 := Lib.hid (fun W => rcheck_any x s (by omega) W)
  generalize lineP x s.data.toList = LP at *
  generalize checkP x s.data.toList = CP at *
  obtain ⟨LX, hLX⟩ : ∃ LX : ByteArray, (⟨LP.1.toArray⟩ : ByteArray) = LX := ⟨_, rfl⟩
  rw [hLX] at L1 L2
  have t1 : (LX.toList == LX.toList) = true := beq_self_eq_true _
  refine (K1.out _).mono ?_
  rintro e w3 ⟨rfl, rfl⟩
  go_wp2_with fail
  refine (K2.out _).mono ?_
  rintro e w3 ⟨rfl, rfl⟩
  go_wp2_with fail
  refine (L1.out _ E2.out).mono ?_
  rintro e w3 ⟨rfl, hb⟩
  have B3 := Lib.hid (bchain B2.out hb)
  have HG3 := Lib.hid (HG.out.keep hb)
  clear hb HG
  go_wp2_with fail
  refine (L2.out _).mono ?_
  rintro e w4 ⟨rfl, hb⟩
  have B4 := Lib.hid (bchain B3.out hb)
  have HG4 := Lib.hid (HG3.out.keep hb)
  clear hb HG3 L1 L2 K1 K2
  go_wp2_with fail
  have BG : BS w4 g 0 bs := by
    have := HG4.out.take bs.length
    simpa using this
  have SC := Lib.hid (scanx_any _ bs (by omega) w4 (HE.out.keep B4.out) (BV.some_ g 0 c2 bs i1 BG))
  have RC := Lib.hid (fun W h => rscan_any (.slice (some ⟨b, o, none⟩) bs.length cap) bs (by omega) W h)
  have hSl : (scanS (linesL bs)).recs.length ≤ 10000000 := Nat.le_trans (scan_recs bs) (by omega)
  generalize tailP (scanS (linesL bs)) bs.length = T at *
  generalize scanS (linesL bs) = S at *
  have HSL := Lib.hid hSl
  clear BG hSl
  refine SC.out.mono ?_
  rintro e w5 ⟨u, rfl, hr, hb⟩
  have R5 := Lib.hid (rs_of_own hr)
  obtain ⟨A5, c5, rfl⟩ := own_slice hr
  have B5 := Lib.hid (bchain B4.out hb)
  have HG5 := Lib.hid (HG4.out.keep hb)
  clear hb hr HG4 SC
  go_wp2_with fail
  refine (RC.out _ (BV.some_ b o cap bs hcap (HB.out.keep B5.out))).mono ?_
  rintro e w6 ⟨u, rfl, hr, hb⟩
  have R6 := Lib.hid (rs_of_own hr)
  obtain ⟨A6, c6, rfl⟩ := own_slice hr
  have B6 := Lib.hid (bchain B5.out hb)
  have HG6 := Lib.hid (HG5.out.keep hb)
  have R56 := Lib.hid (R5.out.keep hb)
  clear hb hr HG5 RC R5
  go_wp2_with fail
  have hm := Blk.new w6 73 #[.slice A6 S.recs.length c6, .int .i64 (S.last : Nat), .int .i64 (S.size : Nat), .bool false]
  have hbm := below1 w6 (.cells #[.slice A6 S.recs.length c6, .int .i64 (S.last : Nat), .int .i64 (S.size : Nat), .bool false] 73)
  have SM := same_any _ _ S.recs S.recs HSL.out _ (R56.out.keep hbm) (R6.out.keep hbm)
  rw [beq_self_eq_true] at SM
  have HM := Lib.hid hm
  have B7 := Lib.hid (bchain B6.out hbm)
  have HG7 := Lib.hid (HG6.out.keep hbm)
  clear hm hbm R6 R56 HG6 HSL
  refine SM.mono ?_
  rintro e w8 ⟨rfl, hb⟩
  have B8 := Lib.hid (bchain B7.out hb)
  have m2 := (HM.out.keep hb HM.out.lt).cell (j := 2) (v := .int .i64 (S.size : Nat)) rfl
  have cv1 := conv_all g 0 c2 (bs ++ [77]) w8 (HG7.out.keep hb)
  have cv2 := conv_all b o cap bs w8 (HB.out.keep B8.out)
  rw [List.length_append, List.length_singleton] at cv1
  obtain ⟨XS, hXS⟩ : ∃ XS : ByteArray, (⟨(bs ++ [77]).toArray⟩ : ByteArray) = XS := ⟨_, rfl⟩
  obtain ⟨YS, hYS⟩ : ∃ YS : ByteArray, (⟨bs.toArray⟩ : ByteArray) = YS := ⟨_, rfl⟩
  have hY : YS ++ (⟨#[77]⟩ : ByteArray) = XS := by rw [← hXS, ← hYS]; exact str_app bs [77]
  rw [hXS] at cv1
  rw [hYS] at cv2
  have t2 : (XS.toList == XS.toList) = true := beq_self_eq_true _
  have hsz : YS.size = bs.length := by rw [← hYS]; simp [ByteArray.size]
  have n1 : YS.size + 1 ≤ 9223372036854775807 := by omega
  have n2 : ¬ 9223372036854775807 < YS.size + 1 := by omega
  clear hXS hYS SM hb HM hsz
  go_wp2_with fail
  go_ret
  exact ⟨rfl, B8.out⟩
/-- append of nil to a row of the call's own. -/
theorem wp_nil_own {ops : Array Oper} {rest : List Oper} {o : Oper} {a : Act} {Q : Exit → Act → World → Prop} (hgd : o.guard = none) (sl x : Operand)
    (ho : o.op = .call { callee := .builtin .append, args := #[sl, x], argTypes := #[26, 26] }) (w : World) (base : Nat) (v : Value) (n : Nat) (xs : List Value) (hs : a.eval sl = v) (hown : w.ownsRow base 5 1 v n xs)
    (hx : a.eval x = .slice none 0 0) (h : wpList Tryd.prog ops Q rest (a.put o.dst v) w) : wpList Tryd.prog ops Q (o :: rest) a w := by
  obtain ⟨i0, hi0, hz0, hz1, hz2⟩ := info_parts info_u8
  refine wpList_plain hgd fun K hK => ?_
  have hr := run_append_owned_none (P := Tryd.prog) w base 26 o.type 5 i0 1 Tryd.underlying26 hi0 v n xs hown
  unfold Oper.wp execOp
  simp only [ho, resolve, invoke, builtin, Sem.run_bind, Sem.run_pure, Result.andThen_ok, List.map_toArray, List.map_cons, List.map_nil, hs, hx, hr]
  exact hK _ _ h
theorem conv_nil (w : World) : (convert 26 9 (.slice none 0 0)).run Tryd.prog w = .ok (.string ⟨([] : List UInt8).toArray⟩) w :=
  Lib.run_convert_nil_bytes w 26 9 5 0 Tryd.underlying26 Tryd.underlying5 Tryd.underlying9
set_option maxRecDepth 100000 in
set_option maxHeartbeats 4000000 in
theorem scans_nil (x : Int) (s : ByteArray) (hl : s.size ≤ 300) (w : World) (he : Env w) :
    Calls Tryd.prog 21 #[.slice none 0 0, .int .i64 x, .string s] w (fun e w' => e = .returned (.bool true) ∧ Below w.heap.size w w') := by
  have HE := Lib.hid he
  clear he
  have S77 : ∀ W : World, BS (W.alloc (.cells #[.int .u8 77] 5)) W.heap.size 0 [77] := fun W i c hi => by
    match i, hi with
    | 0, hi =>
      obtain rfl : 77 = c := by simpa using hi
      exact cell_one_new W (.int .u8 77) 5 0 _ rfl
    | i + 1, hi => simp at hi
  have HS7 := Lib.hid S77
  clear S77
  go_enter Tryd.func21, Tryd.ntmps21
  go_wp2_with (first
    | (at_builtin; refine wp_nil_own rfl _ _ rfl _ w.heap.size (.slice (some ⟨w.heap.size, 0, none⟩) 0 0) 0 [] rfl (own_made w w.heap.size 0 #[] (Nat.le_refl _) rfl (by decide)) rfl ?_)
    | (at_builtin; refine wp_bytes_own rfl _ _ rfl _ w.heap.size _ 0 [] rfl (own_keep (own_made w w.heap.size 0 #[] (Nat.le_refl _) rfl (by decide)) (below1 _ _)) (w.heap.size + 1) 0 1 [77] rfl (by have h9 := HS7.out (w.alloc (.cells #[] 5)); rwa [World.size_alloc] at h9) (by decide) (by simp; omega) ?_; intro v2 w2 ho2 hg2 _; obtain ⟨g, c2, rfl⟩ := ownsRow_succ ho2; have HO2 := Lib.hid ho2; have BB2 := Lib.hid (bchain (below1 w (.cells #[] 5)) (below1 _ (.cells #[.int .u8 77] 5))); have HG2 := Lib.hid hg2; clear ho2 hg2))
  have hbw : Below w.heap.size w w2 := BB2.out.grown HG2.out (by have h9 := BB2.out.size; first | exact h9 | omega) (fun k e => own_le (own_made w w.heap.size 0 #[] (Nat.le_refl _) rfl (by decide)) k e)
  have B2 := Lib.hid hbw
  have E2 := Lib.hid (HE.out.keep hbw)
  obtain ⟨hg1, _, _, hg4, _⟩ := bs_of_own HO2.out
  have HG := Lib.hid hg1
  simp only [List.length_append, List.length_cons, List.length_nil] at hg4
  have i1 : 0 ≤ c2 := by omega
  have i2 : (0 : Int) ≤ (c2 : Int) := by omega
  clear hbw hg1 hg4 HG2 BB2 HO2
  have L1 := Lib.hid (fun W he => line_any x s (by omega) W he)
  have L2 := Lib.hid (fun W => rline_any x s (by omega) W)
  have K1 := Lib.hid (fun W => check_any x s (by omega) W)
  have K2 := Lib.hid (fun W => rcheck_any x s (by omega) W)
  generalize lineP x s.data.toList = LP at *
  generalize checkP x s.data.toList = CP at *
  obtain ⟨LX, hLX⟩ : ∃ LX : ByteArray, (⟨LP.1.toArray⟩ : ByteArray) = LX := ⟨_, rfl⟩
  rw [hLX] at L1 L2
  have t1 : (LX.toList == LX.toList) = true := beq_self_eq_true _
  refine (K1.out _).mono ?_
  rintro e w3 ⟨rfl, rfl⟩
  go_wp2_with fail
  refine (K2.out _).mono ?_
  rintro e w3 ⟨rfl, rfl⟩
  go_wp2_with fail
  refine (L1.out _ E2.out).mono ?_
  rintro e w3 ⟨rfl, hb⟩
  have B3 := Lib.hid (bchain B2.out hb)
  have HG3 := Lib.hid (HG.out.keep hb)
  clear hb HG
  go_wp2_with fail
  refine (L2.out _).mono ?_
  rintro e w4 ⟨rfl, hb⟩
  have B4 := Lib.hid (bchain B3.out hb)
  have HG4 := Lib.hid (HG3.out.keep hb)
  clear hb HG3 L1 L2 K1 K2
  go_wp2_with fail
  have BG : BS w4 g 0 [] := by
    have := HG4.out.take 0
    simpa using this
  have SC := Lib.hid (scanx_any _ [] (by decide) w4 (HE.out.keep B4.out) (BV.some_ g 0 c2 [] i1 BG))
  have RC := Lib.hid (fun W h => rscan_any (.slice none 0 0) [] (by decide) W h)
  have hSl : (scanS (linesL [])).recs.length ≤ 10000000 := Nat.le_trans (scan_recs []) (by decide)
  generalize tailP (scanS (linesL [])) ([] : List UInt8).length = T at *
  generalize scanS (linesL []) = S at *
  have HSL := Lib.hid hSl
  clear BG hSl
  refine SC.out.mono ?_
  rintro e w5 ⟨u, rfl, hr, hb⟩
  have R5 := Lib.hid (rs_of_own hr)
  obtain ⟨A5, c5, rfl⟩ := own_slice hr
  have B5 := Lib.hid (bchain B4.out hb)
  have HG5 := Lib.hid (HG4.out.keep hb)
  clear hb hr HG4 SC
  go_wp2_with fail
  refine (RC.out _ (BV.none_)).mono ?_
  rintro e w6 ⟨u, rfl, hr, hb⟩
  have R6 := Lib.hid (rs_of_own hr)
  obtain ⟨A6, c6, rfl⟩ := own_slice hr
  have B6 := Lib.hid (bchain B5.out hb)
  have HG6 := Lib.hid (HG5.out.keep hb)
  have R56 := Lib.hid (R5.out.keep hb)
  clear hb hr HG5 RC R5
  go_wp2_with fail
  have hm := Blk.new w6 73 #[.slice A6 S.recs.length c6, .int .i64 (S.last : Nat), .int .i64 (S.size : Nat), .bool false]
  have hbm := below1 w6 (.cells #[.slice A6 S.recs.length c6, .int .i64 (S.last : Nat), .int .i64 (S.size : Nat), .bool false] 73)
  have SM := same_any _ _ S.recs S.recs HSL.out _ (R56.out.keep hbm) (R6.out.keep hbm)
  rw [beq_self_eq_true] at SM
  have HM := Lib.hid hm
  have B7 := Lib.hid (bchain B6.out hbm)
  have HG7 := Lib.hid (HG6.out.keep hbm)
  clear hm hbm R6 R56 HG6 HSL
  refine SM.mono ?_
  rintro e w8 ⟨rfl, hb⟩
  have B8 := Lib.hid (bchain B7.out hb)
  have m2 := (HM.out.keep hb HM.out.lt).cell (j := 2) (v := .int .i64 (S.size : Nat)) rfl
  have cv1 := conv_all g 0 c2 (([] : List UInt8) ++ [77]) w8 (HG7.out.keep hb)
  have cv2 : (convert 26 9 (.slice none 0 0)).run Tryd.prog w8 = .ok (.string ⟨([] : List UInt8).toArray⟩) w8 := conv_nil w8
  change (convert 26 9 (.slice (some ⟨g, 0, none⟩) 1 c2)).run Tryd.prog w8 = _ at cv1
  obtain ⟨XS, hXS⟩ : ∃ XS : ByteArray, (⟨(([] : List UInt8) ++ [77]).toArray⟩ : ByteArray) = XS := ⟨_, rfl⟩
  obtain ⟨YS, hYS⟩ : ∃ YS : ByteArray, (⟨([] : List UInt8).toArray⟩ : ByteArray) = YS := ⟨_, rfl⟩
  have hY : YS ++ (⟨#[77]⟩ : ByteArray) = XS := by rw [← hXS, ← hYS]; exact str_app [] [77]
  rw [hXS] at cv1
  rw [hYS] at cv2
  have t2 : (XS.toList == XS.toList) = true := beq_self_eq_true _
  have hsz : YS.size = 0 := by rw [← hYS]; simp [ByteArray.size]
  have n1 : YS.size + 1 ≤ 9223372036854775807 := by omega
  have n2 : ¬ 9223372036854775807 < YS.size + 1 := by omega
  clear hXS hYS SM hb HM hsz
  go_wp2_with fail
  go_ret
  exact ⟨rfl, B8.out⟩
theorem scans_any (v : Value) (bs : List UInt8) (hs : bs.length ≤ 3000) (x : Int) (s : ByteArray) (hl : s.size ≤ 300) (w : World) (he : Env w) (hB : BV w v bs) :
    Calls Tryd.prog 21 #[v, .int .i64 x, .string s] w (fun e w' => e = .returned (.bool true) ∧ Below w.heap.size w w') := by
  cases hB with
  | none_ => exact scans_nil x s hl w he
  | some_ b o cap l hcap hB => exact scans_some b o cap bs hs hcap x s hl w he hB
end Go.Proofs.YtbompgfjlllioaaDoor
