/- The reference's Read. -/
import Derived.Test.YtpkmibmombpjpaaGreatDoorRD
import Derived.Test.YtpkmibmombpjpaaGreatDoorEI
set_option linter.unusedSimpArgs false
namespace Go.Proofs.YtpkmibmombpjpaaGreatDoor
open Go Go.RowKit

theorem exec_ix {o : Oper} {w : World} {a : Act} {x y : Operand} {b n c k : Nat} {K : IntKind} (ho : o.op = .indexAddr 59 x y) (hx : a.eval x = .slice (some ⟨b, 0, none⟩) n c) (hy : a.eval y = .int K (k : Int)) (hk : k < n) :
    (execOp a.eval o).run Tryz.prog w = .ok (.value (.pointer (some ⟨b, k, none⟩))) w := by
  have h1 : (0 : Int) ≤ (k : Int) := by omega
  have h2 : (k : Int) < (n : Int) := by omega
  simp only [execOp, ho, hx, hy]
  go_simp
/-- The kind that the loop has seen by now. -/
def kTo (r : Rd) : Nat → Nat
  | 0 => 0
  | k + 1 => if rhas r (32 :: kindW k) then k else kTo r k
theorem kTo_le (r : Rd) : ∀ k, kTo r k ≤ k
  | 0 => Nat.le_refl _
  | k + 1 => by
    unfold kTo
    have := kTo_le r k
    split <;> omega
theorem kTo_five (r : Rd) : kTo r 5 = rkind r := by
  have h0 : (if rhas r (32 :: kindW 0) = true then 0 else kTo r 0) = 0 := by split <;> rfl
  unfold rkind
  show (if rhas r (32 :: wAward) = true then 4 else if rhas r (32 :: wSplit) = true then 3 else if rhas r (32 :: wWeighted) = true then 2 else if rhas r (32 :: wPlayed) = true then 1 else (if rhas r (32 :: kindW 0) = true then 0 else kTo r 0)) = _
  rw [h0]
def wC : Array Value := #[.string (bS (32 :: kindW 0)), .string (bS (32 :: kindW 1)), .string (bS (32 :: kindW 2)), .string (bS (32 :: kindW 3)), .string (bS (32 :: kindW 4))]
theorem wC_at {k : Nat} (h : k < 5) : wC[k]? = some (.string (bS (32 :: kindW k))) := by
  rcases (by omega : k = 0 ∨ k = 1 ∨ k = 2 ∨ k = 3 ∨ k = 4) with rfl | rfl | rfl | rfl | rfl <;> rfl
theorem kW_len {k : Nat} : (32 :: kindW k).length ≤ 1000000 := by
  have := kindW_len k
  rw [List.length_cons]
  omega
theorem gE_1 (a b c d a' : Int) (k f : Nat) (t : Bool) (l : List Ou) (x y : Int) : (enC (gE a b c d k f t l x y)).setIfInBounds 0 (.int .i64 a') = enC (gE a' b c d k f t l x y) := by
  unfold enC; rw [List.setIfInBounds_toArray]; rfl
theorem gE_2 (a b c d a' : Int) (k f : Nat) (t : Bool) (l : List Ou) (x y : Int) : (enC (gE a b c d k f t l x y)).setIfInBounds 1 (.int .i64 a') = enC (gE a a' c d k f t l x y) := by
  unfold enC; rw [List.setIfInBounds_toArray]; rfl
theorem gE_3 (a b c d a' : Int) (k f : Nat) (t : Bool) (l : List Ou) (x y : Int) : (enC (gE a b c d k f t l x y)).setIfInBounds 2 (.int .i64 a') = enC (gE a b a' d k f t l x y) := by
  unfold enC; rw [List.setIfInBounds_toArray]; rfl
theorem gE_4 (a b c d a' : Int) (k f : Nat) (t : Bool) (l : List Ou) (x y : Int) : (enC (gE a b c d k f t l x y)).setIfInBounds 3 (.int .i64 a') = enC (gE a b c a' k f t l x y) := by
  unfold enC; rw [List.setIfInBounds_toArray]; rfl
theorem gE_x (a b c d a' : Int) (k f : Nat) (t : Bool) (l : List Ou) (x y : Int) : (enC (gE a b c d k f t l x y)).setIfInBounds 31 (.int .i64 a') = enC (gE a b c d k f t l a' y) := by
  unfold enC; rw [List.setIfInBounds_toArray]; rfl
theorem gE_y (a b c d a' : Int) (k f : Nat) (t : Bool) (l : List Ou) (x y : Int) : (enC (gE a b c d k f t l x y)).setIfInBounds 32 (.int .i64 a') = enC (gE a b c d k f t l x a') := by
  unfold enC; rw [List.setIfInBounds_toArray]; rfl
theorem enC_some (e : En) {j : Nat} (hj : j < 33) : ∃ v, (enC e)[j]? = some v := ⟨_, Array.getElem?_eq_getElem (by rw [enC_size]; exact hj)⟩
theorem rE_aw {s : List UInt8} (h : rkind (rdd s) = 4) : rEnd s = ry s ∧ rEnt s = gE (rnumV ⟨s, false⟩) (rnumV (rskip (ra s) [32])) (rnumV (rskip (rb s) [32])) (rnumV (rskip (rc s) [32])) 4 0 false [] (rnumV (rskip (rk s) [32])) (rnumV (rskip (rx s) [32])) := by
  unfold rEnd rEnt
  rw [if_pos h, if_pos h]
  exact ⟨rfl, rfl⟩
theorem rE_vo {s : List UInt8} (h : rkind (rdd s) = 0) : rEnd s = rk s ∧ rEnt s = gE (rnumV ⟨s, false⟩) (rnumV (rskip (ra s) [32])) (rnumV (rskip (rb s) [32])) (rnumV (rskip (rc s) [32])) 0 0 false [] 0 0 := by
  unfold rEnd rEnt
  rw [if_neg (by omega), if_pos h, if_neg (by omega), if_pos h]
  exact ⟨rfl, rfl⟩
theorem rE_pl {s : List UInt8} (h4 : rkind (rdd s) ≠ 4) (h : rkind (rdd s) ≠ 0) : rEnd s = routsR 4 (rw_ s) ∧ rEnt s = gE (rnumV ⟨s, false⟩) (rnumV (rskip (ra s) [32])) (rnumV (rskip (rb s) [32])) (rnumV (rskip (rc s) [32])) (rkind (rdd s)) (rbyteV (rskip (rk s) [32])) (rt s) (routsV 4 (rw_ s)) 0 0 := by
  unfold rEnd rEnt
  rw [if_neg h4, if_neg h, if_neg h4, if_neg h]
  exact ⟨rfl, rfl⟩
theorem rout_len (r : Rd) : (routR r).t.length ≤ r.t.length := by
  have h1 : (rd1 r).t.length ≤ r.t.length := rbyte_len r
  have h2 : (rd2 r).t.length ≤ (rd1 r).t.length := Nat.le_trans (rbyte_len _) (rskip_len _ _)
  have h3 : (rd3 r).t.length ≤ (rd2 r).t.length := Nat.le_trans (rbyte_len _) (rskip_len _ _)
  have h4 : (rd4 r).t.length ≤ (rd3 r).t.length := Nat.le_trans (rbyte_len _) (rskip_len _ _)
  have h5 : (rd5 r).t.length ≤ (rd4 r).t.length := Nat.le_trans (rnum_len _) (rskip_len _ _)
  have h6 : (rnumR (rskip (rd5 r) [58])).t.length ≤ (rd5 r).t.length := Nat.le_trans (rnum_len _) (rskip_len _ _)
  unfold routR
  split <;> omega
theorem routs_yes {i : Nat} {R : Rd} (hi : i < 4) (h : rhas R [32] = true) : routsR (4 - i) R = routsR (4 - (i + 1)) (routR (rskip R [32])) ∧ routsV (4 - i) R = routV (rskip R [32]) :: routsV (4 - (i + 1)) (routR (rskip R [32])) := by
  obtain ⟨n, hn⟩ : ∃ n, 4 - i = n + 1 := ⟨3 - i, by omega⟩
  rw [hn, show 4 - (i + 1) = n by omega]
  constructor
  · conv => lhs; unfold routsR
    rw [if_pos h]
  · conv => lhs; unfold routsV
    rw [if_pos h]
theorem routs_no {i : Nat} {R : Rd} (h : rhas R [32] = false) : routsR (4 - i) R = R ∧ routsV (4 - i) R = [] := by
  rcases hn : 4 - i with _ | n
  · unfold routsR routsV; exact ⟨rfl, rfl⟩
  · unfold routsR routsV; rw [h]; exact ⟨rfl, rfl⟩
theorem routs_end {R : Rd} : routsR (4 - 4) R = R ∧ routsV (4 - 4) R = [] := by
  unfold routsR routsV; exact ⟨rfl, rfl⟩
theorem zE_is : enC zE = enC (gE 0 0 0 0 0 0 false [] 0 0) := by unfold zE gE; rfl

/-- What lies in memory on the way: the result's cells, the entry under way, the reader. -/
structure RS3 (w : World) (B : World) (p2 pe pr : Nat) (R : Rd) (e : En) : Prop where
  res : Blk w p2 34 (enC zE)
  ent : Blk w pe 34 (enC e)
  rdr : Blk w pr 116 #[.string (bS R.t), .bool R.bad]
  bel : Below B.heap.size B w
theorem RS3.grow {w w' B : World} {p2 pe pr : Nat} {R : Rd} {e : En} (h : RS3 w B p2 pe pr R e) (hb : Below w.heap.size w w') : RS3 w' B p2 pe pr R e :=
  ⟨h.res.kp2 hb, h.ent.kp2 hb, h.rdr.kp2 hb, h.bel.trans (hb.mono h.bel.size)⟩
theorem RS3.drew {w B : World} {p2 pe pr : Nat} {R : Rd} {e : En} (h : RS3 w B p2 pe pr R e) : RS3 w.drew B p2 pe pr R e :=
  ⟨h.res.drewN 1, h.ent.drewN 1, h.rdr.drewN 1, below_drewN h.bel 1⟩
theorem RS3.read {w B : World} {p2 pe pr : Nat} {R : Rd} {e : En} (h : RS3 w B p2 pe pr R e) (hp : (p2 ≠ pr ∧ pe ≠ pr) ∧ B.heap.size ≤ pr) (R' : Rd) : RS3 (w.setRow pr #[.string (bS R'.t), .bool R'.bad]) B p2 pe pr R' e :=
  ⟨h.res.row_other hp.1.1 _, h.ent.row_other hp.1.2 _, h.rdr.row _, Below.setRow' hp.2 h.bel _⟩
theorem RS3.put {w B : World} {p2 pe pr : Nat} {R : Rd} {e e' : En} (h : RS3 w B p2 pe pr R e) (hp : (p2 ≠ pe ∧ pr ≠ pe) ∧ B.heap.size ≤ pe) {j : Nat} {v : Value} (he : (enC e).setIfInBounds j v = enC e') : RS3 (w.setCell ⟨pe, j, none⟩ v) B p2 pe pr R e' :=
  ⟨h.res.other hp.1.1 _ _, he ▸ h.ent.set j v, h.rdr.other hp.1.2 _ _, h.bel.setCell (p := ⟨pe, j, none⟩) hp.2 v⟩
theorem RS3.puto {w B : World} {p2 pe pr : Nat} {R : Rd} {a b c d : Int} {k f : Nat} {t : Bool} {l : List Ou} {x y : Int} (h : RS3 w B p2 pe pr R (gE a b c d k f t l x y)) (hp : (p2 ≠ pe ∧ pr ≠ pe) ∧ B.heap.size ≤ pe) {i : Nat} (hi : l.length = i) (h4 : i < 4) (o : Ou) : RS3 (w.setCells pe (7 + i * 6) (ouA o).toList) B p2 pe pr R (gE a b c d k f t (l ++ [o]) x y) := by
  subst hi
  refine ⟨Blk.otherCells (b' := pe) hp.1.1 _ _ _ h.res, ?_, Blk.otherCells (b' := pe) hp.1.2 _ _ _ h.rdr, Below.setCells' (b := pe) hp.2 _ _ _ h.bel⟩
  have := Blk.putC (ouL o) (7 + l.length * 6) w _ h.ent
  rw [gE_ou _ _ _ _ _ _ _ _ _ _ _ h4] at this
  exact this

set_option maxRecDepth 100000 in
set_option maxHeartbeats 8000000 in
theorem rread_any (s : List UInt8) (hs : s.length ≤ 1000000) (w : World) (he : Env w) : Calls Tryz.prog 35 #[.string (bS s)] w (fun e w' => e = .returned (readV (readW s)) ∧ Below w.heap.size w w') := by
  rw [← rread_eq]
  have h1 : ([32] : List UInt8).length ≤ 1000000 := by decide
  have la1 : (ra s).t.length ≤ 1000000 := Nat.le_trans (rnum_len ⟨s, false⟩) hs
  have la2 : (rskip (ra s) [32]).t.length ≤ 1000000 := Nat.le_trans (rskip_len _ _) la1
  have lb1 : (rb s).t.length ≤ 1000000 := Nat.le_trans (rnum_len _) la2
  have lb2 : (rskip (rb s) [32]).t.length ≤ 1000000 := Nat.le_trans (rskip_len _ _) lb1
  have lc1 : (rc s).t.length ≤ 1000000 := Nat.le_trans (rnum_len _) lb2
  have lc2 : (rskip (rc s) [32]).t.length ≤ 1000000 := Nat.le_trans (rskip_len _ _) lc1
  have ld1 : (rdd s).t.length ≤ 1000000 := by unfold rdd; exact Nat.le_trans (rnum_len _) lc2
  have lk1 : (rk s).t.length ≤ 1000000 := by unfold rk; exact Nat.le_trans (rskip_len _ _) ld1
  have BY1 := Lib.hid (fun W (h : Env W) => rnum_any ⟨s, false⟩ hs W h)
  have SK2 := Lib.hid (fun W => rskip_any (ra s) [32] la1 h1 W)
  have BY2 := Lib.hid (fun W (h : Env W) => rnum_any (rskip (ra s) [32]) la2 W h)
  have SK3 := Lib.hid (fun W => rskip_any (rb s) [32] lb1 h1 W)
  have BY3 := Lib.hid (fun W (h : Env W) => rnum_any (rskip (rb s) [32]) lb2 W h)
  have SK4 := Lib.hid (fun W => rskip_any (rc s) [32] lc1 h1 W)
  have BY4 := Lib.hid (fun W (h : Env W) => rnum_any (rskip (rc s) [32]) lc2 W h)
  change Hid (∀ W, Env W → Calls _ _ _ W (fun e w' => e = .returned (.tuple #[.agg (rdC (ra s)), _]) ∧ _)) at BY1
  change Hid (∀ W, Env W → Calls _ _ _ W (fun e w' => e = .returned (.tuple #[.agg (rdC (rb s)), _]) ∧ _)) at BY2
  change Hid (∀ W, Env W → Calls _ _ _ W (fun e w' => e = .returned (.tuple #[.agg (rdC (rc s)), _]) ∧ _)) at BY3
  have hdd : rnumR (rskip (rc s) [32]) = rdd s := by unfold rdd; rfl
  rw [hdd] at BY4
  have HAW := Lib.hid (fun h => rE_aw (s := s) h)
  have HVO := Lib.hid (fun h => rE_vo (s := s) h)
  have HPL := Lib.hid (fun h h' => rE_pl (s := s) h h')
  have HE := Lib.hid he
  clear hdd he la1 la2 lb1 lb2 lc1 lc2 h1
  generalize rnumV ⟨s, false⟩ = N1 at *
  generalize rnumV (rskip (ra s) [32]) = N2 at *
  generalize rnumV (rskip (rb s) [32]) = N3 at *
  generalize rnumV (rskip (rc s) [32]) = N4 at *
  generalize rskip (ra s) [32] = S2 at *
  generalize rskip (rb s) [32] = S3 at *
  generalize rskip (rc s) [32] = S4 at *
  generalize ra s = R1 at *
  generalize rb s = R2 at *
  generalize rc s = R3 at *
  obtain ⟨R4, hR4⟩ : ∃ R, rdd s = R := ⟨_, rfl⟩
  rw [hR4] at BY4 ld1
  have HR4 := Lib.hid hR4
  clear hR4
  unfold rdC at BY1 BY2 BY3 BY4 SK2 SK3 SK4
  have SK1 := SK2
  clear SK1
  go_enter Tryz.func35, Tryz.ntmps35
  go_upto_region 2 with fail
  go_upto_region 3 with fail
  rw [← zE_lit]
  have H : Hid (RS3 (((w.alloc (.cells (enC zE) 34)).alloc (.cells (enC zE) 34)).alloc (.cells #[.string (bS s), .bool false] 116)) w w.heap.size (w.heap.size + 1) (w.heap.size + 1 + 1) ⟨s, false⟩ (gE 0 0 0 0 0 0 false [] 0 0)) := Lib.hid (by
    refine ⟨((Blk.new w 34 _).alloc _).alloc _, ?_, ?_, (below2 w _ _).alloc (by simp only [size_al]; omega) _⟩
    · have := (Blk.new (w.alloc (.cells (enC zE) 34)) 34 (enC zE)).alloc (.cells #[.string (bS s), .bool false] 116)
      rw [size_al] at this
      exact this
    · have := Blk.new ((w.alloc (.cells (enC zE) 34)).alloc (.cells (enC zE) 34)) 116 #[.string (bS s), .bool false]
      rw [size_al, size_al] at this
      exact this)
  generalize ((w.alloc (.cells (enC zE) 34)).alloc (.cells (enC zE) 34)).alloc (.cells #[.string (bS s), .bool false] 116) = W0 at *
  obtain ⟨pr, hp4⟩ : ∃ p, w.heap.size + 1 + 1 = p := ⟨_, rfl⟩
  obtain ⟨pe, hp3⟩ : ∃ p, w.heap.size + 1 = p := ⟨_, rfl⟩
  obtain ⟨p2, hp2⟩ : ∃ p, w.heap.size = p := ⟨_, rfl⟩
  have HPR : Hid ((p2 ≠ pr ∧ pe ≠ pr) ∧ w.heap.size ≤ pr) := Lib.hid (by omega)
  have HPE : Hid ((p2 ≠ pe ∧ pr ≠ pe) ∧ w.heap.size ≤ pe) := Lib.hid (by omega)
  have HP2 : Hid ((pe ≠ p2 ∧ pr ≠ p2) ∧ w.heap.size ≤ p2) := Lib.hid (by omega)
  rw [hp4] at H ⊢
  rw [hp3] at H ⊢
  rw [hp2] at H ⊢
  clear hp2 hp3 hp4
  as_aux_lemma =>
  have la := loadAt_blk (T := 116) (C := #[.string (bS s), .bool false]) H.out.rdr Tryz.underlying116 rfl (by kernel_rfl)
  go_wp2_with (guard_target =~ wpList _ _ _ (⟨some 14, _, _, _, _, _⟩ :: _) _ _; refine op_load (p := .pointer (some ⟨pr, 0, none⟩)) 116 (.tmp 5) rfl rfl rfl la ?_)
  clear la
  have HEn := Lib.hid (HE.out.keep H.out.bel)
  refine (BY1.out _ HEn.out).mono ?_
  rintro x wb1 ⟨rfl, hb⟩
  have H2 := Lib.hid (H.out.grow hb)
  clear hb H BY1 HEn
  have H := H2
  clear H2
  as_aux_lemma =>
  have st := storeAt_row (T := 116) (C := #[.string (bS R1.t), .bool R1.bad]) H.out.rdr (by kernel_rfl) rfl (by kernel_rfl)
  have H4 := Lib.hid (H.out.read HPR.out R1)
  clear H
  obtain ⟨v0, hv0⟩ := enC_some (gE 0 0 0 0 0 0 false [] 0 0) (j := 0) (by decide)
  have k0 := H4.out.ent.cell hv0
  have k1 := H4.out.ent.free 0
  clear hv0
  go_upto_region 4 with (guard_target =~ wpList _ _ _ (⟨none, _, _, _, _, _⟩ :: _) _ _; refine op_store (p := .pointer (some ⟨pr, 0, none⟩)) (C := .agg #[.string (bS R1.t), .bool R1.bad]) 116 (.tmp 5) (.tmp 16) rfl rfl rfl rfl rfl st ?_)
  have H := Lib.hid (H4.out.put HPE.out (v := .int .i64 N1) (gE_1 _ _ _ _ _ _ _ _ _ _ _))
  clear st k0 k1 H4
  generalize (wb1.setRow pr #[.string (bS R1.t), .bool R1.bad]).setCell ⟨pe, 0, none⟩ (.int .i64 N1) = W1 at *
  as_aux_lemma =>
  have la := loadAt_blk (T := 116) (C := #[.string (bS R1.t), .bool R1.bad]) H.out.rdr Tryz.underlying116 rfl (by kernel_rfl)
  go_wp2_with (guard_target =~ wpList _ _ _ (⟨some 20, _, _, _, _, _⟩ :: _) _ _; refine op_load (p := .pointer (some ⟨pr, 0, none⟩)) 116 (.tmp 5) rfl rfl rfl la ?_)
  clear la
  refine (SK2.out _).mono ?_
  rintro x wa2 ⟨rfl, hb⟩
  have H2 := Lib.hid (H.out.grow hb)
  clear hb H SK2
  have H := H2
  clear H2
  go_wp2_with fail
  have HEn := Lib.hid (HE.out.keep H.out.bel)
  refine (BY2.out _ HEn.out).mono ?_
  rintro x wb2 ⟨rfl, hb⟩
  have H2 := Lib.hid (H.out.grow hb)
  clear hb H BY2 HEn
  have H := H2
  clear H2
  as_aux_lemma =>
  have st := storeAt_row (T := 116) (C := #[.string (bS R2.t), .bool R2.bad]) H.out.rdr (by kernel_rfl) rfl (by kernel_rfl)
  have H4 := Lib.hid (H.out.read HPR.out R2)
  clear H
  obtain ⟨v0, hv0⟩ := enC_some (gE N1 0 0 0 0 0 false [] 0 0) (j := 1) (by decide)
  have k0 := H4.out.ent.cell hv0
  have k1 := H4.out.ent.free 1
  clear hv0
  go_upto_region 5 with (guard_target =~ wpList _ _ _ (⟨none, _, _, _, _, _⟩ :: _) _ _; refine op_store (p := .pointer (some ⟨pr, 0, none⟩)) (C := .agg #[.string (bS R2.t), .bool R2.bad]) 116 (.tmp 5) (.tmp 23) rfl rfl rfl rfl rfl st ?_)
  have H := Lib.hid (H4.out.put HPE.out (v := .int .i64 N2) (gE_2 _ _ _ _ _ _ _ _ _ _ _))
  clear st k0 k1 H4
  generalize (wb2.setRow pr #[.string (bS R2.t), .bool R2.bad]).setCell ⟨pe, 1, none⟩ (.int .i64 N2) = W2 at *
  as_aux_lemma =>
  have la := loadAt_blk (T := 116) (C := #[.string (bS R2.t), .bool R2.bad]) H.out.rdr Tryz.underlying116 rfl (by kernel_rfl)
  go_wp2_with (guard_target =~ wpList _ _ _ (⟨some 27, _, _, _, _, _⟩ :: _) _ _; refine op_load (p := .pointer (some ⟨pr, 0, none⟩)) 116 (.tmp 5) rfl rfl rfl la ?_)
  clear la
  refine (SK3.out _).mono ?_
  rintro x wa3 ⟨rfl, hb⟩
  have H2 := Lib.hid (H.out.grow hb)
  clear hb H SK3
  have H := H2
  clear H2
  go_wp2_with fail
  have HEn := Lib.hid (HE.out.keep H.out.bel)
  refine (BY3.out _ HEn.out).mono ?_
  rintro x wb3 ⟨rfl, hb⟩
  have H2 := Lib.hid (H.out.grow hb)
  clear hb H BY3 HEn
  have H := H2
  clear H2
  as_aux_lemma =>
  have st := storeAt_row (T := 116) (C := #[.string (bS R3.t), .bool R3.bad]) H.out.rdr (by kernel_rfl) rfl (by kernel_rfl)
  have H4 := Lib.hid (H.out.read HPR.out R3)
  clear H
  obtain ⟨v0, hv0⟩ := enC_some (gE N1 N2 0 0 0 0 false [] 0 0) (j := 2) (by decide)
  have k0 := H4.out.ent.cell hv0
  have k1 := H4.out.ent.free 2
  clear hv0
  go_upto_region 6 with (guard_target =~ wpList _ _ _ (⟨none, _, _, _, _, _⟩ :: _) _ _; refine op_store (p := .pointer (some ⟨pr, 0, none⟩)) (C := .agg #[.string (bS R3.t), .bool R3.bad]) 116 (.tmp 5) (.tmp 30) rfl rfl rfl rfl rfl st ?_)
  have H := Lib.hid (H4.out.put HPE.out (v := .int .i64 N3) (gE_3 _ _ _ _ _ _ _ _ _ _ _))
  clear st k0 k1 H4
  generalize (wb3.setRow pr #[.string (bS R3.t), .bool R3.bad]).setCell ⟨pe, 2, none⟩ (.int .i64 N3) = W3 at *
  as_aux_lemma =>
  have la := loadAt_blk (T := 116) (C := #[.string (bS R3.t), .bool R3.bad]) H.out.rdr Tryz.underlying116 rfl (by kernel_rfl)
  go_wp2_with (guard_target =~ wpList _ _ _ (⟨some 34, _, _, _, _, _⟩ :: _) _ _; refine op_load (p := .pointer (some ⟨pr, 0, none⟩)) 116 (.tmp 5) rfl rfl rfl la ?_)
  clear la
  refine (SK4.out _).mono ?_
  rintro x wa4 ⟨rfl, hb⟩
  have H2 := Lib.hid (H.out.grow hb)
  clear hb H SK4
  have H := H2
  clear H2
  go_wp2_with fail
  have HEn := Lib.hid (HE.out.keep H.out.bel)
  refine (BY4.out _ HEn.out).mono ?_
  rintro x wb4 ⟨rfl, hb⟩
  have H2 := Lib.hid (H.out.grow hb)
  clear hb H BY4 HEn
  have H := H2
  clear H2
  as_aux_lemma =>
  have st := storeAt_row (T := 116) (C := #[.string (bS R4.t), .bool R4.bad]) H.out.rdr (by kernel_rfl) rfl (by kernel_rfl)
  have H4 := Lib.hid (H.out.read HPR.out R4)
  clear H
  obtain ⟨v0, hv0⟩ := enC_some (gE N1 N2 N3 0 0 0 false [] 0 0) (j := 3) (by decide)
  have k0 := H4.out.ent.cell hv0
  have k1 := H4.out.ent.free 3
  clear hv0
  go_upto_region 7 with (guard_target =~ wpList _ _ _ (⟨none, _, _, _, _, _⟩ :: _) _ _; refine op_store (p := .pointer (some ⟨pr, 0, none⟩)) (C := .agg #[.string (bS R4.t), .bool R4.bad]) 116 (.tmp 5) (.tmp 37) rfl rfl rfl rfl rfl st ?_)
  have H := Lib.hid (H4.out.put HPE.out (v := .int .i64 N4) (gE_4 _ _ _ _ _ _ _ _ _ _ _))
  clear st k0 k1 H4
  generalize (wb4.setRow pr #[.string (bS R4.t), .bool R4.bad]).setCell ⟨pe, 3, none⟩ (.int .i64 N4) = W4 at *
  as_aux_lemma =>
  go_upto_region 8 with (guard_target =~ wpList _ _ _ (⟨some 40, _, _, _, _, _⟩ :: _) _ _; refine opl_val_w (v := .slice (some ⟨W4.heap.size, 0, none⟩) 5 5) (w' := W4.alloc (.cells #[.string ⟨#[32, 118, 111, 105, 100]⟩, .string ⟨#[32, 112, 108, 97, 121, 101, 100]⟩, .string ⟨#[32, 119, 101, 105, 103, 104, 116, 101, 100]⟩, .string ⟨#[32, 115, 112, 108, 105, 116]⟩, .string ⟨#[32, 97, 119, 97, 114, 100]⟩] 9)) (by kernel_rfl) (by kernel_rfl) ?_)
  have HL : Hid (Blk (W4.alloc (.cells #[.string ⟨#[32, 118, 111, 105, 100]⟩, .string ⟨#[32, 112, 108, 97, 121, 101, 100]⟩, .string ⟨#[32, 119, 101, 105, 103, 104, 116, 101, 100]⟩, .string ⟨#[32, 115, 112, 108, 105, 116]⟩, .string ⟨#[32, 97, 119, 97, 114, 100]⟩] 9)) W4.heap.size 9 wC) := Lib.hid (Blk.new W4 9 #[.string ⟨#[32, 118, 111, 105, 100]⟩, .string ⟨#[32, 112, 108, 97, 121, 101, 100]⟩, .string ⟨#[32, 119, 101, 105, 103, 104, 116, 101, 100]⟩, .string ⟨#[32, 115, 112, 108, 105, 116]⟩, .string ⟨#[32, 97, 119, 97, 114, 100]⟩])
  have H2 := Lib.hid (H.out.grow (below1 W4 (.cells #[.string ⟨#[32, 118, 111, 105, 100]⟩, .string ⟨#[32, 112, 108, 97, 121, 101, 100]⟩, .string ⟨#[32, 119, 101, 105, 103, 104, 116, 101, 100]⟩, .string ⟨#[32, 115, 112, 108, 105, 116]⟩, .string ⟨#[32, 97, 119, 97, 114, 100]⟩] 9)))
  have HPW : Hid (W4.heap.size ≠ pe ∧ W4.heap.size ≠ pr ∧ W4.heap.size ≠ p2) := Lib.hid (by
    have g1 := H.out.ent.lt
    have g2 := H.out.rdr.lt
    have g3 := H.out.res.lt
    omega)
  clear H
  generalize W4.alloc (.cells #[.string ⟨#[32, 118, 111, 105, 100]⟩, .string ⟨#[32, 112, 108, 97, 121, 101, 100]⟩, .string ⟨#[32, 119, 101, 105, 103, 104, 116, 101, 100]⟩, .string ⟨#[32, 115, 112, 108, 105, 116]⟩, .string ⟨#[32, 97, 119, 97, 114, 100]⟩] 9) = W5 at *
  generalize W4.heap.size = pw at *
  clear W4
  have HD := Lib.hid (kTo_five R4)
  have HS := Lib.hid (fun k W => rhas_any R4 (32 :: kindW k) ld1 kW_len W)
  unfold rdC at HS
  as_aux_lemma =>
  go_upto_block 0 with fail
  go_cut [7] (fun s7 wx => Hid (RS3 wx w p2 pe pr R4 (gE N1 N2 N3 N4 (rkind R4) 0 false [] 0 0)) ∧ Hid (Blk wx pw 9 wC))
  case first =>
    clear HAW HVO HPL HR4 ld1 lk1 hs
    go_wp2_with fail
    go_loopw [7] (fun s7 wr => ∃ k : Nat, k ≤ 5 ∧ s7 = .int .i64 (k : Int) ∧ Hid (RS3 wr w p2 pe pr R4 (gE N1 N2 N3 N4 (kTo R4 k) 0 false [] 0 0)) ∧ Hid (Blk wr pw 9 wC)) (fun s7 _ => 5 - (intOf s7).toNat)
    case atStart => exact ⟨0, by omega, rfl, H2, HL⟩
    case round =>
      clear H2 HL
      obtain ⟨k, hk, rfl, H, HL⟩ := hrel
      by_cases hlt : k < 5
      · have t1 : decide ((k : Int) < 5) = true := decide_eq_true (by omega)
        have e1 : IntKind.i64.wrap ((k : Int) + 1) = ((k + 1 : Nat) : Int) := by rw [show (((k + 1 : Nat) : Int)) = (k : Int) + 1 by omega]; exact IntWalk.i64_in _ (by omega)
        have e8 : IntKind.u8.wrap (k : Int) = (k : Int) := by show (k : Int) % 256 = _; omega
        have e8b : (k : Int) % 256 = (k : Int) := e8
        have HH := Lib.hid hlt
        have HK := Lib.hid (show kTo R4 (k + 1) = if rhas R4 (32 :: kindW k) then k else kTo R4 k from rfl)
        have HSk := Lib.hid (HS.out k)
        obtain ⟨q, hq⟩ : ∃ q, rhas R4 (32 :: kindW k) = q := ⟨_, rfl⟩
        rw [hq] at HK HSk
        clear hq
        go_upto_region 11 with fail
        refine rest_begin (by kernel_rfl) ?_
        have H1 := Lib.hid H.out.drew
        have HL1 : Hid (Blk wr.drew pw 9 wC) := Lib.hid (HL.out.drewN 1)
        clear H HL
        generalize wr.drew = W6 at *
        refine rest_flow3 [some 45, some 46, some 47, some 48, some 49] [Sp.is (.agg #[.string (bS R4.t), .bool R4.bad]), Sp.is (.slice (some ⟨pw, 0, none⟩) 5 5), Sp.is (.int .i64 (k : Int)), Sp.is (.pointer (some ⟨pw, k, none⟩)), Sp.is (.string (bS (32 :: kindW k)))] [false, false, false, false, false] 5 (by kernel_rfl) (by kernel_rfl) (fun u F hF => ?_) (fun u w' hbF hsF hold hap => ?_)
        case refine_1 =>
          have E5 : F.eval (.tmp 5) = (.pointer (some ⟨pr, 0, none⟩)) := (congrArg (fun a => Act.eval a (.tmp 5)) hF).trans (eval_out [some 45, some 46, some 47, some 48, some 49] 0 _ (by decide))
          have E6 : F.eval (.tmp 6) = (.slice (some ⟨pw, 0, none⟩) 5 5) := (congrArg (fun a => Act.eval a (.tmp 6)) hF).trans (eval_out [some 45, some 46, some 47, some 48, some 49] 0 _ (by decide))
          have E7 : F.eval (.tmp 7) = (.int .i64 (k : Int)) := (congrArg (fun a => Act.eval a (.tmp 7)) hF).trans (eval_out [some 45, some 46, some 47, some 48, some 49] 0 _ (by decide))
          have D46 : F.eval (.tmp 46) = u 1 := (congrArg (fun a => Act.eval a (.tmp 46)) hF).trans (eval_in [some 45, some 46, some 47, some 48, some 49] 0 1 _ (by decide) (by omega) rfl (of_decide_eq_true (by kernel_rfl)))
          have D47 : F.eval (.tmp 47) = u 2 := (congrArg (fun a => Act.eval a (.tmp 47)) hF).trans (eval_in [some 45, some 46, some 47, some 48, some 49] 0 2 _ (by decide) (by omega) rfl (of_decide_eq_true (by kernel_rfl)))
          have D48 : F.eval (.tmp 48) = u 3 := (congrArg (fun a => Act.eval a (.tmp 48)) hF).trans (eval_in [some 45, some 46, some 47, some 48, some 49] 0 3 _ (by decide) (by omega) rfl (of_decide_eq_true (by kernel_rfl)))
          clear hF
          refine ⟨?_, ?_, ?_, ?_, ?_, trivial⟩
          · intro w1 hb hd K hK
            have e5 := E5
            exact op_val (v := (.agg #[.string (bS R4.t), .bool R4.bad])) rfl (exec_load rfl e5 (loadAt_blk (C := #[.string (bS R4.t), .bool R4.bad]) (H1.out.grow hb).rdr Tryz.underlying116 rfl (by kernel_rfl))) (hK _ _ (show _ = _ from rfl) (Below.refl _ _) (Fresh.no _ _ _))
          · intro w1 hb hd K hK
            have e6 := E6
            exact op_val (v := (.slice (some ⟨pw, 0, none⟩) 5 5)) rfl (by simp only [execOp, List.map_toArray, List.map_cons, List.map_nil, e6]; go_simp) (hK _ _ (show _ = _ from rfl) (Below.refl _ _) (Fresh.no _ _ _))
          · intro w1 hb hd K hK
            have e7 := E7
            exact op_val (v := (.int .i64 (k : Int))) rfl (by simp only [execOp, List.map_toArray, List.map_cons, List.map_nil, e7]; go_simp) (hK _ _ (show _ = _ from rfl) (Below.refl _ _) (Fresh.no _ _ _))
          · intro w1 hb hd K hK
            have e46 := D46.trans (show u 1 = (.slice (some ⟨pw, 0, none⟩) 5 5) from hd ⟨1, .data⟩ (by simp) rfl (by omega))
            have e47 := D47.trans (show u 2 = (.int .i64 (k : Int)) from hd ⟨2, .data⟩ (by simp) rfl (by omega))
            exact op_val (v := (.pointer (some ⟨pw, k, none⟩))) rfl (exec_ix rfl e46 e47 hlt) (hK _ _ (show _ = _ from rfl) (Below.refl _ _) (Fresh.no _ _ _))
          · intro w1 hb hd K hK
            have e48 := D48.trans (show u 3 = (.pointer (some ⟨pw, k, none⟩)) from hd ⟨3, .data⟩ (by simp) rfl (by omega))
            have c0 : w1.cell? ⟨pw, k, none⟩ = some (.string (bS (32 :: kindW k))) := (HL1.out.kp2 hb).cell (wC_at HH.out)
            exact op_val (v := (.string (bS (32 :: kindW k)))) rfl (by simp only [execOp, e48]; go_simp) (hK _ _ (show _ = _ from rfl) (Below.refl _ _) (Fresh.no _ _ _))
        have hv45 : u 0 = (.agg #[.string (bS R4.t), .bool R4.bad]) := (show u 0 = _ from hsF 0 (by omega) (by omega))
        have hv46 : u 1 = (.slice (some ⟨pw, 0, none⟩) 5 5) := (show u 1 = _ from hsF 1 (by omega) (by omega))
        have hv47 : u 2 = (.int .i64 (k : Int)) := (show u 2 = _ from hsF 2 (by omega) (by omega))
        have hv48 : u 3 = (.pointer (some ⟨pw, k, none⟩)) := (show u 3 = _ from hsF 3 (by omega) (by omega))
        have hv49 : u 4 = (.string (bS (32 :: kindW k))) := (show u 4 = _ from hsF 4 (by omega) (by omega))
        simp only [putRow, hv45, hv46, hv47, hv48, hv49, Act.put, List.setIfInBounds_toArray, List.set_cons_succ, List.set_cons_zero]
        clear hsF hold hap hv45 hv46 hv47 hv48 hv49

        have H2 := Lib.hid (H1.out.grow hbF)
        have HL2 := Lib.hid (HL1.out.kp2 hbF)
        clear H1 HL1 hbF
        refine rest_forced 1 (by kernel_rfl) ?_
        simp only [List.drop_succ_cons, List.drop_zero, List.take_succ_cons, List.take_zero]
        go_wp2_with fail
        refine (HSk.out _).mono ?_
        rintro x w7 ⟨rfl, hb⟩
        have H1 := Lib.hid (H2.out.grow hb)
        have HL1 := Lib.hid (HL2.out.kp2 hb)
        clear H2 HL2 hb HSk
        have H2 := H1
        have HL2 := HL1
        clear H1 HL1
        go_wp2_with fail
        refine rest_done rfl ?_
        cases q with
        | true =>
          have HK2 : Hid (kTo R4 (k + 1) = k) := Lib.hid (HK.out.trans (if_pos rfl))
          obtain ⟨v0, hv0⟩ := enC_some (gE N1 N2 N3 N4 (kTo R4 k) 0 false [] 0 0) (j := 4) (by decide)
          have k0 := H2.out.ent.cell hv0
          have k1 := H2.out.ent.free 4
          clear hv0 HK
          go_wp2_with fail
          have H3 := Lib.hid (H2.out.put HPE.out (v := .int .u8 (k : Int)) (gE_kd N1 N2 N3 N4 (kTo R4 k) k 0 false [] 0 0))
          go_roundw
          case rel => exact ⟨k + 1, HH.out, rfl, by rw [HK2.out]; exact H3, Lib.hid (HL2.out.other HPW.out.1 4 _)⟩
          case measure => have := HH.out; simp only [intOf]; omega
        | false =>
          have HK2 : Hid (kTo R4 (k + 1) = kTo R4 k) := Lib.hid (HK.out.trans (if_neg (by decide)))
          clear HK
          go_wp2_with fail
          go_roundw
          case rel => exact ⟨k + 1, HH.out, rfl, by rw [HK2.out]; exact H2, HL2⟩
          case measure => have := HH.out; simp only [intOf]; omega
      · have t1 : decide ((k : Int) < 5) = false := decide_eq_false (by omega)
        obtain rfl : k = 5 := by omega
        go_wp2_with fail
        go_meet
        exact ⟨by rw [← HD.out]; exact H, HL⟩
  case rest =>
  obtain ⟨H, HL⟩ := hcut
  clear HD HS H2
  obtain ⟨kq, hkq⟩ : ∃ k, rkind R4 = k := ⟨_, rfl⟩
  have hk4 : kq ≤ 4 := by rw [← hkq]; exact rkind_le R4
  have HKQ : Hid (rkind (rdd s) = kq) := Lib.hid (by rw [HR4.out]; exact hkq)
  have HRK : Hid (rskip R4 (32 :: kindW kq) = rk s) := Lib.hid (by unfold rk; rw [HKQ.out, HR4.out])
  have SK5 := Lib.hid (fun W => rskip_any R4 (32 :: kindW kq) ld1 kW_len W)
  rw [HRK.out] at SK5
  rw [hkq] at H
  rw [HKQ.out] at HAW HVO HPL
  unfold rdC at SK5
  have hk5 : kq < 5 := by omega
  clear hkq ld1 HR4 HRK
  generalize hrk : rk s = RK at *
  have HRK := Lib.hid hrk
  clear hrk
  as_aux_lemma =>
  go_upto_region 13 with fail
  refine rest_begin (by kernel_rfl) ?_
  have H1 := Lib.hid H.out.drew
  have HL1 : Hid (Blk wc.drew pw 9 wC) := Lib.hid (HL.out.drewN 1)
  clear H HL
  generalize wc.drew = W6 at *
  refine rest_flow3 [some 54, some 55, some 56, some 57, some 58, some 59] [Sp.is (.agg #[.string (bS R4.t), .bool R4.bad]), Sp.is (.slice (some ⟨pw, 0, none⟩) 5 5), Sp.is (.pointer (some ⟨pe, 4, none⟩)), Sp.is (.int .u8 (kq : Int)), Sp.is (.pointer (some ⟨pw, kq, none⟩)), Sp.is (.string (bS (32 :: kindW kq)))] [false, false, false, false, false, false] 6 (by kernel_rfl) (by kernel_rfl) (fun u F hF => ?_) (fun u w' hbF hsF hold hap => ?_)
  case refine_1 =>
    have E5 : F.eval (.tmp 5) = (.pointer (some ⟨pr, 0, none⟩)) := (congrArg (fun a => Act.eval a (.tmp 5)) hF).trans (eval_out [some 54, some 55, some 56, some 57, some 58, some 59] 0 _ (by decide))
    have E6 : F.eval (.tmp 6) = (.slice (some ⟨pw, 0, none⟩) 5 5) := (congrArg (fun a => Act.eval a (.tmp 6)) hF).trans (eval_out [some 54, some 55, some 56, some 57, some 58, some 59] 0 _ (by decide))
    have E4 : F.eval (.tmp 4) = (.pointer (some ⟨pe, 0, none⟩)) := (congrArg (fun a => Act.eval a (.tmp 4)) hF).trans (eval_out [some 54, some 55, some 56, some 57, some 58, some 59] 0 _ (by decide))
    have D56 : F.eval (.tmp 56) = u 2 := (congrArg (fun a => Act.eval a (.tmp 56)) hF).trans (eval_in [some 54, some 55, some 56, some 57, some 58, some 59] 0 2 _ (by decide) (by omega) rfl (of_decide_eq_true (by kernel_rfl)))
    have D55 : F.eval (.tmp 55) = u 1 := (congrArg (fun a => Act.eval a (.tmp 55)) hF).trans (eval_in [some 54, some 55, some 56, some 57, some 58, some 59] 0 1 _ (by decide) (by omega) rfl (of_decide_eq_true (by kernel_rfl)))
    have D57 : F.eval (.tmp 57) = u 3 := (congrArg (fun a => Act.eval a (.tmp 57)) hF).trans (eval_in [some 54, some 55, some 56, some 57, some 58, some 59] 0 3 _ (by decide) (by omega) rfl (of_decide_eq_true (by kernel_rfl)))
    have D58 : F.eval (.tmp 58) = u 4 := (congrArg (fun a => Act.eval a (.tmp 58)) hF).trans (eval_in [some 54, some 55, some 56, some 57, some 58, some 59] 0 4 _ (by decide) (by omega) rfl (of_decide_eq_true (by kernel_rfl)))
    clear hF
    refine ⟨?_, ?_, ?_, ?_, ?_, ?_, trivial⟩
    · intro w1 hb hd K hK
      have e5 := E5
      exact op_val (v := (.agg #[.string (bS R4.t), .bool R4.bad])) rfl (exec_load rfl e5 (loadAt_blk (C := #[.string (bS R4.t), .bool R4.bad]) (H1.out.grow hb).rdr Tryz.underlying116 rfl (by kernel_rfl))) (hK _ _ (show _ = _ from rfl) (Below.refl _ _) (Fresh.no _ _ _))
    · intro w1 hb hd K hK
      have e6 := E6
      exact op_val (v := (.slice (some ⟨pw, 0, none⟩) 5 5)) rfl (by simp only [execOp, List.map_toArray, List.map_cons, List.map_nil, e6]; go_simp) (hK _ _ (show _ = _ from rfl) (Below.refl _ _) (Fresh.no _ _ _))
    · intro w1 hb hd K hK
      have e4 := E4
      exact op_val (v := (.pointer (some ⟨pe, 4, none⟩))) rfl (by simp only [execOp, List.map_toArray, List.map_cons, List.map_nil, e4]; go_simp) (hK _ _ (show _ = _ from rfl) (Below.refl _ _) (Fresh.no _ _ _))
    · intro w1 hb hd K hK
      have e56 := D56.trans (show u 2 = (.pointer (some ⟨pe, 4, none⟩)) from hd ⟨2, .data⟩ (by simp) rfl (by omega))
      have c0 : w1.cell? ⟨pe, 4, none⟩ = some (.int .u8 (kq : Int)) := (H1.out.grow hb).ent.cell (enC_kd (gE N1 N2 N3 N4 kq 0 false [] 0 0))
      exact op_val (v := (.int .u8 (kq : Int))) rfl (by simp only [execOp, e56]; go_simp) (hK _ _ (show _ = _ from rfl) (Below.refl _ _) (Fresh.no _ _ _))
    · intro w1 hb hd K hK
      have e55 := D55.trans (show u 1 = (.slice (some ⟨pw, 0, none⟩) 5 5) from hd ⟨1, .data⟩ (by simp) rfl (by omega))
      have e57 := D57.trans (show u 3 = (.int .u8 (kq : Int)) from hd ⟨3, .data⟩ (by simp) rfl (by omega))
      exact op_val (v := (.pointer (some ⟨pw, kq, none⟩))) rfl (exec_ix rfl e55 e57 hk5) (hK _ _ (show _ = _ from rfl) (Below.refl _ _) (Fresh.no _ _ _))
    · intro w1 hb hd K hK
      have e58 := D58.trans (show u 4 = (.pointer (some ⟨pw, kq, none⟩)) from hd ⟨4, .data⟩ (by simp) rfl (by omega))
      have c0 : w1.cell? ⟨pw, kq, none⟩ = some (.string (bS (32 :: kindW kq))) := (HL1.out.kp2 hb).cell (wC_at hk5)
      exact op_val (v := (.string (bS (32 :: kindW kq)))) rfl (by simp only [execOp, e58]; go_simp) (hK _ _ (show _ = _ from rfl) (Below.refl _ _) (Fresh.no _ _ _))
  have hv54 : u 0 = (.agg #[.string (bS R4.t), .bool R4.bad]) := (show u 0 = _ from hsF 0 (by omega) (by omega))
  have hv55 : u 1 = (.slice (some ⟨pw, 0, none⟩) 5 5) := (show u 1 = _ from hsF 1 (by omega) (by omega))
  have hv56 : u 2 = (.pointer (some ⟨pe, 4, none⟩)) := (show u 2 = _ from hsF 2 (by omega) (by omega))
  have hv57 : u 3 = (.int .u8 (kq : Int)) := (show u 3 = _ from hsF 3 (by omega) (by omega))
  have hv58 : u 4 = (.pointer (some ⟨pw, kq, none⟩)) := (show u 4 = _ from hsF 4 (by omega) (by omega))
  have hv59 : u 5 = (.string (bS (32 :: kindW kq))) := (show u 5 = _ from hsF 5 (by omega) (by omega))
  simp only [putRow, hv54, hv55, hv56, hv57, hv58, hv59, Act.put, List.setIfInBounds_toArray, List.set_cons_succ, List.set_cons_zero]
  clear hsF hold hap hv54 hv55 hv56 hv57 hv58 hv59

  have H2 := Lib.hid (H1.out.grow hbF)
  clear H1 HL1 hbF
  refine rest_forced 1 (by kernel_rfl) ?_
  simp only [List.drop_succ_cons, List.drop_zero, List.take_succ_cons, List.take_zero]
  go_wp2_with fail
  refine (SK5.out _).mono ?_
  rintro x w8 ⟨rfl, hb⟩
  have H := Lib.hid (H2.out.grow hb)
  clear H2 hb SK5
  have st := storeAt_row (T := 116) (C := #[.string (bS RK.t), .bool RK.bad]) H.out.rdr (by kernel_rfl) rfl (by kernel_rfl)
  have H4 := Lib.hid (H.out.read HPR.out RK)
  clear H
  go_wp2_with fail
  refine rest_forced 1 (by kernel_rfl) ?_
  simp only [List.drop_succ_cons, List.drop_zero, List.take_succ_cons, List.take_zero]
  refine op_store (p := .pointer (some ⟨pr, 0, none⟩)) (C := .agg #[.string (bS RK.t), .bool RK.bad]) 116 (.tmp 5) (.tmp 60) rfl rfl rfl rfl rfl st ?_
  apply wpList_nil
  simp only [Exit.then]
  refine rest_done rfl ?_
  clear st
  have H := H4
  clear H4
  have y4 := H.out.ent.cell (enC_kd (gE N1 N2 N3 N4 kq 0 false [] 0 0))
  change World.cell? _ _ = some (.int .u8 (kq : Int)) at y4
  go_upto_if 63 with fail
  generalize w8.setRow pr #[.string (bS RK.t), .bool RK.bad] = W8 at *
  go_cut [8] (fun s8 wx => Hid (RS3 wx w p2 pe pr (rEnd s) (rEnt s)))
  case first =>
    by_cases h4 : kq = 4
    · skip
      have h1 : ([32] : List UInt8).length ≤ 1000000 := by decide
      have lm : (rskip RK [32]).t.length ≤ 1000000 := Nat.le_trans (rskip_len _ _) lk1
      have hrx : rnumR (rskip RK [32]) = rx s := by unfold rx; rw [HRK.out]
      have lx : (rx s).t.length ≤ 1000000 := by rw [← hrx]; exact Nat.le_trans (rnum_len _) lm
      have ln : (rskip (rx s) [32]).t.length ≤ 1000000 := Nat.le_trans (rskip_len _ _) lx
      have hry : rnumR (rskip (rx s) [32]) = ry s := by unfold ry; rfl
      have SK6 := Lib.hid (fun W => rskip_any RK [32] lk1 h1 W)
      have BY6 := Lib.hid (fun W (h : Env W) => rnum_any (rskip RK [32]) lm W h)
      have SK7 := Lib.hid (fun W => rskip_any (rx s) [32] lx h1 W)
      have BY7 := Lib.hid (fun W (h : Env W) => rnum_any (rskip (rx s) [32]) ln W h)
      rw [hrx] at BY6
      rw [hry] at BY7
      have HX := Lib.hid (HAW.out h4)
      clear HAW HVO HPL hrx hry lm lx ln lk1 h1
      generalize rnumV (rskip RK [32]) = NX at *
      generalize rnumV (rskip (rx s) [32]) = NY at *
      generalize rskip RK [32] = S6 at *
      generalize rskip (rx s) [32] = S7 at *
      generalize rx s = RX at *
      generalize ry s = RY at *
      unfold rdC at SK6 SK7 BY6 BY7
      have t1 : ((kq : Int) == 4) = true := by simp [h4]
      have HK4 := Lib.hid h4
      clear h4
      go_upto_region 15 with fail

      as_aux_lemma =>
      have la := loadAt_blk (T := 116) (C := #[.string (bS RK.t), .bool RK.bad]) H.out.rdr Tryz.underlying116 rfl (by kernel_rfl)
      go_wp2_with (guard_target =~ wpList _ _ _ (⟨some 65, _, _, _, _, _⟩ :: _) _ _; refine op_load (p := .pointer (some ⟨pr, 0, none⟩)) 116 (.tmp 5) rfl rfl rfl la ?_)
      clear la
      refine (SK6.out _).mono ?_
      rintro x wa6 ⟨rfl, hb⟩
      have H2 := Lib.hid (H.out.grow hb)
      clear hb H SK6
      have H := H2
      clear H2
      go_wp2_with fail
      have HEn := Lib.hid (HE.out.keep H.out.bel)
      refine (BY6.out _ HEn.out).mono ?_
      rintro x wb6 ⟨rfl, hb⟩
      have H2 := Lib.hid (H.out.grow hb)
      clear hb H BY6 HEn
      have H := H2
      clear H2
      as_aux_lemma =>
      have st := storeAt_row (T := 116) (C := #[.string (bS RX.t), .bool RX.bad]) H.out.rdr (by kernel_rfl) rfl (by kernel_rfl)
      have H4 := Lib.hid (H.out.read HPR.out RX)
      clear H
      obtain ⟨v0, hv0⟩ := enC_some (gE N1 N2 N3 N4 kq 0 false [] 0 0) (j := 31) (by decide)
      have k0 := H4.out.ent.cell hv0
      have k1 := H4.out.ent.free 31
      clear hv0
      go_upto_region 16 with (guard_target =~ wpList _ _ _ (⟨none, _, _, _, _, _⟩ :: _) _ _; refine op_store (p := .pointer (some ⟨pr, 0, none⟩)) (C := .agg #[.string (bS RX.t), .bool RX.bad]) 116 (.tmp 5) (.tmp 68) rfl rfl rfl rfl rfl st ?_)
      have H := Lib.hid (H4.out.put HPE.out (v := .int .i64 NX) (gE_x _ _ _ _ _ _ _ _ _ _ _))
      clear st k0 k1 H4
      generalize (wb6.setRow pr #[.string (bS RX.t), .bool RX.bad]).setCell ⟨pe, 31, none⟩ (.int .i64 NX) = W9 at *
      as_aux_lemma =>
      have la := loadAt_blk (T := 116) (C := #[.string (bS RX.t), .bool RX.bad]) H.out.rdr Tryz.underlying116 rfl (by kernel_rfl)
      go_wp2_with (guard_target =~ wpList _ _ _ (⟨some 73, _, _, _, _, _⟩ :: _) _ _; refine op_load (p := .pointer (some ⟨pr, 0, none⟩)) 116 (.tmp 5) rfl rfl rfl la ?_)
      clear la
      refine (SK7.out _).mono ?_
      rintro x wa7 ⟨rfl, hb⟩
      have H2 := Lib.hid (H.out.grow hb)
      clear hb H SK7
      have H := H2
      clear H2
      go_wp2_with fail
      have HEn := Lib.hid (HE.out.keep H.out.bel)
      refine (BY7.out _ HEn.out).mono ?_
      rintro x wb7 ⟨rfl, hb⟩
      have H2 := Lib.hid (H.out.grow hb)
      clear hb H BY7 HEn
      have H := H2
      clear H2
      as_aux_lemma =>
      have st := storeAt_row (T := 116) (C := #[.string (bS RY.t), .bool RY.bad]) H.out.rdr (by kernel_rfl) rfl (by kernel_rfl)
      have H4 := Lib.hid (H.out.read HPR.out RY)
      clear H
      obtain ⟨v0, hv0⟩ := enC_some (gE N1 N2 N3 N4 kq 0 false [] NX 0) (j := 32) (by decide)
      have k0 := H4.out.ent.cell hv0
      have k1 := H4.out.ent.free 32
      clear hv0
      go_wp2_with (guard_target =~ wpList _ _ _ (⟨none, _, _, _, _, _⟩ :: _) _ _; refine op_store (p := .pointer (some ⟨pr, 0, none⟩)) (C := .agg #[.string (bS RY.t), .bool RY.bad]) 116 (.tmp 5) (.tmp 76) rfl rfl rfl rfl rfl st ?_)
      have H := Lib.hid (H4.out.put HPE.out (v := .int .i64 NY) (gE_y _ _ _ _ _ _ _ _ _ _ _))
      clear st k0 k1 H4
      generalize (wb7.setRow pr #[.string (bS RY.t), .bool RY.bad]).setCell ⟨pe, 32, none⟩ (.int .i64 NY) = W10 at *
      go_meet
      have h := H.out
      rw [HK4.out] at h
      exact Lib.hid (by rw [HX.out.1, HX.out.2]; exact h)
    · have h40 : ((kq : Int) == 4) = false := beq_eq_false_iff_ne.2 (by omega)
      by_cases h0 : kq = 0
      · have HX := Lib.hid (HVO.out h0)
        have HK0 := Lib.hid h0
        have t2 : decide (0 < (kq : Int)) = false := decide_eq_false (by omega)
        have t2b : decide (0 < kq) = false := decide_eq_false (by omega)
        clear HAW HVO HPL lk1 h4 h0 hk4 hk5
        go_wp2_with fail
        go_meet
        have h := H.out
        rw [HK0.out] at h
        exact Lib.hid (by rw [HX.out.1, HX.out.2]; exact h)
      · skip
        have HX := Lib.hid (HPL.out h4 h0)
        have t2 : decide (0 < (kq : Int)) = true := decide_eq_true (by omega)
        have t2b : decide (0 < kq) = true := decide_eq_true (by omega)
        have h1 : ([32] : List UInt8).length ≤ 1000000 := by decide
        have lm : (rskip RK [32]).t.length ≤ 1000000 := Nat.le_trans (rskip_len _ _) lk1
        have hrf : rbyteR (rskip RK [32]) = rf s := by unfold rf; rw [HRK.out]
        have lf : (rf s).t.length ≤ 1000000 := by rw [← hrf]; exact Nat.le_trans (rbyte_len _) lm
        have lw : (32 :: wTurned).length ≤ 1000000 := by decide
        have lw2 : (32 :: wayW (rt s)).length ≤ 1000000 := by cases rt s <;> decide
        have hrt : rhas (rf s) (32 :: wTurned) = rt s := by unfold rt; rfl
        have hrw : rskip (rf s) (32 :: wayW (rt s)) = rw_ s := by unfold rw_; rfl
        have lrw : (rw_ s).t.length ≤ 1000000 := by rw [← hrw]; exact Nat.le_trans (rskip_len _ _) lf
        have SK6 := Lib.hid (fun W => rskip_any RK [32] lk1 h1 W)
        have BY6 := Lib.hid (fun W (h : Env W) => rbyte_any (rskip RK [32]) lm W h)
        have HS7 := Lib.hid (fun W => rhas_any (rf s) (32 :: wTurned) lf lw W)
        have SK8 := Lib.hid (fun W => rskip_any (rf s) (32 :: wayW (rt s)) lf lw2 W)
        rw [hrf] at BY6
        rw [hrt] at HS7
        rw [hrw] at SK8
        have HRS := Lib.hid (fun R (h : R.t.length ≤ 1000000) W => rhas_any R [32] h h1 W)
        have SKS := Lib.hid (fun R (h : R.t.length ≤ 1000000) W => rskip_any R [32] h h1 W)
        have OUS := Lib.hid (fun R (h : R.t.length ≤ 1000000) W (he : Env W) => rout_any (rskip R [32]) (Nat.le_trans (rskip_len _ _) h) W he)
        have LRW := Lib.hid lrw
        clear HAW HVO HPL hrf hrt hrw lm lf lw lw2 lk1 h1 lrw h4 h0 hk4 hk5
        generalize rbyteV (rskip RK [32]) = FD at *
        generalize rskip RK [32] = S6 at *
        generalize rt s = Q at *
        generalize rf s = RF at *
        generalize rw_ s = RW at *
        unfold rdC at SK6 BY6 HS7 SK8
        go_upto_region 18 with fail

        as_aux_lemma =>
        have la := loadAt_blk (T := 116) (C := #[.string (bS RK.t), .bool RK.bad]) H.out.rdr Tryz.underlying116 rfl (by kernel_rfl)
        go_wp2_with (guard_target =~ wpList _ _ _ (⟨some 84, _, _, _, _, _⟩ :: _) _ _; refine op_load (p := .pointer (some ⟨pr, 0, none⟩)) 116 (.tmp 5) rfl rfl rfl la ?_)
        clear la
        refine (SK6.out _).mono ?_
        rintro x wa6 ⟨rfl, hb⟩
        have H2 := Lib.hid (H.out.grow hb)
        clear hb H SK6
        have H := H2
        clear H2
        go_wp2_with fail
        have HEn := Lib.hid (HE.out.keep H.out.bel)
        refine (BY6.out _ HEn.out).mono ?_
        rintro x wb6 ⟨rfl, hb⟩
        have H2 := Lib.hid (H.out.grow hb)
        clear hb H BY6 HEn
        have H := H2
        clear H2
        as_aux_lemma =>
        have st := storeAt_row (T := 116) (C := #[.string (bS RF.t), .bool RF.bad]) H.out.rdr (by kernel_rfl) rfl (by kernel_rfl)
        have H4 := Lib.hid (H.out.read HPR.out RF)
        clear H
        obtain ⟨v0, hv0⟩ := enC_some (gE N1 N2 N3 N4 kq 0 false [] 0 0) (j := 5) (by decide)
        have k0 := H4.out.ent.cell hv0
        have k1 := H4.out.ent.free 5
        clear hv0
        go_upto_region 19 with (guard_target =~ wpList _ _ _ (⟨none, _, _, _, _, _⟩ :: _) _ _; refine op_store (p := .pointer (some ⟨pr, 0, none⟩)) (C := .agg #[.string (bS RF.t), .bool RF.bad]) 116 (.tmp 5) (.tmp 87) rfl rfl rfl rfl rfl st ?_)
        have H := Lib.hid (H4.out.put HPE.out (v := .int .u8 ((FD : Nat) : Int)) (gE_fd _ _ _ _ _ _ _ _ _ _ _))
        clear st k0 k1 H4
        generalize (wb6.setRow pr #[.string (bS RF.t), .bool RF.bad]).setCell ⟨pe, 5, none⟩ (.int .u8 ((FD : Nat) : Int)) = W9 at *
        as_aux_lemma =>
        have la := loadAt_blk (T := 116) (C := #[.string (bS RF.t), .bool RF.bad]) H.out.rdr Tryz.underlying116 rfl (by kernel_rfl)
        go_wp2_with (guard_target =~ wpList _ _ _ (⟨some 90, _, _, _, _, _⟩ :: _) _ _; refine op_load (p := .pointer (some ⟨pr, 0, none⟩)) 116 (.tmp 5) rfl rfl rfl la ?_)
        clear la
        refine (HS7.out _).mono ?_
        rintro x wa7 ⟨rfl, hb⟩
        have H2 := Lib.hid (H.out.grow hb)
        clear hb H HS7
        have H := H2
        clear H2
        go_upto_if 91 with fail
        go_cut [] (fun wx => Hid (RS3 wx w p2 pe pr RW (gE N1 N2 N3 N4 kq FD Q [] 0 0)))
        case first =>
          cases Q with
          | true =>
            obtain ⟨v0, hv0⟩ := enC_some (gE N1 N2 N3 N4 kq FD false [] 0 0) (j := 6) (by decide)
            have k0 := H.out.ent.cell hv0
            have k1 := H.out.ent.free 6
            clear hv0
            go_upto_region 21 with fail
            have H5 := Lib.hid (H.out.put HPE.out (v := .bool true) (gE_tn _ _ _ _ _ _ _ _ _ _ _))
            clear H k0 k1
            have H := H5
            clear H5
            generalize wa7.setCell ⟨pe, 6, none⟩ (.bool true) = W10 at *
            as_aux_lemma =>
            have la := loadAt_blk (T := 116) (C := #[.string (bS RF.t), .bool RF.bad]) H.out.rdr Tryz.underlying116 rfl (by kernel_rfl)
            go_wp2_with (guard_target =~ wpList _ _ _ (⟨some 93, _, _, _, _, _⟩ :: _) _ _; refine op_load (p := .pointer (some ⟨pr, 0, none⟩)) 116 (.tmp 5) rfl rfl rfl la ?_)
            clear la
            refine (SK8.out _).mono ?_
            rintro x wa8 ⟨rfl, hb⟩
            have H2 := Lib.hid (H.out.grow hb)
            clear hb H SK8
            have H := H2
            clear H2
            as_aux_lemma =>
            have st := storeAt_row (T := 116) (C := #[.string (bS RW.t), .bool RW.bad]) H.out.rdr (by kernel_rfl) rfl (by kernel_rfl)
            have H4 := Lib.hid (H.out.read HPR.out RW)
            clear H
            go_wp2_with (guard_target =~ wpList _ _ _ (⟨none, _, _, _, _, _⟩ :: _) _ _; refine op_store (p := .pointer (some ⟨pr, 0, none⟩)) (C := .agg #[.string (bS RW.t), .bool RW.bad]) 116 (.tmp 5) (.tmp 94) rfl rfl rfl rfl rfl st ?_)
            clear st
            have H := H4
            clear H4
            go_meet
            exact H
          | false =>
            go_upto_region 22 with fail
            as_aux_lemma =>
            have la := loadAt_blk (T := 116) (C := #[.string (bS RF.t), .bool RF.bad]) H.out.rdr Tryz.underlying116 rfl (by kernel_rfl)
            go_wp2_with (guard_target =~ wpList _ _ _ (⟨some 95, _, _, _, _, _⟩ :: _) _ _; refine op_load (p := .pointer (some ⟨pr, 0, none⟩)) 116 (.tmp 5) rfl rfl rfl la ?_)
            clear la
            refine (SK8.out _).mono ?_
            rintro x wa8 ⟨rfl, hb⟩
            have H2 := Lib.hid (H.out.grow hb)
            clear hb H SK8
            have H := H2
            clear H2
            as_aux_lemma =>
            have st := storeAt_row (T := 116) (C := #[.string (bS RW.t), .bool RW.bad]) H.out.rdr (by kernel_rfl) rfl (by kernel_rfl)
            have H4 := Lib.hid (H.out.read HPR.out RW)
            clear H
            go_wp2_with (guard_target =~ wpList _ _ _ (⟨none, _, _, _, _, _⟩ :: _) _ _; refine op_store (p := .pointer (some ⟨pr, 0, none⟩)) (C := .agg #[.string (bS RW.t), .bool RW.bad]) 116 (.tmp 5) (.tmp 96) rfl rfl rfl rfl rfl st ?_)
            clear st
            have H := H4
            clear H4
            go_meet
            exact H
        case rest =>
        have H := hcut
        clear hcut
        as_aux_lemma =>
        go_wp2_with fail
        go_loopw [8] (fun s8 wr => ∃ (i : Nat) (R : Rd) (l : List Ou), i ≤ 4 ∧ s8 = .int .i64 (i : Int) ∧ Hid (l.length = i ∧ R.t.length ≤ 1000000 ∧ routsR 4 RW = routsR (4 - i) R ∧ routsV 4 RW = l ++ routsV (4 - i) R) ∧ Hid (RS3 wr w p2 pe pr R (gE N1 N2 N3 N4 kq FD Q l 0 0))) (fun s8 _ => 4 - (intOf s8).toNat)
        case atStart => exact ⟨0, RW, [], by omega, rfl, Lib.hid ⟨rfl, LRW.out, rfl, rfl⟩, H⟩
        case round =>
          clear H
          obtain ⟨i, R, l, hi, rfl, HI, H⟩ := hrel
          as_aux_lemma =>
          by_cases hlt : i < 4
          · have u1 : decide ((i : Int) < 4) = true := decide_eq_true (by omega)
            have e1 : IntKind.i64.wrap ((i : Int) + 1) = ((i + 1 : Nat) : Int) := by rw [show (((i + 1 : Nat) : Int)) = (i : Int) + 1 by omega]; exact IntWalk.i64_in _ (by omega)
            have HSq := Lib.hid (fun W => HRS.out R HI.out.2.1 W)
            have SKi := Lib.hid (fun W => SKS.out R HI.out.2.1 W)
            have OUi := Lib.hid (fun W he => OUS.out R HI.out.2.1 W he)
            have hyes := fun (h : rhas R [32] = true) => routs_yes (R := R) hlt h
            have hno := fun (h : rhas R [32] = false) => routs_no (i := i) (R := R) h
            have lR2 : (routR (rskip R [32])).t.length ≤ 1000000 := Nat.le_trans (rout_len _) (Nat.le_trans (rskip_len _ _) HI.out.2.1)
            obtain ⟨q, hq⟩ : ∃ q, rhas R [32] = q := ⟨_, rfl⟩
            obtain ⟨o, ho⟩ : ∃ o, routV (rskip R [32]) = o := ⟨_, rfl⟩
            obtain ⟨R2, hR2⟩ : ∃ r, routR (rskip R [32]) = r := ⟨_, rfl⟩
            rw [hq] at HSq hyes hno
            rw [ho, hR2] at hyes OUi
            rw [hR2] at lR2
            have HY := Lib.hid hyes
            have HNO := Lib.hid hno
            have LR2 := Lib.hid lR2
            have HLT := Lib.hid hlt
            clear hq ho hR2 hyes hno lR2 hlt
            generalize rskip R [32] = S9 at *
            unfold rdC at HSq SKi OUi
            have la := loadAt_blk (T := 116) (C := #[.string (bS R.t), .bool R.bad]) H.out.rdr Tryz.underlying116 rfl (by kernel_rfl)
            go_wp2_with (guard_target =~ wpList _ _ _ (⟨some 100, _, _, _, _, _⟩ :: _) _ _; refine op_load_w (p := .pointer (some ⟨pr, 0, none⟩)) 116 (.tmp 5) (by kernel_rfl) rfl rfl la ?_)
            clear la
            refine (HSq.out _).mono ?_
            rintro x wa9 ⟨rfl, hb⟩
            have H2 := Lib.hid (H.out.grow hb)
            clear hb H HSq
            have H := H2
            clear H2
            cases q with
            | false =>
              have HN := Lib.hid (HNO.out rfl)
              clear HNO HY OUi SKi
              go_wp2_with fail
              go_meet
              exact Lib.hid (by rw [HX.out.1, HX.out.2, HI.out.2.2.1, HI.out.2.2.2, HN.out.1, HN.out.2, List.append_nil]; exact H.out)
            | true =>
              have HYY := Lib.hid (HY.out rfl)
              clear HNO HY
              go_upto_region 26 with fail
              as_aux_lemma =>
              have la := loadAt_blk (T := 116) (C := #[.string (bS R.t), .bool R.bad]) H.out.rdr Tryz.underlying116 rfl (by kernel_rfl)
              go_wp2_with (guard_target =~ wpList _ _ _ (⟨some 107, _, _, _, _, _⟩ :: _) _ _; refine op_load (p := .pointer (some ⟨pr, 0, none⟩)) 116 (.tmp 5) rfl rfl rfl la ?_)
              clear la
              refine (SKi.out _).mono ?_
              rintro x wa8 ⟨rfl, hb⟩
              have H2 := Lib.hid (H.out.grow hb)
              clear hb H SKi
              have H := H2
              clear H2
              go_wp2_with fail
              have HEn := Lib.hid (HE.out.keep H.out.bel)
              refine (OUi.out _ HEn.out).mono ?_
              rintro x wb8 ⟨rfl, hb⟩
              have H2 := Lib.hid (H.out.grow hb)
              clear hb H OUi HEn
              have H := H2
              clear H2
              have HPO := Lib.hid (fun (W : World) (h : RS3 W w p2 pe pr R2 (gE N1 N2 N3 N4 kq FD Q l 0 0)) => h.puto HPE.out HI.out.1 HLT.out o)
              have HCO := Lib.hid (show (ouA o).size = 6 ∧ (∀ v ∈ (ouA o).toList, v.oneCell' = true) ∧ (ouA o).all (·.oneCell') = true from ⟨rfl, ouA_one o, by kernel_rfl⟩)
              have hou : ouV o = .agg (ouA o) := rfl
              rw [hou]
              clear hou
              generalize ouA o = CO at *
              have hi4 := HLT.out
              have k2 : (i : Int) < 4 := by omega
              have k1 : ¬ (4 : Int) ≤ (i : Int) := by omega
              have hsz : CO.size = 6 := HCO.out.1
              as_aux_lemma =>
              have st := storeAt_row (T := 116) (C := #[.string (bS R2.t), .bool R2.bad]) H.out.rdr (by kernel_rfl) rfl (by kernel_rfl)
              have H4 := Lib.hid (H.out.read HPR.out R2)
              have st2 := storeAt_run (T := 30) (w := wb8.setRow pr #[.string (bS R2.t), .bool R2.bad]) (b := pe) (off := 7 + i * 6) (C := CO) (by rw [hsz]; kernel_rfl) (fun j hj => by rw [hsz] at hj; exact enC_cell H4.out.ent (7 + i * 6 + j) (by omega)) (fun j hj => H4.out.ent.free _) HCO.out.2.1
              have H5 := Lib.hid (HPO.out _ H4.out)
              clear H H4 hi4 hsz HPO
              go_wp2_with (first
                | (guard_target =~ wpList _ _ _ (⟨none, .store _ (.tmp 5) _, _, _, _, _⟩ :: _) _ _; refine op_store (p := .pointer (some ⟨pr, 0, none⟩)) (C := .agg #[.string (bS R2.t), .bool R2.bad]) 116 (.tmp 5) (.tmp 110) rfl rfl rfl rfl rfl st ?_)
                | (guard_target =~ wpList _ _ _ (⟨none, .store _ (.tmp 113) _, _, _, _, _⟩ :: _) _ _; refine op_store (p := .pointer (some ⟨pe, 7 + i * 6, none⟩)) (C := .agg CO) 30 (.tmp 113) (.tmp 111) rfl rfl rfl rfl rfl st2 ?_))
              go_roundw
              case rel => exact ⟨i + 1, R2, l ++ [o], HLT.out, by first | rfl | simp, Lib.hid ⟨by rw [List.length_append, HI.out.1]; rfl, LR2.out, HI.out.2.2.1.trans HYY.out.1, by rw [HI.out.2.2.2, HYY.out.2]; simp⟩, H5⟩
              case measure => have := HLT.out; simp only [intOf]; omega
          · obtain rfl : i = 4 := by omega
            have u1 : decide ((4 : Int) < 4) = false := rfl
            rw [show ((4 : Nat) : Int) = 4 from rfl]
            have HN := Lib.hid (routs_end (R := R))
            go_wp2_with fail
            go_meet
            exact Lib.hid (by rw [HX.out.1, HX.out.2, HI.out.2.2.1, HI.out.2.2.2, HN.out.1, HN.out.2, List.append_nil]; exact H.out)
  case rest =>
  clear H HAW HVO HPL
  have H := hcut
  clear hcut lk1 hk4 hk5 HKQ
  have TX := Lib.hid (fun W hW => rtext_any (rEnt s) (rEnt_in s) W hW)
  have HRR : Hid (rreadF s = if (rEnd s).bad = false ∧ rightE (rEnt s) = true ∧ (rEnt s).txt = s then some (rEnt s) else none) := Lib.hid (by unfold rreadF; rfl)
  generalize rEnd s = RE at *
  generalize rEnt s = EE at *
  have la := loadAt_blk (T := 34) H.out.ent Tryz.underlying34 rfl (by rw [enC_size]; kernel_rfl)
  as_aux_lemma =>
  go_wp2_with (guard_target =~ wpList _ _ _ (⟨some 115, _, _, _, _, _⟩ :: _) _ _; refine op_load (p := .pointer (some ⟨pe, 0, none⟩)) 34 (.tmp 4) rfl rfl rfl la ?_)
  clear la
  have HEn := Lib.hid (HE.out.keep H.out.bel)
  refine (TX.out _ HEn.out).mono ?_
  rintro x wt ⟨rfl, hb⟩
  have H2 := Lib.hid (H.out.grow hb)
  clear hb H TX HEn
  have H := H2
  clear H2
  have yb := H.out.rdr.cell (j := 1) (v := .bool RE.bad) rfl
  obtain ⟨b, hb⟩ : ∃ b, RE.bad = b := ⟨_, rfl⟩
  rw [hb] at yb HRR
  clear hb
  rcases hr : rightE EE with _ | _
  · rw [textV_f hr]
    cases b
    case true =>
      as_aux_lemma =>
      have HR3 : Hid (rreadF s = none) := Lib.hid (by rw [HRR.out, if_neg (fun h => by cases h.1)])
      have st := storeAt_row (T := 34) (C := enC zE) H.out.res (by rw [enC_size]; kernel_rfl) (by simp only [enC_size]) (enC_one _)
      have HF := Lib.hid (H.out.res.row (enC zE))
      have HXB := Lib.hid (Below.setRow' HP2.out.2 H.out.bel (enC zE))
      clear H HRR
      go_wp2_with (first | (guard_target =~ wpList _ _ _ (⟨some 130, _, _, _, _, _⟩ :: _) _ _; refine op_build 34 _ (enC zE) rfl rfl (by kernel_rfl) ?_; simp only [Act.put, List.setIfInBounds_toArray, List.set_cons_succ, List.set_cons_zero]) | (guard_target =~ wpList _ _ _ (⟨none, _, _, _, _, _⟩ :: _) _ _; refine op_store (p := .pointer (some ⟨p2, 0, none⟩)) (C := .agg (enC zE)) 34 (.tmp 2) (.tmp 130) rfl rfl rfl rfl rfl st ?_))
      clear st
      generalize wt.setRow p2 (enC zE) = WF at *
      have lf := loadVar_blk (T := 34) HF.out Tryz.underlying34 rfl (by rw [enC_size]; kernel_rfl)
      (try simp only [Exit.inBlock, Exit.then])
      refine bodyPost_ret (results_cell_tmp Tryz.results35 rfl rfl lf) rfl ?_
      exact ⟨by rw [HR3.out]; rfl, HXB.out⟩
    case false =>
      as_aux_lemma =>
      have HR3 : Hid (rreadF s = none) := Lib.hid (by rw [HRR.out, if_neg (fun h => by rw [hr] at h; cases h.2.1)])
      have st := storeAt_row (T := 34) (C := enC zE) H.out.res (by rw [enC_size]; kernel_rfl) (by simp only [enC_size]) (enC_one _)
      have HF := Lib.hid (H.out.res.row (enC zE))
      have HXB := Lib.hid (Below.setRow' HP2.out.2 H.out.bel (enC zE))
      clear H HRR
      go_wp2_with (first | (guard_target =~ wpList _ _ _ (⟨some 130, _, _, _, _, _⟩ :: _) _ _; refine op_build 34 _ (enC zE) rfl rfl (by kernel_rfl) ?_; simp only [Act.put, List.setIfInBounds_toArray, List.set_cons_succ, List.set_cons_zero]) | (guard_target =~ wpList _ _ _ (⟨none, _, _, _, _, _⟩ :: _) _ _; refine op_store (p := .pointer (some ⟨p2, 0, none⟩)) (C := .agg (enC zE)) 34 (.tmp 2) (.tmp 130) rfl rfl rfl rfl rfl st ?_))
      clear st
      generalize wt.setRow p2 (enC zE) = WF at *
      have lf := loadVar_blk (T := 34) HF.out Tryz.underlying34 rfl (by rw [enC_size]; kernel_rfl)
      (try simp only [Exit.inBlock, Exit.then])
      refine bodyPost_ret (results_cell_tmp Tryz.results35 rfl rfl lf) rfl ?_
      exact ⟨by rw [HR3.out]; rfl, HXB.out⟩
  · rw [textV_t hr]
    cases b
    case true =>
      as_aux_lemma =>
      have HR3 : Hid (rreadF s = none) := Lib.hid (by rw [HRR.out, if_neg (fun h => by cases h.1)])
      have st := storeAt_row (T := 34) (C := enC zE) H.out.res (by rw [enC_size]; kernel_rfl) (by simp only [enC_size]) (enC_one _)
      have HF := Lib.hid (H.out.res.row (enC zE))
      have HXB := Lib.hid (Below.setRow' HP2.out.2 H.out.bel (enC zE))
      clear H HRR
      go_wp2_with (first | (guard_target =~ wpList _ _ _ (⟨some 130, _, _, _, _, _⟩ :: _) _ _; refine op_build 34 _ (enC zE) rfl rfl (by kernel_rfl) ?_; simp only [Act.put, List.setIfInBounds_toArray, List.set_cons_succ, List.set_cons_zero]) | (guard_target =~ wpList _ _ _ (⟨none, _, _, _, _, _⟩ :: _) _ _; refine op_store (p := .pointer (some ⟨p2, 0, none⟩)) (C := .agg (enC zE)) 34 (.tmp 2) (.tmp 130) rfl rfl rfl rfl rfl st ?_))
      clear st
      generalize wt.setRow p2 (enC zE) = WF at *
      have lf := loadVar_blk (T := 34) HF.out Tryz.underlying34 rfl (by rw [enC_size]; kernel_rfl)
      (try simp only [Exit.inBlock, Exit.then])
      refine bodyPost_ret (results_cell_tmp Tryz.results35 rfl rfl lf) rfl ?_
      exact ⟨by rw [HR3.out]; rfl, HXB.out⟩
    case false =>
      by_cases ht : EE.txt = s
      · have HR4 : Hid (rreadF s = some EE) := Lib.hid (by rw [HRR.out, if_pos ⟨rfl, hr, ht⟩])
        rw [ht]
        clear ht hr
        as_aux_lemma =>
        have HR3 : Hid (rreadF s = some EE) := Lib.hid (HR4.out)
        have la := loadAt_blk (T := 34) H.out.ent Tryz.underlying34 rfl (by rw [enC_size]; kernel_rfl)
        have st := storeAt_row (T := 34) (C := enC EE) H.out.res (by rw [enC_size]; kernel_rfl) (by simp only [enC_size]) (enC_one _)
        have HF := Lib.hid (H.out.res.row (enC EE))
        have HXB := Lib.hid (Below.setRow' HP2.out.2 H.out.bel (enC EE))
        clear H HRR
        go_wp2_with (first | (guard_target =~ wpList _ _ _ (⟨some 131, _, _, _, _, _⟩ :: _) _ _; refine op_load (p := .pointer (some ⟨pe, 0, none⟩)) 34 (.tmp 4) rfl rfl rfl la ?_; simp only [Act.put, List.setIfInBounds_toArray, List.set_cons_succ, List.set_cons_zero]) | (guard_target =~ wpList _ _ _ (⟨none, _, _, _, _, _⟩ :: _) _ _; refine op_store (p := .pointer (some ⟨p2, 0, none⟩)) (C := .agg (enC EE)) 34 (.tmp 2) (.tmp 131) rfl rfl rfl rfl rfl st ?_))
        clear st la
        generalize wt.setRow p2 (enC EE) = WF at *
        have lf := loadVar_blk (T := 34) HF.out Tryz.underlying34 rfl (by rw [enC_size]; kernel_rfl)
        (try simp only [Exit.inBlock, Exit.then])
        refine bodyPost_ret (results_cell_tmp Tryz.results35 rfl rfl lf) rfl ?_
        exact ⟨by rw [HR3.out]; rfl, HXB.out⟩
      · have e0 : ((bS EE.txt).toList == (bS s).toList) = false := str_ne ht
        have HR4 : Hid (rreadF s = none) := Lib.hid (by rw [HRR.out, if_neg (fun h => ht h.2.2)])
        clear ht hr
        as_aux_lemma =>
        have HR3 : Hid (rreadF s = none) := Lib.hid (HR4.out)
        have st := storeAt_row (T := 34) (C := enC zE) H.out.res (by rw [enC_size]; kernel_rfl) (by simp only [enC_size]) (enC_one _)
        have HF := Lib.hid (H.out.res.row (enC zE))
        have HXB := Lib.hid (Below.setRow' HP2.out.2 H.out.bel (enC zE))
        clear H HRR
        go_wp2_with (first | (guard_target =~ wpList _ _ _ (⟨some 130, _, _, _, _, _⟩ :: _) _ _; refine op_build 34 _ (enC zE) rfl rfl (by kernel_rfl) ?_; simp only [Act.put, List.setIfInBounds_toArray, List.set_cons_succ, List.set_cons_zero]) | (guard_target =~ wpList _ _ _ (⟨none, _, _, _, _, _⟩ :: _) _ _; refine op_store (p := .pointer (some ⟨p2, 0, none⟩)) (C := .agg (enC zE)) 34 (.tmp 2) (.tmp 130) rfl rfl rfl rfl rfl st ?_))
        clear st
        generalize wt.setRow p2 (enC zE) = WF at *
        have lf := loadVar_blk (T := 34) HF.out Tryz.underlying34 rfl (by rw [enC_size]; kernel_rfl)
        (try simp only [Exit.inBlock, Exit.then])
        refine bodyPost_ret (results_cell_tmp Tryz.results35 rfl rfl lf) rfl ?_
        exact ⟨by rw [HR3.out]; rfl, HXB.out⟩
end Go.Proofs.YtpkmibmombpjpaaGreatDoor
