/- The text of a hand: card.Write. -/
import Derived.Test.YtaadipccgckehaaGreatDoorBM
import Derived.Test.YtaadipccgckehaaGreatDoorKtM
import Derived.RangeFuncBox
import Derived.Deep.DeepMust
namespace Go.Proofs.YtaadipccgckehaaGreatDoor
open Go Go.RowKit Go.Shelf Pl
attribute [local go_sem] Oper.semAt_some

def strV' (l : List UInt8) : Value := .string ⟨l.toArray⟩
theorem below_others {W W' : World} (h : Below W.heap.size W W') : KeepsOthers W W' :=
  ⟨h.size, fun k _ hk _ => (h.block k (Array.getElem?_eq_some_iff.1 hk).1).trans hk⟩
theorem suit_any (c : Nat) (hc : c < 52) (w : World) : Calls Tryz.prog 69 #[.int .u8 (c : Int)] w (fun e w' => e = .returned (.int .u8 ((c / 13 : Nat) : Int)) ∧ w = w') := by
  have CR := Lib.hid (cright_any c w)
  rw [decide_eq_true hc] at CR
  go_enter Tryz.func69, Tryz.ntmps69
  go_wp2_with (go_at_call 44; refine CR.out.mono ?_; rintro e w' ⟨rfl, rfl⟩)
  go_ret
  exact ⟨by congr 2, rfl⟩
theorem rank_any (c : Nat) (hc : c < 52) (w : World) : Calls Tryz.prog 70 #[.int .u8 (c : Int)] w (fun e w' => e = .returned (.int .u8 ((c % 13 : Nat) : Int)) ∧ w = w') := by
  have CR := Lib.hid (cright_any c w)
  rw [decide_eq_true hc] at CR
  have e1 : (c : Int).tmod 13 = (c : Int) % 13 := Int.tmod_eq_emod_of_nonneg (by omega)
  go_enter Tryz.func70, Tryz.ntmps70
  go_wp2_with (go_at_call 44; refine CR.out.mono ?_; rintro e w' ⟨rfl, rfl⟩)
  go_ret
  exact ⟨by congr 2, rfl⟩
/-- The parts behind some cards, as cells. -/
def pC (pre : List Nat) : Array Value := #[strV' (partOf pre 3), strV' (partOf pre 2), strV' (partOf pre 1), strV' (partOf pre 0)]
theorem pC_get (pre : List Nat) (s : Nat) (hs : s < 4) : (pC pre)[3 - s]? = some (strV' (partOf pre s)) := by
  rcases (by omega : s = 0 ∨ s = 1 ∨ s = 2 ∨ s = 3) with rfl | rfl | rfl | rfl <;> rfl
theorem pC_set (pre : List Nat) (c : Nat) (hc : c < 52) : (pC pre).setIfInBounds (3 - c / 13) (strV' (partOf pre (c / 13) ++ [sign (c % 13)])) = pC (pre ++ [c]) := by
  have hs : c / 13 < 4 := by omega
  rw [← part_yes]
  unfold pC
  rcases (by omega : c / 13 = 0 ∨ c / 13 = 1 ∨ c / 13 = 2 ∨ c / 13 = 3) with e | e | e | e
  · rw [e, part_other pre c 1 (by omega), part_other pre c 2 (by omega), part_other pre c 3 (by omega)]; rfl
  · rw [e, part_other pre c 0 (by omega), part_other pre c 2 (by omega), part_other pre c 3 (by omega)]; rfl
  · rw [e, part_other pre c 0 (by omega), part_other pre c 1 (by omega), part_other pre c 3 (by omega)]; rfl
  · rw [e, part_other pre c 0 (by omega), part_other pre c 1 (by omega), part_other pre c 2 (by omega)]; rfl
/-- Between two rounds. -/
structure IW (w : World) (p : Nat) (pre : List (Fin 52)) (W : World) : Prop where
  blk : Blk W p 77 (pC (pre.map (·.val)))
  below : Below w.heap.size w W
  base : w.heap.size ≤ p
theorem IW.turn {w W W' : World} {p : Nat} {pre : List (Fin 52)} {row : Option Nat} {B0 : Nat} (hB0 : w.heap.size ≤ B0) (h : IW w p pre W) (hg : W.grownBy W' row) (hrow : ∀ r, row = some r → B0 ≤ r ∧ ∃ o : Obj, W.heap[r]? = some o ∧ o.isCells = false) : IW w p pre W' := by
  refine ⟨?_, h.below.grown hg h.below.size (fun k e => by have := (hrow k e).1; omega), h.base⟩
  have hb := h.blk
  refine (hg.block p hb.lt (fun e => ?_)).trans hb
  obtain ⟨_, o, ho, hc⟩ := hrow p e.symm
  rw [show W.heap[p]? = _ from hb] at ho
  cases ho; cases hc
theorem cards_any (m : Nat) (w : World) : Calls Tryz.prog 68 #[.int .u64 (m : Int)] w (fun e w' => e = .returned (.func (.func 85) #[] #[.pointer (some ⟨w.heap.size, 0, none⟩)]) ∧ w' = w.alloc (.cells #[.int .u64 (m : Int)] 22)) := by
  go_enter Tryz.func68, Tryz.ntmps68
  go_wp2
  go_ret
  exact ⟨rfl, rfl⟩
theorem kpC_put {w0 : World} {M : Nat} (hM : w0.heap.size ≤ M) (W : World) (l : Nat) (_o o' : Obj) (hl : M ≤ l) (h0 : w0.heap.size ≤ W.heap.size) : KpC w0 W (W.putObj l o') := by
  exact (Below.refl _ W).grown (grownBy_putObj' W l o') h0 (fun k e => by cases e; omega)
theorem sign_cut (r : Nat) (hr : r < 13) : (⟨#[50, 51, 52, 53, 54, 55, 56, 57, 84, 74, 81, 75, 65]⟩ : ByteArray).extract r (r + 1) = ⟨#[sign r]⟩ := by
  have key : ∀ r, r < 13 → (⟨#[50, 51, 52, 53, 54, 55, 56, 57, 84, 74, 81, 75, 65]⟩ : ByteArray).extract r (r + 1) = ⟨#[sign r]⟩ := by decide
  exact key r hr
def writeP (pre : List Nat) : List UInt8 := partOf pre 3 ++ 46 :: (partOf pre 2 ++ 46 :: (partOf pre 1 ++ 46 :: partOf pre 0))
theorem write_cards (m : Nat) : writeP (cardsL m) = writeL m := by
  unfold writeP writeL
  rw [part_all m 3 (by omega), part_all m 2 (by omega), part_all m 1 (by omega), part_all m 0 (by omega)]
theorem join_parts (pre : List Nat) {W : World} {p : Nat} (hb : Blk W p 77 (pC pre)) (hl : pre.length ≤ 52) :
    Calls Tryz.prog 35 #[.slice (some ⟨p, 0, none⟩) 4 4, .string ⟨#[46]⟩] W fun e w' => e = .returned (strV' (writeP pre)) ∧ Below W.heap.size W w' := by
  have l0 := part_len pre 0
  have l1 := part_len pre 1
  have l2 := part_len pre 2
  have l3 := part_len pre 3
  have hj : Lib.join ([(⟨(partOf pre 3).toArray⟩ : ByteArray), ⟨(partOf pre 2).toArray⟩, ⟨(partOf pre 1).toArray⟩, ⟨(partOf pre 0).toArray⟩].map (·.data.toList)) (⟨#[46]⟩ : ByteArray).data.toList = writeP pre := by
    simp [Lib.join, writeP]
  have h := Tryz.strings_Join p 0 4 [⟨(partOf pre 3).toArray⟩, ⟨(partOf pre 2).toArray⟩, ⟨(partOf pre 1).toArray⟩, ⟨(partOf pre 0).toArray⟩] ⟨#[46]⟩ W (fun j x hx => by
    rw [Nat.zero_add]
    have hj4 : j < 4 := by simpa using (List.getElem?_eq_some_iff.1 hx).1
    refine hb.cell ?_
    rcases (by omega : j = 0 ∨ j = 1 ∨ j = 2 ∨ j = 3) with rfl | rfl | rfl | rfl <;> (simp at hx; subst hx; rfl)) hb.lt (by simp) (by simp) (by rw [hj]; unfold writeP; simp only [List.length_append, List.length_cons]; omega)
  rw [hj] at h
  exact h
set_option maxRecDepth 100000 in
set_option maxHeartbeats 4000000 in
theorem write_any (m : Nat) (hm : m < 4503599627370496) (w : World) :
    Calls Tryz.prog 50 #[.int .u64 (m : Int)] w (fun e w' => e = .returned (.tuple #[strV' (writeL m), .int .i64 0]) ∧ Below w.heap.size w w') := by
  have HM := Lib.hid hm
  have CA := Lib.hid (fun W => cards_any m W)
  have t1 : decide ((4503599627370495 : Int) < (m : Int)) = false := decide_eq_false (by omega)
  clear hm
  refine (callsIn_wide (n := 3)).1 ?_
  refine callsIn_of_wp_marks Tryz.func50 rfl trivial ?_ rfl
  simp only [Tryz.ntmps50, List.size_toArray, List.length_cons, List.length_nil, Nat.reduceAdd, Nat.reduceSub, Array.replicate_succ, Array.replicate_zero, List.push_toArray, List.append_toArray, List.nil_append, List.cons_append]
  gi_wp2_with (refine ⟨trivial, ?_⟩; gi_at_call 68; refine (callsIn_wide.2 (CA.out _)).mono ?_; rintro e w' ⟨rfl, rfl⟩)
  have hbl : Blk ((w.alloc (.cells #[.string ⟨#[]⟩, .string ⟨#[]⟩, .string ⟨#[]⟩, .string ⟨#[]⟩] 77)).alloc (.cells #[.int .u64 (m : Int)] 22)) w.heap.size 77 (pC []) := (Blk.new w 77 (pC [])).alloc _
  have hbx : ((w.alloc (.cells #[.string ⟨#[]⟩, .string ⟨#[]⟩, .string ⟨#[]⟩, .string ⟨#[]⟩] 77)).alloc (.cells #[.int .u64 (m : Int)] 22)).cell? ⟨w.heap.size + 1, 0, none⟩ = some (.int .u64 (m : Int)) := by
    have := (Blk.new (w.alloc (.cells #[.string ⟨#[]⟩, .string ⟨#[]⟩, .string ⟨#[]⟩, .string ⟨#[]⟩] 77)) 22 #[.int .u64 (m : Int)]).cell (j := 0) rfl
    rwa [show (w.alloc (.cells #[.string ⟨#[]⟩, .string ⟨#[]⟩, .string ⟨#[]⟩, .string ⟨#[]⟩] 77)).heap.size = w.heap.size + 1 by simp] at this
  have hbw : Below w.heap.size w ((w.alloc (.cells #[.string ⟨#[]⟩, .string ⟨#[]⟩, .string ⟨#[]⟩, .string ⟨#[]⟩] 77)).alloc (.cells #[.int .u64 (m : Int)] 22)) := ((Below.refl _ w).alloc (Nat.le_refl _) _).alloc (by simp) _
  have hsz : ((w.alloc (.cells #[.string ⟨#[]⟩, .string ⟨#[]⟩, .string ⟨#[]⟩, .string ⟨#[]⟩] 77)).alloc (.cells #[.int .u64 (m : Int)] 22)).heap.size = w.heap.size + 2 := by simp
  generalize (w.alloc (.cells #[.string ⟨#[]⟩, .string ⟨#[]⟩, .string ⟨#[]⟩, .string ⟨#[]⟩] 77)).alloc (.cells #[.int .u64 (m : Int)] 22) = W1 at *
  have h0 : IW w w.heap.size [] W1 := ⟨hbl, hbw, Nat.le_refl _⟩
  clear hbl t1
  try simp only [World.size_alloc]
  obtain ⟨p, hp⟩ : ∃ p, w.heap.size = p := ⟨_, rfl⟩
  rw [hp] at h0 hbx hsz ⊢
  refine wpIn_rangeFunc_ownC rfl (by omega) (gf := 85) (lb := #[.pointer (some ⟨p + 1, 0, none⟩)]) rfl trivial (enters_of Tryz.func85 (by kernel_rfl) rfl)
    (cards1_stops _ (by omega) w W1 (p + 1) m HM.out (by omega) hbx) (fun h k => h.trans (k.mono (Nat.le_refl _))) (fun W l o o' hl ho _ _ => kpC_put (M := W1.heap.size) (by omega) W l o o' hl (by have := (Array.getElem?_eq_some_iff.1 ho).1; omega)) (Below.refl _ _) (fun _ => rfl)
    (IW w p) (fun _ _ _ => False) (fun A B hB k o hk hA => by rw [hB]; exact hA)
    (fun s A B h hB => by rw [hB]; exact h)
    (fun c s A B h _ => h)
    (fun s W W' row h hg hr => h.turn (by omega) hg hr)
    (fun c s W W' row h _ _ => h)
    h0 ?a₁ ?assign ?body ?done ?stop
  case assign =>
    intro l x W K hK
    simp only [encC]
    gi_wp2
    exact hK
  case body =>
    rintro l pre ⟨c, hc⟩ W hi hlen
    dsimp only
    have SU := Lib.hid (fun W => suit_any c hc W)
    have RA := Lib.hid (fun W => rank_any c hc W)
    have hs4 : c / 13 < 4 := by omega
    have hr13 : c % 13 < 13 := Nat.mod_lt _ (by omega)
    have hset := pC_set (pre.map (·.val)) c hc
    have hpre : (pre ++ [(⟨c, hc⟩ : Fin 52)]).map (·.val) = pre.map (·.val) ++ [c] := by simp
    rw [← hpre] at hset
    generalize pre ++ [(⟨c, hc⟩ : Fin 52)] = pre' at *
    have hlen2 := part_len (pre.map (·.val)) (c / 13)
    have hl52 := cards_len m
    have hlm : (pre.map (·.val)).length = pre.length := by simp
    have x0 := hi.blk.cell (pC_get (pre.map (·.val)) (c / 13) hs4)
    have f0 := hi.blk.free (3 - c / 13)
    obtain ⟨T, hT⟩ : ∃ T, partOf (pre.map (·.val)) (c / 13) = T := ⟨_, rfl⟩
    rw [hT] at x0 hset hlen2
    have hTl : T.length ≤ 52 := by omega
    clear hlen2 hl52 hlen hlm
    obtain ⟨q, hq⟩ : ∃ q, 3 - c / 13 = q := ⟨_, rfl⟩
    rw [hq] at x0 f0 hset
    have hq4 : q < 4 := by omega
    have hcut := sign_cut (c % 13) hr13
    have e1 : IntKind.u8.wrap (3 - ((c / 13 : Nat) : Int)) = (q : Int) := by show (3 - ((c / 13 : Nat) : Int)) % 256 = _; omega
    have e1b : (3 - ((c / 13 : Nat) : Int)) % 256 = (q : Int) := by omega
    have e2 : IntKind.u8.wrap (((c % 13 : Nat) : Int) + 1) = ((c % 13 + 1 : Nat) : Int) := by show (((c % 13 : Nat) : Int) + 1) % 256 = _; omega
    have e2b : (((c % 13 : Nat) : Int) + 1) % 256 = ((c % 13 + 1 : Nat) : Int) := by omega
    have HS := Lib.hid hset
    have HI := Lib.hid hi
    have hmx : Tryz.prog.follows .mixedOrders = true := by kernel_rfl
    generalize c / 13 = s at *
    generalize c % 13 = r at *
    clear hset hi hpre hT hbx hbw hsz h0 hq
    unfold strV' at x0
    obtain ⟨E0, hE0⟩ : ∃ E0 : ByteArray, (⟨T.toArray⟩ : ByteArray) = E0 := ⟨_, rfl⟩
    have hEs : E0.size = T.length := by rw [← hE0]; rfl
    have hE1 : ¬ 9223372036854775807 < E0.size + 1 := by omega
    have HSV : Hid (strV' (T ++ [sign r]) = .string (E0 ++ ⟨#[sign r]⟩)) := Lib.hid (by unfold strV'; rw [← hE0]; simp [ByteArray.ext_iff])
    rw [hE0] at x0
    have HQ4 := Lib.hid hq4
    have hqI : (q : Int) < 4 := by omega
    have hr1 : (0 : Int) ≤ (r : Int) + 1 ∧ (r : Int) + 1 ≤ 13 := by omega
    have hr2 : (r : Int) ≤ (r : Int) + 1 := by omega
    clear hE0 hEs hTl
    generalize sign r = sg at *
    clear HM CA hc hp
    gi_wp2
    refine rest_round hmx (by kernel_rfl) ?_
    have HI2 := Lib.hid (HI.out.turn (Nat.le_refl _) (⟨rfl, rfl, rfl, Nat.le_refl _, fun _ _ _ => rfl⟩ : W.grownBy W.drew none) (fun r h => by cases h))
    have x1 : W.drew.cell? ⟨p, q, none⟩ = some (.string E0) := x0
    have f1 : W.drew.frozen? ⟨p, q, none⟩ = false := f0
    have HK2 : Hid (KeepsOthers W W.drew ∧ Below w.heap.size W W.drew) := Lib.hid ⟨KeepsOthers.drew _, (Below.refl _ W).drew⟩
    clear x0 f0 HI
    generalize W.drew = X at *
    refine rest_quiet (fun w' => ∃ n, w' = X.drewN n) 12 (by kernel_rfl) ⟨0, rfl⟩ ?_
    simp only [List.take_succ_cons, List.take_zero, List.drop_zero]
    repeat (quiet_step ((first
      | (go_at_call 69; exact Calls.quiet_of_same ((SU.out _).mono fun e w' h => ⟨h.1, h.2.symm⟩))
      | (go_at_call 70; exact Calls.quiet_of_same ((RA.out _).mono fun e w' h => ⟨h.1, h.2.symm⟩)))))
    refine wpQuiet_nil ?_
    rintro wq ⟨nq, rfl⟩
    have HI3 := Lib.hid (HI2.out.turn (Nat.le_refl _) (⟨rfl, rfl, rfl, Nat.le_refl _, fun _ _ _ => rfl⟩ : X.grownBy (X.drewN nq) none) (fun r h => by cases h))
    have x2 : (X.drewN nq).cell? ⟨p, q, none⟩ = some (.string E0) := x1
    have f2 : (X.drewN nq).frozen? ⟨p, q, none⟩ = false := f1
    have HK3 : Hid (KeepsOthers W (X.drewN nq) ∧ Below w.heap.size W (X.drewN nq)) := Lib.hid ⟨HK2.out.1.trans ⟨Nat.le_refl _, fun _ _ h _ => h⟩, below_drewN HK2.out.2 nq⟩
    clear x1 f1 HI2 HK2
    generalize X.drewN nq = Y at *
    refine rest_forced 2 (by kernel_rfl) ?_
    go_wp2_with fail
    refine rest_done rfl ?_
    refine ⟨by simp, ?_⟩
    gi_wp2
    rw [← HSV.out]
    refine ⟨(HK3.out.1.trans (KeepsOthers.setCell Y ⟨p, q, none⟩ _)).from _, HK3.out.2.setCell (p := ⟨p, q, none⟩) HI3.out.base _, ?_, HI3.out.below.setCell (p := ⟨p, q, none⟩) HI3.out.base _, HI3.out.base⟩
    have h := HI3.out.blk.set q (strV' (T ++ [sg]))
    rw [HS.out] at h
    exact h
  case done =>
    rintro D xs W hD hxs hi hK
    have c0 := hi.blk.lt
    have SJ := Lib.hid (join_parts (xs.map (·.val)) hi.blk (by simpa using (show (xs.map (·.val)).length ≤ 52 by rw [hxs]; exact cards_len m)))
    rw [hxs, show writeP (cardsL m) = writeL m from write_cards m] at SJ
    have HI := Lib.hid hi
    have HKD := Lib.hid hK
    clear h0 hbx hi hxs hbw hK
    gi_wp2_with (refine ⟨trivial, ?_⟩; gi_at_call 35; refine (callsIn_wide.2 SJ.out).mono ?_; rintro e w2 ⟨rfl, hb⟩)
    have hDw : w.heap.size ≤ D := by omega
    have HB2 := Lib.hid (HI.out.below.trans (hb.mono HI.out.below.size))
    have hK2 := (below_others hb).same D _ HKD.out rfl
    clear SJ HI HKD hb
    gi_wp2
    refine ⟨by simp, .inl ⟨_, _, rfl, run_takeDeferred hK2, ?_⟩⟩
    refine ⟨_, by simp [results, Tryz.results50, go_sem]; try rfl, rfl, ?_⟩
    exact (HB2.out).grown (grownBy_putObj' w2 D _) HB2.out.size (fun k e => by cases e; omega)
  case stop =>
    rintro D c pre W hD hpre hf hK
    exact hf.elim
end Go.Proofs.YtaadipccgckehaaGreatDoor
