/- The contract of Read. -/
import Derived.Test.YtgmofikhndlhcaaDoorText
import Derived.Deep.QuietTactic
import Derived.BigQuiet
namespace Go.Proofs.YtgmofikhndlhcaaDoor
open Go.RowKit

def dIdx (b : UInt8) : Int := Lib.indexByte [67, 68, 72, 83, 78] b
def sIdx (b : UInt8) : Int := Lib.indexByte [78, 69, 83, 87] b
theorem dIdx_fin : ∀ n : Fin 256, -1 ≤ dIdx (UInt8.ofNat n.val) ∧ dIdx (UInt8.ofNat n.val) ≤ 4 := by decide +kernel
theorem sIdx_fin : ∀ n : Fin 256, -1 ≤ sIdx (UInt8.ofNat n.val) ∧ sIdx (UInt8.ofNat n.val) ≤ 3 := by decide +kernel
theorem dIdx_le (b : UInt8) : -1 ≤ dIdx b ∧ dIdx b ≤ 4 := by
  have := dIdx_fin ⟨b.toNat, b.toNat_lt⟩
  simpa using this
theorem sIdx_le (b : UInt8) : -1 ≤ sIdx b ∧ sIdx b ≤ 3 := by
  have := sIdx_fin ⟨b.toNat, b.toNat_lt⟩
  simpa using this
theorem ixd (b : UInt8) (w : World) : Calls Tryd.prog 41 #[.string ⟨#[67, 68, 72, 83, 78]⟩, .int .u8 (b.toNat : Nat)] w fun e w' => e = .returned (.int .i64 (dIdx b)) ∧ w' = w :=
  (Tryd.strings_IndexByte ⟨#[67, 68, 72, 83, 78]⟩ (b.toNat : Nat) w).mono fun _ _ ⟨he, hw⟩ => ⟨by rw [he]; simp [dIdx], hw⟩
theorem ixs (b : UInt8) (w : World) : Calls Tryd.prog 41 #[.string ⟨#[78, 69, 83, 87]⟩, .int .u8 (b.toNat : Nat)] w fun e w' => e = .returned (.int .i64 (sIdx b)) ∧ w' = w :=
  (Tryd.strings_IndexByte ⟨#[78, 69, 83, 87]⟩ (b.toNat : Nat) w).mono fun _ _ ⟨he, hw⟩ => ⟨by rw [he]; simp [sIdx], hw⟩
attribute [irreducible] dIdx sIdx
abbrev Con := Nat × Nat × Nat × Nat
def badR : Con × Int := ((0, 0, 0, 0), 170)
def cand (b0 b1 bl : UInt8) (r : Nat) (L : List UInt8) : Con × Int :=
  if b0.toNat < 49 ∨ 55 < b0.toNat ∨ dIdx b1 < 0 ∨ sIdx bl < 0 then badR
  else if textP (b0.toNat - 48) (dIdx b1).toNat r (sIdx bl).toNat == L then ((b0.toNat - 48, (dIdx b1).toNat, r, (sIdx bl).toNat), 0) else badR
/-- What Read returns. -/
def readP (L : List UInt8) : Con × Int :=
  if L == [112, 97, 115, 115] then ((0, 0, 0, 0), 0) else
  match L with
  | [b0, b1, _, b3] => cand b0 b1 b3 0 L
  | [b0, b1, _, _, b4] => cand b0 b1 b4 1 L
  | [b0, b1, _, _, _, b5] => cand b0 b1 b5 2 L
  | _ => badR
def ReadPost (L : List UInt8) (w : World) (e : Ending) (w' : World) : Prop :=
  e = .returned (.tuple #[.agg #[.int .u8 ((readP L).1.1 : Nat), .int .u8 ((readP L).1.2.1 : Nat), .int .u8 ((readP L).1.2.2.1 : Nat), .int .u8 ((readP L).1.2.2.2 : Nat)], .int .i64 (readP L).2]) ∧ Below w.heap.size w w'
theorem readPost_mk (L : List UInt8) (w w' : World) (q : Con × Int) (hq : readP L = q) (e : Ending) (he : e = .returned (.tuple #[.agg #[.int .u8 (q.1.1 : Nat), .int .u8 (q.1.2.1 : Nat), .int .u8 (q.1.2.2.1 : Nat), .int .u8 (q.1.2.2.2 : Nat)], .int .i64 q.2])) (hb : Below w.heap.size w w') : ReadPost L w e w' := by
  subst hq; exact ⟨he, hb⟩

set_option maxRecDepth 100000 in
set_option maxHeartbeats 4000000 in
theorem read_4 (b0 b1 b2 b3 : UInt8) (w : World) (hpass : ¬ (b0 = 112 ∧ b1 = 97 ∧ b2 = 115 ∧ b3 = 115)) :
    Calls Tryd.prog 23 #[.string ⟨#[b0, b1, b2, b3]⟩] w (ReadPost [b0, b1, b2, b3] w) := by
  have hR : Hid (readP [b0, b1, b2, b3] = cand b0 b1 b3 0 [b0, b1, b2, b3]) := Lib.hid (by
    unfold readP
    rw [if_neg (by simpa using hpass)])
  have hp : (b0 == 112 && (b1 == 97 && (b2 == 115 && b3 == 115))) = false := by
    rw [Bool.eq_false_iff]
    intro h
    simp only [Bool.and_eq_true, beq_iff_eq] at h
    exact hpass h
  clear hpass
  have i0 : ∀ w, (Instr.index 9 (.string ⟨#[b0, b1, b2, b3]⟩) (.int .i64 0)).run Tryd.prog w = .ok (.int .u8 (b0.toNat : Nat)) w := fun w => by kernel_rfl
  have i1 : ∀ w, (Instr.index 9 (.string ⟨#[b0, b1, b2, b3]⟩) (.int .i64 1)).run Tryd.prog w = .ok (.int .u8 (b1.toNat : Nat)) w := fun w => by kernel_rfl
  have i2 : ∀ w, (Instr.index 9 (.string ⟨#[b0, b1, b2, b3]⟩) (.int .i64 3)).run Tryd.prog w = .ok (.int .u8 (b3.toNat : Nat)) w := fun w => by kernel_rfl
  have e3 : IntKind.i64.wrap 3 = 3 := by decide
  have hd := dIdx_le b1
  have hs := sIdx_le b3
  have h8 : b0.toNat < 256 := b0.toNat_lt
  rcases Classical.em (b0.toNat < 49 ∨ 55 < b0.toNat ∨ dIdx b1 < 0 ∨ sIdx b3 < 0) with hx | hx
  · have hC : Hid (readP [b0, b1, b2, b3] = badR) := Lib.hid (by rw [hR.out, cand, if_pos hx])
    go_enter Tryd.func23, Tryd.ntmps23
    go_wp2_with fail
    go_quiet ((first | (go_at_call 41; exact Calls.quiet_of_same (ixd b1 _)) | (go_at_call 41; exact Calls.quiet_of_same (ixs b3 _))))
    go_wp2_with fail
    all_goals first
      | (exfalso; omega)
      | (refine bodyPost_ret (v := .tuple #[.agg #[.int .u8 0, .int .u8 0, .int .u8 0, .int .u8 0], .int .i64 170]) (by simp [results, Tryd.results23, go_sem]) rfl (readPost_mk _ _ _ badR hC.out _ rfl ?_)
         exact below_drewN ((Below.refl _ _).alloc (Nat.le_refl _) _) _)
  · obtain ⟨d, hdd⟩ : ∃ d : Nat, dIdx b1 = (d : Int) := ⟨(dIdx b1).toNat, by omega⟩
    obtain ⟨c, hcc⟩ : ∃ c : Nat, sIdx b3 = (c : Int) := ⟨(sIdx b3).toNat, by omega⟩
    obtain ⟨l, hll⟩ : ∃ l : Nat, b0.toNat = 48 + l := ⟨b0.toNat - 48, by omega⟩
    have hC : readP [b0, b1, b2, b3] = if textP l d 0 c == [b0, b1, b2, b3] then ((l, d, 0, c), 0) else badR := by
      rw [hR.out, cand, if_neg hx, hdd, hcc, hll]
      simp only [Int.toNat_natCast, Nat.add_sub_cancel_left]
    have l1 : 1 ≤ l := by omega
    have l7 : l ≤ 7 := by omega
    have d4 : d ≤ 4 := by omega
    have c3 : c ≤ 3 := by omega
    have HD : Hid (∀ w, Calls Tryd.prog 41 #[.string ⟨#[67, 68, 72, 83, 78]⟩, .int .u8 (b1.toNat : Nat)] w fun e w' => e = .returned (.int .i64 (d : Nat)) ∧ w' = w) := Lib.hid fun w => hdd ▸ ixd b1 w
    have HS : Hid (∀ w, Calls Tryd.prog 41 #[.string ⟨#[78, 69, 83, 87]⟩, .int .u8 (b3.toNat : Nat)] w fun e w' => e = .returned (.int .i64 (c : Nat)) ∧ w' = w) := Lib.hid fun w => hcc ▸ ixs b3 w
    have b49 : (49 : Int) ≤ (b0.toNat : Nat) := by omega
    have b55 : ((b0.toNat : Nat) : Int) ≤ 55 := by omega
    have u1 : IntKind.u8.wrap (((b0.toNat : Nat) : Int) - 48) = (l : Int) := by rw [IntWalk.u8_in _ (by omega)]; omega
    have u2 : IntKind.u8.wrap (d : Int) = (d : Int) := IntWalk.u8_in _ (by omega)
    have u3 : IntKind.u8.wrap (c : Int) = (c : Int) := IntWalk.u8_in _ (by omega)
    have TP := Lib.hid (text_pos l d 0 c · l1 l7 d4 (by omega) c3)
    clear hd hs hx hdd hcc hll
    go_enter Tryd.func23, Tryd.ntmps23
    go_wp2_with fail
    go_quiet ((first | (go_at_call 41; exact Calls.quiet_of_same (HD.out _)) | (go_at_call 41; exact Calls.quiet_of_same (HS.out _))))
    go_wp2_with fail
    refine (TP.out _).mono ?_
    rintro e w2 ⟨rfl, hb⟩
    have q0 := hb.cell (p := ⟨w.heap.size, 0, none⟩) (by simp; omega)
    have q1 := hb.cell (p := ⟨w.heap.size, 1, none⟩) (by simp; omega)
    have q2 := hb.cell (p := ⟨w.heap.size, 2, none⟩) (by simp; omega)
    have q3 := hb.cell (p := ⟨w.heap.size, 3, none⟩) (by simp; omega)
    have p0 := hb.cell (p := ⟨w.heap.size + 1, 0, none⟩) (by simp)
    have p1 := hb.cell (p := ⟨w.heap.size + 1, 1, none⟩) (by simp)
    have p2 := hb.cell (p := ⟨w.heap.size + 1, 2, none⟩) (by simp)
    have p3 := hb.cell (p := ⟨w.heap.size + 1, 3, none⟩) (by simp)
    have z0 := hb.frozen (p := ⟨w.heap.size, 0, none⟩) (by simp; omega)
    have z1 := hb.frozen (p := ⟨w.heap.size, 1, none⟩) (by simp; omega)
    have z2 := hb.frozen (p := ⟨w.heap.size, 2, none⟩) (by simp; omega)
    have z3 := hb.frozen (p := ⟨w.heap.size, 3, none⟩) (by simp; omega)
    simp at q0 q1 q2 q3 p0 p1 p2 p3 z0 z1 z2 z3
    have hB : Below w.heap.size w w2 := (below_drewN (((Below.refl _ _).alloc (Nat.le_refl _) _).alloc (by simp) _) nq).trans (hb.mono (by simp; omega))
    have HC := Lib.hid hC
    clear hC hb
    obtain ⟨T, hT⟩ : ∃ T, T = textP l d 0 c := ⟨_, rfl⟩
    rw [← hT]
    have HT := Lib.hid hT
    clear hT
    go_wp2_with fail
    · have ht : (T == [b0, b1, b2, b3]) = false := by simpa using (by assumption : (!T == [b0, b1, b2, b3]) = true)
      have hC : readP [b0, b1, b2, b3] = badR := by rw [HC.out, ← HT.out, ht]; rfl
      refine bodyPost_ret (v := .tuple #[.agg #[.int .u8 0, .int .u8 0, .int .u8 0, .int .u8 0], .int .i64 170]) (by simp [results, Tryd.results23, go_sem, q0, q1, q2, q3]) rfl (readPost_mk _ _ _ badR hC _ rfl ?_)
      exact (((hB.setCell (by simp) _).setCell (by simp) _).setCell (by simp) _).setCell (by simp) _
    · have ht : (T == [b0, b1, b2, b3]) = true := by simpa using (by assumption : (!T == [b0, b1, b2, b3]) = false)
      have hC : readP [b0, b1, b2, b3] = ((l, d, 0, c), 0) := by rw [HC.out, ← HT.out, ht]; rfl
      refine bodyPost_ret (v := .tuple #[.agg #[.int .u8 (l : Nat), .int .u8 (d : Nat), .int .u8 0, .int .u8 (c : Nat)], .int .i64 0]) (by simp [results, Tryd.results23, go_sem, q0, q1, q2, q3]) rfl (readPost_mk _ _ _ _ hC _ rfl ?_)
      exact (((hB.setCell (by simp) _).setCell (by simp) _).setCell (by simp) _).setCell (by simp) _

set_option maxRecDepth 100000 in
set_option maxHeartbeats 4000000 in
theorem read_5 (b0 b1 b2 b3 b4 : UInt8) (w : World) :
    Calls Tryd.prog 23 #[.string ⟨#[b0, b1, b2, b3, b4]⟩] w (ReadPost [b0, b1, b2, b3, b4] w) := by
  have hR : Hid (readP [b0, b1, b2, b3, b4] = cand b0 b1 b4 1 [b0, b1, b2, b3, b4]) := Lib.hid (by
    unfold readP
    rw [if_neg (by simp)])
  have i0 : ∀ w, (Instr.index 9 (.string ⟨#[b0, b1, b2, b3, b4]⟩) (.int .i64 0)).run Tryd.prog w = .ok (.int .u8 (b0.toNat : Nat)) w := fun w => by kernel_rfl
  have i1 : ∀ w, (Instr.index 9 (.string ⟨#[b0, b1, b2, b3, b4]⟩) (.int .i64 1)).run Tryd.prog w = .ok (.int .u8 (b1.toNat : Nat)) w := fun w => by kernel_rfl
  have i2 : ∀ w, (Instr.index 9 (.string ⟨#[b0, b1, b2, b3, b4]⟩) (.int .i64 4)).run Tryd.prog w = .ok (.int .u8 (b4.toNat : Nat)) w := fun w => by kernel_rfl
  have e3 : IntKind.i64.wrap 4 = 4 := by decide
  have hd := dIdx_le b1
  have hs := sIdx_le b4
  have h8 : b0.toNat < 256 := b0.toNat_lt
  rcases Classical.em (b0.toNat < 49 ∨ 55 < b0.toNat ∨ dIdx b1 < 0 ∨ sIdx b4 < 0) with hx | hx
  · have hC : Hid (readP [b0, b1, b2, b3, b4] = badR) := Lib.hid (by rw [hR.out, cand, if_pos hx])
    go_enter Tryd.func23, Tryd.ntmps23
    go_wp2_with fail
    go_quiet ((first | (go_at_call 41; exact Calls.quiet_of_same (ixd b1 _)) | (go_at_call 41; exact Calls.quiet_of_same (ixs b4 _))))
    go_wp2_with fail
    all_goals first
      | (exfalso; omega)
      | (refine bodyPost_ret (v := .tuple #[.agg #[.int .u8 0, .int .u8 0, .int .u8 0, .int .u8 0], .int .i64 170]) (by simp [results, Tryd.results23, go_sem]) rfl (readPost_mk _ _ _ badR hC.out _ rfl ?_)
         exact below_drewN ((Below.refl _ _).alloc (Nat.le_refl _) _) _)
  · obtain ⟨d, hdd⟩ : ∃ d : Nat, dIdx b1 = (d : Int) := ⟨(dIdx b1).toNat, by omega⟩
    obtain ⟨c, hcc⟩ : ∃ c : Nat, sIdx b4 = (c : Int) := ⟨(sIdx b4).toNat, by omega⟩
    obtain ⟨l, hll⟩ : ∃ l : Nat, b0.toNat = 48 + l := ⟨b0.toNat - 48, by omega⟩
    have hC : readP [b0, b1, b2, b3, b4] = if textP l d 1 c == [b0, b1, b2, b3, b4] then ((l, d, 1, c), 0) else badR := by
      rw [hR.out, cand, if_neg hx, hdd, hcc, hll]
      simp only [Int.toNat_natCast, Nat.add_sub_cancel_left]
    have l1 : 1 ≤ l := by omega
    have l7 : l ≤ 7 := by omega
    have d4 : d ≤ 4 := by omega
    have c3 : c ≤ 3 := by omega
    have HD : Hid (∀ w, Calls Tryd.prog 41 #[.string ⟨#[67, 68, 72, 83, 78]⟩, .int .u8 (b1.toNat : Nat)] w fun e w' => e = .returned (.int .i64 (d : Nat)) ∧ w' = w) := Lib.hid fun w => hdd ▸ ixd b1 w
    have HS : Hid (∀ w, Calls Tryd.prog 41 #[.string ⟨#[78, 69, 83, 87]⟩, .int .u8 (b4.toNat : Nat)] w fun e w' => e = .returned (.int .i64 (c : Nat)) ∧ w' = w) := Lib.hid fun w => hcc ▸ ixs b4 w
    have b49 : (49 : Int) ≤ (b0.toNat : Nat) := by omega
    have b55 : ((b0.toNat : Nat) : Int) ≤ 55 := by omega
    have u1 : IntKind.u8.wrap (((b0.toNat : Nat) : Int) - 48) = (l : Int) := by rw [IntWalk.u8_in _ (by omega)]; omega
    have u2 : IntKind.u8.wrap (d : Int) = (d : Int) := IntWalk.u8_in _ (by omega)
    have u3 : IntKind.u8.wrap (c : Int) = (c : Int) := IntWalk.u8_in _ (by omega)
    have TP := Lib.hid (text_pos l d 1 c · l1 l7 d4 (by omega) c3)
    clear hd hs hx hdd hcc hll
    go_enter Tryd.func23, Tryd.ntmps23
    go_wp2_with fail
    go_quiet ((first | (go_at_call 41; exact Calls.quiet_of_same (HD.out _)) | (go_at_call 41; exact Calls.quiet_of_same (HS.out _))))
    go_wp2_with fail
    refine (TP.out _).mono ?_
    rintro e w2 ⟨rfl, hb⟩
    have q0 := hb.cell (p := ⟨w.heap.size, 0, none⟩) (by simp; omega)
    have q1 := hb.cell (p := ⟨w.heap.size, 1, none⟩) (by simp; omega)
    have q2 := hb.cell (p := ⟨w.heap.size, 2, none⟩) (by simp; omega)
    have q3 := hb.cell (p := ⟨w.heap.size, 3, none⟩) (by simp; omega)
    have p0 := hb.cell (p := ⟨w.heap.size + 1, 0, none⟩) (by simp)
    have p1 := hb.cell (p := ⟨w.heap.size + 1, 1, none⟩) (by simp)
    have p2 := hb.cell (p := ⟨w.heap.size + 1, 2, none⟩) (by simp)
    have p3 := hb.cell (p := ⟨w.heap.size + 1, 3, none⟩) (by simp)
    have z0 := hb.frozen (p := ⟨w.heap.size, 0, none⟩) (by simp; omega)
    have z1 := hb.frozen (p := ⟨w.heap.size, 1, none⟩) (by simp; omega)
    have z2 := hb.frozen (p := ⟨w.heap.size, 2, none⟩) (by simp; omega)
    have z3 := hb.frozen (p := ⟨w.heap.size, 3, none⟩) (by simp; omega)
    simp at q0 q1 q2 q3 p0 p1 p2 p3 z0 z1 z2 z3
    have hB : Below w.heap.size w w2 := (below_drewN (((Below.refl _ _).alloc (Nat.le_refl _) _).alloc (by simp) _) nq).trans (hb.mono (by simp; omega))
    have HC := Lib.hid hC
    clear hC hb
    obtain ⟨T, hT⟩ : ∃ T, T = textP l d 1 c := ⟨_, rfl⟩
    rw [← hT]
    have HT := Lib.hid hT
    clear hT
    go_wp2_with fail
    · have ht : (T == [b0, b1, b2, b3, b4]) = false := by simpa using (by assumption : (!T == [b0, b1, b2, b3, b4]) = true)
      have hC : readP [b0, b1, b2, b3, b4] = badR := by rw [HC.out, ← HT.out, ht]; rfl
      refine bodyPost_ret (v := .tuple #[.agg #[.int .u8 0, .int .u8 0, .int .u8 0, .int .u8 0], .int .i64 170]) (by simp [results, Tryd.results23, go_sem, q0, q1, q2, q3]) rfl (readPost_mk _ _ _ badR hC _ rfl ?_)
      exact (((hB.setCell (by simp) _).setCell (by simp) _).setCell (by simp) _).setCell (by simp) _
    · have ht : (T == [b0, b1, b2, b3, b4]) = true := by simpa using (by assumption : (!T == [b0, b1, b2, b3, b4]) = false)
      have hC : readP [b0, b1, b2, b3, b4] = ((l, d, 1, c), 0) := by rw [HC.out, ← HT.out, ht]; rfl
      refine bodyPost_ret (v := .tuple #[.agg #[.int .u8 (l : Nat), .int .u8 (d : Nat), .int .u8 1, .int .u8 (c : Nat)], .int .i64 0]) (by simp [results, Tryd.results23, go_sem, q0, q1, q2, q3]) rfl (readPost_mk _ _ _ _ hC _ rfl ?_)
      exact (((hB.setCell (by simp) _).setCell (by simp) _).setCell (by simp) _).setCell (by simp) _

set_option maxRecDepth 100000 in
set_option maxHeartbeats 4000000 in
theorem read_6 (b0 b1 b2 b3 b4 b5 : UInt8) (w : World) :
    Calls Tryd.prog 23 #[.string ⟨#[b0, b1, b2, b3, b4, b5]⟩] w (ReadPost [b0, b1, b2, b3, b4, b5] w) := by
  have hR : Hid (readP [b0, b1, b2, b3, b4, b5] = cand b0 b1 b5 2 [b0, b1, b2, b3, b4, b5]) := Lib.hid (by
    unfold readP
    rw [if_neg (by simp)])
  have i0 : ∀ w, (Instr.index 9 (.string ⟨#[b0, b1, b2, b3, b4, b5]⟩) (.int .i64 0)).run Tryd.prog w = .ok (.int .u8 (b0.toNat : Nat)) w := fun w => by kernel_rfl
  have i1 : ∀ w, (Instr.index 9 (.string ⟨#[b0, b1, b2, b3, b4, b5]⟩) (.int .i64 1)).run Tryd.prog w = .ok (.int .u8 (b1.toNat : Nat)) w := fun w => by kernel_rfl
  have i2 : ∀ w, (Instr.index 9 (.string ⟨#[b0, b1, b2, b3, b4, b5]⟩) (.int .i64 5)).run Tryd.prog w = .ok (.int .u8 (b5.toNat : Nat)) w := fun w => by kernel_rfl
  have e3 : IntKind.i64.wrap 5 = 5 := by decide
  have hd := dIdx_le b1
  have hs := sIdx_le b5
  have h8 : b0.toNat < 256 := b0.toNat_lt
  rcases Classical.em (b0.toNat < 49 ∨ 55 < b0.toNat ∨ dIdx b1 < 0 ∨ sIdx b5 < 0) with hx | hx
  · have hC : Hid (readP [b0, b1, b2, b3, b4, b5] = badR) := Lib.hid (by rw [hR.out, cand, if_pos hx])
    go_enter Tryd.func23, Tryd.ntmps23
    go_wp2_with fail
    go_quiet ((first | (go_at_call 41; exact Calls.quiet_of_same (ixd b1 _)) | (go_at_call 41; exact Calls.quiet_of_same (ixs b5 _))))
    go_wp2_with fail
    all_goals first
      | (exfalso; omega)
      | (refine bodyPost_ret (v := .tuple #[.agg #[.int .u8 0, .int .u8 0, .int .u8 0, .int .u8 0], .int .i64 170]) (by simp [results, Tryd.results23, go_sem]) rfl (readPost_mk _ _ _ badR hC.out _ rfl ?_)
         exact below_drewN ((Below.refl _ _).alloc (Nat.le_refl _) _) _)
  · obtain ⟨d, hdd⟩ : ∃ d : Nat, dIdx b1 = (d : Int) := ⟨(dIdx b1).toNat, by omega⟩
    obtain ⟨c, hcc⟩ : ∃ c : Nat, sIdx b5 = (c : Int) := ⟨(sIdx b5).toNat, by omega⟩
    obtain ⟨l, hll⟩ : ∃ l : Nat, b0.toNat = 48 + l := ⟨b0.toNat - 48, by omega⟩
    have hC : readP [b0, b1, b2, b3, b4, b5] = if textP l d 2 c == [b0, b1, b2, b3, b4, b5] then ((l, d, 2, c), 0) else badR := by
      rw [hR.out, cand, if_neg hx, hdd, hcc, hll]
      simp only [Int.toNat_natCast, Nat.add_sub_cancel_left]
    have l1 : 1 ≤ l := by omega
    have l7 : l ≤ 7 := by omega
    have d4 : d ≤ 4 := by omega
    have c3 : c ≤ 3 := by omega
    have HD : Hid (∀ w, Calls Tryd.prog 41 #[.string ⟨#[67, 68, 72, 83, 78]⟩, .int .u8 (b1.toNat : Nat)] w fun e w' => e = .returned (.int .i64 (d : Nat)) ∧ w' = w) := Lib.hid fun w => hdd ▸ ixd b1 w
    have HS : Hid (∀ w, Calls Tryd.prog 41 #[.string ⟨#[78, 69, 83, 87]⟩, .int .u8 (b5.toNat : Nat)] w fun e w' => e = .returned (.int .i64 (c : Nat)) ∧ w' = w) := Lib.hid fun w => hcc ▸ ixs b5 w
    have b49 : (49 : Int) ≤ (b0.toNat : Nat) := by omega
    have b55 : ((b0.toNat : Nat) : Int) ≤ 55 := by omega
    have u1 : IntKind.u8.wrap (((b0.toNat : Nat) : Int) - 48) = (l : Int) := by rw [IntWalk.u8_in _ (by omega)]; omega
    have u2 : IntKind.u8.wrap (d : Int) = (d : Int) := IntWalk.u8_in _ (by omega)
    have u3 : IntKind.u8.wrap (c : Int) = (c : Int) := IntWalk.u8_in _ (by omega)
    have TP := Lib.hid (text_pos l d 2 c · l1 l7 d4 (by omega) c3)
    clear hd hs hx hdd hcc hll
    go_enter Tryd.func23, Tryd.ntmps23
    go_wp2_with fail
    go_quiet ((first | (go_at_call 41; exact Calls.quiet_of_same (HD.out _)) | (go_at_call 41; exact Calls.quiet_of_same (HS.out _))))
    go_wp2_with fail
    refine (TP.out _).mono ?_
    rintro e w2 ⟨rfl, hb⟩
    have q0 := hb.cell (p := ⟨w.heap.size, 0, none⟩) (by simp; omega)
    have q1 := hb.cell (p := ⟨w.heap.size, 1, none⟩) (by simp; omega)
    have q2 := hb.cell (p := ⟨w.heap.size, 2, none⟩) (by simp; omega)
    have q3 := hb.cell (p := ⟨w.heap.size, 3, none⟩) (by simp; omega)
    have p0 := hb.cell (p := ⟨w.heap.size + 1, 0, none⟩) (by simp)
    have p1 := hb.cell (p := ⟨w.heap.size + 1, 1, none⟩) (by simp)
    have p2 := hb.cell (p := ⟨w.heap.size + 1, 2, none⟩) (by simp)
    have p3 := hb.cell (p := ⟨w.heap.size + 1, 3, none⟩) (by simp)
    have z0 := hb.frozen (p := ⟨w.heap.size, 0, none⟩) (by simp; omega)
    have z1 := hb.frozen (p := ⟨w.heap.size, 1, none⟩) (by simp; omega)
    have z2 := hb.frozen (p := ⟨w.heap.size, 2, none⟩) (by simp; omega)
    have z3 := hb.frozen (p := ⟨w.heap.size, 3, none⟩) (by simp; omega)
    simp at q0 q1 q2 q3 p0 p1 p2 p3 z0 z1 z2 z3
    have hB : Below w.heap.size w w2 := (below_drewN (((Below.refl _ _).alloc (Nat.le_refl _) _).alloc (by simp) _) nq).trans (hb.mono (by simp; omega))
    have HC := Lib.hid hC
    clear hC hb
    obtain ⟨T, hT⟩ : ∃ T, T = textP l d 2 c := ⟨_, rfl⟩
    rw [← hT]
    have HT := Lib.hid hT
    clear hT
    go_wp2_with fail
    · have ht : (T == [b0, b1, b2, b3, b4, b5]) = false := by simpa using (by assumption : (!T == [b0, b1, b2, b3, b4, b5]) = true)
      have hC : readP [b0, b1, b2, b3, b4, b5] = badR := by rw [HC.out, ← HT.out, ht]; rfl
      refine bodyPost_ret (v := .tuple #[.agg #[.int .u8 0, .int .u8 0, .int .u8 0, .int .u8 0], .int .i64 170]) (by simp [results, Tryd.results23, go_sem, q0, q1, q2, q3]) rfl (readPost_mk _ _ _ badR hC _ rfl ?_)
      exact (((hB.setCell (by simp) _).setCell (by simp) _).setCell (by simp) _).setCell (by simp) _
    · have ht : (T == [b0, b1, b2, b3, b4, b5]) = true := by simpa using (by assumption : (!T == [b0, b1, b2, b3, b4, b5]) = false)
      have hC : readP [b0, b1, b2, b3, b4, b5] = ((l, d, 2, c), 0) := by rw [HC.out, ← HT.out, ht]; rfl
      refine bodyPost_ret (v := .tuple #[.agg #[.int .u8 (l : Nat), .int .u8 (d : Nat), .int .u8 2, .int .u8 (c : Nat)], .int .i64 0]) (by simp [results, Tryd.results23, go_sem, q0, q1, q2, q3]) rfl (readPost_mk _ _ _ _ hC _ rfl ?_)
      exact (((hB.setCell (by simp) _).setCell (by simp) _).setCell (by simp) _).setCell (by simp) _

set_option maxHeartbeats 2000000 in
theorem read_pass (w : World) : Calls Tryd.prog 23 #[.string ⟨#[112, 97, 115, 115]⟩] w (ReadPost [112, 97, 115, 115] w) := by
  go_enter Tryd.func23, Tryd.ntmps23
  go_wp2_with fail
  refine bodyPost_ret (v := .tuple #[.agg #[.int .u8 0, .int .u8 0, .int .u8 0, .int .u8 0], .int .i64 0]) (by simp [results, Tryd.results23, go_sem]) rfl (readPost_mk _ _ _ ((0, 0, 0, 0), 0) rfl _ rfl ?_)
  exact (Below.refl _ _).alloc (Nat.le_refl _) _
set_option maxHeartbeats 2000000 in
theorem read_len (s : ByteArray) (w : World) (hs : s.size ≤ maxLen) (h : s.size < 4 ∨ 6 < s.size) : Calls Tryd.prog 23 #[.string s] w (ReadPost s.data.toList w) := by
  unfold maxLen at hs
  have hl : s.data.toList.length = s.size := rfl
  have hpf : (s.toList == [112, 97, 115, 115]) = false := by
    rw [beq_eq_false_iff_ne]
    intro h
    rw [ByteArray.toList_eq] at h
    rw [h] at hl
    simp at hl
    omega
  have hC : Hid (readP s.data.toList = badR) := Lib.hid (by
    rw [ByteArray.toList_eq] at hpf
    unfold readP
    rw [if_neg (by rw [hpf]; decide)]
    generalize s.data.toList = L at *
    rcases L with _ | ⟨a0, _ | ⟨a1, _ | ⟨a2, _ | ⟨a3, _ | ⟨a4, _ | ⟨a5, _ | ⟨a6, L⟩⟩⟩⟩⟩⟩⟩
    all_goals first
      | rfl
      | (exfalso; simp at hl; omega))
  clear hl
  go_enter Tryd.func23, Tryd.ntmps23
  go_wp2_with fail
  all_goals
    refine bodyPost_ret (v := .tuple #[.agg #[.int .u8 0, .int .u8 0, .int .u8 0, .int .u8 0], .int .i64 170]) (by simp [results, Tryd.results23, go_sem]) rfl (readPost_mk _ _ _ badR hC.out _ rfl ?_)
    exact (Below.refl _ _).alloc (Nat.le_refl _) _
theorem read_any (s : ByteArray) (w : World) (hs : s.size ≤ maxLen) : Calls Tryd.prog 23 #[.string s] w (ReadPost s.data.toList w) := by
  by_cases h : s.size < 4 ∨ 6 < s.size
  · exact read_len s w hs h
  · obtain ⟨⟨L⟩⟩ := s
    have hl : L.length = (⟨⟨L⟩⟩ : ByteArray).size := rfl
    rcases L with _ | ⟨a0, _ | ⟨a1, _ | ⟨a2, _ | ⟨a3, _ | ⟨a4, _ | ⟨a5, _ | ⟨a6, L⟩⟩⟩⟩⟩⟩⟩
    · exact absurd (show (⟨⟨[]⟩⟩ : ByteArray).size < 4 by decide) (fun h' => h (.inl h'))
    · exact absurd (show 1 < 4 by decide) (fun h' => h (.inl h'))
    · exact absurd (show 2 < 4 by decide) (fun h' => h (.inl h'))
    · exact absurd (show 3 < 4 by decide) (fun h' => h (.inl h'))
    · by_cases hp : a0 = 112 ∧ a1 = 97 ∧ a2 = 115 ∧ a3 = 115
      · obtain ⟨rfl, rfl, rfl, rfl⟩ := hp
        exact read_pass w
      · exact read_4 a0 a1 a2 a3 w hp
    · exact read_5 a0 a1 a2 a3 a4 w
    · exact read_6 a0 a1 a2 a3 a4 a5 w
    · exact absurd (show 6 < L.length + 7 by omega) (fun h' => h (.inr h'))
attribute [irreducible] readP
end Go.Proofs.YtgmofikhndlhcaaDoor
