/- Lines: guide.line, guide.join; the reference's text, join. -/
import Derived.Test.YtidpfggikighlaaDoorGM
import Derived.Test.YtidpfggikighlaaDoorShelf
import Derived.Lib.LaidTab
import Derived.Lib.ItoaNum
import Derived.Lib.ItoaLen
import Derived.WalkSmall
import Derived.IntWalk
import Derived.Deep.CutBlock
import Derived.Deep.DeepCutAuto
namespace Go.Proofs.YtidpfggikighlaaDoor
open Go Go.RowKit

/-- What stands in the world from the beginning on. -/
def Env (w : World) : Prop := Lib.TabIs Tryd.prog w "internal/strconv.uint64pow10" .u64 Lib.pow10Tab
theorem gPow : Tryd.prog.globalNamed "internal/strconv.uint64pow10" = some 2 := by kernel_rfl
theorem Env.keep {w w' : World} (h : Env w) (hb : Below w.heap.size w w') : Env w' :=
  var?_below hb gPow (World.block_lt_of_cell? w _ (Lib.TabIs.cell h gPow 0 (by decide))) h
theorem below_grow (w : World) (k : Nat) (os : Array Obj) : Below w.heap.size w (Go.Sort.grow (w.drewN k) os) :=
  ⟨rfl, rfl, rfl, by simp [Go.Sort.grow, World.drewN], fun i hi => by simp [Go.Sort.grow, World.drewN, Array.getElem?_append_left hi]⟩
theorem itoa_any (n : Int) (w : World) (h : Env w) (hn : inI n) :
    Calls Tryd.prog 53 #[.int .i64 n] w fun e w' => e = .returned (.string ⟨(Lib.itoa n).toArray⟩) ∧ Below w.heap.size w w' :=
  (Tryd.strconv_Itoa n hn.1 hn.2 w h).mono fun _ _ ⟨he, k, os, hw⟩ => ⟨he, hw ▸ below_grow w k os⟩
theorem itoa_len (n : Int) (hn : inI n) : (Lib.itoa n).length ≤ 21 := Lib.itoa_length_le n hn.1 hn.2
/-- The bytes as a string. -/
def bS (l : List UInt8) : ByteArray := ⟨l.toArray⟩
theorem bS_size (l : List UInt8) : (bS l).size = l.length := by simp [bS, ByteArray.size]
theorem bS_app (a b : List UInt8) : bS a ++ bS b = bS (a ++ b) := by
  apply ByteArray.ext
  simp [bS]
theorem bS_list (l : List UInt8) : (bS l).data.toList = l := by simp [bS]
theorem numL_len (w : List UInt8) : ∀ (l : List Int), (∀ n ∈ l, inI n) → (numL w l).length ≤ w.length + 22 * l.length := by
  intro l hl
  unfold numL sp
  rw [List.length_append, List.length_flatMap]
  have : ((l.map Lib.itoa).map fun x => (32 :: x).length).sum ≤ 22 * l.length := by
    induction l with
    | nil => simp
    | cons n l ih =>
      have h1 := itoa_len n (hl n (by simp))
      have h2 := ih (fun x hx => hl x (List.mem_cons_of_mem _ hx))
      simp only [List.map_cons, List.sum_cons, List.length_cons] at h2 ⊢
      omega
  omega
set_option maxRecDepth 100000 in
set_option maxHeartbeats 2000000 in
theorem line_any (W : List UInt8) (hW : W.length ≤ 1000) (b o cap : Nat) (l : List Int) (hl : l.length ≤ 1000) (hn : ∀ n ∈ l, inI n) (w : World) (he : Env w) (hb : IR w b o l) :
    Calls Tryd.prog 34 #[.string (bS W), .slice (some ⟨b, o, none⟩) l.length cap] w (fun e w' => e = .returned (.string (bS (numL W l))) ∧ Below w.heap.size w w') := by
  have HE := Lib.hid he
  have HN := Lib.hid hn
  have HB := Lib.hid hb
  obtain ⟨N, hN⟩ : ∃ N, l.length = N := ⟨_, rfl⟩
  have HL := Lib.hid hN
  rw [hN] at hl ⊢
  have HW := Lib.hid hW
  clear he hn hb hN hW
  go_enter Tryd.func34, Tryd.ntmps34
  go_wp2_with fail
  go_loopw [0, 9] (fun s0 s9 wr => ∃ k : Nat, k ≤ N ∧ s0 = .string (bS (numL W (l.take k))) ∧ s9 = .int .i64 (k : Int) ∧ Hid (Below w.heap.size w wr)) (fun _ s9 _ => N - (intOf s9).toNat)
  case atStart => exact ⟨0, Nat.zero_le _, by rw [List.take_zero, numL_nil], rfl, Lib.hid (Below.refl _ _)⟩
  case round =>
    obtain ⟨k, hk, rfl, rfl, BR⟩ := hrel
    by_cases hlt : k < N
    · have t1 : decide ((k : Int) < (N : Int)) = true := decide_eq_true (by omega)
      obtain ⟨n, hln⟩ : ∃ n, l[k]? = some n := ⟨_, List.getElem?_eq_getElem (by rw [HL.out]; exact hlt)⟩
      have e0 := HB.out.keep BR.out k n hln
      have hin := HN.out n (List.mem_of_getElem? hln)
      have IT := Lib.hid (fun wx (hb : Below w.heap.size w wx) => itoa_any n wx (HE.out.keep hb) hin)
      obtain ⟨X, hX⟩ : ∃ X, Lib.itoa n = X := ⟨_, rfl⟩
      obtain ⟨Y, hY⟩ : ∃ Y, numL W (l.take k) = Y := ⟨_, rfl⟩
      have hXl := itoa_len n hin
      have hYl := numL_len W (l.take k) (fun x hx => HN.out x (List.mem_of_mem_take hx))
      have hnx : Hid (bS Y ++ (⟨#[32]⟩ ++ bS X) = bS (numL W (l.take (k + 1)))) := Lib.hid (by
        rw [take_more hln, numL_snoc, ← hX, ← hY, show (⟨#[32]⟩ : ByteArray) = bS [32] from rfl, bS_app, bS_app]
        rfl)
      have hsx : (bS X).size ≤ 21 := by rw [bS_size, ← hX]; exact hXl
      have hsy : (bS Y).size ≤ 23000 := by
        rw [bS_size, ← hY]
        have := HW.out
        have : (l.take k).length ≤ 1000 := by rw [List.length_take]; omega
        omega
      rw [show (⟨(Lib.itoa n).toArray⟩ : ByteArray) = bS X by rw [hX]; rfl] at IT
      rw [hY]
      generalize bS X = XS at *
      generalize bS Y = YS at *
      have q1 : ¬ 9223372036854775807 < 1 + XS.size := by omega
      have q2 : ¬ 9223372036854775807 < YS.size + (1 + XS.size) := by omega
      clear hln hin hX hY hXl hYl
      go_wp2_with fail
      refine (IT.out _ BR.out).mono ?_
      rintro e w1 ⟨rfl, hb⟩
      have B1 := Lib.hid (bchain BR.out hb)
      clear hb e0 IT
      go_wp2_with fail
      go_roundw
      case rel => exact ⟨k + 1, by omega, by rw [hnx.out], by go_num, B1⟩
      case measure => simp [intOf]; omega
    · obtain rfl : k = N := by omega
      have t1 : decide ((k : Int) < (k : Int)) = false := decide_eq_false (by omega)
      have hall : l.take k = l := by rw [← HL.out, List.take_length]
      rw [hall]
      go_wp2_with fail
      go_ret
      exact ⟨rfl, BR.out⟩
/-- Words in a row of memory. -/
def WR (w : World) (b o : Nat) (l : List (List UInt8)) : Prop := ∀ i x, l[i]? = some x → w.cell? ⟨b, o + i, none⟩ = some (.string (bS x))
theorem WR.keep {w w' : World} {b o : Nat} {l : List (List UInt8)} (h : WR w b o l) (hb : Below w.heap.size w w') : WR w' b o l := fun i x hi => keepW hb (h i x hi)
theorem WR.blk {w : World} {b : Nat} {t : TypeId} {l : List (List UInt8)} (h : Blk w b t (l.map fun x => Value.string (bS x)).toArray) : WR w b 0 l := fun i x hi => by
  rw [Nat.zero_add]
  exact h.cell (by simp [hi])
theorem sp_len : ∀ (l : List (List UInt8)) (B : Nat), (∀ x ∈ l, x.length ≤ B) → (sp l).length ≤ l.length * (B + 1)
  | [], _, _ => by simp [sp]
  | w :: l, B, h => by
    unfold sp
    rw [List.length_append, List.length_flatMap]
    have h0 := h w (by simp)
    have : (l.map fun x => (32 :: x).length).sum ≤ l.length * (B + 1) := by
      have hl : ∀ x ∈ l, x.length ≤ B := fun x hx => h x (List.mem_cons_of_mem _ hx)
      clear h h0
      induction l with
      | nil => simp
      | cons n l ih =>
        have h1 := hl n (by simp)
        have h2 := ih (fun x hx => hl x (List.mem_cons_of_mem _ hx))
        simp only [List.map_cons, List.sum_cons, List.length_cons, Nat.add_mul, Nat.one_mul] at h2 ⊢
        omega
    show _ ≤ (l.length + 1) * (B + 1)
    rw [Nat.add_mul, Nat.one_mul]
    omega
set_option maxRecDepth 100000 in
theorem join_any (b o cap : Nat) (l : List (List UInt8)) (hl : l.length ≤ 1000) (hcap : l.length ≤ cap) (hn : ∀ x ∈ l, x.length ≤ 100000) (w : World) (hlt : b < w.heap.size) (hb : WR w b o l) :
    Calls Tryd.prog 39 #[.slice (some ⟨b, o, none⟩) l.length cap] w (fun e w' => e = .returned (.string (bS (sp l))) ∧ Below w.heap.size w w') := by
  have e1 : ((l.map bS).map (·.data.toList)) = l := by
    rw [List.map_map]
    exact (List.map_congr_left fun x _ => bS_list x).trans (List.map_id l)
  have e2 : (⟨#[32]⟩ : ByteArray).data.toList = [32] := rfl
  have J := Lib.hid (Tryd.strings_Join b o cap (l.map bS) ⟨#[32]⟩ w (fun j x hj => by
    rw [List.getElem?_map] at hj
    cases hx : l[j]? with
    | none => rw [hx] at hj; cases hj
    | some y =>
      rw [hx] at hj
      obtain rfl : bS y = x := by simpa using hj
      exact hb j y hx) hlt (by simp; omega) (by simpa using hcap) (by
      rw [e1, e2, join_sp]
      have := sp_len l 100000 hn
      have : l.length * (100000 + 1) ≤ 1000 * (100000 + 1) := Nat.mul_le_mul_right _ hl
      omega))
  rw [e1, e2, join_sp, List.length_map] at J
  clear e1 e2 hb hn
  obtain ⟨N, hN⟩ : ∃ N, l.length = N := ⟨_, rfl⟩
  rw [hN] at J ⊢
  clear hN hl hcap
  go_enter Tryd.func39, Tryd.ntmps39
  go_wp2_with fail
  refine J.out.mono ?_
  rintro e w1 ⟨rfl, hb⟩
  have B1 := Lib.hid hb
  clear hb J
  go_wp2_with fail
  go_ret
  exact ⟨rfl, B1.out⟩
set_option maxRecDepth 100000 in
theorem rtext_any (n : Int) (hn : inI n) (w : World) (he : Env w) : Calls Tryd.prog 48 #[.int .i64 n] w (fun e w' => e = .returned (.string (bS (Lib.itoa n))) ∧ Below w.heap.size w w') := by
  have IT := Lib.hid (itoa_any n w he hn)
  clear he hn
  go_enter Tryd.func48, Tryd.ntmps48
  go_wp2_with fail
  refine IT.out.mono ?_
  rintro e w1 ⟨rfl, hb⟩
  have B1 := Lib.hid hb
  clear hb IT
  go_wp2_with fail
  go_ret
  exact ⟨rfl, B1.out⟩
theorem sp_take {l : List (List UInt8)} {k : Nat} {x : List UInt8} (h0 : 0 < k) (h : l[k]? = some x) : sp (l.take (k + 1)) = sp (l.take k) ++ [32] ++ x := by
  rw [take_more h, sp_snoc]
  · simp
  · intro e
    have h2 := congrArg List.length e
    rw [List.length_take, List.length_nil] at h2
    have hk := (List.getElem?_eq_some_iff.1 h).1
    omega
set_option maxRecDepth 100000 in
set_option maxHeartbeats 2000000 in
theorem rjoin_any (b o cap : Nat) (l : List (List UInt8)) (h0 : 0 < l.length) (hl : l.length ≤ 1000) (hn : ∀ x ∈ l, x.length ≤ 100000) (w : World) (hb : WR w b o l) :
    Calls Tryd.prog 47 #[.slice (some ⟨b, o, none⟩) l.length cap] w (fun e w' => e = .returned (.string (bS (sp l))) ∧ w = w') := by
  have HN := Lib.hid hn
  have HB := Lib.hid hb
  obtain ⟨N, hN⟩ : ∃ N, l.length = N := ⟨_, rfl⟩
  have HL := Lib.hid hN
  obtain ⟨x0, hx0⟩ : ∃ x, l[0]? = some x := ⟨_, List.getElem?_eq_getElem h0⟩
  have c0 := hb 0 x0 hx0
  rw [Nat.add_zero] at c0
  have H0 : Hid (bS x0 = bS (sp (l.take 1))) := Lib.hid (by rw [show l.take 1 = [x0] by cases l with | nil => simp at hx0 | cons a l => simpa using hx0, sp_one])
  rw [hN] at hl h0 ⊢
  have i1 : (0 : Int) < (N : Int) := by omega
  clear hn hb hN hx0
  go_enter Tryd.func47, Tryd.ntmps47
  go_wp2_with fail
  clear c0 i1
  go_loopw [3, 4] (fun s3 s4 wr => ∃ k : Nat, 1 ≤ k ∧ k ≤ N ∧ s3 = .string (bS (sp (l.take k))) ∧ s4 = .int .i64 (k : Int) ∧ w = wr) (fun _ s4 _ => N - (intOf s4).toNat)
  case atStart => exact ⟨1, Nat.le_refl _, h0, by rw [H0.out], rfl, rfl⟩
  case round =>
    obtain ⟨k, hk1, hk, rfl, rfl, rfl⟩ := hrel
    by_cases hlt : k < N
    · have t1 : decide ((k : Int) < (N : Int)) = true := decide_eq_true (by omega)
      obtain ⟨x, hlx⟩ : ∃ x, l[k]? = some x := ⟨_, List.getElem?_eq_getElem (by rw [HL.out]; exact hlt)⟩
      have e0 := HB.out k x hlx
      have hin := HN.out x (List.mem_of_getElem? hlx)
      obtain ⟨Y, hY⟩ : ∃ Y, sp (l.take k) = Y := ⟨_, rfl⟩
      have hYl := sp_len (l.take k) 100000 (fun x hx => HN.out x (List.mem_of_mem_take hx))
      have hnx : Hid (bS Y ++ ⟨#[32]⟩ ++ bS x = bS (sp (l.take (k + 1)))) := Lib.hid (by
        rw [sp_take hk1 hlx, ← hY, show (⟨#[32]⟩ : ByteArray) = bS [32] from rfl, bS_app, bS_app])
      have hsx : (bS x).size ≤ 100000 := by rw [bS_size]; exact hin
      have hsy : (bS Y).size ≤ 100001000 := by
        rw [bS_size, ← hY]
        have h3 : (l.take k).length ≤ 1000 := by rw [List.length_take]; omega
        have : (l.take k).length * (100000 + 1) ≤ 1000 * (100000 + 1) := Nat.mul_le_mul_right _ h3
        omega
      rw [hY]
      generalize bS x = XS at *
      generalize bS Y = YS at *
      have q1 : ¬ 9223372036854775807 < YS.size + 1 := by omega
      have q2 : ¬ 9223372036854775807 < YS.size + 1 + XS.size := by omega
      have i1 : (0 : Int) ≤ (k : Int) := by omega
      have i2 : (k : Int) < (N : Int) := by omega
      clear hlx hin hY hYl
      go_wp2_with fail
      go_roundw
      case rel => exact ⟨k + 1, by omega, by omega, by rw [hnx.out], by go_num, trivial⟩
      case measure => simp [intOf]; omega
    · obtain rfl : k = N := by omega
      have t1 : decide ((k : Int) < (k : Int)) = false := decide_eq_false (by omega)
      have hall : l.take k = l := by rw [← HL.out, List.take_length]
      rw [hall]
      go_wp2_with fail
      go_ret
      exact ⟨rfl, rfl⟩
end Go.Proofs.YtidpfggikighlaaDoor
