/- The contract of LentFracs. -/
import Derived.Test.YtfhkgpipbegpgaaGreatDoorLent
namespace Go.Proofs.YtfhkgpipbegpgaaGreatDoor
open Go Go.RowKit

theorem own_keep {w w' : World} {B e size n : Nat} {v : Value} {xs : List Value} (h : w.ownsRow B e size v n xs) (hb : Below w.heap.size w w') : w'.ownsRow B e size v n xs := by
  refine ⟨h.1, ?_⟩
  rcases h.2 with hn | ⟨g, cap, cur, rfl, hb', hg, rest⟩
  · exact .inl hn
  · exact .inr ⟨g, cap, cur, rfl, hb', (hb.block g (Array.getElem?_eq_some_iff.1 hg).1).trans hg, rest⟩
theorem grown_below {w W W' : World} {r : Option Nat} (hb : Below w.heap.size w W) (h : W.grownBy W' r) (hr : ∀ k, r = some k → w.heap.size ≤ k) : Below w.heap.size w W' :=
  hb.grown h hb.size hr
/-- What LentFracs keeps: the row it lends, with k marks behind. -/
structure LQ (w W : World) (g N k : Nat) (fs : List (Int × Int)) : Prop where
  own : W.ownsRow w.heap.size 23 2 (.slice (some ⟨g, 0, none⟩) (N + k) (N + 12)) (N + k) (fv (fs ++ marks k))
  below : Below w.heap.size w W
theorem wpList_nil {ops : Array Oper} {rest : List Oper} {o : Oper} {a : Act} {Q : Exit → Act → World → Prop} (hgd : o.guard = none) (s x : Operand)
    (ho : o.op = .call { callee := .builtin .append, args := #[s, x], argTypes := #[26, 26] }) (W : World) (base : Nat) (v : Value) (n : Nat) (xs : List Value)
    (hs : a.eval s = v) (hx : a.eval x = .slice none 0 0) (hown : W.ownsRow base 23 2 v n xs) (h : wpList Tryz.prog ops Q rest (a.put o.dst v) W) : wpList Tryz.prog ops Q (o :: rest) a W :=
  wpList_plain hgd fun K hK => by
    obtain ⟨i0, hi0, hz0, hz1, hz2⟩ := info_parts info_frac
    unfold Oper.wp
    simp [execOp, ho, resolve, invoke, builtin, hs, hx, run_append_owned_none W base 26 o.type 23 i0 2 Tryz.underlying26 hi0 v n xs hown, Result.andThen]
    exact hK _ _ h
set_option maxRecDepth 100000 in
set_option maxHeartbeats 4000000 in
theorem lent_any (b off : Nat) (fs : List (Int × Int)) (cap : Nat) (hn : fs.length ≤ 40) (w : World) (hR : RowF w b off fs) :
    Calls Tryz.prog 34 #[.slice (some ⟨b, off, none⟩) fs.length cap] w (fun e w' => ∃ g, e = .returned (.slice (some ⟨g, 0, none⟩) fs.length (fs.length + 12)) ∧ RowF w' g 0 (fs ++ marks 12) ∧ w.heap.size ≤ g ∧ Below w.heap.size w w') := by
  obtain ⟨i0, hi0, hz0, hz1, hz2⟩ := info_parts info_frac
  obtain ⟨N, hN⟩ : ∃ N, fs.length = N := ⟨_, rfl⟩
  have hc := Lib.hid (cells_of_row hR)
  have HN := Lib.hid hN
  rw [hN] at hn ⊢
  have wd : IntKind.i64.wrap ((N : Int) + 12) = (N : Int) + 12 := IntWalk.i64_in _ (by omega)
  have HI := Lib.hid hi0
  clear hN
  go_enter Tryz.func34, Tryz.ntmps34
  go_wp2_with (first
    | (at_make; refine wpList_make_own _ rfl _ _ 26 rfl w.heap.size 23 i0 (.agg #[.int .i64 0, .int .i64 0]) 2 Tryz.underlying26 hi0 hz0 hz1 .i64 .i64 _ (N + 12) rfl rfl (by simp) (by rw [hz2]; omega) (by unfold maxLen; omega) (Nat.le_refl _) ?_; intro w0 hown0 hgrow0)
    | (at_builtin; refine wpList_append_fits _ rfl _ _ 26 rfl w.heap.size 23 i0 2 Tryz.underlying26 hi0 hz1 w.heap.size 0 (N + 12) _ rfl hown0 ⟨b, off, none⟩ N cap (fv fs) rfl (by rw [fv_len, HN.out]) (fun j u hj => by have h9 := hc.out j u hj; have h8 := World.block_lt_of_cell? w _ h9; exact (((Below.refl w.heap.size w).grown hgrow0 (Nat.le_refl _) (fun k hk => by cases hk)).cell h8).trans h9) (fv_one fs) (by omega) ?_; intro w1 hown1 hgrow1))
  have hb0 : Below w.heap.size w w0 := (Below.refl w.heap.size w).grown hgrow0 (Nat.le_refl _) (fun k hk => by cases hk)
  have hb1 : Below w.heap.size w w1 := hb0.grown hgrow1 hb0.size (fun k hk => by cases hk; exact Nat.le_refl _)
  have HQ : Hid (LQ w w1 w.heap.size N 0 fs) := Lib.hid ⟨by simpa [marks] using hown1, hb1⟩
  clear hown0 hgrow0 hown1 hgrow1 hb0 hb1 hc hR
  go_loopw [3, 4] (fun s3 s4 wr => ∃ k : Nat, k ≤ 12 ∧ s3 = .slice (some ⟨w.heap.size, 0, none⟩) (N + k) (N + 12) ∧ s4 = .int .i64 k ∧ LQ w wr w.heap.size N k fs) (fun _ s4 _ => 12 - (intOf s4).toNat)
  case atStart => exact ⟨0, by omega, by simp, rfl, HQ.out⟩
  case round =>
    obtain ⟨k, hk, rfl, rfl, hq⟩ := hrel
    have HQ1 := Lib.hid hq
    clear hq HQ
    by_cases hlt : k < 12
    · have t1 : decide ((k : Int) < 12) = true := decide_eq_true (by omega)
      have M1 := Lib.hid (fun W => markFrac_one (k : Int) (by omega) W)
      go_wp2_with fail
      refine (M1.out _).mono ?_
      rintro e w2 ⟨rfl, hb⟩
      have hO := own_keep HQ1.out.own hb
      have hB := bchain HQ1.out.below hb
      have hO3 := hO.alloc (.cells #[.int .i64 (8000024 + (k : Int)), .int .i64 1] 23)
      have hB3 := bchain hB (below1 w2 (.cells #[.int .i64 (8000024 + (k : Int)), .int .i64 1] 23))
      have HW := Lib.hid (Blk.new w2 23 #[.int .i64 (8000024 + (k : Int)), .int .i64 1])
      clear hO hB hb
      go_wp2_with (at_builtin; refine wpList_append_fits _ rfl _ _ 26 rfl w.heap.size 23 i0 2 Tryz.underlying26 HI.out hz1 w.heap.size (N + k) (N + 12) _ rfl hO3 ⟨w2.heap.size, 0, none⟩ 1 1 (fv [(8000024 + (k : Int), 1)]) rfl rfl (fun j u hj => by
        rw [add_at]
        match j, hj with
        | 0, hj => obtain rfl := Option.some.inj hj; exact HW.out.cell rfl
        | 1, hj => obtain rfl := Option.some.inj hj; exact HW.out.cell rfl
        | j + 2, hj => cases hj) (fv_one _) (by omega) ?_; intro w4 hown4 hgrow4)
      go_roundw
      case rel => exact ⟨k + 1, by omega, by rw [Nat.add_assoc], by go_num, ⟨by rw [marks_succ, ← List.append_assoc, fv_app, ← Nat.add_assoc]; exact hown4, hB3.grown hgrow4 hB3.size (fun k hk => by cases hk; exact Nat.le_refl _)⟩⟩
      case measure => simp [intOf]; omega
    · obtain rfl : k = 12 := by omega
      go_wp2
      go_ret
      obtain ⟨r1, r2⟩ := row_of_own HQ1.out.own
      exact ⟨_, rfl, r1, r2, HQ1.out.below⟩
set_option maxRecDepth 100000 in
set_option maxHeartbeats 4000000 in
theorem lent_nil (w : World) :
    Calls Tryz.prog 34 #[.slice none 0 0] w (fun e w' => ∃ g, e = .returned (.slice (some ⟨g, 0, none⟩) 0 12) ∧ RowF w' g 0 (marks 12) ∧ w.heap.size ≤ g ∧ Below w.heap.size w w') := by
  obtain ⟨i0, hi0, hz0, hz1, hz2⟩ := info_parts info_frac
  have wd : IntKind.i64.wrap ((0 : Int) + 12) = (0 : Int) + 12 := IntWalk.i64_in _ (by omega)
  have HI := Lib.hid hi0
  go_enter Tryz.func34, Tryz.ntmps34
  go_wp2_with (first
    | (at_make; refine wpList_make_own _ rfl _ _ 26 rfl w.heap.size 23 i0 (.agg #[.int .i64 0, .int .i64 0]) 2 Tryz.underlying26 hi0 hz0 hz1 .i64 .i64 _ 12 rfl rfl (by simp) (by rw [hz2]; omega) (by unfold maxLen; omega) (Nat.le_refl _) ?_; intro w0 hown0 hgrow0)
    | (at_builtin; refine wpList_nil rfl _ _ rfl _ w.heap.size _ 0 [] rfl rfl hown0 ?_))
  have hb0 : Below w.heap.size w w0 := (Below.refl w.heap.size w).grown hgrow0 (Nat.le_refl _) (fun k hk => by cases hk)
  have HQ : Hid (LQ w w0 w.heap.size 0 0 []) := Lib.hid ⟨hown0, hb0⟩
  clear hown0 hgrow0 hb0
  go_loopw [3, 4] (fun s3 s4 wr => ∃ k : Nat, k ≤ 12 ∧ s3 = .slice (some ⟨w.heap.size, 0, none⟩) k 12 ∧ s4 = .int .i64 k ∧ LQ w wr w.heap.size 0 k []) (fun _ s4 _ => 12 - (intOf s4).toNat)
  case atStart => exact ⟨0, by omega, by simp, rfl, HQ.out⟩
  case round =>
    obtain ⟨k, hk, rfl, rfl, hq⟩ := hrel
    have HQ1 := Lib.hid hq
    clear hq HQ
    by_cases hlt : k < 12
    · have t1 : decide ((k : Int) < 12) = true := decide_eq_true (by omega)
      have M1 := Lib.hid (fun W => markFrac_one (k : Int) (by omega) W)
      go_wp2_with fail
      refine (M1.out _).mono ?_
      rintro e w2 ⟨rfl, hb⟩
      have hO := own_keep HQ1.out.own hb
      have hB := bchain HQ1.out.below hb
      have hO3 := hO.alloc (.cells #[.int .i64 (8000024 + (k : Int)), .int .i64 1] 23)
      have hB3 := bchain hB (below1 w2 (.cells #[.int .i64 (8000024 + (k : Int)), .int .i64 1] 23))
      have HW := Lib.hid (Blk.new w2 23 #[.int .i64 (8000024 + (k : Int)), .int .i64 1])
      clear hO hB hb
      go_wp2_with (at_builtin; refine wpList_append_fits _ rfl _ _ 26 rfl w.heap.size 23 i0 2 Tryz.underlying26 HI.out hz1 w.heap.size k 12 _ rfl (by have h9 := hO3; rw [Nat.zero_add] at h9; exact h9) ⟨w2.heap.size, 0, none⟩ 1 1 (fv [(8000024 + (k : Int), 1)]) rfl rfl (fun j u hj => by
        rw [add_at]
        match j, hj with
        | 0, hj => obtain rfl := Option.some.inj hj; exact HW.out.cell rfl
        | 1, hj => obtain rfl := Option.some.inj hj; exact HW.out.cell rfl
        | j + 2, hj => cases hj) (fv_one _) (by omega) ?_; intro w4 hown4 hgrow4)
      go_roundw
      case rel => exact ⟨k + 1, by omega, rfl, by go_num, ⟨by rw [marks_succ, ← List.append_assoc, fv_app, Nat.zero_add]; exact hown4, hB3.grown hgrow4 hB3.size (fun k hk => by cases hk; exact Nat.le_refl _)⟩⟩
      case measure => simp [intOf]; omega
    · obtain rfl : k = 12 := by omega
      go_wp2
      go_ret
      obtain ⟨r1, r2⟩ := row_of_own HQ1.out.own
      exact ⟨_, rfl, r1, r2, HQ1.out.below⟩
end Go.Proofs.YtfhkgpipbegpgaaGreatDoor
