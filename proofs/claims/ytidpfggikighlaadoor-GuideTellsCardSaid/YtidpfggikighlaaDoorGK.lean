/- LentRows, LentMovement; KeptRows, SameMovement, KeptMovement. -/
import Derived.Test.YtidpfggikighlaaDoorGN
import Derived.Test.YtidpfggikighlaaDoorQt
namespace Go.Proofs.YtidpfggikighlaaDoor
open Go Go.RowKit

/-- append of what lies somewhere, nil or not, where there is room. -/
theorem app_fits {ops : Array Oper} {rest : List Oper} {o : Oper} {a : Act} {Q : Exit → Act → World → Prop} (hgd : o.guard = none) (s x : Operand)
    (ho : o.op = .call { callee := .builtin .append, args := #[s, x], argTypes := #[22, 22] }) (W : World) (base g k cap : Nat) (xs : List Value) (hs : a.eval s = .slice (some ⟨g, 0, none⟩) k cap)
    (hown : W.ownsRow base 45 5 (.slice (some ⟨g, 0, none⟩) k cap) k xs) (u : Value) (m : Nat) (news : List Value) (hx : a.eval x = u) (hsrc : SrcR W 5 u m news) (h1 : ∀ u ∈ news, u.oneCell' = true) (b1 : k + m ≤ cap)
    (hK : ∀ w', w'.ownsRow base 45 5 (.slice (some ⟨g, 0, none⟩) (k + m) cap) (k + m) (xs ++ news) → W.grownBy w' (some g) → wpList Tryd.prog ops Q rest (a.put o.dst (.slice (some ⟨g, 0, none⟩) (k + m) cap)) w') : wpList Tryd.prog ops Q (o :: rest) a W := by
  obtain ⟨i0, hi0, hz0, hz1, hz2⟩ := info_parts_row
  cases hsrc with
  | none_ =>
    refine wpList_plain hgd fun K hK2 => ?_
    have hx' : a.eval x = .slice none 0 0 := hx
    unfold Oper.wp
    simp [execOp, ho, resolve, invoke, builtin, hs, hx', run_append_owned_none W base 22 o.type 45 i0 5 Tryd.underlying22 hi0 _ k xs hown, Result.andThen]
    exact hK2 _ _ (hK W (by simpa using hown) (World.grownBy.refl _ _))
  | some_ b off m c cs hl hcell =>
    exact wpList_append_fits W hgd s x 22 ho base 45 i0 5 Tryd.underlying22 hi0 hz1 g k cap xs hs hown ⟨b, off, none⟩ m c news hx hl (fun j u hj => by rw [add_at]; exact hcell j u hj) h1 b1 hK
/-- Rows that were lent: themselves, and twelve marks behind. -/
def LR (w : World) (g : Nat) (l : List Rw) : Prop := g < w.heap.size ∧ ∀ i r, (l ++ marks 12)[i]? = some r → w.cell? ⟨g, i * 5, none⟩ = some (.int .i64 r.rd) ∧ w.cell? ⟨g, i * 5 + 1, none⟩ = some (.int .i64 r.tb) ∧ w.cell? ⟨g, i * 5 + 2, none⟩ = some (.int .i64 r.ns) ∧ w.cell? ⟨g, i * 5 + 3, none⟩ = some (.int .i64 r.ew) ∧ w.cell? ⟨g, i * 5 + 4, none⟩ = some (.int .i64 r.st)
theorem LR.keep {w w' : World} {g : Nat} {l : List Rw} (h : LR w g l) (hb : Below w.heap.size w w') : LR w' g l := ⟨Nat.lt_of_lt_of_le h.1 hb.size, fun i r hi => by
  obtain ⟨a, b, c, d, e⟩ := h.2 i r hi
  exact ⟨keepW hb a, keepW hb b, keepW hb c, keepW hb d, keepW hb e⟩⟩
theorem LR.mr {w : World} {g : Nat} {l : List Rw} (h : LR w g l) : MR w (.slice (some ⟨g, 0, none⟩) l.length (l.length + 12)) l := by
  refine .some_ g 0 _ l h.1 (fun i r hi => ?_)
  have hlt := (List.getElem?_eq_some_iff.1 hi).1
  have := h.2 i r (by rw [List.getElem?_append_left hlt]; exact hi)
  rw [Nat.zero_add]
  exact this
structure LQ (w W : World) (N k : Nat) (l : List Rw) : Prop where
  own : W.ownsRow w.heap.size 45 5 (.slice (some ⟨w.heap.size, 0, none⟩) (N + k) (N + 12)) (N + k) (rv (l ++ marks k))
  below : Below w.heap.size w W
set_option maxRecDepth 100000 in
set_option maxHeartbeats 4000000 in
theorem lentRows_any (v : Value) (l : List Rw) (hl : l.length ≤ 100000) (w : World) (h : MR w v l) : Calls Tryd.prog 51 #[v] w (fun e w' => e = .returned (.slice (some ⟨w.heap.size, 0, none⟩) l.length (l.length + 12)) ∧ LR w' w.heap.size l ∧ Below w.heap.size w w') := by
  obtain ⟨i0, hi0, hz0, hz1, hz2⟩ := info_parts_row
  have HS := Lib.hid h
  obtain ⟨A, c, rfl⟩ := h.len
  obtain ⟨N, hN⟩ : ∃ N, l.length = N := ⟨_, rfl⟩
  have HN := Lib.hid hN
  rw [hN] at hl HS ⊢
  have wd : IntKind.i64.wrap ((N : Int) + 12) = (N : Int) + 12 := IntWalk.i64_in _ (by omega)
  clear h hN
  go_enter Tryd.func51, Tryd.ntmps51
  go_wp2_with (first
    | (at_make; refine wpList_make_own _ rfl _ _ 22 rfl w.heap.size 45 i0 (.agg #[.int .i64 0, .int .i64 0, .int .i64 0, .int .i64 0, .int .i64 0]) 5 Tryd.underlying22 hi0 hz0 hz1 .i64 .i64 _ (N + 12) rfl rfl (by simp) (by rw [hz2]; omega) (by unfold maxLen; omega) (Nat.le_refl _) ?_; intro w0 hown0 hgrow0)
    | (at_builtin; refine app_fits rfl _ _ rfl _ w.heap.size w.heap.size 0 (N + 12) [] rfl hown0 _ N (rv l) rfl (by have h9 := (src_rows HS.out).keep ((Below.refl w.heap.size w).grown hgrow0 (Nat.le_refl _) (fun k hk => by cases hk)); rw [HN.out] at h9; exact h9) (rv_one l) (by omega) ?_; intro w1 hown1 hgrow1))
  have hb0 : Below w.heap.size w w0 := (Below.refl w.heap.size w).grown hgrow0 (Nat.le_refl _) (fun k hk => by cases hk)
  have hb1 : Below w.heap.size w w1 := hb0.grown hgrow1 hb0.size (fun k hk => by cases hk; exact Nat.le_refl _)
  have HQ : Hid (LQ w w1 N 0 l) := Lib.hid ⟨by simpa [marks] using hown1, hb1⟩
  clear hown0 hgrow0 hown1 hgrow1 hb0 hb1 hi0 hz0 hz1 hz2
  clear i0
  go_wp2_with fail
  go_loopw [3, 4] (fun s3 s4 wr => ∃ k : Nat, k ≤ 12 ∧ s3 = .slice (some ⟨w.heap.size, 0, none⟩) (N + k) (N + 12) ∧ s4 = .int .i64 (k : Int) ∧ Hid (LQ w wr N k l)) (fun _ s4 _ => 12 - (intOf s4).toNat)
  case atStart => exact ⟨0, by omega, by simp, rfl, HQ⟩
  case round =>
    obtain ⟨k, hk, rfl, rfl, HQ1⟩ := hrel
    clear HQ
    by_cases hlt : k < 12
    · have t1 : decide ((k : Int) < 12) = true := decide_eq_true (by omega)
      have M1 := Lib.hid (fun W => markRow_one (k : Int) (by omega) W)
      go_wp2_with fail
      refine (M1.out _).mono ?_
      rintro e w2 ⟨rfl, hb⟩
      have HO := Lib.hid (own_keep HQ1.out.own (bchain hb (below1 w2 (.cells #[.int .i64 0, .int .i64 0, .int .i64 (8000024 + (k : Int)), .int .i64 0, .int .i64 0] 45))))
      have HB := Lib.hid (bchain HQ1.out.below (bchain hb (below1 w2 (.cells #[.int .i64 0, .int .i64 0, .int .i64 (8000024 + (k : Int)), .int .i64 0, .int .i64 0] 45))))
      have HW : Hid (SrcR (w2.alloc (.cells #[.int .i64 0, .int .i64 0, .int .i64 (8000024 + (k : Int)), .int .i64 0, .int .i64 0] 45)) 5 (.slice (some ⟨w2.heap.size, 0, none⟩) 1 1) 1 (rv [markR k])) := Lib.hid (.some_ w2.heap.size 0 1 1 _ rfl (fun j u hj => by
        rw [Nat.zero_add]
        exact (Blk.new w2 45 #[.int .i64 0, .int .i64 0, .int .i64 (8000024 + (k : Int)), .int .i64 0, .int .i64 0]).cell (by
          match j, hj with
          | 0, hj => exact hj
          | 1, hj => exact hj
          | 2, hj => exact hj
          | 3, hj => exact hj
          | 4, hj => exact hj
          | j + 5, hj => exact hj)))
      clear hb
      go_wp2_with (at_builtin; refine app_fits rfl _ _ rfl _ w.heap.size w.heap.size (N + k) (N + 12) _ rfl HO.out _ 1 (rv [markR k]) rfl HW.out (rv_one _) (by omega) ?_; intro w4 hown4 hgrow4)
      have HQ4 : Hid (LQ w w4 N (k + 1) l) := Lib.hid ⟨by rw [marks_succ, ← List.append_assoc, rv_app, ← Nat.add_assoc]; exact hown4, HB.out.grown hgrow4 HB.out.size (fun k hk => by cases hk; exact Nat.le_refl _)⟩
      clear hown4 hgrow4 HO HB HW
      go_wp2_with fail
      go_roundw
      case rel => exact ⟨k + 1, by omega, by rw [Nat.add_assoc], by go_num, HQ4⟩
      case measure => simp [intOf]; omega
    · obtain rfl : k = 12 := by omega
      rw [show ((12 : Nat) : Int) = 12 from rfl]
      have hr := mr_of_own HQ1.out.own
      have HR := Lib.hid hr
      have i1 : (N : Int) ≤ (N : Int) + 12 := by omega
      have i2 : N ≤ N + 12 := by omega
      clear hr
      go_wp2_with fail
      go_ret
      exact ⟨rfl, ⟨HR.out.1, HR.out.2.2⟩, HQ1.out.below⟩
end Go.Proofs.YtidpfggikighlaaDoor
