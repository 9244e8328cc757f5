/- The contracts of finessekit's mark, markFrac and LentFracs. The contract of LentFracs. The contract of KeptFracs. -/
import Derived.Test.YtfhkgpipbegpgaaGreatDoorSumW
import Derived.Test.YtfhkgpipbegpgaaGreatDoorInv
import Derived.Test.YtfhkgpipbegpgaaGreatDoorDg
import Derived.OwnWalk
import Derived.Deep.RegionHeld3
namespace Go.Proofs.YtfhkgpipbegpgaaGreatDoor
open Go Go.RowKit

theorem mark_one (i : Int) (h : 0 ≤ i ∧ i < 1000) (w : World) : Calls Tryz.prog 84 #[.int .i64 1, .int .i64 i] w (fun e w' => e = .returned (.int .i64 (8000024 + i)) ∧ w' = w) := by
  have g1 : IntKind.i64.wrap (8000024 + i) = 8000024 + i := IntWalk.i64_in _ (by omega)
  go_enter Tryz.func84, Tryz.ntmps84
  go_wp2
  go_ret
  exact ⟨rfl, rfl⟩
theorem markFrac_one (i : Int) (h : 0 ≤ i ∧ i < 1000) (w : World) : Calls Tryz.prog 63 #[.int .i64 1, .int .i64 i] w (fun e w' => e = .returned (.agg #[.int .i64 (8000024 + i), .int .i64 1]) ∧ Below w.heap.size w w') := by
  have M1 := Lib.hid (fun w => mark_one i h w)
  clear h
  go_enter Tryz.func63, Tryz.ntmps63
  go_wp2_with fail
  refine (M1.out _).mono ?_
  rintro e w1 ⟨rfl, rfl⟩
  go_wp2
  simp [bodyPost, results, Tryz.results63, go_sem]
  exact (Below.refl _ _).alloc (Nat.le_refl _) _
/-- The cells of a row of fractions. -/
def fv (l : List (Int × Int)) : List Value := l.flatMap fun x => [.int .i64 x.1, .int .i64 x.2]
theorem fv_len (l : List (Int × Int)) : (fv l).length = l.length * 2 := by
  induction l with
  | nil => rfl
  | cons x t ih => simp only [fv, List.flatMap_cons, List.length_append, List.length_cons, List.length_nil] at ih ⊢; omega
theorem fv_app (l m : List (Int × Int)) : fv (l ++ m) = fv l ++ fv m := by simp [fv]
theorem fv_at (l : List (Int × Int)) : ∀ (i : Nat) (n d : Int), l[i]? = some (n, d) → (fv l)[i * 2]? = some (.int .i64 n) ∧ (fv l)[i * 2 + 1]? = some (.int .i64 d) := by
  induction l with
  | nil => intro i n d h; simp at h
  | cons x t ih =>
    intro i n d h
    have e : fv (x :: t) = .int .i64 x.1 :: .int .i64 x.2 :: fv t := by simp [fv]
    cases i with
    | zero => simp at h; subst h; rw [e]; exact ⟨rfl, rfl⟩
    | succ i =>
      have := ih i n d (by simpa using h)
      rw [e, show (i + 1) * 2 = i * 2 + 1 + 1 by omega]
      exact ⟨by simpa using this.1, by simpa using this.2⟩
theorem fv_one (l : List (Int × Int)) : ∀ u ∈ fv l, u.oneCell' = true := by
  intro u hu
  simp only [fv, List.mem_flatMap] at hu
  obtain ⟨x, _, hx⟩ := hu
  rcases List.mem_cons.1 hx with rfl | hx
  · rfl
  · obtain rfl := List.mem_singleton.1 hx
    rfl
/-- The marks behind a row. -/
def marks (k : Nat) : List (Int × Int) := (List.range k).map fun (i : Nat) => (8000024 + (i : Int), 1)
theorem marks_succ (k : Nat) : marks (k + 1) = marks k ++ [(8000024 + (k : Int), 1)] := by simp [marks, List.range_succ]
theorem row_of_own {w : World} {base g n cap : Nat} {l : List (Int × Int)} (h : w.ownsRow base 23 2 (.slice (some ⟨g, 0, none⟩) n cap) n (fv l)) : RowF w g 0 l ∧ base ≤ g := by
  rcases h.2 with ⟨h1, _⟩ | ⟨g', cap', cur, e, hb, hg, h1, h2, h3, h4⟩
  · cases h1
  · injection e with e1 _ _
    have e1 := Option.some.inj e1
    injection e1 with e1 _ _
    subst e1
    have hlt : g < w.heap.size := (Array.getElem?_eq_some_iff.1 hg).1
    have hat : ∀ (j : Nat) (v : Value), (fv l)[j]? = some v → w.cell? ⟨g, j, none⟩ = some v := by
      intro j v hj
      rw [← h4, List.getElem?_take] at hj
      split at hj
      · have : cur[j]? = some v := by simpa using hj
        simp [World.cell?, hg, this]
      · cases hj
    exact ⟨⟨hlt, fun i n d hi => by rw [Nat.zero_add]; exact hat _ _ (fv_at l i n d hi).1, fun i n d hi => by rw [Nat.zero_add]; exact hat _ _ (fv_at l i n d hi).2⟩, hb⟩
theorem cells_of_row {w : World} {b off : Nat} {l : List (Int × Int)} (h : RowF w b off l) : ∀ j u, (fv l)[j]? = some u → w.cell? ((⟨b, off, none⟩ : Addr).add j) = some u := by
  intro j u hu
  rw [add_at]
  have hlen := (List.getElem?_eq_some_iff.1 hu).1
  rw [fv_len] at hlen
  obtain ⟨⟨n, d⟩, hx⟩ : ∃ x, l[j / 2]? = some x := ⟨_, List.getElem?_eq_getElem (by omega)⟩
  obtain ⟨f0, f1⟩ := fv_at l _ _ _ hx
  rcases Nat.mod_two_eq_zero_or_one j with hm | hm
  · rw [show j / 2 * 2 = j by omega] at f0
    rw [f0] at hu
    obtain rfl := Option.some.inj hu
    have := h.num _ _ _ hx
    rwa [show off + j / 2 * 2 = off + j by omega] at this
  · rw [show j / 2 * 2 + 1 = j by omega] at f1
    rw [f1] at hu
    obtain rfl := Option.some.inj hu
    have := h.den _ _ _ hx
    rwa [show off + j / 2 * 2 + 1 = off + j by omega] at this
theorem info_frac : (Tryz.prog.info? 23).map (fun i => (i.zero, i.size, i.bytes)) = some (some (.agg #[.int .i64 0, .int .i64 0]), 2, 16) := by kernel_rfl
end Go.Proofs.YtfhkgpipbegpgaaGreatDoor
namespace Go.Proofs.YtfhkgpipbegpgaaGreatDoor
open Go Go.RowKit

theorem own_keep {w w' : World} {B e size n : Nat} {v : Value} {xs : List Value} (h : w.ownsRow B e size v n xs) (hb : Below w.heap.size w w') : w'.ownsRow B e size v n xs := by
  refine ⟨h.1, ?_⟩
  rcases h.2 with hn | ⟨g, cap, cur, rfl, hb', hg, rest⟩
  · exact .inl hn
  · exact .inr ⟨g, cap, cur, rfl, hb', (hb.block g (Array.getElem?_eq_some_iff.1 hg).1).trans hg, rest⟩
theorem grown_below {w W W' : World} {r : Option Nat} (hb : Below w.heap.size w W) (h : W.grownBy W' r) (hr : ∀ k, r = some k → w.heap.size ≤ k) : Below w.heap.size w W' :=
  hb.grown h hb.size hr
/-- What LentFracs keeps: the row it lends, with k marks behind. -/
structure LQ (w W : World) (g N k : Nat) (fs : List (Int × Int)) : Prop where
  own : W.ownsRow w.heap.size 23 2 (.slice (some ⟨g, 0, none⟩) (N + k) (N + 12)) (N + k) (fv (fs ++ marks k))
  below : Below w.heap.size w W
theorem wpList_nil {ops : Array Oper} {rest : List Oper} {o : Oper} {a : Act} {Q : Exit → Act → World → Prop} (hgd : o.guard = none) (s x : Operand)
    (ho : o.op = .call { callee := .builtin .append, args := #[s, x], argTypes := #[26, 26] }) (W : World) (base : Nat) (v : Value) (n : Nat) (xs : List Value)
    (hs : a.eval s = v) (hx : a.eval x = .slice none 0 0) (hown : W.ownsRow base 23 2 v n xs) (h : wpList Tryz.prog ops Q rest (a.put o.dst v) W) : wpList Tryz.prog ops Q (o :: rest) a W :=
  wpList_plain hgd fun K hK => by
    obtain ⟨i0, hi0, hz0, hz1, hz2⟩ := info_parts info_frac
    unfold Oper.wp
    simp [execOp, ho, resolve, invoke, builtin, hs, hx, run_append_owned_none W base 26 o.type 23 i0 2 Tryz.underlying26 hi0 v n xs hown, Result.andThen]
    exact hK _ _ h
set_option maxRecDepth 100000 in
set_option maxHeartbeats 4000000 in
theorem lent_any (b off : Nat) (fs : List (Int × Int)) (cap : Nat) (hn : fs.length ≤ 40) (w : World) (hR : RowF w b off fs) :
    Calls Tryz.prog 34 #[.slice (some ⟨b, off, none⟩) fs.length cap] w (fun e w' => ∃ g, e = .returned (.slice (some ⟨g, 0, none⟩) fs.length (fs.length + 12)) ∧ RowF w' g 0 (fs ++ marks 12) ∧ w.heap.size ≤ g ∧ Below w.heap.size w w') := by
  obtain ⟨i0, hi0, hz0, hz1, hz2⟩ := info_parts info_frac
  obtain ⟨N, hN⟩ : ∃ N, fs.length = N := ⟨_, rfl⟩
  have hc := Lib.hid (cells_of_row hR)
  have HN := Lib.hid hN
  rw [hN] at hn ⊢
  have wd : IntKind.i64.wrap ((N : Int) + 12) = (N : Int) + 12 := IntWalk.i64_in _ (by omega)
  have HI := Lib.hid hi0
  clear hN
  go_enter Tryz.func34, Tryz.ntmps34
  go_wp2_with (first
    | (at_make; refine wpList_make_own _ rfl _ _ 26 rfl w.heap.size 23 i0 (.agg #[.int .i64 0, .int .i64 0]) 2 Tryz.underlying26 hi0 hz0 hz1 .i64 .i64 _ (N + 12) rfl rfl (by simp) (by rw [hz2]; omega) (by unfold maxLen; omega) (Nat.le_refl _) ?_; intro w0 hown0 hgrow0)
    | (at_builtin; refine wpList_append_fits _ rfl _ _ 26 rfl w.heap.size 23 i0 2 Tryz.underlying26 hi0 hz1 w.heap.size 0 (N + 12) _ rfl hown0 ⟨b, off, none⟩ N cap (fv fs) rfl (by rw [fv_len, HN.out]) (fun j u hj => by have h9 := hc.out j u hj; have h8 := World.block_lt_of_cell? w _ h9; exact (((Below.refl w.heap.size w).grown hgrow0 (Nat.le_refl _) (fun k hk => by cases hk)).cell h8).trans h9) (fv_one fs) (by omega) ?_; intro w1 hown1 hgrow1))
  have hb0 : Below w.heap.size w w0 := (Below.refl w.heap.size w).grown hgrow0 (Nat.le_refl _) (fun k hk => by cases hk)
  have hb1 : Below w.heap.size w w1 := hb0.grown hgrow1 hb0.size (fun k hk => by cases hk; exact Nat.le_refl _)
  have HQ : Hid (LQ w w1 w.heap.size N 0 fs) := Lib.hid ⟨by simpa [marks] using hown1, hb1⟩
  clear hown0 hgrow0 hown1 hgrow1 hb0 hb1 hc hR
  go_loopw [3, 4] (fun s3 s4 wr => ∃ k : Nat, k ≤ 12 ∧ s3 = .slice (some ⟨w.heap.size, 0, none⟩) (N + k) (N + 12) ∧ s4 = .int .i64 k ∧ LQ w wr w.heap.size N k fs) (fun _ s4 _ => 12 - (intOf s4).toNat)
  case atStart => exact ⟨0, by omega, by simp, rfl, HQ.out⟩
  case round =>
    obtain ⟨k, hk, rfl, rfl, hq⟩ := hrel
    have HQ1 := Lib.hid hq
    clear hq HQ
    by_cases hlt : k < 12
    · have t1 : decide ((k : Int) < 12) = true := decide_eq_true (by omega)
      have M1 := Lib.hid (fun W => markFrac_one (k : Int) (by omega) W)
      go_wp2_with fail
      refine (M1.out _).mono ?_
      rintro e w2 ⟨rfl, hb⟩
      have hO := own_keep HQ1.out.own hb
      have hB := bchain HQ1.out.below hb
      have hO3 := hO.alloc (.cells #[.int .i64 (8000024 + (k : Int)), .int .i64 1] 23)
      have hB3 := bchain hB (below1 w2 (.cells #[.int .i64 (8000024 + (k : Int)), .int .i64 1] 23))
      have HW := Lib.hid (Blk.new w2 23 #[.int .i64 (8000024 + (k : Int)), .int .i64 1])
      clear hO hB hb
      go_wp2_with (at_builtin; refine wpList_append_fits _ rfl _ _ 26 rfl w.heap.size 23 i0 2 Tryz.underlying26 HI.out hz1 w.heap.size (N + k) (N + 12) _ rfl hO3 ⟨w2.heap.size, 0, none⟩ 1 1 (fv [(8000024 + (k : Int), 1)]) rfl rfl (fun j u hj => by
        rw [add_at]
        match j, hj with
        | 0, hj => obtain rfl := Option.some.inj hj; exact HW.out.cell rfl
        | 1, hj => obtain rfl := Option.some.inj hj; exact HW.out.cell rfl
        | j + 2, hj => cases hj) (fv_one _) (by omega) ?_; intro w4 hown4 hgrow4)
      go_roundw
      case rel => exact ⟨k + 1, by omega, by rw [Nat.add_assoc], by go_num, ⟨by rw [marks_succ, ← List.append_assoc, fv_app, ← Nat.add_assoc]; exact hown4, hB3.grown hgrow4 hB3.size (fun k hk => by cases hk; exact Nat.le_refl _)⟩⟩
      case measure => simp [intOf]; omega
    · obtain rfl : k = 12 := by omega
      go_wp2
      go_ret
      obtain ⟨r1, r2⟩ := row_of_own HQ1.out.own
      exact ⟨_, rfl, r1, r2, HQ1.out.below⟩
set_option maxRecDepth 100000 in
set_option maxHeartbeats 4000000 in
theorem lent_nil (w : World) :
    Calls Tryz.prog 34 #[.slice none 0 0] w (fun e w' => ∃ g, e = .returned (.slice (some ⟨g, 0, none⟩) 0 12) ∧ RowF w' g 0 (marks 12) ∧ w.heap.size ≤ g ∧ Below w.heap.size w w') := by
  obtain ⟨i0, hi0, hz0, hz1, hz2⟩ := info_parts info_frac
  have wd : IntKind.i64.wrap ((0 : Int) + 12) = (0 : Int) + 12 := IntWalk.i64_in _ (by omega)
  have HI := Lib.hid hi0
  go_enter Tryz.func34, Tryz.ntmps34
  go_wp2_with (first
    | (at_make; refine wpList_make_own _ rfl _ _ 26 rfl w.heap.size 23 i0 (.agg #[.int .i64 0, .int .i64 0]) 2 Tryz.underlying26 hi0 hz0 hz1 .i64 .i64 _ 12 rfl rfl (by simp) (by rw [hz2]; omega) (by unfold maxLen; omega) (Nat.le_refl _) ?_; intro w0 hown0 hgrow0)
    | (at_builtin; refine wpList_nil rfl _ _ rfl _ w.heap.size _ 0 [] rfl rfl hown0 ?_))
  have hb0 : Below w.heap.size w w0 := (Below.refl w.heap.size w).grown hgrow0 (Nat.le_refl _) (fun k hk => by cases hk)
  have HQ : Hid (LQ w w0 w.heap.size 0 0 []) := Lib.hid ⟨hown0, hb0⟩
  clear hown0 hgrow0 hb0
  go_loopw [3, 4] (fun s3 s4 wr => ∃ k : Nat, k ≤ 12 ∧ s3 = .slice (some ⟨w.heap.size, 0, none⟩) k 12 ∧ s4 = .int .i64 k ∧ LQ w wr w.heap.size 0 k []) (fun _ s4 _ => 12 - (intOf s4).toNat)
  case atStart => exact ⟨0, by omega, by simp, rfl, HQ.out⟩
  case round =>
    obtain ⟨k, hk, rfl, rfl, hq⟩ := hrel
    have HQ1 := Lib.hid hq
    clear hq HQ
    by_cases hlt : k < 12
    · have t1 : decide ((k : Int) < 12) = true := decide_eq_true (by omega)
      have M1 := Lib.hid (fun W => markFrac_one (k : Int) (by omega) W)
      go_wp2_with fail
      refine (M1.out _).mono ?_
      rintro e w2 ⟨rfl, hb⟩
      have hO := own_keep HQ1.out.own hb
      have hB := bchain HQ1.out.below hb
      have hO3 := hO.alloc (.cells #[.int .i64 (8000024 + (k : Int)), .int .i64 1] 23)
      have hB3 := bchain hB (below1 w2 (.cells #[.int .i64 (8000024 + (k : Int)), .int .i64 1] 23))
      have HW := Lib.hid (Blk.new w2 23 #[.int .i64 (8000024 + (k : Int)), .int .i64 1])
      clear hO hB hb
      go_wp2_with (at_builtin; refine wpList_append_fits _ rfl _ _ 26 rfl w.heap.size 23 i0 2 Tryz.underlying26 HI.out hz1 w.heap.size k 12 _ rfl (by have h9 := hO3; rw [Nat.zero_add] at h9; exact h9) ⟨w2.heap.size, 0, none⟩ 1 1 (fv [(8000024 + (k : Int), 1)]) rfl rfl (fun j u hj => by
        rw [add_at]
        match j, hj with
        | 0, hj => obtain rfl := Option.some.inj hj; exact HW.out.cell rfl
        | 1, hj => obtain rfl := Option.some.inj hj; exact HW.out.cell rfl
        | j + 2, hj => cases hj) (fv_one _) (by omega) ?_; intro w4 hown4 hgrow4)
      go_roundw
      case rel => exact ⟨k + 1, by omega, rfl, by go_num, ⟨by rw [marks_succ, ← List.append_assoc, fv_app, Nat.zero_add]; exact hown4, hB3.grown hgrow4 hB3.size (fun k hk => by cases hk; exact Nat.le_refl _)⟩⟩
      case measure => simp [intOf]; omega
    · obtain rfl : k = 12 := by omega
      go_wp2
      go_ret
      obtain ⟨r1, r2⟩ := row_of_own HQ1.out.own
      exact ⟨_, rfl, r1, r2, HQ1.out.below⟩
end Go.Proofs.YtfhkgpipbegpgaaGreatDoor
namespace Go.Proofs.YtfhkgpipbegpgaaGreatDoor
open Go Go.RowKit

theorem marks_at (fs : List (Int × Int)) (k : Nat) (h : fs.length ≤ k) (h' : k < fs.length + 12) : (fs ++ marks 12)[k]? = some (8000024 + ((k : Int) - (fs.length : Int)), 1) := by
  rw [List.getElem?_append_right h]
  unfold marks
  rw [List.getElem?_map, List.getElem?_range (by omega)]
  simp only [Option.map_some]
  congr 2
  omega
set_option maxRecDepth 100000 in
set_option maxHeartbeats 4000000 in
theorem kept_any (b off g : Nat) (fs : List (Int × Int)) (cap : Nat) (hn : fs.length ≤ 40) (w : World) (hR : RowF w b off fs) (hG : RowF w g 0 (fs ++ marks 12)) :
    Calls Tryz.prog 37 #[.slice (some ⟨g, 0, none⟩) fs.length (fs.length + 12 : Nat), .slice (some ⟨b, off, none⟩) fs.length cap] w (fun e w' => e = .returned (.bool true) ∧ Below w.heap.size w w') := by
  obtain ⟨N, hN⟩ : ∃ N, fs.length = N := ⟨_, rfl⟩
  have HR := Lib.hid hR
  have HG := Lib.hid hG
  have HM := Lib.hid (fun k => marks_at fs k)
  have HN := Lib.hid hN
  rw [hN] at hn ⊢ HM
  have wd : IntKind.i64.wrap ((N : Int) + 12) = (N : Int) + 12 := IntWalk.i64_in _ (by omega)
  clear hN hR hG
  go_enter Tryz.func37, Tryz.ntmps37
  go_wp2_with fail
  go_loopw [6] (fun s6 wr => ∃ k : Nat, k ≤ N + 12 ∧ s6 = .int .i64 k ∧ Below w.heap.size w wr) (fun s6 _ => N + 12 - (intOf s6).toNat)
  case atStart => exact ⟨0, by omega, rfl, Below.refl _ _⟩
  case round =>
    obtain ⟨k, hk, rfl, hb⟩ := hrel
    have HB := Lib.hid hb
    clear hb
    by_cases hlt : k < N + 12
    · have t1 : decide ((k : Int) < (N : Int) + 12) = true := decide_eq_true (by omega)
      have i1 : 0 ≤ (k : Int) := by omega
      by_cases hin : k < N
      · obtain ⟨⟨n, d⟩, hx⟩ : ∃ x, fs[k]? = some x := ⟨_, List.getElem?_eq_getElem (by rw [HN.out]; exact hin)⟩
        have c0 := (HR.out.keep HB.out).num k n d hx
        have c1 := (HR.out.keep HB.out).den k n d hx
        have hy : (fs ++ marks 12)[k]? = some (n, d) := by rw [List.getElem?_append_left (by rw [HN.out]; exact hin)]; exact hx
        have e0 := (HG.out.keep HB.out).num k n d hy
        have e1 := (HG.out.keep HB.out).den k n d hy
        rw [Nat.zero_add] at e0 e1
        have t2 : decide (k < N) = true := decide_eq_true hin
        have t3 : decide (N ≤ k) = false := decide_eq_false (by omega)
        clear hx hy
        go_wp2_with fail
        go_quiet (fail)
        have HB2 := Lib.hid (bchain HB.out (below_drewN (Below.refl _ wr) nq))
        clear c0 c1 e0 e1
        go_wp2
        go_roundw
        case rel => exact ⟨k + 1, by omega, by go_num, HB2.out⟩
        case measure => simp [intOf]; omega
      · have hx := HM.out k (by omega) (by omega)
        have e0 := (HG.out.keep HB.out).num k _ _ hx
        have e1 := (HG.out.keep HB.out).den k _ _ hx
        rw [Nat.zero_add] at e0 e1
        have t2 : decide (k < N) = false := decide_eq_false hin
        have t3 : decide (N ≤ k) = true := decide_eq_true (by omega)
        have w3 : IntKind.i64.wrap ((k : Int) - (N : Int)) = (k : Int) - (N : Int) := IntWalk.i64_in _ (by omega)
        have M1 := Lib.hid (fun W => markFrac_one ((k : Int) - (N : Int)) (by omega) W)
        clear hx
        go_wp2_with fail
        have m0 := Since.cell e0
        have m1 := Since.cell e1
        refine region_since (by kernel_rfl) (by kernel_rfl) ?_
        repeat (go_big_quiet_step ((go_at_call 63; exact Calls.since (M1.out _))))
        refine wpQuiet_nil ?_
        rintro w' ⟨u', rfl⟩
        have HB2 := Lib.hid (bchain HB.out u'.property)
        clear m0 m1 e0 e1
        generalize u'.val = w6 at *
        go_wp2
        go_roundw
        case rel => exact ⟨k + 1, by omega, by go_num, HB2.out⟩
        case measure => simp [intOf]; omega
    · obtain rfl : k = N + 12 := by omega
      have t1 : decide (((N + 12 : Nat) : Int) < (N : Int) + 12) = false := decide_eq_false (by omega)
      go_wp2
      go_ret
      exact ⟨rfl, HB.out⟩
end Go.Proofs.YtfhkgpipbegpgaaGreatDoor
