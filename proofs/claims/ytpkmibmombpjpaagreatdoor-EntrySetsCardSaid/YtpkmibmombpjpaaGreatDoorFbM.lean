/- Entries lent and kept: mark, markEntry, LentEntries, KeptEntries. Slices of entries and what was appended to them, with the two slices of slices: what flatEntries holds. No walk. flatEntries: slices that are blocks of their own share no memory. The functions of finessekit that look at slices for what they share, given none. ApartEntries: the bag and what it asks. -/
import Derived.Test.YtpkmibmombpjpaaGreatDoorApM
import Derived.Test.YtpkmibmombpjpaaGreatDoorSeM
import Derived.Test.YtpkmibmombpjpaaGreatDoorGw
import Derived.Test.YtpkmibmombpjpaaGreatDoorFlow8
import Derived.Test.YtpkmibmombpjpaaGreatDoorEmM
import Derived.Test.YtpkmibmombpjpaaGreatDoorQt
import Derived.Laws.MakeOwn
import Derived.Test.YtpkmibmombpjpaaGreatDoorKit
import Derived.Test.YtpkmibmombpjpaaGreatDoorOwn
import Derived.Test.YtpkmibmombpjpaaGreatDoorProg
set_option linter.unusedSimpArgs false
namespace Go.Proofs.YtpkmibmombpjpaaGreatDoor
open Go Go.RowKit

theorem mark_any (k i : Nat) (hk : k ≤ 1000) (hi : i ≤ 100000) (w : World) : Calls Tryz.prog 113 #[.int .i64 (k : Int), .int .i64 (i : Int)] w (fun e w' => e = .returned (.int .i64 (markN k i)) ∧ w' = w) := by
  have g1 : IntKind.i64.wrap ((k : Int) + 7) = (k : Int) + 7 := IntWalk.i64_in _ (by omega)
  have g2 : IntKind.i64.wrap (1000003 * ((k : Int) + 7)) = 1000003 * ((k : Int) + 7) := IntWalk.i64_in _ (by omega)
  have g3 : IntKind.i64.wrap (1000003 * ((k : Int) + 7) + (i : Int)) = 1000003 * ((k : Int) + 7) + (i : Int) := IntWalk.i64_in _ (by omega)
  unfold markN
  clear hk hi
  go_enter Tryz.func113, Tryz.ntmps113
  go_wp2
  go_ret
  exact ⟨rfl, rfl⟩
theorem markE_in (k i : Nat) (hk : k ≤ 1000) (hi : i ≤ 100000) : (markE k i).In := by
  have z : inI 0 := inI_small (by omega)
  exact gE_in ⟨z, z, (by unfold inI markN; omega), z⟩ (by omega) (by omega) (fun o ho => by cases ho) z z
set_option maxRecDepth 100000 in
theorem markEntry_any (k i : Nat) (hk : k ≤ 1000) (hi : i ≤ 100000) (w : World) : Calls Tryz.prog 80 #[.int .i64 (k : Int), .int .i64 (i : Int)] w (fun e w' => e = .returned (.agg (enC (markE k i))) ∧ Below w.heap.size w w') := by
  have HB := Lib.hid (below1 w (.cells (enC (markE k i)) 34))
  have st := storeAt_row (T := 34) (C := enC (markE k i)) (Blk.new w 34 (enC zE)) (by rw [enC_size]; kernel_rfl) (by simp only [enC_size]) (enC_one _)
  rw [setRow_new, zE_lit] at st
  have M1 := Lib.hid (fun W => mark_any k i hk hi W)
  clear hk hi
  have hE : markE k i = gE 0 0 (markN k i) 0 0 0 false [] 0 0 := rfl
  obtain ⟨E, hE2⟩ : ∃ E, markE k i = E := ⟨_, rfl⟩
  rw [hE2] at HB st hE ⊢
  have HE := Lib.hid hE
  clear hE hE2
  generalize markN k i = mn at *
  go_enter Tryz.func80, Tryz.ntmps80
  go_wp2_with fail
  refine (M1.out _).mono ?_
  rintro e w1 ⟨rfl, rfl⟩
  clear M1
  go_wp2_with (first
    | refine op_build 34 _ (enC E) rfl rfl (by rw [HE.out]; kernel_rfl) ?_
    | refine op_store (p := .pointer (some ⟨w.heap.size, 0, none⟩)) (C := .agg (enC E)) 34 (.tmp 4) (.tmp 8) rfl rfl rfl rfl rfl st ?_)
  have lf := loadVar_blk (T := 34) (Blk.new w 34 (enC E)) Tryz.underlying34 rfl (by rw [enC_size]; kernel_rfl)
  (try simp only [Exit.inBlock, Exit.then])
  refine bodyPost_ret (results_cell Tryz.results80 rfl lf) rfl ?_
  exact ⟨rfl, HB.out⟩
/-- append of what lies somewhere, nil or not, where there is room. -/
theorem app_fitsE {ops : Array Oper} {rest : List Oper} {o : Oper} {a : Act} {Q : Exit → Act → World → Prop} (hgd : o.guard = none) (s x : Operand)
    (ho : o.op = .call { callee := .builtin .append, args := #[s, x], argTypes := #[40, 40] }) (W : World) (base g k cap : Nat) (xs : List Value) (hs : a.eval s = .slice (some ⟨g, 0, none⟩) k cap)
    (hown : W.ownsRow base 34 33 (.slice (some ⟨g, 0, none⟩) k cap) k xs) (u : Value) (m : Nat) (news : List Value) (hx : a.eval x = u) (hsrc : SrcR W 33 u m news) (h1 : ∀ u ∈ news, u.oneCell' = true) (b1 : k + m ≤ cap)
    (hK : ∀ w', w'.ownsRow base 34 33 (.slice (some ⟨g, 0, none⟩) (k + m) cap) (k + m) (xs ++ news) → W.grownBy w' (some g) → wpList Tryz.prog ops Q rest (a.put o.dst (.slice (some ⟨g, 0, none⟩) (k + m) cap)) w') : wpList Tryz.prog ops Q (o :: rest) a W := by
  obtain ⟨i0, z0, hi0, hz0, hz1, hz2, hz3⟩ := info_parts_ent
  cases hsrc with
  | none_ =>
    refine wpList_plain hgd fun K hK2 => ?_
    have hx' : a.eval x = .slice none 0 0 := hx
    unfold Oper.wp
    simp [execOp, ho, resolve, invoke, builtin, hs, hx', run_append_owned_none W base 40 o.type 34 i0 33 Tryz.underlying40 hi0 _ k xs hown, Result.andThen]
    exact hK2 _ _ (hK W (by simpa using hown) (World.grownBy.refl _ _))
  | some_ b off m c cs hl hcell =>
    exact wpList_append_fits W hgd s x 40 ho base 34 i0 33 Tryz.underlying40 hi0 hz1 g k cap xs hs hown ⟨b, off, none⟩ m c news hx hl (fun j u hj => by rw [add_at]; exact hcell j u hj) h1 b1 hK
/-- Entries that were lent: themselves, and twelve marks behind. -/
def LE (w : World) (g : Nat) (l : List En) : Prop := EB w g (l ++ marksE 1 12) []
theorem LE.keep {w w' : World} {g : Nat} {l : List En} (h : LE w g l) (hb : Below w.heap.size w w') : LE w' g l := EB.keep h hb
theorem LE.ap {w : World} {g : Nat} {l : List En} (h : LE w g l) : AP w (.slice (some ⟨g, 0, none⟩) l.length (l.length + 12)) l := by
  refine .some_ g (l.length + 12) l (flat enC (marksE 1 12)) ?_ (by omega) ?_
  · unfold LE EB at h
    unfold EB
    rw [flat_app, List.append_nil] at h
    exact h
  · rw [flat_l, marksE_len]; omega
structure LQE (w W : World) (N k : Nat) (l : List En) : Prop where
  own : W.ownsRow w.heap.size 34 33 (.slice (some ⟨w.heap.size, 0, none⟩) (N + k) (N + 12)) (N + k) (flat enC (l ++ marksE 1 k))
  below : Below w.heap.size w W
theorem LQE.done {w W : World} {N : Nat} {l : List En} (h : LQE w W N 12 l) : LE W w.heap.size l := by
  rcases h.own.2 with ⟨e1, _⟩ | ⟨g, cap, cur, e1, _, hg, hc, _, hs, ht⟩
  · cases e1
  · injection e1 with e2 e3 e4
    injection e2 with e2
    injection e2 with e2 _
    subst e2; subst e4
    show W.heap[w.heap.size]? = _
    rw [hg, List.append_nil, ← ht]
    congr 2
    rw [← hs, List.take_of_length_le (by simp)]
set_option maxRecDepth 100000 in
set_option maxHeartbeats 4000000 in
theorem lentEntries_any (v : Value) (l : List En) (hl : l.length ≤ 100000) (w : World) (h : ES w v l) : Calls Tryz.prog 43 #[v] w (fun e w' => e = .returned (.slice (some ⟨w.heap.size, 0, none⟩) l.length (l.length + 12)) ∧ LE w' w.heap.size l ∧ Below w.heap.size w w') := by
  obtain ⟨i0, z0, hi0, hz0, hz1, hz2, hz3⟩ := info_parts_ent
  have HS := Lib.hid (fun W hb => (h.keep hb : ES W v l))
  obtain ⟨A, c, rfl, -⟩ := h.len
  obtain ⟨N, hN⟩ : ∃ N, l.length = N := ⟨_, rfl⟩
  have HN := Lib.hid hN
  rw [hN] at hl HS ⊢
  have wd : IntKind.i64.wrap ((N : Int) + 12) = (N : Int) + 12 := IntWalk.i64_in _ (by omega)
  clear h hN
  go_enter Tryz.func43, Tryz.ntmps43
  go_wp2_with (first
    | (at_make; refine wpList_make_own _ rfl _ _ 40 rfl w.heap.size 34 i0 z0 33 Tryz.underlying40 hi0 hz0 hz1 .i64 .i64 _ (N + 12) rfl rfl (by simp) (by rw [hz2]; omega) (by unfold maxLen; omega) (Nat.le_refl _) ?_; intro w0 hown0 hgrow0)
    | (at_builtin; refine app_fitsE rfl _ _ rfl _ w.heap.size w.heap.size 0 (N + 12) [] rfl hown0 _ N (flat enC l) rfl (src_es (HS.out _ ((Below.refl w.heap.size w).grown hgrow0 (Nat.le_refl _) (fun k hk => by cases hk))) HN.out) (ent_one l) (by omega) ?_; intro w1 hown1 hgrow1))
  have hb0 : Below w.heap.size w w0 := (Below.refl w.heap.size w).grown hgrow0 (Nat.le_refl _) (fun k hk => by cases hk)
  have hb1 : Below w.heap.size w w1 := hb0.grown hgrow1 hb0.size (fun k hk => by cases hk; exact Nat.le_refl _)
  have HQ : Hid (LQE w w1 N 0 l) := Lib.hid ⟨by simpa [marksE] using hown1, hb1⟩
  clear hown0 hgrow0 hown1 hgrow1 hb0 hb1 hi0 hz0 hz1 hz2 hz3 HS
  clear i0 z0
  go_wp2_with fail
  go_loopw [3, 4] (fun s3 s4 wr => ∃ k : Nat, k ≤ 12 ∧ s3 = .slice (some ⟨w.heap.size, 0, none⟩) (N + k) (N + 12) ∧ s4 = .int .i64 (k : Int) ∧ Hid (LQE w wr N k l)) (fun _ s4 _ => 12 - (intOf s4).toNat)
  case atStart => exact ⟨0, by omega, by simp, rfl, HQ⟩
  case round =>
    obtain ⟨k, hk, rfl, rfl, HQ1⟩ := hrel
    clear HQ
    by_cases hlt : k < 12
    · have t1 : decide ((k : Int) < 12) = true := decide_eq_true (by omega)
      have M0 := fun W => markEntry_any 1 k (by omega) (by omega) W
      have M1 := Lib.hid M0
      clear M0
      go_wp2_with fail
      refine (M1.out _).mono ?_
      rintro e w2 ⟨rfl, hb⟩
      obtain ⟨E, hE⟩ : ∃ E, markE 1 k = E := ⟨_, rfl⟩
      rw [hE]
      have HE : Hid (marksE 1 (k + 1) = marksE 1 k ++ [E]) := Lib.hid (by rw [marksE_more, hE])
      have HO := Lib.hid (own_keep HQ1.out.own (bchain hb (below1 w2 (.cells (flat enC [E]).toArray 34))))
      have HB := Lib.hid (bchain HQ1.out.below (bchain hb (below1 w2 (.cells (flat enC [E]).toArray 34))))
      have HW := Lib.hid (one_src w2 E)
      clear hb hE M1 HQ1
      go_wp2_with (first
        | (refine op_bsl 40 34 1 _ (flat enC [E]).toArray rfl rfl (by kernel_rfl) ?_)
        | (at_builtin; refine app_fitsE rfl _ _ rfl _ w.heap.size w.heap.size (N + k) (N + 12) _ rfl HO.out _ 1 (flat enC [E]) rfl HW.out (ent_one _) (by omega) ?_; intro w4 hown4 hgrow4))
      have HQ4 : Hid (LQE w w4 N (k + 1) l) := Lib.hid ⟨by rw [HE.out, ← List.append_assoc, flat_app, ← Nat.add_assoc]; exact hown4, HB.out.grown hgrow4 HB.out.size (fun k hk => by cases hk; exact Nat.le_refl _)⟩
      clear hown4 hgrow4 HO HB HW
      go_wp2_with fail
      go_roundw
      case rel => exact ⟨k + 1, by omega, by rw [Nat.add_assoc], by go_num, HQ4⟩
      case measure => simp [intOf]; omega
    · obtain rfl : k = 12 := by omega
      rw [show ((12 : Nat) : Int) = 12 from rfl]
      have HR := Lib.hid HQ1.out.done
      have i1 : (N : Int) ≤ (N : Int) + 12 := by omega
      have i2 : N ≤ N + 12 := by omega
      go_wp2_with fail
      go_ret
      exact ⟨rfl, HR.out, HQ1.out.below⟩
theorem mark_at {l : List En} {k : Nat} (h : l.length ≤ k) (h' : k < l.length + 12) : (l ++ marksE 1 12)[k]? = some (markE 1 (k - l.length)) := by
  rw [List.getElem?_append_right h]
  exact marksE_at (by omega)
set_option maxRecDepth 100000 in
set_option maxHeartbeats 4000000 in
theorem keptEntries_any (gb : Nat) (v : Value) (l : List En) (hin : ∀ e ∈ l, e.In) (hn : l.length ≤ 90000) (w : World) (hG : LE w gb l) (hR : ES w v l) :
    Calls Tryz.prog 48 #[.slice (some ⟨gb, 0, none⟩) l.length (l.length + 12), v] w (fun e w' => e = .returned (.bool true) ∧ Below w.heap.size w w') := by
  obtain ⟨A, c, rfl, -⟩ := hR.len
  have HR := Lib.hid hR
  have HG := Lib.hid (fun W (hb : Below w.heap.size w W) => (hG.keep hb : LE W gb l))
  have HI := Lib.hid hin
  obtain ⟨N, hN⟩ : ∃ N, l.length = N := ⟨_, rfl⟩
  have HN := Lib.hid hN
  rw [hN] at hn HR ⊢
  have wd : IntKind.i64.wrap ((N : Int) + 12) = (N : Int) + 12 := IntWalk.i64_in _ (by omega)
  clear hN hR hG hin
  go_enter Tryz.func48, Tryz.ntmps48
  go_wp2_with fail
  go_loopw [6] (fun s6 wr => ∃ k : Nat, k ≤ N + 12 ∧ s6 = .int .i64 (k : Int) ∧ Hid (Below w.heap.size w wr)) (fun s6 _ => N + 12 - (intOf s6).toNat)
  case atStart => exact ⟨0, by omega, rfl, Lib.hid (Below.refl _ _)⟩
  case round =>
    obtain ⟨k, hk, rfl, HB⟩ := hrel
    by_cases hlt : k < N + 12
    · have t1 : decide ((k : Int) < (N : Int) + 12) = true := decide_eq_true (by omega)
      have e1 : IntKind.i64.wrap ((k : Int) + 1) = (k : Int) + 1 := IntWalk.i64_in _ (by omega)
      have j0 : (0 : Int) ≤ (k : Int) := by omega
      have j1 : (k : Int) < (N : Int) + 12 := by omega
      have j2 : ¬ (N : Int) + 12 ≤ (k : Int) := by omega
      have j3 : ¬ N + 12 ≤ k := by omega
      by_cases hkn : k < N
      · obtain ⟨e, he⟩ : ∃ x, l[k]? = some x := ⟨_, List.getElem?_eq_getElem (by rw [HN.out]; exact hkn)⟩
        have he2 : (l ++ marksE 1 12)[k]? = some e := by rw [List.getElem?_append_left (by rw [HN.out]; exact hkn)]; exact he
        obtain ⟨bl, ol, rfl⟩ := HR.out.ptr (by rw [HN.out]; omega)
        have LA := Lib.hid (fun W (hb : Below w.heap.size w W) => (HG.out W hb).load (o := k * 33) he2 rfl)
        have LB := Lib.hid (fun W (hb : Below w.heap.size w W) => HR.out.load he hb)
        have ein := HI.out e (List.mem_of_getElem? he)
        have EQ0 := eql_deep (eq_en e e ein ein)
        rw [(eqEn_iff e e).2 rfl] at EQ0
        have EQ := Lib.hid EQ0
        have k1 : (k : Int) < (N : Int) := by omega
        have k2 : ¬ (N : Int) ≤ (k : Int) := by omega
        have k3 : ¬ N ≤ k := by omega
        have u1 : decide ((k : Int) < (N : Int)) = true := decide_eq_true k1
        have u1b : decide (k < N) = true := decide_eq_true hkn
        have u2 : decide ((N : Int) ≤ (k : Int)) = false := decide_eq_false k2
        have u2b : decide (N ≤ k) = false := decide_eq_false k3
        have HK := Lib.hid (And.intro hkn hlt)
        clear he he2 EQ0 ein hkn hlt hk
        go_upto_region 7 with fail
        have HW2 := Lib.hid HB.out.drew
        refine rest_begin (by kernel_rfl) ?_
        obtain ⟨W4, hW4⟩ : ∃ W4, wr.drew = W4 := ⟨_, rfl⟩
        rw [hW4] at HW2 ⊢
        clear hW4 HB
        clear wr
        have hwle : w.heap.size ≤ W4.heap.size := HW2.out.size
        refine rest_flow3 [some 23, some 24, some 25, some 26, some 27, some 28, some 29, some 30, some 31, some 32, some 33, some 34, some 35, some 36, some 37, some 38, some 39, some 40, some 41, some 42, some 43, some 44, some 45, some 46, some 47, some 48, some 49, some 50, some 51, some 52, some 53, some 54, some 55, some 56] [Sp.is (.int .i64 (k : Int)), Sp.is (.slice (some ⟨bl, ol, none⟩) N c), Sp.is (.int .i64 (N : Int)), Sp.is (.bool true), Sp.is (.bool true), Sp.is (.slice (some ⟨gb, 0, none⟩) (N + 12) (N + 12)), Sp.is (.int .i64 (k : Int)), Sp.is (.pointer (some ⟨gb, k * 33, none⟩)), Sp.is (.agg (enC e)), Sp.is (.slice (some ⟨bl, ol, none⟩) N c), Sp.is (.int .i64 (k : Int)), Sp.is (.pointer (some ⟨bl, ol + k * 33, none⟩)), Sp.is (.agg (enC e)), Sp.is (.bool true), Sp.is (.bool false), Sp.is (.bool false), Sp.is (.bool false), Sp.is (.int .i64 (k : Int)), Sp.is (.slice (some ⟨bl, ol, none⟩) N c), Sp.is (.int .i64 (N : Int)), Sp.is (.bool false), Sp.is (.bool false), Sp.is undef, Sp.is undef, Sp.is undef, Sp.is undef, Sp.is undef, Sp.is undef, Sp.is undef, Sp.is undef, Sp.is undef, Sp.is undef, Sp.is undef, Sp.is (.bool false)] [false, false, false, false, false, false, false, false, false, false, false, false, false, false, false, false, false, false, false, false, false, false, false, false, false, false, false, false, false, false, false, false, false, false] 34 (by kernel_rfl) (by kernel_rfl) (fun u F hF => ?_) (fun u w' hbF hsF hold hap => ?_)
        case refine_1 =>
          have E6 : F.eval (.tmp 6) = (.int .i64 (k : Int)) := (congrArg (fun a => Act.eval a (.tmp 6)) hF).trans (eval_out _ 0 _ (by decide))
          have E1 : F.eval (.tmp 1) = (.slice (some ⟨bl, ol, none⟩) N c) := (congrArg (fun a => Act.eval a (.tmp 1)) hF).trans (eval_out _ 0 _ (by decide))
          have D24 : F.eval (.tmp 24) = u 1 := (congrArg (fun a => Act.eval a (.tmp 24)) hF).trans (eval_in _ 0 1 _ (by decide) (by omega) rfl (of_decide_eq_true (by kernel_rfl)))
          have D23 : F.eval (.tmp 23) = u 0 := (congrArg (fun a => Act.eval a (.tmp 23)) hF).trans (eval_in _ 0 0 _ (by decide) (by omega) rfl (of_decide_eq_true (by kernel_rfl)))
          have D25 : F.eval (.tmp 25) = u 2 := (congrArg (fun a => Act.eval a (.tmp 25)) hF).trans (eval_in _ 0 2 _ (by decide) (by omega) rfl (of_decide_eq_true (by kernel_rfl)))
          have D26 : F.eval (.tmp 26) = u 3 := (congrArg (fun a => Act.eval a (.tmp 26)) hF).trans (eval_in _ 0 3 _ (by decide) (by omega) rfl (of_decide_eq_true (by kernel_rfl)))
          have E5 : F.eval (.tmp 5) = (.slice (some ⟨gb, 0, none⟩) (N + 12) (N + 12)) := (congrArg (fun a => Act.eval a (.tmp 5)) hF).trans (eval_out _ 0 _ (by decide))
          have D27 : F.eval (.tmp 27) = u 4 := (congrArg (fun a => Act.eval a (.tmp 27)) hF).trans (eval_in _ 0 4 _ (by decide) (by omega) rfl (of_decide_eq_true (by kernel_rfl)))
          have D28 : F.eval (.tmp 28) = u 5 := (congrArg (fun a => Act.eval a (.tmp 28)) hF).trans (eval_in _ 0 5 _ (by decide) (by omega) rfl (of_decide_eq_true (by kernel_rfl)))
          have D29 : F.eval (.tmp 29) = u 6 := (congrArg (fun a => Act.eval a (.tmp 29)) hF).trans (eval_in _ 0 6 _ (by decide) (by omega) rfl (of_decide_eq_true (by kernel_rfl)))
          have D30 : F.eval (.tmp 30) = u 7 := (congrArg (fun a => Act.eval a (.tmp 30)) hF).trans (eval_in _ 0 7 _ (by decide) (by omega) rfl (of_decide_eq_true (by kernel_rfl)))
          have D32 : F.eval (.tmp 32) = u 9 := (congrArg (fun a => Act.eval a (.tmp 32)) hF).trans (eval_in _ 0 9 _ (by decide) (by omega) rfl (of_decide_eq_true (by kernel_rfl)))
          have D33 : F.eval (.tmp 33) = u 10 := (congrArg (fun a => Act.eval a (.tmp 33)) hF).trans (eval_in _ 0 10 _ (by decide) (by omega) rfl (of_decide_eq_true (by kernel_rfl)))
          have D34 : F.eval (.tmp 34) = u 11 := (congrArg (fun a => Act.eval a (.tmp 34)) hF).trans (eval_in _ 0 11 _ (by decide) (by omega) rfl (of_decide_eq_true (by kernel_rfl)))
          have D31 : F.eval (.tmp 31) = u 8 := (congrArg (fun a => Act.eval a (.tmp 31)) hF).trans (eval_in _ 0 8 _ (by decide) (by omega) rfl (of_decide_eq_true (by kernel_rfl)))
          have D35 : F.eval (.tmp 35) = u 12 := (congrArg (fun a => Act.eval a (.tmp 35)) hF).trans (eval_in _ 0 12 _ (by decide) (by omega) rfl (of_decide_eq_true (by kernel_rfl)))
          have D36 : F.eval (.tmp 36) = u 13 := (congrArg (fun a => Act.eval a (.tmp 36)) hF).trans (eval_in _ 0 13 _ (by decide) (by omega) rfl (of_decide_eq_true (by kernel_rfl)))
          have D37 : F.eval (.tmp 37) = u 14 := (congrArg (fun a => Act.eval a (.tmp 37)) hF).trans (eval_in _ 0 14 _ (by decide) (by omega) rfl (of_decide_eq_true (by kernel_rfl)))
          have D38 : F.eval (.tmp 38) = u 15 := (congrArg (fun a => Act.eval a (.tmp 38)) hF).trans (eval_in _ 0 15 _ (by decide) (by omega) rfl (of_decide_eq_true (by kernel_rfl)))
          have D39 : F.eval (.tmp 39) = u 16 := (congrArg (fun a => Act.eval a (.tmp 39)) hF).trans (eval_in _ 0 16 _ (by decide) (by omega) rfl (of_decide_eq_true (by kernel_rfl)))
          have D41 : F.eval (.tmp 41) = u 18 := (congrArg (fun a => Act.eval a (.tmp 41)) hF).trans (eval_in _ 0 18 _ (by decide) (by omega) rfl (of_decide_eq_true (by kernel_rfl)))
          have D40 : F.eval (.tmp 40) = u 17 := (congrArg (fun a => Act.eval a (.tmp 40)) hF).trans (eval_in _ 0 17 _ (by decide) (by omega) rfl (of_decide_eq_true (by kernel_rfl)))
          have D42 : F.eval (.tmp 42) = u 19 := (congrArg (fun a => Act.eval a (.tmp 42)) hF).trans (eval_in _ 0 19 _ (by decide) (by omega) rfl (of_decide_eq_true (by kernel_rfl)))
          have D43 : F.eval (.tmp 43) = u 20 := (congrArg (fun a => Act.eval a (.tmp 43)) hF).trans (eval_in _ 0 20 _ (by decide) (by omega) rfl (of_decide_eq_true (by kernel_rfl)))
          have D44 : F.eval (.tmp 44) = u 21 := (congrArg (fun a => Act.eval a (.tmp 44)) hF).trans (eval_in _ 0 21 _ (by decide) (by omega) rfl (of_decide_eq_true (by kernel_rfl)))
          clear hF
          refine ⟨?_, ?_, ?_, ?_, ?_, ?_, ?_, ?_, ?_, ?_, ?_, ?_, ?_, ?_, ?_, ?_, ?_, ?_, ?_, ?_, ?_, ?_, ?_, ?_, ?_, ?_, ?_, ?_, ?_, ?_, ?_, ?_, ?_, ?_, trivial⟩
          · intro w1 hb hd K hK
            have e6 := E6
            exact op_val (v := (.int .i64 (k : Int))) rfl (by simp only [execOp, List.map_toArray, List.map_cons, List.map_nil, e6]; go_simp) (hK _ _ (show _ = _ from rfl) (Below.refl _ _) (Fresh.no _ _ _))
          · intro w1 hb hd K hK
            have e1 := E1
            exact op_val (v := (.slice (some ⟨bl, ol, none⟩) N c)) rfl (by simp only [execOp, List.map_toArray, List.map_cons, List.map_nil, e1]; go_simp) (hK _ _ (show _ = _ from rfl) (Below.refl _ _) (Fresh.no _ _ _))
          · intro w1 hb hd K hK
            have e24 := D24.trans (show u 1 = _ from hd ⟨1, .data⟩ (by simp) rfl (by omega))
            exact op_val (v := (.int .i64 (N : Int))) rfl (exec_len Tryz.underlying40 rfl e24) (hK _ _ (show _ = _ from rfl) (Below.refl _ _) (Fresh.no _ _ _))
          · intro w1 hb hd K hK
            have e23 := D23.trans (show u 0 = _ from hd ⟨0, .data⟩ (by simp) rfl (by omega))
            have e25 := D25.trans (show u 2 = _ from hd ⟨2, .data⟩ (by simp) rfl (by omega))
            exact op_val (v := (.bool true)) rfl (by simp only [execOp, List.map_toArray, List.map_cons, List.map_nil, e23, e25]; go_simp) (hK _ _ (show _ = _ from rfl) (Below.refl _ _) (Fresh.no _ _ _))
          · intro w1 hb hd K hK
            have e26 := D26.trans (show u 3 = _ from hd ⟨3, .data⟩ (by simp) rfl (by omega))
            exact op_val (v := (.bool true)) rfl (by simp only [execOp, List.map_toArray, List.map_cons, List.map_nil, e26]; go_simp) (hK _ _ (show _ = _ from rfl) (Below.refl _ _) (Fresh.no _ _ _))
          · intro w1 hb hd K hK
            have e5 := E5
            have g := D27.trans (show u 4 = .bool true from hd ⟨4, .guard⟩ (by simp) rfl (by omega))
            exact op_val_w (v := (.slice (some ⟨gb, 0, none⟩) (N + 12) (N + 12))) (wanted_of (j := 4) (s := 27) (b := true) (by kernel_rfl) (by kernel_rfl) g) (by simp only [execOp, List.map_toArray, List.map_cons, List.map_nil, e5]; go_simp) (hK _ _ (show _ = _ from rfl) (Below.refl _ _) (Fresh.no _ _ _))
          · intro w1 hb hd K hK
            have e6 := E6
            have g := D27.trans (show u 4 = .bool true from hd ⟨4, .guard⟩ (by simp) rfl (by omega))
            exact op_val_w (v := (.int .i64 (k : Int))) (wanted_of (j := 4) (s := 27) (b := true) (by kernel_rfl) (by kernel_rfl) g) (by simp only [execOp, List.map_toArray, List.map_cons, List.map_nil, e6]; go_simp) (hK _ _ (show _ = _ from rfl) (Below.refl _ _) (Fresh.no _ _ _))
          · intro w1 hb hd K hK
            have e28 := D28.trans (show u 5 = _ from hd ⟨5, .data⟩ (by simp) rfl (by omega))
            have e29 := D29.trans (show u 6 = _ from hd ⟨6, .data⟩ (by simp) rfl (by omega))
            have g := D27.trans (show u 4 = .bool true from hd ⟨4, .guard⟩ (by simp) rfl (by omega))
            exact op_val_w (v := (.pointer (some ⟨gb, k * 33, none⟩))) (wanted_of (j := 4) (s := 27) (b := true) (by kernel_rfl) (by kernel_rfl) g) (by simp only [execOp, List.map_toArray, List.map_cons, List.map_nil, e28, e29]; go_simp) (hK _ _ (show _ = _ from rfl) (Below.refl _ _) (Fresh.no _ _ _))
          · intro w1 hb hd K hK
            have e30 := D30.trans (show u 7 = _ from hd ⟨7, .data⟩ (by simp) rfl (by omega))
            have g := D27.trans (show u 4 = .bool true from hd ⟨4, .guard⟩ (by simp) rfl (by omega))
            exact op_val_w (v := (.agg (enC e))) (wanted_of (j := 4) (s := 27) (b := true) (by kernel_rfl) (by kernel_rfl) g) (exec_load rfl e30 (LA.out w1 (HW2.out.trans (hb.mono hwle)))) (hK _ _ (show _ = _ from rfl) (Below.refl _ _) (Fresh.no _ _ _))
          · intro w1 hb hd K hK
            have e1 := E1
            have g := D27.trans (show u 4 = .bool true from hd ⟨4, .guard⟩ (by simp) rfl (by omega))
            exact op_val_w (v := (.slice (some ⟨bl, ol, none⟩) N c)) (wanted_of (j := 4) (s := 27) (b := true) (by kernel_rfl) (by kernel_rfl) g) (by simp only [execOp, List.map_toArray, List.map_cons, List.map_nil, e1]; go_simp) (hK _ _ (show _ = _ from rfl) (Below.refl _ _) (Fresh.no _ _ _))
          · intro w1 hb hd K hK
            have e6 := E6
            have g := D27.trans (show u 4 = .bool true from hd ⟨4, .guard⟩ (by simp) rfl (by omega))
            exact op_val_w (v := (.int .i64 (k : Int))) (wanted_of (j := 4) (s := 27) (b := true) (by kernel_rfl) (by kernel_rfl) g) (by simp only [execOp, List.map_toArray, List.map_cons, List.map_nil, e6]; go_simp) (hK _ _ (show _ = _ from rfl) (Below.refl _ _) (Fresh.no _ _ _))
          · intro w1 hb hd K hK
            have e32 := D32.trans (show u 9 = _ from hd ⟨9, .data⟩ (by simp) rfl (by omega))
            have e33 := D33.trans (show u 10 = _ from hd ⟨10, .data⟩ (by simp) rfl (by omega))
            have g := D27.trans (show u 4 = .bool true from hd ⟨4, .guard⟩ (by simp) rfl (by omega))
            exact op_val_w (v := (.pointer (some ⟨bl, ol + k * 33, none⟩))) (wanted_of (j := 4) (s := 27) (b := true) (by kernel_rfl) (by kernel_rfl) g) (by simp only [execOp, List.map_toArray, List.map_cons, List.map_nil, e32, e33]; go_simp) (hK _ _ (show _ = _ from rfl) (Below.refl _ _) (Fresh.no _ _ _))
          · intro w1 hb hd K hK
            have e34 := D34.trans (show u 11 = _ from hd ⟨11, .data⟩ (by simp) rfl (by omega))
            have g := D27.trans (show u 4 = .bool true from hd ⟨4, .guard⟩ (by simp) rfl (by omega))
            exact op_val_w (v := (.agg (enC e))) (wanted_of (j := 4) (s := 27) (b := true) (by kernel_rfl) (by kernel_rfl) g) (exec_load rfl e34 (LB.out w1 (HW2.out.trans (hb.mono hwle)))) (hK _ _ (show _ = _ from rfl) (Below.refl _ _) (Fresh.no _ _ _))
          · intro w1 hb hd K hK
            have e31 := D31.trans (show u 8 = _ from hd ⟨8, .data⟩ (by simp) rfl (by omega))
            have e35 := D35.trans (show u 12 = _ from hd ⟨12, .data⟩ (by simp) rfl (by omega))
            have g := D27.trans (show u 4 = .bool true from hd ⟨4, .guard⟩ (by simp) rfl (by omega))
            exact op_val_w (v := (.bool true)) (wanted_of (j := 4) (s := 27) (b := true) (by kernel_rfl) (by kernel_rfl) g) (exec_bin rfl e31 e35 (by kernel_rfl) (EQ.out w1)) (hK _ _ (show _ = _ from rfl) (Below.refl _ _) (Fresh.no _ _ _))
          · intro w1 hb hd K hK
            have e36 := D36.trans (show u 13 = _ from hd ⟨13, .data⟩ (by simp) rfl (by omega))
            have g := D27.trans (show u 4 = .bool true from hd ⟨4, .guard⟩ (by simp) rfl (by omega))
            exact op_val_w (v := (.bool false)) (wanted_of (j := 4) (s := 27) (b := true) (by kernel_rfl) (by kernel_rfl) g) (by simp only [execOp, List.map_toArray, List.map_cons, List.map_nil, e36]; go_simp) (hK _ _ (show _ = _ from rfl) (Below.refl _ _) (Fresh.no _ _ _))
          · intro w1 hb hd K hK
            have e27 := D27.trans (show u 4 = _ from hd ⟨4, .data⟩ (by simp) rfl (by omega))
            have e37 := D37.trans (show u 14 = _ from hd ⟨14, .data⟩ (by simp) rfl (by omega))
            exact op_val (v := (.bool false)) rfl (by simp only [execOp, List.map_toArray, List.map_cons, List.map_nil, e27, e37]; go_simp) (hK _ _ (show _ = _ from rfl) (Below.refl _ _) (Fresh.no _ _ _))
          · intro w1 hb hd K hK
            have e38 := D38.trans (show u 15 = _ from hd ⟨15, .data⟩ (by simp) rfl (by omega))
            exact op_val (v := (.bool false)) rfl (by simp only [execOp, List.map_toArray, List.map_cons, List.map_nil, e38]; go_simp) (hK _ _ (show _ = _ from rfl) (Below.refl _ _) (Fresh.no _ _ _))
          · intro w1 hb hd K hK
            have e6 := E6
            have g := D39.trans (show u 16 = .bool false from hd ⟨16, .guard⟩ (by simp) rfl (by omega))
            exact op_val_w (v := (.int .i64 (k : Int))) (wanted_of (j := 16) (s := 39) (b := false) (by kernel_rfl) (by kernel_rfl) g) (by simp only [execOp, List.map_toArray, List.map_cons, List.map_nil, e6]; go_simp) (hK _ _ (show _ = _ from rfl) (Below.refl _ _) (Fresh.no _ _ _))
          · intro w1 hb hd K hK
            have e1 := E1
            have g := D39.trans (show u 16 = .bool false from hd ⟨16, .guard⟩ (by simp) rfl (by omega))
            exact op_val_w (v := (.slice (some ⟨bl, ol, none⟩) N c)) (wanted_of (j := 16) (s := 39) (b := false) (by kernel_rfl) (by kernel_rfl) g) (by simp only [execOp, List.map_toArray, List.map_cons, List.map_nil, e1]; go_simp) (hK _ _ (show _ = _ from rfl) (Below.refl _ _) (Fresh.no _ _ _))
          · intro w1 hb hd K hK
            have e41 := D41.trans (show u 18 = _ from hd ⟨18, .data⟩ (by simp) rfl (by omega))
            have g := D39.trans (show u 16 = .bool false from hd ⟨16, .guard⟩ (by simp) rfl (by omega))
            exact op_val_w (v := (.int .i64 (N : Int))) (wanted_of (j := 16) (s := 39) (b := false) (by kernel_rfl) (by kernel_rfl) g) (exec_len Tryz.underlying40 rfl e41) (hK _ _ (show _ = _ from rfl) (Below.refl _ _) (Fresh.no _ _ _))
          · intro w1 hb hd K hK
            have e40 := D40.trans (show u 17 = _ from hd ⟨17, .data⟩ (by simp) rfl (by omega))
            have e42 := D42.trans (show u 19 = _ from hd ⟨19, .data⟩ (by simp) rfl (by omega))
            have g := D39.trans (show u 16 = .bool false from hd ⟨16, .guard⟩ (by simp) rfl (by omega))
            exact op_val_w (v := (.bool false)) (wanted_of (j := 16) (s := 39) (b := false) (by kernel_rfl) (by kernel_rfl) g) (by simp only [execOp, List.map_toArray, List.map_cons, List.map_nil, e40, e42]; go_simp) (hK _ _ (show _ = _ from rfl) (Below.refl _ _) (Fresh.no _ _ _))
          · intro w1 hb hd K hK
            have e43 := D43.trans (show u 20 = _ from hd ⟨20, .data⟩ (by simp) rfl (by omega))
            have g := D39.trans (show u 16 = .bool false from hd ⟨16, .guard⟩ (by simp) rfl (by omega))
            exact op_val_w (v := (.bool false)) (wanted_of (j := 16) (s := 39) (b := false) (by kernel_rfl) (by kernel_rfl) g) (by simp only [execOp, List.map_toArray, List.map_cons, List.map_nil, e43]; go_simp) (hK _ _ (show _ = _ from rfl) (Below.refl _ _) (Fresh.no _ _ _))
          · intro w1 hb hd K hK
            have g := D44.trans (show u 21 = .bool false from hd ⟨21, .guard⟩ (by simp) rfl (by omega))
            exact op_pass (unwanted_of (j := 21) (s := 44) (b := true) (by kernel_rfl) (by kernel_rfl) g) (hK _ _ (show _ = _ from rfl) (Below.refl _ _) (Fresh.no _ _ _))
          · intro w1 hb hd K hK
            have g := D44.trans (show u 21 = .bool false from hd ⟨21, .guard⟩ (by simp) rfl (by omega))
            exact op_pass (unwanted_of (j := 21) (s := 44) (b := true) (by kernel_rfl) (by kernel_rfl) g) (hK _ _ (show _ = _ from rfl) (Below.refl _ _) (Fresh.no _ _ _))
          · intro w1 hb hd K hK
            have g := D44.trans (show u 21 = .bool false from hd ⟨21, .guard⟩ (by simp) rfl (by omega))
            exact op_pass (unwanted_of (j := 21) (s := 44) (b := true) (by kernel_rfl) (by kernel_rfl) g) (hK _ _ (show _ = _ from rfl) (Below.refl _ _) (Fresh.no _ _ _))
          · intro w1 hb hd K hK
            have g := D44.trans (show u 21 = .bool false from hd ⟨21, .guard⟩ (by simp) rfl (by omega))
            exact op_pass (unwanted_of (j := 21) (s := 44) (b := true) (by kernel_rfl) (by kernel_rfl) g) (hK _ _ (show _ = _ from rfl) (Below.refl _ _) (Fresh.no _ _ _))
          · intro w1 hb hd K hK
            have g := D44.trans (show u 21 = .bool false from hd ⟨21, .guard⟩ (by simp) rfl (by omega))
            exact op_pass (unwanted_of (j := 21) (s := 44) (b := true) (by kernel_rfl) (by kernel_rfl) g) (hK _ _ (show _ = _ from rfl) (Below.refl _ _) (Fresh.no _ _ _))
          · intro w1 hb hd K hK
            have g := D44.trans (show u 21 = .bool false from hd ⟨21, .guard⟩ (by simp) rfl (by omega))
            exact op_pass (unwanted_of (j := 21) (s := 44) (b := true) (by kernel_rfl) (by kernel_rfl) g) (hK _ _ (show _ = _ from rfl) (Below.refl _ _) (Fresh.no _ _ _))
          · intro w1 hb hd K hK
            have g := D44.trans (show u 21 = .bool false from hd ⟨21, .guard⟩ (by simp) rfl (by omega))
            exact op_pass (unwanted_of (j := 21) (s := 44) (b := true) (by kernel_rfl) (by kernel_rfl) g) (hK _ _ (show _ = _ from rfl) (Below.refl _ _) (Fresh.no _ _ _))
          · intro w1 hb hd K hK
            have g := D44.trans (show u 21 = .bool false from hd ⟨21, .guard⟩ (by simp) rfl (by omega))
            exact op_pass (unwanted_of (j := 21) (s := 44) (b := true) (by kernel_rfl) (by kernel_rfl) g) (hK _ _ (show _ = _ from rfl) (Below.refl _ _) (Fresh.no _ _ _))
          · intro w1 hb hd K hK
            have g := D44.trans (show u 21 = .bool false from hd ⟨21, .guard⟩ (by simp) rfl (by omega))
            exact op_pass (unwanted_of (j := 21) (s := 44) (b := true) (by kernel_rfl) (by kernel_rfl) g) (hK _ _ (show _ = _ from rfl) (Below.refl _ _) (Fresh.no _ _ _))
          · intro w1 hb hd K hK
            have g := D44.trans (show u 21 = .bool false from hd ⟨21, .guard⟩ (by simp) rfl (by omega))
            exact op_pass (unwanted_of (j := 21) (s := 44) (b := true) (by kernel_rfl) (by kernel_rfl) g) (hK _ _ (show _ = _ from rfl) (Below.refl _ _) (Fresh.no _ _ _))
          · intro w1 hb hd K hK
            have g := D44.trans (show u 21 = .bool false from hd ⟨21, .guard⟩ (by simp) rfl (by omega))
            exact op_pass (unwanted_of (j := 21) (s := 44) (b := true) (by kernel_rfl) (by kernel_rfl) g) (hK _ _ (show _ = _ from rfl) (Below.refl _ _) (Fresh.no _ _ _))
          · intro w1 hb hd K hK
            have e44 := D44.trans (show u 21 = _ from hd ⟨21, .data⟩ (by simp) rfl (by omega))
            have g := D39.trans (show u 16 = .bool false from hd ⟨16, .guard⟩ (by simp) rfl (by omega))
            exact op_val_w (v := (.bool false)) (wanted_of (j := 16) (s := 39) (b := false) (by kernel_rfl) (by kernel_rfl) g) (by simp only [execOp, List.map_toArray, List.map_cons, List.map_nil, e44]; go_simp) (hK _ _ (show _ = _ from rfl) (Below.refl _ _) (Fresh.no _ _ _))
        have hv23 : u 0 = (.int .i64 (k : Int)) := (show u 0 = _ from hsF 0 (by omega) (by omega))
        have hv24 : u 1 = (.slice (some ⟨bl, ol, none⟩) N c) := (show u 1 = _ from hsF 1 (by omega) (by omega))
        have hv25 : u 2 = (.int .i64 (N : Int)) := (show u 2 = _ from hsF 2 (by omega) (by omega))
        have hv26 : u 3 = (.bool true) := (show u 3 = _ from hsF 3 (by omega) (by omega))
        have hv27 : u 4 = (.bool true) := (show u 4 = _ from hsF 4 (by omega) (by omega))
        have hv28 : u 5 = (.slice (some ⟨gb, 0, none⟩) (N + 12) (N + 12)) := (show u 5 = _ from hsF 5 (by omega) (by omega))
        have hv29 : u 6 = (.int .i64 (k : Int)) := (show u 6 = _ from hsF 6 (by omega) (by omega))
        have hv30 : u 7 = (.pointer (some ⟨gb, k * 33, none⟩)) := (show u 7 = _ from hsF 7 (by omega) (by omega))
        have hv31 : u 8 = (.agg (enC e)) := (show u 8 = _ from hsF 8 (by omega) (by omega))
        have hv32 : u 9 = (.slice (some ⟨bl, ol, none⟩) N c) := (show u 9 = _ from hsF 9 (by omega) (by omega))
        have hv33 : u 10 = (.int .i64 (k : Int)) := (show u 10 = _ from hsF 10 (by omega) (by omega))
        have hv34 : u 11 = (.pointer (some ⟨bl, ol + k * 33, none⟩)) := (show u 11 = _ from hsF 11 (by omega) (by omega))
        have hv35 : u 12 = (.agg (enC e)) := (show u 12 = _ from hsF 12 (by omega) (by omega))
        have hv36 : u 13 = (.bool true) := (show u 13 = _ from hsF 13 (by omega) (by omega))
        have hv37 : u 14 = (.bool false) := (show u 14 = _ from hsF 14 (by omega) (by omega))
        have hv38 : u 15 = (.bool false) := (show u 15 = _ from hsF 15 (by omega) (by omega))
        have hv39 : u 16 = (.bool false) := (show u 16 = _ from hsF 16 (by omega) (by omega))
        have hv40 : u 17 = (.int .i64 (k : Int)) := (show u 17 = _ from hsF 17 (by omega) (by omega))
        have hv41 : u 18 = (.slice (some ⟨bl, ol, none⟩) N c) := (show u 18 = _ from hsF 18 (by omega) (by omega))
        have hv42 : u 19 = (.int .i64 (N : Int)) := (show u 19 = _ from hsF 19 (by omega) (by omega))
        have hv43 : u 20 = (.bool false) := (show u 20 = _ from hsF 20 (by omega) (by omega))
        have hv44 : u 21 = (.bool false) := (show u 21 = _ from hsF 21 (by omega) (by omega))
        have hv45 : u 22 = undef := (show u 22 = _ from hsF 22 (by omega) (by omega))
        have hv46 : u 23 = undef := (show u 23 = _ from hsF 23 (by omega) (by omega))
        have hv47 : u 24 = undef := (show u 24 = _ from hsF 24 (by omega) (by omega))
        have hv48 : u 25 = undef := (show u 25 = _ from hsF 25 (by omega) (by omega))
        have hv49 : u 26 = undef := (show u 26 = _ from hsF 26 (by omega) (by omega))
        have hv50 : u 27 = undef := (show u 27 = _ from hsF 27 (by omega) (by omega))
        have hv51 : u 28 = undef := (show u 28 = _ from hsF 28 (by omega) (by omega))
        have hv52 : u 29 = undef := (show u 29 = _ from hsF 29 (by omega) (by omega))
        have hv53 : u 30 = undef := (show u 30 = _ from hsF 30 (by omega) (by omega))
        have hv54 : u 31 = undef := (show u 31 = _ from hsF 31 (by omega) (by omega))
        have hv55 : u 32 = undef := (show u 32 = _ from hsF 32 (by omega) (by omega))
        have hv56 : u 33 = (.bool false) := (show u 33 = _ from hsF 33 (by omega) (by omega))
        simp only [putRow, hv23, hv24, hv25, hv26, hv27, hv28, hv29, hv30, hv31, hv32, hv33, hv34, hv35, hv36, hv37, hv38, hv39, hv40, hv41, hv42, hv43, hv44, hv45, hv46, hv47, hv48, hv49, hv50, hv51, hv52, hv53, hv54, hv55, hv56, Act.put, List.setIfInBounds_toArray, List.set_cons_succ, List.set_cons_zero]
        clear hsF hold hap hv23 hv24 hv25 hv26 hv27 hv28 hv29 hv30 hv31 hv32 hv33 hv34 hv35 hv36 hv37 hv38 hv39 hv40 hv41 hv42 hv43 hv44 hv45 hv46 hv47 hv48 hv49 hv50 hv51 hv52 hv53 hv54 hv55 hv56
        have HB2 := Lib.hid (HW2.out.trans (hbF.mono hwle))
        clear HW2 hwle hbF
        refine rest_forced 1 (by kernel_rfl) ?_
        simp only [List.drop_succ_cons, List.drop_zero, List.take_succ_cons, List.take_zero]
        go_wp2_with fail
        refine rest_done rfl ?_
        clear W4
        go_wp2_with fail
        go_roundw
        case rel => exact ⟨k + 1, by have := HK.out; omega, by simp, HB2⟩
        case measure => have := HK.out; simp only [intOf]; omega
      · obtain ⟨d, hd⟩ : ∃ d, k - N = d := ⟨_, rfl⟩
        have he2 : (l ++ marksE 1 12)[k]? = some (markE 1 d) := by rw [mark_at (by rw [HN.out]; omega) (by rw [HN.out]; omega), HN.out, hd]
        have hdi : (k : Int) - (N : Int) = (d : Int) := by omega
        have M0 := fun W => markEntry_any 1 d (by omega) (by omega) W
        have M1 := Lib.hid M0
        have ein := markE_in 1 d (by omega) (by omega)
        obtain ⟨e, hE⟩ : ∃ e, markE 1 d = e := ⟨_, rfl⟩
        rw [hE] at M1 he2 ein
        have LA := Lib.hid (fun W (hb : Below w.heap.size w W) => (HG.out W hb).load (o := k * 33) he2 rfl)
        have EQ0 := eql_deep (eq_en e e ein ein)
        rw [(eqEn_iff e e).2 rfl] at EQ0
        have EQ := Lib.hid EQ0
        have wd2 : IntKind.i64.wrap ((k : Int) - (N : Int)) = (d : Int) := by rw [hdi]; exact IntWalk.i64_in _ (by omega)
        have u1 : decide ((k : Int) < (N : Int)) = false := decide_eq_false (by omega)
        have u1b : decide (k < N) = false := decide_eq_false hkn
        have u2 : decide ((N : Int) ≤ (k : Int)) = true := decide_eq_true (by omega)
        have u2b : decide (N ≤ k) = true := decide_eq_true (by omega)
        have HK := Lib.hid hlt
        clear he2 EQ0 ein hkn hlt hk hd hdi hE M0
        go_upto_region 7 with fail
        have HW2 := Lib.hid HB.out.drew
        refine rest_begin (by kernel_rfl) ?_
        obtain ⟨W4, hW4⟩ : ∃ W4, wr.drew = W4 := ⟨_, rfl⟩
        rw [hW4] at HW2 ⊢
        clear hW4 HB
        clear wr
        have hwle : w.heap.size ≤ W4.heap.size := HW2.out.size
        refine rest_flow3 [some 23, some 24, some 25, some 26, some 27, some 28, some 29, some 30, some 31, some 32, some 33, some 34, some 35, some 36, some 37, some 38, some 39, some 40, some 41, some 42, some 43, some 44, some 45, some 46, some 47, some 48, some 49, some 50, some 51, some 52, some 53, some 54, some 55, some 56] [Sp.is (.int .i64 (k : Int)), Sp.is (.slice A N c), Sp.is (.int .i64 (N : Int)), Sp.is (.bool false), Sp.is (.bool false), Sp.is undef, Sp.is undef, Sp.is undef, Sp.is undef, Sp.is undef, Sp.is undef, Sp.is undef, Sp.is undef, Sp.is undef, Sp.is undef, Sp.is (.bool false), Sp.is (.bool false), Sp.is (.int .i64 (k : Int)), Sp.is (.slice A N c), Sp.is (.int .i64 (N : Int)), Sp.is (.bool true), Sp.is (.bool true), Sp.is (.slice (some ⟨gb, 0, none⟩) (N + 12) (N + 12)), Sp.is (.int .i64 (k : Int)), Sp.is (.pointer (some ⟨gb, k * 33, none⟩)), Sp.is (.agg (enC e)), Sp.is (.int .i64 (k : Int)), Sp.is (.slice A N c), Sp.is (.int .i64 (N : Int)), Sp.is (.int .i64 (d : Int)), Sp.is (.agg (enC e)), Sp.is (.bool true), Sp.is (.bool false), Sp.is (.bool false)] [false, false, false, false, false, false, false, false, false, false, false, false, false, false, false, false, false, false, false, false, false, false, false, false, false, false, false, false, false, false, false, false, false, false] 34 (by kernel_rfl) (by kernel_rfl) (fun u F hF => ?_) (fun u w' hbF hsF hold hap => ?_)
        case refine_1 =>
          have E6 : F.eval (.tmp 6) = (.int .i64 (k : Int)) := (congrArg (fun a => Act.eval a (.tmp 6)) hF).trans (eval_out _ 0 _ (by decide))
          have E1 : F.eval (.tmp 1) = (.slice A N c) := (congrArg (fun a => Act.eval a (.tmp 1)) hF).trans (eval_out _ 0 _ (by decide))
          have D24 : F.eval (.tmp 24) = u 1 := (congrArg (fun a => Act.eval a (.tmp 24)) hF).trans (eval_in _ 0 1 _ (by decide) (by omega) rfl (of_decide_eq_true (by kernel_rfl)))
          have D23 : F.eval (.tmp 23) = u 0 := (congrArg (fun a => Act.eval a (.tmp 23)) hF).trans (eval_in _ 0 0 _ (by decide) (by omega) rfl (of_decide_eq_true (by kernel_rfl)))
          have D25 : F.eval (.tmp 25) = u 2 := (congrArg (fun a => Act.eval a (.tmp 25)) hF).trans (eval_in _ 0 2 _ (by decide) (by omega) rfl (of_decide_eq_true (by kernel_rfl)))
          have D26 : F.eval (.tmp 26) = u 3 := (congrArg (fun a => Act.eval a (.tmp 26)) hF).trans (eval_in _ 0 3 _ (by decide) (by omega) rfl (of_decide_eq_true (by kernel_rfl)))
          have D27 : F.eval (.tmp 27) = u 4 := (congrArg (fun a => Act.eval a (.tmp 27)) hF).trans (eval_in _ 0 4 _ (by decide) (by omega) rfl (of_decide_eq_true (by kernel_rfl)))
          have D38 : F.eval (.tmp 38) = u 15 := (congrArg (fun a => Act.eval a (.tmp 38)) hF).trans (eval_in _ 0 15 _ (by decide) (by omega) rfl (of_decide_eq_true (by kernel_rfl)))
          have D39 : F.eval (.tmp 39) = u 16 := (congrArg (fun a => Act.eval a (.tmp 39)) hF).trans (eval_in _ 0 16 _ (by decide) (by omega) rfl (of_decide_eq_true (by kernel_rfl)))
          have D41 : F.eval (.tmp 41) = u 18 := (congrArg (fun a => Act.eval a (.tmp 41)) hF).trans (eval_in _ 0 18 _ (by decide) (by omega) rfl (of_decide_eq_true (by kernel_rfl)))
          have D40 : F.eval (.tmp 40) = u 17 := (congrArg (fun a => Act.eval a (.tmp 40)) hF).trans (eval_in _ 0 17 _ (by decide) (by omega) rfl (of_decide_eq_true (by kernel_rfl)))
          have D42 : F.eval (.tmp 42) = u 19 := (congrArg (fun a => Act.eval a (.tmp 42)) hF).trans (eval_in _ 0 19 _ (by decide) (by omega) rfl (of_decide_eq_true (by kernel_rfl)))
          have D43 : F.eval (.tmp 43) = u 20 := (congrArg (fun a => Act.eval a (.tmp 43)) hF).trans (eval_in _ 0 20 _ (by decide) (by omega) rfl (of_decide_eq_true (by kernel_rfl)))
          have E5 : F.eval (.tmp 5) = (.slice (some ⟨gb, 0, none⟩) (N + 12) (N + 12)) := (congrArg (fun a => Act.eval a (.tmp 5)) hF).trans (eval_out _ 0 _ (by decide))
          have D44 : F.eval (.tmp 44) = u 21 := (congrArg (fun a => Act.eval a (.tmp 44)) hF).trans (eval_in _ 0 21 _ (by decide) (by omega) rfl (of_decide_eq_true (by kernel_rfl)))
          have D45 : F.eval (.tmp 45) = u 22 := (congrArg (fun a => Act.eval a (.tmp 45)) hF).trans (eval_in _ 0 22 _ (by decide) (by omega) rfl (of_decide_eq_true (by kernel_rfl)))
          have D46 : F.eval (.tmp 46) = u 23 := (congrArg (fun a => Act.eval a (.tmp 46)) hF).trans (eval_in _ 0 23 _ (by decide) (by omega) rfl (of_decide_eq_true (by kernel_rfl)))
          have D47 : F.eval (.tmp 47) = u 24 := (congrArg (fun a => Act.eval a (.tmp 47)) hF).trans (eval_in _ 0 24 _ (by decide) (by omega) rfl (of_decide_eq_true (by kernel_rfl)))
          have D50 : F.eval (.tmp 50) = u 27 := (congrArg (fun a => Act.eval a (.tmp 50)) hF).trans (eval_in _ 0 27 _ (by decide) (by omega) rfl (of_decide_eq_true (by kernel_rfl)))
          have D49 : F.eval (.tmp 49) = u 26 := (congrArg (fun a => Act.eval a (.tmp 49)) hF).trans (eval_in _ 0 26 _ (by decide) (by omega) rfl (of_decide_eq_true (by kernel_rfl)))
          have D51 : F.eval (.tmp 51) = u 28 := (congrArg (fun a => Act.eval a (.tmp 51)) hF).trans (eval_in _ 0 28 _ (by decide) (by omega) rfl (of_decide_eq_true (by kernel_rfl)))
          have D52 : F.eval (.tmp 52) = u 29 := (congrArg (fun a => Act.eval a (.tmp 52)) hF).trans (eval_in _ 0 29 _ (by decide) (by omega) rfl (of_decide_eq_true (by kernel_rfl)))
          have D48 : F.eval (.tmp 48) = u 25 := (congrArg (fun a => Act.eval a (.tmp 48)) hF).trans (eval_in _ 0 25 _ (by decide) (by omega) rfl (of_decide_eq_true (by kernel_rfl)))
          have D53 : F.eval (.tmp 53) = u 30 := (congrArg (fun a => Act.eval a (.tmp 53)) hF).trans (eval_in _ 0 30 _ (by decide) (by omega) rfl (of_decide_eq_true (by kernel_rfl)))
          have D54 : F.eval (.tmp 54) = u 31 := (congrArg (fun a => Act.eval a (.tmp 54)) hF).trans (eval_in _ 0 31 _ (by decide) (by omega) rfl (of_decide_eq_true (by kernel_rfl)))
          have D55 : F.eval (.tmp 55) = u 32 := (congrArg (fun a => Act.eval a (.tmp 55)) hF).trans (eval_in _ 0 32 _ (by decide) (by omega) rfl (of_decide_eq_true (by kernel_rfl)))
          clear hF
          refine ⟨?_, ?_, ?_, ?_, ?_, ?_, ?_, ?_, ?_, ?_, ?_, ?_, ?_, ?_, ?_, ?_, ?_, ?_, ?_, ?_, ?_, ?_, ?_, ?_, ?_, ?_, ?_, ?_, ?_, ?_, ?_, ?_, ?_, ?_, trivial⟩
          · intro w1 hb hd K hK
            have e6 := E6
            exact op_val (v := (.int .i64 (k : Int))) rfl (by simp only [execOp, List.map_toArray, List.map_cons, List.map_nil, e6]; go_simp) (hK _ _ (show _ = _ from rfl) (Below.refl _ _) (Fresh.no _ _ _))
          · intro w1 hb hd K hK
            have e1 := E1
            exact op_val (v := (.slice A N c)) rfl (by simp only [execOp, List.map_toArray, List.map_cons, List.map_nil, e1]; go_simp) (hK _ _ (show _ = _ from rfl) (Below.refl _ _) (Fresh.no _ _ _))
          · intro w1 hb hd K hK
            have e24 := D24.trans (show u 1 = _ from hd ⟨1, .data⟩ (by simp) rfl (by omega))
            exact op_val (v := (.int .i64 (N : Int))) rfl (exec_len Tryz.underlying40 rfl e24) (hK _ _ (show _ = _ from rfl) (Below.refl _ _) (Fresh.no _ _ _))
          · intro w1 hb hd K hK
            have e23 := D23.trans (show u 0 = _ from hd ⟨0, .data⟩ (by simp) rfl (by omega))
            have e25 := D25.trans (show u 2 = _ from hd ⟨2, .data⟩ (by simp) rfl (by omega))
            exact op_val (v := (.bool false)) rfl (by simp only [execOp, List.map_toArray, List.map_cons, List.map_nil, e23, e25]; go_simp) (hK _ _ (show _ = _ from rfl) (Below.refl _ _) (Fresh.no _ _ _))
          · intro w1 hb hd K hK
            have e26 := D26.trans (show u 3 = _ from hd ⟨3, .data⟩ (by simp) rfl (by omega))
            exact op_val (v := (.bool false)) rfl (by simp only [execOp, List.map_toArray, List.map_cons, List.map_nil, e26]; go_simp) (hK _ _ (show _ = _ from rfl) (Below.refl _ _) (Fresh.no _ _ _))
          · intro w1 hb hd K hK
            have g := D27.trans (show u 4 = .bool false from hd ⟨4, .guard⟩ (by simp) rfl (by omega))
            exact op_pass (unwanted_of (j := 4) (s := 27) (b := true) (by kernel_rfl) (by kernel_rfl) g) (hK _ _ (show _ = _ from rfl) (Below.refl _ _) (Fresh.no _ _ _))
          · intro w1 hb hd K hK
            have g := D27.trans (show u 4 = .bool false from hd ⟨4, .guard⟩ (by simp) rfl (by omega))
            exact op_pass (unwanted_of (j := 4) (s := 27) (b := true) (by kernel_rfl) (by kernel_rfl) g) (hK _ _ (show _ = _ from rfl) (Below.refl _ _) (Fresh.no _ _ _))
          · intro w1 hb hd K hK
            have g := D27.trans (show u 4 = .bool false from hd ⟨4, .guard⟩ (by simp) rfl (by omega))
            exact op_pass (unwanted_of (j := 4) (s := 27) (b := true) (by kernel_rfl) (by kernel_rfl) g) (hK _ _ (show _ = _ from rfl) (Below.refl _ _) (Fresh.no _ _ _))
          · intro w1 hb hd K hK
            have g := D27.trans (show u 4 = .bool false from hd ⟨4, .guard⟩ (by simp) rfl (by omega))
            exact op_pass (unwanted_of (j := 4) (s := 27) (b := true) (by kernel_rfl) (by kernel_rfl) g) (hK _ _ (show _ = _ from rfl) (Below.refl _ _) (Fresh.no _ _ _))
          · intro w1 hb hd K hK
            have g := D27.trans (show u 4 = .bool false from hd ⟨4, .guard⟩ (by simp) rfl (by omega))
            exact op_pass (unwanted_of (j := 4) (s := 27) (b := true) (by kernel_rfl) (by kernel_rfl) g) (hK _ _ (show _ = _ from rfl) (Below.refl _ _) (Fresh.no _ _ _))
          · intro w1 hb hd K hK
            have g := D27.trans (show u 4 = .bool false from hd ⟨4, .guard⟩ (by simp) rfl (by omega))
            exact op_pass (unwanted_of (j := 4) (s := 27) (b := true) (by kernel_rfl) (by kernel_rfl) g) (hK _ _ (show _ = _ from rfl) (Below.refl _ _) (Fresh.no _ _ _))
          · intro w1 hb hd K hK
            have g := D27.trans (show u 4 = .bool false from hd ⟨4, .guard⟩ (by simp) rfl (by omega))
            exact op_pass (unwanted_of (j := 4) (s := 27) (b := true) (by kernel_rfl) (by kernel_rfl) g) (hK _ _ (show _ = _ from rfl) (Below.refl _ _) (Fresh.no _ _ _))
          · intro w1 hb hd K hK
            have g := D27.trans (show u 4 = .bool false from hd ⟨4, .guard⟩ (by simp) rfl (by omega))
            exact op_pass (unwanted_of (j := 4) (s := 27) (b := true) (by kernel_rfl) (by kernel_rfl) g) (hK _ _ (show _ = _ from rfl) (Below.refl _ _) (Fresh.no _ _ _))
          · intro w1 hb hd K hK
            have g := D27.trans (show u 4 = .bool false from hd ⟨4, .guard⟩ (by simp) rfl (by omega))
            exact op_pass (unwanted_of (j := 4) (s := 27) (b := true) (by kernel_rfl) (by kernel_rfl) g) (hK _ _ (show _ = _ from rfl) (Below.refl _ _) (Fresh.no _ _ _))
          · intro w1 hb hd K hK
            have g := D27.trans (show u 4 = .bool false from hd ⟨4, .guard⟩ (by simp) rfl (by omega))
            exact op_pass (unwanted_of (j := 4) (s := 27) (b := true) (by kernel_rfl) (by kernel_rfl) g) (hK _ _ (show _ = _ from rfl) (Below.refl _ _) (Fresh.no _ _ _))
          · intro w1 hb hd K hK
            have e27 := D27.trans (show u 4 = _ from hd ⟨4, .data⟩ (by simp) rfl (by omega))
            exact op_val (v := (.bool false)) rfl (by simp only [execOp, List.map_toArray, List.map_cons, List.map_nil, e27]; go_simp) (hK _ _ (show _ = _ from rfl) (Below.refl _ _) (Fresh.no _ _ _))
          · intro w1 hb hd K hK
            have e38 := D38.trans (show u 15 = _ from hd ⟨15, .data⟩ (by simp) rfl (by omega))
            exact op_val (v := (.bool false)) rfl (by simp only [execOp, List.map_toArray, List.map_cons, List.map_nil, e38]; go_simp) (hK _ _ (show _ = _ from rfl) (Below.refl _ _) (Fresh.no _ _ _))
          · intro w1 hb hd K hK
            have e6 := E6
            have g := D39.trans (show u 16 = .bool false from hd ⟨16, .guard⟩ (by simp) rfl (by omega))
            exact op_val_w (v := (.int .i64 (k : Int))) (wanted_of (j := 16) (s := 39) (b := false) (by kernel_rfl) (by kernel_rfl) g) (by simp only [execOp, List.map_toArray, List.map_cons, List.map_nil, e6]; go_simp) (hK _ _ (show _ = _ from rfl) (Below.refl _ _) (Fresh.no _ _ _))
          · intro w1 hb hd K hK
            have e1 := E1
            have g := D39.trans (show u 16 = .bool false from hd ⟨16, .guard⟩ (by simp) rfl (by omega))
            exact op_val_w (v := (.slice A N c)) (wanted_of (j := 16) (s := 39) (b := false) (by kernel_rfl) (by kernel_rfl) g) (by simp only [execOp, List.map_toArray, List.map_cons, List.map_nil, e1]; go_simp) (hK _ _ (show _ = _ from rfl) (Below.refl _ _) (Fresh.no _ _ _))
          · intro w1 hb hd K hK
            have e41 := D41.trans (show u 18 = _ from hd ⟨18, .data⟩ (by simp) rfl (by omega))
            have g := D39.trans (show u 16 = .bool false from hd ⟨16, .guard⟩ (by simp) rfl (by omega))
            exact op_val_w (v := (.int .i64 (N : Int))) (wanted_of (j := 16) (s := 39) (b := false) (by kernel_rfl) (by kernel_rfl) g) (exec_len Tryz.underlying40 rfl e41) (hK _ _ (show _ = _ from rfl) (Below.refl _ _) (Fresh.no _ _ _))
          · intro w1 hb hd K hK
            have e40 := D40.trans (show u 17 = _ from hd ⟨17, .data⟩ (by simp) rfl (by omega))
            have e42 := D42.trans (show u 19 = _ from hd ⟨19, .data⟩ (by simp) rfl (by omega))
            have g := D39.trans (show u 16 = .bool false from hd ⟨16, .guard⟩ (by simp) rfl (by omega))
            exact op_val_w (v := (.bool true)) (wanted_of (j := 16) (s := 39) (b := false) (by kernel_rfl) (by kernel_rfl) g) (by simp only [execOp, List.map_toArray, List.map_cons, List.map_nil, e40, e42]; go_simp) (hK _ _ (show _ = _ from rfl) (Below.refl _ _) (Fresh.no _ _ _))
          · intro w1 hb hd K hK
            have e43 := D43.trans (show u 20 = _ from hd ⟨20, .data⟩ (by simp) rfl (by omega))
            have g := D39.trans (show u 16 = .bool false from hd ⟨16, .guard⟩ (by simp) rfl (by omega))
            exact op_val_w (v := (.bool true)) (wanted_of (j := 16) (s := 39) (b := false) (by kernel_rfl) (by kernel_rfl) g) (by simp only [execOp, List.map_toArray, List.map_cons, List.map_nil, e43]; go_simp) (hK _ _ (show _ = _ from rfl) (Below.refl _ _) (Fresh.no _ _ _))
          · intro w1 hb hd K hK
            have e5 := E5
            have g := D44.trans (show u 21 = .bool true from hd ⟨21, .guard⟩ (by simp) rfl (by omega))
            exact op_val_w (v := (.slice (some ⟨gb, 0, none⟩) (N + 12) (N + 12))) (wanted_of (j := 21) (s := 44) (b := true) (by kernel_rfl) (by kernel_rfl) g) (by simp only [execOp, List.map_toArray, List.map_cons, List.map_nil, e5]; go_simp) (hK _ _ (show _ = _ from rfl) (Below.refl _ _) (Fresh.no _ _ _))
          · intro w1 hb hd K hK
            have e6 := E6
            have g := D44.trans (show u 21 = .bool true from hd ⟨21, .guard⟩ (by simp) rfl (by omega))
            exact op_val_w (v := (.int .i64 (k : Int))) (wanted_of (j := 21) (s := 44) (b := true) (by kernel_rfl) (by kernel_rfl) g) (by simp only [execOp, List.map_toArray, List.map_cons, List.map_nil, e6]; go_simp) (hK _ _ (show _ = _ from rfl) (Below.refl _ _) (Fresh.no _ _ _))
          · intro w1 hb hd K hK
            have e45 := D45.trans (show u 22 = _ from hd ⟨22, .data⟩ (by simp) rfl (by omega))
            have e46 := D46.trans (show u 23 = _ from hd ⟨23, .data⟩ (by simp) rfl (by omega))
            have g := D44.trans (show u 21 = .bool true from hd ⟨21, .guard⟩ (by simp) rfl (by omega))
            exact op_val_w (v := (.pointer (some ⟨gb, k * 33, none⟩))) (wanted_of (j := 21) (s := 44) (b := true) (by kernel_rfl) (by kernel_rfl) g) (by simp only [execOp, List.map_toArray, List.map_cons, List.map_nil, e45, e46]; go_simp) (hK _ _ (show _ = _ from rfl) (Below.refl _ _) (Fresh.no _ _ _))
          · intro w1 hb hd K hK
            have e47 := D47.trans (show u 24 = _ from hd ⟨24, .data⟩ (by simp) rfl (by omega))
            have g := D44.trans (show u 21 = .bool true from hd ⟨21, .guard⟩ (by simp) rfl (by omega))
            exact op_val_w (v := (.agg (enC e))) (wanted_of (j := 21) (s := 44) (b := true) (by kernel_rfl) (by kernel_rfl) g) (exec_load rfl e47 (LA.out w1 (HW2.out.trans (hb.mono hwle)))) (hK _ _ (show _ = _ from rfl) (Below.refl _ _) (Fresh.no _ _ _))
          · intro w1 hb hd K hK
            have e6 := E6
            have g := D44.trans (show u 21 = .bool true from hd ⟨21, .guard⟩ (by simp) rfl (by omega))
            exact op_val_w (v := (.int .i64 (k : Int))) (wanted_of (j := 21) (s := 44) (b := true) (by kernel_rfl) (by kernel_rfl) g) (by simp only [execOp, List.map_toArray, List.map_cons, List.map_nil, e6]; go_simp) (hK _ _ (show _ = _ from rfl) (Below.refl _ _) (Fresh.no _ _ _))
          · intro w1 hb hd K hK
            have e1 := E1
            have g := D44.trans (show u 21 = .bool true from hd ⟨21, .guard⟩ (by simp) rfl (by omega))
            exact op_val_w (v := (.slice A N c)) (wanted_of (j := 21) (s := 44) (b := true) (by kernel_rfl) (by kernel_rfl) g) (by simp only [execOp, List.map_toArray, List.map_cons, List.map_nil, e1]; go_simp) (hK _ _ (show _ = _ from rfl) (Below.refl _ _) (Fresh.no _ _ _))
          · intro w1 hb hd K hK
            have e50 := D50.trans (show u 27 = _ from hd ⟨27, .data⟩ (by simp) rfl (by omega))
            have g := D44.trans (show u 21 = .bool true from hd ⟨21, .guard⟩ (by simp) rfl (by omega))
            exact op_val_w (v := (.int .i64 (N : Int))) (wanted_of (j := 21) (s := 44) (b := true) (by kernel_rfl) (by kernel_rfl) g) (exec_len Tryz.underlying40 rfl e50) (hK _ _ (show _ = _ from rfl) (Below.refl _ _) (Fresh.no _ _ _))
          · intro w1 hb hd K hK
            have e49 := D49.trans (show u 26 = _ from hd ⟨26, .data⟩ (by simp) rfl (by omega))
            have e51 := D51.trans (show u 28 = _ from hd ⟨28, .data⟩ (by simp) rfl (by omega))
            have g := D44.trans (show u 21 = .bool true from hd ⟨21, .guard⟩ (by simp) rfl (by omega))
            exact op_val_w (v := (.int .i64 (d : Int))) (wanted_of (j := 21) (s := 44) (b := true) (by kernel_rfl) (by kernel_rfl) g) (by simp only [execOp, List.map_toArray, List.map_cons, List.map_nil, e49, e51]; go_simp) (hK _ _ (show _ = _ from rfl) (Below.refl _ _) (Fresh.no _ _ _))
          · intro w1 hb hd K hK
            have e52 := D52.trans (show u 29 = _ from hd ⟨29, .data⟩ (by simp) rfl (by omega))
            have g := D44.trans (show u 21 = .bool true from hd ⟨21, .guard⟩ (by simp) rfl (by omega))
            refine op_call_w (R := fun v w2 => v = (.agg (enC e)) ∧ Below w1.heap.size w1 w2) (f := 80) (args := #[.int .i64 1, (.int .i64 (d : Int))]) (wanted_of (j := 21) (s := 44) (b := true) (by kernel_rfl) (by kernel_rfl) g) (by simp only [execOp]; go_simp; first | exact eval_get e52 | exact ⟨rfl, eval_get e52⟩ | exact ⟨eval_get e52, rfl⟩ | (simp only [Act.eval] at *; simp_all)) ((M1.out w1).mono fun e w2 hh => ⟨_, hh.1, rfl, hh.2⟩) (fun v w2 hh => hK _ _ hh.1 hh.2 (Fresh.no _ _ _))
          · intro w1 hb hd K hK
            have e48 := D48.trans (show u 25 = _ from hd ⟨25, .data⟩ (by simp) rfl (by omega))
            have e53 := D53.trans (show u 30 = _ from hd ⟨30, .data⟩ (by simp) rfl (by omega))
            have g := D44.trans (show u 21 = .bool true from hd ⟨21, .guard⟩ (by simp) rfl (by omega))
            exact op_val_w (v := (.bool true)) (wanted_of (j := 21) (s := 44) (b := true) (by kernel_rfl) (by kernel_rfl) g) (exec_bin rfl e48 e53 (by kernel_rfl) (EQ.out w1)) (hK _ _ (show _ = _ from rfl) (Below.refl _ _) (Fresh.no _ _ _))
          · intro w1 hb hd K hK
            have e54 := D54.trans (show u 31 = _ from hd ⟨31, .data⟩ (by simp) rfl (by omega))
            have g := D44.trans (show u 21 = .bool true from hd ⟨21, .guard⟩ (by simp) rfl (by omega))
            exact op_val_w (v := (.bool false)) (wanted_of (j := 21) (s := 44) (b := true) (by kernel_rfl) (by kernel_rfl) g) (by simp only [execOp, List.map_toArray, List.map_cons, List.map_nil, e54]; go_simp) (hK _ _ (show _ = _ from rfl) (Below.refl _ _) (Fresh.no _ _ _))
          · intro w1 hb hd K hK
            have e44 := D44.trans (show u 21 = _ from hd ⟨21, .data⟩ (by simp) rfl (by omega))
            have e55 := D55.trans (show u 32 = _ from hd ⟨32, .data⟩ (by simp) rfl (by omega))
            have g := D39.trans (show u 16 = .bool false from hd ⟨16, .guard⟩ (by simp) rfl (by omega))
            exact op_val_w (v := (.bool false)) (wanted_of (j := 16) (s := 39) (b := false) (by kernel_rfl) (by kernel_rfl) g) (by simp only [execOp, List.map_toArray, List.map_cons, List.map_nil, e44, e55]; go_simp) (hK _ _ (show _ = _ from rfl) (Below.refl _ _) (Fresh.no _ _ _))
        have hv23 : u 0 = (.int .i64 (k : Int)) := (show u 0 = _ from hsF 0 (by omega) (by omega))
        have hv24 : u 1 = (.slice A N c) := (show u 1 = _ from hsF 1 (by omega) (by omega))
        have hv25 : u 2 = (.int .i64 (N : Int)) := (show u 2 = _ from hsF 2 (by omega) (by omega))
        have hv26 : u 3 = (.bool false) := (show u 3 = _ from hsF 3 (by omega) (by omega))
        have hv27 : u 4 = (.bool false) := (show u 4 = _ from hsF 4 (by omega) (by omega))
        have hv28 : u 5 = undef := (show u 5 = _ from hsF 5 (by omega) (by omega))
        have hv29 : u 6 = undef := (show u 6 = _ from hsF 6 (by omega) (by omega))
        have hv30 : u 7 = undef := (show u 7 = _ from hsF 7 (by omega) (by omega))
        have hv31 : u 8 = undef := (show u 8 = _ from hsF 8 (by omega) (by omega))
        have hv32 : u 9 = undef := (show u 9 = _ from hsF 9 (by omega) (by omega))
        have hv33 : u 10 = undef := (show u 10 = _ from hsF 10 (by omega) (by omega))
        have hv34 : u 11 = undef := (show u 11 = _ from hsF 11 (by omega) (by omega))
        have hv35 : u 12 = undef := (show u 12 = _ from hsF 12 (by omega) (by omega))
        have hv36 : u 13 = undef := (show u 13 = _ from hsF 13 (by omega) (by omega))
        have hv37 : u 14 = undef := (show u 14 = _ from hsF 14 (by omega) (by omega))
        have hv38 : u 15 = (.bool false) := (show u 15 = _ from hsF 15 (by omega) (by omega))
        have hv39 : u 16 = (.bool false) := (show u 16 = _ from hsF 16 (by omega) (by omega))
        have hv40 : u 17 = (.int .i64 (k : Int)) := (show u 17 = _ from hsF 17 (by omega) (by omega))
        have hv41 : u 18 = (.slice A N c) := (show u 18 = _ from hsF 18 (by omega) (by omega))
        have hv42 : u 19 = (.int .i64 (N : Int)) := (show u 19 = _ from hsF 19 (by omega) (by omega))
        have hv43 : u 20 = (.bool true) := (show u 20 = _ from hsF 20 (by omega) (by omega))
        have hv44 : u 21 = (.bool true) := (show u 21 = _ from hsF 21 (by omega) (by omega))
        have hv45 : u 22 = (.slice (some ⟨gb, 0, none⟩) (N + 12) (N + 12)) := (show u 22 = _ from hsF 22 (by omega) (by omega))
        have hv46 : u 23 = (.int .i64 (k : Int)) := (show u 23 = _ from hsF 23 (by omega) (by omega))
        have hv47 : u 24 = (.pointer (some ⟨gb, k * 33, none⟩)) := (show u 24 = _ from hsF 24 (by omega) (by omega))
        have hv48 : u 25 = (.agg (enC e)) := (show u 25 = _ from hsF 25 (by omega) (by omega))
        have hv49 : u 26 = (.int .i64 (k : Int)) := (show u 26 = _ from hsF 26 (by omega) (by omega))
        have hv50 : u 27 = (.slice A N c) := (show u 27 = _ from hsF 27 (by omega) (by omega))
        have hv51 : u 28 = (.int .i64 (N : Int)) := (show u 28 = _ from hsF 28 (by omega) (by omega))
        have hv52 : u 29 = (.int .i64 (d : Int)) := (show u 29 = _ from hsF 29 (by omega) (by omega))
        have hv53 : u 30 = (.agg (enC e)) := (show u 30 = _ from hsF 30 (by omega) (by omega))
        have hv54 : u 31 = (.bool true) := (show u 31 = _ from hsF 31 (by omega) (by omega))
        have hv55 : u 32 = (.bool false) := (show u 32 = _ from hsF 32 (by omega) (by omega))
        have hv56 : u 33 = (.bool false) := (show u 33 = _ from hsF 33 (by omega) (by omega))
        simp only [putRow, hv23, hv24, hv25, hv26, hv27, hv28, hv29, hv30, hv31, hv32, hv33, hv34, hv35, hv36, hv37, hv38, hv39, hv40, hv41, hv42, hv43, hv44, hv45, hv46, hv47, hv48, hv49, hv50, hv51, hv52, hv53, hv54, hv55, hv56, Act.put, List.setIfInBounds_toArray, List.set_cons_succ, List.set_cons_zero]
        clear hsF hold hap hv23 hv24 hv25 hv26 hv27 hv28 hv29 hv30 hv31 hv32 hv33 hv34 hv35 hv36 hv37 hv38 hv39 hv40 hv41 hv42 hv43 hv44 hv45 hv46 hv47 hv48 hv49 hv50 hv51 hv52 hv53 hv54 hv55 hv56
        have HB2 := Lib.hid (HW2.out.trans (hbF.mono hwle))
        clear HW2 hwle hbF
        refine rest_forced 1 (by kernel_rfl) ?_
        simp only [List.drop_succ_cons, List.drop_zero, List.take_succ_cons, List.take_zero]
        go_wp2_with fail
        refine rest_done rfl ?_
        clear W4
        go_wp2_with fail
        go_roundw
        case rel => exact ⟨k + 1, by have := HK.out; omega, by simp, HB2⟩
        case measure => have := HK.out; simp only [intOf]; omega
    · obtain rfl : k = N + 12 := by omega
      have t1 : decide (((N + 12 : Nat) : Int) < (N : Int) + 12) = false := decide_eq_false (by omega)
      go_wp2
      go_ret
      exact ⟨rfl, HB.out⟩
end Go.Proofs.YtpkmibmombpjpaaGreatDoor
set_option linter.unusedSimpArgs false
namespace Go.Proofs.YtpkmibmombpjpaaGreatDoor
open Go Go.RowKit

theorem AF.far {W W' : World} {B K p : Nat} {V U : Nat → Value} {M N : Nat → List En} (h : AF W B K V U M N) (hG : W.grownBy W' (some p)) (hne : ∀ k b, k < K → Has V U k b → p ≠ b) : AF W' B K V U M N :=
  ⟨fun k hk => (h.v k hk).kept hG (fun b hb e => hne k b hk (.inl hb) (Option.some.inj e)), fun k hk => (h.u k hk).kept hG (fun b hb e => hne k b hk (.inr hb) (Option.some.inj e)), h.ge, h.ne, h.sh⟩
theorem blk_type {W : World} {p : Nat} {T T' : TypeId} {C C' : Array Value} (h : Blk W p T C) (h' : Blk W p T' C') : T = T' := by
  have h1 : W.heap[p]? = _ := h
  have h2 : W.heap[p]? = _ := h'
  rw [h1] at h2
  injection h2 with h2
  injection h2
theorem AF.apart {W : World} {B K p : Nat} {V U : Nat → Value} {M N : Nat → List En} {T : TypeId} {C : Array Value} (h : AF W B K V U M N) (hp : Blk W p T C) (hT : T ≠ 34) : ∀ k b, k < K → Has V U k b → p ≠ b := by
  intro k b hk hh e
  subst e
  rcases hh with hh | hh
  · obtain ⟨D, hD⟩ := (h.v k hk).blk hh
    exact hT (blk_type hp hD)
  · obtain ⟨D, hD⟩ := (h.u k hk).blk hh
    exact hT (blk_type hp hD)
theorem lists_ne : 40 ≠ 34 := by decide
theorem AP.putg {W : World} {g n c i : Nat} {M : List En} (h : AP W (.slice (some ⟨g, 0, none⟩) n c) M) (hi : i < M.length) (e : En) : (Instr.storeAt 34 (.pointer (some ⟨g, i * 33, none⟩)) (.agg (enC e))).run Tryz.prog W = .ok () (W.setCells g (i * 33) (enC e).toList) ∧ AP (W.setCells g (i * 33) (enC e).toList) (.slice (some ⟨g, 0, none⟩) n c) (M.set i e) ∧ W.grownBy (W.setCells g (i * 33) (enC e).toList) (some g) := by
  obtain ⟨g', e1, h1⟩ := h.put hi e
  obtain rfl : g = g' := congrArg Addr.block (Option.some.inj e1)
  exact h1
theorem AP.loadg {W : World} {g n c i : Nat} {M : List En} {e : En} (h : AP W (.slice (some ⟨g, 0, none⟩) n c) M) (hi : M[i]? = some e) : (Instr.loadAt 34 (.pointer (some ⟨g, i * 33, none⟩))).run Tryz.prog W = .ok (.agg (enC e)) W := by
  obtain ⟨g', e1, h1⟩ := h.load hi
  obtain rfl : g = g' := congrArg Addr.block (Option.some.inj e1)
  exact h1
theorem AP.some {W : World} {A : Option Addr} {n c : Nat} {M : List En} (h : AP W (.slice A n c) M) (hn : 0 < M.length) : ∃ g, A = some ⟨g, 0, none⟩ := by
  generalize hv : Value.slice A n c = v at h
  cases h with
  | none_ => simp at hn
  | some_ g c' M T h hc hr =>
    injection hv with e1 e2 e3
    exact ⟨g, e1⟩
/-- While the slices are marked. -/
structure FH (w : World) (B K pl : Nat) (CV : Array Value) (V : Nat → Value) (M : Nat → List En) (W : World) : Prop where
  bl : Blk W pl 40 CV
  cv : ∀ k, k < K → CV[k]? = some (V k)
  af : AF W B K V (fun _ => nilV) M (fun _ => [])
  lo : B ≤ W.heap.size
  below : Below B w W
  oth : ∀ p T C, Blk w p T C → T ≠ 34 → Blk W p T C
theorem FH.keep {w W W' : World} {B K pl : Nat} {CV : Array Value} {V : Nat → Value} {M : Nat → List En} (h : FH w B K pl CV V M W) (hb : Below W.heap.size W W') : FH w B K pl CV V M W' :=
  ⟨h.bl.keep hb h.bl.lt, h.cv, h.af.keep hb, Nat.le_trans h.lo hb.size, h.below.trans (hb.mono h.lo), fun p T C hp hT => (h.oth p T C hp hT).keep hb (h.oth p T C hp hT).lt⟩
theorem FH.at {w W : World} {B K pl k : Nat} {CV : Array Value} {V : Nat → Value} {M : Nat → List En} (h : FH w B K pl CV V M W) (hk : k < K) : ∃ A c, V k = .slice A (M k).length c ∧ W.cell? ⟨pl, k, none⟩ = some (.slice A (M k).length c) ∧ AP W (.slice A (M k).length c) (M k) := by
  obtain ⟨A, c, hA⟩ := (h.af.v k hk).len
  have h1 := h.cv k hk
  have h2 := h.af.v k hk
  rw [hA] at h1 h2
  exact ⟨A, c, hA, h.bl.cell h1, h2⟩
/-- A mark stored. -/
theorem FH.put {w W : World} {B K pl k i g n c : Nat} {CV : Array Value} {V : Nat → Value} {L : Nat → List En} (h : FH w B K pl CV V (stM L k i) W) (hk : k < K) (hi : i < (L k).length) (hv : V k = .slice (some ⟨g, 0, none⟩) n c) :
    (Instr.storeAt 34 (.pointer (some ⟨g, i * 33, none⟩)) (.agg (enC (markE k i)))).run Tryz.prog W = .ok () (W.setCells g (i * 33) (enC (markE k i)).toList) ∧ FH w B K pl CV V (stM L k (i + 1)) (W.setCells g (i * 33) (enC (markE k i)).toList) := by
  have hap := h.af.v k hk
  rw [hv] at hap
  obtain ⟨h1, h2, h3⟩ := hap.putg (i := i) (by rw [stM_len L k i k (by omega)]; exact hi) (markE k i)
  have hob : (V k).ownBlock = some g := by rw [hv]; rfl
  refine ⟨h1, ⟨h.bl.beside lists_ne (h.af.v k hk) hob h3, h.cv, ?_, Nat.le_trans h.lo h3.size, ?_, fun p T C hp hT => (h.oth p T C hp hT).beside hT (h.af.v k hk) hob h3⟩⟩
  · have := h.af.put hk (by rw [hv]; exact h2) hob h3
    rwa [stM_step L hi] at this
  · exact h.below.grown h3 h.lo (fun b hb => by cases hb; exact h.af.ge k g hk (.inl hob))
/-- While something is appended to them. -/
structure FG (w : World) (B K pl pg : Nat) (CV : Array Value) (V U : Nat → Value) (M N : Nat → List En) (G : Array Value) (k : Nat) (X : Nat → List En) (W : World) : Prop where
  bl : Blk W pl 40 CV
  cv : ∀ k, k < K → CV[k]? = some (V k)
  bg : Blk W pg 40 G
  gs : G.size = K
  gu : ∀ j, j < k → G[j]? = some (U j)
  un : ∀ j, j < k → N j = X j
  af : AF W B K V U M N
  lg : w.heap.size ≤ pg
  lw : B ≤ w.heap.size
  lo : B ≤ W.heap.size
  below : Below B w W
  oth : ∀ p T C, Blk w p T C → T ≠ 34 → Blk W p T C
theorem FG.keep {w W W' : World} {B K pl pg k : Nat} {CV G : Array Value} {V U : Nat → Value} {M N X : Nat → List En} (h : FG w B K pl pg CV V U M N G k X W) (hb : Below W.heap.size W W') : FG w B K pl pg CV V U M N G k X W' :=
  ⟨h.bl.keep hb h.bl.lt, h.cv, h.bg.keep hb h.bg.lt, h.gs, h.gu, h.un, h.af.keep hb, h.lg, h.lw, Nat.le_trans h.lo hb.size, h.below.trans (hb.mono h.lo), fun p T C hp hT => (h.oth p T C hp hT).keep hb (h.oth p T C hp hT).lt⟩
theorem FG.at {w W : World} {B K pl pg k j : Nat} {CV G : Array Value} {V U : Nat → Value} {M N X : Nat → List En} (h : FG w B K pl pg CV V U M N G k X W) (hj : j < K) : ∃ A c, V j = .slice A (M j).length c ∧ W.cell? ⟨pl, j, none⟩ = some (.slice A (M j).length c) ∧ AP W (.slice A (M j).length c) (M j) := by
  obtain ⟨A, c, hA⟩ := (h.af.v j hj).len
  have h1 := h.cv j hj
  have h2 := h.af.v j hj
  rw [hA] at h1 h2
  exact ⟨A, c, hA, h.bl.cell h1, h2⟩
theorem FG.gat {w W : World} {B K pl pg k j : Nat} {CV G : Array Value} {V U : Nat → Value} {M N X : Nat → List En} (h : FG w B K pl pg CV V U M N G k X W) (hj : j < k) (hk : k ≤ K) : ∃ A c, W.cell? ⟨pg, j, none⟩ = some (.slice A (X j).length c) ∧ AP W (.slice A (X j).length c) (X j) := by
  obtain ⟨A, c, hA⟩ := (h.af.u j (Nat.lt_of_lt_of_le hj hk)).len
  have h1 := h.gu j hj
  have h2 := h.af.u j (Nat.lt_of_lt_of_le hj hk)
  rw [hA, h.un j hj] at h2
  rw [hA, h.un j hj] at h1
  exact ⟨A, c, h.bg.cell h1, h2⟩
theorem FG.again {w W : World} {B K pl pg k : Nat} {CV G : Array Value} {V U : Nat → Value} {M N X : Nat → List En} (h : FG w B K pl pg CV V U M N G k X W) (X' : Nat → List En) : FG w B K pl pg CV V U M N G 0 X' W :=
  ⟨h.bl, h.cv, h.bg, h.gs, fun j hj => absurd hj (Nat.not_lt_zero j), fun j hj => absurd hj (Nat.not_lt_zero j), h.af, h.lg, h.lw, h.lo, h.below, h.oth⟩
theorem FG.begin {w W : World} {B K pl pg k : Nat} {CV G : Array Value} {V U : Nat → Value} {M N X : Nat → List En} (h : FG w B K pl pg CV V U M N G k X W) (hk : k < K) : FG w B K pl pg CV V (updN U k (V k)) M (updN N k (M k)) G k X W :=
  ⟨h.bl, h.cv, h.bg, h.gs, fun j hj => by rw [updN_other _ _ (by omega)]; exact h.gu j hj, fun j hj => by rw [updN_other _ _ (by omega)]; exact h.un j hj, h.af.start hk, h.lg, h.lw, h.lo, h.below, h.oth⟩
theorem FG.grow {w W W' : World} {B K pl pg k : Nat} {CV G : Array Value} {V U : Nat → Value} {M N X : Nat → List En} {u' : Value} {Y : List En} (h : FG w B K pl pg CV V U M N G k X W) (hk : k < K) (hu : AP W' u' (N k ++ Y)) (hg : GA W W' (U k) u') : FG w B K pl pg CV V (updN U k u') M (updN N k (N k ++ Y)) G k X W' := by
  have hb : Below B W W' := hg.below h.lo (fun b hb => h.af.ge k b hk (.inr hb))
  exact ⟨h.bl.besideG lists_ne (h.af.u k hk) hg, h.cv, h.bg.besideG lists_ne (h.af.u k hk) hg, h.gs, fun j hj => by rw [updN_other _ _ (by omega)]; exact h.gu j hj, fun j hj => by rw [updN_other _ _ (by omega)]; exact h.un j hj, h.af.grow hk h.lo hu hg, h.lg, h.lw, Nat.le_trans h.lo hb.size, h.below.trans hb, fun p T C hp hT => (h.oth p T C hp hT).besideG hT (h.af.u k hk) hg⟩
/-- The longer slice stored. -/
theorem FG.fix {w W : World} {B K pl pg k : Nat} {CV G : Array Value} {V U : Nat → Value} {M N X : Nat → List En} {u : Value} (h : FG w B K pl pg CV V U M N G k X W) (hk : k < K) (hne : pl ≠ pg) (hu : U k = u) (hX : N k = X k) : FG w B K pl pg CV V U M N (G.setIfInBounds k u) (k + 1) X (W.setCell ⟨pg, k, none⟩ u) := by
  have hg : W.grownBy (W.setCell ⟨pg, k, none⟩ u) (some pg) := ⟨rfl, rfl, rfl, by simp, fun j hj hne => Below.heap_setCell _ _ _ _ (by
      show j ≠ pg
      exact fun e => hne (by rw [e]))⟩
  refine ⟨h.bl.other hne k u, h.cv, h.bg.set k u, by rw [Array.size_setIfInBounds]; exact h.gs, fun j hj => ?_, fun j hj => ?_, h.af.far hg (h.af.apart h.bg lists_ne), h.lg, h.lw, by simpa using h.lo, h.below.setCell (p := ⟨pg, k, none⟩) (Nat.le_trans h.lw h.lg) u, fun p T C hp hT => (h.oth p T C hp hT).other (fun e => by have := hp.lt; have := h.lg; omega) k u⟩
  · by_cases e : j = k
    · subst e
      rw [Array.getElem?_setIfInBounds_self_of_lt (by rw [h.gs]; exact hk), hu]
    · rw [Array.getElem?_setIfInBounds_ne (fun e2 => e e2.symm)]
      exact h.gu j (by omega)
  · by_cases e : j = k
    · subst e; exact hX
    · exact h.un j (by omega)
/-- A slice of its own, beside them. -/
structure FM (w : World) (B K pl pg : Nat) (CV : Array Value) (V U : Nat → Value) (M N : Nat → List En) (G : Array Value) (k : Nat) (X : Nat → List En) (g2 c2 : Nat) (Y : List En) (W : World) : Prop where
  fg : FG w B K pl pg CV V U M N G k X W
  ap : AP W (.slice (some ⟨g2, 0, none⟩) Y.length c2) Y
  ne : ∀ k b, k < K → Has V U k b → g2 ≠ b
  lo : B ≤ g2
theorem FM.keep {w W W' : World} {B K pl pg k g2 c2 : Nat} {CV G : Array Value} {V U : Nat → Value} {M N X : Nat → List En} {Y : List En} (h : FM w B K pl pg CV V U M N G k X g2 c2 Y W) (hb : Below W.heap.size W W') : FM w B K pl pg CV V U M N G k X g2 c2 Y W' :=
  ⟨h.fg.keep hb, h.ap.keep hb, h.ne, h.lo⟩
theorem FM.put {w W : World} {B K pl pg k g2 c2 i n : Nat} {CV G : Array Value} {V U : Nat → Value} {M N X : Nat → List En} {Y : List En} (h : FM w B K pl pg CV V U M N G k X g2 c2 Y W) (hn : Y.length = n) (hi : i < n) (e : En) :
    (Instr.storeAt 34 (.pointer (some ⟨g2, i * 33, none⟩)) (.agg (enC e))).run Tryz.prog W = .ok () (W.setCells g2 (i * 33) (enC e).toList) ∧ FM w B K pl pg CV V U M N G k X g2 c2 (Y.set i e) (W.setCells g2 (i * 33) (enC e).toList) := by
  subst hn
  obtain ⟨h1, h2, h3⟩ := h.ap.putg hi e
  have hb : Below B W (W.setCells g2 (i * 33) (enC e).toList) := (Below.refl B W).grown h3 h.fg.lo (fun b hb => by cases hb; exact h.lo)
  refine ⟨h1, ⟨⟨h.fg.bl.beside lists_ne h.ap rfl h3, h.fg.cv, h.fg.bg.beside lists_ne h.ap rfl h3, h.fg.gs, h.fg.gu, h.fg.un, h.fg.af.far h3 h.ne, h.fg.lg, h.fg.lw, Nat.le_trans h.fg.lo hb.size, h.fg.below.trans hb, fun p T C hp hT => (h.fg.oth p T C hp hT).beside hT h.ap rfl h3⟩, ?_, h.ne, h.lo⟩⟩
  rw [List.length_set]
  exact h2
/-- A block made anew. -/
theorem FG.made {w W : World} {B K pl pg k n : Nat} {CV G : Array Value} {V U : Nat → Value} {M N X : Nat → List En} {Y : List En} (h : FG w B K pl pg CV V U M N G k X W) (C : Array Value) (hC : C = (flat enC Y).toArray) (hn : Y.length = n) : FM w B K pl pg CV V U M N G k X W.heap.size n Y (W.alloc (.cells C 34)) := by
  subst hn
  subst hC
  refine ⟨h.keep (below1 W _), .some_ _ _ Y [] ?_ (Nat.le_refl _) (by omega), fun j b hj hh e => ?_, h.lo⟩
  · unfold EB
    rw [List.append_nil]
    exact Blk.new W _ _
  · subst e
    rcases hh with hh | hh
    · exact absurd ((h.af.v j hj).lt hh) (Nat.lt_irrefl _)
    · exact absurd ((h.af.u j hj).lt hh) (Nat.lt_irrefl _)
theorem FH.more {w W : World} {B K pl : Nat} {CV : Array Value} {V : Nat → Value} {M : Nat → List En} (h : FH w B K pl CV V M W) (hw : w.heap.size ≤ W.heap.size) (hB : B ≤ w.heap.size) (G : Array Value) (hG : G.size = K) (X : Nat → List En) : FG w B K pl W.heap.size CV V (fun _ => nilV) M (fun _ => []) G 0 X (W.alloc (.cells G 40)) :=
  ⟨h.bl.alloc _, h.cv, Blk.new W _ _, hG, fun j hj => absurd hj (Nat.not_lt_zero j), fun j hj => absurd hj (Nat.not_lt_zero j), h.af.keep (below1 W _), hw, hB, Nat.le_trans h.lo (below1 W _).size, h.below.trans ((below1 W _).mono h.lo), fun p T C hp hT => (h.oth p T C hp hT).alloc _⟩
/-- make of a slice. -/
theorem op_make {ops : Array Oper} {rest : List Oper} {o : Oper} {a : Act} {Q : Exit → Act → World → Prop} {w : World} (hg : o.guard = none) (l c : Operand) {t e : TypeId} (ho : o.op = .makeSlice t l c) {i : TypeInfo} {z : Value} (ht : Tryz.prog.underlying t = some (.slice e)) (hi : Tryz.prog.info? e = some i) (hz : i.zero = some z) (n : Nat) (hl : a.eval l = .int .i64 (n : Int)) (hc : a.eval c = .int .i64 (n : Int)) (hn : n * i.size ≤ 16777216) (hb : i.bytes * n ≤ 281474976710656) (h63 : n ≤ 1000000)
    (h : wpList Tryz.prog ops Q rest (a.put o.dst (.slice (some ⟨w.heap.size, 0, none⟩) n n)) (w.alloc (.cells (madeCells z.cells (n * i.size)) e))) : wpList Tryz.prog ops Q (o :: rest) a w := by
  have hr := run_makeSlice (P := Tryz.prog) w t e i z ht hi hz .i64 .i64 (n : Int) (n : Int) (by omega) (by omega) (by simpa using hn) (by
    have : (i.bytes : Int) * (n : Int) = ((i.bytes * n : Nat) : Int) := by simp
    rw [this]; omega) (by omega)
  simp only [Int.toNat_natCast] at hr
  refine wpList_plain hg fun K hK => ?_
  unfold Oper.wp
  have he : (execOp a.eval o).run Tryz.prog w = .ok (.value (.slice (some ⟨w.heap.size, 0, none⟩) n n)) (w.alloc (.cells (madeCells z.cells (n * i.size)) e)) := by
    simp only [execOp, ho, hl, hc, Sem.run_bind, hr, Result.andThen_ok, Sem.run_pure]
  rw [he, Oper.upon_value]
  exact hK _ _ h
end Go.Proofs.YtpkmibmombpjpaaGreatDoor
set_option linter.unusedSimpArgs false
namespace Go.Proofs.YtpkmibmombpjpaaGreatDoor
open Go Go.RowKit

theorem info_parts_list : ∃ i, Tryz.prog.info? 40 = some i ∧ i.zero = some (.slice none 0 0) ∧ i.size = 1 ∧ i.bytes = 24 := by
  have h : (Tryz.prog.info? 40).map (fun i => (i.zero, i.size, i.bytes)) = some (some (.slice none 0 0), 1, 24) := by kernel_rfl
  cases hi : Tryz.prog.info? 40 with
  | none => rw [hi] at h; cases h
  | some i =>
    rw [hi] at h
    simp only [Option.map_some, Option.some.injEq, Prod.mk.injEq] at h
    exact ⟨i, rfl, h.1, h.2.1, h.2.2⟩
theorem info_parts_zero : ∃ i, Tryz.prog.info? 34 = some i ∧ i.zero = some (.agg (enC zE)) ∧ i.size = 33 ∧ i.bytes = 152 := by
  have h : (Tryz.prog.info? 34).map (fun i => (i.zero, i.size, i.bytes)) = some (some (.agg (enC zE)), 33, 152) := by rw [zE_lit]; kernel_rfl
  cases hi : Tryz.prog.info? 34 with
  | none => rw [hi] at h; cases h
  | some i =>
    rw [hi] at h
    simp only [Option.map_some, Option.some.injEq, Prod.mk.injEq] at h
    exact ⟨i, rfl, h.1, h.2.1, h.2.2⟩
theorem zero_rows (n : Nat) : madeCells (enC zE) (n * 33) = (flat enC (List.replicate n zE)).toArray := by
  apply Array.ext_getElem?
  intro j
  have h0 : ((flat enC (List.replicate n zE)).toArray)[j]? = (flat enC (List.replicate n zE))[j]? := by simp
  rw [h0]
  by_cases hj : j < n * 33
  · obtain ⟨v, hv⟩ : ∃ v, (enC zE)[j % 33]? = some v := ⟨_, Array.getElem?_eq_getElem (by rw [enC_size]; omega)⟩
    have h1 := flat_at (enc := enC) (sz := 33) enC_size (List.replicate n zE) (j / 33) zE (by rw [List.getElem?_replicate, if_pos (by omega)]) (j % 33) v hv
    rw [show j / 33 * 33 + j % 33 = j by omega] at h1
    rw [h1]
    unfold madeCells
    rw [Array.getElem?_map, Array.getElem?_range, if_pos hj]
    simp only [Option.map_some, enC_size]
    rw [getElem!_def, hv]
  · have h1 : (flat enC (List.replicate n zE))[j]? = none := List.getElem?_eq_none (by rw [flat_l, List.length_replicate]; omega)
    have h2 : (madeCells (enC zE) (n * 33))[j]? = none := Array.getElem?_eq_none (by rw [size_madeCells]; omega)
    rw [h1, h2]
/-- The marks of all slices. -/
def mkM (L : Nat → List En) : Nat → List En := fun j => marksE j (L j).length
def mk2 (L : Nat → List En) : Nat → List En := fun j => marksE j ((L j).length + 64)
def mk3 (L : Nat → List En) (K : Nat) : Nat → List En := fun j => marksE j (L j).length ++ marksE (j + K) 64
theorem FH.congr {w W : World} {B K pl : Nat} {CV : Array Value} {V : Nat → Value} {M M' : Nat → List En} (h : FH w B K pl CV V M W) (hM : ∀ k, k < K → M' k = M k) : FH w B K pl CV V M' W :=
  ⟨h.bl, h.cv, h.af.congr hM (fun _ _ => rfl), h.lo, h.below, h.oth⟩
theorem FH.drew {w W : World} {B K pl : Nat} {CV : Array Value} {V : Nat → Value} {M : Nat → List En} (h : FH w B K pl CV V M W) : FH w B K pl CV V M W.drew := h.keep (Below.refl _ W).drew
theorem FG.drew {w W : World} {B K pl pg k : Nat} {CV G : Array Value} {V U : Nat → Value} {M N X : Nat → List En} (h : FG w B K pl pg CV V U M N G k X W) : FG w B K pl pg CV V U M N G k X W.drew := h.keep (Below.refl _ W).drew
theorem mk3_at {L : Nat → List En} {K k i n : Nat} (hn : (L k).length = n) (h : i < n) : (mk3 L K k)[i]? = some (markE k i) := by
  unfold mk3
  rw [hn, List.getElem?_append_left (by rw [marksE_len]; exact h)]
  exact marksE_at h
set_option maxRecDepth 100000 in
set_option maxHeartbeats 40000000 in
theorem flat_any (Kn : Nat) (hK : Kn ≤ 100) (V : Nat → Value) (L : Nat → List En) (hL : ∀ k, (L k).length ≤ 1000) (B pl cl : Nat) (CV : Array Value) (w : World) (h : FH w B Kn pl CV V L w) (hB : B ≤ w.heap.size) : Calls Tryz.prog 122 #[.slice (some ⟨pl, 0, none⟩) Kn cl] w (fun r w' => r = .returned (.bool true) ∧ Below B w w' ∧ ∀ p T C, Blk w p T C → T ≠ 34 → Blk w' p T C) := by
  obtain ⟨il, hil, hzl, hsl, hbl⟩ := info_parts_list
  obtain ⟨ie, hie, hze, hse, hbe⟩ := info_parts_zero
  have HL := Lib.hid hL
  have HB := Lib.hid hB
  have H0 : Hid (FH w B Kn pl CV V (stM L 0 0) w) := Lib.hid (by rw [stM_zero]; exact h)
  clear hL hB h
  go_enter Tryz.func122, Tryz.ntmps122
  go_wp2_with fail
  go_loopw [3] (fun s3 wr => ∃ k : Nat, k ≤ Kn ∧ s3 = .int .i64 (k : Int) ∧ Hid (FH w B Kn pl CV V (stM L k 0) wr)) (fun s3 _ => Kn - (intOf s3).toNat)
  case atStart => exact ⟨0, Nat.zero_le _, rfl, H0⟩
  case round =>
  clear H0
  obtain ⟨k, hk, rfl, H1⟩ := hrel
  have e1 : IntKind.i64.wrap ((k : Int) + 1) = (k : Int) + 1 := IntWalk.i64_in _ (by omega)
  by_cases hlt : k < Kn
  · have u1 : decide ((k : Int) < (Kn : Int)) = true := decide_eq_true (by omega)
    obtain ⟨A, c, hA, -, -⟩ := H1.out.at hlt
    rw [stM_len L k 0 k (Nat.zero_le _)] at hA
    have hn1 := HL.out k
    obtain ⟨n, hn⟩ : ∃ n, (L k).length = n := ⟨_, rfl⟩
    rw [hn] at hA hn1
    have HN := Lib.hid hn
    have HA := Lib.hid hA
    have HX : Hid (∀ i W, i ≤ n → FH w B Kn pl CV V (stM L k i) W → W.cell? ⟨pl, k, none⟩ = some (.slice A n c)) := Lib.hid (fun i W hi hW => by
      obtain ⟨A', c', hA', x, -⟩ := hW.at hlt
      rw [stM_len L k i k (by rw [hn]; exact hi), hn] at hA' x
      rw [hA] at hA'
      injection hA' with a1 a2 a3
      rw [a1, a3]
      exact x)
    have j0 : (0 : Int) ≤ (k : Int) := by omega
    have j1 : (k : Int) < (Kn : Int) := by omega
    have j3 : ¬ (Kn : Int) ≤ (k : Int) := by omega
    have j6 : ¬ Kn ≤ k := by omega
    have HK := Lib.hid hlt
    have hk2 : k ≤ 1000 := by omega
    clear hn hA hlt hk
    go_wp2_with fail
    go_loopw [4] (fun s4 wr => ∃ i : Nat, i ≤ n ∧ s4 = .int .i64 (i : Int) ∧ Hid (FH w B Kn pl CV V (stM L k i) wr)) (fun s4 _ => n - (intOf s4).toNat)
    case atStart => exact ⟨0, Nat.zero_le _, rfl, H1⟩
    case round =>
    clear H1 u1
    obtain ⟨i, hi, rfl, H2⟩ := hrel
    have x1 := HX.out i wr hi H2.out
    have e2 : IntKind.i64.wrap ((i : Int) + 1) = (i : Int) + 1 := IntWalk.i64_in _ (by omega)
    by_cases hlt : i < n
    · have u2 : decide ((i : Int) < (n : Int)) = true := decide_eq_true (by omega)
      have hap := H2.out.af.v k HK.out
      rw [HA.out] at hap
      obtain ⟨ga, rfl⟩ := hap.some (by rw [stM_len L k i k (by rw [HN.out]; exact hi), HN.out]; omega)
      have k0 : (0 : Int) ≤ (i : Int) := by omega
      have k1 : (i : Int) < (n : Int) := by omega
      have k3 : ¬ (n : Int) ≤ (i : Int) := by omega
      have k6 : ¬ n ≤ i := by omega
      have M0 := fun W => markEntry_any k i hk2 (by omega) W
      have M1 := Lib.hid M0
      have HI := Lib.hid hlt
      clear hap hi hlt M0
      go_upto_region 7 with fail
      clear x1 u2
      refine rest_begin (by kernel_rfl) ?_
      have H3 := Lib.hid H2.out.drew
      obtain ⟨W4, hW4⟩ : ∃ W4, wr.drew = W4 := ⟨_, rfl⟩
      rw [hW4] at H3 ⊢
      clear hW4 H2
      clear wr
      refine rest_flow3 [some 31, some 32, some 33, some 34, some 35, some 36, some 37, some 38, some 39] [Sp.is (.slice (some ⟨pl, 0, none⟩) Kn cl), Sp.is (.int .i64 (k : Int)), Sp.is (.pointer (some ⟨pl, k, none⟩)), Sp.is (.slice (some ⟨ga, 0, none⟩) n c), Sp.is (.int .i64 (i : Int)), Sp.is (.int .i64 (k : Int)), Sp.is (.int .i64 (i : Int)), Sp.is (.agg (enC (markE k i))), Sp.is (.pointer (some ⟨ga, i * 33, none⟩))] [false, false, false, false, false, false, false, false, false] 9 (by kernel_rfl) (by kernel_rfl) (fun u F hF => ?_) (fun u w' hbF hsF hold hap => ?_)
      case refine_1 =>
        have E0 : F.eval (.tmp 0) = (.slice (some ⟨pl, 0, none⟩) Kn cl) := (congrArg (fun a => Act.eval a (.tmp 0)) hF).trans (eval_out _ 0 _ (by decide))
        have E3 : F.eval (.tmp 3) = (.int .i64 (k : Int)) := (congrArg (fun a => Act.eval a (.tmp 3)) hF).trans (eval_out _ 0 _ (by decide))
        have D31 : F.eval (.tmp 31) = u 0 := (congrArg (fun a => Act.eval a (.tmp 31)) hF).trans (eval_in _ 0 0 _ (by decide) (by omega) rfl (of_decide_eq_true (by kernel_rfl)))
        have D32 : F.eval (.tmp 32) = u 1 := (congrArg (fun a => Act.eval a (.tmp 32)) hF).trans (eval_in _ 0 1 _ (by decide) (by omega) rfl (of_decide_eq_true (by kernel_rfl)))
        have D33 : F.eval (.tmp 33) = u 2 := (congrArg (fun a => Act.eval a (.tmp 33)) hF).trans (eval_in _ 0 2 _ (by decide) (by omega) rfl (of_decide_eq_true (by kernel_rfl)))
        have E4 : F.eval (.tmp 4) = (.int .i64 (i : Int)) := (congrArg (fun a => Act.eval a (.tmp 4)) hF).trans (eval_out _ 0 _ (by decide))
        have D36 : F.eval (.tmp 36) = u 5 := (congrArg (fun a => Act.eval a (.tmp 36)) hF).trans (eval_in _ 0 5 _ (by decide) (by omega) rfl (of_decide_eq_true (by kernel_rfl)))
        have D37 : F.eval (.tmp 37) = u 6 := (congrArg (fun a => Act.eval a (.tmp 37)) hF).trans (eval_in _ 0 6 _ (by decide) (by omega) rfl (of_decide_eq_true (by kernel_rfl)))
        have D34 : F.eval (.tmp 34) = u 3 := (congrArg (fun a => Act.eval a (.tmp 34)) hF).trans (eval_in _ 0 3 _ (by decide) (by omega) rfl (of_decide_eq_true (by kernel_rfl)))
        have D35 : F.eval (.tmp 35) = u 4 := (congrArg (fun a => Act.eval a (.tmp 35)) hF).trans (eval_in _ 0 4 _ (by decide) (by omega) rfl (of_decide_eq_true (by kernel_rfl)))
        clear hF
        refine ⟨?_, ?_, ?_, ?_, ?_, ?_, ?_, ?_, ?_, trivial⟩
        · intro w1 hb hd K hK
          have e0 := E0
          exact op_val (v := (.slice (some ⟨pl, 0, none⟩) Kn cl)) rfl (by simp only [execOp, List.map_toArray, List.map_cons, List.map_nil, e0]; go_simp) (hK _ _ (show _ = _ from rfl) (Below.refl _ _) (Fresh.no _ _ _))
        · intro w1 hb hd K hK
          have e3 := E3
          exact op_val (v := (.int .i64 (k : Int))) rfl (by simp only [execOp, List.map_toArray, List.map_cons, List.map_nil, e3]; go_simp) (hK _ _ (show _ = _ from rfl) (Below.refl _ _) (Fresh.no _ _ _))
        · intro w1 hb hd K hK
          have e31 := D31.trans (show u 0 = _ from hd ⟨0, .data⟩ (by simp) rfl (by omega))
          have e32 := D32.trans (show u 1 = _ from hd ⟨1, .data⟩ (by simp) rfl (by omega))
          exact op_val (v := (.pointer (some ⟨pl, k, none⟩))) rfl (by simp only [execOp, List.map_toArray, List.map_cons, List.map_nil, e31, e32]; go_simp) (hK _ _ (show _ = _ from rfl) (Below.refl _ _) (Fresh.no _ _ _))
        · intro w1 hb hd K hK
          have e33 := D33.trans (show u 2 = _ from hd ⟨2, .data⟩ (by simp) rfl (by omega))
          have c0 : w1.cell? ⟨pl, k, none⟩ = some (.slice (some ⟨ga, 0, none⟩) n c) := HX.out i w1 (Nat.le_of_lt HI.out) (H3.out.keep hb)
          exact op_val (v := (.slice (some ⟨ga, 0, none⟩) n c)) rfl (by simp only [execOp, e33]; go_simp) (hK _ _ (show _ = _ from rfl) (Below.refl _ _) (Fresh.no _ _ _))
        · intro w1 hb hd K hK
          have e4 := E4
          exact op_val (v := (.int .i64 (i : Int))) rfl (by simp only [execOp, List.map_toArray, List.map_cons, List.map_nil, e4]; go_simp) (hK _ _ (show _ = _ from rfl) (Below.refl _ _) (Fresh.no _ _ _))
        · intro w1 hb hd K hK
          have e3 := E3
          exact op_val (v := (.int .i64 (k : Int))) rfl (by simp only [execOp, List.map_toArray, List.map_cons, List.map_nil, e3]; go_simp) (hK _ _ (show _ = _ from rfl) (Below.refl _ _) (Fresh.no _ _ _))
        · intro w1 hb hd K hK
          have e4 := E4
          exact op_val (v := (.int .i64 (i : Int))) rfl (by simp only [execOp, List.map_toArray, List.map_cons, List.map_nil, e4]; go_simp) (hK _ _ (show _ = _ from rfl) (Below.refl _ _) (Fresh.no _ _ _))
        · intro w1 hb hd K hK
          have e36 := D36.trans (show u 5 = _ from hd ⟨5, .data⟩ (by simp) rfl (by omega))
          have e37 := D37.trans (show u 6 = _ from hd ⟨6, .data⟩ (by simp) rfl (by omega))
          refine op_call (R := fun v w2 => v = (.agg (enC (markE k i))) ∧ Below w1.heap.size w1 w2) (f := 80) (args := #[.int .i64 (k : Int), .int .i64 (i : Int)]) rfl (by simp only [execOp]; go_simp; first | exact ⟨eval_get e36, eval_get e37⟩ | (simp only [Act.eval] at *; simp_all)) ((M1.out w1).mono fun e w2 hh => ⟨_, hh.1, rfl, hh.2⟩) (fun v w2 hh => hK _ _ hh.1 hh.2 (Fresh.no _ _ _))
        · intro w1 hb hd K hK
          have e34 := D34.trans (show u 3 = _ from hd ⟨3, .data⟩ (by simp) rfl (by omega))
          have e35 := D35.trans (show u 4 = _ from hd ⟨4, .data⟩ (by simp) rfl (by omega))
          exact op_val (v := (.pointer (some ⟨ga, i * 33, none⟩))) rfl (by simp only [execOp, List.map_toArray, List.map_cons, List.map_nil, e34, e35]; go_simp) (hK _ _ (show _ = _ from rfl) (Below.refl _ _) (Fresh.no _ _ _))
      have hv31 : u 0 = (.slice (some ⟨pl, 0, none⟩) Kn cl) := (show u 0 = _ from hsF 0 (by omega) (by omega))
      have hv32 : u 1 = (.int .i64 (k : Int)) := (show u 1 = _ from hsF 1 (by omega) (by omega))
      have hv33 : u 2 = (.pointer (some ⟨pl, k, none⟩)) := (show u 2 = _ from hsF 2 (by omega) (by omega))
      have hv34 : u 3 = (.slice (some ⟨ga, 0, none⟩) n c) := (show u 3 = _ from hsF 3 (by omega) (by omega))
      have hv35 : u 4 = (.int .i64 (i : Int)) := (show u 4 = _ from hsF 4 (by omega) (by omega))
      have hv36 : u 5 = (.int .i64 (k : Int)) := (show u 5 = _ from hsF 5 (by omega) (by omega))
      have hv37 : u 6 = (.int .i64 (i : Int)) := (show u 6 = _ from hsF 6 (by omega) (by omega))
      have hv38 : u 7 = (.agg (enC (markE k i))) := (show u 7 = _ from hsF 7 (by omega) (by omega))
      have hv39 : u 8 = (.pointer (some ⟨ga, i * 33, none⟩)) := (show u 8 = _ from hsF 8 (by omega) (by omega))
      simp only [putRow, hv31, hv32, hv33, hv34, hv35, hv36, hv37, hv38, hv39, Act.put, List.setIfInBounds_toArray, List.set_cons_succ, List.set_cons_zero]
      clear hsF hold hap hv31 hv32 hv33 hv34 hv35 hv36 hv37 hv38 hv39
      have H4 := Lib.hid (H3.out.keep hbF)
      clear H3 hbF M1
      obtain ⟨st, h5⟩ := H4.out.put HK.out (by rw [HN.out]; exact HI.out) HA.out
      have H5 := Lib.hid h5
      clear h5
      refine rest_forced 1 (by kernel_rfl) ?_
      simp only [List.drop_succ_cons, List.drop_zero, List.take_succ_cons, List.take_zero]
      go_wp2_with (refine op_store (p := .pointer (some ⟨ga, i * 33, none⟩)) (C := .agg (enC (markE k i))) 34 (.tmp 39) (.tmp 38) rfl rfl rfl rfl rfl st ?_)
      refine rest_done rfl ?_
      clear st H4
      generalize w'.setCells ga (i * 33) (enC (markE k i)).toList = w5 at *
      go_wp2_with fail
      go_roundw
      case rel => exact ⟨i + 1, HI.out, by simp, H5⟩
      case measure => have := HI.out; simp only [intOf]; omega
    · obtain rfl : i = n := by omega
      have u2 : decide ((i : Int) < (i : Int)) = false := decide_eq_false (by omega)
      have H3 : Hid (FH w B Kn pl CV V (stM L (k + 1) 0) wr) := Lib.hid (by
        have h := H2.out
        rw [← HN.out, stM_next] at h
        exact h)
      clear hlt hi
      go_wp2_with fail
      go_roundw
      case rel => exact ⟨k + 1, HK.out, by simp, H3⟩
      case measure => have := HK.out; simp only [intOf]; omega
  have hkK : k = Kn := by omega
  have u1 : decide ((k : Int) < (Kn : Int)) = false := decide_eq_false (by omega)
  have u1b : decide (k < Kn) = false := decide_eq_false (by omega)
  have u1c : Kn ≤ k := by omega
  have H1' : Hid (FH w B Kn pl CV V (mkM L) wr) := Lib.hid (H1.out.congr (fun j hj => by rw [hkK]; exact (stM_all L Kn hj).symm))
  clear hlt hk H1 hkK e1
  go_wp2_with (at_make; refine op_make (t := 43) (e := 40) rfl _ _ rfl Tryz.underlying43 hil hzl Kn rfl rfl (by rw [hsl]; omega) (by rw [hbl]; omega) (by omega) ?_)
  obtain ⟨pg, hpg⟩ : ∃ pg, wr.heap.size = pg := ⟨_, rfl⟩
  have hplg : pl ≠ pg := by have := H1'.out.bl.lt; omega
  have H2 := Lib.hid (H1'.out.more H1'.out.below.size HB.out (madeCells #[Value.slice none 0 0] Kn) (by rw [size_madeCells]) (mk2 L))
  rw [hpg] at H2 ⊢
  have HNE := Lib.hid hplg
  clear H1' hplg hpg u1 u1b u1c
  generalize madeCells #[Value.slice none 0 0] Kn = G0 at *
  generalize wr.alloc (.cells G0 40) = w1 at *
  go_loopw [6] (fun s6 wr => ∃ (k : Nat) (U : Nat → Value) (N : Nat → List En) (G : Array Value), k ≤ Kn ∧ s6 = .int .i64 (k : Int) ∧ Hid (FG w B Kn pl pg CV V U (mkM L) N G k (mk2 L) wr)) (fun s6 _ => Kn - (intOf s6).toNat)
  case atStart => exact ⟨0, _, _, _, Nat.zero_le _, rfl, H2⟩
  case round =>
  clear H2
  obtain ⟨k, U, N, G, hk, rfl, H1⟩ := hrel
  have e1 : IntKind.i64.wrap ((k : Int) + 1) = (k : Int) + 1 := IntWalk.i64_in _ (by omega)
  by_cases hlt : k < Kn
  · have u1 : decide ((k : Int) < (Kn : Int)) = true := decide_eq_true (by omega)
    obtain ⟨A, c, hA, x1, -⟩ := H1.out.at hlt
    have hml : (mkM L k).length = (L k).length := marksE_len _ _
    have hn1 := HL.out k
    obtain ⟨n, hn⟩ : ∃ n, (L k).length = n := ⟨_, rfl⟩
    rw [hml, hn] at hA x1
    rw [hn] at hn1
    have HN := Lib.hid hn
    have HX : Hid (∀ U N G W, FG w B Kn pl pg CV V U (mkM L) N G k (mk2 L) W → W.cell? ⟨pl, k, none⟩ = some (.slice A n c)) := Lib.hid (fun U N G W hW => by
      obtain ⟨A', c', hA', x, -⟩ := hW.at hlt
      rw [hml, hn] at hA' x
      rw [hA] at hA'
      injection hA' with a1 a2 a3
      rw [a1, a3]
      exact x)
    have j0 : (0 : Int) ≤ (k : Int) := by omega
    have j1 : (k : Int) < (Kn : Int) := by omega
    have j3 : ¬ (Kn : Int) ≤ (k : Int) := by omega
    have j6 : ¬ Kn ≤ k := by omega
    have HK := Lib.hid hlt
    have hk2 : k ≤ 1000 := by omega
    have H2 := Lib.hid (H1.out.begin hlt)
    have HUV : Hid (updN U k (V k) k = .slice A n c ∧ updN N k (mkM L k) k = marksE k (n + 0)) := Lib.hid ⟨by rw [updN_same, hA], by rw [updN_same]; unfold mkM; rw [hn]; rfl⟩
    clear hn hA hlt hk hml H1
    go_wp2_with fail
    clear x1 u1
    go_loopw [7, 8] (fun s7 s8 wr => ∃ (i : Nat) (U : Nat → Value) (N : Nat → List En) (A' : Option Addr) (m' c' : Nat), i ≤ 64 ∧ s7 = .slice A' m' c' ∧ s8 = .int .i64 (i : Int) ∧ Hid (U k = .slice A' m' c' ∧ N k = marksE k (n + i)) ∧ Hid (FG w B Kn pl pg CV V U (mkM L) N G k (mk2 L) wr)) (fun _ s8 _ => 64 - (intOf s8).toNat)
    case atStart => exact ⟨0, _, _, _, _, _, Nat.zero_le _, rfl, rfl, HUV, H2⟩
    case round =>
    clear H2 HUV
    obtain ⟨i, U, N, A', m', c', hi, rfl, rfl, HU, H2⟩ := hrel
    by_cases hlt : i < 64
    · have u2 : decide ((i : Int) < 64) = true := decide_eq_true (by omega)
      have e2 : IntKind.i64.wrap ((i : Int) + 1) = (i : Int) + 1 := IntWalk.i64_in _ (by omega)
      have e3 : IntKind.i64.wrap ((n : Int) + (i : Int)) = (n : Int) + (i : Int) := IntWalk.i64_in _ (by omega)
      have x1 := HX.out U N G wr H2.out
      have M0 := fun W => markEntry_any k (n + i) hk2 (by omega) W
      rw [show ((n + i : Nat) : Int) = (n : Int) + (i : Int) by omega] at M0
      have M1 := Lib.hid M0
      have HI := Lib.hid hlt
      clear M0 hlt hi
      go_wp2_with fail
      refine (M1.out _).mono ?_
      rintro r w2 ⟨rfl, hb⟩
      obtain ⟨E, hE⟩ : ∃ E, markE k (n + i) = E := ⟨_, rfl⟩
      rw [hE]
      have hME : marksE k (n + (i + 1)) = marksE k (n + i) ++ [E] := by rw [← Nat.add_assoc, marksE_more, hE]
      have HME := Lib.hid hME
      have H3 := Lib.hid ((H2.out.keep hb).keep (below1 w2 (.cells (flat enC [E]).toArray 34)))
      have HSR := Lib.hid (one_src w2 E)
      have hap := H3.out.af.u k HK.out
      rw [HU.out.1] at hap
      have HAP := Lib.hid hap
      have hNl : (N k).length = n + i := by rw [HU.out.2, marksE_len]
      have hz : n + i + 1 ≤ 1000000 := by have := HI.out; omega
      have hlE : (N k ++ [E]).length = n + i + 1 := by rw [List.length_append, hNl]; rfl
      clear hE hME hb H2 x1 M1 hap
      go_wp2_with (first
        | (refine op_bsl 40 34 1 _ (flat enC [E]).toArray rfl rfl (by kernel_rfl) ?_)
        | (at_builtin; refine op_ap rfl _ _ rfl (.slice A' m' c') (.slice (some ⟨w2.heap.size, 0, none⟩) 1 1) (n + i) 1 (N k) [E] rfl rfl hNl HAP.out rfl HSR.out hz ?_; intro u5 w5 hap5 hga5; obtain ⟨A5, c5, hu5⟩ := hap5.len; rw [hlE] at hu5; subst hu5))
      have H5 := Lib.hid (H3.out.grow HK.out hap5 (by rw [HU.out.1]; exact hga5))
      have HU5 : Hid (updN U k (.slice A5 (n + i + 1) c5) k = .slice A5 (n + i + 1) c5 ∧ updN N k (N k ++ [E]) k = marksE k (n + (i + 1))) := Lib.hid ⟨updN_same _ _ _, by rw [updN_same, HU.out.2, HME.out]⟩
      clear hap5 hga5 H3 HAP HSR hNl hz hlE
      go_wp2_with fail
      go_roundw
      case rel => exact ⟨i + 1, _, _, _, _, _, HI.out, rfl, by simp, HU5, H5⟩
      case measure => have := HI.out; simp only [intOf]; omega
    · obtain rfl : i = 64 := by omega
      have u2 : decide ((64 : Int) < 64) = false := rfl
      rw [show ((64 : Nat) : Int) = 64 from rfl]
      obtain ⟨gv, hgv⟩ : ∃ gv, G[k]? = some gv := ⟨_, Array.getElem?_eq_getElem (by rw [H2.out.gs]; exact HK.out)⟩
      have x2 := H2.out.bg.cell hgv
      have f2 := H2.out.bg.free k
      have H3 := Lib.hid (H2.out.fix HK.out HNE.out HU.out.1 (by rw [HU.out.2]; unfold mk2; rw [HN.out]))
      clear hlt hi hgv H2
      go_wp2_with fail
      clear x2 f2
      generalize wr.setCell ⟨pg, k, none⟩ (.slice A' m' c') = w5 at *
      go_roundw
      case rel => exact ⟨k + 1, _, _, _, HK.out, by simp, H3⟩
      case measure => have := HK.out; simp only [intOf]; omega
  have hkK : k = Kn := by omega
  have u1 : decide ((k : Int) < (Kn : Int)) = false := decide_eq_false (by omega)
  have u1b : decide (k < Kn) = false := decide_eq_false (by omega)
  have u1c : Kn ≤ k := by omega
  have H2 : Hid (FG w B Kn pl pg CV V U (mkM L) N G Kn (mk2 L) wr) := Lib.hid (by have h := H1.out; rw [hkK] at h; exact h)
  clear hlt hk e1 hkK H1
  go_wp2_with fail
  go_loopw [9] (fun s9 wr => ∃ k : Nat, k ≤ Kn ∧ s9 = .int .i64 (k : Int) ∧ Hid (FG w B Kn pl pg CV V U (mkM L) N G Kn (mk2 L) wr)) (fun s9 _ => Kn - (intOf s9).toNat)
  case atStart => exact ⟨0, Nat.zero_le _, rfl, H2⟩
  case round =>
  clear H2 u1 u1b u1c
  obtain ⟨k, hk, rfl, H1⟩ := hrel
  have e1 : IntKind.i64.wrap ((k : Int) + 1) = (k : Int) + 1 := IntWalk.i64_in _ (by omega)
  by_cases hlt : k < Kn
  · have u1 : decide ((k : Int) < (Kn : Int)) = true := decide_eq_true (by omega)
    have hml : (mkM L k).length = (L k).length := marksE_len _ _
    have hxl : (mk2 L k).length = (L k).length + 64 := marksE_len _ _
    have hn1 := HL.out k
    obtain ⟨n, hn⟩ : ∃ n, (L k).length = n := ⟨_, rfl⟩
    rw [hn] at hn1 hml hxl
    have HN := Lib.hid (And.intro hn (And.intro hml hxl))
    have j0 : (0 : Int) ≤ (k : Int) := by omega
    have j1 : (k : Int) < (Kn : Int) := by omega
    have j3 : ¬ (Kn : Int) ≤ (k : Int) := by omega
    have j6 : ¬ Kn ≤ k := by omega
    have HK := Lib.hid hlt
    have hk2 : k ≤ 1000 := by omega
    clear hn hlt hk hml hxl
    go_wp2_with fail
    clear u1
    go_loopw [10] (fun s10 wr => ∃ i : Nat, i ≤ n + 64 ∧ s10 = .int .i64 (i : Int) ∧ Hid (FG w B Kn pl pg CV V U (mkM L) N G Kn (mk2 L) wr)) (fun s10 _ => n + 64 - (intOf s10).toNat)
    case atStart => exact ⟨0, Nat.zero_le _, rfl, H1⟩
    case round =>
    clear H1
    obtain ⟨i, hi, rfl, H2⟩ := hrel
    have e2 : IntKind.i64.wrap ((i : Int) + 1) = (i : Int) + 1 := IntWalk.i64_in _ (by omega)
    obtain ⟨Ag, cg, xg, hag⟩ := H2.out.gat HK.out (Nat.le_refl _)
    rw [HN.out.2.2] at xg hag
    by_cases hlt : i < n + 64
    · have u2 : decide ((i : Int) < (n : Int) + 64) = true := decide_eq_true (by omega)
      have u2b : decide ((i : Int) < ((n + 64 : Nat) : Int)) = true := decide_eq_true (by omega)
      obtain ⟨gg, rfl⟩ := hag.some (by rw [HN.out.2.2]; omega)
      have hX : (mk2 L k)[i]? = some (markE k i) := by
        unfold mk2
        rw [HN.out.1]
        exact marksE_at hlt
      obtain ⟨A, c, hA, x1, hap⟩ := H2.out.at HK.out
      rw [HN.out.2.1] at hA x1 hap
      have k0 : (0 : Int) ≤ (i : Int) := by omega
      have k1 : (i : Int) < ((n + 64 : Nat) : Int) := by omega
      have k1b : (i : Int) < (n : Int) + 64 := by omega
      have k6 : ¬ n + 64 ≤ i := by omega
      have M0 := fun W => markEntry_any k i hk2 (by omega) W
      have ein := markE_in k i hk2 (by omega)
      obtain ⟨e, hE⟩ : ∃ e, markE k i = e := ⟨_, rfl⟩
      rw [hE] at M0 ein hX
      have EQ0 := eql_deep (eq_en e e ein ein)
      rw [(eqEn_iff e e).2 rfl] at EQ0
      have EQ := Lib.hid EQ0
      have M1 := Lib.hid M0
      have HI := Lib.hid (And.intro hi hlt)
      clear M0 ein EQ0 hi hlt
      by_cases hin : i < n
      · have hm : (mkM L k)[i]? = some e := by
          unfold mkM
          rw [HN.out.1, ← hE]
          exact marksE_at hin
        obtain ⟨ga, rfl⟩ := hap.some (by rw [HN.out.2.1]; omega)
        have u3 : decide ((i : Int) < (n : Int)) = true := decide_eq_true (by omega)
        have u3b : decide (i < n) = true := decide_eq_true hin
        have k2 : (i : Int) < (n : Int) := by omega
        have k7 : ¬ n ≤ i := by omega
        have XC : Hid (∀ W, Below wr.heap.size wr W → W.cell? ⟨pg, k, none⟩ = some (.slice (some ⟨gg, 0, none⟩) (n + 64) cg) ∧ W.cell? ⟨pl, k, none⟩ = some (.slice (some ⟨ga, 0, none⟩) n c) ∧ (Instr.loadAt 34 (.pointer (some ⟨gg, i * 33, none⟩))).run Tryz.prog W = .ok (.agg (enC e)) W ∧ (Instr.loadAt 34 (.pointer (some ⟨ga, i * 33, none⟩))).run Tryz.prog W = .ok (.agg (enC e)) W) := Lib.hid (fun W hW => ⟨keepW hW xg, keepW hW x1, (hag.keep hW).loadg hX, (hap.keep hW).loadg hm⟩)
        have HBW := Lib.hid (Below.refl wr.heap.size wr).drew
        clear hA hap hag hX hm hin hE
        go_upto_region 24 with fail
        clear x1 xg u2 u2b
        refine rest_begin (by kernel_rfl) ?_
        have H3 := Lib.hid H2.out.drew
        obtain ⟨W4, hW4⟩ : ∃ W4, wr.drew = W4 := ⟨_, rfl⟩
        rw [hW4] at H3 HBW ⊢
        clear hW4 H2
        refine rest_flow3 [some 88, some 89, some 90, some 91, some 92, some 93, some 94, some 95, some 96, some 97, some 98, some 99, some 100, some 101, some 102, some 103, some 104, some 105, some 106, some 107, some 108, some 109, some 110, some 111, some 112, some 113, some 114, some 115, some 116, some 117, some 118, some 119, some 120, some 121] [Sp.is (.slice (some ⟨pg, 0, none⟩) Kn Kn), Sp.is (.int .i64 (k : Int)), Sp.is (.pointer (some ⟨pg, k, none⟩)), Sp.is (.slice (some ⟨gg, 0, none⟩) (n + 64) cg), Sp.is (.int .i64 (i : Int)), Sp.is (.pointer (some ⟨gg, i * 33, none⟩)), Sp.is (.agg (enC e)), Sp.is (.int .i64 (k : Int)), Sp.is (.int .i64 (i : Int)), Sp.is (.agg (enC e)), Sp.is (.bool true), Sp.is (.bool false), Sp.is (.bool false), Sp.is (.int .i64 (i : Int)), Sp.is (.slice (some ⟨pl, 0, none⟩) Kn cl), Sp.is (.int .i64 (k : Int)), Sp.is (.pointer (some ⟨pl, k, none⟩)), Sp.is (.slice (some ⟨ga, 0, none⟩) n c), Sp.is (.int .i64 (n : Int)), Sp.is (.bool true), Sp.is (.bool true), Sp.is (.slice (some ⟨pl, 0, none⟩) Kn cl), Sp.is (.int .i64 (k : Int)), Sp.is (.pointer (some ⟨pl, k, none⟩)), Sp.is (.slice (some ⟨ga, 0, none⟩) n c), Sp.is (.int .i64 (i : Int)), Sp.is (.pointer (some ⟨ga, i * 33, none⟩)), Sp.is (.agg (enC e)), Sp.is (.int .i64 (k : Int)), Sp.is (.int .i64 (i : Int)), Sp.is (.agg (enC e)), Sp.is (.bool true), Sp.is (.bool false), Sp.is (.bool false)] [false, false, false, false, false, false, false, false, false, false, false, false, false, false, false, false, false, false, false, false, false, false, false, false, false, false, false, false, false, false, false, false, false, false] 34 (by kernel_rfl) (by kernel_rfl) (fun u F hF => ?_) (fun u w' hbF hsF hold hap => ?_)
        case refine_1 =>
          have E5 : F.eval (.tmp 5) = (.slice (some ⟨pg, 0, none⟩) Kn Kn) := (congrArg (fun a => Act.eval a (.tmp 5)) hF).trans (eval_out _ 0 _ (by decide))
          have E9 : F.eval (.tmp 9) = (.int .i64 (k : Int)) := (congrArg (fun a => Act.eval a (.tmp 9)) hF).trans (eval_out _ 0 _ (by decide))
          have D88 : F.eval (.tmp 88) = u 0 := (congrArg (fun a => Act.eval a (.tmp 88)) hF).trans (eval_in _ 0 0 _ (by decide) (by omega) rfl (of_decide_eq_true (by kernel_rfl)))
          have D89 : F.eval (.tmp 89) = u 1 := (congrArg (fun a => Act.eval a (.tmp 89)) hF).trans (eval_in _ 0 1 _ (by decide) (by omega) rfl (of_decide_eq_true (by kernel_rfl)))
          have D90 : F.eval (.tmp 90) = u 2 := (congrArg (fun a => Act.eval a (.tmp 90)) hF).trans (eval_in _ 0 2 _ (by decide) (by omega) rfl (of_decide_eq_true (by kernel_rfl)))
          have E10 : F.eval (.tmp 10) = (.int .i64 (i : Int)) := (congrArg (fun a => Act.eval a (.tmp 10)) hF).trans (eval_out _ 0 _ (by decide))
          have D91 : F.eval (.tmp 91) = u 3 := (congrArg (fun a => Act.eval a (.tmp 91)) hF).trans (eval_in _ 0 3 _ (by decide) (by omega) rfl (of_decide_eq_true (by kernel_rfl)))
          have D92 : F.eval (.tmp 92) = u 4 := (congrArg (fun a => Act.eval a (.tmp 92)) hF).trans (eval_in _ 0 4 _ (by decide) (by omega) rfl (of_decide_eq_true (by kernel_rfl)))
          have D93 : F.eval (.tmp 93) = u 5 := (congrArg (fun a => Act.eval a (.tmp 93)) hF).trans (eval_in _ 0 5 _ (by decide) (by omega) rfl (of_decide_eq_true (by kernel_rfl)))
          have D95 : F.eval (.tmp 95) = u 7 := (congrArg (fun a => Act.eval a (.tmp 95)) hF).trans (eval_in _ 0 7 _ (by decide) (by omega) rfl (of_decide_eq_true (by kernel_rfl)))
          have D96 : F.eval (.tmp 96) = u 8 := (congrArg (fun a => Act.eval a (.tmp 96)) hF).trans (eval_in _ 0 8 _ (by decide) (by omega) rfl (of_decide_eq_true (by kernel_rfl)))
          have D94 : F.eval (.tmp 94) = u 6 := (congrArg (fun a => Act.eval a (.tmp 94)) hF).trans (eval_in _ 0 6 _ (by decide) (by omega) rfl (of_decide_eq_true (by kernel_rfl)))
          have D97 : F.eval (.tmp 97) = u 9 := (congrArg (fun a => Act.eval a (.tmp 97)) hF).trans (eval_in _ 0 9 _ (by decide) (by omega) rfl (of_decide_eq_true (by kernel_rfl)))
          have D98 : F.eval (.tmp 98) = u 10 := (congrArg (fun a => Act.eval a (.tmp 98)) hF).trans (eval_in _ 0 10 _ (by decide) (by omega) rfl (of_decide_eq_true (by kernel_rfl)))
          have D99 : F.eval (.tmp 99) = u 11 := (congrArg (fun a => Act.eval a (.tmp 99)) hF).trans (eval_in _ 0 11 _ (by decide) (by omega) rfl (of_decide_eq_true (by kernel_rfl)))
          have D100 : F.eval (.tmp 100) = u 12 := (congrArg (fun a => Act.eval a (.tmp 100)) hF).trans (eval_in _ 0 12 _ (by decide) (by omega) rfl (of_decide_eq_true (by kernel_rfl)))
          have E0 : F.eval (.tmp 0) = (.slice (some ⟨pl, 0, none⟩) Kn cl) := (congrArg (fun a => Act.eval a (.tmp 0)) hF).trans (eval_out _ 0 _ (by decide))
          have D102 : F.eval (.tmp 102) = u 14 := (congrArg (fun a => Act.eval a (.tmp 102)) hF).trans (eval_in _ 0 14 _ (by decide) (by omega) rfl (of_decide_eq_true (by kernel_rfl)))
          have D103 : F.eval (.tmp 103) = u 15 := (congrArg (fun a => Act.eval a (.tmp 103)) hF).trans (eval_in _ 0 15 _ (by decide) (by omega) rfl (of_decide_eq_true (by kernel_rfl)))
          have D104 : F.eval (.tmp 104) = u 16 := (congrArg (fun a => Act.eval a (.tmp 104)) hF).trans (eval_in _ 0 16 _ (by decide) (by omega) rfl (of_decide_eq_true (by kernel_rfl)))
          have D105 : F.eval (.tmp 105) = u 17 := (congrArg (fun a => Act.eval a (.tmp 105)) hF).trans (eval_in _ 0 17 _ (by decide) (by omega) rfl (of_decide_eq_true (by kernel_rfl)))
          have D101 : F.eval (.tmp 101) = u 13 := (congrArg (fun a => Act.eval a (.tmp 101)) hF).trans (eval_in _ 0 13 _ (by decide) (by omega) rfl (of_decide_eq_true (by kernel_rfl)))
          have D106 : F.eval (.tmp 106) = u 18 := (congrArg (fun a => Act.eval a (.tmp 106)) hF).trans (eval_in _ 0 18 _ (by decide) (by omega) rfl (of_decide_eq_true (by kernel_rfl)))
          have D107 : F.eval (.tmp 107) = u 19 := (congrArg (fun a => Act.eval a (.tmp 107)) hF).trans (eval_in _ 0 19 _ (by decide) (by omega) rfl (of_decide_eq_true (by kernel_rfl)))
          have D108 : F.eval (.tmp 108) = u 20 := (congrArg (fun a => Act.eval a (.tmp 108)) hF).trans (eval_in _ 0 20 _ (by decide) (by omega) rfl (of_decide_eq_true (by kernel_rfl)))
          have D109 : F.eval (.tmp 109) = u 21 := (congrArg (fun a => Act.eval a (.tmp 109)) hF).trans (eval_in _ 0 21 _ (by decide) (by omega) rfl (of_decide_eq_true (by kernel_rfl)))
          have D110 : F.eval (.tmp 110) = u 22 := (congrArg (fun a => Act.eval a (.tmp 110)) hF).trans (eval_in _ 0 22 _ (by decide) (by omega) rfl (of_decide_eq_true (by kernel_rfl)))
          have D111 : F.eval (.tmp 111) = u 23 := (congrArg (fun a => Act.eval a (.tmp 111)) hF).trans (eval_in _ 0 23 _ (by decide) (by omega) rfl (of_decide_eq_true (by kernel_rfl)))
          have D112 : F.eval (.tmp 112) = u 24 := (congrArg (fun a => Act.eval a (.tmp 112)) hF).trans (eval_in _ 0 24 _ (by decide) (by omega) rfl (of_decide_eq_true (by kernel_rfl)))
          have D113 : F.eval (.tmp 113) = u 25 := (congrArg (fun a => Act.eval a (.tmp 113)) hF).trans (eval_in _ 0 25 _ (by decide) (by omega) rfl (of_decide_eq_true (by kernel_rfl)))
          have D114 : F.eval (.tmp 114) = u 26 := (congrArg (fun a => Act.eval a (.tmp 114)) hF).trans (eval_in _ 0 26 _ (by decide) (by omega) rfl (of_decide_eq_true (by kernel_rfl)))
          have D116 : F.eval (.tmp 116) = u 28 := (congrArg (fun a => Act.eval a (.tmp 116)) hF).trans (eval_in _ 0 28 _ (by decide) (by omega) rfl (of_decide_eq_true (by kernel_rfl)))
          have D117 : F.eval (.tmp 117) = u 29 := (congrArg (fun a => Act.eval a (.tmp 117)) hF).trans (eval_in _ 0 29 _ (by decide) (by omega) rfl (of_decide_eq_true (by kernel_rfl)))
          have D115 : F.eval (.tmp 115) = u 27 := (congrArg (fun a => Act.eval a (.tmp 115)) hF).trans (eval_in _ 0 27 _ (by decide) (by omega) rfl (of_decide_eq_true (by kernel_rfl)))
          have D118 : F.eval (.tmp 118) = u 30 := (congrArg (fun a => Act.eval a (.tmp 118)) hF).trans (eval_in _ 0 30 _ (by decide) (by omega) rfl (of_decide_eq_true (by kernel_rfl)))
          have D119 : F.eval (.tmp 119) = u 31 := (congrArg (fun a => Act.eval a (.tmp 119)) hF).trans (eval_in _ 0 31 _ (by decide) (by omega) rfl (of_decide_eq_true (by kernel_rfl)))
          have D120 : F.eval (.tmp 120) = u 32 := (congrArg (fun a => Act.eval a (.tmp 120)) hF).trans (eval_in _ 0 32 _ (by decide) (by omega) rfl (of_decide_eq_true (by kernel_rfl)))
          clear hF
          refine ⟨?_, ?_, ?_, ?_, ?_, ?_, ?_, ?_, ?_, ?_, ?_, ?_, ?_, ?_, ?_, ?_, ?_, ?_, ?_, ?_, ?_, ?_, ?_, ?_, ?_, ?_, ?_, ?_, ?_, ?_, ?_, ?_, ?_, ?_, trivial⟩
          · intro w1 hb hd K hK
            have e5 := E5
            exact op_val (v := (.slice (some ⟨pg, 0, none⟩) Kn Kn)) rfl (by simp only [execOp, List.map_toArray, List.map_cons, List.map_nil, e5]; go_simp) (hK _ _ (show _ = _ from rfl) (Below.refl _ _) (Fresh.no _ _ _))
          · intro w1 hb hd K hK
            have e9 := E9
            exact op_val (v := (.int .i64 (k : Int))) rfl (by simp only [execOp, List.map_toArray, List.map_cons, List.map_nil, e9]; go_simp) (hK _ _ (show _ = _ from rfl) (Below.refl _ _) (Fresh.no _ _ _))
          · intro w1 hb hd K hK
            have e88 := D88.trans (show u 0 = _ from hd ⟨0, .data⟩ (by simp) rfl (by omega))
            have e89 := D89.trans (show u 1 = _ from hd ⟨1, .data⟩ (by simp) rfl (by omega))
            exact op_val (v := (.pointer (some ⟨pg, k, none⟩))) rfl (by simp only [execOp, List.map_toArray, List.map_cons, List.map_nil, e88, e89]; go_simp) (hK _ _ (show _ = _ from rfl) (Below.refl _ _) (Fresh.no _ _ _))
          · intro w1 hb hd K hK
            have e90 := D90.trans (show u 2 = _ from hd ⟨2, .data⟩ (by simp) rfl (by omega))
            have c0 : w1.cell? ⟨pg, k, none⟩ = some (.slice (some ⟨gg, 0, none⟩) (n + 64) cg) := (XC.out w1 (HBW.out.trans (hb.mono HBW.out.size))).1
            exact op_val (v := (.slice (some ⟨gg, 0, none⟩) (n + 64) cg)) rfl (by simp only [execOp, e90]; go_simp) (hK _ _ (show _ = _ from rfl) (Below.refl _ _) (Fresh.no _ _ _))
          · intro w1 hb hd K hK
            have e10 := E10
            exact op_val (v := (.int .i64 (i : Int))) rfl (by simp only [execOp, List.map_toArray, List.map_cons, List.map_nil, e10]; go_simp) (hK _ _ (show _ = _ from rfl) (Below.refl _ _) (Fresh.no _ _ _))
          · intro w1 hb hd K hK
            have e91 := D91.trans (show u 3 = _ from hd ⟨3, .data⟩ (by simp) rfl (by omega))
            have e92 := D92.trans (show u 4 = _ from hd ⟨4, .data⟩ (by simp) rfl (by omega))
            exact op_val (v := (.pointer (some ⟨gg, i * 33, none⟩))) rfl (by simp only [execOp, List.map_toArray, List.map_cons, List.map_nil, e91, e92]; go_simp) (hK _ _ (show _ = _ from rfl) (Below.refl _ _) (Fresh.no _ _ _))
          · intro w1 hb hd K hK
            have e93 := D93.trans (show u 5 = _ from hd ⟨5, .data⟩ (by simp) rfl (by omega))
            exact op_val (v := (.agg (enC e))) rfl (exec_load rfl e93 (XC.out w1 (HBW.out.trans (hb.mono HBW.out.size))).2.2.1) (hK _ _ (show _ = _ from rfl) (Below.refl _ _) (Fresh.no _ _ _))
          · intro w1 hb hd K hK
            have e9 := E9
            exact op_val (v := (.int .i64 (k : Int))) rfl (by simp only [execOp, List.map_toArray, List.map_cons, List.map_nil, e9]; go_simp) (hK _ _ (show _ = _ from rfl) (Below.refl _ _) (Fresh.no _ _ _))
          · intro w1 hb hd K hK
            have e10 := E10
            exact op_val (v := (.int .i64 (i : Int))) rfl (by simp only [execOp, List.map_toArray, List.map_cons, List.map_nil, e10]; go_simp) (hK _ _ (show _ = _ from rfl) (Below.refl _ _) (Fresh.no _ _ _))
          · intro w1 hb hd K hK
            have e95 := D95.trans (show u 7 = _ from hd ⟨7, .data⟩ (by simp) rfl (by omega))
            have e96 := D96.trans (show u 8 = _ from hd ⟨8, .data⟩ (by simp) rfl (by omega))
            refine op_call (R := fun v w2 => v = (.agg (enC e)) ∧ Below w1.heap.size w1 w2) (f := 80) (args := #[.int .i64 (k : Int), .int .i64 (i : Int)]) rfl (by simp only [execOp]; go_simp; first | exact ⟨eval_get e95, eval_get e96⟩ | (simp only [Act.eval] at *; simp_all)) ((M1.out w1).mono fun e w2 hh => ⟨_, hh.1, rfl, hh.2⟩) (fun v w2 hh => hK _ _ hh.1 hh.2 (Fresh.no _ _ _))
          · intro w1 hb hd K hK
            have e94 := D94.trans (show u 6 = _ from hd ⟨6, .data⟩ (by simp) rfl (by omega))
            have e97 := D97.trans (show u 9 = _ from hd ⟨9, .data⟩ (by simp) rfl (by omega))
            exact op_val (v := (.bool true)) rfl (exec_bin rfl e94 e97 (by kernel_rfl) (EQ.out w1)) (hK _ _ (show _ = _ from rfl) (Below.refl _ _) (Fresh.no _ _ _))
          · intro w1 hb hd K hK
            have e98 := D98.trans (show u 10 = _ from hd ⟨10, .data⟩ (by simp) rfl (by omega))
            exact op_val (v := (.bool false)) rfl (by simp only [execOp, List.map_toArray, List.map_cons, List.map_nil, e98]; go_simp) (hK _ _ (show _ = _ from rfl) (Below.refl _ _) (Fresh.no _ _ _))
          · intro w1 hb hd K hK
            have e99 := D99.trans (show u 11 = _ from hd ⟨11, .data⟩ (by simp) rfl (by omega))
            exact op_val (v := (.bool false)) rfl (by simp only [execOp, List.map_toArray, List.map_cons, List.map_nil, e99]; go_simp) (hK _ _ (show _ = _ from rfl) (Below.refl _ _) (Fresh.no _ _ _))
          · intro w1 hb hd K hK
            have e10 := E10
            have g := D100.trans (show u 12 = .bool false from hd ⟨12, .guard⟩ (by simp) rfl (by omega))
            exact op_val_w (v := (.int .i64 (i : Int))) (wanted_of (j := 12) (s := 100) (b := false) (by kernel_rfl) (by kernel_rfl) g) (by simp only [execOp, List.map_toArray, List.map_cons, List.map_nil, e10]; go_simp) (hK _ _ (show _ = _ from rfl) (Below.refl _ _) (Fresh.no _ _ _))
          · intro w1 hb hd K hK
            have e0 := E0
            have g := D100.trans (show u 12 = .bool false from hd ⟨12, .guard⟩ (by simp) rfl (by omega))
            exact op_val_w (v := (.slice (some ⟨pl, 0, none⟩) Kn cl)) (wanted_of (j := 12) (s := 100) (b := false) (by kernel_rfl) (by kernel_rfl) g) (by simp only [execOp, List.map_toArray, List.map_cons, List.map_nil, e0]; go_simp) (hK _ _ (show _ = _ from rfl) (Below.refl _ _) (Fresh.no _ _ _))
          · intro w1 hb hd K hK
            have e9 := E9
            have g := D100.trans (show u 12 = .bool false from hd ⟨12, .guard⟩ (by simp) rfl (by omega))
            exact op_val_w (v := (.int .i64 (k : Int))) (wanted_of (j := 12) (s := 100) (b := false) (by kernel_rfl) (by kernel_rfl) g) (by simp only [execOp, List.map_toArray, List.map_cons, List.map_nil, e9]; go_simp) (hK _ _ (show _ = _ from rfl) (Below.refl _ _) (Fresh.no _ _ _))
          · intro w1 hb hd K hK
            have e102 := D102.trans (show u 14 = _ from hd ⟨14, .data⟩ (by simp) rfl (by omega))
            have e103 := D103.trans (show u 15 = _ from hd ⟨15, .data⟩ (by simp) rfl (by omega))
            have g := D100.trans (show u 12 = .bool false from hd ⟨12, .guard⟩ (by simp) rfl (by omega))
            exact op_val_w (v := (.pointer (some ⟨pl, k, none⟩))) (wanted_of (j := 12) (s := 100) (b := false) (by kernel_rfl) (by kernel_rfl) g) (by simp only [execOp, List.map_toArray, List.map_cons, List.map_nil, e102, e103]; go_simp) (hK _ _ (show _ = _ from rfl) (Below.refl _ _) (Fresh.no _ _ _))
          · intro w1 hb hd K hK
            have e104 := D104.trans (show u 16 = _ from hd ⟨16, .data⟩ (by simp) rfl (by omega))
            have g := D100.trans (show u 12 = .bool false from hd ⟨12, .guard⟩ (by simp) rfl (by omega))
            have c0 : w1.cell? ⟨pl, k, none⟩ = some (.slice (some ⟨ga, 0, none⟩) n c) := (XC.out w1 (HBW.out.trans (hb.mono HBW.out.size))).2.1
            exact op_val_w (v := (.slice (some ⟨ga, 0, none⟩) n c)) (wanted_of (j := 12) (s := 100) (b := false) (by kernel_rfl) (by kernel_rfl) g) (by simp only [execOp, e104]; go_simp) (hK _ _ (show _ = _ from rfl) (Below.refl _ _) (Fresh.no _ _ _))
          · intro w1 hb hd K hK
            have e105 := D105.trans (show u 17 = _ from hd ⟨17, .data⟩ (by simp) rfl (by omega))
            have g := D100.trans (show u 12 = .bool false from hd ⟨12, .guard⟩ (by simp) rfl (by omega))
            exact op_val_w (v := (.int .i64 (n : Int))) (wanted_of (j := 12) (s := 100) (b := false) (by kernel_rfl) (by kernel_rfl) g) (exec_len Tryz.underlying40 rfl e105) (hK _ _ (show _ = _ from rfl) (Below.refl _ _) (Fresh.no _ _ _))
          · intro w1 hb hd K hK
            have e101 := D101.trans (show u 13 = _ from hd ⟨13, .data⟩ (by simp) rfl (by omega))
            have e106 := D106.trans (show u 18 = _ from hd ⟨18, .data⟩ (by simp) rfl (by omega))
            have g := D100.trans (show u 12 = .bool false from hd ⟨12, .guard⟩ (by simp) rfl (by omega))
            exact op_val_w (v := (.bool true)) (wanted_of (j := 12) (s := 100) (b := false) (by kernel_rfl) (by kernel_rfl) g) (by simp only [execOp, List.map_toArray, List.map_cons, List.map_nil, e101, e106]; go_simp) (hK _ _ (show _ = _ from rfl) (Below.refl _ _) (Fresh.no _ _ _))
          · intro w1 hb hd K hK
            have e107 := D107.trans (show u 19 = _ from hd ⟨19, .data⟩ (by simp) rfl (by omega))
            have g := D100.trans (show u 12 = .bool false from hd ⟨12, .guard⟩ (by simp) rfl (by omega))
            exact op_val_w (v := (.bool true)) (wanted_of (j := 12) (s := 100) (b := false) (by kernel_rfl) (by kernel_rfl) g) (by simp only [execOp, List.map_toArray, List.map_cons, List.map_nil, e107]; go_simp) (hK _ _ (show _ = _ from rfl) (Below.refl _ _) (Fresh.no _ _ _))
          · intro w1 hb hd K hK
            have e0 := E0
            have g := D108.trans (show u 20 = .bool true from hd ⟨20, .guard⟩ (by simp) rfl (by omega))
            exact op_val_w (v := (.slice (some ⟨pl, 0, none⟩) Kn cl)) (wanted_of (j := 20) (s := 108) (b := true) (by kernel_rfl) (by kernel_rfl) g) (by simp only [execOp, List.map_toArray, List.map_cons, List.map_nil, e0]; go_simp) (hK _ _ (show _ = _ from rfl) (Below.refl _ _) (Fresh.no _ _ _))
          · intro w1 hb hd K hK
            have e9 := E9
            have g := D108.trans (show u 20 = .bool true from hd ⟨20, .guard⟩ (by simp) rfl (by omega))
            exact op_val_w (v := (.int .i64 (k : Int))) (wanted_of (j := 20) (s := 108) (b := true) (by kernel_rfl) (by kernel_rfl) g) (by simp only [execOp, List.map_toArray, List.map_cons, List.map_nil, e9]; go_simp) (hK _ _ (show _ = _ from rfl) (Below.refl _ _) (Fresh.no _ _ _))
          · intro w1 hb hd K hK
            have e109 := D109.trans (show u 21 = _ from hd ⟨21, .data⟩ (by simp) rfl (by omega))
            have e110 := D110.trans (show u 22 = _ from hd ⟨22, .data⟩ (by simp) rfl (by omega))
            have g := D108.trans (show u 20 = .bool true from hd ⟨20, .guard⟩ (by simp) rfl (by omega))
            exact op_val_w (v := (.pointer (some ⟨pl, k, none⟩))) (wanted_of (j := 20) (s := 108) (b := true) (by kernel_rfl) (by kernel_rfl) g) (by simp only [execOp, List.map_toArray, List.map_cons, List.map_nil, e109, e110]; go_simp) (hK _ _ (show _ = _ from rfl) (Below.refl _ _) (Fresh.no _ _ _))
          · intro w1 hb hd K hK
            have e111 := D111.trans (show u 23 = _ from hd ⟨23, .data⟩ (by simp) rfl (by omega))
            have g := D108.trans (show u 20 = .bool true from hd ⟨20, .guard⟩ (by simp) rfl (by omega))
            have c0 : w1.cell? ⟨pl, k, none⟩ = some (.slice (some ⟨ga, 0, none⟩) n c) := (XC.out w1 (HBW.out.trans (hb.mono HBW.out.size))).2.1
            exact op_val_w (v := (.slice (some ⟨ga, 0, none⟩) n c)) (wanted_of (j := 20) (s := 108) (b := true) (by kernel_rfl) (by kernel_rfl) g) (by simp only [execOp, e111]; go_simp) (hK _ _ (show _ = _ from rfl) (Below.refl _ _) (Fresh.no _ _ _))
          · intro w1 hb hd K hK
            have e10 := E10
            have g := D108.trans (show u 20 = .bool true from hd ⟨20, .guard⟩ (by simp) rfl (by omega))
            exact op_val_w (v := (.int .i64 (i : Int))) (wanted_of (j := 20) (s := 108) (b := true) (by kernel_rfl) (by kernel_rfl) g) (by simp only [execOp, List.map_toArray, List.map_cons, List.map_nil, e10]; go_simp) (hK _ _ (show _ = _ from rfl) (Below.refl _ _) (Fresh.no _ _ _))
          · intro w1 hb hd K hK
            have e112 := D112.trans (show u 24 = _ from hd ⟨24, .data⟩ (by simp) rfl (by omega))
            have e113 := D113.trans (show u 25 = _ from hd ⟨25, .data⟩ (by simp) rfl (by omega))
            have g := D108.trans (show u 20 = .bool true from hd ⟨20, .guard⟩ (by simp) rfl (by omega))
            exact op_val_w (v := (.pointer (some ⟨ga, i * 33, none⟩))) (wanted_of (j := 20) (s := 108) (b := true) (by kernel_rfl) (by kernel_rfl) g) (by simp only [execOp, List.map_toArray, List.map_cons, List.map_nil, e112, e113]; go_simp) (hK _ _ (show _ = _ from rfl) (Below.refl _ _) (Fresh.no _ _ _))
          · intro w1 hb hd K hK
            have e114 := D114.trans (show u 26 = _ from hd ⟨26, .data⟩ (by simp) rfl (by omega))
            have g := D108.trans (show u 20 = .bool true from hd ⟨20, .guard⟩ (by simp) rfl (by omega))
            exact op_val_w (v := (.agg (enC e))) (wanted_of (j := 20) (s := 108) (b := true) (by kernel_rfl) (by kernel_rfl) g) (exec_load rfl e114 (XC.out w1 (HBW.out.trans (hb.mono HBW.out.size))).2.2.2) (hK _ _ (show _ = _ from rfl) (Below.refl _ _) (Fresh.no _ _ _))
          · intro w1 hb hd K hK
            have e9 := E9
            have g := D108.trans (show u 20 = .bool true from hd ⟨20, .guard⟩ (by simp) rfl (by omega))
            exact op_val_w (v := (.int .i64 (k : Int))) (wanted_of (j := 20) (s := 108) (b := true) (by kernel_rfl) (by kernel_rfl) g) (by simp only [execOp, List.map_toArray, List.map_cons, List.map_nil, e9]; go_simp) (hK _ _ (show _ = _ from rfl) (Below.refl _ _) (Fresh.no _ _ _))
          · intro w1 hb hd K hK
            have e10 := E10
            have g := D108.trans (show u 20 = .bool true from hd ⟨20, .guard⟩ (by simp) rfl (by omega))
            exact op_val_w (v := (.int .i64 (i : Int))) (wanted_of (j := 20) (s := 108) (b := true) (by kernel_rfl) (by kernel_rfl) g) (by simp only [execOp, List.map_toArray, List.map_cons, List.map_nil, e10]; go_simp) (hK _ _ (show _ = _ from rfl) (Below.refl _ _) (Fresh.no _ _ _))
          · intro w1 hb hd K hK
            have e116 := D116.trans (show u 28 = _ from hd ⟨28, .data⟩ (by simp) rfl (by omega))
            have e117 := D117.trans (show u 29 = _ from hd ⟨29, .data⟩ (by simp) rfl (by omega))
            have g := D108.trans (show u 20 = .bool true from hd ⟨20, .guard⟩ (by simp) rfl (by omega))
            refine op_call_w (R := fun v w2 => v = (.agg (enC e)) ∧ Below w1.heap.size w1 w2) (f := 80) (args := #[.int .i64 (k : Int), .int .i64 (i : Int)]) (wanted_of (j := 20) (s := 108) (b := true) (by kernel_rfl) (by kernel_rfl) g) (by simp only [execOp]; go_simp; first | exact ⟨eval_get e116, eval_get e117⟩ | (simp only [Act.eval] at *; simp_all)) ((M1.out w1).mono fun e w2 hh => ⟨_, hh.1, rfl, hh.2⟩) (fun v w2 hh => hK _ _ hh.1 hh.2 (Fresh.no _ _ _))
          · intro w1 hb hd K hK
            have e115 := D115.trans (show u 27 = _ from hd ⟨27, .data⟩ (by simp) rfl (by omega))
            have e118 := D118.trans (show u 30 = _ from hd ⟨30, .data⟩ (by simp) rfl (by omega))
            have g := D108.trans (show u 20 = .bool true from hd ⟨20, .guard⟩ (by simp) rfl (by omega))
            exact op_val_w (v := (.bool true)) (wanted_of (j := 20) (s := 108) (b := true) (by kernel_rfl) (by kernel_rfl) g) (exec_bin rfl e115 e118 (by kernel_rfl) (EQ.out w1)) (hK _ _ (show _ = _ from rfl) (Below.refl _ _) (Fresh.no _ _ _))
          · intro w1 hb hd K hK
            have e119 := D119.trans (show u 31 = _ from hd ⟨31, .data⟩ (by simp) rfl (by omega))
            have g := D108.trans (show u 20 = .bool true from hd ⟨20, .guard⟩ (by simp) rfl (by omega))
            exact op_val_w (v := (.bool false)) (wanted_of (j := 20) (s := 108) (b := true) (by kernel_rfl) (by kernel_rfl) g) (by simp only [execOp, List.map_toArray, List.map_cons, List.map_nil, e119]; go_simp) (hK _ _ (show _ = _ from rfl) (Below.refl _ _) (Fresh.no _ _ _))
          · intro w1 hb hd K hK
            have e108 := D108.trans (show u 20 = _ from hd ⟨20, .data⟩ (by simp) rfl (by omega))
            have e120 := D120.trans (show u 32 = _ from hd ⟨32, .data⟩ (by simp) rfl (by omega))
            have g := D100.trans (show u 12 = .bool false from hd ⟨12, .guard⟩ (by simp) rfl (by omega))
            exact op_val_w (v := (.bool false)) (wanted_of (j := 12) (s := 100) (b := false) (by kernel_rfl) (by kernel_rfl) g) (by simp only [execOp, List.map_toArray, List.map_cons, List.map_nil, e108, e120]; go_simp) (hK _ _ (show _ = _ from rfl) (Below.refl _ _) (Fresh.no _ _ _))
        have hv88 : u 0 = (.slice (some ⟨pg, 0, none⟩) Kn Kn) := (show u 0 = _ from hsF 0 (by omega) (by omega))
        have hv89 : u 1 = (.int .i64 (k : Int)) := (show u 1 = _ from hsF 1 (by omega) (by omega))
        have hv90 : u 2 = (.pointer (some ⟨pg, k, none⟩)) := (show u 2 = _ from hsF 2 (by omega) (by omega))
        have hv91 : u 3 = (.slice (some ⟨gg, 0, none⟩) (n + 64) cg) := (show u 3 = _ from hsF 3 (by omega) (by omega))
        have hv92 : u 4 = (.int .i64 (i : Int)) := (show u 4 = _ from hsF 4 (by omega) (by omega))
        have hv93 : u 5 = (.pointer (some ⟨gg, i * 33, none⟩)) := (show u 5 = _ from hsF 5 (by omega) (by omega))
        have hv94 : u 6 = (.agg (enC e)) := (show u 6 = _ from hsF 6 (by omega) (by omega))
        have hv95 : u 7 = (.int .i64 (k : Int)) := (show u 7 = _ from hsF 7 (by omega) (by omega))
        have hv96 : u 8 = (.int .i64 (i : Int)) := (show u 8 = _ from hsF 8 (by omega) (by omega))
        have hv97 : u 9 = (.agg (enC e)) := (show u 9 = _ from hsF 9 (by omega) (by omega))
        have hv98 : u 10 = (.bool true) := (show u 10 = _ from hsF 10 (by omega) (by omega))
        have hv99 : u 11 = (.bool false) := (show u 11 = _ from hsF 11 (by omega) (by omega))
        have hv100 : u 12 = (.bool false) := (show u 12 = _ from hsF 12 (by omega) (by omega))
        have hv101 : u 13 = (.int .i64 (i : Int)) := (show u 13 = _ from hsF 13 (by omega) (by omega))
        have hv102 : u 14 = (.slice (some ⟨pl, 0, none⟩) Kn cl) := (show u 14 = _ from hsF 14 (by omega) (by omega))
        have hv103 : u 15 = (.int .i64 (k : Int)) := (show u 15 = _ from hsF 15 (by omega) (by omega))
        have hv104 : u 16 = (.pointer (some ⟨pl, k, none⟩)) := (show u 16 = _ from hsF 16 (by omega) (by omega))
        have hv105 : u 17 = (.slice (some ⟨ga, 0, none⟩) n c) := (show u 17 = _ from hsF 17 (by omega) (by omega))
        have hv106 : u 18 = (.int .i64 (n : Int)) := (show u 18 = _ from hsF 18 (by omega) (by omega))
        have hv107 : u 19 = (.bool true) := (show u 19 = _ from hsF 19 (by omega) (by omega))
        have hv108 : u 20 = (.bool true) := (show u 20 = _ from hsF 20 (by omega) (by omega))
        have hv109 : u 21 = (.slice (some ⟨pl, 0, none⟩) Kn cl) := (show u 21 = _ from hsF 21 (by omega) (by omega))
        have hv110 : u 22 = (.int .i64 (k : Int)) := (show u 22 = _ from hsF 22 (by omega) (by omega))
        have hv111 : u 23 = (.pointer (some ⟨pl, k, none⟩)) := (show u 23 = _ from hsF 23 (by omega) (by omega))
        have hv112 : u 24 = (.slice (some ⟨ga, 0, none⟩) n c) := (show u 24 = _ from hsF 24 (by omega) (by omega))
        have hv113 : u 25 = (.int .i64 (i : Int)) := (show u 25 = _ from hsF 25 (by omega) (by omega))
        have hv114 : u 26 = (.pointer (some ⟨ga, i * 33, none⟩)) := (show u 26 = _ from hsF 26 (by omega) (by omega))
        have hv115 : u 27 = (.agg (enC e)) := (show u 27 = _ from hsF 27 (by omega) (by omega))
        have hv116 : u 28 = (.int .i64 (k : Int)) := (show u 28 = _ from hsF 28 (by omega) (by omega))
        have hv117 : u 29 = (.int .i64 (i : Int)) := (show u 29 = _ from hsF 29 (by omega) (by omega))
        have hv118 : u 30 = (.agg (enC e)) := (show u 30 = _ from hsF 30 (by omega) (by omega))
        have hv119 : u 31 = (.bool true) := (show u 31 = _ from hsF 31 (by omega) (by omega))
        have hv120 : u 32 = (.bool false) := (show u 32 = _ from hsF 32 (by omega) (by omega))
        have hv121 : u 33 = (.bool false) := (show u 33 = _ from hsF 33 (by omega) (by omega))
        simp only [putRow, hv88, hv89, hv90, hv91, hv92, hv93, hv94, hv95, hv96, hv97, hv98, hv99, hv100, hv101, hv102, hv103, hv104, hv105, hv106, hv107, hv108, hv109, hv110, hv111, hv112, hv113, hv114, hv115, hv116, hv117, hv118, hv119, hv120, hv121, Act.put, List.setIfInBounds_toArray, List.set_cons_succ, List.set_cons_zero]
        clear hsF hold hap hv88 hv89 hv90 hv91 hv92 hv93 hv94 hv95 hv96 hv97 hv98 hv99 hv100 hv101 hv102 hv103 hv104 hv105 hv106 hv107 hv108 hv109 hv110 hv111 hv112 hv113 hv114 hv115 hv116 hv117 hv118 hv119 hv120 hv121
        have H4 := Lib.hid (H3.out.keep hbF)
        clear H3 hbF M1 XC EQ HBW
        refine rest_forced 1 (by kernel_rfl) ?_
        simp only [List.drop_succ_cons, List.drop_zero, List.take_succ_cons, List.take_zero]
        go_wp2_with fail
        refine rest_done rfl ?_
        clear W4
        go_wp2_with fail
        go_roundw
        case rel => exact ⟨i + 1, HI.out.2, by simp, H4⟩
        case measure => have := HI.out.2; simp only [intOf]; omega
      · have u3 : decide ((i : Int) < (n : Int)) = false := decide_eq_false (by omega)
        have u3b : decide (i < n) = false := decide_eq_false hin
        have XC : Hid (∀ W, Below wr.heap.size wr W → W.cell? ⟨pg, k, none⟩ = some (.slice (some ⟨gg, 0, none⟩) (n + 64) cg) ∧ W.cell? ⟨pl, k, none⟩ = some (.slice A n c) ∧ (Instr.loadAt 34 (.pointer (some ⟨gg, i * 33, none⟩))).run Tryz.prog W = .ok (.agg (enC e)) W) := Lib.hid (fun W hW => ⟨keepW hW xg, keepW hW x1, (hag.keep hW).loadg hX⟩)
        have HBW := Lib.hid (Below.refl wr.heap.size wr).drew
        clear hA hap hag hX hin hE
        go_upto_region 24 with fail
        clear x1 xg u2 u2b
        refine rest_begin (by kernel_rfl) ?_
        have H3 := Lib.hid H2.out.drew
        obtain ⟨W4, hW4⟩ : ∃ W4, wr.drew = W4 := ⟨_, rfl⟩
        rw [hW4] at H3 HBW ⊢
        clear hW4 H2
        refine rest_flow3 [some 88, some 89, some 90, some 91, some 92, some 93, some 94, some 95, some 96, some 97, some 98, some 99, some 100, some 101, some 102, some 103, some 104, some 105, some 106, some 107, some 108, some 109, some 110, some 111, some 112, some 113, some 114, some 115, some 116, some 117, some 118, some 119, some 120, some 121] [Sp.is (.slice (some ⟨pg, 0, none⟩) Kn Kn), Sp.is (.int .i64 (k : Int)), Sp.is (.pointer (some ⟨pg, k, none⟩)), Sp.is (.slice (some ⟨gg, 0, none⟩) (n + 64) cg), Sp.is (.int .i64 (i : Int)), Sp.is (.pointer (some ⟨gg, i * 33, none⟩)), Sp.is (.agg (enC e)), Sp.is (.int .i64 (k : Int)), Sp.is (.int .i64 (i : Int)), Sp.is (.agg (enC e)), Sp.is (.bool true), Sp.is (.bool false), Sp.is (.bool false), Sp.is (.int .i64 (i : Int)), Sp.is (.slice (some ⟨pl, 0, none⟩) Kn cl), Sp.is (.int .i64 (k : Int)), Sp.is (.pointer (some ⟨pl, k, none⟩)), Sp.is (.slice A n c), Sp.is (.int .i64 (n : Int)), Sp.is (.bool false), Sp.is (.bool false), Sp.is undef, Sp.is undef, Sp.is undef, Sp.is undef, Sp.is undef, Sp.is undef, Sp.is undef, Sp.is undef, Sp.is undef, Sp.is undef, Sp.is undef, Sp.is undef, Sp.is (.bool false)] [false, false, false, false, false, false, false, false, false, false, false, false, false, false, false, false, false, false, false, false, false, false, false, false, false, false, false, false, false, false, false, false, false, false] 34 (by kernel_rfl) (by kernel_rfl) (fun u F hF => ?_) (fun u w' hbF hsF hold hap => ?_)
        case refine_1 =>
          have E5 : F.eval (.tmp 5) = (.slice (some ⟨pg, 0, none⟩) Kn Kn) := (congrArg (fun a => Act.eval a (.tmp 5)) hF).trans (eval_out _ 0 _ (by decide))
          have E9 : F.eval (.tmp 9) = (.int .i64 (k : Int)) := (congrArg (fun a => Act.eval a (.tmp 9)) hF).trans (eval_out _ 0 _ (by decide))
          have D88 : F.eval (.tmp 88) = u 0 := (congrArg (fun a => Act.eval a (.tmp 88)) hF).trans (eval_in _ 0 0 _ (by decide) (by omega) rfl (of_decide_eq_true (by kernel_rfl)))
          have D89 : F.eval (.tmp 89) = u 1 := (congrArg (fun a => Act.eval a (.tmp 89)) hF).trans (eval_in _ 0 1 _ (by decide) (by omega) rfl (of_decide_eq_true (by kernel_rfl)))
          have D90 : F.eval (.tmp 90) = u 2 := (congrArg (fun a => Act.eval a (.tmp 90)) hF).trans (eval_in _ 0 2 _ (by decide) (by omega) rfl (of_decide_eq_true (by kernel_rfl)))
          have E10 : F.eval (.tmp 10) = (.int .i64 (i : Int)) := (congrArg (fun a => Act.eval a (.tmp 10)) hF).trans (eval_out _ 0 _ (by decide))
          have D91 : F.eval (.tmp 91) = u 3 := (congrArg (fun a => Act.eval a (.tmp 91)) hF).trans (eval_in _ 0 3 _ (by decide) (by omega) rfl (of_decide_eq_true (by kernel_rfl)))
          have D92 : F.eval (.tmp 92) = u 4 := (congrArg (fun a => Act.eval a (.tmp 92)) hF).trans (eval_in _ 0 4 _ (by decide) (by omega) rfl (of_decide_eq_true (by kernel_rfl)))
          have D93 : F.eval (.tmp 93) = u 5 := (congrArg (fun a => Act.eval a (.tmp 93)) hF).trans (eval_in _ 0 5 _ (by decide) (by omega) rfl (of_decide_eq_true (by kernel_rfl)))
          have D95 : F.eval (.tmp 95) = u 7 := (congrArg (fun a => Act.eval a (.tmp 95)) hF).trans (eval_in _ 0 7 _ (by decide) (by omega) rfl (of_decide_eq_true (by kernel_rfl)))
          have D96 : F.eval (.tmp 96) = u 8 := (congrArg (fun a => Act.eval a (.tmp 96)) hF).trans (eval_in _ 0 8 _ (by decide) (by omega) rfl (of_decide_eq_true (by kernel_rfl)))
          have D94 : F.eval (.tmp 94) = u 6 := (congrArg (fun a => Act.eval a (.tmp 94)) hF).trans (eval_in _ 0 6 _ (by decide) (by omega) rfl (of_decide_eq_true (by kernel_rfl)))
          have D97 : F.eval (.tmp 97) = u 9 := (congrArg (fun a => Act.eval a (.tmp 97)) hF).trans (eval_in _ 0 9 _ (by decide) (by omega) rfl (of_decide_eq_true (by kernel_rfl)))
          have D98 : F.eval (.tmp 98) = u 10 := (congrArg (fun a => Act.eval a (.tmp 98)) hF).trans (eval_in _ 0 10 _ (by decide) (by omega) rfl (of_decide_eq_true (by kernel_rfl)))
          have D99 : F.eval (.tmp 99) = u 11 := (congrArg (fun a => Act.eval a (.tmp 99)) hF).trans (eval_in _ 0 11 _ (by decide) (by omega) rfl (of_decide_eq_true (by kernel_rfl)))
          have D100 : F.eval (.tmp 100) = u 12 := (congrArg (fun a => Act.eval a (.tmp 100)) hF).trans (eval_in _ 0 12 _ (by decide) (by omega) rfl (of_decide_eq_true (by kernel_rfl)))
          have E0 : F.eval (.tmp 0) = (.slice (some ⟨pl, 0, none⟩) Kn cl) := (congrArg (fun a => Act.eval a (.tmp 0)) hF).trans (eval_out _ 0 _ (by decide))
          have D102 : F.eval (.tmp 102) = u 14 := (congrArg (fun a => Act.eval a (.tmp 102)) hF).trans (eval_in _ 0 14 _ (by decide) (by omega) rfl (of_decide_eq_true (by kernel_rfl)))
          have D103 : F.eval (.tmp 103) = u 15 := (congrArg (fun a => Act.eval a (.tmp 103)) hF).trans (eval_in _ 0 15 _ (by decide) (by omega) rfl (of_decide_eq_true (by kernel_rfl)))
          have D104 : F.eval (.tmp 104) = u 16 := (congrArg (fun a => Act.eval a (.tmp 104)) hF).trans (eval_in _ 0 16 _ (by decide) (by omega) rfl (of_decide_eq_true (by kernel_rfl)))
          have D105 : F.eval (.tmp 105) = u 17 := (congrArg (fun a => Act.eval a (.tmp 105)) hF).trans (eval_in _ 0 17 _ (by decide) (by omega) rfl (of_decide_eq_true (by kernel_rfl)))
          have D101 : F.eval (.tmp 101) = u 13 := (congrArg (fun a => Act.eval a (.tmp 101)) hF).trans (eval_in _ 0 13 _ (by decide) (by omega) rfl (of_decide_eq_true (by kernel_rfl)))
          have D106 : F.eval (.tmp 106) = u 18 := (congrArg (fun a => Act.eval a (.tmp 106)) hF).trans (eval_in _ 0 18 _ (by decide) (by omega) rfl (of_decide_eq_true (by kernel_rfl)))
          have D107 : F.eval (.tmp 107) = u 19 := (congrArg (fun a => Act.eval a (.tmp 107)) hF).trans (eval_in _ 0 19 _ (by decide) (by omega) rfl (of_decide_eq_true (by kernel_rfl)))
          have D108 : F.eval (.tmp 108) = u 20 := (congrArg (fun a => Act.eval a (.tmp 108)) hF).trans (eval_in _ 0 20 _ (by decide) (by omega) rfl (of_decide_eq_true (by kernel_rfl)))
          clear hF
          refine ⟨?_, ?_, ?_, ?_, ?_, ?_, ?_, ?_, ?_, ?_, ?_, ?_, ?_, ?_, ?_, ?_, ?_, ?_, ?_, ?_, ?_, ?_, ?_, ?_, ?_, ?_, ?_, ?_, ?_, ?_, ?_, ?_, ?_, ?_, trivial⟩
          · intro w1 hb hd K hK
            have e5 := E5
            exact op_val (v := (.slice (some ⟨pg, 0, none⟩) Kn Kn)) rfl (by simp only [execOp, List.map_toArray, List.map_cons, List.map_nil, e5]; go_simp) (hK _ _ (show _ = _ from rfl) (Below.refl _ _) (Fresh.no _ _ _))
          · intro w1 hb hd K hK
            have e9 := E9
            exact op_val (v := (.int .i64 (k : Int))) rfl (by simp only [execOp, List.map_toArray, List.map_cons, List.map_nil, e9]; go_simp) (hK _ _ (show _ = _ from rfl) (Below.refl _ _) (Fresh.no _ _ _))
          · intro w1 hb hd K hK
            have e88 := D88.trans (show u 0 = _ from hd ⟨0, .data⟩ (by simp) rfl (by omega))
            have e89 := D89.trans (show u 1 = _ from hd ⟨1, .data⟩ (by simp) rfl (by omega))
            exact op_val (v := (.pointer (some ⟨pg, k, none⟩))) rfl (by simp only [execOp, List.map_toArray, List.map_cons, List.map_nil, e88, e89]; go_simp) (hK _ _ (show _ = _ from rfl) (Below.refl _ _) (Fresh.no _ _ _))
          · intro w1 hb hd K hK
            have e90 := D90.trans (show u 2 = _ from hd ⟨2, .data⟩ (by simp) rfl (by omega))
            have c0 : w1.cell? ⟨pg, k, none⟩ = some (.slice (some ⟨gg, 0, none⟩) (n + 64) cg) := (XC.out w1 (HBW.out.trans (hb.mono HBW.out.size))).1
            exact op_val (v := (.slice (some ⟨gg, 0, none⟩) (n + 64) cg)) rfl (by simp only [execOp, e90]; go_simp) (hK _ _ (show _ = _ from rfl) (Below.refl _ _) (Fresh.no _ _ _))
          · intro w1 hb hd K hK
            have e10 := E10
            exact op_val (v := (.int .i64 (i : Int))) rfl (by simp only [execOp, List.map_toArray, List.map_cons, List.map_nil, e10]; go_simp) (hK _ _ (show _ = _ from rfl) (Below.refl _ _) (Fresh.no _ _ _))
          · intro w1 hb hd K hK
            have e91 := D91.trans (show u 3 = _ from hd ⟨3, .data⟩ (by simp) rfl (by omega))
            have e92 := D92.trans (show u 4 = _ from hd ⟨4, .data⟩ (by simp) rfl (by omega))
            exact op_val (v := (.pointer (some ⟨gg, i * 33, none⟩))) rfl (by simp only [execOp, List.map_toArray, List.map_cons, List.map_nil, e91, e92]; go_simp) (hK _ _ (show _ = _ from rfl) (Below.refl _ _) (Fresh.no _ _ _))
          · intro w1 hb hd K hK
            have e93 := D93.trans (show u 5 = _ from hd ⟨5, .data⟩ (by simp) rfl (by omega))
            exact op_val (v := (.agg (enC e))) rfl (exec_load rfl e93 (XC.out w1 (HBW.out.trans (hb.mono HBW.out.size))).2.2) (hK _ _ (show _ = _ from rfl) (Below.refl _ _) (Fresh.no _ _ _))
          · intro w1 hb hd K hK
            have e9 := E9
            exact op_val (v := (.int .i64 (k : Int))) rfl (by simp only [execOp, List.map_toArray, List.map_cons, List.map_nil, e9]; go_simp) (hK _ _ (show _ = _ from rfl) (Below.refl _ _) (Fresh.no _ _ _))
          · intro w1 hb hd K hK
            have e10 := E10
            exact op_val (v := (.int .i64 (i : Int))) rfl (by simp only [execOp, List.map_toArray, List.map_cons, List.map_nil, e10]; go_simp) (hK _ _ (show _ = _ from rfl) (Below.refl _ _) (Fresh.no _ _ _))
          · intro w1 hb hd K hK
            have e95 := D95.trans (show u 7 = _ from hd ⟨7, .data⟩ (by simp) rfl (by omega))
            have e96 := D96.trans (show u 8 = _ from hd ⟨8, .data⟩ (by simp) rfl (by omega))
            refine op_call (R := fun v w2 => v = (.agg (enC e)) ∧ Below w1.heap.size w1 w2) (f := 80) (args := #[.int .i64 (k : Int), .int .i64 (i : Int)]) rfl (by simp only [execOp]; go_simp; first | exact ⟨eval_get e95, eval_get e96⟩ | (simp only [Act.eval] at *; simp_all)) ((M1.out w1).mono fun e w2 hh => ⟨_, hh.1, rfl, hh.2⟩) (fun v w2 hh => hK _ _ hh.1 hh.2 (Fresh.no _ _ _))
          · intro w1 hb hd K hK
            have e94 := D94.trans (show u 6 = _ from hd ⟨6, .data⟩ (by simp) rfl (by omega))
            have e97 := D97.trans (show u 9 = _ from hd ⟨9, .data⟩ (by simp) rfl (by omega))
            exact op_val (v := (.bool true)) rfl (exec_bin rfl e94 e97 (by kernel_rfl) (EQ.out w1)) (hK _ _ (show _ = _ from rfl) (Below.refl _ _) (Fresh.no _ _ _))
          · intro w1 hb hd K hK
            have e98 := D98.trans (show u 10 = _ from hd ⟨10, .data⟩ (by simp) rfl (by omega))
            exact op_val (v := (.bool false)) rfl (by simp only [execOp, List.map_toArray, List.map_cons, List.map_nil, e98]; go_simp) (hK _ _ (show _ = _ from rfl) (Below.refl _ _) (Fresh.no _ _ _))
          · intro w1 hb hd K hK
            have e99 := D99.trans (show u 11 = _ from hd ⟨11, .data⟩ (by simp) rfl (by omega))
            exact op_val (v := (.bool false)) rfl (by simp only [execOp, List.map_toArray, List.map_cons, List.map_nil, e99]; go_simp) (hK _ _ (show _ = _ from rfl) (Below.refl _ _) (Fresh.no _ _ _))
          · intro w1 hb hd K hK
            have e10 := E10
            have g := D100.trans (show u 12 = .bool false from hd ⟨12, .guard⟩ (by simp) rfl (by omega))
            exact op_val_w (v := (.int .i64 (i : Int))) (wanted_of (j := 12) (s := 100) (b := false) (by kernel_rfl) (by kernel_rfl) g) (by simp only [execOp, List.map_toArray, List.map_cons, List.map_nil, e10]; go_simp) (hK _ _ (show _ = _ from rfl) (Below.refl _ _) (Fresh.no _ _ _))
          · intro w1 hb hd K hK
            have e0 := E0
            have g := D100.trans (show u 12 = .bool false from hd ⟨12, .guard⟩ (by simp) rfl (by omega))
            exact op_val_w (v := (.slice (some ⟨pl, 0, none⟩) Kn cl)) (wanted_of (j := 12) (s := 100) (b := false) (by kernel_rfl) (by kernel_rfl) g) (by simp only [execOp, List.map_toArray, List.map_cons, List.map_nil, e0]; go_simp) (hK _ _ (show _ = _ from rfl) (Below.refl _ _) (Fresh.no _ _ _))
          · intro w1 hb hd K hK
            have e9 := E9
            have g := D100.trans (show u 12 = .bool false from hd ⟨12, .guard⟩ (by simp) rfl (by omega))
            exact op_val_w (v := (.int .i64 (k : Int))) (wanted_of (j := 12) (s := 100) (b := false) (by kernel_rfl) (by kernel_rfl) g) (by simp only [execOp, List.map_toArray, List.map_cons, List.map_nil, e9]; go_simp) (hK _ _ (show _ = _ from rfl) (Below.refl _ _) (Fresh.no _ _ _))
          · intro w1 hb hd K hK
            have e102 := D102.trans (show u 14 = _ from hd ⟨14, .data⟩ (by simp) rfl (by omega))
            have e103 := D103.trans (show u 15 = _ from hd ⟨15, .data⟩ (by simp) rfl (by omega))
            have g := D100.trans (show u 12 = .bool false from hd ⟨12, .guard⟩ (by simp) rfl (by omega))
            exact op_val_w (v := (.pointer (some ⟨pl, k, none⟩))) (wanted_of (j := 12) (s := 100) (b := false) (by kernel_rfl) (by kernel_rfl) g) (by simp only [execOp, List.map_toArray, List.map_cons, List.map_nil, e102, e103]; go_simp) (hK _ _ (show _ = _ from rfl) (Below.refl _ _) (Fresh.no _ _ _))
          · intro w1 hb hd K hK
            have e104 := D104.trans (show u 16 = _ from hd ⟨16, .data⟩ (by simp) rfl (by omega))
            have g := D100.trans (show u 12 = .bool false from hd ⟨12, .guard⟩ (by simp) rfl (by omega))
            have c0 : w1.cell? ⟨pl, k, none⟩ = some (.slice A n c) := (XC.out w1 (HBW.out.trans (hb.mono HBW.out.size))).2.1
            exact op_val_w (v := (.slice A n c)) (wanted_of (j := 12) (s := 100) (b := false) (by kernel_rfl) (by kernel_rfl) g) (by simp only [execOp, e104]; go_simp) (hK _ _ (show _ = _ from rfl) (Below.refl _ _) (Fresh.no _ _ _))
          · intro w1 hb hd K hK
            have e105 := D105.trans (show u 17 = _ from hd ⟨17, .data⟩ (by simp) rfl (by omega))
            have g := D100.trans (show u 12 = .bool false from hd ⟨12, .guard⟩ (by simp) rfl (by omega))
            exact op_val_w (v := (.int .i64 (n : Int))) (wanted_of (j := 12) (s := 100) (b := false) (by kernel_rfl) (by kernel_rfl) g) (exec_len Tryz.underlying40 rfl e105) (hK _ _ (show _ = _ from rfl) (Below.refl _ _) (Fresh.no _ _ _))
          · intro w1 hb hd K hK
            have e101 := D101.trans (show u 13 = _ from hd ⟨13, .data⟩ (by simp) rfl (by omega))
            have e106 := D106.trans (show u 18 = _ from hd ⟨18, .data⟩ (by simp) rfl (by omega))
            have g := D100.trans (show u 12 = .bool false from hd ⟨12, .guard⟩ (by simp) rfl (by omega))
            exact op_val_w (v := (.bool false)) (wanted_of (j := 12) (s := 100) (b := false) (by kernel_rfl) (by kernel_rfl) g) (by simp only [execOp, List.map_toArray, List.map_cons, List.map_nil, e101, e106]; go_simp) (hK _ _ (show _ = _ from rfl) (Below.refl _ _) (Fresh.no _ _ _))
          · intro w1 hb hd K hK
            have e107 := D107.trans (show u 19 = _ from hd ⟨19, .data⟩ (by simp) rfl (by omega))
            have g := D100.trans (show u 12 = .bool false from hd ⟨12, .guard⟩ (by simp) rfl (by omega))
            exact op_val_w (v := (.bool false)) (wanted_of (j := 12) (s := 100) (b := false) (by kernel_rfl) (by kernel_rfl) g) (by simp only [execOp, List.map_toArray, List.map_cons, List.map_nil, e107]; go_simp) (hK _ _ (show _ = _ from rfl) (Below.refl _ _) (Fresh.no _ _ _))
          · intro w1 hb hd K hK
            have g := D108.trans (show u 20 = .bool false from hd ⟨20, .guard⟩ (by simp) rfl (by omega))
            exact op_pass (unwanted_of (j := 20) (s := 108) (b := true) (by kernel_rfl) (by kernel_rfl) g) (hK _ _ (show _ = _ from rfl) (Below.refl _ _) (Fresh.no _ _ _))
          · intro w1 hb hd K hK
            have g := D108.trans (show u 20 = .bool false from hd ⟨20, .guard⟩ (by simp) rfl (by omega))
            exact op_pass (unwanted_of (j := 20) (s := 108) (b := true) (by kernel_rfl) (by kernel_rfl) g) (hK _ _ (show _ = _ from rfl) (Below.refl _ _) (Fresh.no _ _ _))
          · intro w1 hb hd K hK
            have g := D108.trans (show u 20 = .bool false from hd ⟨20, .guard⟩ (by simp) rfl (by omega))
            exact op_pass (unwanted_of (j := 20) (s := 108) (b := true) (by kernel_rfl) (by kernel_rfl) g) (hK _ _ (show _ = _ from rfl) (Below.refl _ _) (Fresh.no _ _ _))
          · intro w1 hb hd K hK
            have g := D108.trans (show u 20 = .bool false from hd ⟨20, .guard⟩ (by simp) rfl (by omega))
            exact op_pass (unwanted_of (j := 20) (s := 108) (b := true) (by kernel_rfl) (by kernel_rfl) g) (hK _ _ (show _ = _ from rfl) (Below.refl _ _) (Fresh.no _ _ _))
          · intro w1 hb hd K hK
            have g := D108.trans (show u 20 = .bool false from hd ⟨20, .guard⟩ (by simp) rfl (by omega))
            exact op_pass (unwanted_of (j := 20) (s := 108) (b := true) (by kernel_rfl) (by kernel_rfl) g) (hK _ _ (show _ = _ from rfl) (Below.refl _ _) (Fresh.no _ _ _))
          · intro w1 hb hd K hK
            have g := D108.trans (show u 20 = .bool false from hd ⟨20, .guard⟩ (by simp) rfl (by omega))
            exact op_pass (unwanted_of (j := 20) (s := 108) (b := true) (by kernel_rfl) (by kernel_rfl) g) (hK _ _ (show _ = _ from rfl) (Below.refl _ _) (Fresh.no _ _ _))
          · intro w1 hb hd K hK
            have g := D108.trans (show u 20 = .bool false from hd ⟨20, .guard⟩ (by simp) rfl (by omega))
            exact op_pass (unwanted_of (j := 20) (s := 108) (b := true) (by kernel_rfl) (by kernel_rfl) g) (hK _ _ (show _ = _ from rfl) (Below.refl _ _) (Fresh.no _ _ _))
          · intro w1 hb hd K hK
            have g := D108.trans (show u 20 = .bool false from hd ⟨20, .guard⟩ (by simp) rfl (by omega))
            exact op_pass (unwanted_of (j := 20) (s := 108) (b := true) (by kernel_rfl) (by kernel_rfl) g) (hK _ _ (show _ = _ from rfl) (Below.refl _ _) (Fresh.no _ _ _))
          · intro w1 hb hd K hK
            have g := D108.trans (show u 20 = .bool false from hd ⟨20, .guard⟩ (by simp) rfl (by omega))
            exact op_pass (unwanted_of (j := 20) (s := 108) (b := true) (by kernel_rfl) (by kernel_rfl) g) (hK _ _ (show _ = _ from rfl) (Below.refl _ _) (Fresh.no _ _ _))
          · intro w1 hb hd K hK
            have g := D108.trans (show u 20 = .bool false from hd ⟨20, .guard⟩ (by simp) rfl (by omega))
            exact op_pass (unwanted_of (j := 20) (s := 108) (b := true) (by kernel_rfl) (by kernel_rfl) g) (hK _ _ (show _ = _ from rfl) (Below.refl _ _) (Fresh.no _ _ _))
          · intro w1 hb hd K hK
            have g := D108.trans (show u 20 = .bool false from hd ⟨20, .guard⟩ (by simp) rfl (by omega))
            exact op_pass (unwanted_of (j := 20) (s := 108) (b := true) (by kernel_rfl) (by kernel_rfl) g) (hK _ _ (show _ = _ from rfl) (Below.refl _ _) (Fresh.no _ _ _))
          · intro w1 hb hd K hK
            have g := D108.trans (show u 20 = .bool false from hd ⟨20, .guard⟩ (by simp) rfl (by omega))
            exact op_pass (unwanted_of (j := 20) (s := 108) (b := true) (by kernel_rfl) (by kernel_rfl) g) (hK _ _ (show _ = _ from rfl) (Below.refl _ _) (Fresh.no _ _ _))
          · intro w1 hb hd K hK
            have e108 := D108.trans (show u 20 = _ from hd ⟨20, .data⟩ (by simp) rfl (by omega))
            have g := D100.trans (show u 12 = .bool false from hd ⟨12, .guard⟩ (by simp) rfl (by omega))
            exact op_val_w (v := (.bool false)) (wanted_of (j := 12) (s := 100) (b := false) (by kernel_rfl) (by kernel_rfl) g) (by simp only [execOp, List.map_toArray, List.map_cons, List.map_nil, e108]; go_simp) (hK _ _ (show _ = _ from rfl) (Below.refl _ _) (Fresh.no _ _ _))
        have hv88 : u 0 = (.slice (some ⟨pg, 0, none⟩) Kn Kn) := (show u 0 = _ from hsF 0 (by omega) (by omega))
        have hv89 : u 1 = (.int .i64 (k : Int)) := (show u 1 = _ from hsF 1 (by omega) (by omega))
        have hv90 : u 2 = (.pointer (some ⟨pg, k, none⟩)) := (show u 2 = _ from hsF 2 (by omega) (by omega))
        have hv91 : u 3 = (.slice (some ⟨gg, 0, none⟩) (n + 64) cg) := (show u 3 = _ from hsF 3 (by omega) (by omega))
        have hv92 : u 4 = (.int .i64 (i : Int)) := (show u 4 = _ from hsF 4 (by omega) (by omega))
        have hv93 : u 5 = (.pointer (some ⟨gg, i * 33, none⟩)) := (show u 5 = _ from hsF 5 (by omega) (by omega))
        have hv94 : u 6 = (.agg (enC e)) := (show u 6 = _ from hsF 6 (by omega) (by omega))
        have hv95 : u 7 = (.int .i64 (k : Int)) := (show u 7 = _ from hsF 7 (by omega) (by omega))
        have hv96 : u 8 = (.int .i64 (i : Int)) := (show u 8 = _ from hsF 8 (by omega) (by omega))
        have hv97 : u 9 = (.agg (enC e)) := (show u 9 = _ from hsF 9 (by omega) (by omega))
        have hv98 : u 10 = (.bool true) := (show u 10 = _ from hsF 10 (by omega) (by omega))
        have hv99 : u 11 = (.bool false) := (show u 11 = _ from hsF 11 (by omega) (by omega))
        have hv100 : u 12 = (.bool false) := (show u 12 = _ from hsF 12 (by omega) (by omega))
        have hv101 : u 13 = (.int .i64 (i : Int)) := (show u 13 = _ from hsF 13 (by omega) (by omega))
        have hv102 : u 14 = (.slice (some ⟨pl, 0, none⟩) Kn cl) := (show u 14 = _ from hsF 14 (by omega) (by omega))
        have hv103 : u 15 = (.int .i64 (k : Int)) := (show u 15 = _ from hsF 15 (by omega) (by omega))
        have hv104 : u 16 = (.pointer (some ⟨pl, k, none⟩)) := (show u 16 = _ from hsF 16 (by omega) (by omega))
        have hv105 : u 17 = (.slice A n c) := (show u 17 = _ from hsF 17 (by omega) (by omega))
        have hv106 : u 18 = (.int .i64 (n : Int)) := (show u 18 = _ from hsF 18 (by omega) (by omega))
        have hv107 : u 19 = (.bool false) := (show u 19 = _ from hsF 19 (by omega) (by omega))
        have hv108 : u 20 = (.bool false) := (show u 20 = _ from hsF 20 (by omega) (by omega))
        have hv109 : u 21 = undef := (show u 21 = _ from hsF 21 (by omega) (by omega))
        have hv110 : u 22 = undef := (show u 22 = _ from hsF 22 (by omega) (by omega))
        have hv111 : u 23 = undef := (show u 23 = _ from hsF 23 (by omega) (by omega))
        have hv112 : u 24 = undef := (show u 24 = _ from hsF 24 (by omega) (by omega))
        have hv113 : u 25 = undef := (show u 25 = _ from hsF 25 (by omega) (by omega))
        have hv114 : u 26 = undef := (show u 26 = _ from hsF 26 (by omega) (by omega))
        have hv115 : u 27 = undef := (show u 27 = _ from hsF 27 (by omega) (by omega))
        have hv116 : u 28 = undef := (show u 28 = _ from hsF 28 (by omega) (by omega))
        have hv117 : u 29 = undef := (show u 29 = _ from hsF 29 (by omega) (by omega))
        have hv118 : u 30 = undef := (show u 30 = _ from hsF 30 (by omega) (by omega))
        have hv119 : u 31 = undef := (show u 31 = _ from hsF 31 (by omega) (by omega))
        have hv120 : u 32 = undef := (show u 32 = _ from hsF 32 (by omega) (by omega))
        have hv121 : u 33 = (.bool false) := (show u 33 = _ from hsF 33 (by omega) (by omega))
        simp only [putRow, hv88, hv89, hv90, hv91, hv92, hv93, hv94, hv95, hv96, hv97, hv98, hv99, hv100, hv101, hv102, hv103, hv104, hv105, hv106, hv107, hv108, hv109, hv110, hv111, hv112, hv113, hv114, hv115, hv116, hv117, hv118, hv119, hv120, hv121, Act.put, List.setIfInBounds_toArray, List.set_cons_succ, List.set_cons_zero]
        clear hsF hold hap hv88 hv89 hv90 hv91 hv92 hv93 hv94 hv95 hv96 hv97 hv98 hv99 hv100 hv101 hv102 hv103 hv104 hv105 hv106 hv107 hv108 hv109 hv110 hv111 hv112 hv113 hv114 hv115 hv116 hv117 hv118 hv119 hv120 hv121
        have H4 := Lib.hid (H3.out.keep hbF)
        clear H3 hbF M1 XC EQ HBW
        refine rest_forced 1 (by kernel_rfl) ?_
        simp only [List.drop_succ_cons, List.drop_zero, List.take_succ_cons, List.take_zero]
        go_wp2_with fail
        refine rest_done rfl ?_
        clear W4
        go_wp2_with fail
        go_roundw
        case rel => exact ⟨i + 1, HI.out.2, by simp, H4⟩
        case measure => have := HI.out.2; simp only [intOf]; omega
    · obtain rfl : i = n + 64 := by omega
      have u2 : decide (((n + 64 : Nat) : Int) < (n : Int) + 64) = false := decide_eq_false (by omega)
      have u2b : decide (((n + 64 : Nat) : Int) < ((n + 64 : Nat) : Int)) = false := decide_eq_false (by omega)
      clear hlt hi hag
      go_wp2_with fail
      go_roundw
      case rel => exact ⟨k + 1, HK.out, by simp, H2⟩
      case measure => have := HK.out; simp only [intOf]; omega
  have u1 : decide ((k : Int) < (Kn : Int)) = false := decide_eq_false (by omega)
  have u1b : decide (k < Kn) = false := decide_eq_false (by omega)
  have u1c : Kn ≤ k := by omega
  have H1' := Lib.hid (H1.out.again (mk3 L Kn))
  clear hlt hk e1 H1
  go_wp2_with fail
  go_loopw [11] (fun s11 wr => ∃ (k : Nat) (U : Nat → Value) (N : Nat → List En) (G : Array Value), k ≤ Kn ∧ s11 = .int .i64 (k : Int) ∧ Hid (FG w B Kn pl pg CV V U (mkM L) N G k (mk3 L Kn) wr)) (fun s11 _ => Kn - (intOf s11).toNat)
  case atStart => exact ⟨0, _, _, _, Nat.zero_le _, rfl, H1'⟩
  case round =>
  clear H1' u1 u1b u1c
  obtain ⟨k, U, N, G, hk, rfl, H1⟩ := hrel
  have e1 : IntKind.i64.wrap ((k : Int) + 1) = (k : Int) + 1 := IntWalk.i64_in _ (by omega)
  by_cases hlt : k < Kn
  · have u1 : decide ((k : Int) < (Kn : Int)) = true := decide_eq_true (by omega)
    obtain ⟨A, c, hA, -, -⟩ := H1.out.at hlt
    have hml : (mkM L k).length = (L k).length := marksE_len _ _
    have hn1 := HL.out k
    obtain ⟨n, hn⟩ : ∃ n, (L k).length = n := ⟨_, rfl⟩
    rw [hml, hn] at hA
    rw [hn] at hn1
    have HN := Lib.hid (And.intro hn hA)
    have j0 : (0 : Int) ≤ (k : Int) := by omega
    have j1 : (k : Int) < (Kn : Int) := by omega
    have j3 : ¬ (Kn : Int) ≤ (k : Int) := by omega
    have j6 : ¬ Kn ≤ k := by omega
    have HK := Lib.hid hlt
    have e3 : IntKind.i64.wrap ((k : Int) + (Kn : Int)) = (k : Int) + (Kn : Int) := IntWalk.i64_in _ (by omega)
    have HKK : Hid (k + Kn ≤ 1000) := Lib.hid (by omega)
    clear hn hA hlt hk hml
    go_wp2_with (at_make; refine op_make (t := 40) (e := 34) rfl _ _ rfl Tryz.underlying40 hie hze 64 rfl rfl (by rw [hse]; omega) (by rw [hbe]; omega) (by omega) ?_)
    have H2 := Lib.hid (H1.out.made (Y := List.replicate 64 zE) (n := 64) (madeCells (enC zE) 2112) (zero_rows 64) (by rw [List.length_replicate]))
    generalize madeCells (enC zE) 2112 = C0 at *
    generalize wr.alloc (.cells C0 34) = w1 at *
    generalize wr.heap.size = pm at *
    clear H1 u1
    go_loopw [13] (fun s13 wr => ∃ i : Nat, i ≤ 64 ∧ s13 = .int .i64 (i : Int) ∧ Hid (FM w B Kn pl pg CV V U (mkM L) N G k (mk3 L Kn) pm 64 (marksE (k + Kn) i ++ (List.replicate 64 zE).drop i) wr)) (fun s13 _ => 64 - (intOf s13).toNat)
    case atStart => exact ⟨0, Nat.zero_le _, rfl, H2⟩
    case round =>
    clear H2
    obtain ⟨i, hi, rfl, H2⟩ := hrel
    have hyl : (marksE (k + Kn) i ++ (List.replicate 64 zE).drop i).length = 64 := by rw [List.length_append, marksE_len, List.length_drop, List.length_replicate]; omega
    by_cases hlt : i < 64
    · have u2 : decide ((i : Int) < 64) = true := decide_eq_true (by omega)
      have e2 : IntKind.i64.wrap ((i : Int) + 1) = (i : Int) + 1 := IntWalk.i64_in _ (by omega)
      have k0 : (0 : Int) ≤ (i : Int) := by omega
      have k1 : (i : Int) < 64 := by omega
      have k3 : ¬ (64 : Int) ≤ (i : Int) := by omega
      have k6 : ¬ 64 ≤ i := by omega
      have M0 := fun W => markEntry_any (k + Kn) i HKK.out (by omega) W
      rw [show ((k + Kn : Nat) : Int) = (k : Int) + (Kn : Int) by omega] at M0
      have M1 := Lib.hid M0
      have HI := Lib.hid hlt
      have HYL := Lib.hid hyl
      have HMS := Lib.hid (mark_set (k := k + Kn) (i := i) (L := List.replicate 64 zE) (by rw [List.length_replicate]; exact hlt))
      clear M0 hlt hi hyl
      go_wp2_with fail
      refine (M1.out _).mono ?_
      rintro r w2 ⟨rfl, hb⟩
      have H3 := Lib.hid (H2.out.keep hb)
      obtain ⟨st, h5⟩ := H3.out.put HYL.out HI.out (markE (k + Kn) i)
      rw [HMS.out] at h5
      have H5 := Lib.hid h5
      clear h5 hb H2 M1
      go_wp2_with (refine op_store (p := .pointer (some ⟨pm, i * 33, none⟩)) (C := .agg (enC (markE (k + Kn) i))) 34 (.tmp 142) (.tmp 141) rfl rfl rfl rfl rfl st ?_)
      clear st H3
      generalize w2.setCells pm (i * 33) (enC (markE (k + Kn) i)).toList = w5 at *
      go_roundw
      case rel => exact ⟨i + 1, HI.out, by simp, H5⟩
      case measure => have := HI.out; simp only [intOf]; omega
    · obtain rfl : i = 64 := by omega
      have u2 : decide ((64 : Int) < 64) = false := rfl
      rw [show ((64 : Nat) : Int) = 64 from rfl]
      have hY : marksE (k + Kn) 64 ++ (List.replicate 64 zE).drop 64 = marksE (k + Kn) 64 := by rw [List.drop_eq_nil_of_le (by simp), List.append_nil]
      have h2 := H2.out
      rw [hY] at h2
      have hs := h2.ap.es
      rw [marksE_len] at hs
      have HSR := Lib.hid (src_es hs (marksE_len _ _))
      obtain ⟨A', c', hA', x1, hap⟩ := h2.fg.at HK.out
      rw [show (mkM L k).length = n by unfold mkM; rw [marksE_len]; exact HN.out.1] at hA' x1 hap
      obtain ⟨rfl, rfl⟩ : A = A' ∧ c = c' := by
        have h9 := HN.out.2
        rw [hA'] at h9
        injection h9 with a1 a2 a3
        exact ⟨a1.symm, a3.symm⟩
      have HAP := Lib.hid hap
      have H3 := Lib.hid (h2.fg.begin HK.out)
      have hml : (mkM L k).length = n := by unfold mkM; rw [marksE_len]; exact HN.out.1
      have hz : n + 64 ≤ 1000000 := by omega
      obtain ⟨gv, hgv⟩ : ∃ gv, G[k]? = some gv := ⟨_, Array.getElem?_eq_getElem (by rw [h2.fg.gs]; exact HK.out)⟩
      have HGV := Lib.hid hgv
      have hlE : (mkM L k ++ marksE (k + Kn) 64).length = n + 64 := by rw [List.length_append, hml, marksE_len]
      clear hlt hi hyl hY h2 hs hA' hap hgv H2
      go_wp2_with (at_builtin; refine op_ap rfl _ _ rfl (.slice A n c) (.slice (some ⟨pm, 0, none⟩) 64 64) n 64 (mkM L k) (marksE (k + Kn) 64) rfl rfl hml HAP.out (marksE_len _ _) HSR.out hz ?_; intro u5 w5 hap5 hga5; obtain ⟨A5, c5, hu5⟩ := hap5.len; rw [hlE] at hu5; subst hu5; have H5 := Lib.hid (H3.out.grow (Y := marksE (k + Kn) 64) HK.out (by rw [updN_same]; exact hap5) (by rw [updN_same, HN.out.2]; exact hga5)); have x5 := H5.out.bg.cell HGV.out; have f5 := H5.out.bg.free k)
      have H6 := Lib.hid (H5.out.fix HK.out HNE.out (updN_same _ _ _) (by rw [updN_same, updN_same]; unfold mkM mk3; rfl))
      clear H5 x5 f5 hap5 hga5 H3 HAP HSR x1
      generalize w5.setCell ⟨pg, k, none⟩ (.slice A5 (n + 64) c5) = w6 at *
      go_roundw
      case rel => exact ⟨k + 1, _, _, _, HK.out, by simp, H6⟩
      case measure => have := HK.out; simp only [intOf]; omega
  have hkK : k = Kn := by omega
  have u1 : decide ((k : Int) < (Kn : Int)) = false := decide_eq_false (by omega)
  have u1b : decide (k < Kn) = false := decide_eq_false (by omega)
  have u1c : Kn ≤ k := by omega
  have H2 : Hid (FG w B Kn pl pg CV V U (mkM L) N G Kn (mk3 L Kn) wr) := Lib.hid (by have h := H1.out; rw [hkK] at h; exact h)
  clear hlt hk e1 hkK H1
  go_wp2_with fail
  go_loopw [14] (fun s14 wr => ∃ k : Nat, k ≤ Kn ∧ s14 = .int .i64 (k : Int) ∧ Hid (FG w B Kn pl pg CV V U (mkM L) N G Kn (mk3 L Kn) wr)) (fun s14 _ => Kn - (intOf s14).toNat)
  case atStart => exact ⟨0, Nat.zero_le _, rfl, H2⟩
  case round =>
  clear H2 u1 u1b u1c
  obtain ⟨k, hk, rfl, H1⟩ := hrel
  have e1 : IntKind.i64.wrap ((k : Int) + 1) = (k : Int) + 1 := IntWalk.i64_in _ (by omega)
  by_cases hlt : k < Kn
  · have u1 : decide ((k : Int) < (Kn : Int)) = true := decide_eq_true (by omega)
    have hml : (mkM L k).length = (L k).length := marksE_len _ _
    have hxl : (mk3 L Kn k).length = (L k).length + 64 := by unfold mk3; rw [List.length_append, marksE_len, marksE_len]
    have hn1 := HL.out k
    obtain ⟨n, hn⟩ : ∃ n, (L k).length = n := ⟨_, rfl⟩
    rw [hn] at hn1 hml hxl
    have HN := Lib.hid (And.intro hn (And.intro hml hxl))
    have j0 : (0 : Int) ≤ (k : Int) := by omega
    have j1 : (k : Int) < (Kn : Int) := by omega
    have j3 : ¬ (Kn : Int) ≤ (k : Int) := by omega
    have j6 : ¬ Kn ≤ k := by omega
    have HK := Lib.hid hlt
    have hk2 : k ≤ 1000 := by omega
    clear hn hlt hk hml hxl
    go_wp2_with fail
    clear u1
    go_loopw [15] (fun s15 wr => ∃ i : Nat, i ≤ n ∧ s15 = .int .i64 (i : Int) ∧ Hid (FG w B Kn pl pg CV V U (mkM L) N G Kn (mk3 L Kn) wr)) (fun s15 _ => n - (intOf s15).toNat)
    case atStart => exact ⟨0, Nat.zero_le _, rfl, H1⟩
    case round =>
    clear H1
    obtain ⟨i, hi, rfl, H2⟩ := hrel
    have e2 : IntKind.i64.wrap ((i : Int) + 1) = (i : Int) + 1 := IntWalk.i64_in _ (by omega)
    obtain ⟨A, c, hA, x1, hap⟩ := H2.out.at HK.out
    rw [HN.out.2.1] at hA x1 hap
    by_cases hlt : i < n
    · have u2 : decide ((i : Int) < (n : Int)) = true := decide_eq_true (by omega)
      obtain ⟨Ag, cg, xg, hag⟩ := H2.out.gat HK.out (Nat.le_refl _)
      rw [HN.out.2.2] at xg hag
      obtain ⟨gg, rfl⟩ := hag.some (by rw [HN.out.2.2]; omega)
      have hX : (mk3 L Kn k)[i]? = some (markE k i) := mk3_at HN.out.1 hlt
      have hm : (mkM L k)[i]? = some (markE k i) := by
        unfold mkM
        rw [HN.out.1]
        exact marksE_at hlt
      obtain ⟨ga, rfl⟩ := hap.some (by rw [HN.out.2.1]; omega)
      have k0 : (0 : Int) ≤ (i : Int) := by omega
      have k1 : (i : Int) < ((n + 64 : Nat) : Int) := by omega
      have k1b : (i : Int) < (n : Int) + 64 := by omega
      have k2 : (i : Int) < (n : Int) := by omega
      have k6 : ¬ n + 64 ≤ i := by omega
      have k7 : ¬ n ≤ i := by omega
      have M0 := fun W => markEntry_any k i hk2 (by omega) W
      have ein := markE_in k i hk2 (by omega)
      obtain ⟨e, hE⟩ : ∃ e, markE k i = e := ⟨_, rfl⟩
      rw [hE] at M0 ein hX hm
      have EQ0 := eql_deep (eq_en e e ein ein)
      rw [(eqEn_iff e e).2 rfl] at EQ0
      have EQ := Lib.hid EQ0
      have M1 := Lib.hid M0
      have HI := Lib.hid hlt
      have XC : Hid (∀ W, Below wr.heap.size wr W → W.cell? ⟨pg, k, none⟩ = some (.slice (some ⟨gg, 0, none⟩) (n + 64) cg) ∧ W.cell? ⟨pl, k, none⟩ = some (.slice (some ⟨ga, 0, none⟩) n c) ∧ (Instr.loadAt 34 (.pointer (some ⟨gg, i * 33, none⟩))).run Tryz.prog W = .ok (.agg (enC e)) W ∧ (Instr.loadAt 34 (.pointer (some ⟨ga, i * 33, none⟩))).run Tryz.prog W = .ok (.agg (enC e)) W) := Lib.hid (fun W hW => ⟨keepW hW xg, keepW hW x1, (hag.keep hW).loadg hX, (hap.keep hW).loadg hm⟩)
      have HBW := Lib.hid (Below.refl wr.heap.size wr).drew
      clear M0 ein EQ0 hi hlt hA hap hag hX hm hE xg
      go_upto_region 41 with fail
      clear x1 u2
      refine rest_begin (by kernel_rfl) ?_
      have H3 := Lib.hid H2.out.drew
      obtain ⟨W4, hW4⟩ : ∃ W4, wr.drew = W4 := ⟨_, rfl⟩
      rw [hW4] at H3 HBW ⊢
      clear hW4 H2
      refine rest_flow3 [some 167, some 168, some 169, some 170, some 171, some 172, some 173, some 174, some 175, some 176, some 177, some 178, some 179, some 180, some 181, some 182, some 183, some 184, some 185, some 186, some 187, some 188, some 189, some 190, some 191] [Sp.is (.slice (some ⟨pl, 0, none⟩) Kn cl), Sp.is (.int .i64 (k : Int)), Sp.is (.pointer (some ⟨pl, k, none⟩)), Sp.is (.slice (some ⟨ga, 0, none⟩) n c), Sp.is (.int .i64 (i : Int)), Sp.is (.pointer (some ⟨ga, i * 33, none⟩)), Sp.is (.agg (enC e)), Sp.is (.int .i64 (k : Int)), Sp.is (.int .i64 (i : Int)), Sp.is (.agg (enC e)), Sp.is (.bool true), Sp.is (.bool false), Sp.is (.bool false), Sp.is (.slice (some ⟨pg, 0, none⟩) Kn Kn), Sp.is (.int .i64 (k : Int)), Sp.is (.pointer (some ⟨pg, k, none⟩)), Sp.is (.slice (some ⟨gg, 0, none⟩) (n + 64) cg), Sp.is (.int .i64 (i : Int)), Sp.is (.pointer (some ⟨gg, i * 33, none⟩)), Sp.is (.agg (enC e)), Sp.is (.int .i64 (k : Int)), Sp.is (.int .i64 (i : Int)), Sp.is (.agg (enC e)), Sp.is (.bool true), Sp.is (.bool false)] [false, false, false, false, false, false, false, false, false, false, false, false, false, false, false, false, false, false, false, false, false, false, false, false, false] 25 (by kernel_rfl) (by kernel_rfl) (fun u F hF => ?_) (fun u w' hbF hsF hold hap => ?_)
      case refine_1 =>
        have E0 : F.eval (.tmp 0) = (.slice (some ⟨pl, 0, none⟩) Kn cl) := (congrArg (fun a => Act.eval a (.tmp 0)) hF).trans (eval_out _ 0 _ (by decide))
        have E14 : F.eval (.tmp 14) = (.int .i64 (k : Int)) := (congrArg (fun a => Act.eval a (.tmp 14)) hF).trans (eval_out _ 0 _ (by decide))
        have D167 : F.eval (.tmp 167) = u 0 := (congrArg (fun a => Act.eval a (.tmp 167)) hF).trans (eval_in _ 0 0 _ (by decide) (by omega) rfl (of_decide_eq_true (by kernel_rfl)))
        have D168 : F.eval (.tmp 168) = u 1 := (congrArg (fun a => Act.eval a (.tmp 168)) hF).trans (eval_in _ 0 1 _ (by decide) (by omega) rfl (of_decide_eq_true (by kernel_rfl)))
        have D169 : F.eval (.tmp 169) = u 2 := (congrArg (fun a => Act.eval a (.tmp 169)) hF).trans (eval_in _ 0 2 _ (by decide) (by omega) rfl (of_decide_eq_true (by kernel_rfl)))
        have E15 : F.eval (.tmp 15) = (.int .i64 (i : Int)) := (congrArg (fun a => Act.eval a (.tmp 15)) hF).trans (eval_out _ 0 _ (by decide))
        have D170 : F.eval (.tmp 170) = u 3 := (congrArg (fun a => Act.eval a (.tmp 170)) hF).trans (eval_in _ 0 3 _ (by decide) (by omega) rfl (of_decide_eq_true (by kernel_rfl)))
        have D171 : F.eval (.tmp 171) = u 4 := (congrArg (fun a => Act.eval a (.tmp 171)) hF).trans (eval_in _ 0 4 _ (by decide) (by omega) rfl (of_decide_eq_true (by kernel_rfl)))
        have D172 : F.eval (.tmp 172) = u 5 := (congrArg (fun a => Act.eval a (.tmp 172)) hF).trans (eval_in _ 0 5 _ (by decide) (by omega) rfl (of_decide_eq_true (by kernel_rfl)))
        have D174 : F.eval (.tmp 174) = u 7 := (congrArg (fun a => Act.eval a (.tmp 174)) hF).trans (eval_in _ 0 7 _ (by decide) (by omega) rfl (of_decide_eq_true (by kernel_rfl)))
        have D175 : F.eval (.tmp 175) = u 8 := (congrArg (fun a => Act.eval a (.tmp 175)) hF).trans (eval_in _ 0 8 _ (by decide) (by omega) rfl (of_decide_eq_true (by kernel_rfl)))
        have D173 : F.eval (.tmp 173) = u 6 := (congrArg (fun a => Act.eval a (.tmp 173)) hF).trans (eval_in _ 0 6 _ (by decide) (by omega) rfl (of_decide_eq_true (by kernel_rfl)))
        have D176 : F.eval (.tmp 176) = u 9 := (congrArg (fun a => Act.eval a (.tmp 176)) hF).trans (eval_in _ 0 9 _ (by decide) (by omega) rfl (of_decide_eq_true (by kernel_rfl)))
        have D177 : F.eval (.tmp 177) = u 10 := (congrArg (fun a => Act.eval a (.tmp 177)) hF).trans (eval_in _ 0 10 _ (by decide) (by omega) rfl (of_decide_eq_true (by kernel_rfl)))
        have D178 : F.eval (.tmp 178) = u 11 := (congrArg (fun a => Act.eval a (.tmp 178)) hF).trans (eval_in _ 0 11 _ (by decide) (by omega) rfl (of_decide_eq_true (by kernel_rfl)))
        have E5 : F.eval (.tmp 5) = (.slice (some ⟨pg, 0, none⟩) Kn Kn) := (congrArg (fun a => Act.eval a (.tmp 5)) hF).trans (eval_out _ 0 _ (by decide))
        have D179 : F.eval (.tmp 179) = u 12 := (congrArg (fun a => Act.eval a (.tmp 179)) hF).trans (eval_in _ 0 12 _ (by decide) (by omega) rfl (of_decide_eq_true (by kernel_rfl)))
        have D180 : F.eval (.tmp 180) = u 13 := (congrArg (fun a => Act.eval a (.tmp 180)) hF).trans (eval_in _ 0 13 _ (by decide) (by omega) rfl (of_decide_eq_true (by kernel_rfl)))
        have D181 : F.eval (.tmp 181) = u 14 := (congrArg (fun a => Act.eval a (.tmp 181)) hF).trans (eval_in _ 0 14 _ (by decide) (by omega) rfl (of_decide_eq_true (by kernel_rfl)))
        have D182 : F.eval (.tmp 182) = u 15 := (congrArg (fun a => Act.eval a (.tmp 182)) hF).trans (eval_in _ 0 15 _ (by decide) (by omega) rfl (of_decide_eq_true (by kernel_rfl)))
        have D183 : F.eval (.tmp 183) = u 16 := (congrArg (fun a => Act.eval a (.tmp 183)) hF).trans (eval_in _ 0 16 _ (by decide) (by omega) rfl (of_decide_eq_true (by kernel_rfl)))
        have D184 : F.eval (.tmp 184) = u 17 := (congrArg (fun a => Act.eval a (.tmp 184)) hF).trans (eval_in _ 0 17 _ (by decide) (by omega) rfl (of_decide_eq_true (by kernel_rfl)))
        have D185 : F.eval (.tmp 185) = u 18 := (congrArg (fun a => Act.eval a (.tmp 185)) hF).trans (eval_in _ 0 18 _ (by decide) (by omega) rfl (of_decide_eq_true (by kernel_rfl)))
        have D187 : F.eval (.tmp 187) = u 20 := (congrArg (fun a => Act.eval a (.tmp 187)) hF).trans (eval_in _ 0 20 _ (by decide) (by omega) rfl (of_decide_eq_true (by kernel_rfl)))
        have D188 : F.eval (.tmp 188) = u 21 := (congrArg (fun a => Act.eval a (.tmp 188)) hF).trans (eval_in _ 0 21 _ (by decide) (by omega) rfl (of_decide_eq_true (by kernel_rfl)))
        have D186 : F.eval (.tmp 186) = u 19 := (congrArg (fun a => Act.eval a (.tmp 186)) hF).trans (eval_in _ 0 19 _ (by decide) (by omega) rfl (of_decide_eq_true (by kernel_rfl)))
        have D189 : F.eval (.tmp 189) = u 22 := (congrArg (fun a => Act.eval a (.tmp 189)) hF).trans (eval_in _ 0 22 _ (by decide) (by omega) rfl (of_decide_eq_true (by kernel_rfl)))
        have D190 : F.eval (.tmp 190) = u 23 := (congrArg (fun a => Act.eval a (.tmp 190)) hF).trans (eval_in _ 0 23 _ (by decide) (by omega) rfl (of_decide_eq_true (by kernel_rfl)))
        clear hF
        refine ⟨?_, ?_, ?_, ?_, ?_, ?_, ?_, ?_, ?_, ?_, ?_, ?_, ?_, ?_, ?_, ?_, ?_, ?_, ?_, ?_, ?_, ?_, ?_, ?_, ?_, trivial⟩
        · intro w1 hb hd K hK
          have e0 := E0
          exact op_val (v := (.slice (some ⟨pl, 0, none⟩) Kn cl)) rfl (by simp only [execOp, List.map_toArray, List.map_cons, List.map_nil, e0]; go_simp) (hK _ _ (show _ = _ from rfl) (Below.refl _ _) (Fresh.no _ _ _))
        · intro w1 hb hd K hK
          have e14 := E14
          exact op_val (v := (.int .i64 (k : Int))) rfl (by simp only [execOp, List.map_toArray, List.map_cons, List.map_nil, e14]; go_simp) (hK _ _ (show _ = _ from rfl) (Below.refl _ _) (Fresh.no _ _ _))
        · intro w1 hb hd K hK
          have e167 := D167.trans (show u 0 = _ from hd ⟨0, .data⟩ (by simp) rfl (by omega))
          have e168 := D168.trans (show u 1 = _ from hd ⟨1, .data⟩ (by simp) rfl (by omega))
          exact op_val (v := (.pointer (some ⟨pl, k, none⟩))) rfl (by simp only [execOp, List.map_toArray, List.map_cons, List.map_nil, e167, e168]; go_simp) (hK _ _ (show _ = _ from rfl) (Below.refl _ _) (Fresh.no _ _ _))
        · intro w1 hb hd K hK
          have e169 := D169.trans (show u 2 = _ from hd ⟨2, .data⟩ (by simp) rfl (by omega))
          have c0 : w1.cell? ⟨pl, k, none⟩ = some (.slice (some ⟨ga, 0, none⟩) n c) := (XC.out w1 (HBW.out.trans (hb.mono HBW.out.size))).2.1
          exact op_val (v := (.slice (some ⟨ga, 0, none⟩) n c)) rfl (by simp only [execOp, e169]; go_simp) (hK _ _ (show _ = _ from rfl) (Below.refl _ _) (Fresh.no _ _ _))
        · intro w1 hb hd K hK
          have e15 := E15
          exact op_val (v := (.int .i64 (i : Int))) rfl (by simp only [execOp, List.map_toArray, List.map_cons, List.map_nil, e15]; go_simp) (hK _ _ (show _ = _ from rfl) (Below.refl _ _) (Fresh.no _ _ _))
        · intro w1 hb hd K hK
          have e170 := D170.trans (show u 3 = _ from hd ⟨3, .data⟩ (by simp) rfl (by omega))
          have e171 := D171.trans (show u 4 = _ from hd ⟨4, .data⟩ (by simp) rfl (by omega))
          exact op_val (v := (.pointer (some ⟨ga, i * 33, none⟩))) rfl (by simp only [execOp, List.map_toArray, List.map_cons, List.map_nil, e170, e171]; go_simp) (hK _ _ (show _ = _ from rfl) (Below.refl _ _) (Fresh.no _ _ _))
        · intro w1 hb hd K hK
          have e172 := D172.trans (show u 5 = _ from hd ⟨5, .data⟩ (by simp) rfl (by omega))
          exact op_val (v := (.agg (enC e))) rfl (exec_load rfl e172 (XC.out w1 (HBW.out.trans (hb.mono HBW.out.size))).2.2.2) (hK _ _ (show _ = _ from rfl) (Below.refl _ _) (Fresh.no _ _ _))
        · intro w1 hb hd K hK
          have e14 := E14
          exact op_val (v := (.int .i64 (k : Int))) rfl (by simp only [execOp, List.map_toArray, List.map_cons, List.map_nil, e14]; go_simp) (hK _ _ (show _ = _ from rfl) (Below.refl _ _) (Fresh.no _ _ _))
        · intro w1 hb hd K hK
          have e15 := E15
          exact op_val (v := (.int .i64 (i : Int))) rfl (by simp only [execOp, List.map_toArray, List.map_cons, List.map_nil, e15]; go_simp) (hK _ _ (show _ = _ from rfl) (Below.refl _ _) (Fresh.no _ _ _))
        · intro w1 hb hd K hK
          have e174 := D174.trans (show u 7 = _ from hd ⟨7, .data⟩ (by simp) rfl (by omega))
          have e175 := D175.trans (show u 8 = _ from hd ⟨8, .data⟩ (by simp) rfl (by omega))
          refine op_call (R := fun v w2 => v = (.agg (enC e)) ∧ Below w1.heap.size w1 w2) (f := 80) (args := #[.int .i64 (k : Int), .int .i64 (i : Int)]) rfl (by simp only [execOp]; go_simp; first | exact ⟨eval_get e174, eval_get e175⟩ | (simp only [Act.eval] at *; simp_all)) ((M1.out w1).mono fun e w2 hh => ⟨_, hh.1, rfl, hh.2⟩) (fun v w2 hh => hK _ _ hh.1 hh.2 (Fresh.no _ _ _))
        · intro w1 hb hd K hK
          have e173 := D173.trans (show u 6 = _ from hd ⟨6, .data⟩ (by simp) rfl (by omega))
          have e176 := D176.trans (show u 9 = _ from hd ⟨9, .data⟩ (by simp) rfl (by omega))
          exact op_val (v := (.bool true)) rfl (exec_bin rfl e173 e176 (by kernel_rfl) (EQ.out w1)) (hK _ _ (show _ = _ from rfl) (Below.refl _ _) (Fresh.no _ _ _))
        · intro w1 hb hd K hK
          have e177 := D177.trans (show u 10 = _ from hd ⟨10, .data⟩ (by simp) rfl (by omega))
          exact op_val (v := (.bool false)) rfl (by simp only [execOp, List.map_toArray, List.map_cons, List.map_nil, e177]; go_simp) (hK _ _ (show _ = _ from rfl) (Below.refl _ _) (Fresh.no _ _ _))
        · intro w1 hb hd K hK
          have e178 := D178.trans (show u 11 = _ from hd ⟨11, .data⟩ (by simp) rfl (by omega))
          exact op_val (v := (.bool false)) rfl (by simp only [execOp, List.map_toArray, List.map_cons, List.map_nil, e178]; go_simp) (hK _ _ (show _ = _ from rfl) (Below.refl _ _) (Fresh.no _ _ _))
        · intro w1 hb hd K hK
          have e5 := E5
          have g := D179.trans (show u 12 = .bool false from hd ⟨12, .guard⟩ (by simp) rfl (by omega))
          exact op_val_w (v := (.slice (some ⟨pg, 0, none⟩) Kn Kn)) (wanted_of (j := 12) (s := 179) (b := false) (by kernel_rfl) (by kernel_rfl) g) (by simp only [execOp, List.map_toArray, List.map_cons, List.map_nil, e5]; go_simp) (hK _ _ (show _ = _ from rfl) (Below.refl _ _) (Fresh.no _ _ _))
        · intro w1 hb hd K hK
          have e14 := E14
          have g := D179.trans (show u 12 = .bool false from hd ⟨12, .guard⟩ (by simp) rfl (by omega))
          exact op_val_w (v := (.int .i64 (k : Int))) (wanted_of (j := 12) (s := 179) (b := false) (by kernel_rfl) (by kernel_rfl) g) (by simp only [execOp, List.map_toArray, List.map_cons, List.map_nil, e14]; go_simp) (hK _ _ (show _ = _ from rfl) (Below.refl _ _) (Fresh.no _ _ _))
        · intro w1 hb hd K hK
          have e180 := D180.trans (show u 13 = _ from hd ⟨13, .data⟩ (by simp) rfl (by omega))
          have e181 := D181.trans (show u 14 = _ from hd ⟨14, .data⟩ (by simp) rfl (by omega))
          have g := D179.trans (show u 12 = .bool false from hd ⟨12, .guard⟩ (by simp) rfl (by omega))
          exact op_val_w (v := (.pointer (some ⟨pg, k, none⟩))) (wanted_of (j := 12) (s := 179) (b := false) (by kernel_rfl) (by kernel_rfl) g) (by simp only [execOp, List.map_toArray, List.map_cons, List.map_nil, e180, e181]; go_simp) (hK _ _ (show _ = _ from rfl) (Below.refl _ _) (Fresh.no _ _ _))
        · intro w1 hb hd K hK
          have e182 := D182.trans (show u 15 = _ from hd ⟨15, .data⟩ (by simp) rfl (by omega))
          have g := D179.trans (show u 12 = .bool false from hd ⟨12, .guard⟩ (by simp) rfl (by omega))
          have c0 : w1.cell? ⟨pg, k, none⟩ = some (.slice (some ⟨gg, 0, none⟩) (n + 64) cg) := (XC.out w1 (HBW.out.trans (hb.mono HBW.out.size))).1
          exact op_val_w (v := (.slice (some ⟨gg, 0, none⟩) (n + 64) cg)) (wanted_of (j := 12) (s := 179) (b := false) (by kernel_rfl) (by kernel_rfl) g) (by simp only [execOp, e182]; go_simp) (hK _ _ (show _ = _ from rfl) (Below.refl _ _) (Fresh.no _ _ _))
        · intro w1 hb hd K hK
          have e15 := E15
          have g := D179.trans (show u 12 = .bool false from hd ⟨12, .guard⟩ (by simp) rfl (by omega))
          exact op_val_w (v := (.int .i64 (i : Int))) (wanted_of (j := 12) (s := 179) (b := false) (by kernel_rfl) (by kernel_rfl) g) (by simp only [execOp, List.map_toArray, List.map_cons, List.map_nil, e15]; go_simp) (hK _ _ (show _ = _ from rfl) (Below.refl _ _) (Fresh.no _ _ _))
        · intro w1 hb hd K hK
          have e183 := D183.trans (show u 16 = _ from hd ⟨16, .data⟩ (by simp) rfl (by omega))
          have e184 := D184.trans (show u 17 = _ from hd ⟨17, .data⟩ (by simp) rfl (by omega))
          have g := D179.trans (show u 12 = .bool false from hd ⟨12, .guard⟩ (by simp) rfl (by omega))
          exact op_val_w (v := (.pointer (some ⟨gg, i * 33, none⟩))) (wanted_of (j := 12) (s := 179) (b := false) (by kernel_rfl) (by kernel_rfl) g) (by simp only [execOp, List.map_toArray, List.map_cons, List.map_nil, e183, e184]; go_simp) (hK _ _ (show _ = _ from rfl) (Below.refl _ _) (Fresh.no _ _ _))
        · intro w1 hb hd K hK
          have e185 := D185.trans (show u 18 = _ from hd ⟨18, .data⟩ (by simp) rfl (by omega))
          have g := D179.trans (show u 12 = .bool false from hd ⟨12, .guard⟩ (by simp) rfl (by omega))
          exact op_val_w (v := (.agg (enC e))) (wanted_of (j := 12) (s := 179) (b := false) (by kernel_rfl) (by kernel_rfl) g) (exec_load rfl e185 (XC.out w1 (HBW.out.trans (hb.mono HBW.out.size))).2.2.1) (hK _ _ (show _ = _ from rfl) (Below.refl _ _) (Fresh.no _ _ _))
        · intro w1 hb hd K hK
          have e14 := E14
          have g := D179.trans (show u 12 = .bool false from hd ⟨12, .guard⟩ (by simp) rfl (by omega))
          exact op_val_w (v := (.int .i64 (k : Int))) (wanted_of (j := 12) (s := 179) (b := false) (by kernel_rfl) (by kernel_rfl) g) (by simp only [execOp, List.map_toArray, List.map_cons, List.map_nil, e14]; go_simp) (hK _ _ (show _ = _ from rfl) (Below.refl _ _) (Fresh.no _ _ _))
        · intro w1 hb hd K hK
          have e15 := E15
          have g := D179.trans (show u 12 = .bool false from hd ⟨12, .guard⟩ (by simp) rfl (by omega))
          exact op_val_w (v := (.int .i64 (i : Int))) (wanted_of (j := 12) (s := 179) (b := false) (by kernel_rfl) (by kernel_rfl) g) (by simp only [execOp, List.map_toArray, List.map_cons, List.map_nil, e15]; go_simp) (hK _ _ (show _ = _ from rfl) (Below.refl _ _) (Fresh.no _ _ _))
        · intro w1 hb hd K hK
          have e187 := D187.trans (show u 20 = _ from hd ⟨20, .data⟩ (by simp) rfl (by omega))
          have e188 := D188.trans (show u 21 = _ from hd ⟨21, .data⟩ (by simp) rfl (by omega))
          have g := D179.trans (show u 12 = .bool false from hd ⟨12, .guard⟩ (by simp) rfl (by omega))
          refine op_call_w (R := fun v w2 => v = (.agg (enC e)) ∧ Below w1.heap.size w1 w2) (f := 80) (args := #[.int .i64 (k : Int), .int .i64 (i : Int)]) (wanted_of (j := 12) (s := 179) (b := false) (by kernel_rfl) (by kernel_rfl) g) (by simp only [execOp]; go_simp; first | exact ⟨eval_get e187, eval_get e188⟩ | (simp only [Act.eval] at *; simp_all)) ((M1.out w1).mono fun e w2 hh => ⟨_, hh.1, rfl, hh.2⟩) (fun v w2 hh => hK _ _ hh.1 hh.2 (Fresh.no _ _ _))
        · intro w1 hb hd K hK
          have e186 := D186.trans (show u 19 = _ from hd ⟨19, .data⟩ (by simp) rfl (by omega))
          have e189 := D189.trans (show u 22 = _ from hd ⟨22, .data⟩ (by simp) rfl (by omega))
          have g := D179.trans (show u 12 = .bool false from hd ⟨12, .guard⟩ (by simp) rfl (by omega))
          exact op_val_w (v := (.bool true)) (wanted_of (j := 12) (s := 179) (b := false) (by kernel_rfl) (by kernel_rfl) g) (exec_bin rfl e186 e189 (by kernel_rfl) (EQ.out w1)) (hK _ _ (show _ = _ from rfl) (Below.refl _ _) (Fresh.no _ _ _))
        · intro w1 hb hd K hK
          have e190 := D190.trans (show u 23 = _ from hd ⟨23, .data⟩ (by simp) rfl (by omega))
          have g := D179.trans (show u 12 = .bool false from hd ⟨12, .guard⟩ (by simp) rfl (by omega))
          exact op_val_w (v := (.bool false)) (wanted_of (j := 12) (s := 179) (b := false) (by kernel_rfl) (by kernel_rfl) g) (by simp only [execOp, List.map_toArray, List.map_cons, List.map_nil, e190]; go_simp) (hK _ _ (show _ = _ from rfl) (Below.refl _ _) (Fresh.no _ _ _))
      have hv167 : u 0 = (.slice (some ⟨pl, 0, none⟩) Kn cl) := (show u 0 = _ from hsF 0 (by omega) (by omega))
      have hv168 : u 1 = (.int .i64 (k : Int)) := (show u 1 = _ from hsF 1 (by omega) (by omega))
      have hv169 : u 2 = (.pointer (some ⟨pl, k, none⟩)) := (show u 2 = _ from hsF 2 (by omega) (by omega))
      have hv170 : u 3 = (.slice (some ⟨ga, 0, none⟩) n c) := (show u 3 = _ from hsF 3 (by omega) (by omega))
      have hv171 : u 4 = (.int .i64 (i : Int)) := (show u 4 = _ from hsF 4 (by omega) (by omega))
      have hv172 : u 5 = (.pointer (some ⟨ga, i * 33, none⟩)) := (show u 5 = _ from hsF 5 (by omega) (by omega))
      have hv173 : u 6 = (.agg (enC e)) := (show u 6 = _ from hsF 6 (by omega) (by omega))
      have hv174 : u 7 = (.int .i64 (k : Int)) := (show u 7 = _ from hsF 7 (by omega) (by omega))
      have hv175 : u 8 = (.int .i64 (i : Int)) := (show u 8 = _ from hsF 8 (by omega) (by omega))
      have hv176 : u 9 = (.agg (enC e)) := (show u 9 = _ from hsF 9 (by omega) (by omega))
      have hv177 : u 10 = (.bool true) := (show u 10 = _ from hsF 10 (by omega) (by omega))
      have hv178 : u 11 = (.bool false) := (show u 11 = _ from hsF 11 (by omega) (by omega))
      have hv179 : u 12 = (.bool false) := (show u 12 = _ from hsF 12 (by omega) (by omega))
      have hv180 : u 13 = (.slice (some ⟨pg, 0, none⟩) Kn Kn) := (show u 13 = _ from hsF 13 (by omega) (by omega))
      have hv181 : u 14 = (.int .i64 (k : Int)) := (show u 14 = _ from hsF 14 (by omega) (by omega))
      have hv182 : u 15 = (.pointer (some ⟨pg, k, none⟩)) := (show u 15 = _ from hsF 15 (by omega) (by omega))
      have hv183 : u 16 = (.slice (some ⟨gg, 0, none⟩) (n + 64) cg) := (show u 16 = _ from hsF 16 (by omega) (by omega))
      have hv184 : u 17 = (.int .i64 (i : Int)) := (show u 17 = _ from hsF 17 (by omega) (by omega))
      have hv185 : u 18 = (.pointer (some ⟨gg, i * 33, none⟩)) := (show u 18 = _ from hsF 18 (by omega) (by omega))
      have hv186 : u 19 = (.agg (enC e)) := (show u 19 = _ from hsF 19 (by omega) (by omega))
      have hv187 : u 20 = (.int .i64 (k : Int)) := (show u 20 = _ from hsF 20 (by omega) (by omega))
      have hv188 : u 21 = (.int .i64 (i : Int)) := (show u 21 = _ from hsF 21 (by omega) (by omega))
      have hv189 : u 22 = (.agg (enC e)) := (show u 22 = _ from hsF 22 (by omega) (by omega))
      have hv190 : u 23 = (.bool true) := (show u 23 = _ from hsF 23 (by omega) (by omega))
      have hv191 : u 24 = (.bool false) := (show u 24 = _ from hsF 24 (by omega) (by omega))
      simp only [putRow, hv167, hv168, hv169, hv170, hv171, hv172, hv173, hv174, hv175, hv176, hv177, hv178, hv179, hv180, hv181, hv182, hv183, hv184, hv185, hv186, hv187, hv188, hv189, hv190, hv191, Act.put, List.setIfInBounds_toArray, List.set_cons_succ, List.set_cons_zero]
      clear hsF hold hap hv167 hv168 hv169 hv170 hv171 hv172 hv173 hv174 hv175 hv176 hv177 hv178 hv179 hv180 hv181 hv182 hv183 hv184 hv185 hv186 hv187 hv188 hv189 hv190 hv191
      have H4 := Lib.hid (H3.out.keep hbF)
      clear H3 hbF M1 XC EQ HBW
      refine rest_forced 1 (by kernel_rfl) ?_
      simp only [List.drop_succ_cons, List.drop_zero, List.take_succ_cons, List.take_zero]
      go_wp2_with fail
      refine rest_done rfl ?_
      clear W4
      go_wp2_with fail
      go_roundw
      case rel => exact ⟨i + 1, HI.out, by simp, H4⟩
      case measure => have := HI.out; simp only [intOf]; omega
    · obtain rfl : i = n := by omega
      have u2 : decide ((i : Int) < (i : Int)) = false := decide_eq_false (by omega)
      clear hlt hi hap hA
      go_wp2_with fail
      go_roundw
      case rel => exact ⟨k + 1, HK.out, by simp, H2⟩
      case measure => have := HK.out; simp only [intOf]; omega
  have u1 : decide ((k : Int) < (Kn : Int)) = false := decide_eq_false (by omega)
  have u1b : decide (k < Kn) = false := decide_eq_false (by omega)
  have u1c : Kn ≤ k := by omega
  clear hlt hk e1
  go_wp2_with fail
  go_ret
  exact ⟨rfl, H1.out.below, H1.out.oth⟩
end Go.Proofs.YtpkmibmombpjpaaGreatDoor
set_option linter.unusedSimpArgs false
namespace Go.Proofs.YtpkmibmombpjpaaGreatDoor
open Go Go.RowKit

theorem op_make0 {ops : Array Oper} {rest : List Oper} {o : Oper} {a : Act} {Q : Exit → Act → World → Prop} {w : World} (hg : o.guard = none) (l c : Operand) {t e : TypeId} (ho : o.op = .makeSlice t l c) (ht : Tryz.prog.underlying t = some (.slice e)) {z : Value} {n : Nat} (hi : (Tryz.prog.info? e).map (fun i => (i.zero, i.bytes)) = some (some z, n)) (hl : a.eval l = .int .i64 0) (hc : a.eval c = .int .i64 0)
    (h : wpList Tryz.prog ops Q rest (a.put o.dst (.slice (some ⟨w.heap.size, 0, none⟩) 0 0)) (w.alloc (.cells (madeCells z.cells 0) e))) : wpList Tryz.prog ops Q (o :: rest) a w := by
  cases hq : Tryz.prog.info? e with
  | none => rw [hq] at hi; cases hi
  | some i =>
    rw [hq] at hi
    simp only [Option.map_some, Option.some.injEq, Prod.mk.injEq] at hi
    have hr := run_makeSlice (P := Tryz.prog) w t e i z ht hq hi.1 .i64 .i64 0 0 (by omega) (by omega) (by simp) (by simp) (by omega)
    simp only [Int.toNat_zero, Nat.zero_mul] at hr
    refine wpList_plain hg fun K hK => ?_
    unfold Oper.wp
    have he : (execOp a.eval o).run Tryz.prog w = .ok (.value (.slice (some ⟨w.heap.size, 0, none⟩) 0 0)) (w.alloc (.cells (madeCells z.cells 0) e)) := by
      simp only [execOp, ho, hl, hc, Sem.run_bind, hr, Result.andThen_ok, Sem.run_pure]
    rw [he, Oper.upon_value]
    exact hK _ _ h
set_option maxRecDepth 100000 in
theorem flatInts_nil (w : World) : Calls Tryz.prog 114 #[.slice none 0 0] w (fun r w' => r = .returned (.bool true) ∧ Below w.heap.size w w') := by
  go_enter Tryz.func114, Tryz.ntmps114
  go_wp2_with fail
  refine wp_loop_rounds 1 ?_
  rw [rounds_succ]
  go_wp2_with (at_make; refine op_make0 (t := 134) (e := 55) (z := .slice none 0 0) (n := 24) rfl _ _ rfl Tryz.underlying134 (by kernel_rfl) rfl rfl ?_)
  refine wp_loop_rounds 1 ?_
  rw [rounds_succ]
  go_wp2_with fail
  refine wp_loop_rounds 1 ?_
  rw [rounds_succ]
  go_wp2_with fail
  refine wp_loop_rounds 1 ?_
  rw [rounds_succ]
  go_wp2_with fail
  refine wp_loop_rounds 1 ?_
  rw [rounds_succ]
  go_wp2_with fail
  go_ret
  exact ⟨rfl, below1 w _⟩
set_option maxRecDepth 100000 in
theorem flatTexts_nil (w : World) : Calls Tryz.prog 115 #[.slice none 0 0] w (fun r w' => r = .returned (.bool true) ∧ Below w.heap.size w w') := by
  go_enter Tryz.func115, Tryz.ntmps115
  go_wp2_with fail
  refine wp_loop_rounds 1 ?_
  rw [rounds_succ]
  go_wp2_with (at_make; refine op_make0 (t := 135) (e := 59) (z := .slice none 0 0) (n := 24) rfl _ _ rfl Tryz.underlying135 (by kernel_rfl) rfl rfl ?_)
  refine wp_loop_rounds 1 ?_
  rw [rounds_succ]
  go_wp2_with fail
  refine wp_loop_rounds 1 ?_
  rw [rounds_succ]
  go_wp2_with fail
  refine wp_loop_rounds 1 ?_
  rw [rounds_succ]
  go_wp2_with fail
  refine wp_loop_rounds 1 ?_
  rw [rounds_succ]
  go_wp2_with fail
  go_ret
  exact ⟨rfl, below1 w _⟩
set_option maxRecDepth 100000 in
theorem flatBytes_nil (w : World) : Calls Tryz.prog 116 #[.slice none 0 0] w (fun r w' => r = .returned (.bool true) ∧ Below w.heap.size w w') := by
  go_enter Tryz.func116, Tryz.ntmps116
  go_wp2_with fail
  refine wp_loop_rounds 1 ?_
  rw [rounds_succ]
  go_wp2_with (at_make; refine op_make0 (t := 136) (e := 39) (z := .slice none 0 0) (n := 24) rfl _ _ rfl Tryz.underlying136 (by kernel_rfl) rfl rfl ?_)
  refine wp_loop_rounds 1 ?_
  rw [rounds_succ]
  go_wp2_with fail
  refine wp_loop_rounds 1 ?_
  rw [rounds_succ]
  go_wp2_with fail
  refine wp_loop_rounds 1 ?_
  rw [rounds_succ]
  go_wp2_with fail
  refine wp_loop_rounds 1 ?_
  rw [rounds_succ]
  go_wp2_with fail
  go_ret
  exact ⟨rfl, below1 w _⟩
set_option maxRecDepth 100000 in
theorem flatMasks_nil (w : World) : Calls Tryz.prog 117 #[.slice none 0 0] w (fun r w' => r = .returned (.bool true) ∧ Below w.heap.size w w') := by
  go_enter Tryz.func117, Tryz.ntmps117
  go_wp2_with fail
  refine wp_loop_rounds 1 ?_
  rw [rounds_succ]
  go_wp2_with (at_make; refine op_make0 (t := 137) (e := 221) (z := .slice none 0 0) (n := 24) rfl _ _ rfl Tryz.underlying137 (by kernel_rfl) rfl rfl ?_)
  refine wp_loop_rounds 1 ?_
  rw [rounds_succ]
  go_wp2_with fail
  refine wp_loop_rounds 1 ?_
  rw [rounds_succ]
  go_wp2_with fail
  refine wp_loop_rounds 1 ?_
  rw [rounds_succ]
  go_wp2_with fail
  refine wp_loop_rounds 1 ?_
  rw [rounds_succ]
  go_wp2_with fail
  go_ret
  exact ⟨rfl, below1 w _⟩
set_option maxRecDepth 100000 in
theorem flatDeals_nil (w : World) : Calls Tryz.prog 118 #[.slice none 0 0] w (fun r w' => r = .returned (.bool true) ∧ Below w.heap.size w w') := by
  go_enter Tryz.func118, Tryz.ntmps118
  go_wp2_with fail
  refine wp_loop_rounds 1 ?_
  rw [rounds_succ]
  go_wp2_with (at_make; refine op_make0 (t := 138) (e := 223) (z := .slice none 0 0) (n := 24) rfl _ _ rfl Tryz.underlying138 (by kernel_rfl) rfl rfl ?_)
  refine wp_loop_rounds 1 ?_
  rw [rounds_succ]
  go_wp2_with fail
  refine wp_loop_rounds 1 ?_
  rw [rounds_succ]
  go_wp2_with fail
  refine wp_loop_rounds 1 ?_
  rw [rounds_succ]
  go_wp2_with fail
  refine wp_loop_rounds 1 ?_
  rw [rounds_succ]
  go_wp2_with fail
  go_ret
  exact ⟨rfl, below1 w _⟩
set_option maxRecDepth 100000 in
theorem flatFracs_nil (w : World) : Calls Tryz.prog 119 #[.slice none 0 0] w (fun r w' => r = .returned (.bool true) ∧ Below w.heap.size w w') := by
  go_enter Tryz.func119, Tryz.ntmps119
  go_wp2_with fail
  refine wp_loop_rounds 1 ?_
  rw [rounds_succ]
  go_wp2_with (at_make; refine op_make0 (t := 139) (e := 227) (z := .slice none 0 0) (n := 24) rfl _ _ rfl Tryz.underlying139 (by kernel_rfl) rfl rfl ?_)
  refine wp_loop_rounds 1 ?_
  rw [rounds_succ]
  go_wp2_with fail
  refine wp_loop_rounds 1 ?_
  rw [rounds_succ]
  go_wp2_with fail
  refine wp_loop_rounds 1 ?_
  rw [rounds_succ]
  go_wp2_with fail
  refine wp_loop_rounds 1 ?_
  rw [rounds_succ]
  go_wp2_with fail
  go_ret
  exact ⟨rfl, below1 w _⟩
set_option maxRecDepth 100000 in
theorem flatContracts_nil (w : World) : Calls Tryz.prog 120 #[.slice none 0 0] w (fun r w' => r = .returned (.bool true) ∧ Below w.heap.size w w') := by
  go_enter Tryz.func120, Tryz.ntmps120
  go_wp2_with fail
  refine wp_loop_rounds 1 ?_
  rw [rounds_succ]
  go_wp2_with (at_make; refine op_make0 (t := 140) (e := 231) (z := .slice none 0 0) (n := 24) rfl _ _ rfl Tryz.underlying140 (by kernel_rfl) rfl rfl ?_)
  refine wp_loop_rounds 1 ?_
  rw [rounds_succ]
  go_wp2_with fail
  refine wp_loop_rounds 1 ?_
  rw [rounds_succ]
  go_wp2_with fail
  refine wp_loop_rounds 1 ?_
  rw [rounds_succ]
  go_wp2_with fail
  refine wp_loop_rounds 1 ?_
  rw [rounds_succ]
  go_wp2_with fail
  go_ret
  exact ⟨rfl, below1 w _⟩
set_option maxRecDepth 100000 in
theorem flatOutcomes_nil (w : World) : Calls Tryz.prog 121 #[.slice none 0 0] w (fun r w' => r = .returned (.bool true) ∧ Below w.heap.size w w') := by
  go_enter Tryz.func121, Tryz.ntmps121
  go_wp2_with fail
  refine wp_loop_rounds 1 ?_
  rw [rounds_succ]
  go_wp2_with (at_make; refine op_make0 (t := 141) (e := 105) (z := .slice none 0 0) (n := 24) rfl _ _ rfl Tryz.underlying141 (by kernel_rfl) rfl rfl ?_)
  refine wp_loop_rounds 1 ?_
  rw [rounds_succ]
  go_wp2_with fail
  refine wp_loop_rounds 1 ?_
  rw [rounds_succ]
  go_wp2_with fail
  refine wp_loop_rounds 1 ?_
  rw [rounds_succ]
  go_wp2_with fail
  refine wp_loop_rounds 1 ?_
  rw [rounds_succ]
  go_wp2_with fail
  go_ret
  exact ⟨rfl, below1 w _⟩
set_option maxRecDepth 100000 in
theorem flatRows_nil (w : World) : Calls Tryz.prog 123 #[.slice none 0 0] w (fun r w' => r = .returned (.bool true) ∧ Below w.heap.size w w') := by
  go_enter Tryz.func123, Tryz.ntmps123
  go_wp2_with fail
  refine wp_loop_rounds 1 ?_
  rw [rounds_succ]
  go_wp2_with (at_make; refine op_make0 (t := 142) (e := 22) (z := .slice none 0 0) (n := 24) rfl _ _ rfl Tryz.underlying142 (by kernel_rfl) rfl rfl ?_)
  refine wp_loop_rounds 1 ?_
  rw [rounds_succ]
  go_wp2_with fail
  refine wp_loop_rounds 1 ?_
  rw [rounds_succ]
  go_wp2_with fail
  refine wp_loop_rounds 1 ?_
  rw [rounds_succ]
  go_wp2_with fail
  refine wp_loop_rounds 1 ?_
  rw [rounds_succ]
  go_wp2_with fail
  go_ret
  exact ⟨rfl, below1 w _⟩
set_option maxRecDepth 100000 in
theorem flatMovements_nil (w : World) : Calls Tryz.prog 124 #[.slice none 0 0] w (fun r w' => r = .returned (.bool true) ∧ Below w.heap.size w w') := by
  go_enter Tryz.func124, Tryz.ntmps124
  go_wp2_with fail
  refine wp_loop_rounds 1 ?_
  rw [rounds_succ]
  go_wp2_with (at_make; refine op_make0 (t := 143) (e := 233) (z := .slice none 0 0) (n := 24) rfl _ _ rfl Tryz.underlying143 (by kernel_rfl) rfl rfl ?_)
  refine wp_loop_rounds 1 ?_
  rw [rounds_succ]
  go_wp2_with fail
  refine wp_loop_rounds 1 ?_
  rw [rounds_succ]
  go_wp2_with fail
  refine wp_loop_rounds 1 ?_
  rw [rounds_succ]
  go_wp2_with fail
  refine wp_loop_rounds 1 ?_
  rw [rounds_succ]
  go_wp2_with fail
  go_ret
  exact ⟨rfl, below1 w _⟩
set_option maxRecDepth 100000 in
theorem flatSessions_nil (w : World) : Calls Tryz.prog 125 #[.slice none 0 0] w (fun r w' => r = .returned (.bool true) ∧ Below w.heap.size w w') := by
  go_enter Tryz.func125, Tryz.ntmps125
  go_wp2_with fail
  refine wp_loop_rounds 1 ?_
  rw [rounds_succ]
  go_wp2_with (at_make; refine op_make0 (t := 144) (e := 235) (z := .slice none 0 0) (n := 24) rfl _ _ rfl Tryz.underlying144 (by kernel_rfl) rfl rfl ?_)
  refine wp_loop_rounds 1 ?_
  rw [rounds_succ]
  go_wp2_with fail
  refine wp_loop_rounds 1 ?_
  rw [rounds_succ]
  go_wp2_with fail
  refine wp_loop_rounds 1 ?_
  rw [rounds_succ]
  go_wp2_with fail
  refine wp_loop_rounds 1 ?_
  rw [rounds_succ]
  go_wp2_with fail
  go_ret
  exact ⟨rfl, below1 w _⟩
set_option maxRecDepth 100000 in
theorem flatIntLists_nil (w : World) : Calls Tryz.prog 126 #[.slice none 0 0] w (fun r w' => r = .returned (.bool true) ∧ Below w.heap.size w w') := by
  go_enter Tryz.func126, Tryz.ntmps126
  go_wp2_with fail
  refine wp_loop_rounds 1 ?_
  rw [rounds_succ]
  go_wp2_with (at_make; refine op_make0 (t := 145) (e := 134) (z := .slice none 0 0) (n := 24) rfl _ _ rfl Tryz.underlying145 (by kernel_rfl) rfl rfl ?_)
  refine wp_loop_rounds 1 ?_
  rw [rounds_succ]
  go_wp2_with fail
  refine wp_loop_rounds 1 ?_
  rw [rounds_succ]
  go_wp2_with fail
  refine wp_loop_rounds 1 ?_
  rw [rounds_succ]
  go_wp2_with fail
  refine wp_loop_rounds 1 ?_
  rw [rounds_succ]
  go_wp2_with fail
  go_ret
  exact ⟨rfl, below1 w _⟩
set_option maxRecDepth 100000 in
theorem flatTextLists_nil (w : World) : Calls Tryz.prog 127 #[.slice none 0 0] w (fun r w' => r = .returned (.bool true) ∧ Below w.heap.size w w') := by
  go_enter Tryz.func127, Tryz.ntmps127
  go_wp2_with fail
  refine wp_loop_rounds 1 ?_
  rw [rounds_succ]
  go_wp2_with (at_make; refine op_make0 (t := 146) (e := 135) (z := .slice none 0 0) (n := 24) rfl _ _ rfl Tryz.underlying146 (by kernel_rfl) rfl rfl ?_)
  refine wp_loop_rounds 1 ?_
  rw [rounds_succ]
  go_wp2_with fail
  refine wp_loop_rounds 1 ?_
  rw [rounds_succ]
  go_wp2_with fail
  refine wp_loop_rounds 1 ?_
  rw [rounds_succ]
  go_wp2_with fail
  refine wp_loop_rounds 1 ?_
  rw [rounds_succ]
  go_wp2_with fail
  go_ret
  exact ⟨rfl, below1 w _⟩
set_option maxRecDepth 100000 in
theorem flatFracLists_nil (w : World) : Calls Tryz.prog 128 #[.slice none 0 0] w (fun r w' => r = .returned (.bool true) ∧ Below w.heap.size w w') := by
  go_enter Tryz.func128, Tryz.ntmps128
  go_wp2_with fail
  refine wp_loop_rounds 1 ?_
  rw [rounds_succ]
  go_wp2_with (at_make; refine op_make0 (t := 147) (e := 139) (z := .slice none 0 0) (n := 24) rfl _ _ rfl Tryz.underlying147 (by kernel_rfl) rfl rfl ?_)
  refine wp_loop_rounds 1 ?_
  rw [rounds_succ]
  go_wp2_with fail
  refine wp_loop_rounds 1 ?_
  rw [rounds_succ]
  go_wp2_with fail
  refine wp_loop_rounds 1 ?_
  rw [rounds_succ]
  go_wp2_with fail
  refine wp_loop_rounds 1 ?_
  rw [rounds_succ]
  go_wp2_with fail
  go_ret
  exact ⟨rfl, below1 w _⟩
set_option maxRecDepth 100000 in
theorem flatRowLists_nil (w : World) : Calls Tryz.prog 129 #[.slice none 0 0] w (fun r w' => r = .returned (.bool true) ∧ Below w.heap.size w w') := by
  go_enter Tryz.func129, Tryz.ntmps129
  go_wp2_with fail
  refine wp_loop_rounds 1 ?_
  rw [rounds_succ]
  go_wp2_with (at_make; refine op_make0 (t := 148) (e := 142) (z := .slice none 0 0) (n := 24) rfl _ _ rfl Tryz.underlying148 (by kernel_rfl) rfl rfl ?_)
  refine wp_loop_rounds 1 ?_
  rw [rounds_succ]
  go_wp2_with fail
  refine wp_loop_rounds 1 ?_
  rw [rounds_succ]
  go_wp2_with fail
  refine wp_loop_rounds 1 ?_
  rw [rounds_succ]
  go_wp2_with fail
  refine wp_loop_rounds 1 ?_
  rw [rounds_succ]
  go_wp2_with fail
  go_ret
  exact ⟨rfl, below1 w _⟩
set_option maxRecDepth 100000 in
theorem flatEntryLists_nil (w : World) : Calls Tryz.prog 130 #[.slice none 0 0] w (fun r w' => r = .returned (.bool true) ∧ Below w.heap.size w w') := by
  go_enter Tryz.func130, Tryz.ntmps130
  go_wp2_with fail
  refine wp_loop_rounds 1 ?_
  rw [rounds_succ]
  go_wp2_with (at_make; refine op_make0 (t := 149) (e := 43) (z := .slice none 0 0) (n := 24) rfl _ _ rfl Tryz.underlying149 (by kernel_rfl) rfl rfl ?_)
  refine wp_loop_rounds 1 ?_
  rw [rounds_succ]
  go_wp2_with fail
  refine wp_loop_rounds 1 ?_
  rw [rounds_succ]
  go_wp2_with fail
  refine wp_loop_rounds 1 ?_
  rw [rounds_succ]
  go_wp2_with fail
  refine wp_loop_rounds 1 ?_
  rw [rounds_succ]
  go_wp2_with fail
  go_ret
  exact ⟨rfl, below1 w _⟩
end Go.Proofs.YtpkmibmombpjpaaGreatDoor
set_option linter.unusedSimpArgs false
namespace Go.Proofs.YtpkmibmombpjpaaGreatDoor
open Go Go.RowKit

/-- The bag's cells, with lists of entries alone. -/
def bagC (v : Value) : Array Value := #[nilV, nilV, nilV, nilV, nilV, nilV, nilV, nilV, v, nilV, nilV, nilV, nilV, nilV, nilV, nilV, nilV]
theorem bag_ne : 151 ≠ 40 := by decide
theorem bag_ne2 : 151 ≠ 34 := by decide
/-- Lists of entries in a row of the call's own. -/
def OwnL (W : World) (B : Nat) (v : Value) (vs : List Value) : Prop := W.ownsRow B 40 1 v vs.length vs
theorem OwnL.keep {W W' : World} {B : Nat} {v : Value} {l : List Value} (h : OwnL W B v l) (hb : Below W.heap.size W W') : OwnL W' B v l := own_keep h hb
theorem OwnL.slice {W : World} {B : Nat} {v : Value} {l : List Value} (h : OwnL W B v l) : ∃ A c, v = .slice A l.length c := own_slice h
theorem OwnL.blk {W : World} {B : Nat} {v : Value} {l : List Value} (h : OwnL W B v l) {b : Nat} (hb : v.ownBlock = some b) : B ≤ b ∧ ∃ C, Blk W b 40 C := by
  rcases h.2 with ⟨rfl, _⟩ | ⟨g, cap, cur, rfl, h1, h2, _⟩
  · cases hb
  · obtain rfl : g = b := by simpa [Value.ownBlock] using hb
    exact ⟨h1, cur, h2⟩
/-- What the bag holds. -/
structure BG (w : World) (pb : Nat) (v : Value) (vs : List Value) (W : World) : Prop where
  bag : Blk W pb 151 (bagC v)
  own : OwnL W w.heap.size v vs
  below : Below w.heap.size w W
  lo : w.heap.size ≤ pb
theorem BG.keep {w W W' : World} {pb : Nat} {v : Value} {vs : List Value} (h : BG w pb v vs W) (hb : Below W.heap.size W W') : BG w pb v vs W' :=
  ⟨h.bag.keep hb h.bag.lt, h.own.keep hb, h.below.trans (hb.mono h.below.size), h.lo⟩
set_option maxRecDepth 100000 in
set_option maxHeartbeats 2000000 in
theorem putEntries_any (w : World) (pb : Nat) (v x : Value) (vs : List Value) (hx : ∃ A n c, x = .slice A n c) (hn : vs.length ≤ 1000) (W : World) (h : BG w pb v vs W) : Calls Tryz.prog 84 #[.pointer (some ⟨pb, 0, none⟩), x] W (fun r w' => r = .returned (.tuple #[]) ∧ ∃ v', BG w pb v' (vs ++ [x]) w') := by
  obtain ⟨il, hil, hzl, hsl, hbl⟩ := info_parts_list
  obtain ⟨Ax, nx, cx, rfl⟩ := hx
  obtain ⟨Av, cv, rfl⟩ := h.own.slice
  have H := Lib.hid h
  obtain ⟨n, hn1⟩ : ∃ n, vs.length = n := ⟨_, rfl⟩
  have HN := Lib.hid hn1
  have x8 : W.cell? ⟨pb, 8, none⟩ = some (.slice Av n cv) := by
    have := h.bag.cell (j := 8) (v := .slice Av vs.length cv) rfl
    rwa [hn1] at this
  have hown : W.ownsRow w.heap.size 40 1 (.slice Av n cv) n vs := by
    have := h.own
    unfold OwnL at this
    rwa [hn1] at this
  have hb := h.below.size
  have hne : (W.alloc (.cells #[.slice Ax nx cx] 40)).cell? ⟨pb, 8, none⟩ = some (.slice Av n cv) := by rw [← x8]; exact World.cell?_of_block (Below.heap_alloc _ _ _ h.bag.lt)
  rw [hn1] at hn
  clear h hn1
  go_enter Tryz.func84, Tryz.ntmps84
  have HO := Lib.hid hown
  have key : ∀ w', W.grownBy w' (Value.slice Av n cv).ownBlock → Blk w' pb 151 (bagC (.slice Av n cv)) := fun w' hg => by
    refine (hg.block pb H.out.bag.lt (fun e => ?_)).trans (by have := H.out.bag; rw [HN.out] at this; exact this)
    have := H.out.own
    rw [HN.out] at this
    obtain ⟨_, C, hC⟩ := OwnL.blk this e.symm
    exact bag_ne (blk_type H.out.bag hC)
  have HKEY := Lib.hid key
  clear key hown
  go_wp2_with (first
    | (at_builtin; refine app1 rfl _ _ rfl Tryz.underlying43 hil hzl hsl hbl rfl W w.heap.size (.slice Av n cv) n vs (.slice Ax nx cx) rfl rfl rfl rfl HO.out hb (by omega) (by decide) ?_; intro v' w5 hown5 hgrow5 hob5 hb5; obtain ⟨g5, c5', rfl, hg5, hc5⟩ := own_some hown5 (by omega); have HB5 := Lib.hid (HKEY.out _ hgrow5); have y8 := HB5.out.cell (j := 8) (v := .slice Av n cv) rfl; have f8 := HB5.out.free 8))
  go_returns
  have hpb := H.out.lo
  refine ⟨rfl, .slice (some ⟨g5, 0, none⟩) (n + 1) c5', ⟨HB5.out.set 8 _, ?_, (H.out.below.trans hb5).setCell (p := ⟨pb, 8, none⟩) hpb _, hpb⟩⟩
  show World.ownsRow _ _ _ _ _ _ _
  rw [List.length_append, HN.out]
  refine hown5.kept (row := some pb) ⟨rfl, rfl, rfl, by simp, fun k hk hne => Below.heap_setCell _ _ _ _ (by
      show k ≠ pb
      exact fun e => hne (by rw [e]))⟩ (.inr (fun e => ?_))
  have e2 : some g5 = some pb := e
  have e3 := Option.some.inj e2
  subst e3
  obtain ⟨_, C, hC⟩ := OwnL.blk (v := .slice (some ⟨g5, 0, none⟩) (n + 1) c5') (l := vs ++ [.slice Ax nx cx]) (by unfold OwnL; rw [List.length_append, HN.out]; exact hown5) rfl
  exact bag_ne (blk_type HB5.out hC)
theorem FH.rebase {w W : World} {B K pl : Nat} {CV : Array Value} {V : Nat → Value} {M : Nat → List En} (h : FH w B K pl CV V M W) : FH W B K pl CV V M W :=
  ⟨h.bl, h.cv, h.af, h.lo, Below.refl _ _, fun _ _ _ hp _ => hp⟩
set_option maxRecDepth 100000 in
set_option maxHeartbeats 4000000 in
theorem apart_any (Kn : Nat) (hK : Kn ≤ 100) (V : Nat → Value) (L : Nat → List En) (hL : ∀ k, (L k).length ≤ 1000) (B pl cl pb : Nat) (CV : Array Value) (W : World) (hbag : Blk W pb 151 (bagC (.slice (some ⟨pl, 0, none⟩) Kn cl))) (h : FH W B Kn pl CV V L W) : Calls Tryz.prog 85 #[.pointer (some ⟨pb, 0, none⟩)] W (fun r w' => r = .returned (.bool true) ∧ Below B W w') := by
  have HB0 := Lib.hid hbag
  have HF0 := Lib.hid h
  have HL := Lib.hid (And.intro hK hL)
  clear hbag h hK hL
  go_enter Tryz.func85, Tryz.ntmps85
  have x0 := HB0.out.cell (j := 0) (v := (.slice none 0 0)) rfl
  go_wp2_with fail
  refine (flatInts_nil _).mono ?_
  rintro r w1 ⟨rfl, hb⟩
  have HB1 := Lib.hid (HB0.out.keep hb HB0.out.lt)
  have HF1 := Lib.hid (HF0.out.keep hb)
  clear x0 hb HB0 HF0
  have x1 := HB1.out.cell (j := 1) (v := (.slice none 0 0)) rfl
  go_wp2_with fail
  refine (flatTexts_nil _).mono ?_
  rintro r w2 ⟨rfl, hb⟩
  have HB2 := Lib.hid (HB1.out.keep hb HB1.out.lt)
  have HF2 := Lib.hid (HF1.out.keep hb)
  clear x1 hb HB1 HF1
  have x2 := HB2.out.cell (j := 2) (v := (.slice none 0 0)) rfl
  go_wp2_with fail
  refine (flatBytes_nil _).mono ?_
  rintro r w3 ⟨rfl, hb⟩
  have HB3 := Lib.hid (HB2.out.keep hb HB2.out.lt)
  have HF3 := Lib.hid (HF2.out.keep hb)
  clear x2 hb HB2 HF2
  have x3 := HB3.out.cell (j := 3) (v := (.slice none 0 0)) rfl
  go_wp2_with fail
  refine (flatMasks_nil _).mono ?_
  rintro r w4 ⟨rfl, hb⟩
  have HB4 := Lib.hid (HB3.out.keep hb HB3.out.lt)
  have HF4 := Lib.hid (HF3.out.keep hb)
  clear x3 hb HB3 HF3
  have x4 := HB4.out.cell (j := 4) (v := (.slice none 0 0)) rfl
  go_wp2_with fail
  refine (flatDeals_nil _).mono ?_
  rintro r w5 ⟨rfl, hb⟩
  have HB5 := Lib.hid (HB4.out.keep hb HB4.out.lt)
  have HF5 := Lib.hid (HF4.out.keep hb)
  clear x4 hb HB4 HF4
  have x5 := HB5.out.cell (j := 5) (v := (.slice none 0 0)) rfl
  go_wp2_with fail
  refine (flatFracs_nil _).mono ?_
  rintro r w6 ⟨rfl, hb⟩
  have HB6 := Lib.hid (HB5.out.keep hb HB5.out.lt)
  have HF6 := Lib.hid (HF5.out.keep hb)
  clear x5 hb HB5 HF5
  have x6 := HB6.out.cell (j := 6) (v := (.slice none 0 0)) rfl
  go_wp2_with fail
  refine (flatContracts_nil _).mono ?_
  rintro r w7 ⟨rfl, hb⟩
  have HB7 := Lib.hid (HB6.out.keep hb HB6.out.lt)
  have HF7 := Lib.hid (HF6.out.keep hb)
  clear x6 hb HB6 HF6
  have x7 := HB7.out.cell (j := 7) (v := (.slice none 0 0)) rfl
  go_wp2_with fail
  refine (flatOutcomes_nil _).mono ?_
  rintro r w8 ⟨rfl, hb⟩
  have HB8 := Lib.hid (HB7.out.keep hb HB7.out.lt)
  have HF8 := Lib.hid (HF7.out.keep hb)
  clear x7 hb HB7 HF7
  have x8 := HB8.out.cell (j := 8) (v := (.slice (some ⟨pl, 0, none⟩) Kn cl)) rfl
  go_wp2_with fail
  refine (flat_any Kn HL.out.1 V L HL.out.2 B pl cl CV w8 HF8.out.rebase HF8.out.lo).mono ?_
  rintro r w9 ⟨rfl, hb, ho⟩
  have HW9 : Hid (Below B W w9) := Lib.hid (HF8.out.below.trans hb)
  have HB9 := Lib.hid (ho pb _ _ HB8.out bag_ne2)
  have HLO : Hid (B ≤ w9.heap.size) := Lib.hid (Nat.le_trans HF8.out.lo hb.size)
  clear x8 hb ho HB8 HF8
  have x9 := HB9.out.cell (j := 9) (v := (.slice none 0 0)) rfl
  go_wp2_with fail
  refine (flatRows_nil _).mono ?_
  rintro r w10 ⟨rfl, hb⟩
  have HB10 := Lib.hid (HB9.out.keep hb HB9.out.lt)
  replace HW9 := Lib.hid (HW9.out.trans (hb.mono HLO.out))
  replace HLO := Lib.hid (Nat.le_trans HLO.out hb.size)
  have HW10 := HW9
  clear x9 hb HB9 HW9
  have x10 := HB10.out.cell (j := 10) (v := (.slice none 0 0)) rfl
  go_wp2_with fail
  refine (flatMovements_nil _).mono ?_
  rintro r w11 ⟨rfl, hb⟩
  have HB11 := Lib.hid (HB10.out.keep hb HB10.out.lt)
  replace HW10 := Lib.hid (HW10.out.trans (hb.mono HLO.out))
  replace HLO := Lib.hid (Nat.le_trans HLO.out hb.size)
  have HW11 := HW10
  clear x10 hb HB10 HW10
  have x11 := HB11.out.cell (j := 11) (v := (.slice none 0 0)) rfl
  go_wp2_with fail
  refine (flatSessions_nil _).mono ?_
  rintro r w12 ⟨rfl, hb⟩
  have HB12 := Lib.hid (HB11.out.keep hb HB11.out.lt)
  replace HW11 := Lib.hid (HW11.out.trans (hb.mono HLO.out))
  replace HLO := Lib.hid (Nat.le_trans HLO.out hb.size)
  have HW12 := HW11
  clear x11 hb HB11 HW11
  have x12 := HB12.out.cell (j := 12) (v := (.slice none 0 0)) rfl
  go_wp2_with fail
  refine (flatIntLists_nil _).mono ?_
  rintro r w13 ⟨rfl, hb⟩
  have HB13 := Lib.hid (HB12.out.keep hb HB12.out.lt)
  replace HW12 := Lib.hid (HW12.out.trans (hb.mono HLO.out))
  replace HLO := Lib.hid (Nat.le_trans HLO.out hb.size)
  have HW13 := HW12
  clear x12 hb HB12 HW12
  have x13 := HB13.out.cell (j := 13) (v := (.slice none 0 0)) rfl
  go_wp2_with fail
  refine (flatTextLists_nil _).mono ?_
  rintro r w14 ⟨rfl, hb⟩
  have HB14 := Lib.hid (HB13.out.keep hb HB13.out.lt)
  replace HW13 := Lib.hid (HW13.out.trans (hb.mono HLO.out))
  replace HLO := Lib.hid (Nat.le_trans HLO.out hb.size)
  have HW14 := HW13
  clear x13 hb HB13 HW13
  have x14 := HB14.out.cell (j := 14) (v := (.slice none 0 0)) rfl
  go_wp2_with fail
  refine (flatFracLists_nil _).mono ?_
  rintro r w15 ⟨rfl, hb⟩
  have HB15 := Lib.hid (HB14.out.keep hb HB14.out.lt)
  replace HW14 := Lib.hid (HW14.out.trans (hb.mono HLO.out))
  replace HLO := Lib.hid (Nat.le_trans HLO.out hb.size)
  have HW15 := HW14
  clear x14 hb HB14 HW14
  have x15 := HB15.out.cell (j := 15) (v := (.slice none 0 0)) rfl
  go_wp2_with fail
  refine (flatRowLists_nil _).mono ?_
  rintro r w16 ⟨rfl, hb⟩
  have HB16 := Lib.hid (HB15.out.keep hb HB15.out.lt)
  replace HW15 := Lib.hid (HW15.out.trans (hb.mono HLO.out))
  replace HLO := Lib.hid (Nat.le_trans HLO.out hb.size)
  have HW16 := HW15
  clear x15 hb HB15 HW15
  have x16 := HB16.out.cell (j := 16) (v := (.slice none 0 0)) rfl
  go_wp2_with fail
  refine (flatEntryLists_nil _).mono ?_
  rintro r w17 ⟨rfl, hb⟩
  have HB17 := Lib.hid (HB16.out.keep hb HB16.out.lt)
  replace HW16 := Lib.hid (HW16.out.trans (hb.mono HLO.out))
  replace HLO := Lib.hid (Nat.le_trans HLO.out hb.size)
  have HW17 := HW16
  clear x16 hb HB16 HW16
  go_wp2_with fail
  go_ret
  exact ⟨rfl, HW17.out⟩
set_option maxRecDepth 100000 in
set_option maxHeartbeats 4000000 in
theorem apartEntries_any (Kn : Nat) (hK : Kn ≤ 100) (hK0 : 0 < Kn) (vs : List Value) (V : Nat → Value) (L : Nat → List En) (hL : ∀ k, (L k).length ≤ 1000) (B p0 c0 : Nat) (w : World) (hvs : vs.length = Kn) (hV : ∀ k, k < Kn → vs[k]? = some (V k)) (hp0 : Blk w p0 40 vs.toArray) (haf : AF w B Kn V (fun _ => nilV) L (fun _ => [])) (hB : B ≤ w.heap.size) : Calls Tryz.prog 49 #[.slice (some ⟨p0, 0, none⟩) Kn c0] w (fun r w' => r = .returned (.bool true) ∧ Below B w w') := by
  have HA := Lib.hid haf
  have HP := Lib.hid hp0
  have HV := Lib.hid (And.intro hvs hV)
  have HL := Lib.hid (And.intro hK (And.intro hL (And.intro hB hK0)))
  clear haf hp0 hvs hV hL hB
  go_enter Tryz.func49, Tryz.ntmps49
  go_wp2_with (refine op_build 151 _ (bagC nilV) rfl rfl (by kernel_rfl) ?_)
  have H0 : Hid (BG w w.heap.size nilV (vs.take 0) (w.alloc (.cells (bagC nilV) 151))) := Lib.hid ⟨Blk.new w _ _, World.ownsRow_nil _ _ _ _, below1 w _, Nat.le_refl _⟩
  generalize w.alloc (.cells (bagC nilV) 151) = W1 at *
  obtain ⟨pb, hpb⟩ : ∃ pb, w.heap.size = pb := ⟨_, rfl⟩
  have HPB := Lib.hid hpb
  rw [hpb] at H0 ⊢
  clear hpb
  go_loopw [4] (fun s4 wr => ∃ (k : Nat) (v : Value), k ≤ Kn ∧ s4 = .int .i64 (k : Int) ∧ Hid (BG w pb v (vs.take k) wr)) (fun s4 _ => Kn - (intOf s4).toNat)
  case atStart => exact ⟨0, _, Nat.zero_le _, rfl, H0⟩
  case round =>
  clear H0
  obtain ⟨k, v, hk, rfl, H1⟩ := hrel
  by_cases hlt : k < Kn
  · have u1 : decide ((k : Int) < (Kn : Int)) = true := decide_eq_true (by omega)
    have e1 : IntKind.i64.wrap ((k : Int) + 1) = (k : Int) + 1 := IntWalk.i64_in _ (by omega)
    obtain ⟨A, c, hA⟩ := (HA.out.v k hlt).len
    have hx := HV.out.2 k hlt
    rw [hA] at hx
    obtain ⟨n, hn⟩ : ∃ n, (L k).length = n := ⟨_, rfl⟩
    rw [hn] at hx
    have x1 : wr.cell? ⟨p0, k, none⟩ = some (.slice A n c) := (HP.out.keep H1.out.below HP.out.lt).cell (by rw [List.getElem?_toArray]; exact hx)
    have PE := Lib.hid (putEntries_any w pb v (.slice A n c) (vs.take k) ⟨_, _, _, rfl⟩ (by rw [List.length_take]; omega) wr H1.out)
    rw [← take_more hx] at PE
    have j0 : (0 : Int) ≤ (k : Int) := by omega
    have j1 : (k : Int) < (Kn : Int) := by omega
    have j3 : ¬ (Kn : Int) ≤ (k : Int) := by omega
    have j6 : ¬ Kn ≤ k := by omega
    have HK := Lib.hid hlt
    clear hA hx hn hlt hk H1
    go_wp2_with fail
    refine PE.out.mono ?_
    rintro r w2 ⟨rfl, v', h2⟩
    have H2 := Lib.hid h2
    clear h2 PE x1
    go_wp2_with fail
    go_roundw
    case rel => exact ⟨k + 1, v', HK.out, by simp, H2⟩
    case measure => have := HK.out; simp only [intOf]; omega
  have hkK : k = Kn := by omega
  have u1 : decide ((k : Int) < (Kn : Int)) = false := decide_eq_false (by omega)
  have u1b : decide (k < Kn) = false := decide_eq_false (by omega)
  have u1c : Kn ≤ k := by omega
  have h1 := H1.out
  rw [hkK, List.take_of_length_le (by rw [HV.out.1]; exact Nat.le_refl _)] at h1
  have hown := h1.own
  obtain ⟨g, cap, hv, -, -⟩ := own_some (show wr.ownsRow w.heap.size 40 1 v vs.length vs from hown) (by rw [HV.out.1]; exact HL.out.2.2.2)
  rw [HV.out.1] at hv
  subst hv
  obtain ⟨C, hC, hCV⟩ : ∃ C, Blk wr g 40 C ∧ ∀ k, k < Kn → C[k]? = some (V k) := by
    rcases hown.2 with ⟨h0, _⟩ | ⟨g', cap', cur, e1, _, hg, _, _, _, ht⟩
    · cases h0
    · injection e1 with e1 _ _
      obtain rfl : g = g' := congrArg Addr.block (Option.some.inj e1)
      refine ⟨cur, hg, fun k hk => ?_⟩
      have h2 := HV.out.2 k hk
      rw [← ht, List.getElem?_take, if_pos (by rw [HV.out.1]; omega)] at h2
      simpa using h2
  have HH : Hid (FH wr B Kn g C V L wr) := Lib.hid ⟨hC, hCV, HA.out.keep h1.below, Nat.le_trans HL.out.2.2.1 h1.below.size, Below.refl _ _, fun _ _ _ hp _ => hp⟩
  have HBAG := Lib.hid h1.bag
  have HBW : Hid (Below B w wr) := Lib.hid (h1.below.mono HL.out.2.2.1)
  clear hkK h1 hown hC hCV hlt hk H1
  go_wp2_with fail
  refine (apart_any Kn HL.out.1 V L HL.out.2.1 B g cap pb C wr HBAG.out HH.out).mono ?_
  rintro r w2 ⟨rfl, hb⟩
  have HB2 := Lib.hid (HBW.out.trans hb)
  clear hb
  go_wp2_with fail
  go_ret
  exact ⟨rfl, HB2.out⟩
end Go.Proofs.YtpkmibmombpjpaaGreatDoor
