/- Lists of entries that are the same: SameEntries. -/
import Derived.Test.YtpkmibmombpjpaaGreatDoorEJ
set_option linter.unusedSimpArgs false
namespace Go.Proofs.YtpkmibmombpjpaaGreatDoor
open Go Go.RowKit

theorem en_formed (e : En) : (Value.agg (enC e)).formed Tryz.prog 34 = true := by
  unfold enC
  kernel_rfl
theorem eq_en (a b : En) (ha : a.In) (hb : b.In) : ∀ (d : Nat) (w : World), (Op.equalIn (d + 9) 34 (.agg (enC a)) (.agg (enC b))).run Tryz.prog w = .ok (eqEn a b) w :=
  eq_deep (by kernel_rfl) (en_formed a) (en_formed b) (enKey a ha) (enKey b hb) (enLits_iff a b)
theorem same_more {l m : List En} {k : Nat} {a b : En} (ha : l[k]? = some a) (hb : m[k]? = some b) (h : l.take k = m.take k) : l.take (k + 1) = m.take (k + 1) ↔ a = b := by
  rw [take_more ha, take_more hb, h]
  simp
set_option maxRecDepth 100000 in
set_option maxHeartbeats 4000000 in
theorem sameEn_any (l m : List En) (hl : ∀ e ∈ l, e.In) (hm : ∀ e ∈ m, e.In) (hn : l.length ≤ 1000000) (v u : Value) (w : World) (hv : ES w v l) (hu : ES w u m) : Calls Tryz.prog 17 #[v, u] w (fun r w' => (∃ b, r = .returned (.bool b) ∧ (b = true ↔ l = m)) ∧ Below w.heap.size w w') := by
  obtain ⟨A, cp, rfl, -⟩ := hv.len
  obtain ⟨A', cp', rfl, -⟩ := hu.len
  have HV := Lib.hid hv
  have HU := Lib.hid hu
  have HIN := Lib.hid (And.intro hl hm)
  obtain ⟨n, hn1⟩ : ∃ n, l.length = n := ⟨_, rfl⟩
  obtain ⟨n', hn2⟩ : ∃ n, m.length = n := ⟨_, rfl⟩
  rw [hn1] at hn HV ⊢
  rw [hn2] at HU ⊢
  have HN := Lib.hid (And.intro hn1 hn2)
  clear hv hu hl hm hn1 hn2
  go_enter Tryz.func17, Tryz.ntmps17
  by_cases he : n = n'
  · subst he
    have u0 : ((n : Int) != (n : Int)) = false := by simp
    go_wp2_with fail
    go_loopw [5] (fun s5 wr => ∃ k : Nat, k ≤ n ∧ s5 = .int .i64 (k : Int) ∧ Hid (l.take k = m.take k) ∧ Hid (Below w.heap.size w wr)) (fun s5 _ => n - (intOf s5).toNat)
    case atStart => exact ⟨0, Nat.zero_le _, rfl, Lib.hid rfl, Lib.hid (Below.refl _ _)⟩
    case round =>
      obtain ⟨k, hk, rfl, HS, HW⟩ := hrel
      by_cases hlt : k < n
      · have u1 : decide ((k : Int) < (n : Int)) = true := decide_eq_true (by omega)
        obtain ⟨a, ha⟩ : ∃ a, l[k]? = some a := ⟨_, List.getElem?_eq_getElem (by rw [HN.out.1]; exact hlt)⟩
        obtain ⟨b, hb⟩ : ∃ b, m[k]? = some b := ⟨_, List.getElem?_eq_getElem (by rw [HN.out.2]; exact hlt)⟩
        obtain ⟨bl, ol, rfl⟩ := HV.out.ptr (by rw [HN.out.1]; omega)
        obtain ⟨bm, om, rfl⟩ := HU.out.ptr (by rw [HN.out.2]; omega)
        have lo1 := fun W (h : Below w.heap.size w W) => HV.out.load ha h
        have lo2 := fun W (h : Below w.heap.size w W) => HU.out.load hb h
        have EQ := eq_en a b (HIN.out.1 a (List.mem_of_getElem? ha)) (HIN.out.2 b (List.mem_of_getElem? hb))
        have HSM := Lib.hid (same_more ha hb HS.out)
        have j0 : (0 : Int) ≤ (k : Int) := by omega
        have j1 : (k : Int) < (n : Int) := by omega
        have j2 : ¬ (n : Int) ≤ (k : Int) := by omega
        have j3 : ¬ n ≤ k := by omega
        have e1 : IntKind.i64.wrap ((k : Int) + 1) = (k : Int) + 1 := IntWalk.i64_in _ (by omega)
        have HK := Lib.hid (And.intro hk hlt)
        clear ha hb hk hlt
        obtain ⟨q, hq⟩ : ∃ q, eqEn a b = q := ⟨_, rfl⟩
        have HQ : Hid (q = true ↔ a = b) := Lib.hid (by rw [← hq]; exact eqEn_iff a b)
        rw [hq] at EQ
        clear hq
        have ne := neq_deep EQ
        go_upto_region 6 with fail
        refine wp_region_quiet_lit (by kernel_rfl) (by kernel_rfl) ?_
        iterate 3 (quiet_step (fail))
        refine q_load (p := .pointer (some ⟨bl, ol + k * 33, none⟩)) (C := .agg (enC a)) 34 (.tmp 19) rfl rfl rfl (fun W h => by obtain ⟨n, rfl⟩ := h; exact lo1 _ (below_drewN HW.out n)) ?_
        iterate 3 (quiet_step (fail))
        refine q_load (p := .pointer (some ⟨bm, om + k * 33, none⟩)) (C := .agg (enC b)) 34 (.tmp 23) rfl rfl rfl (fun W h => by obtain ⟨n, rfl⟩ := h; exact lo2 _ (below_drewN HW.out n)) ?_
        refine q_bin (X := enC a) (Y := enC b) .neq 34 _ (.tmp 20) (.tmp 24) rfl rfl rfl rfl (by kernel_rfl) (fun W => ne W) ?_
        refine wpQuiet_nil ?_
        rintro wq ⟨nq, rfl⟩
        have HW2 := Lib.hid (below_drewN HW.out nq)
        clear lo1 lo2 ne EQ HW j0 j1 j2 j3 u1
        generalize wr.drewN nq = W2 at *
        simp only [Act.put, List.setIfInBounds_toArray, List.set_cons_succ, List.set_cons_zero]
        rcases q with _ | _
        · have HX : Hid (l ≠ m) := Lib.hid (fun h => by
            subst h
            have := HQ.out.2 (HSM.out.1 rfl)
            cases this)
          go_wp2_with fail
          go_ret
          exact ⟨⟨false, rfl, ⟨fun h => (by cases h), fun h => absurd h HX.out⟩⟩, HW2.out⟩
        · have HX : Hid (l.take (k + 1) = m.take (k + 1)) := Lib.hid (HSM.out.2 (HQ.out.1 rfl))
          go_wp2_with fail
          go_roundw
          case rel => exact ⟨k + 1, HK.out.2, by simp, HX, HW2⟩
          case measure => have := HK.out.2; simp only [intOf]; omega
      · obtain rfl : k = n := by omega
        have u1 : decide ((k : Int) < (k : Int)) = false := decide_eq_false (by omega)
        have HX : Hid (l = m) := Lib.hid (by
          have h := HS.out
          rw [List.take_of_length_le (by rw [HN.out.1]; exact Nat.le_refl _), List.take_of_length_le (by rw [HN.out.2]; exact Nat.le_refl _)] at h
          exact h)
        clear hlt hk
        go_wp2_with fail
        go_ret
        exact ⟨⟨true, rfl, ⟨fun _ => HX.out, fun _ => rfl⟩⟩, HW.out⟩
  · have u0 : ((n : Int) != (n' : Int)) = true := by rw [bne_iff_ne]; omega
    have HX : Hid (l ≠ m) := Lib.hid (fun h => he (by rw [← HN.out.1, ← HN.out.2, h]))
    clear he
    go_wp2_with fail
    go_ret
    exact ⟨⟨false, rfl, ⟨fun h => (by cases h), fun h => absurd h HX.out⟩⟩, Below.refl _ _⟩
end Go.Proofs.YtpkmibmombpjpaaGreatDoor
