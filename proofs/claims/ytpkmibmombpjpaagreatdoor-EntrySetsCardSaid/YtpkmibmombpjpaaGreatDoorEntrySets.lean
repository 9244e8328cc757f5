/- sets: EntrySets without the examples. EntrySets: the walk. EntrySets returns true whatever the input; no condition but the tables and errors as their initialisers lay them, which the card ties to the text. -/
import Derived.Test.YtpkmibmombpjpaaGreatDoorFbM
import Derived.Test.YtpkmibmombpjpaaGreatDoorSeM
import Derived.Test.YtpkmibmombpjpaaGreatDoorKW
import Derived.Test.YtpkmibmombpjpaaGreatDoorFrame
import Derived.Test.YtpkmibmombpjpaaGreatDoorOpL
import Derived.Test.YtpkmibmombpjpaaGreatDoorCards
import Derived.Test.YtpkmibmombpjpaaGreatDoorTie
import Derived.SevenTiedAt
import Derived.SizedLaws
set_option linter.unusedSimpArgs false
namespace Go.Proofs.YtpkmibmombpjpaaGreatDoor
open Go Go.RowKit

theorem ownR_ap {W : World} {B : Nat} {v : Value} {l : List En} (h : OwnR W B v l) : AP W v l := AP.of_own h
theorem ownR_ge {W : World} {B b : Nat} {v : Value} {l : List En} (h : OwnR W B v l) (hb : v.ownBlock = some b) : B ≤ b := own_ge h b hb
theorem ownE_ap {W : World} {B : Nat} {v : Value} {l : List En} (h : OwnE W B v l) : AP W v l := AP.of_ownE h
/-- Where a slice lies. -/
def Lies (v : Value) (lo hi : Nat) : Prop := ∀ b, v.ownBlock = some b → lo ≤ b ∧ b < hi
def at7 {α : Type} (a b c d e f g : α) : Nat → α
  | 0 => a
  | 1 => b
  | 2 => c
  | 3 => d
  | 4 => e
  | 5 => f
  | _ => g
/-- Seven slices, each in its own part of memory. -/
theorem af7 {W : World} {B h1 h2 h3 h4 h5 h6 h7 : Nat} {v0 v1 v2 v3 v4 v5 v6 : Value} {l0 l1 l2 l3 l4 l5 l6 : List En} (a0 : AP W v0 l0) (a1 : AP W v1 l1) (a2 : AP W v2 l2) (a3 : AP W v3 l3) (a4 : AP W v4 l4) (a5 : AP W v5 l5) (a6 : AP W v6 l6) (b0 : Lies v0 B h1) (b1 : Lies v1 h1 h2) (b2 : Lies v2 h2 h3) (b3 : Lies v3 h3 h4) (b4 : Lies v4 h4 h5) (b5 : Lies v5 h5 h6) (b6 : Lies v6 h6 h7) (m : B ≤ h1 ∧ h1 ≤ h2 ∧ h2 ≤ h3 ∧ h3 ≤ h4 ∧ h4 ≤ h5 ∧ h5 ≤ h6 ∧ h6 ≤ h7) :
    AF W B 7 (at7 v0 v1 v2 v3 v4 v5 v6) (fun _ => nilV) (at7 l0 l1 l2 l3 l4 l5 l6) (fun _ => []) := by
  refine AF.init (fun k => if k = 0 then B else if k = 7 then h7 else if 7 < k then h7 else at7 B h1 h2 h3 h4 h5 h6 k) (fun k hk => ?_) (fun k b hk hb => ?_) (fun k => ?_) (fun k => ?_)
  · match k, hk with
    | 0, _ => exact a0
    | 1, _ => exact a1
    | 2, _ => exact a2
    | 3, _ => exact a3
    | 4, _ => exact a4
    | 5, _ => exact a5
    | 6, _ => exact a6
    | n + 7, h => omega
  · match k, hk with
    | 0, _ => exact b0 b hb
    | 1, _ => exact b1 b hb
    | 2, _ => exact b2 b hb
    | 3, _ => exact b3 b hb
    | 4, _ => exact b4 b hb
    | 5, _ => exact b5 b hb
    | 6, _ => exact b6 b hb
    | n + 7, h => omega
  · match k with
    | 0 => exact Nat.le_refl _
    | 1 => show B ≤ h1; omega
    | 2 => show B ≤ h2; omega
    | 3 => show B ≤ h3; omega
    | 4 => show B ≤ h4; omega
    | 5 => show B ≤ h5; omega
    | 6 => show B ≤ h6; omega
    | 7 => show B ≤ h7; omega
    | n + 8 => show B ≤ (if n + 8 = 0 then B else if n + 8 = 7 then h7 else if 7 < n + 8 then h7 else _); rw [if_neg (by omega), if_neg (by omega), if_pos (by omega)]; omega
  · match k with
    | 0 => show B ≤ h1; omega
    | 1 => show h1 ≤ h2; omega
    | 2 => show h2 ≤ h3; omega
    | 3 => show h3 ≤ h4; omega
    | 4 => show h4 ≤ h5; omega
    | 5 => show h5 ≤ h6; omega
    | 6 => show h6 ≤ h7; omega
    | 7 => show h7 ≤ h7; omega
    | n + 8 =>
      show (if n + 8 = 0 then B else if n + 8 = 7 then h7 else if 7 < n + 8 then h7 else _) ≤ (if n + 8 + 1 = 0 then B else if n + 8 + 1 = 7 then h7 else if 7 < n + 8 + 1 then h7 else _)
      rw [if_neg (by omega), if_neg (by omega), if_pos (by omega), if_neg (by omega), if_neg (by omega), if_pos (by omega)]
      exact Nat.le_refl _
theorem sameEn2 {l m : List En} (h : l = m) (hl : ∀ e ∈ l, e.In) (hn : l.length ≤ 1000000) {v u : Value} {w : World} (hv : ES w v l) (hu : ES w u m) : Calls Tryz.prog 17 #[v, u] w (fun r w' => r = .returned (.bool true) ∧ Below w.heap.size w w') := sameEn_yes l m h hl hn v u w hv hu
set_option maxRecDepth 100000 in
set_option maxHeartbeats 16000000 in
theorem sets_any (a b c : List En) (ha : ∀ e ∈ a, e.In) (hb : ∀ e ∈ b, e.In) (hc : ∀ e ∈ c, e.In) (r t bd : Int) (va vb vc : Value) (w : World) (xa : ES w va a) (xb : ES w vb b) (xc : ES w vc c) : Calls Tryz.prog 19 #[va, vb, vc, .int .i64 r, .int .i64 t, .int .i64 bd] w (fun r w' => r = .returned (.bool true) ∧ Below w.heap.size w w') := by
  have HXA := Lib.hid (fun W (h : Below w.heap.size w W) => (xa.keep h : ES W va a))
  have HXB := Lib.hid (fun W (h : Below w.heap.size w W) => (xb.keep h : ES W vb b))
  have HXC := Lib.hid (fun W (h : Below w.heap.size w W) => (xc.keep h : ES W vc c))
  obtain ⟨Aa, ca, rfl, -⟩ := xa.len
  obtain ⟨Ab, cb, rfl, -⟩ := xb.len
  obtain ⟨Ac, cc, rfl, -⟩ := xc.len
  obtain ⟨na, hna⟩ : ∃ n, a.length = n := ⟨_, rfl⟩
  obtain ⟨nb, hnb⟩ : ∃ n, b.length = n := ⟨_, rfl⟩
  obtain ⟨nc, hnc⟩ : ∃ n, c.length = n := ⟨_, rfl⟩
  rw [hna] at HXA ⊢
  rw [hnb] at HXB ⊢
  rw [hnc] at HXC ⊢
  have HN := Lib.hid (And.intro hna (And.intro hnb hnc))
  have HI := Lib.hid (And.intro ha (And.intro hb hc))
  obtain ⟨eb, heb⟩ : ∃ e : Int, (if setB b then (0 : Int) else 314) = e := ⟨_, rfl⟩
  obtain ⟨ec, hec⟩ : ∃ e : Int, (if setB c then (0 : Int) else 314) = e := ⟨_, rfl⟩
  have HE := Lib.hid (And.intro heb hec)
  clear heb hec
  clear xa xb xc hna hnb hnc ha hb hc
  go_enter Tryz.func19, Tryz.ntmps19
  obtain ⟨M, hM⟩ : ∃ M, max (max na nb) nc = M := ⟨_, rfl⟩
  have mx : ∀ (ts : Array TypeId) (t : TypeId) (W : World), (Builtin.max_ ts t #[.int .i64 (na : Int), .int .i64 (nb : Int), .int .i64 (nc : Int)]).run Tryz.prog W = .ok (.int .i64 (M : Int)) W := fun ts t W => by
    have h : (Builtin.max_ ts t #[.int .i64 (na : Int), .int .i64 (nb : Int), .int .i64 (nc : Int)]).run Tryz.prog W = .ok (.int .i64 (if (nc : Int) > (if (nb : Int) > (na : Int) then (nb : Int) else na) then (nc : Int) else (if (nb : Int) > (na : Int) then (nb : Int) else na))) W := by simp [Builtin.max_, Builtin.max2]
    rw [h, ← hM]
    congr 2
    split <;> split <;> omega
  by_cases hbig : 40 < M
  · have u1 : decide ((40 : Int) < (M : Int)) = true := decide_eq_true (by omega)
    have u1b : decide (40 < M) = true := decide_eq_true hbig
    clear hbig
    go_wp2_with fail
    go_ret
    exact ⟨rfl, Below.refl _ _⟩
  have u1 : decide ((40 : Int) < (M : Int)) = false := decide_eq_false (by omega)
  have u1b : decide (40 < M) = false := decide_eq_false hbig
  have HM : Hid (na ≤ 40 ∧ nb ≤ 40 ∧ nc ≤ 40) := Lib.hid (by omega)
  clear hbig
  go_wp2_with fail
  have C0 := lentEntries_any _ a (by rw [HN.out.1]; have := HM.out; omega) w (HXA.out w (Below.refl _ _))
  rw [HN.out.1] at C0
  refine C0.mono ?_
  rintro x w1 ⟨rfl, hx, hb⟩
  clear C0
  have HB := Lib.hid hb
  have HA := Lib.hid hx
  obtain ⟨gA, hg⟩ : ∃ g, w.heap.size = g := ⟨_, rfl⟩
  have S0 := Lib.hid (And.intro hg hb.size)
  rw [hg] at HA ⊢
  have Q0 : Hid (Lies (.slice (some ⟨gA, 0, none⟩) na (na + 12)) w.heap.size w1.heap.size) := Lib.hid (fun z hz => by
    have h1 := hx.lt
    have h2 : gA = z := Option.some.inj hz
    omega)
  clear hx hg hb
  go_wp2_with fail
  have C1 := lentEntries_any _ b (by rw [HN.out.2.1]; have := HM.out; omega) w1 (HXB.out w1 HB.out)
  rw [HN.out.2.1] at C1
  refine C1.mono ?_
  rintro x w2 ⟨rfl, hx, hb⟩
  clear C1
  replace HA := Lib.hid (HA.out.keep hb)
  replace HB := Lib.hid (HB.out.trans (hb.mono HB.out.size))
  have HB0 := Lib.hid hx
  obtain ⟨gB0, hg⟩ : ∃ g, w1.heap.size = g := ⟨_, rfl⟩
  have S1 := Lib.hid (And.intro hg hb.size)
  rw [hg] at HB0 ⊢
  have Q1 : Hid (Lies (.slice (some ⟨gB0, 0, none⟩) nb (nb + 12)) w1.heap.size w2.heap.size) := Lib.hid (fun z hz => by
    have h1 := hx.lt
    have h2 : gB0 = z := Option.some.inj hz
    omega)
  clear hx hg hb
  go_wp2_with fail
  have C2 := lentEntries_any _ c (by rw [HN.out.2.2]; have := HM.out; omega) w2 (HXC.out w2 HB.out)
  rw [HN.out.2.2] at C2
  refine C2.mono ?_
  rintro x w3 ⟨rfl, hx, hb⟩
  clear C2
  replace HA := Lib.hid (HA.out.keep hb)
  replace HB0 := Lib.hid (HB0.out.keep hb)
  replace HB := Lib.hid (HB.out.trans (hb.mono HB.out.size))
  have HC0 := Lib.hid hx
  obtain ⟨gC0, hg⟩ : ∃ g, w2.heap.size = g := ⟨_, rfl⟩
  have S2 := Lib.hid (And.intro hg hb.size)
  rw [hg] at HC0 ⊢
  have Q2 : Hid (Lies (.slice (some ⟨gC0, 0, none⟩) nc (nc + 12)) w2.heap.size w3.heap.size) := Lib.hid (fun z hz => by
    have h1 := hx.lt
    have h2 : gC0 = z := Option.some.inj hz
    omega)
  clear hx hg hb
  go_wp2_with fail
  have C3 := set_any a HI.out.1 (by rw [HN.out.1]; have := HM.out; omega) _ w3 (by have h := HA.out.ap.es; rwa [HN.out.1] at h)
  refine C3.mono ?_
  rintro x w4 ⟨u3, rfl, hx, hb⟩
  clear C3
  replace HA := Lib.hid (HA.out.keep hb)
  replace HB0 := Lib.hid (HB0.out.keep hb)
  replace HC0 := Lib.hid (HC0.out.keep hb)
  replace HB := Lib.hid (HB.out.trans (hb.mono HB.out.size))
  have H3 := Lib.hid hx
  have S3 := Lib.hid hb.size
  have Q3 : Hid (Lies u3 w3.heap.size w4.heap.size) := Lib.hid (fun z hz => ⟨hx.ge hz, (ownE_ap hx).lt hz⟩)
  obtain ⟨A3, c3, rfl, -⟩ := hx.es.len
  clear hx hb
  obtain ⟨n3, hn3⟩ : ∃ n, (setL a).length = n := ⟨_, rfl⟩
  rw [hn3] at H3 Q3 ⊢
  have N3 := Lib.hid hn3
  clear hn3
  have HIN : Hid (∀ l ∈ [a, b, c], ∀ e ∈ l, e.In) := Lib.hid (by simpa using HI.out)
  have HFL : Hid ([a, b, c].flatten.length ≤ 900000) := Lib.hid (by have := HM.out; have := HN.out; simp only [List.flatten_cons, List.flatten_nil, List.length_append, List.length_nil]; omega)
  have hl := LLS.new w4 [.slice (some ⟨gA, 0, none⟩) na (na + 12), .slice (some ⟨gB0, 0, none⟩) nb (nb + 12), .slice (some ⟨gC0, 0, none⟩) nc (nc + 12)] [a, b, c] rfl (fun i va vl h1 h2 => by
    match i, h1, h2 with
    | 0, h1, h2 => injection h1 with h1; injection h2 with h2; subst h1; subst h2; exact (by have h := HA.out.ap.es; rwa [HN.out.1] at h)
    | 1, h1, h2 => injection h1 with h1; injection h2 with h2; subst h1; subst h2; exact (by have h := HB0.out.ap.es; rwa [HN.out.2.1] at h)
    | 2, h1, h2 => injection h1 with h1; injection h2 with h2; subst h1; subst h2; exact (by have h := HC0.out.ap.es; rwa [HN.out.2.2] at h)
    | n + 3, h1, h2 => simp at h1)
  have C4 := Lib.hid (merge_any [a, b, c] HIN.out HFL.out (by simp) _ _ hl)
  have hba := below1 w4 (.cells #[.slice (some ⟨gA, 0, none⟩) na (na + 12), .slice (some ⟨gB0, 0, none⟩) nb (nb + 12), .slice (some ⟨gC0, 0, none⟩) nc (nc + 12)] 40)
  have HBA := Lib.hid hba
  clear hl hba
  go_wp2_with (refine op_bsl 43 40 3 _ #[.slice (some ⟨gA, 0, none⟩) na (na + 12), .slice (some ⟨gB0, 0, none⟩) nb (nb + 12), .slice (some ⟨gC0, 0, none⟩) nc (nc + 12)] rfl rfl (by kernel_rfl) ?_)
  refine C4.out.mono ?_
  rintro x w5 ⟨u4, rfl, hx, hb0⟩
  have hb := HBA.out.trans (hb0.mono HBA.out.size)
  clear C4
  replace HA := Lib.hid (HA.out.keep hb)
  replace HB0 := Lib.hid (HB0.out.keep hb)
  replace HC0 := Lib.hid (HC0.out.keep hb)
  replace H3 := Lib.hid (H3.out.keep hb)
  replace HB := Lib.hid (HB.out.trans (hb.mono HB.out.size))
  have H4 := Lib.hid hx
  have S4 := Lib.hid hb.size
  have Q4 : Hid (Lies u4 w4.heap.size w5.heap.size) := Lib.hid (fun z hz => ⟨Nat.le_trans HBA.out.size (hx.ge hz), (ownE_ap hx).lt hz⟩)
  obtain ⟨A4, c4, rfl, -⟩ := hx.es.len
  clear hx hb hb0 HBA
  obtain ⟨ml, hml⟩ : ∃ ml, mergL [a, b, c] = ml := ⟨_, rfl⟩
  obtain ⟨n4, hn4⟩ : ∃ n, ml.length = n := ⟨_, rfl⟩
  rw [hml] at H4 Q4 ⊢
  rw [hn4] at H4 Q4 ⊢
  have N4 := Lib.hid (And.intro hml hn4)
  clear hml hn4
  have hl := LLS.new w5 [.slice Aa na ca, .slice Ab nb cb, .slice Ac nc cc] [a, b, c] rfl (fun i va vl h1 h2 => by
    match i, h1, h2 with
    | 0, h1, h2 => injection h1 with h1; injection h2 with h2; subst h1; subst h2; exact (HXA.out _ HB.out)
    | 1, h1, h2 => injection h1 with h1; injection h2 with h2; subst h1; subst h2; exact (HXB.out _ HB.out)
    | 2, h1, h2 => injection h1 with h1; injection h2 with h2; subst h1; subst h2; exact (HXC.out _ HB.out)
    | n + 3, h1, h2 => simp at h1)
  have C5 := Lib.hid (rmerge_any [a, b, c] HIN.out HFL.out (by simp) _ _ hl)
  rw [N4.out.1] at C5
  have HBA := Lib.hid (below1 w5 (.cells #[.slice Aa na ca, .slice Ab nb cb, .slice Ac nc cc] 40))
  clear hl
  go_wp2_with (refine op_bsl 43 40 3 _ #[.slice Aa na ca, .slice Ab nb cb, .slice Ac nc cc] rfl rfl (by kernel_rfl) ?_)
  refine C5.out.mono ?_
  rintro x w6 ⟨u5, rfl, hx, hb0⟩
  have hb := HBA.out.trans (hb0.mono HBA.out.size)
  clear C5
  replace HA := Lib.hid (HA.out.keep hb)
  replace HB0 := Lib.hid (HB0.out.keep hb)
  replace HC0 := Lib.hid (HC0.out.keep hb)
  replace H3 := Lib.hid (H3.out.keep hb)
  replace H4 := Lib.hid (H4.out.keep hb)
  replace HB := Lib.hid (HB.out.trans (hb.mono HB.out.size))
  have H5 := Lib.hid hx
  have S5 := Lib.hid hb.size
  obtain ⟨A5, c5, rfl⟩ := hx.slice
  clear hx hb hb0 HBA
  rw [N4.out.2] at H5 ⊢
  go_wp2_with fail
  have C6 := counting_any b HI.out.2.1 (by rw [HN.out.2.1]; have := HM.out; omega) _ w6 (by have h := HB0.out.ap.es; rwa [HN.out.2.1] at h)
  rw [HE.out.1] at C6
  refine C6.mono ?_
  rintro x w7 ⟨u6, rfl, hx, hb⟩
  clear C6
  replace HA := Lib.hid (HA.out.keep hb)
  replace HB0 := Lib.hid (HB0.out.keep hb)
  replace HC0 := Lib.hid (HC0.out.keep hb)
  replace H3 := Lib.hid (H3.out.keep hb)
  replace H4 := Lib.hid (H4.out.keep hb)
  replace H5 := Lib.hid (H5.out.keep hb)
  replace HB := Lib.hid (HB.out.trans (hb.mono HB.out.size))
  have H6 : Hid (OwnR w7 w6.heap.size u6 (cntL b)) := Lib.hid hx
  have S6 := Lib.hid hb.size
  have Q6 : Hid (Lies u6 w6.heap.size w7.heap.size) := Lib.hid (fun z hz => ⟨ownR_ge H6.out hz, (ownR_ap H6.out).lt hz⟩)
  obtain ⟨A6, c6, rfl⟩ := H6.out.slice
  clear hx hb
  obtain ⟨n6, hn6⟩ : ∃ n, ((cntL b)).length = n := ⟨_, rfl⟩
  rw [hn6] at H6 Q6 ⊢
  have N6 := Lib.hid hn6
  clear hn6
  go_wp2_with fail
  have C7 := rcounting_any b HI.out.2.1 (by rw [HN.out.2.1]; have := HM.out; omega) _ w7 (HXB.out _ HB.out)
  rw [HE.out.1] at C7
  refine C7.mono ?_
  rintro x w8 ⟨u7, rfl, hx, hb⟩
  clear C7
  replace HA := Lib.hid (HA.out.keep hb)
  replace HB0 := Lib.hid (HB0.out.keep hb)
  replace HC0 := Lib.hid (HC0.out.keep hb)
  replace H3 := Lib.hid (H3.out.keep hb)
  replace H4 := Lib.hid (H4.out.keep hb)
  replace H5 := Lib.hid (H5.out.keep hb)
  replace H6 := Lib.hid (H6.out.keep hb)
  replace HB := Lib.hid (HB.out.trans (hb.mono HB.out.size))
  have H7 : Hid (OwnR w8 w7.heap.size u7 (cntL b)) := Lib.hid hx
  have S7 := Lib.hid hb.size
  obtain ⟨A7, c7, rfl⟩ := H7.out.slice
  clear hx hb
  rw [N6.out] at H7 ⊢
  go_wp2_with fail
  have C8 := versions_any c HI.out.2.2 (by rw [HN.out.2.2]; have := HM.out; omega) r t bd _ w8 (by have h := HC0.out.ap.es; rwa [HN.out.2.2] at h)
  rw [HE.out.2] at C8
  refine C8.mono ?_
  rintro x w9 ⟨u8, rfl, hx, hb⟩
  clear C8
  replace HA := Lib.hid (HA.out.keep hb)
  replace HB0 := Lib.hid (HB0.out.keep hb)
  replace HC0 := Lib.hid (HC0.out.keep hb)
  replace H3 := Lib.hid (H3.out.keep hb)
  replace H4 := Lib.hid (H4.out.keep hb)
  replace H5 := Lib.hid (H5.out.keep hb)
  replace H6 := Lib.hid (H6.out.keep hb)
  replace H7 := Lib.hid (H7.out.keep hb)
  replace HB := Lib.hid (HB.out.trans (hb.mono HB.out.size))
  have H8 : Hid (OwnR w9 w8.heap.size u8 (versL c r t bd)) := Lib.hid hx
  have S8 := Lib.hid hb.size
  have Q8 : Hid (Lies u8 w8.heap.size w9.heap.size) := Lib.hid (fun z hz => ⟨ownR_ge H8.out hz, (ownR_ap H8.out).lt hz⟩)
  obtain ⟨A8, c8, rfl⟩ := H8.out.slice
  clear hx hb
  obtain ⟨n8, hn8⟩ : ∃ n, ((versL c r t bd)).length = n := ⟨_, rfl⟩
  rw [hn8] at H8 Q8 ⊢
  have N8 := Lib.hid hn8
  clear hn8
  go_wp2_with fail
  have C9 := rversions_any c HI.out.2.2 (by rw [HN.out.2.2]; have := HM.out; omega) r t bd _ w9 (HXC.out _ HB.out)
  rw [HE.out.2] at C9
  refine C9.mono ?_
  rintro x w10 ⟨u9, rfl, hx, hb⟩
  clear C9
  replace HA := Lib.hid (HA.out.keep hb)
  replace HB0 := Lib.hid (HB0.out.keep hb)
  replace HC0 := Lib.hid (HC0.out.keep hb)
  replace H3 := Lib.hid (H3.out.keep hb)
  replace H4 := Lib.hid (H4.out.keep hb)
  replace H5 := Lib.hid (H5.out.keep hb)
  replace H6 := Lib.hid (H6.out.keep hb)
  replace H7 := Lib.hid (H7.out.keep hb)
  replace H8 := Lib.hid (H8.out.keep hb)
  replace HB := Lib.hid (HB.out.trans (hb.mono HB.out.size))
  have H9 : Hid (OwnR w10 w9.heap.size u9 (versL c r t bd)) := Lib.hid hx
  have S9 := Lib.hid hb.size
  obtain ⟨A9, c9, rfl⟩ := H9.out.slice
  clear hx hb
  rw [N8.out] at H9 ⊢
  have IA : Hid (∀ e ∈ setL a, e.In) := Lib.hid (setL_in HI.out.1)
  have IM : Hid (∀ e ∈ ml, e.In) := Lib.hid (by
    rw [← N4.out.1]
    unfold mergL
    split
    · exact setL_in (fun e he => by
        obtain ⟨l, hl, hel⟩ := List.mem_flatten.1 he
        exact HIN.out l hl e hel)
    · intro e he; simp at he)
  have IC : Hid (∀ e ∈ cntL b, e.In) := Lib.hid (by
    unfold cntL
    split
    · exact fun e he => HI.out.2.1 e (count_sub e _ he)
    · intro e he; simp at he)
  have IV : Hid (∀ e ∈ versL c r t bd, e.In) := Lib.hid (by
    unfold versL
    split
    · exact fun e he => HI.out.2.2 e (mem_vers.1 he).1
    · intro e he; simp at he)
  have LEN : Hid (n3 ≤ 1000 ∧ n4 ≤ 1000 ∧ n6 ≤ 1000 ∧ n8 ≤ 1000) := Lib.hid (by
    have hm := HM.out
    have hn := HN.out
    have h3 := N3.out
    have h6 := N6.out
    have h8 := N8.out
    have h4 := N4.out
    have k3 := setL_len a
    have k4 : ml.length ≤ [a, b, c].flatten.length := by
      rw [← h4.1]
      unfold mergL
      split
      · exact setL_len _
      · simp
    have k5 : [a, b, c].flatten.length = na + (nb + nc) := by simp only [List.flatten_cons, List.flatten_nil, List.length_append, List.length_nil]; omega
    have k6 : (cntL b).length ≤ b.length := by
      unfold cntL
      split
      · rename_i hs; rw [← lastK_count b hs]; exact last_le b
      · simp
    have k8 : (versL c r t bd).length ≤ c.length := by
      unfold versL
      split
      · exact List.length_filter_le _ _
      · simp
    omega)
  go_wp2_with fail
  have C10 := rset_any a HI.out.1 (by rw [HN.out.1]; have := HM.out; omega) _ w10 (HXA.out _ HB.out)
  refine C10.mono ?_
  rintro x w11 ⟨u10, rfl, hx, hb⟩
  clear C10
  replace HA := Lib.hid (HA.out.keep hb)
  replace HB0 := Lib.hid (HB0.out.keep hb)
  replace HC0 := Lib.hid (HC0.out.keep hb)
  replace H3 := Lib.hid (H3.out.keep hb)
  replace H4 := Lib.hid (H4.out.keep hb)
  replace H5 := Lib.hid (H5.out.keep hb)
  replace H6 := Lib.hid (H6.out.keep hb)
  replace H7 := Lib.hid (H7.out.keep hb)
  replace H8 := Lib.hid (H8.out.keep hb)
  replace H9 := Lib.hid (H9.out.keep hb)
  replace HB := Lib.hid (HB.out.trans (hb.mono HB.out.size))
  have H10 := Lib.hid hx
  obtain ⟨A10, c10, rfl⟩ := hx.slice
  clear hx hb
  rw [N3.out] at H10 ⊢
  go_wp2_with fail
  refine (sameEn2 rfl IA.out (by rw [N3.out]; have := LEN.out; omega) (by have h := H3.out.es; exact h) (by have h := H10.out.es; exact h)).mono ?_
  rintro x w12 ⟨rfl, hb⟩
  replace HA := Lib.hid (HA.out.keep hb)
  replace HB0 := Lib.hid (HB0.out.keep hb)
  replace HC0 := Lib.hid (HC0.out.keep hb)
  replace H3 := Lib.hid (H3.out.keep hb)
  replace H4 := Lib.hid (H4.out.keep hb)
  replace H5 := Lib.hid (H5.out.keep hb)
  replace H6 := Lib.hid (H6.out.keep hb)
  replace H7 := Lib.hid (H7.out.keep hb)
  replace H8 := Lib.hid (H8.out.keep hb)
  replace H9 := Lib.hid (H9.out.keep hb)
  replace H10 := Lib.hid (H10.out.keep hb)
  replace HB := Lib.hid (HB.out.trans (hb.mono HB.out.size))
  clear hb
  go_wp2_with fail
  refine (sameEn2 rfl IM.out (by rw [N4.out.2]; have := LEN.out; omega) H4.out.es H5.out.es).mono ?_
  rintro x w13 ⟨rfl, hb⟩
  replace HA := Lib.hid (HA.out.keep hb)
  replace HB0 := Lib.hid (HB0.out.keep hb)
  replace HC0 := Lib.hid (HC0.out.keep hb)
  replace H3 := Lib.hid (H3.out.keep hb)
  replace H4 := Lib.hid (H4.out.keep hb)
  replace H5 := Lib.hid (H5.out.keep hb)
  replace H6 := Lib.hid (H6.out.keep hb)
  replace H7 := Lib.hid (H7.out.keep hb)
  replace H8 := Lib.hid (H8.out.keep hb)
  replace H9 := Lib.hid (H9.out.keep hb)
  replace H10 := Lib.hid (H10.out.keep hb)
  replace HB := Lib.hid (HB.out.trans (hb.mono HB.out.size))
  clear hb
  go_wp2_with fail
  refine (sameEn2 rfl IC.out (by rw [N6.out]; have := LEN.out; omega) H6.out.es H7.out.es).mono ?_
  rintro x w14 ⟨rfl, hb⟩
  replace HA := Lib.hid (HA.out.keep hb)
  replace HB0 := Lib.hid (HB0.out.keep hb)
  replace HC0 := Lib.hid (HC0.out.keep hb)
  replace H3 := Lib.hid (H3.out.keep hb)
  replace H4 := Lib.hid (H4.out.keep hb)
  replace H5 := Lib.hid (H5.out.keep hb)
  replace H6 := Lib.hid (H6.out.keep hb)
  replace H7 := Lib.hid (H7.out.keep hb)
  replace H8 := Lib.hid (H8.out.keep hb)
  replace H9 := Lib.hid (H9.out.keep hb)
  replace H10 := Lib.hid (H10.out.keep hb)
  replace HB := Lib.hid (HB.out.trans (hb.mono HB.out.size))
  clear hb
  go_wp2_with fail
  refine (sameEn2 rfl IV.out (by rw [N8.out]; have := LEN.out; omega) H8.out.es H9.out.es).mono ?_
  rintro x w15 ⟨rfl, hb⟩
  replace HA := Lib.hid (HA.out.keep hb)
  replace HB0 := Lib.hid (HB0.out.keep hb)
  replace HC0 := Lib.hid (HC0.out.keep hb)
  replace H3 := Lib.hid (H3.out.keep hb)
  replace H4 := Lib.hid (H4.out.keep hb)
  replace H5 := Lib.hid (H5.out.keep hb)
  replace H6 := Lib.hid (H6.out.keep hb)
  replace H7 := Lib.hid (H7.out.keep hb)
  replace H8 := Lib.hid (H8.out.keep hb)
  replace H9 := Lib.hid (H9.out.keep hb)
  replace H10 := Lib.hid (H10.out.keep hb)
  replace HB := Lib.hid (HB.out.trans (hb.mono HB.out.size))
  clear hb
  go_wp2_with fail
  have C15 := keptEntries_any gA _ a HI.out.1 (by rw [HN.out.1]; have := HM.out; omega) w15 HA.out (HXA.out _ HB.out)
  rw [HN.out.1] at C15
  refine C15.mono ?_
  rintro x w16 ⟨rfl, hb⟩
  clear C15
  replace HA := Lib.hid (HA.out.keep hb)
  replace HB0 := Lib.hid (HB0.out.keep hb)
  replace HC0 := Lib.hid (HC0.out.keep hb)
  replace H3 := Lib.hid (H3.out.keep hb)
  replace H4 := Lib.hid (H4.out.keep hb)
  replace H5 := Lib.hid (H5.out.keep hb)
  replace H6 := Lib.hid (H6.out.keep hb)
  replace H7 := Lib.hid (H7.out.keep hb)
  replace H8 := Lib.hid (H8.out.keep hb)
  replace H9 := Lib.hid (H9.out.keep hb)
  replace H10 := Lib.hid (H10.out.keep hb)
  replace HB := Lib.hid (HB.out.trans (hb.mono HB.out.size))
  clear hb
  go_wp2_with fail
  have C16 := keptEntries_any gB0 _ b HI.out.2.1 (by rw [HN.out.2.1]; have := HM.out; omega) w16 HB0.out (HXB.out _ HB.out)
  rw [HN.out.2.1] at C16
  refine C16.mono ?_
  rintro x w17 ⟨rfl, hb⟩
  clear C16
  replace HA := Lib.hid (HA.out.keep hb)
  replace HB0 := Lib.hid (HB0.out.keep hb)
  replace HC0 := Lib.hid (HC0.out.keep hb)
  replace H3 := Lib.hid (H3.out.keep hb)
  replace H4 := Lib.hid (H4.out.keep hb)
  replace H5 := Lib.hid (H5.out.keep hb)
  replace H6 := Lib.hid (H6.out.keep hb)
  replace H7 := Lib.hid (H7.out.keep hb)
  replace H8 := Lib.hid (H8.out.keep hb)
  replace H9 := Lib.hid (H9.out.keep hb)
  replace H10 := Lib.hid (H10.out.keep hb)
  replace HB := Lib.hid (HB.out.trans (hb.mono HB.out.size))
  clear hb
  go_wp2_with fail
  have C17 := keptEntries_any gC0 _ c HI.out.2.2 (by rw [HN.out.2.2]; have := HM.out; omega) w17 HC0.out (HXC.out _ HB.out)
  rw [HN.out.2.2] at C17
  refine C17.mono ?_
  rintro x w18 ⟨rfl, hb⟩
  clear C17
  replace HA := Lib.hid (HA.out.keep hb)
  replace HB0 := Lib.hid (HB0.out.keep hb)
  replace HC0 := Lib.hid (HC0.out.keep hb)
  replace H3 := Lib.hid (H3.out.keep hb)
  replace H4 := Lib.hid (H4.out.keep hb)
  replace H5 := Lib.hid (H5.out.keep hb)
  replace H6 := Lib.hid (H6.out.keep hb)
  replace H7 := Lib.hid (H7.out.keep hb)
  replace H8 := Lib.hid (H8.out.keep hb)
  replace H9 := Lib.hid (H9.out.keep hb)
  replace H10 := Lib.hid (H10.out.keep hb)
  replace HB := Lib.hid (HB.out.trans (hb.mono HB.out.size))
  clear hb
  have HAF : Hid (AF w18 w.heap.size 7 (at7 (.slice (some ⟨gA, 0, none⟩) na (na + 12)) (.slice (some ⟨gB0, 0, none⟩) nb (nb + 12)) (.slice (some ⟨gC0, 0, none⟩) nc (nc + 12)) (.slice A3 n3 c3) (.slice A4 n4 c4) (.slice A6 n6 c6) (.slice A8 n8 c8)) (fun _ => nilV) (at7 a b c (setL a) ml (cntL b) (versL c r t bd)) (fun _ => [])) := Lib.hid (af7 (by have h := HA.out.ap; rwa [HN.out.1] at h) (by have h := HB0.out.ap; rwa [HN.out.2.1] at h) (by have h := HC0.out.ap; rwa [HN.out.2.2] at h) (ownE_ap H3.out) (ownE_ap H4.out) (ownR_ap H6.out) (ownR_ap H8.out) Q0.out Q1.out Q2.out Q3.out Q4.out (fun z hz => ⟨Nat.le_trans S5.out (Q6.out z hz).1, (Q6.out z hz).2⟩) (fun z hz => ⟨Nat.le_trans S7.out (Q8.out z hz).1, (Q8.out z hz).2⟩)
    ⟨S0.out.2, S1.out.2, S2.out.2, S3.out, S4.out, Nat.le_trans S5.out S6.out, Nat.le_trans S7.out S8.out⟩)
  have hbl := Blk.new w18 40 #[.slice (some ⟨gA, 0, none⟩) na (na + 12), .slice (some ⟨gB0, 0, none⟩) nb (nb + 12), .slice (some ⟨gC0, 0, none⟩) nc (nc + 12), .slice A3 n3 c3, .slice A4 n4 c4, .slice A6 n6 c6, .slice A8 n8 c8]
  have HBL := Lib.hid hbl
  have HBA := Lib.hid (below1 w18 (.cells #[.slice (some ⟨gA, 0, none⟩) na (na + 12), .slice (some ⟨gB0, 0, none⟩) nb (nb + 12), .slice (some ⟨gC0, 0, none⟩) nc (nc + 12), .slice A3 n3 c3, .slice A4 n4 c4, .slice A6 n6 c6, .slice A8 n8 c8] 40))
  have HLL : Hid (∀ k, (at7 a b c (setL a) ml (cntL b) (versL c r t bd) k).length ≤ 1000) := Lib.hid (fun k => by
    have hm := HM.out
    have hn := HN.out
    have hl := LEN.out
    have h3 := N3.out
    have h4 := N4.out.2
    have h6 := N6.out
    have h8 := N8.out
    match k with
    | 0 => show a.length ≤ 1000; omega
    | 1 => show b.length ≤ 1000; omega
    | 2 => show c.length ≤ 1000; omega
    | 3 => show (setL a).length ≤ 1000; omega
    | 4 => show ml.length ≤ 1000; omega
    | 5 => show (cntL b).length ≤ 1000; omega
    | n + 6 => show (versL c r t bd).length ≤ 1000; omega)
  clear hbl HA HB0 HC0 H3 H4 H5 H6 H7 H8 H9 H10
  go_wp2_with (refine op_bsl 43 40 7 _ #[.slice (some ⟨gA, 0, none⟩) na (na + 12), .slice (some ⟨gB0, 0, none⟩) nb (nb + 12), .slice (some ⟨gC0, 0, none⟩) nc (nc + 12), .slice A3 n3 c3, .slice A4 n4 c4, .slice A6 n6 c6, .slice A8 n8 c8] rfl rfl (by kernel_rfl) ?_)
  refine (apartEntries_any 7 (by omega) (by omega) [.slice (some ⟨gA, 0, none⟩) na (na + 12), .slice (some ⟨gB0, 0, none⟩) nb (nb + 12), .slice (some ⟨gC0, 0, none⟩) nc (nc + 12), .slice A3 n3 c3, .slice A4 n4 c4, .slice A6 n6 c6, .slice A8 n8 c8] (at7 (.slice (some ⟨gA, 0, none⟩) na (na + 12)) (.slice (some ⟨gB0, 0, none⟩) nb (nb + 12)) (.slice (some ⟨gC0, 0, none⟩) nc (nc + 12)) (.slice A3 n3 c3) (.slice A4 n4 c4) (.slice A6 n6 c6) (.slice A8 n8 c8)) (at7 a b c (setL a) ml (cntL b) (versL c r t bd)) HLL.out w.heap.size w18.heap.size 7 _ rfl (fun k hk => by
    match k, hk with
    | 0, _ => rfl
    | 1, _ => rfl
    | 2, _ => rfl
    | 3, _ => rfl
    | 4, _ => rfl
    | 5, _ => rfl
    | 6, _ => rfl
    | n + 7, h => omega) HBL.out (HAF.out.keep HBA.out) (Nat.le_trans HB.out.size HBA.out.size)).mono ?_
  rintro x w19 ⟨rfl, hb⟩
  have HB2 := Lib.hid (HB.out.trans ((HBA.out.mono HB.out.size).trans hb))
  clear hb
  go_wp2_with fail
  go_ret
  exact ⟨rfl, HB2.out⟩
end Go.Proofs.YtpkmibmombpjpaaGreatDoor
set_option linter.unusedSimpArgs false
namespace Go.Proofs.YtpkmibmombpjpaaGreatDoor
open Go Go.RowKit

set_option maxRecDepth 100000 in
set_option maxHeartbeats 4000000 in
theorem esets_any (a b c : List En) (ha : ∀ e ∈ a, e.In) (hb : ∀ e ∈ b, e.In) (hc : ∀ e ∈ c, e.In) (r t bd : Int) (va vb vc : Value) (w : World) (he : Env w) (xa : ES w va a) (xb : ES w vb b) (xc : ES w vc c) : Calls Tryz.prog 6 #[va, vb, vc, .int .i64 r, .int .i64 t, .int .i64 bd] w (fun r w' => r = .returned (.bool true) ∧ Below w.heap.size w w') := by
  have S1 := Lib.hid (sets_any a b c ha hb hc r t bd va vb vc w xa xb xc)
  have HE := Lib.hid he
  obtain ⟨Aa, ca, rfl, -⟩ := xa.len
  obtain ⟨Ab, cb, rfl, -⟩ := xb.len
  obtain ⟨Ac, cc, rfl, -⟩ := xc.len
  generalize a.length = na at *
  generalize b.length = nb at *
  generalize c.length = nc at *
  clear xa xb xc ha hb hc he
  go_enter Tryz.func6, Tryz.ntmps6
  go_wp2_with fail
  refine S1.out.mono ?_
  rintro x w1 ⟨rfl, hb⟩
  have HB := Lib.hid hb
  clear hb S1
  go_wp2_with fail
  refine (awake_any _ (HE.out.keep HB.out)).mono ?_
  rintro x w2 ⟨rfl, hb⟩
  have HB2 := Lib.hid (HB.out.trans (hb.mono HB.out.size))
  clear hb
  go_wp2_with fail
  go_ret
  exact ⟨rfl, HB2.out⟩
theorem esets_open (va vb vc : Value) {w : World} (ha : ∃ l : List En, ES w va l ∧ ∀ e ∈ l, e.In) (hb : ∃ l : List En, ES w vb l ∧ ∀ e ∈ l, e.In) (hc : ∃ l : List En, ES w vc l ∧ ∀ e ∈ l, e.In) (r t bd : Int) (W : World) (he : Env W) (h : W = w) : Calls Tryz.prog 6 #[va, vb, vc, .int .i64 r, .int .i64 t, .int .i64 bd] W (fun r w' => r = .returned (.bool true) ∧ Below W.heap.size W w') := by
  subst h
  obtain ⟨a, xa, ia⟩ := ha
  obtain ⟨b, xb, ib⟩ := hb
  obtain ⟨c, xc, ic⟩ := hc
  exact esets_any a b c ia ib ic r t bd va vb vc W he xa xb xc
end Go.Proofs.YtpkmibmombpjpaaGreatDoor
namespace Go.Proofs.YtpkmibmombpjpaaGreatDoor.entrySets
open Go Go.ChangeShapes Go.ChangeMaps Go.WideShapes Go.ChangeAt Go.WideMaps Go.WideElems Go.RowKit

set_option maxRecDepth 100000 in
theorem lifted (os : Os) (started : os.Started) (H : Type) (enc : TypeId × Value → H) :
    ReturnsInHanded {} Tryz.checked os 6 .any (fun w args => (Rows.entrySetsSpec.pre enc Tryz.prog Tryz.f6 [] false w args ∧ laidMetH Tryz.prog laids w) ∧ sizedMet enc Tryz.prog Tryz.f6 (OpenSpec.ofChange Rows.entrySetsSpec) false w args)
      (Rows.entrySetsSpec.post enc Tryz.prog Tryz.f6 false true false false) := by
  refine handed_and_shaped (C := Tryz.checked) (X := fun w _ => laidMetH Tryz.prog laids w) (fun _ _ _ hh h => h.of_heap hh) own started (by kernel_rfl) Tryz.func6
    (ChangeSpec.witness_shaped (enc := enc) (C := Tryz.checked) (os := os) (X := fun w _ => laidMetH Tryz.prog laids w) false (World.laidAll Tryz.prog os laids) #[.slice none 0 0, .slice none 0 0, .slice none 0 0, .int .i64 0, .int .i64 0, .int .i64 0] 8 (World.laidAll_os _ _ _) (World.shaped_of_ZipB (by kernel_rfl) (by kernel_rfl)) (by kernel_rfl) (by kernel_rfl) (by kernel_rfl) (door_met os _)) ?_
  intro W base args ds gs before hval0 hW _ hsz hL hshape _
  have hval : ∀ (j : Nat) t v, Tryz.f6.params[j]? = some t → args[j]? = some v → Value.okWide Tryz.prog W .any base t v := hval0
  have hW' := hW
  obtain ⟨p, q, hA0, hV, rfl, hfz, hnd⟩ := hW
  have hA : DataW.TrodAll enc Tryz.prog W 0 (fun _ => true) true Tryz.f6.params.toList args.toList ds p := hA0
  rw [Tryz.params6] at hA hval
  obtain ⟨v0, vs0, d0, ds0, p0, q0, hargs0, rfl, rfl, h0, r0⟩ := trodAll_cons hA
  obtain ⟨v1, vs1, d1, ds1, p1, q1, hargs1, rfl, rfl, h1, r1⟩ := trodAll_cons r0
  obtain ⟨v2, vs2, d2, ds2, p2, q2, hargs2, rfl, rfl, h2, r2⟩ := trodAll_cons r1
  obtain ⟨v3, vs3, d3, ds3, p3, q3, hargs3, rfl, rfl, h3, r3⟩ := trodAll_cons r2
  obtain ⟨v4, vs4, d4, ds4, p4, q4, hargs4, rfl, rfl, h4, r4⟩ := trodAll_cons r3
  obtain ⟨v5, vs5, d5, ds5, p5, q5, hargs5, rfl, rfl, h5, r5⟩ := trodAll_cons r4
  obtain ⟨rfl, rfl, rfl⟩ := trodAll_nil r5
  obtain rfl : args = #[v0, v1, v2, v3, v4, v5] := by cases args; simp_all
  obtain ⟨rfl, rfl⟩ := trodVars_none hV
  obtain ⟨b3, rfl, rfl, rfl, w3⟩ := open_int Tryz.underlying3 (hval 3 3 v3 rfl rfl) h3
  obtain ⟨b4, rfl, rfl, rfl, w4⟩ := open_int Tryz.underlying3 (hval 4 3 v4 rfl rfl) h4
  obtain ⟨b5, rfl, rfl, rfl, w5⟩ := open_int Tryz.underlying3 (hval 5 3 v5 rfl rfl) h5
  clear hA0 hval0
  simp only [List.append_nil] at hW'
  have hlt0 : ∀ x ∈ p0, x.block < W.heap.size := fun x hx => by simpa using hW'.lt x (List.mem_append.2 (.inl hx))
  have hlt1 : ∀ x ∈ p1, x.block < W.heap.size := fun x hx => by simpa using hW'.lt x (List.mem_append.2 (.inr (List.mem_append.2 (.inl hx))))
  have hlt2 : ∀ x ∈ p2, x.block < W.heap.size := fun x hx => by simpa using hW'.lt x (List.mem_append.2 (.inr (List.mem_append.2 (.inr hx))))
  refine (esets_open _ _ _ (open_ens (hval 0 40 _ rfl rfl) h0) (open_ens (hval 1 40 _ rfl rfl) h1) (open_ens (hval 2 40 _ rfl rfl) h2) b3 b4 b5 W (env_of_laid hL hshape) rfl).mono fun e W' ⟨he, hg⟩ => ?_
  subst he
  exact ⟨_, rfl, _, _, _, [], (p0 ++ (p1 ++ (p2 ++ ([] ++ ([] ++ ([] ++ [])))))), [], hW', trodAll_mk1 (shut_bool Tryz.underlying4 _), (trodAll_cons_mk (Below.trod (show laidOutB Tryz.prog = true by kernel_rfl) (by kernel_rfl) (of_decide_eq_true (by kernel_rfl)) h0 hg hlt0) (trodAll_cons_mk (Below.trod (show laidOutB Tryz.prog = true by kernel_rfl) (by kernel_rfl) (of_decide_eq_true (by kernel_rfl)) h1 hg hlt1) (trodAll_cons_mk (Below.trod (show laidOutB Tryz.prog = true by kernel_rfl) (by kernel_rfl) (of_decide_eq_true (by kernel_rfl)) h2 hg hlt2) (trodAll_cons_mk (shut_int Tryz.underlying3 w3) (trodAll_cons_mk (shut_int Tryz.underlying3 w4) (trodAll_cons_mk (shut_int Tryz.underlying3 w5) trodAll_mk0)))))), rfl, hg.frame _, fun h => by cases h⟩

theorem over : Rows.EntrySetsSaid :=
  OpenClaim.holds_of_wide 6 Tryz.f6 rfl rfl rfl rfl rfl rfl rfl ⟨rfl, rfl, rfl, rfl, rfl⟩ rfl rfl rfl rfl rfl (by kernel_rfl) Tryz.func6 (by kernel_rfl)
    (of_decide_eq_true (by kernel_rfl)) (by unfold Func.isWrapper; first | (rw [if_pos (by decide +kernel)]; kernel_rfl) | (rw [if_neg (by decide +kernel)]; exact ⟨rfl, rfl⟩))
    (fun os started H enc _ => lifted os started H enc)

theorem card_holds : Rows.EntrySetsCardSaid :=
  Claim7.holds_tied_plain_at .later [] [.data, .data, .data, .data, .sentinel, .sentinel, .pinned] true (true, "0164e4441daa2ef451322f1291758c9700ccce8c29fafcad22677b4fb54b4141") true
    over (fun _ h => by cases h) (by kernel_rfl) (fun _ h => by cases h) entrySets_row_tie rfl ⟨rfl, rfl⟩ (by kernel_rfl) rfl
    (fun f fn hf hfn => by
      obtain rfl : f = 6 := Option.some.inj ((show Tryz.prog.funcNamed "finesse/finesselaw31.EntrySets" = some 6 by kernel_rfl).symm.trans hf) |>.symm
      obtain rfl : fn = Tryz.f6 := (Option.some.inj (Tryz.func6.symm.trans hfn)).symm
      exact ⟨by kernel_rfl, fun j t ht => by
        rw [Tryz.params6] at ht
        have hm : t ∈ [40, 40, 40, 3, 3, 3] := by simpa using Array.mem_of_getElem? ht
        have hall : ([40, 40, 40, 3, 3, 3].all fun u => !Tryz.prog.wantsStandIn u) = true := by kernel_rfl
        exact (show Tryz.prog.wantsStandIn t = false by simpa using List.all_eq_true.1 hall t hm)⟩)
    (by kernel_rfl)
#print axioms card_holds
end Go.Proofs.YtpkmibmombpjpaaGreatDoor.entrySets
