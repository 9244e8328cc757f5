/- The contract of finesselaw06.Made: a right deal; slices of bytes. -/
import Derived.Test.YtaadipccgckehaaDoorDealt
import Derived.Test.YtaadipccgckehaaDoorCC
namespace Go.Proofs.YtaadipccgckehaaDoor
open Go Go.RowKit Pl

/-- A slice of bytes, nil or not. -/
inductive BV (W : World) : Value → List Nat → Prop
  | none_ : BV W (.slice none 0 0) []
  | some_ (b o cap : Nat) (l : List Nat) (hb : b < W.heap.size) (hl : l.length ≤ cap) (hc : cap ≤ maxLen) (h : ∀ (i n : Nat), l[i]? = some n → W.cell? ⟨b, o + i, none⟩ = some (.int .u8 (n : Int))) : BV W (.slice (some ⟨b, o, none⟩) l.length cap) l
theorem BV.keep {W W' : World} {v : Value} {l : List Nat} (h : BV W v l) (hb : Below W.heap.size W W') : BV W' v l := by
  cases h with
  | none_ => exact .none_
  | some_ b o cap l hlt hl hc h => exact .some_ b o cap l (Nat.lt_of_lt_of_le hlt hb.size) hl hc (fun i r hi => keepW hb (h i r hi))
theorem BV.len {W : World} {v : Value} {l : List Nat} (h : BV W v l) : ∃ A cap, v = .slice A l.length cap ∧ l.length ≤ cap := by
  cases h with
  | none_ => exact ⟨none, 0, rfl, Nat.le_refl _⟩
  | some_ b o cap l hlt hl hc h => exact ⟨_, _, rfl, hl⟩
theorem BV.at {W : World} {A : Option Addr} {n cap i m : Nat} {l : List Nat} (h : BV W (.slice A n cap) l) (hi : l[i]? = some m) : ∃ b o, A = some ⟨b, o, none⟩ ∧ W.cell? ⟨b, o + i, none⟩ = some (.int .u8 (m : Int)) := by
  cases h with
  | none_ => simp at hi
  | some_ b o cap l hlt hl hc h => exact ⟨b, o, rfl, h i m hi⟩
/-- What Made returns. -/
def MadeR (w : World) (e : Ending) (w' : World) : Prop := (∃ D : Nat → Nat, rightB D = true ∧ (∀ k, k < 4 → D k < 4503599627370496) ∧ e = .returned (.agg #[.int .u64 (D 0 : Nat), .int .u64 (D 1 : Nat), .int .u64 (D 2 : Nat), .int .u64 (D 3 : Nat)])) ∧ Below w.heap.size w w'
theorem dealt_bv {W : World} {v : Value} {l : List Nat} (h : BV W v l) (h8 : ∀ x ∈ l, x < 256) : Calls Tryd.prog 32 #[v] W (MadeR W) := by
  have hfin : ∀ e w', ((∃ L : List Nat, L.Perm (List.range 52) ∧
      e = Ending.returned (.agg #[.int .u64 (Pl.maskTo (fun i => L.getD i 0) 52 0 : Nat), .int .u64 (Pl.maskTo (fun i => L.getD i 0) 52 1 : Nat), .int .u64 (Pl.maskTo (fun i => L.getD i 0) 52 2 : Nat), .int .u64 (Pl.maskTo (fun i => L.getD i 0) 52 3 : Nat)])) ∧ Below W.heap.size W w') → MadeR W e w' := by
    rintro e w' ⟨⟨L, hp, he⟩, hb⟩
    have hr := made_right L hp
    exact ⟨⟨made L, hr, fun k hk => by have := ((part_iff (made L)).1 (by unfold rightB at hr; rw [Bool.and_eq_true] at hr; exact hr.1) k hk).1; omega, he⟩, hb⟩
  cases h with
  | none_ => exact (dealt_nil none 0 W (by simp [maxLen])).mono hfin
  | some_ b o cap l hlt hl hc h =>
    refine (dealt_any b o l.length cap (fun i => l.getD i 0) W hl hc (fun i hi => ?_) (fun i hi => ?_)).mono hfin
    · show l.getD i 0 < 256
      rw [List.getD_eq_getElem?_getD, List.getElem?_eq_getElem hi]
      exact h8 _ (List.getElem_mem hi)
    · have := h i _ (List.getElem?_eq_getElem hi)
      rw [this, List.getD_eq_getElem?_getD, List.getElem?_eq_getElem hi]
      rfl
set_option maxRecDepth 100000 in
theorem made_any {w : World} {v : Value} {l : List Nat} (h : BV w v l) (h8 : ∀ x ∈ l, x < 256) : Calls Tryd.prog 19 #[v] w (MadeR w) := by
  have hb0 := below1 w (.cells #[.int .u64 0, .int .u64 0, .int .u64 0, .int .u64 0] 35)
  have DT := Lib.hid (dealt_bv (h.keep hb0) h8)
  have HB0 := Lib.hid hb0
  have HZ := Lib.hid (Blk.new w 35 #[.int .u64 0, .int .u64 0, .int .u64 0, .int .u64 0])
  obtain ⟨A, cap, rfl, _⟩ := h.len
  clear h h8 hb0
  generalize l.length = n at *
  go_enter Tryd.func19, Tryd.ntmps19
  go_wp2_with fail
  generalize w.alloc (.cells #[.int .u64 0, .int .u64 0, .int .u64 0, .int .u64 0] 35) = W1 at *
  refine DT.out.mono ?_
  rintro e w2 ⟨⟨D, h1, h2, rfl⟩, hb⟩
  have H := Lib.hid (And.intro h1 h2)
  have HB2 := Lib.hid (bchain HB0.out hb)
  have HZ2 := Lib.hid (HZ.out.keep hb HZ.out.lt)
  clear h1 h2 hb DT HZ HB0
  have y0 := HZ2.out.cell (j := 0) (v := .int .u64 0) rfl
  have y1 := HZ2.out.cell (j := 1) (v := .int .u64 0) rfl
  have y2 := HZ2.out.cell (j := 2) (v := .int .u64 0) rfl
  have y3 := HZ2.out.cell (j := 3) (v := .int .u64 0) rfl
  have g0 := HZ2.out.free 0
  have g1 := HZ2.out.free 1
  have g2 := HZ2.out.free 2
  have g3 := HZ2.out.free 3
  obtain ⟨a, ha⟩ : ∃ a, D 0 = a := ⟨_, rfl⟩
  obtain ⟨b, hb⟩ : ∃ b, D 1 = b := ⟨_, rfl⟩
  obtain ⟨c, hc⟩ : ∃ c, D 2 = c := ⟨_, rfl⟩
  obtain ⟨d, hd⟩ : ∃ d, D 3 = d := ⟨_, rfl⟩
  have HE := Lib.hid (And.intro ha (And.intro hb (And.intro hc hd)))
  rw [ha, hb, hc, hd]
  clear ha hb hc hd
  have HS := Lib.hid ((((HZ2.out.set 0 (.int .u64 (a : Nat))).set 1 (.int .u64 (b : Nat))).set 2 (.int .u64 (c : Nat))).set 3 (.int .u64 (d : Nat)))
  go_wp2_with fail
  have x0 := HS.out.cell (j := 0) (v := .int .u64 (a : Nat)) rfl
  have x1 := HS.out.cell (j := 1) (v := .int .u64 (b : Nat)) rfl
  have x2 := HS.out.cell (j := 2) (v := .int .u64 (c : Nat)) rfl
  have x3 := HS.out.cell (j := 3) (v := .int .u64 (d : Nat)) rfl
  (try simp only [Exit.inBlock, Exit.then])
  refine bodyPost_ret (by simp [results, Tryd.results19, go_sem, x0, x1, x2, x3]; try rfl) rfl ?_
  exact ⟨⟨D, H.out.1, H.out.2, by rw [HE.out.1, HE.out.2.1, HE.out.2.2.1, HE.out.2.2.2]⟩, zzbelow HB2.out (Nat.le_refl _) _ _ _ _⟩
end Go.Proofs.YtaadipccgckehaaDoor
