/- Arguments as they come in: deals, slices of deals, slices of bytes. -/
import Derived.Test.YtaadipccgckehaaDoorMade
import Derived.Test.YtaadipccgckehaaDoorBK
import Derived.Test.YtaadipccgckehaaDoorFrame
import Derived.ChangeSlices
import Derived.Deep.Slices
import Derived.WideKeyArr2
namespace Go.Proofs.YtaadipccgckehaaDoor
open Go Go.ChangeShapes Go.ChangeMaps Go.WideShapes Go.ChangeAt Go.WideMaps Go.WideElems Go.RowKit Go.Deep Pl

theorem cU8 : Tryd.prog.cellsOf 5 = 1 := by kernel_rfl
theorem cDeal : Tryd.prog.cellsOf 35 = 4 := by kernel_rfl
theorem list_of {α : Type} {Q : Nat → α → Prop} : ∀ (n : Nat), (∀ i, i < n → ∃ x, Q i x) → ∃ l : List α, l.length = n ∧ ∀ i x, l[i]? = some x → Q i x
  | 0, _ => ⟨[], rfl, fun i x h => by simp at h⟩
  | n + 1, h => by
    obtain ⟨l, hl, hQ⟩ := list_of n (fun i hi => h i (by omega))
    obtain ⟨x, hx⟩ := h n (by omega)
    refine ⟨l ++ [x], by simp [hl], fun i y hy => ?_⟩
    rcases Nat.lt_or_ge i l.length with hi | hi
    · rw [List.getElem?_append_left hi] at hy
      exact hQ i y hy
    · rw [List.getElem?_append_right hi] at hy
      obtain ⟨he, rfl⟩ : i - l.length = 0 ∧ x = y := by
        rcases hk : i - l.length with _ | k
        · rw [hk] at hy; exact ⟨rfl, by simpa using hy⟩
        · rw [hk] at hy; simp at hy
      have : i = n := by omega
      subst this
      exact hx
theorem list4 {α : Type} {l : List α} (h : l.length = 4) : ∃ a b c d, l = [a, b, c, d] := by
  match l, h with
  | [a, b, c, d], _ => exact ⟨a, b, c, d, rfl⟩
theorem u64_nat {x : Int} (h : (Lit.int .u64 x).wf = true) : ∃ n : Nat, x = (n : Int) ∧ n < 18446744073709551616 := by
  have := bounds_u64 h
  exact ⟨x.toNat, by omega, by omega⟩
section
variable {H : Type} {enc : TypeId × Value → H} {w : World} {base b0 : Nat} {held : Bool} {sp : Nat → Bool}
/-- Four numbers that read. -/
theorem four_read {fuel : Nat} {cs : List Value} {x : DataW H × List MemPlace} (h : DataW.trod enc Tryd.prog w base sp held fuel 35 cs = some x) :
    ∃ y : Four, F64 y ∧ x.2 = [] ∧ ∀ k, k < 4 → cs[k]? = some (.int .u64 (ofF y k : Nat)) := by
  obtain ⟨xs, m, _, hx, hl, hxl, hel⟩ := DataW.trod_array Tryd.underlying35 h
  have hat : ∀ i, i < 4 → ∃ n : Nat, n < 18446744073709551616 ∧ cs[i]? = some (.int .u64 (n : Int)) ∧ ∃ d, xs[i]? = some (d, []) := fun i hi => by
    have h1 := hel i hi
    rw [show Tryd.prog.cellsOf 33 = 1 from by kernel_rfl] at h1
    obtain ⟨y, hy⟩ : ∃ y, xs[i]? = some y := ⟨_, List.getElem?_eq_getElem (by omega)⟩
    rw [hy] at h1
    obtain ⟨a, e1, e2, w1⟩ := DataW.trod_int Tryd.underlying33 h1
    obtain ⟨n, rfl, hn⟩ := u64_nat w1
    have h3 := congrArg (·[0]?) e1
    simp only [List.getElem?_take, List.getElem?_drop, Nat.mul_one, Nat.add_zero, if_pos (show (0 : Nat) < 1 by omega), List.getElem?_cons_zero] at h3
    exact ⟨n, hn, h3, _, by rw [hy, e2]⟩
  obtain ⟨n0, l0, c0, d0, p0⟩ := hat 0 (by omega)
  obtain ⟨n1, l1, c1, d1, p1⟩ := hat 1 (by omega)
  obtain ⟨n2, l2, c2, d2, p2⟩ := hat 2 (by omega)
  obtain ⟨n3, l3, c3, d3, p3⟩ := hat 3 (by omega)
  refine ⟨(n0, n1, n2, n3), fun k hk => ?_, ?_, fun k hk => ?_⟩
  · rcases (by omega : k = 0 ∨ k = 1 ∨ k = 2 ∨ k = 3) with rfl | rfl | rfl | rfl
    · exact l0
    · exact l1
    · exact l2
    · exact l3
  · rw [hx]
    match xs, hxl, p0, p1, p2, p3 with
    | [a, b, c, d], _, p0, p1, p2, p3 =>
      simp at p0 p1 p2 p3
      subst p0 p1 p2 p3
      rfl
  · rcases (by omega : k = 0 ∨ k = 1 ∨ k = 2 ∨ k = 3) with rfl | rfl | rfl | rfl
    · exact c0
    · exact c1
    · exact c2
    · exact c3
set_option maxRecDepth 100000 in
theorem open_deal {v : Value} {d : DataW H} {p : List MemPlace} (hv : Value.okWide Tryd.prog w .any b0 35 v) (h : DataW.Trod enc Tryd.prog w base sp held 35 v d p) :
    ∃ y : Four, F64 y ∧ v = .agg #[.int .u64 (ofF y 0 : Nat), .int .u64 (ofF y 1 : Nat), .int .u64 (ofF y 2 : Nat), .int .u64 (ofF y 3 : Nat)] ∧ p = [] := by
  obtain ⟨cs, rfl, hn⟩ := okWide_arr arrD hv
  obtain ⟨fuel, hf⟩ := h
  obtain ⟨y, hy, hp, hc⟩ := four_read hf
  refine ⟨y, hy, ?_, hp⟩
  congr 1
  have h0 := hc 0 (by omega)
  have h1 := hc 1 (by omega)
  have h2 := hc 2 (by omega)
  have h3 := hc 3 (by omega)
  apply Array.ext'
  simp only [Value.cells] at h0 h1 h2 h3
  obtain ⟨a, b, c, d, hl⟩ := list4 (show cs.toList.length = 4 by simpa using hn)
  rw [hl] at h0 h1 h2 h3 ⊢
  obtain rfl := Option.some.inj h0
  obtain rfl := Option.some.inj h1
  obtain rfl := Option.some.inj h2
  obtain rfl := Option.some.inj h3
  rfl
set_option maxRecDepth 100000 in
theorem open_dr {v : Value} {d : DataW H} {p : List MemPlace} (hv : Value.okWide Tryd.prog w .any b0 36 v) (h : DataW.Trod enc Tryd.prog w base (fun _ => true) held 36 v d p) :
    ∃ l : List Four, DR 35 w v l ∧ ∀ (j : Nat) (y : Four), l[j]? = some y → F64 y := by
  obtain ⟨fuel, hf⟩ := h
  obtain ⟨A, n, c, rfl⟩ := okWide_slice Tryd.underlying36 hv
  rcases open_slice Tryd.underlying36 hf with ⟨h0, _⟩ | ⟨a, len, cap, m, n', D, Pl', hcs, _, hl, _, hm, _, hi⟩
  · have h1 : A = none ∧ n = 0 ∧ c = 0 := by simpa [Value.cells] using h0
    obtain ⟨rfl, rfl, rfl⟩ := h1
    exact ⟨[], .none_, fun j y h => by simp at h⟩
  · have hcs' : A = some a ∧ n = len ∧ c = cap := by simpa [Value.cells] using hcs
    obtain ⟨rfl, rfl, rfl⟩ := hcs'
    have hok : w.has Tryd.prog .any b0 a 35 c := by
      simp only [Value.okWide, Tryd.underlying36, Cell.okWide, Cell.ok] at hv
      exact hv.2.2
    obtain ⟨_, hsp, row, cells, hshape, _⟩ := hok
    obtain ⟨b, off, sp⟩ := a
    obtain rfl : sp = none := hsp
    have hlt : b < w.heap.size := by
      simp only [World.shape?] at hshape
      rcases hh : w.heap[b]? with _ | o
      · rw [hh] at hshape; cases hshape
      · exact (Array.getElem?_eq_some_iff.1 hh).1
    simp only [ite_true] at hm
    obtain ⟨l, hlen, hls⟩ := list_of (Q := fun i (x : Four) => F64 x ∧ ∀ k, k < 4 → w.cell? ⟨b, off + i * 4 + k, none⟩ = some (.int .u64 (ofF x k : Nat))) n (fun i hin => by
      obtain ⟨cs', hc, ht⟩ := hi i (by omega)
      obtain ⟨y, hy, _, hcy⟩ := four_read ht
      rw [cDeal] at hc
      obtain ⟨_, _, hat⟩ := World.cells?_some hc
      refine ⟨y, hy, fun k hk => ?_⟩
      have := hat k hk
      rw [hcy k hk, add_at, add_at] at this
      exact this)
    subst hlen
    exact ⟨l, .some_ b off c l hlt (fun i x hx => (hls i x hx).2), fun j y hy => (hls j y hy).1⟩
set_option maxRecDepth 100000 in
theorem open_bv {v : Value} {d : DataW H} {p : List MemPlace} (hv : Value.okWide Tryd.prog w .any b0 43 v) (h : DataW.Trod enc Tryd.prog w base (fun _ => true) held 43 v d p) : ∃ l : List Nat, BV w v l ∧ ∀ x ∈ l, x < 256 := by
  obtain ⟨fuel, hf⟩ := h
  obtain ⟨A, n, c, rfl⟩ := okWide_slice Tryd.underlying43 hv
  rcases open_ints Tryd.underlying43 Tryd.underlying5 cU8 hf with ⟨h0, _⟩ | ⟨a, len, cap, zs, hcs, _, hl, hm, hzl, _, hz, hw⟩
  · have h1 : A = none ∧ n = 0 ∧ c = 0 := by simpa [Value.cells] using h0
    obtain ⟨rfl, rfl, rfl⟩ := h1
    exact ⟨[], .none_, by simp⟩
  · have hcs' : A = some a ∧ n = len ∧ c = cap := by simpa [Value.cells] using hcs
    obtain ⟨rfl, rfl, rfl⟩ := hcs'
    have hok : w.has Tryd.prog .any b0 a 5 c := by
      simp only [Value.okWide, Tryd.underlying43, Cell.okWide, Cell.ok] at hv
      exact hv.2.2
    obtain ⟨_, hsp, row, cells, hshape, _⟩ := hok
    obtain ⟨b, off, sp⟩ := a
    obtain rfl : sp = none := hsp
    have hlt : b < w.heap.size := by
      simp only [World.shape?] at hshape
      rcases hh : w.heap[b]? with _ | o
      · rw [hh] at hshape; cases hshape
      · exact (Array.getElem?_eq_some_iff.1 hh).1
    simp only [ite_true] at hzl
    obtain ⟨l, hlen, hls⟩ := list_of (Q := fun i (x : Nat) => x < 256 ∧ w.cell? ⟨b, off + i, none⟩ = some (.int .u8 (x : Int))) n (fun i hin => by
      have hc := hz i (by omega)
      rw [add_at] at hc
      have hg : zs[i]? = some (zs[i]'(by omega)) := List.getElem?_eq_getElem (by omega)
      have hb := bounds_u8 (hw _ (List.getElem_mem (by omega : i < zs.length)))
      rw [List.getD_eq_getElem?_getD, hg] at hc
      refine ⟨(zs[i]'(by omega)).toNat, by omega, ?_⟩
      rw [hc, Int.toNat_of_nonneg hb.1]
      rfl)
    subst hlen
    refine ⟨l, .some_ b off c l hlt hl hm (fun i x hx => (hls i x hx).2), fun x hx => ?_⟩
    obtain ⟨i, hi⟩ := List.getElem?_of_mem hx
    exact (hls i x hi).1
end
end Go.Proofs.YtaadipccgckehaaDoor
