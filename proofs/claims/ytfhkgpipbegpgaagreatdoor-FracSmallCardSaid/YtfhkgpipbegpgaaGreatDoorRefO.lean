/- Plain: what the reference's Read returns is what Read returns; the contract of the reference's Read. -/
import Derived.Test.YtfhkgpipbegpgaaGreatDoorRefL
import Derived.Test.YtfhkgpipbegpgaaGreatDoorNearM
namespace Go.Proofs.YtfhkgpipbegpgaaGreatDoor
open Go Go.RowKit

theorem extract_drop (B : ByteArray) (a : Nat) : (B.extract a B.size).data.toList = B.data.toList.drop a := by
  simp [ByteArray.data_extract]
  exact List.take_of_length_le (by simp)
theorem fb_fits {x : Rat} (h : fits x = true) : FB x.num x.den := by
  unfold fits at h
  simp only [Bool.and_eq_true, decide_eq_true_eq] at h
  have := x.den_pos
  exact ⟨h.1.1, h.1.2, by omega, by omega⟩
/-- A text that is none of a fraction of 64 bits. -/
theorem read_none64 (L : List UInt8) (h : ∀ n d, FB n d → rightB n d = true → textF n d ≠ L) : readF L = (0, 0, 10) := by
  unfold readF readR
  split
  · rfl
  · split
    · rfl
    · rename_i n hn
      have bn := Lib.atoiAll_bounds (okOf_some.1 hn)
      split
      · split
        · rfl
        · rename_i d hd
          have bd := Lib.atoiAll_bounds (okOf_some.1 hd)
          unfold chkF
          exact if_neg (fun e => h n d ⟨by omega, by omega, by omega, by omega⟩ e.1 e.2)
      · unfold chkF
        exact if_neg (fun e => h n 1 ⟨by omega, by omega, by decide, by decide⟩ e.1 e.2)
theorem refQ_none (L : List UInt8) (neg : Bool) (num den : Nat × Bool) (h : ∀ n d, FB n d → rightB n d = true → textF n d ≠ L) : refQ L neg num den = (0, 0, 10) := by
  unfold refQ
  split
  · rfl
  · rename_i hb
    rw [red_out neg num.1 den.1 (fun e => hb (.inr (.inr e)))]
    refine if_neg (fun e => ?_)
    by_cases hf : fits (mkRat (sgn neg num.1) den.1) = true
    · have ho : outF (mkRat (sgn neg num.1) den.1) = ((mkRat (sgn neg num.1) den.1).num, ((mkRat (sgn neg num.1) den.1).den : Int), 0) := by unfold outF; rw [if_pos hf]
      rw [ho] at e
      exact h _ _ (fb_fits hf) (right_R _) e.2
    · have ho : outF (mkRat (sgn neg num.1) den.1) = (0, 0, 3) := by unfold outF; rw [if_neg hf]
      rw [ho] at e
      have := e.1
      cases this
theorem itoa_pos (d : Int) (h : 0 < d) : Lib.itoa d = Lib.decDigits d.natAbs := by
  unfold Lib.itoa
  rw [if_neg (by omega)]; congr 1; omega
theorem itoa_split (n : Int) : Lib.itoa n = (if n < 0 then [45] else []) ++ Lib.decDigits n.natAbs := by
  unfold Lib.itoa
  split
  · rfl
  · rw [List.nil_append]; congr 1; omega
/-- The place of the stroke. -/
theorem place_unique (D E : List UInt8) (tail : Bool) (hD : (47 : UInt8) ∉ D) (L : List UInt8) (hL : L = D ++ if tail then 47 :: E else []) (k : Nat) (hk : k ≤ L.length) (h1 : ∀ j, j < k → L[j]? ≠ some 47) (h2 : k = L.length ∨ L[k]? = some 47) : k = D.length := by
  have hin : ∀ j, j < D.length → L[j]? ≠ some 47 := fun j hj e => by
    rw [hL, List.getElem?_append_left hj] at e
    exact hD (List.mem_of_getElem? e)
  cases tail with
  | false =>
    have hl : L.length = D.length := by rw [hL]; simp
    rcases h2 with h | h
    · omega
    · rcases Nat.lt_or_ge k D.length with h3 | h3
      · exact absurd h (hin k h3)
      · omega
  | true =>
    have hl : L.length = D.length + 1 + E.length := by rw [hL]; simp; omega
    have h47 : L[D.length]? = some 47 := by rw [hL, List.getElem?_append_right (Nat.le_refl _)]; simp
    rcases Nat.lt_or_ge k D.length with h3 | h3
    · rcases h2 with h | h
      · omega
      · exact absurd h (hin k h3)
    · rcases Nat.lt_or_ge D.length k with h4 | h4
      · exact absurd h47 (h1 _ h4)
      · omega
theorem refQ_text (n d : Int) (hf : FB n d) (hr : rightB n d = true) : refQ (textF n d) (decide (n < 0)) (n.natAbs, true) (d.natAbs, true) = (n, d, 0) := by
  have hd := right_pos hr
  have hg := right_gcd hr
  have hp : packP (decide (n < 0)) n.natAbs d.natAbs = (n, d, 0) := by
    unfold packP
    have := hf.n0
    have := hf.n1
    have := hf.d1
    rw [if_pos ⟨by by_cases h : n < 0 <;> simp [h] <;> omega, by omega⟩, sgn_neg]
    congr 2; omega
  unfold refQ
  rw [if_neg (by rintro (h | h | h) <;> first | exact Bool.noConfusion h | (have h : d.natAbs = 0 := h; omega))]
  simp only [hg, Nat.div_one, hp]
  simp
theorem ref_law (s R : ByteArray) (neg : Bool)
    (hneg : (neg = true ∧ 0 < s.size ∧ s[0]? = some 45 ∧ R = s.extract 1 s.size) ∨ (neg = false ∧ R = s ∧ (0 < s.size → s[0]? ≠ some 45)))
    (k : Nat) (hk : k ≤ R.size) (h1 : ∀ j, j < k → R[j]? ≠ some 47) (h2 : k = R.size ∨ R[k]? = some 47) :
    refQ s.data.toList neg (natF (R.extract 0 k).data.toList) (if k < R.size then natF (R.extract (k + 1) R.size).data.toList else (1, true)) = readF s.data.toList := by
  have hget : ∀ (B : ByteArray) j, B[j]? = B.data.toList[j]? := fun B j => by
    by_cases h : j < B.size
    · rw [getElem?_pos B j h, List.getElem?_eq_getElem (by simpa using h)]; rfl
    · rw [getElem?_neg B j h, List.getElem?_eq_none (by simpa using h)]
  by_cases hex : ∃ n d, FB n d ∧ rightB n d = true ∧ textF n d = s.data.toList
  case neg =>
    have hno : ∀ n d, FB n d → rightB n d = true → textF n d ≠ s.data.toList := fun n d a b c => hex ⟨n, d, a, b, c⟩
    rw [read_none64 _ hno, refQ_none _ _ _ _ hno]
  obtain ⟨n, d, hf, hr, ht⟩ := hex
  have hd := right_pos hr
  rw [← ht, read_text n d hf hr]
  have hT : textF n d = (if n < 0 then [45] else []) ++ (Lib.decDigits n.natAbs ++ if decide (d ≠ 1) then 47 :: Lib.decDigits d.natAbs else []) := by
    unfold textF
    rw [itoa_split n, List.append_assoc, itoa_pos d hd]
    by_cases h : d = 1 <;> simp [h]
  have hfree : (47 : UInt8) ∉ Lib.decDigits n.natAbs := fun h => absurd (dec_digit _ 47 h).1 (by decide)
  have hn19 : n.natAbs < 10 ^ 19 := by
    have := hf.n0; have := hf.n1
    have : (10 : Nat) ^ 19 = 10000000000000000000 := by decide
    omega
  have hd19 : d.natAbs < 10 ^ 19 := by
    have := hf.d1
    have : (10 : Nat) ^ 19 = 10000000000000000000 := by decide
    omega
  have hs0 : s[0]? = (textF n d)[0]? := by rw [hget, ht]
  -- the sign, and what follows it
  have key : neg = decide (n < 0) ∧ R.data.toList = Lib.decDigits n.natAbs ++ if decide (d ≠ 1) then 47 :: Lib.decDigits d.natAbs else [] := by
    by_cases hn : n < 0
    · rw [if_pos hn] at hT
      have h45 : s[0]? = some 45 := by rw [hs0, hT]; rfl
      rcases hneg with ⟨a, b, _, e⟩ | ⟨_, e, f⟩
      · refine ⟨by rw [a, decide_eq_true hn], ?_⟩
        rw [e]
        have : (s.extract 1 s.size).data.toList = s.data.toList.drop 1 := extract_drop s 1
        rw [this, ← ht, hT]; rfl
      · have hsz : 0 < s.size := by
          refine Nat.pos_of_ne_zero fun h0 => ?_
          rw [getElem?_neg s 0 (by omega)] at h45; cases h45
        exact absurd h45 (f hsz)
    · rw [if_neg hn, List.nil_append] at hT
      rcases hneg with ⟨_, _, h45, _⟩ | ⟨a, e, _⟩
      · exfalso
        rw [hs0, hT] at h45
        rcases hdd : Lib.decDigits n.natAbs with _ | ⟨c, r⟩
        · exact dec_ne _ hdd
        · rw [hdd] at h45
          have hc : c = 45 := by simpa using h45
          have := dec_digit n.natAbs c (by rw [hdd]; exact List.mem_cons_self ..)
          rw [hc] at this
          exact absurd this.1 (by decide)
      · refine ⟨by rw [a, decide_eq_false hn], ?_⟩
        rw [e, ← ht, hT]
  obtain ⟨hn1, hRL⟩ := key
  have hRs : R.data.toList.length = R.size := by simp
  have hkd := place_unique _ _ _ hfree _ hRL k (by omega) (fun j hj => by rw [← hget]; exact h1 j hj) (by rw [hRs, ← hget]; exact h2)
  have e1 : (R.extract 0 k).data.toList = Lib.decDigits n.natAbs := by
    have : (R.extract 0 k).data.toList = R.data.toList.take k := by simp [ByteArray.data_extract]
    rw [this, hRL, hkd]; simp
  rw [e1, natF_dec _ hn19, hn1]
  have e2 : (if k < R.size then natF (R.extract (k + 1) R.size).data.toList else (1, true)) = (d.natAbs, true) := by
    by_cases h : d = 1
    · have hlen : R.size = k := by rw [← hRs, hRL, hkd]; simp [h]
      rw [if_neg (by omega), h]; rfl
    · have hlen : R.size = k + 1 + (Lib.decDigits d.natAbs).length := by rw [← hRs, hRL, hkd]; simp [h]; omega
      rw [if_pos (by omega)]
      have : (R.extract (k + 1) R.size).data.toList = R.data.toList.drop (k + 1) := extract_drop R (k + 1)
      rw [this, hRL, hkd]
      have hdr : (Lib.decDigits n.natAbs ++ if decide (d ≠ 1) = true then 47 :: Lib.decDigits d.natAbs else []).drop ((Lib.decDigits n.natAbs).length + 1) = Lib.decDigits d.natAbs := by
        rw [List.drop_append]; simp [h]
      rw [hdr, natF_dec _ hd19]
  rw [e2]
  exact refQ_text n d hf hr
theorem rread_any (s : ByteArray) (hs : s.size ≤ 60) (w : World) : Calls Tryz.prog 40 #[.string s] w (RetF (readF s.data.toList) w) := by
  by_cases h : 0 < s.size ∧ s[0]? = some 45
  · have hn : ((true = true ∧ 0 < s.size ∧ s[0]? = some 45 ∧ s.extract 1 s.size = s.extract 1 s.size) ∨ (true = false ∧ s.extract 1 s.size = s ∧ (0 < s.size → s[0]? ≠ some 45))) := .inl ⟨rfl, h.1, h.2, rfl⟩
    exact rread_walk s (s.extract 1 s.size) true _ hs (by rw [ByteArray.size_extract]; omega) hn (fun k a b c => ref_law s _ true hn k a b c) w
  · have hn : ((false = true ∧ 0 < s.size ∧ s[0]? = some 45 ∧ s = s.extract 1 s.size) ∨ (false = false ∧ s = s ∧ (0 < s.size → s[0]? ≠ some 45))) := .inr ⟨rfl, rfl, fun a b => h ⟨a, b⟩⟩
    exact rread_walk s s false _ hs hs hn (fun k a b c => ref_law s _ false hn k a b c) w
end Go.Proofs.YtfhkgpipbegpgaaGreatDoor
