/- ScoreBack: walk and plain law joined. -/
import Derived.Test.YtgmofikhndlhcaaDoorBack
import Derived.Test.YtgmofikhndlhcaaDoorMadeC
namespace Go.Proofs.YtgmofikhndlhcaaDoor
open Go.RowKit

theorem itoa_len (n : Int) (h0 : -13 ≤ n) (h1 : n ≤ 13) : (tailP n).length ≤ 5 := by
  have := itoa_le n h0 h1
  unfold tailP
  split
  · simp
  · split <;> simp <;> omega
theorem write_len (l d r s : Nat) (k : Int) (h : resP l d r s k = true) : (writeP l d r s k).1.length ≤ 20 := by
  have hk := res_of h
  rcases rgt_of l d r s (res_rgt h) with ⟨rfl, rfl, rfl, rfl⟩ | ⟨g1, g2, g3, g4, g5⟩
  · rw [write_pass _ h, textP_zero]; decide
  · rw [write_made l d r s k h g1]
    have h1 := textP_len l d r s g4
    have h2 := itoa_len (k - (6 + (l : Int))) (by omega) (by omega)
    simp only [List.length_append]
    omega
theorem writeP_err (l d r s : Nat) (k : Int) (h : resP l d r s k = true) : writeP l d r s k = ((writeP l d r s k).1, 0) := by
  rcases rgt_of l d r s (res_rgt h) with ⟨rfl, rfl, rfl, rfl⟩ | ⟨g1, _⟩
  · rw [write_pass _ h]
  · rw [write_made l d r s k h g1]
theorem back_main (m n : Nat) (s : ByteArray) (w : World) (hE : Env w) (hm : m < 4294967296) (hn : n < 4294967296) (hs : s.size ≤ maxLen) (hz : s.data.toList.length ≤ reachBytes) :
    Calls Tryd.prog 9 #[.int .u32 m, .int .u32 n, .string s] w fun e w' => e = .returned (.bool true) ∧ Below w.heap.size w w' := by
  have hz' : s.size < 4611686018427387904 := by
    have : s.data.toList.length = s.size := Array.length_toList
    unfold reachBytes at hz
    omega
  have MC := Lib.hid (fun w => made_c m w hm)
  have MD := Lib.hid (fun w => made_c n w hn)
  have hok := made_ok m
  have hok' := made_ok n
  generalize madeL m = l at *
  generalize madeD m = d at *
  generalize madeR m = r at *
  generalize madeS m = q at *
  generalize madeK m = k at *
  generalize madeL n = l' at *
  generalize madeD n = d' at *
  generalize madeR n = r' at *
  generalize madeS n = q' at *
  generalize madeK n = k' at *
  have hr : resP l d r q k = true := by
    rcases hok with ⟨rfl, rfl, rfl, rfl, rfl⟩ | ⟨h1, h2, h3, h4, h5, h6⟩
    · exact res_mk rgt_zero (by omega) (by omega) (.inr rfl)
    · exact res_mk (rgt_mk l d r q h1 h2 h3 h4 h5) (by omega) (by omega) (.inl (by omega))
  have hr' : resP l' d' r' q' k' = true := by
    rcases hok' with ⟨rfl, rfl, rfl, rfl, rfl⟩ | ⟨h1, h2, h3, h4, h5, h6⟩
    · exact res_mk rgt_zero (by omega) (by omega) (.inr rfl)
    · exact res_mk (rgt_mk l' d' r' q' h1 h2 h3 h4 h5) (by omega) (by omega) (.inl (by omega))
  have hk0 : l = 0 → k = 0 := by omega
  have hk0' : l' = 0 → k' = 0 := by omega
  have h256 : l < 256 := by omega
  have h256' : l' < 256 := by omega
  have hg := res_rgt hr
  have hlen := write_len l d r q k hr
  obtain ⟨X, hX⟩ := write_prefix l d r q k hr
  have hVs : (⟨(textP l d r q).toArray⟩ : ByteArray).size = (textP l d r q).length := by simp [ByteArray.size]
  have hTs : (⟨(writeP l d r q k).1.toArray⟩ : ByteArray).size = (writeP l d r q k).1.length := by simp [ByteArray.size]
  obtain ⟨⟨⟨l2, d2, r2, q2⟩, e2⟩, hR⟩ : ∃ x, x = readP s.data.toList := ⟨_, rfl⟩
  obtain ⟨⟨⟨⟨l3, d3, r3, q3⟩, k3⟩, e3⟩, hP⟩ : ∃ x, x = parseP s := ⟨_, rfl⟩
  refine back_walk m n s l d r q k l' d' r' q' k' l2 d2 r2 q2 l3 d3 r3 q3 k3 e2 e3 ⟨(writeP l d r q k).1.toArray⟩ ⟨(writeP l' d' r' q' k').1.toArray⟩ ⟨(textP l d r q).toArray⟩ w hE MC MD
    (Lib.hid fun w hw => (write_any l d r q k w hw h256).mono fun e w' ⟨he, hb⟩ => ⟨by rw [he, show (writeP l d r q k).2 = 0 from congrArg Prod.snd (writeP_err l d r q k hr)], hb⟩)
    (Lib.hid fun w hw => (write_any l' d' r' q' k' w hw h256').mono fun e w' ⟨he, hb⟩ => ⟨by rw [he, show (writeP l' d' r' q' k').2 = 0 from congrArg Prod.snd (writeP_err l' d' r' q' k' hr')], hb⟩)
    (Lib.hid fun w hw => (parse_any _ w hw (by rw [hTs]; omega)).mono fun e w' ⟨he, hb⟩ => ⟨by rw [he, parse_write l d r q k hr hk0], hb⟩)
    (Lib.hid fun w hw => (text_any l d r q w).mono fun e w' ⟨he, hb⟩ => ⟨by rw [he, show textR l d r q = (textP l d r q, 0) by unfold textR; exact if_pos hg], hb⟩)
    (Lib.hid fun w hw => (read_any ⟨(textP l d r q).toArray⟩ w (by rw [hVs]; unfold maxLen; have := congrArg List.length hX; simp only [List.length_append] at this; omega)).mono fun e w' ⟨he, hb⟩ => ⟨by rw [he, show (⟨(textP l d r q).toArray⟩ : ByteArray).data.toList = textP l d r q from by simp, text_read l d r q hg], hb⟩)
    ?_ ?_ ?_ ?_ ?_
    (Lib.hid fun w hw => (read_any s w hs).mono fun e w' ⟨he, hb⟩ => ⟨by rw [he, ← hR], hb⟩) (Lib.hid fun he => ?_)
    (Lib.hid fun w hw => (parse_any s w hw hz').mono fun e w' ⟨he, hb⟩ => ⟨by rw [he, ← hP], hb⟩) (Lib.hid fun he => ?_)
  · rw [hTs]; omega
  · rw [hTs, hVs, hX]; simp
  · apply ByteArray.ext
    apply Array.toList_inj.1
    rw [Lib.extract_data, hVs, hX]
    simp
  · rintro ⟨⟨rfl, rfl, rfl, rfl⟩, rfl⟩; rfl
  · intro h
    refine write_inj l d r q k l' d' r' q' k' hr hr' hk0 hk0' ?_
    have := congrArg (fun x => x.data.toList) h
    simpa using this
  · intro w hw
    subst he
    have hb := read_back _ _ _ _ _ hR.symm
    exact (text_any l2 d2 r2 q2 w).mono fun e w' ⟨he, hb'⟩ => ⟨by rw [he, hb], hb'⟩
  · intro w hw
    subst he
    have hb := parse_back _ _ _ _ _ _ hP.symm
    have h3 : l3 < 256 := by
      by_cases hc : resP l3 d3 r3 q3 k3 = true
      · have := rgt_of _ _ _ _ (res_rgt hc); omega
      · unfold writeP at hb
        rw [if_pos (by simpa using hc)] at hb
        exact absurd (congrArg Prod.snd hb) (by simp)
    exact (write_any l3 d3 r3 q3 k3 w hw h3).mono fun e w' ⟨he, hb'⟩ => ⟨by rw [he, hb], hb'⟩
end Go.Proofs.YtgmofikhndlhcaaDoor
