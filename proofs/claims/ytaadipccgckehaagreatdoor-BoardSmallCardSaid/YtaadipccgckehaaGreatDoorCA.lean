/- The text of a deal: deal.Text. -/
import Derived.Test.YtaadipccgckehaaGreatDoorBX
import Derived.Test.YtaadipccgckehaaGreatDoorBJ
import Derived.Test.YtaadipccgckehaaGreatDoorPlM
namespace Go.Proofs.YtaadipccgckehaaGreatDoor
open Go Go.RowKit Go.Shelf Pl

theorem deal_len (D : Nat → Nat) : (dealT D).length ≤ 223 := by
  have h0 := write_len (D 0)
  have h1 := write_len (D 1)
  have h2 := write_len (D 2)
  have h3 := write_len (D 3)
  unfold dealT
  simp only [List.length_append, List.length_cons]
  omega
def tc (D : Nat → Nat) (k j : Nat) : Value := if j < k then strV' (writeL (D j)) else .string ⟨#[]⟩
def tC (D : Nat → Nat) (k : Nat) : Array Value := #[tc D k 0, tc D k 1, tc D k 2, tc D k 3]
theorem tC_0 (D : Nat → Nat) : tC D 0 = #[.string ⟨#[]⟩, .string ⟨#[]⟩, .string ⟨#[]⟩, .string ⟨#[]⟩] := by simp [tC, tc]
theorem tC_4 (D : Nat → Nat) : tC D 4 = #[strV' (writeL (D 0)), strV' (writeL (D 1)), strV' (writeL (D 2)), strV' (writeL (D 3))] := by simp [tC, tc]
theorem tC_set (D : Nat → Nat) (k : Nat) (hk : k < 4) : (tC D k).setIfInBounds k (strV' (writeL (D k))) = tC D (k + 1) := by
  rcases (by omega : k = 0 ∨ k = 1 ∨ k = 2 ∨ k = 3) with rfl | rfl | rfl | rfl <;> simp [tC, tc]
theorem tC_get (D : Nat → Nat) (k j : Nat) (hj : j < 4) : ∃ v, (tC D k)[j]? = some v := ⟨_, Array.getElem?_eq_getElem (show j < 4 from hj)⟩
theorem join_hands (D : Nat → Nat) {W : World} {p : Nat} (hb : Blk W p 77 (tC D 4)) :
    Calls Tryz.prog 35 #[.slice (some ⟨p, 0, none⟩) 4 4, .string ⟨#[32]⟩] W fun e w' => e = .returned (strV' (dealT D)) ∧ Below W.heap.size W w' := by
  rw [tC_4] at hb
  have hj : Lib.join ([(⟨(writeL (D 0)).toArray⟩ : ByteArray), ⟨(writeL (D 1)).toArray⟩, ⟨(writeL (D 2)).toArray⟩, ⟨(writeL (D 3)).toArray⟩].map (·.data.toList)) (⟨#[32]⟩ : ByteArray).data.toList = dealT D := by
    simp [Lib.join, dealT]
  have h := Tryz.strings_Join p 0 4 [⟨(writeL (D 0)).toArray⟩, ⟨(writeL (D 1)).toArray⟩, ⟨(writeL (D 2)).toArray⟩, ⟨(writeL (D 3)).toArray⟩] ⟨#[32]⟩ W (fun j x hx => by
    rw [Nat.zero_add]
    have hj4 : j < 4 := by simpa using (List.getElem?_eq_some_iff.1 hx).1
    refine hb.cell ?_
    rcases (by omega : j = 0 ∨ j = 1 ∨ j = 2 ∨ j = 3) with rfl | rfl | rfl | rfl <;> (simp at hx; subst hx; rfl)) hb.lt (by simp) (by simp) (by rw [hj]; have := deal_len D; omega)
  rw [hj] at h
  exact h
set_option maxRecDepth 100000 in
theorem dtext_bad (D : Nat → Nat) (hD : D64 D) (hp : partB D = false) (w : World) : Calls Tryz.prog 33 #[.agg #[.int .u64 (D 0 : Nat), .int .u64 (D 1 : Nat), .int .u64 (D 2 : Nat), .int .u64 (D 3 : Nat)]] w (fun e w' => e = .returned (.tuple #[.string ⟨#[]⟩, .int .i64 60]) ∧ Below w.heap.size w w') := by
  have PA := Lib.hid (fun W => part_any D hD W)
  rw [hp] at PA
  clear hp hD
  go_enter Tryz.func33, Tryz.ntmps33
  go_wp2_with fail
  refine (PA.out _).mono ?_
  rintro e w' ⟨rfl, hb⟩
  have HB := Lib.hid ((below1 w _).trans (hb.mono (below1 w _).size))
  clear hb
  go_wp2_with fail
  go_returns
  exact ⟨rfl, HB.out⟩
set_option maxRecDepth 100000 in
theorem dtext_ok (D : Nat → Nat) (hD : D64 D) (hp : partB D = true) (w : World) : Calls Tryz.prog 33 #[.agg #[.int .u64 (D 0 : Nat), .int .u64 (D 1 : Nat), .int .u64 (D 2 : Nat), .int .u64 (D 3 : Nat)]] w (fun e w' => e = .returned (.tuple #[strV' (textD D), .int .i64 0]) ∧ Below w.heap.size w w') := by
  have PA := Lib.hid (fun W => part_any D hD W)
  have WR := Lib.hid (fun k (hk : k < 4) W => write_any (D k) (by have := ((part_iff D).1 hp k hk).1; omega) W)
  have IX := Lib.hid (ix_deal D)
  rw [hp] at PA
  clear hp hD
  go_enter Tryz.func33, Tryz.ntmps33
  go_wp2_with fail
  refine (PA.out _).mono ?_
  rintro e w' ⟨rfl, hb⟩
  have b0 := Blk.new w 24 #[.int .u64 (D 0 : Nat), .int .u64 (D 1 : Nat), .int .u64 (D 2 : Nat), .int .u64 (D 3 : Nat)]
  have b1 := Lib.hid (b0.keep hb (by simp))
  have HB := Lib.hid ((below1 w _).trans (hb.mono (below1 w _).size))
  have hsz := hb.size
  rw [show (w.alloc (.cells #[.int .u64 (D 0 : Nat), .int .u64 (D 1 : Nat), .int .u64 (D 2 : Nat), .int .u64 (D 3 : Nat)] 24)).heap.size = w.heap.size + 1 by simp] at hsz
  clear hb b0
  have x0 := b1.out.cell (j := 0) rfl
  have x1 := b1.out.cell (j := 1) rfl
  have x2 := b1.out.cell (j := 2) rfl
  have x3 := b1.out.cell (j := 3) rfl
  generalize hp0 : w.heap.size = p0 at *
  generalize hp1 : w'.heap.size = p1 at *
  have HP2 : Hid (Blk (w'.alloc (.cells #[.string ⟨#[]⟩, .string ⟨#[]⟩, .string ⟨#[]⟩, .string ⟨#[]⟩] 77)) p1 77 (tC D 0)) := Lib.hid (by rw [tC_0, ← hp1]; exact Blk.new _ _ _)
  have HB2 : Hid (Below p0 w (w'.alloc (.cells #[.string ⟨#[]⟩, .string ⟨#[]⟩, .string ⟨#[]⟩, .string ⟨#[]⟩] 77))) := Lib.hid (HB.out.alloc (by omega) _)
  have x0' : (w'.alloc (.cells #[.string ⟨#[]⟩, .string ⟨#[]⟩, .string ⟨#[]⟩, .string ⟨#[]⟩] 77)).cell? ⟨p0, 0, none⟩ = _ := (b1.out.alloc _).cell (j := 0) rfl
  have x1' : (w'.alloc (.cells #[.string ⟨#[]⟩, .string ⟨#[]⟩, .string ⟨#[]⟩, .string ⟨#[]⟩] 77)).cell? ⟨p0, 1, none⟩ = _ := (b1.out.alloc _).cell (j := 1) rfl
  have x2' : (w'.alloc (.cells #[.string ⟨#[]⟩, .string ⟨#[]⟩, .string ⟨#[]⟩, .string ⟨#[]⟩] 77)).cell? ⟨p0, 2, none⟩ = _ := (b1.out.alloc _).cell (j := 2) rfl
  have x3' : (w'.alloc (.cells #[.string ⟨#[]⟩, .string ⟨#[]⟩, .string ⟨#[]⟩, .string ⟨#[]⟩] 77)).cell? ⟨p0, 3, none⟩ = _ := (b1.out.alloc _).cell (j := 3) rfl
  clear x0 x1 x2 x3 b1 HB
  go_wp2_with fail
  have HNE : Hid (p0 ≤ p1) := Lib.hid (by omega)
  clear x0' x1' x2' x3'
  generalize w'.alloc (.cells #[.string ⟨#[]⟩, .string ⟨#[]⟩, .string ⟨#[]⟩, .string ⟨#[]⟩] 77) = W1 at *
  go_loopw [11] (fun s11 wr => ∃ k : Nat, k ≤ 4 ∧ s11 = .int .i64 (k : Int) ∧ Hid (Blk wr p1 77 (tC D k)) ∧ Hid (Below p0 w wr)) (fun s11 _ => 4 - (intOf s11).toNat)
  case atStart => exact ⟨0, by omega, rfl, HP2, HB2⟩
  case round =>
    clear HP2 HB2
    obtain ⟨k, hk, rfl, HP2, HB2⟩ := hrel
    by_cases hlt : k < 4
    · have u1 : decide ((k : Int) < 4) = true := decide_eq_true (by omega)
      have ix := IX.out k hlt
      have wr_ := Lib.hid (WR.out k hlt)
      have HS := Lib.hid (tC_set D k hlt)
      obtain ⟨v, hv⟩ := tC_get D k k hlt
      have HV := Lib.hid hv
      have e4 := inc64 k (by omega)
      have e5 : (k : Int) < 4 := by omega
      have e6 : (0 : Int) ≤ (k : Int) := by omega
      clear WR IX PA hv
      generalize writeL (D k) = T at *
      generalize D k = h at *
      go_wp2_with fail
      refine (wr_.out _).mono ?_
      rintro e w2 ⟨rfl, hb⟩
      have HP3 := Lib.hid (HP2.out.keep hb HP2.out.lt)
      have HB3 := Lib.hid (HB2.out.trans (hb.mono (by have := HB2.out.size; omega)))
      have x0 := HP3.out.cell HV.out
      have f0 := HP3.out.free k
      clear hb HP2 HB2
      obtain ⟨X, hX⟩ : ∃ X, strV' T = Value.string X := ⟨_, rfl⟩
      rw [hX] at HS ⊢
      clear hX
      go_wp2_with fail
      go_roundw
      case rel => exact ⟨k + 1, by omega, by simp, Lib.hid (by have h := HP3.out.set k (.string X); rwa [HS.out] at h), Lib.hid (HB3.out.setCell (p := ⟨p1, k, none⟩) HNE.out _)⟩
      case measure => simp [intOf]; omega
    · obtain rfl : k = 4 := by omega
      have u1 : decide ((4 : Int) < 4) = false := rfl
      rw [show ((4 : Nat) : Int) = 4 from rfl]
      have JN := Lib.hid (join_hands D HP2.out)
      have hl := deal_len D
      obtain ⟨E0, hE0⟩ : ∃ E0 : ByteArray, (⟨(dealT D).toArray⟩ : ByteArray) = E0 := ⟨_, rfl⟩
      have hEs : E0.size = (dealT D).length := by rw [← hE0]; rfl
      have hE1 : ¬ 9223372036854775807 < 2 + E0.size := by omega
      have HSV : Hid (.string ((⟨#[78, 58]⟩ : ByteArray) ++ E0) = strV' (textD D)) := Lib.hid (by unfold strV' textD; rw [← hE0]; simp [ByteArray.ext_iff])
      have hst : strV' (dealT D) = .string E0 := by unfold strV'; rw [hE0]
      rw [hst] at JN
      clear hst hE0 hEs hl WR IX PA
      go_wp2_with fail
      refine JN.out.mono ?_
      rintro e w2 ⟨rfl, hb⟩
      have HB3 := Lib.hid (HB2.out.trans (hb.mono (by have := HB2.out.size; omega)))
      clear hb
      go_wp2_with fail
      rw [HSV.out]
      go_returns
      exact ⟨rfl, by rw [hp0]; exact HB3.out⟩
end Go.Proofs.YtaadipccgckehaaGreatDoor
