/- Words as numbers, strings split and cut at one byte. -/
import Derived.Test.YtpkmibmombpjpaaGreatDoorEX
import Derived.Lib.CutLaws
import Derived.Lib.IndexBytes
namespace Go.Proofs.YtpkmibmombpjpaaGreatDoor
open Go Go.RowKit

/-- An error that is not nil. -/
def ErrW (w : World) (k : Value) (e : Ending) (w' : World) : Prop := ∃ (N : Nat), e = .returned (.tuple #[k, .iface 266 (.pointer (some ⟨N, 0, none⟩))]) ∧ Below w.heap.size w w'
theorem bytes_below {w w' : World} {t : TypeId} {s : ByteArray} (h : w' = w ∨ w' = Lib.bytesWorld w t s) : Below w.heap.size w w' := by
  rcases h with rfl | rfl
  · exact Below.refl _ _
  · exact Lib.bytesWorld_below _ _ _
set_option maxRecDepth 100000 in
theorem number_any (l : List UInt8) (hl : l.length ≤ 1000000) (w : World) (he : Env w) : Calls Tryz.prog 100 #[.string (bS l)] w (fun e w' => e = .returned (.int .i64 (numW l)) ∧ Below w.heap.size w w') := by
  have hs : (bS l).size ≤ 281474976710656 := by rw [bS_size]; omega
  have hd := bS_list l
  rcases hx : Lib.atoiAll l with n | _ | _
  · have HN : Hid (numW l = n) := Lib.hid (by unfold numW; rw [hx])
    have AT := Lib.hid (Tryz.strconv_Atoi_ok (bS l) (by omega) n (by rw [hd]; exact hx) w)
    clear hx hs hd
    go_enter Tryz.func100, Tryz.ntmps100
    go_wp2_with fail
    refine AT.out.mono ?_
    rintro e w1 ⟨rfl, hb⟩
    have HB : Hid (Below w.heap.size w w1) := Lib.hid (by
      rcases hb with rfl | ⟨t, rfl⟩
      · exact Below.refl _ _
      · exact Lib.bytesWorld_below _ _ _)
    clear hb AT
    go_wp2_with fail
    go_ret
    exact ⟨by rw [HN.out]; rfl, HB.out⟩
  · have HN : Hid (numW l = 0) := Lib.hid (by unfold numW; rw [hx])
    obtain ⟨t, p, hv⟩ := he.syn
    have AT := Lib.hid (Tryz.strconv_Atoi_syntax (bS l) hs (by rw [hd]; exact hx) _ w hv (.inr ⟨t, p, rfl⟩))
    clear hx hs hd hv
    go_enter Tryz.func100, Tryz.ntmps100
    go_wp2_with fail
    refine AT.out.mono ?_
    rintro e w1 ⟨N, rfl, _, _, hb⟩
    have HB := Lib.hid hb
    clear hb AT
    go_wp2_with fail
    go_ret
    exact ⟨by rw [HN.out]; rfl, HB.out⟩
  · have HN : Hid (numW l = 0) := Lib.hid (by unfold numW; rw [hx])
    obtain ⟨t, p, hv⟩ := he.rng
    have AT := Lib.hid (Tryz.strconv_Atoi_range (bS l) hs (by rw [hd]; exact hx) _ w hv (.inr ⟨t, p, rfl⟩))
    clear hx hs hd hv
    go_enter Tryz.func100, Tryz.ntmps100
    go_wp2_with fail
    refine AT.out.mono ?_
    rintro e w1 ⟨N, rfl, _, _, hb⟩
    have HB := Lib.hid hb
    clear hb AT
    go_wp2_with fail
    go_ret
    exact ⟨by rw [HN.out]; rfl, HB.out⟩
theorem parseB_8 (l : List UInt8) : Lib.parseUintB 8 l = if l = [] then .syntax else Lib.parseUintM 255 0 l := rfl
set_option maxRecDepth 100000 in
theorem small_any (l : List UInt8) (hl : l.length ≤ 1000000) (w : World) (he : Env w) : Calls Tryz.prog 101 #[.string (bS l)] w (fun e w' => e = .returned (.int .u8 ((smallW l : Nat) : Int)) ∧ Below w.heap.size w w') := by
  have hs : (bS l).size ≤ 281474976710656 := by rw [bS_size]; omega
  have hd := bS_list l
  have hsm := small_lt l
  rcases hx : Lib.parseUintB 8 l with n | _ | _
  · have hN : smallW l = n := by
      unfold smallW
      rw [parseB_8] at hx
      split at hx
      · cases hx
      · rw [if_neg (by assumption), hx]
    rw [hN] at hsm
    have HN := Lib.hid hN
    have AT := Lib.hid (Tryz.strconv_ParseUint_10_at8_ok (bS l) (by omega) n (by rw [hd]; exact hx) w)
    have k1 : IntKind.u8.wrap (n : Int) = (n : Int) := by show (n : Int) % 256 = _; omega
    have k2 : (n : Int) % 256 = (n : Int) := by omega
    clear hx hs hd hN hsm
    go_enter Tryz.func101, Tryz.ntmps101
    go_wp2_with fail
    refine AT.out.mono ?_
    rintro e w1 ⟨rfl, hb⟩
    have HB := Lib.hid (bytes_below hb)
    clear hb AT
    go_wp2_with fail
    go_ret
    exact ⟨by rw [HN.out]; rfl, HB.out⟩
  · have HN : Hid (smallW l = 255) := Lib.hid (by
      unfold smallW
      rw [parseB_8] at hx
      split at hx
      · rw [if_pos (by assumption)]
      · rw [if_neg (by assumption), hx])
    obtain ⟨t, p, hv⟩ := he.syn
    have AT := Lib.hid (Tryz.strconv_ParseUint_10_at8_syntax (bS l) hs (by rw [hd]; exact hx) _ w hv (.inr ⟨t, p, rfl⟩))
    clear hx hs hd hv hsm
    go_enter Tryz.func101, Tryz.ntmps101
    go_wp2_with fail
    refine AT.out.mono ?_
    rintro e w1 ⟨N, rfl, _, _, hb⟩
    have HB := Lib.hid hb
    clear hb AT
    go_wp2_with fail
    go_ret
    exact ⟨by rw [HN.out]; rfl, HB.out⟩
  · have HN : Hid (smallW l = 255) := Lib.hid (by
      unfold smallW
      rw [parseB_8] at hx
      split at hx
      · cases hx
      · rw [if_neg (by assumption), hx])
    obtain ⟨t, p, hv⟩ := he.rng
    have AT := Lib.hid (Tryz.strconv_ParseUint_10_at8_range (bS l) hs (by rw [hd]; exact hx) _ w hv (.inr ⟨t, p, rfl⟩))
    clear hx hs hd hv hsm
    go_enter Tryz.func101, Tryz.ntmps101
    go_wp2_with fail
    refine AT.out.mono ?_
    rintro e w1 ⟨N, rfl, _, _, hb⟩
    have HB := Lib.hid hb
    clear hb AT
    go_wp2_with fail
    go_ret
    exact ⟨by rw [HN.out]; rfl, HB.out⟩
set_option maxRecDepth 100000 in
set_option maxHeartbeats 1000000 in
theorem scut1_any (s : ByteArray) (c : UInt8) (hs : s.size ≤ 281474976710656) (w : World) :
    Calls Tryz.prog 178 #[.string s, .string ⟨#[c]⟩] w fun e w' => e = .returned (.tuple #[.string ⟨(Lib.cut s.data.toList [c]).1.toArray⟩, .string ⟨(Lib.cut s.data.toList [c]).2.1.toArray⟩, .bool (Lib.cut s.data.toList [c]).2.2]) ∧ ∃ n, w' = w.drewN n := by
  have hone : Lib.index s.data.toList [c] = Lib.indexByte s.data.toList c := Lib.index_one _ _
  rcases Lib.indexB_cases s ⟨#[c]⟩ with hix | ⟨i, hix, hroom⟩
  · obtain ⟨e1, e2, e3⟩ := Lib.cutB_miss s ⟨#[c]⟩ hix
    rw [show ([c] : List UInt8) = (⟨#[c]⟩ : ByteArray).data.toList from rfl, e1, e2, e3]
    have hv : Lib.indexByte s.data.toList c = -1 := hone.symm.trans hix
    clear e1 e2 e3 hone hix hs
    go_enter Tryz.func178, Tryz.ntmps178
    go_wp2_with (go_at_call 174; refine (Tryz.stringslite_Index_one _ _ _).mono ?_; rintro e w' ⟨rfl, rfl⟩; rw [hv])
    go_ret3
    exact ⟨rfl, 0, rfl⟩
  · obtain ⟨e1, e2, e3⟩ := Lib.cutB_hit s ⟨#[c]⟩ i hix
    rw [show ([c] : List UInt8) = (⟨#[c]⟩ : ByteArray).data.toList from rfl, e1, e2, e3]
    have hv : Lib.indexByte s.data.toList c = (i : Int) := hone.symm.trans hix
    have hr : i + 1 ≤ s.size := hroom
    have c1 : (0 : Int) ≤ (i : Int) := by omega
    have c2 : (i : Int) ≤ (s.size : Int) := by omega
    have c3 : (0 : Int) ≤ (i : Int) + 1 := by omega
    have c4 : (i : Int) + 1 ≤ (s.size : Int) := by omega
    have c5 : IntKind.i64.wrap ((i : Int) + 1) = (i : Int) + 1 := IntWalk.i64_in _ (by omega)
    have c6 : decide (0 ≤ (i : Int)) = true := decide_eq_true c1
    clear e1 e2 e3 hone hix hroom
    go_enter Tryz.func178, Tryz.ntmps178
    go_wp2_with (go_at_call 174; refine (Tryz.stringslite_Index_one _ _ _).mono ?_; rintro e w' ⟨rfl, rfl⟩; rw [hv])
    go_region
    go_wp2
    go_ret3
    exact ⟨rfl, 1, rfl⟩
set_option maxRecDepth 100000 in
theorem cut1_any (s : ByteArray) (c : UInt8) (hs : s.size ≤ 281474976710656) (w : World) :
    Calls Tryz.prog 142 #[.string s, .string ⟨#[c]⟩] w fun e w' => e = .returned (.tuple #[.string ⟨(Lib.cut s.data.toList [c]).1.toArray⟩, .string ⟨(Lib.cut s.data.toList [c]).2.1.toArray⟩, .bool (Lib.cut s.data.toList [c]).2.2]) ∧ ∃ n, w' = w.drewN n := by
  have S := Lib.hid (fun W => scut1_any s c hs W)
  obtain ⟨a, ha⟩ : ∃ a, (Lib.cut s.data.toList [c]).1 = a := ⟨_, rfl⟩
  obtain ⟨b, hb⟩ : ∃ b, (Lib.cut s.data.toList [c]).2.1 = b := ⟨_, rfl⟩
  obtain ⟨f, hf⟩ : ∃ f, (Lib.cut s.data.toList [c]).2.2 = f := ⟨_, rfl⟩
  rw [ha, hb, hf] at S ⊢
  clear ha hb hf hs
  go_enter Tryz.func142, Tryz.ntmps142
  go_wp2_with fail
  refine (S.out _).mono ?_
  rintro e w' ⟨rfl, n, rfl⟩
  go_wp2_with fail
  go_ret3
  exact ⟨rfl, n, rfl⟩
/-- strings.SplitN at one byte. -/
theorem splitN_any (c : UInt8) (n : Nat) (h1 : 1 ≤ n) (hn : n ≤ 1000) (l : List UInt8) (hl : l.length ≤ 1000000) (w : World) (he : Env w) :
    Calls Tryz.prog 68 #[.string (bS l), .string ⟨#[c]⟩, .int .i64 (n : Int)] w (fun e w' => ∃ v, e = .returned v ∧ RS w' v (splitAt1 c n l) ∧ Below w.heap.size w w') := by
  obtain ⟨m, hm⟩ := he.maxl
  refine (Tryz.strings_SplitN (bS l) ⟨#[c]⟩ n m w (by rw [bS_size]; omega) hm (by show 1 ≤ 1; omega) h1 (by omega)).mono ?_
  rintro e w' ⟨rfl, rfl⟩
  obtain ⟨k, hk⟩ : ∃ k, min n ((bS l).size + 1) - 1 = k := ⟨_, rfl⟩
  have hS : splitAt1 c n l = (Lib.splitB ⟨#[c]⟩ 0 k (bS l)).map (·.data.toList) := by
    rw [Lib.splitB_data, bS_list]
    unfold splitAt1
    rw [← hk, bS_size]
  rw [hk]
  generalize Lib.splitB ⟨#[c]⟩ 0 k (bS l) = A at *
  refine ⟨_, rfl, ?_, below1 _ _⟩
  have hlen : A.length = (splitAt1 c n l).length := by rw [hS, List.length_map]
  rw [hlen]
  refine RS.some_ _ 0 _ _ (by simp) (fun i r hi => ?_)
  rw [Nat.zero_add]
  refine (Blk.new w _ _).cell ?_
  rw [hS, List.getElem?_map] at hi
  cases hx : A[i]? with
  | none => rw [hx] at hi; cases hi
  | some y =>
    rw [hx] at hi
    have hy : y.data.toList = r := by simpa using hi
    have e1 : strV r = .string y := str_val r y hy
    rw [e1]
    unfold Lib.cellsOf
    rw [List.getElem?_toArray, List.getElem?_append_left (by simpa using (List.getElem?_eq_some_iff.1 hx).1), List.getElem?_map, hx]
    rfl
theorem RS.at {W : World} {A : Option Addr} {n cap i : Nat} {l : List (List UInt8)} {x : List UInt8} (h : RS W (.slice A n cap) l) (hi : l[i]? = some x) : ∃ b o, A = some ⟨b, o, none⟩ ∧ W.cell? ⟨b, o + i, none⟩ = some (strV x) := by
  cases h with
  | none_ => simp at hi
  | some_ b o cap l hlt h => exact ⟨b, o, rfl, h i x hi⟩
end Go.Proofs.YtpkmibmombpjpaaGreatDoor
