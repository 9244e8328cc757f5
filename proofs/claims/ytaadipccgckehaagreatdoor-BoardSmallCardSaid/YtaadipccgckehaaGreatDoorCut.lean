/- strings.Cut at one byte: a string however long. -/
import Derived.Test.YtaadipccgckehaaGreatDoorEnv
import Derived.Test.YtaadipccgckehaaGreatDoorPlM
import Derived.Lib.CutLaws
import Derived.Lib.IndexBytes
import Derived.BigQuiet
import Derived.Deep.QuietTactic
namespace Go.Proofs.YtaadipccgckehaaGreatDoor
open Go Go.RowKit Go.Shelf Pl

set_option maxRecDepth 100000 in
set_option maxHeartbeats 1000000 in
theorem scut1_any (s : ByteArray) (c : UInt8) (hs : s.size ≤ 281474976710656) (w : World) :
    Calls Tryz.prog 56 #[.string s, .string ⟨#[c]⟩] w fun e w' => e = .returned (.tuple #[.string ⟨(Lib.cut s.data.toList [c]).1.toArray⟩, .string ⟨(Lib.cut s.data.toList [c]).2.1.toArray⟩, .bool (Lib.cut s.data.toList [c]).2.2]) ∧ ∃ n, w' = w.drewN n := by
  have hone : Lib.index s.data.toList [c] = Lib.indexByte s.data.toList c := Lib.index_one _ _
  rcases Lib.indexB_cases s ⟨#[c]⟩ with hix | ⟨i, hix, hroom⟩
  · obtain ⟨e1, e2, e3⟩ := Lib.cutB_miss s ⟨#[c]⟩ hix
    rw [show ([c] : List UInt8) = (⟨#[c]⟩ : ByteArray).data.toList from rfl, e1, e2, e3]
    have hv : Lib.indexByte s.data.toList c = -1 := hone.symm.trans hix
    clear e1 e2 e3 hone hix hs
    go_enter Tryz.func56, Tryz.ntmps56
    go_wp2_with (go_at_call 74; refine (Tryz.stringslite_Index_one _ _ _).mono ?_; rintro e w' ⟨rfl, rfl⟩; rw [hv])
    go_ret3
    exact ⟨rfl, 0, rfl⟩
  · obtain ⟨e1, e2, e3⟩ := Lib.cutB_hit s ⟨#[c]⟩ i hix
    rw [show ([c] : List UInt8) = (⟨#[c]⟩ : ByteArray).data.toList from rfl, e1, e2, e3]
    have hv : Lib.indexByte s.data.toList c = (i : Int) := hone.symm.trans hix
    have hr : i + 1 ≤ s.size := hroom
    have c1 : (0 : Int) ≤ (i : Int) := by omega
    have c2 : (i : Int) ≤ (s.size : Int) := by omega
    have c3 : (0 : Int) ≤ (i : Int) + 1 := by omega
    have c4 : (i : Int) + 1 ≤ (s.size : Int) := by omega
    have c5 : IntKind.i64.wrap ((i : Int) + 1) = (i : Int) + 1 := IntWalk.i64_in _ (by omega)
    have c6 : decide (0 ≤ (i : Int)) = true := decide_eq_true c1
    clear e1 e2 e3 hone hix hroom
    go_enter Tryz.func56, Tryz.ntmps56
    go_wp2_with (go_at_call 74; refine (Tryz.stringslite_Index_one _ _ _).mono ?_; rintro e w' ⟨rfl, rfl⟩; rw [hv])
    go_region
    go_wp2
    go_ret3
    exact ⟨rfl, 1, rfl⟩
set_option maxRecDepth 100000 in
theorem cut1_any (s : ByteArray) (c : UInt8) (hs : s.size ≤ 281474976710656) (w : World) :
    Calls Tryz.prog 37 #[.string s, .string ⟨#[c]⟩] w fun e w' => e = .returned (.tuple #[.string ⟨(Lib.cut s.data.toList [c]).1.toArray⟩, .string ⟨(Lib.cut s.data.toList [c]).2.1.toArray⟩, .bool (Lib.cut s.data.toList [c]).2.2]) ∧ ∃ n, w' = w.drewN n := by
  have S := Lib.hid (fun W => scut1_any s c hs W)
  obtain ⟨a, ha⟩ : ∃ a, (Lib.cut s.data.toList [c]).1 = a := ⟨_, rfl⟩
  obtain ⟨b, hb⟩ : ∃ b, (Lib.cut s.data.toList [c]).2.1 = b := ⟨_, rfl⟩
  obtain ⟨f, hf⟩ : ∃ f, (Lib.cut s.data.toList [c]).2.2 = f := ⟨_, rfl⟩
  rw [ha, hb, hf] at S ⊢
  clear ha hb hf hs
  go_enter Tryz.func37, Tryz.ntmps37
  go_wp2_with fail
  refine (S.out _).mono ?_
  rintro e w' ⟨rfl, n, rfl⟩
  go_wp2_with fail
  go_ret3
  exact ⟨rfl, n, rfl⟩
end Go.Proofs.YtaadipccgckehaaGreatDoor
