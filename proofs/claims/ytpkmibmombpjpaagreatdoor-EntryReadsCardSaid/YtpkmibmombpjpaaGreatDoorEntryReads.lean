/- EntryReads: the walk. EntryReads returns true whatever the input; no condition but the tables and errors as their initialisers lay them, which the card ties to the text. -/
import Derived.Test.YtpkmibmombpjpaaGreatDoorRE
import Derived.Test.YtpkmibmombpjpaaGreatDoorKW
import Derived.Test.YtpkmibmombpjpaaGreatDoorFrame
import Derived.Test.YtpkmibmombpjpaaGreatDoorCards
import Derived.Test.YtpkmibmombpjpaaGreatDoorTie
import Derived.SevenTiedAt
import Derived.SizedLaws
set_option linter.unusedSimpArgs false
namespace Go.Proofs.YtpkmibmombpjpaaGreatDoor
open Go Go.RowKit

theorem zE_in : zE.In := by
  have z : inI 0 := inI_small (by omega)
  exact gE_in ⟨z, z, z, z⟩ (by omega) (by omega) (fun o ho => by cases ho) z z
theorem readV_of (s : List UInt8) : ∃ (x : En) (c : Int), x.In ∧ readV (readW s) = .tuple #[.agg (enC x), .int .i64 c] := by
  rcases h : readW s with _ | x
  · exact ⟨zE, 315, zE_in, rfl⟩
  · exact ⟨x, 0, (readW_is h).1, rfl⟩
set_option maxRecDepth 100000 in
set_option maxHeartbeats 4000000 in
theorem reads_any (s : List UInt8) (w : World) (he : Env w) : Calls Tryz.prog 12 #[.string (bS s)] w (fun e w' => e = .returned (.bool true) ∧ Below w.heap.size w w') := by
  have hsz := bS_size s
  by_cases h : 300 < s.length
  · have t1 : decide ((300 : Int) < (s.length : Int)) = true := decide_eq_true (by omega)
    have t1b : decide (300 < s.length) = true := decide_eq_true h
    go_enter Tryz.func12, Tryz.ntmps12
    go_wp2_with fail
    go_ret
    exact ⟨rfl, Below.refl _ _⟩
  have t1 : decide ((300 : Int) < (s.length : Int)) = false := decide_eq_false (by omega)
  have t1b : decide (300 < s.length) = false := decide_eq_false h
  obtain ⟨x, c, hx, hv⟩ := readV_of s
  have RA := Lib.hid (fun W hW => read_any s (by omega) W hW)
  have RB := Lib.hid (fun W hW => rread_any s (by omega) W hW)
  rw [hv] at RA RB
  have HX := Lib.hid hx
  have HE := Lib.hid he
  clear hv hx he h
  go_enter Tryz.func12, Tryz.ntmps12
  go_wp2_with fail
  refine (RA.out _ HE.out).mono ?_
  rintro e w1 ⟨rfl, hb⟩
  have HB1 := Lib.hid hb
  have st := storeAt_row (T := 34) (C := enC x) (Blk.new w1 34 (enC zE)) (by rw [enC_size]; kernel_rfl) (by simp only [enC_size]) (enC_one _)
  rw [setRow_new, zE_lit] at st
  clear hb t1 t1b
  go_upto_region 4 with (guard_target =~ wpList _ _ _ (⟨none, _, _, _, _, _⟩ :: _) _ _; refine op_store (p := .pointer (some ⟨w1.heap.size, 0, none⟩)) (C := .agg (enC x)) 34 (.tmp 3) (.tmp 13) rfl rfl rfl rfl rfl st ?_)
  clear st
  have HA2 := Lib.hid (Blk.new w1 34 (enC x))
  have HB2 := Lib.hid (HB1.out.alloc HB1.out.size (.cells (enC x) 34))
  generalize w1.alloc (.cells (enC x) 34) = W2 at *
  generalize w1.heap.size = pa at *
  go_wp2_with fail
  refine (RB.out _ (HE.out.keep HB2.out)).mono ?_
  rintro e w3 ⟨rfl, hb⟩
  have HA3 := Lib.hid (HA2.out.kp2 hb)
  have HB3 := Lib.hid (bchain HB2.out hb)
  have st := storeAt_row (T := 34) (C := enC x) (Blk.new w3 34 (enC zE)) (by rw [enC_size]; kernel_rfl) (by simp only [enC_size]) (enC_one _)
  rw [setRow_new, zE_lit] at st
  clear hb HA2 HB2 HB1
  go_upto_region 5 with (guard_target =~ wpList _ _ _ (⟨none, _, _, _, _, _⟩ :: _) _ _; refine op_store (p := .pointer (some ⟨w3.heap.size, 0, none⟩)) (C := .agg (enC x)) 34 (.tmp 5) (.tmp 18) rfl rfl rfl rfl rfl st ?_)
  clear st
  have HC4 := Lib.hid (Blk.new w3 34 (enC x))
  have HA4 := Lib.hid (HA3.out.alloc (.cells (enC x) 34))
  have HB4 := Lib.hid (HB3.out.alloc HB3.out.size (.cells (enC x) 34))
  generalize w3.alloc (.cells (enC x) 34) = W4 at *
  generalize w3.heap.size = pc at *
  have la := loadAt_blk (T := 34) HA4.out Tryz.underlying34 rfl (by rw [enC_size]; kernel_rfl)
  have lb := loadAt_blk (T := 34) HC4.out Tryz.underlying34 rfl (by rw [enC_size]; kernel_rfl)
  have eq := eql_deep (eq_en x x HX.out HX.out)
  rw [eqEn_self] at eq
  go_wp2_with (first
    | (guard_target =~ wpList _ _ _ (⟨some 20, _, _, _, _, _⟩ :: _) _ _; refine op_load (p := .pointer (some ⟨pa, 0, none⟩)) 34 (.tmp 3) rfl rfl rfl la ?_)
    | (guard_target =~ wpList _ _ _ (⟨some 21, _, _, _, _, _⟩ :: _) _ _; refine op_load (p := .pointer (some ⟨pc, 0, none⟩)) 34 (.tmp 5) rfl rfl rfl lb ?_)
    | (guard_target =~ wpList _ _ _ (⟨some 22, _, _, _, _, _⟩ :: _) _ _; refine op_bin_w (X := enC x) (Y := enC x) .eql 34 _ (.tmp 20) (.tmp 21) (by kernel_rfl) rfl rfl rfl (by kernel_rfl) (eq _) ?_))
  go_ret
  exact ⟨rfl, HB4.out⟩
theorem ereads_any (s : List UInt8) (w : World) (he : Env w) : Calls Tryz.prog 4 #[.string (bS s)] w (fun e w' => e = .returned (.bool true) ∧ Below w.heap.size w w') := by
  have RA := Lib.hid (fun W hW => reads_any s W hW)
  have HE := Lib.hid he
  clear he
  go_enter Tryz.func4, Tryz.ntmps4
  go_wp2_with fail
  refine (RA.out _ HE.out).mono ?_
  rintro e w1 ⟨rfl, hb⟩
  have HB1 := Lib.hid hb
  clear hb
  go_wp2_with fail
  refine (awake_any _ (HE.out.keep HB1.out)).mono ?_
  rintro e w2 ⟨rfl, hb⟩
  go_wp2_with fail
  go_ret
  exact ⟨rfl, bchain HB1.out hb⟩
theorem ereads_open (b : ByteArray) (w : World) (he : Env w) : Calls Tryz.prog 4 #[.string b] w (fun e w' => e = .returned (.bool true) ∧ Below w.heap.size w w') := by
  have h := ereads_any b.data.toList w he
  rwa [show bS b.data.toList = b by unfold bS; simp] at h
end Go.Proofs.YtpkmibmombpjpaaGreatDoor
namespace Go.Proofs.YtpkmibmombpjpaaGreatDoor.entryReads
open Go Go.ChangeShapes Go.ChangeMaps Go.WideShapes Go.ChangeAt Go.WideMaps Go.WideElems Go.RowKit

set_option maxRecDepth 100000 in
theorem lifted (os : Os) (started : os.Started) (H : Type) (enc : TypeId × Value → H) :
    ReturnsInHanded {} Tryz.checked os 4 .any (fun w args => (Rows.entryReadsSpec.pre enc Tryz.prog Tryz.f4 [] false w args ∧ laidMetH Tryz.prog laids w) ∧ sizedMet enc Tryz.prog Tryz.f4 (OpenSpec.ofChange Rows.entryReadsSpec) false w args)
      (Rows.entryReadsSpec.post enc Tryz.prog Tryz.f4 false true false false) := by
  refine handed_and_shaped (C := Tryz.checked) (X := fun w _ => laidMetH Tryz.prog laids w) (fun _ _ _ hh h => h.of_heap hh) own started (by kernel_rfl) Tryz.func4
    (ChangeSpec.witness_shaped (enc := enc) (C := Tryz.checked) (os := os) (X := fun w _ => laidMetH Tryz.prog laids w) false (World.laidAll Tryz.prog os laids) #[.string ⟨#[]⟩] 8 (World.laidAll_os _ _ _) (World.shaped_of_ZipB (by kernel_rfl) (by kernel_rfl)) (by kernel_rfl) (by kernel_rfl) (by kernel_rfl) (door_met os _)) ?_
  intro W base args ds gs before hval0 hW _ hsz hL hshape _
  have hval : ∀ (j : Nat) t v, Tryz.f4.params[j]? = some t → args[j]? = some v → Value.okWide Tryz.prog W .any base t v := hval0
  have hW' := hW
  obtain ⟨p, q, hA0, hV, rfl, hfz, hnd⟩ := hW
  have hA : DataW.TrodAll enc Tryz.prog W 0 (fun _ => true) true Tryz.f4.params.toList args.toList ds p := hA0
  rw [Tryz.params4] at hA hval
  obtain ⟨v0, vs0, d0, ds0, p0, q0, hargs0, rfl, rfl, h0, r0⟩ := trodAll_cons hA
  obtain ⟨rfl, rfl, rfl⟩ := trodAll_nil r0
  obtain rfl : args = #[v0] := by cases args; simp_all
  obtain ⟨rfl, rfl⟩ := trodVars_none hV
  obtain ⟨b0, rfl, rfl, rfl, w0⟩ := open_string Tryz.underlying9 (hval 0 9 v0 rfl rfl) h0
  have z0 := sized_string hsz (j := 0) rfl rfl
  clear hA0 hval0
  simp only [List.append_nil] at hW'
  refine (ereads_open b0 W (env_of_laid hL hshape)).mono fun e W' ⟨he, hg⟩ => ?_
  subst he
  exact ⟨_, rfl, _, _, _, [], [], [], hW', trodAll_mk1 (shut_bool Tryz.underlying4 _), (trodAll_cons_mk (shut_string Tryz.underlying9 w0) trodAll_mk0), rfl, hg.frame _, fun h => by cases h⟩

theorem over : Rows.EntryReadsSaid :=
  OpenClaim.holds_of_wide 4 Tryz.f4 rfl rfl rfl rfl rfl rfl rfl ⟨rfl, rfl, rfl, rfl, rfl⟩ rfl rfl rfl rfl rfl (by kernel_rfl) Tryz.func4 (by kernel_rfl)
    (of_decide_eq_true (by kernel_rfl)) (by unfold Func.isWrapper; first | (rw [if_pos (by decide +kernel)]; kernel_rfl) | (rw [if_neg (by decide +kernel)]; exact ⟨rfl, rfl⟩))
    (fun os started H enc _ => lifted os started H enc)

theorem card_holds : Rows.EntryReadsCardSaid :=
  Claim7.holds_tied_plain_at .later [] [.data, .data, .data, .data, .sentinel, .sentinel, .pinned] true (true, "0164e4441daa2ef451322f1291758c9700ccce8c29fafcad22677b4fb54b4141") true
    over (fun _ h => by cases h) (by kernel_rfl) (fun _ h => by cases h) entryReads_row_tie rfl ⟨rfl, rfl⟩ (by kernel_rfl) rfl
    (fun f fn hf hfn => by
      obtain rfl : f = 4 := Option.some.inj ((show Tryz.prog.funcNamed "finesse/finesselaw31.EntryReads" = some 4 by kernel_rfl).symm.trans hf) |>.symm
      obtain rfl : fn = Tryz.f4 := (Option.some.inj (Tryz.func4.symm.trans hfn)).symm
      exact ⟨by kernel_rfl, fun j t ht => by
        rw [Tryz.params4] at ht
        have hm : t ∈ [9] := by simpa using Array.mem_of_getElem? ht
        have hall : ([9].all fun u => !Tryz.prog.wantsStandIn u) = true := by kernel_rfl
        exact (show Tryz.prog.wantsStandIn t = false by simpa using List.all_eq_true.1 hall t hm)⟩)
    (by kernel_rfl)
#print axioms card_holds
end Go.Proofs.YtpkmibmombpjpaaGreatDoor.entryReads
