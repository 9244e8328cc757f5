/- The text of an outcome. -/
import Derived.Test.YtpkmibmombpjpaaGreatDoorEL
namespace Go.Proofs.YtpkmibmombpjpaaGreatDoor
open Go Go.RowKit

def paI (o : Ou) (k : Nat) : Int := if k = 0 then (o.lv : Int) else if k = 1 then (o.dn : Int) else if k = 2 then (o.rk : Int) else if k = 3 then (o.dc : Int) else o.tr
theorem ix_pa (o : Ou) (k : Nat) (hk : k < 5) (w : World) : (Instr.index 161 (.agg #[.int .i64 (o.lv : Int), .int .i64 (o.dn : Int), .int .i64 (o.rk : Int), .int .i64 (o.dc : Int), .int .i64 o.tr]) (.int .i64 (k : Int))).run Tryz.prog w = .ok (.int .i64 (paI o k)) w := by
  rcases (by omega : k = 0 ∨ k = 1 ∨ k = 2 ∨ k = 3 ∨ k = 4) with rfl | rfl | rfl | rfl | rfl
  · show _ = Result.ok (Value.int .i64 (o.lv : Int)) w
    kernel_rfl
  · show _ = Result.ok (Value.int .i64 (o.dn : Int)) w
    kernel_rfl
  · show _ = Result.ok (Value.int .i64 (o.rk : Int)) w
    kernel_rfl
  · show _ = Result.ok (Value.int .i64 (o.dc : Int)) w
    kernel_rfl
  · show _ = Result.ok (Value.int .i64 o.tr) w
    kernel_rfl
theorem parts_at (o : Ou) (k : Nat) (hk : k < 5) : o.parts[k]? = some (Lib.itoa (paI o k)) := by
  rcases (by omega : k = 0 ∨ k = 1 ∨ k = 2 ∨ k = 3 ∨ k = 4) with rfl | rfl | rfl | rfl | rfl <;> rfl
theorem paI_in {o : Ou} (h : o.In) (k : Nat) : inI (paI o k) := by
  have u : ∀ k : Nat, k < 256 → inI (k : Int) := fun k hk => ⟨by omega, by omega⟩
  unfold paI
  split
  · exact u _ h.lv
  · split
    · exact u _ h.dn
    · split
      · exact u _ h.rk
      · split
        · exact u _ h.dc
        · exact h.tr
attribute [irreducible] paI
theorem parts_len {o : Ou} (h : o.In) : ∀ x ∈ o.parts, x.length ≤ 21 := by
  intro x hx
  obtain ⟨k, hk⟩ := List.getElem?_of_mem hx
  have hk5 : k < 5 := (List.getElem?_eq_some_iff.1 hk).1
  rw [parts_at o k hk5] at hk
  rw [← Option.some.inj hk]
  exact itoa_len _ (paI_in h k)
theorem dots_len {o : Ou} (h : o.In) : (jn 46 o.parts).length ≤ 110 := by
  have := jn_le 46 o.parts 21 (parts_len h)
  have e : o.parts.length = 5 := rfl
  rw [e] at this
  omega
set_option maxRecDepth 100000 in
set_option maxHeartbeats 4000000 in
theorem outText_any (o : Ou) (ho : o.In) (w : World) (he : Env w) : Calls Tryz.prog 60 #[.agg #[.int .u8 (o.lv : Int), .int .u8 (o.dn : Int), .int .u8 (o.rk : Int), .int .u8 (o.dc : Int), .int .i64 o.tr, .int .i64 o.wt]] w (fun e w' => e = .returned (.string (bS o.txt)) ∧ Below w.heap.size w w') := by
  have HE := Lib.hid he
  have HOI := Lib.hid ho
  have k1 : IntKind.i64.wrap (o.lv : Int) = (o.lv : Int) := IntWalk.i64_in _ (by have := ho.lv; omega)
  have k2 : IntKind.i64.wrap (o.dn : Int) = (o.dn : Int) := IntWalk.i64_in _ (by have := ho.dn; omega)
  have k3 : IntKind.i64.wrap (o.rk : Int) = (o.rk : Int) := IntWalk.i64_in _ (by have := ho.rk; omega)
  have k4 : IntKind.i64.wrap (o.dc : Int) = (o.dc : Int) := IntWalk.i64_in _ (by have := ho.dc; omega)
  have IX := Lib.hid (ix_pa o)
  clear he ho
  go_enter Tryz.func60, Tryz.ntmps60
  go_wp2_with fail
  have HA := Lib.hid ((Blk.new w 30 #[.int .u8 (o.lv : Int), .int .u8 (o.dn : Int), .int .u8 (o.rk : Int), .int .u8 (o.dc : Int), .int .i64 o.tr, .int .i64 o.wt]).alloc (.cells #[.int .u8 (o.lv : Int), .int .u8 (o.dn : Int), .int .u8 (o.rk : Int), .int .u8 (o.dc : Int)] 28))
  have HW := Lib.hid (below2 w (.cells #[.int .u8 (o.lv : Int), .int .u8 (o.dn : Int), .int .u8 (o.rk : Int), .int .u8 (o.dc : Int), .int .i64 o.tr, .int .i64 o.wt] 30) (.cells #[.int .u8 (o.lv : Int), .int .u8 (o.dn : Int), .int .u8 (o.rk : Int), .int .u8 (o.dc : Int)] 28))
  have HLT : Hid (w.heap.size < ((w.alloc (.cells #[.int .u8 (o.lv : Int), .int .u8 (o.dn : Int), .int .u8 (o.rk : Int), .int .u8 (o.dc : Int), .int .i64 o.tr, .int .i64 o.wt] 30)).alloc (.cells #[.int .u8 (o.lv : Int), .int .u8 (o.dn : Int), .int .u8 (o.rk : Int), .int .u8 (o.dc : Int)] 28)).heap.size) := Lib.hid HA.out.lt
  generalize (w.alloc (.cells #[.int .u8 (o.lv : Int), .int .u8 (o.dn : Int), .int .u8 (o.rk : Int), .int .u8 (o.dc : Int), .int .i64 o.tr, .int .i64 o.wt] 30)).alloc (.cells #[.int .u8 (o.lv : Int), .int .u8 (o.dn : Int), .int .u8 (o.rk : Int), .int .u8 (o.dc : Int)] 28) = W1 at *
  obtain ⟨B, hB⟩ : ∃ B, W1.heap.size = B := ⟨_, rfl⟩
  have HBB := Lib.hid hB
  generalize hp0 : w.heap.size = p0 at *
  clear k1 k2 k3 k4 hB
  go_loopw [4, 25] (fun s4 s25 wr => ∃ k : Nat, k ≤ 5 ∧ s25 = .int .i64 (k : Int) ∧ Hid (wr.ownsRow B 9 1 s4 k ((o.parts.take k).map strV)) ∧ Hid (Blk wr p0 30 #[.int .u8 (o.lv : Int), .int .u8 (o.dn : Int), .int .u8 (o.rk : Int), .int .u8 (o.dc : Int), .int .i64 o.tr, .int .i64 o.wt]) ∧ Hid (Below p0 w wr) ∧ Hid (B ≤ wr.heap.size)) (fun _ s25 _ => 5 - (intOf s25).toNat)
  case atStart => exact ⟨0, by omega, rfl, Lib.hid (own_nil _ _ _), HA, HW, Lib.hid (by rw [HBB.out]; exact Nat.le_refl _)⟩
  case round =>
    clear HA HW
    obtain ⟨k, hk, rfl, HO, HA, HW, Hb⟩ := hrel
    obtain ⟨AO, co, rfl⟩ := own_slice HO.out
    by_cases hlt : k < 5
    · have u1 : decide ((k : Int) < 5) = true := decide_eq_true (by omega)
      have ix := IX.out k hlt
      have HT := Lib.hid (take_more (parts_at o k hlt))
      have IT := Lib.hid (fun W hW => itoa_any (paI o k) W hW (paI_in HOI.out k))
      have e1 : IntKind.i64.wrap ((k : Int) + 1) = ((k + 1 : Nat) : Int) := by rw [show (((k + 1 : Nat) : Int)) = (k : Int) + 1 by omega]; exact IntWalk.i64_in _ (by omega)
      generalize paI o k = n at *
      obtain ⟨X, hX⟩ : ∃ X, Lib.itoa n = X := ⟨_, rfl⟩
      rw [hX] at IT HT
      clear hX IX
      go_wp2_with fail
      refine (IT.out _ (HE.out.keep (by rw [hp0]; exact HW.out))).mono ?_
      rintro e w5 ⟨rfl, hb⟩
      have HO5 := Lib.hid (own_keep HO.out hb)
      have HA5 := Lib.hid (HA.out.keep hb HA.out.lt)
      have HW5 := Lib.hid (HW.out.trans (hb.mono (by have := HW.out.size; omega)))
      have Hb5 := Lib.hid (Nat.le_trans Hb.out hb.size)
      clear hb HO HA HW Hb IT ix
      go_upto_region 7 with (at_builtin; refine app_str rfl (.tmp 28) (.tmp 31) rfl w5 B _ k (o.parts.take k) (bS X) X rfl rfl w5.heap.size rfl rfl HO5.out Hb5.out (by omega) ?_; intro v' w6 hown' hgrow hwh hbl)
      have HO6 : Hid (w6.ownsRow B 9 1 v' (k + 1) ((o.parts.take (k + 1)).map strV)) := Lib.hid (by rw [HT.out]; exact hown')
      have HL2 := Lib.hid (show p0 < B by have := HLT.out; have := HBB.out; omega)
      have HA6 := Lib.hid (HA5.out.keep hbl HL2.out)
      have HW6 := Lib.hid (HW5.out.trans (hbl.mono (by have := HL2.out; omega)))
      have Hb6 := Lib.hid (Nat.le_trans Hb5.out hbl.size)
      clear hown' hgrow hwh hbl HO5 HW5 HA5 Hb5 HT
      go_wp2_with fail
      go_roundw
      case rel => exact ⟨k + 1, by omega, by simp, HO6, HA6, HW6, Hb6⟩
      case measure => simp [intOf]; omega
    · obtain rfl : k = 5 := by omega
      have u1 : decide ((5 : Int) < 5) = false := rfl
      rw [show ((5 : Nat) : Int) = 5 from rfl]
      clear IX
      have hO := HO.out
      rw [show o.parts.take 5 = o.parts from rfl] at hO
      have SJ := Lib.hid (join_own 46 hO (by omega) (by omega) (fun x hx => Nat.le_trans (parts_len HOI.out x hx) (by omega)))
      clear hO
      have HD := Lib.hid (dots_len HOI.out)
      have HTX : Hid (o.txt = if o.wt = 0 then jn 46 o.parts else jn 46 o.parts ++ 58 :: Lib.itoa o.wt) := Lib.hid rfl
      have IT := Lib.hid (fun W hW => itoa_any o.wt W hW HOI.out.wt)
      have HL := Lib.hid (itoa_len o.wt HOI.out.wt)
      generalize jn 46 o.parts = JP at *
      generalize Lib.itoa o.wt = IW at *
      go_wp2_with fail
      refine SJ.out.mono ?_
      rintro e w5 ⟨rfl, hb⟩
      have HA5 := Lib.hid (HA.out.keep hb HA.out.lt)
      have HW5 := Lib.hid (HW.out.trans (hb.mono (by have := HW.out.size; omega)))
      clear hb HO HA HW Hb SJ
      have c5 := HA5.out.cell (j := 5) (v := .int .i64 o.wt) rfl
      by_cases hz : o.wt = 0
      · have z1 : (o.wt != 0) = false := by simp [hz]
        have HN : Hid (o.txt = JP) := Lib.hid (by rw [HTX.out, if_pos hz])
        clear hz
        go_wp2_with fail
        go_ret
        exact ⟨by rw [HN.out]; rfl, by rw [hp0]; exact HW5.out⟩
      · have z1 : (o.wt != 0) = true := by simp [hz]
        have HN : Hid (o.txt = JP ++ 58 :: IW) := Lib.hid (by rw [HTX.out, if_neg hz])
        clear hz
        go_wp2_with fail
        refine (IT.out _ (HE.out.keep (by rw [hp0]; exact HW5.out))).mono ?_
        rintro e w6 ⟨rfl, hb⟩
        have HW6 := Lib.hid (HW5.out.trans (hb.mono (by have := HW5.out.size; omega)))
        clear hb
        have hnx : Hid (bS JP ++ (⟨#[58]⟩ ++ bS IW) = bS o.txt) := Lib.hid (by
          rw [HN.out, show (⟨#[58]⟩ : ByteArray) = bS [58] from rfl, bS_app, bS_app]
          rfl)
        have hsx : (bS IW).size ≤ 21 := by rw [bS_size]; exact HL.out
        have hsy : (bS JP).size ≤ 110 := by rw [bS_size]; exact HD.out
        generalize bS IW = XS at *
        generalize bS JP = YS at *
        have q1 : ¬ 9223372036854775807 < 1 + XS.size := by omega
        have q2 : ¬ 9223372036854775807 < YS.size + (1 + XS.size) := by omega
        go_wp2_with fail
        go_ret
        exact ⟨by rw [← hnx.out]; rfl, by rw [hp0]; exact HW6.out⟩
end Go.Proofs.YtpkmibmombpjpaaGreatDoor
