/- The text of an entry. -/
import Derived.Test.YtpkmibmombpjpaaGreatDoorEU
import Derived.Test.YtpkmibmombpjpaaGreatDoorFlM
namespace Go.Proofs.YtpkmibmombpjpaaGreatDoor
open Go Go.RowKit

/-- append of some strings in a row. -/
theorem app_strs {ops : Array Oper} {rest : List Oper} {o : Oper} {a : Act} {Q : Exit → Act → World → Prop} (hgd : o.guard = none) (s x : Operand)
    (ho : o.op = .call { callee := .builtin .append, args := #[s, x], argTypes := #[59, 59] }) (W : World) (base : Nat) (v : Value) (n m b : Nat) (l C : List (List UInt8)) (cs : Array Value)
    (hs : a.eval s = v) (hx : a.eval x = .slice (some ⟨b, 0, none⟩) m m) (hown : W.ownsRow base 9 1 v n (l.map strV)) (hblk : Blk W b 9 cs) (hcs : cs = (C.map strV).toArray) (hm : C.length = m) (hb : base ≤ W.heap.size) (hn : n + m ≤ 100000)
    (h : ∀ v' w', w'.ownsRow base 9 1 v' (n + m) ((l ++ C).map strV) → Below base W w' → wpList Tryz.prog ops Q rest (a.put o.dst v') w') :
    wpList Tryz.prog ops Q (o :: rest) a W := by
  subst hcs
  obtain ⟨i0, hi0, hz0, hz1, hz2⟩ := info_parts_str
  refine appS hgd s x ho Tryz.underlying59 hi0 hz0 hz1 hz2 rfl (by decide) W base v n (l.map strV) hs hown _ m (C.map strV) hx (.some_ b 0 m m _ (by simp [hm]) (fun j u hj => by rw [Nat.zero_add]; exact hblk.cell (by simpa using hj))) (fun u hu => by
    obtain ⟨y, _, rfl⟩ := List.mem_map.1 hu
    rfl) (by omega) (by decide) hb (fun v' w' h1 _ _ h4 => ?_)
  refine h v' w' ?_ h4
  rw [List.map_append]
  exact h1
/-- Words so far. -/
structure TW (e : En) (w : World) (p0 B : Nat) (s : Value) (l : List (List UInt8)) (W : World) : Prop where
  own : W.ownsRow B 9 1 s l.length (l.map strV)
  blk : Blk W p0 34 (enC e)
  below : Below p0 w W
  base : B ≤ W.heap.size
  lt : p0 < B
theorem TW.keep {e : En} {w W W' : World} {p0 B : Nat} {s : Value} {l : List (List UInt8)} (h : TW e w p0 B s l W) (hb : Below W.heap.size W W') : TW e w p0 B s l W' :=
  ⟨own_keep h.own hb, h.blk.keep hb h.blk.lt, h.below.trans (hb.mono (by have := h.base; have := h.lt; omega)), Nat.le_trans h.base hb.size, h.lt⟩
theorem TW.app {e : En} {w W W' : World} {p0 B n : Nat} {s s' : Value} {l l' : List (List UInt8)} (h : TW e w p0 B s l W) (ho : W'.ownsRow B 9 1 s' n (l'.map strV)) (hn : l'.length = n) (hb : Below B W W') : TW e w p0 B s' l' W' :=
  ⟨by rw [hn]; exact ho, h.blk.keep hb h.lt, h.below.trans (hb.mono (by have := h.lt; omega)), Nat.le_trans h.base hb.size, h.lt⟩
theorem TW.slice {e : En} {w W : World} {p0 B : Nat} {s : Value} {l : List (List UInt8)} (h : TW e w p0 B s l W) : ∃ A c, s = .slice A l.length c := own_slice h.own
def keyI (e : En) (k : Nat) : Int := if k = 0 then e.rd else if k = 1 then e.tb else if k = 2 then e.bd else e.vs
def key4 (e : En) : List (List UInt8) := [Lib.itoa e.rd, Lib.itoa e.tb, Lib.itoa e.bd, Lib.itoa e.vs]
theorem ix_key (e : En) (k : Nat) (hk : k < 4) (w : World) : (Instr.index 101 (.agg #[.int .i64 e.rd, .int .i64 e.tb, .int .i64 e.bd, .int .i64 e.vs]) (.int .i64 (k : Int))).run Tryz.prog w = .ok (.int .i64 (keyI e k)) w := by
  rcases (by omega : k = 0 ∨ k = 1 ∨ k = 2 ∨ k = 3) with rfl | rfl | rfl | rfl
  · show _ = Result.ok (Value.int .i64 e.rd) w
    kernel_rfl
  · show _ = Result.ok (Value.int .i64 e.tb) w
    kernel_rfl
  · show _ = Result.ok (Value.int .i64 e.bd) w
    kernel_rfl
  · show _ = Result.ok (Value.int .i64 e.vs) w
    kernel_rfl
theorem key_at (e : En) (k : Nat) (hk : k < 4) : (key4 e)[k]? = some (Lib.itoa (keyI e k)) := by
  rcases (by omega : k = 0 ∨ k = 1 ∨ k = 2 ∨ k = 3) with rfl | rfl | rfl | rfl <;> rfl
theorem keyI_in {e : En} (h : e.In) (k : Nat) : inI (keyI e k) := by
  unfold keyI
  split
  · exact h.rd
  · split
    · exact h.tb
    · split
      · exact h.bd
      · exact h.vs
attribute [irreducible] keyI
def textV (e : En) : Value := if rightE e then .tuple #[.string (bS e.txt), .int .i64 0] else .tuple #[.string ⟨#[]⟩, .int .i64 313]
theorem textV_t {e : En} (h : rightE e = true) : textV e = .tuple #[.string (bS e.txt), .int .i64 0] := by unfold textV; rw [h]; rfl
theorem textV_f {e : En} (h : rightE e = false) : textV e = .tuple #[.string ⟨#[]⟩, .int .i64 313] := by unfold textV; rw [h]; rfl
attribute [irreducible] textV
theorem txt_len {o : Ou} (h : o.In) : o.txt.length ≤ 140 := by
  have h1 := dots_len h
  have h2 := itoa_len o.wt h.wt
  unfold Ou.txt
  split
  · omega
  · rw [List.length_append, List.length_cons]; omega
theorem word_len (e : En) (h : e.In) : ∀ x ∈ e.words, x.length ≤ 140 := by
  intro x hx
  unfold En.words En.head at hx
  have kl : ∀ k, (kindW k).length ≤ 140 := by
    intro k
    unfold kindW
    repeat' split
    all_goals decide
  have fl : inI (e.fd : Int) := ⟨by omega, by have := h.fd; omega⟩
  simp only [List.mem_append, List.mem_cons, List.not_mem_nil, or_false] at hx
  rcases hx with (rfl | rfl | rfl | rfl | rfl) | hx | hx | hx
  · have := itoa_len _ h.rd; omega
  · have := itoa_len _ h.tb; omega
  · have := itoa_len _ h.bd; omega
  · have := itoa_len _ h.vs; omega
  · exact kl _
  · split at hx
    · simp at hx
    · simp only [List.mem_cons, List.not_mem_nil, or_false] at hx
      rcases hx with rfl | rfl
      · have := itoa_len _ fl; omega
      · cases e.tn <;> decide
  · obtain ⟨o, ho, rfl⟩ := List.mem_map.1 hx
    exact txt_len (outs_in h o (List.mem_of_mem_take ho))
  · split at hx
    · simp only [List.mem_cons, List.not_mem_nil, or_false] at hx
      rcases hx with rfl | rfl
      · have := itoa_len _ h.a0; omega
      · have := itoa_len _ h.a1; omega
    · simp at hx
set_option maxRecDepth 100000 in
set_option maxHeartbeats 4000000 in
theorem text_any (e : En) (hi : e.In) (w : World) (he : Env w) : Calls Tryz.prog 27 #[.agg (enC e)] w (fun r w' => r = .returned (textV e) ∧ Below w.heap.size w w') := by
  have HE := Lib.hid he
  have HI := Lib.hid hi
  have RA := Lib.hid (fun W => right_any e hi W)
  clear he hi
  go_enter Tryz.func27, Tryz.ntmps27
  go_upto_region 1 with fail
  have HA := Lib.hid (Blk.new w 34 (enC e))
  have HW := Lib.hid (below1 w (.cells (enC e) 34))
  generalize w.alloc (.cells (enC e) 34) = W1 at *
  generalize hp0 : w.heap.size = p0 at *
  have la := loadAt_blk (T := 34) HA.out Tryz.underlying34 rfl (by rw [enC_size]; kernel_rfl)
  rcases hr : rightE e with _ | _
  · rw [hr] at RA
    have HX := Lib.hid (textV_f hr)
    clear hr
    go_wp2_with (refine op_load (p := .pointer (some ⟨p0, 0, none⟩)) 34 (.tmp 1) rfl rfl rfl la ?_)
    refine (RA.out _).mono ?_
    rintro e' w1 ⟨rfl, hb⟩
    have HW2 := Lib.hid (HW.out.trans (hb.mono (by have := HW.out.size; omega)))
    clear hb la
    go_wp2_with fail
    go_ret2
    exact ⟨by rw [HX.out]; rfl, by rw [hp0]; exact HW2.out⟩
  rw [hr] at RA
  have HX := Lib.hid (textV_t hr)
  have HRT := Lib.hid hr
  have hrp := right_parts hr
  have hnk := num_kind hr
  have HK4 := Lib.hid hrp.1
  have HUB := Lib.hid hrp.2.2.1
  have HNK := Lib.hid hnk
  have UA := Lib.hid (fun W => used_any e W)
  rw [HUB.out] at UA
  obtain ⟨n, hn⟩ : ∃ n, e.num = n := ⟨_, rfl⟩
  have hn' : (usedP e).1 = n := hn
  rw [hn'] at UA
  rw [hn] at HNK
  have HN := Lib.hid hn
  have IX := Lib.hid (ix_key e)
  clear hr hrp hnk hn hn'
  go_wp2_with (refine op_load (p := .pointer (some ⟨p0, 0, none⟩)) 34 (.tmp 1) rfl rfl rfl la ?_)
  refine (RA.out _).mono ?_
  rintro e' w1 ⟨rfl, hb⟩
  have HA2 := Lib.hid (HA.out.keep hb HA.out.lt)
  have HW2 := Lib.hid (HW.out.trans (hb.mono (by have := HW.out.size; omega)))
  clear hb la HA HW RA
  obtain ⟨B, hB⟩ : ∃ B, w1.heap.size = B := ⟨_, rfl⟩
  have HT0 : Hid (TW e w p0 B (.slice none 0 0) ((key4 e).take 0) w1) := Lib.hid ⟨own_nil _ _ _, HA2.out, HW2.out, by rw [hB]; exact Nat.le_refl _, by rw [← hB]; exact HA2.out.lt⟩
  have y0 := HA2.out.cell (enC_rd e)
  have y1 := HA2.out.cell (enC_tb e)
  have y2 := HA2.out.cell (enC_bd e)
  have y3 := HA2.out.cell (enC_vs e)
  clear HA2 HW2 hB
  go_wp2_with fail
  clear y0 y1 y2 y3
  go_loopw [4, 24] (fun s4 s24 wr => ∃ k : Nat, k ≤ 4 ∧ s24 = .int .i64 (k : Int) ∧ Hid (TW e w p0 B s4 ((key4 e).take k) wr)) (fun _ s24 _ => 4 - (intOf s24).toNat)
  case atStart => exact ⟨0, by omega, rfl, HT0⟩
  case round =>
    clear HT0
    obtain ⟨k, hk, rfl, HT⟩ := hrel
    obtain ⟨AO, co, rfl⟩ := HT.out.slice
    have hlk : ((key4 e).take k).length = k := by rw [List.length_take]; show min k 4 = k; omega
    rw [hlk]
    by_cases hlt : k < 4
    · have u1 : decide ((k : Int) < 4) = true := decide_eq_true (by omega)
      have ix := IX.out k hlt
      have HM := Lib.hid (take_more (key_at e k hlt))
      have IT := Lib.hid (fun W hW => itoa_any (keyI e k) W hW (keyI_in HI.out k))
      have e1 : IntKind.i64.wrap ((k : Int) + 1) = ((k + 1 : Nat) : Int) := by rw [show (((k + 1 : Nat) : Int)) = (k : Int) + 1 by omega]; exact IntWalk.i64_in _ (by omega)
      generalize keyI e k = q at *
      obtain ⟨X, hX⟩ : ∃ X, Lib.itoa q = X := ⟨_, rfl⟩
      rw [hX] at IT HM
      have HLK := Lib.hid hlk
      clear hX IX hlk
      go_wp2_with fail
      refine (IT.out _ (HE.out.keep (by rw [hp0]; exact HT.out.below))).mono ?_
      rintro e' w5 ⟨rfl, hb⟩
      have HT5 := Lib.hid (HT.out.keep hb)
      have HO5 : Hid (w5.ownsRow B 9 1 (.slice AO k co) k (((key4 e).take k).map strV)) := Lib.hid (by have := HT5.out.own; rwa [HLK.out] at this)
      clear hb HT IT ix
      go_upto_region 8 with (at_builtin; refine app_str rfl (.tmp 27) (.tmp 30) rfl w5 B _ k ((key4 e).take k) (bS X) X rfl rfl w5.heap.size rfl rfl HO5.out HT5.out.base (by omega) ?_; intro v' w6 hown' hgrow hwh hbl)
      have HT6 : Hid (TW e w p0 B v' ((key4 e).take (k + 1)) w6) := Lib.hid (HT5.out.app (by rw [HM.out]; exact hown') (by rw [HM.out, List.length_append, HLK.out]; rfl) hbl)
      clear hown' hgrow hwh hbl HO5 HT5 HM
      go_wp2_with fail
      go_roundw
      case rel => exact ⟨k + 1, by omega, by simp, HT6⟩
      case measure => simp [intOf]; omega
    · obtain rfl : k = 4 := by omega
      have u1 : decide ((4 : Int) < 4) = false := rfl
      rw [show ((4 : Nat) : Int) = 4 from rfl]
      rw [show (key4 e).take 4 = key4 e from rfl] at HT hlk
      have KW := Lib.hid (fun W => kindWord_any e.kd HK4.out W)
      have x4 := HT.out.blk.cell (enC_kd e)
      obtain ⟨KD, hKD⟩ : ∃ KD, kindW e.kd = KD := ⟨_, rfl⟩
      have HKD := Lib.hid hKD
      rw [hKD] at KW
      clear hKD
      generalize hkd : e.kd = kd at *
      clear IX
      go_wp2_with fail
      refine (KW.out _).mono ?_
      rintro e' w5 ⟨rfl, hb⟩
      have HT5 := Lib.hid (HT.out.keep hb)
      clear hb HT KW x4
      go_upto_region 10 with (at_builtin; refine app_str rfl (.tmp 33) (.tmp 37) rfl w5 B _ 4 (key4 e) (bS KD) KD rfl rfl w5.heap.size rfl rfl HT5.out.own HT5.out.base (by omega) ?_; intro v' w6 hown' hgrow hwh hbl)
      obtain ⟨mid, hmid⟩ : ∃ mid, (if n = 0 then ([] : List (List UInt8)) else [Lib.itoa (e.fd : Int), wayW e.tn]) = mid := ⟨_, rfl⟩
      have HMID := Lib.hid hmid
      have HT6 : Hid (TW e w p0 B v' (key4 e ++ [KD]) w6) := Lib.hid (HT5.out.app hown' rfl hbl)
      clear hown' hgrow hwh hbl HT5
      obtain ⟨A6, c6, hv6⟩ := HT6.out.slice
      have hl5 : (key4 e ++ [KD]).length = 5 := rfl
      rw [hl5] at hv6
      subst hv6
      have lb := loadAt_blk (T := 34) HT6.out.blk Tryz.underlying34 rfl (by rw [enC_size]; kernel_rfl)
      go_wp2_with (refine op_load (p := .pointer (some ⟨p0, 0, none⟩)) 34 (.tmp 1) rfl rfl rfl lb ?_)
      refine (UA.out _).mono ?_
      rintro e' w7 ⟨rfl, hb⟩
      have HT7 := Lib.hid (HT6.out.keep hb)
      clear hb lb HT6 UA
      go_upto_if 45 with fail
      go_cut [4] (fun s4 wx => Hid (TW e w p0 B s4 (key4 e ++ [KD] ++ mid) wx))
      case first =>
        by_cases hn0 : n = 0
        · have t0 : decide ((0 : Int) < (n : Int)) = false := decide_eq_false (by omega)
          have t0b : decide (0 < n) = false := decide_eq_false (by omega)
          have hX : mid = [] := by rw [← hmid, if_pos hn0]
          subst hX
          clear hn0 hmid
          rw [t0b]
          go_wp2_with fail
          go_meet
          exact Lib.hid (by rw [List.append_nil]; exact HT7.out)
        · have t0 : decide ((0 : Int) < (n : Int)) = true := decide_eq_true (by omega)
          have t0b : decide (0 < n) = true := decide_eq_true (by omega)
          rw [if_neg hn0] at hmid
          have x6 := HT7.out.blk.cell (enC_tn e)
          have x5 := HT7.out.blk.cell (enC_fd e)
          have k1 : IntKind.i64.wrap (e.fd : Int) = (e.fd : Int) := IntWalk.i64_in _ (by have := HI.out.fd; omega)
          have IT := Lib.hid (fun W hW => itoa_any (e.fd : Int) W hW ⟨by omega, by have := HI.out.fd; omega⟩)
          generalize (e.fd : Int) = fd at *
          generalize Lib.itoa fd = FD at *
          clear hn0 HMID
          rw [t0b]
          rcases htn : e.tn with _ | _
          · rw [htn] at x6 hmid
            subst hmid
            clear htn
            go_wp2_with fail
            refine (IT.out _ (HE.out.keep (by rw [hp0]; exact HT7.out.below))).mono ?_
            rintro e' w8 ⟨rfl, hb⟩
            have HT8 := Lib.hid ((HT7.out.keep hb).keep (below1 w8 (.cells #[.string (bS FD), .string ⟨#[115, 116, 114, 97, 105, 103, 104, 116]⟩] 9)))
            have HB8 := Lib.hid (Blk.new w8 9 #[.string (bS FD), .string ⟨#[115, 116, 114, 97, 105, 103, 104, 116]⟩])
            clear hb HT7 IT x5 x6
            go_wp2_with (at_builtin; refine app_strs rfl (.tmp 48) (.tmp 54) rfl _ B _ 5 2 w8.heap.size (key4 e ++ [KD]) [FD, wayW false] _ rfl rfl HT8.out.own HB8.out rfl rfl HT8.out.base (by omega) ?_; intro v9 w9 hown9 hbl9)
            go_meet
            exact Lib.hid (HT8.out.app hown9 rfl hbl9)
          · rw [htn] at x6 hmid
            subst hmid
            clear htn
            go_wp2_with fail
            refine (IT.out _ (HE.out.keep (by rw [hp0]; exact HT7.out.below))).mono ?_
            rintro e' w8 ⟨rfl, hb⟩
            have HT8 := Lib.hid ((HT7.out.keep hb).keep (below1 w8 (.cells #[.string (bS FD), .string ⟨#[116, 117, 114, 110, 101, 100]⟩] 9)))
            have HB8 := Lib.hid (Blk.new w8 9 #[.string (bS FD), .string ⟨#[116, 117, 114, 110, 101, 100]⟩])
            clear hb HT7 IT x5 x6
            go_wp2_with (at_builtin; refine app_strs rfl (.tmp 48) (.tmp 54) rfl _ B _ 5 2 w8.heap.size (key4 e ++ [KD]) [FD, wayW true] _ rfl rfl HT8.out.own HB8.out rfl rfl HT8.out.base (by omega) ?_; intro v9 w9 hown9 hbl9)
            go_meet
            exact Lib.hid (HT8.out.app hown9 rfl hbl9)
      case rest =>
        have HT8 := hcut
        clear hcut HT7 hmid hl5
        obtain ⟨L8, hL8⟩ : ∃ L8, key4 e ++ [KD] ++ mid = L8 := ⟨_, rfl⟩
        have HL8 := Lib.hid hL8
        rw [hL8] at HT8
        have hm8 : L8.length ≤ 7 := by
          rw [← hL8, ← HMID.out]
          split <;> simp [key4]
        clear hL8
        have sl : ∀ W, (Instr.sliceAt 31 (.pointer (some ⟨p0, 7, none⟩)) none (some (.int .i64 (n : Int))) none).run Tryz.prog W = .ok (.slice (some ⟨p0, 7, none⟩) n 4) W := fun W =>
          slice_hi (T := 31) (b := p0) (off := 7) (q := n) Tryz.underlying31 (size := 6) (fun w => by kernel_rfl) (by have := HNK.out; omega) W
        have OT := Lib.hid (fun (o : Ou) (ho : o.In) W hW => outText_any o ho W hW)
        have hn4 := HNK.out.2.2.2.2
        go_wp2_with fail
        clear sl
        go_loopw [4, 60] (fun s4 s60 wr => ∃ k : Nat, k ≤ n ∧ s60 = .int .i64 (k : Int) ∧ Hid (TW e w p0 B s4 (L8 ++ (e.outs.take k).map Ou.txt) wr)) (fun _ s60 _ => n - (intOf s60).toNat)
        case atStart => exact ⟨0, by omega, rfl, Lib.hid (by simpa using HT8.out)⟩
        case round =>
          clear HT8
          obtain ⟨k, hk, rfl, HT⟩ := hrel
          obtain ⟨AO, co, rfl⟩ := HT.out.slice
          by_cases hlt : k < n
          · have u1 : decide ((k : Int) < (n : Int)) = true := decide_eq_true (by omega)
            obtain ⟨c0, c1, c2, c3, c4, c5⟩ := ou_cells HT.out.blk k (by omega)
            have i1 : (0 : Int) ≤ (k : Int) := by omega
            have i2 : (k : Int) < (n : Int) := by omega
            have HM := Lib.hid (take_more (e.ou_at k (by omega)))
            have hoi : (e.ou k).In := outs_in HI.out _ (List.mem_of_getElem? (e.ou_at k (by omega)))
            have OT0 := Lib.hid (fun W hW => OT.out (e.ou k) hoi W hW)
            have e1 : IntKind.i64.wrap ((k : Int) + 1) = ((k + 1 : Nat) : Int) := by rw [show (((k + 1 : Nat) : Int)) = (k : Int) + 1 by omega]; exact IntWalk.i64_in _ (by omega)
            obtain ⟨LK, hLK⟩ : ∃ LK, L8 ++ (e.outs.take k).map Ou.txt = LK := ⟨_, rfl⟩
            have HLK : Hid (LK = L8 ++ (e.outs.take k).map Ou.txt) := Lib.hid hLK.symm
            rw [hLK] at HT ⊢
            have hlen : LK.length ≤ 11 := by rw [← hLK, List.length_append, List.length_map, List.length_take]; omega
            have HLE := Lib.hid hlen
            clear hLK hoi hlen hm8 hn4
            generalize e.ou k = o at *
            go_upto_region 19 with fail
            have HO := Lib.hid (Blk.new wr 30 #[.int .u8 (o.lv : Int), .int .u8 (o.dn : Int), .int .u8 (o.rk : Int), .int .u8 (o.dc : Int), .int .i64 o.tr, .int .i64 o.wt])
            have HT2 := Lib.hid (HT.out.keep (below1 wr (.cells #[.int .u8 (o.lv : Int), .int .u8 (o.dn : Int), .int .u8 (o.rk : Int), .int .u8 (o.dc : Int), .int .i64 o.tr, .int .i64 o.wt] 30)))
            clear HT c0 c1 c2 c3 c4 c5 i1 i2 OT
            generalize wr.alloc (.cells #[.int .u8 (o.lv : Int), .int .u8 (o.dn : Int), .int .u8 (o.rk : Int), .int .u8 (o.dc : Int), .int .i64 o.tr, .int .i64 o.wt] 30) = W2 at *
            generalize wr.heap.size = p8 at *
            have lo := loadAt_blk (T := 30) HO.out Tryz.underlying30 rfl (by kernel_rfl)
            go_wp2_with (refine op_load (p := .pointer (some ⟨p8, 0, none⟩)) 30 (.tmp 11) rfl rfl rfl lo ?_)
            refine (OT0.out _ (HE.out.keep (by rw [hp0]; exact HT2.out.below))).mono ?_
            rintro e' w5 ⟨rfl, hb⟩
            have HT5 := Lib.hid (HT2.out.keep hb)
            clear hb HT2 OT0 lo HO
            go_upto_region 20 with (at_builtin; refine app_str rfl (.tmp 64) (.tmp 67) rfl w5 B _ LK.length LK (bS o.txt) o.txt rfl rfl w5.heap.size rfl rfl HT5.out.own HT5.out.base (by have := HLE.out; omega) ?_; intro v' w6 hown' hgrow hwh hbl)
            have hLK1 : L8 ++ (e.outs.take (k + 1)).map Ou.txt = LK ++ [o.txt] := by rw [HM.out, List.map_append, ← List.append_assoc, ← HLK.out]; rfl
            have HT6 : Hid (TW e w p0 B v' (L8 ++ (e.outs.take (k + 1)).map Ou.txt) w6) := Lib.hid (HT5.out.app (by rw [hLK1]; exact hown') (by rw [hLK1, List.length_append]; rfl) hbl)
            clear hLK1
            clear hown' hgrow hwh hbl HT5 HM
            go_wp2_with fail
            go_roundw
            case rel => exact ⟨k + 1, by omega, by simp, HT6⟩
            case measure => simp [intOf]; omega
          · obtain rfl : k = n := by omega
            have u1 : decide ((k : Int) < (k : Int)) = false := decide_eq_false (by omega)
            obtain ⟨L9, hL9⟩ : ∃ L9, L8 ++ (e.outs.take k).map Ou.txt = L9 := ⟨_, rfl⟩
            have HL9 := Lib.hid hL9
            rw [hL9] at HT ⊢
            have hlen : L9.length ≤ 11 := by rw [← hL9, List.length_append, List.length_map, List.length_take]; omega
            have HLE := Lib.hid hlen
            clear hL9 hlen hm8 hn4 OT
            have x4 := HT.out.blk.cell (enC_kd e)
            rw [hkd] at x4
            go_upto_if 72 with fail
            obtain ⟨aw, haw⟩ : ∃ aw, (if kd = 4 then [Lib.itoa e.a0, Lib.itoa e.a1] else ([] : List (List UInt8))) = aw := ⟨_, rfl⟩
            have HAW := Lib.hid haw
            go_cut [4] (fun s4 wx => Hid (TW e w p0 B s4 (L9 ++ aw) wx))
            case first =>
              clear HAW HL9
              by_cases h4 : kd = 4
              · have t0 : ((kd : Int) == 4) = true := by simp [h4]
                rw [if_pos h4] at haw
                subst haw
                rw [t0]
                clear h4 x4
                go_wp2_with fail
                have ITA := Lib.hid (fun W hW => itoa_any e.a0 W hW HI.out.a0)
                have ITB := Lib.hid (fun W hW => itoa_any e.a1 W hW HI.out.a1)
                generalize Lib.itoa e.a0 = IA at *
                generalize Lib.itoa e.a1 = IB at *
                obtain ⟨W0, hW0⟩ : ∃ W0, wr.drew = W0 := ⟨_, rfl⟩
                have HT0 := Lib.hid (HT.out.keep (hW0 ▸ (Below.refl _ wr).drew))
                refine rest_begin (by kernel_rfl) ?_
                rw [hW0]
                clear hW0 HT
                refine rest_flow2 [some 73, some 74, some 75, some 76, some 77, some 78, some 79, some 80, some 81, some 82] [Sp.is (.slice AO L9.length co), Sp.is (.pointer (some ⟨p0, 31, none⟩)), Sp.is (.pointer (some ⟨p0, 31, none⟩)), Sp.is (.int .i64 e.a0), Sp.is (.string (bS IA)), Sp.is (.pointer (some ⟨p0, 31, none⟩)), Sp.is (.pointer (some ⟨p0, 32, none⟩)), Sp.is (.int .i64 e.a1), Sp.is (.string (bS IB)), Sp.row [.string (bS IA), .string (bS IB)]] 10 (by kernel_rfl) (by kernel_rfl) (fun u F hF => ?_) (fun u w' hbF hsF => ?_)
                case refine_1 =>
                  have E4 : F.eval (.tmp 4) = (.slice AO L9.length co) := (congrArg (fun a => Act.eval a (.tmp 4)) hF).trans (eval_out [some 73, some 74, some 75, some 76, some 77, some 78, some 79, some 80, some 81, some 82] 0 _ (by decide))
                  have E1 : F.eval (.tmp 1) = (.pointer (some ⟨p0, 0, none⟩)) := (congrArg (fun a => Act.eval a (.tmp 1)) hF).trans (eval_out [some 73, some 74, some 75, some 76, some 77, some 78, some 79, some 80, some 81, some 82] 0 _ (by decide))
                  have D74 : F.eval (.tmp 74) = u 1 := (congrArg (fun a => Act.eval a (.tmp 74)) hF).trans (eval_in [some 73, some 74, some 75, some 76, some 77, some 78, some 79, some 80, some 81, some 82] 0 1 _ (by decide) (by omega) rfl (of_decide_eq_true (by kernel_rfl)))
                  have D75 : F.eval (.tmp 75) = u 2 := (congrArg (fun a => Act.eval a (.tmp 75)) hF).trans (eval_in [some 73, some 74, some 75, some 76, some 77, some 78, some 79, some 80, some 81, some 82] 0 2 _ (by decide) (by omega) rfl (of_decide_eq_true (by kernel_rfl)))
                  have D76 : F.eval (.tmp 76) = u 3 := (congrArg (fun a => Act.eval a (.tmp 76)) hF).trans (eval_in [some 73, some 74, some 75, some 76, some 77, some 78, some 79, some 80, some 81, some 82] 0 3 _ (by decide) (by omega) rfl (of_decide_eq_true (by kernel_rfl)))
                  have D77 : F.eval (.tmp 77) = u 4 := (congrArg (fun a => Act.eval a (.tmp 77)) hF).trans (eval_in [some 73, some 74, some 75, some 76, some 77, some 78, some 79, some 80, some 81, some 82] 0 4 _ (by decide) (by omega) rfl (of_decide_eq_true (by kernel_rfl)))
                  have D78 : F.eval (.tmp 78) = u 5 := (congrArg (fun a => Act.eval a (.tmp 78)) hF).trans (eval_in [some 73, some 74, some 75, some 76, some 77, some 78, some 79, some 80, some 81, some 82] 0 5 _ (by decide) (by omega) rfl (of_decide_eq_true (by kernel_rfl)))
                  have D79 : F.eval (.tmp 79) = u 6 := (congrArg (fun a => Act.eval a (.tmp 79)) hF).trans (eval_in [some 73, some 74, some 75, some 76, some 77, some 78, some 79, some 80, some 81, some 82] 0 6 _ (by decide) (by omega) rfl (of_decide_eq_true (by kernel_rfl)))
                  have D80 : F.eval (.tmp 80) = u 7 := (congrArg (fun a => Act.eval a (.tmp 80)) hF).trans (eval_in [some 73, some 74, some 75, some 76, some 77, some 78, some 79, some 80, some 81, some 82] 0 7 _ (by decide) (by omega) rfl (of_decide_eq_true (by kernel_rfl)))
                  have D81 : F.eval (.tmp 81) = u 8 := (congrArg (fun a => Act.eval a (.tmp 81)) hF).trans (eval_in [some 73, some 74, some 75, some 76, some 77, some 78, some 79, some 80, some 81, some 82] 0 8 _ (by decide) (by omega) rfl (of_decide_eq_true (by kernel_rfl)))
                  clear hF
                  refine ⟨?_, ?_, ?_, ?_, ?_, ?_, ?_, ?_, ?_, ?_, trivial⟩
                  · intro w1 hb hd K hK
                    exact op_val (v := (.slice AO L9.length co)) rfl (by simp only [execOp, E4]; go_simp) (hK _ _ (show _ = _ from rfl) (Below.refl _ _))
                  · intro w1 hb hd K hK
                    exact op_val (v := (.pointer (some ⟨p0, 31, none⟩))) rfl (by simp only [execOp, E1]; go_simp) (hK _ _ (show _ = _ from rfl) (Below.refl _ _))
                  · intro w1 hb hd K hK
                    have e74 := D74.trans (show u 1 = (.pointer (some ⟨p0, 31, none⟩)) from hd ⟨1, .data⟩ (by simp) rfl (Nat.zero_le _))
                    exact op_val (v := (.pointer (some ⟨p0, 31, none⟩))) rfl (by simp only [execOp, e74]; go_simp) (hK _ _ (show _ = _ from rfl) (Below.refl _ _))
                  · intro w1 hb hd K hK
                    have e75 := D75.trans (show u 2 = (.pointer (some ⟨p0, 31, none⟩)) from hd ⟨2, .data⟩ (by simp) rfl (Nat.zero_le _))
                    have c0 : w1.cell? ⟨p0, 31, none⟩ = some (.int .i64 e.a0) := (HT0.out.keep hb).blk.cell (enC_a0 e)
                    exact op_val (v := (.int .i64 e.a0)) rfl (by simp only [execOp, e75]; go_simp) (hK _ _ (show _ = _ from rfl) (Below.refl _ _))
                  · intro w1 hb hd K hK
                    have e76 := D76.trans (show u 3 = (.int .i64 e.a0) from hd ⟨3, .data⟩ (by simp) rfl (Nat.zero_le _))
                    refine op_call (R := fun v w2 => v = (.string (bS IA)) ∧ Below w1.heap.size w1 w2) (f := 52) (args := #[.int .i64 e.a0]) rfl (by simp only [execOp]; go_simp; first | exact eval_get e76 | exact ⟨rfl, eval_get e76⟩ | exact ⟨eval_get e76, rfl⟩) ((ITA.out w1 (HE.out.keep (by rw [hp0]; exact (HT0.out.keep hb).below))).mono fun e w2 hh => ⟨_, hh.1, rfl, hh.2⟩) (fun v w2 hh => hK _ _ hh.1 hh.2)
                  · intro w1 hb hd K hK
                    exact op_val (v := (.pointer (some ⟨p0, 31, none⟩))) rfl (by simp only [execOp, E1]; go_simp) (hK _ _ (show _ = _ from rfl) (Below.refl _ _))
                  · intro w1 hb hd K hK
                    have e78 := D78.trans (show u 5 = (.pointer (some ⟨p0, 31, none⟩)) from hd ⟨5, .data⟩ (by simp) rfl (Nat.zero_le _))
                    exact op_val (v := (.pointer (some ⟨p0, 32, none⟩))) rfl (by simp only [execOp, e78]; go_simp) (hK _ _ (show _ = _ from rfl) (Below.refl _ _))
                  · intro w1 hb hd K hK
                    have e79 := D79.trans (show u 6 = (.pointer (some ⟨p0, 32, none⟩)) from hd ⟨6, .data⟩ (by simp) rfl (Nat.zero_le _))
                    have c0 : w1.cell? ⟨p0, 32, none⟩ = some (.int .i64 e.a1) := (HT0.out.keep hb).blk.cell (enC_a1 e)
                    exact op_val (v := (.int .i64 e.a1)) rfl (by simp only [execOp, e79]; go_simp) (hK _ _ (show _ = _ from rfl) (Below.refl _ _))
                  · intro w1 hb hd K hK
                    have e80 := D80.trans (show u 7 = (.int .i64 e.a1) from hd ⟨7, .data⟩ (by simp) rfl (Nat.zero_le _))
                    refine op_call (R := fun v w2 => v = (.string (bS IB)) ∧ Below w1.heap.size w1 w2) (f := 52) (args := #[.int .i64 e.a1]) rfl (by simp only [execOp]; go_simp; first | exact eval_get e80 | exact ⟨rfl, eval_get e80⟩ | exact ⟨eval_get e80, rfl⟩) ((ITB.out w1 (HE.out.keep (by rw [hp0]; exact (HT0.out.keep hb).below))).mono fun e w2 hh => ⟨_, hh.1, rfl, hh.2⟩) (fun v w2 hh => hK _ _ hh.1 hh.2)
                  · intro w1 hb hd K hK
                    have e77 := D77.trans (show u 4 = (.string (bS IA)) from hd ⟨4, .data⟩ (by simp) rfl (Nat.zero_le _))
                    have e81 := D81.trans (show u 8 = (.string (bS IB)) from hd ⟨8, .data⟩ (by simp) rfl (Nat.zero_le _))
                    exact op_val (v := .slice (some ⟨w1.heap.size, 0, none⟩) 2 2) (w' := w1.alloc (.cells #[.string (bS IA), .string (bS IB)] 9)) rfl (by simp only [execOp, List.map_toArray, List.map_cons, List.map_nil, e77, e81]; go_simp) (hK _ _ (Sp.row_new w1 9 [.string (bS IA), .string (bS IB)] 2 _ rfl rfl) (below1 _ _))
                have hv0 : u 0 = (.slice AO L9.length co) := (show u 0 = _ from hsF 0 (by omega) (by omega))
                have hv1 : u 1 = (.pointer (some ⟨p0, 31, none⟩)) := (show u 1 = _ from hsF 1 (by omega) (by omega))
                have hv2 : u 2 = (.pointer (some ⟨p0, 31, none⟩)) := (show u 2 = _ from hsF 2 (by omega) (by omega))
                have hv3 : u 3 = (.int .i64 e.a0) := (show u 3 = _ from hsF 3 (by omega) (by omega))
                have hv4 : u 4 = (.string (bS IA)) := (show u 4 = _ from hsF 4 (by omega) (by omega))
                have hv5 : u 5 = (.pointer (some ⟨p0, 31, none⟩)) := (show u 5 = _ from hsF 5 (by omega) (by omega))
                have hv6 : u 6 = (.pointer (some ⟨p0, 32, none⟩)) := (show u 6 = _ from hsF 6 (by omega) (by omega))
                have hv7 : u 7 = (.int .i64 e.a1) := (show u 7 = _ from hsF 7 (by omega) (by omega))
                have hv8 : u 8 = (.string (bS IB)) := (show u 8 = _ from hsF 8 (by omega) (by omega))
                obtain ⟨b9, hv9, hlt9, hc9⟩ := (show (Sp.row [.string (bS IA), .string (bS IB)]).p (u 9) w' from hsF 9 (by omega) (by omega))
                simp only [putRow, hv0, hv1, hv2, hv3, hv4, hv5, hv6, hv7, hv8, hv9, Act.put, List.setIfInBounds_toArray, List.set_cons_succ, List.set_cons_zero]
                clear hsF hv0 hv1 hv2 hv3 hv4 hv5 hv6 hv7 hv8 hv9
                have HT1 := Lib.hid (HT0.out.keep hbF)
                have HSR : Hid (SrcR w' 1 (.slice (some ⟨b9, 0, none⟩) 2 2) 2 [.string (bS IA), .string (bS IB)]) := Lib.hid (.some_ b9 0 2 2 _ rfl (fun j x hj => by rw [Nat.zero_add]; exact hc9 j x hj))
                clear hbF hc9 hlt9 HT0 ITA ITB
                refine rest_forced 2 (by kernel_rfl) ?_
                simp only [List.drop_succ_cons, List.drop_zero, List.take_succ_cons, List.take_zero]
                obtain ⟨i0, hi0, hz0, hz1, hz2⟩ := info_parts_str
                refine appS rfl (.tmp 73) (.tmp 82) rfl Tryz.underlying59 hi0 hz0 hz1 hz2 rfl (by decide) w' B _ L9.length (L9.map strV) rfl HT1.out.own _ 2 [.string (bS IA), .string (bS IB)] rfl HSR.out (fun u hu => by
                  simp only [List.mem_cons, List.not_mem_nil, or_false] at hu
                  rcases hu with rfl | rfl <;> rfl) (by have := HLE.out; omega) (by decide) HT1.out.base ?_
                intro v9 w9 hown9 hgrow9 hwh9 hbl9
                go_wp2_with fail
                refine rest_done (by kernel_rfl) ?_
                go_wp2_with fail
                go_meet
                exact Lib.hid (HT1.out.app (by rw [List.map_append]; exact hown9) (by rw [List.length_append]; rfl) hbl9)
              · have t0 : ((kd : Int) == 4) = false := by simp; omega
                rw [if_neg h4] at haw
                subst haw
                rw [t0]
                clear h4 x4
                go_wp2_with fail
                go_meet
                exact Lib.hid (by rw [List.append_nil]; exact HT.out)
            case rest =>
              have HT9 := hcut
              clear hcut HT x4 haw
              have HWD : Hid (L9 ++ aw = e.words) := Lib.hid (by
                rw [← HL9.out, ← HL8.out, ← HMID.out, ← HAW.out]
                unfold En.words En.head
                have hK := HKD.out
                rw [hkd]
                rw [hK, HN.out]
                simp [key4])
              rw [HWD.out] at HT9
              have hW := HT9.out.own
              have SJ := Lib.hid (join_own 32 hW (by have := words_len e HRT.out; omega) (by have := words_len e HRT.out; omega) (fun x hx => Nat.le_trans (word_len e HI.out x hx) (by omega)))
              obtain ⟨AO9, c9, rfl⟩ := HT9.out.slice
              clear hW
              go_wp2_with fail
              refine SJ.out.mono ?_
              rintro e' w9 ⟨rfl, hb⟩
              have HT10 := Lib.hid (HT9.out.keep hb)
              clear hb SJ HT9
              go_wp2_with fail
              go_ret2
              exact ⟨by rw [HX.out, show e.txt = jn 32 e.words from (jn_sp _).symm]; rfl, by rw [hp0]; exact HT10.out.below⟩
end Go.Proofs.YtpkmibmombpjpaaGreatDoor
