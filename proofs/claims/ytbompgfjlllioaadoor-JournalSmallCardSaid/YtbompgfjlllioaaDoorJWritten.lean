/- written: the log of records, and the length up to each of them. -/
import Derived.Test.YtbompgfjlllioaaDoorJTexts
import Derived.Test.YtbompgfjlllioaaDoorJAwake
import Derived.Deep.RegionHeld3
namespace Go.Proofs.YtbompgfjlllioaaDoor
open Go Go.RowKit

def iv (x : Nat) : Value := .int .i64 (x : Int)
theorem info_int : (Tryd.prog.info? 3).map (fun i => (i.zero, i.size, i.bytes)) = some (some (.int .i64 0), 1, 8) := by kernel_rfl
theorem endsA_take (l : List (List UInt8)) (k : Nat) (h : k < l.length) : endsA (l.take (k + 1)) = endsA (l.take k) ++ [sizeA (l.take (k + 1))] := by
  unfold endsA
  have h1 : (l.take (k + 1)).length = k + 1 := by simp; omega
  have h2 : (l.take k).length = k := by simp; omega
  rw [h1, h2, List.range_succ, List.map_append]
  congr 1
  · refine List.map_congr_left fun i hi => ?_
    have := List.mem_range.1 hi
    rw [List.take_take, List.take_take, Nat.min_eq_left (by omega), Nat.min_eq_left (by omega)]
  · show [sizeA ((l.take (k + 1)).take (k + 1))] = _
    rw [List.take_take, Nat.min_self]
theorem endsA_at (l : List (List UInt8)) (i : Nat) (h : i < l.length) : (endsA l)[i]? = some (sizeA (l.take (i + 1))) := by
  unfold endsA
  rw [List.getElem?_map, List.getElem?_range h]; rfl
theorem endsA_len (l : List (List UInt8)) : (endsA l).length = l.length := by unfold endsA; simp
section
variable {w : World} {B lp dp : Nat} {bs : List UInt8} {pow : Int} {recs : List (List UInt8)} {last size : Int} {closed : Bool} {dv rv bv : Value}
theorem own_apart {w' : World} {e e2 n1 n2 : Nat} {v1 v2 : Value} {xs1 xs2 : List Value} (h : w.ownsRow B e 1 v1 n1 xs1) (k : w.ownsRow B e2 1 v2 n2 xs2) (hne : e ≠ e2) (hg : w.grownBy w' v2.ownBlock) : w'.ownsRow B e 1 v1 n1 xs1 := by
  refine h.kept hg ?_
  rcases h.2 with ⟨rfl, _⟩ | ⟨g, cap, cur, rfl, _, hgb, _⟩
  · exact .inl rfl
  · refine .inr fun e' => row_ne k hgb hne ?_
    simp only [Value.ownBlock] at e' ⊢
    rw [← e']; simp
/-- A log when a row of another type has grown. -/
theorem LG.foreign (h : LG w B lp dp bs pow recs last size closed dv rv bv) {v : Value} {n : Nat} {xs : List Value} (k : w.ownsRow B 3 1 v n xs) {w' : World} (hg : w.grownBy w' v.ownBlock) : LG w' B lp dp bs pow recs last size closed dv rv bv := by
  have hf : Fr v.ownBlock.toList w w' := Fr.of_grown hg (fun x hx => by rw [hx]; simp)
  refine ⟨blk_grown k h.disk (by decide) hg, blk_grown k h.log (by decide) hg, h.bytes.fr hf fun x hx => ?_, own_apart h.rows k (by decide) hg, ?_, h.bl, h.bd⟩
  · have hv := h.bytes
    cases hv with
    | none_ => simp [Value.ownBlock] at hx
    | some_ g cap l cur hcap hB hg hc =>
      obtain rfl : g = x := by simpa [Value.ownBlock] using hx
      exact row_ne k hg (by decide)
  · obtain ⟨n2, xs2, hb⟩ := h.buf
    exact ⟨n2, xs2, own_apart hb k (by decide) hg⟩
/-- A row of integers when the log has written. -/
theorem row_kept (h : LG w B lp dp bs pow recs last size closed dv rv bv) {v : Value} {n : Nat} {xs : List Value} (k : w.ownsRow B 3 1 v n xs) {w' : World} (hf : Fr (OL lp dp rv bv) w w') : w'.ownsRow B 3 1 v n xs := by
  refine own_fr k hf fun x hx hm => ?_
  rcases k.2 with ⟨rfl, _⟩ | ⟨g, cap, cur, rfl, _, hg, _⟩
  · simp [Value.ownBlock] at hx
  · obtain rfl : g = x := by simpa [Value.ownBlock] using hx
    simp only [OL, List.mem_cons, List.mem_append] at hm
    rcases hm with rfl | rfl | hm | hm
    · have := (show w.heap[g]? = _ from h.log).symm.trans hg; simp at this
    · have := (show w.heap[g]? = _ from h.disk).symm.trans hg; simp at this
    · exact row_ne h.rows hg (by decide) hm
    · obtain ⟨n2, xs2, hb⟩ := h.buf; exact row_ne hb hg (by decide) hm
end
/-- The state of written behind k records. -/
structure WS (w wr : World) (lp dp : Nat) (l : List (List UInt8)) (ev : Value) : Prop where
  log : ∃ dv rv bv, LG wr w.heap.size lp dp (logA 1 l) (-1) l (lastA 1 l : Nat) (sizeA l : Nat) false dv rv bv
  ends : wr.ownsRow w.heap.size 3 1 ev l.length ((endsA l).map iv)
  below : Below w.heap.size w wr
theorem same_self (v1 v2 : Value) (l : List (List UInt8)) (hs : l.length ≤ 10000000) (w : World) (h1 : RS w v1 l) (h2 : RS w v2 l) : Calls Tryd.prog 15 #[v1, v2] w (fun e w' => e = .returned (.bool true) ∧ Below w.heap.size w w') := by
  have h := same_any v1 v2 l l hs w h1 h2
  rwa [beq_self_eq_true] at h
theorem records_len (lp dp : Nat) (rv bv : Value) (last size : Int) (closed : Bool) (l : List (List UInt8)) (hs : l.length ≤ 10000000) (w : World) (h : PL w lp dp rv last size closed bv) (hr : RS w rv l) :
    Calls Tryd.prog 16 #[.pointer (some ⟨lp, 0, none⟩)] w (fun e w' => ∃ A c, e = .returned (.slice A l.length c) ∧ RS w' (.slice A l.length c) l ∧ Below w.heap.size w w') := by
  refine (records_any lp dp rv bv last size closed l hs w h hr).mono ?_
  rintro e w' ⟨v', rfl, hrs, hb⟩
  obtain ⟨A, c, rfl⟩ := hrs.len
  exact ⟨A, c, rfl, hrs, hb⟩
def RetWr (l : List (List UInt8)) (w : World) (e : Ending) (w' : World) : Prop :=
  ∃ dv ev, e = .returned (.tuple #[dv, ev, .bool true]) ∧ DV w' w.heap.size dv (logA 1 l) ∧ w'.ownsRow w.heap.size 3 1 ev l.length ((endsA l).map iv) ∧ Below w.heap.size w w'
/-- Append of one more record, power without end. -/
theorem append_ok {w wr : World} {lp dp : Nat} {l : List (List UInt8)} {ev : Value} (h : WS w wr lp dp l ev) (he : Env wr) (s : ByteArray) (hr : rightL s.data.toList = true) (hsz : sizeA l ≤ 6000) (hl : l.length ≤ 60) :
    Calls Tryd.prog 14 #[.pointer (some ⟨lp, 0, none⟩), .string s] wr (fun e w' => e = .returned (.int .i64 0) ∧ (∃ dv rv bv, LG w' w.heap.size lp dp (logA 1 (l ++ [s.data.toList])) (-1) (l ++ [s.data.toList]) (lastA 1 (l ++ [s.data.toList]) : Nat) (sizeA (l ++ [s.data.toList]) : Nat) false dv rv bv) ∧ w'.ownsRow w.heap.size 3 1 ev l.length ((endsA l).map iv) ∧ Below w.heap.size w w') := by
  obtain ⟨dv, rv, bv, hlg⟩ := h.log
  have hs : s.size ≤ 200 := by have := rightL_len hr; rwa [str_len] at this
  have hw : wrP (-1) (s.size + 6) = s.size + 6 := rfl
  have hp : powP (-1) (s.size + 6) = -1 := rfl
  refine (append_main w.heap.size lp dp (logA 1 l) (-1) l (lastA 1 l) (sizeA l : Nat) dv rv bv s wr (by omega) (by rw [logA_len]; omega) he (lastA_lt l) hr (by rw [logA_len]; omega) (by decide) ⟨by omega, by omega⟩ (by omega) hlg).mono fun e w' hq => ?_
  obtain ⟨rfl, dv', rv', bv', ha⟩ := hq.2 hw
  refine ⟨rfl, ⟨dv', rv', bv', ?_⟩, row_kept hlg h.ends ha.fr, h.below.trans (hlg.below ha.fr)⟩
  have := ha.lg
  rw [hp] at this
  rw [logA_snoc, lastA_snoc, sizeA_snoc, str_len]
  have e1 : ((sizeA l : Nat) : Int) + ((s.size + 6 : Nat) : Int) = ((sizeA l + s.size + 6 : Nat) : Int) := by omega
  rw [e1] at this
  exact this
set_option maxRecDepth 100000 in
set_option maxHeartbeats 4000000 in
theorem written_any (A : Option Addr) (cap : Nat) (l : List (List UInt8)) (hn : l.length ≤ 21) (h60 : ∀ t ∈ l, rightL t = true ∧ t.length ≤ 60) (w : World) (he : Env w) (hB : RS w (.slice A l.length cap) l) :
    Calls Tryd.prog 18 #[.slice A l.length cap] w (RetWr l w) := by
  obtain ⟨j0, hj0, hy0, hy1, hy2⟩ := info_parts info_int
  obtain ⟨N, hN⟩ : ∃ N, l.length = N := ⟨_, rfl⟩
  have HL := Lib.hid hN
  have HB := Lib.hid hB
  have HE := Lib.hid he
  have H60 := Lib.hid h60
  have HSZ := Lib.hid (sizeA_le l (fun t ht => (h60 t ht).2))
  rw [hN] at hn ⊢
  clear hN hB he h60
  go_enter Tryd.func18, Tryd.ntmps18
  go_wp2_with fail
  have E1 : Hid (Env (w.alloc (.cells #[.slice none 0 0, .int .i64 (-1)] 28))) := Lib.hid (HE.out.keep (below1 _ _))
  refine (open_new (B := w.heap.size) E1.out (Blk.new w 28 #[.slice none 0 0, .int .i64 (-1)]) (Nat.le_refl _) (by decide) (by decide)).mono ?_
  rintro e w1 ⟨lp, dv0, rv0, rfl, hlp, hlg, hfr, hrv⟩
  obtain ⟨dp, hdp⟩ : ∃ dp, w.heap.size = dp := ⟨_, rfl⟩
  have hbx : Below w.heap.size w w1 := (below1 w _).trans (hfr.below (by simp) (fun x hx => by simp at hx; omega))
  have W0 : Hid (WS w w1 lp dp [] (.slice none 0 0)) := Lib.hid ⟨⟨_, _, _, by rw [← hdp]; exact hlg⟩, World.ownsRow_nil _ _ _ _, hbx⟩
  rw [hdp]
  have hdp2 := Lib.hid hdp
  clear hlg hfr hrv hbx hlp E1 hdp
  go_wp2
  go_loopw [8, 26] (fun s8 s26 wr => ∃ k : Nat, k ≤ N ∧ s26 = .int .i64 k ∧ WS w wr lp dp (l.take k) s8) (fun _ s26 _ => N - (intOf s26).toNat)
  case atStart => exact ⟨0, by omega, rfl, W0.out⟩
  case round =>
    obtain ⟨k, hk, rfl, hws⟩ := hrel
    have HW := Lib.hid hws
    clear hws W0
    by_cases hlt : k < N
    · have hkl : k < l.length := by have := HL.out; omega
      obtain ⟨S, hS⟩ : ∃ S : ByteArray, S.data.toList = l[k] := ⟨⟨l[k].toArray⟩, rfl⟩
      have HT : Hid (l.take (k + 1) = l.take k ++ [S.data.toList]) := Lib.hid (by rw [hS, List.take_add_one, List.getElem?_eq_getElem hkl]; rfl)
      have HEN := Lib.hid (endsA_take l k hkl)
      have hlk : (l.take k).length = k := by simp; omega
      have HAP := Lib.hid (append_ok HW.out (HE.out.keep HW.out.below) S (by rw [hS]; exact (H60.out _ (List.getElem_mem hkl)).1) (by have := sizeA_take_le l k; have := HSZ.out; have := HL.out; omega) (by omega))
      rw [← HT.out, hlk] at HAP
      have hsz2 : sizeA (l.take (k + 1)) ≤ 1386 := by have := sizeA_take_le l (k + 1); have := HSZ.out; have := HL.out; omega
      have t1 : decide ((k : Int) < (N : Int)) = true := decide_eq_true (by omega)
      obtain ⟨g, off, rfl, c0⟩ : ∃ g off, A = some ⟨g, off, none⟩ ∧ wr.cell? ⟨g, off + k, none⟩ = some (.string S) := by
        have h := HB.out
        generalize hv : Value.slice A l.length cap = v at h
        cases h with
        | none_ => simp at hkl
        | some_ b o c l' hb hc =>
          injection hv with h1 _ _
          refine ⟨b, o, h1, ?_⟩
          rw [keepW HW.out.below (hc k _ (List.getElem?_eq_getElem hkl)), str_val _ S hS]
      have HWB := Lib.hid HW.out.below
      obtain ⟨A8, c8, rfl⟩ := own_slice HW.out.ends
      rw [hlk] at HAP ⊢
      clear hkl hS hlk HW
      go_wp2_with fail
      refine HAP.out.mono ?_
      rintro e w2 ⟨rfl, ⟨dv, rv, bv, hlg⟩, hown, hb2⟩
      obtain ⟨A0, c0', rfl⟩ := hlg.bytes.bv.len
      have HG := Lib.hid hlg
      have HO := Lib.hid hown
      have HB2 := Lib.hid hb2
      have d0 := hlg.disk.cell (j := 0) rfl
      clear hlg hown hb2 c0 HAP
      rw [logA_len] at d0
      obtain ⟨M, hM⟩ : ∃ M, sizeA (l.take (k + 1)) = M := ⟨_, rfl⟩
      rw [hM] at d0 hsz2 HEN
      clear hM
      go_wp2_with (at_builtin; refine app1 rfl (.tmp 34) (.tmp 40) rfl Tryd.underlying37 hj0 hy0 hy1 hy2 rfl _ w.heap.size _ k _ (.int .i64 (M : Int)) rfl rfl rfl rfl HO.out HB2.out.size (by omega) (by decide) ?_; intro v' w3 hown' hg' _ hb')
      go_roundw
      case rel => 
        refine ⟨k + 1, by omega, by go_num, ⟨⟨_, _, _, HG.out.foreign HO.out hg'⟩, ?_, HB2.out.trans hb'⟩⟩
        rw [HEN.out, List.length_take_of_le (by have := HL.out; omega), List.map_append]
        exact hown'
      case measure => simp [intOf]; omega
    · obtain rfl : k = N := by omega
      have t1 : decide ((k : Int) < (k : Int)) = false := decide_eq_false (by omega)
      have HT : Hid (l.take k = l) := Lib.hid (List.take_of_length_le (by have := HL.out; omega))
      rw [HT.out] at HW
      obtain ⟨dv, rv, bv, hlg⟩ := HW.out.log
      obtain ⟨A0, c0', rfl⟩ := hlg.bytes.bv.len
      have HG := Lib.hid hlg
      have d0 := hlg.disk.cell (j := 0) rfl
      clear hlg
      rw [logA_len] at d0
      obtain ⟨M, hM⟩ : ∃ M, sizeA l = M := ⟨_, rfl⟩
      rw [hM] at d0
      have t2 : ((M : Int) == (M : Int)) = true := beq_self_eq_true _
      go_upto_region 13 with fail
      have SZ := Lib.hid (fun (wx : World) (hb : Below wr.heap.size wr wx) => size_any lp dp rv bv _ _ _ wx (HG.out.keep hb).log)
      have RC := Lib.hid (fun (wx : World) (hb : Below wr.heap.size wr wx) => records_len (hr := rs_of_own (HG.out.keep hb).rows) (h := (HG.out.keep hb).log) (hs := by have := HL.out; omega))
      have SM := Lib.hid (fun (wx : World) (hb : Below wr.heap.size wr wx) (v : Value) (hv : RS wx v l) => same_self v _ l (by have := HL.out; omega) wx hv (HB.out.keep (bchain HW.out.below hb)))
      have SOF := Lib.hid (fun (wx : World) (hb : Below wr.heap.size wr wx) => (⟨keepW hb d0, hb⟩ : wx.cell? ⟨dp, 0, none⟩ = some (.slice A0 M c0') ∧ Below wr.heap.size wr wx))
      rw [HL.out] at RC SM
      rw [hM] at SZ
      go_region_held3 (fun wx => wx.cell? ⟨dp, 0, none⟩ = some (.slice A0 M c0') ∧ Below wr.heap.size wr wx)
        (first | exact SOF.out _ (Below.refl _ _) | exact SOF.out _ (Below.drew (Below.refl _ _)) | exact SOF.out _ hB | exact SOF.out _ (by assumption : _ ∧ Below wr.heap.size wr _).2)
        (first
          | (go_at_call 17; (with_reducible refine (SZ.out _ (by assumption : _ ∧ Below wr.heap.size wr _).2).mono ?_); rintro e w' ⟨rfl, rfl⟩)
          | (go_at_call 16; (with_reducible refine (RC.out _ (by assumption : _ ∧ Below wr.heap.size wr _).2).mono ?_); rintro e w' ⟨A9, c9, rfl, hrs, hb⟩; (have hB := bchain (by assumption : _ ∧ Below wr.heap.size wr _).2 hb))
          | (go_at_call 15; (with_reducible refine (SM.out _ hB _ hrs).mono ?_); rintro e w' ⟨rfl, hb⟩; (have hB := bchain hB hb)))
      all_goals
        have HBZ := Lib.hid hB
        clear SZ RC SM SOF hB
        go_wp2
        go_ret3
        refine ⟨_, _, rfl, ?_, own_keep HW.out.ends HBZ.out, HW.out.below.trans (HBZ.out.mono HW.out.below.size)⟩
        have h := HG.out.bytes.keep HBZ.out
        rw [logA_len, hM] at h
        exact h
end Go.Proofs.YtbompgfjlllioaaDoor
