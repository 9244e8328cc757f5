/- The examples of the chapter: awake returns true. -/
import Derived.Test.YtbompgfjlllioaaDoorJDoor
import Derived.Test.YtbompgfjlllioaaDoorJSame
import Derived.Test.YtbompgfjlllioaaDoorSeg
import Derived.Test.YtbompgfjlllioaaDoorBlk
import Derived.Lib.ConvBytes
namespace Go.Proofs.YtbompgfjlllioaaDoor
open Go Go.RowKit

theorem lA : lineP 1 (⟨#[65]⟩ : ByteArray).data.toList = ([50, 57, 55, 55, 32, 65, 10], 0) := by decide +kernel
theorem lB : lineP 2977 (⟨#[66, 50]⟩ : ByteArray).data.toList = ([51, 48, 53, 56, 32, 66, 50, 10], 0) := by decide +kernel
theorem lC : lineP 1 (⟨#[]⟩ : ByteArray).data.toList = ([48, 48, 51, 49, 32, 10], 0) := by decide +kernel
theorem line_A (W : World) (he : Env W) : Calls Tryd.prog 23 #[.int .i64 1, .string ⟨#[65]⟩] W (fun e w' => e = .returned (.tuple #[.string ⟨#[50, 57, 55, 55, 32, 65, 10]⟩, .int .i64 0]) ∧ Below W.heap.size W w') := by
  have h := line_any 1 ⟨#[65]⟩ (by decide) W he
  rw [lA] at h
  exact h
theorem line_B (W : World) (he : Env W) : Calls Tryd.prog 23 #[.int .i64 2977, .string ⟨#[66, 50]⟩] W (fun e w' => e = .returned (.tuple #[.string ⟨#[51, 48, 53, 56, 32, 66, 50, 10]⟩, .int .i64 0]) ∧ Below W.heap.size W w') := by
  have h := line_any 2977 ⟨#[66, 50]⟩ (by decide) W he
  rw [lB] at h
  exact h
theorem line_C (W : World) (he : Env W) : Calls Tryd.prog 23 #[.int .i64 1, .string ⟨#[]⟩] W (fun e w' => e = .returned (.tuple #[.string ⟨#[48, 48, 51, 49, 32, 10]⟩, .int .i64 0]) ∧ Below W.heap.size W w') := by
  have h := line_any 1 ⟨#[]⟩ (by decide) W he
  rw [lC] at h
  exact h
theorem scan_c (v : Value) (W : World) (he : Env W) (bs : List UInt8) (hs : bs.length ≤ 2000000) (hB : BV W v bs) (rs : List (List UInt8)) (n t : Nat) (h1 : (scanS (linesL bs)).recs = rs) (h2 : (scanS (linesL bs)).size = n) (h3 : tailP (scanS (linesL bs)) bs.length = t) :
    Calls Tryd.prog 20 #[v] W (fun e w' => ∃ A c, e = .returned (.tuple #[.slice A rs.length c, .int .i64 (n : Nat), .int .u8 (t : Nat)]) ∧ RS w' (.slice A rs.length c) rs ∧ Below W.heap.size W w') := by
  refine (scanx_any v bs hs W he hB).mono ?_
  rintro e w' ⟨u, rfl, hr, hb⟩
  rw [h1] at hr
  obtain ⟨A, c, rfl⟩ := own_slice hr
  rw [h2, h3]
  exact ⟨A, c, rfl, rs_of_own hr, hb⟩
theorem conv_sb (s : ByteArray) (W : World) : ∃ C W', (convert 9 26 (.string s)).run Tryd.prog W = .ok (.slice (some ⟨W.heap.size, 0, none⟩) s.size C) W' ∧ s.size ≤ C ∧ Below W.heap.size W W' ∧ W.heap.size < W'.heap.size ∧ BS W' W.heap.size 0 s.data.toList := by
  refine ⟨_, _, Lib.run_convert_string_bytes W 9 26 5 s Tryd.underlying9 Tryd.underlying26 Tryd.underlying5, grownCap_ge _ _ _ _, ⟨rfl, rfl, rfl, ?_, fun k hk => Lib.bytesWorld_at_old _ _ _ _ hk⟩, ?_, fun i c hi => ?_⟩
  · rw [Lib.bytesWorld_size]; omega
  · rw [Lib.bytesWorld_size]; omega
  · have hlt : i < s.size := by
      have := (List.getElem?_eq_some_iff.1 hi).1
      simpa using this
    have h := Lib.bytesWorld_cell W 5 s i hlt
    rw [List.getD_eq_getElem?_getD, hi] at h
    simpa [byteV] using h
theorem own_le {w : World} {B e size n : Nat} {v : Value} {xs : List Value} (h : w.ownsRow B e size v n xs) (x : Nat) (hx : v.ownBlock = some x) : B ≤ x := by
  rcases h.2 with ⟨rfl, _⟩ | ⟨g, cap, cur, rfl, hbg, _⟩
  · simp [Value.ownBlock] at hx
  · obtain rfl : g = x := by simpa [Value.ownBlock] using hx
    exact hbg
theorem LG.le {w : World} {B lp dp : Nat} {bs : List UInt8} {pow : Int} {recs : List (List UInt8)} {last size : Int} {closed : Bool} {dv rv bv : Value} (h : LG w B lp dp bs pow recs last size closed dv rv bv) : ∀ x ∈ OL lp dp rv bv, B ≤ x := by
  intro x hx
  simp only [OL, List.mem_cons, List.mem_append, Option.mem_toList] at hx
  rcases hx with rfl | rfl | hx | hx
  · exact h.bl
  · exact h.bd
  · exact own_le h.rows x hx
  · obtain ⟨n, xs, hb⟩ := h.buf; exact own_le hb x hx
/-- What Append changes lies above B. -/
theorem LG.below {w w' : World} {B lp dp : Nat} {bs : List UInt8} {pow : Int} {recs : List (List UInt8)} {last size : Int} {closed : Bool} {dv rv bv : Value} (h : LG w B lp dp bs pow recs last size closed dv rv bv) (hf : Fr (OL lp dp rv bv) w w') : Below B w w' :=
  hf.below (by have h1 := h.bl; have h2 := h.log.lt; omega) h.le
theorem same_two {v u : Value} {W : World} (h : RS W v [[65]]) (k : RS W u [[65]]) : Calls Tryd.prog 15 #[v, u] W (fun e w' => e = .returned (.bool true) ∧ Below W.heap.size W w') :=
  same_any v u [[65]] [[65]] (by decide) _ h k
/-- Open for a disk without bytes. -/
theorem open_new {W : World} {B dp : Nat} {pow : Int} (he : Env W) (h : PD W dp (.slice none 0 0) pow) (hBd : B ≤ dp) (hp0 : -9223372036854775808 ≤ pow) (hp1 : pow ≤ 9223372036854775807) :
    Calls Tryd.prog 13 #[.pointer (some ⟨dp, 0, none⟩)] W (fun e w' => ∃ lp dv' rv, e = .returned (.tuple #[.pointer (some ⟨lp, 0, none⟩), .int .i64 0]) ∧ W.heap.size ≤ lp ∧
      LG w' B lp dp [] pow [] 1 0 false dv' rv (.slice none 0 0) ∧ Fr [dp] W w' ∧ (∀ x, rv.ownBlock = some x → W.heap.size ≤ x)) :=
  open_lg (bs := []) (by decide) (by decide) he h .none_ hBd (.inl (by decide)) hp0 hp1
theorem app_A {W : World} {B lp dp : Nat} {dv rv bv : Value} (he : Env W) (h : LG W B lp dp [] 10 [] 1 0 false dv rv bv) :
    Calls Tryd.prog 14 #[.pointer (some ⟨lp, 0, none⟩), .string ⟨#[65]⟩] W (fun e w' => e = .returned (.int .i64 0) ∧ ∃ dv' rv' bv', AP W w' B lp dp [50, 57, 55, 55, 32, 65, 10] 3 [[65]] 2977 7 false (OL lp dp rv bv) dv' rv' bv') :=
  (append_main B lp dp [] 10 [] 1 0 dv rv bv ⟨#[65]⟩ W (by decide) (by decide) he (by decide) (by decide +kernel) (by decide) (by decide) (by decide) (by decide) h).mono fun _ _ hq => hq.2 (by decide)
theorem app_B {W : World} {B lp dp : Nat} {dv rv bv : Value} (he : Env W) (h : LG W B lp dp [50, 57, 55, 55, 32, 65, 10] 3 [[65]] 2977 7 false dv rv bv) :
    Calls Tryd.prog 14 #[.pointer (some ⟨lp, 0, none⟩), .string ⟨#[66, 50]⟩] W (fun e w' => e = .returned (.int .i64 420) ∧ ∃ dv' bv', AP W w' B lp dp [50, 57, 55, 55, 32, 65, 10, 51, 48, 53] 0 [[65]] 2977 7 true (OL lp dp rv bv) dv' rv bv') :=
  (append_main B lp dp [50, 57, 55, 55, 32, 65, 10] 3 [[65]] 2977 7 dv rv bv ⟨#[66, 50]⟩ W (by decide) (by decide) he (by decide) (by decide +kernel) (by decide) (by decide) (by decide) (by decide) h).mono fun _ _ hq => hq.1 (by decide)
theorem rs_lit (W : World) : RS (W.alloc (.cells #[.string ⟨#[65]⟩] 9)) (.slice (some ⟨W.heap.size, 0, none⟩) 1 1) [[65]] :=
  RS.some_ W.heap.size 0 1 [[65]] (by simp) (fun i r hi => by
    match i, hi with
    | 0, hi =>
      obtain rfl : [65] = r := by simpa using hi
      have h := cell_one_new W (.string ⟨#[65]⟩) 9
      exact h 0 _ rfl
    | i + 1, hi => simp at hi)
theorem same_lit {v : Value} {W : World} (h : RS W v [[65]]) : Calls Tryd.prog 15 #[v, .slice (some ⟨W.heap.size, 0, none⟩) 1 1] (W.alloc (.cells #[.string ⟨#[65]⟩] 9)) (fun e w' => e = .returned (.bool true) ∧ Below W.heap.size W w') := by
  refine (same_any v _ [[65]] [[65]] (by decide) _ (h.keep (below1 _ _)) (rs_lit W)).mono ?_
  rintro e w' ⟨rfl, hb⟩
  exact ⟨rfl, bchain (below1 _ _) hb⟩
set_option maxRecDepth 100000 in
set_option maxHeartbeats 4000000 in
theorem awake_any (w : World) (he : Env w) : Calls Tryd.prog 19 #[] w (fun e w' => e = .returned (.bool true) ∧ Below w.heap.size w w') := by
  have HE := Lib.hid he
  clear he
  go_enter Tryd.func19, Tryd.ntmps19
  go_wp2_with fail
  refine (line_A _ HE.out).mono ?_
  rintro e w1 ⟨rfl, hb1⟩
  have E1 := Lib.hid (HE.out.keep hb1)
  have B1 := Lib.hid hb1
  clear hb1
  go_wp2_with fail
  refine (line_B _ E1.out).mono ?_
  rintro e w2 ⟨rfl, hb2⟩
  have E2 := Lib.hid (E1.out.keep hb2)
  have B2 := Lib.hid (bchain B1.out hb2)
  clear hb2
  go_wp2_with fail
  refine (line_C _ E2.out).mono ?_
  rintro e w3 ⟨rfl, hb3⟩
  have E3 := Lib.hid (E2.out.keep hb3)
  have B3 := Lib.hid (bchain B2.out hb3)
  clear hb3
  obtain ⟨C4, w4, cv4, hC4, hb4, hlt4, hbs4⟩ := conv_sb (⟨#[50, 57, 55, 55, 32, 65, 10]⟩ ++ ⟨#[51, 48, 53, 56, 32, 66, 50, 10]⟩) w3
  have E4 := Lib.hid (E3.out.keep hb4)
  have B4 := Lib.hid (bchain B3.out hb4)
  have h15 : 15 ≤ C4 := hC4
  have i1 : (14 : Int) ≤ (C4 : Int) := by omega
  have i2 : 14 ≤ C4 := by omega
  have BS4 := Lib.hid hbs4
  clear hC4 hb4 hbs4 h15
  go_wp2_with fail
  have T4 : BS w4 w3.heap.size 0 [50, 57, 55, 55, 32, 65, 10, 51, 48, 53, 56, 32, 66, 50] := BS4.out.take 14
  have BV4 : BV w4 (.slice (some ⟨w3.heap.size, 0, none⟩) 14 C4) [50, 57, 55, 55, 32, 65, 10, 51, 48, 53, 56, 32, 66, 50] := BV.some_ w3.heap.size 0 C4 [50, 57, 55, 55, 32, 65, 10, 51, 48, 53, 56, 32, 66, 50] (show 14 ≤ C4 from i2) T4
  refine (scan_c _ w4 E4.out _ (by decide) BV4 [[65]] 7 1 (by decide +kernel) (by decide +kernel) (by decide +kernel)).mono ?_
  rintro e w5 ⟨A5, c5, rfl, hrs, hb⟩
  have E5 := Lib.hid (E4.out.keep hb)
  have B5 := Lib.hid (bchain B4.out hb)
  have SM5 := Lib.hid (same_lit hrs)
  clear hb hrs BV4 T4
  go_wp2_with fail
  refine SM5.out.mono ?_
  rintro e w6 ⟨rfl, hb⟩
  have E6 := Lib.hid (E5.out.keep hb)
  have B6 := Lib.hid (bchain B5.out hb)
  clear hb
  obtain ⟨C7, w7, cv7, hC7, hb7, hlt7, hbs7⟩ := conv_sb (⟨#[50, 57, 55, 55, 32, 65, 10]⟩ ++ ⟨#[51, 48, 53, 56, 32, 66, 51, 10]⟩) w6
  have E7 := Lib.hid (E6.out.keep hb7)
  have B7 := Lib.hid (bchain B6.out hb7)
  have BS7 := Lib.hid hbs7
  have HC7 := Lib.hid hC7
  clear hC7 hb7 hbs7
  go_wp2_with fail
  have T7 : BS w7 w6.heap.size 0 [50, 57, 55, 55, 32, 65, 10, 51, 48, 53, 56, 32, 66, 51, 10] := BS7.out
  have BV7 : BV w7 (.slice (some ⟨w6.heap.size, 0, none⟩) 15 C7) [50, 57, 55, 55, 32, 65, 10, 51, 48, 53, 56, 32, 66, 51, 10] := BV.some_ w6.heap.size 0 C7 [50, 57, 55, 55, 32, 65, 10, 51, 48, 53, 56, 32, 66, 51, 10] (show 15 ≤ C7 from HC7.out) T7
  refine (scan_c _ w7 E7.out _ (by decide) BV7 [[65]] 7 2 (by decide +kernel) (by decide +kernel) (by decide +kernel)).mono ?_
  rintro e w8 ⟨A8, c8, rfl, hrs, hb⟩
  have E8 := Lib.hid (E7.out.keep hb)
  have B8 := Lib.hid (bchain B7.out hb)
  have SM8 := Lib.hid (same_lit hrs)
  clear hb hrs BV7 T7
  go_wp2_with fail
  refine SM8.out.mono ?_
  rintro e w9 ⟨rfl, hb⟩
  have E9 := Lib.hid (E8.out.keep hb)
  have B9 := Lib.hid (bchain B8.out hb)
  clear hb
  go_wp2_with fail
  have E10 : Hid (Env (w9.alloc (.cells #[.slice none 0 0, .int .i64 10] 28))) := Lib.hid (E9.out.keep (below1 _ _))
  have B10 : Hid (Below w.heap.size w (w9.alloc (.cells #[.slice none 0 0, .int .i64 10] 28))) := Lib.hid (B9.out.alloc B9.out.size _)
  refine (open_new (B := w.heap.size) E10.out (Blk.new w9 28 #[.slice none 0 0, .int .i64 10]) B9.out.size (by decide) (by decide)).mono ?_
  rintro e w10 ⟨lp, dv0, rv0, rfl, hlp, hlg, hfr, hrv⟩
  have hbx : Below w.heap.size _ w10 := hfr.below B10.out.size (fun x hx => by
    obtain rfl : x = w9.heap.size := by simpa using hx
    exact B9.out.size)
  obtain ⟨dp, hdp⟩ : ∃ dp, w9.heap.size = dp := ⟨_, rfl⟩
  have hBd : w.heap.size ≤ dp := by rw [← hdp]; exact B9.out.size
  rw [hdp] at hlg ⊢
  have hb0 := (Below.trans B10.out hbx).drew
  have hlg0 := hlg.keep ((Below.refl _ w10).drew)
  have he0 := HE.out.keep hb0
  obtain ⟨W0, hW0⟩ : ∃ W0, w10.drew = W0 := ⟨_, rfl⟩
  rw [hW0] at hb0 hlg0 he0
  have B0 := Lib.hid hb0
  have G0 := Lib.hid hlg0
  have E0 := Lib.hid he0
  clear hb0 hlg0 he0 hlg hfr hrv hbx hdp hlp cv4 cv7 hlt4 hlt7 i1 i2 E1 E2 E3 E4 E5 E6 E7 E8 E9 E10 B1 B2 B3 B4 B5 B6 B7 B8 B9 B10 SM5 SM8 BS4 BS7 HC7
  go_wp2_with fail
  refine rest_begin (by kernel_rfl) ?_
  rw [hW0]
  clear hW0
  refine rest_forced 29 (by kernel_rfl) ?_
  go_wp2_with fail
  refine (app_A E0.out G0.out).mono ?_
  rintro e w11 ⟨rfl, dv1, rv1, bv1, ha⟩
  have B1 := Lib.hid (Below.trans B0.out (G0.out.below ha.fr))
  have E1 := Lib.hid (HE.out.keep B1.out)
  have G1 := Lib.hid ha.lg
  have d1 := ha.lg.disk.cell (j := 1) (v := .int .i64 3) rfl
  clear ha G0 B0 E0
  go_wp2_with fail
  refine (app_B E1.out G1.out).mono ?_
  rintro e w12 ⟨rfl, dv2, bv2, ha⟩
  have B2 := Lib.hid (Below.trans B1.out (G1.out.below ha.fr))
  have E2 := Lib.hid (HE.out.keep B2.out)
  have G2 := Lib.hid ha.lg
  clear ha G1 B1 E1 d1
  go_wp2_with fail
  refine (append_closed (s := ⟨#[67]⟩) (h := G2.out)).mono ?_
  rintro e w13 ⟨rfl, rfl⟩
  go_wp2_with fail
  obtain ⟨g, cap, rfl, hbs⟩ : ∃ g cap, dv2 = .slice (some ⟨g, 0, none⟩) 10 cap ∧ BS w12 g 0 [50, 57, 55, 55, 32, 65, 10, 51, 48, 53] := by
    have h := G2.out.bytes
    generalize hl : ([50, 57, 55, 55, 32, 65, 10, 51, 48, 53] : List UInt8) = l at h
    cases h with
    | none_ => cases hl
    | some_ g cap l cur hcap hB hg hc => subst hl; exact ⟨g, cap, rfl, hc⟩
  have d0 := G2.out.disk.cell (j := 0) (v := .slice (some ⟨g, 0, none⟩) 10 cap) rfl
  have cv : ∀ n, (convert 26 9 (.slice (some ⟨g, 0, none⟩) 10 cap)).run Tryd.prog (w12.drewN n) = .ok (.string ⟨#[50, 57, 55, 55, 32, 65, 10, 51, 48, 53]⟩) (w12.drewN n) := fun n => conv_all g 0 cap [50, 57, 55, 55, 32, 65, 10, 51, 48, 53] _ (hbs.keep (below_drewN (Below.refl _ w12) n))
  clear hbs
  refine rest_quiet (fun w' => ∃ n, w' = w12.drewN n) 9 (by kernel_rfl) ⟨0, rfl⟩ ?_
  simp only [List.take_succ_cons, List.take_zero, List.drop_succ_cons, List.drop_zero]
  repeat (quiet_step ((fail)))
  refine wpQuiet_nil ?_
  rintro w' ⟨nq, rfl⟩
  have G3 := Lib.hid (G2.out.keep (below_drewN (Below.refl _ w12) nq))
  have B3 := Lib.hid (below_drewN B2.out nq)
  clear cv d0 G2 B2 E2
  generalize w12.drewN nq = w14 at *
  have ex : ((⟨#[50, 57, 55, 55, 32, 65, 10]⟩ : ByteArray) ++ (⟨#[51, 48, 53, 56, 32, 66, 50, 10]⟩ : ByteArray).extract 0 3).toList = [50, 57, 55, 55, 32, 65, 10, 51, 48, 53] := by rw [ByteArray.toList_eq]; decide +kernel
  refine rest_forced 13 (by kernel_rfl) ?_
  go_wp2_with fail
  refine (last_any (h := G3.out.log)).mono ?_
  rintro e w15 ⟨rfl, rfl⟩
  go_wp2_with fail
  refine (size_any (h := G3.out.log)).mono ?_
  rintro e w15 ⟨rfl, rfl⟩
  go_wp2_with fail
  refine rest_open 6 (by kernel_rfl) ?_
  refine rest_two (i := 51) (j := 53) (by kernel_rfl) rfl rfl ?_ ?_
  · go_wp2_with fail
    refine rest_two (i := 52) (j := 53) (by kernel_rfl) rfl rfl ?_ ?_
    · go_wp2_with fail
      refine (records_any (h := G3.out.log) (l := [[65]]) (hs := by decide) (hr := rs_of_own G3.out.rows)).mono ?_
      rintro e w16 ⟨v', rfl, hrs, hb⟩
      have B4 := Lib.hid (bchain B3.out hb)
      have SM := Lib.hid (same_lit hrs)
      obtain ⟨A9, c9, rfl⟩ := hrs.len
      clear hrs hb
      go_wp2_with fail
      refine rest_one (i := 53) (by kernel_rfl) rfl ?_
      go_wp2_with fail
      refine rest_close 54 (by kernel_rfl) (by kernel_rfl) ?_
      refine rest_forced 3 (by kernel_rfl) ?_
      go_wp2_with fail
      refine SM.out.mono ?_
      rintro e w17 ⟨rfl, hb⟩
      have B5 := Lib.hid (bchain B4.out hb)
      clear hb SM
      go_wp2_with fail
      refine rest_done (by kernel_rfl) ?_
      go_wp2_with fail
      go_ret
      exact ⟨rfl, B5.out⟩
    · go_wp2_with fail
      refine rest_one (i := 52) (by kernel_rfl) rfl ?_
      have G4 := Lib.hid (G3.out.keep (below1 w14 (.cells #[.string ⟨#[65]⟩] 9)))
      go_wp2_with fail
      refine (records_any (h := G4.out.log) (l := [[65]]) (hs := by decide) (hr := rs_of_own G4.out.rows)).mono ?_
      rintro e w16 ⟨v', rfl, hrs, hb⟩
      have B4 := Lib.hid (bchain B3.out (bchain (below1 w14 (.cells #[.string ⟨#[65]⟩] 9)) hb))
      have SM := Lib.hid (same_two hrs ((rs_lit w14).keep hb))
      obtain ⟨A9, c9, rfl⟩ := hrs.len
      clear hrs hb
      go_wp2_with fail
      refine rest_close 54 (by kernel_rfl) (by kernel_rfl) ?_
      refine rest_forced 3 (by kernel_rfl) ?_
      go_wp2_with fail
      refine SM.out.mono ?_
      rintro e w17 ⟨rfl, hb⟩
      have B5 := Lib.hid (bchain B4.out hb)
      clear hb SM
      go_wp2_with fail
      refine rest_done (by kernel_rfl) ?_
      go_wp2_with fail
      go_ret
      exact ⟨rfl, B5.out⟩
  · go_wp2_with fail
    refine rest_one (i := 51) (by kernel_rfl) rfl ?_
    go_wp2_with fail
    · refine rest_one (i := 52) (by kernel_rfl) rfl ?_
      have G4 := Lib.hid (G3.out.keep (below1 w14 (.cells #[.string ⟨#[65]⟩] 9)))
      go_wp2_with fail
      refine (records_any (h := G4.out.log) (l := [[65]]) (hs := by decide) (hr := rs_of_own G4.out.rows)).mono ?_
      rintro e w16 ⟨v', rfl, hrs, hb⟩
      have B4 := Lib.hid (bchain B3.out (bchain (below1 w14 (.cells #[.string ⟨#[65]⟩] 9)) hb))
      have SM := Lib.hid (same_two hrs ((rs_lit w14).keep hb))
      obtain ⟨A9, c9, rfl⟩ := hrs.len
      clear hrs hb
      go_wp2_with fail
      refine rest_close 54 (by kernel_rfl) (by kernel_rfl) ?_
      refine rest_forced 3 (by kernel_rfl) ?_
      go_wp2_with fail
      refine SM.out.mono ?_
      rintro e w17 ⟨rfl, hb⟩
      have B5 := Lib.hid (bchain B4.out hb)
      clear hb SM
      go_wp2_with fail
      refine rest_done (by kernel_rfl) ?_
      go_wp2_with fail
      go_ret
      exact ⟨rfl, B5.out⟩
end Go.Proofs.YtbompgfjlllioaaDoor
