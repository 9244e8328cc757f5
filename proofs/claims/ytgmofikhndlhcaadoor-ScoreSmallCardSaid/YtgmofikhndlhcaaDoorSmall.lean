/- The walk of ScoreSmall. -/
import Derived.Test.YtgmofikhndlhcaaDoorSame
import Derived.Test.YtgmofikhndlhcaaDoorReads
import Derived.Deep.CutBlock
namespace Go.Proofs.YtgmofikhndlhcaaDoor
open Go.RowKit

theorem one_str (n : Nat) (hn : n < 256) (wr : World) : (convert 28 9 (.slice (some ⟨wr.heap.size, 0, none⟩) 1 1)).run Tryd.prog (wr.alloc (.cells #[.int .u8 (n : Nat)] 5)) =
    .ok (.string ⟨#[UInt8.ofNat n]⟩) (wr.alloc (.cells #[.int .u8 (n : Nat)] 5)) :=
  run_convert_bytes_back _ _ _ 5 _ 1 [UInt8.ofNat n] (by kernel_rfl) (by kernel_rfl) (by kernel_rfl) (fun j hj => by
    obtain rfl : j = 0 := by simpa using hj
    have h2 : (UInt8.ofNat n).toNat = n := by simp; omega
    simp only [List.getElem_cons_zero, h2]
    simp [Addr.add])
theorem all_strs (b : Nat) (L : List ByteArray) (h : ∀ s ∈ L, s.size ≤ b) : ∃ S : Nat → ByteArray, ∀ k, k < L.length → (L.map Value.string).toArray[k]? = some (.string (S k)) ∧ (S k).size ≤ b :=
  ⟨fun k => L.getD k ⟨#[]⟩, fun k hk => by
    have hg : L.getD k ⟨#[]⟩ = L[k] := by simp [List.getD, List.getElem?_eq_getElem hk]
    refine ⟨?_, ?_⟩
    · simp only [hg]
      simp [List.getElem?_eq_getElem hk]
    · simp only [hg]
      exact h _ (List.getElem_mem hk)⟩
theorem one_ex (n : Nat) (hn : n < 256) : ∃ X : ByteArray, X.size = 1 ∧ ∀ wr : World, (convert 28 9 (.slice (some ⟨wr.heap.size, 0, none⟩) 1 1)).run Tryd.prog (wr.alloc (.cells #[.int .u8 (n : Nat)] 5)) =
    .ok (.string X) (wr.alloc (.cells #[.int .u8 (n : Nat)] 5)) := ⟨⟨#[UInt8.ofNat n]⟩, rfl, one_str n hn⟩

set_option maxRecDepth 100000 in
set_option maxHeartbeats 16000000 in
theorem small_walk (w : World) (hE : Env w) :
    Calls Tryd.prog 5 #[] w fun e w' => e = .returned (.bool true) ∧ Below w.heap.size w w' := by
  have hi : Inv w w := ⟨hE, Below.refl _ _⟩
  have HI := Lib.hid hi
  clear hi hE
  go_enter Tryd.func5, Tryd.ntmps5
  go_upto_block 0 with fail
  go_cut [0] (fun s0 wx => s0 = .bool false ∧ Inv w wx)
  case first =>
    go_wp2_with fail
    go_loopw [0, 16] (fun v0 v16 wr => ∃ l : Nat, l ≤ 8 ∧ v0 = .bool false ∧ v16 = .int .i64 l ∧ Inv w wr) (fun _ v16 _ => (8 - intOf v16).toNat)
    case atStart => exact ⟨0, by omega, rfl, rfl, HI.out⟩
    case round =>
      obtain ⟨l, hl, rfl, rfl, hi⟩ := hrel
      clear HI
      obtain ⟨wo16, rfl⟩ : ∃ wo : World, wo = wr := ⟨_, rfl⟩
      have HI16 := Lib.hid hi
      clear hi
      by_cases hlt16 : l < 8
      · have tl16 : decide ((l : Int) < 8) = true := decide_eq_true (by omega)
        go_wp2_with fail
        go_loopw [0, 19] (fun v0 v19 wr => ∃ d : Nat, d ≤ 5 ∧ v0 = .bool false ∧ v19 = .int .i64 d ∧ Inv w wr) (fun _ v19 _ => (5 - intOf v19).toNat)
        case atStart => exact ⟨0, by omega, rfl, rfl, HI16.out⟩
        case round =>
          obtain ⟨d, hd, rfl, rfl, hi⟩ := hrel
          clear HI16
          obtain ⟨wo19, rfl⟩ : ∃ wo : World, wo = wr := ⟨_, rfl⟩
          have HI19 := Lib.hid hi
          clear hi
          by_cases hlt19 : d < 5
          · have tl19 : decide ((d : Int) < 5) = true := decide_eq_true (by omega)
            go_wp2_with fail
            go_loopw [0, 22] (fun v0 v22 wr => ∃ r : Nat, r ≤ 3 ∧ v0 = .bool false ∧ v22 = .int .i64 r ∧ Inv w wr) (fun _ v22 _ => (3 - intOf v22).toNat)
            case atStart => exact ⟨0, by omega, rfl, rfl, HI19.out⟩
            case round =>
              obtain ⟨r, hr, rfl, rfl, hi⟩ := hrel
              clear HI19
              obtain ⟨wo22, rfl⟩ : ∃ wo : World, wo = wr := ⟨_, rfl⟩
              have HI22 := Lib.hid hi
              clear hi
              by_cases hlt22 : r < 3
              · have tl22 : decide ((r : Int) < 3) = true := decide_eq_true (by omega)
                go_wp2_with fail
                go_loopw [0, 4] (fun v0 v4 wr => ∃ j : Nat, j ≤ 16 ∧ v0 = .bool false ∧ v4 = .int .i64 ((j : Int) - 1) ∧ Inv w wr) (fun _ v4 _ => (15 - intOf v4).toNat)
                case atStart => exact ⟨0, by omega, rfl, rfl, HI22.out⟩
                case round =>
                  obtain ⟨j, hj, rfl, rfl, hi⟩ := hrel
                  clear HI22
                  obtain ⟨wo4, rfl⟩ : ∃ wo : World, wo = wr := ⟨_, rfl⟩
                  have HI4 := Lib.hid hi
                  clear hi
                  by_cases hlt4 : j < 16
                  · have tl4 : decide ((j : Int) - 1 < 15) = true := decide_eq_true (by omega)
                    obtain ⟨s, hs⟩ : ∃ s, s = (j + d) % 4 := ⟨_, rfl⟩
                    have q4 : ((j : Int) - 1 + (d : Int) + 1) % 4 = (s : Int) := by omega
                    have q5 : ((j : Int) - 1 + (d : Int) + 1).tmod 4 = (s : Int) := by rw [Int.tmod_eq_emod_of_nonneg (by omega)]; exact q4
                    have s3 : s < 4 := by omega
                    clear hs
                    go_wp2_with fail
                    have hB : InvB w (wo4.alloc (.cells #[.int .u8 (l : Nat), .int .u8 (d : Nat), .int .u8 (r : Nat), .int .u8 (s : Nat)] 23)) wo4.heap.size 23 #[.int .u8 (l : Nat), .int .u8 (d : Nat), .int .u8 (r : Nat), .int .u8 (s : Nat)] := ⟨HI4.out.alloc _, Blk.new _ _ _⟩
                    generalize wo4.alloc (.cells #[.int .u8 (l : Nat), .int .u8 (d : Nat), .int .u8 (r : Nat), .int .u8 (s : Nat)] 23) = w5 at *
                    generalize wo4.heap.size = bc at *
                    have HB := Lib.hid hB
                    clear hB HI4 q4 q5
                    go_loopw [0, 42] (fun v0 v42 wr => ∃ u : Nat, u ≤ 5 ∧ v0 = .bool false ∧ v42 = .int .u8 u ∧ InvB w wr bc 23 #[.int .u8 (l : Nat), .int .u8 (d : Nat), .int .u8 (r : Nat), .int .u8 (s : Nat)]) (fun _ v42 _ => (5 - intOf v42).toNat)
                    case atStart => exact ⟨0, by omega, rfl, rfl, HB.out⟩
                    case round =>
                      obtain ⟨u, hu, rfl, rfl, hi⟩ := hrel
                      clear HB
                      have HB := Lib.hid hi
                      clear hi
                      by_cases hltu : u < 5
                      · have tlu : decide ((u : Int) < 5) = true := decide_eq_true (by omega)
                        have k0 := HB.out.blk.cell (j := 0) (v := .int .u8 (l : Nat)) rfl
                        have k1 := HB.out.blk.cell (j := 1) (v := .int .u8 (d : Nat)) rfl
                        have k2 := HB.out.blk.cell (j := 2) (v := .int .u8 (r : Nat)) rfl
                        have k3 := HB.out.blk.cell (j := 3) (v := .int .u8 (s : Nat)) rfl
                        go_wp2_with fail
                        refine (invb_of (fun w hw => same_any l d r s u ((j : Int) - 1) w hw (by omega)) HB.out).mono ?_
                        rintro e w6 ⟨rfl, h6⟩
                        clear k0 k1 k2 k3 HB
                        have H6 := Lib.hid h6
                        clear h6
                        go_wp2_with fail
                        first
                          | exact ⟨⟨u + 1, by omega, rfl, by go_num, H6.out⟩, by simp [intOf]; omega⟩
                          | (refine ⟨?_, by simp [intOf]; omega⟩; (repeat apply Exists.intro); exact ⟨⟨u + 1, by omega, rfl, by go_num, H6.out⟩, rfl⟩)
                      · obtain rfl : u = 5 := by omega
                        go_wp2_with fail
                        first
                          | exact ⟨⟨j + 1, by omega, rfl, by go_num, HB.out.inv⟩, by simp [intOf]; omega⟩
                          | (refine ⟨?_, by simp [intOf]; omega⟩; (repeat apply Exists.intro); exact ⟨⟨j + 1, by omega, rfl, by go_num, HB.out.inv⟩, rfl⟩)
                  · obtain rfl : j = 16 := by omega
                    go_wp2_with fail
                    first
                      | exact ⟨⟨r + 1, by omega, rfl, by go_num, HI4.out⟩, by simp [intOf]; omega⟩
                      | (refine ⟨?_, by simp [intOf]; omega⟩; (repeat apply Exists.intro); exact ⟨⟨r + 1, by omega, rfl, by go_num, HI4.out⟩, rfl⟩)
              · obtain rfl : r = 3 := by omega
                go_wp2_with fail
                first
                  | exact ⟨⟨d + 1, by omega, rfl, by go_num, HI22.out⟩, by simp [intOf]; omega⟩
                  | (refine ⟨?_, by simp [intOf]; omega⟩; (repeat apply Exists.intro); exact ⟨⟨d + 1, by omega, rfl, by go_num, HI22.out⟩, rfl⟩)
          · obtain rfl : d = 5 := by omega
            go_wp2_with fail
            first
              | exact ⟨⟨l + 1, by omega, rfl, by go_num, HI19.out⟩, by simp [intOf]; omega⟩
              | (refine ⟨?_, by simp [intOf]; omega⟩; (repeat apply Exists.intro); exact ⟨⟨l + 1, by omega, rfl, by go_num, HI19.out⟩, rfl⟩)
      · obtain rfl : l = 8 := by omega
        go_wp2_with fail
        go_meet
        exact ⟨rfl, HI16.out⟩
  case rest =>
  obtain ⟨rfl, hi⟩ := hcut
  clear HI
  have HI := Lib.hid hi
  clear hi
  go_upto_block 10 with fail
  go_cut [0] (fun s0 wx => s0 = .bool false ∧ Inv w wx)
  case first =>
    go_wp2_with fail
    go_loopw [0, 54] (fun v0 v54 wr => ∃ n : Nat, n ≤ 256 ∧ v0 = .bool false ∧ v54 = .int .i64 n ∧ Inv w wr) (fun _ v54 _ => (256 - intOf v54).toNat)
    case atStart => exact ⟨0, by omega, rfl, rfl, HI.out⟩
    case round =>
      obtain ⟨n, hn, rfl, rfl, hi⟩ := hrel
      clear HI
      obtain ⟨wo, rfl⟩ : ∃ wo : World, wo = wr := ⟨_, rfl⟩
      have HI := Lib.hid hi
      clear hi
      by_cases hlt : n < 256
      · have tl : decide ((n : Int) < 256) = true := decide_eq_true (by omega)
        obtain ⟨u, hu⟩ : ∃ u, u = n % 5 := ⟨_, rfl⟩
        have q4 : (n : Int) % 5 = (u : Int) := by omega
        have q5 : (n : Int).tmod 5 = (u : Int) := by rw [Int.tmod_eq_emod_of_nonneg (by omega)]; exact q4
        clear hu
        go_upto_block 12 with fail
        have hL : InvL w (wo.alloc (.cells #[.int .u8 (n : Nat), .int .u8 0, .int .u8 0, .int .u8 0, .int .u8 1, .int .u8 (n : Nat), .int .u8 0, .int .u8 0, .int .u8 7, .int .u8 0, .int .u8 (n : Nat), .int .u8 0, .int .u8 3, .int .u8 0, .int .u8 0, .int .u8 (n : Nat), .int .u8 0, .int .u8 (n : Nat), .int .u8 0, .int .u8 0, .int .u8 0, .int .u8 0, .int .u8 (n : Nat), .int .u8 0, .int .u8 0, .int .u8 0, .int .u8 0, .int .u8 (n : Nat)] 23)) [(wo.heap.size, 23, #[.int .u8 (n : Nat), .int .u8 0, .int .u8 0, .int .u8 0, .int .u8 1, .int .u8 (n : Nat), .int .u8 0, .int .u8 0, .int .u8 7, .int .u8 0, .int .u8 (n : Nat), .int .u8 0, .int .u8 3, .int .u8 0, .int .u8 0, .int .u8 (n : Nat), .int .u8 0, .int .u8 (n : Nat), .int .u8 0, .int .u8 0, .int .u8 0, .int .u8 0, .int .u8 (n : Nat), .int .u8 0, .int .u8 0, .int .u8 0, .int .u8 0, .int .u8 (n : Nat)])] := InvL.push (L := []) ⟨HI.out, fun _ hx => absurd hx (by simp)⟩ _ _
        generalize wo.alloc (.cells #[.int .u8 (n : Nat), .int .u8 0, .int .u8 0, .int .u8 0, .int .u8 1, .int .u8 (n : Nat), .int .u8 0, .int .u8 0, .int .u8 7, .int .u8 0, .int .u8 (n : Nat), .int .u8 0, .int .u8 3, .int .u8 0, .int .u8 0, .int .u8 (n : Nat), .int .u8 0, .int .u8 (n : Nat), .int .u8 0, .int .u8 0, .int .u8 0, .int .u8 0, .int .u8 (n : Nat), .int .u8 0, .int .u8 0, .int .u8 0, .int .u8 0, .int .u8 (n : Nat)] 23) = w1 at *
        generalize wo.heap.size = ba at *
        have HL := Lib.hid hL
        clear hL HI
        go_cut [0] (fun s0 wx => s0 = .bool false ∧ Inv w wx)
        case first =>
          go_wp2_with fail
          go_loopw [0, 75] (fun v0 v75 wr => ∃ k : Nat, k ≤ 7 ∧ v0 = .bool false ∧ v75 = .int .i64 k ∧ InvL w wr [(ba, 23, #[.int .u8 (n : Nat), .int .u8 0, .int .u8 0, .int .u8 0, .int .u8 1, .int .u8 (n : Nat), .int .u8 0, .int .u8 0, .int .u8 7, .int .u8 0, .int .u8 (n : Nat), .int .u8 0, .int .u8 3, .int .u8 0, .int .u8 0, .int .u8 (n : Nat), .int .u8 0, .int .u8 (n : Nat), .int .u8 0, .int .u8 0, .int .u8 0, .int .u8 0, .int .u8 (n : Nat), .int .u8 0, .int .u8 0, .int .u8 0, .int .u8 0, .int .u8 (n : Nat)])]) (fun _ v75 _ => (7 - intOf v75).toNat)
          case atStart => exact ⟨0, by omega, rfl, rfl, HL.out⟩
          case round =>
            obtain ⟨k, hk, rfl, rfl, hi⟩ := hrel
            clear HL
            obtain ⟨wo1, rfl⟩ : ∃ wo : World, wo = wr := ⟨_, rfl⟩
            have HL := Lib.hid hi
            clear hi
            rcases (by omega : k = 0 ∨ k = 1 ∨ k = 2 ∨ k = 3 ∨ k = 4 ∨ k = 5 ∨ k = 6 ∨ k = 7) with rfl | rfl | rfl | rfl | rfl | rfl | rfl | rfl
            · have S1 : Hid (∀ w, Env w → Calls Tryd.prog 11 #[.agg #[.int .u8 (n : Nat), .int .u8 0, .int .u8 0, .int .u8 0], .int .i64 7, .int .u8 (u : Nat)] w fun e w' => e = .returned (.bool true) ∧ Below w.heap.size w w') := Lib.hid fun w hw => same_any n 0 0 0 u 7 w hw (by omega)
              have S2 : Hid (∀ w, Env w → Calls Tryd.prog 11 #[.agg #[.int .u8 (n : Nat), .int .u8 0, .int .u8 0, .int .u8 0], .int .i64 0, .int .u8 (n : Nat)] w fun e w' => e = .returned (.bool true) ∧ Below w.heap.size w w') := Lib.hid fun w hw => same_any n 0 0 0 n 0 w hw (by omega)
              have c0 := (HL.out.get 0 rfl).cell (j := 0) (v := .int .u8 (n : Nat)) rfl
              have c1 := (HL.out.get 0 rfl).cell (j := 1) (v := .int .u8 0) rfl
              have c2 := (HL.out.get 0 rfl).cell (j := 2) (v := .int .u8 0) rfl
              have c3 := (HL.out.get 0 rfl).cell (j := 3) (v := .int .u8 0) rfl
              go_upto_region 30 with fail
              have h5 := HL.out.push 23 #[.int .u8 (n : Nat), .int .u8 0, .int .u8 0, .int .u8 0]
              generalize wo1.alloc (.cells #[.int .u8 (n : Nat), .int .u8 0, .int .u8 0, .int .u8 0] 23) = W5 at *
              generalize wo1.heap.size = bc at *
              clear c0 c1 c2 c3 HL
              have H5 := Lib.hid h5
              clear h5
              have c0 := (H5.out.get 0 rfl).cell (j := 0) (v := .int .u8 (n : Nat)) rfl
              have c1 := (H5.out.get 0 rfl).cell (j := 1) (v := .int .u8 0) rfl
              have c2 := (H5.out.get 0 rfl).cell (j := 2) (v := .int .u8 0) rfl
              have c3 := (H5.out.get 0 rfl).cell (j := 3) (v := .int .u8 0) rfl
              go_wp2_with fail
              refine (invl_of S1.out H5.out).mono ?_
              rintro e w6 ⟨rfl, h6⟩
              clear c0 c1 c2 c3 H5
              have H6 := Lib.hid h6
              clear h6
              have c0 := (H6.out.get 0 rfl).cell (j := 0) (v := .int .u8 (n : Nat)) rfl
              have c1 := (H6.out.get 0 rfl).cell (j := 1) (v := .int .u8 0) rfl
              have c2 := (H6.out.get 0 rfl).cell (j := 2) (v := .int .u8 0) rfl
              have c3 := (H6.out.get 0 rfl).cell (j := 3) (v := .int .u8 0) rfl
              go_wp2_with fail
              refine (invl_of S2.out H6.out).mono ?_
              rintro e w7 ⟨rfl, h7⟩
              clear c0 c1 c2 c3 H6
              have H7 := Lib.hid (InvL.sub (L' := [(ba, 23, #[.int .u8 (n : Nat), .int .u8 0, .int .u8 0, .int .u8 0, .int .u8 1, .int .u8 (n : Nat), .int .u8 0, .int .u8 0, .int .u8 7, .int .u8 0, .int .u8 (n : Nat), .int .u8 0, .int .u8 3, .int .u8 0, .int .u8 0, .int .u8 (n : Nat), .int .u8 0, .int .u8 (n : Nat), .int .u8 0, .int .u8 0, .int .u8 0, .int .u8 0, .int .u8 (n : Nat), .int .u8 0, .int .u8 0, .int .u8 0, .int .u8 0, .int .u8 (n : Nat)])]) h7 (fun x hx => List.mem_cons_of_mem _ hx))
              clear h7
              go_wp2_with fail
              first
                | exact ⟨⟨1, by omega, rfl, rfl, H7.out⟩, by simp [intOf]⟩
                | (refine ⟨?_, by simp [intOf]⟩; (repeat apply Exists.intro); exact ⟨⟨1, by omega, rfl, rfl, H7.out⟩, rfl⟩)
            · have S1 : Hid (∀ w, Env w → Calls Tryd.prog 11 #[.agg #[.int .u8 1, .int .u8 (n : Nat), .int .u8 0, .int .u8 0], .int .i64 7, .int .u8 (u : Nat)] w fun e w' => e = .returned (.bool true) ∧ Below w.heap.size w w') := Lib.hid fun w hw => same_any 1 n 0 0 u 7 w hw (by omega)
              have S2 : Hid (∀ w, Env w → Calls Tryd.prog 11 #[.agg #[.int .u8 1, .int .u8 (n : Nat), .int .u8 0, .int .u8 0], .int .i64 0, .int .u8 (n : Nat)] w fun e w' => e = .returned (.bool true) ∧ Below w.heap.size w w') := Lib.hid fun w hw => same_any 1 n 0 0 n 0 w hw (by omega)
              have c0 := (HL.out.get 0 rfl).cell (j := 4) (v := .int .u8 1) rfl
              have c1 := (HL.out.get 0 rfl).cell (j := 5) (v := .int .u8 (n : Nat)) rfl
              have c2 := (HL.out.get 0 rfl).cell (j := 6) (v := .int .u8 0) rfl
              have c3 := (HL.out.get 0 rfl).cell (j := 7) (v := .int .u8 0) rfl
              go_upto_region 30 with fail
              have h5 := HL.out.push 23 #[.int .u8 1, .int .u8 (n : Nat), .int .u8 0, .int .u8 0]
              generalize wo1.alloc (.cells #[.int .u8 1, .int .u8 (n : Nat), .int .u8 0, .int .u8 0] 23) = W5 at *
              generalize wo1.heap.size = bc at *
              clear c0 c1 c2 c3 HL
              have H5 := Lib.hid h5
              clear h5
              have c0 := (H5.out.get 0 rfl).cell (j := 0) (v := .int .u8 1) rfl
              have c1 := (H5.out.get 0 rfl).cell (j := 1) (v := .int .u8 (n : Nat)) rfl
              have c2 := (H5.out.get 0 rfl).cell (j := 2) (v := .int .u8 0) rfl
              have c3 := (H5.out.get 0 rfl).cell (j := 3) (v := .int .u8 0) rfl
              go_wp2_with fail
              refine (invl_of S1.out H5.out).mono ?_
              rintro e w6 ⟨rfl, h6⟩
              clear c0 c1 c2 c3 H5
              have H6 := Lib.hid h6
              clear h6
              have c0 := (H6.out.get 0 rfl).cell (j := 0) (v := .int .u8 1) rfl
              have c1 := (H6.out.get 0 rfl).cell (j := 1) (v := .int .u8 (n : Nat)) rfl
              have c2 := (H6.out.get 0 rfl).cell (j := 2) (v := .int .u8 0) rfl
              have c3 := (H6.out.get 0 rfl).cell (j := 3) (v := .int .u8 0) rfl
              go_wp2_with fail
              refine (invl_of S2.out H6.out).mono ?_
              rintro e w7 ⟨rfl, h7⟩
              clear c0 c1 c2 c3 H6
              have H7 := Lib.hid (InvL.sub (L' := [(ba, 23, #[.int .u8 (n : Nat), .int .u8 0, .int .u8 0, .int .u8 0, .int .u8 1, .int .u8 (n : Nat), .int .u8 0, .int .u8 0, .int .u8 7, .int .u8 0, .int .u8 (n : Nat), .int .u8 0, .int .u8 3, .int .u8 0, .int .u8 0, .int .u8 (n : Nat), .int .u8 0, .int .u8 (n : Nat), .int .u8 0, .int .u8 0, .int .u8 0, .int .u8 0, .int .u8 (n : Nat), .int .u8 0, .int .u8 0, .int .u8 0, .int .u8 0, .int .u8 (n : Nat)])]) h7 (fun x hx => List.mem_cons_of_mem _ hx))
              clear h7
              go_wp2_with fail
              first
                | exact ⟨⟨2, by omega, rfl, rfl, H7.out⟩, by simp [intOf]⟩
                | (refine ⟨?_, by simp [intOf]⟩; (repeat apply Exists.intro); exact ⟨⟨2, by omega, rfl, rfl, H7.out⟩, rfl⟩)
            · have S1 : Hid (∀ w, Env w → Calls Tryd.prog 11 #[.agg #[.int .u8 7, .int .u8 0, .int .u8 (n : Nat), .int .u8 0], .int .i64 7, .int .u8 (u : Nat)] w fun e w' => e = .returned (.bool true) ∧ Below w.heap.size w w') := Lib.hid fun w hw => same_any 7 0 n 0 u 7 w hw (by omega)
              have S2 : Hid (∀ w, Env w → Calls Tryd.prog 11 #[.agg #[.int .u8 7, .int .u8 0, .int .u8 (n : Nat), .int .u8 0], .int .i64 0, .int .u8 (n : Nat)] w fun e w' => e = .returned (.bool true) ∧ Below w.heap.size w w') := Lib.hid fun w hw => same_any 7 0 n 0 n 0 w hw (by omega)
              have c0 := (HL.out.get 0 rfl).cell (j := 8) (v := .int .u8 7) rfl
              have c1 := (HL.out.get 0 rfl).cell (j := 9) (v := .int .u8 0) rfl
              have c2 := (HL.out.get 0 rfl).cell (j := 10) (v := .int .u8 (n : Nat)) rfl
              have c3 := (HL.out.get 0 rfl).cell (j := 11) (v := .int .u8 0) rfl
              go_upto_region 30 with fail
              have h5 := HL.out.push 23 #[.int .u8 7, .int .u8 0, .int .u8 (n : Nat), .int .u8 0]
              generalize wo1.alloc (.cells #[.int .u8 7, .int .u8 0, .int .u8 (n : Nat), .int .u8 0] 23) = W5 at *
              generalize wo1.heap.size = bc at *
              clear c0 c1 c2 c3 HL
              have H5 := Lib.hid h5
              clear h5
              have c0 := (H5.out.get 0 rfl).cell (j := 0) (v := .int .u8 7) rfl
              have c1 := (H5.out.get 0 rfl).cell (j := 1) (v := .int .u8 0) rfl
              have c2 := (H5.out.get 0 rfl).cell (j := 2) (v := .int .u8 (n : Nat)) rfl
              have c3 := (H5.out.get 0 rfl).cell (j := 3) (v := .int .u8 0) rfl
              go_wp2_with fail
              refine (invl_of S1.out H5.out).mono ?_
              rintro e w6 ⟨rfl, h6⟩
              clear c0 c1 c2 c3 H5
              have H6 := Lib.hid h6
              clear h6
              have c0 := (H6.out.get 0 rfl).cell (j := 0) (v := .int .u8 7) rfl
              have c1 := (H6.out.get 0 rfl).cell (j := 1) (v := .int .u8 0) rfl
              have c2 := (H6.out.get 0 rfl).cell (j := 2) (v := .int .u8 (n : Nat)) rfl
              have c3 := (H6.out.get 0 rfl).cell (j := 3) (v := .int .u8 0) rfl
              go_wp2_with fail
              refine (invl_of S2.out H6.out).mono ?_
              rintro e w7 ⟨rfl, h7⟩
              clear c0 c1 c2 c3 H6
              have H7 := Lib.hid (InvL.sub (L' := [(ba, 23, #[.int .u8 (n : Nat), .int .u8 0, .int .u8 0, .int .u8 0, .int .u8 1, .int .u8 (n : Nat), .int .u8 0, .int .u8 0, .int .u8 7, .int .u8 0, .int .u8 (n : Nat), .int .u8 0, .int .u8 3, .int .u8 0, .int .u8 0, .int .u8 (n : Nat), .int .u8 0, .int .u8 (n : Nat), .int .u8 0, .int .u8 0, .int .u8 0, .int .u8 0, .int .u8 (n : Nat), .int .u8 0, .int .u8 0, .int .u8 0, .int .u8 0, .int .u8 (n : Nat)])]) h7 (fun x hx => List.mem_cons_of_mem _ hx))
              clear h7
              go_wp2_with fail
              first
                | exact ⟨⟨3, by omega, rfl, rfl, H7.out⟩, by simp [intOf]⟩
                | (refine ⟨?_, by simp [intOf]⟩; (repeat apply Exists.intro); exact ⟨⟨3, by omega, rfl, rfl, H7.out⟩, rfl⟩)
            · have S1 : Hid (∀ w, Env w → Calls Tryd.prog 11 #[.agg #[.int .u8 3, .int .u8 0, .int .u8 0, .int .u8 (n : Nat)], .int .i64 7, .int .u8 (u : Nat)] w fun e w' => e = .returned (.bool true) ∧ Below w.heap.size w w') := Lib.hid fun w hw => same_any 3 0 0 n u 7 w hw (by omega)
              have S2 : Hid (∀ w, Env w → Calls Tryd.prog 11 #[.agg #[.int .u8 3, .int .u8 0, .int .u8 0, .int .u8 (n : Nat)], .int .i64 0, .int .u8 (n : Nat)] w fun e w' => e = .returned (.bool true) ∧ Below w.heap.size w w') := Lib.hid fun w hw => same_any 3 0 0 n n 0 w hw (by omega)
              have c0 := (HL.out.get 0 rfl).cell (j := 12) (v := .int .u8 3) rfl
              have c1 := (HL.out.get 0 rfl).cell (j := 13) (v := .int .u8 0) rfl
              have c2 := (HL.out.get 0 rfl).cell (j := 14) (v := .int .u8 0) rfl
              have c3 := (HL.out.get 0 rfl).cell (j := 15) (v := .int .u8 (n : Nat)) rfl
              go_upto_region 30 with fail
              have h5 := HL.out.push 23 #[.int .u8 3, .int .u8 0, .int .u8 0, .int .u8 (n : Nat)]
              generalize wo1.alloc (.cells #[.int .u8 3, .int .u8 0, .int .u8 0, .int .u8 (n : Nat)] 23) = W5 at *
              generalize wo1.heap.size = bc at *
              clear c0 c1 c2 c3 HL
              have H5 := Lib.hid h5
              clear h5
              have c0 := (H5.out.get 0 rfl).cell (j := 0) (v := .int .u8 3) rfl
              have c1 := (H5.out.get 0 rfl).cell (j := 1) (v := .int .u8 0) rfl
              have c2 := (H5.out.get 0 rfl).cell (j := 2) (v := .int .u8 0) rfl
              have c3 := (H5.out.get 0 rfl).cell (j := 3) (v := .int .u8 (n : Nat)) rfl
              go_wp2_with fail
              refine (invl_of S1.out H5.out).mono ?_
              rintro e w6 ⟨rfl, h6⟩
              clear c0 c1 c2 c3 H5
              have H6 := Lib.hid h6
              clear h6
              have c0 := (H6.out.get 0 rfl).cell (j := 0) (v := .int .u8 3) rfl
              have c1 := (H6.out.get 0 rfl).cell (j := 1) (v := .int .u8 0) rfl
              have c2 := (H6.out.get 0 rfl).cell (j := 2) (v := .int .u8 0) rfl
              have c3 := (H6.out.get 0 rfl).cell (j := 3) (v := .int .u8 (n : Nat)) rfl
              go_wp2_with fail
              refine (invl_of S2.out H6.out).mono ?_
              rintro e w7 ⟨rfl, h7⟩
              clear c0 c1 c2 c3 H6
              have H7 := Lib.hid (InvL.sub (L' := [(ba, 23, #[.int .u8 (n : Nat), .int .u8 0, .int .u8 0, .int .u8 0, .int .u8 1, .int .u8 (n : Nat), .int .u8 0, .int .u8 0, .int .u8 7, .int .u8 0, .int .u8 (n : Nat), .int .u8 0, .int .u8 3, .int .u8 0, .int .u8 0, .int .u8 (n : Nat), .int .u8 0, .int .u8 (n : Nat), .int .u8 0, .int .u8 0, .int .u8 0, .int .u8 0, .int .u8 (n : Nat), .int .u8 0, .int .u8 0, .int .u8 0, .int .u8 0, .int .u8 (n : Nat)])]) h7 (fun x hx => List.mem_cons_of_mem _ hx))
              clear h7
              go_wp2_with fail
              first
                | exact ⟨⟨4, by omega, rfl, rfl, H7.out⟩, by simp [intOf]⟩
                | (refine ⟨?_, by simp [intOf]⟩; (repeat apply Exists.intro); exact ⟨⟨4, by omega, rfl, rfl, H7.out⟩, rfl⟩)
            · have S1 : Hid (∀ w, Env w → Calls Tryd.prog 11 #[.agg #[.int .u8 0, .int .u8 (n : Nat), .int .u8 0, .int .u8 0], .int .i64 7, .int .u8 (u : Nat)] w fun e w' => e = .returned (.bool true) ∧ Below w.heap.size w w') := Lib.hid fun w hw => same_any 0 n 0 0 u 7 w hw (by omega)
              have S2 : Hid (∀ w, Env w → Calls Tryd.prog 11 #[.agg #[.int .u8 0, .int .u8 (n : Nat), .int .u8 0, .int .u8 0], .int .i64 0, .int .u8 (n : Nat)] w fun e w' => e = .returned (.bool true) ∧ Below w.heap.size w w') := Lib.hid fun w hw => same_any 0 n 0 0 n 0 w hw (by omega)
              have c0 := (HL.out.get 0 rfl).cell (j := 16) (v := .int .u8 0) rfl
              have c1 := (HL.out.get 0 rfl).cell (j := 17) (v := .int .u8 (n : Nat)) rfl
              have c2 := (HL.out.get 0 rfl).cell (j := 18) (v := .int .u8 0) rfl
              have c3 := (HL.out.get 0 rfl).cell (j := 19) (v := .int .u8 0) rfl
              go_upto_region 30 with fail
              have h5 := HL.out.push 23 #[.int .u8 0, .int .u8 (n : Nat), .int .u8 0, .int .u8 0]
              generalize wo1.alloc (.cells #[.int .u8 0, .int .u8 (n : Nat), .int .u8 0, .int .u8 0] 23) = W5 at *
              generalize wo1.heap.size = bc at *
              clear c0 c1 c2 c3 HL
              have H5 := Lib.hid h5
              clear h5
              have c0 := (H5.out.get 0 rfl).cell (j := 0) (v := .int .u8 0) rfl
              have c1 := (H5.out.get 0 rfl).cell (j := 1) (v := .int .u8 (n : Nat)) rfl
              have c2 := (H5.out.get 0 rfl).cell (j := 2) (v := .int .u8 0) rfl
              have c3 := (H5.out.get 0 rfl).cell (j := 3) (v := .int .u8 0) rfl
              go_wp2_with fail
              refine (invl_of S1.out H5.out).mono ?_
              rintro e w6 ⟨rfl, h6⟩
              clear c0 c1 c2 c3 H5
              have H6 := Lib.hid h6
              clear h6
              have c0 := (H6.out.get 0 rfl).cell (j := 0) (v := .int .u8 0) rfl
              have c1 := (H6.out.get 0 rfl).cell (j := 1) (v := .int .u8 (n : Nat)) rfl
              have c2 := (H6.out.get 0 rfl).cell (j := 2) (v := .int .u8 0) rfl
              have c3 := (H6.out.get 0 rfl).cell (j := 3) (v := .int .u8 0) rfl
              go_wp2_with fail
              refine (invl_of S2.out H6.out).mono ?_
              rintro e w7 ⟨rfl, h7⟩
              clear c0 c1 c2 c3 H6
              have H7 := Lib.hid (InvL.sub (L' := [(ba, 23, #[.int .u8 (n : Nat), .int .u8 0, .int .u8 0, .int .u8 0, .int .u8 1, .int .u8 (n : Nat), .int .u8 0, .int .u8 0, .int .u8 7, .int .u8 0, .int .u8 (n : Nat), .int .u8 0, .int .u8 3, .int .u8 0, .int .u8 0, .int .u8 (n : Nat), .int .u8 0, .int .u8 (n : Nat), .int .u8 0, .int .u8 0, .int .u8 0, .int .u8 0, .int .u8 (n : Nat), .int .u8 0, .int .u8 0, .int .u8 0, .int .u8 0, .int .u8 (n : Nat)])]) h7 (fun x hx => List.mem_cons_of_mem _ hx))
              clear h7
              go_wp2_with fail
              first
                | exact ⟨⟨5, by omega, rfl, rfl, H7.out⟩, by simp [intOf]⟩
                | (refine ⟨?_, by simp [intOf]⟩; (repeat apply Exists.intro); exact ⟨⟨5, by omega, rfl, rfl, H7.out⟩, rfl⟩)
            · have S1 : Hid (∀ w, Env w → Calls Tryd.prog 11 #[.agg #[.int .u8 0, .int .u8 0, .int .u8 (n : Nat), .int .u8 0], .int .i64 7, .int .u8 (u : Nat)] w fun e w' => e = .returned (.bool true) ∧ Below w.heap.size w w') := Lib.hid fun w hw => same_any 0 0 n 0 u 7 w hw (by omega)
              have S2 : Hid (∀ w, Env w → Calls Tryd.prog 11 #[.agg #[.int .u8 0, .int .u8 0, .int .u8 (n : Nat), .int .u8 0], .int .i64 0, .int .u8 (n : Nat)] w fun e w' => e = .returned (.bool true) ∧ Below w.heap.size w w') := Lib.hid fun w hw => same_any 0 0 n 0 n 0 w hw (by omega)
              have c0 := (HL.out.get 0 rfl).cell (j := 20) (v := .int .u8 0) rfl
              have c1 := (HL.out.get 0 rfl).cell (j := 21) (v := .int .u8 0) rfl
              have c2 := (HL.out.get 0 rfl).cell (j := 22) (v := .int .u8 (n : Nat)) rfl
              have c3 := (HL.out.get 0 rfl).cell (j := 23) (v := .int .u8 0) rfl
              go_upto_region 30 with fail
              have h5 := HL.out.push 23 #[.int .u8 0, .int .u8 0, .int .u8 (n : Nat), .int .u8 0]
              generalize wo1.alloc (.cells #[.int .u8 0, .int .u8 0, .int .u8 (n : Nat), .int .u8 0] 23) = W5 at *
              generalize wo1.heap.size = bc at *
              clear c0 c1 c2 c3 HL
              have H5 := Lib.hid h5
              clear h5
              have c0 := (H5.out.get 0 rfl).cell (j := 0) (v := .int .u8 0) rfl
              have c1 := (H5.out.get 0 rfl).cell (j := 1) (v := .int .u8 0) rfl
              have c2 := (H5.out.get 0 rfl).cell (j := 2) (v := .int .u8 (n : Nat)) rfl
              have c3 := (H5.out.get 0 rfl).cell (j := 3) (v := .int .u8 0) rfl
              go_wp2_with fail
              refine (invl_of S1.out H5.out).mono ?_
              rintro e w6 ⟨rfl, h6⟩
              clear c0 c1 c2 c3 H5
              have H6 := Lib.hid h6
              clear h6
              have c0 := (H6.out.get 0 rfl).cell (j := 0) (v := .int .u8 0) rfl
              have c1 := (H6.out.get 0 rfl).cell (j := 1) (v := .int .u8 0) rfl
              have c2 := (H6.out.get 0 rfl).cell (j := 2) (v := .int .u8 (n : Nat)) rfl
              have c3 := (H6.out.get 0 rfl).cell (j := 3) (v := .int .u8 0) rfl
              go_wp2_with fail
              refine (invl_of S2.out H6.out).mono ?_
              rintro e w7 ⟨rfl, h7⟩
              clear c0 c1 c2 c3 H6
              have H7 := Lib.hid (InvL.sub (L' := [(ba, 23, #[.int .u8 (n : Nat), .int .u8 0, .int .u8 0, .int .u8 0, .int .u8 1, .int .u8 (n : Nat), .int .u8 0, .int .u8 0, .int .u8 7, .int .u8 0, .int .u8 (n : Nat), .int .u8 0, .int .u8 3, .int .u8 0, .int .u8 0, .int .u8 (n : Nat), .int .u8 0, .int .u8 (n : Nat), .int .u8 0, .int .u8 0, .int .u8 0, .int .u8 0, .int .u8 (n : Nat), .int .u8 0, .int .u8 0, .int .u8 0, .int .u8 0, .int .u8 (n : Nat)])]) h7 (fun x hx => List.mem_cons_of_mem _ hx))
              clear h7
              go_wp2_with fail
              first
                | exact ⟨⟨6, by omega, rfl, rfl, H7.out⟩, by simp [intOf]⟩
                | (refine ⟨?_, by simp [intOf]⟩; (repeat apply Exists.intro); exact ⟨⟨6, by omega, rfl, rfl, H7.out⟩, rfl⟩)
            · have S1 : Hid (∀ w, Env w → Calls Tryd.prog 11 #[.agg #[.int .u8 0, .int .u8 0, .int .u8 0, .int .u8 (n : Nat)], .int .i64 7, .int .u8 (u : Nat)] w fun e w' => e = .returned (.bool true) ∧ Below w.heap.size w w') := Lib.hid fun w hw => same_any 0 0 0 n u 7 w hw (by omega)
              have S2 : Hid (∀ w, Env w → Calls Tryd.prog 11 #[.agg #[.int .u8 0, .int .u8 0, .int .u8 0, .int .u8 (n : Nat)], .int .i64 0, .int .u8 (n : Nat)] w fun e w' => e = .returned (.bool true) ∧ Below w.heap.size w w') := Lib.hid fun w hw => same_any 0 0 0 n n 0 w hw (by omega)
              have c0 := (HL.out.get 0 rfl).cell (j := 24) (v := .int .u8 0) rfl
              have c1 := (HL.out.get 0 rfl).cell (j := 25) (v := .int .u8 0) rfl
              have c2 := (HL.out.get 0 rfl).cell (j := 26) (v := .int .u8 0) rfl
              have c3 := (HL.out.get 0 rfl).cell (j := 27) (v := .int .u8 (n : Nat)) rfl
              go_upto_region 30 with fail
              have h5 := HL.out.push 23 #[.int .u8 0, .int .u8 0, .int .u8 0, .int .u8 (n : Nat)]
              generalize wo1.alloc (.cells #[.int .u8 0, .int .u8 0, .int .u8 0, .int .u8 (n : Nat)] 23) = W5 at *
              generalize wo1.heap.size = bc at *
              clear c0 c1 c2 c3 HL
              have H5 := Lib.hid h5
              clear h5
              have c0 := (H5.out.get 0 rfl).cell (j := 0) (v := .int .u8 0) rfl
              have c1 := (H5.out.get 0 rfl).cell (j := 1) (v := .int .u8 0) rfl
              have c2 := (H5.out.get 0 rfl).cell (j := 2) (v := .int .u8 0) rfl
              have c3 := (H5.out.get 0 rfl).cell (j := 3) (v := .int .u8 (n : Nat)) rfl
              go_wp2_with fail
              refine (invl_of S1.out H5.out).mono ?_
              rintro e w6 ⟨rfl, h6⟩
              clear c0 c1 c2 c3 H5
              have H6 := Lib.hid h6
              clear h6
              have c0 := (H6.out.get 0 rfl).cell (j := 0) (v := .int .u8 0) rfl
              have c1 := (H6.out.get 0 rfl).cell (j := 1) (v := .int .u8 0) rfl
              have c2 := (H6.out.get 0 rfl).cell (j := 2) (v := .int .u8 0) rfl
              have c3 := (H6.out.get 0 rfl).cell (j := 3) (v := .int .u8 (n : Nat)) rfl
              go_wp2_with fail
              refine (invl_of S2.out H6.out).mono ?_
              rintro e w7 ⟨rfl, h7⟩
              clear c0 c1 c2 c3 H6
              have H7 := Lib.hid (InvL.sub (L' := [(ba, 23, #[.int .u8 (n : Nat), .int .u8 0, .int .u8 0, .int .u8 0, .int .u8 1, .int .u8 (n : Nat), .int .u8 0, .int .u8 0, .int .u8 7, .int .u8 0, .int .u8 (n : Nat), .int .u8 0, .int .u8 3, .int .u8 0, .int .u8 0, .int .u8 (n : Nat), .int .u8 0, .int .u8 (n : Nat), .int .u8 0, .int .u8 0, .int .u8 0, .int .u8 0, .int .u8 (n : Nat), .int .u8 0, .int .u8 0, .int .u8 0, .int .u8 0, .int .u8 (n : Nat)])]) h7 (fun x hx => List.mem_cons_of_mem _ hx))
              clear h7
              go_wp2_with fail
              first
                | exact ⟨⟨7, by omega, rfl, rfl, H7.out⟩, by simp [intOf]⟩
                | (refine ⟨?_, by simp [intOf]⟩; (repeat apply Exists.intro); exact ⟨⟨7, by omega, rfl, rfl, H7.out⟩, rfl⟩)
            · go_wp2_with fail
              go_meet
              exact ⟨rfl, HL.out.inv⟩
        case rest =>
        obtain ⟨rfl, hi⟩ := hcut
        clear HL
        have HI := Lib.hid hi
        clear hi q4 q5
        obtain ⟨X, hX, one⟩ := one_ex n (by omega)
        go_upto_region 34 with fail
        have h3 : Inv w (wc.alloc (.cells #[.int .u8 (n : Nat)] 5)) := HI.out.alloc _
        generalize wc.alloc (.cells #[.int .u8 (n : Nat)] 5) = w3 at *
        clear one HI
        have HI := Lib.hid h3
        clear h3
        go_upto_block 14 with fail
        have hB : InvB w (w3.alloc (.cells #[.string (X ++ ⟨#[83, 32, 78, 32, 61]⟩), .string (⟨#[52]⟩ ++ X ++ ⟨#[32, 78, 32, 61]⟩), .string (⟨#[52, 83]⟩ ++ X ++ ⟨#[78, 32, 61]⟩), .string (⟨#[52, 83, 32]⟩ ++ X ++ ⟨#[32, 61]⟩), .string (⟨#[52, 83, 32, 78]⟩ ++ X ++ ⟨#[61]⟩), .string (⟨#[52, 83, 32, 78, 32]⟩ ++ X), .string (⟨#[52, 83, 32, 78, 32, 45]⟩ ++ X), .string (⟨#[52, 83, 32, 78, 32, 43, 49]⟩ ++ X), .string (⟨#[52, 83, 88]⟩ ++ X ++ ⟨#[32, 78, 32, 43, 50]⟩), .string (X), .string (⟨#[112, 97, 115, 115]⟩ ++ X), .string (X ++ ⟨#[112, 97, 115, 115]⟩), .string (⟨#[49, 67, 32, 78, 32, 45]⟩ ++ X ++ ⟨#[48]⟩)] 9)) w3.heap.size 9 #[.string (X ++ ⟨#[83, 32, 78, 32, 61]⟩), .string (⟨#[52]⟩ ++ X ++ ⟨#[32, 78, 32, 61]⟩), .string (⟨#[52, 83]⟩ ++ X ++ ⟨#[78, 32, 61]⟩), .string (⟨#[52, 83, 32]⟩ ++ X ++ ⟨#[32, 61]⟩), .string (⟨#[52, 83, 32, 78]⟩ ++ X ++ ⟨#[61]⟩), .string (⟨#[52, 83, 32, 78, 32]⟩ ++ X), .string (⟨#[52, 83, 32, 78, 32, 45]⟩ ++ X), .string (⟨#[52, 83, 32, 78, 32, 43, 49]⟩ ++ X), .string (⟨#[52, 83, 88]⟩ ++ X ++ ⟨#[32, 78, 32, 43, 50]⟩), .string (X), .string (⟨#[112, 97, 115, 115]⟩ ++ X), .string (X ++ ⟨#[112, 97, 115, 115]⟩), .string (⟨#[49, 67, 32, 78, 32, 45]⟩ ++ X ++ ⟨#[48]⟩)] := ⟨HI.out.alloc _, Blk.new _ _ _⟩
        obtain ⟨S, hS⟩ := all_strs 30 [(X ++ ⟨#[83, 32, 78, 32, 61]⟩ : ByteArray), (⟨#[52]⟩ ++ X ++ ⟨#[32, 78, 32, 61]⟩ : ByteArray), (⟨#[52, 83]⟩ ++ X ++ ⟨#[78, 32, 61]⟩ : ByteArray), (⟨#[52, 83, 32]⟩ ++ X ++ ⟨#[32, 61]⟩ : ByteArray), (⟨#[52, 83, 32, 78]⟩ ++ X ++ ⟨#[61]⟩ : ByteArray), (⟨#[52, 83, 32, 78, 32]⟩ ++ X : ByteArray), (⟨#[52, 83, 32, 78, 32, 45]⟩ ++ X : ByteArray), (⟨#[52, 83, 32, 78, 32, 43, 49]⟩ ++ X : ByteArray), (⟨#[52, 83, 88]⟩ ++ X ++ ⟨#[32, 78, 32, 43, 50]⟩ : ByteArray), (X : ByteArray), (⟨#[112, 97, 115, 115]⟩ ++ X : ByteArray), (X ++ ⟨#[112, 97, 115, 115]⟩ : ByteArray), (⟨#[49, 67, 32, 78, 32, 45]⟩ ++ X ++ ⟨#[48]⟩ : ByteArray)] (by
          intro s hs
          simp only [List.mem_cons, List.not_mem_nil, or_false] at hs
          rcases hs with rfl | rfl | rfl | rfl | rfl | rfl | rfl | rfl | rfl | rfl | rfl | rfl | rfl <;> simp only [ByteArray.size_append, hX] <;> decide)
        simp only [List.map_cons, List.map_nil, List.length_cons, List.length_nil, Nat.zero_add, Nat.reduceAdd] at hS
        change ∀ k, k < 13 → (#[.string (X ++ ⟨#[83, 32, 78, 32, 61]⟩), .string (⟨#[52]⟩ ++ X ++ ⟨#[32, 78, 32, 61]⟩), .string (⟨#[52, 83]⟩ ++ X ++ ⟨#[78, 32, 61]⟩), .string (⟨#[52, 83, 32]⟩ ++ X ++ ⟨#[32, 61]⟩), .string (⟨#[52, 83, 32, 78]⟩ ++ X ++ ⟨#[61]⟩), .string (⟨#[52, 83, 32, 78, 32]⟩ ++ X), .string (⟨#[52, 83, 32, 78, 32, 45]⟩ ++ X), .string (⟨#[52, 83, 32, 78, 32, 43, 49]⟩ ++ X), .string (⟨#[52, 83, 88]⟩ ++ X ++ ⟨#[32, 78, 32, 43, 50]⟩), .string (X), .string (⟨#[112, 97, 115, 115]⟩ ++ X), .string (X ++ ⟨#[112, 97, 115, 115]⟩), .string (⟨#[49, 67, 32, 78, 32, 45]⟩ ++ X ++ ⟨#[48]⟩)] : Array Value)[k]? = _ ∧ _ at hS
        generalize w3.alloc (.cells #[.string (X ++ ⟨#[83, 32, 78, 32, 61]⟩), .string (⟨#[52]⟩ ++ X ++ ⟨#[32, 78, 32, 61]⟩), .string (⟨#[52, 83]⟩ ++ X ++ ⟨#[78, 32, 61]⟩), .string (⟨#[52, 83, 32]⟩ ++ X ++ ⟨#[32, 61]⟩), .string (⟨#[52, 83, 32, 78]⟩ ++ X ++ ⟨#[61]⟩), .string (⟨#[52, 83, 32, 78, 32]⟩ ++ X), .string (⟨#[52, 83, 32, 78, 32, 45]⟩ ++ X), .string (⟨#[52, 83, 32, 78, 32, 43, 49]⟩ ++ X), .string (⟨#[52, 83, 88]⟩ ++ X ++ ⟨#[32, 78, 32, 43, 50]⟩), .string (X), .string (⟨#[112, 97, 115, 115]⟩ ++ X), .string (X ++ ⟨#[112, 97, 115, 115]⟩), .string (⟨#[49, 67, 32, 78, 32, 45]⟩ ++ X ++ ⟨#[48]⟩)] 9) = w4 at *
        generalize w3.heap.size = bs at *
        generalize (#[.string (X ++ ⟨#[83, 32, 78, 32, 61]⟩), .string (⟨#[52]⟩ ++ X ++ ⟨#[32, 78, 32, 61]⟩), .string (⟨#[52, 83]⟩ ++ X ++ ⟨#[78, 32, 61]⟩), .string (⟨#[52, 83, 32]⟩ ++ X ++ ⟨#[32, 61]⟩), .string (⟨#[52, 83, 32, 78]⟩ ++ X ++ ⟨#[61]⟩), .string (⟨#[52, 83, 32, 78, 32]⟩ ++ X), .string (⟨#[52, 83, 32, 78, 32, 45]⟩ ++ X), .string (⟨#[52, 83, 32, 78, 32, 43, 49]⟩ ++ X), .string (⟨#[52, 83, 88]⟩ ++ X ++ ⟨#[32, 78, 32, 43, 50]⟩), .string (X), .string (⟨#[112, 97, 115, 115]⟩ ++ X), .string (X ++ ⟨#[112, 97, 115, 115]⟩), .string (⟨#[49, 67, 32, 78, 32, 45]⟩ ++ X ++ ⟨#[48]⟩)] : Array Value) = AR at *
        clear HI
        have HB := Lib.hid hB
        have HS := Lib.hid hS
        clear hB hS hX
        go_wp2_with fail
        go_loopw [0, 127] (fun v0 v127 wr => ∃ k : Nat, k ≤ 13 ∧ v0 = .bool false ∧ v127 = .int .i64 k ∧ InvB w wr bs 9 AR) (fun _ v127 _ => (13 - intOf v127).toNat)
        case atStart => exact ⟨0, by omega, rfl, rfl, HB.out⟩
        case round =>
          obtain ⟨k, hk, rfl, rfl, hi⟩ := hrel
          clear HB
          obtain ⟨wo1, rfl⟩ : ∃ wo : World, wo = wr := ⟨_, rfl⟩
          have HB := Lib.hid hi
          clear hi
          by_cases hlk : k < 13
          · have tk : decide ((k : Int) < 13) = true := decide_eq_true (by omega)
            obtain ⟨hs1, hs2⟩ := HS.out k hlk
            have ck := HB.out.blk.cell (j := k) hs1
            have RC := Lib.hid (fun w hw => reads_any (S k) w hw (by omega))
            clear hs1 hs2
            by_cases h3 : n % 3 = 0
            · have q3 : ((n : Int) % 3 == 0) = true := beq_iff_eq.2 (by omega)
              clear h3
              go_wp2_with fail
              refine (invb_of RC.out HB.out).mono ?_
              rintro e w6 ⟨rfl, h6⟩
              clear ck HB
              have H6 := Lib.hid h6
              clear h6
              go_wp2_with fail
              first
                | exact ⟨⟨k + 1, by omega, rfl, by go_num, H6.out⟩, by simp [intOf]; omega⟩
                | (refine ⟨?_, by simp [intOf]; omega⟩; (repeat apply Exists.intro); exact ⟨⟨k + 1, by omega, rfl, by go_num, H6.out⟩, rfl⟩)
            · have q3 : ((n : Int) % 3 == 0) = false := beq_eq_false_iff_ne.2 (by omega)
              clear h3
              go_wp2_with fail
              first
                | exact ⟨⟨k + 1, by omega, rfl, by go_num, HB.out⟩, by simp [intOf]; omega⟩
                | (refine ⟨?_, by simp [intOf]; omega⟩; (repeat apply Exists.intro); exact ⟨⟨k + 1, by omega, rfl, by go_num, HB.out⟩, rfl⟩)
          · obtain rfl : k = 13 := by omega
            go_wp2_with fail
            first
              | exact ⟨⟨n + 1, by omega, rfl, by go_num, HB.out.inv⟩, by simp [intOf]; omega⟩
              | (refine ⟨?_, by simp [intOf]; omega⟩; (repeat apply Exists.intro); exact ⟨⟨n + 1, by omega, rfl, by go_num, HB.out.inv⟩, rfl⟩)
      · obtain rfl : n = 256 := by omega
        go_wp2_with fail
        go_meet
        exact ⟨rfl, HI.out⟩
  case rest =>
  obtain ⟨rfl, hi⟩ := hcut
  clear HI
  have HI := Lib.hid hi
  clear hi
  go_upto_block 16 with fail
  have hB : InvB w (wc.alloc (.cells #[.string ⟨#[]⟩, .string ⟨#[112, 97, 115, 115]⟩, .string ⟨#[112, 97, 115, 115, 32, 61]⟩, .string ⟨#[55, 78, 32, 87]⟩, .string ⟨#[55, 78, 32, 87, 32, 45, 49, 51]⟩, .string ⟨#[55, 78, 32, 87, 32, 45, 49, 52]⟩, .string ⟨#[49, 67, 32, 78, 32, 43, 54]⟩, .string ⟨#[49, 67, 32, 78, 32, 43, 55]⟩, .string ⟨#[52, 83, 32, 78, 32, 61, 32]⟩, .string ⟨#[52, 83, 32, 78, 32, 32, 61]⟩, .string ⟨#[52, 83, 32, 78, 32, 43, 48, 49]⟩, .string ⟨#[52, 83, 32, 78, 32, 43, 45, 49]⟩, .string ⟨#[52, 83, 32, 78, 32, 45, 45, 49]⟩, .string ⟨#[52, 83, 32, 78, 32, 49]⟩, .string ⟨#[52, 83, 32, 78, 32, 43, 57, 50, 50, 51, 51, 55, 50, 48, 51, 54, 56, 53, 52, 55, 55, 53, 56, 48, 55]⟩, .string ⟨#[52, 83, 32, 78, 32, 45, 57, 57, 57, 57, 57, 57, 57, 57, 57, 57, 57, 57, 57, 57, 57, 57, 57, 57, 57, 57]⟩, .string ⟨#[48, 67, 32, 78, 32, 61]⟩, .string ⟨#[52, 83, 88, 88, 88, 32, 78]⟩, .string ⟨#[52, 88, 88, 32, 78]⟩, .string ⟨#[80, 65, 83, 83]⟩] 9)) wc.heap.size 9 #[.string ⟨#[]⟩, .string ⟨#[112, 97, 115, 115]⟩, .string ⟨#[112, 97, 115, 115, 32, 61]⟩, .string ⟨#[55, 78, 32, 87]⟩, .string ⟨#[55, 78, 32, 87, 32, 45, 49, 51]⟩, .string ⟨#[55, 78, 32, 87, 32, 45, 49, 52]⟩, .string ⟨#[49, 67, 32, 78, 32, 43, 54]⟩, .string ⟨#[49, 67, 32, 78, 32, 43, 55]⟩, .string ⟨#[52, 83, 32, 78, 32, 61, 32]⟩, .string ⟨#[52, 83, 32, 78, 32, 32, 61]⟩, .string ⟨#[52, 83, 32, 78, 32, 43, 48, 49]⟩, .string ⟨#[52, 83, 32, 78, 32, 43, 45, 49]⟩, .string ⟨#[52, 83, 32, 78, 32, 45, 45, 49]⟩, .string ⟨#[52, 83, 32, 78, 32, 49]⟩, .string ⟨#[52, 83, 32, 78, 32, 43, 57, 50, 50, 51, 51, 55, 50, 48, 51, 54, 56, 53, 52, 55, 55, 53, 56, 48, 55]⟩, .string ⟨#[52, 83, 32, 78, 32, 45, 57, 57, 57, 57, 57, 57, 57, 57, 57, 57, 57, 57, 57, 57, 57, 57, 57, 57, 57, 57]⟩, .string ⟨#[48, 67, 32, 78, 32, 61]⟩, .string ⟨#[52, 83, 88, 88, 88, 32, 78]⟩, .string ⟨#[52, 88, 88, 32, 78]⟩, .string ⟨#[80, 65, 83, 83]⟩] := ⟨HI.out.alloc _, Blk.new _ _ _⟩
  obtain ⟨S, hS⟩ := all_strs 60 [(⟨#[]⟩ : ByteArray), (⟨#[112, 97, 115, 115]⟩ : ByteArray), (⟨#[112, 97, 115, 115, 32, 61]⟩ : ByteArray), (⟨#[55, 78, 32, 87]⟩ : ByteArray), (⟨#[55, 78, 32, 87, 32, 45, 49, 51]⟩ : ByteArray), (⟨#[55, 78, 32, 87, 32, 45, 49, 52]⟩ : ByteArray), (⟨#[49, 67, 32, 78, 32, 43, 54]⟩ : ByteArray), (⟨#[49, 67, 32, 78, 32, 43, 55]⟩ : ByteArray), (⟨#[52, 83, 32, 78, 32, 61, 32]⟩ : ByteArray), (⟨#[52, 83, 32, 78, 32, 32, 61]⟩ : ByteArray), (⟨#[52, 83, 32, 78, 32, 43, 48, 49]⟩ : ByteArray), (⟨#[52, 83, 32, 78, 32, 43, 45, 49]⟩ : ByteArray), (⟨#[52, 83, 32, 78, 32, 45, 45, 49]⟩ : ByteArray), (⟨#[52, 83, 32, 78, 32, 49]⟩ : ByteArray), (⟨#[52, 83, 32, 78, 32, 43, 57, 50, 50, 51, 51, 55, 50, 48, 51, 54, 56, 53, 52, 55, 55, 53, 56, 48, 55]⟩ : ByteArray), (⟨#[52, 83, 32, 78, 32, 45, 57, 57, 57, 57, 57, 57, 57, 57, 57, 57, 57, 57, 57, 57, 57, 57, 57, 57, 57, 57]⟩ : ByteArray), (⟨#[48, 67, 32, 78, 32, 61]⟩ : ByteArray), (⟨#[52, 83, 88, 88, 88, 32, 78]⟩ : ByteArray), (⟨#[52, 88, 88, 32, 78]⟩ : ByteArray), (⟨#[80, 65, 83, 83]⟩ : ByteArray)] (by decide)
  change ∀ k, k < 20 → (#[.string ⟨#[]⟩, .string ⟨#[112, 97, 115, 115]⟩, .string ⟨#[112, 97, 115, 115, 32, 61]⟩, .string ⟨#[55, 78, 32, 87]⟩, .string ⟨#[55, 78, 32, 87, 32, 45, 49, 51]⟩, .string ⟨#[55, 78, 32, 87, 32, 45, 49, 52]⟩, .string ⟨#[49, 67, 32, 78, 32, 43, 54]⟩, .string ⟨#[49, 67, 32, 78, 32, 43, 55]⟩, .string ⟨#[52, 83, 32, 78, 32, 61, 32]⟩, .string ⟨#[52, 83, 32, 78, 32, 32, 61]⟩, .string ⟨#[52, 83, 32, 78, 32, 43, 48, 49]⟩, .string ⟨#[52, 83, 32, 78, 32, 43, 45, 49]⟩, .string ⟨#[52, 83, 32, 78, 32, 45, 45, 49]⟩, .string ⟨#[52, 83, 32, 78, 32, 49]⟩, .string ⟨#[52, 83, 32, 78, 32, 43, 57, 50, 50, 51, 51, 55, 50, 48, 51, 54, 56, 53, 52, 55, 55, 53, 56, 48, 55]⟩, .string ⟨#[52, 83, 32, 78, 32, 45, 57, 57, 57, 57, 57, 57, 57, 57, 57, 57, 57, 57, 57, 57, 57, 57, 57, 57, 57, 57]⟩, .string ⟨#[48, 67, 32, 78, 32, 61]⟩, .string ⟨#[52, 83, 88, 88, 88, 32, 78]⟩, .string ⟨#[52, 88, 88, 32, 78]⟩, .string ⟨#[80, 65, 83, 83]⟩] : Array Value)[k]? = _ ∧ _ at hS
  generalize wc.alloc (.cells #[.string ⟨#[]⟩, .string ⟨#[112, 97, 115, 115]⟩, .string ⟨#[112, 97, 115, 115, 32, 61]⟩, .string ⟨#[55, 78, 32, 87]⟩, .string ⟨#[55, 78, 32, 87, 32, 45, 49, 51]⟩, .string ⟨#[55, 78, 32, 87, 32, 45, 49, 52]⟩, .string ⟨#[49, 67, 32, 78, 32, 43, 54]⟩, .string ⟨#[49, 67, 32, 78, 32, 43, 55]⟩, .string ⟨#[52, 83, 32, 78, 32, 61, 32]⟩, .string ⟨#[52, 83, 32, 78, 32, 32, 61]⟩, .string ⟨#[52, 83, 32, 78, 32, 43, 48, 49]⟩, .string ⟨#[52, 83, 32, 78, 32, 43, 45, 49]⟩, .string ⟨#[52, 83, 32, 78, 32, 45, 45, 49]⟩, .string ⟨#[52, 83, 32, 78, 32, 49]⟩, .string ⟨#[52, 83, 32, 78, 32, 43, 57, 50, 50, 51, 51, 55, 50, 48, 51, 54, 56, 53, 52, 55, 55, 53, 56, 48, 55]⟩, .string ⟨#[52, 83, 32, 78, 32, 45, 57, 57, 57, 57, 57, 57, 57, 57, 57, 57, 57, 57, 57, 57, 57, 57, 57, 57, 57, 57]⟩, .string ⟨#[48, 67, 32, 78, 32, 61]⟩, .string ⟨#[52, 83, 88, 88, 88, 32, 78]⟩, .string ⟨#[52, 88, 88, 32, 78]⟩, .string ⟨#[80, 65, 83, 83]⟩] 9) = w4 at *
  generalize wc.heap.size = bs at *
  generalize (#[.string ⟨#[]⟩, .string ⟨#[112, 97, 115, 115]⟩, .string ⟨#[112, 97, 115, 115, 32, 61]⟩, .string ⟨#[55, 78, 32, 87]⟩, .string ⟨#[55, 78, 32, 87, 32, 45, 49, 51]⟩, .string ⟨#[55, 78, 32, 87, 32, 45, 49, 52]⟩, .string ⟨#[49, 67, 32, 78, 32, 43, 54]⟩, .string ⟨#[49, 67, 32, 78, 32, 43, 55]⟩, .string ⟨#[52, 83, 32, 78, 32, 61, 32]⟩, .string ⟨#[52, 83, 32, 78, 32, 32, 61]⟩, .string ⟨#[52, 83, 32, 78, 32, 43, 48, 49]⟩, .string ⟨#[52, 83, 32, 78, 32, 43, 45, 49]⟩, .string ⟨#[52, 83, 32, 78, 32, 45, 45, 49]⟩, .string ⟨#[52, 83, 32, 78, 32, 49]⟩, .string ⟨#[52, 83, 32, 78, 32, 43, 57, 50, 50, 51, 51, 55, 50, 48, 51, 54, 56, 53, 52, 55, 55, 53, 56, 48, 55]⟩, .string ⟨#[52, 83, 32, 78, 32, 45, 57, 57, 57, 57, 57, 57, 57, 57, 57, 57, 57, 57, 57, 57, 57, 57, 57, 57, 57, 57]⟩, .string ⟨#[48, 67, 32, 78, 32, 61]⟩, .string ⟨#[52, 83, 88, 88, 88, 32, 78]⟩, .string ⟨#[52, 88, 88, 32, 78]⟩, .string ⟨#[80, 65, 83, 83]⟩] : Array Value) = AR at *
  clear HI
  have HB := Lib.hid hB
  have HS := Lib.hid hS
  clear hB hS
  go_wp2_with fail
  go_loopw [0, 143] (fun v0 v143 wr => ∃ k : Nat, k ≤ 20 ∧ v0 = .bool false ∧ v143 = .int .i64 k ∧ InvB w wr bs 9 AR) (fun _ v143 _ => (20 - intOf v143).toNat)
  case atStart => exact ⟨0, by omega, rfl, rfl, HB.out⟩
  case round =>
    obtain ⟨k, hk, rfl, rfl, hi⟩ := hrel
    clear HB
    have HB := Lib.hid hi
    clear hi
    by_cases hlk : k < 20
    · have tk : decide ((k : Int) < 20) = true := decide_eq_true (by omega)
      obtain ⟨hs1, hs2⟩ := HS.out k hlk
      have ck := HB.out.blk.cell (j := k) hs1
      have RC := Lib.hid (fun w hw => reads_any (S k) w hw (by omega))
      clear hs1 hs2
      go_wp2_with fail
      refine (invb_of RC.out HB.out).mono ?_
      rintro e w6 ⟨rfl, h6⟩
      clear ck HB
      have H6 := Lib.hid h6
      clear h6
      go_wp2_with fail
      first
        | exact ⟨⟨k + 1, by omega, rfl, by go_num, H6.out⟩, by simp [intOf]; omega⟩
        | (refine ⟨?_, by simp [intOf]; omega⟩; (repeat apply Exists.intro); exact ⟨⟨k + 1, by omega, rfl, by go_num, H6.out⟩, rfl⟩)
    · obtain rfl : k = 20 := by omega
      go_wp2_with fail
      refine (awake_i HB.out.inv).mono ?_
      rintro e w7 ⟨rfl, h7⟩
      go_wp2_with fail
      go_ret
      exact ⟨rfl, h7.below⟩
end Go.Proofs.YtgmofikhndlhcaaDoor
