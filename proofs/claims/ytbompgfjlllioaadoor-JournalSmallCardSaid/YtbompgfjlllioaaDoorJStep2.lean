/- One step of does: Open and Repair, the program's and the reference's contracts. -/
import Derived.Test.YtbompgfjlllioaaDoorJStep
namespace Go.Proofs.YtbompgfjlllioaaDoor
open Go Go.RowKit

def openCode (bs : List UInt8) (pow : Int) : Int := if (scanS (linesL bs)).ok then (if (scanS (linesL bs)).size < bs.length ∧ pow = 0 then 420 else 0) else 421
def openS (bs : List UInt8) (pow : Int) : JS := ⟨bs.take (scanS (linesL bs)).size, cutPow bs.length (scanS (linesL bs)).size pow, (scanS (linesL bs)).recs, (scanS (linesL bs)).last, (scanS (linesL bs)).size, false⟩
def repCode (bs : List UInt8) (pow : Int) : Int := if (scanS (linesL bs)).size < bs.length ∧ pow = 0 then 420 else 0
def repN (bs : List UInt8) (pow : Int) : Int := if (scanS (linesL bs)).size < bs.length ∧ pow = 0 then 0 else (bs.length : Int) - ((scanS (linesL bs)).size : Nat)
theorem JR.mono {w0 w : World} {rp yp : Nat} {pow : Int} {bs : List UInt8} {recs : List (List UInt8)} {last size : Nat} {closed : Bool} {rb yv : Value} {L L' : List Nat} (h : JR w0 w rp yp pow bs recs last size closed rb yv L) (hs : ∀ x ∈ L', x ∈ L) : JR w0 w rp yp pow bs recs last size closed rb yv L' :=
  ⟨h.rd, h.rl, fun x hx => h.apart x (hs x hx), h.below, h.rp0, h.yp0⟩
theorem LG.dn {w : World} {B lp dp : Nat} {bs : List UInt8} {pow : Int} {recs : List (List UInt8)} {last size : Int} {closed : Bool} {dv rv bv : Value} (h : LG w B lp dp bs pow recs last size closed dv rv bv) : DN w B dp dv pow bs := ⟨h.disk, h.bytes, h.bd⟩
theorem pld_plg {lp dp : Nat} {rv bv dv : Value} : ∀ x ∈ PLd dp dv, x ∈ PLg lp dp rv bv dv := by
  intro x hx
  simp only [PLd, List.mem_cons, Option.mem_toList] at hx
  rcases hx with rfl | hx
  · simp [PLg, OL]
  · simp [PLg, hx]
theorem cutPow_b {bs : List UInt8} {pow : Int} {n : Nat} (h0 : -9223372036854775808 ≤ pow) (h1 : pow ≤ 9223372036854775807) : -9223372036854775808 ≤ cutPow bs.length n pow ∧ cutPow bs.length n pow ≤ 9223372036854775807 := by
  unfold cutPow lessP
  split
  · exact ⟨h0, h1⟩
  · split <;> omega
section
variable {w0 w : World} {dp rp yp : Nat} {pow : Int} {bs : List UInt8} {s' : JS} {dv rb yv : Value}
/-- The program's Open. -/
theorem popen_js (hd : DN w w0.heap.size dp dv pow bs) (hr : JRs w0 w rp yp s' rb yv (PLd dp dv)) (he : Env w) (hb : bs.length ≤ 500000) (hp0 : -9223372036854775808 ≤ pow) (hp1 : pow ≤ 9223372036854775807) :
    Calls Tryd.prog 13 #[.pointer (some ⟨dp, 0, none⟩)] w (fun e w' =>
      (openCode bs pow = 0 → ∃ lp dv' rv', e = .returned (.tuple #[.pointer (some ⟨lp, 0, none⟩), .int .i64 0]) ∧ LGs w' w0.heap.size lp dp (openS bs pow) dv' rv' (.slice none 0 0) ∧ JRs w0 w' rp yp s' rb yv (PLg lp dp rv' (.slice none 0 0) dv')) ∧
      (openCode bs pow ≠ 0 → e = .returned (.tuple #[.pointer none, .int .i64 (openCode bs pow)]) ∧ DN w' w0.heap.size dp dv pow bs ∧ JRs w0 w' rp yp s' rb yv (PLd dp dv))) := by
  rcases hok : (scanS (linesL bs)).ok with _ | _
  · have hc : openCode bs pow = 421 := by unfold openCode; rw [hok]; rfl
    rw [hc]
    refine (open_bad dp dv bs pow w w0.heap.size (by omega) hok he hd.disk hd.bytes).mono ?_
    rintro e w' ⟨rfl, h⟩
    exact ⟨fun h => absurd h (by decide), fun _ => ⟨rfl, hd.keep h, hr.keep h⟩⟩
  · have hle := scan_le bs
    by_cases hsz : (scanS (linesL bs)).size < bs.length ∧ pow = 0
    · have hc : openCode bs pow = 420 := by unfold openCode; rw [hok, if_pos rfl, if_pos hsz]
      rw [hc]
      obtain ⟨hs1, rfl⟩ := hsz
      obtain ⟨A, c, rfl⟩ := hd.bytes.bv.len
      refine (open_nopower dp bs 0 w w0.heap.size A c (by omega) hok he hd.disk hd.bytes (fun W hW => cut_none dp A bs.length c (scanS (linesL bs)).size W hs1 hW)).mono ?_
      rintro e w' ⟨rfl, h⟩
      exact ⟨fun h => absurd h (by decide), fun _ => ⟨rfl, hd.keep h, hr.keep h⟩⟩
    · have hc : openCode bs pow = 0 := by unfold openCode; rw [hok, if_pos rfl, if_neg hsz]
      rw [hc]
      refine (open_lg2 (by omega) hok he hd.disk hd.bytes hd.bd (by
        rcases Nat.lt_or_ge (scanS (linesL bs)).size bs.length with h1 | h1
        · exact .inr (fun h2 => hsz ⟨h1, h2⟩)
        · exact .inl (by omega)) hp0 hp1).mono ?_
      rintro e w' ⟨lp, dv', rv, rfl, hlp, hlg, hfr, hrv, hdv⟩
      refine ⟨fun _ => ⟨lp, dv', rv, rfl, hlg, ?_⟩, fun h => absurd rfl h⟩
      refine hr.prog hfr (fun x hx => by obtain rfl : x = dp := (by simpa using hx); simp [PLd]) (fun x hx => by obtain rfl : x = dp := (by simpa using hx); exact hd.bd) (fun x hx => ?_)
      simp only [PLg, OL, List.mem_cons, List.mem_append, Option.mem_toList] at hx
      rcases hx with (rfl | rfl | hx | hx) | hx
      · exact .inr hlp
      · exact .inl (by simp [PLd])
      · exact .inr (hrv x hx)
      · simp [Value.ownBlock] at hx
      · exact .inl (by simp [PLd, hdv x hx])
/-- The program's Repair, without a log. -/
theorem prep_dn (hd : DN w w0.heap.size dp dv pow bs) (he : Env w) (hb : bs.length ≤ 500000) (hp0 : -9223372036854775808 ≤ pow) (hp1 : pow ≤ 9223372036854775807) :
    Calls Tryd.prog 26 #[.pointer (some ⟨dp, 0, none⟩)] w (fun e w' => e = .returned (.tuple #[.int .i64 (repN bs pow), .int .i64 (repCode bs pow)]) ∧
      (repCode bs pow = 0 → ∃ dv', PD w' dp dv' (cutPow bs.length (scanS (linesL bs)).size pow) ∧ DV w' w0.heap.size dv' (bs.take (scanS (linesL bs)).size) ∧ Fr [dp] w w' ∧ (∀ x, dv'.ownBlock = some x → dv.ownBlock = some x)) ∧
      (repCode bs pow ≠ 0 → Below w.heap.size w w')) := by
  have hle := scan_le bs
  by_cases hsz : (scanS (linesL bs)).size < bs.length ∧ pow = 0
  · have hc : repCode bs pow = 420 := by unfold repCode; rw [if_pos hsz]
    have hn : repN bs pow = 0 := by unfold repN; rw [if_pos hsz]
    rw [hc, hn]
    obtain ⟨hs1, rfl⟩ := hsz
    obtain ⟨A, c, rfl⟩ := hd.bytes.bv.len
    refine (repair_nopower dp bs 0 w w0.heap.size A c (by omega) he hd.disk hd.bytes (fun W hW => cut_none dp A bs.length c (scanS (linesL bs)).size W hs1 hW)).mono ?_
    rintro e w' ⟨rfl, h⟩
    exact ⟨rfl, fun h => absurd h (by decide), fun _ => h⟩
  · have hc : repCode bs pow = 0 := by unfold repCode; rw [if_neg hsz]
    have hn : repN bs pow = (bs.length : Int) - ((scanS (linesL bs)).size : Nat) := by unfold repN; rw [if_neg hsz]
    rw [hc, hn]
    refine (repair_lg2 (by omega) he hd.disk hd.bytes (by
      rcases Nat.lt_or_ge (scanS (linesL bs)).size bs.length with h1 | h1
      · exact .inr (fun h2 => hsz ⟨h1, h2⟩)
      · exact .inl (by omega)) hp0 hp1).mono ?_
    rintro e w' ⟨rfl, dv', h1, h2, h3, h4⟩
    exact ⟨rfl, fun _ => ⟨dv', h1, h2, h3, h4⟩, fun h => absurd rfl h⟩
/-- The reference's cut, either way. -/
theorem rcut_gen (hsz : ¬ ((scanS (linesL bs)).size < bs.length ∧ pow = 0)) (hb : bs.length ≤ 500000) (hp0 : -9223372036854775808 ≤ pow) (hp1 : pow ≤ 9223372036854775807) {B : Nat} :
    ∀ W yv A9 n9 c9, yv = .slice A9 n9 c9 → RD W B rp rb pow bs → B ≤ W.heap.size → Calls Tryd.prog 58 #[.pointer (some ⟨rp, 0, none⟩), .agg #[yv, .int .i64 ((scanS (linesL bs)).last : Nat), .int .i64 ((scanS (linesL bs)).size : Nat), .bool false]] W (fun e w' => e = .returned (.bool true) ∧ ∃ rb', RD w' B rp rb' (cutPow bs.length (scanS (linesL bs)).size pow) (bs.take (scanS (linesL bs)).size) ∧ Fr [rp] W w' ∧ (∀ x, rb'.ownBlock = some x → rb.ownBlock = some x ∨ W.heap.size ≤ x)) := by
  intro W yv A9 n9 c9 hy hrd hB
  have hle := scan_le bs
  by_cases hs : (scanS (linesL bs)).size = bs.length
  · rw [hs]
    refine (rcut_same hrd yv _ false A9 n9 c9 hy).mono ?_
    rintro e w' ⟨rfl, h⟩
    refine ⟨rfl, rb, ?_, Fr.of_below h _, fun x hx => .inl hx⟩
    rw [List.take_length, show cutPow bs.length bs.length pow = pow from if_pos rfl]
    exact hrd.keep h
  · have hlt : (scanS (linesL bs)).size < bs.length := by omega
    refine (rcut_done hrd hB (by omega) _ hlt (fun h => hsz ⟨hlt, h⟩) hp0 hp1 yv _ false A9 n9 c9 hy).mono ?_
    rintro e w' ⟨rfl, rb', h1, h2, h3⟩
    exact ⟨rfl, rb', by rw [show cutPow bs.length (scanS (linesL bs)).size pow = lessP pow from if_neg hs]; exact h1, h2, fun x hx => .inr (h3 x hx)⟩
variable {recs : List (List UInt8)} {last size : Nat} {closed : Bool} {L : List Nat}
/-- The reference's Open. K: what lies in the blocks L. -/
theorem ropen_js (hr : JR w0 w rp yp pow bs recs last size closed rb yv L) (hlt : ∀ x ∈ L, x < w.heap.size) (hb : bs.length ≤ 500000) (hp0 : -9223372036854775808 ≤ pow) (hp1 : pow ≤ 9223372036854775807) (K : World → Prop) (hK : ∀ w' P, Fr P w w' → (∀ x ∈ L, x ∉ P) → K w') :
    Calls Tryd.prog 43 #[.pointer (some ⟨rp, 0, none⟩)] w (fun e w' => K w' ∧
      (openCode bs pow = 0 → ∃ mv rb', e = .returned (.tuple #[.agg #[mv, .int .i64 ((scanS (linesL bs)).last : Nat), .int .i64 ((scanS (linesL bs)).size : Nat), .bool false], .int .i64 0]) ∧ w'.ownsRow w.heap.size 9 1 mv (scanS (linesL bs)).recs.length ((scanS (linesL bs)).recs.map strV) ∧ JR w0 w' rp yp (openS bs pow).pow (openS bs pow).bs recs last size closed rb' yv L) ∧
      (openCode bs pow ≠ 0 → e = .returned (.tuple #[zeroLog, .int .i64 (openCode bs pow)]) ∧ JR w0 w' rp yp pow bs recs last size closed rb yv L)) := by
  have hnil : ∀ x ∈ L, x ∉ ([] : List Nat) := fun x _ h => by simp at h
  rcases hok : (scanS (linesL bs)).ok with _ | _
  · have hc : openCode bs pow = 421 := by unfold openCode; rw [hok]; rfl
    rw [hc]
    refine (ropen_bad hr.rd (by omega) hok).mono ?_
    rintro e w' ⟨rfl, h⟩
    exact ⟨hK w' [] (Fr.of_below h _) hnil, fun h => absurd h (by decide), fun _ => ⟨rfl, hr.keep h⟩⟩
  · by_cases hsz : (scanS (linesL bs)).size < bs.length ∧ pow = 0
    · have hc : openCode bs pow = 420 := by unfold openCode; rw [hok, if_pos rfl, if_pos hsz]
      rw [hc]
      obtain ⟨hs1, rfl⟩ := hsz
      refine (ropen_nopower hr.rd (by omega) hok hs1).mono ?_
      rintro e w' ⟨rfl, h⟩
      exact ⟨hK w' [] (Fr.of_below h _) hnil, fun h => absurd h (by decide), fun _ => ⟨rfl, hr.keep h⟩⟩
    · have hc : openCode bs pow = 0 := by unfold openCode; rw [hok, if_pos rfl, if_neg hsz]
      rw [hc]
      refine (ropen_ok hr.rd hr.below.size (by omega) hok _ _ (rcut_gen hsz hb hp0 hp1)).mono ?_
      rintro e w' ⟨mv, rb', rfl, hrow, hrd, hfr, hrb⟩
      have hn : ∀ x, x ∈ L → x ∉ [rp] := fun x hx hm => hr.apart x hx (by obtain rfl : x = rp := (by simpa using hm); simp [OR])
      have hf2 : Fr (OR rp yp rb yv) w w' := hfr.mono (fun x hx => by obtain rfl : x = rp := (by simpa using hx); simp [OR])
      have hny : yp ∉ [rp] := fun hm => by
        obtain rfl : yp = rp := by simpa using hm
        have h2 := (show w.heap[yp]? = _ from hr.rl.log).symm.trans hr.rd.disk
        simp at h2
      have hyr : ∀ x, yv.ownBlock = some x → x ∉ [rp] := fun x hx hm => by
        obtain rfl : x = rp := by simpa using hm
        exact row_ne hr.rl.row hr.rd.disk (by decide) (by rw [hx]; simp)
      exact ⟨hK w' [rp] hfr hn, fun _ => ⟨mv, rb', rfl, hrow, hr.refd hlt hrd ⟨hfr.blk hr.rl.log hny, own_fr hr.rl.row hfr hyr⟩ hf2 hrb (fun x hx => .inl hx)⟩, fun h => absurd rfl h⟩
/-- The reference's Repair. -/
theorem rrep_js (hr : JR w0 w rp yp pow bs recs last size closed rb yv L) (hlt : ∀ x ∈ L, x < w.heap.size) (hb : bs.length ≤ 500000) (hp0 : -9223372036854775808 ≤ pow) (hp1 : pow ≤ 9223372036854775807) (K : World → Prop) (hK : ∀ w' P, Fr P w w' → (∀ x ∈ L, x ∉ P) → K w') :
    Calls Tryd.prog 44 #[.pointer (some ⟨rp, 0, none⟩)] w (fun e w' => e = .returned (.tuple #[.int .i64 (repN bs pow), .int .i64 (repCode bs pow)]) ∧ K w' ∧
      (repCode bs pow = 0 → ∃ rb', JR w0 w' rp yp (cutPow bs.length (scanS (linesL bs)).size pow) (bs.take (scanS (linesL bs)).size) recs last size closed rb' yv L) ∧
      (repCode bs pow ≠ 0 → JR w0 w' rp yp pow bs recs last size closed rb yv L)) := by
  have hnil : ∀ x ∈ L, x ∉ ([] : List Nat) := fun x _ h => by simp at h
  by_cases hsz : (scanS (linesL bs)).size < bs.length ∧ pow = 0
  · have hc : repCode bs pow = 420 := by unfold repCode; rw [if_pos hsz]
    have hn : repN bs pow = 0 := by unfold repN; rw [if_pos hsz]
    rw [hc, hn]
    obtain ⟨hs1, rfl⟩ := hsz
    refine (rrepair_nopower hr.rd (by omega) hs1).mono ?_
    rintro e w' ⟨rfl, h⟩
    exact ⟨rfl, hK w' [] (Fr.of_below h _) hnil, fun h => absurd h (by decide), fun _ => hr.keep h⟩
  · have hc : repCode bs pow = 0 := by unfold repCode; rw [if_neg hsz]
    have hn : repN bs pow = (bs.length : Int) - ((scanS (linesL bs)).size : Nat) := by unfold repN; rw [if_neg hsz]
    rw [hc, hn]
    refine (rrepair_ok hr.rd hr.below.size (by omega) _ _ (rcut_gen hsz hb hp0 hp1)).mono ?_
    rintro e w' ⟨rb', rfl, hrd, hfr, hrb⟩
    have hn : ∀ x, x ∈ L → x ∉ [rp] := fun x hx hm => hr.apart x hx (by obtain rfl : x = rp := (by simpa using hm); simp [OR])
    have hf2 : Fr (OR rp yp rb yv) w w' := hfr.mono (fun x hx => by obtain rfl : x = rp := (by simpa using hx); simp [OR])
    have hny : yp ∉ [rp] := fun hm => by
      obtain rfl : yp = rp := by simpa using hm
      have h2 := (show w.heap[yp]? = _ from hr.rl.log).symm.trans hr.rd.disk
      simp at h2
    have hyr : ∀ x, yv.ownBlock = some x → x ∉ [rp] := fun x hx hm => by
      obtain rfl : x = rp := by simpa using hm
      exact row_ne hr.rl.row hr.rd.disk (by decide) (by rw [hx]; simp)
    exact ⟨rfl, hK w' [rp] hfr hn, fun _ => ⟨rb', hr.refd hlt hrd ⟨hfr.blk hr.rl.log hny, own_fr hr.rl.row hfr hyr⟩ hf2 hrb (fun x hx => .inl hx)⟩, fun h => absurd rfl h⟩
end
end Go.Proofs.YtbompgfjlllioaaDoor
