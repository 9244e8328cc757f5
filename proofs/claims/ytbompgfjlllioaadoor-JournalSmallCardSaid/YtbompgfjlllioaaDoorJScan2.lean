/- scan of bytes and of nil; Scan. -/
import Derived.Test.YtbompgfjlllioaaDoorJScan
namespace Go.Proofs.YtbompgfjlllioaaDoor
open Go Go.RowKit Go.Shelf
section
attribute [local go_sem] Oper.semAt_some
set_option maxRecDepth 100000 in
set_option maxHeartbeats 2000000 in
theorem lines1_nil (n : Nat) (hn : 1 ≤ n) (w0 w : World) (Bn : Nat) (hlt : Bn < w.heap.size) (hc : w.cell? ⟨Bn, 0, none⟩ = some (.slice none 0 0)) :
    SeqStopsC Fence.wide n Tryd.prog 64 #[.pointer (some ⟨Bn, 0, none⟩)] (encL (w0 := w0)) (KpL w0 Bn) (StL Bn) (fun xs => xs.map (·.l) = linesL []) (fun pre => pre.map (·.l) <+: linesL []) (linesL []).length w := fun l J Jx W hW hJ hJx hJ2 hJx2 hY h0 => by
  have hcW := (hW.cell (p := ⟨Bn, 0, none⟩) hlt).trans hc
  have IX := Lib.hid (Tryd.bytes_IndexByte_nil 10)
  have HJ := Lib.hid h0
  clear hY hJ2 hJ hJx hJx2 hW h0
  refine callsIn_of_wp Tryd.func64 rfl trivial ?_ rfl
  simp only [Tryd.ntmps64, List.size_toArray, List.length_cons, List.length_nil, Nat.reduceAdd, Nat.reduceSub, Array.replicate_succ, Array.replicate_zero, List.push_toArray, List.append_toArray, List.nil_append, List.cons_append]
  gi_wp2
  gi_loopw [3] (fun _ wr => wr.cell? ⟨Bn, 0, none⟩ = some (.slice none 0 0) ∧ J [] wr) (fun _ _ => 0)
  case atStart => exact ⟨hcW, HJ.out⟩
  case round =>
    obtain ⟨hcr, hJr⟩ := hrel
    have HJ2 := Lib.hid hJr
    clear hJr HJ hcW
    gi_wp2_with (refine ⟨trivial, ?_⟩; gi_at_call 65; refine (callsIn_wide.2 (IX.out _)).mono ?_; rintro e w' ⟨rfl, rfl⟩)
    refine ⟨fun _ h => (by cases h), ?_⟩
    gi_wp2
    refine bodyPost_ret (results_none rfl _ _ _) rfl ?_
    exact ⟨⟨_, rfl⟩, .inl ⟨[], rfl, HJ2.out⟩⟩
end
theorem scan_bytes (b o cap : Nat) (bs : List UInt8) (hs : bs.length ≤ 2000000) (hcap : bs.length ≤ cap) (w : World) (he : Env w) (hB : BS w b o bs) :
    Calls Tryd.prog 33 #[.slice (some ⟨b, o, none⟩) bs.length cap] w (RetScan w (scanS (linesL bs)) (tailP (scanS (linesL bs)) bs.length : Nat)) :=
  scan_core (some ⟨b, o, none⟩) cap bs hs w he (fun n hn w1 Bn h1 h2 h3 h4 h5 => lines1_stops n hn w w1 Bn h1 b o cap bs hs hcap hB h2 h3 h4 h5)
theorem scan_nil (w : World) (he : Env w) : Calls Tryd.prog 33 #[.slice none 0 0] w (RetScan w (scanS (linesL [])) (tailP (scanS (linesL [])) 0 : Nat)) :=
  scan_core none 0 [] (by decide) w he (fun n hn w1 Bn _ _ h3 h4 _ => lines1_nil n hn w w1 Bn h3 h4)
/-- A slice of bytes, nil or not. -/
inductive BV (W : World) : Value → List UInt8 → Prop
  | none_ : BV W (.slice none 0 0) []
  | some_ (b o cap : Nat) (l : List UInt8) (hcap : l.length ≤ cap) (hB : BS W b o l) : BV W (.slice (some ⟨b, o, none⟩) l.length cap) l
theorem BV.keep {W W' : World} {v : Value} {l : List UInt8} (h : BV W v l) (hb : Below W.heap.size W W') : BV W' v l := by
  cases h with
  | none_ => exact .none_
  | some_ b o cap l hcap hB => exact .some_ b o cap l hcap (hB.keep hb)
theorem BV.len {W : World} {v : Value} {l : List UInt8} (h : BV W v l) : ∃ A cap, v = .slice A l.length cap := by
  cases h with
  | none_ => exact ⟨_, _, rfl⟩
  | some_ b o cap l hcap hB => exact ⟨_, _, rfl⟩
theorem scan_any (v : Value) (bs : List UInt8) (hs : bs.length ≤ 2000000) (w : World) (he : Env w) (hB : BV w v bs) :
    Calls Tryd.prog 33 #[v] w (RetScan w (scanS (linesL bs)) (tailP (scanS (linesL bs)) bs.length : Nat)) := by
  cases hB with
  | none_ => exact scan_nil w he
  | some_ b o cap l hcap hB => exact scan_bytes b o cap bs hs hcap w he hB
/-- What Scan returns. -/
def RetScanX (w : World) (S : Sc) (tail : Int) (e : Ending) (w' : World) : Prop :=
  ∃ v, e = .returned (.tuple #[v, .int .i64 (S.size : Int), .int .u8 tail]) ∧ w'.ownsRow w.heap.size 9 1 v S.recs.length (S.recs.map strV) ∧ Below w.heap.size w w'
set_option maxRecDepth 100000 in
theorem scanx_any (v : Value) (bs : List UInt8) (hs : bs.length ≤ 2000000) (w : World) (he : Env w) (hB : BV w v bs) :
    Calls Tryd.prog 20 #[v] w (RetScanX w (scanS (linesL bs)) (tailP (scanS (linesL bs)) bs.length : Nat)) := by
  have SC := Lib.hid (scan_any v bs hs w he hB)
  generalize scanS (linesL bs) = S at *
  generalize tailP S bs.length = t at *
  obtain ⟨A, cap, rfl⟩ := hB.len
  clear hB he hs
  go_enter Tryd.func20, Tryd.ntmps20
  go_wp2_with fail
  refine SC.out.mono ?_
  rintro e w1 ⟨v, rfl, hr, hb⟩
  obtain ⟨A2, c2, rfl⟩ := own_slice hr
  have HR := Lib.hid hr
  have HB := Lib.hid hb
  clear hr hb
  go_wp2
  refine bodyPost_ret (results_tmp3 rfl _ _ _) rfl ?_
  exact ⟨_, rfl, HR.out, HB.out⟩
end Go.Proofs.YtbompgfjlllioaaDoor
