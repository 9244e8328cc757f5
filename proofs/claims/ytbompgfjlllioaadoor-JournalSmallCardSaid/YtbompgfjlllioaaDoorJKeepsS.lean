/- A log whose power fails: its state behind i records; the contract of Append there. -/
import Derived.Test.YtbompgfjlllioaaDoorJStrs
import Derived.Test.YtbompgfjlllioaaDoorJHurtP
namespace Go.Proofs.YtbompgfjlllioaaDoor
open Go Go.RowKit

/-- An operation of a drawn region that looks at no memory may be taken first. -/
theorem rest_take {P : Program} (i : Nat) {Q : Exit → Act → World → Prop} {a : Act} {w : World} {l : List Oper} {f : Nat} {b : Array Bool} (oi : Oper) (v : Value) (hi : l[i]? = some oi) (hs : Region.noSelect l.toArray = true) (hf : Region.free .any l.toArray b i = true) (hr : (Region.ready .any l.toArray b).contains i = true)
    (hQ : ∀ c a w, Q (.panic c) (a.put oi.dst v) w → Q (.panic c) a w) (hw : Region.wanted oi (yielded l.toArray a.tmps) = true) (hv : ∀ w, (execOp a.eval oi).run P w = .ok (.value v) w)
    (h : RestG P l Q f (b.setIfInBounds i true) (a.put oi.dst v) w) : RestG P l Q (f + 1) b a w :=
  wpAny_take (by simpa using hi) hs hf hr hQ (.inl ⟨hw, hv⟩) h
/-- Behind i records: all are written, or the power failed at the k-th of them. n is what the statement counts. -/
inductive KS (w wr : World) (lp dp : Nat) (Q : List (List UInt8)) (p : Nat) : Nat → Int → Prop
  | go (k : Nat) (log : ∃ dv rv bv, LG wr w.heap.size lp dp (logA 1 (Q.take k)) ((p : Int) - (sizeA (Q.take k) : Nat)) (Q.take k) (lastA 1 (Q.take k) : Nat) (sizeA (Q.take k) : Nat) false dv rv bv) (hp : sizeA (Q.take k) ≤ p) : KS w wr lp dp Q p k (k : Int)
  | stop (i k : Nat) (hk : k ≤ i) (qq : List UInt8) (hq : ∀ c ∈ qq, c ≠ 10) (hl : qq.length ≤ 206) (log : ∃ pw dv rv bv, LG wr w.heap.size lp dp (logA 1 (Q.take k) ++ qq) pw (Q.take k) (lastA 1 (Q.take k) : Nat) (sizeA (Q.take k) : Nat) true dv rv bv) : KS w wr lp dp Q p i (-1 - (k : Int))
/-- Append of the next record, the log being open and its power p behind the lines. -/
theorem append_go {w wr : World} {lp dp : Nat} {Q : List (List UInt8)} {p k : Nat} (hp1 : p < 65536) (hk : k < Q.length) (hq20 : Q.length ≤ 20) (h60 : ∀ t ∈ Q, rightL t = true ∧ t.length ≤ 60) (he : Env wr) (log : ∃ dv rv bv, LG wr w.heap.size lp dp (logA 1 (Q.take k)) ((p : Int) - (sizeA (Q.take k) : Nat)) (Q.take k) (lastA 1 (Q.take k) : Nat) (sizeA (Q.take k) : Nat) false dv rv bv) (hp : sizeA (Q.take k) ≤ p)
    (s : ByteArray) (hs : s.data.toList = Q[k]) :
    Calls Tryd.prog 14 #[.pointer (some ⟨lp, 0, none⟩), .string s] wr (fun e w' => Below w.heap.size wr w' ∧
      ((e = .returned (.int .i64 0) ∧ KS w w' lp dp Q p (k + 1) ((k : Int) + 1)) ∨ (e = .returned (.int .i64 420) ∧ KS w w' lp dp Q p (k + 1) (-1 - (k : Int)) ∧ w'.cell? ⟨dp, 1, none⟩ = some (.int .i64 0)))) := by
  obtain ⟨dv, rv, bv, hlg⟩ := log
  obtain ⟨hr, h6⟩ := h60 _ (List.getElem_mem hk)
  rw [← hs] at hr h6
  have hss : s.size ≤ 60 := by rwa [str_len] at h6
  have hsz : sizeA (Q.take k) ≤ 1320 := by
    have := sizeA_take_le Q k; have := sizeA_le Q (fun t ht => (h60 t ht).2); omega
  have ht1 : Q.take (k + 1) = Q.take k ++ [s.data.toList] := by rw [hs, List.take_add_one, List.getElem?_eq_getElem hk]; rfl
  have hrl : (Q.take k).length ≤ 20 := by simp; omega
  refine (append_main w.heap.size lp dp (logA 1 (Q.take k)) _ (Q.take k) (lastA 1 (Q.take k)) _ dv rv bv s wr (by omega) (by rw [logA_len]; omega) he (lastA_lt _) hr (by rw [logA_len]; omega) (by omega) ⟨by omega, by omega⟩ (by omega) hlg).mono fun e w' hq => ?_
  have hpw : (0 : Int) ≤ (p : Int) - (sizeA (Q.take k) : Nat) := by omega
  have hw : wrP ((p : Int) - (sizeA (Q.take k) : Nat)) (s.size + 6) = min (s.size + 6) (p - sizeA (Q.take k)) := by
    unfold wrP; rw [if_pos hpw]; congr 1; omega
  rcases Nat.lt_or_ge (p - sizeA (Q.take k)) (s.size + 6) with hlt | hge
  · obtain ⟨rfl, dv', bv', ha⟩ := hq.1 (by rw [hw]; omega)
    have hpp : powP ((p : Int) - (sizeA (Q.take k) : Nat)) (s.size + 6) = 0 := by unfold powP; rw [if_pos hpw, hw]; omega
    rw [hw, Nat.min_eq_right (by omega), hpp] at ha
    refine ⟨hlg.below ha.fr, .inr ⟨rfl, .stop (k + 1) k (by omega) _ (fun c hc => ?_) ?_ ⟨0, _, _, _, ha.lg⟩, ha.lg.disk.cell (j := 1) rfl⟩⟩
    · rw [lineL_body, List.take_append_of_le_length (by rw [bodyL_len, str_len]; omega)] at hc
      exact bodyL_no hr c (List.mem_of_mem_take hc)
    · rw [List.length_take, lineL_len, str_len]; omega
  · obtain ⟨rfl, dv', rv', bv', ha⟩ := hq.2 (by rw [hw]; omega)
    have hpp : powP ((p : Int) - (sizeA (Q.take k) : Nat)) (s.size + 6) = (p : Int) - (sizeA (Q.take (k + 1)) : Nat) := by unfold powP; rw [if_pos hpw, hw, ht1, sizeA_snoc, str_len]; omega
    rw [hpp] at ha
    refine ⟨hlg.below ha.fr, .inl ⟨rfl, ?_⟩⟩
    have := KS.go (w := w) (wr := w') (lp := lp) (dp := dp) (Q := Q) (p := p) (k + 1) ⟨dv', rv', bv', by
      have h := ha.lg
      have e1 : ((sizeA (Q.take k) : Nat) : Int) + ((s.size + 6 : Nat) : Int) = (sizeA (Q.take (k + 1)) : Nat) := by rw [ht1, sizeA_snoc, str_len]; omega
      have e2 : sumL (lastA 1 (Q.take k)) s.data.toList = lastA 1 (Q.take (k + 1)) := by rw [ht1, lastA_snoc]
      have e3 : logA 1 (Q.take k) ++ lineL (lastA 1 (Q.take k)) s.data.toList = logA 1 (Q.take (k + 1)) := by rw [ht1, logA_snoc]
      rw [e1, e2, e3, ← ht1] at h
      exact h⟩ (by rw [ht1, sizeA_snoc, str_len]; omega)
    exact this
/-- Append where the power has failed. -/
theorem append_stop {w wr : World} {lp dp : Nat} {Q : List (List UInt8)} {k : Nat} {qq : List UInt8} {pw : Int} {dv rv bv : Value} (log : LG wr w.heap.size lp dp (logA 1 (Q.take k) ++ qq) pw (Q.take k) (lastA 1 (Q.take k) : Nat) (sizeA (Q.take k) : Nat) true dv rv bv) (s : ByteArray) :
    Calls Tryd.prog 14 #[.pointer (some ⟨lp, 0, none⟩), .string s] wr (fun e w' => e = .returned (.int .i64 423) ∧ wr = w') := append_closed w.heap.size lp dp _ pw _ _ _ dv rv bv s wr log
/-- Behind all records: the log has k of them, and something without a byte 10 may follow on its disk. -/
def KE (w wr : World) (lp dp : Nat) (Q : List (List UInt8)) (k : Nat) : Prop := ∃ (qq : List UInt8) (pw : Int) (cl : Bool) (dv rv bv : Value), (∀ c ∈ qq, c ≠ 10) ∧ qq.length ≤ 206 ∧ LG wr w.heap.size lp dp (logA 1 (Q.take k) ++ qq) pw (Q.take k) (lastA 1 (Q.take k) : Nat) (sizeA (Q.take k) : Nat) cl dv rv bv
/-- A log with one record more. -/
def KF (w wr : World) (lp dp : Nat) (Q : List (List UInt8)) (t : List UInt8) : Prop := ∃ (dv rv bv : Value), LG wr w.heap.size lp dp (logA 1 (Q ++ [t])) (-1) (Q ++ [t]) (lastA 1 (Q ++ [t]) : Nat) (sizeA (Q ++ [t]) : Nat) false dv rv bv
theorem append_kf {w wr : World} {lp dp : Nat} {Q : List (List UInt8)} {dv rv bv : Value} (hlg : LG wr w.heap.size lp dp (logA 1 Q) (-1) Q (lastA 1 Q : Nat) (sizeA Q : Nat) false dv rv bv) (he : Env wr) {s : ByteArray} (h60 : rightL s.data.toList = true ∧ s.data.toList.length ≤ 60) (hsz : sizeA Q ≤ 1320) (hrl : Q.length ≤ 20) :
    Calls Tryd.prog 14 #[.pointer (some ⟨lp, 0, none⟩), .string s] wr (fun e w' => e = .returned (.int .i64 0) ∧ KF w w' lp dp Q s.data.toList ∧ Below w.heap.size wr w') := by
  obtain ⟨hr, h6⟩ := h60
  have hss : s.size ≤ 60 := by rwa [str_len] at h6
  refine (append_main w.heap.size lp dp (logA 1 Q) (-1) Q (lastA 1 Q) _ dv rv bv s wr (by omega) (by rw [logA_len]; omega) he (lastA_lt _) hr (by rw [logA_len]; omega) (by decide) ⟨by omega, by omega⟩ (by omega) hlg).mono fun e w' hq => ?_
  obtain ⟨rfl, dv', rv', bv', ha⟩ := hq.2 rfl
  refine ⟨rfl, ⟨dv', rv', bv', ?_⟩, hlg.below ha.fr⟩
  have h := ha.lg
  have e1 : ((sizeA Q : Nat) : Int) + ((s.size + 6 : Nat) : Int) = (sizeA (Q ++ [s.data.toList]) : Nat) := by rw [sizeA_snoc, str_len]; omega
  rw [e1, ← lastA_snoc, ← logA_snoc, show powP (-1) (s.size + 6) = -1 from rfl] at h
  exact h
end Go.Proofs.YtbompgfjlllioaaDoor
