/- One step of does: what Append, Open and Repair make of disk and log; the program's and the reference's contracts. -/
import Derived.Test.YtbompgfjlllioaaDoorJBoth
namespace Go.Proofs.YtbompgfjlllioaaDoor
open Go Go.RowKit

/-- A disk and what a log knows of it. -/
structure JS where
  bs : List UInt8
  pow : Int
  recs : List (List UInt8)
  last : Nat
  size : Nat
  closed : Bool
/-- What fits. -/
structure JS.Ok (s : JS) : Prop where
  bs : s.bs.length ≤ 500000
  p0 : -9223372036854775808 ≤ s.pow
  p1 : s.pow ≤ 9223372036854775807
  recs : s.recs.length ≤ 500000
  last : s.last < 9973
  size : s.size ≤ 500000
def JS.app (s : JS) (t : List UInt8) : Int × JS :=
  if s.closed then (423, s) else if rightL t then
    (if wrP s.pow (t.length + 6) < t.length + 6 then (420, ⟨s.bs ++ (lineL s.last t).take (wrP s.pow (t.length + 6)), powP s.pow (t.length + 6), s.recs, s.last, s.size, true⟩)
      else (0, ⟨s.bs ++ lineL s.last t, powP s.pow (t.length + 6), s.recs ++ [t], sumL s.last t, s.size + (t.length + 6), false⟩))
  else (422, s)
def LGs (w : World) (B lp dp : Nat) (s : JS) (dv rv bv : Value) : Prop := LG w B lp dp s.bs s.pow s.recs (s.last : Nat) (s.size : Nat) s.closed dv rv bv
def JRs (w0 w : World) (rp yp : Nat) (s : JS) (rb yv : Value) (L : List Nat) : Prop := JR w0 w rp yp s.pow s.bs s.recs s.last s.size s.closed rb yv L
section
variable {w0 w : World} {lp dp rp yp : Nat} {s s' : JS} {dv rv bv rb yv : Value}
set_option maxHeartbeats 1000000 in
/-- The reference's Append. -/
theorem rapp_js (hg : LGs w w0.heap.size lp dp s' dv rv bv) (hr : JRs w0 w rp yp s rb yv (PLg lp dp rv bv dv)) (ok : s.Ok) (t : ByteArray) (ht : t.size ≤ 2000000) (K : World → Prop) (hK0 : K w) (hK : ∀ w', Fr (OR rp yp rb yv) w w' → K w') :
    Calls Tryd.prog 42 #[.pointer (some ⟨rp, 0, none⟩), .pointer (some ⟨yp, 0, none⟩), .string t] w (fun e w' => e = .returned (.int .i64 (s.app t.data.toList).1) ∧ K w' ∧ LGs w' w0.heap.size lp dp s' dv rv bv ∧ ∃ rb' yv', JRs w0 w' rp yp (s.app t.data.toList).2 rb' yv' (PLg lp dp rv bv dv)) := by
  obtain ⟨bs, pow, recs, last, size, closed⟩ := s
  obtain ⟨ob, op0, op1, orc, ol, os⟩ := ok
  unfold LGs JRs at *
  simp only at *
  cases closed with
  | true =>
    rw [show JS.app ⟨bs, pow, recs, last, size, true⟩ t.data.toList = (423, ⟨bs, pow, recs, last, size, true⟩) from rfl]
    refine (rappend_closed (rp := rp) hr.rl t).mono ?_
    rintro e w' ⟨rfl, rfl⟩
    exact ⟨rfl, hK0, hg, _, _, hr⟩
  | false =>
    rcases hrt : rightL t.data.toList with _ | _
    · rw [show JS.app ⟨bs, pow, recs, last, size, false⟩ t.data.toList = (422, ⟨bs, pow, recs, last, size, false⟩) by unfold JS.app; rw [hrt]; rfl]
      refine (rappend_text (rp := rp) hr.rl t ht hrt).mono ?_
      rintro e w' ⟨rfl, rfl⟩
      exact ⟨rfl, hK0, hg, _, _, hr⟩
    · have hts : t.size ≤ 200 := by have := rightL_len hrt; rwa [str_len] at this
      have happ : JS.app ⟨bs, pow, recs, last, size, false⟩ t.data.toList = (if wrP pow (t.size + 6) < t.size + 6 then (420, ⟨bs ++ (lineL last t.data.toList).take (wrP pow (t.size + 6)), powP pow (t.size + 6), recs, last, size, true⟩) else (0, ⟨bs ++ lineL last t.data.toList, powP pow (t.size + 6), recs ++ [t.data.toList], sumL last t.data.toList, size + (t.size + 6), false⟩)) := by
        unfold JS.app; simp only [hrt, str_len]; rfl
      rw [happ]
      have hlt := hg.lt
      have hn : ∀ x ∈ PLg lp dp rv bv dv, x ∉ OR rp yp rb yv := hr.apart
      refine (rappend_main hr.rd hr.rl hr.below.size t ht (by omega) ol hrt (by omega) op0 op1 ⟨by omega, by omega⟩ (by omega)).mono ?_
      rintro e w' ⟨q1, q2⟩
      have hwl := wr_le pow (t.size + 6)
      by_cases hlt2 : wrP pow (t.size + 6) < t.size + 6
      · obtain ⟨rfl, rb', ha⟩ := q1 hlt2
        rw [if_pos hlt2]
        exact ⟨rfl, hK _ ha.fr, hg.fr ha.fr hn, rb', yv, hr.refd hlt ha.rd ha.rl ha.fr ha.rbb ha.yvb⟩
      · obtain ⟨rfl, rb', yv', ha⟩ := q2 (by omega)
        rw [if_neg hlt2]
        exact ⟨rfl, hK _ ha.fr, hg.fr ha.fr hn, rb', yv', hr.refd hlt ha.rd (by have h := ha.rl; simpa using h) ha.fr ha.rbb ha.yvb⟩
set_option maxHeartbeats 1000000 in
/-- The program's Append. -/
theorem papp_js (hg : LGs w w0.heap.size lp dp s dv rv bv) (hr : JRs w0 w rp yp s' rb yv (PLg lp dp rv bv dv)) (he : Env w) (ok : s.Ok) (t : ByteArray) (ht : t.size ≤ 2000000) :
    Calls Tryd.prog 14 #[.pointer (some ⟨lp, 0, none⟩), .string t] w (fun e w' => e = .returned (.int .i64 (s.app t.data.toList).1) ∧ ∃ dv' rv' bv', LGs w' w0.heap.size lp dp (s.app t.data.toList).2 dv' rv' bv' ∧ JRs w0 w' rp yp s' rb yv (PLg lp dp rv' bv' dv')) := by
  obtain ⟨bs, pow, recs, last, size, closed⟩ := s
  obtain ⟨ob, op0, op1, orc, ol, os⟩ := ok
  unfold LGs JRs at *
  simp only at *
  have key : ∀ {P : List Nat} {w' : World} {dv' rv' bv' : Value}, Fr (OL lp dp rv bv) w w' → (∀ x, rv'.ownBlock = some x → x ∈ OL lp dp rv bv ∨ w.heap.size ≤ x) → (∀ x, bv'.ownBlock = some x → x ∈ OL lp dp rv bv ∨ w.heap.size ≤ x) → (∀ x, dv'.ownBlock = some x → dv.ownBlock = some x ∨ x ∈ OL lp dp rv bv ∨ w.heap.size ≤ x) → JR w0 w' rp yp s'.pow s'.bs s'.recs s'.last s'.size s'.closed rb yv (PLg lp dp rv' bv' dv') := fun {P w' dv' rv' bv'} hf h1 h2 h3 => by
    refine hr.prog hf (fun x hx => by unfold PLg; exact List.mem_append_left _ hx) (hg.le) (fun x hx => ?_)
    have hin : ∀ x, x ∈ OL lp dp rv bv → x ∈ PLg lp dp rv bv dv := fun x hx => by unfold PLg; exact List.mem_append_left _ hx
    simp only [PLg, List.mem_append, Option.mem_toList] at hx
    rcases hx with hx | hx
    · simp only [OL, List.mem_cons, List.mem_append, Option.mem_toList] at hx
      rcases hx with rfl | rfl | hx | hx
      · exact .inl (hin _ (by simp [OL]))
      · exact .inl (hin _ (by simp [OL]))
      · exact (h1 x hx).imp (hin x) id
      · exact (h2 x hx).imp (hin x) id
    · rcases h3 x hx with e | e | e
      · left; unfold PLg; exact List.mem_append_right _ (by simp [e])
      · exact .inl (hin x e)
      · exact .inr e
  cases closed with
  | true =>
    rw [show JS.app ⟨bs, pow, recs, last, size, true⟩ t.data.toList = (423, ⟨bs, pow, recs, last, size, true⟩) from rfl]
    refine (append_closed (s := t) (h := hg)).mono ?_
    rintro e w' ⟨rfl, rfl⟩
    exact ⟨rfl, _, _, _, hg, hr⟩
  | false =>
    rcases hrt : rightL t.data.toList with _ | _
    · rw [show JS.app ⟨bs, pow, recs, last, size, false⟩ t.data.toList = (422, ⟨bs, pow, recs, last, size, false⟩) by unfold JS.app; rw [hrt]; rfl]
      refine (append_text (hs := ht) (he := he) (hl := ol) (hr := hrt) (h := hg)).mono ?_
      rintro e w' ⟨rfl, hb⟩
      exact ⟨rfl, _, _, _, hg.keep hb, hr.keep hb⟩
    · have hts : t.size ≤ 200 := by have := rightL_len hrt; rwa [str_len] at this
      have happ : JS.app ⟨bs, pow, recs, last, size, false⟩ t.data.toList = (if wrP pow (t.size + 6) < t.size + 6 then (420, ⟨bs ++ (lineL last t.data.toList).take (wrP pow (t.size + 6)), powP pow (t.size + 6), recs, last, size, true⟩) else (0, ⟨bs ++ lineL last t.data.toList, powP pow (t.size + 6), recs ++ [t.data.toList], sumL last t.data.toList, size + (t.size + 6), false⟩)) := by
        unfold JS.app; simp only [hrt, str_len]; rfl
      rw [happ]
      refine (append_main2 w0.heap.size lp dp bs pow recs last (size : Nat) dv rv bv t w ht (by omega) he ol hrt (by omega) op1 ⟨by omega, by omega⟩ (by omega) hg).mono ?_
      rintro e w' ⟨q1, q2⟩
      have hwl := wr_le pow (t.size + 6)
      by_cases hlt2 : wrP pow (t.size + 6) < t.size + 6
      · obtain ⟨rfl, dv', bv', ha⟩ := q1 hlt2
        rw [if_pos hlt2]
        exact ⟨rfl, dv', rv, bv', ha.lg, key (P := []) ha.fr ha.rb ha.bb ha.db⟩
      · obtain ⟨rfl, dv', rv', bv', ha⟩ := q2 (by omega)
        rw [if_neg hlt2]
        exact ⟨rfl, dv', rv', bv', by have h := ha.lg; simpa using h, key (P := []) ha.fr ha.rb ha.bb ha.db⟩
end
end Go.Proofs.YtbompgfjlllioaaDoor
