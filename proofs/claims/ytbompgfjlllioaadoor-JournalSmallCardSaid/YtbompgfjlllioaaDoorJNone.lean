/- A log on a disk without power: Append writes nothing; Open for a disk that is a log, whole; append of bytes. -/
import Derived.Test.YtbompgfjlllioaaDoorJStrs
import Derived.Test.YtbompgfjlllioaaDoorJHurtP
namespace Go.Proofs.YtbompgfjlllioaaDoor
open Go Go.RowKit

/-- append(out, b...), out being nil or of the call's own, b nil or not. -/
theorem wp_bv_own {ops : Array Oper} {rest : List Oper} {o : Oper} {a : Act} {Q : Exit → Act → World → Prop} (hgd : o.guard = none) (sl x : Operand)
    (ho : o.op = .call { callee := .builtin .append, args := #[sl, x], argTypes := #[26, 26] }) (w : World) (base : Nat) (v : Value) (n : Nat) (l : List UInt8) (hs : a.eval sl = v) (hown : w.ownsRow base 5 1 v n (l.map byteV))
    (A : Option Addr) (m c : Nat) (l2 : List UInt8) (hm : l2.length = m) (hx : a.eval x = .slice A m c) (hR : BV w (.slice A m c) l2) (hlen : n + m ≤ 100000000) (hbase : base ≤ w.heap.size)
    (h : ∀ v' w', w'.ownsRow base 5 1 v' (n + m) ((l ++ l2).map byteV) → w.grownBy w' v.ownBlock → Below base w w' → wpList Tryd.prog ops Q rest (a.put o.dst v') w') : wpList Tryd.prog ops Q (o :: rest) a w := by
  subst hm
  generalize hv : Value.slice A l2.length c = u at hR
  cases hR with
  | none_ =>
    injection hv with h1 h2 h3
    subst h1 h3
    exact wp_nil_own hgd sl x ho w base v n (l.map byteV) hs hown hx (h v w (by simpa using hown) (World.grownBy.refl _ _) (Below.refl _ _))
  | some_ b off c l2 hcap hc =>
    injection hv with h1 h2 h3
    subst h1 h3
    exact wp_bytes_own hgd sl x ho w base v n l hs hown b off _ l2 hx hc hlen hbase fun v' w' h1 h2 h3 => h v' w' h1 h2 ((Below.refl base w).grown h2 hbase fun k hk => (hown.lt k hk).1)
section
variable {w : World} {B lp dp : Nat} {bs : List UInt8} {recs : List (List UInt8)} {last : Nat} {size : Int} {dv rv bv : Value}
set_option maxRecDepth 100000 in
set_option maxHeartbeats 4000000 in
theorem append_none (s : ByteArray) (hs : s.size ≤ 2000000) (hbs : bs.length ≤ 2000000) (he : Env w) (hl : last < 9973) (hr : rightL s.data.toList = true) (hf : bs.length + (s.size + 6) ≤ 1048576) (h : LG w B lp dp bs 0 recs last size false dv rv bv) :
    Calls Tryd.prog 14 #[.pointer (some ⟨lp, 0, none⟩), .string s] w (fun e w' => e = .returned (.int .i64 420) ∧ LG w' B lp dp bs 0 recs last size true dv rv bv ∧ Fr (OL lp dp rv bv) w w') := by
  have IS := Lib.hid (is_any lp dp w h.log.c0)
  have LN := Lib.hid (line_any (last : Nat) s hs w he)
  have hfp : failP (last : Nat) s.data.toList = 0 := by unfold failP; rw [if_neg (by omega), hr]; rfl
  rw [show lineP (last : Nat) s.data.toList = (lineL last s.data.toList, 0) by unfold lineP; rw [hfp]; rfl] at LN
  obtain ⟨X, hX⟩ : ∃ X : ByteArray, X = ⟨(lineL last s.data.toList).toArray⟩ := ⟨_, rfl⟩
  have hXs : X.size = s.size + 6 := by rw [← str_len, hX]; show (lineL last s.data.toList).length = _; rw [lineL_len, str_len]
  rw [← hX] at LN
  obtain ⟨A, c, rfl⟩ := h.bytes.bv.len
  have H := Lib.hid h
  have c4 := h.log.c4
  have c2 := h.log.c2
  obtain ⟨m, hm⟩ : ∃ m, s.size + 6 = m := ⟨_, rfl⟩
  rw [hm] at hXs hf
  have t1 : decide (1048576 < (bs.length : Int) + (m : Int)) = false := decide_eq_false (by omega)
  have w7 : IntKind.i64.wrap ((bs.length : Int) + (m : Int)) = (bs.length : Int) + (m : Int) := IntWalk.i64_in _ (by omega)
  have k1 : min (m : Int) 0 = 0 := by omega
  have t4 : decide ((0 : Int) < (m : Int)) = true := decide_eq_true (by omega)
  have t5 : decide (0 < m) = true := decide_eq_true (by omega)
  have HX0 : Hid (X.extract 0 0 = ⟨#[]⟩) := Lib.hid (by simp; rfl)
  have WE := Lib.hid (fun W => write_empty lp W)
  have HXS := Lib.hid hXs
  clear h hr he hfp hX hXs hs
  go_enter Tryd.func14, Tryd.ntmps14
  go_wp2_with fail
  refine IS.out.mono ?_
  rintro e w1 ⟨rfl, rfl⟩
  go_wp2_with fail
  refine LN.out.mono ?_
  rintro e w1 ⟨rfl, hb⟩
  have HB := Lib.hid hb
  have H1 := Lib.hid (H.out.keep hb)
  have xs := HXS.out
  clear hb c4 c2
  have c0 := H1.out.log.c0
  have d0 := H1.out.disk.cell (j := 0) (v := .slice A bs.length c) rfl
  have d1 := H1.out.disk.cell (j := 1) (v := .int .i64 0) rfl
  have y1 := H1.out.disk.free 1
  have y4 := H1.out.log.free 4
  have c4 := H1.out.log.c4
  have H2 := Lib.hid (H1.out.setPow 0)
  have F2 := Lib.hid ((Fr.of_below HB.out (OL lp dp rv bv)).set (p := dp) (by simp [OL]) 1 (.int .i64 0))
  clear LN IS
  go_wp2_with fail
  refine (WE.out _).mono ?_
  rintro e w2 ⟨⟨v, rfl⟩, rfl⟩
  have c4 := H2.out.log.c4
  have y4 := H2.out.log.free 4
  clear c0 d0 d1
  generalize w1.setCell ⟨dp, 1, none⟩ (.int .i64 0) = w2 at *
  go_wp2_with fail
  go_ret
  exact ⟨rfl, H2.out.setClosed true, F2.out.set (by simp [OL]) 4 _⟩
/-- Open for a disk that is a log, whole: it stays as it is. -/
theorem open_keep {pow : Int} (hl : bs.length ≤ 1048576) (ht : (scanS (linesL bs)).ok = true) (hsz : (scanS (linesL bs)).size = bs.length) (he : Env w) (h : PD w dp dv pow) (hB : DV w B dv bs) (hBd : B ≤ dp) :
    Calls Tryd.prog 13 #[.pointer (some ⟨dp, 0, none⟩)] w (fun e w' => ∃ lp rv, e = .returned (.tuple #[.pointer (some ⟨lp, 0, none⟩), .int .i64 0]) ∧ w.heap.size ≤ lp ∧
      LG w' B lp dp bs pow (scanS (linesL bs)).recs (scanS (linesL bs)).last (scanS (linesL bs)).size false dv rv (.slice none 0 0) ∧ Fr [dp] w w' ∧ (∀ x, rv.ownBlock = some x → w.heap.size ≤ x)) := by
  obtain ⟨A, cap, rfl⟩ := hB.bv.len
  have hdlt := h.lt
  refine (open_ok (w := w) (B := B) (dp := dp) (bs := bs) (pow := pow) A cap hl ht he h hB pow bs.length cap (fun W hW => ?_)).mono ?_
  · rw [hsz]
    refine (cut_same dp A bs.length cap pow W hW).mono ?_
    rintro e w' ⟨rfl, rfl⟩
    exact ⟨rfl, hW, World.grownBy.refl _ _⟩
  · rintro e w' ⟨lp, rv, rfl, hlp, hb, hr, hd, hg⟩
    refine ⟨lp, rv, rfl, hlp, ⟨hd, hb, (hB.cut (bytes_kept h (by decide) hg) bs.length (Nat.le_refl _)).2, ?_, ⟨0, [], World.ownsRow_nil _ _ _ _⟩, by omega, hBd⟩, Fr.of_grown hg (fun x e => by cases e; simp), fun x hx => ?_⟩
    · refine ⟨hr.1, ?_⟩
      rcases hr.2 with h0 | ⟨g, cap, cur, rfl, hbg, r⟩
      · exact .inl h0
      · exact .inr ⟨g, cap, cur, rfl, by omega, r⟩
    · rcases hr.2 with ⟨rfl, _⟩ | ⟨g, cap, cur, rfl, hbg, _⟩
      · simp [Value.ownBlock] at hx
      · obtain rfl : g = x := by simpa [Value.ownBlock] using hx
        exact hbg
end
end Go.Proofs.YtbompgfjlllioaaDoor
