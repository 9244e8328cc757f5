/- The program's Text. -/
import Derived.Test.YtidpfggikighlaaDoorGF
import Derived.Test.YtidpfggikighlaaDoorGL
namespace Go.Proofs.YtidpfggikighlaaDoor
open Go Go.RowKit

theorem line_new {WS : ByteArray} {cs : Array Value} {t : TypeId} {n b : Nat} (W : List UInt8) (l : List Int) (w : World) (he : Env w) (hW : WS = bS W) (hWl : W.length ≤ 1000) (hc : cs = (l.map (Value.int .i64)).toArray) (hn : l.length = n) (hl : l.length ≤ 1000) (hin : ∀ x ∈ l, inI x) (hb : w.heap.size = b) :
    Calls Tryd.prog 34 #[.string WS, .slice (some ⟨b, 0, none⟩) n n] (w.alloc (.cells cs t)) (fun e w' => e = .returned (.string (bS (numL W l))) ∧ Below (w.alloc (.cells cs t)).heap.size (w.alloc (.cells cs t)) w') := by
  subst hW hc hn hb
  exact line_any W hWl _ 0 _ l hl hin _ (he.keep (below1 _ _)) (IR.blk (Blk.new w t _))
theorem join_new {cs : Array Value} {t : TypeId} {n b : Nat} (l : List (List UInt8)) (w : World) (hc : cs = (l.map fun x => Value.string (bS x)).toArray) (hn : l.length = n) (hl : l.length ≤ 1000) (hin : ∀ x ∈ l, x.length ≤ 100000) (hb : w.heap.size = b) :
    Calls Tryd.prog 39 #[.slice (some ⟨b, 0, none⟩) n n] (w.alloc (.cells cs t)) (fun e w' => e = .returned (.string (bS (sp l))) ∧ Below (w.alloc (.cells cs t)).heap.size (w.alloc (.cells cs t)) w') := by
  subst hc hn hb
  exact join_any _ 0 _ l hl (Nat.le_refl _) hin _ (by simp) (WR.blk (Blk.new w t _))
theorem rjoin_new {cs : Array Value} {t : TypeId} {n b : Nat} (l : List (List UInt8)) (w : World) (hc : cs = (l.map fun x => Value.string (bS x)).toArray) (hn : l.length = n) (h0 : 0 < l.length) (hl : l.length ≤ 1000) (hin : ∀ x ∈ l, x.length ≤ 100000) (hb : w.heap.size = b) :
    Calls Tryd.prog 47 #[.slice (some ⟨b, 0, none⟩) n n] (w.alloc (.cells cs t)) (fun e w' => e = .returned (.string (bS (sp l))) ∧ w.alloc (.cells cs t) = w') := by
  subst hc hn hb
  exact rjoin_any _ 0 _ l h0 hl hin _ (WR.blk (Blk.new w t _))
theorem ir_of_row {w : World} {b : Nat} {l : List Int} (h : ∀ i x, (l.map (Value.int .i64))[i]? = some x → w.cell? ⟨b, i, none⟩ = some x) : IR w b 0 l := fun i n hi => by
  rw [Nat.zero_add]
  exact h i _ (by simp [hi])
theorem wr_of_row {w : World} {b : Nat} {l : List (List UInt8)} (h : ∀ i x, (l.map fun x => Value.string (bS x))[i]? = some x → w.cell? ⟨b, i, none⟩ = some x) : WR w b 0 l := fun i n hi => by
  rw [Nat.zero_add]
  exact h i _ (by simp [hi])
theorem rjoin_b (b o cap : Nat) (l : List (List UInt8)) (h0 : 0 < l.length) (hl : l.length ≤ 1000) (hn : ∀ x ∈ l, x.length ≤ 100000) (w : World) (hb : WR w b o l) :
    Calls Tryd.prog 47 #[.slice (some ⟨b, o, none⟩) l.length cap] w (fun e w' => e = .returned (.string (bS (sp l))) ∧ Below w.heap.size w w') :=
  (rjoin_any b o cap l h0 hl hn w hb).mono fun _ _ ⟨he, hw⟩ => ⟨he, hw ▸ Below.refl _ _⟩
theorem info_parts_str : ∃ i, Tryd.prog.info? 9 = some i ∧ i.zero = some (.string ⟨#[]⟩) ∧ i.size = 1 ∧ i.bytes = 16 := by
  have h := info_str
  cases hi : Tryd.prog.info? 9 with
  | none => rw [hi] at h; cases h
  | some i =>
    rw [hi] at h
    simp only [Option.map_some, Option.some.injEq, Prod.mk.injEq] at h
    exact ⟨i, rfl, h.1, h.2.1, h.2.2⟩
/-- append of one string. -/
theorem app_str {ops : Array Oper} {rest : List Oper} {o : Oper} {a : Act} {Q : Exit → Act → World → Prop} (hgd : o.guard = none) (s x : Operand)
    (ho : o.op = .call { callee := .builtin .append, args := #[s, x], argTypes := #[31, 31] }) (wr : World) (base : Nat) (v : Value) (n : Nat) (l : List (List UInt8)) (c : ByteArray) (C : List UInt8) (hC : c = bS C)
    (hs : a.eval s = v) (b : Nat) (hx : a.eval x = .slice (some ⟨b, 0, none⟩) 1 1) (hbb : wr.heap.size = b) (hown : wr.ownsRow base 9 1 v n (l.map strV)) (hb : base ≤ wr.heap.size) (hn : n ≤ 1000000)
    (h : ∀ v' w', w'.ownsRow base 9 1 v' (n + 1) ((l ++ [C]).map strV) → wr.grownBy w' v.ownBlock → (v'.ownBlock = v.ownBlock ∨ v'.ownBlock = some (wr.heap.size + 1)) → Below base wr w' → wpList Tryd.prog ops Q rest (a.put o.dst v') w') :
    wpList Tryd.prog ops Q (o :: rest) a (wr.alloc (.cells #[.string c] 9)) := by
  subst hC hbb
  obtain ⟨i0, hi0, hz0, hz1, hz2⟩ := info_parts_str
  refine app1 hgd s x ho Tryd.underlying31 hi0 hz0 hz1 hz2 rfl wr base v n (l.map strV) (.string (bS C)) rfl rfl hs hx hown hb hn (by decide) (fun v' w' h1 h2 h3 h4 => ?_)
  refine h v' w' ?_ h2 h3 h4
  rw [List.map_append]
  exact h1
/-- What a function of lines returns: lines and an error. -/
def RetT (w : World) (l : List (List UInt8)) (err : Int) (e : Ending) (w' : World) : Prop := ∃ v, e = .returned (.tuple #[v, .int .i64 err]) ∧ RS w' v l ∧ Below w.heap.size w w'
def textO (m : Mv) : List (List UInt8) := if fitB m then textL m else []
def textE (m : Mv) : Int := if fitB m then 0 else 300
theorem textO_t {m : Mv} (h : fitB m = true) : textO m = textL m := by unfold textO; rw [h]; rfl
theorem textO_f {m : Mv} (h : fitB m = false) : textO m = [] := by unfold textO; rw [h]; rfl
theorem textE_t {m : Mv} (h : fitB m = true) : textE m = 0 := by unfold textE; rw [h]; rfl
theorem textE_f {m : Mv} (h : fitB m = false) : textE m = 300 := by unfold textE; rw [h]; rfl
attribute [irreducible] textO textE
theorem text_rows_in {m : Mv} {w : World} {rv : Value} (h : MV w m rv) {k : Nat} {r : Rw} (hr : m.rows[k]? = some r) : ∀ x ∈ [r.rd, r.tb, r.ns, r.ew, r.st], inI x := by
  have := h.ri r (List.mem_of_getElem? hr)
  intro x hx
  simp only [List.mem_cons, List.not_mem_nil, or_false] at hx
  rcases hx with rfl | rfl | rfl | rfl | rfl
  · exact this.rd
  · exact this.tb
  · exact this.ns
  · exact this.ew
  · exact this.st
set_option maxRecDepth 100000 in
set_option maxHeartbeats 4000000 in
theorem text_any (m : Mv) (rv : Value) (w : World) (he : Env w) (h : MV w m rv) : Calls Tryd.prog 13 #[mvV m rv] w (RetT w (textO m) (textE m)) := by
  have HM := Lib.hid h
  have HE := Lib.hid he
  obtain ⟨A, cap, rfl⟩ := h.rows.len
  obtain ⟨N, hN⟩ : ∃ N, m.rows.length = N := ⟨_, rfl⟩
  have HN := Lib.hid hN
  have FI := Lib.hid (fun wx (hb : Below w.heap.size w wx) => fit_any m _ wx (HM.out.keep hb))
  rw [hN] at FI ⊢
  clear h he hN
  unfold mvV
  go_enter Tryd.func13, Tryd.ntmps13
  go_wp2_with fail
  have B0 := Lib.hid (below1 w (.cells #[.int .i64 m.tab, .int .i64 m.rou, .int .i64 m.set, .int .i64 m.cop, .int .i64 m.win, .slice A N cap] 24))
  have HB0 := Lib.hid (Blk.new w 24 #[.int .i64 m.tab, .int .i64 m.rou, .int .i64 m.set, .int .i64 m.cop, .int .i64 m.win, .slice A N cap])
  obtain ⟨mb, hmb⟩ : ∃ mb, w.heap.size = mb := ⟨_, rfl⟩
  refine (FI.out _ B0.out).mono ?_
  rintro e w1 ⟨rfl, hb⟩
  have B1 := Lib.hid (bchain B0.out hb)
  have HB1 := Lib.hid (HB0.out.keep hb HB0.out.lt)
  rw [hmb] at HB1 ⊢
  have HMB := Lib.hid hmb
  clear hb B0 HB0 hmb FI
  rcases hf : fitB m with _ | _
  · have HX := Lib.hid (And.intro (textO_f hf) (textE_f hf))
    clear hf
    go_wp2_with fail
    go_ret2
    exact ⟨.slice none 0 0, by rw [HX.out.2]; rfl, by rw [HX.out.1]; exact .none_, B1.out⟩
  have hNb : N ≤ 1128 := by
    have h := fit_head hf
    have := prod_bd h.1 h.2.1 h.2.2.1 h.2.2.2.1
    have h5 := h.2.2.2.2
    have := HN.out
    omega
  have HX := Lib.hid (And.intro (textO_t hf) (textE_t hf))
  clear hf
  have x0 := HB1.out.cell (j := 0) (v := .int .i64 m.tab) rfl
  have x1 := HB1.out.cell (j := 1) (v := .int .i64 m.rou) rfl
  have x2 := HB1.out.cell (j := 2) (v := .int .i64 m.set) rfl
  have x3 := HB1.out.cell (j := 3) (v := .int .i64 m.cop) rfl
  have x4 := HB1.out.cell (j := 4) (v := .int .i64 m.win) rfl
  go_wp2_with fail
  refine (line_new wMov [m.tab, m.rou, m.set, m.cop, m.win] w1 (HE.out.keep B1.out) rfl (by decide) rfl rfl (by simp) (by
    intro x hx
    simp only [List.mem_cons, List.not_mem_nil, or_false] at hx
    have h := HM.out
    rcases hx with rfl | rfl | rfl | rfl | rfl
    · exact h.tab
    · exact h.rou
    · exact h.set
    · exact h.cop
    · exact h.win) rfl).mono ?_
  rintro e w2 ⟨rfl, hb⟩
  have B2 := Lib.hid (bchain B1.out (bchain (below1 _ _) hb))
  have HB2 := Lib.hid ((HB1.out.alloc _).keep hb (HB1.out.alloc _).lt)
  clear hb x0 x1 x2 x3 x4 B1 HB1
  have M0 : Hid (numL wMov [m.tab, m.rou, m.set, m.cop, m.win] = movL m) := Lib.hid (by unfold movL; rfl)
  rw [M0.out]
  go_upto_region 4 with fail
  have hrow : Hid ((w2.alloc (.cells #[.string (bS (movL m))] 9)).ownsRow w2.heap.size 9 1 (.slice (some ⟨w2.heap.size, 0, none⟩) 1 1) 1 ([movL m].map strV)) := Lib.hid (own_one w2 9 (.string (bS (movL m))))
  have B3 := Lib.hid (bchain B2.out (below1 w2 (.cells #[.string (bS (movL m))] 9)))
  have HB3 := Lib.hid (HB2.out.alloc (.cells #[.string (bS (movL m))] 9))
  have HLT := Lib.hid HB2.out.lt
  clear HB2 B2
  have hb2 : Hid (w2.heap.size ≤ (w2.alloc (.cells #[.string (bS (movL m))] 9)).heap.size) := Lib.hid (by simp)
  generalize w2.alloc (.cells #[.string (bS (movL m))] 9) = w3 at *
  generalize w2.heap.size = base at *
  have x5 := HB3.out.cell (j := 5) (v := .slice A N cap) rfl
  go_wp2_with fail
  clear x5
  go_loopw [4, 26] (fun s4 s26 wr => ∃ k : Nat, k ≤ N ∧ Hid (wr.ownsRow base 9 1 s4 (k + 1) ((movL m :: (m.rows.take k).map rowL).map strV)) ∧ s26 = .int .i64 (k : Int) ∧ Hid (Below w.heap.size w wr) ∧ Hid (Blk wr mb 24 #[.int .i64 m.tab, .int .i64 m.rou, .int .i64 m.set, .int .i64 m.cop, .int .i64 m.win, .slice A N cap]) ∧ Hid (base ≤ wr.heap.size)) (fun _ s26 _ => N - (intOf s26).toNat)
  case atStart => exact ⟨0, Nat.zero_le _, hrow, rfl, B3, HB3, hb2⟩
  case round =>
    obtain ⟨k, hk, HO, rfl, BR, HBr, Hbase⟩ := hrel
    obtain ⟨AO, co, rfl⟩ := own_slice HO.out
    by_cases hlt : k < N
    · have t1 : decide ((k : Int) < (N : Int)) = true := decide_eq_true (by omega)
      obtain ⟨r, hr⟩ : ∃ r, m.rows[k]? = some r := ⟨_, List.getElem?_eq_getElem (by rw [HN.out]; exact hlt)⟩
      obtain ⟨b, o, rfl, c0, c1, c2, c3, c4⟩ := (HM.out.rows.keep BR.out).at hr
      have HR := Lib.hid hr
      clear hr
      go_upto_region 7 with fail
      have HRw := Lib.hid (Blk.new wr 45 #[.int .i64 r.rd, .int .i64 r.tb, .int .i64 r.ns, .int .i64 r.ew, .int .i64 r.st])
      have B4 := Lib.hid (bchain BR.out (below1 wr (.cells #[.int .i64 r.rd, .int .i64 r.tb, .int .i64 r.ns, .int .i64 r.ew, .int .i64 r.st] 45)))
      have HB4 := Lib.hid (HBr.out.alloc (.cells #[.int .i64 r.rd, .int .i64 r.tb, .int .i64 r.ns, .int .i64 r.ew, .int .i64 r.st] 45))
      have HO4 := Lib.hid (own_keep HO.out (below1 wr (.cells #[.int .i64 r.rd, .int .i64 r.tb, .int .i64 r.ns, .int .i64 r.ew, .int .i64 r.st] 45)))
      have Hb4 : Hid (base ≤ (wr.alloc (.cells #[.int .i64 r.rd, .int .i64 r.tb, .int .i64 r.ns, .int .i64 r.ew, .int .i64 r.st] 45)).heap.size) := Lib.hid (by have := Hbase.out; rw [size_al]; omega)
      clear c0 c1 c2 c3 c4 BR HBr HO Hbase
      generalize wr.alloc (.cells #[.int .i64 r.rd, .int .i64 r.tb, .int .i64 r.ns, .int .i64 r.ew, .int .i64 r.st] 45) = w4 at *
      generalize wr.heap.size = rb at *
      have c0 := HRw.out.cell (j := 0) (v := .int .i64 r.rd) rfl
      have c1 := HRw.out.cell (j := 1) (v := .int .i64 r.tb) rfl
      have c2 := HRw.out.cell (j := 2) (v := .int .i64 r.ns) rfl
      have c3 := HRw.out.cell (j := 3) (v := .int .i64 r.ew) rfl
      have c4 := HRw.out.cell (j := 4) (v := .int .i64 r.st) rfl
      go_wp2_with fail
      refine (line_new wRow [r.rd, r.tb, r.ns, r.ew, r.st] w4 (HE.out.keep B4.out) rfl (by decide) rfl rfl (by simp) (text_rows_in HM.out HR.out) rfl).mono ?_
      rintro e w5 ⟨rfl, hb⟩
      have hb5 := bchain (below1 _ _) hb
      have B5 := Lib.hid (bchain B4.out hb5)
      have HB5 := Lib.hid (HB4.out.keep hb5 HB4.out.lt)
      have HO5 := Lib.hid (own_keep HO4.out hb5)
      have Hb5 := Lib.hid (Nat.le_trans Hb4.out hb5.size)
      have R0 : Hid (numL wRow [r.rd, r.tb, r.ns, r.ew, r.st] = rowL r) := Lib.hid (by unfold rowL; rfl)
      rw [R0.out]
      have HT : Hid (movL m :: (m.rows.take (k + 1)).map rowL = (movL m :: (m.rows.take k).map rowL) ++ [rowL r]) := Lib.hid (by rw [take_more HR.out]; simp)
      clear hb hb5 c0 c1 c2 c3 c4 HB4 HO4 Hb4 B4 HRw
      obtain ⟨RL, hRL⟩ : ∃ RL, rowL r = RL := ⟨_, rfl⟩
      rw [hRL] at HT ⊢
      clear hRL R0
      go_upto_region 8 with (at_builtin; refine app_str rfl (.tmp 30) (.tmp 43) rfl w5 base _ (k + 1) (movL m :: (m.rows.take k).map rowL) (bS RL) RL rfl rfl w5.heap.size rfl rfl HO5.out Hb5.out (by omega) ?_; intro v' w6 hown' hgrow hwh hbl)
      have HO6 : Hid (w6.ownsRow base 9 1 v' (k + 1 + 1) ((movL m :: (m.rows.take (k + 1)).map rowL).map strV)) := Lib.hid (by rw [HT.out]; exact hown')
      have B6 := Lib.hid (B5.out.trans (hbl.mono (by have := HMB.out; have := HLT.out; omega)))
      have HB6 := Lib.hid (HB5.out.keep hbl HLT.out)
      have Hb6 := Lib.hid (Nat.le_trans Hb5.out hbl.size)
      clear hown' hgrow hwh hbl HO5 B5 HB5 Hb5
      go_wp2_with fail
      go_roundw
      case rel => exact ⟨k + 1, by omega, HO6, by go_num, B6, HB6, Hb6⟩
      case measure => simp [intOf]; omega
    · obtain rfl : k = N := by omega
      have t1 : decide ((k : Int) < (k : Int)) = false := decide_eq_false (by omega)
      have hR : Hid (RS wr (.slice AO (k + 1) co) (textL m)) := Lib.hid (by
        have hl : (movL m :: (m.rows.take k).map rowL) = textL m := by
          unfold textL; rw [← HN.out, List.take_length]
        have h := HO.out
        rw [hl] at h
        have hlen : (textL m).length = k + 1 := by unfold textL; simp [HN.out]
        rw [← hlen] at h ⊢
        exact rs_of_own h)
      go_wp2_with fail
      go_ret2
      exact ⟨.slice AO (k + 1) co, by rw [HX.out.2]; rfl, by rw [HX.out.1]; exact hR.out, BR.out⟩
end Go.Proofs.YtidpfggikighlaaDoor
