/- does: a disk, and a log on it, do what the reference does. -/
import Derived.Test.YtbompgfjlllioaaDoorJStep4
import Derived.Test.YtbompgfjlllioaaDoorJNone
import Derived.Test.YtbompgfjlllioaaDoorJKeepsW
import Derived.Deep.LoopGhost
import Derived.Outline
namespace Go.Proofs.YtbompgfjlllioaaDoor
open Go Go.RowKit

theorem SV.at {W : World} {A : Option Addr} {n cap i : Nat} {l : List (UInt8 × ByteArray × Int)} {t : UInt8 × ByteArray × Int} (h : SV W (.slice A n cap) l) (hi : l[i]? = some t) : ∃ b o, A = some ⟨b, o, none⟩ ∧ W.cell? ⟨b, o + i * 3, none⟩ = some (.int .u8 (t.1.toNat : Int)) ∧ W.cell? ⟨b, o + i * 3 + 1, none⟩ = some (.string t.2.1) ∧ W.cell? ⟨b, o + i * 3 + 2, none⟩ = some (.int .i64 t.2.2) := by
  cases h with
  | none_ => simp at hi
  | some_ b o cap l hlt h => obtain ⟨h1, h2, h3⟩ := h i t hi; exact ⟨b, o, rfl, h1, h2, h3⟩
/-- The state of does: the program's log x, or none. -/
inductive DS (w0 w : World) (dp rp yp : Nat) (s : JS) : Value → Prop
  | log (lp : Nat) (dv rv bv rb yv : Value) (hg : LGs w w0.heap.size lp dp s dv rv bv) (hr : JRs w0 w rp yp s rb yv (PLg lp dp rv bv dv)) : DS w0 w dp rp yp s (.pointer (some ⟨lp, 0, none⟩))
  | none_ (dv rb yv : Value) (hd : DN w w0.heap.size dp dv s.pow s.bs) (hr : JRs w0 w rp yp s rb yv (PLd dp dv)) (h0 : s.recs = [] ∧ s.last = 0 ∧ s.size = 0) : DS w0 w dp rp yp s (.pointer none)
theorem DS.keep {w0 w w' : World} {dp rp yp : Nat} {s : JS} {x : Value} (h : DS w0 w dp rp yp s x) (hb : Below w.heap.size w w') : DS w0 w' dp rp yp s x := by
  cases h with
  | log lp dv rv bv rb yv hg hr => exact .log lp dv rv bv rb yv (LG.keep hg hb) (JR.keep hr hb)
  | none_ dv rb yv hd hr h0 => exact .none_ dv rb yv (hd.keep hb) (JR.keep hr hb) h0
theorem DS.below {w0 w : World} {dp rp yp : Nat} {s : JS} {x : Value} (h : DS w0 w dp rp yp s x) : Below w0.heap.size w0 w := by
  cases h with
  | log lp dv rv bv rb yv hg hr => exact hr.below
  | none_ dv rb yv hd hr h0 => exact hr.below
/-- The state of does beside the step's own block. -/
inductive DSB (w0 w : World) (dp rp yp : Nat) (s : JS) (pb : Nat) (cs : Array Value) : Value → Prop
  | log (lp : Nat) (dv rv bv rb yv : Value) (hg : LGs w w0.heap.size lp dp s dv rv bv) (hr : JRs w0 w rp yp s rb yv (PLg lp dp rv bv dv)) (hb : Blk w pb 54 cs) (h1 : ∀ x ∈ OR rp yp rb yv, x < pb) (h2 : ∀ x ∈ PLg lp dp rv bv dv, x < pb) : DSB w0 w dp rp yp s pb cs (.pointer (some ⟨lp, 0, none⟩))
  | none_ (dv rb yv : Value) (hd : DN w w0.heap.size dp dv s.pow s.bs) (hr : JRs w0 w rp yp s rb yv (PLd dp dv)) (h0 : s.recs = [] ∧ s.last = 0 ∧ s.size = 0) (hb : Blk w pb 54 cs) (h1 : ∀ x ∈ OR rp yp rb yv, x < pb) (h2 : ∀ x ∈ PLd dp dv, x < pb) : DSB w0 w dp rp yp s pb cs (.pointer none)
theorem DS.box {w0 w : World} {dp rp yp : Nat} {s : JS} {x : Value} (h : DS w0 w dp rp yp s x) (cs : Array Value) : DSB w0 (w.alloc (.cells cs 54)) dp rp yp s w.heap.size cs x := by
  have hb := below1 w (.cells cs 54)
  cases h with
  | log lp dv rv bv rb yv hg hr => exact .log lp dv rv bv rb yv (LG.keep hg hb) (JR.keep hr hb) (Blk.new w _ _) (JR.lt hr) (LG.lt hg)
  | none_ dv rb yv hd hr h0 => exact .none_ dv rb yv (hd.keep hb) (JR.keep hr hb) h0 (Blk.new w _ _) (JR.lt hr) hd.lt
/-- What a state may have come to behind i steps. -/
structure JS.At (s : JS) (i : Nat) : Prop where
  bs : s.bs.length ≤ 100000 + 206 * i
  p0 : -9223372036854775808 ≤ s.pow
  p1 : s.pow ≤ 9223372036854775807
  recs : s.recs.length ≤ 100000 + 206 * i
  last : s.last < 9973
  size : s.size ≤ 100000 + 206 * i
theorem JS.At.ok {s : JS} {i : Nat} (h : s.At i) (hi : i ≤ 100) : s.Ok := ⟨by have := h.bs; omega, h.p0, h.p1, by have := h.recs; omega, h.last, by have := h.size; omega⟩
theorem JS.At.app {s : JS} {i : Nat} (h : s.At i) (t : List UInt8) : (s.app t).2.At (i + 1) := by
  obtain ⟨bs, pow, recs, last, size, closed⟩ := s
  obtain ⟨h1, h2, h3, h4, h5, h6⟩ := h
  simp only at h1 h2 h3 h4 h5 h6
  have hp : ∀ m : Nat, m ≤ 1000 → -9223372036854775808 ≤ powP pow m ∧ powP pow m ≤ 9223372036854775807 := fun m hm => by
    have := wr_le pow m
    have h0 : 0 ≤ pow → wrP pow m ≤ pow.toNat := fun h0 => by unfold wrP; rw [if_pos h0]; omega
    unfold powP
    split
    · have := h0 (by assumption); omega
    · omega
  unfold JS.app
  simp only
  split
  · exact ⟨by simp only; omega, h2, h3, by simp only; omega, h5, by simp only; omega⟩
  · split
    · have hl := rightL_len (by assumption)
      have hp' := hp (t.length + 6) (by omega)
      split
      · refine ⟨?_, hp'.1, hp'.2, by simp only; omega, h5, by simp only; omega⟩
        simp only [List.length_append, List.length_take, lineL_len]
        omega
      · refine ⟨?_, hp'.1, hp'.2, ?_, sumL_lt _ _, by simp only; omega⟩
        · simp only [List.length_append, lineL_len]
          omega
        · simp only [List.length_append, List.length_cons, List.length_nil]
          omega
    · exact ⟨by simp only; omega, h2, h3, by simp only; omega, h5, by simp only; omega⟩
theorem JS.At.up {s : JS} {i : Nat} (h : s.At i) : s.At (i + 1) := ⟨by have := h.bs; omega, h.p0, h.p1, by have := h.recs; omega, h.last, by have := h.size; omega⟩
theorem JS.At.opened {s : JS} {i : Nat} (h : s.At i) : (openS s.bs s.pow).At (i + 1) := by
  have h1 := scan_le s.bs
  have h2 := scan_rlen s.bs
  have h3 := cutPow_b (bs := s.bs) (n := (scanS (linesL s.bs)).size) h.p0 h.p1
  have hb := h.bs
  exact ⟨by show (s.bs.take _).length ≤ _; rw [List.length_take]; omega, h3.1, h3.2, by show (scanS (linesL s.bs)).recs.length ≤ _; omega, scanS_last _, by show (scanS (linesL s.bs)).size ≤ _; omega⟩
theorem JS.At.shut {s : JS} {i : Nat} (h : s.At i) : JS.At ⟨s.bs, s.pow, [], 0, 0, false⟩ (i + 1) := ⟨by have := h.bs; show s.bs.length ≤ _; omega, h.p0, h.p1, by simp, by show 0 < 9973; decide, by show 0 ≤ _; omega⟩
theorem JS.At.cut {s : JS} {i : Nat} (h : s.At i) (n : Nat) : JS.At ⟨s.bs.take n, cutPow s.bs.length n s.pow, s.recs, s.last, s.size, s.closed⟩ (i + 1) := by
  have h3 := cutPow_b (bs := s.bs) (n := n) h.p0 h.p1
  obtain ⟨a, b, c, d, e, f⟩ := h
  exact ⟨by show (s.bs.take _).length ≤ _; rw [List.length_take]; omega, h3.1, h3.2, by show s.recs.length ≤ _; omega, e, by show s.size ≤ _; omega⟩
theorem JS.At.power {s : JS} {i : Nat} (h : s.At i) (p : Int) (h0 : -9223372036854775808 ≤ p) (h1 : p ≤ 9223372036854775807) : JS.At ⟨s.bs, p, s.recs, s.last, s.size, s.closed⟩ (i + 1) := by
  obtain ⟨a, b, c, d, e, f⟩ := h
  exact ⟨by show s.bs.length ≤ _; omega, h0, h1, by show s.recs.length ≤ _; omega, e, by show s.size ≤ _; omega⟩
theorem JS.At.byte {s : JS} {i : Nat} (h : s.At i) (n : Nat) (d : UInt8) : JS.At ⟨s.bs.set n d, s.pow, s.recs, s.last, s.size, s.closed⟩ (i + 1) := by
  obtain ⟨a, b, c, d, e, f⟩ := h
  exact ⟨by show (s.bs.set n _).length ≤ _; rw [List.length_set]; omega, b, c, by show s.recs.length ≤ _; omega, e, by show s.size ≤ _; omega⟩
/-- The program's disk alone. -/
theorem DSB.disk {w0 w : World} {dp rp yp : Nat} {s : JS} {pb : Nat} {cs : Array Value} {x : Value} (h : DSB w0 w dp rp yp s pb cs x) : ∃ dv rb yv, DN w w0.heap.size dp dv s.pow s.bs ∧ JR w0 w rp yp s.pow s.bs s.recs s.last s.size s.closed rb yv (PLd dp dv) := by
  cases h with
  | log lp dv rv bv rb yv hg hr => exact ⟨dv, rb, yv, LG.dn hg, JR.mono hr pld_plg⟩
  | none_ dv rb yv hd hr => exact ⟨dv, rb, yv, hd, hr⟩
theorem size_al (w : World) (o : Obj) : (w.alloc o).heap.size = w.heap.size + 1 := by simp
theorem own_empty' (w : World) (t : TypeId) (B : Nat) (hB : w.heap.size = B) : (w.alloc (.cells #[] t)).ownsRow B t 1 (.slice (some ⟨B, 0, none⟩) 0 0) 0 (([] : List UInt8).map byteV) := by
  subst hB
  exact own_empty w t
theorem blk_new (w : World) (t : TypeId) (c : Array Value) : Blk (w.alloc (.cells c t)) w.heap.size t c := by
  show (w.heap.push (.cells c t))[w.heap.size]? = _
  simp
/-- The start: a disk of the program's, one of the reference's, a log of the reference's. -/
theorem ds_start {w w1 w3 : World} {A1 A3 : Option Addr} {c1 c3 n0 : Nat} {bs0 : List UInt8} {p0 : Int} (hn : bs0.length = n0)
    (ho1 : w1.ownsRow w.heap.size 5 1 (.slice A1 n0 c1) n0 (bs0.map byteV)) (hb1 : Below w.heap.size w w1)
    (ho3 : w3.ownsRow (w1.heap.size + 1) 5 1 (.slice A3 n0 c3) n0 (bs0.map byteV))
    (hb3 : Below (w1.alloc (.cells #[.slice A1 n0 c1, .int .i64 p0] 28)).heap.size (w1.alloc (.cells #[.slice A1 n0 c1, .int .i64 p0] 28)) w3) :
    DS w ((w3.alloc (.cells #[.slice A3 n0 c3, .int .i64 p0] 79)).alloc (.cells #[.slice none 0 0, .int .i64 0, .int .i64 0, .bool false] 73)) w1.heap.size w3.heap.size (w3.heap.size + 1) ⟨bs0, p0, [], 0, 0, false⟩ (.pointer none) := by
  have hw1 : w.heap.size ≤ w1.heap.size := hb1.size
  have hw3 : w1.heap.size + 1 ≤ w3.heap.size := by have h := hb3.size; rw [size_al] at h; exact h
  have b4 := below1 w3 (.cells #[.slice A3 n0 c3, .int .i64 p0] 79)
  have b5 := below1 (w3.alloc (.cells #[.slice A3 n0 c3, .int .i64 p0] 79)) (.cells #[.slice none 0 0, .int .i64 0, .int .i64 0, .bool false] 73)
  have b45 := bchain b4 b5
  have b345 := bchain hb3 b45
  have b1345 := bchain (below1 w1 (.cells #[.slice A1 n0 c1, .int .i64 p0] 28)) b345
  refine .none_ (.slice A1 n0 c1) (.slice A3 n0 c3) (.slice none 0 0) ⟨?_, ?_, hw1⟩ ⟨⟨?_, ?_⟩, ⟨?_, ?_⟩, ?_, ?_, ?_, ?_⟩ ⟨rfl, rfl, rfl⟩
  · exact (blk_new w1 28 #[.slice A1 n0 c1, .int .i64 p0]).keep b345 (blk_new w1 _ _).lt
  · exact (dv_of_own ho1).keep b1345
  · exact (blk_new w3 79 #[.slice A3 n0 c3, .int .i64 p0]).keep b5 (blk_new w3 _ _).lt
  · show World.ownsRow _ _ _ _ _ bs0.length _
    rw [hn]
    exact own_keep (own_base ho3 (by omega)) b45
  · have h := blk_new (w3.alloc (.cells #[.slice A3 n0 c3, .int .i64 p0] 79)) 73 #[.slice none 0 0, .int .i64 0, .int .i64 0, .bool false]
    rw [size_al] at h
    exact h
  · exact ⟨by simp, .inl ⟨rfl, rfl⟩⟩
  · intro x hx hm
    have h1 : x ≤ w1.heap.size := by
      simp only [PLd, List.mem_cons, Option.mem_toList] at hx
      rcases hx with rfl | hx
      · exact Nat.le_refl _
      · exact Nat.le_of_lt (row_lt ho1 x hx)
    simp only [OR, List.mem_cons, List.mem_append, Option.mem_toList] at hm
    rcases hm with h | h | h | h
    · omega
    · omega
    · have := own_ge ho3 x h; omega
    · simp [Value.ownBlock] at h
  · exact bchain hb1 b1345
  · show _ ≤ w3.heap.size; omega
  · show _ ≤ w3.heap.size + 1; omega
set_option maxRecDepth 100000 in
set_option maxHeartbeats 8000000 in
theorem does_any (v : Value) (bs0 : List UInt8) (hbs : bs0.length ≤ 100000) (p0 : Int) (hp0 : -9223372036854775808 ≤ p0) (hp1 : p0 ≤ 9223372036854775807) (sv : Value) (l : List (UInt8 × ByteArray × Int)) (hl : l.length ≤ 100) (hst : ∀ s ∈ l, s.2.1.size ≤ 2000000 ∧ -9223372036854775808 ≤ s.2.2 ∧ s.2.2 ≤ 9223372036854775807) (w : World) (he : Env w) (hB : BV w v bs0) (hS : SV w sv l) :
    Calls Tryd.prog 25 #[v, .int .i64 p0, sv] w (fun e w' => e = .returned (.bool true) ∧ Below w.heap.size w w') := by
  have HE := Lib.hid he
  have HB := Lib.hid hB
  have HS := Lib.hid hS
  have HST := Lib.hid hst
  obtain ⟨A, c, rfl⟩ := hB.len
  obtain ⟨AS, cS, rfl⟩ := hS.len
  obtain ⟨n0, hn0⟩ : ∃ n0, bs0.length = n0 := ⟨_, rfl⟩
  obtain ⟨N, hN⟩ : ∃ N, l.length = N := ⟨_, rfl⟩
  have HN0 := Lib.hid hn0
  have HBS := Lib.hid hbs
  have HN := Lib.hid hN
  rw [hn0] at hbs ⊢
  rw [hN] at hl ⊢
  clear he hB hS hst hn0 hN
  go_enter Tryd.func25, Tryd.ntmps25
  go_upto_region 2 with (first
    | (at_builtin; refine wp_bv_own rfl (.tmp 23) (.tmp 24) rfl _ w.heap.size _ 0 [] rfl (own_empty w 5) A n0 c bs0 HN0.out rfl (by have h := HB.out.keep (below1 w (.cells #[] 5)); rw [HN0.out] at h; exact h) (by omega) (by simp) ?_; intro v1 w1 ho1 _ hb1; rw [Nat.zero_add, List.nil_append] at ho1; obtain ⟨A1, c1, rfl⟩ := own_slice ho1; have HO1 := Lib.hid ho1; have BB1 := Lib.hid (Below.trans (below1 w (.cells #[] 5)) hb1); clear ho1 hb1)
    | (at_builtin; refine wp_bv_own rfl (.tmp 29) (.tmp 30) rfl _ (w1.heap.size + 1) _ 0 [] rfl (own_empty' (w1.alloc (.cells #[.slice A1 n0 c1, .int .i64 p0] 28)) 5 (w1.heap.size + 1) (by simp)) A n0 c bs0 HN0.out rfl (by have h := HB.out.keep (bchain BB1.out (bchain (below1 w1 (.cells #[.slice A1 n0 c1, .int .i64 p0] 28)) (below1 _ (.cells #[] 5)))); rw [HN0.out] at h; exact h) (by omega) (by simp) ?_; intro v3 w3 ho3 _ hb3; rw [Nat.zero_add, List.nil_append] at ho3; obtain ⟨A3, c3, rfl⟩ := own_slice ho3; have HO3 := Lib.hid ho3; rw [← size_al w1 (.cells #[.slice A1 n0 c1, .int .i64 p0] 28)] at hb3; have BB3 := Lib.hid (Below.trans (below1 (w1.alloc (.cells #[.slice A1 n0 c1, .int .i64 p0] 28)) (.cells #[] 5)) hb3); clear ho3 hb3))
  have DS0 := Lib.hid (ds_start (p0 := p0) HN0.out HO1.out BB1.out HO3.out BB3.out)
  go_wp2_with fail
  clear HO1 HO3 BB1 BB3 HB
  generalize (w3.alloc (.cells #[.slice A3 n0 c3, .int .i64 p0] 79)).alloc (.cells #[.slice none 0 0, .int .i64 0, .int .i64 0, .bool false] 73) = wl at *
  generalize w3.heap.size + 1 = yp at *
  generalize w3.heap.size = rp at *
  generalize w1.heap.size + 1 = q29 at *
  generalize w1.heap.size = dp at *
  go_loopg [9, 37] N (fun k s9 s37 wr => ∃ i s, k = N - i ∧ i ≤ N ∧ s37 = .int .i64 ((i : Nat) : Int) ∧ DS w wr dp rp yp s s9 ∧ s.At i)
  case atStart =>
    exact ⟨0, ⟨bs0, p0, [], 0, 0, false⟩, rfl, Nat.zero_le _, rfl, DS0.out, ⟨by show bs0.length ≤ _; rw [HN0.out]; omega, hp0, hp1, by simp, by show 0 < 9973; decide, by show 0 ≤ _; omega⟩⟩
  case round =>
    obtain ⟨i, s, rfl, hi, rfl, hds, hat⟩ := hrel
    have DSh := Lib.hid hds
    have ATh := Lib.hid hat
    have BWr := Lib.hid hds.below
    clear hds hat DS0 HN0
    by_cases hlt : i < N
    · have hil : i < l.length := by rw [HN.out]; exact hlt
      obtain ⟨⟨kd, tx, nv⟩, hst⟩ : ∃ t, l[i]? = some t := ⟨l[i], List.getElem?_eq_getElem hil⟩
      have hb3 := HST.out _ (List.mem_of_getElem? hst)
      have HB3 := Lib.hid hb3
      obtain ⟨b, o, rfl, d0, d1, d2⟩ := (HS.out.keep BWr.out).at hst
      have t1 : decide ((i : Int) < (N : Int)) = true := decide_eq_true (by omega)
      clear hst hb3 hil
      go_upto_region 7 with fail
      have SB := Lib.hid (blk_new wr 54 #[.int .u8 (kd.toNat : Int), .string tx, .int .i64 nv])
      have D2 := Lib.hid (DSh.out.box #[.int .u8 (kd.toNat : Int), .string tx, .int .i64 nv])
      generalize wr.alloc (.cells #[.int .u8 (kd.toNat : Int), .string tx, .int .i64 nv] 54) = wa at *
      have c0 : wa.cell? ⟨wr.heap.size, 0, none⟩ = some (.int .u8 (kd.toNat : Int)) := SB.out.cell (j := 0) rfl
      generalize wr.heap.size = pb at *
      obtain ⟨m, hm, hm8⟩ : ∃ m : Nat, (kd.toNat : Int) % 8 = (m : Int) ∧ m < 8 := ⟨kd.toNat % 8, by omega, by omega⟩
      go_upto_block 2 with fail
      clear DSh t1
      go_cut [9, 43] (fun s9 s43 wx => ∃ s', DS w wx dp rp yp s' s9 ∧ s'.At (i + 1))
      case first =>
        rcases (by omega : m ≤ 3 ∨ m = 4 ∨ m = 5 ∨ m = 6 ∨ m = 7) with h3 | h4 | h5 | h6 | h7
        · as_aux_lemma =>
            go_upto_if 44 with fail
            go_cut [43, 44] (fun s43 s44 wx => s44 = .bool true ∧ wx = wa)
            case first =>
              rcases (by omega : m = 0 ∨ m = 1 ∨ m = 2 ∨ m = 3) with h | h | h | h
              · have b0 : ((m : Int) == 0) = true := beq_iff_eq.2 (by omega)
                clear h c0 SB D2
                go_wp2_with fail
                go_meet
                exact ⟨rfl, rfl⟩
              · have b0 : ((m : Int) == 0) = false := beq_eq_false_iff_ne.2 (by omega)
                have b1 : ((m : Int) == 1) = true := beq_iff_eq.2 (by omega)
                clear h c0 SB D2
                go_wp2_with fail
                go_meet
                exact ⟨rfl, rfl⟩
              · have b0 : ((m : Int) == 0) = false := beq_eq_false_iff_ne.2 (by omega)
                have b1 : ((m : Int) == 1) = false := beq_eq_false_iff_ne.2 (by omega)
                have b2 : ((m : Int) == 2) = true := beq_iff_eq.2 (by omega)
                clear h c0 SB D2
                go_wp2_with fail
                go_meet
                exact ⟨rfl, rfl⟩
              · have b0 : ((m : Int) == 0) = false := beq_eq_false_iff_ne.2 (by omega)
                have b1 : ((m : Int) == 1) = false := beq_eq_false_iff_ne.2 (by omega)
                have b2 : ((m : Int) == 2) = false := beq_eq_false_iff_ne.2 (by omega)
                have b3 : ((m : Int) == 3) = true := beq_iff_eq.2 (by omega)
                clear h c0 SB D2
                go_wp2_with fail
                go_meet
                exact ⟨rfl, rfl⟩

            case rest =>
              obtain ⟨rfl, rfl⟩ := hcut
              have d2 := D2.out
              clear D2 c0 SB
              cases d2 with
              | log lp dv rv bv rb yv hg hr hb h1 h2 =>
                have RA := Lib.hid (rapp_js hg hr (ATh.out.ok (by omega)) tx HB3.out.1 (fun wx => Blk wx pb 54 #[.int .u8 (kd.toNat : Int), .string tx, .int .i64 nv]) hb (fun w' hf => hf.blk hb (fun hm => Nat.lt_irrefl _ (h1 _ hm))))
                have e1 : wc.cell? ⟨pb, 1, none⟩ = some (.string tx) := hb.cell (j := 1) rfl
                clear hg hr hb h1 h2
                go_wp2_with fail
                refine RA.out.mono ?_
                rintro e w5 ⟨rfl, hb5, hg5, rb5, yv5, hr5⟩
                have PA := Lib.hid (papp_js hg5 hr5 (HE.out.keep hr5.below) (ATh.out.ok (by omega)) tx HB3.out.1)
                have e5 : w5.cell? ⟨pb, 1, none⟩ = some (.string tx) := hb5.cell (j := 1) rfl
                clear hb5 hg5 hr5 e1 RA
                go_wp2_with fail
                refine PA.out.mono ?_
                rintro e w6 ⟨rfl, dv6, rv6, bv6, hg6, hr6⟩
                have R6 : Hid (DS w w6 dp rp yp (s.app tx.data.toList).2 (.pointer (some ⟨lp, 0, none⟩))) := Lib.hid (.log lp dv6 rv6 bv6 rb5 yv5 hg6 hr6)
                clear hg6 hr6 e5 PA
                generalize (s.app tx.data.toList).1 = want at *
                go_wp2_with fail
                go_meet
                exact ⟨_, R6.out, ATh.out.app _⟩
              | none_ dv rb yv hd hr h0 hb h1 h2 =>
                have e1 : wc.cell? ⟨pb, 1, none⟩ = some (.string tx) := hb.cell (j := 1) rfl
                have AN := Lib.hid (append_no (s := tx) (v := .pointer none) (w := wc) (IS := is_nil wc))
                have R6 : Hid (DS w wc dp rp yp s (.pointer none)) := Lib.hid (.none_ dv rb yv hd hr h0)
                clear hd hr h0 hb h1 h2
                go_wp2_with fail
                refine AN.out.mono ?_
                rintro e w6 ⟨rfl, rfl⟩
                go_wp2_with fail
                go_meet
                exact ⟨_, R6.out, ATh.out.up⟩
        · as_aux_lemma =>
            have b0 : ((m : Int) == 0) = false := beq_eq_false_iff_ne.2 (by omega)
            have b1 : ((m : Int) == 1) = false := beq_eq_false_iff_ne.2 (by omega)
            have b2 : ((m : Int) == 2) = false := beq_eq_false_iff_ne.2 (by omega)
            have b3 : ((m : Int) == 3) = false := beq_eq_false_iff_ne.2 (by omega)
            have b4 : ((m : Int) == 4) = true := beq_iff_eq.2 (by omega)
            obtain ⟨dv, rb, yv, hd, hr⟩ := D2.out.disk
            have ok := ATh.out.ok (by omega)
            have PO := Lib.hid (popen_js hd hr (HE.out.keep hr.below) ok.bs ok.p0 ok.p1)
            have HO := Lib.hid ok
            clear h4 c0 SB D2 hd hr ok
            go_wp2_with fail
            clear b0 b1 b2 b3 b4
            refine PO.out.mono ?_
            rintro e w5 ⟨q1, q2⟩
            by_cases hoc : openCode s.bs s.pow = 0
            · obtain ⟨lp, dv', rv', rfl, hg5, hr5⟩ := q1 hoc
              have G5 := Lib.hid hg5
              have RO := Lib.hid (ropen_js hr5 (LG.lt hg5) HO.out.bs HO.out.p0 HO.out.p1 (fun wx => LGs wx w.heap.size lp dp (openS s.bs s.pow) dv' rv' (.slice none 0 0)) (fun w' P hf hn => LG.fr hg5 hf hn))
              have L5 := Lib.hid (LG.lt hg5)
              have S5 := Lib.hid hr5.below.size
              have OC := Lib.hid hoc
              clear q1 q2 hg5 hr5 hoc PO G5
              go_wp2_with fail
              refine RO.out.mono ?_
              rintro e w6 ⟨hk6, r1, r2⟩
              obtain ⟨mv, rb', rfl, hrow, hr6⟩ := r1 OC.out
              obtain ⟨A9, c9, rfl⟩ := own_slice hrow
              obtain ⟨al, hal⟩ : ∃ n, (scanS (linesL s.bs)).last = n := ⟨_, rfl⟩
              obtain ⟨az, has⟩ : ∃ n, (scanS (linesL s.bs)).size = n := ⟨_, rfl⟩
              obtain ⟨ar, har⟩ : ∃ n, (scanS (linesL s.bs)).recs.length = n := ⟨_, rfl⟩
              have B7 := below1 w6 (.cells #[.slice A9 (scanS (linesL s.bs)).recs.length c9, .int .i64 ((scanS (linesL s.bs)).last : Nat), .int .i64 ((scanS (linesL s.bs)).size : Nat), .bool false] 73)
              have K7 := Lib.hid (And.intro (LG.keep hk6 B7) (And.intro (own_keep (own_base hrow S5.out) B7) (And.intro (fun x hx hm => Nat.lt_irrefl _ (Nat.lt_of_lt_of_le (L5.out x hx) (own_ge hrow x hm)) : ∀ x ∈ PLg lp dp rv' (.slice none 0 0) dv', (Value.slice A9 (scanS (linesL s.bs)).recs.length c9).ownBlock ≠ some x) (JR.keep hr6 B7))))
              have Z7 := Lib.hid (blk_new w6 73 #[.slice A9 (scanS (linesL s.bs)).recs.length c9, .int .i64 ((scanS (linesL s.bs)).last : Nat), .int .i64 ((scanS (linesL s.bs)).size : Nat), .bool false])
              rw [hal, has, har] at Z7
              clear r1 r2 hk6 hrow hr6 RO B7 L5 S5
              go_upto_region 22 with fail
              try rw [hal, has, har]
              generalize hW7 : w6.alloc (.cells #[.slice A9 ar c9, .int .i64 (al : Nat), .int .i64 (az : Nat), .bool false] 73) = w7 at *
              rw [hal, has, har, hW7] at K7
              generalize w6.heap.size = zp at *
              obtain ⟨k1, k2, k3, k4⟩ := K7.out
              have c0 := Z7.out.cell (j := 0) rfl
              have c1 := Z7.out.cell (j := 1) rfl
              have c2 := Z7.out.cell (j := 2) rfl
              have c3 := Z7.out.cell (j := 3) rfl
              obtain ⟨AY, cY, rfl⟩ := own_slice k4.rl.row
              have y0 := k4.rl.log.cell (j := 0) rfl
              have y1 := k4.rl.log.cell (j := 1) rfl
              have y2 := k4.rl.log.cell (j := 2) rfl
              have y3 := k4.rl.log.cell (j := 3) rfl
              have f0 := k4.rl.log.free 0
              have f1 := k4.rl.log.free 1
              have f2 := k4.rl.log.free 2
              have f3 := k4.rl.log.free 3
              have DO := Lib.hid (ds_open (s := openS s.bs s.pow) k1 k4 (by show w7.ownsRow _ _ _ _ (scanS (linesL s.bs)).recs.length _; rw [har]; exact k2) k3)
              rw [show (openS s.bs s.pow).last = al from hal, show (openS s.bs s.pow).size = az from has, show (openS s.bs s.pow).closed = false from rfl] at DO
              clear k1 k2 k3 k4 K7 hal has
              go_region
              go_wp2_with fail
              have B9 := Below.drew (Below.refl (((((w7.setCell ⟨yp, 0, none⟩ (.slice A9 ar c9)).setCell ⟨yp, 1, none⟩ (.int .i64 (al : Nat))).setCell ⟨yp, 2, none⟩ (.int .i64 (az : Nat))).setCell ⟨yp, 3, none⟩ (.bool false)).heap.size) ((((w7.setCell ⟨yp, 0, none⟩ (.slice A9 ar c9)).setCell ⟨yp, 1, none⟩ (.int .i64 (al : Nat))).setCell ⟨yp, 2, none⟩ (.int .i64 (az : Nat))).setCell ⟨yp, 3, none⟩ (.bool false)))
              have R9 : Hid (DS w _ dp rp yp (openS s.bs s.pow) (.pointer (some ⟨lp, 0, none⟩))) := Lib.hid (.log lp dv' rv' (.slice none 0 0) rb' _ (LG.keep DO.out.1 B9) (JR.keep DO.out.2 B9))
              clear c0 c1 c2 c3 y0 y1 y2 y3 f0 f1 f2 f3 B9
              go_meet
              exact ⟨_, R9.out, ATh.out.opened⟩
            · obtain ⟨rfl, hd5, hr5⟩ := q2 hoc
              have RO := Lib.hid (ropen_js hr5 (DN.lt hd5) HO.out.bs HO.out.p0 HO.out.p1 (fun wx => DN wx w.heap.size dp dv s.pow s.bs) (fun w' P hf hn => DN.fr hd5 hf hn))
              have OC := Lib.hid hoc
              have nz : (openCode s.bs s.pow == 0) = false := beq_eq_false_iff_ne.2 hoc
              clear q1 q2 hd5 hr5 hoc PO
              generalize openCode s.bs s.pow = oc at *
              go_wp2_with fail
              refine RO.out.mono ?_
              rintro e w6 ⟨hk6, r1, r2⟩
              obtain ⟨rfl, hr6⟩ := r2 OC.out
              have B7 := below1 w6 (.cells #[.slice none 0 0, .int .i64 0, .int .i64 0, .bool false] 73)
              have K7 := Lib.hid (And.intro (DN.keep hk6 B7) (JR.keep hr6 B7))
              have Z7 := Lib.hid (blk_new w6 73 #[.slice none 0 0, .int .i64 0, .int .i64 0, .bool false])
              clear r1 r2 hk6 hr6 RO B7
              unfold zeroLog
              go_upto_region 22 with fail
              generalize hW7 : w6.alloc (.cells #[.slice none 0 0, .int .i64 0, .int .i64 0, .bool false] 73) = w7 at *
              generalize w6.heap.size = zp at *
              obtain ⟨k1, k4⟩ := K7.out
              have c0 := Z7.out.cell (j := 0) rfl
              have c1 := Z7.out.cell (j := 1) rfl
              have c2 := Z7.out.cell (j := 2) rfl
              have c3 := Z7.out.cell (j := 3) rfl
              obtain ⟨AY, cY, rfl⟩ := own_slice k4.rl.row
              have y0 := k4.rl.log.cell (j := 0) rfl
              have y1 := k4.rl.log.cell (j := 1) rfl
              have y2 := k4.rl.log.cell (j := 2) rfl
              have y3 := k4.rl.log.cell (j := 3) rfl
              have f0 := k4.rl.log.free 0
              have f1 := k4.rl.log.free 1
              have f2 := k4.rl.log.free 2
              have f3 := k4.rl.log.free 3
              have DO := Lib.hid (ds_shut k1 k4)
              clear k1 k4 K7
              go_region
              go_wp2_with fail
              have B9 := Below.drew (Below.refl (((((w7.setCell ⟨yp, 0, none⟩ (.slice none 0 0)).setCell ⟨yp, 1, none⟩ (.int .i64 0)).setCell ⟨yp, 2, none⟩ (.int .i64 0)).setCell ⟨yp, 3, none⟩ (.bool false)).heap.size) ((((w7.setCell ⟨yp, 0, none⟩ (.slice none 0 0)).setCell ⟨yp, 1, none⟩ (.int .i64 0)).setCell ⟨yp, 2, none⟩ (.int .i64 0)).setCell ⟨yp, 3, none⟩ (.bool false)))
              have R9 : Hid (DS w _ dp rp yp ⟨s.bs, s.pow, [], 0, 0, false⟩ (.pointer none)) := Lib.hid (.none_ dv _ (.slice none 0 0) (DN.keep DO.out.1 B9) (JR.keep DO.out.2 B9) ⟨rfl, rfl, rfl⟩)
              clear c0 c1 c2 c3 y0 y1 y2 y3 f0 f1 f2 f3 B9
              go_meet
              exact ⟨_, R9.out, ATh.out.shut⟩
        · as_aux_lemma =>
            have b0 : ((m : Int) == 0) = false := beq_eq_false_iff_ne.2 (by omega)
            have b1 : ((m : Int) == 1) = false := beq_eq_false_iff_ne.2 (by omega)
            have b2 : ((m : Int) == 2) = false := beq_eq_false_iff_ne.2 (by omega)
            have b3 : ((m : Int) == 3) = false := beq_eq_false_iff_ne.2 (by omega)
            have b4 : ((m : Int) == 4) = false := beq_eq_false_iff_ne.2 (by omega)
            have b5 : ((m : Int) == 5) = true := beq_iff_eq.2 (by omega)
            have d2 := D2.out
            clear D2
            cases d2 with
            | log lp dv rv bv rb yv hg hr =>
              have ok := ATh.out.ok (by omega)
              have PR := Lib.hid (prep_dn (LG.dn hg) (HE.out.keep hr.below) ok.bs ok.p0 ok.p1)
              have HO := Lib.hid ok
              have H5 := Lib.hid (And.intro hg hr)
              have H0 := Lib.hid trivial
              clear h5 c0 SB hg hr ok
              go_wp2_with fail
              clear b0 b1 b2 b3 b4 b5
              refine PR.out.mono ?_
              rintro e w5 ⟨rfl, q1, q2⟩
              have K5 : Hid (∃ dv5 bs5 pow5, LG w5 w.heap.size lp dp bs5 pow5 s.recs (s.last : Nat) (s.size : Nat) s.closed dv5 rv bv ∧ JR w w5 rp yp s.pow s.bs s.recs s.last s.size s.closed rb yv (PLg lp dp rv bv dv5) ∧ (repCode s.bs s.pow = 0 → bs5 = s.bs.take (scanS (linesL s.bs)).size ∧ pow5 = cutPow s.bs.length (scanS (linesL s.bs)).size s.pow) ∧ (repCode s.bs s.pow ≠ 0 → bs5 = s.bs ∧ pow5 = s.pow)) := Lib.hid (by
                obtain ⟨g, r⟩ := H5.out
                by_cases hrc : repCode s.bs s.pow = 0
                · obtain ⟨dv', p1, p2, p3, p4⟩ := q1 hrc
                  exact ⟨dv', _, _, LG.repaired g p1 p2 p3, r.prog p3 (fun x hx => by obtain rfl : x = dp := (by simpa using hx); simp [PLg, OL]) (fun x hx => by obtain rfl : x = dp := (by simpa using hx); exact g.bd) (PLg_cut p4), fun _ => ⟨rfl, rfl⟩, fun h => absurd hrc h⟩
                · have hb := q2 hrc
                  exact ⟨_, _, _, LG.keep g hb, r.keep hb, fun h => absurd h hrc, fun _ => ⟨rfl, rfl⟩⟩)
              clear q1 q2 H5 PR
              obtain ⟨dv5, bs5, pow5, g5, r5, e5, n5⟩ := K5.out
              have RR := Lib.hid (rrep_js r5 (LG.lt g5) HO.out.bs HO.out.p0 HO.out.p1 (fun wx => LG wx w.heap.size lp dp bs5 pow5 s.recs (s.last : Nat) (s.size : Nat) s.closed dv5 rv bv) (fun w' P hf hn => LG.fr g5 hf hn))
              have E5 := Lib.hid (And.intro e5 n5)
              clear K5 g5 r5 e5 n5
              generalize repN s.bs s.pow = RN at *
              go_wp2_with fail
              refine RR.out.mono ?_
              rintro e w6 ⟨rfl, hk6, r1, r2⟩
              have K6 : Hid (∃ s', DS w w6 dp rp yp s' (.pointer (some ⟨lp, 0, none⟩)) ∧ s'.At (i + 1)) := Lib.hid (by
                by_cases hrc : repCode s.bs s.pow = 0
                · obtain ⟨rfl, rfl⟩ := E5.out.1 hrc
                  obtain ⟨rb', hr'⟩ := r1 hrc
                  exact ⟨⟨s.bs.take (scanS (linesL s.bs)).size, cutPow s.bs.length (scanS (linesL s.bs)).size s.pow, s.recs, s.last, s.size, s.closed⟩, .log lp dv5 rv bv rb' yv hk6 hr', ATh.out.cut _⟩
                · obtain ⟨rfl, rfl⟩ := E5.out.2 hrc
                  exact ⟨s, .log lp dv5 rv bv rb yv hk6 (r2 hrc), ATh.out.up⟩)
              clear r1 r2 hk6 RR E5
              generalize repCode s.bs s.pow = RC at *
              go_wp2_with fail
              go_meet
              exact K6.out
            | none_ dv rb yv hd hr h0 =>
              have ok := ATh.out.ok (by omega)
              have PR := Lib.hid (prep_dn hd (HE.out.keep hr.below) ok.bs ok.p0 ok.p1)
              have HO := Lib.hid ok
              have H5 := Lib.hid (And.intro hd hr)
              have H0 := Lib.hid h0
              clear h5 c0 SB hd h0 hr ok
              go_wp2_with fail
              clear b0 b1 b2 b3 b4 b5
              refine PR.out.mono ?_
              rintro e w5 ⟨rfl, q1, q2⟩
              have K5 : Hid (∃ dv5 bs5 pow5, DN w5 w.heap.size dp dv5 pow5 bs5 ∧ JR w w5 rp yp s.pow s.bs s.recs s.last s.size s.closed rb yv (PLd dp dv5) ∧ (repCode s.bs s.pow = 0 → bs5 = s.bs.take (scanS (linesL s.bs)).size ∧ pow5 = cutPow s.bs.length (scanS (linesL s.bs)).size s.pow) ∧ (repCode s.bs s.pow ≠ 0 → bs5 = s.bs ∧ pow5 = s.pow)) := Lib.hid (by
                obtain ⟨g, r⟩ := H5.out
                by_cases hrc : repCode s.bs s.pow = 0
                · obtain ⟨dv', p1, p2, p3, p4⟩ := q1 hrc
                  exact ⟨dv', _, _, ⟨p1, p2, g.bd⟩, r.prog p3 (fun x hx => by obtain rfl : x = dp := (by simpa using hx); simp [PLd]) (fun x hx => by obtain rfl : x = dp := (by simpa using hx); exact g.bd) (PLd_cut p4), fun _ => ⟨rfl, rfl⟩, fun h => absurd hrc h⟩
                · have hb := q2 hrc
                  exact ⟨_, _, _, g.keep hb, r.keep hb, fun h => absurd h hrc, fun _ => ⟨rfl, rfl⟩⟩)
              clear q1 q2 H5 PR
              obtain ⟨dv5, bs5, pow5, g5, r5, e5, n5⟩ := K5.out
              have RR := Lib.hid (rrep_js r5 (DN.lt g5) HO.out.bs HO.out.p0 HO.out.p1 (fun wx => DN wx w.heap.size dp dv5 pow5 bs5) (fun w' P hf hn => DN.fr g5 hf hn))
              have E5 := Lib.hid (And.intro e5 n5)
              clear K5 g5 r5 e5 n5
              generalize repN s.bs s.pow = RN at *
              go_wp2_with fail
              refine RR.out.mono ?_
              rintro e w6 ⟨rfl, hk6, r1, r2⟩
              have K6 : Hid (∃ s', DS w w6 dp rp yp s' (.pointer none) ∧ s'.At (i + 1)) := Lib.hid (by
                by_cases hrc : repCode s.bs s.pow = 0
                · obtain ⟨rfl, rfl⟩ := E5.out.1 hrc
                  obtain ⟨rb', hr'⟩ := r1 hrc
                  exact ⟨⟨s.bs.take (scanS (linesL s.bs)).size, cutPow s.bs.length (scanS (linesL s.bs)).size s.pow, s.recs, s.last, s.size, s.closed⟩, .none_ dv5 rb' yv hk6 hr' H0.out, ATh.out.cut _⟩
                · obtain ⟨rfl, rfl⟩ := E5.out.2 hrc
                  exact ⟨s, .none_ dv5 rb yv hk6 (r2 hrc) H0.out, ATh.out.up⟩)
              clear r1 r2 hk6 RR E5
              generalize repCode s.bs s.pow = RC at *
              go_wp2_with fail
              go_meet
              exact K6.out
        · as_aux_lemma =>
            have b0 : ((m : Int) == 0) = false := beq_eq_false_iff_ne.2 (by omega)
            have b1 : ((m : Int) == 1) = false := beq_eq_false_iff_ne.2 (by omega)
            have b2 : ((m : Int) == 2) = false := beq_eq_false_iff_ne.2 (by omega)
            have b3 : ((m : Int) == 3) = false := beq_eq_false_iff_ne.2 (by omega)
            have b4 : ((m : Int) == 4) = false := beq_eq_false_iff_ne.2 (by omega)
            have b5 : ((m : Int) == 5) = false := beq_eq_false_iff_ne.2 (by omega)
            have b6 : ((m : Int) == 6) = true := beq_iff_eq.2 (by omega)
            have d2 := D2.out
            clear D2
            cases d2 with
            | log lp dv rv bv rb yv hg hr hb h1 h2 =>
              have hn : rp ∉ PLg lp dp rv bv dv := fun hx => hr.apart _ hx or_rp
              have hin : dp ∈ PLg lp dp rv bv dv := by simp [PLg, OL]
              have G1 := LG.far (LG.setPow hg nv) hn (fr_set (wa.setCell ⟨dp, 1, none⟩ (.int .i64 nv)) rp 1 (.int .i64 nv))
              have R1 := (hr.far hin hg.bd (fr_set wa dp 1 (.int .i64 nv))).setPow nv
              have B9 := Below.drew (Below.refl ((wa.setCell ⟨dp, 1, none⟩ (.int .i64 nv)).setCell ⟨rp, 1, none⟩ (.int .i64 nv)).heap.size ((wa.setCell ⟨dp, 1, none⟩ (.int .i64 nv)).setCell ⟨rp, 1, none⟩ (.int .i64 nv)))
              have R9 : Hid (DS w _ dp rp yp ⟨s.bs, nv, s.recs, s.last, s.size, s.closed⟩ (.pointer (some ⟨lp, 0, none⟩))) := Lib.hid (.log lp dv rv bv rb yv (LG.keep G1 B9) (JR.keep R1 B9))
              obtain ⟨AD, cD, rfl⟩ := (LG.dn hg).bytes.bv.len
              obtain ⟨AR, cR, rfl⟩ := own_slice hr.rd.row
              have x2 : wa.cell? ⟨pb, 2, none⟩ = some (.int .i64 nv) := hb.cell (j := 2) rfl
              have x0 : wa.cell? ⟨dp, 1, none⟩ = some (.int .i64 s.pow) := (LG.dn hg).disk.cell (j := 1) rfl
              have x1 : wa.cell? ⟨rp, 1, none⟩ = some (.int .i64 s.pow) := hr.rd.disk.cell (j := 1) rfl
              have x3 := (LG.dn hg).disk.free 1
              have x4 := hr.rd.disk.free 1
              have x5 : rp ≠ dp := fun e => hn (e ▸ hin)
              clear hg hr hb h1 h2 hn hin G1 R1 B9 h6 c0 SB
              go_upto_region 29 with fail
              go_region
              go_wp2_with fail
              go_meet
              exact ⟨_, R9.out, ATh.out.power nv HB3.out.2.1 HB3.out.2.2⟩
            | none_ dv rb yv hd hr h0 hb h1 h2 =>
              have hn : rp ∉ PLd dp dv := fun hx => hr.apart _ hx or_rp
              have hin : dp ∈ PLd dp dv := by simp [PLd]
              have G1 := DN.far (DN.setPow hd nv) hn (fr_set (wa.setCell ⟨dp, 1, none⟩ (.int .i64 nv)) rp 1 (.int .i64 nv))
              have R1 := (hr.far hin hd.bd (fr_set wa dp 1 (.int .i64 nv))).setPow nv
              have B9 := Below.drew (Below.refl ((wa.setCell ⟨dp, 1, none⟩ (.int .i64 nv)).setCell ⟨rp, 1, none⟩ (.int .i64 nv)).heap.size ((wa.setCell ⟨dp, 1, none⟩ (.int .i64 nv)).setCell ⟨rp, 1, none⟩ (.int .i64 nv)))
              have R9 : Hid (DS w _ dp rp yp ⟨s.bs, nv, s.recs, s.last, s.size, s.closed⟩ (.pointer none)) := Lib.hid (.none_ dv rb yv (DN.keep G1 B9) (JR.keep R1 B9) h0)
              obtain ⟨AD, cD, rfl⟩ := (hd).bytes.bv.len
              obtain ⟨AR, cR, rfl⟩ := own_slice hr.rd.row
              have x2 : wa.cell? ⟨pb, 2, none⟩ = some (.int .i64 nv) := hb.cell (j := 2) rfl
              have x0 : wa.cell? ⟨dp, 1, none⟩ = some (.int .i64 s.pow) := (hd).disk.cell (j := 1) rfl
              have x1 : wa.cell? ⟨rp, 1, none⟩ = some (.int .i64 s.pow) := hr.rd.disk.cell (j := 1) rfl
              have x3 := (hd).disk.free 1
              have x4 := hr.rd.disk.free 1
              have x5 : rp ≠ dp := fun e => hn (e ▸ hin)
              clear hd h0 hr hb h1 h2 hn hin G1 R1 B9 h6 c0 SB
              go_upto_region 29 with fail
              go_region
              go_wp2_with fail
              go_meet
              exact ⟨_, R9.out, ATh.out.power nv HB3.out.2.1 HB3.out.2.2⟩
        · as_aux_lemma =>
            have b0 : ((m : Int) == 0) = false := beq_eq_false_iff_ne.2 (by omega)
            have b1 : ((m : Int) == 1) = false := beq_eq_false_iff_ne.2 (by omega)
            have b2 : ((m : Int) == 2) = false := beq_eq_false_iff_ne.2 (by omega)
            have b3 : ((m : Int) == 3) = false := beq_eq_false_iff_ne.2 (by omega)
            have b4 : ((m : Int) == 4) = false := beq_eq_false_iff_ne.2 (by omega)
            have b5 : ((m : Int) == 5) = false := beq_eq_false_iff_ne.2 (by omega)
            have b6 : ((m : Int) == 6) = false := beq_eq_false_iff_ne.2 (by omega)
            have b7 : ((m : Int) == 7) = true := beq_iff_eq.2 (by omega)
            have d2 := D2.out
            clear D2
            cases d2 with
            | log lp dv rv bv rb yv hg hr hb h1 h2 =>
              have R0 : Hid (DS w wa dp rp yp s (.pointer (some ⟨lp, 0, none⟩))) := Lib.hid (.log lp dv rv bv rb yv hg hr)
              have x2 : wa.cell? ⟨pb, 2, none⟩ = some (.int .i64 nv) := hb.cell (j := 2) rfl
              have BY := Lib.hid (LG.dn hg).bytes
              have BYV := Lib.hid (LG.dn hg).bytes.bv
              have RR := Lib.hid hr.rd.row
              have H12 := Lib.hid (And.intro h1 h2)
              obtain ⟨n, hn⟩ : ∃ n, s.bs.length = n := ⟨_, rfl⟩
              obtain ⟨AD, cD, rfl⟩ := BYV.out.len
              obtain ⟨AR, cR, rfl⟩ := own_slice RR.out
              have HG := Lib.hid (And.intro hg hr)
              have x0 : wa.cell? ⟨dp, 0, none⟩ = some (.slice AD s.bs.length cD) := (LG.dn hg).disk.cell (j := 0) rfl
              have x1 : wa.cell? ⟨rp, 0, none⟩ = some (.slice AR s.bs.length cR) := hr.rd.disk.cell (j := 0) rfl
              rw [hn] at x0 x1
              have HN5 := Lib.hid hn
              clear hg hr hb h1 h2 h7 c0 SB BYV
              go_upto_region 31 with fail
              by_cases hz : n = 0
              · have t1 : decide ((0 : Int) < (n : Int)) = false := decide_eq_false (by omega)
                have t2 : decide (0 < n) = false := decide_eq_false (by omega)
                clear hn
                go_wp2_with fail
                go_meet
                exact ⟨_, R0.out, ATh.out.up⟩
              · have t1 : decide ((0 : Int) < (n : Int)) = true := decide_eq_true (by omega)
                have t2 : decide (0 < n) = true := decide_eq_true (by omega)
                obtain ⟨q, hq⟩ : ∃ q, nv.tmod (n : Int) = q := ⟨_, rfl⟩
                have hq1 := tmod_bd nv (n : Int) (by omega)
                rw [hq] at hq1
                obtain ⟨k, hk⟩ : ∃ k : Nat, (q + (n : Int)).tmod (n : Int) = (k : Int) := ⟨((q + (n : Int)).tmod (n : Int)).toNat, by rw [Int.toNat_of_nonneg (Int.tmod_nonneg _ (by omega))]⟩
                have hkn : k < n := by
                  have := tmod_bd (q + (n : Int)) (n : Int) (by omega)
                  omega
                have hn9 : n ≤ 500000 := by have := (ATh.out.ok (by omega)).bs; omega
                have e1 : wrap64 (q + (n : Int)) = q + (n : Int) := by unfold wrap64; omega
                have e2 : IntKind.i64.wrap (q + (n : Int)) = q + (n : Int) := IntWalk.i64_in _ (by omega)
                have e3 : ((n : Int) == 0) = false := beq_eq_false_iff_ne.2 (by omega)
                go_upto_region 32 with fail
                clear hq1 hn
                go_quiet (fail)
                have B8 : Below wa.heap.size wa (wa.drewN nq) := below_grow wa nq #[]
                have HG8 := Lib.hid (And.intro (LG.keep HG.out.1 B8) (JR.keep HG.out.2 B8))
                have x2b := keepW B8 x2
                have x0b := keepW B8 x0
                have x1b := keepW B8 x1
                have BY8 := BY.out.keep B8
                have RR8 := own_keep RR.out B8
                clear x0 x1 x2 B8 HG BY RR R0
                go_upto_region 33 with fail
                generalize wa.drewN nq = wb at *
                obtain ⟨g, cg, vg, eg, z0, z1, z2⟩ := BY8.cell_at (k := k) (by rw [HN5.out]; exact hkn)
                injection eg with eg1 _ eg3
                subst eg1 eg3
                obtain ⟨r, cr, vr, er, z3, z4⟩ := own_cell_at (k := k) RR8 (by rw [HN5.out]; exact hkn)
                injection er with er1 _ er3
                subst er1 er3
                obtain ⟨hg9, hr9⟩ := HG8.out
                have hn : r ∉ PLg lp dp rv bv (.slice (some ⟨g, 0, none⟩) s.bs.length cD) := fun hx => hr9.apart _ hx (by simp [OR, Value.ownBlock])
                have hin : g ∈ PLg lp dp rv bv (.slice (some ⟨g, 0, none⟩) s.bs.length cD) := by simp [PLg, OL, Value.ownBlock]
                have z5 : r ≠ g := fun e => hn (e ▸ hin)
                have z6 : pb ≠ g := fun e => Nat.lt_irrefl _ (e ▸ H12.out.2 g hin)
                have z7 : pb ≠ r := fun e => Nat.lt_irrefl _ (e ▸ H12.out.1 r (by simp [OR, Value.ownBlock]))
                have z8 : rp ≠ g := fun e => hr9.apart _ hin (e ▸ or_rp)
                have z9 : dp ≠ r := fun e => hn (e ▸ (by simp [PLg, OL]))
                have e4 : IntKind.u8.wrap (nv / 256) = nv / 256 % 256 := rfl
                obtain ⟨d, hd⟩ : ∃ d : UInt8, nv / 256 % 256 = (d.toNat : Int) := ⟨UInt8.ofNat (nv / 256 % 256).toNat, by
                  have : (UInt8.ofNat (nv / 256 % 256).toNat).toNat = (nv / 256 % 256).toNat % 256 := by simp
                  rw [this]; omega⟩
                have G9 := LG.far (LG.setByte hg9 k d) hn (fr_set (wb.setCell ⟨g, k, none⟩ (.int .u8 (d.toNat : Int))) r k (.int .u8 (d.toNat : Int)))
                have R9 := (hr9.far hin z2 (fr_set wb g k (.int .u8 (d.toNat : Int)))).setByte k d rfl
                have hn7 := HN5.out
                have i1 : ((k : Int) < (n : Int)) := by omega
                have i0 : (0 : Int) ≤ (k : Int) := by omega
                have B9 := Below.drew (Below.refl ((wb.setCell ⟨g, k, none⟩ (.int .u8 (d.toNat : Int))).setCell ⟨r, k, none⟩ (.int .u8 (d.toNat : Int))).heap.size ((wb.setCell ⟨g, k, none⟩ (.int .u8 (d.toNat : Int))).setCell ⟨r, k, none⟩ (.int .u8 (d.toNat : Int))))
                have H9 : Hid (DS w _ dp rp yp ⟨s.bs.set k d, s.pow, s.recs, s.last, s.size, s.closed⟩ (.pointer (some ⟨lp, 0, none⟩))) := Lib.hid (.log lp _ rv bv _ yv (LG.keep G9 B9) (JR.keep R9 B9))
                clear G9 R9 B9 hg9 hr9 HG8 BY8 RR8 hn hin z2 hn7
                go_region
                clear z0 z1 z3 z4 z5 z6 z7 z8 z9 e4 hd x0b x1b x2b
                go_wp2_with fail
                go_meet
                exact ⟨_, H9.out, ATh.out.byte k d⟩
            | none_ dv rb yv hd hr h0 hb h1 h2 =>
              have R0 : Hid (DS w wa dp rp yp s (.pointer none)) := Lib.hid (.none_ dv rb yv hd hr h0)
              have x2 : wa.cell? ⟨pb, 2, none⟩ = some (.int .i64 nv) := hb.cell (j := 2) rfl
              have BY := Lib.hid (hd).bytes
              have BYV := Lib.hid (hd).bytes.bv
              have RR := Lib.hid hr.rd.row
              have H12 := Lib.hid (And.intro h1 h2)
              obtain ⟨n, hn⟩ : ∃ n, s.bs.length = n := ⟨_, rfl⟩
              obtain ⟨AD, cD, rfl⟩ := BYV.out.len
              obtain ⟨AR, cR, rfl⟩ := own_slice RR.out
              have HG := Lib.hid (And.intro hd hr)
              have x0 : wa.cell? ⟨dp, 0, none⟩ = some (.slice AD s.bs.length cD) := (hd).disk.cell (j := 0) rfl
              have x1 : wa.cell? ⟨rp, 0, none⟩ = some (.slice AR s.bs.length cR) := hr.rd.disk.cell (j := 0) rfl
              rw [hn] at x0 x1
              have HN5 := Lib.hid hn
              clear hd hr hb h1 h2 h7 c0 SB BYV
              go_upto_region 31 with fail
              by_cases hz : n = 0
              · have t1 : decide ((0 : Int) < (n : Int)) = false := decide_eq_false (by omega)
                have t2 : decide (0 < n) = false := decide_eq_false (by omega)
                clear hn
                go_wp2_with fail
                go_meet
                exact ⟨_, R0.out, ATh.out.up⟩
              · have t1 : decide ((0 : Int) < (n : Int)) = true := decide_eq_true (by omega)
                have t2 : decide (0 < n) = true := decide_eq_true (by omega)
                obtain ⟨q, hq⟩ : ∃ q, nv.tmod (n : Int) = q := ⟨_, rfl⟩
                have hq1 := tmod_bd nv (n : Int) (by omega)
                rw [hq] at hq1
                obtain ⟨k, hk⟩ : ∃ k : Nat, (q + (n : Int)).tmod (n : Int) = (k : Int) := ⟨((q + (n : Int)).tmod (n : Int)).toNat, by rw [Int.toNat_of_nonneg (Int.tmod_nonneg _ (by omega))]⟩
                have hkn : k < n := by
                  have := tmod_bd (q + (n : Int)) (n : Int) (by omega)
                  omega
                have hn9 : n ≤ 500000 := by have := (ATh.out.ok (by omega)).bs; omega
                have e1 : wrap64 (q + (n : Int)) = q + (n : Int) := by unfold wrap64; omega
                have e2 : IntKind.i64.wrap (q + (n : Int)) = q + (n : Int) := IntWalk.i64_in _ (by omega)
                have e3 : ((n : Int) == 0) = false := beq_eq_false_iff_ne.2 (by omega)
                go_upto_region 32 with fail
                clear hq1 hn
                go_quiet (fail)
                have B8 : Below wa.heap.size wa (wa.drewN nq) := below_grow wa nq #[]
                have HG8 := Lib.hid (And.intro (DN.keep HG.out.1 B8) (JR.keep HG.out.2 B8))
                have x2b := keepW B8 x2
                have x0b := keepW B8 x0
                have x1b := keepW B8 x1
                have BY8 := BY.out.keep B8
                have RR8 := own_keep RR.out B8
                clear x0 x1 x2 B8 HG BY RR R0
                go_upto_region 33 with fail
                generalize wa.drewN nq = wb at *
                obtain ⟨g, cg, vg, eg, z0, z1, z2⟩ := BY8.cell_at (k := k) (by rw [HN5.out]; exact hkn)
                injection eg with eg1 _ eg3
                subst eg1 eg3
                obtain ⟨r, cr, vr, er, z3, z4⟩ := own_cell_at (k := k) RR8 (by rw [HN5.out]; exact hkn)
                injection er with er1 _ er3
                subst er1 er3
                obtain ⟨hg9, hr9⟩ := HG8.out
                have hn : r ∉ PLd dp (.slice (some ⟨g, 0, none⟩) s.bs.length cD) := fun hx => hr9.apart _ hx (by simp [OR, Value.ownBlock])
                have hin : g ∈ PLd dp (.slice (some ⟨g, 0, none⟩) s.bs.length cD) := by simp [PLd, Value.ownBlock]
                have z5 : r ≠ g := fun e => hn (e ▸ hin)
                have z6 : pb ≠ g := fun e => Nat.lt_irrefl _ (e ▸ H12.out.2 g hin)
                have z7 : pb ≠ r := fun e => Nat.lt_irrefl _ (e ▸ H12.out.1 r (by simp [OR, Value.ownBlock]))
                have z8 : rp ≠ g := fun e => hr9.apart _ hin (e ▸ or_rp)
                have z9 : dp ≠ r := fun e => hn (e ▸ (by simp [PLd]))
                have e4 : IntKind.u8.wrap (nv / 256) = nv / 256 % 256 := rfl
                obtain ⟨d, hd⟩ : ∃ d : UInt8, nv / 256 % 256 = (d.toNat : Int) := ⟨UInt8.ofNat (nv / 256 % 256).toNat, by
                  have : (UInt8.ofNat (nv / 256 % 256).toNat).toNat = (nv / 256 % 256).toNat % 256 := by simp
                  rw [this]; omega⟩
                have G9 := DN.far (DN.setByte hg9 k d) hn (fr_set (wb.setCell ⟨g, k, none⟩ (.int .u8 (d.toNat : Int))) r k (.int .u8 (d.toNat : Int)))
                have R9 := (hr9.far hin z2 (fr_set wb g k (.int .u8 (d.toNat : Int)))).setByte k d rfl
                have hn7 := HN5.out
                have i1 : ((k : Int) < (n : Int)) := by omega
                have i0 : (0 : Int) ≤ (k : Int) := by omega
                have B9 := Below.drew (Below.refl ((wb.setCell ⟨g, k, none⟩ (.int .u8 (d.toNat : Int))).setCell ⟨r, k, none⟩ (.int .u8 (d.toNat : Int))).heap.size ((wb.setCell ⟨g, k, none⟩ (.int .u8 (d.toNat : Int))).setCell ⟨r, k, none⟩ (.int .u8 (d.toNat : Int))))
                have H9 : Hid (DS w _ dp rp yp ⟨s.bs.set k d, s.pow, s.recs, s.last, s.size, s.closed⟩ (.pointer none)) := Lib.hid (.none_ _ _ yv (DN.keep G9 B9) (JR.keep R9 B9) h0)
                clear G9 R9 B9 hg9 hr9 HG8 BY8 RR8 hn hin z2 hn7
                go_region
                clear z0 z1 z3 z4 z5 z6 z7 z8 z9 e4 hd x0b x1b x2b
                go_wp2_with fail
                go_meet
                exact ⟨_, H9.out, ATh.out.byte k d⟩
      case rest =>
        as_aux_lemma =>
          obtain ⟨s1, hds, hat⟩ := hcut
          have AT1 := Lib.hid hat
          have DSh := Lib.hid hds
          have ok := hat.ok (by omega)
          cases hds with
          | log lp dv rv bv rb yv hg hr =>
            obtain ⟨n, hn⟩ : ∃ n, s1.bs.length = n := ⟨_, rfl⟩
            obtain ⟨AD, cD, rfl⟩ := hg.bytes.bv.len
            obtain ⟨AR, cR, rfl⟩ := own_slice hr.rd.row
            obtain ⟨nr, hnr⟩ : ∃ n, s1.recs.length = n := ⟨_, rfl⟩
            obtain ⟨AY, cY, rfl⟩ := own_slice hr.rl.row
            obtain ⟨AV, cV, rfl⟩ := own_slice hg.rows
            have LS := Lib.hid (fun (wx : World) (hb : Below wc.heap.size wc wx) => last_any (h := (LG.keep hg hb).log))
            have SZ := Lib.hid (fun (wx : World) (hb : Below wc.heap.size wc wx) => size_any (h := (LG.keep hg hb).log))
            have RC := Lib.hid (fun (wx : World) (hb : Below wc.heap.size wc wx) => records_len (hr := rs_of_own (LG.keep hg hb).rows) (h := (LG.keep hg hb).log) (hs := by have := ok.recs; omega))
            have SM := Lib.hid (fun (wx : World) (hb : Below wc.heap.size wc wx) (v : Value) (hv : RS wx v s1.recs) => same_self v (.slice AY s1.recs.length cY) _ (by have := ok.recs; omega) wx hv (rs_of_own (own_keep hr.rl.row hb)))
            rw [hnr] at RC SM
            obtain ⟨Z, hZ⟩ : ∃ Z : ByteArray, (⟨s1.bs.toArray⟩ : ByteArray) = Z := ⟨_, rfl⟩
            have BVD := Lib.hid hg.bytes.bv
            have BVR := Lib.hid hr.rd.bv
            have d0 : wc.cell? ⟨dp, 0, none⟩ = some (.slice AD s1.bs.length cD) := hg.disk.cell (j := 0) rfl
            have d1 : wc.cell? ⟨dp, 1, none⟩ = some (.int .i64 s1.pow) := hg.disk.cell (j := 1) rfl
            have r0 : wc.cell? ⟨rp, 0, none⟩ = some (.slice AR s1.bs.length cR) := hr.rd.disk.cell (j := 0) rfl
            have r1 : wc.cell? ⟨rp, 1, none⟩ = some (.int .i64 s1.pow) := hr.rd.disk.cell (j := 1) rfl
            have y0 : wc.cell? ⟨yp, 0, none⟩ = some (.slice AY s1.recs.length cY) := hr.rl.log.cell (j := 0) rfl
            have y1 : wc.cell? ⟨yp, 1, none⟩ = some (.int .i64 (s1.last : Nat)) := hr.rl.log.cell (j := 1) rfl
            have y2 : wc.cell? ⟨yp, 2, none⟩ = some (.int .i64 (s1.size : Nat)) := hr.rl.log.cell (j := 2) rfl
            rw [hnr] at y0
            clear hg hr ok hat
            have t9 : (Z.toList == Z.toList) = true := beq_self_eq_true _
            go_upto_region 34 with fail
            refine rest_begin (by kernel_rfl) ?_
            have BD : Below wc.heap.size wc wc.drew := Below.drew (Below.refl _ wc)
            have m1 := fun u : Since wc.drew => (conv_bv (BVD.out.keep (bchain BD u.property))).trans (by rw [hZ])
            have m2 := fun u : Since wc.drew => (conv_bv (BVR.out.keep (bchain BD u.property))).trans (by rw [hZ])
            rw [hn] at m1 m2 d0 r0
            have m3 := Since.cell (keepW BD d0)
            have m4 := Since.cell (keepW BD d1)
            have m5 := Since.cell (keepW BD r0)
            have m6 := Since.cell (keepW BD r1)
            have BDh := Lib.hid BD
            have HZ := Lib.hid (And.intro hZ (And.intro hn hnr))
            clear d0 d1 r0 r1 hZ hn hnr BD BVD BVR
            generalize wc.drew = wd at *
            refine rest_quiet (fun w' => ∃ u : Since wd, w' = u.val) 22 (by kernel_rfl) ⟨⟨wd, Below.refl _ _⟩, rfl⟩ ?_
            simp only [List.take_succ_cons, List.take_zero, List.drop_zero]
            repeat (quiet_step (fail))
            refine wpQuiet_nil ?_
            rintro wq ⟨u, rfl⟩
            have BDA := Lib.hid (bchain BDh.out u.property)
            clear m1 m2 m3 m4 m5 m6 t9 BDh
            generalize u.val = wA at *
            refine rest_forced 1 (by kernel_rfl) ?_
            go_wp2_with fail
            refine rest_open 21 (by kernel_rfl) ?_
            refine rest_take 23 _ (.pointer (some ⟨lp, 0, none⟩)) rfl (by kernel_rfl) (by kernel_rfl) (by kernel_rfl) (fun _ _ _ h => h) (by kernel_rfl) (fun w => rfl) ?_
            refine rest_take 25 _ (.pointer (some ⟨yp, 0, none⟩)) rfl (by kernel_rfl) (by kernel_rfl) (by kernel_rfl) (fun _ _ _ h => h) (by kernel_rfl) (fun w => by go_simp) ?_
            have yA := keepW BDA.out y0
            refine rest_two (i := 24) (j := 26) (by kernel_rfl) rfl rfl ?_ ?_
            · as_aux_lemma =>
              go_wp2_with fail
              refine (RC.out _ BDA.out).mono ?_
              rintro e w' ⟨A9, c9, rfl, hrs, hb⟩
              have BD8 := Lib.hid (bchain BDA.out hb)
              have SM8 := Lib.hid (SM.out _ BD8.out _ hrs)
              have yB := keepW hb yA
              clear hrs hb yA
              go_wp2_with fail
              refine rest_one (i := 26) (by kernel_rfl) rfl ?_
              go_wp2_with fail
              clear yB
              refine rest_one (i := 27) (by kernel_rfl) rfl ?_
              go_wp2_with fail
              refine SM8.out.mono ?_
              rintro e w'' ⟨rfl, hb⟩
              have BD9 := Lib.hid (bchain BD8.out hb)
              have z1 := Since.cell (keepW BD9.out y1)
              have z2 := Since.cell (keepW BD9.out y2)
              clear hb SM8 y0 y1 y2 RC SM
              go_wp2_with fail
              refine rest_close 28 (by kernel_rfl) (by kernel_rfl) ?_
              refine rest_quiet (fun w' => ∃ u : Since w'', w' = u.val) 15 (by kernel_rfl) ⟨⟨w'', Below.refl _ _⟩, rfl⟩ ?_
              simp only [List.take_succ_cons, List.take_zero, List.drop_succ_cons, List.drop_zero]
              repeat (quiet_step (first
                | (go_at_call 24; exact Calls.since ((LS.out _ (bchain BD9.out (Since.property _))).mono fun _ _ hh => ⟨hh.1, below_pure hh.2⟩))
                | (go_at_call 17; exact Calls.since ((SZ.out _ (bchain BD9.out (Since.property _))).mono fun _ _ hh => ⟨hh.1, below_pure hh.2⟩))))
              refine wpQuiet_nil ?_
              rintro wq ⟨u, rfl⟩
              have BDB := Lib.hid (bchain BD9.out u.property)
              clear z1 z2 BD9
              generalize u.val = wB at *
              refine rest_forced 1 (by kernel_rfl) ?_
              go_wp2_with fail
              refine rest_done (by kernel_rfl) ?_
              have DF := Lib.hid (DSh.out.keep BDB.out)
              clear BDB BD8 LS SZ
              go_wp2_with fail
              go_roundg (N - (i + 1))
              case measure => omega
              case rel => exact ⟨i + 1, _, rfl, by omega, by simp, DF.out, AT1.out⟩
            · as_aux_lemma =>
              go_wp2_with fail
              refine rest_one (i := 24) (by kernel_rfl) rfl ?_
              go_wp2_with fail
              refine (RC.out _ BDA.out).mono ?_
              rintro e w' ⟨A9, c9, rfl, hrs, hb⟩
              have BD8 := Lib.hid (bchain BDA.out hb)
              have SM8 := Lib.hid (SM.out _ BD8.out _ hrs)
              clear hrs hb yA
              go_wp2_with fail
              refine rest_one (i := 27) (by kernel_rfl) rfl ?_
              go_wp2_with fail
              refine SM8.out.mono ?_
              rintro e w'' ⟨rfl, hb⟩
              have BD9 := Lib.hid (bchain BD8.out hb)
              have z1 := Since.cell (keepW BD9.out y1)
              have z2 := Since.cell (keepW BD9.out y2)
              clear hb SM8 y0 y1 y2 RC SM
              go_wp2_with fail
              refine rest_close 28 (by kernel_rfl) (by kernel_rfl) ?_
              refine rest_quiet (fun w' => ∃ u : Since w'', w' = u.val) 15 (by kernel_rfl) ⟨⟨w'', Below.refl _ _⟩, rfl⟩ ?_
              simp only [List.take_succ_cons, List.take_zero, List.drop_succ_cons, List.drop_zero]
              repeat (quiet_step (first
                | (go_at_call 24; exact Calls.since ((LS.out _ (bchain BD9.out (Since.property _))).mono fun _ _ hh => ⟨hh.1, below_pure hh.2⟩))
                | (go_at_call 17; exact Calls.since ((SZ.out _ (bchain BD9.out (Since.property _))).mono fun _ _ hh => ⟨hh.1, below_pure hh.2⟩))))
              refine wpQuiet_nil ?_
              rintro wq ⟨u, rfl⟩
              have BDB := Lib.hid (bchain BD9.out u.property)
              clear z1 z2 BD9
              generalize u.val = wB at *
              refine rest_forced 1 (by kernel_rfl) ?_
              go_wp2_with fail
              refine rest_done (by kernel_rfl) ?_
              have DF := Lib.hid (DSh.out.keep BDB.out)
              clear BDB BD8 LS SZ
              go_wp2_with fail
              go_roundg (N - (i + 1))
              case measure => omega
              case rel => exact ⟨i + 1, _, rfl, by omega, by simp, DF.out, AT1.out⟩
          | none_ dv rb yv hd hr h0 =>
            obtain ⟨e1, e2, e3⟩ := h0
            obtain ⟨n, hn⟩ : ∃ n, s1.bs.length = n := ⟨_, rfl⟩
            obtain ⟨AD, cD, rfl⟩ := hd.bytes.bv.len
            obtain ⟨AR, cR, rfl⟩ := own_slice hr.rd.row
            have hnr : s1.recs.length = 0 := by rw [e1]; rfl
            obtain ⟨AY, cY, rfl⟩ := own_slice hr.rl.row
            have LS := Lib.hid (fun (wx : World) => last_no _ wx (is_nil wx))
            have SZ := Lib.hid (fun (wx : World) => size_no _ wx (is_nil wx))
            have RC := Lib.hid (fun (wx : World) => records_no _ wx (is_nil wx))
            have SM := Lib.hid (fun (wx : World) (hb : Below wc.heap.size wc wx) => same_self (.slice none 0 0) (.slice AY s1.recs.length cY) [] (by simp) wx .none_ (by have h := rs_of_own (own_keep hr.rl.row hb); rwa [show (s1.recs : List (List UInt8)) = [] from e1] at h ⊢))
            rw [hnr] at SM
            obtain ⟨Z, hZ⟩ : ∃ Z : ByteArray, (⟨s1.bs.toArray⟩ : ByteArray) = Z := ⟨_, rfl⟩
            have BVD := Lib.hid hd.bytes.bv
            have BVR := Lib.hid hr.rd.bv
            have d0 : wc.cell? ⟨dp, 0, none⟩ = some (.slice AD s1.bs.length cD) := hd.disk.cell (j := 0) rfl
            have d1 : wc.cell? ⟨dp, 1, none⟩ = some (.int .i64 s1.pow) := hd.disk.cell (j := 1) rfl
            have r0 : wc.cell? ⟨rp, 0, none⟩ = some (.slice AR s1.bs.length cR) := hr.rd.disk.cell (j := 0) rfl
            have r1 : wc.cell? ⟨rp, 1, none⟩ = some (.int .i64 s1.pow) := hr.rd.disk.cell (j := 1) rfl
            have y0 : wc.cell? ⟨yp, 0, none⟩ = some (.slice AY s1.recs.length cY) := hr.rl.log.cell (j := 0) rfl
            have y1 : wc.cell? ⟨yp, 1, none⟩ = some (.int .i64 (s1.last : Nat)) := hr.rl.log.cell (j := 1) rfl
            have y2 : wc.cell? ⟨yp, 2, none⟩ = some (.int .i64 (s1.size : Nat)) := hr.rl.log.cell (j := 2) rfl
            rw [hnr] at y0
            rw [e2] at y1
            rw [e3] at y2
            clear hd hr ok hat
            have t9 : (Z.toList == Z.toList) = true := beq_self_eq_true _
            go_upto_region 34 with fail
            refine rest_begin (by kernel_rfl) ?_
            have BD : Below wc.heap.size wc wc.drew := Below.drew (Below.refl _ wc)
            have m1 := fun u : Since wc.drew => (conv_bv (BVD.out.keep (bchain BD u.property))).trans (by rw [hZ])
            have m2 := fun u : Since wc.drew => (conv_bv (BVR.out.keep (bchain BD u.property))).trans (by rw [hZ])
            rw [hn] at m1 m2 d0 r0
            have m3 := Since.cell (keepW BD d0)
            have m4 := Since.cell (keepW BD d1)
            have m5 := Since.cell (keepW BD r0)
            have m6 := Since.cell (keepW BD r1)
            have BDh := Lib.hid BD
            clear d0 d1 r0 r1 hZ hn hnr BD BVD BVR e1 e2 e3
            generalize wc.drew = wd at *
            refine rest_quiet (fun w' => ∃ u : Since wd, w' = u.val) 22 (by kernel_rfl) ⟨⟨wd, Below.refl _ _⟩, rfl⟩ ?_
            simp only [List.take_succ_cons, List.take_zero, List.drop_zero]
            repeat (quiet_step (fail))
            refine wpQuiet_nil ?_
            rintro wq ⟨u, rfl⟩
            have BDA := Lib.hid (bchain BDh.out u.property)
            clear m1 m2 m3 m4 m5 m6 t9 BDh
            generalize u.val = wA at *
            refine rest_forced 1 (by kernel_rfl) ?_
            go_wp2_with fail
            have z0 := Since.cell (keepW BDA.out y0)
            have z1 := Since.cell (keepW BDA.out y1)
            have z2 := Since.cell (keepW BDA.out y2)
            clear y0 y1 y2
            refine rest_quiet (fun w' => ∃ u : Since wA, w' = u.val) 20 (by kernel_rfl) ⟨⟨wA, Below.refl _ _⟩, rfl⟩ ?_
            simp only [List.take_succ_cons, List.take_zero, List.drop_succ_cons, List.drop_zero]
            repeat (quiet_step (first
              | (go_at_call 16; exact Calls.since ((RC.out _).mono fun _ _ hh => ⟨hh.1, below_pure hh.2⟩))
              | (go_at_call 15; exact Calls.since (SM.out _ (bchain BDA.out (Since.property _))))
              | (go_at_call 24; exact Calls.since ((LS.out _).mono fun _ _ hh => ⟨hh.1, below_pure hh.2⟩))
              | (go_at_call 17; exact Calls.since ((SZ.out _).mono fun _ _ hh => ⟨hh.1, below_pure hh.2⟩))))
            refine wpQuiet_nil ?_
            rintro wq ⟨u, rfl⟩
            have BDB := Lib.hid (bchain BDA.out u.property)
            clear z0 z1 z2
            generalize u.val = wB at *
            refine rest_forced 1 (by kernel_rfl) ?_
            go_wp2_with fail
            refine rest_done (by kernel_rfl) ?_
            have DF := Lib.hid (DSh.out.keep BDB.out)
            clear BDB LS SZ RC SM
            go_wp2_with fail
            go_roundg (N - (i + 1))
            case measure => omega
            case rel => exact ⟨i + 1, _, rfl, by omega, by simp, DF.out, AT1.out⟩
    · obtain rfl : i = N := by omega
      have t1 : decide ((i : Int) < (i : Int)) = false := decide_eq_false (by omega)
      go_wp2_with fail
      go_ret
      exact ⟨rfl, BWr.out⟩
end Go.Proofs.YtbompgfjlllioaaDoor
