/- The reference's Scan. -/
import Derived.Test.YtbompgfjlllioaaDoorJRefP
import Derived.Test.YtbompgfjlllioaaDoorJSame
import Derived.Deep.DeepCutAuto
import Derived.Deep.CutBlock
import Derived.Laws.AppendOwn
namespace Go.Proofs.YtbompgfjlllioaaDoor
open Go Go.RowKit

/-- What the reference's Scan keeps: its own log l, the result's cell, the records. -/
structure RQ (w W : World) (p : Nat) (v : Value) (S : Sc) : Prop where
  blk : Blk W (p + 1) 73 #[v, .int .i64 (S.last : Nat), .int .i64 (S.size : Nat), .bool false]
  res : ∃ r0 r1 r2 r3, Blk W p 73 #[r0, r1, r2, r3]
  row : W.ownsRow w.heap.size 9 1 v S.recs.length (S.recs.map strV)
  below : Below w.heap.size w W
  base : w.heap.size ≤ p
theorem RQ.keep {w W W' : World} {p : Nat} {v : Value} {S : Sc} (h : RQ w W p v S) (hb : Below W.heap.size W W') : RQ w W' p v S :=
  ⟨h.blk.keep hb h.blk.lt, by obtain ⟨r0, r1, r2, r3, hr⟩ := h.res; exact ⟨r0, r1, r2, r3, hr.keep hb hr.lt⟩, own_keep h.row hb, h.below.trans (hb.mono h.below.size), h.base⟩
theorem grown_set (W : World) (b j : Nat) (v : Value) : W.grownBy (W.setCell ⟨b, j, none⟩ v) (some b) :=
  ⟨rfl, rfl, rfl, (KeepsWalks.setCell W _ v).size, fun k _ hk => Below.heap_setCell _ _ _ k (fun e => hk (by rw [e]))⟩
theorem own_other {W : World} {B e size n : Nat} {v : Value} {xs : List Value} (h : W.ownsRow B e size v n xs) {P : Nat} {t : TypeId} {c : Array Value} (hP : Blk W P t c) (hte : t ≠ e) (j : Nat) (u : Value) : (W.setCell ⟨P, j, none⟩ u).ownsRow B e size v n xs := by
  refine h.kept (grown_set W P j u) (.inr fun e' => ?_)
  rcases h.2 with ⟨rfl, _⟩ | ⟨g, cap, cur, rfl, _, hgb, _⟩
  · simp [Value.ownBlock] at e'
  · obtain rfl : g = P := by simpa [Value.ownBlock] using e'
    have := (show W.heap[g]? = _ from hP).symm.trans hgb
    simp at this
    exact hte this.2
theorem RQ.setRes {w W : World} {p : Nat} {v : Value} {S : Sc} (h : RQ w W p v S) (j : Nat) (hj : j < 4) (u : Value) : RQ w (W.setCell ⟨p, j, none⟩ u) p v S := by
  obtain ⟨r0, r1, r2, r3, hr⟩ := h.res
  refine ⟨h.blk.other (by omega) _ _, ?_, own_other h.row hr (by decide) j u, h.below.setCell (by show w.heap.size ≤ p; exact h.base) _, h.base⟩
  have := hr.set j u
  match j, hj with
  | 0, _ => exact ⟨_, _, _, _, this⟩
  | 1, _ => exact ⟨_, _, _, _, this⟩
  | 2, _ => exact ⟨_, _, _, _, this⟩
  | 3, _ => exact ⟨_, _, _, _, this⟩
/-- What the reference's Scan returns. -/
def RetRScan (w : World) (S : Sc) (tail : Int) (e : Ending) (w' : World) : Prop :=
  ∃ v, e = .returned (.tuple #[.agg #[v, .int .i64 (S.last : Nat), .int .i64 (S.size : Nat), .bool false], .int .u8 tail]) ∧ w'.ownsRow w.heap.size 9 1 v S.recs.length (S.recs.map strV) ∧ Below w.heap.size w w'
theorem rscan_res {p : Nat} {A : Option Addr} {n k : Nat} {a b tail : Int} {T : Array Value} (W : World) (h2 : T[2]?.getD undef = .pointer (some ⟨p, 0, none⟩)) (h3 : T[3]?.getD undef = .int .u8 tail)
    (e0 : W.cell? ⟨p, 0, none⟩ = some (.slice A n k)) (e1 : W.cell? ⟨p, 1, none⟩ = some (.int .i64 a)) (e2 : W.cell? ⟨p, 2, none⟩ = some (.int .i64 b)) (e3 : W.cell? ⟨p, 3, none⟩ = some (.bool false)) :
    (results Tryd.f39 T).run Tryd.prog W = .ok (.tuple #[.agg #[.slice A n k, .int .i64 a, .int .i64 b, .bool false], .int .u8 tail]) W := by
  simp [results, Tryd.results39, go_sem, h2, h3, e0, e1, e2, e3]
theorem rscan_end {w wr : World} {p : Nat} {A : Option Addr} {n k : Nat} {S : Sc} {tail : Int} {T : Array Value} {R : Ending → World → Prop} (h : RQ w wr p (.slice A n k) S)
    (h2 : T[2]?.getD undef = .pointer (some ⟨p, 0, none⟩)) (h3 : T[3]?.getD undef = .int .u8 tail)
    (hR : ∀ W', RQ w W' p (.slice A n k) S → R (.returned (.tuple #[.agg #[.slice A n k, .int .i64 (S.last : Nat), .int .i64 (S.size : Nat), .bool false], .int .u8 tail])) W') :
    bodyPost Tryd.prog Tryd.f39 R .ret { tmps := T, defers := [] } ((((wr.setCell ⟨p, 0, none⟩ (.slice A n k)).setCell ⟨p, 1, none⟩ (.int .i64 (S.last : Nat))).setCell ⟨p, 2, none⟩ (.int .i64 (S.size : Nat))).setCell ⟨p, 3, none⟩ (.bool false)) := by
  obtain ⟨r0, r1, r2, r3, hr⟩ := h.res
  have hb := (((hr.set 0 (.slice A n k)).set 1 (.int .i64 (S.last : Nat))).set 2 (.int .i64 (S.size : Nat))).set 3 (.bool false)
  refine bodyPost_ret (rscan_res _ h2 h3 (hb.cell (j := 0) rfl) (hb.cell (j := 1) rfl) (hb.cell (j := 2) rfl) (hb.cell (j := 3) rfl)) rfl (hR _ ?_)
  exact (((h.setRes 0 (by decide) _).setRes 1 (by decide) _).setRes 2 (by decide) _).setRes 3 (by decide) _
theorem RQ.setLast {w W : World} {p : Nat} {v : Value} {S : Sc} (h : RQ w W p v S) (last : Nat) : RQ w (W.setCell ⟨p + 1, 1, none⟩ (.int .i64 (last : Nat))) p v ⟨S.recs, last, S.size, S.ok⟩ := by
  obtain ⟨r0, r1, r2, r3, hr⟩ := h.res
  exact ⟨h.blk.set 1 _, ⟨r0, r1, r2, r3, hr.other (by omega) _ _⟩, own_other h.row h.blk (by decide) _ _, h.below.setCell (p := ⟨p + 1, 1, none⟩) (by have := h.base; show w.heap.size ≤ p + 1; omega) _, h.base⟩
theorem RQ.grow {w W w1 : World} {p : Nat} {v v' : Value} {S : Sc} {tmp : Obj} {t : List UInt8} (h : RQ w W p v S) (hown' : w1.ownsRow w.heap.size 9 1 v' (S.recs.length + 1) (S.recs.map strV ++ [strV t])) (hgrow : (W.alloc tmp).grownBy w1 v.ownBlock)
    (size : Nat) (z : Int) (hz : z = (size : Nat)) :
    Blk w1 (p + 1) 73 #[v, .int .i64 (S.last : Nat), .int .i64 (S.size : Nat), .bool false] ∧
    RQ w ((w1.setCell ⟨p + 1, 0, none⟩ v').setCell ⟨p + 1, 2, none⟩ (.int .i64 z)) p v' ⟨S.recs ++ [t], S.last, size, true⟩ := by
  subst hz
  have hk : ∀ {B : Nat} {t : TypeId} {c : Array Value}, Blk W B t c → t ≠ 9 → Blk w1 B t c := fun {B t c} hB hte => by
    refine (hgrow.block B (by have := hB.lt; simp; omega) (fun e' => ?_)).trans (hB.alloc tmp)
    rcases h.row.2 with ⟨rfl, _⟩ | ⟨g, cap, cur, rfl, _, hgb, _⟩
    · simp [Value.ownBlock] at e'
    · obtain rfl : B = g := by simpa [Value.ownBlock] using e'
      have := (show W.heap[B]? = _ from hB).symm.trans hgb
      simp at this
      exact hte this.2
  have hb1 := hk h.blk (by decide)
  obtain ⟨r0, r1, r2, r3, hr⟩ := h.res
  have hr1 := hk hr (by decide)
  have hb : Below w.heap.size w w1 := (h.below.trans ((below1 W tmp).mono h.below.size)).grown hgrow (by have := h.below.size; simp; omega) (fun k e => by
    rcases h.row.2 with ⟨rfl, _⟩ | ⟨g, cap, cur, rfl, hg, _⟩
    · simp [Value.ownBlock] at e
    · obtain rfl : g = k := by simpa [Value.ownBlock] using e
      exact hg)
  have hle : w.heap.size ≤ p + 1 := by have := h.base; omega
  refine ⟨hb1, (hb1.set 0 v').set 2 _, ⟨r0, r1, r2, r3, (hr1.other (by omega) _ _).other (by omega) _ _⟩, ?_, (hb.setCell (p := ⟨p + 1, 0, none⟩) hle _).setCell (p := ⟨p + 1, 2, none⟩) hle _, h.base⟩
  have h1 := own_other (own_other hown' hb1 (by decide) 0 v') (hb1.set 0 v') (by decide) 2 (.int .i64 (size : Nat))
  show World.ownsRow _ _ _ _ _ (S.recs ++ [t]).length ((S.recs ++ [t]).map strV)
  rw [List.length_append, List.map_append]
  exact h1
theorem scanS_recs (ls : List (List UInt8)) : (scanS ls).recs.length ≤ ls.length := by
  unfold scanS
  suffices ∀ s : Sc, (ls.foldl Sc.step s).recs.length ≤ s.recs.length + ls.length from by simpa [Sc.start] using this Sc.start
  induction ls with
  | nil => intro s; simp
  | cons x r ih =>
    intro s
    simp only [List.foldl_cons, List.length_cons]
    have h1 := ih (s.step x)
    have h2 : (s.step x).recs.length ≤ s.recs.length + 1 := by
      unfold Sc.step
      split
      · split <;> simp
      · omega
    omega
theorem At.recs {bs : List UInt8} {pre : List (List UInt8)} {S : Sc} (h : At bs pre S) : S.recs.length ≤ bs.length := by
  have h1 := scanS_recs pre
  rw [h.scan] at h1
  have h2 := congrArg List.length h.lines
  rw [List.length_append] at h2
  have h3 := lines_count bs
  omega
theorem At.end_ {bs : List UInt8} {pre : List (List UInt8)} {S : Sc} (h : At bs pre S) (he : ¬ S.size < bs.length) : scanS (linesL bs) = S ∧ tailP S bs.length = 0 := by
  refine ⟨h.none (fun c hc => ?_), by unfold tailP; rw [h.ok, if_pos rfl, if_neg he]⟩
  rw [List.drop_eq_nil_of_le (by omega)] at hc
  cases hc
def sizeAt (p : Nat) (W : World) : Nat := match W.cell? ⟨p + 1, 2, none⟩ with | some (.int _ n) => n.toNat | _ => 0
theorem sizeAt_eq {w W : World} {p : Nat} {v : Value} {S : Sc} (h : RQ w W p v S) : sizeAt p W = S.size := by
  unfold sizeAt; rw [h.blk.cell (j := 2) (v := .int .i64 (S.size : Nat)) rfl]; rfl
set_option maxRecDepth 100000 in
set_option maxHeartbeats 8000000 in
theorem rscan_bytes (b o cap : Nat) (bs : List UInt8) (hs : bs.length ≤ 2000000) (hcap : bs.length ≤ cap) (w : World) (hB : BS w b o bs) :
    Calls Tryd.prog 39 #[.slice (some ⟨b, o, none⟩) bs.length cap] w (RetRScan w (scanS (linesL bs)) (tailP (scanS (linesL bs)) bs.length : Nat)) := by
  obtain ⟨N, hN⟩ : ∃ N, bs.length = N := ⟨_, rfl⟩
  have HN := Lib.hid hN
  have HB := Lib.hid hB
  rw [hN] at hs hcap ⊢
  clear hN hB
  go_enter Tryd.func39, Tryd.ntmps39
  go_upto_block 0 with fail
  have hq : RQ w ((w.alloc (.cells #[.slice none 0 0, .int .i64 0, .int .i64 0, .bool false] 73)).alloc (.cells #[.slice none 0 0, .int .i64 1, .int .i64 0, .bool false] 73)) w.heap.size (.slice none 0 0) Sc.start := by
    refine ⟨?_, ⟨_, _, _, _, (Blk.new w _ _).alloc _⟩, World.ownsRow_nil _ _ _ _, bchain (below1 _ _) (below1 _ _), Nat.le_refl _⟩
    have := Blk.new (w.alloc (.cells #[.slice none 0 0, .int .i64 0, .int .i64 0, .bool false] 73)) 73 #[.slice none 0 0, .int .i64 1, .int .i64 0, .bool false]
    rwa [World.size_alloc] at this
  generalize (w.alloc (.cells #[.slice none 0 0, .int .i64 0, .int .i64 0, .bool false] 73)).alloc (.cells #[.slice none 0 0, .int .i64 1, .int .i64 0, .bool false] 73) = W0 at *
  obtain ⟨p, hp⟩ : ∃ p, w.heap.size = p := ⟨_, rfl⟩
  rw [hp] at hq ⊢
  have HQ := Lib.hid hq
  clear hq
  go_wp2_with fail
  go_loopw [5] (fun _ wr => ∃ pre S v, At bs pre S ∧ RQ w wr p v S) (fun _ wr => N - sizeAt p wr)
  case atStart => exact ⟨[], Sc.start, _, At.start bs, HQ.out⟩
  case round =>
    obtain ⟨pre, S, v, hat, hq⟩ := hrel
    obtain ⟨A2, c2, rfl⟩ := own_slice hq.row
    have hms := sizeAt_eq hq
    have HA := Lib.hid hat
    have HQ1 := Lib.hid hq
    clear HQ hat hq
    have e0 := HQ1.out.blk.cell (j := 0) (v := .slice A2 S.recs.length c2) rfl
    have e1 := HQ1.out.blk.cell (j := 1) (v := .int .i64 (S.last : Nat)) rfl
    have e2 := HQ1.out.blk.cell (j := 2) (v := .int .i64 (S.size : Nat)) rfl
    have e3 := HQ1.out.blk.cell (j := 3) (v := .bool false) rfl
    obtain ⟨r0, r1, r2, r3, hres⟩ := HQ1.out.res
    have g0 := hres.cell (j := 0) (v := r0) rfl
    have g1 := hres.cell (j := 1) (v := r1) rfl
    have g2 := hres.cell (j := 2) (v := r2) rfl
    have g3 := hres.cell (j := 3) (v := r3) rfl
    have f0 := hres.free 0
    have f1 := hres.free 1
    have f2 := hres.free 2
    have f3 := hres.free 3
    have HRS := Lib.hid hres
    clear hres
    have hle := HA.out.le
    rw [HN.out] at hle
    by_cases hlt : S.size < N
    · have t1 : decide (S.size < N) = true := decide_eq_true hlt
      have t2 : decide ((S.size : Int) < (N : Int)) = true := decide_eq_true (by omega)
      go_upto_block 2 with fail
      go_cut [5] (fun s5 wx => ∃ i : Nat, s5 = .int .i64 ((S.size + i : Nat) : Int) ∧ S.size + i ≤ N ∧ (∀ c ∈ (bs.drop S.size).take i, c ≠ 10) ∧ (S.size + i < N → (bs.drop S.size)[i]? = some 10) ∧ wx = wr)
      case first =>
        clear e0 e1 e2 e3 g0 g1 g2 g3 f0 f1 f2 f3
        have HBR : Hid (BS wr b (o + S.size) (bs.drop S.size)) := Lib.hid ((HB.out.keep HQ1.out.below).drop S.size)
        have HRL : Hid ((bs.drop S.size).length = N - S.size) := Lib.hid (by rw [List.length_drop, HN.out])
        go_wp2
        go_loopw [5] (fun s5 wx => ∃ i : Nat, s5 = .int .i64 ((S.size + i : Nat) : Int) ∧ S.size + i ≤ N ∧ (∀ c ∈ (bs.drop S.size).take i, c ≠ 10) ∧ wx = wr) (fun s5 _ => N - (intOf s5).toNat)
        case atStart => exact ⟨0, by simp, by omega, by simp, rfl⟩
        case round =>
          obtain ⟨i, rfl, hi, hno, rfl⟩ := hrel
          have HNO := Lib.hid hno
          clear hno
          obtain ⟨e, he⟩ : ∃ e, S.size + i = e := ⟨_, rfl⟩
          have HE := Lib.hid he
          rw [he] at hi ⊢
          by_cases hlt2 : e < N
          · have u1 : decide (e < N) = true := decide_eq_true hlt2
            have u2 : decide ((e : Int) < (N : Int)) = true := decide_eq_true (by omega)
            have i0 : (0 : Int) ≤ (e : Int) := by omega
            have i1 : (e : Int) < (N : Int) := by omega
            obtain ⟨c, hc⟩ : ∃ c, (bs.drop S.size)[i]? = some c := ⟨_, List.getElem?_eq_getElem (by rw [HRL.out]; omega)⟩
            have ck := HBR.out i c hc
            rw [show o + S.size + i = o + e by omega] at ck
            by_cases hc10 : c = 10
            · subst hc10
              have HC := Lib.hid hc
              clear he hc
              go_wp2
              go_meet
              exact ⟨i, by rw [HE.out], by rw [HE.out]; exact hi, HNO.out, fun _ => HC.out, rfl⟩
            · have t3 : ((c.toNat : Int) == 10) = false := beq_eq_false_iff_ne.2 (fun h => hc10 (UInt8.toNat_inj.1 (by show c.toNat = 10; omega)))
              have HNO2 : Hid (∀ x ∈ (bs.drop S.size).take (i + 1), x ≠ 10) := Lib.hid (by
                rw [List.take_add_one, hc]
                intro x hx
                rcases List.mem_append.1 hx with hx | hx
                · exact HNO.out x hx
                · have : x = c := by simpa using hx
                  rw [this]; exact hc10)
              clear hc10 hc he
              go_wp2
              go_roundw
              case rel => exact ⟨i + 1, by rw [show S.size + (i + 1) = e + 1 by have := HE.out; omega]; go_num, by have := HE.out; omega, HNO2.out, trivial⟩
              case measure => simp [intOf]; omega
          · obtain rfl : e = N := by omega
            have u1 : decide (e < e) = false := decide_eq_false (by omega)
            go_wp2
            go_meet
            exact ⟨i, by rw [HE.out], by rw [HE.out]; exact hi, HNO.out, fun h => absurd h (by rw [HE.out]; omega), rfl⟩
      case rest =>
      obtain ⟨i, rfl, hi, hno, hten, rfl⟩ := hcut
      have HNO := Lib.hid hno
      have HTEN := Lib.hid hten
      clear hno hten
      have HRL : Hid ((bs.drop S.size).length = N - S.size) := Lib.hid (by rw [List.length_drop, HN.out])
      obtain ⟨e, he⟩ : ∃ e, S.size + i = e := ⟨_, rfl⟩
      have HE := Lib.hid he
      rw [he] at hi ⊢
      by_cases heN : e = N
      · have u1 : ((e : Int) == (N : Int)) = true := beq_iff_eq.2 (by omega)
        have u2 : (e == N) = true := beq_iff_eq.2 heN
        have HF : Hid (scanS (linesL bs) = S) := Lib.hid (HA.out.none (by
          have := HNO.out
          rwa [List.take_of_length_le (by rw [HRL.out]; omega)] at this))
        have HT : Hid (tailP S N = 1) := Lib.hid (by unfold tailP; rw [HA.out.ok, if_pos rfl, if_pos hlt])
        clear hlt hms heN he
        go_wp2
        refine rscan_end HQ1.out rfl rfl (fun W' hq => ⟨.slice A2 S.recs.length c2, ?_, ?_, hq.below⟩)
        · rw [HF.out, HT.out]; rfl
        · rw [HF.out]; exact hq.row
      have heN2 : e < N := by omega
      have hir : i < (bs.drop S.size).length := by rw [HRL.out]; omega
      have hci : (bs.drop S.size)[i] = 10 := by
        have := HTEN.out (by rw [he]; exact heN2)
        rw [List.getElem?_eq_getElem hir] at this
        exact Option.some.inj this
      have HBAD := Lib.hid (fun hg => HA.out.bad hir hci HNO.out hg)
      have HGOOD := Lib.hid (fun hg => HA.out.good hir hci HNO.out hg)
      obtain ⟨ln, hln⟩ : ∃ ln, (bs.drop S.size).take i = ln := ⟨_, rfl⟩
      have hll : ln.length = i := by rw [← hln, List.length_take]; omega
      have HBL : Hid (BS wc b (o + S.size) (ln ++ [10])) := Lib.hid (by
        have h1 := ((HB.out.keep HQ1.out.below).drop S.size).take (i + 1)
        rw [List.take_add_one, hln, List.getElem?_eq_getElem hir, hci] at h1
        exact h1)
      rw [hln] at HBAD HGOOD
      have u1 : ((e : Int) == (N : Int)) = false := beq_eq_false_iff_ne.2 (by omega)
      have u2 : (e == N) = false := beq_eq_false_iff_ne.2 heN
      have HLL := Lib.hid hll
      clear hir hci hln heN HTEN HNO
      by_cases hi5 : i < 5
      · have u3 : decide ((e : Int) < (S.size : Int) + 5) = true := decide_eq_true (by omega)
        have u4 : decide (e < S.size + 5) = true := decide_eq_true (by omega)
        have HF := Lib.hid (HBAD.out (good_short _ _ (by omega)))
        clear hlt hms he hll hi5
        go_wp2
        refine rscan_end HQ1.out rfl rfl (fun W' hq => ⟨.slice A2 S.recs.length c2, ?_, ?_, hq.below⟩)
        · rw [HF.out]; rfl
        · rw [HF.out]; exact hq.row
      have u3 : decide ((e : Int) < (S.size : Int) + 5) = false := decide_eq_false (by omega)
      have u4 : decide (e < S.size + 5) = false := decide_eq_false (by omega)
      have i7 : (S.size : Int) + 5 ≤ (e : Int) := by omega
      have i7n : S.size + 5 ≤ e := by omega
      have i8 : (e : Int) ≤ (cap : Int) := by omega
      have i8n : e ≤ cap := by omega
      have i9 : ¬ cap = S.size + 5 := by omega
      have i9n : ¬ cap - (S.size + 5) = 0 := by omega
      obtain ⟨T, hT⟩ : ∃ T, ln.drop 5 = T := ⟨_, rfl⟩
      have hTl : T.length = e - (S.size + 5) := by rw [← hT, List.length_drop]; omega
      have HTL := Lib.hid hTl
      have HBT : Hid (BS wc b (o + (S.size + 5)) T) := Lib.hid (by
        have h1 := (HBL.out.take i).drop 5
        rw [List.take_append_of_le_length (by omega), List.take_of_length_le (by omega), hT, Nat.add_assoc] at h1
        exact h1)
      have i4 : 4 < ln.length := by omega
      have HGW := Lib.hid (fun hr => HBAD.out (good_wrong S.last ln i4 (by rw [hT]; exact hr)))
      have HGO := Lib.hid (fun hr => HBAD.out (good_other S.last ln i4 (by rw [hT]; exact hr)))
      have HGS := Lib.hid (fun hr he => HGOOD.out (good_same S.last ln i4 (by rw [hT]; exact hr) (by rw [hT]; exact he)))
      rw [hT] at HGS
      have hL9 : S.last < 9973 := by rw [← HA.out.scan]; exact scanS_last _
      have CV1 := conv_all b (o + (S.size + 5)) (cap - (S.size + 5)) T wc HBT.out
      rw [hTl] at CV1
      have hx : (⟨T.toArray⟩ : ByteArray).data.toList = T := rfl
      have hsz : (⟨T.toArray⟩ : ByteArray).size ≤ 2000000 := by
        rw [← str_len, hx]; omega
      have RL := Lib.hid (fun W => rline_any (S.last : Nat) ⟨T.toArray⟩ hsz W)
      have RC := Lib.hid (fun W => rcheck_any (S.last : Nat) ⟨T.toArray⟩ hsz W)
      rw [hx] at RL RC
      rcases hr : rightL T with _ | _
      · have hfp : failP (S.last : Nat) T = 422 := by unfold failP; rw [if_neg (by omega), hr]; rfl
        rw [show lineP (S.last : Nat) T = ([], 422) by unfold lineP; rw [hfp]; rfl] at RL
        have HF := Lib.hid (HGW.out hr)
        obtain ⟨X, hX⟩ : ∃ X : ByteArray, X = ⟨T.toArray⟩ := ⟨_, rfl⟩
        rw [← hX] at CV1 RL
        clear hlt hms he hll hi5 hT hTl hr hfp hx hsz HGOOD HGS HGO HGW RC hX
        go_wp2_with fail
        refine (RL.out _).mono ?_
        rintro e w2 ⟨rfl, hb⟩
        clear e0 e1 e2 e3 g0 g1 g2 g3 f0 f1 f2 f3 CV1
        have HQ2 := Lib.hid (HQ1.out.keep hb)
        have e0 := HQ2.out.blk.cell (j := 0) (v := .slice A2 S.recs.length c2) rfl
        have e1 := HQ2.out.blk.cell (j := 1) (v := .int .i64 (S.last : Nat)) rfl
        have e2 := HQ2.out.blk.cell (j := 2) (v := .int .i64 (S.size : Nat)) rfl
        have e3 := HQ2.out.blk.cell (j := 3) (v := .bool false) rfl
        obtain ⟨r0, r1, r2, r3, hres⟩ := HQ2.out.res
        have g0 := hres.cell (j := 0) (v := r0) rfl
        have g1 := hres.cell (j := 1) (v := r1) rfl
        have g2 := hres.cell (j := 2) (v := r2) rfl
        have g3 := hres.cell (j := 3) (v := r3) rfl
        have f0 := hres.free 0
        have f1 := hres.free 1
        have f2 := hres.free 2
        have f3 := hres.free 3
        clear hres hb
        go_wp2
        refine rscan_end HQ2.out rfl rfl (fun W' hq => ⟨.slice A2 S.recs.length c2, ?_, ?_, hq.below⟩)
        · rw [HF.out]; rfl
        · rw [HF.out]; exact hq.row
      have hfp : failP (S.last : Nat) T = 0 := by unfold failP; rw [if_neg (by omega), hr]; rfl
      rw [show lineP (S.last : Nat) T = (lineL S.last T, 0) by unfold lineP; rw [hfp]; rfl] at RL
      rw [show checkP (S.last : Nat) T = (((sumL S.last T : Nat) : Int), 0) by unfold checkP; rw [hfp]; rfl] at RC
      obtain ⟨X, hX⟩ : ∃ X : ByteArray, X = ⟨T.toArray⟩ := ⟨_, rfl⟩
      have HXT := Lib.hid hX
      rw [← hX] at CV1 RL RC
      obtain ⟨X2, hX2⟩ : ∃ X2 : ByteArray, (⟨(ln ++ [10]).toArray⟩ : ByteArray) = X2 := ⟨_, rfl⟩
      have HX2 := Lib.hid hX2
      have HLE : Hid ((ln ++ [10]).length = e + 1 - S.size) := Lib.hid (by rw [List.length_append, HLL.out, ← he]; simp; omega)
      have j1 : (S.size : Int) ≤ (e : Int) + 1 := by omega
      have j1n : S.size ≤ e + 1 := by omega
      have j2 : (e : Int) + 1 ≤ (cap : Int) := by omega
      have j2n : e + 1 ≤ cap := by omega
      have j3 : ¬ cap = S.size := by omega
      have j3n : ¬ cap - S.size = 0 := by omega
      by_cases hln : lineL S.last T = ln ++ [10]
      · have HGS2 := Lib.hid (HGS.out hr hln)
        obtain ⟨L', hL'⟩ : ∃ L', sumL S.last T = L' := ⟨_, rfl⟩
        have HL' := Lib.hid hL'
        rw [hln, hX2] at RL
        rw [hL'] at RC
        have hrc : S.recs.length ≤ 2000000 := by have := HA.out.recs; rw [HN.out] at this; omega
        obtain ⟨i0, hi0, hz0, hz1, hz2⟩ := info_parts info_str
        have HHE := Lib.hid he
        clear hms he hll hi5 hT hTl hr hfp hx hsz HGOOD HGS HGO HGW HBAD hX hX2 hln hL' i4 u1 u2 u3 u4 hlt hL9
        go_wp2_with fail
        refine (RL.out _).mono ?_
        rintro e w2 ⟨rfl, hb⟩
        clear e0 e1 e2 e3 g0 g1 g2 g3 f0 f1 f2 f3 CV1
        have HQ2 := Lib.hid (HQ1.out.keep hb)
        have CV2 := conv_all b (o + S.size) (cap - S.size) (ln ++ [10]) w2 (HBL.out.keep hb)
        rw [HLE.out, HX2.out] at CV2
        have e0 := HQ2.out.blk.cell (j := 0) (v := .slice A2 S.recs.length c2) rfl
        have e1 := HQ2.out.blk.cell (j := 1) (v := .int .i64 (S.last : Nat)) rfl
        have e2 := HQ2.out.blk.cell (j := 2) (v := .int .i64 (S.size : Nat)) rfl
        have e3 := HQ2.out.blk.cell (j := 3) (v := .bool false) rfl
        obtain ⟨r0, r1, r2, r3, hres⟩ := HQ2.out.res
        have g0 := hres.cell (j := 0) (v := r0) rfl
        have g1 := hres.cell (j := 1) (v := r1) rfl
        have g2 := hres.cell (j := 2) (v := r2) rfl
        have g3 := hres.cell (j := 3) (v := r3) rfl
        have f0 := hres.free 0
        have f1 := hres.free 1
        have f2 := hres.free 2
        have f3 := hres.free 3
        clear hres hb
        go_wp2_with fail
        refine (RC.out _).mono ?_
        rintro e w3 ⟨rfl, rfl⟩
        have HQ3 := Lib.hid (HQ2.out.setLast L')
        have q1 := HQ2.out.blk.free 1
        have y0 := HQ3.out.blk.cell (j := 0) (v := .slice A2 S.recs.length c2) rfl
        clear g0 g1 g2 g3 f0 f1 f2 f3
        have hwz : IntKind.i64.wrap ((e : Int) + 1) = (e : Int) + 1 := IntWalk.i64_in _ (by omega)
        go_wp2_with (at_builtin; refine wpList_append_own _ rfl _ _ 22 rfl w.heap.size 9 i0 (.string ⟨#[]⟩) 1 16 Tryd.underlying22 hi0 hz0 hz1 hz2 rfl (by decide) _ _ _ rfl (HQ3.out.row.alloc _) ⟨w2.heap.size, 0, none⟩ 1 1 [.string X] rfl rfl (by have h9 := cell_one_new (w2.setCell ⟨p + 1, 1, none⟩ (.int .i64 (L' : Nat))) (.string X) 9; simp only [World.size_setCell] at h9; exact h9) (by simp [Value.oneCell']) (by unfold maxLen; show S.recs.length + 1 ≤ _; omega) (by show (S.recs.length + 1) * 16 ≤ _; omega) (by have := HQ3.out.below.size; simp at this ⊢; omega) ?_; intro v' w4 hown' hgrow _; obtain ⟨g', cap', rfl⟩ := ownsRow_succ hown'; rw [show [Value.string X] = [strV T] by rw [HXT.out]; rfl] at hown'; obtain ⟨hb1, hq4⟩ := HQ3.out.grow hown' hgrow (e + 1) ((e : Int) + 1) (by omega); have z0 := hb1.cell (j := 0) (v := .slice A2 S.recs.length c2) rfl; have z2 := hb1.cell (j := 2) (v := .int .i64 (S.size : Nat)) rfl; have y1 := hb1.free 0; have y2 := hb1.free 2)
        go_roundw
        case rel => exact ⟨_, _, _, HGS2.out, by rw [HHE.out, HL'.out]; exact hq4⟩
        case measure =>
          rw [sizeAt_eq hq4, sizeAt_eq HQ1.out]
          show N - (e + 1) < N - S.size
          have := HHE.out
          omega
      · have HF := Lib.hid (HGO.out hln)
        have HE1 := str_ne hln
        have HE2 : ¬ ((⟨(lineL S.last T).toArray⟩ : ByteArray) = ⟨(ln ++ [10]).toArray⟩) := fun h => hln (by simpa using h)
        rw [hX2] at HE1 HE2
        generalize (⟨(lineL S.last T).toArray⟩ : ByteArray) = G at *
        clear hlt hms he hll hi5 hT hTl hr hfp hx hsz HGOOD HGS HGO HGW RC hX hX2 hln
        go_wp2_with fail
        refine (RL.out _).mono ?_
        rintro e w2 ⟨rfl, hb⟩
        clear e0 e1 e2 e3 g0 g1 g2 g3 f0 f1 f2 f3 CV1
        have HQ2 := Lib.hid (HQ1.out.keep hb)
        have CV2 := conv_all b (o + S.size) (cap - S.size) (ln ++ [10]) w2 (HBL.out.keep hb)
        rw [HLE.out, HX2.out] at CV2
        have e0 := HQ2.out.blk.cell (j := 0) (v := .slice A2 S.recs.length c2) rfl
        have e1 := HQ2.out.blk.cell (j := 1) (v := .int .i64 (S.last : Nat)) rfl
        have e2 := HQ2.out.blk.cell (j := 2) (v := .int .i64 (S.size : Nat)) rfl
        have e3 := HQ2.out.blk.cell (j := 3) (v := .bool false) rfl
        obtain ⟨r0, r1, r2, r3, hres⟩ := HQ2.out.res
        have g0 := hres.cell (j := 0) (v := r0) rfl
        have g1 := hres.cell (j := 1) (v := r1) rfl
        have g2 := hres.cell (j := 2) (v := r2) rfl
        have g3 := hres.cell (j := 3) (v := r3) rfl
        have f0 := hres.free 0
        have f1 := hres.free 1
        have f2 := hres.free 2
        have f3 := hres.free 3
        clear hres hb
        go_wp2
        refine rscan_end HQ2.out rfl rfl (fun W' hq => ⟨.slice A2 S.recs.length c2, ?_, ?_, hq.below⟩)
        · rw [HF.out]; rfl
        · rw [HF.out]; exact hq.row
    · have t1 : decide (S.size < N) = false := decide_eq_false hlt
      have t2 : decide ((S.size : Int) < (N : Int)) = false := decide_eq_false (by omega)
      have HF := Lib.hid (HA.out.end_ (by rw [HN.out]; exact hlt))
      clear hlt hms
      go_wp2
      refine rscan_end HQ1.out rfl rfl (fun W' hq => ⟨.slice A2 S.recs.length c2, ?_, ?_, hq.below⟩)
      · rw [HF.out.1, show tailP S N = 0 by rw [← HN.out]; exact HF.out.2]; rfl
      · rw [HF.out.1]; exact hq.row
set_option maxRecDepth 100000 in
set_option maxHeartbeats 2000000 in
theorem rscan_nil (w : World) : Calls Tryd.prog 39 #[.slice none 0 0] w (RetRScan w (scanS (linesL [])) (tailP (scanS (linesL [])) 0 : Nat)) := by
  go_enter Tryd.func39, Tryd.ntmps39
  go_upto_block 0 with fail
  have hq : RQ w ((w.alloc (.cells #[.slice none 0 0, .int .i64 0, .int .i64 0, .bool false] 73)).alloc (.cells #[.slice none 0 0, .int .i64 1, .int .i64 0, .bool false] 73)) w.heap.size (.slice none 0 0) Sc.start := by
    refine ⟨?_, ⟨_, _, _, _, (Blk.new w _ _).alloc _⟩, World.ownsRow_nil _ _ _ _, bchain (below1 _ _) (below1 _ _), Nat.le_refl _⟩
    have := Blk.new (w.alloc (.cells #[.slice none 0 0, .int .i64 0, .int .i64 0, .bool false] 73)) 73 #[.slice none 0 0, .int .i64 1, .int .i64 0, .bool false]
    rwa [World.size_alloc] at this
  generalize (w.alloc (.cells #[.slice none 0 0, .int .i64 0, .int .i64 0, .bool false] 73)).alloc (.cells #[.slice none 0 0, .int .i64 1, .int .i64 0, .bool false] 73) = W0 at *
  obtain ⟨p, hp⟩ : ∃ p, w.heap.size = p := ⟨_, rfl⟩
  rw [hp] at hq ⊢
  have HQ1 := Lib.hid hq
  have e0 := hq.blk.cell (j := 0) (v := .slice none 0 0) rfl
  have e1 := hq.blk.cell (j := 1) (v := .int .i64 1) rfl
  have e2 := hq.blk.cell (j := 2) (v := .int .i64 0) rfl
  have e3 := hq.blk.cell (j := 3) (v := .bool false) rfl
  obtain ⟨r0, r1, r2, r3, hres⟩ := hq.res
  have g0 := hres.cell (j := 0) (v := r0) rfl
  have g1 := hres.cell (j := 1) (v := r1) rfl
  have g2 := hres.cell (j := 2) (v := r2) rfl
  have g3 := hres.cell (j := 3) (v := r3) rfl
  have f0 := hres.free 0
  have f1 := hres.free 1
  have f2 := hres.free 2
  have f3 := hres.free 3
  clear hres hq
  go_wp2_with fail
  refine wp_loop_rounds 1 ?_
  rw [rounds_succ]
  go_wp2
  exact rscan_end (S := Sc.start) HQ1.out rfl rfl (fun W' hq => ⟨_, rfl, hq.row, hq.below⟩)
theorem rscan_any (v : Value) (bs : List UInt8) (hs : bs.length ≤ 2000000) (w : World) (hB : BV w v bs) :
    Calls Tryd.prog 39 #[v] w (RetRScan w (scanS (linesL bs)) (tailP (scanS (linesL bs)) bs.length : Nat)) := by
  cases hB with
  | none_ => exact rscan_nil w
  | some_ b o cap l hcap hB => exact rscan_bytes b o cap bs hs hcap w hB
end Go.Proofs.YtbompgfjlllioaaDoor
