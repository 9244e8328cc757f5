/- The reference's Open and Repair. -/
import Derived.Test.YtbompgfjlllioaaDoorJRDisk
import Derived.Test.YtbompgfjlllioaaDoorJRScan
namespace Go.Proofs.YtbompgfjlllioaaDoor
open Go Go.RowKit

theorem ropen_res {p : Nat} {v : Value} {a b e : Int} {cl : Bool} {A : Option Addr} {n k : Nat} (hv : v = .slice A n k) {T : Array Value} (W : World) (h2 : T[2]?.getD undef = .pointer (some ⟨p, 0, none⟩)) (h3 : T[3]?.getD undef = .int .i64 e)
    (hb : Blk W p 73 #[v, .int .i64 a, .int .i64 b, .bool cl]) :
    (results Tryd.f43 T).run Tryd.prog W = .ok (.tuple #[.agg #[v, .int .i64 a, .int .i64 b, .bool cl], .int .i64 e]) W := by
  subst hv
  have e0 := hb.cell (j := 0) rfl
  have e1 := hb.cell (j := 1) rfl
  have e2 := hb.cell (j := 2) rfl
  have e3 := hb.cell (j := 3) rfl
  simp [results, Tryd.results43, go_sem, h2, h3, e0, e1, e2, e3]
theorem set4_below {w W : World} {p : Nat} (h : Below w.heap.size w W) (hp : w.heap.size ≤ p) (a b c d : Value) : Below w.heap.size w ((((W.setCell ⟨p, 0, none⟩ a).setCell ⟨p, 1, none⟩ b).setCell ⟨p, 2, none⟩ c).setCell ⟨p, 3, none⟩ d) :=
  (((h.setCell (p := ⟨p, 0, none⟩) hp a).setCell (p := ⟨p, 1, none⟩) hp b).setCell (p := ⟨p, 2, none⟩) hp c).setCell (p := ⟨p, 3, none⟩) hp d
def zeroLog : Value := .agg #[.slice none 0 0, .int .i64 0, .int .i64 0, .bool false]
section
variable {w : World} {B rp : Nat} {rb : Value} {pow : Int} {bs : List UInt8}
set_option maxRecDepth 100000 in
set_option maxHeartbeats 4000000 in
theorem ropen_bad (h : RD w B rp rb pow bs) (hbs : bs.length ≤ 1048576) (ht : (scanS (linesL bs)).ok = false) :
    Calls Tryd.prog 43 #[.pointer (some ⟨rp, 0, none⟩)] w (fun e w' => e = .returned (.tuple #[zeroLog, .int .i64 421]) ∧ Below w.heap.size w w') := by
  obtain ⟨A, c, rfl, hc⟩ := h.len
  obtain ⟨n, hn⟩ : ∃ n, bs.length = n := ⟨_, rfl⟩
  have HN := Lib.hid hn
  have H := Lib.hid h
  rw [hn] at hbs hc
  have RS := Lib.hid (fun W (hR : RD W B rp (.slice A bs.length c) pow bs) => rscan_any (.slice A bs.length c) bs (by rw [hn]; omega) W hR.bv)
  rw [show tailP (scanS (linesL bs)) bs.length = 2 by unfold tailP; rw [ht]; rfl] at RS
  rw [hn] at RS
  generalize scanS (linesL bs) = S at *
  have t1 : decide (1048576 < (n : Int)) = false := decide_eq_false (by omega)
  have t2 : decide (1048576 < n) = false := decide_eq_false (by omega)
  clear h hn
  clear ht
  go_enter Tryd.func43, Tryd.ntmps43
  go_upto_region 1 with fail
  obtain ⟨w1, hw1⟩ : ∃ w1, w.alloc (.cells #[.slice none 0 0, .int .i64 0, .int .i64 0, .bool false] 73) = w1 := ⟨_, rfl⟩
  obtain ⟨p, hpp⟩ : ∃ p, w.heap.size = p := ⟨_, rfl⟩
  have hb1 : Blk w1 p 73 #[.slice none 0 0, .int .i64 0, .int .i64 0, .bool false] := by rw [← hw1, ← hpp]; exact Blk.new w _ _
  have h1 : RD w1 B rp (.slice A bs.length c) pow bs := by rw [← hw1]; exact H.out.keep (below1 _ _)
  have BB : Below w.heap.size w w1 := by rw [← hw1]; exact below1 _ _
  have hrp : rp ≠ p := by have := H.out.disk.lt; omega
  rw [hw1, hpp]
  have HP := Lib.hid hpp
  have d0 : w1.cell? ⟨rp, 0, none⟩ = some (.slice A n c) := by rw [← HN.out]; exact h1.disk.cell (j := 0) rfl
  have RS1 := Lib.hid (RS.out w1 (by have := h1; rwa [HN.out] at this))
  have HB1 := Lib.hid hb1
  have HBB := Lib.hid BB
  have HWS : Hid (w.heap.size ≤ w1.heap.size) := Lib.hid BB.size
  have H1 := Lib.hid h1
  clear hw1 hpp h1 hb1 BB RS H
  go_wp2_with fail
  refine RS1.out.mono ?_
  rintro e w2 ⟨v, rfl, hr, hb⟩
  obtain ⟨A2, c2, rfl⟩ := own_slice hr
  have HR2 := Lib.hid hr
  have HB2 := Lib.hid (HB1.out.keep hb HB1.out.lt)
  have BB2 := Lib.hid (bchain HBB.out hb)
  have H2 := Lib.hid (H1.out.keep hb)
  clear hr hb d0 HB1 HBB RS1 H1
  go_upto_region 4 with fail
  obtain ⟨w3, hw3⟩ : ∃ w3, w2.alloc (.cells #[.slice A2 S.recs.length c2, .int .i64 (S.last : Nat), .int .i64 (S.size : Nat), .bool false] 73) = w3 := ⟨_, rfl⟩
  obtain ⟨q, hq⟩ : ∃ q, w2.heap.size = q := ⟨_, rfl⟩
  have hb3 : Blk w3 q 73 #[.slice A2 S.recs.length c2, .int .i64 (S.last : Nat), .int .i64 (S.size : Nat), .bool false] := by rw [← hw3, ← hq]; exact Blk.new w2 _ _
  have HR3 := Lib.hid (by rw [← hw3]; exact own_keep HR2.out (below1 _ _) : w3.ownsRow w1.heap.size 9 1 (.slice A2 S.recs.length c2) S.recs.length (S.recs.map strV))
  have HB3 := Lib.hid (by rw [← hw3]; exact HB2.out.alloc _ : Blk w3 p 73 #[.slice none 0 0, .int .i64 0, .int .i64 0, .bool false])
  have H3 := Lib.hid (by rw [← hw3]; exact H2.out.keep (below1 _ _) : RD w3 B rp (.slice A bs.length c) pow bs)
  have BB3 := Lib.hid (by rw [← hw3]; exact bchain BB2.out (below1 _ _) : Below w.heap.size w w3)
  have HQ3 := Lib.hid hb3
  rw [hw3, hq]
  have hwp : w.heap.size ≤ p := by rw [HP.out]; exact Nat.le_refl _
  clear hw3 hq hb3 HR2 HB2 H2 BB2
  obtain ⟨e0, e1, e2, e3⟩ := (⟨HB3.out.cell (j := 0) rfl, HB3.out.cell (j := 1) rfl, HB3.out.cell (j := 2) rfl, HB3.out.cell (j := 3) rfl⟩ : w3.cell? ⟨p, 0, none⟩ = some (.slice none 0 0) ∧ w3.cell? ⟨p, 1, none⟩ = some (.int .i64 0) ∧ w3.cell? ⟨p, 2, none⟩ = some (.int .i64 0) ∧ w3.cell? ⟨p, 3, none⟩ = some (.bool false))
  have f0 := HB3.out.free 0
  have f1 := HB3.out.free 1
  have f2 := HB3.out.free 2
  have f3 := HB3.out.free 3
  go_wp2_with fail
  refine bodyPost_ret (ropen_res rfl _ rfl rfl ((((HB3.out.set 0 (.slice none 0 0)).set 1 (.int .i64 0)).set 2 (.int .i64 0)).set 3 (.bool false))) rfl ?_
  exact ⟨rfl, set4_below BB3.out hwp _ _ _ _⟩
set_option maxRecDepth 100000 in
set_option maxHeartbeats 4000000 in
theorem ropen_nopower (h : RD w B rp rb 0 bs) (hbs : bs.length ≤ 1048576) (ht : (scanS (linesL bs)).ok = true) (hsz : (scanS (linesL bs)).size < bs.length) :
    Calls Tryd.prog 43 #[.pointer (some ⟨rp, 0, none⟩)] w (fun e w' => e = .returned (.tuple #[zeroLog, .int .i64 420]) ∧ Below w.heap.size w w') := by
  obtain ⟨A, c, rfl, hc⟩ := h.len
  obtain ⟨n, hn⟩ : ∃ n, bs.length = n := ⟨_, rfl⟩
  have HN := Lib.hid hn
  have H := Lib.hid h
  rw [hn] at hbs hc
  have RS := Lib.hid (fun W (hR : RD W B rp (.slice A bs.length c) 0 bs) => rscan_any (.slice A bs.length c) bs (by rw [hn]; omega) W hR.bv)
  rw [show tailP (scanS (linesL bs)) bs.length = 1 by unfold tailP; rw [ht, if_pos rfl, if_pos hsz]] at RS
  rw [hn] at RS hsz
  generalize scanS (linesL bs) = S at *
  have t1 : decide (1048576 < (n : Int)) = false := decide_eq_false (by omega)
  have t2 : decide (1048576 < n) = false := decide_eq_false (by omega)
  clear h hn
  clear ht
  go_enter Tryd.func43, Tryd.ntmps43
  go_upto_region 1 with fail
  obtain ⟨w1, hw1⟩ : ∃ w1, w.alloc (.cells #[.slice none 0 0, .int .i64 0, .int .i64 0, .bool false] 73) = w1 := ⟨_, rfl⟩
  obtain ⟨p, hpp⟩ : ∃ p, w.heap.size = p := ⟨_, rfl⟩
  have hb1 : Blk w1 p 73 #[.slice none 0 0, .int .i64 0, .int .i64 0, .bool false] := by rw [← hw1, ← hpp]; exact Blk.new w _ _
  have h1 : RD w1 B rp (.slice A bs.length c) 0 bs := by rw [← hw1]; exact H.out.keep (below1 _ _)
  have BB : Below w.heap.size w w1 := by rw [← hw1]; exact below1 _ _
  have hrp : rp ≠ p := by have := H.out.disk.lt; omega
  rw [hw1, hpp]
  have HP := Lib.hid hpp
  have d0 : w1.cell? ⟨rp, 0, none⟩ = some (.slice A n c) := by rw [← HN.out]; exact h1.disk.cell (j := 0) rfl
  have RS1 := Lib.hid (RS.out w1 (by have := h1; rwa [HN.out] at this))
  have HB1 := Lib.hid hb1
  have HBB := Lib.hid BB
  have HWS : Hid (w.heap.size ≤ w1.heap.size) := Lib.hid BB.size
  have H1 := Lib.hid h1
  clear hw1 hpp h1 hb1 BB RS H
  go_wp2_with fail
  refine RS1.out.mono ?_
  rintro e w2 ⟨v, rfl, hr, hb⟩
  obtain ⟨A2, c2, rfl⟩ := own_slice hr
  have HR2 := Lib.hid hr
  have HB2 := Lib.hid (HB1.out.keep hb HB1.out.lt)
  have BB2 := Lib.hid (bchain HBB.out hb)
  have H2 := Lib.hid (H1.out.keep hb)
  clear hr hb d0 HB1 HBB RS1 H1
  go_upto_region 4 with fail
  obtain ⟨w3, hw3⟩ : ∃ w3, w2.alloc (.cells #[.slice A2 S.recs.length c2, .int .i64 (S.last : Nat), .int .i64 (S.size : Nat), .bool false] 73) = w3 := ⟨_, rfl⟩
  obtain ⟨q, hq⟩ : ∃ q, w2.heap.size = q := ⟨_, rfl⟩
  have hb3 : Blk w3 q 73 #[.slice A2 S.recs.length c2, .int .i64 (S.last : Nat), .int .i64 (S.size : Nat), .bool false] := by rw [← hw3, ← hq]; exact Blk.new w2 _ _
  have HR3 := Lib.hid (by rw [← hw3]; exact own_keep HR2.out (below1 _ _) : w3.ownsRow w1.heap.size 9 1 (.slice A2 S.recs.length c2) S.recs.length (S.recs.map strV))
  have HB3 := Lib.hid (by rw [← hw3]; exact HB2.out.alloc _ : Blk w3 p 73 #[.slice none 0 0, .int .i64 0, .int .i64 0, .bool false])
  have H3 := Lib.hid (by rw [← hw3]; exact H2.out.keep (below1 _ _) : RD w3 B rp (.slice A bs.length c) 0 bs)
  have BB3 := Lib.hid (by rw [← hw3]; exact bchain BB2.out (below1 _ _) : Below w.heap.size w w3)
  have HQ3 := Lib.hid hb3
  rw [hw3, hq]
  have hwp : w.heap.size ≤ p := by rw [HP.out]; exact Nat.le_refl _
  clear hw3 hq hb3 HR2 HB2 H2 BB2
  have CU := Lib.hid (rcut_none H3.out S.size (by rw [HN.out]; exact hsz) (.slice A2 S.recs.length c2) (S.last : Nat) false A2 S.recs.length c2 rfl)
  have g0 := HQ3.out.cell (j := 0) rfl
  have g1 := HQ3.out.cell (j := 1) rfl
  have g2 := HQ3.out.cell (j := 2) rfl
  have g3 := HQ3.out.cell (j := 3) rfl
  go_wp2_with fail
  refine CU.out.mono ?_
  rintro e w4 ⟨rfl, hb⟩
  have HB4 := Lib.hid (HB3.out.keep hb HB3.out.lt)
  have BB4 := Lib.hid (bchain BB3.out hb)
  clear hb g0 g1 g2 g3 CU
  obtain ⟨e0, e1, e2, e3⟩ := (⟨HB4.out.cell (j := 0) rfl, HB4.out.cell (j := 1) rfl, HB4.out.cell (j := 2) rfl, HB4.out.cell (j := 3) rfl⟩ : w4.cell? ⟨p, 0, none⟩ = some (.slice none 0 0) ∧ w4.cell? ⟨p, 1, none⟩ = some (.int .i64 0) ∧ w4.cell? ⟨p, 2, none⟩ = some (.int .i64 0) ∧ w4.cell? ⟨p, 3, none⟩ = some (.bool false))
  have f0 := HB4.out.free 0
  have f1 := HB4.out.free 1
  have f2 := HB4.out.free 2
  have f3 := HB4.out.free 3
  go_wp2_with fail
  refine bodyPost_ret (ropen_res rfl _ rfl rfl ((((HB4.out.set 0 (.slice none 0 0)).set 1 (.int .i64 0)).set 2 (.int .i64 0)).set 3 (.bool false))) rfl ?_
  exact ⟨rfl, set4_below BB4.out hwp _ _ _ _⟩
/-- What Open returns where it returns a log. -/
def RetROpen (w : World) (B rp : Nat) (rb : Value) (S : Sc) (pow : Int) (bs : List UInt8) (e : Ending) (w' : World) : Prop :=
  ∃ yv rb', e = .returned (.tuple #[.agg #[yv, .int .i64 (S.last : Nat), .int .i64 (S.size : Nat), .bool false], .int .i64 0]) ∧ w'.ownsRow w.heap.size 9 1 yv S.recs.length (S.recs.map strV) ∧ RD w' B rp rb' pow bs ∧ Fr [rp] w w' ∧ (∀ x, rb'.ownBlock = some x → rb.ownBlock = some x ∨ w.heap.size ≤ x)
theorem set4_fr {w W : World} {rp p : Nat} (h : Fr [rp] w W) (hp : w.heap.size ≤ p) (a b c d : Value) : Fr [rp] w ((((W.setCell ⟨p, 0, none⟩ a).setCell ⟨p, 1, none⟩ b).setCell ⟨p, 2, none⟩ c).setCell ⟨p, 3, none⟩ d) := by
  have k : ∀ {W : World} (j : Nat) (v : Value), Fr [rp] w W → Fr [rp] w (W.setCell ⟨p, j, none⟩ v) := fun {W} j v h => (Fr.trans2 h (Fr.of_grown (grown_set W p j v) (L := [p]) (fun x e => by cases e; simp)) (fun x hx => by obtain rfl : x = p := (by simpa using hx); exact .inr hp))
  exact k _ _ (k _ _ (k _ _ (k _ _ h)))
set_option maxRecDepth 100000 in
set_option maxHeartbeats 4000000 in
theorem ropen_ok (h : RD w B rp rb pow bs) (hB : B ≤ w.heap.size) (hbs : bs.length ≤ 1048576) (ht : (scanS (linesL bs)).ok = true) (pow' : Int) (bs' : List UInt8)
    (CU : ∀ W yv A9 n9 c9, yv = .slice A9 n9 c9 → RD W B rp rb pow bs → B ≤ W.heap.size → Calls Tryd.prog 58 #[.pointer (some ⟨rp, 0, none⟩), .agg #[yv, .int .i64 ((scanS (linesL bs)).last : Nat), .int .i64 ((scanS (linesL bs)).size : Nat), .bool false]] W (fun e w' => e = .returned (.bool true) ∧ ∃ rb', RD w' B rp rb' pow' bs' ∧ Fr [rp] W w' ∧ (∀ x, rb'.ownBlock = some x → rb.ownBlock = some x ∨ W.heap.size ≤ x))) :
    Calls Tryd.prog 43 #[.pointer (some ⟨rp, 0, none⟩)] w (RetROpen w B rp rb (scanS (linesL bs)) pow' bs') := by
  have CU0 := Lib.hid CU
  clear CU
  obtain ⟨A, c, rfl, hc⟩ := h.len
  obtain ⟨n, hn⟩ : ∃ n, bs.length = n := ⟨_, rfl⟩
  have HN := Lib.hid hn
  have H := Lib.hid h
  rw [hn] at hbs hc
  have RS := Lib.hid (fun W (hR : RD W B rp (.slice A bs.length c) pow bs) => rscan_any (.slice A bs.length c) bs (by rw [hn]; omega) W hR.bv)
  obtain ⟨t, htt⟩ : ∃ t, tailP (scanS (linesL bs)) bs.length = t := ⟨_, rfl⟩
  have ht2 : t ≠ 2 := by rw [← htt]; unfold tailP; rw [ht, if_pos rfl]; split <;> decide
  have t3 : ((t : Int) == 2) = false := beq_eq_false_iff_ne.2 (by omega)
  have t4 : (t == 2) = false := beq_eq_false_iff_ne.2 ht2
  rw [htt] at RS
  rw [hn] at RS
  generalize scanS (linesL bs) = S at *
  have t1 : decide (1048576 < (n : Int)) = false := decide_eq_false (by omega)
  have t2 : decide (1048576 < n) = false := decide_eq_false (by omega)
  clear h hn
  clear ht htt ht2
  go_enter Tryd.func43, Tryd.ntmps43
  go_upto_region 1 with fail
  obtain ⟨w1, hw1⟩ : ∃ w1, w.alloc (.cells #[.slice none 0 0, .int .i64 0, .int .i64 0, .bool false] 73) = w1 := ⟨_, rfl⟩
  obtain ⟨p, hpp⟩ : ∃ p, w.heap.size = p := ⟨_, rfl⟩
  have hb1 : Blk w1 p 73 #[.slice none 0 0, .int .i64 0, .int .i64 0, .bool false] := by rw [← hw1, ← hpp]; exact Blk.new w _ _
  have h1 : RD w1 B rp (.slice A bs.length c) pow bs := by rw [← hw1]; exact H.out.keep (below1 _ _)
  have BB : Below w.heap.size w w1 := by rw [← hw1]; exact below1 _ _
  have hrp : rp ≠ p := by have := H.out.disk.lt; omega
  rw [hw1, hpp]
  have HP := Lib.hid hpp
  have d0 : w1.cell? ⟨rp, 0, none⟩ = some (.slice A n c) := by rw [← HN.out]; exact h1.disk.cell (j := 0) rfl
  have RS1 := Lib.hid (RS.out w1 (by have := h1; rwa [HN.out] at this))
  have HB1 := Lib.hid hb1
  have HBB := Lib.hid BB
  have HWS : Hid (w.heap.size ≤ w1.heap.size) := Lib.hid BB.size
  have H1 := Lib.hid h1
  clear hw1 hpp h1 hb1 BB RS H
  go_wp2_with fail
  refine RS1.out.mono ?_
  rintro e w2 ⟨v, rfl, hr, hb⟩
  obtain ⟨A2, c2, rfl⟩ := own_slice hr
  have HR2 := Lib.hid hr
  have HB2 := Lib.hid (HB1.out.keep hb HB1.out.lt)
  have BB2 := Lib.hid (bchain HBB.out hb)
  have H2 := Lib.hid (H1.out.keep hb)
  clear hr hb d0 HB1 HBB RS1 H1
  go_upto_region 4 with fail
  obtain ⟨w3, hw3⟩ : ∃ w3, w2.alloc (.cells #[.slice A2 S.recs.length c2, .int .i64 (S.last : Nat), .int .i64 (S.size : Nat), .bool false] 73) = w3 := ⟨_, rfl⟩
  obtain ⟨q, hq⟩ : ∃ q, w2.heap.size = q := ⟨_, rfl⟩
  have hb3 : Blk w3 q 73 #[.slice A2 S.recs.length c2, .int .i64 (S.last : Nat), .int .i64 (S.size : Nat), .bool false] := by rw [← hw3, ← hq]; exact Blk.new w2 _ _
  have HR3 := Lib.hid (by rw [← hw3]; exact own_keep HR2.out (below1 _ _) : w3.ownsRow w1.heap.size 9 1 (.slice A2 S.recs.length c2) S.recs.length (S.recs.map strV))
  have HB3 := Lib.hid (by rw [← hw3]; exact HB2.out.alloc _ : Blk w3 p 73 #[.slice none 0 0, .int .i64 0, .int .i64 0, .bool false])
  have H3 := Lib.hid (by rw [← hw3]; exact H2.out.keep (below1 _ _) : RD w3 B rp (.slice A bs.length c) pow bs)
  have BB3 := Lib.hid (by rw [← hw3]; exact bchain BB2.out (below1 _ _) : Below w.heap.size w w3)
  have HQ3 := Lib.hid hb3
  rw [hw3, hq]
  have hwp : w.heap.size ≤ p := by rw [HP.out]; exact Nat.le_refl _
  clear hw3 hq hb3 HR2 HB2 H2 BB2
  have CU := Lib.hid (CU0.out w3 (.slice A2 S.recs.length c2) A2 S.recs.length c2 rfl H3.out (Nat.le_trans hB BB3.out.size))
  have g0 := HQ3.out.cell (j := 0) rfl
  have g1 := HQ3.out.cell (j := 1) rfl
  have g2 := HQ3.out.cell (j := 2) rfl
  have g3 := HQ3.out.cell (j := 3) rfl
  have hrq : rp ≠ q := fun e => by
    have h1 := HQ3.out
    rw [← e] at h1
    have h2 := (show w3.heap[rp]? = _ from h1).symm.trans H3.out.disk
    simp at h2
  go_wp2_with fail
  refine CU.out.mono ?_
  rintro e w4 ⟨rfl, rb', hrd, hfr, hrb⟩
  have HB4 := Lib.hid (hfr.blk HB3.out (by simpa using Ne.symm hrp))
  have HQ4 := Lib.hid (hfr.blk HQ3.out (by simpa using Ne.symm hrq))
  have FR4 := Lib.hid ((Fr.of_below BB3.out [rp]).trans hfr)
  have H4 := Lib.hid hrd
  have HRB := Lib.hid hrb
  have HR4 := Lib.hid (own_fr HR3.out hfr (fun x hx hm => by
    obtain rfl : x = rp := by simpa using hm
    rcases HR3.out.2 with ⟨e, _⟩ | ⟨g, cap, cur, e, _, hg, _⟩
    · rw [e] at hx; simp [Value.ownBlock] at hx
    · rw [e] at hx
      obtain rfl : g = x := by simpa [Value.ownBlock] using hx
      have h2 := (show w3.heap[g]? = _ from H3.out.disk).symm.trans hg
      simp at h2))
  have g0 := HQ4.out.cell (j := 0) rfl
  have g1 := HQ4.out.cell (j := 1) rfl
  have g2 := HQ4.out.cell (j := 2) rfl
  have g3 := HQ4.out.cell (j := 3) rfl
  clear hfr hrd hrb CU HR3 HB3 HQ3 H3
  obtain ⟨e0, e1, e2, e3⟩ := (⟨HB4.out.cell (j := 0) rfl, HB4.out.cell (j := 1) rfl, HB4.out.cell (j := 2) rfl, HB4.out.cell (j := 3) rfl⟩ : w4.cell? ⟨p, 0, none⟩ = some (.slice none 0 0) ∧ w4.cell? ⟨p, 1, none⟩ = some (.int .i64 0) ∧ w4.cell? ⟨p, 2, none⟩ = some (.int .i64 0) ∧ w4.cell? ⟨p, 3, none⟩ = some (.bool false))
  have f0 := HB4.out.free 0
  have f1 := HB4.out.free 1
  have f2 := HB4.out.free 2
  have f3 := HB4.out.free 3
  go_wp2_with fail
  refine bodyPost_ret (ropen_res rfl _ rfl rfl ((((HB4.out.set 0 (.slice A2 S.recs.length c2)).set 1 (.int .i64 (S.last : Nat))).set 2 (.int .i64 (S.size : Nat))).set 3 (.bool false))) rfl ?_
  have k0 := HB4.out.set 0 (.slice A2 S.recs.length c2)
  have k1 := k0.set 1 (.int .i64 (S.last : Nat))
  have k2 := k1.set 2 (.int .i64 (S.size : Nat))
  refine ⟨_, _, rfl, ?_, ⟨(((H4.out.disk.other hrp _ _).other hrp _ _).other hrp _ _).other hrp _ _, ?_⟩, set4_fr FR4.out hwp _ _ _ _, fun x hx => (HRB.out x hx).imp id (Nat.le_trans BB3.out.size)⟩
  · exact own_base (own_other (own_other (own_other (own_other HR4.out HB4.out (by decide) 0 _) k0 (by decide) 1 _) k1 (by decide) 2 _) k2 (by decide) 3 _) HWS.out
  · exact own_other (own_other (own_other (own_other H4.out.row HB4.out (by decide) 0 _) k0 (by decide) 1 _) k1 (by decide) 2 _) k2 (by decide) 3 _
def RetRRep (w : World) (B rp : Nat) (rb : Value) (n : Int) (pow : Int) (bs : List UInt8) (e : Ending) (w' : World) : Prop :=
  ∃ rb', e = .returned (.tuple #[.int .i64 n, .int .i64 0]) ∧ RD w' B rp rb' pow bs ∧ Fr [rp] w w' ∧ (∀ x, rb'.ownBlock = some x → rb.ownBlock = some x ∨ w.heap.size ≤ x)
set_option maxRecDepth 100000 in
set_option maxHeartbeats 4000000 in
theorem rrepair_nopower (h : RD w B rp rb 0 bs) (hbs : bs.length ≤ 1048576) (hsz : (scanS (linesL bs)).size < bs.length) :
    Calls Tryd.prog 44 #[.pointer (some ⟨rp, 0, none⟩)] w (fun e w' => e = .returned (.tuple #[.int .i64 0, .int .i64 420]) ∧ Below w.heap.size w w') := by
  have h0lt := h.disk.lt
  obtain ⟨A, c, rfl, hc⟩ := h.len
  obtain ⟨n, hn⟩ : ∃ n, bs.length = n := ⟨_, rfl⟩
  have HN := Lib.hid hn
  have H := Lib.hid h
  rw [hn] at hbs hc
  have RS := Lib.hid (fun W (hR : RD W B rp (.slice A bs.length c) 0 bs) => rscan_any (.slice A bs.length c) bs (by rw [hn]; omega) W hR.bv)
  obtain ⟨t, htt⟩ : ∃ t, tailP (scanS (linesL bs)) bs.length = t := ⟨_, rfl⟩
  rw [htt] at RS
  rw [hn] at RS hsz
  generalize scanS (linesL bs) = S at *
  have t1 : decide (1048576 < (n : Int)) = false := decide_eq_false (by omega)
  have t2 : decide (1048576 < n) = false := decide_eq_false (by omega)
  clear h hn
  clear htt
  have hss : S.size ≤ n := by omega
  have HWP := Lib.hid h0lt
  have d0 : w.cell? ⟨rp, 0, none⟩ = some (.slice A n c) := by rw [← HN.out]; exact H.out.disk.cell (j := 0) rfl
  have RS1 := Lib.hid (RS.out w (by have := H.out; rwa [HN.out] at this))
  clear RS h0lt
  go_enter Tryd.func44, Tryd.ntmps44
  go_wp2_with fail
  refine RS1.out.mono ?_
  rintro e w2 ⟨v, rfl, hr, hb⟩
  obtain ⟨A2, c2, rfl⟩ := own_slice hr
  have BB2 := Lib.hid hb
  have H2 := Lib.hid (H.out.keep hb)
  clear hr hb d0 RS1 H
  go_upto_region 4 with fail
  obtain ⟨w3, hw3⟩ : ∃ w3, w2.alloc (.cells #[.slice A2 S.recs.length c2, .int .i64 (S.last : Nat), .int .i64 (S.size : Nat), .bool false] 73) = w3 := ⟨_, rfl⟩
  obtain ⟨q, hq⟩ : ∃ q, w2.heap.size = q := ⟨_, rfl⟩
  have hb3 : Blk w3 q 73 #[.slice A2 S.recs.length c2, .int .i64 (S.last : Nat), .int .i64 (S.size : Nat), .bool false] := by rw [← hw3, ← hq]; exact Blk.new w2 _ _
  have H3 := Lib.hid (by rw [← hw3]; exact H2.out.keep (below1 _ _) : RD w3 B rp (.slice A bs.length c) 0 bs)
  have BB3 := Lib.hid (by rw [← hw3]; exact bchain BB2.out (below1 _ _) : Below w.heap.size w w3)
  have HQ3 := Lib.hid hb3
  rw [hw3, hq]
  clear hw3 hq hb3 H2 BB2
  have d0 : w3.cell? ⟨rp, 0, none⟩ = some (.slice A n c) := by rw [← HN.out]; exact H3.out.disk.cell (j := 0) rfl
  have g2 := HQ3.out.cell (j := 2) rfl
  have v1 : IntKind.i64.wrap ((n : Int) - (S.size : Nat)) = (n : Int) - (S.size : Nat) := IntWalk.i64_in _ (by omega)
  go_quiet (fail)
  have FF := Lib.hid (below_drewN (Below.refl w3.heap.size w3) nq)
  have H4 := Lib.hid (H3.out.keep FF.out)
  have HQ4 := Lib.hid (HQ3.out.keep FF.out HQ3.out.lt)
  have BB4 := Lib.hid (bchain BB3.out FF.out)
  clear d0 g2 v1 FF H3 HQ3 BB3
  generalize w3.drewN nq = w4 at *
  have g0 := HQ4.out.cell (j := 0) rfl
  have g1 := HQ4.out.cell (j := 1) rfl
  have g2 := HQ4.out.cell (j := 2) rfl
  have g3 := HQ4.out.cell (j := 3) rfl
  have CU := Lib.hid (rcut_none H4.out S.size (by rw [HN.out]; exact hsz) (.slice A2 S.recs.length c2) (S.last : Nat) false A2 S.recs.length c2 rfl)
  go_wp2_with fail
  refine CU.out.mono ?_
  rintro e w5 ⟨rfl, hb⟩
  have BB5 := Lib.hid (bchain BB4.out hb)
  clear hb g0 g1 g2 g3 CU
  go_wp2
  go_ret2
  exact ⟨rfl, BB5.out⟩
set_option maxRecDepth 100000 in
set_option maxHeartbeats 4000000 in
theorem rrepair_ok (h : RD w B rp rb pow bs) (hB : B ≤ w.heap.size) (hbs : bs.length ≤ 1048576) (pow' : Int) (bs' : List UInt8)
    (CU : ∀ W yv A9 n9 c9, yv = .slice A9 n9 c9 → RD W B rp rb pow bs → B ≤ W.heap.size → Calls Tryd.prog 58 #[.pointer (some ⟨rp, 0, none⟩), .agg #[yv, .int .i64 ((scanS (linesL bs)).last : Nat), .int .i64 ((scanS (linesL bs)).size : Nat), .bool false]] W (fun e w' => e = .returned (.bool true) ∧ ∃ rb', RD w' B rp rb' pow' bs' ∧ Fr [rp] W w' ∧ (∀ x, rb'.ownBlock = some x → rb.ownBlock = some x ∨ W.heap.size ≤ x))) :
    Calls Tryd.prog 44 #[.pointer (some ⟨rp, 0, none⟩)] w (RetRRep w B rp rb ((bs.length : Int) - ((scanS (linesL bs)).size : Nat)) pow' bs') := by
  have CU0 := Lib.hid CU
  have h0lt := h.disk.lt
  have hss := scan_le bs
  clear CU
  obtain ⟨A, c, rfl, hc⟩ := h.len
  obtain ⟨n, hn⟩ : ∃ n, bs.length = n := ⟨_, rfl⟩
  have HN := Lib.hid hn
  have H := Lib.hid h
  rw [hn] at hbs hc
  have RS := Lib.hid (fun W (hR : RD W B rp (.slice A bs.length c) pow bs) => rscan_any (.slice A bs.length c) bs (by rw [hn]; omega) W hR.bv)
  obtain ⟨t, htt⟩ : ∃ t, tailP (scanS (linesL bs)) bs.length = t := ⟨_, rfl⟩
  rw [htt] at RS
  rw [hn] at RS hss ⊢
  generalize scanS (linesL bs) = S at *
  have t1 : decide (1048576 < (n : Int)) = false := decide_eq_false (by omega)
  have t2 : decide (1048576 < n) = false := decide_eq_false (by omega)
  clear h hn
  clear htt
  have HWP := Lib.hid h0lt
  have d0 : w.cell? ⟨rp, 0, none⟩ = some (.slice A n c) := by rw [← HN.out]; exact H.out.disk.cell (j := 0) rfl
  have RS1 := Lib.hid (RS.out w (by have := H.out; rwa [HN.out] at this))
  clear RS h0lt
  go_enter Tryd.func44, Tryd.ntmps44
  go_wp2_with fail
  refine RS1.out.mono ?_
  rintro e w2 ⟨v, rfl, hr, hb⟩
  obtain ⟨A2, c2, rfl⟩ := own_slice hr
  have BB2 := Lib.hid hb
  have H2 := Lib.hid (H.out.keep hb)
  clear hr hb d0 RS1 H
  go_upto_region 4 with fail
  obtain ⟨w3, hw3⟩ : ∃ w3, w2.alloc (.cells #[.slice A2 S.recs.length c2, .int .i64 (S.last : Nat), .int .i64 (S.size : Nat), .bool false] 73) = w3 := ⟨_, rfl⟩
  obtain ⟨q, hq⟩ : ∃ q, w2.heap.size = q := ⟨_, rfl⟩
  have hb3 : Blk w3 q 73 #[.slice A2 S.recs.length c2, .int .i64 (S.last : Nat), .int .i64 (S.size : Nat), .bool false] := by rw [← hw3, ← hq]; exact Blk.new w2 _ _
  have H3 := Lib.hid (by rw [← hw3]; exact H2.out.keep (below1 _ _) : RD w3 B rp (.slice A bs.length c) pow bs)
  have BB3 := Lib.hid (by rw [← hw3]; exact bchain BB2.out (below1 _ _) : Below w.heap.size w w3)
  have HQ3 := Lib.hid hb3
  rw [hw3, hq]
  clear hw3 hq hb3 H2 BB2
  have d0 : w3.cell? ⟨rp, 0, none⟩ = some (.slice A n c) := by rw [← HN.out]; exact H3.out.disk.cell (j := 0) rfl
  have g2 := HQ3.out.cell (j := 2) rfl
  have v1 : IntKind.i64.wrap ((n : Int) - (S.size : Nat)) = (n : Int) - (S.size : Nat) := IntWalk.i64_in _ (by omega)
  go_quiet (fail)
  have FF := Lib.hid (below_drewN (Below.refl w3.heap.size w3) nq)
  have H4 := Lib.hid (H3.out.keep FF.out)
  have HQ4 := Lib.hid (HQ3.out.keep FF.out HQ3.out.lt)
  have BB4 := Lib.hid (bchain BB3.out FF.out)
  clear d0 g2 v1 FF H3 HQ3 BB3
  generalize w3.drewN nq = w4 at *
  have g0 := HQ4.out.cell (j := 0) rfl
  have g1 := HQ4.out.cell (j := 1) rfl
  have g2 := HQ4.out.cell (j := 2) rfl
  have g3 := HQ4.out.cell (j := 3) rfl
  have CU := Lib.hid (CU0.out w4 (.slice A2 S.recs.length c2) A2 S.recs.length c2 rfl H4.out (Nat.le_trans hB BB4.out.size))
  go_wp2_with fail
  refine CU.out.mono ?_
  rintro e w5 ⟨rfl, rb', hrd, hfr, hrb⟩
  have FR5 := Lib.hid ((Fr.of_below BB4.out [rp]).trans hfr)
  have H5 := Lib.hid hrd
  have HRB := Lib.hid hrb
  clear hfr hrd hrb CU g0 g1 g2 g3
  go_wp2
  go_ret2
  exact ⟨_, rfl, H5.out, FR5.out, fun x hx => by have h9 := (HRB.out x hx).imp id (Nat.le_trans BB4.out.size); rw [HN.out] at h9; exact h9⟩
end
end Go.Proofs.YtbompgfjlllioaaDoor
