/- The reference's disk: what holds of it; its cut. -/
import Derived.Test.YtbompgfjlllioaaDoorJStrs
import Derived.Deep.RegionHeld3
import Derived.Deep.RegionLaw
namespace Go.Proofs.YtbompgfjlllioaaDoor
open Go Go.RowKit

/-- append(out, b...) inside a region that draws its order. -/
theorem wp_bv_opr {o : Oper} {a : Act} {K : Act → World → Prop} {Q : Exit → Act → World → Prop} (sl x : Operand)
    (ho : o.op = .call { callee := .builtin .append, args := #[sl, x], argTypes := #[26, 26] }) (w : World) (base : Nat) (v : Value) (n : Nat) (l : List UInt8) (hs : a.eval sl = v) (hown : w.ownsRow base 5 1 v n (l.map byteV))
    (A : Option Addr) (m c : Nat) (l2 : List UInt8) (hm : l2.length = m) (hx : a.eval x = .slice A m c) (hR : BV w (.slice A m c) l2) (hlen : n + m ≤ 100000000) (hbase : base ≤ w.heap.size)
    (h : ∀ v' w', w'.ownsRow base 5 1 v' (n + m) ((l ++ l2).map byteV) → w.grownBy w' v.ownBlock → Below base w w' → K (a.put o.dst v') w') : o.wp Tryd.prog a w K Q := by
  obtain ⟨i0, hi0, hz0, hz1, hz2⟩ := info_parts info_u8
  subst hm
  generalize hv : Value.slice A l2.length c = u at hR
  cases hR with
  | none_ =>
    injection hv with h1 h2 h3
    subst h1 h3
    have hr := run_append_owned_none (P := Tryd.prog) w base 26 o.type 5 i0 1 Tryd.underlying26 hi0 v n (l.map byteV) hown
    have hx' : a.eval x = .slice none 0 0 := hx
    unfold Oper.wp execOp
    simp only [ho, resolve, invoke, builtin, Sem.run_bind, Sem.run_pure, Result.andThen_ok, List.map_toArray, List.map_cons, List.map_nil, hs, hx', hr]
    exact h v w (by simpa using hown) (World.grownBy.refl _ _) (Below.refl _ _)
  | some_ b off c l2 hcap hc =>
    injection hv with h1 h2 h3
    subst h1 h3
    refine wp_append_own _ sl x 26 ho base 5 i0 (.int .u8 0) 1 1 Tryd.underlying26 hi0 hz0 hz1 hz2 rfl (by decide) v n (l.map byteV) hs hown ⟨b, off, none⟩ l2.length _ (l2.map byteV) hx (by simp) (cells_of_bs hc) byte_one (by unfold maxLen; omega) (by omega) hbase ?_
    intro v' w' h1 h2 _
    rw [← List.map_append] at h1
    exact h v' w' h1 h2 ((Below.refl base w).grown h2 hbase fun k hk => (hown.lt k hk).1)
theorem step_bv {ops : Array Oper} {o : Oper} {a : Act} {K : Act → World → Prop} {Q : Exit → Act → World → Prop} {E : Prop} (hgd : o.guard = none) (sl x : Operand)
    (ho : o.op = .call { callee := .builtin .append, args := #[sl, x], argTypes := #[26, 26] }) (w : World) (base : Nat) (v : Value) (n : Nat) (l : List UInt8) (hs : a.eval sl = v) (hown : w.ownsRow base 5 1 v n (l.map byteV))
    (A : Option Addr) (m c : Nat) (l2 : List UInt8) (hm : l2.length = m) (hx : a.eval x = .slice A m c) (hR : BV w (.slice A m c) l2) (hlen : n + m ≤ 100000000) (hbase : base ≤ w.heap.size)
    (h : ∀ v' w', w'.ownsRow base 5 1 v' (n + m) ((l ++ l2).map byteV) → w.grownBy w' v.ownBlock → Below base w w' → K (a.put o.dst v') w') :
    if Region.wanted o (yielded ops a.tmps) = true then Oper.wp Tryd.prog o a w K Q else E := by
  have hw : Region.wanted o (yielded ops a.tmps) = true := by simp [Region.wanted, hgd]
  rw [if_pos hw]
  exact wp_bv_opr sl x ho w base v n l hs hown A m c l2 hm hx hR hlen hbase h
/-- A disk of the reference. -/
structure RD (w : World) (B rp : Nat) (rb : Value) (pow : Int) (bs : List UInt8) : Prop where
  disk : Blk w rp 79 #[rb, .int .i64 pow]
  row : w.ownsRow B 5 1 rb bs.length (bs.map byteV)
theorem RD.keep {w w' : World} {B rp : Nat} {rb : Value} {pow : Int} {bs : List UInt8} (h : RD w B rp rb pow bs) (hb : Below w.heap.size w w') : RD w' B rp rb pow bs := ⟨h.disk.keep hb h.disk.lt, own_keep h.row hb⟩
theorem RD.len {w : World} {B rp : Nat} {rb : Value} {pow : Int} {bs : List UInt8} (h : RD w B rp rb pow bs) : ∃ A c, rb = .slice A bs.length c ∧ bs.length ≤ c := by
  obtain ⟨A, c, rfl⟩ := own_slice h.row
  exact ⟨A, c, rfl, own_cap h.row⟩
theorem RD.bv {w : World} {B rp : Nat} {rb : Value} {pow : Int} {bs : List UInt8} (h : RD w B rp rb pow bs) : BV w rb bs := by
  obtain ⟨A, c, rfl⟩ := own_slice h.row
  exact (dv_of_own h.row).bv
section
variable {w : World} {B rp : Nat} {rb : Value} {pow : Int} {bs : List UInt8}
set_option maxRecDepth 100000 in
set_option maxHeartbeats 1000000 in
theorem rcut_same (h : RD w B rp rb pow bs) (yv : Value) (last : Int) (cl : Bool) (A9 : Option Addr) (n9 c9 : Nat) (hy : yv = .slice A9 n9 c9) :
    Calls Tryd.prog 58 #[.pointer (some ⟨rp, 0, none⟩), .agg #[yv, .int .i64 last, .int .i64 (bs.length : Int), .bool cl]] w (fun e w' => e = .returned (.bool true) ∧ Below w.heap.size w w') := by
  obtain ⟨A, c, rfl, hc⟩ := h.len
  subst hy
  obtain ⟨n, hn⟩ : ∃ n, bs.length = n := ⟨_, rfl⟩
  have c0 : w.cell? ⟨rp, 0, none⟩ = some (.slice A n c) := by rw [← hn]; exact h.disk.cell (j := 0) rfl
  rw [hn]
  clear h hn hc
  go_enter Tryd.func58, Tryd.ntmps58
  go_upto_region 1 with fail
  obtain ⟨w1, hw1⟩ : ∃ w1, w.alloc (.cells #[.slice A9 n9 c9, .int .i64 last, .int .i64 (n : Int), .bool cl] 73) = w1 := ⟨_, rfl⟩
  obtain ⟨p, hp⟩ : ∃ p, w.heap.size = p := ⟨_, rfl⟩
  have d2 : w1.cell? ⟨p, 2, none⟩ = some (.int .i64 (n : Int)) := by rw [← hw1, ← hp]; exact (Blk.new w _ _).cell (j := 2) rfl
  have d0 : w1.cell? ⟨rp, 0, none⟩ = some (.slice A n c) := by rw [← hw1]; exact keepW (below1 _ _) c0
  have BB := Lib.hid (by rw [← hw1]; exact below1 _ _ : Below w.heap.size w w1)
  rw [hw1, hp]
  clear hw1 hp c0 
  go_quiet (fail)
  go_wp2
  go_ret
  exact ⟨rfl, below_drewN BB.out _⟩
set_option maxRecDepth 100000 in
set_option maxHeartbeats 1000000 in
theorem rcut_none (h : RD w B rp rb 0 bs) (size : Nat) (hs : size < bs.length) (yv : Value) (last : Int) (cl : Bool) (A9 : Option Addr) (n9 c9 : Nat) (hy : yv = .slice A9 n9 c9) :
    Calls Tryd.prog 58 #[.pointer (some ⟨rp, 0, none⟩), .agg #[yv, .int .i64 last, .int .i64 (size : Int), .bool cl]] w (fun e w' => e = .returned (.bool false) ∧ Below w.heap.size w w') := by
  obtain ⟨A, c, rfl, hc⟩ := h.len
  subst hy
  obtain ⟨n, hn⟩ : ∃ n, bs.length = n := ⟨_, rfl⟩
  have c0 : w.cell? ⟨rp, 0, none⟩ = some (.slice A n c) := by rw [← hn]; exact h.disk.cell (j := 0) rfl
  have c1 : w.cell? ⟨rp, 1, none⟩ = some (.int .i64 0) := h.disk.cell (j := 1) rfl
  rw [hn] at hs
  have t1 : ((size : Int) == (n : Int)) = false := beq_eq_false_iff_ne.2 (by omega)
  have t2 : (size == n) = false := beq_eq_false_iff_ne.2 (by omega)
  clear h hn hc hs
  go_enter Tryd.func58, Tryd.ntmps58
  go_upto_region 1 with fail
  obtain ⟨w1, hw1⟩ : ∃ w1, w.alloc (.cells #[.slice A9 n9 c9, .int .i64 last, .int .i64 (size : Int), .bool cl] 73) = w1 := ⟨_, rfl⟩
  obtain ⟨p, hp⟩ : ∃ p, w.heap.size = p := ⟨_, rfl⟩
  have d2 : w1.cell? ⟨p, 2, none⟩ = some (.int .i64 (size : Int)) := by rw [← hw1, ← hp]; exact (Blk.new w _ _).cell (j := 2) rfl
  have d0 : w1.cell? ⟨rp, 0, none⟩ = some (.slice A n c) := by rw [← hw1]; exact keepW (below1 _ _) c0
  have d1 : w1.cell? ⟨rp, 1, none⟩ = some (.int .i64 0) := by rw [← hw1]; exact keepW (below1 _ _) c1
  have BB := Lib.hid (by rw [← hw1]; exact below1 _ _ : Below w.heap.size w w1)
  rw [hw1, hp]
  clear hw1 hp c0 c1
  go_quiet (fail)
  go_wp2
  go_ret
  exact ⟨rfl, below_drewN BB.out _⟩
/-- What a cut leaves. -/
structure CQ (w wx : World) (B rp p : Nat) (rb : Value) (pow : Int) (bs : List UInt8) (L : Array Value) : Prop where
  rd : RD wx B rp rb (lessP pow) bs
  box : Blk wx p 73 L
  fr : Fr [rp] w wx
def RetCut (w : World) (B rp : Nat) (pow : Int) (bs : List UInt8) (e : Ending) (w' : World) : Prop := e = .returned (.bool true) ∧ ∃ rb', RD w' B rp rb' pow bs ∧ Fr [rp] w w' ∧ (∀ x, rb'.ownBlock = some x → w.heap.size ≤ x)
set_option maxRecDepth 100000 in
set_option maxHeartbeats 4000000 in
theorem rcut_done (h : RD w B rp rb pow bs) (hB : B ≤ w.heap.size) (hbs : bs.length ≤ 2000000) (size : Nat) (hs : size < bs.length) (hp : pow ≠ 0) (hp0 : -9223372036854775808 ≤ pow) (hp1 : pow ≤ 9223372036854775807) (yv : Value) (last : Int) (cl : Bool) (A9 : Option Addr) (n9 c9 : Nat) (hy : yv = .slice A9 n9 c9) :
    Calls Tryd.prog 58 #[.pointer (some ⟨rp, 0, none⟩), .agg #[yv, .int .i64 last, .int .i64 (size : Int), .bool cl]] w (RetCut w B rp (lessP pow) (bs.take size)) := by
  obtain ⟨A, c, rfl, hc⟩ := h.len
  subst hy
  obtain ⟨n, hn⟩ : ∃ n, bs.length = n := ⟨_, rfl⟩
  have HN := Lib.hid hn
  have H := Lib.hid h
  have hlt := h.disk.lt
  have c0 : w.cell? ⟨rp, 0, none⟩ = some (.slice A n c) := by rw [← hn]; exact h.disk.cell (j := 0) rfl
  have c1 : w.cell? ⟨rp, 1, none⟩ = some (.int .i64 pow) := h.disk.cell (j := 1) rfl
  rw [hn] at hs hc hbs
  have t1 : ((size : Int) == (n : Int)) = false := beq_eq_false_iff_ne.2 (by omega)
  have t2 : (size == n) = false := beq_eq_false_iff_ne.2 (by omega)
  have t3 : (pow == 0) = false := beq_eq_false_iff_ne.2 hp
  have i1 : (size : Int) ≤ (c : Int) := by omega
  have i2 : size ≤ c := by omega
  have i3 : (0 : Int) ≤ (size : Int) := by omega
  clear h hn
  go_enter Tryd.func58, Tryd.ntmps58
  go_upto_region 1 with fail
  obtain ⟨w1, hw1⟩ : ∃ w1, w.alloc (.cells #[.slice A9 n9 c9, .int .i64 last, .int .i64 (size : Int), .bool cl] 73) = w1 := ⟨_, rfl⟩
  obtain ⟨p, hpp⟩ : ∃ p, w.heap.size = p := ⟨_, rfl⟩
  have hb1 : Blk w1 p 73 #[.slice A9 n9 c9, .int .i64 last, .int .i64 (size : Int), .bool cl] := by rw [← hw1, ← hpp]; exact Blk.new w _ _
  have h1 : RD w1 B rp (.slice A bs.length c) pow bs := by rw [← hw1]; exact H.out.keep (below1 _ _)
  have BB : Below w.heap.size w w1 := by rw [← hw1]; exact below1 _ _
  rw [hw1, hpp]
  have HP := Lib.hid hpp
  have hrp : rp ≠ p := by omega
  clear hw1 hpp c0 c1
  have d0 : w1.cell? ⟨rp, 0, none⟩ = some (.slice A n c) := by rw [← HN.out]; exact h1.disk.cell (j := 0) rfl
  have d1 : w1.cell? ⟨rp, 1, none⟩ = some (.int .i64 pow) := h1.disk.cell (j := 1) rfl
  have d2 : w1.cell? ⟨p, 2, none⟩ = some (.int .i64 (size : Int)) := hb1.cell (j := 2) rfl
  have H1 := Lib.hid h1
  have HB1 := Lib.hid hb1
  have HBB := Lib.hid BB
  clear h1 hb1 BB
  go_quiet (fail)
  have F2 := Lib.hid (below_drewN (Below.refl w1.heap.size w1) nq)
  have D1 := keepW F2.out d1
  have H2 := Lib.hid (H1.out.keep F2.out)
  have HB2 := Lib.hid (HB1.out.keep F2.out HB1.out.lt)
  have FR2 := Lib.hid (Fr.of_below (bchain HBB.out F2.out) [rp])
  have f1 := H2.out.disk.free 1
  clear d0 d1 d2 H1 HB1 HBB F2
  generalize w1.drewN nq = w2 at *
  go_upto_if 22 with fail
  go_cut [3, 0] (fun s3 s0 wx => s3 = .pointer (some ⟨p, 0, none⟩) ∧ s0 = .pointer (some ⟨rp, 0, none⟩) ∧ CQ w wx B rp p (.slice A bs.length c) pow bs #[.slice A9 n9 c9, .int .i64 last, .int .i64 (size : Int), .bool cl])
  case first =>
    by_cases hpos : 0 < pow
    · have t4 : decide (0 < pow) = true := decide_eq_true hpos
      have HL : Hid (lessP pow = pow - 1) := Lib.hid (if_pos hpos)
      have v1 : IntKind.i64.wrap (pow - 1) = pow - 1 := IntWalk.i64_in _ (by omega)
      first | rw [t4] | skip
      clear hpos hp
      go_wp2
      go_meet
      exact ⟨rfl, rfl, ⟨by rw [HL.out]; exact H2.out.disk.set 1 _, own_other H2.out.row H2.out.disk (by decide) 1 _⟩, HB2.out.other (Ne.symm hrp) 1 _, FR2.out.set (by simp) 1 _⟩
    · have t4 : decide (0 < pow) = false := decide_eq_false hpos
      have HL : Hid (lessP pow = pow) := Lib.hid (if_neg hpos)
      first | rw [t4] | skip
      clear hpos hp
      go_wp2
      go_meet
      exact ⟨rfl, rfl, by rw [HL.out]; exact H2.out, HB2.out, FR2.out⟩
  case rest =>
  obtain ⟨rfl, rfl, hq⟩ := hcut
  clear D1 f1 H2 HB2 FR2 t1 t2 t3
  have HQ := Lib.hid hq
  clear hq
  have d0 : wc.cell? ⟨rp, 0, none⟩ = some (.slice A n c) := by rw [← HN.out]; exact HQ.out.rd.disk.cell (j := 0) rfl
  have d2 : wc.cell? ⟨p, 2, none⟩ = some (.int .i64 (size : Int)) := HQ.out.box.cell (j := 2) rfl
  have HOE : Hid ((wc.alloc (.cells #[] 5)).drew.ownsRow wc.heap.size 5 1 (.slice (some ⟨wc.heap.size, 0, none⟩) 0 0) 0 (([] : List UInt8).map byteV)) := Lib.hid (own_empty wc 5)
  have HBV := Lib.hid (fun (wx : World) (hb : Below wc.heap.size wc wx) => ((HQ.out.rd.bv.keep hb).take size (by rw [HN.out]; omega) : BV wx (.slice A size c) (bs.take size)))
  have HLT : Hid ((bs.take size).length = size) := Lib.hid (List.length_take_of_le (by rw [HN.out]; omega))
  have SOF := Lib.hid (fun (wx : World) (hb : Below wc.heap.size wc wx) => (⟨keepW hb d0, keepW hb d2, hb⟩ : wx.cell? ⟨rp, 0, none⟩ = some (.slice A n c) ∧ wx.cell? ⟨p, 2, none⟩ = some (.int .i64 (size : Int)) ∧ Below wc.heap.size wc wx))
  have SO5 := Lib.hid (fun (wx : World) (hb : Below wc.heap.size wc wx) => (⟨keepW hb d0, (HQ.out.rd.disk.keep hb HQ.out.rd.disk.lt).free 0⟩ : wx.cell? ⟨rp, 0, none⟩ = some (.slice A n c) ∧ wx.frozen? ⟨rp, 0, none⟩ = false))
  have hs3 : size ≤ 2000000 := by omega
  go_upto_region 7 with fail
  have HBA := Lib.hid (HBV.out _ (Below.drew (below1 wc (.cells #[] 5))))
  have d0' : (wc.alloc (.cells #[] 5)).cell? ⟨rp, 0, none⟩ = some (.slice A n c) := keepW (below1 _ _) d0
  have d2' : (wc.alloc (.cells #[] 5)).cell? ⟨p, 2, none⟩ = some (.int .i64 (size : Int)) := keepW (below1 _ _) d2
  go_region_law (refine step_bv rfl (.tmp 31) (.tmp 38) rfl _ wc.heap.size (.slice (some ⟨wc.heap.size, 0, none⟩) 0 0) 0 [] rfl HOE.out A size c (bs.take size) HLT.out rfl HBA.out (by omega) (by simp) ?_; intro v3 w3 ho3 _ hb3; (rw [Nat.zero_add, List.nil_append] at ho3); obtain ⟨A4, c4, rfl⟩ := own_slice ho3; (have HO4 := Lib.hid ho3); (have hB4 := Below.trans (Below.drew (below1 wc (.cells #[] 5))) hb3); obtain ⟨k5, y5⟩ := SO5.out _ hB4; clear ho3 hb3)
  all_goals
    have HD := Lib.hid (HQ.out.rd.disk.keep hB4 HQ.out.rd.disk.lt)
    have HO5 := Lib.hid (own_other HO4.out HD.out (by decide) 0 (.slice A4 size c4))
    have FR5 := Lib.hid ((HQ.out.fr.trans (Fr.of_below hB4 [rp])).set (p := rp) (by simp) 0 (.slice A4 size c4))
    have HHS : Hid (w.heap.size ≤ wc.heap.size) := Lib.hid HQ.out.fr.size
    clear SOF SO5 HBV HOE k5 y5 d0 d2 hB4
    go_wp2
    go_ret
    refine ⟨rfl, _, ⟨HD.out.set 0 _, ?_⟩, FR5.out, fun x hx => ?_⟩
    · have h := own_base HO5.out (Nat.le_trans hB HHS.out)
      rw [HLT.out]; exact h
    · exact Nat.le_trans HHS.out (own_ge HO4.out x hx)
end
end Go.Proofs.YtbompgfjlllioaaDoor
