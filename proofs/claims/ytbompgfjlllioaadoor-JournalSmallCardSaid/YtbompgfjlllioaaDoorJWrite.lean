/- write: a line behind the bytes of a disk. -/
import Derived.Test.YtbompgfjlllioaaDoorJOwn
import Derived.Deep.DeepCutAuto
import Derived.Deep.RegionHeld3
import Derived.Lib.AppendStr
import Derived.Laws.MakeOwn
import Derived.Laws.OwnMore
import Derived.Deep.DeepMust
namespace Go.Proofs.YtbompgfjlllioaaDoor
open Go Go.RowKit

def byteV (c : UInt8) : Value := .int .u8 (c.toNat : Int)
theorem strCells_eq (s : ByteArray) : Lib.strCells s = s.data.toList.map byteV := rfl
theorem byte_one {l : List UInt8} : ∀ u ∈ l.map byteV, u.oneCell' = true := fun u hu => by
  obtain ⟨x, _, rfl⟩ := List.mem_map.1 hu
  rfl
/-- A new row of bytes, with room for K of them. -/
theorem own_made (W : World) (B K : Nat) (MC : Array Value) (hB : B ≤ W.heap.size) (hs : MC.size = K) (hK : K ≤ maxLen) : (W.alloc (.cells MC 5)).ownsRow B 5 1 (.slice (some ⟨W.heap.size, 0, none⟩) 0 K) 0 [] :=
  ⟨rfl, .inr ⟨W.heap.size, K, MC, rfl, hB, World.alloc_heap_new W _, Nat.zero_le _, hK, by rw [hs]; omega, rfl⟩⟩
theorem own_base {W : World} {B B' e size n : Nat} {v : Value} {xs : List Value} (h : W.ownsRow B' e size v n xs) (hB : B ≤ B') : W.ownsRow B e size v n xs :=
  ⟨h.1, h.2.elim .inl (fun ⟨g, cap, cur, h1, h2, r⟩ => .inr ⟨g, cap, cur, h1, Nat.le_trans hB h2, r⟩)⟩
theorem own_ge {W : World} {B e size n : Nat} {v : Value} {xs : List Value} (h : W.ownsRow B e size v n xs) (x : Nat) (hx : v.ownBlock = some x) : B ≤ x := by
  rcases h.2 with ⟨rfl, _⟩ | ⟨g, cap, cur, rfl, hb, _⟩
  · simp [Value.ownBlock] at hx
  · have : g = x := by simpa [Value.ownBlock] using hx
    omega
/-- A row of bytes that is owned: its bytes in the world. -/
theorem bs_of_own {W : World} {B g n cap : Nat} {l : List UInt8} (h : W.ownsRow B 5 1 (.slice (some ⟨g, 0, none⟩) n cap) n (l.map byteV)) : BS W g 0 l ∧ B ≤ g ∧ (∃ cur, W.heap[g]? = some (.cells cur 5 (0, 0))) ∧ l.length ≤ cap ∧ l.length = n := by
  have hl : l.length = n := by have := h.1; simpa using this
  rcases h.2 with ⟨h1, _⟩ | ⟨g', cap', cur, e, hb, hg, h1, h2, h3, h4⟩
  · cases h1
  · injection e with e1 _ e3
    have e1 := Option.some.inj e1
    injection e1 with e1 _ _
    subst e1
    subst e3
    refine ⟨fun i c hi => ?_, hb, ⟨cur, hg⟩, by omega, hl⟩
    rw [Nat.zero_add]
    have hj : (l.map byteV)[i]? = some (byteV c) := by rw [List.getElem?_map, hi]; rfl
    rw [← h4, List.getElem?_take] at hj
    split at hj
    · have hc : cur[i]? = some (byteV c) := by simpa using hj
      simp [World.cell?, hg, hc, byteV]
    · cases hj
theorem own_some {W : World} {B e size n : Nat} {v : Value} {xs : List Value} (h : W.ownsRow B e size v n xs) (hn : 0 < n) : ∃ g cap, v = .slice (some ⟨g, 0, none⟩) n cap ∧ B ≤ g ∧ n ≤ cap := by
  rcases h.2 with ⟨_, h0⟩ | ⟨g, cap, cur, rfl, hb, _, hc, _⟩
  · omega
  · exact ⟨g, cap, rfl, hb, hc⟩
theorem blk_grown {W W' : World} {B e size n : Nat} {v : Value} {xs : List Value} (hrow : W.ownsRow B e size v n xs) {p : Nat} {t : TypeId} {c : Array Value} (h : Blk W p t c) (hte : t ≠ e) (hg : W.grownBy W' v.ownBlock) : Blk W' p t c := by
  refine (hg.block p h.lt (fun e' => ?_)).trans h
  rcases hrow.2 with ⟨rfl, _⟩ | ⟨g, cap, cur, rfl, _, hgb, _⟩
  · simp [Value.ownBlock] at e'
  · obtain rfl : p = g := by simpa [Value.ownBlock] using e'
    have := (show W.heap[p]? = _ from h).symm.trans hgb
    simp at this
    exact hte this.2
/-- Where the row lies that append returns: in its block, or in a new one. -/
theorem append_where (w : World) (B : Nat) (ty : TypeId) (v : Value) (n : Nat) (xs : List Value) (hown : w.ownsRow B 5 1 v n xs) (s : ByteArray) (hs : 0 < s.size) (h63 : n + s.size ≤ maxLen) (hbytes : n + s.size ≤ 140737488355328) (v' : Value) (w' : World)
    (hr : (Builtin.append_ #[26, 9] ty #[v, .string s]).run Tryd.prog w = .ok v' w') (x : Nat) (hx : v'.ownBlock = some x) : v.ownBlock = some x ∨ w.heap.size ≤ x := by
  obtain ⟨i0, hi0, hz0, hz1, hz2⟩ := info_parts info_u8
  have hsmall : n + s.size ≤ 9223372036854775807 := by simp only [maxLen] at h63; omega
  have hxl : xs.length = n := by simpa using hown.1
  have hsame := hown
  rcases hown.2 with ⟨rfl, rfl⟩ | ⟨g, cap, cur, rfl, hbg, hg, hnc, hcm, hcs, htake⟩
  · have h1 := run_append_nil_string (P := Tryd.prog) w 26 9 ty 5 i0 (.int .u8 0) Tryd.underlying26 Tryd.underlying9 hi0 hz0 s (by omega) (by omega) (by rw [hz2]; omega)
    rw [h1] at hr
    injection hr with hv _
    rw [← hv] at hx
    have : w.heap.size = x := by simpa [Value.ownBlock] using hx
    exact .inr (by omega)
  · by_cases hroom : n + s.size ≤ cap
    · have h1 := Lib.run_append_room_string (P := Tryd.prog) w 26 9 ty 5 i0 Tryd.underlying26 Tryd.underlying9 hi0 hz1 g n cap cur hg s hroom (by have h9 : cur.size = cap := (by simpa using hcs); omega)
      rw [h1] at hr
      injection hr with hv _
      rw [← hv] at hx
      exact .inl hx
    · have holds : ∀ j u, xs[j]? = some u → w.cell? ((⟨g, 0, none⟩ : Addr).add j) = some u := hsame.cells (g := g) rfl
      have h1 := Lib.run_append_grow_string (P := Tryd.prog) w 26 9 ty 5 i0 (.int .u8 0) Tryd.underlying26 Tryd.underlying9 hi0 hz0 ⟨g, 0, none⟩ n cap xs (by rw [hz1]; simpa using hxl) holds s (by omega) (by omega) (by rw [hz2]; exact growslice_fits (by omega) (by omega))
      rw [h1] at hr
      injection hr with hv _
      rw [← hv] at hx
      have : w.heap.size = x := by simpa [Value.ownBlock] using hx
      exact .inr (by omega)
theorem wpList_str {ops : Array Oper} {rest : List Oper} {o : Oper} {a : Act} {Q : Exit → Act → World → Prop} (hgd : o.guard = none) (sl x : Operand)
    (ho : o.op = .call { callee := .builtin .append, args := #[sl, x], argTypes := #[26, 9] }) (w : World) (base : Nat)
    (v : Value) (n : Nat) (xs : List Value) (hs : a.eval sl = v) (hown : w.ownsRow base 5 1 v n xs) (s : ByteArray) (hx : a.eval x = .string s) (hpos : 0 < s.size)
    (h63 : n + s.size ≤ maxLen) (hbytes : n + s.size ≤ 140737488355328) (hbase : base ≤ w.heap.size)
    (h : ∀ v' w', w'.ownsRow base 5 1 v' (n + s.size) (xs ++ Lib.strCells s) → w.grownBy w' v.ownBlock → (∀ y, v'.ownBlock = some y → v.ownBlock = some y ∨ w.heap.size ≤ y) → wpList Tryd.prog ops Q rest (a.put o.dst v') w') : wpList Tryd.prog ops Q (o :: rest) a w := by
  obtain ⟨i0, hi0, hz0, hz1, hz2⟩ := info_parts info_u8
  refine wpList_plain hgd fun K hK => ?_
  obtain ⟨v', w', hr, h2, h3, h4⟩ := Lib.run_append_own_string (P := Tryd.prog) w base 26 9 o.type 5 i0 Tryd.underlying26 Tryd.underlying9 hi0 hz0 hz1 hz2 v n xs hown s h63 hbytes hbase
  unfold Oper.wp execOp
  simp only [ho, resolve, invoke, builtin, Sem.run_bind, Sem.run_pure, Result.andThen_ok, List.map_toArray, List.map_cons, List.map_nil, hs, hx, hr]
  exact hK _ _ (h v' w' h2 h3 (fun y hy => append_where w base o.type v n xs hown s hpos h63 hbytes v' w' hr y hy))
/-- What write leaves: the log's buffer, of which the disk has all but the spare room. -/
structure WR (w w' : World) (B lp dp : Nat) (rv : Value) (pow last size : Int) (closed : Bool) (L : List Nat) (bs : List UInt8) (g cap : Nat) : Prop where
  row : w'.ownsRow B 5 1 (.slice (some ⟨g, 0, none⟩) bs.length cap) bs.length (bs.map byteV)
  log : PL w' lp dp rv last size closed (.slice (some ⟨g, 0, none⟩) bs.length cap)
  disk : PD w' dp (.slice (some ⟨g, 0, none⟩) bs.length bs.length) pow
  frame : Fr L w w'
  block : g ∈ L ∨ w.heap.size ≤ g
/-- Between its two halves: the buffer has the disk's bytes. -/
structure WM (w w' : World) (B lp dp : Nat) (rv : Value) (pow last size : Int) (closed : Bool) (L : List Nat) (bs : List UInt8) (bv : Value) (dv : Value) : Prop where
  row : w'.ownsRow B 5 1 bv bs.length (bs.map byteV)
  log : PL w' lp dp rv last size closed bv
  disk : PD w' dp dv pow
  frame : Fr L w w'
  block : ∀ x, bv.ownBlock = some x → x ∈ L ∨ w.heap.size ≤ x
set_option maxRecDepth 100000 in
set_option maxHeartbeats 4000000 in
theorem write_any (B lp dp : Nat) (rv : Value) (pow last size : Int) (closed : Bool) (A : Option Addr) (n c : Nat) (A2 : Option Addr) (n2 c2 : Nat) (bs : List UInt8) (line : ByteArray) (hm : 0 < line.size) (hm2 : line.size ≤ 1000) (hbs : bs.length ≤ 2000000) (hn : bs.length = n)
    (w : World) (hd : PD w dp (.slice A n c) pow) (h : PL w lp dp rv last size closed (.slice A2 n2 c2)) (hB1 : B ≤ lp) (hdv : DV w B (.slice A n c) bs) (ob : Bool)
    (OW : Calls Tryd.prog 55 #[.pointer (some ⟨lp, 0, none⟩)] w (fun e w' => e = .returned (.bool ob) ∧ ∃ q, w' = w.drewN q))
    (hob : ob = true → w.ownsRow B 5 1 (.slice A2 n2 c2) bs.length (bs.map byteV)) (L : List Nat) (hL1 : lp ∈ L) (hL2 : dp ∈ L) (hL3 : ∀ x, (Value.slice A2 n2 c2).ownBlock = some x → x ∈ L) :
    Calls Tryd.prog 36 #[.pointer (some ⟨lp, 0, none⟩), .string line] w (fun e w' => (∃ v, e = .returned v) ∧ ∃ g cap, WR w w' B lp dp rv pow last size closed L (bs ++ line.data.toList) g cap) := by
  have OW := Lib.hid OW
  have HMP := Lib.hid hm
  have t1' : ¬ line.toList = [] := fun h => by
    rw [ByteArray.toList_eq] at h
    have h3 := str_len line
    rw [h] at h3
    simp at h3
    omega
  have t1 : line.toList.isEmpty = false := by simpa using t1'
  have H := Lib.hid h
  have HD := Lib.hid hd
  have HDV := Lib.hid hdv
  have HOB := Lib.hid hob
  have HL3 := Lib.hid hL3
  clear h hd hdv hob hL3
  go_enter Tryd.func36, Tryd.ntmps36
  go_wp2_with fail
  refine OW.out.mono ?_
  rintro e w1 ⟨rfl, q, rfl⟩
  clear OW
  go_upto_if 8 with fail
  go_cut [0] (fun s0 wx => s0 = .pointer (some ⟨lp, 0, none⟩) ∧ ∃ bv, WM w wx B lp dp rv pow last size closed L bs bv (.slice A n c))
  case first =>
    rcases ob with _ | _
    · go_upto_region 2 with fail
      have hb9 : Below w.heap.size w (w.drewN q) := below_drewN (Below.refl _ _) _
      have h := Blk.keep H.out hb9 H.out.lt
      have hd := Blk.keep HD.out hb9 HD.out.lt
      have hdv := HDV.out.keep hb9
      have HFR : Hid (Fr L w (w.drewN q)) := Lib.hid (Fr.of_below hb9 _)
      have hsz9 := Lib.hid (show (w.drewN q).heap.size = w.heap.size from rfl)
      generalize w.drewN q = W3 at *
      have c0 := PL.c0 h
      have c5 := PL.c5 h
      have f5 := Blk.free h 5
      have d0 := hd.cell (j := 0) (v := .slice A n c) rfl
      have H3 := Lib.hid h
      have HD3 := Lib.hid hd
      obtain ⟨i0, hi0, hz0, hz1, hz2⟩ := info_parts info_u8
      obtain ⟨m, hm⟩ : ∃ m, line.size = m := ⟨_, rfl⟩
      have HMM := Lib.hid hm
      rw [hm] at hm2
      obtain ⟨K, hK⟩ : ∃ K, 2 * n + m = K := ⟨_, rfl⟩
      obtain ⟨MC, hMC⟩ : ∃ MC, madeCells (Value.int .u8 0).cells (K * 1) = MC := ⟨_, rfl⟩
      have hMS : MC.size = K := by rw [← hMC]; simp [madeCells, Value.cells]
      have MK : ∀ W, (Instr.makeSlice 26 (.int .i64 0) (.int .i64 (K : Int))).run Tryd.prog W = .ok (.slice (some ⟨W.heap.size, 0, none⟩) 0 K) (W.alloc (.cells MC 5)) := fun W => by
        have := run_makeSlice (P := Tryd.prog) W 26 5 i0 (.int .u8 0) Tryd.underlying26 hi0 hz0 .i64 .i64 0 (K : Int) (by omega) (by omega) (by rw [hz1]; simp; omega) (by rw [hz2]; omega) (by omega)
        rw [this, hz1, Int.toNat_natCast, hMC]
        rfl
      have w1 : IntKind.i64.wrap (2 * (n : Int)) = 2 * (n : Int) := IntWalk.i64_in _ (by omega)
      have w2 : IntKind.i64.wrap (2 * (n : Int) + (m : Int)) = (K : Int) := by
        rw [show 2 * (n : Int) + (m : Int) = (K : Int) by omega]
        exact IntWalk.i64_in _ (by omega)
      have SOF := Lib.hid (fun (wx : World) (hb : Below W3.heap.size W3 wx) => (⟨keepW hb c0, keepW hb d0⟩ : wx.cell? ⟨lp, 0, none⟩ = some (.pointer (some ⟨dp, 0, none⟩)) ∧ wx.cell? ⟨dp, 0, none⟩ = some (.slice A n c)))
      have SO5 := Lib.hid (fun (wx : World) (hb : Below W3.heap.size W3 wx) => (⟨keepW hb c5, by unfold World.frozen? at f5 ⊢; rw [hb.block lp (Blk.lt h)]; exact f5⟩ : wx.cell? ⟨lp, 5, none⟩ = some (.slice A2 n2 c2) ∧ wx.frozen? ⟨lp, 5, none⟩ = false))
      have hldp : lp ≠ dp := fun e => by
        have h1 : W3.heap[lp]? = _ := h
        have h2 : W3.heap[dp]? = _ := hd
        rw [e] at h1
        have := h1.symm.trans h2
        simp at this
      have HLD := Lib.hid hldp
      have SOL := Lib.hid (fun (wx : World) (hb : Below W3.heap.size W3 wx) (v : Value) => (⟨(World.cell?_setCell_other wx ⟨lp, 5, none⟩ ⟨lp, 0, none⟩ v (fun e => by injection e with _ e _; cases e)).trans (keepW hb c0), (World.cell?_setCell_other wx ⟨lp, 5, none⟩ ⟨dp, 0, none⟩ v (fun e => hldp (by injection e with e _ _))).trans (keepW hb d0)⟩ : (wx.setCell ⟨lp, 5, none⟩ v).cell? ⟨lp, 0, none⟩ = some (.pointer (some ⟨dp, 0, none⟩)) ∧ (wx.setCell ⟨lp, 5, none⟩ v).cell? ⟨dp, 0, none⟩ = some (.slice A n c)))
      have HS := Lib.hid hMS
      cases hdv with
      | none_ =>
        obtain rfl : K = m := by omega
        have w3 : IntKind.i64.wrap (K : Int) = (K : Int) := IntWalk.i64_in _ (by omega)
        have w5 : IntKind.i64.wrap 0 = 0 := by decide
        have w4 : IntKind.i64.wrap (0 + (K : Int)) = (K : Int) := by rw [Int.zero_add]; exact w3
        have hBS : B ≤ W3.heap.size := by have := Blk.lt h; omega
        have hKM : K ≤ maxLen := by unfold maxLen; omega
        have RN : ∀ W, W.ownsRow W3.heap.size 5 1 (.slice (some ⟨W3.heap.size, 0, none⟩) 0 K) 0 [] → (Builtin.append_ #[26, 26] 26 #[.slice (some ⟨W3.heap.size, 0, none⟩) 0 K, .slice none 0 0]).run Tryd.prog W = .ok (.slice (some ⟨W3.heap.size, 0, none⟩) 0 K) W := fun W hW =>
          run_append_owned_none W W3.heap.size 26 26 5 i0 1 Tryd.underlying26 hi0 _ 0 [] hW
        have RN1 := RN _ (own_made W3 W3.heap.size K MC (Nat.le_refl _) hMS hKM)
        have RN2 : (Builtin.append_ #[26, 26] 26 #[.slice (some ⟨W3.heap.size, 0, none⟩) 0 K, .slice none 0 0]).run Tryd.prog (W3.alloc (.cells MC 5)).drew = .ok (.slice (some ⟨W3.heap.size, 0, none⟩) 0 K) (W3.alloc (.cells MC 5)).drew := RN _ (own_made W3 W3.heap.size K MC (Nat.le_refl _) hMS hKM)
        have k5 := keepW (below1 W3 (.cells MC 5)) c5
        have y5 : (W3.alloc (.cells MC 5)).frozen? ⟨lp, 5, none⟩ = false := (SO5.out _ (below1 _ _)).2
        have hown' := Lib.hid (own_made W3 W3.heap.size K MC (Nat.le_refl _) hMS hKM)
        have hB4 := below1 W3 (.cells MC 5)
        clear c0 c5 d0 f5 h hd hMC hK hMS hldp RN
        go_region_held3 (fun wx => wx.cell? ⟨lp, 0, none⟩ = some (.pointer (some ⟨dp, 0, none⟩)) ∧ wx.cell? ⟨dp, 0, none⟩ = some (.slice none 0 0))
          (first | exact SOF.out _ (Below.refl _ _) | exact SOF.out _ (Below.drew (Below.refl _ _)) | exact SOF.out _ (below1 _ _) | exact SOF.out _ (Below.drew (below1 _ _)) | exact SOL.out _ hB4 _ | exact SOL.out _ hB4.drew _)
          (fail)
        all_goals
          have h4 := Blk.keep H3.out hB4.drew H3.out.lt
          have hd4 := Blk.keep HD3.out hB4.drew HD3.out.lt
          have HWM : Hid (WM w ((W3.alloc (.cells MC 5)).drew.setCell ⟨lp, 5, none⟩ (.slice (some ⟨W3.heap.size, 0, none⟩) 0 K)) B lp dp rv pow last size closed L [] (.slice (some ⟨W3.heap.size, 0, none⟩) 0 K) (.slice none 0 0)) := Lib.hid (by
            have ho : (W3.alloc (.cells MC 5)).drew.ownsRow B 5 1 (.slice (some ⟨W3.heap.size, 0, none⟩) 0 K) 0 [] := own_base hown'.out hBS
            have ho2 := own_other ho h4 (by decide) 5 (.slice (some ⟨W3.heap.size, 0, none⟩) 0 K)
            exact ⟨ho2, h4.set 5 _, hd4.other (fun e => HLD.out e.symm) _ _, ((HFR.out.trans (Fr.of_below hB4.drew L)).set hL1 5 _), fun x hx => .inr (by rw [← hsz9.out]; exact own_ge hown'.out x hx)⟩)
          clear h4 hd4 k5 y5
          go_wp2
          go_meet
          exact ⟨rfl, _, HWM.out⟩
      | some_ g cap l cur hcap hB hg hc =>
        have hgl := (Array.getElem?_eq_some_iff.1 hg).1
        have hBS : B ≤ W3.heap.size := by omega
        have hKM : K ≤ maxLen := by unfold maxLen; omega
        have hNM : 0 + bs.length ≤ maxLen := by unfold maxLen; omega
        have hNB : (0 + bs.length) * 1 ≤ 140737488355328 := by omega
        have HCC : Hid (∀ j u, (bs.map byteV)[j]? = some u → (W3.alloc (.cells MC 5)).cell? ((⟨g, 0, none⟩ : Addr).add j) = some u) := Lib.hid (fun j u hj => by
          rw [List.getElem?_map] at hj
          rcases hx : bs[j]? with _ | x
          · rw [hx] at hj; cases hj
          · rw [hx] at hj
            obtain rfl := Option.some.inj hj
            rw [add_at]
            exact keepW (below1 _ _) (hc j x hx))
        have HOD : Hid ((W3.alloc (.cells MC 5)).drew.ownsRow W3.heap.size 5 1 (.slice (some ⟨W3.heap.size, 0, none⟩) 0 K) 0 []) := Lib.hid (own_made W3 W3.heap.size K MC (Nat.le_refl _) HS.out hKM)
        clear c0 c5 d0 f5 h hd hMC hK hMS hc hg hldp
        go_region_held3 (fun wx => wx.cell? ⟨lp, 0, none⟩ = some (.pointer (some ⟨dp, 0, none⟩)) ∧ wx.cell? ⟨dp, 0, none⟩ = some (.slice (some ⟨g, 0, none⟩) bs.length c))
          (first | exact SOF.out _ (Below.refl _ _) | exact SOF.out _ (Below.drew (Below.refl _ _)) | exact SOF.out _ (below1 _ _) | exact SOF.out _ (Below.drew (below1 _ _)) | exact SOF.out _ hB4 | exact SOL.out _ hB4 _ | exact SOF.out _ hB4.drew | exact SOL.out _ hB4.drew _)
          (go_must (refine wp_append_own _ (.tmp 22) (.tmp 29) 26 rfl W3.heap.size 5 i0 (.int .u8 0) 1 1 Tryd.underlying26 hi0 hz0 hz1 hz2 rfl (by decide) (.slice (some ⟨W3.heap.size, 0, none⟩) 0 K) 0 [] rfl (by first | exact own_made W3 W3.heap.size K MC (Nat.le_refl _) HS.out hKM | exact HOD.out) ⟨g, 0, none⟩ bs.length c (bs.map byteV) rfl (by simp) HCC.out byte_one hNM hNB (by simp) ?_; intro v' w4 hown' hgrow _; obtain ⟨A5, c6, rfl⟩ := own_slice hown'; have hB4 : Below W3.heap.size W3 w4 := (below1 W3 (.cells MC 5)).drew.grown hgrow (by simp) (fun k e => by simp [Value.ownBlock] at e; omega); obtain ⟨k5, y5⟩ := SO5.out _ hB4))
        all_goals
          have HO5 := Lib.hid hown'
          have h4 := Blk.keep H3.out hB4 H3.out.lt
          have hd4 := Blk.keep HD3.out hB4 HD3.out.lt
          have HWM : Hid (WM w (w4.setCell ⟨lp, 5, none⟩ (.slice A5 bs.length c6)) B lp dp rv pow last size closed L bs (.slice A5 bs.length c6) (.slice (some ⟨g, 0, none⟩) bs.length c)) := Lib.hid (by
            have ho := own_other (own_base HO5.out hBS) h4 (by decide) 5 (.slice A5 bs.length c6)
            refine ⟨?_, h4.set 5 _, hd4.other (fun e => HLD.out e.symm) _ _, ((HFR.out.trans (Fr.of_below hB4 L)).set hL1 5 _), fun x hx => .inr ?_⟩
            · simpa using ho
            · have := own_ge HO5.out x (by rw [Nat.zero_add]; exact hx)
              rw [← hsz9.out]; exact this)
          clear h4 hd4 hown' hgrow k5 y5
          go_wp2
          go_meet
          exact ⟨rfl, _, HWM.out⟩
    · go_wp2
      go_meet
      exact ⟨rfl, _, HOB.out (by simp), H.out, HD.out, Fr.of_below (below_drewN (Below.refl _ _) _) _, fun x hx => .inl (HL3.out x hx)⟩
  case rest =>
  obtain ⟨rfl, bv, hm⟩ := hcut
  subst hn
  have HM := Lib.hid hm
  clear hm
  have HM0 : Hid (0 < line.size) := HMP
  obtain ⟨A3, c3, rfl⟩ := own_slice HM.out.row
  have c0 := PL.c0 HM.out.log
  have c5 := PL.c5 HM.out.log
  obtain ⟨i0, hi0, hz0, hz1, hz2⟩ := info_parts info_u8
  obtain ⟨m, hmm⟩ : ∃ m, line.size = m := ⟨_, rfl⟩
  have HMM := Lib.hid hmm
  have hBS : B ≤ wc.heap.size := by have := Blk.lt HM.out.log; omega
  have hNM : bs.length + line.size ≤ maxLen := by unfold maxLen; omega
  have hNB : bs.length + line.size ≤ 140737488355328 := by omega
  have hldp : lp ≠ dp := fun e => by
    have h1 : wc.heap[lp]? = _ := HM.out.log
    have h2 : wc.heap[dp]? = _ := HM.out.disk
    rw [e] at h1
    have := h1.symm.trans h2
    simp at this
  have HLD := Lib.hid hldp
  have hpos : 0 < bs.length + line.size := by omega
  have HPOS := Lib.hid hpos
  rw [hmm] at hm2
  clear H HD HDV HOB hmm hpos hldp
  go_upto_region 4 with (at_builtin; refine wpList_str rfl (.tmp 37) (.tmp 38) rfl _ B (.slice A3 bs.length c3) bs.length _ rfl HM.out.row line rfl HM0.out hNM hNB hBS ?_; intro v' w4 hown' hgrow hwh; obtain ⟨g', cap', rfl, hg1, hg2⟩ := own_some hown' HPOS.out; have k5 := PL.c5 (blk_grown HM.out.row HM.out.log (by decide) hgrow); have y5 := Blk.free (blk_grown HM.out.row HM.out.log (by decide) hgrow) 5)
  have hl4 := blk_grown HM.out.row HM.out.log (by decide) hgrow
  have hd4 := blk_grown HM.out.row HM.out.disk (by decide) hgrow
  have HR5 := Lib.hid (own_other hown' hl4 (by decide) 5 (.slice (some ⟨g', 0, none⟩) (bs.length + line.size) cap'))
  have hl5 := hl4.set 5 (.slice (some ⟨g', 0, none⟩) (bs.length + line.size) cap')
  have hd5 := hd4.other (fun e => HLD.out e.symm) 5 (.slice (some ⟨g', 0, none⟩) (bs.length + line.size) cap')
  have hgb : g' ∈ L ∨ w.heap.size ≤ g' := by
    rcases hwh g' rfl with h1 | h1
    · exact HM.out.block g' h1
    · have := HM.out.frame.size; omega
  have HGB := Lib.hid hgb
  have HF5 : Hid (Fr L w (w4.setCell ⟨lp, 5, none⟩ (.slice (some ⟨g', 0, none⟩) (bs.length + line.size) cap'))) := Lib.hid (Fr.set ⟨hgrow.os.trans HM.out.frame.os, hgrow.tape.trans HM.out.frame.tape, hgrow.output.trans HM.out.frame.output, Nat.le_trans HM.out.frame.size hgrow.size, fun k hk hn => (hgrow.block k (Nat.lt_of_lt_of_le hk HM.out.frame.size) (fun e => by rcases HM.out.block k e.symm with h1 | h1; exact hn h1; omega)).trans (HM.out.frame.block k hk hn)⟩ hL1 5 _)
  clear k5 y5 hl4 hd4 hown' hgrow c0 c5 hwh hgb
  generalize w4.setCell ⟨lp, 5, none⟩ (.slice (some ⟨g', 0, none⟩) (bs.length + line.size) cap') = W5 at *
  have HL5 : Hid (PL W5 lp dp rv last size closed (.slice (some ⟨g', 0, none⟩) (bs.length + line.size) cap')) := Lib.hid hl5
  have HD5 : Hid (PD W5 dp (.slice A bs.length c) pow) := Lib.hid hd5
  have c0 := PL.c0 HL5.out
  have c5 := PL.c5 HL5.out
  have d0 := HD5.out.cell (j := 0) (v := .slice A bs.length c) rfl
  have e0 := HD5.out.free 0
  have i1 : ((bs.length : Int) + (line.size : Int)) ≤ (cap' : Int) := by omega
  have i2 : bs.length + line.size ≤ cap' := hg2
  have i3 : (0 : Int) ≤ (bs.length : Int) + (line.size : Int) := by omega
  have i4 : ((bs.length : Int) + (line.size : Int)) ≤ ((bs.length : Int) + (line.size : Int)) := Int.le_refl _
  have SOF := Lib.hid (fun (wx : World) (hb : Below W5.heap.size W5 wx) => (⟨keepW hb c0, keepW hb c5⟩ : wx.cell? ⟨lp, 0, none⟩ = some (.pointer (some ⟨dp, 0, none⟩)) ∧ wx.cell? ⟨lp, 5, none⟩ = some (.slice (some ⟨g', 0, none⟩) (bs.length + line.size) cap')))
  have SOL := Lib.hid (fun (wx : World) (hb : Below W5.heap.size W5 wx) (v : Value) => (⟨(World.cell?_setCell_other wx ⟨dp, 0, none⟩ ⟨lp, 0, none⟩ v (fun e => HLD.out (by injection e with e _ _; exact e.symm))).trans (keepW hb c0), (World.cell?_setCell_other wx ⟨dp, 0, none⟩ ⟨lp, 5, none⟩ v (fun e => HLD.out (by injection e with e _ _; exact e.symm))).trans (keepW hb c5)⟩ : (wx.setCell ⟨dp, 0, none⟩ v).cell? ⟨lp, 0, none⟩ = some (.pointer (some ⟨dp, 0, none⟩)) ∧ (wx.setCell ⟨dp, 0, none⟩ v).cell? ⟨lp, 5, none⟩ = some (.slice (some ⟨g', 0, none⟩) (bs.length + line.size) cap')))
  clear c0 c5 hl5 hd5
  go_region_held3 (fun wx => wx.cell? ⟨lp, 0, none⟩ = some (.pointer (some ⟨dp, 0, none⟩)) ∧ wx.cell? ⟨lp, 5, none⟩ = some (.slice (some ⟨g', 0, none⟩) (bs.length + line.size) cap'))
    (first | exact SOF.out _ (Below.refl _ _) | exact SOF.out _ (Below.drew (Below.refl _ _)) | exact SOL.out _ (Below.refl _ _) _ | exact SOL.out _ (Below.drew (Below.refl _ _)) _)
    (fail)
  all_goals
    have hl6 := HL5.out.other (fun e => HLD.out e) 0 (.slice (some ⟨g', 0, none⟩) (bs.length + line.size) (bs.length + line.size))
    have hd6 := HD5.out.set 0 (.slice (some ⟨g', 0, none⟩) (bs.length + line.size) (bs.length + line.size))
    have hr6 := own_other HR5.out HD5.out (by decide) 0 (.slice (some ⟨g', 0, none⟩) (bs.length + line.size) (bs.length + line.size))
    have HWR : Hid (WR w (W5.setCell ⟨dp, 0, none⟩ (.slice (some ⟨g', 0, none⟩) (bs.length + line.size) (bs.length + line.size))).drew B lp dp rv pow last size closed L (bs ++ line.data.toList) g' cap') := Lib.hid (by
      have e : (bs ++ line.data.toList).length = bs.length + line.size := by rw [List.length_append, str_len]
      refine ⟨?_, ?_, ?_, (HF5.out.set hL2 0 _).trans (Fr.of_below (Below.refl _ _).drew L), HGB.out⟩
      · rw [e, List.map_append, ← strCells_eq]; exact hr6
      · rw [e]; exact hl6
      · rw [e]; exact hd6)
    clear hl6 hd6 hr6
    go_wp2
    refine bodyPost_end (results_none rfl _ _ _) rfl ?_
    exact ⟨⟨_, rfl⟩, _, _, HWR.out⟩
end Go.Proofs.YtbompgfjlllioaaDoor
