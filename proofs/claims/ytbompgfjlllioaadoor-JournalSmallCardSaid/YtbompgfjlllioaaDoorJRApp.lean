/- The reference's Append: byte by byte. -/
import Derived.Test.YtbompgfjlllioaaDoorJROpen
namespace Go.Proofs.YtbompgfjlllioaaDoor
open Go Go.RowKit

/-- append(out, b...) inside a region that draws its order; where the new slice lies. -/
theorem step_bv_at {ops : Array Oper} {o : Oper} {a : Act} {K : Act → World → Prop} {Q : Exit → Act → World → Prop} {E : Prop} (hgd : o.guard = none) (sl x : Operand)
    (ho : o.op = .call { callee := .builtin .append, args := #[sl, x], argTypes := #[26, 26] }) (w : World) (base : Nat) (v : Value) (n : Nat) (l : List UInt8) (hs : a.eval sl = v) (hown : w.ownsRow base 5 1 v n (l.map byteV))
    (b off m c : Nat) (l2 : List UInt8) (hm : l2.length = m) (hx : a.eval x = .slice (some ⟨b, off, none⟩) m c) (hR : BS w b off l2) (hlen : n + m ≤ 100000000) (hbase : base ≤ w.heap.size)
    (h : ∀ v' w', w'.ownsRow base 5 1 v' (n + m) ((l ++ l2).map byteV) → w.grownBy w' v.ownBlock → (v'.ownBlock = v.ownBlock ∨ v'.ownBlock = some w.heap.size) → K (a.put o.dst v') w') :
    if Region.wanted o (yielded ops a.tmps) = true then Oper.wp Tryd.prog o a w K Q else E := by
  obtain ⟨i0, hi0, hz0, hz1, hz2⟩ := info_parts info_u8
  have hw : Region.wanted o (yielded ops a.tmps) = true := by simp [Region.wanted, hgd]
  rw [if_pos hw]
  subst hm
  obtain ⟨v', w', hr, h2, h3, h4, h5⟩ := run_append_own_at (P := Tryd.prog) w base 26 o.type 5 i0 (.int .u8 0) 1 1 Tryd.underlying26 hi0 hz0 hz1 hz2 rfl (by decide) v n (l.map byteV) hown ⟨b, off, none⟩ l2.length c (l2.map byteV) (by simp) (cells_of_bs hR) byte_one (by unfold maxLen; omega) (by omega) hbase
  unfold Oper.wp execOp
  simp only [ho, resolve, invoke, builtin, Sem.run_bind, Sem.run_pure, Result.andThen_ok, List.map_toArray, List.map_cons, List.map_nil, hs, hx, hr]
  rw [← List.map_append] at h2
  exact h v' w' h2 h3 h5
/-- A log of the reference. -/
structure RL (w : World) (B yp : Nat) (yv : Value) (recs : List (List UInt8)) (last size : Int) (closed : Bool) : Prop where
  log : Blk w yp 73 #[yv, .int .i64 last, .int .i64 size, .bool closed]
  row : w.ownsRow B 9 1 yv recs.length (recs.map strV)
theorem RL.keep {w w' : World} {B yp : Nat} {yv : Value} {recs : List (List UInt8)} {last size : Int} {closed : Bool} (h : RL w B yp yv recs last size closed) (hb : Below w.heap.size w w') : RL w' B yp yv recs last size closed := ⟨h.log.keep hb h.log.lt, own_keep h.row hb⟩
/-- The blocks of the reference. -/
def OR (rp yp : Nat) (rb yv : Value) : List Nat := rp :: yp :: (rb.ownBlock.toList ++ yv.ownBlock.toList)
/-- The reference's disk and log while Append goes on. -/
structure RA (w wr : World) (B rp yp : Nat) (rb0 yv0 rb yv : Value) (pow : Int) (bs : List UInt8) (recs : List (List UInt8)) (last size : Int) (closed : Bool) : Prop where
  rd : RD wr B rp rb pow bs
  rl : RL wr B yp yv recs last size closed
  fr : Fr (OR rp yp rb0 yv0) w wr
  rbb : ∀ x, rb.ownBlock = some x → rb0.ownBlock = some x ∨ w.heap.size ≤ x
  yvb : ∀ x, yv.ownBlock = some x → yv0.ownBlock = some x ∨ w.heap.size ≤ x
  base : B ≤ w.heap.size
section
variable {w wr : World} {B rp yp : Nat} {rb0 yv0 rb yv : Value} {pow : Int} {bs : List UInt8} {recs : List (List UInt8)} {last size : Int} {closed : Bool}
theorem RA.start (h : RD w B rp rb pow bs) (k : RL w B yp yv recs last size closed) (hB : B ≤ w.heap.size) : RA w w B rp yp rb yv rb yv pow bs recs last size closed := ⟨h, k, Fr.refl _ _, fun _ hx => .inl hx, fun _ hx => .inl hx, hB⟩
theorem RA.keep {w' : World} (h : RA w wr B rp yp rb0 yv0 rb yv pow bs recs last size closed) (hb : Below wr.heap.size wr w') : RA w w' B rp yp rb0 yv0 rb yv pow bs recs last size closed :=
  ⟨h.rd.keep hb, h.rl.keep hb, h.fr.trans (Fr.of_below hb _), h.rbb, h.yvb, h.base⟩
theorem RA.ne (h : RA w wr B rp yp rb0 yv0 rb yv pow bs recs last size closed) : rp ≠ yp := fun e => by
  have h1 := h.rd.disk
  rw [e] at h1
  have h2 := (show wr.heap[yp]? = _ from h1).symm.trans h.rl.log
  simp at h2
theorem RA.setPow (h : RA w wr B rp yp rb0 yv0 rb yv pow bs recs last size closed) (p' : Int) : RA w (wr.setCell ⟨rp, 1, none⟩ (.int .i64 p')) B rp yp rb0 yv0 rb yv p' bs recs last size closed :=
  ⟨⟨h.rd.disk.set 1 _, own_other h.rd.row h.rd.disk (by decide) 1 _⟩, ⟨h.rl.log.other h.ne.symm 1 _, own_other h.rl.row h.rd.disk (by decide) 1 _⟩, h.fr.set (by simp [OR]) 1 _, h.rbb, h.yvb, h.base⟩
theorem RA.setClosed (h : RA w wr B rp yp rb0 yv0 rb yv pow bs recs last size closed) (b : Bool) : RA w (wr.setCell ⟨yp, 3, none⟩ (.bool b)) B rp yp rb0 yv0 rb yv pow bs recs last size b :=
  ⟨⟨h.rd.disk.other h.ne 3 _, own_other h.rd.row h.rl.log (by decide) 3 _⟩, ⟨h.rl.log.set 3 _, own_other h.rl.row h.rl.log (by decide) 3 _⟩, h.fr.set (by simp [OR]) 3 _, h.rbb, h.yvb, h.base⟩
theorem RA.setLast (h : RA w wr B rp yp rb0 yv0 rb yv pow bs recs last size closed) (n : Int) : RA w (wr.setCell ⟨yp, 1, none⟩ (.int .i64 n)) B rp yp rb0 yv0 rb yv pow bs recs n size closed :=
  ⟨⟨h.rd.disk.other h.ne 1 _, own_other h.rd.row h.rl.log (by decide) 1 _⟩, ⟨h.rl.log.set 1 _, own_other h.rl.row h.rl.log (by decide) 1 _⟩, h.fr.set (by simp [OR]) 1 _, h.rbb, h.yvb, h.base⟩
theorem RA.setSize (h : RA w wr B rp yp rb0 yv0 rb yv pow bs recs last size closed) (n : Int) : RA w (wr.setCell ⟨yp, 2, none⟩ (.int .i64 n)) B rp yp rb0 yv0 rb yv pow bs recs last n closed :=
  ⟨⟨h.rd.disk.other h.ne 2 _, own_other h.rd.row h.rl.log (by decide) 2 _⟩, ⟨h.rl.log.set 2 _, own_other h.rl.row h.rl.log (by decide) 2 _⟩, h.fr.set (by simp [OR]) 2 _, h.rbb, h.yvb, h.base⟩
/-- A byte more. -/
theorem RA.grow {W1 w3 : World} {v' : Value} {c : UInt8} (h : RA w wr B rp yp rb0 yv0 rb yv pow bs recs last size closed) (hb : Below wr.heap.size wr W1) (hown : w3.ownsRow B 5 1 v' (bs.length + 1) ((bs ++ [c]).map byteV)) (hg : W1.grownBy w3 rb.ownBlock) (hat : v'.ownBlock = rb.ownBlock ∨ v'.ownBlock = some W1.heap.size) :
    Blk w3 rp 79 #[rb, .int .i64 pow] ∧ RA w (w3.setCell ⟨rp, 0, none⟩ v') B rp yp rb0 yv0 v' yv pow (bs ++ [c]) recs last size closed := by
  have h1 := h.keep hb
  have hne := h.ne
  have k1 := blk_grown h1.rd.row h1.rd.disk (by decide) hg
  have k2 := blk_grown h1.rd.row h1.rl.log (by decide) hg
  have k3 := own_apart h1.rl.row h1.rd.row (by decide) hg
  refine ⟨k1, ⟨k1.set 0 v', ?_⟩, ⟨k2.other hne.symm 0 v', own_other k3 k1 (by decide) 0 v'⟩, ?_, fun x hx => ?_, h.yvb, h.base⟩
  · have := own_other hown k1 (by decide) 0 v'
    rw [List.length_append]; exact this
  · refine Fr.set (Fr.trans2 h1.fr (Fr.of_grown hg (L := rb.ownBlock.toList) (fun x e => by rw [e]; simp)) (fun x hx => ?_)) (by simp [OR]) 0 v'
    have hx' : rb.ownBlock = some x := by simpa using hx
    rcases h.rbb x hx' with e | e
    · left; simp [OR, e]
    · exact .inr e
  · rcases hat with e | e
    · exact h.rbb x (e ▸ hx)
    · right
      rw [hx] at e
      have e := Option.some.inj e
      have := h1.fr.size
      omega
/-- A record more. -/
theorem RA.addRec {W1 w3 : World} {v' : Value} {T : List UInt8} (h : RA w wr B rp yp rb0 yv0 rb yv pow bs recs last size closed) (hb : Below wr.heap.size wr W1) (hown : w3.ownsRow B 9 1 v' (recs.length + 1) (recs.map strV ++ [strV T])) (hg : W1.grownBy w3 yv.ownBlock) (hat : v'.ownBlock = yv.ownBlock ∨ ∀ x, v'.ownBlock = some x → W1.heap.size ≤ x) :
    Blk w3 yp 73 #[yv, .int .i64 last, .int .i64 size, .bool closed] ∧ RA w (w3.setCell ⟨yp, 0, none⟩ v') B rp yp rb0 yv0 rb v' pow bs (recs ++ [T]) last size closed := by
  have h1 := h.keep hb
  have hne := h.ne
  have k1 := blk_grown h1.rl.row h1.rl.log (by decide) hg
  have k2 := blk_grown h1.rl.row h1.rd.disk (by decide) hg
  have k3 := own_apart h1.rd.row h1.rl.row (by decide) hg
  refine ⟨k1, ⟨k2.other hne 0 v', own_other k3 k1 (by decide) 0 v'⟩, ⟨k1.set 0 v', ?_⟩, ?_, h.rbb, fun x hx => ?_, h.base⟩
  · have := own_other hown k1 (by decide) 0 v'
    rw [List.length_append, List.map_append]; exact this
  · refine Fr.set (Fr.trans2 h1.fr (Fr.of_grown hg (L := yv.ownBlock.toList) (fun x e => by rw [e]; simp)) (fun x hx => ?_)) (by simp [OR]) 0 v'
    have hx' : yv.ownBlock = some x := by simpa using hx
    rcases h.yvb x hx' with e | e
    · left; simp [OR, e]
    · exact .inr e
  · rcases hat with e | e
    · exact h.yvb x (e ▸ hx)
    · exact .inr (Nat.le_trans h1.fr.size (e x hx))
end
section
variable {w : World} {B rp yp : Nat} {rb yv : Value} {pow : Int} {bs : List UInt8} {recs : List (List UInt8)} {last : Nat} {size : Int}
set_option maxRecDepth 100000 in
theorem rappend_closed (h : RL w B yp yv recs (last : Nat) size true) (s : ByteArray) :
    Calls Tryd.prog 42 #[.pointer (some ⟨rp, 0, none⟩), .pointer (some ⟨yp, 0, none⟩), .string s] w (fun e w' => e = .returned (.int .i64 423) ∧ w = w') := by
  have c3 := h.log.cell (j := 3) (v := .bool true) rfl
  clear h
  go_enter Tryd.func42, Tryd.ntmps42
  go_wp2
  go_ret
  exact ⟨rfl, rfl⟩
set_option maxRecDepth 100000 in
theorem rappend_text (h : RL w B yp yv recs (last : Nat) size false) (s : ByteArray) (hs : s.size ≤ 2000000) (hr : rightL s.data.toList = false) :
    Calls Tryd.prog 42 #[.pointer (some ⟨rp, 0, none⟩), .pointer (some ⟨yp, 0, none⟩), .string s] w (fun e w' => e = .returned (.int .i64 422) ∧ w = w') := by
  have c3 := h.log.cell (j := 3) (v := .bool false) rfl
  have RC := Lib.hid (record_any s hs w)
  rw [hr] at RC
  clear h hr
  go_enter Tryd.func42, Tryd.ntmps42
  go_wp2_with fail
  refine RC.out.mono ?_
  rintro e w1 ⟨rfl, rfl⟩
  go_wp2
  go_ret
  exact ⟨rfl, rfl⟩
theorem bs_new (W : World) (c : UInt8) : BS (W.alloc (.cells #[.int .u8 (c.toNat : Int)] 5)) W.heap.size 0 [c] := fun i x hi => by
  match i, hi with
  | 0, hi =>
    obtain rfl : c = x := by simpa using hi
    exact cell_one_new W (.int .u8 (c.toNat : Int)) 5 0 _ rfl
  | i + 1, hi => simp at hi
/-- The power behind k bytes. -/
def powK (pow : Int) (k : Nat) : Int := if 0 ≤ pow then pow - (k : Nat) else pow
/-- What Append leaves. -/
def RetRA (w : World) (B rp yp : Nat) (rb yv : Value) (pow : Int) (bs : List UInt8) (recs : List (List UInt8)) (last : Nat) (size : Int) (s : ByteArray) (e : Ending) (w' : World) : Prop :=
  (wrP pow (s.size + 6) < s.size + 6 → e = .returned (.int .i64 420) ∧ ∃ rb', RA w w' B rp yp rb yv rb' yv (powP pow (s.size + 6)) (bs ++ (lineL last s.data.toList).take (wrP pow (s.size + 6))) recs (last : Nat) size true) ∧
  (wrP pow (s.size + 6) = s.size + 6 → e = .returned (.int .i64 0) ∧ ∃ rb' yv', RA w w' B rp yp rb yv rb' yv' (powP pow (s.size + 6)) (bs ++ lineL last s.data.toList) (recs ++ [s.data.toList]) (sumL last s.data.toList : Nat) (size + (s.size + 6 : Nat)) false)
set_option maxRecDepth 100000 in
set_option maxHeartbeats 4000000 in
theorem rappend_main (h : RD w B rp rb pow bs) (k : RL w B yp yv recs (last : Nat) size false) (hB : B ≤ w.heap.size) (s : ByteArray) (hs : s.size ≤ 2000000) (hbs : bs.length ≤ 1000000) (hl : last < 9973) (hr : rightL s.data.toList = true) (hf : bs.length + (s.size + 6) ≤ 1048576) (hp0 : -9223372036854775808 ≤ pow) (hp : pow ≤ 9223372036854775807) (hz : 0 ≤ size ∧ size ≤ 2000000) (hrc : recs.length ≤ 900000) :
    Calls Tryd.prog 42 #[.pointer (some ⟨rp, 0, none⟩), .pointer (some ⟨yp, 0, none⟩), .string s] w (RetRA w B rp yp rb yv pow bs recs last size s) := by
  obtain ⟨j0, hj0, hy0, hy1, hy2⟩ := info_parts info_str
  have RC := Lib.hid (fun W => record_any s hs W)
  rw [hr] at RC
  have RLN := Lib.hid (fun W => rline_any (last : Nat) s hs W)
  have RCK := Lib.hid (fun W => rcheck_any (last : Nat) s hs W)
  have hfp : failP (last : Nat) s.data.toList = 0 := by unfold failP; rw [if_neg (by omega), hr]; rfl
  rw [show lineP (last : Nat) s.data.toList = (lineL last s.data.toList, 0) by unfold lineP; rw [hfp]; rfl] at RLN
  rw [show checkP (last : Nat) s.data.toList = (((sumL last s.data.toList : Nat) : Int), 0) by unfold checkP; rw [hfp]; rfl] at RCK
  have hrl := rightL_len hr
  rw [str_len] at hrl
  obtain ⟨X, hX⟩ : ∃ X : ByteArray, X = ⟨(lineL last s.data.toList).toArray⟩ := ⟨_, rfl⟩
  have hXs : X.size = s.size + 6 := by rw [← str_len, hX]; show (lineL last s.data.toList).length = _; rw [lineL_len, str_len]
  have HXL : Hid (X.data.toList = lineL last s.data.toList) := Lib.hid (by rw [hX])
  rw [← hX] at RLN
  have HR0 := Lib.hid (RA.start h k hB)
  obtain ⟨m, hm⟩ : ∃ m, s.size + 6 = m := ⟨_, rfl⟩
  have HM := Lib.hid hm
  rw [hm] at hXs hf
  have HXS := Lib.hid hXs
  have hm300 : m ≤ 206 := by omega
  obtain ⟨A, c, rfl, hc⟩ := h.len
  obtain ⟨n, hn⟩ : ∃ n, bs.length = n := ⟨_, rfl⟩
  have c0 : w.cell? ⟨rp, 0, none⟩ = some (.slice A n c) := by rw [← hn]; exact h.disk.cell (j := 0) rfl
  have d3 := k.log.cell (j := 3) (v := .bool false) rfl
  have d1 := k.log.cell (j := 1) (v := .int .i64 (last : Nat)) rfl
  have HN := Lib.hid hn
  have t1 : decide (1048576 < (n : Int) + (m : Int)) = false := decide_eq_false (by omega)
  have w7 : IntKind.i64.wrap ((n : Int) + (m : Int)) = (n : Int) + (m : Int) := IntWalk.i64_in _ (by omega)
  clear h k hr hfp hX hXs hc hs hrl hm hn
  go_enter Tryd.func42, Tryd.ntmps42
  go_wp2_with fail
  refine (RC.out _).mono ?_
  rintro e w1 ⟨rfl, rfl⟩
  go_wp2_with fail
  refine (RLN.out _).mono ?_
  rintro e w1 ⟨rfl, hb⟩
  have HR1 := Lib.hid (HR0.out.keep hb)
  have c0' := keepW hb c0
  have xs := HXS.out
  clear hb c0 d3 d1 RC RLN HR0
  obtain ⟨LX, hLX⟩ : ∃ LX, lineL last s.data.toList = LX := ⟨_, rfl⟩
  have HLX := Lib.hid hLX
  rw [hLX] at HXL
  have HLN : Hid (LX.length = m) := Lib.hid (by rw [← HXL.out, str_len]; exact HXS.out)
  clear hLX
  go_wp2
  clear c0' t1 w7 xs
  go_loopw [9] (fun s9 wr => ∃ j : Nat, j ≤ m ∧ s9 = .int .i64 j ∧ ∃ rbj, RA w wr B rp yp (.slice A bs.length c) yv rbj yv (powK pow j) (bs ++ LX.take j) recs (last : Nat) size false ∧ (0 ≤ pow → (j : Int) ≤ pow)) (fun s9 _ => m - (intOf s9).toNat)
  case atStart => exact ⟨0, by omega, rfl, _, by
    rw [List.take_zero, List.append_nil, show powK pow 0 = pow by unfold powK; split <;> simp]
    exact HR1.out, fun h => by simpa using h⟩
  case round =>
    obtain ⟨j, hj, rfl, rbj, hra, hjp⟩ := hrel
    have HRA := Lib.hid hra
    have d1 := hra.rd.disk.cell (j := 1) rfl
    have f1 := hra.rd.disk.free 1
    have c3 := hra.rl.log.cell (j := 3) rfl
    have f3 := hra.rl.log.free 3
    clear hra HR1
    by_cases hlt : j < m
    · have hjX : j < X.size := by have := HXS.out; omega
      have hjL : j < LX.length := by rw [HLN.out]; exact hlt
      have hXj : X[j] = LX[j] := by
        have h := str_at X j hjX
        rw [← h]
        simp only [HXL.out]
      have HTK : Hid (LX.take (j + 1) = LX.take j ++ [X[j]]) := Lib.hid (by rw [take_next LX j hjL, hXj])
      have HNJ : Hid ((bs ++ LX.take j).length = n + j) := Lib.hid (by rw [List.length_append, List.length_take_of_le (by omega), HN.out])
      have hnj : n + j ≤ 1100000 := by rw [← HN.out]; omega
      have t3 : decide ((j : Int) < (m : Int)) = true := decide_eq_true (by omega)
      have t3' : decide (j < m) = true := decide_eq_true (by omega)
      have q1 : (j : Int) < (X.size : Int) := by omega
      have q2 : (0 : Int) ≤ (j : Int) := by omega
      have HWR : Hid (powK pow j = 0 → wrP pow m = j ∧ powP pow m = 0) := Lib.hid (fun h => by
        unfold powK at h
        split at h
        · rename_i h0
          have : wrP pow m = j := by unfold wrP; rw [if_pos h0]; omega
          exact ⟨this, by unfold powP; rw [if_pos h0, this]; omega⟩
        · omega)
      have HPN : Hid (powK pow j ≠ 0 → (0 < powK pow j → powK pow (j + 1) = powK pow j - 1) ∧ (¬ 0 < powK pow j → powK pow (j + 1) = powK pow j) ∧ (0 ≤ pow → ((j + 1 : Nat) : Int) ≤ pow)) := Lib.hid (fun h => by
        unfold powK at h ⊢
        split at h
        · rename_i h0
          have hj2 := hjp h0
          exact ⟨fun _ => by rw [if_pos h0, if_pos h0]; omega, fun h2 => by rw [if_pos h0] at h2; omega, fun _ => by omega⟩
        · rename_i h0
          exact ⟨fun h2 => by rw [if_neg h0] at h2; omega, fun _ => by rw [if_neg h0, if_neg h0], fun h2 => absurd h2 h0⟩)
      have hpb : -9223372036854775808 ≤ powK pow j ∧ powK pow j ≤ 9223372036854775807 := by unfold powK; split <;> omega
      obtain ⟨pj, hpj⟩ : ∃ pj, powK pow j = pj := ⟨_, rfl⟩
      rw [hpj] at HRA HWR HPN d1 hpb
      clear hjL hXj hpj hjp
      by_cases hz0 : pj = 0
      · have t4 : (pj == 0) = true := beq_iff_eq.2 hz0
        obtain ⟨k1, k2⟩ := HWR.out hz0
        have HK1 := Lib.hid k1
        have HK2 := Lib.hid k2
        have HRZ := Lib.hid (by rw [hz0] at HRA; exact HRA.out : RA w wr B rp yp (.slice A bs.length c) yv rbj yv 0 (bs ++ LX.take j) recs (last : Nat) size false)
        clear hz0 k1 k2 HRA
        go_wp2
        go_ret
        refine ⟨fun _ => ⟨rfl, rbj, ?_⟩, fun h => absurd h (by rw [HM.out, HK1.out]; omega)⟩
        rw [HM.out, HK1.out, HK2.out, HLX.out]
        exact HRZ.out.setClosed true
      · have t4 : (pj == 0) = false := beq_eq_false_iff_ne.2 hz0
        obtain ⟨k1, k2, hjp⟩ := HPN.out hz0
        by_cases hpos : 0 < pj
        · have t5 : decide (0 < pj) = true := decide_eq_true hpos
          have v5 : IntKind.i64.wrap (pj - 1) = pj - 1 := IntWalk.i64_in _ (by omega)
          obtain ⟨P1, hP1⟩ : ∃ P1, powK pow (j + 1) = P1 := ⟨_, rfl⟩
          have e9 : pj - 1 = P1 := by rw [← k1 hpos]; exact hP1
          have HP1 := Lib.hid hP1
          obtain ⟨Wc, hWc⟩ : ∃ Wc, wr.setCell ⟨rp, 1, none⟩ (.int .i64 (pj - 1)) = Wc := ⟨_, rfl⟩
          have HRc := Lib.hid (by have h := HRA.out.setPow (pj - 1); rw [hWc, e9] at h; exact h : RA w Wc B rp yp (.slice A bs.length c) yv rbj yv P1 (bs ++ LX.take j) recs (last : Nat) size false)
          have HWC := Lib.hid hWc
          clear k1 k2 hz0 HPN HWR hP1 hpos hpb e9 hWc
          go_upto_region 16 with fail
          rw [HWC.out]
          clear HWC HRA d1 f1 c3 f3 t4 t5 v5
          obtain ⟨Aj, cj, rfl, hcj⟩ := HRc.out.rd.len
          have e0 := HRc.out.rd.disk.cell (j := 0) rfl
          rw [HNJ.out] at e0
          have e0' := keepW (below1 Wc (.cells #[.int .u8 (X[j].toNat : Int)] 5)) e0
          have HOX : Hid ((Wc.alloc (.cells #[.int .u8 (X[j].toNat : Int)] 5)).drew.ownsRow B 5 1 (.slice Aj (n + j) cj) (n + j) ((bs ++ LX.take j).map byteV)) := Lib.hid (by
            have h := own_keep HRc.out.rd.row (Below.drew (below1 Wc (.cells #[.int .u8 (X[j].toNat : Int)] 5)))
            rw [HNJ.out] at h; exact h)
          have HBX : Hid (BS (Wc.alloc (.cells #[.int .u8 (X[j].toNat : Int)] 5)).drew Wc.heap.size 0 [X[j]]) := Lib.hid ((bs_new Wc X[j]).keep (Below.drew (Below.refl _ _)))
          have HBB : Hid (B ≤ (Wc.alloc (.cells #[.int .u8 (X[j].toNat : Int)] 5)).drew.heap.size) := Lib.hid (by have h1 := HRc.out.base; have h2 := HRc.out.fr.size; simp; omega)
          clear hcj
          go_region_law (refine step_bv_at rfl (.tmp 65) (.tmp 69) rfl _ B (.slice Aj (n + j) cj) (n + j) (bs ++ LX.take j) rfl HOX.out Wc.heap.size 0 1 1 [X[j]] rfl rfl HBX.out (by omega) HBB.out ?_; intro v3 w3 ho3 hg3 ha3; (have HGR := RA.grow HRc.out (Below.drew (below1 Wc (.cells #[.int .u8 (X[j].toNat : Int)] 5))) (by rw [HNJ.out]; exact ho3) (by rw [HNJ.out]; exact hg3) (by rw [HNJ.out]; exact ha3)); (have k5 := HGR.1.cell (j := 0) rfl); (have y5 := HGR.1.free 0); (have HRN := Lib.hid HGR.2); obtain ⟨A3, c3, rfl⟩ := own_slice ho3; clear HGR ho3 hg3 ha3)
          all_goals
            clear k5 y5 e0 e0'
            go_wp2
            go_roundw
            case rel => exact ⟨j + 1, by omega, by go_num, _, by rw [HTK.out, ← List.append_assoc]; rw [HP1.out]; exact HRN.out, hjp⟩
            case measure => simp [intOf]; omega
        · have t5 : decide (0 < pj) = false := decide_eq_false hpos
          obtain ⟨P1, hP1⟩ : ∃ P1, powK pow (j + 1) = P1 := ⟨_, rfl⟩
          have e9 : pj = P1 := by rw [← k2 hpos]; exact hP1
          have HP1 := Lib.hid hP1
          have HRc := Lib.hid (by have h := HRA.out; rw [e9] at h; exact h : RA w wr B rp yp (.slice A bs.length c) yv rbj yv P1 (bs ++ LX.take j) recs (last : Nat) size false)
          clear k1 k2 hz0 HPN HWR hP1 hpos hpb e9
          go_upto_region 16 with fail
          clear HRA d1 f1 c3 f3 t4 t5
          generalize wr = Wc at *
          obtain ⟨Aj, cj, rfl, hcj⟩ := HRc.out.rd.len
          have e0 := HRc.out.rd.disk.cell (j := 0) rfl
          rw [HNJ.out] at e0
          have e0' := keepW (below1 Wc (.cells #[.int .u8 (X[j].toNat : Int)] 5)) e0
          have HOX : Hid ((Wc.alloc (.cells #[.int .u8 (X[j].toNat : Int)] 5)).drew.ownsRow B 5 1 (.slice Aj (n + j) cj) (n + j) ((bs ++ LX.take j).map byteV)) := Lib.hid (by
            have h := own_keep HRc.out.rd.row (Below.drew (below1 Wc (.cells #[.int .u8 (X[j].toNat : Int)] 5)))
            rw [HNJ.out] at h; exact h)
          have HBX : Hid (BS (Wc.alloc (.cells #[.int .u8 (X[j].toNat : Int)] 5)).drew Wc.heap.size 0 [X[j]]) := Lib.hid ((bs_new Wc X[j]).keep (Below.drew (Below.refl _ _)))
          have HBB : Hid (B ≤ (Wc.alloc (.cells #[.int .u8 (X[j].toNat : Int)] 5)).drew.heap.size) := Lib.hid (by have h1 := HRc.out.base; have h2 := HRc.out.fr.size; simp; omega)
          clear hcj
          go_region_law (refine step_bv_at rfl (.tmp 65) (.tmp 69) rfl _ B (.slice Aj (n + j) cj) (n + j) (bs ++ LX.take j) rfl HOX.out Wc.heap.size 0 1 1 [X[j]] rfl rfl HBX.out (by omega) HBB.out ?_; intro v3 w3 ho3 hg3 ha3; (have HGR := RA.grow HRc.out (Below.drew (below1 Wc (.cells #[.int .u8 (X[j].toNat : Int)] 5))) (by rw [HNJ.out]; exact ho3) (by rw [HNJ.out]; exact hg3) (by rw [HNJ.out]; exact ha3)); (have k5 := HGR.1.cell (j := 0) rfl); (have y5 := HGR.1.free 0); (have HRN := Lib.hid HGR.2); obtain ⟨A3, c3, rfl⟩ := own_slice ho3; clear HGR ho3 hg3 ha3)
          all_goals
            clear k5 y5 e0 e0'
            go_wp2
            go_roundw
            case rel => exact ⟨j + 1, by omega, by go_num, _, by rw [HTK.out, ← List.append_assoc]; rw [HP1.out]; exact HRN.out, hjp⟩
            case measure => simp [intOf]; omega
    · obtain rfl : j = m := by omega
      have t3 : decide ((j : Int) < (j : Int)) = false := decide_eq_false (by omega)
      have t3' : decide (j < j) = false := decide_eq_false (by omega)
      have xs := HXS.out
      have HWP : Hid (wrP pow j = j ∧ powP pow j = powK pow j) := Lib.hid (by
        have h : wrP pow j = j := by
          unfold wrP
          split
          · rename_i h0
            have := hjp h0
            omega
          · rfl
        exact ⟨h, by unfold powP powK; rw [h]⟩)
      have hTL : LX.take j = LX := by rw [← HLN.out, List.take_length]
      rw [hTL] at HRA
      have e1 := HRA.out.rl.log.cell (j := 1) (v := .int .i64 (last : Nat)) rfl
      have y1 := HRA.out.rl.log.free 1
      generalize powK pow j = PK at *
      clear d1 f1 c3 f3 hjp hTL hlt
      go_wp2_with fail
      refine (RCK.out _).mono ?_
      rintro e w4 ⟨rfl, rfl⟩
      obtain ⟨L', hL'⟩ : ∃ L', sumL last s.data.toList = L' := ⟨_, rfl⟩
      have HLL := Lib.hid hL'
      rw [hL']
      have HR4 := Lib.hid (HRA.out.setLast (L' : Nat))
      clear hL' RCK HRA xs
      go_upto_region 18 with fail
      clear e1 y1
      generalize wr.setCell ⟨yp, 1, none⟩ (.int .i64 (L' : Nat)) = wA at *
      obtain ⟨Ay, cy, rfl⟩ := own_slice HR4.out.rl.row
      have e0 := HR4.out.rl.log.cell (j := 0) rfl
      have HBA : Hid (B ≤ wA.heap.size) := Lib.hid (Nat.le_trans HR4.out.base HR4.out.fr.size)
      go_upto_region 19 with (at_builtin; refine app1 rfl (.tmp 89) (.tmp 91) rfl Tryd.underlying22 hj0 hy0 hy1 hy2 rfl wA B _ recs.length _ (.string s) rfl rfl rfl rfl HR4.out.rl.row HBA.out (by omega) (by decide) ?_; intro v5 w5 ho5 hg5 ha5 _; (have HAD := RA.addRec (T := s.data.toList) HR4.out (Below.refl _ _) (by exact ho5) hg5 (ha5.imp id (fun e x hx => by rw [e] at hx; have := Option.some.inj hx; omega))); (have k5 := HAD.1.cell (j := 0) rfl); (have y5 := HAD.1.free 0); (have HR5 := Lib.hid HAD.2); obtain ⟨A5, c5, rfl⟩ := own_slice ho5; clear HAD ho5 hg5 ha5)
      clear e0 k5 y5
      generalize w5.setCell ⟨yp, 0, none⟩ (.slice A5 (recs.length + 1) c5) = wB at *
      have e2 := HR5.out.rl.log.cell (j := 2) (v := .int .i64 size) rfl
      have y2 := HR5.out.rl.log.free 2
      have xs := HXS.out
      have v8 : IntKind.i64.wrap (size + (j : Int)) = size + (j : Int) := IntWalk.i64_in _ (by omega)
      have HR6 := Lib.hid (HR5.out.setSize (size + (j : Int)))
      go_wp2
      go_ret
      refine ⟨fun h => absurd h (by rw [HM.out, HWP.out.1]; omega), fun _ => ⟨rfl, rbj, .slice A5 (recs.length + 1) c5, ?_⟩⟩
      rw [HM.out, HWP.out.2, HLX.out, HLL.out]
      exact HR6.out
end
end Go.Proofs.YtbompgfjlllioaaDoor
