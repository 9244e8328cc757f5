/- What '==' says of entries, of their numbers, of outcomes. -/
import Derived.Test.YtpkmibmombpjpaaGreatDoorEN
import Derived.DeepKeys
import Derived.Laws.StructEq
import Derived.WalkArith
namespace Go.Proofs.YtpkmibmombpjpaaGreatDoor
open Go Go.RowKit

theorem exec_bin {o : Oper} {w : World} {op : BinOp} {T U : TypeId} {x y : Operand} {a : Act} {X Y : Array Value} {v : Value} (ho : o.op = .binOp op T x y U) (hx : a.eval x = .agg X) (hy : a.eval y = .agg Y) (hm : Tryz.prog.eqGuardType Tryz.prog.depth T = false) (h : (binOp op T (.agg X) (.agg Y)).run Tryz.prog w = .ok v w) : (execOp a.eval o).run Tryz.prog w = .ok (.value v) w := by
  simp only [execOp, ho, hx, hy, Sem.run_bind, run_eqGuard_agg w op T x y X Y hm, h, Result.andThen_ok, Sem.run_pure]
/-- .. in a walk. -/
theorem op_bin {ops : Array Oper} {rest : List Oper} {o : Oper} {a : Act} {Q : Exit → Act → World → Prop} {w : World} {X Y : Array Value} {v : Value} (op : BinOp) (T U : TypeId) (x y : Operand) (hg : o.guard = none) (ho : o.op = .binOp op T x y U) (hx : a.eval x = .agg X) (hy : a.eval y = .agg Y) (hm : Tryz.prog.eqGuardType Tryz.prog.depth T = false) (hr : (binOp op T (.agg X) (.agg Y)).run Tryz.prog w = .ok v w)
    (h : wpList Tryz.prog ops Q rest (a.put o.dst v) w) : wpList Tryz.prog ops Q (o :: rest) a w := by
  refine wpList_plain hg fun K hK => ?_
  unfold Oper.wp
  rw [exec_bin ho hx hy hm hr, Oper.upon_value]
  exact hK _ _ h
/-- .. in a quiet walk. -/
theorem q_bin {ops : Array Oper} {rest : List Oper} {o : Oper} {a : Act} {Cl : World → Prop} {Q : Act → Prop} {X Y : Array Value} {v : Value} (op : BinOp) (T U : TypeId) (x y : Operand) (hg : o.guard = none) (ho : o.op = .binOp op T x y U) (hx : a.eval x = .agg X) (hy : a.eval y = .agg Y) (hm : Tryz.prog.eqGuardType Tryz.prog.depth T = false) (hr : ∀ w, (binOp op T (.agg X) (.agg Y)).run Tryz.prog w = .ok v w)
    (h : wpQuiet Tryz.prog ops Cl Q rest (a.put o.dst v)) : wpQuiet Tryz.prog ops Cl Q (o :: rest) a := by
  unfold wpQuiet
  rw [if_pos (by simp [Region.wanted, hg])]
  refine ⟨v, fun w hw => ?_, h⟩
  unfold Oper.quietAt
  rw [exec_bin ho hx hy hm (hr w)]
  exact ⟨rfl, rfl⟩
/-- The deep law at an aggregate whose cells are known literals. -/
theorem eq_deep {T : TypeId} (hk : Tryz.prog.keyTypeAt 9 T = true) {X Y : Array Value} {lx ly : List Lit} (fx : (Value.agg X).formed Tryz.prog T = true) (fy : (Value.agg Y).formed Tryz.prog T = true) (hx : Tryz.prog.keyLits 9 T X.toList = some lx) (hy : Tryz.prog.keyLits 9 T Y.toList = some ly) {r : Bool} (hr : r = true ↔ lx = ly) (d : Nat) (w : World) :
    (Op.equalIn (d + 9) T (.agg X) (.agg Y)).run Tryz.prog w = .ok r w := by
  obtain ⟨q, hq, hiff⟩ := run_equalIn_deep (P := Tryz.prog) d 9 T hk w 9 9 (.agg X) (.agg Y) lx ly fx fy hx hy
  rw [hq, show q = r from Bool.eq_iff_iff.2 (hiff.trans hr.symm)]
theorem eql_deep {T : TypeId} {X Y : Array Value} {r : Bool} (h : ∀ d w, (Op.equalIn (d + 9) T (.agg X) (.agg Y)).run Tryz.prog w = .ok r w) (w : World) : (binOp .eql T (.agg X) (.agg Y)).run Tryz.prog w = .ok (.bool r) w := by
  rw [run_eql_struct, h 9991 w]; rfl
theorem neq_deep {T : TypeId} {X Y : Array Value} {r : Bool} (h : ∀ d w, (Op.equalIn (d + 9) T (.agg X) (.agg Y)).run Tryz.prog w = .ok r w) (w : World) : (binOp .neq T (.agg X) (.agg Y)).run Tryz.prog w = .ok (.bool (!r)) w := by
  rw [run_neq_struct, h 9991 w]; rfl
def eqEn (a b : En) : Bool := decide (a.nums = b.nums)
theorem eqEn_iff (a b : En) : eqEn a b = true ↔ a = b := by
  unfold eqEn
  rw [decide_eq_true_eq]
  exact ⟨En.ext_nums, fun h => by rw [h]⟩
theorem eqEn_self (a : En) : eqEn a a = true := (eqEn_iff a a).2 rfl
theorem eqEn_cmp (a b : En) : eqEn a b = decide (cmpE a b = 0) := by
  rw [Bool.eq_iff_iff, eqEn_iff, decide_eq_true_eq]
  exact ⟨fun h => by rw [h]; exact cmp_self b, cmp_eq⟩
def ouLits (o : Ou) : List Lit := [.int .u8 (o.lv : Int), .int .u8 (o.dn : Int), .int .u8 (o.rk : Int), .int .u8 (o.dc : Int), .int .i64 o.tr, .int .i64 o.wt]
def enLits (e : En) : List Lit := [.int .i64 e.rd, .int .i64 e.tb, .int .i64 e.bd, .int .i64 e.vs, .int .u8 (e.kd : Int), .int .u8 (e.fd : Int), .bool e.tn] ++ (ouLits e.o0 ++ (ouLits e.o1 ++ (ouLits e.o2 ++ (ouLits e.o3 ++ [.int .i64 e.a0, .int .i64 e.a1]))))
theorem enLits_iff (a b : En) : eqEn a b = true ↔ enLits a = enLits b := by
  rw [eqEn_iff]
  refine ⟨fun h => by rw [h], fun h => En.ext_nums ?_⟩
  simp only [enLits, ouLits, List.cons_append, List.nil_append, List.cons.injEq, Lit.int.injEq, true_and, Lit.bool.injEq, and_true] at h
  simp only [En.nums, Ou.nums, List.cons_append, List.nil_append, List.cons.injEq, and_true]
  simp [h]
theorem wf_u8 {n : Nat} (h : n < 256) : (Lit.int .u8 (n : Int)).wf = true := by
  unfold Lit.wf
  rw [Bool.and_eq_true, decide_eq_true_eq, decide_eq_true_eq]
  exact ⟨by show (0 : Int) ≤ _; omega, by show _ ≤ (255 : Int); omega⟩
theorem wf_i {n : Int} (h : inI n) : (Lit.int .i64 n).wf = true := by
  unfold inI at h
  unfold Lit.wf
  rw [Bool.and_eq_true, decide_eq_true_eq, decide_eq_true_eq]
  exact ⟨by show (-9223372036854775808 : Int) ≤ _; omega, by show _ ≤ (9223372036854775807 : Int); omega⟩
theorem uI : Tryz.prog.underlying 3 = some (.int .i64) := by kernel_rfl
theorem uU : Tryz.prog.underlying 5 = some (.int .u8) := by kernel_rfl
theorem uB : Tryz.prog.underlying 4 = some .bool := by kernel_rfl
theorem cI : Tryz.prog.cellsOf 3 = 1 := by kernel_rfl
theorem cU : Tryz.prog.cellsOf 5 = 1 := by kernel_rfl
theorem cB : Tryz.prog.cellsOf 4 = 1 := by kernel_rfl
theorem cC : Tryz.prog.cellsOf 28 = 4 := by kernel_rfl
theorem cO : Tryz.prog.cellsOf 30 = 6 := by kernel_rfl
theorem cOs : Tryz.prog.cellsOf 31 = 24 := by kernel_rfl
theorem cA : Tryz.prog.cellsOf 32 = 2 := by kernel_rfl
theorem cE : Tryz.prog.cellsOf 34 = 33 := by kernel_rfl
theorem intKey (d : Nat) {n : Int} (h : inI n) : Tryz.prog.keyLits (d + 1) 3 [.int .i64 n] = some [.int .i64 n] := by
  unfold Program.keyLits
  simp only [uI, wf_i h, and_self, if_true]
theorem u8Key (d : Nat) {n : Nat} (h : n < 256) : Tryz.prog.keyLits (d + 1) 5 [.int .u8 (n : Int)] = some [.int .u8 (n : Int)] := by
  unfold Program.keyLits
  simp only [uU, wf_u8 h, and_self, if_true]
theorem boolKey (d : Nat) (b : Bool) : Tryz.prog.keyLits (d + 1) 4 [.bool b] = some [.bool b] := by
  unfold Program.keyLits
  simp only [uB]
theorem structKey {d : Nat} {t : TypeId} {fs : Array Field} {cs : List Value} (l : List (TypeId × Nat)) (hu : Tryz.prog.underlying t = some (.struct fs)) (hl : fs.toList.map (fun f => (f.type, f.offset)) = l) (hn : fs.all (·.name != "_") = true) (hc : cs.length = Tryz.prog.cellsOf t) :
    Tryz.prog.keyLits (d + 1) t cs = (l.mapM fun x => Tryz.prog.keyLits d x.1 ((cs.drop x.2).take (Tryz.prog.cellsOf x.1))).map List.flatten := by
  conv => lhs; unfold Program.keyLits
  simp only [hu]
  rw [if_pos ⟨hc, hn⟩, ← hl, List.mapM_map]
  rfl
theorem arrKey {d : Nat} {t e : TypeId} {n : Nat} {cs : List Value} (hu : Tryz.prog.underlying t = some (.array n e)) (hc : cs.length = Tryz.prog.cellsOf t) :
    Tryz.prog.keyLits (d + 1) t cs = ((List.range n).mapM fun i => Tryz.prog.keyLits d e ((cs.drop (i * Tryz.prog.cellsOf e)).take (Tryz.prog.cellsOf e))).map List.flatten := by
  conv => lhs; unfold Program.keyLits
  simp only [hu]
  rw [if_pos hc]
theorem ctKey (d : Nat) (o : Ou) (h : o.In) : Tryz.prog.keyLits (d + 2) 28 [.int .u8 (o.lv : Int), .int .u8 (o.dn : Int), .int .u8 (o.rk : Int), .int .u8 (o.dc : Int)] = some [.int .u8 (o.lv : Int), .int .u8 (o.dn : Int), .int .u8 (o.rk : Int), .int .u8 (o.dc : Int)] := by
  rw [structKey [(5, 0), (5, 1), (5, 2), (5, 3)] (show Tryz.prog.underlying 28 = some (.struct (Tryz.prog.fieldsOf 28)) by kernel_rfl) (by kernel_rfl) (by kernel_rfl) (by rw [cC]; rfl)]
  simp [cU, u8Key d h.lv, u8Key d h.dn, u8Key d h.rk, u8Key d h.dc]
theorem ouKey (d : Nat) (o : Ou) (h : o.In) : Tryz.prog.keyLits (d + 3) 30 (ouL o) = some (ouLits o) := by
  unfold ouL ouLits
  rw [structKey [(28, 0), (3, 4), (3, 5)] (show Tryz.prog.underlying 30 = some (.struct (Tryz.prog.fieldsOf 30)) by kernel_rfl) (by kernel_rfl) (by kernel_rfl) (by rw [cO]; rfl)]
  simp [cC, cI, ctKey d o h, intKey (d + 1) h.tr, intKey (d + 1) h.wt]
theorem osKey (d : Nat) (e : En) (h : e.In) : Tryz.prog.keyLits (d + 4) 31 (ouL e.o0 ++ (ouL e.o1 ++ (ouL e.o2 ++ ouL e.o3))) = some (ouLits e.o0 ++ (ouLits e.o1 ++ (ouLits e.o2 ++ ouLits e.o3))) := by
  have k0 := ouKey d e.o0 h.o0
  have k1 := ouKey d e.o1 h.o1
  have k2 := ouKey d e.o2 h.o2
  have k3 := ouKey d e.o3 h.o3
  rw [arrKey (n := 4) (e := 30) (by kernel_rfl) (by rw [cOs]; rfl), cO]
  have d1 : ∀ (l : List Value), l = ouL e.o0 ++ (ouL e.o1 ++ (ouL e.o2 ++ ouL e.o3)) → (l.drop (0 * 6)).take 6 = ouL e.o0 ∧ (l.drop (1 * 6)).take 6 = ouL e.o1 ∧ (l.drop (2 * 6)).take 6 = ouL e.o2 ∧ (l.drop (3 * 6)).take 6 = ouL e.o3 := by
    rintro l rfl
    exact ⟨rfl, rfl, rfl, rfl⟩
  obtain ⟨q0, q1, q2, q3⟩ := d1 _ rfl
  rw [show List.range 4 = [0, 1, 2, 3] from rfl]
  simp only [List.mapM_cons, List.mapM_nil, q0, q1, q2, q3, k0, k1, k2, k3]
  simp
theorem awKey (d : Nat) (a b : Int) (ha : inI a) (hb : inI b) : Tryz.prog.keyLits (d + 2) 32 [.int .i64 a, .int .i64 b] = some [.int .i64 a, .int .i64 b] := by
  rw [arrKey (n := 2) (e := 3) (by kernel_rfl) (by rw [cA]; rfl), cI, show List.range 2 = [0, 1] from rfl]
  simp [intKey d ha, intKey d hb]
theorem enKey (e : En) (h : e.In) : Tryz.prog.keyLits 9 34 (enC e).toList = some (enLits e) := by
  have k0 := osKey 4 e h
  have kA := awKey 6 e.a0 e.a1 h.a0 h.a1
  have hE : (enC e).toList = enL e := by unfold enC; rfl
  rw [hE]
  rw [structKey [(3, 0), (3, 1), (3, 2), (3, 3), (5, 4), (5, 5), (4, 6), (31, 7), (32, 31)] (show Tryz.prog.underlying 34 = some (.struct (Tryz.prog.fieldsOf 34)) by kernel_rfl) (by kernel_rfl) (by kernel_rfl) (by rw [cE]; rfl)]
  have d1 : ∀ (l : List Value), l = enL e → (l.drop 0).take 1 = [.int .i64 e.rd] ∧ (l.drop 1).take 1 = [.int .i64 e.tb] ∧ (l.drop 2).take 1 = [.int .i64 e.bd] ∧ (l.drop 3).take 1 = [.int .i64 e.vs] ∧ (l.drop 4).take 1 = [.int .u8 (e.kd : Int)] ∧ (l.drop 5).take 1 = [.int .u8 (e.fd : Int)] ∧ (l.drop 6).take 1 = [.bool e.tn] ∧ (l.drop 7).take 24 = ouL e.o0 ++ (ouL e.o1 ++ (ouL e.o2 ++ ouL e.o3)) ∧ (l.drop 31).take 2 = [.int .i64 e.a0, .int .i64 e.a1] := by
    rintro l rfl
    exact ⟨rfl, rfl, rfl, rfl, rfl, rfl, rfl, rfl, rfl⟩
  obtain ⟨q0, q1, q2, q3, q4, q5, q6, q7, q8⟩ := d1 _ rfl
  simp only [List.mapM_cons, List.mapM_nil, cI, cU, cB, cOs, cA, q0, q1, q2, q3, q4, q5, q6, q7, q8, k0, kA, intKey 7 h.rd, intKey 7 h.tb, intKey 7 h.bd, intKey 7 h.vs, u8Key 7 h.kd, u8Key 7 h.fd, boolKey 7]
  simp [enLits]
theorem nums_in {e : En} (h : e.In) : ∀ n ∈ e.nums, inI n := by
  have u : ∀ k : Nat, k < 256 → inI (k : Int) := fun k hk => ⟨by omega, by omega⟩
  have o : ∀ o : Ou, o.In → ∀ n ∈ o.nums, inI n := by
    intro o ho n hn
    unfold Ou.nums at hn
    simp only [List.mem_cons, List.not_mem_nil, or_false] at hn
    rcases hn with rfl | rfl | rfl | rfl | rfl | rfl
    · exact u _ ho.lv
    · exact u _ ho.dn
    · exact u _ ho.rk
    · exact u _ ho.dc
    · exact ho.tr
    · exact ho.wt
  intro n hn
  unfold En.nums at hn
  simp only [List.mem_append, List.mem_cons, List.not_mem_nil, or_false] at hn
  rcases hn with (rfl | rfl | rfl | rfl | rfl | rfl | rfl) | hn | hn | hn | hn | rfl | rfl
  · exact h.rd
  · exact h.tb
  · exact h.bd
  · exact h.vs
  · exact u _ h.kd
  · exact u _ h.fd
  · cases e.tn <;> exact ⟨by decide, by decide⟩
  · exact o _ h.o0 n hn
  · exact o _ h.o1 n hn
  · exact o _ h.o2 n hn
  · exact o _ h.o3 n hn
  · exact h.a0
  · exact h.a1
theorem mapM_ints : ∀ (l : List Int) (k n : Nat) (d : Nat), (∀ x ∈ l, inI x) → n + k = l.length → (((List.range' k n).mapM fun i => Tryz.prog.keyLits (d + 1) 3 (((l.map (Value.int .i64)).drop (i * 1)).take 1)) : Option (List (List Lit))) = some ((l.drop k).map fun x => [Lit.int .i64 x])
  | l, k, 0, d, _, h => by
    rw [List.drop_eq_nil_of_le (by omega)]
    simp
  | l, k, n + 1, d, hi, h => by
    have hk : k < l.length := by omega
    rw [List.range'_succ, List.mapM_cons, mapM_ints l (k + 1) n d hi (by omega), List.drop_eq_getElem_cons hk, Nat.mul_one]
    have e1 : ((l.map (Value.int .i64)).drop k).take 1 = [Value.int .i64 l[k]] := by
      rw [List.drop_eq_getElem_cons (by simpa using hk)]; simp
    rw [e1, intKey d (hi _ (List.getElem_mem hk))]
    rfl
theorem nuKey (e : En) (h : e.In) : Tryz.prog.keyLits 9 98 (nuC e.nums).toList = some (e.nums.map (Lit.int .i64)) := by
  have hE : (nuC e.nums).toList = e.nums.map (Value.int .i64) := by unfold nuC; rfl
  rw [hE, arrKey (n := 33) (e := 3) (by kernel_rfl) (by rw [List.length_map, e.nums_len]; kernel_rfl), cI, List.range_eq_range', mapM_ints e.nums 0 33 7 (nums_in h) (by rw [e.nums_len])]
  rw [List.drop_zero, Option.map_some]
  have key : ∀ l : List Int, (l.map fun x => [Lit.int .i64 x]).flatten = l.map (Lit.int .i64) := by
    intro l
    induction l with
    | nil => rfl
    | cons x l ih => rw [List.map_cons, List.map_cons, List.flatten_cons, ih]; rfl
  rw [key]
theorem eq_nu (a b : En) (ha : a.In) (hb : b.In) : ∀ (d : Nat) (w : World), (Op.equalIn (d + 9) 98 (.agg (nuC a.nums)) (.agg (nuC b.nums))).run Tryz.prog w = .ok (eqEn a b) w :=
  eq_deep (by kernel_rfl) (by kernel_rfl) (by kernel_rfl) (nuKey a ha) (nuKey b hb) (by
    unfold eqEn
    rw [decide_eq_true_eq]
    refine ⟨fun h => by rw [h], fun h => ?_⟩
    exact (List.map_inj_right (fun x y h => by injection h)).1 h)
def eqOu (a b : Ou) : Bool := decide (a.nums = b.nums)
theorem eqOu_iff (a b : Ou) : eqOu a b = true ↔ a = b := by
  unfold eqOu
  rw [decide_eq_true_eq]
  exact ⟨Ou.ext_nums, fun h => by rw [h]⟩
theorem eq_ou (a b : Ou) (ha : a.In) (hb : b.In) : ∀ (d : Nat) (w : World), (Op.equalIn (d + 9) 30 (.agg #[.int .u8 (a.lv : Int), .int .u8 (a.dn : Int), .int .u8 (a.rk : Int), .int .u8 (a.dc : Int), .int .i64 a.tr, .int .i64 a.wt]) (.agg #[.int .u8 (b.lv : Int), .int .u8 (b.dn : Int), .int .u8 (b.rk : Int), .int .u8 (b.dc : Int), .int .i64 b.tr, .int .i64 b.wt])).run Tryz.prog w = .ok (eqOu a b) w :=
  eq_deep (by kernel_rfl) (by kernel_rfl) (by kernel_rfl) (ouKey 6 a ha) (ouKey 6 b hb) (by
    rw [eqOu_iff]
    refine ⟨fun h => by rw [h], fun h => Ou.ext_nums ?_⟩
    simp only [ouLits, List.cons.injEq, Lit.int.injEq, true_and, and_true] at h
    simp only [Ou.nums, List.cons.injEq, and_true]
    simp [h])
theorem eqOu_zero (o : Ou) : eqOu o zeroO = o.isZ := by
  rw [Bool.eq_iff_iff, eqOu_iff, isZ_iff]
attribute [irreducible] eqEn eqOu
end Go.Proofs.YtpkmibmombpjpaaGreatDoor
