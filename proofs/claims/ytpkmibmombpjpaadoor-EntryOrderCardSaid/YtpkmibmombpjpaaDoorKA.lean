/- EntryOrder: Compare is a total order of entries. -/
import Derived.Test.YtpkmibmombpjpaaDoorKW
import Derived.Test.YtpkmibmombpjpaaDoorKP
import Derived.Test.YtpkmibmombpjpaaDoorGw
import Derived.Test.YtpkmibmombpjpaaDoorFlow6
import Derived.Test.YtpkmibmombpjpaaDoorFlow7
set_option linter.unusedSimpArgs false
namespace Go.Proofs.YtpkmibmombpjpaaDoor
open Go Go.RowKit

theorem exec_build {o : Oper} {w : World} {a : Act} {t : TypeId} {parts : Array (Nat × Operand)} {vs : Array (Nat × Value)} {C : Value} (ho : o.op = .build t parts) (hp : (parts.map fun (i, x) => (i, a.eval x)) = vs) (hr : (Instr.build t vs).run Tryd.prog w = .ok C w) : (execOp a.eval o).run Tryd.prog w = .ok (.value C) w := by
  simp only [execOp, ho, hp, Sem.run_bind, hr, Result.andThen_ok, Sem.run_pure]
theorem exec_bslice {o : Oper} {w w' : World} {a : Act} {t : TypeId} {n : Nat} {parts : Array (Nat × Operand)} {vs : Array (Nat × Value)} {C : Value} (ho : o.op = .buildSlice t n parts) (hp : (parts.map fun (i, x) => (i, a.eval x)) = vs) (hr : (Instr.buildSlice t n vs).run Tryd.prog w = .ok C w') : (execOp a.eval o).run Tryd.prog w = .ok (.value C) w' := by
  simp only [execOp, ho, hp, Sem.run_bind, hr, Result.andThen_ok, Sem.run_pure]
/-- Three entries in a row. -/
def t3 (a b c : En) : Array Value := (flat enC [a, b, c]).toArray
def t6 (a b c d e f : En) : Array Value := (flat enC [a, b, c, d, e, f]).toArray
theorem t3_size (a b c : En) : (t3 a b c).size = 99 := by
  unfold t3
  rw [List.size_toArray, flat_len enC_size]; rfl
theorem t3_at {a b c x : En} {j : Nat} (h : [a, b, c][j]? = some x) {w : World} {p : Nat} (hb : Blk w p 33 (t3 a b c)) : (Instr.loadAt 29 (.pointer (some ⟨p, j * 33, none⟩))).run Tryd.prog w = .ok (.agg (enC x)) w :=
  loadAt_run Tryd.underlying29 rfl (by rw [enC_size]; kernel_rfl) (fun i v hi => hb.cell (by
    unfold t3
    rw [List.getElem?_toArray]
    exact flat_at enC_size [a, b, c] j x h i v hi))
theorem flat_mid (l m n : List En) {j : Nat} {v : Value} (h : (flat enC m)[j]? = some v) : (flat enC (l ++ (m ++ n)))[l.length * 33 + j]? = some v := by
  rw [flat_app, flat_app, List.getElem?_append_right (by rw [flat_len enC_size]; omega), flat_len enC_size, Nat.add_sub_cancel_left, List.getElem?_append_left (List.getElem?_eq_some_iff.1 h).1, h]
theorem t6_lo {a b c d e f : En} {w : World} {p : Nat} (hb : Blk w p 33 (t6 a b c d e f)) : (Instr.loadAt 33 (.pointer (some ⟨p, 0, none⟩))).run Tryd.prog w = .ok (.agg (t3 a b c)) w :=
  loadAt_run Tryd.underlying33 rfl (by rw [t3_size]; kernel_rfl) (fun i v hi => hb.cell (by
    unfold t6
    unfold t3 at hi
    rw [List.getElem?_toArray] at hi ⊢
    exact flat_mid [] [a, b, c] [d, e, f] hi))
theorem t6_hi {a b c d e f : En} {w : World} {p : Nat} (hb : Blk w p 33 (t6 a b c d e f)) : (Instr.loadAt 33 (.pointer (some ⟨p, 99, none⟩))).run Tryd.prog w = .ok (.agg (t3 d e f)) w :=
  loadAt_run Tryd.underlying33 rfl (by rw [t3_size]; kernel_rfl) (fun i v hi => hb.cell (by
    unfold t6
    unfold t3 at hi
    rw [List.getElem?_toArray] at hi ⊢
    exact flat_mid [a, b, c] [d, e, f] [] hi))
theorem t3_build (a b c : En) (w : World) : (Instr.build 33 #[(0, .agg (enC a)), (1, .agg (enC b)), (2, .agg (enC c))]).run Tryd.prog w = .ok (.agg (t3 a b c)) w := by kernel_rfl
theorem t6_build (a b c d e f : En) (w : World) : (Instr.buildSlice 35 2 #[(0, .agg (t3 a b c)), (1, .agg (t3 d e f))]).run Tryd.prog w = .ok (.slice (some ⟨w.heap.size, 0, none⟩) 2 2) (w.alloc (.cells (t6 a b c d e f) 33)) := by kernel_rfl
theorem t3_one (a b c : En) : (t3 a b c).all (·.oneCell') = true := by
  rw [Array.all_eq_true_iff_forall_mem]
  intro v hv
  unfold t3 flat at hv
  simp only [List.mem_toArray, List.mem_flatMap] at hv
  obtain ⟨x, _, hx⟩ := hv
  exact (Array.all_eq_true_iff_forall_mem.1 (enC_one x)) v (by simpa using hx)
/-- New blocks hold C or C'. -/
def grNew (B : Nat) (T : TypeId) (C C' : Array Value) : GrS where
  r w1 w2 := Below B w1 w2 ∧ (∀ b, B ≤ b → Blk w1 b T C' → Blk w2 b T C') ∧ (∀ b, B ≤ b → Blk w1 b T C → Blk w2 b T C ∨ Blk w2 b T C')
  refl _ := ⟨Below.refl _ _, fun _ _ h => h, fun _ _ h => Or.inl h⟩
  trans h1 h2 := ⟨h1.1.trans h2.1, fun b hb h => h2.2.1 b hb (h1.2.1 b hb h), fun b hb h => (h1.2.2 b hb h).elim (h2.2.2 b hb) (fun h => Or.inr (h2.2.1 b hb h))⟩
  size h := h.1.size
theorem grNew_below {B : Nat} {T : TypeId} {C C' : Array Value} {w1 w2 : World} (h : Below w1.heap.size w1 w2) (hB : B ≤ w1.heap.size) : (grNew B T C C').r w1 w2 :=
  ⟨h.mono hB, fun _ _ hx => hx.keep h hx.lt, fun _ _ hx => Or.inl (hx.keep h hx.lt)⟩
def SpS.blk {B : Nat} {T : TypeId} {C C' : Array Value} : SpS (grNew B T C C') :=
  ⟨fun _ v w => ∃ b, v = .pointer (some ⟨b, 0, none⟩) ∧ B ≤ b ∧ (Blk w b T C ∨ Blk w b T C'), fun _ _ _ _ ⟨b, h1, h2, h3⟩ hr => ⟨b, h1, h2, h3.elim (hr.2.2 b h2) (fun h => Or.inr (hr.2.1 b h2 h))⟩, [], fun _ _ _ _ _ h => h⟩
def SpS.put {B : Nat} {T : TypeId} {C C' : Array Value} (i : Nat) : SpS (grNew B T C C') :=
  ⟨fun u _ w => ∃ b, u i = .pointer (some ⟨b, 0, none⟩) ∧ B ≤ b ∧ Blk w b T C', fun _ _ _ _ ⟨b, h1, h2, h3⟩ hr => ⟨b, h1, h2, hr.2.1 b h2 h3⟩, [i], fun u u' _ _ he ⟨b, h1, h2, h3⟩ => ⟨b, by rw [← he i (by simp)]; exact h1, h2, h3⟩⟩
theorem grNew_put {B b : Nat} {T : TypeId} {C C' : Array Value} {w1 : World} (hB : B ≤ b) (h : Blk w1 b T C ∨ Blk w1 b T C') : Blk (w1.setRow b C') b T C' ∧ (grNew B T C C').r w1 (w1.setRow b C') := by
  have hs : Blk (w1.setRow b C') b T C' := h.elim (fun h => h.row C') (fun h => h.row C')
  refine ⟨hs, Below.setRow' hB (Below.refl _ _) C', fun x hx h1 => ?_, fun x hx h1 => ?_⟩
  · by_cases e : x = b
    · subst e; exact hs
    · exact h1.row_other e C'
  · by_cases e : x = b
    · subst e; exact Or.inr hs
    · exact Or.inl (h1.row_other e C')
theorem key_cells (d e : En) : (((enC d).setIfInBounds 0 (.int .i64 e.rd)).setIfInBounds 1 (.int .i64 e.tb)).setIfInBounds 2 (.int .i64 e.bd) = enC (d.key e) := by kernel_rfl
theorem key_in {d e : En} (hd : d.In) (he : e.In) : (d.key e).In := ⟨he.rd, he.tb, he.bd, hd.vs, hd.kd, hd.fd, hd.o0, hd.o1, hd.o2, hd.o3, hd.a0, hd.a1⟩
theorem Blk.kp {w w' : World} {b : Nat} {t : TypeId} {c : Array Value} (h : Blk w b t c) (hb : Below w.heap.size w w') : Blk w' b t c := h.keep hb h.lt
/-- The boxes of the arguments. -/
structure OB (w W : World) (a b c : En) (x y z : Sm) (p0 p1 p2 p3 p4 p5 : Nat) : Prop where
  env : Env W
  below : Below w.heap.size w W
  b0 : Blk W p0 29 (enC a)
  b1 : Blk W p1 29 (enC b)
  b2 : Blk W p2 29 (enC c)
  b3 : Blk W p3 31 (smC x)
  b4 : Blk W p4 31 (smC y)
  b5 : Blk W p5 31 (smC z)
theorem OB.keep {w W W' : World} {a b c : En} {x y z : Sm} {p0 p1 p2 p3 p4 p5 : Nat} (h : OB w W a b c x y z p0 p1 p2 p3 p4 p5) (hb : Below W.heap.size W W') : OB w W' a b c x y z p0 p1 p2 p3 p4 p5 :=
  ⟨h.env.keep hb, h.below.trans (hb.mono h.below.size), h.b0.kp hb, h.b1.kp hb, h.b2.kp hb, h.b3.kp hb, h.b4.kp hb, h.b5.kp hb⟩
set_option maxRecDepth 100000 in
theorem t3_lit : t3 zE zE zE = #[.int .i64 0, .int .i64 0, .int .i64 0, .int .i64 0, .int .u8 0, .int .u8 0, .bool false, .int .u8 0, .int .u8 0, .int .u8 0, .int .u8 0, .int .i64 0, .int .i64 0, .int .u8 0, .int .u8 0, .int .u8 0, .int .u8 0, .int .i64 0, .int .i64 0, .int .u8 0, .int .u8 0, .int .u8 0, .int .u8 0, .int .i64 0, .int .i64 0, .int .u8 0, .int .u8 0, .int .u8 0, .int .u8 0, .int .i64 0, .int .i64 0, .int .i64 0, .int .i64 0, .int .i64 0, .int .i64 0, .int .i64 0, .int .i64 0, .int .u8 0, .int .u8 0, .bool false, .int .u8 0, .int .u8 0, .int .u8 0, .int .u8 0, .int .i64 0, .int .i64 0, .int .u8 0, .int .u8 0, .int .u8 0, .int .u8 0, .int .i64 0, .int .i64 0, .int .u8 0, .int .u8 0, .int .u8 0, .int .u8 0, .int .i64 0, .int .i64 0, .int .u8 0, .int .u8 0, .int .u8 0, .int .u8 0, .int .i64 0, .int .i64 0, .int .i64 0, .int .i64 0, .int .i64 0, .int .i64 0, .int .i64 0, .int .i64 0, .int .u8 0, .int .u8 0, .bool false, .int .u8 0, .int .u8 0, .int .u8 0, .int .u8 0, .int .i64 0, .int .i64 0, .int .u8 0, .int .u8 0, .int .u8 0, .int .u8 0, .int .i64 0, .int .i64 0, .int .u8 0, .int .u8 0, .int .u8 0, .int .u8 0, .int .i64 0, .int .i64 0, .int .u8 0, .int .u8 0, .int .u8 0, .int .u8 0, .int .i64 0, .int .i64 0, .int .i64 0, .int .i64 0] := by kernel_rfl
set_option maxRecDepth 100000 in
set_option maxHeartbeats 8000000 in
theorem order_any (a b c : En) (x y z : Sm) (ia : a.In) (ib : b.In) (ic : c.In) (hx : x.In) (hy : y.In) (hz : z.In) (w : World) (he : Env w) : Calls Tryd.prog 3 #[.agg (enC a), .agg (enC b), .agg (enC c), .agg (smC x), .agg (smC y), .agg (smC z)] w (fun r w' => r = .returned (.bool true) ∧ Below w.heap.size w w') := by
  obtain ⟨d, hd⟩ : ∃ d, madeE x = d := ⟨_, rfl⟩
  obtain ⟨e, hee⟩ : ∃ e, madeE y = e := ⟨_, rfl⟩
  obtain ⟨f, hf⟩ : ∃ f, madeE z = f := ⟨_, rfl⟩
  have AW := Lib.hid (awake_any)
  have HE := Lib.hid he
  have MX := Lib.hid (fun W => made_any x hx W)
  have MY := Lib.hid (fun W => made_any y hy W)
  have MZ := Lib.hid (fun W => made_any z hz W)
  rw [hd] at MX
  rw [hee] at MY
  rw [hf] at MZ
  have HIN : Hid (a.In ∧ b.In ∧ c.In ∧ d.In ∧ e.In ∧ f.In) := Lib.hid ⟨ia, ib, ic, hd ▸ made_in x, hee ▸ made_in y, hf ▸ made_in z⟩
  clear he hx hy hz hd hee hf ia ib ic
  go_enter Tryd.func3, Tryd.ntmps3
  go_upto_region 1 with fail
  have B1 := Blk.new w 29 (enC a)
  have H1 := below1 w (.cells (enC a) 29)
  have z1 := size_al w (.cells (enC a) 29)
  generalize w.alloc (.cells (enC a) 29) = W1 at *
  have B2 := Blk.new W1 29 (enC b)
  have H2 := below1 W1 (.cells (enC b) 29)
  have z2 := size_al W1 (.cells (enC b) 29)
  generalize W1.alloc (.cells (enC b) 29) = W2 at *
  have B3 := Blk.new W2 29 (enC c)
  have H3 := below1 W2 (.cells (enC c) 29)
  have z3 := size_al W2 (.cells (enC c) 29)
  generalize W2.alloc (.cells (enC c) 29) = W3 at *
  have B4 := Blk.new W3 31 (smC x)
  have H4 := below1 W3 (.cells (smC x) 31)
  have z4 := size_al W3 (.cells (smC x) 31)
  generalize W3.alloc (.cells (smC x) 31) = W4 at *
  have B5 := Blk.new W4 31 (smC y)
  have H5 := below1 W4 (.cells (smC y) 31)
  have z5 := size_al W4 (.cells (smC y) 31)
  generalize W4.alloc (.cells (smC y) 31) = W5 at *
  have B6 := Blk.new W5 31 (smC z)
  have H6 := below1 W5 (.cells (smC z) 31)
  generalize W5.alloc (.cells (smC z) 31) = W6 at *
  rw [z1] at B2 z2
  rw [z2] at B3 z3
  rw [z3] at B4 z4
  rw [z4] at B5 z5
  rw [z5] at B6
  obtain ⟨p0, e0⟩ : ∃ p, w.heap.size = p := ⟨_, rfl⟩
  obtain ⟨p1, e1⟩ : ∃ p, w.heap.size + 1 = p := ⟨_, rfl⟩
  obtain ⟨p2, e2⟩ : ∃ p, w.heap.size + 1 + 1 = p := ⟨_, rfl⟩
  obtain ⟨p3, e3⟩ : ∃ p, w.heap.size + 1 + 1 + 1 = p := ⟨_, rfl⟩
  obtain ⟨p4, e4⟩ : ∃ p, w.heap.size + 1 + 1 + 1 + 1 = p := ⟨_, rfl⟩
  obtain ⟨p5, e5⟩ : ∃ p, w.heap.size + 1 + 1 + 1 + 1 + 1 = p := ⟨_, rfl⟩
  have HO : Hid (OB w W6 a b c x y z p0 p1 p2 p3 p4 p5) := Lib.hid ⟨((((((HE.out.keep H1).keep H2).keep H3).keep H4).keep H5).keep H6), bchain (bchain (bchain (bchain (bchain H1 H2) H3) H4) H5) H6,
    e0 ▸ ((((B1.kp H2).kp H3).kp H4).kp H5).kp H6,
    e1 ▸ (((B2.kp H3).kp H4).kp H5).kp H6, e2 ▸ ((B3.kp H4).kp H5).kp H6, e3 ▸ (B4.kp H5).kp H6, e4 ▸ B5.kp H6, e5 ▸ B6⟩
  rw [e5, e4, e3, e2, e1, e0]
  clear HE H1 H2 H3 H4 H5 H6 B1 B2 B3 B4 B5 B6 z1 z2 z3 z4 z5 e0 e1 e2 e3 e4 e5
  clear W1 W2 W3 W4 W5
  go_wp2_with fail
  refine (AW.out _ HO.out.env).mono ?_
  rintro r w1 ⟨rfl, hb⟩
  have HO1 := Lib.hid (HO.out.keep hb)
  clear AW HO hb
  clear W6
  go_upto_region 3 with fail
  refine rest_begin (by kernel_rfl) ?_
  have HO2 := Lib.hid (HO1.out.keep (Below.refl _ w1).drew)
  clear HO1
  generalize w1.drew = W1 at *
  clear w1
  refine rest_flow7 [some 22, some 23, some 24, some 25, some 26, some 27, some 28, some 29, some 30, some 31, some 32, some 33, some 34, some 35] [Sp.is (.agg (enC a)), Sp.is (.agg (enC b)), Sp.is (.agg (enC c)), Sp.is (.agg (t3 a b c)), Sp.is (.agg (smC x)), Sp.is (.agg (enC d)), Sp.is (.agg (smC y)), Sp.is (.agg (enC e)), Sp.is (.agg (smC z)), Sp.is (.agg (enC f)), Sp.is (.agg (t3 d e f)), ⟨fun v w => ∃ p, v = .slice (some ⟨p, 0, none⟩) 2 2 ∧ Blk w p 33 (t6 a b c d e f), fun _ _ _ ⟨p, h1, h2⟩ hb => ⟨p, h1, h2.keep hb h2.lt⟩⟩, Sp.is (.int .i64 2), Sp.is (.int .i64 0)] [false, false, false, false, false, false, false, false, false, false, false, false, false, false] 14 (by kernel_rfl) (by kernel_rfl) (fun u F hF => ?_) (fun u w' hbF hsF hold hap => ?_)
  case refine_1 =>
    have E6 : F.eval (.tmp 6) = (.pointer (some ⟨p0, 0, none⟩)) := (congrArg (fun a => Act.eval a (.tmp 6)) hF).trans (eval_out [some 22, some 23, some 24, some 25, some 26, some 27, some 28, some 29, some 30, some 31, some 32, some 33, some 34, some 35] 0 _ (by decide))
    have E7 : F.eval (.tmp 7) = (.pointer (some ⟨p1, 0, none⟩)) := (congrArg (fun a => Act.eval a (.tmp 7)) hF).trans (eval_out [some 22, some 23, some 24, some 25, some 26, some 27, some 28, some 29, some 30, some 31, some 32, some 33, some 34, some 35] 0 _ (by decide))
    have E8 : F.eval (.tmp 8) = (.pointer (some ⟨p2, 0, none⟩)) := (congrArg (fun a => Act.eval a (.tmp 8)) hF).trans (eval_out [some 22, some 23, some 24, some 25, some 26, some 27, some 28, some 29, some 30, some 31, some 32, some 33, some 34, some 35] 0 _ (by decide))
    have D22 : F.eval (.tmp 22) = u 0 := (congrArg (fun a => Act.eval a (.tmp 22)) hF).trans (eval_in [some 22, some 23, some 24, some 25, some 26, some 27, some 28, some 29, some 30, some 31, some 32, some 33, some 34, some 35] 0 0 _ (by decide) (by omega) rfl (of_decide_eq_true (by kernel_rfl)))
    have D23 : F.eval (.tmp 23) = u 1 := (congrArg (fun a => Act.eval a (.tmp 23)) hF).trans (eval_in [some 22, some 23, some 24, some 25, some 26, some 27, some 28, some 29, some 30, some 31, some 32, some 33, some 34, some 35] 0 1 _ (by decide) (by omega) rfl (of_decide_eq_true (by kernel_rfl)))
    have D24 : F.eval (.tmp 24) = u 2 := (congrArg (fun a => Act.eval a (.tmp 24)) hF).trans (eval_in [some 22, some 23, some 24, some 25, some 26, some 27, some 28, some 29, some 30, some 31, some 32, some 33, some 34, some 35] 0 2 _ (by decide) (by omega) rfl (of_decide_eq_true (by kernel_rfl)))
    have E9 : F.eval (.tmp 9) = (.pointer (some ⟨p3, 0, none⟩)) := (congrArg (fun a => Act.eval a (.tmp 9)) hF).trans (eval_out [some 22, some 23, some 24, some 25, some 26, some 27, some 28, some 29, some 30, some 31, some 32, some 33, some 34, some 35] 0 _ (by decide))
    have D26 : F.eval (.tmp 26) = u 4 := (congrArg (fun a => Act.eval a (.tmp 26)) hF).trans (eval_in [some 22, some 23, some 24, some 25, some 26, some 27, some 28, some 29, some 30, some 31, some 32, some 33, some 34, some 35] 0 4 _ (by decide) (by omega) rfl (of_decide_eq_true (by kernel_rfl)))
    have E10 : F.eval (.tmp 10) = (.pointer (some ⟨p4, 0, none⟩)) := (congrArg (fun a => Act.eval a (.tmp 10)) hF).trans (eval_out [some 22, some 23, some 24, some 25, some 26, some 27, some 28, some 29, some 30, some 31, some 32, some 33, some 34, some 35] 0 _ (by decide))
    have D28 : F.eval (.tmp 28) = u 6 := (congrArg (fun a => Act.eval a (.tmp 28)) hF).trans (eval_in [some 22, some 23, some 24, some 25, some 26, some 27, some 28, some 29, some 30, some 31, some 32, some 33, some 34, some 35] 0 6 _ (by decide) (by omega) rfl (of_decide_eq_true (by kernel_rfl)))
    have E11 : F.eval (.tmp 11) = (.pointer (some ⟨p5, 0, none⟩)) := (congrArg (fun a => Act.eval a (.tmp 11)) hF).trans (eval_out [some 22, some 23, some 24, some 25, some 26, some 27, some 28, some 29, some 30, some 31, some 32, some 33, some 34, some 35] 0 _ (by decide))
    have D30 : F.eval (.tmp 30) = u 8 := (congrArg (fun a => Act.eval a (.tmp 30)) hF).trans (eval_in [some 22, some 23, some 24, some 25, some 26, some 27, some 28, some 29, some 30, some 31, some 32, some 33, some 34, some 35] 0 8 _ (by decide) (by omega) rfl (of_decide_eq_true (by kernel_rfl)))
    have D27 : F.eval (.tmp 27) = u 5 := (congrArg (fun a => Act.eval a (.tmp 27)) hF).trans (eval_in [some 22, some 23, some 24, some 25, some 26, some 27, some 28, some 29, some 30, some 31, some 32, some 33, some 34, some 35] 0 5 _ (by decide) (by omega) rfl (of_decide_eq_true (by kernel_rfl)))
    have D29 : F.eval (.tmp 29) = u 7 := (congrArg (fun a => Act.eval a (.tmp 29)) hF).trans (eval_in [some 22, some 23, some 24, some 25, some 26, some 27, some 28, some 29, some 30, some 31, some 32, some 33, some 34, some 35] 0 7 _ (by decide) (by omega) rfl (of_decide_eq_true (by kernel_rfl)))
    have D31 : F.eval (.tmp 31) = u 9 := (congrArg (fun a => Act.eval a (.tmp 31)) hF).trans (eval_in [some 22, some 23, some 24, some 25, some 26, some 27, some 28, some 29, some 30, some 31, some 32, some 33, some 34, some 35] 0 9 _ (by decide) (by omega) rfl (of_decide_eq_true (by kernel_rfl)))
    have D25 : F.eval (.tmp 25) = u 3 := (congrArg (fun a => Act.eval a (.tmp 25)) hF).trans (eval_in [some 22, some 23, some 24, some 25, some 26, some 27, some 28, some 29, some 30, some 31, some 32, some 33, some 34, some 35] 0 3 _ (by decide) (by omega) rfl (of_decide_eq_true (by kernel_rfl)))
    have D32 : F.eval (.tmp 32) = u 10 := (congrArg (fun a => Act.eval a (.tmp 32)) hF).trans (eval_in [some 22, some 23, some 24, some 25, some 26, some 27, some 28, some 29, some 30, some 31, some 32, some 33, some 34, some 35] 0 10 _ (by decide) (by omega) rfl (of_decide_eq_true (by kernel_rfl)))
    have D33 : F.eval (.tmp 33) = u 11 := (congrArg (fun a => Act.eval a (.tmp 33)) hF).trans (eval_in [some 22, some 23, some 24, some 25, some 26, some 27, some 28, some 29, some 30, some 31, some 32, some 33, some 34, some 35] 0 11 _ (by decide) (by omega) rfl (of_decide_eq_true (by kernel_rfl)))
    clear hF
    refine ⟨?_, ?_, ?_, ?_, ?_, ?_, ?_, ?_, ?_, ?_, ?_, ?_, ?_, ?_, trivial⟩
    · intro w1 hb hd K hK
      have e6 := E6
      exact op_val (v := (.agg (enC a))) rfl (exec_load rfl e6 (loadAt_blk (HO2.out.b0.keep hb HO2.out.b0.lt) Tryd.underlying29 rfl (by rw [enC_size]; kernel_rfl))) (hK _ _ (show _ = _ from rfl) (Below.refl _ _) (Fresh.no _ _ _))
    · intro w1 hb hd K hK
      have e7 := E7
      exact op_val (v := (.agg (enC b))) rfl (exec_load rfl e7 (loadAt_blk (HO2.out.b1.keep hb HO2.out.b1.lt) Tryd.underlying29 rfl (by rw [enC_size]; kernel_rfl))) (hK _ _ (show _ = _ from rfl) (Below.refl _ _) (Fresh.no _ _ _))
    · intro w1 hb hd K hK
      have e8 := E8
      exact op_val (v := (.agg (enC c))) rfl (exec_load rfl e8 (loadAt_blk (HO2.out.b2.keep hb HO2.out.b2.lt) Tryd.underlying29 rfl (by rw [enC_size]; kernel_rfl))) (hK _ _ (show _ = _ from rfl) (Below.refl _ _) (Fresh.no _ _ _))
    · intro w1 hb hd K hK
      have e22 := D22.trans (show u 0 = (.agg (enC a)) from hd ⟨0, .data⟩ (by simp) rfl (by omega))
      have e23 := D23.trans (show u 1 = (.agg (enC b)) from hd ⟨1, .data⟩ (by simp) rfl (by omega))
      have e24 := D24.trans (show u 2 = (.agg (enC c)) from hd ⟨2, .data⟩ (by simp) rfl (by omega))
      exact op_val (v := (.agg (t3 a b c))) rfl (exec_build rfl (by simp only [List.map_toArray, List.map_cons, List.map_nil, e22, e23, e24]) (t3_build a b c w1)) (hK _ _ (show _ = _ from rfl) (Below.refl _ _) (Fresh.no _ _ _))
    · intro w1 hb hd K hK
      have e9 := E9
      exact op_val (v := (.agg (smC x))) rfl (exec_load rfl e9 (loadAt_blk (HO2.out.b3.keep hb HO2.out.b3.lt) Tryd.underlying31 rfl (by kernel_rfl))) (hK _ _ (show _ = _ from rfl) (Below.refl _ _) (Fresh.no _ _ _))
    · intro w1 hb hd K hK
      have e26 := D26.trans (show u 4 = (.agg (smC x)) from hd ⟨4, .data⟩ (by simp) rfl (by omega))
      refine op_call (R := fun v w2 => v = (.agg (enC d)) ∧ Below w1.heap.size w1 w2) (f := 6) (args := #[.agg (smC x)]) rfl (by simp only [execOp]; go_simp; first | exact eval_get e26 | exact ⟨rfl, eval_get e26⟩ | exact ⟨eval_get e26, rfl⟩ | (simp only [Act.eval] at *; simp_all)) ((MX.out w1).mono fun e w2 hh => ⟨_, hh.1, rfl, hh.2⟩) (fun v w2 hh => hK _ _ hh.1 hh.2 (Fresh.no _ _ _))
    · intro w1 hb hd K hK
      have e10 := E10
      exact op_val (v := (.agg (smC y))) rfl (exec_load rfl e10 (loadAt_blk (HO2.out.b4.keep hb HO2.out.b4.lt) Tryd.underlying31 rfl (by kernel_rfl))) (hK _ _ (show _ = _ from rfl) (Below.refl _ _) (Fresh.no _ _ _))
    · intro w1 hb hd K hK
      have e28 := D28.trans (show u 6 = (.agg (smC y)) from hd ⟨6, .data⟩ (by simp) rfl (by omega))
      refine op_call (R := fun v w2 => v = (.agg (enC e)) ∧ Below w1.heap.size w1 w2) (f := 6) (args := #[.agg (smC y)]) rfl (by simp only [execOp]; go_simp; first | exact eval_get e28 | exact ⟨rfl, eval_get e28⟩ | exact ⟨eval_get e28, rfl⟩ | (simp only [Act.eval] at *; simp_all)) ((MY.out w1).mono fun e w2 hh => ⟨_, hh.1, rfl, hh.2⟩) (fun v w2 hh => hK _ _ hh.1 hh.2 (Fresh.no _ _ _))
    · intro w1 hb hd K hK
      have e11 := E11
      exact op_val (v := (.agg (smC z))) rfl (exec_load rfl e11 (loadAt_blk (HO2.out.b5.keep hb HO2.out.b5.lt) Tryd.underlying31 rfl (by kernel_rfl))) (hK _ _ (show _ = _ from rfl) (Below.refl _ _) (Fresh.no _ _ _))
    · intro w1 hb hd K hK
      have e30 := D30.trans (show u 8 = (.agg (smC z)) from hd ⟨8, .data⟩ (by simp) rfl (by omega))
      refine op_call (R := fun v w2 => v = (.agg (enC f)) ∧ Below w1.heap.size w1 w2) (f := 6) (args := #[.agg (smC z)]) rfl (by simp only [execOp]; go_simp; first | exact eval_get e30 | exact ⟨rfl, eval_get e30⟩ | exact ⟨eval_get e30, rfl⟩ | (simp only [Act.eval] at *; simp_all)) ((MZ.out w1).mono fun e w2 hh => ⟨_, hh.1, rfl, hh.2⟩) (fun v w2 hh => hK _ _ hh.1 hh.2 (Fresh.no _ _ _))
    · intro w1 hb hd K hK
      have e27 := D27.trans (show u 5 = (.agg (enC d)) from hd ⟨5, .data⟩ (by simp) rfl (by omega))
      have e29 := D29.trans (show u 7 = (.agg (enC e)) from hd ⟨7, .data⟩ (by simp) rfl (by omega))
      have e31 := D31.trans (show u 9 = (.agg (enC f)) from hd ⟨9, .data⟩ (by simp) rfl (by omega))
      exact op_val (v := (.agg (t3 d e f))) rfl (exec_build rfl (by simp only [List.map_toArray, List.map_cons, List.map_nil, e27, e29, e31]) (t3_build d e f w1)) (hK _ _ (show _ = _ from rfl) (Below.refl _ _) (Fresh.no _ _ _))
    · intro w1 hb hd K hK
      have e25 := D25.trans (show u 3 = (.agg (t3 a b c)) from hd ⟨3, .data⟩ (by simp) rfl (by omega))
      have e32 := D32.trans (show u 10 = (.agg (t3 d e f)) from hd ⟨10, .data⟩ (by simp) rfl (by omega))
      exact op_val (v := .slice (some ⟨w1.heap.size, 0, none⟩) 2 2) (w' := w1.alloc (.cells (t6 a b c d e f) 33)) rfl (exec_bslice rfl (by simp only [List.map_toArray, List.map_cons, List.map_nil, e25, e32]) (t6_build a b c d e f w1)) (hK _ _ (show ∃ p, _ ∧ _ from ⟨_, rfl, Blk.new w1 _ _⟩) (below1 _ _) (Fresh.no _ _ _))
    · intro w1 hb hd K hK
      obtain ⟨p, h1, -⟩ := (show ∃ p, u 11 = .slice (some ⟨p, 0, none⟩) 2 2 ∧ Blk w1 p 33 (t6 a b c d e f) from hd ⟨11, .data⟩ (by simp) rfl (by omega))
      have e33 := D33.trans h1
      have t33 := eval_get e33
      exact op_val (v := .int .i64 2) rfl (by simp only [execOp, List.map_toArray, List.map_cons, List.map_nil, e33]; go_simp) (hK _ _ (show _ = _ from rfl) (Below.refl _ _) (Fresh.no _ _ _))
    · intro w1 hb hd K hK
      exact op_val (v := (.int .i64 0)) rfl (by simp only [execOp, List.map_toArray, List.map_cons, List.map_nil]; go_simp) (hK _ _ (show _ = _ from rfl) (Below.refl _ _) (Fresh.no _ _ _))
  have hv22 : u 0 = (.agg (enC a)) := (show u 0 = _ from hsF 0 (by omega) (by omega))
  have hv23 : u 1 = (.agg (enC b)) := (show u 1 = _ from hsF 1 (by omega) (by omega))
  have hv24 : u 2 = (.agg (enC c)) := (show u 2 = _ from hsF 2 (by omega) (by omega))
  have hv25 : u 3 = (.agg (t3 a b c)) := (show u 3 = _ from hsF 3 (by omega) (by omega))
  have hv26 : u 4 = (.agg (smC x)) := (show u 4 = _ from hsF 4 (by omega) (by omega))
  have hv27 : u 5 = (.agg (enC d)) := (show u 5 = _ from hsF 5 (by omega) (by omega))
  have hv28 : u 6 = (.agg (smC y)) := (show u 6 = _ from hsF 6 (by omega) (by omega))
  have hv29 : u 7 = (.agg (enC e)) := (show u 7 = _ from hsF 7 (by omega) (by omega))
  have hv30 : u 8 = (.agg (smC z)) := (show u 8 = _ from hsF 8 (by omega) (by omega))
  have hv31 : u 9 = (.agg (enC f)) := (show u 9 = _ from hsF 9 (by omega) (by omega))
  have hv32 : u 10 = (.agg (t3 d e f)) := (show u 10 = _ from hsF 10 (by omega) (by omega))
  obtain ⟨pl, hv33, hB33⟩ := (show ∃ p, u 11 = .slice (some ⟨p, 0, none⟩) 2 2 ∧ Blk w' p 33 (t6 a b c d e f) from hsF 11 (by omega) (by omega))
  have hv34 : u 12 = .int .i64 2 := (show u 12 = _ from hsF 12 (by omega) (by omega))
  have hv35 : u 13 = (.int .i64 0) := (show u 13 = _ from hsF 13 (by omega) (by omega))
  simp only [putRow, hv22, hv23, hv24, hv25, hv26, hv27, hv28, hv29, hv30, hv31, hv32, hv33, hv34, hv35, Act.put, List.setIfInBounds_toArray, List.set_cons_succ, List.set_cons_zero]
  clear hsF hold hap hv22 hv23 hv24 hv25 hv26 hv27 hv28 hv29 hv30 hv31 hv32 hv33 hv34 hv35
  have HO3 := Lib.hid (HO2.out.keep hbF)
  have HT := Lib.hid hB33
  clear HO2 hB33 hbF MX MY MZ
  clear W1
  refine rest_done rfl ?_
  go_wp2_with fail
  go_loopw [35] (fun s35 wr => ∃ i : Nat, i ≤ 2 ∧ s35 = .int .i64 (i : Int) ∧ Hid (Below w.heap.size w wr) ∧ Hid (Blk wr pl 33 (t6 a b c d e f))) (fun s35 _ => 2 - (intOf s35).toNat)
  case atStart => exact ⟨0, by omega, rfl, Lib.hid HO3.out.below, HT⟩
  case round =>
    clear HO3 HT
    obtain ⟨i, hi, rfl, HW, HT⟩ := hrel
    by_cases hlt : i < 2
    · have t1 : decide ((i : Int) < 2) = true := decide_eq_true (by omega)
      obtain ⟨u0, u1, u2, i0, i1, i2, ld⟩ : ∃ u0 u1 u2 : En, u0.In ∧ u1.In ∧ u2.In ∧ (Instr.loadAt 33 (.pointer (some ⟨pl, i * 99, none⟩))).run Tryd.prog wr = .ok (.agg (t3 u0 u1 u2)) wr := by
        obtain ⟨h1, h2, h3, h4, h5, h6⟩ := HIN.out
        rcases (by omega : i = 0 ∨ i = 1) with rfl | rfl
        · exact ⟨a, b, c, h1, h2, h3, t6_lo HT.out⟩
        · exact ⟨d, e, f, h4, h5, h6, t6_hi HT.out⟩
      have j0 : (0 : Int) ≤ (i : Int) := by omega
      have j1 : (i : Int) < 2 := by omega
      have j2 : ¬ (2 : Int) ≤ (i : Int) := by omega
      have j3 : ¬ 2 ≤ i := by omega
      have ei : IntKind.i64.wrap ((i : Int) + 1) = (i : Int) + 1 := IntWalk.i64_in _ (by omega)
      have st := storeAt_row (T := 33) (C := t3 u0 u1 u2) (Blk.new wr 33 (t3 zE zE zE)) (by rw [t3_size]; kernel_rfl) (by simp only [t3_size]) (t3_one _ _ _)
      rw [setRow_new, t3_lit] at st
      have HN := Lib.hid (Blk.new wr 33 (t3 u0 u1 u2))
      have hb1 := below1 wr (.cells (t3 u0 u1 u2) 33)
      have HW1 : Hid (Below w.heap.size w _) := Lib.hid (HW.out.trans (hb1.mono HW.out.size))
      have HT1 := Lib.hid (HT.out.keep hb1 HT.out.lt)
      have HQ : Hid (pl < wr.heap.size) := Lib.hid HT.out.lt
      clear hb1 HW HT
      go_upto_region 6 with (first
        | refine op_load (p := .pointer (some ⟨pl, i * 99, none⟩)) 33 (.tmp 37) rfl rfl rfl ld ?_
        | refine op_store (p := .pointer (some ⟨wr.heap.size, 0, none⟩)) (C := .agg (t3 u0 u1 u2)) 33 (.tmp 14) (.tmp 38) rfl rfl rfl rfl rfl st ?_)
      clear ld st t1
      obtain ⟨pn, hpn⟩ : ∃ pn, wr.heap.size = pn := ⟨_, rfl⟩
      rw [hpn] at HN HQ ⊢
      clear hpn
      generalize wr.alloc (.cells (t3 u0 u1 u2) 33) = W1 at *
      clear wr
      have L0 : ∀ W, Blk W pn 33 (t3 u0 u1 u2) → (Instr.loadAt 29 (.pointer (some ⟨pn, 0, none⟩))).run Tryd.prog W = .ok (.agg (enC u0)) W := fun W h => t3_at (j := 0) rfl h
      have L1 : ∀ W, Blk W pn 33 (t3 u0 u1 u2) → (Instr.loadAt 29 (.pointer (some ⟨pn, 33, none⟩))).run Tryd.prog W = .ok (.agg (enC u1)) W := fun W h => t3_at (j := 1) rfl h
      have L2 : ∀ W, Blk W pn 33 (t3 u0 u1 u2) → (Instr.loadAt 29 (.pointer (some ⟨pn, 66, none⟩))).run Tryd.prog W = .ok (.agg (enC u2)) W := fun W h => t3_at (j := 2) rfl h
      have C01 := Lib.hid (fun W => cmpE_any u0 u1 i0 i1 W)
      have C12 := Lib.hid (fun W => cmpE_any u1 u2 i1 i2 W)
      have C02 := Lib.hid (fun W => cmpE_any u0 u2 i0 i2 W)
      have C10 := Lib.hid (fun W => cmpE_any u1 u0 i1 i0 W)
      have CKY := Lib.hid (fun W => cmpE_any (u0.key u1) u1 (key_in i0 i1) i1 W)
      have EQ := eql_deep (eq_en u0 u1 i0 i1)
      have HPS : Hid ((cmpE u0 u1 = -1 ∨ cmpE u0 u1 = 0 ∨ cmpE u0 u1 = 1) ∧ (cmpE u1 u2 = -1 ∨ cmpE u1 u2 = 0 ∨ cmpE u1 u2 = 1) ∧ (cmpE u0 u1 ≤ 0 → cmpE u1 u2 ≤ 0 → cmpE u0 u2 ≤ 0) ∧ (0 ≤ cmpE u0 u1 → 0 ≤ cmpE u1 u2 → 0 ≤ cmpE u0 u2) ∧ cmpE u1 u0 = - cmpE u0 u1 ∧ eqEn u0 u1 = decide (cmpE u0 u1 = 0)) := Lib.hid
        ⟨cmp_range _ _, cmp_range _ _, cmp_trans, fun h1 h2 => by
          have s1 := cmp_swap u0 u1
          have s2 := cmp_swap u1 u2
          have s3 := cmp_swap u0 u2
          have := cmp_trans (a := u2) (b := u1) (c := u0) (by omega) (by omega)
          omega, cmp_swap _ _, eqEn_cmp _ _⟩
      generalize cmpE u0 u1 = p at *
      generalize cmpE u1 u2 = q at *
      generalize cmpE u0 u2 = r at *
      generalize cmpE u1 u0 = m at *
      obtain ⟨v, hv⟩ : ∃ v, eqEn u0 u1 = v := ⟨_, rfl⟩
      rw [hv] at EQ HPS
      clear hv
      refine rest_begin (by kernel_rfl) ?_
      have HW2 : Hid (Below w.heap.size w W1.drew) := Lib.hid (HW1.out.drew)
      have HT2 : Hid (Blk W1.drew pl 33 (t6 a b c d e f)) := HT1
      have HN2 : Hid (Blk W1.drew pn 33 (t3 u0 u1 u2)) := HN
      clear HW1 HT1 HN
      generalize W1.drew = W2 at *
      clear W1
      refine rest_flow3 [some 39, some 40, some 41, some 42, some 43, some 44, some 45, some 46, some 47, some 48, some 49, some 50, some 51, some 52, some 53] [Sp.is (.pointer (some ⟨pn, 0, none⟩)), Sp.is (.agg (enC u0)), Sp.is (.pointer (some ⟨pn, 33, none⟩)), Sp.is (.agg (enC u1)), Sp.is (.int .i64 p), Sp.is (.pointer (some ⟨pn, 33, none⟩)), Sp.is (.agg (enC u1)), Sp.is (.pointer (some ⟨pn, 66, none⟩)), Sp.is (.agg (enC u2)), Sp.is (.int .i64 q), Sp.is (.pointer (some ⟨pn, 0, none⟩)), Sp.is (.agg (enC u0)), Sp.is (.pointer (some ⟨pn, 66, none⟩)), Sp.is (.agg (enC u2)), Sp.is (.int .i64 r)] [false, false, false, false, false, false, false, false, false, false, false, false, false, false, false] 15 (by kernel_rfl) (by kernel_rfl) (fun u F hF => ?_) (fun u w' hbF hsF hold hap => ?_)
      case refine_1 =>
        have E14 : F.eval (.tmp 14) = (.pointer (some ⟨pn, 0, none⟩)) := (congrArg (fun a => Act.eval a (.tmp 14)) hF).trans (eval_out [some 39, some 40, some 41, some 42, some 43, some 44, some 45, some 46, some 47, some 48, some 49, some 50, some 51, some 52, some 53] 0 _ (by decide))
        have D39 : F.eval (.tmp 39) = u 0 := (congrArg (fun a => Act.eval a (.tmp 39)) hF).trans (eval_in [some 39, some 40, some 41, some 42, some 43, some 44, some 45, some 46, some 47, some 48, some 49, some 50, some 51, some 52, some 53] 0 0 _ (by decide) (by omega) rfl (of_decide_eq_true (by kernel_rfl)))
        have D41 : F.eval (.tmp 41) = u 2 := (congrArg (fun a => Act.eval a (.tmp 41)) hF).trans (eval_in [some 39, some 40, some 41, some 42, some 43, some 44, some 45, some 46, some 47, some 48, some 49, some 50, some 51, some 52, some 53] 0 2 _ (by decide) (by omega) rfl (of_decide_eq_true (by kernel_rfl)))
        have D40 : F.eval (.tmp 40) = u 1 := (congrArg (fun a => Act.eval a (.tmp 40)) hF).trans (eval_in [some 39, some 40, some 41, some 42, some 43, some 44, some 45, some 46, some 47, some 48, some 49, some 50, some 51, some 52, some 53] 0 1 _ (by decide) (by omega) rfl (of_decide_eq_true (by kernel_rfl)))
        have D42 : F.eval (.tmp 42) = u 3 := (congrArg (fun a => Act.eval a (.tmp 42)) hF).trans (eval_in [some 39, some 40, some 41, some 42, some 43, some 44, some 45, some 46, some 47, some 48, some 49, some 50, some 51, some 52, some 53] 0 3 _ (by decide) (by omega) rfl (of_decide_eq_true (by kernel_rfl)))
        have D44 : F.eval (.tmp 44) = u 5 := (congrArg (fun a => Act.eval a (.tmp 44)) hF).trans (eval_in [some 39, some 40, some 41, some 42, some 43, some 44, some 45, some 46, some 47, some 48, some 49, some 50, some 51, some 52, some 53] 0 5 _ (by decide) (by omega) rfl (of_decide_eq_true (by kernel_rfl)))
        have D46 : F.eval (.tmp 46) = u 7 := (congrArg (fun a => Act.eval a (.tmp 46)) hF).trans (eval_in [some 39, some 40, some 41, some 42, some 43, some 44, some 45, some 46, some 47, some 48, some 49, some 50, some 51, some 52, some 53] 0 7 _ (by decide) (by omega) rfl (of_decide_eq_true (by kernel_rfl)))
        have D45 : F.eval (.tmp 45) = u 6 := (congrArg (fun a => Act.eval a (.tmp 45)) hF).trans (eval_in [some 39, some 40, some 41, some 42, some 43, some 44, some 45, some 46, some 47, some 48, some 49, some 50, some 51, some 52, some 53] 0 6 _ (by decide) (by omega) rfl (of_decide_eq_true (by kernel_rfl)))
        have D47 : F.eval (.tmp 47) = u 8 := (congrArg (fun a => Act.eval a (.tmp 47)) hF).trans (eval_in [some 39, some 40, some 41, some 42, some 43, some 44, some 45, some 46, some 47, some 48, some 49, some 50, some 51, some 52, some 53] 0 8 _ (by decide) (by omega) rfl (of_decide_eq_true (by kernel_rfl)))
        have D49 : F.eval (.tmp 49) = u 10 := (congrArg (fun a => Act.eval a (.tmp 49)) hF).trans (eval_in [some 39, some 40, some 41, some 42, some 43, some 44, some 45, some 46, some 47, some 48, some 49, some 50, some 51, some 52, some 53] 0 10 _ (by decide) (by omega) rfl (of_decide_eq_true (by kernel_rfl)))
        have D51 : F.eval (.tmp 51) = u 12 := (congrArg (fun a => Act.eval a (.tmp 51)) hF).trans (eval_in [some 39, some 40, some 41, some 42, some 43, some 44, some 45, some 46, some 47, some 48, some 49, some 50, some 51, some 52, some 53] 0 12 _ (by decide) (by omega) rfl (of_decide_eq_true (by kernel_rfl)))
        have D50 : F.eval (.tmp 50) = u 11 := (congrArg (fun a => Act.eval a (.tmp 50)) hF).trans (eval_in [some 39, some 40, some 41, some 42, some 43, some 44, some 45, some 46, some 47, some 48, some 49, some 50, some 51, some 52, some 53] 0 11 _ (by decide) (by omega) rfl (of_decide_eq_true (by kernel_rfl)))
        have D52 : F.eval (.tmp 52) = u 13 := (congrArg (fun a => Act.eval a (.tmp 52)) hF).trans (eval_in [some 39, some 40, some 41, some 42, some 43, some 44, some 45, some 46, some 47, some 48, some 49, some 50, some 51, some 52, some 53] 0 13 _ (by decide) (by omega) rfl (of_decide_eq_true (by kernel_rfl)))
        clear hF
        refine ⟨?_, ?_, ?_, ?_, ?_, ?_, ?_, ?_, ?_, ?_, ?_, ?_, ?_, ?_, ?_, trivial⟩
        · intro w1 hb hd K hK
          have e14 := E14
          exact op_val (v := (.pointer (some ⟨pn, 0, none⟩))) rfl (by simp only [execOp, List.map_toArray, List.map_cons, List.map_nil, e14]; go_simp) (hK _ _ (show _ = _ from rfl) (Below.refl _ _) (Fresh.no _ _ _))
        · intro w1 hb hd K hK
          have e39 := D39.trans (show u 0 = (.pointer (some ⟨pn, 0, none⟩)) from hd ⟨0, .data⟩ (by simp) rfl (by omega))
          exact op_val (v := (.agg (enC u0))) rfl (exec_load rfl e39 (L0 w1 (HN2.out.kp hb))) (hK _ _ (show _ = _ from rfl) (Below.refl _ _) (Fresh.no _ _ _))
        · intro w1 hb hd K hK
          have e14 := E14
          exact op_val (v := (.pointer (some ⟨pn, 33, none⟩))) rfl (by simp only [execOp, List.map_toArray, List.map_cons, List.map_nil, e14]; go_simp) (hK _ _ (show _ = _ from rfl) (Below.refl _ _) (Fresh.no _ _ _))
        · intro w1 hb hd K hK
          have e41 := D41.trans (show u 2 = (.pointer (some ⟨pn, 33, none⟩)) from hd ⟨2, .data⟩ (by simp) rfl (by omega))
          exact op_val (v := (.agg (enC u1))) rfl (exec_load rfl e41 (L1 w1 (HN2.out.kp hb))) (hK _ _ (show _ = _ from rfl) (Below.refl _ _) (Fresh.no _ _ _))
        · intro w1 hb hd K hK
          have e40 := D40.trans (show u 1 = (.agg (enC u0)) from hd ⟨1, .data⟩ (by simp) rfl (by omega))
          have e42 := D42.trans (show u 3 = (.agg (enC u1)) from hd ⟨3, .data⟩ (by simp) rfl (by omega))
          refine op_call (R := fun v w2 => v = (.int .i64 p) ∧ Below w1.heap.size w1 w2) (f := 7) (args := #[.agg (enC u0), .agg (enC u1)]) rfl (by simp only [execOp]; go_simp; first | exact ⟨eval_get e40, eval_get e42⟩ | (simp only [Act.eval] at *; simp_all)) ((C01.out w1).mono fun e w2 hh => ⟨_, hh.1, rfl, hh.2⟩) (fun v w2 hh => hK _ _ hh.1 hh.2 (Fresh.no _ _ _))
        · intro w1 hb hd K hK
          have e14 := E14
          exact op_val (v := (.pointer (some ⟨pn, 33, none⟩))) rfl (by simp only [execOp, List.map_toArray, List.map_cons, List.map_nil, e14]; go_simp) (hK _ _ (show _ = _ from rfl) (Below.refl _ _) (Fresh.no _ _ _))
        · intro w1 hb hd K hK
          have e44 := D44.trans (show u 5 = (.pointer (some ⟨pn, 33, none⟩)) from hd ⟨5, .data⟩ (by simp) rfl (by omega))
          exact op_val (v := (.agg (enC u1))) rfl (exec_load rfl e44 (L1 w1 (HN2.out.kp hb))) (hK _ _ (show _ = _ from rfl) (Below.refl _ _) (Fresh.no _ _ _))
        · intro w1 hb hd K hK
          have e14 := E14
          exact op_val (v := (.pointer (some ⟨pn, 66, none⟩))) rfl (by simp only [execOp, List.map_toArray, List.map_cons, List.map_nil, e14]; go_simp) (hK _ _ (show _ = _ from rfl) (Below.refl _ _) (Fresh.no _ _ _))
        · intro w1 hb hd K hK
          have e46 := D46.trans (show u 7 = (.pointer (some ⟨pn, 66, none⟩)) from hd ⟨7, .data⟩ (by simp) rfl (by omega))
          exact op_val (v := (.agg (enC u2))) rfl (exec_load rfl e46 (L2 w1 (HN2.out.kp hb))) (hK _ _ (show _ = _ from rfl) (Below.refl _ _) (Fresh.no _ _ _))
        · intro w1 hb hd K hK
          have e45 := D45.trans (show u 6 = (.agg (enC u1)) from hd ⟨6, .data⟩ (by simp) rfl (by omega))
          have e47 := D47.trans (show u 8 = (.agg (enC u2)) from hd ⟨8, .data⟩ (by simp) rfl (by omega))
          refine op_call (R := fun v w2 => v = (.int .i64 q) ∧ Below w1.heap.size w1 w2) (f := 7) (args := #[.agg (enC u1), .agg (enC u2)]) rfl (by simp only [execOp]; go_simp; first | exact ⟨eval_get e45, eval_get e47⟩ | (simp only [Act.eval] at *; simp_all)) ((C12.out w1).mono fun e w2 hh => ⟨_, hh.1, rfl, hh.2⟩) (fun v w2 hh => hK _ _ hh.1 hh.2 (Fresh.no _ _ _))
        · intro w1 hb hd K hK
          have e14 := E14
          exact op_val (v := (.pointer (some ⟨pn, 0, none⟩))) rfl (by simp only [execOp, List.map_toArray, List.map_cons, List.map_nil, e14]; go_simp) (hK _ _ (show _ = _ from rfl) (Below.refl _ _) (Fresh.no _ _ _))
        · intro w1 hb hd K hK
          have e49 := D49.trans (show u 10 = (.pointer (some ⟨pn, 0, none⟩)) from hd ⟨10, .data⟩ (by simp) rfl (by omega))
          exact op_val (v := (.agg (enC u0))) rfl (exec_load rfl e49 (L0 w1 (HN2.out.kp hb))) (hK _ _ (show _ = _ from rfl) (Below.refl _ _) (Fresh.no _ _ _))
        · intro w1 hb hd K hK
          have e14 := E14
          exact op_val (v := (.pointer (some ⟨pn, 66, none⟩))) rfl (by simp only [execOp, List.map_toArray, List.map_cons, List.map_nil, e14]; go_simp) (hK _ _ (show _ = _ from rfl) (Below.refl _ _) (Fresh.no _ _ _))
        · intro w1 hb hd K hK
          have e51 := D51.trans (show u 12 = (.pointer (some ⟨pn, 66, none⟩)) from hd ⟨12, .data⟩ (by simp) rfl (by omega))
          exact op_val (v := (.agg (enC u2))) rfl (exec_load rfl e51 (L2 w1 (HN2.out.kp hb))) (hK _ _ (show _ = _ from rfl) (Below.refl _ _) (Fresh.no _ _ _))
        · intro w1 hb hd K hK
          have e50 := D50.trans (show u 11 = (.agg (enC u0)) from hd ⟨11, .data⟩ (by simp) rfl (by omega))
          have e52 := D52.trans (show u 13 = (.agg (enC u2)) from hd ⟨13, .data⟩ (by simp) rfl (by omega))
          refine op_call (R := fun v w2 => v = (.int .i64 r) ∧ Below w1.heap.size w1 w2) (f := 7) (args := #[.agg (enC u0), .agg (enC u2)]) rfl (by simp only [execOp]; go_simp; first | exact ⟨eval_get e50, eval_get e52⟩ | (simp only [Act.eval] at *; simp_all)) ((C02.out w1).mono fun e w2 hh => ⟨_, hh.1, rfl, hh.2⟩) (fun v w2 hh => hK _ _ hh.1 hh.2 (Fresh.no _ _ _))
      have hv39 : u 0 = (.pointer (some ⟨pn, 0, none⟩)) := (show u 0 = _ from hsF 0 (by omega) (by omega))
      have hv40 : u 1 = (.agg (enC u0)) := (show u 1 = _ from hsF 1 (by omega) (by omega))
      have hv41 : u 2 = (.pointer (some ⟨pn, 33, none⟩)) := (show u 2 = _ from hsF 2 (by omega) (by omega))
      have hv42 : u 3 = (.agg (enC u1)) := (show u 3 = _ from hsF 3 (by omega) (by omega))
      have hv43 : u 4 = (.int .i64 p) := (show u 4 = _ from hsF 4 (by omega) (by omega))
      have hv44 : u 5 = (.pointer (some ⟨pn, 33, none⟩)) := (show u 5 = _ from hsF 5 (by omega) (by omega))
      have hv45 : u 6 = (.agg (enC u1)) := (show u 6 = _ from hsF 6 (by omega) (by omega))
      have hv46 : u 7 = (.pointer (some ⟨pn, 66, none⟩)) := (show u 7 = _ from hsF 7 (by omega) (by omega))
      have hv47 : u 8 = (.agg (enC u2)) := (show u 8 = _ from hsF 8 (by omega) (by omega))
      have hv48 : u 9 = (.int .i64 q) := (show u 9 = _ from hsF 9 (by omega) (by omega))
      have hv49 : u 10 = (.pointer (some ⟨pn, 0, none⟩)) := (show u 10 = _ from hsF 10 (by omega) (by omega))
      have hv50 : u 11 = (.agg (enC u0)) := (show u 11 = _ from hsF 11 (by omega) (by omega))
      have hv51 : u 12 = (.pointer (some ⟨pn, 66, none⟩)) := (show u 12 = _ from hsF 12 (by omega) (by omega))
      have hv52 : u 13 = (.agg (enC u2)) := (show u 13 = _ from hsF 13 (by omega) (by omega))
      have hv53 : u 14 = (.int .i64 r) := (show u 14 = _ from hsF 14 (by omega) (by omega))
      simp only [putRow, hv39, hv40, hv41, hv42, hv43, hv44, hv45, hv46, hv47, hv48, hv49, hv50, hv51, hv52, hv53, Act.put, List.setIfInBounds_toArray, List.set_cons_succ, List.set_cons_zero]
      clear hsF hold hap hv39 hv40 hv41 hv42 hv43 hv44 hv45 hv46 hv47 hv48 hv49 hv50 hv51 hv52 hv53
      have HW3 : Hid (Below w.heap.size w _) := Lib.hid (HW2.out.trans (hbF.mono HW2.out.size))
      have HT3 := Lib.hid (HT2.out.kp hbF)
      have HN3 := Lib.hid (HN2.out.kp hbF)
      clear HW2 HT2 HN2 hbF C01 C12 C02
      clear W2
      refine rest_forced 3 (by kernel_rfl) ?_
      simp only [List.drop_succ_cons, List.drop_zero, List.take_succ_cons, List.take_zero]
      go_wp2_with fail
      refine rest_done rfl ?_
      go_upto_region 7 with fail
      go_cut [103] (fun s wx => s = .bool false ∧ Hid (Below w.heap.size w wx) ∧ Hid (Blk wx pl 33 (t6 a b c d e f)) ∧ Hid (Blk wx pn 33 (t3 u0 u1 u2)))
      case first =>
        have la := L1 _ HN3.out
        have lb := L0 _ HN3.out
        obtain ⟨hp, hq, h1, h2, h3, h4⟩ := HPS.out
        clear HPS CKY L2
        have w1p : IntKind.i64.wrap 1 = 1 := by decide
        have w1m : IntKind.i64.wrap (-1) = -1 := by decide
        have w1z : IntKind.i64.wrap 0 = 0 := by decide
        rcases hp with rfl | rfl | rfl <;> rcases hq with rfl | rfl | rfl
        · obtain rfl : m = 1 := by omega
          obtain rfl : v = false := h4
          have r1 : decide ((0 : Int) < r) = false := decide_eq_false (by have := h1 (by decide) (by decide); omega)
          clear h1 h2 h3
          go_wp2_with (first | (guard_target =~ wpList _ _ _ (⟨some 55, _, _, _, _, _⟩ :: _) _ _; refine op_load (p := .pointer (some ⟨pn, 33, none⟩)) 29 (.tmp 54) rfl rfl rfl la ?_) | (guard_target =~ wpList _ _ _ (⟨some 57, _, _, _, _, _⟩ :: _) _ _; refine op_load (p := .pointer (some ⟨pn, 0, none⟩)) 29 (.tmp 56) rfl rfl rfl lb ?_))
          refine (C10.out _).mono ?_
          rintro x9 w9 ⟨rfl, hb9⟩
          have la9 := L0 _ (HN3.out.kp hb9)
          have lb9 := L1 _ (HN3.out.kp hb9)
          go_wp2_with (first | (guard_target =~ wpList _ _ _ (⟨some 66, _, _, _, _, _⟩ :: _) _ _; refine op_load_w (p := .pointer (some ⟨pn, 0, none⟩)) 29 (.tmp 65) (by kernel_rfl) rfl rfl la9 ?_) | (guard_target =~ wpList _ _ _ (⟨some 68, _, _, _, _, _⟩ :: _) _ _; refine op_load_w (p := .pointer (some ⟨pn, 33, none⟩)) 29 (.tmp 67) (by kernel_rfl) rfl rfl lb9 ?_) | (guard_target =~ wpList _ _ _ (⟨some 69, _, _, _, _, _⟩ :: _) _ _; refine op_bin_w (X := enC u0) (Y := enC u1) .eql 29 _ (.tmp 66) (.tmp 68) (by kernel_rfl) rfl rfl rfl (by kernel_rfl) (EQ _) ?_))
          go_meet
          exact ⟨rfl, Lib.hid (HW3.out.trans (hb9.mono HW3.out.size)), Lib.hid (HT3.out.kp hb9), Lib.hid (HN3.out.kp hb9)⟩
        · obtain rfl : m = 1 := by omega
          obtain rfl : v = false := h4
          have r1 : decide ((0 : Int) < r) = false := decide_eq_false (by have := h1 (by decide) (by decide); omega)
          clear h1 h2 h3
          go_wp2_with (first | (guard_target =~ wpList _ _ _ (⟨some 55, _, _, _, _, _⟩ :: _) _ _; refine op_load (p := .pointer (some ⟨pn, 33, none⟩)) 29 (.tmp 54) rfl rfl rfl la ?_) | (guard_target =~ wpList _ _ _ (⟨some 57, _, _, _, _, _⟩ :: _) _ _; refine op_load (p := .pointer (some ⟨pn, 0, none⟩)) 29 (.tmp 56) rfl rfl rfl lb ?_))
          refine (C10.out _).mono ?_
          rintro x9 w9 ⟨rfl, hb9⟩
          have la9 := L0 _ (HN3.out.kp hb9)
          have lb9 := L1 _ (HN3.out.kp hb9)
          go_wp2_with (first | (guard_target =~ wpList _ _ _ (⟨some 66, _, _, _, _, _⟩ :: _) _ _; refine op_load_w (p := .pointer (some ⟨pn, 0, none⟩)) 29 (.tmp 65) (by kernel_rfl) rfl rfl la9 ?_) | (guard_target =~ wpList _ _ _ (⟨some 68, _, _, _, _, _⟩ :: _) _ _; refine op_load_w (p := .pointer (some ⟨pn, 33, none⟩)) 29 (.tmp 67) (by kernel_rfl) rfl rfl lb9 ?_) | (guard_target =~ wpList _ _ _ (⟨some 69, _, _, _, _, _⟩ :: _) _ _; refine op_bin_w (X := enC u0) (Y := enC u1) .eql 29 _ (.tmp 66) (.tmp 68) (by kernel_rfl) rfl rfl rfl (by kernel_rfl) (EQ _) ?_))
          go_meet
          exact ⟨rfl, Lib.hid (HW3.out.trans (hb9.mono HW3.out.size)), Lib.hid (HT3.out.kp hb9), Lib.hid (HN3.out.kp hb9)⟩
        · obtain rfl : m = 1 := by omega
          obtain rfl : v = false := h4
          clear h1 h2 h3
          go_wp2_with (first | (guard_target =~ wpList _ _ _ (⟨some 55, _, _, _, _, _⟩ :: _) _ _; refine op_load (p := .pointer (some ⟨pn, 33, none⟩)) 29 (.tmp 54) rfl rfl rfl la ?_) | (guard_target =~ wpList _ _ _ (⟨some 57, _, _, _, _, _⟩ :: _) _ _; refine op_load (p := .pointer (some ⟨pn, 0, none⟩)) 29 (.tmp 56) rfl rfl rfl lb ?_))
          refine (C10.out _).mono ?_
          rintro x9 w9 ⟨rfl, hb9⟩
          have la9 := L0 _ (HN3.out.kp hb9)
          have lb9 := L1 _ (HN3.out.kp hb9)
          go_wp2_with (first | (guard_target =~ wpList _ _ _ (⟨some 66, _, _, _, _, _⟩ :: _) _ _; refine op_load_w (p := .pointer (some ⟨pn, 0, none⟩)) 29 (.tmp 65) (by kernel_rfl) rfl rfl la9 ?_) | (guard_target =~ wpList _ _ _ (⟨some 68, _, _, _, _, _⟩ :: _) _ _; refine op_load_w (p := .pointer (some ⟨pn, 33, none⟩)) 29 (.tmp 67) (by kernel_rfl) rfl rfl lb9 ?_) | (guard_target =~ wpList _ _ _ (⟨some 69, _, _, _, _, _⟩ :: _) _ _; refine op_bin_w (X := enC u0) (Y := enC u1) .eql 29 _ (.tmp 66) (.tmp 68) (by kernel_rfl) rfl rfl rfl (by kernel_rfl) (EQ _) ?_))
          go_meet
          exact ⟨rfl, Lib.hid (HW3.out.trans (hb9.mono HW3.out.size)), Lib.hid (HT3.out.kp hb9), Lib.hid (HN3.out.kp hb9)⟩
        · obtain rfl : m = 0 := by omega
          obtain rfl : v = true := h4
          have r1 : decide ((0 : Int) < r) = false := decide_eq_false (by have := h1 (by decide) (by decide); omega)
          clear h1 h2 h3
          go_wp2_with (first | (guard_target =~ wpList _ _ _ (⟨some 55, _, _, _, _, _⟩ :: _) _ _; refine op_load (p := .pointer (some ⟨pn, 33, none⟩)) 29 (.tmp 54) rfl rfl rfl la ?_) | (guard_target =~ wpList _ _ _ (⟨some 57, _, _, _, _, _⟩ :: _) _ _; refine op_load (p := .pointer (some ⟨pn, 0, none⟩)) 29 (.tmp 56) rfl rfl rfl lb ?_))
          refine (C10.out _).mono ?_
          rintro x9 w9 ⟨rfl, hb9⟩
          have la9 := L0 _ (HN3.out.kp hb9)
          have lb9 := L1 _ (HN3.out.kp hb9)
          go_wp2_with (first | (guard_target =~ wpList _ _ _ (⟨some 66, _, _, _, _, _⟩ :: _) _ _; refine op_load_w (p := .pointer (some ⟨pn, 0, none⟩)) 29 (.tmp 65) (by kernel_rfl) rfl rfl la9 ?_) | (guard_target =~ wpList _ _ _ (⟨some 68, _, _, _, _, _⟩ :: _) _ _; refine op_load_w (p := .pointer (some ⟨pn, 33, none⟩)) 29 (.tmp 67) (by kernel_rfl) rfl rfl lb9 ?_) | (guard_target =~ wpList _ _ _ (⟨some 69, _, _, _, _, _⟩ :: _) _ _; refine op_bin_w (X := enC u0) (Y := enC u1) .eql 29 _ (.tmp 66) (.tmp 68) (by kernel_rfl) rfl rfl rfl (by kernel_rfl) (EQ _) ?_))
          go_meet
          exact ⟨rfl, Lib.hid (HW3.out.trans (hb9.mono HW3.out.size)), Lib.hid (HT3.out.kp hb9), Lib.hid (HN3.out.kp hb9)⟩
        · obtain rfl : m = 0 := by omega
          obtain rfl : v = true := h4
          have r1 : decide ((0 : Int) < r) = false := decide_eq_false (by have := h1 (by decide) (by decide); omega)
          have r2 : decide (r < (0 : Int)) = false := decide_eq_false (by have := h2 (by decide) (by decide); omega)
          clear h1 h2 h3
          go_wp2_with (first | (guard_target =~ wpList _ _ _ (⟨some 55, _, _, _, _, _⟩ :: _) _ _; refine op_load (p := .pointer (some ⟨pn, 33, none⟩)) 29 (.tmp 54) rfl rfl rfl la ?_) | (guard_target =~ wpList _ _ _ (⟨some 57, _, _, _, _, _⟩ :: _) _ _; refine op_load (p := .pointer (some ⟨pn, 0, none⟩)) 29 (.tmp 56) rfl rfl rfl lb ?_))
          refine (C10.out _).mono ?_
          rintro x9 w9 ⟨rfl, hb9⟩
          have la9 := L0 _ (HN3.out.kp hb9)
          have lb9 := L1 _ (HN3.out.kp hb9)
          go_wp2_with (first | (guard_target =~ wpList _ _ _ (⟨some 66, _, _, _, _, _⟩ :: _) _ _; refine op_load_w (p := .pointer (some ⟨pn, 0, none⟩)) 29 (.tmp 65) (by kernel_rfl) rfl rfl la9 ?_) | (guard_target =~ wpList _ _ _ (⟨some 68, _, _, _, _, _⟩ :: _) _ _; refine op_load_w (p := .pointer (some ⟨pn, 33, none⟩)) 29 (.tmp 67) (by kernel_rfl) rfl rfl lb9 ?_) | (guard_target =~ wpList _ _ _ (⟨some 69, _, _, _, _, _⟩ :: _) _ _; refine op_bin_w (X := enC u0) (Y := enC u1) .eql 29 _ (.tmp 66) (.tmp 68) (by kernel_rfl) rfl rfl rfl (by kernel_rfl) (EQ _) ?_))
          go_meet
          exact ⟨rfl, Lib.hid (HW3.out.trans (hb9.mono HW3.out.size)), Lib.hid (HT3.out.kp hb9), Lib.hid (HN3.out.kp hb9)⟩
        · obtain rfl : m = 0 := by omega
          obtain rfl : v = true := h4
          have r2 : decide (r < (0 : Int)) = false := decide_eq_false (by have := h2 (by decide) (by decide); omega)
          clear h1 h2 h3
          go_wp2_with (first | (guard_target =~ wpList _ _ _ (⟨some 55, _, _, _, _, _⟩ :: _) _ _; refine op_load (p := .pointer (some ⟨pn, 33, none⟩)) 29 (.tmp 54) rfl rfl rfl la ?_) | (guard_target =~ wpList _ _ _ (⟨some 57, _, _, _, _, _⟩ :: _) _ _; refine op_load (p := .pointer (some ⟨pn, 0, none⟩)) 29 (.tmp 56) rfl rfl rfl lb ?_))
          refine (C10.out _).mono ?_
          rintro x9 w9 ⟨rfl, hb9⟩
          have la9 := L0 _ (HN3.out.kp hb9)
          have lb9 := L1 _ (HN3.out.kp hb9)
          go_wp2_with (first | (guard_target =~ wpList _ _ _ (⟨some 66, _, _, _, _, _⟩ :: _) _ _; refine op_load_w (p := .pointer (some ⟨pn, 0, none⟩)) 29 (.tmp 65) (by kernel_rfl) rfl rfl la9 ?_) | (guard_target =~ wpList _ _ _ (⟨some 68, _, _, _, _, _⟩ :: _) _ _; refine op_load_w (p := .pointer (some ⟨pn, 33, none⟩)) 29 (.tmp 67) (by kernel_rfl) rfl rfl lb9 ?_) | (guard_target =~ wpList _ _ _ (⟨some 69, _, _, _, _, _⟩ :: _) _ _; refine op_bin_w (X := enC u0) (Y := enC u1) .eql 29 _ (.tmp 66) (.tmp 68) (by kernel_rfl) rfl rfl rfl (by kernel_rfl) (EQ _) ?_))
          go_meet
          exact ⟨rfl, Lib.hid (HW3.out.trans (hb9.mono HW3.out.size)), Lib.hid (HT3.out.kp hb9), Lib.hid (HN3.out.kp hb9)⟩
        · obtain rfl : m = -1 := by omega
          obtain rfl : v = false := h4
          clear h1 h2 h3
          go_wp2_with (first | (guard_target =~ wpList _ _ _ (⟨some 55, _, _, _, _, _⟩ :: _) _ _; refine op_load (p := .pointer (some ⟨pn, 33, none⟩)) 29 (.tmp 54) rfl rfl rfl la ?_) | (guard_target =~ wpList _ _ _ (⟨some 57, _, _, _, _, _⟩ :: _) _ _; refine op_load (p := .pointer (some ⟨pn, 0, none⟩)) 29 (.tmp 56) rfl rfl rfl lb ?_))
          refine (C10.out _).mono ?_
          rintro x9 w9 ⟨rfl, hb9⟩
          have la9 := L0 _ (HN3.out.kp hb9)
          have lb9 := L1 _ (HN3.out.kp hb9)
          go_wp2_with (first | (guard_target =~ wpList _ _ _ (⟨some 66, _, _, _, _, _⟩ :: _) _ _; refine op_load_w (p := .pointer (some ⟨pn, 0, none⟩)) 29 (.tmp 65) (by kernel_rfl) rfl rfl la9 ?_) | (guard_target =~ wpList _ _ _ (⟨some 68, _, _, _, _, _⟩ :: _) _ _; refine op_load_w (p := .pointer (some ⟨pn, 33, none⟩)) 29 (.tmp 67) (by kernel_rfl) rfl rfl lb9 ?_) | (guard_target =~ wpList _ _ _ (⟨some 69, _, _, _, _, _⟩ :: _) _ _; refine op_bin_w (X := enC u0) (Y := enC u1) .eql 29 _ (.tmp 66) (.tmp 68) (by kernel_rfl) rfl rfl rfl (by kernel_rfl) (EQ _) ?_))
          go_meet
          exact ⟨rfl, Lib.hid (HW3.out.trans (hb9.mono HW3.out.size)), Lib.hid (HT3.out.kp hb9), Lib.hid (HN3.out.kp hb9)⟩
        · obtain rfl : m = -1 := by omega
          obtain rfl : v = false := h4
          have r2 : decide (r < (0 : Int)) = false := decide_eq_false (by have := h2 (by decide) (by decide); omega)
          clear h1 h2 h3
          go_wp2_with (first | (guard_target =~ wpList _ _ _ (⟨some 55, _, _, _, _, _⟩ :: _) _ _; refine op_load (p := .pointer (some ⟨pn, 33, none⟩)) 29 (.tmp 54) rfl rfl rfl la ?_) | (guard_target =~ wpList _ _ _ (⟨some 57, _, _, _, _, _⟩ :: _) _ _; refine op_load (p := .pointer (some ⟨pn, 0, none⟩)) 29 (.tmp 56) rfl rfl rfl lb ?_))
          refine (C10.out _).mono ?_
          rintro x9 w9 ⟨rfl, hb9⟩
          have la9 := L0 _ (HN3.out.kp hb9)
          have lb9 := L1 _ (HN3.out.kp hb9)
          go_wp2_with (first | (guard_target =~ wpList _ _ _ (⟨some 66, _, _, _, _, _⟩ :: _) _ _; refine op_load_w (p := .pointer (some ⟨pn, 0, none⟩)) 29 (.tmp 65) (by kernel_rfl) rfl rfl la9 ?_) | (guard_target =~ wpList _ _ _ (⟨some 68, _, _, _, _, _⟩ :: _) _ _; refine op_load_w (p := .pointer (some ⟨pn, 33, none⟩)) 29 (.tmp 67) (by kernel_rfl) rfl rfl lb9 ?_) | (guard_target =~ wpList _ _ _ (⟨some 69, _, _, _, _, _⟩ :: _) _ _; refine op_bin_w (X := enC u0) (Y := enC u1) .eql 29 _ (.tmp 66) (.tmp 68) (by kernel_rfl) rfl rfl rfl (by kernel_rfl) (EQ _) ?_))
          go_meet
          exact ⟨rfl, Lib.hid (HW3.out.trans (hb9.mono HW3.out.size)), Lib.hid (HT3.out.kp hb9), Lib.hid (HN3.out.kp hb9)⟩
        · obtain rfl : m = -1 := by omega
          obtain rfl : v = false := h4
          have r2 : decide (r < (0 : Int)) = false := decide_eq_false (by have := h2 (by decide) (by decide); omega)
          clear h1 h2 h3
          go_wp2_with (first | (guard_target =~ wpList _ _ _ (⟨some 55, _, _, _, _, _⟩ :: _) _ _; refine op_load (p := .pointer (some ⟨pn, 33, none⟩)) 29 (.tmp 54) rfl rfl rfl la ?_) | (guard_target =~ wpList _ _ _ (⟨some 57, _, _, _, _, _⟩ :: _) _ _; refine op_load (p := .pointer (some ⟨pn, 0, none⟩)) 29 (.tmp 56) rfl rfl rfl lb ?_))
          refine (C10.out _).mono ?_
          rintro x9 w9 ⟨rfl, hb9⟩
          have la9 := L0 _ (HN3.out.kp hb9)
          have lb9 := L1 _ (HN3.out.kp hb9)
          go_wp2_with (first | (guard_target =~ wpList _ _ _ (⟨some 66, _, _, _, _, _⟩ :: _) _ _; refine op_load_w (p := .pointer (some ⟨pn, 0, none⟩)) 29 (.tmp 65) (by kernel_rfl) rfl rfl la9 ?_) | (guard_target =~ wpList _ _ _ (⟨some 68, _, _, _, _, _⟩ :: _) _ _; refine op_load_w (p := .pointer (some ⟨pn, 33, none⟩)) 29 (.tmp 67) (by kernel_rfl) rfl rfl lb9 ?_) | (guard_target =~ wpList _ _ _ (⟨some 69, _, _, _, _, _⟩ :: _) _ _; refine op_bin_w (X := enC u0) (Y := enC u1) .eql 29 _ (.tmp 66) (.tmp 68) (by kernel_rfl) rfl rfl rfl (by kernel_rfl) (EQ _) ?_))
          go_meet
          exact ⟨rfl, Lib.hid (HW3.out.trans (hb9.mono HW3.out.size)), Lib.hid (HT3.out.kp hb9), Lib.hid (HN3.out.kp hb9)⟩
      case rest =>
        obtain ⟨rfl, HW4, HT4, HN4⟩ := hcut
        clear HW3 HT3 HN3 HPS EQ C10 L2
        clear w'
        go_upto_region 9 with fail
        refine rest_begin (by kernel_rfl) ?_
        have HW5 : Hid (Below w.heap.size w wc.drew) := Lib.hid (HW4.out.drew)
        have HT5 : Hid (Blk wc.drew pl 33 (t6 a b c d e f)) := HT4
        have HN5 : Hid (Blk wc.drew pn 33 (t3 u0 u1 u2)) := HN4
        clear HW4 HT4 HN4
        generalize wc.drew = W5 at *
        clear wc
        refine rest_flowGF (grNew W5.heap.size 29 (enC zE) (enC u0)) [some 104, some 105, some 106, some 107, some 18, some 19, none] [SpS.is (.pointer (some ⟨pn, 0, none⟩)), SpS.is (.agg (enC u0)), SpS.is (.pointer (some ⟨pn, 33, none⟩)), SpS.is (.agg (enC u1)), SpS.blk, SpS.blk, SpS.put 4] [false, false, false, false, true, true, false] 7 (by kernel_rfl) (by kernel_rfl) (by kernel_rfl) (fun u F hF => ?_) (fun u w' hbF hsF hold hap => ?_)
        case refine_1 =>
          have D104 : F.eval (.tmp 104) = u 0 := (congrArg (fun a => Act.eval a (.tmp 104)) hF).trans (eval_in [some 104, some 105, some 106, some 107, some 18, some 19, none] 0 0 _ (by decide) (by omega) rfl (of_decide_eq_true (by kernel_rfl)))
          have D105 : F.eval (.tmp 105) = u 1 := (congrArg (fun a => Act.eval a (.tmp 105)) hF).trans (eval_in [some 104, some 105, some 106, some 107, some 18, some 19, none] 0 1 _ (by decide) (by omega) rfl (of_decide_eq_true (by kernel_rfl)))
          have D106 : F.eval (.tmp 106) = u 2 := (congrArg (fun a => Act.eval a (.tmp 106)) hF).trans (eval_in [some 104, some 105, some 106, some 107, some 18, some 19, none] 0 2 _ (by decide) (by omega) rfl (of_decide_eq_true (by kernel_rfl)))
          have D18 : F.eval (.tmp 18) = u 4 := (congrArg (fun a => Act.eval a (.tmp 18)) hF).trans (eval_in [some 104, some 105, some 106, some 107, some 18, some 19, none] 0 4 _ (by decide) (by omega) rfl (of_decide_eq_true (by kernel_rfl)))
          have E14 : F.eval (.tmp 14) = .pointer (some ⟨pn, 0, none⟩) := (congrArg (fun a => Act.eval a (.tmp 14)) hF).trans (eval_out [some 104, some 105, some 106, some 107, some 18, some 19, none] 0 _ (by decide))
          clear hF
          refine ⟨?_, ?_, ?_, ?_, ?_, ?_, ?_, trivial⟩
          · intro w1 hb hd K hK
            exact op_val (v := (.pointer (some ⟨pn, 0, none⟩))) rfl (by simp only [execOp, E14]; go_simp) (hK _ _ (show _ = _ from rfl) ((grNew W5.heap.size 29 (enC zE) (enC u0)).refl _) (Fresh.no _ _ _))
          · intro w1 hb hd K hK
            have e104 := D104.trans (show u 0 = (.pointer (some ⟨pn, 0, none⟩)) from hd ⟨0, .data⟩ (by simp) rfl (by omega))
            exact op_val (v := (.agg (enC u0))) rfl (exec_load rfl e104 (L0 w1 (HN5.out.keep hb.1 HN5.out.lt))) (hK _ _ (show _ = _ from rfl) ((grNew W5.heap.size 29 (enC zE) (enC u0)).refl _) (Fresh.no _ _ _))
          · intro w1 hb hd K hK
            exact op_val (v := (.pointer (some ⟨pn, 33, none⟩))) rfl (by simp only [execOp, E14]; go_simp) (hK _ _ (show _ = _ from rfl) ((grNew W5.heap.size 29 (enC zE) (enC u0)).refl _) (Fresh.no _ _ _))
          · intro w1 hb hd K hK
            have e106 := D106.trans (show u 2 = (.pointer (some ⟨pn, 33, none⟩)) from hd ⟨2, .data⟩ (by simp) rfl (by omega))
            exact op_val (v := (.agg (enC u1))) rfl (exec_load rfl e106 (L1 w1 (HN5.out.keep hb.1 HN5.out.lt))) (hK _ _ (show _ = _ from rfl) ((grNew W5.heap.size 29 (enC zE) (enC u0)).refl _) (Fresh.no _ _ _))
          · intro w1 hb hd K hK
            exact op_val (v := .pointer (some ⟨w1.heap.size, 0, none⟩)) (w' := w1.alloc (.cells (enC zE) 29)) rfl (by kernel_rfl) (hK _ _ (show ∃ b, _ ∧ _ ∧ _ from ⟨_, rfl, hb.1.size, Or.inl (Blk.new w1 _ _)⟩) (grNew_below (below1 _ _) hb.1.size) (fun _ => ⟨_, rfl, Nat.le_refl _, by show _ < _; rw [size_al]; exact Nat.lt_succ_self _⟩))
          · intro w1 hb hd K hK
            exact op_val (v := .pointer (some ⟨w1.heap.size, 0, none⟩)) (w' := w1.alloc (.cells (enC zE) 29)) rfl (by kernel_rfl) (hK _ _ (show ∃ b, _ ∧ _ ∧ _ from ⟨_, rfl, hb.1.size, Or.inl (Blk.new w1 _ _)⟩) (grNew_below (below1 _ _) hb.1.size) (fun _ => ⟨_, rfl, Nat.le_refl _, by show _ < _; rw [size_al]; exact Nat.lt_succ_self _⟩))
          · intro w1 hb hd K hK
            obtain ⟨b, h1, h2, h3⟩ := (show ∃ b, u 4 = .pointer (some ⟨b, 0, none⟩) ∧ W5.heap.size ≤ b ∧ (Blk w1 b 29 (enC zE) ∨ Blk w1 b 29 (enC u0)) from hd ⟨4, .data⟩ (by simp) rfl (by omega))
            have e18 := D18.trans h1
            have e105 := D105.trans (show u 1 = (.agg (enC u0)) from hd ⟨1, .data⟩ (by simp) rfl (by omega))
            have st := h3.elim (fun h => storeAt_row (T := 29) (C := enC u0) h (by rw [enC_size]; kernel_rfl) (by simp only [enC_size]) (enC_one u0)) (fun h => storeAt_row (T := 29) (C := enC u0) h (by rw [enC_size]; kernel_rfl) (by simp only [enC_size]) (enC_one u0))
            have hs := grNew_put h2 h3
            exact op_skip (w' := w1.setRow b (enC u0)) rfl rfl (exec_store rfl e18 e105 st) (hK undef _ (show ∃ b, _ ∧ _ ∧ _ from ⟨b, h1, h2, hs.1⟩) hs.2 (Fresh.no _ _ _))
        have hv104 : u 0 = (.pointer (some ⟨pn, 0, none⟩)) := (show u 0 = _ from hsF 0 (by omega) (by omega))
        have hv105 : u 1 = (.agg (enC u0)) := (show u 1 = _ from hsF 1 (by omega) (by omega))
        have hv106 : u 2 = (.pointer (some ⟨pn, 33, none⟩)) := (show u 2 = _ from hsF 2 (by omega) (by omega))
        have hv107 : u 3 = (.agg (enC u1)) := (show u 3 = _ from hsF 3 (by omega) (by omega))
        obtain ⟨b18, hv18, hge18, hc18⟩ := (show ∃ b, u 4 = .pointer (some ⟨b, 0, none⟩) ∧ W5.heap.size ≤ b ∧ (Blk w' b 29 (enC zE) ∨ Blk w' b 29 (enC u0)) from hsF 4 (by omega) (by omega))
        obtain ⟨b19, hv19, hge19, hc19⟩ := (show ∃ b, u 5 = .pointer (some ⟨b, 0, none⟩) ∧ W5.heap.size ≤ b ∧ (Blk w' b 29 (enC zE) ∨ Blk w' b 29 (enC u0)) from hsF 5 (by omega) (by omega))
        obtain ⟨bx, hvx, -, hA18⟩ := (show ∃ b, u 4 = .pointer (some ⟨b, 0, none⟩) ∧ W5.heap.size ≤ b ∧ Blk w' b 29 (enC u0) from hsF 6 (by omega) (by omega))
        obtain rfl : bx = b18 := by have h := hvx.symm.trans hv18; simpa using h
        have hne : bx ≠ b19 := by
          have h := hap 4 5 (by omega) (by omega) (by omega) (by omega) rfl rfl (by omega)
          rw [hv18, hv19] at h
          exact fun e => h (by rw [e])
        obtain ⟨b18, e18⟩ : ∃ b, bx = b := ⟨_, rfl⟩
        rw [e18] at hv18 hge18 hc18 hA18 hne
        clear hvx e18
        simp only [putRow, hv104, hv105, hv106, hv107, hv18, hv19, Act.put, List.setIfInBounds_toArray, List.set_cons_succ, List.set_cons_zero]
        clear hsF hold hap hv104 hv105 hv106 hv107 hv18 hv19
        have hlt5 := HT5.out.lt
        have st := hc19.elim (fun h => storeAt_row (T := 29) (C := enC u1) h (by rw [enC_size]; kernel_rfl) (by simp only [enC_size]) (enC_one u1)) (fun h => storeAt_row (T := 29) (C := enC u1) h (by rw [enC_size]; kernel_rfl) (by simp only [enC_size]) (enC_one u1))
        have HA6 := Lib.hid (hA18.row_other hne (enC u1))
        have HB6 : Hid (Blk (w'.setRow b19 (enC u1)) b19 29 (enC u1)) := Lib.hid (hc19.elim (fun h => h.row _) (fun h => h.row _))
        have hbw := Below.setRow' hge19 hbF.1 (enC u1)
        have HW6 : Hid (Below w.heap.size w _) := Lib.hid (HW5.out.trans (hbw.mono HW5.out.size))
        have HT6 := Lib.hid (HT5.out.kp hbw)
        have HPL : Hid (pl ≠ b18 ∧ w.heap.size ≤ b18) := Lib.hid ⟨by omega, Nat.le_trans HW5.out.size hge18⟩
        have HNE := Lib.hid hne
        clear HW5 HT5 HN5 hbw hbF hc18 hc19 hge18 hge19 hA18 hne hlt5 L0 L1
        clear W5
        refine rest_forced 1 (by kernel_rfl) ?_
        simp only [List.drop_succ_cons, List.drop_zero, List.take_succ_cons, List.take_zero]
        go_wp2_with (refine op_store (p := .pointer (some ⟨b19, 0, none⟩)) (C := .agg (enC u1)) 29 (.tmp 19) (.tmp 107) rfl rfl rfl rfl rfl st ?_)
        clear st
        refine rest_done rfl ?_
        go_upto_region 10 with fail
        generalize w'.setRow b19 (enC u1) = W6 at *
        clear w'
        refine rest_begin (by kernel_rfl) ?_
        have HW7 : Hid (Below w.heap.size w W6.drew) := Lib.hid (HW6.out.drew)
        have HT7 : Hid (Blk W6.drew pl 33 (t6 a b c d e f)) := HT6
        have hBlk : Blk W6.drew b18 29 (enC u0) := HA6.out
        have HB7 : Hid (Blk W6.drew b19 29 (enC u1)) := HB6
        clear HW6 HT6 HA6 HB6
        generalize W6.drew = W7 at *
        clear W6
        have hBW : w.heap.size ≤ W7.heap.size := HW7.out.size
        have hBb : w.heap.size ≤ b18 := HPL.out.2
        obtain ⟨K0, hK0⟩ : ∃ K0, enC u0 = K0 := ⟨_, rfl⟩
        obtain ⟨K1, hK1⟩ : ∃ K1, K0.setIfInBounds 0 (.int .i64 u1.rd) = K1 := ⟨_, rfl⟩
        obtain ⟨K2, hK2⟩ : ∃ K2, K1.setIfInBounds 1 (.int .i64 u1.tb) = K2 := ⟨_, rfl⟩
        have HK : Hid (K1.setIfInBounds 0 (.int .i64 u1.rd) = K1 ∧ K2.setIfInBounds 0 (.int .i64 u1.rd) = K2 ∧ K2.setIfInBounds 1 (.int .i64 u1.tb) = K2 ∧ K2.setIfInBounds 2 (.int .i64 u1.bd) = enC (u0.key u1)) := Lib.hid (by
          rw [← hK2, ← hK1, ← hK0]; exact ⟨by kernel_rfl, by kernel_rfl, by kernel_rfl, key_cells u0 u1⟩)
        have HKC : Hid (K0[0]? = some (.int .i64 u0.rd) ∧ K1[0]? = some (.int .i64 u1.rd) ∧ K2[0]? = some (.int .i64 u1.rd) ∧ K1[1]? = some (.int .i64 u0.tb) ∧ K2[1]? = some (.int .i64 u1.tb) ∧ K2[2]? = some (.int .i64 u0.bd)) := Lib.hid (by
          rw [← hK2, ← hK1, ← hK0]; exact ⟨by kernel_rfl, by kernel_rfl, by kernel_rfl, by kernel_rfl, by kernel_rfl, by kernel_rfl⟩)
        have HKS := Lib.hid (And.intro hK1 hK2)
        rw [hK0] at hBlk
        clear hK0 hK1 hK2
        refine rest_flowG (grBlk3 w.heap.size b18 29 K0 K1 K2) [some 108, some 109, some 110, some 111, some 112, some 113, some 114, none, some 115, none, some 116] [SpG.is (.pointer (some ⟨b19, 0, none⟩)), SpG.is (.int .i64 u1.rd), SpG.is (.pointer (some ⟨b19, 1, none⟩)), SpG.is (.int .i64 u1.tb), SpG.is (.pointer (some ⟨b19, 2, none⟩)), SpG.is (.int .i64 u1.bd), SpG.is (.pointer (some ⟨b18, 0, none⟩)), SpG.one, SpG.is (.pointer (some ⟨b18, 1, none⟩)), SpG.two, SpG.is (.pointer (some ⟨b18, 2, none⟩))] 11 (by kernel_rfl) (by kernel_rfl) (fun u F hF => ?_) (fun u w' hbF hsF => ?_)
        case refine_1 =>
          have E19 : F.eval (.tmp 19) = (.pointer (some ⟨b19, 0, none⟩)) := (congrArg (fun a => Act.eval a (.tmp 19)) hF).trans (eval_out [some 108, some 109, some 110, some 111, some 112, some 113, some 114, none, some 115, none, some 116] 0 _ (by decide))
          have D108 : F.eval (.tmp 108) = u 0 := (congrArg (fun a => Act.eval a (.tmp 108)) hF).trans (eval_in [some 108, some 109, some 110, some 111, some 112, some 113, some 114, none, some 115, none, some 116] 0 0 _ (by decide) (by omega) rfl (of_decide_eq_true (by kernel_rfl)))
          have D110 : F.eval (.tmp 110) = u 2 := (congrArg (fun a => Act.eval a (.tmp 110)) hF).trans (eval_in [some 108, some 109, some 110, some 111, some 112, some 113, some 114, none, some 115, none, some 116] 0 2 _ (by decide) (by omega) rfl (of_decide_eq_true (by kernel_rfl)))
          have D112 : F.eval (.tmp 112) = u 4 := (congrArg (fun a => Act.eval a (.tmp 112)) hF).trans (eval_in [some 108, some 109, some 110, some 111, some 112, some 113, some 114, none, some 115, none, some 116] 0 4 _ (by decide) (by omega) rfl (of_decide_eq_true (by kernel_rfl)))
          have E18 : F.eval (.tmp 18) = (.pointer (some ⟨b18, 0, none⟩)) := (congrArg (fun a => Act.eval a (.tmp 18)) hF).trans (eval_out [some 108, some 109, some 110, some 111, some 112, some 113, some 114, none, some 115, none, some 116] 0 _ (by decide))
          have D114 : F.eval (.tmp 114) = u 6 := (congrArg (fun a => Act.eval a (.tmp 114)) hF).trans (eval_in [some 108, some 109, some 110, some 111, some 112, some 113, some 114, none, some 115, none, some 116] 0 6 _ (by decide) (by omega) rfl (of_decide_eq_true (by kernel_rfl)))
          have D109 : F.eval (.tmp 109) = u 1 := (congrArg (fun a => Act.eval a (.tmp 109)) hF).trans (eval_in [some 108, some 109, some 110, some 111, some 112, some 113, some 114, none, some 115, none, some 116] 0 1 _ (by decide) (by omega) rfl (of_decide_eq_true (by kernel_rfl)))
          have D115 : F.eval (.tmp 115) = u 8 := (congrArg (fun a => Act.eval a (.tmp 115)) hF).trans (eval_in [some 108, some 109, some 110, some 111, some 112, some 113, some 114, none, some 115, none, some 116] 0 8 _ (by decide) (by omega) rfl (of_decide_eq_true (by kernel_rfl)))
          have D111 : F.eval (.tmp 111) = u 3 := (congrArg (fun a => Act.eval a (.tmp 111)) hF).trans (eval_in [some 108, some 109, some 110, some 111, some 112, some 113, some 114, none, some 115, none, some 116] 0 3 _ (by decide) (by omega) rfl (of_decide_eq_true (by kernel_rfl)))
          clear hF
          refine ⟨?_, ?_, ?_, ?_, ?_, ?_, ?_, ?_, ?_, ?_, ?_, trivial⟩
          · intro w1 hb hd K hK
            have e19 := E19
            exact op_val (v := (.pointer (some ⟨b19, 0, none⟩))) rfl (by simp only [execOp, List.map_toArray, List.map_cons, List.map_nil, e19]; go_simp) (hK _ _ (show _ = _ from rfl) ((grBlk3 w.heap.size b18 29 K0 K1 K2).refl _))
          · intro w1 hb hd K hK
            have e108 := D108.trans (show u 0 = (.pointer (some ⟨b19, 0, none⟩)) from hd ⟨0, .data⟩ (by simp) rfl (by omega))
            have c0 : w1.cell? ⟨b19, 0, none⟩ = some (.int .i64 u1.rd) := (hb.2.1 b19 _ _ (fun e => HNE.out e.symm) HB7.out).cell (enC_rd u1)
            exact op_val (v := (.int .i64 u1.rd)) rfl (by simp only [execOp, e108]; go_simp) (hK _ _ (show _ = _ from rfl) ((grBlk3 w.heap.size b18 29 K0 K1 K2).refl _))
          · intro w1 hb hd K hK
            have e19 := E19
            exact op_val (v := (.pointer (some ⟨b19, 1, none⟩))) rfl (by simp only [execOp, List.map_toArray, List.map_cons, List.map_nil, e19]; go_simp) (hK _ _ (show _ = _ from rfl) ((grBlk3 w.heap.size b18 29 K0 K1 K2).refl _))
          · intro w1 hb hd K hK
            have e110 := D110.trans (show u 2 = (.pointer (some ⟨b19, 1, none⟩)) from hd ⟨2, .data⟩ (by simp) rfl (by omega))
            have c0 : w1.cell? ⟨b19, 1, none⟩ = some (.int .i64 u1.tb) := (hb.2.1 b19 _ _ (fun e => HNE.out e.symm) HB7.out).cell (enC_tb u1)
            exact op_val (v := (.int .i64 u1.tb)) rfl (by simp only [execOp, e110]; go_simp) (hK _ _ (show _ = _ from rfl) ((grBlk3 w.heap.size b18 29 K0 K1 K2).refl _))
          · intro w1 hb hd K hK
            have e19 := E19
            exact op_val (v := (.pointer (some ⟨b19, 2, none⟩))) rfl (by simp only [execOp, List.map_toArray, List.map_cons, List.map_nil, e19]; go_simp) (hK _ _ (show _ = _ from rfl) ((grBlk3 w.heap.size b18 29 K0 K1 K2).refl _))
          · intro w1 hb hd K hK
            have e112 := D112.trans (show u 4 = (.pointer (some ⟨b19, 2, none⟩)) from hd ⟨4, .data⟩ (by simp) rfl (by omega))
            have c0 : w1.cell? ⟨b19, 2, none⟩ = some (.int .i64 u1.bd) := (hb.2.1 b19 _ _ (fun e => HNE.out e.symm) HB7.out).cell (enC_bd u1)
            exact op_val (v := (.int .i64 u1.bd)) rfl (by simp only [execOp, e112]; go_simp) (hK _ _ (show _ = _ from rfl) ((grBlk3 w.heap.size b18 29 K0 K1 K2).refl _))
          · intro w1 hb hd K hK
            have e18 := E18
            exact op_val (v := (.pointer (some ⟨b18, 0, none⟩))) rfl (by simp only [execOp, List.map_toArray, List.map_cons, List.map_nil, e18]; go_simp) (hK _ _ (show _ = _ from rfl) ((grBlk3 w.heap.size b18 29 K0 K1 K2).refl _))
          · intro w1 hb hd K hK
            have e114 := D114.trans (show u 6 = (.pointer (some ⟨b18, 0, none⟩)) from hd ⟨6, .data⟩ (by simp) rfl (by omega))
            have e109 := D109.trans (show u 1 = (.int .i64 u1.rd) from hd ⟨1, .data⟩ (by simp) rfl (by omega))
            have hor := hb.2.2.2.2 hBlk
            obtain ⟨xx, c0⟩ : ∃ q, w1.cell? ⟨b18, 0, none⟩ = some q := by rcases hor with h | h | h; exact ⟨_, h.cell HKC.out.1⟩; exact ⟨_, h.cell HKC.out.2.1⟩; exact ⟨_, h.cell HKC.out.2.2.1⟩
            have f0 : w1.frozen? ⟨b18, 0, none⟩ = false := by rcases hor with h | h | h <;> exact h.free _
            have hs := grBlk3_one (v := (.int .i64 u1.rd)) hBb hor HKS.out.1 HK.out.1 HK.out.2.1
            exact op_skip (w' := w1.setCell ⟨b18, 0, none⟩ (.int .i64 u1.rd)) rfl rfl (by simp only [execOp, e114, e109]; go_simp) (hK _ _ hs.1 hs.2)
          · intro w1 hb hd K hK
            have e18 := E18
            exact op_val (v := (.pointer (some ⟨b18, 1, none⟩))) rfl (by simp only [execOp, List.map_toArray, List.map_cons, List.map_nil, e18]; go_simp) (hK _ _ (show _ = _ from rfl) ((grBlk3 w.heap.size b18 29 K0 K1 K2).refl _))
          · intro w1 hb hd K hK
            have e115 := D115.trans (show u 8 = (.pointer (some ⟨b18, 1, none⟩)) from hd ⟨8, .data⟩ (by simp) rfl (by omega))
            have e111 := D111.trans (show u 3 = (.int .i64 u1.tb) from hd ⟨3, .data⟩ (by simp) rfl (by omega))
            have hor : Blk w1 b18 29 K1 ∨ Blk w1 b18 29 K2 := hd ⟨7, .chain⟩ (by simp) rfl (by omega)
            obtain ⟨xx, c0⟩ : ∃ q, w1.cell? ⟨b18, 1, none⟩ = some q := by rcases hor with h | h; exact ⟨_, h.cell HKC.out.2.2.2.1⟩; exact ⟨_, h.cell HKC.out.2.2.2.2.1⟩
            have f0 : w1.frozen? ⟨b18, 1, none⟩ = false := by rcases hor with h | h <;> exact h.free _
            have hs := grBlk3_two (C0 := K0) (v := (.int .i64 u1.tb)) hBb hor HKS.out.2 HK.out.2.2.1
            exact op_skip (w' := w1.setCell ⟨b18, 1, none⟩ (.int .i64 u1.tb)) rfl rfl (by simp only [execOp, e115, e111]; go_simp) (hK _ _ hs.1 hs.2)
          · intro w1 hb hd K hK
            have e18 := E18
            exact op_val (v := (.pointer (some ⟨b18, 2, none⟩))) rfl (by simp only [execOp, List.map_toArray, List.map_cons, List.map_nil, e18]; go_simp) (hK _ _ (show _ = _ from rfl) ((grBlk3 w.heap.size b18 29 K0 K1 K2).refl _))
        have hv108 : u 0 = (.pointer (some ⟨b19, 0, none⟩)) := (show u 0 = _ from hsF 0 (by omega) (by omega))
        have hv109 : u 1 = (.int .i64 u1.rd) := (show u 1 = _ from hsF 1 (by omega) (by omega))
        have hv110 : u 2 = (.pointer (some ⟨b19, 1, none⟩)) := (show u 2 = _ from hsF 2 (by omega) (by omega))
        have hv111 : u 3 = (.int .i64 u1.tb) := (show u 3 = _ from hsF 3 (by omega) (by omega))
        have hv112 : u 4 = (.pointer (some ⟨b19, 2, none⟩)) := (show u 4 = _ from hsF 4 (by omega) (by omega))
        have hv113 : u 5 = (.int .i64 u1.bd) := (show u 5 = _ from hsF 5 (by omega) (by omega))
        have hv114 : u 6 = (.pointer (some ⟨b18, 0, none⟩)) := (show u 6 = _ from hsF 6 (by omega) (by omega))
        have hst1 : Blk w' b18 29 K1 ∨ Blk w' b18 29 K2 := hsF 7 (by omega) (by omega)
        have hv115 : u 8 = (.pointer (some ⟨b18, 1, none⟩)) := (show u 8 = _ from hsF 8 (by omega) (by omega))
        have hst2 : Blk w' b18 29 K2 := hsF 9 (by omega) (by omega)
        have hv116 : u 10 = (.pointer (some ⟨b18, 2, none⟩)) := (show u 10 = _ from hsF 10 (by omega) (by omega))
        simp only [putRow, hv108, hv109, hv110, hv111, hv112, hv113, hv114, hv115, hv116, Act.put, List.setIfInBounds_toArray, List.set_cons_succ, List.set_cons_zero]
        clear hsF hv108 hv109 hv110 hv111 hv112 hv113 hv114 hv115 hv116
        have HB8 := Lib.hid (hbF.2.1 b19 _ _ (fun e => HNE.out e.symm) HB7.out)
        have HT8 := Lib.hid (hbF.2.1 pl _ _ HPL.out.1 HT7.out)
        have HA8 := Lib.hid hst2
        have HW8 : Hid (Below w.heap.size w _) := Lib.hid (HW7.out.trans hbF.1)
        clear HW7 HT7 HB7 hbF hst1 hst2 hBlk hBW hBb HKS
        clear W7
        have x2 := HA8.out.cell HKC.out.2.2.2.2.2
        have f2 := HA8.out.free 2
        refine rest_forced 1 (by kernel_rfl) ?_
        simp only [List.drop_succ_cons, List.drop_zero, List.take_succ_cons, List.take_zero]
        go_wp2_with fail
        refine rest_done rfl ?_
        go_upto_region 11 with fail
        have hA9 := HA8.out.set 2 (.int .i64 u1.bd)
        rw [HK.out.2.2.2] at hA9
        have HA9 := Lib.hid hA9
        have HB9 := Lib.hid (HB8.out.other (fun e => HNE.out e.symm) 2 (.int .i64 u1.bd))
        have HT9 := Lib.hid (HT8.out.other HPL.out.1 2 (.int .i64 u1.bd))
        have HW9 : Hid (Below w.heap.size w _) := Lib.hid (HW8.out.setCell (p := ⟨b18, 2, none⟩) HPL.out.2 (.int .i64 u1.bd))
        clear x2 f2 HA8 HB8 HT8 HW8 hA9 HK HKC HNE HPL
        generalize w'.setCell ⟨b18, 2, none⟩ (.int .i64 u1.bd) = W9 at *
        clear w'
        have xa := HA9.out.cell (enC_vs (u0.key u1))
        have xb := HB9.out.cell (enC_vs u1)
        by_cases hvv : u0.vs < u1.vs
        · have tv : decide ((u0.key u1).vs < u1.vs) = true := decide_eq_true hvv
          have la := loadAt_blk (T := 29) HA9.out Tryd.underlying29 rfl (by rw [enC_size]; kernel_rfl)
          have lb := loadAt_blk (T := 29) HB9.out Tryd.underlying29 rfl (by rw [enC_size]; kernel_rfl)
          rw [ver_lt hvv] at CKY
          generalize (u0.key u1).vs = vk at *
          generalize u0.key u1 = uk at *
          go_wp2_with (first
            | (guard_target =~ wpList _ _ _ (⟨some 123, _, _, _, _, _⟩ :: _) _ _; refine op_load_w (p := .pointer (some ⟨b18, 0, none⟩)) 29 (.tmp 18) (by kernel_rfl) rfl rfl la ?_)
            | (guard_target =~ wpList _ _ _ (⟨some 124, _, _, _, _, _⟩ :: _) _ _; refine op_load_w (p := .pointer (some ⟨b19, 0, none⟩)) 29 (.tmp 19) (by kernel_rfl) rfl rfl lb ?_))
          refine (CKY.out _).mono ?_
          rintro x9 w9 ⟨rfl, hb9⟩
          have HT10 := Lib.hid (HT9.out.kp hb9)
          have HW10 : Hid (Below w.heap.size w w9) := Lib.hid (HW9.out.trans (hb9.mono HW9.out.size))
          clear la lb xa xb HA9 HB9 HT9 HW9 hb9
          go_wp2_with fail
          go_roundw
          case rel => exact ⟨i + 1, by omega, by simp, HW10, HT10⟩
          case measure => simp only [intOf]; omega
        · have tv : decide ((u0.key u1).vs < u1.vs) = false := decide_eq_false hvv
          generalize (u0.key u1).vs = vk at *
          clear CKY
          go_wp2_with fail
          go_roundw
          case rel => exact ⟨i + 1, by omega, by simp, HW9, HT9⟩
          case measure => simp only [intOf]; omega
    · obtain rfl : i = 2 := by omega
      clear hlt hi HT
      rw [show ((2 : Nat) : Int) = 2 from rfl]
      go_wp2_with fail
      go_ret
      exact ⟨rfl, HW.out⟩
end Go.Proofs.YtpkmibmombpjpaaDoor
