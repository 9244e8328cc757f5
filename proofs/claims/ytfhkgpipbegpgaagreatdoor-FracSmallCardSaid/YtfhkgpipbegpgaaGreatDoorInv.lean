/- What the laws' walks keep: the tables, all that was there, and the fractions that lie in memory. -/
import Derived.Test.YtfhkgpipbegpgaaGreatDoorRd
namespace Go.Proofs.YtfhkgpipbegpgaaGreatDoor
open Go Go.RowKit

structure InvL (w0 w : World) (l : List (Nat × TypeId × Array Value)) : Prop where
  env : Env w
  below : Below w0.heap.size w0 w
  all : ∀ x ∈ l, Blk w x.1 x.2.1 x.2.2 ∧ w0.heap.size ≤ x.1
section
variable {w0 w : World} {l : List (Nat × TypeId × Array Value)}
theorem InvL.keep (h : InvL w0 w l) {w' : World} (hb : Below w.heap.size w w') : InvL w0 w' l :=
  ⟨h.env.keep hb, bchain h.below hb, fun x hx => ⟨(h.all x hx).1.keep hb (h.all x hx).1.lt, (h.all x hx).2⟩⟩
theorem InvL.push (h : InvL w0 w l) (t : TypeId) (c : Array Value) : InvL w0 (w.alloc (.cells c t)) ((w.heap.size, t, c) :: l) := by
  have hb := below1 w (.cells c t)
  refine ⟨h.env.keep hb, bchain h.below hb, fun x hx => ?_⟩
  rcases List.mem_cons.1 hx with rfl | hx
  · exact ⟨Blk.new _ _ _, h.below.size⟩
  · exact (h.keep hb).all x hx
theorem InvL.alloc (h : InvL w0 w l) (o : Obj) : InvL w0 (w.alloc o) l := h.keep (below1 _ _)
theorem InvL.head {p : Nat} {t : TypeId} {c : Array Value} (h : InvL w0 w ((p, t, c) :: l)) : Blk w p t c := (h.all _ (List.mem_cons_self ..)).1
theorem InvL.base {p : Nat} {t : TypeId} {c : Array Value} (h : InvL w0 w ((p, t, c) :: l)) : w0.heap.size ≤ p := (h.all _ (List.mem_cons_self ..)).2
theorem InvL.tail {x : Nat × TypeId × Array Value} (h : InvL w0 w (x :: l)) : InvL w0 w l := ⟨h.env, h.below, fun y hy => h.all y (List.mem_cons_of_mem _ hy)⟩
theorem InvL.drop {l' : List (Nat × TypeId × Array Value)} (h : InvL w0 w l) (hs : ∀ x ∈ l', x ∈ l) : InvL w0 w l' := ⟨h.env, h.below, fun y hy => h.all y (hs y hy)⟩
theorem InvL.cell {i : Nat} {p : Nat} {t : TypeId} {c : Array Value} (h : InvL w0 w l) (hi : l[i]? = some (p, t, c)) {j : Nat} {v : Value} (hj : c[j]? = some v) : w.cell? ⟨p, j, none⟩ = some v :=
  (h.all _ (List.mem_of_getElem? hi)).1.cell hj
theorem InvL.free {i : Nat} {p : Nat} {t : TypeId} {c : Array Value} (h : InvL w0 w l) (hi : l[i]? = some (p, t, c)) (j : Nat) : w.frozen? ⟨p, j, none⟩ = false :=
  (h.all _ (List.mem_of_getElem? hi)).1.free j
theorem InvL.start (he : Env w) : InvL w w [] := ⟨he, Below.refl _ _, fun _ h => by cases h⟩
variable {f : FuncId} {args : Array Value}
theorem invV {v : Value} (h : ∀ w, Env w → Calls Tryz.prog f args w (fun e w' => e = .returned v ∧ Below w.heap.size w w')) (hi : InvL w0 w l) : Calls Tryz.prog f args w (fun e w' => e = .returned v ∧ InvL w0 w' l) :=
  (h w hi.env).mono fun _ _ ⟨he, hb⟩ => ⟨he, hi.keep hb⟩
theorem invF {q : Int × Int × Int} {a b c : Int} (h : ∀ w, Env w → Calls Tryz.prog f args w (RetF q w)) (hq : q = (a, b, c)) (hi : InvL w0 w l) :
    Calls Tryz.prog f args w (fun e w' => e = .returned (.tuple #[.agg #[.int .i64 a, .int .i64 b], .int .i64 c]) ∧ InvL w0 w' l) := by
  subst hq; exact invV h hi
theorem invP {q : Int × Int} {a c : Int} (h : ∀ w, Env w → Calls Tryz.prog f args w (RetP q w)) (hq : q = (a, c)) (hi : InvL w0 w l) :
    Calls Tryz.prog f args w (fun e w' => e = .returned (.tuple #[.int .i64 a, .int .i64 c]) ∧ InvL w0 w' l) := by
  subst hq; exact invV h hi
theorem invS {s : List UInt8} {c : Int} {b : Array UInt8} (h : ∀ w, Env w → Calls Tryz.prog f args w (RetS s c w)) (hq : s = b.toList) (hi : InvL w0 w l) :
    Calls Tryz.prog f args w (fun e w' => e = .returned (.tuple #[.string ⟨b⟩, .int .i64 c]) ∧ InvL w0 w' l) := by
  subst hq; exact invV h hi
end
theorem of_any (n d : Int) (w : World) : Calls Tryz.prog 9 #[.int .i64 n, .int .i64 d] w (fun e w' => e = .returned (.agg #[.int .i64 n, .int .i64 d]) ∧ Below w.heap.size w w') := by
  go_enter Tryz.func9, Tryz.ntmps9
  go_wp2
  simp [bodyPost, results, Tryz.results9, go_sem]
  exact (Below.refl _ _).alloc (Nat.le_refl _) _
end Go.Proofs.YtfhkgpipbegpgaaGreatDoor
