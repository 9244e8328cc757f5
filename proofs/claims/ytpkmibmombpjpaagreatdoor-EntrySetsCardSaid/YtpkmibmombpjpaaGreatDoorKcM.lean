/- Plain: the entries of one key in a set, those that count; the order of entries by their versions; what is read of a changed text. ofKey and the contract of its iterator: it yields the entries of the key, with their indices, in their order. What lies in memory while entries are collected out of ranges over a function: the row, boxes of numbers, the marks of the loops. Counting. -/
import Derived.Test.YtpkmibmombpjpaaGreatDoorEnP
import Derived.Test.YtpkmibmombpjpaaGreatDoorEZ
import Derived.Test.YtpkmibmombpjpaaGreatDoorEmM
import Derived.Test.YtpkmibmombpjpaaGreatDoorRangeC
import Derived.Test.YtpkmibmombpjpaaGreatDoorInL
import Derived.Test.YtpkmibmombpjpaaGreatDoorEY
namespace Go.Proofs.YtpkmibmombpjpaaGreatDoor
open Go

def keyE (e : En) : List Int := [e.rd, e.tb, e.bd]
theorem cmpK_zero (a b : En) : cmpK a b = 0 ↔ keyE a = keyE b := by
  constructor
  · intro h
    exact lex_eq _ _ rfl h
  · intro h
    have : cmpK a b = lexC (keyE a) (keyE b) := rfl
    rw [this, h]
    exact lex_self _
/-- Of each key the last one. -/
def countP : List En → List En
  | a :: b :: r => if keyE a = keyE b then countP (b :: r) else a :: countP (b :: r)
  | l => l
theorem count_group : ∀ (g : List En) (a : En) (r : List En), (∀ x ∈ g, keyE x = keyE a) → (∀ y, r.head? = some y → keyE y ≠ keyE a) → countP (a :: (g ++ r)) = (a :: g).getLast (by simp) :: countP r
  | [], a, [], _, _ => rfl
  | [], a, y :: r, _, h => by
    show countP (a :: y :: r) = a :: countP (y :: r)
    rw [countP, if_neg (fun e => h y rfl e.symm)]
  | b :: g, a, r, hg, h => by
    have hb : keyE b = keyE a := hg b (by simp)
    show countP (a :: b :: (g ++ r)) = _
    rw [countP, if_pos hb.symm, count_group g b r (fun x hx => by rw [hb]; exact hg x (by simp [hx])) (fun y hy => by rw [hb]; exact h y hy)]
    congr 1
end Go.Proofs.YtpkmibmombpjpaaGreatDoor
namespace Go.Proofs.YtpkmibmombpjpaaGreatDoor
open Go

theorem takeW_take {α : Type} (p : α → Bool) : ∀ (l : List α) (j : Nat), j ≤ l.length → (∀ x ∈ l.take j, p x = true) → (∀ x, l[j]? = some x → p x = false) → l.takeWhile p = l.take j
  | [], j, _, _, _ => by simp
  | a :: t, 0, _, _, h => by
    have := h a rfl
    simp [List.takeWhile, this]
  | a :: t, j + 1, hj, h1, h2 => by
    have ha : p a = true := h1 a (by simp)
    have ih := takeW_take p t j (by simpa using hj) (fun x hx => h1 x (by simp [hx])) (fun x hx => h2 x (by simpa using hx))
    simp [List.takeWhile, ha, ih]
theorem takeW_len {α : Type} (p : α → Bool) : ∀ (l : List α), (l.takeWhile p).length ≤ l.length
  | [] => by simp
  | a :: t => by
    have := takeW_len p t
    simp only [List.takeWhile]
    split <;> simp <;> omega
theorem takeW_is {α : Type} (p : α → Bool) : ∀ (l : List α), l.takeWhile p = l.take (l.takeWhile p).length
  | [] => by simp
  | a :: t => by
    have := takeW_is p t
    simp only [List.takeWhile]
    split
    · simp only [List.length_cons, List.take_succ_cons]
      rw [← this]
    · simp
theorem dropW_head {α : Type} (p : α → Bool) : ∀ (l : List α) (y : α), l[(l.takeWhile p).length]? = some y → p y = false
  | [], y, h => by simp at h
  | a :: t, y, h => by
    cases ha : p a with
    | false =>
      simp only [List.takeWhile, ha, List.length_nil, List.getElem?_cons_zero, Option.some.injEq] at h
      exact h ▸ ha
    | true =>
      simp only [List.takeWhile, ha, List.length_cons, List.getElem?_cons_succ] at h
      exact dropW_head p t y h
/-- Keys of a set do not fall. -/
theorem cmpK_of_cmpE {a b : En} (h : cmpE a b ≤ 0) : cmpK a b ≤ 0 := by
  by_cases h0 : cmpK a b = 0
  · omega
  · rw [cmp_key h0] at h; exact h
theorem cmpK_trans {a b c : En} (h1 : cmpK a b ≤ 0) (h2 : cmpK b c ≤ 0) : cmpK a c ≤ 0 := lex_trans [a.rd, a.tb, a.bd] [b.rd, b.tb, b.bd] [c.rd, c.tb, c.bd] rfl rfl h1 h2
theorem cmpK_swap (a b : En) : cmpK b a = - cmpK a b := lex_swap _ _
theorem cmpK_lt {a b c : En} (h1 : cmpK a b ≤ 0) (h2 : cmpK b c < 0) : cmpK a c < 0 := by
  have h3 := cmpK_trans h1 (by omega : cmpK b c ≤ 0)
  by_cases h0 : cmpK a c = 0
  · have h4 : cmpK c a ≤ 0 := by rw [cmpK_swap]; omega
    have h5 := cmpK_trans h4 h1
    rw [cmpK_swap] at h5
    omega
  · omega
theorem setB_tail : ∀ (l : List En) (k : Nat), setB l = true → setB (l.drop k) = true
  | l, 0, h => by simpa using h
  | [], k + 1, h => by simpa using h
  | [a], k + 1, h => by simp [setB]
  | a :: b :: r, k + 1, h => by
    simp only [setB, Bool.and_eq_true] at h
    exact setB_tail (b :: r) k h.2
theorem setB_first : ∀ (a : En) (l : List En), setB (a :: l) = true → ∀ y ∈ l, cmpE a y < 0
  | _, [], _, y, hy => by simp at hy
  | a, b :: r, h, y, hy => by
    simp only [setB, Bool.and_eq_true, decide_eq_true_eq] at h
    rcases List.mem_cons.1 hy with rfl | hy
    · exact h.1
    · have h2 := setB_first b r h.2 y hy
      have h3 := cmp_trans (a := a) (b := b) (c := y) (by omega) (by omega)
      by_cases h0 : cmpE a y = 0
      · have := cmp_eq h0
        subst this
        have := cmp_swap a b
        omega
      · omega
theorem setB_lt {l : List En} (h : setB l = true) {i j : Nat} {x y : En} (hij : i < j) (hx : l[i]? = some x) (hy : l[j]? = some y) : cmpE x y < 0 := by
  have h1 := setB_tail l i h
  have hlt := (List.getElem?_eq_some_iff.1 hx).1
  rw [List.drop_eq_getElem_cons hlt] at h1
  have hxe : l[i] = x := (List.getElem?_eq_some_iff.1 hx).2
  rw [hxe] at h1
  refine setB_first x _ h1 y ?_
  have : (l.drop (i + 1))[j - (i + 1)]? = some y := by
    rw [List.getElem?_drop, show i + 1 + (j - (i + 1)) = j by omega]
    exact hy
  exact List.mem_of_getElem? this
theorem setB_mono {l : List En} (h : setB l = true) : Mono l := by
  intro i j x y hij hx hy
  rcases Nat.lt_or_eq_of_le hij with hlt | rfl
  · exact cmpK_of_cmpE (by have := setB_lt h hlt hx hy; omega)
  · rw [hx] at hy
    cases hy
    exact cmpK_of_cmpE (by rw [cmp_self]; omega)
theorem mono_e {l : List En} (h : Mono l) (e : En) : ∀ (a b : Nat) (x y : En), a ≤ b → l[a]? = some x → l[b]? = some y → cmpK y e < 0 → cmpK x e < 0 :=
  fun a b x y hab hx hy hc => cmpK_lt (h a b x y hab hx hy) hc
/-- The entries of a key at the head of a list. -/
def runP (l : List En) (e : En) : List En := l.takeWhile (fun x => cmpK x e == 0)
theorem cmpK_self (a : En) : cmpK a a = 0 := lex_self _
theorem run_head (a : En) (t : List En) : ∃ g, runP (a :: t) a = a :: g ∧ a :: t = (a :: g) ++ (a :: t).drop (g.length + 1) ∧ countP (a :: t) = (a :: g).getLast (by simp) :: countP ((a :: t).drop (g.length + 1)) := by
  refine ⟨t.takeWhile (fun x => cmpK x a == 0), ?_, ?_, ?_⟩
  · simp [runP, List.takeWhile, cmpK_self]
  · rw [List.drop_succ_cons, List.cons_append]
    congr 1
    conv => rhs; lhs; rw [takeW_is]
    rw [List.take_append_drop]
  · have ht : t = t.takeWhile (fun x => cmpK x a == 0) ++ t.drop (t.takeWhile (fun x => cmpK x a == 0)).length := by
      conv => rhs; lhs; rw [takeW_is]
      rw [List.take_append_drop]
    rw [List.drop_succ_cons]
    conv => lhs; rw [ht]
    refine count_group _ a _ (fun x hx => ?_) (fun y hy => ?_)
    · have : ∀ (l : List En), x ∈ l.takeWhile (fun x => cmpK x a == 0) → cmpK x a = 0 := by
        intro l
        induction l with
        | nil => intro h; simp at h
        | cons b r ih =>
          intro h
          simp only [List.takeWhile] at h
          split at h
          · rename_i hb
            rcases List.mem_cons.1 h with rfl | h
            · simpa using hb
            · exact ih h
          · simp at h
      exact (cmpK_zero x a).1 (this t hx)
    · intro hk
      have h1 := dropW_head (fun x => cmpK x a == 0) t y (by rw [← List.head?_drop]; exact hy)
      have h2 := (cmpK_zero y a).2 hk
      simp [h2] at h1
theorem split_zero {a e : En} {t : List En} {k : Nat} (h : Split (a :: t) e k) (h0 : cmpK a e = 0) : k = 0 := by
  rcases Nat.eq_zero_or_pos k with h1 | h1
  · exact h1
  · have := h.low 0 a h1 rfl
    omega
end Go.Proofs.YtpkmibmombpjpaaGreatDoor
namespace Go.Proofs.YtpkmibmombpjpaaGreatDoor
open Go

/-- An entry with the key of another one. -/
def En.key (d e : En) : En := { d with rd := e.rd, tb := e.tb, bd := e.bd }
theorem ver_lt {d e : En} (h : d.vs < e.vs) : cmpE (d.key e) e = -1 := by
  unfold cmpE En.nums En.key
  simp only [List.cons_append, lexC]
  rw [if_neg (by omega), if_neg (by omega), if_neg (by omega), if_neg (by omega), if_neg (by omega), if_neg (by omega), if_pos h]
theorem back_no {s z : List UInt8} {a c : En} (h : IsE s a) (hz : z ≠ s) (hr : readW z = some c) : c ≠ a := by
  rintro rfl
  have h2 := readW_is hr
  exact hz (h2.2.2.symm.trans h.2.2)
end Go.Proofs.YtpkmibmombpjpaaGreatDoor
set_option linter.unusedSimpArgs false
namespace Go.Proofs.YtpkmibmombpjpaaGreatDoor
open Go Go.RowKit

set_option maxRecDepth 100000 in
theorem ofKey_any (v : Value) (hv : v.oneCell' = true) (e : En) (w : World) : Calls Tryz.prog 42 #[v, .agg (enC e)] w (fun r w' => ∃ p q, r = .returned (.func (.func 78) #[] #[.pointer (some ⟨p, 0, none⟩), .pointer (some ⟨q, 0, none⟩)]) ∧ Blk w' p 40 #[v] ∧ Blk w' q 34 (enC e) ∧ w.heap.size ≤ p ∧ p < q ∧ Below w.heap.size w w') := by
  have HP := Lib.hid ((Blk.new w 40 #[v]).alloc (.cells (enC e) 34))
  have HQ := Lib.hid (Blk.new (w.alloc (.cells #[v] 40)) 34 (enC e))
  have HW := Lib.hid ((below1 w (.cells #[v] 40)).alloc (by simp) (.cells (enC e) 34))
  rw [size_al] at HQ
  go_enter Tryz.func42, Tryz.ntmps42
  go_wp2_with fail
  go_ret
  exact ⟨_, _, rfl, HP.out, HQ.out, Nat.le_refl _, Nat.lt_succ_self _, HW.out⟩
end Go.Proofs.YtpkmibmombpjpaaGreatDoor
set_option linter.unusedSimpArgs false
namespace Go.Proofs.YtpkmibmombpjpaaGreatDoor
open Go Go.RowKit Go.Shelf
attribute [local go_sem] Oper.semAt_some

/-- An entry that is yielded, with its index. -/
structure KE where
  i : Nat
  e : En
  hi : i < 1000000
def encK (x : KE) : Array Value := #[.int .i64 ((x.i : Nat) : Int), .agg (enC x.e)]
/-- What a round keeps: all that there was below, and the iterator's two blocks. -/
structure KpK (B p q : Nat) (W W' : World) : Prop where
  below : Below B W W'
  hp : W'.heap[p]? = W.heap[p]?
  hq : W'.heap[q]? = W.heap[q]?
theorem KpK.trans {B p q : Nat} {A C D : World} (h : KpK B p q A C) (k : KpK B p q C D) : KpK B p q A D :=
  ⟨h.below.trans k.below, k.hp.trans h.hp, k.hq.trans h.hq⟩
theorem kpK_put {B p q M : Nat} (hB : B ≤ M) (hp : p < M) (hq : q < M) (W : World) (l : Nat) (o o' : Obj) (hl : M ≤ l) (h : W.heap[l]? = some o) : KpK B p q W (W.putObj l o') := by
  have hlt := (Array.getElem?_eq_some_iff.1 h).1
  exact ⟨(Below.refl _ W).grown (grownBy_putObj' W l o') (by omega) (fun k e => by cases e; omega), World.putObj_heap_other (by omega), World.putObj_heap_other (by omega)⟩
def StK (A B : World) : Prop := Below A.heap.size A B
/-- All of a key. -/
def AllK (l : List En) (e : En) (xs : List KE) : Prop := ∃ k, Split l e k ∧ xs.map (·.e) = runP (l.drop k) e ∧ xs.map (·.i) = List.range' k xs.length

set_option maxRecDepth 100000 in
set_option maxHeartbeats 4000000 in
theorem ofKey1_stops (n : Nat) (hn : 1 ≤ n) (w0 w : World) (p q : Nat) (v : Value) (l : List En) (e : En) (hl : l.length ≤ 1000000) (hmo : Mono l) (hv : ES w0 v l) (hw : Below w0.heap.size w0 w) (hp0 : w0.heap.size ≤ p) (hpq : p < q) (hp : Blk w p 40 #[v]) (hq : Blk w q 34 (enC e)) :
    SeqStopsC Fence.wide n Tryz.prog 78 #[.pointer (some ⟨p, 0, none⟩), .pointer (some ⟨q, 0, none⟩)] encK (KpK w0.heap.size p q) StK (AllK l e) (fun _ => True) l.length w := fun lp J Jx W hW hJ hJx hJ2 hJx2 hY h0 => by
  have HP : Hid (Blk W p 40 #[v]) := Lib.hid (hp.keep hW hp.lt)
  have HQ : Hid (Blk W q 34 (enC e)) := Lib.hid (hq.keep hW hq.lt)
  have HW : Hid (Below w0.heap.size w0 W) := Lib.hid (hw.trans (hW.mono hw.size))
  have HY := Lib.hid hY
  have HJ2 := Lib.hid hJ2
  have HJ0 := Lib.hid h0
  have HV := Lib.hid hv
  have HPQ := Lib.hid (And.intro hp0 hpq)
  have BS := Lib.hid (fun W2 (hb : Below w0.heap.size w0 W2) => bsearch_any l e hl (mono_e hmo e) v W2 (hv.keep hb))
  obtain ⟨A, cp, hve, -⟩ := hv.len
  obtain ⟨N, hN⟩ : ∃ N, l.length = N := ⟨_, rfl⟩
  rw [hN] at hl hve HY
  subst hve
  have HN := Lib.hid hN
  clear hY hJ2 hJ hJx hJx2 hW hp hq hw h0 hv hmo hN hp0 hpq
  clear w
  refine callsIn_of_wp Tryz.func78 rfl trivial ?_ rfl
  simp only [Tryz.ntmps78, List.size_toArray, List.length_cons, List.length_nil, Nat.reduceAdd, Nat.reduceSub, Array.replicate_succ, Array.replicate_zero, List.push_toArray, List.append_toArray, List.nil_append, List.cons_append]
  have x0 := HP.out.cell (j := 0) rfl
  have la := loadAt_blk (T := 34) HQ.out Tryz.underlying34 rfl (by rw [enC_size]; kernel_rfl)
  have CB := Lib.hid (BS.out W HW.out)
  clear BS
  gi_wp2_with (first
    | (refine in_load (p := .pointer (some ⟨q, 0, none⟩)) 34 (.tmp 2) rfl rfl rfl la ?_)
    | (refine ⟨trivial, ?_⟩; gi_at_call 79; refine (callsIn_wide.2 CB.out).mono ?_; rintro r w2 ⟨⟨k, b, rfl, hsp⟩, hb⟩))
  have HSP := Lib.hid hsp
  have HP2 := Lib.hid (HP.out.keep hb HP.out.lt)
  have HQ2 := Lib.hid (HQ.out.keep hb HQ.out.lt)
  have HW2 := Lib.hid (HW.out.trans (hb.mono HW.out.size))
  have HJ := Lib.hid (HJ2.out _ _ _ HJ0.out hb)
  clear hsp hb HP HQ HW HJ0 x0 la CB
  clear W
  gi_loopw [6] (fun s6 wr => ∃ (z : Nat) (pre : List KE), s6 = .int .i64 ((z : Nat) : Int) ∧ k ≤ z ∧ z ≤ N ∧ Hid (pre.map (·.e) = (l.drop k).take (z - k) ∧ (∀ x ∈ (l.drop k).take (z - k), cmpK x e = 0) ∧ pre.map (·.i) = List.range' k (z - k) ∧ pre.length = z - k) ∧ Hid (Blk wr p 40 #[.slice A N cp]) ∧ Hid (Blk wr q 34 (enC e)) ∧ Hid (Below w0.heap.size w0 wr) ∧ Hid (J pre wr)) (fun s6 _ => N - (intOf s6).toNat)
  case atStart => exact ⟨k, [], rfl, Nat.le_refl _, by have := HSP.out.le; rw [HN.out] at this; exact this, Lib.hid (by simp), HP2, HQ2, HW2, HJ⟩
  case round =>
    clear HP2 HQ2 HW2 HJ
    obtain ⟨z, pre, rfl, hkz, hzN, HPR, HP, HQ, HW, HJ⟩ := hrel
    have x0 := HP.out.cell (j := 0) rfl
    by_cases hlt : z < N
    · have u1 : decide ((z : Int) < (N : Int)) = true := decide_eq_true (by omega)
      obtain ⟨x, hx⟩ : ∃ x, l[z]? = some x := ⟨_, List.getElem?_eq_getElem (by rw [HN.out]; omega)⟩
      obtain ⟨bl, ol, rfl⟩ := HV.out.ptr (by rw [HN.out]; omega)
      have lo1 := fun W (hb : Below w0.heap.size w0 W) => HV.out.load hx hb
      have CK := Lib.hid (fun W => cmpK_any x e W)
      have HX := Lib.hid hx
      have j0 : (0 : Int) ≤ (z : Int) := by omega
      have j1 : (z : Int) < (N : Int) := by omega
      have j2 : ¬ (N : Int) ≤ (z : Int) := by omega
      have j3 : ¬ N ≤ z := by omega
      obtain ⟨d, hd⟩ : ∃ d, (cmpK x e == 0) = d := ⟨_, rfl⟩
      have HD := Lib.hid hd
      gi_wp2
      refine wpIn_wide.2 (rest_begin (by kernel_rfl) ?_)
      have HP3 : Hid (Blk wr.drew p 40 #[.slice (some ⟨bl, ol, none⟩) N cp]) := HP
      have HQ3 : Hid (Blk wr.drew q 34 (enC e)) := HQ
      have HW3 := Lib.hid HW.out.drew
      have HJ3 : Hid (J pre wr.drew) := Lib.hid (HJ2.out _ _ _ HJ.out (Below.refl _ wr).drew)
      clear HP HQ HW HJ x0 hx
      obtain ⟨W2, hW2⟩ : ∃ W2, wr.drew = W2 := ⟨_, rfl⟩
      rw [hW2] at HP3 HQ3 HW3 HJ3 ⊢
      clear hW2
      clear wr
      refine rest_flow3 [some 14, some 15, some 16, some 17, some 18, some 19, some 20, some 21, some 22, some 23, some 24, some 25] [Sp.is (.int .i64 ((z : Nat) : Int)), Sp.is (.slice (some ⟨bl, ol, none⟩) N cp), Sp.is (.int .i64 (N : Int)), Sp.is (.bool true), Sp.is (.bool true), Sp.is (.slice (some ⟨bl, ol, none⟩) N cp), Sp.is (.int .i64 ((z : Nat) : Int)), Sp.is (.pointer (some ⟨bl, ol + z * 33, none⟩)), Sp.is (.agg (enC x)), Sp.is (.agg (enC e)), Sp.is (.int .i64 (cmpK x e)), Sp.is (.bool d)] [false, false, false, false, false, false, false, false, false, false, false, false] 12 (by kernel_rfl) (by kernel_rfl) (fun u F hF => ?_) (fun u w' hbF hsF hold hap => ?_)
      case refine_1 =>
        have E6 : F.eval (.tmp 6) = (.int .i64 ((z : Nat) : Int)) := (congrArg (fun a => Act.eval a (.tmp 6)) hF).trans (eval_out _ 0 _ (by decide))
        have E1 : F.eval (.tmp 1) = (.pointer (some ⟨p, 0, none⟩)) := (congrArg (fun a => Act.eval a (.tmp 1)) hF).trans (eval_out _ 0 _ (by decide))
        have D15 : F.eval (.tmp 15) = u 1 := (congrArg (fun a => Act.eval a (.tmp 15)) hF).trans (eval_in _ 0 1 _ (by decide) (by omega) rfl (of_decide_eq_true (by kernel_rfl)))
        have D14 : F.eval (.tmp 14) = u 0 := (congrArg (fun a => Act.eval a (.tmp 14)) hF).trans (eval_in _ 0 0 _ (by decide) (by omega) rfl (of_decide_eq_true (by kernel_rfl)))
        have D16 : F.eval (.tmp 16) = u 2 := (congrArg (fun a => Act.eval a (.tmp 16)) hF).trans (eval_in _ 0 2 _ (by decide) (by omega) rfl (of_decide_eq_true (by kernel_rfl)))
        have D17 : F.eval (.tmp 17) = u 3 := (congrArg (fun a => Act.eval a (.tmp 17)) hF).trans (eval_in _ 0 3 _ (by decide) (by omega) rfl (of_decide_eq_true (by kernel_rfl)))
        have D18 : F.eval (.tmp 18) = u 4 := (congrArg (fun a => Act.eval a (.tmp 18)) hF).trans (eval_in _ 0 4 _ (by decide) (by omega) rfl (of_decide_eq_true (by kernel_rfl)))
        have D19 : F.eval (.tmp 19) = u 5 := (congrArg (fun a => Act.eval a (.tmp 19)) hF).trans (eval_in _ 0 5 _ (by decide) (by omega) rfl (of_decide_eq_true (by kernel_rfl)))
        have D20 : F.eval (.tmp 20) = u 6 := (congrArg (fun a => Act.eval a (.tmp 20)) hF).trans (eval_in _ 0 6 _ (by decide) (by omega) rfl (of_decide_eq_true (by kernel_rfl)))
        have D21 : F.eval (.tmp 21) = u 7 := (congrArg (fun a => Act.eval a (.tmp 21)) hF).trans (eval_in _ 0 7 _ (by decide) (by omega) rfl (of_decide_eq_true (by kernel_rfl)))
        have E2 : F.eval (.tmp 2) = (.pointer (some ⟨q, 0, none⟩)) := (congrArg (fun a => Act.eval a (.tmp 2)) hF).trans (eval_out _ 0 _ (by decide))
        have D22 : F.eval (.tmp 22) = u 8 := (congrArg (fun a => Act.eval a (.tmp 22)) hF).trans (eval_in _ 0 8 _ (by decide) (by omega) rfl (of_decide_eq_true (by kernel_rfl)))
        have D23 : F.eval (.tmp 23) = u 9 := (congrArg (fun a => Act.eval a (.tmp 23)) hF).trans (eval_in _ 0 9 _ (by decide) (by omega) rfl (of_decide_eq_true (by kernel_rfl)))
        have D24 : F.eval (.tmp 24) = u 10 := (congrArg (fun a => Act.eval a (.tmp 24)) hF).trans (eval_in _ 0 10 _ (by decide) (by omega) rfl (of_decide_eq_true (by kernel_rfl)))
        clear hF
        refine ⟨?_, ?_, ?_, ?_, ?_, ?_, ?_, ?_, ?_, ?_, ?_, ?_, trivial⟩
        · intro w1 hb hd K hK
          have e6 := E6
          exact op_val (v := (.int .i64 ((z : Nat) : Int))) rfl (by simp only [execOp, List.map_toArray, List.map_cons, List.map_nil, e6]; go_simp) (hK _ _ (show _ = _ from rfl) (Below.refl _ _) (Fresh.no _ _ _))
        · intro w1 hb hd K hK
          have e1 := E1
          have c0 : w1.cell? ⟨p, 0, none⟩ = some (.slice (some ⟨bl, ol, none⟩) N cp) := (HP3.out.keep hb HP3.out.lt).cell (j := 0) rfl
          exact op_val (v := (.slice (some ⟨bl, ol, none⟩) N cp)) rfl (by simp only [execOp, e1]; go_simp) (hK _ _ (show _ = _ from rfl) (Below.refl _ _) (Fresh.no _ _ _))
        · intro w1 hb hd K hK
          have e15 := D15.trans (show u 1 = _ from hd ⟨1, .data⟩ (by simp) rfl (by omega))
          exact op_val (v := (.int .i64 (N : Int))) rfl (by have t15 := eval_get e15; simp only [execOp, List.map_toArray, List.map_cons, List.map_nil, e15]; go_simp) (hK _ _ (show _ = _ from rfl) (Below.refl _ _) (Fresh.no _ _ _))
        · intro w1 hb hd K hK
          have e14 := D14.trans (show u 0 = _ from hd ⟨0, .data⟩ (by simp) rfl (by omega))
          have e16 := D16.trans (show u 2 = _ from hd ⟨2, .data⟩ (by simp) rfl (by omega))
          exact op_val (v := (.bool true)) rfl (by simp only [execOp, List.map_toArray, List.map_cons, List.map_nil, e14, e16]; go_simp) (hK _ _ (show _ = _ from rfl) (Below.refl _ _) (Fresh.no _ _ _))
        · intro w1 hb hd K hK
          have e17 := D17.trans (show u 3 = _ from hd ⟨3, .data⟩ (by simp) rfl (by omega))
          exact op_val (v := (.bool true)) rfl (by simp only [execOp, List.map_toArray, List.map_cons, List.map_nil, e17]; go_simp) (hK _ _ (show _ = _ from rfl) (Below.refl _ _) (Fresh.no _ _ _))
        · intro w1 hb hd K hK
          have e1 := E1
          have g := D18.trans (show u 4 = .bool true from hd ⟨4, .guard⟩ (by simp) rfl (by omega))
          have c0 : w1.cell? ⟨p, 0, none⟩ = some (.slice (some ⟨bl, ol, none⟩) N cp) := (HP3.out.keep hb HP3.out.lt).cell (j := 0) rfl
          exact op_val_w (v := (.slice (some ⟨bl, ol, none⟩) N cp)) (wanted_of (j := 4) (s := 18) (b := true) (by kernel_rfl) (by kernel_rfl) g) (by simp only [execOp, e1]; go_simp) (hK _ _ (show _ = _ from rfl) (Below.refl _ _) (Fresh.no _ _ _))
        · intro w1 hb hd K hK
          have e6 := E6
          have g := D18.trans (show u 4 = .bool true from hd ⟨4, .guard⟩ (by simp) rfl (by omega))
          exact op_val_w (v := (.int .i64 ((z : Nat) : Int))) (wanted_of (j := 4) (s := 18) (b := true) (by kernel_rfl) (by kernel_rfl) g) (by simp only [execOp, List.map_toArray, List.map_cons, List.map_nil, e6]; go_simp) (hK _ _ (show _ = _ from rfl) (Below.refl _ _) (Fresh.no _ _ _))
        · intro w1 hb hd K hK
          have e19 := D19.trans (show u 5 = _ from hd ⟨5, .data⟩ (by simp) rfl (by omega))
          have e20 := D20.trans (show u 6 = _ from hd ⟨6, .data⟩ (by simp) rfl (by omega))
          have g := D18.trans (show u 4 = .bool true from hd ⟨4, .guard⟩ (by simp) rfl (by omega))
          exact op_val_w (v := (.pointer (some ⟨bl, ol + z * 33, none⟩))) (wanted_of (j := 4) (s := 18) (b := true) (by kernel_rfl) (by kernel_rfl) g) (by simp only [execOp, List.map_toArray, List.map_cons, List.map_nil, e19, e20]; go_simp) (hK _ _ (show _ = _ from rfl) (Below.refl _ _) (Fresh.no _ _ _))
        · intro w1 hb hd K hK
          have e21 := D21.trans (show u 7 = _ from hd ⟨7, .data⟩ (by simp) rfl (by omega))
          have g := D18.trans (show u 4 = .bool true from hd ⟨4, .guard⟩ (by simp) rfl (by omega))
          exact op_val_w (v := (.agg (enC x))) (wanted_of (j := 4) (s := 18) (b := true) (by kernel_rfl) (by kernel_rfl) g) (exec_load rfl e21 (lo1 w1 (HW3.out.trans (hb.mono HW3.out.size)))) (hK _ _ (show _ = _ from rfl) (Below.refl _ _) (Fresh.no _ _ _))
        · intro w1 hb hd K hK
          have e2 := E2
          have g := D18.trans (show u 4 = .bool true from hd ⟨4, .guard⟩ (by simp) rfl (by omega))
          exact op_val_w (v := (.agg (enC e))) (wanted_of (j := 4) (s := 18) (b := true) (by kernel_rfl) (by kernel_rfl) g) (exec_load rfl e2 (loadAt_blk (HQ3.out.keep hb HQ3.out.lt) Tryz.underlying34 rfl (by rw [enC_size]; kernel_rfl))) (hK _ _ (show _ = _ from rfl) (Below.refl _ _) (Fresh.no _ _ _))
        · intro w1 hb hd K hK
          have e22 := D22.trans (show u 8 = _ from hd ⟨8, .data⟩ (by simp) rfl (by omega))
          have e23 := D23.trans (show u 9 = _ from hd ⟨9, .data⟩ (by simp) rfl (by omega))
          have g := D18.trans (show u 4 = .bool true from hd ⟨4, .guard⟩ (by simp) rfl (by omega))
          refine op_call_w (R := fun v w2 => v = (.int .i64 (cmpK x e)) ∧ Below w1.heap.size w1 w2) (f := 54) (args := #[.agg (enC x), .agg (enC e)]) (wanted_of (j := 4) (s := 18) (b := true) (by kernel_rfl) (by kernel_rfl) g) (by simp only [execOp]; go_simp; first | exact ⟨eval_get e22, eval_get e23⟩ | (simp only [Act.eval] at *; simp_all)) ((CK.out w1).mono fun e w2 hh => ⟨_, hh.1, rfl, hh.2⟩) (fun v w2 hh => hK _ _ hh.1 hh.2 (Fresh.no _ _ _))
        · intro w1 hb hd K hK
          have e24 := D24.trans (show u 10 = _ from hd ⟨10, .data⟩ (by simp) rfl (by omega))
          have g := D18.trans (show u 4 = .bool true from hd ⟨4, .guard⟩ (by simp) rfl (by omega))
          exact op_val_w (v := (.bool d)) (wanted_of (j := 4) (s := 18) (b := true) (by kernel_rfl) (by kernel_rfl) g) (by simp only [execOp, List.map_toArray, List.map_cons, List.map_nil, e24]; go_simp) (hK _ _ (show _ = _ from rfl) (Below.refl _ _) (Fresh.no _ _ _))
      have hv14 : u 0 = (.int .i64 ((z : Nat) : Int)) := (show u 0 = _ from hsF 0 (by omega) (by omega))
      have hv15 : u 1 = (.slice (some ⟨bl, ol, none⟩) N cp) := (show u 1 = _ from hsF 1 (by omega) (by omega))
      have hv16 : u 2 = (.int .i64 (N : Int)) := (show u 2 = _ from hsF 2 (by omega) (by omega))
      have hv17 : u 3 = (.bool true) := (show u 3 = _ from hsF 3 (by omega) (by omega))
      have hv18 : u 4 = (.bool true) := (show u 4 = _ from hsF 4 (by omega) (by omega))
      have hv19 : u 5 = (.slice (some ⟨bl, ol, none⟩) N cp) := (show u 5 = _ from hsF 5 (by omega) (by omega))
      have hv20 : u 6 = (.int .i64 ((z : Nat) : Int)) := (show u 6 = _ from hsF 6 (by omega) (by omega))
      have hv21 : u 7 = (.pointer (some ⟨bl, ol + z * 33, none⟩)) := (show u 7 = _ from hsF 7 (by omega) (by omega))
      have hv22 : u 8 = (.agg (enC x)) := (show u 8 = _ from hsF 8 (by omega) (by omega))
      have hv23 : u 9 = (.agg (enC e)) := (show u 9 = _ from hsF 9 (by omega) (by omega))
      have hv24 : u 10 = (.int .i64 (cmpK x e)) := (show u 10 = _ from hsF 10 (by omega) (by omega))
      have hv25 : u 11 = (.bool d) := (show u 11 = _ from hsF 11 (by omega) (by omega))
      simp only [putRow, hv14, hv15, hv16, hv17, hv18, hv19, hv20, hv21, hv22, hv23, hv24, hv25, Act.put, List.setIfInBounds_toArray, List.set_cons_succ, List.set_cons_zero]
      clear hsF hold hap hv14 hv15 hv16 hv17 hv18 hv19 hv20 hv21 hv22 hv23 hv24 hv25
      have HP4 := Lib.hid (HP3.out.keep hbF HP3.out.lt)
      have HQ4 := Lib.hid (HQ3.out.keep hbF HQ3.out.lt)
      have HW4 := Lib.hid (HW3.out.trans (hbF.mono HW3.out.size))
      have HJ4 := Lib.hid (HJ2.out _ _ _ HJ3.out hbF)
      clear HP3 HQ3 HW3 HJ3 hbF CK u1 hd
      clear W2
      refine rest_forced 1 (by kernel_rfl) ?_
      simp only [List.drop_succ_cons, List.drop_zero, List.take_succ_cons, List.take_zero]
      cases d with
      | true =>
        have hzk : (l.drop k).take (z + 1 - k) = (l.drop k).take (z - k) ++ [x] := by
          rw [show z + 1 - k = (z - k) + 1 by omega]
          refine take_more ?_
          rw [List.getElem?_drop, show k + (z - k) = z by omega]
          exact HX.out
        obtain ⟨ke, hke⟩ : ∃ ke : KE, ke = ⟨z, x, by omega⟩ := ⟨_, rfl⟩
        have HPR2 : Hid ((pre ++ [ke]).map (·.e) = (l.drop k).take (z + 1 - k) ∧ (∀ y ∈ (l.drop k).take (z + 1 - k), cmpK y e = 0) ∧ (pre ++ [ke]).map (·.i) = List.range' k (z + 1 - k) ∧ (pre ++ [ke]).length = z + 1 - k) := Lib.hid (by
          obtain ⟨a1, a2, a3, a4⟩ := HPR.out
          subst hke
          refine ⟨?_, ?_, ?_, ?_⟩
          · rw [hzk, List.map_append, a1]; rfl
          · rw [hzk]
            intro y hy
            rcases List.mem_append.1 hy with hy | hy
            · exact a2 y hy
            · rw [List.mem_singleton.1 hy]
              have := HD.out
              simpa using this
          · rw [show z + 1 - k = (z - k) + 1 by omega, List.range'_concat, List.map_append, a3]
            simp
            omega
          · rw [List.length_append, a4]; simp; omega)
        obtain ⟨fn, tmps, assign, body, hy, hR⟩ := HY.out pre ke w' HJ4.out (by rw [HPR.out.2.2.2]; omega)
        subst hke
        simp only [encK] at hy
        have la := lo1 w' HW4.out
        have x0 := HP4.out.cell (j := 0) rfl
        have e1 : IntKind.i64.wrap ((z : Int) + 1) = (z : Int) + 1 := IntWalk.i64_in _ (by omega)
        clear lo1 HPR hzk
        go_wp2_with fail
        refine rest_done rfl ?_
        gi_wp2_with (refine in_load (p := .pointer (some ⟨bl, ol + z * 33, none⟩)) 34 (.tmp 33) rfl rfl rfl la ?_)
        refine hR.mono ?_
        rintro r W' (⟨rfl, hJ', hk'⟩ | ⟨rfl, hJx'⟩)
        · have HJ5 := Lib.hid hJ'
          have HP5 : Hid (Blk W' p 40 #[.slice (some ⟨bl, ol, none⟩) N cp]) := Lib.hid (hk'.hp.trans HP4.out)
          have HQ5 : Hid (Blk W' q 34 (enC e)) := Lib.hid (hk'.hq.trans HQ4.out)
          have HW5 := Lib.hid (HW4.out.trans hk'.below)
          clear hJ' hk' hR la x0 HP4 HQ4 HW4 HJ4 hy
          gi_wp2
          go_roundw
          case rel => exact ⟨z + 1, _, by simp, by omega, by omega, HPR2, HP5, HQ5, HW5, HJ5⟩
          case measure => simp only [intOf]; omega
        · have HJ5 := Lib.hid hJx'
          clear hJx' hR la x0 HP4 HQ4 HW4 HJ4 hy
          gi_wp2
          refine bodyPost_ret (results_none rfl _ _ _) rfl ?_
          exact ⟨⟨_, rfl⟩, .inr ⟨_, trivial, HJ5.out⟩⟩
      | false =>
        have HA : Hid (AllK l e pre) := Lib.hid (by
          obtain ⟨a1, a2, a3, a4⟩ := HPR.out
          refine ⟨k, HSP.out, ?_, by rw [a4]; exact a3⟩
          rw [a1]
          refine (takeW_take _ _ _ (by rw [List.length_drop, HN.out]; omega) (fun y hy => by simp [a2 y hy]) (fun y hy => ?_)).symm
          rw [List.getElem?_drop, show k + (z - k) = z by omega, HX.out] at hy
          cases hy
          exact HD.out)
        clear lo1 HPR
        go_wp2_with fail
        refine rest_done rfl ?_
        gi_wp2
        go_end0
        exact ⟨⟨_, rfl⟩, .inl ⟨pre, HA.out, HJ4.out⟩⟩
    · obtain rfl : z = N := by omega
      have u1 : decide ((z : Int) < (z : Int)) = false := decide_eq_false (by omega)
      have HA : Hid (AllK l e pre) := Lib.hid (by
        obtain ⟨a1, a2, a3, a4⟩ := HPR.out
        refine ⟨k, HSP.out, ?_, by rw [a4]; exact a3⟩
        rw [a1]
        refine (takeW_take _ _ _ (by rw [List.length_drop, HN.out]; omega) (fun y hy => by simp [a2 y hy]) (fun y hy => ?_)).symm
        have := (List.getElem?_eq_some_iff.1 hy).1
        rw [List.length_drop, HN.out] at this
        omega)
      have HJ4 := Lib.hid (fun nq => HJ2.out _ _ _ HJ.out (below_drewN (Below.refl wr.heap.size wr) nq))
      clear HPR HQ HJ hlt
      gi_wp2
      refine wpIn_wide.2 ?_
      go_quiet (fail)
      gi_wp2
      go_end0
      exact ⟨⟨_, rfl⟩, .inl ⟨pre, HA.out, HJ4.out _⟩⟩
end Go.Proofs.YtpkmibmombpjpaaGreatDoor
set_option linter.unusedSimpArgs false
namespace Go.Proofs.YtpkmibmombpjpaaGreatDoor
open Go Go.RowKit Go.Shelf

/-- The row u of the entries c, boxes of numbers, the blocks of marks. -/
structure CW (w W : World) (bx : List (Nat × Int)) (u : Value) (c : List En) (ds : List Nat) : Prop where
  own : W.ownsRow w.heap.size 34 33 u c.length (flat enC c)
  below : Below w.heap.size w W
  box : ∀ b x, (b, x) ∈ bx → w.heap.size ≤ b ∧ Blk W b 3 #[.int .i64 x]
  marks : ∀ D ∈ ds, w.heap.size ≤ D ∧ W.heap[D]? = some (.deferred (some []))
section
variable {w W W' : World} {bx : List (Nat × Int)} {u : Value} {c : List En} {ds : List Nat}
theorem CW.start (w : World) : CW w w [] (.slice none 0 0) [] [] :=
  ⟨World.ownsRow_nil _ _ _ _, Below.refl _ _, fun _ _ h => (by cases h), fun _ h => (by cases h)⟩
theorem CW.keep (h : CW w W bx u c ds) (hb : Below W.heap.size W W') : CW w W' bx u c ds :=
  ⟨own_keep h.own hb, h.below.trans (hb.mono h.below.size), fun b x hx => ⟨(h.box b x hx).1, (h.box b x hx).2.keep hb (h.box b x hx).2.lt⟩,
    fun D hD => ⟨(h.marks D hD).1, (hb.block D (Array.getElem?_eq_some_iff.1 (h.marks D hD).2).1).trans (h.marks D hD).2⟩⟩
theorem CW.alloc (h : CW w W bx u c ds) (o : Obj) : CW w (W.alloc o) bx u c ds := h.keep (below1 W o)
theorem CW.drew (h : CW w W bx u c ds) : CW w W.drew bx u c ds := h.keep (Below.refl _ _).drew
/-- One box more. -/
theorem CW.more {b : Nat} {x : Int} (h : CW w W bx u c ds) (hb : w.heap.size ≤ b) (hx : Blk W b 3 #[.int .i64 x]) : CW w W ((b, x) :: bx) u c ds :=
  ⟨h.own, h.below, fun b' x' hx' => by
    rcases List.mem_cons.1 hx' with e | hm
    · cases e; exact ⟨hb, hx⟩
    · exact h.box b' x' hm, h.marks⟩
theorem CW.less {bx' : List (Nat × Int)} (h : CW w W bx u c ds) (hs : ∀ t ∈ bx', t ∈ bx) : CW w W bx' u c ds :=
  ⟨h.own, h.below, fun b x hx => h.box b x (hs _ hx), h.marks⟩
/-- A store into a box. -/
theorem CW.set {b : Nat} {x : Int} (h : CW w W bx u c ds) (hb : (b, x) ∈ bx) (y : Int) (bx' : List (Nat × Int)) (hs : ∀ t ∈ bx', (t = (b, y)) ∨ (t.1 ≠ b ∧ t ∈ bx)) : CW w (W.setCell ⟨b, 0, none⟩ (.int .i64 y)) bx' u c ds := by
  obtain ⟨h1, h2⟩ := h.box b x hb
  have hbx : Boxed W b 3 (.int .i64 x) := h2
  refine ⟨h.own.kept (grownBy_setCell' W b _) (.inr (hbx.not_row (by decide) h.own).symm), h.below.setCell (p := ⟨b, 0, none⟩) h1 _, fun b' x' hx' => ?_, fun D hD => ?_⟩
  · rcases hs _ hx' with e | ⟨hne, hm⟩
    · cases e
      exact ⟨h1, h2.set 0 _⟩
    · exact ⟨(h.box b' x' hm).1, (h.box b' x' hm).2.other hne 0 _⟩
  · obtain ⟨h3, h4⟩ := h.marks D hD
    refine ⟨h3, ?_⟩
    rw [Below.heap_setCell _ _ _ _ (fun e => ?_)]
    · exact h4
    · have e : D = b := e
      subst e
      rw [show W.heap[D]? = _ from h2] at h4
      cases h4
/-- A turn of a block that is no cells and that is new. -/
theorem CW.turn {row : Option Nat} {B0 : Nat} (h : CW w W bx u c ds) (hB0 : w.heap.size ≤ B0) (hds : ∀ D ∈ ds, D < B0) (hg : W.grownBy W' row) (hrow : ∀ r, row = some r → B0 ≤ r ∧ ∃ o : Obj, W.heap[r]? = some o ∧ o.isCells = false) : CW w W' bx u c ds := by
  refine ⟨h.own.kept hg ?_, h.below.grown hg h.below.size (fun k e => by have := (hrow k e).1; omega), fun b x hx => ⟨(h.box b x hx).1, ?_⟩, fun D hD => ⟨(h.marks D hD).1, ?_⟩⟩
  · rcases h.own.2 with ⟨rfl, _⟩ | ⟨g, cap, cur, rfl, _, hgb, _⟩
    · exact .inl rfl
    · refine .inr fun e' => ?_
      obtain ⟨_, o, ho, hc⟩ := hrow g (by simpa [Value.ownBlock] using e'.symm)
      rw [hgb] at ho; cases ho; cases hc
  · have h2 : Boxed W b 3 (.int .i64 x) := (h.box b x hx).2
    exact h2.kept hg (fun e' => by
      obtain ⟨_, o, ho, hc⟩ := hrow b e'.symm
      rw [show W.heap[b]? = _ from h2] at ho; cases ho; cases hc)
  · have h2 := (h.marks D hD).2
    exact (hg.block D (Array.getElem?_eq_some_iff.1 h2).1 (fun e' => by have := (hrow D e'.symm).1; have := hds D hD; omega)).trans h2
/-- An append to the row. -/
theorem CW.app {u' : Value} {c' : List En} (h : CW w W bx u c ds) (hg : W.grownBy W' u.ownBlock) (hb : Below w.heap.size W W') (ho : W'.ownsRow w.heap.size 34 33 u' c'.length (flat enC c')) : CW w W' bx u' c' ds := by
  refine ⟨ho, h.below.trans hb, fun b x hx => ⟨(h.box b x hx).1, ?_⟩, fun D hD => ⟨(h.marks D hD).1, ?_⟩⟩
  · have h2 : Boxed W b 3 (.int .i64 x) := (h.box b x hx).2
    exact h2.kept hg (h2.not_row (by decide) h.own)
  · have h2 := (h.marks D hD).2
    refine (hg.block D (Array.getElem?_eq_some_iff.1 h2).1 (fun e' => ?_)).trans h2
    rcases h.own.2 with ⟨rfl, _⟩ | ⟨g, cap, cur, rfl, _, hgb, _⟩
    · cases e'
    · obtain rfl : D = g := by simpa [Value.ownBlock] using e'
      rw [hgb] at h2; cases h2
/-- One mark more. -/
theorem CW.mark {D : Nat} (h : CW w W bx u c ds) (hD : w.heap.size ≤ D) (hm : W.heap[D]? = some (.deferred (some []))) : CW w W bx u c (D :: ds) :=
  ⟨h.own, h.below, h.box, fun E hE => by
    rcases List.mem_cons.1 hE with rfl | hE
    · exact ⟨hD, hm⟩
    · exact h.marks E hE⟩
end
def mkD (D : Nat) : Deferred := { target := .collected D, args := #[] }
/-- The end of a function whose loops have laid marks. -/
theorem leave_marks {F : Fence} {n : Nat} {P : Program} {fn : Func} {T : Array Value} {R : Ending → World → Prop} (Inv : World → Prop)
    (hR : ∀ W, Inv W → LeavesIn F n P fn T R [] .returning W) : ∀ (ds : List Nat) (W : World), ds.Nodup → (∀ D ∈ ds, ∀ W, Inv W → W.heap[D]? = some (.deferred (some [])) → Inv (W.putObj D (.deferred none))) → Inv W → (∀ D ∈ ds, W.heap[D]? = some (.deferred (some []))) → LeavesInM F n P fn T R (ds.map mkD) .returning W
  | [], W, _, _, h, _ => hR W h
  | D :: ds, W, hn, hs, h, hm => by
    have hD := hm D (by simp)
    refine ⟨by simp, .inl ⟨D, _, rfl, run_takeDeferred hD, ?_⟩⟩
    have hn2 := List.nodup_cons.1 hn
    refine leave_marks Inv hR ds _ hn2.2 (fun E hE => hs E (by simp [hE])) (hs D (by simp) W h hD) (fun E hE => ?_)
    exact (World.putObj_heap_other (fun e => hn2.1 (by subst e; exact hE))).trans (hm E (by simp [hE]))
end Go.Proofs.YtpkmibmombpjpaaGreatDoor
set_option linter.unusedSimpArgs false
namespace Go.Proofs.YtpkmibmombpjpaaGreatDoor
open Go Go.RowKit Go.Shelf
attribute [local go_sem] Oper.semAt_some

/-- A slice built out of values, in one step. -/
theorem op_bsl {ops : Array Oper} {rest : List Oper} {o : Oper} {a : Act} {Q : Exit → Act → World → Prop} {w : World} (T e : TypeId) (len : Nat) (parts : Array (Nat × Operand)) (C : Array Value) (hg : o.guard = none) (ho : o.op = .buildSlice T len parts)
    (hr : (Instr.buildSlice T len (parts.map fun (i, x) => (i, a.eval x))).run Tryz.prog w = .ok (.slice (some ⟨w.heap.size, 0, none⟩) len len) (w.alloc (.cells C e)))
    (h : wpList Tryz.prog ops Q rest (a.put o.dst (.slice (some ⟨w.heap.size, 0, none⟩) len len)) (w.alloc (.cells C e))) : wpList Tryz.prog ops Q (o :: rest) a w := by
  refine wpList_plain hg fun K hK => ?_
  unfold Oper.wp
  have he : (execOp a.eval o).run Tryz.prog w = .ok (.value (.slice (some ⟨w.heap.size, 0, none⟩) len len)) (w.alloc (.cells C e)) := by
    simp only [execOp, ho, Sem.run_bind, hr, Result.andThen_ok, Sem.run_pure]
  rw [he, Oper.upon_value]
  exact hK _ _ h
/-- What Counting returns. -/
def cntL (l : List En) : List En := if setB l then countP l else []
def lastIx (pre : List KE) : Nat := match pre.getLast? with | some x => x.i | none => 0
theorem lastIx_snoc (pre : List KE) (x : KE) : lastIx (pre ++ [x]) = x.i := by simp [lastIx]
theorem lastIx_range {xs : List KE} {m : Nat} (h : xs.map (·.i) = List.range' 0 xs.length) (hl : xs.length = m + 1) : lastIx xs = m := by
  rcases List.eq_nil_or_concat xs with rfl | ⟨ys, x, rfl⟩
  · simp at hl
  · rw [List.concat_eq_append] at h hl ⊢
    rw [lastIx_snoc]
    simp only [List.length_append, List.length_cons, List.length_nil, Nat.zero_add, Nat.add_right_cancel_iff] at hl
    rw [List.length_append, List.length_singleton, List.range'_concat, List.map_append] at h
    have := List.append_inj_right' h (by simp)
    simp at this
    omega
theorem info_ent : (Tryz.prog.info? 34).map (fun i => (i.size, i.bytes, i.zero.map (fun z => z.cells.size))) = some (33, 152, some 33) := by kernel_rfl
theorem info_parts_ent : ∃ i z, Tryz.prog.info? 34 = some i ∧ i.zero = some z ∧ i.size = 33 ∧ i.bytes = 152 ∧ z.cells.size = 33 := by
  have h := info_ent
  cases hi : Tryz.prog.info? 34 with
  | none => rw [hi] at h; cases h
  | some i =>
    rw [hi] at h
    simp only [Option.map_some, Option.some.injEq, Prod.mk.injEq] at h
    cases hz : i.zero with
    | none => rw [hz] at h; simp at h
    | some z => rw [hz] at h; exact ⟨i, z, rfl, hz, h.1, h.2.1, by simpa using h.2.2⟩
/-- Between two rounds of Counting's loop, m entries being left. -/
def CLoop (w : World) (v : Value) (l : List En) (m : Nat) (a : Act) (W : World) : Prop :=
  ∃ (k : Nat) (ds : List Nat) (pn : Nat) (u : Value) (c : List En) (u6 u7 u11 u12 u13 u14 u15 u16 u17 u18 u19 u20 u21 u22 u23 u24 u25 u26 u27 u28 u29 u30 u31 u32 u33 u34 u35 u36 u37 u38 : Value), m = l.length - k ∧ k ≤ l.length ∧ ds.Nodup ∧ c ++ countP (l.drop k) = countP l ∧ c.length ≤ k ∧ CW w W [(pn, (k : Int))] u c ds ∧
    a = { tmps := #[v, undef, .slice none 0 0, .int .i64 0, u, .pointer (some ⟨pn, 0, none⟩), u6, u7, v, .bool true, .bool false, u11, u12, u13, u14, u15, u16, u17, u18, u19, u20, u21, u22, u23, u24, u25, u26, u27, u28, u29, u30, u31, u32, u33, u34, u35, u36, u37, u38, undef], defers := ds.map mkD }
/-- Between two rounds of the range over the iterator. -/
def CIn (w : World) (pn pl k : Nat) (u : Value) (c : List En) (ds : List Nat) (pre : List KE) (W : World) : Prop := CW w W [(pn, (k : Int)), (pl, ((k + lastIx pre : Nat) : Int))] u c ds
theorem counting_no (l : List En) (hin : ∀ e ∈ l, e.In) (hl : l.length ≤ 1000000) (hs : setB l = false) (v : Value) (w : World) (hv : ES w v l) : Calls Tryz.prog 18 #[v] w (fun r w' => r = .returned (.tuple #[.slice none 0 0, .int .i64 314]) ∧ Below w.heap.size w w') := by
  obtain ⟨A, cp, rfl, -⟩ := hv.len
  have IS := Lib.hid (isSet_any l hin hl _ w hv)
  rw [hs] at IS
  clear hv
  refine (callsIn_wide (n := 3)).1 ?_
  refine callsIn_of_wp_marks Tryz.func18 rfl trivial ?_ rfl
  simp only [Tryz.ntmps18, List.size_toArray, List.length_cons, List.length_nil, Nat.reduceAdd, Nat.reduceSub, Array.replicate_succ, Array.replicate_zero, List.push_toArray, List.append_toArray, List.nil_append, List.cons_append]
  refine wpIn_wide.2 ?_
  go_wp2_with fail
  refine IS.out.mono ?_
  rintro r w2 ⟨rfl, hb⟩
  have HB := Lib.hid hb
  clear hb IS
  go_wp2_with fail
  exact ⟨_, results_tmp2 rfl _ _ _, rfl, HB.out⟩
set_option maxRecDepth 100000 in
set_option maxHeartbeats 8000000 in
theorem counting_yes (l : List En) (hin : ∀ e ∈ l, e.In) (hl : l.length ≤ 1000000) (hs : setB l = true) (v : Value) (w : World) (hv : ES w v l) : Calls Tryz.prog 18 #[v] w (fun r w' => ∃ u, r = .returned (.tuple #[u, .int .i64 0]) ∧ w'.ownsRow w.heap.size 34 33 u (countP l).length (flat enC (countP l)) ∧ Below w.heap.size w w') := by
  obtain ⟨A, cp, rfl, hcp⟩ := hv.len
  have IS := Lib.hid (isSet_any l hin hl _ w hv)
  rw [hs] at IS
  have HV := Lib.hid hv
  have HMO := Lib.hid (fun k => setB_mono (setB_tail l k hs))
  obtain ⟨i0, z0, hi0, hz0, hz1, hz2, hz3⟩ := info_parts_ent
  obtain ⟨N, hN⟩ : ∃ N, l.length = N := ⟨_, rfl⟩
  rw [hN] at hl hcp HV IS ⊢
  have HN := Lib.hid hN
  clear hv hs hin hN
  refine (callsIn_wide (n := 3)).1 ?_
  refine callsIn_of_wp_marks Tryz.func18 rfl trivial ?_ rfl
  simp only [Tryz.ntmps18, List.size_toArray, List.length_cons, List.length_nil, Nat.reduceAdd, Nat.reduceSub, Array.replicate_succ, Array.replicate_zero, List.push_toArray, List.append_toArray, List.nil_append, List.cons_append]
  refine wpIn_wide.2 ?_
  go_wp2_with fail
  refine IS.out.mono ?_
  rintro r w1 ⟨rfl, hb⟩
  have HC0 := Lib.hid ((CW.start w).keep hb)
  have hsz := hb.size
  clear IS hb
  go_wp2_with fail
  have HC1 := Lib.hid (((HC0.out.alloc (.cells #[.int .i64 0] 3)).more (b := w1.heap.size) (x := 0) hsz (Blk.new w1 _ _)))
  clear HC0
  refine wp_loop_ghost_k (CLoop w (.slice A N cp) l) N ?_ ?_
  · exact ⟨0, [], w1.heap.size, _, [], _, _, _, _, _, _, _, _, _, _, _, _, _, _, _, _, _, _, _, _, _, _, _, _, _, _, _, _, _, _, by rw [HN.out]; rfl, Nat.zero_le _, List.nodup_nil, rfl, Nat.le_refl _, HC1.out, rfl⟩
  · clear HC1 hsz
    clear w1
    rintro m a W ⟨k, ds, pn, ur, c, u6, u7, u11, u12, u13, u14, u15, u16, u17, u18, u19, u20, u21, u22, u23, u24, u25, u26, u27, u28, u29, u30, u31, u32, u33, u34, u35, u36, u37, u38, hm, hk, hnd, hcn, hcl, hcw, rfl⟩ J K hJ hK
    rw [HN.out] at hm hk
    subst hm
    have HJ := Lib.hid hJ
    have HK := Lib.hid hK
    have HC := Lib.hid hcw
    have HCN := Lib.hid (And.intro hnd hcn)
    clear hJ hK hcw hcn hnd
    have x5 := (HC.out.box pn (k : Int) (by simp)).2.cell (j := 0) rfl
    by_cases hlt : k < N
    · have t1 : decide ((k : Int) < (N : Int)) = true := decide_eq_true (by omega)
      obtain ⟨x, hx⟩ : ∃ x, l[k]? = some x := ⟨_, List.getElem?_eq_getElem (by rw [HN.out]; omega)⟩
      have hdr : l.drop k = x :: l.drop (k + 1) := by
        have hkl : k < l.length := by rw [HN.out]; exact hlt
        rw [List.drop_eq_getElem_cons hkl, (List.getElem?_eq_some_iff.1 hx).2]
      obtain ⟨bl, ol, rfl⟩ := HV.out.ptr (by rw [HN.out]; omega)
      go_upto_region 7 with fail
      have HC1 := Lib.hid (((HC.out.alloc (.cells #[.int .i64 (k : Int)] 3)).more (b := W.heap.size) (x := (k : Int)) HC.out.below.size (Blk.new W _ _)).drew)
      have HPN := Lib.hid (HC.out.box pn (k : Int) (by simp)).2.lt
      obtain ⟨W1, hW1⟩ : ∃ W1, (W.alloc (.cells #[.int .i64 (k : Int)] 3)).drew = W1 := ⟨_, rfl⟩
      obtain ⟨pl, hpl⟩ : ∃ pl, W.heap.size = pl := ⟨_, rfl⟩
      refine rest_begin (by kernel_rfl) ?_
      rw [hW1] at HC1 ⊢
      rw [hpl] at HC1 HPN ⊢
      clear hW1 hpl HC x5
      clear W
      obtain ⟨AS, hAS⟩ := slice_ls (α := En) (enc := enC) (sz := 33) (T := 40) (b := bl) (o := ol) (n := N) (c := cp) (lo := k) (hi := N) (by kernel_rfl) (fun W => by kernel_rfl) hk hcp
      have SL := Lib.hid (And.intro (hAS.2.1 rfl) (fun W (hb : Below w.heap.size w W) => hAS.2.2.2 W l (HV.out.keep hb) (Nat.le_refl _)))
      have lo1 := fun W (hb : Below w.heap.size w W) => HV.out.load hx hb
      have j0 : (0 : Int) ≤ (k : Int) := by omega
      have j1 : (k : Int) < (N : Int) := by omega
      have j2 : ¬ (N : Int) ≤ (k : Int) := by omega
      have j3 : ¬ N ≤ k := by omega
      clear hAS hx
      refine rest_flow3 [some 16, some 17, some 18, some 19, some 20, some 21, some 22] [Sp.is (.slice (some ⟨bl, ol, none⟩) N cp), Sp.is (.int .i64 ((k : Nat) : Int)), Sp.is (.slice (some AS) (N - k) (cp - k)), Sp.is (.slice (some ⟨bl, ol, none⟩) N cp), Sp.is (.int .i64 ((k : Nat) : Int)), Sp.is (.pointer (some ⟨bl, ol + k * 33, none⟩)), Sp.is (.agg (enC x))] [false, false, false, false, false, false, false] 7 (by kernel_rfl) (by kernel_rfl) (fun u F hF => ?_) (fun u w' hbF hsF hold hap => ?_)
      case refine_1 =>
        have E0 : F.eval (.tmp 0) = (.slice (some ⟨bl, ol, none⟩) N cp) := (congrArg (fun a => Act.eval a (.tmp 0)) hF).trans (eval_out _ 0 _ (by decide))
        have E5 : F.eval (.tmp 5) = (.pointer (some ⟨pn, 0, none⟩)) := (congrArg (fun a => Act.eval a (.tmp 5)) hF).trans (eval_out _ 0 _ (by decide))
        have D16 : F.eval (.tmp 16) = u 0 := (congrArg (fun a => Act.eval a (.tmp 16)) hF).trans (eval_in _ 0 0 _ (by decide) (by omega) rfl (of_decide_eq_true (by kernel_rfl)))
        have D17 : F.eval (.tmp 17) = u 1 := (congrArg (fun a => Act.eval a (.tmp 17)) hF).trans (eval_in _ 0 1 _ (by decide) (by omega) rfl (of_decide_eq_true (by kernel_rfl)))
        have D19 : F.eval (.tmp 19) = u 3 := (congrArg (fun a => Act.eval a (.tmp 19)) hF).trans (eval_in _ 0 3 _ (by decide) (by omega) rfl (of_decide_eq_true (by kernel_rfl)))
        have D20 : F.eval (.tmp 20) = u 4 := (congrArg (fun a => Act.eval a (.tmp 20)) hF).trans (eval_in _ 0 4 _ (by decide) (by omega) rfl (of_decide_eq_true (by kernel_rfl)))
        have D21 : F.eval (.tmp 21) = u 5 := (congrArg (fun a => Act.eval a (.tmp 21)) hF).trans (eval_in _ 0 5 _ (by decide) (by omega) rfl (of_decide_eq_true (by kernel_rfl)))
        clear hF
        refine ⟨?_, ?_, ?_, ?_, ?_, ?_, ?_, trivial⟩
        · intro w1 hb hd K hK
          have e0 := E0
          exact op_val (v := (.slice (some ⟨bl, ol, none⟩) N cp)) rfl (by simp only [execOp, List.map_toArray, List.map_cons, List.map_nil, e0]; go_simp) (hK _ _ (show _ = _ from rfl) (Below.refl _ _) (Fresh.no _ _ _))
        · intro w1 hb hd K hK
          have e5 := E5
          have c0 : w1.cell? ⟨pn, 0, none⟩ = some (.int .i64 ((k : Nat) : Int)) := ((HC1.out.keep hb).box pn (k : Int) (by simp)).2.cell (j := 0) rfl
          exact op_val (v := (.int .i64 ((k : Nat) : Int))) rfl (by simp only [execOp, e5]; go_simp) (hK _ _ (show _ = _ from rfl) (Below.refl _ _) (Fresh.no _ _ _))
        · intro w1 hb hd K hK
          have e16 := D16.trans (show u 0 = _ from hd ⟨0, .data⟩ (by simp) rfl (by omega))
          have e17 := D17.trans (show u 1 = _ from hd ⟨1, .data⟩ (by simp) rfl (by omega))
          exact op_val (v := (.slice (some AS) (N - k) (cp - k))) rfl (exec_slice rfl e16 (by simp only [Option.map_some, e17]) rfl rfl (SL.out.1 w1)) (hK _ _ (show _ = _ from rfl) (Below.refl _ _) (Fresh.no _ _ _))
        · intro w1 hb hd K hK
          have e0 := E0
          exact op_val (v := (.slice (some ⟨bl, ol, none⟩) N cp)) rfl (by simp only [execOp, List.map_toArray, List.map_cons, List.map_nil, e0]; go_simp) (hK _ _ (show _ = _ from rfl) (Below.refl _ _) (Fresh.no _ _ _))
        · intro w1 hb hd K hK
          have e5 := E5
          have c0 : w1.cell? ⟨pn, 0, none⟩ = some (.int .i64 ((k : Nat) : Int)) := ((HC1.out.keep hb).box pn (k : Int) (by simp)).2.cell (j := 0) rfl
          exact op_val (v := (.int .i64 ((k : Nat) : Int))) rfl (by simp only [execOp, e5]; go_simp) (hK _ _ (show _ = _ from rfl) (Below.refl _ _) (Fresh.no _ _ _))
        · intro w1 hb hd K hK
          have e19 := D19.trans (show u 3 = _ from hd ⟨3, .data⟩ (by simp) rfl (by omega))
          have e20 := D20.trans (show u 4 = _ from hd ⟨4, .data⟩ (by simp) rfl (by omega))
          exact op_val (v := (.pointer (some ⟨bl, ol + k * 33, none⟩))) rfl (by simp only [execOp, List.map_toArray, List.map_cons, List.map_nil, e19, e20]; go_simp) (hK _ _ (show _ = _ from rfl) (Below.refl _ _) (Fresh.no _ _ _))
        · intro w1 hb hd K hK
          have e21 := D21.trans (show u 5 = _ from hd ⟨5, .data⟩ (by simp) rfl (by omega))
          exact op_val (v := (.agg (enC x))) rfl (exec_load rfl e21 (lo1 w1 (HC1.out.below.trans (hb.mono HC1.out.below.size)))) (hK _ _ (show _ = _ from rfl) (Below.refl _ _) (Fresh.no _ _ _))
      have hv16 : u 0 = (.slice (some ⟨bl, ol, none⟩) N cp) := (show u 0 = _ from hsF 0 (by omega) (by omega))
      have hv17 : u 1 = (.int .i64 ((k : Nat) : Int)) := (show u 1 = _ from hsF 1 (by omega) (by omega))
      have hv18 : u 2 = (.slice (some AS) (N - k) (cp - k)) := (show u 2 = _ from hsF 2 (by omega) (by omega))
      have hv19 : u 3 = (.slice (some ⟨bl, ol, none⟩) N cp) := (show u 3 = _ from hsF 3 (by omega) (by omega))
      have hv20 : u 4 = (.int .i64 ((k : Nat) : Int)) := (show u 4 = _ from hsF 4 (by omega) (by omega))
      have hv21 : u 5 = (.pointer (some ⟨bl, ol + k * 33, none⟩)) := (show u 5 = _ from hsF 5 (by omega) (by omega))
      have hv22 : u 6 = (.agg (enC x)) := (show u 6 = _ from hsF 6 (by omega) (by omega))
      simp only [putRow, hv16, hv17, hv18, hv19, hv20, hv21, hv22, Act.put, List.setIfInBounds_toArray, List.set_cons_succ, List.set_cons_zero]
      clear hsF hold hap hv16 hv17 hv18 hv19 hv20 hv21 hv22
      have HC2 := Lib.hid (HC1.out.keep hbF)
      clear HC1 hbF lo1
      clear W1
      have OK := Lib.hid (ofKey_any (.slice (some AS) (N - k) (cp - k)) rfl x w')
      refine rest_forced 1 (by kernel_rfl) ?_
      simp only [List.drop_succ_cons, List.drop_zero, List.take_succ_cons, List.take_zero]
      go_wp2_with fail
      refine OK.out.mono ?_
      rintro r w4 ⟨p, q, rfl, hp, hq, hpp, hpq, hb4⟩
      have HC3 := Lib.hid (HC2.out.keep hb4)
      have hle := HC2.out.below.size
      have hplt := (HC2.out.box pl (k : Int) (by simp)).2.lt
      have HLS := SL.out.2 w (Below.refl _ _)
      rw [show (l.take N).drop k = l.drop k by rw [← HN.out, List.take_length]] at HLS
      clear OK HC2 hb4 SL
      go_wp2_with fail
      refine rest_done rfl ?_
      go_wp2_with fail
      have hq4 := hq.lt
      have hlen : (l.drop k).length = N - k := by rw [List.length_drop, HN.out]
      refine (wpIn_wide (n := 3)).1 ?_
      have hI0 : CIn w pn pl k ur c ds [] w4 := HC3.out.less (by simp [lastIx])
      refine wpIn_rangeFunc_ownC rfl (by omega) (gf := 78) (lb := #[.pointer (some ⟨p, 0, none⟩), .pointer (some ⟨q, 0, none⟩)]) rfl trivial (enters_of Tryz.func78 (by kernel_rfl) rfl)
        (ofKey1_stops _ (by omega) w w4 p q _ (l.drop k) x (by omega) (HMO.out k) HLS HC3.out.below (by omega) hpq hp hq) KpK.trans (fun W l o o' hl ho _ _ => kpK_put (M := w4.heap.size) (Nat.le_trans hle (by omega)) (by omega) hq4 W l o o' hl ho) (Below.refl _ _) (fun _ => rfl)
        (CIn w pn pl k ur c ds) (fun _ _ _ => False) (fun A B hS i o hi hA => (hS.block i (Array.getElem?_eq_some_iff.1 hA).1).trans hA) (fun s A B h hS => CW.keep h hS) (fun _ _ _ _ h _ => h)
        (fun s A B row h hg hr => CW.turn h (Nat.le_trans hle (by omega)) (fun D hD => (Array.getElem?_eq_some_iff.1 (HC3.out.marks D hD).2).1) hg hr) (fun _ _ _ _ _ h _ _ => h) hI0 ?a₁ ?assign ?body ?done ?stop
      case assign =>
        intro lp x W K hK
        simp only [encK]
        gi_wp2
        exact hK
      case body =>
        rintro lp pre ⟨xi, xe, hxi⟩ W hi hlen
        dsimp only
        have c5 := (hi.box pn (k : Int) (by simp)).2.cell (j := 0) rfl
        have c6 := (hi.box pl ((k + lastIx pre : Nat) : Int) (by simp)).2.cell (j := 0) rfl
        have f6 := (hi.box pl ((k + lastIx pre : Nat) : Int) (by simp)).2.free 0
        have a1 : IntKind.i64.wrap ((k : Int) + (xi : Int)) = (k : Int) + (xi : Int) := IntWalk.i64_in _ (by omega)
        have HI := Lib.hid hi
        have HL : Hid (lastIx (pre ++ [⟨xi, xe, hxi⟩]) = xi) := Lib.hid (lastIx_snoc _ _)
        have HQ := Lib.hid (show w.heap.size ≤ pl ∧ pl < p ∧ pl < q from ⟨(hi.box pl ((k + lastIx pre : Nat) : Int) (by simp)).1, by omega, by omega⟩)
        generalize pre ++ [(⟨xi, xe, hxi⟩ : KE)] = pre' at *
        clear hi hlen HJ HK HC3 HLS HV HMO
        gi_wp2
        refine ⟨(KeepsOthers.setCell W ⟨pl, 0, none⟩ _).from _, ⟨(Below.refl _ W).setCell (p := ⟨pl, 0, none⟩) HQ.out.1 _, Below.heap_setCell _ _ _ _ (by have := HQ.out; show p ≠ pl; omega), Below.heap_setCell _ _ _ _ (by have := HQ.out; show q ≠ pl; omega)⟩, ?_⟩
        rw [show (k : Int) + (xi : Int) = ((k + lastIx pre' : Nat) : Int) by rw [HL.out]; omega]
        exact HI.out.set (x := ((k + lastIx pre : Nat) : Int)) (by simp) _ _ (fun t ht => by
          rcases List.mem_cons.1 ht with rfl | ht
          · exact .inr ⟨by show pn ≠ pl; have := HPN.out; omega, by simp⟩
          · exact .inl (List.mem_singleton.1 ht))
      case done =>
        rintro D xs W hD ⟨k', hsp, hxe, hxi⟩ hi hKD
        obtain ⟨g, hg1, hg2, hg3⟩ := run_head x (l.drop (k + 1))
        rw [hdr] at hsp hxe
        obtain rfl := split_zero hsp (cmpK_self x)
        rw [List.drop_zero, hg1] at hxe
        have hxl : xs.length = g.length + 1 := by
          have := congrArg List.length hxe
          simpa using this
        have hix := lastIx_range hxi hxl
        rw [← hdr] at hg2 hg3
        have hgn : k + g.length < N := by
          have h1 := congrArg List.length hg2
          rw [List.length_append, List.length_drop, HN.out] at h1
          simp only [List.length_cons] at h1
          omega
        obtain ⟨y, hy⟩ : ∃ y, (x :: g).getLast (by simp) = y := ⟨_, rfl⟩
        have hly : l[k + g.length]? = some y := by
          rw [← List.getElem?_drop, hg2, List.getElem?_append_left (by simp), ← hy, List.getLast_eq_getElem]
          simp
        rw [hy] at hg3
        rw [List.drop_drop] at hg3
        have hcm : (k : Int) + (g.length : Int) = ((k + g.length : Nat) : Int) := by omega
        unfold CIn at hi
        rw [hix] at hi
        obtain ⟨z, hz⟩ : ∃ z, k + g.length = z := ⟨_, rfl⟩
        rw [show k + (g.length + 1) = z + 1 by omega] at hg3
        rw [hz] at hi hly hgn
        have hkz : k ≤ z := by omega
        have c5 := (hi.box pn (k : Int) (by simp)).2.cell (j := 0) rfl
        have f5 := (hi.box pn (k : Int) (by simp)).2.free 0
        have c6 := (hi.box pl ((z : Nat) : Int) (by simp)).2.cell (j := 0) rfl
        have lo2 := HV.out.load hly hi.below
        have k0 : (0 : Int) ≤ (z : Int) := by omega
        have k1 : (z : Int) < (N : Int) := by omega
        have k2 : ¬ (N : Int) ≤ (z : Int) := by omega
        have k3 : ¬ N ≤ z := by omega
        have a1 : IntKind.i64.wrap ((z : Int) + 1) = (z : Int) + 1 := IntWalk.i64_in _ (by omega)
        have HD := Lib.hid (And.intro hD hKD)
        have HI := Lib.hid hi
        have HG := Lib.hid hg3
        have HMK := Lib.hid (fun D hD => (HC3.out.marks D hD))
        have HPW := Lib.hid (Nat.lt_of_lt_of_le hplt (Nat.le_refl _))
        have hW0 := Nat.le_trans hle (show w'.heap.size ≤ w4.heap.size by omega)
        have hpnl := HPN.out
        clear hi hsp hxe hxi hix hg1 hg2 hg3 hxl hy hcm hz hly hlen hI0 HLS hp hq hpp hpq hq4 hplt hle t1 j0 j1 j2 j3 hdr
        have HSR : Hid (SrcR (W.alloc (.cells (flat enC [y]).toArray 34)) 33 (.slice (some ⟨W.heap.size, 0, none⟩) 1 1) 1 (flat enC [y])) := Lib.hid (.some_ W.heap.size 0 1 1 _ (flat_len enC_size [y]) (fun j u hj => by
          rw [Nat.zero_add]
          exact (Blk.new W 34 (flat enC [y]).toArray).cell (by rw [List.getElem?_toArray]; exact hj)))
        have HO := Lib.hid (HI.out.own.alloc (.cells (flat enC [y]).toArray 34))
        have HCA := Lib.hid (HI.out.alloc (.cells (flat enC [y]).toArray 34))
        have hFl : ∀ u ∈ flat enC [y], u.oneCell' = true := by
          intro u hu
          have := enC_one y
          rw [Array.all_eq_true_iff_forall_mem] at this
          exact this u (by simpa [flat] using hu)
        have hzz : c.length + 1 ≤ 1000000 := by omega
        go_wp2_with (first
          | (refine op_load (p := .pointer (some ⟨bl, ol + z * 33, none⟩)) 34 (.tmp 32) rfl rfl rfl lo2 ?_)
          | (refine op_bsl 40 34 1 _ (flat enC [y]).toArray rfl rfl (by kernel_rfl) ?_)
          | (at_builtin; refine appS rfl _ _ rfl Tryz.underlying40 hi0 hz0 hz1 hz2 hz3 (by decide) _ w.heap.size ur c.length (flat enC c) rfl HO.out (.slice (some ⟨W.heap.size, 0, none⟩) 1 1) 1 (flat enC [y]) rfl HSR.out hFl hzz (by decide) HCA.out.below.size ?_; intro u2 w5 hown5 hgrow5 hob5 hb5; obtain ⟨g5, c5', rfl, hg5, hc5⟩ := own_some hown5 (by omega); have HC5 := Lib.hid (HCA.out.app (c' := c ++ [y]) hgrow5 hb5 (by rw [List.length_append, flat_app]; exact hown5)); have HD5 := Lib.hid (((HCA.out.mark (D := D) (by have := HD.out.1; omega) ((Below.heap_alloc W _ D (Array.getElem?_eq_some_iff.1 HD.out.2).1).trans HD.out.2)).app (c' := c ++ [y]) hgrow5 hb5 (by rw [List.length_append, flat_app]; exact hown5)).marks D (by simp)).2; clear hob5 hg5 hc5 hown5 hgrow5 hb5; have c5 := (HC5.out.box pn (k : Int) (by simp)).2.cell (j := 0) rfl; have f5 := (HC5.out.box pn (k : Int) (by simp)).2.free 0; have c6 := (HC5.out.box pl ((z : Nat) : Int) (by simp)).2.cell (j := 0) rfl))
        rw [show (z : Int) + 1 = ((z + 1 : Nat) : Int) by omega]
        have hnD : D ∉ ds := fun h => by
          have h1 := (HMK.out D h).2
          have := (Array.getElem?_eq_some_iff.1 h1).1
          have := HD.out.1
          omega
        have hs5 : (w5.setCell ⟨pn, 0, none⟩ (.int .i64 ((z + 1 : Nat) : Int))).heap.size = w5.heap.size := by simp
        have hm5 := ((HC5.out.mark (D := D) (by have := HD.out.1; omega) HD5.out).set (b := pn) (x := (k : Int)) (by simp) ((z + 1 : Nat) : Int) [] (by simp)).alloc (.cells #[.int .i64 ((z + 1 : Nat) : Int)] 3)
        have hnb := Blk.new (w5.setCell ⟨pn, 0, none⟩ (.int .i64 ((z + 1 : Nat) : Int))) 3 #[.int .i64 ((z + 1 : Nat) : Int)]
        rw [hs5] at hnb
        have hl5 := HC5.out.below.size
        refine HK.out _ _ (Handed.intro (N - (z + 1)) (by omega) (HJ.out _ _ _ ⟨z + 1, D :: ds, w5.heap.size, _, c ++ [y], _, _, _, _, _, _, _, _, _, _, _, _, _, _, _, _, _, _, _, _, _, _, _, _, _, _, _, _, _, _, by rw [HN.out], by rw [HN.out]; omega, List.nodup_cons.2 ⟨hnD, HCN.out.1⟩, ?_, ?_, hm5.more (b := w5.heap.size) (x := ((z + 1 : Nat) : Int)) hl5 hnb, rfl⟩))
        · rw [← HCN.out.2, HG.out]; simp
        · rw [List.length_append, List.length_singleton]; omega
      case stop =>
        rintro D c pre W hD hpre hf hK
        exact hf.elim
    · obtain rfl : k = N := by omega
      have t1 : decide ((k : Int) < (k : Int)) = false := decide_eq_false (by omega)
      clear hlt
      go_wp2_with fail
      have hc : countP l = c := by
        have h1 := HCN.out.2
        rw [List.drop_eq_nil_of_le (Nat.le_of_eq HN.out)] at h1
        rw [← h1]
        exact List.append_nil c
      show LeavesInM _ _ _ _ _ _ (ds.map mkD) .returning W
      rw [hc]
      exact leave_marks (fun W' => W'.ownsRow w.heap.size 34 33 ur c.length (flat enC c) ∧ Below w.heap.size w W') (fun W' h => ⟨_, results_tmp2 rfl _ _ _, _, rfl, h.1, h.2⟩) ds W HCN.out.1
        (fun D hD W' h hk => ⟨ownsRow_putObj h.1 _ hk rfl, h.2.grown (grownBy_putObj' W' D _) h.2.size (fun i e => by cases e; exact (HC.out.marks D hD).1)⟩) ⟨HC.out.own, HC.out.below⟩ (fun D hD => (HC.out.marks D hD).2)
/-- Counting of any list. -/
theorem counting_any (l : List En) (hin : ∀ e ∈ l, e.In) (hl : l.length ≤ 1000000) (v : Value) (w : World) (hv : ES w v l) : Calls Tryz.prog 18 #[v] w (fun r w' => ∃ u, r = .returned (.tuple #[u, .int .i64 (if setB l then 0 else 314)]) ∧ w'.ownsRow w.heap.size 34 33 u (cntL l).length (flat enC (cntL l)) ∧ Below w.heap.size w w') := by
  unfold cntL
  cases hs : setB l with
  | true => exact counting_yes l hin hl hs v w hv
  | false => exact (counting_no l hin hl hs v w hv).mono (fun r w' h => ⟨_, h.1, World.ownsRow_nil _ _ _ _, h.2⟩)
end Go.Proofs.YtpkmibmombpjpaaGreatDoor
