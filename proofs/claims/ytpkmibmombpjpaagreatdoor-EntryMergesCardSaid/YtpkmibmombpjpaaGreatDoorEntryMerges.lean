/- EntryMerges. EntryMerges returns true whatever the input; no condition but the tables and errors as their initialisers lay them, which the card ties to the text. -/
import Derived.Test.YtpkmibmombpjpaaGreatDoorOpL
import Derived.Test.YtpkmibmombpjpaaGreatDoorFrame
import Derived.Test.YtpkmibmombpjpaaGreatDoorCards
import Derived.Test.YtpkmibmombpjpaaGreatDoorTie
import Derived.SevenTiedAt
import Derived.SizedLaws
set_option linter.unusedSimpArgs false
namespace Go.Proofs.YtpkmibmombpjpaaGreatDoor
open Go Go.RowKit

def SpE (l : List En) : Sp := ⟨fun v w => ES w v l, fun _ _ _ h hb => h.keep hb⟩
def SpO (B : Nat) (l : List En) : Sp := ⟨fun v w => OwnE w B v l, fun _ _ _ h hb => h.keep hb⟩
/-- What the region that makes the sets needs of one list. -/
structure Prep (w : World) (A : Option Addr) (n cp k : Nat) (A2 : Option Addr) (c2 : Nat) (L X : List En) : Prop where
  mn : min (n : Int) 40 = (k : Int)
  run : ∀ W, (Instr.sliceAt 38 (.slice A n cp) none (some (.int .i64 (k : Int))) none).run Tryz.prog W = .ok (.slice A2 k c2) W
  made : ∀ W, Below w.heap.size w W → Calls Tryz.prog 14 #[.slice A2 k c2] W (fun r w' => ∃ u, r = .returned u ∧ ES w' u L ∧ Below W.heap.size W w')
  set : ∀ u W, ES W u L → Calls Tryz.prog 13 #[u] W (fun r w' => ∃ x, r = .returned x ∧ OwnE w' W.heap.size x X ∧ Below W.heap.size W w')
  set_ : setB X = true
  in_ : ∀ e ∈ X, e.In
  len : X.length ≤ 40
theorem prep (l : List Sm) (hin : ∀ x ∈ l, x.In) (v : Value) (w : World) (hv : SS w v l) : ∃ A n cp k A2 c2 L X, v = .slice A n cp ∧ Prep w A n cp k A2 c2 L X := by
  obtain ⟨A, cp, rfl, hcp⟩ := hv.len
  obtain ⟨n, hn⟩ : ∃ n, l.length = n := ⟨_, rfl⟩
  obtain ⟨k, hk⟩ : ∃ k, min n 40 = k := ⟨_, rfl⟩
  rw [hn] at hv hcp ⊢
  obtain ⟨A2, c2, hrun, hss⟩ := take_small hv hn (show k ≤ n by omega) hcp
  have hin2 : ∀ x ∈ l.take k, x.In := fun x hx => hin x (List.mem_of_mem_take hx)
  have hLin : ∀ e ∈ madeL (l.take k), e.In := by
    intro e he
    obtain ⟨x, _, rfl⟩ := List.mem_map.1 he
    exact made_in x
  have hLn : (madeL (l.take k)).length ≤ 40 := by unfold madeL; rw [List.length_map, List.length_take]; omega
  refine ⟨A, n, cp, k, A2, c2, madeL (l.take k), setL (madeL (l.take k)), rfl, by omega, hrun, ?_, fun u W h => set_any _ hLin (by omega) u W h, setB_setL _, setL_in hLin, Nat.le_trans (setL_len _) hLn⟩
  intro W hb
  refine (madeL_any (l.take k) hin2 (by rw [List.length_take]; omega) _ W (hss.keep hb)).mono ?_
  rintro r w' ⟨u, rfl, h, h2⟩
  exact ⟨u, rfl, ls_of_own (enc := enC) (sz := 33) enC_size h, h2⟩
/-- The lists of EntryMerges. -/
structure SSS (X Y Z S P R : List En) : Prop where
  xs : setB X = true
  ys : setB Y = true
  zs : setB Z = true
  ss : setB S = true
  ps : setB P = true
  rs : setB R = true
  xin : ∀ e ∈ X, e.In
  yin : ∀ e ∈ Y, e.In
  zin : ∀ e ∈ Z, e.In
  sin : ∀ e ∈ S, e.In
  pin : ∀ e ∈ P, e.In
  rin : ∀ e ∈ R, e.In
  xn : X.length ≤ 40
  yn : Y.length ≤ 40
  zn : Z.length ≤ 40
  sn : S.length ≤ 120
  pn : P.length ≤ 80
  rn : R.length ≤ 80
  mem : ∀ x, x ∈ S ↔ x ∈ X ∨ x ∈ Y ∨ x ∈ Z
  pm : ∀ x, x ∈ P ↔ x ∈ X ∨ x ∈ Y
  rm : ∀ x, x ∈ R ↔ x ∈ Y ∨ x ∈ Z
theorem SSS.m1 {X Y Z S P R : List En} (h : SSS X Y Z S P R) : ∀ x, x ∈ S ↔ x ∈ Z ∨ x ∈ X ∨ x ∈ Y := fun x => by rw [h.mem]; grind
theorem SSS.m2 {X Y Z S P R : List En} (h : SSS X Y Z S P R) : ∀ x, x ∈ S ↔ x ∈ P ∨ x ∈ Z := fun x => by rw [h.mem, h.pm]; grind
theorem SSS.m3 {X Y Z S P R : List En} (h : SSS X Y Z S P R) : ∀ x, x ∈ S ↔ x ∈ X ∨ x ∈ R := fun x => by rw [h.mem, h.rm]
theorem SSS.m4 {X Y Z S P R : List En} (h : SSS X Y Z S P R) : ∀ x, x ∈ S ↔ x ∈ S ∨ x ∈ Y := fun x => by rw [h.mem]; grind
/-- Entries that are taken one by one out of a block. -/
inductive RestE (W : World) (B C : Nat) : Value → List En → Prop
  | none_ : RestE W B C (.slice none 0 0) []
  | some_ (g c : Nat) (M : List En) (T : List Value) (hb : B ≤ g) (hc : g < C) (hl : M.length ≤ c) (h : EB W g M T) : RestE W B C (.slice (some ⟨g, 0, none⟩) M.length c) M
theorem own_rest {W : World} {B n : Nat} {u : Value} {l : List En} (h : W.ownsRow B 34 33 u n (flat enC l)) (hn : l.length = n) : RestE W B W.heap.size u l := by
  rcases h.2 with ⟨rfl, rfl⟩ | ⟨g, cap, cur, rfl, h1, hg, h2, h3, h4, h5⟩
  · obtain rfl : l = [] := List.length_eq_zero_iff.1 hn
    exact .none_
  · subst hn
    have hE : EB W g l (cur.toList.drop (l.length * 33)) := by
      unfold EB
      have : (flat enC l ++ cur.toList.drop (l.length * 33)).toArray = cur := by
        rw [← h5, List.take_append_drop]
      rw [this]
      exact hg
    exact .some_ g cap l _ h1 (Blk.lt hg) h2 hE
theorem sss (X Y Z : List En) (xs : setB X = true) (ys : setB Y = true) (zs : setB Z = true) (xin : ∀ e ∈ X, e.In) (yin : ∀ e ∈ Y, e.In) (zin : ∀ e ∈ Z, e.In) (xn : X.length ≤ 40) (yn : Y.length ≤ 40) (zn : Z.length ≤ 40) : ∃ S P R, SSS X Y Z S P R := by
  have m1 : ∀ x, x ∈ setL (X ++ (Y ++ Z)) ↔ x ∈ X ∨ x ∈ Y ∨ x ∈ Z := fun x => by rw [mem_setL, List.mem_append, List.mem_append]
  have m2 : ∀ x, x ∈ setL (X ++ Y) ↔ x ∈ X ∨ x ∈ Y := fun x => by rw [mem_setL, List.mem_append]
  have m3 : ∀ x, x ∈ setL (Y ++ Z) ↔ x ∈ Y ∨ x ∈ Z := fun x => by rw [mem_setL, List.mem_append]
  refine ⟨setL (X ++ (Y ++ Z)), setL (X ++ Y), setL (Y ++ Z), xs, ys, zs, setB_setL _, setB_setL _, setB_setL _, xin, yin, zin, ?_, ?_, ?_, xn, yn, zn, ?_, ?_, ?_, m1, m2, m3⟩
  · intro e he
    rcases (m1 e).1 he with h | h | h
    · exact xin e h
    · exact yin e h
    · exact zin e h
  · intro e he
    rcases (m2 e).1 he with h | h
    · exact xin e h
    · exact yin e h
  · intro e he
    rcases (m3 e).1 he with h | h
    · exact yin e h
    · exact zin e h
  · have := setL_len (X ++ (Y ++ Z)); simp only [List.length_append] at this; omega
  · have := setL_len (X ++ Y); simp only [List.length_append] at this; omega
  · have := setL_len (Y ++ Z); simp only [List.length_append] at this; omega
/-- What EntryMerges holds. -/
structure MI (w : World) (vx vy vz vs : Value) (X Y Z S : List En) (W : World) : Prop where
  ex : EX w W
  x : ES W vx X
  y : OwnE W w.heap.size vy Y
  z : ES W vz Z
  s : ES W vs S
theorem MI.keep {w W W' : World} {vx vy vz vs : Value} {X Y Z S : List En} (h : MI w vx vy vz vs X Y Z S W) (hb : Below W.heap.size W W') : MI w vx vy vz vs X Y Z S W' := ⟨h.ex.keep hb, h.x.keep hb, h.y.keep hb, h.z.keep hb, h.s.keep hb⟩
/-- The loop that takes entries out of the rest. -/
structure LM (S T O : List En) : Prop where
  set_ : setB O = true
  mem : ∀ x, x ∈ S ↔ x ∈ O ∨ x ∈ T
theorem swap_mem {T : List En} {q k : Nat} {x y : En} (hn : T.length = q + 1) (hk : k ≤ q) (hx : T[k]? = some x) (hy : T[q]? = some y) : ∀ z, z ∈ T ↔ z = x ∨ z ∈ (T.set k y).take q := by
  intro z
  rw [List.mem_iff_getElem?, List.mem_iff_getElem?]
  constructor
  · rintro ⟨i, hi⟩
    have hlt := (List.getElem?_eq_some_iff.1 hi).1
    by_cases h1 : i = k
    · subst h1; rw [hx] at hi; injection hi with hi; exact .inl hi.symm
    · refine .inr ?_
      by_cases h2 : i = q
      · subst h2; rw [hy] at hi; injection hi with hi; subst hi
        exact ⟨k, by rw [List.getElem?_take, if_pos (by omega), List.getElem?_set_self (by omega)]⟩
      · exact ⟨i, by rw [List.getElem?_take, if_pos (by omega), List.getElem?_set_ne (fun e => h1 e.symm)]; exact hi⟩
  · rintro (rfl | ⟨i, hi⟩)
    · exact ⟨k, hx⟩
    · rw [List.getElem?_take] at hi
      split at hi
      · by_cases h1 : i = k
        · subst h1; rw [List.getElem?_set_self (by omega)] at hi; exact ⟨q, hy.trans hi⟩
        · rw [List.getElem?_set_ne (fun e => h1 e.symm)] at hi; exact ⟨i, hi⟩
      · cases hi
theorem LM.next {S T O : List En} {q k : Nat} {x y : En} (h : LM S T O) (hn : T.length = q + 1) (hk : k ≤ q) (hx : T[k]? = some x) (hy : T[q]? = some y) : LM S ((T.set k y).take q) (setL (O ++ [x])) :=
  ⟨setB_setL _, fun z => by rw [h.mem, mem_setL, List.mem_append, List.mem_singleton, swap_mem hn hk hx hy, or_assoc]⟩
theorem EB.take {W : World} {g k : Nat} {M : List En} {T : List Value} (h : EB W g M T) : EB W g (M.take k) (flat enC (M.drop k) ++ T) := by
  unfold EB at *
  rw [← List.append_assoc, ← flat_app, List.take_append_drop]
  exact h
theorem RestE.pos {W : World} {B C n c : Nat} {A : Option Addr} {M : List En} (h : RestE W B C (.slice A n c) M) (h0 : 0 < n) : ∃ g T, A = some ⟨g, 0, none⟩ ∧ B ≤ g ∧ g < C ∧ n ≤ c ∧ EB W g M T := by
  cases h with
  | none_ => omega
  | some_ g c M T hb hc hl h => exact ⟨g, T, rfl, hb, hc, hl, h⟩
theorem slice_one {g n c k : Nat} (hk : k < n) (hn : n ≤ c) (W : World) : (Instr.sliceAt 40 (.slice (some ⟨g, 0, none⟩) n c) (some (.int .i64 (k : Int))) (some (.int .i64 ((k : Int) + 1))) (some (.int .i64 ((k : Int) + 1)))).run Tryz.prog W = .ok (.slice (some ⟨g, k * 33, none⟩) 1 1) W := by
  have hu : Tryz.prog.underlying 40 = some (.slice (Tryz.prog.elem 40)) := by kernel_rfl
  have hs : ∀ W, (sizeOf (Tryz.prog.elem 40)).run Tryz.prog W = .ok 33 W := fun W => by kernel_rfl
  rw [run_sliceAt_slice _ _ _ _ _ _ hu, run_slice_any _ _ _ _ _ hu]
  have g1 : (0 : Int) ≤ (k : Int) + 1 ∧ (k : Int) + 1 ≤ (c : Int) := by omega
  have g2 : (0 : Int) ≤ (k : Int) + 1 ∧ (k : Int) + 1 ≤ ((k + 1 : Nat) : Int) := by omega
  have g3 : (0 : Int) ≤ (k : Int) ∧ (k : Int) ≤ ((k + 1 : Nat) : Int) := by omega
  have e1 : ((k : Int) + 1).toNat = k + 1 := by omega
  simp only [Instr.sliceBounds, Sem.run_bind, Sem.run_pure, run_sliceBound_if, g1, and_self, if_true, e1, Result.andThen_ok, hs, sliced, g2, g3, Int.toNat_natCast]
  rw [if_neg (by omega : ¬ k + 1 = k)]
  simp [add_at]
theorem OwnE.otherCells {W : World} {B g o : Nat} {v : Value} {M : List En} (h : OwnE W B v M) (hg : g < B) (vs : List Value) : OwnE (W.setCells g o vs) B v M := by
  cases h with
  | none_ => exact .none_
  | some_ b M T hb h => exact .some_ b M T hb (Blk.otherCells (by omega) vs o W h)
theorem es_one {W : World} {g k : Nat} {M : List En} {T : List Value} {x : En} (h : EB W g M T) (hx : M[k]? = some x) : ES W (.slice (some ⟨g, k * 33, none⟩) 1 1) [x] :=
  .some_ g (k * 33) 1 [x] h.lt (Nat.le_refl _) (fun i e hi j v hj => by
    match i, hi with
    | 0, hi =>
      injection hi with hi; subst hi
      rw [Nat.zero_mul, Nat.add_zero]
      exact h.get hx j v hj
    | i + 1, hi => simp at hi)
theorem count_set (l : List En) (hs : setB l = true) (hin : ∀ e ∈ l, e.In) (hl : l.length ≤ 1000000) (v : Value) (w : World) (hv : ES w v l) : Calls Tryz.prog 18 #[v] w (fun r w' => ∃ u, r = .returned (.tuple #[u, .int .i64 0]) ∧ ES w' u (countP l) ∧ Below w.heap.size w w') := by
  refine (counting_any l hin hl v w hv).mono ?_
  rintro r w' ⟨u, rfl, h, hb⟩
  rw [hs, if_pos rfl]
  have e : cntL l = countP l := by unfold cntL; rw [hs, if_pos rfl]
  rw [e] at h
  exact ⟨u, rfl, ls_of_own (enc := enC) (sz := 33) enC_size h, hb⟩
theorem count_in {l : List En} (h : ∀ e ∈ l, e.In) : ∀ e ∈ countP l, e.In := fun e he => h e (count_sub e l he)
set_option maxRecDepth 100000 in
set_option maxHeartbeats 8000000 in
theorem merges_any (la lb lc : List Sm) (ia : ∀ x ∈ la, x.In) (ib : ∀ x ∈ lb, x.In) (ic : ∀ x ∈ lc, x.In) (va vb vc vo : Value) (bs : List UInt8) (w : World) (he : Env w) (ha : SS w va la) (hb : SS w vb lb) (hc : SS w vc lc) (ho : BV w vo bs) :
    Calls Tryz.prog 5 #[va, vb, vc, vo] w (fun r w' => r = .returned (.bool true) ∧ Below w.heap.size w w') := by
  obtain ⟨Aa, na, ca, ka, Aa2, ca2, La, X, rfl, PX⟩ := prep la ia va w ha
  obtain ⟨Ab, nb, cb, kb, Ab2, cb2, Lb, Y, rfl, PY⟩ := prep lb ib vb w hb
  obtain ⟨Ac, nc, cc, kc, Ac2, cc2, Lc, Z, rfl, PZ⟩ := prep lc ic vc w hc
  obtain ⟨Ao, co, rfl⟩ := ho.len
  obtain ⟨no, hno⟩ : ∃ n, bs.length = n := ⟨_, rfl⟩
  rw [hno] at ho ⊢
  have HO := Lib.hid ho
  have HNO := Lib.hid hno
  have HPX := Lib.hid PX
  have HPY := Lib.hid PY
  have HPZ := Lib.hid PZ
  have AW := Lib.hid (awake_any)
  have HE := Lib.hid (show EX w w from ⟨he, Below.refl _ _⟩)
  clear ia ib ic ha hb hc ho hno he PX PY PZ la lb lc
  go_enter Tryz.func5, Tryz.ntmps5
  go_wp2_with fail
  refine (AW.out _ HE.out.env).mono ?_
  rintro r w1 ⟨rfl, hb⟩
  have HE1 := Lib.hid (HE.out.keep hb)
  clear HE AW hb
  obtain ⟨S, P, R, hsss⟩ := sss X Y Z HPX.out.set_ HPY.out.set_ HPZ.out.set_ HPX.out.in_ HPY.out.in_ HPZ.out.in_ HPX.out.len HPY.out.len HPZ.out.len
  have HSS := Lib.hid hsss
  obtain ⟨nX, hnX⟩ : ∃ n, X.length = n := ⟨_, rfl⟩
  obtain ⟨nY, hnY⟩ : ∃ n, Y.length = n := ⟨_, rfl⟩
  obtain ⟨nZ, hnZ⟩ : ∃ n, Z.length = n := ⟨_, rfl⟩
  have HN := Lib.hid (And.intro hnX (And.intro hnY hnZ))
  clear hsss hnX hnY hnZ
  go_upto_region 3 with fail
  go_cut [9, 10, 11] (fun s9 s10 s11 wx => ∃ AX cX AY cY AZ cZ, s9 = .slice AX nX cX ∧ s10 = .slice AY nY cY ∧ s11 = .slice AZ nZ cZ ∧ Hid (EX w wx) ∧ Hid (OwnE wx w.heap.size (.slice AX nX cX) X) ∧ Hid (OwnE wx w.heap.size (.slice AY nY cY) Y) ∧ Hid (OwnE wx w.heap.size (.slice AZ nZ cZ) Z))
  case first =>
    clear HSS HO HNO
    refine rest_begin (by kernel_rfl) ?_
    have HE2 := Lib.hid (HE1.out.keep (Below.refl _ w1).drew)
    clear HE1
    generalize w1.drew = wa at *
    clear w1
    refine rest_flow3 [some 28, some 29, some 30, some 31, some 32, some 33, some 34, some 35, some 36, some 37, some 38, some 39, some 40, some 41, some 42, some 43, some 44, some 45, some 46, some 47, some 48] [Sp.is (.slice Aa na ca), Sp.is (.slice Aa na ca), Sp.is (.int .i64 (na : Int)), Sp.is (.int .i64 (ka : Int)), Sp.is (.slice Aa2 ka ca2), SpE La, SpO w.heap.size X, Sp.is (.slice Ab nb cb), Sp.is (.slice Ab nb cb), Sp.is (.int .i64 (nb : Int)), Sp.is (.int .i64 (kb : Int)), Sp.is (.slice Ab2 kb cb2), SpE Lb, SpO w.heap.size Y, Sp.is (.slice Ac nc cc), Sp.is (.slice Ac nc cc), Sp.is (.int .i64 (nc : Int)), Sp.is (.int .i64 (kc : Int)), Sp.is (.slice Ac2 kc cc2), SpE Lc, SpO w.heap.size Z] [false, false, false, false, false, false, false, false, false, false, false, false, false, false, false, false, false, false, false, false, false] 21 (by kernel_rfl) (by kernel_rfl) (fun u F hF => ?_) (fun u w' hbF hsF hold hap => ?_)
    case refine_1 =>
      have E0 : F.eval (.tmp 0) = (.slice Aa na ca) := (congrArg (fun a => Act.eval a (.tmp 0)) hF).trans (eval_out [some 28, some 29, some 30, some 31, some 32, some 33, some 34, some 35, some 36, some 37, some 38, some 39, some 40, some 41, some 42, some 43, some 44, some 45, some 46, some 47, some 48] 0 _ (by decide))
      have D29 : F.eval (.tmp 29) = u 1 := (congrArg (fun a => Act.eval a (.tmp 29)) hF).trans (eval_in [some 28, some 29, some 30, some 31, some 32, some 33, some 34, some 35, some 36, some 37, some 38, some 39, some 40, some 41, some 42, some 43, some 44, some 45, some 46, some 47, some 48] 0 1 _ (by decide) (by omega) rfl (of_decide_eq_true (by kernel_rfl)))
      have D30 : F.eval (.tmp 30) = u 2 := (congrArg (fun a => Act.eval a (.tmp 30)) hF).trans (eval_in [some 28, some 29, some 30, some 31, some 32, some 33, some 34, some 35, some 36, some 37, some 38, some 39, some 40, some 41, some 42, some 43, some 44, some 45, some 46, some 47, some 48] 0 2 _ (by decide) (by omega) rfl (of_decide_eq_true (by kernel_rfl)))
      have D28 : F.eval (.tmp 28) = u 0 := (congrArg (fun a => Act.eval a (.tmp 28)) hF).trans (eval_in [some 28, some 29, some 30, some 31, some 32, some 33, some 34, some 35, some 36, some 37, some 38, some 39, some 40, some 41, some 42, some 43, some 44, some 45, some 46, some 47, some 48] 0 0 _ (by decide) (by omega) rfl (of_decide_eq_true (by kernel_rfl)))
      have D31 : F.eval (.tmp 31) = u 3 := (congrArg (fun a => Act.eval a (.tmp 31)) hF).trans (eval_in [some 28, some 29, some 30, some 31, some 32, some 33, some 34, some 35, some 36, some 37, some 38, some 39, some 40, some 41, some 42, some 43, some 44, some 45, some 46, some 47, some 48] 0 3 _ (by decide) (by omega) rfl (of_decide_eq_true (by kernel_rfl)))
      have D32 : F.eval (.tmp 32) = u 4 := (congrArg (fun a => Act.eval a (.tmp 32)) hF).trans (eval_in [some 28, some 29, some 30, some 31, some 32, some 33, some 34, some 35, some 36, some 37, some 38, some 39, some 40, some 41, some 42, some 43, some 44, some 45, some 46, some 47, some 48] 0 4 _ (by decide) (by omega) rfl (of_decide_eq_true (by kernel_rfl)))
      have D33 : F.eval (.tmp 33) = u 5 := (congrArg (fun a => Act.eval a (.tmp 33)) hF).trans (eval_in [some 28, some 29, some 30, some 31, some 32, some 33, some 34, some 35, some 36, some 37, some 38, some 39, some 40, some 41, some 42, some 43, some 44, some 45, some 46, some 47, some 48] 0 5 _ (by decide) (by omega) rfl (of_decide_eq_true (by kernel_rfl)))
      have E1 : F.eval (.tmp 1) = (.slice Ab nb cb) := (congrArg (fun a => Act.eval a (.tmp 1)) hF).trans (eval_out [some 28, some 29, some 30, some 31, some 32, some 33, some 34, some 35, some 36, some 37, some 38, some 39, some 40, some 41, some 42, some 43, some 44, some 45, some 46, some 47, some 48] 0 _ (by decide))
      have D36 : F.eval (.tmp 36) = u 8 := (congrArg (fun a => Act.eval a (.tmp 36)) hF).trans (eval_in [some 28, some 29, some 30, some 31, some 32, some 33, some 34, some 35, some 36, some 37, some 38, some 39, some 40, some 41, some 42, some 43, some 44, some 45, some 46, some 47, some 48] 0 8 _ (by decide) (by omega) rfl (of_decide_eq_true (by kernel_rfl)))
      have D37 : F.eval (.tmp 37) = u 9 := (congrArg (fun a => Act.eval a (.tmp 37)) hF).trans (eval_in [some 28, some 29, some 30, some 31, some 32, some 33, some 34, some 35, some 36, some 37, some 38, some 39, some 40, some 41, some 42, some 43, some 44, some 45, some 46, some 47, some 48] 0 9 _ (by decide) (by omega) rfl (of_decide_eq_true (by kernel_rfl)))
      have D35 : F.eval (.tmp 35) = u 7 := (congrArg (fun a => Act.eval a (.tmp 35)) hF).trans (eval_in [some 28, some 29, some 30, some 31, some 32, some 33, some 34, some 35, some 36, some 37, some 38, some 39, some 40, some 41, some 42, some 43, some 44, some 45, some 46, some 47, some 48] 0 7 _ (by decide) (by omega) rfl (of_decide_eq_true (by kernel_rfl)))
      have D38 : F.eval (.tmp 38) = u 10 := (congrArg (fun a => Act.eval a (.tmp 38)) hF).trans (eval_in [some 28, some 29, some 30, some 31, some 32, some 33, some 34, some 35, some 36, some 37, some 38, some 39, some 40, some 41, some 42, some 43, some 44, some 45, some 46, some 47, some 48] 0 10 _ (by decide) (by omega) rfl (of_decide_eq_true (by kernel_rfl)))
      have D39 : F.eval (.tmp 39) = u 11 := (congrArg (fun a => Act.eval a (.tmp 39)) hF).trans (eval_in [some 28, some 29, some 30, some 31, some 32, some 33, some 34, some 35, some 36, some 37, some 38, some 39, some 40, some 41, some 42, some 43, some 44, some 45, some 46, some 47, some 48] 0 11 _ (by decide) (by omega) rfl (of_decide_eq_true (by kernel_rfl)))
      have D40 : F.eval (.tmp 40) = u 12 := (congrArg (fun a => Act.eval a (.tmp 40)) hF).trans (eval_in [some 28, some 29, some 30, some 31, some 32, some 33, some 34, some 35, some 36, some 37, some 38, some 39, some 40, some 41, some 42, some 43, some 44, some 45, some 46, some 47, some 48] 0 12 _ (by decide) (by omega) rfl (of_decide_eq_true (by kernel_rfl)))
      have E2 : F.eval (.tmp 2) = (.slice Ac nc cc) := (congrArg (fun a => Act.eval a (.tmp 2)) hF).trans (eval_out [some 28, some 29, some 30, some 31, some 32, some 33, some 34, some 35, some 36, some 37, some 38, some 39, some 40, some 41, some 42, some 43, some 44, some 45, some 46, some 47, some 48] 0 _ (by decide))
      have D43 : F.eval (.tmp 43) = u 15 := (congrArg (fun a => Act.eval a (.tmp 43)) hF).trans (eval_in [some 28, some 29, some 30, some 31, some 32, some 33, some 34, some 35, some 36, some 37, some 38, some 39, some 40, some 41, some 42, some 43, some 44, some 45, some 46, some 47, some 48] 0 15 _ (by decide) (by omega) rfl (of_decide_eq_true (by kernel_rfl)))
      have D44 : F.eval (.tmp 44) = u 16 := (congrArg (fun a => Act.eval a (.tmp 44)) hF).trans (eval_in [some 28, some 29, some 30, some 31, some 32, some 33, some 34, some 35, some 36, some 37, some 38, some 39, some 40, some 41, some 42, some 43, some 44, some 45, some 46, some 47, some 48] 0 16 _ (by decide) (by omega) rfl (of_decide_eq_true (by kernel_rfl)))
      have D42 : F.eval (.tmp 42) = u 14 := (congrArg (fun a => Act.eval a (.tmp 42)) hF).trans (eval_in [some 28, some 29, some 30, some 31, some 32, some 33, some 34, some 35, some 36, some 37, some 38, some 39, some 40, some 41, some 42, some 43, some 44, some 45, some 46, some 47, some 48] 0 14 _ (by decide) (by omega) rfl (of_decide_eq_true (by kernel_rfl)))
      have D45 : F.eval (.tmp 45) = u 17 := (congrArg (fun a => Act.eval a (.tmp 45)) hF).trans (eval_in [some 28, some 29, some 30, some 31, some 32, some 33, some 34, some 35, some 36, some 37, some 38, some 39, some 40, some 41, some 42, some 43, some 44, some 45, some 46, some 47, some 48] 0 17 _ (by decide) (by omega) rfl (of_decide_eq_true (by kernel_rfl)))
      have D46 : F.eval (.tmp 46) = u 18 := (congrArg (fun a => Act.eval a (.tmp 46)) hF).trans (eval_in [some 28, some 29, some 30, some 31, some 32, some 33, some 34, some 35, some 36, some 37, some 38, some 39, some 40, some 41, some 42, some 43, some 44, some 45, some 46, some 47, some 48] 0 18 _ (by decide) (by omega) rfl (of_decide_eq_true (by kernel_rfl)))
      have D47 : F.eval (.tmp 47) = u 19 := (congrArg (fun a => Act.eval a (.tmp 47)) hF).trans (eval_in [some 28, some 29, some 30, some 31, some 32, some 33, some 34, some 35, some 36, some 37, some 38, some 39, some 40, some 41, some 42, some 43, some 44, some 45, some 46, some 47, some 48] 0 19 _ (by decide) (by omega) rfl (of_decide_eq_true (by kernel_rfl)))
      clear hF
      refine ⟨?_, ?_, ?_, ?_, ?_, ?_, ?_, ?_, ?_, ?_, ?_, ?_, ?_, ?_, ?_, ?_, ?_, ?_, ?_, ?_, ?_, trivial⟩
      · intro w1 hb hd K hK
        have e0 := E0
        exact op_val (v := (.slice Aa na ca)) rfl (by simp only [execOp, List.map_toArray, List.map_cons, List.map_nil, e0]; go_simp) (hK _ _ (show _ = _ from rfl) (Below.refl _ _) (Fresh.no _ _ _))
      · intro w1 hb hd K hK
        have e0 := E0
        exact op_val (v := (.slice Aa na ca)) rfl (by simp only [execOp, List.map_toArray, List.map_cons, List.map_nil, e0]; go_simp) (hK _ _ (show _ = _ from rfl) (Below.refl _ _) (Fresh.no _ _ _))
      · intro w1 hb hd K hK
        have e29 := D29.trans (show u 1 = (.slice Aa na ca) from hd ⟨1, .data⟩ (by simp) rfl (by omega))
        exact op_val (v := (.int .i64 (na : Int))) rfl (exec_len Tryz.underlying38 rfl e29) (hK _ _ (show _ = _ from rfl) (Below.refl _ _) (Fresh.no _ _ _))
      · intro w1 hb hd K hK
        have e30 := D30.trans (show u 2 = (.int .i64 (na : Int)) from hd ⟨2, .data⟩ (by simp) rfl (by omega))
        exact op_val (v := (.int .i64 (ka : Int))) rfl (by simp only [execOp, List.map_toArray, List.map_cons, List.map_nil]; go_simp; rw [eval_get e30]; simp only [Go.Lib.run_min_ints, Result.andThen_ok, HPX.out.mn]) (hK _ _ (show _ = _ from rfl) (Below.refl _ _) (Fresh.no _ _ _))
      · intro w1 hb hd K hK
        have e28 := D28.trans (show u 0 = (.slice Aa na ca) from hd ⟨0, .data⟩ (by simp) rfl (by omega))
        have e31 := D31.trans (show u 3 = (.int .i64 (ka : Int)) from hd ⟨3, .data⟩ (by simp) rfl (by omega))
        exact op_val (v := (.slice Aa2 ka ca2)) rfl (exec_slice rfl e28 rfl (congrArg some e31) rfl (HPX.out.run w1)) (hK _ _ (show _ = _ from rfl) (Below.refl _ _) (Fresh.no _ _ _))
      · intro w1 hb hd K hK
        have e32 := D32.trans (show u 4 = (.slice Aa2 ka ca2) from hd ⟨4, .data⟩ (by simp) rfl (by omega))
        refine op_call (R := fun v w2 => ES w2 v La ∧ Below w1.heap.size w1 w2) (f := 14) (args := #[(.slice Aa2 ka ca2)]) rfl (by simp only [execOp]; go_simp; first | exact eval_get e32 | exact ⟨rfl, eval_get e32⟩ | exact ⟨eval_get e32, rfl⟩) ((HPX.out.made w1 (HE2.out.below.trans (hb.mono HE2.out.below.size))).mono fun e w2 hh => by obtain ⟨v, h1, h2, h3⟩ := hh; exact ⟨_, h1, h2, h3⟩) (fun v w2 hh => hK _ _ hh.1 hh.2 (Fresh.no _ _ _))
      · intro w1 hb hd K hK
        have h33 := (show ES w1 (u 5) La from hd ⟨5, .data⟩ (by simp) rfl (by omega))
        refine op_call (R := fun v w2 => OwnE w2 w.heap.size v X ∧ Below w1.heap.size w1 w2) (f := 13) (args := #[u 5]) rfl (by simp only [execOp]; go_simp; first | exact eval_get D33 | exact ⟨rfl, eval_get D33⟩ | exact ⟨eval_get D33, rfl⟩) ((HPX.out.set (u 5) w1 h33).mono fun e w2 hh => by obtain ⟨v, h1, h2, h3⟩ := hh; exact ⟨_, h1, h2.mono (Nat.le_trans HE2.out.below.size hb.size), h3⟩) (fun v w2 hh => hK _ _ hh.1 hh.2 (Fresh.no _ _ _))
      · intro w1 hb hd K hK
        have e1 := E1
        exact op_val (v := (.slice Ab nb cb)) rfl (by simp only [execOp, List.map_toArray, List.map_cons, List.map_nil, e1]; go_simp) (hK _ _ (show _ = _ from rfl) (Below.refl _ _) (Fresh.no _ _ _))
      · intro w1 hb hd K hK
        have e1 := E1
        exact op_val (v := (.slice Ab nb cb)) rfl (by simp only [execOp, List.map_toArray, List.map_cons, List.map_nil, e1]; go_simp) (hK _ _ (show _ = _ from rfl) (Below.refl _ _) (Fresh.no _ _ _))
      · intro w1 hb hd K hK
        have e36 := D36.trans (show u 8 = (.slice Ab nb cb) from hd ⟨8, .data⟩ (by simp) rfl (by omega))
        exact op_val (v := (.int .i64 (nb : Int))) rfl (exec_len Tryz.underlying38 rfl e36) (hK _ _ (show _ = _ from rfl) (Below.refl _ _) (Fresh.no _ _ _))
      · intro w1 hb hd K hK
        have e37 := D37.trans (show u 9 = (.int .i64 (nb : Int)) from hd ⟨9, .data⟩ (by simp) rfl (by omega))
        exact op_val (v := (.int .i64 (kb : Int))) rfl (by simp only [execOp, List.map_toArray, List.map_cons, List.map_nil]; go_simp; rw [eval_get e37]; simp only [Go.Lib.run_min_ints, Result.andThen_ok, HPY.out.mn]) (hK _ _ (show _ = _ from rfl) (Below.refl _ _) (Fresh.no _ _ _))
      · intro w1 hb hd K hK
        have e35 := D35.trans (show u 7 = (.slice Ab nb cb) from hd ⟨7, .data⟩ (by simp) rfl (by omega))
        have e38 := D38.trans (show u 10 = (.int .i64 (kb : Int)) from hd ⟨10, .data⟩ (by simp) rfl (by omega))
        exact op_val (v := (.slice Ab2 kb cb2)) rfl (exec_slice rfl e35 rfl (congrArg some e38) rfl (HPY.out.run w1)) (hK _ _ (show _ = _ from rfl) (Below.refl _ _) (Fresh.no _ _ _))
      · intro w1 hb hd K hK
        have e39 := D39.trans (show u 11 = (.slice Ab2 kb cb2) from hd ⟨11, .data⟩ (by simp) rfl (by omega))
        refine op_call (R := fun v w2 => ES w2 v Lb ∧ Below w1.heap.size w1 w2) (f := 14) (args := #[(.slice Ab2 kb cb2)]) rfl (by simp only [execOp]; go_simp; first | exact eval_get e39 | exact ⟨rfl, eval_get e39⟩ | exact ⟨eval_get e39, rfl⟩) ((HPY.out.made w1 (HE2.out.below.trans (hb.mono HE2.out.below.size))).mono fun e w2 hh => by obtain ⟨v, h1, h2, h3⟩ := hh; exact ⟨_, h1, h2, h3⟩) (fun v w2 hh => hK _ _ hh.1 hh.2 (Fresh.no _ _ _))
      · intro w1 hb hd K hK
        have h40 := (show ES w1 (u 12) Lb from hd ⟨12, .data⟩ (by simp) rfl (by omega))
        refine op_call (R := fun v w2 => OwnE w2 w.heap.size v Y ∧ Below w1.heap.size w1 w2) (f := 13) (args := #[u 12]) rfl (by simp only [execOp]; go_simp; first | exact eval_get D40 | exact ⟨rfl, eval_get D40⟩ | exact ⟨eval_get D40, rfl⟩) ((HPY.out.set (u 12) w1 h40).mono fun e w2 hh => by obtain ⟨v, h1, h2, h3⟩ := hh; exact ⟨_, h1, h2.mono (Nat.le_trans HE2.out.below.size hb.size), h3⟩) (fun v w2 hh => hK _ _ hh.1 hh.2 (Fresh.no _ _ _))
      · intro w1 hb hd K hK
        have e2 := E2
        exact op_val (v := (.slice Ac nc cc)) rfl (by simp only [execOp, List.map_toArray, List.map_cons, List.map_nil, e2]; go_simp) (hK _ _ (show _ = _ from rfl) (Below.refl _ _) (Fresh.no _ _ _))
      · intro w1 hb hd K hK
        have e2 := E2
        exact op_val (v := (.slice Ac nc cc)) rfl (by simp only [execOp, List.map_toArray, List.map_cons, List.map_nil, e2]; go_simp) (hK _ _ (show _ = _ from rfl) (Below.refl _ _) (Fresh.no _ _ _))
      · intro w1 hb hd K hK
        have e43 := D43.trans (show u 15 = (.slice Ac nc cc) from hd ⟨15, .data⟩ (by simp) rfl (by omega))
        exact op_val (v := (.int .i64 (nc : Int))) rfl (exec_len Tryz.underlying38 rfl e43) (hK _ _ (show _ = _ from rfl) (Below.refl _ _) (Fresh.no _ _ _))
      · intro w1 hb hd K hK
        have e44 := D44.trans (show u 16 = (.int .i64 (nc : Int)) from hd ⟨16, .data⟩ (by simp) rfl (by omega))
        exact op_val (v := (.int .i64 (kc : Int))) rfl (by simp only [execOp, List.map_toArray, List.map_cons, List.map_nil]; go_simp; rw [eval_get e44]; simp only [Go.Lib.run_min_ints, Result.andThen_ok, HPZ.out.mn]) (hK _ _ (show _ = _ from rfl) (Below.refl _ _) (Fresh.no _ _ _))
      · intro w1 hb hd K hK
        have e42 := D42.trans (show u 14 = (.slice Ac nc cc) from hd ⟨14, .data⟩ (by simp) rfl (by omega))
        have e45 := D45.trans (show u 17 = (.int .i64 (kc : Int)) from hd ⟨17, .data⟩ (by simp) rfl (by omega))
        exact op_val (v := (.slice Ac2 kc cc2)) rfl (exec_slice rfl e42 rfl (congrArg some e45) rfl (HPZ.out.run w1)) (hK _ _ (show _ = _ from rfl) (Below.refl _ _) (Fresh.no _ _ _))
      · intro w1 hb hd K hK
        have e46 := D46.trans (show u 18 = (.slice Ac2 kc cc2) from hd ⟨18, .data⟩ (by simp) rfl (by omega))
        refine op_call (R := fun v w2 => ES w2 v Lc ∧ Below w1.heap.size w1 w2) (f := 14) (args := #[(.slice Ac2 kc cc2)]) rfl (by simp only [execOp]; go_simp; first | exact eval_get e46 | exact ⟨rfl, eval_get e46⟩ | exact ⟨eval_get e46, rfl⟩) ((HPZ.out.made w1 (HE2.out.below.trans (hb.mono HE2.out.below.size))).mono fun e w2 hh => by obtain ⟨v, h1, h2, h3⟩ := hh; exact ⟨_, h1, h2, h3⟩) (fun v w2 hh => hK _ _ hh.1 hh.2 (Fresh.no _ _ _))
      · intro w1 hb hd K hK
        have h47 := (show ES w1 (u 19) Lc from hd ⟨19, .data⟩ (by simp) rfl (by omega))
        refine op_call (R := fun v w2 => OwnE w2 w.heap.size v Z ∧ Below w1.heap.size w1 w2) (f := 13) (args := #[u 19]) rfl (by simp only [execOp]; go_simp; first | exact eval_get D47 | exact ⟨rfl, eval_get D47⟩ | exact ⟨eval_get D47, rfl⟩) ((HPZ.out.set (u 19) w1 h47).mono fun e w2 hh => by obtain ⟨v, h1, h2, h3⟩ := hh; exact ⟨_, h1, h2.mono (Nat.le_trans HE2.out.below.size hb.size), h3⟩) (fun v w2 hh => hK _ _ hh.1 hh.2 (Fresh.no _ _ _))
    have hv28 : u 0 = (.slice Aa na ca) := (show u 0 = _ from hsF 0 (by omega) (by omega))
    have hv29 : u 1 = (.slice Aa na ca) := (show u 1 = _ from hsF 1 (by omega) (by omega))
    have hv30 : u 2 = (.int .i64 (na : Int)) := (show u 2 = _ from hsF 2 (by omega) (by omega))
    have hv31 : u 3 = (.int .i64 (ka : Int)) := (show u 3 = _ from hsF 3 (by omega) (by omega))
    have hv32 : u 4 = (.slice Aa2 ka ca2) := (show u 4 = _ from hsF 4 (by omega) (by omega))
    obtain ⟨A33, c33, hv33, -⟩ := LS.len (show ES w' (u 5) La from hsF 5 (by omega) (by omega))
    have hO34 : OwnE w' w.heap.size (u 6) X := hsF 6 (by omega) (by omega)
    obtain ⟨A34, c34, hv34, -⟩ := LS.len hO34.es
    rw [hv34] at hO34
    have hv35 : u 7 = (.slice Ab nb cb) := (show u 7 = _ from hsF 7 (by omega) (by omega))
    have hv36 : u 8 = (.slice Ab nb cb) := (show u 8 = _ from hsF 8 (by omega) (by omega))
    have hv37 : u 9 = (.int .i64 (nb : Int)) := (show u 9 = _ from hsF 9 (by omega) (by omega))
    have hv38 : u 10 = (.int .i64 (kb : Int)) := (show u 10 = _ from hsF 10 (by omega) (by omega))
    have hv39 : u 11 = (.slice Ab2 kb cb2) := (show u 11 = _ from hsF 11 (by omega) (by omega))
    obtain ⟨A40, c40, hv40, -⟩ := LS.len (show ES w' (u 12) Lb from hsF 12 (by omega) (by omega))
    have hO41 : OwnE w' w.heap.size (u 13) Y := hsF 13 (by omega) (by omega)
    obtain ⟨A41, c41, hv41, -⟩ := LS.len hO41.es
    rw [hv41] at hO41
    have hv42 : u 14 = (.slice Ac nc cc) := (show u 14 = _ from hsF 14 (by omega) (by omega))
    have hv43 : u 15 = (.slice Ac nc cc) := (show u 15 = _ from hsF 15 (by omega) (by omega))
    have hv44 : u 16 = (.int .i64 (nc : Int)) := (show u 16 = _ from hsF 16 (by omega) (by omega))
    have hv45 : u 17 = (.int .i64 (kc : Int)) := (show u 17 = _ from hsF 17 (by omega) (by omega))
    have hv46 : u 18 = (.slice Ac2 kc cc2) := (show u 18 = _ from hsF 18 (by omega) (by omega))
    obtain ⟨A47, c47, hv47, -⟩ := LS.len (show ES w' (u 19) Lc from hsF 19 (by omega) (by omega))
    have hO48 : OwnE w' w.heap.size (u 20) Z := hsF 20 (by omega) (by omega)
    obtain ⟨A48, c48, hv48, -⟩ := LS.len hO48.es
    rw [hv48] at hO48
    simp only [putRow, hv28, hv29, hv30, hv31, hv32, hv33, hv34, hv35, hv36, hv37, hv38, hv39, hv40, hv41, hv42, hv43, hv44, hv45, hv46, hv47, hv48, Act.put, List.setIfInBounds_toArray, List.set_cons_succ, List.set_cons_zero]
    clear hsF hold hap hv28 hv29 hv30 hv31 hv32 hv33 hv34 hv35 hv36 hv37 hv38 hv39 hv40 hv41 hv42 hv43 hv44 hv45 hv46 hv47 hv48
    have HE3 := Lib.hid (HE2.out.keep hbF)
    rw [HN.out.1] at hO34 ⊢
    rw [HN.out.2.1] at hO41 ⊢
    rw [HN.out.2.2] at hO48 ⊢
    have HXO := Lib.hid hO34
    have HYO := Lib.hid hO41
    have HZO := Lib.hid hO48
    clear HE2 hbF hO34 hO41 hO48
    clear wa
    refine rest_forced 3 (by kernel_rfl) ?_
    simp only [List.drop_succ_cons, List.drop_zero, List.take_succ_cons, List.take_zero]
    go_wp2_with fail
    refine rest_done rfl ?_
    go_wp2_with fail
    go_meet
    exact ⟨_, _, _, _, _, _, rfl, rfl, rfl, HE3, HXO, HYO, HZO⟩
  case rest =>
  obtain ⟨A34, c34, A41, c41, A48, c48, rfl, rfl, rfl, HE3, HXO, HYO, HZO⟩ := hcut
  clear HE1 HPX HPY HPZ
  go_wp2_with fail
  refine (merge1_three X Y Z S HSS.out.xs HSS.out.ys HSS.out.zs HSS.out.ss HSS.out.mem HSS.out.xin HSS.out.yin HSS.out.zin (by have := HSS.out.xn; have := HSS.out.yn; have := HSS.out.zn; omega) _ _ _ _ HXO.out.es HYO.out.es HZO.out.es).mono ?_
  rintro r w1 ⟨x, rfl, hx, hb⟩
  obtain ⟨AS, cS, rfl, -⟩ := LS.len hx.es
  obtain ⟨nS, hnS⟩ : ∃ n, S.length = n := ⟨_, rfl⟩
  rw [hnS] at hx ⊢
  have HNS := Lib.hid hnS
  have HM : Hid (MI w (.slice A34 nX c34) (.slice A41 nY c41) (.slice A48 nZ c48) (.slice AS nS cS) X Y Z S w1) := Lib.hid ⟨HE3.out.keep hb, HXO.out.es.keep hb, HYO.out.keep hb, HZO.out.es.keep hb, hx.es⟩
  clear hx hb hnS HE3 HXO HYO HZO
  go_upto_region 6 with fail
  go_cut [117] (fun s117 wx => s117 = .bool false ∧ Hid (MI w (.slice A34 nX c34) (.slice A41 nY c41) (.slice A48 nZ c48) (.slice AS nS cS) X Y Z S wx))
  case first =>
    go_wp2_with fail
    refine (merge1_three Z X Y S HSS.out.zs HSS.out.xs HSS.out.ys HSS.out.ss HSS.out.m1 HSS.out.zin HSS.out.xin HSS.out.yin (by have := HSS.out.xn; have := HSS.out.yn; have := HSS.out.zn; omega) _ _ _ _ HM.out.z HM.out.x HM.out.y.es).mono ?_
    rintro r w2 ⟨x, rfl, hx, hb⟩
    replace HM := Lib.hid (HM.out.keep hb)
    obtain ⟨AU1, cU1, rfl, -⟩ := LS.len hx.es
    have U1 := Lib.hid hx.es
    clear hx hb
    go_wp2_with fail
    refine (sameEn_yes S S rfl HSS.out.sin (Nat.le_trans HSS.out.sn (by omega)) _ _ _ (HM.out.s) (U1.out)).mono ?_
    rintro r w3 ⟨rfl, hb⟩
    replace HM := Lib.hid (HM.out.keep hb)
    clear hb U1
    go_wp2_with fail
    refine (merge1_two X Y P HSS.out.xs HSS.out.ys HSS.out.ps (HSS.out.pm) HSS.out.xin HSS.out.yin (by have := HSS.out.xn; have := HSS.out.yn; omega) _ _ _ (HM.out.x) (HM.out.y.es)).mono ?_
    rintro r w4 ⟨x, rfl, hx, hb⟩
    replace HM := Lib.hid (HM.out.keep hb)
    obtain ⟨AU2, cU2, rfl, -⟩ := LS.len hx.es
    have U2 := Lib.hid hx.es
    clear hx hb
    go_wp2_with fail
    refine (merge1_two P Z S HSS.out.ps HSS.out.zs HSS.out.ss (HSS.out.m2) HSS.out.pin HSS.out.zin (by have := HSS.out.pn; have := HSS.out.zn; omega) _ _ _ (U2.out) (HM.out.z)).mono ?_
    rintro r w5 ⟨x, rfl, hx, hb⟩
    replace HM := Lib.hid (HM.out.keep hb)
    obtain ⟨AU3, cU3, rfl, -⟩ := LS.len hx.es
    have U3 := Lib.hid hx.es
    clear hx hb U2
    go_wp2_with fail
    refine (sameEn_yes S S rfl HSS.out.sin (Nat.le_trans HSS.out.sn (by omega)) _ _ _ (HM.out.s) (U3.out)).mono ?_
    rintro r w6 ⟨rfl, hb⟩
    replace HM := Lib.hid (HM.out.keep hb)
    clear hb U3
    go_wp2_with fail
    refine (merge1_two Y Z R HSS.out.ys HSS.out.zs HSS.out.rs (HSS.out.rm) HSS.out.yin HSS.out.zin (by have := HSS.out.yn; have := HSS.out.zn; omega) _ _ _ (HM.out.y.es) (HM.out.z)).mono ?_
    rintro r w7 ⟨x, rfl, hx, hb⟩
    replace HM := Lib.hid (HM.out.keep hb)
    obtain ⟨AU4, cU4, rfl, -⟩ := LS.len hx.es
    have U4 := Lib.hid hx.es
    clear hx hb
    go_wp2_with fail
    refine (merge1_two X R S HSS.out.xs HSS.out.rs HSS.out.ss (HSS.out.m3) HSS.out.xin HSS.out.rin (by have := HSS.out.xn; have := HSS.out.rn; omega) _ _ _ (HM.out.x) (U4.out)).mono ?_
    rintro r w8 ⟨x, rfl, hx, hb⟩
    replace HM := Lib.hid (HM.out.keep hb)
    obtain ⟨AU5, cU5, rfl, -⟩ := LS.len hx.es
    have U5 := Lib.hid hx.es
    clear hx hb U4
    go_wp2_with fail
    refine (sameEn_yes S S rfl HSS.out.sin (Nat.le_trans HSS.out.sn (by omega)) _ _ _ (HM.out.s) (U5.out)).mono ?_
    rintro r w9 ⟨rfl, hb⟩
    replace HM := Lib.hid (HM.out.keep hb)
    clear hb U5
    go_wp2_with fail
    refine (merge1_two X X X HSS.out.xs HSS.out.xs HSS.out.xs (fun x => or_self_iff.symm) HSS.out.xin HSS.out.xin (by have := HSS.out.xn; have := HSS.out.xn; omega) _ _ _ (HM.out.x) (HM.out.x)).mono ?_
    rintro r w10 ⟨x, rfl, hx, hb⟩
    replace HM := Lib.hid (HM.out.keep hb)
    obtain ⟨AU6, cU6, rfl, -⟩ := LS.len hx.es
    have U6 := Lib.hid hx.es
    clear hx hb
    go_wp2_with fail
    refine (sameEn_yes X X rfl HSS.out.xin (Nat.le_trans HSS.out.xn (by omega)) _ _ _ (U6.out) (HM.out.x)).mono ?_
    rintro r w11 ⟨rfl, hb⟩
    replace HM := Lib.hid (HM.out.keep hb)
    clear hb U6
    go_wp2_with fail
    refine (merge1_two S Y S HSS.out.ss HSS.out.ys HSS.out.ss (HSS.out.m4) HSS.out.sin HSS.out.yin (by have := HSS.out.sn; have := HSS.out.yn; omega) _ _ _ (HM.out.s) (HM.out.y.es)).mono ?_
    rintro r w12 ⟨x, rfl, hx, hb⟩
    replace HM := Lib.hid (HM.out.keep hb)
    obtain ⟨AU7, cU7, rfl, -⟩ := LS.len hx.es
    have U7 := Lib.hid hx.es
    clear hx hb
    go_wp2_with fail
    refine (sameEn_yes S S rfl HSS.out.sin (Nat.le_trans HSS.out.sn (by omega)) _ _ _ (U7.out) (HM.out.s)).mono ?_
    rintro r w13 ⟨rfl, hb⟩
    replace HM := Lib.hid (HM.out.keep hb)
    clear hb U7
    go_wp2_with fail
    refine (merge1_none w13).mono ?_
    rintro r w14 ⟨A0, rfl, hb⟩
    replace HM := Lib.hid (HM.out.keep hb)
    clear hb
    go_wp2_with fail
    go_meet
    exact ⟨rfl, HM⟩
  case rest =>
  obtain ⟨rfl, HM⟩ := hcut
  rename World => W8
  obtain ⟨T, hT⟩ : ∃ T, Z ++ X ++ (Y ++ X) = T := ⟨_, rfl⟩
  obtain ⟨nT, hnT⟩ : ∃ n, T.length = n := ⟨_, rfl⟩
  have HT := Lib.hid (And.intro hT hnT)
  clear hT hnT
  go_upto_region 8 with fail
  go_cut [14] (fun s14 wx => ∃ A c, s14 = .slice A nT c ∧ Hid (RestE wx W8.heap.size wx.heap.size (.slice A nT c) T) ∧ Hid (Below W8.heap.size W8 wx))
  case first =>
    obtain ⟨i0, z0, hi0, hz0, hz1, hz2, hz3⟩ := info_parts_ent
    have HXS := Lib.hid (src_es HM.out.x HN.out.1)
    have HZS := Lib.hid (src_es HM.out.z HN.out.2.2)
    have hxn := HSS.out.xn
    have hyn := HSS.out.yn
    have hzn := HSS.out.zn
    rw [HN.out.1] at hxn
    rw [HN.out.2.1] at hyn
    rw [HN.out.2.2] at hzn
    have hB1 : W8.heap.size ≤ (W8.alloc (.cells #[] 34)).heap.size := by rw [size_al]; omega
    have HZ1 := Lib.hid (HZS.out.keep (below1 W8 (.cells #[] 34)))
    clear HO HNO HSS HNS HZS
    go_wp2_with (first
      | (refine appS rfl (.tmp 118) (.tmp 119) rfl Tryz.underlying40 hi0 hz0 hz1 hz2 hz3 (by decide) _ W8.heap.size (.slice (some ⟨W8.heap.size, 0, none⟩) 0 0) 0 [] rfl (own_emptyN W8 _ 33) (.slice A48 nZ c48) nZ (flat enC Z) rfl HZ1.out (ent_one Z) (by omega) (by decide) hB1 ?_; intro u2 w2 hown2 _ _ hb2; obtain ⟨D2, d2, rfl⟩ := own_slice3 hown2; rw [Nat.zero_add, List.nil_append] at hown2; rw [Nat.zero_add]; have HB2 := Lib.hid ((below1 W8 (.cells #[] 34)).trans hb2); have HX2 := Lib.hid (HXS.out.keep HB2.out); have hs2 := HB2.out.size; have HW2 := Lib.hid hown2; clear hown2 hb2)
      | (refine appS rfl (.tmp 120) (.tmp 121) rfl Tryz.underlying40 hi0 hz0 hz1 hz2 hz3 (by decide) _ W8.heap.size (.slice D2 nZ d2) nZ (flat enC Z) rfl HW2.out (.slice A34 nX c34) nX (flat enC X) rfl HX2.out (ent_one X) (by omega) (by decide) hs2 ?_; intro u3 w3 hown3 _ _ hb3; obtain ⟨D3, d3, rfl⟩ := own_slice3 hown3; have HB3 := Lib.hid (HB2.out.trans hb3); have HX3 := Lib.hid (HXS.out.keep HB3.out); have hs3 := HB3.out.size; have HW3 := Lib.hid hown3; have HY3 := Lib.hid (HM.out.y.keep HB3.out); clear hown3 hb3)
      | (refine op_app_clip rfl (.tmp 123) (.tmp 124) rfl w.heap.size (.slice A41 nY c41) (.slice A34 nX c34) nY nX Y X rfl rfl HN.out.2.1 HY3.out HX3.out (by omega) ?_; intro A4 c4 w4 hsrc4 hb4; have HB4 := Lib.hid (HB3.out.trans (hb4.mono hs3)); have HS4 := Lib.hid hsrc4; have hs4 := HB4.out.size; have HW4 := Lib.hid (own_keep HW3.out hb4); clear hsrc4 hb4)
      | (refine appS rfl (.tmp 122) (.tmp 125) rfl Tryz.underlying40 hi0 hz0 hz1 hz2 hz3 (by decide) _ W8.heap.size (.slice D3 (nZ + nX) d3) (nZ + nX) (flat enC Z ++ flat enC X) rfl HW4.out (.slice A4 (nY + nX) c4) (nY + nX) (flat enC Y ++ flat enC X) rfl HS4.out (fun u hu => (List.mem_append.1 hu).elim (ent_one Y u) (ent_one X u)) (by omega) (by decide) hs4 ?_; intro u5 w5 hown5 _ _ hb5; obtain ⟨D5, d5, rfl⟩ := own_slice3 hown5; have HB5 := Lib.hid (HB4.out.trans hb5); have HW5 := Lib.hid hown5; clear hown5 hb5))
    go_meet
    have e1 : nZ + nX + (nY + nX) = nT := by rw [← HT.out.2, ← HT.out.1, ← HN.out.1, ← HN.out.2.1, ← HN.out.2.2]; simp only [List.length_append]
    have HW6 := HW5.out
    rw [show flat enC Z ++ flat enC X ++ (flat enC Y ++ flat enC X) = flat enC T by rw [← HT.out.1]; simp only [flat_app]] at HW6
    rw [e1] at HW6 ⊢
    exact ⟨_, _, rfl, Lib.hid (own_rest HW6 HT.out.2), HB5⟩
  case rest =>
  obtain ⟨A14, c14, rfl, HRS, HB9⟩ := hcut
  rename World => W9
  go_wp2_with fail
  have HNT : Hid (nT ≤ 160) := Lib.hid (by
    have hxn := HSS.out.xn
    have hyn := HSS.out.yn
    have hzn := HSS.out.zn
    rw [← HT.out.2, ← HT.out.1]; simp only [List.length_append]; omega)
  have HL0 : Hid (LM S T []) := Lib.hid ⟨rfl, fun x => by
    rw [HSS.out.mem, ← HT.out.1]
    simp only [List.mem_append, List.not_mem_nil, false_or]
    constructor
    · rintro (h | h | h)
      · exact .inl (.inr h)
      · exact .inr (.inl h)
      · exact .inl (.inl h)
    · rintro ((h | h) | (h | h))
      · exact .inr (.inr h)
      · exact .inl h
      · exact .inr (.inl h)
      · exact .inl h⟩
  have hTn := HT.out.2
  have hnt := HNT.out
  go_loopw [14, 15, 16] (fun s14 s15 s16 wr => ∃ (A B : Option Addr) (n c m d i : Nat) (T1 O1 : List En), s14 = .slice A n c ∧ s15 = .slice B m d ∧ s16 = .int .i64 (i : Int) ∧ i + n = nT ∧ T1.length = n ∧ O1.length = m ∧ m ≤ i ∧ Hid (RestE wr W8.heap.size W9.heap.size (.slice A n c) T1) ∧ Hid (OwnE wr W9.heap.size (.slice B m d) O1) ∧ Hid (LM S T1 O1) ∧ Hid (Below W8.heap.size W8 wr) ∧ W9.heap.size ≤ wr.heap.size) (fun _ _ s16 _ => nT - (intOf s16).toNat)
  case atStart => exact ⟨A14, none, nT, c14, 0, 0, 0, T, [], rfl, rfl, rfl, Nat.zero_add _, hTn, rfl, Nat.le_refl _, HRS, Lib.hid .none_, HL0, HB9, Nat.le_refl _⟩
  case round =>
    clear HRS HB9 HL0 hTn
    obtain ⟨A, B, n, c, m, d, i, T1, O1, rfl, rfl, rfl, hin, hTl, hOl, hOi, HR1, HO1, HL1, HB1, hs1⟩ := hrel
    rcases n with _ | q
    · clear HO HNO HR1
      obtain rfl : T1 = [] := List.length_eq_zero_iff.1 hTl
      have HOS : Hid (O1 = S) := Lib.hid (set_same _ _ HL1.out.set_ HSS.out.ss (fun x => by rw [HL1.out.mem]; simp))
      have HMr := Lib.hid (HM.out.keep (HB1.out.mono (Nat.le_refl _)))
      have HOE := Lib.hid HO1.out.es
      clear HM HO1 HB1 HL1 hTl hOl hOi hin hs1 hnt
      go_wp2_with fail
      refine (sameEn_yes O1 S HOS.out (by rw [HOS.out]; exact HSS.out.sin) (by rw [HOS.out]; have := HSS.out.sn; omega) _ _ _ HOE.out HMr.out.s).mono ?_
      rintro r w1 ⟨rfl, hb⟩
      replace HMr := Lib.hid (HMr.out.keep hb)
      clear hb HOE HOS
      go_wp2_with fail
      refine (count_set X HSS.out.xs HSS.out.xin (by have := HSS.out.xn; omega) _ _ HMr.out.x).mono ?_
      rintro r w2 ⟨u, rfl, hu, hb⟩
      replace HMr := Lib.hid (HMr.out.keep hb)
      obtain ⟨AP, cP, rfl, -⟩ := LS.len hu
      have HPE := Lib.hid hu
      clear hb hu
      go_wp2_with fail
      refine (merge1_two Y Z R HSS.out.ys HSS.out.zs HSS.out.rs HSS.out.rm HSS.out.yin HSS.out.zin (by have := HSS.out.yn; have := HSS.out.zn; omega) _ _ _ HMr.out.y.es HMr.out.z).mono ?_
      rintro r w3 ⟨x, rfl, hx, hb⟩
      replace HMr := Lib.hid (HMr.out.keep hb)
      replace HPE := Lib.hid (HPE.out.keep hb)
      obtain ⟨AR, cR, rfl, -⟩ := LS.len hx.es
      have HRE := Lib.hid hx.es
      clear hb hx
      go_wp2_with fail
      refine (count_set R HSS.out.rs HSS.out.rin (by have := HSS.out.rn; omega) _ _ HRE.out).mono ?_
      rintro r w4 ⟨u, rfl, hu, hb⟩
      replace HMr := Lib.hid (HMr.out.keep hb)
      replace HPE := Lib.hid (HPE.out.keep hb)
      obtain ⟨AQ, cQ, rfl, -⟩ := LS.len hu
      have HQE := Lib.hid hu
      clear hb hu HRE
      go_wp2_with fail
      refine (count_set S HSS.out.ss HSS.out.sin (by have := HSS.out.sn; omega) _ _ HMr.out.s).mono ?_
      rintro r w5 ⟨u, rfl, hu, hb⟩
      replace HMr := Lib.hid (HMr.out.keep hb)
      replace HPE := Lib.hid (HPE.out.keep hb)
      replace HQE := Lib.hid (HQE.out.keep hb)
      obtain ⟨AC, cC, rfl, -⟩ := LS.len hu
      have HCE := Lib.hid hu
      clear hb hu
      go_wp2_with fail
      have hl1 := Nat.le_trans (count_len X) HSS.out.xn
      have hl2 := Nat.le_trans (count_len R) HSS.out.rn
      have hl3 := Nat.le_trans (count_len S) HSS.out.sn
      have hl4 := setL_len (countP X ++ countP R)
      rw [List.length_append] at hl4
      have HM2 : Hid (countP S = countP (setL (countP X ++ countP R))) := Lib.hid (by
        rw [← count_parts HSS.out.xs HSS.out.rs]
        exact congrArg countP (set_same _ _ HSS.out.ss (setB_setL _) (fun x => by rw [mem_setL, List.mem_append]; exact HSS.out.m3 x)))
      have HI2 : Hid (∀ e ∈ setL (countP X ++ countP R), e.In) := Lib.hid (setL_in (fun e he => (List.mem_append.1 he).elim (count_in HSS.out.xin e) (count_in HSS.out.rin e)))
      obtain ⟨M2, hM2⟩ : ∃ M2, setL (countP X ++ countP R) = M2 := ⟨_, rfl⟩
      have HS2 : Hid (setB M2 = true ∧ (∀ x, x ∈ M2 ↔ x ∈ countP X ∨ x ∈ countP R) ∧ M2.length ≤ 200) := Lib.hid (by rw [← hM2]; exact ⟨setB_setL _, fun x => by rw [mem_setL, List.mem_append], by omega⟩)
      rw [hM2] at HM2 HI2
      have HCL : Hid ((countP X).length + (countP R).length ≤ 900000 ∧ (countP S).length ≤ 1000000) := Lib.hid ⟨by omega, by omega⟩
      clear hl1 hl2 hl3 hl4 hM2
      refine (merge1_two (countP X) (countP R) M2 (setB_count X HSS.out.xs) (setB_count R HSS.out.rs) HS2.out.1 HS2.out.2.1 (count_in HSS.out.xin) (count_in HSS.out.rin) HCL.out.1 _ _ _ HPE.out HQE.out).mono ?_
      rintro r w6 ⟨x, rfl, hx, hb⟩
      replace HMr := Lib.hid (HMr.out.keep hb)
      replace HCE := Lib.hid (HCE.out.keep hb)
      obtain ⟨AM, cM, rfl, -⟩ := LS.len hx.es
      have HME := Lib.hid hx.es
      clear hb hx HPE HQE
      go_wp2_with fail
      refine (count_set M2 HS2.out.1 HI2.out (by have := HS2.out.2.2; omega) _ _ HME.out).mono ?_
      rintro r w7 ⟨u, rfl, hu, hb⟩
      replace HMr := Lib.hid (HMr.out.keep hb)
      replace HCE := Lib.hid (HCE.out.keep hb)
      obtain ⟨AV, cV, rfl, -⟩ := LS.len hu
      have HVE := Lib.hid hu
      clear hb hu HME
      go_wp2_with fail
      refine (sameEn_yes (countP S) (countP M2) HM2.out (count_in HSS.out.sin) HCL.out.2 _ _ _ HCE.out HVE.out).mono ?_
      rintro r w8 ⟨rfl, hb⟩
      replace HMr := Lib.hid (HMr.out.keep hb)
      clear hb HCE HVE
      go_wp2_with fail
      go_ret
      exact ⟨rfl, HMr.out.ex.below⟩
    · obtain ⟨g, T0, rfl, hg1, hg2, hc1, hE⟩ := HR1.out.pos (Nat.succ_pos q)
      have HE1 := Lib.hid hE
      have hq : q < nT := by omega
      clear HR1 hE
      have u1 : decide ((0 : Int) < (q : Int) + 1) = true := decide_eq_true (by omega)
      by_cases ho0 : no = 0
      · have v1 : decide ((0 : Int) < (no : Int)) = false := decide_eq_false (by omega)
        go_upto_region 16 with fail
        clear v1
        obtain ⟨kq, hkq⟩ : ∃ kq, i % (q + 1) = kq := ⟨_, rfl⟩
        have hkl : kq < q + 1 := by rw [← hkq]; exact Nat.mod_lt _ (by omega)
        have r1 : (i : Int) % ((q : Int) + 1) = (kq : Int) := by rw [← hkq]; simp
        have r2 : ¬ (q : Int) + 1 = 0 := by omega
        obtain ⟨x, hx⟩ : ∃ x, T1[kq]? = some x := ⟨_, List.getElem?_eq_getElem (by omega)⟩
        obtain ⟨y, hy⟩ : ∃ y, T1[q]? = some y := ⟨_, List.getElem?_eq_getElem (by omega)⟩
        have hxS : x ∈ S := (HL1.out.mem x).2 (.inr (List.mem_of_getElem? hx))
        have HXI := Lib.hid (HSS.out.sin x hxS)
        have HLN := Lib.hid (HL1.out.next hTl (by omega) hx hy)
        have HOI : Hid (∀ e ∈ O1, e.In) := Lib.hid (fun e he => HSS.out.sin e ((HL1.out.mem e).2 (.inl he)))
        have HOB := Lib.hid HL1.out.set_
        have hO2 := setL_len (O1 ++ [x])
        rw [List.length_append, hOl, List.length_singleton] at hO2
        obtain ⟨O2, hO2e⟩ : ∃ O2, setL (O1 ++ [x]) = O2 := ⟨_, rfl⟩
        have HO2M : Hid (setB O2 = true ∧ ∀ z, z ∈ O2 ↔ z ∈ O1 ∨ z ∈ [x]) := Lib.hid (by rw [← hO2e]; exact ⟨setB_setL _, fun z => by rw [mem_setL, List.mem_append]⟩)
        rw [hO2e] at hO2 HLN
        have sl1 := fun W => slice_one (g := g) (n := q + 1) (c := c) (k := kq) hkl hc1 W
        have HXY := Lib.hid (And.intro hx hy)
        have HNUM : Hid (i + (q + 1) = nT ∧ T1.length = q + 1 ∧ O1.length = m ∧ m ≤ i ∧ kq < q + 1 ∧ W8.heap.size ≤ g ∧ g < W9.heap.size ∧ q + 1 ≤ c ∧ O2.length ≤ m + 1 ∧ True ∧ nT ≤ 160) := Lib.hid ⟨hin, hTl, hOl, hOi, hkl, hg1, hg2, hc1, hO2, trivial, hnt⟩
        have HSW := Lib.hid hs1
        have e1 : IntKind.i64.wrap ((kq : Int) + 1) = (kq : Int) + 1 := IntWalk.i64_in _ (by omega)
        clear hkq hx hy hxS HL1 hO2e hO2 hin hTl hOl hOi hkl hg1 hg2 hc1 hs1 hnt hq ho0
        go_wp2_with (refine op_slice (p := .slice (some ⟨g, 0, none⟩) (q + 1) c) (v := .slice (some ⟨g, kq * 33, none⟩) 1 1) (l := some (.int .i64 (kq : Int))) (h := some (.int .i64 ((kq : Int) + 1))) (m := some (.int .i64 ((kq : Int) + 1))) 40 (.tmp 150) (some (.tmp 151)) (some (.tmp 153)) (some (.tmp 155)) rfl rfl rfl rfl rfl rfl (sl1 _) ?_)
        refine (merge1_two O1 [x] O2 HOB.out rfl HO2M.out.1 HO2M.out.2 HOI.out (fun e he => by rw [List.mem_singleton.1 he]; exact HXI.out) (by rw [HNUM.out.2.2.1]; have := HNUM.out; simp only [List.length_singleton]; omega) _ _ _ HO1.out.es (es_one HE1.out HXY.out.1)).mono ?_
        rintro r w2 ⟨u2, rfl, hu2, hb2⟩
        have HO3 := Lib.hid (hu2.mono HSW.out)
        obtain ⟨A15, c15, rfl, -⟩ := LS.len hu2.es
        have HE3 := Lib.hid (HE1.out.keep hb2)
        have HB3 := Lib.hid (HB1.out.trans (hb2.mono HB1.out.size))
        have hs3 := Nat.le_trans HSW.out hb2.size
        have HS3 := Lib.hid hs3
        obtain ⟨m3, hm3⟩ : ∃ m3, O2.length = m3 := ⟨_, rfl⟩
        rw [hm3] at HO3 ⊢
        have HM3 := Lib.hid hm3
        clear sl1 hu2 hb2 HSW HO1 HE1 HB1 HXI HOI HOB HO2M hs3 hm3
        have lo := HE3.out.load HXY.out.2 rfl
        have st := HE3.out.store (i := kq) (o := kq * 33) (by rw [HNUM.out.2.1]; exact HNUM.out.2.2.2.2.1) rfl y
        have HE4 := Lib.hid (HE3.out.put (i := kq) (by rw [HNUM.out.2.1]; exact HNUM.out.2.2.2.2.1) y)
        have HB4 := Lib.hid (Below.setCells' HNUM.out.2.2.2.2.2.1 (enC y).toList (kq * 33) w2 HB3.out)
        have HO4 := Lib.hid (HO3.out.otherCells (o := kq * 33) HNUM.out.2.2.2.2.2.2.1 (enC y).toList)
        have hs4 : w2.heap.size ≤ (w2.setCells g (kq * 33) (enC y).toList).heap.size := (Below.setCells' (Nat.zero_le g) (enC y).toList (kq * 33) w2 (Below.refl 0 w2)).size
        have sl2 := fun W => slice_upto (g := g) (n := q + 1) (c := c) (k := q) (by have := HNUM.out; omega) W
        have hkq2 := HNUM.out.2.2.2.2.1
        have hi2 := HNUM.out.1
        have hi3 := HNUM.out.2.2.2.2.2.2.2.2.2.2
        have e2 : IntKind.i64.wrap (q : Int) = (q : Int) := IntWalk.i64_in _ (by omega)
        have e3 : IntKind.i64.wrap ((i : Int) + 1) = (i : Int) + 1 := IntWalk.i64_in _ (by omega)
        have j0 : (0 : Int) ≤ (q : Int) := by omega
        have j1 : (q : Int) < (q : Int) + 1 := by omega
        have j2 : ¬ (q : Int) + 1 ≤ (q : Int) := by omega
        have j3 : ¬ q + 1 ≤ q := by omega
        have k0 : (0 : Int) ≤ (kq : Int) := by omega
        have k1 : (kq : Int) < (q : Int) + 1 := by omega
        have k2 : ¬ (q : Int) + 1 ≤ (kq : Int) := by omega
        have k3 : ¬ q + 1 ≤ kq := by omega
        clear HE3 HB3 HO3 hkq2 hi2 hi3
        go_wp2_with (first
          | refine op_load (p := .pointer (some ⟨g, q * 33, none⟩)) (C := .agg (enC y)) 34 (.tmp 165) rfl rfl rfl lo ?_
          | refine op_store (p := .pointer (some ⟨g, kq * 33, none⟩)) (C := .agg (enC y)) 34 (.tmp 167) (.tmp 166) rfl rfl rfl rfl rfl st ?_
          | refine op_slice (p := .slice (some ⟨g, 0, none⟩) (q + 1) c) (v := .slice (some ⟨g, 0, none⟩) q c) (l := none) (h := some (.int .i64 (q : Int))) (m := none) 40 (.tmp 168) none (some (.tmp 171)) none rfl rfl rfl rfl rfl rfl (sl2 _) ?_)
        go_roundw
        case rel =>
          have hnum := HNUM.out
          have hm3 := HM3.out
          have hlen : ((T1.set kq y).take q).length = q := by rw [List.length_take, List.length_set]; omega
          have hr := RestE.some_ g c ((T1.set kq y).take q) _ hnum.2.2.2.2.2.1 hnum.2.2.2.2.2.2.1 (by rw [hlen]; omega) (HE4.out.take (k := q))
          rw [hlen] at hr
          exact ⟨some ⟨g, 0, none⟩, A15, q, c, m3, c15, i + 1, (T1.set kq y).take q, O2, rfl, rfl, by simp, by omega, hlen, hm3, by omega, Lib.hid hr, HO4, HLN, HB4, Nat.le_trans HS3.out hs4⟩
        case measure => have := HNUM.out; simp only [intOf]; omega
      · have v1 : decide ((0 : Int) < (no : Int)) = true := decide_eq_true (by omega)
        obtain ⟨t, ht⟩ : ∃ t, i % no = t := ⟨_, rfl⟩
        have htl : t < no := by rw [← ht]; exact Nat.mod_lt _ (by omega)
        have r0 : (i : Int) % (no : Int) = (t : Int) := by rw [← ht]; simp
        have r9 : ¬ (no : Int) = 0 := by omega
        obtain ⟨x0, hx0⟩ : ∃ x, bs[t]? = some x := ⟨_, List.getElem?_eq_getElem (by rw [HNO.out]; exact htl)⟩
        obtain ⟨bb, oo, rfl, cb⟩ := (HO.out.keep ((HM.out.ex.keep HB1.out).below)).at hx0
        obtain ⟨kk, hkk⟩ : ∃ kk, x0.toNat = kk := ⟨_, rfl⟩
        have hk8 : kk < 256 := by rw [← hkk]; exact x0.toNat_lt
        rw [hkk] at cb
        have e8 : IntKind.i64.wrap (kk : Int) = (kk : Int) := IntWalk.i64_in _ (by omega)
        have p0 : (0 : Int) ≤ (t : Int) := by omega
        have p1 : (t : Int) < (no : Int) := by omega
        have p2 : ¬ (no : Int) ≤ (t : Int) := by omega
        have p3 : ¬ no ≤ t := by omega
        clear ht hx0 hkk
        go_upto_region 16 with fail
        clear v1 r0 r9 cb e8 p0 p1 p2 p3
        obtain ⟨kq, hkq⟩ : ∃ kq, kk % (q + 1) = kq := ⟨_, rfl⟩
        have hkl : kq < q + 1 := by rw [← hkq]; exact Nat.mod_lt _ (by omega)
        have r1 : (kk : Int) % ((q : Int) + 1) = (kq : Int) := by rw [← hkq]; simp
        have r2 : ¬ (q : Int) + 1 = 0 := by omega
        obtain ⟨x, hx⟩ : ∃ x, T1[kq]? = some x := ⟨_, List.getElem?_eq_getElem (by omega)⟩
        obtain ⟨y, hy⟩ : ∃ y, T1[q]? = some y := ⟨_, List.getElem?_eq_getElem (by omega)⟩
        have hxS : x ∈ S := (HL1.out.mem x).2 (.inr (List.mem_of_getElem? hx))
        have HXI := Lib.hid (HSS.out.sin x hxS)
        have HLN := Lib.hid (HL1.out.next hTl (by omega) hx hy)
        have HOI : Hid (∀ e ∈ O1, e.In) := Lib.hid (fun e he => HSS.out.sin e ((HL1.out.mem e).2 (.inl he)))
        have HOB := Lib.hid HL1.out.set_
        have hO2 := setL_len (O1 ++ [x])
        rw [List.length_append, hOl, List.length_singleton] at hO2
        obtain ⟨O2, hO2e⟩ : ∃ O2, setL (O1 ++ [x]) = O2 := ⟨_, rfl⟩
        have HO2M : Hid (setB O2 = true ∧ ∀ z, z ∈ O2 ↔ z ∈ O1 ∨ z ∈ [x]) := Lib.hid (by rw [← hO2e]; exact ⟨setB_setL _, fun z => by rw [mem_setL, List.mem_append]⟩)
        rw [hO2e] at hO2 HLN
        have sl1 := fun W => slice_one (g := g) (n := q + 1) (c := c) (k := kq) hkl hc1 W
        have HXY := Lib.hid (And.intro hx hy)
        have HNUM : Hid (i + (q + 1) = nT ∧ T1.length = q + 1 ∧ O1.length = m ∧ m ≤ i ∧ kq < q + 1 ∧ W8.heap.size ≤ g ∧ g < W9.heap.size ∧ q + 1 ≤ c ∧ O2.length ≤ m + 1 ∧ True ∧ nT ≤ 160) := Lib.hid ⟨hin, hTl, hOl, hOi, hkl, hg1, hg2, hc1, hO2, trivial, hnt⟩
        have HSW := Lib.hid hs1
        have e1 : IntKind.i64.wrap ((kq : Int) + 1) = (kq : Int) + 1 := IntWalk.i64_in _ (by omega)
        clear hkq hx hy hxS HL1 hO2e hO2 hin hTl hOl hOi hkl hg1 hg2 hc1 hs1 hnt hq ho0
        go_wp2_with (refine op_slice (p := .slice (some ⟨g, 0, none⟩) (q + 1) c) (v := .slice (some ⟨g, kq * 33, none⟩) 1 1) (l := some (.int .i64 (kq : Int))) (h := some (.int .i64 ((kq : Int) + 1))) (m := some (.int .i64 ((kq : Int) + 1))) 40 (.tmp 150) (some (.tmp 151)) (some (.tmp 153)) (some (.tmp 155)) rfl rfl rfl rfl rfl rfl (sl1 _) ?_)
        refine (merge1_two O1 [x] O2 HOB.out rfl HO2M.out.1 HO2M.out.2 HOI.out (fun e he => by rw [List.mem_singleton.1 he]; exact HXI.out) (by rw [HNUM.out.2.2.1]; have := HNUM.out; simp only [List.length_singleton]; omega) _ _ _ HO1.out.es (es_one HE1.out HXY.out.1)).mono ?_
        rintro r w2 ⟨u2, rfl, hu2, hb2⟩
        have HO3 := Lib.hid (hu2.mono HSW.out)
        obtain ⟨A15, c15, rfl, -⟩ := LS.len hu2.es
        have HE3 := Lib.hid (HE1.out.keep hb2)
        have HB3 := Lib.hid (HB1.out.trans (hb2.mono HB1.out.size))
        have hs3 := Nat.le_trans HSW.out hb2.size
        have HS3 := Lib.hid hs3
        obtain ⟨m3, hm3⟩ : ∃ m3, O2.length = m3 := ⟨_, rfl⟩
        rw [hm3] at HO3 ⊢
        have HM3 := Lib.hid hm3
        clear sl1 hu2 hb2 HSW HO1 HE1 HB1 HXI HOI HOB HO2M hs3 hm3
        have lo := HE3.out.load HXY.out.2 rfl
        have st := HE3.out.store (i := kq) (o := kq * 33) (by rw [HNUM.out.2.1]; exact HNUM.out.2.2.2.2.1) rfl y
        have HE4 := Lib.hid (HE3.out.put (i := kq) (by rw [HNUM.out.2.1]; exact HNUM.out.2.2.2.2.1) y)
        have HB4 := Lib.hid (Below.setCells' HNUM.out.2.2.2.2.2.1 (enC y).toList (kq * 33) w2 HB3.out)
        have HO4 := Lib.hid (HO3.out.otherCells (o := kq * 33) HNUM.out.2.2.2.2.2.2.1 (enC y).toList)
        have hs4 : w2.heap.size ≤ (w2.setCells g (kq * 33) (enC y).toList).heap.size := (Below.setCells' (Nat.zero_le g) (enC y).toList (kq * 33) w2 (Below.refl 0 w2)).size
        have sl2 := fun W => slice_upto (g := g) (n := q + 1) (c := c) (k := q) (by have := HNUM.out; omega) W
        have hkq2 := HNUM.out.2.2.2.2.1
        have hi2 := HNUM.out.1
        have hi3 := HNUM.out.2.2.2.2.2.2.2.2.2.2
        have e2 : IntKind.i64.wrap (q : Int) = (q : Int) := IntWalk.i64_in _ (by omega)
        have e3 : IntKind.i64.wrap ((i : Int) + 1) = (i : Int) + 1 := IntWalk.i64_in _ (by omega)
        have j0 : (0 : Int) ≤ (q : Int) := by omega
        have j1 : (q : Int) < (q : Int) + 1 := by omega
        have j2 : ¬ (q : Int) + 1 ≤ (q : Int) := by omega
        have j3 : ¬ q + 1 ≤ q := by omega
        have k0 : (0 : Int) ≤ (kq : Int) := by omega
        have k1 : (kq : Int) < (q : Int) + 1 := by omega
        have k2 : ¬ (q : Int) + 1 ≤ (kq : Int) := by omega
        have k3 : ¬ q + 1 ≤ kq := by omega
        clear HE3 HB3 HO3 hkq2 hi2 hi3
        go_wp2_with (first
          | refine op_load (p := .pointer (some ⟨g, q * 33, none⟩)) (C := .agg (enC y)) 34 (.tmp 165) rfl rfl rfl lo ?_
          | refine op_store (p := .pointer (some ⟨g, kq * 33, none⟩)) (C := .agg (enC y)) 34 (.tmp 167) (.tmp 166) rfl rfl rfl rfl rfl st ?_
          | refine op_slice (p := .slice (some ⟨g, 0, none⟩) (q + 1) c) (v := .slice (some ⟨g, 0, none⟩) q c) (l := none) (h := some (.int .i64 (q : Int))) (m := none) 40 (.tmp 168) none (some (.tmp 171)) none rfl rfl rfl rfl rfl rfl (sl2 _) ?_)
        go_roundw
        case rel =>
          have hnum := HNUM.out
          have hm3 := HM3.out
          have hlen : ((T1.set kq y).take q).length = q := by rw [List.length_take, List.length_set]; omega
          have hr := RestE.some_ g c ((T1.set kq y).take q) _ hnum.2.2.2.2.2.1 hnum.2.2.2.2.2.2.1 (by rw [hlen]; omega) (HE4.out.take (k := q))
          rw [hlen] at hr
          exact ⟨some ⟨g, 0, none⟩, A15, q, c, m3, c15, i + 1, (T1.set kq y).take q, O2, rfl, rfl, by simp, by omega, hlen, hm3, by omega, Lib.hid hr, HO4, HLN, HB4, Nat.le_trans HS3.out hs4⟩
        case measure => have := HNUM.out; simp only [intOf]; omega
theorem merges_open (v0 v1 v2 vo : Value) {w : World} (h0 : ∃ l : List Sm, SS w v0 l ∧ ∀ x ∈ l, x.In) (h1 : ∃ l : List Sm, SS w v1 l ∧ ∀ x ∈ l, x.In) (h2 : ∃ l : List Sm, SS w v2 l ∧ ∀ x ∈ l, x.In) (h3 : ∃ bs, BV w vo bs) (W : World) (he : Env W) (h : W = w) : Calls Tryz.prog 5 #[v0, v1, v2, vo] W (fun r w' => r = .returned (.bool true) ∧ Below W.heap.size W w') := by
  subst h
  obtain ⟨l0, a0, b0⟩ := h0
  obtain ⟨l1, a1, b1⟩ := h1
  obtain ⟨l2, a2, b2⟩ := h2
  obtain ⟨bs, hb⟩ := h3
  exact merges_any l0 l1 l2 b0 b1 b2 v0 v1 v2 vo bs W he a0 a1 a2 hb
end Go.Proofs.YtpkmibmombpjpaaGreatDoor
namespace Go.Proofs.YtpkmibmombpjpaaGreatDoor.entryMerges
open Go Go.ChangeShapes Go.ChangeMaps Go.WideShapes Go.ChangeAt Go.WideMaps Go.WideElems Go.RowKit

set_option maxRecDepth 100000 in
theorem lifted (os : Os) (started : os.Started) (H : Type) (enc : TypeId × Value → H) :
    ReturnsInHanded {} Tryz.checked os 5 .any (fun w args => (Rows.entryMergesSpec.pre enc Tryz.prog Tryz.f5 [] false w args ∧ laidMetH Tryz.prog laids w) ∧ sizedMet enc Tryz.prog Tryz.f5 (OpenSpec.ofChange Rows.entryMergesSpec) false w args)
      (Rows.entryMergesSpec.post enc Tryz.prog Tryz.f5 false true false false) := by
  refine handed_and_shaped (C := Tryz.checked) (X := fun w _ => laidMetH Tryz.prog laids w) (fun _ _ _ hh h => h.of_heap hh) own started (by kernel_rfl) Tryz.func5
    (ChangeSpec.witness_shaped (enc := enc) (C := Tryz.checked) (os := os) (X := fun w _ => laidMetH Tryz.prog laids w) false (World.laidAll Tryz.prog os laids) #[.slice none 0 0, .slice none 0 0, .slice none 0 0, .slice none 0 0] 8 (World.laidAll_os _ _ _) (World.shaped_of_ZipB (by kernel_rfl) (by kernel_rfl)) (by kernel_rfl) (by kernel_rfl) (by kernel_rfl) (door_met os _)) ?_
  intro W base args ds gs before hval0 hW _ hsz hL hshape _
  have hval : ∀ (j : Nat) t v, Tryz.f5.params[j]? = some t → args[j]? = some v → Value.okWide Tryz.prog W .any base t v := hval0
  have hW' := hW
  obtain ⟨p, q, hA0, hV, rfl, hfz, hnd⟩ := hW
  have hA : DataW.TrodAll enc Tryz.prog W 0 (fun _ => true) true Tryz.f5.params.toList args.toList ds p := hA0
  rw [Tryz.params5] at hA hval
  obtain ⟨v0, vs0, d0, ds0, p0, q0, hargs0, rfl, rfl, h0, r0⟩ := trodAll_cons hA
  obtain ⟨v1, vs1, d1, ds1, p1, q1, hargs1, rfl, rfl, h1, r1⟩ := trodAll_cons r0
  obtain ⟨v2, vs2, d2, ds2, p2, q2, hargs2, rfl, rfl, h2, r2⟩ := trodAll_cons r1
  obtain ⟨v3, vs3, d3, ds3, p3, q3, hargs3, rfl, rfl, h3, r3⟩ := trodAll_cons r2
  obtain ⟨rfl, rfl, rfl⟩ := trodAll_nil r3
  obtain rfl : args = #[v0, v1, v2, v3] := by cases args; simp_all
  obtain ⟨rfl, rfl⟩ := trodVars_none hV
  obtain ⟨A3, n3, c3, rfl⟩ := okWide_slice Tryz.underlying39 (hval 3 39 v3 rfl rfl)
  clear hA0 hval0
  simp only [List.append_nil] at hW'
  have hlt0 : ∀ x ∈ p0, x.block < W.heap.size := fun x hx => by simpa using hW'.lt x (List.mem_append.2 (.inl hx))
  have hlt1 : ∀ x ∈ p1, x.block < W.heap.size := fun x hx => by simpa using hW'.lt x (List.mem_append.2 (.inr (List.mem_append.2 (.inl hx))))
  have hlt2 : ∀ x ∈ p2, x.block < W.heap.size := fun x hx => by simpa using hW'.lt x (List.mem_append.2 (.inr (List.mem_append.2 (.inr (List.mem_append.2 (.inl hx))))))
  have hlt3 : ∀ x ∈ p3, x.block < W.heap.size := fun x hx => by simpa using hW'.lt x (List.mem_append.2 (.inr (List.mem_append.2 (.inr (List.mem_append.2 (.inr hx))))))
  refine (merges_open _ _ _ _ (open_sms (hval 0 38 _ rfl rfl) h0) (open_sms (hval 1 38 _ rfl rfl) h1) (open_sms (hval 2 38 _ rfl rfl) h2) (open_bv (hval 3 39 _ rfl rfl) h3) W (env_of_laid hL hshape) rfl).mono fun e W' ⟨he, hg⟩ => ?_
  subst he
  exact ⟨_, rfl, _, _, _, [], (p0 ++ (p1 ++ (p2 ++ (p3 ++ [])))), [], hW', trodAll_mk1 (shut_bool Tryz.underlying4 _), (trodAll_cons_mk (Below.trod (show laidOutB Tryz.prog = true by kernel_rfl) (by kernel_rfl) (of_decide_eq_true (by kernel_rfl)) h0 hg hlt0) (trodAll_cons_mk (Below.trod (show laidOutB Tryz.prog = true by kernel_rfl) (by kernel_rfl) (of_decide_eq_true (by kernel_rfl)) h1 hg hlt1) (trodAll_cons_mk (Below.trod (show laidOutB Tryz.prog = true by kernel_rfl) (by kernel_rfl) (of_decide_eq_true (by kernel_rfl)) h2 hg hlt2) (trodAll_cons_mk (Below.trod (show laidOutB Tryz.prog = true by kernel_rfl) (by kernel_rfl) (of_decide_eq_true (by kernel_rfl)) h3 hg hlt3) trodAll_mk0)))), rfl, hg.frame _, fun h => by cases h⟩

theorem over : Rows.EntryMergesSaid :=
  OpenClaim.holds_of_wide 5 Tryz.f5 rfl rfl rfl rfl rfl rfl rfl ⟨rfl, rfl, rfl, rfl, rfl⟩ rfl rfl rfl rfl rfl (by kernel_rfl) Tryz.func5 (by kernel_rfl)
    (of_decide_eq_true (by kernel_rfl)) (by unfold Func.isWrapper; first | (rw [if_pos (by decide +kernel)]; kernel_rfl) | (rw [if_neg (by decide +kernel)]; exact ⟨rfl, rfl⟩))
    (fun os started H enc _ => lifted os started H enc)

theorem card_holds : Rows.EntryMergesCardSaid :=
  Claim7.holds_tied_plain_at .later [] [.data, .data, .data, .data, .sentinel, .sentinel, .pinned] true (true, "0164e4441daa2ef451322f1291758c9700ccce8c29fafcad22677b4fb54b4141") true
    over (fun _ h => by cases h) (by kernel_rfl) (fun _ h => by cases h) entryMerges_row_tie rfl ⟨rfl, rfl⟩ (by kernel_rfl) rfl
    (fun f fn hf hfn => by
      obtain rfl : f = 5 := Option.some.inj ((show Tryz.prog.funcNamed "finesse/finesselaw31.EntryMerges" = some 5 by kernel_rfl).symm.trans hf) |>.symm
      obtain rfl : fn = Tryz.f5 := (Option.some.inj (Tryz.func5.symm.trans hfn)).symm
      exact ⟨by kernel_rfl, fun j t ht => by
        rw [Tryz.params5] at ht
        have hm : t ∈ [38, 38, 38, 39] := by simpa using Array.mem_of_getElem? ht
        have hall : ([38, 38, 38, 39].all fun u => !Tryz.prog.wantsStandIn u) = true := by kernel_rfl
        exact (show Tryz.prog.wantsStandIn t = false by simpa using List.all_eq_true.1 hall t hm)⟩)
    (by kernel_rfl)
#print axioms card_holds
end Go.Proofs.YtpkmibmombpjpaaGreatDoor.entryMerges
