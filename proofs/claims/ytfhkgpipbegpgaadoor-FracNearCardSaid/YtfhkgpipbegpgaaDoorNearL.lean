/- FracNear returns true. -/
import Derived.Test.YtfhkgpipbegpgaaDoorNearP
import Derived.Test.YtfhkgpipbegpgaaDoorRR
import Derived.Test.YtfhkgpipbegpgaaDoorAwake
import Derived.Deep.DeepCutAuto
namespace Go.Proofs.YtfhkgpipbegpgaaDoor
open Go Go.RowKit

theorem abs_lt (d : Int) (h : 0 ≤ d) : d.natAbs = d.toNat := by omega
theorem InvL.lts' {w0 w : World} {l : List (Nat × TypeId × Array Value)} (h : InvL w0 w l) : ∀ x ∈ l, x.1 ≠ w.heap.size := fun x hx => by
  have := (h.all x hx).1.lt; omega
theorem InvL.setHead' {w0 w : World} {l : List (Nat × TypeId × Array Value)} {p : Nat} {t : TypeId} {c : Array Value} (he : Env w0) (h : InvL w0 w ((p, t, c) :: l)) (hd : ∀ x ∈ l, x.1 ≠ p) (j : Nat) (v : Value) :
    InvL w0 (w.setCell ⟨p, j, none⟩ v) ((p, t, c.setIfInBounds j v) :: l) := by
  have hb : Below w0.heap.size w0 (w.setCell ⟨p, j, none⟩ v) := h.below.setCell (by simpa using h.base) _
  refine ⟨he.keep hb, hb, fun x hx => ?_⟩
  rcases List.mem_cons.1 hx with rfl | hx
  · exact ⟨h.head.set j v, h.base⟩
  · exact ⟨(h.all x (List.mem_cons_of_mem _ hx)).1.other (hd x hx) j v, (h.all x (List.mem_cons_of_mem _ hx)).2⟩
theorem xcell {w0 w : World} {l : List (Nat × TypeId × Array Value)} (h : InvL w0 w l) (i p : Nat) {x : Rat} (hi : l[i]? = some (p, 26, #[.int .i64 x.num, .int .i64 (x.den : Nat)])) :
    w.cell? ⟨p, 0, none⟩ = some (.int .i64 x.num) ∧ w.cell? ⟨p, 1, none⟩ = some (.int .i64 (x.den : Nat)) := ⟨h.cell hi rfl, h.cell hi rfl⟩
set_option maxRecDepth 100000 in
set_option maxHeartbeats 16000000 in
theorem near_walk2 (a d p n m X df cc T' pr : Int) (k T : Nat) (x y z v hf : Rat) (S Z B WA PA : Array UInt8) (sg : Bool) (w : World) (he : Env w)
    (hn : a / 1099511627776 = n) (hk : p % 10 = (k : Int)) (hp : 0 ≤ p ∧ p ≤ 255) (hk9 : k ≤ 9) (e1 : bits BinOp.and IntKind.i64 d 32767 = m) (_ : 0 ≤ m ∧ m < 32768)
    (M1 : Hid (∀ w, Calls Tryd.prog 17 #[.int .i64 n, .int .i64 (m + 1)] w (RetF (x.num, (x.den : Nat), 0) w))) (N1 : Hid (∀ w, Calls Tryd.prog 22 #[.agg #[.int .i64 x.num, .int .i64 (x.den : Nat)]] w (RetP (X, 0) w))) (R1 : Hid (∀ w, Env w → Calls Tryd.prog 23 #[.agg #[.int .i64 x.num, .int .i64 (x.den : Nat)], .int .i64 k] w (RetS (roundL (decide (x.num < 0)) k T) 0 w))) (R0 : Hid (∀ w, Env w → Calls Tryd.prog 23 #[.agg #[.int .i64 x.num, .int .i64 (x.den : Nat)], .int .i64 0] w (RetS (Lib.itoa X) 0 w))) (I1 : Hid (∀ w, Env w → Calls Tryd.prog 24 #[.int .i64 X] w (fun e w' => e = .returned (.string ⟨Z⟩) ∧ Below w.heap.size w w'))) (TP : Hid (∀ w, Calls Tryd.prog 26 #[.string ⟨S⟩, .string ⟨#[45]⟩] w (fun e w' => e = .returned (.string ⟨B⟩) ∧ Below w.heap.size w w'))) (HP : Hid (∀ w, Calls Tryd.prog 28 #[.string ⟨S⟩, .string ⟨#[45]⟩] w (fun e w' => e = .returned (.bool sg) ∧ Below w.heap.size w w'))) (CT : Hid (∀ w, Env w → Calls Tryd.prog 25 #[.string ⟨B⟩, .string ⟨#[46]⟩] w (fun e w' => e = .returned (.tuple #[.string ⟨WA⟩, .string ⟨PA⟩, .bool (decide (0 < k))]) ∧ Below w.heap.size w w'))) (AT : Hid (∀ w, Calls Tryd.prog 27 #[.string (⟨WA⟩ ++ ⟨PA⟩)] w (fun e w' => e = .returned (.tuple #[.int .i64 (T : Int), .nilIface]) ∧ Below w.heap.size w w'))) (M2 : Hid (∀ w, Calls Tryd.prog 17 #[.int .i64 T', .int .i64 (p10 k : Int)] w (RetF (y.num, (y.den : Nat), 0) w))) (S1 : Hid (∀ w, Calls Tryd.prog 14 #[.agg #[.int .i64 y.num, .int .i64 (y.den : Nat)], .agg #[.int .i64 x.num, .int .i64 (x.den : Nat)]] w (fun e w' => e = .returned (.tuple #[.agg #[.int .i64 z.num, .int .i64 (z.den : Nat)], .int .i64 0]) ∧ Below w.heap.size w w'))) (M3 : Hid (∀ w, Calls Tryd.prog 17 #[.int .i64 1, .int .i64 (2 * (p10 k : Int))] w (RetF (hf.num, (hf.den : Nat), 0) w))) (C1 : Hid (∀ w, Calls Tryd.prog 13 #[.agg #[.int .i64 v.num, .int .i64 (v.den : Nat)], .agg #[.int .i64 hf.num, .int .i64 (hf.den : Nat)]] w (RetP (cc, 0) w))) (R2 : Hid (∀ w, Env w → Calls Tryd.prog 23 #[.agg #[.int .i64 y.num, .int .i64 (y.den : Nat)], .int .i64 k] w (RetS (roundL (decide (x.num < 0)) k T) 0 w)))
    (hS : roundL (decide (x.num < 0)) k T = S.toList) (hZ : Lib.itoa X = Z.toList) (hprr : X * (x.den : Int) = pr) (hdf : 2 * (pr - x.num) = df) (hnd : df ≤ x.den ∧ -(x.den : Int) ≤ df ∧ (df = x.den → 0 < X) ∧ (df = -(x.den : Int) → ¬ 0 < X))
    (hTT : (sg = true → -(T : Int) = T' ∧ T' ≠ 0) ∧ (sg = false → (T : Int) = T')) (hwz : 1 < WA.size → WA[0]? ≠ some 48) (hwl : 1 ≤ WA.size ∧ WA.size ≤ 20) (hpl : PA.size = k)
    (hza : v.num = if z.num < 0 then -z.num else z.num) (hzd : v.den = z.den) (hpr : -274877906944 ≤ pr ∧ pr ≤ 274877906944) (bx : -8388608 ≤ x.num ∧ x.num ≤ 8388608) (bz : -9223372036854775807 ≤ z.num ∧ z.num ≤ 9223372036854775807)
    (hxd : x.den ≤ 32768) (hx0 : 0 < x.den) (hXb : -8388608 ≤ X ∧ X ≤ 8388608) (hTb : T ≤ 8388608000000000) (hcmp : cc ≤ 0)
    (wd1 : IntKind.i64.wrap d = d) (wd2 : IntKind.i64.wrap p = p) (wd3 : IntKind.i64.wrap (m + 1) = m + 1) :
    Calls Tryd.prog 7 #[.int .i64 a, .int .i16 d, .int .u8 p] w (RetBool true w) := by
  have hp9 := p10_le k hk9
  have h0 := InvL.start he
  have HE0 := Lib.hid he
  have HS := Lib.hid hS
  have HZ := Lib.hid hZ
  have HK := Lib.hid hk
  have HPR := Lib.hid hprr
  have HDF := Lib.hid hdf
  have HND := Lib.hid hnd
  have HTT := Lib.hid hTT
  have HWZ := Lib.hid hwz
  have HPL := Lib.hid hpl
  have HZA := Lib.hid hza
  have HZD := Lib.hid hzd
  clear he hS hZ hprr hdf hnd hTT hwz hpl hza hzd
  go_enter Tryd.func7, Tryd.ntmps7
  go_wp2_with fail
  refine (invV (fun w hw => (awake_any w hw)) h0).mono ?_
  rintro e w1 ⟨rfl, h1⟩
  clear h0
  go_wp2_with fail
  refine (invF (fun w _ => M1.out w) rfl h1).mono ?_
  rintro e w2 ⟨rfl, h2⟩
  clear h1 M1 wd1 wd2 wd3 e1 hn
  have h3 := h2.push 26 #[.int .i64 x.num, .int .i64 (x.den : Nat)]
  clear h2
  go_upto_region 5 with fail
  try rw [HK.out]
  clear hk
  generalize w2.alloc (.cells #[.int .i64 x.num, .int .i64 (x.den : Nat)] 26) = W3 at *
  generalize w2.heap.size = PF at *
  have H3 := Lib.hid h3
  clear h3
  obtain ⟨x0, x1⟩ := xcell H3.out 0 PF rfl
  go_wp2_with fail
  refine (invP (fun w _ => N1.out w) rfl H3.out).mono ?_
  rintro e w4 ⟨rfl, h4⟩
  have H4 := Lib.hid h4
  clear h4 x0 x1 H3 N1
  obtain ⟨x0, x1⟩ := xcell H4.out 0 PF rfl
  go_wp2_with fail
  refine (invS R1.out HS.out H4.out).mono ?_
  rintro e w5 ⟨rfl, h5⟩
  have H5 := Lib.hid h5
  clear h5 x0 x1 H4 R1
  obtain ⟨x0, x1⟩ := xcell H5.out 0 PF rfl
  go_wp2_with fail
  refine (invS R0.out HZ.out H5.out).mono ?_
  rintro e w6 ⟨rfl, h6⟩
  have H6 := Lib.hid h6
  clear h6 x0 x1 H5 R0
  obtain ⟨x0, x1⟩ := xcell H6.out 0 PF rfl
  go_wp2_with fail
  refine (invV I1.out H6.out).mono ?_
  rintro e w7 ⟨rfl, h7⟩
  have H7 := Lib.hid h7
  clear h7 x0 x1 H6 I1
  obtain ⟨x0, x1⟩ := xcell H7.out 0 PF rfl
  go_upto_region 10 with fail
  have eP := HPR.out
  have eD := HDF.out
  go_upto_region 11 with fail
  clear x0 x1 eP eD hpr HPR HDF
  go_cut [113] (fun s113 wx => s113 = .bool false ∧ InvL w wx [(PF, 26, #[.int .i64 x.num, .int .i64 (x.den : Nat)])])
  case first => as_aux_lemma =>
    obtain ⟨x0, x1⟩ := xcell H7.out 0 PF rfl
    obtain ⟨n1, n2, n3, n4⟩ := HND.out
    have t1 : decide ((x.den : Int) < df) = false := decide_eq_false (by omega)
    have t2 : decide (df < -(x.den : Int)) = false := decide_eq_false (by omega)
    by_cases g1 : df = x.den
    · have u1 : (df == (x.den : Int)) = true := beq_iff_eq.2 g1
      have u2 : decide (0 < X) = true := decide_eq_true (n3 g1)
      have u3 : decide (0 < df) = true := decide_eq_true (by omega)
      clear n1 n2 n3 n4 g1
      go_wp2
      go_meet
      exact ⟨rfl, H7.out⟩
    · by_cases g2 : df = -(x.den : Int)
      · have u1 : (df == (x.den : Int)) = false := beq_eq_false_iff_ne.2 g1
        have u4 : (df == -(x.den : Int)) = true := beq_iff_eq.2 g2
        have u2 : decide (0 < X) = false := decide_eq_false (by have := n4 g2; omega)
        have u3 : decide (0 < df) = false := decide_eq_false (by omega)
        clear n1 n2 n3 n4 g1 g2
        go_wp2
        go_meet
        exact ⟨rfl, H7.out⟩
      · have u1 : (df == (x.den : Int)) = false := beq_eq_false_iff_ne.2 g1
        have u4 : (df == -(x.den : Int)) = false := beq_eq_false_iff_ne.2 g2
        clear n1 n2 n3 n4 g1 g2
        go_wp2
        go_meet
        exact ⟨rfl, H7.out⟩
  case rest =>
  obtain ⟨rfl, h8⟩ := hcut
  have H8 := Lib.hid h8
  clear h8 H7 HND
  go_wp2_with fail
  refine (invV (fun w _ => TP.out w) H8.out).mono ?_
  rintro e w9 ⟨rfl, h9⟩
  have H9 := Lib.hid h9
  clear h9 H8 TP
  go_wp2_with fail
  refine (invV CT.out H9.out).mono ?_
  rintro e w10 ⟨rfl, h10⟩
  have H10 := Lib.hid h10
  clear h10 H9 CT
  go_upto_region 14 with fail
  go_cut [145] (fun s145 wx => s145 = .bool false ∧ InvL w wx [(PF, 26, #[.int .i64 x.num, .int .i64 (x.den : Nat)])])
  case first => as_aux_lemma =>
    have ePA := HPL.out
    have z1 : decide (WA.size < 1) = false := decide_eq_false (by omega)
    have z2 : decide ((WA.size : Int) < 1) = false := decide_eq_false (by omega)
    rcases Nat.eq_zero_or_pos k with k0 | k0
    all_goals
      first
        | (have v1 : decide (0 < k) = false := decide_eq_false (by omega)
           have v2 : decide ((0 : Int) < (k : Int)) = false := decide_eq_false (by omega)
           have HK0 := Lib.hid k0
           clear k0)
        | (have v1 : decide (0 < k) = true := decide_eq_true (by omega)
           have v2 : decide ((0 : Int) < (k : Int)) = true := decide_eq_true (by omega)
           have HK0 := Lib.hid k0
           clear k0)
      by_cases g : 1 < WA.size
      · have z3 : decide (1 < WA.size) = true := decide_eq_true g
        have z4 : decide ((1 : Int) < (WA.size : Int)) = true := decide_eq_true (by omega)
        have p0 : 0 < WA.size := by omega
        have z5 : (((WA[0]'p0).toNat : Int) == 48) = false := beq_eq_false_iff_ne.2 (fun h => HWZ.out g (by
          rw [Array.getElem?_eq_getElem p0]
          congr 1
          exact UInt8.toNat_inj.1 (by show (WA[0]'p0).toNat = 48; omega)))
        have z6 : (((((⟨WA⟩ : ByteArray)[0]'p0)).toNat : Int) == 48) = false := z5
        clear g
        go_wp2
        go_meet
        exact ⟨rfl, H10.out⟩
      · have z3 : decide (1 < WA.size) = false := decide_eq_false g
        have z4 : decide ((1 : Int) < (WA.size : Int)) = false := decide_eq_false (by omega)
        go_wp2
        go_meet
        exact ⟨rfl, H10.out⟩
  case rest =>
  obtain ⟨rfl, h11⟩ := hcut
  have H11 := Lib.hid h11
  have hPk : PA.size ≤ 9 := by have := HPL.out; omega
  have zl : ¬ 9223372036854775807 < WA.size + PA.size := by omega
  clear h11 H10 HWZ HPL
  go_wp2_with fail
  refine (invV (fun w _ => AT.out w) H11.out).mono ?_
  rintro e w12 ⟨rfl, h12⟩
  have H12 := Lib.hid h12
  clear h12 H11 AT
  go_wp2_with fail
  refine (invV (fun w _ => HP.out w) H12.out).mono ?_
  rintro e w13 ⟨rfl, h13⟩
  have H13 := Lib.hid h13
  clear h13 H12 HP
  go_upto_if 156 with fail
  go_cut [21] (fun s21 wx => s21 = .int .i64 T' ∧ InvL w wx [(PF, 26, #[.int .i64 x.num, .int .i64 (x.den : Nat)])])
  case first => as_aux_lemma =>
    cases sg with
    | true =>
      obtain ⟨g1, g2⟩ := HTT.out.1 rfl
      have u1 : (T' == 0) = false := beq_eq_false_iff_ne.2 g2
      have HG := Lib.hid g2
      clear g2
      go_wp2
      go_meet
      exact ⟨rfl, H13.out⟩
    | false =>
      have HG := Lib.hid (HTT.out.2 rfl)
      go_wp2
      go_meet
      exact ⟨by rw [← HG.out], H13.out⟩
  case rest =>
  obtain ⟨rfl, h14⟩ := hcut
  have H14 := Lib.hid h14
  clear h14 H13 HTT
  go_wp2_with fail
  go_loop [23, 162] (fun s23 s162 => ∃ j : Nat, j ≤ k ∧ s162 = .int .i64 j ∧ s23 = .int .i64 (p10 j : Int)) (fun _ s162 => k - (intOf s162).toNat)
  case atStart => exact ⟨0, Nat.zero_le _, rfl, by rw [p10_zero]; rfl⟩
  case round => as_aux_lemma =>
    obtain ⟨j, hj, rfl, rfl⟩ := hrel
    by_cases hlt : j < k
    · have v1 : decide (j < k) = true := decide_eq_true hlt
      have hpj := p10_le j (by omega)
      have HSU := Lib.hid (p10_succ j)
      go_wp2
      go_round
      case rel => exact ⟨j + 1, by omega, by go_num, by rw [HSU.out]; first | rfl | (congr 1; omega)⟩
      case measure => simp [intOf]; omega
    obtain rfl : j = k := by omega
    have v1 : decide (j < j) = false := decide_eq_false hlt
    clear hlt hj
    go_wp2_with fail
    refine (invF (fun w _ => M2.out w) rfl H14.out).mono ?_
    rintro e w15 ⟨rfl, h15⟩
    have h16 := h15.push 26 #[.int .i64 y.num, .int .i64 (y.den : Nat)]
    clear h15 H14 M2
    go_upto_region 29 with fail
    generalize w15.alloc (.cells #[.int .i64 y.num, .int .i64 (y.den : Nat)] 26) = W16 at *
    generalize w15.heap.size = PG at *
    have H16 := Lib.hid h16
    clear h16
    obtain ⟨x0, x1⟩ := xcell H16.out 1 PF rfl
    obtain ⟨y0, y1⟩ := xcell H16.out 0 PG rfl
    go_wp2_with fail
    refine (invV (fun w _ => S1.out w) H16.out).mono ?_
    rintro e w17 ⟨rfl, h17⟩
    have DZ := Lib.hid h17.lts'
    have h18 := h17.push 26 #[.int .i64 z.num, .int .i64 (z.den : Nat)]
    clear h17 H16 S1 x0 x1 y0 y1
    go_upto_region 30 with fail
    generalize w17.alloc (.cells #[.int .i64 z.num, .int .i64 (z.den : Nat)] 26) = W18 at *
    generalize w17.heap.size = PA' at *
    have H18 := Lib.hid h18
    clear h18
    obtain ⟨z0, z1⟩ := xcell H18.out 0 PA' rfl
    have f0 := H18.out.free (i := 0) rfl 0
    go_upto_if 189 with fail
    go_cut [0] (fun s0 wx => s0 = .int .i64 a ∧ InvL w wx [(PA', 26, #[.int .i64 v.num, .int .i64 (v.den : Nat)]), (PG, 26, #[.int .i64 y.num, .int .i64 (y.den : Nat)]), (PF, 26, #[.int .i64 x.num, .int .i64 (x.den : Nat)])])
    case first => as_aux_lemma =>
      by_cases hzn : z.num < 0
      · have u1 : decide (z.num < 0) = true := decide_eq_true hzn
        have hvn := HZA.out
        rw [if_pos hzn] at hvn
        have h19 := H18.out.setHead' HE0.out DZ.out 0 (.int .i64 (-z.num))
        have h20 : InvL w (W18.setCell ⟨PA', 0, none⟩ (.int .i64 (-z.num))) [(PA', 26, #[.int .i64 v.num, .int .i64 (v.den : Nat)]), (PG, 26, #[.int .i64 y.num, .int .i64 (y.den : Nat)]), (PF, 26, #[.int .i64 x.num, .int .i64 (x.den : Nat)])] := by
          rw [hvn, HZD.out]; exact h19
        have H20 := Lib.hid h20
        clear h19 h20 hvn HZA HZD
        go_wp2
        all_goals first | (go_meet; exact ⟨rfl, H20.out⟩) | (exact absurd hzn (Int.not_lt.2 (by assumption))) | (exact absurd (by assumption) hzn)
      · have u1 : decide (z.num < 0) = false := decide_eq_false hzn
        have hvn := HZA.out
        rw [if_neg hzn] at hvn
        have h20 : InvL w W18 [(PA', 26, #[.int .i64 v.num, .int .i64 (v.den : Nat)]), (PG, 26, #[.int .i64 y.num, .int .i64 (y.den : Nat)]), (PF, 26, #[.int .i64 x.num, .int .i64 (x.den : Nat)])] := by
          rw [hvn, HZD.out]; exact H18.out
        have H20 := Lib.hid h20
        clear h20 hvn HZA HZD
        go_wp2
        all_goals first | (go_meet; exact ⟨rfl, H20.out⟩) | (exact absurd hzn (Int.not_lt.2 (by assumption))) | (exact absurd (by assumption) hzn)
    case rest =>
    obtain ⟨rfl, h20⟩ := hcut
    have H20 := Lib.hid h20
    clear h20 H18 z0 z1 f0 DZ HZA HZD
    go_wp2_with fail
    refine (invF (fun w _ => M3.out w) rfl H20.out).mono ?_
    rintro e w21 ⟨rfl, h21⟩
    have h22 := h21.push 26 #[.int .i64 hf.num, .int .i64 (hf.den : Nat)]
    clear h21 H20 M3
    go_upto_region 35 with fail
    generalize w21.alloc (.cells #[.int .i64 hf.num, .int .i64 (hf.den : Nat)] 26) = W22 at *
    generalize w21.heap.size = PH at *
    have H22 := Lib.hid h22
    clear h22
    obtain ⟨x0, x1⟩ := xcell H22.out 0 PH rfl
    obtain ⟨y0, y1⟩ := xcell H22.out 1 PA' rfl
    go_wp2_with fail
    refine (invP (fun w _ => C1.out w) rfl H22.out).mono ?_
    rintro e w23 ⟨rfl, h23⟩
    have H23 := Lib.hid h23
    clear h23 H22 C1 x0 x1 y0 y1
    obtain ⟨y0, y1⟩ := xcell H23.out 2 PG rfl
    go_wp2_with fail
    refine (invS R2.out HS.out H23.out).mono ?_
    rintro e w24 ⟨rfl, h24⟩
    have HB9 := Lib.hid h24.below
    clear h24 H23 R2 y0 y1
    have u1 : decide (cc ≤ 0) = true := decide_eq_true hcmp
    go_wp2
    go_ret
    exact ⟨rfl, HB9.out⟩
set_option maxRecDepth 100000 in
set_option maxHeartbeats 16000000 in
theorem near_walk (a d p : Int) (ha : -9223372036854775808 ≤ a ∧ a ≤ 9223372036854775807) (hd : -32768 ≤ d ∧ d ≤ 32767) (hp : 0 ≤ p ∧ p ≤ 255) (w : World) (he : Env w) :
    Calls Tryd.prog 7 #[.int .i64 a, .int .i16 d, .int .u8 p] w (RetBool true w) := by
  obtain ⟨n, hn⟩ : ∃ n, a / 1099511627776 = n := ⟨_, rfl⟩
  obtain ⟨k, hk⟩ : ∃ k : Nat, p % 10 = (k : Int) := ⟨(p % 10).toNat, by omega⟩
  have hn1 : -8388608 ≤ n ∧ n ≤ 8388607 := by omega
  have hk9 : k ≤ 9 := by omega
  have e1 := mask_i64 d
  obtain ⟨m, hm⟩ : ∃ m, d % 32768 = m := ⟨_, rfl⟩
  have b1 : 0 ≤ m ∧ m < 32768 := by omega
  rw [hm] at e1
  obtain ⟨x, hx⟩ : ∃ x, Rat.divInt n (m + 1) = x := ⟨_, rfl⟩
  have hbd : Bd x 8388608 32768 := by rw [← hx]; exact Bd.divInt (by omega) (by omega) (by omega)
  have hfx : fits x = true := hbd.fits (by decide) (by decide)
  have hxd := hbd.den
  have hxn := hbd.num
  have hx0 := x.den_pos
  have M1 : Hid (∀ w, Calls Tryd.prog 17 #[.int .i64 n, .int .i64 (m + 1)] w (RetF (x.num, (x.den : Nat), 0) w)) := Lib.hid fun w => by
    have := make_any n (m + 1) ⟨by omega, by omega, by omega, by omega⟩ w
    rw [make_out _ _ (by omega), hx, outF_fits hfx] at this
    exact this
  -- Near
  obtain ⟨X, hX⟩ : ∃ X, nearP x.num x.den = X := ⟨_, rfl⟩
  have N1 : Hid (∀ w, Calls Tryd.prog 22 #[.agg #[.int .i64 x.num, .int .i64 (x.den : Nat)]] w (RetP (X, 0) w)) := Lib.hid fun w => hX ▸ onear_ok x.num x.den (fb_R hfx) (right_R x) w
  obtain ⟨df, hdf⟩ : ∃ e, 2 * (X * x.den - x.num) = e := ⟨_, rfl⟩
  have hnd := near_diff x.num x.den (by omega) df (by rw [hX]; exact hdf.symm)
  rw [hX] at hnd
  -- Round
  obtain ⟨T, hT⟩ : ∃ T, roundT x.num.natAbs x.den k = T := ⟨_, rfl⟩
  have hTb : T ≤ 8388608000000000 := by rw [← hT]; exact round_le _ _ _ hx0 hxn hk9
  obtain ⟨S, hS⟩ : ∃ S : Array UInt8, roundL (decide (x.num < 0)) k T = S.toList := ⟨(roundL (decide (x.num < 0)) k T).toArray, by simp⟩
  have R1 : Hid (∀ w, Env w → Calls Tryd.prog 23 #[.agg #[.int .i64 x.num, .int .i64 (x.den : Nat)], .int .i64 k] w (RetS (roundL (decide (x.num < 0)) k T) 0 w)) := Lib.hid fun w hw => by
    have := oround_ok x.num x.den k hk9 (fb_R hfx) (right_R x) w hw
    rw [Int.natAbs_natCast, hT] at this
    exact this
  obtain ⟨Z, hZ⟩ : ∃ S : Array UInt8, Lib.itoa X = S.toList := ⟨(Lib.itoa X).toArray, by simp⟩
  have R0 : Hid (∀ w, Env w → Calls Tryd.prog 23 #[.agg #[.int .i64 x.num, .int .i64 (x.den : Nat)], .int .i64 0] w (RetS (Lib.itoa X) 0 w)) := Lib.hid fun w hw => by
    have := oround_ok x.num x.den 0 (by omega) (fb_R hfx) (right_R x) w hw
    rw [zero_is, hX] at this
    exact this
  have hXb : -8388608 ≤ X ∧ X ≤ 8388608 := by
    have h1 := nearN_le x.num.natAbs x.den hx0
    rw [← hX]
    unfold nearP
    rw [Int.natAbs_natCast]
    split <;> omega
  have I1 : Hid (∀ w, Env w → Calls Tryd.prog 24 #[.int .i64 X] w (fun e w' => e = .returned (.string ⟨Z⟩) ∧ Below w.heap.size w w')) := Lib.hid fun w hw => by
    have := itoa_any X w hw (by omega) (by omega)
    rw [hZ] at this
    exact this
  -- the parts of the text
  obtain ⟨sb1, sb2⟩ := strip_body (decide (x.num < 0)) k T
  rw [hS] at sb1 sb2
  obtain ⟨B, hB⟩ : ∃ S : Array UInt8, bodyL k T = S.toList := ⟨(bodyL k T).toArray, by simp⟩
  obtain ⟨WA, hWA⟩ : ∃ S : Array UInt8, Lib.decDigits (T / p10 k) = S.toList := ⟨(Lib.decDigits (T / p10 k)).toArray, by simp⟩
  obtain ⟨PA, hPA⟩ : ∃ S : Array UInt8, partD k (T % p10 k) = S.toList := ⟨(partD k (T % p10 k)).toArray, by simp⟩
  have hp10 := p10_pos k
  have hpt : T % p10 k < p10 k := Nat.mod_lt _ hp10
  obtain ⟨sg, hsg⟩ : ∃ s, (decide (x.num < 0) && decide (0 < T)) = s := ⟨_, rfl⟩
  rw [hsg] at sb2
  have TP : Hid (∀ w, Calls Tryd.prog 26 #[.string ⟨S⟩, .string ⟨#[45]⟩] w (fun e w' => e = .returned (.string ⟨B⟩) ∧ Below w.heap.size w w')) := Lib.hid fun w => by
    refine (Tryd.strings_TrimPrefix ⟨S⟩ ⟨#[45]⟩ w).mono ?_
    rintro e w' ⟨rfl, rfl⟩
    refine ⟨?_, Below.refl _ _⟩
    have : Lib.trimPrefix (⟨S⟩ : ByteArray).data.toList (⟨#[45]⟩ : ByteArray).data.toList = B.toList := by rw [← hB]; exact sb1
    rw [this]
  have HP : Hid (∀ w, Calls Tryd.prog 28 #[.string ⟨S⟩, .string ⟨#[45]⟩] w (fun e w' => e = .returned (.bool sg) ∧ Below w.heap.size w w')) := Lib.hid fun w => by
    refine (Tryd.strings_HasPrefix ⟨S⟩ ⟨#[45]⟩ w).mono ?_
    rintro e w' ⟨rfl, rfl⟩
    refine ⟨?_, Below.refl _ _⟩
    have : Lib.hasPrefix (⟨S⟩ : ByteArray).data.toList (⟨#[45]⟩ : ByteArray).data.toList = sg := sb2
    rw [this]
  have hwl : 1 ≤ WA.size ∧ WA.size ≤ 20 := by
    have h1 := List.length_pos_iff.2 (dec_ne (T / p10 k))
    have h2 := dec_len (T / p10 k) (by have := Nat.div_le_self T (p10 k); omega)
    rw [hWA] at h1 h2
    simp at h1 h2
    omega
  have hpl : PA.size = k := by
    have := partD_len (k := k) hpt
    rw [hPA] at this
    simpa using this
  have hbl : B.size ≤ 40 := by
    have : B.toList.length = (bodyL k T).length := by rw [hB]
    rw [Array.length_toList] at this
    rw [this]
    have h3 : (Lib.decDigits (T / p10 k)).length ≤ 20 := by rw [hWA]; simpa using hwl.2
    unfold bodyL
    by_cases h : k = 0
    · rw [if_pos h]; simp; omega
    · rw [if_neg h]
      have := padD_len (k := k) (by omega) hpt
      simp; omega
  have CT : Hid (∀ w, Env w → Calls Tryd.prog 25 #[.string ⟨B⟩, .string ⟨#[46]⟩] w (fun e w' => e = .returned (.tuple #[.string ⟨WA⟩, .string ⟨PA⟩, .bool (decide (0 < k))]) ∧ Below w.heap.size w w')) := Lib.hid fun w hw => by
    obtain ⟨mx, hmx⟩ := hw.max
    refine (Tryd.strings_Cut ⟨B⟩ ⟨#[46]⟩ mx w (by show B.size < _; omega) hmx).mono ?_
    rintro e w' ⟨rfl, hn⟩
    have e2 : Lib.cut (⟨B⟩ : ByteArray).data.toList (⟨#[46]⟩ : ByteArray).data.toList = (WA.toList, PA.toList, decide (0 < k)) := by
      rw [← hWA, ← hPA]
      show Lib.cut B.toList [46] = _
      rw [← hB]; exact cut_body k T
    refine ⟨?_, below_draws hn⟩
    rw [e2]
  have hwz : 1 < WA.size → WA[0]? ≠ some 48 := fun h e => by
    have h1 : WA.toList[0]? = some 48 := by rw [Array.getElem?_toList]; exact e
    rw [← hWA] at h1
    rcases hdd : Lib.decDigits (T / p10 k) with _ | ⟨c, r⟩
    · exact dec_ne _ hdd
    · rw [hdd] at h1
      have hc : c = 48 := by simpa using h1
      subst hc
      have h0 := dec_lead _ r hdd
      have : WA.toList.length = 1 := by rw [← hWA, h0, Lib.decDigits, dif_pos (by omega)]; rfl
      rw [Array.length_toList] at this
      omega
  have AT : Hid (∀ w, Calls Tryd.prog 27 #[.string (⟨WA⟩ ++ ⟨PA⟩)] w (fun e w' => e = .returned (.tuple #[.int .i64 (T : Int), .nilIface]) ∧ Below w.heap.size w w')) := Lib.hid fun w => by
    have hall := atoi_all (k := k) (a := T / p10 k) (b := T % p10 k) hpt (by rw [Nat.mul_comm, Nat.div_add_mod]; omega)
    rw [Nat.mul_comm, Nat.div_add_mod, hWA, hPA] at hall
    have := (atoi_ok_hid (WA.toList ++ PA.toList) (T : Int) (by simp; omega) hall).out w
    have e3 : (⟨(WA.toList ++ PA.toList).toArray⟩ : ByteArray) = ⟨WA⟩ ++ ⟨PA⟩ := by apply ByteArray.ext; apply Array.ext'; simp
    rw [e3] at this
    exact this
  -- what was written, as a fraction
  obtain ⟨T', hT'⟩ : ∃ T' : Int, (if x.num < 0 then -(T : Int) else T) = T' := ⟨_, rfl⟩
  have hTT : (sg = true → -(T : Int) = T' ∧ T' ≠ 0) ∧ (sg = false → (T : Int) = T') := by
    rw [← hT', ← hsg]
    by_cases h1 : x.num < 0
    · rw [if_pos h1, decide_eq_true h1]
      by_cases h2 : 0 < T
      · rw [decide_eq_true h2]; exact ⟨fun _ => ⟨rfl, by omega⟩, fun h => (by cases h)⟩
      · rw [decide_eq_false h2]; exact ⟨fun h => (by cases h), fun _ => by omega⟩
    · rw [if_neg h1, decide_eq_false h1]; exact ⟨fun h => (by cases h), fun _ => rfl⟩
  obtain ⟨y, hy⟩ : ∃ y, Rat.divInt T' (p10 k) = y := ⟨_, rfl⟩
  have hfy : fits y = true := hy ▸ got_fits x k T T' hT.symm hT'.symm hk9 hxn
  obtain ⟨hfz, hfa⟩ := far_fits x k T T' hT.symm hT'.symm hk9 hxd
  have hcmp := half_cmp x k T T' hT.symm hT'.symm
  have hag := again_same x y k T T' hT.symm hT'.symm hy.symm
  rw [hy] at hfz hfa hcmp
  obtain ⟨z, hz⟩ : ∃ z, y - x = z := ⟨_, rfl⟩
  rw [hz] at hfz hfa hcmp
  have hza := abs_num z
  have hzd := abs_den z
  obtain ⟨v, hv⟩ : ∃ v, absR z = v := ⟨_, rfl⟩
  rw [hv] at hfa hcmp hza hzd
  have hfh := half_fits k hk9
  obtain ⟨hf, hhf⟩ : ∃ h, Rat.divInt 1 (2 * p10 k) = h := ⟨_, rfl⟩
  rw [hhf] at hfh hcmp
  have hp9 := p10_le k hk9
  have M2 : Hid (∀ w, Calls Tryd.prog 17 #[.int .i64 T', .int .i64 (p10 k : Int)] w (RetF (y.num, (y.den : Nat), 0) w)) := Lib.hid fun w => by
    have := make_any T' (p10 k) ⟨by rw [← hT']; split <;> omega, by rw [← hT']; split <;> omega, by omega, by omega⟩ w
    rw [make_out _ _ (by omega), hy, outF_fits hfy] at this
    exact this
  have S1 : Hid (∀ w, Calls Tryd.prog 14 #[.agg #[.int .i64 y.num, .int .i64 (y.den : Nat)], .agg #[.int .i64 x.num, .int .i64 (x.den : Nat)]] w (fun e w' => e = .returned (.tuple #[.agg #[.int .i64 z.num, .int .i64 (z.den : Nat)], .int .i64 0]) ∧ Below w.heap.size w w')) := Lib.hid (fun w => sub_RR y x z hfy hfx hz hfz w)
  have M3 : Hid (∀ w, Calls Tryd.prog 17 #[.int .i64 1, .int .i64 (2 * (p10 k : Int))] w (RetF (hf.num, (hf.den : Nat), 0) w)) := Lib.hid fun w => by
    have := make_any 1 (2 * p10 k) ⟨by omega, by omega, by omega, by omega⟩ w
    rw [make_out _ _ (by omega), hhf, outF_fits hfh] at this
    exact this
  obtain ⟨cc, hcc⟩ : ∃ c, cmpR v hf = c := ⟨_, rfl⟩
  rw [hcc] at hcmp
  have C1 : Hid (∀ w, Calls Tryd.prog 13 #[.agg #[.int .i64 v.num, .int .i64 (v.den : Nat)], .agg #[.int .i64 hf.num, .int .i64 (hf.den : Nat)]] w (RetP (cc, 0) w)) := Lib.hid fun w => by
    have := ocmp_ok v.num v.den hf.num hf.den (fb_R hfa) (fb_R hfh) (right_R v) (right_R hf) w
    rw [toR_R, toR_R, hcc] at this
    exact this
  have R2 : Hid (∀ w, Env w → Calls Tryd.prog 23 #[.agg #[.int .i64 y.num, .int .i64 (y.den : Nat)], .int .i64 k] w (RetS (roundL (decide (x.num < 0)) k T) 0 w)) := Lib.hid fun w hw => by
    have := oround_ok y.num y.den k hk9 (fb_R hfy) (right_R y) w hw
    rw [Int.natAbs_natCast, hag] at this
    exact this
  have hpr : -274877906944 ≤ X * (x.den : Int) ∧ X * (x.den : Int) ≤ 274877906944 := by
    rcases (by omega : 0 ≤ X ∨ X < 0) with h | h
    · have h1 : X * (x.den : Int) ≤ 8388608 * 32768 := Int.mul_le_mul (by omega) (by omega) (by omega) (by omega)
      have h2 : 0 ≤ X * (x.den : Int) := Int.mul_nonneg h (by omega)
      omega
    · have h1 : -X * (x.den : Int) ≤ 8388608 * 32768 := Int.mul_le_mul (by omega) (by omega) (by omega) (by omega)
      have h2 : 0 ≤ -X * (x.den : Int) := Int.mul_nonneg (by omega) (by omega)
      rw [Int.neg_mul] at h1 h2
      omega
  obtain ⟨pr, hprr⟩ : ∃ q, X * (x.den : Int) = q := ⟨_, rfl⟩
  rw [hprr] at hpr hdf
  have bx : -8388608 ≤ x.num ∧ x.num ≤ 8388608 := by omega
  have bz : -9223372036854775807 ≤ z.num ∧ z.num ≤ 9223372036854775807 := by
    have := (fb_R hfa).n1
    have := (fb_R hfa).n0
    rw [hza] at *
    split at * <;> omega
  have wd1 : IntKind.i64.wrap d = d := IntWalk.i64_in _ (by omega)
  have wd2 : IntKind.i64.wrap p = p := IntWalk.i64_in _ (by omega)
  have wd3 : IntKind.i64.wrap (m + 1) = m + 1 := IntWalk.i64_in _ (by omega)
  exact near_walk2 a d p n m X df cc T' pr k T x y z v hf S Z B WA PA sg w he hn hk hp hk9 e1 b1 M1 N1 R1 R0 I1 TP HP CT AT M2 S1 M3 C1 R2 hS hZ hprr hdf hnd hTT hwz hwl hpl hza hzd hpr bx bz hxd hx0 hXb hTb hcmp wd1 wd2 wd3
end Go.Proofs.YtfhkgpipbegpgaaDoor
