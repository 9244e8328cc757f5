/- The contract of Parse. -/
import Derived.Test.YtgmofikhndlhcaaDoorRead
import Derived.Test.YtgmofikhndlhcaaDoorWrite
import Derived.Lib.LastIndexByte
namespace Go.Proofs.YtgmofikhndlhcaaDoor
open Go.RowKit

def hit (q : Con) (L : List UInt8) (k : Nat) : Bool := (writeP q.1 q.2.1 q.2.2.1 q.2.2.2 k).2 == 0 && (writeP q.1 q.2.1 q.2.2.1 q.2.2.2 k).1 == L
def badP : (Con × Nat) × Int := (((0, 0, 0, 0), 0), 170)
def parseQ (q : Con) (L : List UInt8) : (Con × Nat) × Int :=
  match (List.range 14).find? (hit q L) with
  | some k => ((q, k), 0)
  | none => badP
/-- What Parse returns. -/
def parseP (s : ByteArray) : (Con × Nat) × Int :=
  if s.data.toList == [112, 97, 115, 115] || decide (Lib.lastIndexByte s 32 < 0) then (((readP s.data.toList).1, 0), (readP s.data.toList).2)
  else if (readP (s.extract 0 (Lib.lastIndexByte s 32).toNat).data.toList).2 != 0 || (readP (s.extract 0 (Lib.lastIndexByte s 32).toNat).data.toList).1.1 == 0 then badP
  else parseQ (readP (s.extract 0 (Lib.lastIndexByte s 32).toNat).data.toList).1 s.data.toList
def ParsePost (s : ByteArray) (w : World) (e : Ending) (w' : World) : Prop :=
  e = .returned (.tuple #[.agg #[.int .u8 ((parseP s).1.1.1 : Nat), .int .u8 ((parseP s).1.1.2.1 : Nat), .int .u8 ((parseP s).1.1.2.2.1 : Nat), .int .u8 ((parseP s).1.1.2.2.2 : Nat)], .int .i64 ((parseP s).1.2 : Nat), .int .i64 (parseP s).2]) ∧ Below w.heap.size w w'
theorem parsePost_mk (s : ByteArray) (w w' : World) (q : (Con × Nat) × Int) (hq : parseP s = q) (e : Ending) (he : e = .returned (.tuple #[.agg #[.int .u8 (q.1.1.1 : Nat), .int .u8 (q.1.1.2.1 : Nat), .int .u8 (q.1.1.2.2.1 : Nat), .int .u8 (q.1.1.2.2.2 : Nat)], .int .i64 (q.1.2 : Nat), .int .i64 q.2])) (hb : Below w.heap.size w w') : ParsePost s w e w' := by
  subst hq; exact ⟨he, hb⟩
theorem cand_right (b0 b1 bl : UInt8) (r : Nat) (L : List UInt8) (hr : r ≤ 2) (h : (cand b0 b1 bl r L).2 = 0) : rgt (cand b0 b1 bl r L).1.1 (cand b0 b1 bl r L).1.2.1 (cand b0 b1 bl r L).1.2.2.1 (cand b0 b1 bl r L).1.2.2.2 = true := by
  have hd := dIdx_le b1
  have hs := sIdx_le bl
  unfold cand at h ⊢
  by_cases c1 : b0.toNat < 49 ∨ 55 < b0.toNat ∨ dIdx b1 < 0 ∨ sIdx bl < 0
  · rw [if_pos c1] at h
    exact absurd h (by decide)
  · rw [if_neg c1] at h ⊢
    cases c2 : (textP (b0.toNat - 48) (dIdx b1).toNat r (sIdx bl).toNat == L)
    · rw [c2, if_neg (by decide)] at h
      exact absurd h (by decide)
    · rw [if_pos rfl]
      show rgt (b0.toNat - 48) (dIdx b1).toNat r (sIdx bl).toNat = true
      exact rgt_mk _ _ _ _ (by omega) (by omega) (by omega) hr (by omega)
theorem read_right (L : List UInt8) (h : (readP L).2 = 0) : rgt (readP L).1.1 (readP L).1.2.1 (readP L).1.2.2.1 (readP L).1.2.2.2 = true := by
  unfold readP at h ⊢
  cases c1 : (L == [112, 97, 115, 115])
  · rw [c1, if_neg (by decide)] at h
    rw [if_neg (by decide)]
    split at h
    · exact cand_right _ _ _ 0 _ (by omega) h
    · exact cand_right _ _ _ 1 _ (by omega) h
    · exact cand_right _ _ _ 2 _ (by omega) h
    · exact absurd h (by decide)
  · rw [if_pos rfl]
    exact rgt_zero
theorem set4 {B b : Nat} {a w : World} {v0 v1 v2 v3 : Value} (h : Below B a w) (hb : B ≤ b) : Below B a ((((w.setCell ⟨b, 0, none⟩ v0).setCell ⟨b, 1, none⟩ v1).setCell ⟨b, 2, none⟩ v2).setCell ⟨b, 3, none⟩ v3) :=
  (((h.setCell (p := ⟨b, 0, none⟩) hb _).setCell (p := ⟨b, 1, none⟩) hb _).setCell (p := ⟨b, 2, none⟩) hb _).setCell (p := ⟨b, 3, none⟩) hb _
theorem parseQ_hit (q : Con) (L : List UInt8) (k : Nat) (hk : k < 14) (hno : ∀ j, j < k → hit q L j = false) (h : hit q L k = true) : parseQ q L = ((q, k), 0) := by
  have e : (List.range 14).find? (hit q L) = some k := by
    rw [List.find?_range_eq_some]
    exact ⟨h, by simpa using hk, fun j hj => by rw [hno j hj]; rfl⟩
  unfold parseQ
  rw [e]
theorem parseQ_none (q : Con) (L : List UInt8) (hno : ∀ j, j < 14 → hit q L j = false) : parseQ q L = badP := by
  have e : (List.range 14).find? (hit q L) = none := by
    rw [List.find?_eq_none]
    intro j hj
    rw [hno j (by simpa using hj)]
    decide
  unfold parseQ
  rw [e]
theorem last_le (s : ByteArray) : -1 ≤ Lib.lastIndexByte s 32 ∧ Lib.lastIndexByte s 32 < s.size := by
  rcases Lib.lastIndexByte_spec s 32 with ⟨h, _⟩ | ⟨i, h1, h2, _⟩ <;> omega
set_option maxRecDepth 100000 in
set_option maxHeartbeats 4000000 in
theorem parse_any (s : ByteArray) (w : World) (hE : Env w) (hs : s.size < 4611686018427387904) : Calls Tryd.prog 21 #[.string s] w (ParsePost s w) := by
  have HE := Lib.hid hE
  have hs2 : s.size ≤ maxLen := by unfold maxLen; omega
  obtain ⟨I, hI⟩ : ∃ I, I = Lib.lastIndexByte s 32 := ⟨_, rfl⟩
  have hIb := last_le s
  rw [← hI] at hIb
  have LC : Hid (∀ w, Calls Tryd.prog 39 #[.string s, .int .u8 32] w fun e w' => e = .returned (.int .i64 I) ∧ w' = w) := Lib.hid fun w => hI ▸ Tryd.strings_LastIndexByte s 32 hs w
  cases hp : (s.data.toList == [112, 97, 115, 115] || decide (I < 0))
  · have hp1 : (s.toList == [112, 97, 115, 115]) = false := by
      rw [ByteArray.toList_eq]; rw [Bool.or_eq_false_iff] at hp; exact hp.1
    have hI0 : 0 ≤ I := by rw [Bool.or_eq_false_iff, decide_eq_false_iff_not] at hp; omega
    have hdI : decide (I < 0) = false := decide_eq_false (by omega)
    obtain ⟨i, rfl⟩ : ∃ i : Nat, I = (i : Int) := ⟨I.toNat, by omega⟩
    have hP : parseP s = (if (readP (s.extract 0 i).data.toList).2 != 0 || (readP (s.extract 0 i).data.toList).1.1 == 0 then badP else parseQ (readP (s.extract 0 i).data.toList).1 s.data.toList) := by
      unfold parseP
      rw [← hI, hp]
      rfl
    have hsz : (s.extract 0 i).size ≤ maxLen := by simp; omega
    have RC := Lib.hid (fun w => read_any (s.extract 0 i) w hsz)
    obtain ⟨⟨⟨l, d, r, c⟩, er⟩, hR⟩ : ∃ R, R = readP (s.extract 0 i).data.toList := ⟨_, rfl⟩
    rw [← hR] at hP
    have RC : Hid (∀ w, Calls Tryd.prog 23 #[.string (s.extract 0 i)] w fun e w' => e = .returned (.tuple #[.agg #[.int .u8 (l : Nat), .int .u8 (d : Nat), .int .u8 (r : Nat), .int .u8 (c : Nat)], .int .i64 er]) ∧ Below w.heap.size w w') := Lib.hid fun w => (read_any (s.extract 0 i) w hsz).mono fun e w' ⟨he, hb⟩ => ⟨by rw [he, ← hR], hb⟩
    have hl256 : er = 0 → l < 256 := fun h => by
      have := read_right (s.extract 0 i).data.toList
      rw [← hR] at this
      have h2 : rgt l d r c = true := this h
      have := rgt_of _ _ _ _ h2
      omega
    have hi2 : i ≤ s.size := by omega
    have hi3 : (i : Int) ≤ (s.size : Nat) := by omega
    have HP := Lib.hid hP
    clear hI hp hR hP hdI
    have HL := Lib.hid hl256
    clear hl256
    cases f0 : ((l : Int) == 0)
    · skip
      go_enter Tryd.func21, Tryd.ntmps21
      go_wp2_with fail
      refine (LC.out _).mono ?_
      rintro e w1 ⟨rfl, rfl⟩
      go_wp2_with fail
      refine (RC.out _).mono ?_
      rintro e w2 ⟨rfl, hb⟩
      have q0 := hb.cell (p := ⟨w.heap.size, 0, none⟩) (by simp)
      have q1 := hb.cell (p := ⟨w.heap.size, 1, none⟩) (by simp)
      have q2 := hb.cell (p := ⟨w.heap.size, 2, none⟩) (by simp)
      have q3 := hb.cell (p := ⟨w.heap.size, 3, none⟩) (by simp)
      have z0 := hb.frozen (p := ⟨w.heap.size, 0, none⟩) (by simp)
      have z1 := hb.frozen (p := ⟨w.heap.size, 1, none⟩) (by simp)
      have z2 := hb.frozen (p := ⟨w.heap.size, 2, none⟩) (by simp)
      have z3 := hb.frozen (p := ⟨w.heap.size, 3, none⟩) (by simp)
      simp at q0 q1 q2 q3 z0 z1 z2 z3
      have hz : w.heap.size < w2.heap.size := by have := hb.size; simp at this; omega
      have hB : Below w.heap.size w w2 := ((Below.refl _ _).alloc (Nat.le_refl _) _).trans (hb.mono (by simp))
      clear hb
      go_wp2_with fail
      · have he0 : er = 0 := by assumption
        have hl0 : (l == 0) = false := by
          rw [beq_eq_false_iff_ne] at f0 ⊢
          omega
        have hP2 : parseP s = parseQ (l, d, r, c) s.data.toList := by
          rw [HP.out]
          exact if_neg (by simp [*])
        have HQ := Lib.hid hP2
        have H256 := Lib.hid (HL.out he0)
        clear hP2 hl0 he0
        have hB3 : Below w.heap.size w (w2.alloc (.cells #[.int .u8 (l : Nat), .int .u8 (d : Nat), .int .u8 (r : Nat), .int .u8 (c : Nat)] 23)) := hB.alloc hB.size _
        have g0 : (w2.alloc (.cells #[.int .u8 (l : Nat), .int .u8 (d : Nat), .int .u8 (r : Nat), .int .u8 (c : Nat)] 23)).cell? ⟨w2.heap.size, 0, none⟩ = some (.int .u8 (l : Nat)) := by simp
        have g1 : (w2.alloc (.cells #[.int .u8 (l : Nat), .int .u8 (d : Nat), .int .u8 (r : Nat), .int .u8 (c : Nat)] 23)).cell? ⟨w2.heap.size, 1, none⟩ = some (.int .u8 (d : Nat)) := by simp
        have g2 : (w2.alloc (.cells #[.int .u8 (l : Nat), .int .u8 (d : Nat), .int .u8 (r : Nat), .int .u8 (c : Nat)] 23)).cell? ⟨w2.heap.size, 2, none⟩ = some (.int .u8 (r : Nat)) := by simp
        have g3 : (w2.alloc (.cells #[.int .u8 (l : Nat), .int .u8 (d : Nat), .int .u8 (r : Nat), .int .u8 (c : Nat)] 23)).cell? ⟨w2.heap.size, 3, none⟩ = some (.int .u8 (c : Nat)) := by simp
        have x0 := keepA (.cells #[.int .u8 (l : Nat), .int .u8 (d : Nat), .int .u8 (r : Nat), .int .u8 (c : Nat)] 23) q0
        have x1 := keepA (.cells #[.int .u8 (l : Nat), .int .u8 (d : Nat), .int .u8 (r : Nat), .int .u8 (c : Nat)] 23) q1
        have x2 := keepA (.cells #[.int .u8 (l : Nat), .int .u8 (d : Nat), .int .u8 (r : Nat), .int .u8 (c : Nat)] 23) q2
        have x3 := keepA (.cells #[.int .u8 (l : Nat), .int .u8 (d : Nat), .int .u8 (r : Nat), .int .u8 (c : Nat)] 23) q3
        have y0 : (w2.alloc (.cells #[.int .u8 (l : Nat), .int .u8 (d : Nat), .int .u8 (r : Nat), .int .u8 (c : Nat)] 23)).frozen? ⟨w.heap.size, 0, none⟩ = false := by rw [World.frozen?_alloc_past _ _ _ hz]; exact z0
        have y1 : (w2.alloc (.cells #[.int .u8 (l : Nat), .int .u8 (d : Nat), .int .u8 (r : Nat), .int .u8 (c : Nat)] 23)).frozen? ⟨w.heap.size, 1, none⟩ = false := by rw [World.frozen?_alloc_past _ _ _ hz]; exact z1
        have y2 : (w2.alloc (.cells #[.int .u8 (l : Nat), .int .u8 (d : Nat), .int .u8 (r : Nat), .int .u8 (c : Nat)] 23)).frozen? ⟨w.heap.size, 2, none⟩ = false := by rw [World.frozen?_alloc_past _ _ _ hz]; exact z2
        have y3 : (w2.alloc (.cells #[.int .u8 (l : Nat), .int .u8 (d : Nat), .int .u8 (r : Nat), .int .u8 (c : Nat)] 23)).frozen? ⟨w.heap.size, 3, none⟩ = false := by rw [World.frozen?_alloc_past _ _ _ hz]; exact z3
        have hzW : w.heap.size < (w2.alloc (.cells #[.int .u8 (l : Nat), .int .u8 (d : Nat), .int .u8 (r : Nat), .int .u8 (c : Nat)] 23)).heap.size := by simp; omega
        generalize w2.alloc (.cells #[.int .u8 (l : Nat), .int .u8 (d : Nat), .int .u8 (r : Nat), .int .u8 (c : Nat)] 23) = W at *
        clear q0 q1 q2 q3 z0 z1 z2 z3 hB
        have KX : Hid (∀ wr, Below W.heap.size W wr → (wr.cell? ⟨w2.heap.size, 0, none⟩ = some (.int .u8 (l : Nat)) ∧ wr.cell? ⟨w2.heap.size, 1, none⟩ = some (.int .u8 (d : Nat)) ∧ wr.cell? ⟨w2.heap.size, 2, none⟩ = some (.int .u8 (r : Nat)) ∧ wr.cell? ⟨w2.heap.size, 3, none⟩ = some (.int .u8 (c : Nat))) ∧
            (wr.cell? ⟨w.heap.size, 0, none⟩ = some (.int .u8 0) ∧ wr.cell? ⟨w.heap.size, 1, none⟩ = some (.int .u8 0) ∧ wr.cell? ⟨w.heap.size, 2, none⟩ = some (.int .u8 0) ∧ wr.cell? ⟨w.heap.size, 3, none⟩ = some (.int .u8 0)) ∧
            (wr.frozen? ⟨w.heap.size, 0, none⟩ = false ∧ wr.frozen? ⟨w.heap.size, 1, none⟩ = false ∧ wr.frozen? ⟨w.heap.size, 2, none⟩ = false ∧ wr.frozen? ⟨w.heap.size, 3, none⟩ = false)) := Lib.hid fun wr h =>
          ⟨⟨keepW h g0, keepW h g1, keepW h g2, keepW h g3⟩, ⟨keepW h x0, keepW h x1, keepW h x2, keepW h x3⟩, ⟨(h.frozen hzW).trans y0, (h.frozen hzW).trans y1, (h.frozen hzW).trans y2, (h.frozen hzW).trans y3⟩⟩
        clear g0 g1 g2 g3 x0 x1 x2 x3 y0 y1 y2 y3
        go_loopw [43] (fun v43 wr => ∃ k : Nat, k ≤ 14 ∧ v43 = .int .i64 k ∧ (∀ j, j < k → hit (l, d, r, c) s.data.toList j = false) ∧ Below W.heap.size W wr) (fun v43 _ => 14 - (intOf v43).toNat)
        case atStart => exact ⟨0, by omega, rfl, fun _ h => absurd h (by omega), Below.refl _ _⟩
        case round =>
          obtain ⟨k, hk, rfl, hno, hbr⟩ := hrel
          obtain ⟨⟨g0, g1, g2, g3⟩, ⟨x0, x1, x2, x3⟩, y0, y1, y2, y3⟩ := KX.out _ hbr
          have HNO := Lib.hid hno
          clear hno
          have hBr := bchain hB3 hbr
          by_cases hlt : k < 14
          · obtain ⟨⟨T, ew⟩, hT⟩ : ∃ q, q = writeP l d r c k := ⟨_, rfl⟩
            have WC : Hid (∀ w, Env w → Calls Tryd.prog 20 #[.agg #[.int .u8 (l : Nat), .int .u8 (d : Nat), .int .u8 (r : Nat), .int .u8 (c : Nat)], .int .i64 (k : Nat)] w fun e w' => e = .returned (.tuple #[.string ⟨T.toArray⟩, .int .i64 ew]) ∧ Below w.heap.size w w') := Lib.hid fun w hw => (write_any l d r c k w hw H256.out).mono fun e w' ⟨he, hb⟩ => ⟨by rw [he, ← hT], hb⟩
            have hH : Hid (hit (l, d, r, c) s.data.toList k = (ew == 0 && T == s.toList)) := Lib.hid (by unfold hit; simp only [← hT]; rw [ByteArray.toList_eq])
            clear hT
            have ER := Lib.hid (HE.out.keep hBr)
            go_wp2_with fail
            refine (WC.out _ ER.out).mono ?_
            rintro e w3 ⟨rfl, hb⟩
            have hb3 := bchain hbr hb
            have hB4 := bchain hBr hb
            have hz4 : w.heap.size < w3.heap.size := Nat.lt_of_lt_of_le hzW hb3.size
            clear g0 g1 g2 g3 x0 x1 x2 x3 y0 y1 y2 y3 hb hbr
            obtain ⟨⟨g0, g1, g2, g3⟩, ⟨x0, x1, x2, x3⟩, y0, y1, y2, y3⟩ := KX.out _ hb3
            go_wp2_with fail
            · have hT : hit (l, d, r, c) s.data.toList k = true := by
                rw [hH.out]
                have h1 : ew = 0 := by assumption
                have h2 : (T == s.toList) = true := by assumption
                rw [h1, h2]; rfl
              have hC : parseP s = (((l, d, r, c), k), 0) := by rw [HQ.out]; exact parseQ_hit _ _ k hlt HNO.out hT
              refine bodyPost_ret (v := .tuple #[.agg #[.int .u8 (l : Nat), .int .u8 (d : Nat), .int .u8 (r : Nat), .int .u8 (c : Nat)], .int .i64 (k : Nat), .int .i64 0]) (by simp [results, Tryd.results21, go_sem, x0, x1, x2, x3]) rfl (parsePost_mk _ _ _ _ hC _ rfl ?_)
              exact set4 hB4 (Nat.le_refl _)
            · have hF : hit (l, d, r, c) s.data.toList k = false := by
                rw [hH.out]
                have h2 : (T == s.toList) = false := by assumption
                rw [h2, Bool.and_false]
              go_roundw
              case rel => exact ⟨k + 1, by omega, by go_num, fun j hj => by
                rcases Nat.lt_or_ge j k with h | h
                · exact HNO.out j h
                · obtain rfl : j = k := by omega
                  exact hF, hb3⟩
              case measure => simp [intOf]; omega
            · have hF : hit (l, d, r, c) s.data.toList k = false := by
                rw [hH.out]
                have h2 : ¬ ew = 0 := by assumption
                rw [beq_eq_false_iff_ne.2 h2, Bool.false_and]
              go_roundw
              case rel => exact ⟨k + 1, by omega, by go_num, fun j hj => by
                rcases Nat.lt_or_ge j k with h | h
                · exact HNO.out j h
                · obtain rfl : j = k := by omega
                  exact hF, hb3⟩
              case measure => simp [intOf]; omega
          · obtain rfl : k = 14 := by omega
            have hz4 : w.heap.size < wr.heap.size := Nat.lt_of_lt_of_le hzW hbr.size
            have hC : Hid (parseP s = badP) := Lib.hid (by rw [HQ.out]; exact parseQ_none _ _ HNO.out)
            go_wp2_with fail
            refine bodyPost_ret (v := .tuple #[.agg #[.int .u8 0, .int .u8 0, .int .u8 0, .int .u8 0], .int .i64 0, .int .i64 170]) (by simp [results, Tryd.results21, go_sem, x0, x1, x2, x3]) rfl (parsePost_mk _ _ _ badP hC.out _ rfl ?_)
            exact set4 hBr (Nat.le_refl _)
      · have hC : parseP s = badP := by
          rw [HP.out]
          have h : ¬ er = 0 := by assumption
          exact if_pos (by simp [h])
        refine bodyPost_ret (v := .tuple #[.agg #[.int .u8 0, .int .u8 0, .int .u8 0, .int .u8 0], .int .i64 0, .int .i64 170]) (by simp [results, Tryd.results21, go_sem, q0, q1, q2, q3, hz]) rfl (parsePost_mk _ _ _ badP hC _ rfl ?_)
        exact (set4 hB (Nat.le_refl _)).alloc (set4 hB (Nat.le_refl _)).size _
    · skip
      go_enter Tryd.func21, Tryd.ntmps21
      go_wp2_with fail
      refine (LC.out _).mono ?_
      rintro e w1 ⟨rfl, rfl⟩
      go_wp2_with fail
      refine (RC.out _).mono ?_
      rintro e w2 ⟨rfl, hb⟩
      have q0 := hb.cell (p := ⟨w.heap.size, 0, none⟩) (by simp)
      have q1 := hb.cell (p := ⟨w.heap.size, 1, none⟩) (by simp)
      have q2 := hb.cell (p := ⟨w.heap.size, 2, none⟩) (by simp)
      have q3 := hb.cell (p := ⟨w.heap.size, 3, none⟩) (by simp)
      have z0 := hb.frozen (p := ⟨w.heap.size, 0, none⟩) (by simp)
      have z1 := hb.frozen (p := ⟨w.heap.size, 1, none⟩) (by simp)
      have z2 := hb.frozen (p := ⟨w.heap.size, 2, none⟩) (by simp)
      have z3 := hb.frozen (p := ⟨w.heap.size, 3, none⟩) (by simp)
      simp at q0 q1 q2 q3 z0 z1 z2 z3
      have hz : w.heap.size < w2.heap.size := by have := hb.size; simp at this; omega
      have hB : Below w.heap.size w w2 := ((Below.refl _ _).alloc (Nat.le_refl _) _).trans (hb.mono (by simp))
      clear hb
      go_wp2_with fail
      all_goals
        have hC : parseP s = badP := by
          rw [HP.out]
          have hl : l = 0 := by have := beq_iff_eq.1 f0; omega
          subst hl
          exact if_pos (by simp)
        refine bodyPost_ret (v := .tuple #[.agg #[.int .u8 0, .int .u8 0, .int .u8 0, .int .u8 0], .int .i64 0, .int .i64 170]) (by simp [results, Tryd.results21, go_sem, q0, q1, q2, q3, hz]) rfl (parsePost_mk _ _ _ badP hC _ rfl ?_)
        exact (set4 hB (Nat.le_refl _)).alloc (set4 hB (Nat.le_refl _)).size _
  · have hP : Hid (parseP s = (((readP s.data.toList).1, 0), (readP s.data.toList).2)) := Lib.hid (by
      unfold parseP
      rw [← hI, hp]
      rfl)
    have hb2 : (s.toList == [112, 97, 115, 115] || decide (I < 0)) = true := by rw [ByteArray.toList_eq]; exact hp
    obtain ⟨⟨⟨l, d, r, c⟩, er⟩, hR⟩ : ∃ q, q = readP s.data.toList := ⟨_, rfl⟩
    rw [← hR] at hP
    have RC : Hid (∀ w, Calls Tryd.prog 23 #[.string s] w fun e w' => e = .returned (.tuple #[.agg #[.int .u8 (l : Nat), .int .u8 (d : Nat), .int .u8 (r : Nat), .int .u8 (c : Nat)], .int .i64 er]) ∧ Below w.heap.size w w') := Lib.hid fun w => (read_any s w hs2).mono fun e w' ⟨he, hb⟩ => ⟨by rw [he, ← hR], hb⟩
    clear hI hp hR
    go_enter Tryd.func21, Tryd.ntmps21
    go_wp2_with fail
    refine (LC.out _).mono ?_
    rintro e w1 ⟨rfl, rfl⟩
    go_wp2_with fail
    all_goals
      refine (RC.out _).mono ?_
      rintro e w2 ⟨rfl, hb⟩
      have q0 := hb.cell (p := ⟨w.heap.size, 0, none⟩) (by simp)
      have q1 := hb.cell (p := ⟨w.heap.size, 1, none⟩) (by simp)
      have q2 := hb.cell (p := ⟨w.heap.size, 2, none⟩) (by simp)
      have q3 := hb.cell (p := ⟨w.heap.size, 3, none⟩) (by simp)
      have z0 := hb.frozen (p := ⟨w.heap.size, 0, none⟩) (by simp)
      have z1 := hb.frozen (p := ⟨w.heap.size, 1, none⟩) (by simp)
      have z2 := hb.frozen (p := ⟨w.heap.size, 2, none⟩) (by simp)
      have z3 := hb.frozen (p := ⟨w.heap.size, 3, none⟩) (by simp)
      simp at q0 q1 q2 q3 z0 z1 z2 z3
      have hz : w.heap.size < w2.heap.size := by have := hb.size; simp at this; omega
      have hB : Below w.heap.size w w2 := ((Below.refl _ _).alloc (Nat.le_refl _) _).trans (hb.mono (by simp))
      clear hb
      go_wp2_with fail
      refine bodyPost_ret (v := .tuple #[.agg #[.int .u8 (l : Nat), .int .u8 (d : Nat), .int .u8 (r : Nat), .int .u8 (c : Nat)], .int .i64 0, .int .i64 er]) (by simp [results, Tryd.results21, go_sem, q0, q1, q2, q3, hz]) rfl (parsePost_mk _ _ _ _ hP.out _ rfl ?_)
      exact (set4 hB (Nat.le_refl _)).alloc (set4 hB (Nat.le_refl _)).size _
attribute [irreducible] parseP hit
end Go.Proofs.YtgmofikhndlhcaaDoor
