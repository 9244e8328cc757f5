/- append of one element to a row of the call's own; texts makes records of any strings. -/
import Derived.Test.YtbompgfjlllioaaDoorJLogP
import Derived.Test.YtbompgfjlllioaaDoorJLog
import Derived.Test.YtbompgfjlllioaaDoorJSame
import Derived.Maps.AppendAt
import Derived.Lib.BufferRead
namespace Go.Proofs.YtbompgfjlllioaaDoor
open Go Go.RowKit

/-- append(out, x), out being nil or of the call's own. -/
theorem app1 {ops : Array Oper} {rest : List Oper} {o : Oper} {a : Act} {Q : Exit → Act → World → Prop} (hgd : o.guard = none) (s x : Operand) {t e : TypeId}
    (ho : o.op = .call { callee := .builtin .append, args := #[s, x], argTypes := #[t, t] }) {i : TypeInfo} {z : Value} {bytes : Nat} (ht : Tryd.prog.underlying t = some (.slice e)) (hi : Tryd.prog.info? e = some i) (hz : i.zero = some z) (hsize : i.size = 1) (hby : i.bytes = bytes) (hzs : z.cells.size = 1)
    (wr : World) (base : Nat) (v : Value) (n : Nat) (xs : List Value) (c : Value) (hc : c.oneCell' = true) (hc2 : c.cells = #[c])
    (hs : a.eval s = v) (hx : a.eval x = .slice (some ⟨wr.heap.size, 0, none⟩) 1 1) (hown : wr.ownsRow base e 1 v n xs) (hb : base ≤ wr.heap.size) (hn : n ≤ 1000000) (hby2 : bytes ≤ 1000000)
    (h : ∀ v' w', w'.ownsRow base e 1 v' (n + 1) (xs ++ [c]) → wr.grownBy w' v.ownBlock → (v'.ownBlock = v.ownBlock ∨ v'.ownBlock = some (wr.heap.size + 1)) → Below base wr w' → wpList Tryd.prog ops Q rest (a.put o.dst v') w') :
    wpList Tryd.prog ops Q (o :: rest) a (wr.alloc (.cells #[c] e)) := by
  have hlt : (n + 1) * bytes ≤ 1000001 * 1000000 := Nat.mul_le_mul (by omega) hby2
  refine wpList_append_own_at _ hgd s x t ho base e i z 1 bytes ht hi hz hsize hby hzs (by decide) v n xs hs (hown.alloc _) ⟨wr.heap.size, 0, none⟩ 1 1 [c] hx rfl ?_ ?_ (by simp only [maxLen]; omega) (by omega) (by simp; omega) ?_
  · intro j u hj
    cases j with
    | zero =>
      have hu : c = u := by simpa using hj
      subst hu
      have := (Blk.new wr e #[c]).cell (j := 0) (v := c) rfl
      exact this
    | succ j => simp at hj
  · intro u hu
    have hu : u = c := by simpa using hu
    subst hu
    exact hc
  · intro v' w' h1 h2 _ h3
    refine h v' w' h1 (World.grownBy.trans (World.grownBy_alloc _ _ _) h2) (by simpa using h3) ?_
    refine (((Below.refl base wr).alloc hb _).grown h2 (by simp; omega) fun k hk => ?_)
    exact (hown.lt k hk).1
theorem txt_next (s : List UInt8) (k : Nat) (h : k < s.length) : (s.take (k + 1)).map txtB = (s.take k).map txtB ++ [txtB s[k]] := by
  rw [take_next s k h, List.map_append]; rfl
theorem txtB_int (c : UInt8) : ((txtB c).toNat : Int) = 32 + (c.toNat : Int) % 95 := by
  unfold txtB; rw [UInt8.toNat_add, UInt8.toNat_mod]; have := c.toNat_lt; simp; omega
theorem textsL_take (l : List (List UInt8)) (k : Nat) (h : k < l.length) : (l.take (k + 1)).map txt = (l.take k).map txt ++ [txt l[k]] := by
  rw [List.take_add_one, List.getElem?_eq_getElem h, List.map_append]; rfl
theorem str_val (l : List UInt8) (X : ByteArray) (h : X.data.toList = l) : strV l = .string X := by
  subst h; rfl
/-- The text of a string of bytes, by its bytes. -/
theorem txt_min (S : ByteArray) (M : Nat) (h : min S.size 60 = M) : (S.data.toList.take M).map txtB = txt S.data.toList := by
  unfold txt
  congr 1
  rcases Nat.lt_or_ge S.size 60 with h1 | h1
  · rw [List.take_of_length_le (by rw [str_len]; omega), List.take_of_length_le (by rw [str_len]; omega)]
  · rw [show M = 60 by omega]
theorem bchain2 {B : Nat} {a b c d : World} (hB : B ≤ b.heap.size) (h : Below B a b) (k : Below b.heap.size b c) (m : Below B c d) : Below B a d := (h.trans (k.mono hB)).trans m
theorem conv_own {W : World} {base : Nat} {v : Value} {L : List UInt8} (h : W.ownsRow base 5 1 v L.length (L.map byteV)) : (convert 26 9 v).run Tryd.prog W = .ok (.string ⟨L.toArray⟩) W := by
  rcases h.2 with ⟨rfl, h0⟩ | ⟨g, cap, cur, rfl, hb, hg, hc, hm, hs, ht⟩
  · obtain rfl : L = [] := List.eq_nil_of_length_eq_zero h0
    exact Lib.run_convert_nil_bytes W 26 9 5 0 Tryd.underlying26 Tryd.underlying5 Tryd.underlying9
  · exact conv_all g 0 cap L W (bs_of_own h).1
set_option maxRecDepth 100000 in
set_option maxHeartbeats 4000000 in
theorem texts_any (A : Option Addr) (cap : Nat) (l : List (List UInt8)) (hcap : l.length ≤ cap) (w : World) (hB : RS w (.slice A l.length cap) l) :
    Calls Tryd.prog 12 #[.slice A l.length cap] w (fun e w' => ∃ v, e = .returned v ∧ w'.ownsRow w.heap.size 9 1 v (textsL l).length ((textsL l).map strV) ∧ Below w.heap.size w w') := by
  obtain ⟨i0, hi0, hz0, hz1, hz2⟩ := info_parts info_u8
  obtain ⟨j0, hj0, hy0, hy1, hy2⟩ := info_parts info_str
  obtain ⟨N, hN⟩ : ∃ N, min l.length 20 = N := ⟨_, rfl⟩
  obtain ⟨L, hL⟩ : ∃ L, l.length = L := ⟨_, rfl⟩
  have HN := Lib.hid hN
  have HL := Lib.hid hL
  have HB := Lib.hid hB
  rw [hL] at hcap ⊢
  have m1 : min (L : Int) 20 = (N : Int) := by omega
  have n1 : N ≤ cap := by omega
  have n2 : (N : Int) ≤ (cap : Int) := by omega
  have n3 : N ≤ 20 := by omega
  have n4 : (0 : Int) ≤ (N : Int) := by omega
  clear hN hL hB hcap
  go_enter Tryd.func12, Tryd.ntmps12
  go_wp2
  go_loopw [3, 14] (fun s3 s14 wr => ∃ k : Nat, k ≤ N ∧ s14 = .int .i64 k ∧ wr.ownsRow w.heap.size 9 1 s3 k (((l.take k).map txt).map strV) ∧ Below w.heap.size w wr) (fun _ s14 _ => N - (intOf s14).toNat)
  case atStart => exact ⟨0, by omega, rfl, World.ownsRow_nil _ _ _ _, Below.refl _ _⟩
  case round =>
    obtain ⟨k, hk, rfl, hown, hbw⟩ := hrel
    obtain ⟨wo, rfl⟩ : ∃ wo : World, wo = wr := ⟨_, rfl⟩
    have HO := Lib.hid hown
    have HW := Lib.hid hbw
    obtain ⟨A3, c3, rfl⟩ := own_slice hown
    clear hown hbw
    by_cases hlt : k < N
    · have hkl : k < l.length := by have := HN.out; omega
      obtain ⟨S, hS⟩ : ∃ S : ByteArray, S.data.toList = l[k] := ⟨⟨l[k].toArray⟩, rfl⟩
      have HT := Lib.hid (textsL_take l k hkl)
      rw [← hS] at HT
      obtain ⟨M, hM⟩ : ∃ M, min S.size 60 = M := ⟨_, rfl⟩
      have HM := Lib.hid hM
      have m2 : min (S.size : Int) 60 = (M : Int) := by omega
      have n5 : M ≤ 60 := by omega
      have t1 : decide ((k : Int) < (N : Int)) = true := decide_eq_true (by omega)
      obtain ⟨g, off, rfl, c0⟩ : ∃ g off, A = some ⟨g, off, none⟩ ∧ wo.cell? ⟨g, off + k, none⟩ = some (.string S) := by
        have h := HB.out
        generalize hv : Value.slice A l.length cap = v at h
        cases h with
        | none_ => simp at hkl
        | some_ b o c l' hb hc =>
          injection hv with h1 _ _
          refine ⟨b, o, h1, ?_⟩
          rw [keepW HW.out (hc k _ (List.getElem?_eq_getElem hkl)), str_val _ S hS]
      clear hM hkl hS
      go_wp2
      go_loopw [6, 21] (fun s6 s21 wr => ∃ j : Nat, j ≤ M ∧ s21 = .int .i64 j ∧ wr.ownsRow wo.heap.size 5 1 s6 j (((S.data.toList.take j).map txtB).map byteV) ∧ Below wo.heap.size wo wr) (fun _ s21 _ => M - (intOf s21).toNat)
      case atStart => exact ⟨0, by omega, rfl, World.ownsRow_nil _ _ _ _, Below.refl _ _⟩
      case round =>
        obtain ⟨j, hj, rfl, hown, hbw⟩ := hrel
        have HO2 := Lib.hid hown
        have HW2 := Lib.hid hbw
        clear hown hbw
        by_cases hjt : j < M
        · have hjs : j < S.size := by have := HM.out; omega
          have hsl : S.data.toList.length = S.size := str_len S
          have HX := Lib.hid (txt_next S.data.toList j (by omega))
          have HY := Lib.hid (txtB_int (S.data.toList[j]'(by omega)))
          rw [str_at S j hjs] at HX HY
          have hby : (S[j].toNat : Int) < 256 := by have := (S[j]).toNat_lt; omega
          have hby0 : (0 : Int) ≤ (S[j].toNat : Int) := by omega
          obtain ⟨C, hC⟩ : ∃ C, txtB S[j] = C := ⟨_, rfl⟩
          rw [hC] at HX HY
          have HYY := HY.out.symm
          clear hC
          have t2 : decide ((j : Int) < (M : Int)) = true := decide_eq_true (by omega)
          clear hsl
          go_wp2_with (at_builtin; refine app1 rfl (.tmp 24) (.tmp 30) rfl Tryd.underlying26 hi0 hz0 hz1 hz2 rfl _ wo.heap.size _ j _ (.int .u8 (C.toNat : Int)) rfl rfl rfl rfl HO2.out HW2.out.size (by omega) (by decide) ?_; intro v' w1 hown' _ _ hb')
          go_roundw
          case rel => exact ⟨j + 1, by omega, by go_num, by rw [HX.out, List.map_append]; exact hown', HW2.out.trans hb'⟩
          case measure => simp [intOf]; omega
        · obtain rfl : j = M := by omega
          have t2 : decide ((j : Int) < (j : Int)) = false := decide_eq_false (by omega)
          obtain ⟨A6, c6, rfl⟩ := own_slice HO2.out
          have HO3 : Hid (wr.ownsRow wo.heap.size 5 1 (.slice A6 j c6) (txt S.data.toList).length ((txt S.data.toList).map byteV)) := Lib.hid (by
            have h := HO2.out
            have hl : (txt S.data.toList).length = j := by rw [← txt_min S j HM.out]; simp; have := HM.out; omega
            rw [txt_min S j HM.out] at h
            rw [hl]; exact h)
          have CV := conv_own HO3.out
          go_wp2_with (at_builtin; refine app1 rfl (.tmp 33) (.tmp 36) rfl Tryd.underlying22 hj0 hy0 hy1 hy2 rfl _ w.heap.size _ k _ (.string ⟨(txt S.data.toList).toArray⟩) rfl rfl rfl rfl (own_keep HO.out HW2.out) (by have := HW.out.size; have := HW2.out.size; omega) (by omega) (by decide) ?_; intro v' w1 hown' _ _ hb')
          go_roundw
          case rel => exact ⟨k + 1, by omega, by go_num, by rw [HT.out, List.map_append]; exact hown', bchain2 HW.out.size HW.out HW2.out hb'⟩
          case measure => simp [intOf]; omega
    · obtain rfl : k = N := by omega
      have t1 : decide ((k : Int) < (k : Int)) = false := decide_eq_false (by omega)
      go_wp2
      go_ret
      refine ⟨_, rfl, ?_, HW.out⟩
      have h := HO.out
      have e : (l.take k).map txt = textsL l := by
        unfold textsL
        congr 1
        have := HN.out
        rcases Nat.lt_or_ge l.length 20 with h1 | h1
        · rw [List.take_of_length_le (by omega), List.take_of_length_le (by omega)]
        · rw [show k = 20 by omega]
      rw [e] at h
      have hl : (textsL l).length = k := by unfold textsL; simp; have := HN.out; omega
      rw [hl]; exact h
end Go.Proofs.YtbompgfjlllioaaDoor
