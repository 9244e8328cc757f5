/- What the world holds that was there before the call; numbers and words as strings: Itoa, append of a string, Join. -/
import Derived.Test.YtpkmibmombpjpaaGreatDoorES
import Derived.Test.YtpkmibmombpjpaaGreatDoorShelf
import Derived.Test.YtpkmibmombpjpaaGreatDoorApp
import Derived.Lib.LaidTab
import Derived.Lib.ItoaLen
namespace Go.Proofs.YtpkmibmombpjpaaGreatDoor
open Go Go.RowKit

theorem cell_keep {w w' : World} {a : Addr} {v : Value} (h : w.cell? a = some v) (hb : Below w.heap.size w w') : w'.cell? a = some v :=
  (hb.cell (World.block_lt_of_cell? w _ h)).trans h
structure Env (w : World) : Prop where
  maxl : ∃ m : Int, w.cell? ⟨1, 0, none⟩ = some (.int .i64 m)
  syn : ∃ tp p, w.cell? ⟨4, 0, none⟩ = some (.iface tp p)
  rng : ∃ tp p, w.cell? ⟨5, 0, none⟩ = some (.iface tp p)
  tab : Lib.TabIs Tryz.prog w "internal/strconv.uint64pow10" .u64 Lib.pow10Tab
theorem gPow : Tryz.prog.globalNamed "internal/strconv.uint64pow10" = some 0 := by kernel_rfl
theorem Env.keep {w w' : World} (h : Env w) (hb : Below w.heap.size w w') : Env w' :=
  ⟨h.maxl.imp fun _ h => cell_keep h hb, h.syn.imp fun _ h => h.imp fun _ h => cell_keep h hb, h.rng.imp fun _ h => h.imp fun _ h => cell_keep h hb,
   var?_below hb gPow (World.block_lt_of_cell? w _ (Lib.TabIs.cell h.tab gPow 0 (by decide))) h.tab⟩
theorem below_grow (w : World) (k : Nat) (os : Array Obj) : Below w.heap.size w (Go.Sort.grow (w.drewN k) os) :=
  ⟨rfl, rfl, rfl, by simp [Go.Sort.grow, World.drewN], fun i hi => by simp [Go.Sort.grow, World.drewN, Array.getElem?_append_left hi]⟩
/-- The bytes as a string. -/
def bS (l : List UInt8) : ByteArray := ⟨l.toArray⟩
theorem bS_size (l : List UInt8) : (bS l).size = l.length := by simp [bS, ByteArray.size]
theorem bS_app (a b : List UInt8) : bS a ++ bS b = bS (a ++ b) := by
  apply ByteArray.ext
  simp [bS]
theorem bS_list (l : List UInt8) : (bS l).data.toList = l := by simp [bS]
theorem itoa_any (n : Int) (w : World) (h : Env w) (hn : inI n) :
    Calls Tryz.prog 52 #[.int .i64 n] w fun e w' => e = .returned (.string (bS (Lib.itoa n))) ∧ Below w.heap.size w w' :=
  (Tryz.strconv_Itoa n hn.1 hn.2 w h.tab).mono fun _ _ ⟨he, k, os, hw⟩ => ⟨he, hw ▸ below_grow w k os⟩
theorem itoa_len (n : Int) (hn : inI n) : (Lib.itoa n).length ≤ 21 := Lib.itoa_length_le n hn.1 hn.2
theorem info_parts_str : ∃ i, Tryz.prog.info? 9 = some i ∧ i.zero = some (.string ⟨#[]⟩) ∧ i.size = 1 ∧ i.bytes = 16 := by
  have h := info_str
  cases hi : Tryz.prog.info? 9 with
  | none => rw [hi] at h; cases h
  | some i =>
    rw [hi] at h
    simp only [Option.map_some, Option.some.injEq, Prod.mk.injEq] at h
    exact ⟨i, rfl, h.1, h.2.1, h.2.2⟩
/-- append of one string. -/
theorem app_str {ops : Array Oper} {rest : List Oper} {o : Oper} {a : Act} {Q : Exit → Act → World → Prop} (hgd : o.guard = none) (s x : Operand)
    (ho : o.op = .call { callee := .builtin .append, args := #[s, x], argTypes := #[59, 59] }) (wr : World) (base : Nat) (v : Value) (n : Nat) (l : List (List UInt8)) (c : ByteArray) (C : List UInt8) (hC : c = bS C)
    (hs : a.eval s = v) (b : Nat) (hx : a.eval x = .slice (some ⟨b, 0, none⟩) 1 1) (hbb : wr.heap.size = b) (hown : wr.ownsRow base 9 1 v n (l.map strV)) (hb : base ≤ wr.heap.size) (hn : n ≤ 1000000)
    (h : ∀ v' w', w'.ownsRow base 9 1 v' (n + 1) ((l ++ [C]).map strV) → wr.grownBy w' v.ownBlock → (v'.ownBlock = v.ownBlock ∨ v'.ownBlock = some (wr.heap.size + 1)) → Below base wr w' → wpList Tryz.prog ops Q rest (a.put o.dst v') w') :
    wpList Tryz.prog ops Q (o :: rest) a (wr.alloc (.cells #[.string c] 9)) := by
  subst hC hbb
  obtain ⟨i0, hi0, hz0, hz1, hz2⟩ := info_parts_str
  refine app1 hgd s x ho Tryz.underlying59 hi0 hz0 hz1 hz2 rfl wr base v n (l.map strV) (.string (bS C)) rfl rfl hs hx hown hb hn (by decide) (fun v' w' h1 h2 h3 h4 => ?_)
  refine h v' w' ?_ h2 h3 h4
  rw [List.map_append]
  exact h1
theorem own_nil (w : World) (base : Nat) (e : TypeId) : w.ownsRow base e 1 (.slice none 0 0) 0 [] := ⟨rfl, .inl ⟨rfl, rfl⟩⟩
theorem join_jn (c : UInt8) (l : List (List UInt8)) : Lib.join l [c] = jn c l := by
  cases l with
  | nil => rfl
  | cons w l =>
    rw [Lib.join_cons]
    unfold Lib.joinTail
    show _ = w ++ l.flatMap (fun x => c :: x)
    rw [List.flatMap_def]
    rfl
theorem jn_le (c : UInt8) : ∀ (l : List (List UInt8)) (B : Nat), (∀ x ∈ l, x.length ≤ B) → (jn c l).length ≤ l.length * (B + 1)
  | [], _, _ => by simp [jn]
  | w :: l, B, h => by
    unfold jn
    rw [List.length_append, List.length_flatMap]
    have h0 := h w (by simp)
    have : (l.map fun x => (c :: x).length).sum ≤ l.length * (B + 1) := by
      have hl : ∀ x ∈ l, x.length ≤ B := fun x hx => h x (List.mem_cons_of_mem _ hx)
      clear h h0
      induction l with
      | nil => simp
      | cons n l ih =>
        have h1 := hl n (by simp)
        have h2 := ih (fun x hx => hl x (List.mem_cons_of_mem _ hx))
        simp only [List.map_cons, List.sum_cons, List.length_cons, Nat.add_mul, Nat.one_mul] at h2 ⊢
        omega
    show _ ≤ (l.length + 1) * (B + 1)
    rw [Nat.add_mul, Nat.one_mul]
    omega
/-- Join of strings of the call's own. -/
theorem join_own {W : World} {base n : Nat} {v : Value} {l : List (List UInt8)} (c : UInt8) (h : W.ownsRow base 9 1 v n (l.map strV)) (h0 : 0 < n) (hl : n ≤ 1000) (hb : ∀ x ∈ l, x.length ≤ 100000) :
    Calls Tryz.prog 61 #[v, .string ⟨#[c]⟩] W (fun e w' => e = .returned (.string (bS (jn c l))) ∧ Below W.heap.size W w') := by
  have hn : l.length = n := by have := h.1; simpa using this
  obtain ⟨g, cap, rfl, _, hcap⟩ := own_some h h0
  have e1 : ((l.map bS).map (·.data.toList)) = l := by
    rw [List.map_map]
    exact (List.map_congr_left fun x _ => bS_list x).trans (List.map_id l)
  have e2 : (⟨#[c]⟩ : ByteArray).data.toList = [c] := rfl
  have hlt : g < W.heap.size := by
    rcases h.2 with ⟨e, _⟩ | ⟨g', cap', cur, e, _, hg, _⟩
    · cases e
    · injection e with e _ _
      injection e with e
      injection e with e _ _
      rw [e]
      exact (Array.getElem?_eq_some_iff.1 hg).1
  have J := Tryz.strings_Join g 0 cap (l.map bS) ⟨#[c]⟩ W (fun j x hj => by
    rw [Nat.zero_add]
    have hc := h.cells (g := g) rfl j (.string x) (by
      rw [List.getElem?_map] at hj ⊢
      cases hx : l[j]? with
      | none => rw [hx] at hj; cases hj
      | some y =>
        rw [hx] at hj
        obtain rfl : bS y = x := by simpa using hj
        rfl)
    rw [add_at, Nat.zero_add] at hc
    exact hc) hlt (by simp; omega) (by simpa [hn] using hcap) (by
      rw [e1, e2, join_jn]
      have := jn_le c l 100000 hb
      rw [hn] at this
      have : n * (100000 + 1) ≤ 1000 * (100000 + 1) := Nat.mul_le_mul_right _ hl
      omega)
  rw [e1, e2, join_jn, List.length_map, hn] at J
  exact J
theorem ix_kind (k : Nat) (hk : k < 5) (w : World) : (Instr.index 159 (.agg #[.string ⟨#[118, 111, 105, 100]⟩, .string ⟨#[112, 108, 97, 121, 101, 100]⟩, .string ⟨#[119, 101, 105, 103, 104, 116, 101, 100]⟩, .string ⟨#[115, 112, 108, 105, 116]⟩, .string ⟨#[97, 119, 97, 114, 100]⟩]) (.int .u8 (k : Int))).run Tryz.prog w = .ok (.string (bS (kindW k))) w := by
  rcases (by omega : k = 0 ∨ k = 1 ∨ k = 2 ∨ k = 3 ∨ k = 4) with rfl | rfl | rfl | rfl | rfl <;> kernel_rfl
set_option maxRecDepth 100000 in
theorem kindWord_same (k : Nat) (hk : k ≤ 4) (w : World) : Calls Tryz.prog 58 #[.int .u8 (k : Int)] w (fun e w' => e = .returned (.string (bS (kindW k))) ∧ w' = w) := by
  have IX := ix_kind k (by omega)
  go_enter Tryz.func58, Tryz.ntmps58
  go_wp2_with fail
  go_ret
  exact ⟨rfl, rfl⟩
theorem kindWord_any (k : Nat) (hk : k ≤ 4) (w : World) : Calls Tryz.prog 58 #[.int .u8 (k : Int)] w (fun e w' => e = .returned (.string (bS (kindW k))) ∧ Below w.heap.size w w') :=
  (kindWord_same k hk w).mono (by rintro e w' ⟨h, rfl⟩; exact ⟨h, Below.refl _ _⟩)
end Go.Proofs.YtpkmibmombpjpaaGreatDoor
