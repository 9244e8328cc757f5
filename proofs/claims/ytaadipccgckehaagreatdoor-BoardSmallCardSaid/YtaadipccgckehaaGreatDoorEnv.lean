/- What the world holds that was there before the call: tables, errors, words. -/
import Derived.Test.YtaadipccgckehaaGreatDoorCB
namespace Go.Proofs.YtaadipccgckehaaGreatDoor
open Go Go.RowKit Go.Shelf Pl

def wordC : Array Value := #[strV' (wordW 0), strV' (wordW 1), strV' (wordW 2), strV' (wordW 3)]
structure Env (w : World) : Prop where
  maxl : MaxL w
  syn : ∃ tp p, w.cell? ⟨2, 0, none⟩ = some (.iface tp p)
  rng : ∃ tp p, w.cell? ⟨3, 0, none⟩ = some (.iface tp p)
  tab : Lib.TabIs Tryz.prog w "internal/strconv.uint64pow10" .u64 Lib.pow10Tab
  wds : ∀ j, j < 4 → w.cell? ⟨0, j, none⟩ = some (strV' (wordW j))
theorem gPow : Tryz.prog.globalNamed "internal/strconv.uint64pow10" = some 4 := by kernel_rfl
theorem Env.keep {w w' : World} (h : Env w) (hb : Below w.heap.size w w') : Env w' :=
  ⟨h.maxl.keep hb, h.syn.imp fun _ h => h.imp fun _ h => cell_keep h hb, h.rng.imp fun _ h => h.imp fun _ h => cell_keep h hb,
   var?_below hb gPow (World.block_lt_of_cell? w _ (Lib.TabIs.cell h.tab gPow 0 (by decide))) h.tab, fun j hj => cell_keep (h.wds j hj) hb⟩
theorem below_grow (w : World) (k : Nat) (os : Array Obj) : Below w.heap.size w (Go.Sort.grow (w.drewN k) os) :=
  ⟨rfl, rfl, rfl, by simp [Go.Sort.grow, World.drewN], fun i hi => by simp [Go.Sort.grow, World.drewN, Array.getElem?_append_left hi]⟩
theorem itoa_any (n : Int) (w : World) (h : Env w) (h0 : -9223372036854775808 ≤ n) (h1 : n ≤ 9223372036854775807) :
    Calls Tryz.prog 34 #[.int .i64 n] w fun e w' => e = .returned (.string ⟨(Lib.itoa n).toArray⟩) ∧ Below w.heap.size w w' :=
  (Tryz.strconv_Itoa n h0 h1 w h.tab).mono fun _ _ ⟨he, k, os, hw⟩ => ⟨he, hw ▸ below_grow w k os⟩
end Go.Proofs.YtaadipccgckehaaGreatDoor
