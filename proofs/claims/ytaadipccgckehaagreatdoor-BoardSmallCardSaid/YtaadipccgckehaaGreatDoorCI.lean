/- The examples: two deals. -/
import Derived.Test.YtaadipccgckehaaGreatDoorCF
import Derived.Test.YtaadipccgckehaaGreatDoorBL
namespace Go.Proofs.YtaadipccgckehaaGreatDoor
open Go Go.RowKit Go.Shelf Pl

def suitF : Four := (8191, 67100672, 549688705024, 4503049871556608)
def swapF : Four := (16382, 67092481, 549688705024, 4503049871556608)
def fourV (x : Four) : Value := .agg #[.int .u64 (x.1 : Int), .int .u64 (x.2.1 : Int), .int .u64 (x.2.2.1 : Int), .int .u64 (x.2.2.2 : Int)]
theorem suit_right : rightB (ofF suitF) = true := by decide +kernel
theorem swap_right : rightB (ofF swapF) = true := by decide +kernel
theorem suit_chg : chg (ofF suitF) (ofF swapF) 52 = [0, 13] := by decide +kernel
set_option maxRecDepth 100000 in
theorem suits_any (w : World) : Calls Tryz.prog 12 #[] w (fun e w' => e = .returned (.agg #[.int .u64 8191, .int .u64 67100672, .int .u64 549688705024, .int .u64 4503049871556608]) ∧ Below w.heap.size w w') := by
  go_enter Tryz.func12, Tryz.ntmps12
  go_wp2_with fail
  have HB := Lib.hid (below1 w (.cells #[.int .u64 8191, .int .u64 67100672, .int .u64 549688705024, .int .u64 4503049871556608] 24))
  have b := Blk.new w 24 #[.int .u64 8191, .int .u64 67100672, .int .u64 549688705024, .int .u64 4503049871556608]
  have x0 := b.cell (j := 0) (v := .int .u64 8191) rfl
  have x1 := b.cell (j := 1) (v := .int .u64 67100672) rfl
  have x2 := b.cell (j := 2) (v := .int .u64 549688705024) rfl
  have x3 := b.cell (j := 3) (v := .int .u64 4503049871556608) rfl
  clear b
  generalize w.alloc (.cells #[.int .u64 8191, .int .u64 67100672, .int .u64 549688705024, .int .u64 4503049871556608] 24) = W at *
  (try simp only [Exit.inBlock, Exit.then])
  refine bodyPost_ret (by simp [results, Tryz.results12, go_sem, x0, x1, x2, x3]; try rfl) rfl ?_
  exact ⟨rfl, HB.out⟩
set_option maxRecDepth 100000 in
theorem swapped_any (w : World) : Calls Tryz.prog 17 #[] w (fun e w' => e = .returned (.agg #[.int .u64 16382, .int .u64 67092481, .int .u64 549688705024, .int .u64 4503049871556608]) ∧ Below w.heap.size w w') := by
  have SU := Lib.hid suits_any
  go_enter Tryz.func17, Tryz.ntmps17
  go_wp2_with fail
  have HB := Lib.hid (below1 w (.cells zC 24))
  have HR := Lib.hid (Blk.new w 24 zC)
  unfold zC at HB HR
  generalize w.alloc (.cells #[.int .u64 0, .int .u64 0, .int .u64 0, .int .u64 0] 24) = W1 at *
  refine (SU.out _).mono ?_
  rintro e w2 ⟨rfl, hb⟩
  have HR2 := Lib.hid (HR.out.keep hb HR.out.lt)
  have HB2 := Lib.hid (bchain HB.out hb)
  clear hb HR HB SU
  go_upto_region 2 with fail
  have HR3 := Lib.hid (HR2.out.alloc (.cells #[.int .u64 8191, .int .u64 67100672, .int .u64 549688705024, .int .u64 4503049871556608] 24))
  have HD3 := Lib.hid (Blk.new w2 24 #[.int .u64 8191, .int .u64 67100672, .int .u64 549688705024, .int .u64 4503049871556608])
  have HB3 := Lib.hid (HB2.out.alloc HB2.out.size (.cells #[.int .u64 8191, .int .u64 67100672, .int .u64 549688705024, .int .u64 4503049871556608] 24))
  have hlt : w.heap.size < w2.heap.size := HR2.out.lt
  have HNE : Hid (w.heap.size ≠ w2.heap.size ∧ w.heap.size ≤ w2.heap.size) := Lib.hid (by omega)
  clear HR2 HB2 hlt
  generalize w2.alloc (.cells #[.int .u64 8191, .int .u64 67100672, .int .u64 549688705024, .int .u64 4503049871556608] 24) = W3 at *
  generalize w2.heap.size = p1 at *
  generalize hp0 : w.heap.size = p0 at *
  have x0 := HD3.out.cell (j := 0) (v := .int .u64 8191) rfl
  have x1 := HD3.out.cell (j := 1) (v := .int .u64 67100672) rfl
  have x2 := HD3.out.cell (j := 2) (v := .int .u64 549688705024) rfl
  have x3 := HD3.out.cell (j := 3) (v := .int .u64 4503049871556608) rfl
  have g0 := HD3.out.free 0
  have g1 := HD3.out.free 1
  have b1 : bits BinOp.xor IntKind.u64 8191 8193 = 16382 := by decide +kernel
  have b2 : bits BinOp.xor IntKind.u64 67100672 8193 = 67092481 := by decide +kernel
  go_upto_region 3 with fail
  have HD4 : Hid (Blk ((W3.setCell ⟨p1, 0, none⟩ (.int .u64 16382)).setCell ⟨p1, 1, none⟩ (.int .u64 67092481)) p1 24 #[.int .u64 16382, .int .u64 67092481, .int .u64 549688705024, .int .u64 4503049871556608]) := Lib.hid ((HD3.out.set 0 _).set 1 _)
  have HR4 := Lib.hid ((HR3.out.other HNE.out.1 0 (.int .u64 16382)).other HNE.out.1 1 (.int .u64 67092481))
  have HB4 := Lib.hid ((HB3.out.setCell (p := ⟨p1, 0, none⟩) HNE.out.2 (.int .u64 16382)).setCell (p := ⟨p1, 1, none⟩) HNE.out.2 (.int .u64 67092481))
  clear x0 x1 x2 x3 g0 g1 b1 b2 HD3 HR3 HB3
  generalize (W3.setCell ⟨p1, 0, none⟩ (.int .u64 16382)).setCell ⟨p1, 1, none⟩ (.int .u64 67092481) = W4 at *
  have x0 := HD4.out.cell (j := 0) (v := .int .u64 16382) rfl
  have x1 := HD4.out.cell (j := 1) (v := .int .u64 67092481) rfl
  have x2 := HD4.out.cell (j := 2) (v := .int .u64 549688705024) rfl
  have x3 := HD4.out.cell (j := 3) (v := .int .u64 4503049871556608) rfl
  have y0 := HR4.out.cell (j := 0) (v := .int .u64 0) rfl
  have y1 := HR4.out.cell (j := 1) (v := .int .u64 0) rfl
  have y2 := HR4.out.cell (j := 2) (v := .int .u64 0) rfl
  have y3 := HR4.out.cell (j := 3) (v := .int .u64 0) rfl
  have g0 := HR4.out.free 0
  have g1 := HR4.out.free 1
  have g2 := HR4.out.free 2
  have g3 := HR4.out.free 3
  have HZ := Lib.hid (zxset HR4.out (.int .u64 16382) (.int .u64 67092481) (.int .u64 549688705024) (.int .u64 4503049871556608))
  have HBZ := Lib.hid (zzbelow HB4.out (Nat.le_refl p0) (.int .u64 16382) (.int .u64 67092481) (.int .u64 549688705024) (.int .u64 4503049871556608))
  go_wp2_with fail
  generalize (((W4.setCell ⟨p0, 0, none⟩ (.int .u64 16382)).setCell ⟨p0, 1, none⟩ (.int .u64 67092481)).setCell ⟨p0, 2, none⟩ (.int .u64 549688705024)).setCell ⟨p0, 3, none⟩ (.int .u64 4503049871556608) = W5 at *
  clear x0 x1 x2 x3 y0 y1 y2 y3 g0 g1 g2 g3
  have x0 := HZ.out.cell (j := 0) (v := .int .u64 16382) rfl
  have x1 := HZ.out.cell (j := 1) (v := .int .u64 67092481) rfl
  have x2 := HZ.out.cell (j := 2) (v := .int .u64 549688705024) rfl
  have x3 := HZ.out.cell (j := 3) (v := .int .u64 4503049871556608) rfl
  (try simp only [Exit.inBlock, Exit.then])
  refine bodyPost_ret (by simp [results, Tryz.results17, go_sem, x0, x1, x2, x3]; try rfl) rfl ?_
  exact ⟨rfl, by rw [hp0]; exact HBZ.out⟩
end Go.Proofs.YtaadipccgckehaaGreatDoor
