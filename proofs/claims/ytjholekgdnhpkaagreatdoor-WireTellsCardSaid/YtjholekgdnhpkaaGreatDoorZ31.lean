/- Texts of the proof, laid together: PartRef. -/
import Derived.Deep.Draws
import Derived.Deep.RegionHeld
import Derived.Laws.BitsAllLaws
import Derived.Laws.CopyRow
import Derived.Laws.Externs
import Derived.Laws.ResultCell
import Derived.Laws.Rows
import Derived.Laws.StructEq
import Derived.Lib.Bytealg
import Derived.Lib.Hide
import Derived.LoopIn
import Derived.LoopNIn
import Derived.MapKept
import Derived.OrdersHeld
import Derived.OwnWalkIn
import Derived.RangeFuncBound
import Derived.RangeFuncCalls
import Derived.RangeFuncLeaves
import Derived.RangeFuncNested
import Derived.TacticsInMore
import Derived.WalkKit
import Derived.WalkLawsBesides
import Derived.WalkSpells
import Derived.Test.YtjholekgdnhpkaaGreatDoorZ30
import Derived.Test.YtjholekgdnhpkaaGreatDoorZ1
set_option linter.unusedVariables false
set_option linter.unusedSimpArgs false
set_option linter.unusedSectionVars false
namespace Go.Proofs.YtjholekgdnhpkaaGreatDoor
open Go.RowKit
attribute [local go_sem] Oper.semAt_some
def Pt.same (a b : Pt) : Bool := (a.lo == b.lo) && (a.hi == b.hi) && (a.count == b.count) && (a.sum == b.sum)
theorem Pt.same_iff (a b : Pt) : a.same b = true ↔ a = b := by
 obtain ⟨a1, a2, a3, a4⟩ := a
 obtain ⟨b1, b2, b3, b4⟩ := b
 simp only [Pt.same, Bool.and_eq_true, beq_iff_eq, Pt.mk.injEq]
 constructor
 ·
  rintro ⟨⟨⟨h1, h2⟩, h3⟩, h4⟩; exact ⟨h1, h2, h3, h4⟩
 ·
  rintro ⟨h1, h2, h3, h4⟩; exact ⟨⟨⟨h1, h2⟩, h3⟩, h4⟩
theorem pc0 (p : PtV) : p.cells[0]? = some (.slice p.la p.x.lo.length p.lc) := by simp [PtV.cells]
theorem pc1 (p : PtV) : p.cells[1]? = some (.slice p.ha p.x.hi.length p.hc) := by simp [PtV.cells]
theorem pc2 (p : PtV) : p.cells[2]? = some (.int .i64 p.x.count) := by simp [PtV.cells]
theorem pc3 (p : PtV) (j : Nat) : p.cells[3 + j]? = (bvs p.x.sum).toArray[j]? := by
 unfold PtV.cells
 rw [Array.getElem?_append_right (by simp)]
 congr 1
 simp
theorem eqArr10 (x y : List UInt8) (w : World) (hx : x.length = 32) (hy : y.length = 32) : (Op.equalIn 10000 26 (.agg (bvs x).toArray) (.agg (bvs y).toArray)).run Tryz.prog w = .ok (x == y) w := by
 rw [show (10000 : Nat) = 9998 + 2 from rfl, run_eqArr x y w 9998 _ Tryz.underlying26 hx hy]
theorem sInfo (z : List UInt8) (h : z.length = 32) : (Tryz.prog.info? 26).map (·.size) = some (bvs z).toArray.size := by rw [List.size_toArray, bvs_len, h]; kernel_rfl
set_option maxRecDepth 100000 in
set_option maxHeartbeats 1000000 in
theorem psame_0 (p q : PtV) (w : World) (hp : p.In w) (hq : q.In w)  (h0 : (p.x.lo == q.x.lo) = false) :
  Calls Tryz.prog 53 #[.agg p.cells, .agg q.cells] w fun e w' => e = .returned (.bool false) ∧ Below w.heap.size w w' := by
 have hE : Ext w ((w.alloc (.cells p.cells 36)).alloc (.cells q.cells 36)) := Ext.tr (Ext.alloc _ _) (Ext.alloc _ _)
 have g0 : ((w.alloc (.cells p.cells 36)).alloc (.cells q.cells 36)).heap[w.heap.size]? = some (.cells p.cells 36 (0, 0)) := ((Ext.alloc _ _).block _ (lt_of_heap (heap_alloc_new w _))).trans (heap_alloc_new w _)
 have k0 : ((w.alloc (.cells p.cells 36)).alloc (.cells q.cells 36)).heap[w.heap.size + 1]? = some (.cells q.cells 36 (0, 0)) := by simpa using heap_alloc_new (w.alloc (.cells p.cells 36)) (.cells q.cells 36)
 have cp0 : ((w.alloc (.cells p.cells 36)).alloc (.cells q.cells 36)).cell? ⟨w.heap.size, 0, none⟩ = some (.slice p.la p.x.lo.length p.lc) := (cell_of_row _ _ 0 _ _ _ g0).trans (pc0 p)
 have cp1 : ((w.alloc (.cells p.cells 36)).alloc (.cells q.cells 36)).cell? ⟨w.heap.size, 1, none⟩ = some (.slice p.ha p.x.hi.length p.hc) := (cell_of_row _ _ 1 _ _ _ g0).trans (pc1 p)
 have cp2 : ((w.alloc (.cells p.cells 36)).alloc (.cells q.cells 36)).cell? ⟨w.heap.size, 2, none⟩ = some (.int .i64 p.x.count) := (cell_of_row _ _ 2 _ _ _ g0).trans (pc2 p)
 have cq0 : ((w.alloc (.cells p.cells 36)).alloc (.cells q.cells 36)).cell? ⟨w.heap.size + 1, 0, none⟩ = some (.slice q.la q.x.lo.length q.lc) := (cell_of_row _ _ 0 _ _ _ k0).trans (pc0 q)
 have cq1 : ((w.alloc (.cells p.cells 36)).alloc (.cells q.cells 36)).cell? ⟨w.heap.size + 1, 1, none⟩ = some (.slice q.ha q.x.hi.length q.hc) := (cell_of_row _ _ 1 _ _ _ k0).trans (pc1 q)
 have cq2 : ((w.alloc (.cells p.cells 36)).alloc (.cells q.cells 36)).cell? ⟨w.heap.size + 1, 2, none⟩ = some (.int .i64 q.x.count) := (cell_of_row _ _ 2 _ _ _ k0).trans (pc2 q)
 have e0 := equal_any p.la q.la p.x.lo q.x.lo p.lc q.lc ((w.alloc (.cells p.cells 36)).alloc (.cells q.cells 36)) (hp.lr.below hE) (hq.lr.below hE)
 have e1 := equal_any p.ha q.ha p.x.hi q.x.hi p.hc q.hc ((w.alloc (.cells p.cells 36)).alloc (.cells q.cells 36)) (hp.hr.below hE) (hq.hr.below hE)
 rw [h0] at e0
 have E0 := Lib.hid e0
 have E1 := Lib.hid e1
 have HE := Lib.hid hE
 clear e0 e1 h0 hE g0 k0
 go_enter Tryz.func53, Tryz.ntmps53
 go_wp2_with fail
 refine E0.out.mono ?_
 rintro e w' ⟨rfl, rfl⟩
 go_wp2_with fail
 go_ret
 exact ⟨rfl, HE.out⟩
set_option maxRecDepth 100000 in
set_option maxHeartbeats 1000000 in
theorem psame_1 (p q : PtV) (w : World) (hp : p.In w) (hq : q.In w) (h0 : (p.x.lo == q.x.lo) = true) (h1 : (p.x.hi == q.x.hi) = false) :
  Calls Tryz.prog 53 #[.agg p.cells, .agg q.cells] w fun e w' => e = .returned (.bool false) ∧ Below w.heap.size w w' := by
 have hE : Ext w ((w.alloc (.cells p.cells 36)).alloc (.cells q.cells 36)) := Ext.tr (Ext.alloc _ _) (Ext.alloc _ _)
 have g0 : ((w.alloc (.cells p.cells 36)).alloc (.cells q.cells 36)).heap[w.heap.size]? = some (.cells p.cells 36 (0, 0)) := ((Ext.alloc _ _).block _ (lt_of_heap (heap_alloc_new w _))).trans (heap_alloc_new w _)
 have k0 : ((w.alloc (.cells p.cells 36)).alloc (.cells q.cells 36)).heap[w.heap.size + 1]? = some (.cells q.cells 36 (0, 0)) := by simpa using heap_alloc_new (w.alloc (.cells p.cells 36)) (.cells q.cells 36)
 have cp0 : ((w.alloc (.cells p.cells 36)).alloc (.cells q.cells 36)).cell? ⟨w.heap.size, 0, none⟩ = some (.slice p.la p.x.lo.length p.lc) := (cell_of_row _ _ 0 _ _ _ g0).trans (pc0 p)
 have cp1 : ((w.alloc (.cells p.cells 36)).alloc (.cells q.cells 36)).cell? ⟨w.heap.size, 1, none⟩ = some (.slice p.ha p.x.hi.length p.hc) := (cell_of_row _ _ 1 _ _ _ g0).trans (pc1 p)
 have cp2 : ((w.alloc (.cells p.cells 36)).alloc (.cells q.cells 36)).cell? ⟨w.heap.size, 2, none⟩ = some (.int .i64 p.x.count) := (cell_of_row _ _ 2 _ _ _ g0).trans (pc2 p)
 have cq0 : ((w.alloc (.cells p.cells 36)).alloc (.cells q.cells 36)).cell? ⟨w.heap.size + 1, 0, none⟩ = some (.slice q.la q.x.lo.length q.lc) := (cell_of_row _ _ 0 _ _ _ k0).trans (pc0 q)
 have cq1 : ((w.alloc (.cells p.cells 36)).alloc (.cells q.cells 36)).cell? ⟨w.heap.size + 1, 1, none⟩ = some (.slice q.ha q.x.hi.length q.hc) := (cell_of_row _ _ 1 _ _ _ k0).trans (pc1 q)
 have cq2 : ((w.alloc (.cells p.cells 36)).alloc (.cells q.cells 36)).cell? ⟨w.heap.size + 1, 2, none⟩ = some (.int .i64 q.x.count) := (cell_of_row _ _ 2 _ _ _ k0).trans (pc2 q)
 have e0 := equal_any p.la q.la p.x.lo q.x.lo p.lc q.lc ((w.alloc (.cells p.cells 36)).alloc (.cells q.cells 36)) (hp.lr.below hE) (hq.lr.below hE)
 have e1 := equal_any p.ha q.ha p.x.hi q.x.hi p.hc q.hc ((w.alloc (.cells p.cells 36)).alloc (.cells q.cells 36)) (hp.hr.below hE) (hq.hr.below hE)
 rw [h0] at e0
 rw [h1] at e1
 clear h1
 have E0 := Lib.hid e0
 have E1 := Lib.hid e1
 have HE := Lib.hid hE
 clear e0 e1 h0 hE g0 k0
 go_enter Tryz.func53, Tryz.ntmps53
 go_wp2_with fail
 refine E0.out.mono ?_
 rintro e w' ⟨rfl, rfl⟩
 go_wp2_with fail
 refine E1.out.mono ?_
 rintro e w' ⟨rfl, rfl⟩
 go_wp2_with fail
 go_ret
 exact ⟨rfl, HE.out⟩
set_option maxRecDepth 100000 in
set_option maxHeartbeats 1000000 in
theorem psame_2 (p q : PtV) (w : World) (hp : p.In w) (hq : q.In w) (h0 : (p.x.lo == q.x.lo) = true) (h1 : (p.x.hi == q.x.hi) = true) (h2 : (p.x.count == q.x.count) = false) :
  Calls Tryz.prog 53 #[.agg p.cells, .agg q.cells] w fun e w' => e = .returned (.bool false) ∧ Below w.heap.size w w' := by
 have hE : Ext w ((w.alloc (.cells p.cells 36)).alloc (.cells q.cells 36)) := Ext.tr (Ext.alloc _ _) (Ext.alloc _ _)
 have g0 : ((w.alloc (.cells p.cells 36)).alloc (.cells q.cells 36)).heap[w.heap.size]? = some (.cells p.cells 36 (0, 0)) := ((Ext.alloc _ _).block _ (lt_of_heap (heap_alloc_new w _))).trans (heap_alloc_new w _)
 have k0 : ((w.alloc (.cells p.cells 36)).alloc (.cells q.cells 36)).heap[w.heap.size + 1]? = some (.cells q.cells 36 (0, 0)) := by simpa using heap_alloc_new (w.alloc (.cells p.cells 36)) (.cells q.cells 36)
 have cp0 : ((w.alloc (.cells p.cells 36)).alloc (.cells q.cells 36)).cell? ⟨w.heap.size, 0, none⟩ = some (.slice p.la p.x.lo.length p.lc) := (cell_of_row _ _ 0 _ _ _ g0).trans (pc0 p)
 have cp1 : ((w.alloc (.cells p.cells 36)).alloc (.cells q.cells 36)).cell? ⟨w.heap.size, 1, none⟩ = some (.slice p.ha p.x.hi.length p.hc) := (cell_of_row _ _ 1 _ _ _ g0).trans (pc1 p)
 have cp2 : ((w.alloc (.cells p.cells 36)).alloc (.cells q.cells 36)).cell? ⟨w.heap.size, 2, none⟩ = some (.int .i64 p.x.count) := (cell_of_row _ _ 2 _ _ _ g0).trans (pc2 p)
 have cq0 : ((w.alloc (.cells p.cells 36)).alloc (.cells q.cells 36)).cell? ⟨w.heap.size + 1, 0, none⟩ = some (.slice q.la q.x.lo.length q.lc) := (cell_of_row _ _ 0 _ _ _ k0).trans (pc0 q)
 have cq1 : ((w.alloc (.cells p.cells 36)).alloc (.cells q.cells 36)).cell? ⟨w.heap.size + 1, 1, none⟩ = some (.slice q.ha q.x.hi.length q.hc) := (cell_of_row _ _ 1 _ _ _ k0).trans (pc1 q)
 have cq2 : ((w.alloc (.cells p.cells 36)).alloc (.cells q.cells 36)).cell? ⟨w.heap.size + 1, 2, none⟩ = some (.int .i64 q.x.count) := (cell_of_row _ _ 2 _ _ _ k0).trans (pc2 q)
 have e0 := equal_any p.la q.la p.x.lo q.x.lo p.lc q.lc ((w.alloc (.cells p.cells 36)).alloc (.cells q.cells 36)) (hp.lr.below hE) (hq.lr.below hE)
 have e1 := equal_any p.ha q.ha p.x.hi q.x.hi p.hc q.hc ((w.alloc (.cells p.cells 36)).alloc (.cells q.cells 36)) (hp.hr.below hE) (hq.hr.below hE)
 rw [h0] at e0
 rw [h1] at e1
 clear h1
 have E0 := Lib.hid e0
 have E1 := Lib.hid e1
 have HE := Lib.hid hE
 clear e0 e1 h0 hE g0 k0
 go_enter Tryz.func53, Tryz.ntmps53
 go_wp2_with fail
 refine E0.out.mono ?_
 rintro e w' ⟨rfl, rfl⟩
 go_wp2_with fail
 refine E1.out.mono ?_
 rintro e w' ⟨rfl, rfl⟩
 go_wp2_with fail
 go_ret
 exact ⟨rfl, HE.out⟩
set_option maxRecDepth 100000 in
set_option maxHeartbeats 1000000 in
theorem psame_3 (p q : PtV) (w : World) (hp : p.In w) (hq : q.In w) (h0 : (p.x.lo == q.x.lo) = true) (h1 : (p.x.hi == q.x.hi) = true) (h2 : (p.x.count == q.x.count) = true) (h3 : (p.x.sum == q.x.sum) = false) :
  Calls Tryz.prog 53 #[.agg p.cells, .agg q.cells] w fun e w' => e = .returned (.bool false) ∧ Below w.heap.size w w' := by
 have hE : Ext w ((w.alloc (.cells p.cells 36)).alloc (.cells q.cells 36)) := Ext.tr (Ext.alloc _ _) (Ext.alloc _ _)
 have g0 : ((w.alloc (.cells p.cells 36)).alloc (.cells q.cells 36)).heap[w.heap.size]? = some (.cells p.cells 36 (0, 0)) := ((Ext.alloc _ _).block _ (lt_of_heap (heap_alloc_new w _))).trans (heap_alloc_new w _)
 have k0 : ((w.alloc (.cells p.cells 36)).alloc (.cells q.cells 36)).heap[w.heap.size + 1]? = some (.cells q.cells 36 (0, 0)) := by simpa using heap_alloc_new (w.alloc (.cells p.cells 36)) (.cells q.cells 36)
 have cp0 : ((w.alloc (.cells p.cells 36)).alloc (.cells q.cells 36)).cell? ⟨w.heap.size, 0, none⟩ = some (.slice p.la p.x.lo.length p.lc) := (cell_of_row _ _ 0 _ _ _ g0).trans (pc0 p)
 have cp1 : ((w.alloc (.cells p.cells 36)).alloc (.cells q.cells 36)).cell? ⟨w.heap.size, 1, none⟩ = some (.slice p.ha p.x.hi.length p.hc) := (cell_of_row _ _ 1 _ _ _ g0).trans (pc1 p)
 have cp2 : ((w.alloc (.cells p.cells 36)).alloc (.cells q.cells 36)).cell? ⟨w.heap.size, 2, none⟩ = some (.int .i64 p.x.count) := (cell_of_row _ _ 2 _ _ _ g0).trans (pc2 p)
 have cq0 : ((w.alloc (.cells p.cells 36)).alloc (.cells q.cells 36)).cell? ⟨w.heap.size + 1, 0, none⟩ = some (.slice q.la q.x.lo.length q.lc) := (cell_of_row _ _ 0 _ _ _ k0).trans (pc0 q)
 have cq1 : ((w.alloc (.cells p.cells 36)).alloc (.cells q.cells 36)).cell? ⟨w.heap.size + 1, 1, none⟩ = some (.slice q.ha q.x.hi.length q.hc) := (cell_of_row _ _ 1 _ _ _ k0).trans (pc1 q)
 have cq2 : ((w.alloc (.cells p.cells 36)).alloc (.cells q.cells 36)).cell? ⟨w.heap.size + 1, 2, none⟩ = some (.int .i64 q.x.count) := (cell_of_row _ _ 2 _ _ _ k0).trans (pc2 q)
 have hs1 : ∀ i u, ((bvs p.x.sum).toArray)[i]? = some u → ((w.alloc (.cells p.cells 36)).alloc (.cells q.cells 36)).cell? ((⟨w.heap.size, 3, none⟩ : Addr).add i) = some u := fun i u hi => by
  rw [Addr.add_lit, cell_of_row _ _ _ _ _ _ g0, pc3]; exact hi
 have hs2 : ∀ i u, ((bvs q.x.sum).toArray)[i]? = some u → ((w.alloc (.cells p.cells 36)).alloc (.cells q.cells 36)).cell? ((⟨w.heap.size + 1, 3, none⟩ : Addr).add i) = some u := fun i u hi => by
  rw [Addr.add_lit, cell_of_row _ _ _ _ _ _ k0, pc3]; exact hi
 have HS1 := Lib.hid hs1
 have HS2 := Lib.hid hs2
 have hrun := eqArr10 p.x.sum q.x.sum ((w.alloc (.cells p.cells 36)).alloc (.cells q.cells 36)) hp.sum hq.sum
 rw [h3] at hrun
 have Hrun := Lib.hid hrun
 have hi1 := sInfo _ hp.sum
 have hi2 := sInfo _ hq.sum
 clear hs1 hs2 h3 hrun
 have e0 := equal_any p.la q.la p.x.lo q.x.lo p.lc q.lc ((w.alloc (.cells p.cells 36)).alloc (.cells q.cells 36)) (hp.lr.below hE) (hq.lr.below hE)
 have e1 := equal_any p.ha q.ha p.x.hi q.x.hi p.hc q.hc ((w.alloc (.cells p.cells 36)).alloc (.cells q.cells 36)) (hp.hr.below hE) (hq.hr.below hE)
 rw [h0] at e0
 rw [h1] at e1
 clear h1
 have E0 := Lib.hid e0
 have E1 := Lib.hid e1
 have HE := Lib.hid hE
 clear e0 e1 h0 hE g0 k0
 go_enter Tryz.func53, Tryz.ntmps53
 go_wp2_with fail
 refine E0.out.mono ?_
 rintro e w' ⟨rfl, rfl⟩
 go_wp2_with fail
 refine E1.out.mono ?_
 rintro e w' ⟨rfl, rfl⟩
 go_wp2_with (first | (have hcx := HS1.out; refine wpList_load_cells rfl 26 (.tmp 25) rfl _ rfl (bvs p.x.sum).toArray _ hcx Tryz.underlying26 rfl hi1 ?_; clear hcx) | (have hcx := HS2.out; refine wpList_load_cells rfl 26 (.tmp 27) rfl _ rfl (bvs q.x.sum).toArray _ hcx Tryz.underlying26 rfl hi2 ?_; clear hcx; have hrun := Hrun.out))
 go_ret
 exact ⟨rfl, HE.out⟩
set_option maxRecDepth 100000 in
set_option maxHeartbeats 1000000 in
theorem psame_4 (p q : PtV) (w : World) (hp : p.In w) (hq : q.In w) (h0 : (p.x.lo == q.x.lo) = true) (h1 : (p.x.hi == q.x.hi) = true) (h2 : (p.x.count == q.x.count) = true) (h3 : (p.x.sum == q.x.sum) = true) :
  Calls Tryz.prog 53 #[.agg p.cells, .agg q.cells] w fun e w' => e = .returned (.bool true) ∧ Below w.heap.size w w' := by
 have hE : Ext w ((w.alloc (.cells p.cells 36)).alloc (.cells q.cells 36)) := Ext.tr (Ext.alloc _ _) (Ext.alloc _ _)
 have g0 : ((w.alloc (.cells p.cells 36)).alloc (.cells q.cells 36)).heap[w.heap.size]? = some (.cells p.cells 36 (0, 0)) := ((Ext.alloc _ _).block _ (lt_of_heap (heap_alloc_new w _))).trans (heap_alloc_new w _)
 have k0 : ((w.alloc (.cells p.cells 36)).alloc (.cells q.cells 36)).heap[w.heap.size + 1]? = some (.cells q.cells 36 (0, 0)) := by simpa using heap_alloc_new (w.alloc (.cells p.cells 36)) (.cells q.cells 36)
 have cp0 : ((w.alloc (.cells p.cells 36)).alloc (.cells q.cells 36)).cell? ⟨w.heap.size, 0, none⟩ = some (.slice p.la p.x.lo.length p.lc) := (cell_of_row _ _ 0 _ _ _ g0).trans (pc0 p)
 have cp1 : ((w.alloc (.cells p.cells 36)).alloc (.cells q.cells 36)).cell? ⟨w.heap.size, 1, none⟩ = some (.slice p.ha p.x.hi.length p.hc) := (cell_of_row _ _ 1 _ _ _ g0).trans (pc1 p)
 have cp2 : ((w.alloc (.cells p.cells 36)).alloc (.cells q.cells 36)).cell? ⟨w.heap.size, 2, none⟩ = some (.int .i64 p.x.count) := (cell_of_row _ _ 2 _ _ _ g0).trans (pc2 p)
 have cq0 : ((w.alloc (.cells p.cells 36)).alloc (.cells q.cells 36)).cell? ⟨w.heap.size + 1, 0, none⟩ = some (.slice q.la q.x.lo.length q.lc) := (cell_of_row _ _ 0 _ _ _ k0).trans (pc0 q)
 have cq1 : ((w.alloc (.cells p.cells 36)).alloc (.cells q.cells 36)).cell? ⟨w.heap.size + 1, 1, none⟩ = some (.slice q.ha q.x.hi.length q.hc) := (cell_of_row _ _ 1 _ _ _ k0).trans (pc1 q)
 have cq2 : ((w.alloc (.cells p.cells 36)).alloc (.cells q.cells 36)).cell? ⟨w.heap.size + 1, 2, none⟩ = some (.int .i64 q.x.count) := (cell_of_row _ _ 2 _ _ _ k0).trans (pc2 q)
 have hs1 : ∀ i u, ((bvs p.x.sum).toArray)[i]? = some u → ((w.alloc (.cells p.cells 36)).alloc (.cells q.cells 36)).cell? ((⟨w.heap.size, 3, none⟩ : Addr).add i) = some u := fun i u hi => by
  rw [Addr.add_lit, cell_of_row _ _ _ _ _ _ g0, pc3]; exact hi
 have hs2 : ∀ i u, ((bvs q.x.sum).toArray)[i]? = some u → ((w.alloc (.cells p.cells 36)).alloc (.cells q.cells 36)).cell? ((⟨w.heap.size + 1, 3, none⟩ : Addr).add i) = some u := fun i u hi => by
  rw [Addr.add_lit, cell_of_row _ _ _ _ _ _ k0, pc3]; exact hi
 have HS1 := Lib.hid hs1
 have HS2 := Lib.hid hs2
 have hrun := eqArr10 p.x.sum q.x.sum ((w.alloc (.cells p.cells 36)).alloc (.cells q.cells 36)) hp.sum hq.sum
 rw [h3] at hrun
 have Hrun := Lib.hid hrun
 have hi1 := sInfo _ hp.sum
 have hi2 := sInfo _ hq.sum
 clear hs1 hs2 h3 hrun
 have e0 := equal_any p.la q.la p.x.lo q.x.lo p.lc q.lc ((w.alloc (.cells p.cells 36)).alloc (.cells q.cells 36)) (hp.lr.below hE) (hq.lr.below hE)
 have e1 := equal_any p.ha q.ha p.x.hi q.x.hi p.hc q.hc ((w.alloc (.cells p.cells 36)).alloc (.cells q.cells 36)) (hp.hr.below hE) (hq.hr.below hE)
 rw [h0] at e0
 rw [h1] at e1
 clear h1
 have E0 := Lib.hid e0
 have E1 := Lib.hid e1
 have HE := Lib.hid hE
 clear e0 e1 h0 hE g0 k0
 go_enter Tryz.func53, Tryz.ntmps53
 go_wp2_with fail
 refine E0.out.mono ?_
 rintro e w' ⟨rfl, rfl⟩
 go_wp2_with fail
 refine E1.out.mono ?_
 rintro e w' ⟨rfl, rfl⟩
 go_wp2_with (first | (have hcx := HS1.out; refine wpList_load_cells rfl 26 (.tmp 25) rfl _ rfl (bvs p.x.sum).toArray _ hcx Tryz.underlying26 rfl hi1 ?_; clear hcx) | (have hcx := HS2.out; refine wpList_load_cells rfl 26 (.tmp 27) rfl _ rfl (bvs q.x.sum).toArray _ hcx Tryz.underlying26 rfl hi2 ?_; clear hcx; have hrun := Hrun.out))
 go_ret
 exact ⟨rfl, HE.out⟩
theorem samePart_any (p q : PtV) (w : World) (hp : p.In w) (hq : q.In w) : Calls Tryz.prog 53 #[p.val, q.val] w fun e w' => e = .returned (.bool (p.x.same q.x)) ∧ Below w.heap.size w w' := by
 simp only [Pt.same, PtV.val]
 cases h0 : (p.x.lo == q.x.lo) with
 | false =>
  simp only [Bool.true_and, Bool.and_false, Bool.false_and, Bool.and_self]
  exact psame_0 p q w hp hq h0
 | true =>
  cases h1 : (p.x.hi == q.x.hi) with
  | false =>
   simp only [Bool.true_and, Bool.and_false, Bool.false_and, Bool.and_self]
   exact psame_1 p q w hp hq h0 h1
  | true =>
   cases h2 : (p.x.count == q.x.count) with
   | false =>
    simp only [Bool.true_and, Bool.and_false, Bool.false_and, Bool.and_self]
    exact psame_2 p q w hp hq h0 h1 h2
   | true =>
    cases h3 : (p.x.sum == q.x.sum) with
    | false =>
     simp only [Bool.true_and, Bool.and_false, Bool.false_and, Bool.and_self]
     exact psame_3 p q w hp hq h0 h1 h2 h3
    | true =>
     simp only [Bool.and_self]
     exact psame_4 p q w hp hq h0 h1 h2 h3
set_option maxRecDepth 100000 in
set_option maxHeartbeats 1000000 in
theorem refpsame_0 (p q : PtV) (w : World) (hp : p.In w) (hq : q.In w)  (h0 : (p.x.lo == q.x.lo) = false) :
  Calls Tryz.prog 29 #[.agg p.cells, .agg q.cells] w fun e w' => e = .returned (.bool false) ∧ Below w.heap.size w w' := by
 have hE : Ext w ((w.alloc (.cells p.cells 36)).alloc (.cells q.cells 36)) := Ext.tr (Ext.alloc _ _) (Ext.alloc _ _)
 have g0 : ((w.alloc (.cells p.cells 36)).alloc (.cells q.cells 36)).heap[w.heap.size]? = some (.cells p.cells 36 (0, 0)) := ((Ext.alloc _ _).block _ (lt_of_heap (heap_alloc_new w _))).trans (heap_alloc_new w _)
 have k0 : ((w.alloc (.cells p.cells 36)).alloc (.cells q.cells 36)).heap[w.heap.size + 1]? = some (.cells q.cells 36 (0, 0)) := by simpa using heap_alloc_new (w.alloc (.cells p.cells 36)) (.cells q.cells 36)
 have cp0 : ((w.alloc (.cells p.cells 36)).alloc (.cells q.cells 36)).cell? ⟨w.heap.size, 0, none⟩ = some (.slice p.la p.x.lo.length p.lc) := (cell_of_row _ _ 0 _ _ _ g0).trans (pc0 p)
 have cp1 : ((w.alloc (.cells p.cells 36)).alloc (.cells q.cells 36)).cell? ⟨w.heap.size, 1, none⟩ = some (.slice p.ha p.x.hi.length p.hc) := (cell_of_row _ _ 1 _ _ _ g0).trans (pc1 p)
 have cp2 : ((w.alloc (.cells p.cells 36)).alloc (.cells q.cells 36)).cell? ⟨w.heap.size, 2, none⟩ = some (.int .i64 p.x.count) := (cell_of_row _ _ 2 _ _ _ g0).trans (pc2 p)
 have cq0 : ((w.alloc (.cells p.cells 36)).alloc (.cells q.cells 36)).cell? ⟨w.heap.size + 1, 0, none⟩ = some (.slice q.la q.x.lo.length q.lc) := (cell_of_row _ _ 0 _ _ _ k0).trans (pc0 q)
 have cq1 : ((w.alloc (.cells p.cells 36)).alloc (.cells q.cells 36)).cell? ⟨w.heap.size + 1, 1, none⟩ = some (.slice q.ha q.x.hi.length q.hc) := (cell_of_row _ _ 1 _ _ _ k0).trans (pc1 q)
 have cq2 : ((w.alloc (.cells p.cells 36)).alloc (.cells q.cells 36)).cell? ⟨w.heap.size + 1, 2, none⟩ = some (.int .i64 q.x.count) := (cell_of_row _ _ 2 _ _ _ k0).trans (pc2 q)
 have r0 := run_str ((w.alloc (.cells p.cells 36)).alloc (.cells q.cells 36)) 23 9 5 p.la p.x.lo p.lc Tryz.underlying23 Tryz.underlying5 Tryz.underlying9 (hp.lr.below hE) p.x.lo.length rfl
 have r1 := run_str ((w.alloc (.cells p.cells 36)).alloc (.cells q.cells 36)) 23 9 5 q.la q.x.lo q.lc Tryz.underlying23 Tryz.underlying5 Tryz.underlying9 (hq.lr.below hE) q.x.lo.length rfl
 have r2 := run_str ((w.alloc (.cells p.cells 36)).alloc (.cells q.cells 36)) 23 9 5 p.ha p.x.hi p.hc Tryz.underlying23 Tryz.underlying5 Tryz.underlying9 (hp.hr.below hE) p.x.hi.length rfl
 have r3 := run_str ((w.alloc (.cells p.cells 36)).alloc (.cells q.cells 36)) 23 9 5 q.ha q.x.hi q.hc Tryz.underlying23 Tryz.underlying5 Tryz.underlying9 (hq.hr.below hE) q.x.hi.length rfl
 have HE := Lib.hid hE
 clear hE g0 k0
 have n0 : ¬ p.x.lo = q.x.lo := by simpa using h0
 clear h0
 go_enter Tryz.func29, Tryz.ntmps29
 go_wp2_with fail
 go_ret
 exact ⟨rfl, HE.out⟩
set_option maxRecDepth 100000 in
set_option maxHeartbeats 1000000 in
theorem refpsame_1 (p q : PtV) (w : World) (hp : p.In w) (hq : q.In w) (h0 : (p.x.lo == q.x.lo) = true) (h1 : (p.x.hi == q.x.hi) = false) :
  Calls Tryz.prog 29 #[.agg p.cells, .agg q.cells] w fun e w' => e = .returned (.bool false) ∧ Below w.heap.size w w' := by
 have hE : Ext w ((w.alloc (.cells p.cells 36)).alloc (.cells q.cells 36)) := Ext.tr (Ext.alloc _ _) (Ext.alloc _ _)
 have g0 : ((w.alloc (.cells p.cells 36)).alloc (.cells q.cells 36)).heap[w.heap.size]? = some (.cells p.cells 36 (0, 0)) := ((Ext.alloc _ _).block _ (lt_of_heap (heap_alloc_new w _))).trans (heap_alloc_new w _)
 have k0 : ((w.alloc (.cells p.cells 36)).alloc (.cells q.cells 36)).heap[w.heap.size + 1]? = some (.cells q.cells 36 (0, 0)) := by simpa using heap_alloc_new (w.alloc (.cells p.cells 36)) (.cells q.cells 36)
 have cp0 : ((w.alloc (.cells p.cells 36)).alloc (.cells q.cells 36)).cell? ⟨w.heap.size, 0, none⟩ = some (.slice p.la p.x.lo.length p.lc) := (cell_of_row _ _ 0 _ _ _ g0).trans (pc0 p)
 have cp1 : ((w.alloc (.cells p.cells 36)).alloc (.cells q.cells 36)).cell? ⟨w.heap.size, 1, none⟩ = some (.slice p.ha p.x.hi.length p.hc) := (cell_of_row _ _ 1 _ _ _ g0).trans (pc1 p)
 have cp2 : ((w.alloc (.cells p.cells 36)).alloc (.cells q.cells 36)).cell? ⟨w.heap.size, 2, none⟩ = some (.int .i64 p.x.count) := (cell_of_row _ _ 2 _ _ _ g0).trans (pc2 p)
 have cq0 : ((w.alloc (.cells p.cells 36)).alloc (.cells q.cells 36)).cell? ⟨w.heap.size + 1, 0, none⟩ = some (.slice q.la q.x.lo.length q.lc) := (cell_of_row _ _ 0 _ _ _ k0).trans (pc0 q)
 have cq1 : ((w.alloc (.cells p.cells 36)).alloc (.cells q.cells 36)).cell? ⟨w.heap.size + 1, 1, none⟩ = some (.slice q.ha q.x.hi.length q.hc) := (cell_of_row _ _ 1 _ _ _ k0).trans (pc1 q)
 have cq2 : ((w.alloc (.cells p.cells 36)).alloc (.cells q.cells 36)).cell? ⟨w.heap.size + 1, 2, none⟩ = some (.int .i64 q.x.count) := (cell_of_row _ _ 2 _ _ _ k0).trans (pc2 q)
 have r0 := run_str ((w.alloc (.cells p.cells 36)).alloc (.cells q.cells 36)) 23 9 5 p.la p.x.lo p.lc Tryz.underlying23 Tryz.underlying5 Tryz.underlying9 (hp.lr.below hE) p.x.lo.length rfl
 have r1 := run_str ((w.alloc (.cells p.cells 36)).alloc (.cells q.cells 36)) 23 9 5 q.la q.x.lo q.lc Tryz.underlying23 Tryz.underlying5 Tryz.underlying9 (hq.lr.below hE) q.x.lo.length rfl
 have r2 := run_str ((w.alloc (.cells p.cells 36)).alloc (.cells q.cells 36)) 23 9 5 p.ha p.x.hi p.hc Tryz.underlying23 Tryz.underlying5 Tryz.underlying9 (hp.hr.below hE) p.x.hi.length rfl
 have r3 := run_str ((w.alloc (.cells p.cells 36)).alloc (.cells q.cells 36)) 23 9 5 q.ha q.x.hi q.hc Tryz.underlying23 Tryz.underlying5 Tryz.underlying9 (hq.hr.below hE) q.x.hi.length rfl
 have HE := Lib.hid hE
 clear hE g0 k0
 have n0 : p.x.lo = q.x.lo := by simpa using h0
 rw [n0] at cp0 r0
 clear h0 n0
 have n1 : ¬ p.x.hi = q.x.hi := by simpa using h1
 clear h1
 go_enter Tryz.func29, Tryz.ntmps29
 go_wp2_with fail
 go_ret
 exact ⟨rfl, HE.out⟩
set_option maxRecDepth 100000 in
set_option maxHeartbeats 1000000 in
theorem refpsame_2 (p q : PtV) (w : World) (hp : p.In w) (hq : q.In w) (h0 : (p.x.lo == q.x.lo) = true) (h1 : (p.x.hi == q.x.hi) = true) (h2 : (p.x.count == q.x.count) = false) :
  Calls Tryz.prog 29 #[.agg p.cells, .agg q.cells] w fun e w' => e = .returned (.bool false) ∧ Below w.heap.size w w' := by
 have hE : Ext w ((w.alloc (.cells p.cells 36)).alloc (.cells q.cells 36)) := Ext.tr (Ext.alloc _ _) (Ext.alloc _ _)
 have g0 : ((w.alloc (.cells p.cells 36)).alloc (.cells q.cells 36)).heap[w.heap.size]? = some (.cells p.cells 36 (0, 0)) := ((Ext.alloc _ _).block _ (lt_of_heap (heap_alloc_new w _))).trans (heap_alloc_new w _)
 have k0 : ((w.alloc (.cells p.cells 36)).alloc (.cells q.cells 36)).heap[w.heap.size + 1]? = some (.cells q.cells 36 (0, 0)) := by simpa using heap_alloc_new (w.alloc (.cells p.cells 36)) (.cells q.cells 36)
 have cp0 : ((w.alloc (.cells p.cells 36)).alloc (.cells q.cells 36)).cell? ⟨w.heap.size, 0, none⟩ = some (.slice p.la p.x.lo.length p.lc) := (cell_of_row _ _ 0 _ _ _ g0).trans (pc0 p)
 have cp1 : ((w.alloc (.cells p.cells 36)).alloc (.cells q.cells 36)).cell? ⟨w.heap.size, 1, none⟩ = some (.slice p.ha p.x.hi.length p.hc) := (cell_of_row _ _ 1 _ _ _ g0).trans (pc1 p)
 have cp2 : ((w.alloc (.cells p.cells 36)).alloc (.cells q.cells 36)).cell? ⟨w.heap.size, 2, none⟩ = some (.int .i64 p.x.count) := (cell_of_row _ _ 2 _ _ _ g0).trans (pc2 p)
 have cq0 : ((w.alloc (.cells p.cells 36)).alloc (.cells q.cells 36)).cell? ⟨w.heap.size + 1, 0, none⟩ = some (.slice q.la q.x.lo.length q.lc) := (cell_of_row _ _ 0 _ _ _ k0).trans (pc0 q)
 have cq1 : ((w.alloc (.cells p.cells 36)).alloc (.cells q.cells 36)).cell? ⟨w.heap.size + 1, 1, none⟩ = some (.slice q.ha q.x.hi.length q.hc) := (cell_of_row _ _ 1 _ _ _ k0).trans (pc1 q)
 have cq2 : ((w.alloc (.cells p.cells 36)).alloc (.cells q.cells 36)).cell? ⟨w.heap.size + 1, 2, none⟩ = some (.int .i64 q.x.count) := (cell_of_row _ _ 2 _ _ _ k0).trans (pc2 q)
 have r0 := run_str ((w.alloc (.cells p.cells 36)).alloc (.cells q.cells 36)) 23 9 5 p.la p.x.lo p.lc Tryz.underlying23 Tryz.underlying5 Tryz.underlying9 (hp.lr.below hE) p.x.lo.length rfl
 have r1 := run_str ((w.alloc (.cells p.cells 36)).alloc (.cells q.cells 36)) 23 9 5 q.la q.x.lo q.lc Tryz.underlying23 Tryz.underlying5 Tryz.underlying9 (hq.lr.below hE) q.x.lo.length rfl
 have r2 := run_str ((w.alloc (.cells p.cells 36)).alloc (.cells q.cells 36)) 23 9 5 p.ha p.x.hi p.hc Tryz.underlying23 Tryz.underlying5 Tryz.underlying9 (hp.hr.below hE) p.x.hi.length rfl
 have r3 := run_str ((w.alloc (.cells p.cells 36)).alloc (.cells q.cells 36)) 23 9 5 q.ha q.x.hi q.hc Tryz.underlying23 Tryz.underlying5 Tryz.underlying9 (hq.hr.below hE) q.x.hi.length rfl
 have HE := Lib.hid hE
 clear hE g0 k0
 have n0 : p.x.lo = q.x.lo := by simpa using h0
 rw [n0] at cp0 r0
 clear h0 n0
 have n1 : p.x.hi = q.x.hi := by simpa using h1
 rw [n1] at cp1 r2
 clear h1 n1
 go_enter Tryz.func29, Tryz.ntmps29
 go_wp2_with fail
 go_ret
 exact ⟨rfl, HE.out⟩
set_option maxRecDepth 100000 in
set_option maxHeartbeats 1000000 in
theorem refpsame_3 (p q : PtV) (w : World) (hp : p.In w) (hq : q.In w) (h0 : (p.x.lo == q.x.lo) = true) (h1 : (p.x.hi == q.x.hi) = true) (h2 : (p.x.count == q.x.count) = true) (h3 : (p.x.sum == q.x.sum) = false) :
  Calls Tryz.prog 29 #[.agg p.cells, .agg q.cells] w fun e w' => e = .returned (.bool false) ∧ Below w.heap.size w w' := by
 have hE : Ext w ((w.alloc (.cells p.cells 36)).alloc (.cells q.cells 36)) := Ext.tr (Ext.alloc _ _) (Ext.alloc _ _)
 have g0 : ((w.alloc (.cells p.cells 36)).alloc (.cells q.cells 36)).heap[w.heap.size]? = some (.cells p.cells 36 (0, 0)) := ((Ext.alloc _ _).block _ (lt_of_heap (heap_alloc_new w _))).trans (heap_alloc_new w _)
 have k0 : ((w.alloc (.cells p.cells 36)).alloc (.cells q.cells 36)).heap[w.heap.size + 1]? = some (.cells q.cells 36 (0, 0)) := by simpa using heap_alloc_new (w.alloc (.cells p.cells 36)) (.cells q.cells 36)
 have cp0 : ((w.alloc (.cells p.cells 36)).alloc (.cells q.cells 36)).cell? ⟨w.heap.size, 0, none⟩ = some (.slice p.la p.x.lo.length p.lc) := (cell_of_row _ _ 0 _ _ _ g0).trans (pc0 p)
 have cp1 : ((w.alloc (.cells p.cells 36)).alloc (.cells q.cells 36)).cell? ⟨w.heap.size, 1, none⟩ = some (.slice p.ha p.x.hi.length p.hc) := (cell_of_row _ _ 1 _ _ _ g0).trans (pc1 p)
 have cp2 : ((w.alloc (.cells p.cells 36)).alloc (.cells q.cells 36)).cell? ⟨w.heap.size, 2, none⟩ = some (.int .i64 p.x.count) := (cell_of_row _ _ 2 _ _ _ g0).trans (pc2 p)
 have cq0 : ((w.alloc (.cells p.cells 36)).alloc (.cells q.cells 36)).cell? ⟨w.heap.size + 1, 0, none⟩ = some (.slice q.la q.x.lo.length q.lc) := (cell_of_row _ _ 0 _ _ _ k0).trans (pc0 q)
 have cq1 : ((w.alloc (.cells p.cells 36)).alloc (.cells q.cells 36)).cell? ⟨w.heap.size + 1, 1, none⟩ = some (.slice q.ha q.x.hi.length q.hc) := (cell_of_row _ _ 1 _ _ _ k0).trans (pc1 q)
 have cq2 : ((w.alloc (.cells p.cells 36)).alloc (.cells q.cells 36)).cell? ⟨w.heap.size + 1, 2, none⟩ = some (.int .i64 q.x.count) := (cell_of_row _ _ 2 _ _ _ k0).trans (pc2 q)
 have hs1 : ∀ i u, ((bvs p.x.sum).toArray)[i]? = some u → ((w.alloc (.cells p.cells 36)).alloc (.cells q.cells 36)).cell? ((⟨w.heap.size, 3, none⟩ : Addr).add i) = some u := fun i u hi => by
  rw [Addr.add_lit, cell_of_row _ _ _ _ _ _ g0, pc3]; exact hi
 have hs2 : ∀ i u, ((bvs q.x.sum).toArray)[i]? = some u → ((w.alloc (.cells p.cells 36)).alloc (.cells q.cells 36)).cell? ((⟨w.heap.size + 1, 3, none⟩ : Addr).add i) = some u := fun i u hi => by
  rw [Addr.add_lit, cell_of_row _ _ _ _ _ _ k0, pc3]; exact hi
 have HS1 := Lib.hid hs1
 have HS2 := Lib.hid hs2
 have hrun := eqArr10 p.x.sum q.x.sum ((w.alloc (.cells p.cells 36)).alloc (.cells q.cells 36)) hp.sum hq.sum
 rw [h3] at hrun
 have Hrun := Lib.hid hrun
 have hi1 := sInfo _ hp.sum
 have hi2 := sInfo _ hq.sum
 clear hs1 hs2 h3 hrun
 have r0 := run_str ((w.alloc (.cells p.cells 36)).alloc (.cells q.cells 36)) 23 9 5 p.la p.x.lo p.lc Tryz.underlying23 Tryz.underlying5 Tryz.underlying9 (hp.lr.below hE) p.x.lo.length rfl
 have r1 := run_str ((w.alloc (.cells p.cells 36)).alloc (.cells q.cells 36)) 23 9 5 q.la q.x.lo q.lc Tryz.underlying23 Tryz.underlying5 Tryz.underlying9 (hq.lr.below hE) q.x.lo.length rfl
 have r2 := run_str ((w.alloc (.cells p.cells 36)).alloc (.cells q.cells 36)) 23 9 5 p.ha p.x.hi p.hc Tryz.underlying23 Tryz.underlying5 Tryz.underlying9 (hp.hr.below hE) p.x.hi.length rfl
 have r3 := run_str ((w.alloc (.cells p.cells 36)).alloc (.cells q.cells 36)) 23 9 5 q.ha q.x.hi q.hc Tryz.underlying23 Tryz.underlying5 Tryz.underlying9 (hq.hr.below hE) q.x.hi.length rfl
 have HE := Lib.hid hE
 clear hE g0 k0
 have n0 : p.x.lo = q.x.lo := by simpa using h0
 rw [n0] at cp0 r0
 clear h0 n0
 have n1 : p.x.hi = q.x.hi := by simpa using h1
 rw [n1] at cp1 r2
 clear h1 n1
 go_enter Tryz.func29, Tryz.ntmps29
 go_wp2_with (first | (have hcx := HS1.out; refine wpList_load_cells rfl 26 (.tmp 29) rfl _ rfl (bvs p.x.sum).toArray _ hcx Tryz.underlying26 rfl hi1 ?_; clear hcx) | (have hcx := HS2.out; refine wpList_load_cells rfl 26 (.tmp 31) rfl _ rfl (bvs q.x.sum).toArray _ hcx Tryz.underlying26 rfl hi2 ?_; clear hcx; have hrun := Hrun.out))
 go_ret
 exact ⟨rfl, HE.out⟩
set_option maxRecDepth 100000 in
set_option maxHeartbeats 1000000 in
theorem refpsame_4 (p q : PtV) (w : World) (hp : p.In w) (hq : q.In w) (h0 : (p.x.lo == q.x.lo) = true) (h1 : (p.x.hi == q.x.hi) = true) (h2 : (p.x.count == q.x.count) = true) (h3 : (p.x.sum == q.x.sum) = true) :
  Calls Tryz.prog 29 #[.agg p.cells, .agg q.cells] w fun e w' => e = .returned (.bool true) ∧ Below w.heap.size w w' := by
 have hE : Ext w ((w.alloc (.cells p.cells 36)).alloc (.cells q.cells 36)) := Ext.tr (Ext.alloc _ _) (Ext.alloc _ _)
 have g0 : ((w.alloc (.cells p.cells 36)).alloc (.cells q.cells 36)).heap[w.heap.size]? = some (.cells p.cells 36 (0, 0)) := ((Ext.alloc _ _).block _ (lt_of_heap (heap_alloc_new w _))).trans (heap_alloc_new w _)
 have k0 : ((w.alloc (.cells p.cells 36)).alloc (.cells q.cells 36)).heap[w.heap.size + 1]? = some (.cells q.cells 36 (0, 0)) := by simpa using heap_alloc_new (w.alloc (.cells p.cells 36)) (.cells q.cells 36)
 have cp0 : ((w.alloc (.cells p.cells 36)).alloc (.cells q.cells 36)).cell? ⟨w.heap.size, 0, none⟩ = some (.slice p.la p.x.lo.length p.lc) := (cell_of_row _ _ 0 _ _ _ g0).trans (pc0 p)
 have cp1 : ((w.alloc (.cells p.cells 36)).alloc (.cells q.cells 36)).cell? ⟨w.heap.size, 1, none⟩ = some (.slice p.ha p.x.hi.length p.hc) := (cell_of_row _ _ 1 _ _ _ g0).trans (pc1 p)
 have cp2 : ((w.alloc (.cells p.cells 36)).alloc (.cells q.cells 36)).cell? ⟨w.heap.size, 2, none⟩ = some (.int .i64 p.x.count) := (cell_of_row _ _ 2 _ _ _ g0).trans (pc2 p)
 have cq0 : ((w.alloc (.cells p.cells 36)).alloc (.cells q.cells 36)).cell? ⟨w.heap.size + 1, 0, none⟩ = some (.slice q.la q.x.lo.length q.lc) := (cell_of_row _ _ 0 _ _ _ k0).trans (pc0 q)
 have cq1 : ((w.alloc (.cells p.cells 36)).alloc (.cells q.cells 36)).cell? ⟨w.heap.size + 1, 1, none⟩ = some (.slice q.ha q.x.hi.length q.hc) := (cell_of_row _ _ 1 _ _ _ k0).trans (pc1 q)
 have cq2 : ((w.alloc (.cells p.cells 36)).alloc (.cells q.cells 36)).cell? ⟨w.heap.size + 1, 2, none⟩ = some (.int .i64 q.x.count) := (cell_of_row _ _ 2 _ _ _ k0).trans (pc2 q)
 have hs1 : ∀ i u, ((bvs p.x.sum).toArray)[i]? = some u → ((w.alloc (.cells p.cells 36)).alloc (.cells q.cells 36)).cell? ((⟨w.heap.size, 3, none⟩ : Addr).add i) = some u := fun i u hi => by
  rw [Addr.add_lit, cell_of_row _ _ _ _ _ _ g0, pc3]; exact hi
 have hs2 : ∀ i u, ((bvs q.x.sum).toArray)[i]? = some u → ((w.alloc (.cells p.cells 36)).alloc (.cells q.cells 36)).cell? ((⟨w.heap.size + 1, 3, none⟩ : Addr).add i) = some u := fun i u hi => by
  rw [Addr.add_lit, cell_of_row _ _ _ _ _ _ k0, pc3]; exact hi
 have HS1 := Lib.hid hs1
 have HS2 := Lib.hid hs2
 have hrun := eqArr10 p.x.sum q.x.sum ((w.alloc (.cells p.cells 36)).alloc (.cells q.cells 36)) hp.sum hq.sum
 rw [h3] at hrun
 have Hrun := Lib.hid hrun
 have hi1 := sInfo _ hp.sum
 have hi2 := sInfo _ hq.sum
 clear hs1 hs2 h3 hrun
 have r0 := run_str ((w.alloc (.cells p.cells 36)).alloc (.cells q.cells 36)) 23 9 5 p.la p.x.lo p.lc Tryz.underlying23 Tryz.underlying5 Tryz.underlying9 (hp.lr.below hE) p.x.lo.length rfl
 have r1 := run_str ((w.alloc (.cells p.cells 36)).alloc (.cells q.cells 36)) 23 9 5 q.la q.x.lo q.lc Tryz.underlying23 Tryz.underlying5 Tryz.underlying9 (hq.lr.below hE) q.x.lo.length rfl
 have r2 := run_str ((w.alloc (.cells p.cells 36)).alloc (.cells q.cells 36)) 23 9 5 p.ha p.x.hi p.hc Tryz.underlying23 Tryz.underlying5 Tryz.underlying9 (hp.hr.below hE) p.x.hi.length rfl
 have r3 := run_str ((w.alloc (.cells p.cells 36)).alloc (.cells q.cells 36)) 23 9 5 q.ha q.x.hi q.hc Tryz.underlying23 Tryz.underlying5 Tryz.underlying9 (hq.hr.below hE) q.x.hi.length rfl
 have HE := Lib.hid hE
 clear hE g0 k0
 have n0 : p.x.lo = q.x.lo := by simpa using h0
 rw [n0] at cp0 r0
 clear h0 n0
 have n1 : p.x.hi = q.x.hi := by simpa using h1
 rw [n1] at cp1 r2
 clear h1 n1
 go_enter Tryz.func29, Tryz.ntmps29
 go_wp2_with (first | (have hcx := HS1.out; refine wpList_load_cells rfl 26 (.tmp 29) rfl _ rfl (bvs p.x.sum).toArray _ hcx Tryz.underlying26 rfl hi1 ?_; clear hcx) | (have hcx := HS2.out; refine wpList_load_cells rfl 26 (.tmp 31) rfl _ rfl (bvs q.x.sum).toArray _ hcx Tryz.underlying26 rfl hi2 ?_; clear hcx; have hrun := Hrun.out))
 go_ret
 exact ⟨rfl, HE.out⟩
theorem ref_samePart (p q : PtV) (w : World) (hp : p.In w) (hq : q.In w) : Calls Tryz.prog 29 #[p.val, q.val] w fun e w' => e = .returned (.bool (p.x.same q.x)) ∧ Below w.heap.size w w' := by
 simp only [Pt.same, PtV.val]
 cases h0 : (p.x.lo == q.x.lo) with
 | false =>
  simp only [Bool.true_and, Bool.and_false, Bool.false_and, Bool.and_self]
  exact refpsame_0 p q w hp hq h0
 | true =>
  cases h1 : (p.x.hi == q.x.hi) with
  | false =>
   simp only [Bool.true_and, Bool.and_false, Bool.false_and, Bool.and_self]
   exact refpsame_1 p q w hp hq h0 h1
  | true =>
   cases h2 : (p.x.count == q.x.count) with
   | false =>
    simp only [Bool.true_and, Bool.and_false, Bool.false_and, Bool.and_self]
    exact refpsame_2 p q w hp hq h0 h1 h2
   | true =>
    cases h3 : (p.x.sum == q.x.sum) with
    | false =>
     simp only [Bool.true_and, Bool.and_false, Bool.false_and, Bool.and_self]
     exact refpsame_3 p q w hp hq h0 h1 h2 h3
    | true =>
     simp only [Bool.and_self]
     exact refpsame_4 p q w hp hq h0 h1 h2 h3
end Go.Proofs.YtjholekgdnhpkaaGreatDoor
