
/- Texts laid together by wip/tools/lay2.py: PartRef Parts. -/

import Derived.Test.YtjholekgdnhpkaaH3

import Derived.Test.YtjholekgdnhpkaaH1

import Derived.Great.BuildSlice

set_option linter.unusedVariables false

set_option linter.unusedSimpArgs false

set_option linter.unusedSectionVars false

/- Contracts: what is in a range, the document's (scowref17.PartOf); whether two parts are the same (SamePart of both). Printed by wip/tools/gen_part17.py. -/

namespace Go.Proofs.Ytjholekgdnhpkaa

open Go.RowKit

attribute [local go_sem] Oper.semAt_some
def Pt.same (a b : Pt) : Bool := (a.lo == b.lo) && (a.hi == b.hi) && (a.count == b.count) && (a.sum == b.sum)
theorem Pt.same_iff (a b : Pt) : a.same b = true ↔ a = b := by
 obtain ⟨a1, a2, a3, a4⟩ := a
 obtain ⟨b1, b2, b3, b4⟩ := b
 simp only [Pt.same, Bool.and_eq_true, beq_iff_eq, Pt.mk.injEq]
 constructor
 ·
  rintro ⟨⟨⟨h1, h2⟩, h3⟩, h4⟩; exact ⟨h1, h2, h3, h4⟩
 ·
  rintro ⟨h1, h2, h3, h4⟩; exact ⟨⟨⟨h1, h2⟩, h3⟩, h4⟩
theorem Pt.same_refl (a : Pt) : a.same a = true := (Pt.same_iff a a).2 rfl
theorem pc0 (p : PtV) : p.cells[0]? = some (.slice p.la p.x.lo.length p.lc) := by simp [PtV.cells]
theorem pc1 (p : PtV) : p.cells[1]? = some (.slice p.ha p.x.hi.length p.hc) := by simp [PtV.cells]
theorem pc2 (p : PtV) : p.cells[2]? = some (.int .i64 p.x.count) := by simp [PtV.cells]
theorem pc3 (p : PtV) (j : Nat) : p.cells[3 + j]? = (bvs p.x.sum).toArray[j]? := by
 unfold PtV.cells
 rw [Array.getElem?_append_right (by simp)]
 congr 1
 simp
theorem eqArr10 (x y : List UInt8) (w : World) (hx : x.length = 32) (hy : y.length = 32) : (Op.equalIn 10000 26 (.agg (bvs x).toArray) (.agg (bvs y).toArray)).run Try.prog w = .ok (x == y) w := by
 rw [show (10000 : Nat) = 9998 + 2 from rfl, run_eqArr x y w 9998 _ Try.underlying26 hx hy]
theorem sInfo (z : List UInt8) (h : z.length = 32) : (Try.prog.info? 26).map (·.size) = some (bvs z).toArray.size := by rw [List.size_toArray, bvs_len, h]; kernel_rfl

set_option maxRecDepth 100000 in
set_option maxHeartbeats 1000000 in
theorem psame_0 (p q : PtV) (w : World) (hp : p.In w) (hq : q.In w)  (h0 : (p.x.lo == q.x.lo) = false) :
  Calls Try.prog 54 #[.agg p.cells, .agg q.cells] w fun e w' => e = .returned (.bool false) ∧ Below w.heap.size w w' := by
 have hE : Ext w ((w.alloc (.cells p.cells 46)).alloc (.cells q.cells 46)) := Ext.tr (Ext.alloc _ _) (Ext.alloc _ _)
 have g0 : ((w.alloc (.cells p.cells 46)).alloc (.cells q.cells 46)).heap[w.heap.size]? = some (.cells p.cells 46 (0, 0)) := ((Ext.alloc _ _).block _ (lt_of_heap (heap_alloc_new w _))).trans (heap_alloc_new w _)
 have k0 : ((w.alloc (.cells p.cells 46)).alloc (.cells q.cells 46)).heap[w.heap.size + 1]? = some (.cells q.cells 46 (0, 0)) := by simpa using heap_alloc_new (w.alloc (.cells p.cells 46)) (.cells q.cells 46)
 have cp0 : ((w.alloc (.cells p.cells 46)).alloc (.cells q.cells 46)).cell? ⟨w.heap.size, 0, none⟩ = some (.slice p.la p.x.lo.length p.lc) := (cell_of_row _ _ 0 _ _ _ g0).trans (pc0 p)
 have cp1 : ((w.alloc (.cells p.cells 46)).alloc (.cells q.cells 46)).cell? ⟨w.heap.size, 1, none⟩ = some (.slice p.ha p.x.hi.length p.hc) := (cell_of_row _ _ 1 _ _ _ g0).trans (pc1 p)
 have cp2 : ((w.alloc (.cells p.cells 46)).alloc (.cells q.cells 46)).cell? ⟨w.heap.size, 2, none⟩ = some (.int .i64 p.x.count) := (cell_of_row _ _ 2 _ _ _ g0).trans (pc2 p)
 have cq0 : ((w.alloc (.cells p.cells 46)).alloc (.cells q.cells 46)).cell? ⟨w.heap.size + 1, 0, none⟩ = some (.slice q.la q.x.lo.length q.lc) := (cell_of_row _ _ 0 _ _ _ k0).trans (pc0 q)
 have cq1 : ((w.alloc (.cells p.cells 46)).alloc (.cells q.cells 46)).cell? ⟨w.heap.size + 1, 1, none⟩ = some (.slice q.ha q.x.hi.length q.hc) := (cell_of_row _ _ 1 _ _ _ k0).trans (pc1 q)
 have cq2 : ((w.alloc (.cells p.cells 46)).alloc (.cells q.cells 46)).cell? ⟨w.heap.size + 1, 2, none⟩ = some (.int .i64 q.x.count) := (cell_of_row _ _ 2 _ _ _ k0).trans (pc2 q)
 have e0 := equal_any p.la q.la p.x.lo q.x.lo p.lc q.lc ((w.alloc (.cells p.cells 46)).alloc (.cells q.cells 46)) (hp.lr.below hE) (hq.lr.below hE)
 have e1 := equal_any p.ha q.ha p.x.hi q.x.hi p.hc q.hc ((w.alloc (.cells p.cells 46)).alloc (.cells q.cells 46)) (hp.hr.below hE) (hq.hr.below hE)
 rw [h0] at e0
 have E0 := Lib.hid e0
 have E1 := Lib.hid e1
 have HE := Lib.hid hE
 clear e0 e1 h0 hE g0 k0
 go_enter Try.func54, Try.ntmps54
 go_wp2_with fail
 refine E0.out.mono ?_
 rintro e w' ⟨rfl, rfl⟩
 go_wp2_with fail
 go_ret
 exact ⟨rfl, HE.out⟩

set_option maxRecDepth 100000 in
set_option maxHeartbeats 1000000 in
theorem psame_1 (p q : PtV) (w : World) (hp : p.In w) (hq : q.In w) (h0 : (p.x.lo == q.x.lo) = true) (h1 : (p.x.hi == q.x.hi) = false) :
  Calls Try.prog 54 #[.agg p.cells, .agg q.cells] w fun e w' => e = .returned (.bool false) ∧ Below w.heap.size w w' := by
 have hE : Ext w ((w.alloc (.cells p.cells 46)).alloc (.cells q.cells 46)) := Ext.tr (Ext.alloc _ _) (Ext.alloc _ _)
 have g0 : ((w.alloc (.cells p.cells 46)).alloc (.cells q.cells 46)).heap[w.heap.size]? = some (.cells p.cells 46 (0, 0)) := ((Ext.alloc _ _).block _ (lt_of_heap (heap_alloc_new w _))).trans (heap_alloc_new w _)
 have k0 : ((w.alloc (.cells p.cells 46)).alloc (.cells q.cells 46)).heap[w.heap.size + 1]? = some (.cells q.cells 46 (0, 0)) := by simpa using heap_alloc_new (w.alloc (.cells p.cells 46)) (.cells q.cells 46)
 have cp0 : ((w.alloc (.cells p.cells 46)).alloc (.cells q.cells 46)).cell? ⟨w.heap.size, 0, none⟩ = some (.slice p.la p.x.lo.length p.lc) := (cell_of_row _ _ 0 _ _ _ g0).trans (pc0 p)
 have cp1 : ((w.alloc (.cells p.cells 46)).alloc (.cells q.cells 46)).cell? ⟨w.heap.size, 1, none⟩ = some (.slice p.ha p.x.hi.length p.hc) := (cell_of_row _ _ 1 _ _ _ g0).trans (pc1 p)
 have cp2 : ((w.alloc (.cells p.cells 46)).alloc (.cells q.cells 46)).cell? ⟨w.heap.size, 2, none⟩ = some (.int .i64 p.x.count) := (cell_of_row _ _ 2 _ _ _ g0).trans (pc2 p)
 have cq0 : ((w.alloc (.cells p.cells 46)).alloc (.cells q.cells 46)).cell? ⟨w.heap.size + 1, 0, none⟩ = some (.slice q.la q.x.lo.length q.lc) := (cell_of_row _ _ 0 _ _ _ k0).trans (pc0 q)
 have cq1 : ((w.alloc (.cells p.cells 46)).alloc (.cells q.cells 46)).cell? ⟨w.heap.size + 1, 1, none⟩ = some (.slice q.ha q.x.hi.length q.hc) := (cell_of_row _ _ 1 _ _ _ k0).trans (pc1 q)
 have cq2 : ((w.alloc (.cells p.cells 46)).alloc (.cells q.cells 46)).cell? ⟨w.heap.size + 1, 2, none⟩ = some (.int .i64 q.x.count) := (cell_of_row _ _ 2 _ _ _ k0).trans (pc2 q)
 have e0 := equal_any p.la q.la p.x.lo q.x.lo p.lc q.lc ((w.alloc (.cells p.cells 46)).alloc (.cells q.cells 46)) (hp.lr.below hE) (hq.lr.below hE)
 have e1 := equal_any p.ha q.ha p.x.hi q.x.hi p.hc q.hc ((w.alloc (.cells p.cells 46)).alloc (.cells q.cells 46)) (hp.hr.below hE) (hq.hr.below hE)
 rw [h0] at e0
 rw [h1] at e1
 clear h1
 have E0 := Lib.hid e0
 have E1 := Lib.hid e1
 have HE := Lib.hid hE
 clear e0 e1 h0 hE g0 k0
 go_enter Try.func54, Try.ntmps54
 go_wp2_with fail
 refine E0.out.mono ?_
 rintro e w' ⟨rfl, rfl⟩
 go_wp2_with fail
 refine E1.out.mono ?_
 rintro e w' ⟨rfl, rfl⟩
 go_wp2_with fail
 go_ret
 exact ⟨rfl, HE.out⟩

set_option maxRecDepth 100000 in
set_option maxHeartbeats 1000000 in
theorem psame_2 (p q : PtV) (w : World) (hp : p.In w) (hq : q.In w) (h0 : (p.x.lo == q.x.lo) = true) (h1 : (p.x.hi == q.x.hi) = true) (h2 : (p.x.count == q.x.count) = false) :
  Calls Try.prog 54 #[.agg p.cells, .agg q.cells] w fun e w' => e = .returned (.bool false) ∧ Below w.heap.size w w' := by
 have hE : Ext w ((w.alloc (.cells p.cells 46)).alloc (.cells q.cells 46)) := Ext.tr (Ext.alloc _ _) (Ext.alloc _ _)
 have g0 : ((w.alloc (.cells p.cells 46)).alloc (.cells q.cells 46)).heap[w.heap.size]? = some (.cells p.cells 46 (0, 0)) := ((Ext.alloc _ _).block _ (lt_of_heap (heap_alloc_new w _))).trans (heap_alloc_new w _)
 have k0 : ((w.alloc (.cells p.cells 46)).alloc (.cells q.cells 46)).heap[w.heap.size + 1]? = some (.cells q.cells 46 (0, 0)) := by simpa using heap_alloc_new (w.alloc (.cells p.cells 46)) (.cells q.cells 46)
 have cp0 : ((w.alloc (.cells p.cells 46)).alloc (.cells q.cells 46)).cell? ⟨w.heap.size, 0, none⟩ = some (.slice p.la p.x.lo.length p.lc) := (cell_of_row _ _ 0 _ _ _ g0).trans (pc0 p)
 have cp1 : ((w.alloc (.cells p.cells 46)).alloc (.cells q.cells 46)).cell? ⟨w.heap.size, 1, none⟩ = some (.slice p.ha p.x.hi.length p.hc) := (cell_of_row _ _ 1 _ _ _ g0).trans (pc1 p)
 have cp2 : ((w.alloc (.cells p.cells 46)).alloc (.cells q.cells 46)).cell? ⟨w.heap.size, 2, none⟩ = some (.int .i64 p.x.count) := (cell_of_row _ _ 2 _ _ _ g0).trans (pc2 p)
 have cq0 : ((w.alloc (.cells p.cells 46)).alloc (.cells q.cells 46)).cell? ⟨w.heap.size + 1, 0, none⟩ = some (.slice q.la q.x.lo.length q.lc) := (cell_of_row _ _ 0 _ _ _ k0).trans (pc0 q)
 have cq1 : ((w.alloc (.cells p.cells 46)).alloc (.cells q.cells 46)).cell? ⟨w.heap.size + 1, 1, none⟩ = some (.slice q.ha q.x.hi.length q.hc) := (cell_of_row _ _ 1 _ _ _ k0).trans (pc1 q)
 have cq2 : ((w.alloc (.cells p.cells 46)).alloc (.cells q.cells 46)).cell? ⟨w.heap.size + 1, 2, none⟩ = some (.int .i64 q.x.count) := (cell_of_row _ _ 2 _ _ _ k0).trans (pc2 q)
 have e0 := equal_any p.la q.la p.x.lo q.x.lo p.lc q.lc ((w.alloc (.cells p.cells 46)).alloc (.cells q.cells 46)) (hp.lr.below hE) (hq.lr.below hE)
 have e1 := equal_any p.ha q.ha p.x.hi q.x.hi p.hc q.hc ((w.alloc (.cells p.cells 46)).alloc (.cells q.cells 46)) (hp.hr.below hE) (hq.hr.below hE)
 rw [h0] at e0
 rw [h1] at e1
 clear h1
 have E0 := Lib.hid e0
 have E1 := Lib.hid e1
 have HE := Lib.hid hE
 clear e0 e1 h0 hE g0 k0
 go_enter Try.func54, Try.ntmps54
 go_wp2_with fail
 refine E0.out.mono ?_
 rintro e w' ⟨rfl, rfl⟩
 go_wp2_with fail
 refine E1.out.mono ?_
 rintro e w' ⟨rfl, rfl⟩
 go_wp2_with fail
 go_ret
 exact ⟨rfl, HE.out⟩

set_option maxRecDepth 100000 in
set_option maxHeartbeats 1000000 in
theorem psame_3 (p q : PtV) (w : World) (hp : p.In w) (hq : q.In w) (h0 : (p.x.lo == q.x.lo) = true) (h1 : (p.x.hi == q.x.hi) = true) (h2 : (p.x.count == q.x.count) = true) (h3 : (p.x.sum == q.x.sum) = false) :
  Calls Try.prog 54 #[.agg p.cells, .agg q.cells] w fun e w' => e = .returned (.bool false) ∧ Below w.heap.size w w' := by
 have hE : Ext w ((w.alloc (.cells p.cells 46)).alloc (.cells q.cells 46)) := Ext.tr (Ext.alloc _ _) (Ext.alloc _ _)
 have g0 : ((w.alloc (.cells p.cells 46)).alloc (.cells q.cells 46)).heap[w.heap.size]? = some (.cells p.cells 46 (0, 0)) := ((Ext.alloc _ _).block _ (lt_of_heap (heap_alloc_new w _))).trans (heap_alloc_new w _)
 have k0 : ((w.alloc (.cells p.cells 46)).alloc (.cells q.cells 46)).heap[w.heap.size + 1]? = some (.cells q.cells 46 (0, 0)) := by simpa using heap_alloc_new (w.alloc (.cells p.cells 46)) (.cells q.cells 46)
 have cp0 : ((w.alloc (.cells p.cells 46)).alloc (.cells q.cells 46)).cell? ⟨w.heap.size, 0, none⟩ = some (.slice p.la p.x.lo.length p.lc) := (cell_of_row _ _ 0 _ _ _ g0).trans (pc0 p)
 have cp1 : ((w.alloc (.cells p.cells 46)).alloc (.cells q.cells 46)).cell? ⟨w.heap.size, 1, none⟩ = some (.slice p.ha p.x.hi.length p.hc) := (cell_of_row _ _ 1 _ _ _ g0).trans (pc1 p)
 have cp2 : ((w.alloc (.cells p.cells 46)).alloc (.cells q.cells 46)).cell? ⟨w.heap.size, 2, none⟩ = some (.int .i64 p.x.count) := (cell_of_row _ _ 2 _ _ _ g0).trans (pc2 p)
 have cq0 : ((w.alloc (.cells p.cells 46)).alloc (.cells q.cells 46)).cell? ⟨w.heap.size + 1, 0, none⟩ = some (.slice q.la q.x.lo.length q.lc) := (cell_of_row _ _ 0 _ _ _ k0).trans (pc0 q)
 have cq1 : ((w.alloc (.cells p.cells 46)).alloc (.cells q.cells 46)).cell? ⟨w.heap.size + 1, 1, none⟩ = some (.slice q.ha q.x.hi.length q.hc) := (cell_of_row _ _ 1 _ _ _ k0).trans (pc1 q)
 have cq2 : ((w.alloc (.cells p.cells 46)).alloc (.cells q.cells 46)).cell? ⟨w.heap.size + 1, 2, none⟩ = some (.int .i64 q.x.count) := (cell_of_row _ _ 2 _ _ _ k0).trans (pc2 q)
 have hs1 : ∀ i u, ((bvs p.x.sum).toArray)[i]? = some u → ((w.alloc (.cells p.cells 46)).alloc (.cells q.cells 46)).cell? ((⟨w.heap.size, 3, none⟩ : Addr).add i) = some u := fun i u hi => by
  rw [Addr.add_lit, cell_of_row _ _ _ _ _ _ g0, pc3]; exact hi
 have hs2 : ∀ i u, ((bvs q.x.sum).toArray)[i]? = some u → ((w.alloc (.cells p.cells 46)).alloc (.cells q.cells 46)).cell? ((⟨w.heap.size + 1, 3, none⟩ : Addr).add i) = some u := fun i u hi => by
  rw [Addr.add_lit, cell_of_row _ _ _ _ _ _ k0, pc3]; exact hi
 have HS1 := Lib.hid hs1
 have HS2 := Lib.hid hs2
 have hrun := eqArr10 p.x.sum q.x.sum ((w.alloc (.cells p.cells 46)).alloc (.cells q.cells 46)) hp.sum hq.sum
 rw [h3] at hrun
 have Hrun := Lib.hid hrun
 have hi1 := sInfo _ hp.sum
 have hi2 := sInfo _ hq.sum
 clear hs1 hs2 h3 hrun
 have e0 := equal_any p.la q.la p.x.lo q.x.lo p.lc q.lc ((w.alloc (.cells p.cells 46)).alloc (.cells q.cells 46)) (hp.lr.below hE) (hq.lr.below hE)
 have e1 := equal_any p.ha q.ha p.x.hi q.x.hi p.hc q.hc ((w.alloc (.cells p.cells 46)).alloc (.cells q.cells 46)) (hp.hr.below hE) (hq.hr.below hE)
 rw [h0] at e0
 rw [h1] at e1
 clear h1
 have E0 := Lib.hid e0
 have E1 := Lib.hid e1
 have HE := Lib.hid hE
 clear e0 e1 h0 hE g0 k0
 go_enter Try.func54, Try.ntmps54
 go_wp2_with fail
 refine E0.out.mono ?_
 rintro e w' ⟨rfl, rfl⟩
 go_wp2_with fail
 refine E1.out.mono ?_
 rintro e w' ⟨rfl, rfl⟩
 go_wp2_with (first | (have hcx := HS1.out; refine wpList_load_cells rfl 26 (.tmp 25) rfl _ rfl (bvs p.x.sum).toArray _ hcx Try.underlying26 rfl hi1 ?_; clear hcx) | (have hcx := HS2.out; refine wpList_load_cells rfl 26 (.tmp 27) rfl _ rfl (bvs q.x.sum).toArray _ hcx Try.underlying26 rfl hi2 ?_; clear hcx; have hrun := Hrun.out))
 go_ret
 exact ⟨rfl, HE.out⟩

set_option maxRecDepth 100000 in
set_option maxHeartbeats 1000000 in
theorem psame_4 (p q : PtV) (w : World) (hp : p.In w) (hq : q.In w) (h0 : (p.x.lo == q.x.lo) = true) (h1 : (p.x.hi == q.x.hi) = true) (h2 : (p.x.count == q.x.count) = true) (h3 : (p.x.sum == q.x.sum) = true) :
  Calls Try.prog 54 #[.agg p.cells, .agg q.cells] w fun e w' => e = .returned (.bool true) ∧ Below w.heap.size w w' := by
 have hE : Ext w ((w.alloc (.cells p.cells 46)).alloc (.cells q.cells 46)) := Ext.tr (Ext.alloc _ _) (Ext.alloc _ _)
 have g0 : ((w.alloc (.cells p.cells 46)).alloc (.cells q.cells 46)).heap[w.heap.size]? = some (.cells p.cells 46 (0, 0)) := ((Ext.alloc _ _).block _ (lt_of_heap (heap_alloc_new w _))).trans (heap_alloc_new w _)
 have k0 : ((w.alloc (.cells p.cells 46)).alloc (.cells q.cells 46)).heap[w.heap.size + 1]? = some (.cells q.cells 46 (0, 0)) := by simpa using heap_alloc_new (w.alloc (.cells p.cells 46)) (.cells q.cells 46)
 have cp0 : ((w.alloc (.cells p.cells 46)).alloc (.cells q.cells 46)).cell? ⟨w.heap.size, 0, none⟩ = some (.slice p.la p.x.lo.length p.lc) := (cell_of_row _ _ 0 _ _ _ g0).trans (pc0 p)
 have cp1 : ((w.alloc (.cells p.cells 46)).alloc (.cells q.cells 46)).cell? ⟨w.heap.size, 1, none⟩ = some (.slice p.ha p.x.hi.length p.hc) := (cell_of_row _ _ 1 _ _ _ g0).trans (pc1 p)
 have cp2 : ((w.alloc (.cells p.cells 46)).alloc (.cells q.cells 46)).cell? ⟨w.heap.size, 2, none⟩ = some (.int .i64 p.x.count) := (cell_of_row _ _ 2 _ _ _ g0).trans (pc2 p)
 have cq0 : ((w.alloc (.cells p.cells 46)).alloc (.cells q.cells 46)).cell? ⟨w.heap.size + 1, 0, none⟩ = some (.slice q.la q.x.lo.length q.lc) := (cell_of_row _ _ 0 _ _ _ k0).trans (pc0 q)
 have cq1 : ((w.alloc (.cells p.cells 46)).alloc (.cells q.cells 46)).cell? ⟨w.heap.size + 1, 1, none⟩ = some (.slice q.ha q.x.hi.length q.hc) := (cell_of_row _ _ 1 _ _ _ k0).trans (pc1 q)
 have cq2 : ((w.alloc (.cells p.cells 46)).alloc (.cells q.cells 46)).cell? ⟨w.heap.size + 1, 2, none⟩ = some (.int .i64 q.x.count) := (cell_of_row _ _ 2 _ _ _ k0).trans (pc2 q)
 have hs1 : ∀ i u, ((bvs p.x.sum).toArray)[i]? = some u → ((w.alloc (.cells p.cells 46)).alloc (.cells q.cells 46)).cell? ((⟨w.heap.size, 3, none⟩ : Addr).add i) = some u := fun i u hi => by
  rw [Addr.add_lit, cell_of_row _ _ _ _ _ _ g0, pc3]; exact hi
 have hs2 : ∀ i u, ((bvs q.x.sum).toArray)[i]? = some u → ((w.alloc (.cells p.cells 46)).alloc (.cells q.cells 46)).cell? ((⟨w.heap.size + 1, 3, none⟩ : Addr).add i) = some u := fun i u hi => by
  rw [Addr.add_lit, cell_of_row _ _ _ _ _ _ k0, pc3]; exact hi
 have HS1 := Lib.hid hs1
 have HS2 := Lib.hid hs2
 have hrun := eqArr10 p.x.sum q.x.sum ((w.alloc (.cells p.cells 46)).alloc (.cells q.cells 46)) hp.sum hq.sum
 rw [h3] at hrun
 have Hrun := Lib.hid hrun
 have hi1 := sInfo _ hp.sum
 have hi2 := sInfo _ hq.sum
 clear hs1 hs2 h3 hrun
 have e0 := equal_any p.la q.la p.x.lo q.x.lo p.lc q.lc ((w.alloc (.cells p.cells 46)).alloc (.cells q.cells 46)) (hp.lr.below hE) (hq.lr.below hE)
 have e1 := equal_any p.ha q.ha p.x.hi q.x.hi p.hc q.hc ((w.alloc (.cells p.cells 46)).alloc (.cells q.cells 46)) (hp.hr.below hE) (hq.hr.below hE)
 rw [h0] at e0
 rw [h1] at e1
 clear h1
 have E0 := Lib.hid e0
 have E1 := Lib.hid e1
 have HE := Lib.hid hE
 clear e0 e1 h0 hE g0 k0
 go_enter Try.func54, Try.ntmps54
 go_wp2_with fail
 refine E0.out.mono ?_
 rintro e w' ⟨rfl, rfl⟩
 go_wp2_with fail
 refine E1.out.mono ?_
 rintro e w' ⟨rfl, rfl⟩
 go_wp2_with (first | (have hcx := HS1.out; refine wpList_load_cells rfl 26 (.tmp 25) rfl _ rfl (bvs p.x.sum).toArray _ hcx Try.underlying26 rfl hi1 ?_; clear hcx) | (have hcx := HS2.out; refine wpList_load_cells rfl 26 (.tmp 27) rfl _ rfl (bvs q.x.sum).toArray _ hcx Try.underlying26 rfl hi2 ?_; clear hcx; have hrun := Hrun.out))
 go_ret
 exact ⟨rfl, HE.out⟩

theorem samePart_any (p q : PtV) (w : World) (hp : p.In w) (hq : q.In w) : Calls Try.prog 54 #[p.val, q.val] w fun e w' => e = .returned (.bool (p.x.same q.x)) ∧ Below w.heap.size w w' := by
 simp only [Pt.same, PtV.val]
 cases h0 : (p.x.lo == q.x.lo) with
 | false =>
  simp only [Bool.true_and, Bool.and_false, Bool.false_and, Bool.and_self]
  exact psame_0 p q w hp hq h0
 | true =>
  cases h1 : (p.x.hi == q.x.hi) with
  | false =>
   simp only [Bool.true_and, Bool.and_false, Bool.false_and, Bool.and_self]
   exact psame_1 p q w hp hq h0 h1
  | true =>
   cases h2 : (p.x.count == q.x.count) with
   | false =>
    simp only [Bool.true_and, Bool.and_false, Bool.false_and, Bool.and_self]
    exact psame_2 p q w hp hq h0 h1 h2
   | true =>
    cases h3 : (p.x.sum == q.x.sum) with
    | false =>
     simp only [Bool.true_and, Bool.and_false, Bool.false_and, Bool.and_self]
     exact psame_3 p q w hp hq h0 h1 h2 h3
    | true =>
     simp only [Bool.and_self]
     exact psame_4 p q w hp hq h0 h1 h2 h3

set_option maxRecDepth 100000 in
set_option maxHeartbeats 1000000 in
theorem refpsame_0 (p q : PtV) (w : World) (hp : p.In w) (hq : q.In w)  (h0 : (p.x.lo == q.x.lo) = false) :
  Calls Try.prog 30 #[.agg p.cells, .agg q.cells] w fun e w' => e = .returned (.bool false) ∧ Below w.heap.size w w' := by
 have hE : Ext w ((w.alloc (.cells p.cells 46)).alloc (.cells q.cells 46)) := Ext.tr (Ext.alloc _ _) (Ext.alloc _ _)
 have g0 : ((w.alloc (.cells p.cells 46)).alloc (.cells q.cells 46)).heap[w.heap.size]? = some (.cells p.cells 46 (0, 0)) := ((Ext.alloc _ _).block _ (lt_of_heap (heap_alloc_new w _))).trans (heap_alloc_new w _)
 have k0 : ((w.alloc (.cells p.cells 46)).alloc (.cells q.cells 46)).heap[w.heap.size + 1]? = some (.cells q.cells 46 (0, 0)) := by simpa using heap_alloc_new (w.alloc (.cells p.cells 46)) (.cells q.cells 46)
 have cp0 : ((w.alloc (.cells p.cells 46)).alloc (.cells q.cells 46)).cell? ⟨w.heap.size, 0, none⟩ = some (.slice p.la p.x.lo.length p.lc) := (cell_of_row _ _ 0 _ _ _ g0).trans (pc0 p)
 have cp1 : ((w.alloc (.cells p.cells 46)).alloc (.cells q.cells 46)).cell? ⟨w.heap.size, 1, none⟩ = some (.slice p.ha p.x.hi.length p.hc) := (cell_of_row _ _ 1 _ _ _ g0).trans (pc1 p)
 have cp2 : ((w.alloc (.cells p.cells 46)).alloc (.cells q.cells 46)).cell? ⟨w.heap.size, 2, none⟩ = some (.int .i64 p.x.count) := (cell_of_row _ _ 2 _ _ _ g0).trans (pc2 p)
 have cq0 : ((w.alloc (.cells p.cells 46)).alloc (.cells q.cells 46)).cell? ⟨w.heap.size + 1, 0, none⟩ = some (.slice q.la q.x.lo.length q.lc) := (cell_of_row _ _ 0 _ _ _ k0).trans (pc0 q)
 have cq1 : ((w.alloc (.cells p.cells 46)).alloc (.cells q.cells 46)).cell? ⟨w.heap.size + 1, 1, none⟩ = some (.slice q.ha q.x.hi.length q.hc) := (cell_of_row _ _ 1 _ _ _ k0).trans (pc1 q)
 have cq2 : ((w.alloc (.cells p.cells 46)).alloc (.cells q.cells 46)).cell? ⟨w.heap.size + 1, 2, none⟩ = some (.int .i64 q.x.count) := (cell_of_row _ _ 2 _ _ _ k0).trans (pc2 q)
 have r0 := run_str ((w.alloc (.cells p.cells 46)).alloc (.cells q.cells 46)) 23 9 5 p.la p.x.lo p.lc Try.underlying23 Try.underlying5 Try.underlying9 (hp.lr.below hE) p.x.lo.length rfl
 have r1 := run_str ((w.alloc (.cells p.cells 46)).alloc (.cells q.cells 46)) 23 9 5 q.la q.x.lo q.lc Try.underlying23 Try.underlying5 Try.underlying9 (hq.lr.below hE) q.x.lo.length rfl
 have r2 := run_str ((w.alloc (.cells p.cells 46)).alloc (.cells q.cells 46)) 23 9 5 p.ha p.x.hi p.hc Try.underlying23 Try.underlying5 Try.underlying9 (hp.hr.below hE) p.x.hi.length rfl
 have r3 := run_str ((w.alloc (.cells p.cells 46)).alloc (.cells q.cells 46)) 23 9 5 q.ha q.x.hi q.hc Try.underlying23 Try.underlying5 Try.underlying9 (hq.hr.below hE) q.x.hi.length rfl
 have HE := Lib.hid hE
 clear hE g0 k0
 have n0 : ¬ p.x.lo = q.x.lo := by simpa using h0
 clear h0
 go_enter Try.func30, Try.ntmps30
 go_wp2_with fail
 go_ret
 exact ⟨rfl, HE.out⟩

set_option maxRecDepth 100000 in
set_option maxHeartbeats 1000000 in
theorem refpsame_1 (p q : PtV) (w : World) (hp : p.In w) (hq : q.In w) (h0 : (p.x.lo == q.x.lo) = true) (h1 : (p.x.hi == q.x.hi) = false) :
  Calls Try.prog 30 #[.agg p.cells, .agg q.cells] w fun e w' => e = .returned (.bool false) ∧ Below w.heap.size w w' := by
 have hE : Ext w ((w.alloc (.cells p.cells 46)).alloc (.cells q.cells 46)) := Ext.tr (Ext.alloc _ _) (Ext.alloc _ _)
 have g0 : ((w.alloc (.cells p.cells 46)).alloc (.cells q.cells 46)).heap[w.heap.size]? = some (.cells p.cells 46 (0, 0)) := ((Ext.alloc _ _).block _ (lt_of_heap (heap_alloc_new w _))).trans (heap_alloc_new w _)
 have k0 : ((w.alloc (.cells p.cells 46)).alloc (.cells q.cells 46)).heap[w.heap.size + 1]? = some (.cells q.cells 46 (0, 0)) := by simpa using heap_alloc_new (w.alloc (.cells p.cells 46)) (.cells q.cells 46)
 have cp0 : ((w.alloc (.cells p.cells 46)).alloc (.cells q.cells 46)).cell? ⟨w.heap.size, 0, none⟩ = some (.slice p.la p.x.lo.length p.lc) := (cell_of_row _ _ 0 _ _ _ g0).trans (pc0 p)
 have cp1 : ((w.alloc (.cells p.cells 46)).alloc (.cells q.cells 46)).cell? ⟨w.heap.size, 1, none⟩ = some (.slice p.ha p.x.hi.length p.hc) := (cell_of_row _ _ 1 _ _ _ g0).trans (pc1 p)
 have cp2 : ((w.alloc (.cells p.cells 46)).alloc (.cells q.cells 46)).cell? ⟨w.heap.size, 2, none⟩ = some (.int .i64 p.x.count) := (cell_of_row _ _ 2 _ _ _ g0).trans (pc2 p)
 have cq0 : ((w.alloc (.cells p.cells 46)).alloc (.cells q.cells 46)).cell? ⟨w.heap.size + 1, 0, none⟩ = some (.slice q.la q.x.lo.length q.lc) := (cell_of_row _ _ 0 _ _ _ k0).trans (pc0 q)
 have cq1 : ((w.alloc (.cells p.cells 46)).alloc (.cells q.cells 46)).cell? ⟨w.heap.size + 1, 1, none⟩ = some (.slice q.ha q.x.hi.length q.hc) := (cell_of_row _ _ 1 _ _ _ k0).trans (pc1 q)
 have cq2 : ((w.alloc (.cells p.cells 46)).alloc (.cells q.cells 46)).cell? ⟨w.heap.size + 1, 2, none⟩ = some (.int .i64 q.x.count) := (cell_of_row _ _ 2 _ _ _ k0).trans (pc2 q)
 have r0 := run_str ((w.alloc (.cells p.cells 46)).alloc (.cells q.cells 46)) 23 9 5 p.la p.x.lo p.lc Try.underlying23 Try.underlying5 Try.underlying9 (hp.lr.below hE) p.x.lo.length rfl
 have r1 := run_str ((w.alloc (.cells p.cells 46)).alloc (.cells q.cells 46)) 23 9 5 q.la q.x.lo q.lc Try.underlying23 Try.underlying5 Try.underlying9 (hq.lr.below hE) q.x.lo.length rfl
 have r2 := run_str ((w.alloc (.cells p.cells 46)).alloc (.cells q.cells 46)) 23 9 5 p.ha p.x.hi p.hc Try.underlying23 Try.underlying5 Try.underlying9 (hp.hr.below hE) p.x.hi.length rfl
 have r3 := run_str ((w.alloc (.cells p.cells 46)).alloc (.cells q.cells 46)) 23 9 5 q.ha q.x.hi q.hc Try.underlying23 Try.underlying5 Try.underlying9 (hq.hr.below hE) q.x.hi.length rfl
 have HE := Lib.hid hE
 clear hE g0 k0
 have n0 : p.x.lo = q.x.lo := by simpa using h0
 rw [n0] at cp0 r0
 clear h0 n0
 have n1 : ¬ p.x.hi = q.x.hi := by simpa using h1
 clear h1
 go_enter Try.func30, Try.ntmps30
 go_wp2_with fail
 go_ret
 exact ⟨rfl, HE.out⟩

set_option maxRecDepth 100000 in
set_option maxHeartbeats 1000000 in
theorem refpsame_2 (p q : PtV) (w : World) (hp : p.In w) (hq : q.In w) (h0 : (p.x.lo == q.x.lo) = true) (h1 : (p.x.hi == q.x.hi) = true) (h2 : (p.x.count == q.x.count) = false) :
  Calls Try.prog 30 #[.agg p.cells, .agg q.cells] w fun e w' => e = .returned (.bool false) ∧ Below w.heap.size w w' := by
 have hE : Ext w ((w.alloc (.cells p.cells 46)).alloc (.cells q.cells 46)) := Ext.tr (Ext.alloc _ _) (Ext.alloc _ _)
 have g0 : ((w.alloc (.cells p.cells 46)).alloc (.cells q.cells 46)).heap[w.heap.size]? = some (.cells p.cells 46 (0, 0)) := ((Ext.alloc _ _).block _ (lt_of_heap (heap_alloc_new w _))).trans (heap_alloc_new w _)
 have k0 : ((w.alloc (.cells p.cells 46)).alloc (.cells q.cells 46)).heap[w.heap.size + 1]? = some (.cells q.cells 46 (0, 0)) := by simpa using heap_alloc_new (w.alloc (.cells p.cells 46)) (.cells q.cells 46)
 have cp0 : ((w.alloc (.cells p.cells 46)).alloc (.cells q.cells 46)).cell? ⟨w.heap.size, 0, none⟩ = some (.slice p.la p.x.lo.length p.lc) := (cell_of_row _ _ 0 _ _ _ g0).trans (pc0 p)
 have cp1 : ((w.alloc (.cells p.cells 46)).alloc (.cells q.cells 46)).cell? ⟨w.heap.size, 1, none⟩ = some (.slice p.ha p.x.hi.length p.hc) := (cell_of_row _ _ 1 _ _ _ g0).trans (pc1 p)
 have cp2 : ((w.alloc (.cells p.cells 46)).alloc (.cells q.cells 46)).cell? ⟨w.heap.size, 2, none⟩ = some (.int .i64 p.x.count) := (cell_of_row _ _ 2 _ _ _ g0).trans (pc2 p)
 have cq0 : ((w.alloc (.cells p.cells 46)).alloc (.cells q.cells 46)).cell? ⟨w.heap.size + 1, 0, none⟩ = some (.slice q.la q.x.lo.length q.lc) := (cell_of_row _ _ 0 _ _ _ k0).trans (pc0 q)
 have cq1 : ((w.alloc (.cells p.cells 46)).alloc (.cells q.cells 46)).cell? ⟨w.heap.size + 1, 1, none⟩ = some (.slice q.ha q.x.hi.length q.hc) := (cell_of_row _ _ 1 _ _ _ k0).trans (pc1 q)
 have cq2 : ((w.alloc (.cells p.cells 46)).alloc (.cells q.cells 46)).cell? ⟨w.heap.size + 1, 2, none⟩ = some (.int .i64 q.x.count) := (cell_of_row _ _ 2 _ _ _ k0).trans (pc2 q)
 have r0 := run_str ((w.alloc (.cells p.cells 46)).alloc (.cells q.cells 46)) 23 9 5 p.la p.x.lo p.lc Try.underlying23 Try.underlying5 Try.underlying9 (hp.lr.below hE) p.x.lo.length rfl
 have r1 := run_str ((w.alloc (.cells p.cells 46)).alloc (.cells q.cells 46)) 23 9 5 q.la q.x.lo q.lc Try.underlying23 Try.underlying5 Try.underlying9 (hq.lr.below hE) q.x.lo.length rfl
 have r2 := run_str ((w.alloc (.cells p.cells 46)).alloc (.cells q.cells 46)) 23 9 5 p.ha p.x.hi p.hc Try.underlying23 Try.underlying5 Try.underlying9 (hp.hr.below hE) p.x.hi.length rfl
 have r3 := run_str ((w.alloc (.cells p.cells 46)).alloc (.cells q.cells 46)) 23 9 5 q.ha q.x.hi q.hc Try.underlying23 Try.underlying5 Try.underlying9 (hq.hr.below hE) q.x.hi.length rfl
 have HE := Lib.hid hE
 clear hE g0 k0
 have n0 : p.x.lo = q.x.lo := by simpa using h0
 rw [n0] at cp0 r0
 clear h0 n0
 have n1 : p.x.hi = q.x.hi := by simpa using h1
 rw [n1] at cp1 r2
 clear h1 n1
 go_enter Try.func30, Try.ntmps30
 go_wp2_with fail
 go_ret
 exact ⟨rfl, HE.out⟩

set_option maxRecDepth 100000 in
set_option maxHeartbeats 1000000 in
theorem refpsame_3 (p q : PtV) (w : World) (hp : p.In w) (hq : q.In w) (h0 : (p.x.lo == q.x.lo) = true) (h1 : (p.x.hi == q.x.hi) = true) (h2 : (p.x.count == q.x.count) = true) (h3 : (p.x.sum == q.x.sum) = false) :
  Calls Try.prog 30 #[.agg p.cells, .agg q.cells] w fun e w' => e = .returned (.bool false) ∧ Below w.heap.size w w' := by
 have hE : Ext w ((w.alloc (.cells p.cells 46)).alloc (.cells q.cells 46)) := Ext.tr (Ext.alloc _ _) (Ext.alloc _ _)
 have g0 : ((w.alloc (.cells p.cells 46)).alloc (.cells q.cells 46)).heap[w.heap.size]? = some (.cells p.cells 46 (0, 0)) := ((Ext.alloc _ _).block _ (lt_of_heap (heap_alloc_new w _))).trans (heap_alloc_new w _)
 have k0 : ((w.alloc (.cells p.cells 46)).alloc (.cells q.cells 46)).heap[w.heap.size + 1]? = some (.cells q.cells 46 (0, 0)) := by simpa using heap_alloc_new (w.alloc (.cells p.cells 46)) (.cells q.cells 46)
 have cp0 : ((w.alloc (.cells p.cells 46)).alloc (.cells q.cells 46)).cell? ⟨w.heap.size, 0, none⟩ = some (.slice p.la p.x.lo.length p.lc) := (cell_of_row _ _ 0 _ _ _ g0).trans (pc0 p)
 have cp1 : ((w.alloc (.cells p.cells 46)).alloc (.cells q.cells 46)).cell? ⟨w.heap.size, 1, none⟩ = some (.slice p.ha p.x.hi.length p.hc) := (cell_of_row _ _ 1 _ _ _ g0).trans (pc1 p)
 have cp2 : ((w.alloc (.cells p.cells 46)).alloc (.cells q.cells 46)).cell? ⟨w.heap.size, 2, none⟩ = some (.int .i64 p.x.count) := (cell_of_row _ _ 2 _ _ _ g0).trans (pc2 p)
 have cq0 : ((w.alloc (.cells p.cells 46)).alloc (.cells q.cells 46)).cell? ⟨w.heap.size + 1, 0, none⟩ = some (.slice q.la q.x.lo.length q.lc) := (cell_of_row _ _ 0 _ _ _ k0).trans (pc0 q)
 have cq1 : ((w.alloc (.cells p.cells 46)).alloc (.cells q.cells 46)).cell? ⟨w.heap.size + 1, 1, none⟩ = some (.slice q.ha q.x.hi.length q.hc) := (cell_of_row _ _ 1 _ _ _ k0).trans (pc1 q)
 have cq2 : ((w.alloc (.cells p.cells 46)).alloc (.cells q.cells 46)).cell? ⟨w.heap.size + 1, 2, none⟩ = some (.int .i64 q.x.count) := (cell_of_row _ _ 2 _ _ _ k0).trans (pc2 q)
 have hs1 : ∀ i u, ((bvs p.x.sum).toArray)[i]? = some u → ((w.alloc (.cells p.cells 46)).alloc (.cells q.cells 46)).cell? ((⟨w.heap.size, 3, none⟩ : Addr).add i) = some u := fun i u hi => by
  rw [Addr.add_lit, cell_of_row _ _ _ _ _ _ g0, pc3]; exact hi
 have hs2 : ∀ i u, ((bvs q.x.sum).toArray)[i]? = some u → ((w.alloc (.cells p.cells 46)).alloc (.cells q.cells 46)).cell? ((⟨w.heap.size + 1, 3, none⟩ : Addr).add i) = some u := fun i u hi => by
  rw [Addr.add_lit, cell_of_row _ _ _ _ _ _ k0, pc3]; exact hi
 have HS1 := Lib.hid hs1
 have HS2 := Lib.hid hs2
 have hrun := eqArr10 p.x.sum q.x.sum ((w.alloc (.cells p.cells 46)).alloc (.cells q.cells 46)) hp.sum hq.sum
 rw [h3] at hrun
 have Hrun := Lib.hid hrun
 have hi1 := sInfo _ hp.sum
 have hi2 := sInfo _ hq.sum
 clear hs1 hs2 h3 hrun
 have r0 := run_str ((w.alloc (.cells p.cells 46)).alloc (.cells q.cells 46)) 23 9 5 p.la p.x.lo p.lc Try.underlying23 Try.underlying5 Try.underlying9 (hp.lr.below hE) p.x.lo.length rfl
 have r1 := run_str ((w.alloc (.cells p.cells 46)).alloc (.cells q.cells 46)) 23 9 5 q.la q.x.lo q.lc Try.underlying23 Try.underlying5 Try.underlying9 (hq.lr.below hE) q.x.lo.length rfl
 have r2 := run_str ((w.alloc (.cells p.cells 46)).alloc (.cells q.cells 46)) 23 9 5 p.ha p.x.hi p.hc Try.underlying23 Try.underlying5 Try.underlying9 (hp.hr.below hE) p.x.hi.length rfl
 have r3 := run_str ((w.alloc (.cells p.cells 46)).alloc (.cells q.cells 46)) 23 9 5 q.ha q.x.hi q.hc Try.underlying23 Try.underlying5 Try.underlying9 (hq.hr.below hE) q.x.hi.length rfl
 have HE := Lib.hid hE
 clear hE g0 k0
 have n0 : p.x.lo = q.x.lo := by simpa using h0
 rw [n0] at cp0 r0
 clear h0 n0
 have n1 : p.x.hi = q.x.hi := by simpa using h1
 rw [n1] at cp1 r2
 clear h1 n1
 go_enter Try.func30, Try.ntmps30
 go_wp2_with (first | (have hcx := HS1.out; refine wpList_load_cells rfl 26 (.tmp 29) rfl _ rfl (bvs p.x.sum).toArray _ hcx Try.underlying26 rfl hi1 ?_; clear hcx) | (have hcx := HS2.out; refine wpList_load_cells rfl 26 (.tmp 31) rfl _ rfl (bvs q.x.sum).toArray _ hcx Try.underlying26 rfl hi2 ?_; clear hcx; have hrun := Hrun.out))
 go_ret
 exact ⟨rfl, HE.out⟩

set_option maxRecDepth 100000 in
set_option maxHeartbeats 1000000 in
theorem refpsame_4 (p q : PtV) (w : World) (hp : p.In w) (hq : q.In w) (h0 : (p.x.lo == q.x.lo) = true) (h1 : (p.x.hi == q.x.hi) = true) (h2 : (p.x.count == q.x.count) = true) (h3 : (p.x.sum == q.x.sum) = true) :
  Calls Try.prog 30 #[.agg p.cells, .agg q.cells] w fun e w' => e = .returned (.bool true) ∧ Below w.heap.size w w' := by
 have hE : Ext w ((w.alloc (.cells p.cells 46)).alloc (.cells q.cells 46)) := Ext.tr (Ext.alloc _ _) (Ext.alloc _ _)
 have g0 : ((w.alloc (.cells p.cells 46)).alloc (.cells q.cells 46)).heap[w.heap.size]? = some (.cells p.cells 46 (0, 0)) := ((Ext.alloc _ _).block _ (lt_of_heap (heap_alloc_new w _))).trans (heap_alloc_new w _)
 have k0 : ((w.alloc (.cells p.cells 46)).alloc (.cells q.cells 46)).heap[w.heap.size + 1]? = some (.cells q.cells 46 (0, 0)) := by simpa using heap_alloc_new (w.alloc (.cells p.cells 46)) (.cells q.cells 46)
 have cp0 : ((w.alloc (.cells p.cells 46)).alloc (.cells q.cells 46)).cell? ⟨w.heap.size, 0, none⟩ = some (.slice p.la p.x.lo.length p.lc) := (cell_of_row _ _ 0 _ _ _ g0).trans (pc0 p)
 have cp1 : ((w.alloc (.cells p.cells 46)).alloc (.cells q.cells 46)).cell? ⟨w.heap.size, 1, none⟩ = some (.slice p.ha p.x.hi.length p.hc) := (cell_of_row _ _ 1 _ _ _ g0).trans (pc1 p)
 have cp2 : ((w.alloc (.cells p.cells 46)).alloc (.cells q.cells 46)).cell? ⟨w.heap.size, 2, none⟩ = some (.int .i64 p.x.count) := (cell_of_row _ _ 2 _ _ _ g0).trans (pc2 p)
 have cq0 : ((w.alloc (.cells p.cells 46)).alloc (.cells q.cells 46)).cell? ⟨w.heap.size + 1, 0, none⟩ = some (.slice q.la q.x.lo.length q.lc) := (cell_of_row _ _ 0 _ _ _ k0).trans (pc0 q)
 have cq1 : ((w.alloc (.cells p.cells 46)).alloc (.cells q.cells 46)).cell? ⟨w.heap.size + 1, 1, none⟩ = some (.slice q.ha q.x.hi.length q.hc) := (cell_of_row _ _ 1 _ _ _ k0).trans (pc1 q)
 have cq2 : ((w.alloc (.cells p.cells 46)).alloc (.cells q.cells 46)).cell? ⟨w.heap.size + 1, 2, none⟩ = some (.int .i64 q.x.count) := (cell_of_row _ _ 2 _ _ _ k0).trans (pc2 q)
 have hs1 : ∀ i u, ((bvs p.x.sum).toArray)[i]? = some u → ((w.alloc (.cells p.cells 46)).alloc (.cells q.cells 46)).cell? ((⟨w.heap.size, 3, none⟩ : Addr).add i) = some u := fun i u hi => by
  rw [Addr.add_lit, cell_of_row _ _ _ _ _ _ g0, pc3]; exact hi
 have hs2 : ∀ i u, ((bvs q.x.sum).toArray)[i]? = some u → ((w.alloc (.cells p.cells 46)).alloc (.cells q.cells 46)).cell? ((⟨w.heap.size + 1, 3, none⟩ : Addr).add i) = some u := fun i u hi => by
  rw [Addr.add_lit, cell_of_row _ _ _ _ _ _ k0, pc3]; exact hi
 have HS1 := Lib.hid hs1
 have HS2 := Lib.hid hs2
 have hrun := eqArr10 p.x.sum q.x.sum ((w.alloc (.cells p.cells 46)).alloc (.cells q.cells 46)) hp.sum hq.sum
 rw [h3] at hrun
 have Hrun := Lib.hid hrun
 have hi1 := sInfo _ hp.sum
 have hi2 := sInfo _ hq.sum
 clear hs1 hs2 h3 hrun
 have r0 := run_str ((w.alloc (.cells p.cells 46)).alloc (.cells q.cells 46)) 23 9 5 p.la p.x.lo p.lc Try.underlying23 Try.underlying5 Try.underlying9 (hp.lr.below hE) p.x.lo.length rfl
 have r1 := run_str ((w.alloc (.cells p.cells 46)).alloc (.cells q.cells 46)) 23 9 5 q.la q.x.lo q.lc Try.underlying23 Try.underlying5 Try.underlying9 (hq.lr.below hE) q.x.lo.length rfl
 have r2 := run_str ((w.alloc (.cells p.cells 46)).alloc (.cells q.cells 46)) 23 9 5 p.ha p.x.hi p.hc Try.underlying23 Try.underlying5 Try.underlying9 (hp.hr.below hE) p.x.hi.length rfl
 have r3 := run_str ((w.alloc (.cells p.cells 46)).alloc (.cells q.cells 46)) 23 9 5 q.ha q.x.hi q.hc Try.underlying23 Try.underlying5 Try.underlying9 (hq.hr.below hE) q.x.hi.length rfl
 have HE := Lib.hid hE
 clear hE g0 k0
 have n0 : p.x.lo = q.x.lo := by simpa using h0
 rw [n0] at cp0 r0
 clear h0 n0
 have n1 : p.x.hi = q.x.hi := by simpa using h1
 rw [n1] at cp1 r2
 clear h1 n1
 go_enter Try.func30, Try.ntmps30
 go_wp2_with (first | (have hcx := HS1.out; refine wpList_load_cells rfl 26 (.tmp 29) rfl _ rfl (bvs p.x.sum).toArray _ hcx Try.underlying26 rfl hi1 ?_; clear hcx) | (have hcx := HS2.out; refine wpList_load_cells rfl 26 (.tmp 31) rfl _ rfl (bvs q.x.sum).toArray _ hcx Try.underlying26 rfl hi2 ?_; clear hcx; have hrun := Hrun.out))
 go_ret
 exact ⟨rfl, HE.out⟩

theorem ref_samePart (p q : PtV) (w : World) (hp : p.In w) (hq : q.In w) : Calls Try.prog 30 #[p.val, q.val] w fun e w' => e = .returned (.bool (p.x.same q.x)) ∧ Below w.heap.size w w' := by
 simp only [Pt.same, PtV.val]
 cases h0 : (p.x.lo == q.x.lo) with
 | false =>
  simp only [Bool.true_and, Bool.and_false, Bool.false_and, Bool.and_self]
  exact refpsame_0 p q w hp hq h0
 | true =>
  cases h1 : (p.x.hi == q.x.hi) with
  | false =>
   simp only [Bool.true_and, Bool.and_false, Bool.false_and, Bool.and_self]
   exact refpsame_1 p q w hp hq h0 h1
  | true =>
   cases h2 : (p.x.count == q.x.count) with
   | false =>
    simp only [Bool.true_and, Bool.and_false, Bool.false_and, Bool.and_self]
    exact refpsame_2 p q w hp hq h0 h1 h2
   | true =>
    cases h3 : (p.x.sum == q.x.sum) with
    | false =>
     simp only [Bool.true_and, Bool.and_false, Bool.false_and, Bool.and_self]
     exact refpsame_3 p q w hp hq h0 h1 h2 h3
    | true =>
     simp only [Bool.and_self]
     exact refpsame_4 p q w hp hq h0 h1 h2 h3

end Go.Proofs.Ytjholekgdnhpkaa

/- Words for memory: a list of parts of ranges; a row of them that is being filled. -/

namespace Go.Proofs.Ytjholekgdnhpkaa

open Go.RowKit

theorem flat_len {α : Type} (f : α → List Value) (s : Nat) (l : List α) (hs : ∀ x ∈ l, (f x).length = s) : (l.flatMap f).length = l.length * s := by
 induction l with
 | nil => simp
 | cons x l ih =>
  rw [List.flatMap_cons, List.length_append, hs x (by simp), ih fun y hy => hs y (by simp [hy]), List.length_cons, Nat.succ_mul]
  omega
theorem flat_at {α : Type} (f : α → List Value) (s : Nat) (l : List α) (hs : ∀ x ∈ l, (f x).length = s) (k : Nat) (h : k < l.length) (j : Nat) (hj : j < s) : (l.flatMap f)[k * s + j]? = (f l[k])[j]? := by
 induction l generalizing k with
 | nil => simp at h
 | cons x l ih =>
  have hx := hs x (by simp)
  rw [List.flatMap_cons]
  cases k with
  | zero => rw [Nat.zero_mul, Nat.zero_add, List.getElem?_append_left (by omega)]; rfl
  | succ k =>
   rw [List.getElem?_append_right (by rw [hx, Nat.succ_mul]; omega), hx, show (k + 1) * s + j - s = k * s + j by rw [Nat.succ_mul]; omega]
   exact ih (fun y hy => hs y (by simp [hy])) k (by simpa using h)
theorem flat_take {α : Type} (f : α → List Value) (s : Nat) (l : List α) (hs : ∀ x ∈ l, (f x).length = s) (k : Nat) : (l.flatMap f).take (k * s) = (l.take k).flatMap f := by
 induction l generalizing k with
 | nil => simp
 | cons x l ih =>
  have hx := hs x (by simp)
  cases k with
  | zero => simp
  | succ k =>
   rw [List.flatMap_cons, List.take_succ_cons, List.flatMap_cons, List.take_append, hx, List.take_of_length_le (by rw [hx, Nat.succ_mul]; omega), show (k + 1) * s - s = k * s by rw [Nat.succ_mul]; omega, ih fun y hy => hs y (by simp [hy])]
theorem flat_drop {α : Type} (f : α → List Value) (s : Nat) (l : List α) (hs : ∀ x ∈ l, (f x).length = s) (k : Nat) : (l.flatMap f).drop (k * s) = (l.drop k).flatMap f := by
 induction l generalizing k with
 | nil => simp
 | cons x l ih =>
  have hx := hs x (by simp)
  cases k with
  | zero => simp
  | succ k =>
   rw [List.flatMap_cons, List.drop_succ_cons, List.drop_append, hx, List.drop_of_length_le (by rw [hx, Nat.succ_mul]; omega), List.nil_append, show (k + 1) * s - s = k * s by rw [Nat.succ_mul]; omega, ih fun y hy => hs y (by simp [hy])]
theorem flat_set {α : Type} (f : α → List Value) (s : Nat) (l : List α) (hs : ∀ x ∈ l, (f x).length = s) (k : Nat) (hk : k < l.length) (y : α) :
  (l.set k y).flatMap f = (l.flatMap f).take (k * s) ++ f y ++ (l.flatMap f).drop (k * s + s) := by
 rw [show k * s + s = (k + 1) * s by rw [Nat.succ_mul], flat_take f s l hs, flat_drop f s l hs, List.set_eq_take_append_cons_drop, if_pos hk, List.flatMap_append, List.flatMap_cons, List.append_assoc]

/-- The cells of a list of parts. -/
def pcs (l : List PtV) : List Value := l.flatMap fun p => p.cells.toList
theorem pcell_len {p : PtV} (h : p.x.sum.length = 32) : p.cells.toList.length = 35 := by rw [Array.length_toList, psize h]
theorem pcs_len {l : List PtV} (h : ∀ p ∈ l, p.x.sum.length = 32) : (pcs l).length = l.length * 35 := flat_len _ 35 l fun p hp => pcell_len (h p hp)
theorem pcs_one {l : List PtV} : ∀ u ∈ pcs l, u.oneCell' = true := by
 intro u hu
 obtain ⟨p, _, hp⟩ := List.mem_flatMap.1 hu
 have := (Array.all_eq_true_iff_forall_mem.1 (pone p)) u (by simpa using hp)
 exact this
/-- The slice (A, l.length) reads as these parts. -/
structure RdP (w : World) (A : Option Addr) (l : List PtV) : Prop where
 rd : Rd w 35 A l.length (pcs l)
 each : ∀ p ∈ l, p.In w
section

variable {w w' : World} {A : Option Addr} {l : List PtV}

theorem RdP.nil_ (w : World) (A : Option Addr) : RdP w A [] := ⟨Rd.nil_ _ _ _, by simp⟩
theorem RdP.sums (h : RdP w A l) : ∀ p ∈ l, p.x.sum.length = 32 := fun p hp => (h.each p hp).sum
theorem RdP.below (h : RdP w A l) (hb : Below w.heap.size w w') : RdP w' A l := ⟨h.rd.below hb, fun e he => (h.each e he).below hb⟩
/-- Element k: where it lies, and each of its cells. -/
theorem RdP.at_ (h : RdP w A l) {k : Nat} (hk : k < l.length) : ∃ ad, A = some ad ∧ (∀ j u, (l[k].cells)[j]? = some u → w.cell? ((ad.add (k * 35)).add j) = some u) ∧ l[k].In w := by
 obtain ⟨ad, e, hc⟩ := h.rd.2 (by intro e; have := pcs_len h.sums; rw [e] at this; simp at this; omega)
 refine ⟨ad, e, fun j u hj => ?_, h.each _ (List.getElem_mem hk)⟩
 have hj2 : j < 35 := by
  have := (Array.getElem?_eq_some_iff.1 hj).1
  rwa [psize (h.sums _ (List.getElem_mem hk))] at this
 rw [add_add']
 refine hc _ u ?_
 rw [pcs, flat_at _ 35 l (fun p hp => pcell_len (h.sums p hp)) k hk j hj2]
 simpa using hj
theorem RdP.lo_at {ad : Addr} {p : PtV} (hc : ∀ j u, (p.cells)[j]? = some u → w.cell? (ad.add j) = some u) : w.cell? ad = some (.slice p.la p.x.lo.length p.lc) := hc 0 _ (pc0 p)
theorem RdP.hi_at {ad : Addr} {p : PtV} (hc : ∀ j u, (p.cells)[j]? = some u → w.cell? (ad.add j) = some u) : w.cell? ⟨ad.block, ad.off + 1, none⟩ = some (.slice p.ha p.x.hi.length p.hc) := hc 1 _ (pc1 p)
theorem RdP.count_at {ad : Addr} {p : PtV} (hc : ∀ j u, (p.cells)[j]? = some u → w.cell? (ad.add j) = some u) : w.cell? ⟨ad.block, ad.off + 2, none⟩ = some (.int .i64 p.x.count) := hc 2 _ (pc2 p)
end

/-! ### a row that is being filled -/

def ptz : PtV := ⟨none, 0, none, 0, ⟨[], [], 0, List.replicate 32 0⟩⟩
structure PRow (w : World) (t : TypeId) (g : Nat) (L : List PtV) : Prop where
 row : w.heap[g]? = some (.cells (pcs L).toArray t (0, 0))
 sums : ∀ p ∈ L, p.x.sum.length = 32
theorem PRow.size {w : World} {t : TypeId} {g : Nat} {L : List PtV} (h : PRow w t g L) : (pcs L).toArray.size = L.length * 35 := by rw [List.size_toArray, pcs_len h.sums]
theorem PRow.ext {w w' : World} {t : TypeId} {g : Nat} {L : List PtV} (h : PRow w t g L) (hb : Ext w w') : PRow w' t g L := ⟨(hb.block _ (lt_of_heap h.row)).trans h.row, h.sums⟩
theorem PRow.set_row {w : World} {t : TypeId} {g : Nat} {L : List PtV} (h : PRow w t g L) {k : Nat} (p : PtV) (hp : p.x.sum.length = 32) : PRow (w.setRow g (pcs (L.set k p)).toArray) t g (L.set k p) := by
 refine ⟨setRow_heap w g _ _ _ _ h.row, fun q hq => ?_⟩
 rcases List.mem_or_eq_of_mem_set hq with h1 | rfl
 ·
  exact h.sums _ h1
 ·
  exact hp
theorem PRow.set_cells {w : World} {t : TypeId} {g : Nat} {L : List PtV} (h : PRow w t g L) {k : Nat} (hk : k < L.length) (p : PtV) (hp : p.x.sum.length = 32) :
  ((pcs L).toArray.toList.take (k * 35) ++ p.cells.toList ++ (pcs L).toArray.toList.drop (k * 35 + p.cells.size)).toArray = (pcs (L.set k p)).toArray := by
 rw [psize hp]
 congr 1
 exact (flat_set _ 35 L (fun p hp => pcell_len (h.sums p hp)) k hk p).symm
theorem PRow.at_ {w : World} {t : TypeId} {g : Nat} {L : List PtV} (h : PRow w t g L) {k : Nat} (hk : k < L.length) (j : Nat) (u : Value) (hj : (L[k].cells)[j]? = some u) : w.cell? ⟨g, k * 35 + j, none⟩ = some u := by
 have hj2 : j < 35 := by
  have := (Array.getElem?_eq_some_iff.1 hj).1
  rwa [psize (h.sums _ (List.getElem_mem hk))] at this
 rw [cell_of_row _ _ _ _ _ _ h.row, List.getElem?_toArray, pcs, flat_at _ 35 L (fun p hp => pcell_len (h.sums p hp)) k hk j hj2]
 simpa using hj
theorem PRow.free {w : World} {t : TypeId} {g : Nat} {L : List PtV} (h : PRow w t g L) (i : Nat) : w.frozen? ⟨g, i, none⟩ = false := frozen_of_row w g i _ t h.row
/-- One field turned. -/
theorem PRow.set_cell {w : World} {t : TypeId} {g : Nat} {L : List PtV} (h : PRow w t g L) {k : Nat} (hk : k < L.length) (p : PtV) (hp : p.x.sum.length = 32) (j : Nat) (hj : j < 35) (v : Value) (hc : L[k].cells.setIfInBounds j v = p.cells) :
  ((pcs L).toArray.toList.take (k * 35 + j) ++ #[v].toList ++ (pcs L).toArray.toList.drop (k * 35 + j + #[v].size)).toArray = (pcs (L.set k p)).toArray := by
 have hlt : k * 35 + j < (pcs L).toArray.toList.length := by
  have h1 : (pcs L).length = L.length * 35 := pcs_len h.sums
  show k * 35 + j < (pcs L).length
  omega
 have hset : (pcs L).toArray.toList.take (k * 35 + j) ++ #[v].toList ++ (pcs L).toArray.toList.drop (k * 35 + j + #[v].size) = (pcs L).toArray.toList.set (k * 35 + j) v := by
  rw [List.set_eq_take_append_cons_drop, if_pos hlt, List.append_assoc]; rfl
 rw [hset]
 apply Array.ext'
 apply List.ext_getElem?
 intro i
 have hs1 := fun p hp => pcell_len (h.sums p hp)
 have hs2 : ∀ q ∈ L.set k p, q.cells.toList.length = 35 := fun q hq => by
  rcases List.mem_or_eq_of_mem_set hq with h1 | rfl
  ·
   exact hs1 _ h1
  ·
   exact pcell_len hp
 have hl1 : (pcs L).length = L.length * 35 := flat_len _ 35 L hs1
 have hl2 : (pcs (L.set k p)).length = L.length * 35 := by rw [pcs, flat_len _ 35 _ hs2, List.length_set]
 by_cases hi : i < L.length * 35
 ·
  have hq : i / 35 < L.length := by omega
  have hr : i % 35 < 35 := Nat.mod_lt _ (by omega)
  have hi2 : i = i / 35 * 35 + i % 35 := by omega
  have e2 : (pcs (L.set k p))[i]? = ((L.set k p)[i / 35]'(by simpa using hq)).cells.toList[i % 35]? := by
   conv => lhs; rw [hi2]
   exact flat_at _ 35 _ hs2 (i / 35) (by simpa using hq) (i % 35) hr
  have e1 : (pcs L)[i]? = (L[i / 35]'hq).cells.toList[i % 35]? := by
   conv => lhs; rw [hi2]
   exact flat_at _ 35 _ hs1 (i / 35) hq (i % 35) hr
  rw [List.getElem?_set, e2]
  by_cases hk2 : k = i / 35
  ·
   have e3 : (L.set k p)[i / 35]'(by simpa using hq) = p := by subst hk2; simp
   rw [e3, ← hc, Array.toList_setIfInBounds, List.getElem?_set]
   by_cases hj2 : j = i % 35
   ·
    rw [if_pos (by omega), if_pos hlt, if_pos hj2, if_pos (by rw [hs1 _ (List.getElem_mem hk)]; exact hj)]
   ·
    rw [if_neg (by omega), if_neg hj2]
    rw [show (pcs L).toArray.toList = pcs L from rfl, e1]
    subst hk2; rfl
  ·
   have e3 : (L.set k p)[i / 35]'(by simpa using hq) = L[i / 35]'hq := by rw [List.getElem_set, if_neg hk2]
   rw [e3, if_neg (by omega), show (pcs L).toArray.toList = pcs L from rfl, e1]
 ·
  rw [List.getElem?_eq_none (by simp only [List.length_set]; show (pcs L).length ≤ i; omega), List.getElem?_eq_none (by show (pcs (L.set k p)).length ≤ i; omega)]
/-- A row that is full reads as its parts. -/
theorem PRow.rd {w : World} {t : TypeId} {g : Nat} {L : List PtV} (h : PRow w t g L) (he : ∀ p ∈ L, p.In w) : RdP w (some ⟨g, 0, none⟩) L :=
 ⟨⟨pcs_len h.sums, fun _ => ⟨_, rfl, fun j u hj => by rw [Addr.add_lit, cell_of_row _ _ _ _ _ _ h.row, Nat.zero_add]; simpa using hj⟩⟩, he⟩

section

variable {P : Program} {w : World} {ops : Array Oper} {rest : List Oper} {o : Oper} {a : Act} {Q : Exit → Act → World → Prop}

theorem wpList_store_at (hgd : Region.wanted o (yielded ops a.tmps) = true) (ty : TypeId) (x y : Operand) (ho : o.op = .store ty x y) (ad : Addr) (hx : a.eval x = .pointer (some ad)) (g off : Nat) (had : ad = ⟨g, off, none⟩)
  (v : Value) (hy : a.eval y = v) (cells : Array Value) (hv : v.cells = cells) (cur : Array Value) (t : TypeId) (hg : w.heap[g]? = some (.cells cur t (0, 0))) (hi : (P.info? ty).map (·.size) = some cells.size) (hfit : off + cells.size ≤ cur.size)
  (h1 : cells.all (·.oneCell') = true) (cur' : Array Value) (hc : (cur.toList.take off ++ cells.toList ++ cur.toList.drop (off + cells.size)).toArray = cur')
  (h : wpList P ops Q rest (a.put o.dst undef) (w.setRow g cur')) : wpList P ops Q (o :: rest) a w := by
 subst had
 subst hc
 refine wpList_want hgd fun _ hK => ?_
 have hr := run_storeCells_at (P := P) g off t cells.toList 0 cur w hg (by simpa using hfit) (fun v hv => (Array.all_eq_true_iff_forall_mem.1 h1) v (by simpa using hv))
 simp only [Nat.add_zero, Array.length_toList] at hr
 have hst : (storeVar ty ⟨g, off, none⟩ v).run P w = .ok () (w.setRow g (cur.toList.take off ++ cells.toList ++ cur.toList.drop (off + cells.size)).toArray) := by
  cases hq : P.info? ty with
  | none => simp [hq] at hi
  | some i =>
   have hs : cells.size = i.size := by simp [hq] at hi; omega
   simp [storeVar, sizeOf, typeInfo, hq, hv, hs]
   rw [hs] at hr
   simpa using hr
 unfold Oper.wp execOp
 simp only [ho, hx, hy, Instr.storeAt, Instr.sureAddr, Sem.run_bind, Sem.run_pure, Result.andThen_ok, hst]
 exact hK _ _ h
/-- 'make' of elements of many cells. -/
theorem wpList_mkS (hgd : Region.wanted o (yielded ops a.tmps) = true) (l c : Operand) (t : TypeId) (ho : o.op = .makeSlice t l c) {e : TypeId} {size bytes : Nat} (T : ElemT P t e size bytes) (z : Value) (hz : (P.info? e).bind (·.zero) = some z)
  (n : Nat) (kl kc : IntKind) (hl : a.eval l = .int kl (n : Int)) (hc : a.eval c = .int kc (n : Int)) (hn : bytes * n ≤ 140737488355328) (h63 : n ≤ 140737488355328) (C : Array Value) (hC : madeCells z.cells (n * size) = C)
  (h : wpList P ops Q rest (a.put o.dst (.slice (some ⟨w.heap.size, 0, none⟩) n n)) (w.alloc (.cells C e))) : wpList P ops Q (o :: rest) a w := by
 refine wpList_want hgd fun K hK => ?_
 obtain ⟨i, z', g1, g2, g3, g4, g5⟩ := T.hi
 obtain rfl : z' = z := by rw [g1] at hz; simpa [g2] using hz
 have hb : (i.bytes : Int) * (n : Int) ≤ 281474976710656 := by
  rw [g4]
  have : ((bytes * n : Nat) : Int) ≤ 140737488355328 := by omega
  rw [Int.natCast_mul] at this
  omega
 have hr := run_make (P := P) w t e i z' T.ht g1 g2 kl kc n n (by omega) (by omega) hb (by omega)
 rw [g3, Int.toNat_natCast, hC] at hr
 unfold Oper.wp
 simp [execOp, ho, hl, hc, hr, Result.andThen]
 exact hK _ _ h
end

theorem fold_full (cs base : Array Value) (s : Nat) (h : base.size = cs.size) : cs.zipIdx.foldl (fun (a : Array Value) (x : Value × Nat) => a.setIfInBounds (0 * s + x.2) x.1) base = cs := by
 rw [← Array.foldl_toList, Array.toList_zipIdx]
 obtain ⟨k1, k2⟩ := fold_set (0 * s) cs.toList 0 base
 apply Array.ext_getElem?
 intro i
 by_cases hi : i < base.size
 ·
  rw [k2 i hi, if_pos (by simp; omega)]
  simp
 ·
  rw [Array.getElem?_eq_none (by rw [k1]; omega), Array.getElem?_eq_none (by omega)]
theorem fill_one (s : Nat) (base cs : Array Value) (h1 : cs.size = s) (h2 : base.size = s) : Instr.fill (fun i => some (i * s, s)) base [(0, Value.agg cs)] = some cs := by
 have hc : (Value.agg cs).cells = cs := rfl
 have hb : (decide ((Value.agg cs).cells.size ≠ s) || decide (0 * s + (Value.agg cs).cells.size > base.size)) = false := by rw [hc]; simp [h1, h2]
 unfold Instr.fill
 simp only
 rw [hb]
 simp only [Bool.false_eq_true, if_false, hc]
 unfold Instr.fill
 congr 1
 exact fold_full cs base s (by omega)
/-- A slice literal of one struct. -/
theorem wpList_buildOne {P : Program} {w : World} {ops : Array Oper} {rest : List Oper} {o : Oper} {a : Act} {Q : Exit → Act → World → Prop} (hgd : Region.wanted o (yielded ops a.tmps) = true) (t : TypeId) (x : Operand) (ho : o.op = .buildSlice t 1 #[(0, x)])
  {e : TypeId} {size bytes : Nat} (T : ElemT P t e size bytes) (cs : Array Value) (hx : a.eval x = .agg cs) (hs : cs.size = size) (hsm : size ≤ 1000)
  (h : wpList P ops Q rest (a.put o.dst (.slice (some ⟨w.heap.size, 0, none⟩) 1 1)) (w.alloc (.cells cs e))) : wpList P ops Q (o :: rest) a w := by
 obtain ⟨i, z, g1, g2, g3, g4, g5⟩ := T.hi
 have hpos := T.pos
 subst g3
 refine wpList_want hgd fun K hK => wp_buildSlice t e 1 _ ho cs i z T.ht g1 g2 (by omega) (by omega) ?_ (hK _ _ h)
 have e1 : (#[(0, x)].map fun (y : Nat × Operand) => (y.1, a.eval y.2)).toList = [(0, Value.agg cs)] := by simp [hx]
 refine (congrArg _ e1).trans ?_
 exact fill_one i.size _ cs hs (by simp)
theorem madeP : ∀ n : Nat, madeCells ptz.cells (n * 35) = (pcs (List.replicate n ptz)).toArray := by
 intro n
 have hs : ∀ p ∈ List.replicate n ptz, p.cells.toList.length = 35 := fun p hp => by rw [List.eq_of_mem_replicate hp]; rfl
 have hl : (pcs (List.replicate n ptz)).length = n * 35 := by rw [pcs, flat_len _ 35 _ hs, List.length_replicate]
 apply Array.ext'
 apply List.ext_getElem?
 intro i
 by_cases hi : i < n * 35
 ·
  have hq : i / 35 < (List.replicate n ptz).length := by rw [List.length_replicate]; omega
  have e2 : (pcs (List.replicate n ptz))[i]? = ((List.replicate n ptz)[i / 35]'hq).cells.toList[i % 35]? := by
   conv => lhs; rw [show i = i / 35 * 35 + i % 35 by omega]
   exact flat_at _ 35 _ hs (i / 35) hq (i % 35) (Nat.mod_lt _ (by omega))
  show _ = (pcs (List.replicate n ptz))[i]?
  rw [e2, List.getElem_replicate]
  have h5 : i % 35 < ptz.cells.size := Nat.mod_lt _ (by decide)
  rw [List.getElem?_eq_getElem (by simpa [madeCells] using hi), List.getElem?_eq_getElem (by simpa using h5)]
  simp only [madeCells, Array.getElem_toList, Array.getElem_map, Array.getElem_range]
  rw [show ptz.cells.size = 35 from rfl, getElem!_pos ptz.cells (i % 35) h5]
 ·
  rw [List.getElem?_eq_none (by simp [madeCells]; omega), List.getElem?_eq_none (by show (pcs (List.replicate n ptz)).length ≤ i; omega)]
end Go.Proofs.Ytjholekgdnhpkaa
