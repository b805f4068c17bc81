
/- Contracts: what is in a range, the document's (scowref17.PartOf); whether two parts are the same (SamePart of both). Printed by wip/tools/gen_part17.py. -/

import Derived.Test.YtiiekdhlcmaabaaPart

import Derived.Test.YtiiekdhlcmaabaaEqual

import Derived.Test.YtiiekdhlcmaabaaArrEq

namespace Go.Proofs.Ytiiekdhlcmaabaa

open Go.RowKit

attribute [local go_sem] Oper.semAt_some

set_option maxRecDepth 100000 in
set_option maxHeartbeats 1000000 in
theorem ref_partOf (A : Option Addr) (l : List EnV) (cap : Nat) (L H : Option Addr) (lo hi : List UInt8) (cl ch : Nat) (w : World) (hl : RdE w A l) (hf : Fit l) (hL : RdB w L lo) (hH : RdB w H hi) (hcl : lo.length ≤ cl) (hch : hi.length ≤ ch) :
    Calls Try.prog 32 #[.slice A l.length cap, .slice L lo.length cl, .slice H hi.length ch] w fun e' w' => ∃ p : PtV, e' = .returned p.val ∧ p.x = Ent.partOf (l.map EnV.x) lo hi ∧ p.In w' ∧ Below w.heap.size w w' := by
  have hlen := hf.len
  go_enter Try.func32, Try.ntmps32
  go_wp2_with fail
  refine (ref_between A l cap L H lo hi cl ch _ (hl.below (Ext.alloc w _)) (by omega) (hL.below (Ext.alloc w _)) (hH.below (Ext.alloc w _))).mono ?_
  rintro e w1 ⟨A1, c1, rfl, ho1, hb1⟩
  obtain ⟨C0, hC0, hsz⟩ : ∃ C0, w1.heap[w.heap.size]? = some (.cells C0 33 (0, 0)) ∧ C0.size = 35 := ⟨_, (hb1.block _ (by simp)).trans (heap_alloc_new w _), rfl⟩
  have hE1 : Ext w w1 := Ext.tr (Ext.alloc w _) hb1
  have hf1 := hf.bet lo hi
  have hr1 : RdE w1 A1 (betV l lo hi) := ho1.rdE fun e he => (hl.each e (betV_mem he)).below hE1
  obtain ⟨d, hd⟩ : ∃ d, d = betV l lo hi := ⟨_, rfl⟩
  have hdx : Hid (Ent.partOf (l.map EnV.x) lo hi = ⟨lo, hi, (d.length : Int), Ent.digest (d.map EnV.x)⟩) := by
    show _ = _
    unfold Ent.partOf
    rw [← betV_map, ← hd]
    simp
  rw [← hd] at hf1 hr1 ⊢
  have hdlen := hf1.len
  clear ho1 hb1 hd hf
  go_wp2_with fail
  refine (ref_edigest A1 d c1 w1 hr1 (by omega) hf1.total hf1.putAll).mono ?_
  rintro e w2 ⟨rfl, hb2⟩
  have hz := Ent.digest_len (d.map EnV.x)
  obtain ⟨z, hz0⟩ : ∃ z, z = Ent.digest (d.map EnV.x) := ⟨_, rfl⟩
  rw [← hz0] at hz hdx ⊢
  have hg2 := (hb2.block _ (lt_of_heap hC0)).trans hC0
  have hE2 := Ext.tr hE1 hb2
  have hzz : (bvs z).toArray.size = 32 := by rw [List.size_toArray, bvs_len, hz]
  obtain ⟨p, hp⟩ : ∃ p : PtV, p = ⟨L, cl, H, ch, ⟨lo, hi, (d.length : Int), z⟩⟩ := ⟨_, rfl⟩
  have hps : p.x.sum.length = 32 := by rw [hp]; exact hz
  have hpc : p.cells = #[.slice L lo.length cl, .slice H hi.length ch, .int .i64 (d.length : Int)] ++ (bvs z).toArray := by rw [hp]; rfl
  have hpx : p.x = ⟨lo, hi, (d.length : Int), z⟩ := by rw [hp]
  have hpin : p.In (w2.setRow w.heap.size p.cells) := by
    have hin : ∀ cs, PtV.In (w2.setRow w.heap.size cs) ⟨L, cl, H, ch, ⟨lo, hi, (d.length : Int), z⟩⟩ := fun cs => by
      have hE := ext_rowD hE2 (Nat.le_refl _) cs
      exact ⟨hL.below hE, hH.below hE, hcl, hch, hz, by show -9223372036854775808 ≤ (d.length : Int); omega, by show (d.length : Int) ≤ 9223372036854775807; omega⟩
    have := hin p.cells
    rwa [← hp] at this
  have HPC := Lib.hid hpc
  have HPX := Lib.hid hpx
  clear hb2 hC0 hE1 hf1 hr1 hz0 hp hpc hpx hzz
  have hzb : (bvs z).length = 32 := by rw [bvs_len, hz]
  go_wp2_with (refine wpList_store_row rfl 33 (.tmp 6) (.tmp 18) rfl w.heap.size p.cells rfl (by show Value.agg _ = _; rw [HPC.out]; exact congrArg Value.agg (fold35 _ _ _ _ (by rfl) (by rfl) (by rfl) (by rfl) z hz)) 33 _ hg2 (pinfo hps) (by rw [hsz, psize hps]) (pone p) ?_)
  have hg4 := setRow_heap w2 w.heap.size _ p.cells _ _ hg2
  (try simp only [Exit.inBlock, Exit.then])
  refine bodyPost_ret (results_cell_row rfl _ _ w.heap.size 33 p.cells (0, 0) _ rfl hg4 Try.underlying33 rfl (pinfo hps)) rfl ?_
  exact ⟨p, rfl, by rw [HPX.out, hdx.out], hpin, ext_rowD hE2 (Nat.le_refl _) _⟩

def Pt.same (a b : Pt) : Bool := (a.lo == b.lo) && (a.hi == b.hi) && (a.count == b.count) && (a.sum == b.sum)
theorem Pt.same_iff (a b : Pt) : a.same b = true ↔ a = b := by
  obtain ⟨a1, a2, a3, a4⟩ := a
  obtain ⟨b1, b2, b3, b4⟩ := b
  simp only [Pt.same, Bool.and_eq_true, beq_iff_eq, Pt.mk.injEq]
  constructor
  · rintro ⟨⟨⟨h1, h2⟩, h3⟩, h4⟩; exact ⟨h1, h2, h3, h4⟩
  · rintro ⟨h1, h2, h3, h4⟩; exact ⟨⟨⟨h1, h2⟩, h3⟩, h4⟩
theorem Pt.same_refl (a : Pt) : a.same a = true := (Pt.same_iff a a).2 rfl
theorem pc0 (p : PtV) : p.cells[0]? = some (.slice p.la p.x.lo.length p.lc) := by simp [PtV.cells]
theorem pc1 (p : PtV) : p.cells[1]? = some (.slice p.ha p.x.hi.length p.hc) := by simp [PtV.cells]
theorem pc2 (p : PtV) : p.cells[2]? = some (.int .i64 p.x.count) := by simp [PtV.cells]
theorem pc3 (p : PtV) (j : Nat) : p.cells[3 + j]? = (bvs p.x.sum).toArray[j]? := by
  unfold PtV.cells
  rw [Array.getElem?_append_right (by simp)]
  congr 1
  simp
theorem eqArr10 (x y : List UInt8) (w : World) (hx : x.length = 32) (hy : y.length = 32) : (Op.equalIn 10000 31 (.agg (bvs x).toArray) (.agg (bvs y).toArray)).run Try.prog w = .ok (x == y) w := by
  rw [show (10000 : Nat) = 9998 + 2 from rfl, run_eqArr x y w 9998 _ Try.underlying31 hx hy]
theorem sInfo (z : List UInt8) (h : z.length = 32) : (Try.prog.info? 31).map (·.size) = some (bvs z).toArray.size := by rw [List.size_toArray, bvs_len, h]; kernel_rfl

set_option maxRecDepth 100000 in
set_option maxHeartbeats 1000000 in
theorem refpsame_0 (p q : PtV) (w : World) (hp : p.In w) (hq : q.In w)  (h0 : (p.x.lo == q.x.lo) = false) :
    Calls Try.prog 28 #[.agg p.cells, .agg q.cells] w fun e w' => e = .returned (.bool false) ∧ Below w.heap.size w w' := by
  have hE : Ext w ((w.alloc (.cells p.cells 33)).alloc (.cells q.cells 33)) := Ext.tr (Ext.alloc _ _) (Ext.alloc _ _)
  have g0 : ((w.alloc (.cells p.cells 33)).alloc (.cells q.cells 33)).heap[w.heap.size]? = some (.cells p.cells 33 (0, 0)) := ((Ext.alloc _ _).block _ (lt_of_heap (heap_alloc_new w _))).trans (heap_alloc_new w _)
  have k0 : ((w.alloc (.cells p.cells 33)).alloc (.cells q.cells 33)).heap[w.heap.size + 1]? = some (.cells q.cells 33 (0, 0)) := by simpa using heap_alloc_new (w.alloc (.cells p.cells 33)) (.cells q.cells 33)
  have cp0 : ((w.alloc (.cells p.cells 33)).alloc (.cells q.cells 33)).cell? ⟨w.heap.size, 0, none⟩ = some (.slice p.la p.x.lo.length p.lc) := (cell_of_row _ _ 0 _ _ _ g0).trans (pc0 p)
  have cp1 : ((w.alloc (.cells p.cells 33)).alloc (.cells q.cells 33)).cell? ⟨w.heap.size, 1, none⟩ = some (.slice p.ha p.x.hi.length p.hc) := (cell_of_row _ _ 1 _ _ _ g0).trans (pc1 p)
  have cp2 : ((w.alloc (.cells p.cells 33)).alloc (.cells q.cells 33)).cell? ⟨w.heap.size, 2, none⟩ = some (.int .i64 p.x.count) := (cell_of_row _ _ 2 _ _ _ g0).trans (pc2 p)
  have cq0 : ((w.alloc (.cells p.cells 33)).alloc (.cells q.cells 33)).cell? ⟨w.heap.size + 1, 0, none⟩ = some (.slice q.la q.x.lo.length q.lc) := (cell_of_row _ _ 0 _ _ _ k0).trans (pc0 q)
  have cq1 : ((w.alloc (.cells p.cells 33)).alloc (.cells q.cells 33)).cell? ⟨w.heap.size + 1, 1, none⟩ = some (.slice q.ha q.x.hi.length q.hc) := (cell_of_row _ _ 1 _ _ _ k0).trans (pc1 q)
  have cq2 : ((w.alloc (.cells p.cells 33)).alloc (.cells q.cells 33)).cell? ⟨w.heap.size + 1, 2, none⟩ = some (.int .i64 q.x.count) := (cell_of_row _ _ 2 _ _ _ k0).trans (pc2 q)
  have r0 := run_str ((w.alloc (.cells p.cells 33)).alloc (.cells q.cells 33)) 23 9 5 p.la p.x.lo p.lc Try.underlying23 Try.underlying5 Try.underlying9 (hp.lr.below hE) p.x.lo.length rfl
  have r1 := run_str ((w.alloc (.cells p.cells 33)).alloc (.cells q.cells 33)) 23 9 5 q.la q.x.lo q.lc Try.underlying23 Try.underlying5 Try.underlying9 (hq.lr.below hE) q.x.lo.length rfl
  have r2 := run_str ((w.alloc (.cells p.cells 33)).alloc (.cells q.cells 33)) 23 9 5 p.ha p.x.hi p.hc Try.underlying23 Try.underlying5 Try.underlying9 (hp.hr.below hE) p.x.hi.length rfl
  have r3 := run_str ((w.alloc (.cells p.cells 33)).alloc (.cells q.cells 33)) 23 9 5 q.ha q.x.hi q.hc Try.underlying23 Try.underlying5 Try.underlying9 (hq.hr.below hE) q.x.hi.length rfl
  have HE := Lib.hid hE
  clear hE g0 k0
  have n0 : ¬ p.x.lo = q.x.lo := by simpa using h0
  clear h0
  go_enter Try.func28, Try.ntmps28
  go_wp2_with fail
  go_ret
  exact ⟨rfl, HE.out⟩

set_option maxRecDepth 100000 in
set_option maxHeartbeats 1000000 in
theorem refpsame_1 (p q : PtV) (w : World) (hp : p.In w) (hq : q.In w) (h0 : (p.x.lo == q.x.lo) = true) (h1 : (p.x.hi == q.x.hi) = false) :
    Calls Try.prog 28 #[.agg p.cells, .agg q.cells] w fun e w' => e = .returned (.bool false) ∧ Below w.heap.size w w' := by
  have hE : Ext w ((w.alloc (.cells p.cells 33)).alloc (.cells q.cells 33)) := Ext.tr (Ext.alloc _ _) (Ext.alloc _ _)
  have g0 : ((w.alloc (.cells p.cells 33)).alloc (.cells q.cells 33)).heap[w.heap.size]? = some (.cells p.cells 33 (0, 0)) := ((Ext.alloc _ _).block _ (lt_of_heap (heap_alloc_new w _))).trans (heap_alloc_new w _)
  have k0 : ((w.alloc (.cells p.cells 33)).alloc (.cells q.cells 33)).heap[w.heap.size + 1]? = some (.cells q.cells 33 (0, 0)) := by simpa using heap_alloc_new (w.alloc (.cells p.cells 33)) (.cells q.cells 33)
  have cp0 : ((w.alloc (.cells p.cells 33)).alloc (.cells q.cells 33)).cell? ⟨w.heap.size, 0, none⟩ = some (.slice p.la p.x.lo.length p.lc) := (cell_of_row _ _ 0 _ _ _ g0).trans (pc0 p)
  have cp1 : ((w.alloc (.cells p.cells 33)).alloc (.cells q.cells 33)).cell? ⟨w.heap.size, 1, none⟩ = some (.slice p.ha p.x.hi.length p.hc) := (cell_of_row _ _ 1 _ _ _ g0).trans (pc1 p)
  have cp2 : ((w.alloc (.cells p.cells 33)).alloc (.cells q.cells 33)).cell? ⟨w.heap.size, 2, none⟩ = some (.int .i64 p.x.count) := (cell_of_row _ _ 2 _ _ _ g0).trans (pc2 p)
  have cq0 : ((w.alloc (.cells p.cells 33)).alloc (.cells q.cells 33)).cell? ⟨w.heap.size + 1, 0, none⟩ = some (.slice q.la q.x.lo.length q.lc) := (cell_of_row _ _ 0 _ _ _ k0).trans (pc0 q)
  have cq1 : ((w.alloc (.cells p.cells 33)).alloc (.cells q.cells 33)).cell? ⟨w.heap.size + 1, 1, none⟩ = some (.slice q.ha q.x.hi.length q.hc) := (cell_of_row _ _ 1 _ _ _ k0).trans (pc1 q)
  have cq2 : ((w.alloc (.cells p.cells 33)).alloc (.cells q.cells 33)).cell? ⟨w.heap.size + 1, 2, none⟩ = some (.int .i64 q.x.count) := (cell_of_row _ _ 2 _ _ _ k0).trans (pc2 q)
  have r0 := run_str ((w.alloc (.cells p.cells 33)).alloc (.cells q.cells 33)) 23 9 5 p.la p.x.lo p.lc Try.underlying23 Try.underlying5 Try.underlying9 (hp.lr.below hE) p.x.lo.length rfl
  have r1 := run_str ((w.alloc (.cells p.cells 33)).alloc (.cells q.cells 33)) 23 9 5 q.la q.x.lo q.lc Try.underlying23 Try.underlying5 Try.underlying9 (hq.lr.below hE) q.x.lo.length rfl
  have r2 := run_str ((w.alloc (.cells p.cells 33)).alloc (.cells q.cells 33)) 23 9 5 p.ha p.x.hi p.hc Try.underlying23 Try.underlying5 Try.underlying9 (hp.hr.below hE) p.x.hi.length rfl
  have r3 := run_str ((w.alloc (.cells p.cells 33)).alloc (.cells q.cells 33)) 23 9 5 q.ha q.x.hi q.hc Try.underlying23 Try.underlying5 Try.underlying9 (hq.hr.below hE) q.x.hi.length rfl
  have HE := Lib.hid hE
  clear hE g0 k0
  have n0 : p.x.lo = q.x.lo := by simpa using h0
  rw [n0] at cp0 r0
  clear h0 n0
  have n1 : ¬ p.x.hi = q.x.hi := by simpa using h1
  clear h1
  go_enter Try.func28, Try.ntmps28
  go_wp2_with fail
  go_ret
  exact ⟨rfl, HE.out⟩

set_option maxRecDepth 100000 in
set_option maxHeartbeats 1000000 in
theorem refpsame_2 (p q : PtV) (w : World) (hp : p.In w) (hq : q.In w) (h0 : (p.x.lo == q.x.lo) = true) (h1 : (p.x.hi == q.x.hi) = true) (h2 : (p.x.count == q.x.count) = false) :
    Calls Try.prog 28 #[.agg p.cells, .agg q.cells] w fun e w' => e = .returned (.bool false) ∧ Below w.heap.size w w' := by
  have hE : Ext w ((w.alloc (.cells p.cells 33)).alloc (.cells q.cells 33)) := Ext.tr (Ext.alloc _ _) (Ext.alloc _ _)
  have g0 : ((w.alloc (.cells p.cells 33)).alloc (.cells q.cells 33)).heap[w.heap.size]? = some (.cells p.cells 33 (0, 0)) := ((Ext.alloc _ _).block _ (lt_of_heap (heap_alloc_new w _))).trans (heap_alloc_new w _)
  have k0 : ((w.alloc (.cells p.cells 33)).alloc (.cells q.cells 33)).heap[w.heap.size + 1]? = some (.cells q.cells 33 (0, 0)) := by simpa using heap_alloc_new (w.alloc (.cells p.cells 33)) (.cells q.cells 33)
  have cp0 : ((w.alloc (.cells p.cells 33)).alloc (.cells q.cells 33)).cell? ⟨w.heap.size, 0, none⟩ = some (.slice p.la p.x.lo.length p.lc) := (cell_of_row _ _ 0 _ _ _ g0).trans (pc0 p)
  have cp1 : ((w.alloc (.cells p.cells 33)).alloc (.cells q.cells 33)).cell? ⟨w.heap.size, 1, none⟩ = some (.slice p.ha p.x.hi.length p.hc) := (cell_of_row _ _ 1 _ _ _ g0).trans (pc1 p)
  have cp2 : ((w.alloc (.cells p.cells 33)).alloc (.cells q.cells 33)).cell? ⟨w.heap.size, 2, none⟩ = some (.int .i64 p.x.count) := (cell_of_row _ _ 2 _ _ _ g0).trans (pc2 p)
  have cq0 : ((w.alloc (.cells p.cells 33)).alloc (.cells q.cells 33)).cell? ⟨w.heap.size + 1, 0, none⟩ = some (.slice q.la q.x.lo.length q.lc) := (cell_of_row _ _ 0 _ _ _ k0).trans (pc0 q)
  have cq1 : ((w.alloc (.cells p.cells 33)).alloc (.cells q.cells 33)).cell? ⟨w.heap.size + 1, 1, none⟩ = some (.slice q.ha q.x.hi.length q.hc) := (cell_of_row _ _ 1 _ _ _ k0).trans (pc1 q)
  have cq2 : ((w.alloc (.cells p.cells 33)).alloc (.cells q.cells 33)).cell? ⟨w.heap.size + 1, 2, none⟩ = some (.int .i64 q.x.count) := (cell_of_row _ _ 2 _ _ _ k0).trans (pc2 q)
  have r0 := run_str ((w.alloc (.cells p.cells 33)).alloc (.cells q.cells 33)) 23 9 5 p.la p.x.lo p.lc Try.underlying23 Try.underlying5 Try.underlying9 (hp.lr.below hE) p.x.lo.length rfl
  have r1 := run_str ((w.alloc (.cells p.cells 33)).alloc (.cells q.cells 33)) 23 9 5 q.la q.x.lo q.lc Try.underlying23 Try.underlying5 Try.underlying9 (hq.lr.below hE) q.x.lo.length rfl
  have r2 := run_str ((w.alloc (.cells p.cells 33)).alloc (.cells q.cells 33)) 23 9 5 p.ha p.x.hi p.hc Try.underlying23 Try.underlying5 Try.underlying9 (hp.hr.below hE) p.x.hi.length rfl
  have r3 := run_str ((w.alloc (.cells p.cells 33)).alloc (.cells q.cells 33)) 23 9 5 q.ha q.x.hi q.hc Try.underlying23 Try.underlying5 Try.underlying9 (hq.hr.below hE) q.x.hi.length rfl
  have HE := Lib.hid hE
  clear hE g0 k0
  have n0 : p.x.lo = q.x.lo := by simpa using h0
  rw [n0] at cp0 r0
  clear h0 n0
  have n1 : p.x.hi = q.x.hi := by simpa using h1
  rw [n1] at cp1 r2
  clear h1 n1
  go_enter Try.func28, Try.ntmps28
  go_wp2_with fail
  go_ret
  exact ⟨rfl, HE.out⟩

set_option maxRecDepth 100000 in
set_option maxHeartbeats 1000000 in
theorem refpsame_3 (p q : PtV) (w : World) (hp : p.In w) (hq : q.In w) (h0 : (p.x.lo == q.x.lo) = true) (h1 : (p.x.hi == q.x.hi) = true) (h2 : (p.x.count == q.x.count) = true) (h3 : (p.x.sum == q.x.sum) = false) :
    Calls Try.prog 28 #[.agg p.cells, .agg q.cells] w fun e w' => e = .returned (.bool false) ∧ Below w.heap.size w w' := by
  have hE : Ext w ((w.alloc (.cells p.cells 33)).alloc (.cells q.cells 33)) := Ext.tr (Ext.alloc _ _) (Ext.alloc _ _)
  have g0 : ((w.alloc (.cells p.cells 33)).alloc (.cells q.cells 33)).heap[w.heap.size]? = some (.cells p.cells 33 (0, 0)) := ((Ext.alloc _ _).block _ (lt_of_heap (heap_alloc_new w _))).trans (heap_alloc_new w _)
  have k0 : ((w.alloc (.cells p.cells 33)).alloc (.cells q.cells 33)).heap[w.heap.size + 1]? = some (.cells q.cells 33 (0, 0)) := by simpa using heap_alloc_new (w.alloc (.cells p.cells 33)) (.cells q.cells 33)
  have cp0 : ((w.alloc (.cells p.cells 33)).alloc (.cells q.cells 33)).cell? ⟨w.heap.size, 0, none⟩ = some (.slice p.la p.x.lo.length p.lc) := (cell_of_row _ _ 0 _ _ _ g0).trans (pc0 p)
  have cp1 : ((w.alloc (.cells p.cells 33)).alloc (.cells q.cells 33)).cell? ⟨w.heap.size, 1, none⟩ = some (.slice p.ha p.x.hi.length p.hc) := (cell_of_row _ _ 1 _ _ _ g0).trans (pc1 p)
  have cp2 : ((w.alloc (.cells p.cells 33)).alloc (.cells q.cells 33)).cell? ⟨w.heap.size, 2, none⟩ = some (.int .i64 p.x.count) := (cell_of_row _ _ 2 _ _ _ g0).trans (pc2 p)
  have cq0 : ((w.alloc (.cells p.cells 33)).alloc (.cells q.cells 33)).cell? ⟨w.heap.size + 1, 0, none⟩ = some (.slice q.la q.x.lo.length q.lc) := (cell_of_row _ _ 0 _ _ _ k0).trans (pc0 q)
  have cq1 : ((w.alloc (.cells p.cells 33)).alloc (.cells q.cells 33)).cell? ⟨w.heap.size + 1, 1, none⟩ = some (.slice q.ha q.x.hi.length q.hc) := (cell_of_row _ _ 1 _ _ _ k0).trans (pc1 q)
  have cq2 : ((w.alloc (.cells p.cells 33)).alloc (.cells q.cells 33)).cell? ⟨w.heap.size + 1, 2, none⟩ = some (.int .i64 q.x.count) := (cell_of_row _ _ 2 _ _ _ k0).trans (pc2 q)
  have hs1 : ∀ i u, ((bvs p.x.sum).toArray)[i]? = some u → ((w.alloc (.cells p.cells 33)).alloc (.cells q.cells 33)).cell? ((⟨w.heap.size, 3, none⟩ : Addr).add i) = some u := fun i u hi => by
    rw [Addr.add_lit, cell_of_row _ _ _ _ _ _ g0, pc3]; exact hi
  have hs2 : ∀ i u, ((bvs q.x.sum).toArray)[i]? = some u → ((w.alloc (.cells p.cells 33)).alloc (.cells q.cells 33)).cell? ((⟨w.heap.size + 1, 3, none⟩ : Addr).add i) = some u := fun i u hi => by
    rw [Addr.add_lit, cell_of_row _ _ _ _ _ _ k0, pc3]; exact hi
  have HS1 := Lib.hid hs1
  have HS2 := Lib.hid hs2
  have hrun := eqArr10 p.x.sum q.x.sum ((w.alloc (.cells p.cells 33)).alloc (.cells q.cells 33)) hp.sum hq.sum
  rw [h3] at hrun
  have Hrun := Lib.hid hrun
  have hi1 := sInfo _ hp.sum
  have hi2 := sInfo _ hq.sum
  clear hs1 hs2 h3 hrun
  have r0 := run_str ((w.alloc (.cells p.cells 33)).alloc (.cells q.cells 33)) 23 9 5 p.la p.x.lo p.lc Try.underlying23 Try.underlying5 Try.underlying9 (hp.lr.below hE) p.x.lo.length rfl
  have r1 := run_str ((w.alloc (.cells p.cells 33)).alloc (.cells q.cells 33)) 23 9 5 q.la q.x.lo q.lc Try.underlying23 Try.underlying5 Try.underlying9 (hq.lr.below hE) q.x.lo.length rfl
  have r2 := run_str ((w.alloc (.cells p.cells 33)).alloc (.cells q.cells 33)) 23 9 5 p.ha p.x.hi p.hc Try.underlying23 Try.underlying5 Try.underlying9 (hp.hr.below hE) p.x.hi.length rfl
  have r3 := run_str ((w.alloc (.cells p.cells 33)).alloc (.cells q.cells 33)) 23 9 5 q.ha q.x.hi q.hc Try.underlying23 Try.underlying5 Try.underlying9 (hq.hr.below hE) q.x.hi.length rfl
  have HE := Lib.hid hE
  clear hE g0 k0
  have n0 : p.x.lo = q.x.lo := by simpa using h0
  rw [n0] at cp0 r0
  clear h0 n0
  have n1 : p.x.hi = q.x.hi := by simpa using h1
  rw [n1] at cp1 r2
  clear h1 n1
  go_enter Try.func28, Try.ntmps28
  go_wp2_with (first | (have hcx := HS1.out; refine wpList_load_cells rfl 31 (.tmp 29) rfl _ rfl (bvs p.x.sum).toArray _ hcx Try.underlying31 rfl hi1 ?_; clear hcx) | (have hcx := HS2.out; refine wpList_load_cells rfl 31 (.tmp 31) rfl _ rfl (bvs q.x.sum).toArray _ hcx Try.underlying31 rfl hi2 ?_; clear hcx; have hrun := Hrun.out))
  go_ret
  exact ⟨rfl, HE.out⟩

set_option maxRecDepth 100000 in
set_option maxHeartbeats 1000000 in
theorem refpsame_4 (p q : PtV) (w : World) (hp : p.In w) (hq : q.In w) (h0 : (p.x.lo == q.x.lo) = true) (h1 : (p.x.hi == q.x.hi) = true) (h2 : (p.x.count == q.x.count) = true) (h3 : (p.x.sum == q.x.sum) = true) :
    Calls Try.prog 28 #[.agg p.cells, .agg q.cells] w fun e w' => e = .returned (.bool true) ∧ Below w.heap.size w w' := by
  have hE : Ext w ((w.alloc (.cells p.cells 33)).alloc (.cells q.cells 33)) := Ext.tr (Ext.alloc _ _) (Ext.alloc _ _)
  have g0 : ((w.alloc (.cells p.cells 33)).alloc (.cells q.cells 33)).heap[w.heap.size]? = some (.cells p.cells 33 (0, 0)) := ((Ext.alloc _ _).block _ (lt_of_heap (heap_alloc_new w _))).trans (heap_alloc_new w _)
  have k0 : ((w.alloc (.cells p.cells 33)).alloc (.cells q.cells 33)).heap[w.heap.size + 1]? = some (.cells q.cells 33 (0, 0)) := by simpa using heap_alloc_new (w.alloc (.cells p.cells 33)) (.cells q.cells 33)
  have cp0 : ((w.alloc (.cells p.cells 33)).alloc (.cells q.cells 33)).cell? ⟨w.heap.size, 0, none⟩ = some (.slice p.la p.x.lo.length p.lc) := (cell_of_row _ _ 0 _ _ _ g0).trans (pc0 p)
  have cp1 : ((w.alloc (.cells p.cells 33)).alloc (.cells q.cells 33)).cell? ⟨w.heap.size, 1, none⟩ = some (.slice p.ha p.x.hi.length p.hc) := (cell_of_row _ _ 1 _ _ _ g0).trans (pc1 p)
  have cp2 : ((w.alloc (.cells p.cells 33)).alloc (.cells q.cells 33)).cell? ⟨w.heap.size, 2, none⟩ = some (.int .i64 p.x.count) := (cell_of_row _ _ 2 _ _ _ g0).trans (pc2 p)
  have cq0 : ((w.alloc (.cells p.cells 33)).alloc (.cells q.cells 33)).cell? ⟨w.heap.size + 1, 0, none⟩ = some (.slice q.la q.x.lo.length q.lc) := (cell_of_row _ _ 0 _ _ _ k0).trans (pc0 q)
  have cq1 : ((w.alloc (.cells p.cells 33)).alloc (.cells q.cells 33)).cell? ⟨w.heap.size + 1, 1, none⟩ = some (.slice q.ha q.x.hi.length q.hc) := (cell_of_row _ _ 1 _ _ _ k0).trans (pc1 q)
  have cq2 : ((w.alloc (.cells p.cells 33)).alloc (.cells q.cells 33)).cell? ⟨w.heap.size + 1, 2, none⟩ = some (.int .i64 q.x.count) := (cell_of_row _ _ 2 _ _ _ k0).trans (pc2 q)
  have hs1 : ∀ i u, ((bvs p.x.sum).toArray)[i]? = some u → ((w.alloc (.cells p.cells 33)).alloc (.cells q.cells 33)).cell? ((⟨w.heap.size, 3, none⟩ : Addr).add i) = some u := fun i u hi => by
    rw [Addr.add_lit, cell_of_row _ _ _ _ _ _ g0, pc3]; exact hi
  have hs2 : ∀ i u, ((bvs q.x.sum).toArray)[i]? = some u → ((w.alloc (.cells p.cells 33)).alloc (.cells q.cells 33)).cell? ((⟨w.heap.size + 1, 3, none⟩ : Addr).add i) = some u := fun i u hi => by
    rw [Addr.add_lit, cell_of_row _ _ _ _ _ _ k0, pc3]; exact hi
  have HS1 := Lib.hid hs1
  have HS2 := Lib.hid hs2
  have hrun := eqArr10 p.x.sum q.x.sum ((w.alloc (.cells p.cells 33)).alloc (.cells q.cells 33)) hp.sum hq.sum
  rw [h3] at hrun
  have Hrun := Lib.hid hrun
  have hi1 := sInfo _ hp.sum
  have hi2 := sInfo _ hq.sum
  clear hs1 hs2 h3 hrun
  have r0 := run_str ((w.alloc (.cells p.cells 33)).alloc (.cells q.cells 33)) 23 9 5 p.la p.x.lo p.lc Try.underlying23 Try.underlying5 Try.underlying9 (hp.lr.below hE) p.x.lo.length rfl
  have r1 := run_str ((w.alloc (.cells p.cells 33)).alloc (.cells q.cells 33)) 23 9 5 q.la q.x.lo q.lc Try.underlying23 Try.underlying5 Try.underlying9 (hq.lr.below hE) q.x.lo.length rfl
  have r2 := run_str ((w.alloc (.cells p.cells 33)).alloc (.cells q.cells 33)) 23 9 5 p.ha p.x.hi p.hc Try.underlying23 Try.underlying5 Try.underlying9 (hp.hr.below hE) p.x.hi.length rfl
  have r3 := run_str ((w.alloc (.cells p.cells 33)).alloc (.cells q.cells 33)) 23 9 5 q.ha q.x.hi q.hc Try.underlying23 Try.underlying5 Try.underlying9 (hq.hr.below hE) q.x.hi.length rfl
  have HE := Lib.hid hE
  clear hE g0 k0
  have n0 : p.x.lo = q.x.lo := by simpa using h0
  rw [n0] at cp0 r0
  clear h0 n0
  have n1 : p.x.hi = q.x.hi := by simpa using h1
  rw [n1] at cp1 r2
  clear h1 n1
  go_enter Try.func28, Try.ntmps28
  go_wp2_with (first | (have hcx := HS1.out; refine wpList_load_cells rfl 31 (.tmp 29) rfl _ rfl (bvs p.x.sum).toArray _ hcx Try.underlying31 rfl hi1 ?_; clear hcx) | (have hcx := HS2.out; refine wpList_load_cells rfl 31 (.tmp 31) rfl _ rfl (bvs q.x.sum).toArray _ hcx Try.underlying31 rfl hi2 ?_; clear hcx; have hrun := Hrun.out))
  go_ret
  exact ⟨rfl, HE.out⟩

theorem ref_samePart (p q : PtV) (w : World) (hp : p.In w) (hq : q.In w) : Calls Try.prog 28 #[p.val, q.val] w fun e w' => e = .returned (.bool (p.x.same q.x)) ∧ Below w.heap.size w w' := by
  simp only [Pt.same, PtV.val]
  cases h0 : (p.x.lo == q.x.lo) with
  | false =>
    simp only [Bool.true_and, Bool.and_false, Bool.false_and, Bool.and_self]
    exact refpsame_0 p q w hp hq h0
  | true =>
    cases h1 : (p.x.hi == q.x.hi) with
    | false =>
      simp only [Bool.true_and, Bool.and_false, Bool.false_and, Bool.and_self]
      exact refpsame_1 p q w hp hq h0 h1
    | true =>
      cases h2 : (p.x.count == q.x.count) with
      | false =>
        simp only [Bool.true_and, Bool.and_false, Bool.false_and, Bool.and_self]
        exact refpsame_2 p q w hp hq h0 h1 h2
      | true =>
        cases h3 : (p.x.sum == q.x.sum) with
        | false =>
          simp only [Bool.true_and, Bool.and_false, Bool.false_and, Bool.and_self]
          exact refpsame_3 p q w hp hq h0 h1 h2 h3
        | true =>
          simp only [Bool.and_self]
          exact refpsame_4 p q w hp hq h0 h1 h2 h3

end Go.Proofs.Ytiiekdhlcmaabaa
