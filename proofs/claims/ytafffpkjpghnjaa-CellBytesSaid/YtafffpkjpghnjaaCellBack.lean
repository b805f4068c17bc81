/- The walks of the laws CellBack and CellBytes. Printed by wip/tools/gen_cellback.py. -/
import Derived.Test.YtafffpkjpghnjaaCellLaw
namespace Go.Proofs.Ytafffpkjpghnjaa
open Go.RowKit
attribute [local go_sem] Oper.semAt_some

set_option maxRecDepth 100000 in
set_option maxHeartbeats 2000000 in
theorem back_big (w : World) (c : CellV) (hc : c.In w) (hsm : c.small = false) :
    Calls Try.prog 5 #[c.val] w fun e w' => e = .returned (.bool true) ∧ Below w.heap.size w w' := by
  have hE0 := Ext.alloc w (.cells c.cells 25)
  have g0 := heap_alloc_new w (.cells c.cells 25)
  have hs := small07 c (w.alloc (.cells c.cells 25))
  have hi := cinfo c
  simp only [CellV.val] at hs ⊢
  rw [hsm] at hs
  clear hsm
  go_enter Try.func5, Try.ntmps5
  go_wp2_with (refine wpList_load_rowG rfl 25 (.tmp 1) rfl w.heap.size rfl 25 c.cells (0, 0) _ g0 Try.underlying25 rfl hi ?_)
  refine hs.mono ?_
  rintro e w1 ⟨rfl, hb1⟩
  go_wp2_with fail
  refine (live07 _).mono ?_
  rintro e w9 ⟨rfl, hb9⟩
  go_wp2
  go_ret
  exact ⟨rfl, Ext.tr hE0 (Ext.tr hb1 hb9)⟩

set_option maxRecDepth 100000 in
set_option maxHeartbeats 2000000 in
theorem back_11 (w : World) (c : CellV) (hc : c.In w) (hsm : c.small = true) (hl : c.x.leaf = true) (hn : c.x.inner = true) :
    Calls Try.prog 5 #[c.val] w fun e w' => e = .returned (.bool true) ∧ Below w.heap.size w w' := by
  have hE0 := Ext.alloc w (.cells c.cells 25)
  have g0 := heap_alloc_new w (.cells c.cells 25)
  have hs := small07 c (w.alloc (.cells c.cells 25))
  have hi := cinfo c
  simp only [CellV.val] at hs ⊢
  rw [hsm] at hs
  clear hsm
  have hPL := fun W (h : c.In W) => putLeaf_any c W h
  have eL : c.x.putL = (c.x.flatL, 0) := by unfold Cl.putL; rw [if_pos hl]
  obtain ⟨DL, hDL⟩ : ∃ D, D = c.x.flatL := ⟨_, rfl⟩
  have hlenL := Cl.flatL_len hl
  have hGL := fun A cp W (h : RdB W A DL) (h2 : DL.length ≤ cp) => getLeaf_any A DL cp W h h2 (by rw [hDL]; omega)
  have hbkL := Cl.back_leaf hl hc.over
  rw [← hDL] at eL hlenL hbkL
  rw [hbkL] at hGL
  simp only [eL, CellV.val] at hPL
  have HPL := Lib.hid hPL
  have HGL := Lib.hid hGL
  clear hPL hGL eL hbkL hDL hl
  have hPI := fun W (h : c.In W) => putInner_any c W h
  have eI : c.x.putI = (c.x.flatI, 0) := by unfold Cl.putI; rw [if_pos hn]
  obtain ⟨DI, hDI⟩ : ∃ D, D = c.x.flatI := ⟨_, rfl⟩
  have hlenI := Cl.flatI_len hn
  have hGI := fun A cp W (h : RdB W A DI) (h2 : DI.length ≤ cp) => getInner_any A DI cp W h h2 (by rw [hDI]; omega)
  have hbkI := Cl.back_inner hn hc.kid
  rw [← hDI] at eI hlenI hbkI
  rw [hbkI] at hGI
  simp only [eI, CellV.val] at hPI
  have HPI := Lib.hid hPI
  have HGI := Lib.hid hGI
  clear hPI hGI eI hbkI hDI hn
  go_enter Try.func5, Try.ntmps5
  go_wp2_with (refine wpList_load_rowG rfl 25 (.tmp 1) rfl w.heap.size rfl 25 c.cells (0, 0) _ g0 Try.underlying25 rfl hi ?_)
  refine hs.mono ?_
  rintro e w1 ⟨rfl, hb1⟩
  have g1 := (hb1.block _ (lt_of_heap g0)).trans g0
  have hE1 := Ext.tr hE0 hb1
  clear hs hb1 g0 hE0
  go_wp2_with (first | (refine wpList_load_rowG rfl 25 (.tmp 1) rfl w.heap.size rfl 25 c.cells (0, 0) _ g1 Try.underlying25 rfl hi ?_) | (go_at_call 13; refine (num07 _ _).mono ?_; rintro e w' ⟨rfl, rfl⟩))
  refine (HPL.out w1 (hc.below hE1)).mono ?_
  rintro e w2 ⟨A2, c2, rfl, ho2, hb2⟩
  have g2 := (hb2.block _ (lt_of_heap g1)).trans g1
  have hE2 := Ext.tr hE1 hb2
  have r2 := ho2.rd'
  have n2 := ho2.nc
  clear g1 ho2 hb2 hE1
  go_wp2_with (go_at_call 13; refine (num07 _ _).mono ?_; rintro e w' ⟨rfl, rfl⟩)
  refine (HGL.out A2 c2 w2 r2 n2).mono ?_
  rintro e w3 ⟨P3, rfl, hPx, hPin, hb3⟩
  have hi3 := cinfo P3
  have g3 := (hb3.block _ (lt_of_heap g2)).trans g2
  have hE3 := Ext.tr hE2 hb3
  simp only [CellV.val]
  have p3 := heap_alloc_new w3 (.cells P3.cells 25)
  have hx3 := Ext.alloc w3 (.cells P3.cells 25)
  have gg3 := (hx3.block _ (lt_of_heap g3)).trans g3
  have hEE3 := Ext.tr hE3 hx3
  have hS := cellsame_any c P3 _ (hc.below hEE3) (hPin.below hx3)
  rw [hPx, Cl.same_refl] at hS
  simp only [CellV.val] at hS
  have HS := Lib.hid hS
  clear hS hPx hPin r2 hb3 hx3 g2
  go_wp2_with (first | (refine wpList_store_row rfl 25 (.tmp 5) (.tmp 24) rfl w3.heap.size P3.cells rfl rfl 25 _ (heap_alloc_new w3 _) hi3 (by rfl) (cone P3) ?_; rw [setRow_alloc]) | (go_at_call 13; refine (num07 _ _).mono ?_; rintro e w' ⟨rfl, rfl⟩) | (refine wpList_load_rowG rfl 25 (.tmp 1) rfl w.heap.size rfl 25 c.cells (0, 0) _ gg3 Try.underlying25 rfl hi ?_) | (refine wpList_load_rowG rfl 25 (.tmp 5) rfl w3.heap.size rfl 25 P3.cells (0, 0) _ p3 Try.underlying25 rfl hi3 ?_))
  refine HS.out.mono ?_
  rintro e w4 ⟨rfl, hb4⟩
  have g4 := (hb4.block _ (lt_of_heap gg3)).trans gg3
  have hE4 := Ext.tr hEE3 hb4
  clear HS hEE3 gg3 hb4 hE2 hE3 p3
  go_wp2_with (first | (refine wpList_load_rowG rfl 25 (.tmp 1) rfl w.heap.size rfl 25 c.cells (0, 0) _ g4 Try.underlying25 rfl hi ?_) | (go_at_call 13; refine (num07 _ _).mono ?_; rintro e w' ⟨rfl, rfl⟩))
  refine (HPI.out w4 (hc.below hE4)).mono ?_
  rintro e w5 ⟨A5, c5, rfl, ho5, hb5⟩
  have g5 := (hb5.block _ (lt_of_heap g4)).trans g4
  have hE5 := Ext.tr hE4 hb5
  have r5 := ho5.rd'
  have n5 := ho5.nc
  clear g4 ho5 hb5 hE4
  go_wp2_with (go_at_call 13; refine (num07 _ _).mono ?_; rintro e w' ⟨rfl, rfl⟩)
  refine (HGI.out A5 c5 w5 r5 n5).mono ?_
  rintro e w6 ⟨P6, rfl, hPx, hPin, hb6⟩
  have hi6 := cinfo P6
  have g6 := (hb6.block _ (lt_of_heap g5)).trans g5
  have hE6 := Ext.tr hE5 hb6
  simp only [CellV.val]
  have p6 := heap_alloc_new w6 (.cells P6.cells 25)
  have hx6 := Ext.alloc w6 (.cells P6.cells 25)
  have gg6 := (hx6.block _ (lt_of_heap g6)).trans g6
  have hEE6 := Ext.tr hE6 hx6
  have hS := cellsame_any c P6 _ (hc.below hEE6) (hPin.below hx6)
  rw [hPx, Cl.same_refl] at hS
  simp only [CellV.val] at hS
  have HS := Lib.hid hS
  clear hS hPx hPin r5 hb6 hx6 g5
  go_wp2_with (first | (refine wpList_store_row rfl 25 (.tmp 7) (.tmp 51) rfl w6.heap.size P6.cells rfl rfl 25 _ (heap_alloc_new w6 _) hi6 (by rfl) (cone P6) ?_; rw [setRow_alloc]) | (go_at_call 13; refine (num07 _ _).mono ?_; rintro e w' ⟨rfl, rfl⟩) | (refine wpList_load_rowG rfl 25 (.tmp 1) rfl w.heap.size rfl 25 c.cells (0, 0) _ gg6 Try.underlying25 rfl hi ?_) | (refine wpList_load_rowG rfl 25 (.tmp 7) rfl w6.heap.size rfl 25 P6.cells (0, 0) _ p6 Try.underlying25 rfl hi6 ?_))
  refine HS.out.mono ?_
  rintro e w7 ⟨rfl, hb7⟩
  have g7 := (hb7.block _ (lt_of_heap gg6)).trans gg6
  have hE7 := Ext.tr hEE6 hb7
  clear HS hEE6 gg6 hb7 hE5 hE6 p6
  go_wp2_with (go_at_call 13; refine (num07 _ _).mono ?_; rintro e w' ⟨rfl, rfl⟩)
  refine (live07 _).mono ?_
  rintro e w9 ⟨rfl, hb9⟩
  go_wp2
  go_ret
  exact ⟨rfl, Ext.tr hE7 hb9⟩

set_option maxRecDepth 100000 in
set_option maxHeartbeats 2000000 in
theorem back_10 (w : World) (c : CellV) (hc : c.In w) (hsm : c.small = true) (hl : c.x.leaf = true) (hn : c.x.inner = false) :
    Calls Try.prog 5 #[c.val] w fun e w' => e = .returned (.bool true) ∧ Below w.heap.size w w' := by
  have hE0 := Ext.alloc w (.cells c.cells 25)
  have g0 := heap_alloc_new w (.cells c.cells 25)
  have hs := small07 c (w.alloc (.cells c.cells 25))
  have hi := cinfo c
  simp only [CellV.val] at hs ⊢
  rw [hsm] at hs
  clear hsm
  have hPL := fun W (h : c.In W) => putLeaf_any c W h
  have eL : c.x.putL = (c.x.flatL, 0) := by unfold Cl.putL; rw [if_pos hl]
  obtain ⟨DL, hDL⟩ : ∃ D, D = c.x.flatL := ⟨_, rfl⟩
  have hlenL := Cl.flatL_len hl
  have hGL := fun A cp W (h : RdB W A DL) (h2 : DL.length ≤ cp) => getLeaf_any A DL cp W h h2 (by rw [hDL]; omega)
  have hbkL := Cl.back_leaf hl hc.over
  rw [← hDL] at eL hlenL hbkL
  rw [hbkL] at hGL
  simp only [eL, CellV.val] at hPL
  have HPL := Lib.hid hPL
  have HGL := Lib.hid hGL
  clear hPL hGL eL hbkL hDL hl
  have hPI := fun W (h : c.In W) => putInner_any c W h
  have eI : c.x.putI = ([], 70) := by unfold Cl.putI; rw [if_neg (by rw [hn]; simp)]
  simp only [eI, CellV.val] at hPI
  have HPI := Lib.hid hPI
  clear hPI eI hn
  go_enter Try.func5, Try.ntmps5
  go_wp2_with (refine wpList_load_rowG rfl 25 (.tmp 1) rfl w.heap.size rfl 25 c.cells (0, 0) _ g0 Try.underlying25 rfl hi ?_)
  refine hs.mono ?_
  rintro e w1 ⟨rfl, hb1⟩
  have g1 := (hb1.block _ (lt_of_heap g0)).trans g0
  have hE1 := Ext.tr hE0 hb1
  clear hs hb1 g0 hE0
  go_wp2_with (first | (refine wpList_load_rowG rfl 25 (.tmp 1) rfl w.heap.size rfl 25 c.cells (0, 0) _ g1 Try.underlying25 rfl hi ?_) | (go_at_call 13; refine (num07 _ _).mono ?_; rintro e w' ⟨rfl, rfl⟩))
  refine (HPL.out w1 (hc.below hE1)).mono ?_
  rintro e w2 ⟨A2, c2, rfl, ho2, hb2⟩
  have g2 := (hb2.block _ (lt_of_heap g1)).trans g1
  have hE2 := Ext.tr hE1 hb2
  have r2 := ho2.rd'
  have n2 := ho2.nc
  clear g1 ho2 hb2 hE1
  go_wp2_with (go_at_call 13; refine (num07 _ _).mono ?_; rintro e w' ⟨rfl, rfl⟩)
  refine (HGL.out A2 c2 w2 r2 n2).mono ?_
  rintro e w3 ⟨P3, rfl, hPx, hPin, hb3⟩
  have hi3 := cinfo P3
  have g3 := (hb3.block _ (lt_of_heap g2)).trans g2
  have hE3 := Ext.tr hE2 hb3
  simp only [CellV.val]
  have p3 := heap_alloc_new w3 (.cells P3.cells 25)
  have hx3 := Ext.alloc w3 (.cells P3.cells 25)
  have gg3 := (hx3.block _ (lt_of_heap g3)).trans g3
  have hEE3 := Ext.tr hE3 hx3
  have hS := cellsame_any c P3 _ (hc.below hEE3) (hPin.below hx3)
  rw [hPx, Cl.same_refl] at hS
  simp only [CellV.val] at hS
  have HS := Lib.hid hS
  clear hS hPx hPin r2 hb3 hx3 g2
  go_wp2_with (first | (refine wpList_store_row rfl 25 (.tmp 5) (.tmp 24) rfl w3.heap.size P3.cells rfl rfl 25 _ (heap_alloc_new w3 _) hi3 (by rfl) (cone P3) ?_; rw [setRow_alloc]) | (go_at_call 13; refine (num07 _ _).mono ?_; rintro e w' ⟨rfl, rfl⟩) | (refine wpList_load_rowG rfl 25 (.tmp 1) rfl w.heap.size rfl 25 c.cells (0, 0) _ gg3 Try.underlying25 rfl hi ?_) | (refine wpList_load_rowG rfl 25 (.tmp 5) rfl w3.heap.size rfl 25 P3.cells (0, 0) _ p3 Try.underlying25 rfl hi3 ?_))
  refine HS.out.mono ?_
  rintro e w4 ⟨rfl, hb4⟩
  have g4 := (hb4.block _ (lt_of_heap gg3)).trans gg3
  have hE4 := Ext.tr hEE3 hb4
  clear HS hEE3 gg3 hb4 hE2 hE3 p3
  go_wp2_with (first | (refine wpList_load_rowG rfl 25 (.tmp 1) rfl w.heap.size rfl 25 c.cells (0, 0) _ g4 Try.underlying25 rfl hi ?_) | (go_at_call 13; refine (num07 _ _).mono ?_; rintro e w' ⟨rfl, rfl⟩))
  refine (HPI.out w4 (hc.below hE4)).mono ?_
  rintro e w5 ⟨A5, c5, rfl, ho5, hb5⟩
  have g5 := (hb5.block _ (lt_of_heap g4)).trans g4
  have hE5 := Ext.tr hE4 hb5
  clear g4 ho5 hb5 hE4
  go_wp2_with (go_at_call 13; refine (num07 _ _).mono ?_; rintro e w' ⟨rfl, rfl⟩)
  refine (live07 _).mono ?_
  rintro e w9 ⟨rfl, hb9⟩
  go_wp2
  go_ret
  exact ⟨rfl, Ext.tr hE5 hb9⟩

set_option maxRecDepth 100000 in
set_option maxHeartbeats 2000000 in
theorem back_01 (w : World) (c : CellV) (hc : c.In w) (hsm : c.small = true) (hl : c.x.leaf = false) (hn : c.x.inner = true) :
    Calls Try.prog 5 #[c.val] w fun e w' => e = .returned (.bool true) ∧ Below w.heap.size w w' := by
  have hE0 := Ext.alloc w (.cells c.cells 25)
  have g0 := heap_alloc_new w (.cells c.cells 25)
  have hs := small07 c (w.alloc (.cells c.cells 25))
  have hi := cinfo c
  simp only [CellV.val] at hs ⊢
  rw [hsm] at hs
  clear hsm
  have hPL := fun W (h : c.In W) => putLeaf_any c W h
  have eL : c.x.putL = ([], 70) := by unfold Cl.putL; rw [if_neg (by rw [hl]; simp)]
  simp only [eL, CellV.val] at hPL
  have HPL := Lib.hid hPL
  clear hPL eL hl
  have hPI := fun W (h : c.In W) => putInner_any c W h
  have eI : c.x.putI = (c.x.flatI, 0) := by unfold Cl.putI; rw [if_pos hn]
  obtain ⟨DI, hDI⟩ : ∃ D, D = c.x.flatI := ⟨_, rfl⟩
  have hlenI := Cl.flatI_len hn
  have hGI := fun A cp W (h : RdB W A DI) (h2 : DI.length ≤ cp) => getInner_any A DI cp W h h2 (by rw [hDI]; omega)
  have hbkI := Cl.back_inner hn hc.kid
  rw [← hDI] at eI hlenI hbkI
  rw [hbkI] at hGI
  simp only [eI, CellV.val] at hPI
  have HPI := Lib.hid hPI
  have HGI := Lib.hid hGI
  clear hPI hGI eI hbkI hDI hn
  go_enter Try.func5, Try.ntmps5
  go_wp2_with (refine wpList_load_rowG rfl 25 (.tmp 1) rfl w.heap.size rfl 25 c.cells (0, 0) _ g0 Try.underlying25 rfl hi ?_)
  refine hs.mono ?_
  rintro e w1 ⟨rfl, hb1⟩
  have g1 := (hb1.block _ (lt_of_heap g0)).trans g0
  have hE1 := Ext.tr hE0 hb1
  clear hs hb1 g0 hE0
  go_wp2_with (first | (refine wpList_load_rowG rfl 25 (.tmp 1) rfl w.heap.size rfl 25 c.cells (0, 0) _ g1 Try.underlying25 rfl hi ?_) | (go_at_call 13; refine (num07 _ _).mono ?_; rintro e w' ⟨rfl, rfl⟩))
  refine (HPL.out w1 (hc.below hE1)).mono ?_
  rintro e w2 ⟨A2, c2, rfl, ho2, hb2⟩
  have g2 := (hb2.block _ (lt_of_heap g1)).trans g1
  have hE2 := Ext.tr hE1 hb2
  clear g1 ho2 hb2 hE1
  go_wp2_with (first | (refine wpList_load_rowG rfl 25 (.tmp 1) rfl w.heap.size rfl 25 c.cells (0, 0) _ g2 Try.underlying25 rfl hi ?_) | (go_at_call 13; refine (num07 _ _).mono ?_; rintro e w' ⟨rfl, rfl⟩))
  refine (HPI.out w2 (hc.below hE2)).mono ?_
  rintro e w3 ⟨A3, c3, rfl, ho3, hb3⟩
  have g3 := (hb3.block _ (lt_of_heap g2)).trans g2
  have hE3 := Ext.tr hE2 hb3
  have r3 := ho3.rd'
  have n3 := ho3.nc
  clear g2 ho3 hb3 hE2
  go_wp2_with (go_at_call 13; refine (num07 _ _).mono ?_; rintro e w' ⟨rfl, rfl⟩)
  refine (HGI.out A3 c3 w3 r3 n3).mono ?_
  rintro e w4 ⟨P4, rfl, hPx, hPin, hb4⟩
  have hi4 := cinfo P4
  have g4 := (hb4.block _ (lt_of_heap g3)).trans g3
  have hE4 := Ext.tr hE3 hb4
  simp only [CellV.val]
  have p4 := heap_alloc_new w4 (.cells P4.cells 25)
  have hx4 := Ext.alloc w4 (.cells P4.cells 25)
  have gg4 := (hx4.block _ (lt_of_heap g4)).trans g4
  have hEE4 := Ext.tr hE4 hx4
  have hS := cellsame_any c P4 _ (hc.below hEE4) (hPin.below hx4)
  rw [hPx, Cl.same_refl] at hS
  simp only [CellV.val] at hS
  have HS := Lib.hid hS
  clear hS hPx hPin r3 hb4 hx4 g3
  go_wp2_with (first | (refine wpList_store_row rfl 25 (.tmp 7) (.tmp 51) rfl w4.heap.size P4.cells rfl rfl 25 _ (heap_alloc_new w4 _) hi4 (by rfl) (cone P4) ?_; rw [setRow_alloc]) | (go_at_call 13; refine (num07 _ _).mono ?_; rintro e w' ⟨rfl, rfl⟩) | (refine wpList_load_rowG rfl 25 (.tmp 1) rfl w.heap.size rfl 25 c.cells (0, 0) _ gg4 Try.underlying25 rfl hi ?_) | (refine wpList_load_rowG rfl 25 (.tmp 7) rfl w4.heap.size rfl 25 P4.cells (0, 0) _ p4 Try.underlying25 rfl hi4 ?_))
  refine HS.out.mono ?_
  rintro e w5 ⟨rfl, hb5⟩
  have g5 := (hb5.block _ (lt_of_heap gg4)).trans gg4
  have hE5 := Ext.tr hEE4 hb5
  clear HS hEE4 gg4 hb5 hE3 hE4 p4
  go_wp2_with (go_at_call 13; refine (num07 _ _).mono ?_; rintro e w' ⟨rfl, rfl⟩)
  refine (live07 _).mono ?_
  rintro e w9 ⟨rfl, hb9⟩
  go_wp2
  go_ret
  exact ⟨rfl, Ext.tr hE5 hb9⟩

set_option maxRecDepth 100000 in
set_option maxHeartbeats 2000000 in
theorem back_00 (w : World) (c : CellV) (hc : c.In w) (hsm : c.small = true) (hl : c.x.leaf = false) (hn : c.x.inner = false) :
    Calls Try.prog 5 #[c.val] w fun e w' => e = .returned (.bool true) ∧ Below w.heap.size w w' := by
  have hE0 := Ext.alloc w (.cells c.cells 25)
  have g0 := heap_alloc_new w (.cells c.cells 25)
  have hs := small07 c (w.alloc (.cells c.cells 25))
  have hi := cinfo c
  simp only [CellV.val] at hs ⊢
  rw [hsm] at hs
  clear hsm
  have hPL := fun W (h : c.In W) => putLeaf_any c W h
  have eL : c.x.putL = ([], 70) := by unfold Cl.putL; rw [if_neg (by rw [hl]; simp)]
  simp only [eL, CellV.val] at hPL
  have HPL := Lib.hid hPL
  clear hPL eL hl
  have hPI := fun W (h : c.In W) => putInner_any c W h
  have eI : c.x.putI = ([], 70) := by unfold Cl.putI; rw [if_neg (by rw [hn]; simp)]
  simp only [eI, CellV.val] at hPI
  have HPI := Lib.hid hPI
  clear hPI eI hn
  go_enter Try.func5, Try.ntmps5
  go_wp2_with (refine wpList_load_rowG rfl 25 (.tmp 1) rfl w.heap.size rfl 25 c.cells (0, 0) _ g0 Try.underlying25 rfl hi ?_)
  refine hs.mono ?_
  rintro e w1 ⟨rfl, hb1⟩
  have g1 := (hb1.block _ (lt_of_heap g0)).trans g0
  have hE1 := Ext.tr hE0 hb1
  clear hs hb1 g0 hE0
  go_wp2_with (first | (refine wpList_load_rowG rfl 25 (.tmp 1) rfl w.heap.size rfl 25 c.cells (0, 0) _ g1 Try.underlying25 rfl hi ?_) | (go_at_call 13; refine (num07 _ _).mono ?_; rintro e w' ⟨rfl, rfl⟩))
  refine (HPL.out w1 (hc.below hE1)).mono ?_
  rintro e w2 ⟨A2, c2, rfl, ho2, hb2⟩
  have g2 := (hb2.block _ (lt_of_heap g1)).trans g1
  have hE2 := Ext.tr hE1 hb2
  clear g1 ho2 hb2 hE1
  go_wp2_with (first | (refine wpList_load_rowG rfl 25 (.tmp 1) rfl w.heap.size rfl 25 c.cells (0, 0) _ g2 Try.underlying25 rfl hi ?_) | (go_at_call 13; refine (num07 _ _).mono ?_; rintro e w' ⟨rfl, rfl⟩))
  refine (HPI.out w2 (hc.below hE2)).mono ?_
  rintro e w3 ⟨A3, c3, rfl, ho3, hb3⟩
  have g3 := (hb3.block _ (lt_of_heap g2)).trans g2
  have hE3 := Ext.tr hE2 hb3
  clear g2 ho3 hb3 hE2
  go_wp2_with (go_at_call 13; refine (num07 _ _).mono ?_; rintro e w' ⟨rfl, rfl⟩)
  refine (live07 _).mono ?_
  rintro e w9 ⟨rfl, hb9⟩
  go_wp2
  go_ret
  exact ⟨rfl, Ext.tr hE3 hb9⟩

theorem walkCellBack (w : World) (c : CellV) (hc : c.In w) :
    Calls Try.prog 5 #[c.val] w fun e w' => e = .returned (.bool true) ∧ Below w.heap.size w w' := by
  cases hsm : c.small with
  | false => exact back_big w c hc hsm
  | true =>
    cases hl : c.x.leaf <;> cases hn : c.x.inner
    · exact back_00 w c hc hsm hl hn
    · exact back_01 w c hc hsm hl hn
    · exact back_10 w c hc hsm hl hn
    · exact back_11 w c hc hsm hl hn

theorem RdB.row {w : World} {A : Option Addr} {bs : List UInt8} {b : Nat} {cs cs' : Array Value} {t : TypeId} {fr : Nat × Nat} (h : RdB w A bs) (hg : w.heap[b]? = some (.cells cs t fr)) (hn : ∀ n : Int, Value.int .u8 n ∉ cs) : RdB (w.setRow b cs') A bs :=
  ⟨h.1, fun hx => by
    obtain ⟨ad, e, hc⟩ := h.2 hx
    refine ⟨ad, e, fun j u hj => ?_⟩
    have h1 := hc j u hj
    refine (grown_setR w b cs').cell h1 ?_
    intro e1
    injection e1 with e1
    obtain ⟨k, _, hk⟩ := List.mem_map.1 (List.mem_of_getElem? hj)
    have h2 : u ∈ cs := by
      unfold World.cell? at h1
      rw [e1, hg] at h1
      simp only at h1
      first | exact Array.mem_of_getElem? h1 | (split at h1 <;> first | exact Array.mem_of_getElem? h1 | cases h1)
    rw [← hk] at h2
    exact hn _ h2⟩
theorem CellV.In.row {w : World} {Q P : CellV} {b : Nat} {cs' : Array Value} {t : TypeId} {fr : Nat × Nat} (h : Q.In w) (hg : w.heap[b]? = some (.cells P.cells t fr)) : Q.In (w.setRow b cs') :=
  ⟨h.over, h.kid, h.lo, h.hi, h.kr.row hg (by simp [CellV.cells]), h.vr.row hg (by simp [CellV.cells]), h.kcap, h.vcap⟩
theorem getL_cases (bs : List UInt8) : Cl.getL bs = (Cl.zero, 70) ∨ ∃ c, Cl.getL bs = (c, 0) ∧ c.putL = (bs, 0) := by
  unfold Cl.getL
  cases Cl.candL bs with
  | none => exact .inl rfl
  | some c =>
    simp only
    by_cases h : c.leaf = true ∧ c.flatL = bs
    · rw [if_pos h]
      refine .inr ⟨c, rfl, ?_⟩
      unfold Cl.putL
      rw [if_pos h.1, h.2]
    · rw [if_neg h]; exact .inl rfl
theorem getI_cases (bs : List UInt8) : Cl.getI bs = (Cl.zero, 70) ∨ ∃ c, Cl.getI bs = (c, 0) ∧ c.putI = (bs, 0) := by
  unfold Cl.getI
  by_cases h : (Cl.candI bs).inner = true ∧ (Cl.candI bs).flatI = bs
  · rw [if_pos h]
    refine .inr ⟨_, rfl, ?_⟩
    unfold Cl.putI
    rw [if_pos h.1, h.2]
  · rw [if_neg h]; exact .inl rfl

set_option maxRecDepth 100000 in
set_option maxHeartbeats 2000000 in
theorem bytes_big (w : World) (B : Option Addr) (bs : List UInt8) (cap : Nat) (hB : RdB w B bs) (hcap : bs.length ≤ cap) (hl : 3000 < bs.length) :
    Calls Try.prog 6 #[.slice B bs.length cap] w fun e w' => e = .returned (.bool true) ∧ Below w.heap.size w w' := by
  have hl' : 3000 < (bs.length : Int) := by omega
  clear hB
  go_enter Try.func6, Try.ntmps6
  go_wp2_with fail
  refine (live07 _).mono ?_
  rintro e w9 ⟨rfl, hb9⟩
  go_wp2
  go_ret
  exact ⟨rfl, hb9⟩

set_option maxRecDepth 100000 in
set_option maxHeartbeats 2000000 in
theorem bytes_11 (w : World) (B : Option Addr) (bs : List UInt8) (cap : Nat) (hB : RdB w B bs) (hcap : bs.length ≤ cap) (hl : bs.length ≤ 3000) (x : Cl) (hL : Cl.getL bs = (x, 0)) (hpl : x.putL = (bs, 0)) (y : Cl) (hI : Cl.getI bs = (y, 0)) (hpi : y.putI = (bs, 0)) :
    Calls Try.prog 6 #[.slice B bs.length cap] w fun e w' => e = .returned (.bool true) ∧ Below w.heap.size w w' := by
  have hl' : (bs.length : Int) ≤ 3000 := by omega
  have h1 := getLeaf_any B bs cap w hB hcap (by omega)
  have h2 := fun W (h : RdB W B bs) => getInner_any B bs cap W h hcap (by omega)
  rw [hL] at h1
  simp only [hI] at h2
  have H1 := Lib.hid h1
  have H2 := Lib.hid h2
  have Hpl := Lib.hid hpl
  clear hpl
  have Hpi := Lib.hid hpi
  clear hpi
  clear h1 h2 hL hI
  go_enter Try.func6, Try.ntmps6
  go_wp2_with fail
  refine H1.out.mono ?_
  rintro e w1 ⟨P, rfl, hPx, hPin, hb1⟩
  have hiP := cinfo P
  have HPx := Lib.hid hPx
  simp only [CellV.val]
  clear hPx
  have g1 := heap_alloc_new w1 (.cells P.cells 25)
  have hx1 := Ext.alloc w1 (.cells P.cells 25)
  have hE1 := Ext.tr hb1 hx1
  have hW1 : w.heap.size ≤ w1.heap.size := hb1.size
  have hP1 := hPin.below hx1
  clear hb1 hPin hx1
  go_wp2_with (first | (refine wpList_store_row rfl 25 (.tmp 3) (.tmp 16) rfl w1.heap.size P.cells rfl rfl 25 _ (heap_alloc_new w1 _) hiP (by rfl) (cone P) ?_; rw [setRow_alloc]) | (go_at_call 13; refine (num07 _ _).mono ?_; rintro e w' ⟨rfl, rfl⟩) | (refine wpList_load_rowG rfl 25 (.tmp 3) rfl w1.heap.size rfl 25 P.cells (0, 0) _ g1 Try.underlying25 rfl hiP ?_))
  have h3 := putLeaf_any P _ hP1
  simp only [HPx.out, Hpl.out, CellV.val] at h3
  refine h3.mono ?_
  clear h3
  rintro e w2 ⟨A2, c2, rfl, ho2, hb2⟩
  have g2 := (hb2.block _ (lt_of_heap g1)).trans g1
  have hE2 := Ext.tr hE1 hb2
  have r2 := ho2.rd'
  have z1 := run_str _ 22 9 5 A2 bs c2 Try.underlying22 Try.underlying5 Try.underlying9 (r2) bs.length rfl
  have z2 := run_str _ 22 9 5 B bs cap Try.underlying22 Try.underlying5 Try.underlying9 (hB.below hE2) bs.length rfl
  clear ho2 hb2 g1 hE1 hP1
  go_wp2_with (go_at_call 13; refine (num07 _ _).mono ?_; rintro e w' ⟨rfl, rfl⟩)
  clear z1 z2 r2
  refine (H2.out _ (hB.below hE2)).mono ?_
  rintro e w3 ⟨Q, rfl, hQx, hQin, hb3⟩
  have hiQ := cinfo Q
  have HQx := Lib.hid hQx
  simp only [CellV.val]
  clear hQx
  have g3 := (hb3.block _ (lt_of_heap g2)).trans g2
  have hE3 := Ext.tr hE2 hb3
  obtain ⟨b, hb⟩ : ∃ b, b = w1.heap.size := ⟨_, rfl⟩
  have hwb : w.heap.size ≤ b := by rw [hb]; exact hW1
  rw [← hb] at g3
  simp only [← hb]
  have g4 := setRow_heap w3 b _ Q.cells _ _ g3
  have hE4 := ext_row hE3 hwb Q.cells
  have hQ4 : CellV.In (w3.setRow b Q.cells) Q := hQin.row g3
  clear hb hb3 g2 hE2 hQin
  go_wp2_with (first | (refine wpList_store_row rfl 25 (.tmp 3) (.tmp 39) rfl b Q.cells rfl rfl 25 P.cells g3 hiQ (by rfl) (cone Q) ?_) | (go_at_call 13; refine (num07 _ _).mono ?_; rintro e w' ⟨rfl, rfl⟩) | (refine wpList_load_rowG rfl 25 (.tmp 3) rfl b rfl 25 Q.cells (0, 0) _ g4 Try.underlying25 rfl hiQ ?_))
  have h5 := putInner_any Q _ hQ4
  simp only [HQx.out, Hpi.out, CellV.val] at h5
  refine h5.mono ?_
  clear h5
  rintro e w5 ⟨A5, c5, rfl, ho5, hb5⟩
  have hE5 := Ext.tr hE4 hb5
  have r5 := ho5.rd'
  have z1 := run_str _ 22 9 5 A5 bs c5 Try.underlying22 Try.underlying5 Try.underlying9 (r5) bs.length rfl
  have z2 := run_str _ 22 9 5 B bs cap Try.underlying22 Try.underlying5 Try.underlying9 (hB.below hE5) bs.length rfl
  clear ho5 hb5 g3 g4 hE3 hE4 hQ4
  go_wp2_with (go_at_call 13; refine (num07 _ _).mono ?_; rintro e w' ⟨rfl, rfl⟩)
  refine (live07 _).mono ?_
  rintro e w9 ⟨rfl, hb9⟩
  go_wp2
  go_ret
  exact ⟨rfl, Ext.tr hE5 hb9⟩

set_option maxRecDepth 100000 in
set_option maxHeartbeats 2000000 in
theorem bytes_10 (w : World) (B : Option Addr) (bs : List UInt8) (cap : Nat) (hB : RdB w B bs) (hcap : bs.length ≤ cap) (hl : bs.length ≤ 3000) (x : Cl) (hL : Cl.getL bs = (x, 0)) (hpl : x.putL = (bs, 0)) (hI : Cl.getI bs = (Cl.zero, 70)) :
    Calls Try.prog 6 #[.slice B bs.length cap] w fun e w' => e = .returned (.bool true) ∧ Below w.heap.size w w' := by
  have hl' : (bs.length : Int) ≤ 3000 := by omega
  have h1 := getLeaf_any B bs cap w hB hcap (by omega)
  have h2 := fun W (h : RdB W B bs) => getInner_any B bs cap W h hcap (by omega)
  rw [hL] at h1
  simp only [hI] at h2
  have H1 := Lib.hid h1
  have H2 := Lib.hid h2
  have Hpl := Lib.hid hpl
  clear hpl
  clear h1 h2 hL hI
  go_enter Try.func6, Try.ntmps6
  go_wp2_with fail
  refine H1.out.mono ?_
  rintro e w1 ⟨P, rfl, hPx, hPin, hb1⟩
  have hiP := cinfo P
  have HPx := Lib.hid hPx
  simp only [CellV.val]
  clear hPx
  have g1 := heap_alloc_new w1 (.cells P.cells 25)
  have hx1 := Ext.alloc w1 (.cells P.cells 25)
  have hE1 := Ext.tr hb1 hx1
  have hW1 : w.heap.size ≤ w1.heap.size := hb1.size
  have hP1 := hPin.below hx1
  clear hb1 hPin hx1
  go_wp2_with (first | (refine wpList_store_row rfl 25 (.tmp 3) (.tmp 16) rfl w1.heap.size P.cells rfl rfl 25 _ (heap_alloc_new w1 _) hiP (by rfl) (cone P) ?_; rw [setRow_alloc]) | (go_at_call 13; refine (num07 _ _).mono ?_; rintro e w' ⟨rfl, rfl⟩) | (refine wpList_load_rowG rfl 25 (.tmp 3) rfl w1.heap.size rfl 25 P.cells (0, 0) _ g1 Try.underlying25 rfl hiP ?_))
  have h3 := putLeaf_any P _ hP1
  simp only [HPx.out, Hpl.out, CellV.val] at h3
  refine h3.mono ?_
  clear h3
  rintro e w2 ⟨A2, c2, rfl, ho2, hb2⟩
  have g2 := (hb2.block _ (lt_of_heap g1)).trans g1
  have hE2 := Ext.tr hE1 hb2
  have r2 := ho2.rd'
  have z1 := run_str _ 22 9 5 A2 bs c2 Try.underlying22 Try.underlying5 Try.underlying9 (r2) bs.length rfl
  have z2 := run_str _ 22 9 5 B bs cap Try.underlying22 Try.underlying5 Try.underlying9 (hB.below hE2) bs.length rfl
  clear ho2 hb2 g1 hE1 hP1
  go_wp2_with (go_at_call 13; refine (num07 _ _).mono ?_; rintro e w' ⟨rfl, rfl⟩)
  clear z1 z2 r2
  refine (H2.out _ (hB.below hE2)).mono ?_
  rintro e w3 ⟨Q, rfl, hQx, hQin, hb3⟩
  have hiQ := cinfo Q
  have HQx := Lib.hid hQx
  simp only [CellV.val]
  clear hQx
  have g3 := (hb3.block _ (lt_of_heap g2)).trans g2
  have hE3 := Ext.tr hE2 hb3
  obtain ⟨b, hb⟩ : ∃ b, b = w1.heap.size := ⟨_, rfl⟩
  have hwb : w.heap.size ≤ b := by rw [hb]; exact hW1
  rw [← hb] at g3
  simp only [← hb]
  have g4 := setRow_heap w3 b _ Q.cells _ _ g3
  have hE4 := ext_row hE3 hwb Q.cells
  have hQ4 : CellV.In (w3.setRow b Q.cells) Q := hQin.row g3
  clear hb hb3 g2 hE2 hQin
  go_wp2_with (first | (refine wpList_store_row rfl 25 (.tmp 3) (.tmp 39) rfl b Q.cells rfl rfl 25 P.cells g3 hiQ (by rfl) (cone Q) ?_) | (go_at_call 13; refine (num07 _ _).mono ?_; rintro e w' ⟨rfl, rfl⟩) | (refine wpList_load_rowG rfl 25 (.tmp 3) rfl b rfl 25 Q.cells (0, 0) _ g4 Try.underlying25 rfl hiQ ?_))
  have hE5 := hE4
  refine (live07 _).mono ?_
  rintro e w9 ⟨rfl, hb9⟩
  go_wp2
  go_ret
  exact ⟨rfl, Ext.tr hE5 hb9⟩

set_option maxRecDepth 100000 in
set_option maxHeartbeats 2000000 in
theorem bytes_01 (w : World) (B : Option Addr) (bs : List UInt8) (cap : Nat) (hB : RdB w B bs) (hcap : bs.length ≤ cap) (hl : bs.length ≤ 3000) (hL : Cl.getL bs = (Cl.zero, 70)) (y : Cl) (hI : Cl.getI bs = (y, 0)) (hpi : y.putI = (bs, 0)) :
    Calls Try.prog 6 #[.slice B bs.length cap] w fun e w' => e = .returned (.bool true) ∧ Below w.heap.size w w' := by
  have hl' : (bs.length : Int) ≤ 3000 := by omega
  have h1 := getLeaf_any B bs cap w hB hcap (by omega)
  have h2 := fun W (h : RdB W B bs) => getInner_any B bs cap W h hcap (by omega)
  rw [hL] at h1
  simp only [hI] at h2
  have H1 := Lib.hid h1
  have H2 := Lib.hid h2
  have Hpi := Lib.hid hpi
  clear hpi
  clear h1 h2 hL hI
  go_enter Try.func6, Try.ntmps6
  go_wp2_with fail
  refine H1.out.mono ?_
  rintro e w1 ⟨P, rfl, hPx, hPin, hb1⟩
  have hiP := cinfo P
  have HPx := Lib.hid hPx
  simp only [CellV.val]
  clear hPx
  have g1 := heap_alloc_new w1 (.cells P.cells 25)
  have hx1 := Ext.alloc w1 (.cells P.cells 25)
  have hE1 := Ext.tr hb1 hx1
  have hW1 : w.heap.size ≤ w1.heap.size := hb1.size
  have hP1 := hPin.below hx1
  clear hb1 hPin hx1
  go_wp2_with (first | (refine wpList_store_row rfl 25 (.tmp 3) (.tmp 16) rfl w1.heap.size P.cells rfl rfl 25 _ (heap_alloc_new w1 _) hiP (by rfl) (cone P) ?_; rw [setRow_alloc]) | (go_at_call 13; refine (num07 _ _).mono ?_; rintro e w' ⟨rfl, rfl⟩) | (refine wpList_load_rowG rfl 25 (.tmp 3) rfl w1.heap.size rfl 25 P.cells (0, 0) _ g1 Try.underlying25 rfl hiP ?_))
  have g2 := g1
  have hE2 := hE1
  clear g1 hE1 hP1
  refine (H2.out _ (hB.below hE2)).mono ?_
  rintro e w3 ⟨Q, rfl, hQx, hQin, hb3⟩
  have hiQ := cinfo Q
  have HQx := Lib.hid hQx
  simp only [CellV.val]
  clear hQx
  have g3 := (hb3.block _ (lt_of_heap g2)).trans g2
  have hE3 := Ext.tr hE2 hb3
  obtain ⟨b, hb⟩ : ∃ b, b = w1.heap.size := ⟨_, rfl⟩
  have hwb : w.heap.size ≤ b := by rw [hb]; exact hW1
  rw [← hb] at g3
  simp only [← hb]
  have g4 := setRow_heap w3 b _ Q.cells _ _ g3
  have hE4 := ext_row hE3 hwb Q.cells
  have hQ4 : CellV.In (w3.setRow b Q.cells) Q := hQin.row g3
  clear hb hb3 g2 hE2 hQin
  go_wp2_with (first | (refine wpList_store_row rfl 25 (.tmp 3) (.tmp 39) rfl b Q.cells rfl rfl 25 P.cells g3 hiQ (by rfl) (cone Q) ?_) | (go_at_call 13; refine (num07 _ _).mono ?_; rintro e w' ⟨rfl, rfl⟩) | (refine wpList_load_rowG rfl 25 (.tmp 3) rfl b rfl 25 Q.cells (0, 0) _ g4 Try.underlying25 rfl hiQ ?_))
  have h5 := putInner_any Q _ hQ4
  simp only [HQx.out, Hpi.out, CellV.val] at h5
  refine h5.mono ?_
  clear h5
  rintro e w5 ⟨A5, c5, rfl, ho5, hb5⟩
  have hE5 := Ext.tr hE4 hb5
  have r5 := ho5.rd'
  have z1 := run_str _ 22 9 5 A5 bs c5 Try.underlying22 Try.underlying5 Try.underlying9 (r5) bs.length rfl
  have z2 := run_str _ 22 9 5 B bs cap Try.underlying22 Try.underlying5 Try.underlying9 (hB.below hE5) bs.length rfl
  clear ho5 hb5 g3 g4 hE3 hE4 hQ4
  go_wp2_with (go_at_call 13; refine (num07 _ _).mono ?_; rintro e w' ⟨rfl, rfl⟩)
  refine (live07 _).mono ?_
  rintro e w9 ⟨rfl, hb9⟩
  go_wp2
  go_ret
  exact ⟨rfl, Ext.tr hE5 hb9⟩

set_option maxRecDepth 100000 in
set_option maxHeartbeats 2000000 in
theorem bytes_00 (w : World) (B : Option Addr) (bs : List UInt8) (cap : Nat) (hB : RdB w B bs) (hcap : bs.length ≤ cap) (hl : bs.length ≤ 3000) (hL : Cl.getL bs = (Cl.zero, 70)) (hI : Cl.getI bs = (Cl.zero, 70)) :
    Calls Try.prog 6 #[.slice B bs.length cap] w fun e w' => e = .returned (.bool true) ∧ Below w.heap.size w w' := by
  have hl' : (bs.length : Int) ≤ 3000 := by omega
  have h1 := getLeaf_any B bs cap w hB hcap (by omega)
  have h2 := fun W (h : RdB W B bs) => getInner_any B bs cap W h hcap (by omega)
  rw [hL] at h1
  simp only [hI] at h2
  have H1 := Lib.hid h1
  have H2 := Lib.hid h2
  clear h1 h2 hL hI
  go_enter Try.func6, Try.ntmps6
  go_wp2_with fail
  refine H1.out.mono ?_
  rintro e w1 ⟨P, rfl, hPx, hPin, hb1⟩
  have hiP := cinfo P
  have HPx := Lib.hid hPx
  simp only [CellV.val]
  clear hPx
  have g1 := heap_alloc_new w1 (.cells P.cells 25)
  have hx1 := Ext.alloc w1 (.cells P.cells 25)
  have hE1 := Ext.tr hb1 hx1
  have hW1 : w.heap.size ≤ w1.heap.size := hb1.size
  have hP1 := hPin.below hx1
  clear hb1 hPin hx1
  go_wp2_with (first | (refine wpList_store_row rfl 25 (.tmp 3) (.tmp 16) rfl w1.heap.size P.cells rfl rfl 25 _ (heap_alloc_new w1 _) hiP (by rfl) (cone P) ?_; rw [setRow_alloc]) | (go_at_call 13; refine (num07 _ _).mono ?_; rintro e w' ⟨rfl, rfl⟩) | (refine wpList_load_rowG rfl 25 (.tmp 3) rfl w1.heap.size rfl 25 P.cells (0, 0) _ g1 Try.underlying25 rfl hiP ?_))
  have g2 := g1
  have hE2 := hE1
  clear g1 hE1 hP1
  refine (H2.out _ (hB.below hE2)).mono ?_
  rintro e w3 ⟨Q, rfl, hQx, hQin, hb3⟩
  have hiQ := cinfo Q
  have HQx := Lib.hid hQx
  simp only [CellV.val]
  clear hQx
  have g3 := (hb3.block _ (lt_of_heap g2)).trans g2
  have hE3 := Ext.tr hE2 hb3
  obtain ⟨b, hb⟩ : ∃ b, b = w1.heap.size := ⟨_, rfl⟩
  have hwb : w.heap.size ≤ b := by rw [hb]; exact hW1
  rw [← hb] at g3
  simp only [← hb]
  have g4 := setRow_heap w3 b _ Q.cells _ _ g3
  have hE4 := ext_row hE3 hwb Q.cells
  have hQ4 : CellV.In (w3.setRow b Q.cells) Q := hQin.row g3
  clear hb hb3 g2 hE2 hQin
  go_wp2_with (first | (refine wpList_store_row rfl 25 (.tmp 3) (.tmp 39) rfl b Q.cells rfl rfl 25 P.cells g3 hiQ (by rfl) (cone Q) ?_) | (go_at_call 13; refine (num07 _ _).mono ?_; rintro e w' ⟨rfl, rfl⟩) | (refine wpList_load_rowG rfl 25 (.tmp 3) rfl b rfl 25 Q.cells (0, 0) _ g4 Try.underlying25 rfl hiQ ?_))
  have hE5 := hE4
  refine (live07 _).mono ?_
  rintro e w9 ⟨rfl, hb9⟩
  go_wp2
  go_ret
  exact ⟨rfl, Ext.tr hE5 hb9⟩

theorem walkCellBytes (w : World) (B : Option Addr) (bs : List UInt8) (cap : Nat) (hB : RdB w B bs) (hcap : bs.length ≤ cap) :
    Calls Try.prog 6 #[.slice B bs.length cap] w fun e w' => e = .returned (.bool true) ∧ Below w.heap.size w w' := by
  by_cases hl : bs.length ≤ 3000
  · rcases getL_cases bs with hL | ⟨x, hL, hpl⟩ <;> rcases getI_cases bs with hI | ⟨y, hI, hpi⟩
    · exact bytes_00 w B bs cap hB hcap hl hL hI
    · exact bytes_01 w B bs cap hB hcap hl hL y hI hpi
    · exact bytes_10 w B bs cap hB hcap hl x hL hpl hI
    · exact bytes_11 w B bs cap hB hcap hl x hL hpl y hI hpi
  · exact bytes_big w B bs cap hB hcap (by omega)
end Go.Proofs.Ytafffpkjpghnjaa
