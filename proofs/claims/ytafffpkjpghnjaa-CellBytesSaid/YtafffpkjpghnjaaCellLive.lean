/- The laws' own first line (scowlaw07.live): it returns true. -/
import Derived.Test.YtafffpkjpghnjaaCellSame
import Derived.Test.YtafffpkjpghnjaaCellRefI
import Derived.Test.YtafffpkjpghnjaaCellPlain
import Derived.Test.YtafffpkjpghnjaaRowG
import Derived.Lib.SlBytesConst
namespace Go.Proofs.Ytafffpkjpghnjaa
open Go.RowKit
attribute [local go_sem] Oper.semAt_some

/-- '[]byte' of a constant: the block of its bytes is marked, wherever it lies. -/
theorem conv_const {P : Program} {t e : TypeId} (ht : P.underlying t = some (.slice e)) (he : P.underlying e = some (.int .u8)) (w : World) (C : Array Value) (n c b : Nat) (hb : b = w.heap.size) :
    (convert t t (.slice (some ⟨b, 0, none⟩) n c)).run P (w.alloc (.cells C e)) = .ok (.slice (some ⟨b, 0, none⟩) n c) (w.alloc (.cells C e (C.size, C.size + 1))) := by
  subst hb
  exact Lib.run_convert_bytes_const w t e C n c ht he
theorem CellV.In.mk' {w : World} {ka va : Option Addr} {kc vc : Nat} {x : Cl} (h1 : x.over < 4294967296) (h2 : x.kid < 4294967296) (h3 : -9223372036854775808 ≤ x.size) (h4 : x.size ≤ 9223372036854775807) (h5 : RdB w ka x.key) (h6 : RdB w va x.val) (h7 : x.key.length ≤ kc) (h8 : x.val.length ≤ vc) : CellV.In w ⟨ka, kc, va, vc, x⟩ := ⟨h1, h2, h3, h4, h5, h6, h7, h8⟩
def xa : Cl := ⟨[97], 2, [120, 121], 0, 0⟩
def xi : Cl := ⟨[], 0, [], 0, 258⟩
theorem xa_put : xa.putL = ([1, 97, 2, 120, 121], 0) := by decide +kernel
theorem xa_get : Cl.getL [1, 97, 2, 120, 121] = (xa, 0) := by
  have h := Cl.back_leaf (c := xa) (by decide +kernel) (by decide)
  rwa [show xa.flatL = [1, 97, 2, 120, 121] from by decide +kernel] at h
theorem xi_put : xi.putI = ([0, 0, 1, 2, 0], 0) := by decide +kernel
theorem xi_get : Cl.getI [0, 0, 1, 2, 0] = (xi, 0) := by
  have h := Cl.back_inner (c := xi) (by decide +kernel) (by decide)
  rwa [show xi.flatI = [0, 0, 1, 2, 0] from by decide +kernel] at h
theorem zz_put : Cl.zero.putI = ([], 70) := by decide +kernel

set_option maxRecDepth 100000 in
set_option maxHeartbeats 2000000 in
theorem live07 (w : World) : Calls Try.prog 8 #[] w fun e w' => e = .returned (.bool true) ∧ Below w.heap.size w w' := by
  have kc := conv_const (P := Try.prog) Try.underlying22 Try.underlying5
  have l1 := RdB.litF w 5 [97] (1, 2)
  have l2 := RdB.litF (w.alloc (.cells (bvs [97]).toArray 5 (1, 2))) 5 [120, 121] (2, 3)
  have l1' := l1.below (Ext.alloc _ (.cells (bvs [120, 121]).toArray 5 (2, 3)))
  rw [show (bvs [97]).toArray = #[.int .u8 97] from rfl, show (bvs [120, 121]).toArray = #[.int .u8 120, .int .u8 121] from rfl] at l1'
  rw [show (bvs [97]).toArray = #[.int .u8 97] from rfl, show (bvs [120, 121]).toArray = #[.int .u8 120, .int .u8 121] from rfl] at l2
  (try simp only [World.size_alloc] at l2)
  have hE1 := Ext.tr (Ext.alloc w (.cells #[.int .u8 97] 5 (1, 2))) (Ext.alloc _ (.cells #[.int .u8 120, .int .u8 121] 5 (2, 3)))
  clear l1
  go_enter Try.func8, Try.ntmps8
  go_wp2_with fail
  obtain ⟨W1, hW1⟩ : ∃ W1, W1 = (w.alloc (.cells #[.int .u8 97] 5 (1, 2))).alloc (.cells #[.int .u8 120, .int .u8 121] 5 (2, 3)) := ⟨_, rfl⟩
  rw [← hW1] at hE1 l1' l2 ⊢
  clear hW1
  have h1 := putLeaf_any ⟨some ⟨w.heap.size, 0, none⟩, 1, some ⟨w.heap.size + 1, 0, none⟩, 2, xa⟩ W1 (CellV.In.mk' (by decide) (by decide) (by decide) (by decide) l1' l2 (by decide) (by decide))
  simp only [xa_put, CellV.val, CellV.cells] at h1
  simp only [xa, List.length_cons, List.length_nil, Nat.zero_add, Nat.reduceAdd, Int.natCast_zero] at h1
  refine h1.mono ?_
  clear h1
  rintro e w2 ⟨A1, c1, rfl, ho1, hb1⟩
  have r1 := ho1.rd'
  have n1 := ho1.nc
  have hE2 := Ext.tr hE1 hb1
  clear ho1 hb1 l1' l2 hE1
  go_wp2_with fail
  have h2 := getLeaf_any A1 [1, 97, 2, 120, 121] c1 w2 r1 n1 (by decide)
  simp only [xa_get] at h2
  refine h2.mono ?_
  clear h2
  rintro e w3 ⟨C, rfl, hCx, hCin, hb3⟩
  obtain ⟨ka, kc', va, vc, x⟩ := C
  simp only at hCx
  subst hCx
  have r1' := r1.below hb3
  have hE3 := Ext.tr hE2 hb3
  simp only [CellV.val, CellV.cells]
  simp only [xa, List.length_cons, List.length_nil, Nat.zero_add, Nat.reduceAdd, Int.natCast_zero]
  clear r1 hE2 hb3
  go_wp2_with fail
  obtain ⟨W3, hW3⟩ : ∃ W3, W3 = w3.alloc (.cells #[.slice ka 1 kc', .int .i64 2, .slice va 2 vc, .int .u32 0, .int .u32 0] 25) := ⟨_, rfl⟩
  have g3 : W3.heap[w3.heap.size]? = some (.cells #[.slice ka 1 kc', .int .i64 2, .slice va 2 vc, .int .u32 0, .int .u32 0] 25 (0, 0)) := by rw [hW3]; exact heap_alloc_new w3 _
  have hE33 : Ext w3 W3 := by rw [hW3]; exact Ext.alloc w3 _
  obtain ⟨b3, hb3'⟩ : ∃ b3, b3 = w3.heap.size := ⟨_, rfl⟩
  have q1 := r1'.below hE33
  have q2 := hCin.below hE33
  have hF3 := Ext.tr hE3 hE33
  rw [← hb3'] at g3
  rw [← hW3, ← hb3']
  clear hW3 hb3' hE33 hCin r1' hE3
  have h3 := putInner_any ⟨none, 0, none, 0, xi⟩ W3 (CellV.In.mk' (by decide) (by decide) (by decide) (by decide) (RdB.nil_ _ _) (RdB.nil_ _ _) (by decide) (by decide))
  simp only [xi_put, CellV.val, CellV.cells] at h3
  simp only [xi, List.length_cons, List.length_nil, Nat.zero_add, Nat.reduceAdd, Int.natCast_zero] at h3
  refine h3.mono ?_
  clear h3
  rintro e w4 ⟨A4, c4, rfl, ho4, hb4⟩
  have g4 := (hb4.block _ (lt_of_heap g3)).trans g3
  have s1 := q1.below hb4
  have s2 := q2.below hb4
  have hF4 := Ext.tr hF3 hb4
  have s4 := ho4.rd'
  have n4 := ho4.nc
  clear ho4 hb4 q1 q2 hF3 g3
  go_wp2_with fail
  have h4 := getInner_any A4 [0, 0, 1, 2, 0] c4 w4 s4 n4 (by decide)
  simp only [xi_get] at h4
  refine h4.mono ?_
  clear h4
  rintro e w5 ⟨D, rfl, hDx, hDin, hb5⟩
  obtain ⟨kd, ke, vd, ve, x⟩ := D
  simp only at hDx
  subst hDx
  have g5 := (hb5.block _ (lt_of_heap g4)).trans g4
  have t1 := s1.below hb5
  have t2 := s2.below hb5
  have t4 := s4.below hb5
  have hF5 := Ext.tr hF4 hb5
  simp only [CellV.val, CellV.cells]
  simp only [xi, List.length_cons, List.length_nil, Nat.zero_add, Nat.reduceAdd, Int.natCast_zero]
  clear s1 s2 s4 g4 hF4 hb5
  go_wp2_with fail
  obtain ⟨W5, hW5⟩ : ∃ W5, W5 = w5.alloc (.cells #[.slice kd 0 ke, .int .i64 0, .slice vd 0 ve, .int .u32 0, .int .u32 258] 25) := ⟨_, rfl⟩
  have k5 : W5.heap[w5.heap.size]? = some (.cells #[.slice kd 0 ke, .int .i64 0, .slice vd 0 ve, .int .u32 0, .int .u32 258] 25 (0, 0)) := by rw [hW5]; exact heap_alloc_new w5 _
  have hE5 : Ext w5 W5 := by rw [hW5]; exact Ext.alloc w5 _
  obtain ⟨b5, hb5'⟩ : ∃ b5, b5 = w5.heap.size := ⟨_, rfl⟩
  have u1 := t1.below hE5
  have u2 := t2.below hE5
  have u3 := hDin.below hE5
  have u4 := t4.below hE5
  have m5 := (hE5.block _ (lt_of_heap g5)).trans g5
  have hH5 := Ext.tr hF5 hE5
  rw [← hb5'] at k5
  rw [← hW5, ← hb5']
  clear hW5 hb5' hE5 hDin t1 t2 t4 hF5 g5
  have h5 := putInner_any CellV.zero W5 (CellV.zero_in _)
  simp only [CellV.zero, zz_put, CellV.val, CellV.cells] at h5
  simp only [Cl.zero, List.length_cons, List.length_nil, Nat.zero_add, Nat.reduceAdd, Int.natCast_zero] at h5
  refine h5.mono ?_
  clear h5
  rintro e w6 ⟨A6, c6, rfl, ho6, hb6⟩
  have v1 := u1.below hb6
  have v2 := u2.below hb6
  have v3 := u3.below hb6
  have v4 := u4.below hb6
  have m6 := (hb6.block _ (lt_of_heap m5)).trans m5
  have k6 := (hb6.block _ (lt_of_heap k5)).trans k5
  have hH6 := Ext.tr hH5 hb6
  clear u1 u2 u3 u4 m5 k5 hH5 hb6 ho6
  have z1 := run_str w6 22 9 5 A1 [1, 97, 2, 120, 121] c1 Try.underlying22 Try.underlying5 Try.underlying9 v1 5 rfl
  have z2 := run_str w6 22 9 5 va [120, 121] vc Try.underlying22 Try.underlying5 Try.underlying9 v2.vr 2 rfl
  have z3 := run_str w6 22 9 5 A4 [0, 0, 1, 2, 0] c4 Try.underlying22 Try.underlying5 Try.underlying9 v4 5 rfl
  have z4 := run_str _ 22 9 5 _ [0, 0, 1, 2, 0] 5 Try.underlying22 Try.underlying5 Try.underlying9 (RdB.lit w6 5 [0, 0, 1, 2, 0]) 5 rfl
  rw [show (bvs [0, 0, 1, 2, 0]).toArray = #[.int .u8 0, .int .u8 0, .int .u8 1, .int .u8 2, .int .u8 0] from rfl] at z4
  have hE7 := Ext.alloc w6 (.cells #[.int .u8 0, .int .u8 0, .int .u8 1, .int .u8 2, .int .u8 0] 5)
  have m7 := (hE7.block _ (lt_of_heap m6)).trans m6
  have k7 := (hE7.block _ (lt_of_heap k6)).trans k6
  have y2 := v2.below hE7
  have y3 := v3.below hE7
  have hH7 := Ext.tr hH6 hE7
  have x32 : w6.cell? ⟨b3, 2, none⟩ = some (.slice va 2 vc) := cell_of_row w6 b3 2 _ _ _ m6
  have x54 := cell_of_row _ b5 4 _ _ _ k7
  simp only [List.getElem?_toArray, List.getElem?_cons_succ, List.getElem?_cons_zero] at x54
  clear hE7 v1 v2 v3 v4 hH6
  go_wp2_with (first | (go_at_call 13; refine (num07 _ _).mono ?_; rintro e w' ⟨rfl, rfl⟩) | (refine wpList_load_rowG rfl 25 (.tmp 3) rfl b3 rfl 25 #[.slice ka 1 kc', .int .i64 2, .slice va 2 vc, .int .u32 0, .int .u32 0] (0, 0) _ m7 Try.underlying25 rfl (by kernel_rfl) ?_))
  have e1 := fun W (h : CellV.In W ⟨ka, kc', va, vc, xa⟩) => cellsame_any ⟨ka, kc', va, vc, xa⟩ ⟨ka, kc', va, vc, xa⟩ W h h
  have e2 := fun W (h : CellV.In W ⟨ka, kc', va, vc, xa⟩) (h' : CellV.In W ⟨kd, ke, vd, ve, xi⟩) => cellsame_any ⟨ka, kc', va, vc, xa⟩ ⟨kd, ke, vd, ve, xi⟩ W h h'
  simp only [Cl.same_refl, CellV.val, CellV.cells] at e1
  simp only [show xa.same xi = false from by decide +kernel, CellV.val, CellV.cells] at e2
  simp only [xa, xi, List.length_cons, List.length_nil, Nat.zero_add, Nat.reduceAdd, Int.natCast_zero] at e1 e2
  refine (e1 _ y2).mono ?_
  rintro e w8 ⟨rfl, hb8⟩
  have m8 := (hb8.block _ (lt_of_heap m7)).trans m7
  have k8 := (hb8.block _ (lt_of_heap k7)).trans k7
  have y2' := y2.below hb8
  have y3' := y3.below hb8
  have hH8 := Ext.tr hH7 hb8
  clear e1 hb8 m7 k7 y2 y3 hH7
  go_wp2_with (first | (refine wpList_load_rowG rfl 25 (.tmp 3) rfl b3 rfl 25 #[.slice ka 1 kc', .int .i64 2, .slice va 2 vc, .int .u32 0, .int .u32 0] (0, 0) _ m8 Try.underlying25 rfl (by kernel_rfl) ?_) | (refine wpList_load_rowG rfl 25 (.tmp 7) rfl b5 rfl 25 #[.slice kd 0 ke, .int .i64 0, .slice vd 0 ve, .int .u32 0, .int .u32 258] (0, 0) _ k8 Try.underlying25 rfl (by kernel_rfl) ?_))
  refine (e2 _ y2' y3').mono ?_
  rintro e w9 ⟨rfl, hb9⟩
  go_wp2
  go_ret
  exact ⟨rfl, Ext.tr hH8 hb9⟩
end Go.Proofs.Ytafffpkjpghnjaa
