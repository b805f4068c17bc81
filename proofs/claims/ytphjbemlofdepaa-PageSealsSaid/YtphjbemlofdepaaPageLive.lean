/- The laws' own first line (scowlaw05.live): it returns true. -/
import Derived.Test.YtphjbemlofdepaaPageAny
namespace Go.Proofs.Ytphjbemlofdepaa
open Go.RowKit
attribute [local go_sem] Oper.semAt_some

def Pg.cells (p : Pg) : Array Value := #[.int .i64 p.kind, .int .u64 (p.lsn : Int), .slice p.a p.body.length p.c]
theorem bvs_zeros (n : Nat) : (bvs (List.replicate n 0)).toArray = Array.replicate n (Value.int .u8 0) := by simp [bvs, bv]

set_option maxRecDepth 100000 in
set_option maxHeartbeats 1000000 in
theorem live05 (w : World) : Calls Try.prog 6 #[] w fun e w' => e = .returned (.bool true) ∧ Below w.heap.size w w' := by
  go_enter Try.func6, Try.ntmps6
  go_wp2_with (first | (at_make; go_loud (refine wpList_mk rfl (.const (.int .i64 243)) (.const (.int .i64 243)) 23 rfl elemB (.int .u8 0) zeroB rfl 243 _ _ rfl rfl (by omega) (by omega) ?_)))
  obtain ⟨W2, hW2⟩ : ∃ W2, W2 = (w.alloc (.cells (Array.replicate 243 (Value.int .u8 0)) 5)).alloc (.cells #[.int .i64 3, .int .u64 7, .slice (some ⟨w.heap.size, 0, none⟩) 243 243] 25) := ⟨_, rfl⟩
  have hB2 : Below w.heap.size w W2 := by rw [hW2]; exact Ext.tr (Ext.alloc w _) (Ext.alloc _ _)
  have hg2 : W2.heap[w.heap.size + 1]? = some (.cells #[.int .i64 3, .int .u64 7, .slice (some ⟨w.heap.size, 0, none⟩) 243 243] 25 (0, 0)) := by
    have h1 := heap_alloc_new (w.alloc (.cells (Array.replicate 243 (Value.int .u8 0)) 5)) (.cells #[.int .i64 3, .int .u64 7, .slice (some ⟨w.heap.size, 0, none⟩) 243 243] 25)
    rw [hW2]
    simpa using h1
  have hr2 : RdB W2 (some ⟨w.heap.size, 0, none⟩) (List.replicate 243 0) := by
    have h1 := RdB.lit w 5 (List.replicate 243 0)
    rw [bvs_zeros] at h1
    rw [hW2]
    exact h1.below (Ext.alloc _ _)
  obtain ⟨D, hD⟩ : ∃ D, D = List.replicate 243 (0 : UInt8) := ⟨_, rfl⟩
  rw [← hD] at hr2
  have hDl : D.length = 243 := by rw [hD]; simp
  obtain ⟨p, hp⟩ : ∃ p : Pg, p = ⟨3, 7, some ⟨w.heap.size, 0, none⟩, D, 243⟩ := ⟨_, rfl⟩
  have hv : p.cells = #[.int .i64 3, .int .u64 7, .slice (some ⟨w.heap.size, 0, none⟩) 243 243] := by rw [hp]; simp [Pg.cells, hDl]
  have hp0 : p.seal_.2 = 0 := by rw [hp]; unfold Pg.seal_ Pg.good isKind; simp [hDl]
  have hpl := Pg.seal_len hp0
  have hpr : RdB W2 p.a p.body := by rw [hp]; exact hr2
  have hpn : p.lsn = 7 := by rw [hp]
  have hpb : p.body.length = 243 := by rw [hp]; exact hDl
  rw [← hW2, ← hv]
  rw [← hv] at hg2
  have hth := Pg.there (p := p) (by omega) hp0
  have Hth1 := Lib.hid hth.1
  have hth2 : Pg.parts p.seal_.1 = (3, 7, D) := by rw [hth.2, hp]
  have Hth2 := Lib.hid hth2
  have hDl2 := Lib.hid hDl
  have Hpl := Lib.hid hpl
  have Hpn := Lib.hid hpn
  have Hpb := Lib.hid hpb
  have Hp0 := Lib.hid hp0
  have Hp := Lib.hid hp
  clear hth hth2 hW2 hD hDl hp hv hp0 hpl hpn hpb hr2
  refine (seal_any p W2 (by rw [Hpn.out]; omega) hpr (by rw [Hpb.out]; omega)).mono ?_
  rw [Hpl.out, Hp0.out]
  rintro e w1 ⟨A1, c1, rfl, ho1, hb1⟩
  go_wp2_with fail
  have H9 := open_any A1 p.seal_.1 c1 w1 ho1.rd' (by rw [Hpl.out]; exact ho1.nc)
  rw [Hth1.out, Hth2.out, Hpl.out] at H9
  refine H9.mono ?_
  rintro e w2 ⟨⟨qk, ql, qa, qd, qc⟩, rfl, ⟨h1, h2, h3⟩, hr2, hb2⟩
  simp only at h1 h2 h3
  subst h1 h2 h3
  simp only [Pg.val, hDl2.out]
  go_wp2_with (first | (at_make; go_loud (refine wpList_mk rfl (.const (.int .i64 243)) (.const (.int .i64 243)) 23 rfl elemB (.int .u8 0) zeroB rfl 243 _ _ rfl rfl (by omega) (by omega) ?_)))
  obtain ⟨W3, hW3⟩ : ∃ W3, W3 = (w2.alloc (.cells #[.int .i64 3, .int .u64 7, .slice qa 243 qc] 25)).alloc (.cells (Array.replicate 243 (Value.int .u8 0)) 5) := ⟨_, rfl⟩
  have hB3 : Ext w2 W3 := by rw [hW3]; exact Ext.tr (Ext.alloc w2 _) (Ext.alloc _ _)
  have hE3 := ext_trans hB2 (ext_trans hb1 (Ext.tr hb2 hB3))
  have hp3 := ((ext_trans hb1 (Ext.tr hb2 hB3)).block _ (lt_of_heap hg2)).trans hg2
  have hq3 : W3.heap[w2.heap.size]? = some (.cells #[.int .i64 3, .int .u64 7, .slice qa 243 qc] 25 (0, 0)) := by
    have h1 := heap_alloc_new w2 (.cells #[.int .i64 3, .int .u64 7, .slice qa 243 qc] 25)
    rw [hW3]
    exact ((Ext.alloc _ _).block _ (lt_of_heap h1)).trans h1
  have hr3 := hr2.below hB3
  have hpr3 := ((hpr.below hb1).below hb2).below hB3
  have hz3 : RdB W3 (some ⟨w2.heap.size + 1, 0, none⟩) (List.replicate 243 0) := by
    have h1 := RdB.lit (w2.alloc (.cells #[.int .i64 3, .int .u64 7, .slice qa 243 qc] 25)) 5 (List.replicate 243 0)
    rw [bvs_zeros] at h1
    rw [hW3]
    simpa using h1
  have h4 := seal_any ⟨9, 0, some ⟨w2.heap.size + 1, 0, none⟩, List.replicate 243 0, 243⟩ W3 (by show 0 < _; omega) hz3 (by show (List.replicate 243 (0 : UInt8)).length ≤ _; simp)
  have hs4 : Pg.seal_ ⟨9, 0, some ⟨w2.heap.size + 1, 0, none⟩, List.replicate 243 0, 243⟩ = ([], 50) := by unfold Pg.seal_ Pg.good isKind; simp
  rw [hs4] at h4
  simp only [Pg.val, List.length_replicate, List.length_nil] at h4
  rw [← hW3]
  clear hW3 hs4 hz3 hb1 hb2 hB3 hr2 hpr hg2 hB2 ho1 H9
  refine h4.mono ?_
  clear h4
  rintro e w4 ⟨A4, c4, rfl, _, hb4⟩
  have hp4 := (hb4.block _ (lt_of_heap hp3)).trans hp3
  have hq4 := (hb4.block _ (lt_of_heap hq3)).trans hq3
  have hr4 := hr3.below hb4
  have hpr4 := hpr3.below hb4
  have hE4 := ext_trans hE3 hb4
  have hc0 := cell_of_row w4 w2.heap.size 0 _ _ _ hq4
  have hc1 := cell_of_row w4 w2.heap.size 1 _ _ _ hq4
  have hc2 := cell_of_row w4 w2.heap.size 2 _ _ _ hq4
  have hd0 : w4.cell? ⟨w.heap.size + 1, 0, none⟩ = some (.int .i64 p.kind) := cell_of_row w4 _ 0 _ _ _ hp4
  have hd1 : w4.cell? ⟨w.heap.size + 1, 1, none⟩ = some (.int .u64 (p.lsn : Int)) := cell_of_row w4 _ 1 _ _ _ hp4
  have hd2 : w4.cell? ⟨w.heap.size + 1, 2, none⟩ = some (.slice p.a p.body.length p.c) := cell_of_row w4 _ 2 _ _ _ hp4
  have hsm := Lib.hid (same_any p ⟨3, 7, qa, qd, qc⟩)
  have hsn := Lib.hid (same_any p Pg.zero)
  have hst : Hid (p.same ⟨3, 7, qa, qd, qc⟩ = true) := by show _ = _; rw [Hp.out]; simp [Pg.same]
  have hsf : Hid (p.same Pg.zero = false) := by show _ = _; rw [Hp.out]; simp [Pg.same, Pg.zero]
  clear hp3 hq3 hr3 hpr3 hb4
  go_wp2_with fail
  refine (num05 _ _).mono ?_
  rintro e w' ⟨rfl, rfl⟩
  go_wp2_with fail
  refine (num05 _ _).mono ?_
  rintro e w' ⟨rfl, rfl⟩
  go_wp2_with fail
  refine (num05 _ _).mono ?_
  rintro e w' ⟨rfl, rfl⟩
  go_wp2_with fail
  have h5 := hsm.out w4 hpr4 hr4
  simp only [Pg.val, hDl2.out] at h5
  rw [hst.out] at h5
  refine h5.mono ?_
  clear h5
  rintro e w5 ⟨rfl, hb5⟩
  have he0 := Ext.load hb5 hd0
  have he1 := Ext.load hb5 hd1
  have he2 := Ext.load hb5 hd2
  have hpr5 := hpr4.below hb5
  clear hd0 hd1 hd2 hp4 hpr4 hq4 hc0 hc1 hc2
  go_wp2_with fail
  have h6 := hsn.out w5 hpr5 (Pg.zero_rd _)
  rw [hsf.out] at h6
  refine h6.mono ?_
  clear h6
  rintro e w6 ⟨rfl, hb6⟩
  go_wp2
  go_ret
  exact ⟨rfl, ext_trans hE4 (ext_trans hb5 hb6)⟩
end Go.Proofs.Ytphjbemlofdepaa
