
/- The laws' own first line (scowlaw20.live): it returns true. Printed by wip/tools/gen_oplive20.py. -/

import Derived.Test.YtdekdblebflklaaOpGet

import Derived.Test.YtdekdblebflklaaOpUndo

import Derived.Test.YtdekdblebflklaaOpSmall

import Derived.Lib.SlBytesConst

namespace Go.Proofs.Ytdekdblebflklaa

open Go.RowKit

attribute [local go_sem] Oper.semAt_some

/-- '[]byte' of a constant: the block of its bytes is marked, wherever it lies. -/
theorem conv_const {P : Program} {t e : TypeId} (ht : P.underlying t = some (.slice e)) (he : P.underlying e = some (.int .u8)) (w : World) (C : Array Value) (n c b : Nat) (hb : b = w.heap.size) :
    (convert t t (.slice (some ⟨b, 0, none⟩) n c)).run P (w.alloc (.cells C e)) = .ok (.slice (some ⟨b, 0, none⟩) n c) (w.alloc (.cells C e (C.size, C.size + 1))) := by
  subst hb
  exact Lib.run_convert_bytes_const w t e C n c ht he
def la20 : List Ent := [⟨[97], []⟩, ⟨[99], []⟩]
def lb20 : List Ent := [⟨[98], [120]⟩, ⟨[99], []⟩]
def lo20 : List Opn := [⟨true, [97], []⟩, ⟨false, [98], [120]⟩]
def lp20 : List UInt8 := [1, 1, 97, 0, 1, 98, 1, 120]
theorem la_diff : Opn.diff la20 lb20 = lo20 := by simp [la20, lb20, lo20, Opn.diff, ltB, Opn.gone, Opn.put]
theorem la_apply : Opn.apply la20 lo20 = lb20 := by rw [← la_diff]; exact Opn.apply_diff (by simp [UpK, la20, ltB]) (by simp [UpK, lb20, ltB])
theorem lo_put : Opn.putAll lo20 = lp20 := by decide
theorem lo_get : Opn.getAll lp20 = some lo20 := by
  rw [← lo_put]
  refine Opn.getAll_putAll ⟨?_, by simp [UpK, lo20, ltB]⟩
  intro o ho
  simp only [lo20, List.mem_cons, List.not_mem_nil, or_false] at ho
  rcases ho with rfl | rfl
  · exact ⟨by simp, by simp, by simp⟩
  · exact ⟨by simp, by simp, by simp⟩
theorem lo_bad : Opn.getAll [2] = none := rfl
theorem live_start20 (w : World) : ∃ La Lb : List EnV, La.map EnV.x = la20 ∧ Lb.map EnV.x = lb20 ∧ RdE (((((((w.alloc (.cells #[.int .u8 97] 5 (1, 2))).alloc (.cells #[.int .u8 99] 5 (1, 2))).alloc (.cells #[.slice (some ⟨w.heap.size, 0, none⟩) 1 1, .slice none 0 0, .slice (some ⟨w.heap.size + 1, 0, none⟩) 1 1, .slice none 0 0] 48)).alloc (.cells #[.int .u8 98] 5 (1, 2))).alloc (.cells #[.int .u8 120] 5 (1, 2))).alloc (.cells #[.int .u8 99] 5 (1, 2))).alloc (.cells #[.slice (some ⟨w.heap.size + 1 + 1 + 1, 0, none⟩) 1 1, .slice (some ⟨w.heap.size + 1 + 1 + 1 + 1, 0, none⟩) 1 1, .slice (some ⟨w.heap.size + 1 + 1 + 1 + 1 + 1, 0, none⟩) 1 1, .slice none 0 0] 48)) (some ⟨w.heap.size + 1 + 1, 0, none⟩) La ∧ RdE (((((((w.alloc (.cells #[.int .u8 97] 5 (1, 2))).alloc (.cells #[.int .u8 99] 5 (1, 2))).alloc (.cells #[.slice (some ⟨w.heap.size, 0, none⟩) 1 1, .slice none 0 0, .slice (some ⟨w.heap.size + 1, 0, none⟩) 1 1, .slice none 0 0] 48)).alloc (.cells #[.int .u8 98] 5 (1, 2))).alloc (.cells #[.int .u8 120] 5 (1, 2))).alloc (.cells #[.int .u8 99] 5 (1, 2))).alloc (.cells #[.slice (some ⟨w.heap.size + 1 + 1 + 1, 0, none⟩) 1 1, .slice (some ⟨w.heap.size + 1 + 1 + 1 + 1, 0, none⟩) 1 1, .slice (some ⟨w.heap.size + 1 + 1 + 1 + 1 + 1, 0, none⟩) 1 1, .slice none 0 0] 48)) (some ⟨w.heap.size + 1 + 1 + 1 + 1 + 1 + 1, 0, none⟩) Lb ∧ Ext w (((((((w.alloc (.cells #[.int .u8 97] 5 (1, 2))).alloc (.cells #[.int .u8 99] 5 (1, 2))).alloc (.cells #[.slice (some ⟨w.heap.size, 0, none⟩) 1 1, .slice none 0 0, .slice (some ⟨w.heap.size + 1, 0, none⟩) 1 1, .slice none 0 0] 48)).alloc (.cells #[.int .u8 98] 5 (1, 2))).alloc (.cells #[.int .u8 120] 5 (1, 2))).alloc (.cells #[.int .u8 99] 5 (1, 2))).alloc (.cells #[.slice (some ⟨w.heap.size + 1 + 1 + 1, 0, none⟩) 1 1, .slice (some ⟨w.heap.size + 1 + 1 + 1 + 1, 0, none⟩) 1 1, .slice (some ⟨w.heap.size + 1 + 1 + 1 + 1 + 1, 0, none⟩) 1 1, .slice none 0 0] 48)) := by
  have e0 := Ext.alloc w (.cells #[.int .u8 97] 5 (1, 2))
  have e1 := Ext.alloc (w.alloc (.cells #[.int .u8 97] 5 (1, 2))) (.cells #[.int .u8 99] 5 (1, 2))
  have e2 := Ext.alloc ((w.alloc (.cells #[.int .u8 97] 5 (1, 2))).alloc (.cells #[.int .u8 99] 5 (1, 2))) (.cells #[.slice (some ⟨w.heap.size, 0, none⟩) 1 1, .slice none 0 0, .slice (some ⟨w.heap.size + 1, 0, none⟩) 1 1, .slice none 0 0] 48)
  have e3 := Ext.alloc (((w.alloc (.cells #[.int .u8 97] 5 (1, 2))).alloc (.cells #[.int .u8 99] 5 (1, 2))).alloc (.cells #[.slice (some ⟨w.heap.size, 0, none⟩) 1 1, .slice none 0 0, .slice (some ⟨w.heap.size + 1, 0, none⟩) 1 1, .slice none 0 0] 48)) (.cells #[.int .u8 98] 5 (1, 2))
  have e4 := Ext.alloc ((((w.alloc (.cells #[.int .u8 97] 5 (1, 2))).alloc (.cells #[.int .u8 99] 5 (1, 2))).alloc (.cells #[.slice (some ⟨w.heap.size, 0, none⟩) 1 1, .slice none 0 0, .slice (some ⟨w.heap.size + 1, 0, none⟩) 1 1, .slice none 0 0] 48)).alloc (.cells #[.int .u8 98] 5 (1, 2))) (.cells #[.int .u8 120] 5 (1, 2))
  have e5 := Ext.alloc (((((w.alloc (.cells #[.int .u8 97] 5 (1, 2))).alloc (.cells #[.int .u8 99] 5 (1, 2))).alloc (.cells #[.slice (some ⟨w.heap.size, 0, none⟩) 1 1, .slice none 0 0, .slice (some ⟨w.heap.size + 1, 0, none⟩) 1 1, .slice none 0 0] 48)).alloc (.cells #[.int .u8 98] 5 (1, 2))).alloc (.cells #[.int .u8 120] 5 (1, 2))) (.cells #[.int .u8 99] 5 (1, 2))
  have e6 := Ext.alloc ((((((w.alloc (.cells #[.int .u8 97] 5 (1, 2))).alloc (.cells #[.int .u8 99] 5 (1, 2))).alloc (.cells #[.slice (some ⟨w.heap.size, 0, none⟩) 1 1, .slice none 0 0, .slice (some ⟨w.heap.size + 1, 0, none⟩) 1 1, .slice none 0 0] 48)).alloc (.cells #[.int .u8 98] 5 (1, 2))).alloc (.cells #[.int .u8 120] 5 (1, 2))).alloc (.cells #[.int .u8 99] 5 (1, 2))) (.cells #[.slice (some ⟨w.heap.size + 1 + 1 + 1, 0, none⟩) 1 1, .slice (some ⟨w.heap.size + 1 + 1 + 1 + 1, 0, none⟩) 1 1, .slice (some ⟨w.heap.size + 1 + 1 + 1 + 1 + 1, 0, none⟩) 1 1, .slice none 0 0] 48)
  have l0 := (((((((RdB.litF w 5 [97] (1, 2)).below e1).below e2).below e3).below e4).below e5).below e6)
  have l1 := ((((((RdB.litF (w.alloc (.cells #[.int .u8 97] 5 (1, 2))) 5 [99] (1, 2)).below e2).below e3).below e4).below e5).below e6)
  rw [World.size_alloc] at l1
  have l3 := ((((RdB.litF (((w.alloc (.cells #[.int .u8 97] 5 (1, 2))).alloc (.cells #[.int .u8 99] 5 (1, 2))).alloc (.cells #[.slice (some ⟨w.heap.size, 0, none⟩) 1 1, .slice none 0 0, .slice (some ⟨w.heap.size + 1, 0, none⟩) 1 1, .slice none 0 0] 48)) 5 [98] (1, 2)).below e4).below e5).below e6)
  rw [World.size_alloc, World.size_alloc, World.size_alloc] at l3
  have l4 := (((RdB.litF ((((w.alloc (.cells #[.int .u8 97] 5 (1, 2))).alloc (.cells #[.int .u8 99] 5 (1, 2))).alloc (.cells #[.slice (some ⟨w.heap.size, 0, none⟩) 1 1, .slice none 0 0, .slice (some ⟨w.heap.size + 1, 0, none⟩) 1 1, .slice none 0 0] 48)).alloc (.cells #[.int .u8 98] 5 (1, 2))) 5 [120] (1, 2)).below e5).below e6)
  rw [World.size_alloc, World.size_alloc, World.size_alloc, World.size_alloc] at l4
  have l5 := ((RdB.litF (((((w.alloc (.cells #[.int .u8 97] 5 (1, 2))).alloc (.cells #[.int .u8 99] 5 (1, 2))).alloc (.cells #[.slice (some ⟨w.heap.size, 0, none⟩) 1 1, .slice none 0 0, .slice (some ⟨w.heap.size + 1, 0, none⟩) 1 1, .slice none 0 0] 48)).alloc (.cells #[.int .u8 98] 5 (1, 2))).alloc (.cells #[.int .u8 120] 5 (1, 2))) 5 [99] (1, 2)).below e6)
  rw [World.size_alloc, World.size_alloc, World.size_alloc, World.size_alloc, World.size_alloc] at l5
  have gA := heap_alloc_new ((w.alloc (.cells #[.int .u8 97] 5 (1, 2))).alloc (.cells #[.int .u8 99] 5 (1, 2))) (.cells #[.slice (some ⟨w.heap.size, 0, none⟩) 1 1, .slice none 0 0, .slice (some ⟨w.heap.size + 1, 0, none⟩) 1 1, .slice none 0 0] 48)
  rw [World.size_alloc, World.size_alloc] at gA
  have gA := (e6.block _ (by simp)).trans ((e5.block _ (by simp)).trans ((e4.block _ (by simp)).trans ((e3.block _ (by simp)).trans (gA))))
  have gB := heap_alloc_new ((((((w.alloc (.cells #[.int .u8 97] 5 (1, 2))).alloc (.cells #[.int .u8 99] 5 (1, 2))).alloc (.cells #[.slice (some ⟨w.heap.size, 0, none⟩) 1 1, .slice none 0 0, .slice (some ⟨w.heap.size + 1, 0, none⟩) 1 1, .slice none 0 0] 48)).alloc (.cells #[.int .u8 98] 5 (1, 2))).alloc (.cells #[.int .u8 120] 5 (1, 2))).alloc (.cells #[.int .u8 99] 5 (1, 2))) (.cells #[.slice (some ⟨w.heap.size + 1 + 1 + 1, 0, none⟩) 1 1, .slice (some ⟨w.heap.size + 1 + 1 + 1 + 1, 0, none⟩) 1 1, .slice (some ⟨w.heap.size + 1 + 1 + 1 + 1 + 1, 0, none⟩) 1 1, .slice none 0 0] 48)
  rw [World.size_alloc, World.size_alloc, World.size_alloc, World.size_alloc, World.size_alloc, World.size_alloc] at gB
  refine ⟨[⟨some ⟨w.heap.size, 0, none⟩, 1, none, 0, ⟨[97], []⟩⟩, ⟨some ⟨w.heap.size + 1, 0, none⟩, 1, none, 0, ⟨[99], []⟩⟩], [⟨some ⟨w.heap.size + 1 + 1 + 1, 0, none⟩, 1, some ⟨w.heap.size + 1 + 1 + 1 + 1, 0, none⟩, 1, ⟨[98], [120]⟩⟩, ⟨some ⟨w.heap.size + 1 + 1 + 1 + 1 + 1, 0, none⟩, 1, none, 0, ⟨[99], []⟩⟩], rfl, rfl, ⟨⟨rfl, fun _ => ⟨_, rfl, fun j u hj => ?_⟩⟩, ?_⟩, ⟨⟨rfl, fun _ => ⟨_, rfl, fun j u hj => ?_⟩⟩, ?_⟩, Ext.tr (Ext.tr (Ext.tr (Ext.tr (Ext.tr (Ext.tr (e0) e1) e2) e3) e4) e5) e6⟩
  · rw [Addr.add_lit, cell_of_row _ _ _ _ _ _ gA]
    simpa [ecs, EnV.cells] using hj
  · intro e he
    simp only [List.mem_cons, List.not_mem_nil, or_false] at he
    rcases he with rfl | rfl
    · exact ⟨l0, RdB.nil_ _ _, Nat.le_refl _, Nat.le_refl _⟩
    · exact ⟨l1, RdB.nil_ _ _, Nat.le_refl _, Nat.le_refl _⟩
  · rw [Addr.add_lit, cell_of_row _ _ _ _ _ _ gB]
    simpa [ecs, EnV.cells] using hj
  · intro e he
    simp only [List.mem_cons, List.not_mem_nil, or_false] at he
    rcases he with rfl | rfl
    · exact ⟨l3, l4, Nat.le_refl _, Nat.le_refl _⟩
    · exact ⟨l5, RdB.nil_ _ _, Nat.le_refl _, Nat.le_refl _⟩
set_option maxRecDepth 100000 in
set_option maxHeartbeats 4000000 in
theorem live20 (w : World) : Calls Try.prog 12 #[] w fun e w' => e = .returned (.bool true) ∧ Below w.heap.size w w' := by
  have kc := conv_const (P := Try.prog) Try.underlying33 Try.underlying5
  obtain ⟨La, Lb, hLa, hLb, hA, hB, hE1⟩ := live_start20 w
  have hla : La.length = 2 := by have := congrArg List.length hLa; simpa [la20] using this
  have hlb : Lb.length = 2 := by have := congrArg List.length hLb; simpa [lb20] using this
  go_enter Try.func12, Try.ntmps12
  go_wp2_with fail
  obtain ⟨W1, hW1⟩ : ∃ W1, W1 = (((((((w.alloc (.cells #[.int .u8 97] 5 (1, 2))).alloc (.cells #[.int .u8 99] 5 (1, 2))).alloc (.cells #[.slice (some ⟨w.heap.size, 0, none⟩) 1 1, .slice none 0 0, .slice (some ⟨w.heap.size + 1, 0, none⟩) 1 1, .slice none 0 0] 48)).alloc (.cells #[.int .u8 98] 5 (1, 2))).alloc (.cells #[.int .u8 120] 5 (1, 2))).alloc (.cells #[.int .u8 99] 5 (1, 2))).alloc (.cells #[.slice (some ⟨w.heap.size + 1 + 1 + 1, 0, none⟩) 1 1, .slice (some ⟨w.heap.size + 1 + 1 + 1 + 1, 0, none⟩) 1 1, .slice (some ⟨w.heap.size + 1 + 1 + 1 + 1 + 1, 0, none⟩) 1 1, .slice none 0 0] 48)) := ⟨_, rfl⟩
  rw [← hW1] at hA hB hE1 ⊢
  clear hW1
  obtain ⟨AA, hAA⟩ : ∃ AA : Option Addr, AA = some ⟨w.heap.size + 1 + 1, 0, none⟩ := ⟨_, rfl⟩
  obtain ⟨AB, hAB⟩ : ∃ AB : Option Addr, AB = some ⟨w.heap.size + 1 + 1 + 1 + 1 + 1 + 1, 0, none⟩ := ⟨_, rfl⟩
  rw [← hAA] at hA ⊢
  rw [← hAB] at hB ⊢
  have HAA := Lib.hid hAA
  have HAB := Lib.hid hAB
  clear hAA hAB kc
  have hup : Hid (UpK EnV.key La) := (UpK.map (f := EnV.x) (key := EnV.key) (key' := Ent.key) (fun _ => rfl)).1 (by rw [hLa]; simp [UpK, la20, ltB])
  have h1 := diff_any AA La 2 AB Lb 2 W1 hA hB (by omega) (by omega) (by omega) (by omega)
  rw [hla, hlb] at h1
  refine h1.mono ?_
  clear h1
  rintro e w2 ⟨A2, D, c2, rfl, hD, hRD, hcD, hinD, _, hb2⟩
  rw [hLa, hLb, la_diff] at hD
  have hdl : D.length = 2 := by have := congrArg List.length hD; simpa [lo20] using this
  have hA2 := hA.below hb2
  have hB2 := hB.below hb2
  have hE2 := Ext.tr hE1 hb2
  have hRD2 := Lib.hid hRD
  clear hA hB hb2 hE1 hinD hRD
  have h2 := oput_any A2 D c2 w2 hRD2.out (by omega) (fun e he => by
    have : e.x ∈ lo20 := by rw [← hD]; exact List.mem_map.2 ⟨e, he, rfl⟩
    simp only [lo20, List.mem_cons, List.not_mem_nil, or_false] at this
    rcases this with h | h <;> rw [h] <;> simp)
  rw [hdl] at h2 ⊢
  rw [hD, lo_put] at h2
  go_wp2_with fail
  refine h2.mono ?_
  clear h2
  rintro e w3 ⟨A3, c3, rfl, ho3, hb3⟩
  have r3 := ho3.rd'
  have n3 := ho3.nc
  have hA3 := hA2.below hb3
  have hB3 := hB2.below hb3
  have hRD3 := hRD2.out.below hb3
  have hE3 := Ext.tr hE2 hb3
  clear ho3 hb3 hA2 hB2 hRD2 hE2
  have h3 := oget_any A3 lp20 c3 w3 r3 n3 (by decide)
  rw [show lp20.length = 8 from rfl] at h3 n3 ⊢
  go_wp2_with fail
  refine h3.mono ?_
  clear h3
  rintro e w4 (⟨G, A4, c4, hg, rfl, hG, hGc, _, hb4⟩ | ⟨hg, _⟩)
  case inr => rw [lo_get] at hg; cases hg
  rw [lo_get] at hg
  injection hg with hGx
  have hG2 : G.length = 2 := by have := congrArg List.length hGx.symm; simpa [lo20] using this
  rw [hG2] at hGc ⊢
  have hA4 := hA3.below hb4
  have hB4 := hB3.below hb4
  have hRD4 := hRD3.below hb4
  have r4 := r3.below hb4
  have hE4 := Ext.tr hE3 hb4
  clear hA3 hB3 hRD3 r3 hE3 hb4
  have hEz := Ext.alloc w4 (.cells #[.int .u8 2] 5)
  have hz := oget_any (some ⟨w4.heap.size, 0, none⟩) [2] 1 _ (RdB.lit w4 5 [2]) (by decide) (by decide)
  go_wp2_with fail
  refine hz.mono ?_
  clear hz
  rintro e w5 (⟨G0, A6, c6, hg, _⟩ | ⟨_, rfl, hb5⟩)
  case inl => rw [lo_bad] at hg; cases hg
  have hx5 := Ext.tr hEz hb5
  have hA5 := hA4.below hx5
  have hB5 := hB4.below hx5
  have hRD5 := hRD4.below hx5
  have hG5 := hG.below hx5
  have r5 := r4.below hx5
  have hE5 := Ext.tr hE4 hx5
  clear hA4 hB4 hRD4 hG r4 hE4 hx5 hEz hb5
  obtain ⟨dd, hA2e, hdd, _⟩ := hRD5.el (k := 0) (by omega)
  subst hA2e
  have hdx : D[0].x.del = true := by
    have h1 : (D.map OpV.x)[0]? = some ⟨true, [97], []⟩ := by rw [hD]; rfl
    rw [List.getElem?_map, List.getElem?_eq_getElem (by omega)] at h1
    simp only [Option.map_some, Option.some.injEq] at h1
    rw [h1]
  have hd0 : w5.cell? dd = some (.bool true) := by have := hdd.c0; rw [hdx] at this; exact this
  clear hdd
  have h6 := apply_any AA La 2 (some dd) D c2 w5 hA5 hRD5 hup.out (by omega) (by omega)
  rw [hla, hdl] at h6
  go_wp2_with fail
  refine h6.mono ?_
  clear h6
  rintro e w6 ⟨A6, L6, c6, rfl, hL6, _, hl6, hR6, _, _, hb6⟩
  have hB6 := hB5.below hb6
  have hRD6 := hRD5.below hb6
  have hG6 := hG5.below hb6
  have r6 := r5.below hb6
  have hE6 := Ext.tr hE5 hb6
  rw [hLa, hD, la_apply] at hL6
  have h7 := ref_same17 A6 AB L6 Lb c6 2 w6 hR6 hB6 (by omega)
  rw [hlb, hL6, hLb, Ent.sameL_refl] at h7
  clear hA5 hB5 hRD5 hG5 r5 hE5 hb6
  go_wp2_with fail
  refine h7.mono ?_
  clear h7
  rintro e w7 ⟨rfl, hb7⟩
  have hRD7 := hRD6.below hb7
  have hG7 := hG6.below hb7
  have r7 := r6.below hb7
  have hE7 := Ext.tr hE6 hb7
  have z1 := run_str _ 33 9 5 A3 lp20 c3 Try.underlying33 Try.underlying5 Try.underlying9 r7 lp20.length rfl
  rw [show lp20.length = 8 from rfl] at z1
  have hn0 := num20 0 w7
  clear hRD6 hG6 r6 hE6 hb7
  go_wp2_with fail
  refine hn0.mono ?_
  clear hn0
  rintro e w8 ⟨rfl, rfl⟩
  have h8 := ref_osame (some dd) A4 D G c2 c4 w7 hRD7 hG7 (by omega)
  rw [hdl, hG2, hD, ← hGx, show decide (lo20 = lo20) = true from decide_eq_true rfl] at h8
  go_wp2_with fail
  refine h8.mono ?_
  clear h8
  rintro e w9 ⟨rfl, hb9⟩
  have hE9 := Ext.tr hE7 hb9
  have hn9 := num20 200 w9
  go_wp2_with fail
  refine hn9.mono ?_
  rintro e w10 ⟨rfl, rfl⟩
  go_wp2_with fail
  go_ret
  exact ⟨rfl, hE9⟩
end Go.Proofs.Ytdekdblebflklaa
