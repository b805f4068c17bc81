
/- The laws' own first line (scowlaw17.live): it returns true. Printed by wip/tools/gen_live17.py. -/

import Derived.Test.YtgjielobfakkmaaEntPlain

import Derived.Test.YtgjielobfakkmaaEntSmall

import Derived.Test.YtgjielobfakkmaaPartRef

import Derived.Lib.SlBytesConst

namespace Go.Proofs.Ytgjielobfakkmaa

open Go.RowKit

attribute [local go_sem] Oper.semAt_some

/-- '[]byte' of a constant: the block of its bytes is marked, wherever it lies. -/
theorem conv_const {P : Program} {t e : TypeId} (ht : P.underlying t = some (.slice e)) (he : P.underlying e = some (.int .u8)) (w : World) (C : Array Value) (n c b : Nat) (hb : b = w.heap.size) :
    (convert t t (.slice (some ⟨b, 0, none⟩) n c)).run P (w.alloc (.cells C e)) = .ok (.slice (some ⟨b, 0, none⟩) n c) (w.alloc (.cells C e (C.size, C.size + 1))) := by
  subst hb
  exact Lib.run_convert_bytes_const w t e C n c ht he
theorem RdB.litN (w : World) (e : TypeId) (bs : List UInt8) (b : Nat) (hb : b = w.heap.size) : RdB (w.alloc (.cells (bvs bs).toArray e)) (some ⟨b, 0, none⟩) bs := by
  subst hb; exact RdB.lit w e bs
def la : List Ent := [⟨[97], [120, 121]⟩, ⟨[98], []⟩]
def lb : List UInt8 := [1, 97, 2, 120, 121, 1, 98, 0]
theorem la_put : Ent.putAll la = lb := by decide
theorem la_getAll : Ent.getAll lb = some la := by
  rw [← la_put]
  refine Ent.getAll_putAll la ⟨?_, ?_⟩
  · intro k h
    rcases k with _ | _ | k
    · simp [la]
    · simp [la]
    · exact absurd h (by simp [la])
  · intro k h
    rcases k with _ | k
    · rfl
    · exact absurd h (by simp [la])
theorem la_get : Ent.get lb = (⟨[97], [120, 121]⟩, 5, 0) := Ent.get_put ⟨[97], [120, 121]⟩ [1, 98, 0] rfl
theorem la_zero : Ent.getAll [0] = none := rfl
theorem la_part : (Ent.partOf la [98] []).count = 1 := rfl
theorem la_betw : (Ent.between la [] [98]).length = 1 := rfl
/-- The two entries in memory. -/
theorem live_start (w : World) : ∃ L : List EnV, L.map EnV.x = la ∧ RdE ((((w.alloc (.cells #[.int .u8 97] 5 (1, 2))).alloc (.cells #[.int .u8 120, .int .u8 121] 5 (2, 3))).alloc (.cells #[.int .u8 98] 5 (1, 2))).alloc (.cells #[.slice (some ⟨w.heap.size, 0, none⟩) 1 1, .slice (some ⟨w.heap.size + 1, 0, none⟩) 2 2, .slice (some ⟨w.heap.size + 1 + 1, 0, none⟩) 1 1, .slice none 0 0] 28)) (some ⟨w.heap.size + 1 + 1 + 1, 0, none⟩) L ∧ Ext w ((((w.alloc (.cells #[.int .u8 97] 5 (1, 2))).alloc (.cells #[.int .u8 120, .int .u8 121] 5 (2, 3))).alloc (.cells #[.int .u8 98] 5 (1, 2))).alloc (.cells #[.slice (some ⟨w.heap.size, 0, none⟩) 1 1, .slice (some ⟨w.heap.size + 1, 0, none⟩) 2 2, .slice (some ⟨w.heap.size + 1 + 1, 0, none⟩) 1 1, .slice none 0 0] 28)) := by
  have e1 := Ext.alloc w (.cells #[.int .u8 97] 5 (1, 2))
  have e2 := Ext.alloc (w.alloc (.cells #[.int .u8 97] 5 (1, 2))) (.cells #[.int .u8 120, .int .u8 121] 5 (2, 3))
  have e3 := Ext.alloc ((w.alloc (.cells #[.int .u8 97] 5 (1, 2))).alloc (.cells #[.int .u8 120, .int .u8 121] 5 (2, 3))) (.cells #[.int .u8 98] 5 (1, 2))
  have e4 := Ext.alloc (((w.alloc (.cells #[.int .u8 97] 5 (1, 2))).alloc (.cells #[.int .u8 120, .int .u8 121] 5 (2, 3))).alloc (.cells #[.int .u8 98] 5 (1, 2))) (.cells #[.slice (some ⟨w.heap.size, 0, none⟩) 1 1, .slice (some ⟨w.heap.size + 1, 0, none⟩) 2 2, .slice (some ⟨w.heap.size + 1 + 1, 0, none⟩) 1 1, .slice none 0 0] 28)
  have l1 := (((RdB.litF w 5 [97] (1, 2)).below e2).below e3).below e4
  have l2 := ((RdB.litF (w.alloc (.cells #[.int .u8 97] 5 (1, 2))) 5 [120, 121] (2, 3)).below e3).below e4
  have l3 := (RdB.litF ((w.alloc (.cells #[.int .u8 97] 5 (1, 2))).alloc (.cells #[.int .u8 120, .int .u8 121] 5 (2, 3))) 5 [98] (1, 2)).below e4
  rw [World.size_alloc] at l2
  rw [World.size_alloc, World.size_alloc] at l3
  have g := heap_alloc_new (((w.alloc (.cells #[.int .u8 97] 5 (1, 2))).alloc (.cells #[.int .u8 120, .int .u8 121] 5 (2, 3))).alloc (.cells #[.int .u8 98] 5 (1, 2))) (.cells #[.slice (some ⟨w.heap.size, 0, none⟩) 1 1, .slice (some ⟨w.heap.size + 1, 0, none⟩) 2 2, .slice (some ⟨w.heap.size + 1 + 1, 0, none⟩) 1 1, .slice none 0 0] 28)
  rw [World.size_alloc, World.size_alloc, World.size_alloc] at g
  refine ⟨[⟨some ⟨w.heap.size, 0, none⟩, 1, some ⟨w.heap.size + 1, 0, none⟩, 2, ⟨[97], [120, 121]⟩⟩, ⟨some ⟨w.heap.size + 1 + 1, 0, none⟩, 1, none, 0, ⟨[98], []⟩⟩], rfl, ⟨⟨rfl, fun _ => ⟨_, rfl, fun j u hj => ?_⟩⟩, ?_⟩, Ext.tr (Ext.tr (Ext.tr e1 e2) e3) e4⟩
  · rw [Addr.add_lit, cell_of_row _ _ _ _ _ _ g]
    simpa [ecs, EnV.cells] using hj
  · intro e he
    simp only [List.mem_cons, List.not_mem_nil, or_false] at he
    rcases he with rfl | rfl
    · exact ⟨l1, l2, Nat.le_refl _, Nat.le_refl _⟩
    · exact ⟨l3, RdB.nil_ _ _, Nat.le_refl _, Nat.le_refl _⟩


set_option maxRecDepth 100000 in
set_option maxHeartbeats 4000000 in
theorem live17 (w : World) : Calls Try.prog 7 #[] w fun e w' => e = .returned (.bool true) ∧ Below w.heap.size w w' := by
  have kc := conv_const (P := Try.prog) Try.underlying25 Try.underlying5
  obtain ⟨L, hLx, hL1, hE1⟩ := live_start w
  have hL2 : L.length = 2 := by have := congrArg List.length hLx; simpa [la] using this
  have hfit : Fit L := by unfold Fit; rw [hLx, hL2]; decide
  go_enter Try.func7, Try.ntmps7
  go_wp2_with fail
  obtain ⟨W1, hW1⟩ : ∃ W1, W1 = (((w.alloc (.cells #[.int .u8 97] 5 (1, 2))).alloc (.cells #[.int .u8 120, .int .u8 121] 5 (2, 3))).alloc (.cells #[.int .u8 98] 5 (1, 2))).alloc (.cells #[.slice (some ⟨w.heap.size, 0, none⟩) 1 1, .slice (some ⟨w.heap.size + 1, 0, none⟩) 2 2, .slice (some ⟨w.heap.size + 1 + 1, 0, none⟩) 1 1, .slice none 0 0] 28) := ⟨_, rfl⟩
  rw [← hW1] at hL1 hE1 ⊢
  clear hW1
  obtain ⟨AL, hAL⟩ : ∃ AL : Option Addr, AL = some ⟨w.heap.size + 1 + 1 + 1, 0, none⟩ := ⟨_, rfl⟩
  rw [← hAL] at hL1 ⊢
  have HAL := Lib.hid hAL
  clear hAL
  have h1 := eputall_any AL L 2 W1 hL1 (by omega) hfit.total
  rw [hL2, hLx, la_put] at h1
  refine h1.mono ?_
  clear h1
  rintro e w2 ⟨A1, c1, rfl, ho1, hb1⟩
  have r1 := ho1.rd'
  have n1 := ho1.nc
  have hE2 := Ext.tr hE1 hb1
  have hL1' := hL1.below hb1
  rw [show lb.length = 8 from rfl] at n1 ⊢
  clear ho1 hb1 hL1 hE1
  go_wp2_with fail
  have h2 := getall_any A1 lb c1 w2 r1 (by decide) n1
  rw [show lb.length = 8 from rfl] at h2
  refine h2.mono ?_
  clear h2
  rintro e w3 (⟨G, A3, c3, hg, rfl, hG, hGc, hb3⟩ | ⟨hg, _⟩)
  case inr => rw [la_getAll] at hg; cases hg
  rw [la_getAll] at hg
  injection hg with hGx
  have hG2 : G.length = 2 := by have := congrArg List.length hGx.symm; simpa [la] using this
  have r1' := r1.below hb3
  have hL1 := hL1'.below hb3
  have hE3 := Ext.tr hE2 hb3
  clear r1 hL1' hE2 hb3
  rw [hG2] at hGc ⊢
  go_wp2_with fail
  have h3 := eget_any A1 lb c1 w3 r1' (by decide) n1
  rw [show lb.length = 8 from rfl, la_get] at h3
  refine h3.mono ?_
  clear h3
  rintro e w4 ⟨u, rfl, hux, hat, hb4⟩
  simp only at hux
  have r1 := r1'.below hb4
  have hL1' := hL1.below hb4
  have hG' := hG.below hb4
  have hE4 := Ext.tr hE3 hb4
  clear r1' hL1 hG hE3 hb4
  simp only [egot, EnV.val]
  go_wp2_with (refine wpList_store_row rfl 28 (.tmp 5) (.tmp 30) rfl w4.heap.size u.cells rfl rfl 28 _ (heap_alloc_new w4 _) (einfo u) (by rfl) (eone u) ?_; rw [setRow_alloc])
  have hE5 := Ext.alloc w4 (.cells u.cells 28)
  have hgu := heap_alloc_new w4 (.cells u.cells 28)
  have hEz := Ext.alloc (w4.alloc (.cells u.cells 28)) (.cells #[.int .u8 0] 5)
  have hz := getall_any _ [0] 1 _ (RdB.litN (w4.alloc (.cells u.cells 28)) 5 [0] (w4.heap.size + 1) (by simp)) (by decide) (by decide)
  refine hz.mono ?_
  clear hz
  rintro e w6 (⟨G0, A6, c6, hg, _⟩ | ⟨_, rfl, hb6⟩)
  case inl => rw [la_zero] at hg; cases hg
  have hE46 := Ext.tr hE5 (Ext.tr hEz hb6)
  have hgu6 := (hb6.block _ (Nat.lt_of_lt_of_le (lt_of_heap hgu) hEz.size)).trans ((hEz.block _ (lt_of_heap hgu)).trans hgu)
  have hE6 := Ext.tr hE4 hE46
  have q1 := r1.below hE46
  have q2 := hL1'.below hE46
  have q3 := hG'.below hE46
  have q4 := hat.i.below hE46
  clear hE5 hgu hEz hb6 hE4 r1 hL1' hG' hat hE46
  have hEc := Ext.alloc w6 (.cells #[.int .u8 98] 5 (1, 2))
  have hpart := partOf_any AL L 2 (some ⟨w6.heap.size, 0, none⟩) none [98] [] 1 0 (w6.alloc (.cells #[.int .u8 98] 5 (1, 2))) (q2.below hEc) hfit (RdB.litF w6 5 [98] (1, 2)) (RdB.nil_ _ _) (Nat.le_refl _) (Nat.le_refl _)
  rw [hL2, hLx] at hpart
  have Hpart := Lib.hid hpart
  clear hpart
  go_wp2_with fail
  refine Hpart.out.mono ?_
  rintro e w7 ⟨p, rfl, hpx, hp, hb7⟩
  have hE67 := Ext.tr hEc hb7
  have hps := hp.sum
  have hE8 := Ext.tr hE67 (Ext.alloc w7 (.cells p.cells 36))
  have hgp := heap_alloc_new w7 (.cells p.cells 36)
  have hgu8 := (hE8.block _ (lt_of_heap hgu6)).trans hgu6
  have hp8 := hp.below (Ext.alloc w7 (.cells p.cells 36))
  have s1 := q1.below hE8
  have s2 := q2.below hE8
  have s3 := q3.below hE8
  have s4 := q4.below hE8
  have hEE := Ext.tr hE6 hE8
  clear Hpart hb7 hE67 hE8 q1 q2 q3 q4 hEc hE6 hp hgu6
  have Hux := Lib.hid hux
  obtain ⟨ka, kc', va, vc, x⟩ := u
  simp only at hux
  subst hux
  clear Hux
  have z1 := run_str (w7.alloc (.cells p.cells 36)) 25 9 5 A1 lb c1 Try.underlying25 Try.underlying5 Try.underlying9 s1 8 rfl
  rw [show lb.toArray = #[1, 97, 2, 120, 121, 1, 98, 0] from rfl] at z1
  have hsame := ref_same17 A3 AL G L c3 2 (w7.alloc (.cells p.cells 36)) s3 s2 (by omega)
  rw [hG2, hL2, ← hGx, hLx, Ent.sameL_refl] at hsame
  clear hGx
  go_wp2_with (first | (refine wpList_store_row rfl 36 (.tmp 10) (.tmp 41) rfl w7.heap.size p.cells rfl rfl 36 _ (heap_alloc_new w7 _) (pinfo hps) (by rw [psize hps]; rfl) (pone p) ?_; rw [setRow_alloc]) | (go_at_call 23; refine (num17 (0 : Int) _).mono ?_; rintro e w' ⟨rfl, rfl⟩))
  refine hsame.mono ?_
  clear hsame z1
  obtain ⟨W8, hW8⟩ : ∃ W8, W8 = (w7.alloc (.cells p.cells 36)) := ⟨_, rfl⟩
  rw [← hW8] at hgp hgu8 hp8 s1 s2 s3 s4 hEE ⊢
  clear hW8
  obtain ⟨gp, hgpn⟩ : ∃ gp, gp = w7.heap.size := ⟨_, rfl⟩
  obtain ⟨gu, hgun⟩ : ∃ gu, gu = w4.heap.size := ⟨_, rfl⟩
  rw [← hgpn] at hgp ⊢
  rw [← hgun] at hgu8 ⊢
  clear hgpn hgun
  rintro e w9 ⟨rfl, hb9⟩
  have hg9 := (hb9.block _ (lt_of_heap hgu8)).trans hgu8
  have hp9 := (hb9.block _ (lt_of_heap hgp)).trans hgp
  have hv9 : w9.cell? ⟨gu, 1, none⟩ = some (.slice va 2 vc) := cell_of_row _ _ _ _ _ _ hg9
  have hn9 : w9.cell? ⟨gp, 2, none⟩ = some (.int .i64 1) := by rw [cell_of_row _ _ _ _ _ _ hp9, pc2, hpx, la_part]
  have z2 := run_str w9 25 9 5 va [120, 121] vc Try.underlying25 Try.underlying5 Try.underlying9 (s4.vr.below hb9) 2 rfl
  have t2 := s2.below hb9
  have hdig := edigest_any AL L 2 w9 t2 (by omega) hfit.total hfit.putAll
  rw [hL2, hLx] at hdig
  have Hdig := Lib.hid hdig
  clear hdig
  go_wp2_with (go_at_call 23; refine (num17 (170 : Int) _).mono ?_; rintro e w' ⟨rfl, rfl⟩)
  refine Hdig.out.mono ?_
  rintro e w10 ⟨rfl, hb10⟩
  have t3 := t2.below hb10
  have hdig := ref_edigest AL L 2 w10 t3 (by omega) hfit.total hfit.putAll
  rw [hL2, hLx] at hdig
  have Hdig2 := Lib.hid hdig
  clear hdig Hdig
  go_wp2_with fail
  refine Hdig2.out.mono ?_
  clear Hdig2
  rintro e w11 ⟨rfl, hb11⟩
  have t4 := t3.below hb11
  have hrun := eqArr10 (Ent.digest la) (Ent.digest la) w11 (Ent.digest_len _) (Ent.digest_len _)
  rw [show (Ent.digest la == Ent.digest la) = true by simp] at hrun
  generalize (bvs (Ent.digest la)).toArray = dz at *
  have h1L : 1 < L.length := by omega
  obtain ⟨ad, hAd, hcell, hin⟩ := t4.at_ h1L
  have hE1x : L[1].x = ⟨[98], []⟩ := by
    have h9 : (L.map EnV.x)[1]? = la[1]? := by rw [hLx]
    rw [List.getElem?_map, List.getElem?_eq_getElem h1L] at h9
    simpa [la] using h9
  obtain ⟨E1, hE1⟩ : ∃ E1, E1 = L[1] := ⟨_, rfl⟩
  rw [← hE1] at hcell hin hE1x
  have hcx : ∀ j u, E1.cells[j]? = some u → w11.cell? ((ad.add (1 * 2)).add j) = some u := fun j u hj => by rw [add_add']; exact hcell j u hj
  have hput := eput_any E1 w11 hin (by rw [hE1x]; decide) (by rw [hE1x]; decide)
  rw [hE1x, show (⟨[98], []⟩ : Ent).put = [1, 98, 0] from rfl] at hput
  rw [show ([1, 98, 0] : List UInt8).length = 3 from rfl] at hput
  have Hcx := Lib.hid hcx
  have Hput := Lib.hid hput
  subst hAd
  have hsz1 := einfo E1
  clear hcx hput hcell hin hE1
  go_wp2_with (have hcx := Hcx.out; refine wpList_load_cells rfl 28 (.tmp 87) rfl _ rfl E1.cells _ hcx Try.underlying28 rfl (einfo _) ?_; clear hcx)
  refine Hput.out.mono ?_
  clear Hput Hcx
  rintro e w12 ⟨A12, c12, rfl, ho12, hb12⟩
  have z3 := run_str w12 25 9 5 A12 [1, 98, 0] c12 Try.underlying25 Try.underlying5 Try.underlying9 ho12.rd' 3 rfl
  have t5 := t4.below hb12
  have hEc2 := Ext.alloc w12 (.cells #[.int .u8 98] 5 (1, 2))
  have hbt := between_any (some ad) L 2 none (some ⟨w12.heap.size, 0, none⟩) [] [98] 0 1 (w12.alloc (.cells #[.int .u8 98] 5 (1, 2))) (t5.below hEc2) (by omega) (RdB.nil_ _ _) (RdB.litF w12 5 [98] (1, 2))
  have hbl : (betV L [] [98]).length = 1 := by
    have h9 := congrArg List.length (betV_map L [] [98])
    rw [hLx, la_betw] at h9
    simpa using h9
  rw [hL2, hbl] at hbt
  have Hbt := Lib.hid hbt
  clear hbt hbl
  go_wp2_with fail
  refine Hbt.out.mono ?_
  clear Hbt
  rintro e w13 ⟨A13, c13, rfl, _, hb13⟩
  have hF := Ext.tr hb9 (Ext.tr hb10 (Ext.tr hb11 (Ext.tr hb12 (Ext.tr hEc2 hb13))))
  have hp13 := (hF.block _ (lt_of_heap hgp)).trans hgp
  have hpi := hp8.below hF
  have hss := samePart_any p p w13 hpi hpi
  rw [Pt.same_refl] at hss
  have Hss := Lib.hid hss
  clear hss z3 z2 hrun
  go_wp2_with (refine wpList_load_rowG rfl 36 (.tmp 10) rfl gp rfl 36 p.cells (0, 0) _ hp13 Try.underlying36 rfl (pinfo hps) ?_)
  refine Hss.out.mono ?_
  clear Hss
  rintro e w14 ⟨rfl, hb14⟩
  have hp14 := (hb14.block _ (lt_of_heap hp13)).trans hp13
  have hpz : (⟨none, 0, none, 0, ⟨[], [], 0, List.replicate 32 0⟩⟩ : PtV).In w14 := ⟨RdB.nil_ _ _, RdB.nil_ _ _, Nat.le_refl _, Nat.le_refl _, rfl, by decide, by decide⟩
  have hss := samePart_any p ⟨none, 0, none, 0, ⟨[], [], 0, List.replicate 32 0⟩⟩ w14 (hpi.below hb14) hpz
  have hne : p.x.same ⟨[], [], 0, List.replicate 32 0⟩ = false := by
    rw [Bool.eq_false_iff]
    intro h9
    rw [Pt.same_iff] at h9
    have h8 := la_part
    rw [← hpx, h9] at h8
    exact absurd h8 (by decide)
  rw [hne] at hss
  have Hss := Lib.hid hss
  clear hss hne
  go_wp2_with (first | (refine wpList_load_rowG rfl 36 (.tmp 10) rfl gp rfl 36 p.cells (0, 0) _ hp14 Try.underlying36 rfl (pinfo hps) ?_) | (refine wpList_build rfl 36 _ rfl (PtV.val ⟨none, 0, none, 0, ⟨[], [], 0, List.replicate 32 0⟩⟩) (by rfl) ?_))
  refine Hss.out.mono ?_
  clear Hss
  rintro e w15 ⟨rfl, hb15⟩
  go_wp2_with fail
  go_ret
  exact ⟨rfl, Ext.tr hEE (Ext.tr hF (Ext.tr hb14 hb15))⟩

end Go.Proofs.Ytgjielobfakkmaa
