/- The walk of the law CellInners. Printed by wip/tools/gen_cellinners.py. -/
import Derived.Test.YtafffpkjpghnjaaCellLaw
namespace Go.Proofs.Ytafffpkjpghnjaa
open Go.RowKit
attribute [local go_sem] Oper.semAt_some

set_option maxRecDepth 100000 in
set_option maxHeartbeats 2000000 in
theorem inners_c (w : World) (c : CellV) (hc : c.In w) (d : CellV) (hd : d.In w) (B : Option Addr) (bs : List UInt8) (cap : Nat) (hsm : c.small = false) :
    Calls Try.prog 4 #[c.val, d.val, .slice B bs.length cap] w fun e w' => e = .returned (.bool true) ∧ Below w.heap.size w w' := by
  have hE0 : Ext w ((w.alloc (.cells c.cells 25)).alloc (.cells d.cells 25)) := Ext.tr (Ext.alloc _ _) (Ext.alloc _ _)
  have g0 : ((w.alloc (.cells c.cells 25)).alloc (.cells d.cells 25)).heap[w.heap.size]? = some (.cells c.cells 25 (0, 0)) := ((Ext.alloc _ _).block _ (lt_of_heap (heap_alloc_new w _))).trans (heap_alloc_new w _)
  have k0 : ((w.alloc (.cells c.cells 25)).alloc (.cells d.cells 25)).heap[w.heap.size + 1]? = some (.cells d.cells 25 (0, 0)) := by simpa using heap_alloc_new (w.alloc (.cells c.cells 25)) (.cells d.cells 25)
  have hs := small07 c ((w.alloc (.cells c.cells 25)).alloc (.cells d.cells 25))
  have hs2 := fun W => small07 d W
  have hi := cinfo c
  have hj := cinfo d
  simp only [CellV.val] at hs hs2 ⊢
  rw [hsm] at hs
  clear hsm hs2
  go_enter Try.func4, Try.ntmps4
  go_wp2_with (refine wpList_load_rowG rfl 25 (.tmp 3) rfl w.heap.size rfl 25 c.cells (0, 0) _ g0 Try.underlying25 rfl hi ?_)
  refine hs.mono ?_
  rintro e w1 ⟨rfl, hb1⟩
  go_wp2_with fail
  refine (live07 _).mono ?_
  rintro e w9 ⟨rfl, hb9⟩
  go_wp2
  go_ret
  exact ⟨rfl, Ext.tr hE0 (Ext.tr hb1 hb9)⟩

set_option maxRecDepth 100000 in
set_option maxHeartbeats 2000000 in
theorem inners_d (w : World) (c : CellV) (hc : c.In w) (d : CellV) (hd : d.In w) (B : Option Addr) (bs : List UInt8) (cap : Nat) (hsm : c.small = true) (hsd : d.small = false ∨ 3000 < bs.length) :
    Calls Try.prog 4 #[c.val, d.val, .slice B bs.length cap] w fun e w' => e = .returned (.bool true) ∧ Below w.heap.size w w' := by
  have hE0 : Ext w ((w.alloc (.cells c.cells 25)).alloc (.cells d.cells 25)) := Ext.tr (Ext.alloc _ _) (Ext.alloc _ _)
  have g0 : ((w.alloc (.cells c.cells 25)).alloc (.cells d.cells 25)).heap[w.heap.size]? = some (.cells c.cells 25 (0, 0)) := ((Ext.alloc _ _).block _ (lt_of_heap (heap_alloc_new w _))).trans (heap_alloc_new w _)
  have k0 : ((w.alloc (.cells c.cells 25)).alloc (.cells d.cells 25)).heap[w.heap.size + 1]? = some (.cells d.cells 25 (0, 0)) := by simpa using heap_alloc_new (w.alloc (.cells c.cells 25)) (.cells d.cells 25)
  have hs := small07 c ((w.alloc (.cells c.cells 25)).alloc (.cells d.cells 25))
  have hs2 := fun W => small07 d W
  have hi := cinfo c
  have hj := cinfo d
  simp only [CellV.val] at hs hs2 ⊢
  rw [hsm] at hs
  have hb : d.small = true → 3000 < (bs.length : Int) := fun h => by rcases hsd with h' | h'; (rw [h] at h'; cases h'); omega
  clear hsm hsd
  cases hsm2 : d.small with
  | false =>
    rw [hsm2] at hs2
    clear hsm2 hb
    go_enter Try.func4, Try.ntmps4
    go_wp2_with (refine wpList_load_rowG rfl 25 (.tmp 3) rfl w.heap.size rfl 25 c.cells (0, 0) _ g0 Try.underlying25 rfl hi ?_)
    refine hs.mono ?_
    rintro e w1 ⟨rfl, hb1⟩
    have g1 := (hb1.block _ (lt_of_heap g0)).trans g0
    have k1 := (hb1.block _ (lt_of_heap k0)).trans k0
    have hE1 := Ext.tr hE0 hb1
    clear hs hb1 g0 k0 hE0
    go_wp2_with (refine wpList_load_rowG rfl 25 (.tmp 4) rfl (w.heap.size + 1) rfl 25 d.cells (0, 0) _ k1 Try.underlying25 rfl hj ?_)
    refine (hs2 _).mono ?_
    rintro e w2 ⟨rfl, hb2⟩
    have g2 := (hb2.block _ (lt_of_heap g1)).trans g1
    have k2 := (hb2.block _ (lt_of_heap k1)).trans k1
    have hE2 := Ext.tr hE1 hb2
    clear hs2 hb2 g1 k1 hE1
    go_wp2_with fail
    refine (live07 _).mono ?_
    rintro e w9 ⟨rfl, hb9⟩
    go_wp2
    go_ret
    exact ⟨rfl, Ext.tr hE2 hb9⟩
  | true =>
    have hb' := hb hsm2
    rw [hsm2] at hs2
    clear hsm2 hb
    go_enter Try.func4, Try.ntmps4
    go_wp2_with (refine wpList_load_rowG rfl 25 (.tmp 3) rfl w.heap.size rfl 25 c.cells (0, 0) _ g0 Try.underlying25 rfl hi ?_)
    refine hs.mono ?_
    rintro e w1 ⟨rfl, hb1⟩
    have g1 := (hb1.block _ (lt_of_heap g0)).trans g0
    have k1 := (hb1.block _ (lt_of_heap k0)).trans k0
    have hE1 := Ext.tr hE0 hb1
    clear hs hb1 g0 k0 hE0
    go_wp2_with (refine wpList_load_rowG rfl 25 (.tmp 4) rfl (w.heap.size + 1) rfl 25 d.cells (0, 0) _ k1 Try.underlying25 rfl hj ?_)
    refine (hs2 _).mono ?_
    rintro e w2 ⟨rfl, hb2⟩
    have g2 := (hb2.block _ (lt_of_heap g1)).trans g1
    have k2 := (hb2.block _ (lt_of_heap k1)).trans k1
    have hE2 := Ext.tr hE1 hb2
    clear hs2 hb2 g1 k1 hE1
    go_wp2_with fail
    refine (live07 _).mono ?_
    rintro e w9 ⟨rfl, hb9⟩
    go_wp2
    go_ret
    exact ⟨rfl, Ext.tr hE2 hb9⟩

set_option maxRecDepth 100000 in
set_option maxHeartbeats 2000000 in
theorem inners_go (w : World) (c : CellV) (hc : c.In w) (d : CellV) (hd : d.In w) (B : Option Addr) (bs : List UInt8) (cap : Nat) (hB : RdB w B bs) (hcap : bs.length ≤ cap) (hsm : c.small = true) (hsd : d.small = true) (hl : bs.length ≤ 3000) :
    Calls Try.prog 4 #[c.val, d.val, .slice B bs.length cap] w fun e w' => e = .returned (.bool true) ∧ Below w.heap.size w w' := by
  have hE0 : Ext w ((w.alloc (.cells c.cells 25)).alloc (.cells d.cells 25)) := Ext.tr (Ext.alloc _ _) (Ext.alloc _ _)
  have g0 : ((w.alloc (.cells c.cells 25)).alloc (.cells d.cells 25)).heap[w.heap.size]? = some (.cells c.cells 25 (0, 0)) := ((Ext.alloc _ _).block _ (lt_of_heap (heap_alloc_new w _))).trans (heap_alloc_new w _)
  have k0 : ((w.alloc (.cells c.cells 25)).alloc (.cells d.cells 25)).heap[w.heap.size + 1]? = some (.cells d.cells 25 (0, 0)) := by simpa using heap_alloc_new (w.alloc (.cells c.cells 25)) (.cells d.cells 25)
  have hs := small07 c ((w.alloc (.cells c.cells 25)).alloc (.cells d.cells 25))
  have hs2 := fun W => small07 d W
  have hi := cinfo c
  have hj := cinfo d
  simp only [CellV.val] at hs hs2 ⊢
  obtain ⟨L, m, hpl⟩ : ∃ L m, c.x.putI = (L, m) := ⟨_, _, rfl⟩
  obtain ⟨x, k, hgl⟩ : ∃ x k, Cl.getI bs = (x, k) := ⟨_, _, rfl⟩
  have hrl : Cl.refI bs = (x, k) := by rw [Cl.refI_is, hgl]
  have hP := fun W (h : c.In W) => putInner_any c W h
  have hR := fun W (h : c.In W) => ref_putInner c W h
  have hG := fun A cp W (h : RdB W A bs) (h2 : bs.length ≤ cp) => getInner_any A bs cp W h h2 (by omega)
  have hF := fun A cp W (h : RdB W A bs) (h2 : bs.length ≤ cp) => ref_getInner A bs cp W h h2 (by omega)
  simp only [hpl] at hP hR
  simp only [hgl] at hG
  simp only [hrl] at hF
  have HP := Lib.hid hP
  have HR := Lib.hid hR
  have HG := Lib.hid hG
  have HF := Lib.hid hF
  rw [hsm] at hs
  rw [hsd] at hs2
  clear hP hR hG hF hpl hgl hrl hsm hsd
  simp only [CellV.val] at HP HR
  have hl' : (bs.length : Int) ≤ 3000 := by omega
  go_enter Try.func4, Try.ntmps4
  go_wp2_with (refine wpList_load_rowG rfl 25 (.tmp 3) rfl w.heap.size rfl 25 c.cells (0, 0) _ g0 Try.underlying25 rfl hi ?_)
  refine hs.mono ?_
  rintro e w1 ⟨rfl, hb1⟩
  have g1 := (hb1.block _ (lt_of_heap g0)).trans g0
  have k1 := (hb1.block _ (lt_of_heap k0)).trans k0
  have hE1 := Ext.tr hE0 hb1
  clear hs hb1 g0 k0 hE0
  go_wp2_with (refine wpList_load_rowG rfl 25 (.tmp 4) rfl (w.heap.size + 1) rfl 25 d.cells (0, 0) _ k1 Try.underlying25 rfl hj ?_)
  refine (hs2 _).mono ?_
  rintro e w2 ⟨rfl, hb2⟩
  have g2 := (hb2.block _ (lt_of_heap g1)).trans g1
  have k2 := (hb2.block _ (lt_of_heap k1)).trans k1
  have hE2 := Ext.tr hE1 hb2
  clear hs2 hb2 g1 k1 hE1
  go_wp2_with (refine wpList_load_rowG rfl 25 (.tmp 3) rfl w.heap.size rfl 25 c.cells (0, 0) _ g2 Try.underlying25 rfl hi ?_)
  refine (HP.out w2 (hc.below hE2)).mono ?_
  rintro e w3 ⟨A3, c3, rfl, ho3, hb3⟩
  have g3 := (hb3.block _ (lt_of_heap g2)).trans g2
  have k3 := (hb3.block _ (lt_of_heap k2)).trans k2
  have hE3 := Ext.tr hE2 hb3
  have r3 := ho3.rd'
  clear g2 k2 ho3 hb3 hE2
  go_wp2_with (refine wpList_load_rowG rfl 25 (.tmp 3) rfl w.heap.size rfl 25 c.cells (0, 0) _ g3 Try.underlying25 rfl hi ?_)
  refine (HR.out w3 (hc.below hE3)).mono ?_
  rintro e w4 ⟨A4, c4, rfl, ho4, hb4⟩
  have g4 := (hb4.block _ (lt_of_heap g3)).trans g3
  have k4 := (hb4.block _ (lt_of_heap k3)).trans k3
  have hE4 := Ext.tr hE3 hb4
  have r34 := r3.below hb4
  have r4 := ho4.rd'
  have hB4 := (hB.below hE4).below (Ext.alloc w4 (.cells #[] 5))
  clear g3 k3 ho4 hb4 hE3 r3
  go_wp2_with (at_builtin; refine wpList_app rfl (.tmp 40) (.tmp 41) 22 rfl elemB w4.heap.size _ 0 0 [] rfl B bs.length cap (bvs bs) rfl bs.length (by omega) (bvs bs) rfl (Own.none_ _ _ _ _ _) hB4 (bvs_one _) (by omega) (by omega) (by simp) ?_; intro A5 c5 w5 ho5 hg5 hr5)
  have hb5 : Ext w4 w5 := below_app (Ext.alloc w4 (.cells #[] 5)) (Own.none_ _ _ 5 1 (some ⟨w4.heap.size, 0, none⟩)) hg5 (by simp)
  have g5 := (hb5.block _ (lt_of_heap g4)).trans g4
  have k5 := (hb5.block _ (lt_of_heap k4)).trans k4
  have s3 := r34.below hb5
  have s4 := r4.below hb5
  have hE5 := Ext.tr hE4 hb5
  have r5 := ho5.rd'
  have n5 := ho5.nc
  clear r34 r4 hE4 ho5 hg5 hr5 hb5 hB4 g4 k4
  refine (HG.out A5 c5 w5 r5 n5).mono ?_
  rintro e w6 ⟨P, rfl, hPx, hPin, hb6⟩
  have hi5 := cinfo P
  have u3 := s3.below hb6
  have u4 := s4.below hb6
  have hE6 := Ext.tr hE5 hb6
  have g6 := (hb6.block _ (lt_of_heap g5)).trans g5
  have k6 := (hb6.block _ (lt_of_heap k5)).trans k5
  have HPx := Lib.hid hPx
  simp only [CellV.val]
  clear s3 s4 hE5 hb6 r5 hPx g5 k5
  go_wp2_with (refine wpList_store_row rfl 25 (.tmp 11) (.tmp 44) rfl w6.heap.size P.cells rfl rfl 25 _ (heap_alloc_new w6 _) hi5 (by rfl) (cone P) ?_; rw [setRow_alloc])
  obtain ⟨W6, hW6⟩ : ∃ W6, W6 = w6.alloc (.cells P.cells 25) := ⟨_, rfl⟩
  have p6 : W6.heap[w6.heap.size]? = some (.cells P.cells 25 (0, 0)) := by rw [hW6]; exact heap_alloc_new w6 _
  have hb6 : Ext w6 W6 := by rw [hW6]; exact Ext.alloc w6 _
  obtain ⟨b5, hb5'⟩ : ∃ b5, b5 = w6.heap.size := ⟨_, rfl⟩
  rw [← hb5'] at p6
  rw [← hW6, ← hb5']
  have v3 := u3.below hb6
  have v4 := u4.below hb6
  have hF6 := Ext.tr hE6 hb6
  have gg6 := (hb6.block _ (lt_of_heap g6)).trans g6
  have kk6 := (hb6.block _ (lt_of_heap k6)).trans k6
  have hPin6 := hPin.below hb6
  clear hW6 hb5' u3 u4 hE6 hPin hb6 g6 k6
  refine (HF.out B cap W6 (hB.below hF6) hcap).mono ?_
  rintro e w7 ⟨Q, rfl, hQx, hQin, hb7⟩
  have hi6 := cinfo Q
  have HQx := Lib.hid hQx
  simp only [CellV.val]
  clear hQx
  go_wp2_with (refine wpList_store_row rfl 25 (.tmp 13) (.tmp 49) rfl w7.heap.size Q.cells rfl rfl 25 _ (heap_alloc_new w7 _) hi6 (by rfl) (cone Q) ?_; rw [setRow_alloc])
  obtain ⟨W7, hW7⟩ : ∃ W7, W7 = w7.alloc (.cells Q.cells 25) := ⟨_, rfl⟩
  have q7 : W7.heap[w7.heap.size]? = some (.cells Q.cells 25 (0, 0)) := by rw [hW7]; exact heap_alloc_new w7 _
  have hb77 : Ext w7 W7 := by rw [hW7]; exact Ext.alloc w7 _
  obtain ⟨b6, hb6'⟩ : ∃ b6, b6 = w7.heap.size := ⟨_, rfl⟩
  rw [← hb6'] at q7
  rw [← hW7, ← hb6']
  have hb67 := Ext.tr hb7 hb77
  have p7 := (hb67.block _ (lt_of_heap p6)).trans p6
  have t2 := (v3.below hb67).below (Ext.drew W7)
  have t3 := (v4.below hb67).below (Ext.drew W7)
  have g7 := (hb67.block _ (lt_of_heap gg6)).trans gg6
  have k7 := (hb67.block _ (lt_of_heap kk6)).trans kk6
  have hF7 := Ext.tr hF6 hb67
  have hPin7 := hPin6.below hb67
  have hQin7 := hQin.below hb77
  have hSame := ref_cellsame P Q W7.drew (hPin7.below (Ext.drew W7)) (hQin7.below (Ext.drew W7))
  rw [HPx.out, HQx.out, Cl.same_refl] at hSame
  simp only [CellV.val] at hSame
  have HS := Lib.hid hSame
  have HF7 := Lib.hid (Ext.tr hF7 (Ext.drew W7))
  clear hSame hF7 hPin7 hQin7 hPin6 hQin hF6 v3 v4 hb7 hb77 hb67 p6 gg6 kk6 hW7 hb6'
  refine rg_start (by kernel_rfl) ?_
  refine rg_take 0 rfl (by kernel_rfl) (by kernel_rfl) (by kernel_rfl) (fun _ _ _ _ h => h) (by rfl) ⟨_, fun w' hx => by (go_simp <;> with_reducible rfl), ?_⟩
  simp only [Act.put, List.setIfInBounds_toArray, List.set_cons_zero, List.set_cons_succ]
  refine rg_take 1 rfl (by kernel_rfl) (by kernel_rfl) (by kernel_rfl) (fun _ _ _ _ h => h) (by rfl) ⟨.string ⟨L.toArray⟩, fun w' hx => ex_convert rfl rfl (run_str w' 22 9 5 A3 L c3 Try.underlying22 Try.underlying5 Try.underlying9 (t2.below hx) L.length rfl), ?_⟩
  simp only [Act.put, List.setIfInBounds_toArray, List.set_cons_zero, List.set_cons_succ]
  refine rg_take 2 rfl (by kernel_rfl) (by kernel_rfl) (by kernel_rfl) (fun _ _ _ _ h => h) (by rfl) ⟨_, fun w' hx => by (go_simp <;> with_reducible rfl), ?_⟩
  simp only [Act.put, List.setIfInBounds_toArray, List.set_cons_zero, List.set_cons_succ]
  refine rg_take 3 rfl (by kernel_rfl) (by kernel_rfl) (by kernel_rfl) (fun _ _ _ _ h => h) (by rfl) ⟨.string ⟨L.toArray⟩, fun w' hx => ex_convert rfl rfl (run_str w' 22 9 5 A4 L c4 Try.underlying22 Try.underlying5 Try.underlying9 (t3.below hx) L.length rfl), ?_⟩
  simp only [Act.put, List.setIfInBounds_toArray, List.set_cons_zero, List.set_cons_succ]
  refine rg_take 4 rfl (by kernel_rfl) (by kernel_rfl) (by kernel_rfl) (fun _ _ _ _ h => h) (by rfl) ⟨.bool true, fun w' hx => by (go_simp <;> with_reducible rfl), ?_⟩
  simp only [Act.put, List.setIfInBounds_toArray, List.set_cons_zero, List.set_cons_succ]
  refine rg_take 5 rfl (by kernel_rfl) (by kernel_rfl) (by kernel_rfl) (fun _ _ _ _ h => h) (by rfl) ⟨_, fun w' hx => by (go_simp <;> with_reducible rfl), ?_⟩
  simp only [Act.put, List.setIfInBounds_toArray, List.set_cons_zero, List.set_cons_succ]
  refine rg_take 6 rfl (by kernel_rfl) (by kernel_rfl) (by kernel_rfl) (fun _ _ _ _ h => h) (by rfl) ⟨_, fun w' hx => by (go_simp <;> with_reducible rfl), ?_⟩
  simp only [Act.put, List.setIfInBounds_toArray, List.set_cons_zero, List.set_cons_succ]
  refine rg_take 8 rfl (by kernel_rfl) (by kernel_rfl) (by kernel_rfl) (fun _ _ _ _ h => h) (by rfl) ⟨_, fun w' hx => by (go_simp <;> with_reducible rfl), ?_⟩
  simp only [Act.put, List.setIfInBounds_toArray, List.set_cons_zero, List.set_cons_succ]
  refine rg_call 7 (num07 (m : Int) _) rfl (by kernel_rfl) (by rfl) (by go_simp) ?_
  rintro e w' ⟨rfl, rfl⟩
  refine ⟨_, rfl, Ext.refl _, ?_⟩
  simp only [Act.put, List.setIfInBounds_toArray, List.set_cons_zero, List.set_cons_succ]
  refine rg_take 9 rfl (by kernel_rfl) (by kernel_rfl) (by kernel_rfl) (fun _ _ _ _ h => h) (by rfl) ⟨.bool true, fun w' hx => by (go_simp <;> with_reducible rfl), ?_⟩
  simp only [Act.put, List.setIfInBounds_toArray, List.set_cons_zero, List.set_cons_succ]
  refine rg_take 10 rfl (by kernel_rfl) (by kernel_rfl) (by kernel_rfl) (fun _ _ _ _ h => h) (by rfl) ⟨_, fun w' hx => by (go_simp <;> with_reducible rfl), ?_⟩
  simp only [Act.put, List.setIfInBounds_toArray, List.set_cons_zero, List.set_cons_succ]
  refine rg_take 11 rfl (by kernel_rfl) (by kernel_rfl) (by kernel_rfl) (fun _ _ _ _ h => h) (by rfl) ⟨_, fun w' hx => by (go_simp <;> with_reducible rfl), ?_⟩
  simp only [Act.put, List.setIfInBounds_toArray, List.set_cons_zero, List.set_cons_succ]
  refine rg_take 12 rfl (by kernel_rfl) (by kernel_rfl) (by kernel_rfl) (fun _ _ _ _ h => h) (by rfl) ⟨.agg P.cells, fun w' hx => ex_load_row 25 _ rfl b5 rfl 25 _ (0, 0) _ ((hx.block _ (lt_of_heap p7)).trans p7) Try.underlying25 rfl hi5, ?_⟩
  simp only [Act.put, List.setIfInBounds_toArray, List.set_cons_zero, List.set_cons_succ]
  refine rg_take 13 rfl (by kernel_rfl) (by kernel_rfl) (by kernel_rfl) (fun _ _ _ _ h => h) (by rfl) ⟨.agg Q.cells, fun w' hx => ex_load_row 25 _ rfl b6 rfl 25 _ (0, 0) _ ((hx.block _ (lt_of_heap q7)).trans q7) Try.underlying25 rfl hi6, ?_⟩
  simp only [Act.put, List.setIfInBounds_toArray, List.set_cons_zero, List.set_cons_succ]
  refine rg_call 14 HS.out rfl (by kernel_rfl) (by rfl) (by go_simp) ?_
  rintro e w8 ⟨rfl, hb8⟩
  refine ⟨_, rfl, hb8, ?_⟩
  have g8 := (hb8.block _ (lt_of_heap g7)).trans g7
  have k8 := (hb8.block _ (lt_of_heap k7)).trans k7
  simp only [Act.put, List.setIfInBounds_toArray, List.set_cons_zero, List.set_cons_succ]
  refine rg_take 15 rfl (by kernel_rfl) (by kernel_rfl) (by kernel_rfl) (fun _ _ _ _ h => h) (by rfl) ⟨_, fun w' hx => by (go_simp <;> with_reducible rfl), ?_⟩
  simp only [Act.put, List.setIfInBounds_toArray, List.set_cons_zero, List.set_cons_succ]
  refine rg_take 16 rfl (by kernel_rfl) (by kernel_rfl) (by kernel_rfl) (fun _ _ _ _ h => h) (by rfl) ⟨_, fun w' hx => by (go_simp <;> with_reducible rfl), ?_⟩
  simp only [Act.put, List.setIfInBounds_toArray, List.set_cons_zero, List.set_cons_succ]
  refine rg_take 17 rfl (by kernel_rfl) (by kernel_rfl) (by kernel_rfl) (fun _ _ _ _ h => h) (by rfl) ⟨_, fun w' hx => by (go_simp <;> with_reducible rfl), ?_⟩
  simp only [Act.put, List.setIfInBounds_toArray, List.set_cons_zero, List.set_cons_succ]
  refine rg_take 19 rfl (by kernel_rfl) (by kernel_rfl) (by kernel_rfl) (fun _ _ _ _ h => h) (by rfl) ⟨_, fun w' hx => by (go_simp <;> with_reducible rfl), ?_⟩
  simp only [Act.put, List.setIfInBounds_toArray, List.set_cons_zero, List.set_cons_succ]
  refine rg_call 18 (num07 (k : Int) _) rfl (by kernel_rfl) (by rfl) (by go_simp) ?_
  rintro e w' ⟨rfl, rfl⟩
  refine ⟨_, rfl, Ext.refl _, ?_⟩
  simp only [Act.put, List.setIfInBounds_toArray, List.set_cons_zero, List.set_cons_succ]
  refine rg_take 20 rfl (by kernel_rfl) (by kernel_rfl) (by kernel_rfl) (fun _ _ _ _ h => h) (by rfl) ⟨.bool true, fun w' hx => by (go_simp <;> with_reducible rfl), ?_⟩
  simp only [Act.put, List.setIfInBounds_toArray, List.set_cons_zero, List.set_cons_succ]
  refine rg_take 21 rfl (by kernel_rfl) (by kernel_rfl) (by kernel_rfl) (fun _ _ _ _ h => h) (by rfl) ⟨_, fun w' hx => by (go_simp <;> with_reducible rfl), ?_⟩
  simp only [Act.put, List.setIfInBounds_toArray, List.set_cons_zero, List.set_cons_succ]
  refine rg_take 22 rfl (by kernel_rfl) (by kernel_rfl) (by kernel_rfl) (fun _ _ _ _ h => h) (by rfl) ⟨_, fun w' hx => by (go_simp <;> with_reducible rfl), ?_⟩
  simp only [Act.put, List.setIfInBounds_toArray, List.set_cons_zero, List.set_cons_succ]
  refine rg_take 23 rfl (by kernel_rfl) (by kernel_rfl) (by kernel_rfl) (fun _ _ _ _ h => h) (by rfl) ⟨.agg c.cells, fun w' hx => ex_load_row 25 _ rfl w.heap.size rfl 25 _ (0, 0) _ ((hx.block _ (lt_of_heap g8)).trans g8) Try.underlying25 rfl hi, ?_⟩
  simp only [Act.put, List.setIfInBounds_toArray, List.set_cons_zero, List.set_cons_succ]
  refine rg_take 24 rfl (by kernel_rfl) (by kernel_rfl) (by kernel_rfl) (fun _ _ _ _ h => h) (by rfl) ⟨.agg d.cells, fun w' hx => ex_load_row 25 _ rfl (w.heap.size + 1) rfl 25 _ (0, 0) _ ((hx.block _ (lt_of_heap k8)).trans k8) Try.underlying25 rfl hj, ?_⟩
  simp only [Act.put, List.setIfInBounds_toArray, List.set_cons_zero, List.set_cons_succ]
  refine rg_take 26 rfl (by kernel_rfl) (by kernel_rfl) (by kernel_rfl) (fun _ _ _ _ h => h) (by rfl) ⟨.agg c.cells, fun w' hx => ex_load_row 25 _ rfl w.heap.size rfl 25 _ (0, 0) _ ((hx.block _ (lt_of_heap g8)).trans g8) Try.underlying25 rfl hi, ?_⟩
  simp only [Act.put, List.setIfInBounds_toArray, List.set_cons_zero, List.set_cons_succ]
  refine rg_take 27 rfl (by kernel_rfl) (by kernel_rfl) (by kernel_rfl) (fun _ _ _ _ h => h) (by rfl) ⟨.agg d.cells, fun w' hx => ex_load_row 25 _ rfl (w.heap.size + 1) rfl 25 _ (0, 0) _ ((hx.block _ (lt_of_heap k8)).trans k8) Try.underlying25 rfl hj, ?_⟩
  simp only [Act.put, List.setIfInBounds_toArray, List.set_cons_zero, List.set_cons_succ]
  have hE8 := Ext.tr HF7.out hb8
  have hA9 := cellsame_any c d w8 (hc.below hE8) (hd.below hE8)
  simp only [CellV.val] at hA9
  refine rg_call 25 hA9 rfl (by kernel_rfl) (by rfl) (by go_simp) ?_
  rintro e wa ⟨rfl, hba⟩
  refine ⟨_, rfl, hba, ?_⟩
  have hEa := Ext.tr hE8 hba
  simp only [Act.put, List.setIfInBounds_toArray, List.set_cons_zero, List.set_cons_succ]
  have hA8 := ref_cellsame c d wa (hc.below hEa) (hd.below hEa)
  simp only [CellV.val] at hA8
  refine rg_call 28 hA8 rfl (by kernel_rfl) (by rfl) (by go_simp) ?_
  rintro e wb ⟨rfl, hbb⟩
  refine ⟨_, rfl, hbb, ?_⟩
  have hEb := Ext.tr hEa hbb
  simp only [Act.put, List.setIfInBounds_toArray, List.set_cons_zero, List.set_cons_succ]
  refine rg_take 29 rfl (by kernel_rfl) (by kernel_rfl) (by kernel_rfl) (fun _ _ _ _ h => h) (by rfl) ⟨.bool true, fun w' hx => by (go_simp <;> with_reducible rfl), ?_⟩
  simp only [Act.put, List.setIfInBounds_toArray, List.set_cons_zero, List.set_cons_succ]
  refine rg_take 30 rfl (by kernel_rfl) (by kernel_rfl) (by kernel_rfl) (fun _ _ _ _ h => h) (by rfl) ⟨_, fun w' hx => by (go_simp <;> with_reducible rfl), ?_⟩
  simp only [Act.put, List.setIfInBounds_toArray, List.set_cons_zero, List.set_cons_succ]
  refine rg_take 31 rfl (by kernel_rfl) (by kernel_rfl) (by kernel_rfl) (fun _ _ _ _ h => h) (by rfl) ⟨_, fun w' hx => by (go_simp <;> with_reducible rfl), ?_⟩
  simp only [Act.put, List.setIfInBounds_toArray, List.set_cons_zero, List.set_cons_succ]
  refine rg_call 32 (live07 _) rfl (by kernel_rfl) (by rfl) (by go_simp) ?_
  rintro e w9 ⟨rfl, hb9⟩
  refine ⟨_, rfl, hb9, ?_⟩
  simp only [Act.put, List.setIfInBounds_toArray, List.set_cons_zero, List.set_cons_succ]
  refine rg_take 33 rfl (by kernel_rfl) (by kernel_rfl) (by kernel_rfl) (fun _ _ _ _ h => h) (by rfl) ⟨_, fun w' hx => by (go_simp <;> with_reducible rfl), ?_⟩
  simp only [Act.put, List.setIfInBounds_toArray, List.set_cons_zero, List.set_cons_succ]
  refine rg_take 34 rfl (by kernel_rfl) (by kernel_rfl) (by kernel_rfl) (fun _ _ _ _ h => h) (by rfl) ⟨_, fun w' hx => by (go_simp <;> with_reducible rfl), ?_⟩
  simp only [Act.put, List.setIfInBounds_toArray, List.set_cons_zero, List.set_cons_succ]
  refine rg_done (by kernel_rfl) ?_
  go_wp2
  go_ret
  exact ⟨rfl, Ext.tr hEb hb9⟩

theorem walkCellInners (w : World) (c : CellV) (hc : c.In w) (d : CellV) (hd : d.In w) (B : Option Addr) (bs : List UInt8) (cap : Nat) (hB : RdB w B bs) (hcap : bs.length ≤ cap) :
    Calls Try.prog 4 #[c.val, d.val, .slice B bs.length cap] w fun e w' => e = .returned (.bool true) ∧ Below w.heap.size w w' := by
  cases hsm : c.small with
  | false => exact inners_c w c hc d hd B bs cap hsm
  | true =>
    cases hsd : d.small with
    | false => exact inners_d w c hc d hd B bs cap hsm (.inl hsd)
    | true =>
      by_cases hl : bs.length ≤ 3000
      · exact inners_go w c hc d hd B bs cap hB hcap hsm hsd hl
      · exact inners_d w c hc d hd B bs cap hsm (.inr (by omega))
end Go.Proofs.Ytafffpkjpghnjaa
