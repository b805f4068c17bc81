/- The law on two digests that have no part in one another: the walk returns true and changes nothing that was there. Written by wip/tools/gen_apart03.py. -/
import Derived.Test.YtgpcfhdldmkijaaShaLaws
namespace Go.Proofs.Ytgpcfhdldmkijaa
open Go.RowKit
attribute [local go_sem] Oper.semAt_some

theorem RdL.nil_ (w : World) (A : Option Addr) : RdL w A [] := ⟨by simpa using Rd.nil_ w 1 A, fun s hs => by cases hs⟩

set_option maxRecDepth 100000 in
set_option maxHeartbeats 2000000 in
theorem walkShaApart (w : World) (A : Option Addr) (p : List UInt8) (cp : Nat) (hA : RdB w A p) (_hcp : p.length ≤ cp) (B : Option Addr) (q : List UInt8) (cq : Nat) (hB : RdB w B q) (_hcq : q.length ≤ cq) :
    Calls Try.prog 6 #[.slice A p.length cp, .slice B q.length cq] w fun e w' => e = .returned (.bool true) ∧ Below w.heap.size w w' := by
  have live : Hid (Calls Try.prog 8 #[] w fun e w' => e = .returned (.bool true) ∧ Below w.heap.size w w') := live03 w
  by_cases h1 : p.length ≤ 2000 ∧ q.length ≤ 2000
  · obtain ⟨h1, h2⟩ := h1
    have hpl := fun hp ad h => RdB.block_lt (w := w) hA hp ad h
    have hql := fun hp ad h => RdB.block_lt (w := w) hB hp ad h
    have Hpl := Lib.hid hpl
    have Hql := Lib.hid hql
    clear hpl hql live
    go_enter Try.func6, Try.ntmps6
    go_wp2_with fail
    refine (hash_new w).mono ?_
    rintro e w1 ⟨g, rfl, hg1, hb1⟩
    go_wp2_with fail
    refine (hash_new w1).mono ?_
    rintro e w2 ⟨h, rfl, hh2, hb2⟩
    have hgl := hg1.lt
    have hgB := hg1.hB
    have hhB := hh2.hB
    have hg2 := hg1.below hb2
    have hB2 : Below w.heap.size w w2 := Ext.tr hb1 hb2
    have hgh : g ≠ h := by omega
    clear hg1 hb1 hb2
    go_wp2_with fail
    refine (hash_sum w.heap.size g [] none w2 hg2 (by simp)).mono ?_
    rintro e w3 ⟨rfl, hb3⟩
    have iz := sInf (Sha.sum []) (Sha.sum_len _)
    go_wp2_with (refine wpList_store_row rfl 25 (.tmp 7) (.tmp 27) rfl w3.heap.size (bvs (Sha.sum [])).toArray rfl rfl 25 _ (heap_alloc_new w3 _) iz (sOld _ (Sha.sum_len _) _ (by rfl)) (sOne _) ?_; rw [setRow_alloc])
    obtain ⟨W3, hW3⟩ : ∃ W3, W3 = w3.alloc (.cells (bvs (Sha.sum [])).toArray 25) := ⟨_, rfl⟩
    have hx3 : W3.heap[w3.heap.size]? = some (.cells (bvs (Sha.sum [])).toArray 25 (0, 0)) := by rw [hW3]; exact heap_alloc_new w3 _
    have hE23 : Ext w2 W3 := by rw [hW3]; exact Ext.tr hb3 (Ext.alloc w3 _)
    have hxs : w2.heap.size ≤ w3.heap.size := hb3.size
    obtain ⟨x, hx⟩ : ∃ x, x = w3.heap.size := ⟨_, rfl⟩
    rw [← hx] at hx3 hxs ⊢
    rw [← hW3]
    have hg3 := hg2.below hE23
    have hh3 := hh2.below hE23
    have hB3 := hB2.trans (hE23.mono hB2.size)
    have hgl2 := hg2.lt
    have hhl2 := hh2.lt
    clear hW3 hx hE23 hb3 hg2 hh2 hB2
    have hw1s : w1.heap.size ≤ W3.heap.size := Nat.le_trans hhB (Nat.le_of_lt hh3.lt)
    refine (hash_write w1.heap.size h [] none B q cq W3 hh3 hw1s (hB.below hB3) (fun hp ad e => by have h9 := Hql.out hp ad e; omega) (by simp; omega)).mono ?_
    rintro e w4 ⟨rh, rfl, hh4, hrh, hK4, _⟩
    have hg4 := hg3.apart hK4 hgh (by simp) (fun k hk => by cases hk)
    have hx4 := (hK4.block _ (lt_of_heap hx3) (by omega) (by simp)).trans hx3
    have hB4 : Below w.heap.size w w4 := hB3.trans (hK4.below hB3.size (by omega) (fun k hk => by cases hk))
    have hxl3 := lt_of_heap hx3
    have hhl3 := hh3.lt
    clear hg3 hh3 hx3 hB3 hw1s
    rw [List.nil_append] at hh4
    go_wp2_with fail
    refine (hash_sum w.heap.size g [] none w4 hg4 (by simp)).mono ?_
    rintro e w5 ⟨rfl, hb5⟩
    go_wp2_with (refine wpList_store_row rfl 25 (.tmp 8) (.tmp 32) rfl w5.heap.size (bvs (Sha.sum [])).toArray rfl rfl 25 _ (heap_alloc_new w5 _) iz (sOld _ (Sha.sum_len _) _ (by rfl)) (sOne _) ?_; rw [setRow_alloc])
    obtain ⟨W5, hW5⟩ : ∃ W5, W5 = w5.alloc (.cells (bvs (Sha.sum [])).toArray 25) := ⟨_, rfl⟩
    have hy5 : W5.heap[w5.heap.size]? = some (.cells (bvs (Sha.sum [])).toArray 25 (0, 0)) := by rw [hW5]; exact heap_alloc_new w5 _
    have hE45 : Ext w4 W5 := by rw [hW5]; exact Ext.tr hb5 (Ext.alloc w5 _)
    have hys : w4.heap.size ≤ w5.heap.size := hb5.size
    obtain ⟨y, hy⟩ : ∃ y, y = w5.heap.size := ⟨_, rfl⟩
    rw [← hy] at hy5 hys ⊢
    rw [← hW5]
    have hg5 := hg4.below hE45
    have hh5 := hh4.below hE45
    have hx5 := (hE45.block _ (lt_of_heap hx4)).trans hx4
    have hB5 := hB4.trans (hE45.mono hB4.size)
    have hhl4 := hh4.lt
    have hgl4 := hg4.lt
    have hxl4 := lt_of_heap hx4
    clear hW5 hy hE45 hb5 hg4 hh4 hx4 hB4 hK4
    have hyl5 := lt_of_heap hy5
    have hhl5 := hh5.lt
    refine (hash_write w.heap.size g [] none A p cp W5 hg5 hB5.size (hA.below hB5) (fun hp ad e => by have h9 := Hpl.out hp ad e; omega) (by simp; omega)).mono ?_
    rintro e w6 ⟨rg, rfl, hg6, hrg, hK6, hb6⟩
    rw [List.nil_append] at hg6
    have hh6 := hh5.apart hK6 (by omega) (by simp) (fun k hk => ⟨by have := (hh5.ne k hk).2.1; omega, by simp⟩)
    have hx6 := (hK6.block _ (lt_of_heap hx5) (by omega) (by simp)).trans hx5
    have hy6 := (hK6.block _ (lt_of_heap hy5) (by omega) (by simp)).trans hy5
    have hB6 : Below w.heap.size w w6 := hB5.trans hb6
    have hne5 := hh5.ne
    have hxl5 := lt_of_heap hx5
    clear hg5 hh5 hx5 hy5 hB5 hb6
    go_wp2_with fail
    have hnil := hash_write w.heap.size g p rg none [] 0 w6 hg6 hB6.size (RdB.nil_ _ _) (fun hp => absurd rfl hp) (by simp; omega)
    rw [List.append_nil] at hnil
    refine hnil.mono ?_
    clear hnil
    rintro e w7 ⟨rg7, rfl, hg7, hrg7, hK7, hb7⟩
    have hh7 := hh6.apart hK7 (by omega) (fun e => by have := hrg h e.symm; omega) (fun k hk => ⟨by have := (hh6.ne k hk).2.1; omega, fun e => by have h8 := hrg k e.symm; have h9 := (hne5 k hk).2.2; omega⟩)
    have hx7 := (hK7.block _ (lt_of_heap hx6) (by omega) (fun e => by have := hrg x e.symm; omega)).trans hx6
    have hy7 := (hK7.block _ (lt_of_heap hy6) (by omega) (fun e => by have := hrg y e.symm; omega)).trans hy6
    have hB7 : Below w.heap.size w w7 := hB6.trans hb7
    clear hg6 hh6 hx6 hy6 hB6 hb7 hK6 hK7 hne5
    have hd := Ext.drew w7
    have hg8 := hg7.below hd
    have hh8 := hh7.below hd
    have hx8 := (hd.block _ (lt_of_heap hx7)).trans hx7
    have hy8 := (hd.block _ (lt_of_heap hy7)).trans hy7
    have hB8 := hB7.drew
    have hA8 := hA.below hB8
    have hB8' := hB.below hB8
    have e0 := fun w' => run_eqTrue (Sha.sum []) (Sha.sum_len _) w'
    have e1 := fun w' => run_eqTrue (Sha.sum p) (Sha.sum_len _) w'
    have e2 := fun w' => run_eqTrue (Sha.sum q) (Sha.sum_len _) w'
    have hs5 := sha_sum none [] 0 w7.drew (RdL.nil_ _ _) (by simp) (by simp [cat])
    rw [show cat [] = [] from rfl] at hs5
    have Hs5 := Lib.hid hs5
    clear hs5 hg7 hh7 hx7 hy7 hB7 hd
    go_wp2_with fail
    refine rg_start (by kernel_rfl) ?_
    refine rg_take 0 rfl (by kernel_rfl) (by kernel_rfl) (by kernel_rfl) (fun _ _ _ _ h => h) (by rfl) ⟨.agg (bvs (Sha.sum [])).toArray, fun w' hx => ex_load_row 25 _ rfl x rfl 25 _ (0, 0) _ ((hx.block _ (lt_of_heap hx8)).trans hx8) Try.underlying25 rfl (sInf _ (Sha.sum_len _)), ?_⟩
    simp only [Act.put, List.setIfInBounds_toArray, List.set_cons_zero, List.set_cons_succ]
    refine rg_take 1 rfl (by kernel_rfl) (by kernel_rfl) (by kernel_rfl) (fun _ _ _ _ h => h) (by rfl) ⟨.agg (bvs (Sha.sum [])).toArray, fun w' hx => ex_load_row 25 _ rfl y rfl 25 _ (0, 0) _ ((hx.block _ (lt_of_heap hy8)).trans hy8) Try.underlying25 rfl (sInf _ (Sha.sum_len _)), ?_⟩
    simp only [Act.put, List.setIfInBounds_toArray, List.set_cons_zero, List.set_cons_succ]
    refine rg_take 2 rfl (by kernel_rfl) (by kernel_rfl) (by kernel_rfl) (fun _ _ _ _ h => h) (by rfl) ⟨.bool true, fun w' hx => by go_simp, ?_⟩
    simp only [Act.put, List.setIfInBounds_toArray, List.set_cons_zero, List.set_cons_succ]
    refine rg_take 3 rfl (by kernel_rfl) (by kernel_rfl) (by kernel_rfl) (fun _ _ _ _ h => h) (by rfl) ⟨_, fun w' hx => by (go_simp <;> with_reducible rfl), ?_⟩
    simp only [Act.put, List.setIfInBounds_toArray, List.set_cons_zero, List.set_cons_succ]
    refine rg_take 4 rfl (by kernel_rfl) (by kernel_rfl) (by kernel_rfl) (fun _ _ _ _ h => h) (by rfl) ⟨.agg (bvs (Sha.sum [])).toArray, fun w' hx => ex_load_row 25 _ rfl x rfl 25 _ (0, 0) _ ((hx.block _ (lt_of_heap hx8)).trans hx8) Try.underlying25 rfl (sInf _ (Sha.sum_len _)), ?_⟩
    simp only [Act.put, List.setIfInBounds_toArray, List.set_cons_zero, List.set_cons_succ]
    refine rg_call 5 Hs5.out rfl (by kernel_rfl) (by rfl) (by go_simp) ?_
    rintro e w9 ⟨rfl, hb9⟩
    refine ⟨_, rfl, hb9, ?_⟩
    simp only [Act.put, List.setIfInBounds_toArray, List.set_cons_zero, List.set_cons_succ]
    refine rg_take 6 rfl (by kernel_rfl) (by kernel_rfl) (by kernel_rfl) (fun _ _ _ _ h => h) (by rfl) ⟨.bool true, fun w' hx => by go_simp, ?_⟩
    simp only [Act.put, List.setIfInBounds_toArray, List.set_cons_zero, List.set_cons_succ]
    refine rg_take 7 rfl (by kernel_rfl) (by kernel_rfl) (by kernel_rfl) (fun _ _ _ _ h => h) (by rfl) ⟨_, fun w' hx => by (go_simp <;> with_reducible rfl), ?_⟩
    simp only [Act.put, List.setIfInBounds_toArray, List.set_cons_zero, List.set_cons_succ]
    refine rg_take 8 rfl (by kernel_rfl) (by kernel_rfl) (by kernel_rfl) (fun _ _ _ _ h => h) (by rfl) ⟨_, fun w' hx => by (go_simp <;> with_reducible rfl), ?_⟩
    simp only [Act.put, List.setIfInBounds_toArray, List.set_cons_zero, List.set_cons_succ]
    refine rg_take 9 rfl (by kernel_rfl) (by kernel_rfl) (by kernel_rfl) (fun _ _ _ _ h => h) (by rfl) ⟨_, fun w' hx => by (go_simp <;> with_reducible rfl), ?_⟩
    simp only [Act.put, List.setIfInBounds_toArray, List.set_cons_zero, List.set_cons_succ]
    refine rg_take 11 rfl (by kernel_rfl) (by kernel_rfl) (by kernel_rfl) (fun _ _ _ _ h => h) (by rfl) ⟨_, fun w' hx => by (go_simp <;> with_reducible rfl), ?_⟩
    simp only [Act.put, List.setIfInBounds_toArray, List.set_cons_zero, List.set_cons_succ]
    -- BRANCH: 10: t48 := (*scow/sha.Hash).Sum#13(t47) | 12: t50 := buildSlice 29 1 [(0, t49)]
    refine rg_joinP (fun v u W => ∃ k, v = .agg (bvs (Sha.sum p)).toArray ∧ u = .slice (some ⟨k, 0, none⟩) 1 1 ∧ RdL W (some ⟨k, 0, none⟩) [⟨A, p, cp⟩] ∧ Ext w9 W) 10 12 48 50 ?_ ?_
    · intro hrest
      simp only [Act.put, List.setIfInBounds_toArray, List.set_cons_zero, List.set_cons_succ] at hrest
      refine rg_two 10 12 (by kernel_rfl) ?_ ?_
      · refine op_call 10 (hash_sum w.heap.size g p rg7 _ (hg8.below hb9) (by omega)) rfl (by rfl) (by go_simp) ?_
        rintro e wz ⟨rfl, hbz⟩
        refine ⟨_, rfl, hbz, ?_⟩
        simp only [Act.put, List.setIfInBounds_toArray, List.set_cons_zero, List.set_cons_succ]
        refine rg_make 12 rfl (by kernel_rfl) (by rfl) ⟨.slice (some ⟨wz.heap.size, 0, none⟩) 1 1, wz.alloc (.cells #[.slice A p.length cp] 22), by (go_simp <;> first | exact ⟨rfl, rfl⟩ | rfl), Ext.alloc _ _, ?_⟩
        simp only [Act.put, List.setIfInBounds_toArray, List.set_cons_zero, List.set_cons_succ]
        refine rg_cast (by kernel_rfl) (hrest _ _ _ ⟨wz.heap.size, rfl, rfl, RdL.one wz 22 A p cp (hA8.below (Ext.tr hb9 hbz)), Ext.tr hbz (Ext.alloc wz _)⟩)
      · refine op_make 12 rfl (by rfl) ⟨.slice (some ⟨w9.heap.size, 0, none⟩) 1 1, w9.alloc (.cells #[.slice A p.length cp] 22), by (go_simp <;> first | exact ⟨rfl, rfl⟩ | rfl), Ext.alloc _ _, ?_⟩
        simp only [Act.put, List.setIfInBounds_toArray, List.set_cons_zero, List.set_cons_succ]
        refine rg_call 10 (hash_sum w.heap.size g p rg7 _ ((hg8.below hb9).below (Ext.alloc w9 (.cells #[.slice A p.length cp] 22))) (by omega)) rfl (by kernel_rfl) (by rfl) (by go_simp) ?_
        rintro e wz ⟨rfl, hbz⟩
        refine ⟨_, rfl, hbz, ?_⟩
        simp only [Act.put, List.setIfInBounds_toArray, List.set_cons_zero, List.set_cons_succ]
        refine rg_cast (by kernel_rfl) (hrest _ _ _ ⟨w9.heap.size, rfl, rfl, (RdL.one w9 22 A p cp (hA8.below hb9)).below hbz, Ext.tr (Ext.alloc w9 _) hbz⟩)
    rintro v u w10 ⟨k10, rfl, rfl, hR10, hb10⟩
    have hE10 := Ext.tr hb9 hb10
    simp only [Act.put, List.setIfInBounds_toArray, List.set_cons_zero, List.set_cons_succ]
    have hs13 := sha_sum _ [⟨A, p, cp⟩] 1 _ hR10 (by simp) (by rw [cat_one]; omega)
    rw [cat_one] at hs13
    refine rg_call 13 hs13 rfl (by kernel_rfl) (by rfl) (by go_simp) ?_
    rintro e w11 ⟨rfl, hb11⟩
    refine ⟨_, rfl, hb11, ?_⟩
    have hE11 := Ext.tr hE10 hb11
    simp only [Act.put, List.setIfInBounds_toArray, List.set_cons_zero, List.set_cons_succ]
    refine rg_take 14 rfl (by kernel_rfl) (by kernel_rfl) (by kernel_rfl) (fun _ _ _ _ h => h) (by rfl) ⟨.bool true, fun w' hx => by go_simp, ?_⟩
    simp only [Act.put, List.setIfInBounds_toArray, List.set_cons_zero, List.set_cons_succ]
    refine rg_take 15 rfl (by kernel_rfl) (by kernel_rfl) (by kernel_rfl) (fun _ _ _ _ h => h) (by rfl) ⟨_, fun w' hx => by (go_simp <;> with_reducible rfl), ?_⟩
    simp only [Act.put, List.setIfInBounds_toArray, List.set_cons_zero, List.set_cons_succ]
    refine rg_take 16 rfl (by kernel_rfl) (by kernel_rfl) (by kernel_rfl) (fun _ _ _ _ h => h) (by rfl) ⟨_, fun w' hx => by (go_simp <;> with_reducible rfl), ?_⟩
    simp only [Act.put, List.setIfInBounds_toArray, List.set_cons_zero, List.set_cons_succ]
    refine rg_take 17 rfl (by kernel_rfl) (by kernel_rfl) (by kernel_rfl) (fun _ _ _ _ h => h) (by rfl) ⟨_, fun w' hx => by (go_simp <;> with_reducible rfl), ?_⟩
    simp only [Act.put, List.setIfInBounds_toArray, List.set_cons_zero, List.set_cons_succ]
    refine rg_take 19 rfl (by kernel_rfl) (by kernel_rfl) (by kernel_rfl) (fun _ _ _ _ h => h) (by rfl) ⟨_, fun w' hx => by (go_simp <;> with_reducible rfl), ?_⟩
    simp only [Act.put, List.setIfInBounds_toArray, List.set_cons_zero, List.set_cons_succ]
    -- BRANCH: 18: t56 := (*scow/sha.Hash).Sum#13(t55) | 20: t58 := buildSlice 29 1 [(0, t57)]
    refine rg_joinP (fun v u W => ∃ k, v = .agg (bvs (Sha.sum q)).toArray ∧ u = .slice (some ⟨k, 0, none⟩) 1 1 ∧ RdL W (some ⟨k, 0, none⟩) [⟨B, q, cq⟩] ∧ Ext w11 W) 18 20 56 58 ?_ ?_
    · intro hrest
      simp only [Act.put, List.setIfInBounds_toArray, List.set_cons_zero, List.set_cons_succ] at hrest
      refine rg_two 18 20 (by kernel_rfl) ?_ ?_
      · refine op_call 18 (hash_sum w1.heap.size h q rh _ (hh8.below hE11) (by omega)) rfl (by rfl) (by go_simp) ?_
        rintro e wz ⟨rfl, hbz⟩
        refine ⟨_, rfl, hbz, ?_⟩
        simp only [Act.put, List.setIfInBounds_toArray, List.set_cons_zero, List.set_cons_succ]
        refine rg_make 20 rfl (by kernel_rfl) (by rfl) ⟨.slice (some ⟨wz.heap.size, 0, none⟩) 1 1, wz.alloc (.cells #[.slice B q.length cq] 22), by (go_simp <;> first | exact ⟨rfl, rfl⟩ | rfl), Ext.alloc _ _, ?_⟩
        simp only [Act.put, List.setIfInBounds_toArray, List.set_cons_zero, List.set_cons_succ]
        refine rg_cast (by kernel_rfl) (hrest _ _ _ ⟨wz.heap.size, rfl, rfl, RdL.one wz 22 B q cq (hB8'.below (Ext.tr hE11 hbz)), Ext.tr hbz (Ext.alloc wz _)⟩)
      · refine op_make 20 rfl (by rfl) ⟨.slice (some ⟨w11.heap.size, 0, none⟩) 1 1, w11.alloc (.cells #[.slice B q.length cq] 22), by (go_simp <;> first | exact ⟨rfl, rfl⟩ | rfl), Ext.alloc _ _, ?_⟩
        simp only [Act.put, List.setIfInBounds_toArray, List.set_cons_zero, List.set_cons_succ]
        refine rg_call 18 (hash_sum w1.heap.size h q rh _ ((hh8.below hE11).below (Ext.alloc w11 (.cells #[.slice B q.length cq] 22))) (by omega)) rfl (by kernel_rfl) (by rfl) (by go_simp) ?_
        rintro e wz ⟨rfl, hbz⟩
        refine ⟨_, rfl, hbz, ?_⟩
        simp only [Act.put, List.setIfInBounds_toArray, List.set_cons_zero, List.set_cons_succ]
        refine rg_cast (by kernel_rfl) (hrest _ _ _ ⟨w11.heap.size, rfl, rfl, (RdL.one w11 22 B q cq (hB8'.below hE11)).below hbz, Ext.tr (Ext.alloc w11 _) hbz⟩)
    rintro v u w12 ⟨k12, rfl, rfl, hR12, hb12⟩
    have hE12 := Ext.tr hE11 hb12
    simp only [Act.put, List.setIfInBounds_toArray, List.set_cons_zero, List.set_cons_succ]
    have hs21 := sha_sum _ [⟨B, q, cq⟩] 1 _ hR12 (by simp) (by rw [cat_one]; omega)
    rw [cat_one] at hs21
    refine rg_call 21 hs21 rfl (by kernel_rfl) (by rfl) (by go_simp) ?_
    rintro e w13 ⟨rfl, hb13⟩
    refine ⟨_, rfl, hb13, ?_⟩
    have hE13 := Ext.tr hE12 hb13
    simp only [Act.put, List.setIfInBounds_toArray, List.set_cons_zero, List.set_cons_succ]
    refine rg_take 22 rfl (by kernel_rfl) (by kernel_rfl) (by kernel_rfl) (fun _ _ _ _ h => h) (by rfl) ⟨.bool true, fun w' hx => by go_simp, ?_⟩
    simp only [Act.put, List.setIfInBounds_toArray, List.set_cons_zero, List.set_cons_succ]
    refine rg_take 23 rfl (by kernel_rfl) (by kernel_rfl) (by kernel_rfl) (fun _ _ _ _ h => h) (by rfl) ⟨_, fun w' hx => by (go_simp <;> with_reducible rfl), ?_⟩
    simp only [Act.put, List.setIfInBounds_toArray, List.set_cons_zero, List.set_cons_succ]
    refine rg_take 24 rfl (by kernel_rfl) (by kernel_rfl) (by kernel_rfl) (fun _ _ _ _ h => h) (by rfl) ⟨_, fun w' hx => by (go_simp <;> with_reducible rfl), ?_⟩
    simp only [Act.put, List.setIfInBounds_toArray, List.set_cons_zero, List.set_cons_succ]
    refine rg_call 25 (live03 _) rfl (by kernel_rfl) (by rfl) (by go_simp) ?_
    rintro e w14 ⟨rfl, hb14⟩
    refine ⟨_, rfl, hb14, ?_⟩
    simp only [Act.put, List.setIfInBounds_toArray, List.set_cons_zero, List.set_cons_succ]
    refine rg_take 26 rfl (by kernel_rfl) (by kernel_rfl) (by kernel_rfl) (fun _ _ _ _ h => h) (by rfl) ⟨_, fun w' hx => by (go_simp <;> with_reducible rfl), ?_⟩
    simp only [Act.put, List.setIfInBounds_toArray, List.set_cons_zero, List.set_cons_succ]
    refine rg_take 27 rfl (by kernel_rfl) (by kernel_rfl) (by kernel_rfl) (fun _ _ _ _ h => h) (by rfl) ⟨_, fun w' hx => by (go_simp <;> with_reducible rfl), ?_⟩
    simp only [Act.put, List.setIfInBounds_toArray, List.set_cons_zero, List.set_cons_succ]
    refine rg_done (by kernel_rfl) ?_
    go_wp2
    go_ret
    exact ⟨rfl, hB8.trans ((Ext.tr hE13 hb14).mono hB8.size)⟩
  · cases e1 : decide ((2000 : Int) < p.length) <;> cases e2 : decide ((2000 : Int) < q.length)
    all_goals
      first
        | (exfalso
           simp only [decide_eq_false_iff_not] at e1 e2
           exact h1 ⟨by omega, by omega⟩)
        | (go_enter Try.func6, Try.ntmps6
           go_wp2_with fail
           refine live.out.mono ?_
           rintro e w6 ⟨rfl, hb6⟩
           go_wp2
           go_ret
           exact ⟨rfl, hb6⟩)
end Go.Proofs.Ytgpcfhdldmkijaa
