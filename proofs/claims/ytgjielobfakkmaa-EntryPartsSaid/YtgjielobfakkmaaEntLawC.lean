
/- The walk of the law EntryParts. Printed by wip/tools/gen_laws17.py. -/

import Derived.Test.YtgjielobfakkmaaEntLive

import Derived.Test.YtgjielobfakkmaaEntLaw

namespace Go.Proofs.Ytgjielobfakkmaa

open Go.RowKit

attribute [local go_sem] Oper.semAt_some

theorem fit17C {l : List EnV} (h1 : l.length ≤ 60) (h2 : Ent.total (l.map EnV.x) ≤ 8000) : Fit l := by unfold Fit; omega
set_option maxRecDepth 100000 in
set_option maxHeartbeats 4000000 in
theorem walkEntryParts (w : World) (A : Option Addr) (l : List EnV) (cap : Nat) (hl : RdE w A l) (_hc : l.length ≤ cap) (L : Option Addr) (lo : List UInt8) (cl : Nat) (hL : RdB w L lo) (hcl : lo.length ≤ cl) (H : Option Addr) (hi : List UInt8) (ch : Nat) (hH : RdB w H hi) (hch : hi.length ≤ ch) (q : PtV) (hq : q.In w) :
    Calls Try.prog 4 #[.slice A l.length cap, .slice L lo.length cl, .slice H hi.length ch, q.val] w fun e w' => e = .returned (.bool true) ∧ Below w.heap.size w w' := by
  have hE0 := Ext.alloc w (.cells q.cells 36)
  have hgq := heap_alloc_new w (.cells q.cells 36)
  have hqs := hq.sum
  have hsm := small17 A l cap _ (hl.below hE0)
  simp only [PtV.val]
  go_enter Try.func4, Try.ntmps4
  go_wp2_with (refine wpList_box_row rfl 36 (.tmp 3) rfl q.cells rfl (pinfo hqs) ?_)
  refine hsm.mono ?_
  clear hsm
  rintro e w1 ⟨b, rfl, hb, hb1⟩
  have hE1 := Ext.tr hE0 hb1
  cases b with
  | false =>
    clear hb
    go_wp2_with fail
    refine (live17 _).mono ?_
    rintro e wz ⟨rfl, hbz⟩
    go_wp2
    go_ret
    exact ⟨rfl, Ext.tr hE1 hbz⟩
  | true =>
    obtain ⟨h60, h8k⟩ := hb rfl
    have hfit := fit17C h60 h8k
    clear hb
    have hgq1 := (hb1.block _ (lt_of_heap hgq)).trans hgq
    have q0 : w1.cell? ⟨w.heap.size, 0, none⟩ = some (.slice q.la q.x.lo.length q.lc) := by rw [cell_of_row _ _ 0 _ _ _ hgq1, pc0]
    have q1 : w1.cell? ⟨w.heap.size, 1, none⟩ = some (.slice q.ha q.x.hi.length q.hc) := by rw [cell_of_row _ _ 1 _ _ _ hgq1, pc1]
    by_cases hbig : wrap64 (wrap64 (wrap64 ((lo.length : Int) + (hi.length : Int)) + (q.x.lo.length : Int)) + (q.x.hi.length : Int)) ≤ 8000
    · have hbig' : decide ((8000 : Int) < wrap64 (wrap64 (wrap64 ((lo.length : Int) + (hi.length : Int)) + (q.x.lo.length : Int)) + (q.x.hi.length : Int))) = false := by simp; omega
      go_wp2_with fail
      have hB := fun W (h1 : RdE W A l) (h2 : RdB W L lo) (h3 : RdB W H hi) => between_any A l cap L H lo hi cl ch W h1 (by omega) h2 h3
      have hR := fun W (h1 : RdE W A l) (h2 : RdB W L lo) (h3 : RdB W H hi) => ref_between A l cap L H lo hi cl ch W h1 (by omega) h2 h3
      have hQ := fun W (h1 : RdE W A l) (h2 : RdB W L lo) (h3 : RdB W H hi) => ref_partOf A l cap L H lo hi cl ch W h1 hfit h2 h3 hcl hch
      have hmem := fun e (h : e ∈ betV l lo hi) => betV_mem h
      have hbl := betV_len l lo hi
      refine (partOf_any A l cap L H lo hi cl ch w1 (hl.below hE1) hfit (hL.below hE1) (hH.below hE1) hcl hch).mono ?_
      rintro e w2 ⟨p, rfl, hpx, hp, hb2⟩
      obtain ⟨D, hD⟩ : ∃ D, D = betV l lo hi := ⟨_, rfl⟩
      obtain ⟨X, hX⟩ : ∃ X, X = Ent.partOf (l.map EnV.x) lo hi := ⟨_, rfl⟩
      simp only [← hD] at hB hR hmem hbl
      simp only [← hX] at hQ hpx
      have hps := hp.sum
      have HB := Lib.hid hB
      have HR := Lib.hid hR
      have HQ := Lib.hid hQ
      have Hmem := Lib.hid hmem
      have Hpx := Lib.hid hpx
      have hEa := Ext.alloc w2 (.cells p.cells 36)
      have hgp := heap_alloc_new w2 (.cells p.cells 36)
      have hE2 := Ext.tr hE1 (Ext.tr hb2 hEa)
      have hgq := (hEa.block _ (Nat.lt_of_lt_of_le (lt_of_heap hgq1) hb2.size)).trans ((hb2.block _ (lt_of_heap hgq1)).trans hgq1)
      have hp2 := hp.below hEa
      clear hB hR hQ hmem hpx hD hX hgq1 q0 q1 hbig hbig' hb1 hb2 hp hE1 hEa
      simp only [PtV.val]
      go_wp2_with (refine wpList_store_row rfl 36 (.tmp 9) (.tmp 33) rfl w2.heap.size p.cells rfl rfl 36 _ (heap_alloc_new w2 _) (pinfo hps) (by rw [psize hps]; rfl) (pone p) ?_; rw [setRow_alloc])
      obtain ⟨gp, hgn⟩ : ∃ gp, gp = w2.heap.size := ⟨_, rfl⟩
      obtain ⟨W2, hW2⟩ : ∃ W2, W2 = w2.alloc (.cells p.cells 36) := ⟨_, rfl⟩
      rw [← hgn, ← hW2] at hgp
      rw [← hW2] at hE2 hgq hp2
      rw [← hgn, ← hW2]
      clear hW2 hgn
      have hED := Ext.tr hE2 (Ext.drew W2)
      have hld := hl.below hED
      have hLd := hL.below hED
      have hHd := hH.below hED
      have hqd := hq.below hED
      have hpd := hp2.below (Ext.drew W2)
      refine rg_start (by kernel_rfl) ?_
      refine rg_take 0 rfl (by kernel_rfl) (by kernel_rfl) (by kernel_rfl) (fun _ _ _ _ h => h) (by rfl) ⟨_, fun w' hx => by (go_simp <;> with_reducible rfl), ?_⟩
      simp only [Act.put, List.setIfInBounds_toArray, List.set_cons_zero, List.set_cons_succ]
      refine rg_take 1 rfl (by kernel_rfl) (by kernel_rfl) (by kernel_rfl) (fun _ _ _ _ h => h) (by rfl) ⟨_, fun w' hx => by (go_simp <;> with_reducible rfl), ?_⟩
      simp only [Act.put, List.setIfInBounds_toArray, List.set_cons_zero, List.set_cons_succ]
      refine rg_take 2 rfl (by kernel_rfl) (by kernel_rfl) (by kernel_rfl) (fun _ _ _ _ h => h) (by rfl) ⟨_, fun w' hx => by (go_simp <;> with_reducible rfl), ?_⟩
      simp only [Act.put, List.setIfInBounds_toArray, List.set_cons_zero, List.set_cons_succ]
      refine rg_take 4 rfl (by kernel_rfl) (by kernel_rfl) (by kernel_rfl) (fun _ _ _ _ h => h) (by rfl) ⟨_, fun w' hx => by (go_simp <;> with_reducible rfl), ?_⟩
      simp only [Act.put, List.setIfInBounds_toArray, List.set_cons_zero, List.set_cons_succ]
      refine rg_take 5 rfl (by kernel_rfl) (by kernel_rfl) (by kernel_rfl) (fun _ _ _ _ h => h) (by rfl) ⟨_, fun w' hx => by (go_simp <;> with_reducible rfl), ?_⟩
      simp only [Act.put, List.setIfInBounds_toArray, List.set_cons_zero, List.set_cons_succ]
      refine rg_take 6 rfl (by kernel_rfl) (by kernel_rfl) (by kernel_rfl) (fun _ _ _ _ h => h) (by rfl) ⟨_, fun w' hx => by (go_simp <;> with_reducible rfl), ?_⟩
      simp only [Act.put, List.setIfInBounds_toArray, List.set_cons_zero, List.set_cons_succ]
      refine rg_call 3 (HB.out _ hld hLd hHd) rfl (by kernel_rfl) (by rfl) (by go_simp) ?_
      rintro e w3 ⟨A3, c3, rfl, ho3, hb3⟩
      refine ⟨_, rfl, hb3, ?_⟩
      simp only [Act.put, List.setIfInBounds_toArray, List.set_cons_zero, List.set_cons_succ]
      refine rg_call 7 (HR.out _ (hld.below hb3) (hLd.below hb3) (hHd.below hb3)) rfl (by kernel_rfl) (by rfl) (by go_simp) ?_
      rintro e w4 ⟨A4, c4, rfl, ho4, hb4⟩
      refine ⟨_, rfl, hb4, ?_⟩
      simp only [Act.put, List.setIfInBounds_toArray, List.set_cons_zero, List.set_cons_succ]
      have hS5 := Ent.sameL_refl (D.map EnV.x)
      refine rg_call 8 (ref_same17 A3 A4 D D c3 c4 _ ((ho3.below hb4).rdE fun e h => (hld.each e (Hmem.out e h)).below (Ext.tr hb3 hb4)) (ho4.rdE fun e h => (hld.each e (Hmem.out e h)).below (Ext.tr hb3 hb4)) (by omega)) rfl (by kernel_rfl) (by rfl) (by go_simp) ?_
      rintro e w5 ⟨he5, hb5⟩
      rw [hS5] at he5
      subst he5
      refine ⟨_, rfl, hb5, ?_⟩
      have hE5 := Ext.tr hb3 (Ext.tr hb4 hb5)
      simp only [Act.put, List.setIfInBounds_toArray, List.set_cons_zero, List.set_cons_succ]
      refine rg_take 9 rfl (by kernel_rfl) (by kernel_rfl) (by kernel_rfl) (fun _ _ _ _ h => h) (by rfl) ⟨_, fun w' hx => by (go_simp <;> with_reducible rfl), ?_⟩
      simp only [Act.put, List.setIfInBounds_toArray, List.set_cons_zero, List.set_cons_succ]
      refine rg_take 10 rfl (by kernel_rfl) (by kernel_rfl) (by kernel_rfl) (fun _ _ _ _ h => h) (by rfl) ⟨.agg p.cells, fun w' hx => ex_load_row 36 _ rfl gp rfl 36 _ (0, 0) _ (((Ext.tr (Ext.tr (Ext.drew W2) hE5) hx).block _ (lt_of_heap hgp)).trans hgp) Try.underlying36 rfl (pinfo hps), ?_⟩
      simp only [Act.put, List.setIfInBounds_toArray, List.set_cons_zero, List.set_cons_succ]
      refine rg_take 11 rfl (by kernel_rfl) (by kernel_rfl) (by kernel_rfl) (fun _ _ _ _ h => h) (by rfl) ⟨_, fun w' hx => by (go_simp <;> with_reducible rfl), ?_⟩
      simp only [Act.put, List.setIfInBounds_toArray, List.set_cons_zero, List.set_cons_succ]
      refine rg_take 12 rfl (by kernel_rfl) (by kernel_rfl) (by kernel_rfl) (fun _ _ _ _ h => h) (by rfl) ⟨_, fun w' hx => by (go_simp <;> with_reducible rfl), ?_⟩
      simp only [Act.put, List.setIfInBounds_toArray, List.set_cons_zero, List.set_cons_succ]
      refine rg_take 13 rfl (by kernel_rfl) (by kernel_rfl) (by kernel_rfl) (fun _ _ _ _ h => h) (by rfl) ⟨_, fun w' hx => by (go_simp <;> with_reducible rfl), ?_⟩
      simp only [Act.put, List.setIfInBounds_toArray, List.set_cons_zero, List.set_cons_succ]
      refine rg_call 14 (HQ.out _ (hld.below hE5) (hLd.below hE5) (hHd.below hE5)) rfl (by kernel_rfl) (by rfl) (by go_simp) ?_
      rintro e w6 ⟨p', rfl, hpx', hp', hb6⟩
      refine ⟨_, rfl, hb6, ?_⟩
      have hS7 := ref_samePart p p' w6 (hpd.below (Ext.tr hE5 hb6)) hp'
      rw [Hpx.out, hpx', Pt.same_refl] at hS7
      simp only [PtV.val] at hS7 ⊢
      simp only [Act.put, List.setIfInBounds_toArray, List.set_cons_zero, List.set_cons_succ]
      refine rg_call 15 (hS7) rfl (by kernel_rfl) (by rfl) (by go_simp) ?_
      rintro e w7 ⟨rfl, hb7⟩
      refine ⟨_, rfl, hb7, ?_⟩
      have hE7 := Ext.tr hE5 (Ext.tr hb6 hb7)
      simp only [Act.put, List.setIfInBounds_toArray, List.set_cons_zero, List.set_cons_succ]
      refine rg_take 16 rfl (by kernel_rfl) (by kernel_rfl) (by kernel_rfl) (fun _ _ _ _ h => h) (by rfl) ⟨_, fun w' hx => by (go_simp <;> with_reducible rfl), ?_⟩
      simp only [Act.put, List.setIfInBounds_toArray, List.set_cons_zero, List.set_cons_succ]
      refine rg_take 17 rfl (by kernel_rfl) (by kernel_rfl) (by kernel_rfl) (fun _ _ _ _ h => h) (by rfl) ⟨_, fun w' hx => by (go_simp <;> with_reducible rfl), ?_⟩
      simp only [Act.put, List.setIfInBounds_toArray, List.set_cons_zero, List.set_cons_succ]
      refine rg_take 18 rfl (by kernel_rfl) (by kernel_rfl) (by kernel_rfl) (fun _ _ _ _ h => h) (by rfl) ⟨.agg p.cells, fun w' hx => ex_load_row 36 _ rfl gp rfl 36 _ (0, 0) _ (((Ext.tr (Ext.tr (Ext.drew W2) hE7) hx).block _ (lt_of_heap hgp)).trans hgp) Try.underlying36 rfl (pinfo hps), ?_⟩
      simp only [Act.put, List.setIfInBounds_toArray, List.set_cons_zero, List.set_cons_succ]
      refine rg_take 19 rfl (by kernel_rfl) (by kernel_rfl) (by kernel_rfl) (fun _ _ _ _ h => h) (by rfl) ⟨.agg q.cells, fun w' hx => ex_load_row 36 _ rfl w.heap.size rfl 36 _ (0, 0) _ (((Ext.tr (Ext.tr (Ext.drew W2) hE7) hx).block _ (lt_of_heap hgq)).trans hgq) Try.underlying36 rfl (pinfo hqs), ?_⟩
      simp only [Act.put, List.setIfInBounds_toArray, List.set_cons_zero, List.set_cons_succ]
      refine rg_take 21 rfl (by kernel_rfl) (by kernel_rfl) (by kernel_rfl) (fun _ _ _ _ h => h) (by rfl) ⟨.agg p.cells, fun w' hx => ex_load_row 36 _ rfl gp rfl 36 _ (0, 0) _ (((Ext.tr (Ext.tr (Ext.drew W2) hE7) hx).block _ (lt_of_heap hgp)).trans hgp) Try.underlying36 rfl (pinfo hps), ?_⟩
      simp only [Act.put, List.setIfInBounds_toArray, List.set_cons_zero, List.set_cons_succ]
      refine rg_take 22 rfl (by kernel_rfl) (by kernel_rfl) (by kernel_rfl) (fun _ _ _ _ h => h) (by rfl) ⟨.agg q.cells, fun w' hx => ex_load_row 36 _ rfl w.heap.size rfl 36 _ (0, 0) _ (((Ext.tr (Ext.tr (Ext.drew W2) hE7) hx).block _ (lt_of_heap hgq)).trans hgq) Try.underlying36 rfl (pinfo hqs), ?_⟩
      simp only [Act.put, List.setIfInBounds_toArray, List.set_cons_zero, List.set_cons_succ]
      have hS8 := samePart_any p q w7 (hpd.below hE7) (hqd.below hE7)
      simp only [PtV.val] at hS8
      refine rg_call 20 (hS8) rfl (by kernel_rfl) (by rfl) (by go_simp) ?_
      rintro e w8 ⟨rfl, hb8⟩
      refine ⟨_, rfl, hb8, ?_⟩
      simp only [Act.put, List.setIfInBounds_toArray, List.set_cons_zero, List.set_cons_succ]
      have hS9 := ref_samePart p q w8 (hpd.below (Ext.tr hE7 hb8)) (hqd.below (Ext.tr hE7 hb8))
      simp only [PtV.val] at hS9
      refine rg_call 23 (hS9) rfl (by kernel_rfl) (by rfl) (by go_simp) ?_
      rintro e w9 ⟨rfl, hb9⟩
      refine ⟨_, rfl, hb9, ?_⟩
      have hE9 := Ext.tr hED (Ext.tr hE7 (Ext.tr hb8 hb9))
      simp only [Act.put, List.setIfInBounds_toArray, List.set_cons_zero, List.set_cons_succ]
      refine rg_take 24 rfl (by kernel_rfl) (by kernel_rfl) (by kernel_rfl) (fun _ _ _ _ h => h) (by rfl) ⟨.bool true, fun w' hx => by (go_simp <;> with_reducible rfl), ?_⟩
      simp only [Act.put, List.setIfInBounds_toArray, List.set_cons_zero, List.set_cons_succ]
      refine rg_take 25 rfl (by kernel_rfl) (by kernel_rfl) (by kernel_rfl) (fun _ _ _ _ h => h) (by rfl) ⟨_, fun w' hx => by (go_simp <;> with_reducible rfl), ?_⟩
      simp only [Act.put, List.setIfInBounds_toArray, List.set_cons_zero, List.set_cons_succ]
      refine rg_take 26 rfl (by kernel_rfl) (by kernel_rfl) (by kernel_rfl) (fun _ _ _ _ h => h) (by rfl) ⟨_, fun w' hx => by (go_simp <;> with_reducible rfl), ?_⟩
      simp only [Act.put, List.setIfInBounds_toArray, List.set_cons_zero, List.set_cons_succ]
      refine rg_call 27 (live17 _) rfl (by kernel_rfl) (by rfl) (by go_simp) ?_
      rintro e wz ⟨rfl, hbz⟩
      refine ⟨_, rfl, hbz, ?_⟩
      simp only [Act.put, List.setIfInBounds_toArray, List.set_cons_zero, List.set_cons_succ]
      refine rg_take 28 rfl (by kernel_rfl) (by kernel_rfl) (by kernel_rfl) (fun _ _ _ _ h => h) (by rfl) ⟨_, fun w' hx => by (go_simp <;> with_reducible rfl), ?_⟩
      simp only [Act.put, List.setIfInBounds_toArray, List.set_cons_zero, List.set_cons_succ]
      refine rg_take 29 rfl (by kernel_rfl) (by kernel_rfl) (by kernel_rfl) (fun _ _ _ _ h => h) (by rfl) ⟨_, fun w' hx => by (go_simp <;> with_reducible rfl), ?_⟩
      simp only [Act.put, List.setIfInBounds_toArray, List.set_cons_zero, List.set_cons_succ]
      refine rg_done (by kernel_rfl) ?_
      go_wp2
      go_ret
      exact ⟨rfl, Ext.tr hE9 hbz⟩
    · have hbig' : decide ((8000 : Int) < wrap64 (wrap64 (wrap64 ((lo.length : Int) + (hi.length : Int)) + (q.x.lo.length : Int)) + (q.x.hi.length : Int))) = true := by simp; omega
      go_wp2_with fail
      refine (live17 _).mono ?_
      rintro e wz ⟨rfl, hbz⟩
      go_wp2
      go_ret
      exact ⟨rfl, Ext.tr hE1 hbz⟩
end Go.Proofs.Ytgjielobfakkmaa
