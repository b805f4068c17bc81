
/- Contract: which parts differ, the document's (scowref18.Differ). Printed by wip/tools/gen_spl18.py. -/

import Derived.Test.YtiiekdhlcmaabaaSplDiffer

namespace Go.Proofs.Ytiiekdhlcmaabaa

open Go.RowKit

attribute [local go_sem] Oper.semAt_some

theorem rd_one (W : World) (t : TypeId) (v : Value) : Rd (W.alloc (.cells #[v] t)) 1 (some ⟨W.heap.size, 0, none⟩) 1 [v] := ⟨rfl, fun _ => ⟨_, rfl, fun j u hj => by
  rw [Addr.add_lit, cell_of_row _ _ _ _ _ _ (heap_alloc_new W _), Nat.zero_add]; simpa using hj⟩⟩
set_option maxRecDepth 100000 in
set_option maxHeartbeats 2000000 in
theorem ref_differ (A B : Option Addr) (l : List EnV) (T : List PtV) (c d : Nat) (w : World) (hl : RdE w A l) (hf : Fit l) (hT : RdP w B T) (hc : T.length ≤ 1000000) :
    Calls Try.prog 16 #[.slice A l.length c, .slice B T.length d] w fun e' w' => ∃ A' c', e' = .returned (.slice A' (Spl.differ (l.map EnV.x) (T.map PtV.x)).length c') ∧ RdI w' A' (Spl.differ (l.map EnV.x) (T.map PtV.x)) ∧ Below w.heap.size w w' := by
  have hdl := Spl.differ_len (l.map EnV.x) (T.map PtV.x)
  have hds : ∀ k (h : k < T.length), Spl.differK (l.map EnV.x) (T.map PtV.x) (k + 1) = Spl.differK (l.map EnV.x) (T.map PtV.x) k ++ if Spl.diffs (l.map EnV.x) T[k].x then [k] else [] := fun k h => by
    rw [Spl.differ_snoc _ _ _ (by simpa using h)]
    simp
  rw [show Spl.differ (l.map EnV.x) (T.map PtV.x) = Spl.differK (l.map EnV.x) (T.map PtV.x) T.length by unfold Spl.differ; rw [List.length_map]]
  obtain ⟨E, hE⟩ : ∃ E : Nat → List Nat, E = Spl.differK (l.map EnV.x) (T.map PtV.x) := ⟨_, rfl⟩
  rw [← hE] at hdl hds ⊢
  have hE0 : E 0 = [] := by rw [hE]; rfl
  have Hdl := Lib.hid hdl
  have Hds := Lib.hid hds
  have HE0 := Lib.hid hE0
  clear hdl hds hE hE0
  go_enter Try.func16, Try.ntmps16
  go_wp2
  go_loopw [5, 6] (fun v i wr => ∃ (k : Nat) (A' : Option Addr) (c' : Nat), k ≤ T.length ∧ i = .int .i64 k ∧ v = .slice A' (E k).length c' ∧ Own wr w.heap.size 3 1 A' (E k).length c' (ivs (E k)) ∧ Below w.heap.size w wr) (fun _ i _ => T.length - (intOf i).toNat)
  case atStart => exact ⟨0, none, 0, by omega, rfl, by rw [HE0.out]; rfl, by rw [HE0.out]; exact Own.none_ _ _ _ _ _, Below.refl _ _⟩
  case round =>
    obtain ⟨k, A', c', hk, rfl, rfl, hown, hbw⟩ := hrel
    by_cases h : k < T.length
    · obtain ⟨ad, rfl, hcx, hin⟩ := (hT.below hbw).at_ h
      have hs := Hds.out k h
      have hel := Hdl.out k
      obtain ⟨p, hp⟩ : ∃ p, p = T[k] := ⟨_, rfl⟩
      obtain ⟨e, he⟩ : ∃ e, e = E k := ⟨_, rfl⟩
      rw [← hp] at hs hcx hin
      rw [← he] at hs hown hel ⊢
      have hps := hin.sum
      have Hs := Lib.hid hs
      have Hcx := Lib.hid hcx
      have ik : (0 : Int) ≤ (k : Int) := by omega
      have ik2 : (k : Int) < (T.length : Int) := by omega
      clear hs hcx hp he
      have cp0 : wr.drew.cell? (ad.add (k * 35)) = some (.slice p.la p.x.lo.length p.lc) := RdP.lo_at Hcx.out
      have cp1 : wr.drew.cell? ⟨(ad.add (k * 35)).block, (ad.add (k * 35)).off + 1, none⟩ = some (.slice p.ha p.x.hi.length p.hc) := RdP.hi_at Hcx.out
      have cp2 : wr.cell? ⟨(ad.add (k * 35)).block, (ad.add (k * 35)).off + 2, none⟩ = some (.int .i64 p.x.count) := RdP.count_at Hcx.out
      have hlw := hl.below hbw
      go_wp2_with fail
      refine rg_start (by kernel_rfl) ?_
      refine rg_take 0 rfl (by kernel_rfl) (by kernel_rfl) (by kernel_rfl) (fun _ _ _ _ h => h) (by rfl) ⟨_, fun w' hx => by (go_simp <;> with_reducible rfl), ?_⟩
      simp only [Act.put, List.setIfInBounds_toArray, List.set_cons_zero, List.set_cons_succ]
      refine rg_take 1 rfl (by kernel_rfl) (by kernel_rfl) (by kernel_rfl) (fun _ _ _ _ h => h) (by rfl) ⟨_, fun w' hx => by (go_simp <;> with_reducible rfl), ?_⟩
      simp only [Act.put, List.setIfInBounds_toArray, List.set_cons_zero, List.set_cons_succ]
      refine rg_take 2 rfl (by kernel_rfl) (by kernel_rfl) (by kernel_rfl) (fun _ _ _ _ h => h) (by rfl) ⟨_, fun w' hx => by (go_simp <;> with_reducible rfl), ?_⟩
      simp only [Act.put, List.setIfInBounds_toArray, List.set_cons_zero, List.set_cons_succ]
      refine rg_take 3 rfl (by kernel_rfl) (by kernel_rfl) (by kernel_rfl) (fun _ _ _ _ h => h) (by rfl) ⟨_, fun w' hx => by (go_simp <;> with_reducible rfl), ?_⟩   -- t17 := indexAddr 27 t15 t16
      simp only [Act.put, List.setIfInBounds_toArray, List.set_cons_zero, List.set_cons_succ]
      refine rg_take 4 rfl (by kernel_rfl) (by kernel_rfl) (by kernel_rfl) (fun _ _ _ _ h => h) (by rfl) ⟨_, fun w' hx => by (go_simp <;> with_reducible rfl), ?_⟩   -- t18 := fieldAddr 33 t17 0
      simp only [Act.put, List.setIfInBounds_toArray, List.set_cons_zero, List.set_cons_succ]
      refine rg_take 5 rfl (by kernel_rfl) (by kernel_rfl) (by kernel_rfl) (fun _ _ _ _ h => h) (by rfl) ⟨_, fun w' hx => by have hcx := hx.load cp0; (go_simp <;> with_reducible rfl), ?_⟩
      simp only [Act.put, List.setIfInBounds_toArray, List.set_cons_zero, List.set_cons_succ]
      refine rg_take 6 rfl (by kernel_rfl) (by kernel_rfl) (by kernel_rfl) (fun _ _ _ _ h => h) (by rfl) ⟨_, fun w' hx => by (go_simp <;> with_reducible rfl), ?_⟩
      simp only [Act.put, List.setIfInBounds_toArray, List.set_cons_zero, List.set_cons_succ]
      refine rg_take 7 rfl (by kernel_rfl) (by kernel_rfl) (by kernel_rfl) (fun _ _ _ _ h => h) (by rfl) ⟨_, fun w' hx => by (go_simp <;> with_reducible rfl), ?_⟩
      simp only [Act.put, List.setIfInBounds_toArray, List.set_cons_zero, List.set_cons_succ]
      refine rg_take 8 rfl (by kernel_rfl) (by kernel_rfl) (by kernel_rfl) (fun _ _ _ _ h => h) (by rfl) ⟨_, fun w' hx => by (go_simp <;> with_reducible rfl), ?_⟩   -- t22 := indexAddr 27 t20 t21
      simp only [Act.put, List.setIfInBounds_toArray, List.set_cons_zero, List.set_cons_succ]
      refine rg_take 9 rfl (by kernel_rfl) (by kernel_rfl) (by kernel_rfl) (fun _ _ _ _ h => h) (by rfl) ⟨_, fun w' hx => by (go_simp <;> with_reducible rfl), ?_⟩   -- t23 := fieldAddr 33 t22 1
      simp only [Act.put, List.setIfInBounds_toArray, List.set_cons_zero, List.set_cons_succ]
      refine rg_take 10 rfl (by kernel_rfl) (by kernel_rfl) (by kernel_rfl) (fun _ _ _ _ h => h) (by rfl) ⟨_, fun w' hx => by have hcx := hx.load cp1; (go_simp <;> with_reducible rfl), ?_⟩
      simp only [Act.put, List.setIfInBounds_toArray, List.set_cons_zero, List.set_cons_succ]
      -- BRANCH: 11: t25 := scow/scowref17.PartOf#32(t14, t19, t24) | 12: t7 := alloc 33
      refine rg_par2 11 25 (fun v W => ∃ m : PtV, v = m.val ∧ m.x = Ent.partOf (l.map EnV.x) p.x.lo p.x.hi ∧ m.In W) 12 7 (fun v W => ∃ g C, v = .pointer (some ⟨g, 0, none⟩) ∧ wr.heap.size ≤ g ∧ W.heap[g]? = some (.cells C 33 (0, 0)) ∧ C.size = 35) _ _ rfl rfl (by kernel_rfl) (fun _ _ _ ⟨m, h1, h2, h3⟩ hx => ⟨m, h1, h2, h3.below hx⟩) (fun _ _ _ ⟨g, C, h1, h2, h3, h4⟩ hx => ⟨g, C, h1, h2, (hx.block _ (lt_of_heap h3)).trans h3, h4⟩) (fun _ _ => by rfl) (fun _ _ => by rfl) ?_ ?_ ?_
      · intro v u W hx
        simp only [Act.put, List.setIfInBounds_toArray, List.set_cons_zero, List.set_cons_succ]
        have hxx := Ext.tr (Ext.drew wr) hx
        refine yld_call (by go_simp) (ref_partOf A l c p.la p.ha p.x.lo p.x.hi p.lc p.hc W (hlw.below hxx) hf (hin.lr.below hxx) (hin.hr.below hxx) hin.lcap hin.hcap) ?_
        rintro e' w2 ⟨m, rfl, hmx, hm, hb2⟩
        exact ⟨_, rfl, hb2, m, rfl, hmx, hm⟩
      · intro v u W hx
        simp only [Act.put, List.setIfInBounds_toArray, List.set_cons_zero, List.set_cons_succ]
        exact yld_make ⟨_, _, by (go_simp <;> first | exact ⟨rfl, rfl⟩ | rfl), Ext.alloc _ _, _, _, rfl, (Ext.tr (Ext.drew wr) hx).size, heap_alloc_new W _, by rfl⟩
      rintro v u W hxW ⟨m, rfl, hmx, hm⟩ ⟨g, C, rfl, hg, hgC, hC⟩
      simp only [Act.put, List.setIfInBounds_toArray, List.set_cons_zero, List.set_cons_succ]
      have hms := hm.sum
      have hB : Ext wr W := Ext.tr (Ext.drew wr) hxW
      simp only [PtV.val]
      refine rg_last 13 rfl (by kernel_rfl) (by kernel_rfl) (by rfl) fun K hK => wp_store_row 33 (.tmp 7) (.tmp 25) rfl g _ rfl rfl 33 _ hgC (pinfo hms) (by rw [hC, psize hms]) (pone m) (hK _ _ ?_)
      refine rg_done (by kernel_rfl) ?_
      have Hmx := Lib.hid hmx
      have hxw : Ext wr (W.setRow g m.cells) := ext_rowD hB hg _
      have g2 := setRow_heap W g _ m.cells _ _ hgC
      have hm3 := hm.sum
      obtain ⟨W3, hW3⟩ : ∃ W3, W3 = W.setRow g m.cells := ⟨_, rfl⟩
      rw [← hW3] at hxw g2 ⊢
      have hown3 := hown.below hxw
      have hx3 : Ext w W3 := hbw.trans (hxw.mono hbw.size)
      have c1 : W3.drew.cell? ⟨g, 2, none⟩ = some (.int .i64 m.x.count) := (cell_of_row W3 _ 2 _ _ _ g2).trans (pc2 m)
      have c2 : W3.drew.cell? ⟨(ad.add (k * 35)).block, (ad.add (k * 35)).off + 2, none⟩ = some (.int .i64 p.x.count) := hxw.load cp2
      have hs1 : ∀ i u, ((bvs m.x.sum).toArray)[i]? = some u → W3.drew.cell? ((⟨g, 3, none⟩ : Addr).add i) = some u := fun i u hi => by
        rw [Addr.add_lit]
        exact (cell_of_row W3 _ _ _ _ _ g2).trans ((pc3 m i).trans hi)
      have hs2 : ∀ i u, ((bvs p.x.sum).toArray)[i]? = some u → W3.drew.cell? ((⟨(ad.add (k * 35)).block, (ad.add (k * 35)).off + 3, none⟩ : Addr).add i) = some u := fun i u hi => by
        have h1 := Hcx.out (3 + i) u ((pc3 p i).trans hi)
        have h2 := hxw.load h1
        rw [← add_add'] at h2
        exact h2
      have HS1 := Lib.hid hs1
      have HS2 := Lib.hid hs2
      have hi1 := sInfo _ hms
      have hi2 := sInfo _ hps
      have hxd := Ext.tr hx3 (Ext.drew W3)
      have hx4 : Ext w (W3.drew.alloc (.cells #[.int .i64 (k : Int)] 3)) := Ext.tr hxd (Ext.alloc _ _)
      have hown4 : Own (W3.drew.alloc (.cells #[.int .i64 (k : Int)] 3)) w.heap.size 3 1 A' e.length c' (ivs e) := (hown3.below (Ext.drew W3)).below (Ext.alloc _ _)
      have hrQ : Rd (W3.drew.alloc (.cells #[.int .i64 (k : Int)] 3)) 1 (some ⟨W3.heap.size, 0, none⟩) 1 [.int .i64 (k : Int)] := rd_one W3.drew _ _
      have HRQ := Lib.hid hrQ
      have hsz4 := hx4.size
      clear hown hxw hs1 hs2 hmx g2 hrQ hk hW3 hB hxW hgC hC hg hm cp0 cp1 cp2 hlw hm3
      cases hcnt : (m.x.count == p.x.count) with
      | false =>
        have hdf : Spl.diffs (l.map EnV.x) p.x = true := by unfold Spl.diffs; rw [← Hmx.out, hcnt]; rfl
        have hne : ¬ m.x.count = p.x.count := by simpa using hcnt
        have Hdf := Lib.hid hdf
        clear hcnt hdf
        go_wp2_with fail
        refine rg_start (by kernel_rfl) ?_
        refine rg_take 0 rfl (by kernel_rfl) (by kernel_rfl) (by kernel_rfl) (fun _ _ _ _ h => h) (by rfl) ⟨_, fun w' hx => by (go_simp <;> with_reducible rfl), ?_⟩   -- t26 := fieldAddr 33 t7 2
        simp only [Act.put, List.setIfInBounds_toArray, List.set_cons_zero, List.set_cons_succ]
        refine rg_take 1 rfl (by kernel_rfl) (by kernel_rfl) (by kernel_rfl) (fun _ _ _ _ h => h) (by rfl) ⟨_, fun w' hx => by have hcx := hx.load c1; (go_simp <;> with_reducible rfl), ?_⟩
        simp only [Act.put, List.setIfInBounds_toArray, List.set_cons_zero, List.set_cons_succ]
        refine rg_take 2 rfl (by kernel_rfl) (by kernel_rfl) (by kernel_rfl) (fun _ _ _ _ h => h) (by rfl) ⟨_, fun w' hx => by (go_simp <;> with_reducible rfl), ?_⟩
        simp only [Act.put, List.setIfInBounds_toArray, List.set_cons_zero, List.set_cons_succ]
        refine rg_take 3 rfl (by kernel_rfl) (by kernel_rfl) (by kernel_rfl) (fun _ _ _ _ h => h) (by rfl) ⟨_, fun w' hx => by (go_simp <;> with_reducible rfl), ?_⟩
        simp only [Act.put, List.setIfInBounds_toArray, List.set_cons_zero, List.set_cons_succ]
        refine rg_take 4 rfl (by kernel_rfl) (by kernel_rfl) (by kernel_rfl) (fun _ _ _ _ h => h) (by rfl) ⟨_, fun w' hx => by (go_simp <;> with_reducible rfl), ?_⟩   -- t30 := indexAddr 27 t28 t29
        simp only [Act.put, List.setIfInBounds_toArray, List.set_cons_zero, List.set_cons_succ]
        refine rg_take 5 rfl (by kernel_rfl) (by kernel_rfl) (by kernel_rfl) (fun _ _ _ _ h => h) (by rfl) ⟨_, fun w' hx => by (go_simp <;> with_reducible rfl), ?_⟩   -- t31 := fieldAddr 33 t30 2
        simp only [Act.put, List.setIfInBounds_toArray, List.set_cons_zero, List.set_cons_succ]
        refine rg_take 6 rfl (by kernel_rfl) (by kernel_rfl) (by kernel_rfl) (fun _ _ _ _ h => h) (by rfl) ⟨_, fun w' hx => by have hcx := hx.load c2; (go_simp <;> with_reducible rfl), ?_⟩
        simp only [Act.put, List.setIfInBounds_toArray, List.set_cons_zero, List.set_cons_succ]
        refine rg_take 7 rfl (by kernel_rfl) (by kernel_rfl) (by kernel_rfl) (fun _ _ _ _ h => h) (by rfl) ⟨.bool true, fun w' hx => by (go_simp <;> with_reducible rfl), ?_⟩
        simp only [Act.put, List.setIfInBounds_toArray, List.set_cons_zero, List.set_cons_succ]
        refine rg_take 8 rfl (by kernel_rfl) (by kernel_rfl) (by kernel_rfl) (fun _ _ _ _ h => h) (by rfl) ⟨_, fun w' hx => by (go_simp <;> with_reducible rfl), ?_⟩
        simp only [Act.put, List.setIfInBounds_toArray, List.set_cons_zero, List.set_cons_succ]
        refine rg_skip 9 rfl (by kernel_rfl) (by kernel_rfl) (by kernel_rfl) (fun _ _ _ _ h => h) (by rfl) ?_
        simp only [Act.put, List.setIfInBounds_toArray, List.set_cons_zero, List.set_cons_succ]
        refine rg_skip 10 rfl (by kernel_rfl) (by kernel_rfl) (by kernel_rfl) (fun _ _ _ _ h => h) (by rfl) ?_
        simp only [Act.put, List.setIfInBounds_toArray, List.set_cons_zero, List.set_cons_succ]
        refine rg_skip 11 rfl (by kernel_rfl) (by kernel_rfl) (by kernel_rfl) (fun _ _ _ _ h => h) (by rfl) ?_
        simp only [Act.put, List.setIfInBounds_toArray, List.set_cons_zero, List.set_cons_succ]
        refine rg_skip 12 rfl (by kernel_rfl) (by kernel_rfl) (by kernel_rfl) (fun _ _ _ _ h => h) (by rfl) ?_
        simp only [Act.put, List.setIfInBounds_toArray, List.set_cons_zero, List.set_cons_succ]
        refine rg_skip 13 rfl (by kernel_rfl) (by kernel_rfl) (by kernel_rfl) (fun _ _ _ _ h => h) (by rfl) ?_
        simp only [Act.put, List.setIfInBounds_toArray, List.set_cons_zero, List.set_cons_succ]
        refine rg_skip 14 rfl (by kernel_rfl) (by kernel_rfl) (by kernel_rfl) (fun _ _ _ _ h => h) (by rfl) ?_
        simp only [Act.put, List.setIfInBounds_toArray, List.set_cons_zero, List.set_cons_succ]
        refine rg_skip 15 rfl (by kernel_rfl) (by kernel_rfl) (by kernel_rfl) (fun _ _ _ _ h => h) (by rfl) ?_
        simp only [Act.put, List.setIfInBounds_toArray, List.set_cons_zero, List.set_cons_succ]
        refine rg_skip 16 rfl (by kernel_rfl) (by kernel_rfl) (by kernel_rfl) (fun _ _ _ _ h => h) (by rfl) ?_
        simp only [Act.put, List.setIfInBounds_toArray, List.set_cons_zero, List.set_cons_succ]
        refine rg_take 17 rfl (by kernel_rfl) (by kernel_rfl) (by kernel_rfl) (fun _ _ _ _ h => h) (by rfl) ⟨_, fun w' hx => by (go_simp <;> with_reducible rfl), ?_⟩
        simp only [Act.put, List.setIfInBounds_toArray, List.set_cons_zero, List.set_cons_succ]
        refine rg_done (by kernel_rfl) ?_
        go_wp2_with (at_builtin; refine wpList_app rfl (.tmp 44) (.tmp 46) 35 rfl elemI w.heap.size A' e.length c' (ivs e) rfl _ 1 1 [.int .i64 (k : Int)] rfl (e.length + 1) rfl (ivs (e ++ [k])) (by simp [ivs]) hown4 HRQ.out (by simp [Value.oneCell']) (by omega) (by omega) hsz4 ?_; intro A5 c5 w5 ho5 hg5 hr5)
        have hdf := Hdf.out
        go_roundw
        case rel =>
          have hx5 : Ext w w5 := below_app hx4 hown4 hg5 hx4.size
          have hs : E (k + 1) = e ++ [k] := by rw [Hs.out, hdf]; rfl
          exact ⟨k + 1, A5, c5, by omega, by go_num, by rw [hs, List.length_append]; rfl, by rw [hs, List.length_append]; exact ho5, hx5⟩
        case measure => simp [intOf]; omega

      | true =>
        have heq : m.x.count = p.x.count := by simpa using hcnt
        rw [heq] at c1
        cases hsm : (m.x.sum == p.x.sum) with
        | false =>
          have hdf : Spl.diffs (l.map EnV.x) p.x = true := by unfold Spl.diffs; rw [← Hmx.out, hcnt, hsm]; rfl
          have Hdf := Lib.hid hdf
          clear hcnt hdf heq
          go_wp2_with fail
          refine rg_start (by kernel_rfl) ?_
          refine rg_take 0 rfl (by kernel_rfl) (by kernel_rfl) (by kernel_rfl) (fun _ _ _ _ h => h) (by rfl) ⟨_, fun w' hx => by (go_simp <;> with_reducible rfl), ?_⟩   -- t26 := fieldAddr 33 t7 2
          simp only [Act.put, List.setIfInBounds_toArray, List.set_cons_zero, List.set_cons_succ]
          refine rg_take 1 rfl (by kernel_rfl) (by kernel_rfl) (by kernel_rfl) (fun _ _ _ _ h => h) (by rfl) ⟨_, fun w' hx => by have hcx := hx.load c1; (go_simp <;> with_reducible rfl), ?_⟩
          simp only [Act.put, List.setIfInBounds_toArray, List.set_cons_zero, List.set_cons_succ]
          refine rg_take 2 rfl (by kernel_rfl) (by kernel_rfl) (by kernel_rfl) (fun _ _ _ _ h => h) (by rfl) ⟨_, fun w' hx => by (go_simp <;> with_reducible rfl), ?_⟩
          simp only [Act.put, List.setIfInBounds_toArray, List.set_cons_zero, List.set_cons_succ]
          refine rg_take 3 rfl (by kernel_rfl) (by kernel_rfl) (by kernel_rfl) (fun _ _ _ _ h => h) (by rfl) ⟨_, fun w' hx => by (go_simp <;> with_reducible rfl), ?_⟩
          simp only [Act.put, List.setIfInBounds_toArray, List.set_cons_zero, List.set_cons_succ]
          refine rg_take 4 rfl (by kernel_rfl) (by kernel_rfl) (by kernel_rfl) (fun _ _ _ _ h => h) (by rfl) ⟨_, fun w' hx => by (go_simp <;> with_reducible rfl), ?_⟩   -- t30 := indexAddr 27 t28 t29
          simp only [Act.put, List.setIfInBounds_toArray, List.set_cons_zero, List.set_cons_succ]
          refine rg_take 5 rfl (by kernel_rfl) (by kernel_rfl) (by kernel_rfl) (fun _ _ _ _ h => h) (by rfl) ⟨_, fun w' hx => by (go_simp <;> with_reducible rfl), ?_⟩   -- t31 := fieldAddr 33 t30 2
          simp only [Act.put, List.setIfInBounds_toArray, List.set_cons_zero, List.set_cons_succ]
          refine rg_take 6 rfl (by kernel_rfl) (by kernel_rfl) (by kernel_rfl) (fun _ _ _ _ h => h) (by rfl) ⟨_, fun w' hx => by have hcx := hx.load c2; (go_simp <;> with_reducible rfl), ?_⟩
          simp only [Act.put, List.setIfInBounds_toArray, List.set_cons_zero, List.set_cons_succ]
          refine rg_take 7 rfl (by kernel_rfl) (by kernel_rfl) (by kernel_rfl) (fun _ _ _ _ h => h) (by rfl) ⟨.bool false, fun w' hx => by (go_simp <;> with_reducible rfl), ?_⟩
          simp only [Act.put, List.setIfInBounds_toArray, List.set_cons_zero, List.set_cons_succ]
          refine rg_take 8 rfl (by kernel_rfl) (by kernel_rfl) (by kernel_rfl) (fun _ _ _ _ h => h) (by rfl) ⟨_, fun w' hx => by (go_simp <;> with_reducible rfl), ?_⟩
          simp only [Act.put, List.setIfInBounds_toArray, List.set_cons_zero, List.set_cons_succ]
          refine rg_take 9 rfl (by kernel_rfl) (by kernel_rfl) (by kernel_rfl) (fun _ _ _ _ h => h) (by rfl) ⟨_, fun w' hx => by (go_simp <;> with_reducible rfl), ?_⟩   -- t35 := fieldAddr 33 t7 3
          simp only [Act.put, List.setIfInBounds_toArray, List.set_cons_zero, List.set_cons_succ]
          refine rg_take 10 rfl (by kernel_rfl) (by kernel_rfl) (by kernel_rfl) (fun _ _ _ _ h => h) (by rfl) ⟨.agg (bvs m.x.sum).toArray, fun w' hx => ex_load_cells 31 _ rfl _ rfl (bvs m.x.sum).toArray _ (fun j u hj => Ext.load hx (HS1.out j u hj)) Try.underlying31 rfl hi1, ?_⟩
          simp only [Act.put, List.setIfInBounds_toArray, List.set_cons_zero, List.set_cons_succ]
          refine rg_take 11 rfl (by kernel_rfl) (by kernel_rfl) (by kernel_rfl) (fun _ _ _ _ h => h) (by rfl) ⟨_, fun w' hx => by (go_simp <;> with_reducible rfl), ?_⟩
          simp only [Act.put, List.setIfInBounds_toArray, List.set_cons_zero, List.set_cons_succ]
          refine rg_take 12 rfl (by kernel_rfl) (by kernel_rfl) (by kernel_rfl) (fun _ _ _ _ h => h) (by rfl) ⟨_, fun w' hx => by (go_simp <;> with_reducible rfl), ?_⟩
          simp only [Act.put, List.setIfInBounds_toArray, List.set_cons_zero, List.set_cons_succ]
          refine rg_take 13 rfl (by kernel_rfl) (by kernel_rfl) (by kernel_rfl) (fun _ _ _ _ h => h) (by rfl) ⟨_, fun w' hx => by (go_simp <;> with_reducible rfl), ?_⟩   -- t39 := indexAddr 27 t37 t38
          simp only [Act.put, List.setIfInBounds_toArray, List.set_cons_zero, List.set_cons_succ]
          refine rg_take 14 rfl (by kernel_rfl) (by kernel_rfl) (by kernel_rfl) (fun _ _ _ _ h => h) (by rfl) ⟨_, fun w' hx => by (go_simp <;> with_reducible rfl), ?_⟩   -- t40 := fieldAddr 33 t39 3
          simp only [Act.put, List.setIfInBounds_toArray, List.set_cons_zero, List.set_cons_succ]
          refine rg_take 15 rfl (by kernel_rfl) (by kernel_rfl) (by kernel_rfl) (fun _ _ _ _ h => h) (by rfl) ⟨.agg (bvs p.x.sum).toArray, fun w' hx => ex_load_cells 31 _ rfl _ rfl (bvs p.x.sum).toArray _ (fun j u hj => Ext.load hx (HS2.out j u hj)) Try.underlying31 rfl hi2, ?_⟩
          simp only [Act.put, List.setIfInBounds_toArray, List.set_cons_zero, List.set_cons_succ]
          refine rg_take 16 rfl (by kernel_rfl) (by kernel_rfl) (by kernel_rfl) (fun _ _ _ _ h => h) (by rfl) ⟨.bool true, fun w' hx => by (have hq := eqArr10 m.x.sum p.x.sum w' hms hps; rw [hsm] at hq; go_simp <;> with_reducible rfl), ?_⟩
          simp only [Act.put, List.setIfInBounds_toArray, List.set_cons_zero, List.set_cons_succ]
          refine rg_take 17 rfl (by kernel_rfl) (by kernel_rfl) (by kernel_rfl) (fun _ _ _ _ h => h) (by rfl) ⟨_, fun w' hx => by (go_simp <;> with_reducible rfl), ?_⟩
          simp only [Act.put, List.setIfInBounds_toArray, List.set_cons_zero, List.set_cons_succ]
          refine rg_done (by kernel_rfl) ?_
          clear hsm
          go_wp2_with (at_builtin; refine wpList_app rfl (.tmp 44) (.tmp 46) 35 rfl elemI w.heap.size A' e.length c' (ivs e) rfl _ 1 1 [.int .i64 (k : Int)] rfl (e.length + 1) rfl (ivs (e ++ [k])) (by simp [ivs]) hown4 HRQ.out (by simp [Value.oneCell']) (by omega) (by omega) hsz4 ?_; intro A5 c5 w5 ho5 hg5 hr5)
          have hdf := Hdf.out
          go_roundw
          case rel =>
            have hx5 : Ext w w5 := below_app hx4 hown4 hg5 hx4.size
            have hs : E (k + 1) = e ++ [k] := by rw [Hs.out, hdf]; rfl
            exact ⟨k + 1, A5, c5, by omega, by go_num, by rw [hs, List.length_append]; rfl, by rw [hs, List.length_append]; exact ho5, hx5⟩
          case measure => simp [intOf]; omega

        | true =>
          have hdf : Spl.diffs (l.map EnV.x) p.x = false := by unfold Spl.diffs; rw [← Hmx.out, hcnt, hsm]; rfl
          have Hdf := Lib.hid hdf
          clear hcnt hdf heq
          go_wp2_with fail
          refine rg_start (by kernel_rfl) ?_
          refine rg_take 0 rfl (by kernel_rfl) (by kernel_rfl) (by kernel_rfl) (fun _ _ _ _ h => h) (by rfl) ⟨_, fun w' hx => by (go_simp <;> with_reducible rfl), ?_⟩   -- t26 := fieldAddr 33 t7 2
          simp only [Act.put, List.setIfInBounds_toArray, List.set_cons_zero, List.set_cons_succ]
          refine rg_take 1 rfl (by kernel_rfl) (by kernel_rfl) (by kernel_rfl) (fun _ _ _ _ h => h) (by rfl) ⟨_, fun w' hx => by have hcx := hx.load c1; (go_simp <;> with_reducible rfl), ?_⟩
          simp only [Act.put, List.setIfInBounds_toArray, List.set_cons_zero, List.set_cons_succ]
          refine rg_take 2 rfl (by kernel_rfl) (by kernel_rfl) (by kernel_rfl) (fun _ _ _ _ h => h) (by rfl) ⟨_, fun w' hx => by (go_simp <;> with_reducible rfl), ?_⟩
          simp only [Act.put, List.setIfInBounds_toArray, List.set_cons_zero, List.set_cons_succ]
          refine rg_take 3 rfl (by kernel_rfl) (by kernel_rfl) (by kernel_rfl) (fun _ _ _ _ h => h) (by rfl) ⟨_, fun w' hx => by (go_simp <;> with_reducible rfl), ?_⟩
          simp only [Act.put, List.setIfInBounds_toArray, List.set_cons_zero, List.set_cons_succ]
          refine rg_take 4 rfl (by kernel_rfl) (by kernel_rfl) (by kernel_rfl) (fun _ _ _ _ h => h) (by rfl) ⟨_, fun w' hx => by (go_simp <;> with_reducible rfl), ?_⟩   -- t30 := indexAddr 27 t28 t29
          simp only [Act.put, List.setIfInBounds_toArray, List.set_cons_zero, List.set_cons_succ]
          refine rg_take 5 rfl (by kernel_rfl) (by kernel_rfl) (by kernel_rfl) (fun _ _ _ _ h => h) (by rfl) ⟨_, fun w' hx => by (go_simp <;> with_reducible rfl), ?_⟩   -- t31 := fieldAddr 33 t30 2
          simp only [Act.put, List.setIfInBounds_toArray, List.set_cons_zero, List.set_cons_succ]
          refine rg_take 6 rfl (by kernel_rfl) (by kernel_rfl) (by kernel_rfl) (fun _ _ _ _ h => h) (by rfl) ⟨_, fun w' hx => by have hcx := hx.load c2; (go_simp <;> with_reducible rfl), ?_⟩
          simp only [Act.put, List.setIfInBounds_toArray, List.set_cons_zero, List.set_cons_succ]
          refine rg_take 7 rfl (by kernel_rfl) (by kernel_rfl) (by kernel_rfl) (fun _ _ _ _ h => h) (by rfl) ⟨.bool false, fun w' hx => by (go_simp <;> with_reducible rfl), ?_⟩
          simp only [Act.put, List.setIfInBounds_toArray, List.set_cons_zero, List.set_cons_succ]
          refine rg_take 8 rfl (by kernel_rfl) (by kernel_rfl) (by kernel_rfl) (fun _ _ _ _ h => h) (by rfl) ⟨_, fun w' hx => by (go_simp <;> with_reducible rfl), ?_⟩
          simp only [Act.put, List.setIfInBounds_toArray, List.set_cons_zero, List.set_cons_succ]
          refine rg_take 9 rfl (by kernel_rfl) (by kernel_rfl) (by kernel_rfl) (fun _ _ _ _ h => h) (by rfl) ⟨_, fun w' hx => by (go_simp <;> with_reducible rfl), ?_⟩   -- t35 := fieldAddr 33 t7 3
          simp only [Act.put, List.setIfInBounds_toArray, List.set_cons_zero, List.set_cons_succ]
          refine rg_take 10 rfl (by kernel_rfl) (by kernel_rfl) (by kernel_rfl) (fun _ _ _ _ h => h) (by rfl) ⟨.agg (bvs m.x.sum).toArray, fun w' hx => ex_load_cells 31 _ rfl _ rfl (bvs m.x.sum).toArray _ (fun j u hj => Ext.load hx (HS1.out j u hj)) Try.underlying31 rfl hi1, ?_⟩
          simp only [Act.put, List.setIfInBounds_toArray, List.set_cons_zero, List.set_cons_succ]
          refine rg_take 11 rfl (by kernel_rfl) (by kernel_rfl) (by kernel_rfl) (fun _ _ _ _ h => h) (by rfl) ⟨_, fun w' hx => by (go_simp <;> with_reducible rfl), ?_⟩
          simp only [Act.put, List.setIfInBounds_toArray, List.set_cons_zero, List.set_cons_succ]
          refine rg_take 12 rfl (by kernel_rfl) (by kernel_rfl) (by kernel_rfl) (fun _ _ _ _ h => h) (by rfl) ⟨_, fun w' hx => by (go_simp <;> with_reducible rfl), ?_⟩
          simp only [Act.put, List.setIfInBounds_toArray, List.set_cons_zero, List.set_cons_succ]
          refine rg_take 13 rfl (by kernel_rfl) (by kernel_rfl) (by kernel_rfl) (fun _ _ _ _ h => h) (by rfl) ⟨_, fun w' hx => by (go_simp <;> with_reducible rfl), ?_⟩   -- t39 := indexAddr 27 t37 t38
          simp only [Act.put, List.setIfInBounds_toArray, List.set_cons_zero, List.set_cons_succ]
          refine rg_take 14 rfl (by kernel_rfl) (by kernel_rfl) (by kernel_rfl) (fun _ _ _ _ h => h) (by rfl) ⟨_, fun w' hx => by (go_simp <;> with_reducible rfl), ?_⟩   -- t40 := fieldAddr 33 t39 3
          simp only [Act.put, List.setIfInBounds_toArray, List.set_cons_zero, List.set_cons_succ]
          refine rg_take 15 rfl (by kernel_rfl) (by kernel_rfl) (by kernel_rfl) (fun _ _ _ _ h => h) (by rfl) ⟨.agg (bvs p.x.sum).toArray, fun w' hx => ex_load_cells 31 _ rfl _ rfl (bvs p.x.sum).toArray _ (fun j u hj => Ext.load hx (HS2.out j u hj)) Try.underlying31 rfl hi2, ?_⟩
          simp only [Act.put, List.setIfInBounds_toArray, List.set_cons_zero, List.set_cons_succ]
          refine rg_take 16 rfl (by kernel_rfl) (by kernel_rfl) (by kernel_rfl) (fun _ _ _ _ h => h) (by rfl) ⟨.bool false, fun w' hx => by (have hq := eqArr10 m.x.sum p.x.sum w' hms hps; rw [hsm] at hq; go_simp <;> with_reducible rfl), ?_⟩
          simp only [Act.put, List.setIfInBounds_toArray, List.set_cons_zero, List.set_cons_succ]
          refine rg_take 17 rfl (by kernel_rfl) (by kernel_rfl) (by kernel_rfl) (fun _ _ _ _ h => h) (by rfl) ⟨_, fun w' hx => by (go_simp <;> with_reducible rfl), ?_⟩
          simp only [Act.put, List.setIfInBounds_toArray, List.set_cons_zero, List.set_cons_succ]
          refine rg_done (by kernel_rfl) ?_
          clear hsm
          go_wp2_with fail
          have hdf := Hdf.out
          go_roundw
          case rel =>
            have hs : E (k + 1) = e := by rw [Hs.out, hdf]; simp
            exact ⟨k + 1, A', c', by omega, by go_num, by rw [hs], by rw [hs]; exact hown3.below (Ext.drew W3), hxd⟩
          case measure => simp [intOf]; omega
    · have hkT : k = T.length := by omega
      subst hkT
      go_wp2
      go_ret
      exact ⟨A', c', rfl, hown.rd, hbw⟩
end Go.Proofs.Ytiiekdhlcmaabaa
