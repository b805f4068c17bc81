
/- Contract: which parts differ (split.Differ). Printed by wip/tools/gen_spl18.py. -/

import Derived.Test.YtiiekdhlcmaabaaSplInts

namespace Go.Proofs.Ytiiekdhlcmaabaa

open Go.RowKit

attribute [local go_sem] Oper.semAt_some

theorem elemI : ElemT Try.prog 35 3 1 8 := ElemT.mk' (z := .int .i64 0) Try.underlying35 (by kernel_rfl) rfl (by omega)
def ivs (l : List Nat) : List Value := l.map fun (n : Nat) => Value.int .i64 (n : Int)
theorem ivs_one (l : List Nat) : ∀ u ∈ ivs l, u.oneCell' = true := by
  intro u hu
  obtain ⟨n, _, rfl⟩ := List.mem_map.1 hu
  rfl
set_option maxRecDepth 100000 in
set_option maxHeartbeats 2000000 in
theorem differ_any (A B : Option Addr) (l : List EnV) (T : List PtV) (c d : Nat) (w : World) (hl : RdE w A l) (hf : Fit l) (hT : RdP w B T) (hc : T.length ≤ 1000000) :
    Calls Try.prog 15 #[.slice A l.length c, .slice B T.length d] w fun e' w' => ∃ A' c', e' = .returned (.slice A' (Spl.differ (l.map EnV.x) (T.map PtV.x)).length c') ∧ RdI w' A' (Spl.differ (l.map EnV.x) (T.map PtV.x)) ∧ Below w.heap.size w w' := by
  have hdl := Spl.differ_len (l.map EnV.x) (T.map PtV.x)
  have hds : ∀ k (h : k < T.length), Spl.differK (l.map EnV.x) (T.map PtV.x) (k + 1) = Spl.differK (l.map EnV.x) (T.map PtV.x) k ++ if Spl.diffs (l.map EnV.x) T[k].x then [k] else [] := fun k h => by
    rw [Spl.differ_snoc _ _ _ (by simpa using h)]
    simp
  rw [show Spl.differ (l.map EnV.x) (T.map PtV.x) = Spl.differK (l.map EnV.x) (T.map PtV.x) T.length by unfold Spl.differ; rw [List.length_map]]
  obtain ⟨E, hE⟩ : ∃ E : Nat → List Nat, E = Spl.differK (l.map EnV.x) (T.map PtV.x) := ⟨_, rfl⟩
  rw [← hE] at hdl hds ⊢
  have hE0 : E 0 = [] := by rw [hE]; rfl
  have Hdl := Lib.hid hdl
  have Hds := Lib.hid hds
  have HE0 := Lib.hid hE0
  clear hdl hds hE hE0
  go_enter Try.func15, Try.ntmps15
  go_wp2
  go_loopw [4, 10] (fun v i wr => ∃ (k : Nat) (A' : Option Addr) (c' : Nat), k ≤ T.length ∧ i = .int .i64 k ∧ v = .slice A' (E k).length c' ∧ Own wr w.heap.size 3 1 A' (E k).length c' (ivs (E k)) ∧ Below w.heap.size w wr) (fun _ i _ => T.length - (intOf i).toNat)
  case atStart => exact ⟨0, none, 0, by omega, rfl, by rw [HE0.out]; rfl, by rw [HE0.out]; exact Own.none_ _ _ _ _ _, Below.refl _ _⟩
  case round =>
    obtain ⟨k, A', c', hk, rfl, rfl, hown, hbw⟩ := hrel
    by_cases h : k < T.length
    · obtain ⟨ad, rfl, hcx, hin⟩ := (hT.below hbw).at_ h
      have hs := Hds.out k h
      have hel := Hdl.out k
      obtain ⟨p, hp⟩ : ∃ p, p = T[k] := ⟨_, rfl⟩
      obtain ⟨e, he⟩ : ∃ e, e = E k := ⟨_, rfl⟩
      rw [← hp] at hs hcx hin
      rw [← he] at hs hown hel ⊢
      have hps := hin.sum
      have Hs := Lib.hid hs
      have Hcx := Lib.hid hcx
      have ik : (0 : Int) ≤ (k : Int) := by omega
      have ik2 : (k : Int) < (T.length : Int) := by omega
      clear hs hcx hp he
      have hx1 := Ext.alloc wr (.cells p.cells 33)
      have g1 := heap_alloc_new wr (.cells p.cells 33)
      have cp0 : (wr.alloc (.cells p.cells 33)).cell? ⟨wr.heap.size, 0, none⟩ = some (.slice p.la p.x.lo.length p.lc) := (cell_of_row _ _ 0 _ _ _ g1).trans (pc0 p)
      have cp1 : (wr.alloc (.cells p.cells 33)).cell? ⟨wr.heap.size, 1, none⟩ = some (.slice p.ha p.x.hi.length p.hc) := (cell_of_row _ _ 1 _ _ _ g1).trans (pc1 p)
      have hP := partOf_any A l c p.la p.ha p.x.lo p.x.hi p.lc p.hc _ ((hl.below hbw).below hx1) hf (hin.lr.below hx1) (hin.hr.below hx1) hin.lcap hin.hcap
      have HP := Lib.hid hP
      clear hP
      go_wp2_with (first | (have hcx := Hcx.out; refine wpList_load_cells rfl 33 (.tmp 13) rfl _ rfl p.cells _ hcx Try.underlying33 rfl (pinfo hps) ?_; clear hcx) | (refine wpList_store_row rfl 33 (.tmp 6) (.tmp 14) rfl wr.heap.size p.cells rfl rfl 33 _ (heap_alloc_new wr _) (pinfo hps) (by rw [psize hps]; rfl) (pone p) ?_; rw [setRow_alloc]))
      refine HP.out.mono ?_
      clear HP cp0 cp1
      rintro e' w2 ⟨m, rfl, hmx, hm, hb2⟩
      have hms := hm.sum
      have Hmx := Lib.hid hmx
      have hx2 := Ext.alloc w2 (.cells m.cells 33)
      have g2 := heap_alloc_new w2 (.cells m.cells 33)
      have g1' := (hx2.block _ (Nat.lt_of_lt_of_le (lt_of_heap g1) hb2.size)).trans ((hb2.block _ (lt_of_heap g1)).trans g1)
      have hxw : Ext wr (w2.alloc (.cells m.cells 33)) := Ext.tr hx1 (Ext.tr hb2 hx2)
      have hown3 := hown.below hxw
      have hx3 : Ext w (w2.alloc (.cells m.cells 33)) := hbw.trans (hxw.mono hbw.size)
      have c1 : (w2.alloc (.cells m.cells 33)).cell? ⟨w2.heap.size, 2, none⟩ = some (.int .i64 m.x.count) := (cell_of_row _ _ 2 _ _ _ g2).trans (pc2 m)
      have c2 : (w2.alloc (.cells m.cells 33)).cell? ⟨wr.heap.size, 2, none⟩ = some (.int .i64 p.x.count) := (cell_of_row _ _ 2 _ _ _ g1').trans (pc2 p)
      have hs1 : ∀ i u, ((bvs m.x.sum).toArray)[i]? = some u → (w2.alloc (.cells m.cells 33)).cell? ((⟨w2.heap.size, 3, none⟩ : Addr).add i) = some u := fun i u hi => by
        rw [Addr.add_lit, cell_of_row _ _ _ _ _ _ g2, pc3]; exact hi
      have hs2 : ∀ i u, ((bvs p.x.sum).toArray)[i]? = some u → (w2.alloc (.cells m.cells 33)).cell? ((⟨wr.heap.size, 3, none⟩ : Addr).add i) = some u := fun i u hi => by
        rw [Addr.add_lit, cell_of_row _ _ _ _ _ _ g1', pc3]; exact hi
      have HS1 := Lib.hid hs1
      have HS2 := Lib.hid hs2
      have hrun := eqArr10 m.x.sum p.x.sum (w2.alloc (.cells m.cells 33)) hm.sum hin.sum
      have hi1 := sInfo _ hm.sum
      have hi2 := sInfo _ hin.sum
      have hx4 : Ext w ((w2.alloc (.cells m.cells 33)).alloc (.cells #[.int .i64 (k : Int)] 3)) := Ext.tr hx3 (Ext.alloc _ _)
      have hown4 : Own ((w2.alloc (.cells m.cells 33)).alloc (.cells #[.int .i64 (k : Int)] 3)) w.heap.size 3 1 A' e.length c' (ivs e) := hown3.below (Ext.alloc _ _)
      have hrQ : Rd ((w2.alloc (.cells m.cells 33)).alloc (.cells #[.int .i64 (k : Int)] 3)) 1 (some ⟨w2.heap.size + 1, 0, none⟩) 1 [.int .i64 (k : Int)] := ⟨rfl, fun _ => ⟨_, rfl, fun j u hj => by
        rw [Addr.add_lit, cell_of_row _ _ _ _ _ _ (by have := heap_alloc_new (w2.alloc (.cells m.cells 33)) (.cells #[.int .i64 (k : Int)] 3); rwa [World.size_alloc] at this), Nat.zero_add]; simpa using hj⟩⟩
      have HRQ := Lib.hid hrQ
      have hsz4 := hx4.size
      clear hown hxw hs1 hs2 hmx g1 g2 g1' hx1 hx2 hb2 hrQ hk
      simp only [PtV.val]
      cases hcnt : (m.x.count == p.x.count) with
      | false =>
        have hdf : Spl.diffs (l.map EnV.x) p.x = true := by unfold Spl.diffs; rw [← Hmx.out, hcnt]; rfl
        have hne : ¬ m.x.count = p.x.count := by simpa using hcnt
        have Hdf := Lib.hid hdf
        clear hcnt hdf hrun
        go_wp2_with (first | (refine wpList_store_row rfl 33 (.tmp 7) (.tmp 20) rfl w2.heap.size m.cells rfl rfl 33 _ (heap_alloc_new w2 _) (pinfo hms) (by rw [psize hms]; rfl) (pone m) ?_; rw [setRow_alloc]) | (at_builtin; refine wpList_app rfl (.tmp 33) (.tmp 35) 35 rfl elemI w.heap.size A' e.length c' (ivs e) rfl _ 1 1 [.int .i64 (k : Int)] rfl (e.length + 1) rfl (ivs (e ++ [k])) (by simp [ivs]) hown4 HRQ.out (by simp [Value.oneCell']) (by omega) (by omega) hsz4 ?_; intro A5 c5 w5 ho5 hg5 hr5))
        have hdf := Hdf.out
        go_roundw
        case rel =>
          have hx5 : Ext w w5 := below_app hx4 hown4 hg5 hx4.size
          have hs : E (k + 1) = e ++ [k] := by rw [Hs.out, hdf]; rfl
          exact ⟨k + 1, A5, c5, by omega, by go_num, by rw [hs, List.length_append]; rfl, by rw [hs, List.length_append]; exact ho5, hx5⟩
        case measure => simp [intOf]; omega

      | true =>
        have heq : m.x.count = p.x.count := by simpa using hcnt
        rw [heq] at c1
        cases hsm : (m.x.sum == p.x.sum) with
        | false =>
          have hdf : Spl.diffs (l.map EnV.x) p.x = true := by unfold Spl.diffs; rw [← Hmx.out, hcnt, hsm]; rfl
          rw [hsm] at hrun
          have Hdf := Lib.hid hdf
          clear hcnt hdf hsm heq
          go_wp2_with (first | (refine wpList_store_row rfl 33 (.tmp 7) (.tmp 20) rfl w2.heap.size m.cells rfl rfl 33 _ (heap_alloc_new w2 _) (pinfo hms) (by rw [psize hms]; rfl) (pone m) ?_; rw [setRow_alloc]) | (have hcx := HS1.out; refine wpList_load_cells rfl 31 (.tmp 27) rfl _ rfl (bvs m.x.sum).toArray _ hcx Try.underlying31 rfl hi1 ?_; clear hcx) | (have hcx := HS2.out; refine wpList_load_cells rfl 31 (.tmp 29) rfl _ rfl (bvs p.x.sum).toArray _ hcx Try.underlying31 rfl hi2 ?_; clear hcx) | (at_builtin; refine wpList_app rfl (.tmp 33) (.tmp 35) 35 rfl elemI w.heap.size A' e.length c' (ivs e) rfl _ 1 1 [.int .i64 (k : Int)] rfl (e.length + 1) rfl (ivs (e ++ [k])) (by simp [ivs]) hown4 HRQ.out (by simp [Value.oneCell']) (by omega) (by omega) hsz4 ?_; intro A5 c5 w5 ho5 hg5 hr5))
          have hdf := Hdf.out
          go_roundw
          case rel =>
            have hx5 : Ext w w5 := below_app hx4 hown4 hg5 hx4.size
            have hs : E (k + 1) = e ++ [k] := by rw [Hs.out, hdf]; rfl
            exact ⟨k + 1, A5, c5, by omega, by go_num, by rw [hs, List.length_append]; rfl, by rw [hs, List.length_append]; exact ho5, hx5⟩
          case measure => simp [intOf]; omega

        | true =>
          have hdf : Spl.diffs (l.map EnV.x) p.x = false := by unfold Spl.diffs; rw [← Hmx.out, hcnt, hsm]; rfl
          rw [hsm] at hrun
          have Hdf := Lib.hid hdf
          clear hcnt hdf hsm heq
          go_wp2_with (first | (refine wpList_store_row rfl 33 (.tmp 7) (.tmp 20) rfl w2.heap.size m.cells rfl rfl 33 _ (heap_alloc_new w2 _) (pinfo hms) (by rw [psize hms]; rfl) (pone m) ?_; rw [setRow_alloc]) | (have hcx := HS1.out; refine wpList_load_cells rfl 31 (.tmp 27) rfl _ rfl (bvs m.x.sum).toArray _ hcx Try.underlying31 rfl hi1 ?_; clear hcx) | (have hcx := HS2.out; refine wpList_load_cells rfl 31 (.tmp 29) rfl _ rfl (bvs p.x.sum).toArray _ hcx Try.underlying31 rfl hi2 ?_; clear hcx))
          have hdf := Hdf.out
          go_roundw
          case rel =>
            have hs : E (k + 1) = e := by rw [Hs.out, hdf]; simp
            exact ⟨k + 1, A', c', by omega, by go_num, by rw [hs], by rw [hs]; exact hown3, hx3⟩
          case measure => simp [intOf]; omega
    · have hkT : k = T.length := by omega
      subst hkT
      go_wp2
      go_ret
      exact ⟨A', c', rfl, hown.rd, hbw⟩
end Go.Proofs.Ytiiekdhlcmaabaa
