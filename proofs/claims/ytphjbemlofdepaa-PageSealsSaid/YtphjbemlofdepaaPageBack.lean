/- The law on sealing and opening again: the walk returns true and changes nothing that was there. Written by wip/tools/gen_back05.py. -/
import Derived.Test.YtphjbemlofdepaaPageTurned
namespace Go.Proofs.Ytphjbemlofdepaa
open Go.RowKit
attribute [local go_sem] Oper.semAt_some

theorem ex_load_row {P : Program} {o : Oper} {a : Act} {w : World} (ty : TypeId) (x : Operand) (ho : o.op = .load ty x)
    (g : Nat) (hx : a.eval x = .pointer (some ⟨g, 0, none⟩)) (t : TypeId) (cs : Array Value) (fr : Nat × Nat) (d : TypeDesc) (hg : w.heap[g]? = some (.cells cs t fr))
    (hu : P.underlying ty = some d) (hd : (match d with | .struct _ | .array _ _ => true | _ => false) = true) (hi : (P.info? ty).map (·.size) = some cs.size) :
    (execOp a.eval o).run P w = .ok (.value (.agg cs)) w := by
  unfold execOp
  simp only [ho, hx, Instr.loadAt, Instr.sureAddr, Sem.run_bind, Sem.run_pure, Result.andThen_ok, run_loadVar_row w g t ty cs fr d hg hu hd hi]

set_option maxRecDepth 100000 in
set_option maxHeartbeats 2000000 in
theorem walkPageBack (w : World) (p : Pg) (hp : p.In w) (q : Pg) (hq : q.In w) :
    Calls Try.prog 4 #[p.val, q.val] w fun e w' => e = .returned (.bool true) ∧ Below w.heap.size w w' := by
  show Calls Try.prog 4 #[.agg #[.int .i64 p.kind, .int .u64 (p.lsn : Int), .slice p.a p.body.length p.c], .agg #[.int .i64 q.kind, .int .u64 (q.lsn : Int), .slice q.a q.body.length q.c]] w _
  obtain ⟨W0, hW0⟩ : ∃ W0, W0 = w.alloc (.cells #[.int .i64 p.kind, .int .u64 (p.lsn : Int), .slice p.a p.body.length p.c] 25) := ⟨_, rfl⟩
  have hs0 : W0.heap.size = w.heap.size + 1 := by rw [hW0]; simp
  obtain ⟨W1, hW1⟩ : ∃ W1, W1 = W0.alloc (.cells #[.int .i64 q.kind, .int .u64 (q.lsn : Int), .slice q.a q.body.length q.c] 25) := ⟨_, rfl⟩
  have hgp0 : W0.heap[w.heap.size]? = some (.cells p.cells 25 (0, 0)) := by rw [hW0]; exact heap_alloc_new w _
  have hB0 : Ext w W0 := by rw [hW0]; exact Ext.alloc w _
  have hB01 : Ext W0 W1 := by rw [hW1]; exact Ext.alloc W0 _
  have hB1 := Ext.tr hB0 hB01
  have hgp : W1.heap[w.heap.size]? = some (.cells p.cells 25 (0, 0)) := (hB01.block _ (lt_of_heap hgp0)).trans hgp0
  have hgq : W1.heap[w.heap.size + 1]? = some (.cells q.cells 25 (0, 0)) := by rw [hW1, ← hs0]; exact heap_alloc_new W0 _
  have hrp := hp.rd.below hB1
  have hrq := hq.rd.below hB1
  have live : Hid (Calls Try.prog 6 #[] W1 fun e w' => e = .returned (.bool true) ∧ Below W1.heap.size W1 w') := live05 W1
  have HW1 : Hid (W1 = (w.alloc (.cells #[.int .i64 p.kind, .int .u64 (p.lsn : Int), .slice p.a p.body.length p.c] 25)).alloc (.cells #[.int .i64 q.kind, .int .u64 (q.lsn : Int), .slice q.a q.body.length q.c] 25)) := by show _ = _; rw [hW1, hW0]
  clear hW0 hW1 hs0 hB0 hB01 hgp0
  by_cases h1 : p.body.length ≤ 2000 ∧ q.body.length ≤ 2000
  · obtain ⟨h1, h2⟩ := h1
    have Hsp := Lib.hid (seal_any p W1 hp.lsn hrp (by omega))
    have Hsq := fun W (h : RdB W q.a q.body) => seal_any q W hq.lsn h (by omega)
    have Hlp := Lib.hid hp.lsn
    have Hlq := Lib.hid hq.lsn
    by_cases h5 : p.seal_.2 = 0
    · have hl := Pg.seal_len h5
      have H5 := Lib.hid h5
      have Hl := Lib.hid hl
      have hth := Pg.there Hlp.out h5
      have Hth1 := Lib.hid hth.1
      have Hth2 := Lib.hid hth.2
      clear hth h5 hl
      go_enter Try.func4, Try.ntmps4
      go_wp2_with fail
      rw [← HW1.out]
      refine Hsp.out.mono ?_
      rw [H5.out, Hl.out]
      rintro e w1 ⟨A1, c1, rfl, ho1, hb1⟩
      have hgp1 := (hb1.block _ (lt_of_heap hgp)).trans hgp
      have hgq1 := (hb1.block _ (lt_of_heap hgq)).trans hgq
      have hrq1 := hrq.below hb1
      have hrp1 := hrp.below hb1
      obtain ⟨hc0, hc1, hc2⟩ := page_cells hgq1
      clear hgp hgq hrp hrq live
      go_wp2_with fail
      refine (Hsq w1 hrq1).mono ?_
      rintro e w2 ⟨A2, c2, rfl, ho2, hb2⟩
      have hgp2 := (hb2.block _ (lt_of_heap hgp1)).trans hgp1
      have hgq2 := (hb2.block _ (lt_of_heap hgq1)).trans hgq1
      have hrq2 := hrq1.below hb2
      have hrp2 := hrp1.below hb2
      have hE2 := Ext.tr hB1 (ext_trans hb1 hb2)
      clear hc0 hc1 hc2 hgp1 hgq1 hrq1 hrp1
      go_wp2_with fail
      refine (num05 _ _).mono ?_
      rintro e w' ⟨rfl, rfl⟩
      have ho1' := ho1.below hb2
      have hn1 := Lib.hid ho1.nc
      clear ho1 hb1
      go_wp2_with fail
      have H9 := open_any A1 p.seal_.1 c1 w2 ho1'.rd' (by rw [Hl.out]; exact hn1.out)
      rw [Hth1.out, Hth2.out, Hl.out] at H9
      refine H9.mono ?_
      rintro e w3 ⟨⟨qk, ql, qa, qd, qc⟩, rfl, hqis, hr3, hb3⟩
      have Hst : Hid (p.same ⟨qk, ql, qa, qd, qc⟩ = true) := Pg.same_is hqis
      clear H9 hqis
      simp only [Pg.val]
      go_wp2_with fail
      refine (num05 _ _).mono ?_
      rintro e w' ⟨rfl, rfl⟩
      obtain ⟨W4, hW4⟩ : ∃ W4, W4 = w3.alloc (.cells #[.int .i64 qk, .int .u64 (ql : Int), .slice qa qd.length qc] 25) := ⟨_, rfl⟩
      have hB4 : Ext w3 W4 := by rw [hW4]; exact Ext.alloc w3 _
      have hg4 : W4.heap[w3.heap.size]? = some (.cells (Pg.mk qk ql qa qd qc).cells 25 (0, 0)) := by rw [hW4]; exact heap_alloc_new w3 _
      have hE24 := Ext.tr hb3 hB4
      have hgp4 := (hE24.block _ (lt_of_heap hgp2)).trans hgp2
      have hgq4 := (hE24.block _ (lt_of_heap hgq2)).trans hgq2
      have hrq4 := hrq2.below hE24
      have hrp4 := hrp2.below hE24
      have hr4 := hr3.below hB4
      have ho1x := ho1'.below hE24
      have ho2x := ho2.below hE24
      have hE4 := Ext.tr hE2 hE24
      obtain ⟨hc0, hc1, hc2⟩ := page_cells hgp4
      obtain ⟨hd0, hd1, hd2⟩ := page_cells hg4
      simp only at hd0 hd1 hd2
      rw [← hW4]
      clear hW4 hgp2 hgq2 hrq2 hrp2 hr3 ho1' ho2 hE2 hE24 hb2 hb3 hB4
      go_wp2_with fail
      have hS := same_any p ⟨qk, ql, qa, qd, qc⟩ W4 hrp4 hr4
      rw [Hst.out] at hS
      refine hS.mono ?_
      rintro e w5 ⟨rfl, hb5⟩
      have hgp5 := (hb5.block _ (lt_of_heap hgp4)).trans hgp4
      have hgq5 := (hb5.block _ (lt_of_heap hgq4)).trans hgq4
      have hrq5 := hrq4.below hb5
      have hrp5 := hrp4.below hb5
      have ho15 := ho1x.below hb5
      have ho25 := ho2x.below hb5
      have hE5 := Ext.tr hE4 hb5
      clear hS hc0 hc1 hc2 hd0 hd1 hd2 hgp4 hgq4 hrq4 hrp4 hr4 ho1x ho2x hE4 hb5 hg4
      have Hd5 := Ext.drew w5
      by_cases hq0 : q.seal_.2 = 0
      · have Hinj : Hid ((p.seal_.1 == q.seal_.1) = p.same q) := Pg.inj Hlp.out Hlq.out H5.out hq0
        have Hbe := Lib.hid (bytes_eq p.seal_.1 q.seal_.1)
        have Hql := Lib.hid (Pg.seal_len hq0)
        rw [Hql.out] at ho25
        rw [hq0, Hql.out]
        clear hq0
        go_wp2_with fail
        refine rg_start (by kernel_rfl) ?_
        refine rg_take 0 rfl (by kernel_rfl) (by kernel_rfl) (by kernel_rfl) (fun _ _ _ _ h => h) (by rfl) ⟨_, fun w' hx => by (go_simp <;> with_reducible rfl), ?_⟩
        simp only [Act.put, List.setIfInBounds_toArray, List.set_cons_zero, List.set_cons_succ]
        refine rg_call 1 (num05 0 _) rfl (by kernel_rfl) (by rfl) (by go_simp) ?_
        rintro e w' ⟨rfl, rfl⟩
        refine ⟨_, rfl, Ext.refl _, ?_⟩
        simp only [Act.put, List.setIfInBounds_toArray, List.set_cons_zero, List.set_cons_succ]
        refine rg_take 2 rfl (by kernel_rfl) (by kernel_rfl) (by kernel_rfl) (fun _ _ _ _ h => h) (by rfl) ⟨_, fun w' hx => by (go_simp <;> with_reducible rfl), ?_⟩   -- t57 := binOp neq 3 t56 0:i64 3
        simp only [Act.put, List.setIfInBounds_toArray, List.set_cons_zero, List.set_cons_succ]
        refine rg_take 3 rfl (by kernel_rfl) (by kernel_rfl) (by kernel_rfl) (fun _ _ _ _ h => h) (by rfl) ⟨_, fun w' hx => by (go_simp <;> with_reducible rfl), ?_⟩
        simp only [Act.put, List.setIfInBounds_toArray, List.set_cons_zero, List.set_cons_succ]
        refine rg_take 4 rfl (by kernel_rfl) (by kernel_rfl) (by kernel_rfl) (fun _ _ _ _ h => h) (by rfl) ⟨_, fun w' hx => by (go_simp <;> with_reducible rfl), ?_⟩
        simp only [Act.put, List.setIfInBounds_toArray, List.set_cons_zero, List.set_cons_succ]
        refine rg_take 5 rfl (by kernel_rfl) (by kernel_rfl) (by kernel_rfl) (fun _ _ _ _ h => h) (by rfl) ⟨_, fun w' hx => ex_convert rfl rfl (run_str w' _ _ 5 A1 p.seal_.1 c1 Try.underlying23 Try.underlying5 Try.underlying9 ((ho15.below Hd5).below hx).rd' _ Hl.out.symm), ?_⟩
        simp only [Act.put, List.setIfInBounds_toArray, List.set_cons_zero, List.set_cons_succ]
        refine rg_take 6 rfl (by kernel_rfl) (by kernel_rfl) (by kernel_rfl) (fun _ _ _ _ h => h) (by rfl) ⟨_, fun w' hx => by (go_simp <;> with_reducible rfl), ?_⟩
        simp only [Act.put, List.setIfInBounds_toArray, List.set_cons_zero, List.set_cons_succ]
        refine rg_take 7 rfl (by kernel_rfl) (by kernel_rfl) (by kernel_rfl) (fun _ _ _ _ h => h) (by rfl) ⟨_, fun w' hx => ex_convert rfl rfl (run_str w' _ _ 5 A2 q.seal_.1 c2 Try.underlying23 Try.underlying5 Try.underlying9 ((ho25.below Hd5).below hx).rd' _ Hql.out.symm), ?_⟩
        simp only [Act.put, List.setIfInBounds_toArray, List.set_cons_zero, List.set_cons_succ]
        refine rg_take 8 rfl (by kernel_rfl) (by kernel_rfl) (by kernel_rfl) (fun _ _ _ _ h => h) (by rfl) ⟨.bool (p.same q), fun w' hx => by (go_simp; first | (rw [Hbe.out, Hinj.out]) | (rw [← Hinj.out, ← Hbe.out])), ?_⟩
        simp only [Act.put, List.setIfInBounds_toArray, List.set_cons_zero, List.set_cons_succ]
        have hgp6 := (Hd5.block _ (lt_of_heap hgp5)).trans hgp5
        have hgq6 := (Hd5.block _ (lt_of_heap hgq5)).trans hgq5
        refine rg_take 9 rfl (by kernel_rfl) (by kernel_rfl) (by kernel_rfl) (fun _ _ _ _ h => h) (by rfl) ⟨p.val, fun w' hx => ex_load_row 25 _ rfl w.heap.size rfl 25 _ (0, 0) _ ((hx.block _ (lt_of_heap hgp6)).trans hgp6) Try.underlying25 rfl (by kernel_rfl), ?_⟩
        simp only [Act.put, List.setIfInBounds_toArray, List.set_cons_zero, List.set_cons_succ]
        refine rg_take 10 rfl (by kernel_rfl) (by kernel_rfl) (by kernel_rfl) (fun _ _ _ _ h => h) (by rfl) ⟨q.val, fun w' hx => ex_load_row 25 _ rfl (w.heap.size + 1) rfl 25 _ (0, 0) _ ((hx.block _ (lt_of_heap hgq6)).trans hgq6) Try.underlying25 rfl (by kernel_rfl), ?_⟩
        simp only [Act.put, List.setIfInBounds_toArray, List.set_cons_zero, List.set_cons_succ]
        refine rg_call 11 (same_any p q _ (hrp5.below Hd5) (hrq5.below Hd5)) rfl (by kernel_rfl) (by rfl) (by go_simp) ?_
        rintro e w7 ⟨rfl, hb7⟩
        refine ⟨_, rfl, hb7, ?_⟩
        simp only [Act.put, List.setIfInBounds_toArray, List.set_cons_zero, List.set_cons_succ]
        refine rg_take 12 rfl (by kernel_rfl) (by kernel_rfl) (by kernel_rfl) (fun _ _ _ _ h => h) (by rfl) ⟨.bool true, fun w' hx => by (go_simp <;> simp), ?_⟩
        simp only [Act.put, List.setIfInBounds_toArray, List.set_cons_zero, List.set_cons_succ]
        refine rg_take 13 rfl (by kernel_rfl) (by kernel_rfl) (by kernel_rfl) (fun _ _ _ _ h => h) (by rfl) ⟨_, fun w' hx => by (go_simp <;> with_reducible rfl), ?_⟩
        simp only [Act.put, List.setIfInBounds_toArray, List.set_cons_zero, List.set_cons_succ]
        refine rg_take 14 rfl (by kernel_rfl) (by kernel_rfl) (by kernel_rfl) (fun _ _ _ _ h => h) (by rfl) ⟨_, fun w' hx => by (go_simp <;> with_reducible rfl), ?_⟩
        simp only [Act.put, List.setIfInBounds_toArray, List.set_cons_zero, List.set_cons_succ]
        refine rg_call 15 (live05 _) rfl (by kernel_rfl) (by rfl) (by go_simp) ?_
        rintro e w8 ⟨rfl, hb8⟩
        refine ⟨_, rfl, hb8, ?_⟩
        simp only [Act.put, List.setIfInBounds_toArray, List.set_cons_zero, List.set_cons_succ]
        refine rg_take 16 rfl (by kernel_rfl) (by kernel_rfl) (by kernel_rfl) (fun _ _ _ _ h => h) (by rfl) ⟨_, fun w' hx => by (go_simp <;> with_reducible rfl), ?_⟩
        simp only [Act.put, List.setIfInBounds_toArray, List.set_cons_zero, List.set_cons_succ]
        refine rg_take 17 rfl (by kernel_rfl) (by kernel_rfl) (by kernel_rfl) (fun _ _ _ _ h => h) (by rfl) ⟨_, fun w' hx => by (go_simp <;> with_reducible rfl), ?_⟩
        simp only [Act.put, List.setIfInBounds_toArray, List.set_cons_zero, List.set_cons_succ]
        refine rg_done (by kernel_rfl) ?_
        go_wp2
        go_ret
        exact ⟨rfl, Ext.tr hE5 (Ext.tr Hd5 (Ext.tr hb7 hb8))⟩
      · have hne : ((q.seal_.2 : Int) != 0) = true := by simp; omega
        clear hq0
        go_wp2_with fail
        refine rg_start (by kernel_rfl) ?_
        refine rg_take 0 rfl (by kernel_rfl) (by kernel_rfl) (by kernel_rfl) (fun _ _ _ _ h => h) (by rfl) ⟨_, fun w' hx => by (go_simp <;> with_reducible rfl), ?_⟩
        simp only [Act.put, List.setIfInBounds_toArray, List.set_cons_zero, List.set_cons_succ]
        refine rg_call 1 (num05 (q.seal_.2 : Int) _) rfl (by kernel_rfl) (by rfl) (by go_simp) ?_
        rintro e w' ⟨rfl, rfl⟩
        refine ⟨_, rfl, Ext.refl _, ?_⟩
        simp only [Act.put, List.setIfInBounds_toArray, List.set_cons_zero, List.set_cons_succ]
        refine rg_take 2 rfl (by kernel_rfl) (by kernel_rfl) (by kernel_rfl) (fun _ _ _ _ h => h) (by rfl) ⟨_, fun w' hx => by (go_simp <;> with_reducible rfl), ?_⟩   -- t57 := binOp neq 3 t56 0:i64 3
        simp only [Act.put, List.setIfInBounds_toArray, List.set_cons_zero, List.set_cons_succ]
        refine rg_take 3 rfl (by kernel_rfl) (by kernel_rfl) (by kernel_rfl) (fun _ _ _ _ h => h) (by rfl) ⟨_, fun w' hx => by (go_simp <;> with_reducible rfl), ?_⟩
        simp only [Act.put, List.setIfInBounds_toArray, List.set_cons_zero, List.set_cons_succ]
        refine rg_skip 4 rfl (by kernel_rfl) (by kernel_rfl) (by kernel_rfl) (fun _ _ _ _ h => h) (by rfl) ?_
        simp only [Act.put, List.setIfInBounds_toArray, List.set_cons_zero, List.set_cons_succ]
        refine rg_skip 5 rfl (by kernel_rfl) (by kernel_rfl) (by kernel_rfl) (fun _ _ _ _ h => h) (by rfl) ?_
        simp only [Act.put, List.setIfInBounds_toArray, List.set_cons_zero, List.set_cons_succ]
        refine rg_skip 6 rfl (by kernel_rfl) (by kernel_rfl) (by kernel_rfl) (fun _ _ _ _ h => h) (by rfl) ?_
        simp only [Act.put, List.setIfInBounds_toArray, List.set_cons_zero, List.set_cons_succ]
        refine rg_skip 7 rfl (by kernel_rfl) (by kernel_rfl) (by kernel_rfl) (fun _ _ _ _ h => h) (by rfl) ?_
        simp only [Act.put, List.setIfInBounds_toArray, List.set_cons_zero, List.set_cons_succ]
        refine rg_skip 8 rfl (by kernel_rfl) (by kernel_rfl) (by kernel_rfl) (fun _ _ _ _ h => h) (by rfl) ?_
        simp only [Act.put, List.setIfInBounds_toArray, List.set_cons_zero, List.set_cons_succ]
        refine rg_skip 9 rfl (by kernel_rfl) (by kernel_rfl) (by kernel_rfl) (fun _ _ _ _ h => h) (by rfl) ?_
        simp only [Act.put, List.setIfInBounds_toArray, List.set_cons_zero, List.set_cons_succ]
        refine rg_skip 10 rfl (by kernel_rfl) (by kernel_rfl) (by kernel_rfl) (fun _ _ _ _ h => h) (by rfl) ?_
        simp only [Act.put, List.setIfInBounds_toArray, List.set_cons_zero, List.set_cons_succ]
        refine rg_skip 11 rfl (by kernel_rfl) (by kernel_rfl) (by kernel_rfl) (fun _ _ _ _ h => h) (by rfl) ?_
        simp only [Act.put, List.setIfInBounds_toArray, List.set_cons_zero, List.set_cons_succ]
        refine rg_skip 12 rfl (by kernel_rfl) (by kernel_rfl) (by kernel_rfl) (fun _ _ _ _ h => h) (by rfl) ?_
        simp only [Act.put, List.setIfInBounds_toArray, List.set_cons_zero, List.set_cons_succ]
        refine rg_take 13 rfl (by kernel_rfl) (by kernel_rfl) (by kernel_rfl) (fun _ _ _ _ h => h) (by rfl) ⟨_, fun w' hx => by (go_simp <;> with_reducible rfl), ?_⟩
        simp only [Act.put, List.setIfInBounds_toArray, List.set_cons_zero, List.set_cons_succ]
        refine rg_take 14 rfl (by kernel_rfl) (by kernel_rfl) (by kernel_rfl) (fun _ _ _ _ h => h) (by rfl) ⟨_, fun w' hx => by (go_simp <;> with_reducible rfl), ?_⟩
        simp only [Act.put, List.setIfInBounds_toArray, List.set_cons_zero, List.set_cons_succ]
        refine rg_call 15 (live05 _) rfl (by kernel_rfl) (by rfl) (by go_simp) ?_
        rintro e w8 ⟨rfl, hb8⟩
        refine ⟨_, rfl, hb8, ?_⟩
        simp only [Act.put, List.setIfInBounds_toArray, List.set_cons_zero, List.set_cons_succ]
        refine rg_take 16 rfl (by kernel_rfl) (by kernel_rfl) (by kernel_rfl) (fun _ _ _ _ h => h) (by rfl) ⟨_, fun w' hx => by (go_simp <;> with_reducible rfl), ?_⟩
        simp only [Act.put, List.setIfInBounds_toArray, List.set_cons_zero, List.set_cons_succ]
        refine rg_take 17 rfl (by kernel_rfl) (by kernel_rfl) (by kernel_rfl) (fun _ _ _ _ h => h) (by rfl) ⟨_, fun w' hx => by (go_simp <;> with_reducible rfl), ?_⟩
        simp only [Act.put, List.setIfInBounds_toArray, List.set_cons_zero, List.set_cons_succ]
        refine rg_done (by kernel_rfl) ?_
        go_wp2
        go_ret
        exact ⟨rfl, Ext.tr hE5 (Ext.tr Hd5 hb8)⟩
    · have hb := Pg.bad_of h5
      rw [hb] at Hsp
      clear hb h5
      go_enter Try.func4, Try.ntmps4
      go_wp2_with fail
      rw [← HW1.out]
      refine Hsp.out.mono ?_
      rintro e w1 ⟨A1, c1, rfl, ho1, hb1⟩
      have hgp1 := (hb1.block _ (lt_of_heap hgp)).trans hgp
      have hgq1 := (hb1.block _ (lt_of_heap hgq)).trans hgq
      have hrq1 := hrq.below hb1
      obtain ⟨hc0, hc1, hc2⟩ := page_cells hgq1
      clear hgp hgq hrp hrq live hgp1
      go_wp2_with fail
      refine (Hsq w1 hrq1).mono ?_
      rintro e w2 ⟨A2, c2, rfl, ho2, hb2⟩
      clear hc0 hc1 hc2
      go_wp2_with fail
      refine (num05 _ _).mono ?_
      rintro e w' ⟨rfl, rfl⟩
      go_wp2_with fail
      refine (live05 _).mono ?_
      rintro e w6 ⟨rfl, hb6⟩
      go_wp2
      go_ret
      exact ⟨rfl, Ext.tr hB1 (Ext.tr hb1 (Ext.tr hb2 hb6))⟩
  · cases e1 : decide ((2000 : Int) < p.body.length) <;> cases e2 : decide ((2000 : Int) < q.body.length)
    all_goals
      first
        | (exfalso
           simp only [decide_eq_false_iff_not] at e1 e2
           exact h1 ⟨by omega, by omega⟩)
        | (skip
           go_enter Try.func4, Try.ntmps4
           go_wp2_with fail
           rw [← HW1.out]
           refine live.out.mono ?_
           rintro e w6 ⟨rfl, hb6⟩
           go_wp2
           go_ret
           exact ⟨rfl, Ext.tr hB1 hb6⟩)
end Go.Proofs.Ytphjbemlofdepaa
