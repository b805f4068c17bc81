
/- The program's constant words (sha.rounds, sha.first, sha.New) and the reference's (scowref03.k). -/

import Derived.Test.YtgjielobfakkmaaShaSched

import Derived.Laws.ResultCell

namespace Go.Proofs.Ytgjielobfakkmaa

open Go.RowKit

def stC (s : Sha.St) : Array Value := #[wv s.a, wv s.b, wv s.c, wv s.d, wv s.e, wv s.f, wv s.g, wv s.h]

set_option maxRecDepth 100000 in
set_option maxHeartbeats 2000000 in
theorem rounds_any (w : World) : Calls Try.prog 53 #[] w fun e w' => e = .returned (.agg (schC Sha.k)) ∧ Below w.heap.size w w' := by
  have hinfo : (Try.prog.info? 85).map (·.size) = some (schC Sha.k).size := by kernel_rfl
  go_enter Try.func53, Try.ntmps53
  go_wp2_with (first
    | (refine wpList_store_row rfl 85 (.tmp 0) (.tmp 1) rfl w.heap.size (schC Sha.k) rfl (by kernel_rfl) 85 _ (heap_alloc_new w _) hinfo (by kernel_rfl) (schC_one _) ?_; rw [setRow_alloc]))
  refine bodyPost_ret (v := .agg (schC Sha.k)) (results_cell_row rfl _ _ w.heap.size 85 (schC Sha.k) (0, 0) _ rfl (heap_alloc_new w _) Try.underlying85 rfl hinfo) rfl ⟨rfl, Ext.alloc _ _⟩
set_option maxRecDepth 100000 in
set_option maxHeartbeats 2000000 in
theorem ref_k (w : World) : Calls Try.prog 56 #[] w fun e w' => e = .returned (.slice (some ⟨w.heap.size, 0, none⟩) 64 64) ∧ w'.heap[w.heap.size]? = some (.cells (schC Sha.k) 66 (0, 0)) ∧ Below w.heap.size w w' := by
  go_enter Try.func56, Try.ntmps56
  go_wp2_with fail
  go_ret
  refine ⟨rfl, ?_, Ext.alloc _ _⟩
  refine (heap_alloc_new w _).trans ?_
  kernel_rfl
set_option maxRecDepth 100000 in
set_option maxHeartbeats 2000000 in
theorem first_any (w : World) : Calls Try.prog 41 #[] w fun e w' => e = .returned (.agg (stC Sha.first)) ∧ Below w.heap.size w w' := by
  go_enter Try.func41, Try.ntmps41
  go_wp2_with fail
  exact bodyPost_ret (results_cell_row rfl _ _ w.heap.size 68 _ (0, 0) _ rfl (heap_alloc_new w _) Try.underlying68 rfl (by kernel_rfl)) rfl ⟨by kernel_rfl, Ext.alloc _ _⟩
end Go.Proofs.Ytgjielobfakkmaa
