
/- The program's constant words (sha.rounds, sha.first, sha.New) and the reference's (scowref03.k). -/

import Derived.Test.YtnagbhaknmoilaaShaSched

import Derived.Laws.ResultCell

namespace Go.Proofs.Ytnagbhaknmoilaa

open Go.RowKit

def stC (s : Sha.St) : Array Value := #[wv s.a, wv s.b, wv s.c, wv s.d, wv s.e, wv s.f, wv s.g, wv s.h]

set_option maxRecDepth 100000 in
set_option maxHeartbeats 2000000 in
theorem rounds_any (w : World) : Calls Try.prog 41 #[] w fun e w' => e = .returned (.agg (schC Sha.k)) ∧ Below w.heap.size w w' := by
  have hinfo : (Try.prog.info? 86).map (·.size) = some (schC Sha.k).size := by kernel_rfl
  go_enter Try.func41, Try.ntmps41
  go_wp2_with (first
    | (refine wpList_store_row rfl 86 (.tmp 0) (.tmp 1) rfl w.heap.size (schC Sha.k) rfl (by kernel_rfl) 86 _ (heap_alloc_new w _) hinfo (by kernel_rfl) (schC_one _) ?_; rw [setRow_alloc]))
  refine bodyPost_ret (v := .agg (schC Sha.k)) (results_cell_row rfl _ _ w.heap.size 86 (schC Sha.k) (0, 0) _ rfl (heap_alloc_new w _) Try.underlying86 rfl hinfo) rfl ⟨rfl, Ext.alloc _ _⟩
set_option maxRecDepth 100000 in
set_option maxHeartbeats 2000000 in
theorem ref_k (w : World) : Calls Try.prog 33 #[] w fun e w' => e = .returned (.slice (some ⟨w.heap.size, 0, none⟩) 64 64) ∧ w'.heap[w.heap.size]? = some (.cells (schC Sha.k) 29 (0, 0)) ∧ Below w.heap.size w w' := by
  go_enter Try.func33, Try.ntmps33
  go_wp2_with fail
  go_ret
  refine ⟨rfl, ?_, Ext.alloc _ _⟩
  refine (heap_alloc_new w _).trans ?_
  kernel_rfl
set_option maxRecDepth 100000 in
set_option maxHeartbeats 2000000 in
theorem first_any (w : World) : Calls Try.prog 34 #[] w fun e w' => e = .returned (.agg (stC Sha.first)) ∧ Below w.heap.size w w' := by
  go_enter Try.func34, Try.ntmps34
  go_wp2_with fail
  exact bodyPost_ret (results_cell_row rfl _ _ w.heap.size 75 _ (0, 0) _ rfl (heap_alloc_new w _) Try.underlying75 rfl (by kernel_rfl)) rfl ⟨by kernel_rfl, Ext.alloc _ _⟩
end Go.Proofs.Ytnagbhaknmoilaa
