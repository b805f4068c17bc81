
/- The program's sha.Sum of parts. -/

import Derived.Test.YtnagbhaknmoilaaShaObj

namespace Go.Proofs.Ytnagbhaknmoilaa

open Go.RowKit

set_option maxRecDepth 100000 in
set_option maxHeartbeats 1000000 in
theorem sha_sum (A : Option Addr) (l : List Sl) (cap : Nat) (w : World) (hA : RdL w A l) (hl : l.length ≤ 1000000) (hc : (cat l).length ≤ 100000) :
    Calls Try.prog 19 #[.slice A l.length cap] w fun e w' => e = .returned (.agg (bvs (Sha.sum (cat l))).toArray) ∧ Below w.heap.size w w' := by
  obtain ⟨W0, hW0⟩ : ∃ W0, W0 = (w.alloc (.cells (Array.replicate 32 (Value.int .u8 0)) 31)) := ⟨_, rfl⟩
  have hB0 : Ext w W0 := by rw [hW0]; exact Ext.alloc w _
  have hs0 : W0.heap.size = w.heap.size + 1 := by rw [hW0]; simp
  have hz0 : W0.heap[w.heap.size]? = some (.cells (Array.replicate 32 (Value.int .u8 0)) 31 (0, 0)) := by rw [hW0]; exact heap_alloc_new w _
  have hA0 := hA.below hB0
  have HW0 := Lib.hid hW0
  have Hs0 := Lib.hid hs0
  clear hW0 hs0
  go_enter Try.func19, Try.ntmps19
  go_wp2_with fail
  refine Eq.mpr (congrArg (fun X => Calls _ _ _ X _) (show _ = W0 from by rw [HW0.out]; rfl)) ?_
  refine (hash_new W0).mono ?_
  rintro e w1 ⟨g, rfl, hh1, hb1⟩
  go_wp2_with fail
  go_loopw [9] (fun i wr => ∃ (k : Nat) (row : Option Nat), k ≤ l.length ∧ i = .int .i64 k ∧ HashOf wr W0.heap.size g (cat (l.take k)) row ∧ Below W0.heap.size W0 wr) (fun i _ => l.length - (intOf i).toNat)
  case atStart => exact ⟨0, none, by omega, rfl, hh1, hb1⟩
  case round =>
    clear hh1 hb1
    obtain ⟨k, row, hk, rfl, hh, hb⟩ := hrel
    by_cases h : k < l.length
    · obtain ⟨ad, rfl, hcell, hrd⟩ := (hA0.below hb).at_ h
      have hrd0 : RdB W0 l[k].a l[k].bs := hA0.each _ (List.getElem_mem h)
      have hle := one_le_cat l k h
      have hsn := cat_snoc l k h
      have hgB := hh.hB
      have hW := Lib.hid (hash_write W0.heap.size g (cat (l.take k)) row l[k].a l[k].bs l[k].c wr hh hb.size hrd (fun hp ad h e => by have := RdB.block_lt hrd0 hp ad h; omega) (by omega))
      have Hsn := Lib.hid hsn
      clear hsn hle hgB
      go_wp2_with (go_at_call 28; refine hW.out.mono ?_; rintro e w3 ⟨row3, rfl, hh3, _, _, hb3⟩)
      go_roundw
      case rel => exact ⟨k + 1, row3, by omega, by go_num, by rw [Hsn.out]; exact hh3, hb.trans hb3⟩
      case measure => simp [intOf]; omega
    · obtain rfl : k = l.length := by omega
      rw [List.take_length] at hh
      have hz1 := (hb.block _ (by rw [Hs0.out]; omega)).trans hz0
      go_wp2_with fail
      refine (hash_sum W0.heap.size g (cat l) row wr hh hc).mono ?_
      rintro e w4 ⟨rfl, hb4⟩
      have hz4 := (hb4.block _ (lt_of_heap hz1)).trans hz1
      obtain ⟨C, hC⟩ : ∃ C, C = (bvs (Sha.sum (cat l))).toArray := ⟨_, rfl⟩
      have hCl : C.size = 32 := by rw [hC, List.size_toArray, bvs_len, Sha.sum_len]
      have hinf : (Try.prog.info? 31).map (·.size) = some C.size := by rw [hCl]; kernel_rfl
      have hone : C.all (·.oneCell') = true := by
        rw [Array.all_eq_true_iff_forall_mem]
        intro v hv
        exact bvs_one _ v (by rw [hC] at hv; simpa using hv)
      rw [← hC]
      have HC := Lib.hid hC
      have hold : (Array.replicate 32 (Value.int .u8 0)).size = C.size := by rw [hCl]; rfl
      clear hC hCl
      go_wp2_with (first | (refine wpList_store_row rfl 31 (.tmp 2) (.tmp 18) rfl w.heap.size C rfl rfl 31 _ hz4 hinf hold hone ?_))
      have hg9 := setRow_heap w4 w.heap.size _ C _ _ hz4
      refine bodyPost_ret (v := .agg C) (results_cell_row rfl _ _ w.heap.size 31 C (0, 0) _ rfl hg9 Try.underlying31 rfl hinf) rfl ⟨by rw [HC.out], ?_⟩
      have hB := ext_trans hB0 (hb.trans (hb4.mono hb.size))
      exact ⟨hB.os, hB.tape, hB.output, by simpa using hB.size, fun i hi => (setRow_other _ _ _ _ (by omega)).trans (hB.block i hi)⟩
end Go.Proofs.Ytnagbhaknmoilaa
