
/- The digest of the words (sha.words.sum). Written by wip/tools/gen_sum03.py. -/

import Derived.Test.YtnagbhaknmoilaaShaHash

import Derived.Test.YtnagbhaknmoilaaMem3

namespace Go.Proofs.Ytnagbhaknmoilaa

open Go.RowKit

def outC (s : Sha.St) (i : Nat) : Array Value := (bvs ((Sha.out s).take (4 * i)) ++ List.replicate (32 - 4 * i) (Value.int .u8 0)).toArray
theorem outC_size (s : Sha.St) (i : Nat) (h : i ≤ 8) : (outC s i).size = 32 := by
  have := Sha.out_len s
  simp [outC, bvs_len]
  omega
theorem outC_set (s : Sha.St) (i : Nat) (h : i < 8) : ((outC s i).toList.take (4 * i) ++ bvs (Vint.fixL (s.list.getD i 0).toNat 4) ++ (outC s i).toList.drop (4 * i + 4)).toArray = outC s (i + 1) := by
  rcases to8 h with rfl | rfl | rfl | rfl | rfl | rfl | rfl | rfl <;> rfl
theorem outC_one (s : Sha.St) (i : Nat) : (outC s i).all (·.oneCell') = true := by
  rw [Array.all_eq_true_iff_forall_mem]
  intro v hv
  simp only [outC, List.mem_toArray, List.mem_append, List.mem_replicate] at hv
  rcases hv with hv | ⟨_, rfl⟩
  · exact bvs_one _ v hv
  · rfl
theorem outC_all (s : Sha.St) : outC s 8 = (bvs (Sha.out s)).toArray := by
  have := Sha.out_len s
  simp [outC, List.take_of_length_le (show (Sha.out s).length ≤ 32 by omega)]
theorem hashC_get (s : Sha.St) (r : Value) (n j : Nat) (h : j < 8) : (hashC s r n)[j]? = some (.int .u32 (W (s.list.getD j 0))) := by
  rcases to8 h with rfl | rfl | rfl | rfl | rfl | rfl | rfl | rfl <;> rfl
theorem infoS (s : Sha.St) (i : Nat) (h : i ≤ 8) : (Try.prog.info? 31).map (·.size) = some (outC s i).size := by rw [outC_size s i h]; kernel_rfl
theorem fixed4_ (n : Nat) : Vint.fixed n 4 = Vint.fixL n 4 := rfl

set_option maxRecDepth 100000 in
set_option maxHeartbeats 2000000 in
theorem sum_words (g : Nat) (s : Sha.St) (r : Value) (n : Nat) (w : World) (hg : w.heap[g]? = some (.cells (hashC s r n) 78 (0, 0))) :
    Calls Try.prog 38 #[.pointer (some ⟨g, 0, none⟩)] w fun e w' => e = .returned (.agg (bvs (Sha.out s)).toArray) ∧ Below w.heap.size w w' := by
  have hgl := lt_of_heap hg
  go_enter Try.func38, Try.ntmps38
  go_wp2_with fail
  have hz : outC s 0 = Array.replicate 32 (Value.int .u8 0) := rfl
  obtain ⟨W0, hW0⟩ : ∃ W0, W0 = w.alloc (.cells (outC s 0) 31) := ⟨_, rfl⟩
  have hs0 : W0.heap[w.heap.size]? = some (.cells (outC s 0) 31 (0, 0)) := by rw [hW0]; exact heap_alloc_new w _
  have hB0 : Below w.heap.size w W0 := by rw [hW0]; exact Ext.alloc w _
  refine Eq.mpr (congrArg (fun X => Code.wp _ _ _ _ X) (show _ = W0 from by rw [hW0]; rfl)) ?_
  clear hW0 hz
  go_loopw [6] (fun i wr => ∃ j : Nat, j ≤ 8 ∧ i = .int .i64 j ∧ wr.heap[w.heap.size]? = some (.cells (outC s j) 31 (0, 0)) ∧ Below w.heap.size w wr) (fun i _ => 8 - (intOf i).toNat)
  case atStart => exact ⟨0, by omega, rfl, hs0, hB0⟩
  case round =>
    clear hs0 hB0
    obtain ⟨j, hj, rfl, hsj, hB⟩ := hrel
    by_cases hj8 : j < 8
    · have hjl : (j : Int) < 8 := by omega
      have hgr := (hB.block g hgl).trans hg
      have a1 : wr.drew.cell? ⟨g, j, none⟩ = some (.int .u32 (W (s.list.getD j 0))) := by
        exact (cell_of_row wr.drew g j _ _ _ hgr).trans (hashC_get s r n j hj8)
      obtain ⟨x, hx⟩ : ∃ x, x = s.list.getD j 0 := ⟨_, rfl⟩
      rw [← hx] at a1
      have Hset := outC_set s j hj8
      rw [← hx] at Hset
      have HSet := Lib.hid Hset
      clear Hset hx
      go_wp2_with fail
      refine rg_start (by kernel_rfl) ?_
      refine rg_take 0 rfl (by kernel_rfl) (by kernel_rfl) (by kernel_rfl) (fun _ _ _ _ h => h) (by rfl) ⟨_, fun w' hx => by (go_simp <;> with_reducible rfl), ?_⟩
      simp only [Act.put, List.setIfInBounds_toArray, List.set_cons_zero, List.set_cons_succ]
      refine rg_take 1 rfl (by kernel_rfl) (by kernel_rfl) (by kernel_rfl) (fun _ _ _ _ h => h) (by rfl) ⟨_, fun w' hx => by (go_simp <;> with_reducible rfl), ?_⟩   -- t9 := nilCheck t5
      simp only [Act.put, List.setIfInBounds_toArray, List.set_cons_zero, List.set_cons_succ]
      refine rg_take 2 rfl (by kernel_rfl) (by kernel_rfl) (by kernel_rfl) (fun _ _ _ _ h => h) (by rfl) ⟨_, fun w' hx => by (go_simp <;> with_reducible rfl), ?_⟩   -- t10 := indexAddr 48 t9 t6
      simp only [Act.put, List.setIfInBounds_toArray, List.set_cons_zero, List.set_cons_succ]
      refine rg_take 3 rfl (by kernel_rfl) (by kernel_rfl) (by kernel_rfl) (fun _ _ _ _ h => h) (by rfl) ⟨_, fun w' hx => by have hcx := hx.load a1; (go_simp <;> with_reducible rfl), ?_⟩
      simp only [Act.put, List.setIfInBounds_toArray, List.set_cons_zero, List.set_cons_succ]
      refine rg_take 4 rfl (by kernel_rfl) (by kernel_rfl) (by kernel_rfl) (fun _ _ _ _ h => h) (by rfl) ⟨_, fun w' hx => by (go_simp <;> with_reducible rfl), ?_⟩
      simp only [Act.put, List.setIfInBounds_toArray, List.set_cons_zero, List.set_cons_succ]
      refine rg_take 5 rfl (by kernel_rfl) (by kernel_rfl) (by kernel_rfl) (fun _ _ _ _ h => h) (by rfl) ⟨_, fun w' hx => by (go_simp <;> with_reducible rfl), ?_⟩
      simp only [Act.put, List.setIfInBounds_toArray, List.set_cons_zero, List.set_cons_succ]
      refine rg_done (by kernel_rfl) ?_
      obtain ⟨W1, hW1⟩ : ∃ W1, W1 = wr.drew := ⟨_, rfl⟩
      have hs1 : W1.heap[w.heap.size]? = some (.cells (outC s j) 31 (0, 0)) := by rw [hW1]; exact hsj
      have hB1 : Below w.heap.size w W1 := by rw [hW1]; exact hB.drew
      rw [← hW1]
      clear hW1 hsj hB hgr a1
      have hwx : IntKind.u64.wrap (W x) = W x := wrap_u64 _ (Nat.lt_trans x.toNat_lt (by omega))
      have h4 : IntKind.i64.wrap (4 * (j : Int)) = 4 * (j : Int) := by simp [IntKind.wrap, IntKind.bits, IntKind.signed]; omega
      have h5 : 4 * (j : Int) ≤ ((Try.prog.arrayLen 31 : Nat) : Int) := by
        have h9 : Try.prog.arrayLen 31 = 32 := by kernel_rfl
        rw [h9]; omega
      have h6 : (0 : Int) ≤ 4 * (j : Int) := by omega
      have h7 : ¬ (32 = 4 * j) := by omega
      have h8 : 4 * (j : Int) ≤ 32 := by omega
      have hsl : ∀ w', (Instr.sliceAt 31 (.pointer (some ⟨w.heap.size, 0, none⟩)) (some (.int .i64 (4 * (j : Int)))) none none).run Try.prog w' = .ok (.slice (some ⟨w.heap.size, 4 * j, none⟩) (32 - 4 * j) (32 - 4 * j)) w' := by
        intro w'
        rw [run_sliceAt_array_l w' 31 _ (by kernel_rfl) .i64 _ h6 h5]
        rw [show Try.prog.arrayLen 31 = 32 from by kernel_rfl, show Try.prog.elem 31 = 5 from by kernel_rfl, show (4 * (j : Int)).toNat = 4 * j by omega]
        go_simp
      have hF := fixed_any x.toNat 4 W1.drew
      rw [fixed4_] at hF
      have HF := Lib.hid hF
      clear hF
      go_wp2_with fail
      refine rg_start (by kernel_rfl) ?_
      refine rg_take 0 rfl (by kernel_rfl) (by kernel_rfl) (by kernel_rfl) (fun _ _ _ _ h => h) (by rfl) ⟨_, fun w' hx => by (go_simp <;> with_reducible rfl), ?_⟩
      simp only [Act.put, List.setIfInBounds_toArray, List.set_cons_zero, List.set_cons_succ]
      refine rg_take 1 rfl (by kernel_rfl) (by kernel_rfl) (by kernel_rfl) (fun _ _ _ _ h => h) (by rfl) ⟨_, fun w' hx => by (go_simp <;> with_reducible rfl), ?_⟩   -- t13 := binOp mul 3 4:i64 t12 3
      simp only [Act.put, List.setIfInBounds_toArray, List.set_cons_zero, List.set_cons_succ]
      refine rg_take 2 rfl (by kernel_rfl) (by kernel_rfl) (by kernel_rfl) (fun _ _ _ _ h => h) (by rfl) ⟨.slice (some ⟨w.heap.size, 4 * j, none⟩) (32 - 4 * j) (32 - 4 * j), fun w' hx => by (go_simp; first | done | (rw [hsl]; rfl)), ?_⟩
      simp only [Act.put, List.setIfInBounds_toArray, List.set_cons_zero, List.set_cons_succ]
      refine rg_take 3 rfl (by kernel_rfl) (by kernel_rfl) (by kernel_rfl) (fun _ _ _ _ h => h) (by rfl) ⟨_, fun w' hx => by (go_simp <;> with_reducible rfl), ?_⟩
      simp only [Act.put, List.setIfInBounds_toArray, List.set_cons_zero, List.set_cons_succ]
      refine rg_take 4 rfl (by kernel_rfl) (by kernel_rfl) (by kernel_rfl) (fun _ _ _ _ h => h) (by rfl) ⟨.int .u64 (W x), fun w' hx => by (go_simp <;> first | rfl | exact hwx), ?_⟩
      simp only [Act.put, List.setIfInBounds_toArray, List.set_cons_zero, List.set_cons_succ]
      refine rg_call 5 HF.out rfl (by kernel_rfl) (by rfl) (by go_simp <;> first | rfl | exact ⟨rfl, rfl⟩) ?_
      rintro e w2 ⟨A2, c2, rfl, ho2, hb2⟩
      refine ⟨_, rfl, hb2, ?_⟩
      simp only [Act.put, List.setIfInBounds_toArray, List.set_cons_zero, List.set_cons_succ]
      have hs2 : w2.heap[w.heap.size]? = some (.cells (outC s j) 31 (0, 0)) := (hb2.block _ (lt_of_heap hs1)).trans hs1
      refine rg_one 6 rfl (by kernel_rfl) (by rfl) (wp_copyL (.tmp 14) (.tmp 17) 22 rfl elemB w.heap.size (4 * j) (32 - 4 * j) (32 - 4 * j) 4 rfl A2 c2 (bvs (Vint.fixL x.toNat 4)) rfl ho2.rd (by omega) (by omega) (outC s j) 31 hs2 (by rw [outC_size s j hj]; omega) (bvs_one _) ⟨.inr (by kernel_rfl), ?_⟩)
      simp only [Act.put, List.setIfInBounds_toArray, List.set_cons_zero, List.set_cons_succ]
      refine rg_done (by kernel_rfl) ?_
      rw [HSet.out]
      have hs3 := setRow_heap w2 w.heap.size _ (outC s (j + 1)) _ _ hs2
      have hB2 : Below w.heap.size w (w2.setRow w.heap.size (outC s (j + 1))) := by
        have h1 := hB1.drew.trans (hb2.mono hB1.drew.size)
        exact ⟨h1.os, h1.tape, h1.output, by simpa using h1.size, fun i hi => (setRow_other _ _ _ _ (by omega)).trans (h1.block i hi)⟩
      obtain ⟨W3, hW3⟩ : ∃ W3, W3 = w2.setRow w.heap.size (outC s (j + 1)) := ⟨_, rfl⟩
      rw [← hW3] at hs3 hB2 ⊢
      clear hW3
      go_wp2_with fail
      go_roundw
      case rel => exact ⟨j + 1, by omega, by go_num, hs3, hB2⟩
      case measure => simp [intOf]; omega
    · obtain rfl : j = 8 := by omega
      go_wp2_with (first
        | (refine wpList_load_row rfl 31 (.tmp 2) rfl w.heap.size rfl 31 (outC s 8) (0, 0) _ hsj Try.underlying31 rfl (infoS s 8 (by omega)) ?_)
        | (refine wpList_store_row rfl 31 (.tmp 2) (.tmp 20) rfl w.heap.size (outC s 8) rfl rfl 31 (outC s 8) hsj (infoS s 8 (by omega)) rfl (outC_one s 8) ?_))
      have hg2 := setRow_heap wr w.heap.size _ (outC s 8) _ _ hsj
      refine bodyPost_ret (v := .agg (outC s 8)) (results_cell_row rfl _ _ w.heap.size 31 (outC s 8) (0, 0) _ rfl hg2 Try.underlying31 rfl (infoS s 8 (by omega))) rfl ⟨by rw [outC_all], ?_⟩
      exact ⟨hB.os, hB.tape, hB.output, by simpa using hB.size, fun i hi => (setRow_other _ _ _ _ (by omega)).trans (hB.block i hi)⟩
end Go.Proofs.Ytnagbhaknmoilaa
