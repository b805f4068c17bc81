
/- A block's words (sha.schedule). -/

import Derived.Test.YtnagbhaknmoilaaShaWord

import Derived.Test.YtnagbhaknmoilaaMem2

namespace Go.Proofs.Ytnagbhaknmoilaa

open Go.RowKit

attribute [local go_sem] W_xor W_and W_or W_not W_add W_add' W_shr3 W_shr10

def schC (l : List UInt32) : Array Value := (l.map wv ++ List.replicate (64 - l.length) (Value.int .u32 0)).toArray
theorem schC_size (l : List UInt32) (h : l.length ≤ 64) : (schC l).size = 64 := by simp [schC]; omega
theorem schC_get (l : List UInt32) (j : Nat) (h : j < l.length) : (schC l)[j]? = some (wv (l.getD j 0)) := by
  simp only [schC, List.getElem?_toArray]
  rw [List.getElem?_append_left (by simpa using h)]
  simp [h]
theorem schC_set (l : List UInt32) (x : UInt32) (h : l.length < 64) : (schC l).setIfInBounds l.length (wv x) = schC (l ++ [x]) := by
  apply Array.ext'
  simp only [schC, Array.toList_setIfInBounds]
  rw [List.set_append_right _ _ (by simp)]
  simp only [List.length_map, Nat.sub_self, List.map_append, List.map_cons, List.map_nil, List.append_assoc, List.append_cancel_left_eq, List.length_append, List.length_singleton]
  obtain ⟨m, hm⟩ : ∃ m, 64 - l.length = m + 1 := ⟨63 - l.length, by omega⟩
  rw [hm, show 64 - (l.length + 1) = m by omega, List.replicate_succ]
  rfl
theorem schC_get0 (l : List UInt32) (h : l.length < 64) : (schC l)[l.length]? = some (Value.int .u32 0) := by
  simp only [schC, List.getElem?_toArray]
  rw [List.getElem?_append_right (by simp)]
  have h1 : 0 < 64 - l.length := by omega
  simp [h1]
theorem schC_one (l : List UInt32) : (schC l).all (·.oneCell') = true := by
  rw [Array.all_eq_true_iff_forall_mem]
  intro v hv
  simp only [schC, List.mem_toArray, List.mem_append, List.mem_map, List.mem_replicate] at hv
  rcases hv with ⟨_, _, rfl⟩ | ⟨_, rfl⟩ <;> rfl
theorem sch_set (b : List UInt8) (k : Nat) (h : k < 64) (x : UInt32) (hx : x = Sha.nextw b k (Sha.sch b k)) : (schC (Sha.sch b k)).setIfInBounds k (.int .u32 (W x)) = schC (Sha.sch b (k + 1)) := by
  have h1 := schC_set (Sha.sch b k) x (by rw [Sha.sch_len]; exact h)
  rw [Sha.sch_len] at h1
  rw [hx] at h1 ⊢
  exact h1
theorem sch_at0 (b : List UInt8) (k : Nat) (h : k < 64) : (schC (Sha.sch b k))[k]? = some (Value.int .u32 0) := by
  have h1 := schC_get0 (Sha.sch b k) (by rw [Sha.sch_len]; exact h)
  rwa [Sha.sch_len] at h1
theorem sch_at (b : List UInt8) (k j : Nat) (h : j < k) : (schC (Sha.sch b k))[j]? = some (.int .u32 (W ((Sha.sch b k).getD j 0))) := schC_get _ _ (by rw [Sha.sch_len]; exact h)
theorem be_number (b : List UInt8) (t : Nat) (h : 4 * t + 4 ≤ b.length) : ((Vint.number ((b.take (4 * t + 4)).drop (4 * t)) : Nat) : Int) % 4294967296 = W (Sha.be b t) := by
  have h1 : (b.take (4 * t + 4)).drop (4 * t) = [b.getD (4 * t) 0, b.getD (4 * t + 1) 0, b.getD (4 * t + 2) 0, b.getD (4 * t + 3) 0] := by
    apply List.ext_getElem
    · simp; omega
    · intro i hi1 hi2
      simp only [List.length_cons, List.length_nil] at hi2
      rw [List.getElem_drop, List.getElem_take]
      match i, hi2 with
      | 0, _ => simp [List.getElem?_eq_getElem (show 4 * t < b.length by omega)]
      | 1, _ => simp [List.getElem?_eq_getElem (show 4 * t + 1 < b.length by omega)]
      | 2, _ => simp [List.getElem?_eq_getElem (show 4 * t + 2 < b.length by omega)]
      | 3, _ => simp [List.getElem?_eq_getElem (show 4 * t + 3 < b.length by omega)]
  rw [h1]
  simp only [Vint.number, Vint.numL, List.length_cons, List.length_nil, List.foldl_cons, List.foldl_nil, W, Sha.be, UInt32.toNat_ofNat']
  have h0 := (b.getD (4 * t) 0).toNat_lt
  simp only [Nat.reduceAdd, Nat.reduceLeDiff, if_true]
  omega

set_option maxRecDepth 100000 in
set_option maxHeartbeats 1000000 in
theorem sched_any (A : Option Addr) (b : List UInt8) (cap : Nat) (w : World) (hA : RdB w A b) (hl : b.length = 64) (hc : 64 ≤ cap) :
    Calls Try.prog 40 #[.slice A 64 cap] w fun e w' => e = .returned (.agg (schC (Sha.sch b 64))) ∧ Below w.heap.size w w' := by
  obtain ⟨ad, rfl, _⟩ := hA.at_ (k := 0) (by omega)
  go_enter Try.func40, Try.ntmps40
  go_wp2_with fail
  go_loopw [9] (fun i wr => ∃ k : Nat, k ≤ 16 ∧ i = .int .i64 k ∧ wr = w.alloc (.cells (schC (Sha.sch b k)) 86)) (fun i _ => 16 - (intOf i).toNat)
  case atStart => exact ⟨0, by omega, rfl, rfl⟩
  case round =>
    obtain ⟨k, hk, rfl, rfl⟩ := hrel
    by_cases h : k < 16
    · have hE := Ext.alloc w (.cells (schC (Sha.sch b k)) 86)
      have hC := (hA.below hE).cut (k := 4 * k) (m := 4 * k + 4) (by omega) (by omega) (c := cap) (by omega)
      rw [if_neg (by omega)] at hC
      obtain ⟨L, hL⟩ : ∃ L, L = (b.take (4 * k + 4)).drop (4 * k) := ⟨_, rfl⟩
      rw [← hL] at hC
      have hLl : L.length = 4 := by rw [hL]; simp; omega
      have hbe : Hid (((Vint.number L : Nat) : Int) % 4294967296 = W (Sha.be b k)) := by show _ = _; rw [hL]; exact be_number b k (by omega)
      have hN := number_any _ L (cap - 4 * k) _ hC (by omega)
      rw [hLl] at hN
      have HN := Lib.hid hN
      have hset : Hid ((schC (Sha.sch b k)).setIfInBounds k (.int .u32 (W (Sha.be b k))) = schC (Sha.sch b (k + 1))) := sch_set b k (by omega) _ (by unfold Sha.nextw; rw [if_pos h])
      have hcell := sch_at0 b k (by omega)
      clear hN hL hLl hC
      go_wp2_with fail
      refine HN.out.mono ?_
      rintro e w' ⟨rfl, rfl⟩
      have hbe2 := hbe.out
      go_wp2_with fail
      go_roundw
      case rel => exact ⟨k + 1, by omega, by go_num, by rw [hset.out]⟩
      case measure => simp [intOf]; omega
    · obtain rfl : k = 16 := by omega
      go_wp2_with fail
      obtain ⟨W0, hW0⟩ : ∃ W0, W0 = w.alloc (.cells (schC (Sha.sch b 16)) 86) := ⟨_, rfl⟩
      have hg0 : W0.heap[w.heap.size]? = some (.cells (schC (Sha.sch b 16)) 86 (0, 0)) := by rw [hW0]; exact heap_alloc_new w _
      have hB0 : Below w.heap.size w W0 := by rw [hW0]; exact Ext.alloc w _
      rw [← hW0]
      rw [show (((16 : Nat)) : Int) = 16 from rfl]
      clear hW0
      go_loopw [4] (fun i wr => ∃ k : Nat, 16 ≤ k ∧ k ≤ 64 ∧ i = .int .i64 k ∧ wr.heap[w.heap.size]? = some (.cells (schC (Sha.sch b k)) 86 (0, 0)) ∧ Below w.heap.size w wr) (fun i _ => 64 - (intOf i).toNat)
      case atStart => exact ⟨16, by omega, by omega, rfl, hg0, hB0⟩
      case round =>
        obtain ⟨k, hk1, hk2, rfl, hg, hB⟩ := hrel
        by_cases h : k < 64
        · rename_i wr
          have hx2 : wr.cell? ⟨w.heap.size, k - 2, none⟩ = some (.int .u32 (W ((Sha.sch b k).getD (k - 2) 0))) := (cell_of_row wr _ (k - 2) _ _ _ hg).trans (sch_at b k (k - 2) (by omega))
          have hx15 : wr.cell? ⟨w.heap.size, k - 15, none⟩ = some (.int .u32 (W ((Sha.sch b k).getD (k - 15) 0))) := (cell_of_row wr _ (k - 15) _ _ _ hg).trans (sch_at b k (k - 15) (by omega))
          have hw2 : IntKind.i64.wrap ((k : Int) - 2) = ((k - 2 : Nat) : Int) := by simp [IntKind.wrap, IntKind.bits, IntKind.signed]; omega
          have hw15 : IntKind.i64.wrap ((k : Int) - 15) = ((k - 15 : Nat) : Int) := by simp [IntKind.wrap, IntKind.bits, IntKind.signed]; omega
          have hl2 : ((k - 2 : Nat) : Int) < 64 := by omega
          have hl15 : ((k - 15 : Nat) : Int) < 64 := by omega
          have hp2 : (0 : Int) ≤ ((k - 2 : Nat) : Int) := by omega
          have hp15 : (0 : Int) ≤ ((k - 15 : Nat) : Int) := by omega
          have hd := Ext.drew wr
          have hx2d := hd.load hx2
          have hx15d := hd.load hx15
          go_wp2_with fail
          refine rg_start (by kernel_rfl) ?_
          refine rg_take 0 rfl (by kernel_rfl) (by kernel_rfl) (by kernel_rfl) (fun _ _ _ _ h => h) (by rfl) ⟨_, fun w' hx => by (go_simp <;> with_reducible rfl), ?_⟩
          simp only [Act.put, List.setIfInBounds_toArray, List.set_cons_zero, List.set_cons_succ]
          refine rg_take 1 rfl (by kernel_rfl) (by kernel_rfl) (by kernel_rfl) (fun _ _ _ _ h => h) (by rfl) ⟨_, fun w' hx => by (go_simp <;> with_reducible rfl), ?_⟩   -- t29 := binOp sub 3 t28 2:i64 3
          simp only [Act.put, List.setIfInBounds_toArray, List.set_cons_zero, List.set_cons_succ]
          refine rg_take 2 rfl (by kernel_rfl) (by kernel_rfl) (by kernel_rfl) (fun _ _ _ _ h => h) (by rfl) ⟨_, fun w' hx => by (go_simp <;> with_reducible rfl), ?_⟩   -- t30 := indexAddr 67 t2 t29
          simp only [Act.put, List.setIfInBounds_toArray, List.set_cons_zero, List.set_cons_succ]
          refine rg_take 3 rfl (by kernel_rfl) (by kernel_rfl) (by kernel_rfl) (fun _ _ _ _ h => h) (by rfl) ⟨_, fun w' hx => by have hcx := hx.load hx2d; (go_simp <;> with_reducible rfl), ?_⟩
          simp only [Act.put, List.setIfInBounds_toArray, List.set_cons_zero, List.set_cons_succ]
          refine rg_take 4 rfl (by kernel_rfl) (by kernel_rfl) (by kernel_rfl) (fun _ _ _ _ h => h) (by rfl) ⟨_, fun w' hx => by (go_simp <;> with_reducible rfl), ?_⟩
          simp only [Act.put, List.setIfInBounds_toArray, List.set_cons_zero, List.set_cons_succ]
          refine rg_take 5 rfl (by kernel_rfl) (by kernel_rfl) (by kernel_rfl) (fun _ _ _ _ h => h) (by rfl) ⟨_, fun w' hx => by (go_simp <;> with_reducible rfl), ?_⟩   -- t33 := binOp sub 3 t32 15:i64 3
          simp only [Act.put, List.setIfInBounds_toArray, List.set_cons_zero, List.set_cons_succ]
          refine rg_take 6 rfl (by kernel_rfl) (by kernel_rfl) (by kernel_rfl) (fun _ _ _ _ h => h) (by rfl) ⟨_, fun w' hx => by (go_simp <;> with_reducible rfl), ?_⟩   -- t34 := indexAddr 67 t2 t33
          simp only [Act.put, List.setIfInBounds_toArray, List.set_cons_zero, List.set_cons_succ]
          refine rg_take 7 rfl (by kernel_rfl) (by kernel_rfl) (by kernel_rfl) (fun _ _ _ _ h => h) (by rfl) ⟨_, fun w' hx => by have hcx := hx.load hx15d; (go_simp <;> with_reducible rfl), ?_⟩
          simp only [Act.put, List.setIfInBounds_toArray, List.set_cons_zero, List.set_cons_succ]
          refine rg_take 8 rfl (by kernel_rfl) (by kernel_rfl) (by kernel_rfl) (fun _ _ _ _ h => h) (by rfl) ⟨_, fun w' hx => by (go_simp <;> with_reducible rfl), ?_⟩
          simp only [Act.put, List.setIfInBounds_toArray, List.set_cons_zero, List.set_cons_succ]
          refine rg_take 9 rfl (by kernel_rfl) (by kernel_rfl) (by kernel_rfl) (fun _ _ _ _ h => h) (by rfl) ⟨_, fun w' hx => by (go_simp <;> with_reducible rfl), ?_⟩
          simp only [Act.put, List.setIfInBounds_toArray, List.set_cons_zero, List.set_cons_succ]
          refine rg_done (by kernel_rfl) ?_
          have hgd := (hd.block _ (lt_of_heap hg)).trans hg
          have hBd := hB.drew
          obtain ⟨W1, hW1⟩ : ∃ W1, W1 = wr.drew := ⟨_, rfl⟩
          rw [← hW1] at hgd hBd
          rw [← hW1]
          clear hx2 hx15 hx2d hx15d hw2 hw15 hl2 hl15 hp2 hp15 hd hg hB hW1
          go_wp2_with fail
          refine (right_any _ 17 (by omega) (by omega) _).mono ?_
          rintro e w' ⟨rfl, rfl⟩
          go_wp2_with fail
          refine (right_any _ 19 (by omega) (by omega) _).mono ?_
          rintro e w' ⟨rfl, rfl⟩
          go_wp2_with fail
          refine (right_any _ 7 (by omega) (by omega) _).mono ?_
          rintro e w' ⟨rfl, rfl⟩
          go_wp2_with fail
          refine (right_any _ 18 (by omega) (by omega) _).mono ?_
          rintro e w' ⟨rfl, rfl⟩
          go_wp2_with fail
          have hx7 : W1.cell? ⟨w.heap.size, k - 7, none⟩ = some (.int .u32 (W ((Sha.sch b k).getD (k - 7) 0))) := (cell_of_row W1 _ (k - 7) _ _ _ hgd).trans (sch_at b k (k - 7) (by omega))
          have hx16 : W1.cell? ⟨w.heap.size, k - 16, none⟩ = some (.int .u32 (W ((Sha.sch b k).getD (k - 16) 0))) := (cell_of_row W1 _ (k - 16) _ _ _ hgd).trans (sch_at b k (k - 16) (by omega))
          have hxk : W1.cell? ⟨w.heap.size, k, none⟩ = some (.int .u32 0) := (cell_of_row W1 _ k _ _ _ hgd).trans (sch_at0 b k h)
          have hfk : W1.frozen? ⟨w.heap.size, k, none⟩ = false := frozen_of_row W1 _ _ _ _ hgd
          have hw7 : IntKind.i64.wrap ((k : Int) - 7) = ((k - 7 : Nat) : Int) := by simp [IntKind.wrap, IntKind.bits, IntKind.signed]; omega
          have hw16 : IntKind.i64.wrap ((k : Int) - 16) = ((k - 16 : Nat) : Int) := by simp [IntKind.wrap, IntKind.bits, IntKind.signed]; omega
          have hl7 : ((k - 7 : Nat) : Int) < 64 := by omega
          have hl16 : ((k - 16 : Nat) : Int) < 64 := by omega
          have hlk : (k : Int) < 64 := by omega
          have hp7 : (0 : Int) ≤ ((k - 7 : Nat) : Int) := by omega
          have hp16 : (0 : Int) ≤ ((k - 16 : Nat) : Int) := by omega
          have hd := Ext.drew W1
          have hx7d := hd.load hx7
          have hx16d := hd.load hx16
          have hxkd := hd.load hxk
          have hfkd : W1.drew.frozen? ⟨w.heap.size, k, none⟩ = false := hfk
          refine rg_start (by kernel_rfl) ?_
          refine rg_take 0 rfl (by kernel_rfl) (by kernel_rfl) (by kernel_rfl) (fun _ _ _ _ h => h) (by rfl) ⟨_, fun w' hx => by (go_simp <;> with_reducible rfl), ?_⟩
          simp only [Act.put, List.setIfInBounds_toArray, List.set_cons_zero, List.set_cons_succ]
          refine rg_take 1 rfl (by kernel_rfl) (by kernel_rfl) (by kernel_rfl) (fun _ _ _ _ h => h) (by rfl) ⟨_, fun w' hx => by (go_simp <;> with_reducible rfl), ?_⟩
          simp only [Act.put, List.setIfInBounds_toArray, List.set_cons_zero, List.set_cons_succ]
          refine rg_take 2 rfl (by kernel_rfl) (by kernel_rfl) (by kernel_rfl) (fun _ _ _ _ h => h) (by rfl) ⟨_, fun w' hx => by (go_simp <;> with_reducible rfl), ?_⟩
          simp only [Act.put, List.setIfInBounds_toArray, List.set_cons_zero, List.set_cons_succ]
          refine rg_take 3 rfl (by kernel_rfl) (by kernel_rfl) (by kernel_rfl) (fun _ _ _ _ h => h) (by rfl) ⟨_, fun w' hx => by (go_simp <;> with_reducible rfl), ?_⟩   -- t55 := binOp sub 3 t54 7:i64 3
          simp only [Act.put, List.setIfInBounds_toArray, List.set_cons_zero, List.set_cons_succ]
          refine rg_take 4 rfl (by kernel_rfl) (by kernel_rfl) (by kernel_rfl) (fun _ _ _ _ h => h) (by rfl) ⟨_, fun w' hx => by (go_simp <;> with_reducible rfl), ?_⟩   -- t56 := indexAddr 67 t2 t55
          simp only [Act.put, List.setIfInBounds_toArray, List.set_cons_zero, List.set_cons_succ]
          refine rg_take 5 rfl (by kernel_rfl) (by kernel_rfl) (by kernel_rfl) (fun _ _ _ _ h => h) (by rfl) ⟨_, fun w' hx => by have hcx := hx.load hx7d; (go_simp <;> with_reducible rfl), ?_⟩
          simp only [Act.put, List.setIfInBounds_toArray, List.set_cons_zero, List.set_cons_succ]
          refine rg_take 6 rfl (by kernel_rfl) (by kernel_rfl) (by kernel_rfl) (fun _ _ _ _ h => h) (by rfl) ⟨_, fun w' hx => by (go_simp <;> with_reducible rfl), ?_⟩   -- t58 := binOp add 44 t53 t57 44
          simp only [Act.put, List.setIfInBounds_toArray, List.set_cons_zero, List.set_cons_succ]
          refine rg_take 7 rfl (by kernel_rfl) (by kernel_rfl) (by kernel_rfl) (fun _ _ _ _ h => h) (by rfl) ⟨_, fun w' hx => by (go_simp <;> with_reducible rfl), ?_⟩
          simp only [Act.put, List.setIfInBounds_toArray, List.set_cons_zero, List.set_cons_succ]
          refine rg_take 8 rfl (by kernel_rfl) (by kernel_rfl) (by kernel_rfl) (fun _ _ _ _ h => h) (by rfl) ⟨_, fun w' hx => by (go_simp <;> with_reducible rfl), ?_⟩   -- t60 := binOp add 44 t58 t59 44
          simp only [Act.put, List.setIfInBounds_toArray, List.set_cons_zero, List.set_cons_succ]
          refine rg_take 9 rfl (by kernel_rfl) (by kernel_rfl) (by kernel_rfl) (fun _ _ _ _ h => h) (by rfl) ⟨_, fun w' hx => by (go_simp <;> with_reducible rfl), ?_⟩
          simp only [Act.put, List.setIfInBounds_toArray, List.set_cons_zero, List.set_cons_succ]
          refine rg_take 10 rfl (by kernel_rfl) (by kernel_rfl) (by kernel_rfl) (fun _ _ _ _ h => h) (by rfl) ⟨_, fun w' hx => by (go_simp <;> with_reducible rfl), ?_⟩   -- t62 := binOp sub 3 t61 16:i64 3
          simp only [Act.put, List.setIfInBounds_toArray, List.set_cons_zero, List.set_cons_succ]
          refine rg_take 11 rfl (by kernel_rfl) (by kernel_rfl) (by kernel_rfl) (fun _ _ _ _ h => h) (by rfl) ⟨_, fun w' hx => by (go_simp <;> with_reducible rfl), ?_⟩   -- t63 := indexAddr 67 t2 t62
          simp only [Act.put, List.setIfInBounds_toArray, List.set_cons_zero, List.set_cons_succ]
          refine rg_take 12 rfl (by kernel_rfl) (by kernel_rfl) (by kernel_rfl) (fun _ _ _ _ h => h) (by rfl) ⟨_, fun w' hx => by have hcx := hx.load hx16d; (go_simp <;> with_reducible rfl), ?_⟩
          simp only [Act.put, List.setIfInBounds_toArray, List.set_cons_zero, List.set_cons_succ]
          refine rg_take 13 rfl (by kernel_rfl) (by kernel_rfl) (by kernel_rfl) (fun _ _ _ _ h => h) (by rfl) ⟨_, fun w' hx => by (go_simp <;> with_reducible rfl), ?_⟩   -- t65 := binOp add 44 t60 t64 44
          simp only [Act.put, List.setIfInBounds_toArray, List.set_cons_zero, List.set_cons_succ]
          refine rg_take 14 rfl (by kernel_rfl) (by kernel_rfl) (by kernel_rfl) (fun _ _ _ _ h => h) (by rfl) ⟨_, fun w' hx => by (go_simp <;> with_reducible rfl), ?_⟩   -- t66 := indexAddr 67 t2 t52
          simp only [Act.put, List.setIfInBounds_toArray, List.set_cons_zero, List.set_cons_succ]
          refine rg_store 15 rfl (by kernel_rfl) (by kernel_rfl) (by rfl) ⟨_, by (go_simp <;> first | rfl | exact ⟨rfl, rfl⟩), ?_⟩
          simp only [Act.put]
          refine rg_done (by kernel_rfl) ?_
          have hgn := heap_setCell_same W1.drew w.heap.size k _ _ (.int .u32 (W (Sha.nextw b k (Sha.sch b k)))) hgd
          rw [sch_set b k h _ rfl] at hgn
          have hBn := hBd.drew.setCell (p := ⟨w.heap.size, k, none⟩) (Nat.le_refl _) (.int .u32 (W (Sha.nextw b k (Sha.sch b k))))
          have hnx : Sha.nextw b k (Sha.sch b k) = Sha.small1 ((Sha.sch b k).getD (k - 2) 0) + (Sha.sch b k).getD (k - 7) 0 + Sha.small0 ((Sha.sch b k).getD (k - 15) 0) + (Sha.sch b k).getD (k - 16) 0 := by unfold Sha.nextw; rw [if_neg (by omega)]
          clear hx7 hx16 hxk hx7d hx16d hxkd
          rw [hnx] at hgn hBn
          simp only [List.getD_eq_getElem?_getD, Sha.small1, Sha.small0] at hgn hBn
          go_wp2_with fail
          go_roundw
          case rel => exact ⟨k + 1, by omega, by omega, by go_num, by exact hgn, by exact hBn⟩
          case measure => simp [intOf]; omega
        · obtain rfl : k = 64 := by omega
          rename_i wr
          have hinfo : (Try.prog.info? 86).map (·.size) = some (schC (Sha.sch b 64)).size := by rw [schC_size _ (by rw [Sha.sch_len]; omega)]; kernel_rfl
          go_wp2_with (first
            | (refine wpList_load_row rfl 86 (.tmp 2) rfl w.heap.size rfl 86 (schC (Sha.sch b 64)) (0, 0) _ hg Try.underlying86 rfl hinfo ?_)
            | (refine wpList_store_row rfl 86 (.tmp 2) (.tmp 67) rfl w.heap.size (schC (Sha.sch b 64)) rfl rfl 86 (schC (Sha.sch b 64)) hg hinfo rfl (schC_one _) ?_))
          have hg2 := setRow_heap wr w.heap.size _ (schC (Sha.sch b 64)) _ _ hg
          refine bodyPost_ret (v := .agg (schC (Sha.sch b 64))) (results_cell_row rfl _ _ w.heap.size 86 (schC (Sha.sch b 64)) (0, 0) _ rfl hg2 Try.underlying86 rfl hinfo) rfl ⟨rfl, ?_⟩
          exact ⟨hB.os, hB.tape, hB.output, by simpa using hB.size, fun i hi => (setRow_other _ _ _ _ (by omega)).trans (hB.block i hi)⟩
end Go.Proofs.Ytnagbhaknmoilaa
