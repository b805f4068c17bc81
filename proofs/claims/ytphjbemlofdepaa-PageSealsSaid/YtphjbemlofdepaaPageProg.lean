/- Contract of the program's sealing (page.Seal). Written by wip/tools/gen_page05b.py. UNDER WAY. -/
import Derived.Test.YtphjbemlofdepaaPageRef
import Derived.Test.YtphjbemlofdepaaCrcProg3
namespace Go.Proofs.Ytphjbemlofdepaa
open Go.RowKit
attribute [local go_sem] Oper.semAt_some

set_option maxRecDepth 100000 in
set_option maxHeartbeats 2000000 in
theorem seal_good (A : Option Addr) (k : Int) (l : Nat) (d : List UInt8) (c : Nat) (w : World) (hl : l < 18446744073709551616) (hA : RdB w A d) (hk : isKind k = true) (hd : d.length = 243) :
    Calls Try.prog 7 #[.agg #[.int .i64 k, .int .u64 (l : Int), .slice A d.length c]] w fun e w' => ∃ A' c', e = .returned (.tuple #[.slice A' 256 c', .int .i64 0]) ∧ Own w' w.heap.size 5 1 A' 256 c' (bvs (Crc.put (UInt8.ofNat k.toNat :: Vint.fixed l 8 ++ d))) ∧ Below w.heap.size w w' := by
  have hkr : 1 ≤ k ∧ k ≤ 5 := by unfold isKind at hk; simpa using hk
  have hf8 := fixed8_len l
  obtain ⟨W1, hW1⟩ : ∃ W1, W1 = w.alloc (.cells #[.int .i64 k, .int .u64 (l : Int), .slice A 243 c] 25) := ⟨_, rfl⟩
  have hl1 : W1.cell? ⟨w.heap.size, 1, none⟩ = some (.int .u64 (l : Int)) := by rw [hW1]; exact cell_of_row _ _ 1 _ _ _ (heap_alloc_new w _)
  have hs1 : W1.cell? ⟨w.heap.size, 2, none⟩ = some (.slice A 243 c) := by rw [hW1]; exact cell_of_row _ _ 2 _ _ _ (heap_alloc_new w _)
  have hB1 : Below w.heap.size w W1 := by rw [hW1]; exact Ext.alloc w _
  have hwk : IntKind.u8.wrap k = k := by simp [IntKind.wrap, IntKind.bits, IntKind.signed]; omega
  obtain ⟨D, hD0⟩ : ∃ D, D = UInt8.ofNat k.toNat :: Vint.fixed l 8 ++ d := ⟨_, rfl⟩
  rw [← hD0]
  have HD := Lib.hid hD0
  have HW1 := Lib.hid hW1
  clear hD0
  go_enter Try.func7, Try.ntmps7
  go_wp2_with fail
  refine (kind_any k _).mono ?_
  rintro e w' ⟨rfl, rfl⟩
  rw [hk]
  go_wp2_with (first | (at_make; go_loud (refine wpList_mk rfl (.const (.int .i64 252)) (.const (.int .i64 252)) 23 rfl elemB (.int .u8 0) zeroB rfl 252 _ _ rfl rfl (by omega) (by omega) ?_)))
  obtain ⟨C1, hC1⟩ : ∃ C1, C1 = (Array.replicate 252 (Value.int .u8 0)).setIfInBounds 0 (Value.int .u8 k) := ⟨_, rfl⟩
  rw [← hC1]
  have hC1s : C1.size = 252 := by rw [hC1]; simp
  have hC1l : C1.toList = Value.int .u8 k :: List.replicate 251 (Value.int .u8 0) := by rw [hC1]; simp [Array.toList_setIfInBounds, List.replicate_succ]
  obtain ⟨W2, hW2⟩ : ∃ W2, W2 = W1.alloc (.cells C1 5) := ⟨_, rfl⟩
  have hsz1 : W1.heap.size = w.heap.size + 1 := by rw [HW1.out]; simp
  have hg1 : W2.heap[w.heap.size + 1]? = some (.cells C1 5 (0, 0)) := by rw [hW2, ← hsz1]; exact heap_alloc_new W1 _
  have hX2 : Ext W1 W2 := by rw [hW2]; exact Ext.alloc W1 _
  have hl2 := hX2.load hl1
  have hs2 := hX2.load hs1
  have hB2 : Below w.heap.size w W2 := hB1.trans (hX2.mono hB1.size)
  have hd0 := Lib.hid hd
  rw [← HW1.out, ← hW2]
  clear hC1 hW2 hW1 hl1 hs1 hd

  refine rg_start (by kernel_rfl) ?_
  refine rg_take 0 rfl (by kernel_rfl) (by kernel_rfl) (by kernel_rfl) (fun _ _ _ _ h => h) (by rfl) ⟨_, fun w' hx => by (go_simp <;> with_reducible rfl), ?_⟩
  simp only [Act.put, List.setIfInBounds_toArray, List.set_cons_zero, List.set_cons_succ]
  refine rg_take 1 rfl (by kernel_rfl) (by kernel_rfl) (by kernel_rfl) (fun _ _ _ _ h => h) (by rfl) ⟨_, fun w' hx => by (go_simp <;> with_reducible rfl), ?_⟩
  simp only [Act.put, List.setIfInBounds_toArray, List.set_cons_zero, List.set_cons_succ]
  refine rg_take 2 rfl (by kernel_rfl) (by kernel_rfl) (by kernel_rfl) (fun _ _ _ _ h => h) (by rfl) ⟨_, fun w' hx => by (go_simp <;> with_reducible rfl), ?_⟩
  simp only [Act.put, List.setIfInBounds_toArray, List.set_cons_zero, List.set_cons_succ]
  refine rg_take 3 rfl (by kernel_rfl) (by kernel_rfl) (by kernel_rfl) (fun _ _ _ _ h => h) (by rfl) ⟨_, fun w' hx => by have hcx := hx.load hl2; (go_simp <;> with_reducible rfl), ?_⟩
  simp only [Act.put, List.setIfInBounds_toArray, List.set_cons_zero, List.set_cons_succ]
  refine rg_call 4 (fixed_any l 8 _) rfl (by kernel_rfl) (by rfl) (by go_simp) ?_
  rintro e w2 ⟨A2, c2, rfl, ho2, hb2⟩
  rw [hf8] at ho2 ⊢
  refine ⟨_, rfl, hb2, ?_⟩
  simp only [Act.put, List.setIfInBounds_toArray, List.set_cons_zero, List.set_cons_succ]
  have hE2 := Ext.tr (Ext.drew W2) hb2
  have hg2 := (hE2.block _ (lt_of_heap hg1)).trans hg1
  have hr2 := (ho2.rd8 hf8).rd8 hf8
  refine rg_one 5 rfl (by kernel_rfl) (by rfl) (wp_copy (.tmp 22) (.tmp 25) 23 rfl elemB (w.heap.size + 1) 1 251 8 rfl A2 c2 (bvs (Vint.fixed l 8)) rfl hr2 (by omega) C1 hg2 (by rw [hC1s]; omega) (bvs_one _) ⟨.inr (by kernel_rfl), ?_⟩)
  simp only [Act.put, List.setIfInBounds_toArray, List.set_cons_zero, List.set_cons_succ]
  refine rg_done (by kernel_rfl) ?_
  obtain ⟨C2, hC2⟩ : ∃ C2, C2 = (C1.toList.take 1 ++ bvs (Vint.fixed l 8) ++ C1.toList.drop (1 + 8)).toArray := ⟨_, rfl⟩
  have hC2l : C2.toList = (Value.int .u8 k :: bvs (Vint.fixed l 8)) ++ List.replicate 243 (Value.int .u8 0) := by rw [hC2, hC1l]; simp
  have hC2s : C2.size = 252 := by rw [← Array.length_toList, hC2l]; simp [bvs_len, hf8]
  obtain ⟨W3, hW3⟩ : ∃ W3, W3 = w2.setRow (w.heap.size + 1) C2 := ⟨_, rfl⟩
  have hg3 : W3.heap[w.heap.size + 1]? = some (.cells C2 5 (0, 0)) := by rw [hW3]; exact setRow_heap _ _ _ _ _ _ hg2
  have hs3 : W3.cell? ⟨w.heap.size, 2, none⟩ = some (.slice A 243 c) := by rw [hW3, cell_setRow_other _ _ _ _ (by simp)]; exact hE2.load hs2
  have hB3 : Below w.heap.size w W3 := by
    have h1 := hB2.trans (hE2.mono hB2.size)
    rw [hW3]
    exact ⟨h1.os, h1.tape, h1.output, by simpa using h1.size, fun i hi => (setRow_other _ _ _ _ (by omega)).trans (h1.block i hi)⟩
  rw [← hC2, ← hW3]
  clear hC2 hW3 hg1 hl2 hs2 hr2 ho2 hg2 hE2 hb2 hC1s hC1l
  go_wp2_with fail

  refine rg_start (by kernel_rfl) ?_
  refine rg_take 0 rfl (by kernel_rfl) (by kernel_rfl) (by kernel_rfl) (fun _ _ _ _ h => h) (by rfl) ⟨_, fun w' hx => by (go_simp <;> with_reducible rfl), ?_⟩
  simp only [Act.put, List.setIfInBounds_toArray, List.set_cons_zero, List.set_cons_succ]
  refine rg_take 1 rfl (by kernel_rfl) (by kernel_rfl) (by kernel_rfl) (fun _ _ _ _ h => h) (by rfl) ⟨_, fun w' hx => by (go_simp <;> with_reducible rfl), ?_⟩
  simp only [Act.put, List.setIfInBounds_toArray, List.set_cons_zero, List.set_cons_succ]
  refine rg_take 2 rfl (by kernel_rfl) (by kernel_rfl) (by kernel_rfl) (fun _ _ _ _ h => h) (by rfl) ⟨_, fun w' hx => by (go_simp <;> with_reducible rfl), ?_⟩
  simp only [Act.put, List.setIfInBounds_toArray, List.set_cons_zero, List.set_cons_succ]
  refine rg_take 3 rfl (by kernel_rfl) (by kernel_rfl) (by kernel_rfl) (fun _ _ _ _ h => h) (by rfl) ⟨_, fun w' hx => by have hcx := hx.load hs3; (go_simp <;> with_reducible rfl), ?_⟩
  simp only [Act.put, List.setIfInBounds_toArray, List.set_cons_zero, List.set_cons_succ]
  refine rg_one 4 rfl (by kernel_rfl) (by rfl) (wp_copy (.tmp 28) (.tmp 30) 23 rfl elemB (w.heap.size + 1) 9 243 243 rfl A c (bvs d) rfl (((hA.below hB3).below (Ext.drew _)).rd8 hd0.out) (by omega) C2 hg3 (by rw [hC2s]; omega) (bvs_one _) ⟨.inr (by kernel_rfl), ?_⟩)
  simp only [Act.put, List.setIfInBounds_toArray, List.set_cons_zero, List.set_cons_succ]
  refine rg_done (by kernel_rfl) ?_
  obtain ⟨C3, hC3⟩ : ∃ C3, C3 = (C2.toList.take 9 ++ bvs d ++ C2.toList.drop (9 + 243)).toArray := ⟨_, rfl⟩
  have hb9 : (Value.int .u8 k :: bvs (Vint.fixed l 8)).length = 9 := by simp [bvs_len, hf8]
  have hkb : Value.int .u8 k = bv (UInt8.ofNat k.toNat) := by
    simp only [bv, UInt8.toNat_ofNat', Value.int.injEq, true_and]
    omega
  have hC3l : C3.toList = bvs D := by
    rw [hC3, hC2l, HD.out, List.take_left' hb9, List.drop_of_length_le (by rw [List.length_append, hb9, List.length_replicate]; omega), List.append_nil, hkb]
    simp [bvs]
  have hDl : D.length = 252 := by rw [HD.out]; simp [hf8, hd0.out]
  obtain ⟨W4, hW4⟩ : ∃ W4, W4 = W3.drew.setRow (w.heap.size + 1) C3 := ⟨_, rfl⟩
  have hg4 : W4.heap[w.heap.size + 1]? = some (.cells C3 5 (0, 0)) := by rw [hW4]; exact setRow_heap _ _ _ _ _ _ hg3
  have hB4 : Below w.heap.size w W4 := by
    have h1 := hB3.trans ((Ext.drew W3).mono hB3.size)
    rw [hW4]
    exact ⟨h1.os, h1.tape, h1.output, by simpa using h1.size, fun i hi => (setRow_other _ _ _ _ (by omega)).trans (h1.block i hi)⟩
  have hR : RdB W4 (some ⟨w.heap.size + 1, 0, none⟩) D := ⟨by rw [bvs_len]; omega, fun _ => ⟨_, rfl, fun j u hj => by
    have h1 := cell_of_row W4 (w.heap.size + 1) j _ _ _ hg4
    rw [← Array.getElem?_toList, hC3l, hj] at h1
    rw [Addr.add_lit, Nat.zero_add]
    exact h1⟩⟩
  have h5 := put_any (some ⟨w.heap.size + 1, 0, none⟩) D 252 W4 hR (by omega)
  simp only [Crc.put_len, hDl, Nat.reduceAdd] at h5
  have H5 := Lib.hid h5
  rw [← hC3, ← hW4]
  clear hC3 hW4 hg3 hg4 hC3l hC2l hC2s h5 hDl hR hs3
  go_wp2_with fail
  refine H5.out.mono ?_
  rintro e w5 ⟨A5, c5, rfl, ho5, hb5⟩
  go_wp2
  go_ret2
  exact ⟨A5, c5, rfl, ho5.mono hB4.size, ext_trans hB4 hb5⟩

set_option maxRecDepth 100000 in
set_option maxHeartbeats 1000000 in
theorem seal_any (p : Pg) (w : World) (hl : p.lsn < 18446744073709551616) (hA : RdB w p.a p.body) (hd : p.body.length ≤ 1000000) :
    Calls Try.prog 7 #[p.val] w fun e w' => ∃ A' c', e = .returned (.tuple #[.slice A' p.seal_.1.length c', .int .i64 (p.seal_.2 : Int)]) ∧ Own w' w.heap.size 5 1 A' p.seal_.1.length c' (bvs p.seal_.1) ∧ Below w.heap.size w w' := by
  obtain ⟨k, l, A, d, c⟩ := p
  simp only [Pg.val] at *
  by_cases hg : isKind k = true ∧ d.length = 243
  · have h1 : Pg.seal_ ⟨k, l, A, d, c⟩ = (Crc.put (UInt8.ofNat k.toNat :: Vint.fixed l 8 ++ d), 0) := by
      unfold Pg.seal_ Pg.good
      rw [if_pos (by simp [hg.1, hg.2])]
      rfl
    have h2 : (Crc.put (UInt8.ofNat k.toNat :: Vint.fixed l 8 ++ d)).length = 256 := by rw [Crc.put_len]; simp [fixed8_len, hg.2]
    rw [h1]
    simp only [h2]
    exact seal_good A k l d c w hl hA hg.1 hg.2
  · have h1 : Hid (Pg.seal_ ⟨k, l, A, d, c⟩ = ([], 50)) := by
      show _ = _
      unfold Pg.seal_ Pg.good
      rw [if_neg (by simpa using hg)]
    have hg2 : isKind k = true → ((d.length : Int) == 243) = false := fun h => by rw [beq_eq_false_iff_ne]; intro e; exact hg ⟨h, by omega⟩
    clear hg
    cases hk : isKind k with
    | false =>
      clear hg2
      go_enter Try.func7, Try.ntmps7
      go_wp2_with fail
      refine (kind_any k _).mono ?_
      rintro e w' ⟨rfl, rfl⟩
      rw [hk]
      go_wp2_with fail
      go_ret2
      rw [h1.out]
      exact ⟨none, 0, rfl, Own.none_ _ _ _ _ _, Ext.alloc w _⟩
    | true =>
      have hg3 := hg2 hk
      clear hg2
      go_enter Try.func7, Try.ntmps7
      go_wp2_with fail
      refine (kind_any k _).mono ?_
      rintro e w' ⟨rfl, rfl⟩
      rw [hk]
      go_wp2_with fail
      go_ret2
      rw [h1.out]
      exact ⟨none, 0, rfl, Own.none_ _ _ _ _ _, Ext.alloc w _⟩
end Go.Proofs.Ytphjbemlofdepaa
