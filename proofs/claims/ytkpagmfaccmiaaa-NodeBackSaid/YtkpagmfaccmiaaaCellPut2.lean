
/- Contracts: cells as bytes (cell.PutInner, the document's PutLeaf and PutInner). Printed by wip/tools/gen_cellput2.py. -/

import Derived.Test.YtkpagmfaccmiaaaCellPut

namespace Go.Proofs.Ytkpagmfaccmiaaa

open Go.RowKit

attribute [local go_sem] Oper.semAt_some

theorem own_key (n : Nat) (hn : n ≤ 24) (W : World) : Own (W.alloc (.cells #[.int .u8 (n : Int)] 5)) W.heap.size 5 1 (some ⟨W.heap.size, 0, none⟩) 1 1 (bvs [UInt8.ofNat n]) := by
  have h := Own.new W 5 1 #[.int .u8 (n : Int)] 1 1 (Nat.le_refl _) (by decide) (by simp)
  have e : bvs [UInt8.ofNat n] = [.int .u8 (n : Int)] := by
    simp only [bvs, List.map_cons, List.map_nil, bv, UInt8.toNat_ofNat']
    rw [Nat.mod_eq_of_lt (by omega)]
  rw [e]
  exact h
theorem inner_facts {c : Cl} (h : c.inner = true) : c.key.length ≤ 24 ∧ 0 < c.kid ∧ c.size = 0 ∧ c.over = 0 ∧ c.val = [] := by
  unfold Cl.inner at h
  simp only [Bool.and_eq_true, decide_eq_true_eq] at h
  obtain ⟨⟨⟨⟨h1, h2⟩, h3⟩, h4⟩, h5⟩ := h
  exact ⟨h1, h2, h3, h4, List.length_eq_zero_iff.1 h5⟩

set_option maxRecDepth 100000 in
set_option maxHeartbeats 4000000 in
theorem putInner_yes (ka : Option Addr) (kc : Nat) (va : Option Addr) (vc : Nat) (key : List UInt8) (kid : Nat) (w : World) (hk : RdB w ka key) (h24 : key.length ≤ 24) (hkid : kid < 4294967296)
    (hin : (Cl.mk key 0 [] 0 kid).inner = true) (D : List UInt8) (hD : D = Vint.fixL kid 4 ++ UInt8.ofNat key.length :: key) :
    Calls Try.prog 27 #[.agg #[.slice ka key.length kc, .int .i64 0, .slice va 0 vc, .int .u32 0, .int .u32 (kid : Int)]] w fun e w' => ∃ A' c', e = .returned (.tuple #[.slice A' D.length c', .int .i64 0]) ∧ Own w' w.heap.size 5 1 A' D.length c' (bvs D) ∧ Below w.heap.size w w' := by
  have hL := isInner_any ⟨ka, kc, va, vc, ⟨key, 0, [], 0, kid⟩⟩ (w.alloc (.cells #[.slice ka key.length kc, .int .i64 0, .slice va 0 vc, .int .u32 0, .int .u32 (kid : Int)] 43))
  rw [hin] at hL
  simp only [CellV.val, CellV.cells, List.length_nil, Int.natCast_zero] at hL
  have hwu : IntKind.u64.wrap (kid : Int) = (kid : Int) := wrap_u64 kid (by omega)
  have hwk : IntKind.u8.wrap (key.length : Int) = (key.length : Int) := by simp [IntKind.wrap, IntKind.bits, IntKind.signed]; omega
  have hnew := new_key key.length h24
  have hown := own_key key.length h24
  have hlen : D.length = 5 + key.length := by rw [hD]; simp [Vint.fixL_len]; omega
  have HD := Lib.hid hD
  have Hlen := Lib.hid hlen
  have hf4 := Vint.fixL_len kid 4
  have g0 := heap_alloc_new w (.cells #[.slice ka key.length kc, .int .i64 0, .slice va 0 vc, .int .u32 0, .int .u32 (kid : Int)] 43)
  have hB0 := Ext.alloc w (.cells #[.slice ka key.length kc, .int .i64 0, .slice va 0 vc, .int .u32 0, .int .u32 (kid : Int)] 43)
  clear hin hD hlen
  go_enter Try.func27, Try.ntmps27
  go_wp2_with fail
  refine hL.mono ?_
  rintro e w1 ⟨rfl, hb1⟩
  have g1 := (hb1.block _ (lt_of_heap g0)).trans g0
  have hB1 := Ext.tr hB0 hb1
  obtain ⟨W1, hW1⟩ : ∃ W1, W1 = w1 := ⟨_, rfl⟩
  rw [← hW1] at g1 hB1 ⊢
  have hk0 : W1.cell? ⟨w.heap.size, 0, none⟩ = some (.slice ka key.length kc) := cell_of_row W1 _ 0 _ _ _ g1
  have hn0 : W1.cell? ⟨w.heap.size, 4, none⟩ = some (.int .u32 (kid : Int)) := cell_of_row W1 _ 4 _ _ _ g1
  have hkr := hk.below hB1
  clear g0 g1 hB0 hb1 hL hW1
  go_wp2_with fail
  refine rg_start (by kernel_rfl) ?_
  refine rg_take 0 rfl (by kernel_rfl) (by kernel_rfl) (by kernel_rfl) (fun _ _ _ _ h => h) (by rfl) ⟨_, fun w' hx => by (go_simp <;> with_reducible rfl), ?_⟩   -- t7 := fieldAddr 25 t1 4
  simp only [Act.put, List.setIfInBounds_toArray, List.set_cons_zero, List.set_cons_succ]
  refine rg_take 1 rfl (by kernel_rfl) (by kernel_rfl) (by kernel_rfl) (fun _ _ _ _ h => h) (by rfl) ⟨_, fun w' hx => by have hcx := hx.load hn0; (go_simp <;> with_reducible rfl), ?_⟩
  simp only [Act.put, List.setIfInBounds_toArray, List.set_cons_zero, List.set_cons_succ]
  refine rg_take 2 rfl (by kernel_rfl) (by kernel_rfl) (by kernel_rfl) (fun _ _ _ _ h => h) (by rfl) ⟨_, fun w' hx => by (go_simp <;> with_reducible rfl), ?_⟩
  simp only [Act.put, List.setIfInBounds_toArray, List.set_cons_zero, List.set_cons_succ]
  refine rg_take 4 rfl (by kernel_rfl) (by kernel_rfl) (by kernel_rfl) (fun _ _ _ _ h => h) (by rfl) ⟨_, fun w' hx => by (go_simp <;> with_reducible rfl), ?_⟩   -- t11 := fieldAddr 25 t1 0
  simp only [Act.put, List.setIfInBounds_toArray, List.set_cons_zero, List.set_cons_succ]
  refine rg_take 5 rfl (by kernel_rfl) (by kernel_rfl) (by kernel_rfl) (fun _ _ _ _ h => h) (by rfl) ⟨_, fun w' hx => by have hcx := hx.load hk0; (go_simp <;> with_reducible rfl), ?_⟩
  simp only [Act.put, List.setIfInBounds_toArray, List.set_cons_zero, List.set_cons_succ]
  refine rg_take 6 rfl (by kernel_rfl) (by kernel_rfl) (by kernel_rfl) (fun _ _ _ _ h => h) (by rfl) ⟨_, fun w' hx => by (go_simp <;> with_reducible rfl), ?_⟩   -- t13 := len(t12)
  simp only [Act.put, List.setIfInBounds_toArray, List.set_cons_zero, List.set_cons_succ]
  refine rg_take 7 rfl (by kernel_rfl) (by kernel_rfl) (by kernel_rfl) (fun _ _ _ _ h => h) (by rfl) ⟨_, fun w' hx => by (go_simp <;> with_reducible rfl), ?_⟩
  simp only [Act.put, List.setIfInBounds_toArray, List.set_cons_zero, List.set_cons_succ]
  refine rg_take 9 rfl (by kernel_rfl) (by kernel_rfl) (by kernel_rfl) (fun _ _ _ _ h => h) (by rfl) ⟨_, fun w' hx => by (go_simp <;> with_reducible rfl), ?_⟩   -- t16 := fieldAddr 25 t1 0
  simp only [Act.put, List.setIfInBounds_toArray, List.set_cons_zero, List.set_cons_succ]
  refine rg_take 10 rfl (by kernel_rfl) (by kernel_rfl) (by kernel_rfl) (fun _ _ _ _ h => h) (by rfl) ⟨_, fun w' hx => by have hcx := hx.load hk0; (go_simp <;> with_reducible rfl), ?_⟩
  simp only [Act.put, List.setIfInBounds_toArray, List.set_cons_zero, List.set_cons_succ]
  -- BRANCH: 3: t10 := scow/vint.Fixed#21(t9, 4:i64) | 8: t15 := buildSlice 22 1 [(0, t14)]
  refine rg_par2 3 10 (IsB (Vint.fixL kid 4)) 8 15 (IsB [UInt8.ofNat key.length]) _ _ rfl rfl (by kernel_rfl) (IsB.st _) (IsB.st _) (fun _ _ => by rfl) (fun _ _ => by rfl) ?_ ?_ ?_
  · intro v u W hx
    simp only [Act.put, List.setIfInBounds_toArray, List.set_cons_zero, List.set_cons_succ]
    refine yld_call (by go_simp) (fixed_any kid 4 _) ?_
    rintro e w2 ⟨A2, c2, rfl, ho2, hb2⟩
    rw [fixed4] at ho2 ⊢
    exact ⟨_, rfl, hb2, A2, c2, rfl, ho2.rd', ho2.nc⟩
  · intro v u W hx
    simp only [Act.put, List.setIfInBounds_toArray, List.set_cons_zero, List.set_cons_succ]
    exact yld_make ⟨_, _, by (go_simp <;> first | exact ⟨rfl, rfl⟩ | rfl), Ext.alloc _ _, _, _, rfl, hnew W, Nat.le_refl _⟩
  rintro v u W hxW ⟨A2, c2, rfl, hr2, -⟩ ⟨A1, c1, rfl, hr1, -⟩
  simp only [Act.put, List.setIfInBounds_toArray, List.set_cons_zero, List.set_cons_succ]
  simp only [List.length_singleton]
  have hB : Ext W1 W := Ext.tr (Ext.drew W1) hxW
  have hR4 : RdL (W.alloc (.cells #[.slice A2 (Vint.fixL kid 4).length c2, .slice A1 1 c1, .slice ka key.length kc] 25)) (some ⟨W.heap.size, 0, none⟩) [⟨A2, Vint.fixL kid 4, c2⟩, ⟨A1, [UInt8.ofNat key.length], c1⟩, ⟨ka, key, kc⟩] :=
    RdL.new W 25 [⟨A2, Vint.fixL kid 4, c2⟩, ⟨A1, [UInt8.ofNat key.length], c1⟩, ⟨ka, key, kc⟩] (by simp only [List.mem_cons, List.not_mem_nil, or_false]; rintro s (rfl | rfl | rfl); exact hr2; exact hr1; exact hkr.below hB)
  have hcat : cat [⟨A2, Vint.fixL kid 4, c2⟩, ⟨A1, [UInt8.ofNat key.length], c1⟩, ⟨ka, key, kc⟩] = D := by rw [HD.out]; simp [cat]
  have h5 := concat_any _ _ 3 _ hR4 (by simp) (by rw [hcat]; have := Hlen.out; omega)
  rw [hcat] at h5
  have hB4 := Ext.tr hB (Ext.alloc W (.cells #[.slice A2 (Vint.fixL kid 4).length c2, .slice A1 1 c1, .slice ka key.length kc] 25))
  have hlw : w.heap.size ≤ (W.alloc (.cells #[.slice A2 (Vint.fixL kid 4).length c2, .slice A1 1 c1, .slice ka key.length kc] 25)).heap.size := Nat.le_trans hB1.size hB4.size
  clear hcat hR4 hr1 hr2
  refine rg_make 11 rfl (by kernel_rfl) (by rfl) ⟨_, _, by (go_simp <;> first | exact ⟨rfl, rfl⟩ | rfl), Ext.alloc _ _, ?_⟩
  simp only [Act.put, List.setIfInBounds_toArray, List.set_cons_zero, List.set_cons_succ]
  refine rg_call2 12 rfl (by kernel_rfl) (by rfl) (by go_simp) h5 ?_
  rintro e w5 ⟨A5, c5, rfl, ho5, hb5⟩
  refine ⟨_, rfl, hb5, ?_⟩
  simp only [Act.put, List.setIfInBounds_toArray, List.set_cons_zero, List.set_cons_succ]
  refine rg_take 13 rfl (by kernel_rfl) (by kernel_rfl) (by kernel_rfl) (fun _ _ _ _ h => h) (by rfl) ⟨_, fun w' hx => by (go_simp <;> with_reducible rfl), ?_⟩
  simp only [Act.put, List.setIfInBounds_toArray, List.set_cons_zero, List.set_cons_succ]
  refine rg_take 14 rfl (by kernel_rfl) (by kernel_rfl) (by kernel_rfl) (fun _ _ _ _ h => h) (by rfl) ⟨_, fun w' hx => by (go_simp <;> with_reducible rfl), ?_⟩
  simp only [Act.put, List.setIfInBounds_toArray, List.set_cons_zero, List.set_cons_succ]
  refine rg_done (by kernel_rfl) ?_
  have hfin := Ext.tr hB1 (Ext.tr hB4 hb5)
  clear h5
  go_wp2
  go_ret2
  exact ⟨A5, c5, rfl, ho5.mono hlw, hfin⟩

theorem putInner_any (c : CellV) (w : World) (hc : c.In w) : Calls Try.prog 27 #[c.val] w fun e w' => ∃ A' c', e = .returned (.tuple #[.slice A' c.x.putI.1.length c', .int .i64 (c.x.putI.2 : Int)]) ∧ Own w' w.heap.size 5 1 A' c.x.putI.1.length c' (bvs c.x.putI.1) ∧ Below w.heap.size w w' := by
  cases h : c.x.inner with
  | false =>
    have e1 : c.x.putI = ([], 70) := by unfold Cl.putI; rw [if_neg (by rw [h]; simp)]
    rw [e1]
    refine (putInner_no c w h).mono ?_
    rintro e w' ⟨rfl, hb⟩
    exact ⟨none, 0, rfl, Own.none_ _ _ _ _ _, hb⟩
  | true =>
    have e1 : c.x.putI = (c.x.flatI, 0) := by unfold Cl.putI; rw [if_pos h]
    rw [e1]
    obtain ⟨ka, kc, va, vc, ⟨key, size, val, over, kid⟩⟩ := c
    obtain ⟨h1, h2, h3, h4, h5⟩ := inner_facts h
    simp only at h1 h2 h3 h4 h5
    subst h3 h4 h5
    exact putInner_yes ka kc va vc key kid w hc.kr h1 hc.kid h _ rfl

end Go.Proofs.Ytkpagmfaccmiaaa
