
/- Contracts: cells as bytes (cell.PutInner, the document's PutLeaf and PutInner). Printed by wip/tools/gen_cellput2.py. -/

import Derived.Test.YtkpagmfaccmiaaaGreatCellPut

namespace Go.Proofs.YtkpagmfaccmiaaaGreat

open Go.RowKit

attribute [local go_sem] Oper.semAt_some

theorem own_key (n : Nat) (hn : n ≤ 24) (W : World) : Own (W.alloc (.cells #[.int .u8 (n : Int)] 5)) W.heap.size 5 1 (some ⟨W.heap.size, 0, none⟩) 1 1 (bvs [UInt8.ofNat n]) := by
  have h := Own.new W 5 1 #[.int .u8 (n : Int)] 1 1 (Nat.le_refl _) (by decide) (by simp)
  have e : bvs [UInt8.ofNat n] = [.int .u8 (n : Int)] := by
    simp only [bvs, List.map_cons, List.map_nil, bv, UInt8.toNat_ofNat']
    rw [Nat.mod_eq_of_lt (by omega)]
  rw [e]
  exact h
theorem inner_facts {c : Cl} (h : c.inner = true) : c.key.length ≤ 24 ∧ 0 < c.kid ∧ c.size = 0 ∧ c.over = 0 ∧ c.val = [] := by
  unfold Cl.inner at h
  simp only [Bool.and_eq_true, decide_eq_true_eq] at h
  obtain ⟨⟨⟨⟨h1, h2⟩, h3⟩, h4⟩, h5⟩ := h
  exact ⟨h1, h2, h3, h4, List.length_eq_zero_iff.1 h5⟩

set_option maxRecDepth 100000 in
set_option maxHeartbeats 4000000 in
theorem putInner_yes (ka : Option Addr) (kc : Nat) (va : Option Addr) (vc : Nat) (key : List UInt8) (kid : Nat) (w : World) (hk : RdB w ka key) (h24 : key.length ≤ 24) (hkid : kid < 4294967296)
    (hin : (Cl.mk key 0 [] 0 kid).inner = true) (D : List UInt8) (hD : D = Vint.fixL kid 4 ++ UInt8.ofNat key.length :: key) :
    Calls Tryz.prog 57 #[.agg #[.slice ka key.length kc, .int .i64 0, .slice va 0 vc, .int .u32 0, .int .u32 (kid : Int)]] w fun e w' => ∃ A' c', e = .returned (.tuple #[.slice A' D.length c', .int .i64 0]) ∧ Own w' w.heap.size 5 1 A' D.length c' (bvs D) ∧ Below w.heap.size w w' := by
  have hL := isInner_any ⟨ka, kc, va, vc, ⟨key, 0, [], 0, kid⟩⟩ (w.alloc (.cells #[.slice ka key.length kc, .int .i64 0, .slice va 0 vc, .int .u32 0, .int .u32 (kid : Int)] 43))
  rw [hin] at hL
  simp only [CellV.val, CellV.cells, List.length_nil, Int.natCast_zero] at hL
  have hwu : IntKind.u64.wrap (kid : Int) = (kid : Int) := wrap_u64 kid (by omega)
  have hwk : IntKind.u8.wrap (key.length : Int) = (key.length : Int) := by simp [IntKind.wrap, IntKind.bits, IntKind.signed]; omega
  have hnew := new_key key.length h24
  have hown := own_key key.length h24
  have hlen : D.length = 5 + key.length := by rw [hD]; simp [Vint.fixL_len]; omega
  have HD := Lib.hid hD
  have Hlen := Lib.hid hlen
  have hf4 := Vint.fixL_len kid 4
  have g0 := heap_alloc_new w (.cells #[.slice ka key.length kc, .int .i64 0, .slice va 0 vc, .int .u32 0, .int .u32 (kid : Int)] 43)
  have hB0 := Ext.alloc w (.cells #[.slice ka key.length kc, .int .i64 0, .slice va 0 vc, .int .u32 0, .int .u32 (kid : Int)] 43)
  clear hin hD hlen
  go_enter Tryz.func57, Tryz.ntmps57
  go_wp2_with fail
  refine hL.mono ?_
  rintro e w1 ⟨rfl, hb1⟩
  have g1 := (hb1.block _ (lt_of_heap g0)).trans g0
  have hB1 := Ext.tr hB0 hb1
  obtain ⟨W1, hW1⟩ : ∃ W1, W1 = w1 := ⟨_, rfl⟩
  rw [← hW1] at g1 hB1 ⊢
  have hk0 : W1.cell? ⟨w.heap.size, 0, none⟩ = some (.slice ka key.length kc) := cell_of_row W1 _ 0 _ _ _ g1
  have hn0 : W1.cell? ⟨w.heap.size, 4, none⟩ = some (.int .u32 (kid : Int)) := cell_of_row W1 _ 4 _ _ _ g1
  have hkr := hk.below hB1
  clear g0 g1 hB0 hb1 hL hW1
  go_wp2_with fail
  refine rg_start (by kernel_rfl) ?_
  refine rg_take 0 rfl (by kernel_rfl) (by kernel_rfl) (by kernel_rfl) (fun _ _ _ _ h => h) (by rfl) ⟨_, fun w' hx => by (go_simp <;> with_reducible rfl), ?_⟩   -- t7 := fieldAddr 25 t1 4
  simp only [Act.put, List.setIfInBounds_toArray, List.set_cons_zero, List.set_cons_succ]
  refine rg_take 1 rfl (by kernel_rfl) (by kernel_rfl) (by kernel_rfl) (fun _ _ _ _ h => h) (by rfl) ⟨_, fun w' hx => by have hcx := hx.load hn0; (go_simp <;> with_reducible rfl), ?_⟩
  simp only [Act.put, List.setIfInBounds_toArray, List.set_cons_zero, List.set_cons_succ]
  refine rg_take 2 rfl (by kernel_rfl) (by kernel_rfl) (by kernel_rfl) (fun _ _ _ _ h => h) (by rfl) ⟨_, fun w' hx => by (go_simp <;> with_reducible rfl), ?_⟩
  simp only [Act.put, List.setIfInBounds_toArray, List.set_cons_zero, List.set_cons_succ]
  refine rg_take 4 rfl (by kernel_rfl) (by kernel_rfl) (by kernel_rfl) (fun _ _ _ _ h => h) (by rfl) ⟨_, fun w' hx => by (go_simp <;> with_reducible rfl), ?_⟩   -- t11 := fieldAddr 25 t1 0
  simp only [Act.put, List.setIfInBounds_toArray, List.set_cons_zero, List.set_cons_succ]
  refine rg_take 5 rfl (by kernel_rfl) (by kernel_rfl) (by kernel_rfl) (fun _ _ _ _ h => h) (by rfl) ⟨_, fun w' hx => by have hcx := hx.load hk0; (go_simp <;> with_reducible rfl), ?_⟩
  simp only [Act.put, List.setIfInBounds_toArray, List.set_cons_zero, List.set_cons_succ]
  refine rg_take 6 rfl (by kernel_rfl) (by kernel_rfl) (by kernel_rfl) (fun _ _ _ _ h => h) (by rfl) ⟨_, fun w' hx => by (go_simp <;> with_reducible rfl), ?_⟩   -- t13 := len(t12)
  simp only [Act.put, List.setIfInBounds_toArray, List.set_cons_zero, List.set_cons_succ]
  refine rg_take 7 rfl (by kernel_rfl) (by kernel_rfl) (by kernel_rfl) (fun _ _ _ _ h => h) (by rfl) ⟨_, fun w' hx => by (go_simp <;> with_reducible rfl), ?_⟩
  simp only [Act.put, List.setIfInBounds_toArray, List.set_cons_zero, List.set_cons_succ]
  refine rg_take 9 rfl (by kernel_rfl) (by kernel_rfl) (by kernel_rfl) (fun _ _ _ _ h => h) (by rfl) ⟨_, fun w' hx => by (go_simp <;> with_reducible rfl), ?_⟩   -- t16 := fieldAddr 25 t1 0
  simp only [Act.put, List.setIfInBounds_toArray, List.set_cons_zero, List.set_cons_succ]
  refine rg_take 10 rfl (by kernel_rfl) (by kernel_rfl) (by kernel_rfl) (fun _ _ _ _ h => h) (by rfl) ⟨_, fun w' hx => by have hcx := hx.load hk0; (go_simp <;> with_reducible rfl), ?_⟩
  simp only [Act.put, List.setIfInBounds_toArray, List.set_cons_zero, List.set_cons_succ]
  -- BRANCH: 3: t10 := scow/vint.Fixed#21(t9, 4:i64) | 8: t15 := buildSlice 22 1 [(0, t14)]
  refine rg_par2 3 10 (IsB (Vint.fixL kid 4)) 8 15 (IsB [UInt8.ofNat key.length]) _ _ rfl rfl (by kernel_rfl) (IsB.st _) (IsB.st _) (fun _ _ => by rfl) (fun _ _ => by rfl) ?_ ?_ ?_
  · intro v u W hx
    simp only [Act.put, List.setIfInBounds_toArray, List.set_cons_zero, List.set_cons_succ]
    refine yld_call (by go_simp) (fixed_any kid 4 _) ?_
    rintro e w2 ⟨A2, c2, rfl, ho2, hb2⟩
    rw [fixed4] at ho2 ⊢
    exact ⟨_, rfl, hb2, A2, c2, rfl, ho2.rd', ho2.nc⟩
  · intro v u W hx
    simp only [Act.put, List.setIfInBounds_toArray, List.set_cons_zero, List.set_cons_succ]
    exact yld_make ⟨_, _, by (go_simp <;> first | exact ⟨rfl, rfl⟩ | rfl), Ext.alloc _ _, _, _, rfl, hnew W, Nat.le_refl _⟩
  rintro v u W hxW ⟨A2, c2, rfl, hr2, -⟩ ⟨A1, c1, rfl, hr1, -⟩
  simp only [Act.put, List.setIfInBounds_toArray, List.set_cons_zero, List.set_cons_succ]
  simp only [List.length_singleton]
  have hB : Ext W1 W := Ext.tr (Ext.drew W1) hxW
  have hR4 : RdL (W.alloc (.cells #[.slice A2 (Vint.fixL kid 4).length c2, .slice A1 1 c1, .slice ka key.length kc] 25)) (some ⟨W.heap.size, 0, none⟩) [⟨A2, Vint.fixL kid 4, c2⟩, ⟨A1, [UInt8.ofNat key.length], c1⟩, ⟨ka, key, kc⟩] :=
    RdL.new W 25 [⟨A2, Vint.fixL kid 4, c2⟩, ⟨A1, [UInt8.ofNat key.length], c1⟩, ⟨ka, key, kc⟩] (by simp only [List.mem_cons, List.not_mem_nil, or_false]; rintro s (rfl | rfl | rfl); exact hr2; exact hr1; exact hkr.below hB)
  have hcat : cat [⟨A2, Vint.fixL kid 4, c2⟩, ⟨A1, [UInt8.ofNat key.length], c1⟩, ⟨ka, key, kc⟩] = D := by rw [HD.out]; simp [cat]
  have h5 := concat_any _ _ 3 _ hR4 (by simp) (by rw [hcat]; have := Hlen.out; omega)
  rw [hcat] at h5
  have hB4 := Ext.tr hB (Ext.alloc W (.cells #[.slice A2 (Vint.fixL kid 4).length c2, .slice A1 1 c1, .slice ka key.length kc] 25))
  have hlw : w.heap.size ≤ (W.alloc (.cells #[.slice A2 (Vint.fixL kid 4).length c2, .slice A1 1 c1, .slice ka key.length kc] 25)).heap.size := Nat.le_trans hB1.size hB4.size
  clear hcat hR4 hr1 hr2
  refine rg_make 11 rfl (by kernel_rfl) (by rfl) ⟨_, _, by (go_simp <;> first | exact ⟨rfl, rfl⟩ | rfl), Ext.alloc _ _, ?_⟩
  simp only [Act.put, List.setIfInBounds_toArray, List.set_cons_zero, List.set_cons_succ]
  refine rg_call2 12 rfl (by kernel_rfl) (by rfl) (by go_simp) h5 ?_
  rintro e w5 ⟨A5, c5, rfl, ho5, hb5⟩
  refine ⟨_, rfl, hb5, ?_⟩
  simp only [Act.put, List.setIfInBounds_toArray, List.set_cons_zero, List.set_cons_succ]
  refine rg_take 13 rfl (by kernel_rfl) (by kernel_rfl) (by kernel_rfl) (fun _ _ _ _ h => h) (by rfl) ⟨_, fun w' hx => by (go_simp <;> with_reducible rfl), ?_⟩
  simp only [Act.put, List.setIfInBounds_toArray, List.set_cons_zero, List.set_cons_succ]
  refine rg_take 14 rfl (by kernel_rfl) (by kernel_rfl) (by kernel_rfl) (fun _ _ _ _ h => h) (by rfl) ⟨_, fun w' hx => by (go_simp <;> with_reducible rfl), ?_⟩
  simp only [Act.put, List.setIfInBounds_toArray, List.set_cons_zero, List.set_cons_succ]
  refine rg_done (by kernel_rfl) ?_
  have hfin := Ext.tr hB1 (Ext.tr hB4 hb5)
  clear h5
  go_wp2
  go_ret2
  exact ⟨A5, c5, rfl, ho5.mono hlw, hfin⟩

set_option maxRecDepth 100000 in
set_option maxHeartbeats 4000000 in
theorem ref_putInner_yes (ka : Option Addr) (kc : Nat) (va : Option Addr) (vc : Nat) (key : List UInt8) (kid : Nat) (w : World) (hk : RdB w ka key) (h24 : key.length ≤ 24) (hkid : kid < 4294967296)
    (hin : (Cl.mk key 0 [] 0 kid).inner = true) (D : List UInt8) (hD : D = Vint.fixL kid 4 ++ UInt8.ofNat key.length :: key) :
    Calls Tryz.prog 60 #[.agg #[.slice ka key.length kc, .int .i64 0, .slice va 0 vc, .int .u32 0, .int .u32 (kid : Int)]] w fun e w' => ∃ A' c', e = .returned (.tuple #[.slice A' D.length c', .int .i64 0]) ∧ Own w' w.heap.size 5 1 A' D.length c' (bvs D) ∧ Below w.heap.size w w' := by
  have hL := ref_Inner ⟨ka, kc, va, vc, ⟨key, 0, [], 0, kid⟩⟩ (w.alloc (.cells #[.slice ka key.length kc, .int .i64 0, .slice va 0 vc, .int .u32 0, .int .u32 (kid : Int)] 43))
  rw [hin] at hL
  simp only [CellV.val, CellV.cells, List.length_nil, Int.natCast_zero] at hL
  have hwu : IntKind.u64.wrap (kid : Int) = (kid : Int) := wrap_u64 kid (by omega)
  have hwk : IntKind.u8.wrap (key.length : Int) = (key.length : Int) := by simp [IntKind.wrap, IntKind.bits, IntKind.signed]; omega
  have hnew := new_key key.length h24
  have hown := own_key key.length h24
  have hlen : D.length = 5 + key.length := by rw [hD]; simp [Vint.fixL_len]; omega
  have HD := Lib.hid hD
  have Hlen := Lib.hid hlen
  have hf4 := Vint.fixL_len kid 4
  have g0 := heap_alloc_new w (.cells #[.slice ka key.length kc, .int .i64 0, .slice va 0 vc, .int .u32 0, .int .u32 (kid : Int)] 43)
  have hB0 := Ext.alloc w (.cells #[.slice ka key.length kc, .int .i64 0, .slice va 0 vc, .int .u32 0, .int .u32 (kid : Int)] 43)
  clear hin hD hlen
  go_enter Tryz.func60, Tryz.ntmps60
  go_wp2_with fail
  refine hL.mono ?_
  rintro e w1 ⟨rfl, hb1⟩
  have g1 := (hb1.block _ (lt_of_heap g0)).trans g0
  have hB1 := Ext.tr hB0 hb1
  obtain ⟨W1, hW1⟩ : ∃ W1, W1 = w1 := ⟨_, rfl⟩
  rw [← hW1] at g1 hB1 ⊢
  have hk0 : W1.cell? ⟨w.heap.size, 0, none⟩ = some (.slice ka key.length kc) := cell_of_row W1 _ 0 _ _ _ g1
  have hn0 : W1.cell? ⟨w.heap.size, 4, none⟩ = some (.int .u32 (kid : Int)) := cell_of_row W1 _ 4 _ _ _ g1
  have hkr := hk.below hB1
  clear g0 g1 hB0 hb1 hL hW1
  go_wp2_with fail
  refine rg_start (by kernel_rfl) ?_
  refine rg_take 0 rfl (by kernel_rfl) (by kernel_rfl) (by kernel_rfl) (fun _ _ _ _ h => h) (by rfl) ⟨_, fun w' hx => by (go_simp <;> with_reducible rfl), ?_⟩   -- t8 := fieldAddr 25 t1 4
  simp only [Act.put, List.setIfInBounds_toArray, List.set_cons_zero, List.set_cons_succ]
  refine rg_take 1 rfl (by kernel_rfl) (by kernel_rfl) (by kernel_rfl) (fun _ _ _ _ h => h) (by rfl) ⟨_, fun w' hx => by have hcx := hx.load hn0; (go_simp <;> with_reducible rfl), ?_⟩
  simp only [Act.put, List.setIfInBounds_toArray, List.set_cons_zero, List.set_cons_succ]
  refine rg_take 2 rfl (by kernel_rfl) (by kernel_rfl) (by kernel_rfl) (fun _ _ _ _ h => h) (by rfl) ⟨_, fun w' hx => by (go_simp <;> with_reducible rfl), ?_⟩
  simp only [Act.put, List.setIfInBounds_toArray, List.set_cons_zero, List.set_cons_succ]
  refine rg_take 4 rfl (by kernel_rfl) (by kernel_rfl) (by kernel_rfl) (fun _ _ _ _ h => h) (by rfl) ⟨_, fun w' hx => by (go_simp <;> with_reducible rfl), ?_⟩   -- t12 := fieldAddr 25 t1 0
  simp only [Act.put, List.setIfInBounds_toArray, List.set_cons_zero, List.set_cons_succ]
  refine rg_take 5 rfl (by kernel_rfl) (by kernel_rfl) (by kernel_rfl) (fun _ _ _ _ h => h) (by rfl) ⟨_, fun w' hx => by have hcx := hx.load hk0; (go_simp <;> with_reducible rfl), ?_⟩
  simp only [Act.put, List.setIfInBounds_toArray, List.set_cons_zero, List.set_cons_succ]
  refine rg_take 6 rfl (by kernel_rfl) (by kernel_rfl) (by kernel_rfl) (fun _ _ _ _ h => h) (by rfl) ⟨_, fun w' hx => by (go_simp <;> with_reducible rfl), ?_⟩   -- t14 := len(t13)
  simp only [Act.put, List.setIfInBounds_toArray, List.set_cons_zero, List.set_cons_succ]
  refine rg_take 7 rfl (by kernel_rfl) (by kernel_rfl) (by kernel_rfl) (fun _ _ _ _ h => h) (by rfl) ⟨_, fun w' hx => by (go_simp <;> with_reducible rfl), ?_⟩
  simp only [Act.put, List.setIfInBounds_toArray, List.set_cons_zero, List.set_cons_succ]
  -- BRANCH: 3: t11 := scow/scowref01.Fixed#26(t10, 4:i64) | 8: t16 := buildSlice 22 1 [(0, t15)]
  refine rg_par2 3 11 (IsO W1.heap.size 5 (Vint.fixL kid 4)) 8 16 (IsB [UInt8.ofNat key.length]) _ _ rfl rfl (by kernel_rfl) (IsO.st _ _ _) (IsB.st _) (fun _ _ => by rfl) (fun _ _ => by rfl) ?_ ?_ ?_
  · intro v u W hx
    simp only [Act.put, List.setIfInBounds_toArray, List.set_cons_zero, List.set_cons_succ]
    refine yld_call (by go_simp) (ref_fixed01 kid (by omega) 4 _) ?_
    rintro e w2 ⟨A2, c2, rfl, ho2, hb2⟩
    rw [fixed4] at ho2 ⊢
    exact ⟨_, rfl, hb2, A2, c2, rfl, ho2.mono (by have := hx.size; simpa using this)⟩
  · intro v u W hx
    simp only [Act.put, List.setIfInBounds_toArray, List.set_cons_zero, List.set_cons_succ]
    exact yld_make ⟨_, _, by (go_simp <;> first | exact ⟨rfl, rfl⟩ | rfl), Ext.alloc _ _, _, _, rfl, hnew W, Nat.le_refl _⟩
  rintro v u W hxW ⟨A2, c2, rfl, hr2⟩ ⟨A1, c1, rfl, hr1, -⟩
  simp only [Act.put, List.setIfInBounds_toArray, List.set_cons_zero, List.set_cons_succ]
  simp only [List.length_singleton]
  have hB : Ext W1 W := Ext.tr (Ext.drew W1) hxW
  have hsz := hB.size
  refine rg_last 9 rfl (by kernel_rfl) (by kernel_rfl) (by rfl) fun K hK => wp_app (.tmp 11) (.tmp 16) 25 rfl elemB W1.heap.size A2 (Vint.fixL kid 4).length c2 _ rfl A1 1 c1 (bvs [UInt8.ofNat key.length]) rfl 5 (by rw [hf4]) (bvs (Vint.fixL kid 4 ++ [UInt8.ofNat key.length])) (bvs_app _ _) hr2 hr1 (bvs_one _) (by omega) (by omega) hsz fun A3 c3 w3 ho3 hg3 hw3 => hK _ _ ?_
  have hB3 : Ext W1 w3 := below_app hB hr2 hg3 hsz
  simp only [Act.put, List.setIfInBounds_toArray, List.set_cons_zero, List.set_cons_succ]
  refine rg_take 10 rfl (by kernel_rfl) (by kernel_rfl) (by kernel_rfl) (fun _ _ _ _ h => h) (by rfl) ⟨_, fun w' hx => by (go_simp <;> with_reducible rfl), ?_⟩
  simp only [Act.put, List.setIfInBounds_toArray, List.set_cons_zero, List.set_cons_succ]
  refine rg_done (by kernel_rfl) ?_
  have hk3 := hB3.load hk0
  have hkr3 := hkr.below hB3
  have hsz3 := hB3.size
  clear hr1 hr2 hg3 hw3 hB
  go_wp2_with (at_builtin; refine wpList_app rfl (.tmp 18) (.tmp 20) 25 rfl elemB W1.heap.size A3 5 c3 _ rfl ka key.length kc (bvs key) rfl D.length Hlen.out (bvs D) (by rw [← bvs_app, HD.out]; simp) ho3 hkr3 (bvs_one _) (by rw [Hlen.out]; omega) (by rw [Hlen.out]; omega) hsz3 ?_; intro A4 c4 w4 ho4 hg4 hr4)
  go_ret2
  exact ⟨A4, c4, rfl, ho4.mono hB1.size, Ext.tr hB1 (below_app hB3 ho3 hg4 hsz3)⟩

theorem putInner_any (c : CellV) (w : World) (hc : c.In w) : Calls Tryz.prog 57 #[c.val] w fun e w' => ∃ A' c', e = .returned (.tuple #[.slice A' c.x.putI.1.length c', .int .i64 (c.x.putI.2 : Int)]) ∧ Own w' w.heap.size 5 1 A' c.x.putI.1.length c' (bvs c.x.putI.1) ∧ Below w.heap.size w w' := by
  cases h : c.x.inner with
  | false =>
    have e1 : c.x.putI = ([], 70) := by unfold Cl.putI; rw [if_neg (by rw [h]; simp)]
    rw [e1]
    refine (putInner_no c w h).mono ?_
    rintro e w' ⟨rfl, hb⟩
    exact ⟨none, 0, rfl, Own.none_ _ _ _ _ _, hb⟩
  | true =>
    have e1 : c.x.putI = (c.x.flatI, 0) := by unfold Cl.putI; rw [if_pos h]
    rw [e1]
    obtain ⟨ka, kc, va, vc, ⟨key, size, val, over, kid⟩⟩ := c
    obtain ⟨h1, h2, h3, h4, h5⟩ := inner_facts h
    simp only at h1 h2 h3 h4 h5
    subst h3 h4 h5
    exact putInner_yes ka kc va vc key kid w hc.kr h1 hc.kid h _ rfl

theorem ref_putInner (c : CellV) (w : World) (hc : c.In w) : Calls Tryz.prog 60 #[c.val] w fun e w' => ∃ A' c', e = .returned (.tuple #[.slice A' c.x.putI.1.length c', .int .i64 (c.x.putI.2 : Int)]) ∧ Own w' w.heap.size 5 1 A' c.x.putI.1.length c' (bvs c.x.putI.1) ∧ Below w.heap.size w w' := by
  cases h : c.x.inner with
  | false =>
    have e1 : c.x.putI = ([], 70) := by unfold Cl.putI; rw [if_neg (by rw [h]; simp)]
    rw [e1]
    refine (ref_putInner_no c w h).mono ?_
    rintro e w' ⟨rfl, hb⟩
    exact ⟨none, 0, rfl, Own.none_ _ _ _ _ _, hb⟩
  | true =>
    have e1 : c.x.putI = (c.x.flatI, 0) := by unfold Cl.putI; rw [if_pos h]
    rw [e1]
    obtain ⟨ka, kc, va, vc, ⟨key, size, val, over, kid⟩⟩ := c
    obtain ⟨h1, h2, h3, h4, h5⟩ := inner_facts h
    simp only at h1 h2 h3 h4 h5
    subst h3 h4 h5
    exact ref_putInner_yes ka kc va vc key kid w hc.kr h1 hc.kid h _ rfl

set_option maxRecDepth 100000 in
set_option maxHeartbeats 4000000 in
theorem ref_putLeaf_small (ka : Option Addr) (kc : Nat) (va : Option Addr) (vc : Nat) (key : List UInt8) (n : Nat) (val : List UInt8) (over kid : Nat) (w : World) (hk : RdB w ka key) (hv : RdB w va val) (h24 : key.length ≤ 24) (hn : n ≤ 1000) (h40 : n ≤ 40)
    (hvl : val.length ≤ 40) (_hov : over < 4294967296) (hlf : (Cl.mk key n val over kid).leaf = true) (D : List UInt8) (hD : D = UInt8.ofNat key.length :: (key ++ (Vint.put n ++ val))) :
    Calls Tryz.prog 59 #[.agg #[.slice ka key.length kc, .int .i64 (n : Int), .slice va val.length vc, .int .u32 (over : Int), .int .u32 (kid : Int)]] w fun e w' => ∃ A' c', e = .returned (.tuple #[.slice A' D.length c', .int .i64 0]) ∧ Own w' w.heap.size 5 1 A' D.length c' (bvs D) ∧ Below w.heap.size w w' := by
  have hL := ref_Leaf ⟨ka, kc, va, vc, ⟨key, n, val, over, kid⟩⟩ (w.alloc (.cells #[.slice ka key.length kc, .int .i64 (n : Int), .slice va val.length vc, .int .u32 (over : Int), .int .u32 (kid : Int)] 43))
  rw [hlf] at hL
  simp only [CellV.val, CellV.cells] at hL
  have hwu : IntKind.u64.wrap (n : Int) = (n : Int) := wrap_u64 n (by omega)
  have hwk : IntKind.u8.wrap (key.length : Int) = (key.length : Int) := by simp [IntKind.wrap, IntKind.bits, IntKind.signed]; omega
  have hpl := (Vint.put_len n).2
  have hown := own_key key.length h24
  have HD := Lib.hid hD
  have g0 := heap_alloc_new w (.cells #[.slice ka key.length kc, .int .i64 (n : Int), .slice va val.length vc, .int .u32 (over : Int), .int .u32 (kid : Int)] 43)
  have hB0 := Ext.alloc w (.cells #[.slice ka key.length kc, .int .i64 (n : Int), .slice va val.length vc, .int .u32 (over : Int), .int .u32 (kid : Int)] 43)
  clear hlf hD
  go_enter Tryz.func59, Tryz.ntmps59
  go_wp2_with fail
  refine hL.mono ?_
  rintro e w1 ⟨rfl, hb1⟩
  have g1 := (hb1.block _ (lt_of_heap g0)).trans g0
  have hB1 := Ext.tr hB0 hb1
  have hc0 : w1.cell? ⟨w.heap.size, 0, none⟩ = some (.slice ka key.length kc) := cell_of_row w1 _ 0 _ _ _ g1
  have hc1 : w1.cell? ⟨w.heap.size, 1, none⟩ = some (.int .i64 (n : Int)) := cell_of_row w1 _ 1 _ _ _ g1
  have hc2 : w1.cell? ⟨w.heap.size, 2, none⟩ = some (.slice va val.length vc) := cell_of_row w1 _ 2 _ _ _ g1
  have hc3 : w1.cell? ⟨w.heap.size, 3, none⟩ = some (.int .u32 (over : Int)) := cell_of_row w1 _ 3 _ _ _ g1
  have Hc1 := Lib.hid hc1
  have Hc2 := Lib.hid hc2
  have Hc3 := Lib.hid hc3
  have ho1 := hown w1
  have hBa := Ext.alloc w1 (.cells #[.int .u8 (key.length : Int)] 5)
  have hka := (hk.below hB1).below hBa
  have hsza := hBa.size
  have hca := Ext.load hBa hc0
  clear g0 g1 hB0 hb1 hL hc1 hc2 hc3 hown
  go_wp2_with (at_builtin; go_loud (refine wpList_app rfl (.tmp 12) (.tmp 14) 25 rfl elemB w1.heap.size (some ⟨w1.heap.size, 0, none⟩) 1 1 _ rfl ka key.length kc (bvs key) rfl (1 + key.length) rfl (bvs (UInt8.ofNat key.length :: key)) (bvs_app [_] _) ho1 hka (bvs_one _) (by omega) (by omega) hsza ?_); intro A2 c2 w2 ho2 hg2 hr2; have hd1 := Ext.load (below_app hBa ho1 hg2 hsza) Hc1.out)
  have hB2 : Ext w1 w2 := below_app hBa ho1 hg2 hsza
  clear ho1 hg2 hr2 hc0 hca hd1 hka
  refine (ref_put01 n (by omega) w2).mono ?_
  rintro e w3 ⟨A3, c3, rfl, ho3, hb3⟩
  have hB3 : Ext w1 w3 := Ext.tr hB2 hb3
  have ho23 := ho2.below hb3
  have hsz3 := hB3.size
  have hr3 := ho3.rd'
  clear ho3 ho2 hB2 hb3
  go_wp2_with (first | (at_builtin; refine wpList_app rfl (.tmp 16) (.tmp 20) 25 rfl elemB w1.heap.size A2 (1 + key.length) c2 _ rfl A3 (Vint.put n).length c3 (bvs (Vint.put n)) rfl (1 + key.length + (Vint.put n).length) rfl (bvs (UInt8.ofNat key.length :: key ++ Vint.put n)) (bvs_app _ _) ho23 hr3 (bvs_one _) (by omega) (by omega) hsz3 ?_; intro A4 c4 w4 ho4 hg4 hr4; have he1 := Ext.load (below_app hB3 ho23 hg4 hsz3) Hc1.out; have he2 := Ext.load (below_app hB3 ho23 hg4 hsz3) Hc2.out; have he3 := Ext.load (below_app hB3 ho23 hg4 hsz3) Hc3.out; have hB4 : Ext w1 w4 := below_app hB3 ho23 hg4 hsz3; have hsz4 := hB4.size; have hz : Hid (bvs D = bvs (UInt8.ofNat key.length :: key ++ Vint.put n) ++ bvs (val)) := (by show _ = _; rw [← bvs_app, HD.out]; simp); have hDl : D.length = 1 + key.length + (Vint.put n).length + (val).length := (by rw [HD.out]; simp; omega); have HDl := Lib.hid hDl; clear ho23 hg4 hr4 hr3 he3 hDl; have hv4 := (hv.below hB1).below hB4) | (at_builtin; refine wpList_app rfl (.tmp 25) (.tmp 27) 25 rfl elemB w1.heap.size A4 (1 + key.length + (Vint.put n).length) c4 _ rfl va val.length vc (bvs val) rfl D.length HDl.out (bvs D) hz.out ho4 hv4 (bvs_one _) (by rw [HDl.out]; omega) (by rw [HDl.out]; omega) hsz4 ?_; intro A6 c6 w6 ho6 hg6 hr6))
  go_ret2
  exact ⟨A6, c6, rfl, ho6.mono hB1.size, Ext.tr hB1 (below_app hB4 ho4 hg6 hsz4)⟩

set_option maxRecDepth 100000 in
set_option maxHeartbeats 4000000 in
theorem ref_putLeaf_big (ka : Option Addr) (kc : Nat) (va : Option Addr) (vc : Nat) (key : List UInt8) (n : Nat) (val : List UInt8) (over kid : Nat) (w : World) (hk : RdB w ka key) (_hv : RdB w va val) (h24 : key.length ≤ 24) (hn : n ≤ 1000) (h40 : ¬ n ≤ 40)
    (hvl : val.length ≤ 40) (_hov : over < 4294967296) (hlf : (Cl.mk key n val over kid).leaf = true) (D : List UInt8) (hD : D = UInt8.ofNat key.length :: (key ++ (Vint.put n ++ Vint.fixL over 4))) :
    Calls Tryz.prog 59 #[.agg #[.slice ka key.length kc, .int .i64 (n : Int), .slice va val.length vc, .int .u32 (over : Int), .int .u32 (kid : Int)]] w fun e w' => ∃ A' c', e = .returned (.tuple #[.slice A' D.length c', .int .i64 0]) ∧ Own w' w.heap.size 5 1 A' D.length c' (bvs D) ∧ Below w.heap.size w w' := by
  have hL := ref_Leaf ⟨ka, kc, va, vc, ⟨key, n, val, over, kid⟩⟩ (w.alloc (.cells #[.slice ka key.length kc, .int .i64 (n : Int), .slice va val.length vc, .int .u32 (over : Int), .int .u32 (kid : Int)] 43))
  rw [hlf] at hL
  simp only [CellV.val, CellV.cells] at hL
  have hwu : IntKind.u64.wrap (n : Int) = (n : Int) := wrap_u64 n (by omega)
  have hwk : IntKind.u8.wrap (key.length : Int) = (key.length : Int) := by simp [IntKind.wrap, IntKind.bits, IntKind.signed]; omega
  have hpl := (Vint.put_len n).2
  have hown := own_key key.length h24
  have HD := Lib.hid hD
  have g0 := heap_alloc_new w (.cells #[.slice ka key.length kc, .int .i64 (n : Int), .slice va val.length vc, .int .u32 (over : Int), .int .u32 (kid : Int)] 43)
  have hB0 := Ext.alloc w (.cells #[.slice ka key.length kc, .int .i64 (n : Int), .slice va val.length vc, .int .u32 (over : Int), .int .u32 (kid : Int)] 43)
  clear hlf hD
  go_enter Tryz.func59, Tryz.ntmps59
  go_wp2_with fail
  refine hL.mono ?_
  rintro e w1 ⟨rfl, hb1⟩
  have g1 := (hb1.block _ (lt_of_heap g0)).trans g0
  have hB1 := Ext.tr hB0 hb1
  have hc0 : w1.cell? ⟨w.heap.size, 0, none⟩ = some (.slice ka key.length kc) := cell_of_row w1 _ 0 _ _ _ g1
  have hc1 : w1.cell? ⟨w.heap.size, 1, none⟩ = some (.int .i64 (n : Int)) := cell_of_row w1 _ 1 _ _ _ g1
  have hc2 : w1.cell? ⟨w.heap.size, 2, none⟩ = some (.slice va val.length vc) := cell_of_row w1 _ 2 _ _ _ g1
  have hc3 : w1.cell? ⟨w.heap.size, 3, none⟩ = some (.int .u32 (over : Int)) := cell_of_row w1 _ 3 _ _ _ g1
  have Hc1 := Lib.hid hc1
  have Hc2 := Lib.hid hc2
  have Hc3 := Lib.hid hc3
  have ho1 := hown w1
  have hBa := Ext.alloc w1 (.cells #[.int .u8 (key.length : Int)] 5)
  have hka := (hk.below hB1).below hBa
  have hsza := hBa.size
  have hca := Ext.load hBa hc0
  clear g0 g1 hB0 hb1 hL hc1 hc2 hc3 hown
  go_wp2_with (at_builtin; go_loud (refine wpList_app rfl (.tmp 12) (.tmp 14) 25 rfl elemB w1.heap.size (some ⟨w1.heap.size, 0, none⟩) 1 1 _ rfl ka key.length kc (bvs key) rfl (1 + key.length) rfl (bvs (UInt8.ofNat key.length :: key)) (bvs_app [_] _) ho1 hka (bvs_one _) (by omega) (by omega) hsza ?_); intro A2 c2 w2 ho2 hg2 hr2; have hd1 := Ext.load (below_app hBa ho1 hg2 hsza) Hc1.out)
  have hB2 : Ext w1 w2 := below_app hBa ho1 hg2 hsza
  clear ho1 hg2 hr2 hc0 hca hd1 hka
  refine (ref_put01 n (by omega) w2).mono ?_
  rintro e w3 ⟨A3, c3, rfl, ho3, hb3⟩
  have hB3 : Ext w1 w3 := Ext.tr hB2 hb3
  have ho23 := ho2.below hb3
  have hsz3 := hB3.size
  have hr3 := ho3.rd'
  clear ho3 ho2 hB2 hb3
  go_wp2_with (at_builtin; refine wpList_app rfl (.tmp 16) (.tmp 20) 25 rfl elemB w1.heap.size A2 (1 + key.length) c2 _ rfl A3 (Vint.put n).length c3 (bvs (Vint.put n)) rfl (1 + key.length + (Vint.put n).length) rfl (bvs (UInt8.ofNat key.length :: key ++ Vint.put n)) (bvs_app _ _) ho23 hr3 (bvs_one _) (by omega) (by omega) hsz3 ?_; intro A4 c4 w4 ho4 hg4 hr4; have he1 := Ext.load (below_app hB3 ho23 hg4 hsz3) Hc1.out; have he2 := Ext.load (below_app hB3 ho23 hg4 hsz3) Hc2.out; have he3 := Ext.load (below_app hB3 ho23 hg4 hsz3) Hc3.out)
  have hB4 : Ext w1 w4 := below_app hB3 ho23 hg4 hsz3
  have hsz4 := hB4.size
  have hz : Hid (bvs D = bvs (UInt8.ofNat key.length :: key ++ Vint.put n) ++ bvs (Vint.fixL over 4)) := by show _ = _; rw [← bvs_app, HD.out]; simp
  have hDl : D.length = 1 + key.length + (Vint.put n).length + (Vint.fixL over 4).length := by rw [HD.out]; simp; omega
  have HDl := Lib.hid hDl
  clear ho23 hg4 hr4 hr3 he1 hDl
  refine (ref_fixed01 over (by omega) 4 w4).mono ?_
  rintro e w5 ⟨A5, c5, rfl, ho5, hb5⟩
  rw [fixed4] at ho5 ⊢
  have hB5 := Ext.tr hB4 hb5
  have ho45 := ho4.below hb5
  have hr5 := ho5.rd'
  have hsz5 := hB5.size
  have hf4 := Vint.fixL_len over 4
  clear ho5 hb5 he2 he3
  go_wp2_with (at_builtin; refine wpList_app rfl (.tmp 29) (.tmp 33) 25 rfl elemB w1.heap.size A4 (1 + key.length + (Vint.put n).length) c4 _ rfl A5 (Vint.fixL over 4).length c5 (bvs (Vint.fixL over 4)) rfl D.length HDl.out (bvs D) hz.out ho45 hr5 (bvs_one _) (by rw [HDl.out]; omega) (by rw [HDl.out]; omega) hsz5 ?_; intro A6 c6 w6 ho6 hg6 hr6)
  go_ret2
  exact ⟨A6, c6, rfl, ho6.mono hB1.size, Ext.tr hB1 (below_app hB5 ho45 hg6 hsz5)⟩

theorem ref_putLeaf (c : CellV) (w : World) (hc : c.In w) : Calls Tryz.prog 59 #[c.val] w fun e w' => ∃ A' c', e = .returned (.tuple #[.slice A' c.x.putL.1.length c', .int .i64 (c.x.putL.2 : Int)]) ∧ Own w' w.heap.size 5 1 A' c.x.putL.1.length c' (bvs c.x.putL.1) ∧ Below w.heap.size w w' := by
  cases h : c.x.leaf with
  | false =>
    have e1 : c.x.putL = ([], 70) := by unfold Cl.putL; rw [if_neg (by rw [h]; simp)]
    rw [e1]
    refine (ref_putLeaf_no c w h).mono ?_
    rintro e w' ⟨rfl, hb⟩
    exact ⟨none, 0, rfl, Own.none_ _ _ _ _ _, hb⟩
  | true =>
    have e1 : c.x.putL = (c.x.flatL, 0) := by unfold Cl.putL; rw [if_pos h]
    rw [e1]
    obtain ⟨ka, kc, va, vc, ⟨key, size, val, over, kid⟩⟩ := c
    obtain ⟨h1, h2, h3, h4, h5, h6, h7⟩ := leaf_facts h
    obtain ⟨n, rfl⟩ := Int.eq_ofNat_of_zero_le h3
    by_cases h40 : n ≤ 40
    · refine ref_putLeaf_small ka kc va vc key n val over kid w hc.kr hc.vr h2 (by simp only at h4; omega) h40 (by have := (h6 (by simp only; omega)).1; simp only at this; omega) hc.over h _ ?_
      unfold Cl.flatL
      simp only [Int.toNat_natCast]
      rw [if_pos (by omega)]
      simp
    · refine ref_putLeaf_big ka kc va vc key n val over kid w hc.kr hc.vr h2 (by simp only at h4; omega) h40 (by have := (h7 (by simp only; omega)).1; simp only at this; rw [this]; simp) hc.over h _ ?_
      unfold Cl.flatL
      simp only [Int.toNat_natCast]
      rw [if_neg (by omega)]
      simp

end Go.Proofs.YtkpagmfaccmiaaaGreat
