
/- Contracts: cells as bytes (cell.PutLeaf, cell.PutInner, the document's). Printed by wip/tools/gen_cellput07.py. -/

import Derived.Test.YtkpagmfaccmiaaaGreatCellProg

import Derived.Test.YtkpagmfaccmiaaaGreatMem2

import Derived.Test.YtkpagmfaccmiaaaGreatReg3

import Derived.Test.YtkpagmfaccmiaaaGreatVintPut

import Derived.Test.YtkpagmfaccmiaaaGreatSlices

import Derived.Test.YtkpagmfaccmiaaaGreatVintRef2

import Derived.Test.YtkpagmfaccmiaaaGreatVintRefN

namespace Go.Proofs.YtkpagmfaccmiaaaGreat

open Go.RowKit

attribute [local go_sem] Oper.semAt_some

structure CellV.In (w : World) (c : CellV) : Prop where
  over : c.x.over < 4294967296
  kid : c.x.kid < 4294967296
  lo : -9223372036854775808 ≤ c.x.size
  hi : c.x.size ≤ 9223372036854775807
  kr : RdB w c.ka c.x.key
  vr : RdB w c.va c.x.val
  kcap : c.x.key.length ≤ c.kc
  vcap : c.x.val.length ≤ c.vc
theorem CellV.In.below {w w' : World} {c : CellV} (h : c.In w) (hb : Below w.heap.size w w') : c.In w' := ⟨h.over, h.kid, h.lo, h.hi, h.kr.below hb, h.vr.below hb, h.kcap, h.vcap⟩
theorem fixed4 (n : Nat) : Vint.fixed n 4 = Vint.fixL n 4 := by unfold Vint.fixed; rw [if_pos (by omega)]; rfl
theorem leaf_facts {c : Cl} (h : c.leaf = true) : 1 ≤ c.key.length ∧ c.key.length ≤ 24 ∧ 0 ≤ c.size ∧ c.size ≤ 1000 ∧ c.kid = 0 ∧ (c.size ≤ 40 → (c.val.length : Int) = c.size ∧ c.over = 0) ∧ (¬ c.size ≤ 40 → c.val = [] ∧ 0 < c.over) := by
  unfold Cl.leaf at h
  simp only [Bool.and_eq_true, decide_eq_true_eq] at h
  obtain ⟨⟨⟨⟨⟨h1, h2⟩, h3⟩, h4⟩, h5⟩, h6⟩ := h
  refine ⟨h1, h2, h3, h4, h5, fun h40 => ?_, fun h40 => ?_⟩
  · rw [if_pos h40] at h6
    simpa using h6
  · rw [if_neg h40] at h6
    simp only [Bool.and_eq_true, decide_eq_true_eq] at h6
    exact ⟨List.length_eq_zero_iff.1 h6.1, h6.2⟩
theorem new_key (n : Nat) (hn : n ≤ 24) (W : World) : RdB (W.alloc (.cells #[.int .u8 (n : Int)] 5)) (some ⟨W.heap.size, 0, none⟩) [UInt8.ofNat n] := by
  have h := RdB.lit W 5 [UInt8.ofNat n]
  have e : (bvs [UInt8.ofNat n]).toArray = #[.int .u8 (n : Int)] := by
    simp only [bvs, List.map_cons, List.map_nil, bv, UInt8.toNat_ofNat']
    rw [Nat.mod_eq_of_lt (by omega)]
  rwa [e] at h

set_option maxRecDepth 100000 in
set_option maxHeartbeats 2000000 in
theorem putLeaf_no (c : CellV) (w : World) (h : c.x.leaf = false) : Calls Tryz.prog 55 #[c.val] w fun e w' => e = .returned (.tuple #[.slice none 0 0, .int .i64 70]) ∧ Below w.heap.size w w' := by
  obtain ⟨ka, kc, va, vc, ⟨key, size, val, over, kid⟩⟩ := c
  have hE := Ext.alloc w (.cells #[.slice ka key.length kc, .int .i64 size, .slice va val.length vc, .int .u32 (over : Int), .int .u32 (kid : Int)] 43)
  have hL := isLeaf_any ⟨ka, kc, va, vc, ⟨key, size, val, over, kid⟩⟩ (w.alloc (.cells #[.slice ka key.length kc, .int .i64 size, .slice va val.length vc, .int .u32 (over : Int), .int .u32 (kid : Int)] 43))
  rw [h] at hL
  simp only [CellV.val, CellV.cells] at hL ⊢
  clear h
  go_enter Tryz.func55, Tryz.ntmps55
  go_wp2_with fail
  refine hL.mono ?_
  rintro e w1 ⟨rfl, hb1⟩
  go_wp2_with fail
  go_ret2
  exact ⟨rfl, Ext.tr hE hb1⟩

set_option maxRecDepth 100000 in
set_option maxHeartbeats 2000000 in
theorem ref_putLeaf_no (c : CellV) (w : World) (h : c.x.leaf = false) : Calls Tryz.prog 59 #[c.val] w fun e w' => e = .returned (.tuple #[.slice none 0 0, .int .i64 70]) ∧ Below w.heap.size w w' := by
  obtain ⟨ka, kc, va, vc, ⟨key, size, val, over, kid⟩⟩ := c
  have hE := Ext.alloc w (.cells #[.slice ka key.length kc, .int .i64 size, .slice va val.length vc, .int .u32 (over : Int), .int .u32 (kid : Int)] 43)
  have hL := ref_Leaf ⟨ka, kc, va, vc, ⟨key, size, val, over, kid⟩⟩ (w.alloc (.cells #[.slice ka key.length kc, .int .i64 size, .slice va val.length vc, .int .u32 (over : Int), .int .u32 (kid : Int)] 43))
  rw [h] at hL
  simp only [CellV.val, CellV.cells] at hL ⊢
  clear h
  go_enter Tryz.func59, Tryz.ntmps59
  go_wp2_with fail
  refine hL.mono ?_
  rintro e w1 ⟨rfl, hb1⟩
  go_wp2_with fail
  go_ret2
  exact ⟨rfl, Ext.tr hE hb1⟩

set_option maxRecDepth 100000 in
set_option maxHeartbeats 2000000 in
theorem putInner_no (c : CellV) (w : World) (h : c.x.inner = false) : Calls Tryz.prog 57 #[c.val] w fun e w' => e = .returned (.tuple #[.slice none 0 0, .int .i64 70]) ∧ Below w.heap.size w w' := by
  obtain ⟨ka, kc, va, vc, ⟨key, size, val, over, kid⟩⟩ := c
  have hE := Ext.alloc w (.cells #[.slice ka key.length kc, .int .i64 size, .slice va val.length vc, .int .u32 (over : Int), .int .u32 (kid : Int)] 43)
  have hL := isInner_any ⟨ka, kc, va, vc, ⟨key, size, val, over, kid⟩⟩ (w.alloc (.cells #[.slice ka key.length kc, .int .i64 size, .slice va val.length vc, .int .u32 (over : Int), .int .u32 (kid : Int)] 43))
  rw [h] at hL
  simp only [CellV.val, CellV.cells] at hL ⊢
  clear h
  go_enter Tryz.func57, Tryz.ntmps57
  go_wp2_with fail
  refine hL.mono ?_
  rintro e w1 ⟨rfl, hb1⟩
  go_wp2_with fail
  go_ret2
  exact ⟨rfl, Ext.tr hE hb1⟩

set_option maxRecDepth 100000 in
set_option maxHeartbeats 2000000 in
theorem ref_putInner_no (c : CellV) (w : World) (h : c.x.inner = false) : Calls Tryz.prog 60 #[c.val] w fun e w' => e = .returned (.tuple #[.slice none 0 0, .int .i64 70]) ∧ Below w.heap.size w w' := by
  obtain ⟨ka, kc, va, vc, ⟨key, size, val, over, kid⟩⟩ := c
  have hE := Ext.alloc w (.cells #[.slice ka key.length kc, .int .i64 size, .slice va val.length vc, .int .u32 (over : Int), .int .u32 (kid : Int)] 43)
  have hL := ref_Inner ⟨ka, kc, va, vc, ⟨key, size, val, over, kid⟩⟩ (w.alloc (.cells #[.slice ka key.length kc, .int .i64 size, .slice va val.length vc, .int .u32 (over : Int), .int .u32 (kid : Int)] 43))
  rw [h] at hL
  simp only [CellV.val, CellV.cells] at hL ⊢
  clear h
  go_enter Tryz.func60, Tryz.ntmps60
  go_wp2_with fail
  refine hL.mono ?_
  rintro e w1 ⟨rfl, hb1⟩
  go_wp2_with fail
  go_ret2
  exact ⟨rfl, Ext.tr hE hb1⟩

set_option maxRecDepth 100000 in
set_option maxHeartbeats 1000000 in
theorem putLeaf_small (ka : Option Addr) (kc : Nat) (va : Option Addr) (vc : Nat) (key : List UInt8) (n : Nat) (val : List UInt8) (over kid : Nat) (w : World) (hk : RdB w ka key) (hv : RdB w va val) (h24 : key.length ≤ 24) (hn : n ≤ 1000) (h40 : n ≤ 40)
    (hvl : val.length ≤ 40) (hlf : (Cl.mk key n val over kid).leaf = true) (D : List UInt8) (hD : D = UInt8.ofNat key.length :: (key ++ (Vint.put n ++ val))) :
    Calls Tryz.prog 55 #[.agg #[.slice ka key.length kc, .int .i64 (n : Int), .slice va val.length vc, .int .u32 (over : Int), .int .u32 (kid : Int)]] w fun e w' => ∃ A' c', e = .returned (.tuple #[.slice A' D.length c', .int .i64 0]) ∧ Own w' w.heap.size 5 1 A' D.length c' (bvs D) ∧ Below w.heap.size w w' := by
  have hL := isLeaf_any ⟨ka, kc, va, vc, ⟨key, n, val, over, kid⟩⟩ (w.alloc (.cells #[.slice ka key.length kc, .int .i64 (n : Int), .slice va val.length vc, .int .u32 (over : Int), .int .u32 (kid : Int)] 43))
  rw [hlf] at hL
  simp only [CellV.val, CellV.cells] at hL
  have hwu : IntKind.u64.wrap (n : Int) = (n : Int) := wrap_u64 n (by omega)
  have hwk : IntKind.u8.wrap (key.length : Int) = (key.length : Int) := by simp [IntKind.wrap, IntKind.bits, IntKind.signed]; omega
  -- small
  have hpl := (Vint.put_len n).2
  have hnew := new_key key.length h24
  have hlen : D.length ≤ 100000 := by have hfl := Vint.fixL_len over 4; rw [hD]; simp; omega
  have HD := Lib.hid hD
  have Hlen := Lib.hid hlen
  have g0 := heap_alloc_new w (.cells #[.slice ka key.length kc, .int .i64 (n : Int), .slice va val.length vc, .int .u32 (over : Int), .int .u32 (kid : Int)] 43)
  have hB0 := Ext.alloc w (.cells #[.slice ka key.length kc, .int .i64 (n : Int), .slice va val.length vc, .int .u32 (over : Int), .int .u32 (kid : Int)] 43)
  have HPL := Lib.hid hpl
  clear hlf hD hlen hpl
  go_enter Tryz.func55, Tryz.ntmps55
  go_wp2_with fail
  refine hL.mono ?_
  rintro e w1 ⟨rfl, hb1⟩
  have g1 := (hb1.block _ (lt_of_heap g0)).trans g0
  have hB1 := Ext.tr hB0 hb1
  have hc0 : w1.cell? ⟨w.heap.size, 0, none⟩ = some (.slice ka key.length kc) := cell_of_row w1 _ 0 _ _ _ g1
  have hc1 : w1.cell? ⟨w.heap.size, 1, none⟩ = some (.int .i64 (n : Int)) := cell_of_row w1 _ 1 _ _ _ g1
  have hc2 : w1.cell? ⟨w.heap.size, 2, none⟩ = some (.slice va val.length vc) := cell_of_row w1 _ 2 _ _ _ g1
  have hc3 : w1.cell? ⟨w.heap.size, 3, none⟩ = some (.int .u32 (over : Int)) := cell_of_row w1 _ 3 _ _ _ g1
  clear g0 g1 hB0 hb1 hL
  go_wp2_with fail
  obtain ⟨W1, hW1⟩ : ∃ W1, W1 = w1 := ⟨_, rfl⟩
  rw [← hW1] at hc0 hc1 hB1 ⊢
  clear hW1
  have hk0 := hc0
  have hn0 := hc1
  have hB9 := hB1
  have htl := hv.below hB1
  clear hc0 hc1 hc2 hc3 hB1
  have hkr := hk.below hB9
  refine rg_start (by kernel_rfl) ?_
  refine rg_take 0 rfl (by kernel_rfl) (by kernel_rfl) (by kernel_rfl) (fun _ _ _ _ h => h) (by rfl) ⟨_, fun w' hx => by (go_simp <;> with_reducible rfl), ?_⟩   -- t17 := fieldAddr 25 t1 0
  simp only [Act.put, List.setIfInBounds_toArray, List.set_cons_zero, List.set_cons_succ]
  refine rg_take 1 rfl (by kernel_rfl) (by kernel_rfl) (by kernel_rfl) (fun _ _ _ _ h => h) (by rfl) ⟨_, fun w' hx => by have hcx := hx.load hk0; (go_simp <;> with_reducible rfl), ?_⟩
  simp only [Act.put, List.setIfInBounds_toArray, List.set_cons_zero, List.set_cons_succ]
  refine rg_take 2 rfl (by kernel_rfl) (by kernel_rfl) (by kernel_rfl) (fun _ _ _ _ h => h) (by rfl) ⟨_, fun w' hx => by (go_simp <;> with_reducible rfl), ?_⟩   -- t19 := len(t18)
  simp only [Act.put, List.setIfInBounds_toArray, List.set_cons_zero, List.set_cons_succ]
  refine rg_take 3 rfl (by kernel_rfl) (by kernel_rfl) (by kernel_rfl) (fun _ _ _ _ h => h) (by rfl) ⟨_, fun w' hx => by (go_simp <;> with_reducible rfl), ?_⟩
  simp only [Act.put, List.setIfInBounds_toArray, List.set_cons_zero, List.set_cons_succ]
  refine rg_take 5 rfl (by kernel_rfl) (by kernel_rfl) (by kernel_rfl) (fun _ _ _ _ h => h) (by rfl) ⟨_, fun w' hx => by (go_simp <;> with_reducible rfl), ?_⟩   -- t22 := fieldAddr 25 t1 0
  simp only [Act.put, List.setIfInBounds_toArray, List.set_cons_zero, List.set_cons_succ]
  refine rg_take 6 rfl (by kernel_rfl) (by kernel_rfl) (by kernel_rfl) (fun _ _ _ _ h => h) (by rfl) ⟨_, fun w' hx => by have hcx := hx.load hk0; (go_simp <;> with_reducible rfl), ?_⟩
  simp only [Act.put, List.setIfInBounds_toArray, List.set_cons_zero, List.set_cons_succ]
  refine rg_take 7 rfl (by kernel_rfl) (by kernel_rfl) (by kernel_rfl) (fun _ _ _ _ h => h) (by rfl) ⟨_, fun w' hx => by (go_simp <;> with_reducible rfl), ?_⟩   -- t24 := fieldAddr 25 t1 1
  simp only [Act.put, List.setIfInBounds_toArray, List.set_cons_zero, List.set_cons_succ]
  refine rg_take 8 rfl (by kernel_rfl) (by kernel_rfl) (by kernel_rfl) (fun _ _ _ _ h => h) (by rfl) ⟨_, fun w' hx => by have hcx := hx.load hn0; (go_simp <;> with_reducible rfl), ?_⟩
  simp only [Act.put, List.setIfInBounds_toArray, List.set_cons_zero, List.set_cons_succ]
  refine rg_take 9 rfl (by kernel_rfl) (by kernel_rfl) (by kernel_rfl) (fun _ _ _ _ h => h) (by rfl) ⟨_, fun w' hx => by (go_simp <;> with_reducible rfl), ?_⟩
  simp only [Act.put, List.setIfInBounds_toArray, List.set_cons_zero, List.set_cons_succ]
  refine rg_take 11 rfl (by kernel_rfl) (by kernel_rfl) (by kernel_rfl) (fun _ _ _ _ h => h) (by rfl) ⟨_, fun w' hx => by (go_simp <;> with_reducible rfl), ?_⟩
  simp only [Act.put, List.setIfInBounds_toArray, List.set_cons_zero, List.set_cons_succ]
  -- BRANCH: 4: t21 := buildSlice 22 1 [(0, t20)] | 10: t27 := scow/vint.Put#23(t26)
  refine rg_par2 4 21 (IsB [UInt8.ofNat key.length]) 10 27 (IsB (Vint.put n)) _ _ rfl rfl (by kernel_rfl) (IsB.st _) (IsB.st _) (fun _ _ => by rfl) (fun _ _ => by rfl) ?_ ?_ ?_
  · intro v u W hx
    simp only [Act.put, List.setIfInBounds_toArray, List.set_cons_zero, List.set_cons_succ]
    exact yld_make ⟨_, _, by (go_simp <;> first | exact ⟨rfl, rfl⟩ | rfl), Ext.alloc _ _, _, _, rfl, hnew W, Nat.le_refl _⟩
  · intro v u W hx
    simp only [Act.put, List.setIfInBounds_toArray, List.set_cons_zero, List.set_cons_succ]
    refine yld_call (by go_simp) (vput_any n (by omega) _) ?_
    rintro e w2 ⟨A2, c2, rfl, ho2, hb2⟩
    exact ⟨_, rfl, hb2, A2, c2, rfl, ho2.rd', ho2.nc⟩
  rintro v u W hxW ⟨A1, c1, rfl, hr1, -⟩ ⟨A2, c2, rfl, hr2, -⟩
  simp only [Act.put, List.setIfInBounds_toArray, List.set_cons_zero, List.set_cons_succ]
  simp only [List.length_singleton]
  have hB : Ext W1 W := Ext.tr (Ext.drew W1) hxW
  have hR4 : RdL (W.alloc (.cells #[.slice A1 1 c1, .slice ka key.length kc, .slice A2 (Vint.put n).length c2, .slice va val.length vc] 25)) (some ⟨W.heap.size, 0, none⟩) [⟨A1, [UInt8.ofNat key.length], c1⟩, ⟨ka, key, kc⟩, ⟨A2, Vint.put n, c2⟩, ⟨va, val, vc⟩] :=
    RdL.new W 25 [⟨A1, [UInt8.ofNat key.length], c1⟩, ⟨ka, key, kc⟩, ⟨A2, Vint.put n, c2⟩, ⟨va, val, vc⟩] (by simp only [List.mem_cons, List.not_mem_nil, or_false]; rintro s (rfl | rfl | rfl | rfl); exact hr1; exact hkr.below hB; exact hr2; exact htl.below hB)
  have hcat : cat [⟨A1, [UInt8.ofNat key.length], c1⟩, ⟨ka, key, kc⟩, ⟨A2, Vint.put n, c2⟩, ⟨va, val, vc⟩] = D := by rw [HD.out]; simp [cat]
  have h5 := concat_any _ _ 4 _ hR4 (by simp) (by rw [hcat]; have := Hlen.out; omega)
  rw [hcat] at h5
  have hB4 := Ext.tr hB (Ext.alloc W (.cells #[.slice A1 1 c1, .slice ka key.length kc, .slice A2 (Vint.put n).length c2, .slice va val.length vc] 25))
  have hlw : w.heap.size ≤ (W.alloc (.cells #[.slice A1 1 c1, .slice ka key.length kc, .slice A2 (Vint.put n).length c2, .slice va val.length vc] 25)).heap.size := Nat.le_trans hB9.size hB4.size
  clear hcat hR4 hr1 hr2
  refine rg_make 12 rfl (by kernel_rfl) (by rfl) ⟨_, _, by (go_simp <;> first | exact ⟨rfl, rfl⟩ | rfl), Ext.alloc _ _, ?_⟩
  simp only [Act.put, List.setIfInBounds_toArray, List.set_cons_zero, List.set_cons_succ]
  refine rg_call2 13 rfl (by kernel_rfl) (by rfl) (by go_simp) h5 ?_
  rintro e w5 ⟨A5, c5, rfl, ho5, hb5⟩
  refine ⟨_, rfl, hb5, ?_⟩
  simp only [Act.put, List.setIfInBounds_toArray, List.set_cons_zero, List.set_cons_succ]
  refine rg_take 14 rfl (by kernel_rfl) (by kernel_rfl) (by kernel_rfl) (fun _ _ _ _ h => h) (by rfl) ⟨_, fun w' hx => by (go_simp <;> with_reducible rfl), ?_⟩
  simp only [Act.put, List.setIfInBounds_toArray, List.set_cons_zero, List.set_cons_succ]
  refine rg_take 15 rfl (by kernel_rfl) (by kernel_rfl) (by kernel_rfl) (fun _ _ _ _ h => h) (by rfl) ⟨_, fun w' hx => by (go_simp <;> with_reducible rfl), ?_⟩
  simp only [Act.put, List.setIfInBounds_toArray, List.set_cons_zero, List.set_cons_succ]
  refine rg_done (by kernel_rfl) ?_
  have hfin := Ext.tr hB9 (Ext.tr hB4 hb5)
  clear h5
  go_wp2
  go_ret2
  exact ⟨A5, c5, rfl, ho5.mono hlw, hfin⟩

set_option maxRecDepth 100000 in
set_option maxHeartbeats 1000000 in
theorem putLeaf_big (ka : Option Addr) (kc : Nat) (va : Option Addr) (vc : Nat) (key : List UInt8) (n : Nat) (val : List UInt8) (over kid : Nat) (w : World) (hk : RdB w ka key) (_hv : RdB w va val) (h24 : key.length ≤ 24) (hn : n ≤ 1000) (h40 : ¬ n ≤ 40)
    (hvl : val.length ≤ 40) (hov : over < 4294967296) (hlf : (Cl.mk key n val over kid).leaf = true) (D : List UInt8) (hD : D = UInt8.ofNat key.length :: (key ++ (Vint.put n ++ Vint.fixL over 4))) :
    Calls Tryz.prog 55 #[.agg #[.slice ka key.length kc, .int .i64 (n : Int), .slice va val.length vc, .int .u32 (over : Int), .int .u32 (kid : Int)]] w fun e w' => ∃ A' c', e = .returned (.tuple #[.slice A' D.length c', .int .i64 0]) ∧ Own w' w.heap.size 5 1 A' D.length c' (bvs D) ∧ Below w.heap.size w w' := by
  have hL := isLeaf_any ⟨ka, kc, va, vc, ⟨key, n, val, over, kid⟩⟩ (w.alloc (.cells #[.slice ka key.length kc, .int .i64 (n : Int), .slice va val.length vc, .int .u32 (over : Int), .int .u32 (kid : Int)] 43))
  rw [hlf] at hL
  simp only [CellV.val, CellV.cells] at hL
  have hwu : IntKind.u64.wrap (n : Int) = (n : Int) := wrap_u64 n (by omega)
  have hwk : IntKind.u8.wrap (key.length : Int) = (key.length : Int) := by simp [IntKind.wrap, IntKind.bits, IntKind.signed]; omega
  have hwo : IntKind.u64.wrap (over : Int) = (over : Int) := wrap_u64 over (by omega)
  have hpl := (Vint.put_len n).2
  have hnew := new_key key.length h24
  have hlen : D.length ≤ 100000 := by have hfl := Vint.fixL_len over 4; rw [hD]; simp; omega
  have HD := Lib.hid hD
  have Hlen := Lib.hid hlen
  have g0 := heap_alloc_new w (.cells #[.slice ka key.length kc, .int .i64 (n : Int), .slice va val.length vc, .int .u32 (over : Int), .int .u32 (kid : Int)] 43)
  have hB0 := Ext.alloc w (.cells #[.slice ka key.length kc, .int .i64 (n : Int), .slice va val.length vc, .int .u32 (over : Int), .int .u32 (kid : Int)] 43)
  have HPL := Lib.hid hpl
  clear hlf hD hlen hpl
  go_enter Tryz.func55, Tryz.ntmps55
  go_wp2_with fail
  refine hL.mono ?_
  rintro e w1 ⟨rfl, hb1⟩
  have g1 := (hb1.block _ (lt_of_heap g0)).trans g0
  have hB1 := Ext.tr hB0 hb1
  have hc0 : w1.cell? ⟨w.heap.size, 0, none⟩ = some (.slice ka key.length kc) := cell_of_row w1 _ 0 _ _ _ g1
  have hc1 : w1.cell? ⟨w.heap.size, 1, none⟩ = some (.int .i64 (n : Int)) := cell_of_row w1 _ 1 _ _ _ g1
  have hc2 : w1.cell? ⟨w.heap.size, 2, none⟩ = some (.slice va val.length vc) := cell_of_row w1 _ 2 _ _ _ g1
  have hc3 : w1.cell? ⟨w.heap.size, 3, none⟩ = some (.int .u32 (over : Int)) := cell_of_row w1 _ 3 _ _ _ g1
  clear g0 g1 hB0 hb1 hL
  go_wp2_with fail
  refine (fixed_any over 4 w1).mono ?_
  rintro e w9 ⟨A9, c9, rfl, ho9, hb9⟩
  rw [fixed4] at ho9 ⊢
  have hk0 := Ext.load hb9 hc0
  have hn0 := Ext.load hb9 hc1
  have hB9 := Ext.tr hB1 hb9
  obtain ⟨W1, hW1⟩ : ∃ W1, W1 = w9 := ⟨_, rfl⟩
  rw [← hW1] at hk0 hn0 hB9 ho9 ⊢
  clear hW1
  have htl := ho9.rd'
  clear hb9 ho9 hB1 hc0 hc1 hc2 hc3
  go_wp2_with fail
  have hkr := hk.below hB9
  refine rg_start (by kernel_rfl) ?_
  refine rg_take 0 rfl (by kernel_rfl) (by kernel_rfl) (by kernel_rfl) (fun _ _ _ _ h => h) (by rfl) ⟨_, fun w' hx => by (go_simp <;> with_reducible rfl), ?_⟩   -- t17 := fieldAddr 25 t1 0
  simp only [Act.put, List.setIfInBounds_toArray, List.set_cons_zero, List.set_cons_succ]
  refine rg_take 1 rfl (by kernel_rfl) (by kernel_rfl) (by kernel_rfl) (fun _ _ _ _ h => h) (by rfl) ⟨_, fun w' hx => by have hcx := hx.load hk0; (go_simp <;> with_reducible rfl), ?_⟩
  simp only [Act.put, List.setIfInBounds_toArray, List.set_cons_zero, List.set_cons_succ]
  refine rg_take 2 rfl (by kernel_rfl) (by kernel_rfl) (by kernel_rfl) (fun _ _ _ _ h => h) (by rfl) ⟨_, fun w' hx => by (go_simp <;> with_reducible rfl), ?_⟩   -- t19 := len(t18)
  simp only [Act.put, List.setIfInBounds_toArray, List.set_cons_zero, List.set_cons_succ]
  refine rg_take 3 rfl (by kernel_rfl) (by kernel_rfl) (by kernel_rfl) (fun _ _ _ _ h => h) (by rfl) ⟨_, fun w' hx => by (go_simp <;> with_reducible rfl), ?_⟩
  simp only [Act.put, List.setIfInBounds_toArray, List.set_cons_zero, List.set_cons_succ]
  refine rg_take 5 rfl (by kernel_rfl) (by kernel_rfl) (by kernel_rfl) (fun _ _ _ _ h => h) (by rfl) ⟨_, fun w' hx => by (go_simp <;> with_reducible rfl), ?_⟩   -- t22 := fieldAddr 25 t1 0
  simp only [Act.put, List.setIfInBounds_toArray, List.set_cons_zero, List.set_cons_succ]
  refine rg_take 6 rfl (by kernel_rfl) (by kernel_rfl) (by kernel_rfl) (fun _ _ _ _ h => h) (by rfl) ⟨_, fun w' hx => by have hcx := hx.load hk0; (go_simp <;> with_reducible rfl), ?_⟩
  simp only [Act.put, List.setIfInBounds_toArray, List.set_cons_zero, List.set_cons_succ]
  refine rg_take 7 rfl (by kernel_rfl) (by kernel_rfl) (by kernel_rfl) (fun _ _ _ _ h => h) (by rfl) ⟨_, fun w' hx => by (go_simp <;> with_reducible rfl), ?_⟩   -- t24 := fieldAddr 25 t1 1
  simp only [Act.put, List.setIfInBounds_toArray, List.set_cons_zero, List.set_cons_succ]
  refine rg_take 8 rfl (by kernel_rfl) (by kernel_rfl) (by kernel_rfl) (fun _ _ _ _ h => h) (by rfl) ⟨_, fun w' hx => by have hcx := hx.load hn0; (go_simp <;> with_reducible rfl), ?_⟩
  simp only [Act.put, List.setIfInBounds_toArray, List.set_cons_zero, List.set_cons_succ]
  refine rg_take 9 rfl (by kernel_rfl) (by kernel_rfl) (by kernel_rfl) (fun _ _ _ _ h => h) (by rfl) ⟨_, fun w' hx => by (go_simp <;> with_reducible rfl), ?_⟩
  simp only [Act.put, List.setIfInBounds_toArray, List.set_cons_zero, List.set_cons_succ]
  refine rg_take 11 rfl (by kernel_rfl) (by kernel_rfl) (by kernel_rfl) (fun _ _ _ _ h => h) (by rfl) ⟨_, fun w' hx => by (go_simp <;> with_reducible rfl), ?_⟩
  simp only [Act.put, List.setIfInBounds_toArray, List.set_cons_zero, List.set_cons_succ]
  -- BRANCH: 4: t21 := buildSlice 22 1 [(0, t20)] | 10: t27 := scow/vint.Put#23(t26)
  refine rg_par2 4 21 (IsB [UInt8.ofNat key.length]) 10 27 (IsB (Vint.put n)) _ _ rfl rfl (by kernel_rfl) (IsB.st _) (IsB.st _) (fun _ _ => by rfl) (fun _ _ => by rfl) ?_ ?_ ?_
  · intro v u W hx
    simp only [Act.put, List.setIfInBounds_toArray, List.set_cons_zero, List.set_cons_succ]
    exact yld_make ⟨_, _, by (go_simp <;> first | exact ⟨rfl, rfl⟩ | rfl), Ext.alloc _ _, _, _, rfl, hnew W, Nat.le_refl _⟩
  · intro v u W hx
    simp only [Act.put, List.setIfInBounds_toArray, List.set_cons_zero, List.set_cons_succ]
    refine yld_call (by go_simp) (vput_any n (by omega) _) ?_
    rintro e w2 ⟨A2, c2, rfl, ho2, hb2⟩
    exact ⟨_, rfl, hb2, A2, c2, rfl, ho2.rd', ho2.nc⟩
  rintro v u W hxW ⟨A1, c1, rfl, hr1, -⟩ ⟨A2, c2, rfl, hr2, -⟩
  simp only [Act.put, List.setIfInBounds_toArray, List.set_cons_zero, List.set_cons_succ]
  simp only [List.length_singleton]
  have hB : Ext W1 W := Ext.tr (Ext.drew W1) hxW
  have hR4 : RdL (W.alloc (.cells #[.slice A1 1 c1, .slice ka key.length kc, .slice A2 (Vint.put n).length c2, .slice A9 (Vint.fixL over 4).length c9] 25)) (some ⟨W.heap.size, 0, none⟩) [⟨A1, [UInt8.ofNat key.length], c1⟩, ⟨ka, key, kc⟩, ⟨A2, Vint.put n, c2⟩, ⟨A9, Vint.fixL over 4, c9⟩] :=
    RdL.new W 25 [⟨A1, [UInt8.ofNat key.length], c1⟩, ⟨ka, key, kc⟩, ⟨A2, Vint.put n, c2⟩, ⟨A9, Vint.fixL over 4, c9⟩] (by simp only [List.mem_cons, List.not_mem_nil, or_false]; rintro s (rfl | rfl | rfl | rfl); exact hr1; exact hkr.below hB; exact hr2; exact htl.below hB)
  have hcat : cat [⟨A1, [UInt8.ofNat key.length], c1⟩, ⟨ka, key, kc⟩, ⟨A2, Vint.put n, c2⟩, ⟨A9, Vint.fixL over 4, c9⟩] = D := by rw [HD.out]; simp [cat]
  have h5 := concat_any _ _ 4 _ hR4 (by simp) (by rw [hcat]; have := Hlen.out; omega)
  rw [hcat] at h5
  have hB4 := Ext.tr hB (Ext.alloc W (.cells #[.slice A1 1 c1, .slice ka key.length kc, .slice A2 (Vint.put n).length c2, .slice A9 (Vint.fixL over 4).length c9] 25))
  have hlw : w.heap.size ≤ (W.alloc (.cells #[.slice A1 1 c1, .slice ka key.length kc, .slice A2 (Vint.put n).length c2, .slice A9 (Vint.fixL over 4).length c9] 25)).heap.size := Nat.le_trans hB9.size hB4.size
  clear hcat hR4 hr1 hr2
  refine rg_make 12 rfl (by kernel_rfl) (by rfl) ⟨_, _, by (go_simp <;> first | exact ⟨rfl, rfl⟩ | rfl), Ext.alloc _ _, ?_⟩
  simp only [Act.put, List.setIfInBounds_toArray, List.set_cons_zero, List.set_cons_succ]
  refine rg_call2 13 rfl (by kernel_rfl) (by rfl) (by go_simp) h5 ?_
  rintro e w5 ⟨A5, c5, rfl, ho5, hb5⟩
  refine ⟨_, rfl, hb5, ?_⟩
  simp only [Act.put, List.setIfInBounds_toArray, List.set_cons_zero, List.set_cons_succ]
  refine rg_take 14 rfl (by kernel_rfl) (by kernel_rfl) (by kernel_rfl) (fun _ _ _ _ h => h) (by rfl) ⟨_, fun w' hx => by (go_simp <;> with_reducible rfl), ?_⟩
  simp only [Act.put, List.setIfInBounds_toArray, List.set_cons_zero, List.set_cons_succ]
  refine rg_take 15 rfl (by kernel_rfl) (by kernel_rfl) (by kernel_rfl) (fun _ _ _ _ h => h) (by rfl) ⟨_, fun w' hx => by (go_simp <;> with_reducible rfl), ?_⟩
  simp only [Act.put, List.setIfInBounds_toArray, List.set_cons_zero, List.set_cons_succ]
  refine rg_done (by kernel_rfl) ?_
  have hfin := Ext.tr hB9 (Ext.tr hB4 hb5)
  clear h5
  go_wp2
  go_ret2
  exact ⟨A5, c5, rfl, ho5.mono hlw, hfin⟩

theorem putLeaf_any (c : CellV) (w : World) (hc : c.In w) : Calls Tryz.prog 55 #[c.val] w fun e w' => ∃ A' c', e = .returned (.tuple #[.slice A' c.x.putL.1.length c', .int .i64 (c.x.putL.2 : Int)]) ∧ Own w' w.heap.size 5 1 A' c.x.putL.1.length c' (bvs c.x.putL.1) ∧ Below w.heap.size w w' := by
  cases h : c.x.leaf with
  | false =>
    have e1 : c.x.putL = ([], 70) := by unfold Cl.putL; rw [if_neg (by rw [h]; simp)]
    rw [e1]
    refine (putLeaf_no c w h).mono ?_
    rintro e w' ⟨rfl, hb⟩
    exact ⟨none, 0, rfl, Own.none_ _ _ _ _ _, hb⟩
  | true =>
    have e1 : c.x.putL = (c.x.flatL, 0) := by unfold Cl.putL; rw [if_pos h]
    rw [e1]
    obtain ⟨ka, kc, va, vc, ⟨key, size, val, over, kid⟩⟩ := c
    obtain ⟨h1, h2, h3, h4, h5, h6, h7⟩ := leaf_facts h
    obtain ⟨n, rfl⟩ := Int.eq_ofNat_of_zero_le h3
    by_cases h40 : n ≤ 40
    · refine putLeaf_small ka kc va vc key n val over kid w hc.kr hc.vr h2 (by simp only at h4; omega) h40 (by have := (h6 (by simp only; omega)).1; simp only at this; omega) h _ ?_
      unfold Cl.flatL
      simp only [Int.toNat_natCast]
      rw [if_pos (by omega)]
      simp
    · refine putLeaf_big ka kc va vc key n val over kid w hc.kr hc.vr h2 (by simp only at h4; omega) h40 (by have := (h7 (by simp only; omega)).1; simp only at this; rw [this]; simp) hc.over h _ ?_
      unfold Cl.flatL
      simp only [Int.toNat_natCast]
      rw [if_neg (by omega)]
      simp

end Go.Proofs.YtkpagmfaccmiaaaGreat
