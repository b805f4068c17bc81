
/- Contracts: slot.New and Body's lay, Pack. Printed by wip/tools/gen_sltwrite06.py. -/

import Derived.Test.YtgfanklhihciaaaSltProg

import Derived.Test.YtgfanklhihciaaaCopyB

import Derived.Test.YtgfanklhihciaaaReg5

import Derived.Test.YtgfanklhihciaaaRowG

namespace Go.Proofs.Ytgfanklhihciaaa

open Go.RowKit

attribute [local go_sem] Oper.semAt_some

theorem BB.set {w : World} {g : Nat} {b : List UInt8} (h : BB w g b) (j : Nat) (u : UInt8) : BB (w.setCell ⟨g, j, none⟩ (.int .u8 (u.toNat : Int))) g (b.set j u) := by
  refine ⟨?_, by rw [List.length_set]; exact h.len⟩
  rw [heap_setCell_same w g j _ _ _ h.row]
  congr 2
  apply Array.ext'
  simp only [Array.toList_setIfInBounds, bvs, List.map_set]
  rfl
theorem grown_cell (w : World) (g j : Nat) (v : Value) : w.grownBy (w.setCell ⟨g, j, none⟩ v) (some g) :=
  ⟨rfl, rfl, rfl, by simp [World.setCell], fun i _ hn => Below.heap_setCell w ⟨g, j, none⟩ v i (fun e => hn (by rw [e]))⟩
set_option maxRecDepth 100000 in
theorem snew_any (w : World) : Calls Try.prog 9 #[] w fun e w' => e = .returned (.pointer (some ⟨w.heap.size, 0, none⟩)) ∧ BB w' w.heap.size ((zeros 243).set 1 243) ∧ Ext w w' := by
  have hz0 : (Try.prog.info? 47).bind (·.zero) = some (.agg (bvs (zeros 243)).toArray) := by kernel_rfl
  obtain ⟨Z, hZ⟩ : ∃ Z, Z = (bvs (zeros 243)).toArray := ⟨_, rfl⟩
  rw [← hZ] at hz0
  have hz : ∀ w', (zeroValue 47).run Try.prog w' = .ok (.agg Z) w' := fun w' => by
    cases hi : Try.prog.info? 47 with
    | none => rw [hi] at hz0; cases hz0
    | some i =>
      rw [hi] at hz0
      have hz0 : i.zero = some (.agg Z) := hz0
      simp [zeroValue, typeInfo, hi, hz0]
  have hb0 : BB (w.alloc (.cells Z 47)) w.heap.size (zeros 243) := ⟨by rw [← hZ]; exact heap_alloc_new w _, zeros_len _⟩
  have c1 := hb0.cell (j := 1) (by omega)
  have f1 := hb0.frozen 1
  have HZ := Lib.hid hZ
  clear hZ hz0
  go_enter Try.func9, Try.ntmps9
  go_wp2_with fail
  go_ret
  refine ⟨rfl, ⟨?_, by rw [List.length_set, zeros_len]⟩, Ext.alloc _ _⟩
  rw [heap_alloc_new, HZ.out]
  congr 2
set_option maxRecDepth 100000 in
theorem lay_any (g : Nat) (b : List UInt8) (i : Nat) (C : Option Addr) (c : List UInt8) (cc : Nat) (w : World) (h : BB w g b) (hC : RdB w C c) (hi : 3 + 2 * i < 243) (hc : c.length ≤ slT b) (ht : slT b ≤ 243) (hcl : c.length ≤ 78) :
    Calls Try.prog 31 #[.pointer (some ⟨g, 0, none⟩), .int .i64 (i : Int), .slice C c.length cc] w fun e w' => e = .returned (.tuple #[]) ∧ BB w' g (layB b i (slT b - c.length) c) ∧ w.grownBy w' (some g) := by
  have hT := top_any g b w h
  obtain ⟨t, ht2⟩ : ∃ t, t = slT b - c.length := ⟨_, rfl⟩
  have w1 : IntKind.i64.wrap ((slT b : Int) - (c.length : Int)) = (t : Int) := by rw [IntKind.wrap_i64]; omega
  have htc : t + c.length ≤ 243 := by omega
  rw [← ht2]
  have hsl := fun w' => arr_l g t (by omega) w'
  have hA : c = [] ∨ some (arrA g t) = some ⟨g, t, none⟩ := by
    by_cases h0 : c = []
    · exact .inl h0
    · have := List.length_pos_iff.2 h0
      exact .inr (by unfold arrA; rw [if_neg (by omega)])
  obtain ⟨b1, hb1⟩ : ∃ b1, b1 = ovw b t c := ⟨_, rfl⟩
  have hb1l : b1.length = 243 := by rw [hb1, ovw_len (by rw [h.len]; exact htc), h.len]
  have hlen := h.len
  have ut : IntKind.u8.wrap (t : Int) = (t : Int) := by simp [IntKind.wrap, IntKind.bits, IntKind.signed]; omega
  have uc : IntKind.u8.wrap (c.length : Int) = (c.length : Int) := by simp [IntKind.wrap, IntKind.bits, IntKind.signed]; omega
  have n1 : ((u8 t).toNat : Int) = (t : Int) := by rw [u8_nat (by omega)]
  have n2 : ((u8 c.length).toNat : Int) = (c.length : Int) := by rw [u8_nat (by omega)]
  have htb := slT_lt b
  obtain ⟨j1, hj1⟩ : ∃ j1, j1 = 2 + 2 * i := ⟨_, rfl⟩
  obtain ⟨j2, hj2⟩ : ∃ j2, j2 = 3 + 2 * i := ⟨_, rfl⟩
  have i1 : (j1 : Int) < 243 := by omega
  have i2 : (0 : Int) ≤ (j1 : Int) := by omega
  have i3 : (j2 : Int) < 243 := by omega
  have i4 : (0 : Int) ≤ (j2 : Int) := by omega
  have wj : IntKind.i64.wrap ((j1 : Int) + 1) = (j2 : Int) := by rw [IntKind.wrap_i64]; omega
  have hd : ∀ w2, Calls Try.prog 30 #[.int .i64 (i : Int)] w2 fun e w' => e = .returned (.int .i64 (j1 : Int)) ∧ w2 = w' := fun w2 => by rw [hj1]; exact dir_any i (by omega) w2
  obtain ⟨s, hs⟩ : ∃ s, s = slT b := ⟨_, rfl⟩
  rw [← hs] at hT w1 htb hc ht
  have Hb1 := Lib.hid hb1
  have Hj1 := Lib.hid hj1
  have Hj2 := Lib.hid hj2
  have Hn1 := Lib.hid n1
  have Hn2 := Lib.hid n2
  have Hrow := Lib.hid h.row
  clear ht2 hs hb1 hj1 hj2 n1 n2 h
  go_enter Try.func31, Try.ntmps31
  go_wp2_with (first | (go_at_call 29; refine hT.mono ?_; rintro e1 w1' ⟨rfl, rfl⟩) | (refine wpList_copyB (by rfl) (.tmp 16) (.tmp 17) 30 rfl elemB g t (243 - t) (243 - t) (some (arrA g t)) rfl C cc b c rfl 47 hA (by omega) Hrow.out (by omega) hC ?_; intro w2 hr2 hg2; refine Hid.out ?_))
  rw [← Hb1.out] at hr2
  have B2 : BB w2 g b1 := ⟨hr2, hb1l⟩
  have c1 := B2.cell (j := 1) (by omega)
  have f1 := B2.frozen 1
  have B3 := B2.set 1 (u8 t)
  rw [Hn1.out] at B3
  refine Lib.hid ?_
  go_wp2_with fail
  obtain ⟨w3, hw3⟩ : ∃ w3, w3 = w2.setCell ⟨g, 1, none⟩ (.int .u8 (t : Int)) := ⟨_, rfl⟩
  have hg3 : w.grownBy w3 (some g) := by rw [hw3]; exact grown_tr hg2 (grown_cell _ _ _ _)
  rw [← hw3] at B3 ⊢
  clear hw3 hr2 hg2 c1 f1
  have B3d := B3.ext (Ext.drew w3)
  have c2 := B3d.cell (j := j1) (by omega)
  have f2 := B3d.frozen j1
  have B4 := B3d.set j1 (u8 t)
  rw [Hn1.out] at B4
  have B4' := B3.set j1 (u8 t)
  rw [Hn1.out] at B4'
  have c3 := B4'.cell (j := j2) (by omega)
  have f3 := B3.frozen j2
  have B5 := B4.set j2 (u8 c.length)
  rw [Hn2.out] at B5
  have hd3 := hd w3.drew
  refine re_start [3, 4, 6, 9, 10, 11, 16, 17] (by kernel_rfl) ?_
  refine re_take 0 (by rfl) rfl (by kernel_rfl) (by kernel_rfl) (by kernel_rfl) (fun _ _ _ _ h => h) (by rfl) ⟨_, fun w' hx => by (go_simp <;> with_reducible rfl), ?_⟩
  simp only [Act.put, List.setIfInBounds_toArray, List.set_cons_zero, List.set_cons_succ]
  refine re_take 1 (by rfl) rfl (by kernel_rfl) (by kernel_rfl) (by kernel_rfl) (fun _ _ _ _ h => h) (by rfl) ⟨_, fun w' hx => by (go_simp <;> with_reducible rfl), ?_⟩
  simp only [Act.put, List.setIfInBounds_toArray, List.set_cons_zero, List.set_cons_succ]
  refine re_takeA 3 rfl (by kernel_rfl) (by kernel_rfl) (by kernel_rfl) (fun _ _ _ _ h => h) (by rfl) ⟨_, fun w' => by (go_simp <;> with_reducible rfl), ?_⟩
  simp only [Act.put, List.setIfInBounds_toArray, List.set_cons_zero, List.set_cons_succ]
  refine re_takeA 4 rfl (by kernel_rfl) (by kernel_rfl) (by kernel_rfl) (fun _ _ _ _ h => h) (by rfl) ⟨_, fun w' => by (go_simp <;> with_reducible rfl), ?_⟩
  simp only [Act.put, List.setIfInBounds_toArray, List.set_cons_zero, List.set_cons_succ]
  refine re_take 7 (by rfl) rfl (by kernel_rfl) (by kernel_rfl) (by kernel_rfl) (fun _ _ _ _ h => h) (by rfl) ⟨_, fun w' hx => by (go_simp <;> with_reducible rfl), ?_⟩
  simp only [Act.put, List.setIfInBounds_toArray, List.set_cons_zero, List.set_cons_succ]
  refine re_take 8 (by rfl) rfl (by kernel_rfl) (by kernel_rfl) (by kernel_rfl) (fun _ _ _ _ h => h) (by rfl) ⟨.int .u8 (t : Int), fun w' hx => by (go_simp <;> with_reducible rfl), ?_⟩
  simp only [Act.put, List.setIfInBounds_toArray, List.set_cons_zero, List.set_cons_succ]
  refine re_takeA 9 rfl (by kernel_rfl) (by kernel_rfl) (by kernel_rfl) (fun _ _ _ _ h => h) (by rfl) ⟨_, fun w' => by (go_simp <;> with_reducible rfl), ?_⟩
  simp only [Act.put, List.setIfInBounds_toArray, List.set_cons_zero, List.set_cons_succ]
  refine re_takeA 10 rfl (by kernel_rfl) (by kernel_rfl) (by kernel_rfl) (fun _ _ _ _ h => h) (by rfl) ⟨_, fun w' => by (go_simp <;> with_reducible rfl), ?_⟩   -- t35 := len(t34)
  simp only [Act.put, List.setIfInBounds_toArray, List.set_cons_zero, List.set_cons_succ]
  refine re_takeA 11 rfl (by kernel_rfl) (by kernel_rfl) (by kernel_rfl) (fun _ _ _ _ h => h) (by rfl) ⟨.int .u8 (c.length : Int), fun w' => by (go_simp <;> with_reducible rfl), ?_⟩
  simp only [Act.put, List.setIfInBounds_toArray, List.set_cons_zero, List.set_cons_succ]
  refine re_take 12 (by rfl) rfl (by kernel_rfl) (by kernel_rfl) (by kernel_rfl) (fun _ _ _ _ h => h) (by rfl) ⟨_, fun w' hx => by (go_simp <;> with_reducible rfl), ?_⟩   -- t37 := nilCheck t25
  simp only [Act.put, List.setIfInBounds_toArray, List.set_cons_zero, List.set_cons_succ]
  refine re_take 13 (by rfl) rfl (by kernel_rfl) (by kernel_rfl) (by kernel_rfl) (fun _ _ _ _ h => h) (by rfl) ⟨_, fun w' hx => by (go_simp <;> with_reducible rfl), ?_⟩   -- t38 := fieldAddr 47 t37 0
  simp only [Act.put, List.setIfInBounds_toArray, List.set_cons_zero, List.set_cons_succ]
  refine re_takeA 16 rfl (by kernel_rfl) (by kernel_rfl) (by kernel_rfl) (fun _ _ _ _ h => h) (by rfl) ⟨_, fun w' => by (go_simp <;> with_reducible rfl), ?_⟩   -- t40 := nilCheck t28
  simp only [Act.put, List.setIfInBounds_toArray, List.set_cons_zero, List.set_cons_succ]
  refine re_takeA 17 rfl (by kernel_rfl) (by kernel_rfl) (by kernel_rfl) (fun _ _ _ _ h => h) (by rfl) ⟨_, fun w' => by (go_simp <;> with_reducible rfl), ?_⟩   -- t41 := fieldAddr 47 t40 0
  simp only [Act.put, List.setIfInBounds_toArray, List.set_cons_zero, List.set_cons_succ]
  refine re_call 2 hd3 rfl (by kernel_rfl) (by rfl) (by go_simp) ?_
  rintro e w' ⟨rfl, rfl⟩
  refine ⟨_, rfl, Ext.refl _, ?_⟩
  simp only [Act.put, List.setIfInBounds_toArray, List.set_cons_zero, List.set_cons_succ]
  refine re_call 5 hd3 rfl (by kernel_rfl) (by rfl) (by go_simp) ?_
  rintro e w' ⟨rfl, rfl⟩
  refine ⟨_, rfl, Ext.refl _, ?_⟩
  simp only [Act.put, List.setIfInBounds_toArray, List.set_cons_zero, List.set_cons_succ]
  refine re_takeA 6 rfl (by kernel_rfl) (by kernel_rfl) (by kernel_rfl) (fun _ _ _ _ h => h) (by rfl) ⟨.int .i64 (j2 : Int), fun w' => by (go_simp <;> with_reducible rfl), ?_⟩
  simp only [Act.put, List.setIfInBounds_toArray, List.set_cons_zero, List.set_cons_succ]
  refine re_take 14 (by rfl) rfl (by kernel_rfl) (by kernel_rfl) (by kernel_rfl) (fun _ _ _ _ h => h) (by rfl) ⟨_, fun w' hx => by (go_simp <;> with_reducible rfl), ?_⟩   -- t39 := indexAddr 45 t38 t27
  simp only [Act.put, List.setIfInBounds_toArray, List.set_cons_zero, List.set_cons_succ]
  refine re_store 15 rfl (by kernel_rfl) (by kernel_rfl) (by rfl) ⟨_, by (go_simp <;> rfl), ?_⟩
  simp only [Act.put]
  refine re_take 18 (by rfl) rfl (by kernel_rfl) (by kernel_rfl) (by kernel_rfl) (fun _ _ _ _ h => h) (by rfl) ⟨_, fun w' hx => by (go_simp <;> with_reducible rfl), ?_⟩   -- t42 := indexAddr 45 t41 t31
  simp only [Act.put, List.setIfInBounds_toArray, List.set_cons_zero, List.set_cons_succ]
  refine re_store 19 rfl (by kernel_rfl) (by kernel_rfl) (by rfl) ⟨_, by (go_simp <;> rfl), ?_⟩
  simp only [Act.put]
  refine re_done (by kernel_rfl) ?_
  go_wp2_with fail
  refine bodyPost_end (results_none rfl _ _ _) rfl ?_
  refine ⟨rfl, ?_, grown_tr (grown_tr (grown_tr hg3 (grown_ext (Ext.drew w3) _)) (grown_cell _ _ _ _)) (grown_cell _ _ _ _)⟩
  unfold layB
  rw [← Hb1.out, ← Hj1.out, ← Hj2.out]
  exact B5
theorem binfo {b : List UInt8} (h : b.length = 243) : (Try.prog.info? 47).map (·.size) = some (bvs b).toArray.size := by
  rw [show (bvs b).toArray.size = 243 by rw [List.size_toArray, bvs_len, h]]; kernel_rfl
theorem bone (b : List UInt8) : (bvs b).toArray.all (·.oneCell') = true := by
  rw [Array.all_eq_true_iff_forall_mem]
  intro x hx
  exact bvs_one b x (by simpa using hx)
theorem below_row {B : Nat} {w w1 w2 : World} {g : Nat} (h : Below B w w1) (hg : w1.grownBy w2 (some g)) (hB : B ≤ g) (hw : B ≤ w1.heap.size) : Below B w w2 := h.grown hg hw (fun k e => by injection e with e; omega)
set_option maxRecDepth 100000 in
theorem pack_any (g : Nat) (b : List UInt8) (m : SBody) (w : World) (h : SAt w g b m) :
    Calls Try.prog 16 #[.pointer (some ⟨g, 0, none⟩)] w fun e w' => e = .returned (.tuple #[]) ∧ (∃ b', SAt w' g b' m.pack) ∧ w.grownBy w' (some g) := by
  have hn := h.inv.n
  have hnew := snew_any w
  have hn0 : slN b = m.l.length := h.n
  have Hh := Lib.hid h
  clear h
  go_enter Try.func16, Try.ntmps16
  go_wp2_with (go_at_call 9; refine hnew.mono ?_; rintro e1 w1 ⟨rfl, hB1, hx1⟩; refine Hid.out ?_)
  have hgs := lt_of_heap Hh.out.bb.row
  have hB1d := hB1.ext (Ext.drew w1)
  have hS1d := Hh.out.ext (Ext.tr hx1 (Ext.drew w1))
  have c0 := hB1d.cell (j := 0) (by omega)
  have f0 := hB1d.frozen 0
  have s0 : w1.drew.cell? ⟨g, 0, none⟩ = some (.int .u8 (m.l.length : Int)) := by
    have := hS1d.bb.cell (j := 0) (by omega)
    rw [this, ← hn0]; rfl
  have B2 := hB1d.set 0 (u8 m.l.length)
  rw [u8_nat (by omega)] at B2
  have HB2 := Lib.hid B2
  have Hx1 := Lib.hid hx1
  clear hB1 hB1d B2 hx1 hnew
  refine Lib.hid ?_
  go_wp2_with fail
  refine rg_start (by kernel_rfl) ?_
  refine rg_take 0 rfl (by kernel_rfl) (by kernel_rfl) (by kernel_rfl) (fun _ _ _ _ h => h) (by rfl) ⟨_, fun w' hx => by (go_simp <;> with_reducible rfl), ?_⟩
  simp only [Act.put, List.setIfInBounds_toArray, List.set_cons_zero, List.set_cons_succ]
  refine rg_take 1 rfl (by kernel_rfl) (by kernel_rfl) (by kernel_rfl) (fun _ _ _ _ h => h) (by rfl) ⟨_, fun w' hx => by (go_simp <;> with_reducible rfl), ?_⟩
  simp only [Act.put, List.setIfInBounds_toArray, List.set_cons_zero, List.set_cons_succ]
  refine rg_take 2 rfl (by kernel_rfl) (by kernel_rfl) (by kernel_rfl) (fun _ _ _ _ h => h) (by rfl) ⟨_, fun w' hx => by (go_simp <;> with_reducible rfl), ?_⟩   -- t9 := nilCheck t8
  simp only [Act.put, List.setIfInBounds_toArray, List.set_cons_zero, List.set_cons_succ]
  refine rg_take 3 rfl (by kernel_rfl) (by kernel_rfl) (by kernel_rfl) (fun _ _ _ _ h => h) (by rfl) ⟨_, fun w' hx => by (go_simp <;> with_reducible rfl), ?_⟩   -- t10 := fieldAddr 47 t9 0
  simp only [Act.put, List.setIfInBounds_toArray, List.set_cons_zero, List.set_cons_succ]
  refine rg_take 4 rfl (by kernel_rfl) (by kernel_rfl) (by kernel_rfl) (fun _ _ _ _ h => h) (by rfl) ⟨_, fun w' hx => by (go_simp <;> with_reducible rfl), ?_⟩   -- t11 := indexAddr 45 t10 0:i64
  simp only [Act.put, List.setIfInBounds_toArray, List.set_cons_zero, List.set_cons_succ]
  refine rg_take 5 rfl (by kernel_rfl) (by kernel_rfl) (by kernel_rfl) (fun _ _ _ _ h => h) (by rfl) ⟨_, fun w' hx => by have hcx := hx.load s0; (go_simp <;> with_reducible rfl), ?_⟩
  simp only [Act.put, List.setIfInBounds_toArray, List.set_cons_zero, List.set_cons_succ]
  refine rg_take 6 rfl (by kernel_rfl) (by kernel_rfl) (by kernel_rfl) (fun _ _ _ _ h => h) (by rfl) ⟨_, fun w' hx => by (go_simp <;> with_reducible rfl), ?_⟩   -- t13 := nilCheck t7
  simp only [Act.put, List.setIfInBounds_toArray, List.set_cons_zero, List.set_cons_succ]
  refine rg_take 7 rfl (by kernel_rfl) (by kernel_rfl) (by kernel_rfl) (fun _ _ _ _ h => h) (by rfl) ⟨_, fun w' hx => by (go_simp <;> with_reducible rfl), ?_⟩   -- t14 := fieldAddr 47 t13 0
  simp only [Act.put, List.setIfInBounds_toArray, List.set_cons_zero, List.set_cons_succ]
  refine rg_take 8 rfl (by kernel_rfl) (by kernel_rfl) (by kernel_rfl) (fun _ _ _ _ h => h) (by rfl) ⟨_, fun w' hx => by (go_simp <;> with_reducible rfl), ?_⟩   -- t15 := indexAddr 45 t14 0:i64
  simp only [Act.put, List.setIfInBounds_toArray, List.set_cons_zero, List.set_cons_succ]
  refine rg_store 9 rfl (by kernel_rfl) (by kernel_rfl) (by rfl) ⟨_, by (go_simp <;> rfl), ?_⟩
  simp only [Act.put]
  refine rg_done (by kernel_rfl) ?_
  obtain ⟨w2, hw2⟩ : ∃ w2, w2 = (w1.setCell ⟨w.heap.size, 0, none⟩ (.int .u8 (m.l.length : Int))).drew := ⟨_, rfl⟩
  have hB2 : BB w2 w.heap.size (((zeros 243).set 1 243).set 0 (u8 m.l.length)) := by rw [hw2]; exact HB2.out
  have hx2 : Ext w w2 := by
    rw [hw2]
    exact (below_row Hx1.out (grown_cell _ _ _ _) (Nat.le_refl _) Hx1.out.size).drew
  have hS2 := Hh.out.ext hx2
  have hL := blen_any g b w2 hS2.bb
  rw [hn0] at hL
  rw [← hw2]
  have HP0 := Lib.hid (PackI.start m.l)
  clear hw2 c0 f0 s0 hS1d HB2 Hx1
  go_wp2_with (go_at_call 18; refine hL.mono ?_; rintro e2 w3 ⟨rfl, rfl⟩)
  go_loopw [18] (fun i wr => ∃ (k : Nat) (b2 : List UInt8), k ≤ m.l.length ∧ i = .int .i64 k ∧ PackI b2 m.l k ∧ BB wr w.heap.size b2 ∧ Ext w wr) (fun i _ => m.l.length - (intOf i).toNat)
  case atStart => exact ⟨0, _, by omega, rfl, HP0.out, hB2, hx2⟩
  case round =>
    obtain ⟨k, b2, hk, rfl, hP, hB, hE⟩ := hrel
    by_cases hkl : k < m.l.length
    · have hc := cell_any g b m k wr (Hh.out.ext hE)
      have hcp : m.cellP k = m.l[k].p := by unfold SBody.cellP; rw [if_pos (by omega), Int.toNat_natCast, List.getElem?_eq_getElem hkl]; rfl
      unfold CellR at hc
      rw [hcp] at hc
      have hstep := hP.step Hh.out.inv hkl
      have hs := Hh.out.inv.sum
      have hd := Hh.out.inv.dirTop
      unfold SBody.dir at hd
      unfold SBody.sum at hs
      have h1 := sumL_take_succ m.l k hkl
      have h2 := sumL_take_le m.l (k + 1)
      have hT : slT b2 = 243 - sumL (m.l.take k) := by
        unfold slT
        rw [List.getD_eq_getElem?_getD, hP.t]
        exact u8_nat (by omega)
      have hlen := Hh.out.inv.len _ (List.getElem_mem hkl)
      have hlay := fun C cc w2 (hB : BB w2 w.heap.size b2) (hC : RdB w2 C m.l[k].p) => lay_any w.heap.size b2 k C m.l[k].p cc w2 hB hC (by omega) (by rw [hT]; omega) (by rw [hT]; omega) hlen
      rw [hT, show 243 - sumL (m.l.take k) - m.l[k].p.length = 243 - sumL (m.l.take (k + 1)) by omega] at hlay
      have Hstep := Lib.hid hstep
      have Hlay := Lib.hid hlay
      have HB := Lib.hid hB
      obtain ⟨p, hp⟩ : ∃ p, p = m.l[k].p := ⟨_, rfl⟩
      rw [← hp] at hc Hstep Hlay
      clear hcp hstep hlay hs hd h1 h2 hT hlen hP hB hp
      go_wp2_with (first | (go_at_call 20; refine hc.mono ?_; rintro e4 w4 ⟨A4, c4, rfl, ho4, hb4⟩) | (go_at_call 31; refine (Hlay.out A4 c4 w4 (HB.out.ext hb4) ho4.rd').mono ?_; rintro e5 w5 ⟨rfl, hB5, hg5⟩))
      go_roundw
      case rel => exact ⟨k + 1, _, by omega, by go_num, Hstep.out, hB5, below_row (Ext.tr hE hb4) hg5 (Nat.le_refl _) (Ext.tr hE hb4).size⟩
      case measure => simp [intOf]; omega
    · obtain rfl : k = m.l.length := by omega
      have hrel2 := hP.done
      have HP := Lib.hid hrel2
      have hrow := Lib.hid hB.row
      have hrowg := Lib.hid (Hh.out.ext hE).bb.row
      have hbl := hB.len
      clear hP hB hrel2 hB2 hL hS2
      go_wp2_with (first | (refine wpList_load_rowG (by rfl) 47 (.tmp 30) rfl w.heap.size rfl 47 (bvs b2).toArray (0, 0) _ hrow.out Try.underlying47 rfl (binfo hbl) ?_) | (refine wpList_store_row (by rfl) 47 (.tmp 32) (.tmp 31) rfl g (bvs b2).toArray rfl rfl 47 _ hrowg.out (binfo hbl) (by rw [List.size_toArray, List.size_toArray, bvs_len, bvs_len, hbl, Hh.out.bb.len]) (bone _) ?_))
      refine bodyPost_end (results_none rfl _ _ _) rfl ?_
      exact ⟨rfl, ⟨b2, ⟨setRow_heap _ _ _ _ _ _ hrowg.out, hbl⟩, HP.out, SBody.pack_inv Hh.out.inv⟩, grown_tr (grown_ext hE _) ⟨rfl, rfl, rfl, by simp, fun i _ hn => setRow_other _ _ _ _ (fun e => hn (by rw [e]))⟩⟩
end Go.Proofs.Ytgfanklhihciaaa
