
/- Contracts: slot.dir and Body's top, Len, place, sum, Free, Holes, Cell. Printed by wip/tools/gen_sltprog06.py. -/

import Derived.Test.YtgfanklhihciaaaSltMore

import Derived.Test.YtgfanklhihciaaaSlices

import Derived.Test.YtgfanklhihciaaaReg2

import Derived.Test.YtgfanklhihciaaaSlCut

namespace Go.Proofs.Ytgfanklhihciaaa

open Go.RowKit

attribute [local go_sem] Oper.semAt_some

/-- A body of the program in memory. -/
structure BB (w : World) (g : Nat) (b : List UInt8) : Prop where
  row : w.heap[g]? = some (.cells (bvs b).toArray 47 (0, 0))
  len : b.length = 243
theorem BB.ext {w w' : World} {g : Nat} {b : List UInt8} (h : BB w g b) (hx : Ext w w') : BB w' g b := ⟨(hx.block _ (lt_of_heap h.row)).trans h.row, h.len⟩
theorem BB.cell {w : World} {g : Nat} {b : List UInt8} (h : BB w g b) {j : Nat} (hj : j < 243) : w.cell? ⟨g, j, none⟩ = some (.int .u8 ((b.getD j 0).toNat : Int)) := by
  rw [cell_of_row w g j _ _ _ h.row]
  have hl : j < b.length := by rw [h.len]; exact hj
  rw [List.getElem?_toArray, bvs_get b j hl, List.getD_eq_getElem?_getD, List.getElem?_eq_getElem hl]
  rfl
theorem BB.frozen {w : World} {g : Nat} {b : List UInt8} (h : BB w g b) (j : Nat) : w.frozen? ⟨g, j, none⟩ = false := frozen_of_row w g j _ _ h.row
/-- What stands in it from a place on. -/
theorem BB.part {w : World} {g : Nat} {b : List UInt8} (h : BB w g b) (k n : Nat) (hk : k + n ≤ 243) : RdB w (some ⟨g, k, none⟩) ((b.drop k).take n) := by
  have hl : ((b.drop k).take n).length = n := by rw [List.length_take, List.length_drop, h.len]; omega
  unfold RdB
  rw [hl]
  refine ⟨by rw [bvs_len, hl]; omega, fun _ => ⟨_, rfl, fun j u hj => ?_⟩⟩
  rw [Addr.add_lit, cell_of_row w g _ _ _ _ h.row, List.getElem?_toArray]
  have hjl : j < n := by have := (List.getElem?_eq_some_iff.1 hj).1; rw [bvs_len, hl] at this; exact this
  unfold bvs at hj ⊢
  rw [List.getElem?_map, List.getElem?_take_of_lt hjl, List.getElem?_drop] at hj
  rw [List.getElem?_map]
  exact hj
theorem Rel.slN {b : List UInt8} {m : SBody} (h : Rel b m) (hI : m.Inv) : slN b = m.l.length := by
  have := hI.n
  unfold Go.Proofs.Ytgfanklhihciaaa.slN
  rw [List.getD_eq_getElem?_getD, h.n]
  exact u8_nat (by omega)
theorem Rel.slT {b : List UInt8} {m : SBody} (h : Rel b m) (hI : m.Inv) : slT b = m.top := by
  have := hI.top
  unfold Go.Proofs.Ytgfanklhihciaaa.slT
  rw [List.getD_eq_getElem?_getD, h.t]
  exact u8_nat (by omega)
theorem Rel.slAt {b : List UInt8} {m : SBody} (h : Rel b m) (hI : m.Inv) {i : Nat} (hi : i < m.l.length) : slAt b i = m.l[i].pos := by
  have := hI.fit m.l[i] (List.getElem_mem hi)
  unfold Go.Proofs.Ytgfanklhihciaaa.slAt
  rw [List.getD_eq_getElem?_getD, h.pos i _ (List.getElem?_eq_getElem hi)]
  exact u8_nat (by omega)
theorem Rel.slSz {b : List UInt8} {m : SBody} (h : Rel b m) (hI : m.Inv) {i : Nat} (hi : i < m.l.length) : slSz b i = m.l[i].p.length := by
  have := hI.len m.l[i] (List.getElem_mem hi)
  unfold Go.Proofs.Ytgfanklhihciaaa.slSz
  rw [List.getD_eq_getElem?_getD, h.sz i _ (List.getElem?_eq_getElem hi)]
  exact u8_nat (by omega)
theorem slN_lt (b : List UInt8) : slN b < 256 := UInt8.toNat_lt _
theorem slT_lt (b : List UInt8) : slT b < 256 := UInt8.toNat_lt _
theorem slAt_lt (b : List UInt8) (i : Nat) : slAt b i < 256 := UInt8.toNat_lt _
theorem slSz_lt (b : List UInt8) (i : Nat) : slSz b i < 256 := UInt8.toNat_lt _
/-- Where a part of the array begins. -/
def arrA (g l : Nat) : Addr := if 243 = l then ⟨g, 0, none⟩ else ⟨g, l, none⟩
theorem BB.partA {w : World} {g : Nat} {b : List UInt8} (h : BB w g b) (k n : Nat) (hk : k + n ≤ 243) : RdB w (some (arrA g k)) ((b.drop k).take n) := by
  by_cases h0 : 243 = k
  · have : (b.drop k).take n = [] := by rw [List.drop_eq_nil_of_le (by rw [h.len]; omega)]; simp
    rw [this]; exact RdB.nil_ _ _
  · unfold arrA; rw [if_neg h0]; exact h.part k n hk
theorem arr_lh (g l h : Nat) (h1 : l ≤ h) (h2 : h ≤ 243) (w : World) : (Instr.sliceAt 45 (.pointer (some ⟨g, 0, none⟩)) (some (.int .i64 (l : Int))) (some (.int .i64 (h : Int))) none).run Try.prog w = .ok (.slice (some (arrA g l)) (h - l) (243 - l)) w := by
  have e1 : Try.prog.arrayLen 45 = 243 := by kernel_rfl
  rw [run_sliceAt_array_lh w 45 _ (by kernel_rfl) .i64 .i64 _ _ (by omega) (by omega) (by rw [e1]; omega)]
  rw [e1, show Try.prog.elem 45 = 5 from by kernel_rfl, Int.toNat_natCast, Int.toNat_natCast]
  unfold arrA
  by_cases h0 : 243 = l
  · simp only [h0, if_true]; go_simp
  · simp only [h0, if_false]; go_simp
theorem arr_l (g l : Nat) (h1 : l ≤ 243) (w : World) : (Instr.sliceAt 45 (.pointer (some ⟨g, 0, none⟩)) (some (.int .i64 (l : Int))) none none).run Try.prog w = .ok (.slice (some (arrA g l)) (243 - l) (243 - l)) w := by
  have e1 : Try.prog.arrayLen 45 = 243 := by kernel_rfl
  rw [run_sliceAt_array_l w 45 _ (by kernel_rfl) .i64 _ (by omega) (by rw [e1]; omega)]
  rw [e1, show Try.prog.elem 45 = 5 from by kernel_rfl, Int.toNat_natCast]
  unfold arrA
  by_cases h0 : 243 = l
  · simp only [h0, if_true]; go_simp
  · simp only [h0, if_false]; go_simp
theorem arr_h (g h : Nat) (h2 : h ≤ 243) (w : World) : (Instr.sliceAt 45 (.pointer (some ⟨g, 0, none⟩)) none (some (.int .i64 (h : Int))) none).run Try.prog w = .ok (.slice (some ⟨g, 0, none⟩) h 243) w := by
  have e1 : Try.prog.arrayLen 45 = 243 := by kernel_rfl
  rw [run_sliceAt_array_h w 45 _ (by kernel_rfl) .i64 _ (by omega) (by rw [e1]; omega)]
  rw [e1, show Try.prog.elem 45 = 5 from by kernel_rfl, Int.toNat_natCast]
  go_simp
theorem dir_any (i : Nat) (hi : i ≤ 100000) (w : World) : Calls Try.prog 30 #[.int .i64 (i : Int)] w fun e w' => e = .returned (.int .i64 ((2 + 2 * i : Nat) : Int)) ∧ w = w' := by
  have w1 : IntKind.i64.wrap (2 * (i : Int)) = 2 * (i : Int) := by rw [IntKind.wrap_i64]; omega
  have w2 : IntKind.i64.wrap (2 + 2 * (i : Int)) = ((2 + 2 * i : Nat) : Int) := by rw [IntKind.wrap_i64]; omega
  go_enter Try.func30, Try.ntmps30
  go_wp2
  go_ret
  exact ⟨rfl, rfl⟩
theorem top_any (g : Nat) (b : List UInt8) (w : World) (h : BB w g b) : Calls Try.prog 29 #[.pointer (some ⟨g, 0, none⟩)] w fun e w' => e = .returned (.int .i64 (slT b : Int)) ∧ w = w' := by
  have h1 : w.cell? _ = some (.int .u8 (slT b : Int)) := h.cell (j := 1) (by omega)
  have hb := slT_lt b
  obtain ⟨u, hu⟩ : ∃ u, u = slT b := ⟨_, rfl⟩
  rw [← hu] at h1 hb ⊢
  clear hu
  go_enter Try.func29, Try.ntmps29
  go_wp2
  go_ret
  exact ⟨rfl, rfl⟩
theorem blen_any (g : Nat) (b : List UInt8) (w : World) (h : BB w g b) : Calls Try.prog 18 #[.pointer (some ⟨g, 0, none⟩)] w fun e w' => e = .returned (.int .i64 (slN b : Int)) ∧ w = w' := by
  have h1 : w.cell? _ = some (.int .u8 (slN b : Int)) := h.cell (j := 0) (by omega)
  have hb := slN_lt b
  obtain ⟨u, hu⟩ : ∃ u, u = slN b := ⟨_, rfl⟩
  rw [← hu] at h1 hb ⊢
  clear hu
  go_enter Try.func18, Try.ntmps18
  go_wp2
  go_ret
  exact ⟨rfl, rfl⟩
theorem blen_nil (w : World) : Calls Try.prog 18 #[.pointer none] w fun e w' => e = .returned (.int .i64 0) ∧ w = w' := by
  go_enter Try.func18, Try.ntmps18
  go_wp2
  go_ret
  exact ⟨rfl, rfl⟩
set_option maxRecDepth 100000 in
theorem place_any (g : Nat) (b : List UInt8) (i : Nat) (w : World) (h : BB w g b) (hi : 3 + 2 * i < 243) : Calls Try.prog 32 #[.pointer (some ⟨g, 0, none⟩), .int .i64 (i : Int)] w fun e w' => e = .returned (.tuple #[.int .i64 (slAt b i : Int), .int .i64 (slSz b i : Int)]) ∧ Ext w w' := by
  have h1 := (h.ext (Ext.drew w)).cell (j := 2 + 2 * i) (by omega)
  have h2 := (h.ext (Ext.drew w)).cell (j := 3 + 2 * i) (by omega)
  have ha := slAt_lt b i
  have hs := slSz_lt b i
  unfold slAt at ha ⊢
  unfold slSz at hs ⊢
  have i1 : ((2 + 2 * i : Nat) : Int) < 243 := by omega
  have i2 : (0 : Int) ≤ ((2 + 2 * i : Nat) : Int) := by omega
  have i3 : ((3 + 2 * i : Nat) : Int) < 243 := by omega
  have i4 : (0 : Int) ≤ ((3 + 2 * i : Nat) : Int) := by omega
  have w1 : IntKind.i64.wrap (((2 + 2 * i : Nat) : Int) + 1) = ((3 + 2 * i : Nat) : Int) := by rw [IntKind.wrap_i64]; omega
  obtain ⟨j1, hj1⟩ : ∃ j1, j1 = 2 + 2 * i := ⟨_, rfl⟩
  obtain ⟨j2, hj2⟩ : ∃ j2, j2 = 3 + 2 * i := ⟨_, rfl⟩
  have hd := dir_any i (by omega) w.drew
  rw [← hj1] at h1 i1 i2 w1 hd ha ⊢
  rw [← hj2] at h2 i3 i4 w1 hs ⊢
  clear hj1 hj2
  obtain ⟨u1, hu1⟩ : ∃ u1, u1 = (b.getD j1 0).toNat := ⟨_, rfl⟩
  obtain ⟨u2, hu2⟩ : ∃ u2, u2 = (b.getD j2 0).toNat := ⟨_, rfl⟩
  rw [← hu1] at h1 ha ⊢
  rw [← hu2] at h2 hs ⊢
  clear hu1 hu2
  have wu1 : IntKind.i64.wrap (u1 : Int) = (u1 : Int) := by rw [IntKind.wrap_i64]; omega
  have wu2 : IntKind.i64.wrap (u2 : Int) = (u2 : Int) := by rw [IntKind.wrap_i64]; omega
  go_enter Try.func32, Try.ntmps32
  go_wp2_with fail
  refine rg_start (by kernel_rfl) ?_
  refine rg_take 0 rfl (by kernel_rfl) (by kernel_rfl) (by kernel_rfl) (fun _ _ _ _ h => h) (by rfl) ⟨_, fun w' hx => by (go_simp <;> with_reducible rfl), ?_⟩
  simp only [Act.put, List.setIfInBounds_toArray, List.set_cons_zero, List.set_cons_succ]
  refine rg_take 1 rfl (by kernel_rfl) (by kernel_rfl) (by kernel_rfl) (fun _ _ _ _ h => h) (by rfl) ⟨_, fun w' hx => by (go_simp <;> with_reducible rfl), ?_⟩
  simp only [Act.put, List.setIfInBounds_toArray, List.set_cons_zero, List.set_cons_succ]
  refine rg_take 3 rfl (by kernel_rfl) (by kernel_rfl) (by kernel_rfl) (fun _ _ _ _ h => h) (by rfl) ⟨_, fun w' hx => by (go_simp <;> with_reducible rfl), ?_⟩   -- t9 := nilCheck t6
  simp only [Act.put, List.setIfInBounds_toArray, List.set_cons_zero, List.set_cons_succ]
  refine rg_take 4 rfl (by kernel_rfl) (by kernel_rfl) (by kernel_rfl) (fun _ _ _ _ h => h) (by rfl) ⟨_, fun w' hx => by (go_simp <;> with_reducible rfl), ?_⟩   -- t10 := fieldAddr 47 t9 0
  simp only [Act.put, List.setIfInBounds_toArray, List.set_cons_zero, List.set_cons_succ]
  refine rg_take 8 rfl (by kernel_rfl) (by kernel_rfl) (by kernel_rfl) (fun _ _ _ _ h => h) (by rfl) ⟨_, fun w' hx => by (go_simp <;> with_reducible rfl), ?_⟩
  simp only [Act.put, List.setIfInBounds_toArray, List.set_cons_zero, List.set_cons_succ]
  refine rg_take 9 rfl (by kernel_rfl) (by kernel_rfl) (by kernel_rfl) (fun _ _ _ _ h => h) (by rfl) ⟨_, fun w' hx => by (go_simp <;> with_reducible rfl), ?_⟩
  simp only [Act.put, List.setIfInBounds_toArray, List.set_cons_zero, List.set_cons_succ]
  refine rg_take 12 rfl (by kernel_rfl) (by kernel_rfl) (by kernel_rfl) (fun _ _ _ _ h => h) (by rfl) ⟨_, fun w' hx => by (go_simp <;> with_reducible rfl), ?_⟩   -- t18 := nilCheck t14
  simp only [Act.put, List.setIfInBounds_toArray, List.set_cons_zero, List.set_cons_succ]
  refine rg_take 13 rfl (by kernel_rfl) (by kernel_rfl) (by kernel_rfl) (fun _ _ _ _ h => h) (by rfl) ⟨_, fun w' hx => by (go_simp <;> with_reducible rfl), ?_⟩   -- t19 := fieldAddr 47 t18 0
  simp only [Act.put, List.setIfInBounds_toArray, List.set_cons_zero, List.set_cons_succ]
  refine rg_call 2 hd rfl (by kernel_rfl) (by rfl) (by go_simp) ?_
  rintro e w' ⟨rfl, rfl⟩
  refine ⟨_, rfl, Ext.refl _, ?_⟩
  simp only [Act.put, List.setIfInBounds_toArray, List.set_cons_zero, List.set_cons_succ]
  refine rg_take 5 rfl (by kernel_rfl) (by kernel_rfl) (by kernel_rfl) (fun _ _ _ _ h => h) (by rfl) ⟨_, fun w' hx => by (go_simp <;> with_reducible rfl), ?_⟩   -- t11 := indexAddr 45 t10 t8
  simp only [Act.put, List.setIfInBounds_toArray, List.set_cons_zero, List.set_cons_succ]
  refine rg_take 6 rfl (by kernel_rfl) (by kernel_rfl) (by kernel_rfl) (fun _ _ _ _ h => h) (by rfl) ⟨_, fun w' hx => by have hcx := hx.load h1; (go_simp <;> with_reducible rfl), ?_⟩
  simp only [Act.put, List.setIfInBounds_toArray, List.set_cons_zero, List.set_cons_succ]
  refine rg_take 7 rfl (by kernel_rfl) (by kernel_rfl) (by kernel_rfl) (fun _ _ _ _ h => h) (by rfl) ⟨.int .i64 (u1 : Int), fun w' hx => by (go_simp <;> with_reducible rfl), ?_⟩
  simp only [Act.put, List.setIfInBounds_toArray, List.set_cons_zero, List.set_cons_succ]
  refine rg_call 10 hd rfl (by kernel_rfl) (by rfl) (by go_simp) ?_
  rintro e w' ⟨rfl, rfl⟩
  refine ⟨_, rfl, Ext.refl _, ?_⟩
  simp only [Act.put, List.setIfInBounds_toArray, List.set_cons_zero, List.set_cons_succ]
  refine rg_take 11 rfl (by kernel_rfl) (by kernel_rfl) (by kernel_rfl) (fun _ _ _ _ h => h) (by rfl) ⟨.int .i64 (j2 : Int), fun w' hx => by (go_simp <;> with_reducible rfl), ?_⟩
  simp only [Act.put, List.setIfInBounds_toArray, List.set_cons_zero, List.set_cons_succ]
  refine rg_take 14 rfl (by kernel_rfl) (by kernel_rfl) (by kernel_rfl) (fun _ _ _ _ h => h) (by rfl) ⟨_, fun w' hx => by (go_simp <;> with_reducible rfl), ?_⟩   -- t20 := indexAddr 45 t19 t17
  simp only [Act.put, List.setIfInBounds_toArray, List.set_cons_zero, List.set_cons_succ]
  refine rg_take 15 rfl (by kernel_rfl) (by kernel_rfl) (by kernel_rfl) (fun _ _ _ _ h => h) (by rfl) ⟨_, fun w' hx => by have hcx := hx.load h2; (go_simp <;> with_reducible rfl), ?_⟩
  simp only [Act.put, List.setIfInBounds_toArray, List.set_cons_zero, List.set_cons_succ]
  refine rg_take 16 rfl (by kernel_rfl) (by kernel_rfl) (by kernel_rfl) (fun _ _ _ _ h => h) (by rfl) ⟨.int .i64 (u2 : Int), fun w' hx => by (go_simp <;> with_reducible rfl), ?_⟩
  simp only [Act.put, List.setIfInBounds_toArray, List.set_cons_zero, List.set_cons_succ]
  refine rg_take 17 rfl (by kernel_rfl) (by kernel_rfl) (by kernel_rfl) (fun _ _ _ _ h => h) (by rfl) ⟨_, fun w' hx => by (go_simp <;> with_reducible rfl), ?_⟩
  simp only [Act.put, List.setIfInBounds_toArray, List.set_cons_zero, List.set_cons_succ]
  refine rg_take 18 rfl (by kernel_rfl) (by kernel_rfl) (by kernel_rfl) (fun _ _ _ _ h => h) (by rfl) ⟨_, fun w' hx => by (go_simp <;> with_reducible rfl), ?_⟩
  simp only [Act.put, List.setIfInBounds_toArray, List.set_cons_zero, List.set_cons_succ]
  refine rg_done (by kernel_rfl) ?_
  go_wp2_with fail
  refine bodyPost_ret (results_tmp2 rfl _ _ _) rfl ?_
  exact ⟨rfl, Ext.drew w⟩
/-- The state of a body: its bytes hold it. -/
structure SAt (w : World) (g : Nat) (b : List UInt8) (m : SBody) : Prop where
  bb : BB w g b
  rel : Rel b m
  inv : m.Inv
theorem SAt.ext {w w' : World} {g : Nat} {b : List UInt8} {m : SBody} (h : SAt w g b m) (hx : Ext w w') : SAt w' g b m := ⟨h.bb.ext hx, h.rel, h.inv⟩
theorem SAt.n {w : World} {g : Nat} {b : List UInt8} {m : SBody} (h : SAt w g b m) : slN b = m.l.length := h.rel.slN h.inv
set_option maxRecDepth 100000 in
theorem sum_any (g : Nat) (b : List UInt8) (m : SBody) (w : World) (h : SAt w g b m) : Calls Try.prog 33 #[.pointer (some ⟨g, 0, none⟩)] w fun e w' => e = .returned (.int .i64 (m.sum : Int)) ∧ Ext w w' := by
  have hn := h.inv.n
  have hs := h.inv.sum
  have hL := blen_any g b w h.bb
  rw [h.n] at hL
  go_enter Try.func33, Try.ntmps33
  go_wp2_with (go_at_call 18; refine hL.mono ?_; rintro e1 w1 ⟨rfl, rfl⟩)
  go_loopw [2, 8] (fun s i wr => ∃ k : Nat, k ≤ m.l.length ∧ i = .int .i64 k ∧ s = .int .i64 (sumL (m.l.take k) : Nat) ∧ Ext w wr) (fun _ i _ => m.l.length - (intOf i).toNat)
  case atStart => exact ⟨0, by omega, rfl, rfl, Ext.refl w⟩
  case round =>
    obtain ⟨k, hk, rfl, rfl, hE⟩ := hrel
    by_cases hkl : k < m.l.length
    · have hp := place_any g b k wr (h.bb.ext hE) (by omega)
      rw [h.rel.slAt h.inv hkl, h.rel.slSz h.inv hkl] at hp
      have hsn := sumL_take_succ m.l k hkl
      have hle := sumL_take_le m.l (k + 1)
      unfold SBody.sum at hs
      obtain ⟨s1, hs1⟩ : ∃ s1, s1 = sumL (m.l.take k) := ⟨_, rfl⟩
      obtain ⟨c, hc⟩ : ∃ c, c = m.l[k] := ⟨_, rfl⟩
      rw [← hs1, ← hc] at hsn
      rw [← hc] at hp
      rw [← hs1]
      have w1 : IntKind.i64.wrap ((s1 : Int) + (c.p.length : Int)) = ((s1 + c.p.length : Nat) : Int) := by rw [IntKind.wrap_i64]; omega
      have Hsn := Lib.hid hsn
      clear hsn hs1 hc hle
      go_wp2_with (go_at_call 32; refine hp.mono ?_; rintro e2 w2 ⟨rfl, hb2⟩)
      go_roundw
      case rel => exact ⟨k + 1, by omega, by go_num, by rw [Hsn.out]; rfl, Ext.tr hE hb2⟩
      case measure => simp [intOf]; omega
    · obtain rfl : k = m.l.length := by omega
      go_wp2
      go_ret
      rw [List.take_length]
      exact ⟨rfl, hE⟩
set_option maxRecDepth 100000 in
theorem free_any (g : Nat) (b : List UInt8) (m : SBody) (w : World) (h : SAt w g b m) : Calls Try.prog 19 #[.pointer (some ⟨g, 0, none⟩)] w fun e w' => e = .returned (.int .i64 (m.free : Int)) ∧ Ext w w' := by
  have hn := h.inv.n
  have hs := h.inv.sum
  have hL := blen_any g b w h.bb
  have hf := h.inv.freeI
  rw [h.n] at hL
  have hd := dir_any m.l.length (by omega) w
  have hsm := sum_any g b m w h
  obtain ⟨d, hdd⟩ : ∃ d, d = 2 + 2 * m.l.length := ⟨_, rfl⟩
  rw [← hdd] at hd
  have w1 : IntKind.i64.wrap (243 - (d : Int)) = 243 - (d : Int) := by rw [IntKind.wrap_i64]; omega
  have w2 : IntKind.i64.wrap (243 - (d : Int) - (m.sum : Int)) = (m.free : Int) := by rw [IntKind.wrap_i64]; omega
  clear hdd hf
  go_enter Try.func19, Try.ntmps19
  go_wp2_with (first | (go_at_call 18; refine hL.mono ?_; rintro e1 w1 ⟨rfl, rfl⟩) | (go_at_call 30; refine hd.mono ?_; rintro e2 w2 ⟨rfl, rfl⟩) | (go_at_call 33; refine hsm.mono ?_; rintro e3 w3 ⟨rfl, hb3⟩))
  go_ret
  exact ⟨rfl, hb3⟩
theorem free_nil (w : World) : Calls Try.prog 19 #[.pointer none] w fun e w' => e = .returned (.int .i64 0) ∧ w = w' := by
  go_enter Try.func19, Try.ntmps19
  go_wp2
  go_ret
  exact ⟨rfl, rfl⟩
set_option maxRecDepth 100000 in
theorem holes_any (g : Nat) (b : List UInt8) (m : SBody) (w : World) (h : SAt w g b m) : Calls Try.prog 17 #[.pointer (some ⟨g, 0, none⟩)] w fun e w' => e = .returned (.int .i64 (m.holes : Int)) ∧ Ext w w' := by
  have hs := h.inv.sum
  have hT := top_any g b w h.bb
  have hf := h.inv.holesI
  rw [h.rel.slT h.inv] at hT
  have hsm := sum_any g b m w h
  obtain ⟨t, ht⟩ : ∃ t, t = m.top := ⟨_, rfl⟩
  rw [← ht] at hT hf hs
  have w1 : IntKind.i64.wrap (243 - (t : Int)) = 243 - (t : Int) := by rw [IntKind.wrap_i64]; omega
  have w2 : IntKind.i64.wrap (243 - (t : Int) - (m.sum : Int)) = (m.holes : Int) := by rw [IntKind.wrap_i64]; omega
  clear ht hf
  go_enter Try.func17, Try.ntmps17
  go_wp2_with (first | (go_at_call 29; refine hT.mono ?_; rintro e1 w1 ⟨rfl, rfl⟩) | (go_at_call 33; refine hsm.mono ?_; rintro e3 w3 ⟨rfl, hb3⟩))
  go_ret
  exact ⟨rfl, hb3⟩
theorem holes_nil (w : World) : Calls Try.prog 17 #[.pointer none] w fun e w' => e = .returned (.int .i64 0) ∧ w = w' := by
  go_enter Try.func17, Try.ntmps17
  go_wp2
  go_ret
  exact ⟨rfl, rfl⟩
/-- A cell's bytes; none, if there is no such. -/
def SBody.cellP (m : SBody) (i : Int) : List UInt8 := if 0 ≤ i then ((m.l[i.toNat]?).map SCell.p).getD [] else []
def CellR (m : SBody) (i : Int) (w : World) (e : Ending) (w' : World) : Prop := ∃ A' c', e = .returned (.slice A' (m.cellP i).length c') ∧ Own w' w.heap.size 5 1 A' (m.cellP i).length c' (bvs (m.cellP i)) ∧ Ext w w'
set_option maxRecDepth 100000 in
theorem cell_any (g : Nat) (b : List UInt8) (m : SBody) (i : Int) (w : World) (h : SAt w g b m) : Calls Try.prog 20 #[.pointer (some ⟨g, 0, none⟩), .int .i64 i] w (CellR m i w) := by
  have hn := h.inv.n
  have hL := blen_any g b w h.bb
  rw [h.n] at hL
  by_cases h0 : i < 0
  · have he : m.cellP i = [] := by unfold SBody.cellP; rw [if_neg (by omega)]
    go_enter Try.func20, Try.ntmps20
    go_wp2
    go_ret
    unfold CellR
    rw [he]
    exact ⟨none, 0, rfl, Own.none_ _ _ _ _ _, Ext.refl w⟩
  · by_cases hi : (m.l.length : Int) ≤ i
    · have he : m.cellP i = [] := by unfold SBody.cellP; rw [if_pos (by omega), List.getElem?_eq_none (by omega)]; rfl
      go_enter Try.func20, Try.ntmps20
      go_wp2_with (go_at_call 18; refine hL.mono ?_; rintro e1 w1 ⟨rfl, rfl⟩)
      go_ret
      unfold CellR
      rw [he]
      exact ⟨none, 0, rfl, Own.none_ _ _ _ _ _, Ext.refl w⟩
    · obtain ⟨k, rfl⟩ : ∃ k : Nat, i = k := ⟨i.toNat, by omega⟩
      have hk : k < m.l.length := by omega
      have he : m.cellP k = m.l[k].p := by unfold SBody.cellP; rw [if_pos (by omega), Int.toNat_natCast, List.getElem?_eq_getElem hk]; rfl
      have hp := place_any g b k w h.bb (by omega)
      rw [h.rel.slAt h.inv hk, h.rel.slSz h.inv hk] at hp
      have hfit := h.inv.fit _ (List.getElem_mem hk)
      have hcut := h.rel.cut (List.getElem_mem hk)
      have hrd := h.bb.partA m.l[k].pos m.l[k].p.length (by omega)
      rw [hcut] at hrd
      unfold CellR
      rw [he]
      obtain ⟨c, hc⟩ : ∃ c, c = m.l[k] := ⟨_, rfl⟩
      rw [← hc] at hp hfit hrd ⊢
      obtain ⟨j, hj⟩ : ∃ j, j = c.pos + c.p.length := ⟨_, rfl⟩
      have w1 : IntKind.i64.wrap ((c.pos : Int) + (c.p.length : Int)) = (j : Int) := by rw [IntKind.wrap_i64]; omega
      have hsl := fun w' => arr_lh g c.pos j (by omega) (by omega) w'
      rw [show j - c.pos = c.p.length by omega] at hsl
      have hclone := fun w2 (hx : Ext w w2) => clone_any (some (arrA g c.pos)) c.p (243 - c.pos) w2 (hrd.below hx) (by omega)
      clear hcut he hc hj hfit
      go_enter Try.func20, Try.ntmps20
      go_wp2_with (first | (go_at_call 18; refine hL.mono ?_; rintro e1 w1 ⟨rfl, rfl⟩) | (go_at_call 32; refine hp.mono ?_; rintro e2 w2 ⟨rfl, hb2⟩) | (go_at_call 34; refine (hclone w2 hb2).mono ?_; rintro e3 w3 ⟨A', c', rfl, ho3, hb3⟩))
      go_ret
      exact ⟨A', c', rfl, ho3.mono hb2.size, Ext.tr hb2 hb3⟩
end Go.Proofs.Ytgfanklhihciaaa
