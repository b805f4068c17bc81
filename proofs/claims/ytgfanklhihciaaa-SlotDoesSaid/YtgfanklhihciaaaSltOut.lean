
/- Contract: slot.Body's Bytes. Printed by wip/tools/gen_sltout06.py. -/

import Derived.Test.YtgfanklhihciaaaSltWrite

import Derived.Test.YtgfanklhihciaaaSltTold

namespace Go.Proofs.Ytgfanklhihciaaa

open Go.RowKit

attribute [local go_sem] Oper.semAt_some

/-- A row of bytes. -/
structure BO (w : World) (g : Nat) (b : List UInt8) : Prop where
  row : w.heap[g]? = some (.cells (bvs b).toArray 5 (0, 0))
theorem BO.ext {w w' : World} {g : Nat} {b : List UInt8} (h : BO w g b) (hx : Ext w w') : BO w' g b := ⟨(hx.block _ (lt_of_heap h.row)).trans h.row⟩
theorem BO.cell {w : World} {g : Nat} {b : List UInt8} (h : BO w g b) {j : Nat} (hj : j < b.length) : w.cell? ⟨g, j, none⟩ = some (.int .u8 ((b.getD j 0).toNat : Int)) := by
  rw [cell_of_row w g j _ _ _ h.row, List.getElem?_toArray, bvs_get b j hj, List.getD_eq_getElem?_getD, List.getElem?_eq_getElem hj]
  rfl
theorem BO.frozen {w : World} {g : Nat} {b : List UInt8} (h : BO w g b) (j : Nat) : w.frozen? ⟨g, j, none⟩ = false := frozen_of_row w g j _ _ h.row
theorem BO.set {w : World} {g : Nat} {b : List UInt8} (h : BO w g b) (j : Nat) (u : UInt8) : BO (w.setCell ⟨g, j, none⟩ (.int .u8 (u.toNat : Int))) g (b.set j u) := by
  refine ⟨?_⟩
  rw [heap_setCell_same w g j _ _ _ h.row]
  congr 2
  apply Array.ext'
  simp only [Array.toList_setIfInBounds, bvs, List.map_set]
  rfl
theorem BO.own {w : World} {g B n : Nat} {b : List UInt8} (h : BO w g b) (hB : B ≤ g) (hn : n = b.length) (hm : n ≤ 100000) : Own w B 5 1 (some ⟨g, 0, none⟩) n n (bvs b) := by
  subst hn
  exact ⟨by rw [bvs_len]; omega, Nat.le_refl _, by unfold maxLen; omega, .inr ⟨g, 0, _, rfl, hB, h.row, by simp [bvs_len], by simp only [List.drop_zero, Nat.mul_one]; rw [List.take_of_length_le (by rw [bvs_len]; exact Nat.le_refl _)]⟩⟩
/-- A part of a slice of 243 bytes. -/
theorem sl_lh (g l h : Nat) (h1 : l ≤ h) (h2 : h ≤ 243) (w : World) : (Instr.sliceAt 30 (.slice (some ⟨g, 0, none⟩) 243 243) (some (.int .i64 (l : Int))) (some (.int .i64 (h : Int))) none).run Try.prog w = .ok (.slice (some (arrA g l)) (h - l) (243 - l)) w := by
  have hu : Try.prog.underlying 30 = some (.slice (Try.prog.elem 30)) := by kernel_rfl
  rw [run_sliceAt_slice w 30 _ _ _ _ hu, run_slice_lh w 30 _ 243 243 hu .i64 .i64 _ _ (by omega) (by omega) (by omega)]
  rw [show Try.prog.elem 30 = 5 from by kernel_rfl, Int.toNat_natCast, Int.toNat_natCast]
  unfold arrA sliced
  by_cases h0 : 243 = l
  · simp only [h0, if_true]; go_simp
  · simp only [h0, if_false]; go_simp
def BytesR (m : SBody) (w : World) (e : Ending) (w' : World) : Prop := ∃ (bs : List UInt8) (A' : Option Addr), IsBytes bs m ∧ e = .returned (.slice A' 243 243) ∧ Own w' w.heap.size 5 1 A' 243 243 (bvs bs) ∧ Ext w w'
set_option maxRecDepth 100000 in
set_option maxHeartbeats 1000000 in
theorem sbytes_any (g : Nat) (b : List UInt8) (m : SBody) (w : World) (h : SAt w g b m) :
    Calls Try.prog 22 #[.pointer (some ⟨g, 0, none⟩)] w (BytesR m w) := by
  have hn := h.inv.n
  have hn0 : slN b = m.l.length := h.n
  have Hh := Lib.hid h
  have hgs := lt_of_heap h.bb.row
  have hbl := h.bb.len
  have hS := Lib.hid (PB.start h.rel h.inv)
  obtain ⟨dn, hdn⟩ : ∃ dn, dn = 2 + 2 * m.l.length := ⟨_, rfl⟩
  have hpl : (b.take dn).length = dn := by rw [List.length_take]; omega
  have HdnP := Lib.hid (show b.take dn = b.take (2 + 2 * m.l.length) by rw [hdn])
  obtain ⟨p, hp⟩ : ∃ p, p = b.take dn := ⟨_, rfl⟩
  rw [← hp] at hpl
  have hd := dir_any m.l.length (by omega)
  rw [← hdn] at hd
  have hs7 := fun w' => arr_h g dn (by omega) w'
  have Hp := Lib.hid hp
  have hLn : ∀ w2, Ext w w2 → Calls Try.prog 18 #[.pointer (some ⟨g, 0, none⟩)] w2 fun e w' => e = .returned (.int .i64 (m.l.length : Int)) ∧ w2 = w' := fun w2 hx => by
    have := blen_any g b w2 (Hh.out.bb.ext hx)
    rwa [hn0] at this
  have HLn := Lib.hid hLn
  have Hd := Lib.hid hd
  have hdb : dn ≤ 243 := by omega
  have Hpl := Lib.hid hpl
  clear h hdn hp hd hLn hpl
  go_enter Try.func22, Try.ntmps22
  go_wp2_with (refine wpList_mk (by rfl) _ _ 30 rfl elemB (.int .u8 0) (by kernel_rfl) rfl 243 .i64 .i64 rfl rfl (by omega) (by omega) ?_; refine Hid.out ?_)
  have hz : Array.replicate 243 (.int .u8 0) = (bvs (zeros 243)).toArray := by
    apply Array.ext'
    simp only [Array.toList_replicate, bvs, zeros, List.map_replicate]
    rfl
  rw [hz]
  clear hz
  obtain ⟨w1, hw1⟩ : ∃ w1, w1 = w.alloc (.cells (bvs (zeros 243)).toArray 5) := ⟨_, rfl⟩
  have hO1 : BO w1 w.heap.size (zeros 243) := ⟨by rw [hw1]; exact heap_alloc_new w _⟩
  have hx1 : Ext w w1 := by rw [hw1]; exact Ext.alloc w _
  rw [← hw1]
  have hgne : ∀ ad, (some (⟨g, 0, none⟩ : Addr)) = some ad → ad.block ≠ w.heap.size := fun ad e => by injection e with e; rw [← e]; show g ≠ _; omega
  have hrdp : RdB w1.drew (some ⟨g, 0, none⟩) p := by
    have := (Hh.out.bb.ext (Ext.tr hx1 (Ext.drew w1))).part 0 dn (by omega)
    rw [List.drop_zero, ← Hp.out] at this
    exact this
  have hrow1 := Lib.hid (hO1.ext (Ext.drew w1)).row
  have hL5 := HLn.out w1.drew (Ext.tr hx1 (Ext.drew w1))
  have hd6 := Hd.out w1.drew
  have Hrdp := Lib.hid hrdp
  have hs7' := hs7
  rw [← Hpl.out] at hs7' hd6
  clear hw1 hrdp hs7
  refine Lib.hid ?_
  go_wp2_with fail
  refine rg_start (by kernel_rfl) ?_
  refine rg_take 0 rfl (by kernel_rfl) (by kernel_rfl) (by kernel_rfl) (fun _ _ _ _ h => h) (by rfl) ⟨_, fun w' hx => by (go_simp <;> with_reducible rfl), ?_⟩
  simp only [Act.put, List.setIfInBounds_toArray, List.set_cons_zero, List.set_cons_succ]
  refine rg_take 1 rfl (by kernel_rfl) (by kernel_rfl) (by kernel_rfl) (fun _ _ _ _ h => h) (by rfl) ⟨_, fun w' hx => by (go_simp <;> with_reducible rfl), ?_⟩
  simp only [Act.put, List.setIfInBounds_toArray, List.set_cons_zero, List.set_cons_succ]
  refine rg_take 2 rfl (by kernel_rfl) (by kernel_rfl) (by kernel_rfl) (fun _ _ _ _ h => h) (by rfl) ⟨_, fun w' hx => by (go_simp <;> with_reducible rfl), ?_⟩   -- t12 := nilCheck t11
  simp only [Act.put, List.setIfInBounds_toArray, List.set_cons_zero, List.set_cons_succ]
  refine rg_take 3 rfl (by kernel_rfl) (by kernel_rfl) (by kernel_rfl) (fun _ _ _ _ h => h) (by rfl) ⟨_, fun w' hx => by (go_simp <;> with_reducible rfl), ?_⟩   -- t13 := fieldAddr 47 t12 0
  simp only [Act.put, List.setIfInBounds_toArray, List.set_cons_zero, List.set_cons_succ]
  refine rg_take 4 rfl (by kernel_rfl) (by kernel_rfl) (by kernel_rfl) (fun _ _ _ _ h => h) (by rfl) ⟨_, fun w' hx => by (go_simp <;> with_reducible rfl), ?_⟩
  simp only [Act.put, List.setIfInBounds_toArray, List.set_cons_zero, List.set_cons_succ]
  refine rg_call 5 hL5 rfl (by kernel_rfl) (by rfl) (by go_simp) ?_
  rintro e w' ⟨rfl, rfl⟩
  refine ⟨_, rfl, Ext.refl _, ?_⟩
  simp only [Act.put, List.setIfInBounds_toArray, List.set_cons_zero, List.set_cons_succ]
  refine rg_call 6 hd6 rfl (by kernel_rfl) (by rfl) (by go_simp) ?_
  rintro e w' ⟨rfl, rfl⟩
  refine ⟨_, rfl, Ext.refl _, ?_⟩
  simp only [Act.put, List.setIfInBounds_toArray, List.set_cons_zero, List.set_cons_succ]
  refine rg_take 7 rfl (by kernel_rfl) (by kernel_rfl) (by kernel_rfl) (fun _ _ _ _ h => h) (by rfl) ⟨_, fun w' hx => by (go_simp <;> with_reducible rfl), ?_⟩   -- t17 := slice 45 t13 - t16 -
  simp only [Act.put, List.setIfInBounds_toArray, List.set_cons_zero, List.set_cons_succ]
  refine rg_last 8 rfl (by kernel_rfl) (by kernel_rfl) (by rfl) fun K hK => wp_copyB (.tmp 10) (.tmp 17) 30 rfl elemB w.heap.size 0 243 243 (some ⟨w.heap.size, 0, none⟩) rfl (some ⟨g, 0, none⟩) 243 (zeros 243) p rfl 5 (.inr rfl) (by have := Hpl.out; omega) hrow1.out (by rw [zeros_len]; have := Hpl.out; omega) Hrdp.out fun w2 hr2 hg2 => hK _ _ ?_
  simp only [Act.put, List.setIfInBounds_toArray, List.set_cons_zero, List.set_cons_succ]
  refine rg_done (by kernel_rfl) ?_
  have hO2 : BO w2 w.heap.size (ovw (zeros 243) 0 p) := ⟨hr2⟩
  have hx2 : Ext w w2 := below_row (Ext.tr hx1 (Ext.drew w1)) hg2 (Nat.le_refl _) (Ext.tr hx1 (Ext.drew w1)).size
  have hP0 : Hid (PB b m 0 (ovw (zeros 243) 0 p)) := by show PB b m 0 _; rw [Hp.out, HdnP.out]; exact hS.out
  have hL7 := HLn.out w2 hx2
  clear hr2 hg2 hx1 hL5 hd6 hs7' hrow1 hO1
  go_wp2_with (go_at_call 18; refine hL7.mono ?_; rintro e3 w3 ⟨rfl, rfl⟩)
  go_loopw [21] (fun i wr => ∃ (k : Nat) (out : List UInt8), k ≤ m.l.length ∧ i = .int .i64 k ∧ PB b m k out ∧ BO wr w.heap.size out ∧ Ext w wr) (fun i _ => m.l.length - (intOf i).toNat)
  case atStart => exact ⟨0, _, by omega, rfl, hP0.out, hO2, hx2⟩
  case round =>
    obtain ⟨k, out, hk, rfl, hP, hO, hE⟩ := hrel
    by_cases hkl : k < m.l.length
    · have hp := place_any g b k wr (Hh.out.bb.ext hE) (by omega)
      rw [Hh.out.rel.slAt Hh.out.inv hkl, Hh.out.rel.slSz Hh.out.inv hkl] at hp
      have hstep := hP.step Hh.out.inv hkl
      have hfit := Hh.out.inv.fit _ (List.getElem_mem hkl)
      have hcut := Hh.out.rel.cut (List.getElem_mem hkl)
      have hol := hP.len
      have hlow := Hh.out.inv.low _ (List.getElem_mem hkl)
      have hT : slT b = m.top := Hh.out.rel.slT Hh.out.inv
      have htop := Hh.out.inv.top
      obtain ⟨c, hc⟩ : ∃ c, c = m.l[k] := ⟨_, rfl⟩
      rw [← hc] at hp hstep hfit hcut hlow
      have hrdc : ∀ W, Ext w W → RdB W (some (arrA g c.pos)) c.p := fun W hW => by
        have := (Hh.out.bb.ext hW).partA c.pos c.p.length hfit
        rwa [hcut] at this
      obtain ⟨je, hje⟩ : ∃ je, je = c.pos + c.p.length := ⟨_, rfl⟩
      have wje : IntKind.i64.wrap ((c.pos : Int) + (c.p.length : Int)) = (je : Int) := by rw [IntKind.wrap_i64]; omega
      have s5 := fun w' => sl_lh w.heap.size c.pos je (by omega) (by omega) w'
      have s13 := fun w' => arr_lh g c.pos je (by omega) (by omega) w'
      rw [show je - c.pos = c.p.length by omega] at s5 s13
      have HP := Lib.hid hP
      have HO := Lib.hid hO
      have Hrdc := Lib.hid hrdc
      have Hfit := Lib.hid hfit
      have Hstep := Lib.hid hstep
      clear hcut hc hje hstep hfit hrdc hP hO
      by_cases hp0 : c.p = []
      · have hl0 : c.p.length = 0 := by rw [hp0]; rfl
        have bz : ((c.p.length : Int) == 0) = true := by rw [beq_iff_eq]; omega
        rw [if_pos hp0] at Hstep
        have Hl0 := Lib.hid hl0
        have d2 := dir_any k (by omega)
        obtain ⟨dk, hdk⟩ : ∃ dk, dk = 2 + 2 * k := ⟨_, rfl⟩
        rw [← hdk] at d2 Hstep
        have i1 : (dk : Int) < 243 := by omega
        have i2 : (0 : Int) ≤ (dk : Int) := by omega
        have Hp0 := Lib.hid hp0
        clear hdk hl0 hlow hp0
        go_wp2_with (go_at_call 32; refine hp.mono ?_; rintro e4 w4 ⟨rfl, hb4⟩; refine Hid.out ?_)
        have hOd := HO.out.ext (Ext.tr hb4 (Ext.drew w4))
        have hOd1 := HO.out.ext hb4
        have t1 : w4.drew.cell? ⟨g, 1, none⟩ = some (.int .u8 (m.top : Int)) := by
          have := (Hh.out.bb.ext (Ext.tr hE (Ext.tr hb4 (Ext.drew w4)))).cell (j := 1) (by omega)
          rw [this, ← hT]; rfl
        have c8 := hOd.cell (j := dk) (by omega)
        have f8 := hOd.frozen dk
        have d2w := d2 w4.drew
        have hO5 := hOd1.set dk (u8 m.top)
        rw [u8_nat (by omega)] at hO5
        have HO5 := Lib.hid hO5
        clear hOd hOd1 hO5
        refine Lib.hid ?_
        go_wp2_with fail
        refine rg_start (by kernel_rfl) ?_
        refine rg_take 0 rfl (by kernel_rfl) (by kernel_rfl) (by kernel_rfl) (fun _ _ _ _ h => h) (by rfl) ⟨_, fun w' hx => by (go_simp <;> with_reducible rfl), ?_⟩
        simp only [Act.put, List.setIfInBounds_toArray, List.set_cons_zero, List.set_cons_succ]
        refine rg_take 1 rfl (by kernel_rfl) (by kernel_rfl) (by kernel_rfl) (fun _ _ _ _ h => h) (by rfl) ⟨_, fun w' hx => by (go_simp <;> with_reducible rfl), ?_⟩
        simp only [Act.put, List.setIfInBounds_toArray, List.set_cons_zero, List.set_cons_succ]
        refine rg_take 3 rfl (by kernel_rfl) (by kernel_rfl) (by kernel_rfl) (fun _ _ _ _ h => h) (by rfl) ⟨_, fun w' hx => by (go_simp <;> with_reducible rfl), ?_⟩
        simp only [Act.put, List.setIfInBounds_toArray, List.set_cons_zero, List.set_cons_succ]
        refine rg_take 4 rfl (by kernel_rfl) (by kernel_rfl) (by kernel_rfl) (fun _ _ _ _ h => h) (by rfl) ⟨_, fun w' hx => by (go_simp <;> with_reducible rfl), ?_⟩   -- t36 := nilCheck t35
        simp only [Act.put, List.setIfInBounds_toArray, List.set_cons_zero, List.set_cons_succ]
        refine rg_take 5 rfl (by kernel_rfl) (by kernel_rfl) (by kernel_rfl) (fun _ _ _ _ h => h) (by rfl) ⟨_, fun w' hx => by (go_simp <;> with_reducible rfl), ?_⟩   -- t37 := fieldAddr 47 t36 0
        simp only [Act.put, List.setIfInBounds_toArray, List.set_cons_zero, List.set_cons_succ]
        refine rg_take 6 rfl (by kernel_rfl) (by kernel_rfl) (by kernel_rfl) (fun _ _ _ _ h => h) (by rfl) ⟨_, fun w' hx => by (go_simp <;> with_reducible rfl), ?_⟩   -- t38 := indexAddr 45 t37 1:i64
        simp only [Act.put, List.setIfInBounds_toArray, List.set_cons_zero, List.set_cons_succ]
        refine rg_take 7 rfl (by kernel_rfl) (by kernel_rfl) (by kernel_rfl) (fun _ _ _ _ h => h) (by rfl) ⟨_, fun w' hx => by have hcx := hx.load t1; (go_simp <;> with_reducible rfl), ?_⟩
        simp only [Act.put, List.setIfInBounds_toArray, List.set_cons_zero, List.set_cons_succ]
        refine rg_call 2 d2w rfl (by kernel_rfl) (by rfl) (by go_simp) ?_
        rintro e w' ⟨rfl, rfl⟩
        refine ⟨_, rfl, Ext.refl _, ?_⟩
        simp only [Act.put, List.setIfInBounds_toArray, List.set_cons_zero, List.set_cons_succ]
        refine rg_take 8 rfl (by kernel_rfl) (by kernel_rfl) (by kernel_rfl) (fun _ _ _ _ h => h) (by rfl) ⟨_, fun w' hx => by (go_simp <;> with_reducible rfl), ?_⟩   -- t40 := indexAddr 30 t32 t34
        simp only [Act.put, List.setIfInBounds_toArray, List.set_cons_zero, List.set_cons_succ]
        refine rg_store 9 rfl (by kernel_rfl) (by kernel_rfl) (by rfl) ⟨_, by (go_simp <;> rfl), ?_⟩
        simp only [Act.put]
        refine rg_done (by kernel_rfl) ?_
        obtain ⟨w5, hw5⟩ : ∃ w5, w5 = (w4.setCell ⟨w.heap.size, dk, none⟩ (.int .u8 (m.top : Int))).drew := ⟨_, rfl⟩
        have hO6 : BO w5 w.heap.size (out.set dk (u8 m.top)) := by rw [hw5]; exact HO5.out.ext (Ext.drew _)
        have hE5 : Ext w w5 := by rw [hw5]; exact (below_row (Ext.tr hE hb4) (grown_cell _ _ _ _) (Nat.le_refl _) (Ext.tr hE hb4).size).drew
        have hol5 : (out.set dk (u8 m.top)).length = 243 := by rw [List.length_set, hol]
        rw [← hw5]
        obtain ⟨out5, hout5⟩ : ∃ out5, out5 = out.set dk (u8 m.top) := ⟨_, rfl⟩
        rw [← hout5] at hO6 hol5 Hstep
        clear hw5 HO5 c8 f8 t1 hb4 hout5
        have hrow5 := Lib.hid (hO6.ext (Ext.drew w5)).row
        have hrd5 := Lib.hid (Hrdc.out w5.drew (Ext.tr hE5 (Ext.drew w5)))
        have hAc : c.p = [] ∨ some (arrA w.heap.size c.pos) = some ⟨w.heap.size, c.pos, none⟩ := by
          by_cases h0 : c.p = []
          · exact .inl h0
          · have := List.length_pos_iff.2 h0
            have := Hfit.out
            exact .inr (by unfold arrA; rw [if_neg (by omega)])
        have HA := Lib.hid hAc
        clear hAc
        go_wp2_with fail
        refine rg_start (by kernel_rfl) ?_
        refine rg_take 0 rfl (by kernel_rfl) (by kernel_rfl) (by kernel_rfl) (fun _ _ _ _ h => h) (by rfl) ⟨_, fun w' hx => by (go_simp <;> with_reducible rfl), ?_⟩
        simp only [Act.put, List.setIfInBounds_toArray, List.set_cons_zero, List.set_cons_succ]
        refine rg_take 1 rfl (by kernel_rfl) (by kernel_rfl) (by kernel_rfl) (fun _ _ _ _ h => h) (by rfl) ⟨_, fun w' hx => by (go_simp <;> with_reducible rfl), ?_⟩
        simp only [Act.put, List.setIfInBounds_toArray, List.set_cons_zero, List.set_cons_succ]
        refine rg_take 2 rfl (by kernel_rfl) (by kernel_rfl) (by kernel_rfl) (fun _ _ _ _ h => h) (by rfl) ⟨_, fun w' hx => by (go_simp <;> with_reducible rfl), ?_⟩
        simp only [Act.put, List.setIfInBounds_toArray, List.set_cons_zero, List.set_cons_succ]
        refine rg_take 3 rfl (by kernel_rfl) (by kernel_rfl) (by kernel_rfl) (fun _ _ _ _ h => h) (by rfl) ⟨_, fun w' hx => by (go_simp <;> with_reducible rfl), ?_⟩
        simp only [Act.put, List.setIfInBounds_toArray, List.set_cons_zero, List.set_cons_succ]
        refine rg_take 4 rfl (by kernel_rfl) (by kernel_rfl) (by kernel_rfl) (fun _ _ _ _ h => h) (by rfl) ⟨.int .i64 (je : Int), fun w' hx => by (go_simp <;> with_reducible rfl), ?_⟩
        simp only [Act.put, List.setIfInBounds_toArray, List.set_cons_zero, List.set_cons_succ]
        refine rg_take 5 rfl (by kernel_rfl) (by kernel_rfl) (by kernel_rfl) (fun _ _ _ _ h => h) (by rfl) ⟨_, fun w' hx => by (go_simp <;> with_reducible rfl), ?_⟩   -- t46 := slice 30 t41 t42 t45 -
        simp only [Act.put, List.setIfInBounds_toArray, List.set_cons_zero, List.set_cons_succ]
        refine rg_take 6 rfl (by kernel_rfl) (by kernel_rfl) (by kernel_rfl) (fun _ _ _ _ h => h) (by rfl) ⟨_, fun w' hx => by (go_simp <;> with_reducible rfl), ?_⟩
        simp only [Act.put, List.setIfInBounds_toArray, List.set_cons_zero, List.set_cons_succ]
        refine rg_take 7 rfl (by kernel_rfl) (by kernel_rfl) (by kernel_rfl) (fun _ _ _ _ h => h) (by rfl) ⟨_, fun w' hx => by (go_simp <;> with_reducible rfl), ?_⟩   -- t48 := nilCheck t47
        simp only [Act.put, List.setIfInBounds_toArray, List.set_cons_zero, List.set_cons_succ]
        refine rg_take 8 rfl (by kernel_rfl) (by kernel_rfl) (by kernel_rfl) (fun _ _ _ _ h => h) (by rfl) ⟨_, fun w' hx => by (go_simp <;> with_reducible rfl), ?_⟩   -- t49 := fieldAddr 47 t48 0
        simp only [Act.put, List.setIfInBounds_toArray, List.set_cons_zero, List.set_cons_succ]
        refine rg_take 9 rfl (by kernel_rfl) (by kernel_rfl) (by kernel_rfl) (fun _ _ _ _ h => h) (by rfl) ⟨_, fun w' hx => by (go_simp <;> with_reducible rfl), ?_⟩
        simp only [Act.put, List.setIfInBounds_toArray, List.set_cons_zero, List.set_cons_succ]
        refine rg_take 10 rfl (by kernel_rfl) (by kernel_rfl) (by kernel_rfl) (fun _ _ _ _ h => h) (by rfl) ⟨_, fun w' hx => by (go_simp <;> with_reducible rfl), ?_⟩
        simp only [Act.put, List.setIfInBounds_toArray, List.set_cons_zero, List.set_cons_succ]
        refine rg_take 11 rfl (by kernel_rfl) (by kernel_rfl) (by kernel_rfl) (fun _ _ _ _ h => h) (by rfl) ⟨_, fun w' hx => by (go_simp <;> with_reducible rfl), ?_⟩
        simp only [Act.put, List.setIfInBounds_toArray, List.set_cons_zero, List.set_cons_succ]
        refine rg_take 12 rfl (by kernel_rfl) (by kernel_rfl) (by kernel_rfl) (fun _ _ _ _ h => h) (by rfl) ⟨.int .i64 (je : Int), fun w' hx => by (go_simp <;> with_reducible rfl), ?_⟩
        simp only [Act.put, List.setIfInBounds_toArray, List.set_cons_zero, List.set_cons_succ]
        refine rg_take 13 rfl (by kernel_rfl) (by kernel_rfl) (by kernel_rfl) (fun _ _ _ _ h => h) (by rfl) ⟨_, fun w' hx => by (go_simp <;> with_reducible rfl), ?_⟩   -- t54 := slice 45 t49 t50 t53 -
        simp only [Act.put, List.setIfInBounds_toArray, List.set_cons_zero, List.set_cons_succ]
        refine rg_last 14 rfl (by kernel_rfl) (by kernel_rfl) (by rfl) fun K hK => wp_copyB (.tmp 46) (.tmp 54) 30 rfl elemB w.heap.size c.pos c.p.length (243 - c.pos) (some (arrA w.heap.size c.pos)) rfl (some (arrA g c.pos)) (243 - c.pos) out5 c.p rfl 5 HA.out (Nat.le_refl _) hrow5.out (by rw [hol5]; exact Hfit.out) hrd5.out fun w6 hr6 hg6 => hK _ _ ?_
        simp only [Act.put, List.setIfInBounds_toArray, List.set_cons_zero, List.set_cons_succ]
        refine rg_done (by kernel_rfl) ?_
        go_wp2_with fail
        go_roundw
        case rel => exact ⟨k + 1, _, by omega, by go_num, Hstep.out, ⟨hr6⟩, below_row (Ext.tr hE5 (Ext.drew w5)) hg6 (Nat.le_refl _) (Ext.tr hE5 (Ext.drew w5)).size⟩
        case measure => simp [intOf]; omega
      · have hl0 : 0 < c.p.length := List.length_pos_iff.2 hp0
        have bz : ((c.p.length : Int) == 0) = false := by rw [beq_eq_false_iff_ne]; omega
        have bz2 : ¬ (c.p.length : Int) = 0 := by omega
        rw [if_neg hp0] at Hstep
        obtain ⟨out5, hout5⟩ : ∃ out5, out5 = out := ⟨_, rfl⟩
        go_wp2_with (go_at_call 32; refine hp.mono ?_; rintro e4 w4 ⟨rfl, hb4⟩; refine Hid.out ?_)
        obtain ⟨w5, hw5⟩ : ∃ w5, w5 = w4 := ⟨_, rfl⟩
        have hO6 : BO w5 w.heap.size out5 := by rw [hw5, hout5]; exact HO.out.ext hb4
        have hE5 : Ext w w5 := by rw [hw5]; exact Ext.tr hE hb4
        rw [← hout5] at Hstep hol
        have hol5 := hol
        rw [← hw5]
        have Hp0 := Lib.hid hp0
        clear hout5 hw5 hb4 hlow hp0
        refine Lib.hid ?_
        have hrow5 := Lib.hid (hO6.ext (Ext.drew w5)).row
        have hrd5 := Lib.hid (Hrdc.out w5.drew (Ext.tr hE5 (Ext.drew w5)))
        have hAc : c.p = [] ∨ some (arrA w.heap.size c.pos) = some ⟨w.heap.size, c.pos, none⟩ := by
          by_cases h0 : c.p = []
          · exact .inl h0
          · have := List.length_pos_iff.2 h0
            have := Hfit.out
            exact .inr (by unfold arrA; rw [if_neg (by omega)])
        have HA := Lib.hid hAc
        clear hAc
        go_wp2_with fail
        refine rg_start (by kernel_rfl) ?_
        refine rg_take 0 rfl (by kernel_rfl) (by kernel_rfl) (by kernel_rfl) (fun _ _ _ _ h => h) (by rfl) ⟨_, fun w' hx => by (go_simp <;> with_reducible rfl), ?_⟩
        simp only [Act.put, List.setIfInBounds_toArray, List.set_cons_zero, List.set_cons_succ]
        refine rg_take 1 rfl (by kernel_rfl) (by kernel_rfl) (by kernel_rfl) (fun _ _ _ _ h => h) (by rfl) ⟨_, fun w' hx => by (go_simp <;> with_reducible rfl), ?_⟩
        simp only [Act.put, List.setIfInBounds_toArray, List.set_cons_zero, List.set_cons_succ]
        refine rg_take 2 rfl (by kernel_rfl) (by kernel_rfl) (by kernel_rfl) (fun _ _ _ _ h => h) (by rfl) ⟨_, fun w' hx => by (go_simp <;> with_reducible rfl), ?_⟩
        simp only [Act.put, List.setIfInBounds_toArray, List.set_cons_zero, List.set_cons_succ]
        refine rg_take 3 rfl (by kernel_rfl) (by kernel_rfl) (by kernel_rfl) (fun _ _ _ _ h => h) (by rfl) ⟨_, fun w' hx => by (go_simp <;> with_reducible rfl), ?_⟩
        simp only [Act.put, List.setIfInBounds_toArray, List.set_cons_zero, List.set_cons_succ]
        refine rg_take 4 rfl (by kernel_rfl) (by kernel_rfl) (by kernel_rfl) (fun _ _ _ _ h => h) (by rfl) ⟨.int .i64 (je : Int), fun w' hx => by (go_simp <;> with_reducible rfl), ?_⟩
        simp only [Act.put, List.setIfInBounds_toArray, List.set_cons_zero, List.set_cons_succ]
        refine rg_take 5 rfl (by kernel_rfl) (by kernel_rfl) (by kernel_rfl) (fun _ _ _ _ h => h) (by rfl) ⟨_, fun w' hx => by (go_simp <;> with_reducible rfl), ?_⟩   -- t46 := slice 30 t41 t42 t45 -
        simp only [Act.put, List.setIfInBounds_toArray, List.set_cons_zero, List.set_cons_succ]
        refine rg_take 6 rfl (by kernel_rfl) (by kernel_rfl) (by kernel_rfl) (fun _ _ _ _ h => h) (by rfl) ⟨_, fun w' hx => by (go_simp <;> with_reducible rfl), ?_⟩
        simp only [Act.put, List.setIfInBounds_toArray, List.set_cons_zero, List.set_cons_succ]
        refine rg_take 7 rfl (by kernel_rfl) (by kernel_rfl) (by kernel_rfl) (fun _ _ _ _ h => h) (by rfl) ⟨_, fun w' hx => by (go_simp <;> with_reducible rfl), ?_⟩   -- t48 := nilCheck t47
        simp only [Act.put, List.setIfInBounds_toArray, List.set_cons_zero, List.set_cons_succ]
        refine rg_take 8 rfl (by kernel_rfl) (by kernel_rfl) (by kernel_rfl) (fun _ _ _ _ h => h) (by rfl) ⟨_, fun w' hx => by (go_simp <;> with_reducible rfl), ?_⟩   -- t49 := fieldAddr 47 t48 0
        simp only [Act.put, List.setIfInBounds_toArray, List.set_cons_zero, List.set_cons_succ]
        refine rg_take 9 rfl (by kernel_rfl) (by kernel_rfl) (by kernel_rfl) (fun _ _ _ _ h => h) (by rfl) ⟨_, fun w' hx => by (go_simp <;> with_reducible rfl), ?_⟩
        simp only [Act.put, List.setIfInBounds_toArray, List.set_cons_zero, List.set_cons_succ]
        refine rg_take 10 rfl (by kernel_rfl) (by kernel_rfl) (by kernel_rfl) (fun _ _ _ _ h => h) (by rfl) ⟨_, fun w' hx => by (go_simp <;> with_reducible rfl), ?_⟩
        simp only [Act.put, List.setIfInBounds_toArray, List.set_cons_zero, List.set_cons_succ]
        refine rg_take 11 rfl (by kernel_rfl) (by kernel_rfl) (by kernel_rfl) (fun _ _ _ _ h => h) (by rfl) ⟨_, fun w' hx => by (go_simp <;> with_reducible rfl), ?_⟩
        simp only [Act.put, List.setIfInBounds_toArray, List.set_cons_zero, List.set_cons_succ]
        refine rg_take 12 rfl (by kernel_rfl) (by kernel_rfl) (by kernel_rfl) (fun _ _ _ _ h => h) (by rfl) ⟨.int .i64 (je : Int), fun w' hx => by (go_simp <;> with_reducible rfl), ?_⟩
        simp only [Act.put, List.setIfInBounds_toArray, List.set_cons_zero, List.set_cons_succ]
        refine rg_take 13 rfl (by kernel_rfl) (by kernel_rfl) (by kernel_rfl) (fun _ _ _ _ h => h) (by rfl) ⟨_, fun w' hx => by (go_simp <;> with_reducible rfl), ?_⟩   -- t54 := slice 45 t49 t50 t53 -
        simp only [Act.put, List.setIfInBounds_toArray, List.set_cons_zero, List.set_cons_succ]
        refine rg_last 14 rfl (by kernel_rfl) (by kernel_rfl) (by rfl) fun K hK => wp_copyB (.tmp 46) (.tmp 54) 30 rfl elemB w.heap.size c.pos c.p.length (243 - c.pos) (some (arrA w.heap.size c.pos)) rfl (some (arrA g c.pos)) (243 - c.pos) out5 c.p rfl 5 HA.out (Nat.le_refl _) hrow5.out (by rw [hol5]; exact Hfit.out) hrd5.out fun w6 hr6 hg6 => hK _ _ ?_
        simp only [Act.put, List.setIfInBounds_toArray, List.set_cons_zero, List.set_cons_succ]
        refine rg_done (by kernel_rfl) ?_
        go_wp2_with fail
        go_roundw
        case rel => exact ⟨k + 1, _, by omega, by go_num, Hstep.out, ⟨hr6⟩, below_row (Ext.tr hE5 (Ext.drew w5)) hg6 (Nat.le_refl _) (Ext.tr hE5 (Ext.drew w5)).size⟩
        case measure => simp [intOf]; omega
    · obtain rfl : k = m.l.length := by omega
      have hD := Lib.hid hP.done
      have hol := hP.len
      clear hP
      go_wp2
      go_ret
      exact ⟨out, _, hD.out, rfl, hO.own (Nat.le_refl _) hol.symm (by omega), hE⟩
end Go.Proofs.Ytgfanklhihciaaa
