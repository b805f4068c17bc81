
/- Contract: scowref06.Body.Delete. Printed by wip/tools/gen_sltrdel06.py. -/

import Derived.Test.YtgfanklhihciaaaSltRow

import Derived.Test.YtgfanklhihciaaaSltList

namespace Go.Proofs.Ytgfanklhihciaaa

open Go.RowKit

attribute [local go_sem] Oper.semAt_some

theorem elemC : ElemT Try.prog 48 54 2 32 := ElemT.mk' Try.underlying48 (z := .agg #[.int .i64 0, .slice none 0 0]) (by kernel_rfl) (by rfl) (by decide)
theorem scinfo (e : ScV) : (Try.prog.info? 54).map (·.size) = some e.cells.size := by
  show _ = some 2
  kernel_rfl
/-- What a deed on the document's body leaves. -/
def RDone (g : Nat) (w : World) (r : Int) (m : SBody) (e : Ending) (w' : World) : Prop := e = .returned (.int .i64 r) ∧ (∃ A c L, MAt w' g A c L m) ∧ Below g w w'
set_option maxRecDepth 100000 in
set_option maxHeartbeats 1000000 in
theorem ref_sdelete (g : Nat) (A : Option Addr) (c : Nat) (L : List ScV) (m : SBody) (i : Int) (w : World) (h : MAt w g A c L m) :
    Calls Try.prog 24 #[.pointer (some ⟨g, 0, none⟩), .int .i64 i] w (RDone g w (m.delete i).1 (m.delete i).2) := by
  have hn := h.inv.n
  have hlen := h.len
  have hl := h.list
  have Hh := Lib.hid h
  obtain ⟨n, hnn⟩ : ∃ n, n = L.length := ⟨_, rfl⟩
  rw [← hnn] at hl
  have Hn := Lib.hid hnn
  have hn120 : n ≤ 120 := by omega
  by_cases h0 : i < 0
  · have he : m.delete i = (7, m) := by unfold SBody.delete; rw [dif_neg (by omega)]
    rw [he]
    clear h hnn hlen
    go_enter Try.func24, Try.ntmps24
    go_wp2
    go_ret
    exact ⟨rfl, ⟨A, c, L, Hh.out⟩, Below.refl _ _⟩
  obtain ⟨i, rfl⟩ : ∃ j : Nat, i = j := ⟨i.toNat, by omega⟩
  by_cases h1 : n ≤ i
  · have he : m.delete (i : Int) = (7, m) := by unfold SBody.delete; rw [dif_neg (by omega)]
    have h1i : (n : Int) ≤ (i : Int) := by omega
    rw [he]
    clear h hnn hlen
    go_enter Try.func24, Try.ntmps24
    go_wp2
    go_ret
    exact ⟨rfl, ⟨A, c, L, Hh.out⟩, Below.refl _ _⟩
  have hin : i < L.length := by omega
  have hl2 : 0 ≤ (i : Int) ∧ (i : Int).toNat < m.l.length := ⟨by omega, by omega⟩
  have he : m.delete (i : Int) = (0, m.drop (i : Int).toNat hl2.2) := by unfold SBody.delete; rw [dif_pos hl2]
  have hx := h.get hin
  have hmt : (m.drop (i : Int).toNat hl2.2).top = if L[i].x.pos = m.top then m.top + L[i].x.p.length else m.top := by
    rw [hx]; rfl
  have hml : (m.drop (i : Int).toNat hl2.2).l = (L.take i ++ L.drop (i + 1)).map ScV.x := by
    rw [List.map_append, List.map_take, List.map_drop, h.l]; rfl
  have hmi := SBody.drop_inv h.inv (i : Int).toNat hl2.2
  rw [he]
  obtain ⟨m2, hm2⟩ : ∃ m2, m2 = m.drop (i : Int).toNat hl2.2 := ⟨_, rfl⟩
  rw [← hm2] at hmt hml hmi
  show Calls _ _ _ _ (RDone g w 0 (m.drop (i : Int).toNat hl2.2))
  rw [← hm2]
  obtain ⟨ad, hA, -, -⟩ := h.at_ hin
  subst hA
  have hcx : ∀ j u, (L[i].cells)[j]? = some u → w.cell? ((ad.add (i * 2)).add j) = some u := by
    intro j u hj
    obtain ⟨ad', e, hc⟩ := h.own.rd.2 (by intro e; have := scs_len L; rw [e] at this; simp at this; omega)
    injection e with e
    subst e
    have hj2 : j < 2 := (Array.getElem?_eq_some_iff.1 hj).1
    rw [add_add']
    refine hc _ u ?_
    rw [scs_at L i hin j hj2]; exact hj
  have hpl : L[i].x.p.length ≤ 78 := by rw [hx]; exact h.inv.len _ (List.getElem_mem _)
  have htop := h.inv.top
  obtain ⟨y, hy⟩ : ∃ y, y = L[i] := ⟨_, rfl⟩
  rw [← hy] at hcx hmt hpl
  have Hcx := Lib.hid hcx
  have Hmt := Lib.hid hmt
  have Hml := Lib.hid hml
  have Hmi := Lib.hid hmi
  have ik : (0 : Int) ≤ (i : Int) := by omega
  have ik2 : (i : Int) < (n : Int) := by omega
  have hgl := lt_of_heap h.row
  have hnc := h.own.nc
  have hnc2 : n ≤ c := by omega
  clear h hcx hmt hml hmi hm2 he hx hy hl2 hin h0 hlen hnn
  go_enter Try.func24, Try.ntmps24
  go_wp2_with (first | (have hcx := Hcx.out; refine wpList_load_cells rfl 54 (.tmp 23) rfl _ rfl y.cells _ hcx Try.underlying54 rfl (scinfo _) ?_; clear hcx) | (refine wpList_store_row rfl 54 (.tmp 5) (.tmp 24) rfl w.heap.size y.cells rfl rfl 54 _ (heap_alloc_new w _) (scinfo _) (by rfl) (scone _) ?_; rw [setRow_alloc]; refine Hid.out ?_))
  obtain ⟨xb, hxb⟩ : ∃ xb, xb = w.heap.size := ⟨_, rfl⟩
  obtain ⟨w1, hw1⟩ : ∃ w1, w1 = w.alloc (.cells y.cells 54) := ⟨_, rfl⟩
  have hrow : w1.drew.heap[xb]? = some (.cells y.cells 54 (0, 0)) := by rw [hw1, hxb]; exact heap_alloc_new w _
  have hx1 : Ext w w1 := by rw [hw1]; exact Ext.alloc w _
  rw [← hw1, ← hxb]
  have hM1 := (Hh.out.ext hx1).ext (Ext.drew w1)
  have X0 : w1.drew.cell? ⟨xb, 0, none⟩ = some (.int .i64 (y.x.pos : Int)) := by rw [cell_of_row _ xb 0 _ _ _ hrow]; rfl
  have X1 : w1.drew.drew.cell? ⟨xb, 1, none⟩ = some (.slice y.pa y.x.p.length y.pc) := by
    have : w1.drew.cell? ⟨xb, 1, none⟩ = some (.slice y.pa y.x.p.length y.pc) := by rw [cell_of_row _ xb 1 _ _ _ hrow]; rfl
    exact this
  have T0 := hM1.top
  have T1 := (hM1.ext (Ext.drew w1.drew)).top
  have F1 := ((hM1.ext (Ext.drew w1.drew)).mc).frozen 0
  have HM1 := Lib.hid hM1
  have Hx1 := Lib.hid hx1
  have hgl1 : g < w1.heap.size := lt_of_heap hM1.row
  clear hrow hx1 hw1 hxb hM1 hl
  refine Lib.hid ?_
  go_wp2_with fail
  refine rg_start (by kernel_rfl) ?_
  refine rg_take 0 rfl (by kernel_rfl) (by kernel_rfl) (by kernel_rfl) (fun _ _ _ _ h => h) (by rfl) ⟨_, fun w' hx => by (go_simp <;> with_reducible rfl), ?_⟩   -- t25 := fieldAddr 54 t5 0
  simp only [Act.put, List.setIfInBounds_toArray, List.set_cons_zero, List.set_cons_succ]
  refine rg_take 1 rfl (by kernel_rfl) (by kernel_rfl) (by kernel_rfl) (fun _ _ _ _ h => h) (by rfl) ⟨_, fun w' hx => by have hcx := hx.load X0; (go_simp <;> with_reducible rfl), ?_⟩
  simp only [Act.put, List.setIfInBounds_toArray, List.set_cons_zero, List.set_cons_succ]
  refine rg_take 2 rfl (by kernel_rfl) (by kernel_rfl) (by kernel_rfl) (fun _ _ _ _ h => h) (by rfl) ⟨_, fun w' hx => by (go_simp <;> with_reducible rfl), ?_⟩
  simp only [Act.put, List.setIfInBounds_toArray, List.set_cons_zero, List.set_cons_succ]
  refine rg_take 3 rfl (by kernel_rfl) (by kernel_rfl) (by kernel_rfl) (fun _ _ _ _ h => h) (by rfl) ⟨_, fun w' hx => by (go_simp <;> with_reducible rfl), ?_⟩   -- t28 := nilCheck t27
  simp only [Act.put, List.setIfInBounds_toArray, List.set_cons_zero, List.set_cons_succ]
  refine rg_take 4 rfl (by kernel_rfl) (by kernel_rfl) (by kernel_rfl) (fun _ _ _ _ h => h) (by rfl) ⟨_, fun w' hx => by (go_simp <;> with_reducible rfl), ?_⟩   -- t29 := fieldAddr 50 t28 0
  simp only [Act.put, List.setIfInBounds_toArray, List.set_cons_zero, List.set_cons_succ]
  refine rg_take 5 rfl (by kernel_rfl) (by kernel_rfl) (by kernel_rfl) (fun _ _ _ _ h => h) (by rfl) ⟨_, fun w' hx => by have hcx := hx.load T0; (go_simp <;> with_reducible rfl), ?_⟩
  simp only [Act.put, List.setIfInBounds_toArray, List.set_cons_zero, List.set_cons_succ]
  refine rg_take 6 rfl (by kernel_rfl) (by kernel_rfl) (by kernel_rfl) (fun _ _ _ _ h => h) (by rfl) ⟨.bool (decide ((y.x.pos : Int) = (m.top : Int))), fun w' hx => by (go_simp; try rfl), ?_⟩
  simp only [Act.put, List.setIfInBounds_toArray, List.set_cons_zero, List.set_cons_succ]
  refine rg_done (by kernel_rfl) ?_
  by_cases hpt : y.x.pos = m.top
  · have hpd : decide ((y.x.pos : Int) = (m.top : Int)) = true := by simp; omega
    have hmtv : m2.top = m.top + y.x.p.length := by rw [Hmt.out, if_pos hpt]
    obtain ⟨t2, ht2⟩ : ∃ t2, t2 = m2.top := ⟨_, rfl⟩
    have tw : IntKind.i64.wrap ((m.top : Int) + (y.x.p.length : Int)) = (t2 : Int) := by rw [IntKind.wrap_i64]; omega
    have Ht2 := Lib.hid ht2
    rw [hpd]
    have hMt := ((HM1.out.ext (Ext.drew w1.drew)).mc).setTop t2
    have hbt : Below g w (w1.drew.drew.setCell ⟨g, 0, none⟩ (.int .i64 (t2 : Int))) := (Below.mono (Ext.tr Hx1.out (Ext.tr (Ext.drew w1) (Ext.drew w1.drew))) (by omega)).grown (grown_cell _ g 0 _) (by show g ≤ w1.heap.size; omega) (fun k e => by injection e with e; omega)
    clear hmtv ht2
    go_wp2_with fail
    refine rg_start (by kernel_rfl) ?_
    refine rg_take 0 rfl (by kernel_rfl) (by kernel_rfl) (by kernel_rfl) (fun _ _ _ _ h => h) (by rfl) ⟨_, fun w' hx => by (go_simp <;> with_reducible rfl), ?_⟩
    simp only [Act.put, List.setIfInBounds_toArray, List.set_cons_zero, List.set_cons_succ]
    refine rg_take 1 rfl (by kernel_rfl) (by kernel_rfl) (by kernel_rfl) (fun _ _ _ _ h => h) (by rfl) ⟨_, fun w' hx => by (go_simp <;> with_reducible rfl), ?_⟩
    simp only [Act.put, List.setIfInBounds_toArray, List.set_cons_zero, List.set_cons_succ]
    refine rg_take 2 rfl (by kernel_rfl) (by kernel_rfl) (by kernel_rfl) (fun _ _ _ _ h => h) (by rfl) ⟨_, fun w' hx => by (go_simp <;> with_reducible rfl), ?_⟩   -- t34 := nilCheck t33
    simp only [Act.put, List.setIfInBounds_toArray, List.set_cons_zero, List.set_cons_succ]
    refine rg_take 3 rfl (by kernel_rfl) (by kernel_rfl) (by kernel_rfl) (fun _ _ _ _ h => h) (by rfl) ⟨_, fun w' hx => by (go_simp <;> with_reducible rfl), ?_⟩   -- t35 := fieldAddr 50 t34 0
    simp only [Act.put, List.setIfInBounds_toArray, List.set_cons_zero, List.set_cons_succ]
    refine rg_take 4 rfl (by kernel_rfl) (by kernel_rfl) (by kernel_rfl) (fun _ _ _ _ h => h) (by rfl) ⟨_, fun w' hx => by have hcx := hx.load T1; (go_simp <;> with_reducible rfl), ?_⟩
    simp only [Act.put, List.setIfInBounds_toArray, List.set_cons_zero, List.set_cons_succ]
    refine rg_take 5 rfl (by kernel_rfl) (by kernel_rfl) (by kernel_rfl) (fun _ _ _ _ h => h) (by rfl) ⟨_, fun w' hx => by (go_simp <;> with_reducible rfl), ?_⟩   -- t37 := fieldAddr 54 t5 1
    simp only [Act.put, List.setIfInBounds_toArray, List.set_cons_zero, List.set_cons_succ]
    refine rg_take 6 rfl (by kernel_rfl) (by kernel_rfl) (by kernel_rfl) (fun _ _ _ _ h => h) (by rfl) ⟨_, fun w' hx => by have hcx := hx.load X1; (go_simp <;> with_reducible rfl), ?_⟩
    simp only [Act.put, List.setIfInBounds_toArray, List.set_cons_zero, List.set_cons_succ]
    refine rg_take 7 rfl (by kernel_rfl) (by kernel_rfl) (by kernel_rfl) (fun _ _ _ _ h => h) (by rfl) ⟨_, fun w' hx => by (go_simp <;> with_reducible rfl), ?_⟩   -- t39 := len(t38)
    simp only [Act.put, List.setIfInBounds_toArray, List.set_cons_zero, List.set_cons_succ]
    refine rg_take 8 rfl (by kernel_rfl) (by kernel_rfl) (by kernel_rfl) (fun _ _ _ _ h => h) (by rfl) ⟨.int .i64 (t2 : Int), fun w' hx => by (go_simp <;> with_reducible rfl), ?_⟩
    simp only [Act.put, List.setIfInBounds_toArray, List.set_cons_zero, List.set_cons_succ]
    refine rg_take 9 rfl (by kernel_rfl) (by kernel_rfl) (by kernel_rfl) (fun _ _ _ _ h => h) (by rfl) ⟨_, fun w' hx => by (go_simp <;> with_reducible rfl), ?_⟩   -- t41 := nilCheck t32
    simp only [Act.put, List.setIfInBounds_toArray, List.set_cons_zero, List.set_cons_succ]
    refine rg_take 10 rfl (by kernel_rfl) (by kernel_rfl) (by kernel_rfl) (fun _ _ _ _ h => h) (by rfl) ⟨_, fun w' hx => by (go_simp <;> with_reducible rfl), ?_⟩   -- t42 := fieldAddr 50 t41 0
    simp only [Act.put, List.setIfInBounds_toArray, List.set_cons_zero, List.set_cons_succ]
    refine rg_store 11 rfl (by kernel_rfl) (by kernel_rfl) (by rfl) ⟨_, by (go_simp <;> rfl), ?_⟩
    simp only [Act.put]
    refine rg_done (by kernel_rfl) ?_
    obtain ⟨w3, hw3⟩ : ∃ w3, w3 = (w1.setCell ⟨g, 0, none⟩ (.int .i64 (t2 : Int))).drew.drew := ⟨_, rfl⟩
    rw [← hw3]
    have hM3 : MC w3 g (some ad) c L m2.top := by rw [hw3, ← Ht2.out]; exact hMt
    have hb3 : Below g w w3 := by rw [hw3]; exact hbt
    clear hw3 hMt hbt tw hpd hpt X0 X1 T0 T1 F1 HM1 Hx1 Hcx
    have h3l := hM3.list
    rw [← Hn.out] at h3l
    have hg3 := lt_of_heap hM3.row
    have HM3 := Lib.hid hM3
    have hic : i ≤ c := by omega
    have hrd1 : Rd w3 2 (some ad) i (scs (L.take i)) := by
      have := hM3.own.rd.headS (m := i) (by have := Hn.out; omega)
      rwa [scs_take] at this
    obtain ⟨m7, hm7⟩ : ∃ m7, m7 = n - (i + 1) := ⟨_, rfl⟩
    obtain ⟨A7, hA7⟩ : ∃ A7, A7 = (if c = i + 1 then some ad else (some ad).map (·.add ((i + 1) * 2))) := ⟨_, rfl⟩
    have hrd7 : Rd w3 2 A7 m7 (scs (L.drop (i + 1))) := by
      have := hM3.own.rd.cutS (k := i + 1) (m := L.length) (by have := Hn.out; omega) (Nat.le_refl _) (c := c) hnc
      rw [← hA7, ← Hn.out, ← hm7, Hn.out, scs_take, List.take_length, scs_drop] at this
      exact this
    have Hm7 := Lib.hid hm7
    have HA7 := Lib.hid hA7
    have Hrd1 := Lib.hid hrd1
    have Hrd7 := Lib.hid hrd7
    have jw1 : IntKind.i64.wrap ((i : Int) + 1) = ((i + 1 : Nat) : Int) := by rw [IntKind.wrap_i64]; omega
    clear hM3 hm7 hA7 hrd1 hrd7
    go_wp2_with (first | (refine wpList_sliceH (by rfl) (.tmp 47) (.tmp 48) 48 rfl elemC (some ad) n c rfl i rfl (by omega) ?_) | (refine wpList_app (by rfl) (.tmp 43) (.tmp 49) 48 rfl elemC w3.heap.size _ 0 0 [] rfl (some ad) i c (scs (L.take i)) rfl i (by omega) (scs (L.take i)) rfl (Own.none_ _ _ _ _ _) Hrd1.out (scs_one_cell _) (by omega) (by omega) (Nat.le_refl _) ?_; intro A6 c6 w6 ho6 hg6 hr6; refine Hid.out ?_))
    have hE6 : Ext w3 w6 := grown_none (by simpa [ownRow] using hg6)
    have h6l := (HM3.out.ext hE6).list
    rw [← Hn.out] at h6l
    have hr7 := Hrd7.out.below hE6
    obtain ⟨L2, hL2⟩ : ∃ L2, L2 = L.take i ++ L.drop (i + 1) := ⟨_, rfl⟩
    have HL2 := Lib.hid hL2
    have hs6 := hE6.size
    clear hg6 hr6 h3l hL2
    refine Lib.hid ?_
    go_wp2_with (first | (refine wpList_sliceL (by rfl) (.tmp 56) (.tmp 58) 48 rfl elemC (some ad) n c rfl (i + 1) rfl (by omega) A7 HA7.out m7 _ Hm7.out rfl ?_) | (refine wpList_app (by rfl) (.tmp 52) (.tmp 59) 48 rfl elemC w3.heap.size A6 i c6 (scs (L.take i)) rfl A7 m7 (c - (i + 1)) (scs (L.drop (i + 1))) rfl (i + m7) rfl (scs L2) (by rw [HL2.out, scs_app]) ho6 hr7 (scs_one_cell _) (by have := Hm7.out; omega) (by have := Hm7.out; omega) hs6 ?_; intro A8 c8 w8 ho8 hg8 hr8; refine Hid.out ?_))
    have hE8 : Ext w3 w8 := Below.trans hE6 (ho6.low hg8 (Nat.le_refl _) hs6)
    have hlen : i + m7 = L2.length := by rw [HL2.out]; simp only [List.length_append, List.length_take, List.length_drop]; have := Hm7.out; have := Hn.out; omega
    rw [hlen] at ho8 ⊢
    have hM8 := HM3.out.ext hE8
    have h8l := hM8.list
    have f8 := hM8.frozen 1
    have hMs := hM8.setList (L' := L2) (ho8.mono (by omega)) (fun e he => hM8.each e (by rw [HL2.out] at he; rcases List.mem_append.1 he with he | he; exact List.mem_of_mem_take he; exact List.mem_of_mem_drop he))
    have hb8 : Below g w (w8.setCell ⟨g, 1, none⟩ (.slice A8 L2.length c8)) := (Below.trans hb3 (Below.mono hE8 (by omega))).grown (grown_cell _ g 1 _) (by have := hE8.size; omega) (fun k e => by injection e with e; omega)
    have HMs := Lib.hid hMs
    have Hb8 := Lib.hid hb8
    clear ho8 hg8 hr8 ho6 hr7 hM8 hMs hb8 h6l hlen
    refine Lib.hid ?_
    go_wp2_with fail
    go_ret
    exact ⟨rfl, ⟨A8, c8, L2, HMs.out.row, HMs.out.own, HMs.out.each, by rw [Hml.out, HL2.out], Hmi.out⟩, Hb8.out⟩
  · have hpd : decide ((y.x.pos : Int) = (m.top : Int)) = false := by simp; omega
    have hmtv : m2.top = m.top := by rw [Hmt.out, if_neg hpt]
    rw [hpd]
    obtain ⟨w3, hw3⟩ : ∃ w3, w3 = w1.drew := ⟨_, rfl⟩
    rw [← hw3]
    have hM3 : MC w3 g (some ad) c L m2.top := by rw [hw3, hmtv]; exact HM1.out.mc
    have hb3 : Below g w w3 := by rw [hw3]; exact Below.mono (Ext.tr Hx1.out (Ext.drew w1)) (by omega)
    clear hw3 hmtv hpd hpt X0 X1 T0 T1 F1 HM1 Hx1 Hcx
    have h3l := hM3.list
    rw [← Hn.out] at h3l
    have hg3 := lt_of_heap hM3.row
    have HM3 := Lib.hid hM3
    have hic : i ≤ c := by omega
    have hrd1 : Rd w3 2 (some ad) i (scs (L.take i)) := by
      have := hM3.own.rd.headS (m := i) (by have := Hn.out; omega)
      rwa [scs_take] at this
    obtain ⟨m7, hm7⟩ : ∃ m7, m7 = n - (i + 1) := ⟨_, rfl⟩
    obtain ⟨A7, hA7⟩ : ∃ A7, A7 = (if c = i + 1 then some ad else (some ad).map (·.add ((i + 1) * 2))) := ⟨_, rfl⟩
    have hrd7 : Rd w3 2 A7 m7 (scs (L.drop (i + 1))) := by
      have := hM3.own.rd.cutS (k := i + 1) (m := L.length) (by have := Hn.out; omega) (Nat.le_refl _) (c := c) hnc
      rw [← hA7, ← Hn.out, ← hm7, Hn.out, scs_take, List.take_length, scs_drop] at this
      exact this
    have Hm7 := Lib.hid hm7
    have HA7 := Lib.hid hA7
    have Hrd1 := Lib.hid hrd1
    have Hrd7 := Lib.hid hrd7
    have jw1 : IntKind.i64.wrap ((i : Int) + 1) = ((i + 1 : Nat) : Int) := by rw [IntKind.wrap_i64]; omega
    clear hM3 hm7 hA7 hrd1 hrd7
    go_wp2_with (first | (refine wpList_sliceH (by rfl) (.tmp 47) (.tmp 48) 48 rfl elemC (some ad) n c rfl i rfl (by omega) ?_) | (refine wpList_app (by rfl) (.tmp 43) (.tmp 49) 48 rfl elemC w3.heap.size _ 0 0 [] rfl (some ad) i c (scs (L.take i)) rfl i (by omega) (scs (L.take i)) rfl (Own.none_ _ _ _ _ _) Hrd1.out (scs_one_cell _) (by omega) (by omega) (Nat.le_refl _) ?_; intro A6 c6 w6 ho6 hg6 hr6; refine Hid.out ?_))
    have hE6 : Ext w3 w6 := grown_none (by simpa [ownRow] using hg6)
    have h6l := (HM3.out.ext hE6).list
    rw [← Hn.out] at h6l
    have hr7 := Hrd7.out.below hE6
    obtain ⟨L2, hL2⟩ : ∃ L2, L2 = L.take i ++ L.drop (i + 1) := ⟨_, rfl⟩
    have HL2 := Lib.hid hL2
    have hs6 := hE6.size
    clear hg6 hr6 h3l hL2
    refine Lib.hid ?_
    go_wp2_with (first | (refine wpList_sliceL (by rfl) (.tmp 56) (.tmp 58) 48 rfl elemC (some ad) n c rfl (i + 1) rfl (by omega) A7 HA7.out m7 _ Hm7.out rfl ?_) | (refine wpList_app (by rfl) (.tmp 52) (.tmp 59) 48 rfl elemC w3.heap.size A6 i c6 (scs (L.take i)) rfl A7 m7 (c - (i + 1)) (scs (L.drop (i + 1))) rfl (i + m7) rfl (scs L2) (by rw [HL2.out, scs_app]) ho6 hr7 (scs_one_cell _) (by have := Hm7.out; omega) (by have := Hm7.out; omega) hs6 ?_; intro A8 c8 w8 ho8 hg8 hr8; refine Hid.out ?_))
    have hE8 : Ext w3 w8 := Below.trans hE6 (ho6.low hg8 (Nat.le_refl _) hs6)
    have hlen : i + m7 = L2.length := by rw [HL2.out]; simp only [List.length_append, List.length_take, List.length_drop]; have := Hm7.out; have := Hn.out; omega
    rw [hlen] at ho8 ⊢
    have hM8 := HM3.out.ext hE8
    have h8l := hM8.list
    have f8 := hM8.frozen 1
    have hMs := hM8.setList (L' := L2) (ho8.mono (by omega)) (fun e he => hM8.each e (by rw [HL2.out] at he; rcases List.mem_append.1 he with he | he; exact List.mem_of_mem_take he; exact List.mem_of_mem_drop he))
    have hb8 : Below g w (w8.setCell ⟨g, 1, none⟩ (.slice A8 L2.length c8)) := (Below.trans hb3 (Below.mono hE8 (by omega))).grown (grown_cell _ g 1 _) (by have := hE8.size; omega) (fun k e => by injection e with e; omega)
    have HMs := Lib.hid hMs
    have Hb8 := Lib.hid hb8
    clear ho8 hg8 hr8 ho6 hr7 hM8 hMs hb8 h6l hlen
    refine Lib.hid ?_
    go_wp2_with fail
    go_ret
    exact ⟨rfl, ⟨A8, c8, L2, HMs.out.row, HMs.out.own, HMs.out.each, by rw [Hml.out, HL2.out], Hmi.out⟩, Hb8.out⟩
end Go.Proofs.Ytgfanklhihciaaa
