
/- Contract: scowref06.Body.Pack. Printed by wip/tools/gen_sltrpack06.py. -/

import Derived.Test.YtgfanklhihciaaaSltRow

namespace Go.Proofs.Ytgfanklhihciaaa

open Go.RowKit

attribute [local go_sem] Oper.semAt_some

theorem pack_step {l xs : List SCell} {k : Nat} (hk : k < l.length) (hx : xs = (packL l).take k ++ l.drop k) : xs.set k ⟨243 - sumL (l.take (k + 1)), l[k].p⟩ = (packL l).take (k + 1) ++ l.drop (k + 1) := by
  have hp := packL_len l
  subst hx
  refine List.ext_getElem? fun j => ?_
  rw [List.getElem?_set]
  by_cases hj : k = j
  · subst hj
    rw [if_pos rfl, if_pos (by simp only [List.length_append, List.length_take, List.length_drop]; omega), List.getElem?_append_left (by simp only [List.length_take]; omega), List.getElem?_take, if_pos (by omega), List.getElem?_eq_getElem (by omega), packL_get l k hk]
  · rw [if_neg hj]
    by_cases h2 : j < k
    · rw [List.getElem?_append_left (by simp only [List.length_take]; omega), List.getElem?_append_left (by simp only [List.length_take]; omega), List.getElem?_take, List.getElem?_take, if_pos h2, if_pos (by omega)]
    · rw [List.getElem?_append_right (by simp only [List.length_take]; omega), List.getElem?_append_right (by simp only [List.length_take]; omega), List.getElem?_drop, List.getElem?_drop]
      simp only [List.length_take]
      congr 1
      omega
set_option maxRecDepth 100000 in
set_option maxHeartbeats 1000000 in
theorem ref_spack (g : Nat) (A : Option Addr) (c : Nat) (L : List ScV) (m : SBody) (w : World) (h : MAt w g A c L m) :
    Calls Try.prog 25 #[.pointer (some ⟨g, 0, none⟩)] w fun e w' => e = .returned (.tuple #[]) ∧ (∃ L', MAt w' g A c L' m.pack) ∧ Below g w w' := by
  have hn := h.inv.n
  have hs := h.inv.sum
  have hlen := h.len
  have hgs := lt_of_heap h.row
  have hM := h.mc
  have c0 := hM.top
  have f0 := hM.frozen 0
  have hM1 := hM.setTop 243
  have hb1 : Below g w (w.setCell ⟨g, 0, none⟩ (.int .i64 243)) := (Below.refl g w).grown (grown_cell w g 0 _) (by omega) (fun k e => by injection e with e; omega)
  have Hl := Lib.hid h.l
  have HI := Lib.hid h.inv
  obtain ⟨n, hnn⟩ : ∃ n, n = L.length := ⟨_, rfl⟩
  have hmn : n = m.l.length := by rw [hnn, hlen]
  have Hmn := Lib.hid hmn
  have Hn := Lib.hid hnn
  have hn120 : n ≤ 120 := by omega
  clear h hM hmn hnn hlen hn
  go_enter Try.func25, Try.ntmps25
  go_wp2_with fail
  go_loopw [2] (fun i wr => ∃ (k : Nat) (L' : List ScV) (t : Nat), k ≤ n ∧ i = .int .i64 k ∧ MC wr g A c L' t ∧ L'.length = n ∧ t = 243 - sumL (m.l.take k) ∧ L'.map ScV.x = (packL m.l).take k ++ m.l.drop k ∧ Below g w wr) (fun i _ => n - (intOf i).toNat)
  case atStart => exact ⟨0, L, 243, by omega, rfl, hM1, Hn.out.symm, rfl, by simp [Hl.out], hb1⟩
  case round =>
    clear hM1 hb1 c0 f0
    obtain ⟨k, L', t, hk, rfl, hM, hln, ht, hmap, hb⟩ := hrel
    have hl0 := hM.list
    rw [hln] at hl0
    by_cases hkn : k < n
    · obtain ⟨ad, rfl, -, hp⟩ := hM.at_ (k := k) (by omega)
      have hkm : k < m.l.length := by have := Hmn.out; omega
      have hx : (L'[k]'(by omega)).x = m.l[k] := by
        have h1 : (L'.map ScV.x)[k]? = some (L'[k]'(by omega)).x := by rw [List.getElem?_map, List.getElem?_eq_getElem (by omega)]; rfl
        rw [hmap, List.getElem?_append_right (by rw [List.length_take]; omega), List.getElem?_drop] at h1
        have h2 : k + (k - ((packL m.l).take k).length) = k := by rw [List.length_take, packL_len]; omega
        rw [h2, List.getElem?_eq_getElem hkm] at h1
        injection h1 with h1
        exact h1.symm
      have hsum := sumL_take_succ m.l k hkm
      have hle := sumL_take_le m.l (k + 1)
      have hsm : sumL m.l = m.sum := rfl
      rw [← hx] at hsum
      obtain ⟨t2, ht2⟩ : ∃ t2, t2 = 243 - sumL (m.l.take (k + 1)) := ⟨_, rfl⟩
      have hstep := pack_step hkm hmap
      rw [← ht2, ← hx] at hstep
      have hgl := lt_of_heap hM.row
      have hMd := hM.ext (Ext.drew wr)
      have hMt := hMd.setTop t2
      have hbt : Below g w (wr.drew.setCell ⟨g, 0, none⟩ (.int .i64 (t2 : Int))) := (hb.trans (Below.mono (Ext.drew wr) (by omega))).grown (grown_cell _ g 0 _) (by show g ≤ wr.heap.size; omega) (fun k e => by injection e with e; omega)
      have d0 := hMd.top
      have d1 := hMd.list
      have d2 : wr.drew.cell? _ = _ := hp
      have f0 := hMd.frozen 0
      have hpl : (L'[k]'(by omega)).x.p.length ≤ t := by omega
      have htw : IntKind.i64.wrap ((t : Int) - ((L'[k]'(by omega)).x.p.length : Int)) = (t2 : Int) := by rw [IntKind.wrap_i64]; omega
      obtain ⟨w1, hw1⟩ : ∃ w1, w1 = wr.drew.setCell ⟨g, 0, none⟩ (.int .i64 (t2 : Int)) := ⟨_, rfl⟩
      rw [← hw1] at hMt hbt
      obtain ⟨hMs, hgb, f1⟩ := (hMt.ext (Ext.drew w1)).setAt (k := k) (by omega) rfl t2
      have e0 := (hMt.ext (Ext.drew w1)).top
      have e1 := (hMt.ext (Ext.drew w1)).list
      obtain ⟨ad2, e2x, e2, -⟩ := (hMt.ext (Ext.drew w1)).at_ (k := k) (by omega)
      injection e2x with e2x
      subst e2x
      have hgs1 := lt_of_heap hMt.row
      have hbs : Below g w (w1.drew.setCell (ad.add (k * 2)) (.int .i64 (t2 : Int))) := (hbt.trans (Below.mono (Ext.drew w1) (by omega))).grown (row := some ad.block) (grown_at w1.drew ad (k * 2) _) (by show g ≤ w1.heap.size; omega) (fun k e => by injection e with e; omega)
      obtain ⟨y, hy⟩ : ∃ y, y = L'[k]'(by omega) := ⟨_, rfl⟩
      rw [← hy] at htw d2 e2 hMs hstep hpl hsum
      rw [hln] at d1 e1
      have ik : (0 : Int) ≤ (k : Int) := by omega
      have ik2 : (k : Int) < (n : Int) := by omega
      have HMs := Lib.hid hMs
      have Hstep := Lib.hid hstep
      have Ht2 := Lib.hid ht2
      have Hw1 := Lib.hid hw1
      have Hln := Lib.hid hln
      clear hM hMd hMt hMs hstep hx hy hw1 hp hsum hle hsm ht2 hln hmap hbt ht
      go_wp2_with fail
      refine rg_start (by kernel_rfl) ?_
      refine rg_take 0 rfl (by kernel_rfl) (by kernel_rfl) (by kernel_rfl) (fun _ _ _ _ h => h) (by rfl) ⟨_, fun w' hx => by (go_simp <;> with_reducible rfl), ?_⟩
      simp only [Act.put, List.setIfInBounds_toArray, List.set_cons_zero, List.set_cons_succ]
      refine rg_take 1 rfl (by kernel_rfl) (by kernel_rfl) (by kernel_rfl) (fun _ _ _ _ h => h) (by rfl) ⟨_, fun w' hx => by (go_simp <;> with_reducible rfl), ?_⟩
      simp only [Act.put, List.setIfInBounds_toArray, List.set_cons_zero, List.set_cons_succ]
      refine rg_take 2 rfl (by kernel_rfl) (by kernel_rfl) (by kernel_rfl) (fun _ _ _ _ h => h) (by rfl) ⟨_, fun w' hx => by (go_simp <;> with_reducible rfl), ?_⟩   -- t17 := nilCheck t16
      simp only [Act.put, List.setIfInBounds_toArray, List.set_cons_zero, List.set_cons_succ]
      refine rg_take 3 rfl (by kernel_rfl) (by kernel_rfl) (by kernel_rfl) (fun _ _ _ _ h => h) (by rfl) ⟨_, fun w' hx => by (go_simp <;> with_reducible rfl), ?_⟩   -- t18 := fieldAddr 50 t17 0
      simp only [Act.put, List.setIfInBounds_toArray, List.set_cons_zero, List.set_cons_succ]
      refine rg_take 4 rfl (by kernel_rfl) (by kernel_rfl) (by kernel_rfl) (fun _ _ _ _ h => h) (by rfl) ⟨_, fun w' hx => by have hcx := hx.load d0; (go_simp <;> with_reducible rfl), ?_⟩
      simp only [Act.put, List.setIfInBounds_toArray, List.set_cons_zero, List.set_cons_succ]
      refine rg_take 5 rfl (by kernel_rfl) (by kernel_rfl) (by kernel_rfl) (fun _ _ _ _ h => h) (by rfl) ⟨_, fun w' hx => by (go_simp <;> with_reducible rfl), ?_⟩
      simp only [Act.put, List.setIfInBounds_toArray, List.set_cons_zero, List.set_cons_succ]
      refine rg_take 6 rfl (by kernel_rfl) (by kernel_rfl) (by kernel_rfl) (fun _ _ _ _ h => h) (by rfl) ⟨_, fun w' hx => by (go_simp <;> with_reducible rfl), ?_⟩   -- t21 := nilCheck t20
      simp only [Act.put, List.setIfInBounds_toArray, List.set_cons_zero, List.set_cons_succ]
      refine rg_take 7 rfl (by kernel_rfl) (by kernel_rfl) (by kernel_rfl) (fun _ _ _ _ h => h) (by rfl) ⟨_, fun w' hx => by (go_simp <;> with_reducible rfl), ?_⟩   -- t22 := fieldAddr 50 t21 1
      simp only [Act.put, List.setIfInBounds_toArray, List.set_cons_zero, List.set_cons_succ]
      refine rg_take 8 rfl (by kernel_rfl) (by kernel_rfl) (by kernel_rfl) (fun _ _ _ _ h => h) (by rfl) ⟨_, fun w' hx => by have hcx := hx.load d1; (go_simp <;> with_reducible rfl), ?_⟩
      simp only [Act.put, List.setIfInBounds_toArray, List.set_cons_zero, List.set_cons_succ]
      refine rg_take 9 rfl (by kernel_rfl) (by kernel_rfl) (by kernel_rfl) (fun _ _ _ _ h => h) (by rfl) ⟨_, fun w' hx => by (go_simp <;> with_reducible rfl), ?_⟩
      simp only [Act.put, List.setIfInBounds_toArray, List.set_cons_zero, List.set_cons_succ]
      refine rg_take 10 rfl (by kernel_rfl) (by kernel_rfl) (by kernel_rfl) (fun _ _ _ _ h => h) (by rfl) ⟨_, fun w' hx => by (go_simp <;> with_reducible rfl), ?_⟩   -- t25 := indexAddr 48 t23 t24
      simp only [Act.put, List.setIfInBounds_toArray, List.set_cons_zero, List.set_cons_succ]
      refine rg_take 11 rfl (by kernel_rfl) (by kernel_rfl) (by kernel_rfl) (fun _ _ _ _ h => h) (by rfl) ⟨_, fun w' hx => by (go_simp <;> with_reducible rfl), ?_⟩   -- t26 := fieldAddr 54 t25 1
      simp only [Act.put, List.setIfInBounds_toArray, List.set_cons_zero, List.set_cons_succ]
      refine rg_take 12 rfl (by kernel_rfl) (by kernel_rfl) (by kernel_rfl) (fun _ _ _ _ h => h) (by rfl) ⟨_, fun w' hx => by have hcx := hx.load d2; (go_simp <;> with_reducible rfl), ?_⟩
      simp only [Act.put, List.setIfInBounds_toArray, List.set_cons_zero, List.set_cons_succ]
      refine rg_take 13 rfl (by kernel_rfl) (by kernel_rfl) (by kernel_rfl) (fun _ _ _ _ h => h) (by rfl) ⟨_, fun w' hx => by (go_simp <;> with_reducible rfl), ?_⟩   -- t28 := len(t27)
      simp only [Act.put, List.setIfInBounds_toArray, List.set_cons_zero, List.set_cons_succ]
      refine rg_take 14 rfl (by kernel_rfl) (by kernel_rfl) (by kernel_rfl) (fun _ _ _ _ h => h) (by rfl) ⟨.int .i64 (t2 : Int), fun w' hx => by (go_simp <;> with_reducible rfl), ?_⟩
      simp only [Act.put, List.setIfInBounds_toArray, List.set_cons_zero, List.set_cons_succ]
      refine rg_take 15 rfl (by kernel_rfl) (by kernel_rfl) (by kernel_rfl) (fun _ _ _ _ h => h) (by rfl) ⟨_, fun w' hx => by (go_simp <;> with_reducible rfl), ?_⟩   -- t30 := nilCheck t15
      simp only [Act.put, List.setIfInBounds_toArray, List.set_cons_zero, List.set_cons_succ]
      refine rg_take 16 rfl (by kernel_rfl) (by kernel_rfl) (by kernel_rfl) (fun _ _ _ _ h => h) (by rfl) ⟨_, fun w' hx => by (go_simp <;> with_reducible rfl), ?_⟩   -- t31 := fieldAddr 50 t30 0
      simp only [Act.put, List.setIfInBounds_toArray, List.set_cons_zero, List.set_cons_succ]
      refine rg_store 17 rfl (by kernel_rfl) (by kernel_rfl) (by rfl) ⟨_, by (go_simp <;> rfl), ?_⟩
      simp only [Act.put]
      refine rg_done (by kernel_rfl) ?_
      rw [show (wr.setCell ⟨g, 0, none⟩ (.int .i64 (t2 : Int))).drew = w1 from Hw1.out.symm]
      go_wp2_with fail
      refine rg_start (by kernel_rfl) ?_
      refine rg_take 0 rfl (by kernel_rfl) (by kernel_rfl) (by kernel_rfl) (fun _ _ _ _ h => h) (by rfl) ⟨_, fun w' hx => by (go_simp <;> with_reducible rfl), ?_⟩
      simp only [Act.put, List.setIfInBounds_toArray, List.set_cons_zero, List.set_cons_succ]
      refine rg_take 1 rfl (by kernel_rfl) (by kernel_rfl) (by kernel_rfl) (fun _ _ _ _ h => h) (by rfl) ⟨_, fun w' hx => by (go_simp <;> with_reducible rfl), ?_⟩   -- t33 := nilCheck t32
      simp only [Act.put, List.setIfInBounds_toArray, List.set_cons_zero, List.set_cons_succ]
      refine rg_take 2 rfl (by kernel_rfl) (by kernel_rfl) (by kernel_rfl) (fun _ _ _ _ h => h) (by rfl) ⟨_, fun w' hx => by (go_simp <;> with_reducible rfl), ?_⟩   -- t34 := fieldAddr 50 t33 1
      simp only [Act.put, List.setIfInBounds_toArray, List.set_cons_zero, List.set_cons_succ]
      refine rg_take 3 rfl (by kernel_rfl) (by kernel_rfl) (by kernel_rfl) (fun _ _ _ _ h => h) (by rfl) ⟨_, fun w' hx => by have hcx := hx.load e1; (go_simp <;> with_reducible rfl), ?_⟩
      simp only [Act.put, List.setIfInBounds_toArray, List.set_cons_zero, List.set_cons_succ]
      refine rg_take 4 rfl (by kernel_rfl) (by kernel_rfl) (by kernel_rfl) (fun _ _ _ _ h => h) (by rfl) ⟨_, fun w' hx => by (go_simp <;> with_reducible rfl), ?_⟩
      simp only [Act.put, List.setIfInBounds_toArray, List.set_cons_zero, List.set_cons_succ]
      refine rg_take 5 rfl (by kernel_rfl) (by kernel_rfl) (by kernel_rfl) (fun _ _ _ _ h => h) (by rfl) ⟨_, fun w' hx => by (go_simp <;> with_reducible rfl), ?_⟩
      simp only [Act.put, List.setIfInBounds_toArray, List.set_cons_zero, List.set_cons_succ]
      refine rg_take 6 rfl (by kernel_rfl) (by kernel_rfl) (by kernel_rfl) (fun _ _ _ _ h => h) (by rfl) ⟨_, fun w' hx => by (go_simp <;> with_reducible rfl), ?_⟩   -- t38 := nilCheck t37
      simp only [Act.put, List.setIfInBounds_toArray, List.set_cons_zero, List.set_cons_succ]
      refine rg_take 7 rfl (by kernel_rfl) (by kernel_rfl) (by kernel_rfl) (fun _ _ _ _ h => h) (by rfl) ⟨_, fun w' hx => by (go_simp <;> with_reducible rfl), ?_⟩   -- t39 := fieldAddr 50 t38 0
      simp only [Act.put, List.setIfInBounds_toArray, List.set_cons_zero, List.set_cons_succ]
      refine rg_take 8 rfl (by kernel_rfl) (by kernel_rfl) (by kernel_rfl) (fun _ _ _ _ h => h) (by rfl) ⟨_, fun w' hx => by have hcx := hx.load e0; (go_simp <;> with_reducible rfl), ?_⟩
      simp only [Act.put, List.setIfInBounds_toArray, List.set_cons_zero, List.set_cons_succ]
      refine rg_take 9 rfl (by kernel_rfl) (by kernel_rfl) (by kernel_rfl) (fun _ _ _ _ h => h) (by rfl) ⟨_, fun w' hx => by (go_simp <;> with_reducible rfl), ?_⟩   -- t41 := indexAddr 48 t35 t36
      simp only [Act.put, List.setIfInBounds_toArray, List.set_cons_zero, List.set_cons_succ]
      refine rg_take 10 rfl (by kernel_rfl) (by kernel_rfl) (by kernel_rfl) (fun _ _ _ _ h => h) (by rfl) ⟨_, fun w' hx => by (go_simp <;> with_reducible rfl), ?_⟩   -- t42 := fieldAddr 54 t41 0
      simp only [Act.put, List.setIfInBounds_toArray, List.set_cons_zero, List.set_cons_succ]
      refine rg_store 11 rfl (by kernel_rfl) (by kernel_rfl) (by rfl) ⟨_, by (go_simp <;> rfl), ?_⟩
      simp only [Act.put]
      refine rg_done (by kernel_rfl) ?_
      go_wp2_with fail
      go_roundw
      case rel =>
        refine ⟨k + 1, _, t2, by omega, by go_num, HMs.out, by rw [List.length_set]; exact Hln.out, Ht2.out, ?_, hbs⟩
        rw [List.map_set]
        exact Hstep.out
      case measure => simp [intOf]; omega
    · obtain rfl : k = n := by omega
      have hpk : L'.map ScV.x = m.pack.l := by
        rw [hmap, Hmn.out, List.drop_length, List.append_nil, ← packL_len m.l, List.take_length]
        rfl
      have htp : t = m.pack.top := by
        rw [ht, Hmn.out, List.take_length]
        rfl
      have Hpk := Lib.hid hpk
      have Htp := Lib.hid htp
      clear hmap ht hpk htp
      go_wp2_with fail
      refine bodyPost_end (results_none rfl _ _ _) rfl ?_
      refine ⟨rfl, ⟨L', ⟨?_, ?_, hM.each, Hpk.out, SBody.pack_inv HI.out⟩⟩, hb⟩
      · rw [← Htp.out]; exact hM.row
      · exact hM.own
end Go.Proofs.Ytgfanklhihciaaa
