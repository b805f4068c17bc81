
/- Contract: scowref20.Put. Printed by wip/tools/gen_oprput20.py. -/

import Derived.Test.YtdekdblebflklaaOpPut

import Derived.Test.YtdekdblebflklaaOpSame

import Derived.Test.YtdekdblebflklaaReg6

namespace Go.Proofs.Ytdekdblebflklaa

open Go.RowKit

attribute [local go_sem] Oper.semAt_some

set_option maxRecDepth 100000 in
set_option maxHeartbeats 2000000 in
theorem ref_oput (A : Option Addr) (o : List OpV) (c : Nat) (w : World) (hA : RdO w A o) (hl : o.length ≤ 100000) (hs : ∀ e ∈ o, e.x.key.length ≤ 1000 ∧ e.x.val.length ≤ 100000) :
    Calls Try.prog 22 #[.slice A o.length c] w fun e w' => ∃ A' c', e = .returned (.slice A' (Opn.putAll (o.map OpV.x)).length c') ∧ Own w' w.heap.size 5 1 A' (Opn.putAll (o.map OpV.x)).length c' (bvs (Opn.putAll (o.map OpV.x))) ∧ Below w.heap.size w w' := by
  obtain ⟨m, hm⟩ : ∃ m, m = o.map OpV.x := ⟨_, rfl⟩
  have hml : m.length = o.length := by rw [hm]; simp
  have hms : ∀ e ∈ m, e.key.length ≤ 1000 ∧ e.val.length ≤ 100000 := by
    intro e he; rw [hm] at he; obtain ⟨x, hx, rfl⟩ := List.mem_map.1 he; exact hs x hx
  rw [← hm]
  have HM := Lib.hid hm
  have Hml := Lib.hid hml
  have Hms := Lib.hid hms
  clear hm hml hms hs
  go_enter Try.func22, Try.ntmps22
  go_wp2
  go_loopw [3, 4] (fun v i wr => ∃ (k : Nat) (A' : Option Addr) (c' : Nat), k ≤ o.length ∧ i = .int .i64 k ∧ v = .slice A' (Opn.putAll (m.take k)).length c' ∧ Own wr w.heap.size 5 1 A' (Opn.putAll (m.take k)).length c' (bvs (Opn.putAll (m.take k))) ∧ Below w.heap.size w wr) (fun _ i _ => o.length - (intOf i).toNat)
  case atStart => exact ⟨0, none, 0, by omega, rfl, rfl, Own.none_ _ _ _ _ _, Below.refl _ _⟩
  case round =>
    obtain ⟨k, A', c', hk, rfl, rfl, hown, hbel⟩ := hrel
    by_cases h : k < o.length
    · obtain ⟨ad, hAe, hy0, hyw⟩ := hA.el h
      subst hAe
      have hkm : k < m.length := by rw [Hml.out]; exact h
      obtain ⟨x, hxk⟩ : ∃ x, o[k] = x := ⟨_, rfl⟩
      rw [hxk] at hy0 hyw
      have hxm : m[k] = x.x := by have := HM.out; subst this; simp [hxk]
      have hsn := Opn.putAll_snoc m k hkm
      have hbn := Opn.putAll_len (m.take k) fun e he => Hms.out e (List.mem_of_mem_take he)
      have hbn2 := Hms.out m[k] (List.getElem_mem hkm)
      rw [hxm] at hsn hbn2
      rw [List.length_take] at hbn
      obtain ⟨D, hD⟩ : ∃ D, D = Opn.putAll (m.take k) := ⟨_, rfl⟩
      obtain ⟨E, hE⟩ : ∃ E, E = Opn.putAll (m.take (k + 1)) := ⟨_, rfl⟩
      rw [← hD] at hown hbn hsn ⊢
      rw [← hE] at hsn
      have hDl : D.length ≤ 20000000000 := by omega
      have hkl : x.x.key.length ≤ 1000 := hbn2.1
      have hvl : x.x.val.length ≤ 100000 := hbn2.2
      have HE := Lib.hid hE
      have Hsn := Lib.hid hsn
      have Hyw := Lib.hid hyw
      have ik : (0 : Int) ≤ (k : Int) := by omega
      have ik2 : (k : Int) < (o.length : Int) := by omega
      have hlt0 : (ad.add (k * 3)).block < w.heap.size := World.block_lt_of_cell? _ _ hy0.c0
      have hrow0 := hown.row_lt
      have hne : some (ad.add (k * 3)).block ≠ ownRow A' c' := fun e => by have := (hrow0 _ e.symm).1; omega
      have Hne := Lib.hid hne
      have hyr : OAt wr (ad.add (k * 3)) x := hy0.ext hbel
      have y0 := hyr.c0
      have y1 := (hyr.ext (Ext.drew wr)).c1
      have Hy0 := Lib.hid hy0
      have hpl := Vint.putBytes_len x.x.key
      have hpv := Vint.putBytes_len x.x.val
      obtain ⟨PK, hPK⟩ : ∃ PK, PK = Vint.putBytes x.x.key := ⟨_, rfl⟩
      rw [← hPK] at hpl
      obtain ⟨PV, hPV⟩ : ∃ PV, PV = Vint.putBytes x.x.val := ⟨_, rfl⟩
      rw [← hPV] at hpv
      have HK : ∀ W, Below w.heap.size w W → Calls Try.prog 43 #[.slice x.ka x.x.key.length x.kc] W fun e w' => ∃ A' c', e = .returned (.slice A' PK.length c') ∧ Own w' W.heap.size 5 1 A' PK.length c' (bvs PK) ∧ Below W.heap.size W w' := fun W hW => by
        rw [hPK]; exact ref_putbytes01 x.ka x.x.key x.kc W (hyw.kr.below hW) (by omega)
      have HV : ∀ W, Below w.heap.size w W → Calls Try.prog 43 #[.slice x.va x.x.val.length x.vc] W fun e w' => ∃ A' c', e = .returned (.slice A' PV.length c') ∧ Own w' W.heap.size 5 1 A' PV.length c' (bvs PV) ∧ Below W.heap.size W w' := fun W hW => by
        rw [hPV]; exact ref_putbytes01 x.va x.x.val x.vc W (hyw.vr.below hW) (by omega)
      have hown1 : Own wr.drew w.heap.size 5 1 A' D.length c' (bvs D) := hown.below (Ext.drew wr)
      have hbel1 : Below w.heap.size w wr.drew := hbel.drew
      have HPK := Lib.hid hPK
      have HPV := Lib.hid hPV
      clear hxk hxm hsn hbn hbn2 hE hD hkm hyw hne hlt0 hrow0 hPK hPV hyr hy0
      cases hdel : x.x.del
      · rw [hdel] at y0
        have Hdel := Lib.hid hdel
        clear hdel
        go_wp2_with fail
        refine rs_start (ownRow A' c') (by kernel_rfl) ?_
        refine rs_take 0 rfl (by kernel_rfl) (by kernel_rfl) (by kernel_rfl) (fun _ _ _ _ h => h) (by rfl) ⟨_, fun w' hx => by (go_simp <;> with_reducible rfl), ?_⟩
        simp only [Act.put, List.setIfInBounds_toArray, List.set_cons_zero, List.set_cons_succ]
        refine rs_take 3 rfl (by kernel_rfl) (by kernel_rfl) (by kernel_rfl) (fun _ _ _ _ h => h) (by rfl) ⟨_, fun w' hx => by (go_simp <;> with_reducible rfl), ?_⟩
        simp only [Act.put, List.setIfInBounds_toArray, List.set_cons_zero, List.set_cons_succ]
        refine rs_take 4 rfl (by kernel_rfl) (by kernel_rfl) (by kernel_rfl) (fun _ _ _ _ h => h) (by rfl) ⟨_, fun w' hx => by (go_simp <;> with_reducible rfl), ?_⟩
        simp only [Act.put, List.setIfInBounds_toArray, List.set_cons_zero, List.set_cons_succ]
        refine rs_take 5 rfl (by kernel_rfl) (by kernel_rfl) (by kernel_rfl) (fun _ _ _ _ h => h) (by rfl) ⟨_, fun w' hx => by (go_simp <;> with_reducible rfl), ?_⟩   -- t31 := indexAddr 23 t29 t30
        simp only [Act.put, List.setIfInBounds_toArray, List.set_cons_zero, List.set_cons_succ]
        refine rs_take 6 rfl (by kernel_rfl) (by kernel_rfl) (by kernel_rfl) (fun _ _ _ _ h => h) (by rfl) ⟨_, fun w' hx => by (go_simp <;> with_reducible rfl), ?_⟩   -- t32 := fieldAddr 50 t31 1
        simp only [Act.put, List.setIfInBounds_toArray, List.set_cons_zero, List.set_cons_succ]
        refine rs_take 7 rfl (by kernel_rfl) (by kernel_rfl) (by kernel_rfl) (fun _ _ _ _ h => h) (by rfl) ⟨_, fun w' hx => by have hcx := Row.load hx y1 Hne.out; (go_simp <;> with_reducible rfl), ?_⟩
        simp only [Act.put, List.setIfInBounds_toArray, List.set_cons_zero, List.set_cons_succ]
        refine rs_make 1 rfl (by kernel_rfl) (by rfl) ⟨_, _, by (go_simp <;> first | exact ⟨rfl, rfl⟩ | rfl), Row.ext (Ext.alloc _ _), ?_⟩
        simp only [Act.put, List.setIfInBounds_toArray, List.set_cons_zero, List.set_cons_succ]
        have hrd1 : RdB (wr.drew.alloc (.cells (bvs [0]).toArray 5)) (some ⟨wr.drew.heap.size, 0, none⟩) [0] := RdB.lit _ _ _
        refine rs_one 2 rfl (by kernel_rfl) (by rfl) (wp_app (.tmp 26) (.tmp 27) 33 rfl elemB w.heap.size A' D.length c' (bvs D) rfl (some ⟨wr.drew.heap.size, 0, none⟩) 1 1 (bvs [0]) rfl (D.length + 1) rfl (bvs (D ++ [0])) (bvs_app _ _) (hown1.below (Ext.alloc _ _)) hrd1 (bvs_one _) (by omega) (by omega) (by rw [World.size_alloc]; exact Nat.le_succ_of_le hbel1.size) (fun A4 c4 w4 ho4 hg4 hr4 => ⟨.inl hg4, ?_⟩))
        have hbel4 : Below w.heap.size w w4 := below_app (hbel1.alloc hbel1.size _) (hown1.below (Ext.alloc _ _)) hg4 (by rw [World.size_alloc]; exact Nat.le_succ_of_le hbel1.size)
        simp only [Act.put, List.setIfInBounds_toArray, List.set_cons_zero, List.set_cons_succ]
        refine rs_call 8 (HK w4 hbel4) rfl (by kernel_rfl) (by rfl) (by go_simp) ?_
        rintro e5 w5 ⟨A5, c5, rfl, ho5, hb5⟩
        refine ⟨_, rfl, Row.ext hb5, ?_⟩
        simp only [Act.put, List.setIfInBounds_toArray, List.set_cons_zero, List.set_cons_succ]
        refine rs_last 9 rfl (by kernel_rfl) (by kernel_rfl) (by rfl) fun K hK => wp_app (.tmp 28) (.tmp 34) 33 rfl elemB w.heap.size A4 (D.length + 1) c4 (bvs (D ++ [0])) rfl A5 PK.length c5 (bvs PK) rfl (D.length + 1 + PK.length) rfl (bvs (D ++ [0] ++ PK)) (bvs_app _ _) (ho4.below hb5) ho5.rd (bvs_one _) (by omega) (by omega) (Nat.le_trans hbel4.size hb5.size) fun A6 c6 w6 ho6 hg6 hr6 => hK _ _ ?_
        have hbel6 : Below w.heap.size w w6 := below_app (hbel4.trans (hb5.mono hbel4.size)) (ho4.below hb5) hg6 (Nat.le_trans hbel4.size hb5.size)
        simp only [Act.put, List.setIfInBounds_toArray, List.set_cons_zero, List.set_cons_succ]
        refine rs_take 10 rfl (by kernel_rfl) (by kernel_rfl) (by kernel_rfl) (fun _ _ _ _ h => h) (by rfl) ⟨_, fun w' hx => by (go_simp <;> with_reducible rfl), ?_⟩
        simp only [Act.put, List.setIfInBounds_toArray, List.set_cons_zero, List.set_cons_succ]
        refine rs_done (by kernel_rfl) ?_
        clear hown1 hbel1 ho4 hg4 hr4 hbel4 ho5 hb5 hg6 hr6 hrd1
        have hE1 : bvs (D ++ [0] ++ PK) = bvs (D ++ [0]) ++ bvs PK := bvs_app _ _
        obtain ⟨F, hF⟩ : ∃ F, F = D ++ [0] ++ PK := ⟨_, rfl⟩
        rw [← hF] at ho6
        have hFl : F.length = D.length + 1 + PK.length := by rw [hF]; simp; omega
        rw [← hFl] at ho6 ⊢
        have y2 : w6.cell? ⟨(ad.add (k * 3)).block, (ad.add (k * 3)).off + 2, none⟩ = some (.slice x.va x.x.val.length x.vc) := Ext.load (w := w) hbel6 Hy0.out.c2
        have HVc := HV w6 hbel6
        have hEF : E = F ++ PV := by rw [Hsn.out, hF, HPK.out, HPV.out]; simp [Opn.bytes, Hdel.out]
        have HF := Lib.hid hF
        have HEF := Lib.hid hEF
        have HFl := Lib.hid hFl
        have hFb : F.length ≤ 30000000000 := by omega
        clear hF hEF hE1 HK HV hFl
        go_wp2_with (first | (go_at_call 43; refine HVc.mono ?_; rintro e7 w7 ⟨A7, c7, rfl, ho7, hb7⟩) | (at_builtin; refine wpList_app rfl (.tmp 36) (.tmp 42) 33 rfl elemB w.heap.size A6 F.length c6 (bvs F) rfl A7 PV.length c7 (bvs PV) rfl (F.length + PV.length) rfl (bvs E) (by rw [HEF.out, bvs_app]) (ho6.below hb7) ho7.rd (bvs_one _) (by omega) (by omega) (Nat.le_trans hbel6.size hb7.size) ?_; intro A8 c8 w8 ho8 hg8 hr8))
        go_roundw
        case rel =>
          have hEl : F.length + PV.length = E.length := by rw [HEF.out, List.length_append]
          rw [hEl] at ho8
          refine ⟨k + 1, A8, c8, by omega, by go_num, by rw [hEl, HE.out], by rw [← HE.out]; exact ho8, below_app (hbel6.trans (hb7.mono hbel6.size)) (ho6.below hb7) hg8 (Nat.le_trans hbel6.size hb7.size)⟩
        case measure => simp [intOf]; omega
      · rw [hdel] at y0
        have Hdel := Lib.hid hdel
        clear hdel
        go_wp2_with fail
        refine rs_start (ownRow A' c') (by kernel_rfl) ?_
        refine rs_take 0 rfl (by kernel_rfl) (by kernel_rfl) (by kernel_rfl) (fun _ _ _ _ h => h) (by rfl) ⟨_, fun w' hx => by (go_simp <;> with_reducible rfl), ?_⟩
        simp only [Act.put, List.setIfInBounds_toArray, List.set_cons_zero, List.set_cons_succ]
        refine rs_take 3 rfl (by kernel_rfl) (by kernel_rfl) (by kernel_rfl) (fun _ _ _ _ h => h) (by rfl) ⟨_, fun w' hx => by (go_simp <;> with_reducible rfl), ?_⟩
        simp only [Act.put, List.setIfInBounds_toArray, List.set_cons_zero, List.set_cons_succ]
        refine rs_take 4 rfl (by kernel_rfl) (by kernel_rfl) (by kernel_rfl) (fun _ _ _ _ h => h) (by rfl) ⟨_, fun w' hx => by (go_simp <;> with_reducible rfl), ?_⟩
        simp only [Act.put, List.setIfInBounds_toArray, List.set_cons_zero, List.set_cons_succ]
        refine rs_take 5 rfl (by kernel_rfl) (by kernel_rfl) (by kernel_rfl) (fun _ _ _ _ h => h) (by rfl) ⟨_, fun w' hx => by (go_simp <;> with_reducible rfl), ?_⟩   -- t21 := indexAddr 23 t19 t20
        simp only [Act.put, List.setIfInBounds_toArray, List.set_cons_zero, List.set_cons_succ]
        refine rs_take 6 rfl (by kernel_rfl) (by kernel_rfl) (by kernel_rfl) (fun _ _ _ _ h => h) (by rfl) ⟨_, fun w' hx => by (go_simp <;> with_reducible rfl), ?_⟩   -- t22 := fieldAddr 50 t21 1
        simp only [Act.put, List.setIfInBounds_toArray, List.set_cons_zero, List.set_cons_succ]
        refine rs_take 7 rfl (by kernel_rfl) (by kernel_rfl) (by kernel_rfl) (fun _ _ _ _ h => h) (by rfl) ⟨_, fun w' hx => by have hcx := Row.load hx y1 Hne.out; (go_simp <;> with_reducible rfl), ?_⟩
        simp only [Act.put, List.setIfInBounds_toArray, List.set_cons_zero, List.set_cons_succ]
        refine rs_make 1 rfl (by kernel_rfl) (by rfl) ⟨_, _, by (go_simp <;> first | exact ⟨rfl, rfl⟩ | rfl), Row.ext (Ext.alloc _ _), ?_⟩
        simp only [Act.put, List.setIfInBounds_toArray, List.set_cons_zero, List.set_cons_succ]
        have hrd1 : RdB (wr.drew.alloc (.cells (bvs [1]).toArray 5)) (some ⟨wr.drew.heap.size, 0, none⟩) [1] := RdB.lit _ _ _
        refine rs_one 2 rfl (by kernel_rfl) (by rfl) (wp_app (.tmp 16) (.tmp 17) 33 rfl elemB w.heap.size A' D.length c' (bvs D) rfl (some ⟨wr.drew.heap.size, 0, none⟩) 1 1 (bvs [1]) rfl (D.length + 1) rfl (bvs (D ++ [1])) (bvs_app _ _) (hown1.below (Ext.alloc _ _)) hrd1 (bvs_one _) (by omega) (by omega) (by rw [World.size_alloc]; exact Nat.le_succ_of_le hbel1.size) (fun A4 c4 w4 ho4 hg4 hr4 => ⟨.inl hg4, ?_⟩))
        have hbel4 : Below w.heap.size w w4 := below_app (hbel1.alloc hbel1.size _) (hown1.below (Ext.alloc _ _)) hg4 (by rw [World.size_alloc]; exact Nat.le_succ_of_le hbel1.size)
        simp only [Act.put, List.setIfInBounds_toArray, List.set_cons_zero, List.set_cons_succ]
        refine rs_call 8 (HK w4 hbel4) rfl (by kernel_rfl) (by rfl) (by go_simp) ?_
        rintro e5 w5 ⟨A5, c5, rfl, ho5, hb5⟩
        refine ⟨_, rfl, Row.ext hb5, ?_⟩
        simp only [Act.put, List.setIfInBounds_toArray, List.set_cons_zero, List.set_cons_succ]
        refine rs_last 9 rfl (by kernel_rfl) (by kernel_rfl) (by rfl) fun K hK => wp_app (.tmp 18) (.tmp 24) 33 rfl elemB w.heap.size A4 (D.length + 1) c4 (bvs (D ++ [1])) rfl A5 PK.length c5 (bvs PK) rfl (D.length + 1 + PK.length) rfl (bvs (D ++ [1] ++ PK)) (bvs_app _ _) (ho4.below hb5) ho5.rd (bvs_one _) (by omega) (by omega) (Nat.le_trans hbel4.size hb5.size) fun A6 c6 w6 ho6 hg6 hr6 => hK _ _ ?_
        have hbel6 : Below w.heap.size w w6 := below_app (hbel4.trans (hb5.mono hbel4.size)) (ho4.below hb5) hg6 (Nat.le_trans hbel4.size hb5.size)
        simp only [Act.put, List.setIfInBounds_toArray, List.set_cons_zero, List.set_cons_succ]
        refine rs_take 10 rfl (by kernel_rfl) (by kernel_rfl) (by kernel_rfl) (fun _ _ _ _ h => h) (by rfl) ⟨_, fun w' hx => by (go_simp <;> with_reducible rfl), ?_⟩
        simp only [Act.put, List.setIfInBounds_toArray, List.set_cons_zero, List.set_cons_succ]
        refine rs_done (by kernel_rfl) ?_
        clear hown1 hbel1 ho4 hg4 hr4 hbel4 ho5 hb5 hg6 hr6 hrd1
        go_wp2_with fail
        go_roundw
        case rel =>
          have hEE : E = D ++ [1] ++ PK := by rw [Hsn.out, HPK.out]; simp [Opn.bytes, Hdel.out]
          have hEl : D.length + 1 + PK.length = E.length := by rw [hEE]; simp; omega
          rw [← hEE, hEl] at ho6
          refine ⟨k + 1, A6, c6, by omega, by go_num, by rw [hEl, HE.out], by rw [← HE.out]; exact ho6, hbel6⟩
        case measure => simp [intOf]; omega
    · obtain rfl : k = o.length := by omega
      go_wp2
      go_ret
      rw [← Hml.out, List.take_length] at hown ⊢
      exact ⟨A', c', rfl, hown, hbel⟩
end Go.Proofs.Ytdekdblebflklaa
