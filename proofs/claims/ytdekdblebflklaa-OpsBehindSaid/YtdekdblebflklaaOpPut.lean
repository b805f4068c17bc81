
/- Contract: ops.Put. Printed by wip/tools/gen_opput20.py. -/

import Derived.Test.YtdekdblebflklaaOpDiff

import Derived.Test.YtdekdblebflklaaReg3

import Derived.Test.YtdekdblebflklaaVintRef2

namespace Go.Proofs.Ytdekdblebflklaa

open Go.RowKit

attribute [local go_sem] Oper.semAt_some

theorem Vint.putBytes_len (k : List UInt8) : (Vint.putBytes k).length ≤ k.length + 10 := by
  have h1 := (Vint.put_len k.length).2
  simp only [Vint.putBytes, List.length_append]
  omega
theorem Opn.bytes_len (o : Opn) : o.bytes.length ≤ o.key.length + o.val.length + 100 := by
  unfold Opn.bytes
  have h1 := Vint.putBytes_len o.key
  have h2 := Vint.putBytes_len o.val
  split
  · simp only [List.length_cons]; omega
  · simp only [List.length_cons, List.length_append]; omega
theorem Opn.putAll_len : ∀ (l : List Opn), (∀ o ∈ l, o.key.length ≤ 1000 ∧ o.val.length ≤ 100000) → (Opn.putAll l).length ≤ l.length * 200000
  | [], _ => by simp [Opn.putAll]
  | o :: l, h => by
    have h1 := Opn.bytes_len o
    have h2 := h o (by simp)
    have h3 := Opn.putAll_len l fun x hx => h x (by simp [hx])
    have e : Opn.putAll (o :: l) = o.bytes ++ Opn.putAll l := by simp [Opn.putAll]
    rw [e, List.length_append, List.length_cons]
    omega
theorem Opn.putAll_snoc (l : List Opn) (k : Nat) (h : k < l.length) : Opn.putAll (l.take (k + 1)) = Opn.putAll (l.take k) ++ l[k].bytes := by
  unfold Opn.putAll
  rw [List.take_succ_eq_append_getElem h, List.flatMap_append]
  simp
set_option maxRecDepth 100000 in
set_option maxHeartbeats 1000000 in
theorem oput_any (A : Option Addr) (o : List OpV) (c : Nat) (w : World) (hA : RdO w A o) (hl : o.length ≤ 100000) (hs : ∀ e ∈ o, e.x.key.length ≤ 1000 ∧ e.x.val.length ≤ 100000) :
    Calls Try.prog 21 #[.slice A o.length c] w fun e w' => ∃ A' c', e = .returned (.slice A' (Opn.putAll (o.map OpV.x)).length c') ∧ Own w' w.heap.size 5 1 A' (Opn.putAll (o.map OpV.x)).length c' (bvs (Opn.putAll (o.map OpV.x))) ∧ Below w.heap.size w w' := by
  obtain ⟨m, hm⟩ : ∃ m, m = o.map OpV.x := ⟨_, rfl⟩
  have hml : m.length = o.length := by rw [hm]; simp
  have hms : ∀ e ∈ m, e.key.length ≤ 1000 ∧ e.val.length ≤ 100000 := by
    intro e he; rw [hm] at he; obtain ⟨x, hx, rfl⟩ := List.mem_map.1 he; exact hs x hx
  rw [← hm]
  have HM := Lib.hid hm
  have Hml := Lib.hid hml
  have Hms := Lib.hid hms
  clear hm hml hms hs
  go_enter Try.func21, Try.ntmps21
  go_wp2
  go_loopw [3, 8] (fun v i wr => ∃ (k : Nat) (A' : Option Addr) (c' : Nat), k ≤ o.length ∧ i = .int .i64 k ∧ v = .slice A' (Opn.putAll (m.take k)).length c' ∧ Own wr w.heap.size 5 1 A' (Opn.putAll (m.take k)).length c' (bvs (Opn.putAll (m.take k))) ∧ Below w.heap.size w wr) (fun _ i _ => o.length - (intOf i).toNat)
  case atStart => exact ⟨0, none, 0, by omega, rfl, rfl, Own.none_ _ _ _ _ _, Below.refl _ _⟩
  case round =>
    obtain ⟨k, A', c', hk, rfl, rfl, hown, hbel⟩ := hrel
    by_cases h : k < o.length
    · obtain ⟨ad, rfl, hcell, hxin⟩ := (hA.below hbel).at_ h
      have hkm : k < m.length := by rw [Hml.out]; exact h
      obtain ⟨x, hxk⟩ : ∃ x, o[k] = x := ⟨_, rfl⟩
      rw [hxk] at hcell hxin
      have hxm : m[k] = x.x := by have := HM.out; subst this; simp [hxk]
      have hsn := Opn.putAll_snoc m k hkm
      have hbn := Opn.putAll_len (m.take k) fun e he => Hms.out e (List.mem_of_mem_take he)
      have hbn2 := Hms.out m[k] (List.getElem_mem hkm)
      rw [hxm] at hsn hbn2
      rw [List.length_take] at hbn
      obtain ⟨D, hD⟩ : ∃ D, D = Opn.putAll (m.take k) := ⟨_, rfl⟩
      obtain ⟨E, hE⟩ : ∃ E, E = Opn.putAll (m.take (k + 1)) := ⟨_, rfl⟩
      rw [← hD] at hown hbn hsn ⊢
      rw [← hE] at hsn
      have hDl : D.length ≤ 20000000000 := by omega
      have hkl : x.x.key.length ≤ 1000 := hbn2.1
      have hvl : x.x.val.length ≤ 100000 := hbn2.2
      have HE := Lib.hid hE
      have HD := Lib.hid hD
      have Hsn := Lib.hid hsn
      have Hcx := Lib.hid hcell
      have gx := heap_alloc_new wr (.cells x.cells 50)
      have hbx := Ext.alloc wr (.cells x.cells 50)
      have Hc0 := Lib.hid (show (wr.alloc (.cells x.cells 50)).cell? ⟨wr.heap.size, 0, none⟩ = some (.bool x.x.del) by rw [cell_of_row _ _ _ _ _ _ gx]; rfl)
      have hc1 : (wr.alloc (.cells x.cells 50)).cell? ⟨wr.heap.size, 1, none⟩ = some (.slice x.ka x.x.key.length x.kc) := by rw [cell_of_row _ _ _ _ _ _ gx]; rfl
      have hc2 : (wr.alloc (.cells x.cells 50)).cell? ⟨wr.heap.size, 2, none⟩ = some (.slice x.va x.x.val.length x.vc) := by rw [cell_of_row _ _ _ _ _ _ gx]; rfl
      have hxi := hxin.below hbx
      have hrd := hown.rd'.below hbx
      have hb1 := ext_trans hbel hbx
      clear hcell hxin hxk hxm hsn hbn hbn2 hE hD gx hkm
      cases hdel : x.x.del
      · rw [hdel] at Hc0
        have Hdel := Lib.hid hdel
        clear hdel
        have hc0 := Hc0.out
        go_wp2_with (first | (have hcx := Hcx.out; refine wpList_load_cells rfl 50 (.tmp 10) rfl _ rfl x.cells _ hcx Try.underlying50 rfl (oinfo _) ?_; clear hcx) | (refine wpList_store_row rfl 50 (.tmp 5) (.tmp 11) rfl wr.heap.size x.cells rfl rfl 50 _ (heap_alloc_new wr _) (oinfo _) (by rfl) (oone _) ?_; rw [setRow_alloc]))
        obtain ⟨W1, hW1⟩ : ∃ W1, W1 = wr.alloc (.cells x.cells 50) := ⟨_, rfl⟩
        rw [← hW1] at hc0 hc1 hc2 hxi hrd hb1 ⊢
        clear hW1 Hc0 hbx
        have hpl := Vint.putBytes_len x.x.key
        have hpv := Vint.putBytes_len x.x.val
        refine rg_start (by kernel_rfl) ?_
        refine rg_take 0 rfl (by kernel_rfl) (by kernel_rfl) (by kernel_rfl) (fun _ _ _ _ h => h) (by rfl) ⟨_, fun w' hx => by (go_simp <;> with_reducible rfl), ?_⟩
        simp only [Act.put, List.setIfInBounds_toArray, List.set_cons_zero, List.set_cons_succ]
        refine rg_take 2 rfl (by kernel_rfl) (by kernel_rfl) (by kernel_rfl) (fun _ _ _ _ h => h) (by rfl) ⟨_, fun w' hx => by (go_simp <;> with_reducible rfl), ?_⟩   -- t23 := fieldAddr 50 t5 1
        simp only [Act.put, List.setIfInBounds_toArray, List.set_cons_zero, List.set_cons_succ]
        refine rg_take 3 rfl (by kernel_rfl) (by kernel_rfl) (by kernel_rfl) (fun _ _ _ _ h => h) (by rfl) ⟨_, fun w' hx => by have hcx := hx.load hc1; (go_simp <;> with_reducible rfl), ?_⟩
        simp only [Act.put, List.setIfInBounds_toArray, List.set_cons_zero, List.set_cons_succ]
        refine rg_take 5 rfl (by kernel_rfl) (by kernel_rfl) (by kernel_rfl) (fun _ _ _ _ h => h) (by rfl) ⟨_, fun w' hx => by (go_simp <;> with_reducible rfl), ?_⟩   -- t26 := fieldAddr 50 t5 2
        simp only [Act.put, List.setIfInBounds_toArray, List.set_cons_zero, List.set_cons_succ]
        refine rg_take 6 rfl (by kernel_rfl) (by kernel_rfl) (by kernel_rfl) (fun _ _ _ _ h => h) (by rfl) ⟨_, fun w' hx => by have hcx := hx.load hc2; (go_simp <;> with_reducible rfl), ?_⟩
        simp only [Act.put, List.setIfInBounds_toArray, List.set_cons_zero, List.set_cons_succ]
        -- BRANCH: 1: t22 := buildSlice 33 1 [(0, 0:u8)] | 4: t25 := scow/vint.PutBytes#42(t24)
        refine rg_par [(1, 22), (4, 25), (7, 28)] (fun i u W => (i = 1 → ∃ g, u = .slice (some ⟨g, 0, none⟩) 1 1 ∧ RdB W (some ⟨g, 0, none⟩) [0]) ∧ (i = 4 → ∃ A2 c2, u = .slice A2 (Vint.putBytes x.x.key).length c2 ∧ RdB W A2 (Vint.putBytes x.x.key)) ∧ (i = 7 → ∃ A2 c2, u = .slice A2 (Vint.putBytes x.x.val).length c2 ∧ RdB W A2 (Vint.putBytes x.x.val))) 3 (by kernel_rfl) ?_ ?_ ?_
        · rintro i u W W' ⟨a1, a4, a7⟩ hx
          exact ⟨fun e => let ⟨g, x1, x2⟩ := a1 e; ⟨g, x1, x2.below hx⟩, fun e => let ⟨A2, c2, x1, x2⟩ := a4 e; ⟨A2, c2, x1, x2.below hx⟩, fun e => let ⟨A2, c2, x1, x2⟩ := a7 e; ⟨A2, c2, x1, x2.below hx⟩⟩
        · intro p hp oi ho f W hx hd
          simp only [List.mem_cons, List.not_mem_nil, or_false] at hp
          have hx1 : Ext W1 W := Ext.tr (Ext.drew W1) hx
          rcases hp with rfl | rfl | rfl
          all_goals
            simp only at ho
            have ho' := ho
            simp only [List.getElem?_toArray, List.getElem?_cons_succ, List.getElem?_cons_zero] at ho'
            injection ho' with ho'
            subst ho'
            clear ho
            refine ⟨by rfl, ?_⟩
            simp only [fillS, List.foldl_cons, List.foldl_nil, Act.put, List.setIfInBounds_toArray, List.set_cons_zero, List.set_cons_succ]
          · exact yld_make ⟨_, _, by (go_simp <;> first | exact ⟨rfl, rfl⟩ | rfl), Ext.alloc _ _, fun _ => ⟨_, rfl, RdB.lit W 5 [0]⟩, by simp, by simp⟩
          · refine yld_call (by go_simp) (putbytes_any x.ka x.x.key x.kc _ (hxi.kr.below hx1) (by omega)) ?_
            rintro e w2 ⟨A2, c2, rfl, ho2, hb2⟩
            exact ⟨_, rfl, hb2, by simp, fun _ => ⟨A2, c2, rfl, ho2.rd'⟩, by simp⟩
          · refine yld_call (by go_simp) (putbytes_any x.va x.x.val x.vc _ (hxi.vr.below hx1) (by omega)) ?_
            rintro e w2 ⟨A2, c2, rfl, ho2, hb2⟩
            exact ⟨_, rfl, hb2, by simp, by simp, fun _ => ⟨A2, c2, rfl, ho2.rd'⟩⟩
        intro f W hx hd
        obtain ⟨g1, d1, r1⟩ := (hd (1, 22) (by simp)).1 rfl
        obtain ⟨A4, c4, d4, r4⟩ := (hd (4, 25) (by simp)).2.1 rfl
        obtain ⟨A7, c7, d7, r7⟩ := (hd (7, 28) (by simp)).2.2 rfl
        simp only at d1 d4 d7
        simp only [fillS, List.foldl_cons, List.foldl_nil, Act.put, List.setIfInBounds_toArray, List.set_cons_zero, List.set_cons_succ, d1, d4, d7]
        have hx1 : Ext W1 W := Ext.tr (Ext.drew W1) hx
        have hl4 : ∀ s ∈ [(⟨A', D, c'⟩ : Sl), ⟨some ⟨g1, 0, none⟩, [0], 1⟩, ⟨A4, Vint.putBytes x.x.key, c4⟩, ⟨A7, Vint.putBytes x.x.val, c7⟩], RdB W s.a s.bs := fun s hs => by
          simp only [List.mem_cons, List.not_mem_nil, or_false] at hs
          rcases hs with rfl | rfl | rfl | rfl
          · exact hrd.below hx1
          · exact r1
          · exact r4
          · exact r7
        clear hd d1 d4 d7 hx
        refine rg_make 8 rfl (by kernel_rfl) (by rfl) ⟨.slice (some ⟨W.heap.size, 0, none⟩) 4 4, W.alloc (.cells (List.map Sl.val [(⟨A', D, c'⟩ : Sl), ⟨some ⟨g1, 0, none⟩, [0], 1⟩, ⟨A4, Vint.putBytes x.x.key, c4⟩, ⟨A7, Vint.putBytes x.x.val, c7⟩]).toArray 33), by (go_simp <;> first | exact ⟨rfl, rfl⟩ | rfl), Ext.alloc _ _, ?_⟩
        simp only [Act.put, List.setIfInBounds_toArray, List.set_cons_zero, List.set_cons_succ]
        refine rg_call 9 (concat_any (some ⟨W.heap.size, 0, none⟩) [⟨A', D, c'⟩, ⟨some ⟨g1, 0, none⟩, [0], 1⟩, ⟨A4, Vint.putBytes x.x.key, c4⟩, ⟨A7, Vint.putBytes x.x.val, c7⟩] 4 _ (RdL.new W 33 _ hl4) (by simp) (by simp [cat]; omega)) rfl (by kernel_rfl) (by rfl) (by go_simp <;> first | rfl | exact ⟨rfl, rfl⟩) ?_
        rintro e3 w4 ⟨A8, c8, rfl, ho4, hb4⟩
        refine ⟨_, rfl, hb4, ?_⟩
        simp only [Act.put, List.setIfInBounds_toArray, List.set_cons_zero, List.set_cons_succ]
        refine rg_take 10 rfl (by kernel_rfl) (by kernel_rfl) (by kernel_rfl) (fun _ _ _ _ h => h) (by rfl) ⟨_, fun w' hx => by (go_simp <;> with_reducible rfl), ?_⟩
        simp only [Act.put, List.setIfInBounds_toArray, List.set_cons_zero, List.set_cons_succ]
        refine rg_done (by kernel_rfl) ?_
        go_wp2_with fail
        go_roundw
        case rel =>
          have hcat : cat [(⟨A', D, c'⟩ : Sl), ⟨some ⟨g1, 0, none⟩, [0], 1⟩, ⟨A4, Vint.putBytes x.x.key, c4⟩, ⟨A7, Vint.putBytes x.x.val, c7⟩] = E := by
            rw [Hsn.out]; simp [cat, Opn.bytes, Hdel.out]
          rw [hcat] at ho4
          have hB0 := ext_trans (ext_trans hb1 hx1) (Ext.alloc W (.cells (List.map Sl.val [(⟨A', D, c'⟩ : Sl), ⟨some ⟨g1, 0, none⟩, [0], 1⟩, ⟨A4, Vint.putBytes x.x.key, c4⟩, ⟨A7, Vint.putBytes x.x.val, c7⟩]).toArray 33))
          refine ⟨k + 1, A8, c8, by omega, by go_num, by rw [hcat, HE.out], by rw [← HE.out]; exact ho4.mono hB0.size, ext_trans hB0 hb4⟩
        case measure => simp [intOf]; omega
      · rw [hdel] at Hc0
        have Hdel := Lib.hid hdel
        clear hdel
        have hc0 := Hc0.out
        have hc1b := Ext.load (Ext.alloc (wr.alloc (.cells x.cells 50)) (.cells #[.int .u8 1] 5)) hc1
        have hEb := Ext.alloc (wr.alloc (.cells x.cells 50)) (.cells #[.int .u8 1] 5)
        have hone : RdB ((wr.alloc (.cells x.cells 50)).alloc (.cells #[.int .u8 1] 5)) (some ⟨wr.heap.size + 1, 0, none⟩) [1] := by
          have := RdB.lit (wr.alloc (.cells x.cells 50)) 5 [1]
          rwa [World.size_alloc] at this
        have hpl := Vint.putBytes_len x.x.key
        go_wp2_with (first | (have hcx := Hcx.out; refine wpList_load_cells rfl 50 (.tmp 10) rfl _ rfl x.cells _ hcx Try.underlying50 rfl (oinfo _) ?_; clear hcx) | (refine wpList_store_row rfl 50 (.tmp 5) (.tmp 11) rfl wr.heap.size x.cells rfl rfl 50 _ (heap_alloc_new wr _) (oinfo _) (by rfl) (oone _) ?_; rw [setRow_alloc]) | (go_at_call 42; refine (putbytes_any x.ka x.x.key x.kc _ (hxi.kr.below hEb) (by omega)).mono ?_; rintro e2 w2 ⟨A2, c2, rfl, ho2, hb2⟩; have hl3 : ∀ s ∈ [(⟨A', D, c'⟩ : Sl), ⟨some ⟨wr.heap.size + 1, 0, none⟩, [1], 1⟩, ⟨A2, Vint.putBytes x.x.key, c2⟩], RdB w2 s.a s.bs := fun s hs => by (simp only [List.mem_cons, List.not_mem_nil, or_false] at hs; rcases hs with rfl | rfl | rfl; exact (hrd.below hEb).below hb2; exact hone.below hb2; exact ho2.rd')) | (go_at_call 41; refine (concat_any (some ⟨w2.heap.size, 0, none⟩) [⟨A', D, c'⟩, ⟨some ⟨wr.heap.size + 1, 0, none⟩, [1], 1⟩, ⟨A2, Vint.putBytes x.x.key, c2⟩] 3 _ (RdL.new w2 33 _ hl3) (by simp) (by simp [cat]; omega)).mono ?_; rintro e3 w4 ⟨A4, c4, rfl, ho4, hb4⟩))
        go_roundw
        case rel =>
          have hcat : cat [(⟨A', D, c'⟩ : Sl), ⟨some ⟨wr.heap.size + 1, 0, none⟩, [1], 1⟩, ⟨A2, Vint.putBytes x.x.key, c2⟩] = E := by
            rw [Hsn.out]; simp [cat, Opn.bytes, Hdel.out]
          rw [hcat] at ho4
          have hB : Below w.heap.size w w4 := ext_trans (ext_trans (ext_trans (ext_trans hb1 hEb) hb2) (Ext.alloc _ _)) hb4
          have hsz : w.heap.size ≤ (w2.alloc (.cells (List.map Sl.val [(⟨A', D, c'⟩ : Sl), ⟨some ⟨wr.heap.size + 1, 0, none⟩, [1], 1⟩, ⟨A2, Vint.putBytes x.x.key, c2⟩]).toArray 33)).heap.size := (ext_trans (ext_trans (ext_trans hb1 hEb) hb2) (Ext.alloc _ _)).size
          refine ⟨k + 1, A4, c4, by omega, by go_num, by rw [hcat, HE.out], by rw [← HE.out]; exact ho4.mono hsz, hB⟩
        case measure => simp [intOf]; omega
    · obtain rfl : k = o.length := by omega
      go_wp2
      go_ret
      rw [← Hml.out, List.take_length] at hown ⊢
      exact ⟨A', c', rfl, hown, hbel⟩
end Go.Proofs.Ytdekdblebflklaa
