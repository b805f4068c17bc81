
/- Contract: the document's Find. Printed by wip/tools/gen_sgnrfd22.py. -/

import Derived.Test.YtnagbhaknmoilaaSgnFnd

namespace Go.Proofs.Ytnagbhaknmoilaa

open Go.RowKit

attribute [local go_sem] Oper.semAt_some

set_option maxRecDepth 100000 in
set_option maxHeartbeats 2000000 in
theorem ref_find22 (oA : Option Addr) (oC : Nat) (o : List UInt8) (size : Int) (sA : Option Addr) (sC : Nat) (S : List Sg) (w : World) (ho : RdB w oA o) (hoc : o.length ≤ oC) (hol : o.length ≤ 100000) (hs : RdG w sA S)
    (h1 : -9223372036854775808 ≤ size) (h2 : size ≤ 9223372036854775807) :
    Calls Try.prog 14 #[.slice oA o.length oC, .int .i64 size, .slice sA S.length sC] w (FindPost (Sg.findR o size S) w) := by
  have hb := ref_blocks size h1 h2 w
  obtain ⟨nb, hnb⟩ : ∃ nb, nb = Sg.blocks size := ⟨_, rfl⟩
  have hnb2 : nb ≤ 2048 := by rw [hnb]; exact Sg.blocks_le _
  rw [← hnb] at hb
  obtain ⟨m, hm⟩ : ∃ m, m = S.length := ⟨_, rfl⟩
  obtain ⟨ol, hol0⟩ : ∃ ol, ol = o.length := ⟨_, rfl⟩
  have hi1 : (ol : Int) ≤ 131072 := by omega
  by_cases hbad : size < 0 ∨ 131072 < size
  · have hr : Sg.findR o size S = ([], 2) := by unfold Sg.findR; rw [if_pos (.inr hbad)]
    rw [hr, ← hm, ← hol0]
    clear hr hm hol0 hnb
    by_cases h3 : size < 0
    · go_enter Try.func14, Try.ntmps14
      go_wp2_with fail
      refine bodyPost_ret (results_tmp2 rfl _ _ _) rfl ?_
      exact ⟨_, _, rfl, Rd.nil_ _ _ _, Ext.refl _⟩
    · have h4 : 131072 < size := by omega
      have h5 : 0 ≤ size := by omega
      clear hbad h3
      go_enter Try.func14, Try.ntmps14
      go_wp2_with fail
      refine bodyPost_ret (results_tmp2 rfl _ _ _) rfl ?_
      exact ⟨_, _, rfl, Rd.nil_ _ _ _, Ext.refl _⟩
  · have h3 : 0 ≤ size := by omega
    have h4 : size ≤ 131072 := by omega
    by_cases hbn : S.length = Sg.blocks size
    · have hr : Sg.findR o size S = (Sg.find o size S, 0) := by unfold Sg.findR; rw [if_neg (by omega), if_neg (by simp [hbn])]
      rw [hr]
      have hfl : (Sg.find o size S).length = m := by rw [hm]; simp [Sg.find]
      have hmnb : m = nb := by rw [hm, hnb, hbn]
      rw [← hm, ← hol0]
      have hoc2 : ol ≤ oC := by omega
      have hol2 : ol ≤ 100000 := by omega
      obtain ⟨R, hR⟩ : ∃ R, R = Sg.find o size S := ⟨_, rfl⟩
      rw [← hR] at hfl ⊢
      have Hm := Lib.hid hm
      have Hol := Lib.hid hol0
      have Hnb := Lib.hid hnb
      have HR := Lib.hid hR
      have Hfl := Lib.hid hfl
      obtain rfl : m = nb := hmnb
      clear hm hol0 hbn hnb hbad hr hfl hR hoc hol
      go_enter Try.func14, Try.ntmps14
      go_wp2_with (first | (go_at_call 12; refine hb.mono ?_; clear hb; rintro e1 w1 ⟨rfl, rfl⟩))
      go_loopw [8, 9] (fun v i wr => ∃ (j : Nat) (A' : Option Addr) (c' : Nat), j ≤ m ∧ i = .int .i64 j ∧ v = .slice A' j c' ∧ Own wr w.heap.size 3 1 A' j c' (ivs (R.take j)) ∧ Ext w wr) (fun _ i _ => m - (intOf i).toNat)
      case atStart => exact ⟨0, none, 0, by omega, rfl, rfl, Own.none_ _ _ _ _ _, Ext.refl _⟩
      case round =>
        obtain ⟨j, A1, c1, hj, rfl, rfl, hO, hE⟩ := hrel
        by_cases hjm : j < m
        · have ij : (0 : Int) ≤ (j : Int) := by omega
          have ij2 : (j : Int) < (m : Int) := by omega
          have hBl := ref_block22 size (j : Int) h1 h2 wr
          obtain ⟨eb, b1, b2, b3, b4, b5⟩ := Sg.block_in (size := size) (i := j) (by have := Hnb.out; omega)
          rw [eb] at hBl
          obtain ⟨n, hn⟩ : ∃ n, n = Sg.lenN size j := ⟨_, rfl⟩
          have hn2 := Sg.lenN_eq (size := size) (i := j) (by have := Hnb.out; omega)
          rw [← hn] at hn2
          rw [hn2] at hBl b1 b2 b3
          unfold bl2 at hBl
          simp only at hBl
          obtain ⟨P, hP⟩ : ∃ P, P = Sg.hitP o n S j := ⟨_, rfl⟩
          obtain ⟨K, hK⟩ : ∃ K, K = ol + 1 - n := ⟨_, rfl⟩
          have hjS : j < S.length := by have := Hm.out; omega
          have htk : R.take (j + 1) = R.take j ++ [Sg.first P K] := by
            have hjR : j < R.length := by have := Hfl.out; omega
            rw [List.take_add_one, List.getElem?_eq_getElem hjR]
            have e : R[j] = Sg.first P K := by
              have h0 := HR.out
              subst h0
              simp only [Sg.find, List.getElem_map, List.getElem_range]
              unfold Sg.place
              rw [hP, hK, Hol.out, hn]
            rw [e]; rfl
          have Htk := Lib.hid htk
          have HP := Lib.hid hP
          have HK := Lib.hid hK
          have HO := Lib.hid hO
          clear htk hP hK eb hn hn2 hO
          go_wp2_with (first | (go_at_call 10; refine hBl.mono ?_; clear hBl; rintro e2 w2 ⟨rfl, rfl⟩))
          go_loopw [12, 13] (fun v i wv => ∃ (k : Nat), k ≤ K ∧ i = .int .i64 k ∧ v = .int .i64 (Sg.first P k) ∧ Ext wr wv) (fun _ i _ => K - (intOf i).toNat)
          case atStart => exact ⟨0, by omega, rfl, rfl, Ext.refl _⟩
          case round =>
            obtain ⟨k, hk, rfl, rfl, hE2⟩ := hrel
            have hge := Sg.first_ge P k
            obtain ⟨fd, hfd⟩ : ∃ fd, fd = Sg.first P k := ⟨_, rfl⟩
            rw [← hfd] at hge ⊢
            have i0 : IntKind.i64.wrap ((ol : Int) - (n : Int)) = (ol : Int) - (n : Int) := by rw [IntKind.wrap_i64]; omega
            by_cases hkK : k < K ∧ fd < 0
            · obtain ⟨hk1, hk2⟩ := hkK
              have hkn : k + n ≤ ol := by have := HK.out; omega
              have i1 : (k : Int) ≤ (ol : Int) - (n : Int) := by omega
              have i3 : IntKind.i64.wrap ((k : Int) + (n : Int)) = ((k + n : Nat) : Int) := by rw [IntKind.wrap_i64]; omega
              have i4 : ¬ oC = k := by omega
              have i5 : (0 : Int) ≤ (k : Int) := by omega
              have hEk := Ext.tr hE hE2
              obtain ⟨b, hbw⟩ : ∃ b, b = Sg.win o k n := ⟨_, rfl⟩
              obtain ⟨A2, hA2⟩ : ∃ A2 : Option Addr, A2 = oA.map (fun x => x.add k) := ⟨_, rfl⟩
              have hbl : b.length = n := by rw [hbw, Sg.win_len (by rw [← Hol.out]; exact hkn)]
              have hrd := (ho.below hEk).cut (k := k) (m := k + n) (by omega) (by rw [← Hol.out]; exact hkn) (c := oC) (by omega)
              rw [if_neg i4, List.drop_take, Nat.add_sub_cancel_left, show (o.drop k).take n = b from hbw.symm, show oA.map (fun x => x.add k) = A2 from hA2.symm] at hrd
              have hsg := hs.below hEk
              have hD := Ext.drew wr
              have hws := fun w hx => ref_wsum A2 b (oC - k) w ((hrd.below hD).below hx) (by omega)
              have hsu := fun w hx => ref_sum A2 b (oC - k) w ((hrd.below hD).below hx) (by omega)
              rw [hbl] at hws hsu
              obtain ⟨ad2, rfl, cs, hok⟩ := (hsg.below hD).at_ hjS
              have cwk := cs 0 _ rfl
              obtain ⟨sg, hsg2⟩ : ∃ sg, sg = S[j] := ⟨_, rfl⟩
              rw [← hsg2] at cs hok cwk
              have hPk : P k = ((Wk.sum b == sg.weak) && (sg.strong == Sha.sum b)) := by
                rw [HP.out]
                unfold Sg.hitP Sg.wkOf Fd.hit
                rw [List.getElem?_eq_getElem hjS, ← hsg2, hbw]
              have hnx : Sg.first P (k + 1) = if P k then (k : Int) else -1 := by rw [Sg.first, ← hfd, if_neg (by omega)]
              have hfe : fd = -1 := by omega
              rw [hPk] at hnx
              obtain ⟨sv, hsv⟩ : ∃ sv, sv = Wk.sum b := ⟨_, rfl⟩
              obtain ⟨z, hz⟩ : ∃ z, z = Sha.sum b := ⟨_, rfl⟩
              have hzl : z.length = 32 := by rw [hz]; exact Sha.sum_len b
              rw [← hsv, ← hz] at hnx
              rw [← hsv] at hws
              rw [← hz] at hsu
              have cwk2 : wr.drew.cell? (ad2.add (j * 33)) = some (.int .u32 (sg.weak : Int)) := cwk
              have Hcs := Lib.hid cs
              have Hnx := Lib.hid hnx
              have Hfe := Lib.hid hfe
              have HA2 := Lib.hid hA2
              have hsub : k + n - k = n := by omega
              have Hws := Lib.hid hws
              have Hsu := Lib.hid hsu
              clear hbw hA2 hrd hsg cs hsg2 hPk hnx hsv hz hfd hbl cwk hws hsu hfe
              go_wp2_with fail
              rw [← HA2.out]
              by_cases hwe : sv = sg.weak
              · have hweI : ((sv : Int) = (sg.weak : Int)) := by omega
                refine rg_start (by kernel_rfl) ?_
                refine rg_take 0 rfl (by kernel_rfl) (by kernel_rfl) (by kernel_rfl) (fun _ _ _ _ h => h) (by rfl) ⟨_, fun w' hx => by (go_simp <;> with_reducible rfl), ?_⟩
                simp only [Act.put, List.setIfInBounds_toArray, List.set_cons_zero, List.set_cons_succ]
                refine rg_take 2 rfl (by kernel_rfl) (by kernel_rfl) (by kernel_rfl) (fun _ _ _ _ h => h) (by rfl) ⟨_, fun w' hx => by (go_simp <;> with_reducible rfl), ?_⟩
                simp only [Act.put, List.setIfInBounds_toArray, List.set_cons_zero, List.set_cons_succ]
                refine rg_take 3 rfl (by kernel_rfl) (by kernel_rfl) (by kernel_rfl) (fun _ _ _ _ h => h) (by rfl) ⟨_, fun w' hx => by (go_simp <;> with_reducible rfl), ?_⟩
                simp only [Act.put, List.setIfInBounds_toArray, List.set_cons_zero, List.set_cons_succ]
                refine rg_take 4 rfl (by kernel_rfl) (by kernel_rfl) (by kernel_rfl) (fun _ _ _ _ h => h) (by rfl) ⟨_, fun w' hx => by (go_simp <;> with_reducible rfl), ?_⟩   -- t65 := indexAddr 24 t63 t64
                simp only [Act.put, List.setIfInBounds_toArray, List.set_cons_zero, List.set_cons_succ]
                refine rg_take 5 rfl (by kernel_rfl) (by kernel_rfl) (by kernel_rfl) (fun _ _ _ _ h => h) (by rfl) ⟨_, fun w' hx => by (go_simp <;> with_reducible rfl), ?_⟩   -- t66 := fieldAddr 33 t65 0
                simp only [Act.put, List.setIfInBounds_toArray, List.set_cons_zero, List.set_cons_succ]
                refine rg_take 6 rfl (by kernel_rfl) (by kernel_rfl) (by kernel_rfl) (fun _ _ _ _ h => h) (by rfl) ⟨_, fun w' hx => by have hcx := hx.load cwk2; (go_simp <;> with_reducible rfl), ?_⟩
                simp only [Act.put, List.setIfInBounds_toArray, List.set_cons_zero, List.set_cons_succ]
                refine rg_call 1 (Hws.out _ (Ext.refl _)) rfl (by kernel_rfl) (by rfl) (by go_simp) ?_
                rintro e6 w6 ⟨rfl, rfl⟩
                refine ⟨_, rfl, Ext.refl _, ?_⟩
                simp only [Act.put, List.setIfInBounds_toArray, List.set_cons_zero, List.set_cons_succ]
                refine rg_take 7 rfl (by kernel_rfl) (by kernel_rfl) (by kernel_rfl) (fun _ _ _ _ h => h) (by rfl) ⟨.bool true, fun w' hx => by (go_simp <;> simp [hweI]), ?_⟩
                simp only [Act.put, List.setIfInBounds_toArray, List.set_cons_zero, List.set_cons_succ]
                refine rg_take 8 rfl (by kernel_rfl) (by kernel_rfl) (by kernel_rfl) (fun _ _ _ _ h => h) (by rfl) ⟨_, fun w' hx => by (go_simp <;> with_reducible rfl), ?_⟩
                simp only [Act.put, List.setIfInBounds_toArray, List.set_cons_zero, List.set_cons_succ]
                refine rg_take 9 rfl (by kernel_rfl) (by kernel_rfl) (by kernel_rfl) (fun _ _ _ _ h => h) (by rfl) ⟨_, fun w' hx => by (go_simp <;> with_reducible rfl), ?_⟩
                simp only [Act.put, List.setIfInBounds_toArray, List.set_cons_zero, List.set_cons_succ]
                refine rg_take 11 rfl (by kernel_rfl) (by kernel_rfl) (by kernel_rfl) (fun _ _ _ _ h => h) (by rfl) ⟨_, fun w' hx => by (go_simp <;> with_reducible rfl), ?_⟩
                simp only [Act.put, List.setIfInBounds_toArray, List.set_cons_zero, List.set_cons_succ]
                refine rg_take 12 rfl (by kernel_rfl) (by kernel_rfl) (by kernel_rfl) (fun _ _ _ _ h => h) (by rfl) ⟨_, fun w' hx => by (go_simp <;> with_reducible rfl), ?_⟩
                simp only [Act.put, List.setIfInBounds_toArray, List.set_cons_zero, List.set_cons_succ]
                refine rg_take 13 rfl (by kernel_rfl) (by kernel_rfl) (by kernel_rfl) (fun _ _ _ _ h => h) (by rfl) ⟨_, fun w' hx => by (go_simp <;> with_reducible rfl), ?_⟩   -- t74 := indexAddr 24 t72 t73
                simp only [Act.put, List.setIfInBounds_toArray, List.set_cons_zero, List.set_cons_succ]
                refine rg_take 14 rfl (by kernel_rfl) (by kernel_rfl) (by kernel_rfl) (fun _ _ _ _ h => h) (by rfl) ⟨_, fun w' hx => by (go_simp <;> with_reducible rfl), ?_⟩   -- t75 := fieldAddr 33 t74 1
                simp only [Act.put, List.setIfInBounds_toArray, List.set_cons_zero, List.set_cons_succ]
                refine rg_take 15 rfl (by kernel_rfl) (by kernel_rfl) (by kernel_rfl) (fun _ _ _ _ h => h) (by rfl) ⟨.agg (bvs sg.strong).toArray, fun w' hx => ex_load_cellsG 31 (.tmp 75) rfl _ rfl (bvs sg.strong).toArray _ (fun j u hj => hx.load (sg_strong Hcs.out j u hj)) Try.underlying31 rfl (sumInfoZ hok.len), ?_⟩
                simp only [Act.put, List.setIfInBounds_toArray, List.set_cons_zero, List.set_cons_succ]
                refine rg_call 10 (Hsu.out _ (Ext.refl _)) rfl (by kernel_rfl) (by rfl) (by go_simp) ?_
                rintro e7 w7 ⟨rfl, hx7⟩
                refine ⟨_, rfl, hx7, ?_⟩
                simp only [Act.put, List.setIfInBounds_toArray, List.set_cons_zero, List.set_cons_succ]
                refine rg_take 16 rfl (by kernel_rfl) (by kernel_rfl) (by kernel_rfl) (fun _ _ _ _ h => h) (by rfl) ⟨.bool (z == sg.strong), fun w' hx => ex_eqlArr rfl rfl rfl (run_eqSum _ _ _ hzl hok.len) (guardSum _ _ _ _ _), ?_⟩
                simp only [Act.put, List.setIfInBounds_toArray, List.set_cons_zero, List.set_cons_succ]
                refine rg_take 17 rfl (by kernel_rfl) (by kernel_rfl) (by kernel_rfl) (fun _ _ _ _ h => h) (by rfl) ⟨_, fun w' hx => by (go_simp <;> with_reducible rfl), ?_⟩
                simp only [Act.put, List.setIfInBounds_toArray, List.set_cons_zero, List.set_cons_succ]
                refine rg_done (by kernel_rfl) ?_
                have hnb : ((sv == sg.weak) && (sg.strong == z)) = (z == sg.strong) := by rw [hwe, beq_self_eq_true, Bool.true_and]; exact Bool.beq_comm
                have hE7 := Ext.tr hE2 (Ext.tr hD hx7)
                rw [hnb] at Hnx
                generalize (z == sg.strong) = bo at *
                clear hx7 hE2 cwk2 Hcs Hws Hsu hnb
                cases bo
                · go_wp2_with fail
                  go_roundw
                  case rel => exact ⟨k + 1, by omega, by go_num, by rw [Hnx.out, if_neg (by decide), Hfe.out], hE7⟩
                  case measure => simp [intOf]; omega
                · go_wp2_with fail
                  go_roundw
                  case rel => exact ⟨k + 1, by omega, by go_num, by rw [Hnx.out, if_pos rfl], hE7⟩
                  case measure => simp [intOf]; omega
              · have hweI : ¬ ((sv : Int) = (sg.weak : Int)) := by omega
                refine rg_start (by kernel_rfl) ?_
                refine rg_take 0 rfl (by kernel_rfl) (by kernel_rfl) (by kernel_rfl) (fun _ _ _ _ h => h) (by rfl) ⟨_, fun w' hx => by (go_simp <;> with_reducible rfl), ?_⟩
                simp only [Act.put, List.setIfInBounds_toArray, List.set_cons_zero, List.set_cons_succ]
                refine rg_take 2 rfl (by kernel_rfl) (by kernel_rfl) (by kernel_rfl) (fun _ _ _ _ h => h) (by rfl) ⟨_, fun w' hx => by (go_simp <;> with_reducible rfl), ?_⟩
                simp only [Act.put, List.setIfInBounds_toArray, List.set_cons_zero, List.set_cons_succ]
                refine rg_take 3 rfl (by kernel_rfl) (by kernel_rfl) (by kernel_rfl) (fun _ _ _ _ h => h) (by rfl) ⟨_, fun w' hx => by (go_simp <;> with_reducible rfl), ?_⟩
                simp only [Act.put, List.setIfInBounds_toArray, List.set_cons_zero, List.set_cons_succ]
                refine rg_take 4 rfl (by kernel_rfl) (by kernel_rfl) (by kernel_rfl) (fun _ _ _ _ h => h) (by rfl) ⟨_, fun w' hx => by (go_simp <;> with_reducible rfl), ?_⟩   -- t65 := indexAddr 24 t63 t64
                simp only [Act.put, List.setIfInBounds_toArray, List.set_cons_zero, List.set_cons_succ]
                refine rg_take 5 rfl (by kernel_rfl) (by kernel_rfl) (by kernel_rfl) (fun _ _ _ _ h => h) (by rfl) ⟨_, fun w' hx => by (go_simp <;> with_reducible rfl), ?_⟩   -- t66 := fieldAddr 33 t65 0
                simp only [Act.put, List.setIfInBounds_toArray, List.set_cons_zero, List.set_cons_succ]
                refine rg_take 6 rfl (by kernel_rfl) (by kernel_rfl) (by kernel_rfl) (fun _ _ _ _ h => h) (by rfl) ⟨_, fun w' hx => by have hcx := hx.load cwk2; (go_simp <;> with_reducible rfl), ?_⟩
                simp only [Act.put, List.setIfInBounds_toArray, List.set_cons_zero, List.set_cons_succ]
                refine rg_call 1 (Hws.out _ (Ext.refl _)) rfl (by kernel_rfl) (by rfl) (by go_simp) ?_
                rintro e6 w6 ⟨rfl, rfl⟩
                refine ⟨_, rfl, Ext.refl _, ?_⟩
                simp only [Act.put, List.setIfInBounds_toArray, List.set_cons_zero, List.set_cons_succ]
                refine rg_take 7 rfl (by kernel_rfl) (by kernel_rfl) (by kernel_rfl) (fun _ _ _ _ h => h) (by rfl) ⟨.bool false, fun w' hx => by (go_simp <;> simp [hweI]), ?_⟩
                simp only [Act.put, List.setIfInBounds_toArray, List.set_cons_zero, List.set_cons_succ]
                refine rg_take 8 rfl (by kernel_rfl) (by kernel_rfl) (by kernel_rfl) (fun _ _ _ _ h => h) (by rfl) ⟨_, fun w' hx => by (go_simp <;> with_reducible rfl), ?_⟩
                simp only [Act.put, List.setIfInBounds_toArray, List.set_cons_zero, List.set_cons_succ]
                refine rg_skip 9 rfl (by kernel_rfl) (by kernel_rfl) (by kernel_rfl) (fun _ _ _ _ h => h) (by rfl) ?_
                simp only [Act.put, List.setIfInBounds_toArray, List.set_cons_zero, List.set_cons_succ]
                refine rg_skip 10 rfl (by kernel_rfl) (by kernel_rfl) (by kernel_rfl) (fun _ _ _ _ h => h) (by rfl) ?_
                simp only [Act.put, List.setIfInBounds_toArray, List.set_cons_zero, List.set_cons_succ]
                refine rg_skip 11 rfl (by kernel_rfl) (by kernel_rfl) (by kernel_rfl) (fun _ _ _ _ h => h) (by rfl) ?_
                simp only [Act.put, List.setIfInBounds_toArray, List.set_cons_zero, List.set_cons_succ]
                refine rg_skip 12 rfl (by kernel_rfl) (by kernel_rfl) (by kernel_rfl) (fun _ _ _ _ h => h) (by rfl) ?_
                simp only [Act.put, List.setIfInBounds_toArray, List.set_cons_zero, List.set_cons_succ]
                refine rg_skip 13 rfl (by kernel_rfl) (by kernel_rfl) (by kernel_rfl) (fun _ _ _ _ h => h) (by rfl) ?_
                simp only [Act.put, List.setIfInBounds_toArray, List.set_cons_zero, List.set_cons_succ]
                refine rg_skip 14 rfl (by kernel_rfl) (by kernel_rfl) (by kernel_rfl) (fun _ _ _ _ h => h) (by rfl) ?_
                simp only [Act.put, List.setIfInBounds_toArray, List.set_cons_zero, List.set_cons_succ]
                refine rg_skip 15 rfl (by kernel_rfl) (by kernel_rfl) (by kernel_rfl) (fun _ _ _ _ h => h) (by rfl) ?_
                simp only [Act.put, List.setIfInBounds_toArray, List.set_cons_zero, List.set_cons_succ]
                refine rg_skip 16 rfl (by kernel_rfl) (by kernel_rfl) (by kernel_rfl) (fun _ _ _ _ h => h) (by rfl) ?_
                simp only [Act.put, List.setIfInBounds_toArray, List.set_cons_zero, List.set_cons_succ]
                refine rg_take 17 rfl (by kernel_rfl) (by kernel_rfl) (by kernel_rfl) (fun _ _ _ _ h => h) (by rfl) ⟨_, fun w' hx => by (go_simp <;> with_reducible rfl), ?_⟩
                simp only [Act.put, List.setIfInBounds_toArray, List.set_cons_zero, List.set_cons_succ]
                refine rg_done (by kernel_rfl) ?_
                have hnb : ((sv == sg.weak) && (sg.strong == z)) = false := by rw [beq_eq_false_iff_ne.2 hwe, Bool.false_and]
                have hE7 := Ext.tr hE2 hD
                rw [hnb] at Hnx
                clear hE2 cwk2 Hcs Hws Hsu hnb
                go_wp2_with fail
                go_roundw
                case rel => exact ⟨k + 1, by omega, by go_num, by rw [Hnx.out, if_neg (by decide), Hfe.out], hE7⟩
                case measure => simp [intOf]; omega
            · have hfin : fd = Sg.first P K := by
                by_cases hk1 : k < K
                · have h0 : 0 ≤ fd := by omega
                  exact hfd.trans (Sg.first_stays (k := k) (m := K) (by omega) (by rw [← hfd]; exact h0)).symm
                · obtain rfl : k = K := by omega
                  exact hfd
              have hcond : (decide ((k : Int) ≤ (ol : Int) - (n : Int)) && decide (fd < 0)) = false := by
                by_cases hk1 : k < K
                · have : ¬ fd < 0 := fun e => hkK ⟨hk1, e⟩
                  simp [this]
                · have : ¬ (k : Int) ≤ (ol : Int) - (n : Int) := by have := HK.out; omega
                  simp [this]
              have hO3 := HO.out.below hE2
              have hE3 := Ext.tr hE hE2
              have Htk2 : Hid (ivs (R.take (j + 1)) = ivs (R.take j) ++ ivs [fd]) := by show _ = _; rw [Htk.out, ivs_app, hfin]
              have hEi : Ext wr (wr.alloc (.cells #[.int .i64 fd] 3)) := Ext.alloc _ _
              have hOi := hO3.below hEi
              have hri : Rd (wr.alloc (.cells #[.int .i64 fd] 3)) 1 (some ⟨wr.heap.size, 0, none⟩) 1 (ivs [fd]) := Rd.new wr 3 (ivs [fd])
              have hs3 := hE3.size
              have hcase : (¬ (k : Int) ≤ (ol : Int) - (n : Int)) ∨ ((k : Int) ≤ (ol : Int) - (n : Int) ∧ ¬ fd < 0) := by
                by_cases hk1 : k < K
                · exact .inr ⟨by have := HK.out; omega, fun e => hkK ⟨hk1, e⟩⟩
                · exact .inl (by have := HK.out; omega)
              have HOi := Lib.hid hOi
              have Hri := Lib.hid hri
              clear hfin hfd hkK hO3 hcond hge hOi hri
              rcases hcase with hc | ⟨hc, hc2⟩
              all_goals
                go_wp2_with (first | (refine wpList_app rfl (.tmp 80) (.tmp 82) 35 rfl elemI w.heap.size A1 j c1 (ivs (R.take j)) rfl (some ⟨wr.heap.size, 0, none⟩) 1 1 (ivs [fd]) rfl (j + 1) rfl (ivs (R.take (j + 1))) Htk2.out HOi.out Hri.out (ivs_one _) (by omega) (by omega) (Nat.le_trans hs3 hEi.size) ?_; intro A6 c6 w6 ho6 hg6 hr6; refine Hid.out ?_))
                have hE6 : Ext w w6 := (Ext.tr hE3 hEi).grown hg6 (Nat.le_trans hs3 hEi.size) (fun k hk => (HOi.out.row_lt k hk).1)
                clear hg6 hr6 hEi HOi Hri
                refine Lib.hid ?_
                go_wp2_with fail
                go_roundw
                case rel => exact ⟨j + 1, A6, c6, by omega, by go_num, rfl, ho6, hE6⟩
                case measure => simp [intOf]; omega
        · obtain rfl : j = m := by omega
          rw [List.take_of_length_le (by have := Hfl.out; omega)] at hO
          have hrd : RdI wr A1 R := by
            have h0 := hO.rd
            have hl := Hfl.out
            unfold RdI
            rw [hl]
            exact h0
          have Hrd := Lib.hid hrd
          clear hO hrd
          go_wp2_with fail
          refine bodyPost_ret (results_tmp2 rfl _ _ _) rfl ?_
          refine ⟨A1, c1, ?_, Hrd.out, hE⟩
          show _ = Ending.returned (.tuple #[.slice _ R.length c1, _])
          rw [Hfl.out]
          rfl
    · have hr : Sg.findR o size S = ([], 220) := by unfold Sg.findR; rw [if_neg (by omega), if_pos hbn]
      rw [hr, ← hm, ← hol0]
      have hne : ¬ m = nb := by rw [hm, hnb]; exact hbn
      have hneI : ¬ (m : Int) = (nb : Int) := by omega
      clear hr hm hol0 hnb hbn hbad
      go_enter Try.func14, Try.ntmps14
      go_wp2_with (first | (go_at_call 12; refine hb.mono ?_; clear hb; rintro e1 w1 ⟨rfl, rfl⟩))
      refine bodyPost_ret (results_tmp2 rfl _ _ _) rfl ?_
      exact ⟨_, _, rfl, Rd.nil_ _ _ _, Ext.refl _⟩
end Go.Proofs.Ytnagbhaknmoilaa
