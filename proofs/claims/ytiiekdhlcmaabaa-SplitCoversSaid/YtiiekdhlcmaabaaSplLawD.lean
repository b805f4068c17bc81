
/- The walk of the law SplitCovers. Printed by wip/tools/gen_covers18.py. -/

import Derived.Test.YtiiekdhlcmaabaaSplLive

import Derived.Test.YtiiekdhlcmaabaaSplFit

import Derived.Test.YtiiekdhlcmaabaaSplCovP

import Derived.Test.YtiiekdhlcmaabaaPartsLaw

namespace Go.Proofs.Ytiiekdhlcmaabaa

open Go.RowKit

attribute [local go_sem] Oper.semAt_some

set_option maxRecDepth 100000 in
set_option maxHeartbeats 4000000 in
theorem walkSplitCovers (w : World) (A : Option Addr) (l : List EnV) (cap : Nat) (hl0 : RdE w A l) (_hc : l.length ≤ cap) (L : Option Addr) (lo : List UInt8) (cl : Nat) (hL : RdB w L lo) (hcl : lo.length ≤ cl) (H : Option Addr) (hi : List UInt8) (ch : Nat) (hH : RdB w H hi) (hch : hi.length ≤ ch) (ways : Int) (_wf : (Lit.int .i64 ways).wf = true) :
    Calls Try.prog 5 #[.slice A l.length cap, .slice L lo.length cl, .slice H hi.length ch, .int .i64 ways] w fun e w' => e = .returned (.bool true) ∧ Below w.heap.size w w' := by
  have hF := fit18 A l cap w hl0
  go_enter Try.func5, Try.ntmps5
  go_wp2_with fail
  refine hF.mono ?_
  clear hF
  rintro e w1 ⟨b, rfl, hb, hb1⟩
  cases b with
  | false =>
    clear hb
    go_wp2_with fail
    refine (live18 _).mono ?_
    rintro e wz ⟨rfl, hbz⟩
    go_wp2
    go_ret
    exact ⟨rfl, Ext.tr hb1 hbz⟩
  | true =>
    obtain ⟨h60, hfl, hrise⟩ := hb rfl
    clear hb
    by_cases hbig : wrap64 ((lo.length : Int) + (hi.length : Int)) ≤ 8000
    · have hbig' : decide ((8000 : Int) < wrap64 ((lo.length : Int) + (hi.length : Int))) = false := by simp; omega
      have z1 := run_str w1 23 9 5 H hi ch Try.underlying23 Try.underlying5 Try.underlying9 (hH.below hb1) hi.length rfl
      have z2 := run_str w1 23 9 5 L lo cl Try.underlying23 Try.underlying5 Try.underlying9 (hL.below hb1) lo.length rfl
      by_cases hbad : hi ≠ [] ∧ ltB lo hi = false
      · have hgz : 0 < hi.length := by
          rcases hi with _ | ⟨x, y⟩
          · exact absurd rfl hbad.1
          · simp
        have hlt := hbad.2
        have hor : Op.bytesLess hi lo = true ∨ (Op.bytesLess hi lo = false ∧ (hi == lo) = true) := by
          rw [less_ltB]
          rcases ltB_tri lo hi with h1 | h1 | h1
          · rw [h1] at hlt; cases hlt
          · exact .inr ⟨by rw [h1]; exact ltB_irrefl _, by rw [h1]; simp⟩
          · exact .inl h1
        clear hbad hlt hbig
        rcases hor with hb1' | ⟨hb1', hb2'⟩
        · go_wp2_with fail
          refine (live18 _).mono ?_
          rintro e wz ⟨rfl, hbz⟩
          go_wp2
          go_ret
          exact ⟨rfl, Ext.tr hb1 hbz⟩
        · go_wp2_with fail
          refine (live18 _).mono ?_
          rintro e wz ⟨rfl, hbz⟩
          go_wp2
          go_ret
          exact ⟨rfl, Ext.tr hb1 hbz⟩
      · have hgood : hi = [] ∨ ltB lo hi = true := by
          by_cases h0 : hi = []
          · exact .inl h0
          · cases h1 : ltB lo hi with
            | true => exact .inr rfl
            | false => exact absurd ⟨h0, h1⟩ hbad
        have hcovP := Spl.split_cov hrise lo hi ways hgood
        have HcovP := Lib.hid hcovP
        have hS := split_any A l cap L H lo hi cl ch ways w1 (hl0.below hb1) hfl (hL.below hb1) (hH.below hb1) hcl hch
        have HS := Lib.hid hS
        have Hrise := Lib.hid hrise
        clear hcovP hS hrise hbad
        by_cases h0 : hi.length = 0
        · have hgz : ¬ 0 < hi.length := by omega
          have hgz2 : ¬ (0 : Int) < (hi.length : Int) := by omega
          clear hgood h0 z1 z2 hbig
          go_wp2_with fail
          clear hgz
          refine HS.out.mono ?_
          clear HS
          rintro e w3 ⟨A3, c3, T, rfl, hTx, hT3, _, hb3⟩
          have hx3 := Ext.tr hb1 hb3
          obtain ⟨M, hM⟩ : ∃ M, M = l.map EnV.x := ⟨_, rfl⟩
          have hTl8 : T.length ≤ 8 := by
            have h1 := congrArg List.length hTx
            rw [List.length_map, Spl.split_len] at h1
            have h2 := Spl.k_le (Ent.between (l.map EnV.x) lo hi).length ways
            omega
          have hTl : T.length = (Spl.split M lo hi ways).length := by rw [hM, ← hTx, List.length_map]
          have hnb : (Ent.between M lo hi).length ≤ 60 := by
            have : (Ent.between M lo hi).length ≤ M.length := List.length_filter_le _ _
            rw [hM, List.length_map] at this
            rw [hM]; omega
          have hat : ∀ k (h : k < T.length), Spl.at_ (Spl.split M lo hi ways) k = T[k].x := fun k h => by rw [hM, ← hTx]; exact Spl.at_map T k h
          have hRM : Rise M := by rw [hM]; exact Hrise.out
          obtain ⟨cut, hcut⟩ : ∃ cut : Nat → Nat, cut = Spl.cut M lo hi ways := ⟨_, rfl⟩
          have hcz : cut 0 = 0 := by rw [hcut]; exact Spl.cut_zero _ _ _ _
          have hca : cut T.length = (Ent.between M lo hi).length := by rw [hcut, hTl]; exact Spl.cut_all _ _ _ _
          have hcb : ∀ k, k ≤ T.length → cut k ≤ (Ent.between M lo hi).length := fun k h => by rw [hcut]; exact Spl.cut_bound _ _ _ _ _ (by rw [← hTl]; exact h)
          have hcc : ∀ k (h : k < T.length), cut k ≤ cut (k + 1) ∧ T[k].x.count = ((cut (k + 1) - cut k : Nat) : Int) := fun k h => by
            rw [hcut, ← hat k h]; exact Spl.count_at _ _ _ _ _ (by rw [← hTl]; exact h)
          have hga : ∀ k (h : k < T.length), (Ent.between M lo hi).take (cut k) ++ Ent.between M T[k].x.lo T[k].x.hi = (Ent.between M lo hi).take (cut (k + 1)) := fun k h => by
            rw [hcut, ← hat k h]; exact Spl.gather hRM _ _ _ _ (by rw [← hTl]; exact h)
          have hod : Spl.differ (l.map EnV.x) (T.map PtV.x) = [] := by rw [hTx]; exact Spl.own_differ Hrise.out _ _ _
          rw [← hM] at hTx
          have Hcz := Lib.hid hcz
          have Hca := Lib.hid hca
          have Hcb := Lib.hid hcb
          have Hcc := Lib.hid hcc
          have Hga := Lib.hid hga
          have Hod := Lib.hid hod
          have HM := Lib.hid hM
          have HTx := Lib.hid hTx
          clear hcz hca hcb hcc hga hod hM hTx hTl hat hRM hcut Hrise
          go_wp2_with fail
          go_loopw [10, 11, 12] (fun n v i wr => ∃ (k : Nat) (A' : Option Addr) (c' : Nat) (E : List EnV), k ≤ T.length ∧ i = .int .i64 k ∧ n = .int .i64 (cut k) ∧ v = .slice A' E.length c' ∧ Own wr w3.heap.size 49 2 A' E.length c' (ecs E) ∧ E.map EnV.x = (Ent.between M lo hi).take (cut k) ∧ (∀ e ∈ E, e.In w) ∧ Ext w3 wr) (fun _ _ i _ => T.length - (intOf i).toNat)
          case atStart => exact ⟨0, none, 0, [], by omega, rfl, by rw [Hcz.out]; rfl, rfl, Own.none_ _ _ _ _ _, by rw [Hcz.out]; rfl, by simp, Ext.refl _⟩
          case round =>
            obtain ⟨k, A', c', E, hk, rfl, rfl, rfl, how, hEx, hEi, hxr⟩ := hrel
            have hx0 := Ext.tr hx3 hxr
            have hl := hl0.below hx0
            have hEl : E.length ≤ 60 := by
              have h1 := congrArg List.length hEx
              rw [List.length_map, List.length_take] at h1
              omega
            by_cases h : k < T.length
            · obtain ⟨ad, rfl, hcx, hin⟩ := (hT3.below hxr).at_ h
              obtain ⟨hcc1, hcc2⟩ := Hcc.out k h
              have hga := Hga.out k h
              have hcb := Hcb.out (k + 1) h
              obtain ⟨p, hp⟩ : ∃ p, p = T[k] := ⟨_, rfl⟩
              rw [← hp] at hcx hin hcc2 hga
              have c0 : wr.drew.cell? (ad.add (k * 35)) = some (.slice p.la p.x.lo.length p.lc) := RdP.lo_at hcx
              have c1 : wr.drew.cell? ⟨(ad.add (k * 35)).block, (ad.add (k * 35)).off + 1, none⟩ = some (.slice p.ha p.x.hi.length p.hc) := RdP.hi_at hcx
              have c2 : wr.cell? ⟨(ad.add (k * 35)).block, (ad.add (k * 35)).off + 2, none⟩ = some (.int .i64 ((cut (k + 1) - cut k : Nat) : Int)) := by rw [← hcc2]; exact RdP.count_at hcx
              obtain ⟨q, hq⟩ : ∃ q, q = cut k := ⟨_, rfl⟩
              obtain ⟨q2, hq2⟩ : ∃ q2, q2 = cut (k + 1) := ⟨_, rfl⟩
              rw [← hq] at hcc1 hEx hga c2 ⊢
              rw [← hq2] at hcc1 hga hcb c2
              obtain ⟨q3, hq3⟩ : ∃ q3, q3 = q2 - q := ⟨_, rfl⟩
              rw [← hq3] at c2
              have hsum : (q : Int) + (q3 : Int) = (q2 : Int) := by omega
              have ik : (0 : Int) ≤ (k : Int) := by omega
              have ik2 : (k : Int) < (T.length : Int) := by omega
              have hxd := Ext.drew wr
              have HEx := Lib.hid hEx
              have Hga1 := Lib.hid hga
              have Hq2 := Lib.hid hq2
              have hqb : q3 ≤ 60 := by omega
              have hqb2 : q ≤ 60 := by omega
              clear hcx hp hcc2 hEx hga hq hq2 hq3
              go_wp2_with fail
              refine rg_start (by kernel_rfl) ?_
              refine rg_take 0 rfl (by kernel_rfl) (by kernel_rfl) (by kernel_rfl) (fun _ _ _ _ h => h) (by rfl) ⟨_, fun w' hx => by (go_simp <;> with_reducible rfl), ?_⟩
              simp only [Act.put, List.setIfInBounds_toArray, List.set_cons_zero, List.set_cons_succ]
              refine rg_take 1 rfl (by kernel_rfl) (by kernel_rfl) (by kernel_rfl) (fun _ _ _ _ h => h) (by rfl) ⟨_, fun w' hx => by (go_simp <;> with_reducible rfl), ?_⟩
              simp only [Act.put, List.setIfInBounds_toArray, List.set_cons_zero, List.set_cons_succ]
              refine rg_take 2 rfl (by kernel_rfl) (by kernel_rfl) (by kernel_rfl) (fun _ _ _ _ h => h) (by rfl) ⟨_, fun w' hx => by (go_simp <;> with_reducible rfl), ?_⟩
              simp only [Act.put, List.setIfInBounds_toArray, List.set_cons_zero, List.set_cons_succ]
              refine rg_take 3 rfl (by kernel_rfl) (by kernel_rfl) (by kernel_rfl) (fun _ _ _ _ h => h) (by rfl) ⟨_, fun w' hx => by (go_simp <;> with_reducible rfl), ?_⟩
              simp only [Act.put, List.setIfInBounds_toArray, List.set_cons_zero, List.set_cons_succ]
              refine rg_take 4 rfl (by kernel_rfl) (by kernel_rfl) (by kernel_rfl) (fun _ _ _ _ h => h) (by rfl) ⟨_, fun w' hx => by (go_simp <;> with_reducible rfl), ?_⟩   -- t60 := indexAddr 27 t58 t59
              simp only [Act.put, List.setIfInBounds_toArray, List.set_cons_zero, List.set_cons_succ]
              refine rg_take 5 rfl (by kernel_rfl) (by kernel_rfl) (by kernel_rfl) (fun _ _ _ _ h => h) (by rfl) ⟨_, fun w' hx => by (go_simp <;> with_reducible rfl), ?_⟩   -- t61 := fieldAddr 33 t60 0
              simp only [Act.put, List.setIfInBounds_toArray, List.set_cons_zero, List.set_cons_succ]
              refine rg_take 6 rfl (by kernel_rfl) (by kernel_rfl) (by kernel_rfl) (fun _ _ _ _ h => h) (by rfl) ⟨_, fun w' hx => by have hcx := hx.load c0; (go_simp <;> with_reducible rfl), ?_⟩
              simp only [Act.put, List.setIfInBounds_toArray, List.set_cons_zero, List.set_cons_succ]
              refine rg_take 7 rfl (by kernel_rfl) (by kernel_rfl) (by kernel_rfl) (fun _ _ _ _ h => h) (by rfl) ⟨_, fun w' hx => by (go_simp <;> with_reducible rfl), ?_⟩
              simp only [Act.put, List.setIfInBounds_toArray, List.set_cons_zero, List.set_cons_succ]
              refine rg_take 8 rfl (by kernel_rfl) (by kernel_rfl) (by kernel_rfl) (fun _ _ _ _ h => h) (by rfl) ⟨_, fun w' hx => by (go_simp <;> with_reducible rfl), ?_⟩
              simp only [Act.put, List.setIfInBounds_toArray, List.set_cons_zero, List.set_cons_succ]
              refine rg_take 9 rfl (by kernel_rfl) (by kernel_rfl) (by kernel_rfl) (fun _ _ _ _ h => h) (by rfl) ⟨_, fun w' hx => by (go_simp <;> with_reducible rfl), ?_⟩   -- t65 := indexAddr 27 t63 t64
              simp only [Act.put, List.setIfInBounds_toArray, List.set_cons_zero, List.set_cons_succ]
              refine rg_take 10 rfl (by kernel_rfl) (by kernel_rfl) (by kernel_rfl) (fun _ _ _ _ h => h) (by rfl) ⟨_, fun w' hx => by (go_simp <;> with_reducible rfl), ?_⟩   -- t66 := fieldAddr 33 t65 1
              simp only [Act.put, List.setIfInBounds_toArray, List.set_cons_zero, List.set_cons_succ]
              refine rg_take 11 rfl (by kernel_rfl) (by kernel_rfl) (by kernel_rfl) (fun _ _ _ _ h => h) (by rfl) ⟨_, fun w' hx => by have hcx := hx.load c1; (go_simp <;> with_reducible rfl), ?_⟩
              simp only [Act.put, List.setIfInBounds_toArray, List.set_cons_zero, List.set_cons_succ]
              refine rg_call 12 (ref_between A l cap p.la p.ha p.x.lo p.x.hi p.lc p.hc _ (hl.below hxd) (by omega) (hin.lr.below hxd) (hin.hr.below hxd)) rfl (by kernel_rfl) (by rfl) (by go_simp) ?_
              rintro e w5 ⟨A5, c5, rfl, ho5, hb5⟩
              refine ⟨_, rfl, hb5, ?_⟩
              simp only [Act.put, List.setIfInBounds_toArray, List.set_cons_zero, List.set_cons_succ]
              have hvb := betV_len l p.x.lo p.x.hi
              have hvm := betV_map l p.x.lo p.x.hi
              have hvi : ∀ e ∈ betV l p.x.lo p.x.hi, e.In w := fun e he => hl0.each e (betV_mem he)
              obtain ⟨va, hva0⟩ : ∃ va, va = betV l p.x.lo p.x.hi := ⟨_, rfl⟩
              rw [← hva0] at ho5 hvb hvm hvi
              simp only [← hva0]
              clear hva0
              have hx5 : Ext w3 w5 := Ext.tr hxr (Ext.tr hxd hb5)
              have how5 := how.below (Ext.tr hxd hb5)
              have hsz5 := hx5.size
              refine rg_last 13 rfl (by kernel_rfl) (by kernel_rfl) (by rfl) fun K hK => wp_app (.tmp 56) (.tmp 68) 22 rfl elemE w3.heap.size A' E.length c' (ecs E) rfl A5 va.length c5 (ecs va) rfl (E ++ va).length (by simp) (ecs (E ++ va)) (ecs_app _ _) how5 ho5.rd (ecs_one_cell va) (by rw [List.length_append]; omega) (by rw [List.length_append]; omega) hsz5 fun A6 c6 w6 ho6 hg6 hr6 => hK _ _ ?_
              simp only [Act.put, List.setIfInBounds_toArray, List.set_cons_zero, List.set_cons_succ]
              refine rg_take 14 rfl (by kernel_rfl) (by kernel_rfl) (by kernel_rfl) (fun _ _ _ _ h => h) (by rfl) ⟨_, fun w' hx => by (go_simp <;> with_reducible rfl), ?_⟩
              simp only [Act.put, List.setIfInBounds_toArray, List.set_cons_zero, List.set_cons_succ]
              refine rg_done (by kernel_rfl) ?_
              go_wp2
              go_roundw
              case rel =>
                have hx6 : Ext w3 w6 := below_app hx5 how5 hg6 hsz5
                refine ⟨k + 1, A6, c6, E ++ va, by omega, by go_num, by rw [← Hq2.out], by rw [List.length_append], ho6, ?_, fun e he => ?_, hx6⟩
                · rw [List.map_append, HEx.out, hvm, ← HM.out, Hga1.out, Hq2.out]
                · rcases List.mem_append.1 he with h5 | h5
                  · exact hEi e h5
                  · exact hvi e h5
              case measure => simp [intOf]; omega
            · have hkT : k = T.length := by omega
              subst hkT
              have hB := ref_between A l cap L H lo hi cl ch wr hl (by omega) (hL.below hx0) (hH.below hx0)
              have hvm := betV_map l lo hi
              have hvi : ∀ e ∈ betV l lo hi, e.In w := fun e he => hl0.each e (betV_mem he)
              obtain ⟨va, hva0⟩ : ∃ va, va = betV l lo hi := ⟨_, rfl⟩
              rw [← hva0] at hB hvm hvi
              rw [← HM.out] at hvm
              have hval : va.length = (Ent.between M lo hi).length := by rw [← hvm, List.length_map]
              have hEx2 : E.map EnV.x = va.map EnV.x := by rw [hEx, hvm, Hca.out, List.take_of_length_le (Nat.le_refl _)]
              have hcv : cut T.length = va.length := by rw [Hca.out, hval]
              have hsame : Ent.sameL (E.map EnV.x) (va.map EnV.x) = true := by rw [hEx2]; exact Ent.sameL_refl _
              rw [hcv]
              have HB := Lib.hid hB
              have Hsame := Lib.hid hsame
              clear hB hva0 hvm hval hEx2 hcv hsame hEx
              go_wp2_with fail
              refine HB.out.mono ?_
              clear HB
              rintro e w5 ⟨A5, c5, rfl, ho5, hb5⟩
              have hx5 := Ext.tr hx0 hb5
              have hEr : RdE w5 A' E := (how.below hb5).rdE fun e he => (hEi e he).below hx5
              have hVr : RdE w5 A5 va := ho5.rdE fun e he => (hvi e he).below hx5
              have hT5 := (hT3.below hxr).below hb5
              have hC := cover_any L H A3 lo hi cl ch T c3 w5 (hL.below hx5) (hH.below hx5) hT5 (by omega)
              have HC := Lib.hid hC
              clear hC ho5 how
              go_wp2_with fail
              refine HC.out.mono ?_
              clear HC
              rintro e w6 ⟨b, rfl, hb, hb6⟩
              obtain rfl : b = true := hb.2 (by rw [HTx.out, HM.out]; exact HcovP.out)
              clear hb
              have hS := ref_same17 A' A5 E va c' c5 w6 (hEr.below hb6) (hVr.below hb6) (by omega)
              rw [Hsame.out] at hS
              have HS := Lib.hid hS
              have hx6 := Ext.tr hx5 hb6
              have hT8i : (T.length : Int) ≤ 8 := by omega
              clear hS hEr hVr
              go_wp2_with fail
              refine HS.out.mono ?_
              clear HS
              rintro e w7 ⟨rfl, hb7⟩
              have hx7 := Ext.tr hx6 hb7
              have hD := differ_any A A3 l T cap c3 w7 (hl0.below hx7) hfl ((hT5.below hb6).below hb7) (by omega)
              rw [Hod.out] at hD
              have HD := Lib.hid hD
              clear hD
              go_wp2_with fail
              refine HD.out.mono ?_
              clear HD
              rintro e w8 ⟨A8, c8, rfl, _, hb8⟩
              go_wp2_with fail
              refine (live18 _).mono ?_
              rintro e wz ⟨rfl, hbz⟩
              go_wp2
              go_ret
              exact ⟨rfl, Ext.tr hx7 (Ext.tr hb8 hbz)⟩
        · have hgz : 0 < hi.length := by omega
          have hlt : ltB lo hi = true := hgood.resolve_left fun e => h0 (by rw [e]; rfl)
          have hb1' : Op.bytesLess hi lo = false := by rw [less_ltB]; exact ltB_asymm hlt
          have hb2' : (hi == lo) = false := by
            rw [beq_eq_false_iff_ne]; intro e; rw [e, ltB_irrefl] at hlt; cases hlt
          clear hgood h0 hlt hbig
          go_wp2_with fail
          clear z1 z2 hb1' hb2'
          clear hgz
          refine HS.out.mono ?_
          clear HS
          rintro e w3 ⟨A3, c3, T, rfl, hTx, hT3, _, hb3⟩
          have hx3 := Ext.tr hb1 hb3
          obtain ⟨M, hM⟩ : ∃ M, M = l.map EnV.x := ⟨_, rfl⟩
          have hTl8 : T.length ≤ 8 := by
            have h1 := congrArg List.length hTx
            rw [List.length_map, Spl.split_len] at h1
            have h2 := Spl.k_le (Ent.between (l.map EnV.x) lo hi).length ways
            omega
          have hTl : T.length = (Spl.split M lo hi ways).length := by rw [hM, ← hTx, List.length_map]
          have hnb : (Ent.between M lo hi).length ≤ 60 := by
            have : (Ent.between M lo hi).length ≤ M.length := List.length_filter_le _ _
            rw [hM, List.length_map] at this
            rw [hM]; omega
          have hat : ∀ k (h : k < T.length), Spl.at_ (Spl.split M lo hi ways) k = T[k].x := fun k h => by rw [hM, ← hTx]; exact Spl.at_map T k h
          have hRM : Rise M := by rw [hM]; exact Hrise.out
          obtain ⟨cut, hcut⟩ : ∃ cut : Nat → Nat, cut = Spl.cut M lo hi ways := ⟨_, rfl⟩
          have hcz : cut 0 = 0 := by rw [hcut]; exact Spl.cut_zero _ _ _ _
          have hca : cut T.length = (Ent.between M lo hi).length := by rw [hcut, hTl]; exact Spl.cut_all _ _ _ _
          have hcb : ∀ k, k ≤ T.length → cut k ≤ (Ent.between M lo hi).length := fun k h => by rw [hcut]; exact Spl.cut_bound _ _ _ _ _ (by rw [← hTl]; exact h)
          have hcc : ∀ k (h : k < T.length), cut k ≤ cut (k + 1) ∧ T[k].x.count = ((cut (k + 1) - cut k : Nat) : Int) := fun k h => by
            rw [hcut, ← hat k h]; exact Spl.count_at _ _ _ _ _ (by rw [← hTl]; exact h)
          have hga : ∀ k (h : k < T.length), (Ent.between M lo hi).take (cut k) ++ Ent.between M T[k].x.lo T[k].x.hi = (Ent.between M lo hi).take (cut (k + 1)) := fun k h => by
            rw [hcut, ← hat k h]; exact Spl.gather hRM _ _ _ _ (by rw [← hTl]; exact h)
          have hod : Spl.differ (l.map EnV.x) (T.map PtV.x) = [] := by rw [hTx]; exact Spl.own_differ Hrise.out _ _ _
          rw [← hM] at hTx
          have Hcz := Lib.hid hcz
          have Hca := Lib.hid hca
          have Hcb := Lib.hid hcb
          have Hcc := Lib.hid hcc
          have Hga := Lib.hid hga
          have Hod := Lib.hid hod
          have HM := Lib.hid hM
          have HTx := Lib.hid hTx
          clear hcz hca hcb hcc hga hod hM hTx hTl hat hRM hcut Hrise
          go_wp2_with fail
          go_loopw [10, 11, 12] (fun n v i wr => ∃ (k : Nat) (A' : Option Addr) (c' : Nat) (E : List EnV), k ≤ T.length ∧ i = .int .i64 k ∧ n = .int .i64 (cut k) ∧ v = .slice A' E.length c' ∧ Own wr w3.heap.size 49 2 A' E.length c' (ecs E) ∧ E.map EnV.x = (Ent.between M lo hi).take (cut k) ∧ (∀ e ∈ E, e.In w) ∧ Ext w3 wr) (fun _ _ i _ => T.length - (intOf i).toNat)
          case atStart => exact ⟨0, none, 0, [], by omega, rfl, by rw [Hcz.out]; rfl, rfl, Own.none_ _ _ _ _ _, by rw [Hcz.out]; rfl, by simp, Ext.refl _⟩
          case round =>
            obtain ⟨k, A', c', E, hk, rfl, rfl, rfl, how, hEx, hEi, hxr⟩ := hrel
            have hx0 := Ext.tr hx3 hxr
            have hl := hl0.below hx0
            have hEl : E.length ≤ 60 := by
              have h1 := congrArg List.length hEx
              rw [List.length_map, List.length_take] at h1
              omega
            by_cases h : k < T.length
            · obtain ⟨ad, rfl, hcx, hin⟩ := (hT3.below hxr).at_ h
              obtain ⟨hcc1, hcc2⟩ := Hcc.out k h
              have hga := Hga.out k h
              have hcb := Hcb.out (k + 1) h
              obtain ⟨p, hp⟩ : ∃ p, p = T[k] := ⟨_, rfl⟩
              rw [← hp] at hcx hin hcc2 hga
              have c0 : wr.drew.cell? (ad.add (k * 35)) = some (.slice p.la p.x.lo.length p.lc) := RdP.lo_at hcx
              have c1 : wr.drew.cell? ⟨(ad.add (k * 35)).block, (ad.add (k * 35)).off + 1, none⟩ = some (.slice p.ha p.x.hi.length p.hc) := RdP.hi_at hcx
              have c2 : wr.cell? ⟨(ad.add (k * 35)).block, (ad.add (k * 35)).off + 2, none⟩ = some (.int .i64 ((cut (k + 1) - cut k : Nat) : Int)) := by rw [← hcc2]; exact RdP.count_at hcx
              obtain ⟨q, hq⟩ : ∃ q, q = cut k := ⟨_, rfl⟩
              obtain ⟨q2, hq2⟩ : ∃ q2, q2 = cut (k + 1) := ⟨_, rfl⟩
              rw [← hq] at hcc1 hEx hga c2 ⊢
              rw [← hq2] at hcc1 hga hcb c2
              obtain ⟨q3, hq3⟩ : ∃ q3, q3 = q2 - q := ⟨_, rfl⟩
              rw [← hq3] at c2
              have hsum : (q : Int) + (q3 : Int) = (q2 : Int) := by omega
              have ik : (0 : Int) ≤ (k : Int) := by omega
              have ik2 : (k : Int) < (T.length : Int) := by omega
              have hxd := Ext.drew wr
              have HEx := Lib.hid hEx
              have Hga1 := Lib.hid hga
              have Hq2 := Lib.hid hq2
              have hqb : q3 ≤ 60 := by omega
              have hqb2 : q ≤ 60 := by omega
              clear hcx hp hcc2 hEx hga hq hq2 hq3
              go_wp2_with fail
              refine rg_start (by kernel_rfl) ?_
              refine rg_take 0 rfl (by kernel_rfl) (by kernel_rfl) (by kernel_rfl) (fun _ _ _ _ h => h) (by rfl) ⟨_, fun w' hx => by (go_simp <;> with_reducible rfl), ?_⟩
              simp only [Act.put, List.setIfInBounds_toArray, List.set_cons_zero, List.set_cons_succ]
              refine rg_take 1 rfl (by kernel_rfl) (by kernel_rfl) (by kernel_rfl) (fun _ _ _ _ h => h) (by rfl) ⟨_, fun w' hx => by (go_simp <;> with_reducible rfl), ?_⟩
              simp only [Act.put, List.setIfInBounds_toArray, List.set_cons_zero, List.set_cons_succ]
              refine rg_take 2 rfl (by kernel_rfl) (by kernel_rfl) (by kernel_rfl) (fun _ _ _ _ h => h) (by rfl) ⟨_, fun w' hx => by (go_simp <;> with_reducible rfl), ?_⟩
              simp only [Act.put, List.setIfInBounds_toArray, List.set_cons_zero, List.set_cons_succ]
              refine rg_take 3 rfl (by kernel_rfl) (by kernel_rfl) (by kernel_rfl) (fun _ _ _ _ h => h) (by rfl) ⟨_, fun w' hx => by (go_simp <;> with_reducible rfl), ?_⟩
              simp only [Act.put, List.setIfInBounds_toArray, List.set_cons_zero, List.set_cons_succ]
              refine rg_take 4 rfl (by kernel_rfl) (by kernel_rfl) (by kernel_rfl) (fun _ _ _ _ h => h) (by rfl) ⟨_, fun w' hx => by (go_simp <;> with_reducible rfl), ?_⟩   -- t60 := indexAddr 27 t58 t59
              simp only [Act.put, List.setIfInBounds_toArray, List.set_cons_zero, List.set_cons_succ]
              refine rg_take 5 rfl (by kernel_rfl) (by kernel_rfl) (by kernel_rfl) (fun _ _ _ _ h => h) (by rfl) ⟨_, fun w' hx => by (go_simp <;> with_reducible rfl), ?_⟩   -- t61 := fieldAddr 33 t60 0
              simp only [Act.put, List.setIfInBounds_toArray, List.set_cons_zero, List.set_cons_succ]
              refine rg_take 6 rfl (by kernel_rfl) (by kernel_rfl) (by kernel_rfl) (fun _ _ _ _ h => h) (by rfl) ⟨_, fun w' hx => by have hcx := hx.load c0; (go_simp <;> with_reducible rfl), ?_⟩
              simp only [Act.put, List.setIfInBounds_toArray, List.set_cons_zero, List.set_cons_succ]
              refine rg_take 7 rfl (by kernel_rfl) (by kernel_rfl) (by kernel_rfl) (fun _ _ _ _ h => h) (by rfl) ⟨_, fun w' hx => by (go_simp <;> with_reducible rfl), ?_⟩
              simp only [Act.put, List.setIfInBounds_toArray, List.set_cons_zero, List.set_cons_succ]
              refine rg_take 8 rfl (by kernel_rfl) (by kernel_rfl) (by kernel_rfl) (fun _ _ _ _ h => h) (by rfl) ⟨_, fun w' hx => by (go_simp <;> with_reducible rfl), ?_⟩
              simp only [Act.put, List.setIfInBounds_toArray, List.set_cons_zero, List.set_cons_succ]
              refine rg_take 9 rfl (by kernel_rfl) (by kernel_rfl) (by kernel_rfl) (fun _ _ _ _ h => h) (by rfl) ⟨_, fun w' hx => by (go_simp <;> with_reducible rfl), ?_⟩   -- t65 := indexAddr 27 t63 t64
              simp only [Act.put, List.setIfInBounds_toArray, List.set_cons_zero, List.set_cons_succ]
              refine rg_take 10 rfl (by kernel_rfl) (by kernel_rfl) (by kernel_rfl) (fun _ _ _ _ h => h) (by rfl) ⟨_, fun w' hx => by (go_simp <;> with_reducible rfl), ?_⟩   -- t66 := fieldAddr 33 t65 1
              simp only [Act.put, List.setIfInBounds_toArray, List.set_cons_zero, List.set_cons_succ]
              refine rg_take 11 rfl (by kernel_rfl) (by kernel_rfl) (by kernel_rfl) (fun _ _ _ _ h => h) (by rfl) ⟨_, fun w' hx => by have hcx := hx.load c1; (go_simp <;> with_reducible rfl), ?_⟩
              simp only [Act.put, List.setIfInBounds_toArray, List.set_cons_zero, List.set_cons_succ]
              refine rg_call 12 (ref_between A l cap p.la p.ha p.x.lo p.x.hi p.lc p.hc _ (hl.below hxd) (by omega) (hin.lr.below hxd) (hin.hr.below hxd)) rfl (by kernel_rfl) (by rfl) (by go_simp) ?_
              rintro e w5 ⟨A5, c5, rfl, ho5, hb5⟩
              refine ⟨_, rfl, hb5, ?_⟩
              simp only [Act.put, List.setIfInBounds_toArray, List.set_cons_zero, List.set_cons_succ]
              have hvb := betV_len l p.x.lo p.x.hi
              have hvm := betV_map l p.x.lo p.x.hi
              have hvi : ∀ e ∈ betV l p.x.lo p.x.hi, e.In w := fun e he => hl0.each e (betV_mem he)
              obtain ⟨va, hva0⟩ : ∃ va, va = betV l p.x.lo p.x.hi := ⟨_, rfl⟩
              rw [← hva0] at ho5 hvb hvm hvi
              simp only [← hva0]
              clear hva0
              have hx5 : Ext w3 w5 := Ext.tr hxr (Ext.tr hxd hb5)
              have how5 := how.below (Ext.tr hxd hb5)
              have hsz5 := hx5.size
              refine rg_last 13 rfl (by kernel_rfl) (by kernel_rfl) (by rfl) fun K hK => wp_app (.tmp 56) (.tmp 68) 22 rfl elemE w3.heap.size A' E.length c' (ecs E) rfl A5 va.length c5 (ecs va) rfl (E ++ va).length (by simp) (ecs (E ++ va)) (ecs_app _ _) how5 ho5.rd (ecs_one_cell va) (by rw [List.length_append]; omega) (by rw [List.length_append]; omega) hsz5 fun A6 c6 w6 ho6 hg6 hr6 => hK _ _ ?_
              simp only [Act.put, List.setIfInBounds_toArray, List.set_cons_zero, List.set_cons_succ]
              refine rg_take 14 rfl (by kernel_rfl) (by kernel_rfl) (by kernel_rfl) (fun _ _ _ _ h => h) (by rfl) ⟨_, fun w' hx => by (go_simp <;> with_reducible rfl), ?_⟩
              simp only [Act.put, List.setIfInBounds_toArray, List.set_cons_zero, List.set_cons_succ]
              refine rg_done (by kernel_rfl) ?_
              go_wp2
              go_roundw
              case rel =>
                have hx6 : Ext w3 w6 := below_app hx5 how5 hg6 hsz5
                refine ⟨k + 1, A6, c6, E ++ va, by omega, by go_num, by rw [← Hq2.out], by rw [List.length_append], ho6, ?_, fun e he => ?_, hx6⟩
                · rw [List.map_append, HEx.out, hvm, ← HM.out, Hga1.out, Hq2.out]
                · rcases List.mem_append.1 he with h5 | h5
                  · exact hEi e h5
                  · exact hvi e h5
              case measure => simp [intOf]; omega
            · have hkT : k = T.length := by omega
              subst hkT
              have hB := ref_between A l cap L H lo hi cl ch wr hl (by omega) (hL.below hx0) (hH.below hx0)
              have hvm := betV_map l lo hi
              have hvi : ∀ e ∈ betV l lo hi, e.In w := fun e he => hl0.each e (betV_mem he)
              obtain ⟨va, hva0⟩ : ∃ va, va = betV l lo hi := ⟨_, rfl⟩
              rw [← hva0] at hB hvm hvi
              rw [← HM.out] at hvm
              have hval : va.length = (Ent.between M lo hi).length := by rw [← hvm, List.length_map]
              have hEx2 : E.map EnV.x = va.map EnV.x := by rw [hEx, hvm, Hca.out, List.take_of_length_le (Nat.le_refl _)]
              have hcv : cut T.length = va.length := by rw [Hca.out, hval]
              have hsame : Ent.sameL (E.map EnV.x) (va.map EnV.x) = true := by rw [hEx2]; exact Ent.sameL_refl _
              rw [hcv]
              have HB := Lib.hid hB
              have Hsame := Lib.hid hsame
              clear hB hva0 hvm hval hEx2 hcv hsame hEx
              go_wp2_with fail
              refine HB.out.mono ?_
              clear HB
              rintro e w5 ⟨A5, c5, rfl, ho5, hb5⟩
              have hx5 := Ext.tr hx0 hb5
              have hEr : RdE w5 A' E := (how.below hb5).rdE fun e he => (hEi e he).below hx5
              have hVr : RdE w5 A5 va := ho5.rdE fun e he => (hvi e he).below hx5
              have hT5 := (hT3.below hxr).below hb5
              have hC := cover_any L H A3 lo hi cl ch T c3 w5 (hL.below hx5) (hH.below hx5) hT5 (by omega)
              have HC := Lib.hid hC
              clear hC ho5 how
              go_wp2_with fail
              refine HC.out.mono ?_
              clear HC
              rintro e w6 ⟨b, rfl, hb, hb6⟩
              obtain rfl : b = true := hb.2 (by rw [HTx.out, HM.out]; exact HcovP.out)
              clear hb
              have hS := ref_same17 A' A5 E va c' c5 w6 (hEr.below hb6) (hVr.below hb6) (by omega)
              rw [Hsame.out] at hS
              have HS := Lib.hid hS
              have hx6 := Ext.tr hx5 hb6
              have hT8i : (T.length : Int) ≤ 8 := by omega
              clear hS hEr hVr
              go_wp2_with fail
              refine HS.out.mono ?_
              clear HS
              rintro e w7 ⟨rfl, hb7⟩
              have hx7 := Ext.tr hx6 hb7
              have hD := differ_any A A3 l T cap c3 w7 (hl0.below hx7) hfl ((hT5.below hb6).below hb7) (by omega)
              rw [Hod.out] at hD
              have HD := Lib.hid hD
              clear hD
              go_wp2_with fail
              refine HD.out.mono ?_
              clear HD
              rintro e w8 ⟨A8, c8, rfl, _, hb8⟩
              go_wp2_with fail
              refine (live18 _).mono ?_
              rintro e wz ⟨rfl, hbz⟩
              go_wp2
              go_ret
              exact ⟨rfl, Ext.tr hx7 (Ext.tr hb8 hbz)⟩
    · have hbig' : decide ((8000 : Int) < wrap64 ((lo.length : Int) + (hi.length : Int))) = true := by simp; omega
      go_wp2_with fail
      refine (live18 _).mono ?_
      rintro e wz ⟨rfl, hbz⟩
      go_wp2
      go_ret
      exact ⟨rfl, Ext.tr hb1 hbz⟩
end Go.Proofs.Ytiiekdhlcmaabaa
