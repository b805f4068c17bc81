
/- The walk of the law SplitFinds. Printed by wip/tools/gen_finds18.py. -/

import Derived.Test.YtiiekdhlcmaabaaSplLive

import Derived.Test.YtiiekdhlcmaabaaSplFit

import Derived.Test.YtiiekdhlcmaabaaSplFind

import Derived.Test.YtiiekdhlcmaabaaPartsLaw

namespace Go.Proofs.Ytiiekdhlcmaabaa

open Go.RowKit

attribute [local go_sem] Oper.semAt_some

theorem eqArr30 (x y : List UInt8) (w : World) (hx : x.length = 32) (hy : y.length = 32) : (Op.equalIn 10000 30 (.agg (bvs x).toArray) (.agg (bvs y).toArray)).run Try.prog w = .ok (x == y) w := by
  rw [show (10000 : Nat) = 9998 + 2 from rfl, run_eqArr x y w 9998 _ Try.underlying30 hx hy]
theorem Spl.mem_differ (l : List Ent) (ps : List Pt) (k : Nat) (h : k < ps.length) : (Spl.differ l ps).contains k = Spl.diffs l ps[k] := by
  rw [Bool.eq_iff_iff, List.contains_iff_mem]
  unfold Spl.differ Spl.differK
  rw [List.mem_filter, List.mem_range]
  simp only [List.getElem?_eq_getElem h]
  exact ⟨fun h => h.2, fun h2 => ⟨h, h2⟩⟩
theorem take_contains (D : List Nat) (r k : Nat) (h : r < D.length) : (D.take (r + 1)).contains k = ((D.take r).contains k || (D[r] == k)) := by
  rw [List.take_succ_eq_append_getElem h, Bool.eq_iff_iff, Bool.or_eq_true, List.contains_iff_mem, List.contains_iff_mem, List.mem_append, List.mem_singleton, beq_iff_eq]
  exact ⟨fun h => h.imp id (·.symm), fun h => h.imp id (·.symm)⟩

set_option maxRecDepth 100000 in
set_option maxHeartbeats 4000000 in
theorem walkSplitFinds (w : World) (A : Option Addr) (l : List EnV) (cap : Nat) (hl0 : RdE w A l) (_hc : l.length ≤ cap) (B : Option Addr) (m : List EnV) (cap2 : Nat) (hm0 : RdE w B m) (_hc2 : m.length ≤ cap2) (ways : Int) (_wf : (Lit.int .i64 ways).wf = true) :
    Calls Try.prog 6 #[.slice A l.length cap, .slice B m.length cap2, .int .i64 ways] w fun e w' => e = .returned (.bool true) ∧ Below w.heap.size w w' := by
  have hF := fit18 A l cap w hl0
  go_enter Try.func6, Try.ntmps6
  go_wp2_with fail
  refine hF.mono ?_
  clear hF
  rintro e w1 ⟨b, rfl, hb, hb1⟩
  cases b with
  | false =>
    clear hb
    go_wp2_with fail
    refine (live18 _).mono ?_
    rintro e wz ⟨rfl, hbz⟩
    go_wp2
    go_ret
    exact ⟨rfl, Ext.tr hb1 hbz⟩
  | true =>
    obtain ⟨h60, hfl, hrise⟩ := hb rfl
    clear hb
    have hF := fit18 B m cap2 w1 (hm0.below hb1)
    have HF := Lib.hid hF
    clear hF
    go_wp2_with fail
    refine HF.out.mono ?_
    clear HF
    rintro e w2 ⟨b, rfl, hb, hb2⟩
    have hx2 := Ext.tr hb1 hb2
    cases b with
    | false =>
      clear hb
      go_wp2_with fail
      refine (live18 _).mono ?_
      rintro e wz ⟨rfl, hbz⟩
      go_wp2
      go_ret
      exact ⟨rfl, Ext.tr hx2 hbz⟩
    | true =>
      obtain ⟨g60, hfm, _⟩ := hb rfl
      clear hb
      have hS := split_any A l cap none none [] [] 0 0 ways w2 (hl0.below hx2) hfl (RdB.nil_ _ _) (RdB.nil_ _ _) (Nat.le_refl _) (Nat.le_refl _)
      have HS := Lib.hid hS
      clear hS
      go_wp2_with fail
      refine HS.out.mono ?_
      clear HS
      rintro e w3 ⟨A3, c3, T, rfl, hTx, hT3, _, hb3⟩
      have hx3 := Ext.tr hx2 hb3
      have hTl : T.length ≤ 8 := by
        have h1 := congrArg List.length hTx
        rw [List.length_map] at h1
        unfold Spl.split at h1
        rw [List.length_map, List.length_range] at h1
        have h2 := Spl.k_le (Ent.between (l.map EnV.x) [] []).length ways
        omega
      have hfind : ∀ k (h : k < T.length), (Spl.diffs (m.map EnV.x) T[k].x = true → Ent.sameL (Ent.between (l.map EnV.x) T[k].x.lo T[k].x.hi) (Ent.between (m.map EnV.x) T[k].x.lo T[k].x.hi) = false) ∧ (Spl.diffs (m.map EnV.x) T[k].x = false → Ent.digest (Ent.between (l.map EnV.x) T[k].x.lo T[k].x.hi) = Ent.digest (Ent.between (m.map EnV.x) T[k].x.lo T[k].x.hi)) := fun k h => by
        have h1 : k < (Spl.split (l.map EnV.x) [] [] ways).length := by rw [← hTx, List.length_map]; exact h
        refine Spl.finds (m := m.map EnV.x) hrise [] [] ways k h1 T[k].x ?_
        have h2 : (T.map PtV.x)[k]? = (Spl.split (l.map EnV.x) [] [] ways)[k]? := by rw [hTx]
        rw [List.getElem?_map, List.getElem?_eq_getElem h, List.getElem?_eq_getElem h1] at h2
        simpa using h2
      have hmem : ∀ k (h : k < T.length), (Spl.differ (m.map EnV.x) (T.map PtV.x)).contains k = Spl.diffs (m.map EnV.x) T[k].x := fun k h => by
        rw [Spl.mem_differ _ _ k (by simpa using h)]
        simp
      have hD := differ_any B A3 m T cap2 c3 w3 (hm0.below hx3) hfm hT3 (by omega)
      obtain ⟨D, hDD⟩ : ∃ D, D = Spl.differ (m.map EnV.x) (T.map PtV.x) := ⟨_, rfl⟩
      rw [← hDD] at hD hmem
      have hDl : D.length ≤ 8 := by
        have h1 := Spl.differ_len (m.map EnV.x) (T.map PtV.x) (T.map PtV.x).length
        rw [hDD]
        unfold Spl.differ
        rw [List.length_map] at h1 ⊢
        omega
      have HD := Lib.hid hD
      have Hfind := Lib.hid hfind
      have Hmem := Lib.hid hmem
      clear hD hfind hmem hDD hTx hrise
      go_wp2_with fail
      refine HD.out.mono ?_
      clear HD
      rintro e w4 ⟨A4, c4, rfl, hR4, hb4⟩
      have hx4 := Ext.tr hx3 hb4
      have hT4 := hT3.below hb4
      have hl4 := hl0.below hx4
      have hm4 := hm0.below hx4
      clear hT3 hb3 hx3 hx2 hl0 hm0
      go_wp2_with fail
      go_loopw [9] (fun i wr => ∃ k : Nat, k ≤ T.length ∧ i = .int .i64 k ∧ Ext w4 wr) (fun i _ => T.length - (intOf i).toNat)
      case atStart => exact ⟨0, by omega, rfl, Ext.refl _⟩
      case round =>
        obtain ⟨k, hk, rfl, hxr⟩ := hrel
        by_cases h : k < T.length
        · have ik : (0 : Int) ≤ (k : Int) := by omega
          have ik2 : (k : Int) < (T.length : Int) := by omega
          go_wp2_with fail
          go_loopw [10, 11] (fun v j ws => ∃ r : Nat, r ≤ D.length ∧ j = .int .i64 r ∧ v = .bool ((D.take r).contains k) ∧ Ext w4 ws) (fun _ j _ => D.length - (intOf j).toNat)
          case atStart => exact ⟨0, by omega, rfl, by simp, hxr⟩
          case round =>
            obtain ⟨r, hr, rfl, rfl, hxs⟩ := hrel
            by_cases hrD : r < D.length
            · obtain ⟨ad, rfl, hcr⟩ := RdI.at_ (Rd.below hR4 hxs) hrD
              have hct := take_contains D r k hrD
              have ir : (0 : Int) ≤ (r : Int) := by omega
              have ir2 : (r : Int) < (D.length : Int) := by omega
              obtain ⟨d, hd⟩ : ∃ d, d = D[r] := ⟨_, rfl⟩
              rw [← hd] at hcr hct
              have HD1 := Lib.hid hd
              clear hd
              cases hcc : (D.take r).contains k with
              | true =>
                rw [hcc, Bool.true_or] at hct
                have Hct := Lib.hid hct
                clear hct hcc
                go_wp2_with fail
                go_roundw
                case rel => exact ⟨r + 1, by omega, by go_num, by rw [Hct.out], hxs⟩
                case measure => simp [intOf]; omega
              | false =>
                rw [hcc, Bool.false_or] at hct
                cases hdk : (d == k) with
                | true =>
                  rw [hdk] at hct
                  have hdi : ((d : Int) == (k : Int)) = true := by rw [beq_iff_eq] at hdk ⊢; omega
                  have Hct := Lib.hid hct
                  clear hct hcc hdk
                  go_wp2_with fail
                  go_roundw
                  case rel => exact ⟨r + 1, by omega, by go_num, by rw [Hct.out], hxs⟩
                  case measure => simp [intOf]; omega
                | false =>
                  rw [hdk] at hct
                  have hdi : ((d : Int) == (k : Int)) = false := by rw [beq_eq_false_iff_ne] at hdk ⊢; omega
                  have Hct := Lib.hid hct
                  clear hct hcc hdk
                  go_wp2_with fail
                  go_roundw
                  case rel => exact ⟨r + 1, by omega, by go_num, by rw [Hct.out], hxs⟩
                  case measure => simp [intOf]; omega
            · have hrl : (D.take r).contains k = D.contains k := by rw [List.take_of_length_le (by omega)]
              rw [hrl, Hmem.out k h]
              obtain ⟨ad, rfl, hcx, hin⟩ := (hT4.below hxs).at_ h
              have hfk := Hfind.out k h
              obtain ⟨p, hp⟩ : ∃ p, p = T[k] := ⟨_, rfl⟩
              rw [← hp] at hcx hin hfk ⊢
              have c0 : wr.drew.cell? (ad.add (k * 35)) = some (.slice p.la p.x.lo.length p.lc) := RdP.lo_at hcx
              have c1 : wr.drew.cell? ⟨(ad.add (k * 35)).block, (ad.add (k * 35)).off + 1, none⟩ = some (.slice p.ha p.x.hi.length p.hc) := RdP.hi_at hcx
              have hl := hl4.below hxs
              have hm := hm4.below hxs
              have hxd := Ext.drew wr
              have hxp := Ext.drew wr
              have Hfk := Lib.hid hfk
              clear hcx hp hfk hrl
              go_wp2_with fail
              refine rg_start (by kernel_rfl) ?_
              refine rg_take 0 rfl (by kernel_rfl) (by kernel_rfl) (by kernel_rfl) (fun _ _ _ _ h => h) (by rfl) ⟨_, fun w' hx => by (go_simp <;> with_reducible rfl), ?_⟩
              simp only [Act.put, List.setIfInBounds_toArray, List.set_cons_zero, List.set_cons_succ]
              refine rg_take 1 rfl (by kernel_rfl) (by kernel_rfl) (by kernel_rfl) (fun _ _ _ _ h => h) (by rfl) ⟨_, fun w' hx => by (go_simp <;> with_reducible rfl), ?_⟩
              simp only [Act.put, List.setIfInBounds_toArray, List.set_cons_zero, List.set_cons_succ]
              refine rg_take 2 rfl (by kernel_rfl) (by kernel_rfl) (by kernel_rfl) (fun _ _ _ _ h => h) (by rfl) ⟨_, fun w' hx => by (go_simp <;> with_reducible rfl), ?_⟩
              simp only [Act.put, List.setIfInBounds_toArray, List.set_cons_zero, List.set_cons_succ]
              refine rg_take 3 rfl (by kernel_rfl) (by kernel_rfl) (by kernel_rfl) (fun _ _ _ _ h => h) (by rfl) ⟨_, fun w' hx => by (go_simp <;> with_reducible rfl), ?_⟩   -- t53 := indexAddr 27 t51 t52
              simp only [Act.put, List.setIfInBounds_toArray, List.set_cons_zero, List.set_cons_succ]
              refine rg_take 4 rfl (by kernel_rfl) (by kernel_rfl) (by kernel_rfl) (fun _ _ _ _ h => h) (by rfl) ⟨_, fun w' hx => by (go_simp <;> with_reducible rfl), ?_⟩   -- t54 := fieldAddr 33 t53 0
              simp only [Act.put, List.setIfInBounds_toArray, List.set_cons_zero, List.set_cons_succ]
              refine rg_take 5 rfl (by kernel_rfl) (by kernel_rfl) (by kernel_rfl) (fun _ _ _ _ h => h) (by rfl) ⟨_, fun w' hx => by have hcx := hx.load c0; (go_simp <;> with_reducible rfl), ?_⟩
              simp only [Act.put, List.setIfInBounds_toArray, List.set_cons_zero, List.set_cons_succ]
              refine rg_take 6 rfl (by kernel_rfl) (by kernel_rfl) (by kernel_rfl) (fun _ _ _ _ h => h) (by rfl) ⟨_, fun w' hx => by (go_simp <;> with_reducible rfl), ?_⟩
              simp only [Act.put, List.setIfInBounds_toArray, List.set_cons_zero, List.set_cons_succ]
              refine rg_take 7 rfl (by kernel_rfl) (by kernel_rfl) (by kernel_rfl) (fun _ _ _ _ h => h) (by rfl) ⟨_, fun w' hx => by (go_simp <;> with_reducible rfl), ?_⟩
              simp only [Act.put, List.setIfInBounds_toArray, List.set_cons_zero, List.set_cons_succ]
              refine rg_take 8 rfl (by kernel_rfl) (by kernel_rfl) (by kernel_rfl) (fun _ _ _ _ h => h) (by rfl) ⟨_, fun w' hx => by (go_simp <;> with_reducible rfl), ?_⟩   -- t58 := indexAddr 27 t56 t57
              simp only [Act.put, List.setIfInBounds_toArray, List.set_cons_zero, List.set_cons_succ]
              refine rg_take 9 rfl (by kernel_rfl) (by kernel_rfl) (by kernel_rfl) (fun _ _ _ _ h => h) (by rfl) ⟨_, fun w' hx => by (go_simp <;> with_reducible rfl), ?_⟩   -- t59 := fieldAddr 33 t58 1
              simp only [Act.put, List.setIfInBounds_toArray, List.set_cons_zero, List.set_cons_succ]
              refine rg_take 10 rfl (by kernel_rfl) (by kernel_rfl) (by kernel_rfl) (fun _ _ _ _ h => h) (by rfl) ⟨_, fun w' hx => by have hcx := hx.load c1; (go_simp <;> with_reducible rfl), ?_⟩
              simp only [Act.put, List.setIfInBounds_toArray, List.set_cons_zero, List.set_cons_succ]
              refine rg_take 12 rfl (by kernel_rfl) (by kernel_rfl) (by kernel_rfl) (fun _ _ _ _ h => h) (by rfl) ⟨_, fun w' hx => by (go_simp <;> with_reducible rfl), ?_⟩
              simp only [Act.put, List.setIfInBounds_toArray, List.set_cons_zero, List.set_cons_succ]
              refine rg_take 13 rfl (by kernel_rfl) (by kernel_rfl) (by kernel_rfl) (fun _ _ _ _ h => h) (by rfl) ⟨_, fun w' hx => by (go_simp <;> with_reducible rfl), ?_⟩
              simp only [Act.put, List.setIfInBounds_toArray, List.set_cons_zero, List.set_cons_succ]
              refine rg_take 14 rfl (by kernel_rfl) (by kernel_rfl) (by kernel_rfl) (fun _ _ _ _ h => h) (by rfl) ⟨_, fun w' hx => by (go_simp <;> with_reducible rfl), ?_⟩
              simp only [Act.put, List.setIfInBounds_toArray, List.set_cons_zero, List.set_cons_succ]
              refine rg_take 15 rfl (by kernel_rfl) (by kernel_rfl) (by kernel_rfl) (fun _ _ _ _ h => h) (by rfl) ⟨_, fun w' hx => by (go_simp <;> with_reducible rfl), ?_⟩   -- t65 := indexAddr 27 t63 t64
              simp only [Act.put, List.setIfInBounds_toArray, List.set_cons_zero, List.set_cons_succ]
              refine rg_take 16 rfl (by kernel_rfl) (by kernel_rfl) (by kernel_rfl) (fun _ _ _ _ h => h) (by rfl) ⟨_, fun w' hx => by (go_simp <;> with_reducible rfl), ?_⟩   -- t66 := fieldAddr 33 t65 0
              simp only [Act.put, List.setIfInBounds_toArray, List.set_cons_zero, List.set_cons_succ]
              refine rg_take 17 rfl (by kernel_rfl) (by kernel_rfl) (by kernel_rfl) (fun _ _ _ _ h => h) (by rfl) ⟨_, fun w' hx => by have hcx := hx.load c0; (go_simp <;> with_reducible rfl), ?_⟩
              simp only [Act.put, List.setIfInBounds_toArray, List.set_cons_zero, List.set_cons_succ]
              refine rg_take 18 rfl (by kernel_rfl) (by kernel_rfl) (by kernel_rfl) (fun _ _ _ _ h => h) (by rfl) ⟨_, fun w' hx => by (go_simp <;> with_reducible rfl), ?_⟩
              simp only [Act.put, List.setIfInBounds_toArray, List.set_cons_zero, List.set_cons_succ]
              refine rg_take 19 rfl (by kernel_rfl) (by kernel_rfl) (by kernel_rfl) (fun _ _ _ _ h => h) (by rfl) ⟨_, fun w' hx => by (go_simp <;> with_reducible rfl), ?_⟩
              simp only [Act.put, List.setIfInBounds_toArray, List.set_cons_zero, List.set_cons_succ]
              refine rg_take 20 rfl (by kernel_rfl) (by kernel_rfl) (by kernel_rfl) (fun _ _ _ _ h => h) (by rfl) ⟨_, fun w' hx => by (go_simp <;> with_reducible rfl), ?_⟩   -- t70 := indexAddr 27 t68 t69
              simp only [Act.put, List.setIfInBounds_toArray, List.set_cons_zero, List.set_cons_succ]
              refine rg_take 21 rfl (by kernel_rfl) (by kernel_rfl) (by kernel_rfl) (fun _ _ _ _ h => h) (by rfl) ⟨_, fun w' hx => by (go_simp <;> with_reducible rfl), ?_⟩   -- t71 := fieldAddr 33 t70 1
              simp only [Act.put, List.setIfInBounds_toArray, List.set_cons_zero, List.set_cons_succ]
              refine rg_take 22 rfl (by kernel_rfl) (by kernel_rfl) (by kernel_rfl) (fun _ _ _ _ h => h) (by rfl) ⟨_, fun w' hx => by have hcx := hx.load c1; (go_simp <;> with_reducible rfl), ?_⟩
              simp only [Act.put, List.setIfInBounds_toArray, List.set_cons_zero, List.set_cons_succ]
              refine rg_call 11 (ref_between A l cap p.la p.ha p.x.lo p.x.hi p.lc p.hc _ (hl.below hxd) (by omega) (hin.lr.below hxp) (hin.hr.below hxp)) rfl (by kernel_rfl) (by rfl) (by go_simp) ?_
              rintro e w5 ⟨A5, c5, rfl, ho5, hb5⟩
              refine ⟨_, rfl, hb5, ?_⟩
              simp only [Act.put, List.setIfInBounds_toArray, List.set_cons_zero, List.set_cons_succ]
              refine rg_call 23 (ref_between B m cap2 p.la p.ha p.x.lo p.x.hi p.lc p.hc _ ((hm.below hxd).below hb5) (by omega) ((hin.lr.below hxp).below hb5) ((hin.hr.below hxp).below hb5)) rfl (by kernel_rfl) (by rfl) (by go_simp) ?_
              rintro e w6 ⟨A6, c6, rfl, ho6, hb6⟩
              refine ⟨_, rfl, hb6, ?_⟩
              simp only [Act.put, List.setIfInBounds_toArray, List.set_cons_zero, List.set_cons_succ]
              refine rg_take 24 rfl (by kernel_rfl) (by kernel_rfl) (by kernel_rfl) (fun _ _ _ _ h => h) (by rfl) ⟨_, fun w' hx => by (go_simp <;> with_reducible rfl), ?_⟩
              simp only [Act.put, List.setIfInBounds_toArray, List.set_cons_zero, List.set_cons_succ]
              refine rg_take 25 rfl (by kernel_rfl) (by kernel_rfl) (by kernel_rfl) (fun _ _ _ _ h => h) (by rfl) ⟨_, fun w' hx => by (go_simp <;> with_reducible rfl), ?_⟩
              simp only [Act.put, List.setIfInBounds_toArray, List.set_cons_zero, List.set_cons_succ]
              refine rg_done (by kernel_rfl) ?_
              have hva : RdE w6 A5 (betV l p.x.lo p.x.hi) := (ho5.below hb6).rdE fun e he => ((((hl.each e (betV_mem he)).below hxd).below hb5).below hb6)
              have hvb : RdE w6 A6 (betV m p.x.lo p.x.hi) := ho6.rdE fun e he => ((((hm.each e (betV_mem he)).below hxd).below hb5).below hb6)
              have hla := betV_len l p.x.lo p.x.hi
              have hlb := betV_len m p.x.lo p.x.hi
              have hfa := hfl.bet p.x.lo p.x.hi
              have hfb := hfm.bet p.x.lo p.x.hi
              have hma := betV_map l p.x.lo p.x.hi
              have hmb := betV_map m p.x.lo p.x.hi
              obtain ⟨va, hva0⟩ : ∃ va, va = betV l p.x.lo p.x.hi := ⟨_, rfl⟩
              obtain ⟨vb, hvb0⟩ : ∃ vb, vb = betV m p.x.lo p.x.hi := ⟨_, rfl⟩
              rw [← hva0] at hva hla hfa hma ⊢
              rw [← hvb0] at hvb hlb hfb hmb ⊢
              have hfk := Hfk.out
              rw [← hma, ← hmb] at hfk
              have hS := ref_same17 A5 A6 va vb c5 c6 w6 hva hvb (by omega)
              have hx6 := Ext.tr hxs (Ext.tr hxd (Ext.tr hb5 hb6))
              clear Hfk hva0 hvb0 hma hmb ho5 ho6 hl hm hb5 hb6 hxd hxp
              cases hdf : Spl.diffs (m.map EnV.x) p.x with
              | true =>
                have hsm := hfk.1 hdf
                rw [hsm] at hS
                have HS := Lib.hid hS
                clear hS hsm hdf hfk
                go_wp2_with fail
                refine HS.out.mono ?_
                clear HS
                rintro e w7 ⟨rfl, hb7⟩
                go_wp2_with fail
                go_roundw
                case rel => exact ⟨k + 1, by omega, by go_num, Ext.tr hx6 hb7⟩
                case measure => simp [intOf]; omega
              | false =>
                have hdg := hfk.2 hdf
                cases hsm : Ent.sameL (va.map EnV.x) (vb.map EnV.x) with
                | true =>
                  rw [hsm] at hS
                  have HS := Lib.hid hS
                  clear hS hsm hdf hfk hdg
                  go_wp2_with fail
                  refine HS.out.mono ?_
                  clear HS
                  rintro e w7 ⟨rfl, hb7⟩
                  go_wp2_with fail
                  go_roundw
                  case rel => exact ⟨k + 1, by omega, by go_num, Ext.tr hx6 hb7⟩
                  case measure => simp [intOf]; omega
                | false =>
                  rw [hsm] at hS
                  have HS := Lib.hid hS
                  have Hdg := Lib.hid hdg
                  clear hS hsm hdf hfk hdg
                  go_wp2_with fail
                  refine HS.out.mono ?_
                  clear HS
                  rintro e w7 ⟨rfl, hb7⟩
                  have hG := ref_edigest A5 va c5 w7 (hva.below hb7) (by omega) hfa.total hfa.putAll
                  have HG := Lib.hid hG
                  clear hG
                  go_wp2_with fail
                  refine HG.out.mono ?_
                  clear HG
                  rintro e w8 ⟨rfl, hb8⟩
                  have hG := ref_edigest A6 vb c6 w8 ((hvb.below hb7).below hb8) (by omega) hfb.total hfb.putAll
                  rw [← Hdg.out] at hG
                  have HG := Lib.hid hG
                  clear hG
                  go_wp2_with fail
                  refine HG.out.mono ?_
                  clear HG
                  rintro e w9 ⟨rfl, hb9⟩
                  have hrun := eqArr30 (Ent.digest (va.map EnV.x)) (Ent.digest (va.map EnV.x)) w9 (Ent.digest_len _) (Ent.digest_len _)
                  rw [show (Ent.digest (va.map EnV.x) == Ent.digest (va.map EnV.x)) = true by simp] at hrun
                  go_wp2_with fail
                  go_roundw
                  case rel => exact ⟨k + 1, by omega, by go_num, Ext.tr hx6 (Ext.tr hb7 (Ext.tr hb8 hb9))⟩
                  case measure => simp [intOf]; omega
        · go_wp2_with fail
          refine (live18 _).mono ?_
          rintro e wz ⟨rfl, hbz⟩
          go_wp2
          go_ret
          exact ⟨rfl, Ext.tr hx4 (Ext.tr hxr hbz)⟩
end Go.Proofs.Ytiiekdhlcmaabaa
