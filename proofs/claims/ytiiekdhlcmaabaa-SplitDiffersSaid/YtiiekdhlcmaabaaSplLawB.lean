
/- The walk of the law SplitDiffers. Printed by wip/tools/gen_laws18.py. -/

import Derived.Test.YtiiekdhlcmaabaaSplLive

import Derived.Test.YtiiekdhlcmaabaaSplDifferR

import Derived.Test.YtiiekdhlcmaabaaSplCoverR

import Derived.Test.YtiiekdhlcmaabaaSplFit

import Derived.Test.YtiiekdhlcmaabaaPartsLaw

namespace Go.Proofs.Ytiiekdhlcmaabaa

open Go.RowKit

attribute [local go_sem] Oper.semAt_some

set_option maxRecDepth 100000 in
set_option maxHeartbeats 4000000 in
theorem walkSplitDiffers (w : World) (A : Option Addr) (l : List EnV) (cap : Nat) (hl : RdE w A l) (_hc : l.length ≤ cap) (L : Option Addr) (lo : List UInt8) (cl : Nat) (hL : RdB w L lo) (_hcl : lo.length ≤ cl) (H : Option Addr) (hi : List UInt8) (ch : Nat) (hH : RdB w H hi) (_hch : hi.length ≤ ch) (B : Option Addr) (T : List PtV) (cp : Nat) (hT : RdP w B T) (_hcp : T.length ≤ cp) :
    Calls Try.prog 4 #[.slice A l.length cap, .slice L lo.length cl, .slice H hi.length ch, .slice B T.length cp] w fun e w' => e = .returned (.bool true) ∧ Below w.heap.size w w' := by
  have hF := fit18 A l cap w hl
  go_enter Try.func4, Try.ntmps4
  go_wp2_with fail
  refine hF.mono ?_
  clear hF
  rintro e w1 ⟨b, rfl, hb, hb1⟩
  cases b with
  | false =>
    clear hb
    go_wp2_with fail
    refine (live18 _).mono ?_
    rintro e wz ⟨rfl, hbz⟩
    go_wp2
    go_ret
    exact ⟨rfl, Ext.tr hb1 hbz⟩
  | true =>
    obtain ⟨h60, hfit, _⟩ := hb rfl
    clear hb
    by_cases hbig : wrap64 ((lo.length : Int) + (hi.length : Int)) ≤ 8000
    · have hbig' : decide ((8000 : Int) < wrap64 ((lo.length : Int) + (hi.length : Int))) = false := by simp; omega
      by_cases hTl : T.length ≤ 60
      · have hTi : ¬ (60 : Int) < (T.length : Int) := by omega
        have hTn : ¬ 60 < T.length := by omega
        go_wp2_with fail
        clear hbig hbig' hTi hTn
        go_loopw [9] (fun i wr => ∃ k : Nat, k ≤ T.length ∧ i = .int .i64 k ∧ Below w.heap.size w wr) (fun i _ => T.length - (intOf i).toNat)
        case atStart => exact ⟨0, by omega, rfl, hb1⟩
        case round =>
          obtain ⟨k, hk, rfl, hbw⟩ := hrel
          by_cases h : k < T.length
          · obtain ⟨ad, rfl, hcx, hin⟩ := (hT.below hbw).at_ h
            have c0 : wr.drew.cell? (ad.add (k * 35)) = some (.slice T[k].la T[k].x.lo.length T[k].lc) := RdP.lo_at hcx
            have c1 : wr.drew.cell? ⟨(ad.add (k * 35)).block, (ad.add (k * 35)).off + 1, none⟩ = some (.slice T[k].ha T[k].x.hi.length T[k].hc) := RdP.hi_at hcx
            have ik : (0 : Int) ≤ (k : Int) := by omega
            have ik2 : (k : Int) < (T.length : Int) := by omega
            have hbd := hbw.trans ((Ext.drew wr).mono hbw.size)
            clear hcx hin
            by_cases hq : IntKind.i64.wrap ((T[k].x.lo.length : Int) + (T[k].x.hi.length : Int)) ≤ 8000
            · have hq' : decide ((8000 : Int) < IntKind.i64.wrap ((T[k].x.lo.length : Int) + (T[k].x.hi.length : Int))) = false := by simp; omega
              have HQ := Lib.hid hq
              clear hq
              go_wp2_with fail
              refine rg_start (by kernel_rfl) ?_
              refine rg_take 0 rfl (by kernel_rfl) (by kernel_rfl) (by kernel_rfl) (fun _ _ _ _ h => h) (by rfl) ⟨_, fun w' hx => by (go_simp <;> with_reducible rfl), ?_⟩
              simp only [Act.put, List.setIfInBounds_toArray, List.set_cons_zero, List.set_cons_succ]
              refine rg_take 1 rfl (by kernel_rfl) (by kernel_rfl) (by kernel_rfl) (fun _ _ _ _ h => h) (by rfl) ⟨_, fun w' hx => by (go_simp <;> with_reducible rfl), ?_⟩
              simp only [Act.put, List.setIfInBounds_toArray, List.set_cons_zero, List.set_cons_succ]
              refine rg_take 2 rfl (by kernel_rfl) (by kernel_rfl) (by kernel_rfl) (fun _ _ _ _ h => h) (by rfl) ⟨_, fun w' hx => by (go_simp <;> with_reducible rfl), ?_⟩   -- t35 := indexAddr 27 t33 t34
              simp only [Act.put, List.setIfInBounds_toArray, List.set_cons_zero, List.set_cons_succ]
              refine rg_take 3 rfl (by kernel_rfl) (by kernel_rfl) (by kernel_rfl) (fun _ _ _ _ h => h) (by rfl) ⟨_, fun w' hx => by (go_simp <;> with_reducible rfl), ?_⟩   -- t36 := fieldAddr 33 t35 0
              simp only [Act.put, List.setIfInBounds_toArray, List.set_cons_zero, List.set_cons_succ]
              refine rg_take 4 rfl (by kernel_rfl) (by kernel_rfl) (by kernel_rfl) (fun _ _ _ _ h => h) (by rfl) ⟨_, fun w' hx => by have hcx := hx.load c0; (go_simp <;> with_reducible rfl), ?_⟩
              simp only [Act.put, List.setIfInBounds_toArray, List.set_cons_zero, List.set_cons_succ]
              refine rg_take 5 rfl (by kernel_rfl) (by kernel_rfl) (by kernel_rfl) (fun _ _ _ _ h => h) (by rfl) ⟨_, fun w' hx => by (go_simp <;> with_reducible rfl), ?_⟩   -- t38 := len(t37)
              simp only [Act.put, List.setIfInBounds_toArray, List.set_cons_zero, List.set_cons_succ]
              refine rg_take 6 rfl (by kernel_rfl) (by kernel_rfl) (by kernel_rfl) (fun _ _ _ _ h => h) (by rfl) ⟨_, fun w' hx => by (go_simp <;> with_reducible rfl), ?_⟩
              simp only [Act.put, List.setIfInBounds_toArray, List.set_cons_zero, List.set_cons_succ]
              refine rg_take 7 rfl (by kernel_rfl) (by kernel_rfl) (by kernel_rfl) (fun _ _ _ _ h => h) (by rfl) ⟨_, fun w' hx => by (go_simp <;> with_reducible rfl), ?_⟩
              simp only [Act.put, List.setIfInBounds_toArray, List.set_cons_zero, List.set_cons_succ]
              refine rg_take 8 rfl (by kernel_rfl) (by kernel_rfl) (by kernel_rfl) (fun _ _ _ _ h => h) (by rfl) ⟨_, fun w' hx => by (go_simp <;> with_reducible rfl), ?_⟩   -- t41 := indexAddr 27 t39 t40
              simp only [Act.put, List.setIfInBounds_toArray, List.set_cons_zero, List.set_cons_succ]
              refine rg_take 9 rfl (by kernel_rfl) (by kernel_rfl) (by kernel_rfl) (fun _ _ _ _ h => h) (by rfl) ⟨_, fun w' hx => by (go_simp <;> with_reducible rfl), ?_⟩   -- t42 := fieldAddr 33 t41 1
              simp only [Act.put, List.setIfInBounds_toArray, List.set_cons_zero, List.set_cons_succ]
              refine rg_take 10 rfl (by kernel_rfl) (by kernel_rfl) (by kernel_rfl) (fun _ _ _ _ h => h) (by rfl) ⟨_, fun w' hx => by have hcx := hx.load c1; (go_simp <;> with_reducible rfl), ?_⟩
              simp only [Act.put, List.setIfInBounds_toArray, List.set_cons_zero, List.set_cons_succ]
              refine rg_take 11 rfl (by kernel_rfl) (by kernel_rfl) (by kernel_rfl) (fun _ _ _ _ h => h) (by rfl) ⟨_, fun w' hx => by (go_simp <;> with_reducible rfl), ?_⟩   -- t44 := len(t43)
              simp only [Act.put, List.setIfInBounds_toArray, List.set_cons_zero, List.set_cons_succ]
              refine rg_take 12 rfl (by kernel_rfl) (by kernel_rfl) (by kernel_rfl) (fun _ _ _ _ h => h) (by rfl) ⟨_, fun w' hx => by (go_simp <;> with_reducible rfl), ?_⟩   -- t45 := binOp add 3 t38 t44 3
              simp only [Act.put, List.setIfInBounds_toArray, List.set_cons_zero, List.set_cons_succ]
              refine rg_take 13 rfl (by kernel_rfl) (by kernel_rfl) (by kernel_rfl) (fun _ _ _ _ h => h) (by rfl) ⟨.bool false, fun w' hx => by (go_simp <;> with_reducible rfl), ?_⟩
              simp only [Act.put, List.setIfInBounds_toArray, List.set_cons_zero, List.set_cons_succ]
              refine rg_done (by kernel_rfl) ?_
              go_wp2
              go_roundw
              case rel => exact ⟨k + 1, by omega, by go_num, hbd⟩
              case measure => simp [intOf]; omega
            · have hq' : decide ((8000 : Int) < IntKind.i64.wrap ((T[k].x.lo.length : Int) + (T[k].x.hi.length : Int))) = true := by simp; omega
              have HQ := Lib.hid hq
              clear hq
              go_wp2_with fail
              refine rg_start (by kernel_rfl) ?_
              refine rg_take 0 rfl (by kernel_rfl) (by kernel_rfl) (by kernel_rfl) (fun _ _ _ _ h => h) (by rfl) ⟨_, fun w' hx => by (go_simp <;> with_reducible rfl), ?_⟩
              simp only [Act.put, List.setIfInBounds_toArray, List.set_cons_zero, List.set_cons_succ]
              refine rg_take 1 rfl (by kernel_rfl) (by kernel_rfl) (by kernel_rfl) (fun _ _ _ _ h => h) (by rfl) ⟨_, fun w' hx => by (go_simp <;> with_reducible rfl), ?_⟩
              simp only [Act.put, List.setIfInBounds_toArray, List.set_cons_zero, List.set_cons_succ]
              refine rg_take 2 rfl (by kernel_rfl) (by kernel_rfl) (by kernel_rfl) (fun _ _ _ _ h => h) (by rfl) ⟨_, fun w' hx => by (go_simp <;> with_reducible rfl), ?_⟩   -- t35 := indexAddr 27 t33 t34
              simp only [Act.put, List.setIfInBounds_toArray, List.set_cons_zero, List.set_cons_succ]
              refine rg_take 3 rfl (by kernel_rfl) (by kernel_rfl) (by kernel_rfl) (fun _ _ _ _ h => h) (by rfl) ⟨_, fun w' hx => by (go_simp <;> with_reducible rfl), ?_⟩   -- t36 := fieldAddr 33 t35 0
              simp only [Act.put, List.setIfInBounds_toArray, List.set_cons_zero, List.set_cons_succ]
              refine rg_take 4 rfl (by kernel_rfl) (by kernel_rfl) (by kernel_rfl) (fun _ _ _ _ h => h) (by rfl) ⟨_, fun w' hx => by have hcx := hx.load c0; (go_simp <;> with_reducible rfl), ?_⟩
              simp only [Act.put, List.setIfInBounds_toArray, List.set_cons_zero, List.set_cons_succ]
              refine rg_take 5 rfl (by kernel_rfl) (by kernel_rfl) (by kernel_rfl) (fun _ _ _ _ h => h) (by rfl) ⟨_, fun w' hx => by (go_simp <;> with_reducible rfl), ?_⟩   -- t38 := len(t37)
              simp only [Act.put, List.setIfInBounds_toArray, List.set_cons_zero, List.set_cons_succ]
              refine rg_take 6 rfl (by kernel_rfl) (by kernel_rfl) (by kernel_rfl) (fun _ _ _ _ h => h) (by rfl) ⟨_, fun w' hx => by (go_simp <;> with_reducible rfl), ?_⟩
              simp only [Act.put, List.setIfInBounds_toArray, List.set_cons_zero, List.set_cons_succ]
              refine rg_take 7 rfl (by kernel_rfl) (by kernel_rfl) (by kernel_rfl) (fun _ _ _ _ h => h) (by rfl) ⟨_, fun w' hx => by (go_simp <;> with_reducible rfl), ?_⟩
              simp only [Act.put, List.setIfInBounds_toArray, List.set_cons_zero, List.set_cons_succ]
              refine rg_take 8 rfl (by kernel_rfl) (by kernel_rfl) (by kernel_rfl) (fun _ _ _ _ h => h) (by rfl) ⟨_, fun w' hx => by (go_simp <;> with_reducible rfl), ?_⟩   -- t41 := indexAddr 27 t39 t40
              simp only [Act.put, List.setIfInBounds_toArray, List.set_cons_zero, List.set_cons_succ]
              refine rg_take 9 rfl (by kernel_rfl) (by kernel_rfl) (by kernel_rfl) (fun _ _ _ _ h => h) (by rfl) ⟨_, fun w' hx => by (go_simp <;> with_reducible rfl), ?_⟩   -- t42 := fieldAddr 33 t41 1
              simp only [Act.put, List.setIfInBounds_toArray, List.set_cons_zero, List.set_cons_succ]
              refine rg_take 10 rfl (by kernel_rfl) (by kernel_rfl) (by kernel_rfl) (fun _ _ _ _ h => h) (by rfl) ⟨_, fun w' hx => by have hcx := hx.load c1; (go_simp <;> with_reducible rfl), ?_⟩
              simp only [Act.put, List.setIfInBounds_toArray, List.set_cons_zero, List.set_cons_succ]
              refine rg_take 11 rfl (by kernel_rfl) (by kernel_rfl) (by kernel_rfl) (fun _ _ _ _ h => h) (by rfl) ⟨_, fun w' hx => by (go_simp <;> with_reducible rfl), ?_⟩   -- t44 := len(t43)
              simp only [Act.put, List.setIfInBounds_toArray, List.set_cons_zero, List.set_cons_succ]
              refine rg_take 12 rfl (by kernel_rfl) (by kernel_rfl) (by kernel_rfl) (fun _ _ _ _ h => h) (by rfl) ⟨_, fun w' hx => by (go_simp <;> with_reducible rfl), ?_⟩   -- t45 := binOp add 3 t38 t44 3
              simp only [Act.put, List.setIfInBounds_toArray, List.set_cons_zero, List.set_cons_succ]
              refine rg_take 13 rfl (by kernel_rfl) (by kernel_rfl) (by kernel_rfl) (fun _ _ _ _ h => h) (by rfl) ⟨.bool true, fun w' hx => by (go_simp <;> with_reducible rfl), ?_⟩
              simp only [Act.put, List.setIfInBounds_toArray, List.set_cons_zero, List.set_cons_succ]
              refine rg_done (by kernel_rfl) ?_
              go_wp2_with fail
              refine (live18 _).mono ?_
              rintro e wz ⟨rfl, hbz⟩
              go_wp2
              go_ret
              exact ⟨rfl, hbd.trans (hbz.mono hbd.size)⟩
          · have hl1 := hl.below hbw
            have hT1 := hT.below hbw
            have hTa := hT1.below (Ext.alloc wr (.cells #[] 33))
            have hTi : (T.length : Int) ≤ 60 := by omega
            clear hb1
            go_wp2_with (at_builtin; refine wpList_app rfl (.tmp 49) (.tmp 50) 27 rfl elemP wr.heap.size _ 0 0 [] rfl B T.length cp (pcs T) rfl T.length (by omega) (pcs T) rfl (Own.none_ _ _ _ _ _) hTa.rd pcs_one (by omega) (by omega) (by simp) ?_; intro A3 c3 w3 ho3 hg3 hr3)
            have hb3 : Ext wr w3 := below_app (Ext.alloc wr (.cells #[] 33)) (Own.none_ _ _ 33 35 (some ⟨wr.heap.size, 0, none⟩)) hg3 (by simp)
            have hx3 : Ext w w3 := hbw.trans (hb3.mono hbw.size)
            have hT3 : RdP w3 A3 T := ⟨ho3.rd, (hT.below hx3).each⟩
            have hS := differ_any A A3 l T cap c3 w3 (hl.below hx3) hfit hT3 (by omega)
            have HS := Lib.hid hS
            clear hS hg3 hr3 ho3 hTa
            refine HS.out.mono ?_
            clear HS
            rintro e w4 ⟨A4, c4, rfl, hR4, hb4⟩
            have hx4 := Ext.tr hx3 hb4
            have hR := ref_differ A B l T cap cp w4 (hl.below hx4) hfit (hT.below hx4) (by omega)
            have HR := Lib.hid hR
            have hdl := Spl.differ_len (l.map EnV.x) (T.map PtV.x) (T.map PtV.x).length
            rw [List.length_map] at hdl
            have hdl2 : (Spl.differ (l.map EnV.x) (T.map PtV.x)).length ≤ T.length := by unfold Spl.differ; rw [List.length_map]; exact hdl
            obtain ⟨D, hD⟩ : ∃ D, D = Spl.differ (l.map EnV.x) (T.map PtV.x) := ⟨_, rfl⟩
            rw [← hD] at hR4 HR hdl2 ⊢
            clear hR hD hdl hT3 hl1 hT1
            go_wp2_with fail
            refine HR.out.mono ?_
            clear HR
            rintro e w5 ⟨A5, c5, rfl, hR5, hb5⟩
            have hI := ref_ints18 A4 A5 D c4 c5 w5 (Rd.below hR4 hb5) hR5 (by omega)
            have HI := Lib.hid hI
            have hx5 := Ext.tr hx4 hb5
            clear hI hR4 hR5
            go_wp2_with fail
            refine HI.out.mono ?_
            clear HI
            rintro e w6 ⟨rfl, hb6⟩
            have hx6 := Ext.tr hx5 hb6
            have hC := cover_any L H B lo hi cl ch T cp w6 (hL.below hx6) (hH.below hx6) (hT.below hx6) (by omega)
            have HC := Lib.hid hC
            clear hC
            go_wp2_with fail
            refine HC.out.mono ?_
            clear HC
            rintro e w7 ⟨b1, rfl, hi1, hb7⟩
            have hx7 := Ext.tr hx6 hb7
            have hC := ref_cover L H B lo hi cl ch T cp w7 (hL.below hx7) (hH.below hx7) (hT.below hx7) (by omega)
            have HC := Lib.hid hC
            have HI1 := Lib.hid hi1
            clear hC hi1
            go_wp2_with fail
            refine HC.out.mono ?_
            clear HC
            rintro e w8 ⟨b2, rfl, hi2, hb8⟩
            have hx8 := Ext.tr hx7 hb8
            obtain rfl : b1 = b2 := by rw [Bool.eq_iff_iff]; exact HI1.out.trans hi2.symm
            clear hi2 HI1
            cases b1 with
            | false =>
              go_wp2_with fail
              refine (live18 _).mono ?_
              rintro e wz ⟨rfl, hbz⟩
              go_wp2
              go_ret
              exact ⟨rfl, Ext.tr hx8 hbz⟩
            | true =>
              go_wp2_with fail
              refine (live18 _).mono ?_
              rintro e wz ⟨rfl, hbz⟩
              go_wp2
              go_ret
              exact ⟨rfl, Ext.tr hx8 hbz⟩
      · have hTi : (60 : Int) < (T.length : Int) := by omega
        have hTn : 60 < T.length := by omega
        go_wp2_with fail
        refine (live18 _).mono ?_
        rintro e wz ⟨rfl, hbz⟩
        go_wp2
        go_ret
        exact ⟨rfl, Ext.tr hb1 hbz⟩
    · have hbig' : decide ((8000 : Int) < wrap64 ((lo.length : Int) + (hi.length : Int))) = true := by simp; omega
      go_wp2_with fail
      refine (live18 _).mono ?_
      rintro e wz ⟨rfl, hbz⟩
      go_wp2
      go_ret
      exact ⟨rfl, Ext.tr hb1 hbz⟩
end Go.Proofs.Ytiiekdhlcmaabaa
