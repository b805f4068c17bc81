
/- The walk of the law SplitCuts. Printed by wip/tools/gen_laws18.py. -/

import Derived.Test.YtiiekdhlcmaabaaSplLive

import Derived.Test.YtiiekdhlcmaabaaSplSplitR

import Derived.Test.YtiiekdhlcmaabaaSplInts

import Derived.Test.YtiiekdhlcmaabaaSplFit

import Derived.Test.YtiiekdhlcmaabaaPartsLaw

namespace Go.Proofs.Ytiiekdhlcmaabaa

open Go.RowKit

attribute [local go_sem] Oper.semAt_some

set_option maxRecDepth 100000 in
set_option maxHeartbeats 4000000 in
theorem walkSplitCuts (w : World) (A : Option Addr) (l : List EnV) (cap : Nat) (hl : RdE w A l) (_hc : l.length ≤ cap) (L : Option Addr) (lo : List UInt8) (cl : Nat) (hL : RdB w L lo) (hcl : lo.length ≤ cl) (H : Option Addr) (hi : List UInt8) (ch : Nat) (hH : RdB w H hi) (hch : hi.length ≤ ch) (ways : Int) (_wf : (Lit.int .i64 ways).wf = true) :
    Calls Try.prog 3 #[.slice A l.length cap, .slice L lo.length cl, .slice H hi.length ch, .int .i64 ways] w fun e w' => e = .returned (.bool true) ∧ Below w.heap.size w w' := by
  have hF := fit18 A l cap w hl
  go_enter Try.func3, Try.ntmps3
  go_wp2_with fail
  refine hF.mono ?_
  clear hF
  rintro e w1 ⟨b, rfl, hb, hb1⟩
  cases b with
  | false =>
    clear hb
    go_wp2_with fail
    refine (live18 _).mono ?_
    rintro e wz ⟨rfl, hbz⟩
    go_wp2
    go_ret
    exact ⟨rfl, Ext.tr hb1 hbz⟩
  | true =>
    obtain ⟨h60, hfit, _⟩ := hb rfl
    clear hb
    by_cases hbig : wrap64 ((lo.length : Int) + (hi.length : Int)) ≤ 8000
    · have hbig' : decide ((8000 : Int) < wrap64 ((lo.length : Int) + (hi.length : Int))) = false := by simp; omega
      have hl1 := hl.below hb1
      have hla := hl1.below (Ext.alloc w1 (.cells #[] 49))
      have hlen : (l.length : Int) ≤ 60 := by omega
      go_wp2_with (at_builtin; refine wpList_app rfl (.tmp 21) (.tmp 22) 22 rfl elemE w1.heap.size _ 0 0 [] rfl A l.length cap (ecs l) rfl l.length (by omega) (ecs l) rfl (Own.none_ _ _ _ _ _) hla.rd (ecs_one_cell l) (by omega) (by omega) (by simp) ?_; intro A3 c3 w3 ho3 hg3 hr3)
      have hb3 : Ext w1 w3 := below_app (Ext.alloc w1 (.cells #[] 49)) (Own.none_ _ _ 49 2 (some ⟨w1.heap.size, 0, none⟩)) hg3 (by simp)
      have hx3 := Ext.tr hb1 hb3
      have hl3 : RdE w3 A3 l := ho3.rdE (hl.below hx3).each
      have hS := split_any A3 l c3 L H lo hi cl ch ways w3 hl3 hfit (hL.below hx3) (hH.below hx3) hcl hch
      have HS := Lib.hid hS
      clear hS hg3 hr3 ho3 hla hbig hbig'
      refine HS.out.mono ?_
      clear HS
      rintro e w4 ⟨A4, c4, T, rfl, hTx, hT, _, hb4⟩
      have hx4 := Ext.tr hx3 hb4
      have hR := ref_split A l cap L H lo hi cl ch ways w4 (hl.below hx4) hfit (hL.below hx4) (hH.below hx4) hcl hch
      have HR := Lib.hid hR
      have HTx := Lib.hid hTx
      clear hR hTx hl3 hl1
      go_wp2_with fail
      refine HR.out.mono ?_
      clear HR
      rintro e w5 ⟨A5, c5, U, rfl, hUx, hU, _, hb5⟩
      have hTU : T.map PtV.x = U.map PtV.x := by rw [HTx.out, hUx]
      have hTl : T.length ≤ 1000000 := by
        have h1 := congrArg List.length HTx.out
        rw [List.length_map] at h1
        unfold Spl.split at h1
        rw [List.length_map, List.length_range] at h1
        have h2 := Spl.k_le (Ent.between (l.map EnV.x) lo hi).length ways
        omega
      have hP := ref_sameParts A4 A5 T U c4 c5 w5 (hT.below hb5) hU hTU hTl
      have HP := Lib.hid hP
      clear hP hTU hUx hTl
      go_wp2_with fail
      refine HP.out.mono ?_
      clear HP
      rintro e w6 ⟨rfl, hb6⟩
      go_wp2_with fail
      refine (live18 _).mono ?_
      rintro e wz ⟨rfl, hbz⟩
      go_wp2
      go_ret
      exact ⟨rfl, Ext.tr hx4 (Ext.tr hb5 (Ext.tr hb6 hbz))⟩
    · have hbig' : decide ((8000 : Int) < wrap64 ((lo.length : Int) + (hi.length : Int))) = true := by simp; omega
      go_wp2_with fail
      refine (live18 _).mono ?_
      rintro e wz ⟨rfl, hbz⟩
      go_wp2
      go_ret
      exact ⟨rfl, Ext.tr hb1 hbz⟩
end Go.Proofs.Ytiiekdhlcmaabaa
