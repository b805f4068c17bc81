
/- Walks of laws of layer 20: OpsDiff. Printed by wip/tools/gen_oplaws20.py. -/

import Derived.Test.YtdekdblebflklaaOpLive

import Derived.Test.YtdekdblebflklaaOpRight

import Derived.Test.YtdekdblebflklaaOpRDiff

namespace Go.Proofs.Ytdekdblebflklaa

open Go.RowKit

attribute [local go_sem] Oper.semAt_some

set_option maxRecDepth 100000 in
set_option maxHeartbeats 4000000 in
theorem walkOpsDiff (w : World) (A : Option Addr) (h : List EnV) (k : Nat) (hA : RdE w A h) (_ck : h.length ≤ k) (B : Option Addr) (l : List EnV) (m : Nat) (hB : RdE w B l) (_cm : l.length ≤ m) (C : Option Addr) (o : List OpV) (n : Nat) (hC : RdO w C o) (_cn : o.length ≤ n) :
    Calls Try.prog 3 #[.slice A h.length k, .slice B l.length m, .slice C o.length n] w fun e w' => e = .returned (.bool true) ∧ Below w.heap.size w w' := by
  go_enter Try.func3, Try.ntmps3
  go_wp2_with fail
  refine (fit20 A h k _ (hA.below (Ext.refl w))).mono ?_
  rintro e1 w1 ⟨b1, rfl, hf1, hb1⟩
  have hE1 : Ext w w1 := Ext.tr (Ext.refl w) hb1
  rcases b1 with _ | _
  · go_wp2_with fail
    refine (live20 _).mono ?_
    rintro e2 w2 ⟨rfl, hb2⟩
    go_wp2_with fail
    go_ret
    exact ⟨rfl, Ext.tr hE1 hb2⟩
  have fit_h : FitE h := hf1 rfl
  clear hf1
  have Fit_h := Lib.hid fit_h
  have fl_h := fit_h.1
  have Up_h := Lib.hid fit_h.2.upK
  clear fit_h
  go_wp2_with fail
  refine (fit20 B l m _ (hB.below hE1)).mono ?_
  rintro e2 w2 ⟨b2, rfl, hf2, hb2⟩
  have hE2 : Ext w w2 := Ext.tr hE1 hb2
  rcases b2 with _ | _
  · go_wp2_with fail
    refine (live20 _).mono ?_
    rintro e3 w3 ⟨rfl, hb3⟩
    go_wp2_with fail
    go_ret
    exact ⟨rfl, Ext.tr hE2 hb3⟩
  have fit_l : FitE l := hf2 rfl
  clear hf2
  have Fit_l := Lib.hid fit_l
  have fl_l := fit_l.1
  have Up_l := Lib.hid fit_l.2.upK
  clear fit_l
  go_wp2_with fail
  refine (small20 C o n _ (hC.below hE2)).mono ?_
  rintro e3 w3 ⟨b3, rfl, hf3, hb3⟩
  have hE3 : Ext w w3 := Ext.tr hE2 hb3
  rcases b3 with _ | _
  · go_wp2_with fail
    refine (live20 _).mono ?_
    rintro e4 w4 ⟨rfl, hb4⟩
    go_wp2_with fail
    go_ret
    exact ⟨rfl, Ext.tr hE3 hb4⟩
  have sm_o : SmallO o := hf3 rfl
  clear hf3
  have Sm_o := Lib.hid sm_o
  have sl_o := sm_o.1
  go_wp2_with fail
  refine (ref_right C o n _ (hC.below hE3) (by omega) (fun e he => by have := (Sm_o.out.2 e he).1; omega)).mono ?_
  rintro e4 w4 ⟨b4, rfl, hf4, hb4⟩
  have hE4 : Ext w w4 := Ext.tr hE3 hb4
  rcases b4 with _ | _
  · go_wp2_with fail
    refine (live20 _).mono ?_
    rintro e5 w5 ⟨rfl, hb5⟩
    go_wp2_with fail
    go_ret
    exact ⟨rfl, Ext.tr hE4 hb5⟩
  have Rt_o := Lib.hid (hf4.1 rfl)
  clear hf4
  go_wp2_with fail
  refine (diff_any A h k B l m _ (hA.below hE4) (hB.below hE4) _ck _cm (by omega) (by omega)).mono ?_
  rintro e5 w5 ⟨A1, D1, c1, rfl, hd1, hr1, _, _, hl1, hb5⟩
  have hE5 : Ext w w5 := Ext.tr hE4 hb5
  have hr1 := Lib.hid hr1
  go_wp2_with fail
  refine (ref_odiff A h k B l m _ (hA.below hE5) (hB.below hE5) (by omega) (by omega) Fit_h.out.2 Fit_l.out.2).mono ?_
  rintro e6 w6 ⟨A2, D2, c2, rfl, hd2, hr2, _, hl2, hb6⟩
  have hE6 : Ext w w6 := Ext.tr hE5 hb6
  have hsame := ref_osame A1 A2 D1 D2 c1 c2 _ (hr1.out.below hb6) hr2 (by omega)
  rw [hd1, hd2, decide_eq_true (rfl : Opn.diff (h.map EnV.x) (l.map EnV.x) = _)] at hsame
  go_wp2_with fail
  refine (hsame).mono ?_
  rintro e7 w7 ⟨rfl, hb7⟩
  have hE7 : Ext w w7 := Ext.tr hE6 hb7
  have hC0 := hC.below hE7
  clear hsame hd1 hd2 hr1 hr2
  have hCx := hC0.rd.below (Ext.alloc w7 (.cells #[] 50))
  go_wp2_with (refine wpList_app (by rfl) (.tmp 35) (.tmp 36) 23 rfl elemO w7.heap.size _ 0 0 [] rfl C o.length n (ocs o) rfl o.length (by omega) (ocs o) rfl (Own.none_ _ _ _ _ _) hCx (ocs_one_cell _) (by omega) (by omega) (by rw [World.size_alloc]; omega) ?_; intro A4 c4 w8 ho4 hg4 hr4; refine Hid.out ?_)
  have hb8 : Ext w7 w8 := Ext.tr (Ext.alloc _ _) (grown_none (by simpa [ownRow] using hg4))
  have hE8 : Ext w w8 := Ext.tr hE7 hb8
  have hO4 : RdO w8 A4 o := ⟨ho4.rd, fun e he => (hC.each e he).below hE8⟩
  clear ho4 hg4 hr4 hCx hC0
  refine Lib.hid ?_
  go_wp2_with fail
  refine (apply_any A h k A4 o c4 _ (hA.below hE8) hO4 Up_h.out (by omega) (by omega)).mono ?_
  rintro e9 w9 ⟨A5, L5, c5, rfl, hx5, _, hl5, hr5, _, _, hb9⟩
  have hE9 : Ext w w9 := Ext.tr hE8 hb9
  go_wp2_with fail
  refine (ref_apply A h k C o n _ (hA.below hE9) (hC.below hE9) _ck (by omega) (by omega) Rt_o.out).mono ?_
  rintro e10 w10 ⟨L6, A6, c6, rfl, hx6, hr6, _, hl6, hb10⟩
  have hE10 : Ext w w10 := Ext.tr hE9 hb10
  have hsame := ref_same17 A5 A6 L5 L6 c5 c6 _ (hr5.below hb10) hr6 (by omega)
  rw [hx5, hx6, Ent.sameL_refl] at hsame
  go_wp2_with fail
  refine (hsame).mono ?_
  rintro e11 w11 ⟨rfl, hb11⟩
  have hE11 : Ext w w11 := Ext.tr hE10 hb11
  clear hsame hx5 hx6 hr5 hr6
  go_wp2_with fail
  refine (live20 _).mono ?_
  rintro e12 w12 ⟨rfl, hb12⟩
  have hE12 : Ext w w12 := Ext.tr hE11 hb12
  go_wp2_with fail
  go_ret
  exact ⟨rfl, hE12⟩
end Go.Proofs.Ytdekdblebflklaa
