
/- Walk of SignFinds (scowlaw22). Printed by wip/tools/gen_sgnlaws22.py. -/

import Derived.Test.YtnagbhaknmoilaaSgnEq

namespace Go.Proofs.Ytnagbhaknmoilaa

open Go.RowKit

attribute [local go_sem] Oper.semAt_some

set_option maxRecDepth 100000 in
set_option maxHeartbeats 2000000 in
theorem walkSignFinds (w : World) (A : Option Addr) (bs : List UInt8) (cap : Nat) (hA : RdB w A bs) (hc : bs.length ≤ cap) (size : Int) (hsz : (Lit.int .i64 size).wf = true) (B : Option Addr) (S : List Sg) (cS : Nat) (hB : RdG w B S) (hcS : S.length ≤ cS) :
    Calls Try.prog 4 #[.slice A bs.length cap, .int .i64 size, .slice B S.length cS] w fun e w' => e = .returned (.bool true) ∧ Below w.heap.size w w' := by
  obtain ⟨s1, s2⟩ := wf_int hsz
  obtain ⟨L, hL⟩ : ∃ L, L = bs.length := ⟨_, rfl⟩
  obtain ⟨m, hm⟩ : ∃ m, m = S.length := ⟨_, rfl⟩
  rw [← hL] at hc ⊢
  rw [← hm] at hcS ⊢
  have HL := Lib.hid hL
  have Hm := Lib.hid hm
  clear hL hm hsz
  by_cases hbig : 800 < L
  · have hbI : (800 : Int) < (L : Int) := by omega
    go_enter Try.func4, Try.ntmps4
    go_wp2_with (go_at_call 6; refine (live22 _).mono ?_; rintro e1 w1 ⟨rfl, hx1⟩)
    go_ret
    exact ⟨rfl, hx1⟩
  · have hbI : (L : Int) ≤ 800 := by omega
    by_cases hm40 : 40 < m
    · have hmI : (40 : Int) < (m : Int) := by omega
      go_enter Try.func4, Try.ntmps4
      go_wp2_with (go_at_call 6; refine (live22 _).mono ?_; rintro e1 w1 ⟨rfl, hx1⟩)
      go_ret
      exact ⟨rfl, hx1⟩
    · have hmI : (m : Int) ≤ 40 := by omega
      have hx0 : Ext w (w.alloc (.cells #[] 5)) := Ext.alloc _ _
      have hrd0 : Rd (w.alloc (.cells #[] 5)) 1 A L (bvs bs) := by
        have := hA.below hx0
        rw [HL.out]
        exact this
      go_enter Try.func4, Try.ntmps4
      go_wp2_with (first | (refine wpList_app rfl (.tmp 21) (.tmp 22) 22 rfl elemB w.heap.size _ 0 0 [] rfl A L cap (bvs bs) rfl L (by omega) (bvs bs) rfl (Own.none_ _ _ _ _ _) hrd0 (bvs_one _) (by omega) (by omega) hx0.size ?_; intro A2 c2 w2 ho2 hg2 hr2; refine Hid.out ?_))
      have hx2 : Ext w w2 := Ext.tr hx0 (grown_none (by simpa [ownRow] using hg2))
      have hc2 := ho2.nc
      have hrd2 : RdB w2 A2 bs := ho2.rd'
      have ht := find_any A2 c2 bs size B cS S w2 hrd2 (by rw [← HL.out]; exact hc2) (by rw [← HL.out]; omega) (hB.below hx2) (by rw [← Hm.out]; exact hcS) s1 s2
      rw [← HL.out, ← Hm.out] at ht
      clear ho2 hg2 hr2 hrd0 hx0
      refine Lib.hid ?_
      go_wp2_with (first | (go_at_call 13; refine ht.mono ?_; refine Hid.out ?_))
      rintro e3 w3 ⟨A3, c3, rfl, hr3, hx3⟩
      have hx3w := Ext.tr hx2 hx3
      have ht2 := ref_find22 A cap bs size B cS S w3 (hA.below hx3w) (by rw [← HL.out]; exact hc) (by rw [← HL.out]; omega) (hB.below hx3w) s1 s2
      rw [← HL.out, ← Hm.out] at ht2
      clear ht hx2 hrd2 hx3
      refine Lib.hid ?_
      go_wp2_with (first | (go_at_call 14; refine ht2.mono ?_; refine Hid.out ?_))
      rintro e4 w4 ⟨A4, c4, rfl, hr4, hx4⟩
      have hx4w := Ext.tr hx3w hx4
      obtain ⟨R, hR⟩ : ∃ R, R = Sg.findR bs size S := ⟨_, rfl⟩
      have hRl : R.1.length ≤ 1000000 := by
        rw [hR]
        unfold Sg.findR
        split
        · simp
        · split
          · simp
          · simp [Sg.find]; have := Hm.out; omega
      rw [← hR] at hr3 hr4 ⊢
      have hin := ref_ints22 A3 A4 R.1 R.1 c3 c4 w4 (hr3.below hx4) hr4 hRl
      rw [show decide (R.1 = R.1) = true by simp] at hin
      obtain ⟨q, hq⟩ : ∃ q, q = R.1.length := ⟨_, rfl⟩
      rw [← hq] at hin ⊢
      clear hr3 hr4 ht2 hx3w hx4 hR hq hRl
      refine Lib.hid ?_
      go_wp2_with (first | (go_at_call 15; refine hin.mono ?_; clear hin; rintro e5 w5 ⟨rfl, hx5⟩) | (go_at_call 16; refine (num22 _ _).mono ?_; rintro e6 w6 ⟨rfl, rfl⟩) | (go_at_call 6; refine (live22 _).mono ?_; rintro e7 w7 ⟨rfl, hx7⟩))
      go_ret
      exact ⟨rfl, Ext.tr hx4w (Ext.tr hx5 hx7)⟩
end Go.Proofs.Ytnagbhaknmoilaa
