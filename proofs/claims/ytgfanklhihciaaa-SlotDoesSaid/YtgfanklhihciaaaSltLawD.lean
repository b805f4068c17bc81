
/- Walk of SlotDoes (scowlaw06). Printed by wip/tools/gen_sltdoes06.py. -/

import Derived.Test.YtgfanklhihciaaaSltDoes

import Derived.Test.YtgfanklhihciaaaSltAlike

namespace Go.Proofs.Ytgfanklhihciaaa

open Go.RowKit

attribute [local go_sem] Oper.semAt_some

set_option maxRecDepth 100000 in
set_option maxHeartbeats 4000000 in
theorem walkSlotDoes (w : World) (A : Option Addr) (l : List DeV) (c : Nat) (hA : RdD w A l) (hc : l.length ≤ c) :
    Calls Try.prog 3 #[.slice A l.length c] w fun e w' => e = .returned (.bool true) ∧ Below w.heap.size w w' := by
  go_enter Try.func3, Try.ntmps3
  go_wp2_with fail
  refine (small06 A l c w hA hc).mono ?_
  rintro e0 w0 ⟨bo, rfl, hsm, rfl⟩
  cases bo
  · go_wp2_with fail
    refine (live06 _).mono ?_
    rintro e1 w1 ⟨rfl, hx1⟩
    go_wp2_with fail
    go_ret
    exact ⟨rfl, hx1⟩
  have Sm := Lib.hid (hsm rfl)
  have hl120 := Sm.out.1
  clear hsm
  go_wp2_with fail
  refine (snew_any w).mono ?_
  rintro e1 w1 ⟨rfl, hB1, hx1⟩
  have hS1 : SAt w1 w.heap.size _ SBody.new := ⟨hB1, Rel.new, SBody.new_inv⟩
  obtain ⟨b1, hb1⟩ : ∃ b1, b1 = (zeros 243).set 1 243 := ⟨_, rfl⟩
  rw [← hb1] at hS1
  obtain ⟨gs, hgs⟩ : ∃ g, g = w.heap.size := ⟨_, rfl⟩
  rw [← hgs] at hS1 ⊢
  have Hgs := Lib.hid hgs
  clear hgs hB1 hb1
  go_wp2_with fail
  refine (ref_snew w1).mono ?_
  rintro e2 w2 ⟨rfl, hM2, hx2⟩
  have hgl := lt_of_heap hS1.bb.row
  obtain ⟨gm, hgm⟩ : ∃ g, g = w1.heap.size := ⟨_, rfl⟩
  rw [← hgm] at hM2 ⊢
  have hlt : gs < gm := by omega
  have hS2 := hS1.ext hx2
  have hE2 := Ext.tr hx1 hx2
  clear hgm hgl hS1 hx1 hx2
  go_wp2_with fail
  go_loopw [5] (fun i wr => ∃ (k : Nat) (b : List UInt8) (m : SBody) (A : Option Addr) (c : Nat) (L : List ScV), k ≤ l.length ∧ i = .int .i64 k ∧ SAt wr gs b m ∧ MAt wr gm A c L m ∧ Ext w wr) (fun i _ => l.length - (intOf i).toNat)
  case atStart => exact ⟨0, b1, SBody.new, none, 0, [], by omega, rfl, hS2, hM2, hE2⟩
  case round =>
    clear hS2 hM2 hE2
    obtain ⟨k, b, m, A3, c3, L3, hk, rfl, hS, hM, hE⟩ := hrel
    by_cases h : k < l.length
    · obtain ⟨ad, hA1, hy, hyi⟩ := (hA.below hE).at_ h
      have hne := RdB.lt (hA.each _ (List.getElem_mem h)).pr
      have hpl := Sm.out.2 _ (List.getElem_mem h)
      have hpr := (hA.each _ (List.getElem_mem h)).pr
      obtain ⟨y, hyl⟩ : ∃ y, l[k] = y := ⟨_, rfl⟩
      rw [hyl] at hy hpl hpr hne
      have ik : (0 : Int) ≤ (k : Int) := by omega
      have ik2 : (k : Int) < (l.length : Int) := by omega
      have hdo := does06 gs b m gm A3 c3 L3 y wr hS hM hlt (hpr.below hE) (fun h1 ad h2 => by have := hne h1 ad h2; have := Hgs.out; omega) hpl
      unfold DeV.val at hdo
      have Hdo := Lib.hid hdo
      have Hcx := Lib.hid hy
      have hkI : (k + 1) ≤ l.length := h
      have hsz : gs ≤ wr.heap.size := by have := lt_of_heap hS.bb.row; omega
      subst hA1
      clear hyi hyl hpl hpr hne hy hS hM hdo
      go_wp2_with (first | (have hcx := Hcx.out; refine wpList_load_cells rfl 32 (.tmp 24) rfl _ rfl y.cells _ hcx Try.underlying32 rfl (dinfo _) ?_; clear hcx) | (go_at_call 11; refine Hdo.out.mono ?_; refine Hid.out ?_))
      rintro e4 w4 ⟨rfl, ⟨b4, m4, A4, c4, L4, hS4, hM4⟩, hb4⟩
      have hE4 : Ext w w4 := Below.trans hE (by have := Hgs.out; rw [← this]; exact hb4)
      have hal := alike06 gs b4 m4 gm A4 c4 L4 w4 hS4 hM4
      have HS4 := Lib.hid hS4
      have HM4 := Lib.hid hM4
      clear hS4 hM4 hb4 hE Hdo Hcx
      refine Lib.hid ?_
      go_wp2_with (go_at_call 12; refine hal.mono ?_; clear hal; rintro e5 w5 ⟨rfl, hx5⟩)
      go_roundw
      case rel => exact ⟨k + 1, b4, m4, A4, c4, L4, by omega, by go_num, HS4.out.ext hx5, HM4.out.ext hx5, Ext.tr hE4 hx5⟩
      case measure => simp [intOf]; omega
    · obtain rfl : k = l.length := by omega
      clear hS hM
      go_wp2_with fail
      refine (live06 _).mono ?_
      rintro e9 w9 ⟨rfl, hx9⟩
      go_wp2_with fail
      go_ret
      exact ⟨rfl, Ext.tr hE hx9⟩
end Go.Proofs.Ytgfanklhihciaaa
