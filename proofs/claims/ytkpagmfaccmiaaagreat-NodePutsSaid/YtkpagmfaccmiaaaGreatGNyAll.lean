
/- Texts laid together by wip/tools/lay2.py: NyB NyC NyD NyA NyE NyF. -/

import Derived.Test.YtkpagmfaccmiaaaGreatGNdAllA

import Derived.Test.YtkpagmfaccmiaaaGreatGNdAllB

import Derived.Test.YtkpagmfaccmiaaaGreatCellPut2

import Derived.Test.YtkpagmfaccmiaaaGreatGSltRAll

import Derived.Test.YtkpagmfaccmiaaaGreatVintRefN

import Derived.Test.YtkpagmfaccmiaaaGreatConst

import Derived.Test.YtkpagmfaccmiaaaGreatMem2

import Derived.Test.YtkpagmfaccmiaaaGreatReg3

import Derived.Test.YtkpagmfaccmiaaaGreatReg7

import Derived.Test.YtkpagmfaccmiaaaGreatStrCmp

import Derived.WalkLawsBesides

import Derived.Test.YtkpagmfaccmiaaaGreatGPgAll

set_option linter.unusedVariables false

/- Contracts: scowref08.put, Used, filled (layer 08). Printed by wip/tools/gen_nyb08.py. -/

namespace Go.Proofs.YtkpagmfaccmiaaaGreat

open Go.RowKit

attribute [local go_sem] Oper.semAt_some

set_option maxRecDepth 100000 in
set_option maxHeartbeats 1000000 in
theorem rput_any (k : Int) (c : CellV) (w : World) (hc : c.In w) : Calls Tryz.prog 22 #[.int .i64 k, .agg c.cells] w fun e w' => ∃ A' c', e = .returned (.tuple #[.slice A' (c.x.put k).1.length c', .int .i64 ((c.x.put k).2 : Int)]) ∧ Own w' w.heap.size 5 1 A' (c.x.put k).1.length c' (bvs (c.x.put k).1) ∧ Ext w w' := by
  have hx := Ext.alloc w (.cells c.cells 43)
  have g0 := heap_alloc_new w (.cells c.cells 43)
  have hi := cinfo c
  have Hx := Lib.hid hx
  by_cases h3 : k = 3
  · have hp := ref_putLeaf c _ (hc.ext hx)
    rw [show c.val = .agg c.cells from rfl] at hp
    rw [show c.x.put k = c.x.putL by unfold Cl.put; rw [if_pos h3]]
    have k3 : (k == 3) = true := by rw [beq_iff_eq]; exact h3
    have Hp := Lib.hid hp
    clear h3 hp hx
    go_enter Tryz.func22, Tryz.ntmps22
    go_wp2_with (first | (refine wpList_load_rowG (by rfl) 43 (.tmp 3) rfl w.heap.size rfl 43 c.cells (0, 0) _ g0 Tryz.underlying43 rfl hi ?_) | (go_at_call 59; refine Hp.out.mono ?_; rintro e1 w1 ⟨A1, c1, rfl, ho1, hx1⟩; have Ho1 := Lib.hid ho1; have Hx1 : Hid (Ext _ w1) := Lib.hid hx1; clear ho1 hx1))
    go_ret2
    exact ⟨A1, c1, rfl, Ho1.out.mono Hx.out.size, Hx.out.tr Hx1.out⟩
  · have hp := ref_putInner c _ (hc.ext hx)
    rw [show c.val = .agg c.cells from rfl] at hp
    rw [show c.x.put k = c.x.putI by unfold Cl.put; rw [if_neg h3]]
    have k3 : (k == 3) = false := by rw [beq_eq_false_iff_ne]; exact h3
    have Hp := Lib.hid hp
    clear h3 hp hx
    go_enter Tryz.func22, Tryz.ntmps22
    go_wp2_with (first | (refine wpList_load_rowG (by rfl) 43 (.tmp 3) rfl w.heap.size rfl 43 c.cells (0, 0) _ g0 Tryz.underlying43 rfl hi ?_) | (go_at_call 60; refine Hp.out.mono ?_; rintro e1 w1 ⟨A1, c1, rfl, ho1, hx1⟩; have Ho1 := Lib.hid ho1; have Hx1 : Hid (Ext _ w1) := Lib.hid hx1; clear ho1 hx1))
    go_ret2
    exact ⟨A1, c1, rfl, Ho1.out.mono Hx.out.size, Hx.out.tr Hx1.out⟩

set_option maxRecDepth 100000 in
theorem rused_no (k : Int) (A : Option Addr) (l : List CellV) (c : Nat) (w : World) (h : Nd.hasC k = false) : Calls Tryz.prog 9 #[.int .i64 k, .slice A l.length c] w fun e w' => e = .returned (.tuple #[.int .i64 0, .int .i64 80]) ∧ Ext w w' := by
  have h2 : k ≠ 3 ∧ k ≠ 2 := by unfold Nd.hasC at h; simpa using h
  have n3 : (k != 3) = true := by rw [bne_iff_ne]; exact h2.1
  have n2 : (k != 2) = true := by rw [bne_iff_ne]; exact h2.2
  clear h h2
  go_enter Tryz.func9, Tryz.ntmps9
  go_wp2_with fail
  go_ret2
  exact ⟨rfl, Ext.refl _⟩


set_option maxRecDepth 100000 in
set_option maxHeartbeats 2000000 in
theorem rused_3 (A : Option Addr) (l : List CellV) (c : Nat) (w : World) (hA : RdC w A l) (hl : l.length ≤ 1000000) : Calls Tryz.prog 9 #[.int .i64 3, .slice A l.length c] w fun e w' => e = .returned (.tuple #[.int .i64 ((Nd.used 3 (l.map CellV.x)).1 : Int), .int .i64 ((Nd.used 3 (l.map CellV.x)).2 : Int)]) ∧ Ext w w' := by
  have hbad : ∀ j (h : j < l.length), (l[j].x.put 3).2 ≠ 0 → Nd.used 3 (l.map CellV.x) = (0, 80) := by
    intro j h e
    unfold Nd.used
    rw [if_neg]
    rintro ⟨_, h2⟩
    rw [List.all_eq_true] at h2
    exact e (of_decide_eq_true (h2 l[j].x (List.mem_map.2 ⟨l[j], List.getElem_mem h, rfl⟩)))
  have hgood : (∀ j (h : j < l.length), (l[j].x.put 3).2 = 0) → Nd.used 3 (l.map CellV.x) = (Nd.need 3 (l.map CellV.x), 0) := by
    intro h
    unfold Nd.used
    rw [if_pos]
    refine ⟨rfl, ?_⟩
    rw [List.all_eq_true]
    intro x hx
    obtain ⟨y, hy, rfl⟩ := List.mem_map.1 hx
    obtain ⟨j, hj, rfl⟩ := List.getElem_of_mem hy
    exact decide_eq_true (h j hj)
  obtain ⟨R, hR⟩ : ∃ R, R = Nd.used 3 (l.map CellV.x) := ⟨_, rfl⟩
  rw [← hR] at hbad hgood ⊢
  clear hR
  have Hbad := Lib.hid hbad
  have Hgood := Lib.hid hgood
  clear hbad hgood
  go_enter Tryz.func9, Tryz.ntmps9
  go_wp2_with fail
  go_loopw [6, 7] (fun a i wr => ∃ k : Nat, k ≤ l.length ∧ i = .int .i64 k ∧ a = .int .i64 (Nd.need 3 ((l.take k).map CellV.x) : Nat) ∧ (∀ j (h : j < l.length), j < k → (l[j].x.put 3).2 = 0) ∧ Ext w wr) (fun _ i _ => l.length - (intOf i).toNat)
  case atStart => exact ⟨0, by omega, rfl, rfl, fun j _ h => absurd h (by omega), Ext.refl _⟩
  case round =>
    obtain ⟨k, hk, rfl, rfl, hno, hbw⟩ := hrel
    have Hno := Lib.hid hno
    have Hbw := Lib.hid hbw
    clear hno hbw
    by_cases h : k < l.length
    · obtain ⟨ad, rfl, hcell, hin⟩ := (hA.below Hbw.out).at_ h
      have ik : (0 : Int) ≤ (k : Int) := by omega
      have ik2 : (k : Int) < (l.length : Int) := by omega
      have hi := cinfo l[k]
      have hp := rput_any 3 l[k] wr hin
      have Hcx := Lib.hid hcell
      have hnt := need_take 3 l k h
      have hnl := need_le 3 ((l.take k).map CellV.x)
      rw [List.length_map, List.length_take, Nat.min_eq_left hk] at hnl
      have hpl : (l[k].x.put 3).1.length ≤ 78 := put_len 3 l[k].x
      obtain ⟨v, hv⟩ : ∃ v, v = Nd.need 3 ((l.take k).map CellV.x) := ⟨_, rfl⟩
      rw [← hv] at hnt hnl ⊢
      have Hbd := Lib.hid (Hbad.out k h)
      have Hn0 : (l[k].x.put 3).2 = 0 → Hid (∀ j (h : j < l.length), j < k + 1 → (l[j].x.put 3).2 = 0) := by
        intro hf
        show ∀ j (h : j < l.length), j < k + 1 → (l[j].x.put 3).2 = 0
        intro j hj hjk
        by_cases e : j = k
        · subst e; exact hf
        · exact Hno.out j hj (by omega)
      obtain ⟨P, hP⟩ : ∃ P, P = l[k] := ⟨_, rfl⟩
      rw [← hP] at hi hp Hcx hnt hpl Hbd Hn0
      obtain ⟨q, hq⟩ : ∃ q, q = P.x.put 3 := ⟨_, rfl⟩
      rw [← hq] at hp hnt hpl Hbd Hn0
      obtain ⟨q1, q2⟩ := q
      simp only at hp hnt hpl Hbd Hn0
      have Hp := Lib.hid hp
      have Hnt := Lib.hid hnt
      have w1 : IntKind.i64.wrap ((v : Int) + 2) = (v : Int) + 2 := by rw [IntKind.wrap_i64]; omega
      have w2 : IntKind.i64.wrap ((v : Int) + 2 + (q1.length : Int)) = (v : Int) + 2 + (q1.length : Int) := by rw [IntKind.wrap_i64]; omega
      clear hv hP hq hcell hin hp hnt
      by_cases hz : q2 = 0
      · have Hn1 := Hn0 hz
        subst hz
        go_wp2_with (first | (have hcx := Hcx.out; refine wpList_load_cells rfl 43 (.tmp 26) rfl _ rfl P.cells _ hcx Tryz.underlying43 rfl hi ?_; clear hcx) | (go_at_call 22; refine Hp.out.mono ?_; rintro e2 w2 ⟨A', c', rfl, ho, hx2⟩; have Hx2 := Lib.hid hx2; clear hx2 ho))
        go_roundw
        case rel => exact ⟨k + 1, by omega, by go_num, by rw [Hnt.out]; push_cast; go_num, Hn1.out, Hbw.out.tr Hx2.out⟩
        case measure => simp [intOf]; omega
      · have hz2 : ((q2 : Int) != 0) = true := by rw [bne_iff_ne]; omega
        have HR := Lib.hid (Hbd.out hz)
        clear hz
        go_wp2_with (first | (have hcx := Hcx.out; refine wpList_load_cells rfl 43 (.tmp 26) rfl _ rfl P.cells _ hcx Tryz.underlying43 rfl hi ?_; clear hcx) | (go_at_call 22; refine Hp.out.mono ?_; rintro e2 w2 ⟨A', c', rfl, ho, hx2⟩; have Hx2 := Lib.hid hx2; clear hx2 ho))
        go_ret2
        exact ⟨by rw [HR.out]; rfl, Hbw.out.tr Hx2.out⟩
    · obtain rfl : k = l.length := by omega
      rw [List.take_of_length_le (Nat.le_refl _)]
      have HR := Lib.hid (Hgood.out fun j hj => Hno.out j hj hj)
      go_wp2_with fail
      go_ret2
      exact ⟨by rw [HR.out]; rfl, Hbw.out⟩


set_option maxRecDepth 100000 in
set_option maxHeartbeats 2000000 in
theorem rused_2 (A : Option Addr) (l : List CellV) (c : Nat) (w : World) (hA : RdC w A l) (hl : l.length ≤ 1000000) : Calls Tryz.prog 9 #[.int .i64 2, .slice A l.length c] w fun e w' => e = .returned (.tuple #[.int .i64 ((Nd.used 2 (l.map CellV.x)).1 : Int), .int .i64 ((Nd.used 2 (l.map CellV.x)).2 : Int)]) ∧ Ext w w' := by
  have hbad : ∀ j (h : j < l.length), (l[j].x.put 2).2 ≠ 0 → Nd.used 2 (l.map CellV.x) = (0, 80) := by
    intro j h e
    unfold Nd.used
    rw [if_neg]
    rintro ⟨_, h2⟩
    rw [List.all_eq_true] at h2
    exact e (of_decide_eq_true (h2 l[j].x (List.mem_map.2 ⟨l[j], List.getElem_mem h, rfl⟩)))
  have hgood : (∀ j (h : j < l.length), (l[j].x.put 2).2 = 0) → Nd.used 2 (l.map CellV.x) = (Nd.need 2 (l.map CellV.x), 0) := by
    intro h
    unfold Nd.used
    rw [if_pos]
    refine ⟨rfl, ?_⟩
    rw [List.all_eq_true]
    intro x hx
    obtain ⟨y, hy, rfl⟩ := List.mem_map.1 hx
    obtain ⟨j, hj, rfl⟩ := List.getElem_of_mem hy
    exact decide_eq_true (h j hj)
  obtain ⟨R, hR⟩ : ∃ R, R = Nd.used 2 (l.map CellV.x) := ⟨_, rfl⟩
  rw [← hR] at hbad hgood ⊢
  clear hR
  have Hbad := Lib.hid hbad
  have Hgood := Lib.hid hgood
  clear hbad hgood
  go_enter Tryz.func9, Tryz.ntmps9
  go_wp2_with fail
  go_loopw [6, 7] (fun a i wr => ∃ k : Nat, k ≤ l.length ∧ i = .int .i64 k ∧ a = .int .i64 (Nd.need 2 ((l.take k).map CellV.x) : Nat) ∧ (∀ j (h : j < l.length), j < k → (l[j].x.put 2).2 = 0) ∧ Ext w wr) (fun _ i _ => l.length - (intOf i).toNat)
  case atStart => exact ⟨0, by omega, rfl, rfl, fun j _ h => absurd h (by omega), Ext.refl _⟩
  case round =>
    obtain ⟨k, hk, rfl, rfl, hno, hbw⟩ := hrel
    have Hno := Lib.hid hno
    have Hbw := Lib.hid hbw
    clear hno hbw
    by_cases h : k < l.length
    · obtain ⟨ad, rfl, hcell, hin⟩ := (hA.below Hbw.out).at_ h
      have ik : (0 : Int) ≤ (k : Int) := by omega
      have ik2 : (k : Int) < (l.length : Int) := by omega
      have hi := cinfo l[k]
      have hp := rput_any 2 l[k] wr hin
      have Hcx := Lib.hid hcell
      have hnt := need_take 2 l k h
      have hnl := need_le 2 ((l.take k).map CellV.x)
      rw [List.length_map, List.length_take, Nat.min_eq_left hk] at hnl
      have hpl : (l[k].x.put 2).1.length ≤ 78 := put_len 2 l[k].x
      obtain ⟨v, hv⟩ : ∃ v, v = Nd.need 2 ((l.take k).map CellV.x) := ⟨_, rfl⟩
      rw [← hv] at hnt hnl ⊢
      have Hbd := Lib.hid (Hbad.out k h)
      have Hn0 : (l[k].x.put 2).2 = 0 → Hid (∀ j (h : j < l.length), j < k + 1 → (l[j].x.put 2).2 = 0) := by
        intro hf
        show ∀ j (h : j < l.length), j < k + 1 → (l[j].x.put 2).2 = 0
        intro j hj hjk
        by_cases e : j = k
        · subst e; exact hf
        · exact Hno.out j hj (by omega)
      obtain ⟨P, hP⟩ : ∃ P, P = l[k] := ⟨_, rfl⟩
      rw [← hP] at hi hp Hcx hnt hpl Hbd Hn0
      obtain ⟨q, hq⟩ : ∃ q, q = P.x.put 2 := ⟨_, rfl⟩
      rw [← hq] at hp hnt hpl Hbd Hn0
      obtain ⟨q1, q2⟩ := q
      simp only at hp hnt hpl Hbd Hn0
      have Hp := Lib.hid hp
      have Hnt := Lib.hid hnt
      have w1 : IntKind.i64.wrap ((v : Int) + 2) = (v : Int) + 2 := by rw [IntKind.wrap_i64]; omega
      have w2 : IntKind.i64.wrap ((v : Int) + 2 + (q1.length : Int)) = (v : Int) + 2 + (q1.length : Int) := by rw [IntKind.wrap_i64]; omega
      clear hv hP hq hcell hin hp hnt
      by_cases hz : q2 = 0
      · have Hn1 := Hn0 hz
        subst hz
        go_wp2_with (first | (have hcx := Hcx.out; refine wpList_load_cells rfl 43 (.tmp 26) rfl _ rfl P.cells _ hcx Tryz.underlying43 rfl hi ?_; clear hcx) | (go_at_call 22; refine Hp.out.mono ?_; rintro e2 w2 ⟨A', c', rfl, ho, hx2⟩; have Hx2 := Lib.hid hx2; clear hx2 ho))
        go_roundw
        case rel => exact ⟨k + 1, by omega, by go_num, by rw [Hnt.out]; push_cast; go_num, Hn1.out, Hbw.out.tr Hx2.out⟩
        case measure => simp [intOf]; omega
      · have hz2 : ((q2 : Int) != 0) = true := by rw [bne_iff_ne]; omega
        have HR := Lib.hid (Hbd.out hz)
        clear hz
        go_wp2_with (first | (have hcx := Hcx.out; refine wpList_load_cells rfl 43 (.tmp 26) rfl _ rfl P.cells _ hcx Tryz.underlying43 rfl hi ?_; clear hcx) | (go_at_call 22; refine Hp.out.mono ?_; rintro e2 w2 ⟨A', c', rfl, ho, hx2⟩; have Hx2 := Lib.hid hx2; clear hx2 ho))
        go_ret2
        exact ⟨by rw [HR.out]; rfl, Hbw.out.tr Hx2.out⟩
    · obtain rfl : k = l.length := by omega
      rw [List.take_of_length_le (Nat.le_refl _)]
      have HR := Lib.hid (Hgood.out fun j hj => Hno.out j hj hj)
      go_wp2_with fail
      go_ret2
      exact ⟨by rw [HR.out]; rfl, Hbw.out⟩


theorem rused_any (k : Int) (A : Option Addr) (l : List CellV) (c : Nat) (w : World) (hA : RdC w A l) (hl : l.length ≤ 1000000) : Calls Tryz.prog 9 #[.int .i64 k, .slice A l.length c] w fun e w' => e = .returned (.tuple #[.int .i64 ((Nd.used k (l.map CellV.x)).1 : Int), .int .i64 ((Nd.used k (l.map CellV.x)).2 : Int)]) ∧ Ext w w' := by
  by_cases k3 : k = 3
  · subst k3; exact rused_3 A l c w hA hl
  by_cases k2 : k = 2
  · subst k2; exact rused_2 A l c w hA hl
  have hc : Nd.hasC k = false := by simp [Nd.hasC, *]
  have : Nd.used k (l.map CellV.x) = (0, 80) := by
    unfold Nd.used
    rw [if_neg]
    rintro ⟨h, _⟩
    rw [hc] at h
    cases h
  rw [this]
  exact rused_no k A l c w hc

set_option maxRecDepth 100000 in
set_option maxHeartbeats 1000000 in
theorem filled_any (A : Option Addr) (d : List UInt8) (c : Nat) (w : World) (hA : RdB w A d) (hl : d.length ≤ 243) : Calls Tryz.prog 51 #[.slice A d.length c] w fun e w' => ∃ A', e = .returned (.slice A' 243 243) ∧ Own w' w.heap.size 5 1 A' 243 243 (bvs (ndFill d)) ∧ Ext w w' := by
  go_enter Tryz.func51, Tryz.ntmps51
  go_wp2_with (at_make; go_loud (refine wpList_mk rfl (.const (.int .i64 243)) (.const (.int .i64 243)) 25 rfl elemB (.int .u8 0) zeroB rfl 243 _ _ rfl rfl (by omega) (by omega) ?_); refine Hid.out ?_)
  refine Lib.hid ?_
  rw [mk_zeros]
  have hstep : ∀ k (h : k < d.length), (ovw (zeros 243) 0 (d.take k)).set k d[k] = ovw (zeros 243) 0 (d.take (k + 1)) := by
    intro k h
    refine List.ext_getElem? fun j => ?_
    have h1 : (ovw (zeros 243) 0 (d.take k)).length = 243 := by rw [ovw_len (by rw [zeros_len, List.length_take]; omega), zeros_len]
    rw [set_get _ _ _ (by omega), ovw_get _ _ _ (by rw [zeros_len, List.length_take]; omega), ovw_get _ _ _ (by rw [zeros_len, List.length_take]; omega)]
    simp only [Nat.not_lt_zero, if_false, Nat.zero_add, Nat.sub_zero, List.length_take, Nat.min_eq_left (Nat.le_of_lt h), Nat.min_eq_left h]
    by_cases hj : j = k
    · subst hj
      rw [if_pos rfl, if_pos (by omega), List.getElem?_take_of_lt (by omega), List.getElem?_eq_getElem h]
    · rw [if_neg hj]
      by_cases hj2 : j < k
      · rw [if_pos hj2, if_pos (by omega), List.getElem?_take_of_lt hj2, List.getElem?_take_of_lt (by omega)]
      · rw [if_neg hj2, if_neg (by omega)]
  have Hst := Lib.hid hstep
  clear hstep
  go_wp2_with fail
  go_loopw [4] (fun i wr => ∃ k : Nat, k ≤ d.length ∧ i = .int .i64 k ∧ BO wr w.heap.size (ovw (zeros 243) 0 (d.take k)) ∧ Ext w wr) (fun i _ => d.length - (intOf i).toNat)
  case atStart => exact ⟨0, by omega, rfl, ⟨by rw [List.take_zero, ovw_nil]; exact heap_alloc_new w _⟩, Ext.alloc _ _⟩
  case round =>
    obtain ⟨k, hk, rfl, hB, hbw⟩ := hrel
    have HB := Lib.hid hB
    have Hbw := Lib.hid hbw
    clear hB hbw
    by_cases h : k < d.length
    · obtain ⟨ad, rfl, hcell⟩ := (hA.below Hbw.out).at_ h
      have ik : (0 : Int) ≤ (k : Int) := by omega
      have ik2 : (k : Int) < (d.length : Int) := by omega
      have ik3 : (k : Int) < 243 := by omega
      have hfr := HB.out.frozen k
      have hset := HB.out.set k d[k]
      rw [Hst.out k h] at hset
      have Hs := Lib.hid hset
      have hc0 : wr.cell? ⟨w.heap.size, k, none⟩ = some (.int .u8 (((ovw (zeros 243) 0 (d.take k)).getD k 0).toNat : Int)) := HB.out.cell (by rw [ovw_len (by rw [zeros_len, List.length_take]; omega), zeros_len]; omega)
      generalize (ovw (zeros 243) 0 (d.take k)).getD k 0 = u0 at *
      generalize d[k] = u at *
      clear hset
      go_wp2_with fail
      go_roundw
      case rel => exact ⟨k + 1, by omega, by go_num, Hs.out, Hbw.out.grown (grown_cell _ _ _ _) Hbw.out.size (fun k e => by injection e with e; omega)⟩
      case measure => simp [intOf]; omega
    · obtain rfl : k = d.length := by omega
      have hb := HB.out
      rw [List.take_length] at hb
      go_wp2_with fail
      go_ret
      exact ⟨_, rfl, hb.own (Nat.le_refl _) (by rw [show ovw (zeros 243) 0 d = ndFill d from rfl, ndFill_len hl]) (by omega), Hbw.out⟩
end Go.Proofs.YtkpagmfaccmiaaaGreat

/- Contract: scowref08.body (layer 08). Printed by wip/tools/gen_nyc08.py. -/

namespace Go.Proofs.YtkpagmfaccmiaaaGreat

open Go.RowKit

attribute [local go_sem] Oper.semAt_some

theorem sbAt_top (k : Int) (l : List Cl) (hn : Nd.need k l ≤ 241) : ∀ j, j ≤ l.length → (sbAt k l j).top + (sbAt k l j).sum = 243 ∧ (j < l.length → ¬ ((sbAt k l j).top < 2 + 2 * ((sbAt k l j).l.length + 1) + ((l.getD j Cl.zero).put k).1.length)) := by
  have room : ∀ j (h : j < l.length), (sbAt k l j).top + (sbAt k l j).sum = 243 → ¬ ((sbAt k l j).top < 2 + 2 * ((sbAt k l j).l.length + 1) + ((l.getD j Cl.zero).put k).1.length) ∧ ¬ (sbAt k l j).free < 2 + ((l.getD j Cl.zero).put k).1.length ∧ (sbAt k l j).l.length = j := by
    intro j hlj ht
    have ih := sbAt_ps k l hn j (by omega)
    have hg : l.getD j Cl.zero = l[j] := by rw [List.getD_eq_getElem?_getD, List.getElem?_eq_getElem hlj]; rfl
    rw [hg]
    generalize sbAt k l j = m at *
    have hml : m.l.length = j := by
      have := congrArg List.length ih
      simpa [Nat.min_eq_left (Nat.le_of_lt hlj)] using this
    have hs : m.sum + 2 * j = Nd.need k (l.take j) := by
      rw [need_eq, ← ih, ← sumL_ps, List.length_take, Nat.min_eq_left (Nat.le_of_lt hlj)]
      unfold SBody.sum
      omega
    have hneed : Nd.need k (l.take j) + (2 + (l[j].put k).1.length) ≤ 241 := by
      have h1 : Nd.need k l = Nd.need k (l.take (j + 1)) + Nd.need k (l.drop (j + 1)) := by rw [← Nd.need_app, List.take_append_drop]
      rw [List.take_succ_eq_append_getElem hlj, Nd.need_app] at h1
      simp only [Nd.need] at h1
      omega
    refine ⟨by omega, ?_, hml⟩
    unfold SBody.free SBody.dir
    omega
  intro j
  induction j with
  | zero => exact fun _ => ⟨rfl, fun h => (room 0 h rfl).1⟩
  | succ j ih =>
    intro hj
    obtain ⟨h1, _⟩ := ih (by omega)
    obtain ⟨r1, r2, r3⟩ := room j (by omega) h1
    have h78 := put_len k (l.getD j Cl.zero)
    have hst : (sbAt k l (j + 1)).top + (sbAt k l (j + 1)).sum = 243 := by
      show ((sbAt k l j).insert (j : Int) (((l.getD j Cl.zero).put k).1)).2.top + ((sbAt k l j).insert (j : Int) (((l.getD j Cl.zero).put k).1)).2.sum = 243
      unfold SBody.insert
      rw [if_neg (by omega), if_neg (by omega), if_neg r2]
      simp only
      have hrm : (sbAt k l j).room ((l.getD j Cl.zero).put k).1 = sbAt k l j := by unfold SBody.room; rw [if_neg r1]
      rw [hrm, SBody.lay_sum]
      simp only [SBody.lay]
      omega
    exact ⟨hst, fun h => (room (j + 1) h hst).1⟩


set_option maxRecDepth 100000 in
set_option maxHeartbeats 1000000 in
theorem rbody_3 (lsn : Nat) (ca : Option Addr) (cl : List CellV) (cc next : Nat) (da : Option Addr) (data : List UInt8) (dc r p f e : Nat) (w : World) (hr : RdC w ca cl) (hl : cl.length ≤ 1000000) (hneed : Nd.need 3 (cl.map CellV.x) ≤ 241) :
    Calls Tryz.prog 19 #[.agg #[.int .i64 3, .int .u64 (lsn : Int), .slice ca cl.length cc, .int .u32 (next : Int), .slice da data.length dc, .int .u32 (r : Int), .int .u32 (p : Int), .int .u32 (f : Int), .int .u64 (e : Int)]] w fun e' w' => ∃ bs A', IsBytes bs (Nd.sb 3 (cl.map CellV.x)) ∧ e' = .returned (.slice A' 243 243) ∧ Own w' w.heap.size 5 1 A' 243 243 (bvs bs) ∧ Ext w w' := by
  have hx0 := Ext.alloc w (.cells #[.int .i64 3, .int .u64 (lsn : Int), .slice ca cl.length cc, .int .u32 (next : Int), .slice da data.length dc, .int .u32 (r : Int), .int .u32 (p : Int), .int .u32 (f : Int), .int .u64 (e : Int)] 29)
  have hg0 := heap_alloc_new w (.cells #[.int .i64 3, .int .u64 (lsn : Int), .slice ca cl.length cc, .int .u32 (next : Int), .slice da data.length dc, .int .u32 (r : Int), .int .u32 (p : Int), .int .u32 (f : Int), .int .u64 (e : Int)] 29)
  have htop := sbAt_top 3 (cl.map CellV.x) hneed
  have Htop := Lib.hid htop
  clear htop hneed
  obtain ⟨W0, hW0⟩ : ∃ W0, W0 = w.alloc (.cells #[.int .i64 3, .int .u64 (lsn : Int), .slice ca cl.length cc, .int .u32 (next : Int), .slice da data.length dc, .int .u32 (r : Int), .int .u32 (p : Int), .int .u32 (f : Int), .int .u64 (e : Int)] 29) := ⟨_, rfl⟩
  have hbase : w.heap.size ≤ W0.heap.size := by rw [hW0]; exact hx0.size
  rw [← hW0] at hx0 hg0
  have HW0 := Lib.hid (show w.alloc (.cells #[.int .i64 3, .int .u64 (lsn : Int), .slice ca cl.length cc, .int .u32 (next : Int), .slice da data.length dc, .int .u32 (r : Int), .int .u32 (p : Int), .int .u32 (f : Int), .int .u64 (e : Int)] 29) = W0 from hW0.symm)
  have Hx0 := Lib.hid hx0
  have Hg0 := Lib.hid hg0
  clear hx0 hg0 hW0
  go_enter Tryz.func19, Tryz.ntmps19
  go_wp2_with (go_at_call 52; rw [HW0.out]; refine (ref_snew W0).mono ?_; rintro e1 w1 ⟨rfl, hB1, hx1⟩; have Hx1 := Lib.hid hx1; have HB1 := Lib.hid hB1; clear hx1 hB1)
  have HS1 := Lib.hid (show MAt w1 W0.heap.size none 0 [] (sbAt 3 (cl.map CellV.x) 0) from HB1.out)
  have hbz : ∀ x, x < W0.heap.size → x ≠ W0.heap.size := fun x h => by omega
  have hlt0 := lt_of_heap Hg0.out
  obtain ⟨g, hg⟩ : ∃ g, g = W0.heap.size := ⟨_, rfl⟩
  rw [← hg] at HB1 hbase HS1 hbz hlt0 ⊢
  have Hgb := Lib.hid hg
  clear HB1 hg
  go_loopw [6] (fun i wr => ∃ k : Nat, k ≤ cl.length ∧ i = .int .i64 k ∧ (∃ A c L, MAt wr g A c L (sbAt 3 (cl.map CellV.x) k)) ∧ Below g W0 wr) (fun i _ => cl.length - (intOf i).toNat)
  case atStart => exact ⟨0, by omega, rfl, ⟨_, _, _, HS1.out⟩, by rw [Hgb.out]; exact Hx1.out⟩
  case round =>
    obtain ⟨k, hk, rfl, ⟨MA, Mc, ML, hS⟩, hbw⟩ := hrel
    have HS := Lib.hid hS
    have hgr := (hbw.block _ hlt0).trans Hg0.out
    have Hbw := Lib.hid hbw
    have c2 : wr.cell? ⟨w.heap.size, 2, none⟩ = some (.slice ca cl.length cc) := by rw [cell_of_row _ _ _ _ _ _ hgr]; rfl
    have c0 : wr.cell? ⟨w.heap.size, 0, none⟩ = some (.int .i64 3) := by rw [cell_of_row _ _ _ _ _ _ hgr]; rfl
    have hbx : Ext w wr := Below.trans Hx0.out (hbw.mono hbase)
    clear hS hbw hgr
    by_cases h : k < cl.length
    · have hd := hbx.tr (Ext.drew wr)
      obtain ⟨ad, rfl, hcell, hin⟩ := (hr.below hd).at_ h
      have ik : (0 : Int) ≤ (k : Int) := by omega
      have ik2 : (k : Int) < (cl.length : Int) := by omega
      have hc0 := (Ext.drew wr).load c0
      have hc2 := (Ext.drew wr).load c2
      have hp := rput_any 3 cl[k] wr.drew hin
      have Hcx := Lib.hid hcell
      have hpl : (cl[k].x.put 3).1.length ≤ 78 := put_len 3 cl[k].x
      have hgd : (cl.map CellV.x).getD k Cl.zero = cl[k].x := by rw [List.getD_eq_getElem?_getD, List.getElem?_map, List.getElem?_eq_getElem h]; rfl
      have hsb : sbAt 3 (cl.map CellV.x) (k + 1) = ((sbAt 3 (cl.map CellV.x) k).insert (k : Int) (cl[k].x.put 3).1).2 := by
        show ((sbAt 3 (cl.map CellV.x) k).insert (k : Int) ((((cl.map CellV.x).getD k Cl.zero).put 3 ).1)).2 = _
        rw [hgd]
      have hroom := (Htop.out k (by rw [List.length_map]; omega)).2 (by rw [List.length_map]; omega)
      rw [hgd] at hroom
      have Hsb := Lib.hid hsb
      have hins := fun A' c' W (hs : MAt W g MA Mc ML (sbAt 3 (cl.map CellV.x) k)) (hr : RdB W A' (cl[k].x.put 3).1) (hne : (cl[k].x.put 3).1 ≠ [] → ∀ ad, A' = some ad → ad.block ≠ g) => ref_sinsertG g MA Mc ML _ (k : Int) A' (cl[k].x.put 3).1 c' W hs hr (fun hp ad e => .inr ⟨hne hp ad e, hroom⟩) (by omega)
      obtain ⟨P, hP⟩ : ∃ P, P = cl[k] := ⟨_, rfl⟩
      rw [← hP] at hp Hcx hpl Hsb
      simp only [← hP] at hins
      obtain ⟨q, hq⟩ : ∃ q, q = P.x.put 3 := ⟨_, rfl⟩
      rw [← hq] at hp hpl Hsb
      simp only [← hq] at hins
      obtain ⟨d, q2⟩ := q
      simp only at hp hpl Hsb hins
      have Hp := Lib.hid hp
      have Hins := Lib.hid hins
      have Hgl := Lib.hid (lt_of_heap HS.out.row)
      have Hd := Lib.hid hd
      clear hP hq hcell hin hp hsb hins hgd hroom hd hbx
      go_wp2_with fail
      refine rg_start (by kernel_rfl) ?_
      refine rg_take 0 rfl (by kernel_rfl) (by kernel_rfl) (by kernel_rfl) (fun _ _ _ _ h => h) (by rfl) ⟨_, fun w' hx => by (go_simp <;> with_reducible rfl), ?_⟩   -- t74 := fieldAddr 29 t1 0
      simp only [Act.put, List.setIfInBounds_toArray, List.set_cons_zero, List.set_cons_succ]
      refine rg_take 1 rfl (by kernel_rfl) (by kernel_rfl) (by kernel_rfl) (fun _ _ _ _ h => h) (by rfl) ⟨_, fun w' hx => by have hcx := hx.load hc0; (go_simp <;> with_reducible rfl), ?_⟩
      simp only [Act.put, List.setIfInBounds_toArray, List.set_cons_zero, List.set_cons_succ]
      refine rg_take 2 rfl (by kernel_rfl) (by kernel_rfl) (by kernel_rfl) (fun _ _ _ _ h => h) (by rfl) ⟨_, fun w' hx => by (go_simp <;> with_reducible rfl), ?_⟩   -- t76 := fieldAddr 29 t1 2
      simp only [Act.put, List.setIfInBounds_toArray, List.set_cons_zero, List.set_cons_succ]
      refine rg_take 3 rfl (by kernel_rfl) (by kernel_rfl) (by kernel_rfl) (fun _ _ _ _ h => h) (by rfl) ⟨_, fun w' hx => by have hcx := hx.load hc2; (go_simp <;> with_reducible rfl), ?_⟩
      simp only [Act.put, List.setIfInBounds_toArray, List.set_cons_zero, List.set_cons_succ]
      refine rg_take 4 rfl (by kernel_rfl) (by kernel_rfl) (by kernel_rfl) (fun _ _ _ _ h => h) (by rfl) ⟨_, fun w' hx => by (go_simp <;> with_reducible rfl), ?_⟩
      simp only [Act.put, List.setIfInBounds_toArray, List.set_cons_zero, List.set_cons_succ]
      refine rg_take 5 rfl (by kernel_rfl) (by kernel_rfl) (by kernel_rfl) (fun _ _ _ _ h => h) (by rfl) ⟨_, fun w' hx => by (go_simp <;> with_reducible rfl), ?_⟩   -- t79 := indexAddr 23 t77 t78
      simp only [Act.put, List.setIfInBounds_toArray, List.set_cons_zero, List.set_cons_succ]
      refine rg_take 6 rfl (by kernel_rfl) (by kernel_rfl) (by kernel_rfl) (fun _ _ _ _ h => h) (by rfl) ⟨.agg P.cells, fun w' hx => ex_load_cells 43 (.tmp 79) rfl _ rfl P.cells _ (fun j u hj => hx.load (Hcx.out j u hj)) Tryz.underlying43 rfl (cinfo P), ?_⟩
      simp only [Act.put, List.setIfInBounds_toArray, List.set_cons_zero, List.set_cons_succ]
      refine rg_call 7 Hp.out rfl (by kernel_rfl) (by rfl) (by go_simp) ?_
      rintro e2 w2 ⟨A', c', rfl, ho, hx2⟩
      have Ho := Lib.hid ho
      have Hx2 := Lib.hid hx2
      clear ho hx2
      refine ⟨_, rfl, Hx2.out, ?_⟩
      simp only [Act.put, List.setIfInBounds_toArray, List.set_cons_zero, List.set_cons_succ]
      refine rg_take 8 rfl (by kernel_rfl) (by kernel_rfl) (by kernel_rfl) (fun _ _ _ _ h => h) (by rfl) ⟨_, fun w' hx => by (go_simp <;> with_reducible rfl), ?_⟩
      simp only [Act.put, List.setIfInBounds_toArray, List.set_cons_zero, List.set_cons_succ]
      refine rg_take 9 rfl (by kernel_rfl) (by kernel_rfl) (by kernel_rfl) (fun _ _ _ _ h => h) (by rfl) ⟨_, fun w' hx => by (go_simp <;> with_reducible rfl), ?_⟩
      simp only [Act.put, List.setIfInBounds_toArray, List.set_cons_zero, List.set_cons_succ]
      refine rg_take 10 rfl (by kernel_rfl) (by kernel_rfl) (by kernel_rfl) (fun _ _ _ _ h => h) (by rfl) ⟨_, fun w' hx => by (go_simp <;> with_reducible rfl), ?_⟩
      simp only [Act.put, List.setIfInBounds_toArray, List.set_cons_zero, List.set_cons_succ]
      refine rg_take 11 rfl (by kernel_rfl) (by kernel_rfl) (by kernel_rfl) (fun _ _ _ _ h => h) (by rfl) ⟨_, fun w' hx => by (go_simp <;> with_reducible rfl), ?_⟩
      simp only [Act.put, List.setIfInBounds_toArray, List.set_cons_zero, List.set_cons_succ]
      refine rg_take 12 rfl (by kernel_rfl) (by kernel_rfl) (by kernel_rfl) (fun _ _ _ _ h => h) (by rfl) ⟨_, fun w' hx => by (go_simp <;> with_reducible rfl), ?_⟩
      simp only [Act.put, List.setIfInBounds_toArray, List.set_cons_zero, List.set_cons_succ]
      refine rg_done (by kernel_rfl) ?_
      have hx3 := (Ext.drew wr).tr Hx2.out
      have hI := Hins.out A' c' w2 (HS.out.ext hx3) Ho.out.rd' (Ho.out.neB (Nat.lt_of_lt_of_le Hgl.out (Ext.drew wr).size))
      have HI := Lib.hid hI
      clear hI hc0 hc2 c0 c2
      go_wp2_with (go_at_call 53; refine HI.out.mono ?_; rintro e3 w3 ⟨rfl, hS3, hg3⟩; have HS3 := Lib.hid hS3; have Hg3 := Lib.hid hg3; clear hS3 hg3)
      go_roundw
      case rel => exact ⟨k + 1, by omega, by go_num, by rw [Hsb.out]; exact HS3.out, Below.trans Hbw.out (Below.trans (hx3.mono (by have := Hgl.out; omega)) Hg3.out)⟩
      case measure => simp [intOf]; omega
    · obtain rfl : k = cl.length := by omega
      have hby := ref_sbytes g MA Mc ML _ wr HS.out
      have Hby := Lib.hid hby
      have Hbx := Lib.hid hbx
      clear hby hbx
      go_wp2_with (go_at_call 54; refine Hby.out.mono ?_; rintro e3 w3 ⟨bs, A', hB, rfl, ho, hx⟩; have HB := Lib.hid hB; have Ho := Lib.hid ho; have Hx := Lib.hid hx; clear hB ho hx)
      go_ret
      refine ⟨bs, A', ?_, rfl, Ho.out.mono Hbx.out.size, Hbx.out.tr Hx.out⟩
      have := HB.out
      unfold Nd.sb
      rwa [List.length_map]


set_option maxRecDepth 100000 in
set_option maxHeartbeats 1000000 in
theorem rbody_2 (lsn : Nat) (ca : Option Addr) (cl : List CellV) (cc next : Nat) (da : Option Addr) (data : List UInt8) (dc r p f e : Nat) (w : World) (hr : RdC w ca cl) (hl : cl.length ≤ 1000000) (hneed : Nd.need 2 (cl.map CellV.x) ≤ 241) :
    Calls Tryz.prog 19 #[.agg #[.int .i64 2, .int .u64 (lsn : Int), .slice ca cl.length cc, .int .u32 (next : Int), .slice da data.length dc, .int .u32 (r : Int), .int .u32 (p : Int), .int .u32 (f : Int), .int .u64 (e : Int)]] w fun e' w' => ∃ bs A', IsBytes bs (Nd.sb 2 (cl.map CellV.x)) ∧ e' = .returned (.slice A' 243 243) ∧ Own w' w.heap.size 5 1 A' 243 243 (bvs bs) ∧ Ext w w' := by
  have hx0 := Ext.alloc w (.cells #[.int .i64 2, .int .u64 (lsn : Int), .slice ca cl.length cc, .int .u32 (next : Int), .slice da data.length dc, .int .u32 (r : Int), .int .u32 (p : Int), .int .u32 (f : Int), .int .u64 (e : Int)] 29)
  have hg0 := heap_alloc_new w (.cells #[.int .i64 2, .int .u64 (lsn : Int), .slice ca cl.length cc, .int .u32 (next : Int), .slice da data.length dc, .int .u32 (r : Int), .int .u32 (p : Int), .int .u32 (f : Int), .int .u64 (e : Int)] 29)
  have htop := sbAt_top 2 (cl.map CellV.x) hneed
  have Htop := Lib.hid htop
  clear htop hneed
  obtain ⟨W0, hW0⟩ : ∃ W0, W0 = w.alloc (.cells #[.int .i64 2, .int .u64 (lsn : Int), .slice ca cl.length cc, .int .u32 (next : Int), .slice da data.length dc, .int .u32 (r : Int), .int .u32 (p : Int), .int .u32 (f : Int), .int .u64 (e : Int)] 29) := ⟨_, rfl⟩
  have hbase : w.heap.size ≤ W0.heap.size := by rw [hW0]; exact hx0.size
  rw [← hW0] at hx0 hg0
  have HW0 := Lib.hid (show w.alloc (.cells #[.int .i64 2, .int .u64 (lsn : Int), .slice ca cl.length cc, .int .u32 (next : Int), .slice da data.length dc, .int .u32 (r : Int), .int .u32 (p : Int), .int .u32 (f : Int), .int .u64 (e : Int)] 29) = W0 from hW0.symm)
  have Hx0 := Lib.hid hx0
  have Hg0 := Lib.hid hg0
  clear hx0 hg0 hW0
  go_enter Tryz.func19, Tryz.ntmps19
  go_wp2_with (go_at_call 52; rw [HW0.out]; refine (ref_snew W0).mono ?_; rintro e1 w1 ⟨rfl, hB1, hx1⟩; have Hx1 := Lib.hid hx1; have HB1 := Lib.hid hB1; clear hx1 hB1)
  have HS1 := Lib.hid (show MAt w1 W0.heap.size none 0 [] (sbAt 2 (cl.map CellV.x) 0) from HB1.out)
  have hbz : ∀ x, x < W0.heap.size → x ≠ W0.heap.size := fun x h => by omega
  have hlt0 := lt_of_heap Hg0.out
  obtain ⟨g, hg⟩ : ∃ g, g = W0.heap.size := ⟨_, rfl⟩
  rw [← hg] at HB1 hbase HS1 hbz hlt0 ⊢
  have Hgb := Lib.hid hg
  clear HB1 hg
  go_loopw [6] (fun i wr => ∃ k : Nat, k ≤ cl.length ∧ i = .int .i64 k ∧ (∃ A c L, MAt wr g A c L (sbAt 2 (cl.map CellV.x) k)) ∧ Below g W0 wr) (fun i _ => cl.length - (intOf i).toNat)
  case atStart => exact ⟨0, by omega, rfl, ⟨_, _, _, HS1.out⟩, by rw [Hgb.out]; exact Hx1.out⟩
  case round =>
    obtain ⟨k, hk, rfl, ⟨MA, Mc, ML, hS⟩, hbw⟩ := hrel
    have HS := Lib.hid hS
    have hgr := (hbw.block _ hlt0).trans Hg0.out
    have Hbw := Lib.hid hbw
    have c2 : wr.cell? ⟨w.heap.size, 2, none⟩ = some (.slice ca cl.length cc) := by rw [cell_of_row _ _ _ _ _ _ hgr]; rfl
    have c0 : wr.cell? ⟨w.heap.size, 0, none⟩ = some (.int .i64 2) := by rw [cell_of_row _ _ _ _ _ _ hgr]; rfl
    have hbx : Ext w wr := Below.trans Hx0.out (hbw.mono hbase)
    clear hS hbw hgr
    by_cases h : k < cl.length
    · have hd := hbx.tr (Ext.drew wr)
      obtain ⟨ad, rfl, hcell, hin⟩ := (hr.below hd).at_ h
      have ik : (0 : Int) ≤ (k : Int) := by omega
      have ik2 : (k : Int) < (cl.length : Int) := by omega
      have hc0 := (Ext.drew wr).load c0
      have hc2 := (Ext.drew wr).load c2
      have hp := rput_any 2 cl[k] wr.drew hin
      have Hcx := Lib.hid hcell
      have hpl : (cl[k].x.put 2).1.length ≤ 78 := put_len 2 cl[k].x
      have hgd : (cl.map CellV.x).getD k Cl.zero = cl[k].x := by rw [List.getD_eq_getElem?_getD, List.getElem?_map, List.getElem?_eq_getElem h]; rfl
      have hsb : sbAt 2 (cl.map CellV.x) (k + 1) = ((sbAt 2 (cl.map CellV.x) k).insert (k : Int) (cl[k].x.put 2).1).2 := by
        show ((sbAt 2 (cl.map CellV.x) k).insert (k : Int) ((((cl.map CellV.x).getD k Cl.zero).put 2 ).1)).2 = _
        rw [hgd]
      have hroom := (Htop.out k (by rw [List.length_map]; omega)).2 (by rw [List.length_map]; omega)
      rw [hgd] at hroom
      have Hsb := Lib.hid hsb
      have hins := fun A' c' W (hs : MAt W g MA Mc ML (sbAt 2 (cl.map CellV.x) k)) (hr : RdB W A' (cl[k].x.put 2).1) (hne : (cl[k].x.put 2).1 ≠ [] → ∀ ad, A' = some ad → ad.block ≠ g) => ref_sinsertG g MA Mc ML _ (k : Int) A' (cl[k].x.put 2).1 c' W hs hr (fun hp ad e => .inr ⟨hne hp ad e, hroom⟩) (by omega)
      obtain ⟨P, hP⟩ : ∃ P, P = cl[k] := ⟨_, rfl⟩
      rw [← hP] at hp Hcx hpl Hsb
      simp only [← hP] at hins
      obtain ⟨q, hq⟩ : ∃ q, q = P.x.put 2 := ⟨_, rfl⟩
      rw [← hq] at hp hpl Hsb
      simp only [← hq] at hins
      obtain ⟨d, q2⟩ := q
      simp only at hp hpl Hsb hins
      have Hp := Lib.hid hp
      have Hins := Lib.hid hins
      have Hgl := Lib.hid (lt_of_heap HS.out.row)
      have Hd := Lib.hid hd
      clear hP hq hcell hin hp hsb hins hgd hroom hd hbx
      go_wp2_with fail
      refine rg_start (by kernel_rfl) ?_
      refine rg_take 0 rfl (by kernel_rfl) (by kernel_rfl) (by kernel_rfl) (fun _ _ _ _ h => h) (by rfl) ⟨_, fun w' hx => by (go_simp <;> with_reducible rfl), ?_⟩   -- t74 := fieldAddr 29 t1 0
      simp only [Act.put, List.setIfInBounds_toArray, List.set_cons_zero, List.set_cons_succ]
      refine rg_take 1 rfl (by kernel_rfl) (by kernel_rfl) (by kernel_rfl) (fun _ _ _ _ h => h) (by rfl) ⟨_, fun w' hx => by have hcx := hx.load hc0; (go_simp <;> with_reducible rfl), ?_⟩
      simp only [Act.put, List.setIfInBounds_toArray, List.set_cons_zero, List.set_cons_succ]
      refine rg_take 2 rfl (by kernel_rfl) (by kernel_rfl) (by kernel_rfl) (fun _ _ _ _ h => h) (by rfl) ⟨_, fun w' hx => by (go_simp <;> with_reducible rfl), ?_⟩   -- t76 := fieldAddr 29 t1 2
      simp only [Act.put, List.setIfInBounds_toArray, List.set_cons_zero, List.set_cons_succ]
      refine rg_take 3 rfl (by kernel_rfl) (by kernel_rfl) (by kernel_rfl) (fun _ _ _ _ h => h) (by rfl) ⟨_, fun w' hx => by have hcx := hx.load hc2; (go_simp <;> with_reducible rfl), ?_⟩
      simp only [Act.put, List.setIfInBounds_toArray, List.set_cons_zero, List.set_cons_succ]
      refine rg_take 4 rfl (by kernel_rfl) (by kernel_rfl) (by kernel_rfl) (fun _ _ _ _ h => h) (by rfl) ⟨_, fun w' hx => by (go_simp <;> with_reducible rfl), ?_⟩
      simp only [Act.put, List.setIfInBounds_toArray, List.set_cons_zero, List.set_cons_succ]
      refine rg_take 5 rfl (by kernel_rfl) (by kernel_rfl) (by kernel_rfl) (fun _ _ _ _ h => h) (by rfl) ⟨_, fun w' hx => by (go_simp <;> with_reducible rfl), ?_⟩   -- t79 := indexAddr 23 t77 t78
      simp only [Act.put, List.setIfInBounds_toArray, List.set_cons_zero, List.set_cons_succ]
      refine rg_take 6 rfl (by kernel_rfl) (by kernel_rfl) (by kernel_rfl) (fun _ _ _ _ h => h) (by rfl) ⟨.agg P.cells, fun w' hx => ex_load_cells 43 (.tmp 79) rfl _ rfl P.cells _ (fun j u hj => hx.load (Hcx.out j u hj)) Tryz.underlying43 rfl (cinfo P), ?_⟩
      simp only [Act.put, List.setIfInBounds_toArray, List.set_cons_zero, List.set_cons_succ]
      refine rg_call 7 Hp.out rfl (by kernel_rfl) (by rfl) (by go_simp) ?_
      rintro e2 w2 ⟨A', c', rfl, ho, hx2⟩
      have Ho := Lib.hid ho
      have Hx2 := Lib.hid hx2
      clear ho hx2
      refine ⟨_, rfl, Hx2.out, ?_⟩
      simp only [Act.put, List.setIfInBounds_toArray, List.set_cons_zero, List.set_cons_succ]
      refine rg_take 8 rfl (by kernel_rfl) (by kernel_rfl) (by kernel_rfl) (fun _ _ _ _ h => h) (by rfl) ⟨_, fun w' hx => by (go_simp <;> with_reducible rfl), ?_⟩
      simp only [Act.put, List.setIfInBounds_toArray, List.set_cons_zero, List.set_cons_succ]
      refine rg_take 9 rfl (by kernel_rfl) (by kernel_rfl) (by kernel_rfl) (fun _ _ _ _ h => h) (by rfl) ⟨_, fun w' hx => by (go_simp <;> with_reducible rfl), ?_⟩
      simp only [Act.put, List.setIfInBounds_toArray, List.set_cons_zero, List.set_cons_succ]
      refine rg_take 10 rfl (by kernel_rfl) (by kernel_rfl) (by kernel_rfl) (fun _ _ _ _ h => h) (by rfl) ⟨_, fun w' hx => by (go_simp <;> with_reducible rfl), ?_⟩
      simp only [Act.put, List.setIfInBounds_toArray, List.set_cons_zero, List.set_cons_succ]
      refine rg_take 11 rfl (by kernel_rfl) (by kernel_rfl) (by kernel_rfl) (fun _ _ _ _ h => h) (by rfl) ⟨_, fun w' hx => by (go_simp <;> with_reducible rfl), ?_⟩
      simp only [Act.put, List.setIfInBounds_toArray, List.set_cons_zero, List.set_cons_succ]
      refine rg_take 12 rfl (by kernel_rfl) (by kernel_rfl) (by kernel_rfl) (fun _ _ _ _ h => h) (by rfl) ⟨_, fun w' hx => by (go_simp <;> with_reducible rfl), ?_⟩
      simp only [Act.put, List.setIfInBounds_toArray, List.set_cons_zero, List.set_cons_succ]
      refine rg_done (by kernel_rfl) ?_
      have hx3 := (Ext.drew wr).tr Hx2.out
      have hI := Hins.out A' c' w2 (HS.out.ext hx3) Ho.out.rd' (Ho.out.neB (Nat.lt_of_lt_of_le Hgl.out (Ext.drew wr).size))
      have HI := Lib.hid hI
      clear hI hc0 hc2 c0 c2
      go_wp2_with (go_at_call 53; refine HI.out.mono ?_; rintro e3 w3 ⟨rfl, hS3, hg3⟩; have HS3 := Lib.hid hS3; have Hg3 := Lib.hid hg3; clear hS3 hg3)
      go_roundw
      case rel => exact ⟨k + 1, by omega, by go_num, by rw [Hsb.out]; exact HS3.out, Below.trans Hbw.out (Below.trans (hx3.mono (by have := Hgl.out; omega)) Hg3.out)⟩
      case measure => simp [intOf]; omega
    · obtain rfl : k = cl.length := by omega
      have hby := ref_sbytes g MA Mc ML _ wr HS.out
      have Hby := Lib.hid hby
      have Hbx := Lib.hid hbx
      clear hby hbx
      go_wp2_with (go_at_call 54; refine Hby.out.mono ?_; rintro e3 w3 ⟨bs, A', hB, rfl, ho, hx⟩; have HB := Lib.hid hB; have Ho := Lib.hid ho; have Hx := Lib.hid hx; clear hB ho hx)
      go_ret
      refine ⟨bs, A', ?_, rfl, Ho.out.mono Hbx.out.size, Hbx.out.tr Hx.out⟩
      have := HB.out
      unfold Nd.sb
      rwa [List.length_map]


set_option maxRecDepth 100000 in
set_option maxHeartbeats 1000000 in
theorem rbody_5 (lsn : Nat) (ca : Option Addr) (cl : List CellV) (cc next : Nat) (da : Option Addr) (data : List UInt8) (dc r p f e : Nat) (w : World) (hnx : next < 4294967296) :
    Calls Tryz.prog 19 #[.agg #[.int .i64 5, .int .u64 (lsn : Int), .slice ca cl.length cc, .int .u32 (next : Int), .slice da data.length dc, .int .u32 (r : Int), .int .u32 (p : Int), .int .u32 (f : Int), .int .u64 (e : Int)]] w fun e' w' => ∃ A', e' = .returned (.slice A' 243 243) ∧ Own w' w.heap.size 5 1 A' 243 243 (bvs (ndFill (Vint.fixed next 4))) ∧ Ext w w' := by
  have hx0 := Ext.alloc w (.cells #[.int .i64 5, .int .u64 (lsn : Int), .slice ca cl.length cc, .int .u32 (next : Int), .slice da data.length dc, .int .u32 (r : Int), .int .u32 (p : Int), .int .u32 (f : Int), .int .u64 (e : Int)] 29)
  have hg0 := heap_alloc_new w (.cells #[.int .i64 5, .int .u64 (lsn : Int), .slice ca cl.length cc, .int .u32 (next : Int), .slice da data.length dc, .int .u32 (r : Int), .int .u32 (p : Int), .int .u32 (f : Int), .int .u64 (e : Int)] 29)
  have hf4 := fun W => ref_fixed01 next (by omega) 4 W
  have hw : IntKind.u64.wrap (next : Int) = (next : Int) := by simp [IntKind.wrap, IntKind.bits, IntKind.signed]; omega
  have Hx0 := Lib.hid hx0
  clear hnx hx0
  go_enter Tryz.func19, Tryz.ntmps19
  go_wp2_with (first | (go_at_call 49; refine (hf4 _).mono ?_; rintro e1 w1 ⟨A1, c1, rfl, ho1, hb1⟩; have Hr1 := Lib.hid ho1.rd'; have Hb1 : Hid (Ext w w1) := Lib.hid (Hx0.out.tr hb1); clear ho1 hb1) | (go_at_call 51; refine (filled_any A1 (Vint.fixed next 4) c1 w1 Hr1.out (by rw [fx4_len]; omega)).mono ?_; rintro e2 w2 ⟨A2, rfl, ho2, hb2⟩; have Ho2 := Lib.hid ho2; have Hb2 := Lib.hid hb2; clear ho2 hb2))
  go_ret
  exact ⟨A2, rfl, Ho2.out.mono Hb1.out.size, Hb1.out.tr Hb2.out⟩
end Go.Proofs.YtkpagmfaccmiaaaGreat

/- Contract: scowref08.body at kinds 1 and 4 (layer 08). Printed by wip/tools/gen_nyd08.py. -/

namespace Go.Proofs.YtkpagmfaccmiaaaGreat

open Go.RowKit

attribute [local go_sem] Oper.semAt_some


set_option maxRecDepth 100000 in
set_option maxHeartbeats 1000000 in
theorem rbody_1 (lsn : Nat) (ca : Option Addr) (cl : List CellV) (cc next : Nat) (da : Option Addr) (data : List UInt8) (dc r p f e : Nat) (w : World) (hh : (Hd.mk r p f e).In) :
    Calls Tryz.prog 19 #[.agg #[.int .i64 1, .int .u64 (lsn : Int), .slice ca cl.length cc, .int .u32 (next : Int), .slice da data.length dc, .int .u32 (r : Int), .int .u32 (p : Int), .int .u32 (f : Int), .int .u64 (e : Int)]] w fun e' w' => ∃ A', e' = .returned (.slice A' 243 243) ∧ Own w' w.heap.size 5 1 A' 243 243 (bvs (ndFill (Nd.lay1 ⟨r, p, f, e⟩))) ∧ Ext w w' := by
  have hx0 := Ext.alloc w (.cells #[.int .i64 1, .int .u64 (lsn : Int), .slice ca cl.length cc, .int .u32 (next : Int), .slice da data.length dc, .int .u32 (r : Int), .int .u32 (p : Int), .int .u32 (f : Int), .int .u64 (e : Int)] 29)
  have hg0 := heap_alloc_new w (.cells #[.int .i64 1, .int .u64 (lsn : Int), .slice ca cl.length cc, .int .u32 (next : Int), .slice da data.length dc, .int .u32 (r : Int), .int .u32 (p : Int), .int .u32 (f : Int), .int .u64 (e : Int)] 29)
  obtain ⟨W0, hW0⟩ : ∃ W0, W0 = w.alloc (.cells #[.int .i64 1, .int .u64 (lsn : Int), .slice ca cl.length cc, .int .u32 (next : Int), .slice da data.length dc, .int .u32 (r : Int), .int .u32 (p : Int), .int .u32 (f : Int), .int .u64 (e : Int)] 29) := ⟨_, rfl⟩
  rw [← hW0] at hx0 hg0
  have HW0 := Lib.hid (show w.alloc (.cells #[.int .i64 1, .int .u64 (lsn : Int), .slice ca cl.length cc, .int .u32 (next : Int), .slice da data.length dc, .int .u32 (r : Int), .int .u32 (p : Int), .int .u32 (f : Int), .int .u64 (e : Int)] 29) = W0 from hW0.symm)
  have Hx0 := Lib.hid hx0
  have G0 := Lib.hid hg0
  have hlt0 := lt_of_heap hg0
  clear hx0 hg0 hW0
  have hr4 := hh.root
  have hp4 := hh.pages
  have hf4 := hh.free
  have he8 := hh.entries
  simp only at hr4 hp4 hf4 he8
  have wr1 : IntKind.u64.wrap (r : Int) = (r : Int) := by simp [IntKind.wrap, IntKind.bits, IntKind.signed]; omega
  have wp1 : IntKind.u64.wrap (p : Int) = (p : Int) := by simp [IntKind.wrap, IntKind.bits, IntKind.signed]; omega
  have wf1 : IntKind.u64.wrap (f : Int) = (f : Int) := by simp [IntKind.wrap, IntKind.bits, IntKind.signed]; omega
  have kc := convC (P := Tryz.prog) Tryz.underlying25 Tryz.underlying5
  have lr : (Vint.fixed r 4).length = 4 := fx4_len r
  have lp : (Vint.fixed p 4).length = 4 := fx4_len p
  have lf : (Vint.fixed f 4).length = 4 := fx4_len f
  have le : (Vint.fixed e 8).length = 8 := fixed8_len e
  obtain ⟨R, hR⟩ : ∃ R, R = Vint.fixed r 4 := ⟨_, rfl⟩
  obtain ⟨G, hG⟩ : ∃ G, G = Vint.fixed p 4 := ⟨_, rfl⟩
  obtain ⟨F, hF⟩ : ∃ F, F = Vint.fixed f 4 := ⟨_, rfl⟩
  obtain ⟨E, hE⟩ : ∃ E, E = Vint.fixed e 8 := ⟨_, rfl⟩
  have fR := fun W => ref_fixed01 r (by omega) 4 W
  have fG := fun W => ref_fixed01 p (by omega) 4 W
  have fF := fun W => ref_fixed01 f (by omega) 4 W
  have fE := fun W => ref_fixed01 e he8 8 W
  rw [← hR] at lr
  rw [← hG] at lp
  rw [← hF] at lf
  rw [← hE] at le
  simp only [← hR, lr] at fR
  simp only [← hG, lp] at fG
  simp only [← hF, lf] at fF
  simp only [← hE, le] at fE
  have hlay : Nd.lay1 ⟨r, p, f, e⟩ = Nd.magic ++ R ++ G ++ F ++ E := by unfold Nd.lay1; rw [hR, hG, hF, hE]; simp only [List.append_assoc]
  have Hlay := Lib.hid hlay
  have LR := Lib.hid lr
  have LG := Lib.hid lp
  have LF := Lib.hid lf
  have LE := Lib.hid le
  have FR := Lib.hid fR
  have FG := Lib.hid fG
  have FF := Lib.hid fF
  have FE := Lib.hid fE
  clear hh hR hG hF hE fR fG fF fE hlay lr lp lf le
  have hc5 : W0.cell? ⟨w.heap.size, 5, none⟩ = some (.int .u32 (r : Int)) := by rw [cell_of_row _ _ _ _ _ _ G0.out]; rfl
  have hm1 := RdB.litF W0 5 Nd.magic (5, 6)
  have hxm := Ext.alloc W0 (.cells (bvs Nd.magic).toArray 5 (5, 6))
  rw [show (bvs Nd.magic).toArray = #[.int .u8 83, .int .u8 67, .int .u8 79, .int .u8 87, .int .u8 49] from rfl] at hm1 hxm
  have Hm1 := Lib.hid hm1
  have Hxm := Lib.hid hxm
  clear hm1 hxm
  go_enter Tryz.func19, Tryz.ntmps19
  go_wp2_with (go_at_call 49; refine Hid.out ?_)
  refine Lib.hid ?_
  have hs0 : W0.heap.size = w.heap.size + 1 := by rw [← HW0.out]; simp
  rw [HW0.out]
  refine (FR.out _).mono ?_
  rintro e1 w1 ⟨A1, c1, rfl, ho1, hb1⟩
  have hx1 : Ext W0 w1 := Hxm.out.tr hb1
  have hm := Hm1.out.below hb1
  rw [hs0] at hm
  have X1 := Lib.hid hx1
  have hrR := ho1.rd
  have Hs0 := Lib.hid hs0
  clear Hm1 Hxm ho1 hb1 hx1 hs0 hc5
  go_wp2_with (refine wpList_want (by rfl) fun KK hK => wp_app_grow (.tmp 14) (.tmp 19) 25 rfl elemB ⟨w.heap.size + 1, 0, none⟩ 5 5 (bvs Nd.magic) rfl A1 4 c1 (bvs R) rfl 9 rfl (bvs (Nd.magic ++ R)) (bvs_app _ _) hm hrR (by omega) (by omega) (by omega) (by omega) (by omega) ?_; intro A2 c2 w2 ho2 hb2; refine hK _ _ ?_; refine Hid.out ?_)
  refine Lib.hid ?_
  have X2 := Lib.hid (X1.out.tr hb2)
  have Ho2 := Lib.hid (ho2.mono X1.out.size)
  have Xd := Lib.hid (X2.out.tr (Ext.drew w2))
  have hc6 : w2.drew.cell? ⟨w.heap.size, 6, none⟩ = some (.int .u32 (p : Int)) := by rw [cell_of_row _ _ _ _ _ _ ((Xd.out.block _ hlt0).trans G0.out)]; rfl
  have hc7 : w2.drew.cell? ⟨w.heap.size, 7, none⟩ = some (.int .u32 (f : Int)) := by rw [cell_of_row _ _ _ _ _ _ ((Xd.out.block _ hlt0).trans G0.out)]; rfl
  have hltB : w.heap.size < W0.heap.size := hlt0
  clear hm hrR ho2 hb2
  go_wp2_with fail
  refine rb_start W0.heap.size (by kernel_rfl) ?_
  refine rb_take 0 rfl (by kernel_rfl) (by kernel_rfl) (by kernel_rfl) (fun _ _ _ _ h => h) (by rfl) ⟨_, fun w' hx => by (go_simp <;> with_reducible rfl), ?_⟩
  simp only [Act.put, List.setIfInBounds_toArray, List.set_cons_zero, List.set_cons_succ]
  refine rb_take 1 rfl (by kernel_rfl) (by kernel_rfl) (by kernel_rfl) (fun _ _ _ _ h => h) (by rfl) ⟨_, fun w' hx => by (go_simp <;> with_reducible rfl), ?_⟩   -- t22 := fieldAddr 29 t1 5
  simp only [Act.put, List.setIfInBounds_toArray, List.set_cons_zero, List.set_cons_succ]
  refine rb_take 2 rfl (by kernel_rfl) (by kernel_rfl) (by kernel_rfl) (fun _ _ _ _ h => h) (by rfl) ⟨_, fun w' hx => by (go_simp <;> with_reducible rfl), ?_⟩   -- t23 := fieldAddr 27 t22 1
  simp only [Act.put, List.setIfInBounds_toArray, List.set_cons_zero, List.set_cons_succ]
  refine rb_take 3 rfl (by kernel_rfl) (by kernel_rfl) (by kernel_rfl) (fun _ _ _ _ h => h) (by rfl) ⟨_, fun w' hx => by have hcx := (Below.cell hx (show w.heap.size < W0.heap.size from hltB)).trans hc6; (go_simp <;> with_reducible rfl), ?_⟩
  simp only [Act.put, List.setIfInBounds_toArray, List.set_cons_zero, List.set_cons_succ]
  refine rb_take 4 rfl (by kernel_rfl) (by kernel_rfl) (by kernel_rfl) (fun _ _ _ _ h => h) (by rfl) ⟨_, fun w' hx => by (go_simp <;> with_reducible rfl), ?_⟩
  simp only [Act.put, List.setIfInBounds_toArray, List.set_cons_zero, List.set_cons_succ]
  refine rb_take 7 rfl (by kernel_rfl) (by kernel_rfl) (by kernel_rfl) (fun _ _ _ _ h => h) (by rfl) ⟨_, fun w' hx => by (go_simp <;> with_reducible rfl), ?_⟩   -- t28 := fieldAddr 29 t1 5
  simp only [Act.put, List.setIfInBounds_toArray, List.set_cons_zero, List.set_cons_succ]
  refine rb_take 8 rfl (by kernel_rfl) (by kernel_rfl) (by kernel_rfl) (fun _ _ _ _ h => h) (by rfl) ⟨_, fun w' hx => by (go_simp <;> with_reducible rfl), ?_⟩   -- t29 := fieldAddr 27 t28 2
  simp only [Act.put, List.setIfInBounds_toArray, List.set_cons_zero, List.set_cons_succ]
  refine rb_take 9 rfl (by kernel_rfl) (by kernel_rfl) (by kernel_rfl) (fun _ _ _ _ h => h) (by rfl) ⟨_, fun w' hx => by have hcx := (Below.cell hx (show w.heap.size < W0.heap.size from hltB)).trans hc7; (go_simp <;> with_reducible rfl), ?_⟩
  simp only [Act.put, List.setIfInBounds_toArray, List.set_cons_zero, List.set_cons_succ]
  refine rb_take 10 rfl (by kernel_rfl) (by kernel_rfl) (by kernel_rfl) (fun _ _ _ _ h => h) (by rfl) ⟨_, fun w' hx => by (go_simp <;> with_reducible rfl), ?_⟩
  simp only [Act.put, List.setIfInBounds_toArray, List.set_cons_zero, List.set_cons_succ]
  refine rb_call 5 (FG.out _) rfl (by kernel_rfl) (by rfl) (by go_simp) ?_
  rintro e3 w3 ⟨A3, c3, rfl, ho3, hb3⟩
  have Hr3 := Lib.hid ho3.rd
  have X3 := Lib.hid (Xd.out.tr hb3)
  have Ho3 := Lib.hid (Ho2.out.below ((Ext.drew w2).tr hb3))
  refine ⟨_, rfl, Low.ext hb3 Xd.out.size, ?_⟩
  clear ho3 hb3
  simp only [Act.put, List.setIfInBounds_toArray, List.set_cons_zero, List.set_cons_succ]
  refine rb_one 6 rfl (by kernel_rfl) (by rfl) (wp_app (.tmp 21) (.tmp 26) 25 rfl elemB W0.heap.size A2 9 c2 (bvs (Nd.magic ++ R)) rfl A3 4 c3 (bvs G) rfl 13 rfl (bvs (Nd.magic ++ R ++ G)) (bvs_app _ _) Ho3.out Hr3.out (bvs_one _) (by omega) (by omega) X3.out.size (fun A4 c4 w4 ho4 hg4 hr4 => ⟨.inl (below_app (Below.refl _ _) Ho3.out hg4 X3.out.size), ?_⟩))
  simp only [Act.put, List.setIfInBounds_toArray, List.set_cons_zero, List.set_cons_succ]
  have Ho4 := Lib.hid ho4
  have X4 : Hid (Ext W0 w4) := Lib.hid (below_app X3.out Ho3.out hg4 X3.out.size)
  clear ho4 hg4 hr4
  refine rb_call 11 (FF.out _) rfl (by kernel_rfl) (by rfl) (by go_simp) ?_
  rintro e5 w5 ⟨A5, c5, rfl, ho5, hb5⟩
  have Hr5 := Lib.hid ho5.rd
  have X5 := Lib.hid (X4.out.tr hb5)
  have Ho5 := Lib.hid (Ho4.out.below hb5)
  refine ⟨_, rfl, Low.ext hb5 X4.out.size, ?_⟩
  clear ho5 hb5
  simp only [Act.put, List.setIfInBounds_toArray, List.set_cons_zero, List.set_cons_succ]
  refine rb_one 12 rfl (by kernel_rfl) (by rfl) (wp_app (.tmp 27) (.tmp 32) 25 rfl elemB W0.heap.size A4 13 c4 (bvs (Nd.magic ++ R ++ G)) rfl A5 4 c5 (bvs F) rfl 17 rfl (bvs (Nd.magic ++ R ++ G ++ F)) (bvs_app _ _) Ho5.out Hr5.out (bvs_one _) (by omega) (by omega) X5.out.size (fun A6 c6 w6 ho6 hg6 hr6 => ⟨.inl (below_app (Below.refl _ _) Ho5.out hg6 X5.out.size), ?_⟩))
  simp only [Act.put, List.setIfInBounds_toArray, List.set_cons_zero, List.set_cons_succ]
  have Ho6 := Lib.hid ho6
  have X6 : Hid (Ext W0 w6) := Lib.hid (below_app X5.out Ho5.out hg6 X5.out.size)
  clear ho6 hg6 hr6
  refine rb_take 13 rfl (by kernel_rfl) (by kernel_rfl) (by kernel_rfl) (fun _ _ _ _ h => h) (by rfl) ⟨_, fun w' hx => by (go_simp <;> with_reducible rfl), ?_⟩
  simp only [Act.put, List.setIfInBounds_toArray, List.set_cons_zero, List.set_cons_succ]
  refine rb_done (by kernel_rfl) ?_
  have hc8 : w6.cell? ⟨w.heap.size, 8, none⟩ = some (.int .u64 (e : Int)) := by rw [cell_of_row _ _ _ _ _ _ ((X6.out.block _ hlt0).trans G0.out)]; rfl
  clear hc6 hc7 wr1 wp1 wf1
  go_wp2_with (first | (go_at_call 49; refine (FE.out _).mono ?_; rintro e7 w7 ⟨A7, c7, rfl, ho7, hb7⟩; have Hr7 := Lib.hid ho7.rd; have Hb7 := Lib.hid hb7; clear ho7 hb7) | (refine wpList_app (by rfl) (.tmp 34) (.tmp 38) 25 rfl elemB W0.heap.size A6 17 c6 (bvs (Nd.magic ++ R ++ G ++ F)) rfl A7 8 c7 (bvs E) rfl 25 rfl (bvs (Nd.magic ++ R ++ G ++ F ++ E)) (bvs_app _ _) (Ho6.out.below Hb7.out) Hr7.out (bvs_one _) (by omega) (by omega) (X6.out.tr Hb7.out).size ?_; intro A8 c8 w8 ho8 hg8 hr8; have Ho8 := Lib.hid ho8; have X8 : Hid (Ext W0 w8) := Lib.hid (below_app (X6.out.tr Hb7.out) (Ho6.out.below Hb7.out) hg8 (X6.out.tr Hb7.out).size); clear ho8 hg8 hr8; refine Hid.out ?_))
  refine Lib.hid ?_
  have hfl := filled_any A8 (Nd.magic ++ R ++ G ++ F ++ E) c8 w8 Ho8.out.rd' (by rw [← Hlay.out, Nd.lay1_len]; omega)
  have hl25 : (Nd.magic ++ R ++ G ++ F ++ E).length = 25 := by rw [← Hlay.out, Nd.lay1_len]
  rw [hl25, ← Hlay.out] at hfl
  clear hl25 hc8
  go_wp2_with (go_at_call 51; refine hfl.mono ?_; rintro e9 w9 ⟨A9, rfl, ho9, hb9⟩; have Ho9 := Lib.hid ho9; have Hb9 := Lib.hid hb9; clear ho9 hb9)
  go_ret
  have hx8 : Ext w w8 := Hx0.out.tr X8.out
  exact ⟨A9, rfl, Ho9.out.mono hx8.size, hx8.tr Hb9.out⟩


set_option maxRecDepth 100000 in
set_option maxHeartbeats 1000000 in
theorem rbody_4 (lsn : Nat) (ca : Option Addr) (cl : List CellV) (cc next : Nat) (da : Option Addr) (data : List UInt8) (dc r p f e : Nat) (w : World) (hnx : next < 4294967296) (hda : RdB w da data) (hdl : data.length ≤ 238) :
    Calls Tryz.prog 19 #[.agg #[.int .i64 4, .int .u64 (lsn : Int), .slice ca cl.length cc, .int .u32 (next : Int), .slice da data.length dc, .int .u32 (r : Int), .int .u32 (p : Int), .int .u32 (f : Int), .int .u64 (e : Int)]] w fun e' w' => ∃ A', e' = .returned (.slice A' 243 243) ∧ Own w' w.heap.size 5 1 A' 243 243 (bvs (ndFill (Nd.lay4 next data))) ∧ Ext w w' := by
  have hx0 := Ext.alloc w (.cells #[.int .i64 4, .int .u64 (lsn : Int), .slice ca cl.length cc, .int .u32 (next : Int), .slice da data.length dc, .int .u32 (r : Int), .int .u32 (p : Int), .int .u32 (f : Int), .int .u64 (e : Int)] 29)
  have hg0 := heap_alloc_new w (.cells #[.int .i64 4, .int .u64 (lsn : Int), .slice ca cl.length cc, .int .u32 (next : Int), .slice da data.length dc, .int .u32 (r : Int), .int .u32 (p : Int), .int .u32 (f : Int), .int .u64 (e : Int)] 29)
  obtain ⟨W0, hW0⟩ : ∃ W0, W0 = w.alloc (.cells #[.int .i64 4, .int .u64 (lsn : Int), .slice ca cl.length cc, .int .u32 (next : Int), .slice da data.length dc, .int .u32 (r : Int), .int .u32 (p : Int), .int .u32 (f : Int), .int .u64 (e : Int)] 29) := ⟨_, rfl⟩
  rw [← hW0] at hx0 hg0
  have HW0 := Lib.hid (show w.alloc (.cells #[.int .i64 4, .int .u64 (lsn : Int), .slice ca cl.length cc, .int .u32 (next : Int), .slice da data.length dc, .int .u32 (r : Int), .int .u32 (p : Int), .int .u32 (f : Int), .int .u64 (e : Int)] 29) = W0 from hW0.symm)
  have Hx0 := Lib.hid hx0
  have G0 := Lib.hid hg0
  have hlt0 := lt_of_heap hg0
  clear hx0 hg0 hW0
  have hwl : IntKind.u8.wrap (data.length : Int) = ((u8 data.length).toNat : Int) := by rw [u8_nat (by omega)]; simp [IntKind.wrap, IntKind.bits, IntKind.signed]; omega
  have hwn : IntKind.u64.wrap (next : Int) = (next : Int) := by simp [IntKind.wrap, IntKind.bits, IntKind.signed]; omega
  have lN : (Vint.fixed next 4).length = 4 := fx4_len next
  have fN := fun W => ref_fixed01 next (by omega) 4 W
  obtain ⟨N, hN⟩ : ∃ N, N = Vint.fixed next 4 := ⟨_, rfl⟩
  rw [← hN] at lN
  simp only [← hN] at fN
  have hlay : Nd.lay4 next data = N ++ [u8 data.length] ++ data := by unfold Nd.lay4; rw [hN]; simp
  have Hlay := Lib.hid hlay
  have LN := Lib.hid lN
  have FN := Lib.hid fN
  have Hda := Lib.hid hda
  have Hdl := Lib.hid hdl
  have hx1 := Ext.drew W0
  have hc3 : W0.drew.cell? ⟨w.heap.size, 3, none⟩ = some (.int .u32 (next : Int)) := by rw [cell_of_row _ _ _ _ _ _ ((hx1.block _ hlt0).trans G0.out)]; rfl
  have hc4 : W0.drew.cell? ⟨w.heap.size, 4, none⟩ = some (.slice da data.length dc) := by rw [cell_of_row _ _ _ _ _ _ ((hx1.block _ hlt0).trans G0.out)]; rfl
  clear hN fN hlay lN hnx hda hdl hx1
  go_enter Tryz.func19, Tryz.ntmps19
  go_wp2_with fail
  rw [HW0.out]
  refine rg_start (by kernel_rfl) ?_
  refine rg_take 0 rfl (by kernel_rfl) (by kernel_rfl) (by kernel_rfl) (fun _ _ _ _ h => h) (by rfl) ⟨_, fun w' hx => by (go_simp <;> with_reducible rfl), ?_⟩   -- t43 := fieldAddr 29 t1 3
  simp only [Act.put, List.setIfInBounds_toArray, List.set_cons_zero, List.set_cons_succ]
  refine rg_take 1 rfl (by kernel_rfl) (by kernel_rfl) (by kernel_rfl) (fun _ _ _ _ h => h) (by rfl) ⟨_, fun w' hx => by have hcx := hx.load hc3; (go_simp <;> with_reducible rfl), ?_⟩
  simp only [Act.put, List.setIfInBounds_toArray, List.set_cons_zero, List.set_cons_succ]
  refine rg_take 2 rfl (by kernel_rfl) (by kernel_rfl) (by kernel_rfl) (fun _ _ _ _ h => h) (by rfl) ⟨_, fun w' hx => by (go_simp <;> with_reducible rfl), ?_⟩
  simp only [Act.put, List.setIfInBounds_toArray, List.set_cons_zero, List.set_cons_succ]
  refine rg_take 4 rfl (by kernel_rfl) (by kernel_rfl) (by kernel_rfl) (fun _ _ _ _ h => h) (by rfl) ⟨_, fun w' hx => by (go_simp <;> with_reducible rfl), ?_⟩   -- t47 := fieldAddr 29 t1 4
  simp only [Act.put, List.setIfInBounds_toArray, List.set_cons_zero, List.set_cons_succ]
  refine rg_take 5 rfl (by kernel_rfl) (by kernel_rfl) (by kernel_rfl) (fun _ _ _ _ h => h) (by rfl) ⟨_, fun w' hx => by have hcx := hx.load hc4; (go_simp <;> with_reducible rfl), ?_⟩
  simp only [Act.put, List.setIfInBounds_toArray, List.set_cons_zero, List.set_cons_succ]
  refine rg_take 6 rfl (by kernel_rfl) (by kernel_rfl) (by kernel_rfl) (fun _ _ _ _ h => h) (by rfl) ⟨_, fun w' hx => by (go_simp <;> with_reducible rfl), ?_⟩   -- t49 := len(t48)
  simp only [Act.put, List.setIfInBounds_toArray, List.set_cons_zero, List.set_cons_succ]
  refine rg_take 7 rfl (by kernel_rfl) (by kernel_rfl) (by kernel_rfl) (fun _ _ _ _ h => h) (by rfl) ⟨_, fun w' hx => by (go_simp <;> with_reducible rfl), ?_⟩
  simp only [Act.put, List.setIfInBounds_toArray, List.set_cons_zero, List.set_cons_succ]
  -- BRANCH: 3: t46 := scow/scowref01.Fixed#49(t45, 4:i64) | 8: t51 := buildSlice 25 1 [(0, t50)]
  refine rg_par2 3 46 (IsO W0.heap.size 5 N) 8 51 (IsB [u8 data.length]) _ _ rfl rfl (by kernel_rfl) (IsO.st _ _ _) (IsB.st _) (fun _ _ => by rfl) (fun _ _ => by rfl) ?_ ?_ ?_
  · intro v u W hx
    simp only [Act.put, List.setIfInBounds_toArray, List.set_cons_zero, List.set_cons_succ]
    refine yld_call (by go_simp) (FN.out W) ?_
    rintro e2 w2 ⟨A2, c2, rfl, ho2, hb2⟩
    exact ⟨_, rfl, hb2, A2, c2, rfl, ho2.mono (Ext.tr (Ext.drew W0) hx).size⟩
  · intro v u W hx
    simp only [Act.put, List.setIfInBounds_toArray, List.set_cons_zero, List.set_cons_succ]
    exact yld_make ⟨_, _, by (go_simp <;> first | exact ⟨rfl, rfl⟩ | rfl), Ext.alloc _ _, _, 1, rfl, RdB.lit W 5 [u8 data.length], Nat.le_refl _⟩
  rintro v u W hx ⟨A4, c4, rfl, ho4⟩ ⟨A7, c7, rfl, hr7, _⟩
  rw [LN.out] at ho4
  simp only [Act.put, List.setIfInBounds_toArray, List.set_cons_zero, List.set_cons_succ, LN.out]
  have X4 := Lib.hid (Ext.tr (Ext.drew W0) hx)
  clear hx
  refine rg_last 9 rfl (by kernel_rfl) (by kernel_rfl) (by rfl) fun KK hK => wp_app (.tmp 46) (.tmp 51) 25 rfl elemB W0.heap.size A4 4 c4 (bvs N) rfl A7 1 c7 (bvs [u8 data.length]) rfl 5 rfl (bvs (N ++ [u8 data.length])) (bvs_app _ _) ho4 hr7 (bvs_one _) (by omega) (by omega) X4.out.size (fun A5 c5 w5 ho5 hg5 hr5 => hK _ _ ?_)
  simp only [Act.put, List.setIfInBounds_toArray, List.set_cons_zero, List.set_cons_succ]
  refine rg_take 10 rfl (by kernel_rfl) (by kernel_rfl) (by kernel_rfl) (fun _ _ _ _ h => h) (by rfl) ⟨_, fun w' hx => by (go_simp <;> with_reducible rfl), ?_⟩
  simp only [Act.put, List.setIfInBounds_toArray, List.set_cons_zero, List.set_cons_succ]
  refine rg_done (by kernel_rfl) ?_
  have X5 : Hid (Ext W0 w5) := Lib.hid (below_app X4.out ho4 hg5 X4.out.size)
  have Ho5 := Lib.hid ho5
  have hc4' : w5.cell? ⟨w.heap.size, 4, none⟩ = some (.slice da data.length dc) := by rw [cell_of_row _ _ _ _ _ _ ((X5.out.block _ hlt0).trans G0.out)]; rfl
  have hln : (N ++ [u8 data.length]).length = 5 := by rw [List.length_append, LN.out]; rfl
  have hrd5 := Hda.out.below (Hx0.out.tr X5.out)
  have hll := Hdl.out
  clear hc3 hc4 ho4 hg5 ho5 hr5
  go_wp2_with (refine wpList_app (by rfl) (.tmp 53) (.tmp 55) 25 rfl elemB W0.heap.size A5 5 c5 (bvs (N ++ [u8 data.length])) rfl da data.length dc (bvs data) rfl (5 + data.length) rfl (bvs (N ++ [u8 data.length] ++ data)) (bvs_app _ _) Ho5.out hrd5 (bvs_one _) (by omega) (by omega) X5.out.size ?_; intro A8 c8 w8 ho8 hg8 hr8; have Ho8 := Lib.hid ho8; have X8 : Hid (Ext W0 w8) := Lib.hid (below_app X5.out Ho5.out hg8 X5.out.size); clear ho8 hg8 hr8; refine Hid.out ?_)
  refine Lib.hid ?_
  have hl25 : (N ++ [u8 data.length] ++ data).length = 5 + data.length := by rw [← Hlay.out, Nd.lay4_len]
  have hfl := filled_any A8 (N ++ [u8 data.length] ++ data) c8 w8 Ho8.out.rd' (by omega)
  rw [hl25, ← Hlay.out] at hfl
  clear hl25 hc4' hrd5
  go_wp2_with (go_at_call 51; refine hfl.mono ?_; rintro e9 w9 ⟨A9, rfl, ho9, hb9⟩; have Ho9 := Lib.hid ho9; have Hb9 := Lib.hid hb9; clear ho9 hb9)
  go_ret
  have hx8 : Ext w w8 := Hx0.out.tr X8.out
  exact ⟨A9, rfl, Ho9.out.mono hx8.size, hx8.tr Hb9.out⟩
end Go.Proofs.YtkpagmfaccmiaaaGreat

/- Contracts: scowref08.rising, May (layer 08). Printed by wip/tools/gen_nya08.py. -/

namespace Go.Proofs.YtkpagmfaccmiaaaGreat

open Go.RowKit

attribute [local go_sem] Oper.semAt_some

theorem less_ltB : ∀ (a b : List UInt8), Op.bytesLess a b = ltB a b
  | [], [] => rfl
  | _ :: _, [] => rfl
  | [], _ :: _ => rfl
  | x :: a, y :: b => by
    unfold Op.bytesLess ltB
    rw [less_ltB a b]
    by_cases h1 : x < y
    · simp [h1]
    · by_cases h2 : y < x
      · have : ¬ x = y := fun e => by rw [e] at h2; exact absurd h2 (UInt8.lt_irrefl y)
        simp [h1, h2, this]
      · have : x = y := UInt8.le_antisymm (UInt8.not_lt.1 h2) (UInt8.not_lt.1 h1)
        simp [this, UInt8.lt_irrefl]
section

variable {P : Program} {o : Oper} {a : Act} {w : World} {x y : Operand} {t u : TypeId} {p q : List UInt8}

theorem ex_geqS (ho : o.op = .binOp .geq t x y u) (hx : a.eval x = .string ⟨p.toArray⟩) (hy : a.eval y = .string ⟨q.toArray⟩) : (execOp a.eval o).run P w = .ok (.value (.bool (!(ltB p q)))) w := by
  rw [← less_ltB]
  unfold execOp
  simp only [ho, hx, hy]
  go_simp
end


set_option maxRecDepth 100000 in
set_option maxHeartbeats 1000000 in
theorem rising_any (A : Option Addr) (l : List CellV) (c : Nat) (w : World) (hA : RdC w A l) (hl : l.length ≤ 1000000) : Calls Tryz.prog 46 #[.slice A l.length c] w fun e w' => e = .returned (.bool (Nd.riseB (l.map CellV.x))) ∧ Ext w w' := by
  have hbad : ∀ j (h : j + 1 < l.length), ltB (l[j]'(by omega)).x.key l[j + 1].x.key = false → Nd.riseB (l.map CellV.x) = false := by
    intro j h e
    cases hr : Nd.riseB (l.map CellV.x) with
    | false => rfl
    | true =>
      have := (Nd.riseB_iff _).1 hr j (by simpa using h)
      rw [List.getElem_map, List.getElem_map, e] at this
      cases this
  have hgood : (∀ j (h : j + 1 < l.length), ltB (l[j]'(by omega)).x.key l[j + 1].x.key = true) → Nd.riseB (l.map CellV.x) = true := by
    intro h
    refine (Nd.riseB_iff _).2 fun j hj => ?_
    rw [List.getElem_map, List.getElem_map]
    exact h j (by simpa using hj)
  obtain ⟨R, hR⟩ : ∃ R, R = Nd.riseB (l.map CellV.x) := ⟨_, rfl⟩
  rw [← hR] at hbad hgood ⊢
  clear hR
  have Hbad := Lib.hid hbad
  have Hgood := Lib.hid hgood
  clear hbad hgood
  go_enter Tryz.func46, Tryz.ntmps46
  go_wp2_with fail
  go_loopw [3] (fun i wr => ∃ k : Nat, k ≤ l.length ∧ i = .int .i64 ((k : Int) + 1) ∧ (∀ j (h : j + 1 < l.length), j < k → ltB (l[j]'(by omega)).x.key l[j + 1].x.key = true) ∧ Ext w wr) (fun i _ => l.length + 2 - (intOf i).toNat)
  case atStart => exact ⟨0, by omega, rfl, fun j _ h => absurd h (by omega), Ext.refl _⟩
  case round =>
    obtain ⟨k, hk, rfl, hyes, hbw⟩ := hrel
    have Hyes := Lib.hid hyes
    have Hbw := Lib.hid hbw
    clear hyes hbw
    by_cases h : k + 1 < l.length
    · have ik : (k : Int) + 1 < (l.length : Int) := by omega
      have w1 : IntKind.i64.wrap ((k : Int) + 1 - 1) = (k : Int) := by rw [IntKind.wrap_i64]; omega
      have w1' : IntKind.i64.wrap (k : Int) = (k : Int) := by rw [IntKind.wrap_i64]; omega
      have w2 : IntKind.i64.wrap ((k : Int) + 1 + 1) = (k : Int) + 1 + 1 := by rw [IntKind.wrap_i64]; omega
      have hkk : k < l.length := by omega
      have ik0 : (0 : Int) ≤ (k : Int) := by omega
      have ik1 : (k : Int) < (l.length : Int) := by omega
      have ik2 : (0 : Int) ≤ (k : Int) + 1 := by omega
      have hA1 := hA.below (Hbw.out.tr (Ext.drew wr))
      obtain ⟨ad, e0, hc1, hi1⟩ := hA1.at_ hkk
      obtain ⟨bd, e0', hc2, hi2⟩ := hA1.at_ h
      subst e0
      injection e0' with e0'
      subst e0'
      have e1 := ckey_at hc1
      have e2 := ckey_at hc2
      have hp := hi1.kr
      have hq := hi2.kr
      have Hb0 := Lib.hid (Hbad.out k h)
      have Hn0 : ltB l[k].x.key l[k + 1].x.key = true → Hid (∀ j (h : j + 1 < l.length), j < k + 1 → ltB (l[j]'(by omega)).x.key l[j + 1].x.key = true) := by
        intro hf
        show ∀ j (h : j + 1 < l.length), j < k + 1 → ltB (l[j]'(by omega)).x.key l[j + 1].x.key = true
        intro j hj hjk
        by_cases e : j = k
        · subst e; exact hf
        · exact Hyes.out j hj (by omega)
      have hto : ((k : Int) + 1).toNat = k + 1 := by omega
      generalize l[k + 1].x.key = q at *
      generalize l[k].x.key = p at *
      generalize l[k].ka = ka at *
      generalize l[k + 1].ka = kb at *
      generalize l[k].kc = kc at *
      generalize l[k + 1].kc = kd at *
      clear hc1 hc2 hi1 hi2
      obtain ⟨r, hr⟩ : ∃ r, r = ltB p q := ⟨_, rfl⟩
      rw [← hr] at Hb0 Hn0
      have Hr := Lib.hid hr
      clear hr
      go_wp2_with fail
      refine rg_start (by kernel_rfl) ?_
      refine rg_take 0 rfl (by kernel_rfl) (by kernel_rfl) (by kernel_rfl) (fun _ _ _ _ h => h) (by rfl) ⟨_, fun w' hx => by (go_simp <;> with_reducible rfl), ?_⟩
      simp only [Act.put, List.setIfInBounds_toArray, List.set_cons_zero, List.set_cons_succ]
      refine rg_take 1 rfl (by kernel_rfl) (by kernel_rfl) (by kernel_rfl) (fun _ _ _ _ h => h) (by rfl) ⟨_, fun w' hx => by (go_simp <;> with_reducible rfl), ?_⟩
      simp only [Act.put, List.setIfInBounds_toArray, List.set_cons_zero, List.set_cons_succ]
      refine rg_take 2 rfl (by kernel_rfl) (by kernel_rfl) (by kernel_rfl) (fun _ _ _ _ h => h) (by rfl) ⟨.int .i64 (k : Int), fun w' hx => by (go_simp <;> with_reducible rfl), ?_⟩
      simp only [Act.put, List.setIfInBounds_toArray, List.set_cons_zero, List.set_cons_succ]
      refine rg_take 3 rfl (by kernel_rfl) (by kernel_rfl) (by kernel_rfl) (fun _ _ _ _ h => h) (by rfl) ⟨_, fun w' hx => by (go_simp <;> with_reducible rfl), ?_⟩   -- t13 := indexAddr 23 t10 t12
      simp only [Act.put, List.setIfInBounds_toArray, List.set_cons_zero, List.set_cons_succ]
      refine rg_take 4 rfl (by kernel_rfl) (by kernel_rfl) (by kernel_rfl) (fun _ _ _ _ h => h) (by rfl) ⟨_, fun w' hx => by (go_simp <;> with_reducible rfl), ?_⟩   -- t14 := fieldAddr 43 t13 0
      simp only [Act.put, List.setIfInBounds_toArray, List.set_cons_zero, List.set_cons_succ]
      refine rg_take 5 rfl (by kernel_rfl) (by kernel_rfl) (by kernel_rfl) (fun _ _ _ _ h => h) (by rfl) ⟨_, fun w' hx => by have hcx := hx.load e1; (go_simp <;> with_reducible rfl), ?_⟩
      simp only [Act.put, List.setIfInBounds_toArray, List.set_cons_zero, List.set_cons_succ]
      refine rg_take 6 rfl (by kernel_rfl) (by kernel_rfl) (by kernel_rfl) (fun _ _ _ _ h => h) (by rfl) ⟨.string ⟨(p).toArray⟩, fun w' hx => ex_str rfl rfl Tryz.underlying25 Tryz.underlying5 Tryz.underlying9 ((hp.below hx)) rfl, ?_⟩
      simp only [Act.put, List.setIfInBounds_toArray, List.set_cons_zero, List.set_cons_succ]
      refine rg_take 7 rfl (by kernel_rfl) (by kernel_rfl) (by kernel_rfl) (fun _ _ _ _ h => h) (by rfl) ⟨_, fun w' hx => by (go_simp <;> with_reducible rfl), ?_⟩
      simp only [Act.put, List.setIfInBounds_toArray, List.set_cons_zero, List.set_cons_succ]
      refine rg_take 8 rfl (by kernel_rfl) (by kernel_rfl) (by kernel_rfl) (fun _ _ _ _ h => h) (by rfl) ⟨_, fun w' hx => by (go_simp <;> with_reducible rfl), ?_⟩
      simp only [Act.put, List.setIfInBounds_toArray, List.set_cons_zero, List.set_cons_succ]
      refine rg_take 9 rfl (by kernel_rfl) (by kernel_rfl) (by kernel_rfl) (fun _ _ _ _ h => h) (by rfl) ⟨_, fun w' hx => by (go_simp <;> with_reducible rfl), ?_⟩   -- t19 := indexAddr 23 t17 t18
      simp only [Act.put, List.setIfInBounds_toArray, List.set_cons_zero, List.set_cons_succ]
      refine rg_take 10 rfl (by kernel_rfl) (by kernel_rfl) (by kernel_rfl) (fun _ _ _ _ h => h) (by rfl) ⟨_, fun w' hx => by (go_simp <;> with_reducible rfl), ?_⟩   -- t20 := fieldAddr 43 t19 0
      simp only [Act.put, List.setIfInBounds_toArray, List.set_cons_zero, List.set_cons_succ]
      refine rg_take 11 rfl (by kernel_rfl) (by kernel_rfl) (by kernel_rfl) (fun _ _ _ _ h => h) (by rfl) ⟨_, fun w' hx => by have hcx := hx.load e2; (go_simp <;> with_reducible rfl), ?_⟩
      simp only [Act.put, List.setIfInBounds_toArray, List.set_cons_zero, List.set_cons_succ]
      refine rg_take 12 rfl (by kernel_rfl) (by kernel_rfl) (by kernel_rfl) (fun _ _ _ _ h => h) (by rfl) ⟨.string ⟨(q).toArray⟩, fun w' hx => ex_str rfl rfl Tryz.underlying25 Tryz.underlying5 Tryz.underlying9 ((hq.below hx)) rfl, ?_⟩
      simp only [Act.put, List.setIfInBounds_toArray, List.set_cons_zero, List.set_cons_succ]
      refine rg_take 13 rfl (by kernel_rfl) (by kernel_rfl) (by kernel_rfl) (fun _ _ _ _ h => h) (by rfl) ⟨.bool (!(ltB p q)), fun w' hx => ex_geqS rfl rfl rfl, ?_⟩
      simp only [Act.put, List.setIfInBounds_toArray, List.set_cons_zero, List.set_cons_succ]
      refine rg_done (by kernel_rfl) ?_
      rw [← Hr.out]
      cases r with
      | true =>
        have Hn1 := Hn0 rfl
        go_wp2_with fail
        go_roundw
        case rel => exact ⟨k + 1, by omega, by first | rfl | go_num, Hn1.out, Hbw.out.tr (Ext.drew wr)⟩
        case measure => simp [intOf]; omega
      | false =>
        go_wp2_with fail
        go_ret
        exact ⟨by rw [Hb0.out (by first | rfl | trivial)]; rfl, Hbw.out.tr (Ext.drew wr)⟩
    · have ik : ¬ (k : Int) + 1 < (l.length : Int) := by omega
      go_wp2_with fail
      go_ret
      exact ⟨by rw [Hgood.out (fun j hj => Hyes.out j hj (by omega))]; rfl, Hbw.out⟩


set_option maxRecDepth 100000 in
set_option maxHeartbeats 1000000 in
theorem mayno_1_d (lsn : Nat) (ca : Option Addr) (cl : List CellV) (cc next : Nat) (da : Option Addr) (data : List UInt8) (dc r p f e : Nat) (w : World) (h_d : ((data.length : Int) != 0) = true) :
    Calls Tryz.prog 17 #[.agg #[.int .i64 1, .int .u64 (lsn : Int), .slice ca cl.length cc, .int .u32 (next : Int), .slice da data.length dc, .int .u32 (r : Int), .int .u32 (p : Int), .int .u32 (f : Int), .int .u64 (e : Int)]] w fun e' w' => e' = .returned (.bool (false)) ∧ Ext w w' := by
  have hx := Ext.alloc w (.cells #[.int .i64 1, .int .u64 (lsn : Int), .slice ca cl.length cc, .int .u32 (next : Int), .slice da data.length dc, .int .u32 (r : Int), .int .u32 (p : Int), .int .u32 (f : Int), .int .u64 (e : Int)] 29)
  have Hx := Lib.hid hx
  clear hx
  go_enter Tryz.func17, Tryz.ntmps17
  go_wp2_with fail
  go_ret
  exact ⟨rfl, Hx.out⟩


set_option maxRecDepth 100000 in
set_option maxHeartbeats 1000000 in
theorem mayno_1_n (lsn : Nat) (ca : Option Addr) (cl : List CellV) (cc next : Nat) (da : Option Addr) (data : List UInt8) (dc r p f e : Nat) (w : World) (h_d : ((data.length : Int) != 0) = false) (h_n : ((next : Int) != 0) = true) :
    Calls Tryz.prog 17 #[.agg #[.int .i64 1, .int .u64 (lsn : Int), .slice ca cl.length cc, .int .u32 (next : Int), .slice da data.length dc, .int .u32 (r : Int), .int .u32 (p : Int), .int .u32 (f : Int), .int .u64 (e : Int)]] w fun e' w' => e' = .returned (.bool (false)) ∧ Ext w w' := by
  have hx := Ext.alloc w (.cells #[.int .i64 1, .int .u64 (lsn : Int), .slice ca cl.length cc, .int .u32 (next : Int), .slice da data.length dc, .int .u32 (r : Int), .int .u32 (p : Int), .int .u32 (f : Int), .int .u64 (e : Int)] 29)
  have Hx := Lib.hid hx
  clear hx
  go_enter Tryz.func17, Tryz.ntmps17
  go_wp2_with fail
  go_ret
  exact ⟨rfl, Hx.out⟩


set_option maxRecDepth 100000 in
set_option maxHeartbeats 1000000 in
theorem mayno_1_c (lsn : Nat) (ca : Option Addr) (cl : List CellV) (cc next : Nat) (da : Option Addr) (data : List UInt8) (dc r p f e : Nat) (w : World) (h_d : ((data.length : Int) != 0) = false) (h_n : ((next : Int) != 0) = false) (h_c : ((cl.length : Int) != 0) = true) :
    Calls Tryz.prog 17 #[.agg #[.int .i64 1, .int .u64 (lsn : Int), .slice ca cl.length cc, .int .u32 (next : Int), .slice da data.length dc, .int .u32 (r : Int), .int .u32 (p : Int), .int .u32 (f : Int), .int .u64 (e : Int)]] w fun e' w' => e' = .returned (.bool (false)) ∧ Ext w w' := by
  have hx := Ext.alloc w (.cells #[.int .i64 1, .int .u64 (lsn : Int), .slice ca cl.length cc, .int .u32 (next : Int), .slice da data.length dc, .int .u32 (r : Int), .int .u32 (p : Int), .int .u32 (f : Int), .int .u64 (e : Int)] 29)
  have Hx := Lib.hid hx
  clear hx
  go_enter Tryz.func17, Tryz.ntmps17
  go_wp2_with fail
  go_ret
  exact ⟨rfl, Hx.out⟩


set_option maxRecDepth 100000 in
set_option maxHeartbeats 1000000 in
theorem mayno_2_h (lsn : Nat) (ca : Option Addr) (cl : List CellV) (cc next : Nat) (da : Option Addr) (data : List UInt8) (dc r p f e : Nat) (w : World) (h_h : ((Hd.mk r p f e).same Hd.zero) = false) :
    Calls Tryz.prog 17 #[.agg #[.int .i64 2, .int .u64 (lsn : Int), .slice ca cl.length cc, .int .u32 (next : Int), .slice da data.length dc, .int .u32 (r : Int), .int .u32 (p : Int), .int .u32 (f : Int), .int .u64 (e : Int)]] w fun e' w' => e' = .returned (.bool (false)) ∧ Ext w w' := by
  have hx := Ext.alloc w (.cells #[.int .i64 2, .int .u64 (lsn : Int), .slice ca cl.length cc, .int .u32 (next : Int), .slice da data.length dc, .int .u32 (r : Int), .int .u32 (p : Int), .int .u32 (f : Int), .int .u64 (e : Int)] 29)
  have Hx := Lib.hid hx
  have heq := fun W => run_neqHead ⟨r, p, f, e⟩ Hd.zero W
  rw [h_h] at heq
  simp only [Bool.not_false, Bool.not_true] at heq
  have Heq := Lib.hid heq
  clear heq h_h
  clear hx
  go_enter Tryz.func17, Tryz.ntmps17
  go_wp2_with (refine wpList_neqS (t := 27) rfl (by rfl) rfl rfl Heq.out (fun W => guardHeadN W _ _ _ _) ?_; refine Hid.out ?_)
  refine Lib.hid ?_
  go_wp2_with fail
  go_ret
  exact ⟨rfl, Hx.out⟩


set_option maxRecDepth 100000 in
set_option maxHeartbeats 1000000 in
theorem mayno_2_d (lsn : Nat) (ca : Option Addr) (cl : List CellV) (cc next : Nat) (da : Option Addr) (data : List UInt8) (dc r p f e : Nat) (w : World) (h_h : ((Hd.mk r p f e).same Hd.zero) = true) (h_d : ((data.length : Int) != 0) = true) :
    Calls Tryz.prog 17 #[.agg #[.int .i64 2, .int .u64 (lsn : Int), .slice ca cl.length cc, .int .u32 (next : Int), .slice da data.length dc, .int .u32 (r : Int), .int .u32 (p : Int), .int .u32 (f : Int), .int .u64 (e : Int)]] w fun e' w' => e' = .returned (.bool (false)) ∧ Ext w w' := by
  have hx := Ext.alloc w (.cells #[.int .i64 2, .int .u64 (lsn : Int), .slice ca cl.length cc, .int .u32 (next : Int), .slice da data.length dc, .int .u32 (r : Int), .int .u32 (p : Int), .int .u32 (f : Int), .int .u64 (e : Int)] 29)
  have Hx := Lib.hid hx
  have heq := fun W => run_neqHead ⟨r, p, f, e⟩ Hd.zero W
  rw [h_h] at heq
  simp only [Bool.not_false, Bool.not_true] at heq
  have Heq := Lib.hid heq
  clear heq h_h
  clear hx
  go_enter Tryz.func17, Tryz.ntmps17
  go_wp2_with (refine wpList_neqS (t := 27) rfl (by rfl) rfl rfl Heq.out (fun W => guardHeadN W _ _ _ _) ?_; refine Hid.out ?_)
  refine Lib.hid ?_
  go_wp2_with fail
  go_ret
  exact ⟨rfl, Hx.out⟩


set_option maxRecDepth 100000 in
set_option maxHeartbeats 1000000 in
theorem mayno_2_n (lsn : Nat) (ca : Option Addr) (cl : List CellV) (cc next : Nat) (da : Option Addr) (data : List UInt8) (dc r p f e : Nat) (w : World) (h_h : ((Hd.mk r p f e).same Hd.zero) = true) (h_d : ((data.length : Int) != 0) = false) (h_n : ((next : Int) != 0) = true) :
    Calls Tryz.prog 17 #[.agg #[.int .i64 2, .int .u64 (lsn : Int), .slice ca cl.length cc, .int .u32 (next : Int), .slice da data.length dc, .int .u32 (r : Int), .int .u32 (p : Int), .int .u32 (f : Int), .int .u64 (e : Int)]] w fun e' w' => e' = .returned (.bool (false)) ∧ Ext w w' := by
  have hx := Ext.alloc w (.cells #[.int .i64 2, .int .u64 (lsn : Int), .slice ca cl.length cc, .int .u32 (next : Int), .slice da data.length dc, .int .u32 (r : Int), .int .u32 (p : Int), .int .u32 (f : Int), .int .u64 (e : Int)] 29)
  have Hx := Lib.hid hx
  have heq := fun W => run_neqHead ⟨r, p, f, e⟩ Hd.zero W
  rw [h_h] at heq
  simp only [Bool.not_false, Bool.not_true] at heq
  have Heq := Lib.hid heq
  clear heq h_h
  clear hx
  go_enter Tryz.func17, Tryz.ntmps17
  go_wp2_with (refine wpList_neqS (t := 27) rfl (by rfl) rfl rfl Heq.out (fun W => guardHeadN W _ _ _ _) ?_; refine Hid.out ?_)
  refine Lib.hid ?_
  go_wp2_with fail
  go_ret
  exact ⟨rfl, Hx.out⟩


set_option maxRecDepth 100000 in
set_option maxHeartbeats 1000000 in
theorem mayno_3_h (lsn : Nat) (ca : Option Addr) (cl : List CellV) (cc next : Nat) (da : Option Addr) (data : List UInt8) (dc r p f e : Nat) (w : World) (h_h : ((Hd.mk r p f e).same Hd.zero) = false) :
    Calls Tryz.prog 17 #[.agg #[.int .i64 3, .int .u64 (lsn : Int), .slice ca cl.length cc, .int .u32 (next : Int), .slice da data.length dc, .int .u32 (r : Int), .int .u32 (p : Int), .int .u32 (f : Int), .int .u64 (e : Int)]] w fun e' w' => e' = .returned (.bool (false)) ∧ Ext w w' := by
  have hx := Ext.alloc w (.cells #[.int .i64 3, .int .u64 (lsn : Int), .slice ca cl.length cc, .int .u32 (next : Int), .slice da data.length dc, .int .u32 (r : Int), .int .u32 (p : Int), .int .u32 (f : Int), .int .u64 (e : Int)] 29)
  have Hx := Lib.hid hx
  have heq := fun W => run_neqHead ⟨r, p, f, e⟩ Hd.zero W
  rw [h_h] at heq
  simp only [Bool.not_false, Bool.not_true] at heq
  have Heq := Lib.hid heq
  clear heq h_h
  clear hx
  go_enter Tryz.func17, Tryz.ntmps17
  go_wp2_with (refine wpList_neqS (t := 27) rfl (by rfl) rfl rfl Heq.out (fun W => guardHeadN W _ _ _ _) ?_; refine Hid.out ?_)
  refine Lib.hid ?_
  go_wp2_with fail
  go_ret
  exact ⟨rfl, Hx.out⟩


set_option maxRecDepth 100000 in
set_option maxHeartbeats 1000000 in
theorem mayno_3_d (lsn : Nat) (ca : Option Addr) (cl : List CellV) (cc next : Nat) (da : Option Addr) (data : List UInt8) (dc r p f e : Nat) (w : World) (h_h : ((Hd.mk r p f e).same Hd.zero) = true) (h_d : ((data.length : Int) != 0) = true) :
    Calls Tryz.prog 17 #[.agg #[.int .i64 3, .int .u64 (lsn : Int), .slice ca cl.length cc, .int .u32 (next : Int), .slice da data.length dc, .int .u32 (r : Int), .int .u32 (p : Int), .int .u32 (f : Int), .int .u64 (e : Int)]] w fun e' w' => e' = .returned (.bool (false)) ∧ Ext w w' := by
  have hx := Ext.alloc w (.cells #[.int .i64 3, .int .u64 (lsn : Int), .slice ca cl.length cc, .int .u32 (next : Int), .slice da data.length dc, .int .u32 (r : Int), .int .u32 (p : Int), .int .u32 (f : Int), .int .u64 (e : Int)] 29)
  have Hx := Lib.hid hx
  have heq := fun W => run_neqHead ⟨r, p, f, e⟩ Hd.zero W
  rw [h_h] at heq
  simp only [Bool.not_false, Bool.not_true] at heq
  have Heq := Lib.hid heq
  clear heq h_h
  clear hx
  go_enter Tryz.func17, Tryz.ntmps17
  go_wp2_with (refine wpList_neqS (t := 27) rfl (by rfl) rfl rfl Heq.out (fun W => guardHeadN W _ _ _ _) ?_; refine Hid.out ?_)
  refine Lib.hid ?_
  go_wp2_with fail
  go_ret
  exact ⟨rfl, Hx.out⟩


set_option maxRecDepth 100000 in
set_option maxHeartbeats 1000000 in
theorem mayno_3_n (lsn : Nat) (ca : Option Addr) (cl : List CellV) (cc next : Nat) (da : Option Addr) (data : List UInt8) (dc r p f e : Nat) (w : World) (h_h : ((Hd.mk r p f e).same Hd.zero) = true) (h_d : ((data.length : Int) != 0) = false) (h_n : ((next : Int) != 0) = true) :
    Calls Tryz.prog 17 #[.agg #[.int .i64 3, .int .u64 (lsn : Int), .slice ca cl.length cc, .int .u32 (next : Int), .slice da data.length dc, .int .u32 (r : Int), .int .u32 (p : Int), .int .u32 (f : Int), .int .u64 (e : Int)]] w fun e' w' => e' = .returned (.bool (false)) ∧ Ext w w' := by
  have hx := Ext.alloc w (.cells #[.int .i64 3, .int .u64 (lsn : Int), .slice ca cl.length cc, .int .u32 (next : Int), .slice da data.length dc, .int .u32 (r : Int), .int .u32 (p : Int), .int .u32 (f : Int), .int .u64 (e : Int)] 29)
  have Hx := Lib.hid hx
  have heq := fun W => run_neqHead ⟨r, p, f, e⟩ Hd.zero W
  rw [h_h] at heq
  simp only [Bool.not_false, Bool.not_true] at heq
  have Heq := Lib.hid heq
  clear heq h_h
  clear hx
  go_enter Tryz.func17, Tryz.ntmps17
  go_wp2_with (refine wpList_neqS (t := 27) rfl (by rfl) rfl rfl Heq.out (fun W => guardHeadN W _ _ _ _) ?_; refine Hid.out ?_)
  refine Lib.hid ?_
  go_wp2_with fail
  go_ret
  exact ⟨rfl, Hx.out⟩


set_option maxRecDepth 100000 in
set_option maxHeartbeats 1000000 in
theorem mayno_4_h (lsn : Nat) (ca : Option Addr) (cl : List CellV) (cc next : Nat) (da : Option Addr) (data : List UInt8) (dc r p f e : Nat) (w : World) (h_h : ((Hd.mk r p f e).same Hd.zero) = false) :
    Calls Tryz.prog 17 #[.agg #[.int .i64 4, .int .u64 (lsn : Int), .slice ca cl.length cc, .int .u32 (next : Int), .slice da data.length dc, .int .u32 (r : Int), .int .u32 (p : Int), .int .u32 (f : Int), .int .u64 (e : Int)]] w fun e' w' => e' = .returned (.bool (false)) ∧ Ext w w' := by
  have hx := Ext.alloc w (.cells #[.int .i64 4, .int .u64 (lsn : Int), .slice ca cl.length cc, .int .u32 (next : Int), .slice da data.length dc, .int .u32 (r : Int), .int .u32 (p : Int), .int .u32 (f : Int), .int .u64 (e : Int)] 29)
  have Hx := Lib.hid hx
  have heq := fun W => run_neqHead ⟨r, p, f, e⟩ Hd.zero W
  rw [h_h] at heq
  simp only [Bool.not_false, Bool.not_true] at heq
  have Heq := Lib.hid heq
  clear heq h_h
  clear hx
  go_enter Tryz.func17, Tryz.ntmps17
  go_wp2_with (refine wpList_neqS (t := 27) rfl (by rfl) rfl rfl Heq.out (fun W => guardHeadN W _ _ _ _) ?_; refine Hid.out ?_)
  refine Lib.hid ?_
  go_wp2_with fail
  go_ret
  exact ⟨rfl, Hx.out⟩


set_option maxRecDepth 100000 in
set_option maxHeartbeats 1000000 in
theorem mayno_4_c (lsn : Nat) (ca : Option Addr) (cl : List CellV) (cc next : Nat) (da : Option Addr) (data : List UInt8) (dc r p f e : Nat) (w : World) (h_h : ((Hd.mk r p f e).same Hd.zero) = true) (h_c : ((cl.length : Int) != 0) = true) :
    Calls Tryz.prog 17 #[.agg #[.int .i64 4, .int .u64 (lsn : Int), .slice ca cl.length cc, .int .u32 (next : Int), .slice da data.length dc, .int .u32 (r : Int), .int .u32 (p : Int), .int .u32 (f : Int), .int .u64 (e : Int)]] w fun e' w' => e' = .returned (.bool (false)) ∧ Ext w w' := by
  have hx := Ext.alloc w (.cells #[.int .i64 4, .int .u64 (lsn : Int), .slice ca cl.length cc, .int .u32 (next : Int), .slice da data.length dc, .int .u32 (r : Int), .int .u32 (p : Int), .int .u32 (f : Int), .int .u64 (e : Int)] 29)
  have Hx := Lib.hid hx
  have heq := fun W => run_neqHead ⟨r, p, f, e⟩ Hd.zero W
  rw [h_h] at heq
  simp only [Bool.not_false, Bool.not_true] at heq
  have Heq := Lib.hid heq
  clear heq h_h
  clear hx
  go_enter Tryz.func17, Tryz.ntmps17
  go_wp2_with (refine wpList_neqS (t := 27) rfl (by rfl) rfl rfl Heq.out (fun W => guardHeadN W _ _ _ _) ?_; refine Hid.out ?_)
  refine Lib.hid ?_
  go_wp2_with fail
  go_ret
  exact ⟨rfl, Hx.out⟩


set_option maxRecDepth 100000 in
set_option maxHeartbeats 1000000 in
theorem mayno_5_h (lsn : Nat) (ca : Option Addr) (cl : List CellV) (cc next : Nat) (da : Option Addr) (data : List UInt8) (dc r p f e : Nat) (w : World) (h_h : ((Hd.mk r p f e).same Hd.zero) = false) :
    Calls Tryz.prog 17 #[.agg #[.int .i64 5, .int .u64 (lsn : Int), .slice ca cl.length cc, .int .u32 (next : Int), .slice da data.length dc, .int .u32 (r : Int), .int .u32 (p : Int), .int .u32 (f : Int), .int .u64 (e : Int)]] w fun e' w' => e' = .returned (.bool (false)) ∧ Ext w w' := by
  have hx := Ext.alloc w (.cells #[.int .i64 5, .int .u64 (lsn : Int), .slice ca cl.length cc, .int .u32 (next : Int), .slice da data.length dc, .int .u32 (r : Int), .int .u32 (p : Int), .int .u32 (f : Int), .int .u64 (e : Int)] 29)
  have Hx := Lib.hid hx
  have heq := fun W => run_neqHead ⟨r, p, f, e⟩ Hd.zero W
  rw [h_h] at heq
  simp only [Bool.not_false, Bool.not_true] at heq
  have Heq := Lib.hid heq
  clear heq h_h
  clear hx
  go_enter Tryz.func17, Tryz.ntmps17
  go_wp2_with (refine wpList_neqS (t := 27) rfl (by rfl) rfl rfl Heq.out (fun W => guardHeadN W _ _ _ _) ?_; refine Hid.out ?_)
  refine Lib.hid ?_
  go_wp2_with fail
  go_ret
  exact ⟨rfl, Hx.out⟩


set_option maxRecDepth 100000 in
set_option maxHeartbeats 1000000 in
theorem mayno_5_d (lsn : Nat) (ca : Option Addr) (cl : List CellV) (cc next : Nat) (da : Option Addr) (data : List UInt8) (dc r p f e : Nat) (w : World) (h_h : ((Hd.mk r p f e).same Hd.zero) = true) (h_d : ((data.length : Int) != 0) = true) :
    Calls Tryz.prog 17 #[.agg #[.int .i64 5, .int .u64 (lsn : Int), .slice ca cl.length cc, .int .u32 (next : Int), .slice da data.length dc, .int .u32 (r : Int), .int .u32 (p : Int), .int .u32 (f : Int), .int .u64 (e : Int)]] w fun e' w' => e' = .returned (.bool (false)) ∧ Ext w w' := by
  have hx := Ext.alloc w (.cells #[.int .i64 5, .int .u64 (lsn : Int), .slice ca cl.length cc, .int .u32 (next : Int), .slice da data.length dc, .int .u32 (r : Int), .int .u32 (p : Int), .int .u32 (f : Int), .int .u64 (e : Int)] 29)
  have Hx := Lib.hid hx
  have heq := fun W => run_neqHead ⟨r, p, f, e⟩ Hd.zero W
  rw [h_h] at heq
  simp only [Bool.not_false, Bool.not_true] at heq
  have Heq := Lib.hid heq
  clear heq h_h
  clear hx
  go_enter Tryz.func17, Tryz.ntmps17
  go_wp2_with (refine wpList_neqS (t := 27) rfl (by rfl) rfl rfl Heq.out (fun W => guardHeadN W _ _ _ _) ?_; refine Hid.out ?_)
  refine Lib.hid ?_
  go_wp2_with fail
  go_ret
  exact ⟨rfl, Hx.out⟩


set_option maxRecDepth 100000 in
set_option maxHeartbeats 1000000 in
theorem mayno_5_c (lsn : Nat) (ca : Option Addr) (cl : List CellV) (cc next : Nat) (da : Option Addr) (data : List UInt8) (dc r p f e : Nat) (w : World) (h_h : ((Hd.mk r p f e).same Hd.zero) = true) (h_d : ((data.length : Int) != 0) = false) (h_c : ((cl.length : Int) != 0) = true) :
    Calls Tryz.prog 17 #[.agg #[.int .i64 5, .int .u64 (lsn : Int), .slice ca cl.length cc, .int .u32 (next : Int), .slice da data.length dc, .int .u32 (r : Int), .int .u32 (p : Int), .int .u32 (f : Int), .int .u64 (e : Int)]] w fun e' w' => e' = .returned (.bool (false)) ∧ Ext w w' := by
  have hx := Ext.alloc w (.cells #[.int .i64 5, .int .u64 (lsn : Int), .slice ca cl.length cc, .int .u32 (next : Int), .slice da data.length dc, .int .u32 (r : Int), .int .u32 (p : Int), .int .u32 (f : Int), .int .u64 (e : Int)] 29)
  have Hx := Lib.hid hx
  have heq := fun W => run_neqHead ⟨r, p, f, e⟩ Hd.zero W
  rw [h_h] at heq
  simp only [Bool.not_false, Bool.not_true] at heq
  have Heq := Lib.hid heq
  clear heq h_h
  clear hx
  go_enter Tryz.func17, Tryz.ntmps17
  go_wp2_with (refine wpList_neqS (t := 27) rfl (by rfl) rfl rfl Heq.out (fun W => guardHeadN W _ _ _ _) ?_; refine Hid.out ?_)
  refine Lib.hid ?_
  go_wp2_with fail
  go_ret
  exact ⟨rfl, Hx.out⟩


set_option maxRecDepth 100000 in
set_option maxHeartbeats 1000000 in
theorem mayno_o_h (k : Int) (k1 : (k == 1) = false) (k2 : (k == 2) = false) (k3 : (k == 3) = false) (k4 : (k == 4) = false) (k5 : (k == 5) = false) (m1 : (k != 1) = true) (m2 : (k != 2) = true) (m3 : (k != 3) = true) (m4 : (k != 4) = true) (m5 : (k != 5) = true) (lsn : Nat) (ca : Option Addr) (cl : List CellV) (cc next : Nat) (da : Option Addr) (data : List UInt8) (dc r p f e : Nat) (w : World) (h_h : ((Hd.mk r p f e).same Hd.zero) = false) :
    Calls Tryz.prog 17 #[.agg #[.int .i64 k, .int .u64 (lsn : Int), .slice ca cl.length cc, .int .u32 (next : Int), .slice da data.length dc, .int .u32 (r : Int), .int .u32 (p : Int), .int .u32 (f : Int), .int .u64 (e : Int)]] w fun e' w' => e' = .returned (.bool (false)) ∧ Ext w w' := by
  have hx := Ext.alloc w (.cells #[.int .i64 k, .int .u64 (lsn : Int), .slice ca cl.length cc, .int .u32 (next : Int), .slice da data.length dc, .int .u32 (r : Int), .int .u32 (p : Int), .int .u32 (f : Int), .int .u64 (e : Int)] 29)
  have Hx := Lib.hid hx
  have heq := fun W => run_neqHead ⟨r, p, f, e⟩ Hd.zero W
  rw [h_h] at heq
  simp only [Bool.not_false, Bool.not_true] at heq
  have Heq := Lib.hid heq
  clear heq h_h
  clear hx
  go_enter Tryz.func17, Tryz.ntmps17
  go_wp2_with (refine wpList_neqS (t := 27) rfl (by rfl) rfl rfl Heq.out (fun W => guardHeadN W _ _ _ _) ?_; refine Hid.out ?_)
  refine Lib.hid ?_
  go_wp2_with fail
  go_ret
  exact ⟨rfl, Hx.out⟩


set_option maxRecDepth 100000 in
set_option maxHeartbeats 1000000 in
theorem mayno_o_d (k : Int) (k1 : (k == 1) = false) (k2 : (k == 2) = false) (k3 : (k == 3) = false) (k4 : (k == 4) = false) (k5 : (k == 5) = false) (m1 : (k != 1) = true) (m2 : (k != 2) = true) (m3 : (k != 3) = true) (m4 : (k != 4) = true) (m5 : (k != 5) = true) (lsn : Nat) (ca : Option Addr) (cl : List CellV) (cc next : Nat) (da : Option Addr) (data : List UInt8) (dc r p f e : Nat) (w : World) (h_h : ((Hd.mk r p f e).same Hd.zero) = true) (h_d : ((data.length : Int) != 0) = true) :
    Calls Tryz.prog 17 #[.agg #[.int .i64 k, .int .u64 (lsn : Int), .slice ca cl.length cc, .int .u32 (next : Int), .slice da data.length dc, .int .u32 (r : Int), .int .u32 (p : Int), .int .u32 (f : Int), .int .u64 (e : Int)]] w fun e' w' => e' = .returned (.bool (false)) ∧ Ext w w' := by
  have hx := Ext.alloc w (.cells #[.int .i64 k, .int .u64 (lsn : Int), .slice ca cl.length cc, .int .u32 (next : Int), .slice da data.length dc, .int .u32 (r : Int), .int .u32 (p : Int), .int .u32 (f : Int), .int .u64 (e : Int)] 29)
  have Hx := Lib.hid hx
  have heq := fun W => run_neqHead ⟨r, p, f, e⟩ Hd.zero W
  rw [h_h] at heq
  simp only [Bool.not_false, Bool.not_true] at heq
  have Heq := Lib.hid heq
  clear heq h_h
  clear hx
  go_enter Tryz.func17, Tryz.ntmps17
  go_wp2_with (refine wpList_neqS (t := 27) rfl (by rfl) rfl rfl Heq.out (fun W => guardHeadN W _ _ _ _) ?_; refine Hid.out ?_)
  refine Lib.hid ?_
  go_wp2_with fail
  go_ret
  exact ⟨rfl, Hx.out⟩


set_option maxRecDepth 100000 in
set_option maxHeartbeats 1000000 in
theorem mayno_o_n (k : Int) (k1 : (k == 1) = false) (k2 : (k == 2) = false) (k3 : (k == 3) = false) (k4 : (k == 4) = false) (k5 : (k == 5) = false) (m1 : (k != 1) = true) (m2 : (k != 2) = true) (m3 : (k != 3) = true) (m4 : (k != 4) = true) (m5 : (k != 5) = true) (lsn : Nat) (ca : Option Addr) (cl : List CellV) (cc next : Nat) (da : Option Addr) (data : List UInt8) (dc r p f e : Nat) (w : World) (h_h : ((Hd.mk r p f e).same Hd.zero) = true) (h_d : ((data.length : Int) != 0) = false) (h_n : ((next : Int) != 0) = true) :
    Calls Tryz.prog 17 #[.agg #[.int .i64 k, .int .u64 (lsn : Int), .slice ca cl.length cc, .int .u32 (next : Int), .slice da data.length dc, .int .u32 (r : Int), .int .u32 (p : Int), .int .u32 (f : Int), .int .u64 (e : Int)]] w fun e' w' => e' = .returned (.bool (false)) ∧ Ext w w' := by
  have hx := Ext.alloc w (.cells #[.int .i64 k, .int .u64 (lsn : Int), .slice ca cl.length cc, .int .u32 (next : Int), .slice da data.length dc, .int .u32 (r : Int), .int .u32 (p : Int), .int .u32 (f : Int), .int .u64 (e : Int)] 29)
  have Hx := Lib.hid hx
  have heq := fun W => run_neqHead ⟨r, p, f, e⟩ Hd.zero W
  rw [h_h] at heq
  simp only [Bool.not_false, Bool.not_true] at heq
  have Heq := Lib.hid heq
  clear heq h_h
  clear hx
  go_enter Tryz.func17, Tryz.ntmps17
  go_wp2_with (refine wpList_neqS (t := 27) rfl (by rfl) rfl rfl Heq.out (fun W => guardHeadN W _ _ _ _) ?_; refine Hid.out ?_)
  refine Lib.hid ?_
  go_wp2_with fail
  go_ret
  exact ⟨rfl, Hx.out⟩


set_option maxRecDepth 100000 in
set_option maxHeartbeats 1000000 in
theorem mayno_o_c (k : Int) (k1 : (k == 1) = false) (k2 : (k == 2) = false) (k3 : (k == 3) = false) (k4 : (k == 4) = false) (k5 : (k == 5) = false) (m1 : (k != 1) = true) (m2 : (k != 2) = true) (m3 : (k != 3) = true) (m4 : (k != 4) = true) (m5 : (k != 5) = true) (lsn : Nat) (ca : Option Addr) (cl : List CellV) (cc next : Nat) (da : Option Addr) (data : List UInt8) (dc r p f e : Nat) (w : World) (h_h : ((Hd.mk r p f e).same Hd.zero) = true) (h_d : ((data.length : Int) != 0) = false) (h_n : ((next : Int) != 0) = false) (h_c : ((cl.length : Int) != 0) = true) :
    Calls Tryz.prog 17 #[.agg #[.int .i64 k, .int .u64 (lsn : Int), .slice ca cl.length cc, .int .u32 (next : Int), .slice da data.length dc, .int .u32 (r : Int), .int .u32 (p : Int), .int .u32 (f : Int), .int .u64 (e : Int)]] w fun e' w' => e' = .returned (.bool (false)) ∧ Ext w w' := by
  have hx := Ext.alloc w (.cells #[.int .i64 k, .int .u64 (lsn : Int), .slice ca cl.length cc, .int .u32 (next : Int), .slice da data.length dc, .int .u32 (r : Int), .int .u32 (p : Int), .int .u32 (f : Int), .int .u64 (e : Int)] 29)
  have Hx := Lib.hid hx
  have heq := fun W => run_neqHead ⟨r, p, f, e⟩ Hd.zero W
  rw [h_h] at heq
  simp only [Bool.not_false, Bool.not_true] at heq
  have Heq := Lib.hid heq
  clear heq h_h
  clear hx
  go_enter Tryz.func17, Tryz.ntmps17
  go_wp2_with (refine wpList_neqS (t := 27) rfl (by rfl) rfl rfl Heq.out (fun W => guardHeadN W _ _ _ _) ?_; refine Hid.out ?_)
  refine Lib.hid ?_
  go_wp2_with fail
  go_ret
  exact ⟨rfl, Hx.out⟩


set_option maxRecDepth 100000 in
set_option maxHeartbeats 1000000 in
theorem mayyes_o (k : Int) (k1 : (k == 1) = false) (k2 : (k == 2) = false) (k3 : (k == 3) = false) (k4 : (k == 4) = false) (k5 : (k == 5) = false) (m1 : (k != 1) = true) (m2 : (k != 2) = true) (m3 : (k != 3) = true) (m4 : (k != 4) = true) (m5 : (k != 5) = true) (lsn : Nat) (ca : Option Addr) (cl : List CellV) (cc next : Nat) (da : Option Addr) (data : List UInt8) (dc r p f e : Nat) (w : World) (h_h : ((Hd.mk r p f e).same Hd.zero) = true) (h_d : ((data.length : Int) != 0) = false) (h_n : ((next : Int) != 0) = false) (h_c : ((cl.length : Int) != 0) = false) :
    Calls Tryz.prog 17 #[.agg #[.int .i64 k, .int .u64 (lsn : Int), .slice ca cl.length cc, .int .u32 (next : Int), .slice da data.length dc, .int .u32 (r : Int), .int .u32 (p : Int), .int .u32 (f : Int), .int .u64 (e : Int)]] w fun e' w' => e' = .returned (.bool (false)) ∧ Ext w w' := by
  have hx := Ext.alloc w (.cells #[.int .i64 k, .int .u64 (lsn : Int), .slice ca cl.length cc, .int .u32 (next : Int), .slice da data.length dc, .int .u32 (r : Int), .int .u32 (p : Int), .int .u32 (f : Int), .int .u64 (e : Int)] 29)
  have Hx := Lib.hid hx
  have heq := fun W => run_neqHead ⟨r, p, f, e⟩ Hd.zero W
  rw [h_h] at heq
  simp only [Bool.not_false, Bool.not_true] at heq
  have Heq := Lib.hid heq
  clear heq h_h
  clear hx
  go_enter Tryz.func17, Tryz.ntmps17
  go_wp2_with (refine wpList_neqS (t := 27) rfl (by rfl) rfl rfl Heq.out (fun W => guardHeadN W _ _ _ _) ?_)
  go_ret
  exact ⟨rfl, Hx.out⟩


set_option maxRecDepth 100000 in
set_option maxHeartbeats 1000000 in
theorem mayyes_5 (lsn : Nat) (ca : Option Addr) (cl : List CellV) (cc next : Nat) (da : Option Addr) (data : List UInt8) (dc r p f e : Nat) (w : World) (h_h : ((Hd.mk r p f e).same Hd.zero) = true) (h_d : ((data.length : Int) != 0) = false) (h_c : ((cl.length : Int) != 0) = false) :
    Calls Tryz.prog 17 #[.agg #[.int .i64 5, .int .u64 (lsn : Int), .slice ca cl.length cc, .int .u32 (next : Int), .slice da data.length dc, .int .u32 (r : Int), .int .u32 (p : Int), .int .u32 (f : Int), .int .u64 (e : Int)]] w fun e' w' => e' = .returned (.bool (true)) ∧ Ext w w' := by
  have hx := Ext.alloc w (.cells #[.int .i64 5, .int .u64 (lsn : Int), .slice ca cl.length cc, .int .u32 (next : Int), .slice da data.length dc, .int .u32 (r : Int), .int .u32 (p : Int), .int .u32 (f : Int), .int .u64 (e : Int)] 29)
  have Hx := Lib.hid hx
  have heq := fun W => run_neqHead ⟨r, p, f, e⟩ Hd.zero W
  rw [h_h] at heq
  simp only [Bool.not_false, Bool.not_true] at heq
  have Heq := Lib.hid heq
  clear heq h_h
  clear hx
  go_enter Tryz.func17, Tryz.ntmps17
  go_wp2_with (refine wpList_neqS (t := 27) rfl (by rfl) rfl rfl Heq.out (fun W => guardHeadN W _ _ _ _) ?_)
  go_ret
  exact ⟨rfl, Hx.out⟩


set_option maxRecDepth 100000 in
set_option maxHeartbeats 1000000 in
theorem mayyes_4a (lsn : Nat) (ca : Option Addr) (cl : List CellV) (cc next : Nat) (da : Option Addr) (data : List UInt8) (dc r p f e : Nat) (w : World) (h_h : ((Hd.mk r p f e).same Hd.zero) = true) (h_c : ((cl.length : Int) != 0) = false) (b1 : decide ((1 : Int) ≤ (data.length : Int)) = false) :
    Calls Tryz.prog 17 #[.agg #[.int .i64 4, .int .u64 (lsn : Int), .slice ca cl.length cc, .int .u32 (next : Int), .slice da data.length dc, .int .u32 (r : Int), .int .u32 (p : Int), .int .u32 (f : Int), .int .u64 (e : Int)]] w fun e' w' => e' = .returned (.bool (false)) ∧ Ext w w' := by
  have hx := Ext.alloc w (.cells #[.int .i64 4, .int .u64 (lsn : Int), .slice ca cl.length cc, .int .u32 (next : Int), .slice da data.length dc, .int .u32 (r : Int), .int .u32 (p : Int), .int .u32 (f : Int), .int .u64 (e : Int)] 29)
  have Hx := Lib.hid hx
  have heq := fun W => run_neqHead ⟨r, p, f, e⟩ Hd.zero W
  rw [h_h] at heq
  simp only [Bool.not_false, Bool.not_true] at heq
  have Heq := Lib.hid heq
  clear heq h_h
  clear hx
  go_enter Tryz.func17, Tryz.ntmps17
  go_wp2_with (refine wpList_neqS (t := 27) rfl (by rfl) rfl rfl Heq.out (fun W => guardHeadN W _ _ _ _) ?_)
  go_ret
  exact ⟨rfl, Hx.out⟩


set_option maxRecDepth 100000 in
set_option maxHeartbeats 1000000 in
theorem mayyes_4b (lsn : Nat) (ca : Option Addr) (cl : List CellV) (cc next : Nat) (da : Option Addr) (data : List UInt8) (dc r p f e : Nat) (w : World) (h_h : ((Hd.mk r p f e).same Hd.zero) = true) (h_c : ((cl.length : Int) != 0) = false) (b1 : decide ((1 : Int) ≤ (data.length : Int)) = true) (b2 : decide ((data.length : Int) ≤ 238) = false) :
    Calls Tryz.prog 17 #[.agg #[.int .i64 4, .int .u64 (lsn : Int), .slice ca cl.length cc, .int .u32 (next : Int), .slice da data.length dc, .int .u32 (r : Int), .int .u32 (p : Int), .int .u32 (f : Int), .int .u64 (e : Int)]] w fun e' w' => e' = .returned (.bool (false)) ∧ Ext w w' := by
  have hx := Ext.alloc w (.cells #[.int .i64 4, .int .u64 (lsn : Int), .slice ca cl.length cc, .int .u32 (next : Int), .slice da data.length dc, .int .u32 (r : Int), .int .u32 (p : Int), .int .u32 (f : Int), .int .u64 (e : Int)] 29)
  have Hx := Lib.hid hx
  have heq := fun W => run_neqHead ⟨r, p, f, e⟩ Hd.zero W
  rw [h_h] at heq
  simp only [Bool.not_false, Bool.not_true] at heq
  have Heq := Lib.hid heq
  clear heq h_h
  clear hx
  go_enter Tryz.func17, Tryz.ntmps17
  go_wp2_with (refine wpList_neqS (t := 27) rfl (by rfl) rfl rfl Heq.out (fun W => guardHeadN W _ _ _ _) ?_)
  go_ret
  exact ⟨rfl, Hx.out⟩


set_option maxRecDepth 100000 in
set_option maxHeartbeats 1000000 in
theorem mayyes_4c (lsn : Nat) (ca : Option Addr) (cl : List CellV) (cc next : Nat) (da : Option Addr) (data : List UInt8) (dc r p f e : Nat) (w : World) (h_h : ((Hd.mk r p f e).same Hd.zero) = true) (h_c : ((cl.length : Int) != 0) = false) (b1 : decide ((1 : Int) ≤ (data.length : Int)) = true) (b2 : decide ((data.length : Int) ≤ 238) = true) :
    Calls Tryz.prog 17 #[.agg #[.int .i64 4, .int .u64 (lsn : Int), .slice ca cl.length cc, .int .u32 (next : Int), .slice da data.length dc, .int .u32 (r : Int), .int .u32 (p : Int), .int .u32 (f : Int), .int .u64 (e : Int)]] w fun e' w' => e' = .returned (.bool (true)) ∧ Ext w w' := by
  have hx := Ext.alloc w (.cells #[.int .i64 4, .int .u64 (lsn : Int), .slice ca cl.length cc, .int .u32 (next : Int), .slice da data.length dc, .int .u32 (r : Int), .int .u32 (p : Int), .int .u32 (f : Int), .int .u64 (e : Int)] 29)
  have Hx := Lib.hid hx
  have heq := fun W => run_neqHead ⟨r, p, f, e⟩ Hd.zero W
  rw [h_h] at heq
  simp only [Bool.not_false, Bool.not_true] at heq
  have Heq := Lib.hid heq
  clear heq h_h
  clear hx
  go_enter Tryz.func17, Tryz.ntmps17
  go_wp2_with (refine wpList_neqS (t := 27) rfl (by rfl) rfl rfl Heq.out (fun W => guardHeadN W _ _ _ _) ?_)
  go_ret
  exact ⟨rfl, Hx.out⟩


set_option maxRecDepth 100000 in
set_option maxHeartbeats 1000000 in
theorem mayyes_1_0 (lsn : Nat) (ca : Option Addr) (cl : List CellV) (cc next : Nat) (da : Option Addr) (data : List UInt8) (dc r p f e : Nat) (w : World) (h_d : ((data.length : Int) != 0) = false) (h_n : ((next : Int) != 0) = false) (h_c : ((cl.length : Int) != 0) = false) (b0 : decide ((2 : Int) ≤ (p : Int)) = false) :
    Calls Tryz.prog 17 #[.agg #[.int .i64 1, .int .u64 (lsn : Int), .slice ca cl.length cc, .int .u32 (next : Int), .slice da data.length dc, .int .u32 (r : Int), .int .u32 (p : Int), .int .u32 (f : Int), .int .u64 (e : Int)]] w fun e' w' => e' = .returned (.bool (false)) ∧ Ext w w' := by
  have hx := Ext.alloc w (.cells #[.int .i64 1, .int .u64 (lsn : Int), .slice ca cl.length cc, .int .u32 (next : Int), .slice da data.length dc, .int .u32 (r : Int), .int .u32 (p : Int), .int .u32 (f : Int), .int .u64 (e : Int)] 29)
  have Hx := Lib.hid hx
  clear hx
  go_enter Tryz.func17, Tryz.ntmps17
  go_wp2_with fail
  go_ret
  exact ⟨rfl, Hx.out.tr (Ext.alloc _ _)⟩


set_option maxRecDepth 100000 in
set_option maxHeartbeats 1000000 in
theorem mayyes_1_1 (lsn : Nat) (ca : Option Addr) (cl : List CellV) (cc next : Nat) (da : Option Addr) (data : List UInt8) (dc r p f e : Nat) (w : World) (h_d : ((data.length : Int) != 0) = false) (h_n : ((next : Int) != 0) = false) (h_c : ((cl.length : Int) != 0) = false) (b0 : decide ((2 : Int) ≤ (p : Int)) = true) (b1 : decide ((p : Int) ≤ 512) = false) :
    Calls Tryz.prog 17 #[.agg #[.int .i64 1, .int .u64 (lsn : Int), .slice ca cl.length cc, .int .u32 (next : Int), .slice da data.length dc, .int .u32 (r : Int), .int .u32 (p : Int), .int .u32 (f : Int), .int .u64 (e : Int)]] w fun e' w' => e' = .returned (.bool (false)) ∧ Ext w w' := by
  have hx := Ext.alloc w (.cells #[.int .i64 1, .int .u64 (lsn : Int), .slice ca cl.length cc, .int .u32 (next : Int), .slice da data.length dc, .int .u32 (r : Int), .int .u32 (p : Int), .int .u32 (f : Int), .int .u64 (e : Int)] 29)
  have Hx := Lib.hid hx
  clear hx
  go_enter Tryz.func17, Tryz.ntmps17
  go_wp2_with fail
  go_ret
  exact ⟨rfl, Hx.out.tr (Ext.alloc _ _)⟩


set_option maxRecDepth 100000 in
set_option maxHeartbeats 1000000 in
theorem mayyes_1_2 (lsn : Nat) (ca : Option Addr) (cl : List CellV) (cc next : Nat) (da : Option Addr) (data : List UInt8) (dc r p f e : Nat) (w : World) (h_d : ((data.length : Int) != 0) = false) (h_n : ((next : Int) != 0) = false) (h_c : ((cl.length : Int) != 0) = false) (b0 : decide ((2 : Int) ≤ (p : Int)) = true) (b1 : decide ((p : Int) ≤ 512) = true) (b2 : decide ((1 : Int) ≤ (r : Int)) = false) :
    Calls Tryz.prog 17 #[.agg #[.int .i64 1, .int .u64 (lsn : Int), .slice ca cl.length cc, .int .u32 (next : Int), .slice da data.length dc, .int .u32 (r : Int), .int .u32 (p : Int), .int .u32 (f : Int), .int .u64 (e : Int)]] w fun e' w' => e' = .returned (.bool (false)) ∧ Ext w w' := by
  have hx := Ext.alloc w (.cells #[.int .i64 1, .int .u64 (lsn : Int), .slice ca cl.length cc, .int .u32 (next : Int), .slice da data.length dc, .int .u32 (r : Int), .int .u32 (p : Int), .int .u32 (f : Int), .int .u64 (e : Int)] 29)
  have Hx := Lib.hid hx
  clear hx
  go_enter Tryz.func17, Tryz.ntmps17
  go_wp2_with fail
  go_ret
  exact ⟨rfl, Hx.out.tr (Ext.alloc _ _)⟩


set_option maxRecDepth 100000 in
set_option maxHeartbeats 1000000 in
theorem mayyes_1_3 (lsn : Nat) (ca : Option Addr) (cl : List CellV) (cc next : Nat) (da : Option Addr) (data : List UInt8) (dc r p f e : Nat) (w : World) (h_d : ((data.length : Int) != 0) = false) (h_n : ((next : Int) != 0) = false) (h_c : ((cl.length : Int) != 0) = false) (b0 : decide ((2 : Int) ≤ (p : Int)) = true) (b1 : decide ((p : Int) ≤ 512) = true) (b2 : decide ((1 : Int) ≤ (r : Int)) = true) (b3 : decide (r < p) = false) :
    Calls Tryz.prog 17 #[.agg #[.int .i64 1, .int .u64 (lsn : Int), .slice ca cl.length cc, .int .u32 (next : Int), .slice da data.length dc, .int .u32 (r : Int), .int .u32 (p : Int), .int .u32 (f : Int), .int .u64 (e : Int)]] w fun e' w' => e' = .returned (.bool (false)) ∧ Ext w w' := by
  have hx := Ext.alloc w (.cells #[.int .i64 1, .int .u64 (lsn : Int), .slice ca cl.length cc, .int .u32 (next : Int), .slice da data.length dc, .int .u32 (r : Int), .int .u32 (p : Int), .int .u32 (f : Int), .int .u64 (e : Int)] 29)
  have Hx := Lib.hid hx
  clear hx
  go_enter Tryz.func17, Tryz.ntmps17
  go_wp2_with fail
  go_ret
  exact ⟨rfl, Hx.out.tr (Ext.alloc _ _)⟩


set_option maxRecDepth 100000 in
set_option maxHeartbeats 1000000 in
theorem mayyes_1_4 (lsn : Nat) (ca : Option Addr) (cl : List CellV) (cc next : Nat) (da : Option Addr) (data : List UInt8) (dc r p f e : Nat) (w : World) (h_d : ((data.length : Int) != 0) = false) (h_n : ((next : Int) != 0) = false) (h_c : ((cl.length : Int) != 0) = false) (b0 : decide ((2 : Int) ≤ (p : Int)) = true) (b1 : decide ((p : Int) ≤ 512) = true) (b2 : decide ((1 : Int) ≤ (r : Int)) = true) (b3 : decide (r < p) = true) (b4 : decide (f < p) = false) :
    Calls Tryz.prog 17 #[.agg #[.int .i64 1, .int .u64 (lsn : Int), .slice ca cl.length cc, .int .u32 (next : Int), .slice da data.length dc, .int .u32 (r : Int), .int .u32 (p : Int), .int .u32 (f : Int), .int .u64 (e : Int)]] w fun e' w' => e' = .returned (.bool (false)) ∧ Ext w w' := by
  have hx := Ext.alloc w (.cells #[.int .i64 1, .int .u64 (lsn : Int), .slice ca cl.length cc, .int .u32 (next : Int), .slice da data.length dc, .int .u32 (r : Int), .int .u32 (p : Int), .int .u32 (f : Int), .int .u64 (e : Int)] 29)
  have Hx := Lib.hid hx
  clear hx
  go_enter Tryz.func17, Tryz.ntmps17
  go_wp2_with fail
  go_ret
  exact ⟨rfl, Hx.out.tr (Ext.alloc _ _)⟩


set_option maxRecDepth 100000 in
set_option maxHeartbeats 1000000 in
theorem mayyes_1_5 (lsn : Nat) (ca : Option Addr) (cl : List CellV) (cc next : Nat) (da : Option Addr) (data : List UInt8) (dc r p f e : Nat) (w : World) (h_d : ((data.length : Int) != 0) = false) (h_n : ((next : Int) != 0) = false) (h_c : ((cl.length : Int) != 0) = false) (b0 : decide ((2 : Int) ≤ (p : Int)) = true) (b1 : decide ((p : Int) ≤ 512) = true) (b2 : decide ((1 : Int) ≤ (r : Int)) = true) (b3 : decide (r < p) = true) (b4 : decide (f < p) = true) :
    Calls Tryz.prog 17 #[.agg #[.int .i64 1, .int .u64 (lsn : Int), .slice ca cl.length cc, .int .u32 (next : Int), .slice da data.length dc, .int .u32 (r : Int), .int .u32 (p : Int), .int .u32 (f : Int), .int .u64 (e : Int)]] w fun e' w' => e' = .returned (.bool (true)) ∧ Ext w w' := by
  have hx := Ext.alloc w (.cells #[.int .i64 1, .int .u64 (lsn : Int), .slice ca cl.length cc, .int .u32 (next : Int), .slice da data.length dc, .int .u32 (r : Int), .int .u32 (p : Int), .int .u32 (f : Int), .int .u64 (e : Int)] 29)
  have Hx := Lib.hid hx
  clear hx
  go_enter Tryz.func17, Tryz.ntmps17
  go_wp2_with fail
  go_ret
  exact ⟨rfl, Hx.out.tr (Ext.alloc _ _)⟩


set_option maxRecDepth 100000 in
set_option maxHeartbeats 1000000 in
theorem mayyes_3 (lsn : Nat) (ca : Option Addr) (cl : List CellV) (cc next : Nat) (da : Option Addr) (data : List UInt8) (dc r p f e : Nat) (w : World) (hca : RdC w ca cl) (hcl : cl.length ≤ 1000000) (h_h : ((Hd.mk r p f e).same Hd.zero) = true) (h_d : ((data.length : Int) != 0) = false) (h_n : ((next : Int) != 0) = false) :
    Calls Tryz.prog 17 #[.agg #[.int .i64 3, .int .u64 (lsn : Int), .slice ca cl.length cc, .int .u32 (next : Int), .slice da data.length dc, .int .u32 (r : Int), .int .u32 (p : Int), .int .u32 (f : Int), .int .u64 (e : Int)]] w fun e' w' => e' = .returned (.bool (Nd.cellsOk 3 (cl.map CellV.x))) ∧ Ext w w' := by
  have hx := Ext.alloc w (.cells #[.int .i64 3, .int .u64 (lsn : Int), .slice ca cl.length cc, .int .u32 (next : Int), .slice da data.length dc, .int .u32 (r : Int), .int .u32 (p : Int), .int .u32 (f : Int), .int .u64 (e : Int)] 29)
  have Hx := Lib.hid hx
  have heq := fun W => run_neqHead ⟨r, p, f, e⟩ Hd.zero W
  rw [h_h] at heq
  simp only [Bool.not_false, Bool.not_true] at heq
  have Heq := Lib.hid heq
  clear heq h_h
  have hput : ∀ c : Cl, (c.put 3).2 = 0 ↔ c.leaf = true := fun c => by
    unfold Cl.put
    rw [if_pos rfl]
    unfold Cl.putL
    by_cases h : c.leaf = true
    · rw [if_pos h]; simp [h]
    · rw [if_neg h]; simp [h]
  have hbad : ∀ j (h : j < cl.length), cl[j].x.leaf = false → Nd.cellsOk 3 (cl.map CellV.x) = false := fun j h e => by
    unfold Nd.cellsOk
    have : ((cl.map CellV.x).all fun c => decide ((c.put 3).2 = 0)) = false := by
      rw [List.all_eq_false]
      refine ⟨cl[j].x, List.mem_map.2 ⟨_, List.getElem_mem h, rfl⟩, ?_⟩
      simp only [decide_eq_true_eq]
      rw [hput, e]
      decide
    rw [this]; rfl
  have hgood : (∀ j (h : j < cl.length), cl[j].x.leaf = true) → Nd.cellsOk 3 (cl.map CellV.x) = Nd.riseB (cl.map CellV.x) := fun h => by
    unfold Nd.cellsOk
    have : ((cl.map CellV.x).all fun c => decide ((c.put 3).2 = 0)) = true := by
      rw [List.all_eq_true]
      intro x hx
      obtain ⟨y, hy, rfl⟩ := List.mem_map.1 hx
      obtain ⟨j, hj, rfl⟩ := List.getElem_of_mem hy
      exact decide_eq_true ((hput _).2 (h j hj))
    rw [this]; rfl
  obtain ⟨R, hR⟩ : ∃ R, R = Nd.cellsOk 3 (cl.map CellV.x) := ⟨_, rfl⟩
  rw [← hR] at hbad hgood ⊢
  have Hbad := Lib.hid hbad
  have Hgood := Lib.hid hgood
  have hg0 := heap_alloc_new w (.cells #[.int .i64 3, .int .u64 (lsn : Int), .slice ca cl.length cc, .int .u32 (next : Int), .slice da data.length dc, .int .u32 (r : Int), .int .u32 (p : Int), .int .u32 (f : Int), .int .u64 (e : Int)] 29)
  obtain ⟨W0, hW0⟩ : ∃ W0, W0 = w.alloc (.cells #[.int .i64 3, .int .u64 (lsn : Int), .slice ca cl.length cc, .int .u32 (next : Int), .slice da data.length dc, .int .u32 (r : Int), .int .u32 (p : Int), .int .u32 (f : Int), .int .u64 (e : Int)] 29) := ⟨_, rfl⟩
  rw [← hW0] at hg0 hx
  have HW0 := Lib.hid (show w.alloc (.cells #[.int .i64 3, .int .u64 (lsn : Int), .slice ca cl.length cc, .int .u32 (next : Int), .slice da data.length dc, .int .u32 (r : Int), .int .u32 (p : Int), .int .u32 (f : Int), .int .u64 (e : Int)] 29) = W0 from hW0.symm)
  have G0 := Lib.hid hg0
  have Hx0 := Lib.hid hx
  clear hR hbad hgood hput Hx hW0 hg0
  clear hx
  go_enter Tryz.func17, Tryz.ntmps17
  go_wp2_with (refine wpList_neqS (t := 27) rfl (by rfl) rfl rfl Heq.out (fun W => guardHeadN W _ _ _ _) ?_)
  rw [HW0.out]
  go_loopw [4] (fun i wr => ∃ k : Nat, k ≤ cl.length ∧ i = .int .i64 k ∧ (∀ j (h : j < cl.length), j < k → cl[j].x.leaf = true) ∧ Ext W0 wr) (fun i _ => cl.length - (intOf i).toNat)
  case atStart => exact ⟨0, by omega, rfl, fun j _ h => absurd h (by omega), Ext.refl _⟩
  case round =>
    obtain ⟨k, hk, rfl, hyes, hbw⟩ := hrel
    have Hyes := Lib.hid hyes
    have Hbw := Lib.hid hbw
    have c1 : wr.cell? ⟨w.heap.size, 2, none⟩ = some (.slice ca cl.length cc) := by rw [cell_of_row _ _ _ _ _ _ ((hbw.block _ (lt_of_heap G0.out)).trans G0.out)]; rfl
    clear hyes hbw
    by_cases h : k < cl.length
    · obtain ⟨ad, rfl, hcell, hin⟩ := (hca.below (Hx0.out.tr Hbw.out)).at_ h
      have ik : (0 : Int) ≤ (k : Int) := by omega
      have ik2 : (k : Int) < (cl.length : Int) := by omega
      have hlf := ref_Leaf cl[k] wr
      rw [show cl[k].val = .agg cl[k].cells from rfl] at hlf
      have hi := cinfo cl[k]
      have Hcx := Lib.hid hcell
      have Hb0 := Lib.hid (Hbad.out k h)
      have Hn0 : cl[k].x.leaf = true → Hid (∀ j (h : j < cl.length), j < k + 1 → cl[j].x.leaf = true) := by
        intro hf
        show ∀ j (h : j < cl.length), j < k + 1 → cl[j].x.leaf = true
        intro j hj hjk
        by_cases e : j = k
        · subst e; exact hf
        · exact Hyes.out j hj (by omega)
      obtain ⟨P, hP⟩ : ∃ P, P = cl[k] := ⟨_, rfl⟩
      rw [← hP] at Hcx hlf Hb0 Hn0 hi
      obtain ⟨b, hb⟩ : ∃ b, b = P.x.leaf := ⟨_, rfl⟩
      rw [← hb] at hlf Hb0 Hn0
      have Hlf := Lib.hid hlf
      clear hb hP hcell hlf hin
      cases b with
      | true =>
        have Hn1 := Hn0 rfl
        go_wp2_with (first | (have hcx := Hcx.out; refine wpList_load_cells (by rfl) 43 (.tmp 102) rfl _ rfl P.cells _ hcx Tryz.underlying43 rfl hi ?_; clear hcx) | (go_at_call 45; refine Hlf.out.mono ?_; rintro e2 w2 ⟨rfl, hx2⟩; have Hx2 : Hid (Ext wr w2) := Lib.hid hx2; clear hx2))
        go_roundw
        case rel => exact ⟨k + 1, by omega, by go_num, Hn1.out, Hbw.out.tr Hx2.out⟩
        case measure => simp [intOf]; omega
      | false =>
        go_wp2_with (first | (have hcx := Hcx.out; refine wpList_load_cells (by rfl) 43 (.tmp 102) rfl _ rfl P.cells _ hcx Tryz.underlying43 rfl hi ?_; clear hcx) | (go_at_call 45; refine Hlf.out.mono ?_; rintro e2 w2 ⟨rfl, hx2⟩; have Hx2 : Hid (Ext wr w2) := Lib.hid hx2; clear hx2))
        go_ret
        exact ⟨by rw [Hb0.out (by first | rfl | trivial)]; simp, Hx0.out.tr (Hbw.out.tr Hx2.out)⟩
    · obtain rfl : k = cl.length := by omega
      have hri := rising_any ca cl cc wr (hca.below (Hx0.out.tr Hbw.out)) hcl
      rw [← Hgood.out (fun j hj => Hyes.out j hj hj)] at hri
      go_wp2_with (go_at_call 46; refine hri.mono ?_; rintro e2 w2 ⟨rfl, hx2⟩; have Hx2 : Hid (Ext wr w2) := Lib.hid hx2; clear hx2)
      go_ret
      exact ⟨rfl, Hx0.out.tr (Hbw.out.tr Hx2.out)⟩


set_option maxRecDepth 100000 in
set_option maxHeartbeats 1000000 in
theorem mayyes_2 (lsn : Nat) (ca : Option Addr) (cl : List CellV) (cc next : Nat) (da : Option Addr) (data : List UInt8) (dc r p f e : Nat) (w : World) (hca : RdC w ca cl) (hcl : cl.length ≤ 1000000) (h_h : ((Hd.mk r p f e).same Hd.zero) = true) (h_d : ((data.length : Int) != 0) = false) (h_n : ((next : Int) != 0) = false) :
    Calls Tryz.prog 17 #[.agg #[.int .i64 2, .int .u64 (lsn : Int), .slice ca cl.length cc, .int .u32 (next : Int), .slice da data.length dc, .int .u32 (r : Int), .int .u32 (p : Int), .int .u32 (f : Int), .int .u64 (e : Int)]] w fun e' w' => e' = .returned (.bool (!(cl.map CellV.x).isEmpty && Nd.cellsOk 2 (cl.map CellV.x))) ∧ Ext w w' := by
  have hx := Ext.alloc w (.cells #[.int .i64 2, .int .u64 (lsn : Int), .slice ca cl.length cc, .int .u32 (next : Int), .slice da data.length dc, .int .u32 (r : Int), .int .u32 (p : Int), .int .u32 (f : Int), .int .u64 (e : Int)] 29)
  have Hx := Lib.hid hx
  have heq := fun W => run_neqHead ⟨r, p, f, e⟩ Hd.zero W
  rw [h_h] at heq
  simp only [Bool.not_false, Bool.not_true] at heq
  have Heq := Lib.hid heq
  clear heq h_h
  have hput : ∀ c : Cl, (c.put 2).2 = 0 ↔ c.inner = true := fun c => by
    unfold Cl.put
    rw [if_neg (by decide)]
    unfold Cl.putI
    by_cases h : c.inner = true
    · rw [if_pos h]; simp [h]
    · rw [if_neg h]; simp [h]
  have hbad : ∀ j (h : j < cl.length), cl[j].x.inner = false → Nd.cellsOk 2 (cl.map CellV.x) = false := fun j h e => by
    unfold Nd.cellsOk
    have : ((cl.map CellV.x).all fun c => decide ((c.put 2).2 = 0)) = false := by
      rw [List.all_eq_false]
      refine ⟨cl[j].x, List.mem_map.2 ⟨_, List.getElem_mem h, rfl⟩, ?_⟩
      simp only [decide_eq_true_eq]
      rw [hput, e]
      decide
    rw [this]; rfl
  have hgood : (∀ j (h : j < cl.length), cl[j].x.inner = true) → Nd.cellsOk 2 (cl.map CellV.x) = Nd.riseB (cl.map CellV.x) := fun h => by
    unfold Nd.cellsOk
    have : ((cl.map CellV.x).all fun c => decide ((c.put 2).2 = 0)) = true := by
      rw [List.all_eq_true]
      intro x hx
      obtain ⟨y, hy, rfl⟩ := List.mem_map.1 hx
      obtain ⟨j, hj, rfl⟩ := List.getElem_of_mem hy
      exact decide_eq_true ((hput _).2 (h j hj))
    rw [this]; rfl
  obtain ⟨R, hR⟩ : ∃ R, R = Nd.cellsOk 2 (cl.map CellV.x) := ⟨_, rfl⟩
  rw [← hR] at hbad hgood ⊢
  have Hbad := Lib.hid hbad
  have Hgood := Lib.hid hgood
  have hg0 := heap_alloc_new w (.cells #[.int .i64 2, .int .u64 (lsn : Int), .slice ca cl.length cc, .int .u32 (next : Int), .slice da data.length dc, .int .u32 (r : Int), .int .u32 (p : Int), .int .u32 (f : Int), .int .u64 (e : Int)] 29)
  obtain ⟨W0, hW0⟩ : ∃ W0, W0 = w.alloc (.cells #[.int .i64 2, .int .u64 (lsn : Int), .slice ca cl.length cc, .int .u32 (next : Int), .slice da data.length dc, .int .u32 (r : Int), .int .u32 (p : Int), .int .u32 (f : Int), .int .u64 (e : Int)] 29) := ⟨_, rfl⟩
  rw [← hW0] at hg0 hx
  have HW0 := Lib.hid (show w.alloc (.cells #[.int .i64 2, .int .u64 (lsn : Int), .slice ca cl.length cc, .int .u32 (next : Int), .slice da data.length dc, .int .u32 (r : Int), .int .u32 (p : Int), .int .u32 (f : Int), .int .u64 (e : Int)] 29) = W0 from hW0.symm)
  have G0 := Lib.hid hg0
  have Hx0 := Lib.hid hx
  clear hR hbad hgood hput Hx hW0 hg0
  clear hx
  go_enter Tryz.func17, Tryz.ntmps17
  go_wp2_with (refine wpList_neqS (t := 27) rfl (by rfl) rfl rfl Heq.out (fun W => guardHeadN W _ _ _ _) ?_)
  rw [HW0.out]
  go_loopw [5] (fun i wr => ∃ k : Nat, k ≤ cl.length ∧ i = .int .i64 k ∧ (∀ j (h : j < cl.length), j < k → cl[j].x.inner = true) ∧ Ext W0 wr) (fun i _ => cl.length - (intOf i).toNat)
  case atStart => exact ⟨0, by omega, rfl, fun j _ h => absurd h (by omega), Ext.refl _⟩
  case round =>
    obtain ⟨k, hk, rfl, hyes, hbw⟩ := hrel
    have Hyes := Lib.hid hyes
    have Hbw := Lib.hid hbw
    have c1 : wr.cell? ⟨w.heap.size, 2, none⟩ = some (.slice ca cl.length cc) := by rw [cell_of_row _ _ _ _ _ _ ((hbw.block _ (lt_of_heap G0.out)).trans G0.out)]; rfl
    clear hyes hbw
    by_cases h : k < cl.length
    · obtain ⟨ad, rfl, hcell, hin⟩ := (hca.below (Hx0.out.tr Hbw.out)).at_ h
      have ik : (0 : Int) ≤ (k : Int) := by omega
      have ik2 : (k : Int) < (cl.length : Int) := by omega
      have hlf := ref_Inner cl[k] wr
      rw [show cl[k].val = .agg cl[k].cells from rfl] at hlf
      have hi := cinfo cl[k]
      have Hcx := Lib.hid hcell
      have Hb0 := Lib.hid (Hbad.out k h)
      have Hn0 : cl[k].x.inner = true → Hid (∀ j (h : j < cl.length), j < k + 1 → cl[j].x.inner = true) := by
        intro hf
        show ∀ j (h : j < cl.length), j < k + 1 → cl[j].x.inner = true
        intro j hj hjk
        by_cases e : j = k
        · subst e; exact hf
        · exact Hyes.out j hj (by omega)
      obtain ⟨P, hP⟩ : ∃ P, P = cl[k] := ⟨_, rfl⟩
      rw [← hP] at Hcx hlf Hb0 Hn0 hi
      obtain ⟨b, hb⟩ : ∃ b, b = P.x.inner := ⟨_, rfl⟩
      rw [← hb] at hlf Hb0 Hn0
      have Hlf := Lib.hid hlf
      clear hb hP hcell hlf hin
      cases b with
      | true =>
        have Hn1 := Hn0 rfl
        go_wp2_with (first | (have hcx := Hcx.out; refine wpList_load_cells (by rfl) 43 (.tmp 121) rfl _ rfl P.cells _ hcx Tryz.underlying43 rfl hi ?_; clear hcx) | (go_at_call 47; refine Hlf.out.mono ?_; rintro e2 w2 ⟨rfl, hx2⟩; have Hx2 : Hid (Ext wr w2) := Lib.hid hx2; clear hx2))
        go_roundw
        case rel => exact ⟨k + 1, by omega, by go_num, Hn1.out, Hbw.out.tr Hx2.out⟩
        case measure => simp [intOf]; omega
      | false =>
        go_wp2_with (first | (have hcx := Hcx.out; refine wpList_load_cells (by rfl) 43 (.tmp 121) rfl _ rfl P.cells _ hcx Tryz.underlying43 rfl hi ?_; clear hcx) | (go_at_call 47; refine Hlf.out.mono ?_; rintro e2 w2 ⟨rfl, hx2⟩; have Hx2 : Hid (Ext wr w2) := Lib.hid hx2; clear hx2))
        go_ret
        exact ⟨by rw [Hb0.out (by first | rfl | trivial)]; simp, Hx0.out.tr (Hbw.out.tr Hx2.out)⟩
    · obtain rfl : k = cl.length := by omega
      have hri := rising_any ca cl cc wr (hca.below (Hx0.out.tr Hbw.out)) hcl
      rw [← Hgood.out (fun j hj => Hyes.out j hj hj)] at hri
      by_cases hz : cl.length = 0
      · have hz2 : cl = [] := List.eq_nil_of_length_eq_zero hz
        have Hz := Lib.hid hz2
        have hzb : ¬ 0 < cl.length := by omega
        clear hz hz2 hri
        go_wp2_with fail
        go_ret
        exact ⟨by rw [Hz.out]; rfl, Hx0.out.tr Hbw.out⟩
      · have hzb : 0 < cl.length := by omega
        have Hz : Hid ((cl.map CellV.x).isEmpty = false) := by
          show _ = _
          cases cl with
          | nil => exact absurd rfl hz
          | cons _ _ => rfl
        clear hz
        go_wp2_with (go_at_call 46; refine hri.mono ?_; rintro e2 w2 ⟨rfl, hx2⟩; have Hx2 : Hid (Ext wr w2) := Lib.hid hx2; clear hx2)
        go_ret
        exact ⟨by rw [Hz.out]; simp, Hx0.out.tr (Hbw.out.tr Hx2.out)⟩


theorem ok_other (n : Nd) (hp : n.plain = true) (h1 : ¬ n.kind = 1) (h4 : ¬ n.kind = 4) (h5 : ¬ n.kind = 5) (h2 : ¬ n.kind = 2) (h3 : ¬ n.kind = 3) : n.ok = false := by
  rw [ok_of n hp, if_neg h1, if_neg h4, if_neg h5, if_neg h2, if_neg h3]
theorem dz_of {n : Int} {b : Bool} (h : (n != 0) = b) : decide (n = 0) = !b := by
  cases b with
  | true => rw [bne_iff_ne] at h; simpa using h
  | false => rw [bne_eq_false_iff_eq] at h; simpa using h
theorem dk_of {k i : Int} (h : (k == i) = false) : decide (k = i) = false := by rw [beq_eq_false_iff_ne] at h; simpa using h
theorem may_any (n : NdV) (w : World) (hn : n.In w) : Calls Tryz.prog 17 #[.agg n.cells] w fun e w' => e = .returned (.bool n.x.ok) ∧ Ext w w' := by
  obtain ⟨k, lsn, ca, cl, cc, next, da, data, dc, ⟨r, p, f, e⟩⟩ := n
  by_cases k1 : k = 1
  · subst k1
    cases h_d : ((data.length : Int) != 0) with
    | true =>
      rw [ok_plain _ (by rw [plain_eq]; unfold Nd.hasC; try rw [dz_of h_d]; generalize ((Hd.mk r p f e).same Hd.zero) = u0; generalize (decide ((next : Int) = 0)) = u1; generalize (decide ((cl.length : Int) = 0)) = u2; cases u0 <;> cases u1 <;> cases u2 <;> rfl)]
      exact mayno_1_d lsn ca cl cc next da data dc r p f e w h_d
    | false =>
      cases h_n : ((next : Int) != 0) with
      | true =>
        rw [ok_plain _ (by rw [plain_eq]; unfold Nd.hasC; try rw [dz_of h_d]; try rw [dz_of h_n]; generalize ((Hd.mk r p f e).same Hd.zero) = u0; generalize (decide ((cl.length : Int) = 0)) = u1; cases u0 <;> cases u1 <;> rfl)]
        exact mayno_1_n lsn ca cl cc next da data dc r p f e w h_d h_n
      | false =>
        cases h_c : ((cl.length : Int) != 0) with
        | true =>
          rw [ok_plain _ (by rw [plain_eq]; unfold Nd.hasC; try rw [dz_of h_d]; try rw [dz_of h_n]; try rw [dz_of h_c]; generalize ((Hd.mk r p f e).same Hd.zero) = u0; cases u0 <;> rfl)]
          exact mayno_1_c lsn ca cl cc next da data dc r p f e w h_d h_n h_c
        | false =>
          have hp : (NdV.mk 1 lsn ca cl cc next da data dc ⟨r, p, f, e⟩).x.plain = true := by rw [plain_eq]; unfold Nd.hasC; try rw [dz_of h_d]; try rw [dz_of h_n]; try rw [dz_of h_c]; generalize ((Hd.mk r p f e).same Hd.zero) = u0; cases u0 <;> rfl
          rw [ok_of _ hp]
          show Calls _ _ _ _ fun e' w' => e' = .returned (.bool (decide ((2 : Int) ≤ (p : Int)) && decide ((p : Int) ≤ 512) && decide ((1 : Int) ≤ (r : Int)) && decide ((r : Int) < (p : Int)) && decide ((f : Int) < (p : Int)))) ∧ _
          rw [show decide ((r : Int) < (p : Int)) = decide (r < p) by simp, show decide ((f : Int) < (p : Int)) = decide (f < p) by simp]
          cases b0 : decide ((2 : Int) ≤ (p : Int)) with
          | false =>
            simp only [Bool.true_and, Bool.and_false, Bool.false_and, Bool.and_self]
            exact mayyes_1_0 lsn ca cl cc next da data dc r p f e w h_d h_n h_c b0
          | true =>
            cases b1 : decide ((p : Int) ≤ 512) with
            | false =>
              simp only [Bool.true_and, Bool.and_false, Bool.false_and, Bool.and_self]
              exact mayyes_1_1 lsn ca cl cc next da data dc r p f e w h_d h_n h_c b0 b1
            | true =>
              cases b2 : decide ((1 : Int) ≤ (r : Int)) with
              | false =>
                simp only [Bool.true_and, Bool.and_false, Bool.false_and, Bool.and_self]
                exact mayyes_1_2 lsn ca cl cc next da data dc r p f e w h_d h_n h_c b0 b1 b2
              | true =>
                cases b3 : decide (r < p) with
                | false =>
                  simp only [Bool.true_and, Bool.and_false, Bool.false_and, Bool.and_self]
                  exact mayyes_1_3 lsn ca cl cc next da data dc r p f e w h_d h_n h_c b0 b1 b2 b3
                | true =>
                  cases b4 : decide (f < p) with
                  | false =>
                    simp only [Bool.true_and, Bool.and_false, Bool.false_and, Bool.and_self]
                    exact mayyes_1_4 lsn ca cl cc next da data dc r p f e w h_d h_n h_c b0 b1 b2 b3 b4
                  | true =>
                    simp only [Bool.and_self, Bool.true_and]
                    exact mayyes_1_5 lsn ca cl cc next da data dc r p f e w h_d h_n h_c b0 b1 b2 b3 b4
  by_cases k2 : k = 2
  · subst k2
    cases h_h : ((Hd.mk r p f e).same Hd.zero) with
    | false =>
      rw [ok_plain _ (by rw [plain_eq]; unfold Nd.hasC; try rw [h_h]; generalize (decide ((data.length : Int) = 0)) = u0; generalize (decide ((next : Int) = 0)) = u1; generalize (decide ((cl.length : Int) = 0)) = u2; cases u0 <;> cases u1 <;> cases u2 <;> rfl)]
      exact mayno_2_h lsn ca cl cc next da data dc r p f e w h_h
    | true =>
      cases h_d : ((data.length : Int) != 0) with
      | true =>
        rw [ok_plain _ (by rw [plain_eq]; unfold Nd.hasC; try rw [h_h]; try rw [dz_of h_d]; generalize (decide ((next : Int) = 0)) = u0; generalize (decide ((cl.length : Int) = 0)) = u1; cases u0 <;> cases u1 <;> rfl)]
        exact mayno_2_d lsn ca cl cc next da data dc r p f e w h_h h_d
      | false =>
        cases h_n : ((next : Int) != 0) with
        | true =>
          rw [ok_plain _ (by rw [plain_eq]; unfold Nd.hasC; try rw [h_h]; try rw [dz_of h_d]; try rw [dz_of h_n]; generalize (decide ((cl.length : Int) = 0)) = u0; cases u0 <;> rfl)]
          exact mayno_2_n lsn ca cl cc next da data dc r p f e w h_h h_d h_n
        | false =>
          have hp : (NdV.mk 2 lsn ca cl cc next da data dc ⟨r, p, f, e⟩).x.plain = true := by rw [plain_eq]; unfold Nd.hasC; try rw [h_h]; try rw [dz_of h_d]; try rw [dz_of h_n]; generalize (decide ((cl.length : Int) = 0)) = u0; cases u0 <;> rfl
          rw [ok_of _ hp]
          exact mayyes_2 lsn ca cl cc next da data dc r p f e w hn.cr hn.clen h_h h_d h_n
  by_cases k3 : k = 3
  · subst k3
    cases h_h : ((Hd.mk r p f e).same Hd.zero) with
    | false =>
      rw [ok_plain _ (by rw [plain_eq]; unfold Nd.hasC; try rw [h_h]; generalize (decide ((data.length : Int) = 0)) = u0; generalize (decide ((next : Int) = 0)) = u1; generalize (decide ((cl.length : Int) = 0)) = u2; cases u0 <;> cases u1 <;> cases u2 <;> rfl)]
      exact mayno_3_h lsn ca cl cc next da data dc r p f e w h_h
    | true =>
      cases h_d : ((data.length : Int) != 0) with
      | true =>
        rw [ok_plain _ (by rw [plain_eq]; unfold Nd.hasC; try rw [h_h]; try rw [dz_of h_d]; generalize (decide ((next : Int) = 0)) = u0; generalize (decide ((cl.length : Int) = 0)) = u1; cases u0 <;> cases u1 <;> rfl)]
        exact mayno_3_d lsn ca cl cc next da data dc r p f e w h_h h_d
      | false =>
        cases h_n : ((next : Int) != 0) with
        | true =>
          rw [ok_plain _ (by rw [plain_eq]; unfold Nd.hasC; try rw [h_h]; try rw [dz_of h_d]; try rw [dz_of h_n]; generalize (decide ((cl.length : Int) = 0)) = u0; cases u0 <;> rfl)]
          exact mayno_3_n lsn ca cl cc next da data dc r p f e w h_h h_d h_n
        | false =>
          have hp : (NdV.mk 3 lsn ca cl cc next da data dc ⟨r, p, f, e⟩).x.plain = true := by rw [plain_eq]; unfold Nd.hasC; try rw [h_h]; try rw [dz_of h_d]; try rw [dz_of h_n]; generalize (decide ((cl.length : Int) = 0)) = u0; cases u0 <;> rfl
          rw [ok_of _ hp]
          exact mayyes_3 lsn ca cl cc next da data dc r p f e w hn.cr hn.clen h_h h_d h_n
  by_cases k4 : k = 4
  · subst k4
    cases h_h : ((Hd.mk r p f e).same Hd.zero) with
    | false =>
      rw [ok_plain _ (by rw [plain_eq]; unfold Nd.hasC; try rw [h_h]; generalize (decide ((data.length : Int) = 0)) = u0; generalize (decide ((next : Int) = 0)) = u1; generalize (decide ((cl.length : Int) = 0)) = u2; cases u0 <;> cases u1 <;> cases u2 <;> rfl)]
      exact mayno_4_h lsn ca cl cc next da data dc r p f e w h_h
    | true =>
      cases h_c : ((cl.length : Int) != 0) with
      | true =>
        rw [ok_plain _ (by rw [plain_eq]; unfold Nd.hasC; try rw [h_h]; try rw [dz_of h_c]; generalize (decide ((data.length : Int) = 0)) = u0; generalize (decide ((next : Int) = 0)) = u1; cases u0 <;> cases u1 <;> rfl)]
        exact mayno_4_c lsn ca cl cc next da data dc r p f e w h_h h_c
      | false =>
        have hp : (NdV.mk 4 lsn ca cl cc next da data dc ⟨r, p, f, e⟩).x.plain = true := by rw [plain_eq]; unfold Nd.hasC; try rw [h_h]; try rw [dz_of h_c]; generalize (decide ((data.length : Int) = 0)) = u0; generalize (decide ((next : Int) = 0)) = u1; cases u0 <;> cases u1 <;> rfl
        rw [ok_of _ hp]
        show Calls _ _ _ _ fun e' w' => e' = .returned (.bool (decide (1 ≤ data.length) && decide (data.length ≤ 238))) ∧ _
        cases b1 : decide ((1 : Int) ≤ (data.length : Int)) with
        | false =>
          rw [show decide (1 ≤ data.length) = false by rw [decide_eq_false_iff_not] at b1 ⊢; omega, Bool.false_and]
          exact mayyes_4a lsn ca cl cc next da data dc r p f e w h_h h_c b1
        | true =>
          rw [show decide (1 ≤ data.length) = true by rw [decide_eq_true_eq] at b1 ⊢; omega, Bool.true_and]
          cases b2 : decide ((data.length : Int) ≤ 238) with
          | false =>
            rw [show decide (data.length ≤ 238) = false by rw [decide_eq_false_iff_not] at b2 ⊢; omega]
            exact mayyes_4b lsn ca cl cc next da data dc r p f e w h_h h_c b1 b2
          | true =>
            rw [show decide (data.length ≤ 238) = true by rw [decide_eq_true_eq] at b2 ⊢; omega]
            exact mayyes_4c lsn ca cl cc next da data dc r p f e w h_h h_c b1 b2
  by_cases k5 : k = 5
  · subst k5
    cases h_h : ((Hd.mk r p f e).same Hd.zero) with
    | false =>
      rw [ok_plain _ (by rw [plain_eq]; unfold Nd.hasC; try rw [h_h]; generalize (decide ((data.length : Int) = 0)) = u0; generalize (decide ((next : Int) = 0)) = u1; generalize (decide ((cl.length : Int) = 0)) = u2; cases u0 <;> cases u1 <;> cases u2 <;> rfl)]
      exact mayno_5_h lsn ca cl cc next da data dc r p f e w h_h
    | true =>
      cases h_d : ((data.length : Int) != 0) with
      | true =>
        rw [ok_plain _ (by rw [plain_eq]; unfold Nd.hasC; try rw [h_h]; try rw [dz_of h_d]; generalize (decide ((next : Int) = 0)) = u0; generalize (decide ((cl.length : Int) = 0)) = u1; cases u0 <;> cases u1 <;> rfl)]
        exact mayno_5_d lsn ca cl cc next da data dc r p f e w h_h h_d
      | false =>
        cases h_c : ((cl.length : Int) != 0) with
        | true =>
          rw [ok_plain _ (by rw [plain_eq]; unfold Nd.hasC; try rw [h_h]; try rw [dz_of h_d]; try rw [dz_of h_c]; generalize (decide ((next : Int) = 0)) = u0; cases u0 <;> rfl)]
          exact mayno_5_c lsn ca cl cc next da data dc r p f e w h_h h_d h_c
        | false =>
          have hp : (NdV.mk 5 lsn ca cl cc next da data dc ⟨r, p, f, e⟩).x.plain = true := by rw [plain_eq]; unfold Nd.hasC; try rw [h_h]; try rw [dz_of h_d]; try rw [dz_of h_c]; generalize (decide ((next : Int) = 0)) = u0; cases u0 <;> rfl
          rw [ok_of _ hp]
          exact mayyes_5 lsn ca cl cc next da data dc r p f e w h_h h_d h_c
  have m1 : (k != 1) = true := by rw [bne_iff_ne]; exact k1
  have m2 : (k != 2) = true := by rw [bne_iff_ne]; exact k2
  have m3 : (k != 3) = true := by rw [bne_iff_ne]; exact k3
  have m4 : (k != 4) = true := by rw [bne_iff_ne]; exact k4
  have m5 : (k != 5) = true := by rw [bne_iff_ne]; exact k5
  replace k1 : (k == 1) = false := by rw [beq_eq_false_iff_ne]; exact k1
  replace k2 : (k == 2) = false := by rw [beq_eq_false_iff_ne]; exact k2
  replace k3 : (k == 3) = false := by rw [beq_eq_false_iff_ne]; exact k3
  replace k4 : (k == 4) = false := by rw [beq_eq_false_iff_ne]; exact k4
  replace k5 : (k == 5) = false := by rw [beq_eq_false_iff_ne]; exact k5
  cases h_h : ((Hd.mk r p f e).same Hd.zero) with
  | false =>
    rw [ok_plain _ (by rw [plain_eq]; unfold Nd.hasC; rw [dk_of k1, dk_of k2, dk_of k3, dk_of k4, dk_of k5]; try rw [h_h]; generalize (decide ((data.length : Int) = 0)) = u0; generalize (decide ((next : Int) = 0)) = u1; generalize (decide ((cl.length : Int) = 0)) = u2; cases u0 <;> cases u1 <;> cases u2 <;> rfl)]
    exact mayno_o_h k k1 k2 k3 k4 k5 m1 m2 m3 m4 m5 lsn ca cl cc next da data dc r p f e w h_h
  | true =>
    cases h_d : ((data.length : Int) != 0) with
    | true =>
      rw [ok_plain _ (by rw [plain_eq]; unfold Nd.hasC; rw [dk_of k1, dk_of k2, dk_of k3, dk_of k4, dk_of k5]; try rw [h_h]; try rw [dz_of h_d]; generalize (decide ((next : Int) = 0)) = u0; generalize (decide ((cl.length : Int) = 0)) = u1; cases u0 <;> cases u1 <;> rfl)]
      exact mayno_o_d k k1 k2 k3 k4 k5 m1 m2 m3 m4 m5 lsn ca cl cc next da data dc r p f e w h_h h_d
    | false =>
      cases h_n : ((next : Int) != 0) with
      | true =>
        rw [ok_plain _ (by rw [plain_eq]; unfold Nd.hasC; rw [dk_of k1, dk_of k2, dk_of k3, dk_of k4, dk_of k5]; try rw [h_h]; try rw [dz_of h_d]; try rw [dz_of h_n]; generalize (decide ((cl.length : Int) = 0)) = u0; cases u0 <;> rfl)]
        exact mayno_o_n k k1 k2 k3 k4 k5 m1 m2 m3 m4 m5 lsn ca cl cc next da data dc r p f e w h_h h_d h_n
      | false =>
        cases h_c : ((cl.length : Int) != 0) with
        | true =>
          rw [ok_plain _ (by rw [plain_eq]; unfold Nd.hasC; rw [dk_of k1, dk_of k2, dk_of k3, dk_of k4, dk_of k5]; try rw [h_h]; try rw [dz_of h_d]; try rw [dz_of h_n]; try rw [dz_of h_c]; rfl)]
          exact mayno_o_c k k1 k2 k3 k4 k5 m1 m2 m3 m4 m5 lsn ca cl cc next da data dc r p f e w h_h h_d h_n h_c
        | false =>
          have hp : (NdV.mk k lsn ca cl cc next da data dc ⟨r, p, f, e⟩).x.plain = true := by rw [plain_eq]; unfold Nd.hasC; rw [dk_of k1, dk_of k2, dk_of k3, dk_of k4, dk_of k5]; try rw [h_h]; try rw [dz_of h_d]; try rw [dz_of h_n]; try rw [dz_of h_c]; rfl
          have hok : (NdV.mk k lsn ca cl cc next da data dc ⟨r, p, f, e⟩).x.ok = false := ok_other _ hp (show ¬ k = 1 by simpa using k1) (show ¬ k = 4 by simpa using k4) (show ¬ k = 5 by simpa using k5) (show ¬ k = 2 by simpa using k2) (show ¬ k = 3 by simpa using k3)
          rw [hok]
          exact mayyes_o k k1 k2 k3 k4 k5 m1 m2 m3 m4 m5 lsn ca cl cc next da data dc r p f e w h_h h_d h_n h_c
end Go.Proofs.YtkpagmfaccmiaaaGreat

/- Contract: scowref08.Put (layer 08). Printed by wip/tools/gen_nye08.py. -/

namespace Go.Proofs.YtkpagmfaccmiaaaGreat

open Go.RowKit

attribute [local go_sem] Oper.semAt_some

theorem rbody_any (n : NdV) (w : World) (hn : n.In w) (hk : 1 ≤ n.kind ∧ n.kind ≤ 5) (hd : n.kind = 4 → n.data.length ≤ 238) (hne : Nd.hasC n.kind = true → Nd.need n.kind (n.cl.map CellV.x) ≤ 241) :
    Calls Tryz.prog 19 #[.agg n.cells] w fun e' w' => ∃ bs A', n.x.Body bs ∧ bs.length = 243 ∧ e' = .returned (.slice A' 243 243) ∧ Own w' w.heap.size 5 1 A' 243 243 (bvs bs) ∧ Ext w w' := by
  have len : ∀ {W B A} {bs : List UInt8}, Own W B 5 1 A 243 243 (bvs bs) → bs.length = 243 := fun h => by have := h.len; rwa [bvs_len] at this
  obtain ⟨k, lsn, ca, cl, cc, next, da, data, dc, ⟨r, p, f, e⟩⟩ := n
  by_cases k1 : k = 1
  · subst k1
    refine (rbody_1 lsn ca cl cc next da data dc r p f e w hn.head).mono ?_
    rintro _ w' ⟨A', rfl, ho, hx⟩
    exact ⟨_, A', by unfold Nd.Body; rw [if_neg (by simp [NdV.x, Nd.hasC])]; rfl, len ho, rfl, ho, hx⟩
  by_cases k4 : k = 4
  · subst k4
    refine (rbody_4 lsn ca cl cc next da data dc r p f e w hn.next hn.dr (hd rfl)).mono ?_
    rintro _ w' ⟨A', rfl, ho, hx⟩
    exact ⟨_, A', by unfold Nd.Body; rw [if_neg (by simp [NdV.x, Nd.hasC])]; rfl, len ho, rfl, ho, hx⟩
  by_cases k5 : k = 5
  · subst k5
    refine (rbody_5 lsn ca cl cc next da data dc r p f e w hn.next).mono ?_
    rintro _ w' ⟨A', rfl, ho, hx⟩
    exact ⟨_, A', by unfold Nd.Body; rw [if_neg (by simp [NdV.x, Nd.hasC])]; rfl, len ho, rfl, ho, hx⟩
  by_cases k3 : k = 3
  · subst k3
    refine (rbody_3 lsn ca cl cc next da data dc r p f e w hn.cr hn.clen (hne (by simp [Nd.hasC]))).mono ?_
    rintro _ w' ⟨bs, A', hb, rfl, ho, hx⟩
    exact ⟨_, A', by unfold Nd.Body; rw [if_pos (by simp [NdV.x, Nd.hasC])]; exact hb, len ho, rfl, ho, hx⟩
  by_cases k2 : k = 2
  · subst k2
    refine (rbody_2 lsn ca cl cc next da data dc r p f e w hn.cr hn.clen (hne (by simp [Nd.hasC]))).mono ?_
    rintro _ w' ⟨bs, A', hb, rfl, ho, hx⟩
    exact ⟨_, A', by unfold Nd.Body; rw [if_pos (by simp [NdV.x, Nd.hasC])]; exact hb, len ho, rfl, ho, hx⟩
  · exfalso
    simp only at hk
    omega
set_option maxRecDepth 100000 in
set_option maxHeartbeats 1000000 in
theorem rput_Node (n : NdV) (w : World) (hn : n.In w) : Calls Tryz.prog 7 #[.agg n.cells] w (PutP n w) := by
  have hx0 := Ext.alloc w (.cells n.cells 29)
  have g0 := heap_alloc_new w (.cells n.cells 29)
  have hi := ninfo n
  have hq := may_any n _ (hn.ext hx0)
  have Hn := Lib.hid hn
  have Hx0 := Lib.hid hx0
  clear hn hx0
  cases hok : n.x.ok with
  | false =>
    have Hok := Lib.hid hok
    rw [hok] at hq
    clear hok
    go_enter Tryz.func7, Tryz.ntmps7
    go_wp2_with (first | (refine wpList_load_rowG (by rfl) 29 (.tmp 1) rfl w.heap.size rfl 29 n.cells (0, 0) _ g0 Tryz.underlying29 rfl hi ?_) | (go_at_call 17; refine hq.mono ?_; rintro e1 w1 ⟨rfl, hx1⟩; have Hx1 := Lib.hid hx1; clear hx1))
    go_ret2
    exact ⟨([], 80), none, 0, .inl ⟨Hok.out, rfl⟩, rfl, RdB.nil_ _ _, Nat.le_refl _, Hx0.out.tr Hx1.out⟩
  | true =>
    have Hok := Lib.hid hok
    rw [hok] at hq
    clear hok
    have hus := fun W (h : RdC W n.ca n.cl) => rused_any n.kind n.ca n.cl n.cc W h Hn.out.clen
    have hnl : Nd.need n.kind (n.cl.map CellV.x) ≤ 80000000 := Nat.le_trans (need_le _ _) (by rw [List.length_map]; have := Hn.out.clen; omega)
    have hul : (Nd.used n.kind (n.cl.map CellV.x)).1 ≤ 80000000 := by
      unfold Nd.used
      split
      · exact hnl
      · exact Nat.zero_le _
    have hneed : Nd.hasC n.kind = true → Nd.used n.kind (n.cl.map CellV.x) = (Nd.need n.kind (n.cl.map CellV.x), 0) := fun hk => by
      have h1 : (Nd.used n.x.kind n.x.cells).1 = _ := Nd.used_need Hok.out hk
      unfold Nd.used at h1 ⊢
      split
      · rfl
      · rename_i hc
        exact absurd ⟨hk, by rw [List.all_eq_true]; exact fun c hc => decide_eq_true (Nd.ok_cells Hok.out hk c hc)⟩ hc
    have hz0 : Nd.hasC n.kind = false → Nd.used n.kind (n.cl.map CellV.x) = (0, 80) := fun hk => by
      unfold Nd.used
      rw [if_neg (fun e => by rw [hk] at e; cases e.1)]
    obtain ⟨u, hu⟩ : ∃ u, u = Nd.used n.kind (n.cl.map CellV.x) := ⟨_, rfl⟩
    rw [← hu] at hul hneed hz0
    simp only [← hu] at hus
    have Hu := Lib.hid (show u = Nd.used n.x.kind n.x.cells from hu)
    have Hus := Lib.hid hus
    have hu2 : 241 < u.1 → u.2 = 0 := fun h => by
      cases hk : Nd.hasC n.kind with
      | true => rw [hneed hk]
      | false => rw [hz0 hk] at h; simp at h
    have Hneed := Lib.hid hneed
    obtain ⟨u1, u2⟩ := u
    simp only at hul hu2
    clear hu hus hnl hneed hz0
    by_cases hbig : 241 < u1
    · have hbi : (241 : Int) < (u1 : Int) := by omega
      obtain rfl : u2 = 0 := hu2 hbig
      have Hbig := Lib.hid hbig
      clear hbig hu2
      go_enter Tryz.func7, Tryz.ntmps7
      go_wp2_with (first | (refine wpList_load_rowG (by rfl) 29 (.tmp 1) rfl w.heap.size rfl 29 n.cells (0, 0) _ g0 Tryz.underlying29 rfl hi ?_) | (go_at_call 17; refine hq.mono ?_; rintro e1 w1 ⟨rfl, hx1⟩; have g1 := (hx1.block _ (lt_of_heap g0)).trans g0; have c0 := row_cell g1 0; have c2 := row_cell g1 2; rw [show n.cells[0]? = some (.int .i64 n.kind) from rfl] at c0; rw [show n.cells[2]? = some (.slice n.ca n.cl.length n.cc) from rfl] at c2; have Hx1 := Lib.hid hx1; have G1 := Lib.hid g1; clear hx1 g1) | (go_at_call 9; refine (Hus.out _ (Hn.out.cr.below (Hx0.out.tr Hx1.out))).mono ?_; rintro e2 w2 ⟨rfl, hx2⟩; have G2 := Lib.hid ((hx2.block _ (lt_of_heap G1.out)).trans G1.out); have Hx2 := Lib.hid hx2; clear hx2))
      go_ret2
      exact ⟨([], 60), none, 0, .inr (.inl ⟨Hok.out, by rw [← Hu.out]; exact Hbig.out, rfl⟩), rfl, RdB.nil_ _ _, Nat.le_refl _, Hx0.out.tr (Hx1.out.tr Hx2.out)⟩
    · have hbi : ¬ (241 : Int) < (u1 : Int) := by omega
      have Hbig := Lib.hid hbig
      clear hbig hu2
      go_enter Tryz.func7, Tryz.ntmps7
      go_wp2_with (first | (refine wpList_load_rowG (by rfl) 29 (.tmp 1) rfl w.heap.size rfl 29 n.cells (0, 0) _ g0 Tryz.underlying29 rfl hi ?_) | (go_at_call 17; refine hq.mono ?_; rintro e1 w1 ⟨rfl, hx1⟩; have g1 := (hx1.block _ (lt_of_heap g0)).trans g0; have c0 := row_cell g1 0; have c2 := row_cell g1 2; rw [show n.cells[0]? = some (.int .i64 n.kind) from rfl] at c0; rw [show n.cells[2]? = some (.slice n.ca n.cl.length n.cc) from rfl] at c2; have Hx1 := Lib.hid hx1; have G1 := Lib.hid g1; clear hx1 g1) | (go_at_call 9; refine (Hus.out _ (Hn.out.cr.below (Hx0.out.tr Hx1.out))).mono ?_; rintro e2 w2 ⟨rfl, hx2⟩; have G2 := Lib.hid ((hx2.block _ (lt_of_heap G1.out)).trans G1.out); have Hx2 := Lib.hid hx2; clear hx2; refine Hid.out ?_))
      refine Lib.hid ?_
      have hx2 := Hx0.out.tr (Hx1.out.tr Hx2.out)
      have hin2 := Hn.out.ext (hx2.tr (Ext.drew w2))
      have hkk : 1 ≤ n.kind ∧ n.kind ≤ 5 := Nd.ok_kind Hok.out
      have hbd := rbody_any n _ hin2 hkk (fun e => Nd.ok_data Hok.out e) (fun hk => by have h1 := Hneed.out hk; injection h1 with h1 _; have := Hbig.out; omega)
      have hgd := ((Ext.drew w2).block _ (lt_of_heap G2.out)).trans G2.out
      have d0 := row_cell hgd 0
      have d1 := row_cell hgd 1
      have Hbd := Lib.hid hbd
      have Hgd := Lib.hid hgd
      rw [show n.cells[0]? = some (.int .i64 n.kind) from rfl] at d0
      rw [show n.cells[1]? = some (.int .u64 (n.lsn : Int)) from rfl] at d1
      clear hbd hgd hin2
      have hcond : (u2 = 0 ∧ True) ∨ u2 ≠ 0 := by by_cases h : u2 = 0; exact .inl ⟨h, trivial⟩; exact .inr h
      have hub : ((u2 : Int) == 0) = true ∨ ((u2 : Int) == 0) = false := by cases ((u2 : Int) == 0) <;> simp
      rcases hub with hub | hub
      all_goals
        clear hcond
        go_wp2_with fail
        refine rg_start (by kernel_rfl) ?_
        refine rg_take 0 rfl (by kernel_rfl) (by kernel_rfl) (by kernel_rfl) (fun _ _ _ _ h => h) (by rfl) ⟨_, fun w' hx => by (go_simp <;> with_reducible rfl), ?_⟩   -- t26 := fieldAddr 29 t1 0
        simp only [Act.put, List.setIfInBounds_toArray, List.set_cons_zero, List.set_cons_succ]
        refine rg_take 1 rfl (by kernel_rfl) (by kernel_rfl) (by kernel_rfl) (fun _ _ _ _ h => h) (by rfl) ⟨_, fun w' hx => by have hcx := hx.load d0; (go_simp <;> with_reducible rfl), ?_⟩
        simp only [Act.put, List.setIfInBounds_toArray, List.set_cons_zero, List.set_cons_succ]
        refine rg_take 2 rfl (by kernel_rfl) (by kernel_rfl) (by kernel_rfl) (fun _ _ _ _ h => h) (by rfl) ⟨_, fun w' hx => by (go_simp <;> with_reducible rfl), ?_⟩   -- t28 := fieldAddr 29 t1 1
        simp only [Act.put, List.setIfInBounds_toArray, List.set_cons_zero, List.set_cons_succ]
        refine rg_take 3 rfl (by kernel_rfl) (by kernel_rfl) (by kernel_rfl) (fun _ _ _ _ h => h) (by rfl) ⟨_, fun w' hx => by have hcx := hx.load d1; (go_simp <;> with_reducible rfl), ?_⟩
        simp only [Act.put, List.setIfInBounds_toArray, List.set_cons_zero, List.set_cons_succ]
        refine rg_take 4 rfl (by kernel_rfl) (by kernel_rfl) (by kernel_rfl) (fun _ _ _ _ h => h) (by rfl) ⟨.agg n.cells, fun w' hx => ex_load_row 29 _ rfl w.heap.size rfl 29 _ (0, 0) _ ((hx.block _ (lt_of_heap Hgd.out)).trans Hgd.out) Tryz.underlying29 rfl hi, ?_⟩
        simp only [Act.put, List.setIfInBounds_toArray, List.set_cons_zero, List.set_cons_succ]
        refine rg_call 5 Hbd.out rfl (by kernel_rfl) (by rfl) (by go_simp) ?_
        rintro e3 w3 ⟨bs, A1, hB1, hB2, rfl, ho3, hb3⟩
        have HB := Lib.hid (And.intro hB1 hB2)
        have Hb3 := Lib.hid hb3
        have hr3 := ho3.rd'
        clear hB1 hB2 ho3 hb3
        refine ⟨_, rfl, Hb3.out, ?_⟩
        simp only [Act.put, List.setIfInBounds_toArray, List.set_cons_zero, List.set_cons_succ]
        refine rg_take 6 rfl (by kernel_rfl) (by kernel_rfl) (by kernel_rfl) (fun _ _ _ _ h => h) (by rfl) ⟨_, fun w' hx => by (go_simp <;> with_reducible rfl), ?_⟩   -- t32 := build 50 [(0, t27), (1, t29), (2, t31)]
        simp only [Act.put, List.setIfInBounds_toArray, List.set_cons_zero, List.set_cons_succ]
        have hse := ref_seal ⟨n.kind, n.lsn, A1, bs, 243⟩ w3 Hn.out.lsn hr3 (by simp only; have := HB.out.2; omega)
        rw [show (⟨n.kind, n.lsn, A1, bs, 243⟩ : Pg).val = .agg #[.int .i64 n.kind, .int .u64 (n.lsn : Int), .slice A1 243 243] by rw [Pg.val, HB.out.2]] at hse
        refine rg_call 7 hse rfl (by kernel_rfl) (by rfl) (by go_simp) ?_
        rintro e4 w4 ⟨A4, c4, rfl, ho4, hb4⟩
        have Ho4 := Lib.hid ho4
        have Hb4 := Lib.hid hb4
        clear ho4 hb4 hse
        refine ⟨_, rfl, Hb4.out, ?_⟩
        simp only [Act.put, List.setIfInBounds_toArray, List.set_cons_zero, List.set_cons_succ]
        refine rg_take 8 rfl (by kernel_rfl) (by kernel_rfl) (by kernel_rfl) (fun _ _ _ _ h => h) (by rfl) ⟨_, fun w' hx => by (go_simp <;> with_reducible rfl), ?_⟩
        simp only [Act.put, List.setIfInBounds_toArray, List.set_cons_zero, List.set_cons_succ]
        refine rg_take 9 rfl (by kernel_rfl) (by kernel_rfl) (by kernel_rfl) (fun _ _ _ _ h => h) (by rfl) ⟨_, fun w' hx => by (go_simp <;> with_reducible rfl), ?_⟩
        simp only [Act.put, List.setIfInBounds_toArray, List.set_cons_zero, List.set_cons_succ]
        refine rg_take 10 rfl (by kernel_rfl) (by kernel_rfl) (by kernel_rfl) (fun _ _ _ _ h => h) (by rfl) ⟨_, fun w' hx => by (go_simp <;> with_reducible rfl), ?_⟩
        simp only [Act.put, List.setIfInBounds_toArray, List.set_cons_zero, List.set_cons_succ]
        refine rg_take 11 rfl (by kernel_rfl) (by kernel_rfl) (by kernel_rfl) (fun _ _ _ _ h => h) (by rfl) ⟨_, fun w' hx => by (go_simp <;> with_reducible rfl), ?_⟩
        simp only [Act.put, List.setIfInBounds_toArray, List.set_cons_zero, List.set_cons_succ]
        refine rg_take 12 rfl (by kernel_rfl) (by kernel_rfl) (by kernel_rfl) (fun _ _ _ _ h => h) (by rfl) ⟨_, fun w' hx => by (go_simp <;> with_reducible rfl), ?_⟩
        simp only [Act.put, List.setIfInBounds_toArray, List.set_cons_zero, List.set_cons_succ]
        refine rg_done (by kernel_rfl) ?_
        have hg : (⟨n.kind, n.lsn, A1, bs, 243⟩ : Pg).seal_ = (n.x.sealed bs, 0) := by
          unfold Pg.seal_ Pg.good
          rw [if_pos (by simp [isKind, hkk, HB.out.2])]
          rfl
        have Hg := Lib.hid hg
        clear hg
        go_wp2_with fail
        go_ret2
        have h4 := Ho4.out
        have hR : n.x.PutR (n.x.sealed bs, 0) := .inr (.inr ⟨Hok.out, by rw [← Hu.out]; have := Hbig.out; simp only; omega, bs, HB.out.1, HB.out.2, rfl⟩)
        rw [Hg.out] at h4
        exact ⟨_, A4, c4, hR, by rw [Hg.out]; rfl, h4.rd', h4.nc, (hx2.tr (Ext.drew w2)).tr (Hb3.out.tr Hb4.out)⟩
end Go.Proofs.YtkpagmfaccmiaaaGreat

/- The walk of the law NodePuts (layer 08). Printed by wip/tools/gen_nyf08.py. -/

namespace Go.Proofs.YtkpagmfaccmiaaaGreat

open Go.RowKit

attribute [local go_sem] Oper.semAt_some

theorem Nd.PutR.uniq {n : Nd} {r s : List UInt8 × Nat} (h : n.PutR r) (k : n.PutR s) : r = s := by
  rcases h with ⟨a, rfl⟩ | ⟨a, b, rfl⟩ | ⟨a, b, bs, c, d, rfl⟩ <;> rcases k with ⟨a', rfl⟩ | ⟨a', b', rfl⟩ | ⟨a', b', bs', c', d', rfl⟩
  · rfl
  · rw [a] at a'; cases a'
  · rw [a] at a'; cases a'
  · rw [a] at a'; cases a'
  · rfl
  · omega
  · rw [a] at a'; cases a'
  · omega
  · have : bs = bs' := by
      unfold Nd.Body at c c'
      by_cases hk : Nd.hasC n.kind = true
      · rw [if_pos hk] at c c'
        exact c.uniq c'
      · rw [if_neg hk] at c c'
        rw [c, c']
    rw [this]
set_option maxRecDepth 100000 in
set_option maxHeartbeats 2000000 in
theorem walkNodePuts (w : World) (n : NdV) (hn : n.Arg w) : Calls Tryz.prog 3 #[.agg n.cells] w fun e w' => e = .returned (.bool true) ∧ Below w.heap.size w w' := by
  obtain ⟨W0, hW0⟩ : ∃ W0, W0 = w.alloc (.cells n.cells 29) := ⟨_, rfl⟩
  have hx0 : Ext w W0 := by rw [hW0]; exact Ext.alloc _ _
  have g0 : W0.heap[w.heap.size]? = some (.cells n.cells 29 (0, 0)) := by rw [hW0]; exact heap_alloc_new w _
  have HW0 := Lib.hid (show w.alloc (.cells n.cells 29) = W0 from hW0.symm)
  have hs := small08 n W0 (hn.ext hx0)
  have Hx0 := Lib.hid hx0
  have Hn := Lib.hid hn
  clear hW0 hx0 hn
  go_enter Tryz.func3, Tryz.ntmps3
  go_wp2_with (first | (rw [HW0.out]; refine wpList_load_rowG (by rfl) 29 (.tmp 1) rfl w.heap.size rfl 29 n.cells (0, 0) _ g0 Tryz.underlying29 rfl (ninfo _) ?_) | (go_at_call 4; refine Hid.out ?_))
  refine Lib.hid ?_
  refine hs.mono ?_
  rintro e1 w1 ⟨b, hb, rfl, hx1⟩
  have g1 := (hx1.block _ (lt_of_heap g0)).trans g0
  have Hx1 := Lib.hid (Hx0.out.tr hx1)
  cases b with
  | false =>
    clear hx1 g1 g0 hs hb
    go_wp2_with (go_at_call 5; refine (live08 _).mono ?_; rintro e9 w9 ⟨rfl, hx9⟩; have Hx9 : Hid (Ext _ w9) := Lib.hid hx9; clear hx9)
    go_ret
    exact ⟨rfl, Hx1.out.tr Hx9.out⟩
  | true =>
    obtain ⟨h1, h2⟩ := hb rfl
    have N1 := Lib.hid ((Hn.out.in_ h1 h2).ext Hx1.out)
    have hp := nput_any n w1 N1.out
    have h150 := h1
    clear hx1 g0 hs hb h2 h1
    go_wp2_with (first | (refine wpList_load_rowG (by rfl) 29 (.tmp 1) rfl w.heap.size rfl 29 n.cells (0, 0) _ g1 Tryz.underlying29 rfl (ninfo _) ?_) | (go_at_call 6; refine Hid.out ?_))
    refine Lib.hid ?_
    refine hp.mono ?_
    rintro e2 w2 ⟨r, A2, c2, hR, rfl, hrd, _, hx2⟩
    have g2 := (hx2.block _ (lt_of_heap g1)).trans g1
    have N2 := Lib.hid (N1.out.ext hx2)
    have X2 := Lib.hid (Hx1.out.tr hx2)
    have HR := Lib.hid hR
    have Hrd := Lib.hid hrd
    have hp2 := rput_Node n w2 N2.out
    clear hR hx2 hp g1 hrd
    go_wp2_with (first | (refine wpList_load_rowG (by rfl) 29 (.tmp 1) rfl w.heap.size rfl 29 n.cells (0, 0) _ g2 Tryz.underlying29 rfl (ninfo _) ?_) | (go_at_call 7; refine Hid.out ?_))
    refine Lib.hid ?_
    refine hp2.mono ?_
    rintro e3 w3 ⟨r2, A3, c3, hR2, rfl, hrd3, _, hx3⟩
    have hrr := hR2.uniq HR.out
    subst hrr
    have g3 := (hx3.block _ (lt_of_heap g2)).trans g2
    have X3 := Lib.hid (X2.out.tr hx3)
    have HX23 := Lib.hid hx3
    have N3 := Lib.hid (N2.out.ext (hx3.tr (Ext.drew w3)))
    have Hr2 := Lib.hid (Hrd.out.below hx3)
    have Hr3 := Lib.hid hrd3
    have Gd := Lib.hid (((Ext.drew w3).block _ (lt_of_heap g3)).trans g3)
    have d0 : w3.drew.cell? ⟨w.heap.size, 0, none⟩ = some (.int .i64 n.kind) := by rw [row_cell Gd.out]; rfl
    have d2 : w3.drew.cell? ⟨w.heap.size, 2, none⟩ = some (.slice n.ca n.cl.length n.cc) := by rw [row_cell Gd.out]; rfl
    have G3 := Lib.hid g3
    clear hR2 hx3 hp2 g2 hrd3 g3
    obtain ⟨S, code⟩ := r2
    simp only at Hr2 Hr3 ⊢
    obtain ⟨u, hu⟩ : ∃ u, u = Nd.used n.kind (n.cl.map CellV.x) := ⟨_, rfl⟩
    have hus := fun A c W (h : RdC W A n.cl) => used_any n.kind A n.cl c W h (by omega)
    have hur := fun A c W (h : RdC W A n.cl) => rused_any n.kind A n.cl c W h (by omega)
    simp only [← hu] at hus hur
    obtain ⟨u1, u2⟩ := u
    simp only at hus hur
    have Hus := Lib.hid hus
    have Hur := Lib.hid hur
    clear hu hus hur
    go_wp2_with fail
    refine rg_start (by kernel_rfl) ?_
    refine rg_take 0 rfl (by kernel_rfl) (by kernel_rfl) (by kernel_rfl) (fun _ _ _ _ h => h) (by rfl) ⟨_, fun w' hx => by (go_simp <;> with_reducible rfl), ?_⟩   -- t26 := fieldAddr 29 t1 0
    simp only [Act.put, List.setIfInBounds_toArray, List.set_cons_zero, List.set_cons_succ]
    refine rg_take 1 rfl (by kernel_rfl) (by kernel_rfl) (by kernel_rfl) (fun _ _ _ _ h => h) (by rfl) ⟨_, fun w' hx => by have hcx := hx.load d0; (go_simp <;> with_reducible rfl), ?_⟩
    simp only [Act.put, List.setIfInBounds_toArray, List.set_cons_zero, List.set_cons_succ]
    refine rg_take 3 rfl (by kernel_rfl) (by kernel_rfl) (by kernel_rfl) (fun _ _ _ _ h => h) (by rfl) ⟨_, fun w' hx => by (go_simp <;> with_reducible rfl), ?_⟩   -- t29 := fieldAddr 29 t1 2
    simp only [Act.put, List.setIfInBounds_toArray, List.set_cons_zero, List.set_cons_succ]
    refine rg_take 4 rfl (by kernel_rfl) (by kernel_rfl) (by kernel_rfl) (fun _ _ _ _ h => h) (by rfl) ⟨_, fun w' hx => by have hcx := hx.load d2; (go_simp <;> with_reducible rfl), ?_⟩
    simp only [Act.put, List.setIfInBounds_toArray, List.set_cons_zero, List.set_cons_succ]
    refine rg_make 2 rfl (by kernel_rfl) (by rfl) ⟨.slice (some ⟨w3.drew.heap.size, 0, none⟩) 0 0, w3.drew.alloc (.cells #[] 43), by (go_simp <;> first | exact ⟨rfl, rfl⟩ | rfl), Ext.alloc _ _, ?_⟩
    obtain ⟨w4, hw4⟩ : ∃ w4, w4 = w3.drew.alloc (.cells #[] 43) := ⟨_, rfl⟩
    have X4 : Hid (Ext w3.drew w4) := by rw [hw4]; exact Ext.alloc _ _
    rw [← hw4]
    clear hw4
    obtain ⟨b4, hb4⟩ : ∃ b4, b4 = w3.drew.heap.size := ⟨_, rfl⟩
    rw [← hb4]
    clear hb4
    simp only [Act.put, List.setIfInBounds_toArray, List.set_cons_zero, List.set_cons_succ]
    refine rg_one 5 rfl (by kernel_rfl) (by rfl) (wp_app (.tmp 28) (.tmp 30) 23 rfl elemC5 w4.heap.size (some ⟨b4, 0, none⟩) 0 0 [] rfl n.ca n.cl.length n.cc (ccs n.cl) rfl n.cl.length (by omega) (ccs n.cl) rfl (Own.none_ _ _ _ _ _) (N3.out.cr.below X4.out).rd (ccs_one _) (by omega) (by omega) (Nat.le_refl _) (fun A5 c5 w5 ho5 hg5 hr5 => ⟨.inl (below_app (Below.refl _ _) (Own.none_ w4 w4.heap.size 43 5 (some ⟨b4, 0, none⟩)) hg5 (Nat.le_refl _)), ?_⟩))
    simp only [Act.put, List.setIfInBounds_toArray, List.set_cons_zero, List.set_cons_succ]
    have X5 : Hid (Ext w4 w5) := Lib.hid (below_app (Below.refl _ _) (Own.none_ w4 w4.heap.size 43 5 (some ⟨b4, 0, none⟩)) hg5 (Nat.le_refl _))
    have Hrc : Hid (RdC w5 A5 n.cl) := ⟨ho5.rd, fun c hc => (N3.out.cr.each c hc).ext (X4.out.tr X5.out)⟩
    clear ho5 hg5 hr5
    refine rg_call 6 (Hus.out A5 c5 w5 Hrc.out) rfl (by kernel_rfl) (by rfl) (by go_simp) ?_
    rintro e7 w7 ⟨rfl, hx7⟩
    have X6 := Lib.hid hx7
    clear hx7
    refine ⟨_, rfl, X6.out, ?_⟩
    simp only [Act.put, List.setIfInBounds_toArray, List.set_cons_zero, List.set_cons_succ]
    refine rg_take 7 rfl (by kernel_rfl) (by kernel_rfl) (by kernel_rfl) (fun _ _ _ _ h => h) (by rfl) ⟨_, fun w' hx => by (go_simp <;> with_reducible rfl), ?_⟩
    simp only [Act.put, List.setIfInBounds_toArray, List.set_cons_zero, List.set_cons_succ]
    refine rg_take 8 rfl (by kernel_rfl) (by kernel_rfl) (by kernel_rfl) (fun _ _ _ _ h => h) (by rfl) ⟨_, fun w' hx => by (go_simp <;> with_reducible rfl), ?_⟩
    simp only [Act.put, List.setIfInBounds_toArray, List.set_cons_zero, List.set_cons_succ]
    refine rg_take 9 rfl (by kernel_rfl) (by kernel_rfl) (by kernel_rfl) (fun _ _ _ _ h => h) (by rfl) ⟨_, fun w' hx => by (go_simp <;> with_reducible rfl), ?_⟩
    simp only [Act.put, List.setIfInBounds_toArray, List.set_cons_zero, List.set_cons_succ]
    refine rg_take 10 rfl (by kernel_rfl) (by kernel_rfl) (by kernel_rfl) (fun _ _ _ _ h => h) (by rfl) ⟨_, fun w' hx => by (go_simp <;> with_reducible rfl), ?_⟩
    simp only [Act.put, List.setIfInBounds_toArray, List.set_cons_zero, List.set_cons_succ]
    refine rg_take 11 rfl (by kernel_rfl) (by kernel_rfl) (by kernel_rfl) (fun _ _ _ _ h => h) (by rfl) ⟨_, fun w' hx => by (go_simp <;> with_reducible rfl), ?_⟩
    simp only [Act.put, List.setIfInBounds_toArray, List.set_cons_zero, List.set_cons_succ]
    refine rg_done (by kernel_rfl) ?_
    have hx7 : Ext w3 w7 := (Ext.drew w3).tr (X4.out.tr (X5.out.tr X6.out))
    have e0 : w7.cell? ⟨w.heap.size, 0, none⟩ = some (.int .i64 n.kind) := by rw [row_cell ((hx7.block _ (lt_of_heap G3.out)).trans G3.out)]; rfl
    have e2 : w7.cell? ⟨w.heap.size, 2, none⟩ = some (.slice n.ca n.cl.length n.cc) := by rw [row_cell ((hx7.block _ (lt_of_heap G3.out)).trans G3.out)]; rfl
    have hr7 := Hur.out n.ca n.cc w7 ((N2.out.cr.below (Ext.refl _)).below ((HX23.out).tr hx7))
    have H7 := Lib.hid hx7
    clear d0 d2 hx7
    go_wp2_with (go_at_call 9; refine hr7.mono ?_; rintro e8 w8 ⟨rfl, hx8⟩; have X8 := Lib.hid (H7.out.tr hx8); clear hx8; refine Hid.out ?_)
    refine Lib.hid ?_
    have z1 := run_str w8 25 9 5 A2 S c2 Tryz.underlying25 Tryz.underlying5 Tryz.underlying9 (Hr2.out.below X8.out) S.length rfl
    have z2 := run_str w8 25 9 5 A3 S c3 Tryz.underlying25 Tryz.underlying5 Tryz.underlying9 (Hr3.out.below X8.out) S.length rfl
    clear hr7 e0 e2
    go_wp2_with (first | (go_at_call 10; refine (num08 _ _).mono ?_; rintro e w' ⟨rfl, rfl⟩) | (go_at_call 5; refine (live08 _).mono ?_; rintro e9 w9 ⟨rfl, hx9⟩; have Hx9 : Hid (Ext _ w9) := Lib.hid hx9; clear hx9))
    go_ret
    exact ⟨rfl, X3.out.tr (X8.out.tr Hx9.out)⟩
end Go.Proofs.YtkpagmfaccmiaaaGreat
