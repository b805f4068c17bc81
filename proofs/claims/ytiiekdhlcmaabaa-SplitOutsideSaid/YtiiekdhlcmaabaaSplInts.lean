
/- Contracts: two lists that are the same (scowref18.Ints, SameParts). Printed by wip/tools/gen_spl18.py. -/

import Derived.Test.YtiiekdhlcmaabaaSplPlain

namespace Go.Proofs.Ytiiekdhlcmaabaa

open Go.RowKit

attribute [local go_sem] Oper.semAt_some

/-- A slice that reads as these numbers. -/
def RdI (w : World) (A : Option Addr) (l : List Nat) : Prop := Rd w 1 A l.length (l.map fun (n : Nat) => Value.int .i64 (n : Int))
theorem RdI.at_ {w : World} {A : Option Addr} {l : List Nat} (h : RdI w A l) {k : Nat} (hk : k < l.length) : ∃ ad, A = some ad ∧ w.cell? (ad.add k) = some (.int .i64 (l[k] : Int)) := by
  obtain ⟨ad, u, e, hu, hc⟩ := Rd.at_ h hk
  rw [List.getElem?_map, List.getElem?_eq_getElem hk] at hu
  injection hu with hu
  exact ⟨ad, e, by rw [hc, ← hu]⟩

set_option maxRecDepth 100000 in
set_option maxHeartbeats 2000000 in
theorem ref_ints18 (A B : Option Addr) (l : List Nat) (c d : Nat) (w : World) (hl : RdI w A l) (hm : RdI w B l) (hc : l.length ≤ 1000000) :
    Calls Try.prog 14 #[.slice A l.length c, .slice B l.length d] w fun e' w' => e' = .returned (.bool true) ∧ Below w.heap.size w w' := by
  go_enter Try.func14, Try.ntmps14
  go_wp2
  go_loopw [5] (fun i wr => ∃ k : Nat, k ≤ l.length ∧ i = .int .i64 k ∧ Below w.heap.size w wr) (fun i _ => l.length - (intOf i).toNat)
  case atStart => exact ⟨0, by omega, rfl, Below.refl _ _⟩
  case round =>
    obtain ⟨k, hk, rfl, hbw⟩ := hrel
    by_cases h : k < l.length
    · obtain ⟨ad, rfl, hc1⟩ := RdI.at_ (Rd.below hl hbw) h
      obtain ⟨ad2, rfl, hc2⟩ := RdI.at_ (Rd.below hm hbw) h
      have k1 : wr.drew.cell? _ = _ := hc1
      have k2 : wr.drew.cell? _ = _ := hc2
      have ik : (0 : Int) ≤ (k : Int) := by omega
      have ik2 : (k : Int) < (l.length : Int) := by omega
      have hbd := hbw.trans ((Ext.drew wr).mono hbw.size)
      clear hc1 hc2
      go_wp2_with fail
      refine rg_start (by kernel_rfl) ?_
      refine rg_take 0 rfl (by kernel_rfl) (by kernel_rfl) (by kernel_rfl) (fun _ _ _ _ h => h) (by rfl) ⟨_, fun w' hx => by (go_simp <;> with_reducible rfl), ?_⟩
      simp only [Act.put, List.setIfInBounds_toArray, List.set_cons_zero, List.set_cons_succ]
      refine rg_take 1 rfl (by kernel_rfl) (by kernel_rfl) (by kernel_rfl) (fun _ _ _ _ h => h) (by rfl) ⟨_, fun w' hx => by (go_simp <;> with_reducible rfl), ?_⟩
      simp only [Act.put, List.setIfInBounds_toArray, List.set_cons_zero, List.set_cons_succ]
      refine rg_take 2 rfl (by kernel_rfl) (by kernel_rfl) (by kernel_rfl) (fun _ _ _ _ h => h) (by rfl) ⟨_, fun w' hx => by (go_simp <;> with_reducible rfl), ?_⟩   -- t19 := indexAddr 35 t17 t18
      simp only [Act.put, List.setIfInBounds_toArray, List.set_cons_zero, List.set_cons_succ]
      refine rg_take 3 rfl (by kernel_rfl) (by kernel_rfl) (by kernel_rfl) (fun _ _ _ _ h => h) (by rfl) ⟨_, fun w' hx => by have hcx := hx.load k1; (go_simp <;> with_reducible rfl), ?_⟩
      simp only [Act.put, List.setIfInBounds_toArray, List.set_cons_zero, List.set_cons_succ]
      refine rg_take 4 rfl (by kernel_rfl) (by kernel_rfl) (by kernel_rfl) (fun _ _ _ _ h => h) (by rfl) ⟨_, fun w' hx => by (go_simp <;> with_reducible rfl), ?_⟩
      simp only [Act.put, List.setIfInBounds_toArray, List.set_cons_zero, List.set_cons_succ]
      refine rg_take 5 rfl (by kernel_rfl) (by kernel_rfl) (by kernel_rfl) (fun _ _ _ _ h => h) (by rfl) ⟨_, fun w' hx => by (go_simp <;> with_reducible rfl), ?_⟩
      simp only [Act.put, List.setIfInBounds_toArray, List.set_cons_zero, List.set_cons_succ]
      refine rg_take 6 rfl (by kernel_rfl) (by kernel_rfl) (by kernel_rfl) (fun _ _ _ _ h => h) (by rfl) ⟨_, fun w' hx => by (go_simp <;> with_reducible rfl), ?_⟩   -- t23 := indexAddr 35 t21 t22
      simp only [Act.put, List.setIfInBounds_toArray, List.set_cons_zero, List.set_cons_succ]
      refine rg_take 7 rfl (by kernel_rfl) (by kernel_rfl) (by kernel_rfl) (fun _ _ _ _ h => h) (by rfl) ⟨_, fun w' hx => by have hcx := hx.load k2; (go_simp <;> with_reducible rfl), ?_⟩
      simp only [Act.put, List.setIfInBounds_toArray, List.set_cons_zero, List.set_cons_succ]
      refine rg_take 8 rfl (by kernel_rfl) (by kernel_rfl) (by kernel_rfl) (fun _ _ _ _ h => h) (by rfl) ⟨.bool false, fun w' hx => by (go_simp <;> with_reducible rfl), ?_⟩
      simp only [Act.put, List.setIfInBounds_toArray, List.set_cons_zero, List.set_cons_succ]
      refine rg_done (by kernel_rfl) ?_
      go_wp2
      go_roundw
      case rel => exact ⟨k + 1, by omega, by go_num, hbd⟩
      case measure => simp [intOf]; omega
    · go_wp2
      go_ret
      exact ⟨rfl, hbw⟩

set_option maxRecDepth 100000 in
set_option maxHeartbeats 2000000 in
theorem ref_sameParts (A B : Option Addr) (l m : List PtV) (c d : Nat) (w : World) (hl : RdP w A l) (hm : RdP w B m) (hx : l.map PtV.x = m.map PtV.x) (hc : l.length ≤ 1000000) :
    Calls Try.prog 11 #[.slice A l.length c, .slice B m.length d] w fun e' w' => e' = .returned (.bool true) ∧ Below w.heap.size w w' := by
  have hlen : m.length = l.length := by have := congrArg List.length hx; simpa using this.symm
  have hxk : ∀ k (h : k < l.length) (h2 : k < m.length), l[k].x = m[k].x := fun k h h2 => by
    have h1 : (l.map PtV.x)[k]? = (m.map PtV.x)[k]? := by rw [hx]
    rw [List.getElem?_map, List.getElem?_map, List.getElem?_eq_getElem h, List.getElem?_eq_getElem h2] at h1
    simpa using h1
  rw [hlen]
  have Hxk := Lib.hid hxk
  have Hlen := Lib.hid hlen
  clear hx hxk hlen
  go_enter Try.func11, Try.ntmps11
  go_wp2
  go_loopw [5] (fun i wr => ∃ k : Nat, k ≤ l.length ∧ i = .int .i64 k ∧ Below w.heap.size w wr) (fun i _ => l.length - (intOf i).toNat)
  case atStart => exact ⟨0, by omega, rfl, Below.refl _ _⟩
  case round =>
    obtain ⟨k, hk, rfl, hbw⟩ := hrel
    by_cases h : k < l.length
    · obtain ⟨ad, rfl, hcx', hin⟩ := (hl.below hbw).at_ h
      obtain ⟨ad2, rfl, hcy', hin2⟩ := (hm.below hbw).at_ (show k < m.length by rw [Hlen.out]; exact h)
      have hpq := Hxk.out k h (by rw [Hlen.out]; exact h)
      obtain ⟨p, hp⟩ : ∃ p, p = l[k] := ⟨_, rfl⟩
      obtain ⟨q, hq⟩ : ∃ q, q = m[k]'(by rw [Hlen.out]; exact h) := ⟨_, rfl⟩
      rw [← hp] at hcx' hin hpq
      rw [← hq] at hcy' hin2 hpq
      have hcx : ∀ j u, (p.cells)[j]? = some u → wr.drew.cell? ((ad.add (k * 35)).add j) = some u := hcx'
      have hcy : ∀ j u, (q.cells)[j]? = some u → wr.drew.cell? ((ad2.add (k * 35)).add j) = some u := hcy'
      have hps := hin.sum
      have hqs := hin2.sum
      have hS := ref_samePart p q wr.drew (hin.below (Ext.drew wr)) (hin2.below (Ext.drew wr))
      rw [hpq, Pt.same_refl] at hS
      simp only [PtV.val] at hS
      have HS := Lib.hid hS
      have ik : (0 : Int) ≤ (k : Int) := by omega
      have ik2 : (k : Int) < (l.length : Int) := by omega
      have hbd := hbw.trans ((Ext.drew wr).mono hbw.size)
      clear hcx' hcy' hS hpq hp hq
      go_wp2_with fail
      refine rg_start (by kernel_rfl) ?_
      refine rg_take 0 rfl (by kernel_rfl) (by kernel_rfl) (by kernel_rfl) (fun _ _ _ _ h => h) (by rfl) ⟨_, fun w' hx => by (go_simp <;> with_reducible rfl), ?_⟩
      simp only [Act.put, List.setIfInBounds_toArray, List.set_cons_zero, List.set_cons_succ]
      refine rg_take 1 rfl (by kernel_rfl) (by kernel_rfl) (by kernel_rfl) (fun _ _ _ _ h => h) (by rfl) ⟨_, fun w' hx => by (go_simp <;> with_reducible rfl), ?_⟩
      simp only [Act.put, List.setIfInBounds_toArray, List.set_cons_zero, List.set_cons_succ]
      refine rg_take 2 rfl (by kernel_rfl) (by kernel_rfl) (by kernel_rfl) (fun _ _ _ _ h => h) (by rfl) ⟨_, fun w' hx => by (go_simp <;> with_reducible rfl), ?_⟩   -- t19 := indexAddr 27 t17 t18
      simp only [Act.put, List.setIfInBounds_toArray, List.set_cons_zero, List.set_cons_succ]
      refine rg_take 3 rfl (by kernel_rfl) (by kernel_rfl) (by kernel_rfl) (fun _ _ _ _ h => h) (by rfl) ⟨.agg p.cells, fun w' hx => ex_load_cells 33 _ rfl _ rfl p.cells _ (fun j u hj => Ext.load hx (hcx j u hj)) Try.underlying33 rfl (pinfo hps), ?_⟩
      simp only [Act.put, List.setIfInBounds_toArray, List.set_cons_zero, List.set_cons_succ]
      refine rg_take 4 rfl (by kernel_rfl) (by kernel_rfl) (by kernel_rfl) (fun _ _ _ _ h => h) (by rfl) ⟨_, fun w' hx => by (go_simp <;> with_reducible rfl), ?_⟩
      simp only [Act.put, List.setIfInBounds_toArray, List.set_cons_zero, List.set_cons_succ]
      refine rg_take 5 rfl (by kernel_rfl) (by kernel_rfl) (by kernel_rfl) (fun _ _ _ _ h => h) (by rfl) ⟨_, fun w' hx => by (go_simp <;> with_reducible rfl), ?_⟩
      simp only [Act.put, List.setIfInBounds_toArray, List.set_cons_zero, List.set_cons_succ]
      refine rg_take 6 rfl (by kernel_rfl) (by kernel_rfl) (by kernel_rfl) (fun _ _ _ _ h => h) (by rfl) ⟨_, fun w' hx => by (go_simp <;> with_reducible rfl), ?_⟩   -- t23 := indexAddr 27 t21 t22
      simp only [Act.put, List.setIfInBounds_toArray, List.set_cons_zero, List.set_cons_succ]
      refine rg_take 7 rfl (by kernel_rfl) (by kernel_rfl) (by kernel_rfl) (fun _ _ _ _ h => h) (by rfl) ⟨.agg q.cells, fun w' hx => ex_load_cells 33 _ rfl _ rfl q.cells _ (fun j u hj => Ext.load hx (hcy j u hj)) Try.underlying33 rfl (pinfo hqs), ?_⟩
      simp only [Act.put, List.setIfInBounds_toArray, List.set_cons_zero, List.set_cons_succ]
      refine rg_call 8 HS.out rfl (by kernel_rfl) (by rfl) (by go_simp) ?_
      rintro e w2 ⟨rfl, hb2⟩
      refine ⟨_, rfl, hb2, ?_⟩
      simp only [Act.put, List.setIfInBounds_toArray, List.set_cons_zero, List.set_cons_succ]
      refine rg_take 9 rfl (by kernel_rfl) (by kernel_rfl) (by kernel_rfl) (fun _ _ _ _ h => h) (by rfl) ⟨.bool false, fun w' hx => by (go_simp <;> with_reducible rfl), ?_⟩
      simp only [Act.put, List.setIfInBounds_toArray, List.set_cons_zero, List.set_cons_succ]
      refine rg_done (by kernel_rfl) ?_
      go_wp2
      go_roundw
      case rel => exact ⟨k + 1, by omega, by go_num, hbd.trans (hb2.mono hbd.size)⟩
      case measure => simp [intOf]; omega
    · go_wp2
      go_ret
      exact ⟨rfl, hbw⟩
end Go.Proofs.Ytiiekdhlcmaabaa
