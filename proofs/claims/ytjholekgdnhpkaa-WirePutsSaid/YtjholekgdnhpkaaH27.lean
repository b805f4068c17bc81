
/- Texts laid together by wip/tools/lay2.py: EntRiseJ EntPlain. -/

import Derived.Test.YtjholekgdnhpkaaH6

import Derived.Test.YtjholekgdnhpkaaH17

set_option linter.unusedVariables false

set_option linter.unusedSimpArgs false

set_option linter.unusedSectionVars false

/- Contract: whether entries rise (scowref17.Rising), both ways. XEntRise, turned by a program (session 10). -/

namespace Go.Proofs.Ytjholekgdnhpkaa

open Go.RowKit

attribute [local go_sem] Oper.semAt_some

/-- Keys rise strictly, all entries are such as may be. -/
structure Rise (l : List Ent) : Prop where
 ok : ∀ k (h : k < l.length), 1 ≤ l[k].key.length ∧ l[k].key.length ≤ 24 ∧ l[k].val.length ≤ 1000
 up : ∀ k (h : k + 1 < l.length), ltB (l[k]'(by omega)).key l[k + 1].key = true

set_option maxRecDepth 100000 in
set_option maxHeartbeats 4000000 in
theorem ref_risingI (A : Option Addr) (l : List EnV) (c : Nat) (w : World) (hl : RdE w A l) (hc : l.length ≤ 1000000) :
  Calls Try.prog 46 #[.slice A l.length c] w fun e' w' => ∃ b : Bool, e' = .returned (.bool b) ∧ (b = true ↔ Rise (l.map EnV.x)) ∧ Below w.heap.size w w' := by
 have hrise : (∀ k (h : k < l.length), 1 ≤ l[k].x.key.length ∧ l[k].x.key.length ≤ 24 ∧ l[k].x.val.length ≤ 1000) → (∀ k (h : k + 1 < l.length) (h2 : k < l.length), ltB l[k].x.key l[k + 1].x.key = true) → Rise (l.map EnV.x) := fun h1 h2 =>
  ⟨fun k h => by simpa using h1 k (by simpa using h), fun k h => by simpa using h2 k (by simpa using h) (Nat.lt_of_succ_lt (by simpa using h))⟩
 have HRise := Lib.hid hrise
 clear hrise
 go_enter Try.func46, Try.ntmps46
 go_wp2
 go_loopw [3] (fun i wr => ∃ k : Nat, k ≤ l.length ∧ i = .int .i64 k ∧ (∀ j (h : j < l.length), j < k → 1 ≤ l[j].x.key.length ∧ l[j].x.key.length ≤ 24 ∧ l[j].x.val.length ≤ 1000) ∧ (∀ j (h : j + 1 < l.length) (h2 : j < l.length), j + 1 < k → ltB l[j].x.key l[j + 1].x.key = true) ∧ Below w.heap.size w wr) (fun i _ => l.length - (intOf i).toNat)
 case atStart => exact ⟨0, by omega, rfl, fun j _ h => absurd h (by omega), fun j _ _ h => absurd h (by omega), Below.refl _ _⟩
 case round =>
  obtain ⟨k, hk, rfl, hok, hup, hbw⟩ := hrel
  have Hok := Lib.hid hok
  have Hup := Lib.hid hup
  clear hok hup
  have hbd := hbw.trans ((Ext.drew wr).mono hbw.size)
  by_cases h : k < l.length
  ·
   obtain ⟨ad, rfl, hcell, hin⟩ := (hl.below hbw).at_ h
   have k1 : wr.drew.cell? _ = _ := key_at hcell
   have v1 : wr.drew.cell? _ = _ := val_at hcell
   have ik : (0 : Int) ≤ (k : Int) := by omega
   have ik2 : (k : Int) < (l.length : Int) := by omega
   have Hcell := Lib.hid hcell
   clear hcell
   by_cases a1 : l[k].x.key.length < 1
   ·
    have b1 : decide ((l[k].x.key.length : Int) < 1) = true := by simp; omega
    go_wp2_with fail
    refine rg_start (by kernel_rfl) ?_
    refine rg_take 0 rfl (by kernel_rfl) (by kernel_rfl) (by kernel_rfl) (fun _ _ _ _ h => h) (by rfl) ⟨_, fun w' hx => by (go_simp <;> with_reducible rfl), ?_⟩
    simp only [Act.put, sA, sB, sC]
    refine rg_take 1 rfl (by kernel_rfl) (by kernel_rfl) (by kernel_rfl) (fun _ _ _ _ h => h) (by rfl) ⟨_, fun w' hx => by (go_simp <;> with_reducible rfl), ?_⟩
    simp only [Act.put, sA, sB, sC]
    refine rg_take 2 rfl (by kernel_rfl) (by kernel_rfl) (by kernel_rfl) (fun _ _ _ _ h => h) (by rfl) ⟨_, fun w' hx => by (go_simp <;> with_reducible rfl), ?_⟩
    simp only [Act.put, sA, sB, sC]
    refine rg_take 3 rfl (by kernel_rfl) (by kernel_rfl) (by kernel_rfl) (fun _ _ _ _ h => h) (by rfl) ⟨_, fun w' hx => by (go_simp <;> with_reducible rfl), ?_⟩
    simp only [Act.put, sA, sB, sC]
    refine rg_take 4 rfl (by kernel_rfl) (by kernel_rfl) (by kernel_rfl) (fun _ _ _ _ h => h) (by rfl) ⟨_, fun w' hx => by have hcx := hx.load k1; (go_simp <;> with_reducible rfl), ?_⟩
    simp only [Act.put, sA, sB, sC]
    refine rg_take 5 rfl (by kernel_rfl) (by kernel_rfl) (by kernel_rfl) (fun _ _ _ _ h => h) (by rfl) ⟨_, fun w' hx => by (go_simp <;> with_reducible rfl), ?_⟩
    simp only [Act.put, sA, sB, sC]
    refine rg_take 6 rfl (by kernel_rfl) (by kernel_rfl) (by kernel_rfl) (fun _ _ _ _ h => h) (by rfl) ⟨.bool true, fun w' hx => by (go_simp <;> with_reducible rfl), ?_⟩
    simp only [Act.put, sA, sB, sC]
    refine rg_take 7 rfl (by kernel_rfl) (by kernel_rfl) (by kernel_rfl) (fun _ _ _ _ h => h) (by rfl) ⟨_, fun w' hx => by (go_simp <;> with_reducible rfl), ?_⟩
    simp only [Act.put, sA, sB, sC]
    refine rg_skip 8 rfl (by kernel_rfl) (by kernel_rfl) (by kernel_rfl) (fun _ _ _ _ h => h) (by rfl) ?_
    simp only [Act.put, sA, sB, sC]
    refine rg_skip 9 rfl (by kernel_rfl) (by kernel_rfl) (by kernel_rfl) (fun _ _ _ _ h => h) (by rfl) ?_
    simp only [Act.put, sA, sB, sC]
    refine rg_skip 10 rfl (by kernel_rfl) (by kernel_rfl) (by kernel_rfl) (fun _ _ _ _ h => h) (by rfl) ?_
    simp only [Act.put, sA, sB, sC]
    refine rg_skip 11 rfl (by kernel_rfl) (by kernel_rfl) (by kernel_rfl) (fun _ _ _ _ h => h) (by rfl) ?_
    simp only [Act.put, sA, sB, sC]
    refine rg_skip 12 rfl (by kernel_rfl) (by kernel_rfl) (by kernel_rfl) (fun _ _ _ _ h => h) (by rfl) ?_
    simp only [Act.put, sA, sB, sC]
    refine rg_skip 13 rfl (by kernel_rfl) (by kernel_rfl) (by kernel_rfl) (fun _ _ _ _ h => h) (by rfl) ?_
    simp only [Act.put, sA, sB, sC]
    refine rg_skip 14 rfl (by kernel_rfl) (by kernel_rfl) (by kernel_rfl) (fun _ _ _ _ h => h) (by rfl) ?_
    simp only [Act.put, sA, sB, sC]
    refine rg_take 15 rfl (by kernel_rfl) (by kernel_rfl) (by kernel_rfl) (fun _ _ _ _ h => h) (by rfl) ⟨_, fun w' hx => by (go_simp <;> with_reducible rfl), ?_⟩
    simp only [Act.put, sA, sB, sC]
    refine rg_take 16 rfl (by kernel_rfl) (by kernel_rfl) (by kernel_rfl) (fun _ _ _ _ h => h) (by rfl) ⟨_, fun w' hx => by (go_simp <;> with_reducible rfl), ?_⟩
    simp only [Act.put, sA, sB, sC]
    refine rg_skip 17 rfl (by kernel_rfl) (by kernel_rfl) (by kernel_rfl) (fun _ _ _ _ h => h) (by rfl) ?_
    simp only [Act.put, sA, sB, sC]
    refine rg_skip 18 rfl (by kernel_rfl) (by kernel_rfl) (by kernel_rfl) (fun _ _ _ _ h => h) (by rfl) ?_
    simp only [Act.put, sA, sB, sC]
    refine rg_skip 19 rfl (by kernel_rfl) (by kernel_rfl) (by kernel_rfl) (fun _ _ _ _ h => h) (by rfl) ?_
    simp only [Act.put, sA, sB, sC]
    refine rg_skip 20 rfl (by kernel_rfl) (by kernel_rfl) (by kernel_rfl) (fun _ _ _ _ h => h) (by rfl) ?_
    simp only [Act.put, sA, sB, sC]
    refine rg_skip 21 rfl (by kernel_rfl) (by kernel_rfl) (by kernel_rfl) (fun _ _ _ _ h => h) (by rfl) ?_
    simp only [Act.put, sA, sB, sC]
    refine rg_skip 22 rfl (by kernel_rfl) (by kernel_rfl) (by kernel_rfl) (fun _ _ _ _ h => h) (by rfl) ?_
    simp only [Act.put, sA, sB, sC]
    refine rg_skip 23 rfl (by kernel_rfl) (by kernel_rfl) (by kernel_rfl) (fun _ _ _ _ h => h) (by rfl) ?_
    simp only [Act.put, sA, sB, sC]
    refine rg_take 24 rfl (by kernel_rfl) (by kernel_rfl) (by kernel_rfl) (fun _ _ _ _ h => h) (by rfl) ⟨_, fun w' hx => by (go_simp <;> with_reducible rfl), ?_⟩
    simp only [Act.put, sA, sB, sC]
    refine rg_take 25 rfl (by kernel_rfl) (by kernel_rfl) (by kernel_rfl) (fun _ _ _ _ h => h) (by rfl) ⟨_, fun w' hx => by (go_simp <;> with_reducible rfl), ?_⟩
    simp only [Act.put, sA, sB, sC]
    refine rg_skip 26 rfl (by kernel_rfl) (by kernel_rfl) (by kernel_rfl) (fun _ _ _ _ h => h) (by rfl) ?_
    simp only [Act.put, sA, sB, sC]
    refine rg_skip 27 rfl (by kernel_rfl) (by kernel_rfl) (by kernel_rfl) (fun _ _ _ _ h => h) (by rfl) ?_
    simp only [Act.put, sA, sB, sC]
    refine rg_skip 28 rfl (by kernel_rfl) (by kernel_rfl) (by kernel_rfl) (fun _ _ _ _ h => h) (by rfl) ?_
    simp only [Act.put, sA, sB, sC]
    refine rg_skip 29 rfl (by kernel_rfl) (by kernel_rfl) (by kernel_rfl) (fun _ _ _ _ h => h) (by rfl) ?_
    simp only [Act.put, sA, sB, sC]
    refine rg_skip 30 rfl (by kernel_rfl) (by kernel_rfl) (by kernel_rfl) (fun _ _ _ _ h => h) (by rfl) ?_
    simp only [Act.put, sA, sB, sC]
    refine rg_skip 31 rfl (by kernel_rfl) (by kernel_rfl) (by kernel_rfl) (fun _ _ _ _ h => h) (by rfl) ?_
    simp only [Act.put, sA, sB, sC]
    refine rg_skip 32 rfl (by kernel_rfl) (by kernel_rfl) (by kernel_rfl) (fun _ _ _ _ h => h) (by rfl) ?_
    simp only [Act.put, sA, sB, sC]
    refine rg_skip 33 rfl (by kernel_rfl) (by kernel_rfl) (by kernel_rfl) (fun _ _ _ _ h => h) (by rfl) ?_
    simp only [Act.put, sA, sB, sC]
    refine rg_skip 34 rfl (by kernel_rfl) (by kernel_rfl) (by kernel_rfl) (fun _ _ _ _ h => h) (by rfl) ?_
    simp only [Act.put, sA, sB, sC]
    refine rg_skip 35 rfl (by kernel_rfl) (by kernel_rfl) (by kernel_rfl) (fun _ _ _ _ h => h) (by rfl) ?_
    simp only [Act.put, sA, sB, sC]
    refine rg_skip 36 rfl (by kernel_rfl) (by kernel_rfl) (by kernel_rfl) (fun _ _ _ _ h => h) (by rfl) ?_
    simp only [Act.put, sA, sB, sC]
    refine rg_skip 37 rfl (by kernel_rfl) (by kernel_rfl) (by kernel_rfl) (fun _ _ _ _ h => h) (by rfl) ?_
    simp only [Act.put, sA, sB, sC]
    refine rg_skip 38 rfl (by kernel_rfl) (by kernel_rfl) (by kernel_rfl) (fun _ _ _ _ h => h) (by rfl) ?_
    simp only [Act.put, sA, sB, sC]
    refine rg_skip 39 rfl (by kernel_rfl) (by kernel_rfl) (by kernel_rfl) (fun _ _ _ _ h => h) (by rfl) ?_
    simp only [Act.put, sA, sB, sC]
    refine rg_skip 40 rfl (by kernel_rfl) (by kernel_rfl) (by kernel_rfl) (fun _ _ _ _ h => h) (by rfl) ?_
    simp only [Act.put, sA, sB, sC]
    refine rg_skip 41 rfl (by kernel_rfl) (by kernel_rfl) (by kernel_rfl) (fun _ _ _ _ h => h) (by rfl) ?_
    simp only [Act.put, sA, sB, sC]
    refine rg_skip 42 rfl (by kernel_rfl) (by kernel_rfl) (by kernel_rfl) (fun _ _ _ _ h => h) (by rfl) ?_
    simp only [Act.put, sA, sB, sC]
    refine rg_skip 43 rfl (by kernel_rfl) (by kernel_rfl) (by kernel_rfl) (fun _ _ _ _ h => h) (by rfl) ?_
    simp only [Act.put, sA, sB, sC]
    refine rg_take 44 rfl (by kernel_rfl) (by kernel_rfl) (by kernel_rfl) (fun _ _ _ _ h => h) (by rfl) ⟨_, fun w' hx => by (go_simp <;> with_reducible rfl), ?_⟩
    simp only [Act.put, sA, sB, sC]
    refine rg_done (by kernel_rfl) ?_
    go_wp2
    go_ret
    exact ⟨false, rfl, ⟨(fun h => by cases h), fun hr => by have h1 := hr.ok k (by simpa using h); simp only [List.getElem_map] at h1; omega⟩, hbd⟩
   ·
    have b1 : decide ((l[k].x.key.length : Int) < 1) = false := by simp; omega
    by_cases a2 : 24 < l[k].x.key.length
    ·
     have b2 : decide (24 < (l[k].x.key.length : Int)) = true := by simp; omega
     go_wp2_with fail
     refine rg_start (by kernel_rfl) ?_
     refine rg_take 0 rfl (by kernel_rfl) (by kernel_rfl) (by kernel_rfl) (fun _ _ _ _ h => h) (by rfl) ⟨_, fun w' hx => by (go_simp <;> with_reducible rfl), ?_⟩
     simp only [Act.put, sA, sB, sC]
     refine rg_take 1 rfl (by kernel_rfl) (by kernel_rfl) (by kernel_rfl) (fun _ _ _ _ h => h) (by rfl) ⟨_, fun w' hx => by (go_simp <;> with_reducible rfl), ?_⟩
     simp only [Act.put, sA, sB, sC]
     refine rg_take 2 rfl (by kernel_rfl) (by kernel_rfl) (by kernel_rfl) (fun _ _ _ _ h => h) (by rfl) ⟨_, fun w' hx => by (go_simp <;> with_reducible rfl), ?_⟩
     simp only [Act.put, sA, sB, sC]
     refine rg_take 3 rfl (by kernel_rfl) (by kernel_rfl) (by kernel_rfl) (fun _ _ _ _ h => h) (by rfl) ⟨_, fun w' hx => by (go_simp <;> with_reducible rfl), ?_⟩
     simp only [Act.put, sA, sB, sC]
     refine rg_take 4 rfl (by kernel_rfl) (by kernel_rfl) (by kernel_rfl) (fun _ _ _ _ h => h) (by rfl) ⟨_, fun w' hx => by have hcx := hx.load k1; (go_simp <;> with_reducible rfl), ?_⟩
     simp only [Act.put, sA, sB, sC]
     refine rg_take 5 rfl (by kernel_rfl) (by kernel_rfl) (by kernel_rfl) (fun _ _ _ _ h => h) (by rfl) ⟨_, fun w' hx => by (go_simp <;> with_reducible rfl), ?_⟩
     simp only [Act.put, sA, sB, sC]
     refine rg_take 6 rfl (by kernel_rfl) (by kernel_rfl) (by kernel_rfl) (fun _ _ _ _ h => h) (by rfl) ⟨.bool false, fun w' hx => by (go_simp <;> with_reducible rfl), ?_⟩
     simp only [Act.put, sA, sB, sC]
     refine rg_take 7 rfl (by kernel_rfl) (by kernel_rfl) (by kernel_rfl) (fun _ _ _ _ h => h) (by rfl) ⟨_, fun w' hx => by (go_simp <;> with_reducible rfl), ?_⟩
     simp only [Act.put, sA, sB, sC]
     refine rg_take 8 rfl (by kernel_rfl) (by kernel_rfl) (by kernel_rfl) (fun _ _ _ _ h => h) (by rfl) ⟨_, fun w' hx => by (go_simp <;> with_reducible rfl), ?_⟩
     simp only [Act.put, sA, sB, sC]
     refine rg_take 9 rfl (by kernel_rfl) (by kernel_rfl) (by kernel_rfl) (fun _ _ _ _ h => h) (by rfl) ⟨_, fun w' hx => by (go_simp <;> with_reducible rfl), ?_⟩
     simp only [Act.put, sA, sB, sC]
     refine rg_take 10 rfl (by kernel_rfl) (by kernel_rfl) (by kernel_rfl) (fun _ _ _ _ h => h) (by rfl) ⟨_, fun w' hx => by (go_simp <;> with_reducible rfl), ?_⟩
     simp only [Act.put, sA, sB, sC]
     refine rg_take 11 rfl (by kernel_rfl) (by kernel_rfl) (by kernel_rfl) (fun _ _ _ _ h => h) (by rfl) ⟨_, fun w' hx => by (go_simp <;> with_reducible rfl), ?_⟩
     simp only [Act.put, sA, sB, sC]
     refine rg_take 12 rfl (by kernel_rfl) (by kernel_rfl) (by kernel_rfl) (fun _ _ _ _ h => h) (by rfl) ⟨_, fun w' hx => by have hcx := hx.load k1; (go_simp <;> with_reducible rfl), ?_⟩
     simp only [Act.put, sA, sB, sC]
     refine rg_take 13 rfl (by kernel_rfl) (by kernel_rfl) (by kernel_rfl) (fun _ _ _ _ h => h) (by rfl) ⟨_, fun w' hx => by (go_simp <;> with_reducible rfl), ?_⟩
     simp only [Act.put, sA, sB, sC]
     refine rg_take 14 rfl (by kernel_rfl) (by kernel_rfl) (by kernel_rfl) (fun _ _ _ _ h => h) (by rfl) ⟨.bool true, fun w' hx => by (go_simp <;> with_reducible rfl), ?_⟩
     simp only [Act.put, sA, sB, sC]
     refine rg_take 15 rfl (by kernel_rfl) (by kernel_rfl) (by kernel_rfl) (fun _ _ _ _ h => h) (by rfl) ⟨_, fun w' hx => by (go_simp <;> with_reducible rfl), ?_⟩
     simp only [Act.put, sA, sB, sC]
     refine rg_take 16 rfl (by kernel_rfl) (by kernel_rfl) (by kernel_rfl) (fun _ _ _ _ h => h) (by rfl) ⟨_, fun w' hx => by (go_simp <;> with_reducible rfl), ?_⟩
     simp only [Act.put, sA, sB, sC]
     refine rg_skip 17 rfl (by kernel_rfl) (by kernel_rfl) (by kernel_rfl) (fun _ _ _ _ h => h) (by rfl) ?_
     simp only [Act.put, sA, sB, sC]
     refine rg_skip 18 rfl (by kernel_rfl) (by kernel_rfl) (by kernel_rfl) (fun _ _ _ _ h => h) (by rfl) ?_
     simp only [Act.put, sA, sB, sC]
     refine rg_skip 19 rfl (by kernel_rfl) (by kernel_rfl) (by kernel_rfl) (fun _ _ _ _ h => h) (by rfl) ?_
     simp only [Act.put, sA, sB, sC]
     refine rg_skip 20 rfl (by kernel_rfl) (by kernel_rfl) (by kernel_rfl) (fun _ _ _ _ h => h) (by rfl) ?_
     simp only [Act.put, sA, sB, sC]
     refine rg_skip 21 rfl (by kernel_rfl) (by kernel_rfl) (by kernel_rfl) (fun _ _ _ _ h => h) (by rfl) ?_
     simp only [Act.put, sA, sB, sC]
     refine rg_skip 22 rfl (by kernel_rfl) (by kernel_rfl) (by kernel_rfl) (fun _ _ _ _ h => h) (by rfl) ?_
     simp only [Act.put, sA, sB, sC]
     refine rg_skip 23 rfl (by kernel_rfl) (by kernel_rfl) (by kernel_rfl) (fun _ _ _ _ h => h) (by rfl) ?_
     simp only [Act.put, sA, sB, sC]
     refine rg_take 24 rfl (by kernel_rfl) (by kernel_rfl) (by kernel_rfl) (fun _ _ _ _ h => h) (by rfl) ⟨_, fun w' hx => by (go_simp <;> with_reducible rfl), ?_⟩
     simp only [Act.put, sA, sB, sC]
     refine rg_take 25 rfl (by kernel_rfl) (by kernel_rfl) (by kernel_rfl) (fun _ _ _ _ h => h) (by rfl) ⟨_, fun w' hx => by (go_simp <;> with_reducible rfl), ?_⟩
     simp only [Act.put, sA, sB, sC]
     refine rg_skip 26 rfl (by kernel_rfl) (by kernel_rfl) (by kernel_rfl) (fun _ _ _ _ h => h) (by rfl) ?_
     simp only [Act.put, sA, sB, sC]
     refine rg_skip 27 rfl (by kernel_rfl) (by kernel_rfl) (by kernel_rfl) (fun _ _ _ _ h => h) (by rfl) ?_
     simp only [Act.put, sA, sB, sC]
     refine rg_skip 28 rfl (by kernel_rfl) (by kernel_rfl) (by kernel_rfl) (fun _ _ _ _ h => h) (by rfl) ?_
     simp only [Act.put, sA, sB, sC]
     refine rg_skip 29 rfl (by kernel_rfl) (by kernel_rfl) (by kernel_rfl) (fun _ _ _ _ h => h) (by rfl) ?_
     simp only [Act.put, sA, sB, sC]
     refine rg_skip 30 rfl (by kernel_rfl) (by kernel_rfl) (by kernel_rfl) (fun _ _ _ _ h => h) (by rfl) ?_
     simp only [Act.put, sA, sB, sC]
     refine rg_skip 31 rfl (by kernel_rfl) (by kernel_rfl) (by kernel_rfl) (fun _ _ _ _ h => h) (by rfl) ?_
     simp only [Act.put, sA, sB, sC]
     refine rg_skip 32 rfl (by kernel_rfl) (by kernel_rfl) (by kernel_rfl) (fun _ _ _ _ h => h) (by rfl) ?_
     simp only [Act.put, sA, sB, sC]
     refine rg_skip 33 rfl (by kernel_rfl) (by kernel_rfl) (by kernel_rfl) (fun _ _ _ _ h => h) (by rfl) ?_
     simp only [Act.put, sA, sB, sC]
     refine rg_skip 34 rfl (by kernel_rfl) (by kernel_rfl) (by kernel_rfl) (fun _ _ _ _ h => h) (by rfl) ?_
     simp only [Act.put, sA, sB, sC]
     refine rg_skip 35 rfl (by kernel_rfl) (by kernel_rfl) (by kernel_rfl) (fun _ _ _ _ h => h) (by rfl) ?_
     simp only [Act.put, sA, sB, sC]
     refine rg_skip 36 rfl (by kernel_rfl) (by kernel_rfl) (by kernel_rfl) (fun _ _ _ _ h => h) (by rfl) ?_
     simp only [Act.put, sA, sB, sC]
     refine rg_skip 37 rfl (by kernel_rfl) (by kernel_rfl) (by kernel_rfl) (fun _ _ _ _ h => h) (by rfl) ?_
     simp only [Act.put, sA, sB, sC]
     refine rg_skip 38 rfl (by kernel_rfl) (by kernel_rfl) (by kernel_rfl) (fun _ _ _ _ h => h) (by rfl) ?_
     simp only [Act.put, sA, sB, sC]
     refine rg_skip 39 rfl (by kernel_rfl) (by kernel_rfl) (by kernel_rfl) (fun _ _ _ _ h => h) (by rfl) ?_
     simp only [Act.put, sA, sB, sC]
     refine rg_skip 40 rfl (by kernel_rfl) (by kernel_rfl) (by kernel_rfl) (fun _ _ _ _ h => h) (by rfl) ?_
     simp only [Act.put, sA, sB, sC]
     refine rg_skip 41 rfl (by kernel_rfl) (by kernel_rfl) (by kernel_rfl) (fun _ _ _ _ h => h) (by rfl) ?_
     simp only [Act.put, sA, sB, sC]
     refine rg_skip 42 rfl (by kernel_rfl) (by kernel_rfl) (by kernel_rfl) (fun _ _ _ _ h => h) (by rfl) ?_
     simp only [Act.put, sA, sB, sC]
     refine rg_skip 43 rfl (by kernel_rfl) (by kernel_rfl) (by kernel_rfl) (fun _ _ _ _ h => h) (by rfl) ?_
     simp only [Act.put, sA, sB, sC]
     refine rg_take 44 rfl (by kernel_rfl) (by kernel_rfl) (by kernel_rfl) (fun _ _ _ _ h => h) (by rfl) ⟨_, fun w' hx => by (go_simp <;> with_reducible rfl), ?_⟩
     simp only [Act.put, sA, sB, sC]
     refine rg_done (by kernel_rfl) ?_
     go_wp2
     go_ret
     exact ⟨false, rfl, ⟨(fun h => by cases h), fun hr => by have h1 := hr.ok k (by simpa using h); simp only [List.getElem_map] at h1; omega⟩, hbd⟩
    ·
     have b2 : decide (24 < (l[k].x.key.length : Int)) = false := by simp; omega
     by_cases a3 : 1000 < l[k].x.val.length
     ·
      have b3 : decide (1000 < (l[k].x.val.length : Int)) = true := by simp; omega
      go_wp2_with fail
      refine rg_start (by kernel_rfl) ?_
      refine rg_take 0 rfl (by kernel_rfl) (by kernel_rfl) (by kernel_rfl) (fun _ _ _ _ h => h) (by rfl) ⟨_, fun w' hx => by (go_simp <;> with_reducible rfl), ?_⟩
      simp only [Act.put, sA, sB, sC]
      refine rg_take 1 rfl (by kernel_rfl) (by kernel_rfl) (by kernel_rfl) (fun _ _ _ _ h => h) (by rfl) ⟨_, fun w' hx => by (go_simp <;> with_reducible rfl), ?_⟩
      simp only [Act.put, sA, sB, sC]
      refine rg_take 2 rfl (by kernel_rfl) (by kernel_rfl) (by kernel_rfl) (fun _ _ _ _ h => h) (by rfl) ⟨_, fun w' hx => by (go_simp <;> with_reducible rfl), ?_⟩
      simp only [Act.put, sA, sB, sC]
      refine rg_take 3 rfl (by kernel_rfl) (by kernel_rfl) (by kernel_rfl) (fun _ _ _ _ h => h) (by rfl) ⟨_, fun w' hx => by (go_simp <;> with_reducible rfl), ?_⟩
      simp only [Act.put, sA, sB, sC]
      refine rg_take 4 rfl (by kernel_rfl) (by kernel_rfl) (by kernel_rfl) (fun _ _ _ _ h => h) (by rfl) ⟨_, fun w' hx => by have hcx := hx.load k1; (go_simp <;> with_reducible rfl), ?_⟩
      simp only [Act.put, sA, sB, sC]
      refine rg_take 5 rfl (by kernel_rfl) (by kernel_rfl) (by kernel_rfl) (fun _ _ _ _ h => h) (by rfl) ⟨_, fun w' hx => by (go_simp <;> with_reducible rfl), ?_⟩
      simp only [Act.put, sA, sB, sC]
      refine rg_take 6 rfl (by kernel_rfl) (by kernel_rfl) (by kernel_rfl) (fun _ _ _ _ h => h) (by rfl) ⟨.bool false, fun w' hx => by (go_simp <;> with_reducible rfl), ?_⟩
      simp only [Act.put, sA, sB, sC]
      refine rg_take 7 rfl (by kernel_rfl) (by kernel_rfl) (by kernel_rfl) (fun _ _ _ _ h => h) (by rfl) ⟨_, fun w' hx => by (go_simp <;> with_reducible rfl), ?_⟩
      simp only [Act.put, sA, sB, sC]
      refine rg_take 8 rfl (by kernel_rfl) (by kernel_rfl) (by kernel_rfl) (fun _ _ _ _ h => h) (by rfl) ⟨_, fun w' hx => by (go_simp <;> with_reducible rfl), ?_⟩
      simp only [Act.put, sA, sB, sC]
      refine rg_take 9 rfl (by kernel_rfl) (by kernel_rfl) (by kernel_rfl) (fun _ _ _ _ h => h) (by rfl) ⟨_, fun w' hx => by (go_simp <;> with_reducible rfl), ?_⟩
      simp only [Act.put, sA, sB, sC]
      refine rg_take 10 rfl (by kernel_rfl) (by kernel_rfl) (by kernel_rfl) (fun _ _ _ _ h => h) (by rfl) ⟨_, fun w' hx => by (go_simp <;> with_reducible rfl), ?_⟩
      simp only [Act.put, sA, sB, sC]
      refine rg_take 11 rfl (by kernel_rfl) (by kernel_rfl) (by kernel_rfl) (fun _ _ _ _ h => h) (by rfl) ⟨_, fun w' hx => by (go_simp <;> with_reducible rfl), ?_⟩
      simp only [Act.put, sA, sB, sC]
      refine rg_take 12 rfl (by kernel_rfl) (by kernel_rfl) (by kernel_rfl) (fun _ _ _ _ h => h) (by rfl) ⟨_, fun w' hx => by have hcx := hx.load k1; (go_simp <;> with_reducible rfl), ?_⟩
      simp only [Act.put, sA, sB, sC]
      refine rg_take 13 rfl (by kernel_rfl) (by kernel_rfl) (by kernel_rfl) (fun _ _ _ _ h => h) (by rfl) ⟨_, fun w' hx => by (go_simp <;> with_reducible rfl), ?_⟩
      simp only [Act.put, sA, sB, sC]
      refine rg_take 14 rfl (by kernel_rfl) (by kernel_rfl) (by kernel_rfl) (fun _ _ _ _ h => h) (by rfl) ⟨.bool false, fun w' hx => by (go_simp <;> with_reducible rfl), ?_⟩
      simp only [Act.put, sA, sB, sC]
      refine rg_take 15 rfl (by kernel_rfl) (by kernel_rfl) (by kernel_rfl) (fun _ _ _ _ h => h) (by rfl) ⟨_, fun w' hx => by (go_simp <;> with_reducible rfl), ?_⟩
      simp only [Act.put, sA, sB, sC]
      refine rg_take 16 rfl (by kernel_rfl) (by kernel_rfl) (by kernel_rfl) (fun _ _ _ _ h => h) (by rfl) ⟨_, fun w' hx => by (go_simp <;> with_reducible rfl), ?_⟩
      simp only [Act.put, sA, sB, sC]
      refine rg_take 17 rfl (by kernel_rfl) (by kernel_rfl) (by kernel_rfl) (fun _ _ _ _ h => h) (by rfl) ⟨_, fun w' hx => by (go_simp <;> with_reducible rfl), ?_⟩
      simp only [Act.put, sA, sB, sC]
      refine rg_take 18 rfl (by kernel_rfl) (by kernel_rfl) (by kernel_rfl) (fun _ _ _ _ h => h) (by rfl) ⟨_, fun w' hx => by (go_simp <;> with_reducible rfl), ?_⟩
      simp only [Act.put, sA, sB, sC]
      refine rg_take 19 rfl (by kernel_rfl) (by kernel_rfl) (by kernel_rfl) (fun _ _ _ _ h => h) (by rfl) ⟨_, fun w' hx => by (go_simp <;> with_reducible rfl), ?_⟩
      simp only [Act.put, sA, sB, sC]
      refine rg_take 20 rfl (by kernel_rfl) (by kernel_rfl) (by kernel_rfl) (fun _ _ _ _ h => h) (by rfl) ⟨_, fun w' hx => by (go_simp <;> with_reducible rfl), ?_⟩
      simp only [Act.put, sA, sB, sC]
      refine rg_take 21 rfl (by kernel_rfl) (by kernel_rfl) (by kernel_rfl) (fun _ _ _ _ h => h) (by rfl) ⟨_, fun w' hx => by have hcx := hx.load v1; (go_simp <;> with_reducible rfl), ?_⟩
      simp only [Act.put, sA, sB, sC]
      refine rg_take 22 rfl (by kernel_rfl) (by kernel_rfl) (by kernel_rfl) (fun _ _ _ _ h => h) (by rfl) ⟨_, fun w' hx => by (go_simp <;> with_reducible rfl), ?_⟩
      simp only [Act.put, sA, sB, sC]
      refine rg_take 23 rfl (by kernel_rfl) (by kernel_rfl) (by kernel_rfl) (fun _ _ _ _ h => h) (by rfl) ⟨.bool true, fun w' hx => by (go_simp <;> with_reducible rfl), ?_⟩
      simp only [Act.put, sA, sB, sC]
      refine rg_take 24 rfl (by kernel_rfl) (by kernel_rfl) (by kernel_rfl) (fun _ _ _ _ h => h) (by rfl) ⟨_, fun w' hx => by (go_simp <;> with_reducible rfl), ?_⟩
      simp only [Act.put, sA, sB, sC]
      refine rg_take 25 rfl (by kernel_rfl) (by kernel_rfl) (by kernel_rfl) (fun _ _ _ _ h => h) (by rfl) ⟨_, fun w' hx => by (go_simp <;> with_reducible rfl), ?_⟩
      simp only [Act.put, sA, sB, sC]
      refine rg_skip 26 rfl (by kernel_rfl) (by kernel_rfl) (by kernel_rfl) (fun _ _ _ _ h => h) (by rfl) ?_
      simp only [Act.put, sA, sB, sC]
      refine rg_skip 27 rfl (by kernel_rfl) (by kernel_rfl) (by kernel_rfl) (fun _ _ _ _ h => h) (by rfl) ?_
      simp only [Act.put, sA, sB, sC]
      refine rg_skip 28 rfl (by kernel_rfl) (by kernel_rfl) (by kernel_rfl) (fun _ _ _ _ h => h) (by rfl) ?_
      simp only [Act.put, sA, sB, sC]
      refine rg_skip 29 rfl (by kernel_rfl) (by kernel_rfl) (by kernel_rfl) (fun _ _ _ _ h => h) (by rfl) ?_
      simp only [Act.put, sA, sB, sC]
      refine rg_skip 30 rfl (by kernel_rfl) (by kernel_rfl) (by kernel_rfl) (fun _ _ _ _ h => h) (by rfl) ?_
      simp only [Act.put, sA, sB, sC]
      refine rg_skip 31 rfl (by kernel_rfl) (by kernel_rfl) (by kernel_rfl) (fun _ _ _ _ h => h) (by rfl) ?_
      simp only [Act.put, sA, sB, sC]
      refine rg_skip 32 rfl (by kernel_rfl) (by kernel_rfl) (by kernel_rfl) (fun _ _ _ _ h => h) (by rfl) ?_
      simp only [Act.put, sA, sB, sC]
      refine rg_skip 33 rfl (by kernel_rfl) (by kernel_rfl) (by kernel_rfl) (fun _ _ _ _ h => h) (by rfl) ?_
      simp only [Act.put, sA, sB, sC]
      refine rg_skip 34 rfl (by kernel_rfl) (by kernel_rfl) (by kernel_rfl) (fun _ _ _ _ h => h) (by rfl) ?_
      simp only [Act.put, sA, sB, sC]
      refine rg_skip 35 rfl (by kernel_rfl) (by kernel_rfl) (by kernel_rfl) (fun _ _ _ _ h => h) (by rfl) ?_
      simp only [Act.put, sA, sB, sC]
      refine rg_skip 36 rfl (by kernel_rfl) (by kernel_rfl) (by kernel_rfl) (fun _ _ _ _ h => h) (by rfl) ?_
      simp only [Act.put, sA, sB, sC]
      refine rg_skip 37 rfl (by kernel_rfl) (by kernel_rfl) (by kernel_rfl) (fun _ _ _ _ h => h) (by rfl) ?_
      simp only [Act.put, sA, sB, sC]
      refine rg_skip 38 rfl (by kernel_rfl) (by kernel_rfl) (by kernel_rfl) (fun _ _ _ _ h => h) (by rfl) ?_
      simp only [Act.put, sA, sB, sC]
      refine rg_skip 39 rfl (by kernel_rfl) (by kernel_rfl) (by kernel_rfl) (fun _ _ _ _ h => h) (by rfl) ?_
      simp only [Act.put, sA, sB, sC]
      refine rg_skip 40 rfl (by kernel_rfl) (by kernel_rfl) (by kernel_rfl) (fun _ _ _ _ h => h) (by rfl) ?_
      simp only [Act.put, sA, sB, sC]
      refine rg_skip 41 rfl (by kernel_rfl) (by kernel_rfl) (by kernel_rfl) (fun _ _ _ _ h => h) (by rfl) ?_
      simp only [Act.put, sA, sB, sC]
      refine rg_skip 42 rfl (by kernel_rfl) (by kernel_rfl) (by kernel_rfl) (fun _ _ _ _ h => h) (by rfl) ?_
      simp only [Act.put, sA, sB, sC]
      refine rg_skip 43 rfl (by kernel_rfl) (by kernel_rfl) (by kernel_rfl) (fun _ _ _ _ h => h) (by rfl) ?_
      simp only [Act.put, sA, sB, sC]
      refine rg_take 44 rfl (by kernel_rfl) (by kernel_rfl) (by kernel_rfl) (fun _ _ _ _ h => h) (by rfl) ⟨_, fun w' hx => by (go_simp <;> with_reducible rfl), ?_⟩
      simp only [Act.put, sA, sB, sC]
      refine rg_done (by kernel_rfl) ?_
      go_wp2
      go_ret
      exact ⟨false, rfl, ⟨(fun h => by cases h), fun hr => by have h1 := hr.ok k (by simpa using h); simp only [List.getElem_map] at h1; omega⟩, hbd⟩
     ·
      have b3 : decide (1000 < (l[k].x.val.length : Int)) = false := by simp; omega
      have HOk : Hid (∀ j (h : j < l.length), j < k + 1 → 1 ≤ l[j].x.key.length ∧ l[j].x.key.length ≤ 24 ∧ l[j].x.val.length ≤ 1000) := by
       show ∀ j (h : j < l.length), j < k + 1 → _
       intro j hj hjk
       by_cases e : j = k
       ·
        subst e; omega
       ·
        exact Hok.out j hj (by omega)
      by_cases hk0 : k = 0
      ·
       subst hk0
       have HUp : Hid (∀ j (h : j + 1 < l.length) (h2 : j < l.length), j + 1 < 0 + 1 → ltB l[j].x.key l[j + 1].x.key = true) := by
        show ∀ j (h : j + 1 < l.length) (h2 : j < l.length), j + 1 < 0 + 1 → _
        intro j _ _ hj; omega
       simp only [Nat.zero_mul] at k1 v1
       rw [show ad.add 0 = ad from rfl] at k1 v1
       go_wp2_with fail
       refine rg_start (by kernel_rfl) ?_
       refine rg_take 0 rfl (by kernel_rfl) (by kernel_rfl) (by kernel_rfl) (fun _ _ _ _ h => h) (by rfl) ⟨_, fun w' hx => by (go_simp <;> with_reducible rfl), ?_⟩
       simp only [Act.put, sA, sB, sC]
       refine rg_take 1 rfl (by kernel_rfl) (by kernel_rfl) (by kernel_rfl) (fun _ _ _ _ h => h) (by rfl) ⟨_, fun w' hx => by (go_simp <;> with_reducible rfl), ?_⟩
       simp only [Act.put, sA, sB, sC]
       refine rg_take 2 rfl (by kernel_rfl) (by kernel_rfl) (by kernel_rfl) (fun _ _ _ _ h => h) (by rfl) ⟨_, fun w' hx => by (go_simp <;> with_reducible rfl), ?_⟩
       simp only [Act.put, sA, sB, sC]
       refine rg_take 3 rfl (by kernel_rfl) (by kernel_rfl) (by kernel_rfl) (fun _ _ _ _ h => h) (by rfl) ⟨_, fun w' hx => by (go_simp <;> with_reducible rfl), ?_⟩
       simp only [Act.put, sA, sB, sC]
       refine rg_take 4 rfl (by kernel_rfl) (by kernel_rfl) (by kernel_rfl) (fun _ _ _ _ h => h) (by rfl) ⟨_, fun w' hx => by have hcx := hx.load k1; (go_simp <;> with_reducible rfl), ?_⟩
       simp only [Act.put, sA, sB, sC]
       refine rg_take 5 rfl (by kernel_rfl) (by kernel_rfl) (by kernel_rfl) (fun _ _ _ _ h => h) (by rfl) ⟨_, fun w' hx => by (go_simp <;> with_reducible rfl), ?_⟩
       simp only [Act.put, sA, sB, sC]
       refine rg_take 6 rfl (by kernel_rfl) (by kernel_rfl) (by kernel_rfl) (fun _ _ _ _ h => h) (by rfl) ⟨.bool false, fun w' hx => by (go_simp <;> with_reducible rfl), ?_⟩
       simp only [Act.put, sA, sB, sC]
       refine rg_take 7 rfl (by kernel_rfl) (by kernel_rfl) (by kernel_rfl) (fun _ _ _ _ h => h) (by rfl) ⟨_, fun w' hx => by (go_simp <;> with_reducible rfl), ?_⟩
       simp only [Act.put, sA, sB, sC]
       refine rg_take 8 rfl (by kernel_rfl) (by kernel_rfl) (by kernel_rfl) (fun _ _ _ _ h => h) (by rfl) ⟨_, fun w' hx => by (go_simp <;> with_reducible rfl), ?_⟩
       simp only [Act.put, sA, sB, sC]
       refine rg_take 9 rfl (by kernel_rfl) (by kernel_rfl) (by kernel_rfl) (fun _ _ _ _ h => h) (by rfl) ⟨_, fun w' hx => by (go_simp <;> with_reducible rfl), ?_⟩
       simp only [Act.put, sA, sB, sC]
       refine rg_take 10 rfl (by kernel_rfl) (by kernel_rfl) (by kernel_rfl) (fun _ _ _ _ h => h) (by rfl) ⟨_, fun w' hx => by (go_simp <;> with_reducible rfl), ?_⟩
       simp only [Act.put, sA, sB, sC]
       refine rg_take 11 rfl (by kernel_rfl) (by kernel_rfl) (by kernel_rfl) (fun _ _ _ _ h => h) (by rfl) ⟨_, fun w' hx => by (go_simp <;> with_reducible rfl), ?_⟩
       simp only [Act.put, sA, sB, sC]
       refine rg_take 12 rfl (by kernel_rfl) (by kernel_rfl) (by kernel_rfl) (fun _ _ _ _ h => h) (by rfl) ⟨_, fun w' hx => by have hcx := hx.load k1; (go_simp <;> with_reducible rfl), ?_⟩
       simp only [Act.put, sA, sB, sC]
       refine rg_take 13 rfl (by kernel_rfl) (by kernel_rfl) (by kernel_rfl) (fun _ _ _ _ h => h) (by rfl) ⟨_, fun w' hx => by (go_simp <;> with_reducible rfl), ?_⟩
       simp only [Act.put, sA, sB, sC]
       refine rg_take 14 rfl (by kernel_rfl) (by kernel_rfl) (by kernel_rfl) (fun _ _ _ _ h => h) (by rfl) ⟨.bool false, fun w' hx => by (go_simp <;> with_reducible rfl), ?_⟩
       simp only [Act.put, sA, sB, sC]
       refine rg_take 15 rfl (by kernel_rfl) (by kernel_rfl) (by kernel_rfl) (fun _ _ _ _ h => h) (by rfl) ⟨_, fun w' hx => by (go_simp <;> with_reducible rfl), ?_⟩
       simp only [Act.put, sA, sB, sC]
       refine rg_take 16 rfl (by kernel_rfl) (by kernel_rfl) (by kernel_rfl) (fun _ _ _ _ h => h) (by rfl) ⟨_, fun w' hx => by (go_simp <;> with_reducible rfl), ?_⟩
       simp only [Act.put, sA, sB, sC]
       refine rg_take 17 rfl (by kernel_rfl) (by kernel_rfl) (by kernel_rfl) (fun _ _ _ _ h => h) (by rfl) ⟨_, fun w' hx => by (go_simp <;> with_reducible rfl), ?_⟩
       simp only [Act.put, sA, sB, sC]
       refine rg_take 18 rfl (by kernel_rfl) (by kernel_rfl) (by kernel_rfl) (fun _ _ _ _ h => h) (by rfl) ⟨_, fun w' hx => by (go_simp <;> with_reducible rfl), ?_⟩
       simp only [Act.put, sA, sB, sC]
       refine rg_take 19 rfl (by kernel_rfl) (by kernel_rfl) (by kernel_rfl) (fun _ _ _ _ h => h) (by rfl) ⟨_, fun w' hx => by (go_simp <;> with_reducible rfl), ?_⟩
       simp only [Act.put, sA, sB, sC]
       refine rg_take 20 rfl (by kernel_rfl) (by kernel_rfl) (by kernel_rfl) (fun _ _ _ _ h => h) (by rfl) ⟨_, fun w' hx => by (go_simp <;> with_reducible rfl), ?_⟩
       simp only [Act.put, sA, sB, sC]
       refine rg_take 21 rfl (by kernel_rfl) (by kernel_rfl) (by kernel_rfl) (fun _ _ _ _ h => h) (by rfl) ⟨_, fun w' hx => by have hcx := hx.load v1; (go_simp <;> with_reducible rfl), ?_⟩
       simp only [Act.put, sA, sB, sC]
       refine rg_take 22 rfl (by kernel_rfl) (by kernel_rfl) (by kernel_rfl) (fun _ _ _ _ h => h) (by rfl) ⟨_, fun w' hx => by (go_simp <;> with_reducible rfl), ?_⟩
       simp only [Act.put, sA, sB, sC]
       refine rg_take 23 rfl (by kernel_rfl) (by kernel_rfl) (by kernel_rfl) (fun _ _ _ _ h => h) (by rfl) ⟨.bool false, fun w' hx => by (go_simp <;> with_reducible rfl), ?_⟩
       simp only [Act.put, sA, sB, sC]
       refine rg_take 24 rfl (by kernel_rfl) (by kernel_rfl) (by kernel_rfl) (fun _ _ _ _ h => h) (by rfl) ⟨_, fun w' hx => by (go_simp <;> with_reducible rfl), ?_⟩
       simp only [Act.put, sA, sB, sC]
       refine rg_take 25 rfl (by kernel_rfl) (by kernel_rfl) (by kernel_rfl) (fun _ _ _ _ h => h) (by rfl) ⟨_, fun w' hx => by (go_simp <;> with_reducible rfl), ?_⟩
       simp only [Act.put, sA, sB, sC]
       refine rg_take 26 rfl (by kernel_rfl) (by kernel_rfl) (by kernel_rfl) (fun _ _ _ _ h => h) (by rfl) ⟨_, fun w' hx => by (go_simp <;> with_reducible rfl), ?_⟩
       simp only [Act.put, sA, sB, sC]
       refine rg_take 27 rfl (by kernel_rfl) (by kernel_rfl) (by kernel_rfl) (fun _ _ _ _ h => h) (by rfl) ⟨.bool false, fun w' hx => by (go_simp <;> with_reducible rfl), ?_⟩
       simp only [Act.put, sA, sB, sC]
       refine rg_take 28 rfl (by kernel_rfl) (by kernel_rfl) (by kernel_rfl) (fun _ _ _ _ h => h) (by rfl) ⟨_, fun w' hx => by (go_simp <;> with_reducible rfl), ?_⟩
       simp only [Act.put, sA, sB, sC]
       refine rg_skip 29 rfl (by kernel_rfl) (by kernel_rfl) (by kernel_rfl) (fun _ _ _ _ h => h) (by rfl) ?_
       simp only [Act.put, sA, sB, sC]
       refine rg_skip 30 rfl (by kernel_rfl) (by kernel_rfl) (by kernel_rfl) (fun _ _ _ _ h => h) (by rfl) ?_
       simp only [Act.put, sA, sB, sC]
       refine rg_skip 31 rfl (by kernel_rfl) (by kernel_rfl) (by kernel_rfl) (fun _ _ _ _ h => h) (by rfl) ?_
       simp only [Act.put, sA, sB, sC]
       refine rg_skip 32 rfl (by kernel_rfl) (by kernel_rfl) (by kernel_rfl) (fun _ _ _ _ h => h) (by rfl) ?_
       simp only [Act.put, sA, sB, sC]
       refine rg_skip 33 rfl (by kernel_rfl) (by kernel_rfl) (by kernel_rfl) (fun _ _ _ _ h => h) (by rfl) ?_
       simp only [Act.put, sA, sB, sC]
       refine rg_skip 34 rfl (by kernel_rfl) (by kernel_rfl) (by kernel_rfl) (fun _ _ _ _ h => h) (by rfl) ?_
       simp only [Act.put, sA, sB, sC]
       refine rg_skip 35 rfl (by kernel_rfl) (by kernel_rfl) (by kernel_rfl) (fun _ _ _ _ h => h) (by rfl) ?_
       simp only [Act.put, sA, sB, sC]
       refine rg_skip 36 rfl (by kernel_rfl) (by kernel_rfl) (by kernel_rfl) (fun _ _ _ _ h => h) (by rfl) ?_
       simp only [Act.put, sA, sB, sC]
       refine rg_skip 37 rfl (by kernel_rfl) (by kernel_rfl) (by kernel_rfl) (fun _ _ _ _ h => h) (by rfl) ?_
       simp only [Act.put, sA, sB, sC]
       refine rg_skip 38 rfl (by kernel_rfl) (by kernel_rfl) (by kernel_rfl) (fun _ _ _ _ h => h) (by rfl) ?_
       simp only [Act.put, sA, sB, sC]
       refine rg_skip 39 rfl (by kernel_rfl) (by kernel_rfl) (by kernel_rfl) (fun _ _ _ _ h => h) (by rfl) ?_
       simp only [Act.put, sA, sB, sC]
       refine rg_skip 40 rfl (by kernel_rfl) (by kernel_rfl) (by kernel_rfl) (fun _ _ _ _ h => h) (by rfl) ?_
       simp only [Act.put, sA, sB, sC]
       refine rg_skip 41 rfl (by kernel_rfl) (by kernel_rfl) (by kernel_rfl) (fun _ _ _ _ h => h) (by rfl) ?_
       simp only [Act.put, sA, sB, sC]
       refine rg_skip 42 rfl (by kernel_rfl) (by kernel_rfl) (by kernel_rfl) (fun _ _ _ _ h => h) (by rfl) ?_
       simp only [Act.put, sA, sB, sC]
       refine rg_take 43 rfl (by kernel_rfl) (by kernel_rfl) (by kernel_rfl) (fun _ _ _ _ h => h) (by rfl) ⟨_, fun w' hx => by (go_simp <;> with_reducible rfl), ?_⟩
       simp only [Act.put, sA, sB, sC]
       refine rg_take 44 rfl (by kernel_rfl) (by kernel_rfl) (by kernel_rfl) (fun _ _ _ _ h => h) (by rfl) ⟨_, fun w' hx => by (go_simp <;> with_reducible rfl), ?_⟩
       simp only [Act.put, sA, sB, sC]
       refine rg_done (by kernel_rfl) ?_
       go_wp2
       go_roundw
       case rel => exact ⟨0 + 1, by omega, by go_num, HOk.out, HUp.out, hbd⟩
       case measure => simp [intOf]; omega
      ·
       obtain ⟨j, rfl⟩ : ∃ j, k = j + 1 := ⟨k - 1, by omega⟩
       have hj : j < l.length := by omega
       obtain ⟨ad2, he, hcell0, hin0⟩ := (hl.below hbw).at_ hj
       injection he with he
       subst he
       have k0 : wr.drew.cell? _ = _ := key_at hcell0
       clear hcell0
       have jw : IntKind.i64.wrap (j : Int) = (j : Int) := by rw [IntKind.wrap_i64]; omega
       have b4 : decide ((0 : Int) < (j : Int) + 1) = true := decide_eq_true (by omega)
       have ij : (0 : Int) ≤ (j : Int) + 1 := by omega
       have ij2 : (j : Int) + 1 < (l.length : Int) := by omega
       have jk : (0 : Int) ≤ (j : Int) := by omega
       have jk2 : (j : Int) < (l.length : Int) := by omega
       cases hlt : ltB l[j].x.key l[j + 1].x.key with
       | false =>
        have HLT := Lib.hid hlt
        rw [← less_ltB] at hlt
        go_wp2_with fail
        refine rg_start (by kernel_rfl) ?_
        refine rg_take 0 rfl (by kernel_rfl) (by kernel_rfl) (by kernel_rfl) (fun _ _ _ _ h => h) (by rfl) ⟨_, fun w' hx => by (go_simp <;> with_reducible rfl), ?_⟩
        simp only [Act.put, sA, sB, sC]
        refine rg_take 1 rfl (by kernel_rfl) (by kernel_rfl) (by kernel_rfl) (fun _ _ _ _ h => h) (by rfl) ⟨_, fun w' hx => by (go_simp <;> with_reducible rfl), ?_⟩
        simp only [Act.put, sA, sB, sC]
        refine rg_take 2 rfl (by kernel_rfl) (by kernel_rfl) (by kernel_rfl) (fun _ _ _ _ h => h) (by rfl) ⟨_, fun w' hx => by (go_simp <;> with_reducible rfl), ?_⟩
        simp only [Act.put, sA, sB, sC]
        refine rg_take 3 rfl (by kernel_rfl) (by kernel_rfl) (by kernel_rfl) (fun _ _ _ _ h => h) (by rfl) ⟨_, fun w' hx => by (go_simp <;> with_reducible rfl), ?_⟩
        simp only [Act.put, sA, sB, sC]
        refine rg_take 4 rfl (by kernel_rfl) (by kernel_rfl) (by kernel_rfl) (fun _ _ _ _ h => h) (by rfl) ⟨_, fun w' hx => by have hcx := hx.load k1; (go_simp <;> with_reducible rfl), ?_⟩
        simp only [Act.put, sA, sB, sC]
        refine rg_take 5 rfl (by kernel_rfl) (by kernel_rfl) (by kernel_rfl) (fun _ _ _ _ h => h) (by rfl) ⟨_, fun w' hx => by (go_simp <;> with_reducible rfl), ?_⟩
        simp only [Act.put, sA, sB, sC]
        refine rg_take 6 rfl (by kernel_rfl) (by kernel_rfl) (by kernel_rfl) (fun _ _ _ _ h => h) (by rfl) ⟨.bool false, fun w' hx => by (go_simp <;> with_reducible rfl), ?_⟩
        simp only [Act.put, sA, sB, sC]
        refine rg_take 7 rfl (by kernel_rfl) (by kernel_rfl) (by kernel_rfl) (fun _ _ _ _ h => h) (by rfl) ⟨_, fun w' hx => by (go_simp <;> with_reducible rfl), ?_⟩
        simp only [Act.put, sA, sB, sC]
        refine rg_take 8 rfl (by kernel_rfl) (by kernel_rfl) (by kernel_rfl) (fun _ _ _ _ h => h) (by rfl) ⟨_, fun w' hx => by (go_simp <;> with_reducible rfl), ?_⟩
        simp only [Act.put, sA, sB, sC]
        refine rg_take 9 rfl (by kernel_rfl) (by kernel_rfl) (by kernel_rfl) (fun _ _ _ _ h => h) (by rfl) ⟨_, fun w' hx => by (go_simp <;> with_reducible rfl), ?_⟩
        simp only [Act.put, sA, sB, sC]
        refine rg_take 10 rfl (by kernel_rfl) (by kernel_rfl) (by kernel_rfl) (fun _ _ _ _ h => h) (by rfl) ⟨_, fun w' hx => by (go_simp <;> with_reducible rfl), ?_⟩
        simp only [Act.put, sA, sB, sC]
        refine rg_take 11 rfl (by kernel_rfl) (by kernel_rfl) (by kernel_rfl) (fun _ _ _ _ h => h) (by rfl) ⟨_, fun w' hx => by (go_simp <;> with_reducible rfl), ?_⟩
        simp only [Act.put, sA, sB, sC]
        refine rg_take 12 rfl (by kernel_rfl) (by kernel_rfl) (by kernel_rfl) (fun _ _ _ _ h => h) (by rfl) ⟨_, fun w' hx => by have hcx := hx.load k1; (go_simp <;> with_reducible rfl), ?_⟩
        simp only [Act.put, sA, sB, sC]
        refine rg_take 13 rfl (by kernel_rfl) (by kernel_rfl) (by kernel_rfl) (fun _ _ _ _ h => h) (by rfl) ⟨_, fun w' hx => by (go_simp <;> with_reducible rfl), ?_⟩
        simp only [Act.put, sA, sB, sC]
        refine rg_take 14 rfl (by kernel_rfl) (by kernel_rfl) (by kernel_rfl) (fun _ _ _ _ h => h) (by rfl) ⟨.bool false, fun w' hx => by (go_simp <;> with_reducible rfl), ?_⟩
        simp only [Act.put, sA, sB, sC]
        refine rg_take 15 rfl (by kernel_rfl) (by kernel_rfl) (by kernel_rfl) (fun _ _ _ _ h => h) (by rfl) ⟨_, fun w' hx => by (go_simp <;> with_reducible rfl), ?_⟩
        simp only [Act.put, sA, sB, sC]
        refine rg_take 16 rfl (by kernel_rfl) (by kernel_rfl) (by kernel_rfl) (fun _ _ _ _ h => h) (by rfl) ⟨_, fun w' hx => by (go_simp <;> with_reducible rfl), ?_⟩
        simp only [Act.put, sA, sB, sC]
        refine rg_take 17 rfl (by kernel_rfl) (by kernel_rfl) (by kernel_rfl) (fun _ _ _ _ h => h) (by rfl) ⟨_, fun w' hx => by (go_simp <;> with_reducible rfl), ?_⟩
        simp only [Act.put, sA, sB, sC]
        refine rg_take 18 rfl (by kernel_rfl) (by kernel_rfl) (by kernel_rfl) (fun _ _ _ _ h => h) (by rfl) ⟨_, fun w' hx => by (go_simp <;> with_reducible rfl), ?_⟩
        simp only [Act.put, sA, sB, sC]
        refine rg_take 19 rfl (by kernel_rfl) (by kernel_rfl) (by kernel_rfl) (fun _ _ _ _ h => h) (by rfl) ⟨_, fun w' hx => by (go_simp <;> with_reducible rfl), ?_⟩
        simp only [Act.put, sA, sB, sC]
        refine rg_take 20 rfl (by kernel_rfl) (by kernel_rfl) (by kernel_rfl) (fun _ _ _ _ h => h) (by rfl) ⟨_, fun w' hx => by (go_simp <;> with_reducible rfl), ?_⟩
        simp only [Act.put, sA, sB, sC]
        refine rg_take 21 rfl (by kernel_rfl) (by kernel_rfl) (by kernel_rfl) (fun _ _ _ _ h => h) (by rfl) ⟨_, fun w' hx => by have hcx := hx.load v1; (go_simp <;> with_reducible rfl), ?_⟩
        simp only [Act.put, sA, sB, sC]
        refine rg_take 22 rfl (by kernel_rfl) (by kernel_rfl) (by kernel_rfl) (fun _ _ _ _ h => h) (by rfl) ⟨_, fun w' hx => by (go_simp <;> with_reducible rfl), ?_⟩
        simp only [Act.put, sA, sB, sC]
        refine rg_take 23 rfl (by kernel_rfl) (by kernel_rfl) (by kernel_rfl) (fun _ _ _ _ h => h) (by rfl) ⟨.bool false, fun w' hx => by (go_simp <;> with_reducible rfl), ?_⟩
        simp only [Act.put, sA, sB, sC]
        refine rg_take 24 rfl (by kernel_rfl) (by kernel_rfl) (by kernel_rfl) (fun _ _ _ _ h => h) (by rfl) ⟨_, fun w' hx => by (go_simp <;> with_reducible rfl), ?_⟩
        simp only [Act.put, sA, sB, sC]
        refine rg_take 25 rfl (by kernel_rfl) (by kernel_rfl) (by kernel_rfl) (fun _ _ _ _ h => h) (by rfl) ⟨_, fun w' hx => by (go_simp <;> with_reducible rfl), ?_⟩
        simp only [Act.put, sA, sB, sC]
        refine rg_take 26 rfl (by kernel_rfl) (by kernel_rfl) (by kernel_rfl) (fun _ _ _ _ h => h) (by rfl) ⟨_, fun w' hx => by (go_simp <;> with_reducible rfl), ?_⟩
        simp only [Act.put, sA, sB, sC]
        refine rg_take 27 rfl (by kernel_rfl) (by kernel_rfl) (by kernel_rfl) (fun _ _ _ _ h => h) (by rfl) ⟨.bool true, fun w' hx => by (go_simp <;> with_reducible rfl), ?_⟩
        simp only [Act.put, sA, sB, sC]
        refine rg_take 28 rfl (by kernel_rfl) (by kernel_rfl) (by kernel_rfl) (fun _ _ _ _ h => h) (by rfl) ⟨_, fun w' hx => by (go_simp <;> with_reducible rfl), ?_⟩
        simp only [Act.put, sA, sB, sC]
        refine rg_take 29 rfl (by kernel_rfl) (by kernel_rfl) (by kernel_rfl) (fun _ _ _ _ h => h) (by rfl) ⟨_, fun w' hx => by (go_simp <;> with_reducible rfl), ?_⟩
        simp only [Act.put, sA, sB, sC]
        refine rg_take 30 rfl (by kernel_rfl) (by kernel_rfl) (by kernel_rfl) (fun _ _ _ _ h => h) (by rfl) ⟨_, fun w' hx => by (go_simp <;> with_reducible rfl), ?_⟩
        simp only [Act.put, sA, sB, sC]
        refine rg_take 31 rfl (by kernel_rfl) (by kernel_rfl) (by kernel_rfl) (fun _ _ _ _ h => h) (by rfl) ⟨_, fun w' hx => by (go_simp <;> with_reducible rfl), ?_⟩
        simp only [Act.put, sA, sB, sC]
        refine rg_take 32 rfl (by kernel_rfl) (by kernel_rfl) (by kernel_rfl) (fun _ _ _ _ h => h) (by rfl) ⟨_, fun w' hx => by (go_simp <;> with_reducible rfl), ?_⟩
        simp only [Act.put, sA, sB, sC]
        refine rg_take 33 rfl (by kernel_rfl) (by kernel_rfl) (by kernel_rfl) (fun _ _ _ _ h => h) (by rfl) ⟨_, fun w' hx => by (go_simp <;> with_reducible rfl), ?_⟩
        simp only [Act.put, sA, sB, sC]
        refine rg_take 34 rfl (by kernel_rfl) (by kernel_rfl) (by kernel_rfl) (fun _ _ _ _ h => h) (by rfl) ⟨_, fun w' hx => by have hcx := hx.load k0; (go_simp <;> with_reducible rfl), ?_⟩
        simp only [Act.put, sA, sB, sC]
        refine rg_take 35 rfl (by kernel_rfl) (by kernel_rfl) (by kernel_rfl) (fun _ _ _ _ h => h) (by rfl) ⟨.string ⟨(l[j].x.key).toArray⟩, fun w' hx => ex_convert rfl rfl (run_str w' 23 9 5 l[j].ka l[j].x.key l[j].kc Try.underlying23 Try.underlying5 Try.underlying9 (hin0.kr.below (Ext.tr (Ext.drew wr) hx)) (l[j].x.key).length rfl), ?_⟩
        simp only [Act.put, sA, sB, sC]
        refine rg_take 36 rfl (by kernel_rfl) (by kernel_rfl) (by kernel_rfl) (fun _ _ _ _ h => h) (by rfl) ⟨_, fun w' hx => by (go_simp <;> with_reducible rfl), ?_⟩
        simp only [Act.put, sA, sB, sC]
        refine rg_take 37 rfl (by kernel_rfl) (by kernel_rfl) (by kernel_rfl) (fun _ _ _ _ h => h) (by rfl) ⟨_, fun w' hx => by (go_simp <;> with_reducible rfl), ?_⟩
        simp only [Act.put, sA, sB, sC]
        refine rg_take 38 rfl (by kernel_rfl) (by kernel_rfl) (by kernel_rfl) (fun _ _ _ _ h => h) (by rfl) ⟨_, fun w' hx => by (go_simp <;> with_reducible rfl), ?_⟩
        simp only [Act.put, sA, sB, sC]
        refine rg_take 39 rfl (by kernel_rfl) (by kernel_rfl) (by kernel_rfl) (fun _ _ _ _ h => h) (by rfl) ⟨_, fun w' hx => by (go_simp <;> with_reducible rfl), ?_⟩
        simp only [Act.put, sA, sB, sC]
        refine rg_take 40 rfl (by kernel_rfl) (by kernel_rfl) (by kernel_rfl) (fun _ _ _ _ h => h) (by rfl) ⟨_, fun w' hx => by have hcx := hx.load k1; (go_simp <;> with_reducible rfl), ?_⟩
        simp only [Act.put, sA, sB, sC]
        refine rg_take 41 rfl (by kernel_rfl) (by kernel_rfl) (by kernel_rfl) (fun _ _ _ _ h => h) (by rfl) ⟨.string ⟨(l[j + 1].x.key).toArray⟩, fun w' hx => ex_convert rfl rfl (run_str w' 23 9 5 l[j + 1].ka l[j + 1].x.key l[j + 1].kc Try.underlying23 Try.underlying5 Try.underlying9 (hin.kr.below (Ext.tr (Ext.drew wr) hx)) (l[j + 1].x.key).length rfl), ?_⟩
        simp only [Act.put, sA, sB, sC]
        refine rg_take 42 rfl (by kernel_rfl) (by kernel_rfl) (by kernel_rfl) (fun _ _ _ _ h => h) (by rfl) ⟨.bool true, fun w' hx => by (go_simp <;> with_reducible rfl), ?_⟩
        simp only [Act.put, sA, sB, sC]
        refine rg_take 43 rfl (by kernel_rfl) (by kernel_rfl) (by kernel_rfl) (fun _ _ _ _ h => h) (by rfl) ⟨_, fun w' hx => by (go_simp <;> with_reducible rfl), ?_⟩
        simp only [Act.put, sA, sB, sC]
        refine rg_take 44 rfl (by kernel_rfl) (by kernel_rfl) (by kernel_rfl) (fun _ _ _ _ h => h) (by rfl) ⟨_, fun w' hx => by (go_simp <;> with_reducible rfl), ?_⟩
        simp only [Act.put, sA, sB, sC]
        refine rg_done (by kernel_rfl) ?_
        go_wp2
        go_ret
        exact ⟨false, rfl, ⟨(fun h => by cases h), fun hr => by have h1 := hr.up j (by simpa using h); simp only [List.getElem_map] at h1; rw [HLT.out] at h1; cases h1⟩, hbd⟩
       | true =>
        have HUp : Hid (∀ i (h : i + 1 < l.length) (h2 : i < l.length), i + 1 < j + 1 + 1 → ltB l[i].x.key l[i + 1].x.key = true) := by
         show ∀ i (h : i + 1 < l.length) (h2 : i < l.length), i + 1 < j + 1 + 1 → _
         intro i h1 h2 hi
         by_cases e : i = j
         ·
          subst e; exact hlt
         ·
          exact Hup.out i h1 h2 (by omega)
        rw [← less_ltB] at hlt
        go_wp2_with fail
        refine rg_start (by kernel_rfl) ?_
        refine rg_take 0 rfl (by kernel_rfl) (by kernel_rfl) (by kernel_rfl) (fun _ _ _ _ h => h) (by rfl) ⟨_, fun w' hx => by (go_simp <;> with_reducible rfl), ?_⟩
        simp only [Act.put, sA, sB, sC]
        refine rg_take 1 rfl (by kernel_rfl) (by kernel_rfl) (by kernel_rfl) (fun _ _ _ _ h => h) (by rfl) ⟨_, fun w' hx => by (go_simp <;> with_reducible rfl), ?_⟩
        simp only [Act.put, sA, sB, sC]
        refine rg_take 2 rfl (by kernel_rfl) (by kernel_rfl) (by kernel_rfl) (fun _ _ _ _ h => h) (by rfl) ⟨_, fun w' hx => by (go_simp <;> with_reducible rfl), ?_⟩
        simp only [Act.put, sA, sB, sC]
        refine rg_take 3 rfl (by kernel_rfl) (by kernel_rfl) (by kernel_rfl) (fun _ _ _ _ h => h) (by rfl) ⟨_, fun w' hx => by (go_simp <;> with_reducible rfl), ?_⟩
        simp only [Act.put, sA, sB, sC]
        refine rg_take 4 rfl (by kernel_rfl) (by kernel_rfl) (by kernel_rfl) (fun _ _ _ _ h => h) (by rfl) ⟨_, fun w' hx => by have hcx := hx.load k1; (go_simp <;> with_reducible rfl), ?_⟩
        simp only [Act.put, sA, sB, sC]
        refine rg_take 5 rfl (by kernel_rfl) (by kernel_rfl) (by kernel_rfl) (fun _ _ _ _ h => h) (by rfl) ⟨_, fun w' hx => by (go_simp <;> with_reducible rfl), ?_⟩
        simp only [Act.put, sA, sB, sC]
        refine rg_take 6 rfl (by kernel_rfl) (by kernel_rfl) (by kernel_rfl) (fun _ _ _ _ h => h) (by rfl) ⟨.bool false, fun w' hx => by (go_simp <;> with_reducible rfl), ?_⟩
        simp only [Act.put, sA, sB, sC]
        refine rg_take 7 rfl (by kernel_rfl) (by kernel_rfl) (by kernel_rfl) (fun _ _ _ _ h => h) (by rfl) ⟨_, fun w' hx => by (go_simp <;> with_reducible rfl), ?_⟩
        simp only [Act.put, sA, sB, sC]
        refine rg_take 8 rfl (by kernel_rfl) (by kernel_rfl) (by kernel_rfl) (fun _ _ _ _ h => h) (by rfl) ⟨_, fun w' hx => by (go_simp <;> with_reducible rfl), ?_⟩
        simp only [Act.put, sA, sB, sC]
        refine rg_take 9 rfl (by kernel_rfl) (by kernel_rfl) (by kernel_rfl) (fun _ _ _ _ h => h) (by rfl) ⟨_, fun w' hx => by (go_simp <;> with_reducible rfl), ?_⟩
        simp only [Act.put, sA, sB, sC]
        refine rg_take 10 rfl (by kernel_rfl) (by kernel_rfl) (by kernel_rfl) (fun _ _ _ _ h => h) (by rfl) ⟨_, fun w' hx => by (go_simp <;> with_reducible rfl), ?_⟩
        simp only [Act.put, sA, sB, sC]
        refine rg_take 11 rfl (by kernel_rfl) (by kernel_rfl) (by kernel_rfl) (fun _ _ _ _ h => h) (by rfl) ⟨_, fun w' hx => by (go_simp <;> with_reducible rfl), ?_⟩
        simp only [Act.put, sA, sB, sC]
        refine rg_take 12 rfl (by kernel_rfl) (by kernel_rfl) (by kernel_rfl) (fun _ _ _ _ h => h) (by rfl) ⟨_, fun w' hx => by have hcx := hx.load k1; (go_simp <;> with_reducible rfl), ?_⟩
        simp only [Act.put, sA, sB, sC]
        refine rg_take 13 rfl (by kernel_rfl) (by kernel_rfl) (by kernel_rfl) (fun _ _ _ _ h => h) (by rfl) ⟨_, fun w' hx => by (go_simp <;> with_reducible rfl), ?_⟩
        simp only [Act.put, sA, sB, sC]
        refine rg_take 14 rfl (by kernel_rfl) (by kernel_rfl) (by kernel_rfl) (fun _ _ _ _ h => h) (by rfl) ⟨.bool false, fun w' hx => by (go_simp <;> with_reducible rfl), ?_⟩
        simp only [Act.put, sA, sB, sC]
        refine rg_take 15 rfl (by kernel_rfl) (by kernel_rfl) (by kernel_rfl) (fun _ _ _ _ h => h) (by rfl) ⟨_, fun w' hx => by (go_simp <;> with_reducible rfl), ?_⟩
        simp only [Act.put, sA, sB, sC]
        refine rg_take 16 rfl (by kernel_rfl) (by kernel_rfl) (by kernel_rfl) (fun _ _ _ _ h => h) (by rfl) ⟨_, fun w' hx => by (go_simp <;> with_reducible rfl), ?_⟩
        simp only [Act.put, sA, sB, sC]
        refine rg_take 17 rfl (by kernel_rfl) (by kernel_rfl) (by kernel_rfl) (fun _ _ _ _ h => h) (by rfl) ⟨_, fun w' hx => by (go_simp <;> with_reducible rfl), ?_⟩
        simp only [Act.put, sA, sB, sC]
        refine rg_take 18 rfl (by kernel_rfl) (by kernel_rfl) (by kernel_rfl) (fun _ _ _ _ h => h) (by rfl) ⟨_, fun w' hx => by (go_simp <;> with_reducible rfl), ?_⟩
        simp only [Act.put, sA, sB, sC]
        refine rg_take 19 rfl (by kernel_rfl) (by kernel_rfl) (by kernel_rfl) (fun _ _ _ _ h => h) (by rfl) ⟨_, fun w' hx => by (go_simp <;> with_reducible rfl), ?_⟩
        simp only [Act.put, sA, sB, sC]
        refine rg_take 20 rfl (by kernel_rfl) (by kernel_rfl) (by kernel_rfl) (fun _ _ _ _ h => h) (by rfl) ⟨_, fun w' hx => by (go_simp <;> with_reducible rfl), ?_⟩
        simp only [Act.put, sA, sB, sC]
        refine rg_take 21 rfl (by kernel_rfl) (by kernel_rfl) (by kernel_rfl) (fun _ _ _ _ h => h) (by rfl) ⟨_, fun w' hx => by have hcx := hx.load v1; (go_simp <;> with_reducible rfl), ?_⟩
        simp only [Act.put, sA, sB, sC]
        refine rg_take 22 rfl (by kernel_rfl) (by kernel_rfl) (by kernel_rfl) (fun _ _ _ _ h => h) (by rfl) ⟨_, fun w' hx => by (go_simp <;> with_reducible rfl), ?_⟩
        simp only [Act.put, sA, sB, sC]
        refine rg_take 23 rfl (by kernel_rfl) (by kernel_rfl) (by kernel_rfl) (fun _ _ _ _ h => h) (by rfl) ⟨.bool false, fun w' hx => by (go_simp <;> with_reducible rfl), ?_⟩
        simp only [Act.put, sA, sB, sC]
        refine rg_take 24 rfl (by kernel_rfl) (by kernel_rfl) (by kernel_rfl) (fun _ _ _ _ h => h) (by rfl) ⟨_, fun w' hx => by (go_simp <;> with_reducible rfl), ?_⟩
        simp only [Act.put, sA, sB, sC]
        refine rg_take 25 rfl (by kernel_rfl) (by kernel_rfl) (by kernel_rfl) (fun _ _ _ _ h => h) (by rfl) ⟨_, fun w' hx => by (go_simp <;> with_reducible rfl), ?_⟩
        simp only [Act.put, sA, sB, sC]
        refine rg_take 26 rfl (by kernel_rfl) (by kernel_rfl) (by kernel_rfl) (fun _ _ _ _ h => h) (by rfl) ⟨_, fun w' hx => by (go_simp <;> with_reducible rfl), ?_⟩
        simp only [Act.put, sA, sB, sC]
        refine rg_take 27 rfl (by kernel_rfl) (by kernel_rfl) (by kernel_rfl) (fun _ _ _ _ h => h) (by rfl) ⟨.bool true, fun w' hx => by (go_simp <;> with_reducible rfl), ?_⟩
        simp only [Act.put, sA, sB, sC]
        refine rg_take 28 rfl (by kernel_rfl) (by kernel_rfl) (by kernel_rfl) (fun _ _ _ _ h => h) (by rfl) ⟨_, fun w' hx => by (go_simp <;> with_reducible rfl), ?_⟩
        simp only [Act.put, sA, sB, sC]
        refine rg_take 29 rfl (by kernel_rfl) (by kernel_rfl) (by kernel_rfl) (fun _ _ _ _ h => h) (by rfl) ⟨_, fun w' hx => by (go_simp <;> with_reducible rfl), ?_⟩
        simp only [Act.put, sA, sB, sC]
        refine rg_take 30 rfl (by kernel_rfl) (by kernel_rfl) (by kernel_rfl) (fun _ _ _ _ h => h) (by rfl) ⟨_, fun w' hx => by (go_simp <;> with_reducible rfl), ?_⟩
        simp only [Act.put, sA, sB, sC]
        refine rg_take 31 rfl (by kernel_rfl) (by kernel_rfl) (by kernel_rfl) (fun _ _ _ _ h => h) (by rfl) ⟨_, fun w' hx => by (go_simp <;> with_reducible rfl), ?_⟩
        simp only [Act.put, sA, sB, sC]
        refine rg_take 32 rfl (by kernel_rfl) (by kernel_rfl) (by kernel_rfl) (fun _ _ _ _ h => h) (by rfl) ⟨_, fun w' hx => by (go_simp <;> with_reducible rfl), ?_⟩
        simp only [Act.put, sA, sB, sC]
        refine rg_take 33 rfl (by kernel_rfl) (by kernel_rfl) (by kernel_rfl) (fun _ _ _ _ h => h) (by rfl) ⟨_, fun w' hx => by (go_simp <;> with_reducible rfl), ?_⟩
        simp only [Act.put, sA, sB, sC]
        refine rg_take 34 rfl (by kernel_rfl) (by kernel_rfl) (by kernel_rfl) (fun _ _ _ _ h => h) (by rfl) ⟨_, fun w' hx => by have hcx := hx.load k0; (go_simp <;> with_reducible rfl), ?_⟩
        simp only [Act.put, sA, sB, sC]
        refine rg_take 35 rfl (by kernel_rfl) (by kernel_rfl) (by kernel_rfl) (fun _ _ _ _ h => h) (by rfl) ⟨.string ⟨(l[j].x.key).toArray⟩, fun w' hx => ex_convert rfl rfl (run_str w' 23 9 5 l[j].ka l[j].x.key l[j].kc Try.underlying23 Try.underlying5 Try.underlying9 (hin0.kr.below (Ext.tr (Ext.drew wr) hx)) (l[j].x.key).length rfl), ?_⟩
        simp only [Act.put, sA, sB, sC]
        refine rg_take 36 rfl (by kernel_rfl) (by kernel_rfl) (by kernel_rfl) (fun _ _ _ _ h => h) (by rfl) ⟨_, fun w' hx => by (go_simp <;> with_reducible rfl), ?_⟩
        simp only [Act.put, sA, sB, sC]
        refine rg_take 37 rfl (by kernel_rfl) (by kernel_rfl) (by kernel_rfl) (fun _ _ _ _ h => h) (by rfl) ⟨_, fun w' hx => by (go_simp <;> with_reducible rfl), ?_⟩
        simp only [Act.put, sA, sB, sC]
        refine rg_take 38 rfl (by kernel_rfl) (by kernel_rfl) (by kernel_rfl) (fun _ _ _ _ h => h) (by rfl) ⟨_, fun w' hx => by (go_simp <;> with_reducible rfl), ?_⟩
        simp only [Act.put, sA, sB, sC]
        refine rg_take 39 rfl (by kernel_rfl) (by kernel_rfl) (by kernel_rfl) (fun _ _ _ _ h => h) (by rfl) ⟨_, fun w' hx => by (go_simp <;> with_reducible rfl), ?_⟩
        simp only [Act.put, sA, sB, sC]
        refine rg_take 40 rfl (by kernel_rfl) (by kernel_rfl) (by kernel_rfl) (fun _ _ _ _ h => h) (by rfl) ⟨_, fun w' hx => by have hcx := hx.load k1; (go_simp <;> with_reducible rfl), ?_⟩
        simp only [Act.put, sA, sB, sC]
        refine rg_take 41 rfl (by kernel_rfl) (by kernel_rfl) (by kernel_rfl) (fun _ _ _ _ h => h) (by rfl) ⟨.string ⟨(l[j + 1].x.key).toArray⟩, fun w' hx => ex_convert rfl rfl (run_str w' 23 9 5 l[j + 1].ka l[j + 1].x.key l[j + 1].kc Try.underlying23 Try.underlying5 Try.underlying9 (hin.kr.below (Ext.tr (Ext.drew wr) hx)) (l[j + 1].x.key).length rfl), ?_⟩
        simp only [Act.put, sA, sB, sC]
        refine rg_take 42 rfl (by kernel_rfl) (by kernel_rfl) (by kernel_rfl) (fun _ _ _ _ h => h) (by rfl) ⟨.bool false, fun w' hx => by (go_simp <;> with_reducible rfl), ?_⟩
        simp only [Act.put, sA, sB, sC]
        refine rg_take 43 rfl (by kernel_rfl) (by kernel_rfl) (by kernel_rfl) (fun _ _ _ _ h => h) (by rfl) ⟨_, fun w' hx => by (go_simp <;> with_reducible rfl), ?_⟩
        simp only [Act.put, sA, sB, sC]
        refine rg_take 44 rfl (by kernel_rfl) (by kernel_rfl) (by kernel_rfl) (fun _ _ _ _ h => h) (by rfl) ⟨_, fun w' hx => by (go_simp <;> with_reducible rfl), ?_⟩
        simp only [Act.put, sA, sB, sC]
        refine rg_done (by kernel_rfl) ?_
        go_wp2
        go_roundw
        case rel => exact ⟨(j + 1) + 1, by omega, by go_num, HOk.out, HUp.out, hbd⟩
        case measure => simp [intOf]; omega
  ·
   have ht := HRise.out (fun j h1 => Hok.out j h1 (by omega)) (fun j h1 h2 => Hup.out j h1 h2 (by omega))
   have HT := Lib.hid ht
   clear ht
   go_wp2
   go_ret
   exact ⟨true, rfl, ⟨fun _ => HT.out, fun _ => rfl⟩, hbw⟩
end Go.Proofs.Ytjholekgdnhpkaa

/- Entries' bytes, there and back: the plain law. -/

namespace Go.Proofs.Ytjholekgdnhpkaa

open Go.RowKit

theorem Ent.get_put (e : Ent) (r : List UInt8) (h : e.ok = true) : Ent.get (e.put ++ r) = (e, e.put.length, 0) := by
 have h' := h
 simp [Ent.ok] at h'
 have h1 := Vint.getBytes_putBytes e.key (Vint.putBytes e.val ++ r) (by omega)
 have h2 := Vint.getBytes_putBytes e.val r (by omega)
 unfold Ent.get Ent.put
 rw [List.append_assoc, h1]
 simp only [List.drop_left, h2]
 simp [h]
theorem Ent.put_pos (e : Ent) (h : e.ok = true) : 0 < e.put.length := by
 simp [Ent.ok] at h
 unfold Ent.put Vint.putBytes
 simp
 omega
theorem Ent.items_putAll : ∀ (l : List Ent) (f : Nat), (∀ e ∈ l, e.ok = true) → (Ent.putAll l).length ≤ f → Ent.items f (Ent.putAll l) = l.map fun e => (e, 0)
 | [], f, _, _ => by simp [Ent.putAll, Ent.items_nil]
 | e :: l, f, hok, hf => by
  have he := hok e (by simp)
  have hp := Ent.put_pos e he
  have hcons : Ent.putAll (e :: l) = e.put ++ Ent.putAll l := rfl
  rw [hcons] at hf ⊢
  rw [List.length_append] at hf
  obtain ⟨f, rfl⟩ : ∃ f', f = f' + 1 := ⟨f - 1, by omega⟩
  rw [Ent.items, if_neg (by intro h; rw [List.append_eq_nil_iff] at h; rw [h.1] at hp; simp at hp), Ent.get_put e _ he]
  simp only [if_true, List.drop_left, List.map_cons]
  rw [Ent.items_putAll l f (fun e' h => hok e' (by simp [h])) (by omega)]
theorem Ent.run_rise : ∀ (l acc : List Ent), (∀ k (h : k + 1 < (acc ++ l).length), ltB ((acc ++ l)[k]'(by omega)).key (acc ++ l)[k + 1].key = true) → Ent.run acc (l.map fun e => (e, 0)) = some (acc ++ l)
 | [], acc, _ => by simp [Ent.run]
 | e :: l, acc, h => by
  have hb : Ent.bars acc e = false := by
   unfold Ent.bars
   rw [List.getLast?_eq_getElem?]
   cases hacc : acc with
   | nil => rfl
   | cons a t =>
    have hk : acc.length - 1 + 1 < (acc ++ e :: l).length := by rw [List.length_append, List.length_cons, hacc, List.length_cons]; omega
    have h1 := h (acc.length - 1) hk
    have hlt : acc.length - 1 < acc.length := by rw [hacc]; simp
    rw [List.getElem_append_left hlt, List.getElem_append_right (by omega)] at h1
    rw [← hacc, List.getElem?_eq_getElem hlt]
    have h2 : acc.length - 1 + 1 - acc.length = 0 := by omega
    simp only [h2, List.getElem_cons_zero] at h1
    simp [h1]
  simp only [List.map_cons, Ent.run, hb]
  rw [if_neg (by simp), if_neg (by simp), Ent.run_rise l (acc ++ [e]) (by simpa using h)]
  simp
theorem Ent.getAll_putAll (l : List Ent) (h : Rise l) : Ent.getAll (Ent.putAll l) = some l := by
 have hok : ∀ e ∈ l, e.ok = true := by
  intro e he
  obtain ⟨k, hk, rfl⟩ := List.getElem_of_mem he
  have := h.ok k hk
  simp [Ent.ok]
  omega
 unfold Ent.getAll
 rw [Ent.items_putAll l _ hok (Nat.le_refl _)]
 exact Ent.run_rise l [] (by simpa using h.up)
theorem Vint.put_pos (n : Nat) : 0 < (Vint.put n).length := by
 have := Vint.grpF_len 9 n
 unfold Vint.put
 rw [List.length_map]
 omega
theorem Vint.putBytes_cancel {p q r s : List UInt8} (hp : p.length < 18446744073709551616) (hq : q.length < 18446744073709551616) (h : Vint.putBytes p ++ r = Vint.putBytes q ++ s) : p = q ∧ r = s := by
 have h1 := Vint.getBytes_putBytes p r hp
 have h2 := Vint.getBytes_putBytes q s hq
 rw [h, h2] at h1
 have h3 : q = p := congrArg Prod.fst h1
 subst h3
 exact ⟨rfl, List.append_cancel_left h⟩
theorem Ent.putAll_inj : ∀ (l m : List Ent), (∀ e ∈ l, e.size < 18446744073709551616) → (∀ e ∈ m, e.size < 18446744073709551616) → Ent.putAll l = Ent.putAll m → l = m
 | [], [], _, _, _ => rfl
 | [], e :: m, _, _, h => by
  have := congrArg List.length h
  rw [show Ent.putAll (e :: m) = e.put ++ Ent.putAll m from rfl, List.length_append] at this
  have h2 : 0 < e.put.length := by
   unfold Ent.put
   rw [List.length_append]
   unfold Vint.putBytes
   rw [List.length_append]
   have := Vint.put_pos e.key.length
   omega
  rw [show (Ent.putAll []).length = 0 from rfl] at this
  omega
 | e :: l, [], _, _, h => by
  have := congrArg List.length h
  rw [show Ent.putAll (e :: l) = e.put ++ Ent.putAll l from rfl, List.length_append] at this
  have h2 : 0 < e.put.length := by
   unfold Ent.put
   rw [List.length_append]
   unfold Vint.putBytes
   rw [List.length_append]
   have := Vint.put_pos e.key.length
   omega
  rw [show (Ent.putAll []).length = 0 from rfl] at this
  omega
 | e :: l, e' :: m, hl, hm, h => by
  have h1 := hl e (by simp)
  have h2 := hm e' (by simp)
  unfold Ent.size at h1 h2
  rw [show Ent.putAll (e :: l) = e.put ++ Ent.putAll l from rfl, show Ent.putAll (e' :: m) = e'.put ++ Ent.putAll m from rfl] at h
  unfold Ent.put at h
  rw [List.append_assoc, List.append_assoc] at h
  obtain ⟨h3, h4⟩ := Vint.putBytes_cancel (by omega) (by omega) h
  obtain ⟨h5, h6⟩ := Vint.putBytes_cancel (by omega) (by omega) h4
  have h7 := Ent.putAll_inj l m (fun x hx => hl x (by simp [hx])) (fun x hx => hm x (by simp [hx])) h6
  subst h7
  cases e
  cases e'
  simp_all
end Go.Proofs.Ytjholekgdnhpkaa
