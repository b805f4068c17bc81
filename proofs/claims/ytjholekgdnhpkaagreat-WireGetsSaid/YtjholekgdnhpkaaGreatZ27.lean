/- Texts of the proof, laid together: EntRise EntRiseI EntPlain. -/
import Derived.Test.YtjholekgdnhpkaaGreatZ6
import Derived.Test.YtjholekgdnhpkaaGreatZ18
set_option linter.unusedVariables false
set_option linter.unusedSimpArgs false
set_option linter.unusedSectionVars false
namespace Go.Proofs.YtjholekgdnhpkaaGreat
open Go.RowKit
attribute [local go_sem] Oper.semAt_some
structure Rise (l : List Ent) : Prop where
 ok : ∀ k (h : k < l.length), 1 ≤ l[k].key.length ∧ l[k].key.length ≤ 24 ∧ l[k].val.length ≤ 1000
 up : ∀ k (h : k + 1 < l.length), ltB (l[k]'(by omega)).key l[k + 1].key = true
end Go.Proofs.YtjholekgdnhpkaaGreat
namespace Go.Proofs.YtjholekgdnhpkaaGreat
open Go.RowKit
attribute [local go_sem] Oper.semAt_some
set_option maxRecDepth 100000 in
set_option maxHeartbeats 4000000 in
theorem ref_risingI (A : Option Addr) (l : List EnV) (c : Nat) (w : World) (hl : RdE w A l) (hc : l.length ≤ 1000000) :
  Calls Tryz.prog 72 #[.slice A l.length c] w fun e' w' => ∃ b : Bool, e' = .returned (.bool b) ∧ (b = true ↔ Rise (l.map EnV.x)) ∧ Below w.heap.size w w' := by
 have hrise : (∀ k (h : k < l.length), 1 ≤ l[k].x.key.length ∧ l[k].x.key.length ≤ 24 ∧ l[k].x.val.length ≤ 1000) → (∀ k (h : k + 1 < l.length) (h2 : k < l.length), ltB l[k].x.key l[k + 1].x.key = true) → Rise (l.map EnV.x) := fun h1 h2 =>
  ⟨fun k h => by simpa using h1 k (by simpa using h), fun k h => by simpa using h2 k (by simpa using h) (Nat.lt_of_succ_lt (by simpa using h))⟩
 have HRise := Lib.hid hrise
 clear hrise
 go_enter Tryz.func72, Tryz.ntmps72
 go_wp2
 go_loopw [3] (fun i wr => ∃ k : Nat, k ≤ l.length ∧ i = .int .i64 k ∧ (∀ j (h : j < l.length), j < k → 1 ≤ l[j].x.key.length ∧ l[j].x.key.length ≤ 24 ∧ l[j].x.val.length ≤ 1000) ∧ (∀ j (h : j + 1 < l.length) (h2 : j < l.length), j + 1 < k → ltB l[j].x.key l[j + 1].x.key = true) ∧ Below w.heap.size w wr) (fun i _ => l.length - (intOf i).toNat)
 case atStart => exact ⟨0, by omega, rfl, fun j _ h => absurd h (by omega), fun j _ _ h => absurd h (by omega), Below.refl _ _⟩
 case round =>
  obtain ⟨k, hk, rfl, hok, hup, hbw⟩ := hrel
  have Hok := Lib.hid hok
  have Hup := Lib.hid hup
  clear hok hup
  have hbd := hbw.trans ((Ext.drew wr).mono hbw.size)
  by_cases h : k < l.length
  ·
   obtain ⟨ad, rfl, hcell, hin⟩ := (hl.below hbw).at_ h
   have k1 : wr.drew.cell? _ = _ := key_at hcell
   have v1 : wr.drew.cell? _ = _ := val_at hcell
   have ik : (0 : Int) ≤ (k : Int) := by omega
   have ik2 : (k : Int) < (l.length : Int) := by omega
   have Hcell := Lib.hid hcell
   clear hcell
   by_cases a1 : l[k].x.key.length < 1
   ·
    have b1 : decide ((l[k].x.key.length : Int) < 1) = true := by simp; omega
    go_wp2_with fail
    refine rg_start (by kernel_rfl) ?_
    refine gD 0 rfl ?_
    simp only [sP]
    refine gD 1 rfl ?_
    simp only [sP]
    refine gD 2 rfl ?_
    simp only [sP]
    refine gD 3 rfl ?_
    simp only [sP]
    refine gS 4 rfl ⟨_, fun w' hx => by have hcx := hx.load k1; (go_simp <;> with_reducible rfl), ?_⟩
    simp only [sP]
    refine gD 5 rfl ?_
    simp only [sP]
    refine gS 6 rfl ⟨.bool true, fun w' hx => by (go_simp <;> with_reducible rfl), ?_⟩
    simp only [sP]
    refine gD 7 rfl ?_
    simp only [sP]
    refine gK 8 rfl ?_
    simp only [sP]
    refine gK 9 rfl ?_
    simp only [sP]
    refine gK 10 rfl ?_
    simp only [sP]
    refine gK 11 rfl ?_
    simp only [sP]
    refine gK 12 rfl ?_
    simp only [sP]
    refine gK 13 rfl ?_
    simp only [sP]
    refine gK 14 rfl ?_
    simp only [sP]
    refine gD 15 rfl ?_
    simp only [sP]
    refine gD 16 rfl ?_
    simp only [sP]
    refine gK 17 rfl ?_
    simp only [sP]
    refine gK 18 rfl ?_
    simp only [sP]
    refine gK 19 rfl ?_
    simp only [sP]
    refine gK 20 rfl ?_
    simp only [sP]
    refine gK 21 rfl ?_
    simp only [sP]
    refine gK 22 rfl ?_
    simp only [sP]
    refine gK 23 rfl ?_
    simp only [sP]
    refine gD 24 rfl ?_
    simp only [sP]
    refine gD 25 rfl ?_
    simp only [sP]
    refine gK 26 rfl ?_
    simp only [sP]
    refine gK 27 rfl ?_
    simp only [sP]
    refine gK 28 rfl ?_
    simp only [sP]
    refine gK 29 rfl ?_
    simp only [sP]
    refine gK 30 rfl ?_
    simp only [sP]
    refine gK 31 rfl ?_
    simp only [sP]
    refine gK 32 rfl ?_
    simp only [sP]
    refine gK 33 rfl ?_
    simp only [sP]
    refine gK 34 rfl ?_
    simp only [sP]
    refine gK 35 rfl ?_
    simp only [sP]
    refine gK 36 rfl ?_
    simp only [sP]
    refine gK 37 rfl ?_
    simp only [sP]
    refine gK 38 rfl ?_
    simp only [sP]
    refine gK 39 rfl ?_
    simp only [sP]
    refine gK 40 rfl ?_
    simp only [sP]
    refine gK 41 rfl ?_
    simp only [sP]
    refine gK 42 rfl ?_
    simp only [sP]
    refine gK 43 rfl ?_
    simp only [sP]
    refine gD 44 rfl ?_
    simp only [sP]
    refine rg_done (by kernel_rfl) ?_
    go_wp2
    go_ret
    exact ⟨false, rfl, ⟨(fun h => by cases h), fun hr => by have h1 := hr.ok k (by simpa using h); simp only [List.getElem_map] at h1; omega⟩, hbd⟩
   ·
    have b1 : decide ((l[k].x.key.length : Int) < 1) = false := by simp; omega
    by_cases a2 : 24 < l[k].x.key.length
    ·
     have b2 : decide (24 < (l[k].x.key.length : Int)) = true := by simp; omega
     go_wp2_with fail
     refine rg_start (by kernel_rfl) ?_
     refine gD 0 rfl ?_
     simp only [sP]
     refine gD 1 rfl ?_
     simp only [sP]
     refine gD 2 rfl ?_
     simp only [sP]
     refine gD 3 rfl ?_
     simp only [sP]
     refine gS 4 rfl ⟨_, fun w' hx => by have hcx := hx.load k1; (go_simp <;> with_reducible rfl), ?_⟩
     simp only [sP]
     refine gD 5 rfl ?_
     simp only [sP]
     refine gS 6 rfl ⟨.bool false, fun w' hx => by (go_simp <;> with_reducible rfl), ?_⟩
     simp only [sP]
     refine gD 7 rfl ?_
     simp only [sP]
     refine gD 8 rfl ?_
     simp only [sP]
     refine gD 9 rfl ?_
     simp only [sP]
     refine gD 10 rfl ?_
     simp only [sP]
     refine gD 11 rfl ?_
     simp only [sP]
     refine gS 12 rfl ⟨_, fun w' hx => by have hcx := hx.load k1; (go_simp <;> with_reducible rfl), ?_⟩
     simp only [sP]
     refine gD 13 rfl ?_
     simp only [sP]
     refine gS 14 rfl ⟨.bool true, fun w' hx => by (go_simp <;> with_reducible rfl), ?_⟩
     simp only [sP]
     refine gD 15 rfl ?_
     simp only [sP]
     refine gD 16 rfl ?_
     simp only [sP]
     refine gK 17 rfl ?_
     simp only [sP]
     refine gK 18 rfl ?_
     simp only [sP]
     refine gK 19 rfl ?_
     simp only [sP]
     refine gK 20 rfl ?_
     simp only [sP]
     refine gK 21 rfl ?_
     simp only [sP]
     refine gK 22 rfl ?_
     simp only [sP]
     refine gK 23 rfl ?_
     simp only [sP]
     refine gD 24 rfl ?_
     simp only [sP]
     refine gD 25 rfl ?_
     simp only [sP]
     refine gK 26 rfl ?_
     simp only [sP]
     refine gK 27 rfl ?_
     simp only [sP]
     refine gK 28 rfl ?_
     simp only [sP]
     refine gK 29 rfl ?_
     simp only [sP]
     refine gK 30 rfl ?_
     simp only [sP]
     refine gK 31 rfl ?_
     simp only [sP]
     refine gK 32 rfl ?_
     simp only [sP]
     refine gK 33 rfl ?_
     simp only [sP]
     refine gK 34 rfl ?_
     simp only [sP]
     refine gK 35 rfl ?_
     simp only [sP]
     refine gK 36 rfl ?_
     simp only [sP]
     refine gK 37 rfl ?_
     simp only [sP]
     refine gK 38 rfl ?_
     simp only [sP]
     refine gK 39 rfl ?_
     simp only [sP]
     refine gK 40 rfl ?_
     simp only [sP]
     refine gK 41 rfl ?_
     simp only [sP]
     refine gK 42 rfl ?_
     simp only [sP]
     refine gK 43 rfl ?_
     simp only [sP]
     refine gD 44 rfl ?_
     simp only [sP]
     refine rg_done (by kernel_rfl) ?_
     go_wp2
     go_ret
     exact ⟨false, rfl, ⟨(fun h => by cases h), fun hr => by have h1 := hr.ok k (by simpa using h); simp only [List.getElem_map] at h1; omega⟩, hbd⟩
    ·
     have b2 : decide (24 < (l[k].x.key.length : Int)) = false := by simp; omega
     by_cases a3 : 1000 < l[k].x.val.length
     ·
      have b3 : decide (1000 < (l[k].x.val.length : Int)) = true := by simp; omega
      go_wp2_with fail
      refine rg_start (by kernel_rfl) ?_
      refine gD 0 rfl ?_
      simp only [sP]
      refine gD 1 rfl ?_
      simp only [sP]
      refine gD 2 rfl ?_
      simp only [sP]
      refine gD 3 rfl ?_
      simp only [sP]
      refine gS 4 rfl ⟨_, fun w' hx => by have hcx := hx.load k1; (go_simp <;> with_reducible rfl), ?_⟩
      simp only [sP]
      refine gD 5 rfl ?_
      simp only [sP]
      refine gS 6 rfl ⟨.bool false, fun w' hx => by (go_simp <;> with_reducible rfl), ?_⟩
      simp only [sP]
      refine gD 7 rfl ?_
      simp only [sP]
      refine gD 8 rfl ?_
      simp only [sP]
      refine gD 9 rfl ?_
      simp only [sP]
      refine gD 10 rfl ?_
      simp only [sP]
      refine gD 11 rfl ?_
      simp only [sP]
      refine gS 12 rfl ⟨_, fun w' hx => by have hcx := hx.load k1; (go_simp <;> with_reducible rfl), ?_⟩
      simp only [sP]
      refine gD 13 rfl ?_
      simp only [sP]
      refine gS 14 rfl ⟨.bool false, fun w' hx => by (go_simp <;> with_reducible rfl), ?_⟩
      simp only [sP]
      refine gD 15 rfl ?_
      simp only [sP]
      refine gD 16 rfl ?_
      simp only [sP]
      refine gD 17 rfl ?_
      simp only [sP]
      refine gD 18 rfl ?_
      simp only [sP]
      refine gD 19 rfl ?_
      simp only [sP]
      refine gD 20 rfl ?_
      simp only [sP]
      refine gS 21 rfl ⟨_, fun w' hx => by have hcx := hx.load v1; (go_simp <;> with_reducible rfl), ?_⟩
      simp only [sP]
      refine gD 22 rfl ?_
      simp only [sP]
      refine gS 23 rfl ⟨.bool true, fun w' hx => by (go_simp <;> with_reducible rfl), ?_⟩
      simp only [sP]
      refine gD 24 rfl ?_
      simp only [sP]
      refine gD 25 rfl ?_
      simp only [sP]
      refine gK 26 rfl ?_
      simp only [sP]
      refine gK 27 rfl ?_
      simp only [sP]
      refine gK 28 rfl ?_
      simp only [sP]
      refine gK 29 rfl ?_
      simp only [sP]
      refine gK 30 rfl ?_
      simp only [sP]
      refine gK 31 rfl ?_
      simp only [sP]
      refine gK 32 rfl ?_
      simp only [sP]
      refine gK 33 rfl ?_
      simp only [sP]
      refine gK 34 rfl ?_
      simp only [sP]
      refine gK 35 rfl ?_
      simp only [sP]
      refine gK 36 rfl ?_
      simp only [sP]
      refine gK 37 rfl ?_
      simp only [sP]
      refine gK 38 rfl ?_
      simp only [sP]
      refine gK 39 rfl ?_
      simp only [sP]
      refine gK 40 rfl ?_
      simp only [sP]
      refine gK 41 rfl ?_
      simp only [sP]
      refine gK 42 rfl ?_
      simp only [sP]
      refine gK 43 rfl ?_
      simp only [sP]
      refine gD 44 rfl ?_
      simp only [sP]
      refine rg_done (by kernel_rfl) ?_
      go_wp2
      go_ret
      exact ⟨false, rfl, ⟨(fun h => by cases h), fun hr => by have h1 := hr.ok k (by simpa using h); simp only [List.getElem_map] at h1; omega⟩, hbd⟩
     ·
      have b3 : decide (1000 < (l[k].x.val.length : Int)) = false := by simp; omega
      have HOk : Hid (∀ j (h : j < l.length), j < k + 1 → 1 ≤ l[j].x.key.length ∧ l[j].x.key.length ≤ 24 ∧ l[j].x.val.length ≤ 1000) := by
       show ∀ j (h : j < l.length), j < k + 1 → _
       intro j hj hjk
       by_cases e : j = k
       ·
        subst e; omega
       ·
        exact Hok.out j hj (by omega)
      by_cases hk0 : k = 0
      ·
       subst hk0
       have HUp : Hid (∀ j (h : j + 1 < l.length) (h2 : j < l.length), j + 1 < 0 + 1 → ltB l[j].x.key l[j + 1].x.key = true) := by
        show ∀ j (h : j + 1 < l.length) (h2 : j < l.length), j + 1 < 0 + 1 → _
        intro j _ _ hj; omega
       simp only [Nat.zero_mul] at k1 v1
       rw [show ad.add 0 = ad from rfl] at k1 v1
       go_wp2_with fail
       refine rg_start (by kernel_rfl) ?_
       refine gD 0 rfl ?_
       simp only [sP]
       refine gD 1 rfl ?_
       simp only [sP]
       refine gD 2 rfl ?_
       simp only [sP]
       refine gD 3 rfl ?_
       simp only [sP]
       refine gS 4 rfl ⟨_, fun w' hx => by have hcx := hx.load k1; (go_simp <;> with_reducible rfl), ?_⟩
       simp only [sP]
       refine gD 5 rfl ?_
       simp only [sP]
       refine gS 6 rfl ⟨.bool false, fun w' hx => by (go_simp <;> with_reducible rfl), ?_⟩
       simp only [sP]
       refine gD 7 rfl ?_
       simp only [sP]
       refine gD 8 rfl ?_
       simp only [sP]
       refine gD 9 rfl ?_
       simp only [sP]
       refine gD 10 rfl ?_
       simp only [sP]
       refine gD 11 rfl ?_
       simp only [sP]
       refine gS 12 rfl ⟨_, fun w' hx => by have hcx := hx.load k1; (go_simp <;> with_reducible rfl), ?_⟩
       simp only [sP]
       refine gD 13 rfl ?_
       simp only [sP]
       refine gS 14 rfl ⟨.bool false, fun w' hx => by (go_simp <;> with_reducible rfl), ?_⟩
       simp only [sP]
       refine gD 15 rfl ?_
       simp only [sP]
       refine gD 16 rfl ?_
       simp only [sP]
       refine gD 17 rfl ?_
       simp only [sP]
       refine gD 18 rfl ?_
       simp only [sP]
       refine gD 19 rfl ?_
       simp only [sP]
       refine gD 20 rfl ?_
       simp only [sP]
       refine gS 21 rfl ⟨_, fun w' hx => by have hcx := hx.load v1; (go_simp <;> with_reducible rfl), ?_⟩
       simp only [sP]
       refine gD 22 rfl ?_
       simp only [sP]
       refine gS 23 rfl ⟨.bool false, fun w' hx => by (go_simp <;> with_reducible rfl), ?_⟩
       simp only [sP]
       refine gD 24 rfl ?_
       simp only [sP]
       refine gD 25 rfl ?_
       simp only [sP]
       refine gD 26 rfl ?_
       simp only [sP]
       refine gS 27 rfl ⟨.bool false, fun w' hx => by (go_simp <;> with_reducible rfl), ?_⟩
       simp only [sP]
       refine gD 28 rfl ?_
       simp only [sP]
       refine gK 29 rfl ?_
       simp only [sP]
       refine gK 30 rfl ?_
       simp only [sP]
       refine gK 31 rfl ?_
       simp only [sP]
       refine gK 32 rfl ?_
       simp only [sP]
       refine gK 33 rfl ?_
       simp only [sP]
       refine gK 34 rfl ?_
       simp only [sP]
       refine gK 35 rfl ?_
       simp only [sP]
       refine gK 36 rfl ?_
       simp only [sP]
       refine gK 37 rfl ?_
       simp only [sP]
       refine gK 38 rfl ?_
       simp only [sP]
       refine gK 39 rfl ?_
       simp only [sP]
       refine gK 40 rfl ?_
       simp only [sP]
       refine gK 41 rfl ?_
       simp only [sP]
       refine gK 42 rfl ?_
       simp only [sP]
       refine gD 43 rfl ?_
       simp only [sP]
       refine gD 44 rfl ?_
       simp only [sP]
       refine rg_done (by kernel_rfl) ?_
       go_wp2
       go_roundw
       case rel => exact ⟨0 + 1, by omega, by go_num, HOk.out, HUp.out, hbd⟩
       case measure => simp [intOf]; omega
      ·
       obtain ⟨j, rfl⟩ : ∃ j, k = j + 1 := ⟨k - 1, by omega⟩
       have hj : j < l.length := by omega
       obtain ⟨ad2, he, hcell0, hin0⟩ := (hl.below hbw).at_ hj
       injection he with he
       subst he
       have k0 : wr.drew.cell? _ = _ := key_at hcell0
       clear hcell0
       have jw : IntKind.i64.wrap (j : Int) = (j : Int) := by rw [IntKind.wrap_i64]; omega
       have b4 : decide ((0 : Int) < (j : Int) + 1) = true := decide_eq_true (by omega)
       have ij : (0 : Int) ≤ (j : Int) + 1 := by omega
       have ij2 : (j : Int) + 1 < (l.length : Int) := by omega
       have jk : (0 : Int) ≤ (j : Int) := by omega
       have jk2 : (j : Int) < (l.length : Int) := by omega
       cases hlt : ltB l[j].x.key l[j + 1].x.key with
       | false =>
        have HLT := Lib.hid hlt
        rw [← less_ltB] at hlt
        go_wp2_with fail
        refine rg_start (by kernel_rfl) ?_
        refine gD 0 rfl ?_
        simp only [sP]
        refine gD 1 rfl ?_
        simp only [sP]
        refine gD 2 rfl ?_
        simp only [sP]
        refine gD 3 rfl ?_
        simp only [sP]
        refine gS 4 rfl ⟨_, fun w' hx => by have hcx := hx.load k1; (go_simp <;> with_reducible rfl), ?_⟩
        simp only [sP]
        refine gD 5 rfl ?_
        simp only [sP]
        refine gS 6 rfl ⟨.bool false, fun w' hx => by (go_simp <;> with_reducible rfl), ?_⟩
        simp only [sP]
        refine gD 7 rfl ?_
        simp only [sP]
        refine gD 8 rfl ?_
        simp only [sP]
        refine gD 9 rfl ?_
        simp only [sP]
        refine gD 10 rfl ?_
        simp only [sP]
        refine gD 11 rfl ?_
        simp only [sP]
        refine gS 12 rfl ⟨_, fun w' hx => by have hcx := hx.load k1; (go_simp <;> with_reducible rfl), ?_⟩
        simp only [sP]
        refine gD 13 rfl ?_
        simp only [sP]
        refine gS 14 rfl ⟨.bool false, fun w' hx => by (go_simp <;> with_reducible rfl), ?_⟩
        simp only [sP]
        refine gD 15 rfl ?_
        simp only [sP]
        refine gD 16 rfl ?_
        simp only [sP]
        refine gD 17 rfl ?_
        simp only [sP]
        refine gD 18 rfl ?_
        simp only [sP]
        refine gD 19 rfl ?_
        simp only [sP]
        refine gD 20 rfl ?_
        simp only [sP]
        refine gS 21 rfl ⟨_, fun w' hx => by have hcx := hx.load v1; (go_simp <;> with_reducible rfl), ?_⟩
        simp only [sP]
        refine gD 22 rfl ?_
        simp only [sP]
        refine gS 23 rfl ⟨.bool false, fun w' hx => by (go_simp <;> with_reducible rfl), ?_⟩
        simp only [sP]
        refine gD 24 rfl ?_
        simp only [sP]
        refine gD 25 rfl ?_
        simp only [sP]
        refine gD 26 rfl ?_
        simp only [sP]
        refine gS 27 rfl ⟨.bool true, fun w' hx => by (go_simp <;> with_reducible rfl), ?_⟩
        simp only [sP]
        refine gD 28 rfl ?_
        simp only [sP]
        refine gD 29 rfl ?_
        simp only [sP]
        refine gD 30 rfl ?_
        simp only [sP]
        refine gD 31 rfl ?_
        simp only [sP]
        refine gD 32 rfl ?_
        simp only [sP]
        refine gD 33 rfl ?_
        simp only [sP]
        refine gS 34 rfl ⟨_, fun w' hx => by have hcx := hx.load k0; (go_simp <;> with_reducible rfl), ?_⟩
        simp only [sP]
        refine gS 35 rfl ⟨.string ⟨(l[j].x.key).toArray⟩, fun w' hx => ex_convert rfl rfl (run_str w' 22 9 5 l[j].ka l[j].x.key l[j].kc Tryz.underlying22 Tryz.underlying5 Tryz.underlying9 (hin0.kr.below (Ext.tr (Ext.drew wr) hx)) (l[j].x.key).length rfl), ?_⟩
        simp only [sP]
        refine gD 36 rfl ?_
        simp only [sP]
        refine gD 37 rfl ?_
        simp only [sP]
        refine gD 38 rfl ?_
        simp only [sP]
        refine gD 39 rfl ?_
        simp only [sP]
        refine gS 40 rfl ⟨_, fun w' hx => by have hcx := hx.load k1; (go_simp <;> with_reducible rfl), ?_⟩
        simp only [sP]
        refine gS 41 rfl ⟨.string ⟨(l[j + 1].x.key).toArray⟩, fun w' hx => ex_convert rfl rfl (run_str w' 22 9 5 l[j + 1].ka l[j + 1].x.key l[j + 1].kc Tryz.underlying22 Tryz.underlying5 Tryz.underlying9 (hin.kr.below (Ext.tr (Ext.drew wr) hx)) (l[j + 1].x.key).length rfl), ?_⟩
        simp only [sP]
        refine gS 42 rfl ⟨.bool true, fun w' hx => by (go_simp <;> with_reducible rfl), ?_⟩
        simp only [sP]
        refine gD 43 rfl ?_
        simp only [sP]
        refine gD 44 rfl ?_
        simp only [sP]
        refine rg_done (by kernel_rfl) ?_
        go_wp2
        go_ret
        exact ⟨false, rfl, ⟨(fun h => by cases h), fun hr => by have h1 := hr.up j (by simpa using h); simp only [List.getElem_map] at h1; rw [HLT.out] at h1; cases h1⟩, hbd⟩
       | true =>
        have HUp : Hid (∀ i (h : i + 1 < l.length) (h2 : i < l.length), i + 1 < j + 1 + 1 → ltB l[i].x.key l[i + 1].x.key = true) := by
         show ∀ i (h : i + 1 < l.length) (h2 : i < l.length), i + 1 < j + 1 + 1 → _
         intro i h1 h2 hi
         by_cases e : i = j
         ·
          subst e; exact hlt
         ·
          exact Hup.out i h1 h2 (by omega)
        rw [← less_ltB] at hlt
        go_wp2_with fail
        refine rg_start (by kernel_rfl) ?_
        refine gD 0 rfl ?_
        simp only [sP]
        refine gD 1 rfl ?_
        simp only [sP]
        refine gD 2 rfl ?_
        simp only [sP]
        refine gD 3 rfl ?_
        simp only [sP]
        refine gS 4 rfl ⟨_, fun w' hx => by have hcx := hx.load k1; (go_simp <;> with_reducible rfl), ?_⟩
        simp only [sP]
        refine gD 5 rfl ?_
        simp only [sP]
        refine gS 6 rfl ⟨.bool false, fun w' hx => by (go_simp <;> with_reducible rfl), ?_⟩
        simp only [sP]
        refine gD 7 rfl ?_
        simp only [sP]
        refine gD 8 rfl ?_
        simp only [sP]
        refine gD 9 rfl ?_
        simp only [sP]
        refine gD 10 rfl ?_
        simp only [sP]
        refine gD 11 rfl ?_
        simp only [sP]
        refine gS 12 rfl ⟨_, fun w' hx => by have hcx := hx.load k1; (go_simp <;> with_reducible rfl), ?_⟩
        simp only [sP]
        refine gD 13 rfl ?_
        simp only [sP]
        refine gS 14 rfl ⟨.bool false, fun w' hx => by (go_simp <;> with_reducible rfl), ?_⟩
        simp only [sP]
        refine gD 15 rfl ?_
        simp only [sP]
        refine gD 16 rfl ?_
        simp only [sP]
        refine gD 17 rfl ?_
        simp only [sP]
        refine gD 18 rfl ?_
        simp only [sP]
        refine gD 19 rfl ?_
        simp only [sP]
        refine gD 20 rfl ?_
        simp only [sP]
        refine gS 21 rfl ⟨_, fun w' hx => by have hcx := hx.load v1; (go_simp <;> with_reducible rfl), ?_⟩
        simp only [sP]
        refine gD 22 rfl ?_
        simp only [sP]
        refine gS 23 rfl ⟨.bool false, fun w' hx => by (go_simp <;> with_reducible rfl), ?_⟩
        simp only [sP]
        refine gD 24 rfl ?_
        simp only [sP]
        refine gD 25 rfl ?_
        simp only [sP]
        refine gD 26 rfl ?_
        simp only [sP]
        refine gS 27 rfl ⟨.bool true, fun w' hx => by (go_simp <;> with_reducible rfl), ?_⟩
        simp only [sP]
        refine gD 28 rfl ?_
        simp only [sP]
        refine gD 29 rfl ?_
        simp only [sP]
        refine gD 30 rfl ?_
        simp only [sP]
        refine gD 31 rfl ?_
        simp only [sP]
        refine gD 32 rfl ?_
        simp only [sP]
        refine gD 33 rfl ?_
        simp only [sP]
        refine gS 34 rfl ⟨_, fun w' hx => by have hcx := hx.load k0; (go_simp <;> with_reducible rfl), ?_⟩
        simp only [sP]
        refine gS 35 rfl ⟨.string ⟨(l[j].x.key).toArray⟩, fun w' hx => ex_convert rfl rfl (run_str w' 22 9 5 l[j].ka l[j].x.key l[j].kc Tryz.underlying22 Tryz.underlying5 Tryz.underlying9 (hin0.kr.below (Ext.tr (Ext.drew wr) hx)) (l[j].x.key).length rfl), ?_⟩
        simp only [sP]
        refine gD 36 rfl ?_
        simp only [sP]
        refine gD 37 rfl ?_
        simp only [sP]
        refine gD 38 rfl ?_
        simp only [sP]
        refine gD 39 rfl ?_
        simp only [sP]
        refine gS 40 rfl ⟨_, fun w' hx => by have hcx := hx.load k1; (go_simp <;> with_reducible rfl), ?_⟩
        simp only [sP]
        refine gS 41 rfl ⟨.string ⟨(l[j + 1].x.key).toArray⟩, fun w' hx => ex_convert rfl rfl (run_str w' 22 9 5 l[j + 1].ka l[j + 1].x.key l[j + 1].kc Tryz.underlying22 Tryz.underlying5 Tryz.underlying9 (hin.kr.below (Ext.tr (Ext.drew wr) hx)) (l[j + 1].x.key).length rfl), ?_⟩
        simp only [sP]
        refine gS 42 rfl ⟨.bool false, fun w' hx => by (go_simp <;> with_reducible rfl), ?_⟩
        simp only [sP]
        refine gD 43 rfl ?_
        simp only [sP]
        refine gD 44 rfl ?_
        simp only [sP]
        refine rg_done (by kernel_rfl) ?_
        go_wp2
        go_roundw
        case rel => exact ⟨(j + 1) + 1, by omega, by go_num, HOk.out, HUp.out, hbd⟩
        case measure => simp [intOf]; omega
  ·
   have ht := HRise.out (fun j h1 => Hok.out j h1 (by omega)) (fun j h1 h2 => Hup.out j h1 h2 (by omega))
   have HT := Lib.hid ht
   clear ht
   go_wp2
   go_ret
   exact ⟨true, rfl, ⟨fun _ => HT.out, fun _ => rfl⟩, hbw⟩
end Go.Proofs.YtjholekgdnhpkaaGreat
namespace Go.Proofs.YtjholekgdnhpkaaGreat
open Go.RowKit
theorem Ent.get_put (e : Ent) (r : List UInt8) (h : e.ok = true) : Ent.get (e.put ++ r) = (e, e.put.length, 0) := by
 have h' := h
 simp [Ent.ok] at h'
 have h1 := Vint.getBytes_putBytes e.key (Vint.putBytes e.val ++ r) (by omega)
 have h2 := Vint.getBytes_putBytes e.val r (by omega)
 unfold Ent.get Ent.put
 rw [List.append_assoc, h1]
 simp only [List.drop_left, h2]
 simp [h]
theorem Ent.put_pos (e : Ent) (h : e.ok = true) : 0 < e.put.length := by
 simp [Ent.ok] at h
 unfold Ent.put Vint.putBytes
 simp
 omega
theorem Ent.items_putAll : ∀ (l : List Ent) (f : Nat), (∀ e ∈ l, e.ok = true) → (Ent.putAll l).length ≤ f → Ent.items f (Ent.putAll l) = l.map fun e => (e, 0)
 | [], f, _, _ => by simp [Ent.putAll, Ent.items_nil]
 | e :: l, f, hok, hf => by
  have he := hok e (by simp)
  have hp := Ent.put_pos e he
  have hcons : Ent.putAll (e :: l) = e.put ++ Ent.putAll l := rfl
  rw [hcons] at hf ⊢
  rw [List.length_append] at hf
  obtain ⟨f, rfl⟩ : ∃ f', f = f' + 1 := ⟨f - 1, by omega⟩
  rw [Ent.items, if_neg (by intro h; rw [List.append_eq_nil_iff] at h; rw [h.1] at hp; simp at hp), Ent.get_put e _ he]
  simp only [if_true, List.drop_left, List.map_cons]
  rw [Ent.items_putAll l f (fun e' h => hok e' (by simp [h])) (by omega)]
theorem Ent.run_rise : ∀ (l acc : List Ent), (∀ k (h : k + 1 < (acc ++ l).length), ltB ((acc ++ l)[k]'(by omega)).key (acc ++ l)[k + 1].key = true) → Ent.run acc (l.map fun e => (e, 0)) = some (acc ++ l)
 | [], acc, _ => by simp [Ent.run]
 | e :: l, acc, h => by
  have hb : Ent.bars acc e = false := by
   unfold Ent.bars
   rw [List.getLast?_eq_getElem?]
   cases hacc : acc with
   | nil => rfl
   | cons a t =>
    have hk : acc.length - 1 + 1 < (acc ++ e :: l).length := by rw [List.length_append, List.length_cons, hacc, List.length_cons]; omega
    have h1 := h (acc.length - 1) hk
    have hlt : acc.length - 1 < acc.length := by rw [hacc]; simp
    rw [List.getElem_append_left hlt, List.getElem_append_right (by omega)] at h1
    rw [← hacc, List.getElem?_eq_getElem hlt]
    have h2 : acc.length - 1 + 1 - acc.length = 0 := by omega
    simp only [h2, List.getElem_cons_zero] at h1
    simp [h1]
  simp only [List.map_cons, Ent.run, hb]
  rw [if_neg (by simp), if_neg (by simp), Ent.run_rise l (acc ++ [e]) (by simpa using h)]
  simp
theorem Ent.getAll_putAll (l : List Ent) (h : Rise l) : Ent.getAll (Ent.putAll l) = some l := by
 have hok : ∀ e ∈ l, e.ok = true := by
  intro e he
  obtain ⟨k, hk, rfl⟩ := List.getElem_of_mem he
  have := h.ok k hk
  simp [Ent.ok]
  omega
 unfold Ent.getAll
 rw [Ent.items_putAll l _ hok (Nat.le_refl _)]
 exact Ent.run_rise l [] (by simpa using h.up)
end Go.Proofs.YtjholekgdnhpkaaGreat
