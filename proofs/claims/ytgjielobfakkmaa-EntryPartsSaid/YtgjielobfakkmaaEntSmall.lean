
/- Contracts: the laws' small, num (scowlaw17). Printed by wip/tools/gen_small17.py. -/

import Derived.Test.YtgjielobfakkmaaEntSame

namespace Go.Proofs.Ytgjielobfakkmaa

open Go.RowKit

attribute [local go_sem] Oper.semAt_some

theorem num17 (v : Int) (w : World) : Calls Try.prog 23 #[.int .i64 v] w fun e w' => e = .returned (.int .i64 v) ∧ w = w' := by
  go_enter Try.func23, Try.ntmps23
  go_wp2
  go_ret
  exact ⟨rfl, rfl⟩

/-- What small says. -/
def SmallPost (l : List EnV) (w : World) (e : Ending) (w' : World) : Prop := ∃ b : Bool, e = .returned (.bool b) ∧ (b = true → l.length ≤ 60 ∧ Ent.total (l.map EnV.x) ≤ 8000) ∧ Below w.heap.size w w'

set_option maxRecDepth 100000 in
set_option maxHeartbeats 2000000 in
theorem small17 (A : Option Addr) (l : List EnV) (c : Nat) (w : World) (hl : RdE w A l) :
    Calls Try.prog 6 #[.slice A l.length c] w (SmallPost l w) := by
  obtain ⟨m, hm⟩ : ∃ m, m = l.map EnV.x := ⟨_, rfl⟩
  have hml : m.length = l.length := by rw [hm]; simp
  have HM := Lib.hid hm
  have Hml := Lib.hid hml
  clear hm hml
  go_enter Try.func6, Try.ntmps6
  go_wp2
  go_loopw [3, 4] (fun v i wr => ∃ k n : Nat, k ≤ l.length ∧ k ≤ 61 ∧ i = .int .i64 k ∧ v = .int .i64 n ∧ n = Ent.total (m.take k) ∧ n ≤ 24000 ∧ Below w.heap.size w wr) (fun _ i _ => l.length - (intOf i).toNat)
  case atStart => exact ⟨0, 0, by omega, by omega, rfl, rfl, by simp [Ent.total], by omega, Below.refl _ _⟩
  case round =>
    obtain ⟨k, n, hk, hk61, rfl, rfl, hn, hnb, hbw⟩ := hrel
    have Hn := Lib.hid hn
    clear hn
    have hbd := hbw.trans ((Ext.drew wr).mono hbw.size)
    by_cases h : k < l.length
    · by_cases h60 : k ≤ 60
      · by_cases h8 : n ≤ 8000
        · obtain ⟨ad, rfl, hcell, hin⟩ := (hl.below hbw).at_ h
          have k1 : wr.drew.cell? _ = _ := key_at hcell
          have v1 : wr.drew.cell? _ = _ := val_at hcell
          have k1' : wr.cell? _ = _ := key_at hcell
          have v1' : wr.cell? _ = _ := val_at hcell
          have ik : (0 : Int) ≤ (k : Int) := by omega
          have ik2 : (k : Int) < (l.length : Int) := by omega
          have hkm : k < m.length := by rw [Hml.out]; exact h
          have hx : m[k] = l[k].x := by have := HM.out; subst this; simp
          have hs := Ent.total_snoc m k hkm
          rw [hx, ← Hn.out] at hs
          unfold Ent.size at hs
          have Hs := Lib.hid hs
          clear hcell hs hx
          by_cases a1 : 8000 < l[k].x.key.length
          · go_wp2_with fail
            go_ret
            exact ⟨false, rfl, (fun h => by cases h), hbw⟩
          · by_cases a2 : 8000 < l[k].x.val.length
            · go_wp2_with fail
              go_ret
              exact ⟨false, rfl, (fun h => by cases h), hbw⟩
            · have w1 : IntKind.i64.wrap ((n : Int) + (l[k].x.key.length : Int)) = (n : Int) + (l[k].x.key.length : Int) := by rw [IntKind.wrap_i64]; omega
              have w2 : IntKind.i64.wrap ((n : Int) + (l[k].x.key.length : Int) + (l[k].x.val.length : Int)) = (n : Int) + (l[k].x.key.length : Int) + (l[k].x.val.length : Int) := by rw [IntKind.wrap_i64]; omega
              have W1 := Lib.hid w1
              have W2 := Lib.hid w2
              clear w1 w2
              go_wp2_with fail
              have w1 := W1.out
              have w2 := W2.out
              refine rg_start (by kernel_rfl) ?_
              refine rg_take 0 rfl (by kernel_rfl) (by kernel_rfl) (by kernel_rfl) (fun _ _ _ _ h => h) (by rfl) ⟨_, fun w' hx => by (go_simp <;> with_reducible rfl), ?_⟩
              simp only [Act.put, List.setIfInBounds_toArray, List.set_cons_zero, List.set_cons_succ]
              refine rg_take 1 rfl (by kernel_rfl) (by kernel_rfl) (by kernel_rfl) (fun _ _ _ _ h => h) (by rfl) ⟨_, fun w' hx => by (go_simp <;> with_reducible rfl), ?_⟩
              simp only [Act.put, List.setIfInBounds_toArray, List.set_cons_zero, List.set_cons_succ]
              refine rg_take 2 rfl (by kernel_rfl) (by kernel_rfl) (by kernel_rfl) (fun _ _ _ _ h => h) (by rfl) ⟨_, fun w' hx => by (go_simp <;> with_reducible rfl), ?_⟩
              simp only [Act.put, List.setIfInBounds_toArray, List.set_cons_zero, List.set_cons_succ]
              refine rg_take 3 rfl (by kernel_rfl) (by kernel_rfl) (by kernel_rfl) (fun _ _ _ _ h => h) (by rfl) ⟨_, fun w' hx => by (go_simp <;> with_reducible rfl), ?_⟩   -- t38 := indexAddr 22 t36 t37
              simp only [Act.put, List.setIfInBounds_toArray, List.set_cons_zero, List.set_cons_succ]
              refine rg_take 4 rfl (by kernel_rfl) (by kernel_rfl) (by kernel_rfl) (fun _ _ _ _ h => h) (by rfl) ⟨_, fun w' hx => by (go_simp <;> with_reducible rfl), ?_⟩   -- t39 := fieldAddr 28 t38 0
              simp only [Act.put, List.setIfInBounds_toArray, List.set_cons_zero, List.set_cons_succ]
              refine rg_take 5 rfl (by kernel_rfl) (by kernel_rfl) (by kernel_rfl) (fun _ _ _ _ h => h) (by rfl) ⟨_, fun w' hx => by have hcx := hx.load k1; (go_simp <;> with_reducible rfl), ?_⟩
              simp only [Act.put, List.setIfInBounds_toArray, List.set_cons_zero, List.set_cons_succ]
              refine rg_take 6 rfl (by kernel_rfl) (by kernel_rfl) (by kernel_rfl) (fun _ _ _ _ h => h) (by rfl) ⟨_, fun w' hx => by (go_simp <;> with_reducible rfl), ?_⟩   -- t41 := len(t40)
              simp only [Act.put, List.setIfInBounds_toArray, List.set_cons_zero, List.set_cons_succ]
              refine rg_take 7 rfl (by kernel_rfl) (by kernel_rfl) (by kernel_rfl) (fun _ _ _ _ h => h) (by rfl) ⟨.int .i64 ((n + l[k].x.key.length : Nat) : Int), fun w' hx => by (go_simp <;> with_reducible rfl), ?_⟩
              simp only [Act.put, List.setIfInBounds_toArray, List.set_cons_zero, List.set_cons_succ]
              refine rg_take 8 rfl (by kernel_rfl) (by kernel_rfl) (by kernel_rfl) (fun _ _ _ _ h => h) (by rfl) ⟨_, fun w' hx => by (go_simp <;> with_reducible rfl), ?_⟩
              simp only [Act.put, List.setIfInBounds_toArray, List.set_cons_zero, List.set_cons_succ]
              refine rg_take 9 rfl (by kernel_rfl) (by kernel_rfl) (by kernel_rfl) (fun _ _ _ _ h => h) (by rfl) ⟨_, fun w' hx => by (go_simp <;> with_reducible rfl), ?_⟩
              simp only [Act.put, List.setIfInBounds_toArray, List.set_cons_zero, List.set_cons_succ]
              refine rg_take 10 rfl (by kernel_rfl) (by kernel_rfl) (by kernel_rfl) (fun _ _ _ _ h => h) (by rfl) ⟨_, fun w' hx => by (go_simp <;> with_reducible rfl), ?_⟩   -- t45 := indexAddr 22 t43 t44
              simp only [Act.put, List.setIfInBounds_toArray, List.set_cons_zero, List.set_cons_succ]
              refine rg_take 11 rfl (by kernel_rfl) (by kernel_rfl) (by kernel_rfl) (fun _ _ _ _ h => h) (by rfl) ⟨_, fun w' hx => by (go_simp <;> with_reducible rfl), ?_⟩   -- t46 := fieldAddr 28 t45 1
              simp only [Act.put, List.setIfInBounds_toArray, List.set_cons_zero, List.set_cons_succ]
              refine rg_take 12 rfl (by kernel_rfl) (by kernel_rfl) (by kernel_rfl) (fun _ _ _ _ h => h) (by rfl) ⟨_, fun w' hx => by have hcx := hx.load v1; (go_simp <;> with_reducible rfl), ?_⟩
              simp only [Act.put, List.setIfInBounds_toArray, List.set_cons_zero, List.set_cons_succ]
              refine rg_take 13 rfl (by kernel_rfl) (by kernel_rfl) (by kernel_rfl) (fun _ _ _ _ h => h) (by rfl) ⟨_, fun w' hx => by (go_simp <;> with_reducible rfl), ?_⟩   -- t48 := len(t47)
              simp only [Act.put, List.setIfInBounds_toArray, List.set_cons_zero, List.set_cons_succ]
              refine rg_take 14 rfl (by kernel_rfl) (by kernel_rfl) (by kernel_rfl) (fun _ _ _ _ h => h) (by rfl) ⟨.int .i64 ((n + l[k].x.key.length + l[k].x.val.length : Nat) : Int), fun w' hx => by (go_simp <;> with_reducible rfl), ?_⟩
              simp only [Act.put, List.setIfInBounds_toArray, List.set_cons_zero, List.set_cons_succ]
              refine rg_take 15 rfl (by kernel_rfl) (by kernel_rfl) (by kernel_rfl) (fun _ _ _ _ h => h) (by rfl) ⟨_, fun w' hx => by (go_simp <;> with_reducible rfl), ?_⟩
              simp only [Act.put, List.setIfInBounds_toArray, List.set_cons_zero, List.set_cons_succ]
              refine rg_done (by kernel_rfl) ?_
              clear w1 w2
              go_wp2
              go_roundw
              case rel => exact ⟨k + 1, n + l[k].x.key.length + l[k].x.val.length, by omega, by omega, by go_num, rfl, by rw [Hs.out]; omega, by omega, hbd⟩
              case measure => simp [intOf]; omega
        · have d8 : decide ((n : Int) ≤ 8000) = false := by simp; omega
          by_cases hl60 : l.length ≤ 60
          · go_wp2
            go_ret
            exact ⟨false, rfl, (fun h => by cases h), hbw⟩
          · go_wp2
            go_ret
            exact ⟨false, rfl, (fun h => by cases h), hbw⟩
      · have hl60 : ¬ l.length ≤ 60 := by omega
        go_wp2
        go_ret
        exact ⟨false, rfl, (fun h => by cases h), hbw⟩
    · have hkl : k = l.length := by omega
      have htot : n = Ent.total m := by rw [Hn.out, List.take_of_length_le (by rw [Hml.out]; omega)]
      have Ht := Lib.hid htot
      clear htot
      by_cases hl60 : l.length ≤ 60
      · by_cases h8 : n ≤ 8000
        · have hkl2 : ¬ k < l.length := h
          have d8 : decide ((n : Int) ≤ 8000) = true := by simp; omega
          clear hkl
          go_wp2
          go_ret
          exact ⟨true, rfl, (fun _ => ⟨hl60, by rw [← HM.out, ← Ht.out]; exact h8⟩), hbw⟩
        · clear hkl
          have d8 : decide ((n : Int) ≤ 8000) = false := by simp; omega
          go_wp2
          go_ret
          exact ⟨false, rfl, (fun h => by cases h), hbw⟩
      · clear hkl
        go_wp2
        go_ret
        exact ⟨false, rfl, (fun h => by cases h), hbw⟩
end Go.Proofs.Ytgjielobfakkmaa
