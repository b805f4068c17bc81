
/- Contracts: the laws' fit, small, num (scowlaw20). Printed by wip/tools/gen_opsmall20.py. -/

import Derived.Test.YtdekdblebflklaaOpSame

namespace Go.Proofs.Ytdekdblebflklaa

open Go.RowKit

attribute [local go_sem] Oper.semAt_some

theorem num20 (v : Int) (w : World) : Calls Try.prog 23 #[.int .i64 v] w fun e w' => e = .returned (.int .i64 v) ∧ w = w' := by
  go_enter Try.func23, Try.ntmps23
  go_wp2
  go_ret
  exact ⟨rfl, rfl⟩
theorem Rise.upK {l : List EnV} (h : Rise (l.map EnV.x)) : UpK EnV.key l := UpK.of_up fun k hk => by
  have := h.up k (by simpa using hk)
  simpa [EnV.key] using this
/-- A truth that says something. -/
def BoolP (Q : Prop) (w : World) (e : Ending) (w' : World) : Prop := ∃ b : Bool, e = .returned (.bool b) ∧ (b = true → Q) ∧ Below w.heap.size w w'
def SmallO (l : List OpV) : Prop := l.length ≤ 60 ∧ ∀ e ∈ l, e.x.key.length ≤ 100 ∧ e.x.val.length ≤ 2000
def FitE (l : List EnV) : Prop := l.length ≤ 60 ∧ Rise (l.map EnV.x)
set_option maxRecDepth 100000 in
set_option maxHeartbeats 2000000 in
theorem small20 (A : Option Addr) (l : List OpV) (c : Nat) (w : World) (hl : RdO w A l) :
    Calls Try.prog 10 #[.slice A l.length c] w (BoolP (SmallO l) w) := by
  go_enter Try.func10, Try.ntmps10
  go_wp2
  go_loopw [3, 4] (fun v i wr => ∃ k n : Nat, k ≤ l.length ∧ k ≤ 61 ∧ i = .int .i64 k ∧ v = .int .i64 n ∧ n ≤ 10000 ∧ (∀ j (h : j < l.length), j < k → l[j].x.key.length ≤ 100 ∧ l[j].x.val.length ≤ 2000) ∧ Below w.heap.size w wr) (fun _ i _ => l.length - (intOf i).toNat)
  case atStart => exact ⟨0, 0, by omega, by omega, rfl, rfl, by omega, fun j _ h => absurd h (by omega), Below.refl _ _⟩
  case round =>
    obtain ⟨k, n, hk, hk61, rfl, rfl, hnb, hso, hbw⟩ := hrel
    have Hso := Lib.hid hso
    clear hso
    by_cases h : k < l.length
    · by_cases h60 : k ≤ 60
      · obtain ⟨ad, rfl, hy, hyi⟩ := (hl.below hbw).el h
        have ik : (0 : Int) ≤ (k : Int) := by omega
        have ik2 : (k : Int) < (l.length : Int) := by omega
        have y1 := hy.c1
        have y2 := hy.c2
        obtain ⟨y, hyl⟩ : ∃ y, l[k] = y := ⟨_, rfl⟩
        rw [hyl] at y1 y2
        have Hyl := Lib.hid hyl
        clear hyl hy
        have w1 : IntKind.i64.wrap ((n : Int) + (y.x.val.length : Int)) = (n : Int) + (y.x.val.length : Int) ∨ 2000 < y.x.val.length := by
          by_cases h9 : 2000 < y.x.val.length
          · exact .inr h9
          · left; rw [IntKind.wrap_i64]; omega
        by_cases a1 : 100 < y.x.key.length
        · go_wp2_with fail
          go_ret
          exact ⟨false, rfl, (fun h => by cases h), hbw⟩
        · by_cases a2 : 2000 < y.x.val.length
          · go_wp2_with fail
            go_ret
            exact ⟨false, rfl, (fun h => by cases h), hbw⟩
          · have w2 := w1.resolve_right a2
            clear w1
            by_cases a3 : 8000 < n
            · go_wp2_with fail
              go_ret
              exact ⟨false, rfl, (fun h => by cases h), hbw⟩
            · go_wp2_with fail
              go_roundw
              case rel =>
                refine ⟨k + 1, n + y.x.val.length, by omega, by omega, by go_num, by simp, by omega, fun j h1 h2 => ?_, hbw⟩
                by_cases e : j = k
                · subst e; rw [Hyl.out]; omega
                · exact Hso.out j h1 (by omega)
              case measure => simp [intOf]; omega
      · have hlong : ¬ l.length ≤ 60 := by omega
        go_wp2_with fail
        go_ret
        refine ⟨_, rfl, fun e => ?_, hbw⟩
        simp at e
        omega
    · obtain rfl : k = l.length := by omega
      by_cases h60 : l.length ≤ 60
      · go_wp2_with fail
        go_ret
        refine ⟨_, rfl, fun _ => ⟨h60, fun e he => ?_⟩, hbw⟩
        obtain ⟨j, hj, rfl⟩ := List.getElem_of_mem he
        exact Hso.out j hj hj
      · go_wp2_with fail
        go_ret
        refine ⟨_, rfl, fun e => ?_, hbw⟩
        simp at e
        omega
set_option maxRecDepth 100000 in
set_option maxHeartbeats 2000000 in
theorem fit20 (A : Option Addr) (l : List EnV) (c : Nat) (w : World) (hl : RdE w A l) :
    Calls Try.prog 9 #[.slice A l.length c] w (BoolP (FitE l) w) := by
  go_enter Try.func9, Try.ntmps9
  go_wp2
  go_loopw [3, 4] (fun v i wr => ∃ k n : Nat, k ≤ l.length ∧ k ≤ 61 ∧ i = .int .i64 k ∧ v = .int .i64 n ∧ n ≤ 10000 ∧ (∀ j (h : j < l.length), j < k → l[j].x.key.length ≤ 100 ∧ l[j].x.val.length ≤ 2000) ∧ Below w.heap.size w wr) (fun _ i _ => l.length - (intOf i).toNat)
  case atStart => exact ⟨0, 0, by omega, by omega, rfl, rfl, by omega, fun j _ h => absurd h (by omega), Below.refl _ _⟩
  case round =>
    obtain ⟨k, n, hk, hk61, rfl, rfl, hnb, hso, hbw⟩ := hrel
    have Hso := Lib.hid hso
    clear hso
    by_cases h : k < l.length
    · by_cases h60 : k ≤ 60
      · obtain ⟨ad, rfl, hcell, hyi⟩ := (hl.below hbw).at_ h
        have ik : (0 : Int) ≤ (k : Int) := by omega
        have ik2 : (k : Int) < (l.length : Int) := by omega
        have y1 : wr.cell? _ = _ := keyAt hcell
        have y2 : wr.cell? _ = _ := valAt hcell
        obtain ⟨y, hyl⟩ : ∃ y, l[k] = y := ⟨_, rfl⟩
        rw [hyl] at y1 y2
        have Hyl := Lib.hid hyl
        clear hyl hcell
        have w1 : IntKind.i64.wrap ((n : Int) + (y.x.val.length : Int)) = (n : Int) + (y.x.val.length : Int) ∨ 2000 < y.x.val.length := by
          by_cases h9 : 2000 < y.x.val.length
          · exact .inr h9
          · left; rw [IntKind.wrap_i64]; omega
        by_cases a1 : 100 < y.x.key.length
        · go_wp2_with fail
          go_ret
          exact ⟨false, rfl, (fun h => by cases h), hbw⟩
        · by_cases a2 : 2000 < y.x.val.length
          · go_wp2_with fail
            go_ret
            exact ⟨false, rfl, (fun h => by cases h), hbw⟩
          · have w2 := w1.resolve_right a2
            clear w1
            by_cases a3 : 8000 < n
            · go_wp2_with fail
              go_ret
              exact ⟨false, rfl, (fun h => by cases h), hbw⟩
            · go_wp2_with fail
              go_roundw
              case rel =>
                refine ⟨k + 1, n + y.x.val.length, by omega, by omega, by go_num, by simp, by omega, fun j h1 h2 => ?_, hbw⟩
                by_cases e : j = k
                · subst e; rw [Hyl.out]; omega
                · exact Hso.out j h1 (by omega)
              case measure => simp [intOf]; omega
      · have hlong : ¬ l.length ≤ 60 := by omega
        go_wp2_with fail
        go_ret
        exact ⟨false, rfl, (fun h => by cases h), hbw⟩
    · obtain rfl : k = l.length := by omega
      by_cases h60 : l.length ≤ 60
      · have HR := ref_rising A l c wr (hl.below hbw) (by omega)
        go_wp2_with (go_at_call 27; refine HR.mono ?_; rintro e2 w2 ⟨b, rfl, hb, hb2⟩)
        go_ret
        exact ⟨b, rfl, fun h => ⟨h60, hb h⟩, hbw.trans (hb2.mono hbw.size)⟩
      · go_wp2_with fail
        go_ret
        exact ⟨false, rfl, (fun h => by cases h), hbw⟩
end Go.Proofs.Ytdekdblebflklaa
