
/- Contract: entries as they must be (the laws' fit). Printed by wip/tools/gen_spl18.py. -/

import Derived.Test.YtiiekdhlcmaabaaSplPlain

import Derived.Test.YtiiekdhlcmaabaaEntRise

namespace Go.Proofs.Ytiiekdhlcmaabaa

open Go.RowKit

attribute [local go_sem] Oper.semAt_some

/-- What fit says. -/
def FitPost (l : List EnV) (w : World) (e : Ending) (w' : World) : Prop := ∃ b : Bool, e = .returned (.bool b) ∧ (b = true → l.length ≤ 60 ∧ Fit l ∧ Rise (l.map EnV.x)) ∧ Below w.heap.size w w'
theorem rise_total {l : List Ent} (h : Rise l) : Ent.total l ≤ l.length * 1024 := by
  have each : ∀ e ∈ l, e.size ≤ 1024 := fun e he => by
    obtain ⟨k, hk, rfl⟩ := List.getElem_of_mem he
    have := h.ok k hk
    unfold Ent.size
    omega
  clear h
  induction l with
  | nil => simp [Ent.total]
  | cons a l ih =>
    rw [Ent.total_cons, List.length_cons]
    have h1 := each a (by simp)
    have h2 := ih fun e he => each e (by simp [he])
    omega
theorem rise_fit {l : List EnV} (h : Rise (l.map EnV.x)) (hl : l.length ≤ 60) : Fit l := by
  have := rise_total h
  rw [List.length_map] at this
  unfold Fit
  omega

set_option maxRecDepth 100000 in
set_option maxHeartbeats 2000000 in
theorem fit18 (A : Option Addr) (l : List EnV) (c : Nat) (w : World) (hl : RdE w A l) :
    Calls Try.prog 9 #[.slice A l.length c] w (FitPost l w) := by
  go_enter Try.func9, Try.ntmps9
  go_wp2
  go_loopw [3, 4] (fun v i wr => ∃ (k : Nat) (n : Int), k ≤ l.length ∧ k ≤ 61 ∧ i = .int .i64 k ∧ v = .int .i64 n ∧ Below w.heap.size w wr) (fun _ i _ => l.length - (intOf i).toNat)
  case atStart => exact ⟨0, 0, by omega, by omega, rfl, rfl, Below.refl _ _⟩
  case round =>
    obtain ⟨k, n, hk, hk61, rfl, rfl, hbw⟩ := hrel
    by_cases h : k < l.length
    · by_cases h60 : k ≤ 60
      · obtain ⟨ad, rfl, hcell, hin⟩ := (hl.below hbw).at_ h
        have k1 : wr.cell? _ = _ := key_at hcell
        have v1 : wr.cell? _ = _ := val_at hcell
        have ik : (0 : Int) ≤ (k : Int) := by omega
        have ik2 : (k : Int) < (l.length : Int) := by omega
        clear hcell
        by_cases a1 : 100 < l[k].x.key.length
        · go_wp2_with fail
          go_ret
          exact ⟨false, rfl, (fun h => by cases h), hbw⟩
        · by_cases a2 : 2000 < l[k].x.val.length
          · go_wp2_with fail
            go_ret
            exact ⟨false, rfl, (fun h => by cases h), hbw⟩
          · by_cases a3 : 8000 < n
            · go_wp2_with fail
              go_ret
              exact ⟨false, rfl, (fun h => by cases h), hbw⟩
            · go_wp2_with fail
              go_roundw
              case rel => exact ⟨k + 1, _, by omega, by omega, by go_num, rfl, hbw⟩
              case measure => simp [intOf]; omega
      · have hl60 : ¬ l.length ≤ 60 := by omega
        go_wp2
        go_ret
        exact ⟨false, rfl, (fun h => by cases h), hbw⟩
    · by_cases hl60 : l.length ≤ 60
      · have hR := ref_rising A l c wr (hl.below hbw) (by omega)
        have HR := Lib.hid hR
        clear hR
        go_wp2_with fail
        refine HR.out.mono ?_
        rintro e w2 ⟨b, rfl, hb, hb2⟩
        have HB := Lib.hid hb
        clear hb HR
        go_wp2_with fail
        go_ret
        exact ⟨b, rfl, (fun e => ⟨hl60, rise_fit (HB.out e) hl60, HB.out e⟩), hbw.trans (hb2.mono hbw.size)⟩
      · go_wp2
        go_ret
        exact ⟨false, rfl, (fun h => by cases h), hbw⟩
end Go.Proofs.Ytiiekdhlcmaabaa
