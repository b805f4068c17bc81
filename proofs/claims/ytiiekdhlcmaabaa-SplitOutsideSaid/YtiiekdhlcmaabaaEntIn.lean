
/- Contracts: whether a key is in a range (entry.isIn, scowref17.In). -/

import Derived.Test.YtiiekdhlcmaabaaCompare

import Derived.Test.YtiiekdhlcmaabaaSl

import Derived.WalkLawsBesides

namespace Go.Proofs.Ytiiekdhlcmaabaa

open Go.RowKit

attribute [local go_sem] Oper.semAt_some

theorem less_ltB : ∀ (a b : List UInt8), Op.bytesLess a b = ltB a b
  | [], [] => rfl
  | _ :: _, [] => rfl
  | [], _ :: _ => rfl
  | x :: a, y :: b => by
    unfold Op.bytesLess ltB
    rw [less_ltB a b]
    by_cases h1 : x < y
    · simp [h1]
    · by_cases h2 : y < x
      · have : ¬ x = y := fun e => by rw [e] at h2; exact absurd h2 (UInt8.lt_irrefl y)
        simp [h1, h2, this]
      · have : x = y := UInt8.le_antisymm (UInt8.not_lt.1 h2) (UInt8.not_lt.1 h1)
        simp [this, UInt8.lt_irrefl]
def inR (k lo hi : List UInt8) : Bool := !ltB k lo && (hi.isEmpty || ltB k hi)
theorem cmp_ge {a b : List UInt8} (h : ltB a b = false) : 0 ≤ Lib.compareBytes a b := by
  have := (compare_lt a b)
  rw [h] at this
  have h2 : ¬ Lib.compareBytes a b < 0 := fun h => by have := this.1 h; cases this
  omega
theorem cmp_lt {a b : List UInt8} (h : ltB a b = true) : Lib.compareBytes a b < 0 := (compare_lt a b).2 h

set_option maxHeartbeats 400000 in
theorem isIn_any (K L H : Option Addr) (k lo hi : List UInt8) (ck cl ch : Nat) (w : World) (hK : RdB w K k) (hL : RdB w L lo) (hH : RdB w H hi) :
    Calls Try.prog 39 #[.slice K k.length ck, .slice L lo.length cl, .slice H hi.length ch] w fun e w' => e = .returned (.bool (inR k lo hi)) ∧ w = w' := by
  have c1 := compare_any K L k lo ck cl w hK hL
  have c2 := compare_any K H k hi ck ch w hK hH
  unfold inR
  cases h1 : ltB k lo with
  | true =>
    have n1 := cmp_lt h1
    generalize Lib.compareBytes k lo = x1 at *
    go_enter Try.func39, Try.ntmps39
    go_wp2_with fail
    refine c1.mono ?_
    rintro e w' ⟨rfl, rfl⟩
    go_wp2_with fail
    go_ret
    exact ⟨rfl, rfl⟩
  | false =>
    have n1 := cmp_ge h1
    generalize Lib.compareBytes k lo = x1 at *
    by_cases h0 : hi.length = 0
    · obtain rfl := List.eq_nil_of_length_eq_zero h0
      go_enter Try.func39, Try.ntmps39
      go_wp2_with fail
      refine c1.mono ?_
      rintro e w' ⟨rfl, rfl⟩
      go_wp2_with fail
      go_ret
      exact ⟨rfl, rfl⟩
    · have hz : ((hi.length : Int) == 0) = false := by rw [beq_eq_false_iff_ne]; omega
      have he : hi.isEmpty = false := by cases hi with | nil => exact absurd rfl h0 | cons _ _ => rfl
      rw [he]
      have He := Lib.hid he
      clear he
      cases h2 : ltB k hi with
      | true =>
        have n2 := cmp_lt h2
        generalize Lib.compareBytes k hi = x2 at *
        go_enter Try.func39, Try.ntmps39
        go_wp2_with fail
        refine c1.mono ?_
        rintro e w' ⟨rfl, rfl⟩
        go_wp2_with fail
        refine c2.mono ?_
        rintro e w' ⟨rfl, rfl⟩
        go_wp2_with fail
        go_ret
        exact ⟨rfl, rfl⟩
      | false =>
        have n2 := cmp_ge h2
        generalize Lib.compareBytes k hi = x2 at *
        go_enter Try.func39, Try.ntmps39
        go_wp2_with fail
        refine c1.mono ?_
        rintro e w' ⟨rfl, rfl⟩
        go_wp2_with fail
        refine c2.mono ?_
        rintro e w' ⟨rfl, rfl⟩
        go_wp2_with fail
        go_ret
        exact ⟨by simp; omega, rfl⟩

set_option maxHeartbeats 400000 in
theorem ref_In (K L H : Option Addr) (k lo hi : List UInt8) (ck cl ch : Nat) (w : World) (hK : RdB w K k) (hL : RdB w L lo) (hH : RdB w H hi) :
    Calls Try.prog 35 #[.slice K k.length ck, .slice L lo.length cl, .slice H hi.length ch] w fun e w' => e = .returned (.bool (inR k lo hi)) ∧ w = w' := by
  have r1 := run_str w 23 9 5 K k ck Try.underlying23 Try.underlying5 Try.underlying9 hK k.length rfl
  have r2 := run_str w 23 9 5 L lo cl Try.underlying23 Try.underlying5 Try.underlying9 hL lo.length rfl
  have r3 := run_str w 23 9 5 H hi ch Try.underlying23 Try.underlying5 Try.underlying9 hH hi.length rfl
  unfold inR
  cases h1 : ltB k lo with
  | true =>
    rw [← less_ltB] at h1
    go_enter Try.func35, Try.ntmps35
    go_wp2_with fail
    go_ret
    exact ⟨rfl, rfl⟩
  | false =>
    rw [← less_ltB] at h1
    by_cases h0 : hi.length = 0
    · obtain rfl := List.eq_nil_of_length_eq_zero h0
      go_enter Try.func35, Try.ntmps35
      go_wp2_with fail
      go_ret
      exact ⟨rfl, rfl⟩
    · have hz : ((hi.length : Int) == 0) = false := by rw [beq_eq_false_iff_ne]; omega
      have he : hi.isEmpty = false := by cases hi with | nil => exact absurd rfl h0 | cons _ _ => rfl
      rw [he]
      clear he
      cases h2 : ltB k hi with
      | true =>
        rw [← less_ltB] at h2
        go_enter Try.func35, Try.ntmps35
        go_wp2_with fail
        go_ret
        exact ⟨rfl, rfl⟩
      | false =>
        rw [← less_ltB] at h2
        go_enter Try.func35, Try.ntmps35
        go_wp2_with fail
        go_ret
        exact ⟨rfl, rfl⟩
end Go.Proofs.Ytiiekdhlcmaabaa
