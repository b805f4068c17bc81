
/- Contracts: whether a key is in a range (entry.isIn, scowref17.In). -/

import Derived.Test.YtdekdblebflklaaCompare

import Derived.Test.YtdekdblebflklaaSl

import Derived.WalkLawsBesides

namespace Go.Proofs.Ytdekdblebflklaa

open Go.RowKit

attribute [local go_sem] Oper.semAt_some

theorem less_ltB : ∀ (a b : List UInt8), Op.bytesLess a b = ltB a b
  | [], [] => rfl
  | _ :: _, [] => rfl
  | [], _ :: _ => rfl
  | x :: a, y :: b => by
    unfold Op.bytesLess ltB
    rw [less_ltB a b]
    by_cases h1 : x < y
    · simp [h1]
    · by_cases h2 : y < x
      · have : ¬ x = y := fun e => by rw [e] at h2; exact absurd h2 (UInt8.lt_irrefl y)
        simp [h1, h2, this]
      · have : x = y := UInt8.le_antisymm (UInt8.not_lt.1 h2) (UInt8.not_lt.1 h1)
        simp [this, UInt8.lt_irrefl]
def inR (k lo hi : List UInt8) : Bool := !ltB k lo && (hi.isEmpty || ltB k hi)
theorem cmp_ge {a b : List UInt8} (h : ltB a b = false) : 0 ≤ Lib.compareBytes a b := by
  have := (compare_lt a b)
  rw [h] at this
  have h2 : ¬ Lib.compareBytes a b < 0 := fun h => by have := this.1 h; cases this
  omega
theorem cmp_lt {a b : List UInt8} (h : ltB a b = true) : Lib.compareBytes a b < 0 := (compare_lt a b).2 h

end Go.Proofs.Ytdekdblebflklaa
