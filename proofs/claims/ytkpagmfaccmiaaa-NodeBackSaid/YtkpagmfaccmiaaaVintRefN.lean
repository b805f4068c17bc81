
/- Contracts of the reference's functions for numbers in so many bytes (scowref01.Fixed, scowref01.Number), for seats without the rest of scowref01. -/

import Derived.Test.YtkpagmfaccmiaaaVintNum

namespace Go.Proofs.Ytkpagmfaccmiaaa

open Go.RowKit

attribute [local go_sem] Oper.semAt_some
theorem fixB_mod (n z k : Nat) (h : k < z) : Value.int .u8 (((n / 256 ^ k : Nat) : Int) % 256) = bv (Vint.fixB n z (z - 1 - k)) := by
  have h2 : z - 1 - (z - 1 - k) = k := by omega
  rw [byte0]
  unfold Vint.fixB
  rw [h2]
  rfl

end Go.Proofs.Ytkpagmfaccmiaaa
