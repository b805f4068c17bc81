
/- Contract: bytes.Equal. -/

import Derived.Test.YtgfanklhihciaaaProg

import Derived.Test.YtgfanklhihciaaaMem

import Derived.MapKept

namespace Go.Proofs.Ytgfanklhihciaaa

open Go.RowKit

theorem bytes_eq (l m : List UInt8) : ((⟨l.toArray⟩ : ByteArray) == ⟨m.toArray⟩) = (l == m) := by
  rw [Bool.eq_iff_iff, Go.MapKept.bytes_beq, beq_iff_eq]
  constructor
  · intro e
    injection e with e
    simpa using congrArg Array.toList e
  · rintro rfl; rfl

end Go.Proofs.Ytgfanklhihciaaa
