
/- Contract: bytes.Equal. -/

import Derived.Test.YtkpagmfaccmiaaaGreatProg

import Derived.Test.YtkpagmfaccmiaaaGreatMem

import Derived.MapKept

namespace Go.Proofs.YtkpagmfaccmiaaaGreat

open Go.RowKit

theorem bytes_eq (l m : List UInt8) : ((⟨l.toArray⟩ : ByteArray) == ⟨m.toArray⟩) = (l == m) := by
  rw [Bool.eq_iff_iff, Go.MapKept.bytes_beq, beq_iff_eq]
  constructor
  · intro e
    injection e with e
    simpa using congrArg Array.toList e
  · rintro rfl; rfl

set_option maxRecDepth 100000 in
set_option maxHeartbeats 1000000 in
theorem equal_any (A B : Option Addr) (p q : List UInt8) (c d : Nat) (w : World) (hA : RdB w A p) (hB : RdB w B q) :
    Calls Tryz.prog 25 #[.slice A p.length c, .slice B q.length d] w fun e w' => e = .returned (.bool (p == q)) ∧ w = w' := by
  have r1 := run_str w 25 9 5 A p c Tryz.underlying25 Tryz.underlying5 Tryz.underlying9 hA p.length rfl
  have r2 := run_str w 25 9 5 B q d Tryz.underlying25 Tryz.underlying5 Tryz.underlying9 hB q.length rfl
  have Heq := Lib.hid (bytes_eq p q)
  go_enter Tryz.func25, Tryz.ntmps25
  go_wp2
  go_ret
  exact ⟨by rw [← Heq.out]; rfl, rfl⟩

end Go.Proofs.YtkpagmfaccmiaaaGreat
