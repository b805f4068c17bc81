
/- The bytes of a constant text: a block that is marked, its cells as they were. -/

import Derived.Test.YtkpagmfaccmiaaaGreatSl

import Derived.Lib.SlBytesConst

namespace Go.Proofs.YtkpagmfaccmiaaaGreat

open Go.RowKit

theorem convC {P : Program} {t e : TypeId} (ht : P.underlying t = some (.slice e)) (he : P.underlying e = some (.int .u8)) (w : World) (C : Array Value) (n c b : Nat) (hb : b = w.heap.size) :
    (convert t t (.slice (some ⟨b, 0, none⟩) n c)).run P (w.alloc (.cells C e)) = .ok (.slice (some ⟨b, 0, none⟩) n c) (w.alloc (.cells C e (C.size, C.size + 1))) := by
  subst hb
  exact Lib.run_convert_bytes_const w t e C n c ht he
theorem markBelow (w : World) (C : Array Value) (e : TypeId) (fr : Nat × Nat) (B : Nat) (hB : B ≤ w.heap.size) : Below B (w.alloc (.cells C e)) (w.alloc (.cells C e fr)) :=
  ⟨rfl, rfl, rfl, by simp, fun i hi => (((Below.refl w.heap.size w).alloc (Nat.le_refl _) (.cells C e fr)).block i (by omega)).trans (((Below.refl w.heap.size w).alloc (Nat.le_refl _) (.cells C e)).block i (by omega)).symm⟩
end Go.Proofs.YtkpagmfaccmiaaaGreat
