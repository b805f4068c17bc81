/- A cell as an argument; words for the laws on cells. -/
import Derived.Test.YtafffpkjpghnjaaCellLive
import Derived.Test.YtafffpkjpghnjaaFields
namespace Go.Proofs.Ytafffpkjpghnjaa
open Go.RowKit
section
open Go.ChangeShapes Go.WideShapes Go.ChangeAt Go.Joins
variable {H : Type} {enc : TypeId × Value → H} {W : World} {base : Nat} {spare : Nat → Bool} {held : Bool} {d : DataW H} {p : List MemPlace}
theorem open_Cell {r : Reach} {b0 : Nat} {v : Value} (hv : Value.okWide Try.prog W r b0 25 v) (h : DataW.Trod enc Try.prog W base spare held 25 v d p) : ∃ q : CellV, v = q.val ∧ q.In W := by
  obtain ⟨cs, rfl, hl, hf⟩ := open_fieldsV Try.underlying25 (by kernel_rfl) (by kernel_rfl) hv h
  match cs, hl with
  | [c0, c1, c2, c3, c4], _ =>
    obtain ⟨ka, key, kc, rfl, hkr, hkc⟩ := read_bytes Try.underlying22 Try.underlying5 (by kernel_rfl) (hf 0 _ _ rfl rfl)
    obtain ⟨size, rfl, h1, h2⟩ := read_i64 Try.underlying3 (hf 1 _ _ rfl rfl)
    obtain ⟨va, val, vc, rfl, hvr, hvc⟩ := read_bytes Try.underlying22 Try.underlying5 (by kernel_rfl) (hf 2 _ _ rfl rfl)
    obtain ⟨over, rfl, ho⟩ := read_u32 Try.underlying23 (hf 3 _ _ rfl rfl)
    obtain ⟨kid, rfl, hk⟩ := read_u32 Try.underlying23 (hf 4 _ _ rfl rfl)
    exact ⟨⟨ka, kc, va, vc, ⟨key, size, val, over, kid⟩⟩, rfl, ⟨ho, hk, h1, h2, hkr, hvr, hkc, hvc⟩⟩
end
theorem cinfo (X : CellV) : (Try.prog.info? 25).map (·.size) = some X.cells.size := by
  rw [show X.cells.size = 5 from rfl]; kernel_rfl
theorem cone (X : CellV) : X.cells.all (·.oneCell') = true := by simp [CellV.cells, Value.oneCell']
end Go.Proofs.Ytafffpkjpghnjaa
