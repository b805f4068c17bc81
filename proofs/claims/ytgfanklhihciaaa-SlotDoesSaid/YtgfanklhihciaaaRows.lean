/-
  No cell of these rows narrows 'for every input' (looked for: loops, veiled, ifaces, maps, wideKeys, modest, calm, conditions, laid).
  DERIVED. THE GIVEN ROWS OF THIS SEAT. 4 by the template 'for every input the law returns true; each argument reads behind the call as it read before'; 0 by the template 'total and deterministic' (their statements: YtgfanklhihciaaaTotals.lean).
  GIVEN WITH THE SEED: the statements are not yours to turn. If you find one false, say at which input.
  Laid BY PROGRAM, IN A SANDBOX (cutbox-rows.mjs): the forced cells as the released guide's own fill.sh prints them over the translation dfcbfe5b1488a5bc… (all of the seat's roots in one cut). By AI agents, Wed Nov 11 2026. No macro, syntax, notation, axiom, sorry.
-/
import Derived.Test.YtgfanklhihciaaaChecked
import GoSem.Claim
import GoSem.ClaimJoined
import GoSem.ClaimMapViews
import Derived.JoinedTies
import Derived.KernelRfl
namespace Go.Proofs.Ytgfanklhihciaaa
/- THE CELL 'sum', in the pinned program and in every row, IS THE sha256 OF THE DUMP (.gsa) THAT YtgfanklhihciaaaProg.lean LOADS. Nothing in Lean hashes anything: it is a label: what it is worth is what the hold of that sum in a sandbox is worth. -/
noncomputable def Try.pinned : Pinned := { name := "ytgfanklhihciaaa", sum := "dfcbfe5b1488a5bc3ed3132e73e358c3aec8c5bc3ce8c5e7aa6692d8cba3561f", checked := Try.checked }
namespace Rows
def none {H : Type} : Left H := { results := [], args := [] }

/-- 'scowlaw06.SlotDoes': WHATEVER THE INPUT: true; the input reads as it did. -/
def slotDoesSpec : ChangeSpec := { name := "slotDoes", fn := fun _ => fun
  | [d] => { results := [.lit (.bool true)], args := [d] }
  | _ => none }
def slotDoesRow : OpenClaim := { program := "ytgfanklhihciaaa", sum := "dfcbfe5b1488a5bc3ed3132e73e358c3aec8c5bc3ce8c5e7aa6692d8cba3561f", func := "scow/scowlaw06.SlotDoes", spec := "slotDoes", apart := false }
def SlotDoesSaid : Prop := slotDoesRow.holds Try.pinned (OpenSpec.ofChange slotDoesSpec)

/-- ITS FALSE NEIGHBOUR: 'it returns false'. Refute it at one input. -/
def slotDoesWrong : ChangeSpec := { name := "slotDoes", fn := fun _ => fun
  | [d] => { results := [.lit (.bool false)], args := [d] }
  | _ => none }
def SlotDoesWrongFalsely : Prop := slotDoesRow.holds Try.pinned (OpenSpec.ofChange slotDoesWrong)

/-- 'scowlaw06.SlotList': WHATEVER THE INPUT: true; the input reads as it did. -/
def slotListSpec : ChangeSpec := { name := "slotList", fn := fun _ => fun
  | [d] => { results := [.lit (.bool true)], args := [d] }
  | _ => none }
def slotListRow : OpenClaim := { program := "ytgfanklhihciaaa", sum := "dfcbfe5b1488a5bc3ed3132e73e358c3aec8c5bc3ce8c5e7aa6692d8cba3561f", func := "scow/scowlaw06.SlotList", spec := "slotList", apart := false }
def SlotListSaid : Prop := slotListRow.holds Try.pinned (OpenSpec.ofChange slotListSpec)

/-- ITS FALSE NEIGHBOUR: 'it returns false'. Refute it at one input. -/
def slotListWrong : ChangeSpec := { name := "slotList", fn := fun _ => fun
  | [d] => { results := [.lit (.bool false)], args := [d] }
  | _ => none }
def SlotListWrongFalsely : Prop := slotListRow.holds Try.pinned (OpenSpec.ofChange slotListWrong)

/-- 'scowlaw06.SlotBack': WHATEVER THE INPUT: true; the input reads as it did. -/
def slotBackSpec : ChangeSpec := { name := "slotBack", fn := fun _ => fun
  | [d] => { results := [.lit (.bool true)], args := [d] }
  | _ => none }
def slotBackRow : OpenClaim := { program := "ytgfanklhihciaaa", sum := "dfcbfe5b1488a5bc3ed3132e73e358c3aec8c5bc3ce8c5e7aa6692d8cba3561f", func := "scow/scowlaw06.SlotBack", spec := "slotBack", apart := false }
def SlotBackSaid : Prop := slotBackRow.holds Try.pinned (OpenSpec.ofChange slotBackSpec)

/-- ITS FALSE NEIGHBOUR: 'it returns false'. Refute it at one input. -/
def slotBackWrong : ChangeSpec := { name := "slotBack", fn := fun _ => fun
  | [d] => { results := [.lit (.bool false)], args := [d] }
  | _ => none }
def SlotBackWrongFalsely : Prop := slotBackRow.holds Try.pinned (OpenSpec.ofChange slotBackWrong)

/-- 'scowlaw06.SlotNil': WHATEVER THE INPUT: true; the input reads as it did. -/
def slotNilSpec : ChangeSpec := { name := "slotNil", fn := fun _ => fun
  | [d] => { results := [.lit (.bool true)], args := [d] }
  | _ => none }
def slotNilRow : OpenClaim := { program := "ytgfanklhihciaaa", sum := "dfcbfe5b1488a5bc3ed3132e73e358c3aec8c5bc3ce8c5e7aa6692d8cba3561f", func := "scow/scowlaw06.SlotNil", spec := "slotNil", apart := false }
def SlotNilSaid : Prop := slotNilRow.holds Try.pinned (OpenSpec.ofChange slotNilSpec)

/-- ITS FALSE NEIGHBOUR: 'it returns false'. Refute it at one input. -/
def slotNilWrong : ChangeSpec := { name := "slotNil", fn := fun _ => fun
  | [d] => { results := [.lit (.bool false)], args := [d] }
  | _ => none }
def SlotNilWrongFalsely : Prop := slotNilRow.holds Try.pinned (OpenSpec.ofChange slotNilWrong)

/- THE SECOND FORM. 'bulk': how many values and letters a reading holds, each counted each time it is reached (what is shared counts as often as it is met; a slice's spare places count too). A statement '..UptoSaid' is the law's where the arguments, and the package variables that the reading takes, are together of bulk at most 1048576: NARROWER than '..Said'. Prove '..Said' where nothing that the law and all that it calls make is longer than what came in: it says more and counts as full. Else prove '..UptoSaid'. A law counts once. -/
mutual
def uptoBulk {H : Type} : DataW H → Nat
  | .lit (.string bytes) => bytes.length + 1
  | .lit _ => 1
  | .nil => 1
  | .ptr d => uptoBulk d + 1
  | .slice elems spare => uptoBulkAll elems + uptoBulkAll spare + 1
  | .agg parts => uptoBulkAll parts + 1
  | .iface _ d => uptoBulk d + 1
  | .map entries => uptoBulkEntries entries + 1
  | .held _ => 1
def uptoBulkAll {H : Type} : List (DataW H) → Nat
  | [] => 0
  | d :: r => uptoBulk d + uptoBulkAll r
def uptoBulkEntries {H : Type} : List (Lit × DataW H) → Nat
  | [] => 0
  | x :: r => uptoBulkEntry x + uptoBulkEntries r
def uptoBulkEntry {H : Type} : Lit × DataW H → Nat
  | (.string bytes, d) => bytes.length + uptoBulk d + 1
  | (_, d) => uptoBulk d + 1
 end
def uptoSmall : (H : Type) → List (DataW H) → Bool := fun _ ds => decide (uptoBulkAll ds ≤ 1048576)
def OpenSpec.upto (s : _root_.Go.ChangeSpec) : _root_.Go.OpenSpec := { _root_.Go.OpenSpec.ofChange s with cond := some uptoSmall }

/-- 'scowlaw06.SlotDoes', WHERE WHAT IT READS IS OF BULK AT MOST 1048576: true; the input reads as it did. -/
def slotDoesUptoRow : OpenClaim := { program := "ytgfanklhihciaaa", sum := "dfcbfe5b1488a5bc3ed3132e73e358c3aec8c5bc3ce8c5e7aa6692d8cba3561f", func := "scow/scowlaw06.SlotDoes", spec := "slotDoes", apart := false, narrowed := true }
def SlotDoesUptoSaid : Prop := slotDoesUptoRow.holds Try.pinned (OpenSpec.upto slotDoesSpec)

/-- 'scowlaw06.SlotList', WHERE WHAT IT READS IS OF BULK AT MOST 1048576: true; the input reads as it did. -/
def slotListUptoRow : OpenClaim := { program := "ytgfanklhihciaaa", sum := "dfcbfe5b1488a5bc3ed3132e73e358c3aec8c5bc3ce8c5e7aa6692d8cba3561f", func := "scow/scowlaw06.SlotList", spec := "slotList", apart := false, narrowed := true }
def SlotListUptoSaid : Prop := slotListUptoRow.holds Try.pinned (OpenSpec.upto slotListSpec)

/-- 'scowlaw06.SlotBack', WHERE WHAT IT READS IS OF BULK AT MOST 1048576: true; the input reads as it did. -/
def slotBackUptoRow : OpenClaim := { program := "ytgfanklhihciaaa", sum := "dfcbfe5b1488a5bc3ed3132e73e358c3aec8c5bc3ce8c5e7aa6692d8cba3561f", func := "scow/scowlaw06.SlotBack", spec := "slotBack", apart := false, narrowed := true }
def SlotBackUptoSaid : Prop := slotBackUptoRow.holds Try.pinned (OpenSpec.upto slotBackSpec)

/-- 'scowlaw06.SlotNil', WHERE WHAT IT READS IS OF BULK AT MOST 1048576: true; the input reads as it did. -/
def slotNilUptoRow : OpenClaim := { program := "ytgfanklhihciaaa", sum := "dfcbfe5b1488a5bc3ed3132e73e358c3aec8c5bc3ce8c5e7aa6692d8cba3561f", func := "scow/scowlaw06.SlotNil", spec := "slotNil", apart := false, narrowed := true }
def SlotNilUptoSaid : Prop := slotNilUptoRow.holds Try.pinned (OpenSpec.upto slotNilSpec)

end Rows
end Go.Proofs.Ytgfanklhihciaaa
