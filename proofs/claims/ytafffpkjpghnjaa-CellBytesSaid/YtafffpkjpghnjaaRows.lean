/-
  No cell of these rows narrows 'for every input' (looked for: loops, veiled, ifaces, maps, wideKeys, modest, calm, conditions, laid).
  DERIVED. THE GIVEN ROWS OF THIS SEAT. 4 by the template 'for every input the law returns true; each argument reads behind the call as it read before'; 0 by the template 'total and deterministic' (their statements: YtafffpkjpghnjaaTotals.lean).
  GIVEN WITH THE SEED: the statements are not yours to turn. If you find one false, say at which input.
  Laid BY PROGRAM, IN A SANDBOX (cutbox-rows.mjs): the forced cells as the released guide's own fill.sh prints them over the translation 5952771c6a5347c2… (all of the seat's roots in one cut). By AI agents, Wed Nov 11 2026. No macro, syntax, notation, axiom, sorry.
-/
import Derived.Test.YtafffpkjpghnjaaChecked
import GoSem.Claim
import GoSem.ClaimJoined
import GoSem.ClaimMapViews
import Derived.JoinedTies
import Derived.KernelRfl
namespace Go.Proofs.Ytafffpkjpghnjaa
/- THE CELL 'sum', in the pinned program and in every row, IS THE sha256 OF THE DUMP (.gsa) THAT YtafffpkjpghnjaaProg.lean LOADS. Nothing in Lean hashes anything: it is a label: what it is worth is what the hold of that sum in a sandbox is worth. -/
noncomputable def Try.pinned : Pinned := { name := "ytafffpkjpghnjaa", sum := "5952771c6a5347c2fcb86fed79bdc7c75666d753d999416e729111147bdcf838", checked := Try.checked }
namespace Rows
def none {H : Type} : Left H := { results := [], args := [] }

/-- 'scowlaw07.CellLeaves': WHATEVER THE INPUT: true; the input reads as it did. -/
def cellLeavesSpec : ChangeSpec := { name := "cellLeaves", fn := fun _ => fun
  | [d1, d2] => { results := [.lit (.bool true)], args := [d1, d2] }
  | _ => none }
def cellLeavesRow : OpenClaim := { program := "ytafffpkjpghnjaa", sum := "5952771c6a5347c2fcb86fed79bdc7c75666d753d999416e729111147bdcf838", func := "scow/scowlaw07.CellLeaves", spec := "cellLeaves", unfollowed := true, recurses := true, apart := false }
def CellLeavesSaid : Prop := cellLeavesRow.holds Try.pinned (OpenSpec.ofChange cellLeavesSpec)

/-- ITS FALSE NEIGHBOUR: 'it returns false'. Refute it at one input. -/
def cellLeavesWrong : ChangeSpec := { name := "cellLeaves", fn := fun _ => fun
  | [d1, d2] => { results := [.lit (.bool false)], args := [d1, d2] }
  | _ => none }
def CellLeavesWrongFalsely : Prop := cellLeavesRow.holds Try.pinned (OpenSpec.ofChange cellLeavesWrong)

/-- 'scowlaw07.CellInners': WHATEVER THE INPUT: true; the input reads as it did. -/
def cellInnersSpec : ChangeSpec := { name := "cellInners", fn := fun _ => fun
  | [d1, d2, d3] => { results := [.lit (.bool true)], args := [d1, d2, d3] }
  | _ => none }
def cellInnersRow : OpenClaim := { program := "ytafffpkjpghnjaa", sum := "5952771c6a5347c2fcb86fed79bdc7c75666d753d999416e729111147bdcf838", func := "scow/scowlaw07.CellInners", spec := "cellInners", unfollowed := true, recurses := true, apart := false }
def CellInnersSaid : Prop := cellInnersRow.holds Try.pinned (OpenSpec.ofChange cellInnersSpec)

/-- ITS FALSE NEIGHBOUR: 'it returns false'. Refute it at one input. -/
def cellInnersWrong : ChangeSpec := { name := "cellInners", fn := fun _ => fun
  | [d1, d2, d3] => { results := [.lit (.bool false)], args := [d1, d2, d3] }
  | _ => none }
def CellInnersWrongFalsely : Prop := cellInnersRow.holds Try.pinned (OpenSpec.ofChange cellInnersWrong)

/-- 'scowlaw07.CellBack': WHATEVER THE INPUT: true; the input reads as it did. -/
def cellBackSpec : ChangeSpec := { name := "cellBack", fn := fun _ => fun
  | [d] => { results := [.lit (.bool true)], args := [d] }
  | _ => none }
def cellBackRow : OpenClaim := { program := "ytafffpkjpghnjaa", sum := "5952771c6a5347c2fcb86fed79bdc7c75666d753d999416e729111147bdcf838", func := "scow/scowlaw07.CellBack", spec := "cellBack", unfollowed := true, recurses := true, apart := false }
def CellBackSaid : Prop := cellBackRow.holds Try.pinned (OpenSpec.ofChange cellBackSpec)

/-- ITS FALSE NEIGHBOUR: 'it returns false'. Refute it at one input. -/
def cellBackWrong : ChangeSpec := { name := "cellBack", fn := fun _ => fun
  | [d] => { results := [.lit (.bool false)], args := [d] }
  | _ => none }
def CellBackWrongFalsely : Prop := cellBackRow.holds Try.pinned (OpenSpec.ofChange cellBackWrong)

/-- 'scowlaw07.CellBytes': WHATEVER THE INPUT: true; the input reads as it did. -/
def cellBytesSpec : ChangeSpec := { name := "cellBytes", fn := fun _ => fun
  | [d] => { results := [.lit (.bool true)], args := [d] }
  | _ => none }
def cellBytesRow : OpenClaim := { program := "ytafffpkjpghnjaa", sum := "5952771c6a5347c2fcb86fed79bdc7c75666d753d999416e729111147bdcf838", func := "scow/scowlaw07.CellBytes", spec := "cellBytes", unfollowed := true, recurses := true, apart := false }
def CellBytesSaid : Prop := cellBytesRow.holds Try.pinned (OpenSpec.ofChange cellBytesSpec)

/-- ITS FALSE NEIGHBOUR: 'it returns false'. Refute it at one input. -/
def cellBytesWrong : ChangeSpec := { name := "cellBytes", fn := fun _ => fun
  | [d] => { results := [.lit (.bool false)], args := [d] }
  | _ => none }
def CellBytesWrongFalsely : Prop := cellBytesRow.holds Try.pinned (OpenSpec.ofChange cellBytesWrong)

/- THE SECOND FORM. 'bulk': how many values and letters a reading holds, each counted each time it is reached (what is shared counts as often as it is met; a slice's spare places count too). A statement '..UptoSaid' is the law's where the arguments, and the package variables that the reading takes, are together of bulk at most 1048576: NARROWER than '..Said'. Prove '..Said' where nothing that the law and all that it calls make is longer than what came in: it says more and counts as full. Else prove '..UptoSaid'. A law counts once. -/
mutual
def uptoBulk {H : Type} : DataW H → Nat
  | .lit (.string bytes) => bytes.length + 1
  | .lit _ => 1
  | .nil => 1
  | .ptr d => uptoBulk d + 1
  | .slice elems spare => uptoBulkAll elems + uptoBulkAll spare + 1
  | .agg parts => uptoBulkAll parts + 1
  | .iface _ d => uptoBulk d + 1
  | .map entries => uptoBulkEntries entries + 1
  | .held _ => 1
def uptoBulkAll {H : Type} : List (DataW H) → Nat
  | [] => 0
  | d :: r => uptoBulk d + uptoBulkAll r
def uptoBulkEntries {H : Type} : List (Lit × DataW H) → Nat
  | [] => 0
  | x :: r => uptoBulkEntry x + uptoBulkEntries r
def uptoBulkEntry {H : Type} : Lit × DataW H → Nat
  | (.string bytes, d) => bytes.length + uptoBulk d + 1
  | (_, d) => uptoBulk d + 1
 end
def uptoSmall : (H : Type) → List (DataW H) → Bool := fun _ ds => decide (uptoBulkAll ds ≤ 1048576)
def OpenSpec.upto (s : _root_.Go.ChangeSpec) : _root_.Go.OpenSpec := { _root_.Go.OpenSpec.ofChange s with cond := some uptoSmall }

/-- 'scowlaw07.CellLeaves', WHERE WHAT IT READS IS OF BULK AT MOST 1048576: true; the input reads as it did. -/
def cellLeavesUptoRow : OpenClaim := { program := "ytafffpkjpghnjaa", sum := "5952771c6a5347c2fcb86fed79bdc7c75666d753d999416e729111147bdcf838", func := "scow/scowlaw07.CellLeaves", spec := "cellLeaves", unfollowed := true, recurses := true, apart := false, narrowed := true }
def CellLeavesUptoSaid : Prop := cellLeavesUptoRow.holds Try.pinned (OpenSpec.upto cellLeavesSpec)

/-- 'scowlaw07.CellInners', WHERE WHAT IT READS IS OF BULK AT MOST 1048576: true; the input reads as it did. -/
def cellInnersUptoRow : OpenClaim := { program := "ytafffpkjpghnjaa", sum := "5952771c6a5347c2fcb86fed79bdc7c75666d753d999416e729111147bdcf838", func := "scow/scowlaw07.CellInners", spec := "cellInners", unfollowed := true, recurses := true, apart := false, narrowed := true }
def CellInnersUptoSaid : Prop := cellInnersUptoRow.holds Try.pinned (OpenSpec.upto cellInnersSpec)

/-- 'scowlaw07.CellBack', WHERE WHAT IT READS IS OF BULK AT MOST 1048576: true; the input reads as it did. -/
def cellBackUptoRow : OpenClaim := { program := "ytafffpkjpghnjaa", sum := "5952771c6a5347c2fcb86fed79bdc7c75666d753d999416e729111147bdcf838", func := "scow/scowlaw07.CellBack", spec := "cellBack", unfollowed := true, recurses := true, apart := false, narrowed := true }
def CellBackUptoSaid : Prop := cellBackUptoRow.holds Try.pinned (OpenSpec.upto cellBackSpec)

/-- 'scowlaw07.CellBytes', WHERE WHAT IT READS IS OF BULK AT MOST 1048576: true; the input reads as it did. -/
def cellBytesUptoRow : OpenClaim := { program := "ytafffpkjpghnjaa", sum := "5952771c6a5347c2fcb86fed79bdc7c75666d753d999416e729111147bdcf838", func := "scow/scowlaw07.CellBytes", spec := "cellBytes", unfollowed := true, recurses := true, apart := false, narrowed := true }
def CellBytesUptoSaid : Prop := cellBytesUptoRow.holds Try.pinned (OpenSpec.upto cellBytesSpec)

end Rows
end Go.Proofs.Ytafffpkjpghnjaa
