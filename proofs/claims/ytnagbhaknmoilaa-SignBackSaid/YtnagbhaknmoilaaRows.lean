/-
  No cell of these rows narrows 'for every input' (looked for: loops, veiled, ifaces, maps, wideKeys, modest, calm, conditions, laid).
  DERIVED. THE GIVEN ROWS OF THIS SEAT. 3 by the template 'for every input the law returns true; each argument reads behind the call as it read before'; 0 by the template 'total and deterministic' (their statements: YtnagbhaknmoilaaTotals.lean).
  GIVEN WITH THE SEED: the statements are not yours to turn. If you find one false, say at which input.
  Laid BY PROGRAM, IN A SANDBOX (cutbox-rows.mjs): the forced cells as the released guide's own fill.sh prints them over the translation d6e14ec6b4b004e7… (all of the seat's roots in one cut). By AI agents, Wed Nov 11 2026. No macro, syntax, notation, axiom, sorry.
-/
import Derived.Test.YtnagbhaknmoilaaChecked
import GoSem.Claim
import GoSem.ClaimJoined
import GoSem.ClaimMapViews
import Derived.JoinedTies
import Derived.KernelRfl
namespace Go.Proofs.Ytnagbhaknmoilaa
/- THE CELL 'sum', in the pinned program and in every row, IS THE sha256 OF THE DUMP (.gsa) THAT YtnagbhaknmoilaaProg.lean LOADS. Nothing in Lean hashes anything: it is a label: what it is worth is what the hold of that sum in a sandbox is worth. -/
noncomputable def Try.pinned : Pinned := { name := "ytnagbhaknmoilaa", sum := "d6e14ec6b4b004e7715987d0d35ae9113a763e08f053938f247d982d1e471d9b", checked := Try.checked }
namespace Rows
def none {H : Type} : Left H := { results := [], args := [] }

/-- 'scowlaw22.SignTables': WHATEVER THE INPUT: true; the input reads as it did. -/
def signTablesSpec : ChangeSpec := { name := "signTables", fn := fun _ => fun
  | [d1, d2, d3] => { results := [.lit (.bool true)], args := [d1, d2, d3] }
  | _ => none }
def signTablesRow : OpenClaim := { program := "ytnagbhaknmoilaa", sum := "d6e14ec6b4b004e7715987d0d35ae9113a763e08f053938f247d982d1e471d9b", func := "scow/scowlaw22.SignTables", spec := "signTables", unfollowed := true, recurses := true, apart := false }
def SignTablesSaid : Prop := signTablesRow.holds Try.pinned (OpenSpec.ofChange signTablesSpec)

/-- ITS FALSE NEIGHBOUR: 'it returns false'. Refute it at one input. -/
def signTablesWrong : ChangeSpec := { name := "signTables", fn := fun _ => fun
  | [d1, d2, d3] => { results := [.lit (.bool false)], args := [d1, d2, d3] }
  | _ => none }
def SignTablesWrongFalsely : Prop := signTablesRow.holds Try.pinned (OpenSpec.ofChange signTablesWrong)

/-- 'scowlaw22.SignFinds': WHATEVER THE INPUT: true; the input reads as it did. -/
def signFindsSpec : ChangeSpec := { name := "signFinds", fn := fun _ => fun
  | [d1, d2, d3] => { results := [.lit (.bool true)], args := [d1, d2, d3] }
  | _ => none }
def signFindsRow : OpenClaim := { program := "ytnagbhaknmoilaa", sum := "d6e14ec6b4b004e7715987d0d35ae9113a763e08f053938f247d982d1e471d9b", func := "scow/scowlaw22.SignFinds", spec := "signFinds", unfollowed := true, recurses := true, apart := false }
def SignFindsSaid : Prop := signFindsRow.holds Try.pinned (OpenSpec.ofChange signFindsSpec)

/-- ITS FALSE NEIGHBOUR: 'it returns false'. Refute it at one input. -/
def signFindsWrong : ChangeSpec := { name := "signFinds", fn := fun _ => fun
  | [d1, d2, d3] => { results := [.lit (.bool false)], args := [d1, d2, d3] }
  | _ => none }
def SignFindsWrongFalsely : Prop := signFindsRow.holds Try.pinned (OpenSpec.ofChange signFindsWrong)

/-- 'scowlaw22.SignBack': WHATEVER THE INPUT: true; the input reads as it did. -/
def signBackSpec : ChangeSpec := { name := "signBack", fn := fun _ => fun
  | [d1, d2] => { results := [.lit (.bool true)], args := [d1, d2] }
  | _ => none }
def signBackRow : OpenClaim := { program := "ytnagbhaknmoilaa", sum := "d6e14ec6b4b004e7715987d0d35ae9113a763e08f053938f247d982d1e471d9b", func := "scow/scowlaw22.SignBack", spec := "signBack", unfollowed := true, recurses := true, apart := false }
def SignBackSaid : Prop := signBackRow.holds Try.pinned (OpenSpec.ofChange signBackSpec)

/-- ITS FALSE NEIGHBOUR: 'it returns false'. Refute it at one input. -/
def signBackWrong : ChangeSpec := { name := "signBack", fn := fun _ => fun
  | [d1, d2] => { results := [.lit (.bool false)], args := [d1, d2] }
  | _ => none }
def SignBackWrongFalsely : Prop := signBackRow.holds Try.pinned (OpenSpec.ofChange signBackWrong)

/- THE SECOND FORM. 'bulk': how many values and letters a reading holds, each counted each time it is reached (what is shared counts as often as it is met; a slice's spare places count too). A statement '..UptoSaid' is the law's where the arguments, and the package variables that the reading takes, are together of bulk at most 1048576: NARROWER than '..Said'. Prove '..Said' where nothing that the law and all that it calls make is longer than what came in: it says more and counts as full. Else prove '..UptoSaid'. A law counts once. -/
mutual
def uptoBulk {H : Type} : DataW H → Nat
  | .lit (.string bytes) => bytes.length + 1
  | .lit _ => 1
  | .nil => 1
  | .ptr d => uptoBulk d + 1
  | .slice elems spare => uptoBulkAll elems + uptoBulkAll spare + 1
  | .agg parts => uptoBulkAll parts + 1
  | .iface _ d => uptoBulk d + 1
  | .map entries => uptoBulkEntries entries + 1
  | .held _ => 1
def uptoBulkAll {H : Type} : List (DataW H) → Nat
  | [] => 0
  | d :: r => uptoBulk d + uptoBulkAll r
def uptoBulkEntries {H : Type} : List (Lit × DataW H) → Nat
  | [] => 0
  | x :: r => uptoBulkEntry x + uptoBulkEntries r
def uptoBulkEntry {H : Type} : Lit × DataW H → Nat
  | (.string bytes, d) => bytes.length + uptoBulk d + 1
  | (_, d) => uptoBulk d + 1
 end
def uptoSmall : (H : Type) → List (DataW H) → Bool := fun _ ds => decide (uptoBulkAll ds ≤ 1048576)
def OpenSpec.upto (s : _root_.Go.ChangeSpec) : _root_.Go.OpenSpec := { _root_.Go.OpenSpec.ofChange s with cond := some uptoSmall }

/-- 'scowlaw22.SignTables', WHERE WHAT IT READS IS OF BULK AT MOST 1048576: true; the input reads as it did. -/
def signTablesUptoRow : OpenClaim := { program := "ytnagbhaknmoilaa", sum := "d6e14ec6b4b004e7715987d0d35ae9113a763e08f053938f247d982d1e471d9b", func := "scow/scowlaw22.SignTables", spec := "signTables", unfollowed := true, recurses := true, apart := false, narrowed := true }
def SignTablesUptoSaid : Prop := signTablesUptoRow.holds Try.pinned (OpenSpec.upto signTablesSpec)

/-- 'scowlaw22.SignFinds', WHERE WHAT IT READS IS OF BULK AT MOST 1048576: true; the input reads as it did. -/
def signFindsUptoRow : OpenClaim := { program := "ytnagbhaknmoilaa", sum := "d6e14ec6b4b004e7715987d0d35ae9113a763e08f053938f247d982d1e471d9b", func := "scow/scowlaw22.SignFinds", spec := "signFinds", unfollowed := true, recurses := true, apart := false, narrowed := true }
def SignFindsUptoSaid : Prop := signFindsUptoRow.holds Try.pinned (OpenSpec.upto signFindsSpec)

/-- 'scowlaw22.SignBack', WHERE WHAT IT READS IS OF BULK AT MOST 1048576: true; the input reads as it did. -/
def signBackUptoRow : OpenClaim := { program := "ytnagbhaknmoilaa", sum := "d6e14ec6b4b004e7715987d0d35ae9113a763e08f053938f247d982d1e471d9b", func := "scow/scowlaw22.SignBack", spec := "signBack", unfollowed := true, recurses := true, apart := false, narrowed := true }
def SignBackUptoSaid : Prop := signBackUptoRow.holds Try.pinned (OpenSpec.upto signBackSpec)

end Rows
end Go.Proofs.Ytnagbhaknmoilaa
