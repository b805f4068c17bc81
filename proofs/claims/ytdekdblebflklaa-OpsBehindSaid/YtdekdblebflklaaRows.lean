/-
  No cell of these rows narrows 'for every input' (looked for: loops, veiled, ifaces, maps, wideKeys, modest, calm, conditions, laid).
  DERIVED. THE GIVEN ROWS OF THIS SEAT. 6 by the template 'for every input the law returns true; each argument reads behind the call as it read before'; 0 by the template 'total and deterministic' (their statements: YtdekdblebflklaaTotals.lean).
  GIVEN WITH THE SEED: the statements are not yours to turn. If you find one false, say at which input.
  Laid BY PROGRAM, IN A SANDBOX (cutbox-rows.mjs): the forced cells as the released guide's own fill.sh prints them over the translation 96855aa034f9c1f4… (all of the seat's roots in one cut). By AI agents, Wed Nov 11 2026. No macro, syntax, notation, axiom, sorry.
-/
import Derived.Test.YtdekdblebflklaaChecked
import GoSem.Claim
import GoSem.ClaimJoined
import GoSem.ClaimMapViews
import Derived.JoinedTies
import Derived.KernelRfl
namespace Go.Proofs.Ytdekdblebflklaa
/- THE CELL 'sum', in the pinned program and in every row, IS THE sha256 OF THE DUMP (.gsa) THAT YtdekdblebflklaaProg.lean LOADS. Nothing in Lean hashes anything: it is a label: what it is worth is what the hold of that sum in a sandbox is worth. -/
noncomputable def Try.pinned : Pinned := { name := "ytdekdblebflklaa", sum := "96855aa034f9c1f484d5f4eaa49657f31dc73e0ae7fc66cdaacf6d2ca13f56d1", checked := Try.checked }
namespace Rows
def none {H : Type} : Left H := { results := [], args := [] }

/-- 'scowlaw20.OpsDiff': WHATEVER THE INPUT: true; the input reads as it did. -/
def opsDiffSpec : ChangeSpec := { name := "opsDiff", fn := fun _ => fun
  | [d1, d2, d3] => { results := [.lit (.bool true)], args := [d1, d2, d3] }
  | _ => none }
def opsDiffRow : OpenClaim := { program := "ytdekdblebflklaa", sum := "96855aa034f9c1f484d5f4eaa49657f31dc73e0ae7fc66cdaacf6d2ca13f56d1", func := "scow/scowlaw20.OpsDiff", spec := "opsDiff", inPlace := ["internal/bytealg.Compare", "slices.overlaps[scow/api.Entry]"], unfollowed := true, recurses := true, apart := false }
def OpsDiffSaid : Prop := opsDiffRow.holds Try.pinned (OpenSpec.ofChange opsDiffSpec)

/-- ITS FALSE NEIGHBOUR: 'it returns false'. Refute it at one input. -/
def opsDiffWrong : ChangeSpec := { name := "opsDiff", fn := fun _ => fun
  | [d1, d2, d3] => { results := [.lit (.bool false)], args := [d1, d2, d3] }
  | _ => none }
def OpsDiffWrongFalsely : Prop := opsDiffRow.holds Try.pinned (OpenSpec.ofChange opsDiffWrong)

/-- 'scowlaw20.OpsTexts': WHATEVER THE INPUT: true; the input reads as it did. -/
def opsTextsSpec : ChangeSpec := { name := "opsTexts", fn := fun _ => fun
  | [d1, d2] => { results := [.lit (.bool true)], args := [d1, d2] }
  | _ => none }
def opsTextsRow : OpenClaim := { program := "ytdekdblebflklaa", sum := "96855aa034f9c1f484d5f4eaa49657f31dc73e0ae7fc66cdaacf6d2ca13f56d1", func := "scow/scowlaw20.OpsTexts", spec := "opsTexts", inPlace := ["internal/bytealg.Compare", "slices.overlaps[scow/api.Entry]"], unfollowed := true, recurses := true, apart := false }
def OpsTextsSaid : Prop := opsTextsRow.holds Try.pinned (OpenSpec.ofChange opsTextsSpec)

/-- ITS FALSE NEIGHBOUR: 'it returns false'. Refute it at one input. -/
def opsTextsWrong : ChangeSpec := { name := "opsTexts", fn := fun _ => fun
  | [d1, d2] => { results := [.lit (.bool false)], args := [d1, d2] }
  | _ => none }
def OpsTextsWrongFalsely : Prop := opsTextsRow.holds Try.pinned (OpenSpec.ofChange opsTextsWrong)

/-- 'scowlaw20.OpsJust': WHATEVER THE INPUT: true; the input reads as it did. -/
def opsJustSpec : ChangeSpec := { name := "opsJust", fn := fun _ => fun
  | [d1, d2, d3] => { results := [.lit (.bool true)], args := [d1, d2, d3] }
  | _ => none }
def opsJustRow : OpenClaim := { program := "ytdekdblebflklaa", sum := "96855aa034f9c1f484d5f4eaa49657f31dc73e0ae7fc66cdaacf6d2ca13f56d1", func := "scow/scowlaw20.OpsJust", spec := "opsJust", inPlace := ["internal/bytealg.Compare", "slices.overlaps[scow/api.Entry]"], unfollowed := true, recurses := true, apart := false }
def OpsJustSaid : Prop := opsJustRow.holds Try.pinned (OpenSpec.ofChange opsJustSpec)

/-- ITS FALSE NEIGHBOUR: 'it returns false'. Refute it at one input. -/
def opsJustWrong : ChangeSpec := { name := "opsJust", fn := fun _ => fun
  | [d1, d2, d3] => { results := [.lit (.bool false)], args := [d1, d2, d3] }
  | _ => none }
def OpsJustWrongFalsely : Prop := opsJustRow.holds Try.pinned (OpenSpec.ofChange opsJustWrong)

/-- 'scowlaw20.OpsBack': WHATEVER THE INPUT: true; the input reads as it did. -/
def opsBackSpec : ChangeSpec := { name := "opsBack", fn := fun _ => fun
  | [d1, d2] => { results := [.lit (.bool true)], args := [d1, d2] }
  | _ => none }
def opsBackRow : OpenClaim := { program := "ytdekdblebflklaa", sum := "96855aa034f9c1f484d5f4eaa49657f31dc73e0ae7fc66cdaacf6d2ca13f56d1", func := "scow/scowlaw20.OpsBack", spec := "opsBack", inPlace := ["internal/bytealg.Compare", "slices.overlaps[scow/api.Entry]"], unfollowed := true, recurses := true, apart := false }
def OpsBackSaid : Prop := opsBackRow.holds Try.pinned (OpenSpec.ofChange opsBackSpec)

/-- ITS FALSE NEIGHBOUR: 'it returns false'. Refute it at one input. -/
def opsBackWrong : ChangeSpec := { name := "opsBack", fn := fun _ => fun
  | [d1, d2] => { results := [.lit (.bool false)], args := [d1, d2] }
  | _ => none }
def OpsBackWrongFalsely : Prop := opsBackRow.holds Try.pinned (OpenSpec.ofChange opsBackWrong)

/-- 'scowlaw20.OpsMerged': WHATEVER THE INPUT: true; the input reads as it did. -/
def opsMergedSpec : ChangeSpec := { name := "opsMerged", fn := fun _ => fun
  | [d1, d2, d3] => { results := [.lit (.bool true)], args := [d1, d2, d3] }
  | _ => none }
def opsMergedRow : OpenClaim := { program := "ytdekdblebflklaa", sum := "96855aa034f9c1f484d5f4eaa49657f31dc73e0ae7fc66cdaacf6d2ca13f56d1", func := "scow/scowlaw20.OpsMerged", spec := "opsMerged", inPlace := ["internal/bytealg.Compare", "slices.overlaps[scow/api.Entry]", "slices.overlaps[scow/api.Op]"], unfollowed := true, recurses := true, apart := false }
def OpsMergedSaid : Prop := opsMergedRow.holds Try.pinned (OpenSpec.ofChange opsMergedSpec)

/-- ITS FALSE NEIGHBOUR: 'it returns false'. Refute it at one input. -/
def opsMergedWrong : ChangeSpec := { name := "opsMerged", fn := fun _ => fun
  | [d1, d2, d3] => { results := [.lit (.bool false)], args := [d1, d2, d3] }
  | _ => none }
def OpsMergedWrongFalsely : Prop := opsMergedRow.holds Try.pinned (OpenSpec.ofChange opsMergedWrong)

/-- 'scowlaw20.OpsBehind': WHATEVER THE INPUT: true; the input reads as it did. -/
def opsBehindSpec : ChangeSpec := { name := "opsBehind", fn := fun _ => fun
  | [d1, d2, d3] => { results := [.lit (.bool true)], args := [d1, d2, d3] }
  | _ => none }
def opsBehindRow : OpenClaim := { program := "ytdekdblebflklaa", sum := "96855aa034f9c1f484d5f4eaa49657f31dc73e0ae7fc66cdaacf6d2ca13f56d1", func := "scow/scowlaw20.OpsBehind", spec := "opsBehind", inPlace := ["internal/bytealg.Compare", "slices.overlaps[scow/api.Entry]", "slices.overlaps[scow/api.Op]"], unfollowed := true, recurses := true, apart := false }
def OpsBehindSaid : Prop := opsBehindRow.holds Try.pinned (OpenSpec.ofChange opsBehindSpec)

/-- ITS FALSE NEIGHBOUR: 'it returns false'. Refute it at one input. -/
def opsBehindWrong : ChangeSpec := { name := "opsBehind", fn := fun _ => fun
  | [d1, d2, d3] => { results := [.lit (.bool false)], args := [d1, d2, d3] }
  | _ => none }
def OpsBehindWrongFalsely : Prop := opsBehindRow.holds Try.pinned (OpenSpec.ofChange opsBehindWrong)

/- THE SECOND FORM. 'bulk': how many values and letters a reading holds, each counted each time it is reached (what is shared counts as often as it is met; a slice's spare places count too). A statement '..UptoSaid' is the law's where the arguments, and the package variables that the reading takes, are together of bulk at most 1048576: NARROWER than '..Said'. Prove '..Said' where nothing that the law and all that it calls make is longer than what came in: it says more and counts as full. Else prove '..UptoSaid'. A law counts once. -/
mutual
def uptoBulk {H : Type} : DataW H → Nat
  | .lit (.string bytes) => bytes.length + 1
  | .lit _ => 1
  | .nil => 1
  | .ptr d => uptoBulk d + 1
  | .slice elems spare => uptoBulkAll elems + uptoBulkAll spare + 1
  | .agg parts => uptoBulkAll parts + 1
  | .iface _ d => uptoBulk d + 1
  | .map entries => uptoBulkEntries entries + 1
  | .held _ => 1
def uptoBulkAll {H : Type} : List (DataW H) → Nat
  | [] => 0
  | d :: r => uptoBulk d + uptoBulkAll r
def uptoBulkEntries {H : Type} : List (Lit × DataW H) → Nat
  | [] => 0
  | x :: r => uptoBulkEntry x + uptoBulkEntries r
def uptoBulkEntry {H : Type} : Lit × DataW H → Nat
  | (.string bytes, d) => bytes.length + uptoBulk d + 1
  | (_, d) => uptoBulk d + 1
 end
def uptoSmall : (H : Type) → List (DataW H) → Bool := fun _ ds => decide (uptoBulkAll ds ≤ 1048576)
def OpenSpec.upto (s : _root_.Go.ChangeSpec) : _root_.Go.OpenSpec := { _root_.Go.OpenSpec.ofChange s with cond := some uptoSmall }

/-- 'scowlaw20.OpsDiff', WHERE WHAT IT READS IS OF BULK AT MOST 1048576: true; the input reads as it did. -/
def opsDiffUptoRow : OpenClaim := { program := "ytdekdblebflklaa", sum := "96855aa034f9c1f484d5f4eaa49657f31dc73e0ae7fc66cdaacf6d2ca13f56d1", func := "scow/scowlaw20.OpsDiff", spec := "opsDiff", inPlace := ["internal/bytealg.Compare", "slices.overlaps[scow/api.Entry]"], unfollowed := true, recurses := true, apart := false, narrowed := true }
def OpsDiffUptoSaid : Prop := opsDiffUptoRow.holds Try.pinned (OpenSpec.upto opsDiffSpec)

/-- 'scowlaw20.OpsTexts', WHERE WHAT IT READS IS OF BULK AT MOST 1048576: true; the input reads as it did. -/
def opsTextsUptoRow : OpenClaim := { program := "ytdekdblebflklaa", sum := "96855aa034f9c1f484d5f4eaa49657f31dc73e0ae7fc66cdaacf6d2ca13f56d1", func := "scow/scowlaw20.OpsTexts", spec := "opsTexts", inPlace := ["internal/bytealg.Compare", "slices.overlaps[scow/api.Entry]"], unfollowed := true, recurses := true, apart := false, narrowed := true }
def OpsTextsUptoSaid : Prop := opsTextsUptoRow.holds Try.pinned (OpenSpec.upto opsTextsSpec)

/-- 'scowlaw20.OpsJust', WHERE WHAT IT READS IS OF BULK AT MOST 1048576: true; the input reads as it did. -/
def opsJustUptoRow : OpenClaim := { program := "ytdekdblebflklaa", sum := "96855aa034f9c1f484d5f4eaa49657f31dc73e0ae7fc66cdaacf6d2ca13f56d1", func := "scow/scowlaw20.OpsJust", spec := "opsJust", inPlace := ["internal/bytealg.Compare", "slices.overlaps[scow/api.Entry]"], unfollowed := true, recurses := true, apart := false, narrowed := true }
def OpsJustUptoSaid : Prop := opsJustUptoRow.holds Try.pinned (OpenSpec.upto opsJustSpec)

/-- 'scowlaw20.OpsBack', WHERE WHAT IT READS IS OF BULK AT MOST 1048576: true; the input reads as it did. -/
def opsBackUptoRow : OpenClaim := { program := "ytdekdblebflklaa", sum := "96855aa034f9c1f484d5f4eaa49657f31dc73e0ae7fc66cdaacf6d2ca13f56d1", func := "scow/scowlaw20.OpsBack", spec := "opsBack", inPlace := ["internal/bytealg.Compare", "slices.overlaps[scow/api.Entry]"], unfollowed := true, recurses := true, apart := false, narrowed := true }
def OpsBackUptoSaid : Prop := opsBackUptoRow.holds Try.pinned (OpenSpec.upto opsBackSpec)

/-- 'scowlaw20.OpsMerged', WHERE WHAT IT READS IS OF BULK AT MOST 1048576: true; the input reads as it did. -/
def opsMergedUptoRow : OpenClaim := { program := "ytdekdblebflklaa", sum := "96855aa034f9c1f484d5f4eaa49657f31dc73e0ae7fc66cdaacf6d2ca13f56d1", func := "scow/scowlaw20.OpsMerged", spec := "opsMerged", inPlace := ["internal/bytealg.Compare", "slices.overlaps[scow/api.Entry]", "slices.overlaps[scow/api.Op]"], unfollowed := true, recurses := true, apart := false, narrowed := true }
def OpsMergedUptoSaid : Prop := opsMergedUptoRow.holds Try.pinned (OpenSpec.upto opsMergedSpec)

/-- 'scowlaw20.OpsBehind', WHERE WHAT IT READS IS OF BULK AT MOST 1048576: true; the input reads as it did. -/
def opsBehindUptoRow : OpenClaim := { program := "ytdekdblebflklaa", sum := "96855aa034f9c1f484d5f4eaa49657f31dc73e0ae7fc66cdaacf6d2ca13f56d1", func := "scow/scowlaw20.OpsBehind", spec := "opsBehind", inPlace := ["internal/bytealg.Compare", "slices.overlaps[scow/api.Entry]", "slices.overlaps[scow/api.Op]"], unfollowed := true, recurses := true, apart := false, narrowed := true }
def OpsBehindUptoSaid : Prop := opsBehindUptoRow.holds Try.pinned (OpenSpec.upto opsBehindSpec)

end Rows
end Go.Proofs.Ytdekdblebflklaa
