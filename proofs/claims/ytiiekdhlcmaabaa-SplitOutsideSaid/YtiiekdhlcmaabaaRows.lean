/-
  No cell of these rows narrows 'for every input' (looked for: loops, veiled, ifaces, maps, wideKeys, modest, calm, conditions, laid).
  DERIVED. THE GIVEN ROWS OF THIS SEAT. 6 by the template 'for every input the law returns true; each argument reads behind the call as it read before'; 0 by the template 'total and deterministic' (their statements: YtiiekdhlcmaabaaTotals.lean).
  GIVEN WITH THE SEED: the statements are not yours to turn. If you find one false, say at which input.
  Laid BY PROGRAM, IN A SANDBOX (cutbox-rows.mjs): the forced cells as the released guide's own fill.sh prints them over the translation c0fd15e9cd8ccbaa… (all of the seat's roots in one cut). By AI agents, Wed Nov 11 2026. No macro, syntax, notation, axiom, sorry.
-/
import Derived.Test.YtiiekdhlcmaabaaChecked
import GoSem.Claim
import GoSem.ClaimJoined
import GoSem.ClaimMapViews
import Derived.JoinedTies
import Derived.KernelRfl
namespace Go.Proofs.Ytiiekdhlcmaabaa
/- THE CELL 'sum', in the pinned program and in every row, IS THE sha256 OF THE DUMP (.gsa) THAT YtiiekdhlcmaabaaProg.lean LOADS. Nothing in Lean hashes anything: it is a label: what it is worth is what the hold of that sum in a sandbox is worth. -/
noncomputable def Try.pinned : Pinned := { name := "ytiiekdhlcmaabaa", sum := "c0fd15e9cd8ccbaa373c83d06d3435df5708b8b960f75871ad3f06ef1a42194b", checked := Try.checked }
namespace Rows
def none {H : Type} : Left H := { results := [], args := [] }

/-- 'scowlaw18.SplitCuts': WHATEVER THE INPUT: true; the input reads as it did. -/
def splitCutsSpec : ChangeSpec := { name := "splitCuts", fn := fun _ => fun
  | [d1, d2, d3, d4] => { results := [.lit (.bool true)], args := [d1, d2, d3, d4] }
  | _ => none }
def splitCutsRow : OpenClaim := { program := "ytiiekdhlcmaabaa", sum := "c0fd15e9cd8ccbaa373c83d06d3435df5708b8b960f75871ad3f06ef1a42194b", func := "scow/scowlaw18.SplitCuts", spec := "splitCuts", inPlace := ["internal/bytealg.Compare"], unfollowed := true, recurses := true, apart := false }
def SplitCutsSaid : Prop := splitCutsRow.holds Try.pinned (OpenSpec.ofChange splitCutsSpec)

/-- ITS FALSE NEIGHBOUR: 'it returns false'. Refute it at one input. -/
def splitCutsWrong : ChangeSpec := { name := "splitCuts", fn := fun _ => fun
  | [d1, d2, d3, d4] => { results := [.lit (.bool false)], args := [d1, d2, d3, d4] }
  | _ => none }
def SplitCutsWrongFalsely : Prop := splitCutsRow.holds Try.pinned (OpenSpec.ofChange splitCutsWrong)

/-- 'scowlaw18.SplitDiffers': WHATEVER THE INPUT: true; the input reads as it did. -/
def splitDiffersSpec : ChangeSpec := { name := "splitDiffers", fn := fun _ => fun
  | [d1, d2, d3, d4] => { results := [.lit (.bool true)], args := [d1, d2, d3, d4] }
  | _ => none }
def splitDiffersRow : OpenClaim := { program := "ytiiekdhlcmaabaa", sum := "c0fd15e9cd8ccbaa373c83d06d3435df5708b8b960f75871ad3f06ef1a42194b", func := "scow/scowlaw18.SplitDiffers", spec := "splitDiffers", inPlace := ["internal/bytealg.Compare"], unfollowed := true, recurses := true, apart := false }
def SplitDiffersSaid : Prop := splitDiffersRow.holds Try.pinned (OpenSpec.ofChange splitDiffersSpec)

/-- ITS FALSE NEIGHBOUR: 'it returns false'. Refute it at one input. -/
def splitDiffersWrong : ChangeSpec := { name := "splitDiffers", fn := fun _ => fun
  | [d1, d2, d3, d4] => { results := [.lit (.bool false)], args := [d1, d2, d3, d4] }
  | _ => none }
def SplitDiffersWrongFalsely : Prop := splitDiffersRow.holds Try.pinned (OpenSpec.ofChange splitDiffersWrong)

/-- 'scowlaw18.SplitCovers': WHATEVER THE INPUT: true; the input reads as it did. -/
def splitCoversSpec : ChangeSpec := { name := "splitCovers", fn := fun _ => fun
  | [d1, d2, d3, d4] => { results := [.lit (.bool true)], args := [d1, d2, d3, d4] }
  | _ => none }
def splitCoversRow : OpenClaim := { program := "ytiiekdhlcmaabaa", sum := "c0fd15e9cd8ccbaa373c83d06d3435df5708b8b960f75871ad3f06ef1a42194b", func := "scow/scowlaw18.SplitCovers", spec := "splitCovers", inPlace := ["internal/bytealg.Compare"], unfollowed := true, recurses := true, apart := false }
def SplitCoversSaid : Prop := splitCoversRow.holds Try.pinned (OpenSpec.ofChange splitCoversSpec)

/-- ITS FALSE NEIGHBOUR: 'it returns false'. Refute it at one input. -/
def splitCoversWrong : ChangeSpec := { name := "splitCovers", fn := fun _ => fun
  | [d1, d2, d3, d4] => { results := [.lit (.bool false)], args := [d1, d2, d3, d4] }
  | _ => none }
def SplitCoversWrongFalsely : Prop := splitCoversRow.holds Try.pinned (OpenSpec.ofChange splitCoversWrong)

/-- 'scowlaw18.SplitFinds': WHATEVER THE INPUT: true; the input reads as it did. -/
def splitFindsSpec : ChangeSpec := { name := "splitFinds", fn := fun _ => fun
  | [d1, d2, d3] => { results := [.lit (.bool true)], args := [d1, d2, d3] }
  | _ => none }
def splitFindsRow : OpenClaim := { program := "ytiiekdhlcmaabaa", sum := "c0fd15e9cd8ccbaa373c83d06d3435df5708b8b960f75871ad3f06ef1a42194b", func := "scow/scowlaw18.SplitFinds", spec := "splitFinds", inPlace := ["internal/bytealg.Compare"], unfollowed := true, recurses := true, apart := false }
def SplitFindsSaid : Prop := splitFindsRow.holds Try.pinned (OpenSpec.ofChange splitFindsSpec)

/-- ITS FALSE NEIGHBOUR: 'it returns false'. Refute it at one input. -/
def splitFindsWrong : ChangeSpec := { name := "splitFinds", fn := fun _ => fun
  | [d1, d2, d3] => { results := [.lit (.bool false)], args := [d1, d2, d3] }
  | _ => none }
def SplitFindsWrongFalsely : Prop := splitFindsRow.holds Try.pinned (OpenSpec.ofChange splitFindsWrong)

/-- 'scowlaw18.SplitNarrows': WHATEVER THE INPUT: true; the input reads as it did. -/
def splitNarrowsSpec : ChangeSpec := { name := "splitNarrows", fn := fun _ => fun
  | [d1, d2, d3] => { results := [.lit (.bool true)], args := [d1, d2, d3] }
  | _ => none }
def splitNarrowsRow : OpenClaim := { program := "ytiiekdhlcmaabaa", sum := "c0fd15e9cd8ccbaa373c83d06d3435df5708b8b960f75871ad3f06ef1a42194b", func := "scow/scowlaw18.SplitNarrows", spec := "splitNarrows", inPlace := ["internal/bytealg.Compare"], unfollowed := true, recurses := true, apart := false }
def SplitNarrowsSaid : Prop := splitNarrowsRow.holds Try.pinned (OpenSpec.ofChange splitNarrowsSpec)

/-- ITS FALSE NEIGHBOUR: 'it returns false'. Refute it at one input. -/
def splitNarrowsWrong : ChangeSpec := { name := "splitNarrows", fn := fun _ => fun
  | [d1, d2, d3] => { results := [.lit (.bool false)], args := [d1, d2, d3] }
  | _ => none }
def SplitNarrowsWrongFalsely : Prop := splitNarrowsRow.holds Try.pinned (OpenSpec.ofChange splitNarrowsWrong)

/-- 'scowlaw18.SplitOutside': WHATEVER THE INPUT: true; the input reads as it did. -/
def splitOutsideSpec : ChangeSpec := { name := "splitOutside", fn := fun _ => fun
  | [d1, d2, d3] => { results := [.lit (.bool true)], args := [d1, d2, d3] }
  | _ => none }
def splitOutsideRow : OpenClaim := { program := "ytiiekdhlcmaabaa", sum := "c0fd15e9cd8ccbaa373c83d06d3435df5708b8b960f75871ad3f06ef1a42194b", func := "scow/scowlaw18.SplitOutside", spec := "splitOutside", inPlace := ["internal/bytealg.Compare"], unfollowed := true, recurses := true, apart := false }
def SplitOutsideSaid : Prop := splitOutsideRow.holds Try.pinned (OpenSpec.ofChange splitOutsideSpec)

/-- ITS FALSE NEIGHBOUR: 'it returns false'. Refute it at one input. -/
def splitOutsideWrong : ChangeSpec := { name := "splitOutside", fn := fun _ => fun
  | [d1, d2, d3] => { results := [.lit (.bool false)], args := [d1, d2, d3] }
  | _ => none }
def SplitOutsideWrongFalsely : Prop := splitOutsideRow.holds Try.pinned (OpenSpec.ofChange splitOutsideWrong)

/- THE SECOND FORM. 'bulk': how many values and letters a reading holds, each counted each time it is reached (what is shared counts as often as it is met; a slice's spare places count too). A statement '..UptoSaid' is the law's where the arguments, and the package variables that the reading takes, are together of bulk at most 1048576: NARROWER than '..Said'. Prove '..Said' where nothing that the law and all that it calls make is longer than what came in: it says more and counts as full. Else prove '..UptoSaid'. A law counts once. -/
mutual
def uptoBulk {H : Type} : DataW H → Nat
  | .lit (.string bytes) => bytes.length + 1
  | .lit _ => 1
  | .nil => 1
  | .ptr d => uptoBulk d + 1
  | .slice elems spare => uptoBulkAll elems + uptoBulkAll spare + 1
  | .agg parts => uptoBulkAll parts + 1
  | .iface _ d => uptoBulk d + 1
  | .map entries => uptoBulkEntries entries + 1
  | .held _ => 1
def uptoBulkAll {H : Type} : List (DataW H) → Nat
  | [] => 0
  | d :: r => uptoBulk d + uptoBulkAll r
def uptoBulkEntries {H : Type} : List (Lit × DataW H) → Nat
  | [] => 0
  | x :: r => uptoBulkEntry x + uptoBulkEntries r
def uptoBulkEntry {H : Type} : Lit × DataW H → Nat
  | (.string bytes, d) => bytes.length + uptoBulk d + 1
  | (_, d) => uptoBulk d + 1
 end
def uptoSmall : (H : Type) → List (DataW H) → Bool := fun _ ds => decide (uptoBulkAll ds ≤ 1048576)
def OpenSpec.upto (s : _root_.Go.ChangeSpec) : _root_.Go.OpenSpec := { _root_.Go.OpenSpec.ofChange s with cond := some uptoSmall }

/-- 'scowlaw18.SplitCuts', WHERE WHAT IT READS IS OF BULK AT MOST 1048576: true; the input reads as it did. -/
def splitCutsUptoRow : OpenClaim := { program := "ytiiekdhlcmaabaa", sum := "c0fd15e9cd8ccbaa373c83d06d3435df5708b8b960f75871ad3f06ef1a42194b", func := "scow/scowlaw18.SplitCuts", spec := "splitCuts", inPlace := ["internal/bytealg.Compare"], unfollowed := true, recurses := true, apart := false, narrowed := true }
def SplitCutsUptoSaid : Prop := splitCutsUptoRow.holds Try.pinned (OpenSpec.upto splitCutsSpec)

/-- 'scowlaw18.SplitDiffers', WHERE WHAT IT READS IS OF BULK AT MOST 1048576: true; the input reads as it did. -/
def splitDiffersUptoRow : OpenClaim := { program := "ytiiekdhlcmaabaa", sum := "c0fd15e9cd8ccbaa373c83d06d3435df5708b8b960f75871ad3f06ef1a42194b", func := "scow/scowlaw18.SplitDiffers", spec := "splitDiffers", inPlace := ["internal/bytealg.Compare"], unfollowed := true, recurses := true, apart := false, narrowed := true }
def SplitDiffersUptoSaid : Prop := splitDiffersUptoRow.holds Try.pinned (OpenSpec.upto splitDiffersSpec)

/-- 'scowlaw18.SplitCovers', WHERE WHAT IT READS IS OF BULK AT MOST 1048576: true; the input reads as it did. -/
def splitCoversUptoRow : OpenClaim := { program := "ytiiekdhlcmaabaa", sum := "c0fd15e9cd8ccbaa373c83d06d3435df5708b8b960f75871ad3f06ef1a42194b", func := "scow/scowlaw18.SplitCovers", spec := "splitCovers", inPlace := ["internal/bytealg.Compare"], unfollowed := true, recurses := true, apart := false, narrowed := true }
def SplitCoversUptoSaid : Prop := splitCoversUptoRow.holds Try.pinned (OpenSpec.upto splitCoversSpec)

/-- 'scowlaw18.SplitFinds', WHERE WHAT IT READS IS OF BULK AT MOST 1048576: true; the input reads as it did. -/
def splitFindsUptoRow : OpenClaim := { program := "ytiiekdhlcmaabaa", sum := "c0fd15e9cd8ccbaa373c83d06d3435df5708b8b960f75871ad3f06ef1a42194b", func := "scow/scowlaw18.SplitFinds", spec := "splitFinds", inPlace := ["internal/bytealg.Compare"], unfollowed := true, recurses := true, apart := false, narrowed := true }
def SplitFindsUptoSaid : Prop := splitFindsUptoRow.holds Try.pinned (OpenSpec.upto splitFindsSpec)

/-- 'scowlaw18.SplitNarrows', WHERE WHAT IT READS IS OF BULK AT MOST 1048576: true; the input reads as it did. -/
def splitNarrowsUptoRow : OpenClaim := { program := "ytiiekdhlcmaabaa", sum := "c0fd15e9cd8ccbaa373c83d06d3435df5708b8b960f75871ad3f06ef1a42194b", func := "scow/scowlaw18.SplitNarrows", spec := "splitNarrows", inPlace := ["internal/bytealg.Compare"], unfollowed := true, recurses := true, apart := false, narrowed := true }
def SplitNarrowsUptoSaid : Prop := splitNarrowsUptoRow.holds Try.pinned (OpenSpec.upto splitNarrowsSpec)

/-- 'scowlaw18.SplitOutside', WHERE WHAT IT READS IS OF BULK AT MOST 1048576: true; the input reads as it did. -/
def splitOutsideUptoRow : OpenClaim := { program := "ytiiekdhlcmaabaa", sum := "c0fd15e9cd8ccbaa373c83d06d3435df5708b8b960f75871ad3f06ef1a42194b", func := "scow/scowlaw18.SplitOutside", spec := "splitOutside", inPlace := ["internal/bytealg.Compare"], unfollowed := true, recurses := true, apart := false, narrowed := true }
def SplitOutsideUptoSaid : Prop := splitOutsideUptoRow.holds Try.pinned (OpenSpec.upto splitOutsideSpec)

end Rows
end Go.Proofs.Ytiiekdhlcmaabaa
