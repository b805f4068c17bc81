/-
  No cell of these rows narrows 'for every input' (looked for: loops, veiled, ifaces, maps, wideKeys, modest, calm, conditions, laid).
  DERIVED. THE GIVEN ROWS OF THIS SEAT. 7 by the template 'for every input the law returns true; each argument reads behind the call as it read before'; 0 by the template 'total and deterministic' (their statements: YtajflhdaljnoaaaTotals.lean).
  GIVEN WITH THE SEED: the statements are not yours to turn. If you find one false, say at which input.
  Laid BY PROGRAM, IN A SANDBOX (cutbox-rows.mjs): the forced cells as the released guide's own fill.sh prints them over the translation 9958799d2a2feb83… (all of the seat's roots in one cut). By AI agents, Wed Nov 11 2026. No macro, syntax, notation, axiom, sorry.
-/
import Derived.Test.YtajflhdaljnoaaaChecked
import GoSem.Claim
import GoSem.ClaimJoined
import GoSem.ClaimMapViews
import Derived.JoinedTies
import Derived.KernelRfl
namespace Go.Proofs.Ytajflhdaljnoaaa
/- THE CELL 'sum', in the pinned program and in every row, IS THE sha256 OF THE DUMP (.gsa) THAT YtajflhdaljnoaaaProg.lean LOADS. Nothing in Lean hashes anything: it is a label: what it is worth is what the hold of that sum in a sandbox is worth. -/
noncomputable def Try.pinned : Pinned := { name := "ytajflhdaljnoaaa", sum := "9958799d2a2feb83d1163267830a5cfb68740528aeff835e1d12e639e43758e7", checked := Try.checked }
namespace Rows
def none {H : Type} : Left H := { results := [], args := [] }

/-- 'scowlaw01.VintPuts': WHATEVER THE INPUT: true; the input reads as it did. -/
def vintPutsSpec : ChangeSpec := { name := "vintPuts", fn := fun _ => fun
  | [d] => { results := [.lit (.bool true)], args := [d] }
  | _ => none }
def vintPutsRow : OpenClaim := { program := "ytajflhdaljnoaaa", sum := "9958799d2a2feb83d1163267830a5cfb68740528aeff835e1d12e639e43758e7", func := "scow/scowlaw01.VintPuts", spec := "vintPuts", unfollowed := true, recurses := true, apart := false }
def VintPutsSaid : Prop := vintPutsRow.holds Try.pinned (OpenSpec.ofChange vintPutsSpec)

/-- ITS FALSE NEIGHBOUR: 'it returns false'. Refute it at one input. -/
def vintPutsWrong : ChangeSpec := { name := "vintPuts", fn := fun _ => fun
  | [d] => { results := [.lit (.bool false)], args := [d] }
  | _ => none }
def VintPutsWrongFalsely : Prop := vintPutsRow.holds Try.pinned (OpenSpec.ofChange vintPutsWrong)

/-- 'scowlaw01.VintGets': WHATEVER THE INPUT: true; the input reads as it did. -/
def vintGetsSpec : ChangeSpec := { name := "vintGets", fn := fun _ => fun
  | [d] => { results := [.lit (.bool true)], args := [d] }
  | _ => none }
def vintGetsRow : OpenClaim := { program := "ytajflhdaljnoaaa", sum := "9958799d2a2feb83d1163267830a5cfb68740528aeff835e1d12e639e43758e7", func := "scow/scowlaw01.VintGets", spec := "vintGets", unfollowed := true, recurses := true, apart := false }
def VintGetsSaid : Prop := vintGetsRow.holds Try.pinned (OpenSpec.ofChange vintGetsSpec)

/-- ITS FALSE NEIGHBOUR: 'it returns false'. Refute it at one input. -/
def vintGetsWrong : ChangeSpec := { name := "vintGets", fn := fun _ => fun
  | [d] => { results := [.lit (.bool false)], args := [d] }
  | _ => none }
def VintGetsWrongFalsely : Prop := vintGetsRow.holds Try.pinned (OpenSpec.ofChange vintGetsWrong)

/-- 'scowlaw01.VintFixed': WHATEVER THE INPUT: true; the input reads as it did. -/
def vintFixedSpec : ChangeSpec := { name := "vintFixed", fn := fun _ => fun
  | [d1, d2, d3] => { results := [.lit (.bool true)], args := [d1, d2, d3] }
  | _ => none }
def vintFixedRow : OpenClaim := { program := "ytajflhdaljnoaaa", sum := "9958799d2a2feb83d1163267830a5cfb68740528aeff835e1d12e639e43758e7", func := "scow/scowlaw01.VintFixed", spec := "vintFixed", unfollowed := true, recurses := true, apart := false }
def VintFixedSaid : Prop := vintFixedRow.holds Try.pinned (OpenSpec.ofChange vintFixedSpec)

/-- ITS FALSE NEIGHBOUR: 'it returns false'. Refute it at one input. -/
def vintFixedWrong : ChangeSpec := { name := "vintFixed", fn := fun _ => fun
  | [d1, d2, d3] => { results := [.lit (.bool false)], args := [d1, d2, d3] }
  | _ => none }
def VintFixedWrongFalsely : Prop := vintFixedRow.holds Try.pinned (OpenSpec.ofChange vintFixedWrong)

/-- 'scowlaw01.VintTexts': WHATEVER THE INPUT: true; the input reads as it did. -/
def vintTextsSpec : ChangeSpec := { name := "vintTexts", fn := fun _ => fun
  | [d1, d2] => { results := [.lit (.bool true)], args := [d1, d2] }
  | _ => none }
def vintTextsRow : OpenClaim := { program := "ytajflhdaljnoaaa", sum := "9958799d2a2feb83d1163267830a5cfb68740528aeff835e1d12e639e43758e7", func := "scow/scowlaw01.VintTexts", spec := "vintTexts", unfollowed := true, recurses := true, apart := false }
def VintTextsSaid : Prop := vintTextsRow.holds Try.pinned (OpenSpec.ofChange vintTextsSpec)

/-- ITS FALSE NEIGHBOUR: 'it returns false'. Refute it at one input. -/
def vintTextsWrong : ChangeSpec := { name := "vintTexts", fn := fun _ => fun
  | [d1, d2] => { results := [.lit (.bool false)], args := [d1, d2] }
  | _ => none }
def VintTextsWrongFalsely : Prop := vintTextsRow.holds Try.pinned (OpenSpec.ofChange vintTextsWrong)

/-- 'scowlaw01.VintBack': WHATEVER THE INPUT: true; the input reads as it did. -/
def vintBackSpec : ChangeSpec := { name := "vintBack", fn := fun _ => fun
  | [d1, d2] => { results := [.lit (.bool true)], args := [d1, d2] }
  | _ => none }
def vintBackRow : OpenClaim := { program := "ytajflhdaljnoaaa", sum := "9958799d2a2feb83d1163267830a5cfb68740528aeff835e1d12e639e43758e7", func := "scow/scowlaw01.VintBack", spec := "vintBack", unfollowed := true, recurses := true, apart := false }
def VintBackSaid : Prop := vintBackRow.holds Try.pinned (OpenSpec.ofChange vintBackSpec)

/-- ITS FALSE NEIGHBOUR: 'it returns false'. Refute it at one input. -/
def vintBackWrong : ChangeSpec := { name := "vintBack", fn := fun _ => fun
  | [d1, d2] => { results := [.lit (.bool false)], args := [d1, d2] }
  | _ => none }
def VintBackWrongFalsely : Prop := vintBackRow.holds Try.pinned (OpenSpec.ofChange vintBackWrong)

/-- 'scowlaw01.VintWords': WHATEVER THE INPUT: true; the input reads as it did. -/
def vintWordsSpec : ChangeSpec := { name := "vintWords", fn := fun _ => fun
  | [d1, d2, d3] => { results := [.lit (.bool true)], args := [d1, d2, d3] }
  | _ => none }
def vintWordsRow : OpenClaim := { program := "ytajflhdaljnoaaa", sum := "9958799d2a2feb83d1163267830a5cfb68740528aeff835e1d12e639e43758e7", func := "scow/scowlaw01.VintWords", spec := "vintWords", unfollowed := true, recurses := true, apart := false }
def VintWordsSaid : Prop := vintWordsRow.holds Try.pinned (OpenSpec.ofChange vintWordsSpec)

/-- ITS FALSE NEIGHBOUR: 'it returns false'. Refute it at one input. -/
def vintWordsWrong : ChangeSpec := { name := "vintWords", fn := fun _ => fun
  | [d1, d2, d3] => { results := [.lit (.bool false)], args := [d1, d2, d3] }
  | _ => none }
def VintWordsWrongFalsely : Prop := vintWordsRow.holds Try.pinned (OpenSpec.ofChange vintWordsWrong)

/-- 'scowlaw01.VintApart': WHATEVER THE INPUT: true; the input reads as it did. -/
def vintApartSpec : ChangeSpec := { name := "vintApart", fn := fun _ => fun
  | [d1, d2] => { results := [.lit (.bool true)], args := [d1, d2] }
  | _ => none }
def vintApartRow : OpenClaim := { program := "ytajflhdaljnoaaa", sum := "9958799d2a2feb83d1163267830a5cfb68740528aeff835e1d12e639e43758e7", func := "scow/scowlaw01.VintApart", spec := "vintApart", unfollowed := true, recurses := true, apart := false }
def VintApartSaid : Prop := vintApartRow.holds Try.pinned (OpenSpec.ofChange vintApartSpec)

/-- ITS FALSE NEIGHBOUR: 'it returns false'. Refute it at one input. -/
def vintApartWrong : ChangeSpec := { name := "vintApart", fn := fun _ => fun
  | [d1, d2] => { results := [.lit (.bool false)], args := [d1, d2] }
  | _ => none }
def VintApartWrongFalsely : Prop := vintApartRow.holds Try.pinned (OpenSpec.ofChange vintApartWrong)

/- THE SECOND FORM. 'bulk': how many values and letters a reading holds, each counted each time it is reached (what is shared counts as often as it is met; a slice's spare places count too). A statement '..UptoSaid' is the law's where the arguments, and the package variables that the reading takes, are together of bulk at most 1048576: NARROWER than '..Said'. Prove '..Said' where nothing that the law and all that it calls make is longer than what came in: it says more and counts as full. Else prove '..UptoSaid'. A law counts once. -/
mutual
def uptoBulk {H : Type} : DataW H → Nat
  | .lit (.string bytes) => bytes.length + 1
  | .lit _ => 1
  | .nil => 1
  | .ptr d => uptoBulk d + 1
  | .slice elems spare => uptoBulkAll elems + uptoBulkAll spare + 1
  | .agg parts => uptoBulkAll parts + 1
  | .iface _ d => uptoBulk d + 1
  | .map entries => uptoBulkEntries entries + 1
  | .held _ => 1
def uptoBulkAll {H : Type} : List (DataW H) → Nat
  | [] => 0
  | d :: r => uptoBulk d + uptoBulkAll r
def uptoBulkEntries {H : Type} : List (Lit × DataW H) → Nat
  | [] => 0
  | x :: r => uptoBulkEntry x + uptoBulkEntries r
def uptoBulkEntry {H : Type} : Lit × DataW H → Nat
  | (.string bytes, d) => bytes.length + uptoBulk d + 1
  | (_, d) => uptoBulk d + 1
 end
def uptoSmall : (H : Type) → List (DataW H) → Bool := fun _ ds => decide (uptoBulkAll ds ≤ 1048576)
def OpenSpec.upto (s : _root_.Go.ChangeSpec) : _root_.Go.OpenSpec := { _root_.Go.OpenSpec.ofChange s with cond := some uptoSmall }

/-- 'scowlaw01.VintPuts', WHERE WHAT IT READS IS OF BULK AT MOST 1048576: true; the input reads as it did. -/
def vintPutsUptoRow : OpenClaim := { program := "ytajflhdaljnoaaa", sum := "9958799d2a2feb83d1163267830a5cfb68740528aeff835e1d12e639e43758e7", func := "scow/scowlaw01.VintPuts", spec := "vintPuts", unfollowed := true, recurses := true, apart := false, narrowed := true }
def VintPutsUptoSaid : Prop := vintPutsUptoRow.holds Try.pinned (OpenSpec.upto vintPutsSpec)

/-- 'scowlaw01.VintGets', WHERE WHAT IT READS IS OF BULK AT MOST 1048576: true; the input reads as it did. -/
def vintGetsUptoRow : OpenClaim := { program := "ytajflhdaljnoaaa", sum := "9958799d2a2feb83d1163267830a5cfb68740528aeff835e1d12e639e43758e7", func := "scow/scowlaw01.VintGets", spec := "vintGets", unfollowed := true, recurses := true, apart := false, narrowed := true }
def VintGetsUptoSaid : Prop := vintGetsUptoRow.holds Try.pinned (OpenSpec.upto vintGetsSpec)

/-- 'scowlaw01.VintFixed', WHERE WHAT IT READS IS OF BULK AT MOST 1048576: true; the input reads as it did. -/
def vintFixedUptoRow : OpenClaim := { program := "ytajflhdaljnoaaa", sum := "9958799d2a2feb83d1163267830a5cfb68740528aeff835e1d12e639e43758e7", func := "scow/scowlaw01.VintFixed", spec := "vintFixed", unfollowed := true, recurses := true, apart := false, narrowed := true }
def VintFixedUptoSaid : Prop := vintFixedUptoRow.holds Try.pinned (OpenSpec.upto vintFixedSpec)

/-- 'scowlaw01.VintTexts', WHERE WHAT IT READS IS OF BULK AT MOST 1048576: true; the input reads as it did. -/
def vintTextsUptoRow : OpenClaim := { program := "ytajflhdaljnoaaa", sum := "9958799d2a2feb83d1163267830a5cfb68740528aeff835e1d12e639e43758e7", func := "scow/scowlaw01.VintTexts", spec := "vintTexts", unfollowed := true, recurses := true, apart := false, narrowed := true }
def VintTextsUptoSaid : Prop := vintTextsUptoRow.holds Try.pinned (OpenSpec.upto vintTextsSpec)

/-- 'scowlaw01.VintBack', WHERE WHAT IT READS IS OF BULK AT MOST 1048576: true; the input reads as it did. -/
def vintBackUptoRow : OpenClaim := { program := "ytajflhdaljnoaaa", sum := "9958799d2a2feb83d1163267830a5cfb68740528aeff835e1d12e639e43758e7", func := "scow/scowlaw01.VintBack", spec := "vintBack", unfollowed := true, recurses := true, apart := false, narrowed := true }
def VintBackUptoSaid : Prop := vintBackUptoRow.holds Try.pinned (OpenSpec.upto vintBackSpec)

/-- 'scowlaw01.VintWords', WHERE WHAT IT READS IS OF BULK AT MOST 1048576: true; the input reads as it did. -/
def vintWordsUptoRow : OpenClaim := { program := "ytajflhdaljnoaaa", sum := "9958799d2a2feb83d1163267830a5cfb68740528aeff835e1d12e639e43758e7", func := "scow/scowlaw01.VintWords", spec := "vintWords", unfollowed := true, recurses := true, apart := false, narrowed := true }
def VintWordsUptoSaid : Prop := vintWordsUptoRow.holds Try.pinned (OpenSpec.upto vintWordsSpec)

/-- 'scowlaw01.VintApart', WHERE WHAT IT READS IS OF BULK AT MOST 1048576: true; the input reads as it did. -/
def vintApartUptoRow : OpenClaim := { program := "ytajflhdaljnoaaa", sum := "9958799d2a2feb83d1163267830a5cfb68740528aeff835e1d12e639e43758e7", func := "scow/scowlaw01.VintApart", spec := "vintApart", unfollowed := true, recurses := true, apart := false, narrowed := true }
def VintApartUptoSaid : Prop := vintApartUptoRow.holds Try.pinned (OpenSpec.upto vintApartSpec)

end Rows
end Go.Proofs.Ytajflhdaljnoaaa
