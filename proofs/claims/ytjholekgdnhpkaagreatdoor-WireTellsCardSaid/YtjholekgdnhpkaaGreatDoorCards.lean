/-
  DERIVED. GIVEN WITH THE SEED: THE CARDS: each row of YtjholekgdnhpkaaGreatDoorRows.lean that lists a variable, with what it lists TIED to the program's text (the seventh form; the later family's looks); each row that meets fmt, with fmt's text TOLD by the authors' own Lean function (tested against real Go, not proved from fmt's source: count such statements apart). THE CARD IS WHAT COUNTS. Prove the row's statement (the work); the ties are given (YtjholekgdnhpkaaGreatDoorTie.lean); close each card by the builder's one call (the guide's Derived/Test/ToyasCard.lean, 'card_holds'). Laid BY PROGRAM, IN A SANDBOX (cutbox-door.mjs). By AI agents, Wed Nov 11 2026. No macro, syntax, notation, axiom, sorry.
-/
import Derived.Test.YtjholekgdnhpkaaGreatDoorRows
import GoSem.ClaimSeven
namespace Go.Proofs.YtjholekgdnhpkaaGreatDoor
namespace Rows

/-- THE TIED CARD OF 'scowlaw24.WireTells'. -/
def wireTellsCard : Claim7 := { stood := { row := wireTellsRow, standIns := [], harness := (true, "a1b4fc33094f444d175bfb54d911db7f08d5a765f83f88119816985dad6e279c"), looks := false }, kinds := [], alts := [], laidByText := true, laidKinds := [.data, .data, .data], laidTests := true, laidLooks := .later }
def WireTellsCardSaid : Prop := Claim7.holds Tryz.pinned (.plain (OpenSpec.ofChange wireTellsSpec)) wireTellsCard

/-- THE SECOND FORM's CARD OF 'scowlaw24.WireTells'. -/
def wireTellsUptoCard : Claim7 := { stood := { row := wireTellsUptoRow, standIns := [], harness := (true, "a1b4fc33094f444d175bfb54d911db7f08d5a765f83f88119816985dad6e279c"), looks := false }, kinds := [], alts := [], laidByText := true, laidKinds := [.data, .data, .data], laidTests := true, laidLooks := .later }
def WireTellsUptoCardSaid : Prop := Claim7.holds Tryz.pinned (.plain (OpenSpec.upto wireTellsSpec)) wireTellsUptoCard
end Rows
end Go.Proofs.YtjholekgdnhpkaaGreatDoor
