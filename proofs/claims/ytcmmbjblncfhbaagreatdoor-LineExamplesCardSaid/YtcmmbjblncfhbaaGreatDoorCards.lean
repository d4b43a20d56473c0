/-
  DERIVED. GIVEN WITH THE SEED: THE CARDS: each row of YtcmmbjblncfhbaaGreatDoorRows.lean that lists a variable, with what it lists TIED to the program's text (the seventh form; the later family's looks); each row that meets fmt, with fmt's text TOLD by the authors' own Lean function (tested against real Go, not proved from fmt's source: count such statements apart). THE CARD IS WHAT COUNTS. Prove the row's statement (the work); the ties are given (YtcmmbjblncfhbaaGreatDoorTie.lean); close each card by the builder's one call (the guide's Derived/Test/ToyasCard.lean, 'card_holds'). Laid BY PROGRAM, IN A SANDBOX (cutbox-door.mjs). By AI agents, Wed Nov 11 2026. No macro, syntax, notation, axiom, sorry.
-/
import Derived.Test.YtcmmbjblncfhbaaGreatDoorRows
import GoSem.ClaimSeven
namespace Go.Proofs.YtcmmbjblncfhbaaGreatDoor
namespace Rows

/-- THE TIED CARD OF 'ballonetlaw10.LineExamples'. -/
def lineExamplesCard : Claim7 := { stood := { row := lineExamplesRow, standIns := [], harness := (true, "5ff31b02f87740c54d7baf87f9ec6355dd28623ed85175aec48153d6e7d325ba"), looks := true }, kinds := [], alts := [], laidByText := true, laidKinds := [.data, .data, .data, .data, .sentinel, .sentinel, .pinned], laidTests := true, laidLooks := .later }
def LineExamplesCardSaid : Prop := Claim7.holds Tryz.pinned (.plain (OpenSpec.ofChange lineExamplesSpec)) lineExamplesCard

/-- THE SECOND FORM's CARD OF 'ballonetlaw10.LineExamples'. -/
def lineExamplesUptoCard : Claim7 := { stood := { row := lineExamplesUptoRow, standIns := [], harness := (true, "5ff31b02f87740c54d7baf87f9ec6355dd28623ed85175aec48153d6e7d325ba"), looks := true }, kinds := [], alts := [], laidByText := true, laidKinds := [.data, .data, .data, .data, .sentinel, .sentinel, .pinned], laidTests := true, laidLooks := .later }
def LineExamplesUptoCardSaid : Prop := Claim7.holds Tryz.pinned (.plain (OpenSpec.upto lineExamplesSpec)) lineExamplesUptoCard
end Rows
end Go.Proofs.YtcmmbjblncfhbaaGreatDoor
