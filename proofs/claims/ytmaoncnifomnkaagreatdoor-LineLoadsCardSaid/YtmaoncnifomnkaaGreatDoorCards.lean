/-
  DERIVED. GIVEN WITH THE SEED: THE CARDS: each row of YtmaoncnifomnkaaGreatDoorRows.lean that lists a variable, with what it lists TIED to the program's text (the seventh form; the later family's looks); each row that meets fmt, with fmt's text TOLD by the authors' own Lean function (tested against real Go, not proved from fmt's source: count such statements apart). THE CARD IS WHAT COUNTS. Prove the row's statement (the work); the ties are given (YtmaoncnifomnkaaGreatDoorTie.lean); close each card by the builder's one call (the guide's Derived/Test/ToyasCard.lean, 'card_holds'). Laid BY PROGRAM, IN A SANDBOX (cutbox-door.mjs). By AI agents, Wed Nov 11 2026. No macro, syntax, notation, axiom, sorry.
-/
import Derived.Test.YtmaoncnifomnkaaGreatDoorRows
import GoSem.ClaimSeven
namespace Go.Proofs.YtmaoncnifomnkaaGreatDoor
namespace Rows

/-- THE TIED CARD OF 'ballonetlaw10.LineLoads'. -/
def lineLoadsCard : Claim7 := { stood := { row := lineLoadsRow, standIns := [], harness := (true, "be02b36c6ab2e554ee6a0183cda125b35579dbb3bd6f37938d59b73de228048a"), looks := false }, kinds := [], alts := [], laidByText := true, laidKinds := [.data, .data, .data, .data, .pinned], laidTests := true, laidLooks := .later }
def LineLoadsCardSaid : Prop := Claim7.holds Tryz.pinned (.plain (OpenSpec.ofChange lineLoadsSpec)) lineLoadsCard

/-- THE SECOND FORM's CARD OF 'ballonetlaw10.LineLoads'. -/
def lineLoadsUptoCard : Claim7 := { stood := { row := lineLoadsUptoRow, standIns := [], harness := (true, "be02b36c6ab2e554ee6a0183cda125b35579dbb3bd6f37938d59b73de228048a"), looks := false }, kinds := [], alts := [], laidByText := true, laidKinds := [.data, .data, .data, .data, .pinned], laidTests := true, laidLooks := .later }
def LineLoadsUptoCardSaid : Prop := Claim7.holds Tryz.pinned (.plain (OpenSpec.upto lineLoadsSpec)) lineLoadsUptoCard
end Rows
end Go.Proofs.YtmaoncnifomnkaaGreatDoor
