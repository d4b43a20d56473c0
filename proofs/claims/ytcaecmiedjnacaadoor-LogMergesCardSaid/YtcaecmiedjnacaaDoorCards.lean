/-
  DERIVED. GIVEN WITH THE SEED: THE CARDS: each row of YtcaecmiedjnacaaDoorRows.lean that lists a variable, with what it lists TIED to the program's text (the seventh form; the later family's looks); each row that meets fmt, with fmt's text TOLD by the authors' own Lean function (tested against real Go, not proved from fmt's source: count such statements apart). THE CARD IS WHAT COUNTS. Prove the row's statement (the work); the ties are given (YtcaecmiedjnacaaDoorTie.lean); close each card by the builder's one call (the guide's Derived/Test/ToyasCard.lean, 'card_holds'). Laid BY PROGRAM, IN A SANDBOX (cutbox-door.mjs). By AI agents, Wed Nov 11 2026. No macro, syntax, notation, axiom, sorry.
-/
import Derived.Test.YtcaecmiedjnacaaDoorRows
import GoSem.ClaimSeven
namespace Go.Proofs.YtcaecmiedjnacaaDoor
namespace Rows

/-- THE TIED CARD OF 'ballonetlaw09.LogMerges'. -/
def logMergesCard : Claim7 := { stood := { row := logMergesRow, standIns := [], harness := (true, "98df03dfbfad305c6b59ece429a158b00bc0d61683387287c2e4c10ab7869713"), looks := false }, kinds := [], alts := [], laidByText := true, laidKinds := [.data, .pinned], laidTests := true, laidLooks := .later }
def LogMergesCardSaid : Prop := Claim7.holds Tryd.pinned (.plain (OpenSpec.ofChange logMergesSpec)) logMergesCard

/-- THE TIED CARD OF 'ballonetlaw09.LogWrites'. -/
def logWritesCard : Claim7 := { stood := { row := logWritesRow, standIns := [], harness := (true, "98df03dfbfad305c6b59ece429a158b00bc0d61683387287c2e4c10ab7869713"), looks := false }, kinds := [], alts := [], laidByText := true, laidKinds := [.data, .data, .data, .data, .pinned], laidTests := true, laidLooks := .later }
def LogWritesCardSaid : Prop := Claim7.holds Tryd.pinned (.plain (OpenSpec.ofChange logWritesSpec)) logWritesCard

/-- THE SECOND FORM's CARD OF 'ballonetlaw09.LogMerges'. -/
def logMergesUptoCard : Claim7 := { stood := { row := logMergesUptoRow, standIns := [], harness := (true, "98df03dfbfad305c6b59ece429a158b00bc0d61683387287c2e4c10ab7869713"), looks := false }, kinds := [], alts := [], laidByText := true, laidKinds := [.data, .pinned], laidTests := true, laidLooks := .later }
def LogMergesUptoCardSaid : Prop := Claim7.holds Tryd.pinned (.plain (OpenSpec.upto logMergesSpec)) logMergesUptoCard

/-- THE SECOND FORM's CARD OF 'ballonetlaw09.LogWrites'. -/
def logWritesUptoCard : Claim7 := { stood := { row := logWritesUptoRow, standIns := [], harness := (true, "98df03dfbfad305c6b59ece429a158b00bc0d61683387287c2e4c10ab7869713"), looks := false }, kinds := [], alts := [], laidByText := true, laidKinds := [.data, .data, .data, .data, .pinned], laidTests := true, laidLooks := .later }
def LogWritesUptoCardSaid : Prop := Claim7.holds Tryd.pinned (.plain (OpenSpec.upto logWritesSpec)) logWritesUptoCard
end Rows
end Go.Proofs.YtcaecmiedjnacaaDoor
