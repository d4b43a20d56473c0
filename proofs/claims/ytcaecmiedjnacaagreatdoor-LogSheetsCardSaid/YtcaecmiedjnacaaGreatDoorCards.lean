/-
  DERIVED. GIVEN WITH THE SEED: THE CARDS: each row of YtcaecmiedjnacaaGreatDoorRows.lean that lists a variable, with what it lists TIED to the program's text (the seventh form; the later family's looks); each row that meets fmt, with fmt's text TOLD by the authors' own Lean function (tested against real Go, not proved from fmt's source: count such statements apart). THE CARD IS WHAT COUNTS. Prove the row's statement (the work); the ties are given (YtcaecmiedjnacaaGreatDoorTie.lean); close each card by the builder's one call (the guide's Derived/Test/ToyasCard.lean, 'card_holds'). Laid BY PROGRAM, IN A SANDBOX (cutbox-door.mjs). By AI agents, Wed Nov 11 2026. No macro, syntax, notation, axiom, sorry.
-/
import Derived.Test.YtcaecmiedjnacaaGreatDoorRows
import GoSem.ClaimSeven
namespace Go.Proofs.YtcaecmiedjnacaaGreatDoor
namespace Rows

/-- THE TIED CARD OF 'ballonetlaw09.LogReads'. -/
def logReadsCard : Claim7 := { stood := { row := logReadsRow, standIns := [], harness := (true, "ca3a9b5aa83f7fb230105ef65314fd25214a4880a40a841d4384b08bd1c1f520"), looks := true }, kinds := [], alts := [], laidByText := true, laidKinds := [.data, .data, .data, .data, .sentinel, .sentinel, .pinned], laidTests := true, laidLooks := .later }
def LogReadsCardSaid : Prop := Claim7.holds Tryz.pinned (.plain (OpenSpec.ofChange logReadsSpec)) logReadsCard

/-- THE TIED CARD OF 'ballonetlaw09.LogSheets'. -/
def logSheetsCard : Claim7 := { stood := { row := logSheetsRow, standIns := [], harness := (true, "ca3a9b5aa83f7fb230105ef65314fd25214a4880a40a841d4384b08bd1c1f520"), looks := true }, kinds := [], alts := [], laidByText := true, laidKinds := [.data, .data, .data, .data, .sentinel, .sentinel, .listed, .data, .pinned], laidTests := true, laidLooks := .later }
def LogSheetsCardSaid : Prop := Claim7.holds Tryz.pinned (.plain (OpenSpec.ofChange logSheetsSpec)) logSheetsCard

/-- THE TIED CARD OF 'ballonetlaw09.LogRound'. -/
def logRoundCard : Claim7 := { stood := { row := logRoundRow, standIns := [], harness := (true, "ca3a9b5aa83f7fb230105ef65314fd25214a4880a40a841d4384b08bd1c1f520"), looks := true }, kinds := [], alts := [], laidByText := true, laidKinds := [.data, .data, .data, .data, .sentinel, .sentinel, .listed, .data, .pinned], laidTests := true, laidLooks := .later }
def LogRoundCardSaid : Prop := Claim7.holds Tryz.pinned (.plain (OpenSpec.ofChange logRoundSpec)) logRoundCard

/-- THE TIED CARD OF 'ballonetlaw09.LogChanged'. -/
def logChangedCard : Claim7 := { stood := { row := logChangedRow, standIns := [], harness := (true, "ca3a9b5aa83f7fb230105ef65314fd25214a4880a40a841d4384b08bd1c1f520"), looks := true }, kinds := [], alts := [], laidByText := true, laidKinds := [.data, .data, .data, .data, .sentinel, .sentinel, .listed, .data, .pinned], laidTests := true, laidLooks := .later }
def LogChangedCardSaid : Prop := Claim7.holds Tryz.pinned (.plain (OpenSpec.ofChange logChangedSpec)) logChangedCard

/-- THE TIED CARD OF 'ballonetlaw09.LogCut'. -/
def logCutCard : Claim7 := { stood := { row := logCutRow, standIns := [], harness := (true, "ca3a9b5aa83f7fb230105ef65314fd25214a4880a40a841d4384b08bd1c1f520"), looks := true }, kinds := [], alts := [], laidByText := true, laidKinds := [.data, .data, .data, .data, .sentinel, .sentinel, .listed, .data, .pinned], laidTests := true, laidLooks := .later }
def LogCutCardSaid : Prop := Claim7.holds Tryz.pinned (.plain (OpenSpec.ofChange logCutSpec)) logCutCard

/-- THE TIED CARD OF 'ballonetlaw09.LogLoaded'. -/
def logLoadedCard : Claim7 := { stood := { row := logLoadedRow, standIns := [], harness := (true, "ca3a9b5aa83f7fb230105ef65314fd25214a4880a40a841d4384b08bd1c1f520"), looks := true }, kinds := [], alts := [], laidByText := true, laidKinds := [.data, .data, .data, .data, .sentinel, .sentinel, .listed, .data, .pinned], laidTests := true, laidLooks := .later }
def LogLoadedCardSaid : Prop := Claim7.holds Tryz.pinned (.plain (OpenSpec.ofChange logLoadedSpec)) logLoadedCard

/-- THE TIED CARD OF 'ballonetlaw09.LogExamples'. -/
def logExamplesCard : Claim7 := { stood := { row := logExamplesRow, standIns := [], harness := (true, "ca3a9b5aa83f7fb230105ef65314fd25214a4880a40a841d4384b08bd1c1f520"), looks := true }, kinds := [], alts := [], laidByText := true, laidKinds := [.data, .data, .data, .data, .sentinel, .sentinel, .listed, .data, .pinned], laidTests := true, laidLooks := .later }
def LogExamplesCardSaid : Prop := Claim7.holds Tryz.pinned (.plain (OpenSpec.ofChange logExamplesSpec)) logExamplesCard

/-- THE TIED CARD OF 'ballonetlaw09.LogMerged'. -/
def logMergedCard : Claim7 := { stood := { row := logMergedRow, standIns := [], harness := (true, "ca3a9b5aa83f7fb230105ef65314fd25214a4880a40a841d4384b08bd1c1f520"), looks := true }, kinds := [], alts := [], laidByText := true, laidKinds := [.data, .data, .data, .data, .sentinel, .sentinel, .listed, .data, .pinned], laidTests := true, laidLooks := .later }
def LogMergedCardSaid : Prop := Claim7.holds Tryz.pinned (.plain (OpenSpec.ofChange logMergedSpec)) logMergedCard

/-- THE SECOND FORM's CARD OF 'ballonetlaw09.LogReads'. -/
def logReadsUptoCard : Claim7 := { stood := { row := logReadsUptoRow, standIns := [], harness := (true, "ca3a9b5aa83f7fb230105ef65314fd25214a4880a40a841d4384b08bd1c1f520"), looks := true }, kinds := [], alts := [], laidByText := true, laidKinds := [.data, .data, .data, .data, .sentinel, .sentinel, .pinned], laidTests := true, laidLooks := .later }
def LogReadsUptoCardSaid : Prop := Claim7.holds Tryz.pinned (.plain (OpenSpec.upto logReadsSpec)) logReadsUptoCard

/-- THE SECOND FORM's CARD OF 'ballonetlaw09.LogSheets'. -/
def logSheetsUptoCard : Claim7 := { stood := { row := logSheetsUptoRow, standIns := [], harness := (true, "ca3a9b5aa83f7fb230105ef65314fd25214a4880a40a841d4384b08bd1c1f520"), looks := true }, kinds := [], alts := [], laidByText := true, laidKinds := [.data, .data, .data, .data, .sentinel, .sentinel, .listed, .data, .pinned], laidTests := true, laidLooks := .later }
def LogSheetsUptoCardSaid : Prop := Claim7.holds Tryz.pinned (.plain (OpenSpec.upto logSheetsSpec)) logSheetsUptoCard

/-- THE SECOND FORM's CARD OF 'ballonetlaw09.LogRound'. -/
def logRoundUptoCard : Claim7 := { stood := { row := logRoundUptoRow, standIns := [], harness := (true, "ca3a9b5aa83f7fb230105ef65314fd25214a4880a40a841d4384b08bd1c1f520"), looks := true }, kinds := [], alts := [], laidByText := true, laidKinds := [.data, .data, .data, .data, .sentinel, .sentinel, .listed, .data, .pinned], laidTests := true, laidLooks := .later }
def LogRoundUptoCardSaid : Prop := Claim7.holds Tryz.pinned (.plain (OpenSpec.upto logRoundSpec)) logRoundUptoCard

/-- THE SECOND FORM's CARD OF 'ballonetlaw09.LogChanged'. -/
def logChangedUptoCard : Claim7 := { stood := { row := logChangedUptoRow, standIns := [], harness := (true, "ca3a9b5aa83f7fb230105ef65314fd25214a4880a40a841d4384b08bd1c1f520"), looks := true }, kinds := [], alts := [], laidByText := true, laidKinds := [.data, .data, .data, .data, .sentinel, .sentinel, .listed, .data, .pinned], laidTests := true, laidLooks := .later }
def LogChangedUptoCardSaid : Prop := Claim7.holds Tryz.pinned (.plain (OpenSpec.upto logChangedSpec)) logChangedUptoCard

/-- THE SECOND FORM's CARD OF 'ballonetlaw09.LogCut'. -/
def logCutUptoCard : Claim7 := { stood := { row := logCutUptoRow, standIns := [], harness := (true, "ca3a9b5aa83f7fb230105ef65314fd25214a4880a40a841d4384b08bd1c1f520"), looks := true }, kinds := [], alts := [], laidByText := true, laidKinds := [.data, .data, .data, .data, .sentinel, .sentinel, .listed, .data, .pinned], laidTests := true, laidLooks := .later }
def LogCutUptoCardSaid : Prop := Claim7.holds Tryz.pinned (.plain (OpenSpec.upto logCutSpec)) logCutUptoCard

/-- THE SECOND FORM's CARD OF 'ballonetlaw09.LogLoaded'. -/
def logLoadedUptoCard : Claim7 := { stood := { row := logLoadedUptoRow, standIns := [], harness := (true, "ca3a9b5aa83f7fb230105ef65314fd25214a4880a40a841d4384b08bd1c1f520"), looks := true }, kinds := [], alts := [], laidByText := true, laidKinds := [.data, .data, .data, .data, .sentinel, .sentinel, .listed, .data, .pinned], laidTests := true, laidLooks := .later }
def LogLoadedUptoCardSaid : Prop := Claim7.holds Tryz.pinned (.plain (OpenSpec.upto logLoadedSpec)) logLoadedUptoCard

/-- THE SECOND FORM's CARD OF 'ballonetlaw09.LogExamples'. -/
def logExamplesUptoCard : Claim7 := { stood := { row := logExamplesUptoRow, standIns := [], harness := (true, "ca3a9b5aa83f7fb230105ef65314fd25214a4880a40a841d4384b08bd1c1f520"), looks := true }, kinds := [], alts := [], laidByText := true, laidKinds := [.data, .data, .data, .data, .sentinel, .sentinel, .listed, .data, .pinned], laidTests := true, laidLooks := .later }
def LogExamplesUptoCardSaid : Prop := Claim7.holds Tryz.pinned (.plain (OpenSpec.upto logExamplesSpec)) logExamplesUptoCard

/-- THE SECOND FORM's CARD OF 'ballonetlaw09.LogMerged'. -/
def logMergedUptoCard : Claim7 := { stood := { row := logMergedUptoRow, standIns := [], harness := (true, "ca3a9b5aa83f7fb230105ef65314fd25214a4880a40a841d4384b08bd1c1f520"), looks := true }, kinds := [], alts := [], laidByText := true, laidKinds := [.data, .data, .data, .data, .sentinel, .sentinel, .listed, .data, .pinned], laidTests := true, laidLooks := .later }
def LogMergedUptoCardSaid : Prop := Claim7.holds Tryz.pinned (.plain (OpenSpec.upto logMergedSpec)) logMergedUptoCard
end Rows
end Go.Proofs.YtcaecmiedjnacaaGreatDoor
