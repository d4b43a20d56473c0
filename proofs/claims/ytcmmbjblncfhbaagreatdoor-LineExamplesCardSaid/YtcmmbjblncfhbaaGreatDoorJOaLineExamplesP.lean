/- Own lemmas, used by the last text. Conditions: those that each theorem states. -/
import Derived.ProofKit
import Derived.Test.YtcmmbjblncfhbaaGreatDoorRows
set_option maxRecDepth 200000
set_option maxHeartbeats 8000000
namespace Go.Proofs.YtcmmbjblncfhbaaGreatDoor
open Go
theorem closed3_0 : ((Rows.lineExamplesRow).wf (OpenSpec.ofChange (OpenSpec.ofChange Rows.lineExamplesSpec).bare)) = true := by kernel_rfl
theorem closed3_1 : (laidOutB Tryz.pinned.checked.prog) = true := by kernel_rfl
theorem closed3_2 : (mapsRowed Tryz.pinned.checked.prog) = true := by kernel_rfl
theorem closed3_3 : (Tryz.f3.params.all (Tryz.pinned.checked.prog.readableRec ·)) = true := by kernel_rfl
theorem closed3_4 : (namedTie Tryz.pinned.checked.prog Rows.lineExamplesRow.named (OpenSpec.ofChange Rows.lineExamplesSpec).bare.vars) = true := by kernel_rfl
theorem closed3_5 : ((Rows.lineExamplesRow.stops == [])) = true := by kernel_rfl
theorem closed3_6 : ((Tryz.pinned.checked.prog.stops == [])) = true := by kernel_rfl
theorem closed3_7 : ((Rows.lineExamplesRow.knobs == [])) = true := by kernel_rfl
theorem closed3_8 : ((Tryz.pinned.checked.prog.stopKnobs == [])) = true := by kernel_rfl
theorem closed3_9 : ((Rows.lineExamplesRow.inPlace == Tryz.pinned.checked.prog.inPlace 3)) = true := by kernel_rfl
theorem closed3_10 : ((Rows.lineExamplesRow.unfollowed == Tryz.pinned.checked.prog.unfollowed 3)) = true := by kernel_rfl
theorem closed3_11 : ((Rows.lineExamplesRow.recurses == Tryz.pinned.checked.prog.recurses 3)) = true := by kernel_rfl
theorem closed3_12 : ((Rows.lineExamplesRow.named == Tryz.pinned.checked.prog.varsNamed 3)) = true := by kernel_rfl
theorem closed3_13 : ((Rows.lineExamplesRow.maps == (Tryz.f3.params.toList ++ (OpenSpec.ofChange Rows.lineExamplesSpec).bare.plain.varTypes Tryz.pinned.checked.prog).any (Tryz.pinned.checked.prog.mapsRec ·))) = true := by kernel_rfl
theorem closed3_14 : ((Rows.lineExamplesRow.ifaces == (Tryz.f3.params.toList ++ (OpenSpec.ofChange Rows.lineExamplesSpec).bare.plain.varTypes Tryz.pinned.checked.prog).any (Tryz.pinned.checked.prog.ifacesRec ·))) = true := by kernel_rfl
theorem closed3_15 : ((Rows.lineExamplesRow.mapsOut == Tryz.pinned.checked.prog.mapsAmong Tryz.f3.resultTypes.toList)) = true := by kernel_rfl
theorem closed3_16 : ((Rows.lineExamplesRow.loops == (Tryz.f3.params.toList ++ (OpenSpec.ofChange Rows.lineExamplesSpec).bare.plain.varTypes Tryz.pinned.checked.prog).any (Tryz.pinned.checked.prog.loopsFrom ·))) = true := by kernel_rfl
theorem closed3_17 : ((Rows.lineExamplesRow.wideKeys == (Tryz.f3.params.toList ++ (OpenSpec.ofChange Rows.lineExamplesSpec).bare.plain.varTypes Tryz.pinned.checked.prog ++ Tryz.f3.resultTypes.toList).any (Tryz.pinned.checked.prog.wideKeysFrom ·))) = true := by kernel_rfl
theorem closed3_18 : ((OpenSpec.ofChange Rows.lineExamplesSpec).bare.vars.all (Tryz.pinned.checked.prog.varReadable ·)) = true := by kernel_rfl
theorem closed3_19 : (Tryz.f3.resultTypes.all (fun t => Tryz.pinned.checked.prog.readableRec t && decide (t < Tryz.pinned.checked.prog.types.size))) = true := by kernel_rfl
theorem closed3_20 : ((Rows.lineExamplesRow.ifacesOut == Tryz.f3.resultTypes.toList.any (Tryz.pinned.checked.prog.ifacesRec ·))) = true := by kernel_rfl
theorem closed3_21 : ((Rows.lineExamplesRow.loopsOut == Tryz.f3.resultTypes.toList.any (Tryz.pinned.checked.prog.loopsFrom ·))) = true := by kernel_rfl
theorem closed3_22 : ((Rows.lineExamplesRow.plainKeys == Tryz.pinned.checked.prog.plainKeys)) = true := by kernel_rfl
theorem closed3_23 : (Rows.lineExamplesRow.shortTexts.isNone) = true := by kernel_rfl
theorem closed3_24 : (Tryz.pinned.checked.prog.stopsHeard) = true := by kernel_rfl
theorem closed3_25 : (Tryz.pinned.checked.prog.mayEnter) = true := by kernel_rfl
theorem closed3_26 : ((Rows.lineExamplesRow.lifted == Tryz.pinned.checked.prog.liftsFinal)) = true := by kernel_rfl
theorem closed3_27 : ((Tryz.pinned.checked.prog.make == some Rows.lineExamplesRow.make)) = true := by kernel_rfl
theorem closed3_28 : ((Rows.lineExamplesRow.kinds == (if Rows.lineExamplesRow.domain.isEmpty then [] else Tryz.f3.params.toList.map fun t => match Tryz.pinned.checked.prog.underlying t with | some (.int k) => some k | _ => none))) = true := by kernel_rfl
theorem closed3_29 : ((Rows.lineExamplesRow.pinned == Rows.lineExamplesRow.pinnedBy)) = true := by kernel_rfl
theorem closed3_30 : ((Rows.lineExamplesRow.veiled == (Tryz.f3.params.toList ++ (OpenSpec.ofChange Rows.lineExamplesSpec).bare.plain.varTypes Tryz.pinned.checked.prog ++ Tryz.f3.resultTypes.toList).any (Tryz.pinned.checked.prog.veiledRec ·))) = true := by kernel_rfl
theorem closed3_31 : (Rows.lineExamplesRow.veiledFits Tryz.pinned.checked.prog Tryz.f3.params.toList (Tryz.f3.params.toList ++ (OpenSpec.ofChange Rows.lineExamplesSpec).bare.plain.varTypes Tryz.pinned.checked.prog ++ Tryz.f3.resultTypes.toList)) = true := by kernel_rfl
end Go.Proofs.YtcmmbjblncfhbaaGreatDoor
