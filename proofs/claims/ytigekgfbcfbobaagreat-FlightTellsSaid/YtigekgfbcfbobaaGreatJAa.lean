/- Own lemmas and contracts of functions, used by the last text of this claim for the given statement. Conditions: those that each theorem states. -/
import Derived.Test.YtigekgfbcfbobaaGreatRows
import Derived.ProofKit
namespace Go.Proofs.YtigekgfbcfbobaaGreat
open Go
theorem closed3_0 : ((Rows.flightTellsRow).wf (OpenSpec.ofChange Rows.flightTellsSpec)) = true := by kernel_rfl
theorem closed3_1 : (laidOutB Tryz.pinned.checked.prog) = true := by kernel_rfl
theorem closed3_2 : (mapsRowed Tryz.pinned.checked.prog) = true := by kernel_rfl
theorem closed3_3 : (Tryz.f3.params.all (Tryz.pinned.checked.prog.readableRec ·)) = true := by kernel_rfl
theorem closed3_4 : (namedTie Tryz.pinned.checked.prog Rows.flightTellsRow.named Rows.flightTellsSpec.vars) = true := by kernel_rfl
theorem closed3_5 : ((Rows.flightTellsRow.stops == [])) = true := by kernel_rfl
theorem closed3_6 : ((Tryz.pinned.checked.prog.stops == [])) = true := by kernel_rfl
theorem closed3_7 : ((Rows.flightTellsRow.knobs == [])) = true := by kernel_rfl
theorem closed3_8 : ((Tryz.pinned.checked.prog.stopKnobs == [])) = true := by kernel_rfl
theorem closed3_9 : ((Rows.flightTellsRow.inPlace == Tryz.pinned.checked.prog.inPlace 3)) = true := by kernel_rfl
theorem closed3_10 : ((Rows.flightTellsRow.unfollowed == Tryz.pinned.checked.prog.unfollowed 3)) = true := by kernel_rfl
theorem closed3_11 : ((Rows.flightTellsRow.recurses == Tryz.pinned.checked.prog.recurses 3)) = true := by kernel_rfl
theorem closed3_12 : ((Rows.flightTellsRow.named == Tryz.pinned.checked.prog.varsNamed 3)) = true := by kernel_rfl
theorem closed3_13 : ((Rows.flightTellsRow.maps == (Tryz.f3.params.toList ++ Rows.flightTellsSpec.plain.varTypes Tryz.pinned.checked.prog).any (Tryz.pinned.checked.prog.mapsRec ·))) = true := by kernel_rfl
theorem closed3_14 : ((Rows.flightTellsRow.ifaces == (Tryz.f3.params.toList ++ Rows.flightTellsSpec.plain.varTypes Tryz.pinned.checked.prog).any (Tryz.pinned.checked.prog.ifacesRec ·))) = true := by kernel_rfl
theorem closed3_15 : ((Rows.flightTellsRow.mapsOut == Tryz.pinned.checked.prog.mapsAmong Tryz.f3.resultTypes.toList)) = true := by kernel_rfl
theorem closed3_16 : ((Rows.flightTellsRow.loops == (Tryz.f3.params.toList ++ Rows.flightTellsSpec.plain.varTypes Tryz.pinned.checked.prog).any (Tryz.pinned.checked.prog.loopsFrom ·))) = true := by kernel_rfl
theorem closed3_17 : ((Rows.flightTellsRow.wideKeys == (Tryz.f3.params.toList ++ Rows.flightTellsSpec.plain.varTypes Tryz.pinned.checked.prog ++ Tryz.f3.resultTypes.toList).any (Tryz.pinned.checked.prog.wideKeysFrom ·))) = true := by kernel_rfl
theorem closed3_18 : (Rows.flightTellsSpec.vars.all (Tryz.pinned.checked.prog.varReadable ·)) = true := by kernel_rfl
theorem closed3_19 : (Tryz.f3.resultTypes.all (fun t => Tryz.pinned.checked.prog.readableRec t && decide (t < Tryz.pinned.checked.prog.types.size))) = true := by kernel_rfl
theorem closed3_20 : ((Rows.flightTellsRow.ifacesOut == Tryz.f3.resultTypes.toList.any (Tryz.pinned.checked.prog.ifacesRec ·))) = true := by kernel_rfl
theorem closed3_21 : ((Rows.flightTellsRow.loopsOut == Tryz.f3.resultTypes.toList.any (Tryz.pinned.checked.prog.loopsFrom ·))) = true := by kernel_rfl
theorem closed3_22 : ((Rows.flightTellsRow.plainKeys == Tryz.pinned.checked.prog.plainKeys)) = true := by kernel_rfl
theorem closed3_23 : (Rows.flightTellsRow.shortTexts.isNone) = true := by kernel_rfl
theorem closed3_24 : (Tryz.pinned.checked.prog.stopsHeard) = true := by kernel_rfl
theorem closed3_25 : (Tryz.pinned.checked.prog.mayEnter) = true := by kernel_rfl
theorem closed3_26 : ((Rows.flightTellsRow.lifted == Tryz.pinned.checked.prog.liftsFinal)) = true := by kernel_rfl
theorem closed3_27 : ((Tryz.pinned.checked.prog.make == some Rows.flightTellsRow.make)) = true := by kernel_rfl
theorem closed3_28 : ((Rows.flightTellsRow.kinds == (if Rows.flightTellsRow.domain.isEmpty then [] else Tryz.f3.params.toList.map fun t => match Tryz.pinned.checked.prog.underlying t with | some (.int k) => some k | _ => none))) = true := by kernel_rfl
theorem closed3_29 : ((Rows.flightTellsRow.pinned == Rows.flightTellsRow.pinnedBy)) = true := by kernel_rfl
theorem closed3_30 : ((Rows.flightTellsRow.veiled == (Tryz.f3.params.toList ++ Rows.flightTellsSpec.plain.varTypes Tryz.pinned.checked.prog ++ Tryz.f3.resultTypes.toList).any (Tryz.pinned.checked.prog.veiledRec ·))) = true := by kernel_rfl
theorem closed3_31 : (Rows.flightTellsRow.veiledFits Tryz.pinned.checked.prog Tryz.f3.params.toList (Tryz.f3.params.toList ++ Rows.flightTellsSpec.plain.varTypes Tryz.pinned.checked.prog ++ Tryz.f3.resultTypes.toList)) = true := by kernel_rfl
end Go.Proofs.YtigekgfbcfbobaaGreat
