/- Own lemmas and contracts of functions, used by the last text of this claim for the given statement. Conditions: those that each theorem states. -/
import Derived.ProofKit
import Derived.Test.YtigekgfbcfbobaaGreatRows
namespace Go.Proofs.YtigekgfbcfbobaaGreat
open Go
theorem closed12_0 : ((Rows.flightTopsRow).wf (OpenSpec.ofChange Rows.flightTopsSpec)) = true := by kernel_rfl
theorem closed12_1 : (laidOutB Tryz.pinned.checked.prog) = true := by kernel_rfl
theorem closed12_2 : (mapsRowed Tryz.pinned.checked.prog) = true := by kernel_rfl
theorem closed12_3 : (Tryz.f12.params.all (Tryz.pinned.checked.prog.readableRec ·)) = true := by kernel_rfl
theorem closed12_4 : (namedTie Tryz.pinned.checked.prog Rows.flightTopsRow.named Rows.flightTopsSpec.vars) = true := by kernel_rfl
theorem closed12_5 : ((Rows.flightTopsRow.stops == [])) = true := by kernel_rfl
theorem closed12_6 : ((Tryz.pinned.checked.prog.stops == [])) = true := by kernel_rfl
theorem closed12_7 : ((Rows.flightTopsRow.knobs == [])) = true := by kernel_rfl
theorem closed12_8 : ((Tryz.pinned.checked.prog.stopKnobs == [])) = true := by kernel_rfl
theorem closed12_9 : ((Rows.flightTopsRow.inPlace == Tryz.pinned.checked.prog.inPlace 12)) = true := by kernel_rfl
theorem closed12_10 : ((Rows.flightTopsRow.unfollowed == Tryz.pinned.checked.prog.unfollowed 12)) = true := by kernel_rfl
theorem closed12_11 : ((Rows.flightTopsRow.recurses == Tryz.pinned.checked.prog.recurses 12)) = true := by kernel_rfl
theorem closed12_12 : ((Rows.flightTopsRow.named == Tryz.pinned.checked.prog.varsNamed 12)) = true := by kernel_rfl
theorem closed12_13 : ((Rows.flightTopsRow.maps == (Tryz.f12.params.toList ++ Rows.flightTopsSpec.plain.varTypes Tryz.pinned.checked.prog).any (Tryz.pinned.checked.prog.mapsRec ·))) = true := by kernel_rfl
theorem closed12_14 : ((Rows.flightTopsRow.ifaces == (Tryz.f12.params.toList ++ Rows.flightTopsSpec.plain.varTypes Tryz.pinned.checked.prog).any (Tryz.pinned.checked.prog.ifacesRec ·))) = true := by kernel_rfl
theorem closed12_15 : ((Rows.flightTopsRow.mapsOut == Tryz.pinned.checked.prog.mapsAmong Tryz.f12.resultTypes.toList)) = true := by kernel_rfl
theorem closed12_16 : ((Rows.flightTopsRow.loops == (Tryz.f12.params.toList ++ Rows.flightTopsSpec.plain.varTypes Tryz.pinned.checked.prog).any (Tryz.pinned.checked.prog.loopsFrom ·))) = true := by kernel_rfl
theorem closed12_17 : ((Rows.flightTopsRow.wideKeys == (Tryz.f12.params.toList ++ Rows.flightTopsSpec.plain.varTypes Tryz.pinned.checked.prog ++ Tryz.f12.resultTypes.toList).any (Tryz.pinned.checked.prog.wideKeysFrom ·))) = true := by kernel_rfl
theorem closed12_18 : (Rows.flightTopsSpec.vars.all (Tryz.pinned.checked.prog.varReadable ·)) = true := by kernel_rfl
theorem closed12_19 : (Tryz.f12.resultTypes.all (fun t => Tryz.pinned.checked.prog.readableRec t && decide (t < Tryz.pinned.checked.prog.types.size))) = true := by kernel_rfl
theorem closed12_20 : ((Rows.flightTopsRow.ifacesOut == Tryz.f12.resultTypes.toList.any (Tryz.pinned.checked.prog.ifacesRec ·))) = true := by kernel_rfl
theorem closed12_21 : ((Rows.flightTopsRow.loopsOut == Tryz.f12.resultTypes.toList.any (Tryz.pinned.checked.prog.loopsFrom ·))) = true := by kernel_rfl
theorem closed12_22 : ((Rows.flightTopsRow.plainKeys == Tryz.pinned.checked.prog.plainKeys)) = true := by kernel_rfl
theorem closed12_23 : (Rows.flightTopsRow.shortTexts.isNone) = true := by kernel_rfl
theorem closed12_24 : (Tryz.pinned.checked.prog.stopsHeard) = true := by kernel_rfl
theorem closed12_25 : (Tryz.pinned.checked.prog.mayEnter) = true := by kernel_rfl
theorem closed12_26 : ((Rows.flightTopsRow.lifted == Tryz.pinned.checked.prog.liftsFinal)) = true := by kernel_rfl
theorem closed12_27 : ((Tryz.pinned.checked.prog.make == some Rows.flightTopsRow.make)) = true := by kernel_rfl
theorem closed12_28 : ((Rows.flightTopsRow.kinds == (if Rows.flightTopsRow.domain.isEmpty then [] else Tryz.f12.params.toList.map fun t => match Tryz.pinned.checked.prog.underlying t with | some (.int k) => some k | _ => none))) = true := by kernel_rfl
theorem closed12_29 : ((Rows.flightTopsRow.pinned == Rows.flightTopsRow.pinnedBy)) = true := by kernel_rfl
theorem closed12_30 : ((Rows.flightTopsRow.veiled == (Tryz.f12.params.toList ++ Rows.flightTopsSpec.plain.varTypes Tryz.pinned.checked.prog ++ Tryz.f12.resultTypes.toList).any (Tryz.pinned.checked.prog.veiledRec ·))) = true := by kernel_rfl
theorem closed12_31 : (Rows.flightTopsRow.veiledFits Tryz.pinned.checked.prog Tryz.f12.params.toList (Tryz.f12.params.toList ++ Rows.flightTopsSpec.plain.varTypes Tryz.pinned.checked.prog ++ Tryz.f12.resultTypes.toList)) = true := by kernel_rfl
end Go.Proofs.YtigekgfbcfbobaaGreat
