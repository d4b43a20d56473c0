/- Own lemmas and contracts of functions, used by the last text of this claim for the given statement. Conditions: those that each theorem states. -/
import Derived.ProofKit
import Derived.Test.YtigekgfbcfbobaaGreatRows
namespace Go.Proofs.YtigekgfbcfbobaaGreat
open Go
theorem closed8_0 : ((Rows.flightConservesRow).wf (OpenSpec.ofChange Rows.flightConservesSpec)) = true := by kernel_rfl
theorem closed8_1 : (laidOutB Tryz.pinned.checked.prog) = true := by kernel_rfl
theorem closed8_2 : (mapsRowed Tryz.pinned.checked.prog) = true := by kernel_rfl
theorem closed8_3 : (Tryz.f8.params.all (Tryz.pinned.checked.prog.readableRec ·)) = true := by kernel_rfl
theorem closed8_4 : (namedTie Tryz.pinned.checked.prog Rows.flightConservesRow.named Rows.flightConservesSpec.vars) = true := by kernel_rfl
theorem closed8_5 : ((Rows.flightConservesRow.stops == [])) = true := by kernel_rfl
theorem closed8_6 : ((Tryz.pinned.checked.prog.stops == [])) = true := by kernel_rfl
theorem closed8_7 : ((Rows.flightConservesRow.knobs == [])) = true := by kernel_rfl
theorem closed8_8 : ((Tryz.pinned.checked.prog.stopKnobs == [])) = true := by kernel_rfl
theorem closed8_9 : ((Rows.flightConservesRow.inPlace == Tryz.pinned.checked.prog.inPlace 8)) = true := by kernel_rfl
theorem closed8_10 : ((Rows.flightConservesRow.unfollowed == Tryz.pinned.checked.prog.unfollowed 8)) = true := by kernel_rfl
theorem closed8_11 : ((Rows.flightConservesRow.recurses == Tryz.pinned.checked.prog.recurses 8)) = true := by kernel_rfl
theorem closed8_12 : ((Rows.flightConservesRow.named == Tryz.pinned.checked.prog.varsNamed 8)) = true := by kernel_rfl
theorem closed8_13 : ((Rows.flightConservesRow.maps == (Tryz.f8.params.toList ++ Rows.flightConservesSpec.plain.varTypes Tryz.pinned.checked.prog).any (Tryz.pinned.checked.prog.mapsRec ·))) = true := by kernel_rfl
theorem closed8_14 : ((Rows.flightConservesRow.ifaces == (Tryz.f8.params.toList ++ Rows.flightConservesSpec.plain.varTypes Tryz.pinned.checked.prog).any (Tryz.pinned.checked.prog.ifacesRec ·))) = true := by kernel_rfl
theorem closed8_15 : ((Rows.flightConservesRow.mapsOut == Tryz.pinned.checked.prog.mapsAmong Tryz.f8.resultTypes.toList)) = true := by kernel_rfl
theorem closed8_16 : ((Rows.flightConservesRow.loops == (Tryz.f8.params.toList ++ Rows.flightConservesSpec.plain.varTypes Tryz.pinned.checked.prog).any (Tryz.pinned.checked.prog.loopsFrom ·))) = true := by kernel_rfl
theorem closed8_17 : ((Rows.flightConservesRow.wideKeys == (Tryz.f8.params.toList ++ Rows.flightConservesSpec.plain.varTypes Tryz.pinned.checked.prog ++ Tryz.f8.resultTypes.toList).any (Tryz.pinned.checked.prog.wideKeysFrom ·))) = true := by kernel_rfl
theorem closed8_18 : (Rows.flightConservesSpec.vars.all (Tryz.pinned.checked.prog.varReadable ·)) = true := by kernel_rfl
theorem closed8_19 : (Tryz.f8.resultTypes.all (fun t => Tryz.pinned.checked.prog.readableRec t && decide (t < Tryz.pinned.checked.prog.types.size))) = true := by kernel_rfl
theorem closed8_20 : ((Rows.flightConservesRow.ifacesOut == Tryz.f8.resultTypes.toList.any (Tryz.pinned.checked.prog.ifacesRec ·))) = true := by kernel_rfl
theorem closed8_21 : ((Rows.flightConservesRow.loopsOut == Tryz.f8.resultTypes.toList.any (Tryz.pinned.checked.prog.loopsFrom ·))) = true := by kernel_rfl
theorem closed8_22 : ((Rows.flightConservesRow.plainKeys == Tryz.pinned.checked.prog.plainKeys)) = true := by kernel_rfl
theorem closed8_23 : (Rows.flightConservesRow.shortTexts.isNone) = true := by kernel_rfl
theorem closed8_24 : (Tryz.pinned.checked.prog.stopsHeard) = true := by kernel_rfl
theorem closed8_25 : (Tryz.pinned.checked.prog.mayEnter) = true := by kernel_rfl
theorem closed8_26 : ((Rows.flightConservesRow.lifted == Tryz.pinned.checked.prog.liftsFinal)) = true := by kernel_rfl
theorem closed8_27 : ((Tryz.pinned.checked.prog.make == some Rows.flightConservesRow.make)) = true := by kernel_rfl
theorem closed8_28 : ((Rows.flightConservesRow.kinds == (if Rows.flightConservesRow.domain.isEmpty then [] else Tryz.f8.params.toList.map fun t => match Tryz.pinned.checked.prog.underlying t with | some (.int k) => some k | _ => none))) = true := by kernel_rfl
theorem closed8_29 : ((Rows.flightConservesRow.pinned == Rows.flightConservesRow.pinnedBy)) = true := by kernel_rfl
theorem closed8_30 : ((Rows.flightConservesRow.veiled == (Tryz.f8.params.toList ++ Rows.flightConservesSpec.plain.varTypes Tryz.pinned.checked.prog ++ Tryz.f8.resultTypes.toList).any (Tryz.pinned.checked.prog.veiledRec ·))) = true := by kernel_rfl
theorem closed8_31 : (Rows.flightConservesRow.veiledFits Tryz.pinned.checked.prog Tryz.f8.params.toList (Tryz.f8.params.toList ++ Rows.flightConservesSpec.plain.varTypes Tryz.pinned.checked.prog ++ Tryz.f8.resultTypes.toList)) = true := by kernel_rfl
end Go.Proofs.YtigekgfbcfbobaaGreat
