/- Own lemmas and contracts of functions, used by the last text of this claim for the given statement. Conditions: those that each theorem states. -/
import Derived.Test.YtigekgfbcfbobaaGreatRows
import Derived.ProofKit
namespace Go.Proofs.YtigekgfbcfbobaaGreat
open Go
theorem closed4_0 : ((Rows.flightChecksRow).wf (OpenSpec.ofChange Rows.flightChecksSpec)) = true := by kernel_rfl
theorem closed4_1 : (laidOutB Tryz.pinned.checked.prog) = true := by kernel_rfl
theorem closed4_2 : (mapsRowed Tryz.pinned.checked.prog) = true := by kernel_rfl
theorem closed4_3 : (Tryz.f4.params.all (Tryz.pinned.checked.prog.readableRec ·)) = true := by kernel_rfl
theorem closed4_4 : (namedTie Tryz.pinned.checked.prog Rows.flightChecksRow.named Rows.flightChecksSpec.vars) = true := by kernel_rfl
theorem closed4_5 : ((Rows.flightChecksRow.stops == [])) = true := by kernel_rfl
theorem closed4_6 : ((Tryz.pinned.checked.prog.stops == [])) = true := by kernel_rfl
theorem closed4_7 : ((Rows.flightChecksRow.knobs == [])) = true := by kernel_rfl
theorem closed4_8 : ((Tryz.pinned.checked.prog.stopKnobs == [])) = true := by kernel_rfl
theorem closed4_9 : ((Rows.flightChecksRow.inPlace == Tryz.pinned.checked.prog.inPlace 4)) = true := by kernel_rfl
theorem closed4_10 : ((Rows.flightChecksRow.unfollowed == Tryz.pinned.checked.prog.unfollowed 4)) = true := by kernel_rfl
theorem closed4_11 : ((Rows.flightChecksRow.recurses == Tryz.pinned.checked.prog.recurses 4)) = true := by kernel_rfl
theorem closed4_12 : ((Rows.flightChecksRow.named == Tryz.pinned.checked.prog.varsNamed 4)) = true := by kernel_rfl
theorem closed4_13 : ((Rows.flightChecksRow.maps == (Tryz.f4.params.toList ++ Rows.flightChecksSpec.plain.varTypes Tryz.pinned.checked.prog).any (Tryz.pinned.checked.prog.mapsRec ·))) = true := by kernel_rfl
theorem closed4_14 : ((Rows.flightChecksRow.ifaces == (Tryz.f4.params.toList ++ Rows.flightChecksSpec.plain.varTypes Tryz.pinned.checked.prog).any (Tryz.pinned.checked.prog.ifacesRec ·))) = true := by kernel_rfl
theorem closed4_15 : ((Rows.flightChecksRow.mapsOut == Tryz.pinned.checked.prog.mapsAmong Tryz.f4.resultTypes.toList)) = true := by kernel_rfl
theorem closed4_16 : ((Rows.flightChecksRow.loops == (Tryz.f4.params.toList ++ Rows.flightChecksSpec.plain.varTypes Tryz.pinned.checked.prog).any (Tryz.pinned.checked.prog.loopsFrom ·))) = true := by kernel_rfl
theorem closed4_17 : ((Rows.flightChecksRow.wideKeys == (Tryz.f4.params.toList ++ Rows.flightChecksSpec.plain.varTypes Tryz.pinned.checked.prog ++ Tryz.f4.resultTypes.toList).any (Tryz.pinned.checked.prog.wideKeysFrom ·))) = true := by kernel_rfl
theorem closed4_18 : (Rows.flightChecksSpec.vars.all (Tryz.pinned.checked.prog.varReadable ·)) = true := by kernel_rfl
theorem closed4_19 : (Tryz.f4.resultTypes.all (fun t => Tryz.pinned.checked.prog.readableRec t && decide (t < Tryz.pinned.checked.prog.types.size))) = true := by kernel_rfl
theorem closed4_20 : ((Rows.flightChecksRow.ifacesOut == Tryz.f4.resultTypes.toList.any (Tryz.pinned.checked.prog.ifacesRec ·))) = true := by kernel_rfl
theorem closed4_21 : ((Rows.flightChecksRow.loopsOut == Tryz.f4.resultTypes.toList.any (Tryz.pinned.checked.prog.loopsFrom ·))) = true := by kernel_rfl
theorem closed4_22 : ((Rows.flightChecksRow.plainKeys == Tryz.pinned.checked.prog.plainKeys)) = true := by kernel_rfl
theorem closed4_23 : (Rows.flightChecksRow.shortTexts.isNone) = true := by kernel_rfl
theorem closed4_24 : (Tryz.pinned.checked.prog.stopsHeard) = true := by kernel_rfl
theorem closed4_25 : (Tryz.pinned.checked.prog.mayEnter) = true := by kernel_rfl
theorem closed4_26 : ((Rows.flightChecksRow.lifted == Tryz.pinned.checked.prog.liftsFinal)) = true := by kernel_rfl
theorem closed4_27 : ((Tryz.pinned.checked.prog.make == some Rows.flightChecksRow.make)) = true := by kernel_rfl
theorem closed4_28 : ((Rows.flightChecksRow.kinds == (if Rows.flightChecksRow.domain.isEmpty then [] else Tryz.f4.params.toList.map fun t => match Tryz.pinned.checked.prog.underlying t with | some (.int k) => some k | _ => none))) = true := by kernel_rfl
theorem closed4_29 : ((Rows.flightChecksRow.pinned == Rows.flightChecksRow.pinnedBy)) = true := by kernel_rfl
theorem closed4_30 : ((Rows.flightChecksRow.veiled == (Tryz.f4.params.toList ++ Rows.flightChecksSpec.plain.varTypes Tryz.pinned.checked.prog ++ Tryz.f4.resultTypes.toList).any (Tryz.pinned.checked.prog.veiledRec ·))) = true := by kernel_rfl
theorem closed4_31 : (Rows.flightChecksRow.veiledFits Tryz.pinned.checked.prog Tryz.f4.params.toList (Tryz.f4.params.toList ++ Rows.flightChecksSpec.plain.varTypes Tryz.pinned.checked.prog ++ Tryz.f4.resultTypes.toList)) = true := by kernel_rfl
end Go.Proofs.YtigekgfbcfbobaaGreat
