/- Own lemmas, used by the last text. Conditions: those that each theorem states. -/
import Derived.ProofKit
import Derived.Test.YtigekgfbcfbobaaGreatRows
set_option maxRecDepth 200000
set_option maxHeartbeats 8000000
namespace Go.Proofs.YtigekgfbcfbobaaGreat
open Go
theorem AGh:((Rows.flightNarrowRow).wf (OpenSpec.ofChange Rows.flightNarrowSpec))=true:=by kernel_rfl
theorem AGi:(laidOutB Tryz.pinned.checked.prog)=true:=by kernel_rfl
theorem AGj:(mapsRowed Tryz.pinned.checked.prog)=true:=by kernel_rfl
theorem AGk:(Tryz.f15.params.all (Tryz.pinned.checked.prog.readableRec ·))=true:=by kernel_rfl
theorem AGl:(namedTie Tryz.pinned.checked.prog Rows.flightNarrowRow.named Rows.flightNarrowSpec.vars)=true:=by kernel_rfl
theorem AGm:((Rows.flightNarrowRow.stops == []))=true:=by kernel_rfl
theorem AGn:((Tryz.pinned.checked.prog.stops == []))=true:=by kernel_rfl
theorem AGo:((Rows.flightNarrowRow.knobs == []))=true:=by kernel_rfl
theorem AGp:((Tryz.pinned.checked.prog.stopKnobs == []))=true:=by kernel_rfl
theorem AGq:((Rows.flightNarrowRow.inPlace == Tryz.pinned.checked.prog.inPlace 15))=true:=by kernel_rfl
theorem cW:((Rows.flightNarrowRow.unfollowed == Tryz.pinned.checked.prog.unfollowed 15))=true:=by kernel_rfl
theorem gn:((Rows.flightNarrowRow.recurses == Tryz.pinned.checked.prog.recurses 15))=true:=by kernel_rfl
theorem gx:((Rows.flightNarrowRow.named == Tryz.pinned.checked.prog.varsNamed 15))=true:=by kernel_rfl
theorem gy:((Rows.flightNarrowRow.maps == (Tryz.f15.params.toList++Rows.flightNarrowSpec.plain.varTypes Tryz.pinned.checked.prog).any (Tryz.pinned.checked.prog.mapsRec ·)))=true:=by kernel_rfl
theorem wA:((Rows.flightNarrowRow.ifaces == (Tryz.f15.params.toList++Rows.flightNarrowSpec.plain.varTypes Tryz.pinned.checked.prog).any (Tryz.pinned.checked.prog.ifacesRec ·)))=true:=by kernel_rfl
theorem wE:((Rows.flightNarrowRow.mapsOut == Tryz.pinned.checked.prog.mapsAmong Tryz.f15.resultTypes.toList))=true:=by kernel_rfl
theorem AGO:((Rows.flightNarrowRow.loops == (Tryz.f15.params.toList++Rows.flightNarrowSpec.plain.varTypes Tryz.pinned.checked.prog).any (Tryz.pinned.checked.prog.loopsFrom ·)))=true:=by kernel_rfl
theorem AGP:((Rows.flightNarrowRow.wideKeys == (Tryz.f15.params.toList++Rows.flightNarrowSpec.plain.varTypes Tryz.pinned.checked.prog++Tryz.f15.resultTypes.toList).any (Tryz.pinned.checked.prog.wideKeysFrom ·)))=true:=by kernel_rfl
theorem AGQ:(Rows.flightNarrowSpec.vars.all (Tryz.pinned.checked.prog.varReadable ·))=true:=by kernel_rfl
theorem AGR:(Tryz.f15.resultTypes.all (fun t=>Tryz.pinned.checked.prog.readableRec t&&decide (t<Tryz.pinned.checked.prog.types.size)))=true:=by kernel_rfl
theorem AGS:((Rows.flightNarrowRow.ifacesOut == Tryz.f15.resultTypes.toList.any (Tryz.pinned.checked.prog.ifacesRec ·)))=true:=by kernel_rfl
theorem AGT:((Rows.flightNarrowRow.loopsOut == Tryz.f15.resultTypes.toList.any (Tryz.pinned.checked.prog.loopsFrom ·)))=true:=by kernel_rfl
theorem AGU:((Rows.flightNarrowRow.plainKeys == Tryz.pinned.checked.prog.plainKeys))=true:=by kernel_rfl
theorem AGV:(Rows.flightNarrowRow.shortTexts.isNone)=true:=by kernel_rfl
theorem AGW:(Tryz.pinned.checked.prog.stopsHeard)=true:=by kernel_rfl
theorem AGX:(Tryz.pinned.checked.prog.mayEnter)=true:=by kernel_rfl
theorem AGY:((Rows.flightNarrowRow.lifted == Tryz.pinned.checked.prog.liftsFinal))=true:=by kernel_rfl
theorem AGZ:((Tryz.pinned.checked.prog.make == some Rows.flightNarrowRow.make))=true:=by kernel_rfl
theorem AGa:((Rows.flightNarrowRow.kinds == (if Rows.flightNarrowRow.domain.isEmpty then [] else Tryz.f15.params.toList.map fun t=>match Tryz.pinned.checked.prog.underlying t with | some (.int k)=>some k | _=>none)))=true:=by kernel_rfl
theorem AGb:((Rows.flightNarrowRow.pinned == Rows.flightNarrowRow.pinnedBy))=true:=by kernel_rfl
theorem AGc:((Rows.flightNarrowRow.veiled == (Tryz.f15.params.toList++Rows.flightNarrowSpec.plain.varTypes Tryz.pinned.checked.prog++Tryz.f15.resultTypes.toList).any (Tryz.pinned.checked.prog.veiledRec ·)))=true:=by kernel_rfl
theorem AGd:(Rows.flightNarrowRow.veiledFits Tryz.pinned.checked.prog Tryz.f15.params.toList (Tryz.f15.params.toList++Rows.flightNarrowSpec.plain.varTypes Tryz.pinned.checked.prog++Tryz.f15.resultTypes.toList))=true:=by kernel_rfl
end Go.Proofs.YtigekgfbcfbobaaGreat
