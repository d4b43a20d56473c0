/- Own lemmas, used by the last text. Conditions: those that each theorem states. -/
import Derived.ProofKit
import Derived.Test.YtigekgfbcfbobaaGreatRows
set_option maxRecDepth 200000
set_option maxHeartbeats 8000000
namespace Go.Proofs.YtigekgfbcfbobaaGreat
open Go
theorem vK:((Rows.flightStepsRow).wf (OpenSpec.ofChange Rows.flightStepsSpec))=true:=by kernel_rfl
theorem vL:(laidOutB Tryz.pinned.checked.prog)=true:=by kernel_rfl
theorem vM:(mapsRowed Tryz.pinned.checked.prog)=true:=by kernel_rfl
theorem vN:(Tryz.f5.params.all (Tryz.pinned.checked.prog.readableRec ·))=true:=by kernel_rfl
theorem vO:(namedTie Tryz.pinned.checked.prog Rows.flightStepsRow.named Rows.flightStepsSpec.vars)=true:=by kernel_rfl
theorem vP:((Rows.flightStepsRow.stops == []))=true:=by kernel_rfl
theorem vQ:((Tryz.pinned.checked.prog.stops == []))=true:=by kernel_rfl
theorem vR:((Rows.flightStepsRow.knobs == []))=true:=by kernel_rfl
theorem vS:((Tryz.pinned.checked.prog.stopKnobs == []))=true:=by kernel_rfl
theorem vT:((Rows.flightStepsRow.inPlace == Tryz.pinned.checked.prog.inPlace 5))=true:=by kernel_rfl
theorem uC:((Rows.flightStepsRow.unfollowed == Tryz.pinned.checked.prog.unfollowed 5))=true:=by kernel_rfl
theorem uD:((Rows.flightStepsRow.recurses == Tryz.pinned.checked.prog.recurses 5))=true:=by kernel_rfl
theorem uE:((Rows.flightStepsRow.named == Tryz.pinned.checked.prog.varsNamed 5))=true:=by kernel_rfl
theorem uF:((Rows.flightStepsRow.maps == (Tryz.f5.params.toList++Rows.flightStepsSpec.plain.varTypes Tryz.pinned.checked.prog).any (Tryz.pinned.checked.prog.mapsRec ·)))=true:=by kernel_rfl
theorem uG:((Rows.flightStepsRow.ifaces == (Tryz.f5.params.toList++Rows.flightStepsSpec.plain.varTypes Tryz.pinned.checked.prog).any (Tryz.pinned.checked.prog.ifacesRec ·)))=true:=by kernel_rfl
theorem uH:((Rows.flightStepsRow.mapsOut == Tryz.pinned.checked.prog.mapsAmong Tryz.f5.resultTypes.toList))=true:=by kernel_rfl
theorem uI:((Rows.flightStepsRow.loops == (Tryz.f5.params.toList++Rows.flightStepsSpec.plain.varTypes Tryz.pinned.checked.prog).any (Tryz.pinned.checked.prog.loopsFrom ·)))=true:=by kernel_rfl
theorem uJ:((Rows.flightStepsRow.wideKeys == (Tryz.f5.params.toList++Rows.flightStepsSpec.plain.varTypes Tryz.pinned.checked.prog++Tryz.f5.resultTypes.toList).any (Tryz.pinned.checked.prog.wideKeysFrom ·)))=true:=by kernel_rfl
theorem uK:(Rows.flightStepsSpec.vars.all (Tryz.pinned.checked.prog.varReadable ·))=true:=by kernel_rfl
theorem uL:(Tryz.f5.resultTypes.all (fun t=>Tryz.pinned.checked.prog.readableRec t&&decide (t < Tryz.pinned.checked.prog.types.size)))=true:=by kernel_rfl
theorem uM:((Rows.flightStepsRow.ifacesOut == Tryz.f5.resultTypes.toList.any (Tryz.pinned.checked.prog.ifacesRec ·)))=true:=by kernel_rfl
theorem uN:((Rows.flightStepsRow.loopsOut == Tryz.f5.resultTypes.toList.any (Tryz.pinned.checked.prog.loopsFrom ·)))=true:=by kernel_rfl
theorem uO:((Rows.flightStepsRow.plainKeys == Tryz.pinned.checked.prog.plainKeys))=true:=by kernel_rfl
theorem uP:(Rows.flightStepsRow.shortTexts.isNone)=true:=by kernel_rfl
theorem uQ:(Tryz.pinned.checked.prog.stopsHeard)=true:=by kernel_rfl
theorem uR:(Tryz.pinned.checked.prog.mayEnter)=true:=by kernel_rfl
theorem uS:((Rows.flightStepsRow.lifted == Tryz.pinned.checked.prog.liftsFinal))=true:=by kernel_rfl
theorem uT:((Tryz.pinned.checked.prog.make == some Rows.flightStepsRow.make))=true:=by kernel_rfl
theorem uU:((Rows.flightStepsRow.kinds == (if Rows.flightStepsRow.domain.isEmpty then [] else Tryz.f5.params.toList.map fun t=>match Tryz.pinned.checked.prog.underlying t with | some (.int k)=>some k | _=>none)))=true:=by kernel_rfl
theorem uV:((Rows.flightStepsRow.pinned == Rows.flightStepsRow.pinnedBy))=true:=by kernel_rfl
theorem uW:((Rows.flightStepsRow.veiled == (Tryz.f5.params.toList++Rows.flightStepsSpec.plain.varTypes Tryz.pinned.checked.prog++Tryz.f5.resultTypes.toList).any (Tryz.pinned.checked.prog.veiledRec ·)))=true:=by kernel_rfl
theorem uX:(Rows.flightStepsRow.veiledFits Tryz.pinned.checked.prog Tryz.f5.params.toList (Tryz.f5.params.toList++Rows.flightStepsSpec.plain.varTypes Tryz.pinned.checked.prog++Tryz.f5.resultTypes.toList))=true:=by kernel_rfl
end Go.Proofs.YtigekgfbcfbobaaGreat
