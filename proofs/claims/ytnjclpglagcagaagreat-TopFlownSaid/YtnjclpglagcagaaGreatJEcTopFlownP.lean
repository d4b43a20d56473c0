/- Own lemmas, used by the last text. Conditions: those that each theorem states. -/
import Derived.ProofKit
import Derived.Test.YtnjclpglagcagaaGreatRows
set_option maxRecDepth 200000
set_option maxHeartbeats 8000000
namespace Go.Proofs.YtnjclpglagcagaaGreat
open Go
theorem vK:((Rows.topFlownRow).wf (OpenSpec.ofChange Rows.topFlownSpec))=true:=by kernel_rfl
theorem vL:(laidOutB Tryz.pinned.checked.prog)=true:=by kernel_rfl
theorem vM:(mapsRowed Tryz.pinned.checked.prog)=true:=by kernel_rfl
theorem vN:(Tryz.f5.params.all (Tryz.pinned.checked.prog.readableRec ·))=true:=by kernel_rfl
theorem vO:(namedTie Tryz.pinned.checked.prog Rows.topFlownRow.named Rows.topFlownSpec.vars)=true:=by kernel_rfl
theorem vP:((Rows.topFlownRow.stops == []))=true:=by kernel_rfl
theorem vQ:((Tryz.pinned.checked.prog.stops == []))=true:=by kernel_rfl
theorem vR:((Rows.topFlownRow.knobs == []))=true:=by kernel_rfl
theorem vS:((Tryz.pinned.checked.prog.stopKnobs == []))=true:=by kernel_rfl
theorem vT:((Rows.topFlownRow.inPlace == Tryz.pinned.checked.prog.inPlace 5))=true:=by kernel_rfl
theorem uC:((Rows.topFlownRow.unfollowed == Tryz.pinned.checked.prog.unfollowed 5))=true:=by kernel_rfl
theorem uD:((Rows.topFlownRow.recurses == Tryz.pinned.checked.prog.recurses 5))=true:=by kernel_rfl
theorem uE:((Rows.topFlownRow.named == Tryz.pinned.checked.prog.varsNamed 5))=true:=by kernel_rfl
theorem uF:((Rows.topFlownRow.maps == (Tryz.f5.params.toList++Rows.topFlownSpec.plain.varTypes Tryz.pinned.checked.prog).any (Tryz.pinned.checked.prog.mapsRec ·)))=true:=by kernel_rfl
theorem uG:((Rows.topFlownRow.ifaces == (Tryz.f5.params.toList++Rows.topFlownSpec.plain.varTypes Tryz.pinned.checked.prog).any (Tryz.pinned.checked.prog.ifacesRec ·)))=true:=by kernel_rfl
theorem uH:((Rows.topFlownRow.mapsOut == Tryz.pinned.checked.prog.mapsAmong Tryz.f5.resultTypes.toList))=true:=by kernel_rfl
theorem uI:((Rows.topFlownRow.loops == (Tryz.f5.params.toList++Rows.topFlownSpec.plain.varTypes Tryz.pinned.checked.prog).any (Tryz.pinned.checked.prog.loopsFrom ·)))=true:=by kernel_rfl
theorem uJ:((Rows.topFlownRow.wideKeys == (Tryz.f5.params.toList++Rows.topFlownSpec.plain.varTypes Tryz.pinned.checked.prog++Tryz.f5.resultTypes.toList).any (Tryz.pinned.checked.prog.wideKeysFrom ·)))=true:=by kernel_rfl
theorem uK:(Rows.topFlownSpec.vars.all (Tryz.pinned.checked.prog.varReadable ·))=true:=by kernel_rfl
theorem uL:(Tryz.f5.resultTypes.all (fun t=>Tryz.pinned.checked.prog.readableRec t&&decide (t<Tryz.pinned.checked.prog.types.size)))=true:=by kernel_rfl
theorem uM:((Rows.topFlownRow.ifacesOut == Tryz.f5.resultTypes.toList.any (Tryz.pinned.checked.prog.ifacesRec ·)))=true:=by kernel_rfl
theorem uN:((Rows.topFlownRow.loopsOut == Tryz.f5.resultTypes.toList.any (Tryz.pinned.checked.prog.loopsFrom ·)))=true:=by kernel_rfl
theorem uO:((Rows.topFlownRow.plainKeys == Tryz.pinned.checked.prog.plainKeys))=true:=by kernel_rfl
theorem uP:(Rows.topFlownRow.shortTexts.isNone)=true:=by kernel_rfl
theorem uQ:(Tryz.pinned.checked.prog.stopsHeard)=true:=by kernel_rfl
theorem uR:(Tryz.pinned.checked.prog.mayEnter)=true:=by kernel_rfl
theorem uS:((Rows.topFlownRow.lifted == Tryz.pinned.checked.prog.liftsFinal))=true:=by kernel_rfl
theorem uT:((Tryz.pinned.checked.prog.make == some Rows.topFlownRow.make))=true:=by kernel_rfl
theorem uU:((Rows.topFlownRow.kinds == (if Rows.topFlownRow.domain.isEmpty then [] else Tryz.f5.params.toList.map fun t=>match Tryz.pinned.checked.prog.underlying t with | some (.int k)=>some k | _=>none)))=true:=by kernel_rfl
theorem uV:((Rows.topFlownRow.pinned == Rows.topFlownRow.pinnedBy))=true:=by kernel_rfl
theorem uW:((Rows.topFlownRow.veiled == (Tryz.f5.params.toList++Rows.topFlownSpec.plain.varTypes Tryz.pinned.checked.prog++Tryz.f5.resultTypes.toList).any (Tryz.pinned.checked.prog.veiledRec ·)))=true:=by kernel_rfl
theorem uX:(Rows.topFlownRow.veiledFits Tryz.pinned.checked.prog Tryz.f5.params.toList (Tryz.f5.params.toList++Rows.topFlownSpec.plain.varTypes Tryz.pinned.checked.prog++Tryz.f5.resultTypes.toList))=true:=by kernel_rfl
end Go.Proofs.YtnjclpglagcagaaGreat
