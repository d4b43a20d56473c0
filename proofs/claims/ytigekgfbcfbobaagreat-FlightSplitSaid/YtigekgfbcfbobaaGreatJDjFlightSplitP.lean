/- Own lemmas, used by the last text. Conditions: those that each theorem states. -/
import Derived.ProofKit
import Derived.Test.YtigekgfbcfbobaaGreatRows
set_option maxRecDepth 200000
set_option maxHeartbeats 8000000
namespace Go.Proofs.YtigekgfbcfbobaaGreat
open Go
theorem AHl:((Rows.flightSplitRow).wf (OpenSpec.ofChange Rows.flightSplitSpec))=true:=by kernel_rfl
theorem AHm:(laidOutB Tryz.pinned.checked.prog)=true:=by kernel_rfl
theorem AHn:(mapsRowed Tryz.pinned.checked.prog)=true:=by kernel_rfl
theorem AHo:(Tryz.f9.params.all (Tryz.pinned.checked.prog.readableRec ·))=true:=by kernel_rfl
theorem AHp:(namedTie Tryz.pinned.checked.prog Rows.flightSplitRow.named Rows.flightSplitSpec.vars)=true:=by kernel_rfl
theorem AHq:((Rows.flightSplitRow.stops == []))=true:=by kernel_rfl
theorem AHr:((Tryz.pinned.checked.prog.stops == []))=true:=by kernel_rfl
theorem AHs:((Rows.flightSplitRow.knobs == []))=true:=by kernel_rfl
theorem AHt:((Tryz.pinned.checked.prog.stopKnobs == []))=true:=by kernel_rfl
theorem AHu:((Rows.flightSplitRow.inPlace == Tryz.pinned.checked.prog.inPlace 9))=true:=by kernel_rfl
theorem AHI:((Rows.flightSplitRow.unfollowed == Tryz.pinned.checked.prog.unfollowed 9))=true:=by kernel_rfl
theorem AHJ:((Rows.flightSplitRow.recurses == Tryz.pinned.checked.prog.recurses 9))=true:=by kernel_rfl
theorem AHK:((Rows.flightSplitRow.named == Tryz.pinned.checked.prog.varsNamed 9))=true:=by kernel_rfl
theorem AHL:((Rows.flightSplitRow.maps == (Tryz.f9.params.toList++Rows.flightSplitSpec.plain.varTypes Tryz.pinned.checked.prog).any (Tryz.pinned.checked.prog.mapsRec ·)))=true:=by kernel_rfl
theorem AHM:((Rows.flightSplitRow.ifaces == (Tryz.f9.params.toList++Rows.flightSplitSpec.plain.varTypes Tryz.pinned.checked.prog).any (Tryz.pinned.checked.prog.ifacesRec ·)))=true:=by kernel_rfl
theorem AHN:((Rows.flightSplitRow.mapsOut == Tryz.pinned.checked.prog.mapsAmong Tryz.f9.resultTypes.toList))=true:=by kernel_rfl
theorem AHO:((Rows.flightSplitRow.loops == (Tryz.f9.params.toList++Rows.flightSplitSpec.plain.varTypes Tryz.pinned.checked.prog).any (Tryz.pinned.checked.prog.loopsFrom ·)))=true:=by kernel_rfl
theorem AHP:((Rows.flightSplitRow.wideKeys == (Tryz.f9.params.toList++Rows.flightSplitSpec.plain.varTypes Tryz.pinned.checked.prog++Tryz.f9.resultTypes.toList).any (Tryz.pinned.checked.prog.wideKeysFrom ·)))=true:=by kernel_rfl
theorem AHQ:(Rows.flightSplitSpec.vars.all (Tryz.pinned.checked.prog.varReadable ·))=true:=by kernel_rfl
theorem AHR:(Tryz.f9.resultTypes.all (fun t=>Tryz.pinned.checked.prog.readableRec t&&decide (t<Tryz.pinned.checked.prog.types.size)))=true:=by kernel_rfl
theorem AHS:((Rows.flightSplitRow.ifacesOut == Tryz.f9.resultTypes.toList.any (Tryz.pinned.checked.prog.ifacesRec ·)))=true:=by kernel_rfl
theorem AHT:((Rows.flightSplitRow.loopsOut == Tryz.f9.resultTypes.toList.any (Tryz.pinned.checked.prog.loopsFrom ·)))=true:=by kernel_rfl
theorem AHU:((Rows.flightSplitRow.plainKeys == Tryz.pinned.checked.prog.plainKeys))=true:=by kernel_rfl
theorem AHV:(Rows.flightSplitRow.shortTexts.isNone)=true:=by kernel_rfl
theorem AHW:(Tryz.pinned.checked.prog.stopsHeard)=true:=by kernel_rfl
theorem AHX:(Tryz.pinned.checked.prog.mayEnter)=true:=by kernel_rfl
theorem AHY:((Rows.flightSplitRow.lifted == Tryz.pinned.checked.prog.liftsFinal))=true:=by kernel_rfl
theorem AHZ:((Tryz.pinned.checked.prog.make == some Rows.flightSplitRow.make))=true:=by kernel_rfl
theorem AHa:((Rows.flightSplitRow.kinds == (if Rows.flightSplitRow.domain.isEmpty then [] else Tryz.f9.params.toList.map fun t=>match Tryz.pinned.checked.prog.underlying t with | some (.int k)=>some k | _=>none)))=true:=by kernel_rfl
theorem AHb:((Rows.flightSplitRow.pinned == Rows.flightSplitRow.pinnedBy))=true:=by kernel_rfl
theorem AHc:((Rows.flightSplitRow.veiled == (Tryz.f9.params.toList++Rows.flightSplitSpec.plain.varTypes Tryz.pinned.checked.prog++Tryz.f9.resultTypes.toList).any (Tryz.pinned.checked.prog.veiledRec ·)))=true:=by kernel_rfl
theorem AHd:(Rows.flightSplitRow.veiledFits Tryz.pinned.checked.prog Tryz.f9.params.toList (Tryz.f9.params.toList++Rows.flightSplitSpec.plain.varTypes Tryz.pinned.checked.prog++Tryz.f9.resultTypes.toList))=true:=by kernel_rfl
end Go.Proofs.YtigekgfbcfbobaaGreat
