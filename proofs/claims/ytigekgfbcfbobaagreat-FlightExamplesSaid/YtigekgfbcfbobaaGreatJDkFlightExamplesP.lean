/- Own lemmas, used by the last text. Conditions: those that each theorem states. -/
import Derived.ProofKit
import Derived.Test.YtigekgfbcfbobaaGreatRows
set_option maxRecDepth 200000
set_option maxHeartbeats 8000000
namespace Go.Proofs.YtigekgfbcfbobaaGreat
open Go
theorem AIS:((Rows.flightExamplesRow).wf (OpenSpec.ofChange Rows.flightExamplesSpec))=true:=by kernel_rfl
theorem AIT:(laidOutB Tryz.pinned.checked.prog)=true:=by kernel_rfl
theorem AIU:(mapsRowed Tryz.pinned.checked.prog)=true:=by kernel_rfl
theorem AIV:(Tryz.f17.params.all (Tryz.pinned.checked.prog.readableRec ·))=true:=by kernel_rfl
theorem AIW:(namedTie Tryz.pinned.checked.prog Rows.flightExamplesRow.named Rows.flightExamplesSpec.vars)=true:=by kernel_rfl
theorem AIX:((Rows.flightExamplesRow.stops == []))=true:=by kernel_rfl
theorem AIY:((Tryz.pinned.checked.prog.stops == []))=true:=by kernel_rfl
theorem AIZ:((Rows.flightExamplesRow.knobs == []))=true:=by kernel_rfl
theorem AIa:((Tryz.pinned.checked.prog.stopKnobs == []))=true:=by kernel_rfl
theorem AIb:((Rows.flightExamplesRow.inPlace == Tryz.pinned.checked.prog.inPlace 17))=true:=by kernel_rfl
theorem a8:((Rows.flightExamplesRow.unfollowed == Tryz.pinned.checked.prog.unfollowed 17))=true:=by kernel_rfl
theorem eA:((Rows.flightExamplesRow.recurses == Tryz.pinned.checked.prog.recurses 17))=true:=by kernel_rfl
theorem g6:((Rows.flightExamplesRow.named == Tryz.pinned.checked.prog.varsNamed 17))=true:=by kernel_rfl
theorem i6:((Rows.flightExamplesRow.maps == (Tryz.f17.params.toList++Rows.flightExamplesSpec.plain.varTypes Tryz.pinned.checked.prog).any (Tryz.pinned.checked.prog.mapsRec ·)))=true:=by kernel_rfl
theorem i7:((Rows.flightExamplesRow.ifaces == (Tryz.f17.params.toList++Rows.flightExamplesSpec.plain.varTypes Tryz.pinned.checked.prog).any (Tryz.pinned.checked.prog.ifacesRec ·)))=true:=by kernel_rfl
theorem i8:((Rows.flightExamplesRow.mapsOut == Tryz.pinned.checked.prog.mapsAmong Tryz.f17.resultTypes.toList))=true:=by kernel_rfl
theorem i9:((Rows.flightExamplesRow.loops == (Tryz.f17.params.toList++Rows.flightExamplesSpec.plain.varTypes Tryz.pinned.checked.prog).any (Tryz.pinned.checked.prog.loopsFrom ·)))=true:=by kernel_rfl
theorem mN:((Rows.flightExamplesRow.wideKeys == (Tryz.f17.params.toList++Rows.flightExamplesSpec.plain.varTypes Tryz.pinned.checked.prog++Tryz.f17.resultTypes.toList).any (Tryz.pinned.checked.prog.wideKeysFrom ·)))=true:=by kernel_rfl
theorem n7:(Rows.flightExamplesSpec.vars.all (Tryz.pinned.checked.prog.varReadable ·))=true:=by kernel_rfl
theorem r5:(Tryz.f17.resultTypes.all (fun t=>Tryz.pinned.checked.prog.readableRec t&&decide (t<Tryz.pinned.checked.prog.types.size)))=true:=by kernel_rfl
theorem r6:((Rows.flightExamplesRow.ifacesOut == Tryz.f17.resultTypes.toList.any (Tryz.pinned.checked.prog.ifacesRec ·)))=true:=by kernel_rfl
theorem r7:((Rows.flightExamplesRow.loopsOut == Tryz.f17.resultTypes.toList.any (Tryz.pinned.checked.prog.loopsFrom ·)))=true:=by kernel_rfl
theorem r8:((Rows.flightExamplesRow.plainKeys == Tryz.pinned.checked.prog.plainKeys))=true:=by kernel_rfl
theorem r9:(Rows.flightExamplesRow.shortTexts.isNone)=true:=by kernel_rfl
theorem sA:(Tryz.pinned.checked.prog.stopsHeard)=true:=by kernel_rfl
theorem ww:(Tryz.pinned.checked.prog.mayEnter)=true:=by kernel_rfl
theorem AIJ:((Rows.flightExamplesRow.lifted == Tryz.pinned.checked.prog.liftsFinal))=true:=by kernel_rfl
theorem AIK:((Tryz.pinned.checked.prog.make == some Rows.flightExamplesRow.make))=true:=by kernel_rfl
theorem AIL:((Rows.flightExamplesRow.kinds == (if Rows.flightExamplesRow.domain.isEmpty then [] else Tryz.f17.params.toList.map fun t=>match Tryz.pinned.checked.prog.underlying t with | some (.int k)=>some k | _=>none)))=true:=by kernel_rfl
theorem AIM:((Rows.flightExamplesRow.pinned == Rows.flightExamplesRow.pinnedBy))=true:=by kernel_rfl
theorem AIN:((Rows.flightExamplesRow.veiled == (Tryz.f17.params.toList++Rows.flightExamplesSpec.plain.varTypes Tryz.pinned.checked.prog++Tryz.f17.resultTypes.toList).any (Tryz.pinned.checked.prog.veiledRec ·)))=true:=by kernel_rfl
theorem AIO:(Rows.flightExamplesRow.veiledFits Tryz.pinned.checked.prog Tryz.f17.params.toList (Tryz.f17.params.toList++Rows.flightExamplesSpec.plain.varTypes Tryz.pinned.checked.prog++Tryz.f17.resultTypes.toList))=true:=by kernel_rfl
end Go.Proofs.YtigekgfbcfbobaaGreat
