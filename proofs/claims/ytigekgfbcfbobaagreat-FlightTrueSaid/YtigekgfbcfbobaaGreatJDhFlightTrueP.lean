/- Own lemmas, used by the last text. Conditions: those that each theorem states. -/
import Derived.ProofKit
import Derived.Test.YtigekgfbcfbobaaGreatRows
set_option maxRecDepth 200000
set_option maxHeartbeats 8000000
namespace Go.Proofs.YtigekgfbcfbobaaGreat
open Go
theorem AFn:((Rows.flightTrueRow).wf (OpenSpec.ofChange Rows.flightTrueSpec))=true:=by kernel_rfl
theorem AFo:(laidOutB Tryz.pinned.checked.prog)=true:=by kernel_rfl
theorem AFp:(mapsRowed Tryz.pinned.checked.prog)=true:=by kernel_rfl
theorem AFq:(Tryz.f7.params.all (Tryz.pinned.checked.prog.readableRec ·))=true:=by kernel_rfl
theorem AFr:(namedTie Tryz.pinned.checked.prog Rows.flightTrueRow.named Rows.flightTrueSpec.vars)=true:=by kernel_rfl
theorem AFs:((Rows.flightTrueRow.stops == []))=true:=by kernel_rfl
theorem AFt:((Tryz.pinned.checked.prog.stops == []))=true:=by kernel_rfl
theorem AFu:((Rows.flightTrueRow.knobs == []))=true:=by kernel_rfl
theorem AFv:((Tryz.pinned.checked.prog.stopKnobs == []))=true:=by kernel_rfl
theorem AFw:((Rows.flightTrueRow.inPlace == Tryz.pinned.checked.prog.inPlace 7))=true:=by kernel_rfl
theorem nL:((Rows.flightTrueRow.unfollowed == Tryz.pinned.checked.prog.unfollowed 7))=true:=by kernel_rfl
theorem nT:((Rows.flightTrueRow.recurses == Tryz.pinned.checked.prog.recurses 7))=true:=by kernel_rfl
theorem ny:((Rows.flightTrueRow.named == Tryz.pinned.checked.prog.varsNamed 7))=true:=by kernel_rfl
theorem AFP:((Rows.flightTrueRow.maps == (Tryz.f7.params.toList++Rows.flightTrueSpec.plain.varTypes Tryz.pinned.checked.prog).any (Tryz.pinned.checked.prog.mapsRec ·)))=true:=by kernel_rfl
theorem AFQ:((Rows.flightTrueRow.ifaces == (Tryz.f7.params.toList++Rows.flightTrueSpec.plain.varTypes Tryz.pinned.checked.prog).any (Tryz.pinned.checked.prog.ifacesRec ·)))=true:=by kernel_rfl
theorem AFR:((Rows.flightTrueRow.mapsOut == Tryz.pinned.checked.prog.mapsAmong Tryz.f7.resultTypes.toList))=true:=by kernel_rfl
theorem AFS:((Rows.flightTrueRow.loops == (Tryz.f7.params.toList++Rows.flightTrueSpec.plain.varTypes Tryz.pinned.checked.prog).any (Tryz.pinned.checked.prog.loopsFrom ·)))=true:=by kernel_rfl
theorem AFT:((Rows.flightTrueRow.wideKeys == (Tryz.f7.params.toList++Rows.flightTrueSpec.plain.varTypes Tryz.pinned.checked.prog++Tryz.f7.resultTypes.toList).any (Tryz.pinned.checked.prog.wideKeysFrom ·)))=true:=by kernel_rfl
theorem AFU:(Rows.flightTrueSpec.vars.all (Tryz.pinned.checked.prog.varReadable ·))=true:=by kernel_rfl
theorem AFV:(Tryz.f7.resultTypes.all (fun t=>Tryz.pinned.checked.prog.readableRec t&&decide (t<Tryz.pinned.checked.prog.types.size)))=true:=by kernel_rfl
theorem AFW:((Rows.flightTrueRow.ifacesOut == Tryz.f7.resultTypes.toList.any (Tryz.pinned.checked.prog.ifacesRec ·)))=true:=by kernel_rfl
theorem AFX:((Rows.flightTrueRow.loopsOut == Tryz.f7.resultTypes.toList.any (Tryz.pinned.checked.prog.loopsFrom ·)))=true:=by kernel_rfl
theorem AFY:((Rows.flightTrueRow.plainKeys == Tryz.pinned.checked.prog.plainKeys))=true:=by kernel_rfl
theorem AFZ:(Rows.flightTrueRow.shortTexts.isNone)=true:=by kernel_rfl
theorem AFa:(Tryz.pinned.checked.prog.stopsHeard)=true:=by kernel_rfl
theorem AFb:(Tryz.pinned.checked.prog.mayEnter)=true:=by kernel_rfl
theorem AFc:((Rows.flightTrueRow.lifted == Tryz.pinned.checked.prog.liftsFinal))=true:=by kernel_rfl
theorem AFd:((Tryz.pinned.checked.prog.make == some Rows.flightTrueRow.make))=true:=by kernel_rfl
theorem AFe:((Rows.flightTrueRow.kinds == (if Rows.flightTrueRow.domain.isEmpty then [] else Tryz.f7.params.toList.map fun t=>match Tryz.pinned.checked.prog.underlying t with | some (.int k)=>some k | _=>none)))=true:=by kernel_rfl
theorem AFf:((Rows.flightTrueRow.pinned == Rows.flightTrueRow.pinnedBy))=true:=by kernel_rfl
theorem AFg:((Rows.flightTrueRow.veiled == (Tryz.f7.params.toList++Rows.flightTrueSpec.plain.varTypes Tryz.pinned.checked.prog++Tryz.f7.resultTypes.toList).any (Tryz.pinned.checked.prog.veiledRec ·)))=true:=by kernel_rfl
theorem AFh:(Rows.flightTrueRow.veiledFits Tryz.pinned.checked.prog Tryz.f7.params.toList (Tryz.f7.params.toList++Rows.flightTrueSpec.plain.varTypes Tryz.pinned.checked.prog++Tryz.f7.resultTypes.toList))=true:=by kernel_rfl
end Go.Proofs.YtigekgfbcfbobaaGreat
