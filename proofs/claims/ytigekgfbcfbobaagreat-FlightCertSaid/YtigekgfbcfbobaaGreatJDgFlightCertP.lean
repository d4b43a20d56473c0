/- Own lemmas, used by the last text. Conditions: those that each theorem states. -/
import Derived.ProofKit
import Derived.Test.YtigekgfbcfbobaaGreatRows
set_option maxRecDepth 200000
set_option maxHeartbeats 8000000
namespace Go.Proofs.YtigekgfbcfbobaaGreat
open Go
theorem AEt:((Rows.flightCertRow).wf (OpenSpec.ofChange Rows.flightCertSpec))=true:=by kernel_rfl
theorem AEu:(laidOutB Tryz.pinned.checked.prog)=true:=by kernel_rfl
theorem AEv:(mapsRowed Tryz.pinned.checked.prog)=true:=by kernel_rfl
theorem AEw:(Tryz.f16.params.all (Tryz.pinned.checked.prog.readableRec ·))=true:=by kernel_rfl
theorem AEx:(namedTie Tryz.pinned.checked.prog Rows.flightCertRow.named Rows.flightCertSpec.vars)=true:=by kernel_rfl
theorem AEy:((Rows.flightCertRow.stops == []))=true:=by kernel_rfl
theorem AEz:((Tryz.pinned.checked.prog.stops == []))=true:=by kernel_rfl
theorem AE0:((Rows.flightCertRow.knobs == []))=true:=by kernel_rfl
theorem AE1:((Tryz.pinned.checked.prog.stopKnobs == []))=true:=by kernel_rfl
theorem AE2:((Rows.flightCertRow.inPlace == Tryz.pinned.checked.prog.inPlace 16))=true:=by kernel_rfl
theorem AEW:((Rows.flightCertRow.unfollowed == Tryz.pinned.checked.prog.unfollowed 16))=true:=by kernel_rfl
theorem AEX:((Rows.flightCertRow.recurses == Tryz.pinned.checked.prog.recurses 16))=true:=by kernel_rfl
theorem AEY:((Rows.flightCertRow.named == Tryz.pinned.checked.prog.varsNamed 16))=true:=by kernel_rfl
theorem AEZ:((Rows.flightCertRow.maps == (Tryz.f16.params.toList++Rows.flightCertSpec.plain.varTypes Tryz.pinned.checked.prog).any (Tryz.pinned.checked.prog.mapsRec ·)))=true:=by kernel_rfl
theorem AEa:((Rows.flightCertRow.ifaces == (Tryz.f16.params.toList++Rows.flightCertSpec.plain.varTypes Tryz.pinned.checked.prog).any (Tryz.pinned.checked.prog.ifacesRec ·)))=true:=by kernel_rfl
theorem AEb:((Rows.flightCertRow.mapsOut == Tryz.pinned.checked.prog.mapsAmong Tryz.f16.resultTypes.toList))=true:=by kernel_rfl
theorem AEc:((Rows.flightCertRow.loops == (Tryz.f16.params.toList++Rows.flightCertSpec.plain.varTypes Tryz.pinned.checked.prog).any (Tryz.pinned.checked.prog.loopsFrom ·)))=true:=by kernel_rfl
theorem AEd:((Rows.flightCertRow.wideKeys == (Tryz.f16.params.toList++Rows.flightCertSpec.plain.varTypes Tryz.pinned.checked.prog++Tryz.f16.resultTypes.toList).any (Tryz.pinned.checked.prog.wideKeysFrom ·)))=true:=by kernel_rfl
theorem AEe:(Rows.flightCertSpec.vars.all (Tryz.pinned.checked.prog.varReadable ·))=true:=by kernel_rfl
theorem AEf:(Tryz.f16.resultTypes.all (fun t=>Tryz.pinned.checked.prog.readableRec t&&decide (t<Tryz.pinned.checked.prog.types.size)))=true:=by kernel_rfl
theorem AEg:((Rows.flightCertRow.ifacesOut == Tryz.f16.resultTypes.toList.any (Tryz.pinned.checked.prog.ifacesRec ·)))=true:=by kernel_rfl
theorem AEh:((Rows.flightCertRow.loopsOut == Tryz.f16.resultTypes.toList.any (Tryz.pinned.checked.prog.loopsFrom ·)))=true:=by kernel_rfl
theorem AEi:((Rows.flightCertRow.plainKeys == Tryz.pinned.checked.prog.plainKeys))=true:=by kernel_rfl
theorem AEj:(Rows.flightCertRow.shortTexts.isNone)=true:=by kernel_rfl
theorem AEk:(Tryz.pinned.checked.prog.stopsHeard)=true:=by kernel_rfl
theorem AEl:(Tryz.pinned.checked.prog.mayEnter)=true:=by kernel_rfl
theorem AEm:((Rows.flightCertRow.lifted == Tryz.pinned.checked.prog.liftsFinal))=true:=by kernel_rfl
theorem AEn:((Tryz.pinned.checked.prog.make == some Rows.flightCertRow.make))=true:=by kernel_rfl
theorem AEo:((Rows.flightCertRow.kinds == (if Rows.flightCertRow.domain.isEmpty then [] else Tryz.f16.params.toList.map fun t=>match Tryz.pinned.checked.prog.underlying t with | some (.int k)=>some k | _=>none)))=true:=by kernel_rfl
theorem AEp:((Rows.flightCertRow.pinned == Rows.flightCertRow.pinnedBy))=true:=by kernel_rfl
theorem AEq:((Rows.flightCertRow.veiled == (Tryz.f16.params.toList++Rows.flightCertSpec.plain.varTypes Tryz.pinned.checked.prog++Tryz.f16.resultTypes.toList).any (Tryz.pinned.checked.prog.veiledRec ·)))=true:=by kernel_rfl
theorem AEr:(Rows.flightCertRow.veiledFits Tryz.pinned.checked.prog Tryz.f16.params.toList (Tryz.f16.params.toList++Rows.flightCertSpec.plain.varTypes Tryz.pinned.checked.prog++Tryz.f16.resultTypes.toList))=true:=by kernel_rfl
end Go.Proofs.YtigekgfbcfbobaaGreat
