/- Own lemmas, used by the last text. Conditions: those that each theorem states. -/
import Derived.ProofKit
import Derived.Test.YtigekgfbcfbobaaGreatRows
set_option maxRecDepth 200000
set_option maxHeartbeats 8000000
namespace Go.Proofs.YtigekgfbcfbobaaGreat
open Go
theorem AJ6:((Rows.flightVentsRow).wf (OpenSpec.ofChange Rows.flightVentsSpec))=true:=by kernel_rfl
theorem AJ7:(laidOutB Tryz.pinned.checked.prog)=true:=by kernel_rfl
theorem AJ8:(mapsRowed Tryz.pinned.checked.prog)=true:=by kernel_rfl
theorem AJ9:(Tryz.f14.params.all (Tryz.pinned.checked.prog.readableRec ·))=true:=by kernel_rfl
theorem AKA:(namedTie Tryz.pinned.checked.prog Rows.flightVentsRow.named Rows.flightVentsSpec.vars)=true:=by kernel_rfl
theorem AKB:((Rows.flightVentsRow.stops == []))=true:=by kernel_rfl
theorem AKC:((Tryz.pinned.checked.prog.stops == []))=true:=by kernel_rfl
theorem AKD:((Rows.flightVentsRow.knobs == []))=true:=by kernel_rfl
theorem AKE:((Tryz.pinned.checked.prog.stopKnobs == []))=true:=by kernel_rfl
theorem AKF:((Rows.flightVentsRow.inPlace == Tryz.pinned.checked.prog.inPlace 14))=true:=by kernel_rfl
theorem AJd:((Rows.flightVentsRow.unfollowed == Tryz.pinned.checked.prog.unfollowed 14))=true:=by kernel_rfl
theorem AJe:((Rows.flightVentsRow.recurses == Tryz.pinned.checked.prog.recurses 14))=true:=by kernel_rfl
theorem AJf:((Rows.flightVentsRow.named == Tryz.pinned.checked.prog.varsNamed 14))=true:=by kernel_rfl
theorem AJg:((Rows.flightVentsRow.maps == (Tryz.f14.params.toList++Rows.flightVentsSpec.plain.varTypes Tryz.pinned.checked.prog).any (Tryz.pinned.checked.prog.mapsRec ·)))=true:=by kernel_rfl
theorem AJh:((Rows.flightVentsRow.ifaces == (Tryz.f14.params.toList++Rows.flightVentsSpec.plain.varTypes Tryz.pinned.checked.prog).any (Tryz.pinned.checked.prog.ifacesRec ·)))=true:=by kernel_rfl
theorem AJi:((Rows.flightVentsRow.mapsOut == Tryz.pinned.checked.prog.mapsAmong Tryz.f14.resultTypes.toList))=true:=by kernel_rfl
theorem AJj:((Rows.flightVentsRow.loops == (Tryz.f14.params.toList++Rows.flightVentsSpec.plain.varTypes Tryz.pinned.checked.prog).any (Tryz.pinned.checked.prog.loopsFrom ·)))=true:=by kernel_rfl
theorem AJk:((Rows.flightVentsRow.wideKeys == (Tryz.f14.params.toList++Rows.flightVentsSpec.plain.varTypes Tryz.pinned.checked.prog++Tryz.f14.resultTypes.toList).any (Tryz.pinned.checked.prog.wideKeysFrom ·)))=true:=by kernel_rfl
theorem AJl:(Rows.flightVentsSpec.vars.all (Tryz.pinned.checked.prog.varReadable ·))=true:=by kernel_rfl
theorem AJm:(Tryz.f14.resultTypes.all (fun t=>Tryz.pinned.checked.prog.readableRec t&&decide (t<Tryz.pinned.checked.prog.types.size)))=true:=by kernel_rfl
theorem AJn:((Rows.flightVentsRow.ifacesOut == Tryz.f14.resultTypes.toList.any (Tryz.pinned.checked.prog.ifacesRec ·)))=true:=by kernel_rfl
theorem AJo:((Rows.flightVentsRow.loopsOut == Tryz.f14.resultTypes.toList.any (Tryz.pinned.checked.prog.loopsFrom ·)))=true:=by kernel_rfl
theorem AJp:((Rows.flightVentsRow.plainKeys == Tryz.pinned.checked.prog.plainKeys))=true:=by kernel_rfl
theorem AJq:(Rows.flightVentsRow.shortTexts.isNone)=true:=by kernel_rfl
theorem AJr:(Tryz.pinned.checked.prog.stopsHeard)=true:=by kernel_rfl
theorem AJs:(Tryz.pinned.checked.prog.mayEnter)=true:=by kernel_rfl
theorem AJt:((Rows.flightVentsRow.lifted == Tryz.pinned.checked.prog.liftsFinal))=true:=by kernel_rfl
theorem AJu:((Tryz.pinned.checked.prog.make == some Rows.flightVentsRow.make))=true:=by kernel_rfl
theorem AJv:((Rows.flightVentsRow.kinds == (if Rows.flightVentsRow.domain.isEmpty then [] else Tryz.f14.params.toList.map fun t=>match Tryz.pinned.checked.prog.underlying t with | some (.int k)=>some k | _=>none)))=true:=by kernel_rfl
theorem AJw:((Rows.flightVentsRow.pinned == Rows.flightVentsRow.pinnedBy))=true:=by kernel_rfl
theorem AJx:((Rows.flightVentsRow.veiled == (Tryz.f14.params.toList++Rows.flightVentsSpec.plain.varTypes Tryz.pinned.checked.prog++Tryz.f14.resultTypes.toList).any (Tryz.pinned.checked.prog.veiledRec ·)))=true:=by kernel_rfl
theorem AJy:(Rows.flightVentsRow.veiledFits Tryz.pinned.checked.prog Tryz.f14.params.toList (Tryz.f14.params.toList++Rows.flightVentsSpec.plain.varTypes Tryz.pinned.checked.prog++Tryz.f14.resultTypes.toList))=true:=by kernel_rfl
end Go.Proofs.YtigekgfbcfbobaaGreat
