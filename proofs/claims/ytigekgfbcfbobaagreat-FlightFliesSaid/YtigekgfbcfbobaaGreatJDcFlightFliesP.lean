/- Own lemmas, used by the last text. Conditions: those that each theorem states. -/
import Derived.ProofKit
import Derived.Test.YtigekgfbcfbobaaGreatRows
set_option maxRecDepth 200000
set_option maxHeartbeats 8000000
namespace Go.Proofs.YtigekgfbcfbobaaGreat
open Go
theorem AA6:((Rows.flightFliesRow).wf (OpenSpec.ofChange Rows.flightFliesSpec))=true:=by kernel_rfl
theorem AA7:(laidOutB Tryz.pinned.checked.prog)=true:=by kernel_rfl
theorem AA8:(mapsRowed Tryz.pinned.checked.prog)=true:=by kernel_rfl
theorem AA9:(Tryz.f6.params.all (Tryz.pinned.checked.prog.readableRec ·))=true:=by kernel_rfl
theorem ABA:(namedTie Tryz.pinned.checked.prog Rows.flightFliesRow.named Rows.flightFliesSpec.vars)=true:=by kernel_rfl
theorem ABB:((Rows.flightFliesRow.stops == []))=true:=by kernel_rfl
theorem ABC:((Tryz.pinned.checked.prog.stops == []))=true:=by kernel_rfl
theorem ABD:((Rows.flightFliesRow.knobs == []))=true:=by kernel_rfl
theorem ABE:((Tryz.pinned.checked.prog.stopKnobs == []))=true:=by kernel_rfl
theorem ABF:((Rows.flightFliesRow.inPlace == Tryz.pinned.checked.prog.inPlace 6))=true:=by kernel_rfl
theorem AAh:((Rows.flightFliesRow.unfollowed == Tryz.pinned.checked.prog.unfollowed 6))=true:=by kernel_rfl
theorem AAi:((Rows.flightFliesRow.recurses == Tryz.pinned.checked.prog.recurses 6))=true:=by kernel_rfl
theorem AAj:((Rows.flightFliesRow.named == Tryz.pinned.checked.prog.varsNamed 6))=true:=by kernel_rfl
theorem AAk:((Rows.flightFliesRow.maps == (Tryz.f6.params.toList++Rows.flightFliesSpec.plain.varTypes Tryz.pinned.checked.prog).any (Tryz.pinned.checked.prog.mapsRec ·)))=true:=by kernel_rfl
theorem AAl:((Rows.flightFliesRow.ifaces == (Tryz.f6.params.toList++Rows.flightFliesSpec.plain.varTypes Tryz.pinned.checked.prog).any (Tryz.pinned.checked.prog.ifacesRec ·)))=true:=by kernel_rfl
theorem AAm:((Rows.flightFliesRow.mapsOut == Tryz.pinned.checked.prog.mapsAmong Tryz.f6.resultTypes.toList))=true:=by kernel_rfl
theorem AAn:((Rows.flightFliesRow.loops == (Tryz.f6.params.toList++Rows.flightFliesSpec.plain.varTypes Tryz.pinned.checked.prog).any (Tryz.pinned.checked.prog.loopsFrom ·)))=true:=by kernel_rfl
theorem AAo:((Rows.flightFliesRow.wideKeys == (Tryz.f6.params.toList++Rows.flightFliesSpec.plain.varTypes Tryz.pinned.checked.prog++Tryz.f6.resultTypes.toList).any (Tryz.pinned.checked.prog.wideKeysFrom ·)))=true:=by kernel_rfl
theorem AAp:(Rows.flightFliesSpec.vars.all (Tryz.pinned.checked.prog.varReadable ·))=true:=by kernel_rfl
theorem AAq:(Tryz.f6.resultTypes.all (fun t=>Tryz.pinned.checked.prog.readableRec t&&decide (t < Tryz.pinned.checked.prog.types.size)))=true:=by kernel_rfl
theorem AAr:((Rows.flightFliesRow.ifacesOut == Tryz.f6.resultTypes.toList.any (Tryz.pinned.checked.prog.ifacesRec ·)))=true:=by kernel_rfl
theorem AAs:((Rows.flightFliesRow.loopsOut == Tryz.f6.resultTypes.toList.any (Tryz.pinned.checked.prog.loopsFrom ·)))=true:=by kernel_rfl
theorem AAt:((Rows.flightFliesRow.plainKeys == Tryz.pinned.checked.prog.plainKeys))=true:=by kernel_rfl
theorem AAu:(Rows.flightFliesRow.shortTexts.isNone)=true:=by kernel_rfl
theorem AAv:(Tryz.pinned.checked.prog.stopsHeard)=true:=by kernel_rfl
theorem AAw:(Tryz.pinned.checked.prog.mayEnter)=true:=by kernel_rfl
theorem AAx:((Rows.flightFliesRow.lifted == Tryz.pinned.checked.prog.liftsFinal))=true:=by kernel_rfl
theorem AAy:((Tryz.pinned.checked.prog.make == some Rows.flightFliesRow.make))=true:=by kernel_rfl
theorem AAz:((Rows.flightFliesRow.kinds == (if Rows.flightFliesRow.domain.isEmpty then [] else Tryz.f6.params.toList.map fun t=>match Tryz.pinned.checked.prog.underlying t with | some (.int k)=>some k | _=>none)))=true:=by kernel_rfl
theorem AA0:((Rows.flightFliesRow.pinned == Rows.flightFliesRow.pinnedBy))=true:=by kernel_rfl
theorem AA1:((Rows.flightFliesRow.veiled == (Tryz.f6.params.toList++Rows.flightFliesSpec.plain.varTypes Tryz.pinned.checked.prog++Tryz.f6.resultTypes.toList).any (Tryz.pinned.checked.prog.veiledRec ·)))=true:=by kernel_rfl
theorem AA2:(Rows.flightFliesRow.veiledFits Tryz.pinned.checked.prog Tryz.f6.params.toList (Tryz.f6.params.toList++Rows.flightFliesSpec.plain.varTypes Tryz.pinned.checked.prog++Tryz.f6.resultTypes.toList))=true:=by kernel_rfl
end Go.Proofs.YtigekgfbcfbobaaGreat
