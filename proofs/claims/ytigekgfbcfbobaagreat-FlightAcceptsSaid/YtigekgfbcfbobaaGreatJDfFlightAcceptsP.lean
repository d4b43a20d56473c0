/- Own lemmas, used by the last text. Conditions: those that each theorem states. -/
import Derived.ProofKit
import Derived.Test.YtigekgfbcfbobaaGreatRows
set_option maxRecDepth 200000
set_option maxHeartbeats 8000000
namespace Go.Proofs.YtigekgfbcfbobaaGreat
open Go
theorem ADJ:((Rows.flightAcceptsRow).wf (OpenSpec.ofChange Rows.flightAcceptsSpec))=true:=by kernel_rfl
theorem ADK:(laidOutB Tryz.pinned.checked.prog)=true:=by kernel_rfl
theorem ADL:(mapsRowed Tryz.pinned.checked.prog)=true:=by kernel_rfl
theorem ADM:(Tryz.f13.params.all (Tryz.pinned.checked.prog.readableRec ·))=true:=by kernel_rfl
theorem ADN:(namedTie Tryz.pinned.checked.prog Rows.flightAcceptsRow.named Rows.flightAcceptsSpec.vars)=true:=by kernel_rfl
theorem ADO:((Rows.flightAcceptsRow.stops == []))=true:=by kernel_rfl
theorem ADP:((Tryz.pinned.checked.prog.stops == []))=true:=by kernel_rfl
theorem ADQ:((Rows.flightAcceptsRow.knobs == []))=true:=by kernel_rfl
theorem ADR:((Tryz.pinned.checked.prog.stopKnobs == []))=true:=by kernel_rfl
theorem ADS:((Rows.flightAcceptsRow.inPlace == Tryz.pinned.checked.prog.inPlace 13))=true:=by kernel_rfl
theorem ACp:((Rows.flightAcceptsRow.unfollowed == Tryz.pinned.checked.prog.unfollowed 13))=true:=by kernel_rfl
theorem ACq:((Rows.flightAcceptsRow.recurses == Tryz.pinned.checked.prog.recurses 13))=true:=by kernel_rfl
theorem ACr:((Rows.flightAcceptsRow.named == Tryz.pinned.checked.prog.varsNamed 13))=true:=by kernel_rfl
theorem ACs:((Rows.flightAcceptsRow.maps == (Tryz.f13.params.toList++Rows.flightAcceptsSpec.plain.varTypes Tryz.pinned.checked.prog).any (Tryz.pinned.checked.prog.mapsRec ·)))=true:=by kernel_rfl
theorem ACt:((Rows.flightAcceptsRow.ifaces == (Tryz.f13.params.toList++Rows.flightAcceptsSpec.plain.varTypes Tryz.pinned.checked.prog).any (Tryz.pinned.checked.prog.ifacesRec ·)))=true:=by kernel_rfl
theorem ACu:((Rows.flightAcceptsRow.mapsOut == Tryz.pinned.checked.prog.mapsAmong Tryz.f13.resultTypes.toList))=true:=by kernel_rfl
theorem ACv:((Rows.flightAcceptsRow.loops == (Tryz.f13.params.toList++Rows.flightAcceptsSpec.plain.varTypes Tryz.pinned.checked.prog).any (Tryz.pinned.checked.prog.loopsFrom ·)))=true:=by kernel_rfl
theorem ACw:((Rows.flightAcceptsRow.wideKeys == (Tryz.f13.params.toList++Rows.flightAcceptsSpec.plain.varTypes Tryz.pinned.checked.prog++Tryz.f13.resultTypes.toList).any (Tryz.pinned.checked.prog.wideKeysFrom ·)))=true:=by kernel_rfl
theorem ACx:(Rows.flightAcceptsSpec.vars.all (Tryz.pinned.checked.prog.varReadable ·))=true:=by kernel_rfl
theorem ACy:(Tryz.f13.resultTypes.all (fun t=>Tryz.pinned.checked.prog.readableRec t&&decide (t<Tryz.pinned.checked.prog.types.size)))=true:=by kernel_rfl
theorem ACz:((Rows.flightAcceptsRow.ifacesOut == Tryz.f13.resultTypes.toList.any (Tryz.pinned.checked.prog.ifacesRec ·)))=true:=by kernel_rfl
theorem AC0:((Rows.flightAcceptsRow.loopsOut == Tryz.f13.resultTypes.toList.any (Tryz.pinned.checked.prog.loopsFrom ·)))=true:=by kernel_rfl
theorem AC1:((Rows.flightAcceptsRow.plainKeys == Tryz.pinned.checked.prog.plainKeys))=true:=by kernel_rfl
theorem AC2:(Rows.flightAcceptsRow.shortTexts.isNone)=true:=by kernel_rfl
theorem AC3:(Tryz.pinned.checked.prog.stopsHeard)=true:=by kernel_rfl
theorem AC4:(Tryz.pinned.checked.prog.mayEnter)=true:=by kernel_rfl
theorem AC5:((Rows.flightAcceptsRow.lifted == Tryz.pinned.checked.prog.liftsFinal))=true:=by kernel_rfl
theorem AC6:((Tryz.pinned.checked.prog.make == some Rows.flightAcceptsRow.make))=true:=by kernel_rfl
theorem AC7:((Rows.flightAcceptsRow.kinds == (if Rows.flightAcceptsRow.domain.isEmpty then [] else Tryz.f13.params.toList.map fun t=>match Tryz.pinned.checked.prog.underlying t with | some (.int k)=>some k | _=>none)))=true:=by kernel_rfl
theorem AC8:((Rows.flightAcceptsRow.pinned == Rows.flightAcceptsRow.pinnedBy))=true:=by kernel_rfl
theorem AC9:((Rows.flightAcceptsRow.veiled == (Tryz.f13.params.toList++Rows.flightAcceptsSpec.plain.varTypes Tryz.pinned.checked.prog++Tryz.f13.resultTypes.toList).any (Tryz.pinned.checked.prog.veiledRec ·)))=true:=by kernel_rfl
theorem ADA:(Rows.flightAcceptsRow.veiledFits Tryz.pinned.checked.prog Tryz.f13.params.toList (Tryz.f13.params.toList++Rows.flightAcceptsSpec.plain.varTypes Tryz.pinned.checked.prog++Tryz.f13.resultTypes.toList))=true:=by kernel_rfl
end Go.Proofs.YtigekgfbcfbobaaGreat
