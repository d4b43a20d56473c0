/- Own lemmas, used by the last text. Conditions: those that each theorem states. -/
import Derived.ProofKit
import Derived.Test.YtigekgfbcfbobaaGreatRows
set_option maxRecDepth 200000
set_option maxHeartbeats 8000000
namespace Go.Proofs.YtigekgfbcfbobaaGreat
open Go
theorem Vz:((Rows.flightConservesRow).wf (OpenSpec.ofChange Rows.flightConservesSpec))=true:=by kernel_rfl
theorem V0:(laidOutB Tryz.pinned.checked.prog)=true:=by kernel_rfl
theorem V1:(mapsRowed Tryz.pinned.checked.prog)=true:=by kernel_rfl
theorem V2:(Tryz.f8.params.all (Tryz.pinned.checked.prog.readableRec ·))=true:=by kernel_rfl
theorem V3:(namedTie Tryz.pinned.checked.prog Rows.flightConservesRow.named Rows.flightConservesSpec.vars)=true:=by kernel_rfl
theorem V4:((Rows.flightConservesRow.stops == []))=true:=by kernel_rfl
theorem V5:((Tryz.pinned.checked.prog.stops == []))=true:=by kernel_rfl
theorem V6:((Rows.flightConservesRow.knobs == []))=true:=by kernel_rfl
theorem V7:((Tryz.pinned.checked.prog.stopKnobs == []))=true:=by kernel_rfl
theorem V8:((Rows.flightConservesRow.inPlace == Tryz.pinned.checked.prog.inPlace 8))=true:=by kernel_rfl
theorem RM:((Rows.flightConservesRow.unfollowed == Tryz.pinned.checked.prog.unfollowed 8))=true:=by kernel_rfl
theorem RO:((Rows.flightConservesRow.recurses == Tryz.pinned.checked.prog.recurses 8))=true:=by kernel_rfl
theorem RP:((Rows.flightConservesRow.named == Tryz.pinned.checked.prog.varsNamed 8))=true:=by kernel_rfl
theorem RQ:((Rows.flightConservesRow.maps == (Tryz.f8.params.toList++Rows.flightConservesSpec.plain.varTypes Tryz.pinned.checked.prog).any (Tryz.pinned.checked.prog.mapsRec ·)))=true:=by kernel_rfl
theorem RR:((Rows.flightConservesRow.ifaces == (Tryz.f8.params.toList++Rows.flightConservesSpec.plain.varTypes Tryz.pinned.checked.prog).any (Tryz.pinned.checked.prog.ifacesRec ·)))=true:=by kernel_rfl
theorem RS:((Rows.flightConservesRow.mapsOut == Tryz.pinned.checked.prog.mapsAmong Tryz.f8.resultTypes.toList))=true:=by kernel_rfl
theorem RT:((Rows.flightConservesRow.loops == (Tryz.f8.params.toList++Rows.flightConservesSpec.plain.varTypes Tryz.pinned.checked.prog).any (Tryz.pinned.checked.prog.loopsFrom ·)))=true:=by kernel_rfl
theorem RU:((Rows.flightConservesRow.wideKeys == (Tryz.f8.params.toList++Rows.flightConservesSpec.plain.varTypes Tryz.pinned.checked.prog++Tryz.f8.resultTypes.toList).any (Tryz.pinned.checked.prog.wideKeysFrom ·)))=true:=by kernel_rfl
theorem RX:(Rows.flightConservesSpec.vars.all (Tryz.pinned.checked.prog.varReadable ·))=true:=by kernel_rfl
theorem RY:(Tryz.f8.resultTypes.all (fun t=>Tryz.pinned.checked.prog.readableRec t&&decide (t < Tryz.pinned.checked.prog.types.size)))=true:=by kernel_rfl
theorem cA:((Rows.flightConservesRow.ifacesOut == Tryz.f8.resultTypes.toList.any (Tryz.pinned.checked.prog.ifacesRec ·)))=true:=by kernel_rfl
theorem Rl:((Rows.flightConservesRow.loopsOut == Tryz.f8.resultTypes.toList.any (Tryz.pinned.checked.prog.loopsFrom ·)))=true:=by kernel_rfl
theorem Rm:((Rows.flightConservesRow.plainKeys == Tryz.pinned.checked.prog.plainKeys))=true:=by kernel_rfl
theorem Rn:(Rows.flightConservesRow.shortTexts.isNone)=true:=by kernel_rfl
theorem Rp:(Tryz.pinned.checked.prog.stopsHeard)=true:=by kernel_rfl
theorem Rq:(Tryz.pinned.checked.prog.mayEnter)=true:=by kernel_rfl
theorem Rr:((Rows.flightConservesRow.lifted == Tryz.pinned.checked.prog.liftsFinal))=true:=by kernel_rfl
theorem R3:((Tryz.pinned.checked.prog.make == some Rows.flightConservesRow.make))=true:=by kernel_rfl
theorem R4:((Rows.flightConservesRow.kinds == (if Rows.flightConservesRow.domain.isEmpty then [] else Tryz.f8.params.toList.map fun t=>match Tryz.pinned.checked.prog.underlying t with | some (.int k)=>some k | _=>none)))=true:=by kernel_rfl
theorem R5:((Rows.flightConservesRow.pinned == Rows.flightConservesRow.pinnedBy))=true:=by kernel_rfl
theorem R6:((Rows.flightConservesRow.veiled == (Tryz.f8.params.toList++Rows.flightConservesSpec.plain.varTypes Tryz.pinned.checked.prog++Tryz.f8.resultTypes.toList).any (Tryz.pinned.checked.prog.veiledRec ·)))=true:=by kernel_rfl
theorem R7:(Rows.flightConservesRow.veiledFits Tryz.pinned.checked.prog Tryz.f8.params.toList (Tryz.f8.params.toList++Rows.flightConservesSpec.plain.varTypes Tryz.pinned.checked.prog++Tryz.f8.resultTypes.toList))=true:=by kernel_rfl
end Go.Proofs.YtigekgfbcfbobaaGreat
