/- Own lemmas, used by the last text. Conditions: those that each theorem states. -/
import Derived.ProofKit
import Derived.Test.YtnjclpglagcagaaGreatRows
set_option maxRecDepth 200000
set_option maxHeartbeats 8000000
namespace Go.Proofs.YtnjclpglagcagaaGreat
open Go
theorem ATK:((Rows.topClimbsRow).wf (OpenSpec.ofChange Rows.topClimbsSpec))=true:=by kernel_rfl
theorem ATL:(laidOutB Tryz.pinned.checked.prog)=true:=by kernel_rfl
theorem ATM:(mapsRowed Tryz.pinned.checked.prog)=true:=by kernel_rfl
theorem ATN:(Tryz.f4.params.all (Tryz.pinned.checked.prog.readableRec ·))=true:=by kernel_rfl
theorem ATO:(namedTie Tryz.pinned.checked.prog Rows.topClimbsRow.named Rows.topClimbsSpec.vars)=true:=by kernel_rfl
theorem ATP:((Rows.topClimbsRow.stops == []))=true:=by kernel_rfl
theorem ATQ:((Tryz.pinned.checked.prog.stops == []))=true:=by kernel_rfl
theorem ATR:((Rows.topClimbsRow.knobs == []))=true:=by kernel_rfl
theorem ATS:((Tryz.pinned.checked.prog.stopKnobs == []))=true:=by kernel_rfl
theorem ATT:((Rows.topClimbsRow.inPlace == Tryz.pinned.checked.prog.inPlace 4))=true:=by kernel_rfl
theorem ASt:((Rows.topClimbsRow.unfollowed == Tryz.pinned.checked.prog.unfollowed 4))=true:=by kernel_rfl
theorem ASu:((Rows.topClimbsRow.recurses == Tryz.pinned.checked.prog.recurses 4))=true:=by kernel_rfl
theorem ASv:((Rows.topClimbsRow.named == Tryz.pinned.checked.prog.varsNamed 4))=true:=by kernel_rfl
theorem ASw:((Rows.topClimbsRow.maps == (Tryz.f4.params.toList++Rows.topClimbsSpec.plain.varTypes Tryz.pinned.checked.prog).any (Tryz.pinned.checked.prog.mapsRec ·)))=true:=by kernel_rfl
theorem ASx:((Rows.topClimbsRow.ifaces == (Tryz.f4.params.toList++Rows.topClimbsSpec.plain.varTypes Tryz.pinned.checked.prog).any (Tryz.pinned.checked.prog.ifacesRec ·)))=true:=by kernel_rfl
theorem ASy:((Rows.topClimbsRow.mapsOut == Tryz.pinned.checked.prog.mapsAmong Tryz.f4.resultTypes.toList))=true:=by kernel_rfl
theorem ASz:((Rows.topClimbsRow.loops == (Tryz.f4.params.toList++Rows.topClimbsSpec.plain.varTypes Tryz.pinned.checked.prog).any (Tryz.pinned.checked.prog.loopsFrom ·)))=true:=by kernel_rfl
theorem AS0:((Rows.topClimbsRow.wideKeys == (Tryz.f4.params.toList++Rows.topClimbsSpec.plain.varTypes Tryz.pinned.checked.prog++Tryz.f4.resultTypes.toList).any (Tryz.pinned.checked.prog.wideKeysFrom ·)))=true:=by kernel_rfl
theorem AS1:(Rows.topClimbsSpec.vars.all (Tryz.pinned.checked.prog.varReadable ·))=true:=by kernel_rfl
theorem AS2:(Tryz.f4.resultTypes.all (fun t=>Tryz.pinned.checked.prog.readableRec t&&decide (t<Tryz.pinned.checked.prog.types.size)))=true:=by kernel_rfl
theorem AS3:((Rows.topClimbsRow.ifacesOut == Tryz.f4.resultTypes.toList.any (Tryz.pinned.checked.prog.ifacesRec ·)))=true:=by kernel_rfl
theorem AS4:((Rows.topClimbsRow.loopsOut == Tryz.f4.resultTypes.toList.any (Tryz.pinned.checked.prog.loopsFrom ·)))=true:=by kernel_rfl
theorem AS5:((Rows.topClimbsRow.plainKeys == Tryz.pinned.checked.prog.plainKeys))=true:=by kernel_rfl
theorem AS6:(Rows.topClimbsRow.shortTexts.isNone)=true:=by kernel_rfl
theorem AS7:(Tryz.pinned.checked.prog.stopsHeard)=true:=by kernel_rfl
theorem AS8:(Tryz.pinned.checked.prog.mayEnter)=true:=by kernel_rfl
theorem AS9:((Rows.topClimbsRow.lifted == Tryz.pinned.checked.prog.liftsFinal))=true:=by kernel_rfl
theorem ATA:((Tryz.pinned.checked.prog.make == some Rows.topClimbsRow.make))=true:=by kernel_rfl
theorem ATB:((Rows.topClimbsRow.kinds == (if Rows.topClimbsRow.domain.isEmpty then [] else Tryz.f4.params.toList.map fun t=>match Tryz.pinned.checked.prog.underlying t with | some (.int k)=>some k | _=>none)))=true:=by kernel_rfl
theorem ATC:((Rows.topClimbsRow.pinned == Rows.topClimbsRow.pinnedBy))=true:=by kernel_rfl
theorem ATD:((Rows.topClimbsRow.veiled == (Tryz.f4.params.toList++Rows.topClimbsSpec.plain.varTypes Tryz.pinned.checked.prog++Tryz.f4.resultTypes.toList).any (Tryz.pinned.checked.prog.veiledRec ·)))=true:=by kernel_rfl
theorem ATE:(Rows.topClimbsRow.veiledFits Tryz.pinned.checked.prog Tryz.f4.params.toList (Tryz.f4.params.toList++Rows.topClimbsSpec.plain.varTypes Tryz.pinned.checked.prog++Tryz.f4.resultTypes.toList))=true:=by kernel_rfl
end Go.Proofs.YtnjclpglagcagaaGreat
