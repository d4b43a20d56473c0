/- Own lemmas, used by the last text. Conditions: those that each theorem states. -/
import Derived.ProofKit
import Derived.Test.YtmaoncnifomnkaaGreatDoorRows
set_option maxRecDepth 200000
set_option maxHeartbeats 8000000
namespace Go.Proofs.YtmaoncnifomnkaaGreatDoor
open Go
theorem AOU:((Rows.lineLoadsRow).wf (OpenSpec.ofChange (OpenSpec.ofChange Rows.lineLoadsSpec).bare))=true:=by kernel_rfl
theorem AOV:(laidOutB Tryz.pinned.checked.prog)=true:=by kernel_rfl
theorem AOW:(mapsRowed Tryz.pinned.checked.prog)=true:=by kernel_rfl
theorem AOX:(Tryz.f3.params.all (Tryz.pinned.checked.prog.readableRec ·))=true:=by kernel_rfl
theorem AOY:(namedTie Tryz.pinned.checked.prog Rows.lineLoadsRow.named (OpenSpec.ofChange Rows.lineLoadsSpec).bare.vars)=true:=by kernel_rfl
theorem AOZ:((Rows.lineLoadsRow.stops == []))=true:=by kernel_rfl
theorem AOa:((Tryz.pinned.checked.prog.stops == []))=true:=by kernel_rfl
theorem AOb:((Rows.lineLoadsRow.knobs == []))=true:=by kernel_rfl
theorem AOc:((Tryz.pinned.checked.prog.stopKnobs == []))=true:=by kernel_rfl
theorem AOd:((Rows.lineLoadsRow.inPlace == Tryz.pinned.checked.prog.inPlace 3))=true:=by kernel_rfl
theorem ANK:((Rows.lineLoadsRow.unfollowed == Tryz.pinned.checked.prog.unfollowed 3))=true:=by kernel_rfl
theorem ANL:((Rows.lineLoadsRow.recurses == Tryz.pinned.checked.prog.recurses 3))=true:=by kernel_rfl
theorem ANM:((Rows.lineLoadsRow.named == Tryz.pinned.checked.prog.varsNamed 3))=true:=by kernel_rfl
theorem ANN:((Rows.lineLoadsRow.maps == (Tryz.f3.params.toList++(OpenSpec.ofChange Rows.lineLoadsSpec).bare.plain.varTypes Tryz.pinned.checked.prog).any (Tryz.pinned.checked.prog.mapsRec ·)))=true:=by kernel_rfl
theorem ANO:((Rows.lineLoadsRow.ifaces == (Tryz.f3.params.toList++(OpenSpec.ofChange Rows.lineLoadsSpec).bare.plain.varTypes Tryz.pinned.checked.prog).any (Tryz.pinned.checked.prog.ifacesRec ·)))=true:=by kernel_rfl
theorem ANP:((Rows.lineLoadsRow.mapsOut == Tryz.pinned.checked.prog.mapsAmong Tryz.f3.resultTypes.toList))=true:=by kernel_rfl
theorem ANQ:((Rows.lineLoadsRow.loops == (Tryz.f3.params.toList++(OpenSpec.ofChange Rows.lineLoadsSpec).bare.plain.varTypes Tryz.pinned.checked.prog).any (Tryz.pinned.checked.prog.loopsFrom ·)))=true:=by kernel_rfl
theorem ANR:((Rows.lineLoadsRow.wideKeys == (Tryz.f3.params.toList++(OpenSpec.ofChange Rows.lineLoadsSpec).bare.plain.varTypes Tryz.pinned.checked.prog++Tryz.f3.resultTypes.toList).any (Tryz.pinned.checked.prog.wideKeysFrom ·)))=true:=by kernel_rfl
theorem ANS:((OpenSpec.ofChange Rows.lineLoadsSpec).bare.vars.all (Tryz.pinned.checked.prog.varReadable ·))=true:=by kernel_rfl
theorem ANT:(Tryz.f3.resultTypes.all (fun t=>Tryz.pinned.checked.prog.readableRec t&&decide (t<Tryz.pinned.checked.prog.types.size)))=true:=by kernel_rfl
theorem ANU:((Rows.lineLoadsRow.ifacesOut == Tryz.f3.resultTypes.toList.any (Tryz.pinned.checked.prog.ifacesRec ·)))=true:=by kernel_rfl
theorem ANV:((Rows.lineLoadsRow.loopsOut == Tryz.f3.resultTypes.toList.any (Tryz.pinned.checked.prog.loopsFrom ·)))=true:=by kernel_rfl
theorem ANW:((Rows.lineLoadsRow.plainKeys == Tryz.pinned.checked.prog.plainKeys))=true:=by kernel_rfl
theorem ANX:(Rows.lineLoadsRow.shortTexts.isNone)=true:=by kernel_rfl
theorem ANZ:(Tryz.pinned.checked.prog.stopsHeard)=true:=by kernel_rfl
theorem ANa:(Tryz.pinned.checked.prog.mayEnter)=true:=by kernel_rfl
theorem ANb:((Rows.lineLoadsRow.lifted == Tryz.pinned.checked.prog.liftsFinal))=true:=by kernel_rfl
theorem ANc:((Tryz.pinned.checked.prog.make == some Rows.lineLoadsRow.make))=true:=by kernel_rfl
theorem ANd:((Rows.lineLoadsRow.kinds == (if Rows.lineLoadsRow.domain.isEmpty then [] else Tryz.f3.params.toList.map fun t=>match Tryz.pinned.checked.prog.underlying t with | some (.int k)=>some k | _=>none)))=true:=by kernel_rfl
theorem ANe:((Rows.lineLoadsRow.pinned == Rows.lineLoadsRow.pinnedBy))=true:=by kernel_rfl
theorem ANf:((Rows.lineLoadsRow.veiled == (Tryz.f3.params.toList++(OpenSpec.ofChange Rows.lineLoadsSpec).bare.plain.varTypes Tryz.pinned.checked.prog++Tryz.f3.resultTypes.toList).any (Tryz.pinned.checked.prog.veiledRec ·)))=true:=by kernel_rfl
theorem ANg:(Rows.lineLoadsRow.veiledFits Tryz.pinned.checked.prog Tryz.f3.params.toList (Tryz.f3.params.toList++(OpenSpec.ofChange Rows.lineLoadsSpec).bare.plain.varTypes Tryz.pinned.checked.prog++Tryz.f3.resultTypes.toList))=true:=by kernel_rfl
end Go.Proofs.YtmaoncnifomnkaaGreatDoor
