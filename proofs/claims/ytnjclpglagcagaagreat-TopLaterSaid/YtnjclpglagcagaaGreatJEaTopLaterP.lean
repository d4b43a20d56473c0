/- Own lemmas, used by the last text. Conditions: those that each theorem states. -/
import Derived.ProofKit
import Derived.Test.YtnjclpglagcagaaGreatRows
set_option maxRecDepth 200000
set_option maxHeartbeats 8000000
namespace Go.Proofs.YtnjclpglagcagaaGreat
open Go
theorem AOU:((Rows.topLaterRow).wf (OpenSpec.ofChange Rows.topLaterSpec))=true:=by kernel_rfl
theorem AOV:(laidOutB Tryz.pinned.checked.prog)=true:=by kernel_rfl
theorem AOW:(mapsRowed Tryz.pinned.checked.prog)=true:=by kernel_rfl
theorem AOX:(Tryz.f3.params.all (Tryz.pinned.checked.prog.readableRec ·))=true:=by kernel_rfl
theorem AOY:(namedTie Tryz.pinned.checked.prog Rows.topLaterRow.named Rows.topLaterSpec.vars)=true:=by kernel_rfl
theorem AOZ:((Rows.topLaterRow.stops == []))=true:=by kernel_rfl
theorem AOa:((Tryz.pinned.checked.prog.stops == []))=true:=by kernel_rfl
theorem AOb:((Rows.topLaterRow.knobs == []))=true:=by kernel_rfl
theorem AOc:((Tryz.pinned.checked.prog.stopKnobs == []))=true:=by kernel_rfl
theorem AOd:((Rows.topLaterRow.inPlace == Tryz.pinned.checked.prog.inPlace 3))=true:=by kernel_rfl
theorem ANK:((Rows.topLaterRow.unfollowed == Tryz.pinned.checked.prog.unfollowed 3))=true:=by kernel_rfl
theorem ANL:((Rows.topLaterRow.recurses == Tryz.pinned.checked.prog.recurses 3))=true:=by kernel_rfl
theorem ANM:((Rows.topLaterRow.named == Tryz.pinned.checked.prog.varsNamed 3))=true:=by kernel_rfl
theorem ANN:((Rows.topLaterRow.maps == (Tryz.f3.params.toList++Rows.topLaterSpec.plain.varTypes Tryz.pinned.checked.prog).any (Tryz.pinned.checked.prog.mapsRec ·)))=true:=by kernel_rfl
theorem ANO:((Rows.topLaterRow.ifaces == (Tryz.f3.params.toList++Rows.topLaterSpec.plain.varTypes Tryz.pinned.checked.prog).any (Tryz.pinned.checked.prog.ifacesRec ·)))=true:=by kernel_rfl
theorem ANP:((Rows.topLaterRow.mapsOut == Tryz.pinned.checked.prog.mapsAmong Tryz.f3.resultTypes.toList))=true:=by kernel_rfl
theorem ANQ:((Rows.topLaterRow.loops == (Tryz.f3.params.toList++Rows.topLaterSpec.plain.varTypes Tryz.pinned.checked.prog).any (Tryz.pinned.checked.prog.loopsFrom ·)))=true:=by kernel_rfl
theorem ANR:((Rows.topLaterRow.wideKeys == (Tryz.f3.params.toList++Rows.topLaterSpec.plain.varTypes Tryz.pinned.checked.prog++Tryz.f3.resultTypes.toList).any (Tryz.pinned.checked.prog.wideKeysFrom ·)))=true:=by kernel_rfl
theorem ANS:(Rows.topLaterSpec.vars.all (Tryz.pinned.checked.prog.varReadable ·))=true:=by kernel_rfl
theorem ANT:(Tryz.f3.resultTypes.all (fun t=>Tryz.pinned.checked.prog.readableRec t&&decide (t<Tryz.pinned.checked.prog.types.size)))=true:=by kernel_rfl
theorem ANU:((Rows.topLaterRow.ifacesOut == Tryz.f3.resultTypes.toList.any (Tryz.pinned.checked.prog.ifacesRec ·)))=true:=by kernel_rfl
theorem ANV:((Rows.topLaterRow.loopsOut == Tryz.f3.resultTypes.toList.any (Tryz.pinned.checked.prog.loopsFrom ·)))=true:=by kernel_rfl
theorem ANW:((Rows.topLaterRow.plainKeys == Tryz.pinned.checked.prog.plainKeys))=true:=by kernel_rfl
theorem ANX:(Rows.topLaterRow.shortTexts.isNone)=true:=by kernel_rfl
theorem ANZ:(Tryz.pinned.checked.prog.stopsHeard)=true:=by kernel_rfl
theorem ANa:(Tryz.pinned.checked.prog.mayEnter)=true:=by kernel_rfl
theorem ANb:((Rows.topLaterRow.lifted == Tryz.pinned.checked.prog.liftsFinal))=true:=by kernel_rfl
theorem ANc:((Tryz.pinned.checked.prog.make == some Rows.topLaterRow.make))=true:=by kernel_rfl
theorem ANd:((Rows.topLaterRow.kinds == (if Rows.topLaterRow.domain.isEmpty then [] else Tryz.f3.params.toList.map fun t=>match Tryz.pinned.checked.prog.underlying t with | some (.int k)=>some k | _=>none)))=true:=by kernel_rfl
theorem ANe:((Rows.topLaterRow.pinned == Rows.topLaterRow.pinnedBy))=true:=by kernel_rfl
theorem ANf:((Rows.topLaterRow.veiled == (Tryz.f3.params.toList++Rows.topLaterSpec.plain.varTypes Tryz.pinned.checked.prog++Tryz.f3.resultTypes.toList).any (Tryz.pinned.checked.prog.veiledRec ·)))=true:=by kernel_rfl
theorem ANg:(Rows.topLaterRow.veiledFits Tryz.pinned.checked.prog Tryz.f3.params.toList (Tryz.f3.params.toList++Rows.topLaterSpec.plain.varTypes Tryz.pinned.checked.prog++Tryz.f3.resultTypes.toList))=true:=by kernel_rfl
end Go.Proofs.YtnjclpglagcagaaGreat
