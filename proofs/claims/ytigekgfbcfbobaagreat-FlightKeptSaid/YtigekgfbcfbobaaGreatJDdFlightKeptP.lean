/- Own lemmas, used by the last text. Conditions: those that each theorem states. -/
import Derived.ProofKit
import Derived.Test.YtigekgfbcfbobaaGreatRows
set_option maxRecDepth 200000
set_option maxHeartbeats 8000000
namespace Go.Proofs.YtigekgfbcfbobaaGreat
open Go
theorem bA:((Rows.flightKeptRow).wf (OpenSpec.ofChange Rows.flightKeptSpec))=true:=by kernel_rfl
theorem bL:(laidOutB Tryz.pinned.checked.prog)=true:=by kernel_rfl
theorem bk:(mapsRowed Tryz.pinned.checked.prog)=true:=by kernel_rfl
theorem b9:(Tryz.f10.params.all (Tryz.pinned.checked.prog.readableRec ·))=true:=by kernel_rfl
theorem cq:(namedTie Tryz.pinned.checked.prog Rows.flightKeptRow.named Rows.flightKeptSpec.vars)=true:=by kernel_rfl
theorem cy:((Rows.flightKeptRow.stops == []))=true:=by kernel_rfl
theorem d9:((Tryz.pinned.checked.prog.stops == []))=true:=by kernel_rfl
theorem ed:((Rows.flightKeptRow.knobs == []))=true:=by kernel_rfl
theorem gA:((Tryz.pinned.checked.prog.stopKnobs == []))=true:=by kernel_rfl
theorem ga:((Rows.flightKeptRow.inPlace == Tryz.pinned.checked.prog.inPlace 10))=true:=by kernel_rfl
theorem Kj:((Rows.flightKeptRow.unfollowed == Tryz.pinned.checked.prog.unfollowed 10))=true:=by kernel_rfl
theorem Kk:((Rows.flightKeptRow.recurses == Tryz.pinned.checked.prog.recurses 10))=true:=by kernel_rfl
theorem LO:((Rows.flightKeptRow.named == Tryz.pinned.checked.prog.varsNamed 10))=true:=by kernel_rfl
theorem M1:((Rows.flightKeptRow.maps == (Tryz.f10.params.toList++Rows.flightKeptSpec.plain.varTypes Tryz.pinned.checked.prog).any (Tryz.pinned.checked.prog.mapsRec ·)))=true:=by kernel_rfl
theorem Nb:((Rows.flightKeptRow.ifaces == (Tryz.f10.params.toList++Rows.flightKeptSpec.plain.varTypes Tryz.pinned.checked.prog).any (Tryz.pinned.checked.prog.ifacesRec ·)))=true:=by kernel_rfl
theorem Nc:((Rows.flightKeptRow.mapsOut == Tryz.pinned.checked.prog.mapsAmong Tryz.f10.resultTypes.toList))=true:=by kernel_rfl
theorem Nf:((Rows.flightKeptRow.loops == (Tryz.f10.params.toList++Rows.flightKeptSpec.plain.varTypes Tryz.pinned.checked.prog).any (Tryz.pinned.checked.prog.loopsFrom ·)))=true:=by kernel_rfl
theorem Ng:((Rows.flightKeptRow.wideKeys == (Tryz.f10.params.toList++Rows.flightKeptSpec.plain.varTypes Tryz.pinned.checked.prog++Tryz.f10.resultTypes.toList).any (Tryz.pinned.checked.prog.wideKeysFrom ·)))=true:=by kernel_rfl
theorem Nh:(Rows.flightKeptSpec.vars.all (Tryz.pinned.checked.prog.varReadable ·))=true:=by kernel_rfl
theorem Ni:(Tryz.f10.resultTypes.all (fun t=>Tryz.pinned.checked.prog.readableRec t&&decide (t < Tryz.pinned.checked.prog.types.size)))=true:=by kernel_rfl
theorem Nj:((Rows.flightKeptRow.ifacesOut == Tryz.f10.resultTypes.toList.any (Tryz.pinned.checked.prog.ifacesRec ·)))=true:=by kernel_rfl
theorem Nk:((Rows.flightKeptRow.loopsOut == Tryz.f10.resultTypes.toList.any (Tryz.pinned.checked.prog.loopsFrom ·)))=true:=by kernel_rfl
theorem Nq:((Rows.flightKeptRow.plainKeys == Tryz.pinned.checked.prog.plainKeys))=true:=by kernel_rfl
theorem Qf:(Rows.flightKeptRow.shortTexts.isNone)=true:=by kernel_rfl
theorem T5:(Tryz.pinned.checked.prog.stopsHeard)=true:=by kernel_rfl
theorem U7:(Tryz.pinned.checked.prog.mayEnter)=true:=by kernel_rfl
theorem U8:((Rows.flightKeptRow.lifted == Tryz.pinned.checked.prog.liftsFinal))=true:=by kernel_rfl
theorem U9:((Tryz.pinned.checked.prog.make == some Rows.flightKeptRow.make))=true:=by kernel_rfl
theorem W6:((Rows.flightKeptRow.kinds == (if Rows.flightKeptRow.domain.isEmpty then [] else Tryz.f10.params.toList.map fun t=>match Tryz.pinned.checked.prog.underlying t with | some (.int k)=>some k | _=>none)))=true:=by kernel_rfl
theorem XY:((Rows.flightKeptRow.pinned == Rows.flightKeptRow.pinnedBy))=true:=by kernel_rfl
theorem Xi:((Rows.flightKeptRow.veiled == (Tryz.f10.params.toList++Rows.flightKeptSpec.plain.varTypes Tryz.pinned.checked.prog++Tryz.f10.resultTypes.toList).any (Tryz.pinned.checked.prog.veiledRec ·)))=true:=by kernel_rfl
theorem Xk:(Rows.flightKeptRow.veiledFits Tryz.pinned.checked.prog Tryz.f10.params.toList (Tryz.f10.params.toList++Rows.flightKeptSpec.plain.varTypes Tryz.pinned.checked.prog++Tryz.f10.resultTypes.toList))=true:=by kernel_rfl
end Go.Proofs.YtigekgfbcfbobaaGreat
