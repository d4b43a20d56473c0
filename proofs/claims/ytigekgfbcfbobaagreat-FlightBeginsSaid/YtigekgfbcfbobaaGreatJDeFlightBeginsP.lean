/- Own lemmas, used by the last text. Conditions: those that each theorem states. -/
import Derived.ProofKit
import Derived.Test.YtigekgfbcfbobaaGreatRows
set_option maxRecDepth 200000
set_option maxHeartbeats 8000000
namespace Go.Proofs.YtigekgfbcfbobaaGreat
open Go
theorem ACB:((Rows.flightBeginsRow).wf (OpenSpec.ofChange Rows.flightBeginsSpec))=true:=by kernel_rfl
theorem ACC:(laidOutB Tryz.pinned.checked.prog)=true:=by kernel_rfl
theorem ACD:(mapsRowed Tryz.pinned.checked.prog)=true:=by kernel_rfl
theorem ACE:(Tryz.f11.params.all (Tryz.pinned.checked.prog.readableRec ·))=true:=by kernel_rfl
theorem ACF:(namedTie Tryz.pinned.checked.prog Rows.flightBeginsRow.named Rows.flightBeginsSpec.vars)=true:=by kernel_rfl
theorem ACG:((Rows.flightBeginsRow.stops == []))=true:=by kernel_rfl
theorem ACH:((Tryz.pinned.checked.prog.stops == []))=true:=by kernel_rfl
theorem ACI:((Rows.flightBeginsRow.knobs == []))=true:=by kernel_rfl
theorem ACJ:((Tryz.pinned.checked.prog.stopKnobs == []))=true:=by kernel_rfl
theorem ACK:((Rows.flightBeginsRow.inPlace == Tryz.pinned.checked.prog.inPlace 11))=true:=by kernel_rfl
theorem cH:((Rows.flightBeginsRow.unfollowed == Tryz.pinned.checked.prog.unfollowed 11))=true:=by kernel_rfl
theorem cS:((Rows.flightBeginsRow.recurses == Tryz.pinned.checked.prog.recurses 11))=true:=by kernel_rfl
theorem kd:((Rows.flightBeginsRow.named == Tryz.pinned.checked.prog.varsNamed 11))=true:=by kernel_rfl
theorem lg:((Rows.flightBeginsRow.maps == (Tryz.f11.params.toList++Rows.flightBeginsSpec.plain.varTypes Tryz.pinned.checked.prog).any (Tryz.pinned.checked.prog.mapsRec ·)))=true:=by kernel_rfl
theorem mn:((Rows.flightBeginsRow.ifaces == (Tryz.f11.params.toList++Rows.flightBeginsSpec.plain.varTypes Tryz.pinned.checked.prog).any (Tryz.pinned.checked.prog.ifacesRec ·)))=true:=by kernel_rfl
theorem nf:((Rows.flightBeginsRow.mapsOut == Tryz.pinned.checked.prog.mapsAmong Tryz.f11.resultTypes.toList))=true:=by kernel_rfl
theorem nh:((Rows.flightBeginsRow.loops == (Tryz.f11.params.toList++Rows.flightBeginsSpec.plain.varTypes Tryz.pinned.checked.prog).any (Tryz.pinned.checked.prog.loopsFrom ·)))=true:=by kernel_rfl
theorem nw:((Rows.flightBeginsRow.wideKeys == (Tryz.f11.params.toList++Rows.flightBeginsSpec.plain.varTypes Tryz.pinned.checked.prog++Tryz.f11.resultTypes.toList).any (Tryz.pinned.checked.prog.wideKeysFrom ·)))=true:=by kernel_rfl
theorem o4:(Rows.flightBeginsSpec.vars.all (Tryz.pinned.checked.prog.varReadable ·))=true:=by kernel_rfl
theorem u1:(Tryz.f11.resultTypes.all (fun t=>Tryz.pinned.checked.prog.readableRec t&&decide (t<Tryz.pinned.checked.prog.types.size)))=true:=by kernel_rfl
theorem u2:((Rows.flightBeginsRow.ifacesOut == Tryz.f11.resultTypes.toList.any (Tryz.pinned.checked.prog.ifacesRec ·)))=true:=by kernel_rfl
theorem u3:((Rows.flightBeginsRow.loopsOut == Tryz.f11.resultTypes.toList.any (Tryz.pinned.checked.prog.loopsFrom ·)))=true:=by kernel_rfl
theorem u4:((Rows.flightBeginsRow.plainKeys == Tryz.pinned.checked.prog.plainKeys))=true:=by kernel_rfl
theorem u5:(Rows.flightBeginsRow.shortTexts.isNone)=true:=by kernel_rfl
theorem vv:(Tryz.pinned.checked.prog.stopsHeard)=true:=by kernel_rfl
theorem v6:(Tryz.pinned.checked.prog.mayEnter)=true:=by kernel_rfl
theorem v7:((Rows.flightBeginsRow.lifted == Tryz.pinned.checked.prog.liftsFinal))=true:=by kernel_rfl
theorem AB5:((Tryz.pinned.checked.prog.make == some Rows.flightBeginsRow.make))=true:=by kernel_rfl
theorem AB6:((Rows.flightBeginsRow.kinds == (if Rows.flightBeginsRow.domain.isEmpty then [] else Tryz.f11.params.toList.map fun t=>match Tryz.pinned.checked.prog.underlying t with | some (.int k)=>some k | _=>none)))=true:=by kernel_rfl
theorem AB7:((Rows.flightBeginsRow.pinned == Rows.flightBeginsRow.pinnedBy))=true:=by kernel_rfl
theorem AB8:((Rows.flightBeginsRow.veiled == (Tryz.f11.params.toList++Rows.flightBeginsSpec.plain.varTypes Tryz.pinned.checked.prog++Tryz.f11.resultTypes.toList).any (Tryz.pinned.checked.prog.veiledRec ·)))=true:=by kernel_rfl
theorem AB9:(Rows.flightBeginsRow.veiledFits Tryz.pinned.checked.prog Tryz.f11.params.toList (Tryz.f11.params.toList++Rows.flightBeginsSpec.plain.varTypes Tryz.pinned.checked.prog++Tryz.f11.resultTypes.toList))=true:=by kernel_rfl
end Go.Proofs.YtigekgfbcfbobaaGreat
