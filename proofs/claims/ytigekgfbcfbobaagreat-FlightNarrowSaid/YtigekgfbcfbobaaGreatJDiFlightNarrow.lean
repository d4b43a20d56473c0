/- Own lemmas, used by the last text. Conditions: those that each theorem states. -/
import Derived.Test.YtigekgfbcfbobaaGreatJDiFlightNarrowP
set_option maxRecDepth 200000
set_option maxHeartbeats 8000000
namespace Go.Proofs.YtigekgfbcfbobaaGreat
open Go
theorem Qh {a b:Bool} (h:a=true) (k:b=true):(a&&b)=true:=by rw [h,k];rfl
theorem AGw:joinedFacts Tryz.pinned.checked.prog 15 Tryz.f15 Rows.flightNarrowSpec Rows.flightNarrowRow=true:=by
 unfold joinedFacts;exact (Qh (Qh (Qh (Qh (Qh (Qh (Qh (Qh (Qh (Qh (Qh (Qh (Qh (Qh (Qh (Qh (Qh (Qh (Qh (Qh (Qh (Qh (Qh (Qh (Qh (Qh (Qh (Qh (Qh (Qh (Qh AGh AGi) AGj) AGk) AGl) AGm) AGn) AGo) AGp) AGq) cW) gn) gx) gy) wA) wE) AGO) AGP) AGQ) AGR) AGS) AGT) AGU) AGV) AGW) AGX) AGY) AGZ) AGa) AGb) AGc) AGd)
end Go.Proofs.YtigekgfbcfbobaaGreat
