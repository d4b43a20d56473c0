/- Own lemmas, used by the last text. Conditions: those that each theorem states. -/
import Derived.Test.YtigekgfbcfbobaaGreatJDbFlightStepsP
set_option maxRecDepth 200000
set_option maxHeartbeats 8000000
namespace Go.Proofs.YtigekgfbcfbobaaGreat
open Go
theorem F0 {a b:Bool} (h:a=true) (k:b=true):(a&&b)=true:=by rw [h,k];rfl
theorem xq:joinedFacts Tryz.pinned.checked.prog 5 Tryz.f5 Rows.flightStepsSpec Rows.flightStepsRow=true:=by
 unfold joinedFacts;exact (F0 (F0 (F0 (F0 (F0 (F0 (F0 (F0 (F0 (F0 (F0 (F0 (F0 (F0 (F0 (F0 (F0 (F0 (F0 (F0 (F0 (F0 (F0 (F0 (F0 (F0 (F0 (F0 (F0 (F0 (F0 vK vL) vM) vN) vO) vP) vQ) vR) vS) vT) uC) uD) uE) uF) uG) uH) uI) uJ) uK) uL) uM) uN) uO) uP) uQ) uR) uS) uT) uU) uV) uW) uX)
end Go.Proofs.YtigekgfbcfbobaaGreat
