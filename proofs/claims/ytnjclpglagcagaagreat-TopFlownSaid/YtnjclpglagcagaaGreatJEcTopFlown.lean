/- Own lemmas, used by the last text. Conditions: those that each theorem states. -/
import Derived.Test.YtnjclpglagcagaaGreatJEcTopFlownP
set_option maxRecDepth 200000
set_option maxHeartbeats 8000000
namespace Go.Proofs.YtnjclpglagcagaaGreat
open Go
theorem FL {a b:Bool} (h:a=true) (k:b=true):(a&&b)=true:=by rw [h,k];rfl
theorem xq:joinedFacts Tryz.pinned.checked.prog 5 Tryz.f5 Rows.topFlownSpec Rows.topFlownRow=true:=by
 unfold joinedFacts;exact (FL (FL (FL (FL (FL (FL (FL (FL (FL (FL (FL (FL (FL (FL (FL (FL (FL (FL (FL (FL (FL (FL (FL (FL (FL (FL (FL (FL (FL (FL (FL vK vL) vM) vN) vO) vP) vQ) vR) vS) vT) uC) uD) uE) uF) uG) uH) uI) uJ) uK) uL) uM) uN) uO) uP) uQ) uR) uS) uT) uU) uV) uW) uX)
end Go.Proofs.YtnjclpglagcagaaGreat
