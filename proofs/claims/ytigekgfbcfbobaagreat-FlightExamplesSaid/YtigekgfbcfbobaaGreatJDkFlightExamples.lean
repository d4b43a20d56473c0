/- Own lemmas, used by the last text. Conditions: those that each theorem states. -/
import Derived.Test.YtigekgfbcfbobaaGreatJDkFlightExamplesP
set_option maxRecDepth 200000
set_option maxHeartbeats 8000000
namespace Go.Proofs.YtigekgfbcfbobaaGreat
open Go
theorem D0 {a b:Bool} (h:a=true) (k:b=true):(a&&b)=true:=by rw [h,k];rfl
theorem AIf:joinedFacts Tryz.pinned.checked.prog 17 Tryz.f17 Rows.flightExamplesSpec Rows.flightExamplesRow=true:=by
 unfold joinedFacts;exact (D0 (D0 (D0 (D0 (D0 (D0 (D0 (D0 (D0 (D0 (D0 (D0 (D0 (D0 (D0 (D0 (D0 (D0 (D0 (D0 (D0 (D0 (D0 (D0 (D0 (D0 (D0 (D0 (D0 (D0 (D0 AIS AIT) AIU) AIV) AIW) AIX) AIY) AIZ) AIa) AIb) a8) eA) g6) i6) i7) i8) i9) mN) n7) r5) r6) r7) r8) r9) sA) ww) AIJ) AIK) AIL) AIM) AIN) AIO)
end Go.Proofs.YtigekgfbcfbobaaGreat
