/- Own lemmas, used by the last text. Conditions: those that each theorem states. -/
import Derived.Test.YtigekgfbcfbobaaGreatJDaFlightConservesP
set_option maxRecDepth 200000
set_option maxHeartbeats 8000000
namespace Go.Proofs.YtigekgfbcfbobaaGreat
open Go
theorem Bf {a b:Bool} (h:a=true) (k:b=true):(a&&b)=true:=by rw [h,k];rfl
theorem fJ:joinedFacts Tryz.pinned.checked.prog 8 Tryz.f8 Rows.flightConservesSpec Rows.flightConservesRow=true:=by
 unfold joinedFacts;exact (Bf (Bf (Bf (Bf (Bf (Bf (Bf (Bf (Bf (Bf (Bf (Bf (Bf (Bf (Bf (Bf (Bf (Bf (Bf (Bf (Bf (Bf (Bf (Bf (Bf (Bf (Bf (Bf (Bf (Bf (Bf Vz V0) V1) V2) V3) V4) V5) V6) V7) V8) RM) RO) RP) RQ) RR) RS) RT) RU) RX) RY) cA) Rl) Rm) Rn) Rp) Rq) Rr) R3) R4) R5) R6) R7)
end Go.Proofs.YtigekgfbcfbobaaGreat
