/- Own lemmas, used by the last text. Conditions: those that each theorem states. -/
import Derived.Test.YtigekgfbcfbobaaGreatJDfFlightAcceptsP
set_option maxRecDepth 200000
set_option maxHeartbeats 8000000
namespace Go.Proofs.YtigekgfbcfbobaaGreat
open Go
theorem FK {a b:Bool} (h:a=true) (k:b=true):(a&&b)=true:=by rw [h,k];rfl
theorem ADs:joinedFacts Tryz.pinned.checked.prog 13 Tryz.f13 Rows.flightAcceptsSpec Rows.flightAcceptsRow=true:=by
 unfold joinedFacts;exact (FK (FK (FK (FK (FK (FK (FK (FK (FK (FK (FK (FK (FK (FK (FK (FK (FK (FK (FK (FK (FK (FK (FK (FK (FK (FK (FK (FK (FK (FK (FK ADJ ADK) ADL) ADM) ADN) ADO) ADP) ADQ) ADR) ADS) ACp) ACq) ACr) ACs) ACt) ACu) ACv) ACw) ACx) ACy) ACz) AC0) AC1) AC2) AC3) AC4) AC5) AC6) AC7) AC8) AC9) ADA)
end Go.Proofs.YtigekgfbcfbobaaGreat
