/- Own lemmas, used by the last text. Conditions: those that each theorem states. -/
import Derived.Test.YtigekgfbcfbobaaGreatJDjFlightSplitP
set_option maxRecDepth 200000
set_option maxHeartbeats 8000000
namespace Go.Proofs.YtigekgfbcfbobaaGreat
open Go
theorem Ia {a b:Bool} (h:a=true) (k:b=true):(a&&b)=true:=by rw [h,k];rfl
theorem AID:joinedFacts Tryz.pinned.checked.prog 9 Tryz.f9 Rows.flightSplitSpec Rows.flightSplitRow=true:=by
 unfold joinedFacts;exact (Ia (Ia (Ia (Ia (Ia (Ia (Ia (Ia (Ia (Ia (Ia (Ia (Ia (Ia (Ia (Ia (Ia (Ia (Ia (Ia (Ia (Ia (Ia (Ia (Ia (Ia (Ia (Ia (Ia (Ia (Ia AHl AHm) AHn) AHo) AHp) AHq) AHr) AHs) AHt) AHu) AHI) AHJ) AHK) AHL) AHM) AHN) AHO) AHP) AHQ) AHR) AHS) AHT) AHU) AHV) AHW) AHX) AHY) AHZ) AHa) AHb) AHc) AHd)
end Go.Proofs.YtigekgfbcfbobaaGreat
