/- Own lemmas, used by the last text. Conditions: those that each theorem states. -/
import Derived.Test.YtnjclpglagcagaaGreatJEbTopClimbsP
set_option maxRecDepth 200000
set_option maxHeartbeats 8000000
namespace Go.Proofs.YtnjclpglagcagaaGreat
open Go
theorem Qu {a b:Bool} (h:a=true) (k:b=true):(a&&b)=true:=by rw [h,k];rfl
theorem ATj:joinedFacts Tryz.pinned.checked.prog 4 Tryz.f4 Rows.topClimbsSpec Rows.topClimbsRow=true:=by
 unfold joinedFacts;exact (Qu (Qu (Qu (Qu (Qu (Qu (Qu (Qu (Qu (Qu (Qu (Qu (Qu (Qu (Qu (Qu (Qu (Qu (Qu (Qu (Qu (Qu (Qu (Qu (Qu (Qu (Qu (Qu (Qu (Qu (Qu ATK ATL) ATM) ATN) ATO) ATP) ATQ) ATR) ATS) ATT) ASt) ASu) ASv) ASw) ASx) ASy) ASz) AS0) AS1) AS2) AS3) AS4) AS5) AS6) AS7) AS8) AS9) ATA) ATB) ATC) ATD) ATE)
end Go.Proofs.YtnjclpglagcagaaGreat
