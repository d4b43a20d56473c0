/- Own lemmas, used by the last text. Conditions: those that each theorem states. -/
import Derived.Test.YtmaoncnifomnkaaGreatDoorJNaLineLoadsP
set_option maxRecDepth 200000
set_option maxHeartbeats 8000000
namespace Go.Proofs.YtmaoncnifomnkaaGreatDoor
open Go
theorem ALI {a b:Bool} (h:a=true) (k:b=true):(a&&b)=true:=by rw [h,k];rfl
theorem APw:joinedFacts Tryz.pinned.checked.prog 3 Tryz.f3 (OpenSpec.ofChange Rows.lineLoadsSpec).bare Rows.lineLoadsRow=true:=by
 unfold joinedFacts;exact (ALI (ALI (ALI (ALI (ALI (ALI (ALI (ALI (ALI (ALI (ALI (ALI (ALI (ALI (ALI (ALI (ALI (ALI (ALI (ALI (ALI (ALI (ALI (ALI (ALI (ALI (ALI (ALI (ALI (ALI (ALI AOU AOV) AOW) AOX) AOY) AOZ) AOa) AOb) AOc) AOd) ANK) ANL) ANM) ANN) ANO) ANP) ANQ) ANR) ANS) ANT) ANU) ANV) ANW) ANX) ANZ) ANa) ANb) ANc) ANd) ANe) ANf) ANg)
end Go.Proofs.YtmaoncnifomnkaaGreatDoor
