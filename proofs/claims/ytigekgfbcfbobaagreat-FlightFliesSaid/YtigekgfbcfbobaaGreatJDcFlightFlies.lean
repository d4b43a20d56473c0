/- Own lemmas, used by the last text. Conditions: those that each theorem states. -/
import Derived.Test.YtigekgfbcfbobaaGreatJDcFlightFliesP
set_option maxRecDepth 200000
set_option maxHeartbeats 8000000
namespace Go.Proofs.YtigekgfbcfbobaaGreat
open Go
theorem Qi {a b:Bool} (h:a=true) (k:b=true):(a&&b)=true:=by rw [h,k];rfl
theorem ABN:joinedFacts Tryz.pinned.checked.prog 6 Tryz.f6 Rows.flightFliesSpec Rows.flightFliesRow=true:=by
 unfold joinedFacts;exact (Qi (Qi (Qi (Qi (Qi (Qi (Qi (Qi (Qi (Qi (Qi (Qi (Qi (Qi (Qi (Qi (Qi (Qi (Qi (Qi (Qi (Qi (Qi (Qi (Qi (Qi (Qi (Qi (Qi (Qi (Qi AA6 AA7) AA8) AA9) ABA) ABB) ABC) ABD) ABE) ABF) AAh) AAi) AAj) AAk) AAl) AAm) AAn) AAo) AAp) AAq) AAr) AAs) AAt) AAu) AAv) AAw) AAx) AAy) AAz) AA0) AA1) AA2)
end Go.Proofs.YtigekgfbcfbobaaGreat
