/- Own lemmas, used by the last text. Conditions: those that each theorem states. -/
import Derived.Test.YtigekgfbcfbobaaGreatJDgFlightCertP
set_option maxRecDepth 200000
set_option maxHeartbeats 8000000
namespace Go.Proofs.YtigekgfbcfbobaaGreat
open Go
theorem Xq {a b:Bool} (h:a=true) (k:b=true):(a&&b)=true:=by rw [h,k];rfl
theorem AFD:joinedFacts Tryz.pinned.checked.prog 16 Tryz.f16 Rows.flightCertSpec Rows.flightCertRow=true:=by
 unfold joinedFacts;exact (Xq (Xq (Xq (Xq (Xq (Xq (Xq (Xq (Xq (Xq (Xq (Xq (Xq (Xq (Xq (Xq (Xq (Xq (Xq (Xq (Xq (Xq (Xq (Xq (Xq (Xq (Xq (Xq (Xq (Xq (Xq AEt AEu) AEv) AEw) AEx) AEy) AEz) AE0) AE1) AE2) AEW) AEX) AEY) AEZ) AEa) AEb) AEc) AEd) AEe) AEf) AEg) AEh) AEi) AEj) AEk) AEl) AEm) AEn) AEo) AEp) AEq) AEr)
end Go.Proofs.YtigekgfbcfbobaaGreat
