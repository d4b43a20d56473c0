/- Own lemmas, used by the last text. Conditions: those that each theorem states. -/
import Derived.Test.YtigekgfbcfbobaaGreatJDhFlightTrueP
set_option maxRecDepth 200000
set_option maxHeartbeats 8000000
namespace Go.Proofs.YtigekgfbcfbobaaGreat
open Go
theorem F1 {a b:Bool} (h:a=true) (k:b=true):(a&&b)=true:=by rw [h,k];rfl
theorem AGA:joinedFacts Tryz.pinned.checked.prog 7 Tryz.f7 Rows.flightTrueSpec Rows.flightTrueRow=true:=by
 unfold joinedFacts;exact (F1 (F1 (F1 (F1 (F1 (F1 (F1 (F1 (F1 (F1 (F1 (F1 (F1 (F1 (F1 (F1 (F1 (F1 (F1 (F1 (F1 (F1 (F1 (F1 (F1 (F1 (F1 (F1 (F1 (F1 (F1 AFn AFo) AFp) AFq) AFr) AFs) AFt) AFu) AFv) AFw) nL) nT) ny) AFP) AFQ) AFR) AFS) AFT) AFU) AFV) AFW) AFX) AFY) AFZ) AFa) AFb) AFc) AFd) AFe) AFf) AFg) AFh)
end Go.Proofs.YtigekgfbcfbobaaGreat
