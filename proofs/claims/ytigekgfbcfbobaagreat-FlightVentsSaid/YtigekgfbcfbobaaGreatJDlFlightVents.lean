/- Own lemmas, used by the last text. Conditions: those that each theorem states. -/
import Derived.Test.YtigekgfbcfbobaaGreatJDlFlightVentsP
set_option maxRecDepth 200000
set_option maxHeartbeats 8000000
namespace Go.Proofs.YtigekgfbcfbobaaGreat
open Go
theorem Ny {a b:Bool} (h:a=true) (k:b=true):(a&&b)=true:=by rw [h,k];rfl
theorem AKi:joinedFacts Tryz.pinned.checked.prog 14 Tryz.f14 Rows.flightVentsSpec Rows.flightVentsRow=true:=by
 unfold joinedFacts;exact (Ny (Ny (Ny (Ny (Ny (Ny (Ny (Ny (Ny (Ny (Ny (Ny (Ny (Ny (Ny (Ny (Ny (Ny (Ny (Ny (Ny (Ny (Ny (Ny (Ny (Ny (Ny (Ny (Ny (Ny (Ny AJ6 AJ7) AJ8) AJ9) AKA) AKB) AKC) AKD) AKE) AKF) AJd) AJe) AJf) AJg) AJh) AJi) AJj) AJk) AJl) AJm) AJn) AJo) AJp) AJq) AJr) AJs) AJt) AJu) AJv) AJw) AJx) AJy)
end Go.Proofs.YtigekgfbcfbobaaGreat
