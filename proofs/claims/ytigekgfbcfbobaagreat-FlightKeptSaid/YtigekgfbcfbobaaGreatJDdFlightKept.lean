/- Own lemmas, used by the last text. Conditions: those that each theorem states. -/
import Derived.Test.YtigekgfbcfbobaaGreatJDdFlightKeptP
set_option maxRecDepth 200000
set_option maxHeartbeats 8000000
namespace Go.Proofs.YtigekgfbcfbobaaGreat
open Go
theorem Aj {a b:Bool} (h:a=true) (k:b=true):(a&&b)=true:=by rw [h,k];rfl
theorem wn:joinedFacts Tryz.pinned.checked.prog 10 Tryz.f10 Rows.flightKeptSpec Rows.flightKeptRow=true:=by
 unfold joinedFacts;exact (Aj (Aj (Aj (Aj (Aj (Aj (Aj (Aj (Aj (Aj (Aj (Aj (Aj (Aj (Aj (Aj (Aj (Aj (Aj (Aj (Aj (Aj (Aj (Aj (Aj (Aj (Aj (Aj (Aj (Aj (Aj bA bL) bk) b9) cq) cy) d9) ed) gA) ga) Kj) Kk) LO) M1) Nb) Nc) Nf) Ng) Nh) Ni) Nj) Nk) Nq) Qf) T5) U7) U8) U9) W6) XY) Xi) Xk)
end Go.Proofs.YtigekgfbcfbobaaGreat
