/- Own lemmas, used by the last text. Conditions: those that each theorem states. -/
import Derived.Test.YtigekgfbcfbobaaGreatJDeFlightBeginsP
set_option maxRecDepth 200000
set_option maxHeartbeats 8000000
namespace Go.Proofs.YtigekgfbcfbobaaGreat
open Go
theorem W8 {a b:Bool} (h:a=true) (k:b=true):(a&&b)=true:=by rw [h,k];rfl
theorem ACM:joinedFacts Tryz.pinned.checked.prog 11 Tryz.f11 Rows.flightBeginsSpec Rows.flightBeginsRow=true:=by
 unfold joinedFacts;exact (W8 (W8 (W8 (W8 (W8 (W8 (W8 (W8 (W8 (W8 (W8 (W8 (W8 (W8 (W8 (W8 (W8 (W8 (W8 (W8 (W8 (W8 (W8 (W8 (W8 (W8 (W8 (W8 (W8 (W8 (W8 ACB ACC) ACD) ACE) ACF) ACG) ACH) ACI) ACJ) ACK) cH) cS) kd) lg) mn) nf) nh) nw) o4) u1) u2) u3) u4) u5) vv) v6) v7) AB5) AB6) AB7) AB8) AB9)
end Go.Proofs.YtigekgfbcfbobaaGreat
