/- Own lemmas and contracts of functions, used by the last text of this claim for the given statement. Conditions: those that each theorem states. -/
import Derived.Test.YtigekgfbcfbobaaGreatJCFlightTopsP
namespace Go.Proofs.YtigekgfbcfbobaaGreat
open Go
theorem band12 {a b : Bool} (h : a = true) (k : b = true) : (a && b) = true := by rw [h, k]; rfl
set_option maxRecDepth 100000 in
theorem closed12 : joinedFacts Tryz.pinned.checked.prog 12 Tryz.f12 Rows.flightTopsSpec Rows.flightTopsRow = true := by
 unfold joinedFacts
 exact (band12 (band12 (band12 (band12 (band12 (band12 (band12 (band12 (band12 (band12 (band12 (band12 (band12 (band12 (band12 (band12 (band12 (band12 (band12 (band12 (band12 (band12 (band12 (band12 (band12 (band12 (band12 (band12 (band12 (band12 (band12 closed12_0 closed12_1) closed12_2) closed12_3) closed12_4) closed12_5) closed12_6) closed12_7) closed12_8) closed12_9) closed12_10) closed12_11) closed12_12) closed12_13) closed12_14) closed12_15) closed12_16) closed12_17) closed12_18) closed12_19) closed12_20) closed12_21) closed12_22) closed12_23) closed12_24) closed12_25) closed12_26) closed12_27) closed12_28) closed12_29) closed12_30) closed12_31)
end Go.Proofs.YtigekgfbcfbobaaGreat
