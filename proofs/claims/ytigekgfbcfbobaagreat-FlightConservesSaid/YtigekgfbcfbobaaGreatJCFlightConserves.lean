/- Own lemmas and contracts of functions, used by the last text of this claim for the given statement. Conditions: those that each theorem states. -/
import Derived.Test.YtigekgfbcfbobaaGreatJCFlightConservesP
namespace Go.Proofs.YtigekgfbcfbobaaGreat
open Go
theorem band8 {a b : Bool} (h : a = true) (k : b = true) : (a && b) = true := by rw [h, k]; rfl
set_option maxRecDepth 100000 in
theorem closed8 : joinedFacts Tryz.pinned.checked.prog 8 Tryz.f8 Rows.flightConservesSpec Rows.flightConservesRow = true := by
 unfold joinedFacts
 exact (band8 (band8 (band8 (band8 (band8 (band8 (band8 (band8 (band8 (band8 (band8 (band8 (band8 (band8 (band8 (band8 (band8 (band8 (band8 (band8 (band8 (band8 (band8 (band8 (band8 (band8 (band8 (band8 (band8 (band8 (band8 closed8_0 closed8_1) closed8_2) closed8_3) closed8_4) closed8_5) closed8_6) closed8_7) closed8_8) closed8_9) closed8_10) closed8_11) closed8_12) closed8_13) closed8_14) closed8_15) closed8_16) closed8_17) closed8_18) closed8_19) closed8_20) closed8_21) closed8_22) closed8_23) closed8_24) closed8_25) closed8_26) closed8_27) closed8_28) closed8_29) closed8_30) closed8_31)
end Go.Proofs.YtigekgfbcfbobaaGreat
