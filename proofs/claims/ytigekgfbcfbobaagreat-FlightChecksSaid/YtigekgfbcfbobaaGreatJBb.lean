/- Own lemmas and contracts of functions, used by the last text of this claim for the given statement. Conditions: those that each theorem states. -/
import Derived.Test.YtigekgfbcfbobaaGreatJBa
namespace Go.Proofs.YtigekgfbcfbobaaGreat
open Go
theorem band4 {a b : Bool} (h : a = true) (k : b = true) : (a && b) = true := by rw [h, k]; rfl
set_option maxRecDepth 100000 in
theorem closed4 : joinedFacts Tryz.pinned.checked.prog 4 Tryz.f4 Rows.flightChecksSpec Rows.flightChecksRow = true := by
  unfold joinedFacts
  exact (band4 (band4 (band4 (band4 (band4 (band4 (band4 (band4 (band4 (band4 (band4 (band4 (band4 (band4 (band4 (band4 (band4 (band4 (band4 (band4 (band4 (band4 (band4 (band4 (band4 (band4 (band4 (band4 (band4 (band4 (band4 closed4_0 closed4_1) closed4_2) closed4_3) closed4_4) closed4_5) closed4_6) closed4_7) closed4_8) closed4_9) closed4_10) closed4_11) closed4_12) closed4_13) closed4_14) closed4_15) closed4_16) closed4_17) closed4_18) closed4_19) closed4_20) closed4_21) closed4_22) closed4_23) closed4_24) closed4_25) closed4_26) closed4_27) closed4_28) closed4_29) closed4_30) closed4_31)
end Go.Proofs.YtigekgfbcfbobaaGreat
