/- Own lemmas, used by the last text. Conditions: those that each theorem states. -/
import Derived.Test.YtcmmbjblncfhbaaGreatDoorJOaLineExamplesP
set_option maxRecDepth 200000
set_option maxHeartbeats 8000000
namespace Go.Proofs.YtcmmbjblncfhbaaGreatDoor
open Go
theorem band3 {a b : Bool} (h : a = true) (k : b = true) : (a && b) = true := by rw [h, k]; rfl
theorem closed3 : joinedFacts Tryz.pinned.checked.prog 3 Tryz.f3 (OpenSpec.ofChange Rows.lineExamplesSpec).bare Rows.lineExamplesRow = true := by
 unfold joinedFacts
 exact (band3 (band3 (band3 (band3 (band3 (band3 (band3 (band3 (band3 (band3 (band3 (band3 (band3 (band3 (band3 (band3 (band3 (band3 (band3 (band3 (band3 (band3 (band3 (band3 (band3 (band3 (band3 (band3 (band3 (band3 (band3 closed3_0 closed3_1) closed3_2) closed3_3) closed3_4) closed3_5) closed3_6) closed3_7) closed3_8) closed3_9) closed3_10) closed3_11) closed3_12) closed3_13) closed3_14) closed3_15) closed3_16) closed3_17) closed3_18) closed3_19) closed3_20) closed3_21) closed3_22) closed3_23) closed3_24) closed3_25) closed3_26) closed3_27) closed3_28) closed3_29) closed3_30) closed3_31)
end Go.Proofs.YtcmmbjblncfhbaaGreatDoor
