/- Own lemmas, used by the last text. Conditions: those that each theorem states. -/
import Derived.ProofKit
import Derived.Test.YtcaecmiedjnacaaGreatDoorRows
set_option maxRecDepth 200000
set_option maxHeartbeats 8000000
namespace Go.Proofs.YtcaecmiedjnacaaGreatDoor
theorem closed4 : joinedFacts Tryz.pinned.checked.prog 4 Tryz.f4 (OpenSpec.ofChange Rows.logSheetsSpec).bare Rows.logSheetsRow = true := by kernel_rfl
end Go.Proofs.YtcaecmiedjnacaaGreatDoor
