/- Own lemmas, used by the last text. Conditions: those that each theorem states. -/
import Derived.ProofKit
import Derived.Test.YtcaecmiedjnacaaDoorRows
set_option maxRecDepth 200000
set_option maxHeartbeats 8000000
namespace Go.Proofs.YtcaecmiedjnacaaDoor
theorem closed3 : joinedFacts Tryd.pinned.checked.prog 3 Tryd.f3 (OpenSpec.ofChange Rows.logMergesSpec).bare Rows.logMergesRow = true := by kernel_rfl
end Go.Proofs.YtcaecmiedjnacaaDoor
