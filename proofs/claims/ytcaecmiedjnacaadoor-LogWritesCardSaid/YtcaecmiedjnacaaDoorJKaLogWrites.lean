/- Own lemmas, used by the last text. Conditions: those that each theorem states. -/
import Derived.ProofKit
import Derived.Test.YtcaecmiedjnacaaDoorRows
set_option maxRecDepth 200000
set_option maxHeartbeats 8000000
namespace Go.Proofs.YtcaecmiedjnacaaDoor
theorem closed4 : joinedFacts Tryd.pinned.checked.prog 4 Tryd.f4 (OpenSpec.ofChange Rows.logWritesSpec).bare Rows.logWritesRow = true := by kernel_rfl
end Go.Proofs.YtcaecmiedjnacaaDoor
