/- Own lemmas and contracts of functions, used by the last text of this claim for the given statement. Conditions: those that each theorem states. -/
import Derived.Test.YtaedloehfgmcnaaRows
import Derived.ProofKit
namespace Go.Proofs.Ytaedloehfgmcnaa
theorem closed19 : joinedFacts Try.pinned.checked.prog 19 Try.f19 Rows.boundExamplesSpec Rows.boundExamplesRow = true := by kernel_rfl
end Go.Proofs.Ytaedloehfgmcnaa
