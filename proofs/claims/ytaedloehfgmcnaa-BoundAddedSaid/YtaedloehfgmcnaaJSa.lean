/- Own lemmas and contracts of functions, used by the last text of this claim for the given statement. Conditions: those that each theorem states. -/
import Derived.Test.YtaedloehfgmcnaaRows
import Derived.ProofKit
namespace Go.Proofs.Ytaedloehfgmcnaa
theorem closed18 : joinedFacts Try.pinned.checked.prog 18 Try.f18 Rows.boundAddedSpec Rows.boundAddedRow = true := by kernel_rfl
end Go.Proofs.Ytaedloehfgmcnaa
