/- Contracts: what each function of the program computes, for the arguments that its theorem names; and from there the given statement. Conditions: those that each theorem states. -/
import Derived.Test.YtaedloehfgmcnaaRows
import Derived.ProofKit
namespace Go.Proofs.Ytaedloehfgmcnaa
theorem closed17 : joinedFacts Try.pinned.checked.prog 17 Try.f17 Rows.boundPartedSpec Rows.boundPartedRow = true := by kernel_rfl
end Go.Proofs.Ytaedloehfgmcnaa
