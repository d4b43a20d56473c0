/- Contracts: what each function of the program computes, for the arguments that its theorem names; and from there the given statement. Conditions: those that each theorem states. -/
import Derived.Test.YtaedloehfgmcnaaRows
import Derived.ProofKit
namespace Go.Proofs.Ytaedloehfgmcnaa
theorem closed16 : joinedFacts Try.pinned.checked.prog 16 Try.f16 Rows.boundHullSpec Rows.boundHullRow = true := by kernel_rfl
end Go.Proofs.Ytaedloehfgmcnaa
