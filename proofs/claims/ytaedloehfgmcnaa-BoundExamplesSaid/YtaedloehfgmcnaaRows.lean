/-
  No cell of these rows narrows 'for every input' (looked for: loops, veiled, ifaces, maps, wideKeys, modest, calm, conditions, laid).
  DERIVED. THE GIVEN ROWS OF THIS SEAT. 17 by the template 'for every input the law returns true; each argument reads behind the call as it read before'; 0 by the template 'total and deterministic' (their statements: YtaedloehfgmcnaaTotals.lean).
  GIVEN WITH THE SEED: the statements are not yours to turn. If you find one false, say at which input.
  Laid BY PROGRAM, IN A SANDBOX (cutbox-rows.mjs): the forced cells as the released guide's own fill.sh prints them over the translation 7c9b844a23190c31… (all of the seat's roots in one cut). By AI agents, Wed Nov 11 2026. No macro, syntax, notation, axiom, sorry.
-/
import Derived.Test.YtaedloehfgmcnaaChecked
import GoSem.Claim
import GoSem.ClaimJoined
import GoSem.ClaimMapViews
import Derived.JoinedTies
import Derived.KernelRfl
namespace Go.Proofs.Ytaedloehfgmcnaa
/- THE CELL 'sum', in the pinned program and in every row, IS THE sha256 OF THE DUMP (.gsa) THAT YtaedloehfgmcnaaProg.lean LOADS. Nothing in Lean hashes anything: it is a label: what it is worth is what the hold of that sum in a sandbox is worth. -/
noncomputable def Try.pinned : Pinned := { name := "ytaedloehfgmcnaa", sum := "7c9b844a23190c3150f026065d89ef9c7f1e01d132ba74b98f3a663fd81893ba", checked := Try.checked }
namespace Rows
def none {H : Type} : Left H := { results := [], args := [] }

/-- 'ballonetlaw01.BoundTables': WHATEVER THE INPUT: true; the input reads as it did. -/
def boundTablesSpec : ChangeSpec := { name := "boundTables", fn := fun _ => fun
  | [d1, d2, d3] => { results := [.lit (.bool true)], args := [d1, d2, d3] }
  | _ => none }
def boundTablesRow : OpenClaim := { program := "ytaedloehfgmcnaa", sum := "7c9b844a23190c3150f026065d89ef9c7f1e01d132ba74b98f3a663fd81893ba", func := "ballonet/ballonetlaw01.BoundTables", spec := "boundTables", unfollowed := true, recurses := true, apart := false }
def BoundTablesSaid : Prop := boundTablesRow.holds Try.pinned (OpenSpec.ofChange boundTablesSpec)

/-- ITS FALSE NEIGHBOUR: 'it returns false'. Refute it at one input. -/
def boundTablesWrong : ChangeSpec := { name := "boundTables", fn := fun _ => fun
  | [d1, d2, d3] => { results := [.lit (.bool false)], args := [d1, d2, d3] }
  | _ => none }
def BoundTablesWrongFalsely : Prop := boundTablesRow.holds Try.pinned (OpenSpec.ofChange boundTablesWrong)

/-- 'ballonetlaw01.BoundOvers': WHATEVER THE INPUT: true; the input reads as it did. -/
def boundOversSpec : ChangeSpec := { name := "boundOvers", fn := fun _ => fun
  | [d1, d2, d3] => { results := [.lit (.bool true)], args := [d1, d2, d3] }
  | _ => none }
def boundOversRow : OpenClaim := { program := "ytaedloehfgmcnaa", sum := "7c9b844a23190c3150f026065d89ef9c7f1e01d132ba74b98f3a663fd81893ba", func := "ballonet/ballonetlaw01.BoundOvers", spec := "boundOvers", named := ["math/bits.divideError", "math/bits.overflowError"], apart := false }
def BoundOversSaid : Prop := boundOversRow.holds Try.pinned (OpenSpec.ofChange boundOversSpec)

/-- ITS FALSE NEIGHBOUR: 'it returns false'. Refute it at one input. -/
def boundOversWrong : ChangeSpec := { name := "boundOvers", fn := fun _ => fun
  | [d1, d2, d3] => { results := [.lit (.bool false)], args := [d1, d2, d3] }
  | _ => none }
def BoundOversWrongFalsely : Prop := boundOversRow.holds Try.pinned (OpenSpec.ofChange boundOversWrong)

/-- 'ballonetlaw01.BoundSpans': WHATEVER THE INPUT: true; the input reads as it did. -/
def boundSpansSpec : ChangeSpec := { name := "boundSpans", fn := fun _ => fun
  | [d1, d2] => { results := [.lit (.bool true)], args := [d1, d2] }
  | _ => none }
def boundSpansRow : OpenClaim := { program := "ytaedloehfgmcnaa", sum := "7c9b844a23190c3150f026065d89ef9c7f1e01d132ba74b98f3a663fd81893ba", func := "ballonet/ballonetlaw01.BoundSpans", spec := "boundSpans", named := ["math/bits.divideError", "math/bits.overflowError"], apart := false }
def BoundSpansSaid : Prop := boundSpansRow.holds Try.pinned (OpenSpec.ofChange boundSpansSpec)

/-- ITS FALSE NEIGHBOUR: 'it returns false'. Refute it at one input. -/
def boundSpansWrong : ChangeSpec := { name := "boundSpans", fn := fun _ => fun
  | [d1, d2] => { results := [.lit (.bool false)], args := [d1, d2] }
  | _ => none }
def BoundSpansWrongFalsely : Prop := boundSpansRow.holds Try.pinned (OpenSpec.ofChange boundSpansWrong)

/-- 'ballonetlaw01.BoundRegions': WHATEVER THE INPUT: true; the input reads as it did. -/
def boundRegionsSpec : ChangeSpec := { name := "boundRegions", fn := fun _ => fun
  | [d1, d2, d3, d4] => { results := [.lit (.bool true)], args := [d1, d2, d3, d4] }
  | _ => none }
def boundRegionsRow : OpenClaim := { program := "ytaedloehfgmcnaa", sum := "7c9b844a23190c3150f026065d89ef9c7f1e01d132ba74b98f3a663fd81893ba", func := "ballonet/ballonetlaw01.BoundRegions", spec := "boundRegions", unfollowed := true, recurses := true, apart := false }
def BoundRegionsSaid : Prop := boundRegionsRow.holds Try.pinned (OpenSpec.ofChange boundRegionsSpec)

/-- ITS FALSE NEIGHBOUR: 'it returns false'. Refute it at one input. -/
def boundRegionsWrong : ChangeSpec := { name := "boundRegions", fn := fun _ => fun
  | [d1, d2, d3, d4] => { results := [.lit (.bool false)], args := [d1, d2, d3, d4] }
  | _ => none }
def BoundRegionsWrongFalsely : Prop := boundRegionsRow.holds Try.pinned (OpenSpec.ofChange boundRegionsWrong)

/-- 'ballonetlaw01.BoundShares': WHATEVER THE INPUT: true; the input reads as it did. -/
def boundSharesSpec : ChangeSpec := { name := "boundShares", fn := fun _ => fun
  | [d1, d2, d3, d4, d5, d6] => { results := [.lit (.bool true)], args := [d1, d2, d3, d4, d5, d6] }
  | _ => none }
def boundSharesRow : OpenClaim := { program := "ytaedloehfgmcnaa", sum := "7c9b844a23190c3150f026065d89ef9c7f1e01d132ba74b98f3a663fd81893ba", func := "ballonet/ballonetlaw01.BoundShares", spec := "boundShares", unfollowed := true, recurses := true, named := ["math/bits.divideError", "math/bits.overflowError"], apart := false }
def BoundSharesSaid : Prop := boundSharesRow.holds Try.pinned (OpenSpec.ofChange boundSharesSpec)

/-- ITS FALSE NEIGHBOUR: 'it returns false'. Refute it at one input. -/
def boundSharesWrong : ChangeSpec := { name := "boundShares", fn := fun _ => fun
  | [d1, d2, d3, d4, d5, d6] => { results := [.lit (.bool false)], args := [d1, d2, d3, d4, d5, d6] }
  | _ => none }
def BoundSharesWrongFalsely : Prop := boundSharesRow.holds Try.pinned (OpenSpec.ofChange boundSharesWrong)

/-- 'ballonetlaw01.BoundSums': WHATEVER THE INPUT: true; the input reads as it did. -/
def boundSumsSpec : ChangeSpec := { name := "boundSums", fn := fun _ => fun
  | [d1, d2, d3, d4] => { results := [.lit (.bool true)], args := [d1, d2, d3, d4] }
  | _ => none }
def boundSumsRow : OpenClaim := { program := "ytaedloehfgmcnaa", sum := "7c9b844a23190c3150f026065d89ef9c7f1e01d132ba74b98f3a663fd81893ba", func := "ballonet/ballonetlaw01.BoundSums", spec := "boundSums", unfollowed := true, recurses := true, apart := false }
def BoundSumsSaid : Prop := boundSumsRow.holds Try.pinned (OpenSpec.ofChange boundSumsSpec)

/-- ITS FALSE NEIGHBOUR: 'it returns false'. Refute it at one input. -/
def boundSumsWrong : ChangeSpec := { name := "boundSums", fn := fun _ => fun
  | [d1, d2, d3, d4] => { results := [.lit (.bool false)], args := [d1, d2, d3, d4] }
  | _ => none }
def BoundSumsWrongFalsely : Prop := boundSumsRow.holds Try.pinned (OpenSpec.ofChange boundSumsWrong)

/-- 'ballonetlaw01.BoundLinear': WHATEVER THE INPUT: true; the input reads as it did. -/
def boundLinearSpec : ChangeSpec := { name := "boundLinear", fn := fun _ => fun
  | [d1, d2, d3, d4] => { results := [.lit (.bool true)], args := [d1, d2, d3, d4] }
  | _ => none }
def boundLinearRow : OpenClaim := { program := "ytaedloehfgmcnaa", sum := "7c9b844a23190c3150f026065d89ef9c7f1e01d132ba74b98f3a663fd81893ba", func := "ballonet/ballonetlaw01.BoundLinear", spec := "boundLinear", unfollowed := true, recurses := true, named := ["math/bits.divideError", "math/bits.overflowError"], apart := false }
def BoundLinearSaid : Prop := boundLinearRow.holds Try.pinned (OpenSpec.ofChange boundLinearSpec)

/-- ITS FALSE NEIGHBOUR: 'it returns false'. Refute it at one input. -/
def boundLinearWrong : ChangeSpec := { name := "boundLinear", fn := fun _ => fun
  | [d1, d2, d3, d4] => { results := [.lit (.bool false)], args := [d1, d2, d3, d4] }
  | _ => none }
def BoundLinearWrongFalsely : Prop := boundLinearRow.holds Try.pinned (OpenSpec.ofChange boundLinearWrong)

/-- 'ballonetlaw01.BoundWhere': WHATEVER THE INPUT: true; the input reads as it did. -/
def boundWhereSpec : ChangeSpec := { name := "boundWhere", fn := fun _ => fun
  | [d1, d2, d3, d4] => { results := [.lit (.bool true)], args := [d1, d2, d3, d4] }
  | _ => none }
def boundWhereRow : OpenClaim := { program := "ytaedloehfgmcnaa", sum := "7c9b844a23190c3150f026065d89ef9c7f1e01d132ba74b98f3a663fd81893ba", func := "ballonet/ballonetlaw01.BoundWhere", spec := "boundWhere", unfollowed := true, recurses := true, named := ["math/bits.divideError", "math/bits.overflowError"], apart := false }
def BoundWhereSaid : Prop := boundWhereRow.holds Try.pinned (OpenSpec.ofChange boundWhereSpec)

/-- ITS FALSE NEIGHBOUR: 'it returns false'. Refute it at one input. -/
def boundWhereWrong : ChangeSpec := { name := "boundWhere", fn := fun _ => fun
  | [d1, d2, d3, d4] => { results := [.lit (.bool false)], args := [d1, d2, d3, d4] }
  | _ => none }
def BoundWhereWrongFalsely : Prop := boundWhereRow.holds Try.pinned (OpenSpec.ofChange boundWhereWrong)

/-- 'ballonetlaw01.BoundNarrow': WHATEVER THE INPUT: true; the input reads as it did. -/
def boundNarrowSpec : ChangeSpec := { name := "boundNarrow", fn := fun _ => fun
  | [d1, d2, d3, d4, d5, d6] => { results := [.lit (.bool true)], args := [d1, d2, d3, d4, d5, d6] }
  | _ => none }
def boundNarrowRow : OpenClaim := { program := "ytaedloehfgmcnaa", sum := "7c9b844a23190c3150f026065d89ef9c7f1e01d132ba74b98f3a663fd81893ba", func := "ballonet/ballonetlaw01.BoundNarrow", spec := "boundNarrow", unfollowed := true, recurses := true, named := ["math/bits.divideError", "math/bits.overflowError"], apart := false }
def BoundNarrowSaid : Prop := boundNarrowRow.holds Try.pinned (OpenSpec.ofChange boundNarrowSpec)

/-- ITS FALSE NEIGHBOUR: 'it returns false'. Refute it at one input. -/
def boundNarrowWrong : ChangeSpec := { name := "boundNarrow", fn := fun _ => fun
  | [d1, d2, d3, d4, d5, d6] => { results := [.lit (.bool false)], args := [d1, d2, d3, d4, d5, d6] }
  | _ => none }
def BoundNarrowWrongFalsely : Prop := boundNarrowRow.holds Try.pinned (OpenSpec.ofChange boundNarrowWrong)

/-- 'ballonetlaw01.BoundTrue': WHATEVER THE INPUT: true; the input reads as it did. -/
def boundTrueSpec : ChangeSpec := { name := "boundTrue", fn := fun _ => fun
  | [d1, d2, d3, d4] => { results := [.lit (.bool true)], args := [d1, d2, d3, d4] }
  | _ => none }
def boundTrueRow : OpenClaim := { program := "ytaedloehfgmcnaa", sum := "7c9b844a23190c3150f026065d89ef9c7f1e01d132ba74b98f3a663fd81893ba", func := "ballonet/ballonetlaw01.BoundTrue", spec := "boundTrue", unfollowed := true, recurses := true, named := ["math/bits.divideError", "math/bits.overflowError"], apart := false }
def BoundTrueSaid : Prop := boundTrueRow.holds Try.pinned (OpenSpec.ofChange boundTrueSpec)

/-- ITS FALSE NEIGHBOUR: 'it returns false'. Refute it at one input. -/
def boundTrueWrong : ChangeSpec := { name := "boundTrue", fn := fun _ => fun
  | [d1, d2, d3, d4] => { results := [.lit (.bool false)], args := [d1, d2, d3, d4] }
  | _ => none }
def BoundTrueWrongFalsely : Prop := boundTrueRow.holds Try.pinned (OpenSpec.ofChange boundTrueWrong)

/-- 'ballonetlaw01.BoundMeets': WHATEVER THE INPUT: true; the input reads as it did. -/
def boundMeetsSpec : ChangeSpec := { name := "boundMeets", fn := fun _ => fun
  | [d1, d2, d3] => { results := [.lit (.bool true)], args := [d1, d2, d3] }
  | _ => none }
def boundMeetsRow : OpenClaim := { program := "ytaedloehfgmcnaa", sum := "7c9b844a23190c3150f026065d89ef9c7f1e01d132ba74b98f3a663fd81893ba", func := "ballonet/ballonetlaw01.BoundMeets", spec := "boundMeets", unfollowed := true, recurses := true, named := ["math/bits.divideError", "math/bits.overflowError"], apart := false }
def BoundMeetsSaid : Prop := boundMeetsRow.holds Try.pinned (OpenSpec.ofChange boundMeetsSpec)

/-- ITS FALSE NEIGHBOUR: 'it returns false'. Refute it at one input. -/
def boundMeetsWrong : ChangeSpec := { name := "boundMeets", fn := fun _ => fun
  | [d1, d2, d3] => { results := [.lit (.bool false)], args := [d1, d2, d3] }
  | _ => none }
def BoundMeetsWrongFalsely : Prop := boundMeetsRow.holds Try.pinned (OpenSpec.ofChange boundMeetsWrong)

/-- 'ballonetlaw01.BoundRoots': WHATEVER THE INPUT: true; the input reads as it did. -/
def boundRootsSpec : ChangeSpec := { name := "boundRoots", fn := fun _ => fun
  | [d] => { results := [.lit (.bool true)], args := [d] }
  | _ => none }
def boundRootsRow : OpenClaim := { program := "ytaedloehfgmcnaa", sum := "7c9b844a23190c3150f026065d89ef9c7f1e01d132ba74b98f3a663fd81893ba", func := "ballonet/ballonetlaw01.BoundRoots", spec := "boundRoots", unfollowed := true, recurses := true, named := ["math/bits.divideError", "math/bits.overflowError"], apart := false }
def BoundRootsSaid : Prop := boundRootsRow.holds Try.pinned (OpenSpec.ofChange boundRootsSpec)

/-- ITS FALSE NEIGHBOUR: 'it returns false'. Refute it at one input. -/
def boundRootsWrong : ChangeSpec := { name := "boundRoots", fn := fun _ => fun
  | [d] => { results := [.lit (.bool false)], args := [d] }
  | _ => none }
def BoundRootsWrongFalsely : Prop := boundRootsRow.holds Try.pinned (OpenSpec.ofChange boundRootsWrong)

/-- 'ballonetlaw01.BoundEdges': WHATEVER THE INPUT: true; the input reads as it did. -/
def boundEdgesSpec : ChangeSpec := { name := "boundEdges", fn := fun _ => fun
  | [d1, d2, d3, d4] => { results := [.lit (.bool true)], args := [d1, d2, d3, d4] }
  | _ => none }
def boundEdgesRow : OpenClaim := { program := "ytaedloehfgmcnaa", sum := "7c9b844a23190c3150f026065d89ef9c7f1e01d132ba74b98f3a663fd81893ba", func := "ballonet/ballonetlaw01.BoundEdges", spec := "boundEdges", unfollowed := true, recurses := true, named := ["math/bits.divideError", "math/bits.overflowError"], apart := false }
def BoundEdgesSaid : Prop := boundEdgesRow.holds Try.pinned (OpenSpec.ofChange boundEdgesSpec)

/-- ITS FALSE NEIGHBOUR: 'it returns false'. Refute it at one input. -/
def boundEdgesWrong : ChangeSpec := { name := "boundEdges", fn := fun _ => fun
  | [d1, d2, d3, d4] => { results := [.lit (.bool false)], args := [d1, d2, d3, d4] }
  | _ => none }
def BoundEdgesWrongFalsely : Prop := boundEdgesRow.holds Try.pinned (OpenSpec.ofChange boundEdgesWrong)

/-- 'ballonetlaw01.BoundHull': WHATEVER THE INPUT: true; the input reads as it did. -/
def boundHullSpec : ChangeSpec := { name := "boundHull", fn := fun _ => fun
  | [d1, d2] => { results := [.lit (.bool true)], args := [d1, d2] }
  | _ => none }
def boundHullRow : OpenClaim := { program := "ytaedloehfgmcnaa", sum := "7c9b844a23190c3150f026065d89ef9c7f1e01d132ba74b98f3a663fd81893ba", func := "ballonet/ballonetlaw01.BoundHull", spec := "boundHull", unfollowed := true, recurses := true, named := ["math/bits.divideError", "math/bits.overflowError"], apart := false }
def BoundHullSaid : Prop := boundHullRow.holds Try.pinned (OpenSpec.ofChange boundHullSpec)

/-- ITS FALSE NEIGHBOUR: 'it returns false'. Refute it at one input. -/
def boundHullWrong : ChangeSpec := { name := "boundHull", fn := fun _ => fun
  | [d1, d2] => { results := [.lit (.bool false)], args := [d1, d2] }
  | _ => none }
def BoundHullWrongFalsely : Prop := boundHullRow.holds Try.pinned (OpenSpec.ofChange boundHullWrong)

/-- 'ballonetlaw01.BoundParted': WHATEVER THE INPUT: true; the input reads as it did. -/
def boundPartedSpec : ChangeSpec := { name := "boundParted", fn := fun _ => fun
  | [d1, d2, d3, d4, d5] => { results := [.lit (.bool true)], args := [d1, d2, d3, d4, d5] }
  | _ => none }
def boundPartedRow : OpenClaim := { program := "ytaedloehfgmcnaa", sum := "7c9b844a23190c3150f026065d89ef9c7f1e01d132ba74b98f3a663fd81893ba", func := "ballonet/ballonetlaw01.BoundParted", spec := "boundParted", unfollowed := true, recurses := true, named := ["math/bits.divideError", "math/bits.overflowError"], apart := false }
def BoundPartedSaid : Prop := boundPartedRow.holds Try.pinned (OpenSpec.ofChange boundPartedSpec)

/-- ITS FALSE NEIGHBOUR: 'it returns false'. Refute it at one input. -/
def boundPartedWrong : ChangeSpec := { name := "boundParted", fn := fun _ => fun
  | [d1, d2, d3, d4, d5] => { results := [.lit (.bool false)], args := [d1, d2, d3, d4, d5] }
  | _ => none }
def BoundPartedWrongFalsely : Prop := boundPartedRow.holds Try.pinned (OpenSpec.ofChange boundPartedWrong)

/-- 'ballonetlaw01.BoundAdded': WHATEVER THE INPUT: true; the input reads as it did. -/
def boundAddedSpec : ChangeSpec := { name := "boundAdded", fn := fun _ => fun
  | [d1, d2, d3, d4, d5, d6] => { results := [.lit (.bool true)], args := [d1, d2, d3, d4, d5, d6] }
  | _ => none }
def boundAddedRow : OpenClaim := { program := "ytaedloehfgmcnaa", sum := "7c9b844a23190c3150f026065d89ef9c7f1e01d132ba74b98f3a663fd81893ba", func := "ballonet/ballonetlaw01.BoundAdded", spec := "boundAdded", unfollowed := true, recurses := true, named := ["math/bits.divideError", "math/bits.overflowError"], apart := false }
def BoundAddedSaid : Prop := boundAddedRow.holds Try.pinned (OpenSpec.ofChange boundAddedSpec)

/-- ITS FALSE NEIGHBOUR: 'it returns false'. Refute it at one input. -/
def boundAddedWrong : ChangeSpec := { name := "boundAdded", fn := fun _ => fun
  | [d1, d2, d3, d4, d5, d6] => { results := [.lit (.bool false)], args := [d1, d2, d3, d4, d5, d6] }
  | _ => none }
def BoundAddedWrongFalsely : Prop := boundAddedRow.holds Try.pinned (OpenSpec.ofChange boundAddedWrong)

/-- 'ballonetlaw01.BoundExamples': WHATEVER THE INPUT: true; the input reads as it did. -/
def boundExamplesSpec : ChangeSpec := { name := "boundExamples", fn := fun _ => fun
  | [] => { results := [.lit (.bool true)], args := [] }
  | _ => none }
def boundExamplesRow : OpenClaim := { program := "ytaedloehfgmcnaa", sum := "7c9b844a23190c3150f026065d89ef9c7f1e01d132ba74b98f3a663fd81893ba", func := "ballonet/ballonetlaw01.BoundExamples", spec := "boundExamples", unfollowed := true, recurses := true, named := ["math/bits.divideError", "math/bits.overflowError"], apart := false }
def BoundExamplesSaid : Prop := boundExamplesRow.holds Try.pinned (OpenSpec.ofChange boundExamplesSpec)

/-- ITS FALSE NEIGHBOUR: 'it returns false'. Refute it at one input. -/
def boundExamplesWrong : ChangeSpec := { name := "boundExamples", fn := fun _ => fun
  | [] => { results := [.lit (.bool false)], args := [] }
  | _ => none }
def BoundExamplesWrongFalsely : Prop := boundExamplesRow.holds Try.pinned (OpenSpec.ofChange boundExamplesWrong)

/- THE SECOND FORM. 'bulk': how many values and letters a reading holds, each counted each time it is reached (what is shared counts as often as it is met; a slice's spare places count too). A statement '..UptoSaid' is the law's where the arguments, and the package variables that the reading takes, are together of bulk at most 1048576: NARROWER than '..Said'. Prove '..Said' where nothing that the law and all that it calls make is longer than what came in: it says more and counts as full. Else prove '..UptoSaid'. A law counts once. -/
mutual
def uptoBulk {H : Type} : DataW H → Nat
  | .lit (.string bytes) => bytes.length + 1
  | .lit _ => 1
  | .nil => 1
  | .ptr d => uptoBulk d + 1
  | .slice elems spare => uptoBulkAll elems + uptoBulkAll spare + 1
  | .agg parts => uptoBulkAll parts + 1
  | .iface _ d => uptoBulk d + 1
  | .map entries => uptoBulkEntries entries + 1
  | .held _ => 1
def uptoBulkAll {H : Type} : List (DataW H) → Nat
  | [] => 0
  | d :: r => uptoBulk d + uptoBulkAll r
def uptoBulkEntries {H : Type} : List (Lit × DataW H) → Nat
  | [] => 0
  | x :: r => uptoBulkEntry x + uptoBulkEntries r
def uptoBulkEntry {H : Type} : Lit × DataW H → Nat
  | (.string bytes, d) => bytes.length + uptoBulk d + 1
  | (_, d) => uptoBulk d + 1
 end
def uptoSmall : (H : Type) → List (DataW H) → Bool := fun _ ds => decide (uptoBulkAll ds ≤ 1048576)
def OpenSpec.upto (s : _root_.Go.ChangeSpec) : _root_.Go.OpenSpec := { _root_.Go.OpenSpec.ofChange s with cond := some uptoSmall }

/-- 'ballonetlaw01.BoundTables', WHERE WHAT IT READS IS OF BULK AT MOST 1048576: true; the input reads as it did. -/
def boundTablesUptoRow : OpenClaim := { program := "ytaedloehfgmcnaa", sum := "7c9b844a23190c3150f026065d89ef9c7f1e01d132ba74b98f3a663fd81893ba", func := "ballonet/ballonetlaw01.BoundTables", spec := "boundTables", unfollowed := true, recurses := true, apart := false, narrowed := true }
def BoundTablesUptoSaid : Prop := boundTablesUptoRow.holds Try.pinned (OpenSpec.upto boundTablesSpec)

/-- 'ballonetlaw01.BoundOvers', WHERE WHAT IT READS IS OF BULK AT MOST 1048576: true; the input reads as it did. -/
def boundOversUptoRow : OpenClaim := { program := "ytaedloehfgmcnaa", sum := "7c9b844a23190c3150f026065d89ef9c7f1e01d132ba74b98f3a663fd81893ba", func := "ballonet/ballonetlaw01.BoundOvers", spec := "boundOvers", named := ["math/bits.divideError", "math/bits.overflowError"], apart := false, narrowed := true }
def BoundOversUptoSaid : Prop := boundOversUptoRow.holds Try.pinned (OpenSpec.upto boundOversSpec)

/-- 'ballonetlaw01.BoundSpans', WHERE WHAT IT READS IS OF BULK AT MOST 1048576: true; the input reads as it did. -/
def boundSpansUptoRow : OpenClaim := { program := "ytaedloehfgmcnaa", sum := "7c9b844a23190c3150f026065d89ef9c7f1e01d132ba74b98f3a663fd81893ba", func := "ballonet/ballonetlaw01.BoundSpans", spec := "boundSpans", named := ["math/bits.divideError", "math/bits.overflowError"], apart := false, narrowed := true }
def BoundSpansUptoSaid : Prop := boundSpansUptoRow.holds Try.pinned (OpenSpec.upto boundSpansSpec)

/-- 'ballonetlaw01.BoundRegions', WHERE WHAT IT READS IS OF BULK AT MOST 1048576: true; the input reads as it did. -/
def boundRegionsUptoRow : OpenClaim := { program := "ytaedloehfgmcnaa", sum := "7c9b844a23190c3150f026065d89ef9c7f1e01d132ba74b98f3a663fd81893ba", func := "ballonet/ballonetlaw01.BoundRegions", spec := "boundRegions", unfollowed := true, recurses := true, apart := false, narrowed := true }
def BoundRegionsUptoSaid : Prop := boundRegionsUptoRow.holds Try.pinned (OpenSpec.upto boundRegionsSpec)

/-- 'ballonetlaw01.BoundShares', WHERE WHAT IT READS IS OF BULK AT MOST 1048576: true; the input reads as it did. -/
def boundSharesUptoRow : OpenClaim := { program := "ytaedloehfgmcnaa", sum := "7c9b844a23190c3150f026065d89ef9c7f1e01d132ba74b98f3a663fd81893ba", func := "ballonet/ballonetlaw01.BoundShares", spec := "boundShares", unfollowed := true, recurses := true, named := ["math/bits.divideError", "math/bits.overflowError"], apart := false, narrowed := true }
def BoundSharesUptoSaid : Prop := boundSharesUptoRow.holds Try.pinned (OpenSpec.upto boundSharesSpec)

/-- 'ballonetlaw01.BoundSums', WHERE WHAT IT READS IS OF BULK AT MOST 1048576: true; the input reads as it did. -/
def boundSumsUptoRow : OpenClaim := { program := "ytaedloehfgmcnaa", sum := "7c9b844a23190c3150f026065d89ef9c7f1e01d132ba74b98f3a663fd81893ba", func := "ballonet/ballonetlaw01.BoundSums", spec := "boundSums", unfollowed := true, recurses := true, apart := false, narrowed := true }
def BoundSumsUptoSaid : Prop := boundSumsUptoRow.holds Try.pinned (OpenSpec.upto boundSumsSpec)

/-- 'ballonetlaw01.BoundLinear', WHERE WHAT IT READS IS OF BULK AT MOST 1048576: true; the input reads as it did. -/
def boundLinearUptoRow : OpenClaim := { program := "ytaedloehfgmcnaa", sum := "7c9b844a23190c3150f026065d89ef9c7f1e01d132ba74b98f3a663fd81893ba", func := "ballonet/ballonetlaw01.BoundLinear", spec := "boundLinear", unfollowed := true, recurses := true, named := ["math/bits.divideError", "math/bits.overflowError"], apart := false, narrowed := true }
def BoundLinearUptoSaid : Prop := boundLinearUptoRow.holds Try.pinned (OpenSpec.upto boundLinearSpec)

/-- 'ballonetlaw01.BoundWhere', WHERE WHAT IT READS IS OF BULK AT MOST 1048576: true; the input reads as it did. -/
def boundWhereUptoRow : OpenClaim := { program := "ytaedloehfgmcnaa", sum := "7c9b844a23190c3150f026065d89ef9c7f1e01d132ba74b98f3a663fd81893ba", func := "ballonet/ballonetlaw01.BoundWhere", spec := "boundWhere", unfollowed := true, recurses := true, named := ["math/bits.divideError", "math/bits.overflowError"], apart := false, narrowed := true }
def BoundWhereUptoSaid : Prop := boundWhereUptoRow.holds Try.pinned (OpenSpec.upto boundWhereSpec)

/-- 'ballonetlaw01.BoundNarrow', WHERE WHAT IT READS IS OF BULK AT MOST 1048576: true; the input reads as it did. -/
def boundNarrowUptoRow : OpenClaim := { program := "ytaedloehfgmcnaa", sum := "7c9b844a23190c3150f026065d89ef9c7f1e01d132ba74b98f3a663fd81893ba", func := "ballonet/ballonetlaw01.BoundNarrow", spec := "boundNarrow", unfollowed := true, recurses := true, named := ["math/bits.divideError", "math/bits.overflowError"], apart := false, narrowed := true }
def BoundNarrowUptoSaid : Prop := boundNarrowUptoRow.holds Try.pinned (OpenSpec.upto boundNarrowSpec)

/-- 'ballonetlaw01.BoundTrue', WHERE WHAT IT READS IS OF BULK AT MOST 1048576: true; the input reads as it did. -/
def boundTrueUptoRow : OpenClaim := { program := "ytaedloehfgmcnaa", sum := "7c9b844a23190c3150f026065d89ef9c7f1e01d132ba74b98f3a663fd81893ba", func := "ballonet/ballonetlaw01.BoundTrue", spec := "boundTrue", unfollowed := true, recurses := true, named := ["math/bits.divideError", "math/bits.overflowError"], apart := false, narrowed := true }
def BoundTrueUptoSaid : Prop := boundTrueUptoRow.holds Try.pinned (OpenSpec.upto boundTrueSpec)

/-- 'ballonetlaw01.BoundMeets', WHERE WHAT IT READS IS OF BULK AT MOST 1048576: true; the input reads as it did. -/
def boundMeetsUptoRow : OpenClaim := { program := "ytaedloehfgmcnaa", sum := "7c9b844a23190c3150f026065d89ef9c7f1e01d132ba74b98f3a663fd81893ba", func := "ballonet/ballonetlaw01.BoundMeets", spec := "boundMeets", unfollowed := true, recurses := true, named := ["math/bits.divideError", "math/bits.overflowError"], apart := false, narrowed := true }
def BoundMeetsUptoSaid : Prop := boundMeetsUptoRow.holds Try.pinned (OpenSpec.upto boundMeetsSpec)

/-- 'ballonetlaw01.BoundRoots', WHERE WHAT IT READS IS OF BULK AT MOST 1048576: true; the input reads as it did. -/
def boundRootsUptoRow : OpenClaim := { program := "ytaedloehfgmcnaa", sum := "7c9b844a23190c3150f026065d89ef9c7f1e01d132ba74b98f3a663fd81893ba", func := "ballonet/ballonetlaw01.BoundRoots", spec := "boundRoots", unfollowed := true, recurses := true, named := ["math/bits.divideError", "math/bits.overflowError"], apart := false, narrowed := true }
def BoundRootsUptoSaid : Prop := boundRootsUptoRow.holds Try.pinned (OpenSpec.upto boundRootsSpec)

/-- 'ballonetlaw01.BoundEdges', WHERE WHAT IT READS IS OF BULK AT MOST 1048576: true; the input reads as it did. -/
def boundEdgesUptoRow : OpenClaim := { program := "ytaedloehfgmcnaa", sum := "7c9b844a23190c3150f026065d89ef9c7f1e01d132ba74b98f3a663fd81893ba", func := "ballonet/ballonetlaw01.BoundEdges", spec := "boundEdges", unfollowed := true, recurses := true, named := ["math/bits.divideError", "math/bits.overflowError"], apart := false, narrowed := true }
def BoundEdgesUptoSaid : Prop := boundEdgesUptoRow.holds Try.pinned (OpenSpec.upto boundEdgesSpec)

/-- 'ballonetlaw01.BoundHull', WHERE WHAT IT READS IS OF BULK AT MOST 1048576: true; the input reads as it did. -/
def boundHullUptoRow : OpenClaim := { program := "ytaedloehfgmcnaa", sum := "7c9b844a23190c3150f026065d89ef9c7f1e01d132ba74b98f3a663fd81893ba", func := "ballonet/ballonetlaw01.BoundHull", spec := "boundHull", unfollowed := true, recurses := true, named := ["math/bits.divideError", "math/bits.overflowError"], apart := false, narrowed := true }
def BoundHullUptoSaid : Prop := boundHullUptoRow.holds Try.pinned (OpenSpec.upto boundHullSpec)

/-- 'ballonetlaw01.BoundParted', WHERE WHAT IT READS IS OF BULK AT MOST 1048576: true; the input reads as it did. -/
def boundPartedUptoRow : OpenClaim := { program := "ytaedloehfgmcnaa", sum := "7c9b844a23190c3150f026065d89ef9c7f1e01d132ba74b98f3a663fd81893ba", func := "ballonet/ballonetlaw01.BoundParted", spec := "boundParted", unfollowed := true, recurses := true, named := ["math/bits.divideError", "math/bits.overflowError"], apart := false, narrowed := true }
def BoundPartedUptoSaid : Prop := boundPartedUptoRow.holds Try.pinned (OpenSpec.upto boundPartedSpec)

/-- 'ballonetlaw01.BoundAdded', WHERE WHAT IT READS IS OF BULK AT MOST 1048576: true; the input reads as it did. -/
def boundAddedUptoRow : OpenClaim := { program := "ytaedloehfgmcnaa", sum := "7c9b844a23190c3150f026065d89ef9c7f1e01d132ba74b98f3a663fd81893ba", func := "ballonet/ballonetlaw01.BoundAdded", spec := "boundAdded", unfollowed := true, recurses := true, named := ["math/bits.divideError", "math/bits.overflowError"], apart := false, narrowed := true }
def BoundAddedUptoSaid : Prop := boundAddedUptoRow.holds Try.pinned (OpenSpec.upto boundAddedSpec)

/-- 'ballonetlaw01.BoundExamples', WHERE WHAT IT READS IS OF BULK AT MOST 1048576: true; the input reads as it did. -/
def boundExamplesUptoRow : OpenClaim := { program := "ytaedloehfgmcnaa", sum := "7c9b844a23190c3150f026065d89ef9c7f1e01d132ba74b98f3a663fd81893ba", func := "ballonet/ballonetlaw01.BoundExamples", spec := "boundExamples", unfollowed := true, recurses := true, named := ["math/bits.divideError", "math/bits.overflowError"], apart := false, narrowed := true }
def BoundExamplesUptoSaid : Prop := boundExamplesUptoRow.holds Try.pinned (OpenSpec.upto boundExamplesSpec)

end Rows
end Go.Proofs.Ytaedloehfgmcnaa
