/-
  No cell of these rows narrows 'for every input' (looked for: loops, veiled, ifaces, maps, wideKeys, modest, calm, conditions, laid).
  DERIVED. THE GIVEN ROWS OF THIS SEAT. 15 by the template 'for every input the law returns true; each argument reads behind the call as it read before'; 0 by the template 'total and deterministic' (their statements: YtigekgfbcfbobaaGreatTotals.lean).
  GIVEN WITH THE SEED: the statements are not yours to turn. If you find one false, say at which input.
  Laid BY PROGRAM, IN A SANDBOX (cutbox-rows.mjs): the forced cells as the released guide's own fill.sh prints them over the translation 740b32864cca7267… (all of the seat's roots in one cut). By AI agents, Wed Nov 11 2026. No macro, syntax, notation, axiom, sorry.
-/
import Derived.Test.YtigekgfbcfbobaaGreatChecked
import GoSem.Claim
import GoSem.ClaimJoined
import GoSem.ClaimMapViews
import Derived.JoinedTies
import Derived.KernelRfl
namespace Go.Proofs.YtigekgfbcfbobaaGreat
/- THE CELL 'sum', in the pinned program and in every row, IS THE sha256 OF THE DUMP (.gsa) THAT YtigekgfbcfbobaaGreatProg.lean LOADS. Nothing in Lean hashes anything: it is a label: what it is worth is what the hold of that sum in a sandbox is worth. -/
noncomputable def Tryz.pinned : Pinned := { name := "ytigekgfbcfbobaagreat", sum := "740b32864cca7267fa533c87af5914dbb45874ca797d1bde79c438d90fdabf16", checked := Tryz.checked }
namespace Rows
def none {H : Type} : Left H := { results := [], args := [] }

/-- 'ballonetlaw05.FlightTells': WHATEVER THE INPUT: true; the input reads as it did. -/
def flightTellsSpec : ChangeSpec := { name := "flightTells", fn := fun _ => fun
  | [d1, d2, d3] => { results := [.lit (.bool true)], args := [d1, d2, d3] }
  | _ => none }
def flightTellsRow : OpenClaim := { program := "ytigekgfbcfbobaagreat", sum := "740b32864cca7267fa533c87af5914dbb45874ca797d1bde79c438d90fdabf16", func := "ballonet/ballonetlaw05.FlightTells", spec := "flightTells", unfollowed := true, recurses := true, apart := false }
def FlightTellsSaid : Prop := flightTellsRow.holds Tryz.pinned (OpenSpec.ofChange flightTellsSpec)

/-- ITS FALSE NEIGHBOUR: 'it returns false'. Refute it at one input. -/
def flightTellsWrong : ChangeSpec := { name := "flightTells", fn := fun _ => fun
  | [d1, d2, d3] => { results := [.lit (.bool false)], args := [d1, d2, d3] }
  | _ => none }
def FlightTellsWrongFalsely : Prop := flightTellsRow.holds Tryz.pinned (OpenSpec.ofChange flightTellsWrong)

/-- 'ballonetlaw05.FlightChecks': WHATEVER THE INPUT: true; the input reads as it did. -/
def flightChecksSpec : ChangeSpec := { name := "flightChecks", fn := fun _ => fun
  | [d1, d2, d3, d4, d5] => { results := [.lit (.bool true)], args := [d1, d2, d3, d4, d5] }
  | _ => none }
def flightChecksRow : OpenClaim := { program := "ytigekgfbcfbobaagreat", sum := "740b32864cca7267fa533c87af5914dbb45874ca797d1bde79c438d90fdabf16", func := "ballonet/ballonetlaw05.FlightChecks", spec := "flightChecks", unfollowed := true, recurses := true, apart := false }
def FlightChecksSaid : Prop := flightChecksRow.holds Tryz.pinned (OpenSpec.ofChange flightChecksSpec)

/-- ITS FALSE NEIGHBOUR: 'it returns false'. Refute it at one input. -/
def flightChecksWrong : ChangeSpec := { name := "flightChecks", fn := fun _ => fun
  | [d1, d2, d3, d4, d5] => { results := [.lit (.bool false)], args := [d1, d2, d3, d4, d5] }
  | _ => none }
def FlightChecksWrongFalsely : Prop := flightChecksRow.holds Tryz.pinned (OpenSpec.ofChange flightChecksWrong)

/-- 'ballonetlaw05.FlightSteps': WHATEVER THE INPUT: true; the input reads as it did. -/
def flightStepsSpec : ChangeSpec := { name := "flightSteps", fn := fun _ => fun
  | [d1, d2, d3, d4] => { results := [.lit (.bool true)], args := [d1, d2, d3, d4] }
  | _ => none }
def flightStepsRow : OpenClaim := { program := "ytigekgfbcfbobaagreat", sum := "740b32864cca7267fa533c87af5914dbb45874ca797d1bde79c438d90fdabf16", func := "ballonet/ballonetlaw05.FlightSteps", spec := "flightSteps", unfollowed := true, recurses := true, named := ["math/bits.divideError", "math/bits.overflowError"], apart := false }
def FlightStepsSaid : Prop := flightStepsRow.holds Tryz.pinned (OpenSpec.ofChange flightStepsSpec)

/-- ITS FALSE NEIGHBOUR: 'it returns false'. Refute it at one input. -/
def flightStepsWrong : ChangeSpec := { name := "flightSteps", fn := fun _ => fun
  | [d1, d2, d3, d4] => { results := [.lit (.bool false)], args := [d1, d2, d3, d4] }
  | _ => none }
def FlightStepsWrongFalsely : Prop := flightStepsRow.holds Tryz.pinned (OpenSpec.ofChange flightStepsWrong)

/-- 'ballonetlaw05.FlightFlies': WHATEVER THE INPUT: true; the input reads as it did. -/
def flightFliesSpec : ChangeSpec := { name := "flightFlies", fn := fun _ => fun
  | [d1, d2, d3, d4] => { results := [.lit (.bool true)], args := [d1, d2, d3, d4] }
  | _ => none }
def flightFliesRow : OpenClaim := { program := "ytigekgfbcfbobaagreat", sum := "740b32864cca7267fa533c87af5914dbb45874ca797d1bde79c438d90fdabf16", func := "ballonet/ballonetlaw05.FlightFlies", spec := "flightFlies", unfollowed := true, recurses := true, named := ["math/bits.divideError", "math/bits.overflowError"], apart := false }
def FlightFliesSaid : Prop := flightFliesRow.holds Tryz.pinned (OpenSpec.ofChange flightFliesSpec)

/-- ITS FALSE NEIGHBOUR: 'it returns false'. Refute it at one input. -/
def flightFliesWrong : ChangeSpec := { name := "flightFlies", fn := fun _ => fun
  | [d1, d2, d3, d4] => { results := [.lit (.bool false)], args := [d1, d2, d3, d4] }
  | _ => none }
def FlightFliesWrongFalsely : Prop := flightFliesRow.holds Tryz.pinned (OpenSpec.ofChange flightFliesWrong)

/-- 'ballonetlaw05.FlightTrue': WHATEVER THE INPUT: true; the input reads as it did. -/
def flightTrueSpec : ChangeSpec := { name := "flightTrue", fn := fun _ => fun
  | [d1, d2, d3, d4, d5] => { results := [.lit (.bool true)], args := [d1, d2, d3, d4, d5] }
  | _ => none }
def flightTrueRow : OpenClaim := { program := "ytigekgfbcfbobaagreat", sum := "740b32864cca7267fa533c87af5914dbb45874ca797d1bde79c438d90fdabf16", func := "ballonet/ballonetlaw05.FlightTrue", spec := "flightTrue", unfollowed := true, recurses := true, named := ["math/bits.divideError", "math/bits.overflowError"], apart := false }
def FlightTrueSaid : Prop := flightTrueRow.holds Tryz.pinned (OpenSpec.ofChange flightTrueSpec)

/-- ITS FALSE NEIGHBOUR: 'it returns false'. Refute it at one input. -/
def flightTrueWrong : ChangeSpec := { name := "flightTrue", fn := fun _ => fun
  | [d1, d2, d3, d4, d5] => { results := [.lit (.bool false)], args := [d1, d2, d3, d4, d5] }
  | _ => none }
def FlightTrueWrongFalsely : Prop := flightTrueRow.holds Tryz.pinned (OpenSpec.ofChange flightTrueWrong)

/-- 'ballonetlaw05.FlightConserves': WHATEVER THE INPUT: true; the input reads as it did. -/
def flightConservesSpec : ChangeSpec := { name := "flightConserves", fn := fun _ => fun
  | [d1, d2, d3, d4] => { results := [.lit (.bool true)], args := [d1, d2, d3, d4] }
  | _ => none }
def flightConservesRow : OpenClaim := { program := "ytigekgfbcfbobaagreat", sum := "740b32864cca7267fa533c87af5914dbb45874ca797d1bde79c438d90fdabf16", func := "ballonet/ballonetlaw05.FlightConserves", spec := "flightConserves", unfollowed := true, recurses := true, named := ["math/bits.divideError", "math/bits.overflowError"], apart := false }
def FlightConservesSaid : Prop := flightConservesRow.holds Tryz.pinned (OpenSpec.ofChange flightConservesSpec)

/-- ITS FALSE NEIGHBOUR: 'it returns false'. Refute it at one input. -/
def flightConservesWrong : ChangeSpec := { name := "flightConserves", fn := fun _ => fun
  | [d1, d2, d3, d4] => { results := [.lit (.bool false)], args := [d1, d2, d3, d4] }
  | _ => none }
def FlightConservesWrongFalsely : Prop := flightConservesRow.holds Tryz.pinned (OpenSpec.ofChange flightConservesWrong)

/-- 'ballonetlaw05.FlightSplit': WHATEVER THE INPUT: true; the input reads as it did. -/
def flightSplitSpec : ChangeSpec := { name := "flightSplit", fn := fun _ => fun
  | [d1, d2, d3, d4, d5, d6] => { results := [.lit (.bool true)], args := [d1, d2, d3, d4, d5, d6] }
  | _ => none }
def flightSplitRow : OpenClaim := { program := "ytigekgfbcfbobaagreat", sum := "740b32864cca7267fa533c87af5914dbb45874ca797d1bde79c438d90fdabf16", func := "ballonet/ballonetlaw05.FlightSplit", spec := "flightSplit", unfollowed := true, recurses := true, named := ["math/bits.divideError", "math/bits.overflowError"], apart := false }
def FlightSplitSaid : Prop := flightSplitRow.holds Tryz.pinned (OpenSpec.ofChange flightSplitSpec)

/-- ITS FALSE NEIGHBOUR: 'it returns false'. Refute it at one input. -/
def flightSplitWrong : ChangeSpec := { name := "flightSplit", fn := fun _ => fun
  | [d1, d2, d3, d4, d5, d6] => { results := [.lit (.bool false)], args := [d1, d2, d3, d4, d5, d6] }
  | _ => none }
def FlightSplitWrongFalsely : Prop := flightSplitRow.holds Tryz.pinned (OpenSpec.ofChange flightSplitWrong)

/-- 'ballonetlaw05.FlightKept': WHATEVER THE INPUT: true; the input reads as it did. -/
def flightKeptSpec : ChangeSpec := { name := "flightKept", fn := fun _ => fun
  | [d1, d2, d3, d4] => { results := [.lit (.bool true)], args := [d1, d2, d3, d4] }
  | _ => none }
def flightKeptRow : OpenClaim := { program := "ytigekgfbcfbobaagreat", sum := "740b32864cca7267fa533c87af5914dbb45874ca797d1bde79c438d90fdabf16", func := "ballonet/ballonetlaw05.FlightKept", spec := "flightKept", unfollowed := true, recurses := true, named := ["math/bits.divideError", "math/bits.overflowError"], apart := false }
def FlightKeptSaid : Prop := flightKeptRow.holds Tryz.pinned (OpenSpec.ofChange flightKeptSpec)

/-- ITS FALSE NEIGHBOUR: 'it returns false'. Refute it at one input. -/
def flightKeptWrong : ChangeSpec := { name := "flightKept", fn := fun _ => fun
  | [d1, d2, d3, d4] => { results := [.lit (.bool false)], args := [d1, d2, d3, d4] }
  | _ => none }
def FlightKeptWrongFalsely : Prop := flightKeptRow.holds Tryz.pinned (OpenSpec.ofChange flightKeptWrong)

/-- 'ballonetlaw05.FlightBegins': WHATEVER THE INPUT: true; the input reads as it did. -/
def flightBeginsSpec : ChangeSpec := { name := "flightBegins", fn := fun _ => fun
  | [d1, d2, d3, d4] => { results := [.lit (.bool true)], args := [d1, d2, d3, d4] }
  | _ => none }
def flightBeginsRow : OpenClaim := { program := "ytigekgfbcfbobaagreat", sum := "740b32864cca7267fa533c87af5914dbb45874ca797d1bde79c438d90fdabf16", func := "ballonet/ballonetlaw05.FlightBegins", spec := "flightBegins", unfollowed := true, recurses := true, named := ["math/bits.divideError", "math/bits.overflowError"], apart := false }
def FlightBeginsSaid : Prop := flightBeginsRow.holds Tryz.pinned (OpenSpec.ofChange flightBeginsSpec)

/-- ITS FALSE NEIGHBOUR: 'it returns false'. Refute it at one input. -/
def flightBeginsWrong : ChangeSpec := { name := "flightBegins", fn := fun _ => fun
  | [d1, d2, d3, d4] => { results := [.lit (.bool false)], args := [d1, d2, d3, d4] }
  | _ => none }
def FlightBeginsWrongFalsely : Prop := flightBeginsRow.holds Tryz.pinned (OpenSpec.ofChange flightBeginsWrong)

/-- 'ballonetlaw05.FlightTops': WHATEVER THE INPUT: true; the input reads as it did. -/
def flightTopsSpec : ChangeSpec := { name := "flightTops", fn := fun _ => fun
  | [d1, d2, d3] => { results := [.lit (.bool true)], args := [d1, d2, d3] }
  | _ => none }
def flightTopsRow : OpenClaim := { program := "ytigekgfbcfbobaagreat", sum := "740b32864cca7267fa533c87af5914dbb45874ca797d1bde79c438d90fdabf16", func := "ballonet/ballonetlaw05.FlightTops", spec := "flightTops", unfollowed := true, recurses := true, named := ["math/bits.divideError", "math/bits.overflowError"], apart := false }
def FlightTopsSaid : Prop := flightTopsRow.holds Tryz.pinned (OpenSpec.ofChange flightTopsSpec)

/-- ITS FALSE NEIGHBOUR: 'it returns false'. Refute it at one input. -/
def flightTopsWrong : ChangeSpec := { name := "flightTops", fn := fun _ => fun
  | [d1, d2, d3] => { results := [.lit (.bool false)], args := [d1, d2, d3] }
  | _ => none }
def FlightTopsWrongFalsely : Prop := flightTopsRow.holds Tryz.pinned (OpenSpec.ofChange flightTopsWrong)

/-- 'ballonetlaw05.FlightAccepts': WHATEVER THE INPUT: true; the input reads as it did. -/
def flightAcceptsSpec : ChangeSpec := { name := "flightAccepts", fn := fun _ => fun
  | [d1, d2, d3, d4, d5] => { results := [.lit (.bool true)], args := [d1, d2, d3, d4, d5] }
  | _ => none }
def flightAcceptsRow : OpenClaim := { program := "ytigekgfbcfbobaagreat", sum := "740b32864cca7267fa533c87af5914dbb45874ca797d1bde79c438d90fdabf16", func := "ballonet/ballonetlaw05.FlightAccepts", spec := "flightAccepts", unfollowed := true, recurses := true, named := ["math/bits.divideError", "math/bits.overflowError"], apart := false }
def FlightAcceptsSaid : Prop := flightAcceptsRow.holds Tryz.pinned (OpenSpec.ofChange flightAcceptsSpec)

/-- ITS FALSE NEIGHBOUR: 'it returns false'. Refute it at one input. -/
def flightAcceptsWrong : ChangeSpec := { name := "flightAccepts", fn := fun _ => fun
  | [d1, d2, d3, d4, d5] => { results := [.lit (.bool false)], args := [d1, d2, d3, d4, d5] }
  | _ => none }
def FlightAcceptsWrongFalsely : Prop := flightAcceptsRow.holds Tryz.pinned (OpenSpec.ofChange flightAcceptsWrong)

/-- 'ballonetlaw05.FlightVents': WHATEVER THE INPUT: true; the input reads as it did. -/
def flightVentsSpec : ChangeSpec := { name := "flightVents", fn := fun _ => fun
  | [d1, d2, d3] => { results := [.lit (.bool true)], args := [d1, d2, d3] }
  | _ => none }
def flightVentsRow : OpenClaim := { program := "ytigekgfbcfbobaagreat", sum := "740b32864cca7267fa533c87af5914dbb45874ca797d1bde79c438d90fdabf16", func := "ballonet/ballonetlaw05.FlightVents", spec := "flightVents", unfollowed := true, recurses := true, named := ["math/bits.divideError", "math/bits.overflowError"], apart := false }
def FlightVentsSaid : Prop := flightVentsRow.holds Tryz.pinned (OpenSpec.ofChange flightVentsSpec)

/-- ITS FALSE NEIGHBOUR: 'it returns false'. Refute it at one input. -/
def flightVentsWrong : ChangeSpec := { name := "flightVents", fn := fun _ => fun
  | [d1, d2, d3] => { results := [.lit (.bool false)], args := [d1, d2, d3] }
  | _ => none }
def FlightVentsWrongFalsely : Prop := flightVentsRow.holds Tryz.pinned (OpenSpec.ofChange flightVentsWrong)

/-- 'ballonetlaw05.FlightNarrow': WHATEVER THE INPUT: true; the input reads as it did. -/
def flightNarrowSpec : ChangeSpec := { name := "flightNarrow", fn := fun _ => fun
  | [d1, d2, d3, d4, d5] => { results := [.lit (.bool true)], args := [d1, d2, d3, d4, d5] }
  | _ => none }
def flightNarrowRow : OpenClaim := { program := "ytigekgfbcfbobaagreat", sum := "740b32864cca7267fa533c87af5914dbb45874ca797d1bde79c438d90fdabf16", func := "ballonet/ballonetlaw05.FlightNarrow", spec := "flightNarrow", unfollowed := true, recurses := true, named := ["math/bits.divideError", "math/bits.overflowError"], apart := false }
def FlightNarrowSaid : Prop := flightNarrowRow.holds Tryz.pinned (OpenSpec.ofChange flightNarrowSpec)

/-- ITS FALSE NEIGHBOUR: 'it returns false'. Refute it at one input. -/
def flightNarrowWrong : ChangeSpec := { name := "flightNarrow", fn := fun _ => fun
  | [d1, d2, d3, d4, d5] => { results := [.lit (.bool false)], args := [d1, d2, d3, d4, d5] }
  | _ => none }
def FlightNarrowWrongFalsely : Prop := flightNarrowRow.holds Tryz.pinned (OpenSpec.ofChange flightNarrowWrong)

/-- 'ballonetlaw05.FlightCert': WHATEVER THE INPUT: true; the input reads as it did. -/
def flightCertSpec : ChangeSpec := { name := "flightCert", fn := fun _ => fun
  | [d1, d2, d3, d4, d5] => { results := [.lit (.bool true)], args := [d1, d2, d3, d4, d5] }
  | _ => none }
def flightCertRow : OpenClaim := { program := "ytigekgfbcfbobaagreat", sum := "740b32864cca7267fa533c87af5914dbb45874ca797d1bde79c438d90fdabf16", func := "ballonet/ballonetlaw05.FlightCert", spec := "flightCert", unfollowed := true, recurses := true, named := ["math/bits.divideError", "math/bits.overflowError"], apart := false }
def FlightCertSaid : Prop := flightCertRow.holds Tryz.pinned (OpenSpec.ofChange flightCertSpec)

/-- ITS FALSE NEIGHBOUR: 'it returns false'. Refute it at one input. -/
def flightCertWrong : ChangeSpec := { name := "flightCert", fn := fun _ => fun
  | [d1, d2, d3, d4, d5] => { results := [.lit (.bool false)], args := [d1, d2, d3, d4, d5] }
  | _ => none }
def FlightCertWrongFalsely : Prop := flightCertRow.holds Tryz.pinned (OpenSpec.ofChange flightCertWrong)

/-- 'ballonetlaw05.FlightExamples': WHATEVER THE INPUT: true; the input reads as it did. -/
def flightExamplesSpec : ChangeSpec := { name := "flightExamples", fn := fun _ => fun
  | [] => { results := [.lit (.bool true)], args := [] }
  | _ => none }
def flightExamplesRow : OpenClaim := { program := "ytigekgfbcfbobaagreat", sum := "740b32864cca7267fa533c87af5914dbb45874ca797d1bde79c438d90fdabf16", func := "ballonet/ballonetlaw05.FlightExamples", spec := "flightExamples", unfollowed := true, recurses := true, named := ["math/bits.divideError", "math/bits.overflowError"], apart := false }
def FlightExamplesSaid : Prop := flightExamplesRow.holds Tryz.pinned (OpenSpec.ofChange flightExamplesSpec)

/-- ITS FALSE NEIGHBOUR: 'it returns false'. Refute it at one input. -/
def flightExamplesWrong : ChangeSpec := { name := "flightExamples", fn := fun _ => fun
  | [] => { results := [.lit (.bool false)], args := [] }
  | _ => none }
def FlightExamplesWrongFalsely : Prop := flightExamplesRow.holds Tryz.pinned (OpenSpec.ofChange flightExamplesWrong)

/- THE SECOND FORM. 'bulk': how many values and letters a reading holds, each counted each time it is reached (what is shared counts as often as it is met; a slice's spare places count too). A statement '..UptoSaid' is the law's where the arguments, and the package variables that the reading takes, are together of bulk at most 1048576: NARROWER than '..Said'. Prove '..Said' where nothing that the law and all that it calls make is longer than what came in: it says more and counts as full. Else prove '..UptoSaid'. A law counts once. -/
mutual
def uptoBulk {H : Type} : DataW H → Nat
  | .lit (.string bytes) => bytes.length + 1
  | .lit _ => 1
  | .nil => 1
  | .ptr d => uptoBulk d + 1
  | .slice elems spare => uptoBulkAll elems + uptoBulkAll spare + 1
  | .agg parts => uptoBulkAll parts + 1
  | .iface _ d => uptoBulk d + 1
  | .map entries => uptoBulkEntries entries + 1
  | .held _ => 1
def uptoBulkAll {H : Type} : List (DataW H) → Nat
  | [] => 0
  | d :: r => uptoBulk d + uptoBulkAll r
def uptoBulkEntries {H : Type} : List (Lit × DataW H) → Nat
  | [] => 0
  | x :: r => uptoBulkEntry x + uptoBulkEntries r
def uptoBulkEntry {H : Type} : Lit × DataW H → Nat
  | (.string bytes, d) => bytes.length + uptoBulk d + 1
  | (_, d) => uptoBulk d + 1
 end
def uptoSmall : (H : Type) → List (DataW H) → Bool := fun _ ds => decide (uptoBulkAll ds ≤ 1048576)
def OpenSpec.upto (s : _root_.Go.ChangeSpec) : _root_.Go.OpenSpec := { _root_.Go.OpenSpec.ofChange s with cond := some uptoSmall }

/-- 'ballonetlaw05.FlightTells', WHERE WHAT IT READS IS OF BULK AT MOST 1048576: true; the input reads as it did. -/
def flightTellsUptoRow : OpenClaim := { program := "ytigekgfbcfbobaagreat", sum := "740b32864cca7267fa533c87af5914dbb45874ca797d1bde79c438d90fdabf16", func := "ballonet/ballonetlaw05.FlightTells", spec := "flightTells", unfollowed := true, recurses := true, apart := false, narrowed := true }
def FlightTellsUptoSaid : Prop := flightTellsUptoRow.holds Tryz.pinned (OpenSpec.upto flightTellsSpec)

/-- 'ballonetlaw05.FlightChecks', WHERE WHAT IT READS IS OF BULK AT MOST 1048576: true; the input reads as it did. -/
def flightChecksUptoRow : OpenClaim := { program := "ytigekgfbcfbobaagreat", sum := "740b32864cca7267fa533c87af5914dbb45874ca797d1bde79c438d90fdabf16", func := "ballonet/ballonetlaw05.FlightChecks", spec := "flightChecks", unfollowed := true, recurses := true, apart := false, narrowed := true }
def FlightChecksUptoSaid : Prop := flightChecksUptoRow.holds Tryz.pinned (OpenSpec.upto flightChecksSpec)

/-- 'ballonetlaw05.FlightSteps', WHERE WHAT IT READS IS OF BULK AT MOST 1048576: true; the input reads as it did. -/
def flightStepsUptoRow : OpenClaim := { program := "ytigekgfbcfbobaagreat", sum := "740b32864cca7267fa533c87af5914dbb45874ca797d1bde79c438d90fdabf16", func := "ballonet/ballonetlaw05.FlightSteps", spec := "flightSteps", unfollowed := true, recurses := true, named := ["math/bits.divideError", "math/bits.overflowError"], apart := false, narrowed := true }
def FlightStepsUptoSaid : Prop := flightStepsUptoRow.holds Tryz.pinned (OpenSpec.upto flightStepsSpec)

/-- 'ballonetlaw05.FlightFlies', WHERE WHAT IT READS IS OF BULK AT MOST 1048576: true; the input reads as it did. -/
def flightFliesUptoRow : OpenClaim := { program := "ytigekgfbcfbobaagreat", sum := "740b32864cca7267fa533c87af5914dbb45874ca797d1bde79c438d90fdabf16", func := "ballonet/ballonetlaw05.FlightFlies", spec := "flightFlies", unfollowed := true, recurses := true, named := ["math/bits.divideError", "math/bits.overflowError"], apart := false, narrowed := true }
def FlightFliesUptoSaid : Prop := flightFliesUptoRow.holds Tryz.pinned (OpenSpec.upto flightFliesSpec)

/-- 'ballonetlaw05.FlightTrue', WHERE WHAT IT READS IS OF BULK AT MOST 1048576: true; the input reads as it did. -/
def flightTrueUptoRow : OpenClaim := { program := "ytigekgfbcfbobaagreat", sum := "740b32864cca7267fa533c87af5914dbb45874ca797d1bde79c438d90fdabf16", func := "ballonet/ballonetlaw05.FlightTrue", spec := "flightTrue", unfollowed := true, recurses := true, named := ["math/bits.divideError", "math/bits.overflowError"], apart := false, narrowed := true }
def FlightTrueUptoSaid : Prop := flightTrueUptoRow.holds Tryz.pinned (OpenSpec.upto flightTrueSpec)

/-- 'ballonetlaw05.FlightConserves', WHERE WHAT IT READS IS OF BULK AT MOST 1048576: true; the input reads as it did. -/
def flightConservesUptoRow : OpenClaim := { program := "ytigekgfbcfbobaagreat", sum := "740b32864cca7267fa533c87af5914dbb45874ca797d1bde79c438d90fdabf16", func := "ballonet/ballonetlaw05.FlightConserves", spec := "flightConserves", unfollowed := true, recurses := true, named := ["math/bits.divideError", "math/bits.overflowError"], apart := false, narrowed := true }
def FlightConservesUptoSaid : Prop := flightConservesUptoRow.holds Tryz.pinned (OpenSpec.upto flightConservesSpec)

/-- 'ballonetlaw05.FlightSplit', WHERE WHAT IT READS IS OF BULK AT MOST 1048576: true; the input reads as it did. -/
def flightSplitUptoRow : OpenClaim := { program := "ytigekgfbcfbobaagreat", sum := "740b32864cca7267fa533c87af5914dbb45874ca797d1bde79c438d90fdabf16", func := "ballonet/ballonetlaw05.FlightSplit", spec := "flightSplit", unfollowed := true, recurses := true, named := ["math/bits.divideError", "math/bits.overflowError"], apart := false, narrowed := true }
def FlightSplitUptoSaid : Prop := flightSplitUptoRow.holds Tryz.pinned (OpenSpec.upto flightSplitSpec)

/-- 'ballonetlaw05.FlightKept', WHERE WHAT IT READS IS OF BULK AT MOST 1048576: true; the input reads as it did. -/
def flightKeptUptoRow : OpenClaim := { program := "ytigekgfbcfbobaagreat", sum := "740b32864cca7267fa533c87af5914dbb45874ca797d1bde79c438d90fdabf16", func := "ballonet/ballonetlaw05.FlightKept", spec := "flightKept", unfollowed := true, recurses := true, named := ["math/bits.divideError", "math/bits.overflowError"], apart := false, narrowed := true }
def FlightKeptUptoSaid : Prop := flightKeptUptoRow.holds Tryz.pinned (OpenSpec.upto flightKeptSpec)

/-- 'ballonetlaw05.FlightBegins', WHERE WHAT IT READS IS OF BULK AT MOST 1048576: true; the input reads as it did. -/
def flightBeginsUptoRow : OpenClaim := { program := "ytigekgfbcfbobaagreat", sum := "740b32864cca7267fa533c87af5914dbb45874ca797d1bde79c438d90fdabf16", func := "ballonet/ballonetlaw05.FlightBegins", spec := "flightBegins", unfollowed := true, recurses := true, named := ["math/bits.divideError", "math/bits.overflowError"], apart := false, narrowed := true }
def FlightBeginsUptoSaid : Prop := flightBeginsUptoRow.holds Tryz.pinned (OpenSpec.upto flightBeginsSpec)

/-- 'ballonetlaw05.FlightTops', WHERE WHAT IT READS IS OF BULK AT MOST 1048576: true; the input reads as it did. -/
def flightTopsUptoRow : OpenClaim := { program := "ytigekgfbcfbobaagreat", sum := "740b32864cca7267fa533c87af5914dbb45874ca797d1bde79c438d90fdabf16", func := "ballonet/ballonetlaw05.FlightTops", spec := "flightTops", unfollowed := true, recurses := true, named := ["math/bits.divideError", "math/bits.overflowError"], apart := false, narrowed := true }
def FlightTopsUptoSaid : Prop := flightTopsUptoRow.holds Tryz.pinned (OpenSpec.upto flightTopsSpec)

/-- 'ballonetlaw05.FlightAccepts', WHERE WHAT IT READS IS OF BULK AT MOST 1048576: true; the input reads as it did. -/
def flightAcceptsUptoRow : OpenClaim := { program := "ytigekgfbcfbobaagreat", sum := "740b32864cca7267fa533c87af5914dbb45874ca797d1bde79c438d90fdabf16", func := "ballonet/ballonetlaw05.FlightAccepts", spec := "flightAccepts", unfollowed := true, recurses := true, named := ["math/bits.divideError", "math/bits.overflowError"], apart := false, narrowed := true }
def FlightAcceptsUptoSaid : Prop := flightAcceptsUptoRow.holds Tryz.pinned (OpenSpec.upto flightAcceptsSpec)

/-- 'ballonetlaw05.FlightVents', WHERE WHAT IT READS IS OF BULK AT MOST 1048576: true; the input reads as it did. -/
def flightVentsUptoRow : OpenClaim := { program := "ytigekgfbcfbobaagreat", sum := "740b32864cca7267fa533c87af5914dbb45874ca797d1bde79c438d90fdabf16", func := "ballonet/ballonetlaw05.FlightVents", spec := "flightVents", unfollowed := true, recurses := true, named := ["math/bits.divideError", "math/bits.overflowError"], apart := false, narrowed := true }
def FlightVentsUptoSaid : Prop := flightVentsUptoRow.holds Tryz.pinned (OpenSpec.upto flightVentsSpec)

/-- 'ballonetlaw05.FlightNarrow', WHERE WHAT IT READS IS OF BULK AT MOST 1048576: true; the input reads as it did. -/
def flightNarrowUptoRow : OpenClaim := { program := "ytigekgfbcfbobaagreat", sum := "740b32864cca7267fa533c87af5914dbb45874ca797d1bde79c438d90fdabf16", func := "ballonet/ballonetlaw05.FlightNarrow", spec := "flightNarrow", unfollowed := true, recurses := true, named := ["math/bits.divideError", "math/bits.overflowError"], apart := false, narrowed := true }
def FlightNarrowUptoSaid : Prop := flightNarrowUptoRow.holds Tryz.pinned (OpenSpec.upto flightNarrowSpec)

/-- 'ballonetlaw05.FlightCert', WHERE WHAT IT READS IS OF BULK AT MOST 1048576: true; the input reads as it did. -/
def flightCertUptoRow : OpenClaim := { program := "ytigekgfbcfbobaagreat", sum := "740b32864cca7267fa533c87af5914dbb45874ca797d1bde79c438d90fdabf16", func := "ballonet/ballonetlaw05.FlightCert", spec := "flightCert", unfollowed := true, recurses := true, named := ["math/bits.divideError", "math/bits.overflowError"], apart := false, narrowed := true }
def FlightCertUptoSaid : Prop := flightCertUptoRow.holds Tryz.pinned (OpenSpec.upto flightCertSpec)

/-- 'ballonetlaw05.FlightExamples', WHERE WHAT IT READS IS OF BULK AT MOST 1048576: true; the input reads as it did. -/
def flightExamplesUptoRow : OpenClaim := { program := "ytigekgfbcfbobaagreat", sum := "740b32864cca7267fa533c87af5914dbb45874ca797d1bde79c438d90fdabf16", func := "ballonet/ballonetlaw05.FlightExamples", spec := "flightExamples", unfollowed := true, recurses := true, named := ["math/bits.divideError", "math/bits.overflowError"], apart := false, narrowed := true }
def FlightExamplesUptoSaid : Prop := flightExamplesUptoRow.holds Tryz.pinned (OpenSpec.upto flightExamplesSpec)

end Rows
end Go.Proofs.YtigekgfbcfbobaaGreat
