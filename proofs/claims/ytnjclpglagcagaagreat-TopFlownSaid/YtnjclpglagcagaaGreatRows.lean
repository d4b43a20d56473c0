/-
  No cell of these rows narrows 'for every input' (looked for: loops, veiled, ifaces, maps, wideKeys, modest, calm, conditions, laid).
  DERIVED. THE GIVEN ROWS OF THIS SEAT. 3 by the template 'for every input the law returns true; each argument reads behind the call as it read before'; 0 by the template 'total and deterministic' (their statements: YtnjclpglagcagaaGreatTotals.lean).
  GIVEN WITH THE SEED: the statements are not yours to turn. If you find one false, say at which input.
  Laid BY PROGRAM, IN A SANDBOX (cutbox-rows.mjs): the forced cells as the released guide's own fill.sh prints them over the translation 83a6f5ea24ba4223… (all of the seat's roots in one cut). By AI agents, Wed Nov 11 2026. No macro, syntax, notation, axiom, sorry.
-/
import Derived.Test.YtnjclpglagcagaaGreatChecked
import GoSem.Claim
import GoSem.ClaimJoined
import GoSem.ClaimMapViews
import Derived.JoinedTies
import Derived.KernelRfl
namespace Go.Proofs.YtnjclpglagcagaaGreat
/- THE CELL 'sum', in the pinned program and in every row, IS THE sha256 OF THE DUMP (.gsa) THAT YtnjclpglagcagaaGreatProg.lean LOADS. Nothing in Lean hashes anything: it is a label: what it is worth is what the hold of that sum in a sandbox is worth. -/
noncomputable def Tryz.pinned : Pinned := { name := "ytnjclpglagcagaagreat", sum := "83a6f5ea24ba422394f5240427451810dcfe6c2f9f26aaabcf0d9885eb166651", checked := Tryz.checked }
namespace Rows
def none {H : Type} : Left H := { results := [], args := [] }

/-- 'ballonettop.TopLater': WHATEVER THE INPUT: true; the input reads as it did. -/
def topLaterSpec : ChangeSpec := { name := "topLater", fn := fun _ => fun
  | [d1, d2, d3, d4, d5, d6, d7, d8, d9] => { results := [.lit (.bool true)], args := [d1, d2, d3, d4, d5, d6, d7, d8, d9] }
  | _ => none }
def topLaterRow : OpenClaim := { program := "ytnjclpglagcagaagreat", sum := "83a6f5ea24ba422394f5240427451810dcfe6c2f9f26aaabcf0d9885eb166651", func := "ballonet/ballonettop.TopLater", spec := "topLater", unfollowed := true, recurses := true, named := ["math/bits.divideError", "math/bits.overflowError"], plainKeys := false, apart := false }
def TopLaterSaid : Prop := topLaterRow.holds Tryz.pinned (OpenSpec.ofChange topLaterSpec)

/-- ITS FALSE NEIGHBOUR: 'it returns false'. Refute it at one input. -/
def topLaterWrong : ChangeSpec := { name := "topLater", fn := fun _ => fun
  | [d1, d2, d3, d4, d5, d6, d7, d8, d9] => { results := [.lit (.bool false)], args := [d1, d2, d3, d4, d5, d6, d7, d8, d9] }
  | _ => none }
def TopLaterWrongFalsely : Prop := topLaterRow.holds Tryz.pinned (OpenSpec.ofChange topLaterWrong)

/-- 'ballonettop.TopClimbs': WHATEVER THE INPUT: true; the input reads as it did. -/
def topClimbsSpec : ChangeSpec := { name := "topClimbs", fn := fun _ => fun
  | [d1, d2, d3, d4] => { results := [.lit (.bool true)], args := [d1, d2, d3, d4] }
  | _ => none }
def topClimbsRow : OpenClaim := { program := "ytnjclpglagcagaagreat", sum := "83a6f5ea24ba422394f5240427451810dcfe6c2f9f26aaabcf0d9885eb166651", func := "ballonet/ballonettop.TopClimbs", spec := "topClimbs", unfollowed := true, recurses := true, named := ["math/bits.divideError", "math/bits.overflowError"], plainKeys := false, apart := false }
def TopClimbsSaid : Prop := topClimbsRow.holds Tryz.pinned (OpenSpec.ofChange topClimbsSpec)

/-- ITS FALSE NEIGHBOUR: 'it returns false'. Refute it at one input. -/
def topClimbsWrong : ChangeSpec := { name := "topClimbs", fn := fun _ => fun
  | [d1, d2, d3, d4] => { results := [.lit (.bool false)], args := [d1, d2, d3, d4] }
  | _ => none }
def TopClimbsWrongFalsely : Prop := topClimbsRow.holds Tryz.pinned (OpenSpec.ofChange topClimbsWrong)

/-- 'ballonettop.TopFlown': WHATEVER THE INPUT: true; the input reads as it did. -/
def topFlownSpec : ChangeSpec := { name := "topFlown", fn := fun _ => fun
  | [d1, d2, d3, d4] => { results := [.lit (.bool true)], args := [d1, d2, d3, d4] }
  | _ => none }
def topFlownRow : OpenClaim := { program := "ytnjclpglagcagaagreat", sum := "83a6f5ea24ba422394f5240427451810dcfe6c2f9f26aaabcf0d9885eb166651", func := "ballonet/ballonettop.TopFlown", spec := "topFlown", unfollowed := true, recurses := true, named := ["math/bits.divideError", "math/bits.overflowError"], plainKeys := false, apart := false }
def TopFlownSaid : Prop := topFlownRow.holds Tryz.pinned (OpenSpec.ofChange topFlownSpec)

/-- ITS FALSE NEIGHBOUR: 'it returns false'. Refute it at one input. -/
def topFlownWrong : ChangeSpec := { name := "topFlown", fn := fun _ => fun
  | [d1, d2, d3, d4] => { results := [.lit (.bool false)], args := [d1, d2, d3, d4] }
  | _ => none }
def TopFlownWrongFalsely : Prop := topFlownRow.holds Tryz.pinned (OpenSpec.ofChange topFlownWrong)

/- THE SECOND FORM. 'bulk': how many values and letters a reading holds, each counted each time it is reached (what is shared counts as often as it is met; a slice's spare places count too). A statement '..UptoSaid' is the law's where the arguments, and the package variables that the reading takes, are together of bulk at most 1048576: NARROWER than '..Said'. Prove '..Said' where nothing that the law and all that it calls make is longer than what came in: it says more and counts as full. Else prove '..UptoSaid'. A law counts once. -/
mutual
def uptoBulk {H : Type} : DataW H → Nat
  | .lit (.string bytes) => bytes.length + 1
  | .lit _ => 1
  | .nil => 1
  | .ptr d => uptoBulk d + 1
  | .slice elems spare => uptoBulkAll elems + uptoBulkAll spare + 1
  | .agg parts => uptoBulkAll parts + 1
  | .iface _ d => uptoBulk d + 1
  | .map entries => uptoBulkEntries entries + 1
  | .held _ => 1
def uptoBulkAll {H : Type} : List (DataW H) → Nat
  | [] => 0
  | d :: r => uptoBulk d + uptoBulkAll r
def uptoBulkEntries {H : Type} : List (Lit × DataW H) → Nat
  | [] => 0
  | x :: r => uptoBulkEntry x + uptoBulkEntries r
def uptoBulkEntry {H : Type} : Lit × DataW H → Nat
  | (.string bytes, d) => bytes.length + uptoBulk d + 1
  | (_, d) => uptoBulk d + 1
 end
def uptoSmall : (H : Type) → List (DataW H) → Bool := fun _ ds => decide (uptoBulkAll ds ≤ 1048576)
def OpenSpec.upto (s : _root_.Go.ChangeSpec) : _root_.Go.OpenSpec := { _root_.Go.OpenSpec.ofChange s with cond := some uptoSmall }

/-- 'ballonettop.TopLater', WHERE WHAT IT READS IS OF BULK AT MOST 1048576: true; the input reads as it did. -/
def topLaterUptoRow : OpenClaim := { program := "ytnjclpglagcagaagreat", sum := "83a6f5ea24ba422394f5240427451810dcfe6c2f9f26aaabcf0d9885eb166651", func := "ballonet/ballonettop.TopLater", spec := "topLater", unfollowed := true, recurses := true, named := ["math/bits.divideError", "math/bits.overflowError"], plainKeys := false, apart := false, narrowed := true }
def TopLaterUptoSaid : Prop := topLaterUptoRow.holds Tryz.pinned (OpenSpec.upto topLaterSpec)

/-- 'ballonettop.TopClimbs', WHERE WHAT IT READS IS OF BULK AT MOST 1048576: true; the input reads as it did. -/
def topClimbsUptoRow : OpenClaim := { program := "ytnjclpglagcagaagreat", sum := "83a6f5ea24ba422394f5240427451810dcfe6c2f9f26aaabcf0d9885eb166651", func := "ballonet/ballonettop.TopClimbs", spec := "topClimbs", unfollowed := true, recurses := true, named := ["math/bits.divideError", "math/bits.overflowError"], plainKeys := false, apart := false, narrowed := true }
def TopClimbsUptoSaid : Prop := topClimbsUptoRow.holds Tryz.pinned (OpenSpec.upto topClimbsSpec)

/-- 'ballonettop.TopFlown', WHERE WHAT IT READS IS OF BULK AT MOST 1048576: true; the input reads as it did. -/
def topFlownUptoRow : OpenClaim := { program := "ytnjclpglagcagaagreat", sum := "83a6f5ea24ba422394f5240427451810dcfe6c2f9f26aaabcf0d9885eb166651", func := "ballonet/ballonettop.TopFlown", spec := "topFlown", unfollowed := true, recurses := true, named := ["math/bits.divideError", "math/bits.overflowError"], plainKeys := false, apart := false, narrowed := true }
def TopFlownUptoSaid : Prop := topFlownUptoRow.holds Tryz.pinned (OpenSpec.upto topFlownSpec)

end Rows
end Go.Proofs.YtnjclpglagcagaaGreat
