/- Contracts: what each function of the program computes, for the arguments that its theorem names; and from there the given statement. Conditions: those that each theorem states. -/
import Derived.Test.YtaedloehfgmcnaaPd
import Derived.Test.YtaedloehfgmcnaaCa
import Derived.Test.YtaedloehfgmcnaaRows
namespace Go.Proofs.Ytaedloehfgmcnaa
open Go.Joins Go.ChangeShapes Go.WideShapes Go.ChangeAt Go.RowKit Go.Psl

theorem Try.own : ownKnob Try.prog.godebug = none := by kernel_rfl
theorem Try.laidOut : laidOutB Try.prog = true := by kernel_rfl

set_option maxRecDepth 100000 in
/-- an argument that is a span -/
theorem span_arg {H : Type} {enc : TypeId × Value → H} {W : World} {base : Nat} {v : Value} {d : DataW H} {p : List MemPlace} (hval : Value.okWide Try.prog W .any base 24 v) (h : DataW.Trod enc Try.prog W 0 (fun _ => true) true 24 v d p) :
    ∃ a b : Int, v = .agg #[.int .i64 a, .int .i64 b] := by
  obtain ⟨v0, v1, y0, y1, n, rfl, _, _, h0, h1⟩ := open_agg2 Try.underlying24 (by kernel_rfl) (by kernel_rfl) hval h
  obtain ⟨a, ea, _, wa⟩ := DataW.trod_int Try.underlying3 h0
  obtain ⟨b, eb, _, wb⟩ := DataW.trod_int Try.underlying3 h1
  cases ea
  cases eb
  exact ⟨a, b, rfl⟩

end Go.Proofs.Ytaedloehfgmcnaa
