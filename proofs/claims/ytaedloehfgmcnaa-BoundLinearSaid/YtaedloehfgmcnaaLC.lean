/- Contracts: what each function of the program computes, for the arguments that its theorem names; and from there the given statement. Conditions: those that each theorem states. -/
import Derived.Test.YtaedloehfgmcnaaLB
import Derived.Test.YtaedloehfgmcnaaIa
namespace Go.Proofs.Ytaedloehfgmcnaa
open Go.Joins Go.ChangeShapes Go.WideShapes Go.ChangeAt Go.RowKit Go.Psl
set_option maxRecDepth 100000 in
theorem sh_byte {n : Nat} {ds : List D} (h : Sh' Try.prog (n + 1) 5 ds) : ∃ i : Int, ds = [.lit (.int .u8 i)] := by
  simp only [Sh', Try.underlying5] at h
  obtain ⟨i, h, _⟩ := h
  exact ⟨i, h⟩
set_option maxRecDepth 100000 in
theorem cells5 : Try.prog.cellsOf 5 = 1 := by kernel_rfl
set_option maxRecDepth 100000 in
theorem sh_bytes {n : Nat} {ds : List D} (h : Sh' Try.prog (n + 2) 84 ds) : ∃ t : List Int, ds = [Try.bytesD t] := by
  rw [Sh', Try.underlying84] at h
  obtain ⟨es, rfl, _, h⟩ := h
  obtain ⟨t, rfl⟩ := all_map fun x hx => sh_byte (h x hx)
  exact ⟨t, by rw [cells5]⟩
set_option maxRecDepth 100000 in
theorem bytes_arg {H : Type} {enc : TypeId × Value → H} {W : World} {base : Nat} {v : Value} {d : DataW H} {p : List MemPlace} (hval : Value.okWide Try.prog W .any base 84 v) (h : DataW.Trod enc Try.prog W 0 (fun _ => true) true 84 v d p) :
    ∃ t : List Int, RD (InW W) W (Try.bytesD t) v := by
  obtain ⟨m, hm⟩ := h
  obtain ⟨ds, h1, h2⟩ := read_plain 4 84 (by kernel_rfl) m _ _ hm
  obtain ⟨t, rfl⟩ := sh_bytes h1
  obtain ⟨a, len, cap, rfl⟩ := okWide_slice Try.underlying84 hval
  exact ⟨t, h2.1⟩
end Go.Proofs.Ytaedloehfgmcnaa
