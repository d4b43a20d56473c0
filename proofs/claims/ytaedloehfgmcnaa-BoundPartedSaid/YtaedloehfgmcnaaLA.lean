/- Contracts: what each function of the program computes, for the arguments that its theorem names; and from there the given statement. Conditions: those that each theorem states. -/
import Derived.Test.YtaedloehfgmcnaaL0
import Derived.Test.YtaedloehfgmcnaaPd
import Derived.Test.YtaedloehfgmcnaaWa
namespace Go.Proofs.Ytaedloehfgmcnaa
open Go.Joins Go.ChangeShapes Go.WideShapes Go.ChangeAt Go.RowKit Go.Psl
theorem all_map {α β : Type} {f : α → β} : ∀ {es : List β}, (∀ x ∈ es, ∃ k, x = f k) → ∃ t : List α, es = t.map f
  | [], _ => ⟨[], rfl⟩
  | e :: es, h => by
    obtain ⟨k, hk⟩ := h e (by simp)
    obtain ⟨t, ht⟩ := all_map (f := f) (es := es) fun x hx => h x (by simp [hx])
    exact ⟨k :: t, by rw [ht, hk]; rfl⟩
set_option maxRecDepth 100000 in
theorem sh_int {n : Nat} {ds : List D} (h : Sh' Try.prog (n + 1) 3 ds) : ∃ i : Int, ds = [.lit (.int .i64 i)] := by
  simp only [Sh', Try.underlying3] at h
  obtain ⟨i, h, _⟩ := h
  exact ⟨i, h⟩
set_option maxRecDepth 100000 in
theorem sh_span {n : Nat} {ds : List D} (h : Sh' Try.prog (n + 2) 24 ds) : ∃ a b : Int, ds = [.lit (.int .i64 a), .lit (.int .i64 b)] := by
  rw [Sh', Try.underlying24] at h
  obtain ⟨a, r, rfl, h1, b, r2, rfl, h2, rfl⟩ := h
  obtain ⟨i, rfl⟩ := sh_int h1
  obtain ⟨j, rfl⟩ := sh_int h2
  exact ⟨i, j, rfl⟩
set_option maxRecDepth 100000 in
theorem sh_knot {n : Nat} {ds : List D} (h : Sh' Try.prog (n + 3) 87 ds) : ∃ k : Int × Int × Int, ds = [.lit (.int .i64 k.1), .lit (.int .i64 k.2.1), .lit (.int .i64 k.2.2)] := by
  rw [Sh', Try.underlying87] at h
  obtain ⟨a, r, rfl, h1, b, r2, rfl, h2, rfl⟩ := h
  obtain ⟨i, rfl⟩ := sh_int h1
  obtain ⟨j, k, rfl⟩ := sh_span h2
  exact ⟨(i, j, k), rfl⟩
set_option maxRecDepth 100000 in
theorem cells87 : Try.prog.cellsOf 87 = 3 := by kernel_rfl
set_option maxRecDepth 100000 in
theorem sh_knots {n : Nat} {ds : List D} (h : Sh' Try.prog (n + 4) 22 ds) : ∃ t : List (Int × Int × Int), ds = [Try.knotsD t] := by
  rw [Sh', Try.underlying22] at h
  obtain ⟨es, rfl, _, h⟩ := h
  obtain ⟨t, rfl⟩ := all_map fun x hx => sh_knot (h x hx)
  exact ⟨t, by rw [cells87]⟩
set_option maxRecDepth 100000 in
theorem knots_arg {H : Type} {enc : TypeId × Value → H} {W : World} {base : Nat} {v : Value} {d : DataW H} {p : List MemPlace} (hval : Value.okWide Try.prog W .any base 22 v) (h : DataW.Trod enc Try.prog W 0 (fun _ => true) true 22 v d p) :
    ∃ t : List (Int × Int × Int), RD (InW W) W (Try.knotsD t) v := by
  obtain ⟨m, hm⟩ := h
  obtain ⟨ds, h1, h2⟩ := read_plain 4 22 (by kernel_rfl) m _ _ hm
  obtain ⟨t, rfl⟩ := sh_knots h1
  obtain ⟨a, len, cap, rfl⟩ := okWide_slice Try.underlying22 hval
  exact ⟨t, h2.1⟩
end Go.Proofs.Ytaedloehfgmcnaa
