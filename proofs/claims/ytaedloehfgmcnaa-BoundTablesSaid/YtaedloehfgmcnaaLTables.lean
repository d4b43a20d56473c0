/- Contracts: what each function of the program computes, for the arguments that its theorem names; and from there the given statement. Conditions: those that each theorem states. -/
import Derived.Test.YtaedloehfgmcnaaLA
import Derived.Test.YtaedloehfgmcnaaWb
import Derived.Test.YtaedloehfgmcnaaJ3
namespace Go.Proofs.Ytaedloehfgmcnaa
open Go.Joins Go.ChangeShapes Go.WideShapes Go.ChangeAt Go.RowKit Go.Psl
set_option maxRecDepth 100000 in
theorem boundTables_lifted (os : Os) (started : os.Started) (H : Type) (enc : TypeId × Value → H) :
    ReturnsInHanded {} Try.checked os 3 .any (Rows.boundTablesSpec.pre6 enc Try.prog Try.f3 Rows.boundTablesRow.domain false) (Rows.boundTablesSpec.post enc Try.prog Try.f3 false true false false) := by
  refine returnsInHanded_of_change (C := Try.checked) Try.own started (by kernel_rfl) Try.func3
    (ChangeSpec.witness6 (enc := enc) (C := Try.checked) false ⟨#[], #[.slice none 0 0, .agg #[.int .i64 0, .int .i64 0], .agg #[.int .i64 0, .int .i64 0]], []⟩ 8 (by kernel_rfl) (by kernel_rfl) (by kernel_rfl) (by kernel_rfl)) ?_
  intro W base args ds gs before hval0 hW hcnd _
  have hval : ∀ (j : Nat) t v, Try.f3.params[j]? = some t → args[j]? = some v → Value.okWide Try.prog W .any base t v := hval0
  have hW' := hW
  obtain ⟨p, q, hA0, hV, rfl, hfz, hnd⟩ := hW
  have hA : DataW.TrodAll enc Try.prog W 0 (fun _ => true) true Try.f3.params.toList args.toList ds p := hA0
  rw [Try.params3] at hA hval
  obtain ⟨v0, v1, v2, d0, d1, d2, p0, p1, p2, rfl, rfl, rfl, h0, h1, h2⟩ := trodAll_three hA
  obtain ⟨rfl, rfl⟩ := trodVars_none hV
  obtain ⟨t, ht⟩ := knots_arg (hval 0 22 v0 rfl rfl) h0
  obtain ⟨b, b', rfl⟩ := span_arg (hval 1 24 v1 rfl rfl) h1
  obtain ⟨c, c', rfl⟩ := span_arg (hval 2 24 v2 rfl rfl) h2
  have hlaw : LawOk Try.prog 3 #[v0, .agg #[.int .i64 b, .int .i64 b'], .agg #[.int .i64 c, .int .i64 c']] W :=
    LawOk.of_ct (G := ⟨fun _ => 0, fun _ => 0, fun _ => true, fun _ => true, InW W⟩) (Try.fn3 t (b, b') (c, c')) (fun _ h => h)
      ⟨ht, ⟨_, rfl, .lit _ rfl, .lit _ rfl, trivial⟩, ⟨_, rfl, .lit _ rfl, .lit _ rfl, trivial⟩, trivial⟩
  refine hlaw.mono fun e W' ⟨he, hbl⟩ => ?_
  subst he
  exact ⟨_, rfl, law_post Try.laidOut rfl hW' (by kernel_rfl) rfl Try.underlying4 rfl hbl⟩

theorem boundTables_holds : Rows.BoundTablesSaid :=
  OpenClaim.holds_of_wide 3 Try.f3 rfl rfl rfl rfl rfl rfl rfl ⟨rfl, rfl, rfl, rfl, rfl⟩ rfl rfl rfl rfl rfl (by kernel_rfl) Try.func3 closed3
    (of_decide_eq_true (by kernel_rfl)) (by unfold Func.isWrapper; first | (rw [if_pos (by decide +kernel)]; kernel_rfl) | (rw [if_neg (by decide +kernel)]; exact ⟨rfl, rfl⟩))
    (fun os started H enc _ => boundTables_lifted os started H enc)
end Go.Proofs.Ytaedloehfgmcnaa
