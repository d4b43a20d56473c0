/- Contracts: what each function of the program computes, for the arguments that its theorem names; and from there the given statement. Conditions: those that each theorem states. -/
import Derived.Test.YtaedloehfgmcnaaLB
import Derived.Test.YtaedloehfgmcnaaJ4
import Derived.Test.YtaedloehfgmcnaaSh
import Derived.Test.YtaedloehfgmcnaaSc
import Derived.Test.YtaedloehfgmcnaaFn
namespace Go.Proofs.Ytaedloehfgmcnaa
open Go.Joins Go.ChangeShapes Go.WideShapes Go.ChangeAt Go.RowKit Go.Psl
set_option maxRecDepth 100000 in
theorem boundShares_lifted (os : Os) (started : os.Started) (H : Type) (enc : TypeId × Value → H) :
    ReturnsInHanded {} Try.checked os 7 .any (Rows.boundSharesSpec.pre6 enc Try.prog Try.f7 Rows.boundSharesRow.domain false) (Rows.boundSharesSpec.post enc Try.prog Try.f7 false true false false) := by
  refine returnsInHanded_of_change (C := Try.checked) Try.own started (by kernel_rfl) Try.func7
    (ChangeSpec.witness6 (enc := enc) (C := Try.checked) false ⟨#[], #[.agg #[.int .i64 0, .int .i64 0], .agg #[.int .i64 0, .int .i64 0], .agg #[.int .i64 0, .int .i64 0], .int .i64 0, .int .i64 0, .int .i64 0], []⟩ 8 (by kernel_rfl) (by kernel_rfl) (by kernel_rfl) (by kernel_rfl)) ?_
  intro W base args ds gs before hval0 hW hcnd _
  have hval : ∀ (j : Nat) t v, Try.f7.params[j]? = some t → args[j]? = some v → Value.okWide Try.prog W .any base t v := hval0
  have hW' := hW
  obtain ⟨p, q, hA0, hV, rfl, hfz, hnd⟩ := hW
  have hA : DataW.TrodAll enc Try.prog W 0 (fun _ => true) true Try.f7.params.toList args.toList ds p := hA0
  rw [Try.params7] at hA hval
  obtain ⟨v0, v1, v2, v3, v4, v5, d0, d1, d2, d3, d4, d5, p0, p1, p2, p3, p4, p5, rfl, rfl, rfl, h0, h1, h2, h3, h4, h5⟩ := trodAll_six hA
  obtain ⟨rfl, rfl⟩ := trodVars_none hV
  obtain ⟨a0, b0, rfl⟩ := span_arg (hval 0 24 v0 rfl rfl) h0
  obtain ⟨a1, b1, rfl⟩ := span_arg (hval 1 24 v1 rfl rfl) h1
  obtain ⟨a2, b2, rfl⟩ := span_arg (hval 2 24 v2 rfl rfl) h2
  obtain ⟨a3, rfl⟩ := int_arg (hval 3 3 v3 rfl rfl) h3
  obtain ⟨a4, rfl⟩ := int_arg (hval 4 3 v4 rfl rfl) h4
  obtain ⟨a5, rfl⟩ := int_arg (hval 5 3 v5 rfl rfl) h5
  have hlaw : LawOk Try.prog 7 #[.agg #[.int .i64 a0, .int .i64 b0], .agg #[.int .i64 a1, .int .i64 b1], .agg #[.int .i64 a2, .int .i64 b2], .int .i64 a3, .int .i64 a4, .int .i64 a5] W :=
    LawOk.of_ct (G := ⟨fun _ => 0, fun _ => 0, fun _ => true, fun _ => true, InW W⟩) (Try.fn7 Try.sortOk (a0, b0) (a1, b1) (a2, b2) a3 a4 a5) (fun _ h => h)
      ⟨⟨_, rfl, .lit _ rfl, .lit _ rfl, trivial⟩, ⟨_, rfl, .lit _ rfl, .lit _ rfl, trivial⟩, ⟨_, rfl, .lit _ rfl, .lit _ rfl, trivial⟩, .lit _ rfl, .lit _ rfl, .lit _ rfl, trivial⟩
  refine hlaw.mono fun e W' ⟨he, hbl⟩ => ?_
  subst he
  exact ⟨_, rfl, law_post Try.laidOut rfl hW' (by kernel_rfl) rfl Try.underlying4 rfl hbl⟩

theorem boundShares_holds : Rows.BoundSharesSaid :=
  OpenClaim.holds_of_wide 7 Try.f7 rfl rfl rfl rfl rfl rfl rfl ⟨rfl, rfl, rfl, rfl, rfl⟩ rfl rfl rfl rfl rfl (by kernel_rfl) Try.func7 closed7
    (of_decide_eq_true (by kernel_rfl)) (by unfold Func.isWrapper; first | (rw [if_pos (by decide +kernel)]; kernel_rfl) | (rw [if_neg (by decide +kernel)]; exact ⟨rfl, rfl⟩))
    (fun os started H enc _ => boundShares_lifted os started H enc)
end Go.Proofs.Ytaedloehfgmcnaa
