/- Contracts: what each function of the program computes, for the arguments that its theorem names; and from there the given statement. Conditions: those that each theorem states. -/
import Derived.Test.YtaedloehfgmcnaaLB
import Derived.Test.YtaedloehfgmcnaaJ1
import Derived.Test.YtaedloehfgmcnaaHm
import Derived.Test.YtaedloehfgmcnaaSc
namespace Go.Proofs.Ytaedloehfgmcnaa
open Go.Joins Go.ChangeShapes Go.WideShapes Go.ChangeAt Go.RowKit Go.Psl
set_option maxRecDepth 100000 in
theorem boundRoots_lifted (os : Os) (started : os.Started) (H : Type) (enc : TypeId × Value → H) :
    ReturnsInHanded {} Try.checked os 14 .any (Rows.boundRootsSpec.pre6 enc Try.prog Try.f14 Rows.boundRootsRow.domain false) (Rows.boundRootsSpec.post enc Try.prog Try.f14 false true false false) := by
  refine returnsInHanded_of_change (C := Try.checked) Try.own started (by kernel_rfl) Try.func14
    (ChangeSpec.witness6 (enc := enc) (C := Try.checked) false ⟨#[], #[.agg #[.int .i64 0, .int .i64 0]], []⟩ 8 (by kernel_rfl) (by kernel_rfl) (by kernel_rfl) (by kernel_rfl)) ?_
  intro W base args ds gs before hval0 hW hcnd _
  have hval : ∀ (j : Nat) t v, Try.f14.params[j]? = some t → args[j]? = some v → Value.okWide Try.prog W .any base t v := hval0
  have hW' := hW
  obtain ⟨p, q, hA0, hV, rfl, hfz, hnd⟩ := hW
  have hA : DataW.TrodAll enc Try.prog W 0 (fun _ => true) true Try.f14.params.toList args.toList ds p := hA0
  rw [Try.params14] at hA hval
  obtain ⟨v0, d0, rfl, rfl, h0⟩ := trodAll_one hA
  obtain ⟨rfl, rfl⟩ := trodVars_none hV
  obtain ⟨a0, b0, rfl⟩ := span_arg (hval 0 24 v0 rfl rfl) h0
  have hlaw : LawOk Try.prog 14 #[.agg #[.int .i64 a0, .int .i64 b0]] W :=
    LawOk.of_ct (G := ⟨fun _ => 0, fun _ => 0, fun _ => true, fun _ => true, InW W⟩) (Try.fn14 Try.sortOk (a0, b0)) (fun _ h => h)
      ⟨⟨_, rfl, .lit _ rfl, .lit _ rfl, trivial⟩, trivial⟩
  refine hlaw.mono fun e W' ⟨he, hbl⟩ => ?_
  subst he
  exact ⟨_, rfl, law_post Try.laidOut rfl hW' (by kernel_rfl) rfl Try.underlying4 rfl hbl⟩

theorem boundRoots_holds : Rows.BoundRootsSaid :=
  OpenClaim.holds_of_wide 14 Try.f14 rfl rfl rfl rfl rfl rfl rfl ⟨rfl, rfl, rfl, rfl, rfl⟩ rfl rfl rfl rfl rfl (by kernel_rfl) Try.func14 closed14
    (of_decide_eq_true (by kernel_rfl)) (by unfold Func.isWrapper; first | (rw [if_pos (by decide +kernel)]; kernel_rfl) | (rw [if_neg (by decide +kernel)]; exact ⟨rfl, rfl⟩))
    (fun os started H enc _ => boundRoots_lifted os started H enc)
end Go.Proofs.Ytaedloehfgmcnaa
