/- The given statement holds: from the contracts of the functions that it reaches. Conditions: none. -/
import Derived.Test.YtaedloehfgmcnaaSg
import Derived.Test.YtaedloehfgmcnaaJSa
import Derived.Test.YtaedloehfgmcnaaSk
namespace Go.Proofs.Ytaedloehfgmcnaa
open Go.Joins Go.ChangeShapes Go.WideShapes Go.ChangeAt Go.RowKit Go.Psl
set_option maxRecDepth 100000 in
theorem boundSums_lifted (os : Os) (started : os.Started) (H : Type) (enc : TypeId × Value → H) :
    ReturnsInHanded {} Try.checked os 8 .any (Rows.boundSumsSpec.pre6 enc Try.prog Try.f8 Rows.boundSumsRow.domain false) (Rows.boundSumsSpec.post enc Try.prog Try.f8 false true false false) := by
  refine returnsInHanded_of_change (C := Try.checked) Try.own started (by kernel_rfl) Try.func8
    (ChangeSpec.witness6 (enc := enc) (C := Try.checked) false ⟨#[], #[.slice none 0 0, .slice none 0 0, .int .i64 0, .int .i64 0], []⟩ 8 (by kernel_rfl) (by kernel_rfl) (by kernel_rfl) (by kernel_rfl)) ?_
  intro W base args ds gs before hval0 hW hcnd _
  have hval : ∀ (j : Nat) t v, Try.f8.params[j]? = some t → args[j]? = some v → Value.okWide Try.prog W .any base t v := hval0
  have hW' := hW
  obtain ⟨p, q, hA0, hV, rfl, hfz, hnd⟩ := hW
  have hA : DataW.TrodAll enc Try.prog W 0 (fun _ => true) true Try.f8.params.toList args.toList ds p := hA0
  rw [Try.params8] at hA hval
  obtain ⟨v0, v1, v2, v3, d0, d1, d2, d3, p0, p1, p2, p3, rfl, rfl, rfl, h0, h1, h2, h3⟩ := trodAll_four hA
  obtain ⟨rfl, rfl⟩ := trodVars_none hV
  obtain ⟨t0, ht0⟩ := corners_arg (hval 0 54 v0 rfl rfl) h0
  obtain ⟨t1, ht1⟩ := corners_arg (hval 1 54 v1 rfl rfl) h1
  obtain ⟨a2, rfl⟩ := int_arg (hval 2 3 v2 rfl rfl) h2
  obtain ⟨a3, rfl⟩ := int_arg (hval 3 3 v3 rfl rfl) h3
  have hlaw : LawOk Try.prog 8 #[v0, v1, .int .i64 a2, .int .i64 a3] W :=
    LawOk.of_ct (G := ⟨fun _ => 0, fun _ => 0, fun _ => true, fun _ => true, InW W⟩) (Try.fn8 Try.sortOk t0 t1 a2 a3) (fun _ h => h)
      ⟨ht0, ht1, .lit _ rfl, .lit _ rfl, trivial⟩
  refine hlaw.mono fun e W' ⟨he, hbl⟩ => ?_
  subst he
  exact ⟨_, rfl, law_post Try.laidOut rfl hW' (by kernel_rfl) rfl Try.underlying4 rfl hbl⟩
theorem boundSums_holds : Rows.BoundSumsSaid :=
  OpenClaim.holds_of_wide 8 Try.f8 rfl rfl rfl rfl rfl rfl rfl ⟨rfl, rfl, rfl, rfl, rfl⟩ rfl rfl rfl rfl rfl (by kernel_rfl) Try.func8 closed8
    (of_decide_eq_true (by kernel_rfl)) (by unfold Func.isWrapper; first | (rw [if_pos (by decide +kernel)]; kernel_rfl) | (rw [if_neg (by decide +kernel)]; exact ⟨rfl, rfl⟩))
    (fun os started H enc _ => boundSums_lifted os started H enc)
end Go.Proofs.Ytaedloehfgmcnaa
