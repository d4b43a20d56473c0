/- The given statement holds: from the contracts of the functions that it reaches. Conditions: none. -/
import Derived.Test.YtaedloehfgmcnaaSg
import Derived.Test.YtaedloehfgmcnaaJSa
import Derived.Test.YtaedloehfgmcnaaSl
namespace Go.Proofs.Ytaedloehfgmcnaa
open Go.Joins Go.ChangeShapes Go.WideShapes Go.ChangeAt Go.RowKit Go.Psl
set_option maxRecDepth 100000 in
theorem boundAdded_lifted (os : Os) (started : os.Started) (H : Type) (enc : TypeId × Value → H) :
    ReturnsInHanded {} Try.checked os 18 .any (Rows.boundAddedSpec.pre6 enc Try.prog Try.f18 Rows.boundAddedRow.domain false) (Rows.boundAddedSpec.post enc Try.prog Try.f18 false true false false) := by
  refine returnsInHanded_of_change (C := Try.checked) Try.own started (by kernel_rfl) Try.func18
    (ChangeSpec.witness6 (enc := enc) (C := Try.checked) false ⟨#[], #[.slice none 0 0, .slice none 0 0, .agg #[.int .i64 0, .int .i64 0], .agg #[.int .i64 0, .int .i64 0], .int .i64 0, .int .i64 0], []⟩ 8 (by kernel_rfl) (by kernel_rfl) (by kernel_rfl) (by kernel_rfl)) ?_
  intro W base args ds gs before hval0 hW hcnd _
  have hval : ∀ (j : Nat) t v, Try.f18.params[j]? = some t → args[j]? = some v → Value.okWide Try.prog W .any base t v := hval0
  have hW' := hW
  obtain ⟨p, q, hA0, hV, rfl, hfz, hnd⟩ := hW
  have hA : DataW.TrodAll enc Try.prog W 0 (fun _ => true) true Try.f18.params.toList args.toList ds p := hA0
  rw [Try.params18] at hA hval
  obtain ⟨v0, v1, v2, v3, v4, v5, d0, d1, d2, d3, d4, d5, p0, p1, p2, p3, p4, p5, rfl, rfl, rfl, h0, h1, h2, h3, h4, h5⟩ := trodAll_six hA
  obtain ⟨rfl, rfl⟩ := trodVars_none hV
  obtain ⟨t0, ht0⟩ := corners_arg (hval 0 54 v0 rfl rfl) h0
  obtain ⟨t1, ht1⟩ := corners_arg (hval 1 54 v1 rfl rfl) h1
  obtain ⟨a2, b2, rfl⟩ := corner_arg (hval 2 56 v2 rfl rfl) h2
  obtain ⟨a3, b3, rfl⟩ := corner_arg (hval 3 56 v3 rfl rfl) h3
  obtain ⟨a4, rfl⟩ := int_arg (hval 4 3 v4 rfl rfl) h4
  obtain ⟨a5, rfl⟩ := int_arg (hval 5 3 v5 rfl rfl) h5
  have hlaw : LawOk Try.prog 18 #[v0, v1, .agg #[.int .i64 a2, .int .i64 b2], .agg #[.int .i64 a3, .int .i64 b3], .int .i64 a4, .int .i64 a5] W :=
    LawOk.of_ct (G := ⟨fun _ => 0, fun _ => 0, fun _ => true, fun _ => true, InW W⟩) (Try.fn18 Try.sortOk t0 t1 (a2, b2) (a3, b3) a4 a5) (fun _ h => h)
      ⟨ht0, ht1, ⟨_, rfl, .lit _ rfl, .lit _ rfl, trivial⟩, ⟨_, rfl, .lit _ rfl, .lit _ rfl, trivial⟩, .lit _ rfl, .lit _ rfl, trivial⟩
  refine hlaw.mono fun e W' ⟨he, hbl⟩ => ?_
  subst he
  exact ⟨_, rfl, law_post Try.laidOut rfl hW' (by kernel_rfl) rfl Try.underlying4 rfl hbl⟩
theorem boundAdded_holds : Rows.BoundAddedSaid :=
  OpenClaim.holds_of_wide 18 Try.f18 rfl rfl rfl rfl rfl rfl rfl ⟨rfl, rfl, rfl, rfl, rfl⟩ rfl rfl rfl rfl rfl (by kernel_rfl) Try.func18 closed18
    (of_decide_eq_true (by kernel_rfl)) (by unfold Func.isWrapper; first | (rw [if_pos (by decide +kernel)]; kernel_rfl) | (rw [if_neg (by decide +kernel)]; exact ⟨rfl, rfl⟩))
    (fun os started H enc _ => boundAdded_lifted os started H enc)
end Go.Proofs.Ytaedloehfgmcnaa
