/- The given statement holds: from the contracts of the functions that it reaches. Conditions: none. -/
import Derived.Test.YtigekgfbcfbobaaGreatDkah
import Derived.Test.YtigekgfbcfbobaaGreatDkai
import Derived.Test.YtigekgfbcfbobaaGreatDkal
import Derived.Test.YtigekgfbcfbobaaGreatDkam
import Derived.Test.YtigekgfbcfbobaaGreatJDkFlightExamples
set_option maxRecDepth 200000
set_option maxHeartbeats 8000000
namespace Go.Proofs.YtigekgfbcfbobaaGreat
open Go.Joins Go.ChangeShapes Go.WideShapes Go.ChangeAt Go.RowKit Go.Psl
theorem L6 (os:Os) (started:os.Started) (H:Type) (enc:TypeId × Value->H):
   ReturnsInHanded {} Tryz.checked os 17 .any (Rows.flightExamplesSpec.pre6 enc Tryz.prog Tryz.f17 Rows.flightExamplesRow.domain false) (Rows.flightExamplesSpec.post enc Tryz.prog Tryz.f17 false true false false):=by
 refine returnsInHanded_of_change (C:=Tryz.checked) Tryz.own started (by kernel_rfl) Tryz.func17
   (ChangeSpec.witness6 (enc:=enc) (C:=Tryz.checked) false ⟨#[],#[],[]⟩ 8 (by kernel_rfl) (by kernel_rfl) (by kernel_rfl) (by kernel_rfl)) ?_
 intro W base args ds gs before hval0 hW hcnd _;have hval:∀ (j:Nat) t v,Tryz.f17.params[j]?= some t->args[j]?= some v->Value.okWide Tryz.prog W .any base t v:=hval0;have hW':=hW;obtain ⟨p,q,hA0,hV,rfl,hfz,hnd⟩:=hW;have hA:DataW.TrodAll enc Tryz.prog W 0 (fun _=>true) true Tryz.f17.params.toList args.toList ds p:=hA0;rw [Tryz.params17] at hA hval;obtain ⟨rfl,rfl,rfl⟩:=trodAll_none hA;obtain ⟨rfl,rfl⟩:=trodVars_none hV
 have hlaw:Te Tryz.prog 17 #[] W:=
   Te.of_ct (G:=GW W) (Tryz.fn17 Tryz.kX) (fun _ h=>h) trivial
 refine hlaw.mono fun e W' ⟨he,hbl⟩=>?_
 subst he;exact ⟨_,rfl,ak Tryz.laidOut rfl hW' (by kernel_rfl) rfl Tryz.underlying4 rfl hbl⟩
theorem flightExamples_holds:Rows.FlightExamplesSaid:=
 OpenClaim.holds_of_wide 17 Tryz.f17 rfl rfl rfl rfl rfl rfl rfl ⟨rfl,rfl,rfl,rfl,rfl⟩ rfl rfl rfl rfl rfl (by kernel_rfl) Tryz.func17 AIf
   (of_decide_eq_true (by kernel_rfl)) (by unfold Func.isWrapper;first | (rw [if_pos (by decide+kernel)];kernel_rfl) | (rw [if_neg (by decide+kernel)];exact ⟨rfl,rfl⟩))
   (fun os started H enc _=>L6 os started H enc)
end Go.Proofs.YtigekgfbcfbobaaGreat
