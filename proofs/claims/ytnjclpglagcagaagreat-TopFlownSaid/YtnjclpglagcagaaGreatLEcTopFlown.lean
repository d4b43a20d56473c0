/- The given statement holds: from the contracts of the functions that it reaches. Conditions: none. -/
import Derived.Test.YtnjclpglagcagaaGreatEcaj
import Derived.Test.YtnjclpglagcagaaGreatEcam
import Derived.Test.YtnjclpglagcagaaGreatJEcTopFlown
set_option maxRecDepth 200000
set_option maxHeartbeats 8000000
namespace Go.Proofs.YtnjclpglagcagaaGreat
open Go.Joins Go.ChangeShapes Go.WideShapes Go.ChangeAt Go.RowKit Go.Psl
theorem vt (os:Os) (started:os.Started) (H:Type) (enc:TypeId × Value->H):
   ReturnsInHanded {} Tryz.checked os 5 .any (Rows.topFlownSpec.pre6 enc Tryz.prog Tryz.f5 Rows.topFlownRow.domain false) (Rows.topFlownSpec.post enc Tryz.prog Tryz.f5 false true false false):=by
 refine returnsInHanded_of_change (C:=Tryz.checked) Tryz.own started (by kernel_rfl) Tryz.func5
   (ChangeSpec.witness6 (enc:=enc) (C:=Tryz.checked) false ⟨#[],#[.slice none 0 0, .int .i64 0, .int .i64 0, .int .i64 0],[]⟩ 8 (by kernel_rfl) (by kernel_rfl) (by kernel_rfl) (by kernel_rfl)) ?_
 intro W base args ds gs before hval0 hW hcnd _;have hval:∀ (j:Nat) t v,Tryz.f5.params[j]?= some t->args[j]?= some v->Value.okWide Tryz.prog W .any base t v:=hval0;have hW':=hW;obtain ⟨p,q,hA0,hV,rfl,hfz,hnd⟩:=hW;have hA:DataW.TrodAll enc Tryz.prog W 0 (fun _=>true) true Tryz.f5.params.toList args.toList ds p:=hA0;rw [Tryz.params5] at hA hval;obtain ⟨v0,v1,v2,v3,d0,d1,d2,d3,p0,p1,p2,p3,rfl,rfl,rfl,h0,h1,h2,h3⟩:=trodAll_four hA;obtain ⟨rfl,rfl⟩:=trodVars_none hV;obtain ⟨a0,r0⟩:=AUg (hval 0 44 v0 rfl rfl) h0;obtain ⟨a1,r1⟩:=AMu (hval 1 3 v1 rfl rfl) h1;obtain ⟨a2,r2⟩:=AMu (hval 2 3 v2 rfl rfl) h2;obtain ⟨a3,r3⟩:=AMu (hval 3 3 v3 rfl rfl) h3
 have hlaw:Te Tryz.prog 5 #[v0,v1,v2,v3] W:=
   Te.of_ct (G:=GW W) (Tryz.fn5 Tryz.kX a0 a1 a2 a3) ⟨fun _ h=>h,W,fun g hg=>by simp [AQk] at hg,fun _ hk=>⟨hk,rfl⟩⟩ ⟨r0,r1,r2,r3,trivial⟩
 refine hlaw.mono fun e W' ⟨he,hbl⟩=>?_
 subst he;exact ⟨_,rfl,ak Tryz.laidOut rfl hW' (by kernel_rfl) rfl Tryz.underlying4 rfl hbl⟩
theorem topFlown_holds:Rows.TopFlownSaid:=
 OpenClaim.holds_of_wide 5 Tryz.f5 rfl rfl rfl rfl rfl rfl rfl ⟨rfl,rfl,rfl,rfl,rfl⟩ rfl rfl rfl rfl rfl (by kernel_rfl) Tryz.func5 xq
   (of_decide_eq_true (by kernel_rfl)) (by unfold Func.isWrapper;first | (rw [if_pos (by decide+kernel)];kernel_rfl) | (rw [if_neg (by decide+kernel)];exact ⟨rfl,rfl⟩))
   (fun os started H enc _=>vt os started H enc)
end Go.Proofs.YtnjclpglagcagaaGreat
