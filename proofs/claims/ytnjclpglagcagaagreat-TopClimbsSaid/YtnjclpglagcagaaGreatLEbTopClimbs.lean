/- The given statement holds: from the contracts of the functions that it reaches. Conditions: none. -/
import Derived.Test.YtnjclpglagcagaaGreatEbaj
import Derived.Test.YtnjclpglagcagaaGreatEban
import Derived.Test.YtnjclpglagcagaaGreatEbao
import Derived.Test.YtnjclpglagcagaaGreatJEbTopClimbs
set_option maxRecDepth 200000
set_option maxHeartbeats 8000000
namespace Go.Proofs.YtnjclpglagcagaaGreat
open Go.Joins Go.ChangeShapes Go.WideShapes Go.ChangeAt Go.RowKit Go.Psl
theorem Ul (os:Os) (started:os.Started) (H:Type) (enc:TypeId × Value->H):
   ReturnsInHanded {} Tryz.checked os 4 .any (Rows.topClimbsSpec.pre6 enc Tryz.prog Tryz.f4 Rows.topClimbsRow.domain false) (Rows.topClimbsSpec.post enc Tryz.prog Tryz.f4 false true false false):=by
 refine returnsInHanded_of_change (C:=Tryz.checked) Tryz.own started (by kernel_rfl) Tryz.func4
   (ChangeSpec.witness6 (enc:=enc) (C:=Tryz.checked) false ⟨#[],#[.agg #[.slice none 0 0, .slice none 0 0], .agg #[.int .i64 0, .int .i64 0, .int .i64 0, .int .i64 0, .int .i64 0, .int .i64 0, .int .i64 0, .int .i64 0, .int .i64 0, .int .i64 0, .int .i64 0, .int .i64 0, .int .i64 0, .int .i64 0, .int .i64 0, .slice none 0 0, .int .i64 0, .int .i64 0, .int .i64 0, .int .i64 0, .int .i64 0, .int .i64 0, .int .i64 0, .int .i64 0, .int .i64 0], .int .i64 0, .int .u8 0],[]⟩ 8 (by kernel_rfl) (by kernel_rfl) (by kernel_rfl) (by kernel_rfl)) ?_
 intro W base args ds gs before hval0 hW hcnd _;have hval:∀ (j:Nat) t v,Tryz.f4.params[j]?= some t->args[j]?= some v->Value.okWide Tryz.prog W .any base t v:=hval0;have hW':=hW;obtain ⟨p,q,hA0,hV,rfl,hfz,hnd⟩:=hW;have hA:DataW.TrodAll enc Tryz.prog W 0 (fun _=>true) true Tryz.f4.params.toList args.toList ds p:=hA0;rw [Tryz.params4] at hA hval;obtain ⟨v0,v1,v2,v3,d0,d1,d2,d3,p0,p1,p2,p3,rfl,rfl,rfl,h0,h1,h2,h3⟩:=trodAll_four hA;obtain ⟨rfl,rfl⟩:=trodVars_none hV;obtain ⟨a0,r0⟩:=fQ (hval 0 54 v0 rfl rfl) h0;obtain ⟨a1,r1⟩:=Y9 (hval 1 37 v1 rfl rfl) h1;obtain ⟨a2,r2⟩:=AMu (hval 2 3 v2 rfl rfl) h2;obtain ⟨a3,r3⟩:=AHE (hval 3 5 v3 rfl rfl) h3
 have hlaw:Te Tryz.prog 4 #[v0,v1,v2,v3] W:=
   Te.of_ct (G:=GW W) (Tryz.fn4 Tryz.kX a0 a1 a2 a3.1 a3.2) ⟨fun _ h=>h,W,fun g hg=>by simp [AQk] at hg,fun _ hk=>⟨hk,rfl⟩⟩ ⟨r0,r1,r2,r3,trivial⟩
 refine hlaw.mono fun e W' ⟨he,hbl⟩=>?_
 subst he;exact ⟨_,rfl,ak Tryz.laidOut rfl hW' (by kernel_rfl) rfl Tryz.underlying4 rfl hbl⟩
theorem topClimbs_holds:Rows.TopClimbsSaid:=
 OpenClaim.holds_of_wide 4 Tryz.f4 rfl rfl rfl rfl rfl rfl rfl ⟨rfl,rfl,rfl,rfl,rfl⟩ rfl rfl rfl rfl rfl (by kernel_rfl) Tryz.func4 ATj
   (of_decide_eq_true (by kernel_rfl)) (by unfold Func.isWrapper;first | (rw [if_pos (by decide+kernel)];kernel_rfl) | (rw [if_neg (by decide+kernel)];exact ⟨rfl,rfl⟩))
   (fun os started H enc _=>Ul os started H enc)
end Go.Proofs.YtnjclpglagcagaaGreat
