/- The given statement holds: from the contracts of the functions that it reaches. Conditions: none. -/
import Derived.Test.YtnjclpglagcagaaGreatEaak
import Derived.Test.YtnjclpglagcagaaGreatEaao
import Derived.Test.YtnjclpglagcagaaGreatJEaTopLater
set_option maxRecDepth 200000
set_option maxHeartbeats 8000000
namespace Go.Proofs.YtnjclpglagcagaaGreat
open Go.Joins Go.ChangeShapes Go.WideShapes Go.ChangeAt Go.RowKit Go.Psl
theorem AMQ (os:Os) (started:os.Started) (H:Type) (enc:TypeId × Value->H):
   ReturnsInHanded {} Tryz.checked os 3 .any (Rows.topLaterSpec.pre6 enc Tryz.prog Tryz.f3 Rows.topLaterRow.domain false) (Rows.topLaterSpec.post enc Tryz.prog Tryz.f3 false true false false):=by
 refine returnsInHanded_of_change (C:=Tryz.checked) Tryz.own started (by kernel_rfl) Tryz.func3
   (ChangeSpec.witness6 (enc:=enc) (C:=Tryz.checked) false ⟨#[],#[.slice none 0 0, .agg #[.int .i64 0, .int .i64 0, .int .i64 0], .slice none 0 0, .int .i64 0, .int .i64 0, .int .i64 0, .agg #[.slice none 0 0, .int .i64 0, .int .i64 0, .int .i64 0, .int .i64 0, .int .i64 0, .int .i64 0], .agg #[.int .i64 0, .int .i64 0, .int .i64 0, .int .i64 0, .int .i64 0, .int .i64 0, .int .i64 0, .int .i64 0, .int .i64 0, .int .i64 0, .int .i64 0, .int .i64 0, .int .i64 0, .int .i64 0, .int .i64 0, .slice none 0 0, .int .i64 0, .int .i64 0, .int .i64 0, .int .i64 0, .int .i64 0, .int .i64 0, .int .i64 0, .int .i64 0, .int .i64 0], .slice none 0 0],[]⟩ 8 (by kernel_rfl) (by kernel_rfl) (by kernel_rfl) (by kernel_rfl)) ?_
 intro W base args ds gs before hval0 hW hcnd _;have hval:∀ (j:Nat) t v,Tryz.f3.params[j]?= some t->args[j]?= some v->Value.okWide Tryz.prog W .any base t v:=hval0;have hW':=hW;obtain ⟨p,q,hA0,hV,rfl,hfz,hnd⟩:=hW;have hA:DataW.TrodAll enc Tryz.prog W 0 (fun _=>true) true Tryz.f3.params.toList args.toList ds p:=hA0;rw [Tryz.params3] at hA hval;obtain ⟨v0,v1,v2,v3,v4,v5,v6,v7,v8,d0,d1,d2,d3,d4,d5,d6,d7,d8,p0,p1,p2,p3,p4,p5,p6,p7,p8,rfl,rfl,rfl,h0,h1,h2,h3,h4,h5,h6,h7,h8⟩:=AMr hA;obtain ⟨rfl,rfl⟩:=trodVars_none hV;obtain ⟨a0,r0⟩:=AOS (hval 0 22 v0 rfl rfl) h0;obtain ⟨a1,r1⟩:=AOR (hval 1 24 v1 rfl rfl) h1;obtain ⟨a2,r2⟩:=AOT (hval 2 25 v2 rfl rfl) h2;obtain ⟨a3,r3⟩:=AMu (hval 3 3 v3 rfl rfl) h3;obtain ⟨a4,r4⟩:=AMu (hval 4 3 v4 rfl rfl) h4;obtain ⟨a5,r5⟩:=AMu (hval 5 3 v5 rfl rfl) h5;obtain ⟨a6,r6⟩:=fj (hval 6 30 v6 rfl rfl) h6;obtain ⟨a7,r7⟩:=Y9 (hval 7 37 v7 rfl rfl) h7;obtain ⟨a8,r8⟩:=Zb (hval 8 38 v8 rfl rfl) h8
 have hlaw:Te Tryz.prog 3 #[v0,v1,v2,v3,v4,v5,v6,v7,v8] W:=
   Te.of_ct (G:=GW W) (Tryz.fn3 Tryz.kX a0 a1 a2 a3 a4 a5 a6 a7 a8) ⟨fun _ h=>h,W,fun g hg=>by simp [AQk] at hg,fun _ hk=>⟨hk,rfl⟩⟩ ⟨r0,r1,r2,r3,r4,r5,r6,r7,r8,trivial⟩
 refine hlaw.mono fun e W' ⟨he,hbl⟩=>?_
 subst he;exact ⟨_,rfl,ak Tryz.laidOut rfl hW' (by kernel_rfl) rfl Tryz.underlying4 rfl hbl⟩
theorem topLater_holds:Rows.TopLaterSaid:=
 OpenClaim.holds_of_wide 3 Tryz.f3 rfl rfl rfl rfl rfl rfl rfl ⟨rfl,rfl,rfl,rfl,rfl⟩ rfl rfl rfl rfl rfl (by kernel_rfl) Tryz.func3 APw
   (of_decide_eq_true (by kernel_rfl)) (by unfold Func.isWrapper;first | (rw [if_pos (by decide+kernel)];kernel_rfl) | (rw [if_neg (by decide+kernel)];exact ⟨rfl,rfl⟩))
   (fun os started H enc _=>AMQ os started H enc)
end Go.Proofs.YtnjclpglagcagaaGreat
