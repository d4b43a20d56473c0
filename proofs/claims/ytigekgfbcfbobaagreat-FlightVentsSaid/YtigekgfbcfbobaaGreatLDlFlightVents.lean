/- The given statement holds: from the contracts of the functions that it reaches. Conditions: none. -/
import Derived.Test.YtigekgfbcfbobaaGreatDlai
import Derived.Test.YtigekgfbcfbobaaGreatDlam
import Derived.Test.YtigekgfbcfbobaaGreatJDlFlightVents
set_option maxRecDepth 200000
set_option maxHeartbeats 8000000
namespace Go.Proofs.YtigekgfbcfbobaaGreat
open Go.Joins Go.ChangeShapes Go.WideShapes Go.ChangeAt Go.RowKit Go.Psl
theorem AHi (os:Os) (started:os.Started) (H:Type) (enc:TypeId × Value->H):
   ReturnsInHanded {} Tryz.checked os 14 .any (Rows.flightVentsSpec.pre6 enc Tryz.prog Tryz.f14 Rows.flightVentsRow.domain false) (Rows.flightVentsSpec.post enc Tryz.prog Tryz.f14 false true false false):=by
 refine returnsInHanded_of_change (C:=Tryz.checked) Tryz.own started (by kernel_rfl) Tryz.func14
   (ChangeSpec.witness6 (enc:=enc) (C:=Tryz.checked) false ⟨#[],#[.agg #[.slice none 0 0, .slice none 0 0], .agg #[.int .i64 0, .int .i64 0, .int .i64 0, .int .i64 0, .int .i64 0, .int .i64 0, .int .i64 0, .int .i64 0, .int .i64 0, .int .i64 0, .int .i64 0, .int .i64 0, .int .i64 0, .int .i64 0, .int .i64 0, .slice none 0 0, .int .i64 0, .int .i64 0, .int .i64 0, .int .i64 0, .int .i64 0, .int .i64 0, .int .i64 0, .int .i64 0, .int .i64 0], .agg #[.int .i64 0, .int .i64 0]],[]⟩ 8 (by kernel_rfl) (by kernel_rfl) (by kernel_rfl) (by kernel_rfl)) ?_
 intro W base args ds gs before hval0 hW hcnd _;have hval:∀ (j:Nat) t v,Tryz.f14.params[j]?= some t->args[j]?= some v->Value.okWide Tryz.prog W .any base t v:=hval0;have hW':=hW;obtain ⟨p,q,hA0,hV,rfl,hfz,hnd⟩:=hW;have hA:DataW.TrodAll enc Tryz.prog W 0 (fun _=>true) true Tryz.f14.params.toList args.toList ds p:=hA0;rw [Tryz.params14] at hA hval;obtain ⟨v0,v1,v2,d0,d1,d2,p0,p1,p2,rfl,rfl,rfl,h0,h1,h2⟩:=trodAll_three hA;obtain ⟨rfl,rfl⟩:=trodVars_none hV;obtain ⟨a0,r0⟩:=fQ (hval 0 25 v0 rfl rfl) h0;obtain ⟨a1,r1⟩:=Y9 (hval 1 34 v1 rfl rfl) h1;obtain ⟨a2,r2⟩:=AKj (hval 2 27 v2 rfl rfl) h2
 have hlaw:Te Tryz.prog 14 #[v0,v1,v2] W:=
   Te.of_ct (G:=GW W) (Tryz.fn14 Tryz.kX a0 a1 a2.1 a2.2) (fun _ h=>h) ⟨r0,r1,r2,trivial⟩
 refine hlaw.mono fun e W' ⟨he,hbl⟩=>?_
 subst he;exact ⟨_,rfl,ak Tryz.laidOut rfl hW' (by kernel_rfl) rfl Tryz.underlying4 rfl hbl⟩
theorem flightVents_holds:Rows.FlightVentsSaid:=
 OpenClaim.holds_of_wide 14 Tryz.f14 rfl rfl rfl rfl rfl rfl rfl ⟨rfl,rfl,rfl,rfl,rfl⟩ rfl rfl rfl rfl rfl (by kernel_rfl) Tryz.func14 AKi
   (of_decide_eq_true (by kernel_rfl)) (by unfold Func.isWrapper;first | (rw [if_pos (by decide+kernel)];kernel_rfl) | (rw [if_neg (by decide+kernel)];exact ⟨rfl,rfl⟩))
   (fun os started H enc _=>AHi os started H enc)
end Go.Proofs.YtigekgfbcfbobaaGreat
