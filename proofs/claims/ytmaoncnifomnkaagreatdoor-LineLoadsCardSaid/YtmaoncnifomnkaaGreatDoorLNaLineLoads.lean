/- The given statement holds: from the contracts of the functions that it reaches. Conditions: none. -/
import Derived.Test.YtmaoncnifomnkaaGreatDoorCards
import Derived.Test.YtmaoncnifomnkaaGreatDoorJNaLineLoads
import Derived.Test.YtmaoncnifomnkaaGreatDoorNaak
import Derived.Test.YtmaoncnifomnkaaGreatDoorNaan
import Derived.Test.YtmaoncnifomnkaaGreatDoorTie
set_option maxRecDepth 200000
set_option maxHeartbeats 8000000
namespace Go.Proofs.YtmaoncnifomnkaaGreatDoor
open Go.Joins Go.ChangeShapes Go.WideShapes Go.ChangeAt Go.RowKit Go.Psl
theorem ne (H:Type) (enc:TypeId × Value->H) (W:World) (base:Nat) (args:Array Value) (ds gs:List (DataW H)) (before:List MemPlace)
   (hval0:∀ (j:Nat) t v,Tryz.f3.params[j]?= some t->args[j]?= some v->Value.okWide Tryz.prog W .any base t v)
   (hW:DataW.Whole enc Tryz.prog Tryz.f3.params.toList Rows.lineLoadsSpec.vars false W args.toList ds gs before) (hL:laidMetH Tryz.prog Rows.lineLoadsRow.laid W) (hsh:W.ShapedOpen Tryz.prog):
   Calls Tryz.prog 3 args W fun e W'=>∃ v,e= .returned v/\Rows.lineLoadsSpec.post enc Tryz.prog Tryz.f3 false true false false W args v W':=by
 have hval:∀ (j:Nat) t v,Tryz.f3.params[j]?= some t->args[j]?= some v->Value.okWide Tryz.prog W .any base t v:=hval0;have hW':=hW;obtain ⟨p,q,hA0,hV,rfl,hfz,hnd⟩:=hW;have hA:DataW.TrodAll enc Tryz.prog W 0 (fun _=>true) true Tryz.f3.params.toList args.toList ds p:=hA0;rw [Tryz.params3] at hA hval;obtain ⟨v0,d0,rfl,rfl,h0⟩:=trodAll_one hA;obtain ⟨rfl,rfl⟩:=trodVars_none hV;obtain ⟨a0,r0,w0⟩:=AYe (hval 0 52 v0 rfl rfl) h0
 have hG:ASP W:=fun g hg=>by
   simp only [AQk,List.mem_cons,List.not_mem_nil,or_false] at hg;rcases hg with rfl | rfl
   . exact AYf (laid:=Rows.lineLoadsRow.laid) (.tail _ (.tail _ (.head _))) hL
   . exact AYg hsh
 have hlaw:Te Tryz.prog 3 #[v0] W:=
   Te.of_ct (G:=GW W) (Tryz.fn3 Tryz.kX a0 w0) (Abq hG) ⟨r0,trivial⟩
 refine hlaw.mono fun e W' ⟨he,hbl⟩=>?_
 subst he;exact ⟨_,rfl,ak Tryz.laidOut rfl hW' (by kernel_rfl) rfl Tryz.underlying4 rfl hbl⟩
noncomputable def wy:List (Nat × DataW Unit):=Rows.lineLoadsRow.laid.filterMap fun x=>(Tryz.prog.globalNamed x.1).map fun g=>(g,x.2)
abbrev cm:Array Value:= #[.agg #[.string ByteArray.empty, .int .i64 0, .int .i64 0, .int .i64 0, .int .i64 0, .int .i64 0, .int .i64 0, .int .i64 0, .int .i64 0, .int .i64 0, .int .i64 0, .int .i64 0, .int .i64 0, .int .i64 0, .int .i64 0, .int .i64 0, .slice none 0 0, .int .i64 0, .int .i64 0, .int .i64 0, .int .i64 0, .int .i64 0, .int .i64 0, .int .i64 0, .int .i64 0, .int .i64 0, .slice none 0 0, .slice none 0 0, .slice none 0 0, .int .i64 0, .int .i64 0, .int .i64 0, .int .i64 0, .int .i64 0, .int .i64 0, .slice none 0 0, .int .i64 0, .int .i64 0, .slice none 0 0, .int .i64 0, .int .u8 0, .int .i64 0, .int .i64 0, .bool false, .bool false, .int .i64 0, .int .i64 0, .int .i64 0, .int .i64 0, .slice none 0 0, .int .i64 0, .int .i64 0, .int .i64 0, .int .i64 0, .slice none 0 0, .int .i64 0, .int .i64 0, .int .i64 0, .int .i64 0, .slice none 0 0, .slice none 0 0, .int .i64 0, .int .i64 0, .int .i64 0, .slice none 0 0]]
abbrev zI {H:Type}:DataW H:= .lit (.int .i64 0)
abbrev zP {H:Type}:DataW H:= .agg [zI,zI]
abbrev Abt {H:Type}:DataW H:= .agg [.lit (.string []), .agg [zP,zP,zP,zP,zP,zP,zI,zI,zI, .agg [.nil,zI,zP,zP,zP,zP]], .agg [.nil, .nil], .agg [.nil,zP,zI,zI,zI,zI], .agg [.nil,zI,zI, .nil,zI], .agg [.lit (.int .u8 0),zI,zI, .lit (.bool false), .lit (.bool false)], .agg [zP,zP], .nil,zI,zI,zI,zI, .nil,zI,zI,zI,zI, .nil, .nil,zI,zI,zI, .nil]
theorem tk (os:Os) (started:os.Started) (H:Type) (enc:TypeId × Value->H) (F:Stop.Interp):
   ReturnsInHanded {} Tryz.checked os 3 .any ((OpenSpec.ofChange Rows.lineLoadsSpec).preRow enc Tryz.prog Tryz.f3 Rows.lineLoadsRow.domain false Rows.lineLoadsRow.laid) (((OpenSpec.ofChange Rows.lineLoadsSpec).at F).post enc Tryz.prog Tryz.f3 false true false false):=by
 have hx:∃ places,DataW.whole enc Tryz.prog ((AV5 wy os).forCall (fun _ _=>0) ⟨#[],cm,[]⟩).memory Tryz.f3.params.toList Rows.lineLoadsSpec.vars false cm.toList 8=some ([Abt],[],places):=⟨[],by kernel_rfl⟩
 obtain ⟨places,hx⟩:=hx
 refine returnsInHanded_of_row (C:=Tryz.checked) (s:=OpenSpec.ofChange Rows.lineLoadsSpec) Tryz.own started (by kernel_rfl) Tryz.func3
   (witness_row_at (enc:=enc) (C:=Tryz.checked) false (AV5 wy os) cm rfl (by kernel_rfl) (by kernel_rfl) (by kernel_rfl)
     (OpenSpec.preRow_of_cond 8 hx (by kernel_rfl) (fun k hk=>by cases hk) (by kernel_rfl) (laidMet_of_run' 8 (by kernel_rfl) (by kernel_rfl)))) ?_
 intro W base args ds gs before hval hW _ _ _ hL hsh _;exact ne H enc W base args ds gs before hval hW hL hsh
theorem lineLoads_holds:Rows.LineLoadsSaid:=
 OpenClaim.holds_of_cond 3 Tryz.f3 rfl rfl rfl rfl rfl rfl rfl ⟨rfl,rfl,rfl,rfl,rfl⟩ rfl rfl rfl rfl rfl (by kernel_rfl) Tryz.func3 APw
   (of_decide_eq_true (by kernel_rfl)) (by unfold Func.isWrapper;first | (rw [if_pos (by decide+kernel)];kernel_rfl) | (rw [if_neg (by decide+kernel)];exact ⟨rfl,rfl⟩))
   (fun os started H enc _ F=>by rw [OpenClaim.pre_eq_preRow];exact tk os started H enc F)
theorem AVa (f:FuncId) (fn:Func) (hf:Tryz.pinned.checked.prog.funcNamed "ballonet/ballonetlaw10.LineLoads" =some f) (hfn:Tryz.pinned.checked.prog.funcs[f]?= some fn):
   false=Tryz.pinned.checked.prog.looks []/\∀ (j:Nat) t,fn.params[j]?= some t->Tryz.pinned.checked.prog.wantsStandIn t=false:=by
 obtain rfl:f=3:=Option.some.inj ((show Tryz.prog.funcNamed "ballonet/ballonetlaw10.LineLoads" =some 3 by kernel_rfl).symm.trans hf) |>.symm;obtain rfl:fn=Tryz.f3:=(Option.some.inj (Tryz.func3.symm.trans hfn)).symm;refine ⟨by kernel_rfl,fun j t ht=>?_⟩;rw [Tryz.params3] at ht;have hm:=Array.mem_of_getElem? ht;simp only [List.mem_toArray,List.mem_cons,List.not_mem_nil,or_false] at hm;subst hm;exact (show Tryz.prog.wantsStandIn 52=false by kernel_rfl)
theorem lineLoads_card:Rows.LineLoadsCardSaid:=
 Claim7.holds_tied_plain_at .later [] _ _ _ _ lineLoads_holds (fun _ h=>by cases h) (by kernel_rfl) (fun _ h=>by cases h) lineLoads_row_tie rfl ⟨rfl,rfl⟩ (by kernel_rfl) rfl AVa (by kernel_rfl)
end Go.Proofs.YtmaoncnifomnkaaGreatDoor
