/- Own lemmas, used by the last text. Conditions: those that each theorem states. -/
import Derived.Shelf.SlSortCmp.NoneTotal
import Derived.Test.YtigekgfbcfbobaaGreatDkag
import Derived.Test.YtigekgfbcfbobaaGreatDkai
import Derived.Test.YtigekgfbcfbobaaGreatProg
set_option maxRecDepth 200000
set_option maxHeartbeats 8000000
namespace Go.Psl
open Go.Shelf Go.RowKit Go.Lib Go.Sort
variable {P:Program} {ρ:Ren} {α:Type} [Inhabited α]
theorem dJ {W W':World} (hos:W'.os=W.os) (hta:W'.tape=W.tape) (hou:W'.output=W.output) (hdr:W.drawn<=W'.drawn) (hsz:W.heap.size<=W'.heap.size) (hb:∀ b,b<W.heap.size->W'.heap[b]?= W.heap[b]?):
   ∃ q os',W'=grow (W.drewN q) os':=by
 refine ⟨W'.drawn-W.drawn,W'.heap.extract W.heap.size W'.heap.size,?_⟩;obtain ⟨h,t,d,o,u⟩:=W;obtain ⟨h',t',d',o',u'⟩:=W';simp only at hos hta hou hdr hsz hb;subst hos hta hou;simp only [grow,World.drewN];congr 1
 . apply Array.ext_getElem?
   intro i;by_cases hi:i<h.size
   . rw [Array.getElem?_append_left hi,hb i hi]
   . rw [Array.getElem?_append_right (by omega),Array.getElem?_extract]
     split
     . congr 1;omega
     . rw [Array.getElem?_eq_none (by omega)]
 . omega
theorem Mg {enc:α->List Value} {k:Nat} (h0:0<k) (hk:∀ x,(enc x).length=k) (l:List α) (j:Nat) (hj:j<l.length*k):(l.flatMap enc)[j]?= some (flatK enc k l.toArray)[j]! :=by
 rw [get_flatK _ _ _ _ (by simpa using hj),List.flatMap_def,CI h0 _ (fun e he=>by obtain ⟨x,_,rfl⟩:=List.mem_map.1 he;exact hk x)];have h1:j/k<l.length:=by rw [Nat.div_lt_iff_lt_mul h0];exact hj
 have hm:j%k<k:=Nat.mod_lt _ h0;rw [List.getElem?_map,List.getElem?_eq_getElem h1];simp only [Option.map_some,Option.bind_some];have e1:l.toArray[j/k]! =l[j/k]:=by rw [getElem!_pos _ _ (by simpa using h1)];simp
 rw [e1,List.getElem?_eq_getElem (by rw [hk];exact hm),getElem!_pos _ _ (by rw [hk];exact hm)]
omit [Inhabited α] in
theorem N2 {enc:α->List Value} {k:Nat} (hk:∀ x,(enc x).length=k) (l:List α):(l.flatMap enc).length=l.length*k:=by
 rw [List.flatMap_def,B3 (sz:=k) _ (fun e he=>by obtain ⟨x,_,rfl⟩:=List.mem_map.1 he;exact hk x),List.length_map]
theorem Wo {G:Gh} {W:World} {vs:List Value} (h:∀ v∈vs,CU v=true):AJ (R1 G W) (vs.map cV) vs:=by
 induction vs with
 | nil=>trivial
 | cons v vs ih=>exact ⟨RD.lit v (h v (by simp)),ih fun x hx=>h x (by simp [hx])⟩
theorem P6 {g:Nat} {enc:α->List Value} {k:Nat} {cf:α->α->Int} (hflat:∀ x,∀ v∈enc x,CU v=true) (hcmp:∀ x y,Ct P g [.agg ((enc x).map cV), .agg ((enc y).map cV)] (.d (.lit (.int .i64 (cf x y)))) []) (blk off size:Nat) (w:World):Go.Proofs.CmpLays P g #[] enc k cf blk off size w:=by
 intro m os dk _ x y;refine ((hcmp x y).2 ⟨fun _=>0,fun _=>0,fun _=>true,fun _=>true,fun _=>False⟩ _ #[.agg (enc x).toArray, .agg (enc y).toArray] (fun _ h=>h.elim) ⟨⟨_,rfl,Wo (hflat x)⟩,⟨_,rfl,Wo (hflat y)⟩,trivial⟩ ⟨nofun,fun i _ h=>by simp [InH] at h,nofun⟩).mono fun e W' ⟨G',hp⟩=>?_
 refine ⟨?_,dJ hp.os hp.tape hp.output hp.drawn hp.size fun b hb=>hp.block b hb fun ⟨_,h,_⟩=>by simp [InH] at h⟩;cases e with
 | returned v=>rw [Cg hp.rv]
 | _=>exact hp.rv.elim
theorem N3 (L:Go.Proofs.SlLaysF0.n6 P ρ) (hf:fF P (ρ.f 6)) (k:Nat) (h0:0<k) (aE:∀ w,(isAgg (ρ.t 24)).run P w= .ok true w) (zE:∀ w,(Go.sizeOf (ρ.t 24)).run P w= .ok k w) (enc:α->List Value) (hk:∀ x,(enc x).length=k) (hflat:∀ x,∀ v∈enc x,CU v=true) (cf:α->α->Int) (hO:SWO (Go.Proofs.ltOf cf)) (hT:∀ x y,(Go.Proofs.ltOf cf) x y=false->(Go.Proofs.ltOf cf) y x=false->x=y)
   (g:Nat) (eg:∀ args w,(callFunc g args).run P w= .ok (.enter g args) w) (hcmp:∀ x y,Ct P g [.agg ((enc x).map cV), .agg ((enc y).map cV)] (.d (.lit (.int .i64 (cf x y)))) []) (l:List α) (hl0:0<l.length) (hsz:l.length<4611686018427387904):
   Cm P (ρ.f 6) [.ls 0 0 l.length k, .d (.fn g [])] (lk [(0,(l.flatMap enc).map cV)]) [0] (.ret (.tup [])) (lk [(0,((l.mergeSort fun x y=>!(Go.Proofs.ltOf cf) y x).flatMap enc).map cV)]):=by
 refine ⟨hf,fun G W xs hGW hargs hpre=>?_⟩
 obtain ⟨v1,v2,rfl⟩:∃ v1 v2,xs= #[v1,v2]:=by
   have:=hargs.length;obtain ⟨xs⟩:=xs
   match xs,this with
   | [a,b],_=>exact ⟨a,b,rfl⟩
   | [],h=>simp at h
   | [_],h=>simp at h
   | _::_::_::_,h=>simp at h
 obtain ⟨h1,h2,_⟩:=hargs;obtain ⟨hIn,hph⟩:=hpre.st 0 (by simp);obtain ⟨hml,⟨_,h,_⟩ | ⟨hphl,o,cap,rfl,hcap,ho⟩⟩:=h1
 . omega
 obtain ⟨rfl,hbs0⟩:=ho (by omega)
 obtain ⟨cv,rfl,hcv⟩:∃ cv,v2= .func (.func g) #[] cv/\cv.size=0:=by
   cases h2 with
   | fn _ _ cv hl _=>exact ⟨cv,rfl,hl⟩
 obtain rfl:cv= #[]:=Array.eq_empty_of_size_eq_zero hcv;have hHB:=hpre.hb 0 _ rfl;obtain ⟨hnim,c,T,hb,hbs,hcl,hcr,hca⟩:=hHB.read hphl;have hblk:G.β 0<W.heap.size:=(Array.getElem?_eq_some_iff.1 hb).1;have hfl:=N2 hk l;rw [List.length_map,hfl] at hcl hcr
 have hcell:∀ j,j<l.length*k->c[j]?= some (flatK enc k l.toArray)[j]! :=fun j hj=>by
   have h3:=Mg h0 hk l j hj;have h4:((l.flatMap enc).map cV)[j]?= some (cV (flatK enc k l.toArray)[j]!):=by rw [List.getElem?_map,h3];rfl
   obtain ⟨x,hx,hr⟩:=hcr.get h4;rw [List.getElem?_take,if_pos hj,Array.getElem?_toList] at hx;rw [hx,BO hr.r2.rv]
 have hH:HoldsK enc k W (G.β 0) 0 l.toArray:=fun j hj=>by
   have hj':j<l.length*k:=by simpa using hj
   refine ⟨?_,?_⟩
   . unfold World.cell?
     simp only [Nat.zero_add,hb,Option.isSome_none,Bool.false_eq_true,if_false];exact hcell j hj'
   . unfold World.frozen?
     simp [hb]
 have h1c:∀ x,∀ v∈enc x,v.oneCell'=true:=fun x v hv=>RD.oneCell (Im:=fun _=>True) (W:=W) (RD.lit v (hflat x v hv))
 have key:=Go.Proofs.AnyQ.slices_SortFunc_total L k aE zE enc hk h1c cf hO g #[] (G.β 0) 0 cap l.toArray W eg (P6 hflat hcmp _ _ _ _) hH hblk (by simpa using hsz) hT;have hperm:(l.mergeSort fun x y=>!(Go.Proofs.ltOf cf) y x).length=l.length:=List.length_mergeSort _
 generalize (l.mergeSort fun x y=>!(Go.Proofs.ltOf cf) y x)=l' at key hperm ⊢
 have key':Calls P (ρ.f 6) #[.slice (some ⟨G.β 0,0,none⟩) l.length cap, .func (.func g) #[] #[]] W fun e w'=>e= .returned (.tuple #[])/\∃ n os,w'=Go.Proofs.sortWorldK enc k W (G.β 0) 0 n l'.toArray os:=by simpa using key
 refine key'.mono fun e W' ⟨he,n,os,hW'⟩=>?_
 subst he
 have hlent:∀ b,Bm G (lk [(0,(l.flatMap enc).map cV)]) b->b=G.β 0:=fun b ⟨i,hi,_,hbi⟩=>by
   have:i=0:=by simp only [InH,lk] at hi;split at hi;assumption;cases hi
   rw [<-hbi,this]
 have hlent0:Bm G (lk [(0,(l.flatMap enc).map cV)]) (G.β 0):=⟨0,hIn,hph,rfl⟩
 have hheap:∀ b,b<W.heap.size->W'.heap[b]?= if b=G.β 0 then some (.cells (putCells id 0 (flatK enc k l'.toArray) c) T (0,0)) else W.heap[b]?:= fun b hlt=>by
   rw [hW']
   show ((putRow id (Sort.ahead W n) (G.β 0) 0 (flatK enc k l'.toArray)).heap++os)[b]?= _
   rw [Array.getElem?_append_left (by simpa using hlt)]
   show (W.heap.modify (G.β 0) _)[b]?= _
   rw [Array.getElem?_modify];by_cases e:b=G.β 0
   . subst e
     simp [hb,onCells]
   . rw [if_neg (fun h=>e h.symm),if_neg e]
 have hsz':W.heap.size<=W'.heap.size:=by rw [hW'];exact Go.Proofs.size_sortWorldK_c enc k W (G.β 0) 0 n l'.toArray os
 refine ⟨G,⟨by rw [hW'];rfl,by rw [hW'];rfl,by rw [hW'];rfl,by rw [hW'];exact Nat.le_add_right _ _,hsz',fun b hlt hn=>?_,fun b hb=>⟨Nat.lt_of_lt_of_le (hGW b hb) hsz', .inl hb⟩,fun _ h=>h,⟨#[],rfl,trivial⟩,fun _ h=>(by cases h),fun i cs hi=>?_,fun i j hi hj _ _ _=>?_,fun i hi _=>⟨rfl,rfl,(hpre.st i hi).2,rfl⟩⟩⟩
 . rw [hheap b hlt,if_neg (fun e:b=G.β 0=>hn (by rw [e];exact hlent0))]
 . have hi0:i=0/\cs=(l'.flatMap enc).map cV:=by
     simp only [lk] at hi;split at hi
     . rename_i e;cases hi;exact ⟨e,rfl⟩
     . cases hi
   obtain ⟨rfl,rfl⟩:=hi0;have hfl':=N2 hk l';refine ⟨.inr (.inl ⟨hphl.1,hphl.2,hnim,_,T,by rw [hheap _ hblk,if_pos rfl],by simp [putCells,hbs],by simp [putCells,hfl',hperm];exact hcl,?_,?_⟩),fun _=> .inr hlent0,fun x hx=>?_⟩
   . refine AJ.of_get ?_ fun j x y hx hy=>?_
     . simp [putCells,hfl',hperm];omega
     . have hj:j<l'.length*k:=by
         have:=(List.getElem?_eq_some_iff.1 hx).1;simpa [hfl'] using this
       rw [List.getElem?_map,Mg h0 hk l' j hj] at hx;cases hx;rw [List.getElem?_take,List.length_map,hfl',if_pos hj,Array.getElem?_toList] at hy;have hjc:j<c.size:=by rw [hperm] at hj;omega
       simp only [putCells,Array.getElem?_mapIdx,Array.getElem?_eq_getElem hjc,Option.map_some,Nat.zero_le,true_and,Nat.zero_add,size_flatK,List.size_toArray,hj,if_true,Option.some.injEq,Nat.sub_zero,id] at hy;subst hy;have hm:=Mg h0 hk l' j hj;have hmem:=List.mem_of_getElem? hm;obtain ⟨a,_,ha⟩:=List.mem_flatMap.1 hmem;exact RD.lit _ (hflat a _ ha)
   . simp only [List.all_map,List.all_eq_true]
     intro v _;rfl
   . obtain ⟨v,_,rfl⟩:=List.mem_map.1 hx
     trivial
 . have e1:i=0:=by simp only [InH,lk] at hi;split at hi;assumption;cases hi
   have e2:j=0:=by simp only [InH,lk] at hj;split at hj;assumption;cases hj
   rw [e1,e2]
end Go.Psl
namespace Go.Proofs
def Tryz.sortL_ren:Go.Shelf.Ren:=⟨fun | 6=>221 | 15=>270 | 14=>269 | 28=>300 | 29=>301 | 20=>292 | 21=>293 | 22=>294 | 23=>295 | 24=>296 | 25=>297 | 26=>298 | 27=>299 | 46=>312 | 47=>313 | 48=>314 | 49=>315 | 50=>316 | 57=>318 | n=>n,fun | 22=>55 | 24=>122 | 25=>275 | 3=>3 | 39=>222 | 0=>0 | 53=>339 | 55=>341 | 4=>4 | 46=>333 | 45=>332 | 50=>266 | 5=>5 | 9=>9 | 66=>348 | 70=>352 | 76=>356 | 77=>50 | n=>n,fun | n=>n⟩
theorem Tryz.sortL:Go.Proofs.SlLaysF0.n6 Tryz.prog Tryz.sortL_ren:={
 mixed:=by kernel_rfl,
 f6:=⟨Tryz.f221.name,by decide,Tryz.func221.trans (congrArg some (by kernel_rfl))⟩,
 f14:=⟨Tryz.f269.name,by decide,Tryz.func269.trans (congrArg some (by kernel_rfl))⟩,
 f15:=Tryz.func270.trans (congrArg some (by kernel_rfl)),
 f20:=⟨Tryz.f292.name,by decide,Tryz.func292.trans (congrArg some (by kernel_rfl))⟩,
 f21:=⟨Tryz.f293.name,by decide,Tryz.func293.trans (congrArg some (by kernel_rfl))⟩,
 f22:=⟨Tryz.f294.name,by decide,Tryz.func294.trans (congrArg some (by kernel_rfl))⟩,
 f23:=⟨Tryz.f295.name,by decide,Tryz.func295.trans (congrArg some (by kernel_rfl))⟩,
 f24:=⟨Tryz.f296.name,by decide,Tryz.func296.trans (congrArg some (by kernel_rfl))⟩,
 f25:=⟨Tryz.f297.name,by decide,Tryz.func297.trans (congrArg some (by kernel_rfl))⟩,
 f26:=⟨Tryz.f298.name,by decide,Tryz.func298.trans (congrArg some (by kernel_rfl))⟩,
 f27:=⟨Tryz.f299.name,by decide,Tryz.func299.trans (congrArg some (by kernel_rfl))⟩,
 f28:=Tryz.func300.trans (congrArg some (by kernel_rfl)),
 f29:=Tryz.func301.trans (congrArg some (by kernel_rfl)),
 f46:=⟨Tryz.f312.name,by decide,Tryz.func312.trans (congrArg some (by kernel_rfl))⟩,
 f47:=Tryz.func313.trans (congrArg some (by kernel_rfl)),
 f48:=Tryz.func314.trans (congrArg some (by kernel_rfl)),
 f49:=⟨Tryz.f315.name,by decide,Tryz.func315.trans (congrArg some (by kernel_rfl))⟩,
 f50:=⟨Tryz.f316.name,by decide,Tryz.func316.trans (congrArg some (by kernel_rfl))⟩,
 f57:=⟨Tryz.f318.name,by decide,Tryz.func318.trans (congrArg some (by kernel_rfl))⟩,
 t0:=Tryz.underlying0,
 a0:=Tryz.isAgg0,
 z0:=Tryz.sizeOf0,
 v0:=Tryz.zeroValue0,
 t3:=Tryz.underlying3,
 a3:=Tryz.isAgg3,
 z3:=Tryz.sizeOf3,
 v3:=Tryz.zeroValue3,
 t4:=Tryz.underlying4,
 a4:=Tryz.isAgg4,
 z4:=Tryz.sizeOf4,
 v4:=Tryz.zeroValue4,
 t5:=Tryz.underlying5,
 a5:=Tryz.isAgg5,
 z5:=Tryz.sizeOf5,
 v5:=Tryz.zeroValue5,
 t9:=Tryz.underlying9,
 a9:=Tryz.isAgg9,
 z9:=Tryz.sizeOf9,
 v9:=Tryz.zeroValue9,
 t22:=Tryz.underlying55,
 a22:=Tryz.isAgg55,
 z22:=Tryz.sizeOf55,
 v22:=Tryz.zeroValue55,
 t25:=Tryz.underlying275,
 a25:=Tryz.isAgg275,
 z25:=Tryz.sizeOf275,
 v25:=Tryz.zeroValue275,
 t39:=Tryz.underlying222,
 a39:=Tryz.isAgg222,
 z39:=Tryz.sizeOf222,
 v39:=Tryz.zeroValue222,
 t45:=Tryz.underlying332,
 a45:=Tryz.isAgg332,
 z45:=Tryz.sizeOf332,
 v45:=Tryz.zeroValue332,
 t46:=Tryz.underlying333,
 a46:=Tryz.isAgg333,
 z46:=Tryz.sizeOf333,
 v46:=Tryz.zeroValue333,
 t50:=Tryz.underlying266,
 a50:=Tryz.isAgg266,
 z50:=Tryz.sizeOf266,
 v50:=Tryz.zeroValue266,
 t53:=Tryz.underlying339,
 a53:=Tryz.isAgg339,
 z53:=Tryz.sizeOf339,
 v53:=Tryz.zeroValue339,
 t55:=Tryz.underlying341,
 a55:=Tryz.isAgg341,
 z55:=Tryz.sizeOf341,
 v55:=Tryz.zeroValue341,
 t66:=Tryz.underlying348,
 a66:=Tryz.isAgg348,
 z66:=Tryz.sizeOf348,
 v66:=Tryz.zeroValue348,
 t70:=Tryz.underlying352,
 a70:=Tryz.isAgg352,
 z70:=Tryz.sizeOf352,
 v70:=Tryz.zeroValue352,
 t76:=Tryz.underlying356,
 a76:=Tryz.isAgg356,
 z76:=Tryz.sizeOf356,
 v76:=Tryz.zeroValue356,
 t77:=Tryz.underlying50,
 a77:=Tryz.isAgg50,
 z77:=Tryz.sizeOf50,
 v77:=Tryz.zeroValue50}
end Go.Proofs
namespace Go.Proofs.Tryz
open Go.Psl
def Yn (p:Int × Int):List Value:=[.int .i64 p.1, .int .i64 p.2]
theorem L8 (l:List (Int × Int)):(l.flatMap Yn).map cV=BC l:=by
 induction l with
 | nil=>rfl
 | cons a l ih=>
   rw [List.flatMap_cons,List.map_append,ih];rfl
theorem Kq (x y:Int × Int):Go.Proofs.ltOf Dw x y=true↔Go.Geo.lt x y:=by
 unfold Go.Proofs.ltOf;rw [decide_eq_true_eq,PX]
theorem ay (x y:Int × Int):Go.Proofs.ltOf Dw x y=false↔¬ Go.Geo.lt x y:=by
 rw [<-Kq];simp
theorem VT:Go.Sort.SWO (Go.Proofs.ltOf Dw) where
 irrefl x:=by rw [ay];exact Go.Geo.lt_irr x
 trans x y z h1 h2:=by rw [Kq] at*;exact Go.Geo.lt_trans h1 h2
 ntrans x y z h1 h2:=by rw [ay] at*;unfold Go.Geo.lt at*;omega
theorem kX:SortOk:=fun l h1 h2=>by
 have hcmp:∀ x y:Int × Int,Ct prog 222 [.agg ((Yn x).map cV), .agg ((Yn y).map cV)] (.d (.lit (.int .i64 (Dw x y)))) []:=fun x y=>pR x y
 have h:=N3 Tryz.sortL ⟨_,func221,by kernel_rfl,by decide⟩ 2 (by omega) Tryz.isAgg122 Tryz.sizeOf122 Yn (fun _=>rfl) (fun x v hv=>by simp [Yn] at hv;rcases hv with rfl | rfl<;>rfl) Dw VT
   (fun x y a b=>by
     rw [ay] at a b;rcases Go.Geo.lt_tri x y with h | h | h
     . exact absurd h a
     . exact h
     . exact absurd h b) 222 (Go.Proofs.enters_of func222 (by kernel_rfl) rfl) hcmp l h1 (by omega)
 rw [L8,L8] at h;exact h
end Go.Proofs.Tryz
