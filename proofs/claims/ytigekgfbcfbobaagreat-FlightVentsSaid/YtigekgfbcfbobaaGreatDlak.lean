/- Own lemmas, used by the last text. Conditions: those that each theorem states. -/
import Derived.Test.YtigekgfbcfbobaaGreatDlaf
import Derived.Test.YtigekgfbcfbobaaGreatDlag
import Derived.Test.YtigekgfbcfbobaaGreatDlah
import Derived.Test.YtigekgfbcfbobaaGreatDlai
import Derived.Test.YtigekgfbcfbobaaGreatDlaj
set_option maxRecDepth 200000
set_option maxHeartbeats 8000000
namespace Go.Psl
variable {P:Program} {Γ:Tys} {eqs:Eqs} {E:Ent}
theorem jh {α:Type} {l:List α} (h:l.length=2):∃ a b,l=[a,b]:=by
 match l,h with
 | [a,b],_=>exact ⟨a,b,rfl⟩
structure ji (E:Ent) (G0:Gh) (W0:World):Prop where
 w:E.W0=W0
 im:E.Im0=G0.Im
 mu:∀ b,E.mu b↔Bm G0 noH b
 rd:E.rd=none
 dx:E.dx=[]
 nm:E.nm=true
abbrev KO (G0:Gh) (W0:World) (r:V) (H1:List (Nat × List V)):Ending->World->Prop:=fun e W'=>∃ G',sG G0 W0 noH [] (.ret r) (lk H1) e W' G'
def DW (P:Program) (E:Ent) (fn:Func) (r:V) (H1:List (Nat × List V)) (p:PC) (st:St):Prop:=
 LD r H1->∀ (c:Code),AK E.nt c=some p->∀ (G0:Gh) (W0:World),ji E G0 W0->∀ G a W,Inv E (· < st.nx) G st a W->
   c.wpIn Fence.wide 0 P (bodyPostM Fence.wide 0 P fn (KO G0 W0 r H1)) a W
theorem OI {nt:Nat} {c:Code} {pa pb:PC} (h:AK nt c=some (.seq pa pb)):∃ x y,c= .seq x y/\AK nt x=some pa/\AK nt y=some pb:=by
 cases c with
 | seq x y=>
   simp only [AK,Option.bind_eq_some_iff,Option.map_eq_some_iff] at h;obtain ⟨a,ha,b,hb,he⟩:=h;cases he;exact ⟨x,y,rfl,ha,hb⟩
 | region id ops draw=>
   simp only [AK,M8] at h;split at h
   . split at h
     . simp only [Option.some.injEq] at h
       split at h<;>cases h
     . cases h
   . split at h<;>cases h
 | cond c a b=>
   simp only [AK,Option.bind_eq_some_iff,Option.map_eq_some_iff] at h;obtain ⟨a,ha,b,hb,he⟩:=h;cases he
 | rangeFunc f ps a b=>
   simp only [AK,Option.bind_eq_some_iff,Option.map_eq_some_iff] at h;obtain ⟨a,ha,b,hb,he⟩:=h;cases he
 | block id a=>
   simp only [AK,Option.map_eq_some_iff] at h;obtain ⟨a,ha,he⟩:=h;cases he
 | loop a=>
   simp only [AK,Option.map_eq_some_iff] at h;obtain ⟨a,ha,he⟩:=h;cases he
 | _=>simp [AK] at h
theorem XF {nt:Nat} {c:Code} {ops:List PO} (h:AK nt c=some (.reg ops)):∃ id all,c= .region id (List.toArray all) false/\ops=all.map (IO all)/\F3 nt all=true:=by
 cases c with
 | seq x y=>
   simp only [AK,Option.bind_eq_some_iff,Option.map_eq_some_iff] at h;obtain ⟨a,ha,b,hb,he⟩:=h;cases he
 | region id ops draw=>
   simp only [AK,M8] at h;split at h
   . split at h
     . simp only [Option.some.injEq] at h
       split at h<;>cases h
     . cases h
   . rename_i hd
     split at h
     . rename_i hds
       simp only [Option.some.injEq,PC.reg.injEq] at h;refine ⟨id,ops.toList,?_,h.symm,hds⟩;cases draw
       . simp
       . exact absurd rfl hd
     . cases h
 | cond c a b=>
   simp only [AK,Option.bind_eq_some_iff,Option.map_eq_some_iff] at h;obtain ⟨a,ha,b,hb,he⟩:=h;cases he
 | rangeFunc f ps a b=>
   simp only [AK,Option.bind_eq_some_iff,Option.map_eq_some_iff] at h;obtain ⟨a,ha,b,hb,he⟩:=h;cases he
 | block id a=>
   simp only [AK,Option.map_eq_some_iff] at h;obtain ⟨a,ha,he⟩:=h;cases he
 | loop a=>
   simp only [AK,Option.map_eq_some_iff] at h;obtain ⟨a,ha,he⟩:=h;cases he
 | _=>simp [AK] at h
def dwQ (P:Program) (Γ:Tys) (E:Ent) (fn:Func) (r:V) (H1:List (Nat × List V)) (pb:PC):Av->St->Prop
 | .normal,st=>DW P E fn r H1 pb st
 | .ret,st=>Dc Γ fn [] r H1 st
 | _,_=>False
theorem DW.seq (hΓ:GOk P Γ) (hE:EB P eqs) (hm:P.follows .mixedOrders=true) {fn:Func} {r:V} {H1:List (Nat × List V)} {pa pb:PC} {st:St} (h:PW P Γ eqs E pa (dwQ P Γ E fn r H1 pb) st):DW P E fn r H1 (.seq pa pb) st:=by
 intro hri c hc G0 W0 hB G a W hI;obtain ⟨x,y,rfl,hx,hy⟩:=OI hc;have hF:E.F=Fence.wide:=by unfold Ent.F;rw [hB.rd];rfl
 have h1:=PW.sound hΓ hE hm x pa hx _ _ h G a W hI;rw [hF] at h1;refine wpIn_seq (wpIn_mono h1 fun e a' W' ⟨z,st',G',hI',hz,ho,hq⟩=>?_);have hbase:E.W0=W0/\E.Im0=G0.Im/\(∀ b,E.mu b↔Bm G0 noH b)/\∀ i,i∈([]:List Nat)->E.stab i/\E.β0 i=G0.β i/\E.bs0 i=G0.bs i/\E.lo0 i=G0.lo i:=⟨hB.w,hB.im,hB.mu,fun _ h=>by cases h⟩
 cases z with
 | normal=>
   cases e<;>first | exact hq hri y hy G0 W0 hB G' a' W' hI' | exact False.elim hz
 | ret=>
   cases e with
   | ret=>
     show LeavesInM Fence.wide 0 P fn a'.tmps (KO G0 W0 r H1) a'.defers .returning W'
     obtain ⟨ds,hd,hmk⟩:=hI'.df;rw [hmk.nm hB.nm,hB.dx] at hd;rw [hd];obtain ⟨ρ,v,hv,hr,h4,h5,h6⟩:=H6 hΓ hI' hq;exact ⟨v,hv,_,GK (res:= .ret r) hbase hri hI' h4 h5 h6 (e:= .returned v) hr⟩
   | _=>exact False.elim hz
 | _=>exact hq.elim
def Cn (P:Program) (g:FuncId) (ids:List (Nat × Nat)) (m:Option V) (K:St->Prop) (st:St):Prop:=
 (∀ p∈ids,(st.H p.1).isSome=true)/\∃ args Hin ks H1c,CmD P g args Hin ks m H1c/\IB st.H (ids.map fun p=> .lp p.1 p.2) args Hin ks (.ret (.tup [])) H1c/\K ⟨st.fr,BI st.H st.nx Hin ks H1c,st.nx⟩
def XG (P:Program) (Γ:Tys) (fn:Func) (r:V) (H1:List (Nat × List V)) (g:FuncId) (ids:List (Nat × Nat)):Av->St->Prop
 | .normal,st | .ret,st=>Cn P g ids none (Dc Γ fn [] r H1) st
 | .pan v,st=>∃ D,v= .d D/\Cn P g ids (some v) (Dc Γ fn [] r H1) st
 | _,_=>False
theorem JY (hΓ:GOk P Γ) {fn:Func} {r:V} {H1:List (Nat × List V)} {g:FuncId} {ids:List (Nat × Nat)} {cv:Array Value} (hri:LD r H1) {G0:Gh} {W0:World} {E:Ent} (hbase:E.W0=W0/\E.Im0=G0.Im/\(∀ b,E.mu b↔Bm G0 noH b)/\∀ i,i∈([]:List Nat)->E.stab i/\E.β0 i=G0.β i/\E.bs0 i=G0.bs i/\E.lo0 i=G0.lo i)
   (hcv:AJ (fun (p:Nat × Nat) x=>E.stab p.1/\E.lo0 p.1=false/\x= .pointer (some ⟨E.β0 p.1,p.2,none⟩)) ids cv.toList) {st:St} {G:Gh} {a:Act} {W:World} (hI:Inv E (· < st.nx) G st a W) {m:Option V} (hm:∀ v,m=some v->∃ D,v= .d D) {u:FrameMode} (hu0:u≠ .run) (hu:RL G W m u) (h:Cn P g ids m (Dc Γ fn [] r H1) st):
   LeavesInM Fence.wide 0 P fn a.tmps (KO G0 W0 r H1) [{target:= .fn (.func g) cv,args:= #[]}] u W:=by
 obtain ⟨hlive,args,Hin,ks,H1c,⟨⟨f',hfn',hbody,hname⟩,hcm⟩,hcb,hK⟩:=h;have h1:f'.name≠ "runtime.NumGoroutine" :=by simpa using hname
 have h2:f'.body.isNone=false:=by cases h:f'.body<;>simp_all
 have hrel:AJ (RV G W) (ids.map fun p=>V.lp p.1 p.2) cv.toList:=AJ.map_left.2 (AJ.of_get hcv.length fun i p x hp hx=>by
   obtain ⟨y,hy,q1,q2,q3⟩:=hcv.get hp;rw [hx] at hy;cases hy;have hs:=hI.stab p.1 q1 (hlive p (List.mem_of_getElem? hp));refine ⟨⟨hs.2.2.1,hs.2.2.2.trans q2⟩,?_⟩;rw [q3,hs.1])
 obtain ⟨Im,hIm,hall,hpre,hph,hcs⟩:=GR hI hrel hcb;obtain ⟨hin,hlt,hkk,_⟩:=hcb
 have hle:∀ b,G.Im b->Im b:=fun b hb=>by
   rcases hcs with h | ⟨h,_⟩
   . exact (h b).2 hb
   . exact (h b).2 (.inl hb)
 have hmode:RL {G with Im:=Im} W m u:=by
   cases m with
   | none=>exact hu
   | some v=>
     obtain ⟨x,hx,hr⟩:=hu;obtain ⟨D,rfl⟩:=hm v rfl;exact ⟨x,hx,RD.mono (show RD G.Im W D x from hr) fun b hb=>⟨hle b hb,rfl⟩⟩
 refine ⟨hu0, .inr ⟨by simp [Fence.wide], .func g,cv,g,cv,rfl,?_,fun _ _=>trivial,?_⟩⟩
 . simp only [invoke,callFunc,Sem.run_bind,run_program,Result.andThen_ok,hfn']
   simp [h1,h2]
 . refine (hcm {G with Im:=Im} W cv u hIm hall hpre hmode).mono fun e u' W' ⟨hs,⟨v,hv⟩,G',hpost⟩=>?_
   subst hv
   show LeavesInM Fence.wide 0 P fn a.tmps (KO G0 W0 r H1) [] (settle u') W'
   rw [hs];obtain ⟨G'',hI',hrv,hav,_⟩:=hI.call (base:=st.nx) (U':=(· < st.nx+1048576)) (fun j _=>by omega) (fun i hi=>by omega) (fun j hj=>by omega) hin hlt (fun i hi=>(hpre.st i hi).1) hph hpost hcs;obtain ⟨ρ,v',hv',hr,h4,h5,h6⟩:=H6 hΓ hI' hK;exact ⟨v',hv',_,GK (res:= .ret r) hbase hri hI' h4 h5 h6 (e:= .returned v') hr⟩
theorem DW.defer (hΓ:GOk P Γ) (hE:EB P eqs) (hm:P.follows .mixedOrders=true) {fn:Func} {r:V} {H1:List (Nat × List V)} {pb:PC} {t:Nat} {g:FuncId} {caps:Array Operand} {cl:Call} {st:St} (ids:List (Nat × Nat)) (hcal:cl.callee= .value (.tmp t)) (hcl:cl.args= #[])
   (hcaps:BX st.fr caps.toList=ids.map fun p=> .lp p.1 p.2) (_:∀ i,¬ E.stab i)
   (h:∀ E':Ent,E'.nt=E.nt->(∀ i,E'.stab i↔i∈ids.map Prod.fst)->E'.rq->PW P Γ eqs E' pb (XG P Γ fn r H1 g ids) ⟨Am st.fr (some t) (.cl g (ids.map fun p=> .lp p.1 p.2)),st.H,st.nx+2097152⟩):
   DW P E fn r H1 (.seq (.reg [⟨some t, .makeFunc (.func g) #[] caps,none⟩,⟨none, .defer cl,none⟩]) pb) st:=by
 intro hri c hc G0 W0 hB G a W hI;obtain ⟨x,y,rfl,hx,hy⟩:=OI hc;obtain ⟨id,all,rfl,hops,hds⟩:=XF hx;obtain ⟨o1,o2,rfl⟩:=jh (l:=all) (by have:=congrArg List.length hops;simpa using this.symm);simp only [List.map_cons,List.map_nil,List.cons.injEq,IO,PO.mk.injEq,and_true] at hops;obtain ⟨⟨p1,p2,p3⟩,q1,q2,q3⟩:=hops;have g1:o1.guard=none:=by cases h:o1.guard with | none=>rfl | some z=>rw [h] at p3;cases p3
 have g2:o2.guard=none:=by cases h:o2.guard with | none=>rfl | some z=>rw [h] at q3;cases q3
 have hF:E.F=Fence.wide:=by unfold Ent.F;rw [hB.rd];rfl
 refine wpIn_seq (wpIn_region_lit ?_);have w1:Region.wanted o1 (yielded [o1,o2].toArray a.tmps)=true:=by simp [Region.wanted,g1]
 have w2:∀ T,Region.wanted o2 (yielded [o1,o2].toArray T)=true:=fun T=>by simp [Region.wanted,g2]
 simp only [wpListIn,w1,if_true]
 have hlt:t<E.nt:=by
   have:=List.all_eq_true.1 hds o1 (by simp);rw [<-p1] at this;simpa using this
 have hev:A9 Γ eqs st.H st.nx st.fr o1.op=some (.cl g (ids.map fun p=> .lp p.1 p.2), .none):=by
   rw [<-p2];simp only [A9,hcaps,G8];simp [V.cap]
 have hs:=E4 (U':=(· < st.nx+2097152)) hΓ hE hI (o:=o1) (b:=st.nx) (fun j _=>by omega) (fun i hi=>by omega) (fun j hj=>by omega) (fun d hd=>by rw [<-p1] at hd;cases hd;exact hlt) (.plain _ _ hev)
   (K:=fun a' W'=>wpListIn Fence.wide 0 P [o1,o2].toArray (Exit.then (y.wpIn Fence.wide 0 P (bodyPostM Fence.wide 0 P fn (KO G0 W0 r H1))) (bodyPostM Fence.wide 0 P fn (KO G0 W0 r H1))) [o2] a' W')
   (Q:=Exit.then (y.wpIn Fence.wide 0 P (bodyPostM Fence.wide 0 P fn (KO G0 W0 r H1))) (bodyPostM Fence.wide 0 P fn (KO G0 W0 r H1))) fun G' a' W' hI'=>by
     simp only [wpListIn,w2,if_true];refine ⟨fun _ _=>trivial,?_⟩;have hfr:=hI'.fr t;have hwf:=hI'.wf t;have e0:Am st.fr o1.dst (.cl g (ids.map fun p=> .lp p.1 p.2)) t= .cl g (ids.map fun p=> .lp p.1 p.2):=by rw [<-p1];simp [Am,upd]
     simp only [e0] at hfr hwf;obtain ⟨cv,hx,hcr⟩:=hfr;have hwf':∀ c∈(ids.map fun p=>V.lp p.1 p.2),A0 (· < st.nx+2097152) AR c:=hwf
     have hev2:a'.eval (.tmp t)= .func (.func g) #[] cv:=by
       simpa [Act.eval] using hx
     have hrun:(o2.semAt Fence.wide.round a'.eval).run P W'= .ok (.defer {target:= .fn (.func g) cv,args:= #[]}) W':=by
       have:Fence.wide.round=none:=rfl;rw [this,Oper.semAt_none];simp [execOp,<-q2,resolve,hcal,hcl,hev2,Deferred.ofValue]
     rw [hrun];simp only [Oper.uponIn,<-q1];have hI0:=hI';rw [<-p1] at hI0
     have hlp:∀ i,i∈ids.map Prod.fst->(G'.ph i=false/\G'.lo i=false)/\i<st.nx+2097152:=fun i hi=>by
       obtain ⟨p,hp,rfl⟩:=List.mem_map.1 hi;obtain ⟨k,hk⟩:=List.getElem?_of_mem hp;obtain ⟨z,hz,hr⟩:=(AJ.map_left.1 hcr).get hk;exact ⟨hr.1,hwf' _ (List.mem_map.2 ⟨p,hp,rfl⟩)⟩
     let E':Ent:={E with dx:=[{target:= .fn (.func g) cv,args:= #[]}],nm:=false,stab:=fun i=>i∈ids.map Prod.fst,β0:=G'.β,bs0:=G'.bs,lo0:=G'.lo}
     have hdf:a'.defers=[]:=by
       obtain ⟨ds,hd,hmk⟩:=hI'.df;rw [hmk.nm hB.nm,hB.dx] at hd;exact hd
     have hI2:Inv E' (· < st.nx+2097152) G' ⟨Am st.fr (some t) (.cl g (ids.map fun p=> .lp p.1 p.2)),st.H,st.nx+2097152⟩ {a' with defers:=[{target:= .fn (.func g) cv,args:= #[]}]} W':=
       ⟨hI0.fr,hI0.wf,hI0.hp,hI0.wh,hI0.dom,hI0.inj,hI0.own,hI0.im,hI0.im0,⟨hI0.keep.os,hI0.keep.tape,hI0.keep.output,hI0.keep.drawn,hI0.keep.size,hI0.keep.block⟩,fun i hi _=>⟨rfl,rfl,(hlp i hi).1.1,rfl⟩,fun i hi=>(hlp i hi).2,hI0.nt,[],rfl,List.nodup_nil,fun _ h=>(nomatch h),fun _=>rfl⟩
     have hF':E'.F=Fence.wide:=by show ({Fence.wide with round:=E.rd}:Fence)=_;rw [hB.rd];rfl
     have hsnd:=PW.sound (E:=E') hΓ hE hm y pb hy _ _ (h E' rfl (fun _=>Iff.rfl) ⟨hB.rd,rfl⟩) G' _ W' hI2;rw [hF'] at hsnd;rw [hdf]
     show y.wpIn Fence.wide 0 P (bodyPostM Fence.wide 0 P fn (KO G0 W0 r H1)) {a' with defers:=[{target:= .fn (.func g) cv,args:= #[]}]} W'
     have hbase:E'.W0=W0/\E'.Im0=G0.Im/\(∀ b,E'.mu b↔Bm G0 noH b)/\∀ i,i∈([]:List Nat)->E'.stab i/\E'.β0 i=G0.β i/\E'.bs0 i=G0.bs i/\E'.lo0 i=G0.lo i:=⟨hB.w,hB.im,hB.mu,fun _ h=>by cases h⟩
     have hcv:AJ (fun (p:Nat × Nat) x=>E'.stab p.1/\E'.lo0 p.1=false/\x= .pointer (some ⟨E'.β0 p.1,p.2,none⟩)) ids cv.toList:=
       AJ.of_get (by have:=hcr.length;simpa using this) fun i p x hp hx=>by
         obtain ⟨z,hz,hr⟩:=(AJ.map_left.1 hcr).get hp;rw [hx] at hz;cases hz;exact ⟨List.mem_map.2 ⟨p,List.mem_of_getElem? hp,rfl⟩,hr.1.2,hr.2⟩
     refine wpIn_mono hsnd fun e a3 W3 ⟨z,st3,G3,hI3,hz,ho,hq⟩=>?_
     obtain ⟨ds,hd,_⟩:=hI3.df
     have fin:Cn P g ids none (Dc Γ fn [] r H1) st3->LeavesInM Fence.wide 0 P fn a3.tmps (KO G0 W0 r H1) a3.defers .returning W3:=fun hq=>by
       rw [hd];refine DI (u:= .returning) nofun ds a3 W3 rfl hd hI3 (W0:=W3) (fun _ _=>rfl) fun a4 W4 ht hI4 _=>?_
       rw [<-ht];exact JY hΓ hri hbase hcv hI4 (m:=none) nofun nofun rfl hq
     cases z with
     | normal=>cases e<;>first | exact fin hq | exact False.elim hz
     | ret=>cases e<;>first | exact fin hq | exact False.elim hz
     | exit _=>exact hq.elim
     | goto _=>exact hq.elim
     | pan v=>
       cases e with
       | panic ch=>
         obtain ⟨D,rfl,hq⟩:=hq;obtain ⟨x,hx,hrx⟩:=hz
         show LeavesInM Fence.wide 0 P fn a3.tmps (KO G0 W0 r H1) a3.defers (.panicking ch) W3
         rw [hd];refine DI (u:= .panicking ch) nofun ds a3 W3 rfl hd hI3 (W0:=W3) (fun _ _=>rfl) fun a4 W4 ht hI4 hW4=>?_
         rw [<-ht];refine JY hΓ hri hbase hcv hI4 (m:=some (.d D)) (fun v hv=>⟨D,by cases hv;rfl⟩) nofun ⟨x,by rw [hx],?_⟩ hq;exact RD.mono (show RD G3.Im W3 D x from hrx) fun b hb=>⟨hb,hW4 b hb⟩
       | _=>exact False.elim hz
 rw [hF] at hs;exact hs
theorem Ct.byD (_:GOk P Γ) {f:FuncId} {fn:Func} {p:PC} {args:List V} {r:V} {H1:List (Nat × List V)} (hf:P.funcs[f]?= some fn) (hc:fn.body.bind (AK fn.ntmps)=some p) (hname:(fn.name == "runtime.NumGoroutine")=false)
   (hn:args.length<=fn.ntmps) (hcl:∀ v∈args,I8 v) (hri:LD r H1) (h:∀ E:Ent,(∀ i,¬ E.stab i)->E.nt=fn.ntmps->DW P E fn r H1 p ⟨Dn 0 args,fun _=>none,0⟩):Ct P f args r H1:=by
 cases hb:fn.body with
 | none=>rw [hb] at hc;cases hc
 | some c=>
   rw [hb] at hc;refine ⟨⟨fn,hf,by rw [hb];rfl,hname⟩,fun G W xs hGW hargs hpre=>?_⟩;have hcl':∀ v∈args,A2 (· < 0) AR v:=fun v hv=>A2.mono (fun _ h=>h.elim) (fun _ h=>h) (hcl v hv)
   obtain ⟨hfr,hwf⟩:=ML (fn:=fn) hcl' hargs;have hl:args.length=xs.size:=by have:=hargs.length;simpa using this
   have hI:=Inv.startN (N:=0) (nt:=fn.ntmps) (rd:=none) (nm:=true) hGW hpre nofun nofun (tmps:=xs++Array.replicate (fn.ntmps-xs.size) undef) hfr hwf (by simp;omega);rw [<-callsIn_wide (n:=0)];refine callsIn_of_wp_marks hf hb trivial ?_;exact h {W0:=W,Im0:=G.Im,mu:=Bm G noH,β0:=G.β,bs0:=G.bs,lo0:=G.lo,stab:=(·∈([]:List Nat)),nt:=fn.ntmps,rd:=none,nm:=true} (fun i hi=>by cases hi) rfl hri c hc G W ⟨rfl,rfl,fun _=>Iff.rfl,rfl,rfl,rfl⟩ G _ W hI
end Go.Psl
namespace Go.Psl
variable {P:Program} {Γ:Tys} {eqs:Eqs} {K:RK} {Kx:V->RK} {b n:Nat} {r:List PO} {f:Nat->V} {H:Hp} {dst:Option Nat}
def mF (Kx:V->RK) (f:Nat->V) (H:Hp) (n:Nat):V->Prop
 | .d (.ifc t ag cs)=>Kx (.d (.ifc t ag cs)) f H n
 | _=>False
theorem ABb {t:TypeId} {ag:Bool} {cs:List D}:mF Kx f H n (.d (.ifc t ag cs))=Kx (.d (.ifc t ag cs)) f H n:=AF rfl
theorem mG {x:Operand}:rr P Γ eqs Kx K b (⟨dst, .panic x,none⟩::r) f H=mF Kx f H (b+1048576) (evF f x):=by
 simp only [rr,H8,PO.run,gV2,Fa,A9,true_and];unfold mF;split
 . rename_i t ag cs h;rw [h];simp
 . rename_i h
   simp only [eq_iff_iff,iff_false,not_and]
   rintro ⟨t,ag,cs,e⟩
   exact absurd e (h t ag cs)
attribute [simp] mG ABb jH
end Go.Psl
namespace Go.Proofs.Tryz
open Go.Psl
open Go.Air
abbrev plB (p:Plt) (c:V):List V:=[c,vi p.bt,vi p.ih,vi p.ia,vi p.vh,vi p.va,vi p.lh,vi p.la,vi p.ph,vi p.pa]
abbrev Fm (e:Int):V:= .d (.ifc 277 true [di e])
theorem Nr:∀ x:Cel,(AP x).length=7:=fun _=>rfl
theorem BP (e:Int):Ct prog 204 [vb true,vi e] (.tup []) []:=by
 refine CB func204 qd fun E hE=>?_
 simp [p204];apply RZ;simp [results204]
theorem Xt (e:Int):Cm prog 204 [vb false,vi e] (lk []) [] (.pan (Fm e)) (lk []):=by
 refine CM 0 func204 qd fun E hs hE=>?_
 simp [p204,AA];refine ⟨fun _=>none,?_,?_,?_,?_⟩<;>simp
theorem dF (a b c d:Int) (h:(-2000000000000<=a/\a<=2000000000000)/\(-2000000000000<=b/\b<=2000000000000)/\(-2000000000000<=c/\c<=2000000000000)/\ -2000000000000<=d/\d<=2000000000000):Ct prog 115 [vsp a b,vsp c d] (vsp (a+c) (b+d)) []:=by
 have w1:IntKind.wrap .i64 (a+c)=a+c:=AD (by omega) (by omega);have w2:IntKind.wrap .i64 (b+d)=b+d:=AD (by omega) (by omega);refine CB func115 qO fun E hE=>?_
 simp [p115,AA,w1,w2];apply RZ;simp [results115]
def inA (n:Nat) (a:Act):Bool:=rgB 0 ((n:Int)-1) [a.c]&&rgB 1 10000000 [a.n]
theorem EQ {n:Nat} {a:Act}:inA n a=true↔(0<=a.c/\a.c<n)/\1<=a.n/\a.n<=10000000:=by
 unfold inA rgB;simp;omega
theorem Iz (p:Plt) (cs:List Cel) (a:Act) (hl:cs.length<=1000000) (hin:inA cs.length a=true):Cm prog 259 [.lp 0 0,BZ a] (lk [(0,plB p (.ls 1 0 cs.length 7)),(1,AH AP cs)]) [0,1] (.ret (.lp 1 (a.c.toNat*7))) (lk [(0,plB p (.ls 1 0 cs.length 7)),(1,AH AP cs)]):=by
 have h1:=EQ.1 hin;obtain ⟨i,hi⟩:∃ i:Nat,a.c=i:=⟨a.c.toNat,by omega⟩
 have c1:=Bq 0 ((cs.length:Int)-1) [a.c] (by simp);have c2:=Bq 1 10000000 [a.n] (by simp);have c3:=BP 2;unfold inA at hin;simp only [Bool.and_eq_true] at hin;rw [hin.1] at c1;rw [hin.2] at c2;rw [hi] at c1 h1 ⊢;have hI:(i:Int)<cs.length:=by omega
 have hil:i<cs.length:=by omega
 have w:IntKind.wrap .i64 ((cs.length:Int)-1)=(cs.length:Int)-1:=AD (by omega) (by omega);have hsl:=Aw Nr cs;refine CM 2 func259 AGE fun E hs hE=>?_
 simp [p259,AA,AM,inC,Nat.testBit,hi,w]
 repeat ((first | (refine CLt c1 ?_ ?_;focus (simp [AG];done)) | (refine CLt c2 ?_ ?_;focus (simp [AG];done)) | (refine CLt c3 ?_ ?_;focus (simp;done)));simp [AA,AM,inC,Nat.testBit,hI])
 refine AB.by (lk [(0,0),(1,1)]) ?_;simp [results259]
theorem UB (p:Plt) (cs:List Cel) (a:Act) (hl:cs.length<=1000000) (hin:inA cs.length a=false):Cm prog 259 [.lp 0 0,BZ a] (lk [(0,plB p (.ls 1 0 cs.length 7)),(1,AH AP cs)]) [0,1] (.pan (Fm 2)) (lk [(0,plB p (.ls 1 0 cs.length 7)),(1,AH AP cs)]):=by
 have c1:=Bq 0 ((cs.length:Int)-1) [a.c] (by simp);have c2:=Bq 1 10000000 [a.n] (by simp);have c3:=Xt 2;have w:IntKind.wrap .i64 ((cs.length:Int)-1)=(cs.length:Int)-1:=AD (by omega) (by omega);unfold inA at hin
 generalize rgB 0 ((cs.length:Int)-1) [a.c]=b1 at*
 generalize rgB 1 10000000 [a.n]=b2 at*
 cases b1
 . refine CM 2 func259 AGE fun E hs hE=>?_
   simp [p259,AA,AM,inC,Nat.testBit,w]
   repeat ((first | (refine CLt c1 ?_ ?_;focus (simp [AG];done)) | (refine CLt c2 ?_ ?_;focus (simp [AG];done)));simp)
   refine CRs c3 (by simp) ?_;refine ⟨lk [(0,0),(1,1)],?_,?_,?_,?_⟩<;>simp
 . cases b2
   . refine CM 2 func259 AGE fun E hs hE=>?_
     simp [p259,AA,AM,inC,Nat.testBit,w]
     repeat ((first | (refine CLt c1 ?_ ?_;focus (simp [AG];done)) | (refine CLt c2 ?_ ?_;focus (simp [AG];done)));simp [AA,AM])
     refine CRs c3 (by simp) ?_;refine ⟨lk [(0,0),(1,1)],?_,?_,?_,?_⟩<;>simp
   . simp at hin
theorem dG (p:Plt) (a:Act):Cm prog 259 [.lp 0 0,BZ a] (lk [(0,plB p (.ls 1 0 0 7))]) [] (.pan (Fm 2)) (lk []):=by
 have c1:=Bq 0 (-1) [a.c] (by simp);have c3:=Xt 2;have e:rgB 0 (-1) [a.c]=false:=by unfold rgB;simp;omega
 have w:IntKind.wrap .i64 (-1)= -1:=by decide
 rw [e] at c1;refine CM 2 func259 AGE fun E hs hE=>?_
 simp [p259,AA,AM,inC,Nat.testBit,w]
 repeat ((first | (refine CLt c1 ?_ ?_;focus (simp [AG];done)));simp)
 refine CRs c3 (by simp) ?_;refine ⟨fun _=>none,?_,?_,?_,?_⟩<;>simp
def BQ (c:Cel) (n:Int):Int:=n*c.he/(c.he+c.ai)
def I0 (c:Cel) (n:Int):Cel:={c with he:=c.he-BQ c n,ai:=c.ai-(n-BQ c n)}
theorem KE {c:Cel} {n:Int} (h1:0<=c.he) (h2:0<=c.ai) (h3:0<=n) (h4:n<=c.he+c.ai):0<=BQ c n/\BQ c n<=c.he/\BQ c n<=n/\n-BQ c n<=c.ai:=by
 unfold BQ;by_cases h0:c.he+c.ai=0
 . have:n=0:=by omega
   subst this;simp;omega
 have hp:0<c.he+c.ai:=by omega
 have e1:0<=n*c.he:=Int.mul_nonneg h3 h1;have e2:n*c.he<=(c.he+c.ai)*c.he:=Int.mul_le_mul_of_nonneg_right h4 h1;have e3:n*c.he<=n*(c.he+c.ai):=Int.mul_le_mul_of_nonneg_left (by omega) h3;refine ⟨Int.ediv_nonneg e1 (by omega),?_,?_,?_⟩
 . have:=Int.ediv_le_ediv hp e2
   rwa [Int.mul_ediv_cancel_left _ h0] at this
 . have:=Int.ediv_le_ediv hp e3
   rwa [Int.mul_ediv_cancel _ h0] at this
 . have e4:(n-c.ai)*(c.he+c.ai)<=n*c.he:=by
     have a1:(n-c.ai)*(c.he+c.ai)=n*c.he+(n*c.ai-c.ai*(c.he+c.ai)):=by
       rw [Int.sub_mul,Int.mul_add];omega
     have a2:n*c.ai<=(c.he+c.ai)*c.ai:=Int.mul_le_mul_of_nonneg_right h4 h2;have a3:(c.he+c.ai)*c.ai=c.ai*(c.he+c.ai):=Int.mul_comm _ _;omega
   have:=(Int.le_ediv_iff_mul_le hp).2 e4;omega
theorem Sg (cs:List Cel) (i:Nat) (c:Cel) (n:Int) (hc:cs[i]?= some c) (hb:(0<=c.he/\c.he<=10000000)/\0<=c.ai/\c.ai<=10000000) (hn:1<=n/\n<=c.he+c.ai):Cm prog 260 [.lp 1 (i*7),vi n] (lk [(1,AH AP cs)]) [1] (.ret (vsp (BQ c n) (n-BQ c n))) (lk [(1,AH AP (cs.set i (I0 c n)))]):=by
 have q1:=hb.1;have q2:=hb.2;have hbd:=KE q1.1 q2.1 (by omega:0<=n) hn.2;have hz:¬ c.he+c.ai=0:=by omega
 have m1:0<=n*c.he:=Int.mul_nonneg (by omega) (by omega);have m2:n*c.he<=20000000*10000000:=Int.mul_le_mul (by omega) (by omega) (by omega) (by omega);have hd:(n*c.he).tdiv (c.he+c.ai)=BQ c n:=Int.tdiv_eq_ediv_of_nonneg m1;have w1:IntKind.wrap .i64 (c.he+c.ai)=c.he+c.ai:=AD (by omega) (by omega);have w2:IntKind.wrap .i64 (n*c.he)=n*c.he:=AD (by omega) (by omega);have w3:IntKind.wrap .i64 (BQ c n)=BQ c n:=AD (by omega) (by omega);have w4:IntKind.wrap .i64 (c.he-BQ c n)=c.he-BQ c n:=AD (by omega) (by omega);have w5:IntKind.wrap .i64 (n-BQ c n)=n-BQ c n:=AD (by omega) (by omega);have w6:IntKind.wrap .i64 (c.ai-(n-BQ c n))=c.ai-(n-BQ c n):=AD (by omega) (by omega);have g:c.he+c.ai>=n:=by omega
 have c3:=BP 6;have hil:=(List.getElem?_eq_some_iff.1 hc).1
 let c1:Cel:={c with he:=c.he-BQ c n}
 have hc1:(cs.set i c1)[i]?= some c1:=by simp [hil]
 have s0:i*7+1+1<=cs.length*7/\i*7+2+1<=cs.length*7:=by omega
 have hsl:=Aw Nr cs;have hsl1:=Aw Nr (cs.set i c1);have r1:(AH AP cs)[i*7+1]?= some (vi c.he):=Jg Nr hc rfl;have r2:(AH AP cs)[i*7+2]?= some (vi c.ai):=Jg Nr hc rfl;have t1:List.take 1 (List.drop (i*7+1) (AH AP cs))=[vi c.he]:=Bg Nr (j:=1) (k:=1) hc (by omega);have t2:List.take 1 (List.drop (i*7+2) (AH AP cs))=[vi c.ai]:=Bg Nr (j:=2) (k:=1) hc (by omega);have e1:AA (AH AP cs) (i*7+1) [vi (c.he-BQ c n)]=AH AP (cs.set i c1):=Cq Nr (vs:=[di (c.he-BQ c n)]) hc (by simp) rfl;have t3:List.take 1 (List.drop (i*7+2) (AH AP (cs.set i c1)))=[vi c.ai]:=Bg Nr (x:=c1) (j:=2) (k:=1) hc1 (by omega)
 have e2:AA (AH AP (cs.set i c1)) (i*7+2) [vi (c.ai-(n-BQ c n))]=AH AP (cs.set i (I0 c n)):=by
   have:=Cq Nr (y:=I0 c n) (j:=2) (vs:=[di (c.ai-(n-BQ c n))]) hc1 (by simp) rfl;rw [List.set_set] at this;exact this
 refine CM 2 func260 qe fun E hs hE=>?_
 simp [p260,inC,Nat.testBit,t1,t2,s0,hsl,w1,g];refine CLa c3 ?_;simp [inC,Nat.testBit,t1,t2,t3,e1,e2,s0,hsl,hsl1,w1,w2,w3,w4,w5,w6,hd,hz];refine AB.by (lk [(1,1)]) ?_;simp [results260,AA,Hp.app]
theorem dH (cs:List Cel) (i:Nat) (c:Cel) (n:Int) (hc:cs[i]?= some c) (hb:(0<=c.he/\c.he<=10000000)/\0<=c.ai/\c.ai<=10000000) (hn:c.he+c.ai<n):Cm prog 260 [.lp 1 (i*7),vi n] (lk [(1,AH AP cs)]) [1] (.pan (Fm 6)) (lk [(1,AH AP cs)]):=by
 have q1:=hb.1;have q2:=hb.2;have w1:IntKind.wrap .i64 (c.he+c.ai)=c.he+c.ai:=AD (by omega) (by omega);have g:¬ c.he+c.ai>=n:=by omega
 have g2:¬ n<=c.he+c.ai:=by omega
 have c3:=Xt 6;have hil:=(List.getElem?_eq_some_iff.1 hc).1;have s0:i*7+1+1<=cs.length*7/\i*7+2+1<=cs.length*7:=by omega
 have hsl:=Aw Nr cs;have t1:List.take 1 (List.drop (i*7+1) (AH AP cs))=[vi c.he]:=Bg Nr (j:=1) (k:=1) hc (by omega);have t2:List.take 1 (List.drop (i*7+2) (AH AP cs))=[vi c.ai]:=Bg Nr (j:=2) (k:=1) hc (by omega);refine CM 2 func260 qe fun E hs hE=>?_
 simp [p260,inC,Nat.testBit,t1,t2,s0,hsl,w1,g2];refine CRs c3 (by simp) ?_;refine ⟨lk [(1,1)],?_,?_,?_,?_⟩<;>simp
abbrev gd (x:Int):Prop:=0<=x/\x<=1000000000000
theorem BG {cs:List Cel} (h:cs≠[]):AH AP cs≠[]:=fun e=>by
 have:=congrArg List.length e;rw [Aw Nr] at this;cases cs with
 | nil=>exact h rfl
 | cons a r=>simp at this
theorem BB {l:List Cel} {p:Nat->Prop}:(∀ c,c∈AH AP l->AC p B9 c)=True:=eq_true (Ou fun x y hy=>by
 simp only [List.mem_cons,List.not_mem_nil,or_false] at hy;rcases hy with rfl | rfl | rfl | rfl | rfl | rfl | rfl<;>exact ⟨_,rfl⟩)
theorem aV (p:Plt) (cs:List Cel) (a:Act) (c:Cel) (hl:cs.length<=1000000) (hin:inA cs.length a=true) (hc:cs[a.c.toNat]?= some c) (hb:B5 c) (hn:a.n<=c.he+c.ai) (hv:gd p.vh) (hw:gd p.va):
   Cm prog 199 [.lp 0 0,BZ a] (lk [(0,plB p (.ls 1 0 cs.length 7)),(1,AH AP cs)]) [0,1] (.ret (.tup [])) (lk [(0,plB {p with vh:=p.vh+BQ c a.n,va:=p.va+(a.n-BQ c a.n)} (.ls 1 0 cs.length 7)),(1,AH AP (cs.set a.c.toNat (I0 c a.n)))]):=by
 have h1:=EQ.1 hin;have q1:=hb.he;have q2:=hb.ai;have hbd:=KE q1.1 q2.1 (by omega:0<=a.n) hn;have d1:=Iz p cs a hl hin;have d2:=Sg cs a.c.toNat c a.n hc ⟨hb.he,hb.ai⟩ ⟨h1.2.1,hn⟩;have d3:=dF p.vh p.va (BQ c a.n) (a.n-BQ c a.n) ⟨by omega,by omega,by omega,by omega⟩;have hne:cs≠[]:=fun e=>by rw [e] at hc;simp at hc
 have n1:=BG hne;refine CM 2 func199 AGD fun E hs hE=>?_
 simp [p199];refine AL [(11,1)] (by kernel_rfl) ?_;simp [inC,Nat.testBit];refine CDs d1 (by simp [wrL,inC,Nat.testBit,n1,BB]) ?_;simp [inC,Nat.testBit];refine CDs d2 (by simp [wrL,inC,Nat.testBit,n1,BB]) ?_;simp;refine CLa d3 ?_;simp [AA];refine AB.by (lk [(0,0),(1,1)]) ?_;simp [results199]
theorem Vw (p:Plt) (cs:List Cel) (a:Act) (hl:cs.length<=1000000) (hne:cs≠[]) (hin:inA cs.length a=false):Cm prog 199 [.lp 0 0,BZ a] (lk [(0,plB p (.ls 1 0 cs.length 7)),(1,AH AP cs)]) [] (.pan (Fm 2)) (lk []):=by
 have d1:=UB p cs a hl hin;have n1:=BG hne;refine CM 2 func199 AGD fun E hs hE=>?_
 simp [p199];refine AL [(11,1)] (by kernel_rfl) ?_;simp [inC,Nat.testBit];refine CDs d1 (by simp [inC,Nat.testBit,n1,BB]) ?_;simp;intro st;refine ⟨fun _=>none,?_,?_,?_,?_⟩<;>simp
theorem Vx (p:Plt) (cs:List Cel) (a:Act) (c:Cel) (hl:cs.length<=1000000) (hin:inA cs.length a=true) (hc:cs[a.c.toNat]?= some c) (hb:B5 c) (hn:c.he+c.ai<a.n):Cm prog 199 [.lp 0 0,BZ a] (lk [(0,plB p (.ls 1 0 cs.length 7)),(1,AH AP cs)]) [] (.pan (Fm 6)) (lk []):=by
 have d1:=Iz p cs a hl hin;have d2:=dH cs a.c.toNat c a.n hc ⟨hb.he,hb.ai⟩ hn;have hne:cs≠[]:=fun e=>by rw [e] at hc;simp at hc
 have n1:=BG hne;refine CM 2 func199 AGD fun E hs hE=>?_
 simp [p199];refine AL [(11,1)] (by kernel_rfl) ?_;simp [inC,Nat.testBit];refine CDs d1 (by simp [wrL,inC,Nat.testBit,n1,BB]) ?_;simp [inC,Nat.testBit];refine CDs d2 (by simp [inC,Nat.testBit,n1,BB]) ?_;simp;intro st;refine ⟨fun _=>none,?_,?_,?_,?_⟩<;>simp
theorem lf (a b p q:V):AA [a,b] 0 [p,q]=[p,q]:=rfl
def inT (n:Nat) (a:Act):Bool:=rgB 0 ((n:Int)-1) [a.t]&&!decide (a.t=a.c)
def gg (c:Cel) (h i:Int):Cel:={c with he:=c.he+h,ai:=c.ai+i}
theorem gi (p:Plt) (cs:List Cel) (a:Act) (c e:Cel) (hl:cs.length<=1000000) (hin:inA cs.length a=true) (hto:inT cs.length a=true) (hc:cs[a.c.toNat]?= some c) (he:cs[a.t.toNat]?= some e) (hb:B5 c) (hbe:B5 e) (hn:a.n<=c.he+c.ai):
   Cm prog 200 [.lp 0 0,BZ a] (lk [(0,plB p (.ls 1 0 cs.length 7)),(1,AH AP cs)]) [0,1] (.ret (.tup [])) (lk [(0,plB p (.ls 1 0 cs.length 7)),(1,AH AP ((cs.set a.c.toNat (I0 c a.n)).set a.t.toNat (gg e (BQ c a.n) (a.n-BQ c a.n))))]):=by
 have h1:=EQ.1 hin;have q1:=hb.he;have q2:=hb.ai;have q3:=hbe.he;have q4:=hbe.ai;have hbd:=KE q1.1 q2.1 (by omega:0<=a.n) hn;have d1:=Iz p cs a hl hin;have d2:=Bq 0 ((cs.length:Int)-1) [a.t] (by simp);have d3:=BP 2;have d4:=Sg cs a.c.toNat c a.n hc ⟨hb.he,hb.ai⟩ ⟨h1.2.1,hn⟩;unfold inT at hto;simp only [Bool.and_eq_true,Bool.not_eq_true',decide_eq_false_iff_not] at hto;rw [hto.1] at d2;have hT:0<=a.t/\a.t<cs.length:=by have:=hto.1;unfold rgB at this;simp at this;omega
 have hne:cs≠[]:=fun e=>by rw [e] at hc;simp at hc
 have n1:=BG hne;have w:IntKind.wrap .i64 ((cs.length:Int)-1)=(cs.length:Int)-1:=AD (by omega) (by omega);have hij:a.c.toNat≠a.t.toNat:=fun e=>hto.2 (by omega)
 obtain ⟨j,hj⟩:∃ j:Nat,a.t=j:=⟨a.t.toNat,by omega⟩
 have hjt:a.t.toNat=j:=by omega
 rw [hjt] at he hij ⊢;have hT2:(j:Int)<cs.length:=by omega
 have hjl:j<cs.length:=by omega
 have hil:=(List.getElem?_eq_some_iff.1 hc).1;obtain ⟨L,hL⟩:∃ L,cs.set a.c.toNat (I0 c a.n)=L:=⟨_,rfl⟩
 have hLl:L.length=cs.length:=by rw [<-hL];simp
 have heL:L[j]?= some e:=by rw [<-hL,List.getElem?_set_ne hij];exact he
 rw [hL] at d4 ⊢;obtain ⟨h,hh⟩:∃ h,BQ c a.n=h:=⟨_,rfl⟩
 rw [hh] at d4 hbd ⊢
 let e1:Cel:={e with he:=e.he+h}
 have he1:(L.set j e1)[j]?= some e1:=by simp [hLl,hjl]
 have hsl:=Aw Nr L;have hsl1:=Aw Nr (L.set j e1);have s0:j*7+1+1<=cs.length*7/\j*7+2+1<=cs.length*7:=by omega
 have t1:List.take 1 (List.drop (j*7+1) (AH AP L))=[vi e.he]:=Bg Nr (x:=e) (j:=1) (k:=1) heL (by omega);have t2:List.take 1 (List.drop (j*7+2) (AH AP (L.set j e1)))=[vi e.ai]:=Bg Nr (x:=e1) (j:=2) (k:=1) he1 (by omega);have x1:AA (AH AP L) (j*7+1) [vi (e.he+h)]=AH AP (L.set j e1):=Cq Nr (vs:=[di (e.he+h)]) heL (by simp) rfl
 have x2:AA (AH AP (L.set j e1)) (j*7+2) [vi (e.ai+(a.n-h))]=AH AP (L.set j (gg e h (a.n-h))):=by
   have:=Cq Nr (y:=gg e h (a.n-h)) (j:=2) (vs:=[di (e.ai+(a.n-h))]) he1 (by simp) rfl;rw [List.set_set] at this;exact this
 have w5:IntKind.wrap .i64 (e.he+h)=e.he+h:=AD (by omega) (by omega);have w6:IntKind.wrap .i64 (e.ai+(a.n-h))=e.ai+(a.n-h):=AD (by omega) (by omega);have hne2:¬ (j:Int)=a.c:=by rw [<-hj];exact hto.2
 rw [hj] at d2;refine CM 2 func200 WA fun E hs hE=>?_
 simp [p200];refine CRs d1 (by simp [n1,BB]) ?_;simp [AA,AM,inC,Nat.testBit,hj,w];refine CLb (d2) (by simp [AG,inC,Nat.testBit]) ?_;simp [inC,Nat.testBit,hne2];refine CLa d3 ?_;simp;refine AL [(3,1),(13,37748738)] (by kernel_rfl) ?_;simp [inC,Nat.testBit];refine CDs d4 (by simp [wrL,inC,Nat.testBit,n1,BB]) ?_;simp [inC,Nat.testBit,hT2,hjl,hLl,hsl,hsl1,s0,t1,t2,x1,x2,w5,w6,lf];refine AB.by (lk [(0,0),(1,1)]) ?_;simp [results200]
theorem an (p:Plt) (cs:List Cel) (a:Act) (hl:cs.length<=1000000) (hne:cs≠[]) (hin:inA cs.length a=false):Cm prog 200 [.lp 0 0,BZ a] (lk [(0,plB p (.ls 1 0 cs.length 7)),(1,AH AP cs)]) [] (.pan (Fm 2)) (lk []):=by
 have d1:=UB p cs a hl hin;have n1:=BG hne;refine CM 2 func200 WA fun E hs hE=>?_
 simp [p200];refine CRs d1 (by simp [n1,BB]) ?_;refine ⟨fun _=>none,?_,?_,?_,?_⟩<;>simp
theorem ap (p:Plt) (cs:List Cel) (a:Act) (hl:cs.length<=1000000) (hin:inA cs.length a=true) (hto:inT cs.length a=false):Cm prog 200 [.lp 0 0,BZ a] (lk [(0,plB p (.ls 1 0 cs.length 7)),(1,AH AP cs)]) [] (.pan (Fm 2)) (lk []):=by
 have h1:=EQ.1 hin;have d1:=Iz p cs a hl hin;have d2:=Bq 0 ((cs.length:Int)-1) [a.t] (by simp);have d3:=Xt 2;have hne:cs≠[]:=fun e=>by rw [e] at h1;simp at h1;omega
 have n1:=BG hne;have w:IntKind.wrap .i64 ((cs.length:Int)-1)=(cs.length:Int)-1:=AD (by omega) (by omega);unfold inT at hto;cases hr:rgB 0 ((cs.length:Int)-1) [a.t]
 . rw [hr] at d2
   refine CM 2 func200 WA fun E hs hE=>?_
   simp [p200];refine CRs d1 (by simp [n1,BB]) ?_;simp [AA,AM,inC,Nat.testBit,w];refine CLb (d2) (by simp [AG,inC,Nat.testBit]) ?_;simp;refine CRs d3 (by simp) ?_;refine ⟨fun _=>none,?_,?_,?_,?_⟩<;>simp
 . rw [hr] at d2 hto
   have e:a.t=a.c:=by simpa using hto
   refine CM 2 func200 WA fun E hs hE=>?_
   simp [p200];refine CRs d1 (by simp [n1,BB]) ?_;simp [AA,AM,inC,Nat.testBit,w];refine CLb (d2) (by simp [AG,inC,Nat.testBit]) ?_;simp [inC,Nat.testBit,e];refine CRs d3 (by simp) ?_;refine ⟨fun _=>none,?_,?_,?_,?_⟩<;>simp
theorem aq (p:Plt) (cs:List Cel) (a:Act) (c:Cel) (hl:cs.length<=1000000) (hin:inA cs.length a=true) (hto:inT cs.length a=true) (hc:cs[a.c.toNat]?= some c) (hb:B5 c) (hn:c.he+c.ai<a.n):Cm prog 200 [.lp 0 0,BZ a] (lk [(0,plB p (.ls 1 0 cs.length 7)),(1,AH AP cs)]) [] (.pan (Fm 6)) (lk []):=by
 have h1:=EQ.1 hin;have d1:=Iz p cs a hl hin;have d2:=Bq 0 ((cs.length:Int)-1) [a.t] (by simp);have d3:=BP 2;have d4:=dH cs a.c.toNat c a.n hc ⟨hb.he,hb.ai⟩ hn;unfold inT at hto;simp only [Bool.and_eq_true,Bool.not_eq_true',decide_eq_false_iff_not] at hto;rw [hto.1] at d2;have hT:0<=a.t/\a.t<cs.length:=by have:=hto.1;unfold rgB at this;simp at this;omega
 have hne:cs≠[]:=fun e=>by rw [e] at hc;simp at hc
 have n1:=BG hne;have w:IntKind.wrap .i64 ((cs.length:Int)-1)=(cs.length:Int)-1:=AD (by omega) (by omega);obtain ⟨j,hj⟩:∃ j:Nat,a.t=j:=⟨a.t.toNat,by omega⟩
 have hT2:(j:Int)<cs.length:=by omega
 have hjl:j<cs.length:=by omega
 have hne2:¬ (j:Int)=a.c:=by rw [<-hj];exact hto.2
 rw [hj] at d2;refine CM 2 func200 WA fun E hs hE=>?_
 simp [p200];refine CRs d1 (by simp [n1,BB]) ?_;simp [AA,AM,inC,Nat.testBit,hj,w];refine CLb (d2) (by simp [AG,inC,Nat.testBit]) ?_;simp [inC,Nat.testBit,hne2];refine CLa d3 ?_;simp;refine AL [(3,1),(13,37748738)] (by kernel_rfl) ?_;simp [inC,Nat.testBit];refine CDs d4 (by simp [inC,Nat.testBit,n1,BB]) ?_;simp [hjl];intro st;refine ⟨fun _=>none,?_,?_,?_,?_⟩<;>simp
theorem gj (p:Plt) (a:Act):Cm prog 199 [.lp 0 0,BZ a] (lk [(0,plB p (.ls 1 0 0 7))]) [] (.pan (Fm 2)) (lk []):=by
 have d1:=dG p a;refine CM 2 func199 AGD fun E hs hE=>?_
 simp [p199];refine AL [] (by kernel_rfl) ?_;simp [inC,Nat.testBit];refine CDs d1 (by simp [inC,Nat.testBit]) ?_;simp;intro st;refine ⟨fun _=>none,?_,?_,?_,?_⟩<;>simp
theorem ABp (p:Plt) (a:Act):Cm prog 200 [.lp 0 0,BZ a] (lk [(0,plB p (.ls 1 0 0 7))]) [] (.pan (Fm 2)) (lk []):=by
 have d1:=dG p a;refine CM 2 func200 WA fun E hs hE=>?_
 simp [p200];refine CRs d1 (by simp) ?_;refine ⟨fun _=>none,?_,?_,?_,?_⟩<;>simp
def tkS (c:Cel):Int:=c.ow+(c.he+c.ai)*c.lk
def tkN (c:Cel):Int:=tkS c/1000000
def tkC (c:Cel):Cel:={I0 c (tkN c) with ow:=tkS c%1000000}
def tkL (cs:List Cel) (i:Nat):List Cel:=(cs.take i).map tkC++cs.drop i
def tkH (cs:List Cel) (i:Nat):Int:=((cs.take i).map fun c=>BQ c (tkN c)).sum
def tkA (cs:List Cel) (i:Nat):Int:=((cs.take i).map fun c=>tkN c-BQ c (tkN c)).sum
theorem AF9 (cs:List Cel):tkL cs 0=cs:=by simp [tkL]
theorem iO (cs:List Cel):tkL cs cs.length=cs.map tkC:=by simp [tkL]
theorem iP (cs:List Cel) (i:Nat):(tkL cs i).length=cs.length:=by simp [tkL];omega
theorem mQ {cs:List Cel} {i:Nat} {c:Cel} (h:cs[i]?= some c):(tkL cs i)[i]?= some c:=by
 have hi:=(List.getElem?_eq_some_iff.1 h).1;unfold tkL;rw [List.getElem?_append_right (by simp;omega)];simp [Nat.min_eq_left (Nat.le_of_lt hi),h]
theorem cX {cs:List Cel} {i:Nat} {c:Cel} (h:cs[i]?= some c):tkL cs (i+1)=(tkL cs i).set i (tkC c):=by
 have hi:=(List.getElem?_eq_some_iff.1 h).1;have hc:cs[i]=c:=(List.getElem?_eq_some_iff.1 h).2;unfold tkL;rw [List.take_add_one,h,List.set_append_right _ _ (by simp;omega)];simp [Nat.min_eq_left (Nat.le_of_lt hi)];rw [List.drop_eq_getElem_cons hi];rfl
theorem Pz {cs:List Cel} {i:Nat} {c:Cel} (h:cs[i]?= some c):tkH cs (i+1)=tkH cs i+BQ c (tkN c):=by
 unfold tkH;rw [List.take_add_one,h];simp
theorem P2 {cs:List Cel} {i:Nat} {c:Cel} (h:cs[i]?= some c):tkA cs (i+1)=tkA cs i+(tkN c-BQ c (tkN c)):=by
 unfold tkA;rw [List.take_add_one,h];simp
theorem cY {c:Cel} (hb:B5 c):(0<=(c.he+c.ai)*c.lk/\(c.he+c.ai)*c.lk<=2000000000000)/\(0<=tkS c/\tkS c<=2000001000000)/\0<=tkN c/\tkN c<=c.he+c.ai:=by
 have q1:=hb.he;have q2:=hb.ai;have q3:=hb.lk;have q4:=hb.ow;have m1:0<=(c.he+c.ai)*c.lk:=Int.mul_nonneg (by omega) (by omega);have m2:(c.he+c.ai)*c.lk<=(c.he+c.ai)*100000:=Int.mul_le_mul_of_nonneg_left (by omega) (by omega);unfold tkN tkS;omega
theorem SY {c:Cel} (hb:B5 c):(0<=BQ c (tkN c)/\BQ c (tkN c)<=c.he)/\BQ c (tkN c)<=tkN c/\tkN c-BQ c (tkN c)<=c.ai:=by
 have h:=cY hb;have:=KE hb.he.1 hb.ai.1 h.2.2.1 h.2.2.2;omega
theorem SZ:∀ {cs:List Cel},(∀ c∈cs,B5 c)->∀ i:Nat,i<=cs.length->(0<=tkH cs i/\tkH cs i<=i*10000000)/\0<=tkA cs i/\tkA cs i<=i*10000000
 | cs,h,0,_=>by simp [tkH,tkA]
 | cs,h,i+1,hi=>by
   obtain ⟨c,hc⟩:∃ c,cs[i]?= some c:=⟨_,List.getElem?_eq_getElem (by omega)⟩
   have hb:=h c (List.mem_of_getElem? hc);have ih:=SZ h i (by omega);have:=SY hb;have q1:=hb.he;have q2:=hb.ai;rw [Pz hc,P2 hc];omega
def tkP (p:Plt) (cs:List Cel) (i:Nat):Plt:={p with lh:=p.lh+tkH cs i,la:=p.la+tkA cs i}
theorem iQ (p:Plt) (cs:List Cel) (a:Act) (hl:cs.length<=12) (hne:cs≠[]) (ha:a.n=1) (hb:∀ c∈cs,B5 c) (hv:gd p.lh) (hw:gd p.la):
   Cm prog 203 [.lp 0 0,BZ a] (lk [(0,plB p (.ls 1 0 cs.length 7)),(1,AH AP cs)]) [0,1] (.ret (.tup [])) (lk [(0,plB (tkP p cs cs.length) (.ls 1 0 cs.length 7)),(1,AH AP (cs.map tkC))]):=by
 have d1:=Bq 1 1000 [1] (by simp);have d2:=BP 2;rw [show rgB 1 1000 [1]=true from by decide] at d1;have n1:=BG hne;have z1:IntKind.wrap .i64 1=1:=by decide
 refine CM 2 func203 qc fun E hs hE=>?_
 simp [p203,AA,AM,ha]
 repeat ((first | (refine CLt d1 ?_ ?_;focus (simp [AG];done)) | (refine CLt d2 ?_ ?_;focus (simp;done)));simp)
 refine Al (α:=Nat) (fun k=>⟨AO [(0, .lp 0 0),(13,vi 1),(14,vi k)],lk [(0,plB (tkP p cs (if k=0 then 0 else cs.length)) (.ls 1 0 cs.length 7)),(1,AH AP (tkL cs (if k=0 then 0 else cs.length)))],2⟩) (fun k=>k<=1) (fun k=>1-k) 0 ?_ ?_ ?_
 . omega
 . simp only [if_true,AF9]
   refine AI.mkM hs (lk [(0,0),(1,1)]) _ _ _ ?_ ?_ ?_ ?_ ?_ ?_<;>simp [tkP,tkH,tkA]
 . intro k hk
   match k,hk with
   | 1,_=>
     simp [LG,iO];refine AB.by (lk [(0,0),(1,1)]) ?_;simp [results203]
   | n+2,h=>omega
   | 0,_=>
     simp [LG];refine Al (α:=Nat) (fun i=>⟨AO [(0, .lp 0 0),(13,vi 1),(14,vi 0),(21,vi cs.length),(22,vi i)],lk [(0,plB (tkP p cs i) (.ls 1 0 cs.length 7)),(1,AH AP (tkL cs i))],2⟩) (fun i=>i<=cs.length) (fun i=>cs.length-i) 0 ?_ ?_ ?_
     . omega
     . exact WKM hs (lk [(0,0),(1,1)])
     . intro i hi
       by_cases h:i<cs.length
       . obtain ⟨c,hc⟩:=gE h
         have hcb:=hb c (List.mem_of_getElem? hc);have hI:(i:Int)<cs.length:=by omega
         have hz:=@wz i (by omega);have b1:=cY hcb;have b2:=SY hcb;have b3:=SZ hb i hi;have q1:=hcb.he;have q2:=hcb.ai;have q3:=hcb.lk;have q4:=hcb.ow;have hLc:=mQ hc;have hLn:=cX hc;have hLl:=iP cs i;have hHn:=Pz hc;have hAn:=P2 hc
         generalize tkL cs i=L at*
         have w1:IntKind.wrap .i64 (c.he+c.ai)=c.he+c.ai:=AD (by omega) (by omega);have w2:IntKind.wrap .i64 ((c.he+c.ai)*c.lk)=(c.he+c.ai)*c.lk:=AD (by omega) (by omega);have w3:IntKind.wrap .i64 (c.ow+(c.he+c.ai)*c.lk)=tkS c:=AD (by unfold tkS at b1;omega) (by unfold tkS at b1;omega);have hd:(tkS c).tdiv 1000000=tkN c:=Int.tdiv_eq_ediv_of_nonneg (by omega);have w4:IntKind.wrap .i64 (tkN c)=tkN c:=AD (by omega) (by omega)
         let c1:Cel:={c with ow:=tkS c}
         have hc1:(L.set i c1)[i]?= some c1:=by simp [hLl,h]
         have hsl:=Aw Nr L;have hsl1:=Aw Nr (L.set i c1);have s0:(i*7+1+1<=cs.length*7/\i*7+2+1<=cs.length*7)/\i*7+5+1<=cs.length*7/\i*7+6+1<=cs.length*7:=by omega
         have t1:List.take 1 (List.drop (i*7+1) (AH AP L))=[vi c.he]:=Bg Nr (x:=c) (j:=1) (k:=1) hLc (by omega);have t2:List.take 1 (List.drop (i*7+2) (AH AP L))=[vi c.ai]:=Bg Nr (x:=c) (j:=2) (k:=1) hLc (by omega);have t5:List.take 1 (List.drop (i*7+5) (AH AP L))=[vi c.lk]:=Bg Nr (x:=c) (j:=5) (k:=1) hLc (by omega);have t6:List.take 1 (List.drop (i*7+6) (AH AP L))=[vi c.ow]:=Bg Nr (x:=c) (j:=6) (k:=1) hLc (by omega);have x1:AA (AH AP L) (i*7+6) [vi (tkS c)]=AH AP (L.set i c1):=Cq Nr (vs:=[di (tkS c)]) hLc (by simp) rfl;have t7:List.take 1 (List.drop (i*7+6) (AH AP (L.set i c1)))=[vi (tkS c)]:=Bg Nr (x:=c1) (j:=6) (k:=1) hc1 (by omega);simp [tE,hI,inC,Nat.testBit,hLl,hsl,hsl1,s0,t1,t2,t5,t6,t7,x1,w1,w2,w3,w4,hd];by_cases hp:0<tkN c
         . have d3:=Sg (L.set i c1) i c1 (tkN c) hc1 ⟨hcb.he,hcb.ai⟩ ⟨by omega,b1.2.2.2⟩
           have d4:=dF (p.lh+tkH cs i) (p.la+tkA cs i) (BQ c (tkN c)) (tkN c-BQ c (tkN c)) ⟨by omega,by omega,by omega,by omega⟩;rw [List.set_set] at d3;obtain ⟨L2,hL2⟩:∃ L2,L.set i (I0 c1 (tkN c))=L2:=⟨_,rfl⟩
           rw [hL2,show BQ c1 (tkN c)=BQ c (tkN c) from rfl] at d3;have hL2l:L2.length=cs.length:=by rw [<-hL2];simp [hLl]
           have hL2c:L2[i]?= some (I0 c1 (tkN c)):=by rw [<-hL2];simp [hLl,h]
           have hsl2:=Aw Nr L2;have t8:List.take 1 (List.drop (i*7+6) (AH AP L2))=[vi (tkS c)]:=Bg Nr (x:=I0 c1 (tkN c)) (j:=6) (k:=1) hL2c (by omega)
           have x2:AA (AH AP L2) (i*7+6) [vi (tkS c%1000000)]=AH AP (L.set i (tkC c)):=by
             have:=Cq Nr (y:=tkC c) (j:=6) (vs:=[di (tkS c%1000000)]) hL2c (by simp) rfl;rw [<-hL2,List.set_set,hL2] at this;exact this
           have hm:(tkS c).tmod 1000000=tkS c%1000000:=Int.tmod_eq_emod_of_nonneg (by omega);have w5:IntKind.wrap .i64 (tkS c%1000000)=tkS c%1000000:=AD (by omega) (by omega);have n2:AH AP (L.set i c1)≠[]:=BG (fun e=>by have:=congrArg List.length e;rw [List.length_set,hLl,List.length_nil] at this;omega);simp [hp];refine AL [(8,1)] (by kernel_rfl) ?_;simp [inC,Nat.testBit,tkP];refine CDs d3 (by simp [wrL,inC,Nat.testBit,n2,BB]) ?_;simp;refine CLa d4 ?_;simp [hL2l,hsl2,s0,t8,x2,hm,hz];refine ⟨i+1,by omega,by omega,?_⟩;rw [hLn,hHn,hAn];refine AI.mkM hs (lk [(0,0),(1,1)]) _ _ _ ?_ ?_ ?_ ?_ ?_ ?_<;>simp [AA,Int.add_assoc]
         . have hN:tkN c=0:=by omega
           have hS:tkS c%1000000=tkS c:=by unfold tkN at hN;omega
           have hO:BQ c 0=0:=by unfold BQ;simp
           have e:tkC c=c1:=by
             unfold tkC I0;rw [hN,hS,hO];simp [c1]
           simp [hp,hz,tkP];refine ⟨i+1,by omega,by omega,?_⟩;rw [hLn,hHn,hAn,e,hN,hO];exact WKM hs (lk [(0,0),(1,1)])
       . have ei:i=cs.length:=by omega
         have hI:¬ (i:Int)<cs.length:=by omega
         subst ei;simp [tE,z1];refine ⟨1,by omega,by omega,?_⟩;exact WKM hs (lk [(0,0),(1,1)])
theorem Ce (l:List Cel) (hl:l.length<=1000000):Ct prog 127 [.d (AX l)] (.ls 0 0 l.length 7) [(0,AH AP l)]:=by
 cases l with
 | nil=>
   refine CB func127 qQ fun E hE=>?_
   simp [p127];refine ⟨?_,?_⟩
   . apply RZ
     simp [results127,AH]
   . simp [AM,Am,Hp.app]
     refine AB.by (lk [(0,5242880)]) ?_;simp [results127,AH]
 | cons a r=>
   refine CB func127 qQ fun E hE=>?_
   have hmx:(r.length+1)*56<=140737488355328/\r.length+1<=9223372036854775807:=by simp at hl;omega
   have e:AX (a::r)= .sl 7 (AP a::r.map AP):=rfl;have ef:(r.map (List.map V.d ∘ AP)).flatten=AH AP r:=by simp [AH,List.map_flatten]
   have hcl:(∀ x∈AH AP r,x.isCell=true)=True:=eq_true BU;simp [p127,e,ef,hcl,AM,hmx];refine AB.by (lk [(0,5242880)]) ?_;simp [results127,CQ,hcl]
end Go.Proofs.Tryz
namespace Go.Psl
noncomputable def Y3:Option Code->Code | some (.seq _ r)=>r | _=> .skip
noncomputable def pE:Option Code->Nat | some (.seq (.region i _ _) _)=>i | _=>0
noncomputable def ij (k:Nat):Option Code->Oper | some (.seq (.region _ o _) _)=>(o[k]?).getD ⟨none, .move (.tmp 0),0, "",#[],none⟩ | _=>⟨none, .move (.tmp 0),0, "",#[],none⟩
theorem VW {P:Program} {Γ:Tys} {eqs:Eqs} {ws:List (Nat × Nat)} {cl:List Nat} {n0 k b:Nat} {Z:V->Prop} {K:(Nat->V)->Hp->Nat->Prop} {r:List PO} {f:Nat->V} {H:Hp} {dst:Option Nat} {s t:TypeId} {x:Operand}:dd P Γ eqs ws cl n0 Z K k b (⟨dst, .typeAssert x s t false,none⟩::r) f H=goD ws k dst b (dd P Γ eqs ws cl n0 Z K (k+1) (b+1048576) r) f H (Wf Γ t (evF f x)):=CE rfl
end Go.Psl
namespace Go.Proofs.Tryz
open Go.Psl
open Go.Air
noncomputable def ik:Oper:=(⟨_,by conv=>lhs;reduce⟩:Rd (ij 0 f196.body)).1
noncomputable def il:Oper:=(⟨_,by conv=>lhs;reduce⟩:Rd (ij 1 f196.body)).1
noncomputable def p196r:PC:=(⟨_,by conv=>lhs;reduce⟩:Rd (match AK f196.ntmps (Y3 f196.body) with | some p=>p | none=> .skip)).1
theorem pF:f196.body=some (.seq (.region (pE f196.body) #[ik,il] false) (Y3 f196.body)):=by kernel_rfl
theorem io:AK f196.ntmps (Y3 f196.body)=some p196r:=by kernel_rfl
theorem ip:∀ ρ W,(execOp ρ ik).run prog W= .ok .recover W:=fun _ _=>by kernel_rfl
theorem iq:∀ ρ W,(execOp ρ il).run prog W= .ok (.value (ρ (.tmp 3))) W:=fun _ _=>by kernel_rfl
theorem IT:CmD prog 196 [.lp 2097152 0, .lp 3145728 0] (lk []) [] none (lk []):=by
 refine CmD.by gok eok mixed 4194304 func196 pF rfl rfl rfl rfl rfl ip iq (by simp [ntmps196]) (by simp [ntmps196]) io (by simp [ntmps196]) (by simp) (by simp [NV]) (A7.at (by simp)) (by simp) (by simp [LD]) fun E hs=>?_
 simp [p196r,NV];apply RZ;simp [results196]
abbrev plZ:List V:=[.d (.lit (.slice none 0 0)),vi 0,vi 0,vi 0,vi 0,vi 0,vi 0,vi 0,vi 0,vi 0]
theorem Ds (e:Int):CmD prog 196 [.lp 2097152 0, .lp 3145728 0] (lk [(2097152,plZ),(3145728,[vi 0])]) [2097152,3145728] (some (Fm e)) (lk [(2097152,plZ),(3145728,[vi e])]):=by
 refine CmD.by gok eok mixed 4194304 func196 pF rfl rfl rfl rfl rfl ip iq (by simp [ntmps196]) (by simp [ntmps196]) io (by simp [ntmps196]) (by simp) (by simp [NV]) (A7.at (by simp)) (by simp) (by simp [LD]) fun E hs=>?_
 simp [p196r,NV];refine AL [(4,2097152)] (by kernel_rfl) ?_;simp [AA,inC,Nat.testBit,VW];refine AB.by (lk [(2097152,2097152),(3145728,3145728)]) ?_;simp [results196]
end Go.Proofs.Tryz
namespace Go.Psl
variable {P:Program} {Γ:Tys} {E:Ent} {fn:Func} {r:V} {H1:List (Nat × List V)} {pb:PC} {st:St}
theorem Ax:dwQ P Γ E fn r H1 pb .normal st=DW P E fn r H1 pb st:=AF rfl
theorem Iv {g:FuncId} {ids:List (Nat × Nat)}:XG P Γ fn r H1 g ids .ret st=Cn P g ids none (Dc Γ fn [] r H1) st:=AF rfl
theorem D9 {g:FuncId} {ids:List (Nat × Nat)} {D:D}:XG P Γ fn r H1 g ids (.pan (.d D)) st=Cn P g ids (some (.d D)) (Dc Γ fn [] r H1) st:=AF (by simp [XG])
theorem DW.defer2 {eqs:Eqs} (hΓ:GOk P Γ) (hE:EB P eqs) (hm:P.follows .mixedOrders=true) {t:Nat} {g:FuncId} {caps:Array Operand} {cl:Call} {f:Nat->V} {H:Hp} {n:Nat} (n':Nat) (ids:List (Nat × Nat)) (vs:List V) (hcal:cl.callee= .value (.tmp t)) (hcl:cl.args= #[]) (hvs:(ids.map fun p=> .lp p.1 p.2)=vs) (hn:n+2097152=n')
   (hcaps:BX f caps.toList=vs) (hst:∀ i,¬ E.stab i)
   (h:∀ E':Ent,PW P Γ eqs E' pb (XG P Γ fn r H1 g ids) ⟨Am f (some t) (.cl g vs),H,n'⟩):
   DW P E fn r H1 (.seq (.reg [⟨some t, .makeFunc (.func g) #[] caps,none⟩,⟨none, .defer cl,none⟩]) pb) ⟨f,H,n⟩:=by
 subst hn hvs;exact DW.defer hΓ hE hm ids hcal hcl hcaps hst fun E' _ _ _=>h E'
theorem Cn.mk {H:Hp} {b:Nat} {f:Nat->V} {g:FuncId} {ids:List (Nat × Nat)} {m:Option V} {K:St->Prop} (L:List (Nat × List V)) (ks:List Nat) (L1:List (Nat × List V)) (hf:CmD P g (ids.map fun p=> .lp p.1 p.2) (lk L) ks m (lk L1)) (hlive:∀ p∈ids,(H p.1).isSome=true) (hin:Fr H L) (hi:∀ p∈L1,p.1∈ks\/p.1<1048576) (hks:Jq b L L1 ks) (hL:∀ p∈L,p.1<b)
   (hk:K ⟨f,I2 (E0 H L) ks b L1,b⟩):Cn P g ids m K ⟨f,H,b⟩:=by
 have hL':∀ i,InH (lk L) i->i<b:=fun i h=>by
   obtain ⟨x,hx⟩:=Option.isSome_iff_exists.1 h;exact hL _ (B4 hx)
 refine ⟨hlive,_,lk L,ks,lk L1,hf,⟨hin.at,fun i h hn=>NB hi h hn,fun i h=>(hks.at i h).2.2, .inl ?_⟩,?_⟩
 . exact AJ.of_get rfl fun i x y hx hy=>by
     rw [hx] at hy;cases hy;rw [List.getElem?_map] at hx;obtain ⟨p,_,rfl⟩:=Option.map_eq_some_iff.1 hx;exact ⟨rfl,rfl⟩
 . show K ⟨f,BI H b (lk L) ks (lk L1),b⟩
   rw [E1 H ks b L L1 hks hL'];exact hk
end Go.Psl
namespace Go.Proofs.Tryz
open Go.Psl
open Go.Air
def sgD (i:Nat):Nat:=if i=0 then 23068672 else 28311552
theorem Nu:∀ i j,i<2->j<2->sgD i=sgD j->i=j:=by
 intro i j hi hj h;unfold sgD at h;split at h<;>split at h<;>first | omega | exact absurd h (by omega)
theorem Px (ρ:Nat->Nat) (l:List Cel):(AH AP l).map (BJ ρ)=AH AP l:=by
 simp [AH,List.map_flatten,Function.comp_def]
theorem rF {f:FuncId} {p:Plt} {a:Act} {cs:List Cel} {e:Int} (h:Cm prog f [.lp 0 0,BZ a] (lk [(0,plB p (.ls 1 0 cs.length 7)),(1,AH AP cs)]) [] (.pan (Fm e)) (lk [])):Cm prog f [.lp 23068672 0,BZ a] (lk [(23068672,plB p (.ls 28311552 0 cs.length 7)),(28311552,AH AP cs)]) [] (.pan (Fm e)) (lk []):=by
 have:=Cm.rename sgD 2 Nu h (by simp [BW]) (by simp [BW]) (by simp);simpa [Ea,HW,sgD,Px] using this
theorem MZ {f:FuncId} {p q:Plt} {a:Act} {cs ds:List Cel} (h:Cm prog f [.lp 0 0,BZ a] (lk [(0,plB p (.ls 1 0 cs.length 7)),(1,AH AP cs)]) [0,1] (.ret (.tup [])) (lk [(0,plB q (.ls 1 0 cs.length 7)),(1,AH AP ds)])):Cm prog f [.lp 23068672 0,BZ a] (lk [(23068672,plB p (.ls 28311552 0 cs.length 7)),(28311552,AH AP cs)]) [23068672,28311552] (.ret (.tup [])) (lk [(23068672,plB q (.ls 28311552 0 cs.length 7)),(28311552,AH AP ds)]):=by
 have:=Cm.rename sgD 2 Nu h (by simp [BW]) (by simp [BW]) (by simp);simpa [Ea,HW,sgD,Px] using this
theorem Py (p:Plt) (a:Act) (e:Int) (hl:p.cs.length<=1000000) (h:Ar p=true) (hk:a.k=3) (hne:p.cs≠[]) (d0:Cm prog 199 [.lp 0 0,BZ a] (lk [(0,plB p (.ls 1 0 p.cs.length 7)),(1,AH AP p.cs)]) [] (.pan (Fm e)) (lk [])):Ct prog 128 [Cy p (.d (AX p.cs)),BZ a] (.tup [.agg plZ,vi e]) []:=by
 have d5:=rF d0;have n2:=trivial;have d1:=Ef p (by omega);have d2:=Bq 1 7 [3] (by simp);have d3:=BP 2;have d4:=Ce p.cs hl;have n1:=BG hne;have w3:IntKind.wrap .i64 3=3:=by decide
 rw [h] at d1;rw [show rgB 1 7 [3]=true from by decide] at d2;refine Ct.byD gok func128 LE rfl (by simp [ntmps128]) (by simp) (by simp [LD]) fun E hE hN=>?_
 unfold p128;simp only [];refine DW.seq gok eok mixed ?_;simp [Ax];refine DW.seq gok eok mixed ?_;simp;refine CLa d1 ?_;simp [Ax];refine DW.defer2 gok eok mixed 11534336 [(2097152,0),(3145728,0)] [.lp 2097152 0, .lp 3145728 0] rfl rfl rfl (by simp) (by simp) hE fun E'=>?_
 simp [AA,AM,hk,w3];refine CLb (d2) (by simp [AG]) ?_;simp;refine CLa d3 ?_;simp [AA];refine CLa d4 ?_;simp [AA];refine CRs d5 (by simp [hk]) ?_;simp [D9];refine Cn.mk _ _ _ (Ds e) (by simp) (by simp) (by simp) (by simp) (by simp) ?_;simp;apply RZ;simp [results128]
theorem ABg (p q:Plt) (a:Act) (hl:p.cs.length<=1000000) (h:Ar p=true) (hk:a.k=3) (hne:p.cs≠[]) (hq:q.cs.length=p.cs.length) (ho:Ar q=true) (d0:Cm prog 199 [.lp 0 0,BZ a] (lk [(0,plB p (.ls 1 0 p.cs.length 7)),(1,AH AP p.cs)]) [0,1] (.ret (.tup [])) (lk [(0,plB q (.ls 1 0 p.cs.length 7)),(1,AH AP q.cs)])):Ct prog 128 [Cy p (.d (AX p.cs)),BZ a] (.tup [Cy q (.ls 0 0 p.cs.length 7),vi 0]) [(0,AH AP q.cs)]:=by
 have d5:=MZ d0;have n2:AH AP q.cs≠[]:=BG fun e=>by rw [e] at hq;exact hne (List.eq_nil_of_length_eq_zero hq.symm)
 have d6:=Ef q (by omega);have d7:=BP 9
 have d8:List.take (p.cs.length*7) (AH AP q.cs)=(List.map (List.map V.d ∘ AP) q.cs).flatten:=by
   rw [<-hq,List.take_of_length_le (by rw [Aw Nr];omega)];simp [AH,List.map_flatten]
 rw [ho] at d6;have d1:=Ef p (by omega);have d2:=Bq 1 7 [3] (by simp);have d3:=BP 2;have d4:=Ce p.cs hl;have n1:=BG hne;have w3:IntKind.wrap .i64 3=3:=by decide
 rw [h] at d1;rw [show rgB 1 7 [3]=true from by decide] at d2;refine Ct.byD gok func128 LE rfl (by simp [ntmps128]) (by simp) (by simp [LD]) fun E hE hN=>?_
 unfold p128;simp only [];refine DW.seq gok eok mixed ?_;simp [Ax];refine DW.seq gok eok mixed ?_;simp;refine CLa d1 ?_;simp [Ax];refine DW.defer2 gok eok mixed 11534336 [(2097152,0),(3145728,0)] [.lp 2097152 0, .lp 3145728 0] rfl rfl rfl (by simp) (by simp) hE fun E'=>?_
 simp [AA,AM,hk,w3];refine CLb (d2) (by simp [AG]) ?_;simp;refine CLa d3 ?_;simp [AA];refine CLa d4 ?_;simp [AA];refine CRs d5 (by simp [n1,hk,BB]) ?_;simp;refine CLb (d6) (by first | (simp;done) | simp [CP,d8,hq]) ?_;simp;refine CLa d7 ?_;simp [AA,Iv];refine Cn.mk _ _ _ IT (by simp) (by simp) (by simp) (by simp) (by simp) ?_;simp;refine AB.by (lk [(0,28311552)]) ?_;simp [results128]
theorem WY (p q:Plt) (a:Act) (hl:p.cs.length<=1000000) (h:Ar p=true) (hk:a.k=3) (hne:p.cs≠[]) (hq:q.cs.length=p.cs.length) (ho:Ar q=false) (d0:Cm prog 199 [.lp 0 0,BZ a] (lk [(0,plB p (.ls 1 0 p.cs.length 7)),(1,AH AP p.cs)]) [0,1] (.ret (.tup [])) (lk [(0,plB q (.ls 1 0 p.cs.length 7)),(1,AH AP q.cs)])):Ct prog 128 [Cy p (.d (AX p.cs)),BZ a] (.tup [.agg plZ,vi 9]) []:=by
 have d5:=MZ d0;have n2:AH AP q.cs≠[]:=BG fun e=>by rw [e] at hq;exact hne (List.eq_nil_of_length_eq_zero hq.symm)
 have d6:=Ef q (by omega);have d7:=Xt 9
 have d8:List.take (p.cs.length*7) (AH AP q.cs)=(List.map (List.map V.d ∘ AP) q.cs).flatten:=by
   rw [<-hq,List.take_of_length_le (by rw [Aw Nr];omega)];simp [AH,List.map_flatten]
 rw [ho] at d6;have d1:=Ef p (by omega);have d2:=Bq 1 7 [3] (by simp);have d3:=BP 2;have d4:=Ce p.cs hl;have n1:=BG hne;have w3:IntKind.wrap .i64 3=3:=by decide
 rw [h] at d1;rw [show rgB 1 7 [3]=true from by decide] at d2;refine Ct.byD gok func128 LE rfl (by simp [ntmps128]) (by simp) (by simp [LD]) fun E hE hN=>?_
 unfold p128;simp only [];refine DW.seq gok eok mixed ?_;simp [Ax];refine DW.seq gok eok mixed ?_;simp;refine CLa d1 ?_;simp [Ax];refine DW.defer2 gok eok mixed 11534336 [(2097152,0),(3145728,0)] [.lp 2097152 0, .lp 3145728 0] rfl rfl rfl (by simp) (by simp) hE fun E'=>?_
 simp [AA,AM,hk,w3];refine CLb (d2) (by simp [AG]) ?_;simp;refine CLa d3 ?_;simp [AA];refine CLa d4 ?_;simp [AA];refine CRs d5 (by simp [n1,hk,BB]) ?_;simp;refine CLb (d6) (by first | (simp;done) | simp [CP,d8,hq]) ?_;simp;refine CRs d7 (by simp) ?_;simp [D9];refine Cn.mk _ _ _ (Ds 9) (by simp) (by simp) (by simp) (by simp) (by simp) ?_;simp;apply RZ;simp [results128]
theorem LW (p:Plt) (a:Act) (e:Int) (hl:p.cs.length<=1000000) (h:Ar p=true) (hk:a.k=4) (hne:p.cs≠[]) (d0:Cm prog 200 [.lp 0 0,BZ a] (lk [(0,plB p (.ls 1 0 p.cs.length 7)),(1,AH AP p.cs)]) [] (.pan (Fm e)) (lk [])):Ct prog 128 [Cy p (.d (AX p.cs)),BZ a] (.tup [.agg plZ,vi e]) []:=by
 have d5:=rF d0;have n2:=trivial;have d1:=Ef p (by omega);have d2:=Bq 1 7 [4] (by simp);have d3:=BP 2;have d4:=Ce p.cs hl;have n1:=BG hne;have w3:IntKind.wrap .i64 4=4:=by decide
 rw [h] at d1;rw [show rgB 1 7 [4]=true from by decide] at d2;refine Ct.byD gok func128 LE rfl (by simp [ntmps128]) (by simp) (by simp [LD]) fun E hE hN=>?_
 unfold p128;simp only [];refine DW.seq gok eok mixed ?_;simp [Ax];refine DW.seq gok eok mixed ?_;simp;refine CLa d1 ?_;simp [Ax];refine DW.defer2 gok eok mixed 11534336 [(2097152,0),(3145728,0)] [.lp 2097152 0, .lp 3145728 0] rfl rfl rfl (by simp) (by simp) hE fun E'=>?_
 simp [AA,AM,hk,w3];refine CLb (d2) (by simp [AG]) ?_;simp;refine CLa d3 ?_;simp [AA];refine CLa d4 ?_;simp [AA];refine CRs d5 (by simp [hk]) ?_;simp [D9];refine Cn.mk _ _ _ (Ds e) (by simp) (by simp) (by simp) (by simp) (by simp) ?_;simp;apply RZ;simp [results128]
theorem ADp (p q:Plt) (a:Act) (hl:p.cs.length<=1000000) (h:Ar p=true) (hk:a.k=4) (hne:p.cs≠[]) (hq:q.cs.length=p.cs.length) (ho:Ar q=true) (d0:Cm prog 200 [.lp 0 0,BZ a] (lk [(0,plB p (.ls 1 0 p.cs.length 7)),(1,AH AP p.cs)]) [0,1] (.ret (.tup [])) (lk [(0,plB q (.ls 1 0 p.cs.length 7)),(1,AH AP q.cs)])):Ct prog 128 [Cy p (.d (AX p.cs)),BZ a] (.tup [Cy q (.ls 0 0 p.cs.length 7),vi 0]) [(0,AH AP q.cs)]:=by
 have d5:=MZ d0;have n2:AH AP q.cs≠[]:=BG fun e=>by rw [e] at hq;exact hne (List.eq_nil_of_length_eq_zero hq.symm)
 have d6:=Ef q (by omega);have d7:=BP 9
 have d8:List.take (p.cs.length*7) (AH AP q.cs)=(List.map (List.map V.d ∘ AP) q.cs).flatten:=by
   rw [<-hq,List.take_of_length_le (by rw [Aw Nr];omega)];simp [AH,List.map_flatten]
 rw [ho] at d6;have d1:=Ef p (by omega);have d2:=Bq 1 7 [4] (by simp);have d3:=BP 2;have d4:=Ce p.cs hl;have n1:=BG hne;have w3:IntKind.wrap .i64 4=4:=by decide
 rw [h] at d1;rw [show rgB 1 7 [4]=true from by decide] at d2;refine Ct.byD gok func128 LE rfl (by simp [ntmps128]) (by simp) (by simp [LD]) fun E hE hN=>?_
 unfold p128;simp only [];refine DW.seq gok eok mixed ?_;simp [Ax];refine DW.seq gok eok mixed ?_;simp;refine CLa d1 ?_;simp [Ax];refine DW.defer2 gok eok mixed 11534336 [(2097152,0),(3145728,0)] [.lp 2097152 0, .lp 3145728 0] rfl rfl rfl (by simp) (by simp) hE fun E'=>?_
 simp [AA,AM,hk,w3];refine CLb (d2) (by simp [AG]) ?_;simp;refine CLa d3 ?_;simp [AA];refine CLa d4 ?_;simp [AA];refine CRs d5 (by simp [n1,hk,BB]) ?_;simp;refine CLb (d6) (by first | (simp;done) | simp [CP,d8,hq]) ?_;simp;refine CLa d7 ?_;simp [AA,Iv];refine Cn.mk _ _ _ IT (by simp) (by simp) (by simp) (by simp) (by simp) ?_;simp;refine AB.by (lk [(0,28311552)]) ?_;simp [results128]
theorem WZ (p q:Plt) (a:Act) (hl:p.cs.length<=1000000) (h:Ar p=true) (hk:a.k=4) (hne:p.cs≠[]) (hq:q.cs.length=p.cs.length) (ho:Ar q=false) (d0:Cm prog 200 [.lp 0 0,BZ a] (lk [(0,plB p (.ls 1 0 p.cs.length 7)),(1,AH AP p.cs)]) [0,1] (.ret (.tup [])) (lk [(0,plB q (.ls 1 0 p.cs.length 7)),(1,AH AP q.cs)])):Ct prog 128 [Cy p (.d (AX p.cs)),BZ a] (.tup [.agg plZ,vi 9]) []:=by
 have d5:=MZ d0;have n2:AH AP q.cs≠[]:=BG fun e=>by rw [e] at hq;exact hne (List.eq_nil_of_length_eq_zero hq.symm)
 have d6:=Ef q (by omega);have d7:=Xt 9
 have d8:List.take (p.cs.length*7) (AH AP q.cs)=(List.map (List.map V.d ∘ AP) q.cs).flatten:=by
   rw [<-hq,List.take_of_length_le (by rw [Aw Nr];omega)];simp [AH,List.map_flatten]
 rw [ho] at d6;have d1:=Ef p (by omega);have d2:=Bq 1 7 [4] (by simp);have d3:=BP 2;have d4:=Ce p.cs hl;have n1:=BG hne;have w3:IntKind.wrap .i64 4=4:=by decide
 rw [h] at d1;rw [show rgB 1 7 [4]=true from by decide] at d2;refine Ct.byD gok func128 LE rfl (by simp [ntmps128]) (by simp) (by simp [LD]) fun E hE hN=>?_
 unfold p128;simp only [];refine DW.seq gok eok mixed ?_;simp [Ax];refine DW.seq gok eok mixed ?_;simp;refine CLa d1 ?_;simp [Ax];refine DW.defer2 gok eok mixed 11534336 [(2097152,0),(3145728,0)] [.lp 2097152 0, .lp 3145728 0] rfl rfl rfl (by simp) (by simp) hE fun E'=>?_
 simp [AA,AM,hk,w3];refine CLb (d2) (by simp [AG]) ?_;simp;refine CLa d3 ?_;simp [AA];refine CLa d4 ?_;simp [AA];refine CRs d5 (by simp [n1,hk,BB]) ?_;simp;refine CLb (d6) (by first | (simp;done) | simp [CP,d8,hq]) ?_;simp;refine CRs d7 (by simp) ?_;simp [D9];refine Cn.mk _ _ _ (Ds 9) (by simp) (by simp) (by simp) (by simp) (by simp) ?_;simp;apply RZ;simp [results128]
theorem cU (p q:Plt) (a:Act) (hl:p.cs.length<=1000000) (h:Ar p=true) (hk:a.k=7) (hne:p.cs≠[]) (hq:q.cs.length=p.cs.length) (ho:Ar q=true) (d0:Cm prog 203 [.lp 0 0,BZ a] (lk [(0,plB p (.ls 1 0 p.cs.length 7)),(1,AH AP p.cs)]) [0,1] (.ret (.tup [])) (lk [(0,plB q (.ls 1 0 p.cs.length 7)),(1,AH AP q.cs)])):Ct prog 128 [Cy p (.d (AX p.cs)),BZ a] (.tup [Cy q (.ls 0 0 p.cs.length 7),vi 0]) [(0,AH AP q.cs)]:=by
 have d5:=MZ d0;have n2:AH AP q.cs≠[]:=BG fun e=>by rw [e] at hq;exact hne (List.eq_nil_of_length_eq_zero hq.symm)
 have d6:=Ef q (by omega);have d7:=BP 9
 have d8:List.take (p.cs.length*7) (AH AP q.cs)=(List.map (List.map V.d ∘ AP) q.cs).flatten:=by
   rw [<-hq,List.take_of_length_le (by rw [Aw Nr];omega)];simp [AH,List.map_flatten]
 rw [ho] at d6;have d1:=Ef p (by omega);have d2:=Bq 1 7 [7] (by simp);have d3:=BP 2;have d4:=Ce p.cs hl;have n1:=BG hne;have w3:IntKind.wrap .i64 7=7:=by decide
 rw [h] at d1;rw [show rgB 1 7 [7]=true from by decide] at d2;refine Ct.byD gok func128 LE rfl (by simp [ntmps128]) (by simp) (by simp [LD]) fun E hE hN=>?_
 unfold p128;simp only [];refine DW.seq gok eok mixed ?_;simp [Ax];refine DW.seq gok eok mixed ?_;simp;refine CLa d1 ?_;simp [Ax];refine DW.defer2 gok eok mixed 11534336 [(2097152,0),(3145728,0)] [.lp 2097152 0, .lp 3145728 0] rfl rfl rfl (by simp) (by simp) hE fun E'=>?_
 simp [AA,AM,hk,w3];refine CLb (d2) (by simp [AG]) ?_;simp;refine CLa d3 ?_;simp [AA];refine CLa d4 ?_;simp [AA];refine CRs d5 (by simp [n1,hk,BB]) ?_;simp;refine CLb (d6) (by first | (simp;done) | simp [CP,d8,hq]) ?_;simp;refine CLa d7 ?_;simp [AA,Iv];refine Cn.mk _ _ _ IT (by simp) (by simp) (by simp) (by simp) (by simp) ?_;simp;refine AB.by (lk [(0,28311552)]) ?_;simp [results128]
theorem Wa (p q:Plt) (a:Act) (hl:p.cs.length<=1000000) (h:Ar p=true) (hk:a.k=7) (hne:p.cs≠[]) (hq:q.cs.length=p.cs.length) (ho:Ar q=false) (d0:Cm prog 203 [.lp 0 0,BZ a] (lk [(0,plB p (.ls 1 0 p.cs.length 7)),(1,AH AP p.cs)]) [0,1] (.ret (.tup [])) (lk [(0,plB q (.ls 1 0 p.cs.length 7)),(1,AH AP q.cs)])):Ct prog 128 [Cy p (.d (AX p.cs)),BZ a] (.tup [.agg plZ,vi 9]) []:=by
 have d5:=MZ d0;have n2:AH AP q.cs≠[]:=BG fun e=>by rw [e] at hq;exact hne (List.eq_nil_of_length_eq_zero hq.symm)
 have d6:=Ef q (by omega);have d7:=Xt 9
 have d8:List.take (p.cs.length*7) (AH AP q.cs)=(List.map (List.map V.d ∘ AP) q.cs).flatten:=by
   rw [<-hq,List.take_of_length_le (by rw [Aw Nr];omega)];simp [AH,List.map_flatten]
 rw [ho] at d6;have d1:=Ef p (by omega);have d2:=Bq 1 7 [7] (by simp);have d3:=BP 2;have d4:=Ce p.cs hl;have n1:=BG hne;have w3:IntKind.wrap .i64 7=7:=by decide
 rw [h] at d1;rw [show rgB 1 7 [7]=true from by decide] at d2;refine Ct.byD gok func128 LE rfl (by simp [ntmps128]) (by simp) (by simp [LD]) fun E hE hN=>?_
 unfold p128;simp only [];refine DW.seq gok eok mixed ?_;simp [Ax];refine DW.seq gok eok mixed ?_;simp;refine CLa d1 ?_;simp [Ax];refine DW.defer2 gok eok mixed 11534336 [(2097152,0),(3145728,0)] [.lp 2097152 0, .lp 3145728 0] rfl rfl rfl (by simp) (by simp) hE fun E'=>?_
 simp [AA,AM,hk,w3];refine CLb (d2) (by simp [AG]) ?_;simp;refine CLa d3 ?_;simp [AA];refine CLa d4 ?_;simp [AA];refine CRs d5 (by simp [n1,hk,BB]) ?_;simp;refine CLb (d6) (by first | (simp;done) | simp [CP,d8,hq]) ?_;simp;refine CRs d7 (by simp) ?_;simp [D9];refine Cn.mk _ _ _ (Ds 9) (by simp) (by simp) (by simp) (by simp) (by simp) ?_;simp;apply RZ;simp [results128]
end Go.Proofs.Tryz
namespace Go.Proofs.Tryz
open Go.Psl
open Go.Air
theorem fq (p:Plt) (a:Act) (ha:a.n=1):Cm prog 203 [.lp 23068672 0,BZ a] (lk [(23068672,plB p (.ls 28311552 0 0 7)),(28311552,[])]) [23068672] (.ret (.tup [])) (lk [(23068672,plB p (.ls 1 0 0 7)),(1,[])]):=by
 have d1:=Bq 1 1000 [1] (by simp);have d2:=BP 2;rw [show rgB 1 1000 [1]=true from by decide] at d1;have z1:IntKind.wrap .i64 1=1:=by decide
 refine CM 28311553 func203 qc fun E hs hE=>?_
 simp [p203,AA,AM,ha]
 repeat ((first | (refine CLt d1 ?_ ?_;focus (simp [AG];done)) | (refine CLt d2 ?_ ?_;focus (simp;done)));simp)
 refine Al (α:=Nat) (fun k=>⟨AO [(0, .lp 23068672 0),(13,vi 1),(14,vi k)],lk [(23068672,plB p (.ls 28311552 0 0 7)),(28311552,[])],28311553⟩) (fun k=>k<=1) (fun k=>1-k) 0 ?_ ?_ ?_
 . omega
 . exact WKM hs (lk [(23068672,23068672),(28311552,28311552)])
 . intro k hk
   match k,hk with
   | 1,_=>
     simp [LG];refine AB.by (lk [(23068672,23068672),(1,28311552)]) ?_;simp [results203]
   | n+2,h=>omega
   | 0,_=>
     simp [LG];refine Al (α:=Nat) (fun i=>⟨AO [(0, .lp 23068672 0),(13,vi 1),(14,vi 0),(21,vi 0),(22,vi i)],lk [(23068672,plB p (.ls 28311552 0 0 7)),(28311552,[])],28311553⟩) (fun i=>i=0) (fun i=>0) 0 ?_ ?_ ?_
     . rfl
     . exact WKM hs (lk [(23068672,23068672),(28311552,28311552)])
     . intro i hi
       subst hi;simp [tE,z1];refine ⟨1,by omega,by omega,?_⟩;exact WKM hs (lk [(23068672,23068672),(28311552,28311552)])
theorem i0 {f:FuncId} {p:Plt} {a:Act} {e:Int} (h:Cm prog f [.lp 0 0,BZ a] (lk [(0,plB p (.ls 1 0 0 7))]) [] (.pan (Fm e)) (lk [])):Cm prog f [.lp 23068672 0,BZ a] (lk [(23068672,plB p (.ls 28311552 0 0 7))]) [] (.pan (Fm e)) (lk []):=by
 have:=Cm.rename sgD 2 Nu h (by simp [BW]) (by simp [BW]) (by simp);simpa [Ea,HW,sgD] using this
theorem kz (p:Plt) (a:Act) (h:Ar p=true) (hk:a.k=3) (he:p.cs=[]):Ct prog 128 [Cy p (.d (AX p.cs)),BZ a] (.tup [.agg plZ,vi 2]) []:=by
 have d5:=i0 (gj p a);have d1:=Ef p (by simp [he]);have d2:=Bq 1 7 [3] (by simp);have d3:=BP 2;have d4:=Ce ([]:List Cel) (by simp);have w3:IntKind.wrap .i64 3=3:=by decide
 rw [h,he] at d1;rw [he];rw [show rgB 1 7 [3]=true from by decide] at d2;refine Ct.byD gok func128 LE rfl (by simp [ntmps128]) (by simp) (by simp [LD]) fun E hE hN=>?_
 unfold p128;simp only [];refine DW.seq gok eok mixed ?_;simp [Ax];refine DW.seq gok eok mixed ?_;simp;refine CLa d1 ?_;simp [Ax];refine DW.defer2 gok eok mixed 11534336 [(2097152,0),(3145728,0)] [.lp 2097152 0, .lp 3145728 0] rfl rfl rfl (by simp) (by simp) hE fun E'=>?_
 simp [AA,AM,hk,w3];refine CLb (d2) (by simp [AG]) ?_;simp;refine CLa d3 ?_;simp [AA];refine CLa d4 ?_;simp [AA];refine CRs d5 (by simp [AH,hk]) ?_;simp [D9];refine Cn.mk _ _ _ (Ds 2) (by simp) (by simp) (by simp) (by simp) (by simp) ?_;simp;apply RZ;simp [results128]
theorem lA (p:Plt) (a:Act) (h:Ar p=true) (hk:a.k=4) (he:p.cs=[]):Ct prog 128 [Cy p (.d (AX p.cs)),BZ a] (.tup [.agg plZ,vi 2]) []:=by
 have d5:=i0 (ABp p a);have d1:=Ef p (by simp [he]);have d2:=Bq 1 7 [4] (by simp);have d3:=BP 2;have d4:=Ce ([]:List Cel) (by simp);have w3:IntKind.wrap .i64 4=4:=by decide
 rw [h,he] at d1;rw [he];rw [show rgB 1 7 [4]=true from by decide] at d2;refine Ct.byD gok func128 LE rfl (by simp [ntmps128]) (by simp) (by simp [LD]) fun E hE hN=>?_
 unfold p128;simp only [];refine DW.seq gok eok mixed ?_;simp [Ax];refine DW.seq gok eok mixed ?_;simp;refine CLa d1 ?_;simp [Ax];refine DW.defer2 gok eok mixed 11534336 [(2097152,0),(3145728,0)] [.lp 2097152 0, .lp 3145728 0] rfl rfl rfl (by simp) (by simp) hE fun E'=>?_
 simp [AA,AM,hk,w3];refine CLb (d2) (by simp [AG]) ?_;simp;refine CLa d3 ?_;simp [AA];refine CLa d4 ?_;simp [AA];refine CRs d5 (by simp [AH,hk]) ?_;simp [D9];refine Cn.mk _ _ _ (Ds 2) (by simp) (by simp) (by simp) (by simp) (by simp) ?_;simp;apply RZ;simp [results128]
theorem lC (p:Plt) (a:Act) (h:Ar p=true) (hk:a.k=7) (hn:a.n=1) (he:p.cs=[]):Ct prog 128 [Cy p (.d (AX p.cs)),BZ a] (.tup [Cy p (.ls 0 0 0 7),vi 0]) [(0,[])]:=by
 have d5:=fq p a hn;have d6:=Ef p (by simp [he]);have d7:=BP 9;rw [h,he] at d6;have d1:=Ef p (by simp [he]);have d2:=Bq 1 7 [7] (by simp);have d3:=BP 2;have d4:=Ce ([]:List Cel) (by simp);have w3:IntKind.wrap .i64 7=7:=by decide
 rw [h,he] at d1;rw [he];rw [show rgB 1 7 [7]=true from by decide] at d2;refine Ct.byD gok func128 LE rfl (by simp [ntmps128]) (by simp) (by simp [LD]) fun E hE hN=>?_
 unfold p128;simp only [];refine DW.seq gok eok mixed ?_;simp [Ax];refine DW.seq gok eok mixed ?_;simp;refine CLa d1 ?_;simp [Ax];refine DW.defer2 gok eok mixed 11534336 [(2097152,0),(3145728,0)] [.lp 2097152 0, .lp 3145728 0] rfl rfl rfl (by simp) (by simp) hE fun E'=>?_
 simp [AA,AM,hk,w3];refine CLb (d2) (by simp [AG]) ?_;simp;refine CLa d3 ?_;simp [AA];refine CLa d4 ?_;simp [AA];refine CRs d5 (by simp [AH,hk]) ?_;simp;refine CLb (d6) (by first | (simp;done) | simp [CP]) ?_;simp;refine CLa d7 ?_;simp [AA,Iv];refine Cn.mk _ _ _ IT (by simp) (by simp) (by simp) (by simp) (by simp) ?_;simp;refine AB.by (lk [(0,39845889)]) ?_;simp [results128]
def g7 (q:Plt):Except Int Plt:=if Ar q then .ok q else .error 9
def vlP (p:Plt) (a:Act) (c:Cel):Plt:={p with vh:=p.vh+BQ c a.n,va:=p.va+(a.n-BQ c a.n),cs:=p.cs.set a.c.toNat (I0 c a.n)}
def mvP (p:Plt) (a:Act) (c e:Cel):Plt:={p with cs:=(p.cs.set a.c.toNat (I0 c a.n)).set a.t.toNat (gg e (BQ c a.n) (a.n-BQ c a.n))}
def vlS (p:Plt) (a:Act):Except Int Plt:=if inA p.cs.length a then match p.cs[a.c.toNat]? with | none=> .error 2 | some c=>if a.n<=c.he+c.ai then g7 (vlP p a c) else .error 6 else .error 2
def mvS (p:Plt) (a:Act):Except Int Plt:=if inA p.cs.length a then (if inT p.cs.length a then match p.cs[a.c.toNat]?,p.cs[a.t.toNat]? with | some c,some e=>if a.n<=c.he+c.ai then g7 (mvP p a c e) else .error 6 | _,_=> .error 2 else .error 2) else .error 2
def tkQ (p:Plt):Plt:={tkP p p.cs p.cs.length with cs:=p.cs.map tkC}
def doS (p:Plt) (a:Act):Except Int Plt:=if Ar p then (if a.k=3 then vlS p a else if a.k=4 then mvS p a else g7 (tkQ p)) else .error 32
def doV:Except Int Plt->V
 | .ok q=> .tup [Cy q (.d (AX q.cs)),vi 0]
 | .error e=> .tup [.agg plZ,vi e]
theorem Ta {q:Plt} {n:Nat} {args:List V} (hn:q.cs.length=n) (h:Ct prog 128 args (.tup [Cy q (.ls 0 0 n 7),vi 0]) [(0,AH AP q.cs)]):Ct prog 128 args (doV (.ok q)) []:=by
 refine Cm.freeze h ?_;subst hn
 have hb:Df (lk [(0,AH AP q.cs)]) (.ls 0 0 q.cs.length 7) (.d (AX q.cs)):=by
   have:=B0 (H:=lk [(0,AH AP q.cs)]) (id:=0) Nr (l:=q.cs) (by simp);exact this
 have z:∀ x:Int,FzC (lk [(0,AH AP q.cs)]) (vi x) (vi x):=fun x=>⟨_,rfl, .inl rfl⟩
 exact ⟨⟨⟨_,rfl,hb⟩,z _,z _,z _,z _,z _,z _,z _,z _,z _,trivial⟩, .inl rfl,trivial⟩
theorem CS {p:Plt} (h:Ar p=true):p.cs.length<=12:=by
 unfold Ar IR at h;simp only [Bool.and_eq_true,decide_eq_true_eq] at h;exact h.1.1.1.1
theorem Dx {p:Plt} (h:Ar p=true):∀ c∈p.cs,B5 c:=fun c hc=>by
 unfold Ar at h;simp only [Bool.and_eq_true] at h;exact Dm.1 (List.all_eq_true.1 h.1.2 c hc)
theorem K7 {p:Plt} (h:Ar p=true):(Li p).all bkB=true:=by
 unfold Ar IR at h;simp only [Bool.and_eq_true] at h;exact h.1.1.2
theorem Zm {cs:List Cel} {a:Act} (h:inA cs.length a=true):∃ c,cs[a.c.toNat]?= some c:=by
 have:=EQ.1 h;exact ⟨_,List.getElem?_eq_getElem (by omega)⟩
theorem lE {cs:List Cel} {a:Act} (h:inT cs.length a=true):∃ c,cs[a.t.toNat]?= some c:=by
 unfold inT rgB at h;simp at h;exact ⟨_,List.getElem?_eq_getElem (by omega)⟩
theorem NP {p q:Plt} {a:Act} (h1:Ar q=true->Ct prog 128 [Cy p (.d (AX p.cs)),BZ a] (doV (.ok q)) []) (h2:Ar q=false->Ct prog 128 [Cy p (.d (AX p.cs)),BZ a] (.tup [.agg plZ,vi 9]) []):Ct prog 128 [Cy p (.d (AX p.cs)),BZ a] (doV (g7 q)) []:=by
 unfold g7;cases h:Ar q
 . simpa [doV] using h2 h
 . simpa using h1 h
theorem do_3 (p:Plt) (a:Act) (h:Ar p=true) (hk:a.k=3):Ct prog 128 [Cy p (.d (AX p.cs)),BZ a] (doV (doS p a)) []:=by
 have hl:=CS h;have hcs:=Dx h;obtain ⟨_,_,v1,v2,_⟩:=K9 (K7 h);have e:doS p a=vlS p a:=by simp [doS,h,hk]
 rw [e];by_cases he:p.cs=[]
 . have:inA p.cs.length a=false:=by
     cases hx:inA p.cs.length a
     . rfl
     . have:=EQ.1 hx;rw [he] at this;simp at this;omega
   have e2:vlS p a= .error 2:=by simp [vlS,this]
   rw [e2];exact kz p a h hk he
 . cases hx:inA p.cs.length a with
   | false=>
     have e2:vlS p a= .error 2:=by simp [vlS,hx]
     rw [e2];exact Py p a 2 (by omega) h hk he (Vw p p.cs a (by omega) he hx)
   | true=>
     obtain ⟨c,hc⟩:=Zm hx;have hb:=hcs c (List.mem_of_getElem? hc);by_cases hn:a.n<=c.he+c.ai
     . have e2:vlS p a=g7 (vlP p a c):=by simp [vlS,hx,hc,hn]
       rw [e2];have d:=aV p p.cs a c (by omega) hx hc hb hn v1 v2;have hq:(vlP p a c).cs.length=p.cs.length:=by simp [vlP]
       exact NP (fun ho=>Ta hq (ABg p (vlP p a c) a (by omega) h hk he hq ho d)) fun ho=>WY p (vlP p a c) a (by omega) h hk he hq ho d
     . have e2:vlS p a= .error 6:=by simp [vlS,hx,hc,hn]
       rw [e2];exact Py p a 6 (by omega) h hk he (Vx p p.cs a c (by omega) hx hc hb (by omega))
theorem do_4 (p:Plt) (a:Act) (h:Ar p=true) (hk:a.k=4):Ct prog 128 [Cy p (.d (AX p.cs)),BZ a] (doV (doS p a)) []:=by
 have hl:=CS h;have hcs:=Dx h;have e:doS p a=mvS p a:=by simp [doS,h,hk]
 rw [e];by_cases he:p.cs=[]
 . have:inA p.cs.length a=false:=by
     cases hx:inA p.cs.length a
     . rfl
     . have:=EQ.1 hx;rw [he] at this;simp at this;omega
   have e2:mvS p a= .error 2:=by simp [mvS,this]
   rw [e2];exact lA p a h hk he
 . cases hx:inA p.cs.length a with
   | false=>
     have e2:mvS p a= .error 2:=by simp [mvS,hx]
     rw [e2];exact LW p a 2 (by omega) h hk he (an p p.cs a (by omega) he hx)
   | true=>
     cases ht:inT p.cs.length a with
     | false=>
       have e2:mvS p a= .error 2:=by simp [mvS,hx,ht]
       rw [e2];exact LW p a 2 (by omega) h hk he (ap p p.cs a (by omega) hx ht)
     | true=>
       obtain ⟨c,hc⟩:=Zm hx;obtain ⟨g,hg⟩:=lE ht;have hb:=hcs c (List.mem_of_getElem? hc);have hbg:=hcs g (List.mem_of_getElem? hg);by_cases hn:a.n<=c.he+c.ai
       . have e2:mvS p a=g7 (mvP p a c g):=by simp [mvS,hx,ht,hc,hg,hn]
         rw [e2];have d:=gi p p.cs a c g (by omega) hx ht hc hg hb hbg hn;have hq:(mvP p a c g).cs.length=p.cs.length:=by simp [mvP]
         exact NP (fun ho=>Ta hq (ADp p (mvP p a c g) a (by omega) h hk he hq ho d)) fun ho=>WZ p (mvP p a c g) a (by omega) h hk he hq ho d
       . have e2:mvS p a= .error 6:=by simp [mvS,hx,ht,hc,hg,hn]
         rw [e2];exact LW p a 6 (by omega) h hk he (aq p p.cs a c (by omega) hx ht hc hb (by omega))
theorem do_7 (p:Plt) (a:Act) (h:Ar p=true) (hk:a.k=7) (h1:a.n=1):Ct prog 128 [Cy p (.d (AX p.cs)),BZ a] (doV (doS p a)) []:=by
 have hl:=CS h;have hcs:=Dx h;obtain ⟨_,_,_,_,v1,v2,_⟩:=K9 (K7 h);have e:doS p a=g7 (tkQ p):=by simp [doS,h,hk]
 rw [e];by_cases he:p.cs=[]
 . have e3:tkQ p=p:=by
     unfold tkQ tkP tkH tkA;cases p;simp at he;simp [he]
   rw [e3];refine NP (fun _=>Ta (by rw [he]) ?_) fun ho=>by rw [h] at ho;cases ho
   have:=lC p a h hk h1 he;rw [show AH AP p.cs=[] by rw [he];rfl];exact this
 . have d:=iQ p p.cs a hl he h1 hcs v1 v2
   have hq:(tkQ p).cs.length=p.cs.length:=by simp [tkQ]
   exact NP (fun ho=>Ta hq (cU p (tkQ p) a (by omega) h hk he hq ho d)) fun ho=>Wa p (tkQ p) a (by omega) h hk he hq ho d
theorem fv (l:List Cel) (hl:l.length<=1000000):Ct prog 127 [.d (AX l)] (.d (AX l)) []:=by
 refine Cm.freeze (Ce l hl) ?_;exact B0 (H:=lk [(0,AH AP l)]) (id:=0) Nr (l:=l) (by simp)
def B7 (p:Plt):List Act->Nat->Plt × Nat × Int
 | [],_=>(p,0,0)
 | a::r,i=>match doS p a with
   | .ok q=>B7 q r (i+1)
   | .error e=>(p,i,e)
theorem fw {p q:Plt} (h:g7 p= .ok q):Ar q=true:=by
 unfold g7 at h;split at h
 . cases h;assumption
 . cases h
theorem Zn {p q:Plt} {a:Act} (h:doS p a= .ok q):Ar q=true:=by
 unfold doS vlS mvS at h
 repeat' split at h
 all_goals first | exact fw h | cases h
theorem K8 {p:Plt} {e:Int} (h:g7 p= .error e):e=9:=by
 unfold g7 at h;split at h
 . cases h
 . cases h;rfl
theorem Tb {p:Plt} {a:Act} {e:Int} (h:doS p a= .error e):¬ e=0:=by
 unfold doS vlS mvS at h
 repeat' split at h
 all_goals first | (have:=K8 h;omega) | (cases h;omega)
theorem pq (p:Plt) (a:Act) (h:Ar p=true) (hk:a.k=3\/a.k=4):Ct prog 128 [Cy p (.d (AX p.cs)),BZ a] (doV (doS p a)) []:=by
 rcases hk with hk | hk
 . exact do_3 p a h hk
 . exact do_4 p a h hk
theorem ACR (p:Plt) (l:List Act) (h:Ar p=true) (hl:l.length<=200) (hk:∀ a∈l,a.k=3\/a.k=4):Ct prog 60 [Cy p (.d (AX p.cs)), .d (JZ l)] (.tup [Cy (B7 p l 0).1 (.d (AX (B7 p l 0).1.cs)),vi (B7 p l 0).2.1,vi (B7 p l 0).2.2]) []:=by
 have hp:=CS h;have d1:=Ef p (by omega);have d2:=fv p.cs (by omega);have g:¬ (l.length:Int)>200:=by omega
 have g2:¬ (200:Int)<l.length:=by omega
 rw [h] at d1;obtain ⟨R,hR⟩:∃ R,B7 p l 0=R:=⟨_,rfl⟩
 rw [hR];refine CB func60 c60 fun E hE=>?_
 simp [p60];refine CLa d1 ?_;simp [AA,g];refine CLa d2 ?_;simp [AA];refine Al (α:=Nat × Plt) (fun x=>⟨AO [(4, .lp 0 0),(27, .d (JZ l)),(28,vi l.length),(29,vi x.1)],lk [(0,plB x.2 (.d (AX x.2.cs)))],1⟩) (fun x=>x.1<=l.length/\Ar x.2=true/\B7 x.2 (l.drop x.1) x.1=R) (fun x=>l.length-x.1) (0,p) ?_ ?_ ?_
 . exact ⟨by simp,h,by simpa using hR⟩
 . exact WK hE (lk [(0,1048576)])
 . rintro ⟨i,q⟩ ⟨hi,hq,hr⟩
   simp only at hi hq hr;have w:IntKind.wrap .i64 ((i:Int)+1)=((i+1:Nat):Int):=by rw [AD (by omega) (by omega)];rfl
   by_cases hi2:i<l.length
   . obtain ⟨a,ha⟩:=gE hi2
     have d3:=pq q a hq (hk a (List.mem_of_getElem? ha))
     have e1:l.drop i=a::l.drop (i+1):=by
       rw [List.drop_eq_getElem_cons hi2];rw [List.getElem?_eq_getElem hi2] at ha;cases ha;rfl
     have hiI:(i:Int)<l.length:=by omega
     rw [e1,B7] at hr;cases hd:doS q a with
     | ok q2=>
       rw [hd] at d3 hr;simp only [doV] at d3;have hq2:=Zn hd;simp [Tj,AA,hiI,ha];refine CLa d3 ?_;simp [AA,w];refine ⟨i+1,q2,⟨by omega,hq2,hr⟩,by omega,?_⟩;exact WK hE (lk [(0,0)])
     | error e=>
       rw [hd] at d3 hr;simp only [doV] at d3;have he:=Tb hd;simp [Tj,AA,hiI,ha];refine CLa d3 ?_;simp [AA,he];apply RZ;subst hr;simp [results60]
   . have e1:l.drop i=[]:=List.drop_eq_nil_of_le (by omega)
     rw [e1,B7] at hr;subst hr;have hiI:¬ (i:Int)<l.length:=by omega
     simp [Tj,AA,hiI];apply RZ;simp [results60]
theorem CR {s:Shp} (h:A6 s=true):Ar s.gas=true:=by
 unfold A6 at h;simp only [Bool.and_eq_true] at h;exact h.2
theorem MF {s:Shp} (h:A6 s=true):((0<=s.dry/\s.dry<=1000000000)/\0<=s.bal/\s.bal<=1000000000)/\0<=s.drp/\s.drp<=1000000000000:=by
 unfold A6 at h;simp only [Bool.and_eq_true] at h;have h1:=h.1.1.2;have h2:=h.1.2;simp [rgB] at h1 h2;omega
theorem Kz {l:Leg} (h:BE l=true):l.acts.length<=12/\(∀ a∈l.acts,a.k=3\/a.k=4)/\0<=l.dr/\l.dr<=1000000000:=by
 unfold BE at h;simp only [Bool.and_eq_true,decide_eq_true_eq] at h;have h1:=h.1.1.2;simp [rgB] at h1;refine ⟨h.1.2,fun a ha=>?_,by omega⟩;have:=List.all_eq_true.1 h.2 a ha;simpa [Cb] using this
def Ep (s:Shp) (l:Leg):Except Int Shp:=
 if (B7 s.gas l.acts 0).2.2=0 then
   (if s.bal<l.dr then .error 2 else if 1000000000000<s.drp+l.dr then .error 9
     else .ok {s with gas:=(B7 s.gas l.acts 0).1,bal:=s.bal-l.dr,drp:=s.drp+l.dr})
 else .error (B7 s.gas l.acts 0).2.2
abbrev shZ:List V:=[vi 0,vi 0,vi 0,vi 0,vi 0,vi 0,vi 0,vi 0,vi 0,vi 0,vi 0,vi 0,vi 0,vi 0,vi 0, .d (.lit (.slice none 0 0)),vi 0,vi 0,vi 0,vi 0,vi 0,vi 0,vi 0,vi 0,vi 0]
def Oy:Except Int Shp->V
 | .ok s=> .tup [Cl s (.d (AX s.gas.cs)),vi 0]
 | .error e=> .tup [.agg shZ,vi e]
theorem pP (s:Shp) (l:Leg) (hs:A6 s=true) (hl:BE l=true):Ct prog 96 [Cl s (.d (AX s.gas.cs)),AKx l] (Oy (Ep s l)) []:=by
 have q1:=Kz hl;have q2:=MF hs;have d1:=ACR s.gas l.acts (CR hs) (by omega) q1.2.1;have w1:IntKind.wrap .i64 (s.drp+l.dr)=s.drp+l.dr:=AD (by omega) (by omega);have w2:IntKind.wrap .i64 (s.bal-l.dr)=s.bal-l.dr:=AD (by omega) (by omega);unfold Ep
 generalize B7 s.gas l.acts 0=R at*
 obtain ⟨q,i,e⟩:=R;simp only at d1;simp only;by_cases he:e=0
 . rw [if_pos he]
   by_cases h2:s.bal<l.dr
   . rw [if_pos h2]
     simp only [Oy];refine CB func96 c96 fun E hE=>?_
     simp [p96];refine CLa d1 ?_;simp [AA,he,h2];apply RZ;simp [results96]
   . rw [if_neg h2]
     by_cases h3:1000000000000<s.drp+l.dr
     . rw [if_pos h3]
       simp only [Oy];refine CB func96 c96 fun E hE=>?_
       simp [p96];refine CLa d1 ?_;simp [AA,he,h2,w1,h3];apply RZ;simp [results96]
     . rw [if_neg h3]
       simp only [Oy];refine CB func96 c96 fun E hE=>?_
       simp [p96];refine CLa d1 ?_;simp [AA,he,h2,w1,h3];refine AL [(12,0),(14,0)] (by kernel_rfl) ?_;simp [AA,w1,w2,inC,Nat.testBit];apply RZ;simp [results96]
 . rw [if_neg he]
   simp only [Oy];refine CB func96 c96 fun E hE=>?_
   simp [p96];refine CLa d1 ?_;simp [AA,he];apply RZ;simp [results96]
def mhS (s:Shp) (l:Leg):Int × Int:=(min s.hl (s.hl+l.ul),max s.hh (s.hh+l.uh))
def DY (r:Rig) (l:Leg):Int × Int:=(Ja (l.bl,l.bh) (r.gl,r.gh) (100,100)).1
def Cj (k:Sky) (r:Rig) (s:Shp) (l:Leg):Shp:=
 {s with
   xl:=s.xl+6*(l.axl+(Jr k.w (mhS s l)).1),xh:=s.xh+6*(l.axh+(Jr k.w (mhS s l)).2)
   yl:=s.yl+6*(l.ayl+(Js k.w (mhS s l)).1),yh:=s.yh+6*(l.ayh+(Js k.w (mhS s l)).2)
   hl:=s.hl+l.ul,hh:=s.hh+l.uh
   fl:=s.fl-l.bh,fh:=s.fh-l.bl
   wl:=min (s.wl+(DY r l).1) r.tank,wh:=min (s.wh+(DY r l).2) r.tank
   bl:=s.bl+l.bl,bh:=s.bh+l.bh
   gas:=tkQ s.gas}
def KG (s n:Shp):Shp:={n with fh:=s.fh,wl:=min s.wl n.wl,wh:=max s.wh n.wh}
def sqN (a b:Int):Int:=max (max 0 a) (-b)*max (max 0 a) (-b)
def sqF (a b:Int):Int:=max (-a) b*max (-a) b
def Nz (xl xh yl yh:Int):(Int × Int) × Int:=LB (sqN xl xh+sqN yl yh,sqF xl xh+sqF yl yh)
def N1 (l:Leg):Int × Int:=(Nz l.axl l.axh l.ayl l.ayh).1
def UC (n:Shp):Bool:=spB (-10000000) 10000000 n.xl n.xh&&spB (-10000000) 10000000 n.yl n.yh
def ER (k:Sky) (r:Rig) (s:Shp) (l:Leg):Int × Int:=
 if (mhS s l).1<r.lo then (1,0) else if r.hi<(mhS s l).2 then (2,0)
 else if 0<=ixF (EK (atA k.s (mhS s l).1 (mhS s l).2).1) (tkQ s.gas).cs then (3,ixF (EK (atA k.s (mhS s l).1 (mhS s l).2).1) (tkQ s.gas).cs)
 else if s.fl-l.bh<r.rsv then (4,0)
 else if Il r.reg (N1 l) (hvS (KG s (Cj k r s l)) (atA k.s (mhS s l).1 (mhS s l).2).1)=false then (5,0)
 else if UC (Cj k r s l)=false then (6,0) else (0,0)
def HK (k:Sky) (r:Rig) (s:Shp) (l:Leg):Except (Int × Int × Int) Shp:=
 if (ER k r s l).1=0 then (if 1000000000000<s.bh+l.bh then .error (9,0,0) else .ok (Cj k r s l)) else .error (54,ER k r s l)
theorem jY (cs:List Cel):heS (cs.map tkC)+(cs.map fun c=>BQ c (tkN c)).sum=heS cs:=by
 unfold heS;induction cs with
 | nil=>simp
 | cons c r ih=>
   have e:(tkC c).he=c.he-BQ c (tkN c):=rfl;simp only [List.map_cons,List.sum_cons];rw [e];omega
theorem jZ (cs:List Cel):aiS (cs.map tkC)+(cs.map fun c=>tkN c-BQ c (tkN c)).sum=aiS cs:=by
 unfold aiS;induction cs with
 | nil=>simp
 | cons c r ih=>
   have e:(tkC c).ai=c.ai-(tkN c-BQ c (tkN c)):=rfl;simp only [List.map_cons,List.sum_cons];rw [e];omega
theorem ja {c:Cel} (h:B5 c):B5 (tkC c):=by
 have h1:=SY h;have h2:=h.he;have h3:=h.ai;have h4:=cY h;unfold tkC I0;refine ⟨h.rm,by simp only;omega,by simp only;omega,h.w,h.lk,by simp only;omega⟩
theorem jb {l:List Cel} (h:∀ c∈l,B5 c):0<=heS l/\0<=aiS l:=by
 unfold heS aiS;induction l with
 | nil=>simp
 | cons c r ih=>
   have h1:=(h c (by simp)).he;have h2:=(h c (by simp)).ai;have:=ih fun x hx=>h x (by simp [hx])
   simp only [List.map_cons,List.sum_cons];omega
theorem Wl {p:Plt} (h:Ar p=true):p.bt+p.vh+p.lh+p.ph+heS p.cs=p.ih/\p.va+p.la+p.pa+aiS p.cs=p.ia:=by
 unfold Ar at h;simp only [Bool.and_eq_true,decide_eq_true_eq] at h;exact h.2
theorem Wm {p:Plt} (h:Ar p=true):0<=p.bt/\p.bt<=10000000:=by
 unfold Ar IR at h;simp only [Bool.and_eq_true] at h;have:=h.1.1.1.2;simp [rgB] at this;omega
theorem P4 {p:Plt} (h1:p.cs.length<=12) (h2:0<=p.bt/\p.bt<=10000000) (h3:∀ c∈p.cs,B5 c) (h4:p.bt+p.vh+p.lh+p.ph+heS p.cs=p.ih/\p.va+p.la+p.pa+aiS p.cs=p.ia) (hp:(0<=p.vh/\0<=p.va)/\(0<=p.lh/\0<=p.la)/\0<=p.ph/\0<=p.pa) (h5:p.ih<=1000000000000/\p.ia<=1000000000000):Ar p=true:=by
 have h6:=jb h3;unfold Ar IR;simp only [Bool.and_eq_true,decide_eq_true_eq];refine ⟨⟨⟨⟨h1,by simp [rgB];omega⟩,?_⟩,List.all_eq_true.2 fun c hc=>Dm.2 (h3 c hc)⟩,h4⟩;unfold Li bkB rgB;simp;omega
theorem Md {p:Plt} (h:Ar p=true):Ar (tkQ p)=true:=by
 have hl:=CS h;have hc:=Dx h;have he:=Wl h;have hb:=Wm h;obtain ⟨b1,b2,b3,b4,b5,b6,b7,b8⟩:=K9 (K7 h);have k1:=jY p.cs;have k2:=jZ p.cs;have k3:=SZ hc p.cs.length (Nat.le_refl _);have e1:tkH p.cs p.cs.length=(p.cs.map fun c=>BQ c (tkN c)).sum:=by unfold tkH;rw [List.take_length]
 have e2:tkA p.cs p.cs.length=(p.cs.map fun c=>tkN c-BQ c (tkN c)).sum:=by unfold tkA;rw [List.take_length]
 refine P4 (by simpa [tkQ] using hl) hb (fun c hcc=>?_) ?_ ?_ ?_
 . simp only [tkQ,List.mem_map] at hcc
   obtain ⟨x,hx,rfl⟩:=hcc;exact ja (hc x hx)
 . simp only [tkQ,tkP];omega
 . simp only [tkQ,tkP];omega
 . simp only [tkQ,tkP];omega
theorem GJ {x y:Int} (hx:0<=x/\x<=1000000) (hy:0<=y/\y<=120):Eg x y 100=(x*y/100,(x*y+99)/100):=by
 have h1:0<=x*y:=Int.mul_nonneg hx.1 hy.1;have h2:x*y<=1000000*120:=Int.mul_le_mul hx.2 hy.2 hy.1 (by omega);unfold Eg;rw [show max x (-x)=x by omega,show max y (-y)=y by omega,decide_eq_false (by omega:¬ x<0),decide_eq_false (by omega:¬ y<0)];unfold Da upS
 generalize x*y=z at*
 rw [if_pos (show z/100<2199023255552 by omega)];simp only [bne_self_eq_false,Bool.false_eq_true,if_false];refine Prod.ext rfl ?_
 show (if 0<z%100 then z/100+1 else z/100)=(z+99)/100
 split<;>omega
theorem Me {r:Rig} {l:Leg} (hl:0<=l.bl/\l.bl<=l.bh/\l.bh<=1000000) (hr:0<=r.gl/\r.gl<=r.gh/\r.gh<=120):Ja (l.bl,l.bh) (r.gl,r.gh) (100,100)=((l.bl*r.gl/100,(l.bh*r.gh+99)/100),0):=by
 have o1:okS (l.bl,l.bh)=true:=CT.2 (by simp only;omega);have o2:okS (r.gl,r.gh)=true:=CT.2 (by simp only;omega);have o3:okS (100,100)=true:=by decide
 have p0:0<=l.bl*r.gl:=Int.mul_nonneg (by omega) (by omega);have p1:l.bl*r.gl<=l.bh*r.gl:=Int.mul_le_mul_of_nonneg_right (by omega) (by omega);have p2:l.bl*r.gl<=l.bl*r.gh:=Int.mul_le_mul_of_nonneg_left (by omega) (by omega);have p3:l.bh*r.gl<=l.bh*r.gh:=Int.mul_le_mul_of_nonneg_left (by omega) (by omega);have p4:l.bl*r.gh<=l.bh*r.gh:=Int.mul_le_mul_of_nonneg_right (by omega) (by omega);have p5:l.bh*r.gh<=1000000*120:=Int.mul_le_mul (by omega) (by omega) (by omega) (by omega);unfold Ja;rw [o1,o2,o3];simp only [Bool.and_self,if_true,show ¬ (100:Int)<1 by omega,if_false];unfold Lx HO Bu Xa;simp only [List.foldl_cons,List.foldl_nil,show ¬ ((0:Nat)%2=1) by decide,show ((1:Nat)%2=1) by decide,if_true,if_false,ite_self];rw [GJ (by omega) (by omega),GJ (by omega) (by omega),GJ (by omega) (by omega),GJ (by omega) (by omega)];simp only;unfold JH
 generalize l.bl*r.gl=a at*
 generalize l.bh*r.gl=b at*
 generalize l.bl*r.gh=c at*
 generalize l.bh*r.gh=d at*
 rw [if_neg (by simp only;omega)];simp only [Prod.mk.injEq,and_true];omega
structure P5 (r:Rig):Prop where
 g:0<=r.gl/\r.gl<=r.gh/\r.gh<=120
 t:0<=r.tank/\r.tank<=1000000000
 v:0<=r.rsv/\r.rsv<=1000000000
 h: -500<=r.lo/\r.lo<=r.hi/\r.hi<=9000
 r:C7 r.reg=true
theorem Hy {r:Rig} (h:CF r=true):P5 r:=by
 unfold CF at h;simp only [Bool.and_eq_true,CC] at h;obtain ⟨⟨⟨h1,h2⟩,h3⟩,h4⟩:=h;simp [rgB] at h2;exact ⟨h1,by omega,by omega,h3,h4⟩
structure Wn (l:Leg):Prop where
 m:1<=l.m/\l.m<=600
 x: -1000<=l.axl/\l.axl<=l.axh/\l.axh<=1000
 y: -1000<=l.ayl/\l.ayl<=l.ayh/\l.ayh<=1000
 u: -300<=l.ul/\l.ul<=l.uh/\l.uh<=300
 b:0<=l.bl/\l.bl<=l.bh/\l.bh<=1000000
theorem Mf {l:Leg} (h:BE l=true):Wn l:=by
 have hm:=G5 h;unfold BE at h;simp only [Bool.and_eq_true,CC] at h;exact ⟨hm,h.1.1.1.1.1.2.1,h.1.1.1.1.1.2.2,h.1.1.1.1.2,h.1.1.1.2⟩
structure mU (s:Shp):Prop where
 x: -10000000<=s.xl/\s.xl<=s.xh/\s.xh<=10000000
 y: -10000000<=s.yl/\s.yl<=s.yh/\s.yh<=10000000
 b:0<=s.bl/\s.bl<=s.bh/\s.bh<=1000000000000
 p:0<=s.drp/\s.drp<=1000000000000
theorem AAb {s:Shp} (h:A6 s=true):mU s:=by
 have hn:=MF h;unfold A6 at h;simp only [Bool.and_eq_true,CC] at h;exact ⟨h.1.1.1.1.1.1.1,h.1.1.1.1.1.1.2,h.1.1.1.2,hn.2⟩
theorem KH {s:Shp} (hb:VU s) (hx:mU s) (hg:Ar s.gas=true):A6 s=true:=by
 have h1:=hb.d;have h2:=hb.b;have h3:=hx.p;unfold A6;simp only [Bool.and_eq_true,CC];exact ⟨⟨⟨⟨⟨⟨⟨hx.x,hx.y⟩,hb.h⟩,hb.f,hb.w⟩,hx.b⟩,by simp [rgB];omega⟩,by simp [rgB];omega⟩,hg⟩
structure KI (k:Sky) (r:Rig) (s:Shp) (l:Leg):Prop where
 lo:r.lo<=(mhS s l).1
 hi:(mhS s l).2<=r.hi
 fit:∀ c∈(tkQ s.gas).cs,Lh c (atA k.s (mhS s l).1 (mhS s l).2).1=1
 rsv:r.rsv<=s.fl-l.bh
 trim:Il r.reg (N1 l) (hvS (KG s (Cj k r s l)) (atA k.s (mhS s l).1 (mhS s l).2).1)=true
 far:UC (Cj k r s l)=true
 full:s.bh+l.bh<=1000000000000
theorem Si {a:Atm} {cs:List Cel}:¬ 0<=ixF (EK a) cs↔∀ c∈cs,Lh c a=1:=by
 have h:=IZ (EK a) cs;by_cases h0:0<=ixF (EK a) cs
 . rw [decide_eq_true h0] at h
   obtain ⟨c,hc,hn⟩:=List.any_eq_true.1 h.symm;refine ⟨fun h=>absurd h0 h,fun h2=>?_⟩;have:=h2 c hc;unfold EK at hn;rw [decide_eq_true this] at hn;cases hn
 . rw [decide_eq_false h0] at h
   refine ⟨fun _ c hc=>?_,fun _=>h0⟩;have:=List.any_eq_false.1 h.symm c hc;unfold EK at this;by_cases he:Lh c a=1
   . exact he
   . rw [decide_eq_false he] at this;simp at this
theorem H2 {k:Sky} {r:Rig} {s n:Shp} {l:Leg}:HK k r s l= .ok n↔KI k r s l/\n=Cj k r s l:=by
 constructor
 . intro h
   unfold HK at h;split at h
   . rename_i he
     split at h
     . cases h
     . rename_i hf
       refine ⟨?_,(Except.ok.inj h).symm⟩;unfold ER at he;split at he
       . simp at he
       split at he
       . simp at he
       split at he
       . rename_i h3;simp at he
       split at he
       . simp at he
       split at he
       . simp at he
       split at he
       . simp at he
       rename_i h1 h2 h3 h4 h5 h6;exact ⟨by omega,by omega,Si.1 h3,by omega,by simpa using h5,by simpa using h6,by omega⟩
   . cases h
 . rintro ⟨h,rfl⟩
   have e:ER k r s l=(0,0):=by
     unfold ER;rw [if_neg (by have:=h.lo;omega),if_neg (by have:=h.hi;omega),if_neg (Si.2 h.fit),if_neg (by have:=h.rsv;omega),if_neg (by rw [h.trim];simp),if_neg (by rw [h.far];simp)]
   unfold HK;rw [e,if_pos rfl,if_neg (by have:=h.full;omega)]
def Ey (k:Sky) (r:Rig):Bool:=match k.s[0]? with
 | some x=>decide (x.h<=r.lo)&&decide (r.hi<=aj k.s)
 | none=>false
theorem jc {k:Sky} {r:Rig} (hk:BV k=true) (hr:Ey k r=true) {a b:Int} (h1:r.lo<=a) (h2:a<=b) (h3:b<=r.hi):yg k.s a b:=by
 unfold BV at hk;simp only [Bool.and_eq_true,decide_eq_true_eq] at hk
 have ho:OkS k.s:=by
   refine B8.1 ?_;have:=hk.1;unfold D3 at this;by_cases h:GC k.s=true
   . exact h
   . rw [if_neg h] at this;simp at this
 have hf:=(IQ ho).1 hk.1;have hl:=ho.len;obtain ⟨x,hx⟩:∃ x,k.s[0]?= some x:=⟨_,List.getElem?_eq_getElem (by omega)⟩
 obtain ⟨y,hy⟩:∃ y,k.s[k.s.length-1]?= some y:=⟨_,List.getElem?_eq_getElem (by omega)⟩
 unfold Ey aj at hr;rw [hx,hy] at hr;simp only [Bool.and_eq_true,decide_eq_true_eq] at hr;exact ACP ho hf h2 (NU hx hy (by omega) (by omega)) (NU hx hy (by omega) (by omega))
theorem mV {k:Sky} (hk:BV k=true):OkW k.w:=by
 unfold BV at hk;simp only [Bool.and_eq_true] at hk;exact L0 hk.2
theorem jd {s:Shp} {l:Leg} (hs:VU s) (hl:Wn l):(mhS s l).1<=(mhS s l).2:=by
 have h1:=hs.h;have h2:=hl.u;unfold mhS;simp only;omega
theorem je {k:Sky} {r:Rig} {s:Shp} {l:Leg} (hr:P5 r) (hs:A6 s=true) (hl:Wn l) (h:KI k r s l):A6 (Cj k r s l)=true:=by
 have hb:=GT hs;have hx:=AAb hs;have b1:=hb.h;have b2:=hb.f;have b3:=hb.w;have b4:=hx.b;have g1:=hr.g;have g2:=hr.t;have g3:=hr.v;have g4:=hr.h;have l1:=hl.u;have l2:=hl.b;have m1:=h.lo;have m2:=h.hi;have m3:=h.rsv;have m4:=h.full;have hfar:=h.far;have ge:=Me l2 g1;have p0:0<=l.bl*r.gl:=Int.mul_nonneg (by omega) (by omega);have p1:l.bl*r.gl<=l.bh*r.gh:=Int.mul_le_mul (by omega) (by omega) (by omega) (by omega);unfold mhS at m1 m2;simp only at m1 m2;unfold UC at hfar;simp only [Bool.and_eq_true,CC] at hfar;have htk:=Md (CR hs);refine KH ⟨?_,?_,?_,hb.d,hb.b,CS htk,Dx htk⟩ ⟨hfar.1,hfar.2,?_,hx.p⟩ htk
 . unfold Cj;simp only;omega
 . unfold Cj;simp only;omega
 . unfold Cj DY;rw [ge];simp only;omega
 . unfold Cj;simp only;omega
structure dI (s t:Shp):Prop where
 x:WB (s.xl,s.xh) (t.xl,t.xh)
 y:WB (s.yl,s.yh) (t.yl,t.yh)
 h:WB (s.hl,s.hh) (t.hl,t.hh)
 f:WB (s.fl,s.fh) (t.fl,t.fh)
 w:WB (s.wl,s.wh) (t.wl,t.wh)
 b:WB (s.bl,s.bh) (t.bl,t.bh)
 dry:s.dry=t.dry
 bal:s.bal=t.bal
 drp:s.drp=t.drp
 gas:s.gas=t.gas
structure Wid (a b:Rig):Prop where
 reg:a.reg=b.reg
 gl:a.gl=b.gl
 gh:a.gh=b.gh
 tank:a.tank=b.tank
 rsv:a.rsv<=b.rsv
 lo:a.lo<=b.lo
 hi:b.hi<=a.hi
def BN:Nat->List Leg->List (Nat × Nat)
 | _,[]=>[]
 | i,x::r=>(List.range x.m.toNat).map (fun m=>(i,m))++BN (i+1) r
abbrev Evt:=Int × Int × Int × Int
def ev0:Evt:=(0,0,0,0)
def FA (k:Sky) (r:Rig) (x:Leg) (m:Nat) (s:Shp):Except (Int × Int × Int) Shp:=
 if m=0 then match Ep s x with
   | .ok t=>HK k r t x
   | .error e=> .error (e,0,0)
 else HK k r s x
def FC (i m:Nat) (e:Int × Int × Int):Int × Evt:=(e.1,if e.1=54 then (e.2.1,i,m,e.2.2) else ev0)
def Dt (k:Sky) (r:Rig) (l:List Leg):List (Nat × Nat)->Shp->Except (Int × Evt) (List Shp)
 | [],_=> .ok []
 | (i,m)::rest,s=>match l[i]? with
   | none=> .error (0,ev0)
   | some x=>match FA k r x m s with
     | .error e=> .error (FC i m e)
     | .ok n=>match Dt k r l rest n with
       | .error e=> .error e
       | .ok ns=> .ok (n::ns)
def JC (k:Sky) (r:Rig) (s:Shp) (le:Int):Int:=
 if BV k then (if CF r then (if A6 s then (if le=0 then (if Ey k r then 0 else 2) else le) else 52) else 51) else 50
def HA (k:Sky) (r:Rig) (s:Shp) (l:List Leg):Except (Int × Evt) (List Shp):=
 if JC k r s (C0 l)=0 then Dt k r l (BN 0 l) s else .error (JC k r s (C0 l),ev0)
theorem zn:∀ {l:List Leg} {i:Nat} {p:Nat × Nat},p∈BN i l->∃ x,i<=p.1/\l[p.1-i]?= some x/\(p.2:Int)<x.m
 | [],i,p,h=>by simp [BN] at h
 | y::r,i,p,h=>by
   unfold BN at h;rcases List.mem_append.1 h with h | h
   . simp only [List.mem_map,List.mem_range] at h
     obtain ⟨m,hm,rfl⟩:=h;exact ⟨y,Nat.le_refl _,by simp,by simp only;omega⟩
   . obtain ⟨x,h1,h2,h3⟩:=zn h
     refine ⟨x,by omega,?_,h3⟩;rw [show p.1-i=(p.1-(i+1))+1 by omega,List.getElem?_cons_succ];exact h2
theorem Kv:∀ {l:List Leg} {i:Nat},(∀ x∈l,BE x=true)->((BN i l).length:Int)=Cv l
 | [],i,_=>by simp [BN,Cv]
 | y::r,i,h=>by
   have h1:=G5 (h y (by simp));have h2:=Kv (l:=r) (i:=i+1) fun x hx=>h x (by simp [hx])
   unfold Cv at h2 ⊢;unfold BN;simp only [List.length_append,List.length_map,List.length_range,List.map_cons,List.sum_cons];omega
structure Jt (p q:Plt):Prop where
 bt:q.bt=p.bt
 ih:q.ih=p.ih
 ia:q.ia=p.ia
 ph:q.ph=p.ph
 pa:q.pa=p.pa
 n:q.cs.length=p.cs.length
theorem Jt.refl (p:Plt):Jt p p:=⟨rfl,rfl,rfl,rfl,rfl,rfl⟩
theorem Jt.trans {p q r:Plt} (h:Jt p q) (g:Jt q r):Jt p r:=⟨g.bt.trans h.bt,g.ih.trans h.ih,g.ia.trans h.ia,g.ph.trans h.ph,g.pa.trans h.pa,g.n.trans h.n⟩
theorem ND {p q:Plt} (h:g7 p= .ok q):q=p:=by
 unfold g7 at h;split at h
 . exact (Except.ok.inj h).symm
 . cases h
theorem pL {p q:Plt} {a:Act} (h:doS p a= .ok q):Jt p q:=by
 unfold doS vlS mvS at h
 repeat' split at h
 all_goals first
   | (cases h;done)
   | (have e:=ND h;subst e;exact ⟨rfl,rfl,rfl,rfl,rfl,by simp [vlP]⟩)
   | (have e:=ND h;subst e;exact ⟨rfl,rfl,rfl,rfl,rfl,by simp [mvP]⟩)
   | (have e:=ND h;subst e;exact ⟨rfl,rfl,rfl,rfl,rfl,by simp [tkQ]⟩)
theorem Kw:∀ {acts:List Act} {p:Plt} {i:Nat},Ar p=true->(B7 p acts i).2.2=0->Ar (B7 p acts i).1=true/\Jt p (B7 p acts i).1
 | [],p,i,h,_=>⟨h,Jt.refl p⟩
 | a::r,p,i,h,he=>by
   unfold B7 at he ⊢;cases hd:doS p a with
   | ok q=>
     rw [hd] at he;simp only at he ⊢;have:=Kw (Zn hd) he;exact ⟨this.1,(pL hd).trans this.2⟩
   | error e=>
     rw [hd] at he;exact absurd he (Tb hd)
theorem NE {s t:Shp} {x:Leg}:Ep s x= .ok t↔((B7 s.gas x.acts 0).2.2=0/\x.dr<=s.bal/\s.drp+x.dr<=1000000000000)/\t={s with gas:=(B7 s.gas x.acts 0).1,bal:=s.bal-x.dr,drp:=s.drp+x.dr}:=by
 unfold Ep;constructor
 . intro h
   split at h
   . rename_i h1
     split at h
     . cases h
     split at h
     . cases h
     rename_i h2 h3;exact ⟨⟨h1,by omega,by omega⟩,(Except.ok.inj h).symm⟩
   . cases h
 . rintro ⟨⟨h1,h2,h3⟩,rfl⟩
   rw [if_pos h1,if_neg (by omega),if_neg (by omega)]
theorem ZC {s t:Shp} {x:Leg} (hs:A6 s=true) (hx:BE x=true) (h:Ep s x= .ok t):A6 t=true:=by
 obtain ⟨⟨h1,h2,h3⟩,rfl⟩:=NE.1 h;have hb:=GT hs;have hX:=AAb hs;have q:=Kz hx;have hp:=(Kw (CR hs) h1).1;have b1:=hb.b;have p1:=hX.p;exact KH ⟨hb.h,hb.f,hb.w,hb.d,by simp only;omega,CS hp,Dx hp⟩ ⟨hX.x,hX.y,hX.b,by simp only;omega⟩ hp
structure Va (k:Sky) (r:Rig):Prop where
 sky:BV k=true
 rig:P5 r
 rng:Ey k r=true
theorem Ib {k:Sky} {r:Rig} {x:Leg} {m:Nat} {s n:Shp}:FA k r x m s= .ok n↔∃ t,(if m=0 then Ep s x= .ok t else t=s)/\KI k r t x/\n=Cj k r t x:=by
 unfold FA;by_cases hm:m=0
 . rw [if_pos hm]
   constructor
   . intro h
     cases hb:Ep s x with
     | ok t=>rw [hb] at h;exact ⟨t,by rw [if_pos hm],H2.1 h⟩
     | error e=>rw [hb] at h;cases h
   . rintro ⟨t,h1,h2⟩
     rw [if_pos hm] at h1;rw [h1];exact H2.2 h2
 . rw [if_neg hm]
   constructor
   . intro h
     exact ⟨s,by rw [if_neg hm],H2.1 h⟩
   . rintro ⟨t,h1,h2⟩
     rw [if_neg hm] at h1;subst h1;exact H2.2 h2
theorem Ow {x:Leg} {m:Nat} {s t:Shp} (hs:A6 s=true) (hx:BE x=true) (h:if m=0 then Ep s x= .ok t else t=s):A6 t=true:=by
 by_cases hm:m=0
 . rw [if_pos hm] at h;exact ZC hs hx h
 . rw [if_neg hm] at h;subst h;exact hs
theorem Q7 {k:Sky} {r:Rig} (hT:Va k r) {x:Leg} {m:Nat} {s n:Shp} (hs:A6 s=true) (hx:BE x=true) (h:FA k r x m s= .ok n):A6 n=true:=by
 obtain ⟨t,h1,h2,rfl⟩:=Ib.1 h;exact je hT.rig (Ow hs hx h1) (Mf hx) h2
theorem dI.refl (s:Shp):dI s s:=by
 refine ⟨?_,?_,?_,?_,?_,?_,rfl,rfl,rfl,rfl⟩<;>exact ⟨Int.le_refl _,Int.le_refl _⟩
theorem Wid.refl (r:Rig):Wid r r:=⟨rfl,rfl,rfl,rfl,Int.le_refl _,Int.le_refl _,Int.le_refl _⟩
def fR:List Shp->List Shp->Prop
 | [],[]=>True
 | a::r,b::q=>dI a b/\fR r q
 | _,_=>False
theorem fR.at:∀ {a b:List Shp},fR a b->a.length=b.length/\∀ (i:Nat) (x y:Shp),a[i]?= some x->b[i]?= some y->dI x y
 | [],[],_=>⟨rfl,fun i x y h=>by simp at h⟩
 | a::r,b::q,h=>by
   obtain ⟨h1,h2⟩:=fR.at h.2;refine ⟨by simp [h1],fun i x y hx hy=>?_⟩;cases i with
   | zero=>simp at hx hy;subst hx hy;exact h.1
   | succ i=>exact h2 i x y (by simpa using hx) (by simpa using hy)
 | [],_::_,h=>h.elim
 | _::_,[],h=>h.elim
section
variable {k:Sky} {r:Rig} {l:List Leg}
theorem F5 {i m:Nat} {rest:List (Nat × Nat)} {s:Shp} {ns:List Shp}:Dt k r l ((i,m)::rest) s= .ok ns↔∃ x n q,l[i]?= some x/\FA k r x m s= .ok n/\Dt k r l rest n= .ok q/\ns=n::q:=by
 conv=>lhs;unfold Dt
 constructor
 . intro h
   split at h
   . cases h
   rename_i x hx;split at h
   . cases h
   rename_i n hn;split at h
   . cases h
   rename_i q hq;exact ⟨x,n,q,hx,hn,hq,(Except.ok.inj h).symm⟩
 . rintro ⟨x,n,q,hx,hn,hq,rfl⟩
   rw [hx];simp only;rw [hn];simp only;rw [hq]
theorem TN {s:Shp} {x:Leg} {e:Int × Int × Int} (h:HK k r s x= .error e):¬ e.1=0:=by
 unfold HK at h;split at h
 . split at h
   . cases h;decide
   . cases h
 . cases h;simp
theorem TP {s:Shp} {x:Leg} {e:Int} (h:Ep s x= .error e):¬ e=0:=by
 unfold Ep at h;split at h
 . split at h
   . cases h;decide
   split at h
   . cases h;decide
   . cases h
 . rename_i h1;cases h;exact h1
theorem fU {s:Shp} {x:Leg} {m:Nat} {e:Int × Int × Int} (h:FA k r x m s= .error e):¬ e.1=0:=by
 unfold FA at h;split at h
 . split at h
   . exact TN h
   . rename_i e' he;cases h;exact TP he
 . exact TN h
theorem NF:∀ {im:List (Nat × Nat)} {s:Shp} {e:Int × Evt},(∀ p∈im,∃ x,l[p.1]?= some x)->Dt k r l im s= .error e->¬ e.1=0/\((e.1=54/\¬ e.2.1=0/\∃ p∈im,e.2.2.1=p.1/\e.2.2.2.1=p.2)\/(¬ e.1=54/\e.2=ev0))
 | [],s,e,_,h=>by cases h
 | (i,m)::rest,s,e,hm,h=>by
   unfold Dt at h;obtain ⟨x,hx⟩:=hm (i,m) (by simp);rw [hx] at h;simp only at h;split at h
   . rename_i e' he
     cases h;have h1:=fU he;refine ⟨h1,?_⟩;unfold FC;simp only;by_cases h5:e'.1=54
     . refine .inl ⟨h5,?_,(i,m),by simp,?_,?_⟩
       . rw [if_pos h5]
         have key:∀ t:Shp,HK k r t x= .error e'->¬ e'.2.1=0:=fun t ht=>by
           unfold HK at ht;split at ht
           . split at ht
             . cases ht;simp at h5
             . cases ht
           . rename_i hz;cases ht;exact hz
         have hbeg:∀ t:Shp,∀ e:Int,Ep t x= .error e->¬ e=54:=fun t e ht=>by
           have pe:∀ {acts:List Act} {p:Plt} {i:Nat},¬ (B7 p acts i).2.2=54:=by
             intro acts;induction acts with
             | nil=>intro p i;simp [B7]
             | cons a rr ih=>
               intro p i;unfold B7;cases hd:doS p a with
               | ok q=>exact ih
               | error e=>
                 show ¬ e=54
                 unfold doS vlS mvS at hd
                 repeat' split at hd
                 all_goals first | (have:=K8 hd;omega) | (cases hd;omega)
           unfold Ep at ht;split at ht
           . split at ht
             . cases ht;decide
             split at ht
             . cases ht;decide
             . cases ht
           . cases ht;exact pe
         unfold FA at he;split at he
         . split at he
           . exact key _ he
           . rename_i e2 he2;cases he;exact absurd h5 (hbeg _ _ he2)
         . exact key _ he
       . rw [if_pos h5]
       . rw [if_pos h5]
     . exact .inr ⟨h5,by rw [if_neg h5]⟩
   . rename_i n hn
     split at h
     . rename_i e' he
       cases h;obtain ⟨h1,h2⟩:=NF (fun p hp=>hm p (by simp [hp])) he;refine ⟨h1,?_⟩;rcases h2 with ⟨h2,h3,p,hp,h4⟩ | h2
       . exact .inl ⟨h2,h3,p,by simp [hp],h4⟩
       . exact .inr h2
     . cases h
structure JD (r:Rig) (s t:Shp) (n:Nat):Prop where
 drop:t.bal+t.drp=s.bal+s.drp
 lo:t.fl+t.bh=s.fl+s.bh
 hi:t.fh+t.bl=s.fh+s.bl
 dry:t.dry=s.dry
 gas:Jt s.gas t.gas
 burn:s.bh<=t.bh
 water:100*(t.wh-s.wh)<=(t.bh-s.bh)*r.gh+99*n
theorem JD.refl (r:Rig) (s:Shp):JD r s s 0:=⟨rfl,rfl,rfl,rfl,Jt.refl _,Int.le_refl _,by simp⟩
theorem JD.trans {r:Rig} {s t u:Shp} {n m:Nat} (h:JD r s t n) (g:JD r t u m):JD r s u (n+m):=by
 obtain ⟨a1,a2,a3,a4,a5,a6,a7⟩:=h;obtain ⟨b1,b2,b3,b4,b5,b6,b7⟩:=g;refine ⟨by omega,by omega,by omega,by omega,a5.trans b5,by omega,?_⟩;have e:(u.bh-s.bh)*r.gh=(u.bh-t.bh)*r.gh+(t.bh-s.bh)*r.gh:=by rw [<-Int.add_mul];congr 1;omega
 omega
end
end Go.Proofs.Tryz
namespace Go.Proofs.Tryz
open Go.Psl
open Go.Air
def B1:Sky:=⟨[⟨0,10000,10000,2800,2800⟩,⟨1000,8850,8853,2800,2800⟩],[⟨0,10,20,0,0,0⟩]⟩
def exReg:List (Int × Int):=[(0, -2000),(200, -2000),(200,2000),(0,2000)]
def DM:Rig:=⟨exReg,50,100,30,100,0,900⟩
def Tg:Plt:=⟨[⟨70,220,0,0,0,0,0⟩],0,220,0,0,0,0,0,0,0⟩
def CZ:Shp:=⟨0,0,0,0,100,100,1000,1000,0,0,0,0,4000,500,0,Tg⟩
def exLeg:Leg:=⟨2,100,100,0,0,40,60,10,20,100,[]⟩
def exA:Shp:=⟨660,720,0,0,140,160,980,990,5,20,10,20,4000,400,100,Tg⟩
def exB:Shp:=⟨1320,1440,0,0,180,220,960,980,10,30,20,40,4000,400,100,Tg⟩
theorem gm:Fb exReg=exReg:=by
 rw [bf (m:=[(0, -2000),(0,2000),(200, -2000),(200,2000)]) (by decide+kernel) (by decide+kernel)];decide+kernel
theorem R8:C7 exReg=true:=by
 unfold C7;rw [gm];decide+kernel
theorem au:BV B1=true:=by decide+kernel
theorem qH:hvA B1 CZ=((0,0),0):=by decide+kernel
theorem Th:A6 CZ=true:=by decide+kernel
theorem lu:CF DM=true:=by
 unfold CF;rw [show DM.reg=exReg from rfl,R8];decide+kernel
def HH:Rig:={DM with hi:=219}
theorem AGC:CF HH=true:=by
 unfold CF;rw [show HH.reg=exReg from rfl,R8];decide+kernel
theorem NX (s h:Int × Int) (hh:(okC (s.1,h.1)&&Lj exReg (s.1,h.1))&&(okC (s.1,h.2)&&Lj exReg (s.1,h.2))&&(okC (s.2,h.1)&&Lj exReg (s.2,h.1))&&(okC (s.2,h.2)&&Lj exReg (s.2,h.2))=true):Il exReg s h=true:=by
 unfold Il inV;rw [R8];simpa using hh
def exT:Shp:={CZ with bal:=400,drp:=100}
theorem aw:Ep CZ exLeg= .ok exT:=NE.2 ⟨by decide+kernel,rfl⟩
theorem gp:KI B1 DM exT exLeg:=⟨by decide+kernel,by decide+kernel,by decide+kernel,by decide+kernel,NX _ _ (by decide+kernel),by decide+kernel,by decide+kernel⟩
theorem AFK:exA=Cj B1 DM exT exLeg:=by kernel_rfl
theorem gr:KI B1 DM exA exLeg:=⟨by decide+kernel,by decide+kernel,by decide+kernel,by decide+kernel,NX _ _ (by decide+kernel),by decide+kernel,by decide+kernel⟩
theorem gt:exB=Cj B1 DM exA exLeg:=by kernel_rfl
theorem gu:KI B1 HH exT exLeg:=⟨by decide+kernel,by decide+kernel,by decide+kernel,by decide+kernel,NX _ _ (by decide+kernel),by decide+kernel,by decide+kernel⟩
theorem gv:exA=Cj B1 HH exT exLeg:=by kernel_rfl
theorem gw:HK B1 HH exA exLeg= .error (54,2,0):=by
 have e:ER B1 HH exA exLeg=(2,0):=by
   unfold ER;rw [if_neg (by decide+kernel),if_pos (by decide+kernel)]
 unfold HK;rw [e,if_neg (by decide)]
theorem AF7 {r:Rig} {s t:Shp} (hb:Ep s exLeg= .ok t) {n:Shp} (h:KI B1 r t exLeg) (hn:n=Cj B1 r t exLeg):FA B1 r exLeg 0 s= .ok n:=Ib.2 ⟨t,by rw [if_pos rfl];exact hb,h,hn⟩
theorem lv:HA B1 DM CZ [exLeg]= .ok [exA,exB]:=by
 have h0:JC B1 DM CZ (C0 [exLeg])=0:=by
   unfold JC;rw [au,lu,Th];decide+kernel
 unfold HA;rw [if_pos h0,show BN 0 [exLeg]=[(0,0),(0,1)] from rfl];exact F5.2 ⟨exLeg,exA,[exB],rfl,AF7 aw gp AFK,F5.2 ⟨exLeg,exB,[],rfl,Ib.2 ⟨exA,by rw [if_neg (by decide)],gr,gt⟩,rfl,rfl⟩,rfl⟩
theorem lz:HA B1 HH CZ [exLeg]= .error (54,2,0,1,0):=by
 have h0:JC B1 HH CZ (C0 [exLeg])=0:=by
   unfold JC;rw [au,AGC,Th];decide+kernel
 have e1:=AF7 aw gu gv;have e2:FA B1 HH exLeg 1 exA= .error (54,2,0):=by unfold FA;rw [if_neg (by decide)];exact gw
 unfold HA;rw [if_pos h0,show BN 0 [exLeg]=[(0,0),(0,1)] from rfl];unfold Dt;rw [show ([exLeg]:List Leg)[0]?= some exLeg from rfl];simp only;rw [e1];simp only;unfold Dt;rw [show ([exLeg]:List Leg)[0]?= some exLeg from rfl];simp only;rw [e2];rfl
theorem ZM (lo hi:Int):Ct prog 51 [vi lo,vi hi] (vsp lo hi) []:=by
 refine CB func51 c51 fun E hE=>?_
 simp [p51,AA];apply RZ;simp [results51]
theorem pT:Ct prog 66 [] (.agg [.ls 0 0 2 5, .ls 1 0 1 6]) [(0,AH A5 B1.s),(1,AH galL B1.w)]:=by
 have sp:=ZM
 show Ct prog 66 [] (.agg [.ls 0 0 2 5, .ls 1 0 1 6]) [(0,[vi 0,vi 10000,vi 10000,vi 2800,vi 2800,vi 1000,vi 8850,vi 8853,vi 2800,vi 2800]),(1,[vi 0,vi 10,vi 20,vi 0,vi 0,vi 0])]
 refine CB func66 c66 fun E hE=>?_
 simp [p66]
 repeat ((first | (refine CLt (sp 10000 10000) ?_ ?_;(focus (simp;done))) | (refine CLt (sp 2800 2800) ?_ ?_;(focus (simp;done))) | (refine CLt (sp 8850 8853) ?_ ?_;(focus (simp;done))) | (refine CLt (sp 10 20) ?_ ?_;(focus (simp;done))));simp [AA,AM])
 refine AB.by (lk [(0,7340032),(1,11534336)]) ?_;simp [results66]
theorem fn66:Ct prog 66 [] (Eu B1) []:=by
 refine Cm.freeze pT ?_;exact ⟨⟨_,rfl,B0 (f:=A5) (fun _=>rfl) (l:=B1.s) (by simp)⟩,⟨_,rfl,B0 (f:=galL) (fun _=>rfl) (l:=B1.w) (by simp)⟩,trivial⟩
theorem pU:Ct prog 67 [] (.agg [.ls 0 0 4 2,vi 50,vi 100,vi 30,vi 100,vi 0,vi 900]) [(0,[vi 0,vi (-2000),vi 200,vi (-2000),vi 200,vi 2000,vi 0,vi 2000])]:=by
 have sp:=ZM;refine CB func67 c67 fun E hE=>?_
 simp [p67,AA,AM]
 repeat ((first | (refine CLt (sp 50 100) ?_ ?_;(focus (simp;done))));simp [AA])
 refine AB.by (lk [(0,5242880)]) ?_;simp [results67]
theorem fn67:Ct prog 67 [] (Fj DM) []:=by
 refine Cm.freeze pU ?_;have z:∀ (H:Hp) (x:Int),FzC H (vi x) (vi x):=fun H x=>⟨_,rfl, .inl rfl⟩
 exact ⟨⟨_,rfl,z6 exReg rfl rfl⟩,z _ _,z _ _,z _ _,z _ _,z _ _,z _ _,trivial⟩
theorem km:Ct prog 64 [] (Cl CZ (.ls 0 0 1 7)) [(0,[vi 70,vi 220,vi 0,vi 0,vi 0,vi 0,vi 0])]:=by
 have sp:=ZM
 show Ct prog 64 [] (.agg [vi 0,vi 0,vi 0,vi 0,vi 100,vi 100,vi 1000,vi 1000,vi 0,vi 0,vi 0,vi 0,vi 4000,vi 500,vi 0, .ls 0 0 1 7,vi 0,vi 220,vi 0,vi 0,vi 0,vi 0,vi 0,vi 0,vi 0]) _
 refine CB func64 c64 fun E hE=>?_
 simp [p64]
 repeat ((first | (refine CLt (sp 100 100) ?_ ?_;(focus (simp;done))) | (refine CLt (sp 1000 1000) ?_ ?_;(focus (simp;done))));simp [AA,AM])
 refine AB.by (lk [(0,4194304)]) ?_;simp [results64]
theorem fn64:Ct prog 64 [] (Cl CZ (.d (AX CZ.gas.cs))) []:=by
 refine Cm.freeze km ?_;have z:∀ (H:Hp) (x:Int),FzC H (vi x) (vi x):=fun H x=>⟨_,rfl, .inl rfl⟩
 exact ⟨z _ _,z _ _,z _ _,z _ _,z _ _,z _ _,z _ _,z _ _,z _ _,z _ _,z _ _,z _ _,z _ _,z _ _,z _ _,⟨_,rfl,B0 (f:=AP) Nr (l:=Tg.cs) rfl⟩,z _ _,z _ _,z _ _,z _ _,z _ _,z _ _,z _ _,z _ _,z _ _,trivial⟩
theorem pV:Ct prog 65 [] (.agg [vi 2,vi 100,vi 100,vi 0,vi 0,vi 40,vi 60,vi 10,vi 20,vi 100, .d (.lit (.slice none 0 0))]) []:=by
 have sp:=ZM;refine CB func65 c65 fun E hE=>?_
 simp [p65]
 repeat ((first | (refine CLt (sp 100 100) ?_ ?_;(focus (simp;done))) | (refine CLt (sp 40 60) ?_ ?_;(focus (simp;done))) | (refine CLt (sp 10 20) ?_ ?_;(focus (simp;done))));simp [AA])
 apply RZ;simp [results65]
theorem fn65:Ct prog 65 [] (AKx exLeg) []:=by
 refine Cm.freeze pV ?_;have z:∀ (H:Hp) (x:Int),FzC H (vi x) (vi x):=fun H x=>⟨_,rfl, .inl rfl⟩
 exact ⟨z _ _,z _ _,z _ _,z _ _,z _ _,z _ _,z _ _,z _ _,z _ _,z _ _,⟨_,rfl, .inr ⟨rfl,_,rfl⟩⟩,trivial⟩
end Go.Proofs.Tryz
namespace Go.Psl
variable {P:Program}
theorem Cm.give {f:FuncId} {args args':List V} {Hin:Hp} {res:Res} {H1:Hp} (h:Cm P f args (fun _=>none) [] res H1) (hf:AJ (Fz1 Hin) args' args):Cm P f args' Hin [] res H1:=by
 refine ⟨h.1,fun G W xs him hargs hpre=>?_⟩
 have him':∀ b,Jw G Hin b->b<W.heap.size:=fun b hb=>by
   rcases hb with hb | ⟨i,hi,hph,rfl⟩
   . exact him b hb
   . cases hc:Hin i with
     | none=>simp [InH,hc] at hi
     | some cs=>
       rcases hpre.hb i cs hc with ⟨h1,_⟩ | ⟨_,_,_,c,T,h3,_⟩ | ⟨_,_,_,⟨_,fr,nt,ps,pa,pb,jmp,rec,_,h4,_⟩ | ⟨_,es,ms,ck,_,h4,_⟩⟩
       . rw [h1] at hph;cases hph
       . exact (Array.getElem?_eq_some_iff.1 h3).1
       . exact (Array.getElem?_eq_some_iff.1 h4).1
       . exact (Array.getElem?_eq_some_iff.1 h4).1
 have hargs':AJ (R2 {G with Im:=Jw G Hin} W) args xs.toList:=AJ.of_get (by rw [<-hf.length,hargs.length]) fun i a x ha hx=>by
   obtain ⟨a',ha',hr⟩:=hf.get2 ha;obtain ⟨y,hy,hry⟩:=hargs.get ha';rw [hx] at hy;cases hy;exact fz1 hpre.hb hr hry
 have hno:∀ b,¬ Bm {G with Im:=Jw G Hin} (fun _=>none) b:=fun b ⟨i,hi,_⟩=>by simp [InH] at hi
 refine Calls.mono (h.2 {G with Im:=Jw G Hin} W xs him' hargs' ⟨fun i cs hc=>(by cases hc),fun i j hi=>(by simp [InH] at hi),fun i hi=>(by cases hi)⟩) fun e W' ⟨G',p⟩=>?_
 refine ⟨G',p.os,p.tape,p.output,p.drawn,p.size,fun b hb _=>p.block b hb (hno b),fun b hb=>?_,fun b hb=>p.im0 b (.inl hb),p.rv,p.wf,fun i cs hc=>?_,p.inj,fun i hi=>(by cases hi)⟩
 . obtain ⟨h1,h2⟩:=p.im b hb
   refine ⟨h1,?_⟩;rcases h2 with (h2 | ⟨i,hi,hph,rfl⟩) | h2 | h2
   . exact .inl h2
   . exact .inr (.inr ⟨i,hi,hph,rfl⟩)
   . exact .inr (.inl h2)
   . exact absurd h2 (hno b)
 . obtain ⟨h1,h2,h3⟩:=p.hb i cs hc
   refine ⟨h1,fun hp=>?_,h3⟩;rcases h2 hp with h2 | h2
   . exact .inl h2
   . exact absurd h2 (hno _)
end Go.Psl
