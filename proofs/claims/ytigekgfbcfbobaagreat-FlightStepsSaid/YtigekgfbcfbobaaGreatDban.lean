/- Own lemmas, used by the last text. Conditions: those that each theorem states. -/
import Derived.Shelf.SlSortCmp.NoneTotal
import Derived.Test.YtigekgfbcfbobaaGreatDbad
import Derived.Test.YtigekgfbcfbobaaGreatDbaf
import Derived.Test.YtigekgfbcfbobaaGreatDbag
import Derived.Test.YtigekgfbcfbobaaGreatDbah
import Derived.Test.YtigekgfbcfbobaaGreatDbaj
import Derived.Test.YtigekgfbcfbobaaGreatDbak
import Derived.Test.YtigekgfbcfbobaaGreatDbal
import Derived.Test.YtigekgfbcfbobaaGreatDbam
import Derived.Test.YtigekgfbcfbobaaGreatProg
set_option maxRecDepth 200000
set_option maxHeartbeats 8000000
namespace Go.Psl
variable {P:Program}
def LdA (H:Hp) (v c:V):Prop:=Fz1 H v c\/FzR H v c
theorem lda {G:Gh} {W:World} {H:Hp} (hp:∀ id cs,H id=some cs->HB G W id cs) {v c:V} {x:Value} (hb:LdA H v c) (hx:R2 G W v x):R2 {G with Im:=Jw G H} W c x:=by
 rcases hb with hb | hb
 . exact fz1 hp hb hx
 . exact R1.r2 (R0.r1 (ze hp hb (R2.rv hx)))
theorem wo {G G':Gh} {W W':World}:De (fun _=>False) B9 (fun i=>i) G W G' W':=⟨fun _ h=>h.elim,fun x v ⟨w,hw⟩ hx=>by subst hw;cases hx;exact RD.lit _ (by assumption)⟩
theorem Cm.lend {f:FuncId} {args args':List V} {r:V} {L:Hp} {ks:List Nat} (h:Ct P f args r []) (hf:AJ (LdA L) args' args) (hr:AV (fun _=>False) B9 r) (hw:∀ i cs,L i=some cs->∀ c∈cs,AC (InH L) AR c):Cm P f args' L ks (.ret r) L:=by
 refine ⟨h.1,fun G W xs him hargs hpre=>?_⟩
 have hlt:∀ i,InH L i->G.ph i=false->G.β i < W.heap.size:=fun i hi hph=>by
   obtain ⟨cs,hc⟩:=Option.isSome_iff_exists.1 hi;exact (hpre.hb i cs hc).lt hph
 have him':∀ b,Jw G L b->b < W.heap.size:=fun b hb=>by
   rcases hb with hb | ⟨i,hi,hph,rfl⟩
   . exact him b hb
   . exact hlt i hi hph
 have hargs':AJ (R2 {G with Im:=Jw G L} W) args xs.toList:=AJ.of_get (by rw [<-hf.length,hargs.length]) fun i a x ha hx=>by
   obtain ⟨a',ha',hr⟩:=hf.get2 ha;obtain ⟨y,hy,hry⟩:=hargs.get ha';rw [hx] at hy;cases hy;exact lda hpre.hb hr hry
 have hno:∀ b,¬ Bm {G with Im:=Jw G L} (fun _=>none) b:=fun b ⟨i,hi,_⟩=>by simp [InH] at hi
 refine Calls.mono (h.2 {G with Im:=Jw G L} W xs him' hargs' ⟨fun i cs hc=>(by cases hc),fun i j hi=>(by simp [InH] at hi),fun i hi=>(by cases hi)⟩) fun e W' ⟨G',p⟩=>?_
 have hsame:∀ b,b < W.heap.size->W'.heap[b]?= W.heap[b]?:= fun b hb=>p.block b hb (hno b)
 have hchg:Chg (fun _=>True) G W G W':=⟨fun _ _=>⟨rfl,rfl,rfl,rfl⟩,fun b hb=>⟨hb,hsame b (him b hb)⟩⟩
 refine ⟨G,p.os,p.tape,p.output,p.drawn,p.size,fun b hb _=>hsame b hb,fun b hb=>⟨Nat.lt_of_lt_of_le (him b hb) p.size, .inl hb⟩,fun b hb=>hb,?_,?_,fun i cs hc=>⟨?_,fun hph=> .inr ⟨i,by show (L i).isSome=true;rw [hc];rfl,hph,rfl⟩,hw i cs hc⟩,hpre.inj,fun i hi _=>⟨rfl,rfl,(hpre.st i hi).2,rfl⟩⟩
 . have hrv:=p.rv
   cases e with
   | returned v=>exact wo.sv hr hrv
   | _=>exact hrv.elim
 . exact AV.mono (fun _ h=>h.elim) (fun _ _=>trivial) hr
 . refine hchg.hb trivial (fun c hcc=>AC.mono (fun _ _=>trivial) (fun _ h=>h) (hw i cs hc c hcc)) (hpre.hb i cs hc) (fun hph=>hsame _ (hlt i (by show (L i).isSome=true;rw [hc];rfl) hph)) (fun h _=>h)
end Go.Psl
namespace Go.Proofs.Tryz
open Go.Psl
open Go.Air
def DoO (p:Plt) (a:Act) (r:Except Int Plt):Prop:=match r with
 | .ok q=>Ct prog 128 [Cy p (.d (AX p.cs)),BZ a] (.tup [Cy q (.ls 0 0 q.cs.length 7),vi 0]) [(0,AH AP q.cs)]
 | .error e=>Ct prog 128 [Cy p (.d (AX p.cs)),BZ a] (.tup [.agg plZ,vi e]) []
theorem so {p q:Plt} {a:Act} {n:Nat} (hn:q.cs.length=n) (h:Ct prog 128 [Cy p (.d (AX p.cs)),BZ a] (.tup [Cy q (.ls 0 0 n 7),vi 0]) [(0,AH AP q.cs)]):DoO p a (.ok q):=by
 subst hn;exact h
theorem ry {p q:Plt} {a:Act} (h1:Ar q=true->DoO p a (.ok q)) (h2:Ar q=false->Ct prog 128 [Cy p (.d (AX p.cs)),BZ a] (.tup [.agg plZ,vi 9]) []):DoO p a (Hm q):=by
 unfold Hm;cases h:Ar q
 . exact h2 h
 . exact h1 h
theorem y6 (p:Plt) (a:Act) (h:Ar p=true) (hk:a.k=3):DoO p a (doS p a):=by
 have hl:=CS h;have hcs:=Dx h;obtain ⟨_,_,v1,v2,_⟩:=K9 (K7 h);have e:doS p a=vlS p a:=by simp [doS,h,hk]
 rw [e];by_cases he:p.cs=[]
 . have:inA p.cs.length a=false:=by
     cases hx:inA p.cs.length a
     . rfl
     . have:=EQ.1 hx;rw [he] at this;simp at this;omega
   have e2:vlS p a= .error 2:=by simp [vlS,this]
   rw [e2];exact kz p a h hk he
 . cases hx:inA p.cs.length a with
   | false=>
     have e2:vlS p a= .error 2:=by simp [vlS,hx]
     rw [e2];exact Py p a 2 (by omega) h hk he (Vw p p.cs a (by omega) he hx)
   | true=>
     obtain ⟨c,hc⟩:=Zm hx;have hb:=hcs c (List.mem_of_getElem? hc);by_cases hn:a.n<=c.he+c.ai
     . have e2:vlS p a=Hm (vlP p a c):=by simp [vlS,hx,hc,hn]
       rw [e2];have d:=aV p p.cs a c (by omega) hx hc hb hn v1 v2;have hq:(vlP p a c).cs.length=p.cs.length:=by simp [vlP]
       exact ry (fun ho=>so hq (ABg p (vlP p a c) a (by omega) h hk he hq ho d)) fun ho=>WY p (vlP p a c) a (by omega) h hk he hq ho d
     . have e2:vlS p a= .error 6:=by simp [vlS,hx,hc,hn]
       rw [e2];exact Py p a 6 (by omega) h hk he (Vx p p.cs a c (by omega) hx hc hb (by omega))
theorem y7 (p:Plt) (a:Act) (h:Ar p=true) (hk:a.k=4):DoO p a (doS p a):=by
 have hl:=CS h;have hcs:=Dx h;have e:doS p a=mvS p a:=by simp [doS,h,hk]
 rw [e];by_cases he:p.cs=[]
 . have:inA p.cs.length a=false:=by
     cases hx:inA p.cs.length a
     . rfl
     . have:=EQ.1 hx;rw [he] at this;simp at this;omega
   have e2:mvS p a= .error 2:=by simp [mvS,this]
   rw [e2];exact lA p a h hk he
 . cases hx:inA p.cs.length a with
   | false=>
     have e2:mvS p a= .error 2:=by simp [mvS,hx]
     rw [e2];exact LW p a 2 (by omega) h hk he (an p p.cs a (by omega) he hx)
   | true=>
     cases ht:inT p.cs.length a with
     | false=>
       have e2:mvS p a= .error 2:=by simp [mvS,hx,ht]
       rw [e2];exact LW p a 2 (by omega) h hk he (ap p p.cs a (by omega) hx ht)
     | true=>
       obtain ⟨c,hc⟩:=Zm hx;obtain ⟨g,hg⟩:=lE ht;have hb:=hcs c (List.mem_of_getElem? hc);have hbg:=hcs g (List.mem_of_getElem? hg);by_cases hn:a.n<=c.he+c.ai
       . have e2:mvS p a=Hm (mvP p a c g):=by simp [mvS,hx,ht,hc,hg,hn]
         rw [e2];have d:=gi p p.cs a c g (by omega) hx ht hc hg hb hbg hn;have hq:(mvP p a c g).cs.length=p.cs.length:=by simp [mvP]
         exact ry (fun ho=>so hq (cT p (mvP p a c g) a (by omega) h hk he hq ho d)) fun ho=>WZ p (mvP p a c g) a (by omega) h hk he hq ho d
       . have e2:mvS p a= .error 6:=by simp [mvS,hx,ht,hc,hg,hn]
         rw [e2];exact LW p a 6 (by omega) h hk he (aq p p.cs a c (by omega) hx ht hc hb (by omega))
theorem y8 (p:Plt) (a:Act) (h:Ar p=true) (hk:a.k=7) (h1:a.n=1):DoO p a (doS p a):=by
 have hl:=CS h;have hcs:=Dx h;obtain ⟨_,_,_,_,v1,v2,_⟩:=K9 (K7 h);have e:doS p a=Hm (tkQ p):=by simp [doS,h,hk]
 rw [e];by_cases he:p.cs=[]
 . have e3:tkQ p=p:=by
     unfold tkQ tkP tkH tkA;cases p;simp at he;simp [he]
   rw [e3];refine ry (fun _=>so (n:=0) (by rw [he];rfl) ?_) fun ho=>by rw [h] at ho;cases ho
   have:=lC p a h hk h1 he;rw [show AH AP p.cs=[] by rw [he];rfl];exact this
 . have d:=iQ p p.cs a hl he h1 hcs v1 v2
   have hq:(tkQ p).cs.length=p.cs.length:=by simp [tkQ]
   exact ry (fun ho=>so hq (cU p (tkQ p) a (by omega) h hk he hq ho d)) fun ho=>Wa p (tkQ p) a (by omega) h hk he hq ho d
theorem yT (p:Plt) (a:Act) (h:Ar p=true) (hk:a.k=3\/a.k=4):DoO p a (doS p a):=by
 rcases hk with hk | hk
 . exact y6 p a h hk
 . exact y7 p a h hk
theorem yU (p:Plt) (h:Ar p=true):DoO p ⟨7,0,0,1⟩ (.ok (tkQ p)):=by
 have:=y8 p ⟨7,0,0,1⟩ h rfl rfl;have e:doS p ⟨7,0,0,1⟩= .ok (tkQ p):=by simp [doS,h,Hm,Md h]
 rwa [e] at this
theorem uk {s t:Shp} {l:Leg} (h:rX s l= .ok t):A6 s=true/\BE l=true/\Ep s l= .ok t:=by
 unfold rX at h;split at h
 . split at h
   . rename_i h1 h2;exact ⟨h1,h2,h⟩
   . cases h
 . cases h
theorem wk {l:List Cel}:∀ (H:Hp) (b:Nat),H b=some (AH AP l)->Fi H (.ls b 0 l.length 7) (.d (AX l)):=fun _ _ hh=>B0 (f:=AP) EZ (l:=l) hh
theorem xd {l:List Cel}:∀ (H:Hp) (b:Nat),H b=some (AH AP l)->Bor H (.ls b 0 l.length 7) (.d (AX l)):=fun _ _ hh=>B0 (f:=AP) EZ (l:=l) hh
theorem AAD (p:Plt) (l:List Act) (h:Ar p=true) (hl:l.length<=200) (hk:∀ a∈l,a.k=3\/a.k=4):Ct prog 60 [Cy p (.d (AX p.cs)), .d (JZ l)] (.tup [Cy (B7 p l 0).1 (.ls 0 0 (B7 p l 0).1.cs.length 7),vi (B7 p l 0).2.1,vi (B7 p l 0).2.2]) [(0,AH AP (B7 p l 0).1.cs)]:=by
 have hp:=CS h;have d1:=Ef p (by omega);have d2:=Ce p.cs (by omega);have g:¬ (l.length:Int) > 200:=by omega
 have g2:¬ (200:Int) < l.length:=by omega
 rw [h] at d1;obtain ⟨R,hR⟩:∃ R,B7 p l 0=R:=⟨_,rfl⟩
 rw [hR]
 refine Ct.by gok eok mixed func60 c60 rfl (by simp [ntmps60]) (by simp) (by
   refine ⟨by simp,?_⟩;intro q hq c hc;simp only [List.mem_cons,List.not_mem_nil,or_false] at hq;subst hq;obtain ⟨d,_,rfl⟩:=List.mem_map.1 (show c∈List.map V.d (List.map AP R.1.cs).flatten from hc);trivial) fun E hE=>?_
 simp [p60];refine CLa d1 ?_;simp [AA,g];refine CLa d2 ?_;simp [AA];refine Al (α:=Nat × Plt) (fun x=>⟨AO [(4, .lp 0 0),(27, .d (JZ l)),(28,vi l.length),(29,vi x.1)],lk [(0,plB x.2 (.ls 1 0 x.2.cs.length 7)),(1,AH AP x.2.cs)],2⟩) (fun x=>x.1<=l.length/\Ar x.2=true/\B7 x.2 (l.drop x.1) x.1=R) (fun x=>l.length - x.1) (0,p) ?_ ?_ ?_
 . exact ⟨by simp,h,by simpa using hR⟩
 . exact WK hE (lk [(0,1048576),(1,16777216)])
 . rintro ⟨i,q⟩ ⟨hi,hq,hr⟩
   simp only at hi hq hr;have w:IntKind.wrap .i64 ((i:Int)+1)=((i+1:Nat):Int):=by rw [AD (by omega) (by omega)];rfl
   by_cases hi2:i < l.length
   . obtain ⟨a,ha⟩:=gE hi2
     have d3:=yT q a hq (hk a (List.mem_of_getElem? ha))
     have e1:l.drop i=a::l.drop (i+1):=by
       rw [List.drop_eq_getElem_cons hi2];rw [List.getElem?_eq_getElem hi2] at ha;cases ha;rfl
     have hiI:(i:Int) < l.length:=by omega
     rw [e1,B7] at hr;cases hd:doS q a with
     | ok q2=>
       rw [hd] at d3 hr;simp only [DoO] at d3;have hq2:=Zn hd;simp [Tj,AA,hiI,ha];refine AU.mk _ _ _ (d3) (by simp [wk]) (by simp) (by first | (left;simp;done) | (right;simp;done) | (right;simp;exact of_eq_true BB)) ?_;simp [AA,w];refine ⟨i+1,q2,⟨by omega,hq2,hr⟩,by omega,?_⟩;exact WK hE (lk [(0,0),(1,9437186)])
     | error e=>
       rw [hd] at d3 hr;simp only [DoO] at d3;have he:=Tb hd;simp [Tj,AA,hiI,ha];refine AU.mk _ _ _ (d3) (by simp [wk]) (by simp) (by first | (left;simp;done) | (right;simp;done) | (right;simp;exact of_eq_true BB)) ?_;simp [AA,he];refine AB.by (lk [(0,1)]) ?_;subst hr;simp [results60]
   . have e1:l.drop i=[]:=List.drop_eq_nil_of_le (by omega)
     rw [e1,B7] at hr;subst hr;have hiI:¬ (i:Int) < l.length:=by omega
     simp [Tj,AA,hiI];refine AB.by (lk [(0,1)]) ?_;simp [results60]
def ug (args:List V) (f:FuncId) (r:Except Int Shp):Prop:=match r with
 | .ok s=>Ct prog f args (.tup [Cl s (.ls 0 0 s.gas.cs.length 7),vi 0]) [(0,AH AP s.gas.cs)]
 | .error e=>Ct prog f args (.tup [.agg shZ,vi e]) []
theorem yw (s:Shp) (l:Leg) (hs:A6 s=true) (hl:BE l=true):ug [Cl s (.d (AX s.gas.cs)),Xf l] 96 (Ep s l):=by
 have q1:=Kz hl;have q2:=MF hs;have d1:=AAD s.gas l.acts (CR hs) (by omega) q1.2.1;have d0:=pP s l hs hl;have w1:IntKind.wrap .i64 (s.drp+l.dr)=s.drp+l.dr:=AD (by omega) (by omega);have w2:IntKind.wrap .i64 (s.bal - l.dr)=s.bal - l.dr:=AD (by omega) (by omega);cases hb:Ep s l with
 | error e=>rw [hb] at d0;simpa [ug,Oy] using d0
 | ok t=>
   clear d0;obtain ⟨⟨h1,h2,h3⟩,rfl⟩:=NE.1 hb;have h2':¬ s.bal < l.dr:=by omega
   have h3':¬ 1000000000000 < s.drp+l.dr:=by omega
   show Ct prog 96 _ _ _
   generalize B7 s.gas l.acts 0=R at*
   obtain ⟨q,i,e⟩:=R;simp only at d1 h1 ⊢;subst h1
   refine Ct.by gok eok mixed func96 c96 rfl (by simp [ntmps96]) (by simp) (by
     refine ⟨by simp,?_⟩;intro q hq c hc;simp only [List.mem_cons,List.not_mem_nil,or_false] at hq;subst hq;obtain ⟨d,_,rfl⟩:=List.mem_map.1 (show c∈List.map V.d (List.map AP _).flatten from hc);trivial) fun E hE=>?_
   simp [p96];refine CLa d1 ?_;simp [AA,h2',w1,h3'];refine AL [(12,0),(14,0)] (by kernel_rfl) ?_;simp [AA,w1,w2,inC,Nat.testBit];refine AB.by (lk [(0,8388608)]) ?_;simp [results96]
theorem yx (s:Shp) (l:Leg) (h1:s.gas.cs.length<=1000000000) (h2:l.acts.length<=1000000000):ug [Cl s (.d (AX s.gas.cs)),Xf l] 40 (rX s l):=by
 have d0:=fn40 s l h1 h2;cases hb:rX s l with
 | error e=>rw [hb] at d0;simpa [ug,Oy] using d0
 | ok t=>
   clear d0;obtain ⟨hs,hl,hbb⟩:=uk hb;have d1:=qF s h1;have d2:=xg l h2;have d3:=xe 0 0;have d5:=yw s l hs hl;rw [hbb] at d5;rw [hs] at d1;rw [hl] at d2;simp only [ug] at d5 ⊢
   refine Ct.by gok eok mixed func40 c40 rfl (by simp [ntmps40]) (by simp) (by
     refine ⟨by simp,?_⟩;intro q hq c hc;simp only [List.mem_cons,List.not_mem_nil,or_false] at hq;subst hq;obtain ⟨d,_,rfl⟩:=List.mem_map.1 (show c∈List.map V.d (List.map AP _).flatten from hc);trivial) fun E hE=>?_
   simp [p40,inC,Nat.testBit];refine CLa d1 ?_;simp [inC,Nat.testBit];refine CLa d2 ?_;simp [AA,AM];refine CLb (d3) (by simp [Ap]) ?_;simp;refine CLa d5 ?_;simp [AA];refine AB.by (lk [(0,15728640)]) ?_;simp [results40]
abbrev shO (s:Shp) (id:Nat):List V:=[vi s.xl,vi s.xh,vi s.yl,vi s.yh,vi s.hl,vi s.hh,vi s.fl,vi s.fh,vi s.wl,vi s.wh,vi s.bl,vi s.bh,vi s.dry,vi s.bal,vi s.drp, .ls id 0 s.gas.cs.length 7,vi s.gas.bt,vi s.gas.ih,vi s.gas.ia,vi s.gas.vh,vi s.gas.va,vi s.gas.lh,vi s.gas.la,vi s.gas.ph,vi s.gas.pa]
theorem uY {H:Hp} {b c:Nat} {N:Shp} (h5:H b=some (shO N c)) (h10:H c=some (AH AP N.gas.cs)):FzR H (.lp b 0) (.d (.ref (Ca N))):= .inr ⟨b,0,_,_,rfl,rfl,h5,by
 have hb:Df H (.ls c 0 N.gas.cs.length 7) (.d (AX N.gas.cs)):=B0 (f:=AP) EZ (l:=N.gas.cs) h10;exact ⟨.inl rfl, .inl rfl, .inl rfl, .inl rfl, .inl rfl, .inl rfl, .inl rfl, .inl rfl, .inl rfl, .inl rfl, .inl rfl, .inl rfl, .inl rfl, .inl rfl, .inl rfl,hb, .inl rfl, .inl rfl, .inl rfl, .inl rfl, .inl rfl, .inl rfl, .inl rfl, .inl rfl, .inl rfl,trivial⟩⟩
theorem wN {L:List (Nat × List V)} (h:∀ p∈L,∀ c∈p.2,AC (InH (lk L)) AR c):∀ i cs,lk L i=some cs->∀ c∈cs,AC (InH (lk L)) AR c:=fun i cs hi=>by
 have:∀ {M:List (Nat × List V)},lk M i=some cs->∃ p∈M,p.2=cs:=by
   intro M;induction M with
   | nil=>intro h;simp [lk] at h
   | cons p r ih=>
     intro h;simp only [lk] at h;split at h
     . exact ⟨p,by simp,Option.some.inj h⟩
     . obtain ⟨q,hq,e⟩:=ih h;exact ⟨q,by simp [hq],e⟩
 obtain ⟨p,hp,rfl⟩:=this hi;exact h p hp
theorem rn {p:Nat->Prop} {cs:List Cel}:∀ c∈AH AP cs,AC p AR c:=fun c hc=>by
 obtain ⟨d,_,rfl⟩:=List.mem_map.1 (show c∈List.map V.d (List.map AP cs).flatten from hc);trivial
theorem sJ {p:Nat->Prop} {s:Shp} {id:Nat} (h:p id):∀ c∈shO s id,AC p AR c:=fun c hc=>by
 simp only [shO,List.mem_cons,List.not_mem_nil,or_false] at hc;rcases hc with rfl | rfl | rfl | rfl | rfl | rfl | rfl | rfl | rfl | rfl | rfl | rfl | rfl | rfl | rfl | rfl | rfl | rfl | rfl | rfl | rfl | rfl | rfl | rfl | rfl
 all_goals first | exact h | trivial
theorem yc (s:Shp) (a:Atm) (x:Int) (hs:∀ c∈s.gas.cs,B5 c) (hl:s.gas.cs.length<=1000000) (ha:Fx a):Cm prog 240 [.lp 5 0, .lp 7 0, .lp 8 0] (lk [(5,shO s 10),(10,AH AP s.gas.cs),(7,[vi a.pl,vi a.ph,vi a.tl,vi a.th]),(8,[vi x])]) [5,10,7,8] (.ret (vb (decide (0<=ixF (EK a) s.gas.cs)))) (lk [(5,shO s 10),(10,AH AP s.gas.cs),(7,[vi a.pl,vi a.ph,vi a.tl,vi a.th]),(8,[vi (ixF (EK a) s.gas.cs)])]):=by
 have c1:=qg s.gas.cs 242 [.ref (WX a)] (EK a) (by omega) fun c hc=>q9 c a (hs c hc) ha
 generalize ixF (EK a) s.gas.cs=n at*
 refine Cm.by gok eok mixed 11 func240 AAA rfl (by simp [ntmps240]) (by simp) (A7.at (by
   refine ⟨by simp,sJ (by simp),by simp,rn,by simp⟩)) (by simp) (by
   refine ⟨by simp,?_⟩;intro q hq;simp only [List.mem_cons,List.not_mem_nil,or_false] at hq;rcases hq with rfl | rfl | rfl | rfl
   . exact sJ (by simp)
   . exact rn
   all_goals simp) fun E hs hE=>?_
 simp [p240];refine CLb (c1) (by simp [xd,YE]) ?_;simp [AA];refine AB.by (lk [(5,5),(10,10),(7,7),(8,8)]) ?_;simp [results240]
theorem zc (hS:SortOk) (k:Sky) (r:Rig) (s:Shp) (l:Leg) (h1:k.s.length<=1000000) (h2:k.w.length<=1000000) (h3:r.reg.length<=1000000) (hk:BV k=true) (hR:CF r=true) (hg:Ey k r=true) (hs:A6 s=true) (hl:BE l=true) (hz:(ER k r s l).1=0) (hne:s.gas.cs≠[]):Ct prog 173 [D2 k r,Cl s (.d (AX s.gas.cs)),Xf l] (.tup [Cl (Cj k r s l) (.ls 0 0 (Cj k r s l).gas.cs.length 7),evV 0 0 0 0]) [(0,AH AP (Cj k r s l).gas.cs)]:=by
 have sB:=GT hs;have sX:=AAb hs;have lB:=Mf hl;have rB:=Hy hR;have hW:=mV hk;have b1:=sB.h;have b2:=sB.f;have b3:=sB.w;have b4:=sX.b;have b5:=sX.x;have b6:=sX.y;have l1:=lB.u;have l2:=lB.b;have l3:=lB.x;have l4:=lB.y;have g1:=rB.g;have g2:=rB.t;have o:=jd sB lB;have wb:=kQ hW o;have ge:=Me l2 g1;have p0:0<=l.bl*r.gl:=Int.mul_nonneg (by omega) (by omega);have p1:l.bh*r.gh<=1000000*120:=Int.mul_le_mul (by omega) (by omega) (by omega) (by omega);have p2:l.bl*r.gl<=l.bh*r.gh:=Int.mul_le_mul (by omega) (by omega) (by omega) (by omega);have eg:(Ja (l.bl,l.bh) (r.gl,r.gh) (100,100)).1=DY r l:=rfl
 have gb:(0<=(DY r l).1/\(DY r l).1<=1200000)/\0<=(DY r l).2/\(DY r l).2<=1200001:=by
   rw [<-eg,ge];simp only;omega
 have c1:=yU s.gas (CR hs);have c2:=LH s.hl s.hh l.ul l.uh (by omega);have c3:=LH s.bl s.bh l.bl l.bh (by omega);have c4:=nv (l.bl,l.bh) (r.gl,r.gh) (100,100)
 have c4':Ct prog 236 [vsp l.bl l.bh,vsp r.gl r.gh,vsp 100 100] (.tup [vsp (DY r l).1 (DY r l).2,vi 0]) []:=by
   unfold vse at c4;rw [eg,ge] at c4;exact c4
 have c5:=LH s.wl s.wh (DY r l).1 (DY r l).2 (by omega);have eh:mhS s l=(min s.hl (s.hl+l.ul),max s.hh (s.hh+l.uh)):=rfl
 have ew:Lg k.w (mhS s l)=0:=by
   unfold Lg;have:Dr k.w=true:=by unfold BV at hk;simp only [Bool.and_eq_true] at hk;exact hk.2
   rw [this,CT.2 (by rw [eh] at o ⊢;simp only at o ⊢;omega)];rfl
 have c6:=AAP k.w (mhS s l) h2;rw [ew,show Nn k.w (mhS s l)=(Jr k.w (mhS s l),Js k.w (mhS s l)) by unfold Nn;rw [ew];rfl] at c6;have c11:=pC k.s (mhS s l).1 (mhS s l).2 h1;obtain ⟨wx,hwx⟩:∃ wx,Jr k.w (mhS s l)=wx:=⟨_,rfl⟩
 obtain ⟨wy,hwy⟩:∃ wy,Js k.w (mhS s l)=wy:=⟨_,rfl⟩
 rw [hwx,hwy] at c6 wb;have c7:=LH l.axl l.axh wx.1 wx.2 (by omega);have c7':=jM (l.axl+wx.1) (l.axh+wx.2) (by omega);have c8:=LH s.xl s.xh (6*(l.axl+wx.1)) (6*(l.axh+wx.2)) (by omega);have c9:=LH l.ayl l.ayh wy.1 wy.2 (by omega);have c9':=jM (l.ayl+wy.1) (l.ayh+wy.2) (by omega);have c10:=LH s.yl s.yh (6*(l.ayl+wy.1)) (6*(l.ayh+wy.2)) (by omega)
 have en:Cj k r s l={s with
   xl:=s.xl+6*(l.axl+wx.1),xh:=s.xh+6*(l.axh+wx.2),yl:=s.yl+6*(l.ayl+wy.1),yh:=s.yh+6*(l.ayh+wy.2)
   hl:=s.hl+l.ul,hh:=s.hh+l.uh,fl:=s.fl - l.bh,fh:=s.fh - l.bl
   wl:=min (s.wl+(DY r l).1) r.tank,wh:=min (s.wh+(DY r l).2) r.tank
   bl:=s.bl+l.bl,bh:=s.bh+l.bh,gas:=tkQ s.gas}:=by unfold Cj;rw [hwx,hwy]
 obtain ⟨H,hH⟩:∃ H,mhS s l=H:=⟨_,rfl⟩
 obtain ⟨A,hA⟩:∃ A,(atA k.s (mhS s l).1 (mhS s l).2).1=A:=⟨_,rfl⟩
 obtain ⟨AE,hAE⟩:∃ AE,(atA k.s (mhS s l).1 (mhS s l).2).2=AE:=⟨_,rfl⟩
 have c11':Ct prog 56 [.d (BF k.s),vsp H.1 H.2] (.tup [Ox A,vi AE]) []:=by
   rw [<-hA,<-hAE,<-hH];exact c11
 have m1:min s.hl (s.hl+l.ul)=H.1:=by rw [<-hH];rfl
 have m2:max s.hh (s.hh+l.uh)=H.2:=by rw [<-hH];rfl
 rw [hH] at c6;have w1:IntKind.wrap .i64 (s.fl - l.bh)=s.fl - l.bh:=AD (by omega) (by omega);have w2:IntKind.wrap .i64 (s.fh - l.bl)=s.fh - l.bl:=AD (by omega) (by omega)
 generalize DY r l=G at*
 obtain ⟨N,hN⟩:∃ N,Cj k r s l=N:=⟨_,rfl⟩
 rw [hN] at en;have n1:s.xl+6*(l.axl+wx.1)=N.xl/\s.xh+6*(l.axh+wx.2)=N.xh/\s.yl+6*(l.ayl+wy.1)=N.yl/\s.yh+6*(l.ayh+wy.2)=N.yh:=by rw [en];exact ⟨rfl,rfl,rfl,rfl⟩
 have n2:s.hl+l.ul=N.hl/\s.hh+l.uh=N.hh/\s.fl - l.bh=N.fl/\s.fh - l.bl=N.fh:=by rw [en];exact ⟨rfl,rfl,rfl,rfl⟩
 have n3:min (s.wl+G.1) r.tank=N.wl/\min (s.wh+G.2) r.tank=N.wh/\s.bl+l.bl=N.bl/\s.bh+l.bh=N.bh:=by rw [en];exact ⟨rfl,rfl,rfl,rfl⟩
 have n4:tkQ s.gas=N.gas/\s.dry=N.dry/\s.bal=N.bal/\s.drp=N.drp:=by rw [en];exact ⟨rfl,rfl,rfl,rfl⟩
 clear en;obtain ⟨x1,x2,x3,x4⟩:=n1;obtain ⟨x5,x6,x7,x8⟩:=n2;obtain ⟨x9,x10,x11,x12⟩:=n3;obtain ⟨x13,x14,x15,x16⟩:=n4;obtain ⟨CX,hCX⟩:∃ CX,ixF (EK A) N.gas.cs=CX:=⟨_,rfl⟩
 obtain ⟨TR,hTR⟩:∃ TR,Il r.reg (N1 l) (hvS (KG s N) A)=TR:=⟨_,rfl⟩
 obtain ⟨FB,hFB⟩:∃ FB,UC N=FB:=⟨_,rfl⟩
 have hev:ER k r s l=if H.1 < r.lo then (1,0) else if r.hi < H.2 then (2,0) else if 0<=CX then (3,CX) else if N.fl < r.rsv then (4,0) else if TR=false then (5,0) else if FB=false then (6,0) else (0,0):=by
   unfold ER;rw [hA,hH,hN,x13,hCX,hTR,hFB,x7]
 have hcel:∀ c∈N.gas.cs,B5 c:=by rw [<-x13];exact Dx (Md (CR hs))
 have hcl:N.gas.cs.length<=12:=by rw [<-x13];exact CS (Md (CR hs))
 have hair:¬ H.1 < r.lo->¬ r.hi < H.2->Fx A:=fun q1 q2=>by
   rw [<-hA];rw [hH] at o ⊢;exact aU (jc hk hg (by omega) o (by omega))
 have hz':¬ H.1 < r.lo/\¬ r.hi < H.2/\¬ 0<=CX/\¬ N.fl < r.rsv/\TR=true/\FB=true:=by
   rw [hev] at hz;by_cases t1:H.1 < r.lo
   . rw [if_pos t1] at hz;simp at hz
   rw [if_neg t1] at hz;by_cases t2:r.hi < H.2
   . rw [if_pos t2] at hz;simp at hz
   rw [if_neg t2] at hz;by_cases t3:0<=CX
   . rw [if_pos t3] at hz;simp at hz
   rw [if_neg t3] at hz;by_cases t4:N.fl < r.rsv
   . rw [if_pos t4] at hz;simp at hz
   rw [if_neg t4] at hz;by_cases t5:TR=false
   . rw [if_pos t5] at hz;simp at hz
   rw [if_neg t5] at hz;by_cases t6:FB=false
   . rw [if_pos t6] at hz;simp at hz
   exact ⟨t1,t2,t3,t4,by simpa using t5,by simpa using t6⟩
 obtain ⟨t1,t2,t3,t4,t5,t6⟩:=hz';have ha:=hair t1 t2;have d1:=qy k r H.1 H.2;have d2:=qz k r H.1 H.2;have hnc:N.gas.cs≠[]:=by rw [<-x13];simpa [tkQ] using hne
 have n1:AH AP N.gas.cs≠[]:=fun e=>by
   have:=congrArg List.length e;rw [Aw EZ] at this;cases hcs:N.gas.cs with
   | nil=>exact hnc hcs
   | cons a t=>rw [hcs] at this;simp at this
 have d3:=yc N A 0 hcel (by omega) ha;rw [hCX] at d3
 have d4:Cm prog 243 [.lp 5 0, .lp 0 0] (lk [(5,shO N 10),(10,AH AP N.gas.cs),(0,[D2 k r])]) [5,10,0] (.ret (vb (decide (N.fl < r.rsv)))) (lk [(5,shO N 10),(10,AH AP N.gas.cs),(0,[D2 k r])]):=by
   refine Cm.lend (ABU k r N) ⟨.inr (uY rfl rfl), .inl ⟨_,rfl,rfl⟩,trivial⟩ (by simp) (wN fun p hp=>?_);simp only [List.mem_cons,List.not_mem_nil,or_false] at hp;rcases hp with rfl | rfl | rfl
   . exact sJ rfl
   . exact rn
   . simp
 have d6:Cm prog 246 [.lp 5 0] (lk [(5,shO N 10),(10,AH AP N.gas.cs)]) [5,10] (.ret (vb (!FB))) (lk [(5,shO N 10),(10,AH AP N.gas.cs)]):=by
   have d:=q8 N;rw [hFB] at d;refine Cm.lend d ⟨.inr (uY rfl rfl),trivial⟩ (by simp) (wN fun p hp=>?_);simp only [List.mem_cons,List.not_mem_nil,or_false] at hp;rcases hp with rfl | rfl
   . exact sJ rfl
   . exact rn
 have d5:Cm prog 244 [.lp 5 0, .lp 1 0, .lp 2 0, .lp 0 0, .lp 7 0] (lk [(5,shO N 10),(10,AH AP N.gas.cs),(1,shB s),(2,lgB l),(0,[D2 k r]),(7,[vi A.pl,vi A.ph,vi A.tl,vi A.th])]) [5,10,1,2,0,7] (.ret (vb (!TR))) (lk [(5,shO N 10),(10,AH AP N.gas.cs),(1,shB s),(2,lgB l),(0,[D2 k r]),(7,[vi A.pl,vi A.ph,vi A.tl,vi A.th])]):=by
   have v1:=rB.v;have v2:=rB.h
   have hbb:VU (KG s N):=by
     unfold KG;refine ⟨by simp only;omega,by simp only;omega,by simp only;omega,?_,?_,hcl,hcel⟩
     . simp only;rw [<-x14];exact sB.d
     . simp only;rw [<-x15];exact sB.b
   have d:=rC hS k r N s l A h3 lB hbb ha;rw [hTR] at d;refine Cm.lend d ⟨.inr (uY rfl rfl), .inl ⟨_,rfl,rfl⟩, .inl ⟨_,rfl,rfl⟩, .inl ⟨_,rfl,rfl⟩, .inl ⟨_,rfl,rfl⟩,trivial⟩ (by simp) (wN fun p hp=>?_);simp only [List.mem_cons,List.not_mem_nil,or_false] at hp;rcases hp with rfl | rfl | rfl | rfl | rfl | rfl
   . exact sJ rfl
   . exact rn
   all_goals simp
 simp only [DoO] at c1;rw [x13] at c1;rw [hN]
 refine Ct.by gok eok mixed func173 zt rfl (by simp [ntmps173]) (by simp) (by
   refine ⟨by simp,?_⟩;intro q hq c hc;simp only [List.mem_cons,List.not_mem_nil,or_false] at hq;subst hq;exact rn c hc) fun E hE=>?_
 simp [p173,AA];refine CLa c1 ?_;simp [AA];refine CLa c2 ?_;simp [AA,m1,m2,inC,Nat.testBit,w1,w2];refine CLa c3 ?_;simp [AA];refine AL [(13,80740352)] (by kernel_rfl) ?_;simp [AA,inC,Nat.testBit];refine CLa c4' ?_;simp [AA,inC,Nat.testBit];refine CLa c5 ?_;simp [AA];refine AL [(20,6291456),(23,6291456)] (by kernel_rfl) ?_;simp [AA,inC,Nat.testBit];refine AL [(11,125829120)] (by kernel_rfl) ?_;simp [inC,Nat.testBit];refine CLa c6 ?_;simp [AA,inC,Nat.testBit];refine CLa c7 ?_;simp [inC,Nat.testBit];refine CLa c7' ?_;simp [inC,Nat.testBit];refine CLa c8 ?_;simp [inC,Nat.testBit];refine CLa c9 ?_;simp [inC,Nat.testBit];refine CLa c9' ?_;simp [inC,Nat.testBit];refine CLa c10 ?_;simp [AA];refine AL [(11,164626432)] (by kernel_rfl) ?_;simp [inC,Nat.testBit];refine CLa c11' ?_;simp [AA,AM,inC,Nat.testBit];refine Al (α:=Nat) (fun j=>⟨AO [(3, .lp 0 0),(4, .lp 1 0),(5, .lp 2 0),(6, .lp 3 0),(7, .lp 4 0),(8, .lp 5 0),(9, .lp 6 0),(14, .lp 7 0),(16, .lp 8 0),(164, .ls 9 0 6 2),(165,vi 6),(166,vi j)],lk [(0,[D2 k r]),(1,shB s),(2,lgB l),(3,shZ),(4,[vi 0,vi 0,vi 0,vi 0]),(5,shO N 10),(6,[vi H.1,vi H.2]),(7,[vi A.pl,vi A.ph,vi A.tl,vi A.th]),(8,[vi (if j<=2 then 0 else CX)]),(10,AH AP N.gas.cs),(9,[vi 1, .cl 238 [.lp 6 0, .lp 0 0],vi 2, .cl 239 [.lp 6 0, .lp 0 0],vi 3, .cl 240 [.lp 5 0, .lp 7 0, .lp 8 0],vi 4, .cl 243 [.lp 5 0, .lp 0 0],vi 5, .cl 244 [.lp 5 0, .lp 1 0, .lp 2 0, .lp 0 0, .lp 7 0],vi 6, .cl 246 [.lp 5 0]])],11⟩) (fun j=>j<=6) (fun j=>6 - j) 0 ?_ ?_ ?_
 . omega
 . refine AI.mk hE (lk [(0,0),(1,1048576),(2,2097152),(3,3145728),(4,4194304),(5,6291456),(6,40894464),(7,164626432),(8,167772160),(9,181403648),(10,11534336)]) _ _ _ ?_ ?_ ?_ ?_ ?_<;>simp [x1,x2,x3,x4,x5,x6,x7,x8,x9,x10,x11,x12,x14,x15,x16]
 . rintro j hj
   match j,hj with
   | 0,_=>
     have z:IntKind.wrap .i64 1=1:=by decide
     simp [Cs,AA];refine CLa d1 ?_;simp [t1,z];refine ⟨1,by omega,by omega,?_⟩;exact WK hE (lk [(0,0),(1,1),(2,2),(3,3),(4,4),(5,5),(6,6),(7,7),(8,8),(9,9),(10,10)])
   | 1,_=>
     have z:IntKind.wrap .i64 2=2:=by decide
     simp [Cs,AA];refine CLa d2 ?_;simp [t2,z];refine ⟨2,by omega,by omega,?_⟩;exact WK hE (lk [(0,0),(1,1),(2,2),(3,3),(4,4),(5,5),(6,6),(7,7),(8,8),(9,9),(10,10)])
   | 2,_=>
     have z:IntKind.wrap .i64 3=3:=by decide
     simp [Cs,AA];refine CRs d3 (by simp [n1]) ?_;simp [t3,z];refine ⟨3,by omega,by omega,?_⟩;exact WK hE (lk [(0,0),(1,1),(2,2),(3,3),(4,4),(5,5),(6,6),(7,7),(8,8),(9,9),(10,10)])
   | 3,_=>
     have z:IntKind.wrap .i64 4=4:=by decide
     simp [Cs,AA];refine CRs d4 (by simp [n1]) ?_;simp [t4,z];refine ⟨4,by omega,by omega,?_⟩;exact WK hE (lk [(0,0),(1,1),(2,2),(3,3),(4,4),(5,5),(6,6),(7,7),(8,8),(9,9),(10,10)])
   | 4,_=>
     have z:IntKind.wrap .i64 5=5:=by decide
     simp [Cs,AA];refine CRs d5 (by simp [n1]) ?_;simp [t5,z];refine ⟨5,by omega,by omega,?_⟩;exact WK hE (lk [(0,0),(1,1),(2,2),(3,3),(4,4),(5,5),(6,6),(7,7),(8,8),(9,9),(10,10)])
   | 5,_=>
     have z:IntKind.wrap .i64 6=6:=by decide
     simp [Cs,AA];refine CRs d6 (by simp [n1]) ?_;simp [t6,z];refine ⟨6,by omega,by omega,?_⟩;exact WK hE (lk [(0,0),(1,1),(2,2),(3,3),(4,4),(5,5),(6,6),(7,7),(8,8),(9,9),(10,10)])
   | 6,_=>
     simp [Cs,AA];refine AB.by (lk [(0,10)]) ?_;simp [results173]
   | j+7,hj=>omega
def gA (w:List Gal) (A B i:Nat):Int:=rS ((w.take (min B i)).drop A)
theorem tq {w:List Gal} {A B i:Nat} {x:Gal} (hx:w[i]?= some x) (h1:A<=i) (h2:i < B):gA w A B (i+1)=max (gA w A B i) x.g:=by
 have hi:=(List.getElem?_eq_some_iff.1 hx).1;unfold gA;rw [Nat.min_eq_right (by omega),Nat.min_eq_right (by omega),List.take_add_one,hx];rw [List.drop_append_of_le_length (by simp;omega)];unfold rS;simp
theorem AAK {w:List Gal} {A B i:Nat} (h:i < A):gA w A B (i+1)=gA w A B i:=by
 unfold gA;rw [List.drop_eq_nil_of_le (by simp;omega),List.drop_eq_nil_of_le (by simp;omega)]
theorem AAL {w:List Gal} {A B i:Nat} (h:B<=i):gA w A B (i+1)=gA w A B i:=by
 unfold gA;rw [Nat.min_eq_left (by omega),Nat.min_eq_left (by omega)]
theorem xk {w:List Gal} {A B:Nat}:gA w A B 0=0:=by unfold gA;simp [rS]
theorem yz {w:List Gal} {h:Int × Int}:gA w (Qq w h.1 - 1) (upN w h.2+1) w.length=rO w h:=by
 unfold gA rO;congr 2;by_cases hc:upN w h.2+1<=w.length
 . rw [Nat.min_eq_left hc]
 . rw [Nat.min_eq_right (by omega),List.take_length,List.take_of_length_le (by omega)]
theorem AAM (l:List Gal) (h:Int × Int) (hW:OkW l) (hh:h.1<=h.2):Ct prog 284 [.d (C2 l),vsp h.1 h.2] (vi (rO l h)) []:=by
 have hlen:=hW.len;rw [<-yz];obtain ⟨A,hA⟩:∃ A,Qq l h.1 - 1=A:=⟨_,rfl⟩
 obtain ⟨B,hB⟩:∃ B,upN l h.2+1=B:=⟨_,rfl⟩
 rw [hA,hB];refine CB func284 c284 fun E hE=>?_
 simp [p284];refine Al (α:=Nat) (fun i=>⟨AO [(0, .d (C2 l)),(3, .lp 0 0),(5,vi (gA l A B i)),(6,vi i)],lk [(0,[vi h.1,vi h.2])],1⟩) (fun i=>i<=l.length) (fun i=>l.length - i) 0 ?_ ?_ ?_
 . omega
 . rw [xk]
   exact WK hE (lk [(0,0)])
 . intro i hi
   by_cases hil:i < l.length
   . obtain ⟨x,hx⟩:=gE hil
     have hz:=@wz i (by omega);have hI:(i:Int) < l.length:=by omega
     by_cases c1:x.h < h.1
     . have c1':¬ h.2 < x.h:=by omega
       have b2:i < B:=by
         apply Nat.lt_of_not_le;intro hc
         have:=Zh hW (hi:=h.2) (i:=i) (by omega) hx;omega
       by_cases hn:i+1 < l.length
       . obtain ⟨y,hy⟩:=gE hn
         obtain ⟨j,hj⟩:∃ j,i+1=j:=⟨_,rfl⟩
         rw [hj] at hz hy hn;have hN:(j:Int) < l.length:=by omega
         by_cases c2:y.h < h.1
         . have b1:i < A:=by
             apply Nat.lt_of_not_le;intro hc
             have:=ft hW (lo:=h.1) (i:=j) (by omega) hy;omega
           have nx:=AAK (w:=l) (B:=B) b1;rw [hj] at nx;simp [XS,hI,hx,inC,Nat.testBit,c1,c1',hz,hN,hy,c2];refine ⟨j,by omega,by omega,?_⟩;rw [nx];exact WK hE (lk [(0,0)])
         . have b1:A<=i:=by
             apply Nat.le_of_not_lt;intro hc
             have:=Zg (lo:=h.1) (i:=j) (by omega) hy;omega
           have nx:=tq hx b1 b2;rw [hj] at nx;simp [XS,hI,hx,inC,Nat.testBit,c1,c1',hz,hN,hy,c2];refine ⟨j,by omega,by omega,?_⟩;rw [nx];exact WK hE (lk [(0,0)])
       . have hN:¬ ((i+1:Nat):Int) < l.length:=by omega
         have b1:A<=i:=by have:Qq l h.1<=l.length:=JG;omega
         have nx:=tq hx b1 b2;obtain ⟨j,hj⟩:∃ j,i+1=j:=⟨_,rfl⟩
         rw [hj] at hz hN nx;simp [XS,hI,hx,inC,Nat.testBit,c1,c1',hz,hN];refine ⟨j,by omega,by omega,?_⟩;rw [nx];exact WK hE (lk [(0,0)])
     . have b1:A<=i:=by
         apply Nat.le_of_not_lt;intro hc
         have:=Zg (lo:=h.1) (i:=i) (by omega) hx;omega
       by_cases c3:h.2 < x.h
       . by_cases h0:i=0
         . have b2:i < B:=by omega
           have nx:=tq hx b1 b2;have hp:¬ (0:Int) < i:=by omega
           have hp2:¬ 0 < i:=by omega
           simp [XS,hI,hp2,hx,inC,Nat.testBit,c1,c3,hz];refine ⟨i+1,by omega,by omega,?_⟩;rw [nx];exact WK hE (lk [(0,0)])
         . obtain ⟨z,hzz⟩:∃ z,l[i - 1]?= some z:=⟨_,List.getElem?_eq_getElem (by omega)⟩
           have hw:IntKind.wrap .i64 ((i:Int) - 1)=((i - 1:Nat):Int):=by rw [AD (by omega) (by omega)];omega
           have hp:(0:Int) < i:=by omega
           have hp2:0 < i:=by omega
           obtain ⟨j,hj⟩:∃ j,i - 1=j:=⟨_,rfl⟩
           rw [hj] at hw hzz;have hJ:(j:Int) < l.length:=by omega
           by_cases c4:h.2 < z.h
           . have b2:B<=i:=by
               apply Nat.le_of_not_lt;intro hc
               have:=pd (hi:=h.2) (i:=j) (by omega) hzz;omega
             have nx:=AAL (w:=l) (A:=A) b2;simp [XS,hI,hx,inC,Nat.testBit,c1,c3,hz,hw,hp2,hzz,c4];refine ⟨i+1,by omega,by omega,?_⟩;rw [nx];exact WK hE (lk [(0,0)])
           . have b2:i < B:=by
               apply Nat.lt_of_not_le;intro hc
               have:=Zh hW (hi:=h.2) (i:=j) (by omega) hzz;omega
             have nx:=tq hx b1 b2;simp [XS,hI,hx,inC,Nat.testBit,c1,c3,hz,hw,hp2,hzz,c4];refine ⟨i+1,by omega,by omega,?_⟩;rw [nx];exact WK hE (lk [(0,0)])
       . have b2:i < B:=by
           apply Nat.lt_of_not_le;intro hc
           have:=Zh hW (hi:=h.2) (i:=i) (by omega) hx;omega
         have nx:=tq hx b1 b2;simp [XS,hI,hx,inC,Nat.testBit,c1,c3,hz];refine ⟨i+1,by omega,by omega,?_⟩;rw [nx];exact WK hE (lk [(0,0)])
   . have e:i=l.length:=by omega
     have hn:¬ (i:Int) < l.length:=by omega
     subst e;simp [XS];apply RZ;simp [results284]
theorem xm (l:List Gal) (h:Int × Int) (hw:OkW l) (hp:PkB l HG):Ct prog 285 [.d (C2 l),vsp h.1 h.2,vb true] (vsp (Fg HG l h).1 (Fg HG l h).2) []:=by
 have hl:=hw.len;obtain ⟨fa,hfa⟩:∃ x,l[0]?= some x:=⟨_,List.getElem?_eq_getElem (by omega)⟩
 obtain ⟨la,hla⟩:∃ x,l[l.length - 1]?= some x:=⟨_,List.getElem?_eq_getElem (by omega)⟩
 have kfa:(Dd HG l)[0]?= some (fa.h,HG fa):=by rw [EG,hfa];rfl
 have kln:=IH (pk:=HG) (w:=l);refine CB func285 AAB fun E hE=>?_
 simp [p285];refine Al (α:=Nat) (fun i=>⟨AO [(0, .d (C2 l)),(2,vb true),(4, .lp 0 0),(6, .lp 1 0),(7,hdF 3 (K6 HG l i) 2),(8,vi i)],lk ([(0,[vi h.1,vi h.2]),(1,[vi 0,vi 0])]++ouF knL (K6 HG l i) 2),3⟩) (fun i=>i<=l.length) (fun i=>l.length - i) 0 ?_ ?_ ?_
 . omega
 . rw [show K6 HG l 0=[] from rfl,Aq,Au]
   exact WK hE (lk [(0,0),(1,1048576)])
 . intro i hi
   by_cases hil:i < l.length
   . obtain ⟨x,hx⟩:=gE hil
     have hz:=@wz i (by omega);have hI:(i:Int) < l.length:=by omega
     have hnx:=Vl (pk:=HG) hx;have hO:(K6 HG l i).length<=1000000:=by unfold K6;simp;omega
     obtain ⟨O,hOe⟩:∃ O,K6 HG l i=O:=⟨_,rfl⟩
     rw [hOe] at hnx hO ⊢;by_cases hne:O=[]
     . subst hne
       rw [Aq,Au];simp [Xe,hI,hx,AA,AM,inC,Nat.testBit,hz];refine ⟨i+1,by omega,by omega,?_⟩;rw [hnx,Ak (by simp),AZ (by simp)];refine AI.mk hE (lk [(0,0),(1,1),(2,30408707)]) _ _ _ ?_ ?_ ?_ ?_ ?_<;>simp [AH,HG]
     . have hsl:=Aw hfk O
       have hwh:=E9 hfk O;have n1:(O.length+1)*24<=140737488355328:=by omega
       have n2:O.length+1<=9223372036854775807:=by omega
       rw [Ak hne,AZ hne];simp [Xe,hI,hx,AA,AM,hsl,hwh,inC,Nat.testBit,hz,n1,n2];refine ⟨i+1,by omega,by omega,?_⟩;rw [hnx,Ak (by simp),AZ (by simp),IV];refine AI.mk hE (lk [(0,0),(1,1),(2,30408707)]) _ _ _ ?_ ?_ ?_ ?_ ?_<;>simp [HG]
   . have e:i=l.length:=by omega
     have hn:¬ (i:Int) < l.length:=by omega
     have ek:K6 HG l i=Dd HG l:=by unfold K6 Dd;rw [e,List.take_length]
     have ene:Dd HG l≠[]:=by intro h0;rw [h0] at kln;simp at kln;omega
     obtain ⟨K,hK⟩:∃ K,Dd HG l=K:=⟨_,rfl⟩
     rw [hK] at kfa kln ek ene;have hsl:=Aw hfk K;rw [ek,Ak ene,AZ ene,kln];by_cases h2:2<=l.length
     . have e1:∀ z,min (max z fa.h) la.h=EA l z:=fun z=>by unfold EA;rw [hfa,hla]
       have c3:=wF K (EA l h.1,EA l h.2) (by omega)
       have e3:(Jy K (EA l h.1,EA l h.2)).1=Fg HG l h:=by
         rw [<-hK]
         match l,h2 with
         | a::b::r,_=>rfl
       unfold vse at c3;rw [e3] at c3
       have hb:∀ H:Hp,H 2=some (AH knL K)->Bor H (.ls 2 0 l.length 3) (.d (DA K)):=fun H hH=>by
         have:=B0 (H:=H) (id:=2) hfk (l:=K) hH;rw [kln] at this;exact this
       have w1:IntKind.wrap .i64 ((l.length:Int) - 1)=((l.length - 1:Nat):Int):=by rw [AD (by omega) (by omega)];omega
       have hne1:¬ l.length=1:=by omega
       have hne2:¬ (l.length:Int)=1:=by omega
       have hI0:(0:Int) < l.length:=by omega
       obtain ⟨j,hj⟩:∃ j,l.length - 1=j:=⟨_,rfl⟩
       rw [hj] at w1 hla;have hI1:(j:Int) < l.length:=by omega
       simp [Xe,hn,AA,hne2,w1,hfa,hla,e1];refine CLb (c3) (by simp [hb]) ?_;simp [AA];apply RZ;simp [results285]
     . have e1:l.length=1:=by omega
       have e2:Fg HG l h=HG fa:=by
         obtain ⟨x,rfl⟩:∃ x,l=[x]:=List.length_eq_one_iff.1 e1;cases hfa;rfl
       rw [e1] at kln;rw [kln] at hsl;obtain ⟨k0,hk0⟩:∃ k0,K=[k0]:=List.length_eq_one_iff.1 kln;subst hk0;cases kfa;have hi1:i=1:=by omega
       subst hi1;simp [Xe,AA,e1,AH];apply RZ;simp [results285,e2,HG]
theorem xn (l:List Gal) (h:Int × Int) (hw:OkW l) (hp:PkB l EY):Ct prog 285 [.d (C2 l),vsp h.1 h.2,vb false] (vsp (Fg EY l h).1 (Fg EY l h).2) []:=by
 have hl:=hw.len;obtain ⟨fa,hfa⟩:∃ x,l[0]?= some x:=⟨_,List.getElem?_eq_getElem (by omega)⟩
 obtain ⟨la,hla⟩:∃ x,l[l.length - 1]?= some x:=⟨_,List.getElem?_eq_getElem (by omega)⟩
 have kfa:(Dd EY l)[0]?= some (fa.h,EY fa):=by rw [EG,hfa];rfl
 have kln:=IH (pk:=EY) (w:=l);refine CB func285 AAB fun E hE=>?_
 simp [p285];refine Al (α:=Nat) (fun i=>⟨AO [(0, .d (C2 l)),(2,vb false),(4, .lp 0 0),(6, .lp 1 0),(7,hdF 3 (K6 EY l i) 2),(8,vi i)],lk ([(0,[vi h.1,vi h.2]),(1,[vi 0,vi 0])]++ouF knL (K6 EY l i) 2),3⟩) (fun i=>i<=l.length) (fun i=>l.length - i) 0 ?_ ?_ ?_
 . omega
 . rw [show K6 EY l 0=[] from rfl,Aq,Au]
   exact WK hE (lk [(0,0),(1,1048576)])
 . intro i hi
   by_cases hil:i < l.length
   . obtain ⟨x,hx⟩:=gE hil
     have hz:=@wz i (by omega);have hI:(i:Int) < l.length:=by omega
     have hnx:=Vl (pk:=EY) hx;have hO:(K6 EY l i).length<=1000000:=by unfold K6;simp;omega
     obtain ⟨O,hOe⟩:∃ O,K6 EY l i=O:=⟨_,rfl⟩
     rw [hOe] at hnx hO ⊢;by_cases hne:O=[]
     . subst hne
       rw [Aq,Au];simp [Xe,hI,hx,AA,AM,inC,Nat.testBit,hz];refine ⟨i+1,by omega,by omega,?_⟩;rw [hnx,Ak (by simp),AZ (by simp)];refine AI.mk hE (lk [(0,0),(1,1),(2,23068675)]) _ _ _ ?_ ?_ ?_ ?_ ?_<;>simp [AH,EY]
     . have hsl:=Aw hfk O
       have hwh:=E9 hfk O;have n1:(O.length+1)*24<=140737488355328:=by omega
       have n2:O.length+1<=9223372036854775807:=by omega
       rw [Ak hne,AZ hne];simp [Xe,hI,hx,AA,AM,hsl,hwh,inC,Nat.testBit,hz,n1,n2];refine ⟨i+1,by omega,by omega,?_⟩;rw [hnx,Ak (by simp),AZ (by simp),IV];refine AI.mk hE (lk [(0,0),(1,1),(2,23068675)]) _ _ _ ?_ ?_ ?_ ?_ ?_<;>simp [EY]
   . have e:i=l.length:=by omega
     have hn:¬ (i:Int) < l.length:=by omega
     have ek:K6 EY l i=Dd EY l:=by unfold K6 Dd;rw [e,List.take_length]
     have ene:Dd EY l≠[]:=by intro h0;rw [h0] at kln;simp at kln;omega
     obtain ⟨K,hK⟩:∃ K,Dd EY l=K:=⟨_,rfl⟩
     rw [hK] at kfa kln ek ene;have hsl:=Aw hfk K;rw [ek,Ak ene,AZ ene,kln];by_cases h2:2<=l.length
     . have e1:∀ z,min (max z fa.h) la.h=EA l z:=fun z=>by unfold EA;rw [hfa,hla]
       have c3:=wF K (EA l h.1,EA l h.2) (by omega)
       have e3:(Jy K (EA l h.1,EA l h.2)).1=Fg EY l h:=by
         rw [<-hK]
         match l,h2 with
         | a::b::r,_=>rfl
       unfold vse at c3;rw [e3] at c3
       have hb:∀ H:Hp,H 2=some (AH knL K)->Bor H (.ls 2 0 l.length 3) (.d (DA K)):=fun H hH=>by
         have:=B0 (H:=H) (id:=2) hfk (l:=K) hH;rw [kln] at this;exact this
       have w1:IntKind.wrap .i64 ((l.length:Int) - 1)=((l.length - 1:Nat):Int):=by rw [AD (by omega) (by omega)];omega
       have hne1:¬ l.length=1:=by omega
       have hne2:¬ (l.length:Int)=1:=by omega
       have hI0:(0:Int) < l.length:=by omega
       obtain ⟨j,hj⟩:∃ j,l.length - 1=j:=⟨_,rfl⟩
       rw [hj] at w1 hla;have hI1:(j:Int) < l.length:=by omega
       simp [Xe,hn,AA,hne2,w1,hfa,hla,e1];refine CLb (c3) (by simp [hb]) ?_;simp [AA];apply RZ;simp [results285]
     . have e1:l.length=1:=by omega
       have e2:Fg EY l h=EY fa:=by
         obtain ⟨x,rfl⟩:∃ x,l=[x]:=List.length_eq_one_iff.1 e1;cases hfa;rfl
       rw [e1] at kln;rw [kln] at hsl;obtain ⟨k0,hk0⟩:∃ k0,K=[k0]:=List.length_eq_one_iff.1 kln;subst hk0;cases kfa;have hi1:i=1:=by omega
       subst hi1;simp [Xe,AA,e1,AH];apply RZ;simp [results285,e2,EY]
theorem AAN (l:List Gal) (h:Int × Int) (hl:l.length<=1000000):Ct prog 253 [.d (C2 l),vsp h.1 h.2] (.tup [AAO (Nn l h),vi (Lg l h)]) []:=by
 have c1:=yP l hl;have c2:=yS h;cases hw:Dr l
 . rw [hw] at c1
   have e1:Lg l h=22:=by unfold Lg;rw [hw];rfl
   have e2:Nn l h=((0,0),0,0):=by unfold Nn;rw [e1];rfl
   rw [e1,e2];refine CB func253 yr fun E hE=>?_
   simp [p253];refine CLa c1 ?_;simp [AA];apply RZ;simp [results253]
 rw [hw] at c1;cases hs:okS h
 . rw [hs] at c2
   have e1:Lg l h=10:=by unfold Lg;rw [hw,hs];rfl
   have e2:Nn l h=((0,0),0,0):=by unfold Nn;rw [e1];rfl
   rw [e1,e2];refine CB func253 yr fun E hE=>?_
   simp [p253];refine CLa c1 ?_;simp;refine CLa c2 ?_;simp [AA];apply RZ;simp [results253]
 rw [hs] at c2;have hW:=L0 hw;have hlen:=hW.len;have hh:=(CT.1 hs).1;have e1:Lg l h=0:=by unfold Lg;rw [hw,hs];rfl
 have e2:Nn l h=(Jr l h,Js l h):=by unfold Nn;rw [e1];rfl
 rw [e1,e2];have g1:=Yb hW h;have sx:=Mz hW (pk:=HG) (fun x hx=>hW.x x hx) hh;have sy:=Mz hW (pk:=EY) (fun x hx=>hW.y x hx) hh;have c3:=AAM l h hW hh;have c4:=xm l h hW (fun x hx=>hW.x x hx);have c5:=xn l h hW (fun x hx=>hW.y x hx);unfold Jr Js
 generalize rO l h=g at*
 generalize Fg HG l h=u at*
 generalize Fg EY l h=v at*
 have w1:IntKind.wrap .i64 (u.1 - g)=u.1 - g:=AD (by omega) (by omega);have w2:IntKind.wrap .i64 (u.2+g)=u.2+g:=AD (by omega) (by omega);have w3:IntKind.wrap .i64 (v.1 - g)=v.1 - g:=AD (by omega) (by omega);have w4:IntKind.wrap .i64 (v.2+g)=v.2+g:=AD (by omega) (by omega);refine CB func253 yr fun E hE=>?_
 simp [p253];refine CLa c1 ?_;simp;refine CLa c2 ?_;simp;refine CLa c3 ?_;simp [inC,Nat.testBit];refine CLa c4 ?_;simp [inC,Nat.testBit];refine CLa c5 ?_;simp [AA,w1,w2,w3,w4];apply RZ;simp [results253]
theorem sK (a b c d t:Int) (ht:t=1\/t=6) (h:(-100000000000000<=a/\a<=100000000000000)/\(-100000000000000<=b/\b<=100000000000000)/\(-100000000000000<=c/\c<=100000000000000)/\ -100000000000000<=d/\d<=100000000000000):Ct prog 247 [vsp a b,vsp c d,vi t] (vsp (a+t*c) (b+t*d)) []:=by
 have w1:IntKind.wrap .i64 (t*c)=t*c:=by rcases ht with rfl | rfl<;>exact AD (by omega) (by omega)
 have w2:IntKind.wrap .i64 (t*d)=t*d:=by rcases ht with rfl | rfl<;>exact AD (by omega) (by omega)
 have w3:IntKind.wrap .i64 (a+t*c)=a+t*c:=by rcases ht with rfl | rfl<;>exact AD (by omega) (by omega)
 have w4:IntKind.wrap .i64 (b+t*d)=b+t*d:=by rcases ht with rfl | rfl<;>exact AD (by omega) (by omega)
 refine CB func247 c247 fun E hE=>?_
 simp [p247,AA,w1,w2,w3,w4];apply RZ;simp [results247]
theorem wQ (a b c d:Int):Ct prog 248 [vsp a b,vsp c d] (vsp (min a c) (max b d)) []:=by
 refine CB func248 c248 fun E hE=>?_
 simp [p248,AA];apply RZ;simp [results248]
theorem zi (a b n:Int):Ct prog 250 [vsp a b,vi n] (vsp (min a n) (min b n)) []:=by
 refine CB func250 c250 fun E hE=>?_
 simp [p250,AA];apply RZ;simp [results250]
theorem zj (r:List (Int × Int)) (s h:Int × Int) (hr:r.length<=1000000):Ct prog 252 [.d (An r),vsp s.1 s.2,vsp h.1 h.2] (vb (Il r s h)) []:=by
 have c1:=un r (s.1,h.1) (by omega);have c2:=un r (s.1,h.2) (by omega);have c3:=un r (s.2,h.1) (by omega);have c4:=un r (s.2,h.2) (by omega);have z0:IntKind.wrap .i64 0=0:=by decide
 have z1:IntKind.wrap .i64 1=1:=by decide
 have z2:IntKind.wrap .i64 2=2:=by decide
 have z3:IntKind.wrap .i64 3=3:=by decide
 have z4:IntKind.wrap .i64 4=4:=by decide
 have er:Il r s h=(inV r (s.1,h.1)&&inV r (s.2,h.1)&&inV r (s.1,h.2)&&inV r (s.2,h.2)):=by
   unfold Il;cases inV r (s.1,h.1)<;>cases inV r (s.1,h.2)<;>cases inV r (s.2,h.1)<;>cases inV r (s.2,h.2)<;>rfl
 rw [er]
 generalize inV r (s.1,h.1)=b1 at*
 generalize inV r (s.1,h.2)=b2 at*
 generalize inV r (s.2,h.1)=b3 at*
 generalize inV r (s.2,h.2)=b4 at*
 generalize Yj r=e at*
 simp only at c1 c2 c3 c4;refine CB func252 c252 fun E hE=>?_
 simp [p252];refine Al (α:=Nat) (fun j=>⟨AO [(0, .d (An r)),(4, .lp 0 0),(5, .lp 1 0),(7,vi j)],lk [(0,[vi s.1,vi s.2]),(1,[vi h.1,vi h.2])],2⟩) (fun j=>j<=4/\(0 < j->b1=true)/\(1 < j->b3=true)/\(2 < j->b2=true)/\(3 < j->b4=true)) (fun j=>4 - j) 0 ?_ ?_ ?_
 . omega
 . exact WK hE (lk [(0,0),(1,1048576)])
 . rintro j ⟨hj,g1,g2,g3,g4⟩
   match j,hj,g1,g2,g3,g4 with
   | 0,_,_,_,_,_=>
     simp [rj,AA,z0];refine CLa c1 ?_;cases b1
     . simp
       apply RZ;simp [results252]
     . simp [z1]
       refine ⟨1,by simp,by omega,?_⟩;exact WK hE (lk [(0,0),(1,1)])
   | 1,_,g1,_,_,_=>
     have g1:=g1 (by omega);subst g1;simp [rj,AA,z0];refine CLa c3 ?_;cases b3
     . simp
       apply RZ;simp [results252]
     . simp [z2]
       refine ⟨2,by simp,by omega,?_⟩;exact WK hE (lk [(0,0),(1,1)])
   | 2,_,g1,g2,_,_=>
     have g1:=g1 (by omega);have g2:=g2 (by omega);subst g1 g2;simp [rj,AA,z1];refine CLa c2 ?_;cases b2
     . simp
       apply RZ;simp [results252]
     . simp [z3]
       refine ⟨3,by simp,by omega,?_⟩;exact WK hE (lk [(0,0),(1,1)])
   | 3,_,g1,g2,g3,_=>
     have g1:=g1 (by omega);have g2:=g2 (by omega);have g3:=g3 (by omega);subst g1 g2 g3;simp [rj,AA,z1];refine CLa c4 ?_;cases b4
     . simp
       apply RZ;simp [results252]
     . simp [z4]
       refine ⟨4,by simp,by omega,?_⟩;exact WK hE (lk [(0,0),(1,1)])
   | 4,_,g1,g2,g3,g4=>
     have g1:=g1 (by omega);have g2:=g2 (by omega);have g3:=g3 (by omega);have g4:=g4 (by omega);subst g1 g2 g3 g4;simp [rj];apply RZ;simp [results252]
   | j+5,hj,_,_,_,_=>omega
def vc (k:Sky) (r:Rig) (s:Shp) (l:Leg):Shp:=
 if (ER k r s l).1=0\/(ER k r s l).1=6 then Cj k r s l
 else if (ER k r s l).1=5 then {Cj k r s l with xl:=s.xl,xh:=s.xh,yl:=s.yl,yh:=s.yh}
 else if (ER k r s l).1=4 then {Cj k r s l with xl:=s.xl,xh:=s.xh,yl:=s.yl,yh:=s.yh,wl:=s.wl,wh:=s.wh}
 else {s with hl:=s.hl+l.ul,hh:=s.hh+l.uh,gas:=tkQ s.gas}
theorem AAF (k:Sky) (r:Rig) (s:Shp) (l:Leg) (h1:k.s.length<=1000000) (h2:k.w.length<=1000000) (h3:r.reg.length<=1000000) (hk:BV k=true) (hR:CF r=true) (hg:Ey k r=true) (hs:A6 s=true) (hl:BE l=true):Ct prog 174 [Eu k,Fj r,Cl s (.d (AX s.gas.cs)),Xf l] (.tup [Cl (vc k r s l) (.d (AX (vc k r s l).gas.cs)),vi (ER k r s l).1,vi (ER k r s l).2]) []:=by
 have sB:=GT hs;have sX:=AAb hs;have lB:=Mf hl;have rB:=Hy hR;have hW:=mV hk;have b1:=sB.h;have b2:=sB.f;have b3:=sB.w;have b4:=sX.b;have b5:=sX.x;have b6:=sX.y;have l1:=lB.u;have l2:=lB.b;have l3:=lB.x;have l4:=lB.y;have g1:=rB.g;have g2:=rB.t;have o:=jd sB lB;have wb:=kQ hW o;have ge:=Me l2 g1;have p0:0<=l.bl*r.gl:=Int.mul_nonneg (by omega) (by omega);have p1:l.bh*r.gh<=1000000*120:=Int.mul_le_mul (by omega) (by omega) (by omega) (by omega);have p2:l.bl*r.gl<=l.bh*r.gh:=Int.mul_le_mul (by omega) (by omega) (by omega) (by omega);have eg:(Ja (l.bl,l.bh) (r.gl,r.gh) (100,100)).1=DY r l:=rfl
 have gb:(0<=(DY r l).1/\(DY r l).1<=1200000)/\0<=(DY r l).2/\(DY r l).2<=1200001:=by
   rw [<-eg,ge];simp only;omega
 have c1:=yZ s.gas (CR hs);have c2:=sK s.hl s.hh l.ul l.uh 1 (.inl rfl) (by omega);have c3:=sK s.bl s.bh l.bl l.bh 1 (.inl rfl) (by omega);simp only [Int.one_mul] at c2 c3;have c4:=AAJ (l.bl,l.bh) (r.gl,r.gh) (100,100)
 have c4':Ct prog 249 [vsp l.bl l.bh,vsp r.gl r.gh,vsp 100 100] (.tup [vsp (DY r l).1 (DY r l).2,vi 0]) []:=by
   rw [wt] at c4;unfold vse at c4;rw [eg,ge] at c4;exact c4
 have c5:=sK s.wl s.wh (DY r l).1 (DY r l).2 1 (.inl rfl) (by omega);have c5':=zi (s.wl+(DY r l).1) (s.wh+(DY r l).2) r.tank;simp only [Int.one_mul] at c5;have eh:mhS s l=(min s.hl (s.hl+l.ul),max s.hh (s.hh+l.uh)):=rfl;have ch:=wQ s.hl s.hh (s.hl+l.ul) (s.hh+l.uh)
 have ew:Lg k.w (mhS s l)=0:=by
   unfold Lg;have:Dr k.w=true:=by unfold BV at hk;simp only [Bool.and_eq_true] at hk;exact hk.2
   rw [this,CT.2 (by rw [eh] at o ⊢;simp only at o ⊢;omega)];rfl
 have c6:=AAN k.w (mhS s l) h2;rw [ew,show Nn k.w (mhS s l)=(Jr k.w (mhS s l),Js k.w (mhS s l)) by unfold Nn;rw [ew];rfl] at c6;have c11:=fn73 k.s (mhS s l).1 (mhS s l).2 h1;obtain ⟨wx,hwx⟩:∃ wx,Jr k.w (mhS s l)=wx:=⟨_,rfl⟩
 obtain ⟨wy,hwy⟩:∃ wy,Js k.w (mhS s l)=wy:=⟨_,rfl⟩
 rw [hwx,hwy] at c6 wb;have c7:=sK l.axl l.axh wx.1 wx.2 1 (.inl rfl) (by omega);have c8:=sK s.xl s.xh (l.axl+wx.1) (l.axh+wx.2) 6 (.inr rfl) (by omega);have c9:=sK l.ayl l.ayh wy.1 wy.2 1 (.inl rfl) (by omega);have c10:=sK s.yl s.yh (l.ayl+wy.1) (l.ayh+wy.2) 6 (.inr rfl) (by omega);simp only [Int.one_mul] at c7 c9
 have en:Cj k r s l={s with
   xl:=s.xl+6*(l.axl+wx.1),xh:=s.xh+6*(l.axh+wx.2),yl:=s.yl+6*(l.ayl+wy.1),yh:=s.yh+6*(l.ayh+wy.2)
   hl:=s.hl+l.ul,hh:=s.hh+l.uh,fl:=s.fl - l.bh,fh:=s.fh - l.bl
   wl:=min (s.wl+(DY r l).1) r.tank,wh:=min (s.wh+(DY r l).2) r.tank
   bl:=s.bl+l.bl,bh:=s.bh+l.bh,gas:=tkQ s.gas}:=by unfold Cj;rw [hwx,hwy]
 obtain ⟨H,hH⟩:∃ H,mhS s l=H:=⟨_,rfl⟩
 obtain ⟨A,hA⟩:∃ A,(atA k.s (mhS s l).1 (mhS s l).2).1=A:=⟨_,rfl⟩
 obtain ⟨AE,hAE⟩:∃ AE,(atA k.s (mhS s l).1 (mhS s l).2).2=AE:=⟨_,rfl⟩
 have c11':Ct prog 73 [.d (BF k.s),vsp H.1 H.2] (.tup [Ox A,vi AE]) []:=by
   rw [<-hA,<-hAE,<-hH];exact c11
 have m1:min s.hl (s.hl+l.ul)=H.1:=by rw [<-hH];rfl
 have m2:max s.hh (s.hh+l.uh)=H.2:=by rw [<-hH];rfl
 rw [m1,m2] at ch;rw [hH] at c6;have w1:IntKind.wrap .i64 (s.fl - l.bh)=s.fl - l.bh:=AD (by omega) (by omega);have w2:IntKind.wrap .i64 (s.fh - l.bl)=s.fh - l.bl:=AD (by omega) (by omega)
 generalize DY r l=G at*
 obtain ⟨N,hN⟩:∃ N,Cj k r s l=N:=⟨_,rfl⟩
 rw [hN] at en;have n1:s.xl+6*(l.axl+wx.1)=N.xl/\s.xh+6*(l.axh+wx.2)=N.xh/\s.yl+6*(l.ayl+wy.1)=N.yl/\s.yh+6*(l.ayh+wy.2)=N.yh:=by rw [en];exact ⟨rfl,rfl,rfl,rfl⟩
 have n2:s.hl+l.ul=N.hl/\s.hh+l.uh=N.hh/\s.fl - l.bh=N.fl/\s.fh - l.bl=N.fh:=by rw [en];exact ⟨rfl,rfl,rfl,rfl⟩
 have n3:min (s.wl+G.1) r.tank=N.wl/\min (s.wh+G.2) r.tank=N.wh/\s.bl+l.bl=N.bl/\s.bh+l.bh=N.bh:=by rw [en];exact ⟨rfl,rfl,rfl,rfl⟩
 have n4:tkQ s.gas=N.gas/\s.dry=N.dry/\s.bal=N.bal/\s.drp=N.drp:=by rw [en];exact ⟨rfl,rfl,rfl,rfl⟩
 clear en;obtain ⟨x1,x2,x3,x4⟩:=n1;obtain ⟨x5,x6,x7,x8⟩:=n2;obtain ⟨x9,x10,x11,x12⟩:=n3;obtain ⟨x13,x14,x15,x16⟩:=n4;obtain ⟨CX,hCX⟩:∃ CX,ixF (EK A) N.gas.cs=CX:=⟨_,rfl⟩
 obtain ⟨TR,hTR⟩:∃ TR,Il r.reg (N1 l) (hvS (KG s N) A)=TR:=⟨_,rfl⟩
 obtain ⟨FX,hFX⟩:∃ FX,spB (-10000000) 10000000 N.xl N.xh=FX:=⟨_,rfl⟩
 obtain ⟨FY,hFY⟩:∃ FY,spB (-10000000) 10000000 N.yl N.yh=FY:=⟨_,rfl⟩
 have hev:ER k r s l=if H.1 < r.lo then (1,0) else if r.hi < H.2 then (2,0) else if 0<=CX then (3,CX) else if N.fl < r.rsv then (4,0) else if TR=false then (5,0) else if (FX&&FY)=false then (6,0) else (0,0):=by
   unfold ER UC;rw [hA,hH,hN,x13,hCX,hTR,hFX,hFY,x7]
 have hcel:∀ c∈N.gas.cs,B5 c:=by rw [<-x13];exact Dx (Md (CR hs))
 have hcl:N.gas.cs.length<=12:=by rw [<-x13];exact CS (Md (CR hs))
 have hair:¬ H.1 < r.lo->¬ r.hi < H.2->Fx A:=fun q1 q2=>by
   rw [<-hA];rw [hH] at o ⊢;exact aU (jc hk hg (by omega) o (by omega))
 let M1:Shp:={s with hl:=N.hl,hh:=N.hh,gas:=N.gas}
 have d3:¬ H.1 < r.lo->¬ r.hi < H.2->Ct prog 82 [Cl M1 (.d (AX M1.gas.cs)),Ox A] (vi CX) []:=fun q1 q2=>by
   have v2:=rB.h;have hbb:VU M1:=⟨by simp only [M1];omega,by simp only [M1];omega,by simp only [M1];omega,sB.d,sB.b,hcl,hcel⟩
   have:=fn82 M1 A hbb (hair q1 q2);rw [<-hCX];exact this
 have cv:=AAI l.axl l.axh l.ayl l.ayh ⟨l3,l4⟩;have cv':Ct prog 251 [wd4 l.axl l.axh l.ayl l.ayh] (.tup [vsp (N1 l).1 (N1 l).2,vi 0]) []:=cv
 have d5:¬ H.1 < r.lo->¬ r.hi < H.2->¬ N.fl < r.rsv->Ct prog 74 [Cl {KG s N with xl:=s.xl,xh:=s.xh,yl:=s.yl,yh:=s.yh} (.d (AX N.gas.cs)),Ox A] (vsp (hvS (KG s N) A).1 (hvS (KG s N) A).2) []:=fun q1 q2 q3=>by
   have v1:=rB.v;have v2:=rB.h
   have hbb:VU {KG s N with xl:=s.xl,xh:=s.xh,yl:=s.yl,yh:=s.yh}:=by
     unfold KG;refine ⟨by simp only;omega,by simp only;omega,by simp only;omega,?_,?_,hcl,hcel⟩
     . simp only;rw [<-x14];exact sB.d
     . simp only;rw [<-x15];exact sB.b
   exact fn74 _ A hbb (hair q1 q2)
 have d6:=zj r.reg (N1 l) (hvS (KG s N) A) h3;rw [hTR] at d6;have cj1:=wQ s.fl s.fh N.fl N.fh;have cj2:=wQ s.wl s.wh N.wl N.wh;have mf1:min s.fl N.fl=N.fl:=by omega
 have mf2:max s.fh N.fh=s.fh:=by omega
 rw [mf1,mf2] at cj1;have cx:=S6 N.xl N.xh (-10000000) 10000000;have cy:=S6 N.yl N.yh (-10000000) 10000000;rw [hFX] at cx;rw [hFY] at cy;simp only [doV] at c1;rw [x13] at c1;rw [x5,x6] at c2 ch;rw [x11,x12] at c3;rw [x9,x10] at c5';rw [x1,x2] at c8;rw [x3,x4] at c10
 generalize hvS (KG s N) A=hv at*
 unfold KG at d5
 generalize N1 l=sp at*
 unfold vc;rw [hN,x5,x6,x13];obtain ⟨EV,hEV⟩:∃ EV,ER k r s l=EV:=⟨_,rfl⟩
 rw [hEV] at hev ⊢;simp only [M1] at d3;refine CB func174 c174 fun E hE=>?_
 simp [p174,AA];refine CLa c1 ?_;simp [AA];refine CLa c2 ?_;simp [AA];refine CLa ch ?_;simp [AA];by_cases t1:H.1 < r.lo
 . rw [if_pos t1] at hev
   simp [t1,AA];apply RZ;simp [results174,hev]
 rw [if_neg t1] at hev;simp [t1];by_cases t2:r.hi < H.2
 . rw [if_pos t2] at hev
   simp [t2,AA];apply RZ;simp [results174,hev]
 rw [if_neg t2] at hev;simp [t2];refine CLa c11' ?_;simp [AA];refine CLa (d3 t1 t2) ?_;simp;by_cases t3:0<=CX
 . rw [if_pos t3] at hev
   simp [t3,AA];apply RZ;simp [results174,hev]
 rw [if_neg t3] at hev;simp [t3,AA];have w1n:IntKind.wrap .i64 N.fl=N.fl:=by rw [<-x7];exact w1
 have w2n:IntKind.wrap .i64 N.fh=N.fh:=by rw [<-x8];exact w2
 simp [w1n,w2n,x7,x8];refine CLa c3 ?_;simp [AA];by_cases t4:N.fl < r.rsv
 . rw [if_pos t4] at hev
   simp [t4,AA];apply RZ;simp [results174,hev,<-x14,<-x15,<-x16]
 rw [if_neg t4] at hev;simp [t4,AA];refine CLa c4' ?_;simp [AA,inC,Nat.testBit];refine CLa c5 ?_;simp [inC,Nat.testBit];refine CLa c5' ?_;simp [AA];refine CLa cj1 ?_;simp [AA];refine CLa cj2 ?_;simp [AA];refine CLa cv' ?_;simp [AA,inC,Nat.testBit];refine CLb (d5 t1 t2 t4) (by first | (simp;done) | simp [x14,x15,x16]) ?_;simp;refine CLa d6 ?_;cases TR
 . simp at hev
   simp [AA];apply RZ;simp [results174,hev,<-x14,<-x15,<-x16]
 simp at hev;simp;refine CLa c6 ?_;simp [AA,inC,Nat.testBit];refine CLa c7 ?_;simp;refine CLa c8 ?_;simp [AA,inC,Nat.testBit];refine CLa c9 ?_;simp;refine CLa c10 ?_;simp [AA];refine CLa cx ?_;cases FX
 . simp at hev
   simp [AA];apply RZ;simp [results174,hev,<-x14,<-x15,<-x16]
 simp;refine CLa cy ?_;cases FY
 . simp at hev
   simp [AA];apply RZ;simp [results174,hev,<-x14,<-x15,<-x16]
 . simp at hev
   simp [AA];apply RZ;simp [results174,hev,<-x14,<-x15,<-x16]
abbrev evtV (e:Evt):V:=evV e.1 e.2.1 e.2.2.1 e.2.2.2
def Ku (i m:Int) (a:Except (Int × Int × Int) Shp):V:=match a with
 | .ok n=> .tup [Cl n (.d (AX n.gas.cs)),evV 0 0 0 0,vi 0]
 | .error e=> .tup [.agg shZ,evtV (if e.1=54 then (e.2.1,i,m,e.2.2) else ev0),vi e.1]
theorem wI {k:Sky} {r:Rig} {s:Shp} {l:Leg} (h:(ER k r s l).1=0):vc k r s l=Cj k r s l:=by
 unfold vc;rw [if_pos (.inl h)]
theorem zM (k:Sky) (r:Rig) (s:Shp) (l:Leg) (i m:Int) (h1:k.s.length<=1000000) (h2:k.w.length<=1000000) (h3:r.reg.length<=1000000) (hk:BV k=true) (hR:CF r=true) (hg:Ey k r=true) (hs:A6 s=true) (hl:BE l=true):Ct prog 102 [Eu k,Fj r,Cl s (.d (AX s.gas.cs)),Xf l,vi i,vi m] (Ku i m (HK k r s l)) []:=by
 have c1:=AAF k r s l h1 h2 h3 hk hR hg hs hl;unfold HK;by_cases hz:(ER k r s l).1=0
 . rw [wI hz] at c1
   rw [if_pos hz];have ebh:s.bh+l.bh=(Cj k r s l).bh:=rfl;rw [ebh]
   generalize Cj k r s l=N at*
   generalize ER k r s l=e at*
   by_cases hf:1000000000000 < N.bh
   . rw [if_pos hf]
     simp only [Ku,ev0,show ¬ (9:Int)=54 by omega,if_false];refine CB func102 yk fun E hE=>?_
     simp [p102];refine CLa c1 ?_;simp [AA,hf,hz];apply RZ;simp [results102]
   . rw [if_neg hf]
     simp only [Ku];refine CB func102 yk fun E hE=>?_
     simp [p102];refine CLa c1 ?_;simp [AA,hf,hz];apply RZ;simp [results102]
 . rw [if_neg hz]
   simp only [Ku,if_true]
   generalize vc k r s l=N at*
   generalize ER k r s l=e at*
   refine CB func102 yk fun E hE=>?_
   simp [p102];refine CLa c1 ?_;simp [AA,hz];apply RZ;simp [results102]
def sH (k:Sky) (r:Rig) (s:Shp):Int:=if BV k then (if CF r then (if A6 s then 0 else 52) else 51) else 50
theorem zN (k:Sky) (r:Rig) (s:Shp) (h1:k.s.length<=1000000) (h2:k.w.length<=1000000) (h3:r.reg.length<=1000000) (h4:s.gas.cs.length<=1000000):Ct prog 100 [Eu k,Fj r,Cl s (.d (AX s.gas.cs))] (vi (sH k r s)) []:=by
 have c1:=fn71 k h1 h2;have c2:=fn93 r (by omega);have c3:=fn37 s h4;unfold sH
 generalize BV k=b1 at*
 generalize CF r=b2 at*
 cases b1
 . refine CB func100 yj fun E hE=>?_
   simp [p100]
   repeat ((first | (refine CLt c1 ?_ ?_;focus (simp;done)) | (refine CLt c2 ?_ ?_;focus (simp;done)) | (refine CLt c3 ?_ ?_;focus (simp;done)));simp)
   apply RZ;simp [results100]
 . cases b2
   . refine CB func100 yj fun E hE=>?_
     simp [p100]
     repeat ((first | (refine CLt c1 ?_ ?_;focus (simp;done)) | (refine CLt c2 ?_ ?_;focus (simp;done)) | (refine CLt c3 ?_ ?_;focus (simp;done)));simp)
     apply RZ;simp [results100]
   . refine CB func100 yj fun E hE=>?_
     simp [p100]
     repeat ((first | (refine CLt c1 ?_ ?_;focus (simp;done)) | (refine CLt c2 ?_ ?_;focus (simp;done)) | (refine CLt c3 ?_ ?_;focus (simp;done)));simp)
     apply RZ;simp [results100]
theorem zO (k:Sky) (r:Rig) (hk:BV k=true):Ct prog 101 [Eu k,Fj r] (vb (Ey k r)) []:=by
 have hl:=(Sr hk).len;obtain ⟨x,hx⟩:∃ x,k.s[0]?= some x:=⟨_,List.getElem?_eq_getElem (by omega)⟩
 obtain ⟨y,hy⟩:∃ y,k.s[k.s.length - 1]?= some y:=⟨_,List.getElem?_eq_getElem (by omega)⟩
 have e:Ey k r=(decide (x.h<=r.lo)&&decide (r.hi<=y.h)):=by unfold Ey aj;rw [hx,hy]
 have w1:IntKind.wrap .i64 ((k.s.length:Int) - 1)=((k.s.length - 1:Nat):Int):=by rw [AD (by omega) (by omega)];omega
 have hI0:(0:Int) < k.s.length:=by omega
 obtain ⟨j,hj⟩:∃ j,k.s.length - 1=j:=⟨_,rfl⟩
 rw [hj] at w1 hy;have hI1:(j:Int) < k.s.length:=by omega
 rw [e];by_cases t:x.h<=r.lo
 . refine CB func101 zm fun E hE=>?_
   simp [p101,inC,Nat.testBit,hx,hy,w1,t];apply RZ;simp [results101]
 . refine CB func101 zm fun E hE=>?_
   simp [p101,inC,Nat.testBit,hx,t];apply RZ;simp [results101]
theorem MD {k:Sky} {r:Rig} {s:Shp} {e:Int} (h:JC k r s e=0):BV k=true/\CF r=true/\A6 s=true/\e=0/\Ey k r=true:=by
 unfold JC at h;cases h1:BV k
 . rw [h1] at h;simp at h
 cases h2:CF r
 . rw [h1,h2] at h;simp at h
 cases h3:A6 s
 . rw [h1,h2,h3] at h;simp at h
 by_cases h4:e=0
 . cases h5:Ey k r
   . rw [h1,h2,h3,h5] at h;simp [h4] at h
   . exact ⟨rfl,rfl,rfl,h4,rfl⟩
 . rw [h1,h2,h3] at h;simp [h4] at h
theorem zP {k:Sky} {r:Rig} {s:Shp} {e:Int}:JC k r s e=if sH k r s=0 then (if e=0 then (if Ey k r then 0 else 2) else e) else sH k r s:=by
 unfold JC sH;cases BV k<;>cases CF r<;>cases A6 s<;>simp
theorem xV {k:Sky} {r:Rig} {s:Shp} (h:sH k r s=0):BV k=true/\CF r=true/\A6 s=true:=by
 unfold sH at h;cases h1:BV k
 . rw [h1] at h;simp at h
 cases h2:CF r
 . rw [h1,h2] at h;simp at h
 cases h3:A6 s
 . rw [h1,h2,h3] at h;simp at h
 exact ⟨rfl,rfl,rfl⟩
theorem fn43 (k:Sky) (r:Rig) (s:Shp) (l:Leg) (h1:k.s.length<=1000000) (h2:k.w.length<=1000000) (h3:r.reg.length<=1000000) (h4:s.gas.cs.length<=1000000) (h5:l.acts.length<=1000000):Ct prog 43 [Eu k,Fj r,Cl s (.d (AX s.gas.cs)),Xf l] (Ku 0 0 (cC k r s l)) []:=by
 have c1:=zN k r s h1 h2 h3 h4;have c2:=ya l (by omega);unfold cC;rw [zP];by_cases ha:sH k r s=0
 . obtain ⟨hk,hR,hs⟩:=xV ha
   have c3:=zO k r hk;rw [if_pos ha];rw [ha] at c1;cases hl:BE l
   . rw [hl] at c2
     simp [Ku,ev0];refine CB func43 c43 fun E hE=>?_
     simp [p43];refine CLa c1 ?_;simp;refine CLa c2 ?_;simp [AA];apply RZ;simp [results43]
   rw [hl] at c2;cases hg:Ey k r
   . rw [hg] at c3
     simp [Ku,ev0];refine CB func43 c43 fun E hE=>?_
     simp [p43];refine CLa c1 ?_;simp;refine CLa c2 ?_;simp;refine CLa c3 ?_;simp [AA];apply RZ;simp [results43]
   rw [hg] at c3;have c4:=zM k r s l 0 0 h1 h2 h3 hk hR hg hs hl;simp only [if_true];obtain ⟨M,hM⟩:∃ M,HK k r s l=M:=⟨_,rfl⟩
   rw [hM] at c4 ⊢;cases M with
   | ok n=>
     simp only [Ku] at c4 ⊢;refine CB func43 c43 fun E hE=>?_
     simp [p43];refine CLa c1 ?_;simp;refine CLa c2 ?_;simp;refine CLa c3 ?_;simp;refine CLa c4 ?_;simp [AA];apply RZ;simp [results43]
   | error e=>
     simp only [Ku] at c4 ⊢
     generalize (if e.1=54 then (e.2.1,(0:Int),(0:Int),e.2.2) else ev0)=ev at*
     refine CB func43 c43 fun E hE=>?_
     simp [p43];refine CLa c1 ?_;simp;refine CLa c2 ?_;simp;refine CLa c3 ?_;simp;refine CLa c4 ?_;simp [AA];apply RZ;simp [results43]
 . rw [if_neg ha,if_neg ha]
   have ha2:¬ sH k r s=54:=by
     unfold sH;cases BV k<;>cases CF r<;>cases A6 s<;>simp
   simp only [Ku,ha2,if_false,ev0]
   generalize sH k r s=e at*
   refine CB func43 c43 fun E hE=>?_
   simp [p43];refine CLa c1 ?_;simp [AA,ha];apply RZ;simp [results43]
theorem xc (hS:SortOk) (k:Sky) (r:Rig) (s n:Shp) (l:Leg) (h1:k.s.length<=1000000) (h2:k.w.length<=1000000) (h3:r.reg.length<=1000000) (hk:BV k=true) (hR:CF r=true) (hg:Ey k r=true) (hs:A6 s=true) (hl:BE l=true) (hm:HK k r s l= .ok n) (hne:n.gas.cs≠[]):Ct prog 99 [D2 k r,Cl s (.d (AX s.gas.cs)),Xf l] (.tup [Cl n (.ls 0 0 n.gas.cs.length 7),evV 0 0 0 0,vi 0]) [(0,AH AP n.gas.cs)]:=by
 unfold HK at hm;by_cases hz:(ER k r s l).1=0
 . rw [if_pos hz] at hm
   have ebh:s.bh+l.bh=(Cj k r s l).bh:=rfl;rw [ebh] at hm;by_cases hf:1000000000000 < (Cj k r s l).bh
   . rw [if_pos hf] at hm;cases hm
   rw [if_neg hf] at hm;cases hm
   have hne2:s.gas.cs≠[]:=by
     intro e;apply hne
     show (tkQ s.gas).cs=[]
     simp [tkQ,e]
   have c1:=zc hS k r s l h1 h2 h3 hk hR hg hs hl hz hne2
   generalize Cj k r s l=N at*
   refine Ct.by gok eok mixed func99 c99 rfl (by simp [ntmps99]) (by simp) (by
     refine ⟨by simp,?_⟩;intro q hq c hc;simp only [List.mem_cons,List.not_mem_nil,or_false] at hq;subst hq;exact rn c hc) fun E hE=>?_
   simp [p99];refine CLa c1 ?_;simp [AA,hf];refine AL [(2,2097152)] (by kernel_rfl) ?_;simp [AA,inC,Nat.testBit];refine AB.by (lk [(0,8388608)]) ?_;simp [results99]
 . rw [if_neg hz] at hm;cases hm
theorem yO (hS:SortOk) (k:Sky) (r:Rig) (s n:Shp) (l:Leg) (h1:k.s.length<=1000000) (h2:k.w.length<=1000000) (h3:r.reg.length<=1000000) (h4:s.gas.cs.length<=1000000) (h5:l.acts.length<=1000000) (hm:cC k r s l= .ok n) (hne:n.gas.cs≠[]):Ct prog 42 [Eu k,Fj r,Cl s (.d (AX s.gas.cs)),Xf l] (.tup [Cl n (.ls 0 0 n.gas.cs.length 7),evV 0 0 0 0,vi 0]) [(0,AH AP n.gas.cs)]:=by
 have c1:=qF s (by omega);have c2:=xg l (by omega);unfold cC at hm;by_cases hz:JC k r s (if BE l then 0 else 53)=0
 . rw [if_pos hz] at hm
   obtain ⟨hk,hR,hs,hb0,hg⟩:=MD hz
   have hl:BE l=true:=by
     cases h:BE l
     . rw [h] at hb0;simp at hb0
     . rfl
   rw [hs] at c1;rw [hl] at c2;have c3:=fd 13631488 hS k r h1 h2 h3 hk hR hg;have c4:=xc hS k r s n l h1 h2 h3 hk hR hg hs hl hm hne
   refine Ct.by gok eok mixed func42 c42 rfl (by simp [ntmps42]) (by simp) (by
     refine ⟨by simp,?_⟩;intro q hq c hc;simp only [List.mem_cons,List.not_mem_nil,or_false] at hq;subst hq;exact rn c hc) fun E hE=>?_
   simp [p42];refine AL [(7,13631488)] (by kernel_rfl) ?_;simp [inC,Nat.testBit];refine CLa c1 ?_;simp [inC,Nat.testBit];refine CLa c2 ?_;simp [AA,AM,inC,Nat.testBit];refine CDs c3 (by simp [wrL,inC,Nat.testBit]) ?_;simp;refine CLa c4 ?_;simp [AA];refine AB.by (lk [(0,26214400)]) ?_;simp [results42]
 . rw [if_neg hz] at hm;cases hm
end Go.Proofs.Tryz
namespace Go.Psl
variable {P:Program} {Γ:Tys} {eqs:Eqs} {E:Ent}
def CX (ks xs:List Nat) (c:V):Prop:=match c with
 | .lr fr _ _ _ _ _=>∀ t,AV (·∈ks) AR (fr t)
 | c=>W1 (rid (ks++xs)) c c
structure BT (ks xs:List Nat) (L:List (Nat × List V)):Prop where
 names:L.map (·.1)=ks++xs
 nd:(ks++xs).Nodup
 cells:∀ p∈L,p.2≠[]/\Bv p.2/\∀ c∈p.2,CX ks xs c
section
variable {ks xs xs1:List Nat} {L L1:List (Nat × List V)}
theorem BT.lk (h:BT ks xs L) {p:Nat × List V} (hp:p∈L):Go.Psl.lk L p.1=some p.2:=ay (by rw [h.names];exact h.nd) p hp
theorem BT.mem (h:BT ks xs L) {p:Nat × List V} (hp:p∈L):p.1∈ks++xs:=by rw [<-h.names];exact List.mem_map.2 ⟨p,hp,rfl⟩
theorem BT.isIn (h:BT ks xs L) {i:Nat}:(Go.Psl.lk L i).isSome=true↔i∈ks++xs:=by
 constructor
 . intro hi
   obtain ⟨x,hx⟩:=Option.isSome_iff_exists.1 hi;exact h.mem (p:=(i,x)) (B4 hx)
 . intro hi
   rw [<-h.names] at hi;obtain ⟨p,hp,rfl⟩:=List.mem_map.1 hi;rw [h.lk hp];rfl
theorem Mw {c:V} (h:W1 (rid ks) c c):A1 (·∈ks) AR c:=by
 cases c with
 | cl f cs=>
   obtain ⟨cs',e,h2⟩:=h;cases e;exact fun c hc=>(FH (GY h2 c hc)).1
 | junk=>exact trivial
 | d x=>exact trivial
 | lp i o=>exact (FH (c:= .lp i o) h).1
 | ls i o l z=>exact (FH (c:= .ls i o l z) h).1
 | yl i=>exact (FH (c:= .yl i) h).1
 | lr=>exact False.elim h
 | agg cs=>exact False.elim h
 | tup cs=>exact False.elim h
theorem ie {c:V} (h:CX ks xs c):AC (·∈ks++xs) AR c:=by
 cases c with
 | lr fr nt ps pa pb jmp=>exact fun t=>AV.mono (fun i hi=>List.mem_append_left _ hi) (fun _ h=>h) (h t)
 | cl f cs=>exact Mw (c:= .cl f cs) h
 | junk=>exact trivial
 | d x=>exact trivial
 | lp i o=>exact Mw (c:= .lp i o) h
 | ls i o l z=>exact Mw (c:= .ls i o l z) h
 | yl i=>exact Mw (c:= .yl i) h
 | agg cs=>exact False.elim h
 | tup cs=>exact False.elim h
theorem BT.ids (h:BT ks xs L) {n:Nat} (hn:∀ i∈ks++xs,i < n):A7 n L:=by
 have key:∀ M:List (Nat × List V),(∀ p∈M,p∈L)->A7 n M:=by
   intro M;induction M with
   | nil=>intro _;trivial
   | cons p r ih=>
     intro hM;have hp:=hM p (by simp);exact ⟨hn _ (h.mem hp),fun c hc=>AC.mono hn (fun _ h=>h) (ie ((h.cells p hp).2.2 c hc)),ih fun q hq=>hM q (List.mem_cons_of_mem _ hq)⟩
 exact key L fun _ h=>h
theorem BT.res (h:BT ks xs L):∀ p∈L,∀ c∈p.2,AC (InB L) AR c:=fun p hp c hc=>AC.mono (fun _ hi=>h.isIn.2 hi) (fun _ h=>h) (ie ((h.cells p hp).2.2 c hc))
theorem kO {c:V} (h:CX ks xs c):WC (rid (ks++xs)) c c:=by
 cases c with
 | lr fr nt ps pa pb jmp=>exact ⟨rfl,fun t=>AV.mono (fun i hi=>Cr (List.mem_append_left _ hi)) (fun _ h=>h) (h t)⟩
 | cl f cs=>exact h
 | junk=>exact h
 | d x=>exact h
 | lp i o=>exact h
 | ls i o l z=>exact h
 | yl i=>exact h
 | agg cs=>exact h
 | tup cs=>exact h
theorem BT.same (h:BT ks xs L):A4 (ks++xs) L:=⟨h.names,h.nd,fun p hp=>⟨(h.cells p hp).1,(h.cells p hp).2.1,fun c hc=>kO ((h.cells p hp).2.2 c hc)⟩⟩
end
end Go.Psl
namespace Go.Proofs.Tryz
open Go.Psl
open Go.Air
theorem ck {k:Sky} {r:Rig} {s:Shp} {x:Leg} {e:Int × Int × Int} (h:HK k r s x= .error e):(e.1=54/\True)\/(e.1=9/\e.2.1=0/\e.2.2=0):=by
 unfold HK at h;split at h
 . split at h
   . cases h;exact .inr ⟨rfl,rfl,rfl⟩
   . cases h
 . cases h;exact .inl ⟨rfl,trivial⟩
end Go.Proofs.Tryz
namespace Go.Psl
variable {P:Program} {E:Ent}
theorem AI.trans {a b c:St} (h:AI P E a b) (g:AI P E b c):AI P E a c:=fun G x W hI=>by
 obtain ⟨G',h'⟩:=h G x W hI;exact g G' x W h'
def FzK (H:Hp) (v c:V):Prop:=v=c\/FzC H v c
theorem FzK.one {G:Gh} {W:World} {H:Hp} (hB:∀ id cs,H id=some cs->HB G W id cs) (hin:De (fun _=>True) AR (fun i=>i) G W {G with Im:=Jw G H} W) {v c:V} {x:Value} (h:FzK H v c) (ha:A1 (fun _=>True) AR v) (hx:R1 G W v x):R1 {G with Im:=Jw G H} W c x:=by
 rcases h with rfl | ⟨y,rfl,hy⟩
 . exact hin.s1 ha hx
 . exact R0.r1 (fz0 hB hy (R2.rv (R1.r2 hx)))
end Go.Psl
namespace Go.Proofs.Tryz
open Go.Psl
open Go.Air
theorem MM {α:Type} {R:α->α->Prop} (h:∀ a,R a a):∀ l:List α,AJ R l l
 | []=>trivial
 | a::l=>⟨h a,MM h l⟩
abbrev lgV (l:Leg):List V:=[vi l.m,vi l.axl,vi l.axh,vi l.ayl,vi l.ayh,vi l.ul,vi l.uh,vi l.bl,vi l.bh,vi l.dr, .d (JZ l.acts)]
theorem ar {l:Leg}:∀ (H:Hp) (b:Nat),H b=some (lgV l)->Bor H (.ls b 0 1 11) (.d (Bs [l])):=fun _ _ hh=>B0 (f:=Pi) (fun _=>rfl) (l:=[l]) hh
theorem xJ (s:Shp) (hl:s.gas.cs.length<=1000000):Ct prog 20 [Cl s (.d (AX s.gas.cs))] (Cl s (.d (AX s.gas.cs))) []:=by
 refine Cm.freeze (fn20 s hl) ?_;have z:∀ (H:Hp) (x:Int),FzC H (vi x) (vi x):=fun H x=>⟨_,rfl, .inl rfl⟩
 exact ⟨z _ _,z _ _,z _ _,z _ _,z _ _,z _ _,z _ _,z _ _,z _ _,z _ _,z _ _,z _ _,z _ _,z _ _,z _ _,⟨_,rfl,B0 (f:=AP) EZ (l:=s.gas.cs) (by simp)⟩,z _ _,z _ _,z _ _,z _ _,z _ _,z _ _,z _ _,z _ _,z _ _,trivial⟩
theorem tt {k:Sky} {r:Rig} {s:Shp} {l:Leg} {e:Int × Int × Int} (h:cC k r s l= .error e):e.1=54\/(¬ e.1=54/\e.2.1=0/\e.2.2=0):=by
 unfold cC at h
 generalize (if BE l then (0:Int) else 53)=b at h
 by_cases hz:JC k r s b=0
 . rw [if_pos hz] at h
   rcases ck h with ⟨h1,_⟩ | ⟨h1,h2,h3⟩
   . exact .inl h1
   . exact .inr ⟨by omega,h2,h3⟩
 . rw [if_neg hz] at h
   cases h;by_cases h5:JC k r s b=54
   . exact .inl h5
   . exact .inr ⟨h5,rfl,rfl⟩
def shp0:Shp:=⟨0,0,0,0,0,0,0,0,0,0,0,0,0,0,0,⟨[],0,0,0,0,0,0,0,0,0⟩⟩
def ngC (c:Cel):Cel:={c with he:= -7}
def ngL (cs:List Cel) (i:Nat):List Cel:=(cs.take i).map ngC++cs.drop i
theorem SF (cs:List Cel):ngL cs 0=cs:=by simp [ngL]
theorem hZ {cs:List Cel} {i:Nat}:(ngL cs i).length=cs.length:=by
 unfold ngL;rw [List.length_append,List.length_map,<-List.length_append,List.take_append_drop]
theorem re {cs:List Cel} {i:Nat} {c:Cel} (h:cs[i]?= some c):(ngL cs i)[i]?= some c:=by
 have hi:=(List.getElem?_eq_some_iff.1 h).1;unfold ngL;rw [List.getElem?_append_right (by simp;omega)];simp only [List.length_map,List.length_take,Nat.min_eq_left (Nat.le_of_lt hi),Nat.sub_self,List.getElem?_drop,Nat.add_zero];exact h
theorem S1 {cs:List Cel} {i:Nat} {c:Cel} (h:cs[i]?= some c):ngL cs (i+1)=(ngL cs i).set i (ngC c):=by
 have hi:=(List.getElem?_eq_some_iff.1 h).1;unfold ngL;rw [List.take_add_one,h,List.set_append_right _ _ (by simp;omega)];simp only [List.length_map,List.length_take,Nat.min_eq_left (Nat.le_of_lt hi),Nat.sub_self,Option.toList_some,List.map_append,List.map_cons,List.map_nil,List.append_assoc,List.cons_append,List.nil_append];rw [List.drop_eq_getElem_cons hi,List.set_cons_zero]
theorem sj {k:Sky} {r:Rig} {s n:Shp} {l:Leg} (h:cC k r s l= .ok n):n.gas.cs.length<=12:=by
 unfold cC at h
 generalize (if BE l then (0:Int) else 53)=b at h
 by_cases hz:JC k r s b=0
 . rw [if_pos hz] at h
   obtain ⟨_,_,hs,_⟩:=MD hz;obtain ⟨_,hnn⟩:=H2.1 h;rw [hnn]
   show (tkQ s.gas).cs.length<=12
   have:=CS (CR hs);simpa [tkQ] using this
 . rw [if_neg hz] at h;cases h
theorem fn5 (hS:SortOk) (k:Sky) (r:Rig) (s:Shp) (l:Leg):Ct prog 5 [Eu k,Fj r,Cl s (.d (AX s.gas.cs)),Xf l] (vb true) []:=by
 have d1:=fn29 k r s [l];cases hg:grA k r s [l]
 case true=>
   rw [hg] at d1;refine CB func5 c5 fun E hE=>?_
   simp [p5,AA,AM];refine CLb (d1) (by simp [ar]) ?_;simp;apply RZ;simp [results5]
 rw [hg] at d1;obtain ⟨⟨g1,g2⟩,g3,g4,g5,g6⟩:=l0 hg;have g7:=g6 l (by simp);have d2:=xJ s (by omega);have d9:=ABP s (by omega);have b3:=yx s l (by omega) (by omega);have d4:=fn41 s l (by omega) (by omega);have q5:=fn42 hS k r s l (by omega) (by omega) (by omega) (by omega) (by omega);have d6:=fn43 k r s l (by omega) (by omega) (by omega) (by omega) (by omega);have dz:Ct prog 28 [.agg [vi 0,vi 0,vi 0,vi 0,vi 0,vi 0,vi 0,vi 0,vi 0,vi 0,vi 0,vi 0,vi 0,vi 0,vi 0, .d (AX []),vi 0,vi 0,vi 0,vi 0,vi 0,vi 0,vi 0,vi 0,vi 0], .agg [vi 0,vi 0,vi 0,vi 0,vi 0,vi 0,vi 0,vi 0,vi 0,vi 0,vi 0,vi 0,vi 0,vi 0,vi 0, .d (AX []),vi 0,vi 0,vi 0,vi 0,vi 0,vi 0,vi 0,vi 0,vi 0]] (vb true) []:=ABP shp0 (by decide);cases hb:rX s l with
 | error be=>
   rw [hb] at b3 d4;simp only [ug] at b3;simp only [Oy] at d4;have d3:=b3;have d7:=dz;cases hst:cC k r s l with
   | error e=>
     rw [hst] at q5 d6;simp only [RB] at q5;simp only [Ku] at d6;have d5:=q5;have d8:=dz;have u5:=tt hst;obtain ⟨e1,e2,e3⟩:=e;simp only at u5 d5 d6;rcases u5 with u5 | ⟨u5,u6,u7⟩
     . subst u5
       simp only [if_true] at d6;refine CB func5 c5 fun E hE=>?_
       simp [p5,AA,AM];refine CLb (d1) (by simp [ar]) ?_;simp;refine CLa d2 ?_;simp [AA];refine CLa d3 ?_;simp [AA];refine CLa d4 ?_;simp [AA];refine CLa d5 ?_;simp [AA];refine CLa d6 ?_;simp [AA];refine CLb (d7) (by simp) ?_;simp;refine CLb (d8) (by simp) ?_;simp;refine Al (α:=Nat) (fun i=>⟨AO [(6, .lp 0 0),(9, .lp 1 0),(10, .lp 2 0),(14, .lp 3 0),(20,vb true),(87,vi 0),(88,vi 0)],lk [(0,shB s),(1,shB s),(2,shZ),(3,shZ)],8⟩) (fun i=>i<=0) (fun i=>0 - i) 0 ?_ ?_ ?_
       . omega
       . exact WK hE (lk [(0,2097152),(1,13631488),(2,22020096),(3,44040192),(5,38797312)])
       . intro i hi
         simp [rh];refine Al (α:=Nat) (fun i=>⟨AO [(6, .lp 0 0),(9, .lp 1 0),(14, .lp 3 0),(20,vb true),(101,vi 0),(102,vi 0)],lk [(0,shB s),(1,shB s),(3,shZ)],8⟩) (fun i=>i<=0) (fun i=>0 - i) 0 ?_ ?_ ?_
         . omega
         . exact WK hE (lk [(0,0),(1,1),(3,3)])
         . intro i hi
           simp [sN];refine CLa d9 ?_;simp;apply RZ;simp [results5]
     . subst u6 u7
       rw [if_neg u5] at d6;simp only [ev0] at d6;refine CB func5 c5 fun E hE=>?_
       simp [p5,AA,AM];refine CLb (d1) (by simp [ar]) ?_;simp;refine CLa d2 ?_;simp [AA];refine CLa d3 ?_;simp [AA];refine CLa d4 ?_;simp [AA];refine CLa d5 ?_;simp [AA];refine CLa d6 ?_;simp [AA];refine CLb (d7) (by simp) ?_;simp;refine CLb (d8) (by simp) ?_;simp;refine Al (α:=Nat) (fun i=>⟨AO [(6, .lp 0 0),(9, .lp 1 0),(10, .lp 2 0),(14, .lp 3 0),(20,vb true),(87,vi 0),(88,vi 0)],lk [(0,shB s),(1,shB s),(2,shZ),(3,shZ)],8⟩) (fun i=>i<=0) (fun i=>0 - i) 0 ?_ ?_ ?_
       . omega
       . exact WK hE (lk [(0,2097152),(1,13631488),(2,22020096),(3,44040192),(5,38797312)])
       . intro i hi
         simp [rh];refine Al (α:=Nat) (fun i=>⟨AO [(6, .lp 0 0),(9, .lp 1 0),(14, .lp 3 0),(20,vb true),(101,vi 0),(102,vi 0)],lk [(0,shB s),(1,shB s),(3,shZ)],8⟩) (fun i=>i<=0) (fun i=>0 - i) 0 ?_ ?_ ?_
         . omega
         . exact WK hE (lk [(0,0),(1,1),(3,3)])
         . intro i hi
           simp [sN];refine CLa d9 ?_;simp;apply RZ;simp [results5]
   | ok n=>
     rw [hst] at q5 d6;simp only [RB] at q5;simp only [Ku] at d6;have hnc:n.gas.cs.length<=12:=sj hst;have d8:=ABP n (by omega);by_cases hne:n.gas.cs=[]
     . have d5:=q5
       have hn0:n.gas.cs.length=0:=by rw [hne];rfl
       refine CB func5 c5 fun E hE=>?_
       simp [p5,AA,AM];refine CLb (d1) (by simp [ar]) ?_;simp;refine CLa d2 ?_;simp [AA];refine CLa d3 ?_;simp [AA];refine CLa d4 ?_;simp [AA];refine CLa d5 ?_;simp [AA];refine CLa d6 ?_;simp [AA];refine CLb (d7) (by simp) ?_;simp;refine CLb (d8) (by simp) ?_;simp;refine Al (α:=Nat) (fun i=>⟨AO [(6, .lp 0 0),(9, .lp 1 0),(10, .lp 2 0),(14, .lp 3 0),(20,vb true),(87,vi 0),(88,vi 0)],lk [(0,shB s),(1,shB s),(2,shZ),(3,(shB n))],8⟩) (fun i=>i<=0) (fun i=>0 - i) 0 ?_ ?_ ?_
       . omega
       . exact WK hE (lk [(0,2097152),(1,13631488),(2,22020096),(3,44040192),(5,38797312)])
       . intro i hi
         simp [rh];refine Al (α:=Nat) (fun i=>⟨AO [(6, .lp 0 0),(9, .lp 1 0),(14, .lp 3 0),(20,vb true),(101,vi 0),(102,vi 0)],lk [(0,shB s),(1,shB s),(3,(shB n))],8⟩) (fun i=>i<=0) (fun i=>0 - i) 0 ?_ ?_ ?_
         . omega
         . refine AI.mk hE (lk [(0,0),(1,1),(3,3)]) _ _ _ ?_ ?_ ?_ ?_ ?_<;>simp [hne]
         . intro i hi
           simp [sN];refine CLa d9 ?_;simp;apply RZ;simp [results5]
     . have d5:=yO hS k r s n l (by omega) (by omega) (by omega) (by omega) (by omega) hst hne
       refine CB func5 c5 fun E hE=>?_
       simp [p5,AA,AM];refine CLb (d1) (by simp [ar]) ?_;simp;refine CLa d2 ?_;simp [AA];refine CLa d3 ?_;simp [AA];refine CLa d4 ?_;simp [AA];refine CLa d5 ?_;simp [AA];refine CLa d6 ?_;simp [AA];refine CLb (d7) (by simp) ?_;simp;refine CLb (d8) (by simp [rb]) ?_;simp;refine Al (α:=Nat) (fun i=>⟨AO [(6, .lp 0 0),(9, .lp 1 0),(10, .lp 2 0),(14, .lp 3 0),(20,vb true),(87,vi 0),(88,vi 0)],lk [(0,shB s),(1,shB s),(2,shZ),(3,(shO n 5)),(5,AH AP n.gas.cs)],8⟩) (fun i=>i<=0) (fun i=>0 - i) 0 ?_ ?_ ?_
       . omega
       . exact WK hE (lk [(0,2097152),(1,13631488),(2,22020096),(3,44040192),(5,38797312)])
       . intro i hi
         simp [rh];refine Al (α:=Nat) (fun i=>⟨AO [(6, .lp 0 0),(9, .lp 1 0),(14, .lp 3 0),(20,vb true),(101,vi n.gas.cs.length),(102,vi i)],lk [(0,shB s),(1,shB s),(3,shO n 5),(5,AH AP (ngL n.gas.cs i))],8⟩) (fun i=>i<=n.gas.cs.length) (fun i=>n.gas.cs.length - i) 0 ?_ ?_ ?_
         . omega
         . rw [SF]
           exact WK hE (lk [(0,0),(1,1),(3,3),(5,5)])
         . intro i hi
           by_cases h:i < n.gas.cs.length
           . obtain ⟨c,hc⟩:=gE h
             have hz:=@wz i (by omega);have hI:(i:Int) < n.gas.cs.length:=by omega
             have hLc:=re hc;have hLn:=S1 hc;have hLl:=hZ (cs:=n.gas.cs) (i:=i)
             generalize ngL n.gas.cs i=L at*
             have hsl:=Aw EZ L;have s0:i*7+1+1<=n.gas.cs.length*7:=by omega
             have x1:AA (AH AP L) (i*7+1) [vi (-7)]=AH AP (L.set i (ngC c)):=Cq EZ (y:=ngC c) (j:=1) (vs:=[di (-7)]) hLc (by simp) rfl;simp [sN,hI,hLl,hsl,s0,x1,hz];refine ⟨i+1,by omega,by omega,?_⟩;rw [hLn];exact WK hE (lk [(0,0),(1,1),(3,3),(5,5)])
           . have hI:¬ (i:Int) < n.gas.cs.length:=by omega
             simp [sN,hI];refine CLa d9 ?_;simp;apply RZ;simp [results5]
 | ok t=>
   rw [hb] at b3 d4;simp only [ug] at b3;simp only [Oy] at d4;have d3:=b3
   have htc:t.gas.cs.length<=12:=by
     obtain ⟨h1,h2,h3⟩:=uk hb;exact CS (CR (ZC h1 h2 h3))
   have d7:=ABP t (by omega);cases hst:cC k r s l with
   | error e=>
     rw [hst] at q5 d6;simp only [RB] at q5;simp only [Ku] at d6;have d5:=q5;have d8:=dz;have u5:=tt hst;obtain ⟨e1,e2,e3⟩:=e;simp only at u5 d5 d6;rcases u5 with u5 | ⟨u5,u6,u7⟩
     . subst u5
       simp only [if_true] at d6;refine CB func5 c5 fun E hE=>?_
       simp [p5,AA,AM];refine CLb (d1) (by simp [ar]) ?_;simp;refine CLa d2 ?_;simp [AA];refine CLa d3 ?_;simp [AA];refine CLa d4 ?_;simp [AA];refine CLa d5 ?_;simp [AA];refine CLa d6 ?_;simp [AA];refine CLb (d7) (by simp [rb]) ?_;simp;refine CLb (d8) (by simp) ?_;simp;refine Al (α:=Nat) (fun i=>⟨AO [(6, .lp 0 0),(9, .lp 1 0),(10, .lp 2 0),(14, .lp 3 0),(20,vb true),(87,vi t.gas.cs.length),(88,vi i)],lk [(0,shB s),(1,shB s),(2,shO t 4),(4,AH AP (ngL t.gas.cs i)),(3,shZ)],8⟩) (fun i=>i<=t.gas.cs.length) (fun i=>t.gas.cs.length - i) 0 ?_ ?_ ?_
       . omega
       . rw [SF]
         exact WK hE (lk [(0,2097152),(1,13631488),(2,22020096),(3,44040192),(4,17825792),(5,38797312)])
       . intro i hi
         by_cases h:i < t.gas.cs.length
         . obtain ⟨c,hc⟩:=gE h
           have hz:=@wz i (by omega);have hI:(i:Int) < t.gas.cs.length:=by omega
           have hLc:=re hc;have hLn:=S1 hc;have hLl:=hZ (cs:=t.gas.cs) (i:=i)
           generalize ngL t.gas.cs i=L at*
           have hsl:=Aw EZ L;have s0:i*7+1+1<=t.gas.cs.length*7:=by omega
           have x1:AA (AH AP L) (i*7+1) [vi (-7)]=AH AP (L.set i (ngC c)):=Cq EZ (y:=ngC c) (j:=1) (vs:=[di (-7)]) hLc (by simp) rfl;simp [rh,hI,hLl,hsl,s0,x1,hz];refine ⟨i+1,by omega,by omega,?_⟩;rw [hLn];exact WK hE (lk [(0,0),(1,1),(2,2),(3,3),(4,4),(5,5)])
         . have hI:¬ (i:Int) < t.gas.cs.length:=by omega
           simp [rh,hI];refine Al (α:=Nat) (fun i=>⟨AO [(6, .lp 0 0),(9, .lp 1 0),(14, .lp 3 0),(20,vb true),(101,vi 0),(102,vi 0)],lk [(0,shB s),(1,shB s),(3,shZ)],8⟩) (fun i=>i<=0) (fun i=>0 - i) 0 ?_ ?_ ?_
           . omega
           . exact WK hE (lk [(0,0),(1,1),(3,3)])
           . intro i hi
             simp [sN];refine CLa d9 ?_;simp;apply RZ;simp [results5]
     . subst u6 u7
       rw [if_neg u5] at d6;simp only [ev0] at d6;refine CB func5 c5 fun E hE=>?_
       simp [p5,AA,AM];refine CLb (d1) (by simp [ar]) ?_;simp;refine CLa d2 ?_;simp [AA];refine CLa d3 ?_;simp [AA];refine CLa d4 ?_;simp [AA];refine CLa d5 ?_;simp [AA];refine CLa d6 ?_;simp [AA];refine CLb (d7) (by simp [rb]) ?_;simp;refine CLb (d8) (by simp) ?_;simp;refine Al (α:=Nat) (fun i=>⟨AO [(6, .lp 0 0),(9, .lp 1 0),(10, .lp 2 0),(14, .lp 3 0),(20,vb true),(87,vi t.gas.cs.length),(88,vi i)],lk [(0,shB s),(1,shB s),(2,shO t 4),(4,AH AP (ngL t.gas.cs i)),(3,shZ)],8⟩) (fun i=>i<=t.gas.cs.length) (fun i=>t.gas.cs.length - i) 0 ?_ ?_ ?_
       . omega
       . rw [SF]
         exact WK hE (lk [(0,2097152),(1,13631488),(2,22020096),(3,44040192),(4,17825792),(5,38797312)])
       . intro i hi
         by_cases h:i < t.gas.cs.length
         . obtain ⟨c,hc⟩:=gE h
           have hz:=@wz i (by omega);have hI:(i:Int) < t.gas.cs.length:=by omega
           have hLc:=re hc;have hLn:=S1 hc;have hLl:=hZ (cs:=t.gas.cs) (i:=i)
           generalize ngL t.gas.cs i=L at*
           have hsl:=Aw EZ L;have s0:i*7+1+1<=t.gas.cs.length*7:=by omega
           have x1:AA (AH AP L) (i*7+1) [vi (-7)]=AH AP (L.set i (ngC c)):=Cq EZ (y:=ngC c) (j:=1) (vs:=[di (-7)]) hLc (by simp) rfl;simp [rh,hI,hLl,hsl,s0,x1,hz];refine ⟨i+1,by omega,by omega,?_⟩;rw [hLn];exact WK hE (lk [(0,0),(1,1),(2,2),(3,3),(4,4),(5,5)])
         . have hI:¬ (i:Int) < t.gas.cs.length:=by omega
           simp [rh,hI];refine Al (α:=Nat) (fun i=>⟨AO [(6, .lp 0 0),(9, .lp 1 0),(14, .lp 3 0),(20,vb true),(101,vi 0),(102,vi 0)],lk [(0,shB s),(1,shB s),(3,shZ)],8⟩) (fun i=>i<=0) (fun i=>0 - i) 0 ?_ ?_ ?_
           . omega
           . exact WK hE (lk [(0,0),(1,1),(3,3)])
           . intro i hi
             simp [sN];refine CLa d9 ?_;simp;apply RZ;simp [results5]
   | ok n=>
     rw [hst] at q5 d6;simp only [RB] at q5;simp only [Ku] at d6;have hnc:n.gas.cs.length<=12:=sj hst;have d8:=ABP n (by omega);by_cases hne:n.gas.cs=[]
     . have d5:=q5
       have hn0:n.gas.cs.length=0:=by rw [hne];rfl
       refine CB func5 c5 fun E hE=>?_
       simp [p5,AA,AM];refine CLb (d1) (by simp [ar]) ?_;simp;refine CLa d2 ?_;simp [AA];refine CLa d3 ?_;simp [AA];refine CLa d4 ?_;simp [AA];refine CLa d5 ?_;simp [AA];refine CLa d6 ?_;simp [AA];refine CLb (d7) (by simp [rb]) ?_;simp;refine CLb (d8) (by simp) ?_;simp;refine Al (α:=Nat) (fun i=>⟨AO [(6, .lp 0 0),(9, .lp 1 0),(10, .lp 2 0),(14, .lp 3 0),(20,vb true),(87,vi t.gas.cs.length),(88,vi i)],lk [(0,shB s),(1,shB s),(2,shO t 4),(4,AH AP (ngL t.gas.cs i)),(3,(shB n))],8⟩) (fun i=>i<=t.gas.cs.length) (fun i=>t.gas.cs.length - i) 0 ?_ ?_ ?_
       . omega
       . rw [SF]
         exact WK hE (lk [(0,2097152),(1,13631488),(2,22020096),(3,44040192),(4,17825792),(5,38797312)])
       . intro i hi
         by_cases h:i < t.gas.cs.length
         . obtain ⟨c,hc⟩:=gE h
           have hz:=@wz i (by omega);have hI:(i:Int) < t.gas.cs.length:=by omega
           have hLc:=re hc;have hLn:=S1 hc;have hLl:=hZ (cs:=t.gas.cs) (i:=i)
           generalize ngL t.gas.cs i=L at*
           have hsl:=Aw EZ L;have s0:i*7+1+1<=t.gas.cs.length*7:=by omega
           have x1:AA (AH AP L) (i*7+1) [vi (-7)]=AH AP (L.set i (ngC c)):=Cq EZ (y:=ngC c) (j:=1) (vs:=[di (-7)]) hLc (by simp) rfl;simp [rh,hI,hLl,hsl,s0,x1,hz];refine ⟨i+1,by omega,by omega,?_⟩;rw [hLn];exact WK hE (lk [(0,0),(1,1),(2,2),(3,3),(4,4),(5,5)])
         . have hI:¬ (i:Int) < t.gas.cs.length:=by omega
           simp [rh,hI];refine Al (α:=Nat) (fun i=>⟨AO [(6, .lp 0 0),(9, .lp 1 0),(14, .lp 3 0),(20,vb true),(101,vi 0),(102,vi 0)],lk [(0,shB s),(1,shB s),(3,(shB n))],8⟩) (fun i=>i<=0) (fun i=>0 - i) 0 ?_ ?_ ?_
           . omega
           . refine AI.mk hE (lk [(0,0),(1,1),(3,3)]) _ _ _ ?_ ?_ ?_ ?_ ?_<;>simp [hne]
           . intro i hi
             simp [sN];refine CLa d9 ?_;simp;apply RZ;simp [results5]
     . have d5:=yO hS k r s n l (by omega) (by omega) (by omega) (by omega) (by omega) hst hne
       refine CB func5 c5 fun E hE=>?_
       simp [p5,AA,AM];refine CLb (d1) (by simp [ar]) ?_;simp;refine CLa d2 ?_;simp [AA];refine CLa d3 ?_;simp [AA];refine CLa d4 ?_;simp [AA];refine CLa d5 ?_;simp [AA];refine CLa d6 ?_;simp [AA];refine CLb (d7) (by simp [rb]) ?_;simp;refine CLb (d8) (by simp [rb]) ?_;simp;refine Al (α:=Nat) (fun i=>⟨AO [(6, .lp 0 0),(9, .lp 1 0),(10, .lp 2 0),(14, .lp 3 0),(20,vb true),(87,vi t.gas.cs.length),(88,vi i)],lk [(0,shB s),(1,shB s),(2,shO t 4),(4,AH AP (ngL t.gas.cs i)),(3,(shO n 5)),(5,AH AP n.gas.cs)],8⟩) (fun i=>i<=t.gas.cs.length) (fun i=>t.gas.cs.length - i) 0 ?_ ?_ ?_
       . omega
       . rw [SF]
         exact WK hE (lk [(0,2097152),(1,13631488),(2,22020096),(3,44040192),(4,17825792),(5,38797312)])
       . intro i hi
         by_cases h:i < t.gas.cs.length
         . obtain ⟨c,hc⟩:=gE h
           have hz:=@wz i (by omega);have hI:(i:Int) < t.gas.cs.length:=by omega
           have hLc:=re hc;have hLn:=S1 hc;have hLl:=hZ (cs:=t.gas.cs) (i:=i)
           generalize ngL t.gas.cs i=L at*
           have hsl:=Aw EZ L;have s0:i*7+1+1<=t.gas.cs.length*7:=by omega
           have x1:AA (AH AP L) (i*7+1) [vi (-7)]=AH AP (L.set i (ngC c)):=Cq EZ (y:=ngC c) (j:=1) (vs:=[di (-7)]) hLc (by simp) rfl;simp [rh,hI,hLl,hsl,s0,x1,hz];refine ⟨i+1,by omega,by omega,?_⟩;rw [hLn];exact WK hE (lk [(0,0),(1,1),(2,2),(3,3),(4,4),(5,5)])
         . have hI:¬ (i:Int) < t.gas.cs.length:=by omega
           simp [rh,hI];refine Al (α:=Nat) (fun i=>⟨AO [(6, .lp 0 0),(9, .lp 1 0),(14, .lp 3 0),(20,vb true),(101,vi n.gas.cs.length),(102,vi i)],lk [(0,shB s),(1,shB s),(3,shO n 5),(5,AH AP (ngL n.gas.cs i))],8⟩) (fun i=>i<=n.gas.cs.length) (fun i=>n.gas.cs.length - i) 0 ?_ ?_ ?_
           . omega
           . rw [SF]
             exact WK hE (lk [(0,0),(1,1),(3,3),(5,5)])
           . intro i hi
             by_cases h:i < n.gas.cs.length
             . obtain ⟨c,hc⟩:=gE h
               have hz:=@wz i (by omega);have hI:(i:Int) < n.gas.cs.length:=by omega
               have hLc:=re hc;have hLn:=S1 hc;have hLl:=hZ (cs:=n.gas.cs) (i:=i)
               generalize ngL n.gas.cs i=L at*
               have hsl:=Aw EZ L;have s0:i*7+1+1<=n.gas.cs.length*7:=by omega
               have x1:AA (AH AP L) (i*7+1) [vi (-7)]=AH AP (L.set i (ngC c)):=Cq EZ (y:=ngC c) (j:=1) (vs:=[di (-7)]) hLc (by simp) rfl;simp [sN,hI,hLl,hsl,s0,x1,hz];refine ⟨i+1,by omega,by omega,?_⟩;rw [hLn];exact WK hE (lk [(0,0),(1,1),(3,3),(5,5)])
             . have hI:¬ (i:Int) < n.gas.cs.length:=by omega
               simp [sN,hI];refine CLa d9 ?_;simp;apply RZ;simp [results5]
end Go.Proofs.Tryz
namespace Go.Psl
open Go.Shelf Go.RowKit Go.Lib Go.Sort
variable {P:Program} {ρ:Ren} {α:Type} [Inhabited α]
theorem dJ {W W':World} (hos:W'.os=W.os) (hta:W'.tape=W.tape) (hou:W'.output=W.output) (hdr:W.drawn<=W'.drawn) (hsz:W.heap.size<=W'.heap.size) (hb:∀ b,b < W.heap.size->W'.heap[b]?= W.heap[b]?):
   ∃ q os',W'=grow (W.drewN q) os':=by
 refine ⟨W'.drawn - W.drawn,W'.heap.extract W.heap.size W'.heap.size,?_⟩;obtain ⟨h,t,d,o,u⟩:=W;obtain ⟨h',t',d',o',u'⟩:=W';simp only at hos hta hou hdr hsz hb;subst hos hta hou;simp only [grow,World.drewN];congr 1
 . apply Array.ext_getElem?
   intro i;by_cases hi:i < h.size
   . rw [Array.getElem?_append_left hi,hb i hi]
   . rw [Array.getElem?_append_right (by omega),Array.getElem?_extract]
     split
     . congr 1;omega
     . rw [Array.getElem?_eq_none (by omega)]
 . omega
theorem Mg {enc:α->List Value} {k:Nat} (h0:0 < k) (hk:∀ x,(enc x).length=k) (l:List α) (j:Nat) (hj:j < l.length*k):(l.flatMap enc)[j]?= some (flatK enc k l.toArray)[j]! :=by
 rw [get_flatK _ _ _ _ (by simpa using hj),List.flatMap_def,CI h0 _ (fun e he=>by obtain ⟨x,_,rfl⟩:=List.mem_map.1 he;exact hk x)];have h1:j / k < l.length:=by rw [Nat.div_lt_iff_lt_mul h0];exact hj
 have hm:j % k < k:=Nat.mod_lt _ h0;rw [List.getElem?_map,List.getElem?_eq_getElem h1];simp only [Option.map_some,Option.bind_some];have e1:l.toArray[j / k]! =l[j / k]:=by rw [getElem!_pos _ _ (by simpa using h1)];simp
 rw [e1,List.getElem?_eq_getElem (by rw [hk];exact hm),getElem!_pos _ _ (by rw [hk];exact hm)]
omit [Inhabited α] in
theorem N2 {enc:α->List Value} {k:Nat} (hk:∀ x,(enc x).length=k) (l:List α):(l.flatMap enc).length=l.length*k:=by
 rw [List.flatMap_def,B3 (sz:=k) _ (fun e he=>by obtain ⟨x,_,rfl⟩:=List.mem_map.1 he;exact hk x),List.length_map]
theorem Wo {G:Gh} {W:World} {vs:List Value} (h:∀ v∈vs,CU v=true):AJ (R1 G W) (vs.map cV) vs:=by
 induction vs with
 | nil=>trivial
 | cons v vs ih=>exact ⟨RD.lit v (h v (by simp)),ih fun x hx=>h x (by simp [hx])⟩
theorem P6 {g:Nat} {enc:α->List Value} {k:Nat} {cf:α->α->Int} (hflat:∀ x,∀ v∈enc x,CU v=true) (hcmp:∀ x y,Ct P g [.agg ((enc x).map cV), .agg ((enc y).map cV)] (.d (.lit (.int .i64 (cf x y)))) []) (blk off size:Nat) (w:World):Go.Proofs.CmpLays P g #[] enc k cf blk off size w:=by
 intro m os dk _ x y;refine ((hcmp x y).2 ⟨fun _=>0,fun _=>0,fun _=>true,fun _=>true,fun _=>False⟩ _ #[.agg (enc x).toArray, .agg (enc y).toArray] (fun _ h=>h.elim) ⟨⟨_,rfl,Wo (hflat x)⟩,⟨_,rfl,Wo (hflat y)⟩,trivial⟩ ⟨nofun,fun i _ h=>by simp [InH] at h,nofun⟩).mono fun e W' ⟨G',hp⟩=>?_
 refine ⟨?_,dJ hp.os hp.tape hp.output hp.drawn hp.size fun b hb=>hp.block b hb fun ⟨_,h,_⟩=>by simp [InH] at h⟩;cases e with
 | returned v=>rw [Cg hp.rv]
 | _=>exact hp.rv.elim
theorem N3 (L:Go.Proofs.SlLaysF0.n6 P ρ) (hf:fF P (ρ.f 6)) (k:Nat) (h0:0 < k) (aE:∀ w,(isAgg (ρ.t 24)).run P w= .ok true w) (zE:∀ w,(Go.sizeOf (ρ.t 24)).run P w= .ok k w) (enc:α->List Value) (hk:∀ x,(enc x).length=k) (hflat:∀ x,∀ v∈enc x,CU v=true) (cf:α->α->Int) (hO:SWO (Go.Proofs.ltOf cf)) (hT:∀ x y,(Go.Proofs.ltOf cf) x y=false->(Go.Proofs.ltOf cf) y x=false->x=y)
   (g:Nat) (eg:∀ args w,(callFunc g args).run P w= .ok (.enter g args) w) (hcmp:∀ x y,Ct P g [.agg ((enc x).map cV), .agg ((enc y).map cV)] (.d (.lit (.int .i64 (cf x y)))) []) (l:List α) (hl0:0 < l.length) (hsz:l.length < 4611686018427387904):
   Cm P (ρ.f 6) [.ls 0 0 l.length k, .d (.fn g [])] (lk [(0,(l.flatMap enc).map cV)]) [0] (.ret (.tup [])) (lk [(0,((l.mergeSort fun x y=>!(Go.Proofs.ltOf cf) y x).flatMap enc).map cV)]):=by
 refine ⟨hf,fun G W xs hGW hargs hpre=>?_⟩
 obtain ⟨v1,v2,rfl⟩:∃ v1 v2,xs= #[v1,v2]:=by
   have:=hargs.length;obtain ⟨xs⟩:=xs
   match xs,this with
   | [a,b],_=>exact ⟨a,b,rfl⟩
   | [],h=>simp at h
   | [_],h=>simp at h
   | _::_::_::_,h=>simp at h
 obtain ⟨h1,h2,_⟩:=hargs;obtain ⟨hIn,hph⟩:=hpre.st 0 (by simp);obtain ⟨hml,⟨_,h,_⟩ | ⟨hphl,o,cap,rfl,hcap,ho⟩⟩:=h1
 . omega
 obtain ⟨rfl,hbs0⟩:=ho (by omega)
 obtain ⟨cv,rfl,hcv⟩:∃ cv,v2= .func (.func g) #[] cv/\cv.size=0:=by
   cases h2 with
   | fn _ _ cv hl _=>exact ⟨cv,rfl,hl⟩
 obtain rfl:cv= #[]:=Array.eq_empty_of_size_eq_zero hcv;have hHB:=hpre.hb 0 _ rfl;obtain ⟨hnim,c,T,hb,hbs,hcl,hcr,hca⟩:=hHB.read hphl;have hblk:G.β 0 < W.heap.size:=(Array.getElem?_eq_some_iff.1 hb).1;have hfl:=N2 hk l;rw [List.length_map,hfl] at hcl hcr
 have hcell:∀ j,j < l.length*k->c[j]?= some (flatK enc k l.toArray)[j]! :=fun j hj=>by
   have h3:=Mg h0 hk l j hj;have h4:((l.flatMap enc).map cV)[j]?= some (cV (flatK enc k l.toArray)[j]!):=by rw [List.getElem?_map,h3];rfl
   obtain ⟨x,hx,hr⟩:=hcr.get h4;rw [List.getElem?_take,if_pos hj,Array.getElem?_toList] at hx;rw [hx,BO hr.r2.rv]
 have hH:HoldsK enc k W (G.β 0) 0 l.toArray:=fun j hj=>by
   have hj':j < l.length*k:=by simpa using hj
   refine ⟨?_,?_⟩
   . unfold World.cell?
     simp only [Nat.zero_add,hb,Option.isSome_none,Bool.false_eq_true,if_false];exact hcell j hj'
   . unfold World.frozen?
     simp [hb]
 have h1c:∀ x,∀ v∈enc x,v.oneCell'=true:=fun x v hv=>RD.oneCell (Im:=fun _=>True) (W:=W) (RD.lit v (hflat x v hv))
 have key:=Go.Proofs.AnyQ.slices_SortFunc_total L k aE zE enc hk h1c cf hO g #[] (G.β 0) 0 cap l.toArray W eg (P6 hflat hcmp _ _ _ _) hH hblk (by simpa using hsz) hT;have hperm:(l.mergeSort fun x y=>!(Go.Proofs.ltOf cf) y x).length=l.length:=List.length_mergeSort _
 generalize (l.mergeSort fun x y=>!(Go.Proofs.ltOf cf) y x)=l' at key hperm ⊢
 have key':Calls P (ρ.f 6) #[.slice (some ⟨G.β 0,0,none⟩) l.length cap, .func (.func g) #[] #[]] W fun e w'=>e= .returned (.tuple #[])/\∃ n os,w'=Go.Proofs.sortWorldK enc k W (G.β 0) 0 n l'.toArray os:=by simpa using key
 refine key'.mono fun e W' ⟨he,n,os,hW'⟩=>?_
 subst he
 have hlent:∀ b,Bm G (lk [(0,(l.flatMap enc).map cV)]) b->b=G.β 0:=fun b ⟨i,hi,_,hbi⟩=>by
   have:i=0:=by simp only [InH,lk] at hi;split at hi;assumption;cases hi
   rw [<-hbi,this]
 have hlent0:Bm G (lk [(0,(l.flatMap enc).map cV)]) (G.β 0):=⟨0,hIn,hph,rfl⟩
 have hheap:∀ b,b < W.heap.size->W'.heap[b]?= if b=G.β 0 then some (.cells (putCells id 0 (flatK enc k l'.toArray) c) T (0,0)) else W.heap[b]?:= fun b hlt=>by
   rw [hW']
   show ((putRow id (Sort.ahead W n) (G.β 0) 0 (flatK enc k l'.toArray)).heap++os)[b]?= _
   rw [Array.getElem?_append_left (by simpa using hlt)]
   show (W.heap.modify (G.β 0) _)[b]?= _
   rw [Array.getElem?_modify];by_cases e:b=G.β 0
   . subst e
     simp [hb,onCells]
   . rw [if_neg (fun h=>e h.symm),if_neg e]
 have hsz':W.heap.size<=W'.heap.size:=by rw [hW'];exact Go.Proofs.size_sortWorldK_c enc k W (G.β 0) 0 n l'.toArray os
 refine ⟨G,⟨by rw [hW'];rfl,by rw [hW'];rfl,by rw [hW'];rfl,by rw [hW'];exact Nat.le_add_right _ _,hsz',fun b hlt hn=>?_,fun b hb=>⟨Nat.lt_of_lt_of_le (hGW b hb) hsz', .inl hb⟩,fun _ h=>h,⟨#[],rfl,trivial⟩,fun _ h=>(by cases h),fun i cs hi=>?_,fun i j hi hj _ _ _=>?_,fun i hi _=>⟨rfl,rfl,(hpre.st i hi).2,rfl⟩⟩⟩
 . rw [hheap b hlt,if_neg (fun e:b=G.β 0=>hn (by rw [e];exact hlent0))]
 . have hi0:i=0/\cs=(l'.flatMap enc).map cV:=by
     simp only [lk] at hi;split at hi
     . rename_i e;cases hi;exact ⟨e,rfl⟩
     . cases hi
   obtain ⟨rfl,rfl⟩:=hi0;have hfl':=N2 hk l';refine ⟨.inr (.inl ⟨hphl.1,hphl.2,hnim,_,T,by rw [hheap _ hblk,if_pos rfl],by simp [putCells,hbs],by simp [putCells,hfl',hperm];exact hcl,?_,?_⟩),fun _=> .inr hlent0,fun x hx=>?_⟩
   . refine AJ.of_get ?_ fun j x y hx hy=>?_
     . simp [putCells,hfl',hperm];omega
     . have hj:j < l'.length*k:=by
         have:=(List.getElem?_eq_some_iff.1 hx).1;simpa [hfl'] using this
       rw [List.getElem?_map,Mg h0 hk l' j hj] at hx;cases hx;rw [List.getElem?_take,List.length_map,hfl',if_pos hj,Array.getElem?_toList] at hy;have hjc:j < c.size:=by rw [hperm] at hj;omega
       simp only [putCells,Array.getElem?_mapIdx,Array.getElem?_eq_getElem hjc,Option.map_some,Nat.zero_le,true_and,Nat.zero_add,size_flatK,List.size_toArray,hj,if_true,Option.some.injEq,Nat.sub_zero,id] at hy;subst hy;have hm:=Mg h0 hk l' j hj;have hmem:=List.mem_of_getElem? hm;obtain ⟨a,_,ha⟩:=List.mem_flatMap.1 hmem;exact RD.lit _ (hflat a _ ha)
   . simp only [List.all_map,List.all_eq_true]
     intro v _;rfl
   . obtain ⟨v,_,rfl⟩:=List.mem_map.1 hx
     trivial
 . have e1:i=0:=by simp only [InH,lk] at hi;split at hi;assumption;cases hi
   have e2:j=0:=by simp only [InH,lk] at hj;split at hj;assumption;cases hj
   rw [e1,e2]
end Go.Psl
namespace Go.Proofs
def Tryz.sortL_ren:Go.Shelf.Ren:=⟨fun | 6=>221 | 15=>270 | 14=>269 | 28=>300 | 29=>301 | 20=>292 | 21=>293 | 22=>294 | 23=>295 | 24=>296 | 25=>297 | 26=>298 | 27=>299 | 46=>312 | 47=>313 | 48=>314 | 49=>315 | 50=>316 | 57=>318 | n=>n,fun | 22=>55 | 24=>122 | 25=>275 | 3=>3 | 39=>222 | 0=>0 | 53=>339 | 55=>341 | 4=>4 | 46=>333 | 45=>332 | 50=>266 | 5=>5 | 9=>9 | 66=>348 | 70=>352 | 76=>356 | 77=>50 | n=>n,fun | n=>n⟩
theorem Tryz.sortL:Go.Proofs.SlLaysF0.n6 Tryz.prog Tryz.sortL_ren:={
 mixed:=by kernel_rfl,
 f6:=⟨Tryz.f221.name,by decide,Tryz.func221.trans (congrArg some (by kernel_rfl))⟩,
 f14:=⟨Tryz.f269.name,by decide,Tryz.func269.trans (congrArg some (by kernel_rfl))⟩,
 f15:=Tryz.func270.trans (congrArg some (by kernel_rfl)),
 f20:=⟨Tryz.f292.name,by decide,Tryz.func292.trans (congrArg some (by kernel_rfl))⟩,
 f21:=⟨Tryz.f293.name,by decide,Tryz.func293.trans (congrArg some (by kernel_rfl))⟩,
 f22:=⟨Tryz.f294.name,by decide,Tryz.func294.trans (congrArg some (by kernel_rfl))⟩,
 f23:=⟨Tryz.f295.name,by decide,Tryz.func295.trans (congrArg some (by kernel_rfl))⟩,
 f24:=⟨Tryz.f296.name,by decide,Tryz.func296.trans (congrArg some (by kernel_rfl))⟩,
 f25:=⟨Tryz.f297.name,by decide,Tryz.func297.trans (congrArg some (by kernel_rfl))⟩,
 f26:=⟨Tryz.f298.name,by decide,Tryz.func298.trans (congrArg some (by kernel_rfl))⟩,
 f27:=⟨Tryz.f299.name,by decide,Tryz.func299.trans (congrArg some (by kernel_rfl))⟩,
 f28:=Tryz.func300.trans (congrArg some (by kernel_rfl)),
 f29:=Tryz.func301.trans (congrArg some (by kernel_rfl)),
 f46:=⟨Tryz.f312.name,by decide,Tryz.func312.trans (congrArg some (by kernel_rfl))⟩,
 f47:=Tryz.func313.trans (congrArg some (by kernel_rfl)),
 f48:=Tryz.func314.trans (congrArg some (by kernel_rfl)),
 f49:=⟨Tryz.f315.name,by decide,Tryz.func315.trans (congrArg some (by kernel_rfl))⟩,
 f50:=⟨Tryz.f316.name,by decide,Tryz.func316.trans (congrArg some (by kernel_rfl))⟩,
 f57:=⟨Tryz.f318.name,by decide,Tryz.func318.trans (congrArg some (by kernel_rfl))⟩,
 t0:=Tryz.underlying0,
 a0:=Tryz.isAgg0,
 z0:=Tryz.sizeOf0,
 v0:=Tryz.zeroValue0,
 t3:=Tryz.underlying3,
 a3:=Tryz.isAgg3,
 z3:=Tryz.sizeOf3,
 v3:=Tryz.zeroValue3,
 t4:=Tryz.underlying4,
 a4:=Tryz.isAgg4,
 z4:=Tryz.sizeOf4,
 v4:=Tryz.zeroValue4,
 t5:=Tryz.underlying5,
 a5:=Tryz.isAgg5,
 z5:=Tryz.sizeOf5,
 v5:=Tryz.zeroValue5,
 t9:=Tryz.underlying9,
 a9:=Tryz.isAgg9,
 z9:=Tryz.sizeOf9,
 v9:=Tryz.zeroValue9,
 t22:=Tryz.underlying55,
 a22:=Tryz.isAgg55,
 z22:=Tryz.sizeOf55,
 v22:=Tryz.zeroValue55,
 t25:=Tryz.underlying275,
 a25:=Tryz.isAgg275,
 z25:=Tryz.sizeOf275,
 v25:=Tryz.zeroValue275,
 t39:=Tryz.underlying222,
 a39:=Tryz.isAgg222,
 z39:=Tryz.sizeOf222,
 v39:=Tryz.zeroValue222,
 t45:=Tryz.underlying332,
 a45:=Tryz.isAgg332,
 z45:=Tryz.sizeOf332,
 v45:=Tryz.zeroValue332,
 t46:=Tryz.underlying333,
 a46:=Tryz.isAgg333,
 z46:=Tryz.sizeOf333,
 v46:=Tryz.zeroValue333,
 t50:=Tryz.underlying266,
 a50:=Tryz.isAgg266,
 z50:=Tryz.sizeOf266,
 v50:=Tryz.zeroValue266,
 t53:=Tryz.underlying339,
 a53:=Tryz.isAgg339,
 z53:=Tryz.sizeOf339,
 v53:=Tryz.zeroValue339,
 t55:=Tryz.underlying341,
 a55:=Tryz.isAgg341,
 z55:=Tryz.sizeOf341,
 v55:=Tryz.zeroValue341,
 t66:=Tryz.underlying348,
 a66:=Tryz.isAgg348,
 z66:=Tryz.sizeOf348,
 v66:=Tryz.zeroValue348,
 t70:=Tryz.underlying352,
 a70:=Tryz.isAgg352,
 z70:=Tryz.sizeOf352,
 v70:=Tryz.zeroValue352,
 t76:=Tryz.underlying356,
 a76:=Tryz.isAgg356,
 z76:=Tryz.sizeOf356,
 v76:=Tryz.zeroValue356,
 t77:=Tryz.underlying50,
 a77:=Tryz.isAgg50,
 z77:=Tryz.sizeOf50,
 v77:=Tryz.zeroValue50}
end Go.Proofs
namespace Go.Proofs.Tryz
open Go.Psl
def Yn (p:Int × Int):List Value:=[.int .i64 p.1, .int .i64 p.2]
theorem L8 (l:List (Int × Int)):(l.flatMap Yn).map cV=BC l:=by
 induction l with
 | nil=>rfl
 | cons a l ih=>
   rw [List.flatMap_cons,List.map_append,ih];rfl
theorem Kq (x y:Int × Int):Go.Proofs.ltOf Dw x y=true↔Go.Geo.lt x y:=by
 unfold Go.Proofs.ltOf;rw [decide_eq_true_eq,PX]
theorem F2 (x y:Int × Int):Go.Proofs.ltOf Dw x y=false↔¬ Go.Geo.lt x y:=by
 rw [<-Kq];simp
theorem VT:Go.Sort.SWO (Go.Proofs.ltOf Dw) where
 irrefl x:=by rw [F2];exact Go.Geo.lt_irr x
 trans x y z h1 h2:=by rw [Kq] at*;exact Go.Geo.lt_trans h1 h2
 ntrans x y z h1 h2:=by rw [F2] at*;unfold Go.Geo.lt at*;omega
theorem kX:SortOk:=fun l h1 h2=>by
 have hcmp:∀ x y:Int × Int,Ct prog 222 [.agg ((Yn x).map cV), .agg ((Yn y).map cV)] (.d (.lit (.int .i64 (Dw x y)))) []:=fun x y=>pR x y
 have h:=N3 Tryz.sortL ⟨_,func221,by kernel_rfl,by decide⟩ 2 (by omega) Tryz.isAgg122 Tryz.sizeOf122 Yn (fun _=>rfl) (fun x v hv=>by simp [Yn] at hv;rcases hv with rfl | rfl<;>rfl) Dw VT
   (fun x y a b=>by
     rw [F2] at a b;rcases Go.Geo.lt_tri x y with h | h | h
     . exact absurd h a
     . exact h
     . exact absurd h b) 222 (Go.Proofs.enters_of func222 (by kernel_rfl) rfl) hcmp l h1 (by omega)
 rw [L8,L8] at h;exact h
end Go.Proofs.Tryz
