/- Own lemmas, used by the last text. Conditions: those that each theorem states. -/
import Derived.Test.YtnjclpglagcagaaGreatEcag
import Derived.Test.YtnjclpglagcagaaGreatEcah
import Derived.Test.YtnjclpglagcagaaGreatEcai
import Derived.Test.YtnjclpglagcagaaGreatEcaj
import Derived.Test.YtnjclpglagcagaaGreatEcak
set_option maxRecDepth 200000
set_option maxHeartbeats 8000000
namespace Go.Proofs.Tryz
open Go.Psl
open Go.Air
def g7 (q:Plt):Except Int Plt:=if Ar q then .ok q else .error 9
def vlP (p:Plt) (a:Act) (c:Cel):Plt:={p with vh:=p.vh+BQ c a.n,va:=p.va+(a.n-BQ c a.n),cs:=p.cs.set a.c.toNat (I0 c a.n)}
def mvP (p:Plt) (a:Act) (c e:Cel):Plt:={p with cs:=(p.cs.set a.c.toNat (I0 c a.n)).set a.t.toNat (gg e (BQ c a.n) (a.n-BQ c a.n))}
def vlS (p:Plt) (a:Act):Except Int Plt:=if inA p.cs.length a then match p.cs[a.c.toNat]? with | none=> .error 2 | some c=>if a.n<=c.he+c.ai then g7 (vlP p a c) else .error 6 else .error 2
def mvS (p:Plt) (a:Act):Except Int Plt:=if inA p.cs.length a then (if inT p.cs.length a then match p.cs[a.c.toNat]?,p.cs[a.t.toNat]? with | some c,some e=>if a.n<=c.he+c.ai then g7 (mvP p a c e) else .error 6 | _,_=> .error 2 else .error 2) else .error 2
def tkQ (p:Plt):Plt:={tkP p p.cs p.cs.length with cs:=p.cs.map tkC}
def doS (p:Plt) (a:Act):Except Int Plt:=if Ar p then (if a.k=3 then vlS p a else if a.k=4 then mvS p a else g7 (tkQ p)) else .error 32
def doV:Except Int Plt->V
 | .ok q=> .tup [Cy q (.d (AX q.cs)),vi 0]
 | .error e=> .tup [.agg plZ,vi e]
theorem Ta {q:Plt} {n:Nat} {args:List V} (hn:q.cs.length=n) (h:Ct prog 56 args (.tup [Cy q (.ls 0 0 n 7),vi 0]) [(0,AH AP q.cs)]):Ct prog 56 args (doV (.ok q)) []:=by
 refine Cm.freeze h ?_;subst hn
 have hb:Df (lk [(0,AH AP q.cs)]) (.ls 0 0 q.cs.length 7) (.d (AX q.cs)):=by
   have:=B0 (H:=lk [(0,AH AP q.cs)]) (id:=0) Nr (l:=q.cs) (by simp);exact this
 have z:∀ x:Int,FzC (lk [(0,AH AP q.cs)]) (vi x) (vi x):=fun x=>⟨_,rfl, .inl rfl⟩
 exact ⟨⟨⟨_,rfl,hb⟩,z _,z _,z _,z _,z _,z _,z _,z _,z _,trivial⟩, .inl rfl,trivial⟩
theorem CS {p:Plt} (h:Ar p=true):p.cs.length<=12:=by
 unfold Ar IR at h;simp only [Bool.and_eq_true,decide_eq_true_eq] at h;exact h.1.1.1.1
theorem Dx {p:Plt} (h:Ar p=true):∀ c∈p.cs,B5 c:=fun c hc=>by
 unfold Ar at h;simp only [Bool.and_eq_true] at h;exact Dm.1 (List.all_eq_true.1 h.1.2 c hc)
theorem K7 {p:Plt} (h:Ar p=true):(Li p).all bkB=true:=by
 unfold Ar IR at h;simp only [Bool.and_eq_true] at h;exact h.1.1.2
theorem Zm {cs:List Cel} {a:Act} (h:inA cs.length a=true):∃ c,cs[a.c.toNat]?= some c:=by
 have:=EQ.1 h;exact ⟨_,List.getElem?_eq_getElem (by omega)⟩
theorem lE {cs:List Cel} {a:Act} (h:inT cs.length a=true):∃ c,cs[a.t.toNat]?= some c:=by
 unfold inT rgB at h;simp at h;exact ⟨_,List.getElem?_eq_getElem (by omega)⟩
theorem NP {p q:Plt} {a:Act} (h1:Ar q=true->Ct prog 56 [Cy p (.d (AX p.cs)),BZ a] (doV (.ok q)) []) (h2:Ar q=false->Ct prog 56 [Cy p (.d (AX p.cs)),BZ a] (.tup [.agg plZ,vi 9]) []):Ct prog 56 [Cy p (.d (AX p.cs)),BZ a] (doV (g7 q)) []:=by
 unfold g7;cases h:Ar q
 . simpa [doV] using h2 h
 . simpa using h1 h
theorem do_3 (p:Plt) (a:Act) (h:Ar p=true) (hk:a.k=3):Ct prog 56 [Cy p (.d (AX p.cs)),BZ a] (doV (doS p a)) []:=by
 have hl:=CS h;have hcs:=Dx h;obtain ⟨_,_,v1,v2,_⟩:=K9 (K7 h);have e:doS p a=vlS p a:=by simp [doS,h,hk]
 rw [e];by_cases he:p.cs=[]
 . have:inA p.cs.length a=false:=by
     cases hx:inA p.cs.length a
     . rfl
     . have:=EQ.1 hx;rw [he] at this;simp at this;omega
   have e2:vlS p a= .error 2:=by simp [vlS,this]
   rw [e2];exact kz p a h hk he
 . cases hx:inA p.cs.length a with
   | false=>
     have e2:vlS p a= .error 2:=by simp [vlS,hx]
     rw [e2];exact Py p a 2 (by omega) h hk he (Vw p p.cs a (by omega) he hx)
   | true=>
     obtain ⟨c,hc⟩:=Zm hx;have hb:=hcs c (List.mem_of_getElem? hc);by_cases hn:a.n<=c.he+c.ai
     . have e2:vlS p a=g7 (vlP p a c):=by simp [vlS,hx,hc,hn]
       rw [e2];have d:=aV p p.cs a c (by omega) hx hc hb hn v1 v2;have hq:(vlP p a c).cs.length=p.cs.length:=by simp [vlP]
       exact NP (fun ho=>Ta hq (ABg p (vlP p a c) a (by omega) h hk he hq ho d)) fun ho=>WY p (vlP p a c) a (by omega) h hk he hq ho d
     . have e2:vlS p a= .error 6:=by simp [vlS,hx,hc,hn]
       rw [e2];exact Py p a 6 (by omega) h hk he (Vx p p.cs a c (by omega) hx hc hb (by omega))
theorem do_4 (p:Plt) (a:Act) (h:Ar p=true) (hk:a.k=4):Ct prog 56 [Cy p (.d (AX p.cs)),BZ a] (doV (doS p a)) []:=by
 have hl:=CS h;have hcs:=Dx h;have e:doS p a=mvS p a:=by simp [doS,h,hk]
 rw [e];by_cases he:p.cs=[]
 . have:inA p.cs.length a=false:=by
     cases hx:inA p.cs.length a
     . rfl
     . have:=EQ.1 hx;rw [he] at this;simp at this;omega
   have e2:mvS p a= .error 2:=by simp [mvS,this]
   rw [e2];exact lA p a h hk he
 . cases hx:inA p.cs.length a with
   | false=>
     have e2:mvS p a= .error 2:=by simp [mvS,hx]
     rw [e2];exact LW p a 2 (by omega) h hk he (an p p.cs a (by omega) he hx)
   | true=>
     cases ht:inT p.cs.length a with
     | false=>
       have e2:mvS p a= .error 2:=by simp [mvS,hx,ht]
       rw [e2];exact LW p a 2 (by omega) h hk he (ap p p.cs a (by omega) hx ht)
     | true=>
       obtain ⟨c,hc⟩:=Zm hx;obtain ⟨g,hg⟩:=lE ht;have hb:=hcs c (List.mem_of_getElem? hc);have hbg:=hcs g (List.mem_of_getElem? hg);by_cases hn:a.n<=c.he+c.ai
       . have e2:mvS p a=g7 (mvP p a c g):=by simp [mvS,hx,ht,hc,hg,hn]
         rw [e2];have d:=gi p p.cs a c g (by omega) hx ht hc hg hb hbg hn;have hq:(mvP p a c g).cs.length=p.cs.length:=by simp [mvP]
         exact NP (fun ho=>Ta hq (ADp p (mvP p a c g) a (by omega) h hk he hq ho d)) fun ho=>WZ p (mvP p a c g) a (by omega) h hk he hq ho d
       . have e2:mvS p a= .error 6:=by simp [mvS,hx,ht,hc,hg,hn]
         rw [e2];exact LW p a 6 (by omega) h hk he (aq p p.cs a c (by omega) hx ht hc hb (by omega))
theorem do_7 (p:Plt) (a:Act) (h:Ar p=true) (hk:a.k=7) (h1:a.n=1):Ct prog 56 [Cy p (.d (AX p.cs)),BZ a] (doV (doS p a)) []:=by
 have hl:=CS h;have hcs:=Dx h;obtain ⟨_,_,_,_,v1,v2,_⟩:=K9 (K7 h);have e:doS p a=g7 (tkQ p):=by simp [doS,h,hk]
 rw [e];by_cases he:p.cs=[]
 . have e3:tkQ p=p:=by
     unfold tkQ tkP tkH tkA;cases p;simp at he;simp [he]
   rw [e3];refine NP (fun _=>Ta (by rw [he]) ?_) fun ho=>by rw [h] at ho;cases ho
   have:=lC p a h hk h1 he;rw [show AH AP p.cs=[] by rw [he];rfl];exact this
 . have d:=iQ p p.cs a hl he h1 hcs v1 v2
   have hq:(tkQ p).cs.length=p.cs.length:=by simp [tkQ]
   exact NP (fun ho=>Ta hq (cU p (tkQ p) a (by omega) h hk he hq ho d)) fun ho=>Wa p (tkQ p) a (by omega) h hk he hq ho d
theorem fv (l:List Cel) (hl:l.length<=1000000):Ct prog 55 [.d (AX l)] (.d (AX l)) []:=by
 refine Cm.freeze (Ce l hl) ?_;exact B0 (H:=lk [(0,AH AP l)]) (id:=0) Nr (l:=l) (by simp)
def B7 (p:Plt):List Act->Nat->Plt × Nat × Int
 | [],_=>(p,0,0)
 | a::r,i=>match doS p a with
   | .ok q=>B7 q r (i+1)
   | .error e=>(p,i,e)
theorem fw {p q:Plt} (h:g7 p= .ok q):Ar q=true:=by
 unfold g7 at h;split at h
 . cases h;assumption
 . cases h
theorem Zn {p q:Plt} {a:Act} (h:doS p a= .ok q):Ar q=true:=by
 unfold doS vlS mvS at h
 repeat' split at h
 all_goals first | exact fw h | cases h
theorem K8 {p:Plt} {e:Int} (h:g7 p= .error e):e=9:=by
 unfold g7 at h;split at h
 . cases h
 . cases h;rfl
theorem Tb {p:Plt} {a:Act} {e:Int} (h:doS p a= .error e):¬ e=0:=by
 unfold doS vlS mvS at h
 repeat' split at h
 all_goals first | (have:=K8 h;omega) | (cases h;omega)
theorem pq (p:Plt) (a:Act) (h:Ar p=true) (hk:a.k=3\/a.k=4):Ct prog 56 [Cy p (.d (AX p.cs)),BZ a] (doV (doS p a)) []:=by
 rcases hk with hk | hk
 . exact do_3 p a h hk
 . exact do_4 p a h hk
theorem fn16 (p:Plt) (l:List Act) (h:Ar p=true) (hl:l.length<=200) (hk:∀ a∈l,a.k=3\/a.k=4):Ct prog 16 [Cy p (.d (AX p.cs)), .d (JZ l)] (.tup [Cy (B7 p l 0).1 (.d (AX (B7 p l 0).1.cs)),vi (B7 p l 0).2.1,vi (B7 p l 0).2.2]) []:=by
 have hp:=CS h;have d1:=ALn p (by omega);have d2:=fv p.cs (by omega);have g:¬ (l.length:Int)>200:=by omega
 have g2:¬ (200:Int)<l.length:=by omega
 rw [h] at d1;obtain ⟨R,hR⟩:∃ R,B7 p l 0=R:=⟨_,rfl⟩
 rw [hR];refine CB func16 c16 fun E hE=>?_
 simp [p16];refine CLa d1 ?_;simp [AA,g];refine CLa d2 ?_;simp [AA];refine Al (α:=Nat × Plt) (fun x=>⟨AO [(4, .lp 0 0),(27, .d (JZ l)),(28,vi l.length),(29,vi x.1)],lk [(0,plB x.2 (.d (AX x.2.cs)))],1⟩) (fun x=>x.1<=l.length/\Ar x.2=true/\B7 x.2 (l.drop x.1) x.1=R) (fun x=>l.length-x.1) (0,p) ?_ ?_ ?_
 . exact ⟨by simp,h,by simpa using hR⟩
 . exact WK hE (lk [(0,1048576)])
 . rintro ⟨i,q⟩ ⟨hi,hq,hr⟩
   simp only at hi hq hr;have w:IntKind.wrap .i64 ((i:Int)+1)=((i+1:Nat):Int):=by rw [AD (by omega) (by omega)];rfl
   by_cases hi2:i<l.length
   . obtain ⟨a,ha⟩:=gE hi2
     have d3:=pq q a hq (hk a (List.mem_of_getElem? ha))
     have e1:l.drop i=a::l.drop (i+1):=by
       rw [List.drop_eq_getElem_cons hi2];rw [List.getElem?_eq_getElem hi2] at ha;cases ha;rfl
     have hiI:(i:Int)<l.length:=by omega
     rw [e1,B7] at hr;cases hd:doS q a with
     | ok q2=>
       rw [hd] at d3 hr;simp only [doV] at d3;have hq2:=Zn hd;simp [AES,AA,hiI,ha];refine CLa d3 ?_;simp [AA,w];refine ⟨i+1,q2,⟨by omega,hq2,hr⟩,by omega,?_⟩;exact WK hE (lk [(0,0)])
     | error e=>
       rw [hd] at d3 hr;simp only [doV] at d3;have he:=Tb hd;simp [AES,AA,hiI,ha];refine CLa d3 ?_;simp [AA,he];apply RZ;subst hr;simp [results16]
   . have e1:l.drop i=[]:=List.drop_eq_nil_of_le (by omega)
     rw [e1,B7] at hr;subst hr;have hiI:¬ (i:Int)<l.length:=by omega
     simp [AES,AA,hiI];apply RZ;simp [results16]
theorem CR {s:Shp} (h:A6 s=true):Ar s.gas=true:=by
 unfold A6 at h;simp only [Bool.and_eq_true] at h;exact h.2
theorem MF {s:Shp} (h:A6 s=true):((0<=s.dry/\s.dry<=1000000000)/\0<=s.bal/\s.bal<=1000000000)/\0<=s.drp/\s.drp<=1000000000000:=by
 unfold A6 at h;simp only [Bool.and_eq_true] at h;have h1:=h.1.1.2;have h2:=h.1.2;simp [rgB] at h1 h2;omega
theorem Kz {l:Leg} (h:BE l=true):l.acts.length<=12/\(∀ a∈l.acts,a.k=3\/a.k=4)/\0<=l.dr/\l.dr<=1000000000:=by
 unfold BE at h;simp only [Bool.and_eq_true,decide_eq_true_eq] at h;have h1:=h.1.1.2;simp [rgB] at h1;refine ⟨h.1.2,fun a ha=>?_,by omega⟩;have:=List.all_eq_true.1 h.2 a ha;simpa [Cb] using this
def Ep (s:Shp) (l:Leg):Except Int Shp:=
 if (B7 s.gas l.acts 0).2.2=0 then
   (if s.bal<l.dr then .error 2 else if 1000000000000<s.drp+l.dr then .error 9
     else .ok {s with gas:=(B7 s.gas l.acts 0).1,bal:=s.bal-l.dr,drp:=s.drp+l.dr})
 else .error (B7 s.gas l.acts 0).2.2
abbrev shZ:List V:=[vi 0,vi 0,vi 0,vi 0,vi 0,vi 0,vi 0,vi 0,vi 0,vi 0,vi 0,vi 0,vi 0,vi 0,vi 0, .d (.lit (.slice none 0 0)),vi 0,vi 0,vi 0,vi 0,vi 0,vi 0,vi 0,vi 0,vi 0]
def Oy:Except Int Shp->V
 | .ok s=> .tup [Cl s (.d (AX s.gas.cs)),vi 0]
 | .error e=> .tup [.agg shZ,vi e]
theorem Pw (s:Shp) (l:Leg) (hs:A6 s=true) (hl:BE l=true):Ct prog 91 [Cl s (.d (AX s.gas.cs)),AKx l] (Oy (Ep s l)) []:=by
 have q1:=Kz hl;have q2:=MF hs;have d1:=fn16 s.gas l.acts (CR hs) (by omega) q1.2.1;have w1:IntKind.wrap .i64 (s.drp+l.dr)=s.drp+l.dr:=AD (by omega) (by omega);have w2:IntKind.wrap .i64 (s.bal-l.dr)=s.bal-l.dr:=AD (by omega) (by omega);unfold Ep
 generalize B7 s.gas l.acts 0=R at*
 obtain ⟨q,i,e⟩:=R;simp only at d1;simp only;by_cases he:e=0
 . rw [if_pos he]
   by_cases h2:s.bal<l.dr
   . rw [if_pos h2]
     simp only [Oy];refine CB func91 c91 fun E hE=>?_
     simp [p91];refine CLa d1 ?_;simp [AA,he,h2];apply RZ;simp [results91]
   . rw [if_neg h2]
     by_cases h3:1000000000000<s.drp+l.dr
     . rw [if_pos h3]
       simp only [Oy];refine CB func91 c91 fun E hE=>?_
       simp [p91];refine CLa d1 ?_;simp [AA,he,h2,w1,h3];apply RZ;simp [results91]
     . rw [if_neg h3]
       simp only [Oy];refine CB func91 c91 fun E hE=>?_
       simp [p91];refine CLa d1 ?_;simp [AA,he,h2,w1,h3];refine AL [(12,0),(14,0)] (by kernel_rfl) ?_;simp [AA,w1,w2,inC,Nat.testBit];apply RZ;simp [results91]
 . rw [if_neg he]
   simp only [Oy];refine CB func91 c91 fun E hE=>?_
   simp [p91];refine CLa d1 ?_;simp [AA,he];apply RZ;simp [results91]
def mhS (s:Shp) (l:Leg):Int × Int:=(min s.hl (s.hl+l.ul),max s.hh (s.hh+l.uh))
def DY (r:Rig) (l:Leg):Int × Int:=(Ja (l.bl,l.bh) (r.gl,r.gh) (100,100)).1
def Cj (k:Sky) (r:Rig) (s:Shp) (l:Leg):Shp:=
 {s with
   xl:=s.xl+6*(l.axl+(Jr k.w (mhS s l)).1),xh:=s.xh+6*(l.axh+(Jr k.w (mhS s l)).2)
   yl:=s.yl+6*(l.ayl+(Js k.w (mhS s l)).1),yh:=s.yh+6*(l.ayh+(Js k.w (mhS s l)).2)
   hl:=s.hl+l.ul,hh:=s.hh+l.uh
   fl:=s.fl-l.bh,fh:=s.fh-l.bl
   wl:=min (s.wl+(DY r l).1) r.tank,wh:=min (s.wh+(DY r l).2) r.tank
   bl:=s.bl+l.bl,bh:=s.bh+l.bh
   gas:=tkQ s.gas}
def KG (s n:Shp):Shp:={n with fh:=s.fh,wl:=min s.wl n.wl,wh:=max s.wh n.wh}
def sqN (a b:Int):Int:=max (max 0 a) (-b)*max (max 0 a) (-b)
def sqF (a b:Int):Int:=max (-a) b*max (-a) b
def Nz (xl xh yl yh:Int):(Int × Int) × Int:=LB (sqN xl xh+sqN yl yh,sqF xl xh+sqF yl yh)
def N1 (l:Leg):Int × Int:=(Nz l.axl l.axh l.ayl l.ayh).1
def UC (n:Shp):Bool:=spB (-10000000) 10000000 n.xl n.xh&&spB (-10000000) 10000000 n.yl n.yh
def ER (k:Sky) (r:Rig) (s:Shp) (l:Leg):Int × Int:=
 if (mhS s l).1<r.lo then (1,0) else if r.hi<(mhS s l).2 then (2,0)
 else if 0<=ixF (EK (atA k.s (mhS s l).1 (mhS s l).2).1) (tkQ s.gas).cs then (3,ixF (EK (atA k.s (mhS s l).1 (mhS s l).2).1) (tkQ s.gas).cs)
 else if s.fl-l.bh<r.rsv then (4,0)
 else if Il r.reg (N1 l) (hvS (KG s (Cj k r s l)) (atA k.s (mhS s l).1 (mhS s l).2).1)=false then (5,0)
 else if UC (Cj k r s l)=false then (6,0) else (0,0)
def HK (k:Sky) (r:Rig) (s:Shp) (l:Leg):Except (Int × Int × Int) Shp:=
 if (ER k r s l).1=0 then (if 1000000000000<s.bh+l.bh then .error (9,0,0) else .ok (Cj k r s l)) else .error (54,ER k r s l)
theorem jY (cs:List Cel):heS (cs.map tkC)+(cs.map fun c=>BQ c (tkN c)).sum=heS cs:=by
 unfold heS;induction cs with
 | nil=>simp
 | cons c r ih=>
   have e:(tkC c).he=c.he-BQ c (tkN c):=rfl;simp only [List.map_cons,List.sum_cons];rw [e];omega
theorem jZ (cs:List Cel):aiS (cs.map tkC)+(cs.map fun c=>tkN c-BQ c (tkN c)).sum=aiS cs:=by
 unfold aiS;induction cs with
 | nil=>simp
 | cons c r ih=>
   have e:(tkC c).ai=c.ai-(tkN c-BQ c (tkN c)):=rfl;simp only [List.map_cons,List.sum_cons];rw [e];omega
theorem ja {c:Cel} (h:B5 c):B5 (tkC c):=by
 have h1:=SY h;have h2:=h.he;have h3:=h.ai;have h4:=cY h;unfold tkC I0;refine ⟨h.rm,by simp only;omega,by simp only;omega,h.w,h.lk,by simp only;omega⟩
theorem jb {l:List Cel} (h:∀ c∈l,B5 c):0<=heS l/\0<=aiS l:=by
 unfold heS aiS;induction l with
 | nil=>simp
 | cons c r ih=>
   have h1:=(h c (by simp)).he;have h2:=(h c (by simp)).ai;have:=ih fun x hx=>h x (by simp [hx])
   simp only [List.map_cons,List.sum_cons];omega
theorem Wl {p:Plt} (h:Ar p=true):p.bt+p.vh+p.lh+p.ph+heS p.cs=p.ih/\p.va+p.la+p.pa+aiS p.cs=p.ia:=by
 unfold Ar at h;simp only [Bool.and_eq_true,decide_eq_true_eq] at h;exact h.2
theorem Wm {p:Plt} (h:Ar p=true):0<=p.bt/\p.bt<=10000000:=by
 unfold Ar IR at h;simp only [Bool.and_eq_true] at h;have:=h.1.1.1.2;simp [rgB] at this;omega
theorem P4 {p:Plt} (h1:p.cs.length<=12) (h2:0<=p.bt/\p.bt<=10000000) (h3:∀ c∈p.cs,B5 c) (h4:p.bt+p.vh+p.lh+p.ph+heS p.cs=p.ih/\p.va+p.la+p.pa+aiS p.cs=p.ia) (hp:(0<=p.vh/\0<=p.va)/\(0<=p.lh/\0<=p.la)/\0<=p.ph/\0<=p.pa) (h5:p.ih<=1000000000000/\p.ia<=1000000000000):Ar p=true:=by
 have h6:=jb h3;unfold Ar IR;simp only [Bool.and_eq_true,decide_eq_true_eq];refine ⟨⟨⟨⟨h1,by simp [rgB];omega⟩,?_⟩,List.all_eq_true.2 fun c hc=>Dm.2 (h3 c hc)⟩,h4⟩;unfold Li bkB rgB;simp;omega
theorem Md {p:Plt} (h:Ar p=true):Ar (tkQ p)=true:=by
 have hl:=CS h;have hc:=Dx h;have he:=Wl h;have hb:=Wm h;obtain ⟨b1,b2,b3,b4,b5,b6,b7,b8⟩:=K9 (K7 h);have k1:=jY p.cs;have k2:=jZ p.cs;have k3:=SZ hc p.cs.length (Nat.le_refl _);have e1:tkH p.cs p.cs.length=(p.cs.map fun c=>BQ c (tkN c)).sum:=by unfold tkH;rw [List.take_length]
 have e2:tkA p.cs p.cs.length=(p.cs.map fun c=>tkN c-BQ c (tkN c)).sum:=by unfold tkA;rw [List.take_length]
 refine P4 (by simpa [tkQ] using hl) hb (fun c hcc=>?_) ?_ ?_ ?_
 . simp only [tkQ,List.mem_map] at hcc
   obtain ⟨x,hx,rfl⟩:=hcc;exact ja (hc x hx)
 . simp only [tkQ,tkP];omega
 . simp only [tkQ,tkP];omega
 . simp only [tkQ,tkP];omega
theorem GJ {x y:Int} (hx:0<=x/\x<=1000000) (hy:0<=y/\y<=120):Eg x y 100=(x*y/100,(x*y+99)/100):=by
 have h1:0<=x*y:=Int.mul_nonneg hx.1 hy.1;have h2:x*y<=1000000*120:=Int.mul_le_mul hx.2 hy.2 hy.1 (by omega);unfold Eg;rw [show max x (-x)=x by omega,show max y (-y)=y by omega,decide_eq_false (by omega:¬ x<0),decide_eq_false (by omega:¬ y<0)];unfold Da upS
 generalize x*y=z at*
 rw [if_pos (show z/100<2199023255552 by omega)];simp only [bne_self_eq_false,Bool.false_eq_true,if_false];refine Prod.ext rfl ?_
 show (if 0<z%100 then z/100+1 else z/100)=(z+99)/100
 split<;>omega
theorem Me {r:Rig} {l:Leg} (hl:0<=l.bl/\l.bl<=l.bh/\l.bh<=1000000) (hr:0<=r.gl/\r.gl<=r.gh/\r.gh<=120):Ja (l.bl,l.bh) (r.gl,r.gh) (100,100)=((l.bl*r.gl/100,(l.bh*r.gh+99)/100),0):=by
 have o1:okS (l.bl,l.bh)=true:=CT.2 (by simp only;omega);have o2:okS (r.gl,r.gh)=true:=CT.2 (by simp only;omega);have o3:okS (100,100)=true:=by decide
 have p0:0<=l.bl*r.gl:=Int.mul_nonneg (by omega) (by omega);have p1:l.bl*r.gl<=l.bh*r.gl:=Int.mul_le_mul_of_nonneg_right (by omega) (by omega);have p2:l.bl*r.gl<=l.bl*r.gh:=Int.mul_le_mul_of_nonneg_left (by omega) (by omega);have p3:l.bh*r.gl<=l.bh*r.gh:=Int.mul_le_mul_of_nonneg_left (by omega) (by omega);have p4:l.bl*r.gh<=l.bh*r.gh:=Int.mul_le_mul_of_nonneg_right (by omega) (by omega);have p5:l.bh*r.gh<=1000000*120:=Int.mul_le_mul (by omega) (by omega) (by omega) (by omega);unfold Ja;rw [o1,o2,o3];simp only [Bool.and_self,if_true,show ¬ (100:Int)<1 by omega,if_false];unfold Lx HO ALK Xa;simp only [List.foldl_cons,List.foldl_nil,show ¬ ((0:Nat)%2=1) by decide,show ((1:Nat)%2=1) by decide,if_true,if_false,ite_self];rw [GJ (by omega) (by omega),GJ (by omega) (by omega),GJ (by omega) (by omega),GJ (by omega) (by omega)];simp only;unfold JH
 generalize l.bl*r.gl=a at*
 generalize l.bh*r.gl=b at*
 generalize l.bl*r.gh=c at*
 generalize l.bh*r.gh=d at*
 rw [if_neg (by simp only;omega)];simp only [Prod.mk.injEq,and_true];omega
structure P5 (r:Rig):Prop where
 g:0<=r.gl/\r.gl<=r.gh/\r.gh<=120
 t:0<=r.tank/\r.tank<=1000000000
 v:0<=r.rsv/\r.rsv<=1000000000
 h: -500<=r.lo/\r.lo<=r.hi/\r.hi<=9000
 r:C7 r.reg=true
theorem Hy {r:Rig} (h:CF r=true):P5 r:=by
 unfold CF at h;simp only [Bool.and_eq_true,CC] at h;obtain ⟨⟨⟨h1,h2⟩,h3⟩,h4⟩:=h;simp [rgB] at h2;exact ⟨h1,by omega,by omega,h3,h4⟩
structure Wn (l:Leg):Prop where
 m:1<=l.m/\l.m<=600
 x: -1000<=l.axl/\l.axl<=l.axh/\l.axh<=1000
 y: -1000<=l.ayl/\l.ayl<=l.ayh/\l.ayh<=1000
 u: -300<=l.ul/\l.ul<=l.uh/\l.uh<=300
 b:0<=l.bl/\l.bl<=l.bh/\l.bh<=1000000
theorem Mf {l:Leg} (h:BE l=true):Wn l:=by
 have hm:=AL0 h;unfold BE at h;simp only [Bool.and_eq_true,CC] at h;exact ⟨hm,h.1.1.1.1.1.2.1,h.1.1.1.1.1.2.2,h.1.1.1.1.2,h.1.1.1.2⟩
structure mU (s:Shp):Prop where
 x: -10000000<=s.xl/\s.xl<=s.xh/\s.xh<=10000000
 y: -10000000<=s.yl/\s.yl<=s.yh/\s.yh<=10000000
 b:0<=s.bl/\s.bl<=s.bh/\s.bh<=1000000000000
 p:0<=s.drp/\s.drp<=1000000000000
theorem AAb {s:Shp} (h:A6 s=true):mU s:=by
 have hn:=MF h;unfold A6 at h;simp only [Bool.and_eq_true,CC] at h;exact ⟨h.1.1.1.1.1.1.1,h.1.1.1.1.1.1.2,h.1.1.1.2,hn.2⟩
theorem KH {s:Shp} (hb:VU s) (hx:mU s) (hg:Ar s.gas=true):A6 s=true:=by
 have h1:=hb.d;have h2:=hb.b;have h3:=hx.p;unfold A6;simp only [Bool.and_eq_true,CC];exact ⟨⟨⟨⟨⟨⟨⟨hx.x,hx.y⟩,hb.h⟩,hb.f,hb.w⟩,hx.b⟩,by simp [rgB];omega⟩,by simp [rgB];omega⟩,hg⟩
structure KI (k:Sky) (r:Rig) (s:Shp) (l:Leg):Prop where
 lo:r.lo<=(mhS s l).1
 hi:(mhS s l).2<=r.hi
 fit:∀ c∈(tkQ s.gas).cs,Lh c (atA k.s (mhS s l).1 (mhS s l).2).1=1
 rsv:r.rsv<=s.fl-l.bh
 trim:Il r.reg (N1 l) (hvS (KG s (Cj k r s l)) (atA k.s (mhS s l).1 (mhS s l).2).1)=true
 far:UC (Cj k r s l)=true
 full:s.bh+l.bh<=1000000000000
theorem Si {a:Atm} {cs:List Cel}:¬ 0<=ixF (EK a) cs↔∀ c∈cs,Lh c a=1:=by
 have h:=IZ (EK a) cs;by_cases h0:0<=ixF (EK a) cs
 . rw [decide_eq_true h0] at h
   obtain ⟨c,hc,hn⟩:=List.any_eq_true.1 h.symm;refine ⟨fun h=>absurd h0 h,fun h2=>?_⟩;have:=h2 c hc;unfold EK at hn;rw [decide_eq_true this] at hn;cases hn
 . rw [decide_eq_false h0] at h
   refine ⟨fun _ c hc=>?_,fun _=>h0⟩;have:=List.any_eq_false.1 h.symm c hc;unfold EK at this;by_cases he:Lh c a=1
   . exact he
   . rw [decide_eq_false he] at this;simp at this
theorem H2 {k:Sky} {r:Rig} {s n:Shp} {l:Leg}:HK k r s l= .ok n↔KI k r s l/\n=Cj k r s l:=by
 constructor
 . intro h
   unfold HK at h;split at h
   . rename_i he
     split at h
     . cases h
     . rename_i hf
       refine ⟨?_,(Except.ok.inj h).symm⟩;unfold ER at he;split at he
       . simp at he
       split at he
       . simp at he
       split at he
       . rename_i h3;simp at he
       split at he
       . simp at he
       split at he
       . simp at he
       split at he
       . simp at he
       rename_i h1 h2 h3 h4 h5 h6;exact ⟨by omega,by omega,Si.1 h3,by omega,by simpa using h5,by simpa using h6,by omega⟩
   . cases h
 . rintro ⟨h,rfl⟩
   have e:ER k r s l=(0,0):=by
     unfold ER;rw [if_neg (by have:=h.lo;omega),if_neg (by have:=h.hi;omega),if_neg (Si.2 h.fit),if_neg (by have:=h.rsv;omega),if_neg (by rw [h.trim];simp),if_neg (by rw [h.far];simp)]
   unfold HK;rw [e,if_pos rfl,if_neg (by have:=h.full;omega)]
def Ey (k:Sky) (r:Rig):Bool:=match k.s[0]? with
 | some x=>decide (x.h<=r.lo)&&decide (r.hi<=aj k.s)
 | none=>false
theorem jc {k:Sky} {r:Rig} (hk:BV k=true) (hr:Ey k r=true) {a b:Int} (h1:r.lo<=a) (h2:a<=b) (h3:b<=r.hi):yg k.s a b:=by
 unfold BV at hk;simp only [Bool.and_eq_true,decide_eq_true_eq] at hk
 have ho:OkS k.s:=by
   refine B8.1 ?_;have:=hk.1;unfold D3 at this;by_cases h:GC k.s=true
   . exact h
   . rw [if_neg h] at this;simp at this
 have hf:=(IQ ho).1 hk.1;have hl:=ho.len;obtain ⟨x,hx⟩:∃ x,k.s[0]?= some x:=⟨_,List.getElem?_eq_getElem (by omega)⟩
 obtain ⟨y,hy⟩:∃ y,k.s[k.s.length-1]?= some y:=⟨_,List.getElem?_eq_getElem (by omega)⟩
 unfold Ey aj at hr;rw [hx,hy] at hr;simp only [Bool.and_eq_true,decide_eq_true_eq] at hr;exact ACP ho hf h2 (NU hx hy (by omega) (by omega)) (NU hx hy (by omega) (by omega))
theorem mV {k:Sky} (hk:BV k=true):OkW k.w:=by
 unfold BV at hk;simp only [Bool.and_eq_true] at hk;exact L0 hk.2
theorem jd {s:Shp} {l:Leg} (hs:VU s) (hl:Wn l):(mhS s l).1<=(mhS s l).2:=by
 have h1:=hs.h;have h2:=hl.u;unfold mhS;simp only;omega
theorem je {k:Sky} {r:Rig} {s:Shp} {l:Leg} (hr:P5 r) (hs:A6 s=true) (hl:Wn l) (h:KI k r s l):A6 (Cj k r s l)=true:=by
 have hb:=GT hs;have hx:=AAb hs;have b1:=hb.h;have b2:=hb.f;have b3:=hb.w;have b4:=hx.b;have g1:=hr.g;have g2:=hr.t;have g3:=hr.v;have g4:=hr.h;have l1:=hl.u;have l2:=hl.b;have m1:=h.lo;have m2:=h.hi;have m3:=h.rsv;have m4:=h.full;have hfar:=h.far;have ge:=Me l2 g1;have p0:0<=l.bl*r.gl:=Int.mul_nonneg (by omega) (by omega);have p1:l.bl*r.gl<=l.bh*r.gh:=Int.mul_le_mul (by omega) (by omega) (by omega) (by omega);unfold mhS at m1 m2;simp only at m1 m2;unfold UC at hfar;simp only [Bool.and_eq_true,CC] at hfar;have htk:=Md (CR hs);refine KH ⟨?_,?_,?_,hb.d,hb.b,CS htk,Dx htk⟩ ⟨hfar.1,hfar.2,?_,hx.p⟩ htk
 . unfold Cj;simp only;omega
 . unfold Cj;simp only;omega
 . unfold Cj DY;rw [ge];simp only;omega
 . unfold Cj;simp only;omega
structure dI (s t:Shp):Prop where
 x:WB (s.xl,s.xh) (t.xl,t.xh)
 y:WB (s.yl,s.yh) (t.yl,t.yh)
 h:WB (s.hl,s.hh) (t.hl,t.hh)
 f:WB (s.fl,s.fh) (t.fl,t.fh)
 w:WB (s.wl,s.wh) (t.wl,t.wh)
 b:WB (s.bl,s.bh) (t.bl,t.bh)
 dry:s.dry=t.dry
 bal:s.bal=t.bal
 drp:s.drp=t.drp
 gas:s.gas=t.gas
structure Wid (a b:Rig):Prop where
 reg:a.reg=b.reg
 gl:a.gl=b.gl
 gh:a.gh=b.gh
 tank:a.tank=b.tank
 rsv:a.rsv<=b.rsv
 lo:a.lo<=b.lo
 hi:b.hi<=a.hi
theorem Ze {α:Type} {p:α->Bool}:∀ {l:List α} {i:Nat} {x:α},i<(l.takeWhile p).length->l[i]?= some x->p x=true
 | [],i,x,h,_=>by simp at h
 | a::r,i,x,h,hx=>by
   rw [List.takeWhile_cons] at h;by_cases ha:p a=true
   . rw [if_pos ha] at h
     cases i with
     | zero=>simp at hx;subst hx;exact ha
     | succ i=>exact Ze (l:=r) (by simpa using h) (by simpa using hx)
   . rw [if_neg ha] at h;simp at h
theorem Zf {α:Type} {p:α->Bool}:∀ {l:List α} {i:Nat} {x:α},(∀ (j k:Nat) (x y:α),j<=k->l[j]?= some x->l[k]?= some y->p y=true->p x=true)->(l.takeWhile p).length<=i->l[i]?= some x->p x=false
 | [],i,x,_,_,hx=>by simp at hx
 | a::r,i,x,hm,h,hx=>by
   rw [List.takeWhile_cons] at h;by_cases ha:p a=true
   . rw [if_pos ha] at h
     cases i with
     | zero=>simp at h
     | succ i=>exact Zf (l:=r) (fun j k x y hjk h1 h2=>hm (j+1) (k+1) x y (by omega) (by simpa using h1) (by simpa using h2)) (by simpa using h) (by simpa using hx)
   . cases hp:p x with
     | false=>rfl
     | true=>exact absurd (hm 0 i a x (by omega) (by simp) hx hp) ha
theorem RE {w:List Gal} (hw:OkW w) {i j:Nat} {x y:Gal} (h:i<=j) (hx:w[i]?= some x) (hy:w[j]?= some y):x.h<=y.h:=sC hw (j-i) i x y hx (by rw [show i+(j-i)=j by omega];exact hy)
theorem Zg {w:List Gal} {lo:Int} {i:Nat} {x:Gal} (h:i<Qq w lo) (hx:w[i]?= some x):x.h<lo:=by
 have:=Ze h hx;simpa using this
theorem ft {w:List Gal} (hw:OkW w) {lo:Int} {i:Nat} {x:Gal} (h:Qq w lo<=i) (hx:w[i]?= some x):lo<=x.h:=by
 have:=Zf (fun j k x y hjk h1 h2 h3=>by have:=RE hw hjk h1 h2;simp at h3 ⊢;omega) h hx;simp at this;omega
theorem pd {w:List Gal} {hi:Int} {i:Nat} {x:Gal} (h:i<upN w hi) (hx:w[i]?= some x):x.h<=hi:=by
 have:=Ze h hx;simpa using this
theorem Zh {w:List Gal} (hw:OkW w) {hi:Int} {i:Nat} {x:Gal} (h:upN w hi<=i) (hx:w[i]?= some x):hi<x.h:=by
 have:=Zf (fun j k x y hjk h1 h2 h3=>by have:=RE hw hjk h1 h2;simp at h3 ⊢;omega) h hx;simp at this;omega
theorem JG {α:Type} {p:α->Bool} {l:List α}:(l.takeWhile p).length<=l.length:=(List.takeWhile_sublist p).length_le
theorem fn71 (l:List Gal) (lo hi:Int) (i:Nat) (x:Gal) (hx:l[i]?= some x):Ct prog 71 [vi i, .d (.ref [cT l]), .d (.ref [di lo,di hi])] (vb (decide (lo<=x.h))) []:=by
 have hil:i<l.length:=(List.getElem?_eq_some_iff.1 hx).1;refine CB func71 c71 fun E hE=>?_
 simp [p71,hx];apply RZ;simp [results71]
theorem fn72 (l:List Gal) (lo hi:Int) (i:Nat) (x:Gal) (hx:l[i]?= some x):Ct prog 72 [vi i, .d (.ref [cT l]), .d (.ref [di lo,di hi])] (vb (decide (hi<x.h))) []:=by
 have hil:i<l.length:=(List.getElem?_eq_some_iff.1 hx).1;refine CB func72 c72 fun E hE=>?_
 simp [p72,hx];apply RZ;simp [results72]
theorem ASV (a b g:Int) (h: -1000000<=a/\a<=1000000/\ -1000000<=b/\b<=1000000/\0<=g/\g<=1000000):Ct prog 73 [vsp a b, .d (.ref [di g])] (vsp (a-g) (b+g)) []:=by
 have w1:IntKind.wrap .i64 (a-g)=a-g:=AD (by omega) (by omega);have w2:IntKind.wrap .i64 (b+g)=b+g:=AD (by omega) (by omega);refine CB func73 c73 fun E hE=>?_
 simp [p73,w1,w2,AA];apply RZ;simp [results73]
abbrev wdV (x:Gal):V:= .agg [vi x.xl,vi x.xh,vi x.yl,vi x.yh]
theorem fn75 (x:Gal):Ct prog 75 [wdV x] (vsp (HG x).1 (HG x).2) []:=by
 refine CB func75 c75 fun E hE=>?_
 simp [p75,AA];apply RZ;simp [results75,HG]
theorem fn76 (x:Gal):Ct prog 76 [wdV x] (vsp (northW x).1 (northW x).2) []:=by
 refine CB func76 c76 fun E hE=>?_
 simp [p76,AA];apply RZ;simp [results76,northW]
theorem Iu (z:Int) (a b:Kn):Ct prog 120 [vi z, .d (.ref (knL a)), .d (.ref (knL b))] (vi (min (max z a.1) b.1)) []:=by
 refine CB func120 c120 fun E hE=>?_
 simp [p120];apply RZ;simp [results120]
def K6 (pk:Gal->Int × Int) (l:List Gal) (i:Nat):List Kn:=(l.take i).map fun x=>(x.h,pk x)
theorem Vl {pk:Gal->Int × Int} {l:List Gal} {i:Nat} {x:Gal} (h:l[i]?= some x):K6 pk l (i+1)=K6 pk l i++[(x.h,pk x)]:=by
 unfold K6;rw [List.take_add_one,h];simp
abbrev wd4 (a b c d:Int):V:= .agg [vi a,vi b,vi c,vi d]
structure WdB (xl xh yl yh:Int):Prop where
 x: -1000<=xl/\xl<=xh/\xh<=1000
 y: -1000<=yl/\yl<=yh/\yh<=1000
theorem tM {H:Hp} {id:Nat} {a b c d:Int} (h:H id=some [vi a,vi b,vi c,vi d]):Bor H (.ls id 0 4 1) (.d (Ch [a,b,c,d])):=by
 rw [Bk];exact ⟨rfl,rfl,by simp,_,h,rfl⟩
theorem pZ (xl xh yl yh:Int) (h:WdB xl xh yl yh):Ct prog 173 [wd4 xl xh yl yh] (vi 0) []:=by
 have h1:=h.x;have h2:=h.y;have c1:=pA (xl,xh);have c2:=pA (yl,yh);have c3:=mH (-2000) 2000 [xl,xh,yl,yh] (by simp);rw [CT.2 (by simp only;omega)] at c1 c2;rw [show rgB (-2000) 2000 [xl,xh,yl,yh]=true by simp [rgB];omega] at c3;have z1:IntKind.wrap .i64 1=1:=by decide
 have z2:IntKind.wrap .i64 2=2:=by decide
 refine CB func173 c173 fun E hE=>?_
 simp [p173,AA];refine Al (α:=Nat) (fun k=>⟨AO [(1, .lp 0 0),(2,vi 0),(10,wd4 xl xh yl yh),(11,vi k)],lk [(0,[vi xl,vi xh,vi yl,vi yh])],1⟩) (fun k=>k<=2) (fun k=>2-k) 0 ?_ ?_ ?_
 . omega
 . exact WK hE (lk [(0,0)])
 . intro k hk
   match k,hk with
   | 2,_=>
     simp [Cs,AA,AM];refine CLb (c3) (by simp [tM]) ?_;simp;apply RZ;simp [results173]
   | n+3,h=>omega
   | 0,_=>
     simp [Cs,AA];refine CLa c1 ?_;simp [z1];refine ⟨1,by omega,by omega,?_⟩;exact WK hE (lk [(0,0)])
   | 1,_=>
     simp [Cs,AA];refine CLa c2 ?_;simp [z2];refine ⟨2,by omega,by omega,?_⟩;exact WK hE (lk [(0,0)])
theorem Tu {a b:Int} (h: -1000<=a/\a<=b/\b<=1000):(0<=sqN a b/\sqN a b<=1000000)/\(0<=sqF a b/\sqF a b<=1000000)/\sqN a b<=sqF a b:=by
 unfold sqN sqF;have m1:0<=max (max 0 a) (-b):=by omega
 have m2:max (max 0 a) (-b)<=max (-a) b:=by omega
 have m3:max (-a) b<=1000:=by omega
 generalize max (max 0 a) (-b)=x at*
 generalize max (-a) b=y at*
 have e1:0<=x*x:=Int.mul_nonneg m1 m1;have e2:x*x<=y*y:=Int.mul_le_mul m2 m2 m1 (by omega);have e3:y*y<=1000*1000:=Int.mul_le_mul m3 m3 (by omega) (by omega);omega
theorem mJ {xl xh yl yh:Int} (h:WdB xl xh yl yh):(Nz xl xh yl yh).2=0:=by
 have q1:=Tu h.x;have q2:=Tu h.y;unfold Nz LB;rw [if_pos (CT.2 (by simp only;omega)),if_neg (by simp only;omega)]
def WN (xl xh yl yh:Int) (k:Nat):Int × Int:=if k=0 then (0,0) else if k=1 then (sqN xl xh,sqF xl xh) else (sqN xl xh+sqN yl yh,sqF xl xh+sqF yl yh)
theorem UA (xl xh yl yh:Int) (h:WdB xl xh yl yh):Ct prog 155 [wd4 xl xh yl yh] (.tup [vsp (Nz xl xh yl yh).1.1 (Nz xl xh yl yh).1.2,vi 0]) []:=by
 have h1:=h.x;have h2:=h.y;have c1:=pZ xl xh yl yh h;have c2:=qn (sqN xl xh+sqN yl yh,sqF xl xh+sqF yl yh)
 have c2':Ct prog 164 [vsp (sqN xl xh+sqN yl yh) (sqF xl xh+sqF yl yh)] (.tup [vsp (Nz xl xh yl yh).1.1 (Nz xl xh yl yh).1.2,vi 0]) []:=by
   have e:=mJ h;unfold vse at c2;unfold Nz at e ⊢;rw [e] at c2;exact c2
 have q1:=Tu h1;have q2:=Tu h2;have z1:IntKind.wrap .i64 1=1:=by decide
 have z2:IntKind.wrap .i64 2=2:=by decide
 have w1:IntKind.wrap .i64 (-xl)= -xl:=AD (by omega) (by omega);have w2:IntKind.wrap .i64 (-xh)= -xh:=AD (by omega) (by omega);have w3:IntKind.wrap .i64 (-yl)= -yl:=AD (by omega) (by omega);have w4:IntKind.wrap .i64 (-yh)= -yh:=AD (by omega) (by omega);have w5:IntKind.wrap .i64 (max 0 (max xl (-xh))*max 0 (max xl (-xh)))=sqN xl xh:=by rw [show max 0 (max xl (-xh))=max (max 0 xl) (-xh) by omega];exact AD (by unfold sqN at q1;omega) (by unfold sqN at q1;omega)
 have w6:IntKind.wrap .i64 (max (-xl) xh*max (-xl) xh)=sqF xl xh:=AD (by unfold sqF at q1;omega) (by unfold sqF at q1;omega);have w7:IntKind.wrap .i64 (max 0 (max yl (-yh))*max 0 (max yl (-yh)))=sqN yl yh:=by rw [show max 0 (max yl (-yh))=max (max 0 yl) (-yh) by omega];exact AD (by unfold sqN at q2;omega) (by unfold sqN at q2;omega)
 have w8:IntKind.wrap .i64 (max (-yl) yh*max (-yl) yh)=sqF yl yh:=AD (by unfold sqF at q2;omega) (by unfold sqF at q2;omega);have w9:IntKind.wrap .i64 (sqN xl xh)=sqN xl xh:=AD (by omega) (by omega);have w10:IntKind.wrap .i64 (sqF xl xh)=sqF xl xh:=AD (by omega) (by omega);have w11:IntKind.wrap .i64 (sqN xl xh+sqN yl yh)=sqN xl xh+sqN yl yh:=AD (by omega) (by omega);have w12:IntKind.wrap .i64 (sqF xl xh+sqF yl yh)=sqF xl xh+sqF yl yh:=AD (by omega) (by omega);refine CB func155 c155 fun E hE=>?_
 simp [p155];refine CLa c1 ?_;simp [AA];refine Al (α:=Nat) (fun k=>⟨AO [(1, .lp 0 0),(2, .lp 1 0),(5, .lp 2 0),(20,wd4 xl xh yl yh),(21,vi k)],lk [(0,[vi xl,vi xh,vi yl,vi yh]),(1,[vi 0,vi 0]),(2,[vi (WN xl xh yl yh k).1,vi (WN xl xh yl yh k).2])],3⟩) (fun k=>k<=2) (fun k=>2-k) 0 ?_ ?_ ?_
 . omega
 . refine AI.mk hE (lk [(0,0),(1,1048576),(2,8388608)]) _ _ _ ?_ ?_ ?_ ?_ ?_<;>simp [WN]
 . intro k hk
   match k,hk with
   | 2,_=>
     simp [AMx,WN];refine CLa c2' ?_;simp [AA];apply RZ;simp [results155]
   | n+3,h=>omega
   | 0,_=>
     simp [AMx,AA,WN,w1,w2,w5,w6,w9,w10,z1];refine ⟨1,by omega,by omega,?_⟩;exact WK hE (lk [(0,0),(1,1),(2,2)])
   | 1,_=>
     simp [AMx,AA,WN,w3,w4,w7,w8,w11,w12,z2];refine ⟨2,by omega,by omega,?_⟩;exact WK hE (lk [(0,0),(1,1),(2,2)])
theorem qm (lo hi n:Int):Ct prog 163 [vi n, .d (.ref [di lo]), .d (.ref [di hi])] (vb (decide (n<lo)||decide (hi<n))) []:=by
 by_cases h1:n<lo
 . refine CB func163 AVU fun E hE=>?_
   simp [p163,h1];apply RZ;simp [results163]
 . refine CB func163 AVU fun E hE=>?_
   simp [p163,h1];apply RZ;simp [results163]
theorem Tw (lo hi:Int) (l:List Int) (hl:l.length<=1000000):Ct prog 122 [vi lo,vi hi, .d (Ch l)] (vb (rgB lo hi l)) []:=by
 have c:=ASq l 163 [.ref [di lo], .ref [di hi]] (fun n=>decide (n<lo)||decide (hi<n)) (by omega) fun n _=>qm lo hi n
 rw [ATH] at c;refine CB func122 c122 fun E hE=>?_
 simp [p122];refine CLa c ?_;simp;apply RZ;simp [results122]
theorem AU5 {l h:Int} (hd:1<h-l):l<Int.tdiv (l+h) 2/\Int.tdiv (l+h) 2<h:=by
 rcases Int.le_total 0 (l+h) with h0 | h0
 . rw [Int.tdiv_eq_ediv_of_nonneg h0];omega
 . have e:Int.tdiv (l+h) 2= -(-(l+h)/2):=by
     rw [show l+h= -(-(l+h)) by omega,Int.neg_tdiv,Int.tdiv_eq_ediv_of_nonneg (by omega)];simp
   rw [e];omega
theorem AVJ {c k v:Int} (hc:0<c) (hk:0<=k) (hv:0<=v):k*k*(c*c)<=c*v*(c*v)↔k<=v:=by
 have e1:k*k*(c*c)=(c*k)*(c*k):=by grind
 rw [e1];constructor
 . intro h
   rcases Int.lt_or_le v k with h1 | h1
   . exfalso
     have h2:c*v<c*k:=Int.mul_lt_mul_of_pos_left h1 hc;have h3:0<=c*v:=Int.mul_nonneg (by omega) hv;have h4:c*v*(c*v)<=c*v*(c*k):=Int.mul_le_mul_of_nonneg_left (by omega) h3;have h5:c*v*(c*k)<c*k*(c*k):=Int.mul_lt_mul_of_pos_right h2 (by omega);omega
   . exact h1
 . intro h
   have h2:c*k<=c*v:=Int.mul_le_mul_of_nonneg_left h (by omega);exact Int.mul_le_mul h2 h2 (Int.mul_nonneg (by omega) hk) (Int.mul_nonneg (by omega) hv)
theorem AT0 (v:Int) (hv: -2000<=v/\v<=2000):Ct prog 193 [vi (7000*v),vi 49000000] (vi v) []:=by
 refine CB func193 c193 fun E hE=>?_
 simp [p193];refine Al (α:=Int × Int) (fun x=>⟨AO [(0,vi (7000*v)),(1,vi 49000000),(5,vi x.1),(6,vi x.2)],lk [],0⟩) (fun x=> -4000<=x.1/\x.1<=v/\v<x.2/\x.2<=4000) (fun x=>(x.2-x.1).toNat) (-4000,4000) ?_ ?_ ?_
 . simp only;omega
 . exact WK hE (lk [])
 . rintro ⟨l,h⟩ ⟨h1,h2,h3,h4⟩
   simp only at h1 h2 h3 h4 ⊢;have w1:IntKind.wrap .i64 (h-l)=h-l:=AD (by omega) (by omega);by_cases hd:1<h-l
   . have w2:IntKind.wrap .i64 (l+h)=l+h:=AD (by omega) (by omega)
     obtain ⟨k1,k2⟩:=AU5 hd
     generalize hk:Int.tdiv (l+h) 2=k at k1 k2
     have w3:IntKind.wrap .i64 k=k:=AD (by omega) (by omega)
     have b1: -16000000<=k*k/\k*k<=16000000:=by
       have h5:k*k=k.natAbs*k.natAbs:=by rw [<-Int.natCast_mul,<-Int.natAbs_mul,Int.natAbs_of_nonneg (by rcases Int.le_total 0 k with h | h;exact Int.mul_nonneg h h;exact Int.mul_nonneg_of_nonpos_of_nonpos h h)]
       have h6:k.natAbs*k.natAbs<=4000*4000:=Nat.mul_le_mul (by omega) (by omega);omega
     have w4:IntKind.wrap .i64 (k*k)=k*k:=AD (by omega) (by omega);have w5:IntKind.wrap .i64 (k*k*49000000)=k*k*49000000:=AD (by omega) (by omega)
     have b2:0<=v*v/\v*v<=4000000:=by
       have h5:v*v=v.natAbs*v.natAbs:=by rw [<-Int.natCast_mul,<-Int.natAbs_mul,Int.natAbs_of_nonneg (by rcases Int.le_total 0 v with h | h;exact Int.mul_nonneg h h;exact Int.mul_nonneg_of_nonpos_of_nonpos h h)]
       have h6:v.natAbs*v.natAbs<=2000*2000:=Nat.mul_le_mul (by omega) (by omega);omega
     have e6:7000*v*(7000*v)=49000000*(v*v):=by grind
     have w6:IntKind.wrap .i64 (7000*v*(7000*v))=7000*v*(7000*v):=AD (by omega) (by omega);have cmp:∀ a b:Int,0<=a->0<=b->(a*a*49000000<=7000*b*(7000*b)↔a<=b):=fun a b ha hb=>AVJ (c:=7000) (by omega) ha hb
     by_cases hv0:0<=v
     . have n0:0<=7000*v:=by omega
       have n1:¬ 7000*v<0:=by omega
       by_cases hk0:0<k
       . have hc:=cmp k v (by omega) hv0
         by_cases hkv:k<=v
         . have hc1:=hc.2 hkv
           simp [Uc,w1,w2,w3,w4,w5,w6,hd,hk,n0,hk0,hc1];refine ⟨k,h,by omega,by omega,?_⟩;exact WK hE (lk [])
         . have hc1:¬ k*k*49000000<=7000*v*(7000*v):=fun h=>hkv (hc.1 h)
           simp [Uc,w1,w2,w3,w4,w5,w6,hd,hk,n0,hk0,hc1];refine ⟨l,k,by omega,by omega,?_⟩;exact WK hE (lk [])
       . simp [Uc,w1,w2,w3,hd,hk,n0,n1,hk0]
         refine ⟨k,h,by omega,by omega,?_⟩;exact WK hE (lk [])
     . have n0:¬ 0<=7000*v:=by omega
       have n1:7000*v<0:=by omega
       by_cases hk0:k<0
       . have hc:=cmp (-v) (-k) (by omega) (by omega)
         have e1: -v* -v*49000000=7000*v*(7000*v):=by grind
         have e2:7000* -k*(7000* -k)=k*k*49000000:=by grind
         rw [e1,e2] at hc;by_cases hkv:k<=v
         . have hc1:=hc.2 (by omega)
           simp [Uc,w1,w2,w3,w4,w5,w6,hd,hk,n0,n1,hk0,hc1];refine ⟨k,h,by omega,by omega,?_⟩;exact WK hE (lk [])
         . have hc1:¬ 7000*v*(7000*v)<=k*k*49000000:=fun h=>hkv (by have:=hc.1 h;omega)
           simp [Uc,w1,w2,w3,w4,w5,w6,hd,hk,n0,n1,hk0,hc1];refine ⟨l,k,by omega,by omega,?_⟩;exact WK hE (lk [])
       . simp [Uc,w1,w2,w3,hd,hk,n0,n1,hk0]
         refine ⟨l,k,by omega,by omega,?_⟩;exact WK hE (lk [])
   . have e:l=v:=by omega
     simp [Uc,w1,hd];apply RZ;simp [results193,e]
theorem ATt {x y:Int} (h: -1000000000000<=x*y/\x*y<=1000000000000):Eg x y 1=(x*y,x*y):=by
 have key:∀ P:Int,0<=P->P<=1000000000000->Da P 1=(P,0):=fun P p0 p1=>by
   unfold Da;rw [if_pos (by simp;omega)];simp
 unfold Eg;by_cases hx:x<0
 . by_cases hy:y<0
   . have e:max x (-x)*max y (-y)=x*y:=by rw [show max x (-x)= -x by omega,show max y (-y)= -y by omega];grind
     have p0:0<=x*y:=Int.mul_nonneg_of_nonpos_of_nonpos (by omega) (by omega);rw [e,key _ p0 h.2,decide_eq_true hx,decide_eq_true hy];simp [upS]
   . have e:max x (-x)*max y (-y)= -(x*y):=by rw [show max x (-x)= -x by omega,show max y (-y)=y by omega];grind
     have p0:0<= -(x*y):=by rw [<-Int.neg_mul];exact Int.mul_nonneg (by omega) (by omega)
     rw [e,key _ p0 (by omega),decide_eq_true hx,decide_eq_false hy];simp [upS]
 . by_cases hy:y<0
   . have e:max x (-x)*max y (-y)= -(x*y):=by rw [show max x (-x)=x by omega,show max y (-y)= -y by omega];grind
     have p0:0<= -(x*y):=by rw [<-Int.mul_neg];exact Int.mul_nonneg (by omega) (by omega)
     rw [e,key _ p0 (by omega),decide_eq_false hx,decide_eq_true hy];simp [upS]
   . have e:max x (-x)*max y (-y)=x*y:=by rw [show max x (-x)=x by omega,show max y (-y)=y by omega]
     have p0:0<=x*y:=Int.mul_nonneg (by omega) (by omega);rw [e,key _ p0 h.2,decide_eq_false hx,decide_eq_false hy];simp [upS]
theorem AUq {lo hi c:Int} (h0: -1000000<=lo/\lo<=hi/\hi<=1000000) (hc: -10000<=c/\c<=10000) (h1: -100000000000<=lo*c/\lo*c<=100000000000) (h2: -100000000000<=hi*c/\hi*c<=100000000000):AUX (lo,hi) (c,c)=((min (lo*c) (hi*c),max (lo*c) (hi*c)),0):=by
 have s1:=ATt (x:=lo) (y:=c) (by omega);have s2:=ATt (x:=hi) (y:=c) (by omega);have o1:okS (lo,hi)=true:=CT.2 (by simp only;omega);have o2:okS (c,c)=true:=CT.2 (by simp only;omega);have o3:okS ((1:Int),(1:Int))=true:=by decide
 have e:∀ k,HO (lo,hi) (c,c) (1,1) k=if k%2=1 then (hi*c,hi*c) else (lo*c,lo*c):=fun k=>by
   unfold HO;simp only [ite_self];split
   . exact s2
   . exact s1
 unfold AUX Ja;rw [o1,o2,o3];simp only [Bool.and_self,if_true];rw [if_neg (by decide)];unfold Lx;rw [e,e,e,e,e,e,e,e];unfold ALK Xa JH;simp;omega
theorem AU7 {v:Int} (h:0<=v/\v<=1000000):DL (v*v)=v:=by
 have h1:v*v<=1000000*1000000:=Int.mul_le_mul h.2 h.2 h.1 (by omega);have h2:0<=v*v:=Int.mul_nonneg h.1 h.1;refine PN (PP _ (by omega)) ⟨h.1,Int.le_refl _,?_⟩;have:(v+1)*(v+1)=v*v+2*v+1:=by grind
 omega
theorem ATw {v:Int} (h:0<=v/\v<=1000000):LB (v*v,v*v)=((v,v),0):=by
 have h1:v*v<=1000000*1000000:=Int.mul_le_mul h.2 h.2 h.1 (by omega);have h2:0<=v*v:=Int.mul_nonneg h.1 h.1;have s:=AU7 h;unfold LB;rw [if_pos (CT.2 (by simp only;omega)),if_neg (by simp only;omega)];simp only;rw [s,if_pos rfl]
theorem Uh (lo hi dx dy a b x1 x2:Int) (h: -1000<=lo/\lo<=hi/\hi<=1000) (hd:dx=7000/\dy=0\/dx= -7000/\dy=0\/dx=0/\dy=7000\/dx=0/\dy= -7000) (e3:AUX (lo,hi) (dx,dx)=((x1,x2),0)) (hx:x1<=x2) (ha:x1=7000*a) (hb: -x2=7000*b) (hab: -1000<=a/\a<=1000/\ -1000<=b/\b<=1000):Ct prog 176 [wd4 lo hi 0 0,vi dx,vi dy] (.tup [vsp a (-b),vi 0]) []:=by
 have c1:=pZ lo hi 0 0 ⟨h,by omega⟩;have c2:=mH (-10000) 10000 [dx,dy] (by simp);rw [show rgB (-10000) 10000 [dx,dy]=true by simp [rgB];omega] at c2;have c3:=pO (lo,hi) (dx,dx);rw [e3] at c3;have c4:=pO (0,0) (dy,dy);rw [show AUX (0,0) (dy,dy)=((0,0),0) by rcases hd with ⟨_,rfl⟩ | ⟨_,rfl⟩ | ⟨_,rfl⟩ | ⟨_,rfl⟩<;>decide+kernel] at c4;have c5:=jC (x1,x2) (0,0)
 have e5:AUu (x1,x2) (0,0)=((x1,x2),0):=by
   unfold AUu JH;rw [CT.2 (by simp only;omega),show okS ((0:Int),(0:Int))=true by decide];simp only [Bool.and_self,if_true];rw [if_neg (by omega)];simp
 rw [e5] at c5;have c6:=AT0 a (by omega);have c7:=AT0 b (by omega);rw [<-ha] at c6;rw [<-hb] at c7;have w3:IntKind.wrap .i64 49000000=49000000:=by decide
 have w0:IntKind.wrap .i64 0=0:=by decide
 have w4:IntKind.wrap .i64 (-x2)= -x2:=AD (by omega) (by omega);have w5:IntKind.wrap .i64 (-b)= -b:=AD (by omega) (by omega);rcases hd with ⟨rfl,rfl⟩ | ⟨rfl,rfl⟩ | ⟨rfl,rfl⟩ | ⟨rfl,rfl⟩
 . refine CB func176 AVE fun E hE=>?_
   simp [p176];refine CLa c1 ?_;simp [AA,AM];refine CLb (c2) (by simp [Ap]) ?_;simp [AA];refine CLa c3 ?_;simp [AA];refine CLa c4 ?_;simp [AA];refine CLa c5 ?_;simp [AA,w0,w3,inC,Nat.testBit];refine CLa c6 ?_;simp [w4,inC,Nat.testBit];refine CLa c7 ?_;simp [AA,w5];apply RZ;simp [results176]
 . refine CB func176 AVE fun E hE=>?_
   simp [p176];refine CLa c1 ?_;simp [AA,AM];refine CLb (c2) (by simp [Ap]) ?_;simp [AA];refine CLa c3 ?_;simp [AA];refine CLa c4 ?_;simp [AA];refine CLa c5 ?_;simp [AA,w0,w3,inC,Nat.testBit];refine CLa c6 ?_;simp [w4,inC,Nat.testBit];refine CLa c7 ?_;simp [AA,w5];apply RZ;simp [results176]
 . refine CB func176 AVE fun E hE=>?_
   simp [p176];refine CLa c1 ?_;simp [AA,AM];refine CLb (c2) (by simp [Ap]) ?_;simp [AA];refine CLa c3 ?_;simp [AA];refine CLa c4 ?_;simp [AA];refine CLa c5 ?_;simp [AA,w0,w3,inC,Nat.testBit];refine CLa c6 ?_;simp [w4,inC,Nat.testBit];refine CLa c7 ?_;simp [AA,w5];apply RZ;simp [results176]
 . refine CB func176 AVE fun E hE=>?_
   simp [p176];refine CLa c1 ?_;simp [AA,AM];refine CLb (c2) (by simp [Ap]) ?_;simp [AA];refine CLa c3 ?_;simp [AA];refine CLa c4 ?_;simp [AA];refine CLa c5 ?_;simp [AA,w0,w3,inC,Nat.testBit];refine CLa c6 ?_;simp [w4,inC,Nat.testBit];refine CLa c7 ?_;simp [AA,w5];apply RZ;simp [results176]
section
variable (lo hi:Int) (h: -1000<=lo/\lo<=hi/\hi<=1000)
include h
theorem AU8:Ct prog 176 [wd4 lo hi 0 0,vi 7000,vi 0] (.tup [vsp lo hi,vi 0]) []:=by
 have:=Uh lo hi 7000 0 lo (-hi) (lo*7000) (hi*7000) h (by omega) (by rw [AUq (by omega) (by omega) (by omega) (by omega)];simp only [Prod.mk.injEq,and_true];omega) (by omega) (by omega) (by omega) (by omega)
 rwa [Int.neg_neg] at this
theorem AU9:Ct prog 176 [wd4 lo hi 0 0,vi (-7000),vi 0] (.tup [vsp (-hi) (-lo),vi 0]) []:=
 Uh lo hi (-7000) 0 (-hi) lo (hi* -7000) (lo* -7000) h (by omega) (by rw [AUq (by omega) (by omega) (by omega) (by omega)];simp only [Prod.mk.injEq,and_true];omega) (by omega) (by omega) (by omega) (by omega)
theorem AVA (dy:Int) (hd:dy=7000\/dy= -7000):Ct prog 176 [wd4 lo hi 0 0,vi 0,vi dy] (.tup [vsp 0 0,vi 0]) []:=
 Uh lo hi 0 dy 0 0 0 0 h (by omega) (by rw [AUq (by omega) (by omega) (by omega) (by omega)];simp) (by omega) (by omega) (by omega) (by omega)
end
end Go.Proofs.Tryz
namespace Go.Proofs.Tryz
open Go.Psl
open Go.Air
abbrev Nv:V:= .d (.lit (.slice none 0 0))
theorem hfl5:∀ x:Lev,(A5 x).length=5:=fun _=>rfl
theorem AQ5:∀ x:Gal,(galL x).length=6:=fun _=>rfl
theorem ANE {α:Type} {f:α->List D} {sz b:Nat} (hf:∀ x,(f x).length=sz) {H:Hp} {l:List α} (h:H b=some (AH f l)):Fz1 H (.ls b 0 l.length sz) (.d (slD f sz l)):=B0 hf h
theorem APe {H:Hp} {sz:Nat}:Fz1 H Nv (.d (.sl sz [])):=Or.inr ⟨rfl,sz,rfl⟩
abbrev K2 (l:List Gal):D:= .sl 1 [[cT l]]
abbrev G6 (sp h:Int):List V:=[vi sp,vi h,vi 0,vi 9000,vi 0,vi 0,vi 0]
def rtR (a b:Int):List (List D):=if a<1 then [] else [[di a,di b]]
theorem AT1 (l:List Gal) (lo hi sp h dx a b:Int) (hdx:dx=7000\/dx= -7000) (hb: -1000<=lo/\lo<=hi/\hi<=1000) (hab: -1000<=a/\a<=1000/\ -1000<=b/\b<=1000) (hs:1<=sp/\sp<=1000) (hw:Ct prog 23 [.d (cT l),vsp h h] (.tup [wd4 lo hi 0 0,vi 0]) []) (c1:Ct prog 176 [wd4 lo hi 0 0,vi dx,vi 0] (.tup [vsp a b,vi 0]) []):Ct prog 162 [.agg (G6 sp h), .d (K2 l),vi h,vi dx,vi 0] (.d (.sl 2 (rtR (a+sp) (b+sp)))) []:=by
 have c2:=AVA lo hi hb dx hdx;have c3:=qn (sp*sp,sp*sp);rw [ATw (by omega)] at c3;have w1:IntKind.wrap .i64 0=0:=by decide
 have hq:0<=sp*sp/\sp*sp<=1000000:=⟨Int.mul_nonneg (by omega) (by omega),by have:=Int.mul_le_mul hs.2 hs.2 (by omega) (by omega:(0:Int)<=1000);omega⟩
 have w2:IntKind.wrap .i64 (sp*sp)=sp*sp:=AD (by omega) (by omega);have w3:IntKind.wrap .i64 1=1:=by decide
 have w4:IntKind.wrap .i64 (a+sp)=a+sp:=AD (by omega) (by omega);have w5:IntKind.wrap .i64 (b+sp)=b+sp:=AD (by omega) (by omega);have hsp:¬ sp<0:=by omega
 by_cases hz:a+sp<1
 . have e:rtR (a+sp) (b+sp)=[]:=by unfold rtR;rw [if_pos hz]
   rw [e];refine Cm.freeze (?_:Ct prog 162 [.agg (G6 sp h), .d (K2 l),vi h,vi dx,vi 0] Nv []) (APe (H:=lk []) (sz:=2));refine CB func162 qV fun E hE=>?_
   simp [p162];refine Al (α:=Nat) (fun _=>⟨AO [(2,vi h),(3,vi dx),(4,vi 0),(5, .lp 0 0),(11,Nv),(25, .d (K2 l)),(26,vi 1),(27,vi 0)],lk [(0,G6 sp h)],1⟩) (fun i=>i=0) (fun i=>1-i) 0 ?_ ?_ ?_
   . rfl
   . exact WK hE (lk [(0,0)])
   . intro i hi
     simp [ATx,AA];refine CLa hw ?_;simp [AA];refine CLa c1 ?_;simp [AA,w1];refine CLa c2 ?_;simp [AA,w1,w2,hsp];refine CLa c3 ?_;simp [AA,w4,w5,hz];apply RZ;simp [results162]
 . have e:rtR (a+sp) (b+sp)=[[di (a+sp),di (b+sp)]]:=by unfold rtR;rw [if_neg hz]
   rw [e];refine Cm.freeze (?_:Ct prog 162 [.agg (G6 sp h), .d (K2 l),vi h,vi dx,vi 0] (.ls 0 0 1 2) [(0,[vi (a+sp),vi (b+sp)])]) (ANE (f:=spL) (l:=[(a+sp,b+sp)]) (fun _=>rfl) (by simp [AH]));refine CB func162 qV fun E hE=>?_
   simp [p162];refine Al (α:=Nat) (fun i=>⟨AO [(2,vi h),(3,vi dx),(4,vi 0),(5, .lp 0 0),(11,if i=0 then Nv else .ls 1 0 1 2),(25, .d (K2 l)),(26,vi 1),(27,vi i)],lk (if i=0 then [(0,G6 sp h)] else [(0,G6 sp h),(1,[vi (a+sp),vi (b+sp)])]),2⟩) (fun i=>i<=1) (fun i=>1-i) 0 ?_ ?_ ?_
   . omega
   . simp only [if_true]
     exact WK hE (lk [(0,0)])
   . intro i hi
     have hi2:i=0\/i=1:=by omega
     rcases hi2 with rfl | rfl
     . simp only [if_true]
       simp [ATx,AA];refine CLa hw ?_;simp [AA];refine CLa c1 ?_;simp [AA,w1];refine CLa c2 ?_;simp [AA,w1,w2,hsp];refine CLa c3 ?_;simp [AA,AM,w4,w5,hz];refine ⟨1,by omega,by omega,?_⟩;simp only [Nat.one_ne_zero,if_false];refine AI.mk hE (lk [(0,0),(1,103809026)]) _ _ _ ?_ ?_ ?_ ?_ ?_<;>simp [w3]
     . simp only [Nat.one_ne_zero,if_false]
       simp [ATx];refine AB.by (lk [(0,1)]) ?_;simp [results162]
abbrev dbt:D:= .lit (.bool true)
abbrev AUa:D:= .sl 1 [[dbt],[dbt]]
abbrev AUb:List D:=[di 0,di 1,di 7000,di 0,di (-500)]
abbrev ATn:D:= .sl 5 [AUb]
abbrev chL:List V:=[.d AUa, .d ATn]
theorem w1_:IntKind.wrap .i64 1=1:=by decide
theorem xA:Ct prog 159 [.agg chL] (vi 0) []:=by
 have c1:=Tw 1 12 [2] (by simp);have c2:=Tw 0 1 [0,1] (by simp);have c3:=Tw (-7000) 7000 [7000,0] (by simp);have c4:=Tw (-500) 9000 [-500] (by simp);rw [show rgB 1 12 [2]=true by decide] at c1;rw [show rgB 0 1 [0,1]=true by decide] at c2;rw [show rgB (-7000) 7000 [7000,0]=true by decide] at c3;rw [show rgB (-500) 9000 [-500]=true by decide] at c4;refine CB func159 c159 fun E hE=>?_
 simp [p159,AA,AM];refine CLb (c1) (by simp [AG]) ?_;simp;refine Al (α:=Nat) (fun i=>⟨AO [(1, .lp 0 0),(3,vi 2),(20, .d ATn),(21,vi 1),(22,vi i)],lk [(0,chL)],1⟩) (fun i=>i<=1) (fun i=>1-i) 0 ?_ ?_ ?_
 . omega
 . exact WK hE (lk [(0,0)])
 . intro i hi
   have hi2:i=0\/i=1:=by omega
   rcases hi2 with rfl | rfl
   . simp [bF,AA,AM,w1_]
     refine CLb (c2) (by simp [Ap]) ?_;simp [AA,AM];refine CLb (c3) (by simp [Ap]) ?_;simp [AA,AM];refine CLb (c4) (by simp [AG]) ?_;simp [w1_];refine ⟨1,by omega,by omega,?_⟩;exact WK hE (lk [(0,0)])
   . simp [bF]
     apply RZ;simp [results159]
theorem ct (sp h:Int) (hs:1<=sp/\sp<=1000) (hh: -500<=h/\h<=9000):Ct prog 160 [.agg (G6 sp h)] (vi 0) []:=by
 have c1:=Tw 1 1000 [sp] (by simp);have c2:=Tw (-500) 9000 [h,9000] (by simp);have c3:=Tw 0 2000 [0] (by simp);have c4:=Tw 0 1000000000 [0] (by simp);have c5:=Tw 0 1000000 [0,0] (by simp);rw [show rgB 1 1000 [sp]=true by simp [rgB];omega] at c1;rw [show rgB (-500) 9000 [h,9000]=true by simp [rgB];omega] at c2;rw [show rgB 0 2000 [0]=true by decide] at c3;rw [show rgB 0 1000000000 [0]=true by decide] at c4;rw [show rgB 0 1000000 [0,0]=true by decide] at c5;refine CB func160 c160 fun E hE=>?_
 simp [p160,AA,AM];refine CLb (c1) (by simp [AG]) ?_;simp [AA,AM];refine CLb (c2) (by simp [Ap]) ?_;simp [AA,AM];refine CLb (c3) (by simp [AG]) ?_;simp [AA,AM];refine CLb (c4) (by simp [AG]) ?_;simp [AA,AM];refine CLb (c5) (by simp [Ap]) ?_;simp;apply RZ;simp [results160]
theorem jN (l:List Gal) (hl:l.length<=1000000) (hw:Dr l=true):Ct prog 161 [.d (K2 l)] (vi 0) []:=by
 have c1:=Tw 1 4 [1] (by simp);rw [show rgB 1 4 [1]=true by decide] at c1;have c2:=ASI l hl;rw [hw] at c2;refine CB func161 c161 fun E hE=>?_
 simp [p161,AA,AM];refine CLb (c1) (by simp [AG]) ?_;simp;refine Al (α:=Nat) (fun i=>⟨AO [(11, .d (K2 l)),(12,vi 1),(13,vi i)],lk [],0⟩) (fun i=>i<=1) (fun i=>1-i) 0 ?_ ?_ ?_
 . omega
 . exact WK hE (lk [])
 . intro i hi
   have hi2:i=0\/i=1:=by omega
   rcases hi2 with rfl | rfl
   . simp [AUM]
     refine CLa c2 ?_;simp [w1_];refine ⟨1,by omega,by omega,?_⟩;exact WK hE (lk [])
   . simp [AUM]
     apply RZ;simp [results161]
theorem jS:Ct prog 123 [.agg (AUb.map .d)] (vi 700000) []:=by
 have c:=qn (490000000000,490000000000);rw [show LB (490000000000,490000000000)=((700000,700000),0) from ATw (v:=700000) (by omega)] at c;have w1:IntKind.wrap .i64 49000000=49000000:=by decide
 have w2:IntKind.wrap .i64 490000000000=490000000000:=by decide
 have w3:IntKind.wrap .i64 0=0:=by decide
 refine CB func123 c123 fun E hE=>?_
 simp [p123,AA,w1,w2,w3];refine CLa c ?_;simp [AA];apply RZ;simp [results123]
abbrev kyF:Value:= .agg #[.int .i64 0, .bool false]
abbrev kyT:Value:= .agg #[.int .i64 0, .bool true]
abbrev rtE (k:Value) (R:List (List D)):Value × Bool × List D:=(k,false,[.sl 2 R])
theorem AT9 {ρ:Nat->Option Nat} {v:V} {i:Nat}:WC ρ v (.yl i)=W0 ρ v (.yl i):=AF rfl
theorem AUx (l:List Gal) (lo hi sp h:Int) (hl:l.length<=1000000) (hok:Dr l=true) (hb: -1000<=lo/\lo<=hi/\hi<=1000) (hs:1<=sp/\sp<=1000) (hh: -500<=h/\h<=9000) (hw:Ct prog 23 [.d (cT l),vsp h h] (.tup [wd4 lo hi 0 0,vi 0]) []):
   Ct prog 121 [.agg chL, .agg (G6 sp h), .d (K2 l)] (.tup [.lp 0 0,vi 0]) [(0,chL++G6 sp h++[.yl 1]),(1,Qo [rtE kyF (rtR (lo+sp) (hi+sp)),rtE kyT (rtR (-hi+sp) (-lo+sp))])]:=by
 have c1:=xA;have c2:=ct sp h hs hh;have c3:=jN l hl hok;have r1:=AT1 l lo hi sp h 7000 lo hi (.inl rfl) hb (by omega) hs hw (AU8 lo hi hb);have r2:=AT1 l lo hi sp h (-7000) (-hi) (-lo) (.inr rfl) hb (by omega) hs hw (AU9 lo hi hb)
 generalize rtR (lo+sp) (hi+sp)=R1 at*
 generalize rtR (-hi+sp) (-lo+sp)=R2 at*
 have w0:IntKind.wrap .i64 0=0:=by decide
 have w2:IntKind.wrap .i64 2=2:=by decide
 have w3:IntKind.wrap .i64 3=3:=by decide
 have w5:IntKind.wrap .i64 (-500)= -500:=by decide
 have hm:max h (-500)=h:=by omega
 have hn:¬ 9000<h:=by omega
 have w7:IntKind.wrap .i64 (-7000)= -7000:=by decide
 refine CB func121 c121 fun E hE=>?_
 simp [p121];refine CLb (c1) (by first | (simp;done) | simp [Bk,CP,inC,Nat.testBit]) ?_;simp [inC,Nat.testBit];refine CLb (c2) (by first | (simp;done) | simp [Bk,CP,inC,Nat.testBit]) ?_;simp [inC,Nat.testBit];refine CLb (c3) (by first | (simp;done) | simp [Bk,CP,inC,Nat.testBit]) ?_;simp [AA];refine Al (α:=Nat) (fun i=>⟨AO [(2, .d (K2 l)),(3, .lp 0 0),(4, .lp 1 0),(20, .agg [vi 0,vi 0,vi 0]),(21,vi i)],lk [(0,chL),(1,G6 sp h)],2⟩) (fun i=>i<=3) (fun i=>3-i) 0 ?_ ?_ ?_
 . omega
 . exact WK hE (lk [(0,0),(1,1048576)])
 . intro i hi
   have hi2:i=0\/i=1\/i=2\/i=3:=by omega
   rcases hi2 with rfl | rfl | rfl | rfl
   . simp [ATp,w1_]
     refine ⟨1,by omega,by omega,?_⟩;exact WK hE (lk [(0,0),(1,1)])
   . simp [ATp,w2]
     refine ⟨2,by omega,by omega,?_⟩;exact WK hE (lk [(0,0),(1,1)])
   . simp [ATp,w3]
     refine ⟨3,by omega,by omega,?_⟩;exact WK hE (lk [(0,0),(1,1)])
   . simp [ATp,AA]
     refine Al (α:=Nat) (fun i=>⟨AO [(2, .d (K2 l)),(3, .lp 0 0),(4, .lp 1 0),(10, .lp 2 0),(34, .d ATn),(35,vi 1),(36,vi i)],lk [(0,chL),(1,G6 sp h),(2,chL++G6 sp h++[.yl 3]),(3,Qo (if i=0 then [] else [rtE kyF R1,rtE kyT R2]))],4⟩) (fun i=>i<=1) (fun i=>1-i) 0 ?_ ?_ ?_
     . omega
     . simp only [if_true]
       refine AI.mk hE (lk [(0,0),(1,1),(2,5242882),(3,3145730)]) _ _ _ ?_ ?_ ?_ ?_ ?_<;>simp [AT9]
     . intro i hi
       have hi2:i=0\/i=1:=by omega
       rcases hi2 with rfl | rfl
       . simp only [if_true]
         simp [AUL,AA,w5,hm,hn,inC,Nat.testBit];refine CLb (r1) (by simp) ?_;simp [AA,w0,w7,AA4,inC,Nat.testBit];refine CLb (r2) (by simp) ?_;simp [w1_,AA4];refine ⟨1,by omega,by omega,?_⟩;simp only [Nat.one_ne_zero,if_false];refine AI.mk hE (lk [(0,0),(1,1),(2,2),(3,3)]) _ _ _ ?_ ?_ ?_ ?_ ?_<;>simp [AT9]
       . simp only [Nat.one_ne_zero,if_false]
         simp [AUL];refine AB.by (lk [(0,2),(1,3)]) ?_;simp [results121,AT9]
abbrev AVK (sp h:Int):List V:=chL++G6 sp h++[.yl 8388609]
abbrev AVL (R1 R2:List (List D)):List V:=Qo [rtE kyF R1,rtE kyT R2]
abbrev AVB (sp h:Int) (R1 R2:List (List D)):Hp:=lk [(8388608,AVK sp h),(8388609,AVL R1 R2)]
abbrev AVR:V:= .agg [vi 0,vb false]
theorem AUr (a b:Int) (h:0<=a/\a<=b/\b<=1000000000):Ja (a,b) (0,0) (60,60)=((0,0),0):=by
 have e:∀ x:Int,0<=x->Eg x 0 60=(0,0):=fun x hx=>by
   have h:¬ x<0:=by omega
   simp [Eg,h,Da,upS]
 have o1:okS (a,b)=true:=by rw [CT];omega
 have o2:okS (0,0)=true:=by decide
 have o3:okS (60,60)=true:=by decide
 have ea:=e a (by omega);have eb:=e b (by omega);unfold Ja;simp [o1,o2,o3,HO,Lx,ea,eb,ALK,Xa,JH]
def loT (f m:Int):Int:=10*m/f
def hiT (s m:Int):Int:=(10*m+s-1)/s
theorem AVM {s f m:Int} (hs:1<=s/\s<=f/\f<=2000) (hm:0<=m/\m<=700000):0<=loT f m/\loT f m<=hiT s m/\hiT s m<=7002000:=by
 unfold loT hiT;have h1:0<=10*m/f:=Int.ediv_nonneg (by omega) (by omega);have h2:(10*m+s-1)/s<=10*m+s-1:=Int.ediv_le_self _ (by omega)
 have h3:10*m/f<=10*m/s:=by
   rw [Int.le_ediv_iff_mul_le (by omega)];have a1:10*m/f*f<=10*m:=Int.ediv_mul_le _ (by omega);have a2:10*m/f*s<=10*m/f*f:=Int.mul_le_mul_of_nonneg_left hs.2.1 h1;omega
 have h4:10*m/s<=(10*m+s-1)/s:=Int.ediv_le_ediv (by omega) (by omega);omega
theorem AVC (sp h m:Int) (R2:List (List D)):Cm prog 124 [.lp 8388608 0,AVR,vi m] (AVB sp h [] R2) [8388608,8388609] (.ret (.tup [vsp 0 0,vsp 0 0,vb false])) (AVB sp h [] R2):=by
 have c:=zW (0,0) (0,0) (60,60);rw [AUr 0 0 (by omega)] at c;refine CM 8388610 func124 AVT fun E hs hE=>?_
 simp [p124,inC,Nat.testBit,AA4];refine Al (α:=Nat) (fun _=>⟨AO [(0, .lp 8388608 0),(2,vi m),(4, .lp 8388610 0),(6, .lp 8388611 0),(7, .lp 8388612 0),(8,vb false),(18, .d (.sl 2 [])),(19,vi 0),(20,vi 0)],lk [(8388608,AVK sp h),(8388609,AVL [] R2),(8388610,[vi 0,vb false]),(8388611,[vi 0,vi 0]),(8388612,[vi 0,vi 0])],8388613⟩) (fun i=>i=0) (fun i=>1-i) 0 ?_ ?_ ?_
 . rfl
 . refine AI.mkM hs (lk [(8388608,8388608),(8388609,8388609),(8388610,8388610),(8388611,9437186),(8388612,10485762)]) _ _ _ ?_ ?_ ?_ ?_ ?_ ?_<;>simp [AT9]
 . intro i hi
   simp [SA];refine AL [(11,8388612)] (by kernel_rfl) ?_;simp [AA,inC,Nat.testBit];refine CLa c ?_;simp [AA,inC,Nat.testBit];refine AL [(10,8388611),(11,8388612)] (by kernel_rfl) ?_;simp [AA,inC,Nat.testBit,AA4];refine AB.by (lk [(8388608,8388608),(8388609,8388609)]) ?_;simp [results124,AT9]
theorem AUs (sp h m s f:Int) (R2:List (List D)) (hs:1<=s/\s<=f/\f<=2000) (hm:0<=m/\m<=700000):Cm prog 124 [.lp 8388608 0,AVR,vi m] (AVB sp h [[di s,di f]] R2) [8388608,8388609] (.ret (.tup [vsp (loT f m) (hiT s m),vsp 0 0,vb true])) (AVB sp h [[di s,di f]] R2):=by
 have hb:=AVM hs hm;have c:=zW (loT f m,hiT s m) (0,0) (60,60);rw [AUr _ _ (by omega)] at c;have w1:IntKind.wrap .i64 (10*m)=10*m:=AD (by omega) (by omega);have w2:IntKind.wrap .i64 (10*m+s)=10*m+s:=AD (by omega) (by omega);have w3:IntKind.wrap .i64 (10*m+s-1)=10*m+s-1:=AD (by omega) (by omega);have d1:(10*m).tdiv f=loT f m:=Int.tdiv_eq_ediv_of_nonneg (by omega);have d2:(10*m+s-1).tdiv s=hiT s m:=Int.tdiv_eq_ediv_of_nonneg (by omega);have w4:IntKind.wrap .i64 (loT f m)=loT f m:=AD (by omega) (by omega);have w5:IntKind.wrap .i64 (hiT s m)=hiT s m:=AD (by omega) (by omega);have n1:f≠0:=by omega
 have n2:s≠0:=by omega
 generalize loT f m=lo at*
 generalize hiT s m=hi at*
 refine CM 8388610 func124 AVT fun E hs hE=>?_
 simp [p124,inC,Nat.testBit,AA4];refine Al (α:=Nat) (fun i=>⟨AO [(0, .lp 8388608 0),(2,vi m),(4, .lp 8388610 0),(6, .lp 8388611 0),(7, .lp 8388612 0),(8,vb false),(18, .d (.sl 2 [[di s,di f]])),(19,vi 1),(20,vi i)],lk [(8388608,AVK sp h),(8388609,AVL [[di s,di f]] R2),(8388610,[vi 0,vb false]),(8388611,if i=0 then [vi 0,vi 0] else [vi lo,vi hi]),(8388612,[vi 0,vi 0])],8388613⟩) (fun i=>i<=1) (fun i=>1-i) 0 ?_ ?_ ?_
 . omega
 . refine AI.mkM hs (lk [(8388608,8388608),(8388609,8388609),(8388610,8388610),(8388611,9437186),(8388612,10485762)]) _ _ _ ?_ ?_ ?_ ?_ ?_ ?_<;>simp [AT9]
 . intro i hi
   have hi2:i=0\/i=1:=by omega
   rcases hi2 with rfl | rfl
   . simp [SA,AA,inC,Nat.testBit,w1,w2,w3,w4,w5,d1,d2,n1,n2]
     refine ⟨1,by omega,by omega,?_⟩;refine AI.mkM hs (lk [(8388608,8388608),(8388609,8388609),(8388610,8388610),(8388611,8388611),(8388612,8388612)]) _ _ _ ?_ ?_ ?_ ?_ ?_ ?_<;>simp [AT9,w1_]
   . simp [SA]
     refine AL [(11,8388612)] (by kernel_rfl) ?_;simp [AA,inC,Nat.testBit];refine CLa c ?_;simp [AA,inC,Nat.testBit];refine AL [(10,8388611),(11,8388612)] (by kernel_rfl) ?_;simp [AA,inC,Nat.testBit,AA4];refine AB.by (lk [(8388608,8388608),(8388609,8388609)]) ?_;simp [results124,AT9]
theorem AUt {f:Nat->Nat} {i:Nat}:BJ f (.yl i)= .yl (f i):=AF rfl
theorem AT2 {f:Nat->Nat} {es:List (Value × Bool × List D)}:List.map (BJ f) (Qo es)=Qo es:=by
 have h:∀ t,ren f (mq es t)=mq es t:=fun t=>by
   unfold mq;split
   . simp
   . rfl
 have e:(fun t=>ren f (mq es t))=mq es:=funext h
 show [BJ f (ACA es),_]=_
 unfold ACA;simp only [BJ,e];rfl
theorem AT3 {es:List (Value × Bool × List D)}:(Qo es=[])=False:=eq_false (by simp [Qo])
def ATu (lo hi sp m:Int):V:=if lo+sp<1 then .tup [vsp 0 0,vi 63] else .tup [vsp (loT (hi+sp) m) (hiT (lo+sp) m),vi 0]
def AUP (lo hi sp m:Int):V:=if lo+sp<1 then .tup [vsp 0 0,vsp 0 0,vi 63] else .tup [vsp (loT (hi+sp) m) (hiT (lo+sp) m),vsp 0 0,vi 0]
theorem AVD (l:List Gal) (lo hi sp h m:Int) (hl:l.length<=1000000) (hok:Dr l=true) (hb: -1000<=lo/\lo<=hi/\hi<=1000) (hs:1<=sp/\sp<=1000) (hh: -500<=h/\h<=9000) (hm:0<=m/\m<=700000) (hw:Ct prog 23 [.d (cT l),vsp h h] (.tup [wd4 lo hi 0 0,vi 0]) []):
   Ct prog 78 [.agg chL, .agg (G6 sp h), .d (K2 l),vi 0,vb false,vi m] (AUP lo hi sp m) []:=by
 have c0:=AUx l lo hi sp h hl hok hb hs hh hw;have c1:=Tw 0 0 [0] (by simp);have c2:=jS;have c3:=Tw 0 700000 [m] (by simp);rw [show rgB 0 0 [0]=true by decide] at c1;rw [show rgB 0 700000 [m]=true by simp [rgB];omega] at c3;have w0:IntKind.wrap .i64 0=0:=by decide
 generalize rtR (-hi+sp) (-lo+sp)=R2 at c0
 by_cases hz:lo+sp<1
 . have e:rtR (lo+sp) (hi+sp)=[]:=by unfold rtR;rw [if_pos hz]
   rw [e] at c0;have c4:=AVC sp h m R2;unfold AUP;rw [if_pos hz];refine CB func78 c78 fun E hE=>?_
   simp [p78];refine CLa c0 ?_;simp [AA,AM];refine CLb (c1) (by simp [AG,w0]) ?_;simp;refine CLa c2 ?_;simp [AA,AM];refine CLb (c3) (by simp [AG]) ?_;simp [AA];refine CRs c4 (by simp [AUt,AT2,AT3]) ?_;simp [AA];apply RZ;simp [results78]
 . have e:rtR (lo+sp) (hi+sp)=[[di (lo+sp),di (hi+sp)]]:=by unfold rtR;rw [if_neg hz]
   rw [e] at c0;have c4:=AUs sp h m (lo+sp) (hi+sp) R2 (by omega) hm;unfold AUP;rw [if_neg hz];refine CB func78 c78 fun E hE=>?_
   simp [p78];refine CLa c0 ?_;simp [AA,AM];refine CLb (c1) (by simp [AG,w0]) ?_;simp;refine CLa c2 ?_;simp [AA,AM];refine CLb (c3) (by simp [AG]) ?_;simp [AA];refine CRs c4 (by simp [AUt,AT2,AT3]) ?_;simp [AA];refine AL [(2,2097152),(3,3145728)] (by kernel_rfl) ?_;simp [AA,inC,Nat.testBit];apply RZ;simp [results78]
theorem ATo {H:Hp} {id:Nat} (h:H id=some [vb true,vb true]):Fi H (.ls id 0 2 1) (.d AUa):=by
 rw [CP];exact ⟨rfl,rfl,by simp,_,h,rfl⟩
theorem kL {H:Hp} {id:Nat} (h:H id=some [vi 0,vi 1,vi 7000,vi 0,vi (-500)]):Fi H (.ls id 0 1 5) (.d ATn):=by
 rw [CP];exact ⟨rfl,rfl,by simp,_,h,rfl⟩
theorem AT5 {H:Hp} {id:Nat} {l:List Gal} (h:H id=some [.d (cT l)]):Bor H (.ls id 0 1 1) (.d (K2 l)):=by
 rw [Bk];exact ⟨rfl,rfl,by simp,_,h,rfl⟩
theorem Nd (l:List Gal) (lo hi sp h m:Int) (hl:l.length<=1000000) (hok:Dr l=true) (hb: -1000<=lo/\lo<=hi/\hi<=1000) (hs:1<=sp/\sp<=1000) (hh: -500<=h/\h<=9000) (hm:0<=m/\m<=700000) (hw:Ct prog 23 [.d (cT l),vsp h h] (.tup [wd4 lo hi 0 0,vi 0]) []):
   Ct prog 26 [.d (cT l),vi sp,vi h,vi m] (ATu lo hi sp m) []:=by
 have c:=AVD l lo hi sp h m hl hok hb hs hh hm hw;unfold AUP at c;unfold ATu;by_cases hz:lo+sp<1
 . rw [if_pos hz] at c ⊢
   refine CB func26 c26 fun E hE=>?_
   simp [p26,AA,AM];refine CLb (c) (by simp [ATo,kL,AT5]) ?_;simp [AA];apply RZ;simp [results26]
 . rw [if_neg hz] at c ⊢
   refine CB func26 c26 fun E hE=>?_
   simp [p26,AA,AM];refine CLb (c) (by simp [ATo,kL,AT5]) ?_;simp [AA];apply RZ;simp [results26]
def BN:Nat->List Leg->List (Nat × Nat)
 | _,[]=>[]
 | i,x::r=>(List.range x.m.toNat).map (fun m=>(i,m))++BN (i+1) r
abbrev Evt:=Int × Int × Int × Int
def ev0:Evt:=(0,0,0,0)
def FA (k:Sky) (r:Rig) (x:Leg) (m:Nat) (s:Shp):Except (Int × Int × Int) Shp:=
 if m=0 then match Ep s x with
   | .ok t=>HK k r t x
   | .error e=> .error (e,0,0)
 else HK k r s x
def FC (i m:Nat) (e:Int × Int × Int):Int × Evt:=(e.1,if e.1=54 then (e.2.1,i,m,e.2.2) else ev0)
def Dt (k:Sky) (r:Rig) (l:List Leg):List (Nat × Nat)->Shp->Except (Int × Evt) (List Shp)
 | [],_=> .ok []
 | (i,m)::rest,s=>match l[i]? with
   | none=> .error (0,ev0)
   | some x=>match FA k r x m s with
     | .error e=> .error (FC i m e)
     | .ok n=>match Dt k r l rest n with
       | .error e=> .error e
       | .ok ns=> .ok (n::ns)
def JC (k:Sky) (r:Rig) (s:Shp) (le:Int):Int:=
 if BV k then (if CF r then (if A6 s then (if le=0 then (if Ey k r then 0 else 2) else le) else 52) else 51) else 50
def HA (k:Sky) (r:Rig) (s:Shp) (l:List Leg):Except (Int × Evt) (List Shp):=
 if JC k r s (C0 l)=0 then Dt k r l (BN 0 l) s else .error (JC k r s (C0 l),ev0)
theorem zn:∀ {l:List Leg} {i:Nat} {p:Nat × Nat},p∈BN i l->∃ x,i<=p.1/\l[p.1-i]?= some x/\(p.2:Int)<x.m
 | [],i,p,h=>by simp [BN] at h
 | y::r,i,p,h=>by
   unfold BN at h;rcases List.mem_append.1 h with h | h
   . simp only [List.mem_map,List.mem_range] at h
     obtain ⟨m,hm,rfl⟩:=h;exact ⟨y,Nat.le_refl _,by simp,by simp only;omega⟩
   . obtain ⟨x,h1,h2,h3⟩:=zn h
     refine ⟨x,by omega,?_,h3⟩;rw [show p.1-i=(p.1-(i+1))+1 by omega,List.getElem?_cons_succ];exact h2
theorem Kv:∀ {l:List Leg} {i:Nat},(∀ x∈l,BE x=true)->((BN i l).length:Int)=Cv l
 | [],i,_=>by simp [BN,Cv]
 | y::r,i,h=>by
   have h1:=AL0 (h y (by simp));have h2:=Kv (l:=r) (i:=i+1) fun x hx=>h x (by simp [hx])
   unfold Cv at h2 ⊢;unfold BN;simp only [List.length_append,List.length_map,List.length_range,List.map_cons,List.sum_cons];omega
structure Jt (p q:Plt):Prop where
 bt:q.bt=p.bt
 ih:q.ih=p.ih
 ia:q.ia=p.ia
 ph:q.ph=p.ph
 pa:q.pa=p.pa
 n:q.cs.length=p.cs.length
theorem Jt.refl (p:Plt):Jt p p:=⟨rfl,rfl,rfl,rfl,rfl,rfl⟩
theorem Jt.trans {p q r:Plt} (h:Jt p q) (g:Jt q r):Jt p r:=⟨g.bt.trans h.bt,g.ih.trans h.ih,g.ia.trans h.ia,g.ph.trans h.ph,g.pa.trans h.pa,g.n.trans h.n⟩
theorem ND {p q:Plt} (h:g7 p= .ok q):q=p:=by
 unfold g7 at h;split at h
 . exact (Except.ok.inj h).symm
 . cases h
theorem pL {p q:Plt} {a:Act} (h:doS p a= .ok q):Jt p q:=by
 unfold doS vlS mvS at h
 repeat' split at h
 all_goals first
   | (cases h;done)
   | (have e:=ND h;subst e;exact ⟨rfl,rfl,rfl,rfl,rfl,by simp [vlP]⟩)
   | (have e:=ND h;subst e;exact ⟨rfl,rfl,rfl,rfl,rfl,by simp [mvP]⟩)
   | (have e:=ND h;subst e;exact ⟨rfl,rfl,rfl,rfl,rfl,by simp [tkQ]⟩)
theorem Kw:∀ {acts:List Act} {p:Plt} {i:Nat},Ar p=true->(B7 p acts i).2.2=0->Ar (B7 p acts i).1=true/\Jt p (B7 p acts i).1
 | [],p,i,h,_=>⟨h,Jt.refl p⟩
 | a::r,p,i,h,he=>by
   unfold B7 at he ⊢;cases hd:doS p a with
   | ok q=>
     rw [hd] at he;simp only at he ⊢;have:=Kw (Zn hd) he;exact ⟨this.1,(pL hd).trans this.2⟩
   | error e=>
     rw [hd] at he;exact absurd he (Tb hd)
theorem NE {s t:Shp} {x:Leg}:Ep s x= .ok t↔((B7 s.gas x.acts 0).2.2=0/\x.dr<=s.bal/\s.drp+x.dr<=1000000000000)/\t={s with gas:=(B7 s.gas x.acts 0).1,bal:=s.bal-x.dr,drp:=s.drp+x.dr}:=by
 unfold Ep;constructor
 . intro h
   split at h
   . rename_i h1
     split at h
     . cases h
     split at h
     . cases h
     rename_i h2 h3;exact ⟨⟨h1,by omega,by omega⟩,(Except.ok.inj h).symm⟩
   . cases h
 . rintro ⟨⟨h1,h2,h3⟩,rfl⟩
   rw [if_pos h1,if_neg (by omega),if_neg (by omega)]
theorem ZC {s t:Shp} {x:Leg} (hs:A6 s=true) (hx:BE x=true) (h:Ep s x= .ok t):A6 t=true:=by
 obtain ⟨⟨h1,h2,h3⟩,rfl⟩:=NE.1 h;have hb:=GT hs;have hX:=AAb hs;have q:=Kz hx;have hp:=(Kw (CR hs) h1).1;have b1:=hb.b;have p1:=hX.p;exact KH ⟨hb.h,hb.f,hb.w,hb.d,by simp only;omega,CS hp,Dx hp⟩ ⟨hX.x,hX.y,hX.b,by simp only;omega⟩ hp
structure Va (k:Sky) (r:Rig):Prop where
 sky:BV k=true
 rig:P5 r
 rng:Ey k r=true
theorem Ib {k:Sky} {r:Rig} {x:Leg} {m:Nat} {s n:Shp}:FA k r x m s= .ok n↔∃ t,(if m=0 then Ep s x= .ok t else t=s)/\KI k r t x/\n=Cj k r t x:=by
 unfold FA;by_cases hm:m=0
 . rw [if_pos hm]
   constructor
   . intro h
     cases hb:Ep s x with
     | ok t=>rw [hb] at h;exact ⟨t,by rw [if_pos hm],H2.1 h⟩
     | error e=>rw [hb] at h;cases h
   . rintro ⟨t,h1,h2⟩
     rw [if_pos hm] at h1;rw [h1];exact H2.2 h2
 . rw [if_neg hm]
   constructor
   . intro h
     exact ⟨s,by rw [if_neg hm],H2.1 h⟩
   . rintro ⟨t,h1,h2⟩
     rw [if_neg hm] at h1;subst h1;exact H2.2 h2
theorem Ow {x:Leg} {m:Nat} {s t:Shp} (hs:A6 s=true) (hx:BE x=true) (h:if m=0 then Ep s x= .ok t else t=s):A6 t=true:=by
 by_cases hm:m=0
 . rw [if_pos hm] at h;exact ZC hs hx h
 . rw [if_neg hm] at h;subst h;exact hs
theorem Q7 {k:Sky} {r:Rig} (hT:Va k r) {x:Leg} {m:Nat} {s n:Shp} (hs:A6 s=true) (hx:BE x=true) (h:FA k r x m s= .ok n):A6 n=true:=by
 obtain ⟨t,h1,h2,rfl⟩:=Ib.1 h;exact je hT.rig (Ow hs hx h1) (Mf hx) h2
theorem dI.refl (s:Shp):dI s s:=by
 refine ⟨?_,?_,?_,?_,?_,?_,rfl,rfl,rfl,rfl⟩<;>exact ⟨Int.le_refl _,Int.le_refl _⟩
theorem Wid.refl (r:Rig):Wid r r:=⟨rfl,rfl,rfl,rfl,Int.le_refl _,Int.le_refl _,Int.le_refl _⟩
def fR:List Shp->List Shp->Prop
 | [],[]=>True
 | a::r,b::q=>dI a b/\fR r q
 | _,_=>False
theorem fR.at:∀ {a b:List Shp},fR a b->a.length=b.length/\∀ (i:Nat) (x y:Shp),a[i]?= some x->b[i]?= some y->dI x y
 | [],[],_=>⟨rfl,fun i x y h=>by simp at h⟩
 | a::r,b::q,h=>by
   obtain ⟨h1,h2⟩:=fR.at h.2;refine ⟨by simp [h1],fun i x y hx hy=>?_⟩;cases i with
   | zero=>simp at hx hy;subst hx hy;exact h.1
   | succ i=>exact h2 i x y (by simpa using hx) (by simpa using hy)
 | [],_::_,h=>h.elim
 | _::_,[],h=>h.elim
section
variable {k:Sky} {r:Rig} {l:List Leg}
theorem F5 {i m:Nat} {rest:List (Nat × Nat)} {s:Shp} {ns:List Shp}:Dt k r l ((i,m)::rest) s= .ok ns↔∃ x n q,l[i]?= some x/\FA k r x m s= .ok n/\Dt k r l rest n= .ok q/\ns=n::q:=by
 conv=>lhs;unfold Dt
 constructor
 . intro h
   split at h
   . cases h
   rename_i x hx;split at h
   . cases h
   rename_i n hn;split at h
   . cases h
   rename_i q hq;exact ⟨x,n,q,hx,hn,hq,(Except.ok.inj h).symm⟩
 . rintro ⟨x,n,q,hx,hn,hq,rfl⟩
   rw [hx];simp only;rw [hn];simp only;rw [hq]
theorem TN {s:Shp} {x:Leg} {e:Int × Int × Int} (h:HK k r s x= .error e):¬ e.1=0:=by
 unfold HK at h;split at h
 . split at h
   . cases h;decide
   . cases h
 . cases h;simp
theorem TP {s:Shp} {x:Leg} {e:Int} (h:Ep s x= .error e):¬ e=0:=by
 unfold Ep at h;split at h
 . split at h
   . cases h;decide
   split at h
   . cases h;decide
   . cases h
 . rename_i h1;cases h;exact h1
theorem fU {s:Shp} {x:Leg} {m:Nat} {e:Int × Int × Int} (h:FA k r x m s= .error e):¬ e.1=0:=by
 unfold FA at h;split at h
 . split at h
   . exact TN h
   . rename_i e' he;cases h;exact TP he
 . exact TN h
theorem NF:∀ {im:List (Nat × Nat)} {s:Shp} {e:Int × Evt},(∀ p∈im,∃ x,l[p.1]?= some x)->Dt k r l im s= .error e->¬ e.1=0/\((e.1=54/\¬ e.2.1=0/\∃ p∈im,e.2.2.1=p.1/\e.2.2.2.1=p.2)\/(¬ e.1=54/\e.2=ev0))
 | [],s,e,_,h=>by cases h
 | (i,m)::rest,s,e,hm,h=>by
   unfold Dt at h;obtain ⟨x,hx⟩:=hm (i,m) (by simp);rw [hx] at h;simp only at h;split at h
   . rename_i e' he
     cases h;have h1:=fU he;refine ⟨h1,?_⟩;unfold FC;simp only;by_cases h5:e'.1=54
     . refine .inl ⟨h5,?_,(i,m),by simp,?_,?_⟩
       . rw [if_pos h5]
         have key:∀ t:Shp,HK k r t x= .error e'->¬ e'.2.1=0:=fun t ht=>by
           unfold HK at ht;split at ht
           . split at ht
             . cases ht;simp at h5
             . cases ht
           . rename_i hz;cases ht;exact hz
         have hbeg:∀ t:Shp,∀ e:Int,Ep t x= .error e->¬ e=54:=fun t e ht=>by
           have pe:∀ {acts:List Act} {p:Plt} {i:Nat},¬ (B7 p acts i).2.2=54:=by
             intro acts;induction acts with
             | nil=>intro p i;simp [B7]
             | cons a rr ih=>
               intro p i;unfold B7;cases hd:doS p a with
               | ok q=>exact ih
               | error e=>
                 show ¬ e=54
                 unfold doS vlS mvS at hd
                 repeat' split at hd
                 all_goals first | (have:=K8 hd;omega) | (cases hd;omega)
           unfold Ep at ht;split at ht
           . split at ht
             . cases ht;decide
             split at ht
             . cases ht;decide
             . cases ht
           . cases ht;exact pe
         unfold FA at he;split at he
         . split at he
           . exact key _ he
           . rename_i e2 he2;cases he;exact absurd h5 (hbeg _ _ he2)
         . exact key _ he
       . rw [if_pos h5]
       . rw [if_pos h5]
     . exact .inr ⟨h5,by rw [if_neg h5]⟩
   . rename_i n hn
     split at h
     . rename_i e' he
       cases h;obtain ⟨h1,h2⟩:=NF (fun p hp=>hm p (by simp [hp])) he;refine ⟨h1,?_⟩;rcases h2 with ⟨h2,h3,p,hp,h4⟩ | h2
       . exact .inl ⟨h2,h3,p,by simp [hp],h4⟩
       . exact .inr h2
     . cases h
structure JD (r:Rig) (s t:Shp) (n:Nat):Prop where
 drop:t.bal+t.drp=s.bal+s.drp
 lo:t.fl+t.bh=s.fl+s.bh
 hi:t.fh+t.bl=s.fh+s.bl
 dry:t.dry=s.dry
 gas:Jt s.gas t.gas
 burn:s.bh<=t.bh
 water:100*(t.wh-s.wh)<=(t.bh-s.bh)*r.gh+99*n
theorem JD.refl (r:Rig) (s:Shp):JD r s s 0:=⟨rfl,rfl,rfl,rfl,Jt.refl _,Int.le_refl _,by simp⟩
theorem JD.trans {r:Rig} {s t u:Shp} {n m:Nat} (h:JD r s t n) (g:JD r t u m):JD r s u (n+m):=by
 obtain ⟨a1,a2,a3,a4,a5,a6,a7⟩:=h;obtain ⟨b1,b2,b3,b4,b5,b6,b7⟩:=g;refine ⟨by omega,by omega,by omega,by omega,a5.trans b5,by omega,?_⟩;have e:(u.bh-s.bh)*r.gh=(u.bh-t.bh)*r.gh+(t.bh-s.bh)*r.gh:=by rw [<-Int.add_mul];congr 1;omega
 omega
end
end Go.Proofs.Tryz
namespace Go.Air
structure LvN (a b:Lev):Prop where
 h:a.h=b.h
 pl:b.pl<=a.pl
 ph:a.ph<=b.ph
 tl:b.tl<=a.tl
 th:a.th<=b.th
def LsN:List Lev->List Lev->Prop
 | [],[]=>True
 | a::r,b::s=>LvN a b/\LsN r s
 | _,_=>False
def PrN:List Lev->List Lev->Prop
 | [],[]=>True
 | a::r,b::s=>(a.h=b.h/\b.pl<=a.pl/\a.ph<=b.ph)/\PrN r s
 | _,_=>False
theorem PrN.le:∀ {l m k:List Lev},LeL m l->PrN m k->PrN l k
 | [],[],[],_,_=>trivial
 | _::_,_::_,_::_,h,p=>⟨⟨h.1.s.1.symm.trans p.1.1,Int.le_trans p.1.2.1 h.1.lo,Int.le_trans h.1.hi p.1.2.2⟩,PrN.le h.2 p.2⟩
 | _::_,[],_,h,_=>h.elim
 | [],_::_,_,h,_=>h.elim
 | [],[],_::_,_,p=>p.elim
 | _::_,_::_,[],_,p=>p.elim
theorem LsN.at:∀ {l m:List Lev},LsN l m->l.length=m.length/\∀ (i:Nat) (a b:Lev),l[i]?= some a->m[i]?= some b->LvN a b
 | [],[],_=>⟨rfl,fun i a b h=>by simp at h⟩
 | x::r,y::s,h=>by
   obtain ⟨h1,h2⟩:=LsN.at h.2;refine ⟨by simp [h1],fun i a b ha hb=>?_⟩;cases i with
   | zero=>simp at ha hb;subst ha hb;exact h.1
   | succ i=>exact h2 i a b (by simpa using ha) (by simpa using hb)
 | [],_::_,h=>h.elim
 | _::_,[],h=>h.elim
end Go.Air
namespace Go.Proofs.Tryz
open Go.Psl
open Go.Air
structure GlN (a b:Gal):Prop where
 h:a.h=b.h
 g:a.g=b.g
 x:WB (a.xl,a.xh) (b.xl,b.xh)
 y:WB (a.yl,a.yh) (b.yl,b.yh)
def GsN:List Gal->List Gal->Prop
 | [],[]=>True
 | a::r,b::s=>GlN a b/\GsN r s
 | _,_=>False
theorem GsN.take:∀ {l m:List Gal} (n:Nat),GsN l m->GsN (l.take n) (m.take n)
 | [],[],_,_=>by simp [GsN]
 | _::_,_::_,0,_=>trivial
 | _::_,_::_,n+1,h=>⟨h.1,GsN.take n h.2⟩
 | [],_::_,_,h=>h.elim
 | _::_,[],_,h=>h.elim
theorem GsN.drop:∀ {l m:List Gal} (n:Nat),GsN l m->GsN (l.drop n) (m.drop n)
 | [],[],_,_=>by simp [GsN]
 | _::_,_::_,0,h=>h
 | _::_,_::_,n+1,h=>GsN.drop n h.2
 | [],_::_,_,h=>h.elim
 | _::_,[],_,h=>h.elim
theorem GsN.at:∀ {l m:List Gal},GsN l m->l.length=m.length/\∀ (i:Nat) (a b:Gal),l[i]?= some a->m[i]?= some b->GlN a b
 | [],[],_=>⟨rfl,fun i a b h=>by simp at h⟩
 | x::r,y::s,h=>by
   obtain ⟨h1,h2⟩:=GsN.at h.2;refine ⟨by simp [h1],fun i a b ha hb=>?_⟩;cases i with
   | zero=>simp at ha hb;subst ha hb;exact h.1
   | succ i=>exact h2 i a b (by simpa using ha) (by simpa using hb)
 | [],_::_,h=>h.elim
 | _::_,[],h=>h.elim
theorem dI.trans {a b c:Shp} (h:dI a b) (g:dI b c):dI a c:=by
 have t:∀ {p q r:Int × Int},WB p q->WB q r->WB p r:=fun h g=>⟨Int.le_trans g.1 h.1,Int.le_trans h.2 g.2⟩
 exact ⟨t h.x g.x,t h.y g.y,t h.h g.h,t h.f g.f,t h.w g.w,t h.b g.b,h.dry.trans g.dry,h.bal.trans g.bal,h.drp.trans g.drp,h.gas.trans g.gas⟩
end Go.Proofs.Tryz
namespace Go.Proofs.Tryz
open Go.Psl
open Go.Air
def plReg:List (Int × Int):=[(0,0),(1000,0)]
def plR (lo hi:Int):Rig:=⟨plReg,0,0,0,0,lo,hi⟩
theorem AP3:Fb plReg=plReg:=by
 rw [bf (m:=[(0,0),(1000,0)]) (by decide+kernel) (by decide+kernel)];decide+kernel
theorem APB:C7 plReg=true:=by
 unfold C7;rw [AP3];decide+kernel
theorem ASb {lo hi:Int} (h: -500<=lo/\lo<=hi/\hi<=9000):CF (plR lo hi)=true:=by
 unfold CF;rw [show (plR lo hi).reg=plReg from rfl,APB];simp only [Bool.and_eq_true,CC,plR];simp [rgB];omega
def nuP:Plt:=⟨[],0,0,0,0,0,0,0,0,0⟩
def nuS (xl xh h:Int):Shp:=⟨xl,xh,0,0,h,h,0,0,0,0,0,0,0,0,0,nuP⟩
def nuL (m v:Int):Leg:=⟨m,v,v,0,0,0,0,0,0,0,[]⟩
theorem AN4 (s h:Int × Int) (hh:(okC (s.1,h.1)&&Lj plReg (s.1,h.1))&&(okC (s.1,h.2)&&Lj plReg (s.1,h.2))&&(okC (s.2,h.1)&&Lj plReg (s.2,h.1))&&(okC (s.2,h.2)&&Lj plReg (s.2,h.2))=true):Il plReg s h=true:=by
 unfold Il inV;rw [APB];simpa using hh
def calmS:List Lev:=[⟨-500,1000,12000,2500,2500⟩,⟨1500,1000,12000,2500,2500⟩,⟨3500,1000,12000,2500,2500⟩,⟨5500,1000,12000,2500,2500⟩,⟨7500,1000,12000,2500,2500⟩,⟨9000,1000,12000,2500,2500⟩]
def G7 (l:List Gal):Sky:=⟨calmS,l⟩
theorem AUy:(D3 calmS).2.2=0:=by decide+kernel
theorem AVF {l:List Gal} (h:Dr l=true):BV (G7 l)=true:=by
 unfold BV;have e:(G7 l).s=calmS:=rfl;have e2:(G7 l).w=l:=rfl;rw [e,e2,AUy,h];rfl
def AVI (l:List Gal):Prop:=∀ x∈l,x.yl=0/\x.yh=0/\x.g=0
def eastG (x:Gal):Gal:=⟨x.h,x.xl,x.xh,0,0,0⟩
theorem AUz (l:List Gal):AVI (l.map eastG):=fun x hx=>by
 obtain ⟨y,_,rfl⟩:=List.mem_map.1 hx;exact ⟨rfl,rfl,rfl⟩
theorem AVG {l:List Gal} (h:Dr l=true):Dr (l.map eastG)=true:=by
 unfold Dr at h ⊢;rw [List.length_map];simp only [Bool.and_eq_true,List.all_eq_true] at h ⊢;refine ⟨h.1,fun i hi=>?_⟩;have:=h.2 i hi;unfold AAU at this ⊢;rw [List.getElem?_map,List.getElem?_map];cases hx:l[i]? with
 | none=>rfl
 | some x=>
   rw [hx] at this;cases hy:l[i-1]? with
   | none=>
     rw [hy] at this;simp only [Option.map_some,Option.map_none,eastG,Bool.and_eq_true] at this ⊢;exact ⟨⟨⟨this.1.1.1,by decide⟩,this.1.2⟩,by decide⟩
   | some y=>
     rw [hy] at this;simp only [Option.map_some,eastG,Bool.and_eq_true] at this ⊢;exact ⟨⟨⟨this.1.1.1,by decide⟩,this.1.2⟩,by decide⟩
theorem AU0 {l:List Gal} (hw:Dr l=true) (he:AVI l) (h:Int):(-1000<=(Jr l (h,h)).1/\(Jr l (h,h)).1<=(Jr l (h,h)).2/\(Jr l (h,h)).2<=1000)/\Js l (h,h)=(0,0):=by
 have hO:=L0 hw
 have hg:rO l (h,h)=0:=by
   have h1:=AUF hO (h,h)
   have h2:rO l (h,h)<=0:=Mx.2 ⟨by omega,fun x hx=>by
     obtain ⟨i,_,hx⟩:=AMt.1 hx;have:=he x (List.mem_of_getElem? hx);omega⟩
   omega
 have x:=Mz hO (pk:=HG) (fun x hx=>hO.x x hx) (h:=(h,h)) (Int.le_refl _);have hl:=hO.len
 have y:0<=(Fg northW l (h,h)).1/\(Fg northW l (h,h)).1<=(Fg northW l (h,h)).2/\(Fg northW l (h,h)).2<=0:=by
   have hp:∀ x∈l,0<=(northW x).1/\(northW x).1<=(northW x).2/\(northW x).2<=0:=fun x hx=>by
     have:=he x hx;unfold northW;simp only;omega
   have hB:PkB l northW:=fun x hx=>hO.y x hx
   by_cases h2:2<=l.length
   . rw [kP hO hB h2 (Int.le_refl _)]
     have hk:∀ k∈Dd northW l,0<=k.2.1/\k.2.1<=k.2.2/\k.2.2<=0:=fun k hk=>by
       unfold Dd at hk;obtain ⟨x,hx,rfl⟩:=List.mem_map.1 hk;exact hp x hx
     have n1:=Sn (AG4 hO hB h2) (My hO h) hk;exact QE (l:=Dd northW l) (x:=(EA l h,EA l h)) n1 n1 hk _ (Nat.le_refl _)
   . obtain ⟨z,rfl⟩:∃ x,l=[x]:=List.length_eq_one_iff.1 (by omega)
     exact hp z (by simp)
 unfold Jr Js;rw [hg];refine ⟨by simp only;omega,?_⟩;rw [Prod.mk.injEq];omega
theorem AVN {v:Int} (hv:0<=v/\v<=1000):(okC (v,0)&&Lj plReg (v,0))=true:=by
 have h1:okC (v,0)=true:=by rw [NH];unfold bd;simp only;omega
 rw [h1];simp [Lj,plReg,ZU,Go.Geo.cyc,Go.Geo.steps,Go.Geo.cross,ZV];omega
theorem AVO {n v:Int} (hv:0<=v/\v<=1000):N1 (nuL n v)=(v,v):=by
 unfold N1 Nz
 have e1:sqN v v+sqN 0 0=v*v:=by
   unfold sqN;rw [show max (max 0 v) (-v)=v by omega];simp
 have e2:sqF v v+sqF 0 0=v*v:=by
   unfold sqF;rw [show max (-v) v=v by omega];simp
 show (LB (sqN v v+sqN 0 0,sqF v v+sqF 0 0)).1=_
 rw [e1,e2,ATw (by omega)]
theorem AVH {lo hi n v:Int}:DY (plR lo hi) (nuL n v)=(0,0):=by
 show (Ja (0,0) (0,0) (100,100)).1=_
 decide+kernel
theorem ATq {l:List Gal} {n v h xl xh a b:Int} (hx:Jr l (h,h)=(a,b)) (hy:Js l (h,h)=(0,0)):Cj (G7 l) (plR (-500) 9000) (nuS xl xh h) (nuL n v)=nuS (xl+6*(v+a)) (xh+6*(v+b)) h:=by
 have hm:mhS (nuS xl xh h) (nuL n v)=(h,h):=by
   show (min h (h+0),max h (h+0))=_
   rw [Prod.mk.injEq];omega
 unfold Cj;rw [hm,show (G7 l).w=l from rfl,hx,hy,AVH];simp only [nuS,nuL,Int.add_zero];rfl
theorem AU1 {l:List Gal} {n v h xl xh a b:Int} (hx:Jr l (h,h)=(a,b)) (hy:Js l (h,h)=(0,0)) (hv:0<=v/\v<=1000) (hh: -500<=h/\h<=9000) (hb:xl+6*(v+a)<=xh+6*(v+b)/\ -10000000<=xl+6*(v+a)/\xh+6*(v+b)<=10000000):KI (G7 l) (plR (-500) 9000) (nuS xl xh h) (nuL n v):=by
 have hm:mhS (nuS xl xh h) (nuL n v)=(h,h):=by
   show (min h (h+0),max h (h+0))=_
   rw [Prod.mk.injEq];omega
 refine ⟨?_,?_,?_,?_,?_,?_,?_⟩
 . rw [hm];exact hh.1
 . rw [hm];exact hh.2
 . intro c hc;cases hc
 . show (0:Int)<=0-0;omega
 . rw [ATq hx hy,AVO hv]
   refine AN4 _ _ ?_;have e:hvS (KG (nuS xl xh h) (nuS (xl+6*(v+a)) (xh+6*(v+b)) h)) (atA (G7 l).s (mhS (nuS xl xh h) (nuL n v)).1 (mhS (nuS xl xh h) (nuL n v)).2).1=(0,0):=rfl;rw [e];simp [AVN hv]
 . rw [ATq hx hy]
   unfold UC;rw [Bool.and_eq_true,CC];refine ⟨by simp only [nuS];omega,?_⟩
   show spB (-10000000) 10000000 0 0=true
   decide
 . show (0:Int)+0<=_;omega
theorem AVP {n v xl xh h:Int}:Ep (nuS xl xh h) (nuL n v)= .ok (nuS xl xh h):=by
 have e:B7 nuP [] 0=(nuP,0,0):=by kernel_rfl
 refine NE.2 ⟨⟨?_,?_,?_⟩,?_⟩
 . show (B7 nuP [] 0).2.2=0;rw [e]
 . show (0:Int)<=0;omega
 . show (0:Int)+0<=_;omega
 . show _={nuS xl xh h with gas:=(B7 nuP [] 0).1,bal:=0-0,drp:=0+0}
   rw [e];rfl
def ATm (v a b h:Int) (m:Nat):Shp:=nuS (6*(m:Int)*(v+a)) (6*(m:Int)*(v+b)) h
def Ui (v a b h:Int) (j k:Nat):List Shp:=(List.range' j k).map fun m=>ATm v a b h (m+1)
theorem AUQ {v c:Int} {m:Nat} (hv:0<=v/\v<=1000) (hc: -1000<=c/\c<=1000) (hm:m<=50): -600000<=6*(m:Int)*(v+c)/\6*(m:Int)*(v+c)<=600000:=by
 have h1:(m:Int)*(v+c)<=50*2000:=by
   by_cases h:0<=v+c
   . exact Int.mul_le_mul (by omega) (by omega) h (by omega)
   . have:=Int.mul_nonneg (show 0<=(m:Int) by omega) (show 0<= -(v+c) by omega)
     rw [Int.mul_neg] at this;omega
 have h2:(m:Int)* -(v+c)<=50*2000:=by
   by_cases h:0<= -(v+c)
   . exact Int.mul_le_mul (by omega) (by omega) h (by omega)
   . have:=Int.mul_nonneg (show 0<=(m:Int) by omega) (show 0<=v+c by omega)
     rw [Int.mul_neg];omega
 rw [Int.mul_neg] at h2;rw [Int.mul_assoc];omega
theorem AUR {l:List Gal} {v h a b:Int} {n:Nat} (hn:n<=50) (hx:Jr l (h,h)=(a,b)) (hy:Js l (h,h)=(0,0)) (hv:0<=v/\v<=1000) (hh: -500<=h/\h<=9000) (hab: -1000<=a/\a<=b/\b<=1000):∀ (k j:Nat),j+k<=n->Dt (G7 l) (plR (-500) 9000) [nuL n v] ((List.range' j k).map fun m=>(0,m)) (ATm v a b h j)= .ok (Ui v a b h j k)
 | 0,_,_=>rfl
 | k+1,j,hj=>by
   have e1:6*(j:Int)*(v+a)+6*(v+a)=6*((j+1:Nat):Int)*(v+a):=by rw [Int.natCast_add];grind
   have e2:6*(j:Int)*(v+b)+6*(v+b)=6*((j+1:Nat):Int)*(v+b):=by rw [Int.natCast_add];grind
   have b1:=AUQ (v:=v) (c:=a) (m:=j+1) hv (by omega) (by omega);have b2:=AUQ (v:=v) (c:=b) (m:=j+1) hv (by omega) (by omega);have b3:6*((j+1:Nat):Int)*(v+a)<=6*((j+1:Nat):Int)*(v+b):=Int.mul_le_mul_of_nonneg_left (by omega) (by omega);have nx:=ATq (l:=l) (n:=n) (v:=v) (h:=h) (xl:=6*(j:Int)*(v+a)) (xh:=6*(j:Int)*(v+b)) hx hy;rw [e1,e2] at nx;rw [List.range'_succ];refine F5.2 ⟨nuL n v,ATm v a b h (j+1),Ui v a b h (j+1) k,rfl,Ib.2 ⟨ATm v a b h j,?_,AU1 hx hy hv hh (by rw [e1,e2];omega),nx.symm⟩,AUR hn hx hy hv hh hab k (j+1) (by omega),?_⟩
   . split
     . exact AVP
     . rfl
   . unfold Ui
     rw [List.range'_succ];rfl
theorem AU2 {l:List Gal} {v h a b:Int} {n:Nat} (hl:Dr l=true) (hn:1<=n/\n<=50) (hx:Jr l (h,h)=(a,b)) (hy:Js l (h,h)=(0,0)) (hv:0<=v/\v<=1000) (hh: -500<=h/\h<=9000) (hab: -1000<=a/\a<=b/\b<=1000):HA (G7 l) (plR (-500) 9000) (nuS 0 0 h) [nuL n v]= .ok (Ui v a b h 0 n):=by
 have hr:Ey (G7 l) (plR (-500) 9000)=true:=by
   show Ey ⟨calmS,l⟩ (plR (-500) 9000)=true
   unfold Ey
   show (decide ((-500:Int)<= -500)&&decide ((9000:Int)<=9000))=true
   decide
 have hs:A6 (nuS 0 0 h)=true:=by
   unfold A6
   have g:Ar (nuS 0 0 h).gas=true:=by
     show Ar nuP=true
     decide+kernel
   rw [g];simp only [Bool.and_eq_true,CC,nuS];simp [rgB];omega
 have hc:C0 [nuL n v]=0:=by
   have h1:BE (nuL n v)=true:=by
     unfold BE;simp only [Bool.and_eq_true,CC,nuL];simp [rgB];omega
   unfold C0;rw [if_neg (by simp),if_pos (by simp [h1]),if_neg]
   show ¬ 600<(n:Int)+0
   omega
 have h0:JC (G7 l) (plR (-500) 9000) (nuS 0 0 h) (C0 [nuL n v])=0:=by
   unfold JC;rw [AVF hl,ASb (by omega),hs,hc,hr];rfl
 have e:BN 0 [nuL n v]=(List.range' 0 n).map fun m=>(0,m):=by
   show (List.range (n:Int).toNat).map (fun m=>(0,m))++[]=_
   rw [List.append_nil,Int.toNat_natCast,List.range_eq_range']
 have g:=AUR (n:=n) hn.2 hx hy hv hh hab n 0 (by omega);unfold HA;rw [if_pos h0,e]
 have e0:ATm v a b h 0=nuS 0 0 h:=by
   unfold ATm;simp
 rw [e0] at g;exact g
theorem AUY {v a b h:Int} {n:Nat}:(Ui v a b h 0 n).length=n:=by simp [Ui]
theorem AUN {v a b h:Int} {n:Nat} (hn:1<=n):(Ui v a b h 0 n)[n-1]?= some (ATm v a b h n):=by
 unfold Ui;rw [List.getElem?_map,List.getElem?_range' (by omega)];simp;congr 1;omega
theorem ASm (l:List Gal) (h:Int × Int) (g:FuncId) (pk:Gal->Int × Int) (hg:∀ x∈l,Ct prog g [wdV x] (vsp (pk x).1 (pk x).2) []) (hw:OkW l) (hp:PkB l pk):Ct prog 74 [.d (cT l),vsp h.1 h.2, .d (.fn g [])] (vsp (Fg pk l h).1 (Fg pk l h).2) []:=by
 have hl:=hw.len;obtain ⟨fa,hfa⟩:∃ x,l[0]?= some x:=⟨_,List.getElem?_eq_getElem (by omega)⟩
 obtain ⟨la,hla⟩:∃ x,l[l.length-1]?= some x:=⟨_,List.getElem?_eq_getElem (by omega)⟩
 have kfa:(Dd pk l)[0]?= some (fa.h,pk fa):=by rw [EG,hfa];rfl
 have kla:(Dd pk l)[l.length-1]?= some (la.h,pk la):=by rw [EG,hla];rfl
 have kln:=IH (pk:=pk) (w:=l);refine CB func74 c74 fun E hE=>?_
 simp [p74];refine Al (α:=Nat) (fun i=>⟨AO [(0, .d (cT l)),(2, .d (.fn g [])),(4, .lp 0 0),(6, .lp 1 0),(7,hdF 3 (K6 pk l i) 2),(15, .d (cT l)),(16,vi l.length),(17,vi i)],lk ([(0,[vi h.1,vi h.2]),(1,[vi 0,vi 0])]++ouF knL (K6 pk l i) 2),3⟩) (fun i=>i<=l.length) (fun i=>l.length-i) 0 ?_ ?_ ?_
 . omega
 . rw [show K6 pk l 0=[] from rfl,Aq,Au]
   exact WK hE (lk [(0,0),(1,1048576)])
 . intro i hi
   by_cases hil:i<l.length
   . obtain ⟨x,hx⟩:=gE hil
     have hz:=@wz i (by omega);have hI:(i:Int)<l.length:=by omega
     have hnx:=Vl (pk:=pk) hx;have hO:(K6 pk l i).length<=1000000:=by unfold K6;simp;omega
     have cg:=hg x (List.mem_of_getElem? hx);obtain ⟨O,hOe⟩:∃ O,K6 pk l i=O:=⟨_,rfl⟩
     rw [hOe] at hnx hO ⊢;by_cases hne:O=[]
     . subst hne
       rw [Aq,Au];simp [wU,hI,hx,AA,inC,Nat.testBit];refine CLa cg ?_;simp [AA,AM,hz];refine ⟨i+1,by omega,by omega,?_⟩;rw [hnx,Ak (by simp),AZ (by simp)];refine AI.mk hE (lk [(0,0),(1,1),(2,14680067)]) _ _ _ ?_ ?_ ?_ ?_ ?_<;>simp [AH]
     . have hsl:=Aw hfk O
       have hwh:=E9 hfk O;have n1:(O.length+1)*24<=140737488355328:=by omega
       have n2:O.length+1<=9223372036854775807:=by omega
       rw [Ak hne,AZ hne];simp [wU,hI,hx,AA,inC,Nat.testBit];refine CLa cg ?_;simp [AA,AM,hz,hsl,hwh,n1,n2];refine ⟨i+1,by omega,by omega,?_⟩;rw [hnx,Ak (by simp),AZ (by simp),IV];exact WK hE (lk [(0,0),(1,1),(2,14680067)])
   . have e:i=l.length:=by omega
     have hn:¬ (i:Int)<l.length:=by omega
     have ek:K6 pk l i=Dd pk l:=by unfold K6 Dd;rw [e,List.take_length]
     have ene:Dd pk l≠[]:=by intro h0;rw [h0] at kln;simp at kln;omega
     obtain ⟨K,hK⟩:∃ K,Dd pk l=K:=⟨_,rfl⟩
     rw [hK] at kfa kla kln ek ene;have hsl:=Aw hfk K;have w1:IntKind.wrap .i64 ((l.length:Int)-1)=((l.length-1:Nat):Int):=by rw [AD (by omega) (by omega)];omega
     have hI0:0<l.length:=by omega
     have hI2:l.length-1<l.length:=by omega
     have hI1:((l.length-1:Nat):Int)<l.length:=by omega
     have s0:(l.length-1)*3+3<=l.length*3:=by omega
     have s1:3<=l.length*3:=by omega
     have t0:List.take 3 (AH knL K)=(knL (fa.h,pk fa)).map .d:=by
       have:=Bg hfk (j:=0) (k:=3) kfa (by omega);simpa using this
     have t1:List.take 3 (List.drop ((l.length-1)*3) (AH knL K))=(knL (la.h,pk la)).map .d:=by
       have:=Bg hfk (j:=0) (k:=3) kla (by omega);simpa using this
     rw [ek,Ak ene,AZ ene,kln];simp [wU,hn];refine AL [(11,10485763),(12,11534339)] (by kernel_rfl) ?_;simp [AA,inC,Nat.testBit,kln,hsl,w1,hI0,hI1,s0,s1,t0,t1];by_cases h2:2<=l.length
     . have hlt:¬ fa.h=la.h:=by
         obtain ⟨y,hy⟩:∃ y,l[1]?= some y:=⟨_,List.getElem?_eq_getElem (by omega)⟩
         have:=hw.step 0 fa y hfa hy;have:=RE hw (by omega:1<=l.length-1) hy hla;omega
       have c1:=Iu h.1 (fa.h,pk fa) (la.h,pk la);have c2:=Iu h.2 (fa.h,pk fa) (la.h,pk la);have e1:∀ z,min (max z fa.h) la.h=EA l z:=fun z=>by unfold EA;rw [hfa,hla]
       simp only [e1] at c1 c2;have c3:=ABQ K (EA l h.1,EA l h.2) (by omega)
       have e3:(Jy K (EA l h.1,EA l h.2)).1=Fg pk l h:=by
         rw [<-hK]
         match l,h2 with
         | a::b::r,_=>rfl
       unfold vse at c3;rw [e3] at c3
       have hb:∀ H:Hp,H 2=some (AH knL K)->Bor H (.ls 2 0 l.length 3) (.d (DA K)):=fun H hH=>by
         have:=B0 (H:=H) (id:=2) hfk (l:=K) hH;rw [kln] at this;exact this
       simp [hlt];refine AL [(15,34603011)] (by kernel_rfl) ?_;simp [inC,Nat.testBit];refine CLa c1 ?_;simp [inC,Nat.testBit];refine CLa c2 ?_;simp [AA,inC,Nat.testBit];refine CLb (c3) (by simp [hb,Hcl,inC,Nat.testBit]) ?_;simp [AA,inC,Nat.testBit];apply RZ;simp [results74]
     . have e1:l.length-1=0:=by omega
       rw [e1,hfa] at hla;cases hla
       have e2:Fg pk l h=pk fa:=by
         obtain ⟨x,rfl⟩:∃ x,l=[x]:=List.length_eq_one_iff.1 (by omega);cases hfa;rfl
       simp [AA];apply RZ;simp [results74,e2]
def Nn (w:List Gal) (h:Int × Int):(Int × Int) × Int × Int:=if Lg w h=0 then (Jr w h,Js w h) else ((0,0),0,0)
abbrev wndV (r:(Int × Int) × Int × Int):V:= .agg [vi r.1.1,vi r.1.2,vi r.2.1,vi r.2.2]
theorem WS {l:List Gal} {i:Nat} {x:Gal} (h:l[i]?= some x):rS (l.take (i+1))=max (rS (l.take i)) x.g:=by
 unfold rS;rw [List.take_add_one,h];simp
theorem AVV (l:List Gal) (h:Int × Int) (hl:l.length<=1000000):Ct prog 23 [.d (cT l),vsp h.1 h.2] (.tup [wndV (Nn l h),vi (Lg l h)]) []:=by
 have c1:=ASI l hl;have c2:=pA h;cases hw:Dr l
 . rw [hw] at c1
   have e1:Lg l h=22:=by unfold Lg;rw [hw];rfl
   have e2:Nn l h=((0,0),0,0):=by unfold Nn;rw [e1];rfl
   rw [e1,e2];refine CB func23 c23 fun E hE=>?_
   simp [p23];refine CLa c1 ?_;simp [AA];apply RZ;simp [results23]
 rw [hw] at c1;cases hs:okS h
 . rw [hs] at c2
   have e1:Lg l h=10:=by unfold Lg;rw [hw,hs];rfl
   have e2:Nn l h=((0,0),0,0):=by unfold Nn;rw [e1];rfl
   rw [e1,e2];refine CB func23 c23 fun E hE=>?_
   simp [p23];refine CLa c1 ?_;simp;refine CLa c2 ?_;simp [AA];apply RZ;simp [results23]
 rw [hs] at c2;have hW:=L0 hw;have hlen:=hW.len;have hh:=(CT.1 hs).1;have e1:Lg l h=0:=by unfold Lg;rw [hw,hs];rfl
 have e2:Nn l h=(Jr l h,Js l h):=by unfold Nn;rw [e1];rfl
 rw [e1,e2];have g1:=AUF hW h;have sx:=Mz hW (pk:=HG) (fun x hx=>hW.x x hx) hh;have sy:=Mz hW (pk:=northW) (fun x hx=>hW.y x hx) hh
 have c3:Ct prog 62 [vi l.length, .d (.fn 71 [.ref [cT l], .ref [di h.1,di h.2]])] (vi (Qq l h.1)) []:=by
   refine AFO l.length (Qq l h.1) _ _ (fun i=>(l[i]?.map fun k=>decide (h.1<=k.h)).getD false) (by omega) (fun i hi=>?_) JG (fun i hi=>?_) (fun i hi hi2=>?_)
   . obtain ⟨k,hk⟩:∃ k,l[i]?= some k:=⟨l[i],by simp [hi]⟩
     rw [hk];exact fn71 l h.1 h.2 i k hk
   . have hil:i<l.length:=Nat.lt_of_lt_of_le hi JG
     obtain ⟨k,hk⟩:∃ k,l[i]?= some k:=⟨l[i],by simp [hil]⟩
     have:=Zg hi hk;simp [hk];omega
   . obtain ⟨k,hk⟩:∃ k,l[i]?= some k:=⟨l[i],by simp [hi2]⟩
     have:=ft hW hi hk;simp [hk];omega
 have c4:Ct prog 62 [vi l.length, .d (.fn 72 [.ref [cT l], .ref [di h.1,di h.2]])] (vi (upN l h.2)) []:=by
   refine AFO l.length (upN l h.2) _ _ (fun i=>(l[i]?.map fun k=>decide (h.2<k.h)).getD false) (by omega) (fun i hi=>?_) JG (fun i hi=>?_) (fun i hi hi2=>?_)
   . obtain ⟨k,hk⟩:∃ k,l[i]?= some k:=⟨l[i],by simp [hi]⟩
     rw [hk];exact fn72 l h.1 h.2 i k hk
   . have hil:i<l.length:=Nat.lt_of_lt_of_le hi JG
     obtain ⟨k,hk⟩:∃ k,l[i]?= some k:=⟨l[i],by simp [hil]⟩
     have:=pd hi hk;simp [hk];omega
   . obtain ⟨k,hk⟩:∃ k,l[i]?= some k:=⟨l[i],by simp [hi2]⟩
     have:=Zh hW hi hk;simp [hk];omega
 have b1:Qq l h.1<=l.length:=JG;have b2:upN l h.2<=l.length:=JG;obtain ⟨F,hF⟩:∃ F,Qq l h.1=F:=⟨_,rfl⟩
 obtain ⟨U,hU⟩:∃ U,upN l h.2=U:=⟨_,rfl⟩
 have hFU:F-1<=min (U+1) l.length:=by
   by_cases hc:F-1<=U+1
   . omega
   . exfalso
     obtain ⟨k,hk⟩:∃ k,l[U]?= some k:=⟨l[U],by simp [show U<l.length by omega]⟩
     have q1:=Zg (w:=l) (lo:=h.1) (i:=U) (by omega) hk;have q2:=Zh hW (hi:=h.2) (i:=U) (by omega) hk;omega
 have hG:rO l h=rS ((l.take (min (U+1) l.length)).drop (F-1)):=by
   unfold rO;rw [hF,hU];congr 2;by_cases hc:U+1<=l.length
   . rw [Nat.min_eq_left hc]
   . rw [Nat.min_eq_right (by omega),List.take_of_length_le (by omega),List.take_length]
 rw [hF] at c3;rw [hU] at c4;have w1:IntKind.wrap .i64 ((F:Int)-1)=(F:Int)-1:=AD (by omega) (by omega);have w2:IntKind.wrap .i64 ((U:Int)+1)=(U:Int)+1:=AD (by omega) (by omega);have m1:max ((F:Int)-1) 0=((F-1:Nat):Int):=by omega
 have m2:min ((U:Int)+1) (l.length:Int)=((min (U+1) l.length:Nat):Int):=by omega
 obtain ⟨B,hB⟩:∃ B,min (U+1) l.length=B:=⟨_,rfl⟩
 obtain ⟨A,hA⟩:∃ A,F-1=A:=⟨_,rfl⟩
 rw [hB] at m2 hFU hG;rw [hA] at m1 hFU hG;have hBl:B<=l.length:=by omega
 obtain ⟨W,hWd⟩:∃ W,(l.take B).drop A=W:=⟨_,rfl⟩
 have hWl:B-A=W.length:=by rw [<-hWd];simp;omega
 have hWm:List.drop A (List.take B (List.map galL l))=W.map galL:=by rw [<-hWd];simp [List.map_drop,List.map_take]
 have hWle:W.length<=16:=by omega
 have hWg:∀ x∈W,0<=x.g/\x.g<=500:=fun x hx=>hW.g x (by rw [<-hWd] at hx;exact List.mem_of_mem_take (List.mem_of_mem_drop hx))
 rw [hWd] at hG;have d1:=ASm l h 75 HG (fun x _=>fn75 x) hW (fun x hx=>hW.x x hx);have d2:=ASm l h 76 northW (fun x _=>fn76 x) hW (fun x hx=>hW.y x hx);have d3:=ASV (Fg HG l h).1 (Fg HG l h).2 (rO l h) (by omega);have d4:=ASV (Fg northW l h).1 (Fg northW l h).2 (rO l h) (by omega);refine CB func23 c23 fun E hE=>?_
 simp [p23];refine CLa c1 ?_;simp;refine CLa c2 ?_;simp;refine CLa c3 ?_;simp;refine CLa c4 ?_;simp [AA,w1,w2,m1,m2,hFU,hBl,hWm];refine Al (α:=Nat) (fun i=>⟨AO [(2, .lp 0 0),(3, .lp 1 0),(4, .lp 2 0),(10, .lp 3 0),(43, .d (cT W)),(44,vi W.length),(45,vi i)],lk [(0,[.d (cT l)]),(1,[vi h.1,vi h.2]),(2,[vi 0,vi 0,vi 0,vi 0]),(3,[vi (rS (W.take i))])],4⟩) (fun i=>i<=W.length) (fun i=>W.length-i) 0 ?_ ?_ ?_
 . omega
 . refine AI.mk hE (lk [(0,0),(1,1048576),(2,2097152),(3,25165824)]) _ _ _ ?_ ?_ ?_ ?_ ?_<;>simp [rS]
 . intro i hi
   by_cases hil:i<W.length
   . obtain ⟨x,hx⟩:=gE hil
     have hz:=@wz i (by omega);have hI:(i:Int)<W.length:=by omega
     have hnx:=WS hx;simp [APE,hI,hx,AA,hz];refine ⟨i+1,by omega,by omega,?_⟩;rw [hnx];exact WK hE (lk [(0,0),(1,1),(2,2),(3,3)])
   . have e:i=W.length:=by omega
     have hn:¬ (i:Int)<W.length:=by omega
     have eT:rS (W.take i)=rO l h:=by rw [hG,e,List.take_length]
     rw [eT];simp [APE,hn,inC,Nat.testBit];refine CLa d1 ?_;simp [inC,Nat.testBit];refine CLa d3 ?_;simp [inC,Nat.testBit];refine CLa d2 ?_;simp;refine CLa d4 ?_;simp [AA];apply RZ;simp [results23,Jr,Js]
theorem AD1 (l:List Cel) (g:FuncId) (ds:List D) (q:Cel->Bool) (hl:l.length<=1000000000) (hg:∀ p∈l,Ct prog g (Ky p::ds.map .d) (vb (q p)) []):Ct prog 151 [.d (AX l), .d (.fn g ds)] (vi (ixF q l)) []:=by
 refine CB func151 c151 fun E hE=>?_
 simp [p151];refine Al (α:=Nat) (fun i=>⟨AO [(0, .d (AX l)),(1, .d (.fn g ds)),(7,vi l.length),(8,vi i)],lk [],0⟩) (fun i=>i<=l.length/\∀ j,j<i->(l[j]?).all (fun p=>!q p)=true) (fun i=>l.length-i) 0 ?_ ?_ ?_
 . exact ⟨by omega,fun j hj=>by omega⟩
 . exact WK hE (lk [])
 . rintro i ⟨hi,hg3⟩
   have hg2:∀ (j:Nat) (p:Cel),j<i->l[j]?= some p->q p=false:=fun j p hj hp=>by
     have:=hg3 j hj;rw [hp] at this;simpa using this
   have hz:=@wz i (by omega);simp [APK];refine Bh (fun h=>?_) (fun h=>?_)
   . simp at h
     obtain ⟨p,hp⟩:=gE h;simp [hp];refine CLa (hg p (List.mem_of_getElem? hp)) ?_;cases hq:q p
     . simp [hz]
       refine ⟨i+1,⟨by omega,fun j hj=>?_⟩,by omega,?_⟩
       . by_cases e:j=i
         . subst e;rw [hp];simp [hq]
         . exact hg3 j (by omega)
       . exact WK hE (lk [])
     . have e:ixF q l=i:=IY hp hq fun j y hj hy=>hg2 j y hj hy
       simp;apply RZ;simp [results151,e]
   . simp at h
     have e:ixF q l= -1:=IX fun j x hx=>hg2 j x (by have:=(List.getElem?_eq_some_iff.1 hx).1;omega) hx
     simp;apply RZ;simp [results151,e]
theorem yI (a b c d:Int) (h:(-100000000000000<=a/\a<=100000000000000)/\(-100000000000000<=b/\b<=100000000000000)/\(-100000000000000<=c/\c<=100000000000000)/\ -100000000000000<=d/\d<=100000000000000):Ct prog 145 [vsp a b,vsp c d] (vsp (a+c) (b+d)) []:=by
 have w1:IntKind.wrap .i64 (a+c)=a+c:=AD (by omega) (by omega);have w2:IntKind.wrap .i64 (b+d)=b+d:=AD (by omega) (by omega);refine CB func145 c145 fun E hE=>?_
 simp [p145,AA,w1,w2];apply RZ;simp [results145]
theorem rV (a b:Int) (h:(-100000000000000<=a/\a<=100000000000000)/\ -100000000000000<=b/\b<=100000000000000):Ct prog 147 [vsp a b] (vsp (6*a) (6*b)) []:=by
 have w1:IntKind.wrap .i64 (6*a)=6*a:=AD (by omega) (by omega);have w2:IntKind.wrap .i64 (6*b)=6*b:=AD (by omega) (by omega);refine CB func147 c147 fun E hE=>?_
 simp [p147,AA,w1,w2];apply RZ;simp [results147]
theorem SJ (a b c d:Int):Ct prog 50 [.d (Ch [a,b,c,d])] (vi (if a=0 then (if b=0 then (if c=0 then d else c) else b) else a)) []:=by
 have ww1:IntKind.wrap .i64 1=1:=by decide
 have ww2:IntKind.wrap .i64 2=2:=by decide
 have ww3:IntKind.wrap .i64 3=3:=by decide
 have ww4:IntKind.wrap .i64 4=4:=by decide
 refine CB func50 c50 fun E hE=>?_
 simp [p50];refine Al (α:=Nat) (fun k=>⟨AO [(5, .d (Ch [a,b,c,d])),(6,vi 4),(7,vi k)],lk [],0⟩) (fun k=>k<=4/\(0<k->a=0)/\(1<k->b=0)/\(2<k->c=0)/\(3<k->d=0)) (fun k=>4-k) 0 ?_ ?_ ?_
 . omega
 . exact WK hE (lk [])
 . rintro i ⟨hi,h1,h2,h3,h4⟩
   match i,hi,h1,h2,h3,h4 with
   | 0,_,_,_,_,_=>
     by_cases h:a=0
     . simp [bC,h,ww1]
       refine ⟨1,⟨by omega,by omega⟩,by omega,?_⟩;exact WK hE (lk [])
     . simp [bC,h]
       apply RZ;simp [results50]
   | 1,_,h1,_,_,_=>
     have h1:=h1 (by omega);by_cases h:b=0
     . simp [bC,h,ww2]
       refine ⟨2,?_,by omega,?_⟩
       . simp [h1]
       exact WK hE (lk [])
     . simp [bC,h]
       apply RZ;simp [results50,h1]
   | 2,_,h1,h2,_,_=>
     have h1:=h1 (by omega);have h2:=h2 (by omega);by_cases h:c=0
     . simp [bC,h,ww3]
       refine ⟨3,?_,by omega,?_⟩
       . simp [h1,h2]
       exact WK hE (lk [])
     . simp [bC,h]
       apply RZ;simp [results50,h1,h2]
   | 3,_,h1,h2,h3,_=>
     have h1:=h1 (by omega);have h2:=h2 (by omega);have h3:=h3 (by omega);by_cases h:d=0
     . simp [bC,h,ww4]
       refine ⟨4,?_,by omega,?_⟩
       . simp [h1,h2,h3]
       exact WK hE (lk [])
     . simp [bC,h]
       apply RZ;simp [results50,h1,h2,h3]
   | 4,_,h1,h2,h3,h4=>
     have h1:=h1 (by omega);have h2:=h2 (by omega);have h3:=h3 (by omega);have h4:=h4 (by omega);simp [bC];apply RZ;simp [results50,h1,h2,h3,h4]
   | i+5,hi,_,_,_,_=>omega
abbrev LI (k:Sky) (r:Rig):List D:=[BF k.s,cT k.w,An r.reg,di r.gl,di r.gh,di r.tank,di r.rsv,di r.lo,di r.hi]
abbrev D2 (k:Sky) (r:Rig):V:= .d (.ref (LI k r))
theorem ASj (hS:SortOk) (k:Sky) (r:Rig) (s h:Int × Int) (hr:r.reg.length<=1000000):Ct prog 156 [D2 k r,vsp s.1 s.2,vsp h.1 h.2] (vb (Il r.reg s h)) []:=by
 have c1:=AAF hS r.reg (s.1,h.1) (by omega);have c2:=AAF hS r.reg (s.1,h.2) (by omega);have c3:=AAF hS r.reg (s.2,h.1) (by omega);have c4:=AAF hS r.reg (s.2,h.2) (by omega);have z1:IntKind.wrap .i64 1=1:=by decide
 have z2:IntKind.wrap .i64 2=2:=by decide
 unfold Il
 generalize inV r.reg (s.1,h.1)=b1 at*
 generalize inV r.reg (s.1,h.2)=b2 at*
 generalize inV r.reg (s.2,h.1)=b3 at*
 generalize inV r.reg (s.2,h.2)=b4 at*
 generalize AUo r.reg=e at*
 simp only at c1 c2 c3 c4;refine CB func156 c156 fun E hE=>?_
 simp [p156,AA];refine Al (α:=Nat) (fun i=>⟨AO [(0,D2 k r),(4, .lp 0 0),(5, .lp 1 0),(17, .agg [vi s.1,vi s.2]),(18,vi i)],lk [(0,[vi s.1,vi s.2]),(1,[vi h.1,vi h.2])],2⟩) (fun i=>i<=2/\(0<i->b1=true/\b2=true)/\(1<i->b3=true/\b4=true)) (fun i=>2-i) 0 ?_ ?_ ?_
 . omega
 . exact WK hE (lk [(0,0),(1,1048576)])
 . rintro i ⟨hi,h1,h2⟩
   match i,hi,h1,h2 with
   | 0,_,_,_=>
     simp [AMy,AA];refine Al (α:=Nat) (fun j=>⟨AO [(0,D2 k r),(4, .lp 0 0),(5, .lp 1 0),(8,vi s.1),(17, .agg [vi s.1,vi s.2]),(18,vi 0),(25, .agg [vi h.1,vi h.2]),(26,vi j)],lk [(0,[vi s.1,vi s.2]),(1,[vi h.1,vi h.2])],2⟩) (fun j=>j<=2/\(0<j->b1=true)/\(1<j->b2=true)) (fun j=>2-j) 0 ?_ ?_ ?_
     . omega
     . exact WK hE (lk [(0,0),(1,1)])
     . rintro j ⟨hj,g1,g2⟩
       match j,hj,g1,g2 with
       | 0,_,_,_=>
         simp [AL9,AA];refine CLa c1 ?_;cases b1
         . simp
           apply RZ;simp [results156]
         . simp [z1]
           refine ⟨1,by simp,by omega,?_⟩;exact WK hE (lk [(0,0),(1,1)])
       | 1,_,g1,_=>
         have g1:=g1 (by omega);subst g1;simp [AL9,AA];refine CLa c2 ?_;cases b2
         . simp
           apply RZ;simp [results156]
         . simp [z2]
           refine ⟨2,by simp,by omega,?_⟩;exact WK hE (lk [(0,0),(1,1)])
       | 2,_,g1,g2=>
         have g1:=g1 (by omega);have g2:=g2 (by omega);simp [AL9,z1];refine ⟨1,by simp [g1,g2],by omega,?_⟩;exact WK hE (lk [(0,0),(1,1)])
       | j+3,hj,_,_=>omega
   | 1,_,h1,_=>
     obtain ⟨h3,h4⟩:=h1 (by omega);subst h3 h4;simp [AMy,AA];refine Al (α:=Nat) (fun j=>⟨AO [(0,D2 k r),(4, .lp 0 0),(5, .lp 1 0),(8,vi s.2),(17, .agg [vi s.1,vi s.2]),(18,vi 1),(25, .agg [vi h.1,vi h.2]),(26,vi j)],lk [(0,[vi s.1,vi s.2]),(1,[vi h.1,vi h.2])],2⟩) (fun j=>j<=2/\(0<j->b3=true)/\(1<j->b4=true)) (fun j=>2-j) 0 ?_ ?_ ?_
     . omega
     . exact WK hE (lk [(0,0),(1,1)])
     . rintro j ⟨hj,g1,g2⟩
       match j,hj,g1,g2 with
       | 0,_,_,_=>
         simp [AL9,AA];refine CLa c3 ?_;cases b3
         . simp
           apply RZ;simp [results156]
         . simp [z1]
           refine ⟨1,by simp,by omega,?_⟩;exact WK hE (lk [(0,0),(1,1)])
       | 1,_,g1,_=>
         have g1:=g1 (by omega);subst g1;simp [AL9,AA];refine CLa c4 ?_;cases b4
         . simp
           apply RZ;simp [results156]
         . simp [z2]
           refine ⟨2,by simp,by omega,?_⟩;exact WK hE (lk [(0,0),(1,1)])
       | 2,_,g1,g2=>
         have g1:=g1 (by omega);have g2:=g2 (by omega);simp [AL9,z2];refine ⟨2,by simp [g1,g2],by omega,?_⟩;exact WK hE (lk [(0,0),(1,1)])
       | j+3,hj,_,_=>omega
   | 2,_,h1,h2=>
     obtain ⟨h3,h4⟩:=h1 (by omega);obtain ⟨h5,h6⟩:=h2 (by omega);simp [AMy];apply RZ;simp [results156,h3,h4,h5,h6]
   | i+3,hi,_,_=>omega
abbrev e0 (k:Sky):Int:=if BV k then 0 else 50
abbrev e1 (r:Rig):Int:=if CF r then 0 else 51
def QG (k:Sky) (r:Rig) (a b:Int):Int:=if e0 k=0 then (if e1 r=0 then (if a=0 then b else a) else e1 r) else e0 k
theorem XK (hS:SortOk) (k:Sky) (r:Rig) (a b:Int) (h1:k.s.length<=1000000) (h2:k.w.length<=1000000) (h3:r.reg.length<=1000000) (he:¬ QG k r a b=0):Ct prog 37 [Eu k,Fj r, .d (Ch [a,b])] (.tup [.d (.lit (.pointer none)),vi (QG k r a b)]) []:=by
 have c1:=AFl k h1 h2;have c2:=AEE hS r (by omega);have c3:=SJ (e0 k) (e1 r) a b;obtain ⟨e,hee⟩:∃ e,QG k r a b=e:=⟨_,rfl⟩
 have c3':Ct prog 50 [.d (Ch [e0 k,e1 r,a,b])] (vi e) []:=by rw [<-hee];exact c3
 rw [hee] at he ⊢;have c1':Ct prog 52 [Eu k] (vi (e0 k)) []:=c1;have c2':Ct prog 87 [Fj r] (vi (e1 r)) []:=c2
 generalize e0 k=x0 at*
 generalize e1 r=x1 at*
 refine CB func37 c37 fun E hE=>?_
 simp [p37,inC,Nat.testBit];refine CLa c1' ?_;simp [inC,Nat.testBit];refine CLa c2' ?_;simp [AA,AM];refine CLb (c3') (by simp [tM]) ?_;simp [he];apply RZ;simp [results37]
theorem XL {k:Sky} {r:Rig} (hr:P5 r) {x y:Lev} (hx:k.s[0]?= some x) (hy:k.s[k.s.length-1]?= some y):rgB x.h y.h [r.lo,r.hi]=Ey k r:=by
 have h:=hr.h;unfold Ey aj rgB;rw [hx,hy];simp;rw [Bool.eq_iff_iff];simp;omega
theorem Sr {k:Sky} (h:BV k=true):OkS k.s:=by
 unfold BV at h;simp only [Bool.and_eq_true,decide_eq_true_eq] at h;refine B8.1 ?_;have:=h.1;unfold D3 at this;by_cases h:GC k.s=true
 . exact h
 . rw [if_neg h] at this;simp at this
theorem XM (hS:SortOk) (k:Sky) (r:Rig) (h1:k.s.length<=1000000) (h2:k.w.length<=1000000) (h3:r.reg.length<=1000000) (hk:BV k=true) (hr:CF r=true) (hg:Ey k r=false):Ct prog 37 [Eu k,Fj r, .d (Ch [0,0])] (.tup [.d (.lit (.pointer none)),vi 2]) []:=by
 have c1:=AFl k h1 h2;have c2:=AEE hS r (by omega);have c3:=SJ 0 0 0 0;rw [hk] at c1;rw [hr] at c2;have hl:=(Sr hk).len;obtain ⟨x,hx⟩:∃ x,k.s[0]?= some x:=⟨_,List.getElem?_eq_getElem (by omega)⟩
 obtain ⟨y,hy⟩:∃ y,k.s[k.s.length-1]?= some y:=⟨_,List.getElem?_eq_getElem (by omega)⟩
 have c4:=mM x.h y.h [r.lo,r.hi] (by simp);rw [XL (Hy hr) hx hy,hg] at c4;have w1:IntKind.wrap .i64 ((k.s.length:Int)-1)=((k.s.length-1:Nat):Int):=by rw [AD (by omega) (by omega)];omega
 have hI0:(0:Int)<k.s.length:=by omega
 obtain ⟨j,hj⟩:∃ j,k.s.length-1=j:=⟨_,rfl⟩
 rw [hj] at w1 hy;have hI1:(j:Int)<k.s.length:=by omega
 refine CB func37 c37 fun E hE=>?_
 simp [p37,inC,Nat.testBit];refine CLa c1 ?_;simp [inC,Nat.testBit];refine CLa c2 ?_;simp [AA,AM];refine CLb (c3) (by simp [tM]) ?_;simp [AA,AM,inC,Nat.testBit,hx,hy,w1];refine CLb (c4) (by simp [Ap]) ?_;simp;apply RZ;simp [results37]
theorem C6 {H:Hp} {a b c d:Nat}:Fi H (.ls a b c d) (.ls a b c d):=⟨rfl,rfl,rfl,rfl⟩
theorem AGK (p:Plt) (h:Ar p=true):Ct prog 56 [Cy p (.d (AX p.cs)),BZ ⟨7,0,0,1⟩] (doV (.ok (tkQ p))) []:=by
 have:=do_7 p ⟨7,0,0,1⟩ h rfl rfl;have e:doS p ⟨7,0,0,1⟩= .ok (tkQ p):=by simp [doS,h,g7,Md h]
 rwa [e] at this
abbrev shB (s:Shp):List V:=[vi s.xl,vi s.xh,vi s.yl,vi s.yh,vi s.hl,vi s.hh,vi s.fl,vi s.fh,vi s.wl,vi s.wh,vi s.bl,vi s.bh,vi s.dry,vi s.bal,vi s.drp, .d (AX s.gas.cs),vi s.gas.bt,vi s.gas.ih,vi s.gas.ia,vi s.gas.vh,vi s.gas.va,vi s.gas.lh,vi s.gas.la,vi s.gas.ph,vi s.gas.pa]
abbrev lgB (l:Leg):List V:=[vi l.m,vi l.axl,vi l.axh,vi l.ayl,vi l.ayh,vi l.ul,vi l.uh,vi l.bl,vi l.bh,vi l.dr, .d (JZ l.acts)]
abbrev WX (a:Atm):List D:=[di a.pl,di a.ph,di a.tl,di a.th]
theorem wL (k:Sky) (r:Rig) (a b:Int):Ct prog 148 [.d (.ref [di a,di b]), .d (.ref [.ref (LI k r)])] (vb (decide (a<r.lo))) []:=by
 refine CB func148 c148 fun E hE=>?_
 simp [p148];apply RZ;simp [results148]
theorem ASn (k:Sky) (r:Rig) (a b:Int):Ct prog 149 [.d (.ref [di a,di b]), .d (.ref [.ref (LI k r)])] (vb (decide (r.hi<b))) []:=by
 refine CB func149 c149 fun E hE=>?_
 simp [p149];apply RZ;simp [results149]
theorem AEC (k:Sky) (r:Rig) (s:Shp):Ct prog 153 [.d (.ref (Ca s)), .d (.ref [.ref (LI k r)])] (vb (decide (s.fl<r.rsv))) []:=by
 refine CB func153 c153 fun E hE=>?_
 simp [p153];apply RZ;simp [results153]
theorem ASo (s:Shp):Ct prog 158 [.d (.ref (Ca s))] (vb (!UC s)) []:=by
 have c:=oz (-10000000) 10000000 [(s.xl,s.xh),(s.yl,s.yh)] (by simp);simp only [List.all_cons,List.all_nil,Bool.and_true] at c;unfold UC
 generalize (spB (-10000000) 10000000 s.xl s.xh&&spB (-10000000) 10000000 s.yl s.yh)=b at*
 refine CB func158 c158 fun E hE=>?_
 simp [p158,AA,AM];refine CLb (c) (by simp [AQ]) ?_;simp;apply RZ;simp [results158]
theorem ACl (c:Cel) (a:Atm) (hc:B5 c) (ha:Fx a):Ct prog 152 [Ky c, .d (.ref (WX a))] (vb (EK a c)) []:=by
 have c1:=fn66 c a hc ha;unfold EK
 generalize decide (Lh c a=1)=b at*
 refine CB func152 c152 fun E hE=>?_
 simp [p152];refine CLa c1 ?_;simp;apply RZ;simp [results152]
theorem AED (s:Shp) (a:Atm) (x:Int) (hs:∀ c∈s.gas.cs,B5 c) (hl:s.gas.cs.length<=1000000) (ha:Fx a):Cm prog 150 [.d (.ref (Ca s)), .d (.ref (WX a)), .lp 0 0] (lk [(0,[vi x])]) [0] (.ret (vb (decide (0<=ixF (EK a) s.gas.cs)))) (lk [(0,[vi (ixF (EK a) s.gas.cs)])]):=by
 have c1:=AD1 s.gas.cs 152 [.ref (WX a)] (EK a) (by omega) fun c hc=>ACl c a (hs c hc) ha
 generalize ixF (EK a) s.gas.cs=n at*
 refine CM 1 func150 c150 fun E hs hE=>?_
 simp [p150];refine CLa c1 ?_;simp [AA];refine AB.by (lk [(0,0)]) ?_;simp [results150]
theorem ACk (hS:SortOk) (k:Sky) (r:Rig) (n s:Shp) (l:Leg) (a:Atm) (hr:r.reg.length<=1000000) (hl:Wn l) (hb:VU (KG s n)) (ha:Fx a):Ct prog 154 [.d (.ref (Ca n)), .d (.ref (Ca s)), .d (.ref (Pi l)), .d (.ref [.ref (LI k r)]), .d (.ref (WX a))] (vb (!Il r.reg (N1 l) (hvS (KG s n) a))) []:=by
 have c1:=UA l.axl l.axh l.ayl l.ayh ⟨hl.x,hl.y⟩;have c2:=iw (KG s n) a hb ha;have c3:=ASj hS k r (N1 l) (hvS (KG s n) a) hr;have c1':Ct prog 155 [wd4 l.axl l.axh l.ayl l.ayh] (.tup [vsp (N1 l).1 (N1 l).2,vi 0]) []:=c1
 generalize N1 l=sp at*
 generalize hvS (KG s n) a=hv at*
 generalize Il r.reg sp hv=b at*
 unfold KG at c2;simp only at c2;refine CB func154 c154 fun E hE=>?_
 simp [p154,AA];refine AL [(23,2097152),(25,2097152)] (by kernel_rfl) ?_;simp [AA,inC,Nat.testBit];refine CLa c1' ?_;simp [AA,inC,Nat.testBit];refine CLb (c2) (by first | (simp;done) | simp [Bk,CP,inC,Nat.testBit]) ?_;simp;refine CLa c3 ?_;simp;apply RZ;simp [results154]
end Go.Proofs.Tryz
