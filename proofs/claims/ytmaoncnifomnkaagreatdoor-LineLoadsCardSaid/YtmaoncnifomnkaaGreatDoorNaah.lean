/- Own lemmas, used by the last text. Conditions: those that each theorem states. -/
import Derived.Test.YtmaoncnifomnkaaGreatDoorNaaf
import Derived.Test.YtmaoncnifomnkaaGreatDoorNaag
set_option maxRecDepth 200000
set_option maxHeartbeats 8000000
namespace Go.Air
structure Lev where
 h:Int
 pl:Int
 ph:Int
 tl:Int
 th:Int
deriving DecidableEq,Inhabited
structure Lk (c w s:Int):Prop where
 s0:0<s
 sc:s<c
 cw:c<=w
def cdv (a b:Int):Int:=(a+b-1)/b
theorem K4 {a b k:Int} (hb:0<b):cdv a b<=k↔a<=k*b:=by
 unfold cdv;rw [show (a+b-1)/b<=k↔(a+b-1)/b<k+1 by omega,Int.ediv_lt_iff_lt_mul hb,Int.add_mul];omega
theorem K5 {a b k:Int} (hb:0<b):k<=cdv a b↔(k-1)*b<a:=by
 have:=K4 (a:=a) (k:=k-1) hb;omega
theorem AW0 {a a' b:Int} (hb:0<b) (h:a<=a'):cdv a b<=cdv a' b:=by
 unfold cdv;exact Int.ediv_le_ediv hb (by omega)
def CY (c s x:Int):Int:=x*(c-s)/c
def C9 (w s x:Int):Int:=cdv (x*w) (w+s)
def Cz (w s x:Int):Int:=x*(w+s)/w
def Ud (c s x:Int):Int:=cdv (x*c) (c-s)
section
variable {c w s:Int} (k:Lk c w s)
include k
theorem Lk.up1 {x y:Int} (h:x<=y):CY c s x<=CY c s y:=by
 obtain ⟨h1,h2,h3⟩:=k;exact Int.ediv_le_ediv (by omega) (Int.mul_le_mul_of_nonneg_right h (by omega))
theorem Lk.dn1 {x y:Int} (h:x<=y):Cz w s x<=Cz w s y:=by
 obtain ⟨h1,h2,h3⟩:=k;exact Int.ediv_le_ediv (by omega) (Int.mul_le_mul_of_nonneg_right h (by omega))
theorem Lk.up2 {x y:Int} (h:x<=y):C9 w s x<=C9 w s y:=by
 obtain ⟨h1,h2,h3⟩:=k;exact AW0 (by omega) (Int.mul_le_mul_of_nonneg_right h (by omega))
theorem Lk.dn2 {x y:Int} (h:x<=y):Ud c s x<=Ud c s y:=by
 obtain ⟨h1,h2,h3⟩:=k;exact AW0 (by omega) (Int.mul_le_mul_of_nonneg_right h (by omega))
theorem Lk.prod:(w+s)*(c-s)<=w*c:=by
 obtain ⟨h1,h2,h3⟩:=k;have e:(w+s)*(c-s)=w*c-s*(w-c)-s*s:=by grind
 have p1:0<=s*(w-c):=Int.mul_nonneg (by omega) (by omega);have p2:0<=s*s:=Int.mul_nonneg (by omega) (by omega);omega
theorem Lk.back1 {x:Int} (hx:0<=x):CY c s (Cz w s x)<=x:=by
 have hp:=k.prod;obtain ⟨h1,h2,h3⟩:=k;have hy:Cz w s x*w<=x*(w+s):=by unfold Cz;exact Int.ediv_mul_le _ (by omega)
 generalize Cz w s x=y at hy
 unfold CY
 have:y*(c-s)<=x*c:=by
   refine Int.le_of_mul_le_mul_left (a:=w) ?_ (by omega);have e1:w*(y*(c-s))=(y*w)*(c-s):=by grind
   have e2:(y*w)*(c-s)<=(x*(w+s))*(c-s):=Int.mul_le_mul_of_nonneg_right hy (by omega);have e3:(x*(w+s))*(c-s)=x*((w+s)*(c-s)):=by grind
   have e4:x*((w+s)*(c-s))<=x*(w*c):=Int.mul_le_mul_of_nonneg_left hp hx;have e5:x*(w*c)=w*(x*c):=by grind
   omega
 calc y*(c-s)/c<=(x*c)/c:=Int.ediv_le_ediv (by omega) this
   _=x:=Int.mul_ediv_cancel _ (by omega)
theorem Lk.back2 {x:Int} (hx:0<=x):x<=C9 w s (Ud c s x):=by
 have hp:=k.prod;obtain ⟨h1,h2,h3⟩:=k;have hy:x*c<=Ud c s x*(c-s):=by unfold Ud;exact (K4 (by omega)).1 (Int.le_refl _)
 generalize Ud c s x=y at hy
 unfold C9;rw [K5 (by omega)]
 have:x*(w+s)<=y*w:=by
   refine Int.le_of_mul_le_mul_left (a:=c-s) ?_ (by omega);have e1:(c-s)*(x*(w+s))=x*((w+s)*(c-s)):=by grind
   have e4:x*((w+s)*(c-s))<=x*(w*c):=Int.mul_le_mul_of_nonneg_left hp hx;have e5:x*(w*c)=(x*c)*w:=by grind
   have e6:(x*c)*w<=(y*(c-s))*w:=Int.mul_le_mul_of_nonneg_right hy (by omega);have e7:(y*(c-s))*w=(c-s)*(y*w):=by grind
   omega
 have:(x-1)*(w+s)=x*(w+s)-(w+s):=by rw [Int.sub_mul];omega
 omega
theorem Lk.pos1 {x:Int} (hx:0<=x):0<=Cz w s x:=Int.ediv_nonneg (Int.mul_nonneg hx (by have:=k.s0;have:=k.sc;have:=k.cw;omega)) (by have:=k.s0;have:=k.sc;have:=k.cw;omega)
theorem Lk.pos2 {x:Int} (hx:0<=x):0<=Ud c s x:=by
 obtain ⟨h1,h2,h3⟩:=k;unfold Ud;rw [K5 (by omega)];have:0<=x*c:=Int.mul_nonneg hx (by omega);omega
theorem Lk.pos3 {x:Int} (hx:0<=x):0<=C9 w s x:=by
 obtain ⟨h1,h2,h3⟩:=k;unfold C9;rw [K5 (by omega)];have:0<=x*w:=Int.mul_nonneg hx (by omega);omega
end
abbrev Tm:=Int->Int->Int × Int
def lc (T:Tm) (a b:Lev):Int:=1000000*(T a.h b.h).1
def lw (T:Tm) (a b:Lev):Int:=1000000*(T a.h b.h).2
def ls (a b:Lev):Int:=341632*(b.h-a.h)
def LkP (T:Tm) (a b:Lev):Prop:=Lk (lc T a b) (lw T a b) (ls a b)
def Lks (T:Tm):List Lev->Prop
 | a::b::r=>LkP T a b/\Lks T (b::r)
 | _=>True
def mt (b:Lev) (p:Int × Int):Lev:={b with pl:=max b.pl p.1,ph:=min b.ph p.2}
def cyu (T:Tm) (a b:Lev):Int × Int:=(CY (lc T a b) (ls a b) a.pl,C9 (lw T a b) (ls a b) a.ph)
def cyd (T:Tm) (a b:Lev):Int × Int:=(Cz (lw T a b) (ls a b) b.pl,Ud (lc T a b) (ls a b) b.ph)
def Sam (a b:Lev):Prop:=a.h=b.h/\a.tl=b.tl/\a.th=b.th
structure Le (a b:Lev):Prop where
 s:Sam a b
 lo:a.pl<=b.pl
 hi:b.ph<=a.ph
def Pos (a:Lev):Prop:=0<=a.pl/\0<=a.ph
def LeL:List Lev->List Lev->Prop
 | [],[]=>True
 | a::r,b::s=>Le a b/\LeL r s
 | _,_=>False
theorem Le.refl (a:Lev):Le a a:=⟨⟨rfl,rfl,rfl⟩,Int.le_refl _,Int.le_refl _⟩
theorem Le.trans {a b c:Lev} (h1:Le a b) (h2:Le b c):Le a c:=⟨⟨h1.s.1.trans h2.s.1,h1.s.2.1.trans h2.s.2.1,h1.s.2.2.trans h2.s.2.2⟩,Int.le_trans h1.lo h2.lo,Int.le_trans h2.hi h1.hi⟩
theorem Le.anti {a b:Lev} (h1:Le a b) (h2:Le b a):a=b:=by
 obtain ⟨⟨e1,e2,e3⟩,l1,l2⟩:=h1;obtain ⟨_,l3,l4⟩:=h2;cases a;cases b;simp_all;omega
theorem LeL.refl:∀ l:List Lev,LeL l l
 | []=>trivial
 | a::r=>⟨Le.refl a,LeL.refl r⟩
theorem LeL.trans:∀ {l m k:List Lev},LeL l m->LeL m k->LeL l k
 | [],[],[],_,_=>trivial
 | _::_,_::_,_::_,h1,h2=>⟨h1.1.trans h2.1,LeL.trans h1.2 h2.2⟩
 | [],_::_,_,h,_=>h.elim
 | _::_,[],_,h,_=>h.elim
 | _,[],_::_,_,h=>h.elim
 | _,_::_,[],_,h=>h.elim
theorem LeL.anti:∀ {l m:List Lev},LeL l m->LeL m l->l=m
 | [],[],_,_=>rfl
 | _::_,_::_,h1,h2=>by rw [h1.1.anti h2.1,LeL.anti h1.2 h2.2]
 | [],_::_,h,_=>h.elim
 | _::_,[],h,_=>h.elim
theorem LeL.len:∀ {l m:List Lev},LeL l m->l.length=m.length
 | [],[],_=>rfl
 | _::_,_::_,h=>by simp [LeL.len h.2]
 | [],_::_,h=>h.elim
 | _::_,[],h=>h.elim
theorem ZN {T:Tm} {a b a' b':Lev} (h1:Sam a a') (h2:Sam b b'):lc T a b=lc T a' b'/\lw T a b=lw T a' b'/\ls a b=ls a' b':=by
 unfold lc lw ls;rw [h1.1,h2.1];exact ⟨rfl,rfl,rfl⟩
theorem LkP.sam {T:Tm} {a b a' b':Lev} (h1:Sam a a') (h2:Sam b b') (h:LkP T a b):LkP T a' b':=by
 obtain ⟨e1,e2,e3⟩:=ZN (T:=T) h1 h2;unfold LkP at*
 rwa [<-e1,<-e2,<-e3]
theorem Lks.le {T:Tm}:∀ {l m:List Lev},LeL l m->Lks T l->Lks T m
 | [],[],_,_=>trivial
 | [_],[_],_,_=>trivial
 | _::b::r,_::b'::r',h,hk=>⟨hk.1.sam h.1.s h.2.1.s,Lks.le (l:=b::r) (m:=b'::r') h.2 hk.2⟩
 | [],_::_,h,_=>h.elim
 | _::_,[],h,_=>h.elim
 | [_],_::_::_,h,_=>h.2.elim
 | _::_::_,[_],h,_=>h.2.elim
theorem MI (b:Lev) (p:Int × Int):Le b (mt b p):=⟨⟨rfl,rfl,rfl⟩,by unfold mt;simp only;omega,by unfold mt;simp only;omega⟩
theorem rz {b b':Lev} {p q:Int × Int} (h:Le b b') (h1:p.1<=q.1) (h2:q.2<=p.2):Le (mt b p) (mt b' q):=by
 obtain ⟨hs,l1,l2⟩:=h;refine ⟨hs,?_,?_⟩<;>unfold mt<;>simp only<;>omega
theorem tc {T:Tm} {a a' b b':Lev} (k:LkP T a b) (ha:Le a a') (hb:Sam b b'):(cyu T a b).1<=(cyu T a' b').1/\(cyu T a' b').2<=(cyu T a b).2:=by
 obtain ⟨e1,e2,e3⟩:=ZN (T:=T) ha.s hb;unfold cyu;simp only;rw [<-e1,<-e2,<-e3];exact ⟨k.up1 ha.lo,k.up2 ha.hi⟩
theorem te {T:Tm} {a a' b b':Lev} (k:LkP T a b) (ha:Sam a a') (hb:Le b b'):(cyd T a b).1<=(cyd T a' b').1/\(cyd T a' b').2<=(cyd T a b).2:=by
 obtain ⟨e1,e2,e3⟩:=ZN (T:=T) ha hb.s;unfold cyd;simp only;rw [<-e1,<-e2,<-e3];exact ⟨k.dn1 hb.lo,k.dn2 hb.hi⟩
def upL (T:Tm):Lev->List Lev->List Lev
 | _,[]=>[]
 | a,b::r=>mt b (cyu T a b)::upL T (mt b (cyu T a b)) r
def Jv (T:Tm):List Lev->List Lev
 | []=>[]
 | a::r=>a::upL T a r
def dnC (T:Tm) (a:Lev):List Lev->List Lev
 | []=>[a]
 | b::r=>mt a (cyd T a b)::b::r
def dnS (T:Tm):List Lev->List Lev
 | []=>[]
 | a::r=>dnC T a (dnS T r)
def O4 (T:Tm) (l:List Lev):List Lev:=dnS T (Jv T l)
theorem tf {T:Tm}:∀ {l m:List Lev} {a b:Lev},Lks T (a::l)->Le a b->LeL l m->LeL (upL T a l) (upL T b m)
 | [],[],_,_,_,_,_=>trivial
 | x::r,y::s,a,b,hk,h,hl=>by
   obtain ⟨h1,h2⟩:=tc hk.1 h hl.1.s;have hm:=rz hl.1 h1 h2;have hk2:Lks T (mt x (cyu T a x)::r):=Lks.le (l:=x::r) ⟨MI x _,LeL.refl r⟩ hk.2;exact ⟨hm,tf hk2 hm hl.2⟩
 | [],_::_,_,_,_,_,h=>h.elim
 | _::_,[],_,_,_,_,h=>h.elim
theorem vU {T:Tm}:∀ {l m:List Lev},Lks T l->LeL l m->LeL (Jv T l) (Jv T m)
 | [],[],_,_=>trivial
 | _::_,_::_,hk,h=>⟨h.1,tf hk h.1 h.2⟩
 | [],_::_,_,h=>h.elim
 | _::_,[],_,h=>h.elim
theorem ZO {T:Tm}:∀ (l:List Lev) (a:Lev),LeL l (upL T a l)
 | [],_=>trivial
 | b::r,_=>⟨MI b _,ZO r _⟩
theorem GX {T:Tm}:∀ l:List Lev,LeL l (Jv T l)
 | []=>trivial
 | a::r=>⟨Le.refl a,ZO r a⟩
theorem kn {T:Tm} (a:Lev):∀ r:List Lev,LeL (a::r) (dnC T a r)
 | []=>⟨Le.refl a,trivial⟩
 | _::_=>⟨MI a _,LeL.refl _⟩
theorem JE {T:Tm}:∀ l:List Lev,LeL l (dnS T l)
 | []=>trivial
 | a::r=>LeL.trans (m:=a::dnS T r) ⟨Le.refl a,JE r⟩ (kn a _)
theorem AM3 {T:Tm}:∀ {l m:List Lev},Lks T l->LeL l m->LeL (dnS T l) (dnS T m)
 | [],[],_,_=>trivial
 | a::r,b::s,hk,h=>by
   have hr:Lks T r:=by cases r with
     | nil=>trivial
     | cons x t=>exact hk.2
   have ih:=AM3 hr h.2;have hd:=JE (T:=T) r
   show LeL (dnC T a (dnS T r)) (dnC T b (dnS T s))
   generalize dnS T r=R at*
   generalize dnS T s=S at*
   match R,S,ih with
   | [],[],_=>exact ⟨h.1,trivial⟩
   | x::R',y::S',ih=>
     match r,hd with
     | x0::r',hd=>
       have k:LkP T a x:=hk.1.sam ⟨rfl,rfl,rfl⟩ hd.1.s;obtain ⟨h1,h2⟩:=te k h.1.s ih.1;exact ⟨rz h.1 h1 h2,ih⟩
 | [],_::_,_,h=>h.elim
 | _::_,[],_,h=>h.elim
theorem uZ {T:Tm} {l m:List Lev} (hk:Lks T l) (h:LeL l m):LeL (O4 T l) (O4 T m):=
 AM3 (Lks.le (GX l) hk) (vU hk h)
theorem Es {T:Tm} (l:List Lev):LeL l (O4 T l):=LeL.trans (GX l) (JE _)
def Clo (T:Tm):List Lev->Prop
 | a::b::r=>(Le (mt b (cyu T a b)) b/\Le (mt a (cyd T a b)) a)/\Clo T (b::r)
 | _=>True
theorem Clo.tail {T:Tm} {a:Lev}:∀ {r:List Lev},Clo T (a::r)->Clo T r
 | [],_=>trivial
 | _::_,h=>h.2
theorem TU {b:Lev} {p:Int × Int} (h:Le (mt b p) b):mt b p=b:=h.anti (MI b p)
theorem uv {T:Tm}:∀ (l:List Lev) (a:Lev),Clo T (a::l)->upL T a l=l
 | [],_,_=>rfl
 | b::r,a,h=>by
   show mt b (cyu T a b)::upL T (mt b (cyu T a b)) r=_
   rw [TU h.1.1,uv r b h.2]
theorem wO {T:Tm}:∀ (l:List Lev),Clo T l->Jv T l=l
 | [],_=>rfl
 | a::r,h=>by show a::upL T a r=_;rw [uv r a h]
theorem uw {T:Tm}:∀ (l:List Lev),Clo T l->dnS T l=l
 | [],_=>rfl
 | [_],_=>rfl
 | a::b::r,h=>by
   show dnC T a (dnS T (b::r))=_
   rw [uw (b::r) h.2]
   show mt a (cyd T a b)::b::r=_
   rw [TU h.1.2]
theorem vV {T:Tm} {l:List Lev} (h:Clo T l):O4 T l=l:=by unfold O4;rw [wO l h,uw l h]
theorem ZP {T:Tm}:∀ (l:List Lev),Lks T l->(∀ x∈l,Pos x)->Jv T l=l->Clo T (dnS T l)/\∀ x∈dnS T l,Pos x
 | [],_,_,_=>⟨trivial,by simp [dnS]⟩
 | [a],_,hp,_=>⟨trivial,fun x hx=>hp x (by simpa [dnS,dnC] using hx)⟩
 | a::b::r,hk,hp,hu=>by
   have hu':mt b (cyu T a b)::upL T (mt b (cyu T a b)) r=b::r:=(List.cons.inj hu).2;have e1:mt b (cyu T a b)=b:=(List.cons.inj hu').1;rw [e1] at hu';have hu2:Jv T (b::r)=b::r:=by show b::upL T b r=_;rw [(List.cons.inj hu').2]
   obtain ⟨c1,p1⟩:=ZP (b::r) hk.2 (fun x hx=>hp x (by simp [List.mem_cons.1 hx])) hu2;have hd:=JE (T:=T) (b::r)
   show Clo T (dnC T a (dnS T (b::r)))/\_
   cases hb:dnS T (b::r) with
   | nil=>rw [hb] at hd;exact hd.elim
   | cons x R=>
     rw [hb] at hd c1 p1;have hbx:Le b x:=hd.1;have k:LkP T a x:=hk.1.sam ⟨rfl,rfl,rfl⟩ hbx.s;have pa:=hp a (by simp);have px:=p1 x (by simp);have ek:lc T (mt a (cyd T a x)) x=lc T a x/\lw T (mt a (cyd T a x)) x=lw T a x/\ls (mt a (cyd T a x)) x=ls a x:=⟨rfl,rfl,rfl⟩
     have ea:=ZN (T:=T) (a:=a) (a':=a) ⟨rfl,rfl,rfl⟩ hbx.s;refine ⟨⟨⟨?_,?_⟩,c1⟩,?_⟩
     ·
       have h1:CY (lc T a x) (ls a x) a.pl<=x.pl:=by
         have:=congrArg Lev.pl e1;unfold mt cyu at this;simp only at this;rw [ea.1,ea.2.2] at this;have:=hbx.lo;omega
       have h2:x.ph<=C9 (lw T a x) (ls a x) a.ph:=by
         have:=congrArg Lev.ph e1;unfold mt cyu at this;simp only at this;rw [ea.2.1,ea.2.2] at this;have:=hbx.hi;omega
       have h3:=k.back1 px.1;have h4:=k.back2 px.2;refine ⟨⟨rfl,rfl,rfl⟩,?_,?_⟩
       . show max x.pl (CY (lc T a x) (ls a x) (max a.pl (Cz (lw T a x) (ls a x) x.pl)))<=x.pl
         by_cases hm:a.pl<=Cz (lw T a x) (ls a x) x.pl
         . rw [show max a.pl (Cz (lw T a x) (ls a x) x.pl)=Cz (lw T a x) (ls a x) x.pl by omega];omega
         . rw [show max a.pl (Cz (lw T a x) (ls a x) x.pl)=a.pl by omega];omega
       . show x.ph<=min x.ph (C9 (lw T a x) (ls a x) (min a.ph (Ud (lc T a x) (ls a x) x.ph)))
         by_cases hm:a.ph<=Ud (lc T a x) (ls a x) x.ph
         . rw [show min a.ph (Ud (lc T a x) (ls a x) x.ph)=a.ph by omega];omega
         . rw [show min a.ph (Ud (lc T a x) (ls a x) x.ph)=Ud (lc T a x) (ls a x) x.ph by omega];omega
     . refine ⟨⟨rfl,rfl,rfl⟩,?_,?_⟩
       . show max (max a.pl (Cz (lw T a x) (ls a x) x.pl)) (Cz (lw T a x) (ls a x) x.pl)<=max a.pl (Cz (lw T a x) (ls a x) x.pl)
         omega
       . show min a.ph (Ud (lc T a x) (ls a x) x.ph)<=min (min a.ph (Ud (lc T a x) (ls a x) x.ph)) (Ud (lc T a x) (ls a x) x.ph)
         omega
     . intro y hy
       have hy':y∈dnC T a (dnS T (b::r)):=hy;rw [hb] at hy';rcases List.mem_cons.1 (show y∈mt a (cyd T a x)::x::R from hy') with rfl | hy
       . have q1:=k.pos1 px.1
         have q2:=k.pos2 px.2;unfold Pos mt cyd;simp only;unfold Pos at pa;omega
       . exact p1 y hy
theorem TV {T:Tm}:∀ (l:List Lev) (a:Lev),upL T a (upL T a l)=upL T a l
 | [],_=>rfl
 | b::r,a=>by
   have e:cyu T a (mt b (cyu T a b))=cyu T a b:=rfl
   have e2:mt (mt b (cyu T a b)) (cyu T a b)=mt b (cyu T a b):=by
     unfold mt;simp only [Lev.mk.injEq,true_and,and_true];omega
   show mt (mt b (cyu T a b)) (cyu T a (mt b (cyu T a b)))::upL T (mt (mt b (cyu T a b)) (cyu T a (mt b (cyu T a b)))) (upL T (mt b (cyu T a b)) r)=mt b (cyu T a b)::upL T (mt b (cyu T a b)) r
   rw [e,e2,TV r]
theorem Vi {T:Tm}:∀ l:List Lev,Jv T (Jv T l)=Jv T l
 | []=>rfl
 | a::r=>by show a::upL T a (upL T a r)=a::upL T a r;rw [TV]
theorem ZQ {T:Tm}:∀ (l:List Lev) (a:Lev),Lks T (a::l)->Pos a->(∀ x∈l,Pos x)->∀ x∈upL T a l,Pos x
 | [],_,_,_,_,x,hx=>by simp [upL] at hx
 | b::r,a,hk,ha,hp,x,hx=>by
   have pb:=hp b (by simp)
   have hb:Pos (mt b (cyu T a b)):=by
     have:=hk.1.pos3 ha.2;unfold Pos mt cyu at*;simp only at*;omega
   rcases List.mem_cons.1 (show x∈mt b (cyu T a b)::upL T (mt b (cyu T a b)) r from hx) with rfl | hx
   . exact hb
   . exact ZQ r _ (Lks.le (l:=b::r) ⟨MI b _,LeL.refl r⟩ hk.2) hb (fun y hy=>hp y (List.mem_cons_of_mem _ hy)) x hx
theorem NI {T:Tm} {l:List Lev} (hk:Lks T l) (hp:∀ x∈l,Pos x):Clo T (O4 T l)/\∀ x∈O4 T l,Pos x:=by
 unfold O4;refine ZP _ (Lks.le (GX l) hk) ?_ (Vi l);cases l with
 | nil=>simp [Jv]
 | cons a r=>
   intro x hx;rcases List.mem_cons.1 (show x∈a::upL T a r from hx) with rfl | hx
   . exact hp _ (by simp)
   . exact ZQ r a hk (hp a (by simp)) (fun y hy=>hp y (List.mem_cons_of_mem _ hy)) x hx
theorem tj {T:Tm} {l m:List Lev} (hk:Lks T l) (h:LeL l m) (hc:Clo T m):LeL (O4 T l) m:=by
 have:=uZ hk h
 rwa [vV hc] at this
theorem sd {T:Tm} {l m:List Lev} (hk:Lks T l) (h1:LeL l m) (h2:LeL m (O4 T l)) (hc:Clo T m):m=O4 T l:=
 h2.anti (tj hk h1 hc)
end Go.Air
namespace Go.Proofs.Tryz
open Go.Psl
open Go.Air
abbrev A5 (x:Lev):List D:=[di x.h,di x.pl,di x.ph,di x.tl,di x.th]
abbrev AYH (x:Lev):V:= .agg [vi x.h,vi x.pl,vi x.ph,vi x.tl,vi x.th]
abbrev BF (l:List Lev):D:= .sl 5 (l.map A5)
theorem hfl:∀ x:Lev,(A5 x).length=5:=fun _=>rfl
abbrev sy (p:Int × Int):V:= .agg [vi p.1,vi p.2]
theorem Sa {α:Type} (f:α->Bool) (l:List α):l.any (fun x=>!f x)=!l.all f:=by
 induction l with
 | nil=>rfl
 | cons a l ih=>simp [ih]
theorem pZ (l:List Int) (g:FuncId) (ds:List D) (q:Int->Bool) (hl:l.length<=1000000000) (hg:∀ p∈l,Ct prog g (vi p::ds.map .d) (vb (q p)) []):Ct prog 173 [.d (Qw l), .d (.fn g ds)] (vi (ixF q l)) []:=by
 refine CB func173 c173 fun E hE=>?_
 simp [p173];refine Al (α:=Nat) (fun i=>⟨AO [(0, .d (Qw l)),(1, .d (.fn g ds)),(7,vi l.length),(8,vi i)],lk [],0⟩) (fun i=>i<=l.length/\∀ j,j<i->(l[j]?).all (fun p=>!q p)=true) (fun i=>l.length-i) 0 ?_ ?_ ?_
 . exact ⟨by omega,fun j hj=>by omega⟩
 . exact WK hE (lk [])
 . rintro i ⟨hi,hg3⟩
   have hg2:∀ (j:Nat) (p:Int),j<i->l[j]?= some p->q p=false:=fun j p hj hp=>by
     have:=hg3 j hj;rw [hp] at this;simpa using this
   have hz:=@wz i (by omega);simp [AY6];refine DW (fun h=>?_) (fun h=>?_)
   . simp at h
     obtain ⟨p,hp⟩:=gE h;simp [hp];refine CLa (hg p (List.mem_of_getElem? hp)) ?_;cases hq:q p
     . simp [hz]
       refine ⟨i+1,⟨by omega,fun j hj=>?_⟩,by omega,?_⟩
       . by_cases e:j=i
         . subst e;rw [hp];simp [hq]
         . exact hg3 j (by omega)
       . exact WK hE (lk [])
     . have e:ixF q l=i:=IY hp hq fun j y hj hy=>hg2 j y hj hy
       simp;apply RZ;simp [results173,e]
   . simp at h
     have e:ixF q l= -1:=IX fun j x hx=>hg2 j x (by have:=(List.getElem?_eq_some_iff.1 hx).1;omega) hx
     simp;apply RZ;simp [results173,e]
theorem ABQ (l:List Int) (g:FuncId) (ds:List D) (q:Int->Bool) (hl:l.length<=1000000000) (hg:∀ p∈l,Ct prog g (vi p::ds.map .d) (vb (q p)) []):Ct prog 97 [.d (Qw l), .d (.fn g ds)] (vb (l.any q)) []:=by
 refine CB func97 c97 fun E hE=>?_
 simp [p97];refine CLa (pZ l g ds q hl hg) ?_;simp;apply RZ;simp [results97,<-IZ]
theorem pW (l:List (Int × Int)) (g:FuncId) (ds:List D) (q:(Int × Int)->Bool) (hl:l.length<=1000000000) (hg:∀ p∈l,Ct prog g (sy p::ds.map .d) (vb (q p)) []):Ct prog 225 [.d (An l), .d (.fn g ds)] (vi (ixF q l)) []:=by
 refine CB func225 c225 fun E hE=>?_
 simp [p225];refine Al (α:=Nat) (fun i=>⟨AO [(0, .d (An l)),(1, .d (.fn g ds)),(7,vi l.length),(8,vi i)],lk [],0⟩) (fun i=>i<=l.length/\∀ j,j<i->(l[j]?).all (fun p=>!q p)=true) (fun i=>l.length-i) 0 ?_ ?_ ?_
 . exact ⟨by omega,fun j hj=>by omega⟩
 . exact WK hE (lk [])
 . rintro i ⟨hi,hg3⟩
   have hg2:∀ (j:Nat) (p:(Int × Int)),j<i->l[j]?= some p->q p=false:=fun j p hj hp=>by
     have:=hg3 j hj;rw [hp] at this;simpa using this
   have hz:=@wz i (by omega);simp [bR];refine DW (fun h=>?_) (fun h=>?_)
   . simp at h
     obtain ⟨p,hp⟩:=gE h;simp [hp];refine CLa (hg p (List.mem_of_getElem? hp)) ?_;cases hq:q p
     . simp [hz]
       refine ⟨i+1,⟨by omega,fun j hj=>?_⟩,by omega,?_⟩
       . by_cases e:j=i
         . subst e;rw [hp];simp [hq]
         . exact hg3 j (by omega)
       . exact WK hE (lk [])
     . have e:ixF q l=i:=IY hp hq fun j y hj hy=>hg2 j y hj hy
       simp;apply RZ;simp [results225,e]
   . simp at h
     have e:ixF q l= -1:=IX fun j x hx=>hg2 j x (by have:=(List.getElem?_eq_some_iff.1 hx).1;omega) hx
     simp;apply RZ;simp [results225,e]
theorem zW (l:List (Int × Int)) (g:FuncId) (ds:List D) (q:(Int × Int)->Bool) (hl:l.length<=1000000000) (hg:∀ p∈l,Ct prog g (sy p::ds.map .d) (vb (q p)) []):Ct prog 146 [.d (An l), .d (.fn g ds)] (vb (l.any q)) []:=by
 refine CB func146 c146 fun E hE=>?_
 simp [p146];refine CLa (pW l g ds q hl hg) ?_;simp;apply RZ;simp [results146,<-IZ]
theorem UA (l:List Lev) (g:FuncId) (ds:List D) (q:Lev->Bool) (hl:l.length<=1000000000) (hg:∀ p∈l,Ct prog g (AYH p::ds.map .d) (vb (q p)) []):Ct prog 155 [.d (BF l), .d (.fn g ds)] (vi (ixF q l)) []:=by
 refine CB func155 c155 fun E hE=>?_
 simp [p155];refine Al (α:=Nat) (fun i=>⟨AO [(0, .d (BF l)),(1, .d (.fn g ds)),(7,vi l.length),(8,vi i)],lk [],0⟩) (fun i=>i<=l.length/\∀ j,j<i->(l[j]?).all (fun p=>!q p)=true) (fun i=>l.length-i) 0 ?_ ?_ ?_
 . exact ⟨by omega,fun j hj=>by omega⟩
 . exact WK hE (lk [])
 . rintro i ⟨hi,hg3⟩
   have hg2:∀ (j:Nat) (p:Lev),j<i->l[j]?= some p->q p=false:=fun j p hj hp=>by
     have:=hg3 j hj;rw [hp] at this;simpa using this
   have hz:=@wz i (by omega);simp [AMx];refine DW (fun h=>?_) (fun h=>?_)
   . simp at h
     obtain ⟨p,hp⟩:=gE h;simp [hp];refine CLa (hg p (List.mem_of_getElem? hp)) ?_;cases hq:q p
     . simp [hz]
       refine ⟨i+1,⟨by omega,fun j hj=>?_⟩,by omega,?_⟩
       . by_cases e:j=i
         . subst e;rw [hp];simp [hq]
         . exact hg3 j (by omega)
       . exact WK hE (lk [])
     . have e:ixF q l=i:=IY hp hq fun j y hj hy=>hg2 j y hj hy
       simp;apply RZ;simp [results155,e]
   . simp at h
     have e:ixF q l= -1:=IX fun j x hx=>hg2 j x (by have:=(List.getElem?_eq_some_iff.1 hx).1;omega) hx
     simp;apply RZ;simp [results155,e]
theorem jR (l:List Lev) (g:FuncId) (ds:List D) (q:Lev->Bool) (hl:l.length<=1000000000) (hg:∀ p∈l,Ct prog g (AYH p::ds.map .d) (vb (q p)) []):Ct prog 177 [.d (BF l), .d (.fn g ds)] (vb (l.any q)) []:=by
 refine CB func177 c177 fun E hE=>?_
 simp [p177];refine CLa (UA l g ds q hl hg) ?_;simp;apply RZ;simp [results177,<-IZ]
theorem ACk (l m:List Lev) (hl:l.length<=1000000000) (_:m.length<=1000000000):Ct prog 154 [.d (BF l), .d (BF m)] (vb (decide (l=m))) []:=by
 by_cases hlen:l.length=m.length
 case neg=>
   have hn:¬ (l.length:Int)=m.length:=by omega
   have hne:¬ l=m:=fun h=>hlen (by rw [h])
   refine CB func154 AEL fun E hE=>?_
   simp [p154,hn];apply RZ;simp [results154,hne]
 refine CB func154 AEL fun E hE=>?_
 simp [p154,hlen];refine Al (α:=Nat) (fun i=>⟨AO [(0, .d (BF l)),(1, .d (BF m)),(12,vi m.length),(13,vi i)],lk [],0⟩) (fun i=>i<=l.length/\l.take i=m.take i) (fun i=>l.length-i) 0 ?_ ?_ ?_
 . simp
 . exact WK hE (lk [])
 . rintro i ⟨hi,hg⟩
   have hz:IntKind.wrap .i64 ((i:Int)+1)=((i:Int)+1):=AD (by omega) (by omega);simp [AY4];refine DW (fun h=>?_) (fun h=>?_)
   . simp at h
     have hil:i<l.length:=by omega
     obtain ⟨a,ha⟩:∃ a,l[i]?= some a:=⟨l[i],by simp [hil]⟩
     obtain ⟨b,hb⟩:∃ b,m[i]?= some b:=⟨m[i],by simp [show i<m.length by omega]⟩
     by_cases hab:a=b
     . subst hab
       simp [ha,hb,hz];refine ⟨i+1,⟨by omega,by simp [List.take_add_one,hg,ha,hb]⟩,by omega,?_⟩;exact WK hE (lk [])
     . have hne:¬ l=m:=fun h=>by
         rw [h,hb] at ha;cases ha;exact hab rfl
       have hd:((!decide (a.h=b.h)||(!decide (a.pl=b.pl)||(!decide (a.ph=b.ph)||(!decide (a.tl=b.tl)||!decide (a.th=b.th))))))=true:=by
         cases a;cases b;simp at hab ⊢;omega
       simp [ha,hb,hd];apply RZ;simp [results154,hne]
   . simp at h
     have hil:i=l.length:=by omega
     have hlm:l=m:=by rw [hil,List.take_length,hlen,List.take_length] at hg;exact hg
     simp;apply RZ;simp [results154,hlm]
theorem AED (l:List Lev) (hl:l.length<=1000000000) (h0:l≠[]):Ct prog 150 [.d (BF l)] (.ls 0 0 l.length 5) [(0,AH A5 l)]:=by
 refine CB func150 c150 fun E hE=>?_
 obtain ⟨a,r,rfl⟩:=List.exists_cons_of_ne_nil h0;have hmx:(r.length+1)*40<=140737488355328/\r.length+1<=9223372036854775807:=by simp at hl;omega
 have e:BF (a::r)= .sl 5 (A5 a::r.map A5):=rfl;have ef:(r.map (List.map V.d ∘ A5)).flatten=AH A5 r:=by simp [AH,List.map_flatten]
 have hcl:(∀ x∈AH A5 r,x.isCell=true)=True:=eq_true BU;simp [p150,e,ef,hcl,AM,hmx];refine AB.by (lk [(0,5242880)]) ?_;simp [results150,CQ,hcl]
end Go.Proofs.Tryz
namespace Go.Air
def gsA (T:Tm) (p:Option Lev) (a:Lev):Lev:=match p with | none=>a | some q=>mt a (cyu T q a)
def gsB (T:Tm) (a1 a:Lev) (r:List Lev):Lev:=match r with | []=>a1 | b::_=>mt a1 (cyd T a b)
def gsP (T:Tm):Option Lev->List Lev->List Lev
 | _,[]=>[]
 | p,a::r=>gsB T (gsA T p a) a r::gsP T (some (gsB T (gsA T p a) a r)) r
theorem sL (T:Tm) (p:Option Lev) (a:Lev):Le a (gsA T p a):=by
 unfold gsA;split
 . exact Le.refl a
 . exact MI a _
theorem sM (T:Tm) (a1 a:Lev) (r:List Lev):Le a1 (gsB T a1 a r):=by
 unfold gsB;split
 . exact Le.refl _
 . exact MI _ _
theorem ux (T:Tm):∀ (l:List Lev) (p:Option Lev),LeL l (gsP T p l)
 | [],_=>trivial
 | a::r,p=>⟨(sL T p a).trans (sM T _ a r),ux T r _⟩
def Und (T:Tm) (l F:List Lev) (p:Option Lev):Prop:=match p,l,F with
 | some q,a::_,f::_=>∃ Q,Le q Q/\LkP T q a/\Le (mt f (cyu T Q f)) f
 | _,_,_=>True
theorem tn {T:Tm}:∀ {l F:List Lev} {p:Option Lev},Lks T l->LeL l F->Clo T F->Und T l F p->LeL (gsP T p l) F
 | [],[],_,_,_,_,_=>trivial
 | a::r,f::S,p,hk,hl,hc,hu=>by
   have h1:Le (gsA T p a) f:=by
     cases p with
     | none=>exact hl.1
     | some q=>
       obtain ⟨Q,hq,k,hf⟩:=hu;obtain ⟨m1,m2⟩:=tc k hq hl.1.s;exact (rz hl.1 m1 m2).trans hf
   have h2:Le (gsB T (gsA T p a) a r) f:=by
     match r,S,hl.2,hc,hk with
     | [],[],_,_,_=>exact h1
     | b::r',g::S',hl2,hc2,hk2=>
       obtain ⟨m1,m2⟩:=te hk2.1 hl.1.s hl2.1;exact (rz h1 m1 m2).trans hc2.1.2
   refine ⟨h2,?_⟩
   match r,S,hl.2,hc,hk with
   | [],[],_,_,_=>trivial
   | b::r',g::S',hl2,hc2,hk2=>
     refine tn hk2.2 hl2 hc2.2 ⟨f,h2,?_,hc2.1.1⟩;exact hk2.1.sam ((sL T p a).trans (sM T _ a (b::r'))).s ⟨rfl,rfl,rfl⟩
 | [],_::_,_,_,h,_,_=>h.elim
 | _::_,[],_,_,h,_,_=>h.elim
theorem wR {T:Tm}:∀ (l:List Lev) (p:Option Lev),gsP T p l=l->Clo T l/\(∀ q a r,p=some q->l=a::r->Le (mt a (cyu T q a)) a)
 | [],_,_=>⟨trivial,fun _ _ _ _ h=>by cases h⟩
 | a::r,p,h=>by
   obtain ⟨h1,h2⟩:=List.cons.inj (show gsB T (gsA T p a) a r::gsP T (some (gsB T (gsA T p a) a r)) r=a::r from h);have la:=sL T p a;have lb:=sM T (gsA T p a) a r;rw [h1] at lb h2;have ea:gsA T p a=a:=(lb.anti la)
   obtain ⟨c1,c2⟩:=wR r (some a) h2;refine ⟨?_,fun q x s hp hl=>?_⟩
   . cases r with
     | nil=>trivial
     | cons b r'=>
       refine ⟨⟨c2 a b r' rfl rfl,?_⟩,c1⟩;rw [ea] at h1;have:mt a (cyd T a b)=a:=h1;rw [this];exact Le.refl a
   . obtain ⟨e1,_⟩:=List.cons.inj hl
     subst e1;subst hp;have:mt a (cyu T q a)=a:=ea;rw [this];exact Le.refl a
def far:List Lev->List Lev->Nat
 | a::r,f::s=>(f.pl-a.pl).toNat+(a.ph-f.ph).toNat+far r s
 | _,_=>0
theorem wS:∀ {l m F:List Lev},LeL l m->LeL m F->far m F<=far l F
 | [],[],[],_,_=>Nat.le_refl _
 | a::r,b::s,f::t,h1,h2=>by
   have:=wS h1.2 h2.2;have:=h1.1.lo;have:=h1.1.hi;unfold far;omega
 | [],_::_,_,h,_=>h.elim
 | _::_,[],_,h,_=>h.elim
 | _,[],_::_,_,h=>h.elim
 | _,_::_,[],_,h=>h.elim
theorem wT:∀ {l m F:List Lev},LeL l m->LeL m F->l≠m->far m F<far l F
 | [],[],[],_,_,h=>absurd rfl h
 | a::r,b::s,f::t,h1,h2,hne=>by
   have l1:=h1.1.lo;have l2:=h1.1.hi;have l3:=h2.1.lo;have l4:=h2.1.hi;by_cases e:a=b
   . subst e
     have:=wT h1.2 h2.2 (fun e=>hne (by rw [e]));unfold far;omega
   . have h5:=wS h1.2 h2.2
     have:a.pl<b.pl\/b.ph<a.ph:=by
       refine Classical.byContradiction fun hn=>e ?_
       refine h1.1.anti ⟨⟨h1.1.s.1.symm,h1.1.s.2.1.symm,h1.1.s.2.2.symm⟩,?_,?_⟩<;>omega
     unfold far;omega
 | [],_::_,_,h,_,_=>h.elim
 | _::_,[],_,h,_,_=>h.elim
 | _,[],_::_,_,h,_=>h.elim
 | _,_::_,[],_,h,_=>h.elim
theorem uy {T:Tm} {l m:List Lev} (hk:Lks T l) (hp:∀ x∈l,Pos x) (h1:LeL l m) (h2:LeL m (O4 T l)):LeL l (gsP T none m)/\LeL (gsP T none m) (O4 T l)/\(gsP T none m=m->m=O4 T l)/\(gsP T none m≠m->far (gsP T none m) (O4 T l)<far m (O4 T l)):=by
 have hc:=(NI hk hp).1;have hu:=tn (p:=none) (hk.le h1) h2 hc trivial;refine ⟨h1.trans (ux T m none),hu,fun e=>sd hk h1 h2 (wR m none e).1,fun e=>wT (ux T m none) hu fun h=>e h.symm⟩
theorem WG {w s s' x:Int} (hw:0<w) (h0:0<=s') (h:s'<=s) (hx:0<=x):C9 w s x<=C9 w s' x:=by
 unfold C9;rw [K4 (by omega)];have h1:x*w<=cdv (x*w) (w+s')*(w+s'):=(K4 (by omega)).1 (Int.le_refl _)
 have h2:0<=cdv (x*w) (w+s'):=by
   rw [K5 (by omega)];have:0<=x*w:=Int.mul_nonneg hx (by omega);omega
 have h3:cdv (x*w) (w+s')*(w+s')<=cdv (x*w) (w+s')*(w+s):=Int.mul_le_mul_of_nonneg_left (by omega) h2;omega
theorem MN {c s s' x:Int} (hc:0<c) (h:s'<=s) (hx:0<=x):CY c s x<=CY c s' x:=
 Int.ediv_le_ediv hc (Int.mul_le_mul_of_nonneg_left (by omega) hx)
theorem Tn {c s x:Int} (hc:0<c) (h:0<=s) (hx:0<=x):CY c s x<=x:=by
 have h1:=MN hc h hx;have:CY c 0 x=x:=by unfold CY;rw [Int.sub_zero,Int.mul_ediv_cancel _ (by omega)]
 omega
theorem PZ {c s x:Int} (hc:0<c) (h:s<=c) (hx:0<=x):0<=CY c s x:=Int.ediv_nonneg (Int.mul_nonneg hx (by omega)) (by omega)
theorem xf {w s x:Int} (hw:0<w) (h:0<=s) (hx:0<=x):C9 w s x<=x:=by
 unfold C9;rw [K4 (by omega)];exact Int.mul_le_mul_of_nonneg_left (by omega) hx
theorem Tp {w s x:Int} (hw:0<w) (h:0<=s) (hx:0<=x):x<=Cz w s x:=by
 unfold Cz;rw [Int.le_ediv_iff_mul_le hw];exact Int.mul_le_mul_of_nonneg_left (by omega) hx
theorem AQD {c w s x y:Int} (k:Lk c w s) (hx:0<=x) (h:x<=y):CY c s x<=C9 w s y:=by
 have h1:Cz w s (CY c s x)<=x:=by
   have hp:=k.prod;obtain ⟨h1,h2,h3⟩:=k;have hy:CY c s x*c<=x*(c-s):=by unfold CY;exact Int.ediv_mul_le _ (by omega)
   have hz:0<=CY c s x:=PZ (by omega) (by omega) hx
   generalize CY c s x=z at*
   unfold Cz
   have:z*(w+s)<=x*w:=by
     refine Int.le_of_mul_le_mul_left (a:=c) ?_ (by omega);have e1:c*(z*(w+s))=(z*c)*(w+s):=by grind
     have e2:(z*c)*(w+s)<=(x*(c-s))*(w+s):=Int.mul_le_mul_of_nonneg_right hy (by omega);have e3:(x*(c-s))*(w+s)=x*((w+s)*(c-s)):=by grind
     have e4:x*((w+s)*(c-s))<=x*(w*c):=Int.mul_le_mul_of_nonneg_left hp hx;have e5:x*(w*c)=c*(x*w):=by grind
     omega
   calc z*(w+s)/w<=(x*w)/w:=Int.ediv_le_ediv (by omega) this
     _=x:=Int.mul_ediv_cancel _ (by omega)
 have hz:0<=CY c s x:=PZ (by have:=k.s0;have:=k.sc;omega) (by have:=k.sc;omega) hx;obtain ⟨q1,q2,q3⟩:=k;unfold C9;rw [K5 (by omega)]
 have h2:CY c s x*(w+s)<(x+1)*w:=by
   have:CY c s x*(w+s)/w<x+1:=by unfold Cz at h1;omega
   exact (Int.ediv_lt_iff_lt_mul (by omega)).1 this
 have e1:(x+1)*w=x*w+w:=by rw [Int.add_mul];omega
 have e2:(CY c s x-1)*(w+s)=CY c s x*(w+s)-(w+s):=by rw [Int.sub_mul];omega
 have e3:x*w<=y*w:=Int.mul_le_mul_of_nonneg_right h (by omega);omega
def prs (T:Tm):List Lev->Int->Int × Int
 | a::b::r,h=>if h<=a.h then (a.pl,a.ph) else if h<b.h then (max (CY (lc T a b) (341632*(h-a.h)) a.pl) b.pl,C9 (lw T a b) (341632*(h-a.h)) a.ph) else prs T (b::r) h
 | [a],_=>(a.pl,a.ph)
 | [],_=>(0,0)
structure LevB (x:Lev):Prop where
 lo:1000<=x.pl
 in':x.pl<=x.ph
 hi:x.ph<=12000
def Inc:List Lev->Prop
 | a::b::r=>a.h<b.h/\Inc (b::r)
 | _=>True
structure Snd (T:Tm) (l:List Lev):Prop where
 inc:Inc l
 lk:Lks T l
 clo:Clo T l
 lev:∀ x∈l,LevB x
theorem Snd.tail {T:Tm} {a b:Lev} {r:List Lev} (h:Snd T (a::b::r)):Snd T (b::r):=
 ⟨h.inc.2,h.lk.2,h.clo.2,fun x hx=>h.lev x (List.mem_cons_of_mem _ hx)⟩
theorem Tq {T:Tm} {a b:Lev} (k:LkP T a b) {h:Int} (h1:a.h<h) (h2:h<=b.h):Lk (lc T a b) (lw T a b) (341632*(h-a.h)):=by
 obtain ⟨q1,q2,q3⟩:=k;unfold ls at q1 q2;exact ⟨by omega,by omega,q3⟩
theorem Tr {T:Tm} {a b:Lev} {r:List Lev} (hs:Snd T (a::b::r)) {h:Int} (h1:a.h<h) (h2:h<b.h):
   b.pl<=max (CY (lc T a b) (341632*(h-a.h)) a.pl) b.pl/\max (CY (lc T a b) (341632*(h-a.h)) a.pl) b.pl<=a.pl/\max (CY (lc T a b) (341632*(h-a.h)) a.pl) b.pl<=C9 (lw T a b) (341632*(h-a.h)) a.ph/\C9 (lw T a b) (341632*(h-a.h)) a.ph<=a.ph:=by
 have la:=hs.lev a (by simp);have lb:=hs.lev b (by simp);have k:=Tq hs.lk.1 h1 (by omega);have k2:=hs.lk.1;have p1:=Tn (s:=341632*(h-a.h)) (show 0<lc T a b by have:=k.s0;have:=k.sc;omega) (by omega) (x:=a.pl) (by have:=la.lo;omega);have p2:=xf (s:=341632*(h-a.h)) (show 0<lw T a b by have:=k.s0;have:=k.sc;have:=k.cw;omega) (by omega) (x:=a.ph) (by have:=la.lo;have:=la.in';omega);have p3:=AQD k (x:=a.pl) (y:=a.ph) (by have:=la.lo;omega) la.in'
 have c1:b.pl<=a.pl:=by
   have:=hs.clo.1.2.lo
   have h3:Cz (lw T a b) (ls a b) b.pl<=a.pl:=by
     unfold mt cyd at this;simp only at this;omega
   have h4:=Tp (w:=lw T a b) (s:=ls a b) (x:=b.pl) (by have:=k2.s0;have:=k2.sc;have:=k2.cw;omega) (by have:=k2.s0;omega) (by have:=lb.lo;omega);omega
 have c2:b.pl<=C9 (lw T a b) (341632*(h-a.h)) a.ph:=by
   have:=hs.clo.1.1.hi
   have h3:b.ph<=C9 (lw T a b) (ls a b) a.ph:=by
     unfold mt cyu at this;simp only at this;omega
   have h4:=WG (w:=lw T a b) (s:=ls a b) (s':=341632*(h-a.h)) (x:=a.ph) (by have:=k.s0;have:=k.sc;have:=k.cw;omega) (by omega) (by unfold ls;omega) (by have:=la.lo;have:=la.in';omega);have:=lb.in';omega
 omega
theorem SL {T:Tm}:∀ {l:List Lev} (h:Int),Snd T l->l≠[]->1000<=(prs T l h).1/\(prs T l h).1<=(prs T l h).2/\(prs T l h).2<=12000
 | [a],h,hs,_=>by have:=hs.lev a (by simp);unfold prs;exact ⟨this.lo,this.in',this.hi⟩
 | a::b::r,h,hs,_=>by
   have la:=hs.lev a (by simp);have lb:=hs.lev b (by simp);unfold prs;by_cases h1:h<=a.h
   . rw [if_pos h1];exact ⟨la.lo,la.in',la.hi⟩
   . rw [if_neg h1]
     by_cases h2:h<b.h
     . rw [if_pos h2]
       have:=Tr hs (show a.h<h by omega) h2;have:=lb.lo;have:=la.hi;simp only;omega
     . rw [if_neg h2];exact SL h hs.tail (by simp)
 | [],_,_,h=>absurd rfl h
theorem JP {T:Tm}:∀ {l:List Lev} {a:Lev} (h:Int),Snd T (a::l)->(prs T (a::l) h).1<=a.pl
 | [],a,h,hs=>Int.le_refl _
 | b::r,a,h,hs=>by
   unfold prs;by_cases h1:h<=a.h
   . rw [if_pos h1];exact Int.le_refl _
   . rw [if_neg h1]
     by_cases h2:h<b.h
     . rw [if_pos h2]
       exact (Tr hs (show a.h<h by omega) h2).2.1
     . rw [if_neg h2]
       have:=JP h hs.tail;have lb:=hs.lev b (by simp);have k2:=hs.lk.1;have:=hs.clo.1.2.lo
       have h3:Cz (lw T a b) (ls a b) b.pl<=a.pl:=by
         unfold mt cyd at this;simp only at this;omega
       have h4:=Tp (w:=lw T a b) (s:=ls a b) (x:=b.pl) (by have:=k2.s0;have:=k2.sc;have:=k2.cw;omega) (by have:=k2.s0;omega) (by have:=lb.lo;omega);omega
theorem ADF {T:Tm}:∀ {l:List Lev} {h h':Int},Snd T l->h<=h'->(prs T l h').1<=(prs T l h).1
 | [],_,_,_,_=>Int.le_refl _
 | [_],_,_,_,_=>Int.le_refl _
 | a::b::r,h,h',hs,hh=>by
   by_cases h1:h<=a.h
   . have:=JP h' hs
     have e:prs T (a::b::r) h=(a.pl,a.ph):=by unfold prs;rw [if_pos h1]
     rw [e];exact this
   . have e1:∀ x,a.h<x->prs T (a::b::r) x=if x<b.h then (max (CY (lc T a b) (341632*(x-a.h)) a.pl) b.pl,C9 (lw T a b) (341632*(x-a.h)) a.ph) else prs T (b::r) x:=fun x hx=>by
       conv=>lhs;unfold prs
       rw [if_neg (by omega)]
     rw [e1 h (by omega),e1 h' (by omega)];by_cases h2:h' < b.h
     . rw [if_pos h2,if_pos (show h<b.h by omega)]
       have la:=hs.lev a (by simp);have k:=Tq hs.lk.1 (show a.h<h' by omega) (by omega);have:=MN (c:=lc T a b) (s:=341632*(h' - a.h)) (s':=341632*(h-a.h)) (x:=a.pl) (by have:=k.s0;have:=k.sc;omega) (by omega) (by have:=la.lo;omega);simp only;omega
     . rw [if_neg h2]
       by_cases h3:h<b.h
       . rw [if_pos h3]
         have:=JP h' hs.tail;simp only;omega
       . rw [if_neg h3];exact ADF hs.tail hh
def WH (T:Tm) (l:List Lev) (a b:Int):Atm:=⟨(prs T l b).1,(prs T l a).2,(T a b).1,(T a b).2⟩
theorem mD {T:Tm} {l:List Lev} (hs:Snd T l) (hne:l≠[]) {a b:Int} (hab:a<=b) (hT:1500<=(T a b).1/\(T a b).1<=(T a b).2/\(T a b).2<=3500):Fx (WH T l a b):=by
 have h1:=SL a hs hne;have h2:=SL b hs hne;have h3:=ADF hs hab;exact ⟨by unfold WH;simp only;omega,hT⟩
end Go.Air
namespace Go.Proofs.Tryz
open Go.Psl
open Go.Air
theorem ATH (lo hi:Int) (l:List Int):l.any (fun n=>decide (n<lo)||decide (hi<n))=!rgB lo hi l:=by
 unfold rgB;rw [<-Sa];congr 1
 funext n
 by_cases h1:n<lo<;>by_cases h2:hi<n<;>simp [h1,h2]<;>omega
theorem ZI (lo hi n:Int):Ct prog 179 [vi n, .d (.ref [di lo]), .d (.ref [di hi])] (vb (decide (n<lo)||decide (hi<n))) []:=by
 by_cases h1:n<lo
 . refine CB func179 Acb fun E hE=>?_
   simp [p179,h1];apply RZ;simp [results179]
 . refine CB func179 Acb fun E hE=>?_
   simp [p179,h1];apply RZ;simp [results179]
theorem zM (lo hi:Int) (l:List Int) (hl:l.length<=1000000):Ct prog 102 [vi lo,vi hi, .d (Qw l)] (vb (rgB lo hi l)) []:=by
 have c:=ABQ l 179 [.ref [di lo], .ref [di hi]] (fun n=>decide (n<lo)||decide (hi<n)) (by omega) fun n _=>ZI lo hi n
 rw [ATH] at c;refine CB func102 c102 fun E hE=>?_
 simp [p102];refine CLa c ?_;simp;apply RZ;simp [results102]
theorem Zi (lo hi n:Int):Ct prog 144 [vi n, .d (.ref [di lo]), .d (.ref [di hi])] (vb (decide (n<lo)||decide (hi<n))) []:=by
 by_cases h1:n<lo
 . refine CB func144 ASg fun E hE=>?_
   simp [p144,h1];apply RZ;simp [results144]
 . refine CB func144 ASg fun E hE=>?_
   simp [p144,h1];apply RZ;simp [results144]
theorem AaH (lo hi:Int) (l:List Int) (hl:l.length<=1000000):Ct prog 71 [vi lo,vi hi, .d (Qw l)] (vb (rgB lo hi l)) []:=by
 have c:=ABQ l 144 [.ref [di lo], .ref [di hi]] (fun n=>decide (n<lo)||decide (hi<n)) (by omega) fun n _=>Zi lo hi n
 rw [ATH] at c;refine CB func71 c71 fun E hE=>?_
 simp [p71];refine CLa c ?_;simp;apply RZ;simp [results71]
theorem iw (a b lo hi:Int):Ct prog 157 [vsp a b,vi lo,vi hi] (vb (spB lo hi a b)) []:=by
 have c:=zM lo hi [a,b] (by simp);by_cases h:a<=b
 . have e:spB lo hi a b=rgB lo hi [a,b]:=by unfold spB;simp [h]
   refine CB func157 AcW fun E hE=>?_
   simp [p157,AA,AM,h];refine CLb (c) (by simp [Ap]) ?_;simp;apply RZ;simp [results157,e]
 . have e:spB lo hi a b=false:=by unfold spB;simp [h]
   refine CB func157 AcW fun E hE=>?_
   simp [p157,h];apply RZ;simp [results157,e]
def Dy (l:List Lev) (i:Nat):Bool:=match l[i]? with
 | some x=>rgB (-500) 9000 [x.h]&&(if i=0 then true else match l[i-1]? with | some y=>rgB 1 2000 [x.h-y.h] | none=>true)
 | none=>true
def Ij (x:Lev):Bool:=spB 1000 12000 x.pl x.ph&&spB 1500 3500 x.tl x.th
def FG (l:List Lev):Bool:=(List.range l.length).all (Dy l)&&rgB 2 16 [(l.length:Int)]
def GC (l:List Lev):Bool:=FG l&&l.all Ij
theorem PK {l:List Lev} {i:Nat} (hi:i<l.length) (h:Dy l i=false):FG l=false:=by
 unfold FG
 have:(List.range l.length).all (Dy l)=false:=by
   rw [List.all_eq_false];exact ⟨i,by simp [hi],by simp [h]⟩
 simp [this]
theorem Vv {l:List Lev} (h:∀ j,j<l.length->Dy l j=true):FG l=rgB 2 16 [(l.length:Int)]:=by
 unfold FG
 have:(List.range l.length).all (Dy l)=true:=by
   rw [List.all_eq_true];intro j hj;exact h j (by simpa using hj)
 simp [this]
theorem jB (x:Lev):Ct prog 176 [AYH x] (vi x.h) []:=by
 refine CB func176 c176 fun E hE=>?_
 simp [p176];apply RZ;simp [results176]
theorem AAF (x:Lev):Ct prog 174 [AYH x] (vb (!Ij x)) []:=by
 have c1:=iw x.pl x.ph 1000 12000;have c2:=iw x.tl x.th 1500 3500;cases h1:spB 1000 12000 x.pl x.ph
 . rw [h1] at c1
   refine CB func174 Aca fun E hE=>?_
   simp [p174];refine CLa c1 ?_;simp;apply RZ;simp [results174,Ij,h1]
 . rw [h1] at c1
   refine CB func174 Aca fun E hE=>?_
   simp [p174];refine CLa c1 ?_;simp;refine CLa c2 ?_;simp;apply RZ;simp [results174,Ij,h1]
theorem YZ (l:List Lev) (hl:l.length<=1000000):Ct prog 175 [.d (BF l), .d (.fn 176 [])] (vb (FG l)) []:=by
 refine CB func175 c175 fun E hE=>?_
 simp [p175];refine Al (α:=Nat) (fun i=>⟨AO [(0, .d (BF l)),(1, .d (.fn 176 [])),(8, .d (BF l)),(9,vi l.length),(10,vi i)],lk [],0⟩) (fun i=>i<=l.length/\∀ j,j<i->Dy l j=true) (fun i=>l.length-i) 0 ?_ ?_ ?_
 . exact ⟨by omega,fun j hj=>by omega⟩
 . exact WK hE (lk [])
 . rintro i ⟨hi,hg⟩
   by_cases h:i<l.length
   . obtain ⟨x,hx⟩:=gE h
     have hz:=@wz i (by omega);have hI:(i:Int)<l.length:=by omega
     have c1:=jB x;have c2:=zM (-500) 9000 [x.h] (by simp);cases h1:rgB (-500) 9000 [x.h]
     . have hbad:=PK h (by unfold Dy;rw [hx];simp [h1])
       rw [h1] at c2;simp [bI,hI,hx,AA];refine CLa c1 ?_;simp [AA,AM];refine CLb (c2) (by simp [AG]) ?_;simp;apply RZ;simp [results175,hbad]
     . rw [h1] at c2
       by_cases h0:i=0
       . subst h0
         have hx0:l[0]?= some x:=hx;rw [List.getElem?_eq_getElem h] at hx;have hx':=Option.some.inj hx;simp [bI,h,hx',AA];refine CLa c1 ?_;simp [AA,AM];refine CLb (c2) (by simp [AG]) ?_;simp [show IntKind.wrap .i64 1=1 by decide];refine ⟨1,⟨by omega,fun j hj=>?_⟩,by omega,?_⟩
         . have:j=0:=by omega
           subst this;unfold Dy;rw [hx0];simp [h1]
         . exact WK hE (lk [])
       . obtain ⟨y,hy⟩:∃ y,l[i-1]?= some y:=⟨_,List.getElem?_eq_getElem (by omega)⟩
         have hw:IntKind.wrap .i64 ((i:Int)-1)=((i-1:Nat):Int):=by rw [AD (by omega) (by omega)];omega
         have hI0:0<i:=by omega
         have hxb: -500<=x.h/\x.h<=9000:=by simp [rgB] at h1;omega
         have hyb: -500<=y.h/\y.h<=9000:=by
           have:=hg (i-1) (by omega);unfold Dy at this;rw [hy] at this;simp [rgB] at this;omega
         have hwd:IntKind.wrap .i64 (x.h-y.h)=x.h-y.h:=AD (by omega) (by omega);have c3:=jB y;have c4:=zM 1 2000 [x.h-y.h] (by simp);have e:Dy l i=rgB 1 2000 [x.h-y.h]:=by unfold Dy;rw [hx];simp [h1,h0,hy]
         cases h2:rgB 1 2000 [x.h-y.h]
         . rw [h2] at c4
           have hbad:=PK h (by rw [e,h2]);simp [bI,hI,hx,AA];refine CLa c1 ?_;simp [AA,AM];refine CLb (c2) (by simp [AG]) ?_;simp [hI0,hw,hy];refine CLa c3 ?_;simp [AA,AM,hwd];refine CLb (c4) (by simp [AG]) ?_;simp;apply RZ;simp [results175,hbad]
         . rw [h2] at c4
           simp [bI,hI,hx,AA];refine CLa c1 ?_;simp [AA,AM];refine CLb (c2) (by simp [AG]) ?_;simp [hI0,hw,hy];refine CLa c3 ?_;simp [AA,AM,hwd];refine CLb (c4) (by simp [AG]) ?_;simp [hz];refine ⟨i+1,⟨by omega,fun j hj=>?_⟩,by omega,?_⟩
           . by_cases hj2:j=i
             . subst hj2;rw [e,h2]
             . exact hg j (by omega)
           . exact WK hE (lk [])
   . have e:i=l.length:=by omega
     have hn:¬ (i:Int)<l.length:=by omega
     have c:=zM 2 16 [(l.length:Int)] (by simp);have hall:=Vv (l:=l) (by rw [<-e];exact hg);simp [bI,hn,AA,AM];refine CLb (c) (by simp [AG]) ?_;simp;apply RZ;simp [results175,hall]
theorem zN (l:List Lev) (hl:l.length<=1000000):Ct prog 100 [.d (BF l)] (vi (if GC l then 0 else 20)) []:=by
 have c1:=YZ l hl;have c2:=jR l 174 [] (fun x=>!Ij x) (by omega) fun x _=>AAF x
 rw [Sa] at c2;have e:GC l=(FG l&&l.all Ij):=rfl
 generalize FG l=b1 at*
 generalize l.all Ij=b2 at*
 rw [e]
 cases b1<;>cases b2<;>(
   refine CB func100 c100 fun E hE=>?_
   simp [p100]
   repeat ((first | (refine CLt c1 ?_ ?_;focus (simp;done)) | (refine CLt c2 ?_ ?_;focus (simp;done)));simp)
   apply RZ;simp [results100])
abbrev DA (l:List (Int × Int × Int)):D:= .sl 3 (l.map fun k=>[di k.1,di k.2.1,di k.2.2])
def okK (k:Int × Int × Int):Bool:=decide (-1073741824<=k.1)&&decide (k.1<=1073741824)&&decide (-1073741824<=k.2.1)&&decide (k.2.1<=k.2.2)&&decide (k.2.2<=1073741824)
def C3 (l:List (Int × Int × Int)) (i:Nat):Bool:=match l[i]? with
 | some k=>okK k&&(decide (i=0)||match l[i-1]? with | some p=>decide (p.1<k.1) | none=>true)
 | none=>true
def DV (l:List (Int × Int × Int)) (i:Nat):Bool:=(List.range i).all (C3 l)
def LL (l:List (Int × Int × Int)):Bool:=decide (2<=l.length)&&decide (l.length<=32)&&DV l l.length
theorem Ji (l:List (Int × Int × Int)) (i:Nat):DV l (i+1)=(DV l i&&C3 l i):=by simp [DV,List.range_succ]
theorem F8 {l:List (Int × Int × Int)} {i:Nat} (h:i<l.length) (hb:C3 l i=false):DV l l.length=false:=by
 unfold DV;rw [List.all_eq_false];exact ⟨i,List.mem_range.2 h,by simp [hb]⟩
theorem FE {k:Int × Int × Int}:okK k=true↔ -1073741824<=k.1/\k.1<=1073741824/\ -1073741824<=k.2.1/\k.2.1<=k.2.2/\k.2.2<=1073741824:=by
 unfold okK;simp only [Bool.and_eq_true,decide_eq_true_eq];omega
theorem HZ {l:List (Int × Int × Int)} {k:Int × Int × Int} (h:l[0]?= some k):C3 l 0=okK k:=by simp [C3,h]
theorem FF {l:List (Int × Int × Int)} {i:Nat} {k p:Int × Int × Int} (h:l[i+1]?= some k) (hp:l[i]?= some p):C3 l (i+1)=(okK k&&decide (p.1<k.1)):=by simp [C3,h,hp]
theorem JF {k:Int × Int × Int} (h:min k.1 k.2.1 < -1073741824\/1073741824<max k.1 k.2.2\/k.2.2<k.2.1):okK k=false:=by
 have:¬ okK k=true:=by rw [FE];omega
 simpa using this
theorem AAJ (l:List (Int × Int × Int)) (hl:l.length<=1000000):Ct prog 249 [.d (DA l)] (vi (if LL l then 0 else 13)) []:=by
 refine CB func249 c249 fun E hE=>?_
 by_cases h2:l.length<2
 . have h2':(l.length:Int)<2:=by omega
   simp [p249,h2'];apply RZ;simp [results249,LL];omega
 by_cases h3:32<l.length
 . have h2':¬ (l.length:Int)<2:=by omega
   have h3':(32:Int)<l.length:=by omega
   simp [p249,h2',h3'];apply RZ;simp [results249,LL];omega
 have h2':¬ (l.length:Int)<2:=by omega
 have h3':¬ (32:Int)<l.length:=by omega
 simp [p249,h2',h3'];refine Al (α:=Nat) (fun i=>⟨AO [(0, .d (DA l)),(13, .d (DA l)),(14,vi l.length),(15,vi i)],lk [],0⟩) (fun i=>i<=l.length/\DV l i=true) (fun i=>l.length-i) 0 ?_ ?_ ?_
 . simp [DV]
 . exact WK hE (lk [])
 . rintro i ⟨hi,hg⟩
   simp [wZ];refine DW (fun h=>?_) (fun h=>?_)
   . simp at h
     have hil:i<l.length:=by omega
     obtain ⟨k,hk⟩:∃ k,l[i]?= some k:=⟨l[i],by simp [hil]⟩
     by_cases h0:i=0
     . subst h0
       have e:C3 l 0=okK k:=HZ hk;have hz:IntKind.wrap .i64 1=1:=by decide
       by_cases c1:min k.1 k.2.1 < -1073741824
       . have hb:C3 l 0=false:=by simp [e,JF (Or.inl c1)]
         simp [hk,AA,c1];apply RZ;simp [results249,LL,F8 hil hb]
       by_cases c2:1073741824<max k.1 k.2.2
       . have hb:C3 l 0=false:=by simp [e,JF (Or.inr (Or.inl c2))]
         simp [hk,AA,c1,c2];apply RZ;simp [results249,LL,F8 hil hb]
       by_cases c3:k.2.2<k.2.1
       . have hb:C3 l 0=false:=by simp [e,JF (Or.inr (Or.inr c3))]
         simp [hk,AA,c1,c2,c3];apply RZ;simp [results249,LL,F8 hil hb]
       have hk1:okK k=true:=by rw [FE];omega
       simp [hk,AA,c1,c2,c3,hz];refine ⟨1,⟨by omega,by rw [Ji,hg,e,hk1];rfl⟩,by omega,?_⟩;exact WK hE (lk [])
     . obtain ⟨j,hj⟩:∃ j,i=j+1:=⟨i-1,by omega⟩
       obtain ⟨p,hp⟩:∃ p,l[j]?= some p:=⟨l[j],by simp [show j<l.length by omega]⟩
       have e:C3 l i=(okK k&&decide (p.1<k.1)):=by subst hj;exact FF hk hp
       have hz:IntKind.wrap .i64 ((i:Int)+1)=(i:Int)+1:=AD (by omega) (by omega);have hz2:IntKind.wrap .i64 ((i:Int)-1)=(j:Int):=by rw [AD (by omega) (by omega)];omega
       have hpos:0<i:=by omega
       by_cases c1:min k.1 k.2.1 < -1073741824
       . have hb:C3 l i=false:=by simp [e,JF (Or.inl c1)]
         simp [hk,AA,c1];apply RZ;simp [results249,LL,F8 hil hb]
       by_cases c2:1073741824<max k.1 k.2.2
       . have hb:C3 l i=false:=by simp [e,JF (Or.inr (Or.inl c2))]
         simp [hk,AA,c1,c2];apply RZ;simp [results249,LL,F8 hil hb]
       by_cases c3:k.2.2<k.2.1
       . have hb:C3 l i=false:=by simp [e,JF (Or.inr (Or.inr c3))]
         simp [hk,AA,c1,c2,c3];apply RZ;simp [results249,LL,F8 hil hb]
       have hk1:okK k=true:=by rw [FE];omega
       by_cases c4:k.1<=p.1
       . have hb:C3 l i=false:=by rw [e,decide_eq_false (by omega)];simp
         simp [hk,hp,AA,c1,c2,c3,c4,hz2,hpos];apply RZ;simp [results249,LL,F8 hil hb]
       simp [hk,hp,AA,c1,c2,c3,c4,hz,hz2,hpos];refine ⟨i+1,⟨by omega,by rw [Ji,hg,e,hk1,decide_eq_true (by omega)];rfl⟩,by omega,?_⟩;exact WK hE (lk [])
   . simp at h
     have hil:i=l.length:=by omega
     subst hil;simp;apply RZ;simp [results249,LL,hg];omega
theorem nB {k:Int × Int × Int} (h:¬ (-1073741824<=k.1/\k.1<=1073741824/\ -1073741824<=k.2.1/\k.2.1<=k.2.2/\k.2.2<=1073741824)):okK k=false:=by
 rw [<-FE] at h;simpa using h
theorem zU (l:List (Int × Int × Int)) (hl:l.length<=1000000):Ct prog 268 [.d (DA l)] (vb (LL l)) []:=by
 refine CB func268 c268 fun E hE=>?_
 simp [p268];refine CLa (zT l.length 2 32) ?_;by_cases h2:l.length<2
 . have h2':¬ (2:Int)<=l.length:=by omega
   simp [h2'];apply RZ;simp [results268,LL];omega
 by_cases h3:32<l.length
 . have h3':¬ (l.length:Int)<=32:=by omega
   simp [h3'];apply RZ;simp [results268,LL];omega
 have h2':(2:Int)<=l.length:=by omega
 have h3':(l.length:Int)<=32:=by omega
 simp [h2',h3'];refine Al (α:=Nat) (fun i=>⟨AO [(0, .d (DA l)),(3,vi i)],lk [],0⟩) (fun i=>i<=l.length/\DV l i=true) (fun i=>l.length-i) 0 ?_ ?_ ?_
 . simp [DV]
 . exact WK hE (lk [])
 . rintro i ⟨hi,hg⟩
   simp [AZE];refine DW (fun h=>?_) (fun h=>?_)
   . simp at h
     have hil:i<l.length:=by omega
     obtain ⟨k,hk⟩:∃ k,l[i]?= some k:=⟨l[i],by simp [hil]⟩
     by_cases h0:i=0
     . subst h0
       have e:C3 l 0=okK k:=HZ hk;have hz:IntKind.wrap .i64 1=1:=by decide
       by_cases c1: -1073741824<=k.1/\k.1<=1073741824
       case neg=>
         have hb:C3 l 0=false:=by simp [e,nB (k:=k) (by omega)]
         simp [hk,AA];refine CLa (zT k.1 (-1073741824) 1073741824) ?_;have c1':(decide (-1073741824<=k.1)&&decide (k.1<=1073741824))=false:=by simp;omega
         simp [c1'];apply RZ;simp [results268,LL,F8 hil hb]
       by_cases c2: -1073741824<=k.2.1/\k.2.1<=k.2.2
       case neg=>
         have hb:C3 l 0=false:=by simp [e,nB (k:=k) (by omega)]
         simp [hk,AA];refine CLa (zT k.1 (-1073741824) 1073741824) ?_;simp [c1];refine CLa (zT k.2.1 (-1073741824) k.2.2) ?_;have c2':(decide (-1073741824<=k.2.1)&&decide (k.2.1<=k.2.2))=false:=by simp;omega
         simp [c2'];apply RZ;simp [results268,LL,F8 hil hb]
       by_cases c3:k.2.2<=1073741824
       case neg=>
         have hb:C3 l 0=false:=by simp [e,nB (k:=k) (by omega)]
         simp [hk,AA];refine CLa (zT k.1 (-1073741824) 1073741824) ?_;simp [c1];refine CLa (zT k.2.1 (-1073741824) k.2.2) ?_;simp [c2];refine CLa (zT k.2.2 k.2.1 1073741824) ?_;simp [c2,c3];apply RZ;simp [results268,LL,F8 hil hb]
       have hk1:okK k=true:=by rw [FE];omega
       simp [hk,AA];refine CLa (zT k.1 (-1073741824) 1073741824) ?_;simp [c1];refine CLa (zT k.2.1 (-1073741824) k.2.2) ?_;simp [c2];refine CLa (zT k.2.2 k.2.1 1073741824) ?_;simp [c2,c3,hz];refine ⟨1,⟨by omega,by rw [Ji,hg,e,hk1];rfl⟩,by omega,?_⟩;exact WK hE (lk [])
     . obtain ⟨j,hj⟩:∃ j,i=j+1:=⟨i-1,by omega⟩
       obtain ⟨p,hp⟩:∃ p,l[j]?= some p:=⟨l[j],by simp [show j<l.length by omega]⟩
       have e:C3 l i=(okK k&&decide (p.1<k.1)):=by subst hj;exact FF hk hp
       have hz:IntKind.wrap .i64 ((i:Int)+1)=(i:Int)+1:=AD (by omega) (by omega);have hz2:IntKind.wrap .i64 ((i:Int)-1)=(j:Int):=by rw [AD (by omega) (by omega)];omega
       have hpos:0<i:=by omega
       by_cases c1: -1073741824<=k.1/\k.1<=1073741824
       case neg=>
         have hb:C3 l i=false:=by simp [e,nB (k:=k) (by omega)]
         simp [hk,AA];refine CLa (zT k.1 (-1073741824) 1073741824) ?_;have c1':(decide (-1073741824<=k.1)&&decide (k.1<=1073741824))=false:=by simp;omega
         simp [c1'];apply RZ;simp [results268,LL,F8 hil hb]
       by_cases c2: -1073741824<=k.2.1/\k.2.1<=k.2.2
       case neg=>
         have hb:C3 l i=false:=by simp [e,nB (k:=k) (by omega)]
         simp [hk,AA];refine CLa (zT k.1 (-1073741824) 1073741824) ?_;simp [c1];refine CLa (zT k.2.1 (-1073741824) k.2.2) ?_;have c2':(decide (-1073741824<=k.2.1)&&decide (k.2.1<=k.2.2))=false:=by simp;omega
         simp [c2'];apply RZ;simp [results268,LL,F8 hil hb]
       by_cases c3:k.2.2<=1073741824
       case neg=>
         have hb:C3 l i=false:=by simp [e,nB (k:=k) (by omega)]
         simp [hk,AA];refine CLa (zT k.1 (-1073741824) 1073741824) ?_;simp [c1];refine CLa (zT k.2.1 (-1073741824) k.2.2) ?_;simp [c2];refine CLa (zT k.2.2 k.2.1 1073741824) ?_;simp [c2,c3];apply RZ;simp [results268,LL,F8 hil hb]
       have hk1:okK k=true:=by rw [FE];omega
       simp [hk,AA];refine CLa (zT k.1 (-1073741824) 1073741824) ?_;simp [c1];refine CLa (zT k.2.1 (-1073741824) k.2.2) ?_;simp [c2];refine CLa (zT k.2.2 k.2.1 1073741824) ?_;by_cases c4:k.1<=p.1
       . have hb:C3 l i=false:=by rw [e,decide_eq_false (by omega)];simp
         simp [hk,hp,c2,c3,c4,hz2,hpos];apply RZ;simp [results268,LL,F8 hil hb]
       simp [hk,hp,c2,c3,c4,hz,hz2,hpos];refine ⟨i+1,⟨by omega,by rw [Ji,hg,e,hk1,decide_eq_true (by omega)];rfl⟩,by omega,?_⟩;exact WK hE (lk [])
   . simp at h
     have hil:i=l.length:=by omega
     subst hil;simp;apply RZ;simp [results268,LL,hg];omega
theorem Zl {a b:Int} (hb:0<b):a.tdiv b=if 0<=a\/a%b=0 then a/b else a/b+1:=by
 rw [Int.tdiv_eq_ediv];by_cases h:0<=a\/b ∣ a
 . rw [if_pos h,if_pos]
   . simp
   . exact h.imp id Int.emod_eq_zero_of_dvd
 . rw [if_neg h,if_neg]
   . rw [Int.sign_eq_one_of_pos hb]
   . exact fun h2=>h (h2.imp id Int.dvd_of_emod_eq_zero)
theorem AaU (a b:Int) (ha: -9223372036854775807<=a/\a<=9223372036854775807) (hb:1<=b) (hb2:b<=9223372036854775807):Ct prog 292 [vi a,vi b] (vi (a/b)) []:=by
 refine CB func292 c292 fun E hE=>?_
 have e:=Int.mul_ediv_add_emod a b;have m0:=Int.emod_nonneg a (show b≠0 by omega);have m1:=Int.emod_lt_of_pos a (show 0<b by omega);have t:=Zl (a:=a) (b:=b) (by omega)
 have q0: -9223372036854775807<=a/b:=by
   refine (Int.le_ediv_iff_mul_le (by omega)).2 ?_;have:=Int.mul_le_mul_of_nonneg_left hb (show (0:Int)<=9223372036854775807 by omega);omega
 have q1:a/b<=9223372036854775807:=by
   by_cases h0:0<=a
   . exact Int.le_trans (Int.ediv_le_self _ h0) ha.2
   . have:=Int.ediv_neg_of_neg_of_pos (show a<0 by omega) (show 0<b by omega)
     omega
 rw [Int.mul_comm] at e;have bn:¬ b=0:=by omega
 by_cases hc:0<=a\/a%b=0
 . rw [if_pos hc] at t
   have w1:IntKind.wrap .i64 (a/b)=a/b:=AD (by omega) (by omega);have w2:IntKind.wrap .i64 (a/b*b)=a/b*b:=AD (by omega) (by omega);have hn:¬ a<a/b*b:=by omega
   simp [p292,bn,t,w1,w2,hn];apply RZ;simp [results292]
 . rw [if_neg hc] at t
   have hneg:a<0:=by omega
   have q2:=Int.ediv_neg_of_neg_of_pos hneg (show 0<b by omega);have e2:(a/b+1)*b=a/b*b+b:=by rw [Int.add_mul];omega
   have e3:(a/b+1)*b<=0:=Int.mul_nonpos_of_nonpos_of_nonneg (by omega) (by omega);have w1:IntKind.wrap .i64 (a/b+1)=a/b+1:=AD (by omega) (by omega);have w2:IntKind.wrap .i64 ((a/b+1)*b)=(a/b+1)*b:=AD (by omega) (by omega);have hn:a<(a/b+1)*b:=by omega
   have w3:IntKind.wrap .i64 (a/b+1-1)=a/b:=by rw [AD (by omega) (by omega)];omega
   have w4:IntKind.wrap .i64 (a/b)=a/b:=AD (by omega) (by omega);simp [p292,bn,t,w1,w2,w4,hn];apply RZ;simp [results292]
theorem zY (n r:Nat) (f:FuncId) (ds:List D) (p:Nat->Bool) (hn:n<=1000000) (hp:∀ i:Nat,i<n->Ct prog f (vi i::ds.map .d) (vb (p i)) []) (hr:r<=n) (h0:∀ i,i<r->p i=false) (h1:∀ i,r<=i->i<n->p i=true):
   Ct prog 290 [vi n, .d (.fn f ds)] (vi r) []:=by
 refine CB func290 c290 fun E hE=>?_
 simp [p290];refine Al (α:=Nat × Nat) (fun x=>⟨AO [(1, .d (.fn f ds)),(5,vi x.1),(6,vi x.2)],lk [],0⟩) (fun x=>x.1<=r/\r<=x.2/\x.2<=n) (fun x=>x.2-x.1) (0,n) ?_ ?_ ?_
 . simp;omega
 . exact WK hE (lk [])
 . rintro ⟨lo,hi⟩ ⟨g1,g2,g3⟩
   simp only at g1 g2 g3;simp [AZG];by_cases hlt:lo<hi
   . have e1:IntKind.wrap .i64 ((lo:Int)+hi)=(lo:Int)+hi:=AD (by omega) (by omega)
     obtain ⟨m,hm⟩:∃ m:Nat,m=(lo+hi)/2:=⟨_,rfl⟩
     have e2:IntKind.wrap .u64 ((lo:Int)+hi)=(lo:Int)+hi:=Ay (by omega) (by omega);have e3:IntKind.wrap .i64 (((lo:Int)+hi)/2)=(m:Int):=by rw [AD (by omega) (by omega)];omega
     have e4:IntKind.wrap .i64 ((m:Int)+1)=((m+1:Nat):Int):=by rw [AD (by omega) (by omega)];rfl
     simp only [Int.natCast_add,Int.cast_ofNat_Int] at e4;simp [hlt,e1,e2,e3];refine CLa (hp m (by omega)) ?_;cases hpm:p m with
     | true=>
       have:r<=m:=Nat.not_lt.1 fun h=>by rw [h0 m h] at hpm;cases hpm
       simp;refine ⟨lo,m,⟨by omega,by omega,by omega⟩,by omega,?_⟩;exact WK hE (lk [])
     | false=>
       have:m<r:=Nat.not_le.1 fun h=>by rw [h1 m h (by omega)] at hpm;cases hpm
       simp [e4];refine ⟨m+1,hi,⟨by omega,by omega,by omega⟩,by omega,?_⟩;exact WK hE (lk [])
   . have:lo=r:=by omega
     subst this;simp [hlt];apply RZ;simp [results290]
theorem mP {l:List (Int × Int × Int)} (h:LL l=true):∀ (d i:Nat) (a b:Int × Int × Int),l[i]?= some a->l[i+d+1]?= some b->a.1<b.1:=by
 have hg:∀ i (k:Int × Int × Int),l[i]?= some k->C3 l i=true:=fun i k hk=>by
   simp only [LL,Bool.and_eq_true,DV,List.all_eq_true] at h;refine h.2 i (List.mem_range.2 ?_);exact (List.getElem?_eq_some_iff.1 hk).1
 have hs:∀ (i:Nat) (a b:Int × Int × Int),l[i]?= some a->l[i+1]?= some b->a.1<b.1:=fun i a b ha hb=>by
   have:=hg (i+1) b hb;rw [FF hb ha] at this;simp only [Bool.and_eq_true,decide_eq_true_eq] at this;exact this.2
 intro d;induction d with
 | zero=>exact hs
 | succ d ih=>
   intro i a b ha hb
   obtain ⟨c,hc⟩:∃ c,l[i+d+1]?= some c:=by
     have:=(List.getElem?_eq_some_iff.1 hb).1;exact ⟨l[i+d+1],by simp⟩
   have h1:=ih i a c ha hc;have h2:=hs (i+d+1) c b hc hb;omega
theorem LT {l:List (Int × Int × Int)} (h:LL l=true) {i j:Nat} {a b:Int × Int × Int} (ha:l[i]?= some a) (hb:l[j]?= some b) (hij:i<j):a.1<b.1:=
 mP h (j-i-1) i a b ha (by rw [show i+(j-i-1)+1=j by omega];exact hb)
theorem AVc {l:List (Int × Int × Int)} (h:LL l=true) {i:Nat} {k:Int × Int × Int} (hk:l[i]?= some k):okK k=true:=by
 simp only [LL,Bool.and_eq_true,DV,List.all_eq_true] at h;have:=h.2 i (List.mem_range.2 (List.getElem?_eq_some_iff.1 hk).1);unfold C3 at this;rw [hk] at this;simp only [Bool.and_eq_true] at this;exact this.1
theorem Qm {l:List (Int × Int × Int)} (h:LL l=true):2<=l.length/\l.length<=32:=by
 simp only [LL,Bool.and_eq_true,decide_eq_true_eq] at h;exact h.1
def Fl (l:List (Int × Int × Int)) (x:Int):Nat:=(l.takeWhile fun k=>decide (k.1<=x)).length
theorem cK (l:List (Int × Int × Int)) (x:Int):Fl l x<=l.length:=by
 unfold Fl;exact (List.takeWhile_sublist _).length_le
theorem AAY:∀ (l:List (Int × Int × Int)) (x:Int) (i:Nat) (k:Int × Int × Int),l[i]?= some k->i<Fl l x->k.1<=x
 | [],_,_,_,h,_=>by simp at h
 | a::l,x,i,k,h,hi=>by
   unfold Fl at hi;by_cases hc:a.1<=x
   . cases i with
     | zero=>simp at h;subst h;exact hc
     | succ i=>
       simp [hc] at hi h;exact AAY l x i k h (by unfold Fl;exact hi)
   . simp [hc] at hi
theorem ADo:∀ (l:List (Int × Int × Int)) (x:Int) (k:Int × Int × Int),l[Fl l x]?= some k->x<k.1
 | [],_,_,h=>by simp at h
 | a::l,x,k,h=>by
   unfold Fl at h;by_cases hc:a.1<=x
   . simp [hc] at h
     exact ADo l x k (by unfold Fl;exact h)
   . simp [hc] at h
     subst h;omega
theorem KC {l:List (Int × Int × Int)} (ht:LL l=true) {x:Int} {i:Nat} {k:Int × Int × Int} (hk:l[i]?= some k) (hi:Fl l x<=i):x<k.1:=by
 have hlt:=(List.getElem?_eq_some_iff.1 hk).1;obtain ⟨c,hc⟩:∃ c,l[Fl l x]?= some c:=⟨l[Fl l x],by simp⟩
 have h1:=ADo l x c hc;by_cases he:Fl l x=i
 . rw [he,hk] at hc;cases hc;exact h1
 . have:=LT ht hc hk (by omega)
   omega
def DB (l:List (Int × Int × Int)) (x:Int):Nat:=min (max (Fl l x) 1) (l.length-1)-1
def Ir (a b:Int × Int × Int) (x:Int):Int × Int:=(a.2.1+(x-a.1)*(b.2.1-a.2.1)/(b.1-a.1),a.2.2-(x-a.1)*(a.2.2-b.2.2)/(b.1-a.1))
def atS (l:List (Int × Int × Int)) (x:Int):Int × Int:=match l[DB l x]?,l[DB l x+1]? with
 | some a,some b=>Ir a b x
 | _,_=>(0,0)
theorem zS (l:List (Int × Int × Int)) (_:l.length<=1000000) (x:Int) (i:Nat) (k:Int × Int × Int) (hk:l[i]?= some k):Ct prog 291 [vi i, .d (.ref [DA l]), .d (.ref [di x])] (vb (decide (x<k.1))) []:=by
 refine CB func291 c291 fun E hE=>?_
 have hil:i<l.length:=(List.getElem?_eq_some_iff.1 hk).1;simp [p291,hk];apply RZ;simp [results291]
theorem It {m w n:Int} (hn:0<n) (h0:0<=m) (h1:m<=n) (hw: -2147483648<=w/\w<=2147483648): -2147483648<=m*w/n/\m*w/n<=2147483648:=by
 have b1:m*w<=2147483648*n:=by
   have h2:m*w<=m*2147483648:=Int.mul_le_mul_of_nonneg_left hw.2 h0;have h3:m*2147483648<=n*2147483648:=Int.mul_le_mul_of_nonneg_right h1 (by omega);omega
 have b2: -2147483648*n<=m*w:=by
   have h2:m* -2147483648<=m*w:=Int.mul_le_mul_of_nonneg_left hw.1 h0;have h3:n* -2147483648<=m* -2147483648:=Int.mul_le_mul_of_nonpos_right h1 (by omega);omega
 refine ⟨(Int.le_ediv_iff_mul_le hn).2 b2,?_⟩;have:=Int.ediv_le_ediv hn b1;rw [Int.mul_ediv_cancel _ (by omega)] at this;exact this
theorem Jm {m w:Int} (h0:0<=m) (h1:m<=2147483648) (hw: -2147483648<=w/\w<=2147483648): -4611686018427387904<=m*w/\m*w<=4611686018427387904:=by
 have h2:m*w<=m*2147483648:=Int.mul_le_mul_of_nonneg_left hw.2 h0;have h3:m* -2147483648<=m*w:=Int.mul_le_mul_of_nonneg_left hw.1 h0;omega
theorem AAI (l:List (Int × Int × Int)) (x:Int) (ht:LL l=true) (h0:∀ k,l[0]?= some k->k.1<=x) (h1:∀ k,l[l.length-1]?= some k->x<=k.1):Ct prog 251 [.d (DA l),vi x] (vsp (atS l x).1 (atS l x).2) []:=by
 have hlen:=Qm ht;have hc:=cK l x;have hs:DB l x+1<l.length:=by unfold DB;omega
 obtain ⟨a,ha⟩:∃ a,l[DB l x]?= some a:=⟨l[DB l x],by simp⟩
 obtain ⟨b,hb⟩:∃ b,l[DB l x+1]?= some b:=⟨l[DB l x+1],by simp⟩
 have hat:atS l x=Ir a b x:=by simp [atS,ha,hb]
 have oa:=FE.1 (AVc ht ha);have ob:=FE.1 (AVc ht hb);have hab:=LT ht ha hb (by omega)
 have hax:a.1<=x:=by
   by_cases hz:DB l x=0
   . rw [hz] at ha;exact h0 a ha
   . exact AAY l x _ a ha (by unfold DB at hz ⊢;omega)
 have hxb:x<=b.1:=by
   by_cases hz:DB l x+1=l.length-1
   . rw [hz] at hb;exact h1 b hb
   . have:=KC ht hb (x:=x) (by unfold DB at hz ⊢;omega)
     omega
 rw [hat];obtain ⟨s,hsg⟩:∃ s,DB l x=s:=⟨_,rfl⟩
 rw [hsg] at ha hb hs
 have hse:Ct prog 290 [vi l.length, .d (.fn 291 [.ref [DA l], .ref [di x]])] (vi (Fl l x)) []:=by
   refine zY l.length (Fl l x) _ _ (fun i=>(l[i]?.map fun k=>decide (x<k.1)).getD false) (by omega) (fun i hi=>?_) hc (fun i hi=>?_) (fun i hi hi2=>?_)
   . obtain ⟨k,hk⟩:∃ k,l[i]?= some k:=⟨l[i],by simp [hi]⟩
     rw [hk];exact zS l (by omega) x i k hk
   . obtain ⟨k,hk⟩:∃ k,l[i]?= some k:=⟨l[i],by simp [show i<l.length by omega]⟩
     have:=AAY l x i k hk hi;simp [hk];omega
   . obtain ⟨k,hk⟩:∃ k,l[i]?= some k:=⟨l[i],by simp [hi2]⟩
     have:=KC ht hk hi;simp [hk];omega
 refine CB func251 c251 fun E hE=>?_
 simp [p251];refine CLa hse ?_;obtain ⟨s1,hs1⟩:∃ s1,s1=s+1:=⟨_,rfl⟩
 rw [<-hs1] at hb;have w0:IntKind.wrap .i64 ((l.length:Int)-1)=(l.length:Int)-1:=AD (by omega) (by omega);have w1:IntKind.wrap .i64 ((s1:Int)-1)=(s:Int):=by rw [AD (by omega) (by omega)];omega
 have hmn:min (max (Fl l x:Int) 1) ((l.length:Int)-1)=(s1:Int):=by unfold DB at hsg;omega
 have w2:IntKind.wrap .i64 (x-a.1)=x-a.1:=AD (by omega) (by omega);have w3:IntKind.wrap .i64 (b.1-a.1)=b.1-a.1:=AD (by omega) (by omega);have w4:IntKind.wrap .i64 (b.2.1-a.2.1)=b.2.1-a.2.1:=AD (by omega) (by omega);have w5:IntKind.wrap .i64 (a.2.2-b.2.2)=a.2.2-b.2.2:=AD (by omega) (by omega);have b1:=Jm (m:=x-a.1) (w:=b.2.1-a.2.1) (by omega) (by omega) (by omega);have b2:=Jm (m:=x-a.1) (w:=a.2.2-b.2.2) (by omega) (by omega) (by omega);have c1:=It (n:=b.1-a.1) (m:=x-a.1) (w:=b.2.1-a.2.1) (by omega) (by omega) (by omega) (by omega);have c2:=It (n:=b.1-a.1) (m:=x-a.1) (w:=a.2.2-b.2.2) (by omega) (by omega) (by omega) (by omega);have w6:IntKind.wrap .i64 ((x-a.1)*(b.2.1-a.2.1))=(x-a.1)*(b.2.1-a.2.1):=AD (by omega) (by omega);have w7:IntKind.wrap .i64 ((x-a.1)*(a.2.2-b.2.2))=(x-a.1)*(a.2.2-b.2.2):=AD (by omega) (by omega);have w8:IntKind.wrap .i64 (a.2.1+(x-a.1)*(b.2.1-a.2.1)/(b.1-a.1))=a.2.1+(x-a.1)*(b.2.1-a.2.1)/(b.1-a.1):=AD (by omega) (by omega);have w9:IntKind.wrap .i64 (a.2.2-(x-a.1)*(a.2.2-b.2.2)/(b.1-a.1))=a.2.2-(x-a.1)*(a.2.2-b.2.2)/(b.1-a.1):=AD (by omega) (by omega);simp [w0,hmn];refine PG [(11,9),(12,10)] (by kernel_rfl) ?_;simp [w1,ha,hb,inC,Nat.testBit,AA,w2,w3,w4,w6];refine AU.mk _ _ _ (AaU ((x-a.1)*(b.2.1-a.2.1)) (b.1-a.1) (by omega) (by omega) (by omega)) (by first | (simp;done) | simp [Bk,CP]) (by simp) (by first | (left;simp;done) | (right;simp;done)) ?_;simp [w8,w5,w7];refine AU.mk _ _ _ (AaU ((x-a.1)*(a.2.2-b.2.2)) (b.1-a.1) (by omega) (by omega) (by omega)) (by first | (simp;done) | simp [Bk,CP]) (by simp) (by first | (left;simp;done) | (right;simp;done)) ?_;simp [w9,AA];apply RZ;simp [results251,Ir]
def Fk (l:List (Int × Int × Int)) (x:Int × Int) (i:Nat):Int × Int:=(l.take i).foldl (fun o k=>if x.1<k.1/\k.1<x.2 then Xa o k.2 else o) (Xa (atS l x.1) (atS l x.2))
theorem ALM {l:List (Int × Int × Int)} {x:Int × Int} {i:Nat} {k:Int × Int × Int} (hk:l[i]?= some k):Fk l x (i+1)=if x.1<k.1/\k.1<x.2 then Xa (Fk l x i) k.2 else Fk l x i:=by
 simp [Fk,List.take_add_one,hk]
def Jy (l:List (Int × Int × Int)) (x:Int × Int):(Int × Int) × Int:=
 if LL l=true then
   if okS x=true then
     match l[0]?,l[l.length-1]? with
     | some a,some b=>if x.1<a.1\/b.1<x.2 then ((0,0),2) else (Fk l x l.length,0)
     | _,_=>((0,0),0)
   else ((0,0),10)
 else ((0,0),13)
theorem rL (l:List (Int × Int × Int)) (x:Int × Int) (hl:l.length<=1000000):Ct prog 184 [.d (DA l),vsp x.1 x.2] (vse (Jy l x)) []:=by
 refine CB func184 c184 fun E hE=>?_
 simp [p184];refine CLa (AAJ l hl) ?_;by_cases ht:LL l=true
 . simp [ht]
   refine CLa (zO x) ?_;by_cases hx:okS x=true
   . have hlen:=Qm ht
     obtain ⟨a,ha⟩:∃ a,l[0]?= some a:=⟨l[0],by simp⟩
     obtain ⟨e,he⟩:∃ e,e=l.length-1:=⟨_,rfl⟩
     obtain ⟨b,hb⟩:∃ b,l[e]?= some b:=⟨l[e],by simp [show e<l.length by omega]⟩
     have we:IntKind.wrap .i64 ((l.length:Int)-1)=(e:Int):=by rw [AD (by omega) (by omega)];omega
     by_cases c1:x.1<a.1
     . simp [hx,ha,c1,AA]
       apply RZ;simp [results184,Jy,ht,hx,ha,<-he,hb,c1]
     by_cases c2:b.1<x.2
     . simp [hx,ha,hb,c1,c2,we,AA]
       apply RZ;simp [results184,Jy,ht,hx,ha,<-he,hb,c1,c2]
     have hxx:=CT.1 hx;have hlast:∀ k,l[l.length-1]?= some k->x.2<=k.1:=fun k hk=>by rw [<-he,hb] at hk;cases hk;omega
     have hfirst:∀ k,l[0]?= some k->k.1<=x.1:=fun k hk=>by rw [ha] at hk;cases hk;omega
     simp [hx,ha,hb,c1,c2,we];refine CLa (AAI l x.1 ht hfirst (fun k hk=>by have:=hlast k hk;omega)) ?_;simp [inC,Nat.testBit];refine CLa (AAI l x.2 ht (fun k hk=>by have:=hfirst k hk;omega) hlast) ?_;simp [inC,Nat.testBit,AA,AM];refine CLb (zi (atS l x.1) [atS l x.2] (by simp)) (by first | (simp;done) | simp [Bk,inC,Nat.testBit]) ?_;simp [AA];refine BL (α:=Nat) 0 (fun _:Unit=>⟨AO [(4, .lp 0 0),(8, .lp 1 0)],lk [(0,[vi 0,vi 0]),(1,[vi (Fk l x l.length).1,vi (Fk l x l.length).2])],2⟩) (fun _=>True) (fun i=>⟨AO [(3, .lp 2 0),(4, .lp 0 0),(8, .lp 1 0),(53, .d (DA l)),(54,vi l.length),(55,vi i)],lk [(0,[vi 0,vi 0]),(1,[vi (Fk l x i).1,vi (Fk l x i).2]),(2,[vi x.1,vi x.2])],3⟩) (fun i=>i<=l.length) (fun i=>l.length-i) 0 ?_ ?_ ?_ fun _ _=>?_
     . simp
     . refine AI.mk hE (lk [(0,1048576),(1,44040192),(2,0)]) _ _ _ ?_ ?_ ?_ ?_ ?_<;>simp [Fk,ALK]
     . intro i hi
       simp [AY7];refine DW (fun h=>?_) (fun h=>?_)
       . simp at h
         obtain ⟨k,hk⟩:∃ k,l[i]?= some k:=⟨l[i],by simp [h]⟩
         have hz:IntKind.wrap .i64 ((i:Int)+1)=(i:Int)+1:=AD (by omega) (by omega);by_cases d1:x.1<k.1
         . by_cases d2:k.1<x.2
           . simp [hk,d1,d2,AA,AM]
             refine CLa (zi (Fk l x i) [k.2] (by simp)) ?_;simp [hz,AA];refine ⟨i+1,by omega,by omega,?_⟩;refine AI.mk hE (lk [(0,0),(1,1),(2,2)]) _ _ _ ?_ ?_ ?_ ?_ ?_<;>simp [ALM hk,ALK,d1,d2]
           . simp [hk,d1,d2,hz,AA]
             refine ⟨i+1,by omega,by omega,?_⟩;refine AI.mk hE (lk [(0,0),(1,1),(2,2)]) _ _ _ ?_ ?_ ?_ ?_ ?_<;>simp [ALM hk,d2]
         . simp [hk,d1,hz,AA]
           refine ⟨i+1,by omega,by omega,?_⟩;refine AI.mk hE (lk [(0,0),(1,1),(2,2)]) _ _ _ ?_ ?_ ?_ ?_ ?_<;>simp [ALM hk,d1]
       . simp at h
         have hil:i=l.length:=by omega
         subst hil;simp;exact WK hE (lk [(0,0),(1,1)])
     . simp [AA]
       apply RZ;simp [results184,Jy,ht,hx,ha,<-he,hb,c1,c2]
   . simp [hx,AA]
     apply RZ;simp [results184,Jy,ht,hx]
 . simp [ht,AA]
   apply RZ;simp [results184,Jy,ht]
abbrev knL (k:Int × Int × Int):List D:=[di k.1,di k.2.1,di k.2.2]
theorem hfk:∀ k:Int × Int × Int,(knL k).length=3:=fun _=>rfl
def knOf (x:Lev):Int × Int × Int:=(x.h,x.tl,x.th)
def knT (l:List Lev):List (Int × Int × Int):=l.map knOf
def tmS (k:List (Int × Int × Int)):Tm:=fun a b=>(Jy k (min a b,max a b)).1
def LS (l:List Lev) (i:Nat):List (Int × Int × Int):=(l.take i).map knOf
theorem WR {l:List Lev} {i:Nat} {x:Lev} (h:l[i]?= some x):LS l (i+1)=LS l i++[knOf x]:=by
 unfold LS;rw [List.take_add_one,h];simp
theorem iJ (l:List Lev) (hl:l.length<=1000000) (h0:l≠[]):Ct prog 104 [.d (BF l)] (.cl 183 [.lp 0 0]) [(0,[.ls 1 0 l.length 3]),(1,AH knL (knT l))]:=by
 refine CB func104 c104 fun E hE=>?_
 simp [p104];refine Al (α:=Nat) (fun i=>⟨AO [(3, .lp 0 0),(6, .d (BF l)),(7,vi l.length),(8,vi i)],lk ([(0,[hdF 3 (LS l i) 1])]++ouF knL (LS l i) 1),2⟩) (fun i=>i<=l.length) (fun i=>l.length-i) 0 ?_ ?_ ?_
 . omega
 . rw [show LS l 0=[] from rfl,Aq,Au]
   exact WK hE (lk [(0,1048576)])
 . intro i hi
   by_cases h:i<l.length
   . obtain ⟨x,hx⟩:=gE h
     have hz:=@wz i (by omega);have hI:(i:Int)<l.length:=by omega
     have hnx:=WR hx;have hO:(LS l i).length<=1000000:=by unfold LS;simp;omega
     obtain ⟨O,hOe⟩:∃ O,LS l i=O:=⟨_,rfl⟩
     rw [hOe] at hnx hO ⊢;by_cases hne:O=[]
     . subst hne
       rw [Aq,Au];simp [AWS,hI,hx,AA,AM,hz];refine ⟨i+1,by omega,by omega,?_⟩;rw [hnx,Ak (by simp),AZ (by simp)];refine AI.mk hE (lk [(0,0),(1,12582914)]) _ _ _ ?_ ?_ ?_ ?_ ?_<;>simp [AH,knOf]
     . have hsl:=Aw hfk O
       have hwh:=E9 hfk O;have n1:(O.length+1)*24<=140737488355328:=by omega
       have n2:O.length+1<=9223372036854775807:=by omega
       rw [Ak hne,AZ hne];simp [AWS,hI,hx,AA,AM,hz,hsl,hwh,n1,n2];refine ⟨i+1,by omega,by omega,?_⟩;rw [hnx,Ak (by simp),AZ (by simp),IV];refine AI.mk hE (lk [(0,0),(1,12582914)]) _ _ _ ?_ ?_ ?_ ?_ ?_<;>simp [knOf]
   . have e:i=l.length:=by omega
     have hn:¬ (i:Int)<l.length:=by omega
     have ek:LS l i=knT l:=by unfold LS knT;rw [e,List.take_length]
     have ene:knT l≠[]:=by unfold knT;simpa using h0
     have ekl:(knT l).length=l.length:=by unfold knT;simp
     rw [ek,Ak ene,AZ ene,ekl];simp [AWS,hn];refine AB.by (lk [(0,0),(1,1)]) ?_;simp [results104]
theorem AXr (l:List Lev) (hl:l.length<=1000000) (h0:l≠[]):Ct prog 104 [.d (BF l)] (.d (.fn 183 [.ref [DA (knT l)]])) []:=by
 refine Cm.freeze (iJ l hl h0) ?_;have ekl:(knT l).length=l.length:=by unfold knT;simp
 refine ⟨rfl,Or.inr ⟨0,0,_,[DA (knT l)],rfl,rfl,rfl,?_,trivial⟩,trivial⟩;have:Bor (lk [(0,[.ls 1 0 (knT l).length 3]),(1,AH knL (knT l))]) (.ls 1 0 (knT l).length 3) (.d (slD knL 3 (knT l))):=B0 hfk (by simp);rw [ekl] at this;exact this
theorem jI (k:List (Int × Int × Int)) (a b:Int) (hk:k.length<=1000000):Ct prog 183 [vi a,vi b, .d (.ref [DA k])] (vsp (tmS k a b).1 (tmS k a b).2) []:=by
 have c:=rL k (min a b,max a b) hk;refine CB func183 c183 fun E hE=>?_
 simp [p183,AA];refine CLa c ?_;simp [AA];apply RZ;simp [results183,tmS]
def Xc (a b:Int):Int:=if b<0 then (-a)/(-b) else a/b
theorem tZ {a b:Int} (hb:0<b):a.tmod b=if 0<=a\/a%b=0 then a%b else a%b-b:=by
 rw [Int.tmod_eq_emod];by_cases h:0<=a\/b ∣ a
 . rw [if_pos h,if_pos]
   . simp
   . exact h.imp id Int.emod_eq_zero_of_dvd
 . rw [if_neg h,if_neg]
   . omega
   . exact fun h2=>h (h2.imp id Int.dvd_of_emod_eq_zero)
theorem rY {a b:Int} (hb:1<=b) (ha: -4700000000000000000<=a/\a<=4700000000000000000): -4700000000000000000<=a/b/\a/b<=4700000000000000000:=by
 refine ⟨(Int.le_ediv_iff_mul_le (by omega)).2 ?_,?_⟩
 . have:=Int.mul_le_mul_of_nonneg_left hb (show (0:Int)<=4700000000000000000 by omega)
   omega
 . by_cases h0:0<=a
   . exact Int.le_trans (Int.ediv_le_self _ h0) ha.2
   . have:=Int.ediv_neg_of_neg_of_pos (show a<0 by omega) (show 0<b by omega)
     omega
theorem AaM (a b:Int) (ha: -4700000000000000000<=a/\a<=4700000000000000000) (hb0: -4700000000000000000<=b/\b<=4700000000000000000) (hz:b≠0):Ct prog 300 [vi a,vi b] (vi (Xc a b)) []:=by
 refine CB func300 c300 fun E hE=>?_
 by_cases hb:b<0
 . have hpos:0 < -b:=by omega
   have bn:¬ -b=0:=by omega
   have n1:IntKind.wrap .i64 (-a)= -a:=AD (by omega) (by omega);have n2:IntKind.wrap .i64 (-b)= -b:=AD (by omega) (by omega);obtain ⟨A,hA⟩:∃ A, -a=A:=⟨_,rfl⟩
   obtain ⟨B,hB⟩:∃ B, -b=B:=⟨_,rfl⟩
   rw [hA] at n1;rw [hB] at n2 bn hpos;have m0:=Int.emod_nonneg A bn;have m1:=Int.emod_lt_of_pos A hpos;have t1:=Zl (a:=A) hpos;have t2:=tZ (a:=A) hpos;have q:=rY (a:=A) (b:=B) (by omega) (by omega);have u1:IntKind.wrap .i64 (A/B)=A/B:=AD (by omega) (by omega);have u2:IntKind.wrap .i64 (A/B+1)=A/B+1:=AD (by omega) (by omega);have u3:IntKind.wrap .i64 (A/B+1-1)=A/B:=by rw [AD (by omega) (by omega)];omega
   have v1:IntKind.wrap .i64 (A%B)=A%B:=AD (by omega) (by omega);have v2:IntKind.wrap .i64 (A%B-B)=A%B-B:=AD (by omega) (by omega);by_cases hc:0<=A\/A%B=0
   . rw [if_pos hc] at t1 t2
     have hn:¬ A%B<0:=by omega
     simp [p300,hb,hA,hB,n1,n2,bn,t1,t2,u1,hn];apply RZ;simp [results300,Xc,hb,hA,hB]
   . rw [if_neg hc] at t1 t2
     have hn:A%B-B<0:=by omega
     simp [p300,hb,hA,hB,n1,n2,bn,t1,t2,u2,u1,hn];apply RZ;simp [results300,Xc,hb,hA,hB]
 . have hpos:0<b:=by omega
   have bn:¬ b=0:=by omega
   have m0:=Int.emod_nonneg a bn;have m1:=Int.emod_lt_of_pos a hpos;have t1:=Zl (a:=a) hpos;have t2:=tZ (a:=a) hpos;have q:=rY (a:=a) (b:=b) (by omega) (by omega);have u1:IntKind.wrap .i64 (a/b)=a/b:=AD (by omega) (by omega);have u2:IntKind.wrap .i64 (a/b+1)=a/b+1:=AD (by omega) (by omega);have u3:IntKind.wrap .i64 (a/b+1-1)=a/b:=by rw [AD (by omega) (by omega)];omega
   have v1:IntKind.wrap .i64 (a%b)=a%b:=AD (by omega) (by omega);have v2:IntKind.wrap .i64 (a%b-b)=a%b-b:=AD (by omega) (by omega);by_cases hc:0<=a\/a%b=0
   . rw [if_pos hc] at t1 t2
     have hn:¬ a%b<0:=by omega
     simp [p300,hb,bn,t1,t2,u1,hn];apply RZ;simp [results300,Xc,hb]
   . rw [if_neg hc] at t1 t2
     have hn:a%b-b<0:=by omega
     simp [p300,hb,bn,t1,t2,u2,u1,hn];apply RZ;simp [results300,Xc,hb]
theorem uB {a b:Int} (ha: -4700000000000000000<=a/\a<=4700000000000000000) (hz:b≠0): -4700000000000000000<=Xc a b/\Xc a b<=4700000000000000000:=by
 unfold Xc;split
 . exact rY (by omega) (by omega)
 . exact rY (by omega) ha
theorem ov (a b:Int) (ha: -4700000000000000000<=a/\a<=4700000000000000000) (hb0: -4700000000000000000<=b/\b<=4700000000000000000) (hz:b≠0):Ct prog 301 [vi a,vi b] (vi (-Xc (-a) b)) []:=by
 refine CB func301 c301 fun E hE=>?_
 have n1:IntKind.wrap .i64 (-a)= -a:=AD (by omega) (by omega);have q:=uB (a:= -a) (by omega) hz;have n2:IntKind.wrap .i64 (-Xc (-a) b)= -Xc (-a) b:=AD (by omega) (by omega);simp [p301,n1];refine CLa (AaM (-a) b (by omega) hb0 hz) ?_;simp [n2];apply RZ;simp [results301]
theorem kS {l:List (Int × Int × Int)} {x:Int} (ht:LL l=true) (h0:∀ k,l[0]?= some k->k.1<=x) (h1:∀ k,l[l.length-1]?= some k->x<=k.1):
   ∃ a b:Int × Int × Int,l[DB l x]?= some a/\l[DB l x+1]?= some b/\DB l x+1<l.length/\atS l x=Ir a b x/\okK a=true/\okK b=true/\a.1<b.1/\a.1<=x/\x<=b.1/\1<=Fl l x:=by
 have hlen:=Qm ht;have hc:=cK l x;have hs:DB l x+1<l.length:=by unfold DB;omega
 obtain ⟨a,ha⟩:∃ a,l[DB l x]?= some a:=⟨l[DB l x],by simp⟩
 obtain ⟨b,hb⟩:∃ b,l[DB l x+1]?= some b:=⟨l[DB l x+1],by simp⟩
 have hc1:1<=Fl l x:=Nat.not_lt.1 fun h=>by
   obtain ⟨k,hk⟩:∃ k,l[0]?= some k:=⟨l[0],by simp⟩
   have h2:=KC ht hk (x:=x) (by omega);have h3:=h0 k hk;omega
 refine ⟨a,b,ha,hb,hs,by simp [atS,ha,hb],AVc ht ha,AVc ht hb,LT ht ha hb (by omega),?_,?_,hc1⟩
 . by_cases hz:DB l x=0
   . rw [hz] at ha;exact h0 a ha
   . exact AAY l x _ a ha (by unfold DB at hz ⊢;omega)
 . by_cases hz:DB l x+1=l.length-1
   . rw [hz] at hb;exact h1 b hb
   . have:=KC ht hb (x:=x) (by unfold DB at hz ⊢;omega)
     omega
theorem tx {a b:Int} (h:0<b):Xc a b=a/b:=if_neg (by omega)
theorem AaJ (l:List (Int × Int × Int)) (x:Int) (ht:LL l=true) (h0:∀ k,l[0]?= some k->k.1<=x) (h1:∀ k,l[l.length-1]?= some k->x<=k.1):Ct prog 269 [.d (DA l),vi x] (.tup [vi (atS l x).1,vi (atS l x).2]) []:=by
 obtain ⟨a,b,ha,hb,hs,hat,oa,ob,hab,hax,hxb,hc1⟩:=kS ht h0 h1;rw [FE] at oa ob;rw [hat];have hlen:=Qm ht;obtain ⟨s,hsg⟩:∃ s,DB l x=s:=⟨_,rfl⟩
 rw [hsg] at ha hb hs;obtain ⟨s1,hs1⟩:∃ s1,s1=s+1:=⟨_,rfl⟩
 rw [<-hs1] at hb;have w0:IntKind.wrap .i64 ((s:Int)+1)=(s1:Int):=by rw [AD (by omega) (by omega)];omega
 have w2:IntKind.wrap .i64 (x-a.1)=x-a.1:=AD (by omega) (by omega);have w3:IntKind.wrap .i64 (b.1-a.1)=b.1-a.1:=AD (by omega) (by omega);have w4:IntKind.wrap .i64 (b.2.1-a.2.1)=b.2.1-a.2.1:=AD (by omega) (by omega);have w5:IntKind.wrap .i64 (b.2.2-a.2.2)=b.2.2-a.2.2:=AD (by omega) (by omega);have b1:=Jm (m:=x-a.1) (w:=b.2.1-a.2.1) (by omega) (by omega) (by omega);have b2:=Jm (m:=x-a.1) (w:=b.2.2-a.2.2) (by omega) (by omega) (by omega);have en: -((x-a.1)*(b.2.2-a.2.2))=(x-a.1)*(a.2.2-b.2.2):=by rw [<-Int.mul_neg,Int.neg_sub]
 have c1:=It (n:=b.1-a.1) (m:=x-a.1) (w:=b.2.1-a.2.1) (by omega) (by omega) (by omega) (by omega);have c2:=It (n:=b.1-a.1) (m:=x-a.1) (w:=a.2.2-b.2.2) (by omega) (by omega) (by omega) (by omega);have w6:IntKind.wrap .i64 ((x-a.1)*(b.2.1-a.2.1))=(x-a.1)*(b.2.1-a.2.1):=AD (by omega) (by omega);have w7:IntKind.wrap .i64 ((x-a.1)*(b.2.2-a.2.2))=(x-a.1)*(b.2.2-a.2.2):=AD (by omega) (by omega);have w8:IntKind.wrap .i64 (a.2.1+(x-a.1)*(b.2.1-a.2.1)/(b.1-a.1))=a.2.1+(x-a.1)*(b.2.1-a.2.1)/(b.1-a.1):=AD (by omega) (by omega);have w9:IntKind.wrap .i64 (a.2.2+ -((x-a.1)*(a.2.2-b.2.2)/(b.1-a.1)))=a.2.2-(x-a.1)*(a.2.2-b.2.2)/(b.1-a.1):=by rw [AD (by omega) (by omega)];omega
 have f1:=AaM ((x-a.1)*(b.2.1-a.2.1)) (b.1-a.1) (by omega) (by omega) (by omega);have f2:=ov ((x-a.1)*(b.2.2-a.2.2)) (b.1-a.1) (by omega) (by omega) (by omega);rw [tx (by omega)] at f1 f2;rw [en] at f2;refine CB func269 c269 fun E hE=>?_
 simp [p269];refine BL (α:=Nat) 0 (fun _:Unit=>⟨AO [(0, .d (DA l)),(1,vi x),(6,vi s)],lk [],0⟩) (fun _=>True) (fun i=>⟨AO [(0, .d (DA l)),(1,vi x),(6,vi i)],lk [],0⟩) (fun i=>i<=s) (fun i=>s-i) 0 ?_ ?_ ?_ fun _ _=>?_
 . simp
 . exact WK hE (lk [])
 . intro i hi
   obtain ⟨i1,hi1⟩:∃ i1,i1=i+1:=⟨_,rfl⟩
   obtain ⟨k,hk⟩:∃ k,l[i1]?= some k:=⟨l[i1],by simp [show i1<l.length by omega]⟩
   have v1:IntKind.wrap .i64 ((i:Int)+1)=(i1:Int):=by rw [AD (by omega) (by omega)];omega
   have v2:IntKind.wrap .i64 ((i:Int)+2)=(i:Int)+2:=AD (by omega) (by omega);by_cases hlt:i<s
   . have g1:(i:Int)+2<l.length:=by unfold DB at hsg;omega
     have g2:k.1<=x:=AAY l x i1 k hk (by unfold DB at hsg;omega);simp [AWc,v1,v2,hk,g1,g2];refine ⟨i1,by omega,by omega,?_⟩;exact WK hE (lk [])
   . have:i=s:=by omega
     subst this;by_cases g1:(i:Int)+2<l.length
     . have g2:¬ k.1<=x:=by
         have:=KC ht hk (x:=x) (by unfold DB at hsg;omega);omega
       simp [AWc,v1,v2,hk,g1,g2];exact WK hE (lk [])
     . simp [AWc,v2,g1]
       exact WK hE (lk [])
 . simp
   refine PG [(11,9),(12,10)] (by kernel_rfl) ?_;simp [w0,ha,hb,inC,Nat.testBit,AA,w2,w3,w4,w6];refine CLa f1 ?_;simp [w8,w5,w7];refine CLa f2 ?_;simp [w9];apply RZ;simp [results269,Ir]
def ss (l:List (Int × Int × Int)) (x:Int × Int) (i:Nat):Int × Int:=(l.take i).foldl (fun o k=>if x.1<=k.1/\k.1<=x.2 then Xa o k.2 else o) (Xa (atS l x.1) (atS l x.2))
theorem AAX {l:List (Int × Int × Int)} {x:Int × Int} {i:Nat} {k:Int × Int × Int} (hk:l[i]?= some k):ss l x (i+1)=if x.1<=k.1/\k.1<=x.2 then Xa (ss l x i) k.2 else ss l x i:=by
 simp [ss,List.take_add_one,hk]
theorem AF3 {l:List (Int × Int × Int)} (ht:LL l=true) {i:Nat} {k:Int × Int × Int} (hk:l[i]?= some k):Fl l k.1=i+1:=by
 have h1:i<Fl l k.1:=Nat.not_le.1 fun h=>by have:=KC ht hk h;omega
 have h2:¬ i+1<Fl l k.1:=fun h=>by
   have hlt:=cK l k.1;obtain ⟨c,hc⟩:∃ c,l[i+1]?= some c:=⟨l[i+1],by simp⟩
   have h3:=AAY l k.1 (i+1) c hc h;have h4:=LT ht hk hc (by omega);omega
 omega
theorem xI {l:List (Int × Int × Int)} (ht:LL l=true) {i:Nat} {k:Int × Int × Int} (hk:l[i]?= some k):atS l k.1=k.2:=by
 have hlen:=Qm ht;have hi:=(List.getElem?_eq_some_iff.1 hk).1;have hc:=AF3 ht hk;by_cases hl:i+1<l.length
 . have hs:DB l k.1=i:=by unfold DB;omega
   obtain ⟨b,hb⟩:∃ b,l[i+1]?= some b:=⟨l[i+1],by simp⟩
   simp [atS,hs,hk,hb,Ir]
 . have hs:DB l k.1=i-1:=by unfold DB;omega
   have hs1:i-1+1=i:=by omega
   obtain ⟨a,ha⟩:∃ a,l[i-1]?= some a:=⟨l[i-1],by simp [show i-1<l.length by omega]⟩
   have hab:=LT ht ha hk (by omega);simp only [atS,hs,hs1,ha,hk,Ir];rw [Int.mul_comm,Int.mul_ediv_cancel _ (by omega),Int.mul_comm,Int.mul_ediv_cancel _ (by omega)]
   ext<;>simp<;>omega
theorem uo (l:List (Int × Int × Int)) (x:Int × Int):∀ i,i<=l.length->(Fk l x i).1<=(atS l x.1).1/\(Fk l x i).1<=(atS l x.2).1/\(atS l x.1).2<=(Fk l x i).2/\(atS l x.2).2<=(Fk l x i).2
 | 0,_=>by simp only [Fk,List.take_zero,List.foldl_nil,Xa];omega
 | i+1,h=>by
   have ih:=uo l x i (by omega);obtain ⟨k,hk⟩:∃ k,l[i]?= some k:=⟨l[i],by simp [show i<l.length by omega]⟩
   rw [ALM hk];split
   . simp only [Xa];omega
   . exact ih
theorem uq {l:List (Int × Int × Int)} (ht:LL l=true) (x:Int × Int):∀ i,i<=l.length->ss l x i=Fk l x i
 | 0,_=>by simp [Fk,ss]
 | i+1,h=>by
   have ih:=uq ht x i (by omega);obtain ⟨k,hk⟩:∃ k,l[i]?= some k:=⟨l[i],by simp [show i<l.length by omega]⟩
   rw [ALM hk,AAX hk,ih];have b:=uo l x i (by omega);have e:=xI ht hk;by_cases h1:x.1<k.1/\k.1<x.2
   . rw [if_pos h1,if_pos (by omega)]
   . rw [if_neg h1]
     by_cases h2:x.1<=k.1/\k.1<=x.2
     . rw [if_pos h2]
       have h3:k.1=x.1\/k.1=x.2:=by omega
       rcases h3 with h3 | h3<;>rw [h3] at e<;>rw [e] at b<;>simp only [Xa]<;>ext<;>simp only<;>omega
     . rw [if_neg h2]
theorem si (l:List (Int × Int × Int)) (x:Int × Int) (hl:l.length<=1000000):Ct prog 207 [.d (DA l),vsp x.1 x.2] (vse (Jy l x)) []:=by
 refine CB func207 c207 fun E hE=>?_
 simp [p207];refine CLa (zU l hl) ?_;by_cases ht:LL l=true
 . simp [ht]
   refine CLa (Aad x) ?_;by_cases hx:okS x=true
   . have hlen:=Qm ht
     obtain ⟨a,ha⟩:∃ a,l[0]?= some a:=⟨l[0],by simp⟩
     obtain ⟨e,he⟩:∃ e,e=l.length-1:=⟨_,rfl⟩
     obtain ⟨b,hb⟩:∃ b,l[e]?= some b:=⟨l[e],by simp [show e<l.length by omega]⟩
     have we:IntKind.wrap .i64 ((l.length:Int)-1)=(e:Int):=by rw [AD (by omega) (by omega)];omega
     by_cases c1:x.1<a.1
     . simp [hx,ha,c1,AA]
       apply RZ;simp [results207,Jy,ht,hx,ha,<-he,hb,c1]
     by_cases c2:b.1<x.2
     . simp [hx,ha,hb,c1,c2,we,AA]
       apply RZ;simp [results207,Jy,ht,hx,ha,<-he,hb,c1,c2]
     have hxx:=CT.1 hx;have hlast:∀ k,l[l.length-1]?= some k->x.2<=k.1:=fun k hk=>by rw [<-he,hb] at hk;cases hk;omega
     have hfirst:∀ k,l[0]?= some k->k.1<=x.1:=fun k hk=>by rw [ha] at hk;cases hk;omega
     simp [hx,ha,hb,c1,c2,we];refine CLa (AaJ l x.1 ht hfirst (fun k hk=>by have:=hlast k hk;omega)) ?_;simp;refine CLa (AaJ l x.2 ht (fun k hk=>by have:=hfirst k hk;omega) hlast) ?_;simp [AA];refine BL (α:=Nat) 0 (fun _:Unit=>⟨AO [(4, .lp 0 0),(10, .lp 1 0)],lk [(0,[vi 0,vi 0]),(1,[vi (Fk l x l.length).1,vi (Fk l x l.length).2])],2⟩) (fun _=>True) (fun i=>⟨AO [(0, .d (DA l)),(3, .lp 2 0),(4, .lp 0 0),(10, .lp 1 0),(11,vi i)],lk [(0,[vi 0,vi 0]),(1,[vi (ss l x i).1,vi (ss l x i).2]),(2,[vi x.1,vi x.2])],3⟩) (fun i=>i<=l.length) (fun i=>l.length-i) 0 ?_ ?_ ?_ fun _ _=>?_
     . simp
     . refine AI.mk hE (lk [(0,1048576),(1,55574528),(2,0)]) _ _ _ ?_ ?_ ?_ ?_ ?_<;>simp [ss,Xa]
     . intro i hi
       simp [AY9];refine DW (fun h=>?_) (fun h=>?_)
       . simp at h
         obtain ⟨k,hk⟩:∃ k,l[i]?= some k:=⟨l[i],by simp [h]⟩
         have hz:IntKind.wrap .i64 ((i:Int)+1)=(i:Int)+1:=AD (by omega) (by omega);simp [hk];refine CLa (zT k.1 x.1 x.2) ?_;by_cases d1:x.1<=k.1/\k.1<=x.2
         . simp [d1,hk,hz,AA]
           refine ⟨i+1,by omega,by omega,?_⟩;refine AI.mk hE (lk [(0,0),(1,1),(2,2)]) _ _ _ ?_ ?_ ?_ ?_ ?_<;>simp [AAX hk,d1,Xa]
         . have d1':(decide (x.1<=k.1)&&decide (k.1<=x.2))=false:=by simp;omega
           simp [d1',hz];refine ⟨i+1,by omega,by omega,?_⟩;refine AI.mk hE (lk [(0,0),(1,1),(2,2)]) _ _ _ ?_ ?_ ?_ ?_ ?_<;>simp [AAX hk,d1]
       . simp at h
         have hil:i=l.length:=by omega
         subst hil;simp;refine AI.mk hE (lk [(0,0),(1,1)]) _ _ _ ?_ ?_ ?_ ?_ ?_<;>simp [uq ht x l.length]
     . simp [AA]
       apply RZ;simp [results207,Jy,ht,hx,ha,<-he,hb,c1,c2]
   . simp [hx,AA]
     apply RZ;simp [results207,Jy,ht,hx]
 . simp [ht,AA]
   apply RZ;simp [results207,Jy,ht]
abbrev Kn:=Int × Int × Int
theorem XE {d m n:Int} (hn:0<n) (h0:0<=d) (h1:d<=n):min 0 m<=d*m/n:=by
 rw [Int.le_ediv_iff_mul_le hn];by_cases hm:0<=m
 . rw [show min 0 m=0 by omega,Int.zero_mul]
   exact Int.mul_nonneg h0 hm
 . rw [show min 0 m=m by omega,Int.mul_comm d]
   exact Int.mul_le_mul_of_nonpos_left (by omega) (by omega)
theorem mY {a k:Kn} {x:Int} (hlt:a.1<k.1) (h1:a.1<=x) (h2:x<=k.1) (oa:a.2.1<=a.2.2) (ok:k.2.1<=k.2.2):min a.2.1 k.2.1<=(Ir a k x).1/\(Ir a k x).1<=(Ir a k x).2/\(Ir a k x).2<=max a.2.2 k.2.2:=by
 have hn:0<k.1-a.1:=by omega
 have d1:=Int.ediv_mul_le ((x-a.1)*(k.2.1-a.2.1)) (show k.1-a.1≠0 by omega);have d2:=Int.ediv_mul_le ((x-a.1)*(a.2.2-k.2.2)) (show k.1-a.1≠0 by omega);have k1:=XE (m:=k.2.1-a.2.1) hn (show 0<=x-a.1 by omega) (by omega);have k2:=XE (m:=a.2.2-k.2.2) hn (show 0<=x-a.1 by omega) (by omega);unfold Ir;simp only;obtain ⟨n,hne⟩:∃ n,k.1-a.1=n:=⟨_,rfl⟩
 obtain ⟨d,hde⟩:∃ d,x-a.1=d:=⟨_,rfl⟩
 rw [hne,hde] at d1 d2 k1 k2;rw [hne,hde];have hd:0<=d/\d<=n:=by omega
 have hn':0<n:=by omega
 obtain ⟨p,hp⟩:∃ p,d*(k.2.1-a.2.1)/n=p:=⟨_,rfl⟩
 obtain ⟨q,hq⟩:∃ q,d*(a.2.2-k.2.2)/n=q:=⟨_,rfl⟩
 rw [hp] at d1 k1;rw [hq] at d2 k2;rw [hp,hq];refine ⟨by omega,?_,by omega⟩;have e1:0<=(a.2.2-a.2.1)*(n-d):=Int.mul_nonneg (by omega) (by omega);have e2:0<=(k.2.2-k.2.1)*d:=Int.mul_nonneg (by omega) (by omega)
 have e3:(p+q)*n<=(a.2.2-a.2.1)*n:=by
   have e4:d*(k.2.1-a.2.1)+d*(a.2.2-k.2.2)=(a.2.2-a.2.1)*n-(a.2.2-a.2.1)*(n-d)-(k.2.2-k.2.1)*d:=by grind
   rw [Int.add_mul];omega
 have:=Int.le_of_mul_le_mul_right e3 hn';omega
section
variable {l:List Kn} (ht:LL l=true)
def inR (l:List Kn) (x:Int):Prop:=(∀ k,l[0]?= some k->k.1<=x)/\∀ k,l[l.length-1]?= some k->x<=k.1
theorem QE {l:List Kn} {x:Int × Int} {L M:Int} (h1:L<=(atS l x.1).1/\(atS l x.1).1<=(atS l x.1).2/\(atS l x.1).2<=M) (h2:L<=(atS l x.2).1/\(atS l x.2).1<=(atS l x.2).2/\(atS l x.2).2<=M) (h3:∀ k∈l,L<=k.2.1/\k.2.1<=k.2.2/\k.2.2<=M):∀ i,i<=l.length->L<=(Fk l x i).1/\(Fk l x i).1<=(Fk l x i).2/\(Fk l x i).2<=M
 | 0,_=>by unfold Fk Xa;simp;omega
 | i+1,hi=>by
   obtain ⟨c,hc⟩:∃ c,l[i]?= some c:=⟨_,List.getElem?_eq_getElem (by omega)⟩
   have ih:=QE h1 h2 h3 i (by omega);rw [ALM hc];split
   . have:=h3 c (List.mem_of_getElem? hc)
     unfold Xa;simp only;omega
   . exact ih
include ht in
theorem Sn {x:Int} (hx:inR l x) {L M:Int} (h3:∀ k∈l,L<=k.2.1/\k.2.1<=k.2.2/\k.2.2<=M):L<=(atS l x).1/\(atS l x).1<=(atS l x).2/\(atS l x).2<=M:=by
 obtain ⟨a,k,ha,hk,_,e,_,_,hlt,h1,h2,_⟩:=kS ht hx.1 hx.2;have o1:=h3 a (List.mem_of_getElem? ha);have o2:=h3 k (List.mem_of_getElem? hk);have:=mY hlt h1 h2 o1.2.1 o2.2.1;rw [e];omega
end
end Go.Proofs.Tryz
namespace Go.Proofs.Tryz
open Go.Psl
open Go.Air
theorem AXm {a b:Int} (ha: -4000000000000000000<=a/\a<=4000000000000000000): -4000000000000000000<=a.tdiv b/\a.tdiv b<=4000000000000000000:=by
 have:(a.tdiv b).natAbs<=a.natAbs:=by rw [Int.natAbs_tdiv];exact Nat.div_le_self _ _
 omega
theorem AQP (a b:Int) (ha: -4000000000000000000<=a/\a<=4000000000000000000) (hb:0<b):Ct prog 187 [vsp a b] (vi (fl a b)) []:=by
 have hz:¬ b=0:=by omega
 have hq:=AXm (b:=b) ha;have w1:IntKind.wrap .i64 (a.tdiv b)=a.tdiv b:=AD (by omega) (by omega);have w2:IntKind.wrap .i64 (a.tdiv b-1)=a.tdiv b-1:=AD (by omega) (by omega);have e:=ABy (a:=a) hb;refine CB func187 c187 fun E hE=>?_
 by_cases h1:a<0
 . by_cases h2:a.tmod b=0
   . rw [if_neg (by simp [h2])] at e
     simp [p187,h1,h2,hz,w1];apply RZ;simp [results187,e]
   . rw [if_pos ⟨h1,h2⟩] at e
     simp [p187,h1,h2,hz,w1,w2];apply RZ;simp [results187,e]
 . rw [if_neg (by simp [h1])] at e
   simp [p187,h1,hz,w1];apply RZ;simp [results187,e]
theorem AaT {a b:Int} (ha: -3000000000000000000<=a/\a<=3000000000000000000) (hb:0<b): -4000000000000000000<=fl a b/\fl a b<=4000000000000000000:=by
 have:(a.tdiv b).natAbs<=a.natAbs:=by rw [Int.natAbs_tdiv];exact Nat.div_le_self _ _
 rw [ABy hb];split<;>omega
theorem jE (a b:Int) (ha: -3000000000000000000<=a/\a<=3000000000000000000) (hb:0<b):Ct prog 188 [vsp a b] (vi (ce a b)) []:=by
 have w1:IntKind.wrap .i64 (-a)= -a:=AD (by omega) (by omega);have hf:=AaT (a:= -a) (b:=b) (by omega) hb;have w2:IntKind.wrap .i64 (-fl (-a) b)= -fl (-a) b:=AD (by omega) (by omega);refine CB func188 c188 fun E hE=>?_
 simp [p188,AA,w1];refine CLa (AQP (-a) b (by omega) hb) ?_;simp [w2];apply RZ;simp [results188,ce,fl]
def rSp (r:Int × Int):Int × Int:=(fl r.1 r.2,ce r.1 r.2)
def Yd (r:Int × Int) (l:List (Int × Int)):Int × Int:=ALK (rSp r) (l.map rSp)
def okR (r:Int × Int):Prop:=(-3000000000000000000<=r.1/\r.1<=3000000000000000000)/\0<r.2
theorem O8 {r:Int × Int} {l:List (Int × Int)} {i:Nat} {s:Int × Int} (h:l[i]?= some s):Yd r (l.take (i+1))=Xa (Yd r (l.take i)) (rSp s):=by
 unfold Yd;rw [List.map_take,List.map_take,Hw (s:=rSp s) (by rw [List.getElem?_map,h];rfl)]
theorem pf (r:Int × Int) (l:List (Int × Int)) (hl:l.length<=1000000) (hr:okR r) (ho:∀ q∈l,okR q):Ct prog 106 [.d (An (r::l))] (vsp (Yd r l).1 (Yd r l).2) []:=by
 have c1:=AQP r.1 r.2 (by have:=hr.1;omega) hr.2;have c2:=jE r.1 r.2 hr.1 hr.2;have h0:(1:Int)<=(l.length:Int)+1:=by omega
 refine CB func106 c106 fun E hE=>?_
 simp [p106,inC,Nat.testBit];refine CLa c1 ?_;simp [inC,Nat.testBit];refine CLa c2 ?_;simp [AA,h0];refine Al (α:=Nat) (fun i=>⟨AO [(2, .lp 0 0),(3, .lp 1 0),(16, .d (An l)),(17,vi l.length),(18,vi i)],lk [(0,[vi 0,vi 0]),(1,[vi (Yd r (l.take i)).1,vi (Yd r (l.take i)).2])],2⟩) (fun i=>i<=l.length) (fun i=>l.length-i) 0 ?_ ?_ ?_
 . simp
 . refine AI.mk hE (lk [(0,0),(1,10485760)]) _ _ _ ?_ ?_ ?_ ?_ ?_<;>simp [Yd,ALK,rSp]
   exact List.take_of_length_le (by simp)
 . intro i hi
   by_cases h:i<l.length
   . obtain ⟨q,hq⟩:=gE h
     have hz:=@wz i (by omega);have hI:(i:Int)<l.length:=by omega
     have hqo:=ho q (List.mem_of_getElem? hq);have d1:=AQP q.1 q.2 (by have:=hqo.1;omega) hqo.2;have d2:=jE q.1 q.2 hqo.1 hqo.2;simp [AXL,hI,hq,AA];refine AL [(11,1)] (by kernel_rfl) ?_;simp [inC,Nat.testBit];refine CLa d1 ?_;simp [inC,Nat.testBit];refine CLa d2 ?_;simp [AA,hz,inC,Nat.testBit];refine ⟨i+1,by omega,by omega,?_⟩;refine AI.mk hE (lk [(0,0),(1,1)]) _ _ _ ?_ ?_ ?_ ?_ ?_<;>simp [O8 hq,Xa,rSp]
   . have e:i=l.length:=by omega
     have hn:¬ (i:Int)<l.length:=by omega
     rw [e,List.take_length];simp [AXL,AA];apply RZ;simp [results106]
theorem J4 {x X y Y:Int} (hx:0<=x/\x<=X) (hy:0<=y/\y<=Y):0<=x*y/\x*y<=X*Y:=
 ⟨Int.mul_nonneg hx.1 hy.1,Int.mul_le_mul hx.2 hy.2 hy.1 (by omega)⟩
theorem J5 {a b:Int} (ha:0<=a):a.tdiv b=a/b:=Int.tdiv_eq_ediv_of_nonneg ha
theorem NJ {a b M:Int} (ha:0<=a/\a<=M) (hb:0<b):0<=a/b/\a/b<=M:=by
 refine ⟨Int.ediv_nonneg ha.1 (by omega),?_⟩;have:=Int.ediv_le_self b ha.1;omega
theorem O6 (x y c tl th:Int) (hx:0<=x/\x<=400000000) (hy:0<=y/\y<=400000000) (hc:0<c/\c<=2000) (ht:1500<=tl/\tl<=th/\th<=3500):Ct prog 153 [vsp x y,vi c,vsp tl th] (vsp (CY (1000000*tl) (341632*c) x) (C9 (1000000*th) (341632*c) y)) []:=by
 have hc1:=hc.1;have hm:max c (-c)=c:=by omega
 obtain ⟨A,hA⟩:∃ A,1000000*tl=A:=⟨_,rfl⟩
 obtain ⟨B,hB⟩:∃ B,1000000*th=B:=⟨_,rfl⟩
 obtain ⟨S,hS⟩:∃ S,341632*c=S:=⟨_,rfl⟩
 have w0:IntKind.wrap .i64 (-c)= -c:=AD (by omega) (by omega);have w1:IntKind.wrap .i64 S=S:=AD (by omega) (by omega);have w2:IntKind.wrap .i64 A=A:=AD (by omega) (by omega);have w3:IntKind.wrap .i64 B=B:=AD (by omega) (by omega);have w4:IntKind.wrap .i64 (A-S)=A-S:=AD (by omega) (by omega);have m1:=J4 (x:=x) (y:=A-S) (X:=400000000) (Y:=3500000000) hx (by omega);have m2:=J4 (x:=y) (y:=B) (X:=400000000) (Y:=3500000000) hy (by omega);have w5:IntKind.wrap .i64 (x*(A-S))=x*(A-S):=AD (by omega) (by omega);have w6:IntKind.wrap .i64 (y*B)=y*B:=AD (by omega) (by omega);have w7:IntKind.wrap .i64 (y*B+B)=y*B+B:=AD (by omega) (by omega);have w8:IntKind.wrap .i64 (y*B+B+S)=y*B+B+S:=AD (by omega) (by omega);have w9:IntKind.wrap .i64 (y*B+B+S-1)=y*B+B+S-1:=AD (by omega) (by omega);have w10:IntKind.wrap .i64 (B+S)=B+S:=AD (by omega) (by omega);have t1:(x*(A-S)).tdiv A=x*(A-S)/A:=J5 m1.1;have t2:(y*B+B+S-1).tdiv (B+S)=(y*B+B+S-1)/(B+S):=J5 (by omega);have d1:=NJ (a:=x*(A-S)) (b:=A) m1 (by omega);have d2:=NJ (a:=y*B+B+S-1) (b:=B+S) (M:=2000000000000000000) (by omega) (by omega);have w11:IntKind.wrap .i64 (x*(A-S)/A)=x*(A-S)/A:=AD (by omega) (by omega);have w12:IntKind.wrap .i64 ((y*B+B+S-1)/(B+S))=(y*B+B+S-1)/(B+S):=AD (by omega) (by omega);have z1:¬ A=0:=by omega
 have z2:¬ B+S=0:=by omega
 have e1:CY A S x=x*(A-S)/A:=rfl;have e2:C9 B S y=(y*B+B+S-1)/(B+S):=by unfold C9 cdv;rw [show y*B+(B+S)-1=y*B+B+S-1 by omega]
 refine CB func153 AEK fun E hE=>?_
 simp [p153,AA,inC,Nat.testBit,hc1,hm,hA,hB,hS,w0,w1,w2,w3,w4,w5,w6,w7,w8,w9,w10,w11,w12,t1,t2,z1,z2];apply RZ;simp [results153,e1,e2]
theorem ZY (x y c tl th:Int) (hx:0<=x/\x<=400000000) (hy:0<=y/\y<=400000000) (hc:0<c/\c<=2000) (ht:1500<=tl/\tl<=th/\th<=3500):Ct prog 153 [vsp x y,vi (-c),vsp tl th] (vsp (Cz (1000000*th) (341632*c) x) (Ud (1000000*tl) (341632*c) y)) []:=by
 have hc1:¬ c<0:=by omega
 have hm:max (-c) c=c:=by omega
 obtain ⟨A,hA⟩:∃ A,1000000*tl=A:=⟨_,rfl⟩
 obtain ⟨B,hB⟩:∃ B,1000000*th=B:=⟨_,rfl⟩
 obtain ⟨S,hS⟩:∃ S,341632*c=S:=⟨_,rfl⟩
 have w0:IntKind.wrap .i64 c=c:=AD (by omega) (by omega);have w1:IntKind.wrap .i64 S=S:=AD (by omega) (by omega);have w2:IntKind.wrap .i64 A=A:=AD (by omega) (by omega);have w3:IntKind.wrap .i64 B=B:=AD (by omega) (by omega);have w4:IntKind.wrap .i64 (B+S)=B+S:=AD (by omega) (by omega);have m1:=J4 (x:=x) (y:=B+S) (X:=400000000) (Y:=5000000000) hx (by omega);have m2:=J4 (x:=y) (y:=A) (X:=400000000) (Y:=3500000000) hy (by omega);have w5:IntKind.wrap .i64 (x*(B+S))=x*(B+S):=AD (by omega) (by omega);have w6:IntKind.wrap .i64 (y*A)=y*A:=AD (by omega) (by omega);have w7:IntKind.wrap .i64 (y*A+A)=y*A+A:=AD (by omega) (by omega);have w8:IntKind.wrap .i64 (y*A+A-S)=y*A+A-S:=AD (by omega) (by omega);have w9:IntKind.wrap .i64 (y*A+A-S-1)=y*A+A-S-1:=AD (by omega) (by omega);have w10:IntKind.wrap .i64 (A-S)=A-S:=AD (by omega) (by omega);have t1:(x*(B+S)).tdiv B=x*(B+S)/B:=J5 m1.1;have t2:(y*A+A-S-1).tdiv (A-S)=(y*A+A-S-1)/(A-S):=J5 (by omega);have d1:=NJ (a:=x*(B+S)) (b:=B) m1 (by omega);have d2:=NJ (a:=y*A+A-S-1) (b:=A-S) (M:=2000000000000000000) (by omega) (by omega);have w11:IntKind.wrap .i64 (x*(B+S)/B)=x*(B+S)/B:=AD (by omega) (by omega);have w12:IntKind.wrap .i64 ((y*A+A-S-1)/(A-S))=(y*A+A-S-1)/(A-S):=AD (by omega) (by omega);have z1:¬ B=0:=by omega
 have z2:¬ A-S=0:=by omega
 have e1:Cz B S x=x*(B+S)/B:=rfl;have e2:Ud A S y=(y*A+A-S-1)/(A-S):=by unfold Ud cdv;rw [show y*A+(A-S)-1=y*A+A-S-1 by omega]
 refine CB func153 AEK fun E hE=>?_
 simp [p153,AA,inC,Nat.testBit,hc1,hm,hA,hB,hS,w0,w1,w2,w3,w4,w5,w6,w7,w8,w9,w10,w11,w12,t1,t2,z1,z2];apply RZ;simp [results153,e1,e2]
def Vj (a b c d:Int):Nat->Int × Int
 | 0=>(a,b)
 | 1=>(a,b)
 | _=>(max a c,min b d)
theorem ACl (a b c d:Int):Ct prog 152 [.d (An [(a,b),(c,d)])] (vsp (max a c) (min b d)) []:=by
 have ww1:IntKind.wrap .i64 1=1:=by decide
 have ww2:IntKind.wrap .i64 2=2:=by decide
 refine CB func152 c152 fun E hE=>?_
 simp [p152,AA];refine Al (α:=Nat) (fun k=>⟨AO [(2, .lp 0 0),(3, .lp 1 0),(9, .d (An [(a,b),(c,d)])),(10,vi 2),(11,vi k)],lk [(0,[vi 0,vi 0]),(1,[vi (Vj a b c d k).1,vi (Vj a b c d k).2])],2⟩) (fun k=>k<=2) (fun k=>2-k) 0 ?_ ?_ ?_
 . omega
 . skip
   refine AI.mk hE (lk [(0,0),(1,4194304)]) _ _ _ ?_ ?_ ?_ ?_ ?_<;>simp [Vj]
 . intro i hi
   match i,hi with
   | 0,_=>
     simp [AWX,AA,Vj];refine AL [(11,1)] (by kernel_rfl) ?_;simp [AA,inC,Nat.testBit,ww1];refine ⟨1,by omega,by omega,?_⟩;refine AI.mk hE (lk [(0,0),(1,1)]) _ _ _ ?_ ?_ ?_ ?_ ?_<;>simp
   | 1,_=>
     simp [AWX,AA,Vj];refine AL [(11,1)] (by kernel_rfl) ?_;simp [AA,inC,Nat.testBit,ww2];refine ⟨2,by omega,by omega,?_⟩;refine AI.mk hE (lk [(0,0),(1,1)]) _ _ _ ?_ ?_ ?_ ?_ ?_<;>simp
   | 2,_=>
     simp [AWX,AA,Vj];apply RZ;simp [results152]
   | i+3,hi=>omega
theorem O5 (k:List (Int × Int × Int)) (a b:Int):tmS k a b=tmS k b a:=by
 unfold tmS;rw [Int.min_comm,Int.max_comm]
abbrev thD (k:List (Int × Int × Int)):D:= .fn 183 [.ref [DA k]]
structure TmB (T:Tm) (a b:Int):Prop where
 p:1500<=(T a b).1/\(T a b).1<=(T a b).2/\(T a b).2<=3500
structure PrB (x:Lev):Prop where
 l:0<=x.pl/\x.pl<=400000000
 h:0<=x.ph/\x.ph<=400000000
theorem AQ {H:Hp} {id:Nat} {a b c d:Int} (h:H id=some [vi a,vi b,vi c,vi d]):Bor H (.ls id 0 2 2) (.d (An [(a,b),(c,d)])):=by
 rw [Bk];exact ⟨rfl,rfl,by simp,_,h,rfl⟩
theorem fb (l:List Lev) (k:List (Int × Int × Int)) (i j:Nat) (a b:Lev) (hk:k.length<=1000000) (_:l.length<=1000000) (ha:l[i]?= some a) (hb:l[j]?= some b) (hd:0<b.h-a.h/\b.h-a.h<=2000) (_: -500<=a.h/\a.h<=9000) (hp:PrB a) (hT:TmB (tmS k) a.h b.h):Cm prog 151 [vi j,vi i, .lp 0 0, .d (.ref [thD k])] (lk [(0,[.ls 1 0 l.length 5]),(1,AH A5 l)]) [0,1] (.ret (.tup [])) (lk [(0,[.ls 1 0 l.length 5]),(1,AH A5 (l.set j (mt b (cyu (tmS k) a b))))]):=by
 have c1:=jI k a.h b.h hk
 skip
 have c2:=O6 a.pl a.ph (b.h-a.h) (tmS k a.h b.h).1 (tmS k a.h b.h).2 hp.l hp.h hd hT.p;have c3:=ACl b.pl b.ph (CY (1000000*(tmS k a.h b.h).1) (341632*(b.h-a.h)) a.pl) (C9 (1000000*(tmS k a.h b.h).2) (341632*(b.h-a.h)) a.ph);have w:IntKind.wrap .i64 (b.h-a.h)=b.h-a.h:=AD (by omega) (by omega);have hil:=(List.getElem?_eq_some_iff.1 ha).1;have hjl:=(List.getElem?_eq_some_iff.1 hb).1;have hI:(i:Int)<l.length:=by omega
 have hJ:(j:Int)<l.length:=by omega
 have e1:List.take 5 (List.drop (i*5) (AH A5 l))=[vi a.h,vi a.pl,vi a.ph,vi a.tl,vi a.th]:=J2 hfl ha;have e2:List.take 5 (List.drop (j*5) (AH A5 l))=[vi b.h,vi b.pl,vi b.ph,vi b.tl,vi b.th]:=J2 hfl hb;have f1:=IW hfl ha;have f2:=IW hfl hb;have f3:j*5+1+2<=l.length*5:=by omega
 have hsl:=Aw hfl l;have e3:AA (AH A5 l) (j*5+1) [vi (max b.pl (CY (1000000*(tmS k a.h b.h).1) (341632*(b.h-a.h)) a.pl)),vi (min b.ph (C9 (1000000*(tmS k a.h b.h).2) (341632*(b.h-a.h)) a.ph))]=AH A5 (l.set j (mt b (cyu (tmS k) a b))):=ra hfl (vs:=[di (max b.pl (CY (1000000*(tmS k a.h b.h).1) (341632*(b.h-a.h)) a.pl)),di (min b.ph (C9 (1000000*(tmS k a.h b.h).2) (341632*(b.h-a.h)) a.ph))]) hb (by simp) rfl;refine CM 2 func151 AcV fun E hs hE=>?_
 simp [p151];refine AL [(10,8388610)] (by kernel_rfl) ?_;simp [AA,hI,hJ,e1,e2,hsl,f1,f2,inC,Nat.testBit];refine CLa c1 ?_;simp [inC,Nat.testBit,w];refine CLa c2 ?_;simp [AA,AM];refine CLb (c3) (by simp [AQ,inC,Nat.testBit]) ?_;simp [hJ,e3,hsl,f3];refine AB.by (lk [(0,0),(1,1)]) ?_;simp [results151]
theorem ZT (a b:Int): -(a-b)=b-a:=by omega
theorem fc (l:List Lev) (k:List (Int × Int × Int)) (i j:Nat) (a b:Lev) (hk:k.length<=1000000) (_:l.length<=1000000) (ha:l[i]?= some a) (hb:l[j]?= some b) (hd:0<a.h-b.h/\a.h-b.h<=2000) (_: -500<=a.h/\a.h<=9000) (hp:PrB a) (hT:TmB (tmS k) a.h b.h):Cm prog 151 [vi j,vi i, .lp 0 0, .d (.ref [thD k])] (lk [(0,[.ls 1 0 l.length 5]),(1,AH A5 l)]) [0,1] (.ret (.tup [])) (lk [(0,[.ls 1 0 l.length 5]),(1,AH A5 (l.set j (mt b (cyd (tmS k) b a))))]):=by
 have c1:=jI k a.h b.h hk;rw [O5 k a.h b.h] at c1;have c2:=(ZT a.h b.h) ▸ ZY a.pl a.ph (a.h-b.h) (tmS k b.h a.h).1 (tmS k b.h a.h).2 hp.l hp.h hd (O5 k b.h a.h ▸ hT.p);have c3:=ACl b.pl b.ph (Cz (1000000*(tmS k b.h a.h).2) (341632*(a.h-b.h)) a.pl) (Ud (1000000*(tmS k b.h a.h).1) (341632*(a.h-b.h)) a.ph);have w:IntKind.wrap .i64 (b.h-a.h)=b.h-a.h:=AD (by omega) (by omega);have hil:=(List.getElem?_eq_some_iff.1 ha).1;have hjl:=(List.getElem?_eq_some_iff.1 hb).1;have hI:(i:Int)<l.length:=by omega
 have hJ:(j:Int)<l.length:=by omega
 have e1:List.take 5 (List.drop (i*5) (AH A5 l))=[vi a.h,vi a.pl,vi a.ph,vi a.tl,vi a.th]:=J2 hfl ha;have e2:List.take 5 (List.drop (j*5) (AH A5 l))=[vi b.h,vi b.pl,vi b.ph,vi b.tl,vi b.th]:=J2 hfl hb;have f1:=IW hfl ha;have f2:=IW hfl hb;have f3:j*5+1+2<=l.length*5:=by omega
 have hsl:=Aw hfl l;have e3:AA (AH A5 l) (j*5+1) [vi (max b.pl (Cz (1000000*(tmS k b.h a.h).2) (341632*(a.h-b.h)) a.pl)),vi (min b.ph (Ud (1000000*(tmS k b.h a.h).1) (341632*(a.h-b.h)) a.ph))]=AH A5 (l.set j (mt b (cyd (tmS k) b a))):=ra hfl (vs:=[di (max b.pl (Cz (1000000*(tmS k b.h a.h).2) (341632*(a.h-b.h)) a.pl)),di (min b.ph (Ud (1000000*(tmS k b.h a.h).1) (341632*(a.h-b.h)) a.ph))]) hb (by simp) rfl;refine CM 2 func151 AcV fun E hs hE=>?_
 simp [p151];refine AL [(10,8388610)] (by kernel_rfl) ?_;simp [AA,hI,hJ,e1,e2,hsl,f1,f2,inC,Nat.testBit];refine CLa c1 ?_;simp [inC,Nat.testBit,w];refine CLa c2 ?_;simp [AA,AM];refine CLb (c3) (by simp [AQ,inC,Nat.testBit]) ?_;simp [hJ,e3,hsl,f3];refine AB.by (lk [(0,0),(1,1)]) ?_;simp [results151]
structure OkS (l:List Lev):Prop where
 len:2<=l.length/\l.length<=16
 lev:∀ x∈l,(1000<=x.pl/\x.pl<=x.ph/\x.ph<=12000)/\1500<=x.tl/\x.tl<=x.th/\x.th<=3500
 at':∀ x∈l, -500<=x.h/\x.h<=9000
 step:∀ (i:Nat) (x y:Lev),l[i]?= some x->l[i+1]?= some y->1<=y.h-x.h/\y.h-x.h<=2000
theorem B8 {l:List Lev}:GC l=true↔OkS l:=by
 unfold GC FG;simp only [Bool.and_eq_true,List.all_eq_true];constructor
 . rintro ⟨⟨h1,h2⟩,h3⟩
   have hs:∀ i,i<l.length->Dy l i=true:=fun i hi=>h1 i (by simp [hi])
   refine ⟨?_,?_,?_,?_⟩
   . simp [rgB] at h2;omega
   . intro x hx
     have:=h3 x hx;unfold Ij at this;rw [Bool.and_eq_true,CC,CC] at this;exact this
   . intro x hx
     obtain ⟨i,hi⟩:=List.getElem?_of_mem hx;have:=hs i (List.getElem?_eq_some_iff.1 hi).1;unfold Dy at this;rw [hi] at this;simp [rgB] at this;omega
   . intro i x y hx hy
     have:=hs (i+1) (List.getElem?_eq_some_iff.1 hy).1;unfold Dy at this;rw [hy] at this;simp [rgB,hx] at this;omega
 . rintro ⟨h1,h2,h3,h4⟩
   refine ⟨⟨?_,?_⟩,?_⟩
   . intro i hi
     have hi':i<l.length:=by simpa using hi
     obtain ⟨x,hx⟩:=gE hi';have b1:=h3 x (List.mem_of_getElem? hx);unfold Dy;rw [hx];by_cases h0:i=0
     . simp [rgB,h0];omega
     . obtain ⟨y,hy⟩:∃ y,l[i-1]?= some y:=⟨_,List.getElem?_eq_getElem (by omega)⟩
       have:=h4 (i-1) y x hy (by rw [show i-1+1=i by omega];exact hx);simp [rgB,h0,hy];omega
   . simp [rgB];omega
   . intro x hx
     unfold Ij;rw [Bool.and_eq_true,CC,CC];exact h2 x hx
theorem JA {l:List Lev} {i:Nat}:(knT l)[i]?= (l[i]?).map knOf:=by unfold knT;rw [List.getElem?_map]
theorem Dg {l:List Lev}:(knT l).length=l.length:=by unfold knT;simp
theorem NC {l:List Lev} (h:OkS l):LL (knT l)=true:=by
 unfold LL;have hl:=h.len;simp only [Bool.and_eq_true,decide_eq_true_eq,Dg];refine ⟨⟨by omega,by omega⟩,?_⟩;unfold DV;rw [List.all_eq_true];intro i hi;have hi':i<l.length:=by simpa using hi
 obtain ⟨x,hx⟩:=gE hi';have hxm:=List.mem_of_getElem? hx;have b1:=h.lev x hxm;have b2:=h.at' x hxm;have kx:(knT l)[i]?= some (knOf x):=by rw [JA,hx];rfl
 have ok:okK (knOf x)=true:=by
   rw [FE];unfold knOf;simp only;omega
 cases i with
 | zero=>rw [HZ kx,ok]
 | succ i=>
   obtain ⟨y,hy⟩:∃ y,l[i]?= some y:=⟨_,List.getElem?_eq_getElem (by omega)⟩
   have ky:(knT l)[i]?= some (knOf y):=by rw [JA,hy];rfl
   have:=h.step i y x hy hx;rw [FF kx ky,ok];unfold knOf;simp;omega
def E8 (l:List Lev) (x:Int):Prop:=(∀ k,l[0]?= some k->k.h<=x)/\∀ k,l[l.length-1]?= some k->x<=k.h
theorem AMi {l:List Lev} {x:Int} (h:E8 l x):inR (knT l) x:=by
 refine ⟨fun k hk=>?_,fun k hk=>?_⟩
 . rw [JA] at hk
   cases h0:l[0]? with
   | none=>rw [h0] at hk;cases hk
   | some y=>rw [h0] at hk;cases hk;exact h.1 y h0
 . rw [JA,Dg] at hk
   cases h0:l[l.length-1]? with
   | none=>rw [h0] at hk;cases hk
   | some y=>rw [h0] at hk;cases hk;exact h.2 y h0
theorem kc {l:List Lev} (h:OkS l) {a b:Int} (ha:E8 l a) (hb:E8 l b):tmS (knT l) a b=Fk (knT l) (min a b,max a b) (knT l).length:=by
 have hl:=h.len;obtain ⟨x,hx⟩:∃ x,l[0]?= some x:=⟨_,List.getElem?_eq_getElem (by omega)⟩
 obtain ⟨y,hy⟩:∃ y,l[l.length-1]?= some y:=⟨_,List.getElem?_eq_getElem (by omega)⟩
 have kx:(knT l)[0]?= some (knOf x):=by rw [JA,hx];rfl
 have ky:(knT l)[(knT l).length-1]?= some (knOf y):=by rw [JA,Dg,hy];rfl
 have b1:=h.at' x (List.mem_of_getElem? hx);have b2:=h.at' y (List.mem_of_getElem? hy);have q1:=ha.1 x hx;have q2:=ha.2 y hy;have q3:=hb.1 x hx;have q4:=hb.2 y hy;unfold tmS Jy;rw [if_pos (NC h),if_pos (CT.2 (by simp only;omega)),kx,ky];simp only;rw [if_neg (by unfold knOf;simp only;omega)]
theorem Q5 {l:List Lev} (h:OkS l):∀ k∈knT l,1500<=k.2.1/\k.2.1<=k.2.2/\k.2.2<=3500:=fun k hk=>by
 unfold knT at hk;obtain ⟨x,hx,rfl⟩:=List.mem_map.1 hk;have:=(h.lev x hx).2;unfold knOf;simp only;omega
theorem ABo {l:List Lev} {a b:Int} (ha:E8 l a) (hb:E8 l b):E8 l (min a b)/\E8 l (max a b):=by
 refine ⟨⟨fun k hk=>?_,fun k hk=>?_⟩,fun k hk=>?_,fun k hk=>?_⟩
 . have:=ha.1 k hk;have:=hb.1 k hk;omega
 . have:=ha.2 k hk;have:=hb.2 k hk;omega
 . have:=ha.1 k hk;have:=hb.1 k hk;omega
 . have:=ha.2 k hk;have:=hb.2 k hk;omega
theorem Oq {l:List Lev} (h:OkS l) {a b:Int} (ha:E8 l a) (hb:E8 l b):TmB (tmS (knT l)) a b:=by
 refine ⟨?_⟩;rw [kc h ha hb];have ⟨m1,m2⟩:=ABo ha hb;have n1:=Sn (NC h) (AMi m1) (Q5 h);have n2:=Sn (NC h) (AMi m2) (Q5 h);exact QE (l:=knT l) (x:=(min a b,max a b)) n1 n2 (Q5 h) (knT l).length (Nat.le_refl _)
def StU (k:List (Int × Int × Int)) (n:Nat) (S:Nat->List Lev):Prop:=∀ i,i+1<n->∃ a b,(S i)[i]?= some a/\(S i)[i+1]?= some b/\(0<b.h-a.h/\b.h-a.h<=2000)/\(-500<=a.h/\a.h<=9000)/\PrB a/\TmB (tmS k) a.h b.h/\S (i+1)=(S i).set (i+1) (mt b (cyu (tmS k) a b))
def StD (k:List (Int × Int × Int)) (n:Nat) (S:Nat->List Lev):Prop:=∀ i,i+1<n->∃ a b,(S (i+1))[i+1]?= some a/\(S (i+1))[i]?= some b/\(0<a.h-b.h/\a.h-b.h<=2000)/\(-500<=a.h/\a.h<=9000)/\PrB a/\TmB (tmS k) a.h b.h/\S i=(S (i+1)).set i (mt b (cyd (tmS k) b a))
theorem KD {l:List Lev} {p:Nat->Prop}:(∀ c,c∈AH A5 l->AC p B9 c)=True:=eq_true (Ou fun x y hy=>by
 simp only [List.mem_cons,List.not_mem_nil,or_false] at hy;rcases hy with rfl | rfl | rfl | rfl | rfl<;>exact ⟨_,rfl⟩)
theorem Tz {l:List Lev} (h:l.length≠0):AH A5 l≠[]:=fun h2=>by
 have:=congrArg List.length h2;rw [Aw hfl] at this;simp only [List.length_nil] at this;omega
theorem MX (k:List (Int × Int × Int)) (W:List Lev) (n:Nat) (S:Nat->List Lev) (hk:k.length<=1000000) (hn:2<=n/\n<=1000000) (hlen:∀ i,(S i).length=n) (hS:StU k n S) {E:Ent} (hE:∀ i,¬ E.stab i) {Q:Av->St->Prop}:∀ i:Nat,i<=n-1->PW prog tys eqs E AXn
   (DP (fun st'=>∃ j,j<=n-1/\n-1-j<n-1-i/\AI prog E st' ⟨AO [(6, .lp 0 0),(8, .cl 151 [.lp 0 0, .lp 2 0]),(9, .ls 3 0 n 5),(31,vi ((n:Int)-1)),(32,vi j)],lk [(0,[.ls 1 0 n 5]),(2,[.d (thD k)]),(3,AH A5 W),(1,AH A5 (S j))],4⟩)
     (exC prog E Q 2 (fun _:Unit=>⟨AO [(6, .lp 0 0),(8, .cl 151 [.lp 0 0, .lp 2 0]),(9, .ls 3 0 n 5)],lk [(0,[.ls 1 0 n 5]),(2,[.d (thD k)]),(3,AH A5 W),(1,AH A5 (S (n-1)))],4⟩) (fun _=>True)))
   ⟨AO [(6, .lp 0 0),(8, .cl 151 [.lp 0 0, .lp 2 0]),(9, .ls 3 0 n 5),(31,vi ((n:Int)-1)),(32,vi i)],lk [(0,[.ls 1 0 n 5]),(2,[.d (thD k)]),(3,AH A5 W),(1,AH A5 (S i))],4⟩:=by
 intro i hi;by_cases h:i+1<n
 . obtain ⟨a,b,ha,hb,h1,h2,h3,h4,h5⟩:=hS i h
   have c:=fb (S i) k i (i+1) a b hk (by rw [hlen];omega) ha hb h1 h2 h3 h4;have n1:=Tz (l:=S i) (by rw [hlen];omega);rw [<-h5,hlen] at c;have hz:=@wz i (by omega);have hI:(i:Int)<(n:Int)-1:=by omega
   simp [AXn,hI,hz];have hcast:((i+1:Nat):Int)=(i:Int)+1:=by omega
   rw [hcast] at c;refine CRs c (by simp [n1,KD]) ?_;simp [hz];refine ⟨i+1,by omega,by omega,?_⟩;exact WK hE (lk [(0,0),(1,1),(2,2),(3,3)])
 . have e:i=n-1:=by omega
   subst e;have hI:¬ ((n-1:Nat):Int)<(n:Int)-1:=by omega
   simp [AXn,hI];exact WK hE (lk [(0,0),(1,1),(2,2),(3,3)])
theorem MY (k:List (Int × Int × Int)) (W:List Lev) (n:Nat) (S:Nat->List Lev) (hk:k.length<=1000000) (hn:2<=n/\n<=1000000) (hlen:∀ i,(S i).length=n) (hS:StD k n S) {E:Ent} (hE:∀ i,¬ E.stab i) {Q:Av->St->Prop}:∀ i:Nat,i<=n-1->PW prog tys eqs E AXo
   (DP (fun st'=>∃ j,j<=n-1/\j<i/\AI prog E st' ⟨AO [(6, .lp 0 0),(8, .cl 151 [.lp 0 0, .lp 2 0]),(9, .ls 3 0 n 5),(11,vi j)],lk [(0,[.ls 1 0 n 5]),(2,[.d (thD k)]),(3,AH A5 W),(1,AH A5 (S j))],4⟩)
     (exC prog E Q 4 (fun _:Unit=>⟨AO [(6, .lp 0 0),(8, .cl 151 [.lp 0 0, .lp 2 0]),(9, .ls 3 0 n 5)],lk [(0,[.ls 1 0 n 5]),(2,[.d (thD k)]),(3,AH A5 W),(1,AH A5 (S 0))],4⟩) (fun _=>True)))
   ⟨AO [(6, .lp 0 0),(8, .cl 151 [.lp 0 0, .lp 2 0]),(9, .ls 3 0 n 5),(11,vi i)],lk [(0,[.ls 1 0 n 5]),(2,[.d (thD k)]),(3,AH A5 W),(1,AH A5 (S i))],4⟩:=by
 intro i hi;by_cases h:0<i
 . obtain ⟨j,rfl⟩:∃ j,i=j+1:=⟨i-1,by omega⟩
   obtain ⟨a,b,ha,hb,h1,h2,h3,h4,h5⟩:=hS j (by omega);have c:=fc (S (j+1)) k (j+1) j a b hk (by rw [hlen];omega) ha hb h1 h2 h3 h4;have n1:=Tz (l:=S (j+1)) (by rw [hlen];omega);rw [<-h5,hlen] at c;have hz:IntKind.wrap .i64 (((j+1:Nat):Int)-1)=(j:Int):=by rw [AD (by omega) (by omega)];omega
   have hz2:IntKind.wrap .i64 (j:Int)=(j:Int):=AD (by omega) (by omega);have hI:(0:Int)<(j:Int)+1:=by omega
   have hcast:((j+1:Nat):Int)=(j:Int)+1:=by omega
   rw [hcast] at c;simp [AXo,hI,hz2];refine CRs c (by simp [n1,KD]) ?_;simp [hz2];refine ⟨j,by omega,by omega,?_⟩;exact WK hE (lk [(0,0),(1,1),(2,2),(3,3)])
 . have e:i=0:=by omega
   subst e;simp [AXo];exact WK hE (lk [(0,0),(1,1),(2,2),(3,3)])
end Go.Proofs.Tryz
