/- Own lemmas, used by the last text. Conditions: those that each theorem states. -/
import Derived.Lib.AtoiAll
import Derived.Lib.ItoaNum
import Derived.Lib.Join
import Derived.Lib.SplitLaws
import Derived.Test.YtmaoncnifomnkaaGreatDoorNaaf
import Derived.Test.YtmaoncnifomnkaaGreatDoorNaag
import Derived.Test.YtmaoncnifomnkaaGreatDoorNaah
import Derived.Test.YtmaoncnifomnkaaGreatDoorNaai
set_option maxRecDepth 200000
set_option maxHeartbeats 8000000
namespace Go.Proofs.Tryz
open Go.Psl
def DQ (d:List (Int × Int)) (p:Int × Int):List (Int × Int):=if d.getLast?= some p then d else d++[p]
def ddC (l:List (Int × Int)):List (Int × Int):=l.foldl DQ []
theorem IE {l:List (Int × Int)} {a:Nat} {p:Int × Int} (h:l[a]?= some p):ddC (l.take (a+1))=DQ (ddC (l.take a)) p:=by
 simp [ddC,List.take_add_one,h]
theorem S0 {l:List (Int × Int)}:∀ a,a+1<=l.length->(ddC (l.take (a+1))).getLast?= l[a]?:= fun a h=>by
 obtain ⟨p,hp⟩:∃ p,l[a]?= some p:=⟨l[a],by simp [show a<l.length by omega]⟩
 rw [IE hp,hp,DQ];by_cases h:(ddC (l.take a)).getLast?= some p
 . rw [if_pos h,h]
 . rw [if_neg h];simp
theorem I6 (l:List (Int × Int)):∀ a,(ddC (l.take a)).length<=a
 | 0=>by simp [ddC]
 | a+1=>by
   by_cases h:a<l.length
   . rw [IE (p:=l[a]) (by simp [h]),DQ]
     have:=I6 l a;split
     . omega
     . simp;omega
   . have:=I6 l a
     rw [List.take_of_length_le (by omega)] at this ⊢;omega
theorem KY:∀ (l:List (Int × Int)) (i:Nat),(spD l).take (i*2)=spD (l.take i)
 | l,0=>by simp
 | [],i+1=>by simp
 | a::l,i+1=>by
   rw [show (i+1)*2=i*2+1+1 by omega,Eo,List.take_succ_cons,List.take_succ_cons,List.take_succ_cons,Eo];rw [KY l i]
theorem AYU (n:Nat):AM n [vi 0,vi 0]=List.map V.d (spD (List.replicate n ((0:Int),(0:Int)))):=by
 induction n with
 | zero=>rfl
 | succ n ih=>rw [List.replicate_succ,Eo,List.map_cons,List.map_cons,<-ih];rfl
theorem VK {d m:List (Int × Int)} {n:Nat} (hm:(d++m).length=n):AA (List.map V.d (spD (d++m))) (d.length*2) (AM (n-d.length) [vi 0,vi 0])=List.map V.d (spD (d++List.replicate (n-d.length) (0,0))):=by
 have hl:m.length=n-d.length:=by simp at hm;omega
 unfold AA;rw [AYU,<-List.map_take,KY,<-List.map_drop]
 have h1:(spD (d++m)).drop (d.length*2+(List.map V.d (spD (List.replicate (n-d.length) ((0:Int),(0:Int))))).length)=[]:=by
   apply List.drop_of_length_le;simp;omega
 rw [h1,List.take_left,fG,List.map_append];simp
theorem Abn (l:List (Int × Int)) (hl:l.length<=1000000000):Cm prog 230 [.ls 0 0 l.length 2] (lk [(0,BC l)]) [0] (.ret (.ls 0 0 (ddC l).length 2)) (lk [(0,BC (ddC l++List.replicate (l.length-(ddC l).length) (0,0)))]):=by
 refine Cm.by gok eok mixed 1 func230 c230 rfl (by simp [ntmps230]) (by simp) (A7.at ?_) (by simp) ?_ fun E hE hs=>?_
 . simp
 . simp [LD]
 by_cases h2:l.length<2
 . have h2':(l.length:Int)<2:=by omega
   have e:ddC l=l:=by
     clear hE h2'
     match l,h2 with
     | [],_=>rfl
     | [a],_=>rfl
     | _::_::_,h=>simp at h;omega
   simp [p230,h2'];refine AB.by (lk [(0,0)]) ?_;simp [results230,e]
 have h2':¬ (l.length:Int)<2:=by omega
 simp [p230,h2'];refine Al (α:=Nat) (fun k=>⟨AO [(0, .ls 0 0 l.length 2),(3,vi k)],lk [(0,BC l)],1⟩) (fun k=>1<=k/\k<=l.length/\ddC (l.take k)=l.take k) (fun k=>l.length-k) 1 ?_ ?_ ?_
 . refine ⟨by omega,by omega,?_⟩
   cases l with
   | nil=>rfl
   | cons a l=>rfl
 . exact WKM hE (lk [(0,0)])
 rintro k ⟨k1,k2,hdd⟩
 simp [AZB];refine DW (fun h=>?_) (fun h=>?_)
 . simp at h
   obtain ⟨j,hj⟩:∃ j,k=j+1:=⟨k-1,by omega⟩
   obtain ⟨a,ha⟩:∃ a,l[k]?= some a:=⟨l[k],by simp [h]⟩
   obtain ⟨b,hb⟩:∃ b,l[j]?= some b:=⟨l[j],by simp [show j<l.length by omega]⟩
   have ca:=KS ha;have cb:=KS hb;have q1:k*2+2<=l.length*2:=by omega
   have q2:j*2+2<=l.length*2:=by omega
   have hj1:j<l.length:=by omega
   have w1:IntKind.wrap .i64 ((k:Int)-1)=(j:Int):=by rw [AD (by omega) (by omega)];omega
   have w2:=@wz k (by omega);have hlast:=S0 (l:=l) j (by omega);rw [hb,<-hj] at hlast;by_cases hab:a.1=b.1/\a.2=b.2
   . have hab':a=b:=by ext;exact hab.1;exact hab.2
     have hst:ddC (l.take (k+1))=l.take k:=by rw [IE ha,DQ,hlast,hab',if_pos rfl,hdd]
     simp [inC,Nat.testBit,h,hj1,q1,q2,ca,cb,w1,hab,k2];have hkl:(k:Int)<=l.length:=by omega
     refine BL (α:=Nat) 2 (fun _:Unit=>⟨AO [(0, .ls 0 0 l.length 2),(3,vi (ddC l).length)],lk [(0,BC (ddC l++l.drop (ddC l).length))],1⟩) (fun _=>(ddC l).length<l.length)
       (fun x=>⟨AO [(0, .ls 0 0 l.length 2),(3,vi (ddC (l.take (k+x))).length),(4, .ls 0 (k*2) (l.length-k) 2),(5,vi x)],lk [(0,BC (ddC (l.take (k+x))++l.drop (ddC (l.take (k+x))).length))],1⟩)
       (fun x=>1<=x/\k+x<=l.length/\(ddC (l.take (k+x))).length<k+x) (fun x=>l.length-x) 1 ?_ ?_ ?_ fun _ hc=>?_
     . refine ⟨by omega,by omega,?_⟩
       rw [hst,List.length_take];omega
     . rw [hst,List.length_take,Nat.min_eq_left (by omega),List.take_append_drop]
       exact WKM hE (lk [(0,0)])
     . rintro x ⟨x1,x2,x3⟩
       obtain ⟨dl,hdl⟩:∃ dl,(ddC (l.take (k+x))).length=dl:=⟨_,rfl⟩
       simp [AZA];by_cases hx:x<l.length-k
       . obtain ⟨y,hy⟩:∃ y,x=y+1:=⟨x-1,by omega⟩
         obtain ⟨c,hc⟩:∃ c,l[k+x]?= some c:=⟨l[k+x],by simp [show k+x<l.length by omega]⟩
         obtain ⟨e,he⟩:∃ e,l[k+y]?= some e:=⟨l[k+y],by simp [show k+y<l.length by omega]⟩
         have hnext:=IE hc;have hlst:=S0 (l:=l) (k+y) (by omega);rw [show k+y+1=k+x by omega,he] at hlst;rw [hdl] at x3
         have hMl:∀ t,dl<=t->(ddC (l.take (k+x))++l.drop dl)[t]?= l[t]?:= fun t ht=>by
           rw [List.getElem?_append_right (by omega),List.getElem?_drop,hdl];congr 1;omega
         have hc':(ddC (l.take (k+x))++l.drop dl)[k+x]?= some c:=by rw [hMl _ (by omega),hc]
         have he':(ddC (l.take (k+x))++l.drop dl)[k+y]?= some e:=by rw [hMl _ (by omega),he]
         have hML:(ddC (l.take (k+x))++l.drop dl).length=l.length:=by rw [List.length_append,hdl,List.length_drop];omega
         have hset:(ddC (l.take (k+x))++l.drop dl).set dl c=(ddC (l.take (k+x))++[c])++l.drop (dl+1):=by
           rw [List.set_append_right _ _ (by omega),hdl,Nat.sub_self];cases hd:l.drop dl with
           | nil=>have:=congrArg List.length hd;simp at this;omega
           | cons p r=>
             have hr:l.drop (dl+1)=r:=by
               have:=congrArg (List.drop 1) hd;rw [List.drop_drop] at this;simpa [Nat.add_comm] using this
             rw [hr];simp
         have cc:=KS hc';have ce:=KS he';have sc:=I9 c (l:=ddC (l.take (k+x))++l.drop dl) (i:=dl) (by omega);rw [hset] at sc;have hsl:=Di (ddC (l.take (k+x))++l.drop dl);rw [hML] at hsl;rw [hdl];obtain ⟨M,hM⟩:∃ M,ddC (l.take (k+x))++l.drop dl=M:=⟨_,rfl⟩
         rw [hM] at cc ce sc hsl ⊢;have z1:IntKind.wrap .i64 ((x:Int)-1)=(y:Int):=by rw [AD (by omega) (by omega)];omega
         have z2:=@wz x (by omega);have z3:=@wz dl (by omega);have r1:(k+x)*2+2<=l.length*2:=by omega
         have r2:(k+y)*2+2<=l.length*2:=by omega
         have r3:dl*2+2<=l.length*2:=by omega
         have m1:k*2+x*2=(k+x)*2:=by omega
         have m2:k*2+y*2=(k+y)*2:=by omega
         have y1:y<l.length-k:=by omega
         have d1:dl<l.length:=by omega
         have xx:(x:Int)<((l.length-k:Nat):Int):=by omega
         by_cases hce:c.1=e.1/\c.2=e.2
         . have hce':c=e:=by ext;exact hce.1;exact hce.2
           have hd2:ddC (l.take (k+(x+1)))=ddC (l.take (k+x)):=by rw [<-Nat.add_assoc,hnext,DQ,hlst,hce',if_pos rfl]
           simp [xx,inC,Nat.testBit,hx,y1,hsl,r1,r2,m1,m2,cc,ce,z1,z2,hce];refine ⟨x+1,⟨by omega,by omega,by rw [hd2];omega⟩,by omega,?_⟩;rw [hd2,hdl,hM];exact WKM hE (lk [(0,0)])
         . have hd2:ddC (l.take (k+(x+1)))=ddC (l.take (k+x))++[c]:=by rw [<-Nat.add_assoc,hnext,DQ,hlst,if_neg];intro h;cases h;exact hce ⟨rfl,rfl⟩
           have hne:(!decide (c.1=e.1)||!decide (c.2=e.2))=true:=by simp;omega
           have hdl2:(ddC (l.take (k+x))++[c]).length=dl+1:=by simp [hdl]
           simp [xx,inC,Nat.testBit,hx,y1,hsl,r1,r2,r3,m1,m2,cc,ce,z1,z2,z3,hne,d1,sc];refine ⟨x+1,⟨by omega,by omega,by rw [hd2,hdl2];omega⟩,by omega,?_⟩;rw [hd2,hdl2];refine AI.mkM hE (lk [(0,0)]) _ _ _ ?_ ?_ ?_ ?_ ?_ ?_<;>simp
       . have hkx:k+x=l.length:=by omega
         rw [hkx,List.take_length] at x3 hdl;rw [hkx,List.take_length];simp [hx];refine ⟨by omega,?_⟩;exact WKM hE (lk [(0,0)])
     . obtain ⟨d,hd⟩:∃ d,ddC l=d:=⟨_,rfl⟩
       rw [hd] at hc ⊢;have hML:(d++l.drop d.length).length=l.length:=by simp;omega
       have hcl:=VK hML;have hsl:=Di (d++l.drop d.length);rw [hML] at hsl;have hne:¬ l.length-d.length=0:=by omega
       have hle:d.length<=l.length:=by omega
       have hfit:d.length*2+(l.length-d.length)*2<=l.length*2:=by omega
       simp [hle,hne,hfit,hsl,hcl];refine AB.by (lk [(0,0)]) ?_;simp [results230]
   . have hd:(decide (a.1=b.1)&&decide (a.2=b.2))=false:=by simp;omega
     simp [inC,Nat.testBit,h,hj1,q1,q2,ca,cb,w1,w2,hd];refine ⟨k+1,⟨by omega,by omega,?_⟩,by omega,?_⟩
     . rw [IE ha,DQ,hlast,if_neg,hdd,List.take_add_one (i:=k),ha];rfl
       intro e;cases e;exact hab ⟨rfl,rfl⟩
     . exact WKM hE (lk [(0,0)])
 . simp at h
   have hk:k=l.length:=by omega
   subst hk;rw [List.take_length] at hdd;simp;refine AB.by (lk [(0,0)]) ?_;simp [results230,hdd]
end Go.Proofs.Tryz
namespace Go.Geo
abbrev C:=Int × Int
def lt (a b:C):Prop:=a.1<b.1\/(a.1=b.1/\a.2<b.2)
def cross (a b c:C):Int:=(b.1-a.1)*(c.2-a.2)-(b.2-a.2)*(c.1-a.1)
def xp (u v:C):Int:=u.1*v.2-u.2*v.1
def pos (u:C):Prop:=0<u.1\/(u.1=0/\0<u.2)
def sb (a b:C):C:=(a.1-b.1,a.2-b.2)
theorem lt_irr (a:C):¬ lt a a:=by unfold lt;omega
theorem lt_trans {a b c:C} (h1:lt a b) (h2:lt b c):lt a c:=by unfold lt at*;omega
theorem lt_tri (a b:C):lt a b\/a=b\/lt b a:=by
 rcases a with ⟨a1,a2⟩;rcases b with ⟨b1,b2⟩;simp only [lt,Prod.mk.injEq];omega
theorem DT {a b:C} (h:lt a b):pos (sb b a):=by unfold lt at h;unfold pos sb;omega
theorem kh (u v w:C):v.1*xp u w=w.1*xp u v+u.1*xp v w:=by unfold xp;grind
theorem IU (a b c:C):cross a b c=xp (sb b a) (sb c a):=by unfold cross xp sb;grind
theorem cross_xp2 (a b c:C):cross a b c=xp (sb b a) (sb c b):=by unfold cross xp sb;grind
theorem JB (a b c:C):cross a b c=xp (sb c a) (sb c b):=by unfold cross xp sb;grind
theorem Q6 (u v:C):xp u v= - xp v u:=by unfold xp;grind
theorem HY (a b c:C):cross a b c= - cross a c b:=by unfold cross;grind
theorem ns (a b:C):cross a b a=0:=by unfold cross;grind
theorem x4 (a b:C):cross a b b=0:=by unfold cross;grind
theorem C8 {x y:Int} (h:0<x) (hy:0<=x*y):0<=y:=by
 apply Int.not_lt.1;intro hn
 have:=Int.mul_neg_of_pos_of_neg h hn;omega
theorem tr {u v w:C} (hu:pos u) (hv:pos v) (hw:pos w) (h1:0<=xp u v) (h2:0<=xp v w):0<=xp u w:=by
 rcases hv with hv | ⟨hv,hv2⟩
 . refine C8 hv ?_
   rw [kh];have a:=Int.mul_nonneg (show 0<=w.1 by unfold pos at hw;omega) h1;have b:=Int.mul_nonneg (show 0<=u.1 by unfold pos at hu;omega) h2;omega
 . have e1:xp v w=v.2* -w.1:=by unfold xp;rw [hv];grind
   rw [e1] at h2;have:=C8 hv2 h2;have hw1:w.1=0:=by unfold pos at hw;omega
   have hw2:0<w.2:=by unfold pos at hw;omega
   have e2:xp u w=u.1*w.2:=by unfold xp;rw [hw1];grind
   rw [e2];exact Int.mul_nonneg (by unfold pos at hu;omega) (by omega)
def Qs:List C->C->List C
 | b::a::r,p=>if cross a b p<=0 then Qs (a::r) p else p::b::a::r
 | st,p=>p::st
def AE (l:List C):List C:=l.foldl Qs []
def edg:List C->List (C × C)
 | b::a::r=>(a,b)::edg (a::r)
 | _=>[]
def l7 (done:List C):List C->Prop
 | c::b::a::r=>lt b c/\0<cross a b c/\(∀ q∈done,0<=cross b c q)/\l7 done (b::a::r)
 | c::b::[]=>lt b c/\∀ q∈done,0<=cross b c q
 | _=>True
theorem l7.tail {done:List C} {b:C}:∀ {r:List C},l7 done (b::r)->l7 done r
 | [],_=>trivial
 | [_],_=>trivial
 | _::_::_,h=>h.2.2.2
theorem l7.lt2 {done:List C} {c b:C}:∀ {r:List C},l7 done (c::b::r)->lt b c
 | [],h=>h.1
 | _::_,h=>h.1
theorem l7.above {done:List C} {c b:C}:∀ {r:List C},l7 done (c::b::r)->∀ q∈done,0<=cross b c q
 | [],h=>h.2
 | _::_,h=>h.2.2.1
theorem l7.one {done:List C} {q:C}:∀ {st:List C},l7 done st->(∀ e∈edg st,0<=cross e.1 e.2 q)->l7 (done++[q]) st
 | [],_,_=>trivial
 | [_],_,_=>trivial
 | [c,b],h,hq=>⟨h.1,fun x hx=>by
     rcases List.mem_append.1 hx with hx | hx
     . exact h.2 x hx
     . rw [List.mem_singleton.1 hx];exact hq (b,c) (by simp [edg])⟩
 | c::b::a::r,h,hq=>⟨h.1,h.2.1,fun x hx=>by
     rcases List.mem_append.1 hx with hx | hx
     . exact h.2.2.1 x hx
     . rw [List.mem_singleton.1 hx];exact hq (b,c) (by simp [edg]),l7.one h.2.2.2 fun e he=>hq e (by simp only [edg,List.mem_cons] at he ⊢;exact Or.inr he)⟩
theorem TK {done:List C} {p:C}:∀ {st:List C},l7 done st->(∀ b∈st,lt b p)->(∀ b a r,st=b::a::r->0<=cross a b p)->∀ e∈edg st,0<=cross e.1 e.2 p
 | [],_,_,_,_,he=>by simp [edg] at he
 | [_],_,_,_,_,he=>by simp [edg] at he
 | [c,b],_,_,h,e,he=>by simp [edg] at he;subst he;exact h c b [] rfl
 | c::b::a::r,hg,hl,h,e,he=>by
   simp only [edg,List.mem_cons] at he;have h0:=h c b (a::r) rfl;have hba:lt a b:=hg.2.2.2.lt2;have hcb:=hg.1;rcases he with rfl | he
   . exact h0
   . refine TK hg.2.2.2 (fun x hx=>hl x (by simp [hx])) (fun x y s hs=>?_) e (by simp only [edg,List.mem_cons];exact he)
     cases hs;have h1:=hg.2.1;rw [cross_xp2] at h1 ⊢;rw [IU] at h0;exact tr (DT hba) (DT hcb) (DT (hl b (by simp))) (Int.le_of_lt h1) h0
theorem ME {done:List C} {p:C} (hp:∀ q∈done,lt q p):∀ {st:List C},l7 done st->(∀ b∈st,b∈done)->(∀ b r,st=b::r->∀ q∈done,¬ lt q b->0<=cross b p q)->(∀ f,st.getLast?= some f->∀ q∈done,¬ lt q f)->l7 (done++[p]) (Qs st p)
 | [],_,_,_,_=>trivial
 | [b],_,hs,hk,h1=>by
   refine ⟨hp b (hs b (by simp)),fun q hq=>?_⟩;rcases List.mem_append.1 hq with hq | hq
   . exact hk b [] rfl q hq (h1 b rfl q hq)
   . rw [List.mem_singleton.1 hq,x4];omega
 | b::a::r,hg,hs,hk,h1=>by
   have hab:=hg.lt2;have hbp:=hp b (hs b (by simp));have hap:=hp a (hs a (by simp));unfold Qs;by_cases hc:cross a b p<=0
   . rw [if_pos hc]
     refine ME hp hg.tail (fun x hx=>hs x (by simp [hx])) (fun a' r' e q hq hqa=>?_) (fun f e q hq=>h1 f (by rw [List.getLast?_cons_cons];exact e) q hq);cases e;have hqp:=hp q hq;have hba:0<=xp (sb p a) (sb b a):=by rw [HY,IU] at hc;omega
     have hbp2:0<=xp (sb p b) (sb p a):=by rw [JB] at hc;rw [Q6];omega
     rcases lt_tri q b with hqb | rfl | hbq
     . rcases lt_tri a q with haq | rfl | hqa2
       . have h2:=hg.above q hq
         rw [IU] at h2 ⊢;exact tr (DT hap) (DT hab) (DT haq) hba h2
       . rw [ns];omega
       . exact absurd hqa2 hqa
     . rw [IU];exact hba
     . have h2:=hk b (a::r) rfl q hq (fun h=>lt_irr _ (lt_trans h hbq))
       rw [HY,JB] at h2;rw [HY,JB];have h3:0<=xp (sb p q) (sb p b):=by rw [Q6];omega
       have:=tr (DT hqp) (DT hbp) (DT hap) h3 hbp2;rw [Q6] at this;omega
   . rw [if_neg hc]
     refine ⟨hbp,by omega,fun q hq=>?_,hg.one (TK hg (fun x hx=>hp x (hs x hx)) fun b' a' r' e=>by cases e;omega)⟩;rcases List.mem_append.1 hq with hq | hq
     . rcases lt_tri q b with hqb | rfl | hbq
       . have h2:=hg.above q hq
         have h3:0<=xp (sb b q) (sb b a):=by
           have:cross a b q=xp (sb b q) (sb b a):=by unfold cross xp sb;grind
           omega
         have h4:0<=xp (sb b a) (sb p b):=by rw [<-cross_xp2];omega
         have:=tr (DT hqb) (DT hab) (DT hbp) h3 h4;have e:cross b p q=xp (sb b q) (sb p b):=by unfold cross xp sb;grind
         omega
       . rw [ns];omega
       . exact hk b (a::r) rfl q hq fun h=>lt_irr _ (lt_trans h hbq)
     . rw [List.mem_singleton.1 hq,x4];omega
def Sorted:List C->Prop:=List.Pairwise lt
theorem pushS_head (p:C):∀ st:List C,∃ r,Qs st p=p::r/\(st=[]->r=[])/\(st≠[]->r≠[]/\r.getLast?= st.getLast?)/\r.Sublist st
 | []=>⟨[],rfl,fun _=>rfl,fun h=>absurd rfl h,List.Sublist.refl _⟩
 | [b]=>⟨[b],rfl,fun h=>by simp at h,fun _=>⟨by simp,rfl⟩,List.Sublist.refl _⟩
 | b::a::r=>by
   unfold Qs;by_cases h:cross a b p<=0
   . rw [if_pos h]
     obtain ⟨r',h1,_,h3,h4⟩:=pushS_head p (a::r);exact ⟨r',h1,fun h=>by simp at h,fun _=>by rw [List.getLast?_cons_cons];exact h3 (by simp),h4.cons b⟩
   . rw [if_neg h]
     exact ⟨b::a::r,rfl,fun h=>by simp at h,fun _=>⟨by simp,rfl⟩,List.Sublist.refl _⟩
structure J1 (l st:List C):Prop where
 good:l7 l st
 sub:st.reverse.Sublist l
 top:st.head?= l.getLast?
 bot:st.getLast?= l.head?
theorem chainR_snoc (l:List C) (p:C):AE (l++[p])=Qs (AE l) p:=by simp [AE]
theorem Dh {l:List C} (h:Sorted l) {f:C} (hf:l.head?= some f):∀ q∈l,¬ lt q f:=by
 cases l with
 | nil=>simp at hf
 | cons a r=>
   simp at hf;subst hf;intro q hq hlt;rcases List.mem_cons.1 hq with rfl | hq
   . exact lt_irr _ hlt
   . exact lt_irr _ (lt_trans hlt ((List.pairwise_cons.1 h).1 q hq))
theorem F4 (l:List C) (h:Sorted l):J1 l (AE l):=by
 have key:∀ n,∀ l:List C,l.length=n->Sorted l->J1 l (AE l):=by
   intro n;induction n with
   | zero=>
     intro l hl _;rw [List.length_eq_zero_iff] at hl;subst hl;exact ⟨trivial,List.Sublist.refl _,rfl,rfl⟩
   | succ n ih=>
     intro l hl hs;rcases List.eq_nil_or_concat l with rfl | ⟨l',p,rfl⟩
     . simp at hl
     rw [List.concat_eq_append] at hl hs ⊢;have hs':Sorted l':=(List.pairwise_append.1 hs).1;have hp:∀ q∈l',lt q p:=fun q hq=>(List.pairwise_append.1 hs).2.2 q hq p (by simp)
     have hi:=ih l' (by simpa using hl) hs';rw [chainR_snoc];obtain ⟨r,e,e1,e2,e3⟩:=pushS_head p (AE l');have hmem:∀ b∈AE l',b∈l':=fun b hb=>hi.sub.subset (List.mem_reverse.2 hb)
     refine ⟨ME hp hi.good hmem ?_ ?_,?_,?_,?_⟩
     . intro b r' hb q hq hqb
       have ht:=hi.top;rw [hb] at ht;simp at ht
       have hql:q=b:=by
         rcases List.eq_nil_or_concat l' with rfl | ⟨l2,x,rfl⟩
         . simp at hq
         . rw [List.concat_eq_append] at ht hq hs'
           simp at ht;subst ht;rcases List.mem_append.1 hq with hq | hq
           . exact absurd ((List.pairwise_append.1 hs').2.2 q hq b (by simp)) hqb
           . exact List.mem_singleton.1 hq
       rw [hql,ns];omega
     . intro f hf
       exact Dh hs' (by rw [<-hi.bot];exact hf)
     . rw [e,List.reverse_cons]
       exact ((List.reverse_sublist.2 e3).trans hi.sub).append (List.Sublist.refl _)
     . rw [e];simp
     . rw [e]
       by_cases h0:AE l'=[]
       . have hl':l'=[]:=by
           have:=hi.top;rw [h0] at this;simp at this;cases l' with
           | nil=>rfl
           | cons a b=>simp [List.getLast?_cons] at this
         subst hl';rw [e1 h0];rfl
       . obtain ⟨h1,h2⟩:=e2 h0
         cases r with
         | nil=>exact absurd rfl h1
         | cons x r=>
           rw [List.getLast?_cons_cons,h2,hi.bot];cases l' with
           | nil=>exact absurd rfl h0
           | cons a b=>rfl
 exact key _ l rfl h
def neg (p:C):C:=(-p.1, -p.2)
theorem EH (p:C):neg (neg p)=p:=by simp [neg]
theorem MC (a b c:C):cross (neg a) (neg b) (neg c)=cross a b c:=by unfold cross neg;grind
theorem Qy {a b:C}:lt (neg a) (neg b)↔lt b a:=by unfold lt neg;omega
theorem AWw (p:C):∀ st:List C,Qs (st.map neg) (neg p)=(Qs st p).map neg
 | []=>rfl
 | [_]=>rfl
 | b::a::r=>by
   have ih:=AWw p (a::r);simp only [List.map_cons] at ih ⊢;unfold Qs;simp only [MC];split
   . exact ih
   . rfl
theorem Qz (l:List C):AE (l.map neg)=(AE l).map neg:=by
 have key:∀ (l st:List C),(l.map neg).foldl Qs (st.map neg)=(l.foldl Qs st).map neg:=by
   intro l;induction l with
   | nil=>intro st;rfl
   | cons a l ih=>intro st;simp only [List.map_cons,List.foldl_cons];rw [AWw,ih]
 exact key l []
theorem Ks {l:List C} (h:Sorted l):Sorted (l.reverse.map neg):=by
 unfold Sorted at*;rw [List.pairwise_map,List.pairwise_reverse];exact h.imp fun h=>Qy.2 h
def Bo (l:List C):List C:=if l.length<3 then l else (AE l).tail.reverse++(AE l.reverse).tail.reverse
theorem Yp {l:List C} (h:Sorted l):J1 (l.reverse.map neg) ((AE l.reverse).map neg):=by
 rw [<-Qz];exact F4 _ (Ks h)
theorem Yq {l st:List C} (h:J1 l st) {a:C} (ha:l.getLast?= some a):∃ t,st=a::t:=by
 have:=h.top;rw [ha] at this;cases st with
 | nil=>simp at this
 | cons b t=>simp at this;exact ⟨t,by rw [this]⟩
theorem chains {l:List C} (h:Sorted l) (h2:2<=l.length):∃ f g lo up,l.head?= some f/\l.getLast?= some g/\f≠g/\AE l=g::lo/\AE l.reverse=f::up/\lo.getLast?= some f/\up.getLast?= some g:=by
 cases l with
 | nil=>simp at h2
 | cons f r=>
   rcases List.eq_nil_or_concat r with rfl | ⟨m,g,rfl⟩
   . simp at h2
   rw [List.concat_eq_append] at*
   have hfg:f≠g:=by
     intro e;have:=(List.pairwise_cons.1 h).1 g (by simp);rw [e] at this;exact lt_irr _ this
   have hl:(f::(m++[g])).getLast?= some g:=by rw [show f::(m++[g])=(f::m)++[g] from rfl,List.getLast?_append];rfl
   obtain ⟨lo,hlo⟩:=Yq (F4 _ h) hl;have hu:=Yp h;have hl2:((f::(m++[g])).reverse.map neg).getLast?= some (neg f):=by rw [List.getLast?_map,List.getLast?_reverse];rfl
   obtain ⟨u',hu'⟩:=Yq hu hl2;have hb:=(F4 _ h).bot;rw [hlo] at hb;have hub:=hu.bot
   obtain ⟨up,hup⟩:∃ up,AE (f::(m++[g])).reverse=f::up:=by
     cases hc:AE (f::(m++[g])).reverse with
     | nil=>rw [hc] at hu';simp at hu'
     | cons a t=>
       rw [hc] at hu';simp only [List.map_cons,List.cons.injEq] at hu';have:a=f:=by rw [<-EH a,hu'.1,EH]
       exact ⟨t,by rw [this]⟩
   refine ⟨f,g,lo,up,rfl,hl,hfg,hlo,hup,?_,?_⟩
   . cases lo with
     | nil=>simp at hb;exact absurd hb.symm hfg
     | cons a t=>rw [List.getLast?_cons_cons] at hb;rw [hb];rfl
   . rw [hup] at hub
     simp at hub;cases up with
     | nil=>
       simp at hub;have:f=g:=by rw [<-EH f,hub,EH]
       exact absurd this hfg
     | cons a t=>
       simp [List.getLast?_cons_cons] at hub;rw [<-List.map_cons,List.getLast?_map,Option.map_eq_some_iff] at hub;obtain ⟨x,hx1,hx2⟩:=hub;rw [hx1,show x=g by rw [<-EH x,hx2,EH]]
def le (a b:C):Prop:=¬ lt b a
end Go.Geo
namespace Go.Proofs.Tryz
open Go.Psl
open Go.Geo (cross Qs AE)
def Fo:List (Int × Int)->Int × Int->List (Int × Int)
 | b::a::r,p=>if cross a b p<=0 then Fo (a::r) p else b::a::r
 | st,_=>st
theorem Ek (p:Int × Int):∀ st,Qs st p=p::Fo st p
 | []=>rfl
 | [_]=>rfl
 | b::a::r=>by
   unfold Qs Fo;split
   . exact Ek p (a::r)
   . rfl
theorem N9 (p:Int × Int):∀ st q,q∈Fo st p->q∈st
 | [],q,h=>h
 | [_],q,h=>h
 | b::a::r,q,h=>by
   unfold Fo at h;split at h
   . exact List.mem_cons_of_mem _ (N9 p (a::r) q h)
   . exact h
theorem OA {p a b:Int × Int} {r:List (Int × Int)}:Fo (b::a::r) p=if cross a b p<=0 then Fo (a::r) p else b::a::r:=rfl
theorem KK (p:Int × Int):∀ st,(Fo st p).length<=st.length
 | []=>Nat.le_refl _
 | [_]=>Nat.le_refl _
 | b::a::r=>by
   unfold Fo;split
   . exact Nat.le_succ_of_le (KK p (a::r))
   . exact Nat.le_refl _
theorem Ez:∀ (l:List (Int × Int)),(AE l).length<=l.length:=fun l=>by
 have key:∀ (l st:List (Int × Int)),(l.foldl Qs st).length<=st.length+l.length:=by
   intro l;induction l with
   | nil=>intro st;simp
   | cons a l ih=>
     intro st;have:=ih (Qs st a);have h2:=KK a st;rw [Ek] at this;simp only [List.foldl_cons,List.length_cons] at this ⊢;rw [Ek];omega
 have:=key l [];simpa [AE] using this
theorem QA {l:List (Int × Int)}:∀ q∈AE l,q∈l:=fun q h=>by
 have key:∀ (l st:List (Int × Int)),∀ q∈l.foldl Qs st,q∈l\/q∈st:=by
   intro l;induction l with
   | nil=>intro st q h;exact Or.inr h
   | cons a l ih=>
     intro st q h;rcases ih _ q h with h | h
     . exact Or.inl (List.mem_cons_of_mem _ h)
     . rw [Ek] at h
       rcases List.mem_cons.1 h with rfl | h
       . exact Or.inl (List.mem_cons_self ..)
       . exact Or.inr (N9 a st q h)
 rcases key l [] q h with h | h
 . exact h
 . simp at h
theorem QB {l:List (Int × Int)} {i:Nat} {p:Int × Int} (h:l[i]?= some p):AE (l.take (i+1))=p::Fo (AE (l.take i)) p:=by
 rw [List.take_add_one,h]
 show AE (l.take i++[p])=_
 rw [Go.Geo.chainR_snoc,Ek]
def Ld (out z:List (Int × Int)) (b:Nat):List (Nat × List V):=if out.isEmpty then [] else [(b,BC (out++z))]
@[simp] theorem mX (z:List (Int × Int)) (b:Nat):Ld [] z b=[]:=rfl
theorem CN (l z:List (Int × Int)) (p:Int × Int) (b:Nat):Ld (l++[p]) z b=[(b,BC (l++[p]++z))]:=by simp [Ld]
theorem KL (l z:List (Int × Int)):List.take (l.length*2) (List.map V.d (spD (l++z)))=List.map V.d (spD l):=by
 rw [<-List.map_take,KY,List.take_left]
theorem Sj (p:Int × Int) (l:List (Int × Int)):List.map V.d (spD (l++[p]))=List.map V.d (spD l)++[vi p.1,vi p.2]:=by rw [bZ];simp
theorem CO (O:List (Int × Int)):O=[]\/∃ o x,O=o++[x]:=by
 rcases List.eq_nil_or_concat O with rfl | ⟨o,x,rfl⟩
 . exact Or.inl rfl
 . exact Or.inr ⟨o,x,List.concat_eq_append⟩
theorem GP {O:List (Int × Int)} (h:O≠[]) (b:Nat):Ju O b= .ls b 0 O.length 2:=by
 obtain rfl | ⟨o,x,rfl⟩:=CO O
 . exact absurd rfl h
 . simp
theorem GQ {O z:List (Int × Int)} (h:O≠[]) (b:Nat):Ld O z b=[(b,BC (O++z))]:=by
 obtain rfl | ⟨o,x,rfl⟩:=CO O
 . exact absurd rfl h
 . exact CN o z x b
theorem XN (O z:List (Int × Int)) (b n:Nat) (h:b<n):A7 n (Ld O z b):=by
 obtain rfl | ⟨o,x,rfl⟩:=CO O
 . trivial
 . rw [CN]
   simp [h]
theorem jj (O:List (Int × Int)) (b n:Nat) (h:b<n):AC (· < n) AR (Ju O b):=by
 obtain rfl | ⟨o,x,rfl⟩:=CO O
 . simp
 . simp [h]
theorem OL {Γ:Tys} {t:TypeId} {O:List (Int × Int)} {b:Nat}:Iy Γ t (Ju O b)=(Γ t).bind fun y=>match y.sh with | .slice _=>some (.d (.lit (.int .i64 O.length)), .none) | _=>none:=by
 obtain rfl | ⟨o,x,rfl⟩:=CO O
 . exact OQ
 . rw [Rx,Sw];congr;funext y;cases y.sh<;>simp
theorem QH (a b p:Int × Int):TX (DU a b) (DU b p)=cross a b p:=(Go.Geo.cross_xp2 a b p).symm
theorem Lv {l:List (Int × Int)} (h2:2<=l.length):∃ top rest,AE l=top::rest/\rest≠[]:=by
 rcases List.eq_nil_or_concat l with rfl | ⟨l',p,rfl⟩
 . simp at h2
 . rw [List.concat_eq_append,Go.Geo.chainR_snoc]
   obtain ⟨r,e,_,e2,_⟩:=Go.Geo.pushS_head p (AE l');refine ⟨p,r,e,fun hr=>?_⟩
   have hne:AE l'≠[]:=by
     cases l' with
     | nil=>simp at h2
     | cons x l'=>
       rcases List.eq_nil_or_concat (x::l') with h | ⟨m,y,h⟩
       . simp at h
       . rw [h,List.concat_eq_append,Go.Geo.chainR_snoc,Ek];simp
   exact (e2 hne).1 hr
theorem sI (B z l zl:List (Int × Int)) (hB:B.length<=100000) (hl:l.length<=100000) (hbd:∀ q∈l,bd 536870912 q) (h2:2<=l.length):
   ∃ z',Cm prog 231 [.lp 0 0, .lp 1 0] (lk ((0,[Ju B 3])::(1,[.ls 2 0 l.length 2])::(2,BC (l++zl))::Ld B z 3)) [0,1,2] (.ret (.tup []))
     (lk ((0,[Ju (B++(AE l).tail.reverse) 4])::(1,[.ls 2 0 l.length 2])::(2,BC (l++zl))::Ld (B++(AE l).tail.reverse) z' 4)):=by
 obtain ⟨top,rest,hch,hrest⟩:=Lv h2;refine ⟨[top],?_⟩;rw [hch,List.tail_cons];have hrr:rest.reverse≠[]:=by simp [hrest]
 have hR:B++rest.reverse≠[]:=by simp [hrest]
 rw [GP hR,GQ hR];refine Cm.by gok eok mixed 4 func231 c231 rfl (by simp [ntmps231]) (by simp) (A7.at ?_) (by simp) ?_ fun E hE hs=>?_
 . refine ⟨by show 0<4;omega,fun c hc=>?_,by show 1<4;omega,fun c hc=>?_,by show 2<4;omega,fun c hc=>?_,XN _ _ _ _ (by omega)⟩
   . simp at hc;subst hc;exact jj B 3 4 (by omega)
   . simp at hc;subst hc;simp
   . exact iI c hc
 . simp [LD]
 have hst0:AE (l.take 0)=[]:=by simp [AE]
 have hcl:=fun i=>Ez (l.take i)
 have hcm:∀ i,∀ q∈AE (l.take i),bd 536870912 q:=fun i q hq=>hbd q (List.mem_of_mem_take (QA q hq))
 obtain ⟨dl,hdl⟩:∃ dl,spD (l++zl)=dl:=⟨_,rfl⟩
 have hdl':BC (l++zl)=dl.map V.d:=by rw [<-hdl]
 have hlat:∀ i p,l[i]?= some p->List.take 2 (List.drop (i*2) (dl.map V.d))=[vi p.1,vi p.2]:=fun i p h=>by
   rw [<-hdl];exact KS (by rw [List.getElem?_append_left (List.getElem?_eq_some_iff.1 h).1];exact h)
 have hlcl:l.length*2<=dl.length:=by rw [<-hdl];simp;omega
 rw [hdl'];simp [p231,OL]
 refine Al (α:=Nat × List (Int × Int)) (fun x=>⟨AO [(0, .lp 0 0),(1, .lp 1 0),(2,vi B.length),(7, .ls 2 0 l.length 2),(8,vi l.length),(9,vi x.1)],lk ((0,[Ju (B++(AE (l.take x.1)).reverse) 3])::(1,[.ls 2 0 l.length 2])::(2,dl.map .d)::Ld (B++(AE (l.take x.1)).reverse) x.2 3),4⟩)
   (fun x=>x.1<=l.length/\(x.1=l.length->x.2=[])) (fun x=>l.length-x.1) (0,z) ?_ ?_ ?_
 . exact ⟨by omega,fun h=>by simp only at h;omega⟩
 . simp only [hst0,List.reverse_nil,List.append_nil]
   obtain rfl | ⟨b0,x0,rfl⟩:=CO B
   . exact WKM hE (lk [(0,0),(1,1),(2,2)])
   . rw [CN]
     exact WKM hE (lk [(0,0),(1,1),(2,2),(3,3)])
 rintro ⟨i,z⟩ ⟨hi,hz⟩
 simp only at hi hz;simp [AZC];refine DW (fun h=>?_) (fun h=>?_)
 . simp at h
   obtain ⟨p,hp⟩:∃ p,l[i]?= some p:=⟨l[i],by simp [h]⟩
   have hpm:=hbd p (List.mem_of_getElem? hp);have cp:=hlat i p hp;have q1:i*2+2<=dl.length:=by omega
   have w1:=@wz i (by omega);have hct:=QB hp;have hci:=hcl i;have hcmi:=hcm i;have wB:IntKind.wrap .i64 ((B.length:Int)+1)=(B.length:Int)+1:=AD (by omega) (by omega);obtain ⟨st0,hst⟩:∃ st0,AE (l.take i)=st0:=⟨_,rfl⟩
   rw [hst] at hct hci hcmi ⊢;have hl0:st0.length<=100000:=by simp at hci;omega
   simp [h,cp,q1,AA]
   refine BL (α:=List (Int × Int) × List (Int × Int)) 2 (fun z:List (Int × Int)=>⟨AO [(0, .lp 0 0),(1, .lp 1 0),(2,vi B.length),(4, .lp 4 0),(7, .ls 2 0 l.length 2),(8,vi l.length),(9,vi i)],lk ((0,[Ju (B++(Fo st0 p).reverse) 3])::(1,[.ls 2 0 l.length 2])::(2,dl.map .d)::(4,[vi p.1,vi p.2])::Ld (B++(Fo st0 p).reverse) z 3),5⟩) (fun _=>True)
     (fun x=>⟨AO [(0, .lp 0 0),(1, .lp 1 0),(2,vi B.length),(4, .lp 4 0),(7, .ls 2 0 l.length 2),(8,vi l.length),(9,vi i)],lk ((0,[Ju (B++x.1.reverse) 3])::(1,[.ls 2 0 l.length 2])::(2,dl.map .d)::(4,[vi p.1,vi p.2])::Ld (B++x.1.reverse) x.2 3),5⟩)
     (fun x=>Fo x.1 p=Fo st0 p/\x.1.length<=100000/\∀ q∈x.1,bd 536870912 q) (fun x=>x.1.length) (st0,z) ?_ ?_ ?_ fun zz _=>?_
   . exact ⟨rfl,hl0,hcmi⟩
   . obtain e | ⟨b0,x0,e⟩:=CO (B++st0.reverse)<;>rw [e]
     . exact WKM hE (lk [(0,0),(1,1),(2,2),(4,3145732)])
     . rw [CN]
       exact WKM hE (lk [(0,0),(1,1),(2,2),(3,3),(4,3145732)])
   . rintro ⟨st,z⟩ ⟨hpop,hlen,hm⟩
     simp only at hpop hlen hm;by_cases h2s:st.length<2
     . have hps:Fo st0 p=st:=by
         rw [<-hpop]
         match st,h2s with
         | [],_=>rfl
         | [_],_=>rfl
         | _::_::_,h=>simp at h;omega
       rw [hps];obtain ⟨O,hO⟩:∃ O,B++st.reverse=O:=⟨_,rfl⟩
       have hOl:O.length=B.length+st.length:=by rw [<-hO];simp
       rw [hO];have hlt:¬ ((B.length:Int)+1<(O.length:Int)):=by omega
       simp [AXQ,OL,wB,hlt,inC,Nat.testBit];refine ⟨z,?_⟩;obtain rfl | ⟨b0,x0,rfl⟩:=CO O
       . exact WKM hE (lk [(0,0),(1,1),(2,2),(4,4)])
       . rw [CN]
         exact WKM hE (lk [(0,0),(1,1),(2,2),(3,3),(4,4)])
     . obtain ⟨b,a,r,rfl⟩:∃ b a r,st=b::a::r:=by
         match st,h2s with
         | b::a::r,_=>exact ⟨b,a,r,rfl⟩
         | [],h=>simp at h
         | [_],h=>simp at h
       have ba:=hm a (by simp);have bb:=hm b (by simp);obtain ⟨m,hmm⟩:∃ m,m=B.length+r.length:=⟨_,rfl⟩
       obtain ⟨m1,hm1⟩:∃ m1,m1=m+1:=⟨_,rfl⟩
       obtain ⟨O,hO⟩:∃ O,B++(b::a::r).reverse=O:=⟨_,rfl⟩
       have hO2:O=B++r.reverse++[a]++[b]:=by rw [<-hO];simp
       have hO3:B++(a::r).reverse=B++r.reverse++[a]:=by simp
       obtain ⟨N,hN⟩:∃ N,O.length=N:=⟨_,rfl⟩
       have hNm:N=m+2:=by rw [<-hN,hO2,hmm];simp;omega
       have hOne:O≠[]:=by rw [hO2];simp
       have ha':(O++z)[m]?= some a:=by
         rw [hO2,hmm];simp only [List.append_assoc];rw [List.getElem?_append_right (by omega),List.getElem?_append_right (by simp),List.length_reverse,show B.length+r.length-B.length-r.length=0 by omega];rfl
       have hb':(O++z)[m1]?= some b:=by
         rw [hO2,hm1,hmm];simp only [List.append_assoc];rw [List.getElem?_append_right (by omega),List.getElem?_append_right (by simp;omega),List.length_reverse,show B.length+r.length+1-B.length-r.length=1 by omega];rfl
       have ca:=KS ha';have cb:=KS hb';obtain ⟨ds,hds⟩:∃ ds,spD (O++z)=ds:=⟨_,rfl⟩
       have hdsl:N*2<=ds.length:=by rw [<-hds,Di,List.length_append,hN];omega
       rw [hds] at ca cb;rw [hO,GP hOne,GQ hOne,hN,show BC (O++z)=ds.map V.d by rw [<-hds]];have w2:IntKind.wrap .i64 ((N:Int)-2)=(m:Int):=by simp at hlen;rw [AD (by omega) (by omega)];omega
       have w3:IntKind.wrap .i64 ((N:Int)-1)=(m1:Int):=by simp at hlen;rw [AD (by omega) (by omega)];omega
       have hlt:(B.length:Int)+1<(N:Int):=by omega
       have l1:m<N:=by omega
       have l2:m1<N:=by omega
       have l3:m*2+2<=ds.length:=by omega
       have l4:m1*2+2<=ds.length:=by omega
       have l5:m1<=N:=by omega
       have e1:=NL (N:=1073741824) ba bb (by omega);have e2:=NL (N:=1073741824) bb hpm (by omega);have big:∀ q,bd 536870912 q->bd 1152921504606846976 q:=fun q h=>by unfold bd at*;omega
       have big2:∀ q,bd 1073741824 q->bd 2000000000 q:=fun q h=>by unfold bd at*;omega
       simp [AXQ,wB,hlt,inC,Nat.testBit,w2,w3,l1,l2,l3,l4,ca,cb];refine CLa (yG a b (big _ ba) (big _ bb)) ?_;simp [inC,Nat.testBit,w3,l2,l4,cb];refine CLa (yG b p (big _ bb) (big _ hpm)) ?_;simp;refine CLa (Ab4 (DU a b) (DU b p) (big2 _ e1) (big2 _ e2)) ?_;rw [QH];by_cases hc:cross a b p<=0
       . simp [hc,w3,l5,AA]
         refine ⟨a::r,⟨by rw [<-hpop,OA,if_pos hc],by simp at hlen ⊢;omega,fun q1 q2 hq=>hm (q1,q2) (List.mem_cons_of_mem _ hq)⟩,by simp,[b]++z,?_⟩;rw [hO3,Rx,CN,show BC (B++r.reverse++[a]++([b]++z))=ds.map V.d by rw [<-hds,hO2];simp];refine AI.mkM hE (lk [(0,0),(1,1),(2,2),(3,3),(4,4)]) _ _ _ ?_ ?_ ?_ ?_ ?_ ?_<;>simp
         omega
       . have hps:Fo st0 p=b::a::r:=by rw [<-hpop,OA,if_neg hc]
         rw [hps,hO,GP hOne,hN];simp [hc];refine ⟨z,?_⟩;rw [GQ hOne,show BC (O++z)=ds.map V.d by rw [<-hds]];exact WKM hE (lk [(0,0),(1,1),(2,2),(3,3),(4,4)])
   . have hpl:=KK p st0
     obtain ⟨O,hO⟩:∃ O,B++(Fo st0 p).reverse=O:=⟨_,rfl⟩
     have hOl:O.length<=200000:=by rw [<-hO];simp;omega
     have hnx:B++(AE (l.take (i+1))).reverse=O++[p]:=by rw [hct,<-hO];simp
     rw [hO];have fin:BC (O++[p])=(spD O).map V.d++[vi p.1,vi p.2]:=Sj p O;obtain rfl | ⟨o,x,rfl⟩:=CO O
     . simp [AM,AA,w1]
       refine ⟨i+1,[],⟨by omega,fun _=>rfl⟩,by omega,?_⟩;rw [hnx,Rx,CN,List.append_nil,fin];exact WKM hE (lk [(0,0),(1,1),(2,2),(3,3145733)])
     . have htk:=KL (o++[x]) zz
       have hdl3:=Di (o++[x]++zz);have hOne:o++[x]≠[]:=by simp
       obtain ⟨N,hN⟩:∃ N,(o++[x]).length=N:=⟨_,rfl⟩
       have hdo:=Di (o++[x]);rw [List.length_append,hN] at hdl3;rw [hN] at htk hOl hdo;rw [GP hOne,GQ hOne,hN];have hcc:BC (o++[x]++zz)=List.map V.d (spD (o++[x]++zz)):=rfl;rw [hcc]
       generalize spD (o++[x]++zz)=ds at htk hdl3 ⊢
       generalize spD (o++[x])=eo at fin htk hdo
       have hfit:N*2<=ds.length/\(N+1)*16<=140737488355328/\N+1<=9223372036854775807:=by omega
       simp [AM,AA,w1,hfit,htk];refine ⟨i+1,[],⟨by omega,fun _=>rfl⟩,by omega,?_⟩;rw [hnx,Rx,CN,List.append_nil,fin,hN];refine AI.mkM hE (lk [(0,0),(1,1),(2,2),(3,3145733)]) _ _ _ ?_ ?_ ?_ ?_ ?_ ?_<;>simp
       rintro c (⟨a,_,rfl⟩ | rfl | rfl)<;>simp
 . simp at h
   have hil:i=l.length:=by omega
   subst hil;rw [hz rfl,List.take_length,hch,List.reverse_cons,<-List.append_assoc,Rx,CN];obtain ⟨O,hO⟩:∃ O,B++rest.reverse=O:=⟨_,rfl⟩
   rw [hO]
   try rw [hO] at hR
   have hOl:O.length<=1000000:=by
     have:=hcl l.length;rw [List.take_length,hch] at this;rw [<-hO];simp at this ⊢;omega
   have w2:IntKind.wrap .i64 (O.length:Int)=(O.length:Int):=AD (by omega) (by omega);have hOr:O.length=B.length+rest.length:=by rw [<-hO];simp
   have hOn:(O.length:Int)<=(O.length:Int)+1:=by omega
   have hOm:O.length<=O.length+1:=by omega
   have hcO:=Sj top O;rw [List.append_nil,show BC (O++[top])=(spD O).map V.d++[vi top.1,vi top.2] from hcO];simp [w2,hOn,AA];refine AB.by (lk [(0,0),(1,1),(2,2),(4,3)]) ?_;simp [results231];exact hOr
open Go.Geo (cross Qs AE Bo)
def DK (l:List (Int × Int)):List (Int × Int):=l.mergeSort fun x y=>!decide (Dw y x<0)
def Fb (l:List (Int × Int)):List (Int × Int):=Bo (ddC (DK l))
theorem El (l:List (Int × Int)):(DK l).length=l.length:=List.length_mergeSort _
theorem Lw (l:List (Int × Int)) (p:Int × Int):p∈DK l↔p∈l:=(List.mergeSort_perm l _).mem_iff
theorem Su {p:Int × Int}:∀ l:List (Int × Int),p∈ddC l↔p∈l:=by
 have key:∀ (l d:List (Int × Int)),p∈l.foldl DQ d↔p∈d\/p∈l:=by
   intro l;induction l with
   | nil=>intro d;simp
   | cons a l ih=>
     intro d;rw [List.foldl_cons,ih];unfold DQ;by_cases h:d.getLast?= some a
     . rw [if_pos h]
       have:=List.mem_of_getLast? h;simp only [List.mem_cons];constructor
       . rintro (h | h);exact Or.inl h;exact Or.inr (Or.inr h)
       . rintro (h | rfl | h);exact Or.inl h;exact Or.inl this;exact Or.inr h
     . rw [if_neg h]
       simp only [List.mem_append,List.mem_cons,List.not_mem_nil,or_false];constructor
       . rintro ((h | h) | h);exact Or.inl h;exact Or.inr (Or.inl h);exact Or.inr (Or.inr h)
       . rintro (h | h | h);exact Or.inl (Or.inl h);exact Or.inl (Or.inr h);exact Or.inr h
 intro l;have:=key l [];simp only [List.not_mem_nil,false_or] at this;exact this
theorem ct (hsort:∀ l:List (Int × Int),0<l.length->l.length<=100000->Cm prog 228 [.ls 0 0 l.length 2, .d (.fn 229 [])] (lk [(0,BC l)]) [0] (.ret (.tup [])) (lk [(0,BC (DK l))]))
   (l:List (Int × Int)) (h1:0<l.length) (hl:l.length<=100000) (hbd:∀ q∈l,bd 536870912 q):∃ z,Ct prog 160 [.d (An l)] (.ls 0 0 (Fb l).length 2) [(0,BC (Fb l++z))]:=by
 have hne:l≠[]:=by intro h;rw [h] at h1;simp at h1
 obtain ⟨L,hL⟩:∃ L,ddC (DK l)=L:=⟨_,rfl⟩
 have hLm:∀ q∈L,bd 536870912 q:=fun q hq=>hbd q (by rw [<-hL,Su,Lw] at hq;exact hq)
 have hLl:L.length<=l.length:=by
   have:=I6 (DK l) l.length;rw [List.take_of_length_le (by rw [El];omega),hL] at this;exact this
 have c1:=yE l (by omega) hne;have c2:=hsort l h1 hl;have c3:=Abn (DK l) (by rw [El];omega);rw [El,hL] at c3;obtain ⟨zl,hzl⟩:∃ zl,List.replicate (l.length-L.length) ((0:Int),(0:Int))=zl:=⟨_,rfl⟩
 rw [hzl] at c3;unfold Fb;rw [hL]
 have hLpos:0<L.length:=by
   obtain ⟨p,hp⟩:=List.exists_mem_of_length_pos h1;have:p∈L:=by rw [<-hL,Su,Lw];exact hp
   exact List.length_pos_of_mem this
 have n1:spD l≠[]:=by intro h;have:=congrArg List.length h;simp at this;omega
 have n2:spD (DK l)≠[]:=by intro h;have:=congrArg List.length h;rw [Di,El] at this;simp at this;omega
 have n3:∀ z,spD (L++z)≠[]:=by intro z h;have:=congrArg List.length h;simp at this;omega
 have d2:=c2.rename (fun _=>2097152) 1 (by omega) (by simp) (by simp) (by simp);have d3:=c3.rename (fun _=>2097152) 1 (by omega) (by simp) (by simp) (by simp);simp [AVZ,HW] at d2 d3;by_cases h3:L.length<3
 . refine ⟨zl,?_⟩
   have e:Bo L=L:=by unfold Bo;rw [if_pos h3]
   have h3':(L.length:Int)<3:=by omega
   rw [e];refine CB func160 AcX fun E hE=>?_
   simp [p160];refine CLa c1 ?_;simp [AA];refine CRs d2 (by simp [n1]) ?_;simp;refine CRs d3 (by simp [n2]) ?_;simp [AA,h3'];refine AB.by (lk [(0,2097152)]) ?_;simp [results160]
 . have h3':¬ (L.length:Int)<3:=by omega
   obtain ⟨z1,c4⟩:=sI [] [] L zl (by simp) (by omega) hLm (by omega);have c5:=Ab3 L zl (by omega);obtain ⟨lo,hlo⟩:∃ lo,(AE L).tail.reverse=lo:=⟨_,rfl⟩
   have hlol:lo.length<=100000:=by
     have:=Ez L;rw [<-hlo];simp;omega
   obtain ⟨z2,c6⟩:=sI lo z1 L.reverse zl (by omega) (by rw [List.length_reverse];omega) (fun q hq=>hLm q (List.mem_reverse.1 hq)) (by rw [List.length_reverse];omega);have e:Bo L=lo++(AE L.reverse).tail.reverse:=by unfold Bo;rw [if_neg h3,hlo]
   rw [<-e] at c6;rw [hlo,List.nil_append] at c4
   have hlone:lo≠[]:=by
     obtain ⟨top,rest,h,hr⟩:=Lv (l:=L) (by omega);rw [<-hlo,h];simpa using hr
   have hRne:Bo L≠[]:=by rw [e];simp [hlone]
   rw [GP hlone,GQ hlone] at c4 c6;rw [GP hRne,GQ hRne,List.length_reverse] at c6;have n4:∀ z,spD (L.reverse++z)≠[]:=by intro z h;have:=congrArg List.length h;simp at this;omega
   have n5:∀ z,spD (lo++z)≠[]:=by intro z h;have:=congrArg List.length h;have h8:=List.length_pos_iff.2 hlone;simp only [Di,List.length_append,List.length_nil] at this;omega
   refine ⟨z2,?_⟩;refine CB func160 AcX fun E hE=>?_
   simp [p160];refine CLa c1 ?_;simp [AA];refine CRs d2 (by simp [n1]) ?_;simp;refine CRs d3 (by simp [n2]) ?_;have d4:=c4.rename (fun i=>if i=0 then 13631488 else if i=1 then 3145728 else if i=2 then 2097152 else i) 5 (by intro i j hi hj h;(repeat' split at h)<;>omega) (by simp) (by simp) (by simp);have d5:=c5.rename (fun _=>2097152) 1 (by omega) (by simp) (by simp) (by simp);have d6:=c6.rename (fun i=>if i=0 then 13631488 else if i=1 then 3145728 else if i=2 then 2097152 else if i=3 then 17825796 else i) 5 (by intro i j hi hj h;(repeat' split at h)<;>omega) (by simp) (by simp) (by simp);simp [AVZ,HW] at d4 d5 d6;simp [AA,h3'];refine CRs d4 (by simp [n3]) ?_;simp;refine CRs d5 (by simp [n3]) ?_;simp;refine CRs d6 (by simp [n4]) ?_;simp;refine AB.by (lk [(0,22020100)]) ?_;simp [results160]
def SortOk:Prop:=∀ l:List (Int × Int),0<l.length->l.length<=100000->Cm prog 228 [.ls 0 0 l.length 2, .d (.fn 229 [])] (lk [(0,BC l)]) [0] (.ret (.tup [])) (lk [(0,BC (DK l))])
def C7 (r:List (Int × Int)):Bool:=decide (1<=r.length)&&decide (r.length<=64)&&EJ r&&decide (Fb r=r)
theorem fC {l:List (Int × Int)} (h:EJ l=true):∀ q∈l,bd 536870912 q:=fun q hq=>by
 have:=NH.1 (List.all_eq_true.1 h q hq);unfold bd at*;omega
theorem VM (l:List (Int × Int)):(Fb l).length<=2*l.length:=by
 have h1:(ddC (DK l)).length<=l.length:=by
   have:=I6 (DK l) l.length;rw [List.take_of_length_le (by rw [El];omega)] at this;exact this
 unfold Fb Bo;split
 . omega
 . have h2:=Ez (ddC (DK l))
   have h3:=Ez (ddC (DK l)).reverse;simp at h3 ⊢;omega
theorem fD {H:Hp} {id:Nat} {l z:List (Int × Int)} (h:H id=some (BC (l++z))):Bor H (.ls id 0 l.length 2) (.d (An l)):=by
 rw [Bk];refine ⟨rfl,by simp,fun e he=>?_,_,h,?_⟩
 . simp only [List.mem_map] at he
   obtain ⟨k,_,rfl⟩:=he;rfl
 . rw [AYj,List.drop_zero,KL]
theorem fn75 (hS:SortOk) (r:List (Int × Int)) (hr:r.length<=1000000000):Ct prog 75 [.d (An r)] (vi (if C7 r then 0 else 14)) []:=by
 refine CB func75 c75 fun E hE=>?_
 by_cases h1:r.length<1
 . have h1':(r.length:Int)<1:=by omega
   have e:C7 r=false:=by unfold C7;rw [decide_eq_false (p:=1<=r.length) (by omega)];simp
   simp [p75,h1'];apply RZ;simp [results75,e]
 have h1':¬ (r.length:Int)<1:=by omega
 by_cases h2:64<r.length
 . have h2':(64:Int)<r.length:=by omega
   have e:C7 r=false:=by unfold C7;rw [decide_eq_false (p:=r.length<=64) (by omega)];simp
   simp [p75,h1',h2'];apply RZ;simp [results75,e]
 have h2':¬ (64:Int)<r.length:=by omega
 simp [p75,h1',h2'];refine CLa (ASo r hr) ?_;by_cases h3:EJ r=true
 . simp [h3]
   obtain ⟨z,c⟩:=ct hS r (by omega) (by omega) (fC h3);refine CLa c ?_;simp;have hpl:=VM r;refine CLb (xA (Fb r) r (by omega) (by omega)) (by simp [fD (z:=z)]) ?_;have e:C7 r=decide (Fb r=r):=by unfold C7;rw [decide_eq_true (p:=1<=r.length) (by omega),decide_eq_true (p:=r.length<=64) (by omega),h3];rfl
   by_cases h4:Fb r=r
   . simp [h4]
     apply RZ;simp [results75,e,h4]
   . simp [h4]
     apply RZ;simp [results75,e,h4]
 . simp [h3]
   have e:C7 r=false:=by unfold C7;simp [h3]
   apply RZ;simp [results75,e]
open Go.Air
structure Rig where
 reg:List (Int × Int)
 gl:Int
 gh:Int
 tank:Int
 rsv:Int
 lo:Int
 hi:Int
abbrev rigL (r:Rig):List D:=[An r.reg,di r.gl,di r.gh,di r.tank,di r.rsv,di r.lo,di r.hi]
abbrev Fj (r:Rig):V:= .agg [.d (An r.reg),vi r.gl,vi r.gh,vi r.tank,vi r.rsv,vi r.lo,vi r.hi]
def CF (r:Rig):Bool:=spB 0 120 r.gl r.gh&&rgB 0 1000000000 [r.tank,r.rsv]&&spB (-500) 9000 r.lo r.hi&&C7 r.reg
theorem fn38 (hS:SortOk) (r:Rig) (hr:r.reg.length<=1000000000):Ct prog 38 [Fj r] (vi (if CF r then 0 else 51)) []:=by
 have c1:=pA 0 120 [(r.gl,r.gh)] (by simp);have c2:=AaH 0 1000000000 [r.tank,r.rsv] (by simp);have c3:=pA (-500) 9000 [(r.lo,r.hi)] (by simp);have c4:=fn75 hS r.reg hr;simp only [List.all_cons,List.all_nil,Bool.and_true] at c1 c2 c3;have e:CF r=(spB 0 120 r.gl r.gh&&rgB 0 1000000000 [r.tank,r.rsv]&&spB (-500) 9000 r.lo r.hi&&C7 r.reg):=rfl
 generalize spB 0 120 r.gl r.gh=b1 at*
 generalize rgB 0 1000000000 [r.tank,r.rsv]=b2 at*
 generalize spB (-500) 9000 r.lo r.hi=b3 at*
 generalize C7 r.reg=b4 at*
 rw [e];cases b1
 . refine CB func38 c38 fun E hE=>?_
   simp [p38,AA,AM]
   repeat ((first | (refine CLt c1 ?_ ?_;focus (simp [AN];done)) | (refine CLt c2 ?_ ?_;focus (simp [Ap,AN];done)) | (refine CLt c3 ?_ ?_;focus (simp [Ap,AN];done)) | (refine CLt c4 ?_ ?_;focus (simp [Ap,AN];done)));simp)
   apply RZ;simp [results38]
 cases b2
 . refine CB func38 c38 fun E hE=>?_
   simp [p38,AA,AM]
   repeat ((first | (refine CLt c1 ?_ ?_;focus (simp [AN];done)) | (refine CLt c2 ?_ ?_;focus (simp [Ap];done)) | (refine CLt c3 ?_ ?_;focus (simp [Ap,AN];done)) | (refine CLt c4 ?_ ?_;focus (simp [Ap,AN];done)));simp [AA,AM])
   apply RZ;simp [results38]
 cases b3
 . refine CB func38 c38 fun E hE=>?_
   simp [p38,AA,AM]
   repeat ((first | (refine CLt c1 ?_ ?_;focus (simp [AN];done)) | (refine CLt c2 ?_ ?_;focus (simp [Ap];done)) | (refine CLt c3 ?_ ?_;focus (simp [AN];done)) | (refine CLt c4 ?_ ?_;focus (simp [Ap,AN];done)));simp [AA,AM])
   apply RZ;simp [results38]
 cases b4
 . refine CB func38 c38 fun E hE=>?_
   simp [p38,AA,AM]
   repeat ((first | (refine CLt c1 ?_ ?_;focus (simp [AN];done)) | (refine CLt c2 ?_ ?_;focus (simp [Ap];done)) | (refine CLt c3 ?_ ?_;focus (simp [AN];done)) | (refine CLt c4 ?_ ?_;focus (simp;done)));simp [AA,AM])
   apply RZ;simp [results38]
 . refine CB func38 c38 fun E hE=>?_
   simp [p38,AA,AM]
   repeat ((first | (refine CLt c1 ?_ ?_;focus (simp [AN];done)) | (refine CLt c2 ?_ ?_;focus (simp [Ap];done)) | (refine CLt c3 ?_ ?_;focus (simp [AN];done)) | (refine CLt c4 ?_ ?_;focus (simp;done)));simp [AA,AM])
   apply RZ;simp [results38]
end Go.Proofs.Tryz
namespace Go.Proofs.YtmaoncnifomnkaaGreatDoor
open Go.Joins Go.ChangeShapes Go.WideShapes Go.ChangeAt Go.RowKit Go.Psl
section
variable {H:Type} {enc:TypeId × Value->H} {P:Program} {w:World} {base:Nat} {spare:Nat->Bool} {held:Bool}
end
theorem Vk {n:Nat} {ds:List D} (h:Sh' Tryz.prog (n+2) 94 ds):∃ k:Int × Int,ds=[Tryz.di k.1,Tryz.di k.2]:=by
 rw [Sh',Tryz.underlying94] at h;obtain ⟨a,r,rfl,h1,b,r2,rfl,h2,rfl⟩:=h;obtain ⟨i,rfl⟩:=BM h1;obtain ⟨j,rfl⟩:=BM h2;exact ⟨(i,j),rfl⟩
theorem AZ5:Tryz.prog.cellsOf 94=2:=by kernel_rfl
theorem RC {n:Nat} {ds:List D} (h:Sh' Tryz.prog (n+3) 35 ds):∃ t:List (Int × Int),ds=[.sl 2 (t.map (fun k:Int × Int=>[Tryz.di k.1,Tryz.di k.2]))]:=by
 rw [Sh',Tryz.underlying35] at h;obtain ⟨es,rfl,_,h⟩:=h;obtain ⟨t,rfl⟩:=all_map (f:=(fun k:Int × Int=>[Tryz.di k.1,Tryz.di k.2])) fun x hx=>Vk (h x hx)
 exact ⟨t,by rw [AZ5]⟩
theorem kr {n:Nat} {ds:List D} (h:Sh' Tryz.prog (n+4) 37 ds):∃ k:Tryz.Rig,ds=Tryz.rigL k:=by
 rw [Sh',Tryz.underlying37] at h;obtain ⟨a,r,rfl,h1,b,r2,rfl,h2,c,r3,rfl,h3,d,r4,rfl,h4,e,r5,rfl,h5,f,r6,rfl,h6,rfl⟩:=h;obtain ⟨i1,rfl⟩:=RC h1;obtain ⟨i2,rfl⟩:=CD h2;obtain ⟨i3,rfl⟩:=BM h3;obtain ⟨i4,rfl⟩:=BM h4;obtain ⟨i5,rfl⟩:=BM h5;obtain ⟨i6,rfl⟩:=BM h6;exact ⟨⟨i1,i2.1,i2.2,i3,i4,i5,i6⟩,rfl⟩
end Go.Proofs.YtmaoncnifomnkaaGreatDoor
namespace Go.Proofs.Tryz
open Go.Psl
open Go.Air
structure Prt where
 ax:List (Int × Int)
 pe:Int
 mo:Int
 pu:List (Int × Int)
 cr:Int
structure Bth where
 sh:Int
 ax:Int
 he:Int
 wi:Bool
 op:Bool
abbrev dub (n:Int):D:= .lit (.int .u8 n)
abbrev dbl (b:Bool):D:= .lit (.bool b)
abbrev AW1 (p:Prt):V:= .agg [.d (An p.ax),vi p.pe,vi p.mo, .d (An p.pu),vi p.cr]
abbrev Aay (b:Bth):V:= .agg [.d (dub b.sh),vi b.ax,vi b.he,vb b.wi,vb b.op]
def tq7 (a:Int × Int):Bool:=rgB (-1000) 1000 [a.1,a.2]&&!decide (a.1=0/\a.2=0)
def x9 (l:List (Int × Int)):Bool:=rgB 1 32 [(l.length:Int)]&&l.all tq7
def y0 (l:List (Int × Int)):Bool:=decide ((l.length:Int)<=8)&&l.all fun s=>spB 0 1000000 s.1 s.2
def Yc (p:Prt):Bool:=x9 p.ax&&y0 p.pu&&rgB 0 200 [p.pe]&&rgB 1 1000000 [p.mo]&&rgB 0 2000 [p.cr]
def na (a b c d:Int):Bool:=spB (-2000) 2000 a b&&spB (-2000) 2000 c d
theorem qn (lo hi n:Int):Ct prog 164 [vi n, .d (.ref [di lo]), .d (.ref [di hi])] (vb (decide (n<lo)||decide (hi<n))) []:=by
 by_cases h1:n<lo
 . refine CB func164 qW fun E hE=>?_
   simp [p164,h1];apply RZ;simp [results164]
 . refine CB func164 qW fun E hE=>?_
   simp [p164,h1];apply RZ;simp [results164]
theorem AW2 (lo hi:Int) (l:List Int) (hl:l.length<=1000000):Ct prog 78 [vi lo,vi hi, .d (Qw l)] (vb (rgB lo hi l)) []:=by
 have c:=ABQ l 164 [.ref [di lo], .ref [di hi]] (fun n=>decide (n<lo)||decide (hi<n)) (by omega) fun n _=>qn lo hi n
 rw [ATH] at c;refine CB func78 c78 fun E hE=>?_
 simp [p78];refine CLa c ?_;simp;apply RZ;simp [results78]
theorem AD9 (a b lo hi:Int):Ct prog 86 [vsp a b,vi lo,vi hi] (vb (spB lo hi a b)) []:=by
 have c:=AW2 lo hi [a,b] (by simp);by_cases h:a<=b
 . have e:spB lo hi a b=rgB lo hi [a,b]:=by unfold spB;simp [h]
   refine CB func86 c86 fun E hE=>?_
   simp [p86,AA,AM,h];refine CLb (c) (by simp [Ap]) ?_;simp;apply RZ;simp [results86,e]
 . have e:spB lo hi a b=false:=by unfold spB;simp [h]
   refine CB func86 c86 fun E hE=>?_
   simp [p86,h];apply RZ;simp [results86,e]
theorem jM (a:Int × Int):Ct prog 237 [vsp a.1 a.2] (vi (if tq7 a then 0 else 70)) []:=by
 have c:=AW2 (-1000) 1000 [a.1,a.2] (by simp);unfold tq7
 generalize rgB (-1000) 1000 [a.1,a.2]=r at*
 by_cases h1:a.1=0<;>by_cases h2:a.2=0<;>cases r
 . refine CB func237 AW8 fun E hE=>?_
   simp [p237,AA,AM,h1,h2];refine CLb (c) (by simp [Ap,h1,h2]) ?_;simp;apply RZ;simp [results237]
 . refine CB func237 AW8 fun E hE=>?_
   simp [p237,AA,AM,h1,h2];refine CLb (c) (by simp [Ap,h1,h2]) ?_;simp;apply RZ;simp [results237]
 . refine CB func237 AW8 fun E hE=>?_
   simp [p237,AA,AM,h1,h2];refine CLb (c) (by simp [Ap,h1]) ?_;simp;apply RZ;simp [results237]
 . refine CB func237 AW8 fun E hE=>?_
   simp [p237,AA,AM,h1,h2];refine CLb (c) (by simp [Ap,h1]) ?_;simp [h2];apply RZ;simp [results237]
 . refine CB func237 AW8 fun E hE=>?_
   simp [p237,AA,AM,h1,h2];refine CLb (c) (by simp [Ap,h2]) ?_;simp;apply RZ;simp [results237]
 . refine CB func237 AW8 fun E hE=>?_
   simp [p237,AA,AM,h1,h2];refine CLb (c) (by simp [Ap,h2]) ?_;simp [h1];apply RZ;simp [results237]
 . refine CB func237 AW8 fun E hE=>?_
   simp [p237,AA,AM,h1,h2];refine CLb (c) (by simp [Ap]) ?_;simp;apply RZ;simp [results237]
 . refine CB func237 AW8 fun E hE=>?_
   simp [p237,AA,AM,h1,h2];refine CLb (c) (by simp [Ap]) ?_;simp [h1,h2];apply RZ;simp [results237]
theorem fn40 (a b c d:Int):Ct prog 40 [.agg [vi a,vi b,vi c,vi d]] (vi (if na a b c d then 0 else 71)) []:=by
 have c1:=AD9 a b (-2000) 2000;have c2:=AD9 c d (-2000) 2000;unfold na
 generalize spB (-2000) 2000 a b=r1 at*
 generalize spB (-2000) 2000 c d=r2 at*
 cases r1
 . refine CB func40 c40 fun E hE=>?_
   simp [p40];refine CLa c1 ?_;simp;apply RZ;simp [results40]
 . cases r2
   . refine CB func40 c40 fun E hE=>?_
     simp [p40];refine CLa c1 ?_;simp;refine CLa c2 ?_;simp;apply RZ;simp [results40]
   . refine CB func40 c40 fun E hE=>?_
     simp [p40];refine CLa c1 ?_;simp;refine CLa c2 ?_;simp;apply RZ;simp [results40]
theorem AAM (l:List (Int × Int)) (g:FuncId) (ds:List D) (q:(Int × Int)->Bool) (hl:l.length<=1000000000) (hg:∀ p∈l,Ct prog g (sy p::ds.map .d) (vb (q p)) []):Ct prog 284 [.d (An l), .d (.fn g ds)] (vi (ixF q l)) []:=by
 refine CB func284 c284 fun E hE=>?_
 simp [p284];refine Al (α:=Nat) (fun i=>⟨AO [(0, .d (An l)),(1, .d (.fn g ds)),(7,vi l.length),(8,vi i)],lk [],0⟩) (fun i=>i<=l.length/\∀ j,j<i->(l[j]?).all (fun p=>!q p)=true) (fun i=>l.length-i) 0 ?_ ?_ ?_
 . exact ⟨by omega,fun j hj=>by omega⟩
 . exact WK hE (lk [])
 . rintro i ⟨hi,hg3⟩
   have hg2:∀ (j:Nat) (p:(Int × Int)),j<i->l[j]?= some p->q p=false:=fun j p hj hp=>by
     have:=hg3 j hj;rw [hp] at this;simpa using this
   have hz:=@wz i (by omega);simp [Xg];refine DW (fun h=>?_) (fun h=>?_)
   . simp at h
     obtain ⟨p,hp⟩:=gE h;simp [hp];refine CLa (hg p (List.mem_of_getElem? hp)) ?_;cases hq:q p
     . simp [hz]
       refine ⟨i+1,⟨by omega,fun j hj=>?_⟩,by omega,?_⟩
       . by_cases e:j=i
         . subst e;rw [hp];simp [hq]
         . exact hg3 j (by omega)
       . exact WK hE (lk [])
     . have e:ixF q l=i:=IY hp hq fun j y hj hy=>hg2 j y hj hy
       simp;apply RZ;simp [results284,e]
   . simp at h
     have e:ixF q l= -1:=IX fun j x hx=>hg2 j x (by have:=(List.getElem?_eq_some_iff.1 hx).1;omega) hx
     simp;apply RZ;simp [results284,e]
theorem LH (l:List (Int × Int)) (g:FuncId) (ds:List D) (q:(Int × Int)->Bool) (hl:l.length<=1000000000) (hg:∀ p∈l,Ct prog g (sy p::ds.map .d) (vb (q p)) []):Ct prog 235 [.d (An l), .d (.fn g ds)] (vb (l.any q)) []:=by
 refine CB func235 c235 fun E hE=>?_
 simp [p235];refine CLa (AAM l g ds q hl hg) ?_;simp;apply RZ;simp [results235,<-IZ]
theorem Ac3 (l:List (Int × Int)) (g:FuncId) (ds:List D) (q:(Int × Int)->Bool) (hl:l.length<=1000000000) (hg:∀ p∈l,Ct prog g (sy p::ds.map .d) (vb (q p)) []):Ct prog 285 [.d (An l), .d (.fn g ds)] (vi (ixF q l)) []:=by
 refine CB func285 c285 fun E hE=>?_
 simp [p285];refine Al (α:=Nat) (fun i=>⟨AO [(0, .d (An l)),(1, .d (.fn g ds)),(7,vi l.length),(8,vi i)],lk [],0⟩) (fun i=>i<=l.length/\∀ j,j<i->(l[j]?).all (fun p=>!q p)=true) (fun i=>l.length-i) 0 ?_ ?_ ?_
 . exact ⟨by omega,fun j hj=>by omega⟩
 . exact WK hE (lk [])
 . rintro i ⟨hi,hg3⟩
   have hg2:∀ (j:Nat) (p:(Int × Int)),j<i->l[j]?= some p->q p=false:=fun j p hj hp=>by
     have:=hg3 j hj;rw [hp] at this;simpa using this
   have hz:=@wz i (by omega);simp [Xe];refine DW (fun h=>?_) (fun h=>?_)
   . simp at h
     obtain ⟨p,hp⟩:=gE h;simp [hp];refine CLa (hg p (List.mem_of_getElem? hp)) ?_;cases hq:q p
     . simp [hz]
       refine ⟨i+1,⟨by omega,fun j hj=>?_⟩,by omega,?_⟩
       . by_cases e:j=i
         . subst e;rw [hp];simp [hq]
         . exact hg3 j (by omega)
       . exact WK hE (lk [])
     . have e:ixF q l=i:=IY hp hq fun j y hj hy=>hg2 j y hj hy
       simp;apply RZ;simp [results285,e]
   . simp at h
     have e:ixF q l= -1:=IX fun j x hx=>hg2 j x (by have:=(List.getElem?_eq_some_iff.1 hx).1;omega) hx
     simp;apply RZ;simp [results285,e]
theorem qy (l:List (Int × Int)) (g:FuncId) (ds:List D) (q:(Int × Int)->Bool) (hl:l.length<=1000000000) (hg:∀ p∈l,Ct prog g (sy p::ds.map .d) (vb (q p)) []):Ct prog 238 [.d (An l), .d (.fn g ds)] (vb (l.any q)) []:=by
 refine CB func238 c238 fun E hE=>?_
 simp [p238];refine CLa (Ac3 l g ds q hl hg) ?_;simp;apply RZ;simp [results238,<-IZ]
theorem nv (a:Int × Int):Ct prog 236 [sy a] (vb (!tq7 a)) []:=by
 have c:=jM a;cases h:tq7 a<;>rw [h] at c
 . refine CB func236 Aci fun E hE=>?_
   simp [p236];refine CLa c ?_;simp;apply RZ;simp [results236]
 . refine CB func236 Aci fun E hE=>?_
   simp [p236];refine CLa c ?_;simp;apply RZ;simp [results236]
theorem jN (l:List (Int × Int)) (hl:l.length<=1000000):Ct prog 161 [.d (An l)] (vb (x9 l)) []:=by
 have c1:=AW2 1 32 [(l.length:Int)] (by simp);have c2:=LH l 236 [] (fun a=>!tq7 a) (by omega) fun a _=>nv a
 rw [Sa] at c2;unfold x9
 generalize rgB 1 32 [(l.length:Int)]=r at*
 cases r
 . refine CB func161 AcY fun E hE=>?_
   simp [p161,AA,AM];refine CLb (c1) (by simp [AG]) ?_;simp;apply RZ;simp [results161]
 . refine CB func161 AcY fun E hE=>?_
   simp [p161,AA,AM];refine CLb (c1) (by simp [AG]) ?_;simp;refine CLa c2 ?_;simp;apply RZ;simp [results161]
theorem qz (a:Int × Int):Ct prog 239 [sy a] (vb (!spB 0 1000000 a.1 a.2)) []:=by
 have c:=AD9 a.1 a.2 0 1000000;refine CB func239 c239 fun E hE=>?_
 simp [p239];refine CLa c ?_;simp;apply RZ;simp [results239]
theorem T6 (l:List (Int × Int)) (hl:l.length<=1000000):Ct prog 162 [.d (An l)] (vb (y0 l)) []:=by
 have c2:=qy l 239 [] (fun a=>!spB 0 1000000 a.1 a.2) (by omega) fun a _=>qz a
 rw [Sa] at c2;unfold y0;by_cases h:(l.length:Int)<=8
 . refine CB func162 qV fun E hE=>?_
   simp [p162,h];refine CLa c2 ?_;simp;apply RZ;simp [results162]
 . refine CB func162 qV fun E hE=>?_
   simp [p162,h];apply RZ;simp [results162]
abbrev inL (n:Int):List D:=[di n]
theorem AYs:∀ x:Int,(inL x).length=1:=fun _=>rfl
def ndN (mo:Int) (s:Int × Int):Int:=(s.2+mo-1).tdiv mo
def ndL (mo:Int) (l:List (Int × Int)):List Int:=l.map (ndN mo)
def ndT (p:Prt):Int:=max (ndL p.mo p.pu).sum 1
theorem AYt {mo:Int} {s:Int × Int} (hm:1<=mo/\mo<=1000000) (hs:spB 0 1000000 s.1 s.2=true):(0<=s.2/\s.2<=1000000)/\0<=ndN mo s/\ndN mo s<=2000000:=by
 rw [CC] at hs;unfold ndN;rw [Int.tdiv_eq_ediv_of_nonneg (by omega)];have h1:0<=(s.2+mo-1)/mo:=Int.ediv_nonneg (by omega) (by omega);have h2:(s.2+mo-1)/mo<=s.2+mo-1:=Int.ediv_le_self _ (by omega);omega
theorem AVn {mo:Int} {l:List (Int × Int)} {i:Nat} {x:Int × Int} (h:l[i]?= some x):ndL mo (l.take (i+1))=ndL mo (l.take i)++[ndN mo x]:=by
 simp [ndL,List.take_add_one,h]
theorem AXl {mo:Int} {l:List (Int × Int)} {i:Nat} (h:i<=l.length):(ndL mo (l.take i)).length=i:=by simp [ndL];omega
theorem AWP {mo:Int} {l:List (Int × Int)} (hm:1<=mo/\mo<=1000000) (hs:∀ s∈l,spB 0 1000000 s.1 s.2=true):∀ i,i<=l.length->0<=(ndL mo (l.take i)).sum/\(ndL mo (l.take i)).sum<=i*2000000
 | 0,_=>by simp [ndL]
 | i+1,hi=>by
   obtain ⟨x,hx⟩:∃ x,l[i]?= some x:=⟨_,List.getElem?_eq_getElem (by omega)⟩
   have ih:=AWP hm hs i (by omega);have:=AYt hm (hs x (List.mem_of_getElem? hx));rw [AVn hx,List.sum_append];simp;omega
theorem qm (l:List (Int × Int)) (mo:Int) (hm:1<=mo/\mo<=1000000) (hl:l.length<=8) (hs:∀ s∈l,spB 0 1000000 s.1 s.2=true):Ct prog 163 [.d (An l),vi mo] (.tup [hdF 1 (ndL mo l) 0,vi (ndL mo l).sum]) (ouF inL (ndL mo l) 0):=by
 have hri:LD (.tup [hdF 1 (ndL mo l) 0,vi (ndL mo l).sum]) (ouF inL (ndL mo l) 0):=by
   cases h:ndL mo l with
   | nil=>simp [LD,Aq,Au]
   | cons a r=>rw [Ak (by simp),AZ (by simp)];simp [LD]
 refine Ct.by gok eok mixed func163 c163 rfl (by simp [ntmps163]) (by simp) hri fun E hE=>?_
 simp [p163];refine Al (α:=Nat) (fun i=>⟨AO [(1,vi mo),(6,hdF 1 (ndL mo (l.take i)) 0),(7,vi (ndL mo (l.take i)).sum),(11, .d (An l)),(12,vi l.length),(13,vi i)],lk (ouF inL (ndL mo (l.take i)) 0),1⟩) (fun i=>i<=l.length) (fun i=>l.length-i) 0 ?_ ?_ ?_
 . omega
 . simp only [List.take_zero,show ndL mo []=[] from rfl,Aq,Au]
   exact WK hE (lk [])
 . intro i hi
   by_cases h:i<l.length
   . obtain ⟨x,hx⟩:=gE h
     have hI:(i:Int)<l.length:=by omega
     have hw:=@wz i (by omega);have hb:=AYt hm (hs x (List.mem_of_getElem? hx));have hS:=AWP hm hs i hi;have hn:=AVn (mo:=mo) hx;have hlen:=AXl (mo:=mo) hi;have hmo:mo≠0:=by omega
     have w1:IntKind.wrap .i64 (x.2+mo)=x.2+mo:=AD (by omega) (by omega);have w2:IntKind.wrap .i64 (x.2+mo-1)=x.2+mo-1:=AD (by omega) (by omega);have w3:IntKind.wrap .i64 ((x.2+mo-1).tdiv mo)=ndN mo x:=AD (by show _<=ndN mo x;omega) (by show ndN mo x<=_;omega);have w5:IntKind.wrap .i64 (ndN mo x)=ndN mo x:=AD (by omega) (by omega);have w4:IntKind.wrap .i64 ((ndL mo (l.take i)).sum+ndN mo x)=(ndL mo (l.take (i+1))).sum:=by rw [AD (by omega) (by omega),hn,List.sum_append];simp
     have hs2:(ndL mo (l.take (i+1))).sum=(ndL mo (l.take i)).sum+ndN mo x:=by rw [hn,List.sum_append];simp
     by_cases h0:i=0
     . have g1:ndL mo (l.take i)=[]:=by rw [h0];rfl
       rw [g1] at hn w4 hlen;rw [g1,Aq,Au];simp [SE,hI,hx,AA,AM,w1,w2,w3,hw,hmo];refine ⟨i+1,by omega,by omega,?_⟩;rw [hn,Ak (by simp),AZ (by simp)];refine AI.mk hE (lk [(0,16777217)]) _ _ _ ?_ ?_ ?_ ?_ ?_<;>simp [AH,w5]
     . have n1:ndL mo (l.take i)≠[]:=fun e=>by rw [e] at hlen;simp at hlen;omega
       rw [hn] at w4 hs2;rw [Ak n1,AZ n1]
       generalize ndL mo (l.take i)=L at*
       have s1:=Aw AYs L;have s2:=E9 AYs L;have s3:List.take L.length (AH inL L)=AH inL L:=by simpa using s2
       have m1:(L.length+1)*8<=140737488355328:=by omega
       have m2:L.length+1<=9223372036854775807:=by omega
       simp [SE,hI,hx,AA,AM,w1,w2,w3,w4,hw,hmo,s1,m1,m2];refine ⟨i+1,by omega,by omega,?_⟩;rw [hn,Ak (by simp),AZ (by simp),IV];refine AI.mk hE (lk [(0,16777217)]) _ _ _ ?_ ?_ ?_ ?_ ?_<;>simp [s3]
   . have e:i=l.length:=by omega
     subst e;rw [List.take_length];cases h:ndL mo l with
     | nil=>
       rw [Aq,Au];simp [SE];apply RZ;simp [results163]
     | cons a r=>
       rw [Ak (by simp),AZ (by simp)];simp [SE];refine AB.by (lk [(0,0)]) ?_;simp [results163]
theorem ki {p:Prt} (h:Yc p=true):(1<=p.ax.length/\p.ax.length<=32)/\p.pu.length<=8/\(∀ s∈p.pu,spB 0 1000000 s.1 s.2=true)/\(0<=p.pe/\p.pe<=200)/\(1<=p.mo/\p.mo<=1000000)/\0<=p.cr/\p.cr<=2000:=by
 unfold Yc x9 y0 at h;simp only [Bool.and_eq_true,List.all_eq_true,decide_eq_true_eq] at h;obtain ⟨⟨⟨⟨⟨h1,_⟩,h2,h3⟩,h4⟩,h5⟩,h6⟩:=h;simp [rgB] at h1 h4 h5 h6;exact ⟨by omega,by omega,h3,by omega,by omega,by omega⟩
theorem Aa2 {p:Prt} (h:Yc p=true):1<=ndT p/\ndT p<=16000000:=by
 obtain ⟨_,h2,h3,_,h5,_⟩:=ki h;have:=AWP (l:=p.pu) h5 h3 p.pu.length (Nat.le_refl _);rw [List.take_length] at this;unfold ndT;omega
theorem fn77 (p:Prt) (h:Yc p=true):Ct prog 77 [AW1 p] (vi (ndT p)) []:=by
 obtain ⟨_,h2,h3,_,h5,_⟩:=ki h;have c:=qm p.pu p.mo h5 h2 h3;unfold ndT
 generalize ndL p.mo p.pu=L at*
 cases L with
 | nil=>
   rw [Aq,Au] at c;refine CB func77 c77 fun E hE=>?_
   simp [p77];refine CLa c ?_;simp;apply RZ;simp [results77]
 | cons a r=>
   rw [Ak (by simp),AZ (by simp)] at c;refine CB func77 c77 fun E hE=>?_
   simp [p77];refine CLa c ?_;simp;apply RZ;simp [results77]
theorem fn76 (p:Prt) (h1:p.ax.length<=1000000) (h2:p.pu.length<=1000000):Ct prog 76 [AW1 p] (vi (if Yc p then 0 else 72)) []:=by
 have c1:=jN p.ax h1;have c2:=T6 p.pu h2;have c3:=AW2 0 200 [p.pe] (by simp);have c4:=AW2 1 1000000 [p.mo] (by simp);have c5:=AW2 0 2000 [p.cr] (by simp);unfold Yc
 generalize x9 p.ax=r1 at*
 generalize y0 p.pu=r2 at*
 generalize rgB 0 200 [p.pe]=r3 at*
 generalize rgB 1 1000000 [p.mo]=r4 at*
 generalize rgB 0 2000 [p.cr]=r5 at*
 cases r1
 . refine CB func76 c76 fun E hE=>?_
   simp [p76]
   repeat ((first | (refine CLt c1 ?_ ?_;focus (simp;done)) | (refine CLt c2 ?_ ?_;focus (simp [AG];done)) | (refine CLt c3 ?_ ?_;focus (simp [AG];done)) | (refine CLt c4 ?_ ?_;focus (simp [AG];done)) | (refine CLt c5 ?_ ?_;focus (simp [AG];done)));simp)
   apply RZ;simp [results76]
 . cases r2
   . refine CB func76 c76 fun E hE=>?_
     simp [p76]
     repeat ((first | (refine CLt c1 ?_ ?_;focus (simp;done)) | (refine CLt c2 ?_ ?_;focus (simp;done)) | (refine CLt c3 ?_ ?_;focus (simp [AG];done)) | (refine CLt c4 ?_ ?_;focus (simp [AG];done)) | (refine CLt c5 ?_ ?_;focus (simp [AG];done)));simp)
     apply RZ;simp [results76]
   . cases r3
     . refine CB func76 c76 fun E hE=>?_
       simp [p76]
       repeat ((first | (refine CLt c1 ?_ ?_;focus (simp;done)) | (refine CLt c2 ?_ ?_;focus (simp;done)) | (refine CLt c3 ?_ ?_;focus (simp [AG];done)) | (refine CLt c4 ?_ ?_;focus (simp [AG];done)) | (refine CLt c5 ?_ ?_;focus (simp [AG];done)));simp [AA,AM])
       apply RZ;simp [results76]
     . cases r4
       . refine CB func76 c76 fun E hE=>?_
         simp [p76]
         repeat ((first | (refine CLt c1 ?_ ?_;focus (simp;done)) | (refine CLt c2 ?_ ?_;focus (simp;done)) | (refine CLt c3 ?_ ?_;focus (simp [AG];done)) | (refine CLt c4 ?_ ?_;focus (simp [AG];done)) | (refine CLt c5 ?_ ?_;focus (simp [AG];done)));simp [AA,AM])
         apply RZ;simp [results76]
       . cases r5
         . refine CB func76 c76 fun E hE=>?_
           simp [p76]
           repeat ((first | (refine CLt c1 ?_ ?_;focus (simp;done)) | (refine CLt c2 ?_ ?_;focus (simp;done)) | (refine CLt c3 ?_ ?_;focus (simp [AG];done)) | (refine CLt c4 ?_ ?_;focus (simp [AG];done)) | (refine CLt c5 ?_ ?_;focus (simp [AG];done)));simp [AA,AM])
           apply RZ;simp [results76]
         . refine CB func76 c76 fun E hE=>?_
           simp [p76]
           repeat ((first | (refine CLt c1 ?_ ?_;focus (simp;done)) | (refine CLt c2 ?_ ?_;focus (simp;done)) | (refine CLt c3 ?_ ?_;focus (simp [AG];done)) | (refine CLt c4 ?_ ?_;focus (simp [AG];done)) | (refine CLt c5 ?_ ?_;focus (simp [AG];done)));simp [AA,AM])
           apply RZ;simp [results76]
abbrev dkD (b:Bth) (p:Prt) (n:Int):List D:=[dub b.sh,di b.ax,di b.he,dbl b.wi,dbl b.op,An p.ax,di p.pe,di p.mo,An p.pu,di p.cr,di n,di 0,di 0,di 0,di 0,di 0]
theorem fn79 (b:Bth) (p:Prt) (n:Int):Ct prog 79 [.d (.ref (dkD b p n))] (vb (decide (b.he=0))) []:=by
 refine CB func79 c79 fun E hE=>?_
 simp [p79];apply RZ;simp [results79]
theorem fn80 (b:Bth) (p:Prt) (n:Int):Ct prog 80 [.d (.ref (dkD b p n))] (vb (b.wi)) []:=by
 refine CB func80 c80 fun E hE=>?_
 simp [p80];apply RZ;simp [results80]
theorem AcA (b:Bth) (p:Prt) (n:Int):Ct prog 81 [.d (.ref (dkD b p n))] (vb (decide (b.sh=2))) []:=by
 refine CB func81 c81 fun E hE=>?_
 simp [p81];apply RZ;simp [results81]
theorem ASq (b:Bth) (p:Prt) (n:Int):Ct prog 82 [.d (.ref (dkD b p n))] (vb (decide (b.sh=4))) []:=by
 refine CB func82 c82 fun E hE=>?_
 simp [p82];apply RZ;simp [results82]
theorem rA (b:Bth) (p:Prt) (n:Int):Ct prog 240 [.d (.ref (dkD b p n))] (vb (decide (b.sh=3))) []:=by
 refine CB func240 c240 fun E hE=>?_
 simp [p240];apply RZ;simp [results240]
theorem qg (b:Bth) (p:Prt) (n:Int):Ct prog 241 [.d (.ref (dkD b p n))] (vb (decide (b.sh=5))) []:=by
 refine CB func241 c241 fun E hE=>?_
 simp [p241];apply RZ;simp [results241]
theorem fn83 (b:Bth) (p:Prt) (n:Int):Ct prog 83 [.d (.ref (dkD b p n))] (vb (!b.op)) []:=by
 refine CB func83 c83 fun E hE=>?_
 simp [p83];apply RZ;simp [results83]
theorem fn85 (b:Bth) (p:Prt) (n:Int):Ct prog 85 [.d (.ref (dkD b p n))] (vb (!decide (b.sh=4))) []:=by
 have c:=ASq b p n;refine CB func85 c85 fun E hE=>?_
 simp [p85];refine CLa c ?_;simp;apply RZ;simp [results85]
theorem jX (b:Bth) (p:Prt) (n:Int):Ct prog 165 [.d (.ref (dkD b p n))] (vb (decide (b.sh=3)||decide (b.sh=5))) []:=by
 have c1:=rA b p n;have c2:=qg b p n
 generalize decide (b.sh=3)=r at*
 cases r
 . refine CB func165 AcZ fun E hE=>?_
   simp [p165];refine CLa c1 ?_;simp;refine CLa c2 ?_;simp;apply RZ;simp [results165]
 . refine CB func165 AcZ fun E hE=>?_
   simp [p165];refine CLa c1 ?_;simp;apply RZ;simp [results165]
theorem fn84 (b:Bth) (p:Prt) (n:Int):Ct prog 84 [.d (.ref (dkD b p n))] (vb (decide (b.sh=2)||(decide (b.sh=3)||decide (b.sh=5)))) []:=by
 have c1:=AcA b p n;have c2:=jX b p n
 generalize decide (b.sh=2)=r at*
 cases r
 . refine CB func84 c84 fun E hE=>?_
   simp [p84];refine CLa c1 ?_;simp;refine CLa c2 ?_;simp;apply RZ;simp [results84]
 . refine CB func84 c84 fun E hE=>?_
   simp [p84];refine CLa c1 ?_;simp;apply RZ;simp [results84]
def AWB (p:Prt) (b:Bth):Bool:=
 (decide (b.sh<=5)&&rgB 0 ((p.ax.length:Int)-1) [b.ax]&&(decide (b.he=0)||rgB (ndT p) p.pe [b.he]))&&
 !(b.wi&&!decide (b.sh=2))&&!(decide (b.sh=2)&&decide (b.he=0))&&!(decide (b.sh=4)&&(decide (b.he=0)||!b.op))&&
 !(!(decide (b.sh=2)||(decide (b.sh=3)||decide (b.sh=5)))&&!decide (b.sh=4)&&!decide (b.he=0))
def dv (p:Prt) (b:Bth):Int:=if Yc p then (if AWB p b then 0 else 73) else 72
theorem fn39 (p:Prt) (b:Bth) (h1:p.ax.length<=1000000) (h2:p.pu.length<=1000000) (hb:0<=b.sh/\b.sh<256):Ct prog 39 [AW1 p,Aay b] (vi (dv p b)) []:=by
 have c1:=fn76 p h1 h2;unfold dv;cases hp:Yc p
 . rw [hp] at c1
   refine CB func39 c39 fun E hE=>?_
   simp [p39];refine CLa c1 ?_;simp;apply RZ;simp [results39]
 rw [hp] at c1;have c2:=fn77 p hp;have w:IntKind.wrap .i64 ((p.ax.length:Int)-1)=(p.ax.length:Int)-1:=AD (by omega) (by omega);have c3:=AW2 0 ((p.ax.length:Int)-1) [b.ax] (by simp);have c4:=AW2 (ndT p) p.pe [b.he] (by simp);have m1:=fn79 b p (ndT p);have m2:=fn80 b p (ndT p);have m3:=AcA b p (ndT p);have m4:=ASq b p (ndT p);have m5:=fn83 b p (ndT p);have m6:=fn84 b p (ndT p);have m7:=fn85 b p (ndT p);unfold AWB;obtain ⟨sh,ax,he,wi,op⟩:=b;simp only at*
 generalize rgB 0 ((p.ax.length:Int)-1) [ax]=r3 at*
 generalize rgB (ndT p) p.pe [he]=r4 at*
 by_cases h5:sh<=5
 case neg=>
   refine CB func39 c39 fun E hE=>?_
   simp [p39];refine CLa c1 ?_;simp [inC,Nat.testBit];refine CLa c2 ?_;simp [AA,inC,Nat.testBit,h5]
   repeat ((first | (refine CLt c3 ?_ ?_;focus (simp [AG,DG,inC,Nat.testBit];done)) | (refine CLt c4 ?_ ?_;focus (simp [AG,DG,inC,Nat.testBit];done)) | (refine CLt m1 ?_ ?_;focus (simp [AG,DG,inC,Nat.testBit];done)) | (refine CLt m2 ?_ ?_;focus (simp [AG,DG,inC,Nat.testBit];done)) | (refine CLt m3 ?_ ?_;focus (simp [AG,DG,inC,Nat.testBit];done)) | (refine CLt m4 ?_ ?_;focus (simp [AG,DG,inC,Nat.testBit];done)) | (refine CLt m5 ?_ ?_;focus (simp [AG,DG,inC,Nat.testBit];done)) | (refine CLt m6 ?_ ?_;focus (simp [AG,DG,inC,Nat.testBit];done)) | (refine CLt m7 ?_ ?_;focus (simp [AG,DG,inC,Nat.testBit];done)));simp [AA,AM,inC,Nat.testBit,h5])
   apply RZ;simp [results39]
 cases r3
 . refine CB func39 c39 fun E hE=>?_
   simp [p39];refine CLa c1 ?_;simp [inC,Nat.testBit];refine CLa c2 ?_;simp [AA,AM,inC,Nat.testBit,w,h5]
   repeat ((first | (refine CLt c3 ?_ ?_;focus (simp [AG,inC,Nat.testBit];done)) | (refine CLt c4 ?_ ?_;focus (simp [AG,DG,inC,Nat.testBit];done)) | (refine CLt m1 ?_ ?_;focus (simp [AG,DG,inC,Nat.testBit];done)) | (refine CLt m2 ?_ ?_;focus (simp [AG,DG,inC,Nat.testBit];done)) | (refine CLt m3 ?_ ?_;focus (simp [AG,DG,inC,Nat.testBit];done)) | (refine CLt m4 ?_ ?_;focus (simp [AG,DG,inC,Nat.testBit];done)) | (refine CLt m5 ?_ ?_;focus (simp [AG,DG,inC,Nat.testBit];done)) | (refine CLt m6 ?_ ?_;focus (simp [AG,DG,inC,Nat.testBit];done)) | (refine CLt m7 ?_ ?_;focus (simp [AG,DG,inC,Nat.testBit];done)));simp)
   apply RZ;simp [results39]
 by_cases e0:he=0
 . subst e0
   have hs:sh=0\/sh=1\/sh=2\/sh=3\/sh=4\/sh=5:=by omega
   rcases hs with rfl | rfl | rfl | rfl | rfl | rfl<;>cases wi
   all_goals
     refine CB func39 c39 fun E hE=>?_
     simp [p39];refine CLa c1 ?_;simp [inC,Nat.testBit];refine CLa c2 ?_;simp [AA,AM,inC,Nat.testBit,w,inC]
     repeat ((first | (refine CLt c3 ?_ ?_;focus (simp [AG,inC,Nat.testBit];done)) | (refine CLt c4 ?_ ?_;focus (simp [AG,DG,inC,Nat.testBit];done)) | (refine CLt m1 ?_ ?_;focus (simp [DG,inC,Nat.testBit];done)) | (refine CLt m2 ?_ ?_;focus (simp [DG];done)) | (refine CLt m3 ?_ ?_;focus (simp [DG];done)) | (refine CLt m4 ?_ ?_;focus (simp [DG];done)) | (refine CLt m5 ?_ ?_;focus (simp [AG,DG,inC,Nat.testBit];done)) | (refine CLt m6 ?_ ?_;focus (simp [DG];done)) | (refine CLt m7 ?_ ?_;focus (simp [DG];done)));simp [inC,Nat.testBit,inC])
     apply RZ;simp [results39]
 . cases r4
   . refine CB func39 c39 fun E hE=>?_
     simp [p39];refine CLa c1 ?_;simp [inC,Nat.testBit];refine CLa c2 ?_;simp [AA,AM,inC,Nat.testBit,w,h5,e0]
     repeat ((first | (refine CLt c3 ?_ ?_;focus (simp [AG,inC,Nat.testBit];done)) | (refine CLt c4 ?_ ?_;focus (simp [AG];done)) | (refine CLt m1 ?_ ?_;focus (simp [DG,inC,Nat.testBit];done)) | (refine CLt m2 ?_ ?_;focus (simp [AG,DG,inC,Nat.testBit];done)) | (refine CLt m3 ?_ ?_;focus (simp [AG,DG,inC,Nat.testBit];done)) | (refine CLt m4 ?_ ?_;focus (simp [AG,DG,inC,Nat.testBit];done)) | (refine CLt m5 ?_ ?_;focus (simp [AG,DG,inC,Nat.testBit];done)) | (refine CLt m6 ?_ ?_;focus (simp [AG,DG,inC,Nat.testBit];done)) | (refine CLt m7 ?_ ?_;focus (simp [AG,DG,inC,Nat.testBit];done)));simp [AA,AM,inC,Nat.testBit,e0])
     apply RZ;simp [results39]
   . have hs:sh=0\/sh=1\/sh=2\/sh=3\/sh=4\/sh=5:=by omega
     rcases hs with rfl | rfl | rfl | rfl | rfl | rfl<;>cases wi<;>cases op
     all_goals
       refine CB func39 c39 fun E hE=>?_
       simp [p39];refine CLa c1 ?_;simp [inC,Nat.testBit];refine CLa c2 ?_;simp [AA,AM,inC,Nat.testBit,w,e0]
       repeat ((first | (refine CLt c3 ?_ ?_;focus (simp [AG,inC,Nat.testBit];done)) | (refine CLt c4 ?_ ?_;focus (simp [AG];done)) | (refine CLt m1 ?_ ?_;focus (simp [DG,inC,Nat.testBit];done)) | (refine CLt m2 ?_ ?_;focus (simp [DG];done)) | (refine CLt m3 ?_ ?_;focus (simp [DG];done)) | (refine CLt m4 ?_ ?_;focus (simp [DG];done)) | (refine CLt m5 ?_ ?_;focus (simp [DG];done)) | (refine CLt m6 ?_ ?_;focus (simp [DG];done)) | (refine CLt m7 ?_ ?_;focus (simp [DG];done)));simp [AA,AM,inC,Nat.testBit,e0])
       apply RZ;simp [results39]
theorem x8 (n lo hi:Int):Ct prog 259 [vi n,vi lo,vi hi] (vb (rgB lo hi [n])) []:=by
 have e:rgB lo hi [n]=(decide (lo<=n)&&decide (n<=hi)):=by simp [rgB]
 rw [e];by_cases h1:lo<=n<;>by_cases h2:n<=hi
 all_goals
   refine CB func259 c259 fun E hE=>?_
   simp [p259,h1,h2];apply RZ;simp [results259]
theorem yC (a b lo hi:Int):Ct prog 262 [vsp a b,vi lo,vi hi] (vb (spB lo hi a b)) []:=by
 have e:spB lo hi a b=(decide (lo<=a)&&decide (a<=b)&&decide (b<=hi)):=by
   rw [Bool.eq_iff_iff,CC];simp;omega
 rw [e];by_cases h1:lo<=a<;>by_cases h2:a<=b<;>by_cases h3:b<=hi
 all_goals
   refine CB func262 c262 fun E hE=>?_
   simp [p262,h1,h2,h3];apply RZ;simp [results262]
theorem Ab5 (a:Int × Int):Ct prog 297 [vsp a.1 a.2] (vb (tq7 a)) []:=by
 have c1:=x8 a.1 (-1000) 1000;have c2:=x8 a.2 (-1000) 1000
 have e:tq7 a=(rgB (-1000) 1000 [a.1]&&rgB (-1000) 1000 [a.2]&&(!decide (a.1=0)||!decide (a.2=0))):=by
   rw [Bool.eq_iff_iff];simp [tq7,rgB]
 rw [e]
 generalize rgB (-1000) 1000 [a.1]=r1 at*
 generalize rgB (-1000) 1000 [a.2]=r2 at*
 by_cases h1:a.1=0<;>by_cases h2:a.2=0<;>cases r1<;>cases r2
 all_goals
   refine CB func297 c297 fun E hE=>?_
   simp [p297,h1,h2]
   repeat ((first | (refine CLt c1 ?_ ?_;focus (simp [h1,h2];done)) | (refine CLt c2 ?_ ?_;focus (simp [h2];done)));simp [h1,h2])
   apply RZ;simp [results297]
theorem TW (a b c d:Int):Ct prog 194 [.agg [vi a,vi b,vi c,vi d]] (vb (na a b c d)) []:=by
 have c1:=yC a b (-2000) 2000;have c2:=yC c d (-2000) 2000;unfold na
 generalize spB (-2000) 2000 a b=r1 at*
 generalize spB (-2000) 2000 c d=r2 at*
 cases r1
 all_goals
   refine CB func194 c194 fun E hE=>?_
   simp [p194]
   repeat ((first | (refine CLt c1 ?_ ?_;focus (simp;done)) | (refine CLt c2 ?_ ?_;focus (simp;done)));simp)
   apply RZ;simp [results194]
theorem pj (a b c d:Int):Ct prog 111 [.agg [vi a,vi b,vi c,vi d]] (vi (if na a b c d then 0 else 71)) []:=by
 have c1:=TW a b c d
 generalize na a b c d=r at*
 cases r
 all_goals
   refine CB func111 c111 fun E hE=>?_
   simp [p111]
   repeat ((first | (refine CLt c1 ?_ ?_;focus (simp;done)));simp)
   apply RZ;simp [results111]
theorem AXC {α:Type} {q:α->Bool} {l:List α} {i:Nat} {x:α} (h:l[i]?= some x) (hq:q x=false):l.all q=false:=by
 rw [List.all_eq_false];exact ⟨x,List.mem_of_getElem? h,by simp [hq]⟩
theorem AZY {α:Type} {q:α->Bool} {l:List α} {i:Nat} {x:α} (h:l[i]?= some x) (h0:(l.take i).all q=true) (hq:q x=true):(l.take (i+1)).all q=true:=by
 rw [List.take_add_one,h,List.all_append,h0];simp [hq]
theorem Acy (l:List (Int × Int)) (hl:l.length<=1000000):Ct prog 258 [.d (An l)] (vb (x9 l)) []:=by
 have c1:=x8 l.length 1 32;unfold x9
 generalize rgB 1 32 [(l.length:Int)]=r at*
 cases r
 . refine CB func258 Acl fun E hE=>?_
   simp [p258];refine CLa c1 ?_;simp;apply RZ;simp [results258]
 refine CB func258 Acl fun E hE=>?_
 simp [p258];refine CLa c1 ?_;simp;refine Al (α:=Nat) (fun i=>⟨AO [(0, .d (An l)),(3,vi i)],lk [],0⟩) (fun i=>i<=l.length/\(l.take i).all tq7=true) (fun i=>l.length-i) 0 ?_ ?_ ?_
 . simp
 . exact WK hE (lk [])
 . rintro i ⟨hi,hq⟩
   by_cases h:i<l.length
   . obtain ⟨x,hx⟩:=gE h
     have hI:(i:Int)<l.length:=by omega
     have hw:=@wz i (by omega);have c:=Ab5 x;cases hc:tq7 x
     . have e:=AXC (q:=tq7) hx hc
       rw [hc] at c;simp [bW,hI,hx];refine CLa c ?_;simp;apply RZ;simp [results258,e]
     . have e:=AZY (q:=tq7) hx hq hc
       rw [hc] at c;simp [bW,hI,hx];refine CLa c ?_;simp [hw];refine ⟨i+1,⟨by omega,by simpa using e⟩,by omega,?_⟩;exact WK hE (lk [])
   . have e:i=l.length:=by omega
     subst e;rw [List.take_length] at hq;simp [bW];apply RZ;simp [results258,hq]
theorem Acz (l:List (Int × Int)) (hl:l.length<=1000000):Ct prog 260 [.d (An l)] (vb (y0 l)) []:=by
 unfold y0;by_cases h8:(l.length:Int)<=8
 case neg=>
   have h9:(8:Int)<l.length:=by omega
   refine CB func260 qe fun E hE=>?_
   simp [p260,h9];apply RZ;simp [results260,h8]
 rw [decide_eq_true h8];have h9:¬ (8:Int)<l.length:=by omega
 refine CB func260 qe fun E hE=>?_
 simp [p260,h9];refine Al (α:=Nat) (fun i=>⟨AO [(0, .d (An l)),(3,vi i)],lk [],0⟩) (fun i=>i<=l.length/\(l.take i).all (fun s=>spB 0 1000000 s.1 s.2)=true) (fun i=>l.length-i) 0 ?_ ?_ ?_
 . simp
 . exact WK hE (lk [])
 . rintro i ⟨hi,hq⟩
   by_cases h:i<l.length
   . obtain ⟨x,hx⟩:=gE h
     have hI:(i:Int)<l.length:=by omega
     have hw:=@wz i (by omega);have c:=yC x.1 x.2 0 1000000;cases hc:spB 0 1000000 x.1 x.2
     . have e:=AXC (q:=(fun s=>spB 0 1000000 s.1 s.2)) hx hc
       rw [hc] at c;simp [AWb,hI,hx];refine CLa c ?_;simp;apply RZ;simp [results260,e]
     . have e:=AZY (q:=(fun s=>spB 0 1000000 s.1 s.2)) hx hq hc
       rw [hc] at c;simp [AWb,hI,hx];refine CLa c ?_;simp [hw];refine ⟨i+1,⟨by omega,by simpa using e⟩,by omega,?_⟩;exact WK hE (lk [])
   . have e:i=l.length:=by omega
     subst e;rw [List.take_length] at hq;simp [AWb];apply RZ;simp [results260,hq]
theorem jC (p:Prt) (h1:p.ax.length<=1000000) (h2:p.pu.length<=1000000):Ct prog 192 [AW1 p] (vb (Yc p)) []:=by
 have c1:=Acy p.ax h1;have c2:=Acz p.pu h2;have c3:=x8 p.pe 0 200;have c4:=x8 p.mo 1 1000000;have c5:=x8 p.cr 0 2000;unfold Yc
 generalize x9 p.ax=r1 at*
 generalize y0 p.pu=r2 at*
 generalize rgB 0 200 [p.pe]=r3 at*
 generalize rgB 1 1000000 [p.mo]=r4 at*
 generalize rgB 0 2000 [p.cr]=r5 at*
 cases r1<;>cases r3<;>cases r4<;>cases r2
 all_goals
   refine CB func192 c192 fun E hE=>?_
   simp [p192]
   repeat ((first | (refine CLt c1 ?_ ?_;focus (simp;done)) | (refine CLt c2 ?_ ?_;focus (simp;done)) | (refine CLt c3 ?_ ?_;focus (simp;done)) | (refine CLt c4 ?_ ?_;focus (simp;done)) | (refine CLt c5 ?_ ?_;focus (simp;done)));simp)
   apply RZ;simp [results192]
theorem Ab1 (l:List (Int × Int)) (mo:Int) (hm:1<=mo/\mo<=1000000) (hl:l.length<=8) (hs:∀ s∈l,spB 0 1000000 s.1 s.2=true):Ct prog 299 [.d (An l),vi mo] (hdF 1 (ndL mo l) 0) (ouF inL (ndL mo l) 0):=by
 have hri:LD (hdF 1 (ndL mo l) 0) (ouF inL (ndL mo l) 0):=by
   cases h:ndL mo l with
   | nil=>simp [LD,Aq,Au]
   | cons a r=>rw [Ak (by simp),AZ (by simp)];simp [LD]
 refine Ct.by gok eok mixed func299 c299 rfl (by simp [ntmps299]) (by simp) hri fun E hE=>?_
 simp [p299];refine Al (α:=Nat) (fun i=>⟨AO [(0, .d (An l)),(1,vi mo),(5,hdF 1 (ndL mo (l.take i)) 0),(6,vi i)],lk (ouF inL (ndL mo (l.take i)) 0),1⟩) (fun i=>i<=l.length) (fun i=>l.length-i) 0 ?_ ?_ ?_
 . omega
 . simp only [List.take_zero,show ndL mo []=[] from rfl,Aq,Au]
   exact WK hE (lk [])
 . intro i hi
   by_cases h:i<l.length
   . obtain ⟨x,hx⟩:=gE h
     have hI:(i:Int)<l.length:=by omega
     have hw:=@wz i (by omega);have hb:=AYt hm (hs x (List.mem_of_getElem? hx));have hn:=AVn (mo:=mo) hx;have hlen:=AXl (mo:=mo) hi;have hmo:mo≠0:=by omega
     have w1:IntKind.wrap .i64 (x.2+mo)=x.2+mo:=AD (by omega) (by omega);have w2:IntKind.wrap .i64 (x.2+mo-1)=x.2+mo-1:=AD (by omega) (by omega);have w3:IntKind.wrap .i64 ((x.2+mo-1).tdiv mo)=ndN mo x:=AD (by show _<=ndN mo x;omega) (by show ndN mo x<=_;omega);have w5:IntKind.wrap .i64 (ndN mo x)=ndN mo x:=AD (by omega) (by omega);by_cases h0:i=0
     . have g1:ndL mo (l.take i)=[]:=by rw [h0];rfl
       rw [g1] at hn hlen;rw [g1,Aq,Au];simp [AVv,hI,hx,AA,AM,w1,w2,w3,hw,hmo];refine ⟨i+1,by omega,by omega,?_⟩;rw [hn,Ak (by simp),AZ (by simp)];refine AI.mk hE (lk [(0,16777217)]) _ _ _ ?_ ?_ ?_ ?_ ?_<;>simp [AH]
     . have n1:ndL mo (l.take i)≠[]:=fun e=>by rw [e] at hlen;simp at hlen;omega
       rw [Ak n1,AZ n1]
       generalize ndL mo (l.take i)=L at*
       have s1:=Aw AYs L;have s2:=E9 AYs L;have s3:List.take L.length (AH inL L)=AH inL L:=by simpa using s2
       have m1:(L.length+1)*8<=140737488355328:=by omega
       have m2:L.length+1<=9223372036854775807:=by omega
       simp [AVv,hI,hx,AA,AM,w1,w2,w3,hw,hmo,s1,m1,m2];refine ⟨i+1,by omega,by omega,?_⟩;rw [hn,Ak (by simp),AZ (by simp),IV];refine AI.mk hE (lk [(0,16777217)]) _ _ _ ?_ ?_ ?_ ?_ ?_<;>simp [s3]
   . have e:i=l.length:=by omega
     subst e;rw [List.take_length];cases h:ndL mo l with
     | nil=>
       rw [Aq,Au];simp [AVv];apply RZ;simp [results299]
     | cons a r=>
       rw [Ak (by simp),AZ (by simp)];simp [AVv];refine AB.by (lk [(0,0)]) ?_;simp [results299]
theorem AYM {l:List Int} {i:Nat} {x:Int} (h:l[i]?= some x):(l.take (i+1)).sum=(l.take i).sum+x:=by
 rw [List.take_add_one,h,List.sum_append];simp
theorem AbM (l:List Int) (hl:l.length<=1000000) (hb:∀ i,i<=l.length-> -1000000000000<=(l.take i).sum/\(l.take i).sum<=1000000000000):Ct prog 298 [.d (.sl 1 (l.map inL))] (vi l.sum) []:=by
 refine CB func298 c298 fun E hE=>?_
 simp [p298];refine Al (α:=Nat) (fun i=>⟨AO [(0, .d (.sl 1 (l.map inL))),(3,vi (l.take i).sum),(4,vi i)],lk [],0⟩) (fun i=>i<=l.length) (fun i=>l.length-i) 0 ?_ ?_ ?_
 . omega
 . exact WK hE (lk [])
 . intro i hi
   by_cases h:i<l.length
   . obtain ⟨x,hx⟩:=gE h
     have hI:(i:Int)<l.length:=by omega
     have hw:=@wz i (by omega);have hS:=hb (i+1) (by omega);have hn:=AYM hx;have w1:IntKind.wrap .i64 ((l.take i).sum+x)=(l.take (i+1)).sum:=by rw [<-hn];exact AD (by omega) (by omega)
     simp [AXU,hI,hx,w1,hw];refine ⟨i+1,by omega,by omega,?_⟩;exact WK hE (lk [])
   . have e:i=l.length:=by omega
     subst e;rw [List.take_length];simp [AXU];apply RZ;simp [results298]
theorem AYN {mo:Int} {l:List (Int × Int)} {i:Nat}:(ndL mo l).take i=ndL mo (l.take i):=by simp [ndL,List.map_take]
theorem wC (p:Prt) (h:Yc p=true):Ct prog 261 [AW1 p] (vi (ndT p)) []:=by
 obtain ⟨_,h2,h3,_,h5,_⟩:=ki h;have c:=Ab1 p.pu p.mo h5 h2 h3;have hlen:(ndL p.mo p.pu).length=p.pu.length:=by simp [ndL]
 have d:=AbM (ndL p.mo p.pu) (by omega) fun i hi=>by
   rw [AYN];have:=AWP h5 h3 i (by omega);omega
 have e:ndT p=max 1 (ndL p.mo p.pu).sum:=by unfold ndT;omega
 rw [e]
 generalize ndL p.mo p.pu=L at*
 by_cases h0:L=[]
 . subst h0
   rw [Aq,Au] at c;refine CB func261 Acm fun E hE=>?_
   simp [p261];refine CLa c ?_;simp;refine CLa d ?_;simp;apply RZ;simp [results261]
 . rw [Ak h0,AZ h0] at c
   have hb:∀ {H:Hp} {id:Nat},H id=some (AH inL L)->Bor H (.ls id 0 L.length 1) (.d (.sl 1 (L.map inL))):=fun h=>B0 AYs h
   refine CB func261 Acm fun E hE=>?_
   simp [p261];refine CLa c ?_;simp;refine CLb (d) (by simp [hb]) ?_;simp;apply RZ;simp [results261]
theorem AXt {p:Prt} {b:Bth} (h:Yc p=true) (hb:0<=b.sh):AWB p b=((decide (b.sh<=5)&&rgB 0 ((p.ax.length:Int)-1) [b.ax]&&(decide (b.he=0)||rgB (ndT p) p.pe [b.he]))&&
   (if b.sh=0\/b.sh=1 then decide (b.he=0)&&!b.wi else if b.sh=2 then decide (0<b.he) else if b.sh=3\/b.sh=5 then !b.wi else decide (0<b.he)&&!b.wi&&b.op)):=by
 have hn:=Aa2 h;have e1:rgB (ndT p) p.pe [b.he]=(decide (ndT p<=b.he)&&decide (b.he<=p.pe)):=by simp [rgB]
 unfold AWB;rw [e1]
 generalize rgB 0 ((p.ax.length:Int)-1) [b.ax]=r3
 obtain ⟨sh,ax,he,wi,op⟩:=b;simp only at*;by_cases h5:sh<=5
 case neg=>simp [h5]
 have hs:sh=0\/sh=1\/sh=2\/sh=3\/sh=4\/sh=5:=by omega
 by_cases e0:he=0
 . subst e0
   rcases hs with rfl | rfl | rfl | rfl | rfl | rfl<;>simp
 . by_cases hp:0<he
   . rcases hs with rfl | rfl | rfl | rfl | rfl | rfl<;>simp [e0,hp]<;>cases wi<;>cases op<;>simp
   . have:¬ ndT p<=he:=by omega
     simp [e0,this]
theorem qE (p:Prt) (b:Bth) (h:Yc p=true) (hb:0<=b.sh/\b.sh<256):Ct prog 193 [AW1 p,Aay b] (vb (AWB p b)) []:=by
 rw [AXt h hb.1];have c2:=wC p h
 have w:IntKind.wrap .i64 ((p.ax.length:Int)-1)=(p.ax.length:Int)-1:=by
   have:=ki h;exact AD (by omega) (by omega)
 have c3:=x8 b.ax 0 ((p.ax.length:Int)-1);have c4:=x8 b.he (ndT p) p.pe;obtain ⟨sh,ax,he,wi,op⟩:=b;simp only at*
 generalize rgB 0 ((p.ax.length:Int)-1) [ax]=r3 at*
 generalize rgB (ndT p) p.pe [he]=r4 at*
 by_cases h5:5<sh
 . have h6:¬ sh<=5:=by omega
   refine CB func193 AY8 fun E hE=>?_
   simp [p193,inC,Nat.testBit,h5,h6]
   repeat ((first | (refine CLt c3 ?_ ?_;focus (simp;done)) | (refine CLt c2 ?_ ?_;focus (simp;done)) | (refine CLt c4 ?_ ?_;focus (simp;done)));simp [AA,AM,inC,Nat.testBit,w,h5,h6])
   apply RZ;simp [results193]
 have h6:sh<=5:=by omega
 cases r3
 . refine CB func193 AY8 fun E hE=>?_
   simp [p193,inC,Nat.testBit,w,h5]
   repeat ((first | (refine CLt c3 ?_ ?_;focus (simp;done)) | (refine CLt c2 ?_ ?_;focus (simp;done)) | (refine CLt c4 ?_ ?_;focus (simp;done)));simp)
   apply RZ;simp [results193]
 by_cases e0:he=0
 . subst e0
   have hs:sh=0\/sh=1\/sh=2\/sh=3\/sh=4\/sh=5:=by omega
   rcases hs with rfl | rfl | rfl | rfl | rfl | rfl
   all_goals
     refine CB func193 AY8 fun E hE=>?_
     simp [p193,inC,Nat.testBit,w,inC]
     repeat ((first | (refine CLt c3 ?_ ?_;focus (simp;done)) | (refine CLt c2 ?_ ?_;focus (simp;done)) | (refine CLt c4 ?_ ?_;focus (simp;done)));simp [inC,Nat.testBit,inC])
     apply RZ;simp [results193]
 . cases r4
   . refine CB func193 AY8 fun E hE=>?_
     simp [p193,inC,Nat.testBit,w,h5,e0]
     repeat ((first | (refine CLt c3 ?_ ?_;focus (simp;done)) | (refine CLt c2 ?_ ?_;focus (simp;done)) | (refine CLt c4 ?_ ?_;focus (simp;done)));simp [inC,Nat.testBit,e0])
     apply RZ;simp [results193]
   . by_cases hp:0<he
     all_goals
       have hs:sh=0\/sh=1\/sh=2\/sh=3\/sh=4\/sh=5:=by omega
       rcases hs with rfl | rfl | rfl | rfl | rfl | rfl<;>cases wi
       all_goals
         refine CB func193 AY8 fun E hE=>?_
         simp [p193,inC,Nat.testBit,w,e0,hp]
         repeat ((first | (refine CLt c3 ?_ ?_;focus (simp;done)) | (refine CLt c2 ?_ ?_;focus (simp;done)) | (refine CLt c4 ?_ ?_;focus (simp;done)));simp [inC,Nat.testBit,e0,hp])
         apply RZ;simp [results193]
theorem pi (p:Prt) (b:Bth) (h1:p.ax.length<=1000000) (h2:p.pu.length<=1000000) (hb:0<=b.sh/\b.sh<256):Ct prog 110 [AW1 p,Aay b] (vi (dv p b)) []:=by
 have c1:=jC p h1 h2;unfold dv;cases hp:Yc p
 . rw [hp] at c1
   refine CB func110 AcR fun E hE=>?_
   simp [p110];refine CLa c1 ?_;simp;apply RZ;simp [results110]
 . have c2:=qE p b hp hb
   rw [hp] at c1;cases hq:AWB p b
   all_goals
     rw [hq] at c2;refine CB func110 AcR fun E hE=>?_
     simp [p110];refine CLa c1 ?_;simp;refine CLa c2 ?_;simp;apply RZ;simp [results110]
end Go.Proofs.Tryz
namespace Go.Psl
def bs (l:List UInt8):ByteArray:=⟨l.toArray⟩
theorem Acv (l:List UInt8):ByteArray.mk l.toArray=bs l:=AF rfl
theorem AZT:ByteArray.empty=bs []:=AF rfl
theorem AaD (s:ByteArray):bs s.data.toList=s:=by
 cases s;simp [bs]
theorem AX8 (l:List UInt8):(bs l).data.toList=l:=by simp [bs]
theorem sX (l:List UInt8):(bs l).size=l.length:=by simp [bs,ByteArray.size]
theorem AX9 (a b:List UInt8):bs a++bs b=bs (a++b):=by
 apply ByteArray.ext;simp [bs]
theorem AZU (l:List UInt8) (i:Nat):(bs l)[i]?= l[i]?:= by
 by_cases h:i<l.length
 . have:i<(bs l).size:=by rw [sX];exact h
   rw [getElem?_pos (bs l) i this,List.getElem?_eq_getElem h];rfl
 . have:¬ i<(bs l).size:=by rw [sX];exact h
   rw [getElem?_neg (bs l) i this,List.getElem?_eq_none (by omega)]
theorem AaE (l:List UInt8) (i:Nat) (h:i<(bs l).size):(bs l)[i]=l[i]'(by rw [<-sX];exact h):=by
 have h2:i<l.length:=by rw [<-sX];exact h
 have:=AZU l i;rw [getElem?_pos (bs l) i h,List.getElem?_eq_getElem h2] at this;exact Option.some.inj this
theorem AXW (l:List UInt8) (i j:Nat):(bs l).extract i j=bs ((l.take j).drop i):=by
 apply ByteArray.ext;simp [bs,List.drop_take]
theorem AbJ {a b:List UInt8}:bs a=bs b↔a=b:=by
 constructor
 . intro h
   have:=congrArg (fun s:ByteArray=>s.data.toList) h;simpa [bs] using this
 . intro h;rw [h]
theorem AZV (a b:List UInt8):(bs a == bs b)=decide (a=b):=by
 by_cases h:a=b
 . subst h
   simp only [decide_true];exact AKJ _
 . rw [decide_eq_false h]
   cases hq:(bs a == bs b)
   . rfl
   . exact absurd (AbJ.1 (AKY hq)) h
theorem AbK (a b:List UInt8):(bs a != bs b)=!decide (a=b):=by
 rw [bne,AZV]
theorem AaF:AQ2 [.pointer none, .slice none 0 0]=true:=AF rfl
theorem Acw {ρ:Nat->Option Nat} {v:V} {i:Nat}:WC ρ v (.yl i)=W0 ρ v (.yl i):=AF rfl
theorem AaG {ρ:Nat->Nat} {i:Nat}:BJ ρ (.yl i)= .yl (ρ i):=AF rfl
attribute [simp] Acw AaG AaF APv Acv AZT sX AX9 AZU AaE AXW AZV AbK
end Go.Psl
namespace Go.Log
abbrev By:=List UInt8
def upB (b:UInt8):Bool:=decide (65<=(b.toNat:Int))&&decide ((b.toNat:Int)<=90)
def dgB (b:UInt8):Bool:=decide (48<=(b.toNat:Int))&&decide ((b.toNat:Int)<=57)
def prB (b:UInt8):Bool:=decide (32<=(b.toNat:Int))&&decide ((b.toNat:Int)<=126)
def DF (n lo hi:Int):Bool:=decide (lo<=n)&&decide (n<=hi)
def AVe (f:Nat->UInt8->Bool) (s:By):Bool:=(List.range s.length).all fun i=>(s[i]?).all (f i)
theorem Ye {f:Nat->UInt8->Bool} {s:By} {i:Nat} {b:UInt8} (h:s[i]?= some b) (hf:f i b=false):AVe f s=false:=by
 unfold AVe;rw [List.all_eq_false];exact ⟨i,by simp;exact (List.getElem?_eq_some_iff.1 h).1,by simp [h,hf]⟩
theorem AWJ {f:Nat->UInt8->Bool} {s:By} (h:∀ j,j<s.length->(s[j]?).all (f j)=true):AVe f s=true:=by
 unfold AVe;rw [List.all_eq_true];intro i hi;exact h i (by simpa using hi)
def Yf (s:By) (most:Int) (f:Nat->UInt8->Bool):Bool:=AVe f s&&DF s.length 1 most
def cptF (_:Nat) (b:UInt8):Bool:=upB b
def shipF (i:Nat) (b:UInt8):Bool:=upB b||(decide (0<i)&&dgB b)
def eL (_:Nat) (b:UInt8):Bool:=prB b
def AVf (s:By):Bool:=Yf s 8 shipF
def AWs (s:By):Bool:=Yf s 8 cptF
def Rv (c:UInt8):By->By
 | []=>[]
 | b::r=>if b=c then Rv c r else b::r
def T8 (c:UInt8) (s:By):By:=(Rv c s.reverse).reverse
theorem ge (c:UInt8):∀ s:By,(Rv c s).length<=s.length
 | []=>by simp [Rv]
 | b::r=>by
   unfold Rv;split
   . have:=ge c r;simp;omega
   . simp
theorem go (c:UInt8) (s:By):(T8 c s).length<=s.length:=by
 have:=ge c s.reverse;simpa [T8] using this
theorem U4 (c:UInt8) (s:By) (b:UInt8):T8 c (s++[b])=if b=c then T8 c s else s++[b]:=by
 unfold T8;rw [List.reverse_append];simp only [List.reverse_cons,List.reverse_nil,List.nil_append,List.cons_append,Rv];split<;>simp
def Yh (c:UInt8) (s:By):Bool:=(s.head?).all (fun b=>decide (b≠c))&&(s.getLast?).all fun b=>decide (b≠c)
theorem AV6 (c:UInt8) (s:By):Rv c (T8 c s)=s↔Yh c s=true:=by
 constructor
 . intro h
   have h1:=ge c (T8 c s);have h2:=go c s;rw [h] at h1
   have hr:T8 c s=s:=by
     rcases List.eq_nil_or_concat s with rfl | ⟨r,b,rfl⟩
     . rfl
     . rw [List.concat_eq_append] at*
       rw [U4] at h1 ⊢;split
       . rename_i e
         rw [if_pos e] at h1;have:=go c r;simp at h1;omega
       . rfl
   rw [hr] at h;unfold Yh;rw [Bool.and_eq_true];constructor
   . cases s with
     | nil=>rfl
     | cons b r=>
       simp only [List.head?_cons,Option.all_some,decide_eq_true_eq];intro e;subst e;simp only [Rv,if_true] at h;have:=ge b r;rw [h] at this;simp at this;omega
   . rcases List.eq_nil_or_concat s with rfl | ⟨r,b,rfl⟩
     . rfl
     . rw [List.concat_eq_append] at*
       simp only [List.getLast?_concat,Option.all_some,decide_eq_true_eq];intro e;subst e;rw [U4,if_pos rfl] at hr;have:=go b r;rw [hr] at this;simp at this;omega
 . intro h
   unfold Yh at h;rw [Bool.and_eq_true] at h
   have hr:T8 c s=s:=by
     rcases List.eq_nil_or_concat s with rfl | ⟨r,b,rfl⟩
     . rfl
     . rw [List.concat_eq_append] at*
       rw [U4,if_neg];simpa using h.2
   rw [hr];cases s with
   | nil=>rfl
   | cons b r=>
     simp only [Rv];rw [if_neg];simpa using h.1
def AVg (s:By):Bool:=decide (s=[])||(decide (Rv 32 (T8 32 s)=s)&&Yf s 40 eL)
def AVz (n:Int):Bool:=DF n (-1000000000) 1000000000
structure Etr where
 t:Int
 w:By
 a:List Int
 n:By
deriving DecidableEq,Inhabited
structure Lg where
 s:By
 es:List Etr
deriving DecidableEq,Inhabited
def Uk (x:Etr):Bool:=DF x.t 0 1000000&&AWs x.w&&decide (x.a.length<=6)&&x.a.all AVz&&AVg x.n
def AWK:Int->List Etr->Bool
 | _,[]=>true
 | last,x::r=>Uk x&&decide (last<=x.t)&&AWK x.t r
def Ue (l:Lg):Bool:=AVf l.s&&decide (l.es.length<=200)&&AWK 0 l.es
def Yi (es:List Etr) (i:Nat):Int:=match i with
 | 0=>0
 | j+1=>(es[j]?).elim 0 Etr.t
theorem AXz {es:List Etr}:∀ {i:Nat} {last:Int} {x:Etr},AWK last es=true->es[i]?= some x->Uk x=true/\(match i with | 0=>last | j+1=>(es[j]?).elim 0 Etr.t)<=x.t:=by
 induction es with
 | nil=>intro i last x _ h;simp at h
 | cons y r ih=>
   intro i last x h hx;simp only [AWK,Bool.and_eq_true,decide_eq_true_eq] at h;cases i with
   | zero=>simp at hx;subst hx;exact ⟨h.1.1,h.1.2⟩
   | succ j=>
     simp at hx;have:=ih h.2 hx;refine ⟨this.1,?_⟩;cases j with
     | zero=>simpa using this.2
     | succ k=>simpa using this.2
theorem AYi {es:List Etr}:∀ {last:Int},(∀ (i:Nat) x,es[i]?= some x->Uk x=true/\(match i with | 0=>last | j+1=>(es[j]?).elim 0 Etr.t)<=x.t)->AWK last es=true:=by
 induction es with
 | nil=>intro last _;rfl
 | cons y r ih=>
   intro last h;simp only [AWK,Bool.and_eq_true,decide_eq_true_eq];have h0:=h 0 y rfl;refine ⟨⟨h0.1,h0.2⟩,ih fun i x hx=>?_⟩;have h1:=h (i+1) x (by simpa using hx);refine ⟨h1.1,?_⟩;cases i with
   | zero=>simpa using h1.2
   | succ k=>simpa using h1.2
theorem rB {es:List Etr} {i:Nat} {x:Etr} (hx:es[i]?= some x) (hb:Uk x=false\/x.t<Yi es i):AWK 0 es=false:=by
 cases h:AWK 0 es with
 | false=>rfl
 | true=>
   have:=AXz h hx;rcases hb with hb | hb
   . rw [this.1] at hb;cases hb
   . have h2:=this.2
     unfold Yi at hb;cases i<;>simp at hb h2<;>omega
theorem AXd {es:List Etr} (h:∀ (i:Nat),i<es.length->(es[i]?).all (fun x=>Uk x&&decide (Yi es i<=x.t))=true):AWK 0 es=true:=by
 refine AYi fun i x hx=>?_
 have:=h i (List.getElem?_eq_some_iff.1 hx).1;rw [hx] at this;simp only [Option.all_some,Bool.and_eq_true,decide_eq_true_eq] at this;refine ⟨this.1,?_⟩;unfold Yi at this;cases i<;>simpa using this.2
end Go.Log
namespace Go.Proofs.Tryz
open Go.Psl
open Go.Log
abbrev dS (l:By):D:= .lit (.string (bs l))
abbrev vS (l:By):V:= .d (dS l)
abbrev vu9 (b:UInt8):V:= .d (.lit (.int .u8 b.toNat))
abbrev Yj (n:Int):List D:=[di n]
abbrev MB (l:List Int):D:= .sl 1 (l.map Yj)
abbrev Qb (x:Etr):List D:=[di x.t,dS x.w,MB x.a,dS x.n]
abbrev AZr (x:Etr):V:= .agg [vi x.t,vS x.w, .d (MB x.a),vS x.n]
abbrev U6 (l:List Etr):D:= .sl 4 (l.map Qb)
abbrev AVh (l:Lg):V:= .agg [vS l.s, .d (U6 l.es)]
theorem AZs {α:Type} (f:α->Bool) (l:List α):l.any (fun x=>!f x)=!l.all f:=by
 induction l with
 | nil=>rfl
 | cons a l ih=>simp [ih]
theorem yF (n lo hi:Int):Ct prog 169 [vi n,vi lo,vi hi] (vb (DF n lo hi)) []:=by
 by_cases h1:lo<=n
 . by_cases h2:n<=hi
   . refine CB func169 Aa4 fun E hE=>?_
     simp [p169,h1,h2];apply RZ;simp [results169,DF,h1,h2]
   . refine CB func169 Aa4 fun E hE=>?_
     simp [p169,h1,h2];apply RZ;simp [results169,DF,h1,h2]
 . refine CB func169 Aa4 fun E hE=>?_
   simp [p169,h1];apply RZ;simp [results169,DF,h1]
theorem rE (s:By) (most:Int) (g:FuncId) (f:Nat->UInt8->Bool) (hl:s.length<=1000000) (hg:∀ (i:Nat) b,s[i]?= some b->Ct prog g [vi i,vu9 b] (vb (f i b)) []):Ct prog 166 [vS s,vi most, .d (.fn g [])] (vb (Yf s most f)) []:=by
 refine CB func166 c166 fun E hE=>?_
 simp [p166];refine Al (α:=Nat) (fun i=>⟨AO [(0,vS s),(1,vi most),(2, .d (.fn g [])),(9,vi s.length),(10,vi i)],lk [],0⟩) (fun i=>i<=s.length/\∀ j,j<i->(s[j]?).all (f j)=true) (fun i=>s.length-i) 0 ?_ ?_ ?_
 . exact ⟨by omega,fun j hj=>by omega⟩
 . exact WK hE (lk [])
 . rintro i ⟨hi,hg3⟩
   have hz:=@wz i (by omega);simp [APM];refine DW (fun h=>?_) (fun h=>?_)
   . simp at h
     obtain ⟨b,hb⟩:=gE h;simp [hb];refine CLa (hg i b hb) ?_;cases hq:f i b
     . simp
       apply RZ;simp [results166,Yf,Ye hb hq]
     . simp [hz]
       refine ⟨i+1,⟨by omega,fun j hj=>?_⟩,by omega,?_⟩
       . by_cases e:j=i
         . subst e;rw [hb];simp [hq]
         . exact hg3 j (by omega)
       . exact WK hE (lk [])
   . simp at h
     have e:AVe f s=true:=AWJ fun j hj=>hg3 j (by omega)
     simp;refine CLa (yF s.length 1 most) ?_;simp;apply RZ;simp [results166,Yf,e]
theorem nu (i:Int) (b:UInt8):Ct prog 168 [vi i,vu9 b] (vb (upB b)) []:=by
 by_cases h1:65<=(b.toNat:Int)
 . by_cases h2:(b.toNat:Int)<=90
   . refine CB func168 qY fun E hE=>?_
     simp [p168,h1,h2];apply RZ;simp [results168,upB,h1,h2]
   . refine CB func168 qY fun E hE=>?_
     simp [p168,h1,h2];apply RZ;simp [results168,upB,h1,h2]
 . refine CB func168 qY fun E hE=>?_
   simp [p168,h1];apply RZ;simp [results168,upB,h1]
end Go.Proofs.Tryz
namespace Go.Log
def Rh (n:Int):By:=Go.Lib.itoa n
def letS (c:Int):By:=[UInt8.ofNat (97+c/26).toNat,UInt8.ofNat (97+c%26).toNat]
def Ir (b:By) (c:Int):By:=b++[32]++letS c++[10]
theorem ql:∀ (k u:Nat),u<10^(k+1)->Go.Lib.nDigits u<=k+1
 | 0,u,h=>by rw [Go.Lib.nDigits_small (by simpa using h)];omega
 | k+1,u,h=>by
   by_cases hu:u<10
   . rw [Go.Lib.nDigits_small hu];omega
   . rw [Go.Lib.nDigits_big hu]
     have:=ql k (u/10) (by rw [Nat.div_lt_iff_lt_mul (by decide)];rw [Nat.pow_succ] at h;omega);omega
def AbL (c:UInt8):By->List By
 | []=>[[]]
 | b::r=>if b=c then []::AbL c r else match AbL c r with
   | []=>[[b]]
   | x::xs=>(b::x)::xs
abbrev splP:By->List By:=AbL 32
def Ac0:By->Int->Option Int
 | [],n=>some n
 | d::r,n=>if dgB d=true/\n<=1000000000000 then Ac0 r (n*10+((d.toNat:Int)-48)) else none
def Ac1 (s:By):Bool:=decide (s.head?= some 45)
def Aac (s:By):By:=if Ac1 s then s.tail else s
def sgn (s:By) (n:Int):Int:=if Ac1 s then -n else n
def Jy (s:By):Int × Bool:=match Ac0 (Aac s) 0 with
 | none=>(0,false)
 | some n=>(sgn s n,decide (Aac s≠[])&&decide (Rh (sgn s n)=s))
def hdF (b:By):Option (By × Int):=match splP b with
 | [f0,f1,f2]=>if (Jy f2).2&&decide (f0=[76,79,71])&&AVf f1&&DF (Jy f2).1 0 200 then some (f1,(Jy f2).1) else none
 | _=>none
structure Ldp where
 al:Int
 ah:Int
 wl:Int
 wh:Int
deriving DecidableEq,Inhabited
structure Lim where
 a:Int
 b:Int
 c:Int
deriving DecidableEq,Inhabited
structure Row where
 n:By
 l:Ldp
deriving DecidableEq,Inhabited
structure Sht where
 s:By
 rs:List Row
deriving DecidableEq,Inhabited
def Ro (lo hi most:Int):Bool:=decide (lo<=hi)&&decide (-most<=lo)&&decide (hi<=most)
def Kl (x:Ldp):Bool:=Ro x.al x.ah 20000&&Ro x.wl x.wh 1073741824
def Rf (x:Lim):Bool:=DF x.a (-1000) 1000&&DF x.b (-1000) 1000&&DF x.c (-1000000000000000000) 1000000000000000000
def F0 (l:List Ldp):Int:=if 40<l.length then 4 else if l.all Kl then 0 else 40
def F7 (l:List Lim):Int:=if 12<l.length then 4 else if l.all Rf then 0 else 41
theorem cn {x:Ldp} (h:Kl x=true): -20000<=x.al/\x.al<=x.ah/\x.ah<=20000/\ -1073741824<=x.wl/\x.wl<=x.wh/\x.wh<=1073741824:=by
 simp only [Kl,Ro,Bool.and_eq_true,decide_eq_true_eq] at h;omega
theorem AWM {x:Lim} (h:Rf x=true): -1000<=x.a/\x.a<=1000/\ -1000<=x.b/\x.b<=1000/\ -1000000000000000000<=x.c/\x.c<=1000000000000000000:=by
 simp only [Rf,DF,Bool.and_eq_true,decide_eq_true_eq] at h;omega
def mnP (x:Ldp):Int:=min (min (min (x.al*x.wl) (x.al*x.wh)) (x.ah*x.wl)) (x.ah*x.wh)
def mxP (x:Ldp):Int:=max (max (max (x.al*x.wl) (x.al*x.wh)) (x.ah*x.wl)) (x.ah*x.wh)
def FB (f:Ldp->Int) (l:List Ldp):Int:=(l.map f).foldl (·+·) 0
theorem AV9 (l:List Int) (z:Int):l.foldl (·+·) z=z+l.foldl (·+·) 0:=by
 induction l generalizing z with
 | nil=>simp
 | cons a l ih=>simp only [List.foldl_cons];rw [ih (z+a),ih (0+a)];omega
theorem hP {f:Ldp->Int} {l:List Ldp} {i:Nat} {x:Ldp} (h:l[i]?= some x):FB f (l.take (i+1))=FB f (l.take i)+f x:=by
 unfold FB;rw [List.take_add_one,h];simp [List.foldl_append]
theorem AWN {f:Ldp->Int} {b:Int} (hb:0<=b):∀ (l:List Ldp),(∀ x∈l, -b<=f x/\f x<=b)-> -(b*l.length)<=FB f l/\FB f l<=b*l.length
 | [],_=>by simp [FB]
 | x::r,h=>by
   have ih:=AWN hb r fun y hy=>h y (by simp [hy])
   have hx:=h x (by simp)
   have e:FB f (x::r)=f x+FB f r:=by
     unfold FB;simp only [List.map_cons,List.foldl_cons];rw [AV9];omega
   rw [e];have e2:b*((x::r).length:Int)=b*r.length+b:=by simp only [List.length_cons];rw [Int.natCast_add,Int.mul_add];simp
   omega
theorem sD {a b A B:Int} (h1: -A<=a) (h2:a<=A) (h3: -B<=b) (h4:b<=B): -(A*B)<=a*b/\a*b<=A*B:=by
 have hA:0<=A:=by omega
 have hB:0<=B:=by omega
 have e1:(A-a)*(B-b)>=0:=Int.mul_nonneg (by omega) (by omega);have e2:(A+a)*(B+b)>=0:=Int.mul_nonneg (by omega) (by omega);have e3:(A-a)*(B+b)>=0:=Int.mul_nonneg (by omega) (by omega);have e4:(A+a)*(B-b)>=0:=Int.mul_nonneg (by omega) (by omega);rw [Int.sub_mul,Int.mul_sub,Int.mul_sub] at e1;rw [Int.add_mul,Int.mul_add,Int.mul_add] at e2;rw [Int.sub_mul,Int.mul_add,Int.mul_add] at e3;rw [Int.add_mul,Int.mul_sub,Int.mul_sub] at e4;constructor<;>omega
def Ub (x:Lim) (at' w:Int):Int:=w*(x.a+x.b*at')
def U1 (x:Lim) (l:Ldp):Int:=max (max (max (Ub x l.al l.wl) (Ub x l.ah l.wl)) (Ub x l.al l.wh)) (Ub x l.ah l.wh)
def Uj (l:List Ldp) (ls:List Lim):Option Nat:=ls.findIdx? fun x=>decide (x.c<FB (U1 x) l)
theorem dq {x:Lim} {p w:Int} (hx:Rf x=true) (h1: -20000<=p) (h2:p<=20000) (h3: -1073741824<=w) (h4:w<=1073741824):
   -20000000<=x.b*p/\x.b*p<=20000000/\ -21475910221824000<=Ub x p w/\Ub x p w<=21475910221824000:=by
 obtain ⟨a1,a2,b1,b2,_,_⟩:=AWM hx;have e1:=sD b1 b2 h1 h2;have e2:=sD (a:=w) (b:=x.a+x.b*p) h3 h4 (B:=20001000) (by omega) (by omega);unfold Ub;refine ⟨by omega,by omega,by omega,by omega⟩
def AaN (n:By) (a b c d:Int):List By:=[n,Rh a,Rh b,Rh c,Rh d]
def rowS (r:Row):List By:=AaN r.n r.l.al r.l.ah r.l.wl r.l.wh
def blk (n:Nat):By:=List.replicate n 32
def AaO (l:List (List By)) (k:Nat):Nat:=(l.map fun r=>(r[k]?.getD []).length).foldl max 0
def Aau:By:=[84,79,84,65,76]
def totS (l:List Ldp):List By:=AaN Aau (FB Ldp.wl l) (FB Ldp.wh l) (FB mnP l) (FB mxP l)
def LL (s:Sht):List (List By):=s.rs.map rowS++[totS (s.rs.map Row.l)]
end Go.Log
