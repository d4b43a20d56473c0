/- Own lemmas, used by the last text. Conditions: those that each theorem states. -/
import Derived.Shelf.SlSortCmp.NoneTotal
import Derived.Test.YtnjclpglagcagaaGreatEaah
import Derived.Test.YtnjclpglagcagaaGreatEaak
import Derived.Test.YtnjclpglagcagaaGreatEaal
import Derived.Test.YtnjclpglagcagaaGreatEaam
import Derived.Test.YtnjclpglagcagaaGreatEaan
import Derived.Test.YtnjclpglagcagaaGreatProg
set_option maxRecDepth 200000
set_option maxHeartbeats 8000000
namespace Go.Air
theorem AMb:∀ (l:List (Int × Int)) (s:Int × Int),s.1<=(ALc s l).1/\(ALc s l).2<=s.2/\(∀ x∈l,x.1<=(ALc s l).1/\(ALc s l).2<=x.2)/\∀ M N:Int,(s.1<=M/\N<=s.2)->(∀ x∈l,x.1<=M/\N<=x.2)->(ALc s l).1<=M/\N<=(ALc s l).2
 | [],s=>⟨Int.le_refl _,Int.le_refl _,by simp,fun M N h _=>h⟩
 | a::l,s=>by
   obtain ⟨h1,h2,h3,h4⟩:=AMb l (max s.1 a.1,min s.2 a.2);have e:ALc s (a::l)=ALc (max s.1 a.1,min s.2 a.2) l:=rfl;rw [e];simp only at h1 h2 h4;refine ⟨by omega,by omega,fun x hx=>?_,fun M N hs hx=>h4 M N ?_ fun x h=>hx x (List.mem_cons_of_mem _ h)⟩
   . rcases List.mem_cons.1 hx with rfl | hx
     . omega
     . exact h3 x hx
   . have:=hx a (by simp)
     omega
theorem AOh {l m:List (Int × Int)} (h0:l≠[]) (h:∀ x∈l,x∈m):(AMB l).1<=(AMB m).1/\(AMB m).2<=(AMB l).2:=by
 obtain ⟨a,r,rfl⟩:=List.exists_cons_of_ne_nil h0;obtain ⟨_,_,h3,_⟩:=AMb m (m.headD (0,0));obtain ⟨_,_,_,g4⟩:=AMb (a::r) a;exact g4 _ _ (h3 a (h a (by simp))) fun x hx=>h3 x (h x hx)
theorem AML {po ki nw nw':Int} (h:nw<=nw'):∀ (l:List Nws) (i:Nat),∀ x∈C2 po ki nw i l,x∈C2 po ki nw' i l
 | [],_,x,hx=>by cases hx
 | a::l,i,x,hx=>by
   rw [C2] at hx ⊢;by_cases h1:ALk po ki nw a=true
   . have h2:ALk po ki nw' a=true:=by
       unfold ALk at h1 ⊢;simp only [Bool.and_eq_true,decide_eq_true_eq] at h1 ⊢;omega
     rw [if_pos h1] at hx;rw [if_pos h2];rcases List.mem_cons.1 hx with rfl | hx
     . simp
     . exact List.mem_cons_of_mem _ (AML h l _ x hx)
   . rw [if_neg h1] at hx
     have:=AML h l _ x hx;split
     . exact List.mem_cons_of_mem _ this
     . exact this
theorem LsN.append:∀ {l m r s:List Lev},LsN l m->LsN r s->LsN (l++r) (m++s)
 | [],[],_,_,_,h=>h
 | _::_,_::_,_,_,g,h=>⟨g.1,LsN.append g.2 h⟩
 | [],_::_,_,_,g,_=>g.elim
 | _::_,[],_,_,g,_=>g.elim
end Go.Air
namespace Go.Proofs.Tryz
open Go.Psl
open Go.Air
theorem GsN.append:∀ {l m r s:List Gal},GsN l m->GsN r s->GsN (l++r) (m++s)
 | [],[],_,_,_,h=>h
 | _::_,_::_,_,_,g,h=>⟨g.1,GsN.append g.2 h⟩
 | [],_::_,_,_,g,_=>g.elim
 | _::_,[],_,_,g,_=>g.elim
section
variable {ns:List Nws} {r:Rts} {t nw lt:Int} (h:nw<=lt)
theorem ANA {S:List (Nat × Nws)} (h:(ALd r S t).2=0):S≠[]/\(ALd r S t).1=AMB (S.map fun x=>ALJ r x.2 t):=by
 unfold ALd at h ⊢;by_cases h0:S=[]
 . rw [if_pos h0] at h;cases h
 . rw [if_neg h0] at h ⊢
   by_cases h1:(ALs r S).isSome=true
   . rw [if_pos h1] at h;cases h
   . rw [if_neg h1];exact ⟨h0,rfl⟩
theorem AOi {S:List (Nat × Nws)} (h:S≠[]):(ALd r S t).2=0\/(ALd r S t).2=24:=by
 unfold ALd;rw [if_neg h];split
 . exact .inr rfl
 . exact .inl rfl
include h in
theorem ANB {i k:Nat} (h0:knE ⟨ns,r,t,nw⟩ i k=0):(knE ⟨ns,r,t,lt⟩ i k=0\/knE ⟨ns,r,t,lt⟩ i k=24)/\(knE ⟨ns,r,t,lt⟩ i k=0->WB (knV ⟨ns,r,t,lt⟩ i k) (knV ⟨ns,r,t,nw⟩ i k)):=by
 obtain ⟨h1,h2⟩:=ANA h0;have hs:=AML (po:=(i:Int)) (ki:=(k:Int)) h ns 0;refine ⟨AOi fun e=>?_,fun h3=>?_⟩
 . obtain ⟨a,q,e2⟩:=List.exists_cons_of_ne_nil h1
   have e2':C2 (i:Int) (k:Int) nw 0 ns=a::q:=e2;have:=hs a (by rw [e2'];simp);have e':C2 (i:Int) (k:Int) lt 0 ns=[]:=e;rw [e'] at this;cases this
 . obtain ⟨_,h4⟩:=ANA h3
   have h5:=AOh (l:=(C2 (i:Int) (k:Int) nw 0 ns).map fun x=>ALJ r x.2 t) (m:=(C2 (i:Int) (k:Int) lt 0 ns).map fun x=>ALJ r x.2 t) (by intro e;exact h1 (List.map_eq_nil_iff.1 e)) fun x hx=>by
     obtain ⟨y,hy,rfl⟩:=List.mem_map.1 hx;exact List.mem_map.2 ⟨y,hs y hy,rfl⟩
   have h2':(knP ⟨ns,r,t,nw⟩ i k).1=_:=h2;have h4':(knP ⟨ns,r,t,lt⟩ i k).1=_:=h4;unfold knV WB;rw [h2',h4'];simp only;have:=h5.1;have:=h5.2;omega
end
theorem AMc {d:SnD} {i:Nat} (h:ALQ d i=0):∀ j,1<=j->j<=4->knE d i j=0:=by
 unfold ALQ at h;by_cases h1:knE d i 1=0
 . rw [if_neg (by simp [h1])] at h
   by_cases h2:knE d i 2=0
   . rw [if_neg (by simp [h2])] at h
     by_cases h3:knE d i 3=0
     . rw [if_neg (by simp [h3])] at h
       intro j k1 k2;have:j=1\/j=2\/j=3\/j=4:=by omega
       rcases this with rfl | rfl | rfl | rfl<;>assumption
     . rw [if_pos h3] at h;exact absurd h h3
   . rw [if_pos h2] at h;exact absurd h h2
 . rw [if_pos h1] at h;exact absurd h h1
theorem AOj {d:SnD} {i:Nat} (h:∀ j,1<=j->j<=4->knE d i j=0\/knE d i j=24):ALQ d i=0\/ALQ d i=24:=by
 have k1:=h 1 (by omega) (by omega);have k2:=h 2 (by omega) (by omega);have k3:=h 3 (by omega) (by omega);have k4:=h 4 (by omega) (by omega);unfold ALQ;split
 . exact k1
 split
 . exact k2
 split
 . exact k3
 exact k4
structure AMd (p:List Pst) (r:Rts) (ns:List Nws) (t nw:Int):Prop where
 op:ALW r ns t nw=0
 cl:AMR p=true
 gu:p.any (fun x=>!rgB 0 500 [x.g])=false
 ps:∀ j,j<p.length->ALQ ⟨ns,r,t,nw⟩ j=0
 uf:ufA ⟨ns,r,t,nw⟩ p.length=false
 eq:ALT p r ns t nw=((lvK ⟨ns,r,t,nw⟩ p p.length,glK ⟨ns,r,t,nw⟩ p p.length),0)
theorem APU {p:List Pst} {r:Rts} {ns:List Nws} {t nw:Int} (h:(ALT p r ns t nw).2=0):AMd p r ns t nw:=by
 by_cases h1:ALW r ns t nw=0
 case neg=>unfold ALT at h;rw [if_pos h1] at h;exact absurd h h1
 cases h2:!AMR p||p.any (fun x=>!rgB 0 500 [x.g]) with
 | true=>unfold ALT at h;rw [if_neg (by simp [h1]),h2,if_pos rfl] at h;cases h
 | false=>
   have e:ALT p r ns t nw=match (List.range p.length).find? fun i=>decide (ALQ ⟨ns,r,t,nw⟩ i≠0) with
     | some i=>(([],[]),ALQ ⟨ns,r,t,nw⟩ i)
     | none=>if ufA ⟨ns,r,t,nw⟩ p.length then (([],[]),21) else ((lvK ⟨ns,r,t,nw⟩ p p.length,glK ⟨ns,r,t,nw⟩ p p.length),0):=by
     unfold ALT;rw [if_neg (by simp [h1]),h2];rfl
   rw [e] at h;rw [Bool.or_eq_false_iff] at h2;cases h3:(List.range p.length).find? fun i=>decide (ALQ ⟨ns,r,t,nw⟩ i≠0) with
   | some i=>
     rw [h3] at h;obtain ⟨h4,_⟩:=List.find?_eq_some_iff_append.1 h3;simp at h4;exact absurd h h4
   | none=>
     rw [h3] at h e;simp only at h e;cases h4:ufA ⟨ns,r,t,nw⟩ p.length with
     | true=>rw [h4] at h;cases h
     | false=>
       rw [h4] at e;refine ⟨h1,by simpa using h2.1,h2.2,fun j hj=>?_,h4,e⟩;have:=List.find?_eq_none.1 h3 j (by simpa using hj);simpa using this
theorem AQy {r:Rts} {ns:List Nws} {t nw:Int} (h:ALW r ns t nw=0):AL3 ns=0/\rgB 0 100 [r.p,r.t,r.w]=true/\(0<=t/\t<=1000000)/\0<=nw/\nw<=1000000:=by
 unfold ALW at h;by_cases hc:AL3 ns=0
 . rw [if_neg (by simp [hc])] at h
   have h2:(rgB 0 100 [r.p,r.t,r.w]&&rgB 0 1000000 [t,nw])=true:=by
     cases e:(rgB 0 100 [r.p,r.t,r.w]&&rgB 0 1000000 [t,nw]) with
     | true=>rfl
     | false=>rw [e] at h;simp at h
   rw [Bool.and_eq_true] at h2;have h3:=h2.2;simp [rgB] at h3;exact ⟨hc,h2.1,by omega,by omega⟩
 . rw [if_pos hc] at h
   exact absurd h hc
theorem AOk {p:List Pst} {r:Rts} {ns:List Nws} {t nw lt:Int} (h:AMd p r ns t nw) (hl:nw<=lt):(ALT p r ns t lt).2=0\/(ALT p r ns t lt).2=24\/(ALT p r ns t lt).2=21\/((ALT p r ns t lt).2=2/\1000000<lt):=by
 obtain ⟨c1,c2,c3,c4⟩:=AQy h.op;by_cases hb:lt<=1000000
 case neg=>
   have e:ALW r ns t lt=2:=by
     unfold ALW;rw [if_neg (by simp [c1]),c2,if_neg];simp [rgB];omega
   right;right;right;unfold ALT;rw [e,if_pos (by decide)];exact ⟨rfl,by omega⟩
 have e:ALW r ns t lt=0:=by
   unfold ALW;rw [if_neg (by simp [c1]),c2,if_pos];simp [rgB];omega
 unfold ALT;rw [if_neg (by simp [e]),h.cl,h.gu];simp only [Bool.not_true,Bool.or_false,Bool.false_eq_true,if_false];cases h3:(List.range p.length).find? fun i=>decide (ALQ ⟨ns,r,t,lt⟩ i≠0) with
 | some i=>
   have hi:i<p.length:=by simpa using List.mem_of_find?_eq_some h3
   have hz:=AMc (h.ps i hi);have:=AOj (d:=⟨ns,r,t,lt⟩) (i:=i) fun j a b=>(ANB hl (hz j a b)).1
   simp only;rcases this with h | h
   . exact .inl h
   . exact .inr (.inl h)
 | none=>
   simp only;split
   . exact .inr (.inr (.inl rfl))
   . exact .inl rfl
theorem AMz {p:List Pst} {r:Rts} {ns:List Nws} {t nw lt:Int} (h:AMd p r ns t nw) (g:AMd p r ns t lt) (hl:nw<=lt):∀ i,i<=p.length->LsN (lvK ⟨ns,r,t,lt⟩ p i) (lvK ⟨ns,r,t,nw⟩ p i)/\GsN (glK ⟨ns,r,t,lt⟩ p i) (glK ⟨ns,r,t,nw⟩ p i)
 | 0,_=>⟨trivial,trivial⟩
 | i+1,hi=>by
   obtain ⟨h1,h2⟩:=AMz h g hl i (by omega);obtain ⟨x,hx⟩:∃ x,p[i]?= some x:=⟨_,List.getElem?_eq_getElem (by omega)⟩
   have z:=AMc (h.ps i (by omega));have z':=AMc (g.ps i (by omega));have key:∀ j,1<=j->j<=4->WB (knV ⟨ns,r,t,lt⟩ i j) (knV ⟨ns,r,t,nw⟩ i j):=fun j a b=>(ANB hl (z j a b)).2 (z' j a b)
   have k1:=key 1 (by omega) (by omega);have k2:=key 2 (by omega) (by omega);rw [ALw hx,ALw hx,ALx hx,ALx hx];exact ⟨h1.append ⟨⟨rfl,k1.1,k1.2,k2.1,k2.2⟩,trivial⟩,h2.append ⟨⟨rfl,rfl,key 3 (by omega) (by omega),key 4 (by omega) (by omega)⟩,trivial⟩⟩
theorem APV {d:SnD} {i:Nat} {u:Bool}:∀ {k:Nat},ufK d i k u=false->u=false/\∀ j,1<=j->j<=k->(knV d i j).1<=(knV d i j).2
 | 0,h=>⟨h,fun j a b=>by omega⟩
 | k+1,h=>by
   have h':(ufK d i k u||decide ((knV d i (k+1)).2<(knV d i (k+1)).1))=false:=h;rw [Bool.or_eq_false_iff,decide_eq_false_iff_not] at h';obtain ⟨h1,h2⟩:=APV h'.1;refine ⟨h1,fun j a b=>?_⟩;by_cases e:j=k+1
   . rw [e];have:=h'.2;omega
   . exact h2 j a (by omega)
theorem APW {d:SnD}:∀ {n:Nat},ufA d n=false->∀ i,i<n->∀ j,1<=j->j<=4->(knV d i j).1<=(knV d i j).2
 | 0,_,i,hi=>by omega
 | n+1,h,i,hi=>by
   obtain ⟨h1,h2⟩:=APV (show ufK d n 4 (ufA d n)=false from h);by_cases e:i=n
   . rw [e];exact h2
   . exact APW h1 i (by omega)
theorem AMM {d:SnD} {p:List Pst}:∀ {n i:Nat} {x:Pst},n<=p.length->i<n->p[i]?= some x->(lvK d p n)[i]?= some ⟨x.h,(knV d i 1).1,(knV d i 1).2,(knV d i 2).1,(knV d i 2).2⟩/\(glK d p n)[i]?= some ⟨x.h,(knV d i 3).1,(knV d i 3).2,(knV d i 4).1,(knV d i 4).2,x.g⟩
 | 0,i,x,_,hi,_=>by omega
 | n+1,i,x,hn,hi,hx=>by
   obtain ⟨y,hy⟩:∃ y,p[n]?= some y:=⟨_,List.getElem?_eq_getElem (by omega)⟩
   have l1:=ALY (d:=d) (p:=p) (i:=n) (by omega);have l2:=ALZ (d:=d) (p:=p) (i:=n) (by omega);rw [ALw hy,ALx hy];by_cases e:i=n
   . subst e
     rw [hx] at hy;cases hy;rw [List.getElem?_append_right (by omega),List.getElem?_append_right (by omega),l1,l2,Nat.sub_self];exact ⟨rfl,rfl⟩
   . rw [List.getElem?_append_left (by omega),List.getElem?_append_left (by omega)]
     exact AMM (by omega) (by omega) hx
theorem AOl {p:List Pst} {r:Rts} {ns:List Nws} {t nw:Int} (h:AMd p r ns t nw):GC (lvK ⟨ns,r,t,nw⟩ p p.length)=true/\Dr (glK ⟨ns,r,t,nw⟩ p p.length)=true:=by
 have huf:=APW h.uf;have l1:=ALY (d:=⟨ns,r,t,nw⟩) (p:=p) (Nat.le_refl _);have l2:=ALZ (d:=⟨ns,r,t,nw⟩) (p:=p) (Nat.le_refl _);have hcl:=h.cl;have hgu:=h.gu;unfold AMR at hcl;rw [Bool.and_eq_true,List.all_eq_true] at hcl;obtain ⟨hc1,hc2⟩:=hcl;have hst:∀ i,i<p.length->ALh p i=true:=fun i hi=>hc1 i (by simpa using hi)
 have hV:∀ i k,(y3 k).1<=(knV ⟨ns,r,t,nw⟩ i k).1/\(knV ⟨ns,r,t,nw⟩ i k).2<=(y3 k).2:=fun i k=>by unfold knV;simp only;omega
 have q1:y3 1=(1000,12000):=rfl;have q2:y3 2=(1500,3500):=rfl;have q3:y3 3=(-1000,1000):=rfl;have q4:y3 4=(-1000,1000):=rfl;refine ⟨?_,?_⟩
 . unfold GC FG
   rw [l1,hc2,Bool.and_true,Bool.and_eq_true,List.all_eq_true,List.all_eq_true];refine ⟨fun i hi=>?_,fun x hx=>?_⟩
   . have hi':i<p.length:=by simpa using hi
     obtain ⟨x,hx⟩:=gE hi';have:=hst i hi';unfold ALh at this;unfold Dy;rw [hx] at this;rw [(AMM (Nat.le_refl _) hi' hx).1];simp only at this ⊢;by_cases h0:i=0
     . rw [if_pos h0] at this ⊢;exact this
     . obtain ⟨y,hy⟩:∃ y,p[i-1]?= some y:=⟨_,List.getElem?_eq_getElem (by omega)⟩
       rw [if_neg h0,hy] at this;rw [if_neg h0,(AMM (Nat.le_refl _) (by omega) hy).1];exact this
   . obtain ⟨i,hi⟩:=List.getElem?_of_mem hx
     have hi':i<p.length:=by have:=(List.getElem?_eq_some_iff.1 hi).1;omega
     obtain ⟨y,hy⟩:=gE hi';rw [(AMM (Nat.le_refl _) hi' hy).1] at hi;cases hi;have v1:=hV i 1;have v2:=hV i 2;have u1:=huf i hi' 1 (by omega) (by omega);have u2:=huf i hi' 2 (by omega) (by omega);rw [q1] at v1;rw [q2] at v2;unfold Ij;rw [Bool.and_eq_true,CC,CC];simp only at v1 v2 ⊢;omega
 . unfold Dr
   rw [l2,Bool.and_eq_true,List.all_eq_true];refine ⟨by simp [rgB] at hc2 ⊢;omega,fun i hi=>?_⟩;have hi':i<p.length:=by simpa using hi
   obtain ⟨x,hx⟩:=gE hi';have hs:=hst i hi'
   have hg:rgB 0 500 [x.g]=true:=by
     have:=List.any_eq_false.1 hgu x (List.mem_of_getElem? hx);simpa using this
   have v1:=hV i 3;have v2:=hV i 4;have u1:=huf i hi' 3 (by omega) (by omega);have u2:=huf i hi' 4 (by omega) (by omega);rw [q3] at v1;rw [q4] at v2;unfold ALh at hs;unfold AAU;rw [hx] at hs;rw [(AMM (Nat.le_refl _) hi' hx).2];simp only [Bool.and_eq_true,CC] at hs v1 v2 ⊢;refine ⟨⟨⟨⟨hs.1,?_⟩,hg⟩,by omega⟩,by omega⟩;by_cases h0:i=0
   . rw [if_pos h0]
   . obtain ⟨y,hy⟩:∃ y,p[i-1]?= some y:=⟨_,List.getElem?_eq_getElem (by omega)⟩
     have h2:=hs.2;rw [if_neg h0,hy] at h2;rw [if_neg h0,(AMM (Nat.le_refl _) (by omega) hy).2];simp [rgB] at h2;simp only [decide_eq_true_eq];omega
theorem AOm {p:List Pst} {rt:Rts} {ns:List Nws} {t nw lt:Int} (h:AMd p rt ns t nw) (g:AMd p rt ns t lt) (hl:nw<=lt) {r:Rig} {s:Shp} {l:List Leg} {ts:List Shp} (hf:HA ⟨lvK ⟨ns,rt,t,nw⟩ p p.length,glK ⟨ns,rt,t,nw⟩ p p.length⟩ r s l= .ok ts):
   (HA ⟨lvK ⟨ns,rt,t,lt⟩ p p.length,glK ⟨ns,rt,t,lt⟩ p p.length⟩ r s l= .error (50,ev0)/\(D3 (lvK ⟨ns,rt,t,lt⟩ p p.length)).2.2=21)\/∃ ss,HA ⟨lvK ⟨ns,rt,t,lt⟩ p p.length,glK ⟨ns,rt,t,lt⟩ p p.length⟩ r s l= .ok ss/\fR ss ts/\(∀ x∈ss,A6 x=true)/\∀ x∈ts,A6 x=true:=by
 obtain ⟨hT,hs,hx,⟨l1,l2⟩,hR,hK⟩:=cj hf;obtain ⟨v1,v2⟩:=AOl g;have hn:AOB ⟨lvK ⟨ns,rt,t,lt⟩ p p.length,glK ⟨ns,rt,t,lt⟩ p p.length⟩ ⟨lvK ⟨ns,rt,t,nw⟩ p p.length,glK ⟨ns,rt,t,nw⟩ p p.length⟩:=⟨(AMz h g hl _ (Nat.le_refl _)).1,(AMz h g hl _ (Nat.le_refl _)).2⟩
 have hchk:C0 l=0:=by
   unfold HA at hf;split at hf
   . rename_i ha
     unfold JC at ha;rw [hT.sky,hR,hs] at ha;simp only [if_true] at ha;by_cases e:C0 l=0
     . exact e
     . rw [if_neg e] at ha;exact absurd ha e
   . cases hf
 generalize lvK ⟨ns,rt,t,nw⟩ p p.length=L at*
 generalize glK ⟨ns,rt,t,nw⟩ p p.length=G at*
 generalize lvK ⟨ns,rt,t,lt⟩ p p.length=L' at*
 generalize glK ⟨ns,rt,t,lt⟩ p p.length=G' at*
 by_cases hk:BV ⟨L',G'⟩=true
 . right
   obtain ⟨ss,h1,h2⟩:=AN1 hn hk hT hx hs hs (dI.refl s) hK;have hT':Va ⟨L',G'⟩ r:=⟨hk,hT.rig,AMp hn hT.rng⟩
   have h3:HA ⟨L',G'⟩ r s l= .ok ss:=by
     unfold HA;rw [if_pos,h1];unfold JC;rw [hk,hR,hs,hchk,hT'.rng];rfl
   exact ⟨ss,h3,h2,ZD hT' hx hs h1,ZD hT hx hs hK⟩
 . left
   have hs2:¬ (D3 L').2.2=0:=fun e=>hk (by unfold BV;rw [e,v2];rfl)
   refine ⟨?_,?_⟩
   . unfold HA JC
     rw [if_neg (by rw [if_neg hk];decide),if_neg hk]
   . unfold D3 at hs2 ⊢
     rw [v1,if_pos rfl] at hs2 ⊢;split at hs2
     . rename_i h4;rw [if_pos h4]
     . exact absurd rfl hs2
end Go.Proofs.Tryz
namespace Go.Proofs.Tryz
open Go.Psl
open Go.Air
theorem AQZ:∀ x:Nws,(nwL x).length=6:=fun _=>rfl
theorem AOo (i:Nat):toK (i+1)=toK i++[⟨(i/4:Nat),(i%4+1:Nat),0,0,((toV[i]?).getD (0,0)).1,((toV[i]?).getD (0,0)).2⟩]:=by
 unfold toK;rw [List.range_succ,List.map_append];rfl
theorem APf (i:Nat):(toK i).length=i+1:=by simp [toK]
abbrev toB:List V:=[vi 9990,vi 10010,vi 2790,vi 2810,vi (-5),vi 5,vi 0,vi 0,vi 8800,vi 8900,vi 2790,vi 2810,vi (-5),vi 5,vi 0,vi 0]
theorem AQ7:Ct prog 27 [] (.tup [.ls 0 0 2 2, .ls 1 0 9 6]) [(0,[vi 0,vi 0,vi 1000,vi 0]),(1,AH nwL (toK 8))]:=by
 refine CB func27 c27 fun E hE=>?_
 simp [p27,AA,AM];refine Al (α:=Nat) (fun i=>⟨AO [(2, .ls 0 0 (toK i).length 6),(16, .ls 1 0 8 2),(17,vi 8),(18,vi i)],lk [(0,AH nwL (toK i)),(1,toB)],2⟩) (fun i=>i<=8) (fun i=>8-i) 0 ?_ ?_ ?_
 . omega
 . refine AI.mk hE (lk [(0,4194304),(1,14680064)]) _ _ _ ?_ ?_ ?_ ?_ ?_<;>simp [AH,toK]
 . intro i hi
   have w:∀ k:Int,0<=k->k<=8->IntKind.wrap .i64 k=k:=fun k h1 h2=>AD (by omega) (by omega)
   have h9:i=0\/i=1\/i=2\/i=3\/i=4\/i=5\/i=6\/i=7\/i=8:=by omega
   have s1:=Aw AQZ (toK i);have s2:=E9 AQZ (toK i);have s3:=APf i;have s4:=AOo i;have m1:((toK i).length+1)*48<=140737488355328:=by omega
   have m2:(toK i).length+1<=9223372036854775807:=by omega
   rcases h9 with rfl | rfl | rfl | rfl | rfl | rfl | rfl | rfl | rfl
   . generalize toK 0=T at*
     have s5:List.take 6 (AH nwL T)=AH nwL T:=by rw [s3] at s2;exact s2
     simp [ABJ,AA,AM,s1,s3,s5,w];refine ⟨1,by omega,by omega,?_⟩;rw [show toK 1=_ from s4,IV];refine AI.mk hE (lk [(0,16777218),(1,1)]) _ _ _ ?_ ?_ ?_ ?_ ?_<;>simp [toV,s3]
   . generalize toK 1=T at*
     have s5:List.take 12 (AH nwL T)=AH nwL T:=by rw [s3] at s2;exact s2
     simp [ABJ,AA,AM,s1,s3,s5,w];refine ⟨2,by omega,by omega,?_⟩;rw [show toK 2=_ from s4,IV];refine AI.mk hE (lk [(0,16777218),(1,1)]) _ _ _ ?_ ?_ ?_ ?_ ?_<;>simp [toV,s3]
   . generalize toK 2=T at*
     have s5:List.take 18 (AH nwL T)=AH nwL T:=by rw [s3] at s2;exact s2
     simp [ABJ,AA,AM,s1,s3,s5,w];refine ⟨3,by omega,by omega,?_⟩;rw [show toK 3=_ from s4,IV];refine AI.mk hE (lk [(0,16777218),(1,1)]) _ _ _ ?_ ?_ ?_ ?_ ?_<;>simp [toV,s3]
   . generalize toK 3=T at*
     have s5:List.take 24 (AH nwL T)=AH nwL T:=by rw [s3] at s2;exact s2
     simp [ABJ,AA,AM,s1,s3,s5,w];refine ⟨4,by omega,by omega,?_⟩;rw [show toK 4=_ from s4,IV];refine AI.mk hE (lk [(0,16777218),(1,1)]) _ _ _ ?_ ?_ ?_ ?_ ?_<;>simp [toV,s3]
   . generalize toK 4=T at*
     have s5:List.take 30 (AH nwL T)=AH nwL T:=by rw [s3] at s2;exact s2
     simp [ABJ,AA,AM,s1,s3,s5,w];refine ⟨5,by omega,by omega,?_⟩;rw [show toK 5=_ from s4,IV];refine AI.mk hE (lk [(0,16777218),(1,1)]) _ _ _ ?_ ?_ ?_ ?_ ?_<;>simp [toV,s3]
   . generalize toK 5=T at*
     have s5:List.take 36 (AH nwL T)=AH nwL T:=by rw [s3] at s2;exact s2
     simp [ABJ,AA,AM,s1,s3,s5,w];refine ⟨6,by omega,by omega,?_⟩;rw [show toK 6=_ from s4,IV];refine AI.mk hE (lk [(0,16777218),(1,1)]) _ _ _ ?_ ?_ ?_ ?_ ?_<;>simp [toV,s3]
   . generalize toK 6=T at*
     have s5:List.take 42 (AH nwL T)=AH nwL T:=by rw [s3] at s2;exact s2
     simp [ABJ,AA,AM,s1,s3,s5,w];refine ⟨7,by omega,by omega,?_⟩;rw [show toK 7=_ from s4,IV];refine AI.mk hE (lk [(0,16777218),(1,1)]) _ _ _ ?_ ?_ ?_ ?_ ?_<;>simp [toV,s3]
   . generalize toK 7=T at*
     have s5:List.take 48 (AH nwL T)=AH nwL T:=by rw [s3] at s2;exact s2
     simp [ABJ,AA,AM,s1,s3,s5,w];refine ⟨8,by omega,by omega,?_⟩;rw [show toK 8=_ from s4,IV];refine AI.mk hE (lk [(0,16777218),(1,1)]) _ _ _ ?_ ?_ ?_ ?_ ?_<;>simp [toV,s3]
   . simp [ABJ,AA,AM]
     refine AB.by (lk [(0,3145730),(1,0)]) ?_;simp [results27,s3]
theorem fn27:Ct prog 27 [] (.tup [.d (ALO toP), .d (ALV (toK 8))]) []:=by
 refine Cm.freeze AQ7 ?_;have k1:=ANE (H:=lk [(0,[vi 0,vi 0,vi 1000,vi 0]),(1,AH nwL (toK 8))]) (b:=0) (f:=AO9) (sz:=2) (fun _=>rfl) (l:=toP) (by simp [AH,toP]);have k2:=ANE (H:=lk [(0,[vi 0,vi 0,vi 1000,vi 0]),(1,AH nwL (toK 8))]) (b:=1) AQZ (l:=toK 8) (by simp);exact ⟨k1,k2,trivial⟩
theorem fn24 (n:Int):Ct prog 24 [vi n] (vsp n n) []:=by
 refine CB func24 c24 fun E hE=>?_
 simp [p24,AA];apply RZ;simp [results24]
theorem fn19 (a b:Int):Ct prog 19 [vi a,vi b] (Fj (plR a b)) []:=by
 refine Cm.freeze (?_:Ct prog 19 [vi a,vi b] (.agg [.ls 0 0 2 2,vi 0,vi 0,vi 0,vi 0,vi a,vi b]) [(0,AH spL plReg)]) ?_
 . refine CB func19 c19 fun E hE=>?_
   simp [p19,AA,AM];refine AB.by (lk [(0,3145728)]) ?_;simp [results19,AH,plReg]
 . have k1:=ANE (H:=lk [(0,AH spL plReg)]) (b:=0) (f:=spL) (sz:=2) (fun _=>rfl) (l:=plReg) (by simp)
   have z:∀ (H:Hp) (x:Int),FzC H (vi x) (vi x):=fun H x=>⟨_,rfl, .inl rfl⟩
   exact ⟨⟨_,rfl,k1⟩,z _ _,z _ _,z _ _,z _ _,z _ _,z _ _,trivial⟩
theorem RD.nilS {Im:Nat->Prop} {W:World} {v:Value} {sz:Nat} (h:RD Im W (.lit (.slice none 0 0)) v):RD Im W (.sl sz []) v:=by
 cases h;exact .sl sz [] none 0 (fun _ _=> .bool true) (by simp) (by simp) (by simp) (by simp) (by simp)
theorem RD.rows {Im:Nat->Prop} {W:World} {sz:Nat} {es es':List (List D)} {v:Value} (h:RD Im W (.sl sz es') v) (hl:es'.length=es.length) (hr:∀ (i:Nat) e e',es[i]?= some e->es'[i]?= some e'->e.length=e'.length/\∀ (j:Nat) x x',e[j]?= some x->e'[j]?= some x'->x'=x\/(x'= .lit (.slice none 0 0)/\∃ z,x= .sl z [])):RD Im W (.sl sz es) v:=by
 cases h with
 | sl _ _ ao cap vs hsz hlen hcap hm hv=>
   rw [hl];have get:∀ (i:Nat) e,es[i]?= some e->∃ e',es'[i]?= some e':=fun i e he=>⟨_,List.getElem?_eq_getElem (by rw [hl];exact (List.getElem?_eq_some_iff.1 he).1)⟩
   have getj:∀ (i:Nat) e e',es[i]?= some e->es'[i]?= some e'->∀ (j:Nat) x,e[j]?= some x->∃ x',e'[j]?= some x':=fun i e e' he he' j x hx=>⟨_,List.getElem?_eq_getElem (by rw [<-(hr i e e' he he').1];exact (List.getElem?_eq_some_iff.1 hx).1)⟩
   refine .sl sz es ao cap vs (fun e he=>?_) (by rw [<-hl];exact hlen) (by rw [<-hl];exact hcap) (fun i e he=>?_) fun i e he j x hx=>?_
   . obtain ⟨i,hi⟩:=List.getElem?_of_mem he
     obtain ⟨e',he'⟩:=get i e hi;rw [(hr i e e' hi he').1];exact hsz e' (List.mem_of_getElem? he')
   . obtain ⟨e',he'⟩:=get i e he
     obtain ⟨a,h1,h2,h3⟩:=hm i e' he';refine ⟨a,h1,h2,fun j x hx=>?_⟩;obtain ⟨x',hx'⟩:=getj i e e' he he' j x hx;exact h3 j x' hx'
   . obtain ⟨e',he'⟩:=get i e he
     obtain ⟨x',hx'⟩:=getj i e e' he he' j x hx;have:=hv i e' he' j x' hx';rcases (hr i e e' he he').2 j x x' hx hx' with h | ⟨h,z,hz⟩
     . rw [<-h];exact this
     . rw [h] at this
       rw [hz];exact RD.nilS this
theorem Cm.le {P:Program} {f:FuncId} {args args':List V} {Hin:Hp} {ks:List Nat} {res:Res} {H1:Hp} (h:Cm P f args Hin ks res H1) (hle:AJ (fun a' a=>∀ (G:Gh) (W:World) (v:Value),R2 G W a' v->R2 G W a v) args' args):Cm P f args' Hin ks res H1:=by
 refine ⟨h.1,fun G W xs him hargs hpre=>h.2 G W xs him ?_ hpre⟩
 exact AJ.of_get (by rw [<-hle.length,hargs.length]) fun i a x ha hx=>by
   obtain ⟨a',ha',hr⟩:=hle.get2 ha;obtain ⟨y,hy,hry⟩:=hargs.get ha';rw [hx] at hy;cases hy;exact hr G W _ hry
abbrev nuV (m v:Int):List V:=[vi m,vi v,vi v,vi 0,vi 0,vi 0,vi 0,vi 0,vi 0,vi 0,Nv]
theorem AQa {k:Sky} {r:Rig} {s:Shp} {m v:Int} {R:V} (h:Ct prog 11 [Eu k,Fj r,Cl s (.d (AX s.gas.cs)), .d (Bs [nuL m v])] R []) (b:Nat):Cm prog 11 [Eu k,Fj r,Cl s (.d (AX s.gas.cs)), .ls b 0 1 11] (lk [(b,nuV m v)]) [] (.ret R) (lk []):=by
 have h2:Ct prog 11 [Eu k,Fj r,Cl s (.d (AX s.gas.cs)), .d (.sl 11 [[di m,di v,di v,di 0,di 0,di 0,di 0,di 0,di 0,di 0, .lit (.slice none 0 0)]])] R []:=by
   refine Cm.le h ⟨fun _ _ _ h=>h,fun _ _ _ h=>h,fun _ _ _ h=>h,fun G W x hx=>?_,trivial⟩;refine RD.rows (es':=[[di m,di v,di v,di 0,di 0,di 0,di 0,di 0,di 0,di 0, .lit (.slice none 0 0)]]) hx rfl fun i e e' he he'=>?_
   cases i with
   | succ i=>simp at he
   | zero=>
     simp at he he';subst he he';refine ⟨rfl,fun j x x' h1 h2=>?_⟩;by_cases hj:j<10
     . left
       have hj10:j=0\/j=1\/j=2\/j=3\/j=4\/j=5\/j=6\/j=7\/j=8\/j=9:=by omega
       rcases hj10 with rfl | rfl | rfl | rfl | rfl | rfl | rfl | rfl | rfl | rfl<;>simp [nuL] at h1 h2<;>rw [<-h1,<-h2]
     . right
       have hl:=(List.getElem?_eq_some_iff.1 h1).1;have e:j=10:=by simp at hl;omega
       subst e;simp [nuL] at h1 h2;exact ⟨h2.symm,4,h1.symm⟩
 have hb:Bor (lk [(b,nuV m v)]) (.ls b 0 1 11) (.d (.sl 11 [[di m,di v,di v,di 0,di 0,di 0,di 0,di 0,di 0,di 0, .lit (.slice none 0 0)]])):=by
   rw [Bk];exact ⟨rfl,rfl,by simp,_,by simp [lk];rfl,rfl⟩
 exact Cm.give h2 ⟨lm k,ln r,lq s,hb,trivial⟩
theorem fn6 (hS:SortOk):Ct prog 6 [] (vb true) []:=by
 have c1:=fn27;have s1:=AQH toP ⟨0,0,0⟩ (toK 8) 10 0 (by decide) (by decide);have s2:=AQH toP ⟨0,0,0⟩ (toK 8) 10 10 (by decide) (by decide);rw [show ALT toP ⟨0,0,0⟩ (toK 8) 10 0=_ from AQq] at s1;rw [show ALT toP ⟨0,0,0⟩ (toK 8) 10 10=_ from AP2] at s2;have o:=fn24 100;have pl:=fn19 0 1000;have f:=AQz hS adK (plR 0 1000) (nuS 0 0 100) [nuL 2 100] (by decide) (by decide) (by decide) (by decide) (by decide) (by decide);rw [AQt] at f;simp only [AFC,Lp,F6] at f;have f:=fun b=>AQa f b
 refine CB func6 c6 fun E hE=>?_
 simp [p6];refine CLa c1 ?_;simp;refine CLa s1 ?_;simp;refine CLa s2 ?_;simp;refine CLa o ?_;simp [AA];refine AL [(9,42991616),(16,49283072)] (by kernel_rfl) ?_;simp [AA,inC,Nat.testBit];refine CLa pl ?_;simp [inC,Nat.testBit];refine CLa o ?_;simp [AA,AM,inC,Nat.testBit];refine CDs (f 42991616) (by simp [wrL,inC,Nat.testBit,nuS,nuP,adK,plR]) ?_;simp [AA,inC,Nat.testBit,ev0,nuS,adL];apply RZ;simp [results6]
theorem ASR {l:List Leg} (h:grL l=false):l.length<=30/\∀ x∈l,x.acts.length<=20:=by
 rw [M6] at h;simp only [Bool.or_eq_false_iff,decide_eq_false_iff_not,List.any_eq_false,decide_eq_true_eq] at h;obtain ⟨⟨h5,h6⟩,_⟩:=h;exact ⟨by omega,fun x hx=>by have:=h6 x hx;omega⟩
theorem fn3 (hS:SortOk) (p:List Pst) (rt:Rts) (ns:List Nws) (t nw lt:Int) (r:Rig) (s:Shp) (l:List Leg):Ct prog 3 [.d (ALO p),AMT rt, .d (ALV ns),vi t,vi nw,vi lt,Fj r,Cl s (.d (AX s.gas.cs)), .d (Bs l)] (vb true) []:=by
 have d0:=fn6 hS;by_cases h1:(24:Int)<p.length
 . refine CB func3 c3 fun E hE=>?_
   simp [p3];refine CLa d0 ?_;simp [h1];apply RZ;simp [results3]
 by_cases h2:(120:Int)<ns.length
 . refine CB func3 c3 fun E hE=>?_
   simp [p3];refine CLa d0 ?_;simp [h1,h2];apply RZ;simp [results3]
 have d1:=fn7 r;by_cases h3:80<r.reg.length
 . refine CB func3 c3 fun E hE=>?_
   simp [p3];refine CLa d0 ?_;simp [h1,h2];refine CLa d1 ?_;simp [h3];apply RZ;simp [results3]
 have d2:=fn8 s;by_cases h4:20<s.gas.cs.length
 . refine CB func3 c3 fun E hE=>?_
   simp [p3];refine CLa d0 ?_;simp [h1,h2];refine CLa d1 ?_;simp [h3];refine CLa d2 ?_;simp [h4];apply RZ;simp [results3]
 have d3:=fn9 l;cases h5:grL l
 case true=>
   rw [h5] at d3;refine CB func3 c3 fun E hE=>?_
   simp [p3];refine CLa d0 ?_;simp [h1,h2];refine CLa d1 ?_;simp [h3];refine CLa d2 ?_;simp [h4];refine CLa d3 ?_;simp;apply RZ;simp [results3]
 rw [h5] at d3;by_cases h6:lt<nw
 . refine CB func3 c3 fun E hE=>?_
   simp [p3];refine CLa d0 ?_;simp [h1,h2];refine CLa d1 ?_;simp [h3];refine CLa d2 ?_;simp [h4];refine CLa d3 ?_;simp [h6];apply RZ;simp [results3]
 obtain ⟨hl1,hl2⟩:=ASR h5;have s1:=AQH p rt ns t nw (by omega) (by omega);have s2:=AQH p rt ns t lt (by omega) (by omega);by_cases e1:(ALT p rt ns t nw).2=0
 case neg=>
   refine CB func3 c3 fun E hE=>?_
   simp [p3];refine CLa d0 ?_;simp [h1,h2];refine CLa d1 ?_;simp [h3];refine CLa d2 ?_;simp [h4];refine CLa d3 ?_;simp [h6];refine CLa s1 ?_;simp [e1];apply RZ;simp [results3]
 have o1:=APU e1;by_cases e2:(ALT p rt ns t lt).2=0
 case neg=>
   have hc:=AOk o1 (by omega:nw<=lt);rcases hc with hc | hc | hc | ⟨hc,hb⟩
   . exact absurd hc e2
   . refine CB func3 c3 fun E hE=>?_
     simp [p3];refine CLa d0 ?_;simp [h1,h2];refine CLa d1 ?_;simp [h3];refine CLa d2 ?_;simp [h4];refine CLa d3 ?_;simp [h6];refine CLa s1 ?_;simp [e1];refine CLa s2 ?_;simp [hc];apply RZ;simp [results3]
   . refine CB func3 c3 fun E hE=>?_
     simp [p3];refine CLa d0 ?_;simp [h1,h2];refine CLa d1 ?_;simp [h3];refine CLa d2 ?_;simp [h4];refine CLa d3 ?_;simp [h6];refine CLa s1 ?_;simp [e1];refine CLa s2 ?_;simp [hc];apply RZ;simp [results3]
   . refine CB func3 c3 fun E hE=>?_
     simp [p3];refine CLa d0 ?_;simp [h1,h2];refine CLa d1 ?_;simp [h3];refine CLa d2 ?_;simp [h4];refine CLa d3 ?_;simp [h6];refine CLa s1 ?_;simp [e1];refine CLa s2 ?_;simp [hc,hb];apply RZ;simp [results3]
 have o2:=APU e2;rw [o1.eq] at s1;rw [o2.eq] at s2;have hL:=ALY (d:=⟨ns,rt,t,nw⟩) (p:=p) (Nat.le_refl _);have hG:=ALZ (d:=⟨ns,rt,t,nw⟩) (p:=p) (Nat.le_refl _);have hL2:=ALY (d:=⟨ns,rt,t,lt⟩) (p:=p) (Nat.le_refl _);have hG2:=ALZ (d:=⟨ns,rt,t,lt⟩) (p:=p) (Nat.le_refl _);have hlf:=fun {ts:List Shp} (hf:HA ⟨lvK ⟨ns,rt,t,nw⟩ p p.length,glK ⟨ns,rt,t,nw⟩ p p.length⟩ r s l= .ok ts)=>AOm o1 o2 (by omega) hf
 have f1:=AQz hS ⟨lvK ⟨ns,rt,t,nw⟩ p p.length,glK ⟨ns,rt,t,nw⟩ p p.length⟩ r s l (by show (lvK _ _ _).length<=_;omega) (by show (glK _ _ _).length<=_;omega) (by omega) (by omega) (by omega) fun x hx=>by have:=hl2 x hx;omega
 have f2:=AQz hS ⟨lvK ⟨ns,rt,t,lt⟩ p p.length,glK ⟨ns,rt,t,lt⟩ p p.length⟩ r s l (by show (lvK _ _ _).length<=_;omega) (by show (glK _ _ _).length<=_;omega) (by omega) (by omega) (by omega) fun x hx=>by have:=hl2 x hx;omega
 have st:=AQE (lvK ⟨ns,rt,t,lt⟩ p p.length) (by omega)
 generalize lvK ⟨ns,rt,t,nw⟩ p p.length=L at*
 generalize glK ⟨ns,rt,t,nw⟩ p p.length=G at*
 generalize lvK ⟨ns,rt,t,lt⟩ p p.length=L' at*
 generalize glK ⟨ns,rt,t,lt⟩ p p.length=G' at*
 cases hf:HA ⟨L,G⟩ r s l with
 | error e=>
   have he:=iT hf;rw [hf] at f1;simp only [AFC,Lp,F6] at f1;refine CB func3 c3 fun E hE=>?_
   simp [p3];refine CLa d0 ?_;simp [h1,h2];refine CLa d1 ?_;simp [h3];refine CLa d2 ?_;simp [h4];refine CLa d3 ?_;simp [h6];refine CLa s1 ?_;simp;refine CLa s2 ?_;simp [AA];refine CLa f1 ?_;simp [AA,he];apply RZ;simp [results3]
 | ok ts=>
   rw [hf] at f1;simp only [AFC,Lp,F6] at f1;rcases hlf hf with ⟨hf2,h21⟩ | ⟨ss,hf2,hN,hok1,hok2⟩
   . rw [hf2] at f2
     simp only [AFC,Lp,F6] at f2
     generalize D3 L'=S at*
     obtain ⟨S1,S2,S3⟩:=S;simp only at h21;subst h21;unfold gz at st;simp only at st;refine CB func3 c3 fun E hE=>?_
     simp [p3];refine CLa d0 ?_;simp [h1,h2];refine CLa d1 ?_;simp [h3];refine CLa d2 ?_;simp [h4];refine CLa d3 ?_;simp [h6];refine CLa s1 ?_;simp;refine CLa s2 ?_;simp [AA];refine CLa f1 ?_;simp [AA];refine CLa f2 ?_;simp [AA];refine CLa st ?_;simp;apply RZ;simp [results3]
   . rw [hf2] at f2
     simp only [AFC,Lp,F6] at f2;obtain ⟨hlen,hat⟩:=hN.at;obtain ⟨_,_,hlx,⟨l1,l2⟩,_,hK⟩:=cj hf;have hlen2:=TM hK;have hml:=Kv (i:=0) hlx;have hnl:ts.length<=600:=by omega
     refine CB func3 c3 fun E hE=>?_
     simp [p3];refine CLa d0 ?_;simp [h1,h2];refine CLa d1 ?_;simp [h3];refine CLa d2 ?_;simp [h4];refine CLa d3 ?_;simp [h6];refine CLa s1 ?_;simp;refine CLa s2 ?_;simp [AA];refine CLa f1 ?_;simp [AA];refine CLa f2 ?_;simp [AA,hlen];refine Al (α:=Nat) (fun i=>⟨AO [(19,vb true),(25, .d (cD ts)),(27, .d (cD ss)),(156,vi ts.length),(157,vi i)],lk [],0⟩) (fun i=>i<=ts.length) (fun i=>ts.length-i) 0 ?_ ?_ ?_
     . omega
     . exact WK hE (lk [])
     . intro j hj
       by_cases hjl:j<ts.length
       . obtain ⟨c,hc⟩:=gE hjl
         obtain ⟨n,hn'⟩:∃ n,ss[j]?= some n:=⟨_,List.getElem?_eq_getElem (by omega)⟩
         have hjI:(j:Int)<ts.length:=by omega
         have hjN:(j:Int)<ss.length:=by omega
         have hz:=@wz j (by omega);have hno:=hok1 n (List.mem_of_getElem? hn');have hco:=hok2 c (List.mem_of_getElem? hc);have cH:=fn13 c n (by have:=CS (CR hco);omega) (by have:=CS (CR hno);omega)
         have eH:AEs c n=(true,0):=by
           unfold AEs;rw [hno,hco];simp only [Bool.and_self,if_true];rw [AEU.2 (hat j n c hn' hc)]
         rw [eH] at cH;simp [AQv,hjI,hc,hn',inC,Nat.testBit];refine CLa cH ?_;simp [hz];refine ⟨j+1,by omega,by omega,?_⟩;exact WK hE (lk [])
       . have hjI:¬ (j:Int)<ts.length:=by omega
         simp [AQv,hjI];apply RZ;simp [results3]
end Go.Proofs.Tryz
namespace Go.Psl
open Go.Shelf Go.RowKit Go.Lib Go.Sort
variable {P:Program} {ρ:Ren} {α:Type} [Inhabited α]
theorem dJ {W W':World} (hos:W'.os=W.os) (hta:W'.tape=W.tape) (hou:W'.output=W.output) (hdr:W.drawn<=W'.drawn) (hsz:W.heap.size<=W'.heap.size) (hb:∀ b,b<W.heap.size->W'.heap[b]?= W.heap[b]?):
   ∃ q os',W'=grow (W.drewN q) os':=by
 refine ⟨W'.drawn-W.drawn,W'.heap.extract W.heap.size W'.heap.size,?_⟩;obtain ⟨h,t,d,o,u⟩:=W;obtain ⟨h',t',d',o',u'⟩:=W';simp only at hos hta hou hdr hsz hb;subst hos hta hou;simp only [grow,World.drewN];congr 1
 . apply Array.ext_getElem?
   intro i;by_cases hi:i<h.size
   . rw [Array.getElem?_append_left hi,hb i hi]
   . rw [Array.getElem?_append_right (by omega),Array.getElem?_extract]
     split
     . congr 1;omega
     . rw [Array.getElem?_eq_none (by omega)]
 . omega
theorem Mg {enc:α->List Value} {k:Nat} (h0:0<k) (hk:∀ x,(enc x).length=k) (l:List α) (j:Nat) (hj:j<l.length*k):(l.flatMap enc)[j]?= some (flatK enc k l.toArray)[j]! :=by
 rw [get_flatK _ _ _ _ (by simpa using hj),List.flatMap_def,CI h0 _ (fun e he=>by obtain ⟨x,_,rfl⟩:=List.mem_map.1 he;exact hk x)];have h1:j/k<l.length:=by rw [Nat.div_lt_iff_lt_mul h0];exact hj
 have hm:j%k<k:=Nat.mod_lt _ h0;rw [List.getElem?_map,List.getElem?_eq_getElem h1];simp only [Option.map_some,Option.bind_some];have e1:l.toArray[j/k]! =l[j/k]:=by rw [getElem!_pos _ _ (by simpa using h1)];simp
 rw [e1,List.getElem?_eq_getElem (by rw [hk];exact hm),getElem!_pos _ _ (by rw [hk];exact hm)]
omit [Inhabited α] in
theorem N2 {enc:α->List Value} {k:Nat} (hk:∀ x,(enc x).length=k) (l:List α):(l.flatMap enc).length=l.length*k:=by
 rw [List.flatMap_def,B3 (sz:=k) _ (fun e he=>by obtain ⟨x,_,rfl⟩:=List.mem_map.1 he;exact hk x),List.length_map]
theorem Wo {G:Gh} {W:World} {vs:List Value} (h:∀ v∈vs,CU v=true):AJ (R1 G W) (vs.map cV) vs:=by
 induction vs with
 | nil=>trivial
 | cons v vs ih=>exact ⟨RD.lit v (h v (by simp)),ih fun x hx=>h x (by simp [hx])⟩
theorem APg {W:World}:GW (fun _=>False) W:=⟨fun _ h=>h.elim,{W with heap:= #[]},fun g hg=>by simp [AQk] at hg,fun k hk=>by simp at hk⟩
theorem P6 {g:Nat} {enc:α->List Value} {k:Nat} {cf:α->α->Int} (hflat:∀ x,∀ v∈enc x,CU v=true) (hcmp:∀ x y,Ct P g [.agg ((enc x).map cV), .agg ((enc y).map cV)] (.d (.lit (.int .i64 (cf x y)))) []) (blk off size:Nat) (w:World):Go.Proofs.CmpLays P g #[] enc k cf blk off size w:=by
 intro m os dk _ x y;refine ((hcmp x y).2 ⟨fun _=>0,fun _=>0,fun _=>true,fun _=>true,fun _=>False⟩ _ #[.agg (enc x).toArray, .agg (enc y).toArray] APg ⟨⟨_,rfl,Wo (hflat x)⟩,⟨_,rfl,Wo (hflat y)⟩,trivial⟩ ⟨nofun,fun i _ h=>by simp [InH] at h,nofun⟩).mono fun e W' ⟨G',hp⟩=>?_
 refine ⟨?_,dJ hp.os hp.tape hp.output hp.drawn hp.size fun b hb=>hp.block b hb fun ⟨_,h,_⟩=>by simp [InH] at h⟩;cases e with
 | returned v=>rw [Cg hp.rv]
 | _=>exact hp.rv.elim
theorem N3 (L:Go.Proofs.SlLaysF0.n6 P ρ) (hf:fF P (ρ.f 6)) (k:Nat) (h0:0<k) (aE:∀ w,(isAgg (ρ.t 24)).run P w= .ok true w) (zE:∀ w,(Go.sizeOf (ρ.t 24)).run P w= .ok k w) (enc:α->List Value) (hk:∀ x,(enc x).length=k) (hflat:∀ x,∀ v∈enc x,CU v=true) (cf:α->α->Int) (hO:SWO (Go.Proofs.ltOf cf)) (hT:∀ x y,(Go.Proofs.ltOf cf) x y=false->(Go.Proofs.ltOf cf) y x=false->x=y)
   (g:Nat) (eg:∀ args w,(callFunc g args).run P w= .ok (.enter g args) w) (hcmp:∀ x y,Ct P g [.agg ((enc x).map cV), .agg ((enc y).map cV)] (.d (.lit (.int .i64 (cf x y)))) []) (l:List α) (hl0:0<l.length) (hsz:l.length<4611686018427387904):
   Cm P (ρ.f 6) [.ls 0 0 l.length k, .d (.fn g [])] (lk [(0,(l.flatMap enc).map cV)]) [0] (.ret (.tup [])) (lk [(0,((l.mergeSort fun x y=>!(Go.Proofs.ltOf cf) y x).flatMap enc).map cV)]):=by
 refine ⟨hf,fun G W xs hGW hargs hpre=>?_⟩
 obtain ⟨v1,v2,rfl⟩:∃ v1 v2,xs= #[v1,v2]:=by
   have:=hargs.length;obtain ⟨xs⟩:=xs
   match xs,this with
   | [a,b],_=>exact ⟨a,b,rfl⟩
   | [],h=>simp at h
   | [_],h=>simp at h
   | _::_::_::_,h=>simp at h
 obtain ⟨h1,h2,_⟩:=hargs;obtain ⟨hIn,hph⟩:=hpre.st 0 (by simp);obtain ⟨hml,⟨_,h,_⟩ | ⟨hphl,o,cap,rfl,hcap,ho⟩⟩:=h1
 . omega
 obtain ⟨rfl,hbs0⟩:=ho (by omega)
 obtain ⟨cv,rfl,hcv⟩:∃ cv,v2= .func (.func g) #[] cv/\cv.size=0:=by
   cases h2 with
   | fn _ _ cv hl _=>exact ⟨cv,rfl,hl⟩
 obtain rfl:cv= #[]:=Array.eq_empty_of_size_eq_zero hcv;have hHB:=hpre.hb 0 _ rfl;obtain ⟨hnim,c,T,⟨fz,hb,hfz⟩,hbs,hcl,hcr,hca⟩:=hHB.read hphl;have hblk:G.β 0<W.heap.size:=(Array.getElem?_eq_some_iff.1 hb).1;have hfl:=N2 hk l;rw [List.length_map,hfl] at hcl hcr
 have hcell:∀ j,j<l.length*k->c[j]?= some (flatK enc k l.toArray)[j]! :=fun j hj=>by
   have h3:=Mg h0 hk l j hj;have h4:((l.flatMap enc).map cV)[j]?= some (cV (flatK enc k l.toArray)[j]!):=by rw [List.getElem?_map,h3];rfl
   obtain ⟨x,hx,hr⟩:=hcr.get h4;rw [List.getElem?_take,if_pos hj,Array.getElem?_toList] at hx;rw [hx,BO hr.r2.rv]
 have hH:HoldsK enc k W (G.β 0) 0 l.toArray:=fun j hj=>by
   have hj':j<l.length*k:=by simpa using hj
   refine ⟨?_,?_⟩
   . unfold World.cell?
     simp only [Nat.zero_add,hb,Option.isSome_none,Bool.false_eq_true,if_false];exact hcell j hj'
   . unfold World.frozen?
     simp [hb];omega
 have h1c:∀ x,∀ v∈enc x,v.oneCell'=true:=fun x v hv=>RD.oneCell (Im:=fun _=>True) (W:=W) (RD.lit v (hflat x v hv))
 have key:=Go.Proofs.AnyQ.slices_SortFunc_total L k aE zE enc hk h1c cf hO g #[] (G.β 0) 0 cap l.toArray W eg (P6 hflat hcmp _ _ _ _) hH hblk (by simpa using hsz) hT;have hperm:(l.mergeSort fun x y=>!(Go.Proofs.ltOf cf) y x).length=l.length:=List.length_mergeSort _
 generalize (l.mergeSort fun x y=>!(Go.Proofs.ltOf cf) y x)=l' at key hperm ⊢
 have key':Calls P (ρ.f 6) #[.slice (some ⟨G.β 0,0,none⟩) l.length cap, .func (.func g) #[] #[]] W fun e w'=>e= .returned (.tuple #[])/\∃ n os,w'=Go.Proofs.sortWorldK enc k W (G.β 0) 0 n l'.toArray os:=by simpa using key
 refine key'.mono fun e W' ⟨he,n,os,hW'⟩=>?_
 subst he
 have hlent:∀ b,Bm G (lk [(0,(l.flatMap enc).map cV)]) b->b=G.β 0:=fun b ⟨i,hi,_,hbi⟩=>by
   have:i=0:=by simp only [InH,lk] at hi;split at hi;assumption;cases hi
   rw [<-hbi,this]
 have hlent0:Bm G (lk [(0,(l.flatMap enc).map cV)]) (G.β 0):=⟨0,hIn,hph,rfl⟩
 have hheap:∀ b,b<W.heap.size->W'.heap[b]?= if b=G.β 0 then some (.cells (putCells id 0 (flatK enc k l'.toArray) c) T fz) else W.heap[b]?:= fun b hlt=>by
   rw [hW']
   show ((putRow id (Sort.ahead W n) (G.β 0) 0 (flatK enc k l'.toArray)).heap++os)[b]?= _
   rw [Array.getElem?_append_left (by simpa using hlt)]
   show (W.heap.modify (G.β 0) _)[b]?= _
   rw [Array.getElem?_modify];by_cases e:b=G.β 0
   . subst e
     simp [hb,onCells]
   . rw [if_neg (fun h=>e h.symm),if_neg e]
 have hsz':W.heap.size<=W'.heap.size:=by rw [hW'];exact Go.Proofs.size_sortWorldK_c enc k W (G.β 0) 0 n l'.toArray os
 refine ⟨G,⟨by rw [hW'];rfl,by rw [hW'];rfl,by rw [hW'];rfl,by rw [hW'];exact Nat.le_add_right _ _,hsz',fun b hlt hn=>?_,fun b hb=>⟨Nat.lt_of_lt_of_le (hGW.1 b hb) hsz', .inl hb⟩,fun _ h=>h,⟨#[],rfl,trivial⟩,fun _ h=>(by cases h),fun i cs hi=>?_,fun i j hi hj _ _ _=>?_,fun i hi _=>⟨rfl,rfl,(hpre.st i hi).2,rfl⟩⟩⟩
 . rw [hheap b hlt,if_neg (fun e:b=G.β 0=>hn (by rw [e];exact hlent0))]
 . have hi0:i=0/\cs=(l'.flatMap enc).map cV:=by
     simp only [lk] at hi;split at hi
     . rename_i e;cases hi;exact ⟨e,rfl⟩
     . cases hi
   obtain ⟨rfl,rfl⟩:=hi0;have hfl':=N2 hk l';refine ⟨.inr (.inl ⟨hphl.1,hphl.2,hnim,putCells id 0 (flatK enc k l'.toArray) c,T,by rw [hheap _ hblk,if_pos rfl];exact ⟨fz,rfl,by simpa [putCells] using hfz⟩,by simp [putCells,hbs],by simp [putCells,hfl',hperm];exact hcl,?_,?_⟩),fun _=> .inr hlent0,fun x hx=>?_⟩
   . refine AJ.of_get ?_ fun j x y hx hy=>?_
     . simp [putCells,hfl',hperm];omega
     . have hj:j<l'.length*k:=by
         have:=(List.getElem?_eq_some_iff.1 hx).1;simpa [hfl'] using this
       rw [List.getElem?_map,Mg h0 hk l' j hj] at hx;cases hx;rw [List.getElem?_take,List.length_map,hfl',if_pos hj,Array.getElem?_toList] at hy;have hjc:j<c.size:=by rw [hperm] at hj;omega
       simp only [putCells,Array.getElem?_mapIdx,Array.getElem?_eq_getElem hjc,Option.map_some,Nat.zero_le,true_and,Nat.zero_add,size_flatK,List.size_toArray,hj,if_true,Option.some.injEq,Nat.sub_zero,id] at hy;subst hy;have hm:=Mg h0 hk l' j hj;have hmem:=List.mem_of_getElem? hm;obtain ⟨a,_,ha⟩:=List.mem_flatMap.1 hmem;exact RD.lit _ (hflat a _ ha)
   . simp only [List.all_map,List.all_eq_true]
     intro v _;rfl
   . obtain ⟨v,_,rfl⟩:=List.mem_map.1 hx
     trivial
 . have e1:i=0:=by simp only [InH,lk] at hi;split at hi;assumption;cases hi
   have e2:j=0:=by simp only [InH,lk] at hj;split at hj;assumption;cases hj
   rw [e1,e2]
end Go.Psl
namespace Go.Proofs
def Tryz.sortL_ren:Go.Shelf.Ren:=⟨fun | 6=>179 | 15=>195 | 14=>194 | 28=>209 | 29=>210 | 20=>201 | 21=>202 | 22=>203 | 23=>204 | 24=>205 | 25=>206 | 26=>207 | 27=>208 | 46=>213 | 47=>214 | 48=>215 | 49=>216 | 50=>217 | 57=>218 | n=>n,fun | 22=>26 | 24=>149 | 25=>293 | 3=>3 | 39=>227 | 0=>0 | 53=>321 | 55=>296 | 4=>4 | 46=>315 | 45=>314 | 50=>254 | 5=>5 | 9=>9 | 66=>323 | 70=>327 | 76=>329 | 77=>330 | n=>n,fun | n=>n⟩
theorem Tryz.sortL:Go.Proofs.SlLaysF0.n6 Tryz.prog Tryz.sortL_ren:={
 mixed:=by kernel_rfl,
 f6:=⟨Tryz.f179.name,by decide,Tryz.func179.trans (congrArg some (by kernel_rfl))⟩,
 f14:=⟨Tryz.f194.name,by decide,Tryz.func194.trans (congrArg some (by kernel_rfl))⟩,
 f15:=Tryz.func195.trans (congrArg some (by kernel_rfl)),
 f20:=⟨Tryz.f201.name,by decide,Tryz.func201.trans (congrArg some (by kernel_rfl))⟩,
 f21:=⟨Tryz.f202.name,by decide,Tryz.func202.trans (congrArg some (by kernel_rfl))⟩,
 f22:=⟨Tryz.f203.name,by decide,Tryz.func203.trans (congrArg some (by kernel_rfl))⟩,
 f23:=⟨Tryz.f204.name,by decide,Tryz.func204.trans (congrArg some (by kernel_rfl))⟩,
 f24:=⟨Tryz.f205.name,by decide,Tryz.func205.trans (congrArg some (by kernel_rfl))⟩,
 f25:=⟨Tryz.f206.name,by decide,Tryz.func206.trans (congrArg some (by kernel_rfl))⟩,
 f26:=⟨Tryz.f207.name,by decide,Tryz.func207.trans (congrArg some (by kernel_rfl))⟩,
 f27:=⟨Tryz.f208.name,by decide,Tryz.func208.trans (congrArg some (by kernel_rfl))⟩,
 f28:=Tryz.func209.trans (congrArg some (by kernel_rfl)),
 f29:=Tryz.func210.trans (congrArg some (by kernel_rfl)),
 f46:=⟨Tryz.f213.name,by decide,Tryz.func213.trans (congrArg some (by kernel_rfl))⟩,
 f47:=Tryz.func214.trans (congrArg some (by kernel_rfl)),
 f48:=Tryz.func215.trans (congrArg some (by kernel_rfl)),
 f49:=⟨Tryz.f216.name,by decide,Tryz.func216.trans (congrArg some (by kernel_rfl))⟩,
 f50:=⟨Tryz.f217.name,by decide,Tryz.func217.trans (congrArg some (by kernel_rfl))⟩,
 f57:=⟨Tryz.f218.name,by decide,Tryz.func218.trans (congrArg some (by kernel_rfl))⟩,
 t0:=Tryz.underlying0,
 a0:=Tryz.isAgg0,
 z0:=Tryz.sizeOf0,
 v0:=Tryz.zeroValue0,
 t3:=Tryz.underlying3,
 a3:=Tryz.isAgg3,
 z3:=Tryz.sizeOf3,
 v3:=Tryz.zeroValue3,
 t4:=Tryz.underlying4,
 a4:=Tryz.isAgg4,
 z4:=Tryz.sizeOf4,
 v4:=Tryz.zeroValue4,
 t5:=Tryz.underlying5,
 a5:=Tryz.isAgg5,
 z5:=Tryz.sizeOf5,
 v5:=Tryz.zeroValue5,
 t9:=Tryz.underlying9,
 a9:=Tryz.isAgg9,
 z9:=Tryz.sizeOf9,
 v9:=Tryz.zeroValue9,
 t22:=Tryz.underlying26,
 a22:=Tryz.isAgg26,
 z22:=Tryz.sizeOf26,
 v22:=Tryz.zeroValue26,
 t25:=Tryz.underlying293,
 a25:=Tryz.isAgg293,
 z25:=Tryz.sizeOf293,
 v25:=Tryz.zeroValue293,
 t39:=Tryz.underlying227,
 a39:=Tryz.isAgg227,
 z39:=Tryz.sizeOf227,
 v39:=Tryz.zeroValue227,
 t45:=Tryz.underlying314,
 a45:=Tryz.isAgg314,
 z45:=Tryz.sizeOf314,
 v45:=Tryz.zeroValue314,
 t46:=Tryz.underlying315,
 a46:=Tryz.isAgg315,
 z46:=Tryz.sizeOf315,
 v46:=Tryz.zeroValue315,
 t50:=Tryz.underlying254,
 a50:=Tryz.isAgg254,
 z50:=Tryz.sizeOf254,
 v50:=Tryz.zeroValue254,
 t53:=Tryz.underlying321,
 a53:=Tryz.isAgg321,
 z53:=Tryz.sizeOf321,
 v53:=Tryz.zeroValue321,
 t55:=Tryz.underlying296,
 a55:=Tryz.isAgg296,
 z55:=Tryz.sizeOf296,
 v55:=Tryz.zeroValue296,
 t66:=Tryz.underlying323,
 a66:=Tryz.isAgg323,
 z66:=Tryz.sizeOf323,
 v66:=Tryz.zeroValue323,
 t70:=Tryz.underlying327,
 a70:=Tryz.isAgg327,
 z70:=Tryz.sizeOf327,
 v70:=Tryz.zeroValue327,
 t76:=Tryz.underlying329,
 a76:=Tryz.isAgg329,
 z76:=Tryz.sizeOf329,
 v76:=Tryz.zeroValue329,
 t77:=Tryz.underlying330,
 a77:=Tryz.isAgg330,
 z77:=Tryz.sizeOf330,
 v77:=Tryz.zeroValue330}
end Go.Proofs
namespace Go.Proofs.Tryz
open Go.Psl
def Yn (p:Int × Int):List Value:=[.int .i64 p.1, .int .i64 p.2]
theorem AMh (l:List (Int × Int)):(l.flatMap Yn).map cV=BC l:=by
 induction l with
 | nil=>rfl
 | cons a l ih=>
   rw [List.flatMap_cons,List.map_append,ih];rfl
theorem Kq (x y:Int × Int):Go.Proofs.ltOf Dw x y=true↔Go.Geo.lt x y:=by
 unfold Go.Proofs.ltOf;rw [decide_eq_true_eq,PX]
theorem ay (x y:Int × Int):Go.Proofs.ltOf Dw x y=false↔¬ Go.Geo.lt x y:=by
 rw [<-Kq];simp
theorem VT:Go.Sort.SWO (Go.Proofs.ltOf Dw) where
 irrefl x:=by rw [ay];exact Go.Geo.lt_irr x
 trans x y z h1 h2:=by rw [Kq] at*;exact Go.Geo.lt_trans h1 h2
 ntrans x y z h1 h2:=by rw [ay] at*;unfold Go.Geo.lt at*;omega
theorem kX:SortOk:=fun l h1 h2=>by
 have hcmp:∀ x y:Int × Int,Ct prog 180 [.agg ((Yn x).map cV), .agg ((Yn y).map cV)] (.d (.lit (.int .i64 (Dw x y)))) []:=fun x y=>jJ x y
 have h:=N3 Tryz.sortL ⟨_,func179,by kernel_rfl,by decide⟩ 2 (by omega) Tryz.isAgg149 Tryz.sizeOf149 Yn (fun _=>rfl) (fun x v hv=>by simp [Yn] at hv;rcases hv with rfl | rfl<;>rfl) Dw VT
   (fun x y a b=>by
     rw [ay] at a b;rcases Go.Geo.lt_tri x y with h | h | h
     . exact absurd h a
     . exact h
     . exact absurd h b) 180 (Go.Proofs.enters_of func180 (by kernel_rfl) rfl) hcmp l h1 (by omega)
 rw [AMh,AMh] at h;exact h
end Go.Proofs.Tryz
