/- Own lemmas, used by the last text. Conditions: those that each theorem states. -/
import Derived.Test.YtnjclpglagcagaaGreatEbaf
import Derived.Test.YtnjclpglagcagaaGreatEbag
import Derived.Test.YtnjclpglagcagaaGreatEbah
import Derived.Test.YtnjclpglagcagaaGreatEbai
set_option maxRecDepth 200000
set_option maxHeartbeats 8000000
namespace Go.Geo
def le (a b:C):Prop:=¬ lt b a
theorem HE (st:List C) (e:C × C):e∈steps st.reverse↔e∈edg st:=by rw [L9,List.mem_reverse]
theorem XP {l:List C} (h:Sorted l) (h3:3<=l.length) (e:C × C):e∈cyc (Bo l)↔e∈edg (chainR l)\/e∈edg (chainR l.reverse):=by
 obtain ⟨f,g,lo,up,hf,hg,hfg,e1,e2,b1,b2⟩:=Q2 h (by omega);unfold Bo;rw [if_neg (by omega),e1,e2];simp only [List.tail_cons]
 obtain ⟨lo',rfl⟩:∃ lo',lo=lo'++[f]:=by
   rcases List.eq_nil_or_concat lo with rfl | ⟨x,y,rfl⟩
   . simp at b1
   . rw [List.concat_eq_append] at b1 ⊢;simp at b1;exact ⟨x,by rw [b1]⟩
 obtain ⟨up',rfl⟩:∃ up',up=up'++[g]:=by
   rcases List.eq_nil_or_concat up with rfl | ⟨x,y,rfl⟩
   . simp at b2
   . rw [List.concat_eq_append] at b2 ⊢;simp at b2;exact ⟨x,by rw [b2]⟩
 have hc:cyc ((lo'++[f]).reverse++(up'++[g]).reverse)=steps ((g::(lo'++[f])).reverse)++steps ((f::(up'++[g])).reverse):=by
   simp only [List.reverse_append,List.reverse_cons,List.reverse_nil,List.nil_append,List.cons_append,cyc];have:=MA g (up'.reverse++[f]) (f::lo'.reverse);simpa [List.append_assoc] using this
 rw [hc,List.mem_append,HE,HE]
theorem I5 {done:List C}:∀ {st:List C},Eb done st->∀ e∈edg st,lt e.1 e.2/\∀ q∈done,0<=Ao e.1 e.2 q
 | [],_,_,he=>by simp [edg] at he
 | [_],_,_,he=>by simp [edg] at he
 | c::b::r,h,e,he=>by
   simp only [edg,List.mem_cons] at he;rcases he with rfl | he
   . exact ⟨h.lt2,h.above⟩
   . exact I5 h.tail e he
theorem dU {l:List C} (h:Sorted l):∀ e∈edg (chainR l.reverse),lt e.2 e.1/\∀ q∈l,0<=Ao e.1 e.2 q:=fun e he=>by
 have hg:=(Yp h).good;obtain ⟨h1,h2⟩:=I5 hg (neg e.1,neg e.2) (by rw [TD];exact List.mem_map.2 ⟨e,he,rfl⟩);refine ⟨Qy.1 h1,fun q hq=>?_⟩;have:=h2 (neg q) (List.mem_map.2 ⟨q,List.mem_reverse.2 hq,rfl⟩)
 rwa [MC] at this
theorem UN {l:List C} (h:Sorted l) (h3:3<=l.length):∀ e∈cyc (Bo l),∀ q∈l,0<=Ao e.1 e.2 q:=fun e he=>by
 rcases (XP h h3 e).1 he with he | he
 . exact (I5 (F4 l h).good e he).2
 . exact (dU h e he).2
theorem hull_sub {l:List C} (h:Sorted l):∀ p∈Bo l,p∈l:=fun p hp=>by
 unfold Bo at hp;split at hp
 . exact hp
 . rcases List.mem_append.1 hp with hp | hp
   . exact (F4 l h).sub.subset (List.mem_reverse.2 (List.mem_of_mem_tail (List.mem_reverse.1 hp)))
   . have h1:=List.mem_of_mem_tail (List.mem_reverse.1 hp)
     have h2:=(Yp h).sub.subset (List.mem_reverse.2 (List.mem_map.2 ⟨p,h1,rfl⟩));obtain ⟨q,hq,e⟩:=List.mem_map.1 h2;have:p=q:=by rw [<-EH p,<-e,EH]
     rw [this];exact List.mem_reverse.1 hq
end Go.Geo
namespace Go.Proofs.Tryz
open Go.Psl
open Go.Geo (Ao CV chainR)
def Fo:List (Int × Int)->Int × Int->List (Int × Int)
 | b::a::r,p=>if Ao a b p<=0 then Fo (a::r) p else b::a::r
 | st,_=>st
theorem Ek (p:Int × Int):∀ st,CV st p=p::Fo st p
 | []=>rfl
 | [_]=>rfl
 | b::a::r=>by
   unfold CV Fo;split
   . exact Ek p (a::r)
   . rfl
theorem N9 (p:Int × Int):∀ st q,q∈Fo st p->q∈st
 | [],q,h=>h
 | [_],q,h=>h
 | b::a::r,q,h=>by
   unfold Fo at h;split at h
   . exact List.mem_cons_of_mem _ (N9 p (a::r) q h)
   . exact h
theorem OA {p a b:Int × Int} {r:List (Int × Int)}:Fo (b::a::r) p=if Ao a b p<=0 then Fo (a::r) p else b::a::r:=rfl
theorem KK (p:Int × Int):∀ st,(Fo st p).length<=st.length
 | []=>Nat.le_refl _
 | [_]=>Nat.le_refl _
 | b::a::r=>by
   unfold Fo;split
   . exact Nat.le_succ_of_le (KK p (a::r))
   . exact Nat.le_refl _
theorem Ez:∀ (l:List (Int × Int)),(chainR l).length<=l.length:=fun l=>by
 have key:∀ (l st:List (Int × Int)),(l.foldl CV st).length<=st.length+l.length:=by
   intro l;induction l with
   | nil=>intro st;simp
   | cons a l ih=>
     intro st;have:=ih (CV st a);have h2:=KK a st;rw [Ek] at this;simp only [List.foldl_cons,List.length_cons] at this ⊢;rw [Ek];omega
 have:=key l [];simpa [chainR] using this
theorem QA {l:List (Int × Int)}:∀ q∈chainR l,q∈l:=fun q h=>by
 have key:∀ (l st:List (Int × Int)),∀ q∈l.foldl CV st,q∈l\/q∈st:=by
   intro l;induction l with
   | nil=>intro st q h;exact Or.inr h
   | cons a l ih=>
     intro st q h;rcases ih _ q h with h | h
     . exact Or.inl (List.mem_cons_of_mem _ h)
     . rw [Ek] at h
       rcases List.mem_cons.1 h with rfl | h
       . exact Or.inl (List.mem_cons_self ..)
       . exact Or.inr (N9 a st q h)
 rcases key l [] q h with h | h
 . exact h
 . simp at h
theorem QB {l:List (Int × Int)} {i:Nat} {p:Int × Int} (h:l[i]?= some p):chainR (l.take (i+1))=p::Fo (chainR (l.take i)) p:=by
 rw [List.take_add_one,h]
 show chainR (l.take i++[p])=_
 rw [Go.Geo.chainR_snoc,Ek]
def Ld (out z:List (Int × Int)) (b:Nat):List (Nat × List V):=if out.isEmpty then [] else [(b,BC (out++z))]
@[simp] theorem mX (z:List (Int × Int)) (b:Nat):Ld [] z b=[]:=rfl
theorem CN (l z:List (Int × Int)) (p:Int × Int) (b:Nat):Ld (l++[p]) z b=[(b,BC (l++[p]++z))]:=by simp [Ld]
theorem KL (l z:List (Int × Int)):List.take (l.length*2) (List.map V.d (spD (l++z)))=List.map V.d (spD l):=by
 rw [<-List.map_take,KY,List.take_left]
theorem Sj (p:Int × Int) (l:List (Int × Int)):List.map V.d (spD (l++[p]))=List.map V.d (spD l)++[vi p.1,vi p.2]:=by rw [bZ];simp
theorem CO (O:List (Int × Int)):O=[]\/∃ o x,O=o++[x]:=by
 rcases List.eq_nil_or_concat O with rfl | ⟨o,x,rfl⟩
 . exact Or.inl rfl
 . exact Or.inr ⟨o,x,List.concat_eq_append⟩
theorem GP {O:List (Int × Int)} (h:O≠[]) (b:Nat):Ju O b= .ls b 0 O.length 2:=by
 obtain rfl | ⟨o,x,rfl⟩:=CO O
 . exact absurd rfl h
 . simp
theorem GQ {O z:List (Int × Int)} (h:O≠[]) (b:Nat):Ld O z b=[(b,BC (O++z))]:=by
 obtain rfl | ⟨o,x,rfl⟩:=CO O
 . exact absurd rfl h
 . exact CN o z x b
theorem XN (O z:List (Int × Int)) (b n:Nat) (h:b<n):A7 n (Ld O z b):=by
 obtain rfl | ⟨o,x,rfl⟩:=CO O
 . trivial
 . rw [CN]
   simp [h]
theorem jj (O:List (Int × Int)) (b n:Nat) (h:b<n):AC (· < n) AR (Ju O b):=by
 obtain rfl | ⟨o,x,rfl⟩:=CO O
 . simp
 . simp [h]
theorem OL {Γ:Tys} {t:TypeId} {O:List (Int × Int)} {b:Nat}:Iy Γ t (Ju O b)=(Γ t).bind fun y=>match y.sh with | .slice _=>some (.d (.lit (.int .i64 O.length)), .none) | _=>none:=by
 obtain rfl | ⟨o,x,rfl⟩:=CO O
 . exact OQ
 . rw [En,Sw];congr;funext y;cases y.sh<;>simp
theorem QH (a b p:Int × Int):TX (DU a b) (DU b p)=Ao a b p:=(Go.Geo.cross_xp2 a b p).symm
theorem Lv {l:List (Int × Int)} (h2:2<=l.length):∃ top rest,chainR l=top::rest/\rest≠[]:=by
 rcases List.eq_nil_or_concat l with rfl | ⟨l',p,rfl⟩
 . simp at h2
 . rw [List.concat_eq_append,Go.Geo.chainR_snoc]
   obtain ⟨r,e,_,e2,_⟩:=Go.Geo.pushS_head p (chainR l');refine ⟨p,r,e,fun hr=>?_⟩
   have hne:chainR l'≠[]:=by
     cases l' with
     | nil=>simp at h2
     | cons x l'=>
       rcases List.eq_nil_or_concat (x::l') with h | ⟨m,y,h⟩
       . simp at h
       . rw [h,List.concat_eq_append,Go.Geo.chainR_snoc,Ek];simp
   exact (e2 hne).1 hr
theorem qC (B z l zl:List (Int × Int)) (hB:B.length<=100000) (hl:l.length<=100000) (hbd:∀ q∈l,bd 536870912 q) (h2:2<=l.length):
   ∃ z',Cm prog 182 [.lp 0 0, .lp 1 0] (lk ((0,[Ju B 3])::(1,[.ls 2 0 l.length 2])::(2,BC (l++zl))::Ld B z 3)) [0,1,2] (.ret (.tup []))
     (lk ((0,[Ju (B++(chainR l).tail.reverse) 4])::(1,[.ls 2 0 l.length 2])::(2,BC (l++zl))::Ld (B++(chainR l).tail.reverse) z' 4)):=by
 obtain ⟨top,rest,hch,hrest⟩:=Lv h2;refine ⟨[top],?_⟩;rw [hch,List.tail_cons];have hrr:rest.reverse≠[]:=by simp [hrest]
 have hR:B++rest.reverse≠[]:=by simp [hrest]
 rw [GP hR,GQ hR];refine Cm.by gok eok mixed 4 func182 c182 rfl (by simp [ntmps182]) (by simp) (A7.at ?_) (by simp) ?_ fun E hE hs=>?_
 . refine ⟨by show 0<4;omega,fun c hc=>?_,by show 1<4;omega,fun c hc=>?_,by show 2<4;omega,fun c hc=>?_,XN _ _ _ _ (by omega)⟩
   . simp at hc;subst hc;exact jj B 3 4 (by omega)
   . simp at hc;subst hc;simp
   . exact iI c hc
 . simp [LD]
 have hst0:chainR (l.take 0)=[]:=by simp [chainR]
 have hcl:=fun i=>Ez (l.take i)
 have hcm:∀ i,∀ q∈chainR (l.take i),bd 536870912 q:=fun i q hq=>hbd q (List.mem_of_mem_take (QA q hq))
 obtain ⟨dl,hdl⟩:∃ dl,spD (l++zl)=dl:=⟨_,rfl⟩
 have hdl':BC (l++zl)=dl.map V.d:=by rw [<-hdl]
 have hlat:∀ i p,l[i]?= some p->List.take 2 (List.drop (i*2) (dl.map V.d))=[vi p.1,vi p.2]:=fun i p h=>by
   rw [<-hdl];exact Cp (by rw [List.getElem?_append_left (List.getElem?_eq_some_iff.1 h).1];exact h)
 have hlcl:l.length*2<=dl.length:=by rw [<-hdl];simp;omega
 rw [hdl'];simp [p182,OL]
 refine Al (α:=Nat × List (Int × Int)) (fun x=>⟨AO [(0, .lp 0 0),(1, .lp 1 0),(2,vi B.length),(7, .ls 2 0 l.length 2),(8,vi l.length),(9,vi x.1)],lk ((0,[Ju (B++(chainR (l.take x.1)).reverse) 3])::(1,[.ls 2 0 l.length 2])::(2,dl.map .d)::Ld (B++(chainR (l.take x.1)).reverse) x.2 3),4⟩)
   (fun x=>x.1<=l.length/\(x.1=l.length->x.2=[])) (fun x=>l.length-x.1) (0,z) ?_ ?_ ?_
 . exact ⟨by omega,fun h=>by simp only at h;omega⟩
 . simp only [hst0,List.reverse_nil,List.append_nil]
   obtain rfl | ⟨b0,x0,rfl⟩:=CO B
   . exact WKM hE (lk [(0,0),(1,1),(2,2)])
   . rw [CN]
     exact WKM hE (lk [(0,0),(1,1),(2,2),(3,3)])
 rintro ⟨i,z⟩ ⟨hi,hz⟩
 simp only at hi hz;simp [APP];refine Bh (fun h=>?_) (fun h=>?_)
 . simp at h
   obtain ⟨p,hp⟩:∃ p,l[i]?= some p:=⟨l[i],by simp [h]⟩
   have hpm:=hbd p (List.mem_of_getElem? hp);have cp:=hlat i p hp;have q1:i*2+2<=dl.length:=by omega
   have w1:=@wz i (by omega);have hct:=QB hp;have hci:=hcl i;have hcmi:=hcm i;have wB:IntKind.wrap .i64 ((B.length:Int)+1)=(B.length:Int)+1:=AD (by omega) (by omega);obtain ⟨st0,hst⟩:∃ st0,chainR (l.take i)=st0:=⟨_,rfl⟩
   rw [hst] at hct hci hcmi ⊢;have hl0:st0.length<=100000:=by simp at hci;omega
   simp [h,cp,q1,AA]
   refine BL (α:=List (Int × Int) × List (Int × Int)) 2 (fun z:List (Int × Int)=>⟨AO [(0, .lp 0 0),(1, .lp 1 0),(2,vi B.length),(4, .lp 4 0),(7, .ls 2 0 l.length 2),(8,vi l.length),(9,vi i)],lk ((0,[Ju (B++(Fo st0 p).reverse) 3])::(1,[.ls 2 0 l.length 2])::(2,dl.map .d)::(4,[vi p.1,vi p.2])::Ld (B++(Fo st0 p).reverse) z 3),5⟩) (fun _=>True)
     (fun x=>⟨AO [(0, .lp 0 0),(1, .lp 1 0),(2,vi B.length),(4, .lp 4 0),(7, .ls 2 0 l.length 2),(8,vi l.length),(9,vi i)],lk ((0,[Ju (B++x.1.reverse) 3])::(1,[.ls 2 0 l.length 2])::(2,dl.map .d)::(4,[vi p.1,vi p.2])::Ld (B++x.1.reverse) x.2 3),5⟩)
     (fun x=>Fo x.1 p=Fo st0 p/\x.1.length<=100000/\∀ q∈x.1,bd 536870912 q) (fun x=>x.1.length) (st0,z) ?_ ?_ ?_ fun zz _=>?_
   . exact ⟨rfl,hl0,hcmi⟩
   . obtain e | ⟨b0,x0,e⟩:=CO (B++st0.reverse)<;>rw [e]
     . exact WKM hE (lk [(0,0),(1,1),(2,2),(4,3145732)])
     . rw [CN]
       exact WKM hE (lk [(0,0),(1,1),(2,2),(3,3),(4,3145732)])
   . rintro ⟨st,z⟩ ⟨hpop,hlen,hm⟩
     simp only at hpop hlen hm;by_cases h2s:st.length<2
     . have hps:Fo st0 p=st:=by
         rw [<-hpop]
         match st,h2s with
         | [],_=>rfl
         | [_],_=>rfl
         | _::_::_,h=>simp at h;omega
       rw [hps];obtain ⟨O,hO⟩:∃ O,B++st.reverse=O:=⟨_,rfl⟩
       have hOl:O.length=B.length+st.length:=by rw [<-hO];simp
       rw [hO];have hlt:¬ ((B.length:Int)+1<(O.length:Int)):=by omega
       simp [JK,OL,wB,hlt,inC,Nat.testBit];refine ⟨z,?_⟩;obtain rfl | ⟨b0,x0,rfl⟩:=CO O
       . exact WKM hE (lk [(0,0),(1,1),(2,2),(4,4)])
       . rw [CN]
         exact WKM hE (lk [(0,0),(1,1),(2,2),(3,3),(4,4)])
     . obtain ⟨b,a,r,rfl⟩:∃ b a r,st=b::a::r:=by
         match st,h2s with
         | b::a::r,_=>exact ⟨b,a,r,rfl⟩
         | [],h=>simp at h
         | [_],h=>simp at h
       have ba:=hm a (by simp);have bb:=hm b (by simp);obtain ⟨m,hmm⟩:∃ m,m=B.length+r.length:=⟨_,rfl⟩
       obtain ⟨m1,hm1⟩:∃ m1,m1=m+1:=⟨_,rfl⟩
       obtain ⟨O,hO⟩:∃ O,B++(b::a::r).reverse=O:=⟨_,rfl⟩
       have hO2:O=B++r.reverse++[a]++[b]:=by rw [<-hO];simp
       have hO3:B++(a::r).reverse=B++r.reverse++[a]:=by simp
       obtain ⟨N,hN⟩:∃ N,O.length=N:=⟨_,rfl⟩
       have hNm:N=m+2:=by rw [<-hN,hO2,hmm];simp;omega
       have hOne:O≠[]:=by rw [hO2];simp
       have ha':(O++z)[m]?= some a:=by
         rw [hO2,hmm];simp only [List.append_assoc];rw [List.getElem?_append_right (by omega),List.getElem?_append_right (by simp),List.length_reverse,show B.length+r.length-B.length-r.length=0 by omega];rfl
       have hb':(O++z)[m1]?= some b:=by
         rw [hO2,hm1,hmm];simp only [List.append_assoc];rw [List.getElem?_append_right (by omega),List.getElem?_append_right (by simp;omega),List.length_reverse,show B.length+r.length+1-B.length-r.length=1 by omega];rfl
       have ca:=Cp ha';have cb:=Cp hb';obtain ⟨ds,hds⟩:∃ ds,spD (O++z)=ds:=⟨_,rfl⟩
       have hdsl:N*2<=ds.length:=by rw [<-hds,Di,List.length_append,hN];omega
       rw [hds] at ca cb;rw [hO,GP hOne,GQ hOne,hN,show BC (O++z)=ds.map V.d by rw [<-hds]];have w2:IntKind.wrap .i64 ((N:Int)-2)=(m:Int):=by simp at hlen;rw [AD (by omega) (by omega)];omega
       have w3:IntKind.wrap .i64 ((N:Int)-1)=(m1:Int):=by simp at hlen;rw [AD (by omega) (by omega)];omega
       have hlt:(B.length:Int)+1<(N:Int):=by omega
       have l1:m<N:=by omega
       have l2:m1<N:=by omega
       have l3:m*2+2<=ds.length:=by omega
       have l4:m1*2+2<=ds.length:=by omega
       have l5:m1<=N:=by omega
       have e1:=NL (N:=1073741824) ba bb (by omega);have e2:=NL (N:=1073741824) bb hpm (by omega);have big:∀ q,bd 536870912 q->bd 1152921504606846976 q:=fun q h=>by unfold bd at*;omega
       have big2:∀ q,bd 1073741824 q->bd 2000000000 q:=fun q h=>by unfold bd at*;omega
       simp [JK,wB,hlt,inC,Nat.testBit,w2,w3,l1,l2,l3,l4,ca,cb];refine CLa (rL a b (big _ ba) (big _ bb)) ?_;simp [inC,Nat.testBit,w3,l2,l4,cb];refine CLa (rL b p (big _ bb) (big _ hpm)) ?_;simp;refine CLa (jI (DU a b) (DU b p) (big2 _ e1) (big2 _ e2)) ?_;rw [QH];by_cases hc:Ao a b p<=0
       . simp [hc,w3,l5,AA]
         refine ⟨a::r,⟨by rw [<-hpop,OA,if_pos hc],by simp at hlen ⊢;omega,fun q1 q2 hq=>hm (q1,q2) (List.mem_cons_of_mem _ hq)⟩,by simp,[b]++z,?_⟩;rw [hO3,En,CN,show BC (B++r.reverse++[a]++([b]++z))=ds.map V.d by rw [<-hds,hO2];simp];refine AI.mkM hE (lk [(0,0),(1,1),(2,2),(3,3),(4,4)]) _ _ _ ?_ ?_ ?_ ?_ ?_ ?_<;>simp
         omega
       . have hps:Fo st0 p=b::a::r:=by rw [<-hpop,OA,if_neg hc]
         rw [hps,hO,GP hOne,hN];simp [hc];refine ⟨z,?_⟩;rw [GQ hOne,show BC (O++z)=ds.map V.d by rw [<-hds]];exact WKM hE (lk [(0,0),(1,1),(2,2),(3,3),(4,4)])
   . have hpl:=KK p st0
     obtain ⟨O,hO⟩:∃ O,B++(Fo st0 p).reverse=O:=⟨_,rfl⟩
     have hOl:O.length<=200000:=by rw [<-hO];simp;omega
     have hnx:B++(chainR (l.take (i+1))).reverse=O++[p]:=by rw [hct,<-hO];simp
     rw [hO];have fin:BC (O++[p])=(spD O).map V.d++[vi p.1,vi p.2]:=Sj p O;obtain rfl | ⟨o,x,rfl⟩:=CO O
     . simp [AM,AA,w1]
       refine ⟨i+1,[],⟨by omega,fun _=>rfl⟩,by omega,?_⟩;rw [hnx,En,CN,List.append_nil,fin];exact WKM hE (lk [(0,0),(1,1),(2,2),(3,3145733)])
     . have htk:=KL (o++[x]) zz
       have hdl3:=Di (o++[x]++zz);have hOne:o++[x]≠[]:=by simp
       obtain ⟨N,hN⟩:∃ N,(o++[x]).length=N:=⟨_,rfl⟩
       have hdo:=Di (o++[x]);rw [List.length_append,hN] at hdl3;rw [hN] at htk hOl hdo;rw [GP hOne,GQ hOne,hN];have hcc:BC (o++[x]++zz)=List.map V.d (spD (o++[x]++zz)):=rfl;rw [hcc]
       generalize spD (o++[x]++zz)=ds at htk hdl3 ⊢
       generalize spD (o++[x])=eo at fin htk hdo
       have hfit:N*2<=ds.length/\(N+1)*16<=140737488355328/\N+1<=9223372036854775807:=by omega
       simp [AM,AA,w1,hfit,htk];refine ⟨i+1,[],⟨by omega,fun _=>rfl⟩,by omega,?_⟩;rw [hnx,En,CN,List.append_nil,fin,hN];refine AI.mkM hE (lk [(0,0),(1,1),(2,2),(3,3145733)]) _ _ _ ?_ ?_ ?_ ?_ ?_ ?_<;>simp
       rintro c (⟨a,_,rfl⟩ | rfl | rfl)<;>simp
 . simp at h
   have hil:i=l.length:=by omega
   subst hil;rw [hz rfl,List.take_length,hch,List.reverse_cons,<-List.append_assoc,En,CN];obtain ⟨O,hO⟩:∃ O,B++rest.reverse=O:=⟨_,rfl⟩
   rw [hO]
   try rw [hO] at hR
   have hOl:O.length<=1000000:=by
     have:=hcl l.length;rw [List.take_length,hch] at this;rw [<-hO];simp at this ⊢;omega
   have w2:IntKind.wrap .i64 (O.length:Int)=(O.length:Int):=AD (by omega) (by omega);have hOr:O.length=B.length+rest.length:=by rw [<-hO];simp
   have hOn:(O.length:Int)<=(O.length:Int)+1:=by omega
   have hOm:O.length<=O.length+1:=by omega
   have hcO:=Sj top O;rw [List.append_nil,show BC (O++[top])=(spD O).map V.d++[vi top.1,vi top.2] from hcO];simp [w2,hOn,AA];refine AB.by (lk [(0,0),(1,1),(2,2),(4,3)]) ?_;simp [results182];exact hOr
open Go.Geo (Ao CV chainR Bo)
def DK (l:List (Int × Int)):List (Int × Int):=l.mergeSort fun x y=>!decide (Dw y x<0)
def Fb (l:List (Int × Int)):List (Int × Int):=Bo (ddC (DK l))
theorem El (l:List (Int × Int)):(DK l).length=l.length:=List.length_mergeSort _
theorem Lw (l:List (Int × Int)) (p:Int × Int):p∈DK l↔p∈l:=(List.mergeSort_perm l _).mem_iff
theorem Su {p:Int × Int}:∀ l:List (Int × Int),p∈ddC l↔p∈l:=by
 have key:∀ (l d:List (Int × Int)),p∈l.foldl DQ d↔p∈d\/p∈l:=by
   intro l;induction l with
   | nil=>intro d;simp
   | cons a l ih=>
     intro d;rw [List.foldl_cons,ih];unfold DQ;by_cases h:d.getLast?= some a
     . rw [if_pos h]
       have:=List.mem_of_getLast? h;simp only [List.mem_cons];constructor
       . rintro (h | h);exact Or.inl h;exact Or.inr (Or.inr h)
       . rintro (h | rfl | h);exact Or.inl h;exact Or.inl this;exact Or.inr h
     . rw [if_neg h]
       simp only [List.mem_append,List.mem_cons,List.not_mem_nil,or_false];constructor
       . rintro ((h | h) | h);exact Or.inl h;exact Or.inr (Or.inl h);exact Or.inr (Or.inr h)
       . rintro (h | h | h);exact Or.inl (Or.inl h);exact Or.inl (Or.inr h);exact Or.inr h
 intro l;have:=key l [];simp only [List.not_mem_nil,false_or] at this;exact this
theorem pS (hsort:∀ l:List (Int × Int),0<l.length->l.length<=100000->Cm prog 179 [.ls 0 0 l.length 2, .d (.fn 180 [])] (lk [(0,BC l)]) [0] (.ret (.tup [])) (lk [(0,BC (DK l))]))
   (l:List (Int × Int)) (h1:0<l.length) (hl:l.length<=100000) (hbd:∀ q∈l,bd 536870912 q):∃ z,Ct prog 167 [.d (An l)] (.ls 0 0 (Fb l).length 2) [(0,BC (Fb l++z))]:=by
 have hne:l≠[]:=by intro h;rw [h] at h1;simp at h1
 obtain ⟨L,hL⟩:∃ L,ddC (DK l)=L:=⟨_,rfl⟩
 have hLm:∀ q∈L,bd 536870912 q:=fun q hq=>hbd q (by rw [<-hL,Su,Lw] at hq;exact hq)
 have hLl:L.length<=l.length:=by
   have:=I6 (DK l) l.length;rw [List.take_of_length_le (by rw [El];omega),hL] at this;exact this
 have c1:=rJ l (by omega) hne;have c2:=hsort l h1 hl;have c3:=qB (DK l) (by rw [El];omega);rw [El,hL] at c3;obtain ⟨zl,hzl⟩:∃ zl,List.replicate (l.length-L.length) ((0:Int),(0:Int))=zl:=⟨_,rfl⟩
 rw [hzl] at c3;unfold Fb;rw [hL]
 have hLpos:0<L.length:=by
   obtain ⟨p,hp⟩:=List.exists_mem_of_length_pos h1;have:p∈L:=by rw [<-hL,Su,Lw];exact hp
   exact List.length_pos_of_mem this
 have n1:spD l≠[]:=by intro h;have:=congrArg List.length h;simp at this;omega
 have n2:spD (DK l)≠[]:=by intro h;have:=congrArg List.length h;rw [Di,El] at this;simp at this;omega
 have n3:∀ z,spD (L++z)≠[]:=by intro z h;have:=congrArg List.length h;simp at this;omega
 have d2:=c2.rename (fun _=>2097152) 1 (by omega) (by simp) (by simp) (by simp);have d3:=c3.rename (fun _=>2097152) 1 (by omega) (by simp) (by simp) (by simp);simp [Ea,HW] at d2 d3;by_cases h3:L.length<3
 . refine ⟨zl,?_⟩
   have e:Bo L=L:=by unfold Bo;rw [if_pos h3]
   have h3':(L.length:Int)<3:=by omega
   rw [e];refine CB func167 ASh fun E hE=>?_
   simp [p167];refine CLa c1 ?_;simp [AA];refine CRs d2 (by simp [n1]) ?_;simp;refine CRs d3 (by simp [n2]) ?_;simp [AA,h3'];refine AB.by (lk [(0,2097152)]) ?_;simp [results167]
 . have h3':¬ (L.length:Int)<3:=by omega
   obtain ⟨z1,c4⟩:=qC [] [] L zl (by simp) (by omega) hLm (by omega);have c5:=rD L zl (by omega);obtain ⟨lo,hlo⟩:∃ lo,(chainR L).tail.reverse=lo:=⟨_,rfl⟩
   have hlol:lo.length<=100000:=by
     have:=Ez L;rw [<-hlo];simp;omega
   obtain ⟨z2,c6⟩:=qC lo z1 L.reverse zl (by omega) (by rw [List.length_reverse];omega) (fun q hq=>hLm q (List.mem_reverse.1 hq)) (by rw [List.length_reverse];omega);have e:Bo L=lo++(chainR L.reverse).tail.reverse:=by unfold Bo;rw [if_neg h3,hlo]
   rw [<-e] at c6;rw [hlo,List.nil_append] at c4
   have hlone:lo≠[]:=by
     obtain ⟨top,rest,h,hr⟩:=Lv (l:=L) (by omega);rw [<-hlo,h];simpa using hr
   have hRne:Bo L≠[]:=by rw [e];simp [hlone]
   rw [GP hlone,GQ hlone] at c4 c6;rw [GP hRne,GQ hRne,List.length_reverse] at c6;have n4:∀ z,spD (L.reverse++z)≠[]:=by intro z h;have:=congrArg List.length h;simp at this;omega
   have n5:∀ z,spD (lo++z)≠[]:=by intro z h;have:=congrArg List.length h;have h8:=List.length_pos_iff.2 hlone;simp only [Di,List.length_append,List.length_nil] at this;omega
   refine ⟨z2,?_⟩;refine CB func167 ASh fun E hE=>?_
   simp [p167];refine CLa c1 ?_;simp [AA];refine CRs d2 (by simp [n1]) ?_;simp;refine CRs d3 (by simp [n2]) ?_;have d4:=c4.rename (fun i=>if i=0 then 13631488 else if i=1 then 3145728 else if i=2 then 2097152 else i) 5 (by intro i j hi hj h;(repeat' split at h)<;>omega) (by simp) (by simp) (by simp);have d5:=c5.rename (fun _=>2097152) 1 (by omega) (by simp) (by simp) (by simp);have d6:=c6.rename (fun i=>if i=0 then 13631488 else if i=1 then 3145728 else if i=2 then 2097152 else if i=3 then 17825796 else i) 5 (by intro i j hi hj h;(repeat' split at h)<;>omega) (by simp) (by simp) (by simp);simp [Ea,HW] at d4 d5 d6;simp [AA,h3'];refine CRs d4 (by simp [n3]) ?_;simp;refine CRs d5 (by simp [n3]) ?_;simp;refine CRs d6 (by simp [n4]) ?_;simp;refine AB.by (lk [(0,22020100)]) ?_;simp [results167]
def SortOk:Prop:=∀ l:List (Int × Int),0<l.length->l.length<=100000->Cm prog 179 [.ls 0 0 l.length 2, .d (.fn 180 [])] (lk [(0,BC l)]) [0] (.ret (.tup [])) (lk [(0,BC (DK l))])
def C7 (r:List (Int × Int)):Bool:=decide (1<=r.length)&&decide (r.length<=64)&&EJ r&&decide (Fb r=r)
theorem fC {l:List (Int × Int)} (h:EJ l=true):∀ q∈l,bd 536870912 q:=fun q hq=>by
 have:=NH.1 (List.all_eq_true.1 h q hq);unfold bd at*;omega
theorem Yf {l:List (Int × Int)} (h:EJ l=true):∀ q∈l,bd 268435456 q:=fun q hq=>NH.1 (List.all_eq_true.1 h q hq)
theorem VM (l:List (Int × Int)):(Fb l).length<=2*l.length:=by
 have h1:(ddC (DK l)).length<=l.length:=by
   have:=I6 (DK l) l.length;rw [List.take_of_length_le (by rw [El];omega)] at this;exact this
 unfold Fb Bo;split
 . omega
 . have h2:=Ez (ddC (DK l))
   have h3:=Ez (ddC (DK l)).reverse;simp at h3 ⊢;omega
theorem fD {H:Hp} {id:Nat} {l z:List (Int × Int)} (h:H id=some (BC (l++z))):Bor H (.ls id 0 l.length 2) (.d (An l)):=by
 rw [Bk];refine ⟨rfl,by simp,fun e he=>?_,_,h,?_⟩
 . simp only [List.mem_map] at he
   obtain ⟨k,_,rfl⟩:=he;rfl
 . rw [Om,List.drop_zero,KL]
theorem qu (hS:SortOk) (r:List (Int × Int)) (hr:r.length<=1000000000):Ct prog 129 [.d (An r)] (vi (if C7 r then 0 else 14)) []:=by
 refine CB func129 c129 fun E hE=>?_
 by_cases h1:r.length<1
 . have h1':(r.length:Int)<1:=by omega
   have e:C7 r=false:=by unfold C7;rw [decide_eq_false (p:=1<=r.length) (by omega)];simp
   simp [p129,h1'];apply RZ;simp [results129,e]
 have h1':¬ (r.length:Int)<1:=by omega
 by_cases h2:64<r.length
 . have h2':(64:Int)<r.length:=by omega
   have e:C7 r=false:=by unfold C7;rw [decide_eq_false (p:=r.length<=64) (by omega)];simp
   simp [p129,h1',h2'];apply RZ;simp [results129,e]
 have h2':¬ (64:Int)<r.length:=by omega
 simp [p129,h1',h2'];refine CLa (jX r hr) ?_;by_cases h3:EJ r=true
 . simp [h3]
   obtain ⟨z,c⟩:=pS hS r (by omega) (by omega) (fC h3);refine CLa c ?_;simp;have hpl:=VM r;refine CLb (rE (Fb r) r (by omega) (by omega)) (by simp [fD (z:=z)]) ?_;have e:C7 r=decide (Fb r=r):=by unfold C7;rw [decide_eq_true (p:=1<=r.length) (by omega),decide_eq_true (p:=r.length<=64) (by omega),h3];rfl
   by_cases h4:Fb r=r
   . simp [h4]
     apply RZ;simp [results129,e,h4]
   . simp [h4]
     apply RZ;simp [results129,e,h4]
 . simp [h3]
   have e:C7 r=false:=by unfold C7;simp [h3]
   apply RZ;simp [results129,e]
open Go.Air
structure Rig where
 reg:List (Int × Int)
 gl:Int
 gh:Int
 tank:Int
 rsv:Int
 lo:Int
 hi:Int
abbrev Fj (r:Rig):V:= .agg [.d (An r.reg),vi r.gl,vi r.gh,vi r.tank,vi r.rsv,vi r.lo,vi r.hi]
structure Leg where
 m:Int
 axl:Int
 axh:Int
 ayl:Int
 ayh:Int
 ul:Int
 uh:Int
 bl:Int
 bh:Int
 dr:Int
 acts:List Act
abbrev Pi (l:Leg):List D:=[di l.m,di l.axl,di l.axh,di l.ayl,di l.ayh,di l.ul,di l.uh,di l.bl,di l.bh,di l.dr,JZ l.acts]
abbrev AKx (l:Leg):V:= .agg [vi l.m,vi l.axl,vi l.axh,vi l.ayl,vi l.ayh,vi l.ul,vi l.uh,vi l.bl,vi l.bh,vi l.dr, .d (JZ l.acts)]
abbrev Bs (l:List Leg):D:= .sl 11 (l.map Pi)
def CF (r:Rig):Bool:=spB 0 120 r.gl r.gh&&rgB 0 1000000000 [r.tank,r.rsv]&&spB (-500) 9000 r.lo r.hi&&C7 r.reg
def Cb (a:Act):Bool:=decide (a.k=3)||decide (a.k=4)
def BE (l:Leg):Bool:=rgB 1 600 [l.m]&&(spB (-1000) 1000 l.axl l.axh&&spB (-1000) 1000 l.ayl l.ayh)&&spB (-300) 300 l.ul l.uh&&spB 0 1000000 l.bl l.bh&&rgB 0 1000000000 [l.dr]&&decide (l.acts.length<=12)&&l.acts.all Cb
def Cv (l:List Leg):Int:=(l.map (·.m)).sum
def C0 (l:List Leg):Int:=if 20<l.length then 4 else if l.all BE then (if 600<Cv l then 4 else 0) else 53
theorem AL0 {l:Leg} (h:BE l=true):1<=l.m/\l.m<=600:=by
 unfold BE at h;simp only [Bool.and_eq_true] at h;have:=h.1.1.1.1.1.1;simpa [rgB] using this
theorem MU {l:List Leg} {i:Nat} {x:Leg} (h:l[i]?= some x):Cv (l.take (i+1))=Cv (l.take i)+x.m:=by
 unfold Cv;rw [List.take_add_one,h];simp
theorem KA:∀ {l:List Leg},(∀ x∈l,BE x=true)->0<=Cv l/\Cv l<=l.length*600
 | [],_=>by simp [Cv]
 | c::l,h=>by
   have h1:=AL0 (h c (by simp));have h2:=KA (l:=l) fun x hx=>h x (by simp [hx])
   unfold Cv at h2 ⊢;simp only [List.map_cons,List.sum_cons,List.length_cons];omega
theorem qs (a:Act):Ct prog 117 [BZ a] (vb (Cb a)) []:=by
 by_cases h3:a.k=3
 . have e:Cb a=true:=by unfold Cb;simp [h3]
   refine CB func117 AQw fun E hE=>?_
   simp [p117,h3];apply RZ;simp [results117,e]
 . by_cases h4:a.k=4
   . have e:Cb a=true:=by unfold Cb;simp [h4]
     refine CB func117 AQw fun E hE=>?_
     simp [p117,h4];apply RZ;simp [results117,e]
   . have e:Cb a=false:=by unfold Cb;simp [h3,h4]
     refine CB func117 AQw fun E hE=>?_
     simp [p117,h3,h4];apply RZ;simp [results117,e]
theorem ir (l:List Act) (g:FuncId) (ds:List D) (q:Act->Bool) (hl:l.length<=1000000000) (hg:∀ p∈l,Ct prog g (BZ p::ds.map .d) (vb (q p)) []):Ct prog 116 [.d (JZ l), .d (.fn g ds)] (vb (l.all q)) []:=by
 refine CB func116 c116 fun E hE=>?_
 simp [p116];refine Al (α:=Nat) (fun i=>⟨AO [(1, .d (.fn g ds)),(7, .d (JZ l)),(8,vi l.length),(9,vi i)],lk [],0⟩) (fun i=>i<=l.length/\∀ j,j<i->(l[j]?).all q=true) (fun i=>l.length-i) 0 ?_ ?_ ?_
 . exact ⟨by omega,fun j hj=>by omega⟩
 . exact WK hE (lk [])
 . rintro i ⟨hi,hg3⟩
   have hz:=@wz i (by omega);by_cases h:i<l.length
   . have hI:(i:Int)<l.length:=by omega
     obtain ⟨p,hp⟩:=gE h;simp [ANj,hI,hp,AA];refine CLa (hg p (List.mem_of_getElem? hp)) ?_;cases hq:q p
     . have e:l.all q=false:=by rw [List.all_eq_false];exact ⟨p,List.mem_of_getElem? hp,by simp [hq]⟩
       simp;apply RZ;simp [results116,e]
     . simp [hz]
       refine ⟨i+1,⟨by omega,fun j hj=>?_⟩,by omega,?_⟩
       . by_cases e:j=i
         . subst e;rw [hp];simp [hq]
         . exact hg3 j (by omega)
       . exact WK hE (lk [])
   . have hI:¬ (i:Int)<l.length:=by omega
     have e:l.all q=true:=by
       rw [List.all_eq_true];intro x hx;obtain ⟨j,hj⟩:=List.getElem?_of_mem hx;have:=hg3 j (by have:=(List.getElem?_eq_some_iff.1 hj).1;omega);rw [hj] at this;simpa using this
     simp [ANj,hI];apply RZ;simp [results116,e]
theorem AJF (l:Leg) (hl:l.acts.length<=1000000000):Ct prog 67 [AKx l] (vi (if BE l then 0 else 53)) []:=by
 have c1:=mM 1 600 [l.m] (by simp);have c2:=oz (-1000) 1000 [(l.axl,l.axh),(l.ayl,l.ayh)] (by simp);have c3:=oz (-300) 300 [(l.ul,l.uh)] (by simp);have c4:=oz 0 1000000 [(l.bl,l.bh)] (by simp);have c5:=mM 0 1000000000 [l.dr] (by simp);have c6:=ir l.acts 117 [] Cb hl fun a _=>qs a
 simp only [List.all_cons,List.all_nil,Bool.and_true] at c1 c2 c3 c4;have e:BE l=(rgB 1 600 [l.m]&&(spB (-1000) 1000 l.axl l.axh&&spB (-1000) 1000 l.ayl l.ayh)&&spB (-300) 300 l.ul l.uh&&spB 0 1000000 l.bl l.bh&&rgB 0 1000000000 [l.dr]&&decide (l.acts.length<=12)&&l.acts.all Cb):=rfl
 generalize rgB 1 600 [l.m]=b1 at*
 generalize (spB (-1000) 1000 l.axl l.axh&&spB (-1000) 1000 l.ayl l.ayh)=b2 at*
 generalize spB (-300) 300 l.ul l.uh=b3 at*
 generalize spB 0 1000000 l.bl l.bh=b4 at*
 generalize rgB 0 1000000000 [l.dr]=b5 at*
 generalize l.acts.all Cb=b6 at*
 rw [e];by_cases hm:l.acts.length<=12
 . have hn:¬ (12:Int)<l.acts.length:=by omega
   cases b1
   . refine CB func67 c67 fun E hE=>?_
     simp [p67,AA,AM]
     repeat ((first | (refine CLt c1 ?_ ?_;focus (simp [AG];done)) | (refine CLt c2 ?_ ?_;focus (simp [AG,AN,AQ];done)) | (refine CLt c3 ?_ ?_;focus (simp [AG,AN,AQ];done)) | (refine CLt c4 ?_ ?_;focus (simp [AG,AN,AQ];done)) | (refine CLt c5 ?_ ?_;focus (simp [AG,AN,AQ];done)) | (refine CLt c6 ?_ ?_;focus (simp [AG,AN,AQ];done)));simp)
     apply RZ;simp [results67]
   cases b2
   . refine CB func67 c67 fun E hE=>?_
     simp [p67,AA,AM]
     repeat ((first | (refine CLt c1 ?_ ?_;focus (simp [AG];done)) | (refine CLt c2 ?_ ?_;focus (simp [AQ];done)) | (refine CLt c3 ?_ ?_;focus (simp [AG,AN,AQ];done)) | (refine CLt c4 ?_ ?_;focus (simp [AG,AN,AQ];done)) | (refine CLt c5 ?_ ?_;focus (simp [AG,AN,AQ];done)) | (refine CLt c6 ?_ ?_;focus (simp [AG,AN,AQ];done)));simp [AA,AM])
     apply RZ;simp [results67]
   cases b3
   . refine CB func67 c67 fun E hE=>?_
     simp [p67,AA,AM]
     repeat ((first | (refine CLt c1 ?_ ?_;focus (simp [AG];done)) | (refine CLt c2 ?_ ?_;focus (simp [AQ];done)) | (refine CLt c3 ?_ ?_;focus (simp [AN];done)) | (refine CLt c4 ?_ ?_;focus (simp [AG,AN,AQ];done)) | (refine CLt c5 ?_ ?_;focus (simp [AG,AN,AQ];done)) | (refine CLt c6 ?_ ?_;focus (simp [AG,AN,AQ];done)));simp [AA,AM])
     apply RZ;simp [results67]
   cases b4
   . refine CB func67 c67 fun E hE=>?_
     simp [p67,AA,AM]
     repeat ((first | (refine CLt c1 ?_ ?_;focus (simp [AG];done)) | (refine CLt c2 ?_ ?_;focus (simp [AQ];done)) | (refine CLt c3 ?_ ?_;focus (simp [AN];done)) | (refine CLt c4 ?_ ?_;focus (simp [AN];done)) | (refine CLt c5 ?_ ?_;focus (simp [AG,AN,AQ];done)) | (refine CLt c6 ?_ ?_;focus (simp [AG,AN,AQ];done)));simp [AA,AM])
     apply RZ;simp [results67]
   cases b5
   . refine CB func67 c67 fun E hE=>?_
     simp [p67,AA,AM]
     repeat ((first | (refine CLt c1 ?_ ?_;focus (simp [AG];done)) | (refine CLt c2 ?_ ?_;focus (simp [AQ];done)) | (refine CLt c3 ?_ ?_;focus (simp [AN];done)) | (refine CLt c4 ?_ ?_;focus (simp [AN];done)) | (refine CLt c5 ?_ ?_;focus (simp [AG];done)) | (refine CLt c6 ?_ ?_;focus (simp [AG,AN,AQ];done)));simp [AA,AM])
     apply RZ;simp [results67]
   cases b6
   . refine CB func67 c67 fun E hE=>?_
     simp [p67,AA,AM]
     repeat ((first | (refine CLt c1 ?_ ?_;focus (simp [AG];done)) | (refine CLt c2 ?_ ?_;focus (simp [AQ];done)) | (refine CLt c3 ?_ ?_;focus (simp [AN];done)) | (refine CLt c4 ?_ ?_;focus (simp [AN];done)) | (refine CLt c5 ?_ ?_;focus (simp [AG];done)) | (refine CLt c6 ?_ ?_;focus (simp;done)));simp [AA,AM,hn])
     apply RZ;simp [results67]
   . refine CB func67 c67 fun E hE=>?_
     simp [p67,AA,AM]
     repeat ((first | (refine CLt c1 ?_ ?_;focus (simp [AG];done)) | (refine CLt c2 ?_ ?_;focus (simp [AQ];done)) | (refine CLt c3 ?_ ?_;focus (simp [AN];done)) | (refine CLt c4 ?_ ?_;focus (simp [AN];done)) | (refine CLt c5 ?_ ?_;focus (simp [AG];done)) | (refine CLt c6 ?_ ?_;focus (simp;done)));simp [AA,AM,hn])
     apply RZ;simp [results67,hm]
 . have hn:(12:Int)<l.acts.length:=by omega
   cases b1
   . refine CB func67 c67 fun E hE=>?_
     simp [p67,AA,AM]
     repeat ((first | (refine CLt c1 ?_ ?_;focus (simp [AG];done)) | (refine CLt c2 ?_ ?_;focus (simp [AG,AN,AQ];done)) | (refine CLt c3 ?_ ?_;focus (simp [AG,AN,AQ];done)) | (refine CLt c4 ?_ ?_;focus (simp [AG,AN,AQ];done)) | (refine CLt c5 ?_ ?_;focus (simp [AG,AN,AQ];done)) | (refine CLt c6 ?_ ?_;focus (simp [AG,AN,AQ];done)));simp)
     apply RZ;simp [results67]
   cases b2
   . refine CB func67 c67 fun E hE=>?_
     simp [p67,AA,AM]
     repeat ((first | (refine CLt c1 ?_ ?_;focus (simp [AG];done)) | (refine CLt c2 ?_ ?_;focus (simp [AQ];done)) | (refine CLt c3 ?_ ?_;focus (simp [AG,AN,AQ];done)) | (refine CLt c4 ?_ ?_;focus (simp [AG,AN,AQ];done)) | (refine CLt c5 ?_ ?_;focus (simp [AG,AN,AQ];done)) | (refine CLt c6 ?_ ?_;focus (simp [AG,AN,AQ];done)));simp [AA,AM])
     apply RZ;simp [results67]
   cases b3
   . refine CB func67 c67 fun E hE=>?_
     simp [p67,AA,AM]
     repeat ((first | (refine CLt c1 ?_ ?_;focus (simp [AG];done)) | (refine CLt c2 ?_ ?_;focus (simp [AQ];done)) | (refine CLt c3 ?_ ?_;focus (simp [AN];done)) | (refine CLt c4 ?_ ?_;focus (simp [AG,AN,AQ];done)) | (refine CLt c5 ?_ ?_;focus (simp [AG,AN,AQ];done)) | (refine CLt c6 ?_ ?_;focus (simp [AG,AN,AQ];done)));simp [AA,AM])
     apply RZ;simp [results67]
   cases b4
   . refine CB func67 c67 fun E hE=>?_
     simp [p67,AA,AM]
     repeat ((first | (refine CLt c1 ?_ ?_;focus (simp [AG];done)) | (refine CLt c2 ?_ ?_;focus (simp [AQ];done)) | (refine CLt c3 ?_ ?_;focus (simp [AN];done)) | (refine CLt c4 ?_ ?_;focus (simp [AN];done)) | (refine CLt c5 ?_ ?_;focus (simp [AG,AN,AQ];done)) | (refine CLt c6 ?_ ?_;focus (simp [AG,AN,AQ];done)));simp [AA,AM])
     apply RZ;simp [results67]
   cases b5
   . refine CB func67 c67 fun E hE=>?_
     simp [p67,AA,AM]
     repeat ((first | (refine CLt c1 ?_ ?_;focus (simp [AG];done)) | (refine CLt c2 ?_ ?_;focus (simp [AQ];done)) | (refine CLt c3 ?_ ?_;focus (simp [AN];done)) | (refine CLt c4 ?_ ?_;focus (simp [AN];done)) | (refine CLt c5 ?_ ?_;focus (simp [AG];done)) | (refine CLt c6 ?_ ?_;focus (simp [AG,AN,AQ];done)));simp [AA,AM])
     apply RZ;simp [results67]
   . refine CB func67 c67 fun E hE=>?_
     simp [p67,AA,AM]
     repeat ((first | (refine CLt c1 ?_ ?_;focus (simp [AG];done)) | (refine CLt c2 ?_ ?_;focus (simp [AQ];done)) | (refine CLt c3 ?_ ?_;focus (simp [AN];done)) | (refine CLt c4 ?_ ?_;focus (simp [AN];done)) | (refine CLt c5 ?_ ?_;focus (simp [AG];done)) | (refine CLt c6 ?_ ?_;focus (simp [AG,AN,AQ];done)));simp [AA,AM,hn])
     apply RZ;simp [results67,hm]
theorem fn39 (l:List Leg) (h:l.length<=1000000) (ha:∀ x∈l,x.acts.length<=1000000):Ct prog 39 [.d (Bs l)] (vi (C0 l)) []:=by
 refine CB func39 c39 fun E hE=>?_
 by_cases hm:20<l.length
 . have hm':(20:Int)<l.length:=by omega
   have e:C0 l=4:=by unfold C0;rw [if_pos hm]
   simp [p39,hm'];apply RZ;simp [results39,e]
 have hm':¬ (20:Int)<l.length:=by omega
 simp [p39,hm'];refine Al (α:=Nat) (fun i=>⟨AO [(3,vi (600-Cv (l.take i))),(10, .d (Bs l)),(11,vi l.length),(12,vi i)],lk [],0⟩) (fun i=>i<=l.length/\∀ j,j<i->(l[j]?).all BE=true) (fun i=>l.length-i) 0 ?_ ?_ ?_
 . exact ⟨by omega,fun j hj=>by omega⟩
 . refine AI.mk hE (lk []) _ _ _ ?_ ?_ ?_ ?_ ?_<;>simp [Cv]
 . rintro i ⟨hi,hg⟩
   have hz:=@wz i (by omega)
   have hok:∀ x∈l.take i,BE x=true:=fun x hx=>by
     obtain ⟨j,hj⟩:=List.getElem?_of_mem hx;have hji:j<i:=by have:=(List.getElem?_eq_some_iff.1 hj).1;simp at this;omega
     rw [List.getElem?_take,if_pos hji] at hj;have:=hg j hji;rw [hj] at this;simpa using this
   have hs:=KA hok;rw [List.length_take,Nat.min_eq_left hi] at hs;by_cases h:i<l.length
   . have hI:(i:Int)<l.length:=by omega
     obtain ⟨p,hp⟩:=gE h;have hnx:=MU hp;have c:=AJF p (by have:=ha p (List.mem_of_getElem? hp);omega);cases hq:BE p
     . have e:C0 l=53:=by
         have:l.all BE=false:=by rw [List.all_eq_false];exact ⟨p,List.mem_of_getElem? hp,by simp [hq]⟩
         unfold C0;rw [if_neg hm,this];simp
       rw [hq] at c;simp [PR,hI,hp,AA];refine CLa c ?_;simp;apply RZ;simp [results39,e]
     . have hpm:=AL0 hq
       have hw:IntKind.wrap .i64 (600-Cv (l.take i)-p.m)=600-Cv (l.take (i+1)):=by rw [AD (by omega) (by omega)];omega
       rw [hq] at c;simp [PR,hI,hp,AA];refine CLa c ?_;simp [hw,hz];refine ⟨i+1,⟨by omega,fun j hj=>?_⟩,by omega,?_⟩
       . by_cases e:j=i
         . subst e;rw [hp];simp [hq]
         . exact hg j (by omega)
       . exact WK hE (lk [])
   . have hI:¬ (i:Int)<l.length:=by omega
     have ei:i=l.length:=by omega
     have hall:l.all BE=true:=by
       rw [List.all_eq_true];intro x hx;rw [ei,List.take_length] at hok;exact hok x hx
     have ht:Cv (l.take i)=Cv l:=by rw [ei,List.take_length]
     rw [ht];by_cases hb:600<Cv l
     . have e:C0 l=4:=by unfold C0;rw [if_neg hm,hall];simp [hb]
       have hb':600-Cv l<0:=by omega
       simp [PR,hI,hb'];apply RZ;simp [results39,e]
     . have e:C0 l=0:=by unfold C0;rw [if_neg hm,hall];simp [hb]
       have hb':¬ 600-Cv l<0:=by omega
       simp [PR,hI,hb'];apply RZ;simp [results39,e]
theorem AEE (hS:SortOk) (r:Rig) (hr:r.reg.length<=1000000000):Ct prog 87 [Fj r] (vi (if CF r then 0 else 51)) []:=by
 have c1:=oz 0 120 [(r.gl,r.gh)] (by simp);have c2:=mM 0 1000000000 [r.tank,r.rsv] (by simp);have c3:=oz (-500) 9000 [(r.lo,r.hi)] (by simp);have c4:=qu hS r.reg hr;simp only [List.all_cons,List.all_nil,Bool.and_true] at c1 c2 c3;have e:CF r=(spB 0 120 r.gl r.gh&&rgB 0 1000000000 [r.tank,r.rsv]&&spB (-500) 9000 r.lo r.hi&&C7 r.reg):=rfl
 generalize spB 0 120 r.gl r.gh=b1 at*
 generalize rgB 0 1000000000 [r.tank,r.rsv]=b2 at*
 generalize spB (-500) 9000 r.lo r.hi=b3 at*
 generalize C7 r.reg=b4 at*
 rw [e];cases b1
 . refine CB func87 c87 fun E hE=>?_
   simp [p87,AA,AM]
   repeat ((first | (refine CLt c1 ?_ ?_;focus (simp [AN];done)) | (refine CLt c2 ?_ ?_;focus (simp [Ap,AN];done)) | (refine CLt c3 ?_ ?_;focus (simp [Ap,AN];done)) | (refine CLt c4 ?_ ?_;focus (simp [Ap,AN];done)));simp)
   apply RZ;simp [results87]
 cases b2
 . refine CB func87 c87 fun E hE=>?_
   simp [p87,AA,AM]
   repeat ((first | (refine CLt c1 ?_ ?_;focus (simp [AN];done)) | (refine CLt c2 ?_ ?_;focus (simp [Ap];done)) | (refine CLt c3 ?_ ?_;focus (simp [Ap,AN];done)) | (refine CLt c4 ?_ ?_;focus (simp [Ap,AN];done)));simp [AA,AM])
   apply RZ;simp [results87]
 cases b3
 . refine CB func87 c87 fun E hE=>?_
   simp [p87,AA,AM]
   repeat ((first | (refine CLt c1 ?_ ?_;focus (simp [AN];done)) | (refine CLt c2 ?_ ?_;focus (simp [Ap];done)) | (refine CLt c3 ?_ ?_;focus (simp [AN];done)) | (refine CLt c4 ?_ ?_;focus (simp [Ap,AN];done)));simp [AA,AM])
   apply RZ;simp [results87]
 cases b4
 . refine CB func87 c87 fun E hE=>?_
   simp [p87,AA,AM]
   repeat ((first | (refine CLt c1 ?_ ?_;focus (simp [AN];done)) | (refine CLt c2 ?_ ?_;focus (simp [Ap];done)) | (refine CLt c3 ?_ ?_;focus (simp [AN];done)) | (refine CLt c4 ?_ ?_;focus (simp;done)));simp [AA,AM])
   apply RZ;simp [results87]
 . refine CB func87 c87 fun E hE=>?_
   simp [p87,AA,AM]
   repeat ((first | (refine CLt c1 ?_ ?_;focus (simp [AN];done)) | (refine CLt c2 ?_ ?_;focus (simp [Ap];done)) | (refine CLt c3 ?_ ?_;focus (simp [AN];done)) | (refine CLt c4 ?_ ?_;focus (simp;done)));simp [AA,AM])
   apply RZ;simp [results87]
def qj (l:List (Int × Int × Int)) (i:Nat) (a k:Int × Int × Int) (x:Int):Prop:=l[i]?= some a/\l[i+1]?= some k/\a.1<=x/\x<=k.1/\(i=0\/a.1<x)
section
variable {l:List (Int × Int × Int)} (ht:Ck l=true) {i:Nat} {a k:Int × Int × Int} {x:Int} (h:qj l i a k x) {u v:Int} (hu:a.2.1<=u/\u<=a.2.2) (hv:k.2.1<=v/\v<=k.2.2)
def qk (y:Int × Int):Int:=max y.1 (-1073741825)
def jP (y:Int × Int):Int:=min y.2 1073741825
def isIn (y:Int × Int) (num den:Int):Prop:=qk y<=1073741825/\ -1073741825<=jP y/\qk y*den<=num/\num<=jP y*den
end
end Go.Proofs.Tryz
namespace Go.Proofs.Tryz
open Go.Psl
theorem dM {r:List (Int × Int)} (h:C7 r=true):∀ q∈r,bd 268435456 q:=Yf (by unfold C7 at h;simp only [Bool.and_eq_true] at h;exact h.1.2)
theorem Ws {r:List (Int × Int)} (h:C7 r=true):1<=r.length/\r.length<=64:=by
 unfold C7 at h;simp only [Bool.and_eq_true,decide_eq_true_eq] at h;exact h.1.1
theorem GM {M N:Int} {p:Int × Int} (h:bd M p) (hm:M<=N):bd N p:=by unfold bd at*;omega
abbrev vu (n:Int):V:= .d (.lit (.int .u64 n))
theorem UL (x1 x0 y1 y0:Int):(x1*4294967296+x0)*(y1*4294967296+y0)=x1*y1*18446744073709551616+(x1*y0+x0*y1)*4294967296+x0*y0:=by
 have e1:(x1*4294967296)*(y1*4294967296)=x1*y1*18446744073709551616:=by
   rw [show x1*4294967296*(y1*4294967296)=x1*y1*(4294967296*4294967296) by rw [Int.mul_assoc,Int.mul_left_comm 4294967296,<-Int.mul_assoc]];rfl
 rw [Int.mul_add,Int.add_mul,Int.add_mul,e1,Int.add_mul];have e2:x0*(y1*4294967296)=x0*y1*4294967296:=by rw [Int.mul_assoc]
 have e3:x1*4294967296*y0=x1*y0*4294967296:=by rw [Int.mul_assoc,Int.mul_comm 4294967296,<-Int.mul_assoc]
 rw [e2,e3];omega
theorem DE {a b c d:Int} (h1:a<=c) (h2:b<=d) (h0:0<=b) (h3:0<=c):a*b<=c*d:=Int.le_trans (Int.mul_le_mul_of_nonneg_right h1 h0) (Int.mul_le_mul_of_nonneg_left h2 h3)
theorem jD (x y:Int) (hx:0<=x/\x<=1099511627776) (hy:0<=y/\y<=1099511627776):Ct prog 186 [vu x,vu y] (.tup [vu (x*y/18446744073709551616),vu (x*y%18446744073709551616)]) []:=by
 refine CB func186 c186 fun E hE=>?_
 obtain ⟨x1,x0,rfl,hx1,hx1',hx0,hx0'⟩:∃ x1 x0:Int,x=x1*4294967296+x0/\0<=x1/\x1<=256/\0<=x0/\x0<4294967296:=⟨x/4294967296,x%4294967296,by omega,by omega,by omega,by omega,by omega⟩
 obtain ⟨y1,y0,rfl,hy1,hy1',hy0,hy0'⟩:∃ y1 y0:Int,y=y1*4294967296+y0/\0<=y1/\y1<=256/\0<=y0/\y0<4294967296:=⟨y/4294967296,y%4294967296,by omega,by omega,by omega,by omega,by omega⟩
 have a1:bits .and .u64 (x1*4294967296+x0) 4294967295=x0:=by rw [GA (by omega) (by omega)];omega
 have a2:bits .and .u64 (y1*4294967296+y0) 4294967295=y0:=by rw [GA (by omega) (by omega)];omega
 have a3:(x1*4294967296+x0)/4294967296=x1:=by omega
 have a4:(y1*4294967296+y0)/4294967296=y1:=by omega
 have m:=UL x1 x0 y1 y0;have b11:x1*y1<=256*256:=DE hx1' hy1' hy1 (by omega);have b10:x1*y0<=256*4294967295:=DE hx1' (by omega) hy0 (by omega);have b01:x0*y1<=4294967295*256:=DE (by omega) hy1' hy1 (by omega);have b00:x0*y0<=4294967295*4294967295:=DE (by omega) (by omega) hy0 (by omega);have c11:=Int.mul_nonneg hx1 hy1;have c10:=Int.mul_nonneg hx1 hy0;have c01:=Int.mul_nonneg hx0 hy1;have c00:=Int.mul_nonneg hx0 hy0
 generalize hp11:x1*y1=p11 at*
 generalize hp10:x1*y0=p10 at*
 generalize hp01:x0*y1=p01 at*
 generalize hp00:x0*y0=p00 at*
 have e1:IntKind.wrap .u64 p00=p00:=Ay (by omega) (by omega);have e2:IntKind.wrap .u64 p10=p10:=Ay (by omega) (by omega);have e3:IntKind.wrap .u64 p01=p01:=Ay (by omega) (by omega);have e4:IntKind.wrap .u64 p11=p11:=Ay (by omega) (by omega);have e5:IntKind.wrap .u64 (p10+p00/4294967296)=p10+p00/4294967296:=Ay (by omega) (by omega);have e6:bits .and .u64 (p10+p00/4294967296) 4294967295=(p10+p00/4294967296)%4294967296:=GA (by omega) (by omega);have e7:IntKind.wrap .u64 ((p10+p00/4294967296)%4294967296+p01)=(p10+p00/4294967296)%4294967296+p01:=Ay (by omega) (by omega);have e8:IntKind.wrap .u64 (p11+(p10+p00/4294967296)/4294967296)=p11+(p10+p00/4294967296)/4294967296:=Ay (by omega) (by omega);have e9:IntKind.wrap .u64 (p11+(p10+p00/4294967296)/4294967296+((p10+p00/4294967296)%4294967296+p01)/4294967296)=p11+(p10+p00/4294967296)/4294967296+((p10+p00/4294967296)%4294967296+p01)/4294967296:=Ay (by omega) (by omega);simp [p186,a1,a2,a3,a4,hp11,hp10,hp01,hp00,e1,e2,e3,e4,e5,e6,e7,e8,e9];apply RZ;simp [results186];rw [m];refine ⟨by omega,?_⟩;rw [Bl]
def Bp (x:Int):Int:=if x=0 then 0 else (Nat.log2 x.toNat:Int)+1
theorem ANI (n k:Nat) (h:2^k<=n):Nat.log2 n=Nat.log2 (n/2^k)+k:=by
 induction k generalizing n with
 | zero=>simp
 | succ k ih=>
   have h2:2<=n:=by
     have:2^1<=2^(k+1):=Nat.pow_le_pow_right (by omega) (by omega);omega
   have h1:Nat.log2 n=Nat.log2 (n/2)+1:=by rw [Nat.log2_def];simp [h2]
   rw [h1,ih (n/2) (by rw [Nat.pow_succ] at h;omega),Nat.div_div_eq_div_mul,Nat.pow_succ,Nat.mul_comm 2];omega
theorem Fv (x:Int) (k:Nat) (h:2^k<=x):Bp (x/2^k)+k=Bp x:=by
 obtain ⟨n,rfl⟩:=Int.eq_ofNat_of_zero_le (show 0<=x from Int.le_trans (Int.pow_nonneg (by decide)) h);have h':2^k<=n:=by exact_mod_cast h
 have hp:0<2^k:=Nat.pow_pos (by omega);have e:((n:Int)/2^k)=((n/2^k:Nat):Int):=by push_cast;rfl
 have h1:1<=n/2^k:=by rw [Nat.le_div_iff_mul_le hp];omega
 rw [e];unfold Bp;rw [if_neg (by omega),if_neg (by omega)];simp only [Int.toNat_natCast];rw [ANI n k h'];omega
theorem II (x:Int) (h:1<=x):2^(Bp x-1).toNat<=x/\x<2^(Bp x).toNat/\1<=Bp x:=by
 obtain ⟨n,rfl⟩:=Int.eq_ofNat_of_zero_le (show 0<=x by omega);unfold Bp;rw [if_neg (by omega)];have e1:(((Nat.log2 (n:Int).toNat:Nat):Int)+1-1).toNat=Nat.log2 n:=by simp
 have e2:(((Nat.log2 (n:Int).toNat:Nat):Int)+1).toNat=Nat.log2 n+1:=by simp
 rw [e1,e2];have h1:=Nat.log2_self_le (n:=n) (by omega);have h2:=Nat.lt_log2_self (n:=n);refine ⟨by exact_mod_cast h1,by exact_mod_cast h2,by omega⟩
theorem Ye:∀ m:Fin 256,(⟨#[0,1,2,2,3,3,3,3,4,4,4,4,4,4,4,4,5,5,5,5,5,5,5,5,5,5,5,5,5,5,5,5,6,6,6,6,6,6,6,6,6,6,6,6,6,6,6,6,6,6,6,6,6,6,6,6,6,6,6,6,6,6,6,6,7,7,7,7,7,7,7,7,7,7,7,7,7,7,7,7,7,7,7,7,7,7,7,7,7,7,7,7,7,7,7,7,7,7,7,7,7,7,7,7,7,7,7,7,7,7,7,7,7,7,7,7,7,7,7,7,7,7,7,7,7,7,7,7,8,8,8,8,8,8,8,8,8,8,8,8,8,8,8,8,8,8,8,8,8,8,8,8,8,8,8,8,8,8,8,8,8,8,8,8,8,8,8,8,8,8,8,8,8,8,8,8,8,8,8,8,8,8,8,8,8,8,8,8,8,8,8,8,8,8,8,8,8,8,8,8,8,8,8,8,8,8,8,8,8,8,8,8,8,8,8,8,8,8,8,8,8,8,8,8,8,8,8,8,8,8,8,8,8,8,8,8,8,8,8,8,8,8,8,8,8,8,8,8,8,8,8,8,8,8,8,8]⟩:ByteArray)[m.val]?.map (·.toNat)=some (Bp m.val).toNat:=by decide+kernel
theorem fA (n:Nat) (h:n<256):∃ b,(⟨#[0,1,2,2,3,3,3,3,4,4,4,4,4,4,4,4,5,5,5,5,5,5,5,5,5,5,5,5,5,5,5,5,6,6,6,6,6,6,6,6,6,6,6,6,6,6,6,6,6,6,6,6,6,6,6,6,6,6,6,6,6,6,6,6,7,7,7,7,7,7,7,7,7,7,7,7,7,7,7,7,7,7,7,7,7,7,7,7,7,7,7,7,7,7,7,7,7,7,7,7,7,7,7,7,7,7,7,7,7,7,7,7,7,7,7,7,7,7,7,7,7,7,7,7,7,7,7,7,8,8,8,8,8,8,8,8,8,8,8,8,8,8,8,8,8,8,8,8,8,8,8,8,8,8,8,8,8,8,8,8,8,8,8,8,8,8,8,8,8,8,8,8,8,8,8,8,8,8,8,8,8,8,8,8,8,8,8,8,8,8,8,8,8,8,8,8,8,8,8,8,8,8,8,8,8,8,8,8,8,8,8,8,8,8,8,8,8,8,8,8,8,8,8,8,8,8,8,8,8,8,8,8,8,8,8,8,8,8,8,8,8,8,8,8,8,8,8,8,8,8,8,8,8,8,8,8]⟩:ByteArray)[n]?= some b/\(b.toNat:Int)=Bp n:=by
 have:=Ye ⟨n,h⟩;simp only [Option.map_eq_some_iff] at this;obtain ⟨b,h1,h2⟩:=this;refine ⟨b,h1,?_⟩;rw [h2];have:0<=Bp n:=by unfold Bp;split<;>omega
 omega
theorem ro (x:Int) (hx:0<=x/\x<=18446744073709551615):Ct prog 210 [vu x] (vi (Bp x)) []:=by
 refine CB func210 c210 fun E hE=>?_
 have fin:∀ (y c:Int),0<=y->y<256->0<=c->c<=56->Bp y+c=Bp x->∃ b,(⟨#[0,1,2,2,3,3,3,3,4,4,4,4,4,4,4,4,5,5,5,5,5,5,5,5,5,5,5,5,5,5,5,5,6,6,6,6,6,6,6,6,6,6,6,6,6,6,6,6,6,6,6,6,6,6,6,6,6,6,6,6,6,6,6,6,7,7,7,7,7,7,7,7,7,7,7,7,7,7,7,7,7,7,7,7,7,7,7,7,7,7,7,7,7,7,7,7,7,7,7,7,7,7,7,7,7,7,7,7,7,7,7,7,7,7,7,7,7,7,7,7,7,7,7,7,7,7,7,7,8,8,8,8,8,8,8,8,8,8,8,8,8,8,8,8,8,8,8,8,8,8,8,8,8,8,8,8,8,8,8,8,8,8,8,8,8,8,8,8,8,8,8,8,8,8,8,8,8,8,8,8,8,8,8,8,8,8,8,8,8,8,8,8,8,8,8,8,8,8,8,8,8,8,8,8,8,8,8,8,8,8,8,8,8,8,8,8,8,8,8,8,8,8,8,8,8,8,8,8,8,8,8,8,8,8,8,8,8,8,8,8,8,8,8,8,8,8,8,8,8,8,8,8,8,8,8,8]⟩:ByteArray)[y.toNat]?= some b/\IntKind.wrap .u8 y=y/\IntKind.wrap .i64 (b.toNat:Int)=(b.toNat:Int)/\IntKind.wrap .i64 (c+(b.toNat:Int))=Bp x/\0<=y:=fun y c h0 h1 h2 h3 h4=>by
   obtain ⟨b,q1,q2⟩:=fA y.toNat (by omega);have hb:(b.toNat:Int)<256:=by have:=b.toNat_lt;omega
   rw [Int.toNat_of_nonneg h0] at q2;exact ⟨b,q1,by simp [IntKind.wrap,IntKind.bits,IntKind.signed];omega,AD (by omega) (by omega),by rw [AD (by omega) (by omega)];omega,h0⟩
 have e16:IntKind.wrap .i64 16=16:=by decide
 have e8:IntKind.wrap .i64 8=8:=by decide
 have e48:IntKind.wrap .i64 48=48:=by decide
 have e40:IntKind.wrap .i64 40=40:=by decide
 have e24:IntKind.wrap .i64 24=24:=by decide
 have e56:IntKind.wrap .i64 56=56:=by decide
 have s8:=fun (y:Int) (h:256<=y)=>Fv y 8 (by simpa using h)
 have s16:=fun (y:Int) (h:65536<=y)=>Fv y 16 (by simpa using h)
 have s32:=fun (y:Int) (h:4294967296<=y)=>Fv y 32 (by simpa using h)
 simp at s8 s16 s32;by_cases h1:4294967296<=x
 . have q1:=s32 x h1
   by_cases h2:65536<=x/4294967296
   . have q2:=s16 _ h2
     by_cases h3:256<=x/4294967296/65536
     . have q3:=s8 _ h3
       obtain ⟨b,r1,r2,r3,r4,r0⟩:=fin (x/4294967296/65536/256) 56 (by omega) (by omega) (by omega) (by omega) (by omega);simp [p210,h1,h2,h3,r0,r1,r2,r3,e48,e56];apply RZ;simp [results210,r4]
     . obtain ⟨b,r1,r2,r3,r4,r0⟩:=fin (x/4294967296/65536) 48 (by omega) (by omega) (by omega) (by omega) (by omega)
       simp [p210,h1,h2,h3,r0,r1,r2,r3,e48];apply RZ;simp [results210,r4]
   . by_cases h3:256<=x/4294967296
     . have q3:=s8 _ h3
       obtain ⟨b,r1,r2,r3,r4,r0⟩:=fin (x/4294967296/256) 40 (by omega) (by omega) (by omega) (by omega) (by omega);simp [p210,h1,h2,h3,r0,r1,r2,r3,e40];apply RZ;simp [results210,r4]
     . obtain ⟨b,r1,r2,r3,r4,r0⟩:=fin (x/4294967296) 32 (by omega) (by omega) (by omega) (by omega) (by omega)
       simp [p210,h1,h2,h3,r0,r1,r2,r3];apply RZ;simp [results210,r4]
 . by_cases h2:65536<=x
   . have q2:=s16 _ h2
     by_cases h3:256<=x/65536
     . have q3:=s8 _ h3
       obtain ⟨b,r1,r2,r3,r4,r0⟩:=fin (x/65536/256) 24 (by omega) (by omega) (by omega) (by omega) (by omega);simp [p210,h1,h2,h3,r0,r1,r2,r3,e16,e24];apply RZ;simp [results210,r4]
     . obtain ⟨b,r1,r2,r3,r4,r0⟩:=fin (x/65536) 16 (by omega) (by omega) (by omega) (by omega) (by omega)
       simp [p210,h1,h2,h3,r0,r1,r2,r3,e16];apply RZ;simp [results210,r4]
   . by_cases h3:256<=x
     . have q3:=s8 _ h3
       obtain ⟨b,r1,r2,r3,r4,r0⟩:=fin (x/256) 8 (by omega) (by omega) (by omega) (by omega) (by omega);simp [p210,h1,h2,h3,r0,r1,r2,r3,e8];apply RZ;simp [results210,r4]
     . obtain ⟨b,r1,r2,r3,r4,r0⟩:=fin x 0 (by omega) (by omega) (by omega) (by omega) (by omega)
       rw [Int.zero_add,r3] at r4;simp [p210,h1,h2,h3,r0,r1,r2,r3];apply RZ;simp [results210,r4]
theorem Oh (x:Int) (h0:0<=x) (h1:x<=18446744073709551615):0<=Bp x/\Bp x<=64:=by
 by_cases h:x=0
 . subst h;decide
 . obtain ⟨q1,q2,q3⟩:=II x (by omega)
   refine ⟨by omega,?_⟩
   have:¬ 65<=Bp x:=fun hh=>by
     have h2:(2:Int)^64<=2^(Bp x-1).toNat:=by
       have:2^64<=2^(Bp x-1).toNat:=Nat.pow_le_pow_right (by omega) (by omega)
       exact_mod_cast this
     have:(2:Int)^64=18446744073709551616:=by decide
     omega
   omega
theorem ASH (x:Int) (hx:0<=x/\x<=18446744073709551615):Ct prog 198 [vu x] (vi (64-Bp x)) []:=by
 refine CB func198 c198 fun E hE=>?_
 simp [p198];refine CLa (ro x hx) ?_;have:=Oh x hx.1 hx.2;have e:IntKind.wrap .i64 (64-Bp x)=64-Bp x:=AD (by omega) (by omega);simp [e];apply RZ;simp [results198]
theorem bg {u v D:Int} (hD:0<D) (hu:u<D) (hv:v<4294967296):(u*4294967296+v)/D<4294967296:=by
 rw [Int.ediv_lt_iff_lt_mul hD];have:u*4294967296+4294967296<=4294967296*D:=by omega
 omega
theorem LJ (s:Nat):(1:Int)<=2^s:=by
 have:0<2^s:=Nat.pow_pos (by omega)
 exact_mod_cast this
theorem WF (s t n:Nat) (h:s+t=n):(2:Int)^s*2^t=2^n:=by rw [<-h,Int.pow_add]
theorem APT (lo y:Int) (hlo:0<=lo/\lo<=18446744073709551615) (hy:1<=y/\y<=18446744073709551615):Ct prog 188 [vu 0,vu lo,vu y] (.tup [vu (lo/y),vu (lo%y)]) []:=by
 refine CB func188 ASi fun E hE=>?_
 have h1:(y == 0)=false:=by simp;omega
 have h2:decide (y<=0)=false:=by simp;omega
 have h3:¬ y=0:=by omega
 have h5:¬ y<=0:=by omega
 have q0:0<=lo/y:=Int.ediv_nonneg hlo.1 (by omega);have q1:lo/y<=lo:=Int.ediv_le_self _ hlo.1;have e1:lo.tdiv y=lo/y:=Int.tdiv_eq_ediv_of_nonneg hlo.1;have e2:lo.tmod y=lo%y:=Int.tmod_eq_emod_of_nonneg hlo.1;have e3:IntKind.wrap .u64 (lo/y)=lo/y:=Ay q0 (by omega);simp [p188,h3,h5,e1,e2,e3];apply RZ;simp [results188]
theorem jE (hi lo y:Int) (hhi:1<=hi/\hi<y) (hlo:0<=lo/\lo<=18446744073709551615) (hy:y<=18446744073709551615):Ct prog 188 [vu hi,vu lo,vu y] (.tup [vu ((hi*18446744073709551616+lo)/y),vu ((hi*18446744073709551616+lo)%y)]) []:=by
 refine CB func188 ASi fun E hE=>?_
 have h3:¬ y=0:=by omega
 have h5:¬ y<=hi:=by omega
 have h6:¬ hi=0:=by omega
 simp [p188,h3,h5,h6];refine CLa (ASH y (by omega)) ?_;obtain ⟨b1,b2,b3⟩:=II y (by omega);obtain ⟨b4,b5⟩:=Oh y (by omega) hy;obtain ⟨S,hS,hS2⟩:∃ S:Nat,64-Bp y=S/\S<=63:=⟨(64-Bp y).toNat,by omega,by omega⟩
 obtain ⟨T,hT⟩:∃ T:Nat,S+T=64:=⟨64-S,by omega⟩
 have p1:(2:Int)^S*2^T=18446744073709551616:=by rw [WF S T 64 hT];rfl
 have p2:=LJ S;have p3:=LJ T;have w1:IntKind.wrap .u64 (S:Int)=S:=Ay (by omega) (by omega);have w2:IntKind.wrap .u64 (64-(S:Int))=T:=by rw [Ay (by omega) (by omega)];omega
 have eL:(Bp y).toNat=T:=by omega
 have eL1:(2:Int)^(Bp y-1).toNat*2=2^T:=by
   obtain ⟨T',rfl⟩:∃ T',T=T'+1:=⟨T-1,by omega⟩
   rw [show (Bp y-1).toNat=T' by omega,Int.pow_succ]
 rw [eL] at b2;have d1:y*2^S<18446744073709551616:=by rw [<-p1,Int.mul_comm];exact Int.mul_lt_mul_of_pos_left b2 (by omega)
 have d2:9223372036854775808<=y*2^S:=by
   have:2^T*2^S<=y*2*2^S:=Int.mul_le_mul_of_nonneg_right (by omega) (by omega);rw [Int.mul_comm (2^T),p1] at this;have e:y*2*2^S=2*(y*2^S):=by rw [Int.mul_comm y 2,Int.mul_assoc]
   omega
 have d3:hi*2^S+2^S<=y*2^S:=by
   have:(hi+1)*2^S<=y*2^S:=Int.mul_le_mul_of_nonneg_right (by omega) (by omega);rw [Int.add_mul,Int.one_mul] at this;exact this
 have d4:0<=hi*2^S:=Int.mul_nonneg (by omega) (by omega)
 obtain ⟨lh,ll,hl,l1,l2,l3,l4⟩:∃ lh ll:Int,lo=lh*2^T+ll/\0<=lh/\lh<2^S/\0<=ll/\ll<2^T:=by
   refine ⟨lo/2^T,lo%2^T,by rw [Int.mul_comm];exact (Int.mul_ediv_add_emod lo (2^T)).symm,Int.ediv_nonneg hlo.1 (by omega),?_,Int.emod_nonneg _ (by omega),Int.emod_lt_of_pos _ (by omega)⟩;rw [Int.ediv_lt_iff_lt_mul (by omega),p1];omega
 have l5:lo/2^T=lh:=by
   rw [hl,Int.add_comm,Int.add_mul_ediv_right _ _ (by omega),Int.ediv_eq_zero_of_lt l3 l4];omega
 have l6:lo*2^S=lh*18446744073709551616+ll*2^S:=by
   rw [hl,Int.add_mul,Int.mul_assoc,Int.mul_comm (2^T),p1]
 have l7:ll*2^S+2^S<=18446744073709551616:=by
   have:(ll+1)*2^S<=2^T*2^S:=Int.mul_le_mul_of_nonneg_right (by omega) (by omega);rw [Int.add_mul,Int.one_mul,Int.mul_comm (2^T),p1] at this;exact this
 have l8:0<=ll*2^S:=Int.mul_nonneg l3 (by omega)
 have hU:(hi*18446744073709551616+lo)*2^S=(hi*2^S+lh)*18446744073709551616+ll*2^S:=by
   rw [Int.add_mul,l6,Int.add_mul,Int.mul_right_comm];omega
 have hor:bits .or .u64 (hi*2^S) lh=hi*2^S+lh:=kl S (by omega) l1 l2 (by omega);have v1:IntKind.wrap .u64 (y*2^S)=y*2^S:=Ay (by omega) (by omega);have v2:IntKind.wrap .u64 (hi*2^S)=hi*2^S:=Ay (by omega) (by omega);have v3:IntKind.wrap .u64 (lo*2^S)=ll*2^S:=by rw [Bl,l6];omega
 have c1:(0:Int)<=S/\(S:Int)<=64:=by omega
 have c2:(0:Int)<=T/\(T:Int)<=64:=by omega
 have hN:∀ q r,(hi*18446744073709551616+lo)*2^S=q*(y*2^S)+r->0<=r->r<y*2^S->q=(hi*18446744073709551616+lo)/y/\r/2^S=(hi*18446744073709551616+lo)%y:=fun q r h1 h2 h3=>by
   generalize hi*18446744073709551616+lo=N at*
   have hq:q=N/y:=by
     have e:N*2^S/(y*2^S)=N/y:=Int.mul_ediv_mul_of_pos_left _ _ (by omega);rw [<-e,h1,Int.add_comm,Int.add_mul_ediv_right _ _ (by omega),Int.ediv_eq_zero_of_lt h2 h3];omega
   refine ⟨hq,?_⟩;have e2:N*2^S=(q*y)*2^S+r:=by rw [h1,Int.mul_assoc]
   have e3:r=(N-q*y)*2^S:=by rw [Int.sub_mul];omega
   rw [e3,Int.mul_ediv_cancel _ (by omega),hq,Int.emod_def,Int.mul_comm]
 simp [hS,w1,w2,c1.1,c1.2,c2.1,c2.2,v1,v2,v3,l5,hor]
 generalize y*2^S=D at*
 generalize hu:hi*2^S+lh=u at*
 generalize ll*2^S=w at*
 have m1:bits .and .u64 D 4294967295=D%4294967296:=GA (by omega) (by omega);have m2:bits .and .u64 w 4294967295=w%4294967296:=GA (by omega) (by omega);obtain ⟨y1,y0,hy1,hy0⟩:∃ y1 y0:Int,D/4294967296=y1/\D%4294967296=y0:=⟨_,_,rfl,rfl⟩
 obtain ⟨w1',w0,hw1,hw0⟩:∃ w1 w0:Int,w/4294967296=w1/\w%4294967296=w0:=⟨_,_,rfl,rfl⟩
 have hDe:D=y1*4294967296+y0:=by omega
 have hy1n:¬ y1=0:=by omega
 have hu0:0<=u:=by omega
 have huD:u<D:=by omega
 have td:∀ a:Int,0<=a->a.tdiv y1=a/y1:=fun a ha=>Int.tdiv_eq_ediv_of_nonneg ha
 have dv:∀ a:Int,0<=a->0<=a/y1/\a/y1<=a/\a/y1*y1+a%y1=a/\0<=a%y1/\a%y1<y1:=fun a ha=>⟨Int.ediv_nonneg ha (by omega),Int.ediv_le_self _ ha,by rw [Int.mul_comm];exact Int.mul_ediv_add_emod a y1,Int.emod_nonneg _ hy1n,Int.emod_lt_of_pos _ (by omega)⟩
 have dq:∀ a v:Int,0<=a->0<=v->v<4294967296->(a*4294967296+v)/D<=a/y1:=fun a v ha hv hv'=>by
   obtain ⟨z1,z2,z3,z4,z5⟩:=dv a ha
   have hlt:(a*4294967296+v)/D<a/y1+1:=by
     rw [Int.ediv_lt_iff_lt_mul (by omega),hDe]
     have e:(a/y1+1)*(y1*4294967296+y0)=(a/y1*y1)*4294967296+y1*4294967296+(a/y1+1)*y0:=by
       rw [Int.add_mul,Int.one_mul,Int.mul_add,<-Int.mul_assoc,Int.add_mul,Int.one_mul];omega
     have:0<=(a/y1+1)*y0:=Int.mul_nonneg (by omega) (by omega);omega
   omega
 obtain ⟨z1,z2,z3,z4,z5⟩:=dv u hu0;have k1:IntKind.wrap .u64 (u/y1)=u/y1:=Ay z1 (by omega);have k2:IntKind.wrap .u64 (u/y1*y1)=u/y1*y1:=Ay (Int.mul_nonneg z1 (by omega)) (by omega);have k3:IntKind.wrap .u64 (u-u/y1*y1)=u-u/y1*y1:=Ay (by omega) (by omega);simp [m1,m2,hy1,hy0,hw1,hw0,hy1n,td u hu0,k1,k2,k3]
 have loopy:∀ a v:Int,0<=a->a<D->0<=v->v<4294967296->∃ Q:Int,Q=(a*4294967296+v)/D/\0<=Q/\Q<4294967296/\Q*D<=a*4294967296+v/\a*4294967296+v<Q*D+D/\Q<=a/y1/\
     (∀ q r,Q<=q->q*y1+r=a->4294967296<=q\/4294967296*r+v<q*y0->Q<=q-1)/\(∀ q r,Q<=q->q*y1+r=a->q*y0<=4294967296*r+v->q=Q)/\(∀ q r,0<=q->q*y1+r=a->4294967296<=r->q*y0<=4294967296*r+v):=fun a v ha haD hv hv'=>by
   refine ⟨_,rfl,Int.ediv_nonneg (by omega) (by omega),bg (by omega) haD hv',Int.ediv_mul_le _ (by omega),?_,dq a v ha hv hv',fun q r h1 h2 h3=>?_,fun q r h1 h2 h3=>?_,fun q r h1 h2 h3=>?_⟩
   . have:=Int.lt_ediv_add_one_mul_self (a*4294967296+v) (show 0<D by omega)
     rw [Int.add_mul,Int.one_mul] at this;exact this
   . rw [hDe] at h1 ⊢
     exact Q8 (by omega) (by omega) (by omega) (by omega) ha (by omega) hv hv' h1 h2 h3
   . rw [hDe] at h1 ⊢
     exact Q9 (by omega) (by omega) (by omega) h1 h2 h3
   . exact O0 (by omega) (by omega) (by omega) h1 (by omega:a<y1*4294967296+y0) hv h2 h3
 obtain ⟨Q1,_,a1,a2,a3,a4,a5,st1,dn1,br1⟩:=loopy u w1' hu0 huD (by omega) (by omega)
 refine BL (α:=Int × Int) 0 (fun _:Unit=>⟨AO [(2,vu D),(8,vu S),(9,vu y1),(10,vu y0),(11,vu u),(13,vu w1'),(14,vu w0),(15,vu Q1)],lk [],0⟩) (fun _=>True) (fun x=>⟨AO [(2,vu D),(8,vu S),(9,vu y1),(10,vu y0),(11,vu u),(13,vu w1'),(14,vu w0),(15,vu x.1),(16,vu x.2)],lk [],0⟩)
   (fun x=>Q1<=x.1/\x.1*y1+x.2=u/\0<=x.2/\x.2<4294967296/\x.1<=u) (fun x=>x.1.toNat) (u/y1,u-u/y1*y1) ?_ ?_ ?_ fun _ _=>?_
 . exact ⟨a5,by simp only;omega,by simp only;omega,by simp only;omega,z2⟩
 . exact WK hE (fun _=>none)
 . rintro ⟨q,r⟩ ⟨i1,i2,i3,i4,i5⟩
   simp only at i1 i2 i3 i4 i5;have step:=st1 q r i1 i2;have g1:IntKind.wrap .u64 (r+y1)=r+y1:=Ay (by omega) (by omega);have g2:(q-1)*y1+(r+y1)=u:=by rw [Int.sub_mul];omega
   have go:Q1<=q-1->IntKind.wrap .u64 (q-1)=q-1:=fun h=>Ay (by omega) (by omega)
   by_cases hc1:4294967296<=q
   . have h1:=step (.inl hc1)
     by_cases hb:4294967296<=r+y1
     . have:=dn1 _ _ h1 g2 (br1 _ _ (by omega) g2 hb)
       simp [AMJ,hc1,go h1,g1,hb];refine AI.mk hE (fun _=>none) _ _ _ ?_ ?_ ?_ ?_ ?_<;>simp [this]
     . simp [AMJ,hc1,go h1,g1,hb]
       refine ⟨q-1,r+y1,⟨h1,g2,by omega,by omega,by omega⟩,by omega,?_⟩;exact WK hE (fun _=>none)
   . have n1:0<=q*y0:=Int.mul_nonneg (by omega) (by omega)
     have n2:q*y0<=4294967295*4294967295:=DE (by omega) (by omega) (by omega) (by omega);have j1:IntKind.wrap .u64 (q*y0)=q*y0:=Ay n1 (by omega);have j2:IntKind.wrap .u64 (4294967296*r)=4294967296*r:=Ay (by omega) (by omega);have j3:IntKind.wrap .u64 (4294967296*r+w1')=4294967296*r+w1':=Ay (by omega) (by omega);by_cases hc2:4294967296*r+w1' < q*y0
     . have h1:=step (.inr hc2)
       by_cases hb:4294967296<=r+y1
       . have:=dn1 _ _ h1 g2 (br1 _ _ (by omega) g2 hb)
         simp [AMJ,hc1,hc2,j1,j2,j3,go h1,g1,hb];refine AI.mk hE (fun _=>none) _ _ _ ?_ ?_ ?_ ?_ ?_<;>simp [this]
       . simp [AMJ,hc1,hc2,j1,j2,j3,go h1,g1,hb]
         refine ⟨q-1,r+y1,⟨h1,g2,by omega,by omega,by omega⟩,by omega,?_⟩;exact WK hE (fun _=>none)
     . have:=dn1 _ _ i1 i2 (by omega)
       simp [AMJ,hc1,hc2,j1,j2,j3];refine AI.mk hE (fun _=>none) _ _ _ ?_ ?_ ?_ ?_ ?_<;>simp [this]
 obtain ⟨R,hR⟩:∃ R:Int,R=u*4294967296+w1' - Q1*D:=⟨_,rfl⟩
 have k4:IntKind.wrap .u64 (IntKind.wrap .u64 (IntKind.wrap .u64 (u*4294967296)+w1')-IntKind.wrap .u64 (Q1*D))=R:=by
   rw [Bl,Bl,Bl,Bl];omega
 have hR0:0<=R/\R<D:=by omega
 obtain ⟨x1,x2,x3,x4,x5⟩:=dv R hR0.1;have k5:IntKind.wrap .u64 (R/y1)=R/y1:=Ay x1 (by omega);have k6:IntKind.wrap .u64 (R/y1*y1)=R/y1*y1:=Ay (Int.mul_nonneg x1 (by omega)) (by omega);have k7:IntKind.wrap .u64 (R-R/y1*y1)=R-R/y1*y1:=Ay (by omega) (by omega);simp [k4,hy1n,td R hR0.1,k5,k6,k7];obtain ⟨Q0,_,c1,c2,c3,c4,c5,st0,dn0,br0⟩:=loopy R w0 hR0.1 hR0.2 (by omega) (by omega)
 refine BL (α:=Int × Int) 2 (fun _:Unit=>⟨AO [(2,vu D),(8,vu S),(14,vu w0),(15,vu Q1),(17,vu R),(18,vu Q0)],lk [],0⟩) (fun _=>True) (fun x=>⟨AO [(2,vu D),(8,vu S),(9,vu y1),(10,vu y0),(14,vu w0),(15,vu Q1),(17,vu R),(18,vu x.1),(16,vu x.2)],lk [],0⟩)
   (fun x=>Q0<=x.1/\x.1*y1+x.2=R/\0<=x.2/\x.2<4294967296/\x.1<=R) (fun x=>x.1.toNat) (R/y1,R-R/y1*y1) ?_ ?_ ?_ fun _ _=>?_
 . exact ⟨c5,by simp only;omega,by simp only;omega,by simp only;omega,x2⟩
 . exact WK hE (fun _=>none)
 . rintro ⟨q,r⟩ ⟨i1,i2,i3,i4,i5⟩
   simp only at i1 i2 i3 i4 i5;have step:=st0 q r i1 i2;have g1:IntKind.wrap .u64 (r+y1)=r+y1:=Ay (by omega) (by omega);have g2:(q-1)*y1+(r+y1)=R:=by rw [Int.sub_mul];omega
   have go:Q0<=q-1->IntKind.wrap .u64 (q-1)=q-1:=fun h=>Ay (by omega) (by omega)
   by_cases hc1:4294967296<=q
   . have h1:=step (.inl hc1)
     by_cases hb:4294967296<=r+y1
     . have:=dn0 _ _ h1 g2 (br0 _ _ (by omega) g2 hb)
       simp [AMK,hc1,go h1,g1,hb];refine AI.mk hE (fun _=>none) _ _ _ ?_ ?_ ?_ ?_ ?_<;>simp [this]
     . simp [AMK,hc1,go h1,g1,hb]
       refine ⟨q-1,r+y1,⟨h1,g2,by omega,by omega,by omega⟩,by omega,?_⟩;exact WK hE (fun _=>none)
   . have n1:0<=q*y0:=Int.mul_nonneg (by omega) (by omega)
     have n2:q*y0<=4294967295*4294967295:=DE (by omega) (by omega) (by omega) (by omega);have j1:IntKind.wrap .u64 (q*y0)=q*y0:=Ay n1 (by omega);have j2:IntKind.wrap .u64 (4294967296*r)=4294967296*r:=Ay (by omega) (by omega);have j3:IntKind.wrap .u64 (4294967296*r+w0)=4294967296*r+w0:=Ay (by omega) (by omega);by_cases hc2:4294967296*r+w0<q*y0
     . have h1:=step (.inr hc2)
       by_cases hb:4294967296<=r+y1
       . have:=dn0 _ _ h1 g2 (br0 _ _ (by omega) g2 hb)
         simp [AMK,hc1,hc2,j1,j2,j3,go h1,g1,hb];refine AI.mk hE (fun _=>none) _ _ _ ?_ ?_ ?_ ?_ ?_<;>simp [this]
       . simp [AMK,hc1,hc2,j1,j2,j3,go h1,g1,hb]
         refine ⟨q-1,r+y1,⟨h1,g2,by omega,by omega,by omega⟩,by omega,?_⟩;exact WK hE (fun _=>none)
     . have:=dn0 _ _ i1 i2 (by omega)
       simp [AMK,hc1,hc2,j1,j2,j3];refine AI.mk hE (fun _=>none) _ _ _ ?_ ?_ ?_ ?_ ?_<;>simp [this]
 obtain ⟨R0,hR0'⟩:∃ R0:Int,R0=R*4294967296+w0-Q0*D:=⟨_,rfl⟩
 have k8:IntKind.wrap .u64 (IntKind.wrap .u64 (IntKind.wrap .u64 (R*4294967296)+w0)-IntKind.wrap .u64 (Q0*D))=R0:=by
   rw [Bl,Bl,Bl,Bl];omega
 have k9:IntKind.wrap .u64 (Q1*4294967296)=Q1*4294967296:=Ay (by omega) (by omega);have k10:IntKind.wrap .u64 (Q1*4294967296+Q0)=Q1*4294967296+Q0:=Ay (by omega) (by omega);have e5:(Q1*4294967296+Q0)*D=(Q1*D)*4294967296+Q0*D:=by rw [Int.add_mul,Int.mul_right_comm]
 obtain ⟨n1,n2⟩:=hN (Q1*4294967296+Q0) R0 (by rw [hU,e5];omega) (by omega) (by omega);simp [k8,k9,k10,show (0:Int)<=S by omega,show (S:Int)<=64 by omega];apply RZ;simp [results188,n1,n2]
def Da (P z:Int):Int × Int:=if P/z<2199023255552 then (P/z,P%z) else (2199023255552,0)
def upS (q:Int × Int):Int:=if 0<q.2 then q.1+1 else q.1
def Eg (x y z:Int):Int × Int:=
 let q:=Da (max x (-x)*max y (-y)) z
 if decide (x<0) != decide (y<0) then (-(upS q), -q.1) else (q.1,upS q)
theorem Nm {P z:Int} (hP:0<=P) (hz:1<=z):0<=(Da P z).1/\(Da P z).1<=2199023255552:=by
 have:=Int.ediv_nonneg hP (show 0<=z by omega);unfold Da;split<;>simp<;>omega
theorem AIG {x y:Int} (hx: -1099511627776<=x/\x<=1099511627776) (hy: -1099511627776<=y/\y<=1099511627776):0<=max x (-x)*max y (-y)/\max x (-x)*max y (-y)<=1208925819614629174706176:=by
 refine ⟨Int.mul_nonneg (by omega) (by omega),?_⟩;have:=DE (a:=max x (-x)) (b:=max y (-y)) (c:=1099511627776) (d:=1099511627776) (by omega) (by omega) (by omega) (by omega);omega
theorem qp (x y z:Int) (hx: -1099511627776<=x/\x<=1099511627776) (hy: -1099511627776<=y/\y<=1099511627776) (hz:1<=z/\z<=1099511627776):Ct prog 171 [vi x,vi y,vi z] (vsp (Eg x y z).1 (Eg x y z).2) []:=by
 refine CB func171 c171 fun E hE=>?_
 simp [p171];refine CLa (AQP x (by omega)) ?_;simp;refine CLa (AQP y (by omega)) ?_;simp;refine AU.mk _ _ _ (jD (max x (-x)) (max y (-y)) (by omega) (by omega)) (by first | (simp;done) | simp [Bk,CP]) (by simp) (by first | (left;simp;done) | (right;simp;done)) ?_;obtain ⟨P0,P1⟩:=AIG hx hy
 generalize hP:max x (-x)*max y (-y)=P at*
 have wz:IntKind.wrap .u64 z=z:=Ay (by omega) (by omega);have hmod:0<=P%18446744073709551616/\P%18446744073709551616<=18446744073709551615:=by omega
 have hP2:P/18446744073709551616*18446744073709551616+P%18446744073709551616=P:=by omega
 obtain ⟨b0,b1⟩:=Nm P0 hz.1;have b2:0<=P/z:=Int.ediv_nonneg P0 (by omega);have w1:IntKind.wrap .i64 (Da P z).1=(Da P z).1:=AD (by omega) (by omega);have w2:IntKind.wrap .i64 ((Da P z).1+1)=(Da P z).1+1:=AD (by omega) (by omega);have w3:IntKind.wrap .i64 (-((Da P z).1+1))= -((Da P z).1+1):=AD (by omega) (by omega);have w4:IntKind.wrap .i64 (-(Da P z).1)= -(Da P z).1:=AD (by omega) (by omega);by_cases hh:P/18446744073709551616<z
 . by_cases hq:P/z<2199023255552
   . have eS:Da P z=(P/z,P%z):=if_pos hq
     have r0:0<=P%z:=Int.emod_nonneg _ (by omega);rw [eS] at w1 w2 w3 w4;simp only at w1 w2 w3 w4;by_cases h0:P/18446744073709551616=0
     . have e0:P%18446744073709551616=P:=by omega
       simp [wz,h0,e0,show (0:Int)<z by omega];refine CLa (APT P z (by omega) (by omega)) ?_;by_cases hr:0<P%z<;>by_cases hsx:x<0<;>by_cases hsy:y<0<;>simp [hq,hr,hsx,hsy,w1,w2,w3,w4,AA]
       all_goals
         apply RZ;simp [results171,Eg,hP,eS,upS,hr,hsx,hsy]
     . simp [wz,hh]
       refine CLa (jE (P/18446744073709551616) (P%18446744073709551616) z (by omega) hmod (by omega)) ?_;rw [hP2];by_cases hr:0<P%z<;>by_cases hsx:x<0<;>by_cases hsy:y<0<;>simp [hq,hr,hsx,hsy,w1,w2,w3,w4,AA]
       all_goals
         apply RZ;simp [results171,Eg,hP,eS,upS,hr,hsx,hsy]
   . have eS:Da P z=(2199023255552,0):=if_neg hq
     by_cases h0:P/18446744073709551616=0
     . have e0:P%18446744073709551616=P:=by omega
       simp [wz,h0,e0,show (0:Int)<z by omega];refine CLa (APT P z (by omega) (by omega)) ?_;by_cases hsx:x<0<;>by_cases hsy:y<0<;>simp [hq,hsx,hsy,AA,AD]
       all_goals
         apply RZ;simp [results171,Eg,hP,eS,upS,hsx,hsy]
     . simp [wz,hh]
       refine CLa (jE (P/18446744073709551616) (P%18446744073709551616) z (by omega) hmod (by omega)) ?_;rw [hP2];by_cases hsx:x<0<;>by_cases hsy:y<0<;>simp [hq,hsx,hsy,AA,AD]
       all_goals
         apply RZ;simp [results171,Eg,hP,eS,upS,hsx,hsy]
 . have hq:¬ P/z<2199023255552:=by
     have:2199023255552<=P/z:=by
       rw [Int.le_ediv_iff_mul_le (by omega)];omega
     omega
   have eS:Da P z=(2199023255552,0):=if_neg hq;by_cases hsx:x<0<;>by_cases hsy:y<0<;>simp [wz,hh,hsx,hsy,AA,AD]
   all_goals
     apply RZ;simp [results171,Eg,hP,eS,upS,hsx,hsy]
def HO (a b c:Int × Int) (k:Nat):Int × Int:=Eg (if k%2=1 then a.2 else a.1) (if k/2%2=1 then b.2 else b.1) (if k/4=1 then c.2 else c.1)
def Lx (a b c:Int × Int):List (Int × Int):=[HO a b c 1,HO a b c 2,HO a b c 3,HO a b c 4,HO a b c 5,HO a b c 6,HO a b c 7]
def Ja (a b c:Int × Int):(Int × Int) × Int:=
 if okS a&&okS b&&okS c then (if c.1<1 then ((0,0),12) else JH (ALK (HO a b c 0) (Lx a b c))) else ((0,0),10)
def EU (a b c:Int × Int) (i k:Nat):List V:=if k<i then [vi (HO a b c k).1,vi (HO a b c k).2] else [vi 0,vi 0]
def Dq (a b c:Int × Int) (i:Nat):List V:=EU a b c i 0++EU a b c i 1++EU a b c i 2++EU a b c i 3++EU a b c i 4++EU a b c i 5++EU a b c i 6++EU a b c i 7
theorem UM (a b c:Int × Int) (i:Nat):(Dq a b c i).length=16:=by
 have h:∀ k,(EU a b c i k).length=2:=fun k=>by unfold EU;split<;>rfl
 simp [Dq,h]
theorem CH {a b c:Int × Int} (ha:okS a=true) (hb:okS b=true) (hc:okS c=true) (h1:¬ c.1<1) (k:Nat):Ct prog 171 [vi (if k%2=1 then a.2 else a.1),vi (if k/2%2=1 then b.2 else b.1),vi (if k/4=1 then c.2 else c.1)] (vsp (HO a b c k).1 (HO a b c k).2) []:=by
 rw [CT] at ha hb hc;refine qp _ _ _ ?_ ?_ ?_<;>split<;>omega
theorem zW (a b c:Int × Int):Ct prog 146 [vsp a.1 a.2,vsp b.1 b.2,vsp c.1 c.2] (vse (Ja a b c)) []:=by
 refine CB func146 c146 fun E hE=>?_
 simp [p146,AM,AA];refine CLb (Tc [a,b,c] (by simp)) (by first | (simp;done) | simp [Bk]) ?_;by_cases h:(okS a&&okS b&&okS c)=true
 . have hf:Co [a,b,c]=true:=by simpa [Co,Bool.and_assoc] using h
   have h':=h;simp only [Bool.and_eq_true] at h';obtain ⟨⟨ha,hb⟩,hc⟩:=h';by_cases h1:c.1<1
   . simp [hf,h1,AA]
     apply RZ;simp [results146,Ja,h,h1]
   . simp [hf,h1]
     refine BL (α:=Nat) 1 (fun _:Unit=>⟨AO [(6, .lp 0 0),(8, .lp 1 0)],lk [(0,[vi 0,vi 0]),(1,Dq a b c 8)],2⟩) (fun _=>True) (fun i=>⟨AO [(3, .lp 2 0),(4, .lp 3 0),(5, .lp 4 0),(6, .lp 0 0),(8, .lp 1 0),(26,vi i)],lk [(0,[vi 0,vi 0]),(1,Dq a b c i),(2,[vi a.1,vi a.2]),(3,[vi b.1,vi b.2]),(4,[vi c.1,vi c.2])],5⟩) (fun i=>i<=8) (fun i=>8-i) 0 ?_ ?_ ?_ fun _ _=>?_
     . simp
     . refine AI.mk hE (lk [(0,3145728),(1,16777216),(2,0),(3,1048576),(4,2097152)]) _ _ _ ?_ ?_ ?_ ?_ ?_<;>simp [Dq,EU]
     . intro i hi
       simp [APJ];by_cases hlt:i<8
       . have hlt':(i:Int)<8:=by omega
         have hz:IntKind.wrap .i64 ((i:Int)+1)=(i:Int)+1:=AD (by omega) (by omega);simp [hlt'];refine PG [(18,15),(19,16)] (by kernel_rfl) ?_;have e0:bits .and .i64 0 1=0:=by decide
         have e1:bits .and .i64 1 1=1:=by decide
         have e2:bits .and .i64 2 1=0:=by decide
         have e3:bits .and .i64 3 1=1:=by decide
         have e4:bits .and .i64 4 1=0:=by decide
         have e5:bits .and .i64 5 1=1:=by decide
         have e6:bits .and .i64 6 1=0:=by decide
         have e7:bits .and .i64 7 1=1:=by decide
         simp [inC,Nat.testBit,AA];have s0:=CH ha hb hc h1 0;have s1:=CH ha hb hc h1 1;have s2:=CH ha hb hc h1 2;have s3:=CH ha hb hc h1 3;have s4:=CH ha hb hc h1 4;have s5:=CH ha hb hc h1 5;have s6:=CH ha hb hc h1 6;have s7:=CH ha hb hc h1 7;simp at s0 s1 s2 s3 s4 s5 s6 s7;have hi8:i=0\/i=1\/i=2\/i=3\/i=4\/i=5\/i=6\/i=7:=by omega
         rcases hi8 with rfl | rfl | rfl | rfl | rfl | rfl | rfl | rfl
         . simp [e0]
           refine CLa s0 ?_;simp [Dq,EU,AA,AD];refine ⟨1,by omega,by omega,?_⟩;exact WK hE (lk [(0,0),(1,1),(2,2),(3,3),(4,4)])
         . simp [e0,e1]
           refine CLa s1 ?_;simp [Dq,EU,AA,AD];refine ⟨2,by omega,by omega,?_⟩;exact WK hE (lk [(0,0),(1,1),(2,2),(3,3),(4,4)])
         . simp [e1,e2]
           refine CLa s2 ?_;simp [Dq,EU,AA,AD];refine ⟨3,by omega,by omega,?_⟩;exact WK hE (lk [(0,0),(1,1),(2,2),(3,3),(4,4)])
         . simp [e1,e3]
           refine CLa s3 ?_;simp [Dq,EU,AA,AD];refine ⟨4,by omega,by omega,?_⟩;exact WK hE (lk [(0,0),(1,1),(2,2),(3,3),(4,4)])
         . simp [e2,e4]
           refine CLa s4 ?_;simp [Dq,EU,AA,AD];refine ⟨5,by omega,by omega,?_⟩;exact WK hE (lk [(0,0),(1,1),(2,2),(3,3),(4,4)])
         . simp [e2,e5]
           refine CLa s5 ?_;simp [Dq,EU,AA,AD];refine ⟨6,by omega,by omega,?_⟩;exact WK hE (lk [(0,0),(1,1),(2,2),(3,3),(4,4)])
         . simp [e3,e6]
           refine CLa s6 ?_;simp [Dq,EU,AA,AD];refine ⟨7,by omega,by omega,?_⟩;exact WK hE (lk [(0,0),(1,1),(2,2),(3,3),(4,4)])
         . simp [e3,e7]
           refine CLa s7 ?_;simp [Dq,EU,AA,AD];refine ⟨8,by omega,by omega,?_⟩;exact WK hE (lk [(0,0),(1,1),(2,2),(3,3),(4,4)])
       . have:i=8:=by omega
         subst this;simp;refine AI.mk hE (lk [(0,0),(1,1)]) _ _ _ ?_ ?_ ?_ ?_ ?_<;>simp [Dq,EU]
     . simp [UM]
       refine CLb (yP (HO a b c 0) (Lx a b c) (by simp [Lx])) (by first | (simp;done) | simp [Bk,Lx,Dq,EU]) ?_;simp;refine AU.mk _ _ _ (ASW (ALK (HO a b c 0) (Lx a b c))) (by first | (simp;done) | simp [Bk,CP]) (by simp) (by first | (left;simp;done) | (right;simp;done)) ?_;simp [AA];apply RZ;simp [results146,Ja,h,h1]
 . have hf:Co [a,b,c]=false:=by simpa [Co,Bool.and_assoc] using h
   simp [hf,AA];apply RZ;simp [results146,Ja,h]
def sqG (n:Int):Nat->Int->Int
 | 0,r=>r
 | k+1,r=>sqG n k (if (r+2^k)*(r+2^k)<=n then r+2^k else r)
def DL (n:Int):Int:=sqG n 21 0
def LA (n r:Int):Prop:=0<=r/\r*r<=n/\n<(r+1)*(r+1)
theorem NW (n:Int):∀ (k:Nat) (r:Int),0<=r->r*r<=n->n<(r+2^k)*(r+2^k)->LA n (sqG n k r)
 | 0,r,h0,h1,h2=>⟨h0,h1,by simp only [sqG];simpa using h2⟩
 | k+1,r,h0,h1,h2=>by
   have hp:(1:Int)<=2^k:=LJ k;have e:(2:Int)^(k+1)=2^k+2^k:=by rw [Int.pow_succ];omega
   simp only [sqG];split
   . rename_i h
     exact NW n k _ (by omega) h (by rw [e,<-Int.add_assoc] at h2;exact h2)
   . rename_i h
     exact NW n k _ h0 h1 (by omega)
theorem PN {n r s:Int} (h1:LA n r) (h2:LA n s):r=s:=by
 obtain ⟨a1,a2,a3⟩:=h1;obtain ⟨b1,b2,b3⟩:=h2
 have key:∀ p q:Int,0<=p->0<=q->p*p<=n->n<(q+1)*(q+1)->p<=q:=fun p q hp hq h h'=>by
   refine Int.not_lt.1 fun hlt=>?_
   have:(q+1)*(q+1)<=p*p:=DE (by omega) (by omega) (by omega) (by omega);omega
 have:=key r s a1 b1 a2 b3;have:=key s r b1 a1 b2 a3;omega
theorem PP (n:Int) (h:0<=n/\n<=1099511627776):LA n (DL n):=NW n 21 0 (by omega) (by omega) (by simp;omega)
theorem V9 {n r:Int} (h:LA n r) (hn:n<=1099511627776):r<=1048576:=by
 refine Int.not_lt.1 fun hlt=>?_
 have:(1048577:Int)*1048577<=r*r:=DE (by omega) (by omega) (by omega) (by omega);have:=h.2.1;omega
theorem jR (n:Int) (h:0<=n/\n<=1099511627776):Ct prog 177 [vi n] (vi (DL n)) []:=by
 refine CB func177 c177 fun E hE=>?_
 simp [p177];refine BL (α:=Int × Int) 0 (fun _:Unit=>⟨AO [(3,vi (DL n))],lk [],0⟩) (fun _=>True) (fun x=>⟨AO [(0,vi n),(3,vi x.1),(4,vi x.2)],lk [],0⟩) (fun x=>0<=x.1/\x.1<x.2/\x.2<=1048577/\x.1*x.1<=n/\n<x.2*x.2) (fun x=>(x.2-x.1).toNat) (0,1048577) ?_ ?_ ?_ fun _ _=>?_
 . simp;omega
 . exact WK hE (lk [])
 . rintro ⟨lo,hi⟩ ⟨h1,h2,h3,h4,h5⟩
   simp only at h1 h2 h3 h4 h5;have w1:IntKind.wrap .i64 (hi-lo)=hi-lo:=AD (by omega) (by omega);have w2:IntKind.wrap .i64 (lo+hi)=lo+hi:=AD (by omega) (by omega);have t:(lo+hi).tdiv 2=(lo+hi)/2:=Int.tdiv_eq_ediv_of_nonneg (by omega);have w3:IntKind.wrap .i64 ((lo+hi)/2)=(lo+hi)/2:=AD (by omega) (by omega);have m0:0<=(lo+hi)/2:=by omega
   have m1:(lo+hi)/2*((lo+hi)/2)<=1048577*1048577:=DE (by omega) (by omega) m0 (by omega);have m2:=Int.mul_nonneg m0 m0;have w4:IntKind.wrap .i64 ((lo+hi)/2*((lo+hi)/2))=(lo+hi)/2*((lo+hi)/2):=AD (by omega) (by omega);by_cases hc:1<hi-lo
   . by_cases hm:(lo+hi)/2*((lo+hi)/2)<=n
     . simp [bJ,w1,w2,t,w3,w4,hc,hm]
       refine ⟨(lo+hi)/2,hi,⟨m0,by omega,h3,hm,h5⟩,by omega,?_⟩;exact WK hE (lk [])
     . simp [bJ,w1,w2,t,w3,w4,hc,hm]
       refine ⟨lo,(lo+hi)/2,⟨h1,by omega,by omega,h4,by omega⟩,by omega,?_⟩;exact WK hE (lk [])
   . have e:hi=lo+1:=by omega
     have:lo=DL n:=PN ⟨h1,h4,by rw [<-e];exact h5⟩ (PP n h);simp [bJ,w1,hc];refine AI.mk hE (lk []) _ _ _ ?_ ?_ ?_ ?_ ?_<;>simp [this]
 . simp
   apply RZ;simp [results177]
def LB (a:Int × Int):(Int × Int) × Int:=
 if okS a then (if a.1<0 then ((0,0),2) else ((DL a.1,if DL a.2*DL a.2=a.2 then DL a.2 else DL a.2+1),0)) else ((0,0),10)
theorem qn (a:Int × Int):Ct prog 164 [vsp a.1 a.2] (vse (LB a)) []:=by
 refine CB func164 c164 fun E hE=>?_
 simp [p164,AM,AA];refine CLb (Tc [a] (by simp)) (by first | (simp;done) | simp [Bk]) ?_;by_cases h:okS a=true
 . have hf:Co [a]=true:=by simpa [Co] using h
   have hh:=CT.1 h;by_cases h1:a.1<0
   . simp [hf,h1,AA]
     apply RZ;simp [results164,LB,h,h1]
   . simp [hf,h1,inC,Nat.testBit]
     refine CLa (jR a.1 (by omega)) ?_;simp [inC,Nat.testBit];refine CLa (jR a.2 (by omega)) ?_;have q:=PP a.2 (by omega);have ql:=V9 q (by omega);have m:=q.2.1;have m2:=Int.mul_nonneg q.1 q.1;have w:IntKind.wrap .i64 (DL a.2*DL a.2)=DL a.2*DL a.2:=AD (by omega) (by omega);have w2:IntKind.wrap .i64 (DL a.2+1)=DL a.2+1:=AD (by have:=q.1;omega) (by omega);have wa:IntKind.wrap .i64 a.2=a.2:=AD (by omega) (by omega);by_cases hq:DL a.2*DL a.2=a.2
     . simp [AA,wa,hq]
       apply RZ;simp [results164,LB,h,h1,hq]
     . simp [AA,w,w2,hq]
       apply RZ;simp [results164,LB,h,h1,hq]
 . have hf:Co [a]=false:=by simpa [Co] using h
   simp [hf,AA];apply RZ;simp [results164,LB,h]
open Go.Geo (Ao CV chainR Bo)
def leC (x y:Int × Int):Bool:=!decide (Dw y x<0)
theorem PX {x y:Int × Int}:Dw x y<0↔Go.Geo.lt x y:=by
 unfold Dw orI orI orI NM Go.Geo.lt;by_cases h1:x.1<y.1
 . simp [h1]
 . by_cases h2:y.1<x.1
   . simp [h1,h2];omega
   . by_cases h3:x.2<y.2
     . simp [h1,h2,h3];omega
     . by_cases h4:y.2<x.2
       . simp [h1,h2,h3,h4]
       . simp [h1,h2,h3,h4]
theorem GZ {x y:Int × Int}:leC x y=true↔¬ Go.Geo.lt y x:=by unfold leC;rw [Bool.not_eq_true',decide_eq_false_iff_not,PX]
theorem WD (a b c:Int × Int) (h1:leC a b=true) (h2:leC b c=true):leC a c=true:=by
 rw [GZ] at*;unfold Go.Geo.lt at*;omega
theorem WE (a b:Int × Int):(leC a b||leC b a)=true:=by
 rw [Bool.or_eq_true,GZ,GZ];unfold Go.Geo.lt;omega
theorem bc {a b:Int × Int} (h1:leC a b=true) (h2:leC b a=true):a=b:=by
 rw [GZ] at*;unfold Go.Geo.lt at*
 ext<;>omega
theorem PY (l:List (Int × Int)):(DK l).Pairwise fun x y=>leC x y=true:=List.pairwise_mergeSort WD WE l
theorem be {l m:List (Int × Int)} (hp:m.Perm l) (hs:m.Pairwise fun x y=>leC x y=true):DK l=m:=
 List.Perm.eq_of_pairwise (le:=fun x y=>leC x y=true) (fun _ _ _ _ h1 h2=>bc h1 h2) (PY l) hs ((List.mergeSort_perm l _).trans hp.symm)
theorem qi {l:List (Int × Int)} (h:l.Pairwise fun x y=>leC x y=true):Go.Geo.Sorted (ddC l):=by
 have key:∀ (l d:List (Int × Int)),l.Pairwise (fun x y=>leC x y=true)->Go.Geo.Sorted d->(∀ x∈d,∀ y∈l,leC x y=true)->Go.Geo.Sorted (l.foldl DQ d):=by
   intro l;induction l with
   | nil=>intro d _ h _;exact h
   | cons a l ih=>
     intro d hl hd hx;rw [List.foldl_cons];have hl':=List.pairwise_cons.1 hl;unfold DQ;by_cases h:d.getLast?= some a
     . rw [if_pos h]
       exact ih d hl'.2 hd fun x hx' y hy=>hx x hx' y (by simp [hy])
     . rw [if_neg h]
       refine ih _ hl'.2 ?_ fun x hx' y hy=>?_
       . unfold Go.Geo.Sorted
         rw [List.pairwise_append];refine ⟨hd,List.pairwise_singleton _ _,fun x hxd y hy=>?_⟩;rw [List.mem_singleton.1 hy];have h1:=GZ.1 (hx x hxd a (by simp));rcases Go.Geo.lt_tri x a with h2 | h2 | h2
         . exact h2
         . exfalso
           subst h2;rcases List.eq_nil_or_concat d with rfl | ⟨d',z,rfl⟩
           . simp at hxd
           . rw [List.concat_eq_append] at*
             have hz:=GZ.1 (hx z (by simp) x (by simp));have hne:z≠x:=fun e=>h (by rw [e];simp)
             have hxd':x∈d':=by
               rcases List.mem_append.1 hxd with h | h
               . exact h
               . exact absurd (List.mem_singleton.1 h).symm hne
             have:=(List.pairwise_append.1 hd).2.2 x hxd' z (by simp);exact hz this
         . exact absurd h2 h1
       . rcases List.mem_append.1 hx' with h | h
         . exact hx x h y (by simp [hy])
         . rw [List.mem_singleton.1 h];exact hl'.1 y hy
 exact key l [] h List.Pairwise.nil (by simp)
theorem JN (l:List (Int × Int)):Go.Geo.Sorted (ddC (DK l)):=qi (PY l)
instance (l:List (Int × Int)):Decidable (l.Pairwise fun x y=>leC x y=true):=inferInstance
theorem bf {l m:List (Int × Int)} (hp:m.Perm l) (hs:m.Pairwise fun x y=>leC x y=true):Fb l=Bo (ddC m):=by unfold Fb;rw [be hp hs]
theorem z6 {H:Hp} {id:Nat} {cs:List V} (l:List (Int × Int)) (h:H id=some cs) (hc:cs=BC l):Bor H (.ls id 0 l.length 2) (.d (An l)):=by
 rw [Bk];refine ⟨rfl,by simp,fun e he=>?_,_,h,?_⟩
 . simp only [List.mem_map] at he
   obtain ⟨k,_,rfl⟩:=he;rfl
 . rw [Om,hc,List.drop_zero,List.take_of_length_le (by simp)]
def inS (s:Int × Int) (n:Int):Bool:=decide (s.1<=n)&&decide (n<=s.2)
end Go.Proofs.Tryz
namespace Go.Proofs.YtnjclpglagcagaaGreat
open Go.Joins Go.ChangeShapes Go.WideShapes Go.ChangeAt Go.RowKit Go.Psl
theorem AGN {i:Int} (h:(Lit.int .u8 i).wf=true):0<=i/\i<256:=by
 have h1:IntKind.u8.min=0:=rfl;have h2:IntKind.u8.max=255:=rfl;simp [Lit.wf] at h;omega
theorem AHE {H:Type} {enc:TypeId × Value->H} {W:World} {base:Nat} {v:Value} {d:DataW H} {p:List MemPlace} (hval:Value.okWide Tryz.prog W .any base 5 v) (h:DataW.Trod enc Tryz.prog W 0 (fun _=>true) true 5 v d p):∃ a:{i:Int // 0<=i/\i<256},R2 (GW W) W (.d (.lit (.int .u8 a.1))) v:=by
 obtain ⟨a,rfl,ha⟩:=open_int Tryz.underlying5 hval h;exact ⟨⟨a,AGN ha.2.2⟩, .lit _ rfl⟩
end Go.Proofs.YtnjclpglagcagaaGreat
namespace Go.Psl
variable {P:Program} {Γ:Tys} {eqs:Eqs} {E:Ent}
def rid (ks:List Nat) (i:Nat):Option Nat:=if i∈ks then some i else none
structure A4 (ks:List Nat) (L:List (Nat × List V)):Prop where
 names:L.map (·.1)=ks
 nd:ks.Nodup
 cells:∀ p∈L,p.2≠[]/\Bv p.2/\∀ c∈p.2,WC (rid ks) c c
theorem Cr {ks:List Nat} {i:Nat} (h:i∈ks):rid ks i=some i:=by simp [rid,h]
theorem AF8:∀ {L:List (Nat × List V)},(L.map (·.1)).Nodup->∀ p∈L,lk L p.1=some p.2
 | [],_,p,hp=>by simp at hp
 | q::r,hn,p,hp=>by
   simp only [List.map_cons,List.nodup_cons] at hn;simp only [lk];rcases List.mem_cons.1 hp with rfl | hp
   . simp
   . have:p.1≠q.1:=fun e=>hn.1 (e ▸ List.mem_map.2 ⟨p,hp,rfl⟩)
     rw [if_neg this];exact AF8 hn.2 p hp
section
variable {ks:List Nat} {L L1:List (Nat × List V)}
theorem A4.lk (h:A4 ks L) {p:Nat × List V} (hp:p∈L):Go.Psl.lk L p.1=some p.2:=AF8 (by rw [h.names];exact h.nd) p hp
theorem A4.mem (h:A4 ks L) {p:Nat × List V} (hp:p∈L):p.1∈ks:=by rw [<-h.names];exact List.mem_map.2 ⟨p,hp,rfl⟩
theorem A4.isIn (h:A4 ks L) {i:Nat}:(Go.Psl.lk L i).isSome=true↔i∈ks:=by
 constructor
 . intro hi
   obtain ⟨x,hx⟩:=Option.isSome_iff_exists.1 hi;exact h.mem (p:=(i,x)) (B4 hx)
 . intro hi
   rw [<-h.names] at hi;obtain ⟨p,hp,rfl⟩:=List.mem_map.1 hi;rw [h.lk hp];rfl
theorem Dz {i j:Nat} (h:rid ks i=some j):i∈ks/\j=i:=by
 unfold rid at h;split at h
 . cases h;exact ⟨by assumption,rfl⟩
 . cases h
theorem FH {c:V} (h:W0 (rid ks) c c):A0 (·∈ks) AR c/\∀ b,DR (sg ks b) c=c:=by
 cases c with
 | junk=>exact ⟨trivial,fun _=>rfl⟩
 | d x=>exact ⟨trivial,fun _=>rfl⟩
 | lp i o=>
   obtain ⟨j,hj,_⟩:=h;have hi:=(Dz hj).1;exact ⟨hi,fun b=>by simp [DR,sg,hi]⟩
 | ls i o l z=>
   unfold W0 at h;simp only at h;split at h
   . rename_i j hj
     have hi:=(Dz hj).1;exact ⟨hi,fun b=>by simp [DR,sg,hi]⟩
   . cases h.2
 | yl i=>
   obtain ⟨j,hj,_⟩:=h;have hi:=(Dz hj).1;exact ⟨hi,fun b=>by simp [DR,sg,hi]⟩
 | lr=>exact False.elim h
 | cl f cs=>exact ⟨trivial,fun _=>rfl⟩
 | agg cs=>exact ⟨trivial,fun _=>rfl⟩
 | tup cs=>exact ⟨trivial,fun _=>rfl⟩
theorem Et {α:Type} {f:α->α}:∀ {l:List α},(∀ x∈l,f x=x)->l.map f=l
 | [],_=>rfl
 | a::l,h=>by rw [List.map_cons,h a (by simp),Et fun x hx=>h x (List.mem_cons_of_mem _ hx)]
theorem GY {α:Type} {R:α->α->Prop}:∀ {l:List α},AJ R l l->∀ x∈l,R x x
 | [],_,_,hx=>by simp at hx
 | a::l,h,x,hx=>by
   rcases List.mem_cons.1 hx with rfl | hx
   . exact h.1
   . exact GY h.2 x hx
theorem MM {α:Type} {R:α->α->Prop}:∀ {l:List α},(∀ x∈l,R x x)->AJ R l l
 | [],_=>trivial
 | a::l,h=>⟨h a (by simp),MM fun x hx=>h x (List.mem_cons_of_mem _ hx)⟩
theorem FI {c:V} (h:A0 (·∈ks) AR c) (b:Nat):DR (sg ks b) c=c:=by
 cases c<;>first | rfl | (have h2:_∈ks:=h;simp [DR,sg,h2]) | exact False.elim h
theorem FJ {c:V} (h:A1 (·∈ks) AR c) (b:Nat):DS (sg ks b) c=c:=by
 cases c with
 | cl f cs=>simp only [DS];rw [Et fun x hx=>FI (h x hx) b]
 | junk=>exact FI (ks:=ks) (c:= .junk) h b
 | d x=>exact FI (ks:=ks) (c:= .d x) h b
 | lp i o=>exact FI (ks:=ks) (c:= .lp i o) h b
 | ls i o l z=>exact FI (ks:=ks) (c:= .ls i o l z) h b
 | yl i=>exact FI (ks:=ks) (c:= .yl i) h b
 | lr f n p pa pb j=>exact FI (ks:=ks) (c:= .lr f n p pa pb j) h b
 | agg cs=>exact FI (ks:=ks) (c:= .agg cs) h b
 | tup cs=>exact FI (ks:=ks) (c:= .tup cs) h b
theorem ALq {c:V} (h:A2 (·∈ks) AR c) (b:Nat):HR (sg ks b) c=c:=by
 cases c with
 | agg cs=>simp only [HR];rw [Et fun x hx=>FJ (h x hx) b]
 | junk=>exact FJ (ks:=ks) (c:= .junk) h b
 | d x=>exact FJ (ks:=ks) (c:= .d x) h b
 | lp i o=>exact FJ (ks:=ks) (c:= .lp i o) h b
 | ls i o l z=>exact FJ (ks:=ks) (c:= .ls i o l z) h b
 | yl i=>exact FJ (ks:=ks) (c:= .yl i) h b
 | lr f n p pa pb j=>exact FJ (ks:=ks) (c:= .lr f n p pa pb j) h b
 | cl f cs=>exact FJ (ks:=ks) (c:= .cl f cs) h b
 | tup cs=>exact FJ (ks:=ks) (c:= .tup cs) h b
theorem R9 {c:V} (h:AV (·∈ks) AR c) (b:Nat):ren (sg ks b) c=c:=by
 cases c with
 | tup cs=>simp only [ren];rw [Et fun x hx=>ALq (h x hx) b]
 | junk=>exact ALq (ks:=ks) (c:= .junk) h b
 | d x=>exact ALq (ks:=ks) (c:= .d x) h b
 | lp i o=>exact ALq (ks:=ks) (c:= .lp i o) h b
 | ls i o l z=>exact ALq (ks:=ks) (c:= .ls i o l z) h b
 | yl i=>exact ALq (ks:=ks) (c:= .yl i) h b
 | lr f n p pa pb j=>exact ALq (ks:=ks) (c:= .lr f n p pa pb j) h b
 | cl f cs=>exact ALq (ks:=ks) (c:= .cl f cs) h b
 | agg cs=>exact ALq (ks:=ks) (c:= .agg cs) h b
theorem bB {c:V} (h:WC (rid ks) c c):AC (·∈ks) AR c/\∀ b,BJ (sg ks b) c=c:=by
 cases c with
 | lr fr nt ps pa pb jmp=>
   have h2:∀ t,AV (·∈ks) AR (fr t):=fun t=>AV.mono (fun i hi=>(Dz hi).1) (fun _ h=>h) (h.2 t)
   refine ⟨h2,fun b=>?_⟩;simp only [BJ];congr 1
   funext t;exact R9 (h2 t) b
 | cl f cs=>
   obtain ⟨cs',e,h2⟩:=h;cases e;have h3:=GY h2;exact ⟨fun c hc=>(FH (h3 c hc)).1,fun b=>by simp only [BJ,DS];rw [Et fun x hx=>(FH (h3 x hx)).2 b]⟩
 | junk=>exact ⟨trivial,fun _=>rfl⟩
 | d x=>exact ⟨trivial,fun _=>rfl⟩
 | lp i o=>exact FH (c:= .lp i o) h
 | ls i o l z=>exact FH (c:= .ls i o l z) h
 | yl i=>exact FH (c:= .yl i) h
 | agg cs=>exact False.elim h
 | tup cs=>exact False.elim h
theorem A4.ac (h:A4 ks L) {p:Nat × List V} (hp:p∈L):∀ c∈p.2,AC (·∈ks) AR c:=fun c hc=>(bB ((h.cells p hp).2.2 c hc)).1
theorem A4.hp (h:A4 ks L) {H:Hp} (hH:∀ i∈ks,H i=Go.Psl.lk L i):Ej (rid ks) H L:=by
 have key:∀ M:List (Nat × List V),(∀ p∈M,p∈L)->Ej (rid ks) H M:=by
   intro M;induction M with
   | nil=>intro _;trivial
   | cons p r ih=>
     intro hM;have hp:=hM p (by simp);have hm:=h.mem hp;obtain ⟨c1,c2,c3⟩:=h.cells p hp;refine ⟨?_,ih fun q hq=>hM q (List.mem_cons_of_mem _ hq)⟩;rw [Cr hm];exact ⟨⟨p.2,by rw [hH _ hm,h.lk hp],MM c3⟩,c2⟩
 exact key L fun _ h=>h
theorem A4.inj (h:A4 ks L):Bd (rid ks) L:=by
 have key:∀ M:List (Nat × List V),(∀ p∈M,p∈L)->Bd (rid ks) M:=by
   intro M;induction M with
   | nil=>intro _;trivial
   | cons p r ih=>
     intro hM;refine ⟨fun q hq=>?_,ih fun q hq=>hM q (List.mem_cons_of_mem _ hq)⟩;have h1:=h.mem (hM p (by simp));have h2:=h.mem (hM q (List.mem_cons_of_mem _ hq));rw [Cr h1,Cr h2];by_cases e:q.1=p.1
     . exact Or.inr (Or.inr e)
     . exact Or.inr (Or.inl fun e'=>e (Option.some.inj e'))
 exact key L fun _ h=>h
theorem A4.stab (_:A4 ks L) {H:Hp} (hH:∀ i∈ks,H i=Go.Psl.lk L i):DZ (rid ks) H (Go.Psl.lk L) ks:=by
 have key:∀ M:List Nat,(∀ i∈M,i∈ks)->DZ (rid ks) H (Go.Psl.lk L) M:=by
   intro M;induction M with
   | nil=>intro _;trivial
   | cons i r ih=>
     intro hM;have hi:=hM i (by simp);exact ⟨fun hs=>⟨Cr hi,by rw [hH i hi];exact hs⟩,ih fun j hj=>hM j (List.mem_cons_of_mem _ hj)⟩
 exact key ks fun _ h=>h
theorem A4.stabW (_:A4 ks L) {H:Hp} (hH:∀ i∈ks,H i=Go.Psl.lk L i) {n:Nat} (hn:∀ i∈ks,i<n):HD (rid ks) H (Go.Psl.lk L) n ks:=by
 have key:∀ M:List Nat,(∀ i∈M,i∈ks)->HD (rid ks) H (Go.Psl.lk L) n M:=by
   intro M;induction M with
   | nil=>intro _;trivial
   | cons i r ih=>
     intro hM;have hi:=hM i (by simp);exact ⟨hn i hi,fun hs=>⟨Cr hi,by rw [hH i hi];exact hs⟩,ih fun j hj=>hM j (List.mem_cons_of_mem _ hj)⟩
 exact key ks fun _ h=>h
theorem A4.ids (h:A4 ks L) {n:Nat} (hn:∀ i∈ks,i<n):A7 n L:=by
 have key:∀ M:List (Nat × List V),(∀ p∈M,p∈L)->A7 n M:=by
   intro M;induction M with
   | nil=>intro _;trivial
   | cons p r ih=>
     intro hM;have hp:=hM p (by simp);exact ⟨hn _ (h.mem hp),fun c hc=>AC.mono hn (fun _ h=>h) (h.ac hp c hc),ih fun q hq=>hM q (List.mem_cons_of_mem _ hq)⟩
 exact key L fun _ h=>h
theorem A4.res (h:A4 ks L):∀ p∈L,∀ c∈p.2,AC (InB L) AR c:=fun _ hp c hc=>AC.mono (fun _ hi=>h.isIn.2 hi) (fun _ h=>h) (h.ac hp c hc)
theorem AI.keep {st:St} (hs:∀ i,E.stab i↔i∈ks) (h:A4 ks L) (hH:∀ i∈ks,st.H i=Go.Psl.lk L i) {n:Nat} (hn:∀ i∈ks,i<n) (l:List (Nat × V)) (h1:CL (rid ks) st.fr l) (h4:Bw n l):AI P E st ⟨AO l,Go.Psl.lk L,n⟩:=
 AI.mkM hs (rid ks) l L n h1 (h.hp hH) h.inj h4 (h.ids hn) (h.stabW hH hn)
theorem Hn {H:Hp} {b:Nat} (hL:A4 ks L) (hL1:A4 ks L1):BI H b (Go.Psl.lk L) ks (Go.Psl.lk L1)=fun i=>if i∈ks then Go.Psl.lk L1 i else H i:=by
 funext i
 unfold BI;by_cases hi:i∈ks
 . simp only [hi,if_true]
   have h1:=hL1.isIn.2 hi;obtain ⟨x,hx⟩:=Option.isSome_iff_exists.1 h1;rw [hx];have hm:=hL1.cells (i,x) (B4 hx);simp only [Option.map_some];rw [Et fun c hc=>(bB (hm.2.2 c hc)).2 b]
 . simp only [hi,if_false]
   have h2:(Go.Psl.lk L i).isSome=false:=by
     cases hc:(Go.Psl.lk L i).isSome with
     | false=>rfl
     | true=>exact absurd (hL.isIn.1 hc) hi
   rw [h2];simp only [Bool.false_eq_true,if_false];split
   . split
     . rfl
     . rename_i hn
       have h3:Go.Psl.lk L1 (i-b)=none:=by
         cases hc:Go.Psl.lk L1 (i-b) with
         | none=>rfl
         | some x=>exact absurd (hL1.isIn.1 (by rw [hc];rfl)) hn
       rw [h3]
   . rfl
theorem Hq {H:Hp} {av args:List V} {res:Res} (hL:A4 ks L) (hL1:A4 ks L1) (hH:∀ i∈ks,H i=Go.Psl.lk L i) (hb:AJ (Bor noH) av args):IB H av args (Go.Psl.lk L) ks res (Go.Psl.lk L1):=
 ⟨fun i cs h=>by rw [hH i (hL.isIn.1 (by rw [h];rfl)),h],fun i h hn=>absurd (hL1.isIn.1 h) hn,fun i hi=>by
   obtain ⟨x,hx⟩:=Option.isSome_iff_exists.1 (hL.isIn.2 hi);exact ⟨x,hx,(hL.cells (i,x) (B4 hx)).1⟩,Or.inl hb⟩
theorem Fp.keep {H:Hp} {b k:Nat} {av:List V} {Kc Kx:V->Hp->Prop} (args:List V) (L L1:List (Nat × List V)) (ks:List Nat) (r:D) (hf:Ym P k args (Go.Psl.lk L) ks (.ret (.d r)) (Go.Psl.lk L1)) (hL:A4 ks L) (hL1:A4 ks L1)
   (hrec:∃ fr nt ps pa pb jmp,Go.Psl.lk L k=some [.lr fr nt ps pa pb jmp]/\ps.length=args.length) (hH:∀ i∈ks,H i=Go.Psl.lk L i) (hb:AJ (Bor noH) av args) (hk:Kc (.d r) (fun i=>if i∈ks then Go.Psl.lk L1 i else H i)):Fp P none H H b k av Kc Kx:=
 ⟨rfl,args,Go.Psl.lk L,ks, .ret (.d r),Go.Psl.lk L1,_,⟨hf,hrec,Hq hL hL1 hH hb⟩,(Hn hL hL1).symm,hk⟩
theorem AU.keep {H:Hp} {b:Nat} {g:FuncId} {av:List V} {Kc Kx:V->Hp->Prop} (args:List V) (L L1:List (Nat × List V)) (ks:List Nat) (r:V) (hf:Cm P g args (Go.Psl.lk L) ks (.ret r) (Go.Psl.lk L1)) (hL:A4 ks L) (hL1:A4 ks L1) (hr:AV (·∈ks) AR r)
   (hH:∀ i∈ks,H i=Go.Psl.lk L i) (hb:AJ (Bor noH) av args) (hk:Kc r (fun i=>if i∈ks then Go.Psl.lk L1 i else H i)):AU P none H H b g av Kc Kx:=
 ⟨args,Go.Psl.lk L,ks, .ret r,Go.Psl.lk L1,_,⟨hf,Hq hL hL1 hH hb⟩,trivial,(Hn hL hL1).symm,by show Kc (ren (sg ks b) r) _;rw [R9 hr];exact hk⟩
theorem Dc.keep {fn:Func} {st:St} (hn:fn.results= #[]) (h:A4 ks L) (hH:∀ i∈ks,st.H i=Go.Psl.lk L i):Dc Γ fn ks (.tup []) L st:=
 ⟨[],rid ks,by rw [hn];rfl,rfl,by simp,h.hp hH,h.inj,h.stab hH⟩
theorem E3.keepN {fo:Operand} {ps:List Nat} {pa pb:PC} {Q:Av->St->Prop} {f:Nat->V} {H:Hp} {n:Nat} {g:FuncId} {caps:List V} (L L1:List (Nat × List V)) (ks:List Nat) (r:V) (jmp:LSt) (h0:E.rqN H/\E.nt≠AL4) (hg:Be (evF f fo)=some (g,caps))
   (hf:Cm P g (.yl n::caps) (Go.Psl.lk ((n,[.lr f E.nt ps pa pb .ready])::L)) (n::ks) (.ret r) (Go.Psl.lk ((n,[.lr f E.nt ps pa pb jmp])::L1)))
   (hL:A4 (n::ks) ((n,[.lr f E.nt ps pa pb .ready])::L)) (hL1:A4 (n::ks) ((n,[.lr f E.nt ps pa pb jmp])::L1)) (hH:∀ i∈ks,H i=Go.Psl.lk L i) (hb:AJ (Bor noH) caps caps)
   (hq:Sm Q ⟨f,fun i=>if i=n then none else if i∈ks then Go.Psl.lk L1 i else H i,n+2097152⟩ jmp):PW P Γ eqs E (.rangeF fo ps pa pb) Q ⟨f,H,n⟩:=by
 have hH':∀ i∈n::ks,upd H n (some [.lr f E.nt ps pa pb .ready]) i=Go.Psl.lk ((n,[.lr f E.nt ps pa pb .ready])::L) i:=fun i hi=>by
   simp only [AY,Go.Psl.lk];by_cases e:i=n
   . simp [e]
   . simp only [e,if_false]
     rcases List.mem_cons.1 hi with h | h
     . exact absurd h e
     . exact hH i h
 refine ⟨h0,g,caps, .yl n::caps,_,n::ks, .ret r,_,hg,⟨hf,Hq hL hL1 hH' ⟨rfl,hb⟩⟩,by simp,jmp,by simp [Go.Psl.lk],?_⟩
 have e:upd (BI (upd H n (some [.lr f E.nt ps pa pb .ready])) (n+1048576) (Go.Psl.lk ((n,[.lr f E.nt ps pa pb .ready])::L)) (n::ks) (Go.Psl.lk ((n,[.lr f E.nt ps pa pb jmp])::L1))) n none=fun i=>if i=n then none else if i∈ks then Go.Psl.lk L1 i else H i:=by
   rw [Hn hL hL1]
   funext i
   simp only [AY];by_cases h:i=n
   . simp [h]
   . simp [h,Go.Psl.lk]
 show Sm Q ⟨f,upd (BI _ _ _ _ _) n none,n+2097152⟩ jmp
 rw [e];exact hq
theorem E3.keep {fo:Operand} {ps:List Nat} {pa pb:PC} {Q:Av->St->Prop} {f:Nat->V} {H:Hp} {n:Nat} {g:FuncId} {caps:List V} (L L1:List (Nat × List V)) (ks:List Nat) (r:V) (jmp:LSt) (h0:E.rq/\E.nt≠AL4) (hg:Be (evF f fo)=some (g,caps))
   (hf:Cm P g (.yl n::caps) (Go.Psl.lk ((n,[.lr f E.nt ps pa pb .ready])::L)) (n::ks) (.ret r) (Go.Psl.lk ((n,[.lr f E.nt ps pa pb jmp])::L1)))
   (hL:A4 (n::ks) ((n,[.lr f E.nt ps pa pb .ready])::L)) (hL1:A4 (n::ks) ((n,[.lr f E.nt ps pa pb jmp])::L1)) (hH:∀ i∈ks,H i=Go.Psl.lk L i) (hb:AJ (Bor noH) caps caps)
   (hq:Sm Q ⟨f,fun i=>if i=n then none else if i∈ks then Go.Psl.lk L1 i else H i,n+2097152⟩ jmp):PW P Γ eqs E (.rangeF fo ps pa pb) Q ⟨f,H,n⟩:=
 E3.keepN L L1 ks r jmp ⟨.inl h0.1,h0.2⟩ hg hf hL hL1 hH hb hq
theorem Hu.keep {k:Nat} {rc:LSt->V} {s:LSt} {st:St} (h:A4 ks L) (hb:st.H k=some [rc .busy]) (hH:∀ i∈ks,upd st.H k (some [rc s]) i=Go.Psl.lk L i):Hu k rc s ks L st:=
 ⟨hb,rid ks,h.hp hH,h.inj,h.stab hH⟩
end
structure Rnd (P:Program) (Γ:Tys) (eqs:Eqs) (k:Nat) (fr:Nat->V) (nt:Nat) (ps:List Nat) (pa pb:PC) (args:List V) (Hin:Hp) (ks:List Nat) (s:LSt) (H1:List (Nat × List V)) (N:Nat):Prop where
 run:∀ E:Ent,E.nt=nt->(∀ i,E.stab i↔i∈ks)->PW P Γ eqs E pa (DP (fun st=>st.H k=some [.lr fr nt ps pa pb .ready]/\PW P Γ eqs E pb (rH k (.lr fr nt ps pa pb) s ks H1) ⟨st.fr,upd st.H k (some [.lr fr nt ps pa pb .busy]),st.nx⟩) (fun _ _=>False)) ⟨BD fr ps args,Hin,N⟩
theorem Ym.ofR (hΓ:GOk P Γ) (hE:EB P eqs) (hm:P.follows .mixedOrders=true) {k:Nat} {fr:Nat->V} {nt:Nat} {ps:List Nat} {pa pb:PC} {args:List V} {ks:List Nat} {s:LSt} {L L1:List (Nat × List V)} (N:Nat)
   (hL:A4 ks L) (hL1:A4 ks L1) (hlt:∀ i∈ks,i<N) (hk:lk L k=some [.lr fr nt ps pa pb .ready]) (hlen:ps.length=args.length) (hps:∀ p∈ps,p<nt) (hcl:∀ v∈args,A2 (· < N) AR v)
   (h:Rnd P Γ eqs k fr nt ps pa pb args (lk L) ks s L1 N):Ym P k args (lk L) ks (.ret (.d (.lit (.bool (FP s))))) (lk L1):=
 Ym.of hΓ hE hm N hk (hL.isIn.1 (by rw [hk];rfl)) hlen hps hcl (A7.at (hL.ids hlt)) hlt hL1.res fun E h1 h2 _=>h.run E h1 h2
end Go.Psl
