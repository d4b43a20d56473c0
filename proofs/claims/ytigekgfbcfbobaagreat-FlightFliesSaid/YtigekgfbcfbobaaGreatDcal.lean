/- Own lemmas, used by the last text. Conditions: those that each theorem states. -/
import Derived.RecoverIn
import Derived.Test.YtigekgfbcfbobaaGreatDcad
import Derived.Test.YtigekgfbcfbobaaGreatDcaf
import Derived.Test.YtigekgfbcfbobaaGreatDcag
import Derived.Test.YtigekgfbcfbobaaGreatDcah
import Derived.Test.YtigekgfbcfbobaaGreatDcak
set_option maxRecDepth 200000
set_option maxHeartbeats 8000000
namespace Go.Proofs.Tryz
open Go.Psl
open Go.Air
theorem fn73 (l:List Lev) (a b:Int) (hl:l.length<=1000000):Ct prog 73 [.d (BF l),vsp a b] (atV (atA l a b)) []:=by
 have c1:=u9 l hl;cases hk:GC l
 . rw [hk] at c1
   have e:atA l a b=(⟨0,0,0,0⟩,20):=by unfold atA;rw [hk];rfl
   rw [e];refine CB func73 c73 fun E hE=>?_
   simp [p73];refine CLa c1 ?_;simp [AA];apply RZ;simp [results73]
 rw [hk] at c1;have h:=B8.1 hk;have hlen:=h.len;have c2:=yS (a,b);cases hs:okS (a,b)
 . rw [hs] at c2
   have e:atA l a b=(⟨0,0,0,0⟩,10):=by unfold atA;rw [hk,hs];rfl
   rw [e];refine CB func73 c73 fun E hE=>?_
   simp [p73];refine CLa c1 ?_;simp;refine CLa c2 ?_;simp [AA];apply RZ;simp [results73]
 rw [hs] at c2;have hab:=(CT.1 hs).1;simp only at hab;obtain ⟨x,hx⟩:∃ x,l[0]?= some x:=⟨_,List.getElem?_eq_getElem (by omega)⟩
 obtain ⟨n,hn⟩:∃ n,n=l.length - 1:=⟨_,rfl⟩
 obtain ⟨y,hy⟩:∃ y,l[n]?= some y:=⟨_,List.getElem?_eq_getElem (by omega)⟩
 have hw:IntKind.wrap .i64 ((l.length:Int) - 1)=(n:Int):=by rw [AD (by omega) (by omega)];omega
 have hI0:(0:Int) < l.length:=by omega
 have hI:(n:Int) < l.length:=by omega
 have ea:atA l a b=if rgB x.h y.h [a,b] then (if (D3 l).2.2=0 then (WH (tmS (knT l)) (swp l) a b,0) else (⟨0,0,0,0⟩,(D3 l).2.2)) else (⟨0,0,0,0⟩,2):=by
   unfold atA;rw [hk,hs,hx,<-hn,hy];rfl
 by_cases g1:a < x.h
 . have hr:rgB x.h y.h [a,b]=false:=by
     cases e:rgB x.h y.h [a,b] with
     | false=>rfl
     | true=>have:=Td.1 e;omega
   rw [hr] at ea;rw [ea];refine CB func73 c73 fun E hE=>?_
   simp [p73];refine CLa c1 ?_;simp;refine CLa c2 ?_;simp [AA,hx,g1,inC,Nat.testBit];apply RZ;simp [results73]
 by_cases g2:y.h < b
 . have hr:rgB x.h y.h [a,b]=false:=by
     cases e:rgB x.h y.h [a,b] with
     | false=>rfl
     | true=>have:=Td.1 e;omega
   rw [hr] at ea;rw [ea];refine CB func73 c73 fun E hE=>?_
   simp [p73];refine CLa c1 ?_;simp;refine CLa c2 ?_;simp [AA,hx,hy,hw,g1,g2,inC,Nat.testBit];apply RZ;simp [results73]
 have hr:rgB x.h y.h [a,b]=true:=Td.2 (by omega);rw [hr,if_pos rfl] at ea;have c3:=xw l hl;by_cases hz:(D3 l).2.2=0
 . rw [if_pos hz] at ea
   rw [ea];have hf:=(IQ h).1 hz;have hS:D3 l=(swp l,0,0):=by unfold D3;rw [hk,if_pos rfl,if_neg hf]
   rw [hS] at c3;unfold gz at c3;simp only at c3;have hso:=Yu h hf
   have hins:∀ z,(z=a\/z=b)->E8 l z:=fun z hzz=>by
     refine ⟨fun k hk'=>?_,fun k hk'=>?_⟩
     . rw [hx] at hk';cases hk';rcases hzz with rfl | rfl<;>omega
     . rw [<-hn,hy] at hk';cases hk';rcases hzz with rfl | rfl<;>omega
   have c5:=yN (swp l) b hso (TG (hins b (Or.inr rfl)));have c6:=yN (swp l) a hso (TG (hins a (Or.inl rfl)));have c8:=tu l a b hl (by intro e;rw [e] at hlen;simp at hlen) hab;rw [TF] at c5 c6;refine CB func73 c73 fun E hE=>?_
   simp [p73];refine CLa c1 ?_;simp;refine CLa c2 ?_;simp [hx,hy,hw,g1,g2,inC,Nat.testBit];refine CLa c3 ?_;simp [inC,Nat.testBit];refine CLa c5 ?_;simp [inC,Nat.testBit];refine CLa c6 ?_;simp [AA,inC,Nat.testBit];refine CLa c8 ?_;simp [AA];apply RZ;simp [results73,WH]
 . rw [if_neg hz] at ea
   rw [ea];unfold gz at c3
   generalize (D3 l).2.2=er at*
   generalize (D3 l).2.1=ei at*
   generalize (D3 l).1=es at*
   refine CB func73 c73 fun E hE=>?_
   simp [p73];refine CLa c1 ?_;simp;refine CLa c2 ?_;simp [hx,hy,hw,g1,g2,inC,Nat.testBit];refine CLa c3 ?_;simp [AA,hz];apply RZ;simp [results73]
theorem yP (l:List Gal) (hl:l.length<=1000000):Ct prog 135 [.d (C2 l)] (vb (Dr l)) []:=by
 have c1:=si (l.length:Int) 1 16;cases hn:rgB 1 16 [(l.length:Int)]
 . rw [hn] at c1
   have hbad:Dr l=false:=by unfold Dr;simp [hn]
   refine CB func135 zo fun E hE=>?_
   simp [p135];refine CLa c1 ?_;simp;apply RZ;simp [results135,hbad]
 rw [hn] at c1;refine CB func135 zo fun E hE=>?_
 simp [p135];refine CLa c1 ?_;simp;refine Al (α:=Nat) (fun i=>⟨AO [(0, .d (C2 l)),(3,vi i)],lk [],0⟩) (fun i=>i<=l.length/\∀ j,j < i->AAU l j=true) (fun i=>l.length - i) 0 ?_ ?_ ?_
 . exact ⟨by omega,fun j hj=>by omega⟩
 . exact WK hE (lk [])
 . rintro i ⟨hi,hg⟩
   by_cases h:i < l.length
   . obtain ⟨x,hx⟩:=gE h
     have hz:=@wz i (by omega);have hI:(i:Int) < l.length:=by omega
     have c2:=si x.h (-500) 9000;have c3:=si x.g 0 500;have c4:=se x.xl x.xh (-1000) 1000;have c5:=se x.yl x.yh (-1000) 1000;have eg:AAU l i=(rgB (-500) 9000 [x.h]&&(if i=0 then true else match l[i - 1]? with | some y=>decide (y.h < x.h) | none=>true)&&rgB 0 500 [x.g]&&spB (-1000) 1000 x.xl x.xh&&spB (-1000) 1000 x.yl x.yh):=by unfold AAU;simp only [hx];rfl
     have fin:AAU l i=true->∀ j,j < i+1->AAU l j=true:=fun he j hj=>by
       by_cases e:j=i
       . rw [e];exact he
       . exact hg j (by omega)
     generalize rgB (-500) 9000 [x.h]=b1 at*
     generalize rgB 0 500 [x.g]=b2 at*
     generalize spB (-1000) 1000 x.xl x.xh=b3 at*
     generalize spB (-1000) 1000 x.yl x.yh=b4 at*
     cases b1
     . have hbad:=Fw h (by rw [eg];rfl)
       simp [GV,hI,hx,AA,inC,Nat.testBit];refine CLa c2 ?_;simp;apply RZ;simp [results135,hbad]
     . by_cases h0:i=0
       . rw [if_pos h0] at eg
         have hI0:¬ 0 < i:=by omega
         cases b3
         . have hbad:=Fw h (by rw [eg];simp)
           simp [GV,hI,hx,AA,inC,Nat.testBit]
           repeat ((first | (refine CLt c2 ?_ ?_;focus (simp;done)) | (refine CLt c4 ?_ ?_;focus (simp;done)) | (refine CLt c5 ?_ ?_;focus (simp;done)) | (refine CLt c3 ?_ ?_;focus (simp;done)));simp [hI0])
           apply RZ;simp [results135,hbad]
         cases b4
         . have hbad:=Fw h (by rw [eg];simp)
           simp [GV,hI,hx,AA,inC,Nat.testBit]
           repeat ((first | (refine CLt c2 ?_ ?_;focus (simp;done)) | (refine CLt c4 ?_ ?_;focus (simp;done)) | (refine CLt c5 ?_ ?_;focus (simp;done)) | (refine CLt c3 ?_ ?_;focus (simp;done)));simp [hI0])
           apply RZ;simp [results135,hbad]
         cases b2
         . have hbad:=Fw h (by rw [eg];simp)
           simp [GV,hI,hx,AA,inC,Nat.testBit]
           repeat ((first | (refine CLt c2 ?_ ?_;focus (simp;done)) | (refine CLt c4 ?_ ?_;focus (simp;done)) | (refine CLt c5 ?_ ?_;focus (simp;done)) | (refine CLt c3 ?_ ?_;focus (simp;done)));simp [hI0])
           apply RZ;simp [results135,hbad]
         . have hok:=fin (by rw [eg];rfl)
           simp [GV,hI,hx,AA,inC,Nat.testBit]
           repeat ((first | (refine CLt c2 ?_ ?_;focus (simp;done)) | (refine CLt c4 ?_ ?_;focus (simp;done)) | (refine CLt c5 ?_ ?_;focus (simp;done)) | (refine CLt c3 ?_ ?_;focus (simp;done)));simp [hI0,hz])
           refine ⟨i+1,⟨by omega,hok⟩,by omega,?_⟩;exact WK hE (lk [])
       . obtain ⟨y,hy⟩:∃ y,l[i - 1]?= some y:=⟨_,List.getElem?_eq_getElem (by omega)⟩
         have hw:IntKind.wrap .i64 ((i:Int) - 1)=((i - 1:Nat):Int):=by rw [AD (by omega) (by omega)];omega
         have hI0:0 < i:=by omega
         rw [if_neg h0,hy] at eg;simp only at eg;by_cases hc:x.h<=y.h
         . have hbad:=Fw h (by rw [eg,decide_eq_false (by omega)];simp)
           simp [GV,hI,hx,AA,inC,Nat.testBit];refine CLa c2 ?_;simp [hI0,hw,hy,hc,inC,Nat.testBit];apply RZ;simp [results135,hbad]
         . rw [decide_eq_true (by omega:y.h < x.h)] at eg
           cases b3
           . have hbad:=Fw h (by rw [eg];simp)
             simp [GV,hI,hx,AA,inC,Nat.testBit]
             repeat ((first | (refine CLt c2 ?_ ?_;focus (simp;done)) | (refine CLt c4 ?_ ?_;focus (simp;done)) | (refine CLt c5 ?_ ?_;focus (simp;done)) | (refine CLt c3 ?_ ?_;focus (simp;done)));simp [inC,Nat.testBit,hI0,hw,hy,hc])
             apply RZ;simp [results135,hbad]
           cases b4
           . have hbad:=Fw h (by rw [eg];simp)
             simp [GV,hI,hx,AA,inC,Nat.testBit]
             repeat ((first | (refine CLt c2 ?_ ?_;focus (simp;done)) | (refine CLt c4 ?_ ?_;focus (simp;done)) | (refine CLt c5 ?_ ?_;focus (simp;done)) | (refine CLt c3 ?_ ?_;focus (simp;done)));simp [inC,Nat.testBit,hI0,hw,hy,hc])
             apply RZ;simp [results135,hbad]
           cases b2
           . have hbad:=Fw h (by rw [eg];simp)
             simp [GV,hI,hx,AA,inC,Nat.testBit]
             repeat ((first | (refine CLt c2 ?_ ?_;focus (simp;done)) | (refine CLt c4 ?_ ?_;focus (simp;done)) | (refine CLt c5 ?_ ?_;focus (simp;done)) | (refine CLt c3 ?_ ?_;focus (simp;done)));simp [inC,Nat.testBit,hI0,hw,hy,hc])
             apply RZ;simp [results135,hbad]
           . have hok:=fin (by rw [eg];rfl)
             simp [GV,hI,hx,AA,inC,Nat.testBit]
             repeat ((first | (refine CLt c2 ?_ ?_;focus (simp;done)) | (refine CLt c4 ?_ ?_;focus (simp;done)) | (refine CLt c5 ?_ ?_;focus (simp;done)) | (refine CLt c3 ?_ ?_;focus (simp;done)));simp [inC,Nat.testBit,hI0,hw,hy,hc,hz])
             refine ⟨i+1,⟨by omega,hok⟩,by omega,?_⟩;exact WK hE (lk [])
   . have e:i=l.length:=by omega
     have hnn:¬ (i:Int) < l.length:=by omega
     have hall:Dr l=true:=by
       unfold Dr;rw [hn,Bool.true_and,List.all_eq_true];intro j hj
       exact hg j (by
        have:j < l.length:=by simpa using hj
        omega)
     simp [GV,hnn];apply RZ;simp [results135,hall]
theorem fn71 (k:Sky) (h1:k.s.length<=1000000) (h2:k.w.length<=1000000):Ct prog 71 [Eu k] (vb (BV k)) []:=by
 have c1:=xw k.s h1;have c2:=yP k.w h2;have e:BV k=(decide ((D3 k.s).2.2=0)&&Dr k.w):=rfl;unfold gz at c1
 generalize (D3 k.s).2.2=er at*
 by_cases h:er=0
 . rw [decide_eq_true h,Bool.true_and] at e
   refine CB func71 c71 fun E hE=>?_
   simp [p71];refine CLa c1 ?_;simp [h];refine CLa c2 ?_;simp;apply RZ;simp [results71,e]
 . rw [decide_eq_false h,Bool.false_and] at e
   refine CB func71 c71 fun E hE=>?_
   simp [p71];refine CLa c1 ?_;simp [h];apply RZ;simp [results71,e]
theorem fn74 (s:Shp) (a:Atm) (hs:VU s) (ha:Fx a):Ct prog 74 [Cl s (.d (AX s.gas.cs)),Ox a] (vsp (hvS s a).1 (hvS s a).2) []:=by
 have q1:=hs.f;have q2:=hs.w;have q3:=hs.d;have q4:=hs.b;have q5:=hs.n;have w1:IntKind.wrap .i64 (s.dry+s.bal)=s.dry+s.bal:=AD (by omega) (by omega);have w2:IntKind.wrap .i64 (s.dry+s.bal+s.fl)=s.dry+s.bal+s.fl:=AD (by omega) (by omega);have w3:IntKind.wrap .i64 (s.dry+s.bal+s.fl+s.wl)=s.dry+s.bal+s.fl+s.wl:=AD (by omega) (by omega);have w4:IntKind.wrap .i64 (s.dry+s.bal+s.fh)=s.dry+s.bal+s.fh:=AD (by omega) (by omega);have w5:IntKind.wrap .i64 (s.dry+s.bal+s.fh+s.wh)=s.dry+s.bal+s.fh+s.wh:=AD (by omega) (by omega);have ho:(0<=(hv0 s).1/\(hv0 s).1<=4000000000)/\0<=(hv0 s).2/\(hv0 s).2<=4000000000:=by unfold hv0;simp only;omega
 refine CB func74 c74 fun E hE=>?_
 simp [p74,AA,w1,w2,w3,w4,w5];refine Al (α:=Nat) (fun i=>⟨AO [(2, .lp 3 0),(3, .lp 0 0),(4, .lp 1 0),(5, .lp 2 0),(6,vi i)],lk [(3,[vi s.xl,vi s.xh,vi s.yl,vi s.yh,vi s.hl,vi s.hh,vi s.fl,vi s.fh,vi s.wl,vi s.wh,vi s.bl,vi s.bh,vi s.dry,vi s.bal,vi s.drp, .d (AX s.gas.cs),vi s.gas.bt,vi s.gas.ih,vi s.gas.ia,vi s.gas.vh,vi s.gas.va,vi s.gas.lh,vi s.gas.la,vi s.gas.ph,vi s.gas.pa]),(0,[vi a.pl,vi a.ph,vi a.tl,vi a.th]),(1,[vi 0,vi 0]),(2,[vi (hvK a (s.gas.cs.take i) (hv0 s)).1,vi (hvK a (s.gas.cs.take i) (hv0 s)).2])],4⟩) (fun i=>i<=s.gas.cs.length) (fun i=>s.gas.cs.length - i) 0 ?_ ?_ ?_
 . omega
 . refine AI.mk hE (lk [(3,0),(0,1048576),(1,2097152),(2,31457280)]) _ _ _ ?_ ?_ ?_ ?_ ?_<;>simp [hvK,hv0]
 . intro i hi
   by_cases h:i < s.gas.cs.length
   . obtain ⟨c,hc⟩:=gE h
     have hz:=@wz i (by omega);have hI:(i:Int) < s.gas.cs.length:=by omega
     have hcb:=hs.c c (List.mem_of_getElem? hc);have c1:=zb c a hcb ha;have hb:=TE hcb ha;have hk:=Yr ha ho hs.c i hi;have hnx:=Oo (a:=a) (o:=hv0 s) hc
     generalize hvK a (s.gas.cs.take i) (hv0 s)=o at*
     have w6:IntKind.wrap .i64 (o.1 - (Bx c a).2)=o.1 - (Bx c a).2:=AD (by omega) (by omega);have w7:IntKind.wrap .i64 (o.2 - (Bx c a).1)=o.2 - (Bx c a).1:=AD (by omega) (by omega);simp [wU,hI];refine AL [(12,17825796)] (by kernel_rfl) ?_;simp [hc,inC,Nat.testBit];refine CLa c1 ?_;simp [AA,w6,w7,hz,inC,Nat.testBit];refine ⟨i+1,by omega,by omega,?_⟩;rw [hnx];exact WK hE (lk [(3,3),(0,0),(1,1),(2,2)])
   . have e:i=s.gas.cs.length:=by omega
     have hn:¬ (i:Int) < s.gas.cs.length:=by omega
     rw [e,List.take_length];simp [wU,AA];apply RZ;simp [results74,hvS]
def EK (a:Atm) (c:Cel):Bool:=!decide (Lh c a=1)
theorem fn82 (s:Shp) (a:Atm) (hs:VU s) (ha:Fx a):Ct prog 82 [Cl s (.d (AX s.gas.cs)),Ox a] (vi (ixF (EK a) s.gas.cs)) []:=by
 have q5:=hs.n;refine CB func82 c82 fun E hE=>?_
 simp [p82];refine Al (α:=Nat) (fun i=>⟨AO [(2, .lp 0 0),(3, .lp 1 0),(5,vi i)],lk [(0,[vi s.xl,vi s.xh,vi s.yl,vi s.yh,vi s.hl,vi s.hh,vi s.fl,vi s.fh,vi s.wl,vi s.wh,vi s.bl,vi s.bh,vi s.dry,vi s.bal,vi s.drp, .d (AX s.gas.cs),vi s.gas.bt,vi s.gas.ih,vi s.gas.ia,vi s.gas.vh,vi s.gas.va,vi s.gas.lh,vi s.gas.la,vi s.gas.ph,vi s.gas.pa]),(1,[vi a.pl,vi a.ph,vi a.tl,vi a.th])],2⟩) (fun i=>i<=s.gas.cs.length/\∀ j,j < i->(s.gas.cs[j]?).all (fun c=>!EK a c)=true) (fun i=>s.gas.cs.length - i) 0 ?_ ?_ ?_
 . exact ⟨by omega,fun j hj=>by omega⟩
 . exact WK hE (lk [(0,0),(1,1048576)])
 . rintro i ⟨hi,hg3⟩
   have hg2:∀ (j:Nat) (c:Cel),j < i->s.gas.cs[j]?= some c->EK a c=false:=fun j c hj hc=>by
     have:=hg3 j hj;rw [hc] at this;have h9:(!EK a c)=true:=this;rw [Bool.not_eq_true'] at h9;exact h9
   by_cases h:i < s.gas.cs.length
   . obtain ⟨c,hc⟩:=gE h
     have hz:=@wz i (by omega);have hI:(i:Int) < s.gas.cs.length:=by omega
     have c1:=za c a (hs.c c (List.mem_of_getElem? hc)) ha;by_cases hf:Lh c a=1
     . have hnf:EK a c=false:=by unfold EK;rw [decide_eq_true hf];rfl
       simp [uz,hI,hc,inC,Nat.testBit];refine CLa c1 ?_;simp [hf,hz];refine ⟨i+1,⟨by omega,fun j hj=>?_⟩,by omega,?_⟩
       . by_cases e:j=i
         . subst e;rw [hc]
           show (!EK a c)=true
           rw [hnf];rfl
         . exact hg3 j (by omega)
       . exact WK hE (lk [(0,0),(1,1)])
     . have hnf:EK a c=true:=by unfold EK;rw [decide_eq_false hf];rfl
       have e:ixF (EK a) s.gas.cs=i:=IY hc hnf hg2;rw [e];simp [uz,hI,hc,inC,Nat.testBit];refine CLa c1 ?_;simp [hf];apply RZ;simp [results82]
   . have hn:¬ (i:Int) < s.gas.cs.length:=by omega
     have e:ixF (EK a) s.gas.cs= -1:=IX fun j c hc=>hg2 j c (by have:=(List.getElem?_eq_some_iff.1 hc).1;omega) hc
     rw [e];simp [uz,hn];apply RZ;simp [results82]
theorem yd (l:List Cel) (hl:l.length<=1000000):Ct prog 150 [.d (AX l), .d (AX l)] (vb true) []:=by
 refine CB func150 c150 fun E hE=>?_
 simp [p150];refine Al (α:=Nat) (fun i=>⟨AO [(0, .d (AX l)),(1, .d (AX l)),(5,vi i)],lk [],0⟩) (fun i=>i<=l.length) (fun i=>l.length - i) 0 ?_ ?_ ?_
 . omega
 . exact WK hE (lk [])
 . intro i hi
   by_cases h:i < l.length
   . obtain ⟨x,hx⟩:=gE h
     have hz:=@wz i (by omega);have hI:(i:Int) < l.length:=by omega
     simp [ud,hI,hx,hz];refine ⟨i+1,by omega,by omega,?_⟩;exact WK hE (lk [])
   . have hn:¬ (i:Int) < l.length:=by omega
     simp [ud,hn];apply RZ;simp [results150]
theorem ABT (l:List Act) (hl:l.length<=1000000):Ct prog 27 [.d (JZ l), .d (JZ l)] (vb true) []:=by
 refine CB func27 c27 fun E hE=>?_
 simp [p27];refine Al (α:=Nat) (fun i=>⟨AO [(0, .d (JZ l)),(1, .d (JZ l)),(5,vi i)],lk [],0⟩) (fun i=>i<=l.length) (fun i=>l.length - i) 0 ?_ ?_ ?_
 . omega
 . exact WK hE (lk [])
 . intro i hi
   by_cases h:i < l.length
   . obtain ⟨x,hx⟩:=gE h
     have hz:=@wz i (by omega);have hI:(i:Int) < l.length:=by omega
     simp [ABJ,hI,hx,hz];refine ⟨i+1,by omega,by omega,?_⟩;exact WK hE (lk [])
   . have hn:¬ (i:Int) < l.length:=by omega
     simp [ABJ,hn];apply RZ;simp [results27]
theorem zh (p:Plt) (hl:p.cs.length<=1000000):Ct prog 83 [Cy p (.d (AX p.cs)),Cy p (.d (AX p.cs))] (vb true) []:=by
 have c:=yd p.cs hl;refine CB func83 c83 fun E hE=>?_
 simp [p83];refine CLa c ?_;simp;apply RZ;simp [results83]
theorem ABP (s:Shp) (hl:s.gas.cs.length<=1000000):Ct prog 28 [Cl s (.d (AX s.gas.cs)),Cl s (.d (AX s.gas.cs))] (vb true) []:=by
 have c:=zh s.gas hl;refine CB func28 c28 fun E hE=>?_
 simp [p28];refine CLa c ?_;simp;apply RZ;simp [results28]
theorem fn19 (s:Shp):Ct prog 19 [Cl s (.d (AX s.gas.cs))] (vb (decide (20 < s.gas.cs.length))) []:=by
 have e:decide ((20:Int) < s.gas.cs.length)=decide (20 < s.gas.cs.length):=decide_eq_decide.2 (by omega);refine CB func19 c19 fun E hE=>?_
 simp [p19];apply RZ;simp [results19,e]
theorem fn18 (k:Sky):Ct prog 18 [Eu k] (vb (decide (24 < k.s.length)||decide (24 < k.w.length))) []:=by
 have e:decide ((24:Int) < k.w.length)=decide (24 < k.w.length):=decide_eq_decide.2 (by omega);by_cases h:24 < k.s.length
 . have hI:(24:Int) < k.s.length:=by omega
   refine CB func18 c18 fun E hE=>?_
   simp [p18,hI];apply RZ;simp [results18,h]
 . have hI:¬ (24:Int) < k.s.length:=by omega
   refine CB func18 c18 fun E hE=>?_
   simp [p18,hI];apply RZ;simp [results18,h,e]
end Go.Proofs.Tryz
namespace Go.Psl
variable {P:Program} {Γ:Tys} {eqs:Eqs} {E:Ent}
def RL (G:Gh) (W:World):Option V->FrameMode->Prop
 | none,u=>u= .returning
 | some v,u=>∃ x,u= .panicking [{v:=x,recovered:=false}]/\RV G W v x
def CmD (P:Program) (f:FuncId) (args:List V) (Hin:Hp) (ks:List Nat) (m:Option V) (H1:Hp):Prop:=
 fF P f/\∀ (G:Gh) (W:World) (xs:Array Value) (u:FrameMode),(∀ b,G.Im b->b < W.heap.size)->AJ (R2 G W) args xs.toList->Qu G W Hin ks->RL G W m u->
   CallsDIn Fence.wide 0 P f xs u W fun e u' W'=>settle u'= .returning/\(∃ v,e= .returned v)/\∃ G',sG G W Hin ks (.ret (.tup [])) H1 e W' G'
def NV:Option V->V
 | none=> .d (.lit .nilIface)
 | some v=>v
theorem ML {fn:Func} {args:List V} {N:Nat} {G:Gh} {W:World} {xs:Array Value} (hcl:∀ v∈args,A2 (· < N) AR v) (hargs:AJ (R2 G W) args xs.toList):
   (∀ t,RV G W (Dn 0 args t) ((xs++Array.replicate (fn.ntmps - xs.size) undef).getD t undef))/\∀ t,AV (· < N) AR (Dn 0 args t):=by
 have hl:args.length=xs.size:=by have:=hargs.length;simpa using this
 refine ⟨fun t=>?_,fun t=>?_⟩
 . rw [H5,if_pos (Nat.zero_le t),Nat.sub_zero,Array.getD_eq_getD_getElem?]
   by_cases ht:t < xs.size
   . rw [Array.getElem?_append_left ht,Array.getElem?_eq_getElem ht]
     have h1:args[t]?= some args[t]:=List.getElem?_eq_getElem (by omega);obtain ⟨x,hx,hrx⟩:=hargs.get h1;rw [h1]
     have:x=xs[t]:=by
       rw [Array.getElem?_toList,Array.getElem?_eq_getElem ht] at hx;cases hx;rfl
     subst this;exact hrx.rv
   . rw [List.getElem?_eq_none (by omega),Array.getElem?_append_right (by omega)]
     have:((Array.replicate (fn.ntmps - xs.size) undef)[t - xs.size]?).getD undef=undef:=by
       rw [Array.getElem?_replicate];split<;>rfl
     rw [this];exact EL
 . rw [H5,if_pos (Nat.zero_le t),Nat.sub_zero]
   cases h1:args[t]? with
   | none=>intro c hc;cases hc
   | some v=>
     obtain ⟨x,_,hx⟩:=hargs.get h1;exact hx.av (hcl v (List.mem_of_getElem? h1))
theorem CmD.by (hΓ:GOk P Γ) (hE:EB P eqs) (hm:P.follows .mixedOrders=true) {f:FuncId} {fn:Func} {id:Nat} {o1 o2:Oper} {rest:Code} {p:PC} {t3 t2:Nat} {args:List V} {Hin:Hp} {ks:List Nat} {m:Option V} {H1:List (Nat × List V)} (N:Nat)
   (hf:P.funcs[f]?= some fn) (hb:fn.body=some (.seq (.region id #[o1,o2] false) rest)) (hname:(fn.name == "runtime.NumGoroutine")=false)
   (g1:o1.guard=none) (g2:o2.guard=none) (d1:o1.dst=some t3) (d2:o2.dst=some t2) (r1:∀ ρ W,(execOp ρ o1).run P W= .ok .recover W) (r2:∀ ρ W,(execOp ρ o2).run P W= .ok (.value (ρ (.tmp t3))) W) (n3:t3 < fn.ntmps) (n2:t2 < fn.ntmps)
   (hc:AK fn.ntmps rest=some p) (hn:args.length<=fn.ntmps) (hcl:∀ v∈args,A2 (· < N) AR v) (hrv:AV (· < N) AR (NV m)) (hids:H3 N Hin) (hks:∀ i∈ks,i < N) (hri:LD (.tup []) H1)
   (h:∀ E:Ent,(∀ i,E.stab i↔i∈ks)->PW P Γ eqs E p (Mh Γ fn ks (.ret (.tup [])) H1) ⟨Am (Am (Dn 0 args) (some t3) (NV m)) (some t2) (NV m),Hin,N⟩):CmD P f args Hin ks m (lk H1):=by
 refine ⟨⟨fn,hf,by rw [hb];rfl,hname⟩,fun G W xs u hGW hargs hpre hu=>?_⟩;obtain ⟨hfr,hwf⟩:=ML (fn:=fn) hcl hargs;have hl:args.length=xs.size:=by have:=hargs.length;simpa using this
 have hsz:(xs++Array.replicate (fn.ntmps - xs.size) undef).size=fn.ntmps:=by simp;omega
 have hI:=Inv.startN (nt:=fn.ntmps) (rd:=none) (nm:=true) hGW hpre hids hks (tmps:=xs++Array.replicate (fn.ntmps - xs.size) undef) hfr hwf (by rw [hsz];exact Nat.le_refl _);refine callsDIn_of_wpSIn hf hb trivial fun c₀ cs hc0=>?_
 refine wpSIn_seq (wpSIn_region ?_)
 have tail:∀ (x:Value) (c1:Frame) (u':FrameMode),RV G W (NV m) x->c1={c₀ with mode:=u'}->settle u'= .returning->
     Exit.thenS (rest.wpSIn Fence.wide 0 P (bodyPostS P fn c₀ cs fun e u' W'=>settle u'= .returning/\(∃ v,e= .returned v)/\∃ G',sG G W Hin ks (.ret (.tup [])) (lk H1) e W' G')) (bodyPostS P fn c₀ cs fun e u' W'=>settle u'= .returning/\(∃ v,e= .returned v)/\∃ G',sG G W Hin ks (.ret (.tup [])) (lk H1) e W' G') .normal
       ((({tmps:=xs++Array.replicate (fn.ntmps - xs.size) undef,defers:=[]}:Act).put (some t3) x).put (some t2) x) (c1::cs) W:=by
   intro x c1 u' hx hc1 hu';refine wpSIn_of_wpIn rfl ?_;have hI1:=(hI.slot hx hrv (some t3) (fun d hd=>by cases hd;exact n3)).slot (v:=NV m) (x:=x) hx hrv (some t2) (fun d hd=>by cases hd;exact n2);refine wpIn_mono (PW.sound hΓ hE hm rest p hc _ _ (h _ (fun _=>Iff.rfl)) G _ W hI1) fun e a' W' ⟨y,st',G',hI',hy,_,hq⟩=>?_
   have hbase:W=W/\G.Im=G.Im/\(∀ b,Bm G Hin b↔Bm G Hin b)/\∀ i,i∈ks->i∈ks/\G.β i=G.β i/\G.bs i=G.bs i/\G.lo i=G.lo i:=⟨rfl,rfl,fun _=>Iff.rfl,fun _ h=>⟨h,rfl,rfl,rfl⟩⟩
   obtain ⟨ds,hd,hmk⟩:=hI'.df;have hd0:ds=[]:=hmk.nm rfl;subst hd0
   have fin:Dc Γ fn ks (.tup []) H1 st'->bodyPostS P fn c₀ cs (fun e u' W'=>settle u'= .returning/\(∃ v,e= .returned v)/\∃ G',sG G W Hin ks (.ret (.tup [])) (lk H1) e W' G') .ret a' (c1::cs) W':=fun hq=>by
     obtain ⟨ρ,v,hv,hr,h4,h5,h6⟩:=H6 hΓ hI' hq;exact ⟨hd,u',by rw [hc1],v,hv,hu',⟨v,rfl⟩,_,GK (res:= .ret (.tup [])) hbase hri hI' h4 h5 h6 (e:= .returned v) hr⟩
   cases e<;>cases y<;>first | exact fin hq | exact hq.elim | exact False.elim hy
 rw [show List.range (#[o1,o2]:Array Oper).size=[0,1] from rfl];simp only [wpOpsSIn];have w1:Region.wanted o1 (yielded #[o1,o2] (xs++Array.replicate (fn.ntmps - xs.size) undef))=true:=by simp [Region.wanted,g1]
 have w2:∀ T,Region.wanted o2 (yielded #[o1,o2] T)=true:=fun T=>by simp [Region.wanted,g2]
 have e1:(#[o1,o2]:Array Oper)[0]?= some o1:=rfl;have e2:(#[o1,o2]:Array Oper)[1]?= some o2:=rfl
 have ev:∀ x:Value,((({tmps:=xs++Array.replicate (fn.ntmps - xs.size) undef,defers:=[]}:Act).put (some t3) x).eval (.tmp t3))=x:=fun x=>by
   simp [Act.put,Act.eval,Array.getD_eq_getD_getElem?,hsz,n3]
 rw [e1];refine ⟨fun _ _=>trivial,?_⟩;simp only [w1,if_true,r1];cases m with
 | none=>
   have hmode:c₀.mode= .returning:=hc0.trans hu;have hrec:recoverD (c₀::cs)=none:=by simp [recoverD,hmode]
   simp only [hrec,e2];refine ⟨fun _ _=>trivial,?_⟩;simp only [w2,if_true,r2,d1,d2,ev];exact tail .nilIface c₀ .returning (.lit _ rfl) (by rw [<-hmode]) rfl
 | some v=>
   obtain ⟨x,hx,hrx⟩:=hu;have hmode:c₀.mode= .panicking [{v:=x,recovered:=false}]:=hc0.trans hx;have hrec:recoverD (c₀::cs)=some (x,{c₀ with mode:= .panicking [{v:=x,recovered:=true}]}::cs):=by simp [recoverD,hmode]
   simp only [hrec,e2];refine ⟨fun _ _=>trivial,?_⟩;simp only [w2,if_true,r2,d1,d2,ev];exact tail x _ _ hrx rfl rfl
end Go.Psl
namespace Go.Psl
variable {P:Program} {Γ:Tys} {eqs:Eqs} {E:Ent}
theorem jh {α:Type} {l:List α} (h:l.length=2):∃ a b,l=[a,b]:=by
 match l,h with
 | [a,b],_=>exact ⟨a,b,rfl⟩
structure ji (E:Ent) (G0:Gh) (W0:World):Prop where
 w:E.W0=W0
 im:E.Im0=G0.Im
 mu:∀ b,E.mu b↔Bm G0 noH b
 rd:E.rd=none
 dx:E.dx=[]
 nm:E.nm=true
abbrev KO (G0:Gh) (W0:World) (r:V) (H1:List (Nat × List V)):Ending->World->Prop:=fun e W'=>∃ G',sG G0 W0 noH [] (.ret r) (lk H1) e W' G'
def DW (P:Program) (E:Ent) (fn:Func) (r:V) (H1:List (Nat × List V)) (p:PC) (st:St):Prop:=
 LD r H1->∀ (c:Code),AK E.nt c=some p->∀ (G0:Gh) (W0:World),ji E G0 W0->∀ G a W,Inv E (· < st.nx) G st a W->
   c.wpIn Fence.wide 0 P (bodyPostM Fence.wide 0 P fn (KO G0 W0 r H1)) a W
theorem OI {nt:Nat} {c:Code} {pa pb:PC} (h:AK nt c=some (.seq pa pb)):∃ x y,c= .seq x y/\AK nt x=some pa/\AK nt y=some pb:=by
 cases c with
 | seq x y=>
   simp only [AK,Option.bind_eq_some_iff,Option.map_eq_some_iff] at h;obtain ⟨a,ha,b,hb,he⟩:=h;cases he;exact ⟨x,y,rfl,ha,hb⟩
 | region id ops draw=>
   simp only [AK,M8] at h;split at h
   . split at h
     . simp only [Option.some.injEq] at h
       split at h<;>cases h
     . cases h
   . split at h<;>cases h
 | cond c a b=>
   simp only [AK,Option.bind_eq_some_iff,Option.map_eq_some_iff] at h;obtain ⟨a,ha,b,hb,he⟩:=h;cases he
 | rangeFunc f ps a b=>
   simp only [AK,Option.bind_eq_some_iff,Option.map_eq_some_iff] at h;obtain ⟨a,ha,b,hb,he⟩:=h;cases he
 | block id a=>
   simp only [AK,Option.map_eq_some_iff] at h;obtain ⟨a,ha,he⟩:=h;cases he
 | loop a=>
   simp only [AK,Option.map_eq_some_iff] at h;obtain ⟨a,ha,he⟩:=h;cases he
 | _=>simp [AK] at h
theorem XF {nt:Nat} {c:Code} {ops:List PO} (h:AK nt c=some (.reg ops)):∃ id all,c= .region id (List.toArray all) false/\ops=all.map (IO all)/\F3 nt all=true:=by
 cases c with
 | seq x y=>
   simp only [AK,Option.bind_eq_some_iff,Option.map_eq_some_iff] at h;obtain ⟨a,ha,b,hb,he⟩:=h;cases he
 | region id ops draw=>
   simp only [AK,M8] at h;split at h
   . split at h
     . simp only [Option.some.injEq] at h
       split at h<;>cases h
     . cases h
   . rename_i hd
     split at h
     . rename_i hds
       simp only [Option.some.injEq,PC.reg.injEq] at h;refine ⟨id,ops.toList,?_,h.symm,hds⟩;cases draw
       . simp
       . exact absurd rfl hd
     . cases h
 | cond c a b=>
   simp only [AK,Option.bind_eq_some_iff,Option.map_eq_some_iff] at h;obtain ⟨a,ha,b,hb,he⟩:=h;cases he
 | rangeFunc f ps a b=>
   simp only [AK,Option.bind_eq_some_iff,Option.map_eq_some_iff] at h;obtain ⟨a,ha,b,hb,he⟩:=h;cases he
 | block id a=>
   simp only [AK,Option.map_eq_some_iff] at h;obtain ⟨a,ha,he⟩:=h;cases he
 | loop a=>
   simp only [AK,Option.map_eq_some_iff] at h;obtain ⟨a,ha,he⟩:=h;cases he
 | _=>simp [AK] at h
def dwQ (P:Program) (Γ:Tys) (E:Ent) (fn:Func) (r:V) (H1:List (Nat × List V)) (pb:PC):Av->St->Prop
 | .normal,st=>DW P E fn r H1 pb st
 | .ret,st=>Dc Γ fn [] r H1 st
 | _,_=>False
theorem DW.seq (hΓ:GOk P Γ) (hE:EB P eqs) (hm:P.follows .mixedOrders=true) {fn:Func} {r:V} {H1:List (Nat × List V)} {pa pb:PC} {st:St} (h:PW P Γ eqs E pa (dwQ P Γ E fn r H1 pb) st):DW P E fn r H1 (.seq pa pb) st:=by
 intro hri c hc G0 W0 hB G a W hI;obtain ⟨x,y,rfl,hx,hy⟩:=OI hc;have hF:E.F=Fence.wide:=by unfold Ent.F;rw [hB.rd];rfl
 have h1:=PW.sound hΓ hE hm x pa hx _ _ h G a W hI;rw [hF] at h1;refine wpIn_seq (wpIn_mono h1 fun e a' W' ⟨z,st',G',hI',hz,ho,hq⟩=>?_);have hbase:E.W0=W0/\E.Im0=G0.Im/\(∀ b,E.mu b↔Bm G0 noH b)/\∀ i,i∈([]:List Nat)->E.stab i/\E.β0 i=G0.β i/\E.bs0 i=G0.bs i/\E.lo0 i=G0.lo i:=⟨hB.w,hB.im,hB.mu,fun _ h=>by cases h⟩
 cases z with
 | normal=>
   cases e<;>first | exact hq hri y hy G0 W0 hB G' a' W' hI' | exact False.elim hz
 | ret=>
   cases e with
   | ret=>
     show LeavesInM Fence.wide 0 P fn a'.tmps (KO G0 W0 r H1) a'.defers .returning W'
     obtain ⟨ds,hd,hmk⟩:=hI'.df;rw [hmk.nm hB.nm,hB.dx] at hd;rw [hd];obtain ⟨ρ,v,hv,hr,h4,h5,h6⟩:=H6 hΓ hI' hq;exact ⟨v,hv,_,GK (res:= .ret r) hbase hri hI' h4 h5 h6 (e:= .returned v) hr⟩
   | _=>exact False.elim hz
 | _=>exact hq.elim
def Cn (P:Program) (g:FuncId) (ids:List (Nat × Nat)) (m:Option V) (K:St->Prop) (st:St):Prop:=
 (∀ p∈ids,(st.H p.1).isSome=true)/\∃ args Hin ks H1c,CmD P g args Hin ks m H1c/\IB st.H (ids.map fun p=> .lp p.1 p.2) args Hin ks (.ret (.tup [])) H1c/\K ⟨st.fr,BI st.H st.nx Hin ks H1c,st.nx⟩
def XG (P:Program) (Γ:Tys) (fn:Func) (r:V) (H1:List (Nat × List V)) (g:FuncId) (ids:List (Nat × Nat)):Av->St->Prop
 | .normal,st | .ret,st=>Cn P g ids none (Dc Γ fn [] r H1) st
 | .pan v,st=>∃ D,v= .d D/\Cn P g ids (some v) (Dc Γ fn [] r H1) st
 | _,_=>False
theorem JY (hΓ:GOk P Γ) {fn:Func} {r:V} {H1:List (Nat × List V)} {g:FuncId} {ids:List (Nat × Nat)} {cv:Array Value} (hri:LD r H1) {G0:Gh} {W0:World} {E:Ent} (hbase:E.W0=W0/\E.Im0=G0.Im/\(∀ b,E.mu b↔Bm G0 noH b)/\∀ i,i∈([]:List Nat)->E.stab i/\E.β0 i=G0.β i/\E.bs0 i=G0.bs i/\E.lo0 i=G0.lo i)
   (hcv:AJ (fun (p:Nat × Nat) x=>E.stab p.1/\E.lo0 p.1=false/\x= .pointer (some ⟨E.β0 p.1,p.2,none⟩)) ids cv.toList) {st:St} {G:Gh} {a:Act} {W:World} (hI:Inv E (· < st.nx) G st a W) {m:Option V} (hm:∀ v,m=some v->∃ D,v= .d D) {u:FrameMode} (hu0:u≠ .run) (hu:RL G W m u) (h:Cn P g ids m (Dc Γ fn [] r H1) st):
   LeavesInM Fence.wide 0 P fn a.tmps (KO G0 W0 r H1) [{target:= .fn (.func g) cv,args:= #[]}] u W:=by
 obtain ⟨hlive,args,Hin,ks,H1c,⟨⟨f',hfn',hbody,hname⟩,hcm⟩,hcb,hK⟩:=h;have h1:f'.name≠ "runtime.NumGoroutine" :=by simpa using hname
 have h2:f'.body.isNone=false:=by cases h:f'.body<;>simp_all
 have hrel:AJ (RV G W) (ids.map fun p=>V.lp p.1 p.2) cv.toList:=AJ.map_left.2 (AJ.of_get hcv.length fun i p x hp hx=>by
   obtain ⟨y,hy,q1,q2,q3⟩:=hcv.get hp;rw [hx] at hy;cases hy;have hs:=hI.stab p.1 q1 (hlive p (List.mem_of_getElem? hp));refine ⟨⟨hs.2.2.1,hs.2.2.2.trans q2⟩,?_⟩;rw [q3,hs.1])
 obtain ⟨Im,hIm,hall,hpre,hph,hcs⟩:=GR hI hrel hcb;obtain ⟨hin,hlt,hkk,_⟩:=hcb
 have hle:∀ b,G.Im b->Im b:=fun b hb=>by
   rcases hcs with h | ⟨h,_⟩
   . exact (h b).2 hb
   . exact (h b).2 (.inl hb)
 have hmode:RL {G with Im:=Im} W m u:=by
   cases m with
   | none=>exact hu
   | some v=>
     obtain ⟨x,hx,hr⟩:=hu;obtain ⟨D,rfl⟩:=hm v rfl;exact ⟨x,hx,RD.mono (show RD G.Im W D x from hr) fun b hb=>⟨hle b hb,rfl⟩⟩
 refine ⟨hu0, .inr ⟨by simp [Fence.wide], .func g,cv,g,cv,rfl,?_,fun _ _=>trivial,?_⟩⟩
 . simp only [invoke,callFunc,Sem.run_bind,run_program,Result.andThen_ok,hfn']
   simp [h1,h2]
 . refine (hcm {G with Im:=Im} W cv u hIm hall hpre hmode).mono fun e u' W' ⟨hs,⟨v,hv⟩,G',hpost⟩=>?_
   subst hv
   show LeavesInM Fence.wide 0 P fn a.tmps (KO G0 W0 r H1) [] (settle u') W'
   rw [hs];obtain ⟨G'',hI',hrv,hav,_⟩:=hI.call (base:=st.nx) (U':=(· < st.nx+1048576)) (fun j _=>by omega) (fun i hi=>by omega) (fun j hj=>by omega) hin hlt (fun i hi=>(hpre.st i hi).1) hph hpost hcs;obtain ⟨ρ,v',hv',hr,h4,h5,h6⟩:=H6 hΓ hI' hK;exact ⟨v',hv',_,GK (res:= .ret r) hbase hri hI' h4 h5 h6 (e:= .returned v') hr⟩
theorem DW.defer (hΓ:GOk P Γ) (hE:EB P eqs) (hm:P.follows .mixedOrders=true) {fn:Func} {r:V} {H1:List (Nat × List V)} {pb:PC} {t:Nat} {g:FuncId} {caps:Array Operand} {cl:Call} {st:St} (ids:List (Nat × Nat)) (hcal:cl.callee= .value (.tmp t)) (hcl:cl.args= #[])
   (hcaps:BX st.fr caps.toList=ids.map fun p=> .lp p.1 p.2) (_:∀ i,¬ E.stab i)
   (h:∀ E':Ent,E'.nt=E.nt->(∀ i,E'.stab i↔i∈ids.map Prod.fst)->E'.rq->PW P Γ eqs E' pb (XG P Γ fn r H1 g ids) ⟨Am st.fr (some t) (.cl g (ids.map fun p=> .lp p.1 p.2)),st.H,st.nx+2097152⟩):
   DW P E fn r H1 (.seq (.reg [⟨some t, .makeFunc (.func g) #[] caps,none⟩,⟨none, .defer cl,none⟩]) pb) st:=by
 intro hri c hc G0 W0 hB G a W hI;obtain ⟨x,y,rfl,hx,hy⟩:=OI hc;obtain ⟨id,all,rfl,hops,hds⟩:=XF hx;obtain ⟨o1,o2,rfl⟩:=jh (l:=all) (by have:=congrArg List.length hops;simpa using this.symm);simp only [List.map_cons,List.map_nil,List.cons.injEq,IO,PO.mk.injEq,and_true] at hops;obtain ⟨⟨p1,p2,p3⟩,q1,q2,q3⟩:=hops;have g1:o1.guard=none:=by cases h:o1.guard with | none=>rfl | some z=>rw [h] at p3;cases p3
 have g2:o2.guard=none:=by cases h:o2.guard with | none=>rfl | some z=>rw [h] at q3;cases q3
 have hF:E.F=Fence.wide:=by unfold Ent.F;rw [hB.rd];rfl
 refine wpIn_seq (wpIn_region_lit ?_);have w1:Region.wanted o1 (yielded [o1,o2].toArray a.tmps)=true:=by simp [Region.wanted,g1]
 have w2:∀ T,Region.wanted o2 (yielded [o1,o2].toArray T)=true:=fun T=>by simp [Region.wanted,g2]
 simp only [wpListIn,w1,if_true]
 have hlt:t < E.nt:=by
   have:=List.all_eq_true.1 hds o1 (by simp);rw [<-p1] at this;simpa using this
 have hev:A9 Γ eqs st.H st.nx st.fr o1.op=some (.cl g (ids.map fun p=> .lp p.1 p.2), .none):=by
   rw [<-p2];simp only [A9,hcaps,G8];simp [V.cap]
 have hs:=E4 (U':=(· < st.nx+2097152)) hΓ hE hI (o:=o1) (b:=st.nx) (fun j _=>by omega) (fun i hi=>by omega) (fun j hj=>by omega) (fun d hd=>by rw [<-p1] at hd;cases hd;exact hlt) (.plain _ _ hev)
   (K:=fun a' W'=>wpListIn Fence.wide 0 P [o1,o2].toArray (Exit.then (y.wpIn Fence.wide 0 P (bodyPostM Fence.wide 0 P fn (KO G0 W0 r H1))) (bodyPostM Fence.wide 0 P fn (KO G0 W0 r H1))) [o2] a' W')
   (Q:=Exit.then (y.wpIn Fence.wide 0 P (bodyPostM Fence.wide 0 P fn (KO G0 W0 r H1))) (bodyPostM Fence.wide 0 P fn (KO G0 W0 r H1))) fun G' a' W' hI'=>by
     simp only [wpListIn,w2,if_true];refine ⟨fun _ _=>trivial,?_⟩;have hfr:=hI'.fr t;have hwf:=hI'.wf t;have e0:Am st.fr o1.dst (.cl g (ids.map fun p=> .lp p.1 p.2)) t= .cl g (ids.map fun p=> .lp p.1 p.2):=by rw [<-p1];simp [Am,upd]
     simp only [e0] at hfr hwf;obtain ⟨cv,hx,hcr⟩:=hfr;have hwf':∀ c∈(ids.map fun p=>V.lp p.1 p.2),A0 (· < st.nx+2097152) AR c:=hwf
     have hev2:a'.eval (.tmp t)= .func (.func g) #[] cv:=by
       simpa [Act.eval] using hx
     have hrun:(o2.semAt Fence.wide.round a'.eval).run P W'= .ok (.defer {target:= .fn (.func g) cv,args:= #[]}) W':=by
       have:Fence.wide.round=none:=rfl;rw [this,Oper.semAt_none];simp [execOp,<-q2,resolve,hcal,hcl,hev2,Deferred.ofValue]
     rw [hrun];simp only [Oper.uponIn,<-q1];have hI0:=hI';rw [<-p1] at hI0
     have hlp:∀ i,i∈ids.map Prod.fst->(G'.ph i=false/\G'.lo i=false)/\i < st.nx+2097152:=fun i hi=>by
       obtain ⟨p,hp,rfl⟩:=List.mem_map.1 hi;obtain ⟨k,hk⟩:=List.getElem?_of_mem hp;obtain ⟨z,hz,hr⟩:=(AJ.map_left.1 hcr).get hk;exact ⟨hr.1,hwf' _ (List.mem_map.2 ⟨p,hp,rfl⟩)⟩
     let E':Ent:={E with dx:=[{target:= .fn (.func g) cv,args:= #[]}],nm:=false,stab:=fun i=>i∈ids.map Prod.fst,β0:=G'.β,bs0:=G'.bs,lo0:=G'.lo}
     have hdf:a'.defers=[]:=by
       obtain ⟨ds,hd,hmk⟩:=hI'.df;rw [hmk.nm hB.nm,hB.dx] at hd;exact hd
     have hI2:Inv E' (· < st.nx+2097152) G' ⟨Am st.fr (some t) (.cl g (ids.map fun p=> .lp p.1 p.2)),st.H,st.nx+2097152⟩ {a' with defers:=[{target:= .fn (.func g) cv,args:= #[]}]} W':=
       ⟨hI0.fr,hI0.wf,hI0.hp,hI0.wh,hI0.dom,hI0.inj,hI0.own,hI0.im,hI0.im0,⟨hI0.keep.os,hI0.keep.tape,hI0.keep.output,hI0.keep.drawn,hI0.keep.size,hI0.keep.block⟩,fun i hi _=>⟨rfl,rfl,(hlp i hi).1.1,rfl⟩,fun i hi=>(hlp i hi).2,hI0.nt,[],rfl,List.nodup_nil,fun _ h=>(nomatch h),fun _=>rfl⟩
     have hF':E'.F=Fence.wide:=by show ({Fence.wide with round:=E.rd}:Fence)=_;rw [hB.rd];rfl
     have hsnd:=PW.sound (E:=E') hΓ hE hm y pb hy _ _ (h E' rfl (fun _=>Iff.rfl) ⟨hB.rd,rfl⟩) G' _ W' hI2;rw [hF'] at hsnd;rw [hdf]
     show y.wpIn Fence.wide 0 P (bodyPostM Fence.wide 0 P fn (KO G0 W0 r H1)) {a' with defers:=[{target:= .fn (.func g) cv,args:= #[]}]} W'
     have hbase:E'.W0=W0/\E'.Im0=G0.Im/\(∀ b,E'.mu b↔Bm G0 noH b)/\∀ i,i∈([]:List Nat)->E'.stab i/\E'.β0 i=G0.β i/\E'.bs0 i=G0.bs i/\E'.lo0 i=G0.lo i:=⟨hB.w,hB.im,hB.mu,fun _ h=>by cases h⟩
     have hcv:AJ (fun (p:Nat × Nat) x=>E'.stab p.1/\E'.lo0 p.1=false/\x= .pointer (some ⟨E'.β0 p.1,p.2,none⟩)) ids cv.toList:=
       AJ.of_get (by have:=hcr.length;simpa using this) fun i p x hp hx=>by
         obtain ⟨z,hz,hr⟩:=(AJ.map_left.1 hcr).get hp;rw [hx] at hz;cases hz;exact ⟨List.mem_map.2 ⟨p,List.mem_of_getElem? hp,rfl⟩,hr.1.2,hr.2⟩
     refine wpIn_mono hsnd fun e a3 W3 ⟨z,st3,G3,hI3,hz,ho,hq⟩=>?_
     obtain ⟨ds,hd,_⟩:=hI3.df
     have fin:Cn P g ids none (Dc Γ fn [] r H1) st3->LeavesInM Fence.wide 0 P fn a3.tmps (KO G0 W0 r H1) a3.defers .returning W3:=fun hq=>by
       rw [hd];refine DI (u:= .returning) nofun ds a3 W3 rfl hd hI3 (W0:=W3) (fun _ _=>rfl) fun a4 W4 ht hI4 _=>?_
       rw [<-ht];exact JY hΓ hri hbase hcv hI4 (m:=none) nofun nofun rfl hq
     cases z with
     | normal=>cases e<;>first | exact fin hq | exact False.elim hz
     | ret=>cases e<;>first | exact fin hq | exact False.elim hz
     | exit _=>exact hq.elim
     | goto _=>exact hq.elim
     | pan v=>
       cases e with
       | panic ch=>
         obtain ⟨D,rfl,hq⟩:=hq;obtain ⟨x,hx,hrx⟩:=hz
         show LeavesInM Fence.wide 0 P fn a3.tmps (KO G0 W0 r H1) a3.defers (.panicking ch) W3
         rw [hd];refine DI (u:= .panicking ch) nofun ds a3 W3 rfl hd hI3 (W0:=W3) (fun _ _=>rfl) fun a4 W4 ht hI4 hW4=>?_
         rw [<-ht];refine JY hΓ hri hbase hcv hI4 (m:=some (.d D)) (fun v hv=>⟨D,by cases hv;rfl⟩) nofun ⟨x,by rw [hx],?_⟩ hq;exact RD.mono (show RD G3.Im W3 D x from hrx) fun b hb=>⟨hb,hW4 b hb⟩
       | _=>exact False.elim hz
 rw [hF] at hs;exact hs
theorem Ct.byD (_:GOk P Γ) {f:FuncId} {fn:Func} {p:PC} {args:List V} {r:V} {H1:List (Nat × List V)} (hf:P.funcs[f]?= some fn) (hc:fn.body.bind (AK fn.ntmps)=some p) (hname:(fn.name == "runtime.NumGoroutine")=false)
   (hn:args.length<=fn.ntmps) (hcl:∀ v∈args,I8 v) (hri:LD r H1) (h:∀ E:Ent,(∀ i,¬ E.stab i)->E.nt=fn.ntmps->DW P E fn r H1 p ⟨Dn 0 args,fun _=>none,0⟩):Ct P f args r H1:=by
 cases hb:fn.body with
 | none=>rw [hb] at hc;cases hc
 | some c=>
   rw [hb] at hc;refine ⟨⟨fn,hf,by rw [hb];rfl,hname⟩,fun G W xs hGW hargs hpre=>?_⟩;have hcl':∀ v∈args,A2 (· < 0) AR v:=fun v hv=>A2.mono (fun _ h=>h.elim) (fun _ h=>h) (hcl v hv)
   obtain ⟨hfr,hwf⟩:=ML (fn:=fn) hcl' hargs;have hl:args.length=xs.size:=by have:=hargs.length;simpa using this
   have hI:=Inv.startN (N:=0) (nt:=fn.ntmps) (rd:=none) (nm:=true) hGW hpre nofun nofun (tmps:=xs++Array.replicate (fn.ntmps - xs.size) undef) hfr hwf (by simp;omega);rw [<-callsIn_wide (n:=0)];refine callsIn_of_wp_marks hf hb trivial ?_;exact h {W0:=W,Im0:=G.Im,mu:=Bm G noH,β0:=G.β,bs0:=G.bs,lo0:=G.lo,stab:=(·∈([]:List Nat)),nt:=fn.ntmps,rd:=none,nm:=true} (fun i hi=>by cases hi) rfl hri c hc G W ⟨rfl,rfl,fun _=>Iff.rfl,rfl,rfl,rfl⟩ G _ W hI
end Go.Psl
namespace Go.Psl
variable {P:Program} {Γ:Tys} {eqs:Eqs} {K:RK} {Kx:V->RK} {b n:Nat} {r:List PO} {f:Nat->V} {H:Hp} {dst:Option Nat}
def mF (Kx:V->RK) (f:Nat->V) (H:Hp) (n:Nat):V->Prop
 | .d (.ifc t ag cs)=>Kx (.d (.ifc t ag cs)) f H n
 | _=>False
theorem ABb {t:TypeId} {ag:Bool} {cs:List D}:mF Kx f H n (.d (.ifc t ag cs))=Kx (.d (.ifc t ag cs)) f H n:=AF rfl
theorem mG {x:Operand}:rr P Γ eqs Kx K b (⟨dst, .panic x,none⟩::r) f H=mF Kx f H (b+1048576) (evF f x):=by
 simp only [rr,H8,PO.run,gV2,Fa,A9,true_and];unfold mF;split
 . rename_i t ag cs h;rw [h];simp
 . rename_i h
   simp only [eq_iff_iff,iff_false,not_and]
   rintro ⟨t,ag,cs,e⟩
   exact absurd e (h t ag cs)
attribute [simp] mG ABb jH
end Go.Psl
namespace Go.Proofs.Tryz
open Go.Psl
open Go.Air
abbrev plB (p:Plt) (c:V):List V:=[c,vi p.bt,vi p.ih,vi p.ia,vi p.vh,vi p.va,vi p.lh,vi p.la,vi p.ph,vi p.pa]
abbrev Fm (e:Int):V:= .d (.ifc 277 true [di e])
theorem Nr:∀ x:Cel,(AP x).length=7:=fun _=>rfl
theorem BP (e:Int):Ct prog 204 [vb true,vi e] (.tup []) []:=by
 refine CB func204 qd fun E hE=>?_
 simp [p204];apply RZ;simp [results204]
theorem Xt (e:Int):Cm prog 204 [vb false,vi e] (lk []) [] (.pan (Fm e)) (lk []):=by
 refine CM 0 func204 qd fun E hs hE=>?_
 simp [p204,AA];refine ⟨fun _=>none,?_,?_,?_,?_⟩<;>simp
theorem dF (a b c d:Int) (h:(-2000000000000<=a/\a<=2000000000000)/\(-2000000000000<=b/\b<=2000000000000)/\(-2000000000000<=c/\c<=2000000000000)/\ -2000000000000<=d/\d<=2000000000000):Ct prog 115 [vsp a b,vsp c d] (vsp (a+c) (b+d)) []:=by
 have w1:IntKind.wrap .i64 (a+c)=a+c:=AD (by omega) (by omega);have w2:IntKind.wrap .i64 (b+d)=b+d:=AD (by omega) (by omega);refine CB func115 qO fun E hE=>?_
 simp [p115,AA,w1,w2];apply RZ;simp [results115]
def inA (n:Nat) (a:Act):Bool:=rgB 0 ((n:Int) - 1) [a.c]&&rgB 1 10000000 [a.n]
theorem EQ {n:Nat} {a:Act}:inA n a=true↔(0<=a.c/\a.c < n)/\1<=a.n/\a.n<=10000000:=by
 unfold inA rgB;simp;omega
theorem Iz (p:Plt) (cs:List Cel) (a:Act) (hl:cs.length<=1000000) (hin:inA cs.length a=true):Cm prog 259 [.lp 0 0,BZ a] (lk [(0,plB p (.ls 1 0 cs.length 7)),(1,AH AP cs)]) [0,1] (.ret (.lp 1 (a.c.toNat*7))) (lk [(0,plB p (.ls 1 0 cs.length 7)),(1,AH AP cs)]):=by
 have h1:=EQ.1 hin;obtain ⟨i,hi⟩:∃ i:Nat,a.c=i:=⟨a.c.toNat,by omega⟩
 have c1:=Bq 0 ((cs.length:Int) - 1) [a.c] (by simp);have c2:=Bq 1 10000000 [a.n] (by simp);have c3:=BP 2;unfold inA at hin;simp only [Bool.and_eq_true] at hin;rw [hin.1] at c1;rw [hin.2] at c2;rw [hi] at c1 h1 ⊢;have hI:(i:Int) < cs.length:=by omega
 have hil:i < cs.length:=by omega
 have w:IntKind.wrap .i64 ((cs.length:Int) - 1)=(cs.length:Int) - 1:=AD (by omega) (by omega);have hsl:=Aw Nr cs;refine CM 2 func259 gy fun E hs hE=>?_
 simp [p259,AA,AM,inC,Nat.testBit,hi,w]
 repeat ((first | (refine CLt c1 ?_ ?_;focus (simp [AG];done)) | (refine CLt c2 ?_ ?_;focus (simp [AG];done)) | (refine CLt c3 ?_ ?_;focus (simp;done)));simp [AA,AM,inC,Nat.testBit,hI])
 refine AB.by (lk [(0,0),(1,1)]) ?_;simp [results259]
theorem UB (p:Plt) (cs:List Cel) (a:Act) (hl:cs.length<=1000000) (hin:inA cs.length a=false):Cm prog 259 [.lp 0 0,BZ a] (lk [(0,plB p (.ls 1 0 cs.length 7)),(1,AH AP cs)]) [0,1] (.pan (Fm 2)) (lk [(0,plB p (.ls 1 0 cs.length 7)),(1,AH AP cs)]):=by
 have c1:=Bq 0 ((cs.length:Int) - 1) [a.c] (by simp);have c2:=Bq 1 10000000 [a.n] (by simp);have c3:=Xt 2;have w:IntKind.wrap .i64 ((cs.length:Int) - 1)=(cs.length:Int) - 1:=AD (by omega) (by omega);unfold inA at hin
 generalize rgB 0 ((cs.length:Int) - 1) [a.c]=b1 at*
 generalize rgB 1 10000000 [a.n]=b2 at*
 cases b1
 . refine CM 2 func259 gy fun E hs hE=>?_
   simp [p259,AA,AM,inC,Nat.testBit,w]
   repeat ((first | (refine CLt c1 ?_ ?_;focus (simp [AG];done)) | (refine CLt c2 ?_ ?_;focus (simp [AG];done)));simp)
   refine CRs c3 (by simp) ?_;refine ⟨lk [(0,0),(1,1)],?_,?_,?_,?_⟩<;>simp
 . cases b2
   . refine CM 2 func259 gy fun E hs hE=>?_
     simp [p259,AA,AM,inC,Nat.testBit,w]
     repeat ((first | (refine CLt c1 ?_ ?_;focus (simp [AG];done)) | (refine CLt c2 ?_ ?_;focus (simp [AG];done)));simp [AA,AM])
     refine CRs c3 (by simp) ?_;refine ⟨lk [(0,0),(1,1)],?_,?_,?_,?_⟩<;>simp
   . simp at hin
theorem dG (p:Plt) (a:Act):Cm prog 259 [.lp 0 0,BZ a] (lk [(0,plB p (.ls 1 0 0 7))]) [] (.pan (Fm 2)) (lk []):=by
 have c1:=Bq 0 (-1) [a.c] (by simp);have c3:=Xt 2;have e:rgB 0 (-1) [a.c]=false:=by unfold rgB;simp;omega
 have w:IntKind.wrap .i64 (-1)= -1:=by decide
 rw [e] at c1;refine CM 2 func259 gy fun E hs hE=>?_
 simp [p259,AA,AM,inC,Nat.testBit,w]
 repeat ((first | (refine CLt c1 ?_ ?_;focus (simp [AG];done)));simp)
 refine CRs c3 (by simp) ?_;refine ⟨fun _=>none,?_,?_,?_,?_⟩<;>simp
def BQ (c:Cel) (n:Int):Int:=n*c.he / (c.he+c.ai)
def I0 (c:Cel) (n:Int):Cel:={c with he:=c.he - BQ c n,ai:=c.ai - (n - BQ c n)}
theorem KE {c:Cel} {n:Int} (h1:0<=c.he) (h2:0<=c.ai) (h3:0<=n) (h4:n<=c.he+c.ai):0<=BQ c n/\BQ c n<=c.he/\BQ c n<=n/\n - BQ c n<=c.ai:=by
 unfold BQ;by_cases h0:c.he+c.ai=0
 . have:n=0:=by omega
   subst this;simp;omega
 have hp:0 < c.he+c.ai:=by omega
 have e1:0<=n*c.he:=Int.mul_nonneg h3 h1;have e2:n*c.he<=(c.he+c.ai)*c.he:=Int.mul_le_mul_of_nonneg_right h4 h1;have e3:n*c.he<=n*(c.he+c.ai):=Int.mul_le_mul_of_nonneg_left (by omega) h3;refine ⟨Int.ediv_nonneg e1 (by omega),?_,?_,?_⟩
 . have:=Int.ediv_le_ediv hp e2
   rwa [Int.mul_ediv_cancel_left _ h0] at this
 . have:=Int.ediv_le_ediv hp e3
   rwa [Int.mul_ediv_cancel _ h0] at this
 . have e4:(n - c.ai)*(c.he+c.ai)<=n*c.he:=by
     have a1:(n - c.ai)*(c.he+c.ai)=n*c.he+(n*c.ai - c.ai*(c.he+c.ai)):=by
       rw [Int.sub_mul,Int.mul_add];omega
     have a2:n*c.ai<=(c.he+c.ai)*c.ai:=Int.mul_le_mul_of_nonneg_right h4 h2;have a3:(c.he+c.ai)*c.ai=c.ai*(c.he+c.ai):=Int.mul_comm _ _;omega
   have:=(Int.le_ediv_iff_mul_le hp).2 e4;omega
theorem Sg (cs:List Cel) (i:Nat) (c:Cel) (n:Int) (hc:cs[i]?= some c) (hb:(0<=c.he/\c.he<=10000000)/\0<=c.ai/\c.ai<=10000000) (hn:1<=n/\n<=c.he+c.ai):Cm prog 260 [.lp 1 (i*7),vi n] (lk [(1,AH AP cs)]) [1] (.ret (vsp (BQ c n) (n - BQ c n))) (lk [(1,AH AP (cs.set i (I0 c n)))]):=by
 have q1:=hb.1;have q2:=hb.2;have hbd:=KE q1.1 q2.1 (by omega:0<=n) hn.2;have hz:¬ c.he+c.ai=0:=by omega
 have m1:0<=n*c.he:=Int.mul_nonneg (by omega) (by omega);have m2:n*c.he<=20000000*10000000:=Int.mul_le_mul (by omega) (by omega) (by omega) (by omega);have hd:(n*c.he).tdiv (c.he+c.ai)=BQ c n:=Int.tdiv_eq_ediv_of_nonneg m1;have w1:IntKind.wrap .i64 (c.he+c.ai)=c.he+c.ai:=AD (by omega) (by omega);have w2:IntKind.wrap .i64 (n*c.he)=n*c.he:=AD (by omega) (by omega);have w3:IntKind.wrap .i64 (BQ c n)=BQ c n:=AD (by omega) (by omega);have w4:IntKind.wrap .i64 (c.he - BQ c n)=c.he - BQ c n:=AD (by omega) (by omega);have w5:IntKind.wrap .i64 (n - BQ c n)=n - BQ c n:=AD (by omega) (by omega);have w6:IntKind.wrap .i64 (c.ai - (n - BQ c n))=c.ai - (n - BQ c n):=AD (by omega) (by omega);have g:c.he+c.ai>=n:=by omega
 have c3:=BP 6;have hil:=(List.getElem?_eq_some_iff.1 hc).1
 let c1:Cel:={c with he:=c.he - BQ c n}
 have hc1:(cs.set i c1)[i]?= some c1:=by simp [hil]
 have s0:i*7+1+1<=cs.length*7/\i*7+2+1<=cs.length*7:=by omega
 have hsl:=Aw Nr cs;have hsl1:=Aw Nr (cs.set i c1);have r1:(AH AP cs)[i*7+1]?= some (vi c.he):=Jg Nr hc rfl;have r2:(AH AP cs)[i*7+2]?= some (vi c.ai):=Jg Nr hc rfl;have t1:List.take 1 (List.drop (i*7+1) (AH AP cs))=[vi c.he]:=Bg Nr (j:=1) (k:=1) hc (by omega);have t2:List.take 1 (List.drop (i*7+2) (AH AP cs))=[vi c.ai]:=Bg Nr (j:=2) (k:=1) hc (by omega);have e1:AA (AH AP cs) (i*7+1) [vi (c.he - BQ c n)]=AH AP (cs.set i c1):=Cq Nr (vs:=[di (c.he - BQ c n)]) hc (by simp) rfl;have t3:List.take 1 (List.drop (i*7+2) (AH AP (cs.set i c1)))=[vi c.ai]:=Bg Nr (x:=c1) (j:=2) (k:=1) hc1 (by omega)
 have e2:AA (AH AP (cs.set i c1)) (i*7+2) [vi (c.ai - (n - BQ c n))]=AH AP (cs.set i (I0 c n)):=by
   have:=Cq Nr (y:=I0 c n) (j:=2) (vs:=[di (c.ai - (n - BQ c n))]) hc1 (by simp) rfl;rw [List.set_set] at this;exact this
 refine CM 2 func260 qe fun E hs hE=>?_
 simp [p260,inC,Nat.testBit,t1,t2,s0,hsl,w1,g];refine CLa c3 ?_;simp [inC,Nat.testBit,t1,t2,t3,e1,e2,s0,hsl,hsl1,w1,w2,w3,w4,w5,w6,hd,hz];refine AB.by (lk [(1,1)]) ?_;simp [results260,AA,Hp.app]
theorem dH (cs:List Cel) (i:Nat) (c:Cel) (n:Int) (hc:cs[i]?= some c) (hb:(0<=c.he/\c.he<=10000000)/\0<=c.ai/\c.ai<=10000000) (hn:c.he+c.ai < n):Cm prog 260 [.lp 1 (i*7),vi n] (lk [(1,AH AP cs)]) [1] (.pan (Fm 6)) (lk [(1,AH AP cs)]):=by
 have q1:=hb.1;have q2:=hb.2;have w1:IntKind.wrap .i64 (c.he+c.ai)=c.he+c.ai:=AD (by omega) (by omega);have g:¬ c.he+c.ai>=n:=by omega
 have g2:¬ n<=c.he+c.ai:=by omega
 have c3:=Xt 6;have hil:=(List.getElem?_eq_some_iff.1 hc).1;have s0:i*7+1+1<=cs.length*7/\i*7+2+1<=cs.length*7:=by omega
 have hsl:=Aw Nr cs;have t1:List.take 1 (List.drop (i*7+1) (AH AP cs))=[vi c.he]:=Bg Nr (j:=1) (k:=1) hc (by omega);have t2:List.take 1 (List.drop (i*7+2) (AH AP cs))=[vi c.ai]:=Bg Nr (j:=2) (k:=1) hc (by omega);refine CM 2 func260 qe fun E hs hE=>?_
 simp [p260,inC,Nat.testBit,t1,t2,s0,hsl,w1,g2];refine CRs c3 (by simp) ?_;refine ⟨lk [(1,1)],?_,?_,?_,?_⟩<;>simp
abbrev gd (x:Int):Prop:=0<=x/\x<=1000000000000
theorem BG {cs:List Cel} (h:cs≠[]):AH AP cs≠[]:=fun e=>by
 have:=congrArg List.length e;rw [Aw Nr] at this;cases cs with
 | nil=>exact h rfl
 | cons a r=>simp at this
theorem BB {l:List Cel} {p:Nat->Prop}:(∀ c,c∈AH AP l->AC p B9 c)=True:=eq_true (Ou fun x y hy=>by
 simp only [List.mem_cons,List.not_mem_nil,or_false] at hy;rcases hy with rfl | rfl | rfl | rfl | rfl | rfl | rfl<;>exact ⟨_,rfl⟩)
theorem aV (p:Plt) (cs:List Cel) (a:Act) (c:Cel) (hl:cs.length<=1000000) (hin:inA cs.length a=true) (hc:cs[a.c.toNat]?= some c) (hb:B5 c) (hn:a.n<=c.he+c.ai) (hv:gd p.vh) (hw:gd p.va):
   Cm prog 199 [.lp 0 0,BZ a] (lk [(0,plB p (.ls 1 0 cs.length 7)),(1,AH AP cs)]) [0,1] (.ret (.tup [])) (lk [(0,plB {p with vh:=p.vh+BQ c a.n,va:=p.va+(a.n - BQ c a.n)} (.ls 1 0 cs.length 7)),(1,AH AP (cs.set a.c.toNat (I0 c a.n)))]):=by
 have h1:=EQ.1 hin;have q1:=hb.he;have q2:=hb.ai;have hbd:=KE q1.1 q2.1 (by omega:0<=a.n) hn;have d1:=Iz p cs a hl hin;have d2:=Sg cs a.c.toNat c a.n hc ⟨hb.he,hb.ai⟩ ⟨h1.2.1,hn⟩;have d3:=dF p.vh p.va (BQ c a.n) (a.n - BQ c a.n) ⟨by omega,by omega,by omega,by omega⟩;have hne:cs≠[]:=fun e=>by rw [e] at hc;simp at hc
 have n1:=BG hne;refine CM 2 func199 gx fun E hs hE=>?_
 simp [p199];refine AL [(11,1)] (by kernel_rfl) ?_;simp [inC,Nat.testBit];refine CDs d1 (by simp [wrL,inC,Nat.testBit,n1,BB]) ?_;simp [inC,Nat.testBit];refine CDs d2 (by simp [wrL,inC,Nat.testBit,n1,BB]) ?_;simp;refine CLa d3 ?_;simp [AA];refine AB.by (lk [(0,0),(1,1)]) ?_;simp [results199]
theorem Vw (p:Plt) (cs:List Cel) (a:Act) (hl:cs.length<=1000000) (hne:cs≠[]) (hin:inA cs.length a=false):Cm prog 199 [.lp 0 0,BZ a] (lk [(0,plB p (.ls 1 0 cs.length 7)),(1,AH AP cs)]) [] (.pan (Fm 2)) (lk []):=by
 have d1:=UB p cs a hl hin;have n1:=BG hne;refine CM 2 func199 gx fun E hs hE=>?_
 simp [p199];refine AL [(11,1)] (by kernel_rfl) ?_;simp [inC,Nat.testBit];refine CDs d1 (by simp [inC,Nat.testBit,n1,BB]) ?_;simp;intro st;refine ⟨fun _=>none,?_,?_,?_,?_⟩<;>simp
theorem Vx (p:Plt) (cs:List Cel) (a:Act) (c:Cel) (hl:cs.length<=1000000) (hin:inA cs.length a=true) (hc:cs[a.c.toNat]?= some c) (hb:B5 c) (hn:c.he+c.ai < a.n):Cm prog 199 [.lp 0 0,BZ a] (lk [(0,plB p (.ls 1 0 cs.length 7)),(1,AH AP cs)]) [] (.pan (Fm 6)) (lk []):=by
 have d1:=Iz p cs a hl hin;have d2:=dH cs a.c.toNat c a.n hc ⟨hb.he,hb.ai⟩ hn;have hne:cs≠[]:=fun e=>by rw [e] at hc;simp at hc
 have n1:=BG hne;refine CM 2 func199 gx fun E hs hE=>?_
 simp [p199];refine AL [(11,1)] (by kernel_rfl) ?_;simp [inC,Nat.testBit];refine CDs d1 (by simp [wrL,inC,Nat.testBit,n1,BB]) ?_;simp [inC,Nat.testBit];refine CDs d2 (by simp [inC,Nat.testBit,n1,BB]) ?_;simp;intro st;refine ⟨fun _=>none,?_,?_,?_,?_⟩<;>simp
theorem lf (a b p q:V):AA [a,b] 0 [p,q]=[p,q]:=rfl
def inT (n:Nat) (a:Act):Bool:=rgB 0 ((n:Int) - 1) [a.t]&&!decide (a.t=a.c)
def gg (c:Cel) (h i:Int):Cel:={c with he:=c.he+h,ai:=c.ai+i}
theorem gi (p:Plt) (cs:List Cel) (a:Act) (c e:Cel) (hl:cs.length<=1000000) (hin:inA cs.length a=true) (hto:inT cs.length a=true) (hc:cs[a.c.toNat]?= some c) (he:cs[a.t.toNat]?= some e) (hb:B5 c) (hbe:B5 e) (hn:a.n<=c.he+c.ai):
   Cm prog 200 [.lp 0 0,BZ a] (lk [(0,plB p (.ls 1 0 cs.length 7)),(1,AH AP cs)]) [0,1] (.ret (.tup [])) (lk [(0,plB p (.ls 1 0 cs.length 7)),(1,AH AP ((cs.set a.c.toNat (I0 c a.n)).set a.t.toNat (gg e (BQ c a.n) (a.n - BQ c a.n))))]):=by
 have h1:=EQ.1 hin;have q1:=hb.he;have q2:=hb.ai;have q3:=hbe.he;have q4:=hbe.ai;have hbd:=KE q1.1 q2.1 (by omega:0<=a.n) hn;have d1:=Iz p cs a hl hin;have d2:=Bq 0 ((cs.length:Int) - 1) [a.t] (by simp);have d3:=BP 2;have d4:=Sg cs a.c.toNat c a.n hc ⟨hb.he,hb.ai⟩ ⟨h1.2.1,hn⟩;unfold inT at hto;simp only [Bool.and_eq_true,Bool.not_eq_true',decide_eq_false_iff_not] at hto;rw [hto.1] at d2;have hT:0<=a.t/\a.t < cs.length:=by have:=hto.1;unfold rgB at this;simp at this;omega
 have hne:cs≠[]:=fun e=>by rw [e] at hc;simp at hc
 have n1:=BG hne;have w:IntKind.wrap .i64 ((cs.length:Int) - 1)=(cs.length:Int) - 1:=AD (by omega) (by omega);have hij:a.c.toNat≠a.t.toNat:=fun e=>hto.2 (by omega)
 obtain ⟨j,hj⟩:∃ j:Nat,a.t=j:=⟨a.t.toNat,by omega⟩
 have hjt:a.t.toNat=j:=by omega
 rw [hjt] at he hij ⊢;have hT2:(j:Int) < cs.length:=by omega
 have hjl:j < cs.length:=by omega
 have hil:=(List.getElem?_eq_some_iff.1 hc).1;obtain ⟨L,hL⟩:∃ L,cs.set a.c.toNat (I0 c a.n)=L:=⟨_,rfl⟩
 have hLl:L.length=cs.length:=by rw [<-hL];simp
 have heL:L[j]?= some e:=by rw [<-hL,List.getElem?_set_ne hij];exact he
 rw [hL] at d4 ⊢;obtain ⟨h,hh⟩:∃ h,BQ c a.n=h:=⟨_,rfl⟩
 rw [hh] at d4 hbd ⊢
 let e1:Cel:={e with he:=e.he+h}
 have he1:(L.set j e1)[j]?= some e1:=by simp [hLl,hjl]
 have hsl:=Aw Nr L;have hsl1:=Aw Nr (L.set j e1);have s0:j*7+1+1<=cs.length*7/\j*7+2+1<=cs.length*7:=by omega
 have t1:List.take 1 (List.drop (j*7+1) (AH AP L))=[vi e.he]:=Bg Nr (x:=e) (j:=1) (k:=1) heL (by omega);have t2:List.take 1 (List.drop (j*7+2) (AH AP (L.set j e1)))=[vi e.ai]:=Bg Nr (x:=e1) (j:=2) (k:=1) he1 (by omega);have x1:AA (AH AP L) (j*7+1) [vi (e.he+h)]=AH AP (L.set j e1):=Cq Nr (vs:=[di (e.he+h)]) heL (by simp) rfl
 have x2:AA (AH AP (L.set j e1)) (j*7+2) [vi (e.ai+(a.n - h))]=AH AP (L.set j (gg e h (a.n - h))):=by
   have:=Cq Nr (y:=gg e h (a.n - h)) (j:=2) (vs:=[di (e.ai+(a.n - h))]) he1 (by simp) rfl;rw [List.set_set] at this;exact this
 have w5:IntKind.wrap .i64 (e.he+h)=e.he+h:=AD (by omega) (by omega);have w6:IntKind.wrap .i64 (e.ai+(a.n - h))=e.ai+(a.n - h):=AD (by omega) (by omega);have hne2:¬ (j:Int)=a.c:=by rw [<-hj];exact hto.2
 rw [hj] at d2;refine CM 2 func200 WA fun E hs hE=>?_
 simp [p200];refine CRs d1 (by simp [n1,BB]) ?_;simp [AA,AM,inC,Nat.testBit,hj,w];refine CLb (d2) (by simp [AG,inC,Nat.testBit]) ?_;simp [inC,Nat.testBit,hne2];refine CLa d3 ?_;simp;refine AL [(3,1),(13,37748738)] (by kernel_rfl) ?_;simp [inC,Nat.testBit];refine CDs d4 (by simp [wrL,inC,Nat.testBit,n1,BB]) ?_;simp [inC,Nat.testBit,hT2,hjl,hLl,hsl,hsl1,s0,t1,t2,x1,x2,w5,w6,lf];refine AB.by (lk [(0,0),(1,1)]) ?_;simp [results200]
theorem an (p:Plt) (cs:List Cel) (a:Act) (hl:cs.length<=1000000) (hne:cs≠[]) (hin:inA cs.length a=false):Cm prog 200 [.lp 0 0,BZ a] (lk [(0,plB p (.ls 1 0 cs.length 7)),(1,AH AP cs)]) [] (.pan (Fm 2)) (lk []):=by
 have d1:=UB p cs a hl hin;have n1:=BG hne;refine CM 2 func200 WA fun E hs hE=>?_
 simp [p200];refine CRs d1 (by simp [n1,BB]) ?_;refine ⟨fun _=>none,?_,?_,?_,?_⟩<;>simp
theorem ap (p:Plt) (cs:List Cel) (a:Act) (hl:cs.length<=1000000) (hin:inA cs.length a=true) (hto:inT cs.length a=false):Cm prog 200 [.lp 0 0,BZ a] (lk [(0,plB p (.ls 1 0 cs.length 7)),(1,AH AP cs)]) [] (.pan (Fm 2)) (lk []):=by
 have h1:=EQ.1 hin;have d1:=Iz p cs a hl hin;have d2:=Bq 0 ((cs.length:Int) - 1) [a.t] (by simp);have d3:=Xt 2;have hne:cs≠[]:=fun e=>by rw [e] at h1;simp at h1;omega
 have n1:=BG hne;have w:IntKind.wrap .i64 ((cs.length:Int) - 1)=(cs.length:Int) - 1:=AD (by omega) (by omega);unfold inT at hto;cases hr:rgB 0 ((cs.length:Int) - 1) [a.t]
 . rw [hr] at d2
   refine CM 2 func200 WA fun E hs hE=>?_
   simp [p200];refine CRs d1 (by simp [n1,BB]) ?_;simp [AA,AM,inC,Nat.testBit,w];refine CLb (d2) (by simp [AG,inC,Nat.testBit]) ?_;simp;refine CRs d3 (by simp) ?_;refine ⟨fun _=>none,?_,?_,?_,?_⟩<;>simp
 . rw [hr] at d2 hto
   have e:a.t=a.c:=by simpa using hto
   refine CM 2 func200 WA fun E hs hE=>?_
   simp [p200];refine CRs d1 (by simp [n1,BB]) ?_;simp [AA,AM,inC,Nat.testBit,w];refine CLb (d2) (by simp [AG,inC,Nat.testBit]) ?_;simp [inC,Nat.testBit,e];refine CRs d3 (by simp) ?_;refine ⟨fun _=>none,?_,?_,?_,?_⟩<;>simp
theorem aq (p:Plt) (cs:List Cel) (a:Act) (c:Cel) (hl:cs.length<=1000000) (hin:inA cs.length a=true) (hto:inT cs.length a=true) (hc:cs[a.c.toNat]?= some c) (hb:B5 c) (hn:c.he+c.ai < a.n):Cm prog 200 [.lp 0 0,BZ a] (lk [(0,plB p (.ls 1 0 cs.length 7)),(1,AH AP cs)]) [] (.pan (Fm 6)) (lk []):=by
 have h1:=EQ.1 hin;have d1:=Iz p cs a hl hin;have d2:=Bq 0 ((cs.length:Int) - 1) [a.t] (by simp);have d3:=BP 2;have d4:=dH cs a.c.toNat c a.n hc ⟨hb.he,hb.ai⟩ hn;unfold inT at hto;simp only [Bool.and_eq_true,Bool.not_eq_true',decide_eq_false_iff_not] at hto;rw [hto.1] at d2;have hT:0<=a.t/\a.t < cs.length:=by have:=hto.1;unfold rgB at this;simp at this;omega
 have hne:cs≠[]:=fun e=>by rw [e] at hc;simp at hc
 have n1:=BG hne;have w:IntKind.wrap .i64 ((cs.length:Int) - 1)=(cs.length:Int) - 1:=AD (by omega) (by omega);obtain ⟨j,hj⟩:∃ j:Nat,a.t=j:=⟨a.t.toNat,by omega⟩
 have hT2:(j:Int) < cs.length:=by omega
 have hjl:j < cs.length:=by omega
 have hne2:¬ (j:Int)=a.c:=by rw [<-hj];exact hto.2
 rw [hj] at d2;refine CM 2 func200 WA fun E hs hE=>?_
 simp [p200];refine CRs d1 (by simp [n1,BB]) ?_;simp [AA,AM,inC,Nat.testBit,hj,w];refine CLb (d2) (by simp [AG,inC,Nat.testBit]) ?_;simp [inC,Nat.testBit,hne2];refine CLa d3 ?_;simp;refine AL [(3,1),(13,37748738)] (by kernel_rfl) ?_;simp [inC,Nat.testBit];refine CDs d4 (by simp [inC,Nat.testBit,n1,BB]) ?_;simp [hjl];intro st;refine ⟨fun _=>none,?_,?_,?_,?_⟩<;>simp
theorem gj (p:Plt) (a:Act):Cm prog 199 [.lp 0 0,BZ a] (lk [(0,plB p (.ls 1 0 0 7))]) [] (.pan (Fm 2)) (lk []):=by
 have d1:=dG p a;refine CM 2 func199 gx fun E hs hE=>?_
 simp [p199];refine AL [] (by kernel_rfl) ?_;simp [inC,Nat.testBit];refine CDs d1 (by simp [inC,Nat.testBit]) ?_;simp;intro st;refine ⟨fun _=>none,?_,?_,?_,?_⟩<;>simp
theorem ABp (p:Plt) (a:Act):Cm prog 200 [.lp 0 0,BZ a] (lk [(0,plB p (.ls 1 0 0 7))]) [] (.pan (Fm 2)) (lk []):=by
 have d1:=dG p a;refine CM 2 func200 WA fun E hs hE=>?_
 simp [p200];refine CRs d1 (by simp) ?_;refine ⟨fun _=>none,?_,?_,?_,?_⟩<;>simp
def tkS (c:Cel):Int:=c.ow+(c.he+c.ai)*c.lk
def tkN (c:Cel):Int:=tkS c / 1000000
def tkC (c:Cel):Cel:={I0 c (tkN c) with ow:=tkS c % 1000000}
def tkL (cs:List Cel) (i:Nat):List Cel:=(cs.take i).map tkC++cs.drop i
def tkH (cs:List Cel) (i:Nat):Int:=((cs.take i).map fun c=>BQ c (tkN c)).sum
def tkA (cs:List Cel) (i:Nat):Int:=((cs.take i).map fun c=>tkN c - BQ c (tkN c)).sum
theorem cW (cs:List Cel):tkL cs 0=cs:=by simp [tkL]
theorem iO (cs:List Cel):tkL cs cs.length=cs.map tkC:=by simp [tkL]
theorem iP (cs:List Cel) (i:Nat):(tkL cs i).length=cs.length:=by simp [tkL];omega
theorem mQ {cs:List Cel} {i:Nat} {c:Cel} (h:cs[i]?= some c):(tkL cs i)[i]?= some c:=by
 have hi:=(List.getElem?_eq_some_iff.1 h).1;unfold tkL;rw [List.getElem?_append_right (by simp;omega)];simp [Nat.min_eq_left (Nat.le_of_lt hi),h]
theorem cX {cs:List Cel} {i:Nat} {c:Cel} (h:cs[i]?= some c):tkL cs (i+1)=(tkL cs i).set i (tkC c):=by
 have hi:=(List.getElem?_eq_some_iff.1 h).1;have hc:cs[i]=c:=(List.getElem?_eq_some_iff.1 h).2;unfold tkL;rw [List.take_add_one,h,List.set_append_right _ _ (by simp;omega)];simp [Nat.min_eq_left (Nat.le_of_lt hi)];rw [List.drop_eq_getElem_cons hi];rfl
theorem Pz {cs:List Cel} {i:Nat} {c:Cel} (h:cs[i]?= some c):tkH cs (i+1)=tkH cs i+BQ c (tkN c):=by
 unfold tkH;rw [List.take_add_one,h];simp
theorem P2 {cs:List Cel} {i:Nat} {c:Cel} (h:cs[i]?= some c):tkA cs (i+1)=tkA cs i+(tkN c - BQ c (tkN c)):=by
 unfold tkA;rw [List.take_add_one,h];simp
theorem cY {c:Cel} (hb:B5 c):(0<=(c.he+c.ai)*c.lk/\(c.he+c.ai)*c.lk<=2000000000000)/\(0<=tkS c/\tkS c<=2000001000000)/\0<=tkN c/\tkN c<=c.he+c.ai:=by
 have q1:=hb.he;have q2:=hb.ai;have q3:=hb.lk;have q4:=hb.ow;have m1:0<=(c.he+c.ai)*c.lk:=Int.mul_nonneg (by omega) (by omega);have m2:(c.he+c.ai)*c.lk<=(c.he+c.ai)*100000:=Int.mul_le_mul_of_nonneg_left (by omega) (by omega);unfold tkN tkS;omega
theorem SY {c:Cel} (hb:B5 c):(0<=BQ c (tkN c)/\BQ c (tkN c)<=c.he)/\BQ c (tkN c)<=tkN c/\tkN c - BQ c (tkN c)<=c.ai:=by
 have h:=cY hb;have:=KE hb.he.1 hb.ai.1 h.2.2.1 h.2.2.2;omega
theorem SZ:∀ {cs:List Cel},(∀ c∈cs,B5 c)->∀ i:Nat,i<=cs.length->(0<=tkH cs i/\tkH cs i<=i*10000000)/\0<=tkA cs i/\tkA cs i<=i*10000000
 | cs,h,0,_=>by simp [tkH,tkA]
 | cs,h,i+1,hi=>by
   obtain ⟨c,hc⟩:∃ c,cs[i]?= some c:=⟨_,List.getElem?_eq_getElem (by omega)⟩
   have hb:=h c (List.mem_of_getElem? hc);have ih:=SZ h i (by omega);have:=SY hb;have q1:=hb.he;have q2:=hb.ai;rw [Pz hc,P2 hc];omega
def tkP (p:Plt) (cs:List Cel) (i:Nat):Plt:={p with lh:=p.lh+tkH cs i,la:=p.la+tkA cs i}
theorem iQ (p:Plt) (cs:List Cel) (a:Act) (hl:cs.length<=12) (hne:cs≠[]) (ha:a.n=1) (hb:∀ c∈cs,B5 c) (hv:gd p.lh) (hw:gd p.la):
   Cm prog 203 [.lp 0 0,BZ a] (lk [(0,plB p (.ls 1 0 cs.length 7)),(1,AH AP cs)]) [0,1] (.ret (.tup [])) (lk [(0,plB (tkP p cs cs.length) (.ls 1 0 cs.length 7)),(1,AH AP (cs.map tkC))]):=by
 have d1:=Bq 1 1000 [1] (by simp);have d2:=BP 2;rw [show rgB 1 1000 [1]=true from by decide] at d1;have n1:=BG hne;have z1:IntKind.wrap .i64 1=1:=by decide
 refine CM 2 func203 qc fun E hs hE=>?_
 simp [p203,AA,AM,ha]
 repeat ((first | (refine CLt d1 ?_ ?_;focus (simp [AG];done)) | (refine CLt d2 ?_ ?_;focus (simp;done)));simp)
 refine Al (α:=Nat) (fun k=>⟨AO [(0, .lp 0 0),(13,vi 1),(14,vi k)],lk [(0,plB (tkP p cs (if k=0 then 0 else cs.length)) (.ls 1 0 cs.length 7)),(1,AH AP (tkL cs (if k=0 then 0 else cs.length)))],2⟩) (fun k=>k<=1) (fun k=>1 - k) 0 ?_ ?_ ?_
 . omega
 . simp only [if_true,cW]
   refine AI.mkM hs (lk [(0,0),(1,1)]) _ _ _ ?_ ?_ ?_ ?_ ?_ ?_<;>simp [tkP,tkH,tkA]
 . intro k hk
   match k,hk with
   | 1,_=>
     simp [LG,iO];refine AB.by (lk [(0,0),(1,1)]) ?_;simp [results203]
   | n+2,h=>omega
   | 0,_=>
     simp [LG];refine Al (α:=Nat) (fun i=>⟨AO [(0, .lp 0 0),(13,vi 1),(14,vi 0),(21,vi cs.length),(22,vi i)],lk [(0,plB (tkP p cs i) (.ls 1 0 cs.length 7)),(1,AH AP (tkL cs i))],2⟩) (fun i=>i<=cs.length) (fun i=>cs.length - i) 0 ?_ ?_ ?_
     . omega
     . exact WKM hs (lk [(0,0),(1,1)])
     . intro i hi
       by_cases h:i < cs.length
       . obtain ⟨c,hc⟩:=gE h
         have hcb:=hb c (List.mem_of_getElem? hc);have hI:(i:Int) < cs.length:=by omega
         have hz:=@wz i (by omega);have b1:=cY hcb;have b2:=SY hcb;have b3:=SZ hb i hi;have q1:=hcb.he;have q2:=hcb.ai;have q3:=hcb.lk;have q4:=hcb.ow;have hLc:=mQ hc;have hLn:=cX hc;have hLl:=iP cs i;have hHn:=Pz hc;have hAn:=P2 hc
         generalize tkL cs i=L at*
         have w1:IntKind.wrap .i64 (c.he+c.ai)=c.he+c.ai:=AD (by omega) (by omega);have w2:IntKind.wrap .i64 ((c.he+c.ai)*c.lk)=(c.he+c.ai)*c.lk:=AD (by omega) (by omega);have w3:IntKind.wrap .i64 (c.ow+(c.he+c.ai)*c.lk)=tkS c:=AD (by unfold tkS at b1;omega) (by unfold tkS at b1;omega);have hd:(tkS c).tdiv 1000000=tkN c:=Int.tdiv_eq_ediv_of_nonneg (by omega);have w4:IntKind.wrap .i64 (tkN c)=tkN c:=AD (by omega) (by omega)
         let c1:Cel:={c with ow:=tkS c}
         have hc1:(L.set i c1)[i]?= some c1:=by simp [hLl,h]
         have hsl:=Aw Nr L;have hsl1:=Aw Nr (L.set i c1);have s0:(i*7+1+1<=cs.length*7/\i*7+2+1<=cs.length*7)/\i*7+5+1<=cs.length*7/\i*7+6+1<=cs.length*7:=by omega
         have t1:List.take 1 (List.drop (i*7+1) (AH AP L))=[vi c.he]:=Bg Nr (x:=c) (j:=1) (k:=1) hLc (by omega);have t2:List.take 1 (List.drop (i*7+2) (AH AP L))=[vi c.ai]:=Bg Nr (x:=c) (j:=2) (k:=1) hLc (by omega);have t5:List.take 1 (List.drop (i*7+5) (AH AP L))=[vi c.lk]:=Bg Nr (x:=c) (j:=5) (k:=1) hLc (by omega);have t6:List.take 1 (List.drop (i*7+6) (AH AP L))=[vi c.ow]:=Bg Nr (x:=c) (j:=6) (k:=1) hLc (by omega);have x1:AA (AH AP L) (i*7+6) [vi (tkS c)]=AH AP (L.set i c1):=Cq Nr (vs:=[di (tkS c)]) hLc (by simp) rfl;have t7:List.take 1 (List.drop (i*7+6) (AH AP (L.set i c1)))=[vi (tkS c)]:=Bg Nr (x:=c1) (j:=6) (k:=1) hc1 (by omega);simp [tE,hI,inC,Nat.testBit,hLl,hsl,hsl1,s0,t1,t2,t5,t6,t7,x1,w1,w2,w3,w4,hd];by_cases hp:0 < tkN c
         . have d3:=Sg (L.set i c1) i c1 (tkN c) hc1 ⟨hcb.he,hcb.ai⟩ ⟨by omega,b1.2.2.2⟩
           have d4:=dF (p.lh+tkH cs i) (p.la+tkA cs i) (BQ c (tkN c)) (tkN c - BQ c (tkN c)) ⟨by omega,by omega,by omega,by omega⟩;rw [List.set_set] at d3;obtain ⟨L2,hL2⟩:∃ L2,L.set i (I0 c1 (tkN c))=L2:=⟨_,rfl⟩
           rw [hL2,show BQ c1 (tkN c)=BQ c (tkN c) from rfl] at d3;have hL2l:L2.length=cs.length:=by rw [<-hL2];simp [hLl]
           have hL2c:L2[i]?= some (I0 c1 (tkN c)):=by rw [<-hL2];simp [hLl,h]
           have hsl2:=Aw Nr L2;have t8:List.take 1 (List.drop (i*7+6) (AH AP L2))=[vi (tkS c)]:=Bg Nr (x:=I0 c1 (tkN c)) (j:=6) (k:=1) hL2c (by omega)
           have x2:AA (AH AP L2) (i*7+6) [vi (tkS c % 1000000)]=AH AP (L.set i (tkC c)):=by
             have:=Cq Nr (y:=tkC c) (j:=6) (vs:=[di (tkS c % 1000000)]) hL2c (by simp) rfl;rw [<-hL2,List.set_set,hL2] at this;exact this
           have hm:(tkS c).tmod 1000000=tkS c % 1000000:=Int.tmod_eq_emod_of_nonneg (by omega);have w5:IntKind.wrap .i64 (tkS c % 1000000)=tkS c % 1000000:=AD (by omega) (by omega);have n2:AH AP (L.set i c1)≠[]:=BG (fun e=>by have:=congrArg List.length e;rw [List.length_set,hLl,List.length_nil] at this;omega);simp [hp];refine AL [(8,1)] (by kernel_rfl) ?_;simp [inC,Nat.testBit,tkP];refine CDs d3 (by simp [wrL,inC,Nat.testBit,n2,BB]) ?_;simp;refine CLa d4 ?_;simp [hL2l,hsl2,s0,t8,x2,hm,hz];refine ⟨i+1,by omega,by omega,?_⟩;rw [hLn,hHn,hAn];refine AI.mkM hs (lk [(0,0),(1,1)]) _ _ _ ?_ ?_ ?_ ?_ ?_ ?_<;>simp [AA,Int.add_assoc]
         . have hN:tkN c=0:=by omega
           have hS:tkS c % 1000000=tkS c:=by unfold tkN at hN;omega
           have hO:BQ c 0=0:=by unfold BQ;simp
           have e:tkC c=c1:=by
             unfold tkC I0;rw [hN,hS,hO];simp [c1]
           simp [hp,hz,tkP];refine ⟨i+1,by omega,by omega,?_⟩;rw [hLn,hHn,hAn,e,hN,hO];exact WKM hs (lk [(0,0),(1,1)])
       . have ei:i=cs.length:=by omega
         have hI:¬ (i:Int) < cs.length:=by omega
         subst ei;simp [tE,z1];refine ⟨1,by omega,by omega,?_⟩;exact WKM hs (lk [(0,0),(1,1)])
theorem Ce (l:List Cel) (hl:l.length<=1000000):Ct prog 127 [.d (AX l)] (.ls 0 0 l.length 7) [(0,AH AP l)]:=by
 cases l with
 | nil=>
   refine CB func127 qQ fun E hE=>?_
   simp [p127];refine ⟨?_,?_⟩
   . apply RZ
     simp [results127,AH]
   . simp [AM,Am,Hp.app]
     refine AB.by (lk [(0,5242880)]) ?_;simp [results127,AH]
 | cons a r=>
   refine CB func127 qQ fun E hE=>?_
   have hmx:(r.length+1)*56<=140737488355328/\r.length+1<=9223372036854775807:=by simp at hl;omega
   have e:AX (a::r)= .sl 7 (AP a::r.map AP):=rfl;have ef:(r.map (List.map V.d ∘ AP)).flatten=AH AP r:=by simp [AH,List.map_flatten]
   have hcl:(∀ x∈AH AP r,x.isCell=true)=True:=eq_true BU;simp [p127,e,ef,hcl,AM,hmx];refine AB.by (lk [(0,5242880)]) ?_;simp [results127,CQ,hcl]
end Go.Proofs.Tryz
namespace Go.Psl
noncomputable def Y3:Option Code->Code | some (.seq _ r)=>r | _=> .skip
noncomputable def pE:Option Code->Nat | some (.seq (.region i _ _) _)=>i | _=>0
noncomputable def ij (k:Nat):Option Code->Oper | some (.seq (.region _ o _) _)=>(o[k]?).getD ⟨none, .move (.tmp 0),0, "",#[],none⟩ | _=>⟨none, .move (.tmp 0),0, "",#[],none⟩
theorem VW {P:Program} {Γ:Tys} {eqs:Eqs} {ws:List (Nat × Nat)} {cl:List Nat} {n0 k b:Nat} {Z:V->Prop} {K:(Nat->V)->Hp->Nat->Prop} {r:List PO} {f:Nat->V} {H:Hp} {dst:Option Nat} {s t:TypeId} {x:Operand}:dd P Γ eqs ws cl n0 Z K k b (⟨dst, .typeAssert x s t false,none⟩::r) f H=goD ws k dst b (dd P Γ eqs ws cl n0 Z K (k+1) (b+1048576) r) f H (Wf Γ t (evF f x)):=CE rfl
end Go.Psl
namespace Go.Proofs.Tryz
open Go.Psl
open Go.Air
noncomputable def ik:Oper:=(⟨_,by conv=>lhs;reduce⟩:Rd (ij 0 f196.body)).1
noncomputable def il:Oper:=(⟨_,by conv=>lhs;reduce⟩:Rd (ij 1 f196.body)).1
noncomputable def p196r:PC:=(⟨_,by conv=>lhs;reduce⟩:Rd (match AK f196.ntmps (Y3 f196.body) with | some p=>p | none=> .skip)).1
theorem pF:f196.body=some (.seq (.region (pE f196.body) #[ik,il] false) (Y3 f196.body)):=by kernel_rfl
theorem io:AK f196.ntmps (Y3 f196.body)=some p196r:=by kernel_rfl
theorem ip:∀ ρ W,(execOp ρ ik).run prog W= .ok .recover W:=fun _ _=>by kernel_rfl
theorem iq:∀ ρ W,(execOp ρ il).run prog W= .ok (.value (ρ (.tmp 3))) W:=fun _ _=>by kernel_rfl
theorem IT:CmD prog 196 [.lp 2097152 0, .lp 3145728 0] (lk []) [] none (lk []):=by
 refine CmD.by gok eok mixed 4194304 func196 pF rfl rfl rfl rfl rfl ip iq (by simp [ntmps196]) (by simp [ntmps196]) io (by simp [ntmps196]) (by simp) (by simp [NV]) (A7.at (by simp)) (by simp) (by simp [LD]) fun E hs=>?_
 simp [p196r,NV];apply RZ;simp [results196]
abbrev plZ:List V:=[.d (.lit (.slice none 0 0)),vi 0,vi 0,vi 0,vi 0,vi 0,vi 0,vi 0,vi 0,vi 0]
theorem Ds (e:Int):CmD prog 196 [.lp 2097152 0, .lp 3145728 0] (lk [(2097152,plZ),(3145728,[vi 0])]) [2097152,3145728] (some (Fm e)) (lk [(2097152,plZ),(3145728,[vi e])]):=by
 refine CmD.by gok eok mixed 4194304 func196 pF rfl rfl rfl rfl rfl ip iq (by simp [ntmps196]) (by simp [ntmps196]) io (by simp [ntmps196]) (by simp) (by simp [NV]) (A7.at (by simp)) (by simp) (by simp [LD]) fun E hs=>?_
 simp [p196r,NV];refine AL [(4,2097152)] (by kernel_rfl) ?_;simp [AA,inC,Nat.testBit,VW];refine AB.by (lk [(2097152,2097152),(3145728,3145728)]) ?_;simp [results196]
end Go.Proofs.Tryz
namespace Go.Psl
variable {P:Program} {Γ:Tys} {E:Ent} {fn:Func} {r:V} {H1:List (Nat × List V)} {pb:PC} {st:St}
theorem Ax:dwQ P Γ E fn r H1 pb .normal st=DW P E fn r H1 pb st:=AF rfl
theorem Iv {g:FuncId} {ids:List (Nat × Nat)}:XG P Γ fn r H1 g ids .ret st=Cn P g ids none (Dc Γ fn [] r H1) st:=AF rfl
theorem D9 {g:FuncId} {ids:List (Nat × Nat)} {D:D}:XG P Γ fn r H1 g ids (.pan (.d D)) st=Cn P g ids (some (.d D)) (Dc Γ fn [] r H1) st:=AF (by simp [XG])
theorem DW.defer2 {eqs:Eqs} (hΓ:GOk P Γ) (hE:EB P eqs) (hm:P.follows .mixedOrders=true) {t:Nat} {g:FuncId} {caps:Array Operand} {cl:Call} {f:Nat->V} {H:Hp} {n:Nat} (n':Nat) (ids:List (Nat × Nat)) (vs:List V) (hcal:cl.callee= .value (.tmp t)) (hcl:cl.args= #[]) (hvs:(ids.map fun p=> .lp p.1 p.2)=vs) (hn:n+2097152=n')
   (hcaps:BX f caps.toList=vs) (hst:∀ i,¬ E.stab i)
   (h:∀ E':Ent,PW P Γ eqs E' pb (XG P Γ fn r H1 g ids) ⟨Am f (some t) (.cl g vs),H,n'⟩):
   DW P E fn r H1 (.seq (.reg [⟨some t, .makeFunc (.func g) #[] caps,none⟩,⟨none, .defer cl,none⟩]) pb) ⟨f,H,n⟩:=by
 subst hn hvs;exact DW.defer hΓ hE hm ids hcal hcl hcaps hst fun E' _ _ _=>h E'
theorem Cn.mk {H:Hp} {b:Nat} {f:Nat->V} {g:FuncId} {ids:List (Nat × Nat)} {m:Option V} {K:St->Prop} (L:List (Nat × List V)) (ks:List Nat) (L1:List (Nat × List V)) (hf:CmD P g (ids.map fun p=> .lp p.1 p.2) (lk L) ks m (lk L1)) (hlive:∀ p∈ids,(H p.1).isSome=true) (hin:Fr H L) (hi:∀ p∈L1,p.1∈ks\/p.1 < 1048576) (hks:Jq b L L1 ks) (hL:∀ p∈L,p.1 < b)
   (hk:K ⟨f,I2 (E0 H L) ks b L1,b⟩):Cn P g ids m K ⟨f,H,b⟩:=by
 have hL':∀ i,InH (lk L) i->i < b:=fun i h=>by
   obtain ⟨x,hx⟩:=Option.isSome_iff_exists.1 h;exact hL _ (B4 hx)
 refine ⟨hlive,_,lk L,ks,lk L1,hf,⟨hin.at,fun i h hn=>NB hi h hn,fun i h=>(hks.at i h).2.2, .inl ?_⟩,?_⟩
 . exact AJ.of_get rfl fun i x y hx hy=>by
     rw [hx] at hy;cases hy;rw [List.getElem?_map] at hx;obtain ⟨p,_,rfl⟩:=Option.map_eq_some_iff.1 hx;exact ⟨rfl,rfl⟩
 . show K ⟨f,BI H b (lk L) ks (lk L1),b⟩
   rw [E1 H ks b L L1 hks hL'];exact hk
end Go.Psl
namespace Go.Proofs.Tryz
open Go.Psl
open Go.Air
def sgD (i:Nat):Nat:=if i=0 then 23068672 else 28311552
theorem Nu:∀ i j,i < 2->j < 2->sgD i=sgD j->i=j:=by
 intro i j hi hj h;unfold sgD at h;split at h<;>split at h<;>first | omega | exact absurd h (by omega)
theorem Px (ρ:Nat->Nat) (l:List Cel):(AH AP l).map (BJ ρ)=AH AP l:=by
 simp [AH,List.map_flatten,Function.comp_def]
theorem rF {f:FuncId} {p:Plt} {a:Act} {cs:List Cel} {e:Int} (h:Cm prog f [.lp 0 0,BZ a] (lk [(0,plB p (.ls 1 0 cs.length 7)),(1,AH AP cs)]) [] (.pan (Fm e)) (lk [])):Cm prog f [.lp 23068672 0,BZ a] (lk [(23068672,plB p (.ls 28311552 0 cs.length 7)),(28311552,AH AP cs)]) [] (.pan (Fm e)) (lk []):=by
 have:=Cm.rename sgD 2 Nu h (by simp [BW]) (by simp [BW]) (by simp);simpa [Ea,HW,sgD,Px] using this
theorem MZ {f:FuncId} {p q:Plt} {a:Act} {cs ds:List Cel} (h:Cm prog f [.lp 0 0,BZ a] (lk [(0,plB p (.ls 1 0 cs.length 7)),(1,AH AP cs)]) [0,1] (.ret (.tup [])) (lk [(0,plB q (.ls 1 0 cs.length 7)),(1,AH AP ds)])):Cm prog f [.lp 23068672 0,BZ a] (lk [(23068672,plB p (.ls 28311552 0 cs.length 7)),(28311552,AH AP cs)]) [23068672,28311552] (.ret (.tup [])) (lk [(23068672,plB q (.ls 28311552 0 cs.length 7)),(28311552,AH AP ds)]):=by
 have:=Cm.rename sgD 2 Nu h (by simp [BW]) (by simp [BW]) (by simp);simpa [Ea,HW,sgD,Px] using this
theorem Py (p:Plt) (a:Act) (e:Int) (hl:p.cs.length<=1000000) (h:Ar p=true) (hk:a.k=3) (hne:p.cs≠[]) (d0:Cm prog 199 [.lp 0 0,BZ a] (lk [(0,plB p (.ls 1 0 p.cs.length 7)),(1,AH AP p.cs)]) [] (.pan (Fm e)) (lk [])):Ct prog 128 [Cy p (.d (AX p.cs)),BZ a] (.tup [.agg plZ,vi e]) []:=by
 have d5:=rF d0;have n2:=trivial;have d1:=Ef p (by omega);have d2:=Bq 1 7 [3] (by simp);have d3:=BP 2;have d4:=Ce p.cs hl;have n1:=BG hne;have w3:IntKind.wrap .i64 3=3:=by decide
 rw [h] at d1;rw [show rgB 1 7 [3]=true from by decide] at d2;refine Ct.byD gok func128 LE rfl (by simp [ntmps128]) (by simp) (by simp [LD]) fun E hE hN=>?_
 unfold p128;simp only [];refine DW.seq gok eok mixed ?_;simp [Ax];refine DW.seq gok eok mixed ?_;simp;refine CLa d1 ?_;simp [Ax];refine DW.defer2 gok eok mixed 11534336 [(2097152,0),(3145728,0)] [.lp 2097152 0, .lp 3145728 0] rfl rfl rfl (by simp) (by simp) hE fun E'=>?_
 simp [AA,AM,hk,w3];refine CLb (d2) (by simp [AG]) ?_;simp;refine CLa d3 ?_;simp [AA];refine CLa d4 ?_;simp [AA];refine CRs d5 (by simp [hk]) ?_;simp [D9];refine Cn.mk _ _ _ (Ds e) (by simp) (by simp) (by simp) (by simp) (by simp) ?_;simp;apply RZ;simp [results128]
theorem ABg (p q:Plt) (a:Act) (hl:p.cs.length<=1000000) (h:Ar p=true) (hk:a.k=3) (hne:p.cs≠[]) (hq:q.cs.length=p.cs.length) (ho:Ar q=true) (d0:Cm prog 199 [.lp 0 0,BZ a] (lk [(0,plB p (.ls 1 0 p.cs.length 7)),(1,AH AP p.cs)]) [0,1] (.ret (.tup [])) (lk [(0,plB q (.ls 1 0 p.cs.length 7)),(1,AH AP q.cs)])):Ct prog 128 [Cy p (.d (AX p.cs)),BZ a] (.tup [Cy q (.ls 0 0 p.cs.length 7),vi 0]) [(0,AH AP q.cs)]:=by
 have d5:=MZ d0;have n2:AH AP q.cs≠[]:=BG fun e=>by rw [e] at hq;exact hne (List.eq_nil_of_length_eq_zero hq.symm)
 have d6:=Ef q (by omega);have d7:=BP 9
 have d8:List.take (p.cs.length*7) (AH AP q.cs)=(List.map (List.map V.d ∘ AP) q.cs).flatten:=by
   rw [<-hq,List.take_of_length_le (by rw [Aw Nr];omega)];simp [AH,List.map_flatten]
 rw [ho] at d6;have d1:=Ef p (by omega);have d2:=Bq 1 7 [3] (by simp);have d3:=BP 2;have d4:=Ce p.cs hl;have n1:=BG hne;have w3:IntKind.wrap .i64 3=3:=by decide
 rw [h] at d1;rw [show rgB 1 7 [3]=true from by decide] at d2;refine Ct.byD gok func128 LE rfl (by simp [ntmps128]) (by simp) (by simp [LD]) fun E hE hN=>?_
 unfold p128;simp only [];refine DW.seq gok eok mixed ?_;simp [Ax];refine DW.seq gok eok mixed ?_;simp;refine CLa d1 ?_;simp [Ax];refine DW.defer2 gok eok mixed 11534336 [(2097152,0),(3145728,0)] [.lp 2097152 0, .lp 3145728 0] rfl rfl rfl (by simp) (by simp) hE fun E'=>?_
 simp [AA,AM,hk,w3];refine CLb (d2) (by simp [AG]) ?_;simp;refine CLa d3 ?_;simp [AA];refine CLa d4 ?_;simp [AA];refine CRs d5 (by simp [n1,hk,BB]) ?_;simp;refine CLb (d6) (by first | (simp;done) | simp [CP,d8,hq]) ?_;simp;refine CLa d7 ?_;simp [AA,Iv];refine Cn.mk _ _ _ IT (by simp) (by simp) (by simp) (by simp) (by simp) ?_;simp;refine AB.by (lk [(0,28311552)]) ?_;simp [results128]
theorem WY (p q:Plt) (a:Act) (hl:p.cs.length<=1000000) (h:Ar p=true) (hk:a.k=3) (hne:p.cs≠[]) (hq:q.cs.length=p.cs.length) (ho:Ar q=false) (d0:Cm prog 199 [.lp 0 0,BZ a] (lk [(0,plB p (.ls 1 0 p.cs.length 7)),(1,AH AP p.cs)]) [0,1] (.ret (.tup [])) (lk [(0,plB q (.ls 1 0 p.cs.length 7)),(1,AH AP q.cs)])):Ct prog 128 [Cy p (.d (AX p.cs)),BZ a] (.tup [.agg plZ,vi 9]) []:=by
 have d5:=MZ d0;have n2:AH AP q.cs≠[]:=BG fun e=>by rw [e] at hq;exact hne (List.eq_nil_of_length_eq_zero hq.symm)
 have d6:=Ef q (by omega);have d7:=Xt 9
 have d8:List.take (p.cs.length*7) (AH AP q.cs)=(List.map (List.map V.d ∘ AP) q.cs).flatten:=by
   rw [<-hq,List.take_of_length_le (by rw [Aw Nr];omega)];simp [AH,List.map_flatten]
 rw [ho] at d6;have d1:=Ef p (by omega);have d2:=Bq 1 7 [3] (by simp);have d3:=BP 2;have d4:=Ce p.cs hl;have n1:=BG hne;have w3:IntKind.wrap .i64 3=3:=by decide
 rw [h] at d1;rw [show rgB 1 7 [3]=true from by decide] at d2;refine Ct.byD gok func128 LE rfl (by simp [ntmps128]) (by simp) (by simp [LD]) fun E hE hN=>?_
 unfold p128;simp only [];refine DW.seq gok eok mixed ?_;simp [Ax];refine DW.seq gok eok mixed ?_;simp;refine CLa d1 ?_;simp [Ax];refine DW.defer2 gok eok mixed 11534336 [(2097152,0),(3145728,0)] [.lp 2097152 0, .lp 3145728 0] rfl rfl rfl (by simp) (by simp) hE fun E'=>?_
 simp [AA,AM,hk,w3];refine CLb (d2) (by simp [AG]) ?_;simp;refine CLa d3 ?_;simp [AA];refine CLa d4 ?_;simp [AA];refine CRs d5 (by simp [n1,hk,BB]) ?_;simp;refine CLb (d6) (by first | (simp;done) | simp [CP,d8,hq]) ?_;simp;refine CRs d7 (by simp) ?_;simp [D9];refine Cn.mk _ _ _ (Ds 9) (by simp) (by simp) (by simp) (by simp) (by simp) ?_;simp;apply RZ;simp [results128]
theorem LW (p:Plt) (a:Act) (e:Int) (hl:p.cs.length<=1000000) (h:Ar p=true) (hk:a.k=4) (hne:p.cs≠[]) (d0:Cm prog 200 [.lp 0 0,BZ a] (lk [(0,plB p (.ls 1 0 p.cs.length 7)),(1,AH AP p.cs)]) [] (.pan (Fm e)) (lk [])):Ct prog 128 [Cy p (.d (AX p.cs)),BZ a] (.tup [.agg plZ,vi e]) []:=by
 have d5:=rF d0;have n2:=trivial;have d1:=Ef p (by omega);have d2:=Bq 1 7 [4] (by simp);have d3:=BP 2;have d4:=Ce p.cs hl;have n1:=BG hne;have w3:IntKind.wrap .i64 4=4:=by decide
 rw [h] at d1;rw [show rgB 1 7 [4]=true from by decide] at d2;refine Ct.byD gok func128 LE rfl (by simp [ntmps128]) (by simp) (by simp [LD]) fun E hE hN=>?_
 unfold p128;simp only [];refine DW.seq gok eok mixed ?_;simp [Ax];refine DW.seq gok eok mixed ?_;simp;refine CLa d1 ?_;simp [Ax];refine DW.defer2 gok eok mixed 11534336 [(2097152,0),(3145728,0)] [.lp 2097152 0, .lp 3145728 0] rfl rfl rfl (by simp) (by simp) hE fun E'=>?_
 simp [AA,AM,hk,w3];refine CLb (d2) (by simp [AG]) ?_;simp;refine CLa d3 ?_;simp [AA];refine CLa d4 ?_;simp [AA];refine CRs d5 (by simp [hk]) ?_;simp [D9];refine Cn.mk _ _ _ (Ds e) (by simp) (by simp) (by simp) (by simp) (by simp) ?_;simp;apply RZ;simp [results128]
theorem cT (p q:Plt) (a:Act) (hl:p.cs.length<=1000000) (h:Ar p=true) (hk:a.k=4) (hne:p.cs≠[]) (hq:q.cs.length=p.cs.length) (ho:Ar q=true) (d0:Cm prog 200 [.lp 0 0,BZ a] (lk [(0,plB p (.ls 1 0 p.cs.length 7)),(1,AH AP p.cs)]) [0,1] (.ret (.tup [])) (lk [(0,plB q (.ls 1 0 p.cs.length 7)),(1,AH AP q.cs)])):Ct prog 128 [Cy p (.d (AX p.cs)),BZ a] (.tup [Cy q (.ls 0 0 p.cs.length 7),vi 0]) [(0,AH AP q.cs)]:=by
 have d5:=MZ d0;have n2:AH AP q.cs≠[]:=BG fun e=>by rw [e] at hq;exact hne (List.eq_nil_of_length_eq_zero hq.symm)
 have d6:=Ef q (by omega);have d7:=BP 9
 have d8:List.take (p.cs.length*7) (AH AP q.cs)=(List.map (List.map V.d ∘ AP) q.cs).flatten:=by
   rw [<-hq,List.take_of_length_le (by rw [Aw Nr];omega)];simp [AH,List.map_flatten]
 rw [ho] at d6;have d1:=Ef p (by omega);have d2:=Bq 1 7 [4] (by simp);have d3:=BP 2;have d4:=Ce p.cs hl;have n1:=BG hne;have w3:IntKind.wrap .i64 4=4:=by decide
 rw [h] at d1;rw [show rgB 1 7 [4]=true from by decide] at d2;refine Ct.byD gok func128 LE rfl (by simp [ntmps128]) (by simp) (by simp [LD]) fun E hE hN=>?_
 unfold p128;simp only [];refine DW.seq gok eok mixed ?_;simp [Ax];refine DW.seq gok eok mixed ?_;simp;refine CLa d1 ?_;simp [Ax];refine DW.defer2 gok eok mixed 11534336 [(2097152,0),(3145728,0)] [.lp 2097152 0, .lp 3145728 0] rfl rfl rfl (by simp) (by simp) hE fun E'=>?_
 simp [AA,AM,hk,w3];refine CLb (d2) (by simp [AG]) ?_;simp;refine CLa d3 ?_;simp [AA];refine CLa d4 ?_;simp [AA];refine CRs d5 (by simp [n1,hk,BB]) ?_;simp;refine CLb (d6) (by first | (simp;done) | simp [CP,d8,hq]) ?_;simp;refine CLa d7 ?_;simp [AA,Iv];refine Cn.mk _ _ _ IT (by simp) (by simp) (by simp) (by simp) (by simp) ?_;simp;refine AB.by (lk [(0,28311552)]) ?_;simp [results128]
theorem WZ (p q:Plt) (a:Act) (hl:p.cs.length<=1000000) (h:Ar p=true) (hk:a.k=4) (hne:p.cs≠[]) (hq:q.cs.length=p.cs.length) (ho:Ar q=false) (d0:Cm prog 200 [.lp 0 0,BZ a] (lk [(0,plB p (.ls 1 0 p.cs.length 7)),(1,AH AP p.cs)]) [0,1] (.ret (.tup [])) (lk [(0,plB q (.ls 1 0 p.cs.length 7)),(1,AH AP q.cs)])):Ct prog 128 [Cy p (.d (AX p.cs)),BZ a] (.tup [.agg plZ,vi 9]) []:=by
 have d5:=MZ d0;have n2:AH AP q.cs≠[]:=BG fun e=>by rw [e] at hq;exact hne (List.eq_nil_of_length_eq_zero hq.symm)
 have d6:=Ef q (by omega);have d7:=Xt 9
 have d8:List.take (p.cs.length*7) (AH AP q.cs)=(List.map (List.map V.d ∘ AP) q.cs).flatten:=by
   rw [<-hq,List.take_of_length_le (by rw [Aw Nr];omega)];simp [AH,List.map_flatten]
 rw [ho] at d6;have d1:=Ef p (by omega);have d2:=Bq 1 7 [4] (by simp);have d3:=BP 2;have d4:=Ce p.cs hl;have n1:=BG hne;have w3:IntKind.wrap .i64 4=4:=by decide
 rw [h] at d1;rw [show rgB 1 7 [4]=true from by decide] at d2;refine Ct.byD gok func128 LE rfl (by simp [ntmps128]) (by simp) (by simp [LD]) fun E hE hN=>?_
 unfold p128;simp only [];refine DW.seq gok eok mixed ?_;simp [Ax];refine DW.seq gok eok mixed ?_;simp;refine CLa d1 ?_;simp [Ax];refine DW.defer2 gok eok mixed 11534336 [(2097152,0),(3145728,0)] [.lp 2097152 0, .lp 3145728 0] rfl rfl rfl (by simp) (by simp) hE fun E'=>?_
 simp [AA,AM,hk,w3];refine CLb (d2) (by simp [AG]) ?_;simp;refine CLa d3 ?_;simp [AA];refine CLa d4 ?_;simp [AA];refine CRs d5 (by simp [n1,hk,BB]) ?_;simp;refine CLb (d6) (by first | (simp;done) | simp [CP,d8,hq]) ?_;simp;refine CRs d7 (by simp) ?_;simp [D9];refine Cn.mk _ _ _ (Ds 9) (by simp) (by simp) (by simp) (by simp) (by simp) ?_;simp;apply RZ;simp [results128]
theorem cU (p q:Plt) (a:Act) (hl:p.cs.length<=1000000) (h:Ar p=true) (hk:a.k=7) (hne:p.cs≠[]) (hq:q.cs.length=p.cs.length) (ho:Ar q=true) (d0:Cm prog 203 [.lp 0 0,BZ a] (lk [(0,plB p (.ls 1 0 p.cs.length 7)),(1,AH AP p.cs)]) [0,1] (.ret (.tup [])) (lk [(0,plB q (.ls 1 0 p.cs.length 7)),(1,AH AP q.cs)])):Ct prog 128 [Cy p (.d (AX p.cs)),BZ a] (.tup [Cy q (.ls 0 0 p.cs.length 7),vi 0]) [(0,AH AP q.cs)]:=by
 have d5:=MZ d0;have n2:AH AP q.cs≠[]:=BG fun e=>by rw [e] at hq;exact hne (List.eq_nil_of_length_eq_zero hq.symm)
 have d6:=Ef q (by omega);have d7:=BP 9
 have d8:List.take (p.cs.length*7) (AH AP q.cs)=(List.map (List.map V.d ∘ AP) q.cs).flatten:=by
   rw [<-hq,List.take_of_length_le (by rw [Aw Nr];omega)];simp [AH,List.map_flatten]
 rw [ho] at d6;have d1:=Ef p (by omega);have d2:=Bq 1 7 [7] (by simp);have d3:=BP 2;have d4:=Ce p.cs hl;have n1:=BG hne;have w3:IntKind.wrap .i64 7=7:=by decide
 rw [h] at d1;rw [show rgB 1 7 [7]=true from by decide] at d2;refine Ct.byD gok func128 LE rfl (by simp [ntmps128]) (by simp) (by simp [LD]) fun E hE hN=>?_
 unfold p128;simp only [];refine DW.seq gok eok mixed ?_;simp [Ax];refine DW.seq gok eok mixed ?_;simp;refine CLa d1 ?_;simp [Ax];refine DW.defer2 gok eok mixed 11534336 [(2097152,0),(3145728,0)] [.lp 2097152 0, .lp 3145728 0] rfl rfl rfl (by simp) (by simp) hE fun E'=>?_
 simp [AA,AM,hk,w3];refine CLb (d2) (by simp [AG]) ?_;simp;refine CLa d3 ?_;simp [AA];refine CLa d4 ?_;simp [AA];refine CRs d5 (by simp [n1,hk,BB]) ?_;simp;refine CLb (d6) (by first | (simp;done) | simp [CP,d8,hq]) ?_;simp;refine CLa d7 ?_;simp [AA,Iv];refine Cn.mk _ _ _ IT (by simp) (by simp) (by simp) (by simp) (by simp) ?_;simp;refine AB.by (lk [(0,28311552)]) ?_;simp [results128]
theorem Wa (p q:Plt) (a:Act) (hl:p.cs.length<=1000000) (h:Ar p=true) (hk:a.k=7) (hne:p.cs≠[]) (hq:q.cs.length=p.cs.length) (ho:Ar q=false) (d0:Cm prog 203 [.lp 0 0,BZ a] (lk [(0,plB p (.ls 1 0 p.cs.length 7)),(1,AH AP p.cs)]) [0,1] (.ret (.tup [])) (lk [(0,plB q (.ls 1 0 p.cs.length 7)),(1,AH AP q.cs)])):Ct prog 128 [Cy p (.d (AX p.cs)),BZ a] (.tup [.agg plZ,vi 9]) []:=by
 have d5:=MZ d0;have n2:AH AP q.cs≠[]:=BG fun e=>by rw [e] at hq;exact hne (List.eq_nil_of_length_eq_zero hq.symm)
 have d6:=Ef q (by omega);have d7:=Xt 9
 have d8:List.take (p.cs.length*7) (AH AP q.cs)=(List.map (List.map V.d ∘ AP) q.cs).flatten:=by
   rw [<-hq,List.take_of_length_le (by rw [Aw Nr];omega)];simp [AH,List.map_flatten]
 rw [ho] at d6;have d1:=Ef p (by omega);have d2:=Bq 1 7 [7] (by simp);have d3:=BP 2;have d4:=Ce p.cs hl;have n1:=BG hne;have w3:IntKind.wrap .i64 7=7:=by decide
 rw [h] at d1;rw [show rgB 1 7 [7]=true from by decide] at d2;refine Ct.byD gok func128 LE rfl (by simp [ntmps128]) (by simp) (by simp [LD]) fun E hE hN=>?_
 unfold p128;simp only [];refine DW.seq gok eok mixed ?_;simp [Ax];refine DW.seq gok eok mixed ?_;simp;refine CLa d1 ?_;simp [Ax];refine DW.defer2 gok eok mixed 11534336 [(2097152,0),(3145728,0)] [.lp 2097152 0, .lp 3145728 0] rfl rfl rfl (by simp) (by simp) hE fun E'=>?_
 simp [AA,AM,hk,w3];refine CLb (d2) (by simp [AG]) ?_;simp;refine CLa d3 ?_;simp [AA];refine CLa d4 ?_;simp [AA];refine CRs d5 (by simp [n1,hk,BB]) ?_;simp;refine CLb (d6) (by first | (simp;done) | simp [CP,d8,hq]) ?_;simp;refine CRs d7 (by simp) ?_;simp [D9];refine Cn.mk _ _ _ (Ds 9) (by simp) (by simp) (by simp) (by simp) (by simp) ?_;simp;apply RZ;simp [results128]
end Go.Proofs.Tryz
namespace Go.Proofs.Tryz
open Go.Psl
open Go.Air
theorem fq (p:Plt) (a:Act) (ha:a.n=1):Cm prog 203 [.lp 23068672 0,BZ a] (lk [(23068672,plB p (.ls 28311552 0 0 7)),(28311552,[])]) [23068672] (.ret (.tup [])) (lk [(23068672,plB p (.ls 1 0 0 7)),(1,[])]):=by
 have d1:=Bq 1 1000 [1] (by simp);have d2:=BP 2;rw [show rgB 1 1000 [1]=true from by decide] at d1;have z1:IntKind.wrap .i64 1=1:=by decide
 refine CM 28311553 func203 qc fun E hs hE=>?_
 simp [p203,AA,AM,ha]
 repeat ((first | (refine CLt d1 ?_ ?_;focus (simp [AG];done)) | (refine CLt d2 ?_ ?_;focus (simp;done)));simp)
 refine Al (α:=Nat) (fun k=>⟨AO [(0, .lp 23068672 0),(13,vi 1),(14,vi k)],lk [(23068672,plB p (.ls 28311552 0 0 7)),(28311552,[])],28311553⟩) (fun k=>k<=1) (fun k=>1 - k) 0 ?_ ?_ ?_
 . omega
 . exact WKM hs (lk [(23068672,23068672),(28311552,28311552)])
 . intro k hk
   match k,hk with
   | 1,_=>
     simp [LG];refine AB.by (lk [(23068672,23068672),(1,28311552)]) ?_;simp [results203]
   | n+2,h=>omega
   | 0,_=>
     simp [LG];refine Al (α:=Nat) (fun i=>⟨AO [(0, .lp 23068672 0),(13,vi 1),(14,vi 0),(21,vi 0),(22,vi i)],lk [(23068672,plB p (.ls 28311552 0 0 7)),(28311552,[])],28311553⟩) (fun i=>i=0) (fun i=>0) 0 ?_ ?_ ?_
     . rfl
     . exact WKM hs (lk [(23068672,23068672),(28311552,28311552)])
     . intro i hi
       subst hi;simp [tE,z1];refine ⟨1,by omega,by omega,?_⟩;exact WKM hs (lk [(23068672,23068672),(28311552,28311552)])
theorem i0 {f:FuncId} {p:Plt} {a:Act} {e:Int} (h:Cm prog f [.lp 0 0,BZ a] (lk [(0,plB p (.ls 1 0 0 7))]) [] (.pan (Fm e)) (lk [])):Cm prog f [.lp 23068672 0,BZ a] (lk [(23068672,plB p (.ls 28311552 0 0 7))]) [] (.pan (Fm e)) (lk []):=by
 have:=Cm.rename sgD 2 Nu h (by simp [BW]) (by simp [BW]) (by simp);simpa [Ea,HW,sgD] using this
theorem kz (p:Plt) (a:Act) (h:Ar p=true) (hk:a.k=3) (he:p.cs=[]):Ct prog 128 [Cy p (.d (AX p.cs)),BZ a] (.tup [.agg plZ,vi 2]) []:=by
 have d5:=i0 (gj p a);have d1:=Ef p (by simp [he]);have d2:=Bq 1 7 [3] (by simp);have d3:=BP 2;have d4:=Ce ([]:List Cel) (by simp);have w3:IntKind.wrap .i64 3=3:=by decide
 rw [h,he] at d1;rw [he];rw [show rgB 1 7 [3]=true from by decide] at d2;refine Ct.byD gok func128 LE rfl (by simp [ntmps128]) (by simp) (by simp [LD]) fun E hE hN=>?_
 unfold p128;simp only [];refine DW.seq gok eok mixed ?_;simp [Ax];refine DW.seq gok eok mixed ?_;simp;refine CLa d1 ?_;simp [Ax];refine DW.defer2 gok eok mixed 11534336 [(2097152,0),(3145728,0)] [.lp 2097152 0, .lp 3145728 0] rfl rfl rfl (by simp) (by simp) hE fun E'=>?_
 simp [AA,AM,hk,w3];refine CLb (d2) (by simp [AG]) ?_;simp;refine CLa d3 ?_;simp [AA];refine CLa d4 ?_;simp [AA];refine CRs d5 (by simp [AH,hk]) ?_;simp [D9];refine Cn.mk _ _ _ (Ds 2) (by simp) (by simp) (by simp) (by simp) (by simp) ?_;simp;apply RZ;simp [results128]
theorem lA (p:Plt) (a:Act) (h:Ar p=true) (hk:a.k=4) (he:p.cs=[]):Ct prog 128 [Cy p (.d (AX p.cs)),BZ a] (.tup [.agg plZ,vi 2]) []:=by
 have d5:=i0 (ABp p a);have d1:=Ef p (by simp [he]);have d2:=Bq 1 7 [4] (by simp);have d3:=BP 2;have d4:=Ce ([]:List Cel) (by simp);have w3:IntKind.wrap .i64 4=4:=by decide
 rw [h,he] at d1;rw [he];rw [show rgB 1 7 [4]=true from by decide] at d2;refine Ct.byD gok func128 LE rfl (by simp [ntmps128]) (by simp) (by simp [LD]) fun E hE hN=>?_
 unfold p128;simp only [];refine DW.seq gok eok mixed ?_;simp [Ax];refine DW.seq gok eok mixed ?_;simp;refine CLa d1 ?_;simp [Ax];refine DW.defer2 gok eok mixed 11534336 [(2097152,0),(3145728,0)] [.lp 2097152 0, .lp 3145728 0] rfl rfl rfl (by simp) (by simp) hE fun E'=>?_
 simp [AA,AM,hk,w3];refine CLb (d2) (by simp [AG]) ?_;simp;refine CLa d3 ?_;simp [AA];refine CLa d4 ?_;simp [AA];refine CRs d5 (by simp [AH,hk]) ?_;simp [D9];refine Cn.mk _ _ _ (Ds 2) (by simp) (by simp) (by simp) (by simp) (by simp) ?_;simp;apply RZ;simp [results128]
theorem lC (p:Plt) (a:Act) (h:Ar p=true) (hk:a.k=7) (hn:a.n=1) (he:p.cs=[]):Ct prog 128 [Cy p (.d (AX p.cs)),BZ a] (.tup [Cy p (.ls 0 0 0 7),vi 0]) [(0,[])]:=by
 have d5:=fq p a hn;have d6:=Ef p (by simp [he]);have d7:=BP 9;rw [h,he] at d6;have d1:=Ef p (by simp [he]);have d2:=Bq 1 7 [7] (by simp);have d3:=BP 2;have d4:=Ce ([]:List Cel) (by simp);have w3:IntKind.wrap .i64 7=7:=by decide
 rw [h,he] at d1;rw [he];rw [show rgB 1 7 [7]=true from by decide] at d2;refine Ct.byD gok func128 LE rfl (by simp [ntmps128]) (by simp) (by simp [LD]) fun E hE hN=>?_
 unfold p128;simp only [];refine DW.seq gok eok mixed ?_;simp [Ax];refine DW.seq gok eok mixed ?_;simp;refine CLa d1 ?_;simp [Ax];refine DW.defer2 gok eok mixed 11534336 [(2097152,0),(3145728,0)] [.lp 2097152 0, .lp 3145728 0] rfl rfl rfl (by simp) (by simp) hE fun E'=>?_
 simp [AA,AM,hk,w3];refine CLb (d2) (by simp [AG]) ?_;simp;refine CLa d3 ?_;simp [AA];refine CLa d4 ?_;simp [AA];refine CRs d5 (by simp [AH,hk]) ?_;simp;refine CLb (d6) (by first | (simp;done) | simp [CP]) ?_;simp;refine CLa d7 ?_;simp [AA,Iv];refine Cn.mk _ _ _ IT (by simp) (by simp) (by simp) (by simp) (by simp) ?_;simp;refine AB.by (lk [(0,39845889)]) ?_;simp [results128]
def Hm (q:Plt):Except Int Plt:=if Ar q then .ok q else .error 9
def vlP (p:Plt) (a:Act) (c:Cel):Plt:={p with vh:=p.vh+BQ c a.n,va:=p.va+(a.n - BQ c a.n),cs:=p.cs.set a.c.toNat (I0 c a.n)}
def mvP (p:Plt) (a:Act) (c e:Cel):Plt:={p with cs:=(p.cs.set a.c.toNat (I0 c a.n)).set a.t.toNat (gg e (BQ c a.n) (a.n - BQ c a.n))}
def vlS (p:Plt) (a:Act):Except Int Plt:=if inA p.cs.length a then match p.cs[a.c.toNat]? with | none=> .error 2 | some c=>if a.n<=c.he+c.ai then Hm (vlP p a c) else .error 6 else .error 2
def mvS (p:Plt) (a:Act):Except Int Plt:=if inA p.cs.length a then (if inT p.cs.length a then match p.cs[a.c.toNat]?,p.cs[a.t.toNat]? with | some c,some e=>if a.n<=c.he+c.ai then Hm (mvP p a c e) else .error 6 | _,_=> .error 2 else .error 2) else .error 2
def tkQ (p:Plt):Plt:={tkP p p.cs p.cs.length with cs:=p.cs.map tkC}
def doS (p:Plt) (a:Act):Except Int Plt:=if Ar p then (if a.k=3 then vlS p a else if a.k=4 then mvS p a else Hm (tkQ p)) else .error 32
def doV:Except Int Plt->V
 | .ok q=> .tup [Cy q (.d (AX q.cs)),vi 0]
 | .error e=> .tup [.agg plZ,vi e]
theorem Ta {q:Plt} {n:Nat} {args:List V} (hn:q.cs.length=n) (h:Ct prog 128 args (.tup [Cy q (.ls 0 0 n 7),vi 0]) [(0,AH AP q.cs)]):Ct prog 128 args (doV (.ok q)) []:=by
 refine Cm.freeze h ?_;subst hn
 have hb:Df (lk [(0,AH AP q.cs)]) (.ls 0 0 q.cs.length 7) (.d (AX q.cs)):=by
   have:=B0 (H:=lk [(0,AH AP q.cs)]) (id:=0) Nr (l:=q.cs) (by simp);exact this
 have z:∀ x:Int,FzC (lk [(0,AH AP q.cs)]) (vi x) (vi x):=fun x=>⟨_,rfl, .inl rfl⟩
 exact ⟨⟨⟨_,rfl,hb⟩,z _,z _,z _,z _,z _,z _,z _,z _,z _,trivial⟩, .inl rfl,trivial⟩
theorem CS {p:Plt} (h:Ar p=true):p.cs.length<=12:=by
 unfold Ar IR at h;simp only [Bool.and_eq_true,decide_eq_true_eq] at h;exact h.1.1.1.1
theorem Dx {p:Plt} (h:Ar p=true):∀ c∈p.cs,B5 c:=fun c hc=>by
 unfold Ar at h;simp only [Bool.and_eq_true] at h;exact Dm.1 (List.all_eq_true.1 h.1.2 c hc)
theorem K7 {p:Plt} (h:Ar p=true):(Li p).all bkB=true:=by
 unfold Ar IR at h;simp only [Bool.and_eq_true] at h;exact h.1.1.2
theorem Zm {cs:List Cel} {a:Act} (h:inA cs.length a=true):∃ c,cs[a.c.toNat]?= some c:=by
 have:=EQ.1 h;exact ⟨_,List.getElem?_eq_getElem (by omega)⟩
theorem lE {cs:List Cel} {a:Act} (h:inT cs.length a=true):∃ c,cs[a.t.toNat]?= some c:=by
 unfold inT rgB at h;simp at h;exact ⟨_,List.getElem?_eq_getElem (by omega)⟩
theorem NP {p q:Plt} {a:Act} (h1:Ar q=true->Ct prog 128 [Cy p (.d (AX p.cs)),BZ a] (doV (.ok q)) []) (h2:Ar q=false->Ct prog 128 [Cy p (.d (AX p.cs)),BZ a] (.tup [.agg plZ,vi 9]) []):Ct prog 128 [Cy p (.d (AX p.cs)),BZ a] (doV (Hm q)) []:=by
 unfold Hm;cases h:Ar q
 . simpa [doV] using h2 h
 . simpa using h1 h
theorem do_3 (p:Plt) (a:Act) (h:Ar p=true) (hk:a.k=3):Ct prog 128 [Cy p (.d (AX p.cs)),BZ a] (doV (doS p a)) []:=by
 have hl:=CS h;have hcs:=Dx h;obtain ⟨_,_,v1,v2,_⟩:=K9 (K7 h);have e:doS p a=vlS p a:=by simp [doS,h,hk]
 rw [e];by_cases he:p.cs=[]
 . have:inA p.cs.length a=false:=by
     cases hx:inA p.cs.length a
     . rfl
     . have:=EQ.1 hx;rw [he] at this;simp at this;omega
   have e2:vlS p a= .error 2:=by simp [vlS,this]
   rw [e2];exact kz p a h hk he
 . cases hx:inA p.cs.length a with
   | false=>
     have e2:vlS p a= .error 2:=by simp [vlS,hx]
     rw [e2];exact Py p a 2 (by omega) h hk he (Vw p p.cs a (by omega) he hx)
   | true=>
     obtain ⟨c,hc⟩:=Zm hx;have hb:=hcs c (List.mem_of_getElem? hc);by_cases hn:a.n<=c.he+c.ai
     . have e2:vlS p a=Hm (vlP p a c):=by simp [vlS,hx,hc,hn]
       rw [e2];have d:=aV p p.cs a c (by omega) hx hc hb hn v1 v2;have hq:(vlP p a c).cs.length=p.cs.length:=by simp [vlP]
       exact NP (fun ho=>Ta hq (ABg p (vlP p a c) a (by omega) h hk he hq ho d)) fun ho=>WY p (vlP p a c) a (by omega) h hk he hq ho d
     . have e2:vlS p a= .error 6:=by simp [vlS,hx,hc,hn]
       rw [e2];exact Py p a 6 (by omega) h hk he (Vx p p.cs a c (by omega) hx hc hb (by omega))
theorem do_4 (p:Plt) (a:Act) (h:Ar p=true) (hk:a.k=4):Ct prog 128 [Cy p (.d (AX p.cs)),BZ a] (doV (doS p a)) []:=by
 have hl:=CS h;have hcs:=Dx h;have e:doS p a=mvS p a:=by simp [doS,h,hk]
 rw [e];by_cases he:p.cs=[]
 . have:inA p.cs.length a=false:=by
     cases hx:inA p.cs.length a
     . rfl
     . have:=EQ.1 hx;rw [he] at this;simp at this;omega
   have e2:mvS p a= .error 2:=by simp [mvS,this]
   rw [e2];exact lA p a h hk he
 . cases hx:inA p.cs.length a with
   | false=>
     have e2:mvS p a= .error 2:=by simp [mvS,hx]
     rw [e2];exact LW p a 2 (by omega) h hk he (an p p.cs a (by omega) he hx)
   | true=>
     cases ht:inT p.cs.length a with
     | false=>
       have e2:mvS p a= .error 2:=by simp [mvS,hx,ht]
       rw [e2];exact LW p a 2 (by omega) h hk he (ap p p.cs a (by omega) hx ht)
     | true=>
       obtain ⟨c,hc⟩:=Zm hx;obtain ⟨g,hg⟩:=lE ht;have hb:=hcs c (List.mem_of_getElem? hc);have hbg:=hcs g (List.mem_of_getElem? hg);by_cases hn:a.n<=c.he+c.ai
       . have e2:mvS p a=Hm (mvP p a c g):=by simp [mvS,hx,ht,hc,hg,hn]
         rw [e2];have d:=gi p p.cs a c g (by omega) hx ht hc hg hb hbg hn;have hq:(mvP p a c g).cs.length=p.cs.length:=by simp [mvP]
         exact NP (fun ho=>Ta hq (cT p (mvP p a c g) a (by omega) h hk he hq ho d)) fun ho=>WZ p (mvP p a c g) a (by omega) h hk he hq ho d
       . have e2:mvS p a= .error 6:=by simp [mvS,hx,ht,hc,hg,hn]
         rw [e2];exact LW p a 6 (by omega) h hk he (aq p p.cs a c (by omega) hx ht hc hb (by omega))
theorem do_7 (p:Plt) (a:Act) (h:Ar p=true) (hk:a.k=7) (h1:a.n=1):Ct prog 128 [Cy p (.d (AX p.cs)),BZ a] (doV (doS p a)) []:=by
 have hl:=CS h;have hcs:=Dx h;obtain ⟨_,_,_,_,v1,v2,_⟩:=K9 (K7 h);have e:doS p a=Hm (tkQ p):=by simp [doS,h,hk]
 rw [e];by_cases he:p.cs=[]
 . have e3:tkQ p=p:=by
     unfold tkQ tkP tkH tkA;cases p;simp at he;simp [he]
   rw [e3];refine NP (fun _=>Ta (by rw [he]) ?_) fun ho=>by rw [h] at ho;cases ho
   have:=lC p a h hk h1 he;rw [show AH AP p.cs=[] by rw [he];rfl];exact this
 . have d:=iQ p p.cs a hl he h1 hcs v1 v2
   have hq:(tkQ p).cs.length=p.cs.length:=by simp [tkQ]
   exact NP (fun ho=>Ta hq (cU p (tkQ p) a (by omega) h hk he hq ho d)) fun ho=>Wa p (tkQ p) a (by omega) h hk he hq ho d
theorem fv (l:List Cel) (hl:l.length<=1000000):Ct prog 127 [.d (AX l)] (.d (AX l)) []:=by
 refine Cm.freeze (Ce l hl) ?_;exact B0 (H:=lk [(0,AH AP l)]) (id:=0) Nr (l:=l) (by simp)
def B7 (p:Plt):List Act->Nat->Plt × Nat × Int
 | [],_=>(p,0,0)
 | a::r,i=>match doS p a with
   | .ok q=>B7 q r (i+1)
   | .error e=>(p,i,e)
theorem fw {p q:Plt} (h:Hm p= .ok q):Ar q=true:=by
 unfold Hm at h;split at h
 . cases h;assumption
 . cases h
theorem Zn {p q:Plt} {a:Act} (h:doS p a= .ok q):Ar q=true:=by
 unfold doS vlS mvS at h
 repeat' split at h
 all_goals first | exact fw h | cases h
theorem K8 {p:Plt} {e:Int} (h:Hm p= .error e):e=9:=by
 unfold Hm at h;split at h
 . cases h
 . cases h;rfl
theorem Tb {p:Plt} {a:Act} {e:Int} (h:doS p a= .error e):¬ e=0:=by
 unfold doS vlS mvS at h
 repeat' split at h
 all_goals first | (have:=K8 h;omega) | (cases h;omega)
theorem pq (p:Plt) (a:Act) (h:Ar p=true) (hk:a.k=3\/a.k=4):Ct prog 128 [Cy p (.d (AX p.cs)),BZ a] (doV (doS p a)) []:=by
 rcases hk with hk | hk
 . exact do_3 p a h hk
 . exact do_4 p a h hk
theorem fn60 (p:Plt) (l:List Act) (h:Ar p=true) (hl:l.length<=200) (hk:∀ a∈l,a.k=3\/a.k=4):Ct prog 60 [Cy p (.d (AX p.cs)), .d (JZ l)] (.tup [Cy (B7 p l 0).1 (.d (AX (B7 p l 0).1.cs)),vi (B7 p l 0).2.1,vi (B7 p l 0).2.2]) []:=by
 have hp:=CS h;have d1:=Ef p (by omega);have d2:=fv p.cs (by omega);have g:¬ (l.length:Int) > 200:=by omega
 have g2:¬ (200:Int) < l.length:=by omega
 rw [h] at d1;obtain ⟨R,hR⟩:∃ R,B7 p l 0=R:=⟨_,rfl⟩
 rw [hR];refine CB func60 c60 fun E hE=>?_
 simp [p60];refine CLa d1 ?_;simp [AA,g];refine CLa d2 ?_;simp [AA];refine Al (α:=Nat × Plt) (fun x=>⟨AO [(4, .lp 0 0),(27, .d (JZ l)),(28,vi l.length),(29,vi x.1)],lk [(0,plB x.2 (.d (AX x.2.cs)))],1⟩) (fun x=>x.1<=l.length/\Ar x.2=true/\B7 x.2 (l.drop x.1) x.1=R) (fun x=>l.length - x.1) (0,p) ?_ ?_ ?_
 . exact ⟨by simp,h,by simpa using hR⟩
 . exact WK hE (lk [(0,1048576)])
 . rintro ⟨i,q⟩ ⟨hi,hq,hr⟩
   simp only at hi hq hr;have w:IntKind.wrap .i64 ((i:Int)+1)=((i+1:Nat):Int):=by rw [AD (by omega) (by omega)];rfl
   by_cases hi2:i < l.length
   . obtain ⟨a,ha⟩:=gE hi2
     have d3:=pq q a hq (hk a (List.mem_of_getElem? ha))
     have e1:l.drop i=a::l.drop (i+1):=by
       rw [List.drop_eq_getElem_cons hi2];rw [List.getElem?_eq_getElem hi2] at ha;cases ha;rfl
     have hiI:(i:Int) < l.length:=by omega
     rw [e1,B7] at hr;cases hd:doS q a with
     | ok q2=>
       rw [hd] at d3 hr;simp only [doV] at d3;have hq2:=Zn hd;simp [Tj,AA,hiI,ha];refine CLa d3 ?_;simp [AA,w];refine ⟨i+1,q2,⟨by omega,hq2,hr⟩,by omega,?_⟩;exact WK hE (lk [(0,0)])
     | error e=>
       rw [hd] at d3 hr;simp only [doV] at d3;have he:=Tb hd;simp [Tj,AA,hiI,ha];refine CLa d3 ?_;simp [AA,he];apply RZ;subst hr;simp [results60]
   . have e1:l.drop i=[]:=List.drop_eq_nil_of_le (by omega)
     rw [e1,B7] at hr;subst hr;have hiI:¬ (i:Int) < l.length:=by omega
     simp [Tj,AA,hiI];apply RZ;simp [results60]
theorem tR (p:Plt) (hl:p.cs.length<=1000000):Ct prog 68 [Cy p (.d (AX p.cs))] (Cy p (.ls 0 0 p.cs.length 7)) [(0,AH AP p.cs)]:=by
 by_cases h0:p.cs=[]
 . have e1:AX p.cs= .sl 7 []:=by rw [h0];rfl
   have e2:AH AP p.cs=[]:=by rw [h0];rfl
   have e3:p.cs.length=0:=by rw [h0];rfl
   rw [e1,e2,e3];refine CB func68 c68 fun E hE=>?_
   simp [p68,AA,AM];refine AB.by (lk [(0,5242880)]) ?_;simp [results68]
 . obtain ⟨a,r,e⟩:=List.exists_cons_of_ne_nil h0
   have hmx:(r.length+1)*56<=140737488355328/\r.length+1<=9223372036854775807:=by rw [e] at hl;simp at hl;omega
   have ee:AX p.cs= .sl 7 (AP a::r.map AP):=by rw [e];rfl
   have ef:(r.map (List.map V.d ∘ AP)).flatten=AH AP r:=by simp [AH,List.map_flatten]
   have hcl:(∀ x∈AH AP r,x.isCell=true)=True:=eq_true BU;have eln:p.cs.length=r.length+1:=by rw [e];simp
   have efc:AH AP p.cs=vi a.rm::vi a.he::vi a.ai::vi a.wl::vi a.wh::vi a.lk::vi a.ow::AH AP r:=by rw [e,CQ];rfl
   rw [ee,eln,efc];refine CB func68 c68 fun E hE=>?_
   simp [p68,AA,AM,ef,hcl,hmx];refine AB.by (lk [(0,5242880)]) ?_;simp [results68,hcl]
theorem fn20 (s:Shp) (hl:s.gas.cs.length<=1000000):Ct prog 20 [Cl s (.d (AX s.gas.cs))] (Cl s (.ls 0 0 s.gas.cs.length 7)) [(0,AH AP s.gas.cs)]:=by
 have c:=tR s.gas hl;refine CB func20 c20 fun E hE=>?_
 simp [p20];refine CLa c ?_;simp [AA];refine AB.by (lk [(0,4194304)]) ?_;simp [results20]
theorem fn37 (s:Shp) (h:s.gas.cs.length<=1000000):Ct prog 37 [Cl s (.d (AX s.gas.cs))] (vi (if A6 s then 0 else 52)) []:=by
 have c1:=fn72 s h
 generalize A6 s=b at*
 cases b
 . refine CB func37 c37 fun E hE=>?_
   simp [p37];refine CLa c1 ?_;simp;apply RZ;simp [results37]
 . refine CB func37 c37 fun E hE=>?_
   simp [p37];refine CLa c1 ?_;simp;apply RZ;simp [results37]
def jK (k:Sky):Bool:=decide (24 < k.s.length)||decide (24 < k.w.length)
def grA (k:Sky) (r:Rig) (s:Shp) (l:List Leg):Bool:=jK k||decide (80 < r.reg.length)||decide (20 < s.gas.cs.length)||grL l
theorem l0 {k:Sky} {r:Rig} {s:Shp} {l:List Leg} (h:grA k r s l=false):(k.s.length<=24/\k.w.length<=24)/\r.reg.length<=80/\s.gas.cs.length<=20/\l.length<=30/\∀ x∈l,x.acts.length<=20:=by
 unfold grA jK at h;rw [M6] at h;simp only [Bool.or_eq_false_iff,decide_eq_false_iff_not,List.any_eq_false,decide_eq_true_eq] at h;obtain ⟨⟨⟨⟨h1,h2⟩,h3⟩,h4⟩,⟨h5,h6⟩,_⟩:=h;exact ⟨⟨by omega,by omega⟩,by omega,by omega,by omega,fun x hx=>by have:=h6 x hx;omega⟩
theorem fn29 (k:Sky) (r:Rig) (s:Shp) (l:List Leg):Ct prog 29 [Eu k,Fj r,Cl s (.d (AX s.gas.cs)), .d (Bs l)] (vb (grA k r s l)) []:=by
 have c1:=fn18 k;have c2:=fn84 r;have c3:=fn19 s;have c4:=fn85 l;have e:grA k r s l=((decide (24 < k.s.length)||decide (24 < k.w.length))||decide (80 < r.reg.length)||decide (20 < s.gas.cs.length)||grL l):=rfl;rw [e]
 generalize (decide (24 < k.s.length)||decide (24 < k.w.length))=b1 at*
 generalize decide (80 < r.reg.length)=b2 at*
 generalize decide (20 < s.gas.cs.length)=b3 at*
 generalize grL l=b4 at*
 cases b1
 . cases b2
   . cases b3
     . refine CB func29 c29 fun E hE=>?_
       simp [p29]
       repeat ((first | (refine CLt c1 ?_ ?_;focus (simp;done)) | (refine CLt c2 ?_ ?_;focus (simp;done)) | (refine CLt c3 ?_ ?_;focus (simp;done)) | (refine CLt c4 ?_ ?_;focus (simp;done)));simp)
       apply RZ;simp [results29]
     . refine CB func29 c29 fun E hE=>?_
       simp [p29]
       repeat ((first | (refine CLt c1 ?_ ?_;focus (simp;done)) | (refine CLt c2 ?_ ?_;focus (simp;done)) | (refine CLt c3 ?_ ?_;focus (simp;done)) | (refine CLt c4 ?_ ?_;focus (simp;done)));simp)
       apply RZ;simp [results29]
   . refine CB func29 c29 fun E hE=>?_
     simp [p29]
     repeat ((first | (refine CLt c1 ?_ ?_;focus (simp;done)) | (refine CLt c2 ?_ ?_;focus (simp;done)) | (refine CLt c3 ?_ ?_;focus (simp;done)) | (refine CLt c4 ?_ ?_;focus (simp;done)));simp)
     apply RZ;simp [results29]
 . refine CB func29 c29 fun E hE=>?_
   simp [p29]
   repeat ((first | (refine CLt c1 ?_ ?_;focus (simp;done)) | (refine CLt c2 ?_ ?_;focus (simp;done)) | (refine CLt c3 ?_ ?_;focus (simp;done)) | (refine CLt c4 ?_ ?_;focus (simp;done)));simp)
   apply RZ;simp [results29]
theorem CR {s:Shp} (h:A6 s=true):Ar s.gas=true:=by
 unfold A6 at h;simp only [Bool.and_eq_true] at h;exact h.2
theorem MF {s:Shp} (h:A6 s=true):((0<=s.dry/\s.dry<=1000000000)/\0<=s.bal/\s.bal<=1000000000)/\0<=s.drp/\s.drp<=1000000000000:=by
 unfold A6 at h;simp only [Bool.and_eq_true] at h;have h1:=h.1.1.2;have h2:=h.1.2;simp [rgB] at h1 h2;omega
theorem Kz {l:Leg} (h:BE l=true):l.acts.length<=12/\(∀ a∈l.acts,a.k=3\/a.k=4)/\0<=l.dr/\l.dr<=1000000000:=by
 unfold BE at h;simp only [Bool.and_eq_true,decide_eq_true_eq] at h;have h1:=h.1.1.2;simp [rgB] at h1;refine ⟨h.1.2,fun a ha=>?_,by omega⟩;have:=List.all_eq_true.1 h.2 a ha;simpa [Cb] using this
def Ep (s:Shp) (l:Leg):Except Int Shp:=
 if (B7 s.gas l.acts 0).2.2=0 then
   (if s.bal < l.dr then .error 2 else if 1000000000000 < s.drp+l.dr then .error 9
     else .ok {s with gas:=(B7 s.gas l.acts 0).1,bal:=s.bal - l.dr,drp:=s.drp+l.dr})
 else .error (B7 s.gas l.acts 0).2.2
abbrev shZ:List V:=[vi 0,vi 0,vi 0,vi 0,vi 0,vi 0,vi 0,vi 0,vi 0,vi 0,vi 0,vi 0,vi 0,vi 0,vi 0, .d (.lit (.slice none 0 0)),vi 0,vi 0,vi 0,vi 0,vi 0,vi 0,vi 0,vi 0,vi 0]
def Oy:Except Int Shp->V
 | .ok s=> .tup [Cl s (.d (AX s.gas.cs)),vi 0]
 | .error e=> .tup [.agg shZ,vi e]
theorem pP (s:Shp) (l:Leg) (hs:A6 s=true) (hl:BE l=true):Ct prog 96 [Cl s (.d (AX s.gas.cs)),g7 l] (Oy (Ep s l)) []:=by
 have q1:=Kz hl;have q2:=MF hs;have d1:=fn60 s.gas l.acts (CR hs) (by omega) q1.2.1;have w1:IntKind.wrap .i64 (s.drp+l.dr)=s.drp+l.dr:=AD (by omega) (by omega);have w2:IntKind.wrap .i64 (s.bal - l.dr)=s.bal - l.dr:=AD (by omega) (by omega);unfold Ep
 generalize B7 s.gas l.acts 0=R at*
 obtain ⟨q,i,e⟩:=R;simp only at d1;simp only;by_cases he:e=0
 . rw [if_pos he]
   by_cases h2:s.bal < l.dr
   . rw [if_pos h2]
     simp only [Oy];refine CB func96 c96 fun E hE=>?_
     simp [p96];refine CLa d1 ?_;simp [AA,he,h2];apply RZ;simp [results96]
   . rw [if_neg h2]
     by_cases h3:1000000000000 < s.drp+l.dr
     . rw [if_pos h3]
       simp only [Oy];refine CB func96 c96 fun E hE=>?_
       simp [p96];refine CLa d1 ?_;simp [AA,he,h2,w1,h3];apply RZ;simp [results96]
     . rw [if_neg h3]
       simp only [Oy];refine CB func96 c96 fun E hE=>?_
       simp [p96];refine CLa d1 ?_;simp [AA,he,h2,w1,h3];refine AL [(12,0),(14,0)] (by kernel_rfl) ?_;simp [AA,w1,w2,inC,Nat.testBit];apply RZ;simp [results96]
 . rw [if_neg he]
   simp only [Oy];refine CB func96 c96 fun E hE=>?_
   simp [p96];refine CLa d1 ?_;simp [AA,he];apply RZ;simp [results96]
end Go.Proofs.Tryz
