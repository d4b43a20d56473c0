/- Own lemmas, used by the last text. Conditions: those that each theorem states. -/
import Derived.Below
import Derived.Shelf.Strconv.Itoa3
import Derived.Test.YtmaoncnifomnkaaGreatDoorNaaf
import Derived.Test.YtmaoncnifomnkaaGreatDoorNaag
import Derived.Test.YtmaoncnifomnkaaGreatDoorNaah
import Derived.Test.YtmaoncnifomnkaaGreatDoorNaai
import Derived.Test.YtmaoncnifomnkaaGreatDoorNaaj
import Derived.Test.YtmaoncnifomnkaaGreatDoorNaak
import Derived.Test.YtmaoncnifomnkaaGreatDoorNaal
import Derived.Test.YtmaoncnifomnkaaGreatDoorProg
set_option maxRecDepth 200000
set_option maxHeartbeats 8000000
namespace Go.Proofs.Tryz
open Go.Psl
open Go.Air
theorem fn55 (l:List Lev) (a b:Int) (hl:l.length<=1000000):Ct prog 55 [.d (BF l),vsp a b] (atV (atA l a b)) []:=by
 have c1:=qG l hl;cases hk:GC l
 . rw [hk] at c1
   have e:atA l a b=(⟨0,0,0,0⟩,20):=by unfold atA;rw [hk];rfl
   rw [e];refine CB func55 c55 fun E hE=>?_
   simp [p55];refine CLa c1 ?_;simp [AA];apply RZ;simp [results55]
 rw [hk] at c1;have h:=B8.1 hk;have hlen:=h.len;have c2:=Tc (a,b);cases hs:okS (a,b)
 . rw [hs] at c2
   have e:atA l a b=(⟨0,0,0,0⟩,10):=by unfold atA;rw [hk,hs];rfl
   rw [e];refine CB func55 c55 fun E hE=>?_
   simp [p55];refine CLa c1 ?_;simp;refine CLa c2 ?_;simp [AA];apply RZ;simp [results55]
 rw [hs] at c2;have hab:=(CT.1 hs).1;simp only at hab;obtain ⟨x,hx⟩:∃ x,l[0]?= some x:=⟨_,List.getElem?_eq_getElem (by omega)⟩
 obtain ⟨n,hn⟩:∃ n,n=l.length-1:=⟨_,rfl⟩
 obtain ⟨y,hy⟩:∃ y,l[n]?= some y:=⟨_,List.getElem?_eq_getElem (by omega)⟩
 have hw:IntKind.wrap .i64 ((l.length:Int)-1)=(n:Int):=by rw [AD (by omega) (by omega)];omega
 have hI0:(0:Int)<l.length:=by omega
 have hI:(n:Int)<l.length:=by omega
 have ea:atA l a b=if rgB x.h y.h [a,b] then (if (D3 l).2.2=0 then (WH (tmS (knT l)) (swp l) a b,0) else (⟨0,0,0,0⟩,(D3 l).2.2)) else (⟨0,0,0,0⟩,2):=by
   unfold atA;rw [hk,hs,hx,<-hn,hy];rfl
 by_cases g1:a<x.h
 . have hr:rgB x.h y.h [a,b]=false:=by
     cases e:rgB x.h y.h [a,b] with
     | false=>rfl
     | true=>have:=Td.1 e;omega
   rw [hr] at ea;rw [ea];refine CB func55 c55 fun E hE=>?_
   simp [p55];refine CLa c1 ?_;simp;refine CLa c2 ?_;simp [AA,hx,g1,inC,Nat.testBit];apply RZ;simp [results55]
 by_cases g2:y.h<b
 . have hr:rgB x.h y.h [a,b]=false:=by
     cases e:rgB x.h y.h [a,b] with
     | false=>rfl
     | true=>have:=Td.1 e;omega
   rw [hr] at ea;rw [ea];refine CB func55 c55 fun E hE=>?_
   simp [p55];refine CLa c1 ?_;simp;refine CLa c2 ?_;simp [AA,hx,hy,hw,g1,g2,inC,Nat.testBit];apply RZ;simp [results55]
 have hr:rgB x.h y.h [a,b]=true:=Td.2 (by omega);rw [hr,if_pos rfl] at ea;have c3:=Iu l hl;by_cases hz:(D3 l).2.2=0
 . rw [if_pos hz] at ea
   rw [ea];have hf:=(IQ h).1 hz;have hS:D3 l=(swp l,0,0):=by unfold D3;rw [hk,if_pos rfl,if_neg hf]
   rw [hS] at c3;unfold gz at c3;simp only at c3;have hso:=Yu h hf
   have hins:∀ z,(z=a\/z=b)->E8 l z:=fun z hzz=>by
     refine ⟨fun k hk'=>?_,fun k hk'=>?_⟩
     . rw [hx] at hk';cases hk';rcases hzz with rfl | rfl<;>omega
     . rw [<-hn,hy] at hk';cases hk';rcases hzz with rfl | rfl<;>omega
   have c5:=AaZ (swp l) b hso (TG (hins b (Or.inr rfl)));have c6:=AaZ (swp l) a hso (TG (hins a (Or.inl rfl)));have c8:=Tw l a b hl (by intro e;rw [e] at hlen;simp at hlen) hab;rw [TF] at c5 c6;refine CB func55 c55 fun E hE=>?_
   simp [p55];refine CLa c1 ?_;simp;refine CLa c2 ?_;simp [hx,hy,hw,g1,g2,inC,Nat.testBit];refine CLa c3 ?_;simp [inC,Nat.testBit];refine CLa c5 ?_;simp [inC,Nat.testBit];refine CLa c6 ?_;simp [AA,inC,Nat.testBit];refine CLa c8 ?_;simp [AA];apply RZ;simp [results55,WH]
 . rw [if_neg hz] at ea
   rw [ea];unfold gz at c3
   generalize (D3 l).2.2=er at*
   generalize (D3 l).2.1=ei at*
   generalize (D3 l).1=es at*
   refine CB func55 c55 fun E hE=>?_
   simp [p55];refine CLa c1 ?_;simp;refine CLa c2 ?_;simp [hx,hy,hw,g1,g2,inC,Nat.testBit];refine CLa c3 ?_;simp [AA,hz];apply RZ;simp [results55]
theorem jT (l:List Gal) (hl:l.length<=1000000):Ct prog 256 [.d (cT l)] (vb (Dr l)) []:=by
 have c1:=AV8 (l.length:Int) 1 16;cases hn:rgB 1 16 [(l.length:Int)]
 . rw [hn] at c1
   have hbad:Dr l=false:=by unfold Dr;simp [hn]
   refine CB func256 Ack fun E hE=>?_
   simp [p256];refine CLa c1 ?_;simp;apply RZ;simp [results256,hbad]
 rw [hn] at c1;refine CB func256 Ack fun E hE=>?_
 simp [p256];refine CLa c1 ?_;simp;refine Al (α:=Nat) (fun i=>⟨AO [(0, .d (cT l)),(3,vi i)],lk [],0⟩) (fun i=>i<=l.length/\∀ j,j<i->AAU l j=true) (fun i=>l.length-i) 0 ?_ ?_ ?_
 . exact ⟨by omega,fun j hj=>by omega⟩
 . exact WK hE (lk [])
 . rintro i ⟨hi,hg⟩
   by_cases h:i<l.length
   . obtain ⟨x,hx⟩:=gE h
     have hz:=@wz i (by omega);have hI:(i:Int)<l.length:=by omega
     have c2:=AV8 x.h (-500) 9000;have c3:=AV8 x.g 0 500;have c4:=AXa x.xl x.xh (-1000) 1000;have c5:=AXa x.yl x.yh (-1000) 1000;have eg:AAU l i=(rgB (-500) 9000 [x.h]&&(if i=0 then true else match l[i-1]? with | some y=>decide (y.h<x.h) | none=>true)&&rgB 0 500 [x.g]&&spB (-1000) 1000 x.xl x.xh&&spB (-1000) 1000 x.yl x.yh):=by unfold AAU;simp only [hx];rfl
     have fin:AAU l i=true->∀ j,j<i+1->AAU l j=true:=fun he j hj=>by
       by_cases e:j=i
       . rw [e];exact he
       . exact hg j (by omega)
     generalize rgB (-500) 9000 [x.h]=b1 at*
     generalize rgB 0 500 [x.g]=b2 at*
     generalize spB (-1000) 1000 x.xl x.xh=b3 at*
     generalize spB (-1000) 1000 x.yl x.yh=b4 at*
     cases b1
     . have hbad:=Fw h (by rw [eg];rfl)
       simp [U2,hI,hx,AA,inC,Nat.testBit];refine CLa c2 ?_;simp;apply RZ;simp [results256,hbad]
     . by_cases h0:i=0
       . rw [if_pos h0] at eg
         have hI0:¬ 0<i:=by omega
         cases b3
         . have hbad:=Fw h (by rw [eg];simp)
           simp [U2,hI,hx,AA,inC,Nat.testBit]
           repeat ((first | (refine CLt c2 ?_ ?_;focus (simp;done)) | (refine CLt c4 ?_ ?_;focus (simp;done)) | (refine CLt c5 ?_ ?_;focus (simp;done)) | (refine CLt c3 ?_ ?_;focus (simp;done)));simp [hI0])
           apply RZ;simp [results256,hbad]
         cases b4
         . have hbad:=Fw h (by rw [eg];simp)
           simp [U2,hI,hx,AA,inC,Nat.testBit]
           repeat ((first | (refine CLt c2 ?_ ?_;focus (simp;done)) | (refine CLt c4 ?_ ?_;focus (simp;done)) | (refine CLt c5 ?_ ?_;focus (simp;done)) | (refine CLt c3 ?_ ?_;focus (simp;done)));simp [hI0])
           apply RZ;simp [results256,hbad]
         cases b2
         . have hbad:=Fw h (by rw [eg];simp)
           simp [U2,hI,hx,AA,inC,Nat.testBit]
           repeat ((first | (refine CLt c2 ?_ ?_;focus (simp;done)) | (refine CLt c4 ?_ ?_;focus (simp;done)) | (refine CLt c5 ?_ ?_;focus (simp;done)) | (refine CLt c3 ?_ ?_;focus (simp;done)));simp [hI0])
           apply RZ;simp [results256,hbad]
         . have hok:=fin (by rw [eg];rfl)
           simp [U2,hI,hx,AA,inC,Nat.testBit]
           repeat ((first | (refine CLt c2 ?_ ?_;focus (simp;done)) | (refine CLt c4 ?_ ?_;focus (simp;done)) | (refine CLt c5 ?_ ?_;focus (simp;done)) | (refine CLt c3 ?_ ?_;focus (simp;done)));simp [hI0,hz])
           refine ⟨i+1,⟨by omega,hok⟩,by omega,?_⟩;exact WK hE (lk [])
       . obtain ⟨y,hy⟩:∃ y,l[i-1]?= some y:=⟨_,List.getElem?_eq_getElem (by omega)⟩
         have hw:IntKind.wrap .i64 ((i:Int)-1)=((i-1:Nat):Int):=by rw [AD (by omega) (by omega)];omega
         have hI0:0<i:=by omega
         rw [if_neg h0,hy] at eg;simp only at eg;by_cases hc:x.h<=y.h
         . have hbad:=Fw h (by rw [eg,decide_eq_false (by omega)];simp)
           simp [U2,hI,hx,AA,inC,Nat.testBit];refine CLa c2 ?_;simp [hI0,hw,hy,hc,inC,Nat.testBit];apply RZ;simp [results256,hbad]
         . rw [decide_eq_true (by omega:y.h<x.h)] at eg
           cases b3
           . have hbad:=Fw h (by rw [eg];simp)
             simp [U2,hI,hx,AA,inC,Nat.testBit]
             repeat ((first | (refine CLt c2 ?_ ?_;focus (simp;done)) | (refine CLt c4 ?_ ?_;focus (simp;done)) | (refine CLt c5 ?_ ?_;focus (simp;done)) | (refine CLt c3 ?_ ?_;focus (simp;done)));simp [inC,Nat.testBit,hI0,hw,hy,hc])
             apply RZ;simp [results256,hbad]
           cases b4
           . have hbad:=Fw h (by rw [eg];simp)
             simp [U2,hI,hx,AA,inC,Nat.testBit]
             repeat ((first | (refine CLt c2 ?_ ?_;focus (simp;done)) | (refine CLt c4 ?_ ?_;focus (simp;done)) | (refine CLt c5 ?_ ?_;focus (simp;done)) | (refine CLt c3 ?_ ?_;focus (simp;done)));simp [inC,Nat.testBit,hI0,hw,hy,hc])
             apply RZ;simp [results256,hbad]
           cases b2
           . have hbad:=Fw h (by rw [eg];simp)
             simp [U2,hI,hx,AA,inC,Nat.testBit]
             repeat ((first | (refine CLt c2 ?_ ?_;focus (simp;done)) | (refine CLt c4 ?_ ?_;focus (simp;done)) | (refine CLt c5 ?_ ?_;focus (simp;done)) | (refine CLt c3 ?_ ?_;focus (simp;done)));simp [inC,Nat.testBit,hI0,hw,hy,hc])
             apply RZ;simp [results256,hbad]
           . have hok:=fin (by rw [eg];rfl)
             simp [U2,hI,hx,AA,inC,Nat.testBit]
             repeat ((first | (refine CLt c2 ?_ ?_;focus (simp;done)) | (refine CLt c4 ?_ ?_;focus (simp;done)) | (refine CLt c5 ?_ ?_;focus (simp;done)) | (refine CLt c3 ?_ ?_;focus (simp;done)));simp [inC,Nat.testBit,hI0,hw,hy,hc,hz])
             refine ⟨i+1,⟨by omega,hok⟩,by omega,?_⟩;exact WK hE (lk [])
   . have e:i=l.length:=by omega
     have hnn:¬ (i:Int)<l.length:=by omega
     have hall:Dr l=true:=by
       unfold Dr;rw [hn,Bool.true_and,List.all_eq_true];intro j hj
       exact hg j (by
        have:j<l.length:=by simpa using hj
        omega)
     simp [U2,hnn];apply RZ;simp [results256,hall]
theorem qw (k:Sky) (h1:k.s.length<=1000000) (h2:k.w.length<=1000000):Ct prog 190 [Eu k] (vb (BV k)) []:=by
 have c1:=Iu k.s h1;have c2:=jT k.w h2;have e:BV k=(decide ((D3 k.s).2.2=0)&&Dr k.w):=rfl;unfold gz at c1
 generalize (D3 k.s).2.2=er at*
 by_cases h:er=0
 . rw [decide_eq_true h,Bool.true_and] at e
   refine CB func190 Acd fun E hE=>?_
   simp [p190];refine CLa c1 ?_;simp [h];refine CLa c2 ?_;simp;apply RZ;simp [results190,e]
 . rw [decide_eq_false h,Bool.false_and] at e
   refine CB func190 Acd fun E hE=>?_
   simp [p190];refine CLa c1 ?_;simp [h];apply RZ;simp [results190,e]
theorem Aaz (l:List Cel) (hl:l.length<=1000000):Ct prog 141 [.d (AX l), .d (AX l)] (vb true) []:=by
 refine CB func141 c141 fun E hE=>?_
 simp [p141];refine Al (α:=Nat) (fun i=>⟨AO [(0, .d (AX l)),(1, .d (AX l)),(5,vi i)],lk [],0⟩) (fun i=>i<=l.length) (fun i=>l.length-i) 0 ?_ ?_ ?_
 . omega
 . exact WK hE (lk [])
 . intro i hi
   by_cases h:i<l.length
   . obtain ⟨x,hx⟩:=gE h
     have hz:=@wz i (by omega);have hI:(i:Int)<l.length:=by omega
     simp [sS,hI,hx,hz];refine ⟨i+1,by omega,by omega,?_⟩;exact WK hE (lk [])
   . have hn:¬ (i:Int)<l.length:=by omega
     simp [sS,hn];apply RZ;simp [results141]
theorem Ab6 (p:Plt) (hl:p.cs.length<=1000000):Ct prog 68 [AWy p (.d (AX p.cs)),AWy p (.d (AX p.cs))] (vb true) []:=by
 have c:=Aaz p.cs hl;refine CB func68 c68 fun E hE=>?_
 simp [p68];refine CLa c ?_;simp;apply RZ;simp [results68]
theorem Ab7 (s:Shp) (hl:s.gas.cs.length<=1000000):Ct prog 29 [AW3 s (.d (AX s.gas.cs)),AW3 s (.d (AX s.gas.cs))] (vb true) []:=by
 have c:=Ab6 s.gas hl;refine CB func29 c29 fun E hE=>?_
 simp [p29];refine CLa c ?_;simp;apply RZ;simp [results29]
theorem fn13 (s:Shp):Ct prog 13 [AW3 s (.d (AX s.gas.cs))] (vb (decide (20<s.gas.cs.length))) []:=by
 have e:decide ((20:Int)<s.gas.cs.length)=decide (20<s.gas.cs.length):=decide_eq_decide.2 (by omega);refine CB func13 c13 fun E hE=>?_
 simp [p13];apply RZ;simp [results13,e]
theorem fn12 (k:Sky):Ct prog 12 [Eu k] (vb (decide (24<k.s.length)||decide (24<k.w.length))) []:=by
 have e:decide ((24:Int)<k.w.length)=decide (24<k.w.length):=decide_eq_decide.2 (by omega);by_cases h:24<k.s.length
 . have hI:(24:Int)<k.s.length:=by omega
   refine CB func12 c12 fun E hE=>?_
   simp [p12,hI];apply RZ;simp [results12,h]
 . have hI:¬ (24:Int)<k.s.length:=by omega
   refine CB func12 c12 fun E hE=>?_
   simp [p12,hI];apply RZ;simp [results12,h,e]
theorem fn35 (p:Plt) (hl:p.cs.length<=1000000):Ct prog 35 [AWy p (.d (AX p.cs))] (AWy p (.ls 0 0 p.cs.length 7)) [(0,AH AP p.cs)]:=by
 by_cases h0:p.cs=[]
 . have e1:AX p.cs= .sl 7 []:=by rw [h0];rfl
   have e2:AH AP p.cs=[]:=by rw [h0];rfl
   have e3:p.cs.length=0:=by rw [h0];rfl
   rw [e1,e2,e3];refine CB func35 c35 fun E hE=>?_
   simp [p35,AA,AM];refine AB.by (lk [(0,5242880)]) ?_;simp [results35]
 . obtain ⟨a,r,e⟩:=List.exists_cons_of_ne_nil h0
   have hmx:(r.length+1)*56<=140737488355328/\r.length+1<=9223372036854775807:=by rw [e] at hl;simp at hl;omega
   have ee:AX p.cs= .sl 7 (AP a::r.map AP):=by rw [e];rfl
   have ef:(r.map (List.map V.d ∘ AP)).flatten=AH AP r:=by simp [AH,List.map_flatten]
   have hcl:(∀ x∈AH AP r,x.isCell=true)=True:=eq_true BU;have eln:p.cs.length=r.length+1:=by rw [e];simp
   have efc:AH AP p.cs=vi a.rm::vi a.he::vi a.ai::vi a.wl::vi a.wh::vi a.lk::vi a.ow::AH AP r:=by rw [e,CQ];rfl
   rw [ee,eln,efc];refine CB func35 c35 fun E hE=>?_
   simp [p35,AA,AM,ef,hmx];refine AB.by (lk [(0,5242880)]) ?_;simp [results35]
theorem fn18 (s:Shp) (hl:s.gas.cs.length<=1000000):Ct prog 18 [AW3 s (.d (AX s.gas.cs))] (AW3 s (.ls 0 0 s.gas.cs.length 7)) [(0,AH AP s.gas.cs)]:=by
 have c:=fn35 s.gas hl;refine CB func18 c18 fun E hE=>?_
 simp [p18];refine CLa c ?_;simp [AA];refine AB.by (lk [(0,4194304)]) ?_;simp [results18]
theorem jA (k:Sky) (h1:k.s.length<=1000000) (h2:k.w.length<=1000000):Ct prog 108 [Eu k] (vi (if BV k then 0 else 50)) []:=by
 have c1:=qw k h1 h2
 generalize BV k=b at*
 cases b
 . refine CB func108 AOf fun E hE=>?_
   simp [p108];refine CLa c1 ?_;simp;apply RZ;simp [results108]
 . refine CB func108 AOf fun E hE=>?_
   simp [p108];refine CLa c1 ?_;simp;apply RZ;simp [results108]
theorem pg (s:Shp) (h:s.gas.cs.length<=1000000):Ct prog 107 [AW3 s (.d (AX s.gas.cs))] (vi (if A6 s then 0 else 52)) []:=by
 have c1:=Tx s h
 generalize A6 s=b at*
 cases b
 . refine CB func107 AP9 fun E hE=>?_
   simp [p107];refine CLa c1 ?_;simp;apply RZ;simp [results107]
 . refine CB func107 AP9 fun E hE=>?_
   simp [p107];refine CLa c1 ?_;simp;apply RZ;simp [results107]
open Go.Log (Ldp Lim Etr By DF F7)
abbrev plB (n:Int):Bool:=DF n (-20000) 20000
def rk (l:Lin):Bool:=A6 l.sh&&BV l.sk&&CF l.rg&&decide (dv l.po l.be=0)&&na l.wa l.wb l.wc l.wd&&decide (F7 l.lm=0)&&decide (GV l.fr=0)
def pk (l:Lin):Bool:=rk l&&decide (l.ce.length=l.sh.gas.cs.length)&&decide (l.cb.length<=4)&&l.ce.all plB&&l.cb.all (fun x=>plB x.at'&&td x)&&plB l.da&&plB l.fa&&plB l.ta&&plB l.ba&&AVb l&&decide (l.pe*Ru l.cb<=l.sh.dry)
structure SzL (l:Lin):Prop where
 cs:l.sh.gas.cs.length<=1000000
 s:l.sk.s.length<=1000000
 w:l.sk.w.length<=1000000
 rg:l.rg.reg.length<=1000000
 ax:l.po.ax.length<=1000000
 pu:l.po.pu.length<=1000000
 ce:l.ce.length<=1000000
 cb:l.cb.length<=1000000
 lm:l.lm.length<=1000000
 fr:l.fr.length<=1000000
 be:0<=l.be.sh/\l.be.sh<256
theorem rx {x:Cab} (h:td x=true):0<=x.pe/\x.pe<=100:=by
 simp [td,DF] at h;omega
theorem AYr {l:Lin} (hl:l.cb.length<=4) (ho:∀ x∈l.cb,0<=x.pe/\x.pe<=100) (hp:DF l.pe 0 1000=true):IntKind.wrap .i64 (l.pe*Ru l.cb)=l.pe*Ru l.cb:=by
 have h:=AWj ho 4 hl;simp [DF] at hp;have h1:=Int.mul_nonneg hp.1 h.1;have h2:l.pe*Ru l.cb<=1000*400:=Int.mul_le_mul hp.2 (by omega) (by omega) (by omega);exact AD (by omega) (by omega)
theorem fn53 (l:Lin) (hs:SzL l):Ct prog 53 [Re l] (vb (pk l)) []:=by
 obtain ⟨s1,s2,s3,s4,s5,s6,s7,s8,s9,s10,s11⟩:=hs;have c1:=pg l.sh s1;have c2:=jA l.sk s2 s3;have c3:=jU l.rg (by omega);have c4:=pi l.po l.be s5 s6 s11;have c5:=pj l.wa l.wb l.wc l.wd;have c6:=Bq l.lm s9;have c7:=rK l.fr s10;have u:=pD;by_cases hv:rk l=true/\l.ce.length=l.sh.gas.cs.length/\l.cb.length<=4
 case neg=>
   have e:pk l=false:=by
     unfold pk;simp;intro h1 h2 h3;exact absurd ⟨h1,h2,h3⟩ hv
   rw [e];unfold rk at hv;exact CW func53 c53
 obtain ⟨v1,v2,v3⟩:=hv;have e:pk l=(l.ce.all plB&&l.cb.all (fun x=>plB x.at'&&td x)&&plB l.da&&plB l.fa&&plB l.ta&&plB l.ba&&AVb l&&decide (l.pe*Ru l.cb<=l.sh.dry)):=by simp [pk,v1,v2,v3]
 rw [e];unfold rk at v1;simp only [Bool.and_eq_true,decide_eq_true_eq] at v1;obtain ⟨⟨⟨⟨⟨⟨v11,v12⟩,v13⟩,v14⟩,v15⟩,v16⟩,v17⟩:=v1;have v2':(l.ce.length:Int)=l.sh.gas.cs.length:=by omega
 have v3':¬ (4:Int)<l.cb.length:=by omega
 refine CW func53 c53 fun E hE=>?_
 refine Wp ?_;clear v2 v2';refine AWf l.ce plB (fun i=>⟨AO [(1, .lp 0 0),(3,vi i)],lk [(0,TR l)],1⟩) (by omega) (WkA hE WA) (fun i x hx hI hz hb=>Wk) fun k1=>?_
 refine Wp ?_;refine AWf l.cb (fun x=>plB x.at'&&td x) (fun i=>⟨AO [(1, .lp 0 0),(4,vi i)],lk [(0,TR l)],1⟩) (by omega) (WkA hE WA) (fun i x hx hI hz hb=>?_) fun k2=>?_
 . have d1:=pD x.at'
   have c1:=TI x.st 0 100;have c2:=TI x.pe 0 x.st;unfold td at*;exact Wk
 have d1:=fE l v3 fun x hx=>rx (by have:=List.all_eq_true.1 k2 x hx;simp at this;exact this.2)
 have c1:=TI l.fu 0 1000000000;have c2:=TI l.wr 0 1000000000;have c3:=TI l.pe 0 1000;have c4:=TI l.gr 0 100000;have c5:=TI l.re 0 10000000;have c6:=TI l.to (-500) 9000;have c7:=TI l.ti 0 1000000;by_cases hp:DF l.pe 0 1000=true
 . have w:=AYr v3 (fun x hx=>rx (by have:=List.all_eq_true.1 k2 x hx;simp at this;exact this.2)) hp
   unfold AVb;exact Wk
 . unfold AVb
   exact Wk
open Go.Log
theorem pS (i:Nat) (b:UInt8):Ct prog 167 [vi i,vu9 b] (vb (shipF i b)) []:=by
 have c:=nu i b;cases h:upB b
 . rw [h] at c
   by_cases h0:0<i
   . by_cases h1:48<=(b.toNat:Int)
     . by_cases h2:(b.toNat:Int)<=57
       . refine CB func167 ASh fun E hE=>?_
         simp [p167];refine CLa c ?_;simp [h0,h1,h2];apply RZ;simp [results167,shipF,h,h0,dgB,h1,h2]
       . refine CB func167 ASh fun E hE=>?_
         simp [p167];refine CLa c ?_;simp [h0,h1,h2];apply RZ;simp [results167,shipF,h,h0,dgB,h1,h2]
     . refine CB func167 ASh fun E hE=>?_
       simp [p167];refine CLa c ?_;simp [h0,h1];apply RZ;simp [results167,shipF,h,h0,dgB,h1]
   . refine CB func167 ASh fun E hE=>?_
     simp [p167];refine CLa c ?_;simp [h0];apply RZ;simp [results167,shipF,h,h0]
 . rw [h] at c
   refine CB func167 ASh fun E hE=>?_
   simp [p167];refine CLa c ?_;simp;apply RZ;simp [results167,shipF,h]
theorem fn93 (s:By) (hl:s.length<=1000000):Ct prog 93 [vS s] (vb (AVf s)) []:=by
 refine CB func93 c93 fun E hE=>?_
 simp [p93];refine CLa (rE s 8 167 shipF hl fun i b _=>pS i b) ?_;simp;apply RZ;simp [results93,AVf]
theorem qq (n:Int):Ct prog 170 [vi n] (vb (!AVz n)) []:=by
 refine CB func170 c170 fun E hE=>?_
 simp [p170];refine CLa (yF n (-1000000000) 1000000000) ?_;simp;apply RZ;simp [results170,AVz]
theorem ASW (i:Int) (b:UInt8):Ct prog 172 [vi i,vu9 b] (vb (prB b)) []:=by
 by_cases h1:32<=(b.toNat:Int)
 . by_cases h2:(b.toNat:Int)<=126
   . refine CB func172 Aa5 fun E hE=>?_
     simp [p172,h1,h2];apply RZ;simp [results172,prB,h1,h2]
   . refine CB func172 Aa5 fun E hE=>?_
     simp [p172,h1,h2];apply RZ;simp [results172,prB,h1,h2]
 . refine CB func172 Aa5 fun E hE=>?_
   simp [p172,h1];apply RZ;simp [results172,prB,h1]
theorem q9 (s:By) (c:UInt8) (hl:s.length<=1000000):Ct prog 242 [vS s,vu9 c] (vS (Rv c s)) []:=by
 refine CB func242 c242 fun E hE=>?_
 simp [p242];refine Al (α:=By) (fun r=>⟨AO [(0,vS r),(1,vu9 c)],lk [],0⟩) (fun r=>Rv c r=Rv c s/\r.length<=1000000) (fun r=>r.length) s ?_ ?_ ?_
 . exact ⟨rfl,hl⟩
 . exact WK hE (lk [])
 . rintro r ⟨hr,hrl⟩
   cases r with
   | nil=>
     simp [AWZ];apply RZ;simp [results242,<-hr,Rv]
   | cons b r=>
     have h0:(0:Int)<(r.length:Int)+1:=by omega
     by_cases hb:b=c
     . subst hb
       have h1:(1:Int)<=(r.length:Int)+1:=by omega
       simp [AWZ,h0,h1];refine ⟨r,⟨by rw [<-hr];simp [Rv],by simp at hrl;omega⟩,by simp,?_⟩;exact WK hE (lk [])
     . have hn:¬ (b.toNat:Int)=c.toNat:=fun e=>hb (UInt8.toNat_inj.1 (by omega))
       simp [AWZ,h0,hn];apply RZ;simp [results242,<-hr,Rv,hb]
end Go.Proofs.Tryz
namespace Go.Psl
variable {P:Program} {Γ:Tys} {eqs:Eqs} {E:Ent}
def rid (ks:List Nat) (i:Nat):Option Nat:=if i∈ks then some i else none
structure A4 (ks:List Nat) (L:List (Nat × List V)):Prop where
 names:L.map (·.1)=ks
 nd:ks.Nodup
 cells:∀ p∈L,p.2≠[]/\Bv p.2/\∀ c∈p.2,WC (rid ks) c c
theorem ul {ks:List Nat} {i:Nat} (h:i∈ks):rid ks i=some i:=by simp [rid,h]
theorem AF8:∀ {L:List (Nat × List V)},(L.map (·.1)).Nodup->∀ p∈L,lk L p.1=some p.2
 | [],_,p,hp=>by simp at hp
 | q::r,hn,p,hp=>by
   simp only [List.map_cons,List.nodup_cons] at hn;simp only [lk];rcases List.mem_cons.1 hp with rfl | hp
   . simp
   . have:p.1≠q.1:=fun e=>hn.1 (e ▸ List.mem_map.2 ⟨p,hp,rfl⟩)
     rw [if_neg this];exact AF8 hn.2 p hp
section
variable {ks:List Nat} {L L1:List (Nat × List V)}
theorem A4.lk (h:A4 ks L) {p:Nat × List V} (hp:p∈L):Go.Psl.lk L p.1=some p.2:=AF8 (by rw [h.names];exact h.nd) p hp
theorem A4.mem (h:A4 ks L) {p:Nat × List V} (hp:p∈L):p.1∈ks:=by rw [<-h.names];exact List.mem_map.2 ⟨p,hp,rfl⟩
theorem A4.isIn (h:A4 ks L) {i:Nat}:(Go.Psl.lk L i).isSome=true↔i∈ks:=by
 constructor
 . intro hi
   obtain ⟨x,hx⟩:=Option.isSome_iff_exists.1 hi;exact h.mem (p:=(i,x)) (B4 hx)
 . intro hi
   rw [<-h.names] at hi;obtain ⟨p,hp,rfl⟩:=List.mem_map.1 hi;rw [h.lk hp];rfl
theorem Dz {i j:Nat} (h:rid ks i=some j):i∈ks/\j=i:=by
 unfold rid at h;split at h
 . cases h;exact ⟨by assumption,rfl⟩
 . cases h
theorem FH {c:V} (h:W0 (rid ks) c c):A0 (·∈ks) AR c/\∀ b,DR (sg ks b) c=c:=by
 cases c with
 | junk=>exact ⟨trivial,fun _=>rfl⟩
 | d x=>exact ⟨trivial,fun _=>rfl⟩
 | lp i o=>
   obtain ⟨j,hj,_⟩:=h;have hi:=(Dz hj).1;exact ⟨hi,fun b=>by simp [DR,sg,hi]⟩
 | ls i o l z=>
   unfold W0 at h;simp only at h;split at h
   . rename_i j hj
     have hi:=(Dz hj).1;exact ⟨hi,fun b=>by simp [DR,sg,hi]⟩
   . cases h.2
 | yl i=>
   obtain ⟨j,hj,_⟩:=h;have hi:=(Dz hj).1;exact ⟨hi,fun b=>by simp [DR,sg,hi]⟩
 | lr=>exact False.elim h
 | cl f cs=>exact ⟨trivial,fun _=>rfl⟩
 | agg cs=>exact ⟨trivial,fun _=>rfl⟩
 | tup cs=>exact ⟨trivial,fun _=>rfl⟩
theorem Et {α:Type} {f:α->α}:∀ {l:List α},(∀ x∈l,f x=x)->l.map f=l
 | [],_=>rfl
 | a::l,h=>by rw [List.map_cons,h a (by simp),Et fun x hx=>h x (List.mem_cons_of_mem _ hx)]
theorem GY {α:Type} {R:α->α->Prop}:∀ {l:List α},AJ R l l->∀ x∈l,R x x
 | [],_,_,hx=>by simp at hx
 | a::l,h,x,hx=>by
   rcases List.mem_cons.1 hx with rfl | hx
   . exact h.1
   . exact GY h.2 x hx
theorem MM {α:Type} {R:α->α->Prop}:∀ {l:List α},(∀ x∈l,R x x)->AJ R l l
 | [],_=>trivial
 | a::l,h=>⟨h a (by simp),MM fun x hx=>h x (List.mem_cons_of_mem _ hx)⟩
theorem FI {c:V} (h:A0 (·∈ks) AR c) (b:Nat):DR (sg ks b) c=c:=by
 cases c<;>first | rfl | (have h2:_∈ks:=h;simp [DR,sg,h2]) | exact False.elim h
theorem FJ {c:V} (h:A1 (·∈ks) AR c) (b:Nat):DS (sg ks b) c=c:=by
 cases c with
 | cl f cs=>simp only [DS];rw [Et fun x hx=>FI (h x hx) b]
 | junk=>exact FI (ks:=ks) (c:= .junk) h b
 | d x=>exact FI (ks:=ks) (c:= .d x) h b
 | lp i o=>exact FI (ks:=ks) (c:= .lp i o) h b
 | ls i o l z=>exact FI (ks:=ks) (c:= .ls i o l z) h b
 | yl i=>exact FI (ks:=ks) (c:= .yl i) h b
 | lr f n p pa pb j=>exact FI (ks:=ks) (c:= .lr f n p pa pb j) h b
 | agg cs=>exact FI (ks:=ks) (c:= .agg cs) h b
 | tup cs=>exact FI (ks:=ks) (c:= .tup cs) h b
theorem ALq {c:V} (h:A2 (·∈ks) AR c) (b:Nat):HR (sg ks b) c=c:=by
 cases c with
 | agg cs=>simp only [HR];rw [Et fun x hx=>FJ (h x hx) b]
 | junk=>exact FJ (ks:=ks) (c:= .junk) h b
 | d x=>exact FJ (ks:=ks) (c:= .d x) h b
 | lp i o=>exact FJ (ks:=ks) (c:= .lp i o) h b
 | ls i o l z=>exact FJ (ks:=ks) (c:= .ls i o l z) h b
 | yl i=>exact FJ (ks:=ks) (c:= .yl i) h b
 | lr f n p pa pb j=>exact FJ (ks:=ks) (c:= .lr f n p pa pb j) h b
 | cl f cs=>exact FJ (ks:=ks) (c:= .cl f cs) h b
 | tup cs=>exact FJ (ks:=ks) (c:= .tup cs) h b
theorem R9 {c:V} (h:AV (·∈ks) AR c) (b:Nat):ren (sg ks b) c=c:=by
 cases c with
 | tup cs=>simp only [ren];rw [Et fun x hx=>ALq (h x hx) b]
 | junk=>exact ALq (ks:=ks) (c:= .junk) h b
 | d x=>exact ALq (ks:=ks) (c:= .d x) h b
 | lp i o=>exact ALq (ks:=ks) (c:= .lp i o) h b
 | ls i o l z=>exact ALq (ks:=ks) (c:= .ls i o l z) h b
 | yl i=>exact ALq (ks:=ks) (c:= .yl i) h b
 | lr f n p pa pb j=>exact ALq (ks:=ks) (c:= .lr f n p pa pb j) h b
 | cl f cs=>exact ALq (ks:=ks) (c:= .cl f cs) h b
 | agg cs=>exact ALq (ks:=ks) (c:= .agg cs) h b
theorem bB {c:V} (h:WC (rid ks) c c):AC (·∈ks) AR c/\∀ b,BJ (sg ks b) c=c:=by
 cases c with
 | lr fr nt ps pa pb jmp=>
   have h2:∀ t,AV (·∈ks) AR (fr t):=fun t=>AV.mono (fun i hi=>(Dz hi).1) (fun _ h=>h) (h.2 t)
   refine ⟨h2,fun b=>?_⟩;simp only [BJ];congr 1
   funext t;exact R9 (h2 t) b
 | cl f cs=>
   obtain ⟨cs',e,h2⟩:=h;cases e;have h3:=GY h2;exact ⟨fun c hc=>(FH (h3 c hc)).1,fun b=>by simp only [BJ,DS];rw [Et fun x hx=>(FH (h3 x hx)).2 b]⟩
 | junk=>exact ⟨trivial,fun _=>rfl⟩
 | d x=>exact ⟨trivial,fun _=>rfl⟩
 | lp i o=>exact FH (c:= .lp i o) h
 | ls i o l z=>exact FH (c:= .ls i o l z) h
 | yl i=>exact FH (c:= .yl i) h
 | agg cs=>exact False.elim h
 | tup cs=>exact False.elim h
theorem A4.ac (h:A4 ks L) {p:Nat × List V} (hp:p∈L):∀ c∈p.2,AC (·∈ks) AR c:=fun c hc=>(bB ((h.cells p hp).2.2 c hc)).1
theorem A4.hp (h:A4 ks L) {H:Hp} (hH:∀ i∈ks,H i=Go.Psl.lk L i):Ej (rid ks) H L:=by
 have key:∀ M:List (Nat × List V),(∀ p∈M,p∈L)->Ej (rid ks) H M:=by
   intro M;induction M with
   | nil=>intro _;trivial
   | cons p r ih=>
     intro hM;have hp:=hM p (by simp);have hm:=h.mem hp;obtain ⟨c1,c2,c3⟩:=h.cells p hp;refine ⟨?_,ih fun q hq=>hM q (List.mem_cons_of_mem _ hq)⟩;rw [ul hm];exact ⟨⟨p.2,by rw [hH _ hm,h.lk hp],MM c3⟩,c2⟩
 exact key L fun _ h=>h
theorem A4.inj (h:A4 ks L):G3 (rid ks) L:=by
 have key:∀ M:List (Nat × List V),(∀ p∈M,p∈L)->G3 (rid ks) M:=by
   intro M;induction M with
   | nil=>intro _;trivial
   | cons p r ih=>
     intro hM;refine ⟨fun q hq=>?_,ih fun q hq=>hM q (List.mem_cons_of_mem _ hq)⟩;have h1:=h.mem (hM p (by simp));have h2:=h.mem (hM q (List.mem_cons_of_mem _ hq));rw [ul h1,ul h2];by_cases e:q.1=p.1
     . exact Or.inr (Or.inr e)
     . exact Or.inr (Or.inl fun e'=>e (Option.some.inj e'))
 exact key L fun _ h=>h
theorem A4.stab (_:A4 ks L) {H:Hp} (hH:∀ i∈ks,H i=Go.Psl.lk L i):DZ (rid ks) H (Go.Psl.lk L) ks:=by
 have key:∀ M:List Nat,(∀ i∈M,i∈ks)->DZ (rid ks) H (Go.Psl.lk L) M:=by
   intro M;induction M with
   | nil=>intro _;trivial
   | cons i r ih=>
     intro hM;have hi:=hM i (by simp);exact ⟨fun hs=>⟨ul hi,by rw [hH i hi];exact hs⟩,ih fun j hj=>hM j (List.mem_cons_of_mem _ hj)⟩
 exact key ks fun _ h=>h
theorem A4.stabW (_:A4 ks L) {H:Hp} (hH:∀ i∈ks,H i=Go.Psl.lk L i) {n:Nat} (hn:∀ i∈ks,i<n):HD (rid ks) H (Go.Psl.lk L) n ks:=by
 have key:∀ M:List Nat,(∀ i∈M,i∈ks)->HD (rid ks) H (Go.Psl.lk L) n M:=by
   intro M;induction M with
   | nil=>intro _;trivial
   | cons i r ih=>
     intro hM;have hi:=hM i (by simp);exact ⟨hn i hi,fun hs=>⟨ul hi,by rw [hH i hi];exact hs⟩,ih fun j hj=>hM j (List.mem_cons_of_mem _ hj)⟩
 exact key ks fun _ h=>h
theorem A4.ids (h:A4 ks L) {n:Nat} (hn:∀ i∈ks,i<n):A7 n L:=by
 have key:∀ M:List (Nat × List V),(∀ p∈M,p∈L)->A7 n M:=by
   intro M;induction M with
   | nil=>intro _;trivial
   | cons p r ih=>
     intro hM;have hp:=hM p (by simp);exact ⟨hn _ (h.mem hp),fun c hc=>AC.mono hn (fun _ h=>h) (h.ac hp c hc),ih fun q hq=>hM q (List.mem_cons_of_mem _ hq)⟩
 exact key L fun _ h=>h
theorem AI.keep {st:St} (hs:∀ i,E.stab i↔i∈ks) (h:A4 ks L) (hH:∀ i∈ks,st.H i=Go.Psl.lk L i) {n:Nat} (hn:∀ i∈ks,i<n) (l:List (Nat × V)) (h1:CL (rid ks) st.fr l) (h4:Bw n l):AI P E st ⟨AO l,Go.Psl.lk L,n⟩:=
 AI.mkM hs (rid ks) l L n h1 (h.hp hH) h.inj h4 (h.ids hn) (h.stabW hH hn)
theorem Hn {H:Hp} {b:Nat} (hL:A4 ks L) (hL1:A4 ks L1):BI H b (Go.Psl.lk L) ks (Go.Psl.lk L1)=fun i=>if i∈ks then Go.Psl.lk L1 i else H i:=by
 funext i
 unfold BI;by_cases hi:i∈ks
 . simp only [hi,if_true]
   have h1:=hL1.isIn.2 hi;obtain ⟨x,hx⟩:=Option.isSome_iff_exists.1 h1;rw [hx];have hm:=hL1.cells (i,x) (B4 hx);simp only [Option.map_some];rw [Et fun c hc=>(bB (hm.2.2 c hc)).2 b]
 . simp only [hi,if_false]
   have h2:(Go.Psl.lk L i).isSome=false:=by
     cases hc:(Go.Psl.lk L i).isSome with
     | false=>rfl
     | true=>exact absurd (hL.isIn.1 hc) hi
   rw [h2];simp only [Bool.false_eq_true,if_false];split
   . split
     . rfl
     . rename_i hn
       have h3:Go.Psl.lk L1 (i-b)=none:=by
         cases hc:Go.Psl.lk L1 (i-b) with
         | none=>rfl
         | some x=>exact absurd (hL1.isIn.1 (by rw [hc];rfl)) hn
       rw [h3]
   . rfl
theorem Hq {H:Hp} {av args:List V} {res:Res} (hL:A4 ks L) (hL1:A4 ks L1) (hH:∀ i∈ks,H i=Go.Psl.lk L i) (hb:AJ (Bor noH) av args):IB H av args (Go.Psl.lk L) ks res (Go.Psl.lk L1):=
 ⟨fun i cs h=>by rw [hH i (hL.isIn.1 (by rw [h];rfl)),h],fun i h hn=>absurd (hL1.isIn.1 h) hn,fun i hi=>by
   obtain ⟨x,hx⟩:=Option.isSome_iff_exists.1 (hL.isIn.2 hi);exact ⟨x,hx,(hL.cells (i,x) (B4 hx)).1⟩,Or.inl hb⟩
theorem Fp.keep {H:Hp} {b k:Nat} {av:List V} {Kc Kx:V->Hp->Prop} (args:List V) (L L1:List (Nat × List V)) (ks:List Nat) (r:D) (hf:Ym P k args (Go.Psl.lk L) ks (.ret (.d r)) (Go.Psl.lk L1)) (hL:A4 ks L) (hL1:A4 ks L1)
   (hrec:∃ fr nt ps pa pb jmp,Go.Psl.lk L k=some [.lr fr nt ps pa pb jmp]/\ps.length=args.length) (hH:∀ i∈ks,H i=Go.Psl.lk L i) (hb:AJ (Bor noH) av args) (hk:Kc (.d r) (fun i=>if i∈ks then Go.Psl.lk L1 i else H i)):Fp P none H H b k av Kc Kx:=
 ⟨rfl,args,Go.Psl.lk L,ks, .ret (.d r),Go.Psl.lk L1,_,⟨hf,hrec,Hq hL hL1 hH hb⟩,(Hn hL hL1).symm,hk⟩
theorem AU.keep {H:Hp} {b:Nat} {g:FuncId} {av:List V} {Kc Kx:V->Hp->Prop} (args:List V) (L L1:List (Nat × List V)) (ks:List Nat) (r:V) (hf:Cm P g args (Go.Psl.lk L) ks (.ret r) (Go.Psl.lk L1)) (hL:A4 ks L) (hL1:A4 ks L1) (hr:AV (·∈ks) AR r)
   (hH:∀ i∈ks,H i=Go.Psl.lk L i) (hb:AJ (Bor noH) av args) (hk:Kc r (fun i=>if i∈ks then Go.Psl.lk L1 i else H i)):AU P none H H b g av Kc Kx:=
 ⟨args,Go.Psl.lk L,ks, .ret r,Go.Psl.lk L1,_,⟨hf,Hq hL hL1 hH hb⟩,trivial,(Hn hL hL1).symm,by show Kc (ren (sg ks b) r) _;rw [R9 hr];exact hk⟩
theorem Dc.keep {fn:Func} {st:St} (hn:fn.results= #[]) (h:A4 ks L) (hH:∀ i∈ks,st.H i=Go.Psl.lk L i):Dc Γ fn ks (.tup []) L st:=
 ⟨[],rid ks,by rw [hn];rfl,rfl,by simp,h.hp hH,h.inj,h.stab hH⟩
theorem E3.keepN {fo:Operand} {ps:List Nat} {pa pb:PC} {Q:Av->St->Prop} {f:Nat->V} {H:Hp} {n:Nat} {g:FuncId} {caps:List V} (L L1:List (Nat × List V)) (ks:List Nat) (r:V) (jmp:LSt) (h0:E.rqN H/\E.nt≠AL4) (hg:P0 (evF f fo)=some (g,caps))
   (hf:Cm P g (.yl n::caps) (Go.Psl.lk ((n,[.lr f E.nt ps pa pb .ready])::L)) (n::ks) (.ret r) (Go.Psl.lk ((n,[.lr f E.nt ps pa pb jmp])::L1)))
   (hL:A4 (n::ks) ((n,[.lr f E.nt ps pa pb .ready])::L)) (hL1:A4 (n::ks) ((n,[.lr f E.nt ps pa pb jmp])::L1)) (hH:∀ i∈ks,H i=Go.Psl.lk L i) (hb:AJ (Bor noH) caps caps)
   (hq:Sm Q ⟨f,fun i=>if i=n then none else if i∈ks then Go.Psl.lk L1 i else H i,n+2097152⟩ jmp):PW P Γ eqs E (.rangeF fo ps pa pb) Q ⟨f,H,n⟩:=by
 have hH':∀ i∈n::ks,upd H n (some [.lr f E.nt ps pa pb .ready]) i=Go.Psl.lk ((n,[.lr f E.nt ps pa pb .ready])::L) i:=fun i hi=>by
   simp only [AY,Go.Psl.lk];by_cases e:i=n
   . simp [e]
   . simp only [e,if_false]
     rcases List.mem_cons.1 hi with h | h
     . exact absurd h e
     . exact hH i h
 refine ⟨h0,g,caps, .yl n::caps,_,n::ks, .ret r,_,hg,⟨hf,Hq hL hL1 hH' ⟨rfl,hb⟩⟩,by simp,jmp,by simp [Go.Psl.lk],?_⟩
 have e:upd (BI (upd H n (some [.lr f E.nt ps pa pb .ready])) (n+1048576) (Go.Psl.lk ((n,[.lr f E.nt ps pa pb .ready])::L)) (n::ks) (Go.Psl.lk ((n,[.lr f E.nt ps pa pb jmp])::L1))) n none=fun i=>if i=n then none else if i∈ks then Go.Psl.lk L1 i else H i:=by
   rw [Hn hL hL1]
   funext i
   simp only [AY];by_cases h:i=n
   . simp [h]
   . simp [h,Go.Psl.lk]
 show Sm Q ⟨f,upd (BI _ _ _ _ _) n none,n+2097152⟩ jmp
 rw [e];exact hq
theorem E3.keep {fo:Operand} {ps:List Nat} {pa pb:PC} {Q:Av->St->Prop} {f:Nat->V} {H:Hp} {n:Nat} {g:FuncId} {caps:List V} (L L1:List (Nat × List V)) (ks:List Nat) (r:V) (jmp:LSt) (h0:E.rq/\E.nt≠AL4) (hg:P0 (evF f fo)=some (g,caps))
   (hf:Cm P g (.yl n::caps) (Go.Psl.lk ((n,[.lr f E.nt ps pa pb .ready])::L)) (n::ks) (.ret r) (Go.Psl.lk ((n,[.lr f E.nt ps pa pb jmp])::L1)))
   (hL:A4 (n::ks) ((n,[.lr f E.nt ps pa pb .ready])::L)) (hL1:A4 (n::ks) ((n,[.lr f E.nt ps pa pb jmp])::L1)) (hH:∀ i∈ks,H i=Go.Psl.lk L i) (hb:AJ (Bor noH) caps caps)
   (hq:Sm Q ⟨f,fun i=>if i=n then none else if i∈ks then Go.Psl.lk L1 i else H i,n+2097152⟩ jmp):PW P Γ eqs E (.rangeF fo ps pa pb) Q ⟨f,H,n⟩:=
 E3.keepN L L1 ks r jmp ⟨.inl h0.1,h0.2⟩ hg hf hL hL1 hH hb hq
theorem Hu.keep {k:Nat} {rc:LSt->V} {s:LSt} {st:St} (h:A4 ks L) (hb:st.H k=some [rc .busy]) (hH:∀ i∈ks,upd st.H k (some [rc s]) i=Go.Psl.lk L i):Hu k rc s ks L st:=
 ⟨hb,rid ks,h.hp hH,h.inj,h.stab hH⟩
end
end Go.Psl
namespace Go.Psl
variable {P:Program} {Γ:Tys} {eqs:Eqs} {E:Ent}
def CX (ks xs:List Nat) (c:V):Prop:=match c with
 | .lr fr _ _ _ _ _=>∀ t,AV (·∈ks) AR (fr t)
 | c=>W1 (rid (ks++xs)) c c
structure BT (ks xs:List Nat) (L:List (Nat × List V)):Prop where
 names:L.map (·.1)=ks++xs
 nd:(ks++xs).Nodup
 cells:∀ p∈L,p.2≠[]/\Bv p.2/\∀ c∈p.2,CX ks xs c
section
variable {ks xs xs1:List Nat} {L L1:List (Nat × List V)}
theorem BT.lk (h:BT ks xs L) {p:Nat × List V} (hp:p∈L):Go.Psl.lk L p.1=some p.2:=AF8 (by rw [h.names];exact h.nd) p hp
theorem BT.mem (h:BT ks xs L) {p:Nat × List V} (hp:p∈L):p.1∈ks++xs:=by rw [<-h.names];exact List.mem_map.2 ⟨p,hp,rfl⟩
theorem BT.isIn (h:BT ks xs L) {i:Nat}:(Go.Psl.lk L i).isSome=true↔i∈ks++xs:=by
 constructor
 . intro hi
   obtain ⟨x,hx⟩:=Option.isSome_iff_exists.1 hi;exact h.mem (p:=(i,x)) (B4 hx)
 . intro hi
   rw [<-h.names] at hi;obtain ⟨p,hp,rfl⟩:=List.mem_map.1 hi;rw [h.lk hp];rfl
theorem Mw {c:V} (h:W1 (rid ks) c c):A1 (·∈ks) AR c:=by
 cases c with
 | cl f cs=>
   obtain ⟨cs',e,h2⟩:=h;cases e;exact fun c hc=>(FH (GY h2 c hc)).1
 | junk=>exact trivial
 | d x=>exact trivial
 | lp i o=>exact (FH (c:= .lp i o) h).1
 | ls i o l z=>exact (FH (c:= .ls i o l z) h).1
 | yl i=>exact (FH (c:= .yl i) h).1
 | lr=>exact False.elim h
 | agg cs=>exact False.elim h
 | tup cs=>exact False.elim h
theorem ie {c:V} (h:CX ks xs c):AC (·∈ks++xs) AR c:=by
 cases c with
 | lr fr nt ps pa pb jmp=>exact fun t=>AV.mono (fun i hi=>List.mem_append_left _ hi) (fun _ h=>h) (h t)
 | cl f cs=>exact Mw (c:= .cl f cs) h
 | junk=>exact trivial
 | d x=>exact trivial
 | lp i o=>exact Mw (c:= .lp i o) h
 | ls i o l z=>exact Mw (c:= .ls i o l z) h
 | yl i=>exact Mw (c:= .yl i) h
 | agg cs=>exact False.elim h
 | tup cs=>exact False.elim h
theorem BT.ids (h:BT ks xs L) {n:Nat} (hn:∀ i∈ks++xs,i<n):A7 n L:=by
 have key:∀ M:List (Nat × List V),(∀ p∈M,p∈L)->A7 n M:=by
   intro M;induction M with
   | nil=>intro _;trivial
   | cons p r ih=>
     intro hM;have hp:=hM p (by simp);exact ⟨hn _ (h.mem hp),fun c hc=>AC.mono hn (fun _ h=>h) (ie ((h.cells p hp).2.2 c hc)),ih fun q hq=>hM q (List.mem_cons_of_mem _ hq)⟩
 exact key L fun _ h=>h
theorem kO {c:V} (h:CX ks xs c):WC (rid (ks++xs)) c c:=by
 cases c with
 | lr fr nt ps pa pb jmp=>exact ⟨rfl,fun t=>AV.mono (fun i hi=>ul (List.mem_append_left _ hi)) (fun _ h=>h) (h t)⟩
 | cl f cs=>exact h
 | junk=>exact h
 | d x=>exact h
 | lp i o=>exact h
 | ls i o l z=>exact h
 | yl i=>exact h
 | agg cs=>exact h
 | tup cs=>exact h
theorem BT.same (h:BT ks xs L):A4 (ks++xs) L:=⟨h.names,h.nd,fun p hp=>⟨(h.cells p hp).1,(h.cells p hp).2.1,fun c hc=>kO ((h.cells p hp).2.2 c hc)⟩⟩
end
end Go.Psl
namespace Go.Proofs.Tryz
open Go.Psl
open Go.Log
theorem AY1 {b c:UInt8} (h:¬ b=c):¬ (b.toNat:Int)=c.toNat:=fun e=>h (UInt8.toNat_inj.1 (by omega))
theorem ABU (s:By) (c:UInt8) (hl:s.length<=1000000):Ct prog 243 [vS s,vu9 c] (vS (T8 c s)) []:=by
 refine CB func243 c243 fun E hE=>?_
 simp [p243];refine Al (α:=By) (fun r=>⟨AO [(0,vS r),(1,vu9 c)],lk [],0⟩) (fun r=>T8 c r=T8 c s/\r.length<=1000000) (fun r=>r.length) s ?_ ?_ ?_
 . exact ⟨rfl,hl⟩
 . exact WK hE (lk [])
 . rintro r ⟨hr,hrl⟩
   rcases List.eq_nil_or_concat r with rfl | ⟨r,b,rfl⟩
   . have e:T8 c s=[]:=by rw [<-hr];rfl
     simp [AWa];apply RZ;simp [results243,e]
   . rw [List.concat_eq_append] at*
     have hrl':r.length+1<=1000000:=by simpa using hrl
     have h0:(0:Int)<(r.length:Int)+1:=by omega
     have hle:(r.length:Int)<=(r.length:Int)+1:=by omega
     have hw:IntKind.wrap .i64 (r.length:Int)=(r.length:Int):=by rw [AD (by omega) (by omega)]
     by_cases hb:b=c
     . subst hb
       simp [AWa,h0,hw,hle];refine ⟨r,⟨by rw [<-hr,U4,if_pos rfl],by omega⟩,by omega,?_⟩;exact WK hE (lk [])
     . simp [AWa,h0,hw,AY1 hb]
       apply RZ;simp [results243,<-hr,U4,hb]
theorem qp (s:By) (c:UInt8) (hc:c.toNat<128) (hl:s.length<=1000000):Ct prog 171 [vS s,vS [c]] (vS (Rv c (T8 c s))) []:=by
 have h128:(c.toNat:Int)<128:=by omega
 by_cases hs:s=[]
 . subst hs
   refine CB func171 mB fun E hE=>?_
   simp [p171];apply RZ;simp [results171,T8,Rv]
 . refine CB func171 mB fun E hE=>?_
   simp [p171,hs,h128,inC,Nat.testBit];refine CLa (ABU s c hl) ?_;simp;refine AU.mk _ _ _ (q9 (T8 c s) c (Nat.le_trans (go c s) hl)) (by first | (simp;done) | simp [Bk,CP]) (by simp) (by first | (left;simp;done) | (right;simp;done)) ?_;simp;apply RZ;simp [results171]
theorem fn94 (x:Etr) (hw:x.w.length<=1000000) (ha:x.a.length<=1000000) (hn:x.n.length<=1000000):Ct prog 94 [AZr x] (vb (Uk x)) []:=by
 have c1:=yF x.t 0 1000000;have c2:=rE x.w 8 168 cptF hw fun i b _=>nu i b
 have c3:=ABQ x.a 170 [] (fun n=>!AVz n) (by omega) fun p _=>qq p
 rw [AZs] at c3;have c4:=qp x.n 32 (by decide) hn;have c5:=rE x.n 40 172 eL hn fun i b _=>ASW i b
 change Ct prog _ _ (vb (AWs x.w)) _ at c2
 by_cases h1:DF x.t 0 1000000=false
 . rw [h1] at c1
   refine CB func94 c94 fun E hE=>?_
   simp [p94];refine CLa c1 ?_;simp;apply RZ;simp [results94,Uk,h1]
 simp only [Bool.not_eq_false] at h1;rw [h1] at c1;by_cases h2:AWs x.w=false
 . rw [h2] at c2
   refine CB func94 c94 fun E hE=>?_
   simp [p94];refine CLa c1 ?_;simp;refine CLa c2 ?_;simp;apply RZ;simp [results94,Uk,h1,h2]
 simp only [Bool.not_eq_false] at h2;rw [h2] at c2;by_cases h3:6<x.a.length
 . have h3':(6:Int)<x.a.length:=by omega
   refine CB func94 c94 fun E hE=>?_
   simp [p94];refine CLa c1 ?_;simp;refine CLa c2 ?_;simp [h3'];apply RZ;simp [results94,Uk,h1,h2];omega
 have h3':¬ (6:Int)<x.a.length:=by omega
 have h3'':x.a.length<=6:=by omega
 by_cases h4:x.a.all AVz=false
 . rw [h4] at c3
   refine CB func94 c94 fun E hE=>?_
   simp [p94];refine CLa c1 ?_;simp;refine CLa c2 ?_;simp [h3'];refine CLa c3 ?_;simp;apply RZ;simp [results94,Uk,h1,h2,h4]
 simp only [Bool.not_eq_false] at h4;rw [h4] at c3;by_cases h5:x.n=[]
 . refine CB func94 c94 fun E hE=>?_
   simp [p94];refine CLa c1 ?_;simp;refine CLa c2 ?_;simp [h3'];refine CLa c3 ?_;simp [h5,inC,Nat.testBit];apply RZ;simp [results94,Uk,h1,h2,h4,h3'',AVg,h5]
 by_cases h6:Rv 32 (T8 32 x.n)=x.n
 . rw [h6] at c4
   refine CB func94 c94 fun E hE=>?_
   simp [p94];refine CLa c1 ?_;simp;refine CLa c2 ?_;simp [h3'];refine CLa c3 ?_;simp [h5,inC,Nat.testBit];refine CLa c4 ?_;simp;refine CLa c5 ?_;simp;apply RZ;simp [results94,Uk,h1,h2,h4,h3'',AVg,h5,h6]
 . refine CB func94 c94 fun E hE=>?_
   simp [p94];refine CLa c1 ?_;simp;refine CLa c2 ?_;simp [h3'];refine CLa c3 ?_;simp [h5,inC,Nat.testBit];refine CLa c4 ?_;simp [h6];apply RZ;simp [results94,Uk,h1,h2,h4,h3'',AVg,h5,h6]
theorem ASH (n lo hi:Int):Ct prog 198 [vi n,vi lo,vi hi] (vb (DF n lo hi)) []:=by
 by_cases h1:lo<=n
 . by_cases h2:n<=hi
   . refine CB func198 Aa8 fun E hE=>?_
     simp [p198,h1,h2];apply RZ;simp [results198,DF,h1,h2]
   . refine CB func198 Aa8 fun E hE=>?_
     simp [p198,h1,h2];apply RZ;simp [results198,DF,h1,h2]
 . refine CB func198 Aa8 fun E hE=>?_
   simp [p198,h1];apply RZ;simp [results198,DF,h1]
theorem ASX (b:UInt8):Ct prog 199 [vu9 b] (vb (DF (b.toNat:Int) 65 90)) []:=by
 by_cases h1:65<=(b.toNat:Int)
 . by_cases h2:(b.toNat:Int)<=90
   . refine CB func199 AGD fun E hE=>?_
     simp [p199,h1,h2];apply RZ;simp [results199,DF,h1,h2]
   . refine CB func199 AGD fun E hE=>?_
     simp [p199,h1,h2];apply RZ;simp [results199,DF,h1,h2]
 . refine CB func199 AGD fun E hE=>?_
   simp [p199,h1];apply RZ;simp [results199,DF,h1]
theorem AQR (b:UInt8):Ct prog 200 [vu9 b] (vb (DF (b.toNat:Int) 48 57)) []:=by
 by_cases h1:48<=(b.toNat:Int)
 . by_cases h2:(b.toNat:Int)<=57
   . refine CB func200 Aa9 fun E hE=>?_
     simp [p200,h1,h2];apply RZ;simp [results200,DF,h1,h2]
   . refine CB func200 Aa9 fun E hE=>?_
     simp [p200,h1,h2];apply RZ;simp [results200,DF,h1,h2]
 . refine CB func200 Aa9 fun E hE=>?_
   simp [p200,h1];apply RZ;simp [results200,DF,h1]
def wdF (d:Bool) (i:Nat) (b:UInt8):Bool:=upB b||(d&&decide (0<i)&&dgB b)
theorem AYk:wdF true=shipF:=by funext i b;simp [wdF,shipF]
theorem AX0:wdF false=cptF:=by funext i b;simp [wdF,cptF]
theorem ir (s:By) (d:Bool) (hl:s.length<=1000000):Ct prog 116 [vS s,vb d] (vb (Yf s 8 (wdF d))) []:=by
 have c1:=ASH s.length 1 8;by_cases h0:DF s.length 1 8=false
 . rw [h0] at c1
   refine CB func116 AcT fun E hE=>?_
   simp [p116];refine CLa c1 ?_;simp;apply RZ;simp [results116,Yf,h0]
 simp only [Bool.not_eq_false] at h0;rw [h0] at c1;refine CB func116 AcT fun E hE=>?_
 simp [p116];refine CLa c1 ?_;simp;refine Al (α:=Nat) (fun i=>⟨AO [(0,vS s),(1,vb d),(5,vi i)],lk [],0⟩) (fun i=>i<=s.length/\∀ j,j<i->(s[j]?).all (wdF d j)=true) (fun i=>s.length-i) 0 ?_ ?_ ?_
 . exact ⟨by omega,fun j hj=>by omega⟩
 . exact WK hE (lk [])
 . rintro i ⟨hi,hg3⟩
   have hz:=@wz i (by omega);by_cases h:i<s.length
   . obtain ⟨b,hb⟩:=gE h
     have hI:(i:Int)<s.length:=by omega
     have c2:=ASX b;have c3:=AQR b
     change Ct prog _ _ (vb (upB b)) _ at c2
     change Ct prog _ _ (vb (dgB b)) _ at c3
     have hgo:wdF d i b=true->i+1<=s.length/\∀ j,j<i+1->(s[j]?).all (wdF d j)=true:=fun hq=>⟨by omega,fun j hj=>by
       by_cases e:j=i
       . subst e;rw [hb];simp [hq]
       . exact hg3 j (by omega)⟩
     by_cases hu:upB b=true
     . rw [hu] at c2
       simp [ANj,hI,hb];refine CLa c2 ?_;simp [hz];refine ⟨i+1,hgo (by simp [wdF,hu]),by omega,?_⟩;exact WK hE (lk [])
     simp only [Bool.not_eq_true] at hu;rw [hu] at c2;cases d with
     | false=>
       simp [ANj,hI,hb];refine CLa c2 ?_;simp;apply RZ;simp [results116,Yf,Ye hb (show wdF false i b=false by simp [wdF,hu])]
     | true=>
       by_cases hi0:0<i
       . have hi0':(0:Int)<i:=by omega
         by_cases hd:dgB b=true
         . rw [hd] at c3
           simp [ANj,hI,hb];refine CLa c2 ?_;simp [hi0,hb];refine CLa c3 ?_;simp [hz];refine ⟨i+1,hgo (by simp [wdF,hi0,hd]),by omega,?_⟩;exact WK hE (lk [])
         . simp only [Bool.not_eq_true] at hd
           rw [hd] at c3;simp [ANj,hI,hb];refine CLa c2 ?_;simp [hi0,hb];refine CLa c3 ?_;simp;apply RZ;simp [results116,Yf,Ye hb (show wdF true i b=false by simp [wdF,hu,hd])]
       . simp [ANj,hI,hb]
         refine CLa c2 ?_;simp [hi0];apply RZ;simp [results116,Yf,Ye hb (show wdF true i b=false by simp [wdF,hu,hi0])]
   . have hI:¬ (i:Int)<s.length:=by omega
     simp [ANj,hI];apply RZ;simp [results116,Yf,h0,AWJ fun j hj=>hg3 j (by omega)]
theorem Abs (s:By) (hl:s.length<=1000000):Ct prog 201 [vS s] (vb (decide (s.length<=40)&&AVe eL s&&Yh 32 s)) []:=by
 by_cases h0:40<s.length
 . have h0':(40:Int)<s.length:=by omega
   refine CB func201 Ace fun E hE=>?_
   simp [p201,h0'];apply RZ;simp [results201];omega
 have h0':¬ (40:Int)<s.length:=by omega
 have h40:s.length<=40:=by omega
 refine CB func201 Ace fun E hE=>?_
 simp [p201,h0'];refine Al (α:=Nat) (fun i=>⟨AO [(0,vS s),(3,vi i)],lk [],0⟩) (fun i=>i<=s.length/\∀ j,j<i->(s[j]?).all (eL j)=true) (fun i=>s.length-i) 0 ?_ ?_ ?_
 . exact ⟨by omega,fun j hj=>by omega⟩
 . exact WK hE (lk [])
 . rintro i ⟨hi,hg3⟩
   have hz:=@wz i (by omega);by_cases h:i<s.length
   . obtain ⟨b,hb⟩:=gE h
     have hI:(i:Int)<s.length:=by omega
     by_cases h1:(b.toNat:Int)<32
     . simp [fL,hI,hb,h1]
       apply RZ;simp [results201,Ye hb (show eL i b=false by simp [eL,prB];omega)]
     . by_cases h2:126<(b.toNat:Int)
       . simp [fL,hI,hb,h1,h2]
         apply RZ;simp [results201,Ye hb (show eL i b=false by simp [eL,prB];omega)]
       . simp [fL,hI,hb,h1,h2,hz]
         refine ⟨i+1,⟨by omega,fun j hj=>?_⟩,by omega,?_⟩
         . by_cases e:j=i
           . subst e;rw [hb];simp [eL,prB];omega
           . exact hg3 j (by omega)
         . exact WK hE (lk [])
   . have hI:¬ (i:Int)<s.length:=by omega
     have hfit:AVe eL s=true:=AWJ fun j hj=>hg3 j (by omega)
     cases s with
     | nil=>
       have hI0:¬ (i:Int)<0:=by omega
       simp [fL,hI0];apply RZ;simp [results201,hfit,Yh]
     | cons b r=>
       have hlr:r.length+1<=40:=by simpa using h40
       have hw:IntKind.wrap .i64 (r.length:Int)=(r.length:Int):=by rw [AD (by omega) (by omega)]
       have hne:¬ (r.length:Int)+1=0:=by omega
       have hI':¬ (i:Int)<r.length+1:=by simpa using hI
       by_cases hb:b=32
       . subst hb
         simp [fL,hI',hne];apply RZ;simp [results201,Yh]
       . have hbn:¬ (b.toNat:Int)=32:=AY1 hb
         obtain ⟨c,hc⟩:∃ c,(b::r).getLast?= some c:=by
           cases hq:(b::r).getLast? with
           | none=>simp at hq
           | some c=>exact ⟨c,rfl⟩
         have hge:(b::r)[r.length]?= some c:=by rw [<-hc,List.getLast?_eq_getElem?];simp
         have hgl:(b::r)[r.length]=c:=by
           have:=hge;rw [List.getElem?_eq_getElem (by simp)] at this;exact Option.some.inj this
         have hbare:Yh 32 (b::r)=decide (c≠32):=by simp [Yh,hb,hc]
         by_cases hc2:c=32
         . subst hc2
           simp [fL,hI',hne,hbn,hw,hgl];apply RZ;simp [results201,hbare]
         . have hcn:¬ (c.toNat:Int)=32:=AY1 hc2
           simp [fL,hI',hne,hbn,hw,hgl,hcn];apply RZ;simp [results201,hbare,hc2,hfit,show r.length<=39 by omega]
theorem AZu (s:By):(decide (s.length<=40)&&AVe eL s&&Yh 32 s)=AVg s:=by
 unfold AVg;by_cases hs:s=[]
 . subst hs;simp [Yh,AVe]
 . have h1:1<=s.length:=by cases s with | nil=>exact absurd rfl hs | cons a b=>simp
   have h2:decide (Rv 32 (T8 32 s)=s)=Yh 32 s:=by
     cases hb:Yh 32 s
     . exact decide_eq_false fun e=>by rw [(AV6 32 s).1 e] at hb;cases hb
     . exact decide_eq_true ((AV6 32 s).2 hb)
   rw [h2]
   have h3:DF s.length 1 40=decide (s.length<=40):=by
     unfold DF;rw [decide_eq_true (show (1:Int)<=s.length by omega),Bool.true_and];exact decide_eq_decide.2 (by omega)
   simp only [hs,decide_false,Bool.false_or,Yf,h3];cases Yh 32 s<;>cases AVe eL s<;>cases decide (s.length<=40)<;>rfl
theorem qs (x:Etr) (hw:x.w.length<=1000000) (ha:x.a.length<=1000000) (hn:x.n.length<=1000000):Ct prog 117 [AZr x] (vb (Uk x)) []:=by
 have c1:=ASH x.t 0 1000000;have c2:=ir x.w false hw;rw [AX0] at c2
 change Ct prog _ _ (vb (AWs x.w)) _ at c2
 have c3:=Abs x.n hn;rw [AZu] at c3;by_cases h1:DF x.t 0 1000000=false
 . rw [h1] at c1
   refine CB func117 AQw fun E hE=>?_
   simp [p117];refine CLa c1 ?_;simp;apply RZ;simp [results117,Uk,h1]
 simp only [Bool.not_eq_false] at h1;rw [h1] at c1;by_cases h2:AWs x.w=false
 . rw [h2] at c2
   refine CB func117 AQw fun E hE=>?_
   simp [p117];refine CLa c1 ?_;simp;refine CLa c2 ?_;simp;apply RZ;simp [results117,Uk,h1,h2]
 simp only [Bool.not_eq_false] at h2;rw [h2] at c2;by_cases h3:6<x.a.length
 . have h3':(6:Int)<x.a.length:=by omega
   refine CB func117 AQw fun E hE=>?_
   simp [p117];refine CLa c1 ?_;simp;refine CLa c2 ?_;simp [h3'];apply RZ;simp [results117,Uk,h1,h2];omega
 have h3':¬ (6:Int)<x.a.length:=by omega
 have h3'':x.a.length<=6:=by omega
 by_cases h5:AVg x.n=false
 . rw [h5] at c3
   refine CB func117 AQw fun E hE=>?_
   simp [p117];refine CLa c1 ?_;simp;refine CLa c2 ?_;simp [h3'];refine CLa c3 ?_;simp;apply RZ;simp [results117,Uk,h5]
 simp only [Bool.not_eq_false] at h5;rw [h5] at c3;refine CB func117 AQw fun E hE=>?_
 simp [p117];refine CLa c1 ?_;simp;refine CLa c2 ?_;simp [h3'];refine CLa c3 ?_;simp;refine Al (α:=Nat) (fun i=>⟨AO [(1, .lp 0 0),(3,vi i)],lk [(0,[vi x.t,vS x.w, .d (MB x.a),vS x.n])],1⟩) (fun i=>i<=x.a.length/\∀ j,j<i->(x.a[j]?).all AVz=true) (fun i=>x.a.length-i) 0 ?_ ?_ ?_
 . exact ⟨by omega,fun j hj=>by omega⟩
 . exact WK hE (lk [(0,0)])
 . rintro i ⟨hi,hg3⟩
   have hz:=@wz i (by omega);by_cases h:i<x.a.length
   . obtain ⟨n,hn⟩:=gE h
     have hI:(i:Int)<x.a.length:=by omega
     have c4:=ASH n (-1000000000) 1000000000
     change Ct prog _ _ (vb (AVz n)) _ at c4
     by_cases hq:AVz n=true
     . rw [hq] at c4
       simp [NZ,hI,hn];refine CLa c4 ?_;simp [hz];refine ⟨i+1,⟨by omega,fun j hj=>?_⟩,by omega,?_⟩
       . by_cases e:j=i
         . subst e;rw [hn];simp [hq]
         . exact hg3 j (by omega)
       . exact WK hE (lk [(0,0)])
     . simp only [Bool.not_eq_true] at hq
       rw [hq] at c4;simp [NZ,hI,hn];refine CLa c4 ?_;simp;apply RZ;have:x.a.all AVz=false:=by rw [List.all_eq_false];exact ⟨n,List.mem_of_getElem? hn,by simp [hq]⟩
       simp [results117,Uk,this]
   . have hI:¬ (i:Int)<x.a.length:=by omega
     have:x.a.all AVz=true:=by
       rw [List.all_eq_true];intro n hn;obtain ⟨j,hj⟩:=List.getElem?_of_mem hn;have:=hg3 j (by have:=(List.getElem?_eq_some_iff.1 hj).1;omega);rw [hj] at this;simpa using this
     simp [NZ,hI];apply RZ;simp [results117,Uk,h1,h2,h3'',h5,this]
def Aat (x:Etr):Prop:=x.w.length<=1000000/\x.a.length<=1000000/\x.n.length<=1000000
structure AVk (l:Lg):Prop where
 s:l.s.length<=1000000
 n:l.es.length<=1000000
 e:∀ x∈l.es,Aat x
theorem AVl {es:List Etr} {i:Nat} {x:Etr} (h:es[i]?= some x):Yi es (i+1)=x.t:=by simp [Yi,h]
theorem fn43 (l:Lg) (hs:AVk l):Ct prog 43 [AVh l] (vi (if Ue l then 0 else 90)) []:=by
 have c1:=fn93 l.s hs.s;have hn:=hs.n;by_cases h1:AVf l.s=false
 . rw [h1] at c1
   refine CB func43 c43 fun E hE=>?_
   simp [p43];refine CLa c1 ?_;simp;apply RZ;simp [results43,Ue,h1]
 simp only [Bool.not_eq_false] at h1;rw [h1] at c1;by_cases h2:200<l.es.length
 . have h2':(200:Int)<l.es.length:=by omega
   have h3:¬ l.es.length<=200:=by omega
   refine CB func43 c43 fun E hE=>?_
   simp [p43];refine CLa c1 ?_;simp [h2'];apply RZ;simp [results43,Ue,h1,h3]
 have h2':¬ (200:Int)<l.es.length:=by omega
 have h3:l.es.length<=200:=by omega
 refine CB func43 c43 fun E hE=>?_
 simp [p43];refine CLa c1 ?_;simp [h2'];refine Al (α:=Nat) (fun i=>⟨AO [(3,vi (Yi l.es i)),(17, .d (U6 l.es)),(18,vi l.es.length),(19,vi i)],lk [],0⟩) (fun i=>i<=l.es.length/\∀ j,j<i->(l.es[j]?).all (fun x=>Uk x&&decide (Yi l.es j<=x.t))=true) (fun i=>l.es.length-i) 0 ?_ ?_ ?_
 . exact ⟨by omega,fun j hj=>by omega⟩
 . refine AI.mk hE (lk []) _ _ _ ?_ ?_ ?_ ?_ ?_<;>simp [Yi]
 . rintro i ⟨hi,hg3⟩
   have hz:=@wz i (by omega);by_cases h:i<l.es.length
   . obtain ⟨x,hx⟩:=gE h
     have hI:(i:Int)<l.es.length:=by omega
     obtain ⟨q1,q2,q3⟩:=hs.e x (List.mem_of_getElem? hx);have c2:=fn94 x q1 q2 q3;by_cases h4:Uk x=true
     . rw [h4] at c2
       by_cases h5:x.t<Yi l.es i
       . simp [AW4,hI,hx,AA]
         refine CLa c2 ?_;simp [h5];apply RZ;simp [results43,Ue,rB hx (Or.inr h5)]
       . simp [AW4,hI,hx,AA]
         refine CLa c2 ?_;simp [h5,hz];refine ⟨i+1,⟨by omega,fun j hj=>?_⟩,by omega,?_⟩
         . by_cases e:j=i
           . subst e;rw [hx];simp [h4];omega
           . exact hg3 j (by omega)
         . refine AI.mk hE (lk []) _ _ _ ?_ ?_ ?_ ?_ ?_<;>simp [AVl hx]
     . simp only [Bool.not_eq_true] at h4
       rw [h4] at c2;simp [AW4,hI,hx,AA];refine CLa c2 ?_;simp;apply RZ;simp [results43,Ue,rB hx (Or.inl h4)]
   . have hI:¬ (i:Int)<l.es.length:=by omega
     simp [AW4,hI];apply RZ;simp [results43,Ue,h1,h3,AXd fun j hj=>hg3 j (by omega)]
theorem fn54 (l:Lg) (hs:AVk l):Ct prog 54 [AVh l] (vi (if Ue l then 0 else 90)) []:=by
 have c1:=ir l.s true hs.s;rw [AYk] at c1
 change Ct prog _ _ (vb (AVf l.s)) _ at c1
 have hn:=hs.n;by_cases h1:AVf l.s=false
 . rw [h1] at c1
   refine CB func54 c54 fun E hE=>?_
   simp [p54];refine CLa c1 ?_;simp;apply RZ;simp [results54,Ue,h1]
 simp only [Bool.not_eq_false] at h1;rw [h1] at c1;by_cases h2:200<l.es.length
 . have h2':(200:Int)<l.es.length:=by omega
   have h3:¬ l.es.length<=200:=by omega
   refine CB func54 c54 fun E hE=>?_
   simp [p54];refine CLa c1 ?_;simp [h2'];apply RZ;simp [results54,Ue,h1,h3]
 have h2':¬ (200:Int)<l.es.length:=by omega
 have h3:l.es.length<=200:=by omega
 refine CB func54 c54 fun E hE=>?_
 simp [p54];refine CLa c1 ?_;simp [h2'];refine Al (α:=Nat) (fun i=>⟨AO [(1, .lp 0 0),(3,vi i)],lk [(0,[vS l.s, .d (U6 l.es)])],1⟩) (fun i=>i<=l.es.length/\∀ j,j<i->(l.es[j]?).all (fun x=>Uk x&&decide (Yi l.es j<=x.t))=true) (fun i=>l.es.length-i) 0 ?_ ?_ ?_
 . exact ⟨by omega,fun j hj=>by omega⟩
 . exact WK hE (lk [(0,0)])
 . rintro i ⟨hi,hg3⟩
   have hz:=@wz i (by omega);by_cases h:i<l.es.length
   . obtain ⟨x,hx⟩:=gE h
     have hI:(i:Int)<l.es.length:=by omega
     obtain ⟨q1,q2,q3⟩:=hs.e x (List.mem_of_getElem? hx);have c2:=qs x q1 q2 q3;by_cases h4:Uk x=true
     . rw [h4] at c2
       by_cases hi0:i=0
       . subst hi0
         have hI0:0<l.es.length:=by omega
         have hz1:IntKind.wrap .i64 1=1:=by decide
         have hx0:l.es[0]=x:=by rw [List.getElem?_eq_getElem hI0] at hx;exact Option.some.inj hx
         simp [AH3,hI0,hx0,inC,Nat.testBit];refine CLa c2 ?_;simp [hz1];refine ⟨1,⟨by omega,fun j hj=>?_⟩,by omega,?_⟩
         . obtain rfl:j=0:=by omega
           rw [hx]
           have:0<=x.t:=by
             simp only [Uk,DF,Bool.and_eq_true,decide_eq_true_eq] at h4;exact h4.1.1.1.1.1
           simp [h4,Yi,this]
         . exact WK hE (lk [(0,0)])
       obtain ⟨p,hpi⟩:∃ p,i=p+1:=⟨i-1,by omega⟩
       obtain ⟨y,hy⟩:∃ y,l.es[p]?= some y:=⟨_,List.getElem?_eq_getElem (by omega)⟩
       have hw:IntKind.wrap .i64 ((i:Int)-1)=(p:Int):=by rw [AD (by omega) (by omega)];omega
       have hI2:(p:Int)<l.es.length:=by omega
       have hp:0<i:=by omega
       have hl:Yi l.es i=y.t:=by rw [hpi];exact AVl hy
       by_cases h5:x.t<y.t
       . simp [AH3,hI,hx,inC,Nat.testBit]
         refine CLa c2 ?_;simp [hp,hx,hw,hy,h5,inC,Nat.testBit];apply RZ;simp [results54,Ue,rB hx (Or.inr (by rw [hl];exact h5))]
       . simp [AH3,hI,hx,inC,Nat.testBit]
         refine CLa c2 ?_;simp [hp,hx,hw,hy,h5,hz,inC,Nat.testBit];refine ⟨i+1,⟨by omega,fun j hj=>?_⟩,by omega,?_⟩
         . by_cases e:j=i
           . subst e;rw [hx];simp [h4,hl];omega
           . exact hg3 j (by omega)
         . exact WK hE (lk [(0,0)])
     . simp only [Bool.not_eq_true] at h4
       rw [h4] at c2;simp [AH3,hI,hx,inC,Nat.testBit];refine CLa c2 ?_;simp;apply RZ;simp [results54,Ue,rB hx (Or.inl h4)]
   . have hI:¬ (i:Int)<l.es.length:=by omega
     simp [AH3,hI];apply RZ;simp [results54,Ue,h1,h3,AXd fun j hj=>hg3 j (by omega)]
theorem yy (l:List Int) (hl:l.length<=1000000):Ct prog 32 [.d (MB l), .d (MB l)] (vb true) []:=by
 refine CB func32 c32 fun E hE=>?_
 simp [p32];refine Al (α:=Nat) (fun i=>⟨AO [(0, .d (MB l)),(1, .d (MB l)),(5,vi i)],lk [],0⟩) (fun i=>i<=l.length) (fun i=>l.length-i) 0 ?_ ?_ ?_
 . omega
 . exact WK hE (lk [])
 . intro i hi
   by_cases h:i<l.length
   . obtain ⟨x,hx⟩:=gE h
     have hz:=@wz i (by omega);have hI:(i:Int)<l.length:=by omega
     simp [AY2,hI,hx,hz];refine ⟨i+1,by omega,by omega,?_⟩;exact WK hE (lk [])
   . have hn:¬ (i:Int)<l.length:=by omega
     simp [AY2,hn];apply RZ;simp [results32]
theorem fn69 (x:Etr) (hl:x.a.length<=1000000):Ct prog 69 [AZr x,AZr x] (vb true) []:=by
 refine CB func69 c69 fun E hE=>?_
 simp [p69];refine CLa (yy x.a hl) ?_;simp;apply RZ;simp [results69]
theorem fn33 (l:Lg) (hs:AVk l):Ct prog 33 [AVh l,AVh l] (vb true) []:=by
 have hn:=hs.n;refine CB func33 c33 fun E hE=>?_
 simp [p33];refine Al (α:=Nat) (fun i=>⟨AO [(2, .lp 0 0),(3, .lp 1 0),(5,vi i)],lk [(0,[vS l.s, .d (U6 l.es)]),(1,[vS l.s, .d (U6 l.es)])],2⟩) (fun i=>i<=l.es.length) (fun i=>l.es.length-i) 0 ?_ ?_ ?_
 . omega
 . exact WK hE (lk [(0,0),(1,1048576)])
 . intro i hi
   by_cases h:i<l.es.length
   . obtain ⟨x,hx⟩:=gE h
     have hz:=@wz i (by omega);have hI:(i:Int)<l.es.length:=by omega
     simp [AY3,hI,hx,inC,Nat.testBit];refine AU.mk _ _ _ (fn69 x (hs.e x (List.mem_of_getElem? hx)).2.1) (by first | (simp;done) | simp [Bk,CP]) (by simp) (by first | (left;simp;done) | (right;simp;done)) ?_;simp [hz];refine ⟨i+1,by omega,by omega,?_⟩;exact WK hE (lk [(0,0),(1,1)])
   . have hn:¬ (i:Int)<l.es.length:=by omega
     simp [AY3,hn];apply RZ;simp [results33]
def grE (x:Etr):Bool:=decide (60<x.w.length)||decide (60<x.n.length)||decide (10<x.a.length)
def AVm (l:Lg):Bool:=decide (220<l.es.length)||decide (60<l.s.length)||l.es.any grE
theorem AX4 {l:Lg} (h:AVm l=false):AVk l:=by
 simp only [AVm,Bool.or_eq_false_iff,decide_eq_false_iff_not,List.any_eq_false] at h;refine ⟨by omega,by omega,fun x hx=>?_⟩;have:=h.2 x hx;simp only [grE,Bool.or_eq_true,decide_eq_true_eq,not_or] at this;exact ⟨by omega,by omega,by omega⟩
theorem fn16 (l:Lg):Ct prog 16 [AVh l] (vb (AVm l)) []:=by
 by_cases h1:220<l.es.length
 . have h1':(220:Int)<l.es.length:=by omega
   refine CB func16 c16 fun E hE=>?_
   simp [p16,h1'];apply RZ;simp [results16,AVm,h1]
 have h1':¬ (220:Int)<l.es.length:=by omega
 by_cases h2:60<l.s.length
 . have h2':(60:Int)<l.s.length:=by omega
   refine CB func16 c16 fun E hE=>?_
   simp [p16,h1',h2'];apply RZ;simp [results16,AVm,h2]
 have h2':¬ (60:Int)<l.s.length:=by omega
 refine CB func16 c16 fun E hE=>?_
 simp [p16,h1',h2'];refine Al (α:=Nat) (fun i=>⟨AO [(1, .lp 0 0),(3,vi i)],lk [(0,[vS l.s, .d (U6 l.es)])],1⟩) (fun i=>i<=l.es.length/\∀ j,j<i->(l.es[j]?).all (fun x=>!grE x)=true) (fun i=>l.es.length-i) 0 ?_ ?_ ?_
 . exact ⟨by omega,fun j hj=>by omega⟩
 . exact WK hE (lk [(0,0)])
 . rintro i ⟨hi,hg3⟩
   have hz:=@wz i (by omega);by_cases h:i<l.es.length
   . obtain ⟨x,hx⟩:=gE h
     have hI:(i:Int)<l.es.length:=by omega
     have hbad:grE x=true->l.es.any grE=true:=fun hg=>List.any_eq_true.2 ⟨x,List.mem_of_getElem? hx,hg⟩
     by_cases g1:60<x.w.length
     . have g1':(60:Int)<x.w.length:=by omega
       simp [AES,hI,hx,g1',AA];apply RZ;simp [results16,AVm,hbad (by simp [grE,g1])]
     have g1':¬ (60:Int)<x.w.length:=by omega
     by_cases g2:60<x.n.length
     . have g2':(60:Int)<x.n.length:=by omega
       simp [AES,hI,hx,g1',g2',AA];apply RZ;simp [results16,AVm,hbad (by simp [grE,g2])]
     have g2':¬ (60:Int)<x.n.length:=by omega
     by_cases g3:10<x.a.length
     . have g3':(10:Int)<x.a.length:=by omega
       simp [AES,hI,hx,g1',g2',g3',AA];apply RZ;simp [results16,AVm,hbad (by simp [grE,g3])]
     have g3':¬ (10:Int)<x.a.length:=by omega
     simp [AES,hI,hx,g1',g2',g3',hz,AA];refine ⟨i+1,⟨by omega,fun j hj=>?_⟩,by omega,?_⟩
     . by_cases e:j=i
       . subst e;rw [hx];simp [grE,g1,g2,g3]
       . exact hg3 j (by omega)
     . exact WK hE (lk [(0,0)])
   . have hI:¬ (i:Int)<l.es.length:=by omega
     have hall:l.es.any grE=false:=by
       rw [List.any_eq_false];intro x hx;obtain ⟨j,hj⟩:=List.getElem?_of_mem hx;have:=hg3 j (by have:=(List.getElem?_eq_some_iff.1 hj).1;omega);rw [hj] at this;simpa using this
     simp [AES,hI];apply RZ;simp [results16,AVm,h1,h2,hall]
open Go.Air
open Go.Log (Ldp Lim Etr By Lg DF F7 Ue)
def mxL (l:List Int) (i:Nat):Int:=(l.take i).foldl max (l.headD 0)
theorem Abu {l:List Int} {i:Nat} {x:Int} (h:l[i]?= some x):mxL l (i+1)=max (mxL l i) x:=by
 unfold mxL;rw [List.take_add_one,h];simp [List.foldl_append]
theorem fn45 (x:Int) (r:List Int) (hl:r.length<=1000000):Ct prog 45 [.d (Qw (x::r))] (vi (mxL (x::r) (r.length+1))) []:=by
 have h1:mxL (x::r) 1=x:=by simp [mxL]
 obtain ⟨l,hq⟩:∃ l,l=x::r:=⟨_,rfl⟩
 have hl2:l.length=r.length+1:=by rw [hq];rfl
 have h0:l[0]?= some x:=by rw [hq];rfl
 rw [<-hq] at h1 ⊢;rw [<-hl2];have hn:¬ ((l.length:Int)<1):=by omega
 refine CW func45 c45 fun E hE=>?_
 have hb:l.length<=1000001:=by omega
 clear hq hl2;refine Wp ?_;refine Al (α:=Nat) (fun i=>⟨AO [(0, .d (Qw l)),(3,vi (mxL l i)),(4,vi i)],lk [],0⟩) (fun i=>i<=l.length) (fun i=>l.length-i) 1 (by omega) (WkA hE WA) fun i hi=>?_
 by_cases h:i<l.length
 . obtain ⟨y,hy⟩:=gE h
   have hI:(i:Int)<l.length:=by omega
   have hs:=Abu hy;have hz:IntKind.wrap .i64 ((i:Int)+1)=(i:Int)+1:=AD (by omega) (by omega);refine PW.mono (?_:PW prog tys eqs E _ (DP (fun st'=>AI prog E st' _) _) _) fun e st h3=>GO (fun _ h4=>⟨i+1,by omega,by omega,h4⟩) (fun _ _ h=>h) e st h3
   clear h;exact Wk
 . obtain rfl:i=l.length:=by omega
   exact Wk
theorem mxL8 {a b c d e f g h:Int} (ha:0<=a) (hb:0<=b) (hc:0<=c) (hd:0<=d) (he:0<=e) (hf:0<=f) (hg:0<=g) (hh:0<=h):mxL [a,b,c,d,e,f,g,h] 8=0↔(((((((a=0/\b=0)/\c=0)/\d=0)/\e=0)/\f=0)/\g=0)/\h=0):=by
 simp [mxL];omega
def AZx (l:Lin):Bool:=l.lg.getLast?.all fun x=>decide (x.t<=l.ti)
def AXE (l:Lin):Bool:=Ue ⟨l.nm,l.lg⟩
def Yb (l:Lin):Int:=if pk l&&AXE l&&AZx l then 0 else 100
theorem AVi {b:Bool} {n:Int} (h:0<=n):0<=(if b then 0 else n):=by cases b<;>simp [h]
theorem AWz {b:Bool} {n:Int} (h:n≠0):((if b then 0 else n)=0)↔b=true:=by cases b<;>simp [h]
def mxE (l:Lin):Int:=mxL [if A6 l.sh then 0 else 52,if BV l.sk then 0 else 50,if CF l.rg then 0 else 51,dv l.po l.be,if na l.wa l.wb l.wc l.wd then 0 else 71,F7 l.lm,GV l.fr,if AXE l then 0 else 90] 8
theorem Abv (l:Lin):(mxE l=0)↔(rk l&&AXE l)=true:=by
 unfold mxE;rw [mxL8 (AVi (by omega)) (AVi (by omega)) (AVi (by omega)) (by unfold dv;split<;>(try split)<;>omega) (AVi (by omega)) (by unfold F7;split<;>(try split)<;>omega) (by unfold GV;split<;>(try split)<;>omega) (AVi (by omega))];rw [AWz (by omega),AWz (by omega),AWz (by omega),AWz (by omega),AWz (by omega)];simp [rk]
theorem AZy (l:Lin):pk l=(rk l&&AWl l&&AVb l&&decide (l.pe*Ru l.cb<=l.sh.dry)):=by
 rw [Bool.eq_iff_iff];unfold pk AWl;have e:plL l l.cb.length=l.ce++[l.da,l.fa,l.ta,l.ba]++l.cb.map (·.at'):=by unfold plL;rw [List.take_length]
 rw [e];simp only [Bool.and_eq_true,List.all_append,List.all_cons,List.all_nil,List.all_map,List.all_eq_true,decide_eq_true_eq,Function.comp]
 grind
structure SzA (l:Lin):Prop where
 z:SzL l
 g:AVk ⟨l.nm,l.lg⟩
theorem AZ3 {l:Lin} (h:AWl l=true):l.cb.length<=4/\∀ x∈l.cb,0<=x.pe/\x.pe<=100:=by
 simp only [AWl,Bool.and_eq_true,decide_eq_true_eq,List.all_eq_true] at h;exact ⟨h.1.1.2,fun x hx=>rx (h.1.1.1 x hx)⟩
theorem Ab2 (hS:SortOk) (l:Lin) (hs:SzA l):Ct prog 20 [Re l] (vi (Yb l)) []:=by
 obtain ⟨⟨s1,s2,s3,s4,s5,s6,s7,s8,s9,s10,s11⟩,sg⟩:=hs;have sn:l.lg.length<=1000000:=sg.n;have c1:=fn36 l.sh (by omega);have c2:=fn37 l.sk s2 s3;have c3:=fn38 hS l.rg (by omega);have c4:=fn39 l.po l.be s5 s6 s11;have c5:=fn40 l.wa l.wb l.wc l.wd;have c6:=Ab9 l.lm s9;have c7:=AP0 l.fr s10;have d1:=fn44 l;have c8:=fn43 ⟨l.nm,l.lg⟩ sg;have c9:Ct prog 45 _ (vi (mxE l)) []:=fn45 (if A6 l.sh then 0 else 52) [if BV l.sk then 0 else 50,if CF l.rg then 0 else 51,dv l.po l.be,if na l.wa l.wb l.wc l.wd then 0 else 71,F7 l.lm,GV l.fr,if AXE l then 0 else 90] (by simp);have d2:=fn46 l s7 s8;have d3:=fn47 l;unfold Yb;rw [AZy];have ez:=Abv l;refine CW func20 c20 fun E hE=>?_
 change Ct prog _ _ (vi (if AXE l then 0 else 90)) [] at c8
 generalize A6 l.sh=b1 at*
 generalize BV l.sk=b2 at*
 generalize CF l.rg=b3 at*
 generalize dv l.po l.be=b4 at*
 generalize na l.wa l.wb l.wc l.wd=b5 at*
 generalize F7 l.lm=b6 at*
 generalize GV l.fr=b7 at*
 generalize AXE l=b8 at*
 generalize mxE l=m at*
 generalize rk l=b9 at*
 by_cases hm:m=0
 case neg=>
   have eb:(b9&&b8)=false:=by cases b9<;>cases b8<;>simp_all
   have eb2:(b9&&AWl l&&AVb l&&decide (l.pe*Ru l.cb<=l.sh.dry)&&b8&&AZx l)=false:=by cases b9<;>cases b8<;>simp_all
   rw [eb2];clear ez eb eb2;exact Wk
 have eb:b9=true/\b8=true:=by simpa [hm] using ez
 obtain ⟨rfl,rfl⟩:=eb;clear ez;cases hp:AWl l
 . rw [hp] at d2
   exact Wk
 obtain ⟨hn,ho⟩:=AZ3 hp;have d4:=AB1 l hn ho;cases hc:AVb l
 . rw [hp] at d2
   rw [hc] at d3;exact Wk
 have hpe:DF l.pe 0 1000=true:=by simp [AVb] at hc;simp [hc]
 have w:=AYr hn ho hpe;rw [hp] at d2;rw [hc] at d3;clear hp hc hpe hn ho
 generalize Ru l.cb=q at*
 unfold AZx;rcases List.eq_nil_or_concat l.lg with h | ⟨es,x,h⟩
 . have hk:l.lg.length=0:=by rw [h];rfl
   have hl:l.lg.getLast?= none:=by rw [h];rfl
   clear h;exact Wk
 . have h':l.lg=es++[x]:=by simpa using h
   have hk:l.lg.length=es.length+1:=by rw [h'];simp
   have hx:l.lg[es.length]?= some x:=by rw [h'];simp
   have hl:l.lg.getLast?= some x:=by rw [h'];simp
   clear h h'
   generalize es.length=k at*
   exact Wk
theorem AVV (l:Lin) (hs:SzA l):Ct prog 23 [Re l] (vi (Yb l)) []:=by
 have sn:l.lg.length<=1000000:=hs.g.n;have c1:=fn53 l hs.z;have c2:=ALn l;have c3:Ct prog 54 [AVh ⟨l.nm,l.lg⟩] (vi (if AXE l then 0 else 90)) []:=fn54 ⟨l.nm,l.lg⟩ hs.g;unfold Yb AZx;refine CW func23 c23 fun E hE=>?_
 rcases List.eq_nil_or_concat l.lg with h | ⟨es,x,h⟩
 . have hk:l.lg.length=0:=by rw [h];rfl
   have hl:l.lg.getLast?= none:=by rw [h];rfl
   clear h;exact Wk
 . have h':l.lg=es++[x]:=by simpa using h
   have hk:l.lg.length=es.length+1:=by rw [h'];simp
   have hx:l.lg[es.length]?= some x:=by rw [h'];simp
   have hl:l.lg.getLast?= some x:=by rw [h'];simp
   clear h h'
   generalize es.length=k at*
   exact Wk
theorem ABz (l:Lin) (h:l.sk.s.length<=1000000):Ct prog 21 [Re l] (atV (atA l.sk.s l.sh.hl l.sh.hh)) []:=by
 have c:=fn49 l.sk.s l.sh.hl l.sh.hh h;exact CW func21 c21
theorem AU3 (l:Lin) (h:l.sk.s.length<=1000000):Ct prog 24 [Re l] (atV (atA l.sk.s l.sh.hl l.sh.hh)) []:=by
 have c:=fn55 l.sk.s l.sh.hl l.sh.hh h;exact CW func24 c24
abbrev lxL (x:Ldp):List D:=[di x.al,di x.ah,di x.wl,di x.wh]
theorem hlx:∀ x:Ldp,(lxL x).length=4:=fun _=>rfl
@[simp] theorem Ac6 (l:List Ldp):List.take (l.length*4) (AH lxL l)=AH lxL l:=E9 hlx l
@[simp] theorem AdA (l:List Ldp):(AH lxL l).length=l.length*4:=Aw hlx l
theorem fn50 (L:List Ldp) (a lo hi:Int) (hl:L.length<=1000000):Cm prog 50 [vi a,vsp lo hi, .lp 2 0] (lk [(2,[.ls 3 0 L.length 4]),(3,AH lxL L)]) [2] (.ret (.tup [])) (lk [(2,[.ls 0 0 (L.length+1) 4]),(0,AH lxL (L++[⟨a,a,lo,hi⟩]))]):=by
 have c1:=ZM a;have e:=IV (f:=lxL) L ⟨a,a,lo,hi⟩;refine CWM 4 func50 c50 fun E hs hE=>?_
 exact Wk
def ldZ (l:Lin) (a:Atm):List Ldp:=
 (l.ce.zip l.sh.gas.cs).map (fun p=>⟨p.1,p.1, -(Bx p.2 a).2, -(Bx p.2 a).1⟩)++
 [⟨l.da,l.da,l.sh.dry-l.pe*Ru l.cb,l.sh.dry-l.pe*Ru l.cb⟩,⟨l.fa,l.fa,l.sh.fl,l.sh.fh⟩,⟨l.ta,l.ta,l.sh.wl,l.sh.wh⟩,⟨l.ba,l.ba,l.sh.bal,l.sh.bal⟩]++
 l.cb.map (fun x=>⟨x.at',x.at',l.pe*x.pe,l.pe*x.pe⟩)
structure AV3 (l:Lin):Prop where
 n:l.ce.length=l.sh.gas.cs.length
 c:l.ce.length<=12
 k:l.cb.length<=4
 cel:∀ c∈l.sh.gas.cs,B5 c
 pe:0<=l.pe/\l.pe<=1000
 cab:∀ x∈l.cb,0<=x.pe/\x.pe<=100
 dry:0<=l.sh.dry/\l.sh.dry<=1000000000
theorem AaP {l:Lin} {a:Atm} {i:Nat} {x:Int} {c:Cel} (hx:l.ce[i]?= some x) (hc:l.sh.gas.cs[i]?= some c):(ldZ l a)[i]?= some ⟨x,x, -(Bx c a).2, -(Bx c a).1⟩:=by
 have h:(l.ce.zip l.sh.gas.cs)[i]?= some (x,c):=by rw [List.getElem?_zip_eq_some];exact ⟨hx,hc⟩
 have hi:=(List.getElem?_eq_some_iff.1 h).1;unfold ldZ;rw [List.append_assoc,List.getElem?_append_left (by simpa using hi),List.getElem?_map,h];rfl
theorem AaQ {l:Lin} {a:Atm} (hb:AV3 l):(ldZ l a)[l.ce.length]?= some ⟨l.da,l.da,l.sh.dry-l.pe*Ru l.cb,l.sh.dry-l.pe*Ru l.cb⟩/\(ldZ l a)[l.ce.length+1]?= some ⟨l.fa,l.fa,l.sh.fl,l.sh.fh⟩/\(ldZ l a)[l.ce.length+2]?= some ⟨l.ta,l.ta,l.sh.wl,l.sh.wh⟩/\(ldZ l a)[l.ce.length+3]?= some ⟨l.ba,l.ba,l.sh.bal,l.sh.bal⟩:=by
 have h:((l.ce.zip l.sh.gas.cs).map (fun p=>(⟨p.1,p.1, -(Bx p.2 a).2, -(Bx p.2 a).1⟩:Ldp))).length=l.ce.length:=by simp [hb.n]
 unfold ldZ;rw [List.append_assoc];refine ⟨?_,?_,?_,?_⟩<;>rw [List.getElem?_append_right (by omega),h]<;>simp
theorem AaR {l:Lin} {a:Atm} (hb:AV3 l) {j:Nat} {x:Cab} (hx:l.cb[j]?= some x):(ldZ l a)[l.ce.length+4+j]?= some ⟨x.at',x.at',l.pe*x.pe,l.pe*x.pe⟩:=by
 unfold ldZ;rw [List.getElem?_append_right (by simp [hb.n])];simp only [List.length_append,List.length_map,List.length_zip,List.length_cons,List.length_nil,hb.n,Nat.min_self];rw [show l.sh.gas.cs.length+4+j-(l.sh.gas.cs.length+(0+1+1+1+1))=j by omega];simp [hx]
theorem AWO {l:Lin} {a:Atm} (hb:AV3 l):(ldZ l a).length=l.ce.length+4+l.cb.length:=by
 simp [ldZ,hb.n];omega
theorem AWA {Z:List Ldp} {n:Nat} {x:Ldp} (h:Z[n]?= some x) (hn:n<=1000000) (he:x.al=x.ah):Cm prog 50 [vi x.al,vsp x.wl x.wh, .lp 2 0] (lk [(2,[.ls 3 0 n 4]),(3,AH lxL (Z.take n))]) [2] (.ret (.tup [])) (lk [(2,[.ls 0 0 (n+1) 4]),(0,AH lxL (Z.take (n+1)))]):=by
 have hl:(Z.take n).length=n:=by rw [List.length_take];have:=(List.getElem?_eq_some_iff.1 h).1;omega
 have c:=fn50 (Z.take n) x.al x.wl x.wh (by omega);have e:Z.take n++[⟨x.al,x.al,x.wl,x.wh⟩]=Z.take (n+1):=by rw [List.take_add_one,h];cases x;simp only at he;subst he;rfl
 rwa [hl,e] at c
theorem AV3.pm {l:Lin} (h:AV3 l):(0<=l.pe*Ru l.cb/\l.pe*Ru l.cb<=400000)/\∀ x∈l.cb,0<=l.pe*x.pe/\l.pe*x.pe<=100000:=by
 have b:=AWj h.cab 4 h.k;have p:=h.pe;refine ⟨⟨Int.mul_nonneg p.1 b.1,?_⟩,fun x hx=>?_⟩
 . have:l.pe*Ru l.cb<=1000*400:=Int.mul_le_mul p.2 (by omega) b.1 (by omega)
   omega
 . have c:=h.cab x hx
   have:l.pe*x.pe<=1000*100:=Int.mul_le_mul p.2 (by omega) c.1 (by omega);exact ⟨Int.mul_nonneg p.1 c.1,by omega⟩
abbrev AZq (a:Atm):List V:=[vi a.pl,vi a.ph,vi a.tl,vi a.th]
theorem fn22 (l:Lin) (a:Atm) (hb:AV3 l) (ha:Fx a):Ct prog 22 [Re l,Ox a] (.ls 0 0 (ldZ l a).length 4) [(0,AH lxL (ldZ l a))]:=by
 obtain ⟨Z,hZ⟩:∃ Z,ldZ l a=Z:=⟨_,rfl⟩
 have hn:=hb.c;have hk:=hb.k;have hlen:=AWO (a:=a) hb;rw [hZ] at hlen ⊢;refine CV 9 func22 c22 fun E hE _=>lB ?_
 refine Wp (lB ?_);refine Wp (lB ?_);refine Wp (lB ?_);refine Wp ?_;refine L2 l.ce (fun i=>⟨AO [(2, .lp 0 0),(3, .lp 1 0),(5, .lp 2 0),(6, .cl 50 [.lp 2 0]),(15, .d (Qw l.ce)),(16,vi l.ce.length),(17,vi i)],lk [(0,TR l),(1,AZq a),(2,[.ls 3 0 i 4]),(3,AH lxL (Z.take i))],4⟩) (fun _=>True) (by omega) trivial (WkA hE ?_) (fun i x hx hI hz _=>?_) fun _=>?_
 . rw [List.take_zero];exact WA
 . obtain ⟨c,hc⟩:∃ c,l.sh.gas.cs[i]?= some c:=⟨_,List.getElem?_eq_getElem (by have:=(List.getElem?_eq_some_iff.1 hx).1;have:=hb.n;omega)⟩
   have hI2:(i:Int)<l.sh.gas.cs.length:=by have:=hb.n;omega
   have hcb:=hb.cel c (List.mem_of_getElem? hc);have hy:=AaP (a:=a) hx hc;rw [hZ] at hy;have b:=TE hcb ha;have c1:=fn52 c a hcb ha;have m:=AWA hy (by omega) rfl
   generalize Bx c a=F at*
   have w1:IntKind.wrap .i64 (-F.1)= -F.1:=AD (by omega) (by omega);have w2:IntKind.wrap .i64 (-F.2)= -F.2:=AD (by omega) (by omega);clear hlen b;exact Wk
 obtain ⟨h0,h1,h2,h3⟩:=AaQ (a:=a) hb;rw [hZ] at h0 h1 h2 h3;obtain ⟨pm,pc⟩:=hb.pm;have hd:=hb.dry;have d1:=AB1 l hb.k hb.cab;have u:=ZM;have hc4:=hb.k;refine Wp ?_;refine Rb ⟨AO [(2, .lp 0 0),(5, .lp 2 0),(6, .cl 50 [.lp 2 0])],lk [(0,TR l),(2,[.ls 3 0 (l.ce.length+0) 4]),(3,AH lxL (Z.take (l.ce.length+0)))],4⟩ (WkA hE WA) ?_;have m:=AWA h0 (by omega) rfl;refine Wp ?_;clear m;refine Rb ⟨AO [(2, .lp 0 0),(5, .lp 2 0),(6, .cl 50 [.lp 2 0])],lk [(0,TR l),(2,[.ls 3 0 (l.ce.length+1) 4]),(3,AH lxL (Z.take (l.ce.length+1)))],4⟩ (WkA hE WA) ?_;have m:=AWA h1 (by omega) rfl;refine Wp ?_;clear m;refine Rb ⟨AO [(2, .lp 0 0),(5, .lp 2 0),(6, .cl 50 [.lp 2 0])],lk [(0,TR l),(2,[.ls 3 0 (l.ce.length+2) 4]),(3,AH lxL (Z.take (l.ce.length+2)))],4⟩ (WkA hE WA) ?_;have m:=AWA h2 (by omega) rfl;refine Wp ?_;clear m;refine Rb ⟨AO [(2, .lp 0 0),(5, .lp 2 0),(6, .cl 50 [.lp 2 0])],lk [(0,TR l),(2,[.ls 3 0 (l.ce.length+3) 4]),(3,AH lxL (Z.take (l.ce.length+3)))],4⟩ (WkA hE WA) ?_;have m:=AWA h3 (by omega) rfl;refine Wp ?_;clear m;refine Rb ⟨AO [(2, .lp 0 0),(5, .lp 2 0),(6, .cl 50 [.lp 2 0])],lk [(0,TR l),(2,[.ls 3 0 (l.ce.length+4) 4]),(3,AH lxL (Z.take (l.ce.length+4)))],4⟩ (WkA hE WA) ?_;refine Wp ?_;refine L2 l.cb (fun j=>⟨AO [(2, .lp 0 0),(5, .lp 2 0),(6, .cl 50 [.lp 2 0]),(82, .d (AXh l.cb)),(83,vi l.cb.length),(84,vi j)],lk [(0,TR l),(2,[.ls 3 0 (l.ce.length+4+j) 4]),(3,AH lxL (Z.take (l.ce.length+4+j)))],4⟩) (fun _=>True) (by omega) trivial (WkA hE WA) (fun j x hx hI hz _=>?_) fun _=>?_
 . have hy:=AaR (a:=a) hb hx
   rw [hZ] at hy;have hp:=pc x (List.mem_of_getElem? hx);have m:=AWA hy (by omega) rfl;have e:l.ce.length+4+(j+1)=l.ce.length+4+j+1:=by omega
   clear hlen;exact Wk
 . rw [<-hlen,List.take_length]
   refine Wp (AZR ?_);exact Wk
theorem AX5 {Z:List Ldp} {n:Nat} {x:Ldp} (h:Z[n]?= some x):AH lxL (Z.take (n+1))=AH lxL (Z.take n)++[vi x.al,vi x.ah,vi x.wl,vi x.wh]:=by
 rw [List.take_add_one,h];exact IV _ _
theorem Aax {Z:List Ldp} {n:Nat} (h:n<=Z.length):List.take (n*4) (AH lxL (Z.take n))=AH lxL (Z.take n)/\(AH lxL (Z.take n)).length=n*4:=by
 have e:(Z.take n).length=n:=by rw [List.length_take];omega
 have h1:=E9 hlx (Z.take n);have h2:=Aw hlx (Z.take n);rw [e] at h1 h2;exact ⟨h1,h2⟩
theorem fn25 (l:Lin) (a:Atm) (hb:AV3 l) (ha:Fx a):Ct prog 25 [Re l,Ox a] (.ls 0 0 (ldZ l a).length 4) [(0,AH lxL (ldZ l a))]:=by
 obtain ⟨Z,hZ⟩:∃ Z,ldZ l a=Z:=⟨_,rfl⟩
 have hn:=hb.c;have hk:=hb.k;have hlen:=AWO (a:=a) hb;rw [hZ] at hlen ⊢;refine CW func25 c25 fun E hE=>?_
 refine Wp ?_;refine L2 l.ce (fun i=>⟨AO [(2, .lp 0 0),(3, .lp 1 0),(5, .ls 2 0 i 4),(6,vi i)],lk [(0,TR l),(1,AZq a),(2,AH lxL (Z.take i))],3⟩) (fun _=>True) (by omega) trivial (WkA hE ?_) (fun i x hx hI hz _=>?_) fun _=>?_
 . rw [List.take_zero];exact WA
 . obtain ⟨c,hc⟩:∃ c,l.sh.gas.cs[i]?= some c:=⟨_,List.getElem?_eq_getElem (by have:=(List.getElem?_eq_some_iff.1 hx).1;have:=hb.n;omega)⟩
   have hI2:(i:Int)<l.sh.gas.cs.length:=by have:=hb.n;omega
   have hcb:=hb.cel c (List.mem_of_getElem? hc);have hy:=AaP (a:=a) hx hc;rw [hZ] at hy;have b:=TE hcb ha;have c1:=fn56 c a hcb ha;have u:=ALU x;have e:=AX5 hy;obtain ⟨n1,n2⟩:=Aax (Z:=Z) (n:=i) (by omega)
   generalize Bx c a=F at*
   have w1:IntKind.wrap .i64 (-F.1)= -F.1:=AD (by omega) (by omega);have w2:IntKind.wrap .i64 (-F.2)= -F.2:=AD (by omega) (by omega);have c2:=ALU x (-F.2) (-F.1);have hi:i<=12:=by omega
   clear hlen b hy;exact Wk
 obtain ⟨h0,h1,h2,h3⟩:=AaQ (a:=a) hb;rw [hZ] at h0 h1 h2 h3
 have e:AH lxL (Z.take (l.ce.length+4))=AH lxL (Z.take l.ce.length)++[vi l.da,vi l.da,vi (l.sh.dry-l.pe*Ru l.cb),vi (l.sh.dry-l.pe*Ru l.cb),vi l.fa,vi l.fa,vi l.sh.fl,vi l.sh.fh,vi l.ta,vi l.ta,vi l.sh.wl,vi l.sh.wh,vi l.ba,vi l.ba,vi l.sh.bal,vi l.sh.bal]:=by
   rw [AX5 h3,AX5 h2,AX5 h1,AX5 h0];simp
 obtain ⟨n1,n2⟩:=Aax (Z:=Z) (n:=l.ce.length) (by omega);obtain ⟨pm,pc⟩:=hb.pm;have hd:=hb.dry;have d1:=fE l hb.k hb.cab;have d2:=AB4 l.da (l.sh.dry-l.pe*Ru l.cb);have d3:=ALU l.fa l.sh.fl l.sh.fh;have d4:=ALU l.ta l.sh.wl l.sh.wh;have d5:=AB4 l.ba l.sh.bal;have hc4:=hb.k;clear h0 h1 h2 h3;refine Wp ?_;refine L2 l.cb (fun j=>⟨AO [(2, .lp 0 0),(5, .ls 1 0 (l.ce.length+4+j) 4),(9,vi j)],lk [(0,TR l),(1,AH lxL (Z.take (l.ce.length+4+j)))],2⟩) (fun _=>True) (by omega) trivial (WkA hE WA) (fun j x hx hI hz _=>?_) fun _=>?_
 . have hy:=AaR (a:=a) hb hx
   rw [hZ] at hy;have hp:=pc x (List.mem_of_getElem? hx);have e2:=AX5 hy;obtain ⟨n3,n4⟩:=Aax (Z:=Z) (n:=l.ce.length+4+j) (by omega);have e3:l.ce.length+4+(j+1)=l.ce.length+4+j+1:=by omega
   have c1:=AB4 x.at' (l.pe*x.pe);have hj:j<=4:=by omega
   clear hlen hy;exact Wk
 . rw [<-hlen,List.take_length]
   exact Wk
theorem AZl {n:Int} (h:n<0):Rh n=45::Rh (-n):=by
 unfold Rh Go.Lib.itoa;rw [if_pos h,if_neg (by omega)];congr 2;omega
theorem AXb {n:Int} (h0:0<=n) (h1:n<10):Rh n=[UInt8.ofNat (48+n).toNat]:=by
 unfold Rh Go.Lib.itoa;rw [if_neg (by omega),Go.Lib.decDigits_one (by omega)];congr 2;omega
theorem AZm {n:Int} (h:10<=n):Rh n=Rh (n/10)++Rh (n%10):=by
 rw [AXb (n:=n%10) (by omega) (by omega)];unfold Rh Go.Lib.itoa;rw [if_neg (by omega),if_neg (by omega),Go.Lib.decDigits,dif_neg (by omega)];congr 2
 . congr 1;omega
 . congr 1;omega
theorem gb (n:Int) (h0: -100000000000000<n) (h1:n<100000000000000):(Rh n).length<=15:=by
 unfold Rh Go.Lib.itoa;split
 . simp only [List.length_cons,Go.Lib.decDigits_length]
   have:=ql 13 n.natAbs (by omega);omega
 . rw [Go.Lib.decDigits_length]
   have:=ql 13 n.toNat (by omega);omega
end Go.Proofs.Tryz
namespace Go.Psl
open Go.RowKit
variable {P:Program}
theorem AW9 {G:Gh} {W:World}:∀ {vs0:List Value} {xs:List Value},AJ (R2 G W) (vs0.map cV) xs->xs=vs0
 | [],[],_=>rfl
 | a::as0,x::xs,h=>by
   have h1:x=a:=BO (R2.rv h.1);rw [h1,AW9 h.2]
 | [],_::_,h=>h.elim
 | _::_,[],h=>h.elim
def AXq (W:World):Prop:=∃ Wr:World,ASP Wr/\∀ k,k<Wr.heap.size->W.heap[k]?= Wr.heap[k]?
theorem GW.globN {Im:Nat->Prop} {W:World} (h:GW Im W):AXq W:=by
 obtain ⟨_,Wr,h1,h2⟩:=h;exact ⟨Wr,h1,fun k hk=>(h2 k hk).2⟩
theorem Cm.ofBelow {f:FuncId} {vs0:List Value} {r:V} {v:Value} (hf:fF P f) (hr:∀ G W,RV G W r v) (hw:AV (fun _=>False) AR r)
   (h:∀ W,AXq W->Calls P f vs0.toArray W fun e W'=>e= .returned v/\Below W.heap.size W W'/\W.drawn<=W'.drawn):Ct P f (vs0.map cV) r []:=by
 refine ⟨hf,fun G W xs hGW hargs hpre=>?_⟩;have hx:=AW9 hargs;obtain ⟨xs⟩:=xs;simp only at hx;subst hx;refine Calls.mono (h W hGW.globN) fun e W' ⟨he,hb,hdr⟩=>?_
 subst he;refine ⟨{G with Im:=G.Im},⟨hb.os,hb.tape,hb.output,hdr,hb.size,fun b hb' _=>hb.block b hb',fun b hb'=>⟨Nat.lt_of_lt_of_le (hGW.1 b hb') hb.size, .inl hb'⟩,fun _ h=>h,hr _ _,AV.mono (fun _ h=>h.elim) (fun _ h=>h) hw,?_,?_,?_⟩⟩
 . intro i cs h;cases h
 . intro i j h;simp [InH,lk] at h
 . intro i h;cases h
theorem Cm.ofLit {f:FuncId} {vs0:List Value} {v:Value} (hf:fF P f) (hv:CU v=true)
   (h:∀ W,AXq W->Calls P f vs0.toArray W fun e W'=>e= .returned v/\Below W.heap.size W W'/\W.drawn<=W'.drawn):Ct P f (vs0.map cV) (cV v) []:=
 Cm.ofBelow hf (fun _ _=>RD.lit v hv) trivial h
end Go.Psl
namespace Go.Proofs
def Tryz.itoaL_ren:Go.Shelf.Ren:=⟨fun | 171=>61 | 243=>127 | 246=>210 | 283=>273 | 284=>274 | 285=>275 | 286=>276 | 129=>305 | 317=>304 | 318=>306 | 319=>307 | 320=>308 | 337=>324 | 338=>325 | n=>n,fun | 3=>3 | 9=>9 | 2=>2 | 4=>4 | 171=>300 | 0=>0 | 53=>301 | 37=>212 | 5=>5 | 173=>304 | 212=>321 | 51=>322 | 20=>20 | 213=>323 | 46=>290 | 232=>348 | 233=>349 | n=>n,fun | 17=>0 | 18=>3 | 19=>4 | n=>n⟩
theorem Tryz.itoaL:Go.Proofs.LaysM.n171 Tryz.prog Tryz.itoaL_ren:={
 mixed:=by kernel_rfl,
 f129:=Tryz.func305.trans (congrArg some (by kernel_rfl)),
 f171:=Tryz.func61.trans (congrArg some (by kernel_rfl)),
 f243:=Tryz.func127.trans (congrArg some (by kernel_rfl)),
 f246:=Tryz.func210.trans (congrArg some (by kernel_rfl)),
 f283:=Tryz.func273.trans (congrArg some (by kernel_rfl)),
 f284:=Tryz.func274.trans (congrArg some (by kernel_rfl)),
 f285:=Tryz.func275.trans (congrArg some (by kernel_rfl)),
 f286:=Tryz.func276.trans (congrArg some (by kernel_rfl)),
 f317:=Tryz.func304.trans (congrArg some (by kernel_rfl)),
 f318:=Tryz.func306.trans (congrArg some (by kernel_rfl)),
 f319:=Tryz.func307.trans (congrArg some (by kernel_rfl)),
 f320:=Tryz.func308.trans (congrArg some (by kernel_rfl)),
 f337:=Tryz.func324.trans (congrArg some (by kernel_rfl)),
 f338:=Tryz.func325.trans (congrArg some (by kernel_rfl)),
 t0:=Tryz.underlying0,
 a0:=Tryz.isAgg0,
 z0:=Tryz.sizeOf0,
 v0:=Tryz.zeroValue0,
 t2:=Tryz.underlying2,
 a2:=Tryz.isAgg2,
 z2:=Tryz.sizeOf2,
 v2:=Tryz.zeroValue2,
 t3:=Tryz.underlying3,
 a3:=Tryz.isAgg3,
 z3:=Tryz.sizeOf3,
 v3:=Tryz.zeroValue3,
 t4:=Tryz.underlying4,
 a4:=Tryz.isAgg4,
 z4:=Tryz.sizeOf4,
 v4:=Tryz.zeroValue4,
 t5:=Tryz.underlying5,
 a5:=Tryz.isAgg5,
 z5:=Tryz.sizeOf5,
 v5:=Tryz.zeroValue5,
 t9:=Tryz.underlying9,
 a9:=Tryz.isAgg9,
 z9:=Tryz.sizeOf9,
 v9:=Tryz.zeroValue9,
 t20:=Tryz.underlying20,
 a20:=Tryz.isAgg20,
 z20:=Tryz.sizeOf20,
 v20:=Tryz.zeroValue20,
 t37:=Tryz.underlying212,
 a37:=Tryz.isAgg212,
 z37:=Tryz.sizeOf212,
 v37:=Tryz.zeroValue212,
 t46:=Tryz.underlying290,
 a46:=Tryz.isAgg290,
 z46:=Tryz.sizeOf290,
 v46:=Tryz.zeroValue290,
 t51:=Tryz.underlying322,
 a51:=Tryz.isAgg322,
 z51:=Tryz.sizeOf322,
 v51:=Tryz.zeroValue322,
 t53:=Tryz.underlying301,
 a53:=Tryz.isAgg301,
 z53:=Tryz.sizeOf301,
 v53:=Tryz.zeroValue301,
 t171:=Tryz.underlying300,
 a171:=Tryz.isAgg300,
 z171:=Tryz.sizeOf300,
 v171:=Tryz.zeroValue300,
 t173:=Tryz.underlying304,
 a173:=Tryz.isAgg304,
 z173:=Tryz.sizeOf304,
 v173:=Tryz.zeroValue304,
 t212:=Tryz.underlying321,
 a212:=Tryz.isAgg321,
 z212:=Tryz.sizeOf321,
 v212:=Tryz.zeroValue321,
 t213:=Tryz.underlying323,
 a213:=Tryz.isAgg323,
 z213:=Tryz.sizeOf323,
 t232:=Tryz.underlying348,
 a232:=Tryz.isAgg348,
 z232:=Tryz.sizeOf348,
 v232:=Tryz.zeroValue348,
 t233:=Tryz.underlying349,
 a233:=Tryz.isAgg349,
 z233:=Tryz.sizeOf349,
 v233:=Tryz.zeroValue349,
 g17:=by kernel_rfl,
 g18:=by kernel_rfl,
 g19:=by kernel_rfl,
 i0:=by kernel_rfl,
 i2:=by kernel_rfl,
 i3:=by kernel_rfl,
 i4:=by kernel_rfl,
 i5:=by kernel_rfl,
 i9:=by kernel_rfl,
 i20:=by kernel_rfl,
 i37:=by kernel_rfl,
 i46:=by kernel_rfl,
 i51:=by kernel_rfl,
 i53:=by kernel_rfl,
 i171:=by kernel_rfl,
 i173:=by kernel_rfl,
 i212:=by kernel_rfl,
 i232:=by kernel_rfl,
 i233:=by kernel_rfl,
 m17:=by kernel_rfl,
 m18:=by kernel_rfl,
 m19:=by kernel_rfl}
end Go.Proofs
namespace Go.Proofs.Tryz
open Go.Psl
open Go.Log
open Go.RowKit
open Go.Sort
theorem Aa1 {W Wr:World} {g:Nat} {c:Array Value} (h:AO5 Wr g c) (h2:∀ k,k<Wr.heap.size->W.heap[k]?= Wr.heap[k]?):AO5 W g c:=by
 obtain ⟨T,fz,hb⟩:=h;exact ⟨T,fz,(h2 g (Array.getElem?_eq_some_iff.1 hb).1).trans hb⟩
theorem AZ6 {W:World} {g:Nat} {c:Array Value} (h:AO5 W g c) {name:String} (hn:prog.globalNamed name=some g):W.var? prog name=some c:=by
 obtain ⟨T,fz,hb⟩:=h;simp [World.var?,hn,hb]
theorem AZ7 {W:World} (h:AXq W):Go.Lib.TabIs prog W "internal/strconv.uint64pow10" .u64 Go.Lib.pow10Tab:=by
 obtain ⟨Wr,h1,h2⟩:=h;have:=h1 gPow (by decide)
 have h3:AO5 Wr gPow ((List.range 20).map fun i=>Value.int .u64 ((10^i:Nat):Int)).toArray:=by
   simpa [AQl,gPow,gMax,ASK,ASL] using this
 have h4:=AZ6 (Aa1 h3 h2) (name:= "internal/strconv.uint64pow10") itoaL.m17;unfold Go.Lib.TabIs;rw [h4];simp [Go.Lib.pow10Tab]
theorem AXK {W:World} {k:Nat} {os:Array Obj}:Below W.heap.size W (grow (W.drewN k) os):=by
 refine ⟨rfl,rfl,rfl,?_,fun b hb=>?_⟩
 . show W.heap.size<=(W.heap++os).size
   simp
 . show (W.heap++os)[b]?= _
   rw [Array.getElem?_append_left hb]
theorem ASU (n:Int) (h0: -9223372036854775808<=n) (h1:n<=9223372036854775807):Ct prog 61 [vi n] (vS (Go.Lib.itoa n)) []:=
 Cm.ofLit (vs0:=[.int .i64 n]) (v:= .string (bs (Go.Lib.itoa n))) ⟨_,func61,by kernel_rfl,by decide⟩ rfl fun W hW=>
   Calls.mono (Go.Proofs.Any.strconv_Itoa itoaL n h0 h1 W (AZ7 hW)) fun e W' ⟨he,k,os,hw⟩=>⟨he,by rw [hw];exact AXK,by rw [hw];exact Nat.le_add_right _ _⟩
open Go.Log (Rh)
theorem AZt {x:Int} (h1:0<=x) (h2:x<256):IntKind.wrap .u8 x=x:=by
 have:x%256=x:=by omega
 simpa [IntKind.wrap,IntKind.bits,IntKind.signed] using this
theorem AXe (m:Nat):∀ n:Int,0<=n->n.toNat<=m->n<100000000000000->Ct prog 65 [vi n] (vS (Rh n)) []:=by
 induction m using Nat.strongRecOn with
 | _ m ih=>
   intro n h0 h1 h2;have hn0:¬ n<0:=by omega
   by_cases h:n<10
   . have w2:IntKind.wrap .u8 (48+n)=48+n:=AZt (by omega) (by omega)
     have k1:(0:Int)<=48+n:=by omega
     have k2:48+n<256:=by omega
     have e:=AXb h0 h;clear ih h1;exact CW func65 c65
   . have q1:n.tdiv 10=n/10:=Int.tdiv_eq_ediv_of_nonneg h0
     have q2:n.tmod 10=n%10:=Int.tmod_eq_emod_of_nonneg h0;have c1:=ih (n/10).toNat (by omega) (n/10) (by omega) (by omega) (by omega);have c2:=ih (n%10).toNat (by omega) (n%10) (by omega) (by omega) (by omega);have l1:=gb (n/10) (by omega) (by omega);have l2:=gb (n%10) (by omega) (by omega);have e:=AZm (n:=n) (by omega);clear ih h1;exact CW func65 c65
theorem AJH (n:Int) (h0: -100000000000000<n) (h1:n<100000000000000):Ct prog 65 [vi n] (vS (Rh n)) []:=by
 by_cases h:n<0
 . have c1:=AXe _ (-n) (by omega) (Nat.le_refl _) (by omega)
   have l1:=gb (-n) (by omega) (by omega);have e:=AZl h;exact CW func65 c65
 . exact AXe _ n (by omega) (Nat.le_refl _) h1
theorem pp (x:Lim) (p w:Int) (hx:Rf x=true) (h1: -20000<=p) (h2:p<=20000) (h3: -1073741824<=w) (h4:w<=1073741824):Ct prog 277 [lmV x, .agg [vi p,vi w]] (vi (Ub x p w)) []:=by
 obtain ⟨q1,q2,q3,q4⟩:=dq hx h1 h2 h3 h4;obtain ⟨a1,a2,_⟩:=AWM hx;have w1:IntKind.wrap .i64 (x.b*p)=x.b*p:=AD (by omega) (by omega);have w2:IntKind.wrap .i64 (x.a+x.b*p)=x.a+x.b*p:=AD (by omega) (by omega);have w3:IntKind.wrap .i64 (w*(x.a+x.b*p))=w*(x.a+x.b*p):=AD (by unfold Ub at q3;omega) (by unfold Ub at q4;omega);refine CB func277 c277 fun E hE=>?_
 simp [p277,w1,w2,w3];apply RZ;simp [results277,Ub]
structure Cor where
 p:Int
 w:Int
 v:Int
def x5 (x:Lim) (s:Cor) (p w:Int):Cor:=if s.v<Ub x p w then ⟨p,w,Ub x p w⟩ else s
def stC (x:Lim) (l:Ldp):Nat->Cor
 | 0=>⟨l.al,l.wl,Ub x l.al l.wl⟩
 | 1=>x5 x ⟨l.al,l.wl,Ub x l.al l.wl⟩ l.ah l.wl
 | 2=>x5 x (x5 x ⟨l.al,l.wl,Ub x l.al l.wl⟩ l.ah l.wl) l.al l.wh
 | _=>x5 x (x5 x (x5 x ⟨l.al,l.wl,Ub x l.al l.wl⟩ l.ah l.wl) l.al l.wh) l.ah l.wh
def AV2 (x:Lim) (l:Ldp):Cor:=stC x l 3
theorem AZ1 (x:Lim) (s:Cor) (p w:Int):(x5 x s p w).v=max s.v (Ub x p w):=by
 unfold x5;split
 . show Ub x p w=_;omega
 . omega
theorem Aas (x:Lim) (l:Ldp):(AV2 x l).v=U1 x l:=by simp [AV2,stC,AZ1,U1]
abbrev corV (c:Cor):V:= .tup [.agg [vi c.p,vi c.w],vi c.v]
theorem rt (x:Lim) (l:Ldp) (hx:Rf x=true) (hl:Kl l=true):Ct prog 212 [lmV x,ldV l] (corV (AV2 x l)) []:=by
 have b:=cn hl;have c0:=pp x l.al l.wl hx (by omega) (by omega) (by omega) (by omega);have c1:=pp x l.ah l.wl hx (by omega) (by omega) (by omega) (by omega);have c2:=pp x l.al l.wh hx (by omega) (by omega) (by omega) (by omega);have c3:=pp x l.ah l.wh hx (by omega) (by omega) (by omega) (by omega);have z1:IntKind.wrap .i64 1=1:=by decide
 have z2:IntKind.wrap .i64 2=2:=by decide
 have z3:IntKind.wrap .i64 3=3:=by decide
 refine CB func212 c212 fun E hE=>?_
 simp [p212,AA];refine CLa c0 ?_;simp [AA,AM];refine Al (α:=Nat) (fun i=>⟨AO [(2, .lp 0 0),(4, .lp 1 0),(6, .lp 2 0),(7,vi (stC x l i).v),(42, .ls 3 0 3 2),(43,vi 3),(44,vi i)],lk [(0,[vi x.a,vi x.b,vi x.c]),(1,[vi 0,vi 0]),(2,[vi (stC x l i).p,vi (stC x l i).w]),(3,[vi l.ah,vi l.wl,vi l.al,vi l.wh,vi l.ah,vi l.wh])],4⟩) (fun i=>i<=3) (fun i=>3-i) 0 ?_ ?_ ?_
 . omega
 . refine AI.mk hE (lk [(0,0),(1,2097152),(2,11534336),(3,39845888)]) _ _ _ ?_ ?_ ?_ ?_ ?_<;>simp [stC]
 . intro i hi
   match i,hi with
   | 0,_=>
     simp [APS,AA];refine CLa c1 ?_;by_cases h:(stC x l 0).v<Ub x l.ah l.wl
     . simp [h,AA,z1]
       refine ⟨1,by omega,by omega,?_⟩;have e:stC x l 1=⟨l.ah,l.wl,Ub x l.ah l.wl⟩:=if_pos h;rw [e];exact WK hE (lk [(0,0),(1,1),(2,2),(3,3)])
     . simp [h,z1]
       refine ⟨1,by omega,by omega,?_⟩;have e:stC x l 1=stC x l 0:=if_neg h;rw [e];exact WK hE (lk [(0,0),(1,1),(2,2),(3,3)])
   | 1,_=>
     simp [APS,AA];refine CLa c2 ?_;by_cases h:(stC x l 1).v<Ub x l.al l.wh
     . simp [h,AA,z2]
       refine ⟨2,by omega,by omega,?_⟩;have e:stC x l 2=⟨l.al,l.wh,Ub x l.al l.wh⟩:=if_pos h;rw [e];exact WK hE (lk [(0,0),(1,1),(2,2),(3,3)])
     . simp [h,z2]
       refine ⟨2,by omega,by omega,?_⟩;have e:stC x l 2=stC x l 1:=if_neg h;rw [e];exact WK hE (lk [(0,0),(1,1),(2,2),(3,3)])
   | 2,_=>
     simp [APS,AA];refine CLa c3 ?_;by_cases h:(stC x l 2).v<Ub x l.ah l.wh
     . simp [h,AA,z3]
       refine ⟨3,by omega,by omega,?_⟩;have e:stC x l 3=⟨l.ah,l.wh,Ub x l.ah l.wh⟩:=if_pos h;rw [e];exact WK hE (lk [(0,0),(1,1),(2,2),(3,3)])
     . simp [h,z3]
       refine ⟨3,by omega,by omega,?_⟩;have e:stC x l 3=stC x l 2:=if_neg h;rw [e];exact WK hE (lk [(0,0),(1,1),(2,2),(3,3)])
   | 3,_=>
     simp [APS,AA];apply RZ;simp [results212,AV2]
   | n+4,h=>omega
abbrev Aaq (x:Lim):V:= .d (.lit (.func (.func 212) #[.agg #[.int .i64 x.a, .int .i64 x.b, .int .i64 x.c]] #[]))
abbrev AWL (c:Cor):List D:=[di c.p,di c.w]
theorem Aar:∀ c:Cor,(AWL c).length=2:=fun _=>rfl
def nb (x:Lim) (l:List Ldp) (i:Nat):List Cor:=(l.take i).map (AV2 x)
theorem AV7 {x:Lim} {l:List Ldp} {i:Nat} {y:Ldp} (h:l[i]?= some y):nb x l (i+1)=nb x l i++[AV2 x y]:=by
 unfold nb;rw [List.take_add_one,h];simp
theorem AYl {x:Lim} {l:List Ldp} {i:Nat} (h:i<=l.length):(nb x l i).length=i:=by unfold nb;simp;omega
def hdN (i sz:Nat):V:=if i=0 then .d (.lit (.slice none 0 0)) else .ls 0 0 i sz
def bkN (i:Nat) (cs:List V):List (Nat × List V):=if i=0 then [] else [(0,cs)]
theorem AXf {sz:Nat}:hdN 0 sz= .d (.lit (.slice none 0 0)):=rfl
theorem AXg {cs:List V}:bkN 0 cs=[]:=rfl
theorem l8 {i sz:Nat} (h:i≠0):hdN i sz= .ls 0 0 i sz:=if_neg h
theorem mb {i:Nat} {cs:List V} (h:i≠0):bkN i cs=[(0,cs)]:=if_neg h
theorem AZv (c:Cor):AH AWL [c]=[vi c.p,vi c.w]:=rfl
theorem AYm {x:Lim} {l:List Ldp} {i:Nat} {y:Ldp} (hy:l[i]?= some y) (hl:l.length<=40) (hx:Rf x=true) (ho:∀ y∈l,Kl y=true):IntKind.wrap .i64 (FB (U1 x) (l.take i)+U1 x y)=FB (U1 x) (l.take (i+1)):=by
 have hb:∀ y∈l, -21475910221824000<=U1 x y/\U1 x y<=21475910221824000:=fun y hy=>by
   have b:=cn (ho y hy);have b1:=(dq (p:=y.al) (w:=y.wl) hx (by omega) (by omega) (by omega) (by omega)).2.2;have b2:=(dq (p:=y.ah) (w:=y.wl) hx (by omega) (by omega) (by omega) (by omega)).2.2;have b3:=(dq (p:=y.al) (w:=y.wh) hx (by omega) (by omega) (by omega) (by omega)).2.2;have b4:=(dq (p:=y.ah) (w:=y.wh) hx (by omega) (by omega) (by omega) (by omega)).2.2;unfold U1;omega
 rw [<-hP hy];have b:=AWN (f:=U1 x) (b:=21475910221824000) (by omega) (l.take (i+1)) fun y hy=>hb y (List.mem_of_mem_take hy)
 have hn:=AVY l (i+1);have:(21475910221824000:Int)*(l.take (i+1)).length<=21475910221824000*40:=Int.mul_le_mul_of_nonneg_left (by omega) (by omega);exact AD (by omega) (by omega)
theorem AZw (x:Lim) (l:List Ldp) (hx:Rf x=true) (hl:l.length<=40) (ho:∀ y∈l,Kl y=true):Ct prog 211 [.d (Hl l),Aaq x] (.tup [vi (FB (U1 x) l),hdN l.length 2]) (bkN l.length (AH AWL (nb x l l.length))):=by
 have hri:LD (.tup [vi (FB (U1 x) l),hdN l.length 2]) (bkN l.length (AH AWL (nb x l l.length))):=by
   unfold hdN bkN;split<;>simp [LD]
 refine Ct.by gok eok mixed func211 c211 rfl (by simp [ntmps211]) (by simp) hri fun E hE=>?_
 simp [p211];refine Al (α:=Nat) (fun i=>⟨AO [(1,Aaq x),(6,vi (FB (U1 x) (l.take i))),(7,hdN i 2),(12, .d (Hl l)),(13,vi l.length),(14,vi i)],lk (bkN i (AH AWL (nb x l i))),1⟩) (fun i=>i<=l.length) (fun i=>l.length-i) 0 ?_ ?_ ?_
 . omega
 . rw [AXf,AXg]
   refine AI.mk hE (lk []) _ _ _ ?_ ?_ ?_ ?_ ?_<;>simp [FB]
 . intro i hi
   have hz:=@wz i (by omega);by_cases h:i<l.length
   . obtain ⟨y,hy⟩:=gE h
     have hI:(i:Int)<l.length:=by omega
     have c1:=rt x y hx (ho y (List.mem_of_getElem? hy));have w1:=AYm hy hl hx ho;have e1:=Aas x y;by_cases h0:i=0
     . have e3:hdN i 2= .d (.lit (.slice none 0 0)):=by rw [h0];rfl
       have e4:bkN i (AH AWL (nb x l i))=[]:=by rw [h0];rfl
       have e5:nb x l i=[]:=by rw [h0];rfl
       have e6:i+1=1:=by omega
       have e7:(i:Int)+1=1:=by omega
       rw [e3,e4];simp [AVu,hI,hy,AA];refine CLa c1 ?_;simp [AA,AM,hz,e1,w1];refine ⟨i+1,by omega,by omega,?_⟩;rw [l8 (by omega),mb (by omega),AV7 hy,e5];refine AI.mk hE (lk [(0,22020097)]) _ _ _ ?_ ?_ ?_ ?_ ?_<;>simp [AZv,e6,e7]
     . have e2:i+1≠0:=by omega
       have hsl:=Aw Aar (nb x l i);have hwh:=E9 Aar (nb x l i);rw [AYl hi] at hsl hwh;have n1:(i+1)*16<=140737488355328:=by omega
       have n2:i<=9223372036854775806:=by omega
       rw [l8 h0,mb h0];simp [AVu,hI,hy,AA];refine CLa c1 ?_;simp [AA,AM,hz,e1,w1,hsl,hwh,n1,n2];refine ⟨i+1,by omega,by omega,?_⟩;rw [l8 e2,mb e2,AV7 hy];refine AI.mk hE (lk [(0,22020097)]) _ _ _ ?_ ?_ ?_ ?_ ?_<;>simp [IV]
   . have hI:¬ (i:Int)<l.length:=by omega
     obtain rfl:i=l.length:=by omega
     by_cases h0:l.length=0
     . obtain rfl:l=[]:=List.length_eq_zero_iff.1 h0
       rw [List.length_nil,AXf,AXg];simp [AVu];apply RZ;simp [results211]
     . rw [l8 h0,mb h0]
       simp [AVu];refine AB.by (lk [(0,0)]) ?_;simp [results211]
abbrev AWx (x:Lim) (l:List Ldp):D:=slD AWL 2 (l.map (AV2 x))
theorem yH (x:Lim) (l:List Ldp) (hx:Rf x=true) (hl:l.length<=40) (ho:∀ y∈l,Kl y=true):Ct prog 211 [.d (Hl l),Aaq x] (.tup [vi (FB (U1 x) l), .d (AWx x l)]) []:=by
 refine Cm.freeze (AZw x l hx hl ho) ?_
 show Fz (lk (bkN l.length (AH AWL (nb x l l.length)))) (.tup [vi (FB (U1 x) l),hdN l.length 2]) (.tup [vi (FB (U1 x) l), .d (AWx x l)])
 have e:nb x l l.length=l.map (AV2 x):=by unfold nb;rw [List.take_length]
 rw [e];by_cases h0:l.length=0
 . obtain rfl:l=[]:=List.length_eq_zero_iff.1 h0
   exact ⟨.inl rfl, .inr ⟨rfl,_,rfl⟩,trivial⟩
 . rw [l8 h0,mb h0]
   have hb:Bor (lk [(0,AH AWL (l.map (AV2 x)))]) (.ls 0 0 (l.map (AV2 x)).length 2) (.d (AWx x l)):=B0 Aar (by simp);rw [List.length_map] at hb;exact ⟨.inl rfl,hb,trivial⟩
def bkL (l:List Ldp) (ls:List Lim):Option (Nat × Lim):=match Uj l ls with
 | some i=>(ls[i]?).map fun x=>(i,x)
 | none=>none
def AXB (l:List Ldp) (ls:List Lim):V:=match bkL l ls with
 | some (i,x)=> .agg [vi i, .d (AWx x l)]
 | none=> .agg [vi 0, .d (.lit (.slice none 0 0))]
theorem AXs {l:List Ldp} {ls:List Lim} {i:Nat} {x:Lim} (hx:ls[i]?= some x) (h:x.c<FB (U1 x) l) (hn:∀ j y,j<i->ls[j]?= some y->FB (U1 y) l<=y.c):Uj l ls=some i:=by
 unfold Uj;rw [List.findIdx?_eq_some_iff_getElem];obtain ⟨h1,h2⟩:=List.getElem?_eq_some_iff.1 hx;refine ⟨h1,by rw [h2];exact decide_eq_true h,fun j hj=>?_⟩;have:=hn j ls[j] hj (List.getElem?_eq_getElem (by omega));rw [decide_eq_false (by omega)];simp
theorem AZS {l:List Ldp} {ls:List Lim} (hn:∀ (j:Nat) y,ls[j]?= some y->FB (U1 y) l<=y.c):Uj l ls=none:=by
 unfold Uj;rw [List.findIdx?_eq_none_iff];intro p hp;obtain ⟨j,hj⟩:=List.getElem?_of_mem hp;have:=hn j p hj;exact decide_eq_false (by omega)
theorem Ry {l:List Lim} (h:F7 l=0):l.length<=12/\∀ x∈l,Rf x=true:=by
 unfold F7 at h;split at h
 . cases h
 . split at h
   . rename_i h1 h2
     exact ⟨by omega,fun x hx=>List.all_eq_true.1 h2 x hx⟩
   . cases h
theorem AXV {l:List Ldp} {ls:List Lim} {i:Nat} (h:Uj l ls=some i):i<ls.length:=by
 unfold Uj at h;rw [List.findIdx?_eq_some_iff_getElem] at h;exact h.1
theorem ll {l:List Ldp} {ls:List Lim} {i:Nat} {x:Lim} (hx:ls[i]?= some x) (h:Uj l ls=some i):AXB l ls= .agg [vi i, .d (AWx x l)]:=by
 simp [AXB,bkL,h,hx]
theorem l6 {l:List Ldp} {ls:List Lim} (h:Uj l ls=none):AXB l ls= .agg [vi 0, .d (.lit (.slice none 0 0))]:=by
 simp [AXB,bkL,h]
theorem qu (l:List Ldp) (ls:List Lim) (hl:l.length<=40) (ho:∀ y∈l,Kl y=true) (hn:ls.length<=12) (hx:∀ x∈ls,Rf x=true):Ct prog 129 [.d (Hl l), .d (p0 ls)] (.tup [AXB l ls,vb (Uj l ls).isSome]) []:=by
 have hri:LD (.tup [AXB l ls,vb (Uj l ls).isSome]) []:=by
   unfold AXB;split<;>simp [LD]
 refine Ct.by gok eok mixed func129 c129 rfl (by simp [ntmps129]) (by simp) hri fun E hE=>?_
 simp [p129];refine Al (α:=Nat) (fun i=>⟨AO [(0, .d (Hl l)),(4, .lp 0 0),(10, .d (p0 ls)),(11,vi ls.length),(12,vi i)],lk [(0,[vi 0, .d (.lit (.slice none 0 0))])],1⟩) (fun i=>i<=ls.length/\∀ j y,j<i->ls[j]?= some y->FB (U1 y) l<=y.c) (fun i=>ls.length-i) 0 ?_ ?_ ?_
 . exact ⟨by omega,fun j y hj=>by omega⟩
 . exact WK hE (lk [(0,0)])
 . rintro i ⟨hi,hb⟩
   have hz:=@wz i (by omega);by_cases h:i<ls.length
   . obtain ⟨x,hy⟩:=gE h
     have hI:(i:Int)<ls.length:=by omega
     have c1:=yH x l (hx x (List.mem_of_getElem? hy)) hl ho;by_cases h2:x.c<FB (U1 x) l
     . have e:=AXs hy h2 hb
       simp [AWV,hI,hy,AA];refine CLa c1 ?_;simp [AA,h2];apply RZ;simp [results129,e,ll hy e]
     . simp [AWV,hI,hy,AA]
       refine CLa c1 ?_;simp [h2,hz];refine ⟨i+1,⟨by omega,fun j y hj hy'=>?_⟩,by omega,?_⟩
       . by_cases e:j=i
         . subst e
           rw [hy] at hy';cases hy';omega
         . exact hb j y (by omega) hy'
       . exact WK hE (lk [(0,0)])
   . have hI:¬ (i:Int)<ls.length:=by omega
     have e:=AZS (l:=l) (ls:=ls) fun j y hy=>hb j y (by have:=(List.getElem?_eq_some_iff.1 hy).1;omega) hy
     simp [AWV,hI,AA];apply RZ;simp [results129,e,l6 e]
theorem Acu (l:List Ldp) (ls:List Lim) (h:F0 l=0) (hn:ls.length<=1000000):Ct prog 128 [.d (Hl l), .d (p0 ls)] (vi (F7 ls)) []:=by
 have c1:=AEF l (by have:=(Qd h).1;omega);rw [h] at c1;have c2:=Ab9 ls hn;refine CB func128 c128 fun E hE=>?_
 simp [p128];refine CLa c1 ?_;simp;refine CLa c2 ?_;simp;apply RZ;simp [results128]
theorem fn62 (l:List Ldp) (ls:List Lim) (h:F0 l=0) (h2:F7 ls=0):Ct prog 62 [.d (Hl l), .d (p0 ls)] (.tup [AXB l ls,vi (if (Uj l ls).isSome then 0 else 6)]) []:=by
 obtain ⟨hl,ho⟩:=Qd h;obtain ⟨hn,hx⟩:=Ry h2;have c1:=Acu l ls h (by omega);rw [h2] at c1;have c2:=qu l ls hl ho hn hx;cases hb:Uj l ls with
 | none=>
   rw [l6 hb,hb] at c2;rw [l6 hb];refine CB func62 c62 fun E hE=>?_
   simp [p62];refine CLa c1 ?_;simp;refine CLa c2 ?_;simp [AA];apply RZ;simp [results62]
 | some i=>
   obtain ⟨x,hy⟩:∃ x,ls[i]?= some x:=by
     have:i<ls.length:=by
       unfold Uj at hb;rw [List.findIdx?_eq_some_iff_getElem] at hb;exact hb.1
     exact ⟨_,List.getElem?_eq_getElem this⟩
   rw [ll hy hb,hb] at c2;rw [ll hy hb];refine CB func62 c62 fun E hE=>?_
   simp [p62];refine CLa c1 ?_;simp;refine CLa c2 ?_;simp [AA];apply RZ;simp [results62]
end Go.Proofs.Tryz
