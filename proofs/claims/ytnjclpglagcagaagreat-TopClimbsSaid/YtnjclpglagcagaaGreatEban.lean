/- Own lemmas, used by the last text. Conditions: those that each theorem states. -/
import Derived.Shelf.SlSortCmp.NoneTotal
import Derived.Test.YtnjclpglagcagaaGreatEbag
import Derived.Test.YtnjclpglagcagaaGreatEbah
import Derived.Test.YtnjclpglagcagaaGreatEbai
import Derived.Test.YtnjclpglagcagaaGreatEbaj
import Derived.Test.YtnjclpglagcagaaGreatEbak
import Derived.Test.YtnjclpglagcagaaGreatEbal
import Derived.Test.YtnjclpglagcagaaGreatEbam
set_option maxRecDepth 200000
set_option maxHeartbeats 8000000
namespace Go.Proofs.Tryz
open Go.Psl
open Go.Air
theorem AD1 (l:List Cel) (g:FuncId) (ds:List D) (q:Cel->Bool) (hl:l.length<=1000000000) (hg:∀ p∈l,Ct prog g (Ky p::ds.map .d) (vb (q p)) []):Ct prog 151 [.d (AX l), .d (.fn g ds)] (vi (ixF q l)) []:=by
 refine CB func151 c151 fun E hE=>?_
 simp [p151];refine Al (α:=Nat) (fun i=>⟨AO [(0, .d (AX l)),(1, .d (.fn g ds)),(7,vi l.length),(8,vi i)],lk [],0⟩) (fun i=>i<=l.length/\∀ j,j<i->(l[j]?).all (fun p=>!q p)=true) (fun i=>l.length-i) 0 ?_ ?_ ?_
 . exact ⟨by omega,fun j hj=>by omega⟩
 . exact WK hE (lk [])
 . rintro i ⟨hi,hg3⟩
   have hg2:∀ (j:Nat) (p:Cel),j<i->l[j]?= some p->q p=false:=fun j p hj hp=>by
     have:=hg3 j hj;rw [hp] at this;simpa using this
   have hz:=@wz i (by omega);simp [APK];refine Bh (fun h=>?_) (fun h=>?_)
   . simp at h
     obtain ⟨p,hp⟩:=gE h;simp [hp];refine CLa (hg p (List.mem_of_getElem? hp)) ?_;cases hq:q p
     . simp [hz]
       refine ⟨i+1,⟨by omega,fun j hj=>?_⟩,by omega,?_⟩
       . by_cases e:j=i
         . subst e;rw [hp];simp [hq]
         . exact hg3 j (by omega)
       . exact WK hE (lk [])
     . have e:ixF q l=i:=IY hp hq fun j y hj hy=>hg2 j y hj hy
       simp;apply RZ;simp [results151,e]
   . simp at h
     have e:ixF q l= -1:=IX fun j x hx=>hg2 j x (by have:=(List.getElem?_eq_some_iff.1 hx).1;omega) hx
     simp;apply RZ;simp [results151,e]
theorem yI (a b c d:Int) (h:(-100000000000000<=a/\a<=100000000000000)/\(-100000000000000<=b/\b<=100000000000000)/\(-100000000000000<=c/\c<=100000000000000)/\ -100000000000000<=d/\d<=100000000000000):Ct prog 145 [vsp a b,vsp c d] (vsp (a+c) (b+d)) []:=by
 have w1:IntKind.wrap .i64 (a+c)=a+c:=AD (by omega) (by omega);have w2:IntKind.wrap .i64 (b+d)=b+d:=AD (by omega) (by omega);refine CB func145 c145 fun E hE=>?_
 simp [p145,AA,w1,w2];apply RZ;simp [results145]
theorem rV (a b:Int) (h:(-100000000000000<=a/\a<=100000000000000)/\ -100000000000000<=b/\b<=100000000000000):Ct prog 147 [vsp a b] (vsp (6*a) (6*b)) []:=by
 have w1:IntKind.wrap .i64 (6*a)=6*a:=AD (by omega) (by omega);have w2:IntKind.wrap .i64 (6*b)=6*b:=AD (by omega) (by omega);refine CB func147 c147 fun E hE=>?_
 simp [p147,AA,w1,w2];apply RZ;simp [results147]
theorem SJ (a b c d:Int):Ct prog 50 [.d (Ch [a,b,c,d])] (vi (if a=0 then (if b=0 then (if c=0 then d else c) else b) else a)) []:=by
 have ww1:IntKind.wrap .i64 1=1:=by decide
 have ww2:IntKind.wrap .i64 2=2:=by decide
 have ww3:IntKind.wrap .i64 3=3:=by decide
 have ww4:IntKind.wrap .i64 4=4:=by decide
 refine CB func50 c50 fun E hE=>?_
 simp [p50];refine Al (α:=Nat) (fun k=>⟨AO [(5, .d (Ch [a,b,c,d])),(6,vi 4),(7,vi k)],lk [],0⟩) (fun k=>k<=4/\(0<k->a=0)/\(1<k->b=0)/\(2<k->c=0)/\(3<k->d=0)) (fun k=>4-k) 0 ?_ ?_ ?_
 . omega
 . exact WK hE (lk [])
 . rintro i ⟨hi,h1,h2,h3,h4⟩
   match i,hi,h1,h2,h3,h4 with
   | 0,_,_,_,_,_=>
     by_cases h:a=0
     . simp [bC,h,ww1]
       refine ⟨1,⟨by omega,by omega⟩,by omega,?_⟩;exact WK hE (lk [])
     . simp [bC,h]
       apply RZ;simp [results50]
   | 1,_,h1,_,_,_=>
     have h1:=h1 (by omega);by_cases h:b=0
     . simp [bC,h,ww2]
       refine ⟨2,?_,by omega,?_⟩
       . simp [h1]
       exact WK hE (lk [])
     . simp [bC,h]
       apply RZ;simp [results50,h1]
   | 2,_,h1,h2,_,_=>
     have h1:=h1 (by omega);have h2:=h2 (by omega);by_cases h:c=0
     . simp [bC,h,ww3]
       refine ⟨3,?_,by omega,?_⟩
       . simp [h1,h2]
       exact WK hE (lk [])
     . simp [bC,h]
       apply RZ;simp [results50,h1,h2]
   | 3,_,h1,h2,h3,_=>
     have h1:=h1 (by omega);have h2:=h2 (by omega);have h3:=h3 (by omega);by_cases h:d=0
     . simp [bC,h,ww4]
       refine ⟨4,?_,by omega,?_⟩
       . simp [h1,h2,h3]
       exact WK hE (lk [])
     . simp [bC,h]
       apply RZ;simp [results50,h1,h2,h3]
   | 4,_,h1,h2,h3,h4=>
     have h1:=h1 (by omega);have h2:=h2 (by omega);have h3:=h3 (by omega);have h4:=h4 (by omega);simp [bC];apply RZ;simp [results50,h1,h2,h3,h4]
   | i+5,hi,_,_,_,_=>omega
abbrev LI (k:Sky) (r:Rig):List D:=[BF k.s,cT k.w,An r.reg,di r.gl,di r.gh,di r.tank,di r.rsv,di r.lo,di r.hi]
abbrev D2 (k:Sky) (r:Rig):V:= .d (.ref (LI k r))
theorem ASj (hS:SortOk) (k:Sky) (r:Rig) (s h:Int × Int) (hr:r.reg.length<=1000000):Ct prog 156 [D2 k r,vsp s.1 s.2,vsp h.1 h.2] (vb (Il r.reg s h)) []:=by
 have c1:=AAF hS r.reg (s.1,h.1) (by omega);have c2:=AAF hS r.reg (s.1,h.2) (by omega);have c3:=AAF hS r.reg (s.2,h.1) (by omega);have c4:=AAF hS r.reg (s.2,h.2) (by omega);have z1:IntKind.wrap .i64 1=1:=by decide
 have z2:IntKind.wrap .i64 2=2:=by decide
 unfold Il
 generalize inV r.reg (s.1,h.1)=b1 at*
 generalize inV r.reg (s.1,h.2)=b2 at*
 generalize inV r.reg (s.2,h.1)=b3 at*
 generalize inV r.reg (s.2,h.2)=b4 at*
 generalize Yj r.reg=e at*
 simp only at c1 c2 c3 c4;refine CB func156 c156 fun E hE=>?_
 simp [p156,AA];refine Al (α:=Nat) (fun i=>⟨AO [(0,D2 k r),(4, .lp 0 0),(5, .lp 1 0),(17, .agg [vi s.1,vi s.2]),(18,vi i)],lk [(0,[vi s.1,vi s.2]),(1,[vi h.1,vi h.2])],2⟩) (fun i=>i<=2/\(0<i->b1=true/\b2=true)/\(1<i->b3=true/\b4=true)) (fun i=>2-i) 0 ?_ ?_ ?_
 . omega
 . exact WK hE (lk [(0,0),(1,1048576)])
 . rintro i ⟨hi,h1,h2⟩
   match i,hi,h1,h2 with
   | 0,_,_,_=>
     simp [AMy,AA];refine Al (α:=Nat) (fun j=>⟨AO [(0,D2 k r),(4, .lp 0 0),(5, .lp 1 0),(8,vi s.1),(17, .agg [vi s.1,vi s.2]),(18,vi 0),(25, .agg [vi h.1,vi h.2]),(26,vi j)],lk [(0,[vi s.1,vi s.2]),(1,[vi h.1,vi h.2])],2⟩) (fun j=>j<=2/\(0<j->b1=true)/\(1<j->b2=true)) (fun j=>2-j) 0 ?_ ?_ ?_
     . omega
     . exact WK hE (lk [(0,0),(1,1)])
     . rintro j ⟨hj,g1,g2⟩
       match j,hj,g1,g2 with
       | 0,_,_,_=>
         simp [AL9,AA];refine CLa c1 ?_;cases b1
         . simp
           apply RZ;simp [results156]
         . simp [z1]
           refine ⟨1,by simp,by omega,?_⟩;exact WK hE (lk [(0,0),(1,1)])
       | 1,_,g1,_=>
         have g1:=g1 (by omega);subst g1;simp [AL9,AA];refine CLa c2 ?_;cases b2
         . simp
           apply RZ;simp [results156]
         . simp [z2]
           refine ⟨2,by simp,by omega,?_⟩;exact WK hE (lk [(0,0),(1,1)])
       | 2,_,g1,g2=>
         have g1:=g1 (by omega);have g2:=g2 (by omega);simp [AL9,z1];refine ⟨1,by simp [g1,g2],by omega,?_⟩;exact WK hE (lk [(0,0),(1,1)])
       | j+3,hj,_,_=>omega
   | 1,_,h1,_=>
     obtain ⟨h3,h4⟩:=h1 (by omega);subst h3 h4;simp [AMy,AA];refine Al (α:=Nat) (fun j=>⟨AO [(0,D2 k r),(4, .lp 0 0),(5, .lp 1 0),(8,vi s.2),(17, .agg [vi s.1,vi s.2]),(18,vi 1),(25, .agg [vi h.1,vi h.2]),(26,vi j)],lk [(0,[vi s.1,vi s.2]),(1,[vi h.1,vi h.2])],2⟩) (fun j=>j<=2/\(0<j->b3=true)/\(1<j->b4=true)) (fun j=>2-j) 0 ?_ ?_ ?_
     . omega
     . exact WK hE (lk [(0,0),(1,1)])
     . rintro j ⟨hj,g1,g2⟩
       match j,hj,g1,g2 with
       | 0,_,_,_=>
         simp [AL9,AA];refine CLa c3 ?_;cases b3
         . simp
           apply RZ;simp [results156]
         . simp [z1]
           refine ⟨1,by simp,by omega,?_⟩;exact WK hE (lk [(0,0),(1,1)])
       | 1,_,g1,_=>
         have g1:=g1 (by omega);subst g1;simp [AL9,AA];refine CLa c4 ?_;cases b4
         . simp
           apply RZ;simp [results156]
         . simp [z2]
           refine ⟨2,by simp,by omega,?_⟩;exact WK hE (lk [(0,0),(1,1)])
       | 2,_,g1,g2=>
         have g1:=g1 (by omega);have g2:=g2 (by omega);simp [AL9,z2];refine ⟨2,by simp [g1,g2],by omega,?_⟩;exact WK hE (lk [(0,0),(1,1)])
       | j+3,hj,_,_=>omega
   | 2,_,h1,h2=>
     obtain ⟨h3,h4⟩:=h1 (by omega);obtain ⟨h5,h6⟩:=h2 (by omega);simp [AMy];apply RZ;simp [results156,h3,h4,h5,h6]
   | i+3,hi,_,_=>omega
abbrev e0 (k:Sky):Int:=if BV k then 0 else 50
abbrev e1 (r:Rig):Int:=if CF r then 0 else 51
def QG (k:Sky) (r:Rig) (a b:Int):Int:=if e0 k=0 then (if e1 r=0 then (if a=0 then b else a) else e1 r) else e0 k
theorem XK (hS:SortOk) (k:Sky) (r:Rig) (a b:Int) (h1:k.s.length<=1000000) (h2:k.w.length<=1000000) (h3:r.reg.length<=1000000) (he:¬ QG k r a b=0):Ct prog 37 [Eu k,Fj r, .d (Ch [a,b])] (.tup [.d (.lit (.pointer none)),vi (QG k r a b)]) []:=by
 have c1:=AFl k h1 h2;have c2:=AEE hS r (by omega);have c3:=SJ (e0 k) (e1 r) a b;obtain ⟨e,hee⟩:∃ e,QG k r a b=e:=⟨_,rfl⟩
 have c3':Ct prog 50 [.d (Ch [e0 k,e1 r,a,b])] (vi e) []:=by rw [<-hee];exact c3
 rw [hee] at he ⊢;have c1':Ct prog 52 [Eu k] (vi (e0 k)) []:=c1;have c2':Ct prog 87 [Fj r] (vi (e1 r)) []:=c2
 generalize e0 k=x0 at*
 generalize e1 r=x1 at*
 refine CB func37 c37 fun E hE=>?_
 simp [p37,inC,Nat.testBit];refine CLa c1' ?_;simp [inC,Nat.testBit];refine CLa c2' ?_;simp [AA,AM];refine CLb (c3') (by simp [tM]) ?_;simp [he];apply RZ;simp [results37]
theorem XL {k:Sky} {r:Rig} (hr:P5 r) {x y:Lev} (hx:k.s[0]?= some x) (hy:k.s[k.s.length-1]?= some y):rgB x.h y.h [r.lo,r.hi]=Ey k r:=by
 have h:=hr.h;unfold Ey aj rgB;rw [hx,hy];simp;rw [Bool.eq_iff_iff];simp;omega
theorem Sr {k:Sky} (h:BV k=true):OkS k.s:=by
 unfold BV at h;simp only [Bool.and_eq_true,decide_eq_true_eq] at h;refine B8.1 ?_;have:=h.1;unfold D3 at this;by_cases h:GC k.s=true
 . exact h
 . rw [if_neg h] at this;simp at this
theorem XM (hS:SortOk) (k:Sky) (r:Rig) (h1:k.s.length<=1000000) (h2:k.w.length<=1000000) (h3:r.reg.length<=1000000) (hk:BV k=true) (hr:CF r=true) (hg:Ey k r=false):Ct prog 37 [Eu k,Fj r, .d (Ch [0,0])] (.tup [.d (.lit (.pointer none)),vi 2]) []:=by
 have c1:=AFl k h1 h2;have c2:=AEE hS r (by omega);have c3:=SJ 0 0 0 0;rw [hk] at c1;rw [hr] at c2;have hl:=(Sr hk).len;obtain ⟨x,hx⟩:∃ x,k.s[0]?= some x:=⟨_,List.getElem?_eq_getElem (by omega)⟩
 obtain ⟨y,hy⟩:∃ y,k.s[k.s.length-1]?= some y:=⟨_,List.getElem?_eq_getElem (by omega)⟩
 have c4:=mM x.h y.h [r.lo,r.hi] (by simp);rw [XL (Hy hr) hx hy,hg] at c4;have w1:IntKind.wrap .i64 ((k.s.length:Int)-1)=((k.s.length-1:Nat):Int):=by rw [AD (by omega) (by omega)];omega
 have hI0:(0:Int)<k.s.length:=by omega
 obtain ⟨j,hj⟩:∃ j,k.s.length-1=j:=⟨_,rfl⟩
 rw [hj] at w1 hy;have hI1:(j:Int)<k.s.length:=by omega
 refine CB func37 c37 fun E hE=>?_
 simp [p37,inC,Nat.testBit];refine CLa c1 ?_;simp [inC,Nat.testBit];refine CLa c2 ?_;simp [AA,AM];refine CLb (c3) (by simp [tM]) ?_;simp [AA,AM,inC,Nat.testBit,hx,hy,w1];refine CLb (c4) (by simp [Ap]) ?_;simp;apply RZ;simp [results37]
theorem C6 {H:Hp} {a b c d:Nat}:Fi H (.ls a b c d) (.ls a b c d):=⟨rfl,rfl,rfl,rfl⟩
theorem AGK (p:Plt) (h:Ar p=true):Ct prog 56 [Cy p (.d (AX p.cs)),BZ ⟨7,0,0,1⟩] (doV (.ok (tkQ p))) []:=by
 have:=do_7 p ⟨7,0,0,1⟩ h rfl rfl;have e:doS p ⟨7,0,0,1⟩= .ok (tkQ p):=by simp [doS,h,g7,Md h]
 rwa [e] at this
abbrev shB (s:Shp):List V:=[vi s.xl,vi s.xh,vi s.yl,vi s.yh,vi s.hl,vi s.hh,vi s.fl,vi s.fh,vi s.wl,vi s.wh,vi s.bl,vi s.bh,vi s.dry,vi s.bal,vi s.drp, .d (AX s.gas.cs),vi s.gas.bt,vi s.gas.ih,vi s.gas.ia,vi s.gas.vh,vi s.gas.va,vi s.gas.lh,vi s.gas.la,vi s.gas.ph,vi s.gas.pa]
abbrev lgB (l:Leg):List V:=[vi l.m,vi l.axl,vi l.axh,vi l.ayl,vi l.ayh,vi l.ul,vi l.uh,vi l.bl,vi l.bh,vi l.dr, .d (JZ l.acts)]
abbrev WX (a:Atm):List D:=[di a.pl,di a.ph,di a.tl,di a.th]
theorem wL (k:Sky) (r:Rig) (a b:Int):Ct prog 148 [.d (.ref [di a,di b]), .d (.ref [.ref (LI k r)])] (vb (decide (a<r.lo))) []:=by
 refine CB func148 c148 fun E hE=>?_
 simp [p148];apply RZ;simp [results148]
theorem ASn (k:Sky) (r:Rig) (a b:Int):Ct prog 149 [.d (.ref [di a,di b]), .d (.ref [.ref (LI k r)])] (vb (decide (r.hi<b))) []:=by
 refine CB func149 c149 fun E hE=>?_
 simp [p149];apply RZ;simp [results149]
theorem AEC (k:Sky) (r:Rig) (s:Shp):Ct prog 153 [.d (.ref (Ca s)), .d (.ref [.ref (LI k r)])] (vb (decide (s.fl<r.rsv))) []:=by
 refine CB func153 c153 fun E hE=>?_
 simp [p153];apply RZ;simp [results153]
theorem ASo (s:Shp):Ct prog 158 [.d (.ref (Ca s))] (vb (!UC s)) []:=by
 have c:=oz (-10000000) 10000000 [(s.xl,s.xh),(s.yl,s.yh)] (by simp);simp only [List.all_cons,List.all_nil,Bool.and_true] at c;unfold UC
 generalize (spB (-10000000) 10000000 s.xl s.xh&&spB (-10000000) 10000000 s.yl s.yh)=b at*
 refine CB func158 c158 fun E hE=>?_
 simp [p158,AA,AM];refine CLb (c) (by simp [AQ]) ?_;simp;apply RZ;simp [results158]
theorem ACl (c:Cel) (a:Atm) (hc:B5 c) (ha:Fx a):Ct prog 152 [Ky c, .d (.ref (WX a))] (vb (EK a c)) []:=by
 have c1:=AJE c a hc ha;unfold EK
 generalize decide (Lh c a=1)=b at*
 refine CB func152 c152 fun E hE=>?_
 simp [p152];refine CLa c1 ?_;simp;apply RZ;simp [results152]
theorem AED (s:Shp) (a:Atm) (x:Int) (hs:∀ c∈s.gas.cs,B5 c) (hl:s.gas.cs.length<=1000000) (ha:Fx a):Cm prog 150 [.d (.ref (Ca s)), .d (.ref (WX a)), .lp 0 0] (lk [(0,[vi x])]) [0] (.ret (vb (decide (0<=ixF (EK a) s.gas.cs)))) (lk [(0,[vi (ixF (EK a) s.gas.cs)])]):=by
 have c1:=AD1 s.gas.cs 152 [.ref (WX a)] (EK a) (by omega) fun c hc=>ACl c a (hs c hc) ha
 generalize ixF (EK a) s.gas.cs=n at*
 refine CM 1 func150 c150 fun E hs hE=>?_
 simp [p150];refine CLa c1 ?_;simp [AA];refine AB.by (lk [(0,0)]) ?_;simp [results150]
theorem ACk (hS:SortOk) (k:Sky) (r:Rig) (n s:Shp) (l:Leg) (a:Atm) (hr:r.reg.length<=1000000) (hl:Wn l) (hb:VU (KG s n)) (ha:Fx a):Ct prog 154 [.d (.ref (Ca n)), .d (.ref (Ca s)), .d (.ref (Pi l)), .d (.ref [.ref (LI k r)]), .d (.ref (WX a))] (vb (!Il r.reg (N1 l) (hvS (KG s n) a))) []:=by
 have c1:=UA l.axl l.axh l.ayl l.ayh ⟨hl.x,hl.y⟩;have c2:=iw (KG s n) a hb ha;have c3:=ASj hS k r (N1 l) (hvS (KG s n) a) hr;have c1':Ct prog 155 [wd4 l.axl l.axh l.ayl l.ayh] (.tup [vsp (N1 l).1 (N1 l).2,vi 0]) []:=c1
 generalize N1 l=sp at*
 generalize hvS (KG s n) a=hv at*
 generalize Il r.reg sp hv=b at*
 unfold KG at c2;simp only at c2;refine CB func154 c154 fun E hE=>?_
 simp [p154,AA];refine AL [(23,2097152),(25,2097152)] (by kernel_rfl) ?_;simp [AA,inC,Nat.testBit];refine CLa c1' ?_;simp [AA,inC,Nat.testBit];refine CLb (c2) (by first | (simp;done) | simp [Bk,CP,inC,Nat.testBit]) ?_;simp;refine CLa c3 ?_;simp;apply RZ;simp [results154]
abbrev evV (k l m c:Int):V:= .agg [vi k,vi l,vi m,vi c]
def Jx (k:Sky) (r:Rig) (s:Shp) (l:Leg):V:=if (ER k r s l).1=0 then .tup [Cl (Cj k r s l) (.d (AX (Cj k r s l).gas.cs)),evV 0 0 0 0] else .tup [.agg shZ,evV (ER k r s l).1 0 0 (ER k r s l).2]
theorem fp (k:Sky) (r:Rig) (s:Shp) (l:Leg):AV (InB []) AR (Jx k r s l):=by
 unfold Jx;split<;>simp
theorem qG (hS:SortOk) (k:Sky) (r:Rig) (s:Shp) (l:Leg) (h1:k.s.length<=1000000) (h2:k.w.length<=1000000) (h3:r.reg.length<=1000000) (hk:BV k=true) (hR:CF r=true) (hg:Ey k r=true) (hs:A6 s=true) (hl:BE l=true):Ct prog 118 [D2 k r,Cl s (.d (AX s.gas.cs)),AKx l] (Jx k r s l) []:=by
 have sB:=GT hs;have sX:=AAb hs;have lB:=Mf hl;have rB:=Hy hR;have hW:=mV hk;have b1:=sB.h;have b2:=sB.f;have b3:=sB.w;have b4:=sX.b;have b5:=sX.x;have b6:=sX.y;have l1:=lB.u;have l2:=lB.b;have l3:=lB.x;have l4:=lB.y;have g1:=rB.g;have g2:=rB.t;have o:=jd sB lB;have wb:=kQ hW o;have ge:=Me l2 g1;have p0:0<=l.bl*r.gl:=Int.mul_nonneg (by omega) (by omega);have p1:l.bh*r.gh<=1000000*120:=Int.mul_le_mul (by omega) (by omega) (by omega) (by omega);have p2:l.bl*r.gl<=l.bh*r.gh:=Int.mul_le_mul (by omega) (by omega) (by omega) (by omega);have eg:(Ja (l.bl,l.bh) (r.gl,r.gh) (100,100)).1=DY r l:=rfl
 have gb:(0<=(DY r l).1/\(DY r l).1<=1200000)/\0<=(DY r l).2/\(DY r l).2<=1200001:=by
   rw [<-eg,ge];simp only;omega
 have c1:=AGK s.gas (CR hs);have c2:=yI s.hl s.hh l.ul l.uh (by omega);have c3:=yI s.bl s.bh l.bl l.bh (by omega);have c4:=zW (l.bl,l.bh) (r.gl,r.gh) (100,100)
 have c4':Ct prog 146 [vsp l.bl l.bh,vsp r.gl r.gh,vsp 100 100] (.tup [vsp (DY r l).1 (DY r l).2,vi 0]) []:=by
   unfold vse at c4;rw [eg,ge] at c4;exact c4
 have c5:=yI s.wl s.wh (DY r l).1 (DY r l).2 (by omega);have eh:mhS s l=(min s.hl (s.hl+l.ul),max s.hh (s.hh+l.uh)):=rfl
 have ew:Lg k.w (mhS s l)=0:=by
   unfold Lg;have:Dr k.w=true:=by unfold BV at hk;simp only [Bool.and_eq_true] at hk;exact hk.2
   rw [this,CT.2 (by rw [eh] at o ⊢;simp only at o ⊢;omega)];rfl
 have c6:=fn23 k.w (mhS s l) h2;rw [ew,show Nn k.w (mhS s l)=(Jr k.w (mhS s l),Js k.w (mhS s l)) by unfold Nn;rw [ew];rfl] at c6;have c11:=Ef k.s (mhS s l).1 (mhS s l).2 h1;obtain ⟨wx,hwx⟩:∃ wx,Jr k.w (mhS s l)=wx:=⟨_,rfl⟩
 obtain ⟨wy,hwy⟩:∃ wy,Js k.w (mhS s l)=wy:=⟨_,rfl⟩
 rw [hwx,hwy] at c6 wb;have c7:=yI l.axl l.axh wx.1 wx.2 (by omega);have c7':=rV (l.axl+wx.1) (l.axh+wx.2) (by omega);have c8:=yI s.xl s.xh (6*(l.axl+wx.1)) (6*(l.axh+wx.2)) (by omega);have c9:=yI l.ayl l.ayh wy.1 wy.2 (by omega);have c9':=rV (l.ayl+wy.1) (l.ayh+wy.2) (by omega);have c10:=yI s.yl s.yh (6*(l.ayl+wy.1)) (6*(l.ayh+wy.2)) (by omega)
 have en:Cj k r s l={s with
   xl:=s.xl+6*(l.axl+wx.1),xh:=s.xh+6*(l.axh+wx.2),yl:=s.yl+6*(l.ayl+wy.1),yh:=s.yh+6*(l.ayh+wy.2)
   hl:=s.hl+l.ul,hh:=s.hh+l.uh,fl:=s.fl-l.bh,fh:=s.fh-l.bl
   wl:=min (s.wl+(DY r l).1) r.tank,wh:=min (s.wh+(DY r l).2) r.tank
   bl:=s.bl+l.bl,bh:=s.bh+l.bh,gas:=tkQ s.gas}:=by unfold Cj;rw [hwx,hwy]
 obtain ⟨H,hH⟩:∃ H,mhS s l=H:=⟨_,rfl⟩
 obtain ⟨A,hA⟩:∃ A,(atA k.s (mhS s l).1 (mhS s l).2).1=A:=⟨_,rfl⟩
 obtain ⟨AE,hAE⟩:∃ AE,(atA k.s (mhS s l).1 (mhS s l).2).2=AE:=⟨_,rfl⟩
 have c11':Ct prog 53 [.d (BF k.s),vsp H.1 H.2] (.tup [Ox A,vi AE]) []:=by
   rw [<-hA,<-hAE,<-hH];exact c11
 have m1:min s.hl (s.hl+l.ul)=H.1:=by rw [<-hH];rfl
 have m2:max s.hh (s.hh+l.uh)=H.2:=by rw [<-hH];rfl
 rw [hH] at c6;have w1:IntKind.wrap .i64 (s.fl-l.bh)=s.fl-l.bh:=AD (by omega) (by omega);have w2:IntKind.wrap .i64 (s.fh-l.bl)=s.fh-l.bl:=AD (by omega) (by omega)
 generalize DY r l=G at*
 obtain ⟨N,hN⟩:∃ N,Cj k r s l=N:=⟨_,rfl⟩
 rw [hN] at en;have n1:s.xl+6*(l.axl+wx.1)=N.xl/\s.xh+6*(l.axh+wx.2)=N.xh/\s.yl+6*(l.ayl+wy.1)=N.yl/\s.yh+6*(l.ayh+wy.2)=N.yh:=by rw [en];exact ⟨rfl,rfl,rfl,rfl⟩
 have n2:s.hl+l.ul=N.hl/\s.hh+l.uh=N.hh/\s.fl-l.bh=N.fl/\s.fh-l.bl=N.fh:=by rw [en];exact ⟨rfl,rfl,rfl,rfl⟩
 have n3:min (s.wl+G.1) r.tank=N.wl/\min (s.wh+G.2) r.tank=N.wh/\s.bl+l.bl=N.bl/\s.bh+l.bh=N.bh:=by rw [en];exact ⟨rfl,rfl,rfl,rfl⟩
 have n4:tkQ s.gas=N.gas/\s.dry=N.dry/\s.bal=N.bal/\s.drp=N.drp:=by rw [en];exact ⟨rfl,rfl,rfl,rfl⟩
 clear en;obtain ⟨x1,x2,x3,x4⟩:=n1;obtain ⟨x5,x6,x7,x8⟩:=n2;obtain ⟨x9,x10,x11,x12⟩:=n3;obtain ⟨x13,x14,x15,x16⟩:=n4;obtain ⟨CX,hCX⟩:∃ CX,ixF (EK A) N.gas.cs=CX:=⟨_,rfl⟩
 obtain ⟨TR,hTR⟩:∃ TR,Il r.reg (N1 l) (hvS (KG s N) A)=TR:=⟨_,rfl⟩
 obtain ⟨FB,hFB⟩:∃ FB,UC N=FB:=⟨_,rfl⟩
 have hev:ER k r s l=if H.1<r.lo then (1,0) else if r.hi<H.2 then (2,0) else if 0<=CX then (3,CX) else if N.fl<r.rsv then (4,0) else if TR=false then (5,0) else if FB=false then (6,0) else (0,0):=by
   unfold ER;rw [hA,hH,hN,x13,hCX,hTR,hFB,x7]
 have hcel:∀ c∈N.gas.cs,B5 c:=by rw [<-x13];exact Dx (Md (CR hs))
 have hcl:N.gas.cs.length<=12:=by rw [<-x13];exact CS (Md (CR hs))
 have hair:¬ H.1<r.lo->¬ r.hi<H.2->Fx A:=fun q1 q2=>by
   rw [<-hA];rw [hH] at o ⊢;exact aU (jc hk hg (by omega) o (by omega))
 have d1:=wL k r H.1 H.2;have d2:=ASn k r H.1 H.2;have d4:=AEC k r N;have d6:=ASo N;rw [hFB] at d6
 have d3:¬ H.1<r.lo->¬ r.hi<H.2->Cm prog 150 [.d (.ref (Ca N)), .d (.ref (WX A)), .lp 8 0] (lk [(8,[vi 0])]) [8] (.ret (vb (decide (0<=CX)))) (lk [(8,[vi CX])]):=fun q1 q2=>by
   have:=Cm.rename (fun _=>8) 1 (by omega) (AED N A 0 hcel (by omega) (hair q1 q2)) (by simp [BW]) (by simp [BW]) (by simp);rw [hCX] at this;simpa [Ea,HW] using this
 have d5:¬ H.1<r.lo->¬ r.hi<H.2->¬ N.fl<r.rsv->Ct prog 154 [.d (.ref (Ca N)), .d (.ref (Ca s)), .d (.ref (Pi l)), .d (.ref [.ref (LI k r)]), .d (.ref (WX A))] (vb (!TR)) []:=fun q1 q2 q3=>by
   have v1:=rB.v;have v2:=rB.h
   have hbb:VU (KG s N):=by
     unfold KG;refine ⟨by simp only;omega,by simp only;omega,by simp only;omega,?_,?_,hcl,hcel⟩
     . simp only;rw [<-x14];exact sB.d
     . simp only;rw [<-x15];exact sB.b
   have:=ACk hS k r N s l A h3 lB hbb (hair q1 q2);rw [hTR] at this;exact this
 simp only [doV] at c1;obtain ⟨RV,hRV⟩:∃ RV,Jx k r s l=RV:=⟨_,rfl⟩
 have hav:AV (InB []) AR RV:=by rw [<-hRV];exact fp k r s l
 rw [hRV];refine Ct.by gok eok mixed func118 c118 rfl (by simp [ntmps118]) (by simp) (by simp [LD];exact hav) fun E hE=>?_
 simp [p118,AA];refine CLa c1 ?_;simp [AA];refine CLa c2 ?_;simp [AA,m1,m2,inC,Nat.testBit,w1,w2];refine CLa c3 ?_;simp [AA];refine AL [(13,80740352)] (by kernel_rfl) ?_;simp [AA,inC,Nat.testBit];refine CLa c4' ?_;simp [AA,inC,Nat.testBit];refine CLa c5 ?_;simp [AA];refine AL [(20,6291456),(23,6291456)] (by kernel_rfl) ?_;simp [AA,inC,Nat.testBit];refine AL [(11,125829120)] (by kernel_rfl) ?_;simp [inC,Nat.testBit];refine CLa c6 ?_;simp [AA,inC,Nat.testBit];refine CLa c7 ?_;simp [inC,Nat.testBit];refine CLa c7' ?_;simp [inC,Nat.testBit];refine CLa c8 ?_;simp [inC,Nat.testBit];refine CLa c9 ?_;simp [inC,Nat.testBit];refine CLa c9' ?_;simp [inC,Nat.testBit];refine CLa c10 ?_;simp [AA];refine AL [(11,164626432)] (by kernel_rfl) ?_;simp [inC,Nat.testBit];refine CLa c11' ?_;simp [AA,AM,inC,Nat.testBit];refine Al (α:=Nat) (fun j=>⟨AO [(3, .lp 0 0),(4, .lp 1 0),(5, .lp 2 0),(6, .lp 3 0),(7, .lp 4 0),(8, .lp 5 0),(9, .lp 6 0),(14, .lp 7 0),(16, .lp 8 0),(164, .ls 9 0 6 2),(165,vi 6),(166,vi j)],lk [(0,[D2 k r]),(1,shB s),(2,lgB l),(3,shZ),(4,[vi 0,vi 0,vi 0,vi 0]),(5,shB N),(6,[vi H.1,vi H.2]),(7,[vi A.pl,vi A.ph,vi A.tl,vi A.th]),(8,[vi (if j<=2 then 0 else CX)]),(9,[vi 1, .cl 148 [.lp 6 0, .lp 0 0],vi 2, .cl 149 [.lp 6 0, .lp 0 0],vi 3, .cl 150 [.lp 5 0, .lp 7 0, .lp 8 0],vi 4, .cl 153 [.lp 5 0, .lp 0 0],vi 5, .cl 154 [.lp 5 0, .lp 1 0, .lp 2 0, .lp 0 0, .lp 7 0],vi 6, .cl 158 [.lp 5 0]])],10⟩) (fun j=>j<=6/\(0<j->¬ H.1<r.lo)/\(1<j->¬ r.hi<H.2)/\(2<j->¬ 0<=CX)/\(3<j->¬ N.fl<r.rsv)/\(4<j->TR=true)/\(5<j->FB=true)) (fun j=>6-j) 0 ?_ ?_ ?_
 . omega
 . refine AI.mk hE (lk [(0,0),(1,1048576),(2,2097152),(3,3145728),(4,4194304),(5,6291456),(6,40894464),(7,164626432),(8,167772160),(9,181403648)]) _ _ _ ?_ ?_ ?_ ?_ ?_<;>simp [x1,x2,x3,x4,x5,x6,x7,x8,x9,x10,x11,x12,x13,x14,x15,x16]
 . rintro j ⟨hj,q1,q2,q3,q4,q5,q6⟩
   match j,hj,q1,q2,q3,q4,q5,q6 with
   | 0,_,q1,q2,q3,q4,q5,q6=>
     have z:IntKind.wrap .i64 1=1:=by decide
     by_cases t:H.1<r.lo
     . have e:ER k r s l=(1,0):=by rw [hev,if_pos t]
       simp [ALS,AA];refine CLa d1 ?_;simp [t];refine AL [(6,3)] (by kernel_rfl) ?_;simp [AA,inC,Nat.testBit];apply RZ;simp [results118,<-hRV,Jx,e]
     . simp [ALS,AA]
       refine CLa d1 ?_;simp [t,z];refine ⟨1,⟨by omega,fun _=>by omega,fun h=>absurd h (by omega),fun h=>absurd h (by omega),fun h=>absurd h (by omega),fun h=>absurd h (by omega),fun h=>absurd h (by omega)⟩,by omega,?_⟩;exact WK hE (lk [(0,0),(1,1),(2,2),(3,3),(4,4),(5,5),(6,6),(7,7),(8,8),(9,9)])
   | 1,_,q1,q2,q3,q4,q5,q6=>
     have q1:=q1 (by omega);have z:IntKind.wrap .i64 2=2:=by decide
     by_cases t:r.hi<H.2
     . have e:ER k r s l=(2,0):=by rw [hev,if_neg q1,if_pos t]
       simp [ALS,AA];refine CLa d2 ?_;simp [t];refine AL [(6,3)] (by kernel_rfl) ?_;simp [AA,inC,Nat.testBit];apply RZ;simp [results118,<-hRV,Jx,e]
     . simp [ALS,AA]
       refine CLa d2 ?_;simp [t,z];refine ⟨2,⟨by omega,fun _=>by omega,fun _=>by omega,fun h=>absurd h (by omega),fun h=>absurd h (by omega),fun h=>absurd h (by omega),fun h=>absurd h (by omega)⟩,by omega,?_⟩;exact WK hE (lk [(0,0),(1,1),(2,2),(3,3),(4,4),(5,5),(6,6),(7,7),(8,8),(9,9)])
   | 2,_,q1,q2,q3,q4,q5,q6=>
     have q1:=q1 (by omega);have q2:=q2 (by omega);have z:IntKind.wrap .i64 3=3:=by decide
     by_cases t:0<=CX
     . have e:ER k r s l=(3,CX):=by rw [hev,if_neg q1,if_neg q2,if_pos t]
       simp [ALS,AA];refine CRs (d3 q1 q2) (by simp) ?_;simp [t];refine AL [(6,3)] (by kernel_rfl) ?_;simp [AA,inC,Nat.testBit];apply RZ;simp [results118,<-hRV,Jx,e,Int.max_eq_left t]
     . simp [ALS,AA]
       refine CRs (d3 q1 q2) (by simp) ?_;simp [t,z];refine ⟨3,⟨by omega,fun _=>by omega,fun _=>by omega,fun _=>by omega,fun h=>absurd h (by omega),fun h=>absurd h (by omega),fun h=>absurd h (by omega)⟩,by omega,?_⟩;exact WK hE (lk [(0,0),(1,1),(2,2),(3,3),(4,4),(5,5),(6,6),(7,7),(8,8),(9,9)])
   | 3,_,q1,q2,q3,q4,q5,q6=>
     have q1:=q1 (by omega);have q2:=q2 (by omega);have q3:=q3 (by omega);have z:IntKind.wrap .i64 4=4:=by decide
     have mx:max CX 0=0:=by omega
     by_cases t:N.fl<r.rsv
     . have e:ER k r s l=(4,0):=by rw [hev,if_neg q1,if_neg q2,if_neg q3,if_pos t]
       simp [ALS,AA];refine CLa d4 ?_;simp [t];refine AL [(6,3)] (by kernel_rfl) ?_;simp [AA,inC,Nat.testBit];apply RZ;simp [results118,<-hRV,Jx,e,mx]
     . simp [ALS,AA]
       refine CLa d4 ?_;simp [t,z];refine ⟨4,⟨by omega,fun _=>by omega,fun _=>by omega,fun _=>by omega,fun _=>by omega,fun h=>absurd h (by omega),fun h=>absurd h (by omega)⟩,by omega,?_⟩;exact WK hE (lk [(0,0),(1,1),(2,2),(3,3),(4,4),(5,5),(6,6),(7,7),(8,8),(9,9)])
   | 4,_,q1,q2,q3,q4,q5,q6=>
     have q1:=q1 (by omega);have q2:=q2 (by omega);have q3:=q3 (by omega);have q4:=q4 (by omega);have z:IntKind.wrap .i64 5=5:=by decide
     have mx:max CX 0=0:=by omega
     by_cases t:TR=false
     . have e:ER k r s l=(5,0):=by rw [hev,if_neg q1,if_neg q2,if_neg q3,if_neg q4,if_pos t]
       simp [ALS,AA];refine CLa (d5 q1 q2 q4) ?_;simp [t];refine AL [(6,3)] (by kernel_rfl) ?_;simp [AA,inC,Nat.testBit];apply RZ;simp [results118,<-hRV,Jx,e,mx]
     . simp [ALS,AA]
       refine CLa (d5 q1 q2 q4) ?_;simp [t,z];refine ⟨5,⟨by omega,fun _=>by omega,fun _=>by omega,fun _=>by omega,fun _=>by omega,fun h=>absurd h (by omega)⟩,by omega,?_⟩;exact WK hE (lk [(0,0),(1,1),(2,2),(3,3),(4,4),(5,5),(6,6),(7,7),(8,8),(9,9)])
   | 5,_,q1,q2,q3,q4,q5,q6=>
     have q1:=q1 (by omega);have q2:=q2 (by omega);have q3:=q3 (by omega);have q4:=q4 (by omega);have q5:=q5 (by omega);have z:IntKind.wrap .i64 6=6:=by decide
     have mx:max CX 0=0:=by omega
     by_cases t:FB=false
     . have e:ER k r s l=(6,0):=by rw [hev,if_neg q1,if_neg q2,if_neg q3,if_neg q4,if_neg (by rw [q5];simp),if_pos t]
       simp [ALS,AA];refine CLa d6 ?_;simp [t];refine AL [(6,3)] (by kernel_rfl) ?_;simp [AA,inC,Nat.testBit];apply RZ;simp [results118,<-hRV,Jx,e,mx]
     . simp [ALS,AA]
       refine CLa d6 ?_;simp [t,z];refine ⟨6,⟨by omega,fun _=>by omega,fun _=>by omega,fun _=>by omega,fun _=>by omega,fun _=>q5⟩,by omega,?_⟩;exact WK hE (lk [(0,0),(1,1),(2,2),(3,3),(4,4),(5,5),(6,6),(7,7),(8,8),(9,9)])
   | 6,_,q1,q2,q3,q4,q5,q6=>
     have q1:=q1 (by omega);have q2:=q2 (by omega);have q3:=q3 (by omega);have q4:=q4 (by omega);have q5:=q5 (by omega);have q6:=q6 (by omega);have e:ER k r s l=(0,0):=by rw [hev,if_neg q1,if_neg q2,if_neg q3,if_neg q4,if_neg (by rw [q5];simp),if_neg (by rw [q6];simp)]
     simp [ALS,AA];apply RZ;simp [results118,<-hRV,Jx,e,hN]
   | j+7,hj,_,_,_,_,_,_=>omega
def RB (a:Except (Int × Int × Int) Shp):V:=match a with
 | .ok n=> .tup [Cl n (.d (AX n.gas.cs)),evV 0 0 0 0,vi 0]
 | .error e=> .tup [.agg shZ,evV e.2.1 0 0 e.2.2,vi e.1]
theorem tR (hS:SortOk) (k:Sky) (r:Rig) (s:Shp) (l:Leg) (h1:k.s.length<=1000000) (h2:k.w.length<=1000000) (h3:r.reg.length<=1000000) (hk:BV k=true) (hR:CF r=true) (hg:Ey k r=true) (hs:A6 s=true) (hl:BE l=true):Ct prog 68 [D2 k r,Cl s (.d (AX s.gas.cs)),AKx l] (RB (HK k r s l)) []:=by
 have c1:=qG hS k r s l h1 h2 h3 hk hR hg hs hl;unfold Jx at c1;unfold HK;by_cases hz:(ER k r s l).1=0
 . rw [if_pos hz] at c1 ⊢
   have ebh:s.bh+l.bh=(Cj k r s l).bh:=rfl;rw [ebh]
   generalize Cj k r s l=N at*
   by_cases hf:1000000000000<N.bh
   . rw [if_pos hf]
     simp only [RB];refine CB func68 c68 fun E hE=>?_
     simp [p68];refine CLa c1 ?_;simp [AA,hf];refine AL [(2,2097152)] (by kernel_rfl) ?_;simp [AA,inC,Nat.testBit];apply RZ;simp [results68]
   . rw [if_neg hf]
     simp only [RB];refine CB func68 c68 fun E hE=>?_
     simp [p68];refine CLa c1 ?_;simp [AA,hf];refine AL [(2,2097152)] (by kernel_rfl) ?_;simp [AA,inC,Nat.testBit];apply RZ;simp [results68]
 . rw [if_neg hz] at c1 ⊢
   simp only [RB]
   generalize ER k r s l=e at*
   refine CB func68 c68 fun E hE=>?_
   simp [p68];refine CLa c1 ?_;simp [AA,hz];refine AL [(2,2097152)] (by kernel_rfl) ?_;simp [AA,inC,Nat.testBit];apply RZ;simp [results68]
theorem kp (hS:SortOk) (k:Sky) (r:Rig) (h1:k.s.length<=1000000) (h2:k.w.length<=1000000) (h3:r.reg.length<=1000000) (hk:BV k=true) (hr:CF r=true) (hg:Ey k r=true):Cm prog 37 [Eu k,Fj r, .ls 0 0 2 1] (lk [(0,[vi 0,vi 0])]) [] (.ret (.tup [.lp 0 0,vi 0])) (lk [(0,(LI k r).map .d)]):=by
 have c1:=AFl k h1 h2;have c2:=AEE hS r (by omega);have c3:=SJ 0 0 0 0;rw [hk] at c1;rw [hr] at c2;have hl:=(Sr hk).len;obtain ⟨x,hx⟩:∃ x,k.s[0]?= some x:=⟨_,List.getElem?_eq_getElem (by omega)⟩
 obtain ⟨y,hy⟩:∃ y,k.s[k.s.length-1]?= some y:=⟨_,List.getElem?_eq_getElem (by omega)⟩
 have c4:=mM x.h y.h [r.lo,r.hi] (by simp);rw [XL (Hy hr) hx hy,hg] at c4;have w1:IntKind.wrap .i64 ((k.s.length:Int)-1)=((k.s.length-1:Nat):Int):=by rw [AD (by omega) (by omega)];omega
 have hI0:(0:Int)<k.s.length:=by omega
 obtain ⟨j,hj⟩:∃ j,k.s.length-1=j:=⟨_,rfl⟩
 rw [hj] at w1 hy;have hI1:(j:Int)<k.s.length:=by omega
 refine CM 1 func37 c37 fun E hs hE=>?_
 simp [p37,inC,Nat.testBit];refine CLa c1 ?_;simp [inC,Nat.testBit];refine CLa c2 ?_;simp [AA,AM];refine CLb (c3) (by simp [tM]) ?_;simp [AA,AM,inC,Nat.testBit,hx,hy,w1];refine CLb (c4) (by simp [Ap]) ?_;simp [AA];refine AB.by (lk [(0,40894465)]) ?_;simp [results37]
theorem fd (ID:Nat) (hS:SortOk) (k:Sky) (r:Rig) (h1:k.s.length<=1000000) (h2:k.w.length<=1000000) (h3:r.reg.length<=1000000) (hk:BV k=true) (hr:CF r=true) (hg:Ey k r=true):Cm prog 37 [Eu k,Fj r, .ls ID 0 2 1] (lk [(ID,[vi 0,vi 0])]) [] (.ret (.tup [D2 k r,vi 0])) (lk []):=by
 have h:=Cm.freeze (r':= .tup [D2 k r,vi 0]) (kp hS k r h1 h2 h3 hk hr hg) (by
   refine ⟨?_, .inl rfl,trivial⟩;exact ⟨_,rfl,by simp⟩)
 have h0:Cm prog 37 [Eu k,Fj r, .ls 0 0 2 1] (lk [(0,[vi 0,vi 0])]) [] (.ret (.tup [D2 k r,vi 0])) (lk []):=h;have:=Cm.rename (fun _=>ID) 1 (by omega) h0 (by simp [BW]) (by simp [BW]) (by simp);simpa [Ea,HW] using this
theorem fn20 (hS:SortOk) (k:Sky) (r:Rig) (s:Shp) (l:Leg) (h1:k.s.length<=1000000) (h2:k.w.length<=1000000) (h3:r.reg.length<=1000000) (h4:s.gas.cs.length<=1000000) (h5:l.acts.length<=1000000):Ct prog 20 [Eu k,Fj r,Cl s (.d (AX s.gas.cs)),AKx l] (RB (cC k r s l)) []:=by
 have c1:=AEM s (by omega);have c2:=AJF l (by omega);obtain ⟨a,ha⟩:∃ a:Int,(if A6 s then 0 else 52)=a:=⟨_,rfl⟩
 obtain ⟨b,hb⟩:∃ b:Int,(if BE l then 0 else 53)=b:=⟨_,rfl⟩
 rw [ha] at c1;rw [hb] at c2;unfold cC;rw [hb];by_cases hz:JC k r s b=0
 . rw [if_pos hz]
   unfold JC at hz
   have hk:BV k=true:=by
     cases h:BV k
     . rw [h] at hz;simp at hz
     . rfl
   rw [hk,if_pos rfl] at hz
   have hR:CF r=true:=by
     cases h:CF r
     . rw [h] at hz;simp at hz
     . rfl
   rw [hR,if_pos rfl] at hz
   have hs:A6 s=true:=by
     cases h:A6 s
     . rw [h] at hz;simp at hz
     . rfl
   rw [hs,if_pos rfl] at hz
   have hb0:b=0:=by
     by_cases h:b=0
     . exact h
     . rw [if_neg h] at hz;exact absurd hz h
   rw [if_pos hb0] at hz
   have hg:Ey k r=true:=by
     cases h:Ey k r
     . rw [h] at hz;simp at hz
     . rfl
   have hl:BE l=true:=by
     cases h:BE l
     . rw [h] at hb;simp at hb;omega
     . rfl
   have ha0:a=0:=by rw [<-ha,hs];rfl
   subst ha0 hb0;have c3:=fd 13631488 hS k r h1 h2 h3 hk hR hg;have c4:=tR hS k r s l h1 h2 h3 hk hR hg hs hl;cases hm:HK k r s l with
   | ok n=>
     rw [hm] at c4;simp only [RB] at c4 ⊢;refine CB func20 c20 fun E hE=>?_
     simp [p20];refine AL [(7,13631488)] (by kernel_rfl) ?_;simp [inC,Nat.testBit];refine CLa c1 ?_;simp [inC,Nat.testBit];refine CLa c2 ?_;simp [AA,AM,inC,Nat.testBit];refine CDs c3 (by simp [wrL,inC,Nat.testBit]) ?_;simp;refine CLa c4 ?_;simp [AA];apply RZ;simp [results20]
   | error e=>
     rw [hm] at c4;simp only [RB] at c4 ⊢;refine CB func20 c20 fun E hE=>?_
     simp [p20];refine AL [(7,13631488)] (by kernel_rfl) ?_;simp [inC,Nat.testBit];refine CLa c1 ?_;simp [inC,Nat.testBit];refine CLa c2 ?_;simp [AA,AM,inC,Nat.testBit];refine CDs c3 (by simp [wrL,inC,Nat.testBit]) ?_;simp;refine CLa c4 ?_;simp [AA];apply RZ;simp [results20]
 . rw [if_neg hz]
   simp only [RB]
   have key:(¬ QG k r a b=0/\QG k r a b=JC k r s b)\/(BV k=true/\CF r=true/\a=0/\b=0/\Ey k r=false/\JC k r s b=2):=by
     unfold QG JC at*;unfold e0 e1;cases h1:BV k
     . left;simp
     . cases h2:CF r
       . left;simp
       . cases h3:A6 s
         . rw [h3] at ha;simp at ha;subst ha;left;simp
         . rw [h3] at ha;simp at ha;subst ha
           by_cases hb0:b=0
           . cases h4:Ey k r
             . right;simp [hb0]
             . rw [h1,h2,h3,h4,hb0] at hz;simp at hz
           . left;simp [hb0]
   rcases key with ⟨k1,k2⟩ | ⟨k1,k2,k3,k4,k5,k6⟩
   . have c3:=XK hS k r a b h1 h2 h3 k1
     rw [<-k2]
     generalize QG k r a b=e at*
     refine CB func20 c20 fun E hE=>?_
     simp [p20];refine AL [] (by kernel_rfl) ?_;simp [inC,Nat.testBit];refine CLa c1 ?_;simp [inC,Nat.testBit];refine CLa c2 ?_;simp [AA,AM,inC,Nat.testBit];refine CLb (c3) (by simp [Ap,Hcl,inC,Nat.testBit]) ?_;simp [AA,k1];apply RZ;simp [results20]
   . subst k3 k4
     have c3:=XM hS k r h1 h2 h3 k1 k2 k5;rw [k6];refine CB func20 c20 fun E hE=>?_
     simp [p20];refine AL [] (by kernel_rfl) ?_;simp [inC,Nat.testBit];refine CLa c1 ?_;simp [inC,Nat.testBit];refine CLa c2 ?_;simp [AA,AM,inC,Nat.testBit];refine CLb (c3) (by simp [Ap,Hcl,inC,Nat.testBit]) ?_;simp [AA];apply RZ;simp [results20]
abbrev Ys (e:Evt):V:=evV e.1 e.2.1 e.2.2.1 e.2.2.2
def Ku (i m:Int) (a:Except (Int × Int × Int) Shp):V:=match a with
 | .ok n=> .tup [Cl n (.d (AX n.gas.cs)),evV 0 0 0 0,vi 0]
 | .error e=> .tup [.agg shZ,Ys (if e.1=54 then (e.2.1,i,m,e.2.2) else ev0),vi e.1]
theorem MD {k:Sky} {r:Rig} {s:Shp} {e:Int} (h:JC k r s e=0):BV k=true/\CF r=true/\A6 s=true/\e=0/\Ey k r=true:=by
 unfold JC at h;cases h1:BV k
 . rw [h1] at h;simp at h
 cases h2:CF r
 . rw [h1,h2] at h;simp at h
 cases h3:A6 s
 . rw [h1,h2,h3] at h;simp at h
 by_cases h4:e=0
 . cases h5:Ey k r
   . rw [h1,h2,h3,h5] at h;simp [h4] at h
   . exact ⟨rfl,rfl,rfl,h4,rfl⟩
 . rw [h1,h2,h3] at h;simp [h4] at h
theorem fn90 (l:List Leg):Ct prog 90 [.d (Bs l)] (.cl 133 [.lp 0 0]) [(0,[.d (Bs l)])]:=by
 refine CB func90 c90 fun E hE=>?_
 simp [p90];refine AB.by (lk [(0,0)]) ?_;simp [results90]
def Cw (l:List Leg) (i:Nat):Nat:=(BN 0 (l.take i)).length
theorem Iq:∀ (a b:List Leg) (i:Nat),BN i (a++b)=BN i a++BN (i+a.length) b
 | [],b,i=>rfl
 | x::a,b,i=>by
   show _++BN (i+1) (a++b)=(_++BN (i+1) a)++_
   rw [Iq a b (i+1),List.append_assoc,List.length_cons,show i+1+a.length=i+(a.length+1) by omega]
theorem MW (l:List Leg):Cw l 0=0:=rfl
theorem WO {l:List Leg} {i:Nat} {x:Leg} (h:l[i]?= some x):Cw l (i+1)=Cw l i+x.m.toNat:=by
 unfold Cw;rw [List.take_add_one,h,Iq];simp [BN]
theorem ACY (l:List Leg):Cw l l.length=(BN 0 l).length:=by unfold Cw;rw [List.take_length]
theorem iC {l:List Leg} {i:Nat}:Cw l i<=(BN 0 l).length:=by
 have:(BN 0 l).length=Cw l i+(BN (0+(l.take i).length) (l.drop i)).length:=by
   unfold Cw;rw [<-List.length_append,<-Iq,List.take_append_drop]
 omega
theorem iE {l:List Leg} {i m:Nat} {x:Leg} (h:l[i]?= some x) (hm:m<x.m.toNat):(BN 0 l)[Cw l i+m]?= some (i,m):=by
 have hi:=(List.getElem?_eq_some_iff.1 h).1
 have e:l=l.take i++(x::l.drop (i+1)):=by
   have:x::l.drop (i+1)=l.drop i:=by
     rw [List.drop_eq_getElem_cons hi];congr 1;rw [List.getElem?_eq_getElem hi] at h;exact (Option.some.inj h).symm
   rw [this,List.take_append_drop]
 have e2:BN 0 l=BN 0 (l.take i)++BN i (x::l.drop (i+1)):=by
   conv=>lhs;rw [e]
   rw [Iq,List.length_take,Nat.min_eq_left (by omega),Nat.zero_add]
 rw [e2,List.getElem?_append_right (by unfold Cw;omega)];unfold Cw;rw [Nat.add_sub_cancel_left]
 show ((List.range x.m.toNat).map (fun m=>(i,m))++_)[m]?= _
 rw [List.getElem?_append_left (by simpa using hm),List.getElem?_map,List.getElem?_range hm];rfl
theorem AI.restX {E:Ent} {ks xs:List Nat} {L:List (Nat × List V)} {st:St} (hs:∀ i,E.stab i↔i∈ks) (h:BT ks xs L) (hH:∀ i∈ks++xs,st.H i=lk L i) {n:Nat} (hn:∀ i∈ks++xs,i<n) (l:List (Nat × V)) (h1:CL (rid (ks++xs)) st.fr l) (h4:Bw n l):AI prog E st ⟨AO l,lk L,n⟩:=
 AI.mkM hs (rid (ks++xs)) l L n h1 (h.same.hp hH) h.same.inj h4 (h.ids hn) (IG (fun i hi=>hn i (List.mem_append_left _ hi)) fun i hi hs=>⟨Cr (List.mem_append_left _ hi),by rw [hH i (List.mem_append_left _ hi)];exact hs⟩)
theorem Jl (l:List Leg) (hl:l.length<=1000000) (hok:∀ x∈l,BE x=true) (KS:List Nat) (XS:Nat->List Nat) (k a M:Nat) (go:Nat->Bool) (L:Nat->List (Nat × List V)) (hk:k∈KS) (ha:a∈KS) (hN:∀ i∈KS,i<1000000000) (hX:∀ i,∀ x∈XS i,x<1048576) (hm:M<=(BN 0 l).length) (hL:∀ i,i<=M->BT KS (XS i) (L i))
   (hrec:∀ i,i<M->∃ fr nt ps pa pb jmp,lk (L i) k=some [.lr fr nt ps pa pb jmp]/\ps.length=2) (hbox:∀ i,i<=M->lk (L i) a=some [.d (Bs l)]) (hgo:∀ j,j+1<M->go j=true) (hend:M=(BN 0 l).length\/(0<M/\go (M-1)=false))
   (hY:∀ j i m,j<M->(BN 0 l)[j]?= some (i,m)->Ym prog k [vi i,vi m] (lk (L j)) KS (.ret (vb (go j))) (lk (L (j+1)))):
   Cm prog 133 [.yl k, .lp a 0] (lk (L 0)) KS (.ret (.tup [])) (lk (L M)):=by
 have hNX:∀ i,∀ x∈KS++XS i,x<1000000000:=fun i x hx=>by
   rcases List.mem_append.1 hx with h | h
   . exact hN x h
   . have:=hX i x h;omega
 refine Cm.by gok eok mixed 1000000000 func133 c133 rfl (by simp [ntmps133]) (by simp;exact ⟨hN k hk,hN a ha⟩) (A7.at ((hL 0 (by omega)).ids (hNX 0))) hN ⟨by simp,(hL M (Nat.le_refl _)).res⟩ fun E hs hE=>?_
 have haN:=hN a ha;have na:∀ x,1000000000<=x->¬ a=x:=fun x _=>by omega
 have la:∀ x,1000000000<=x->a<x:=fun x _=>by omega
 have b0:=hbox 0 (by omega);have rk:∀ i b,rx KS (XS i) b k=some k:=fun i b=>by simp [rx,hk]
 have ra:∀ i b,rx KS (XS i) b a=some a:=fun i b=>by simp [rx,ha]
 simp [p133,b0];refine Al (α:=Nat) (fun i=>⟨AO [(0, .yl k),(1, .lp a 0),(6, .d (Bs l)),(7,vi l.length),(8,vi i)],lk (L (Cw l i)),1000000000⟩) (fun i=>i<=l.length/\Cw l i<=M/\(Cw l i=M->M=(BN 0 l).length)) (fun i=>l.length-i) 0 ?_ ?_ ?_
 . rw [MW]
   exact ⟨by omega,by omega,fun e=>by omega⟩
 . rw [MW]
   refine AI.sameX hs (hL 0 (by omega)) rfl (hNX 0) _ ?_ ?_
   . simp [rid,hk,ha]
   . simp [hN k hk,hN a ha]
 . rintro i ⟨hi,hp,him⟩
   simp [LF];refine Bh (fun h=>?_) (fun h=>?_)
   . simp at h
     obtain ⟨x,hx⟩:=gE h;have hxm:=AL0 (hok x (List.mem_of_getElem? hx));have hpn:=WO hx;have hpl:=iC (l:=l) (i:=i+1);have hz:=@wz i (by omega);have hne0:∀ q∈KS++XS (Cw l i+0),¬ q=1004194304:=fun q hq e=>by have:=hNX (Cw l i+0) q hq;omega
     simp [hx,AA];refine Al (α:=Nat) (fun m=>⟨AO [(0, .yl k),(1, .lp a 0),(3,vi i),(6, .d (Bs l)),(7,vi l.length),(8,vi i),(14,vi x.m),(15,vi m)],lk (L (Cw l i+m)),1000000000⟩) (fun m=>m<=x.m.toNat/\Cw l i+m<=M/\(Cw l i+m=M->M=(BN 0 l).length)) (fun m=>x.m.toNat-m) 0 ?_ ?_ ?_
     . exact ⟨by omega,by omega,fun e=>him (by omega)⟩
     . refine AI.restX hs (hL _ (by omega)) (fun q hq=>?_) (hNX _) _ ?_ ?_
       . simp [hne0 q hq]
       . simp [rid,hk,ha]
       . simp [hN k hk,hN a ha]
     . rintro m ⟨hmi,hmp,hme⟩
       by_cases hmx:m<x.m.toNat
       . have hmI:(m:Int)<x.m:=by omega
         have hjl:Cw l i+m<(BN 0 l).length:=by omega
         have hj:Cw l i+m<M:=by
           rcases Nat.lt_or_ge (Cw l i+m) M with h9 | h9
           . exact h9
           . have:=hme (by omega);omega
         have hat:=iE hx hmx;obtain ⟨J,hJ⟩:∃ J,Cw l i+m=J:=⟨_,rfl⟩
         rw [hJ] at hat hj hjl;have hY':=hY J i m hj hat;obtain ⟨fr,nt,ps,pa,pb,jmp,hr1,hr2⟩:=hrec J hj;have hzm:=@wz m (by omega);have hbb:∀ q∈KS++XS J,q<1006291456:=fun q hq=>by have:=hNX J q hq;omega
         have hbk:∀ q∈KS,q<1006291456:=fun q hq=>by have:=hN q hq;omega
         rw [hJ];simp [JJ,hmI];refine Fp.keepX [vi i,vi m] (L J) (L (J+1)) KS (XS J) (XS (J+1)) _ hY' (hL J (by omega)) (hL (J+1) (by omega)) (hX _) ⟨fr,nt,ps,pa,pb,jmp,hr1,hr2⟩ (fun q hq=>rfl) (by simp) ?_;obtain ⟨F,hF⟩:∃ F,F=BI (lk (L J)) 1006291456 (lk (L J)) KS (lk (L (J+1))):=⟨_,rfl⟩
         have hFp:∀ p∈L (J+1),F (sg KS 1006291456 p.1)=some (p.2.map (BJ (sg KS 1006291456))):=fun p hp=>by rw [hF];exact Oe (hL J (by omega)) (hL (J+1) (by omega)) hbb hp
         rw [<-hF];cases hgi:go J
         . have e:J+1=M:=by
             by_cases hlt:J+1<M
             . rw [hgo J hlt] at hgi;cases hgi
             . omega
           simp;rw [<-e];exact Dc.keepX rfl (hL (J+1) (by omega)) hbk hFp
         . simp [hzm]
           refine ⟨m+1,⟨by omega,by omega,fun e=>?_⟩,by omega,?_⟩
           . rcases hend with h1 | ⟨_,h1⟩
             . exact h1
             . rw [show M-1=J by omega,hgi] at h1;cases h1
           . rw [show Cw l i+(m+1)=J+1 by omega]
             refine AI.keepX hs (hL (J+1) (by omega)) hbk hFp (hNX (J+1)) _ ?_ ?_
             . simp [rk,ra]
             . simp [hN k hk,hN a ha]
       . have em:m=x.m.toNat:=by omega
         have hmI:¬ (m:Int)<x.m:=by omega
         have e9:Cw l i+m=Cw l (i+1):=by omega
         have hbm:=hL (Cw l (i+1)) (by omega);rw [e9];simp [JJ,hmI,hz];refine ⟨i+1,⟨by omega,by omega,fun e=>hme (by omega)⟩,by omega,?_⟩;refine AI.sameX hs hbm rfl (hNX _) _ ?_ ?_
         . simp [rid,hk,ha]
         . simp [hN k hk,hN a ha]
   . simp at h
     have e:i=l.length:=by omega
     have e2:Cw l i=M:=by
       have:=ACY l;rw [<-e] at this;omega
     simp;rw [e2];exact Dc.sameX rfl (hL M (Nat.le_refl _)) rfl
theorem WM:∀ x:Shp,(Ca x).length=25:=fun _=>rfl
theorem mI (acc:List Shp) (n:Shp) (hl:acc.length<=100000):Cm prog 41 [Cl n (.d (AX n.gas.cs)), .lp 0 0] (lk ([(0,[hdF 25 acc 1])]++ouF Ca acc 1)) [0] (.ret (.tup [Cl n (.d (AX n.gas.cs)),vi 0])) (lk ([(0,[hdF 25 (acc++[n]) 1])]++ouF Ca (acc++[n]) 1)):=by
 by_cases hne:acc=[]
 . subst hne
   rw [Aq,Au,List.nil_append,Ak (by simp),AZ (by simp)];refine CM 2 func41 c41 fun E hs hE=>?_
   simp [p41,AA,AM];refine AB.by (lk [(0,0),(1,6291458)]) ?_;simp [results41,AH]
 . have hsl:=Aw WM acc
   have hwh:=E9 WM acc;have n1:(acc.length+1)*216<=140737488355328:=by omega
   have n2:acc.length+1<=9223372036854775807:=by omega
   rw [Ak hne,AZ hne,Ak (by simp),AZ (by simp),IV];refine CM 2 func41 c41 fun E hs hE=>?_
   simp [p41,AA,AM,hsl,hwh,n1,n2];refine AB.by (lk [(0,0),(1,6291458)]) ?_;simp [results41];refine Or.inl ?_;rw [List.all_append,List.all_eq_true.2 BU];rfl
def D6 (k:Sky) (r:Rig) (l:List Leg):List (Nat × Nat)->Shp->List Shp
 | [],_=>[]
 | (i,m)::rest,s=>match l[i]? with
   | none=>[]
   | some x=>match FA k r x m s with
     | .error _=>[]
     | .ok n=>n::D6 k r l rest n
def DX (s:Shp) (ns:List Shp) (j:Nat):Shp:=if j=0 then s else (ns[j-1]?).getD s
theorem MV {s n:Shp} {ns:List Shp} {j:Nat} (h:j<ns.length+1):DX s (n::ns) (j+1)=DX n ns j:=by
 unfold DX;cases j with
 | zero=>simp
 | succ j=>
   rw [if_neg (by omega),if_neg (by omega)];have h1:j<ns.length:=by omega
   simp [h1]
theorem LP {k:Sky} {r:Rig} {l:List Leg}:∀ {im:List (Nat × Nat)} {s:Shp} {j:Nat} {n:Shp},(D6 k r l im s)[j]?= some n->∃ i m x,im[j]?= some (i,m)/\l[i]?= some x/\FA k r x m (DX s (D6 k r l im s) j)= .ok n
 | [],s,j,n,h=>by simp [D6] at h
 | (i,m)::rest,s,j,n,h=>by
   unfold D6 at h ⊢;split at h
   . simp at h
   rename_i x hx;split at h
   . simp at h
   rename_i n1 h1;cases j with
   | zero=>
     simp at h;subst h;exact ⟨i,m,x,by simp,hx,by simpa [DX] using h1⟩
   | succ j=>
     have h2:(D6 k r l rest n1)[j]?= some n:=by simpa using h
     obtain ⟨i2,m2,x2,e1,e2,e3⟩:=LP h2;have hj:=(List.getElem?_eq_some_iff.1 h2).1;refine ⟨i2,m2,x2,by simpa using e1,e2,?_⟩;rw [MV (by omega)];exact e3
theorem LQ {k:Sky} {r:Rig} {l:List Leg}:∀ {im:List (Nat × Nat)} {s:Shp},(∀ p∈im,∃ x,l[p.1]?= some x)->(Dt k r l im s= .ok (D6 k r l im s)/\(D6 k r l im s).length=im.length)\/
   ∃ i m x e,im[(D6 k r l im s).length]?= some (i,m)/\l[i]?= some x/\FA k r x m (DX s (D6 k r l im s) (D6 k r l im s).length)= .error e/\Dt k r l im s= .error (FC i m e)
 | [],s,_=> .inl ⟨rfl,rfl⟩
 | (i,m)::rest,s,hm=>by
   obtain ⟨x,hx⟩:=hm (i,m) (by simp);simp only at hx;unfold D6 Dt;rw [hx];simp only;cases h1:FA k r x m s with
   | error e=>exact .inr ⟨i,m,x,e,by simp,hx,by simpa [DX] using h1,rfl⟩
   | ok n=>
     simp only;rcases LQ (im:=rest) (s:=n) (fun p hp=>hm p (by simp [hp])) with ⟨h2,h3⟩ | ⟨i2,m2,x2,e2,h2,h3,h4,h5⟩
     . left;rw [h2];exact ⟨rfl,by simp [h3]⟩
     . right
       rw [h5];refine ⟨i2,m2,x2,e2,by simpa using h2,h3,?_,rfl⟩;rw [List.length_cons,MV (by omega)];exact h4
def fKS:List Nat:=[8388609,7340033,1,1048577,2097153,3145729,4194305,5242881,0]
def fXS (acc:List Shp):List Nat:=if acc=[] then [] else [7]
abbrev evL (e:Evt):List V:=[vi e.1,vi e.2.1,vi e.2.2.1,vi e.2.2.2]
def fL (k:Sky) (r:Rig) (l:List Leg) (f:Nat->V) (z:LSt) (acc:List Shp) (s:Shp) (e:Evt) (er:Int):List (Nat × List V):=
 [(8388609,[.lr f 69 [19,20] L8 Xz z]),(7340033,[.d (Bs l)]),(1,[D2 k r]),(1048577,shB s),(2097153,[.d (Bs l)]),(3145729,[.cl 41 [.lp 0 0]]),(4194305,evL e),(5242881,[vi er]),(0,[hdF 25 acc 7])]++ouF Ca acc 7
theorem Ol (k:Sky) (r:Rig) (l:List Leg) (f:Nat->V) (z:LSt) (acc:List Shp) (s:Shp) (e:Evt) (er:Int) (hf:∀ t,AV (·∈fKS) AR (f t)):BT fKS (fXS acc) (fL k r l f z acc s e er):=by
 by_cases h0:acc=[]
 . subst h0
   refine ⟨rfl,by simp [fKS,fXS],?_⟩;intro q hq;simp only [fL,Aq,Au,List.append_nil,List.mem_cons,List.not_mem_nil,or_false] at hq;rcases hq with rfl | rfl | rfl | rfl | rfl | rfl | rfl | rfl | rfl
   . exact ⟨by simp,Or.inr (.inl ⟨_,_,_,_,_,_,rfl⟩),fun c hc=>by simp at hc;subst hc;exact hf⟩
   all_goals refine ⟨by simp,Or.inl rfl,fun c hc=>?_⟩
   all_goals simp only [List.mem_cons,List.not_mem_nil,or_false] at hc
   all_goals first
     | (subst hc;exact rfl)
     | (subst hc;simp [CX,W1,W0,rid,fKS,AJ,fXS])
     | (rcases hc with rfl | rfl | rfl | rfl<;>exact rfl)
     | (rcases hc with rfl | rfl | rfl | rfl | rfl | rfl | rfl | rfl | rfl | rfl | rfl | rfl | rfl | rfl | rfl | rfl | rfl | rfl | rfl | rfl | rfl | rfl | rfl | rfl | rfl<;>exact rfl)
 . have hx:fXS acc=[7]:=by simp [fXS,h0]
   rw [hx];refine ⟨by simp [fL,AZ h0,fKS],by simp [fKS],?_⟩;intro q hq;simp only [fL,Ak h0,AZ h0,List.mem_append,List.mem_cons,List.not_mem_nil,or_false] at hq;rcases hq with (rfl | rfl | rfl | rfl | rfl | rfl | rfl | rfl | rfl) | rfl
   . exact ⟨by simp,Or.inr (.inl ⟨_,_,_,_,_,_,rfl⟩),fun c hc=>by simp at hc;subst hc;exact hf⟩
   rotate_left 8
   . refine ⟨?_,Or.inl (List.all_eq_true.2 BU),fun c hc=>?_⟩
     . intro e
       have:=congrArg List.length e;rw [Aw WM] at this;cases acc with
       | nil=>exact h0 rfl
       | cons a t=>simp at this
     . obtain ⟨d,_,rfl⟩:=List.mem_map.1 (show c∈List.map V.d (List.map Ca acc).flatten from hc)
       exact rfl
   all_goals refine ⟨by simp,Or.inl rfl,fun c hc=>?_⟩
   all_goals simp only [List.mem_cons,List.not_mem_nil,or_false] at hc
   all_goals first
     | (subst hc;exact rfl)
     | (subst hc;simp [CX,W1,W0,rid,fKS,AJ])
     | (rcases hc with rfl | rfl | rfl | rfl<;>exact rfl)
     | (rcases hc with rfl | rfl | rfl | rfl | rfl | rfl | rfl | rfl | rfl | rfl | rfl | rfl | rfl | rfl | rfl | rfl | rfl | rfl | rfl | rfl | rfl | rfl | rfl | rfl | rfl<;>exact rfl)
theorem kU (acc:List Shp) (n:Shp) (hl:acc.length<=100000):Cm prog 41 [Cl n (.d (AX n.gas.cs)), .lp 0 0] (lk ([(0,[hdF 25 acc 7])]++ouF Ca acc 7)) [0] (.ret (.tup [Cl n (.d (AX n.gas.cs)),vi 0])) (lk ([(0,[hdF 25 (acc++[n]) 7])]++ouF Ca (acc++[n]) 7)):=by
 have hr:∀ l:List Shp,(AH Ca l).map (BJ fun i=>if i=0 then 0 else 7)=AH Ca l:=fun l=>by
   simp [AH,List.map_flatten,Function.comp_def]
 have h:=Cm.rename (fun i=>if i=0 then 0 else 7) 2 (by intro i j hi hj;split<;>split<;>omega) (mI acc n hl) (by
   by_cases h0:acc=[]
   . subst h0;simp [BW,Aq,Au]
   . simp [BW,Ak h0,AZ h0]) (by rw [Ak (by simp),AZ (by simp)];simp [BW]) (by simp)
 by_cases h0:acc=[]
 . subst h0
   rw [Aq,Au,List.nil_append,Ak (by simp),AZ (by simp)] at h ⊢;simpa [Ea,HW,hr] using h
 . rw [Ak h0,AZ h0,Ak (by simp),AZ (by simp)] at h ⊢
   simpa [Ea,HW,hr] using h
structure kV (f:Nat->V):Prop where
 av:∀ t,AV (·∈fKS) AR (f t)
 f4:f 4= .lp 1 0
 f5:f 5= .lp 1048577 0
 f6:f 6= .lp 2097153 0
 f7:f 7= .lp 3145729 0
 f8:f 8= .lp 4194305 0
 f9:f 9= .lp 5242881 0
theorem VQ (hS:SortOk) (k:Sky) (r:Rig) (l:List Leg) (f:Nat->V) (hF:kV f) (acc:List Shp) (s n:Shp) (i m:Nat) (x:Leg) (_:l.length<=1000000) (ha:acc.length<=100000) (h1:k.s.length<=1000000) (h2:k.w.length<=1000000) (h3:r.reg.length<=1000000) (hk:BV k=true) (hR:CF r=true) (hg:Ey k r=true) (hs:A6 s=true) (hlo:BE x=true) (hx:l[i]?= some x) (ho:FA k r x m s= .ok n):
   Ym prog 8388609 [vi i,vi m] (lk (fL k r l f .ready acc s ev0 0)) fKS (.ret (vb true)) (lk (fL k r l f .ready (acc++[n]) n ev0 0)):=by
 obtain ⟨hf,f4,f5,f6,f7,f8,f9⟩:=hF;have hil:=(List.getElem?_eq_some_iff.1 hx).1;have hiI:(i:Int)<l.length:=by omega
 have hK1:=Ol k r l f .ready acc s ev0 0 hf;have hK2:=Ol k r l f .ready (acc++[n]) n ev0 0 hf
 have hlt:∀ j∈fKS++fXS acc,j<10000000:=by
   intro j hj;simp only [fKS,fXS,List.mem_append,List.mem_cons,List.not_mem_nil,or_false] at hj;rcases hj with h | h
   . omega
   . split at h
     . simp at h
     . simp at h;omega
 have hW:∀ (y:Nat) z,WC (lk [(8388609,8388609),(7340033,7340033),(1,1),(1048577,1048577),(2097153,2097153),(3145729,3145729),(4194305,4194305),(5242881,5242881),(0,0),(7,y)]) (.lr f 69 [19,20] L8 Xz z) (.lr f 69 [19,20] L8 Xz z):=fun y z=>⟨rfl,fun t=>AV.mono (fun j hj=>by simp [fKS] at hj;rcases hj with rfl | rfl | rfl | rfl | rfl | rfl | rfl | rfl | rfl<;>simp [lk]) (fun _ h=>h) (hf t)⟩
 have hC:∀ z,Bv [.lr f 69 [19,20] L8 Xz z]:=fun z=>Or.inr (.inl ⟨_,_,_,_,_,_,rfl⟩)
 have ca:=kU acc n ha;refine Ym.ofX (k:=8388609) (fr:=f) (nt:=69) (ps:=[19,20]) (pa:=L8) (pb:=Xz) (args:=[vi i,vi m]) (s:= .ready) gok eok mixed 10000000 hK1 hK2 hlt (by simp [fKS]) (by simp [fL]) (by simp) (by simp) (by simp) ?_;obtain ⟨t,ht,hmo,hnx⟩:=Ib.1 ho;have hto:=Ow hs hlo ht;have cm:=tR hS k r t x h1 h2 h3 hk hR hg hto hlo;rw [H2.2 ⟨hmo,hnx⟩] at cm;simp only [RB] at cm;by_cases hm:m=0
 . rw [if_pos hm] at ht
   subst hm;have cb:=Pw s x hs hlo;rw [ht] at cb;simp only [Oy] at cb;by_cases h0:acc=[]
   . subst h0
     rw [Aq,Au,List.nil_append,Ak (by simp),AZ (by simp)] at ca;refine ⟨fun E hE hs=>?_⟩;unfold fL;rw [Aq,Au,List.nil_append,Ak (by simp),AZ (by simp)]
     generalize V.lr f 69 [19,20] L8 Xz=rc at hW hC ⊢
     simp [L8,BD];simp [Xz];refine AL [(10,23631488)] (by kernel_rfl) ?_;simp [inC,Nat.testBit,hx,f5,f6];refine CLa cb ?_;simp [AA,inC,Nat.testBit,f5];refine AL [(13,42505856),(14,43554432)] (by kernel_rfl) ?_;simp [inC,Nat.testBit,hx,f4,f5,f6];refine CLa cm ?_;simp [AA,inC,Nat.testBit,f7];refine CRs ca (by simp) ?_;simp [AA,f5];refine ⟨trivial,by simp,lk [(8388609,8388609),(7340033,7340033),(1,1),(1048577,1048577),(2097153,2097153),(3145729,3145729),(4194305,4194305),(5242881,5242881),(0,0),(7,51943047)],?_⟩;simp [hW,hC,fKS,AH]
   . have n1:AH Ca acc≠[]:=fun e=>by
       have:=congrArg List.length e;rw [Aw WM] at this;cases acc with
       | nil=>exact h0 rfl
       | cons a t=>simp at this
     rw [Ak h0,AZ h0,Ak (by simp),AZ (by simp)] at ca;refine ⟨fun E hE hs=>?_⟩;unfold fL;rw [Ak h0,AZ h0,Ak (by simp),AZ (by simp)]
     generalize V.lr f 69 [19,20] L8 Xz=rc at hW hC ⊢
     simp [L8,BD];simp [Xz];refine AL [(10,23631488)] (by kernel_rfl) ?_;simp [inC,Nat.testBit,hx,f5,f6];refine CLa cb ?_;simp [AA,inC,Nat.testBit,f5];refine AL [(13,42505856),(14,43554432)] (by kernel_rfl) ?_;simp [inC,Nat.testBit,hx,f4,f5,f6];refine CLa cm ?_;simp [AA,inC,Nat.testBit,f7];refine CRs ca (by simp) ?_;simp [AA,f5];refine ⟨trivial,by simp,lk [(8388609,8388609),(7340033,7340033),(1,1),(1048577,1048577),(2097153,2097153),(3145729,3145729),(4194305,4194305),(5242881,5242881),(0,0),(7,51943047)],?_⟩;simp [hW,hC,fKS]
     all_goals first | exact Or.inl (List.all_eq_true.2 BU) | skip
 . rw [if_neg hm] at ht
   subst ht;by_cases h0:acc=[]
   . subst h0
     rw [Aq,Au,List.nil_append,Ak (by simp),AZ (by simp)] at ca;refine ⟨fun E hE hs=>?_⟩;unfold fL;rw [Aq,Au,List.nil_append,Ak (by simp),AZ (by simp)]
     generalize V.lr f 69 [19,20] L8 Xz=rc at hW hC ⊢
     simp [L8,BD];simp [Xz,hm];refine AL [(13,25728640),(14,26777216)] (by kernel_rfl) ?_;simp [inC,Nat.testBit,hx,f4,f5,f6];refine CLa cm ?_;simp [AA,inC,Nat.testBit,f7];refine CRs ca (by simp) ?_;simp [AA,f5];refine ⟨trivial,by simp,lk [(8388609,8388609),(7340033,7340033),(1,1),(1048577,1048577),(2097153,2097153),(3145729,3145729),(4194305,4194305),(5242881,5242881),(0,0),(7,35165831)],?_⟩;simp [hW,hC,fKS,AH]
   . have n1:AH Ca acc≠[]:=fun e=>by
       have:=congrArg List.length e;rw [Aw WM] at this;cases acc with
       | nil=>exact h0 rfl
       | cons a t=>simp at this
     rw [Ak h0,AZ h0,Ak (by simp),AZ (by simp)] at ca;refine ⟨fun E hE hs=>?_⟩;unfold fL;rw [Ak h0,AZ h0,Ak (by simp),AZ (by simp)]
     generalize V.lr f 69 [19,20] L8 Xz=rc at hW hC ⊢
     simp [L8,BD];simp [Xz,hm];refine AL [(13,25728640),(14,26777216)] (by kernel_rfl) ?_;simp [inC,Nat.testBit,hx,f4,f5,f6];refine CLa cm ?_;simp [AA,inC,Nat.testBit,f7];refine CRs ca (by simp) ?_;simp [AA,f5];refine ⟨trivial,by simp,lk [(8388609,8388609),(7340033,7340033),(1,1),(1048577,1048577),(2097153,2097153),(3145729,3145729),(4194305,4194305),(5242881,5242881),(0,0),(7,35165831)],?_⟩;simp [hW,hC,fKS]
     all_goals first | exact Or.inl (List.all_eq_true.2 BU) | skip
theorem T7:∀ {acts:List Act} {p:Plt} {i:Nat},¬ (B7 p acts i).2.2=54
 | [],p,i=>by simp [B7]
 | a::rr,p,i=>by
   unfold B7;cases hd:doS p a with
   | ok q=>exact T7
   | error e=>
     show ¬ e=54
     unfold doS vlS mvS at hd
     repeat' split at hd
     all_goals first | (have:=K8 hd;omega) | (cases hd;omega)
theorem mR {s:Shp} {x:Leg} {e:Int} (h:Ep s x= .error e):¬ e=54:=by
 unfold Ep at h;split at h
 . split at h
   . cases h;decide
   split at h
   . cases h;decide
   . cases h
 . cases h;exact T7
theorem AK2 {k:Sky} {r:Rig} {s:Shp} {x:Leg} {e:Int × Int × Int} (h:HK k r s x= .error e):(e.1=54/\True)\/(e.1=9/\e.2.1=0/\e.2.2=0):=by
 unfold HK at h;split at h
 . split at h
   . cases h;exact .inr ⟨rfl,rfl,rfl⟩
   . cases h
 . cases h;exact .inl ⟨rfl,trivial⟩
def Iw (x:Leg) (m:Nat) (s:Shp):Shp:=if m=0 then (match Ep s x with | .ok t=>t | .error _=>s) else s
theorem co (hS:SortOk) (k:Sky) (r:Rig) (l:List Leg) (f:Nat->V) (hF:kV f) (acc:List Shp) (s:Shp) (i m:Nat) (x:Leg) (e:Int × Int × Int) (_:l.length<=1000000) (h1:k.s.length<=1000000) (h2:k.w.length<=1000000) (h3:r.reg.length<=1000000) (hk:BV k=true) (hR:CF r=true) (hg:Ey k r=true) (hs:A6 s=true) (hlo:BE x=true) (hx:l[i]?= some x) (ho:FA k r x m s= .error e):
   Ym prog 8388609 [vi i,vi m] (lk (fL k r l f .ready acc s ev0 0)) fKS (.ret (vb false)) (lk (fL k r l f (.done .ret) acc (Iw x m s) (FC i m e).2 (FC i m e).1)):=by
 obtain ⟨hf,f4,f5,f6,f7,f8,f9⟩:=hF;have hil:=(List.getElem?_eq_some_iff.1 hx).1;have hiI:(i:Int)<l.length:=by omega
 have hK1:=Ol k r l f .ready acc s ev0 0 hf;have hK2:=Ol k r l f (.done .ret) acc (Iw x m s) (FC i m e).2 (FC i m e).1 hf
 have hlt:∀ j∈fKS++fXS acc,j<10000000:=by
   intro j hj;simp only [fKS,fXS,List.mem_append,List.mem_cons,List.not_mem_nil,or_false] at hj;rcases hj with h | h
   . omega
   . split at h
     . simp at h
     . simp at h;omega
 have hW:∀ (y:Nat) z,WC (lk [(8388609,8388609),(7340033,7340033),(1,1),(1048577,1048577),(2097153,2097153),(3145729,3145729),(4194305,4194305),(5242881,5242881),(0,0),(7,y)]) (.lr f 69 [19,20] L8 Xz z) (.lr f 69 [19,20] L8 Xz z):=fun y z=>⟨rfl,fun t=>AV.mono (fun j hj=>by simp [fKS] at hj;rcases hj with rfl | rfl | rfl | rfl | rfl | rfl | rfl | rfl | rfl<;>simp [lk]) (fun _ h=>h) (hf t)⟩
 have hC:∀ z,Bv [.lr f 69 [19,20] L8 Xz z]:=fun z=>Or.inr (.inl ⟨_,_,_,_,_,_,rfl⟩)
 refine Ym.ofX (k:=8388609) (fr:=f) (nt:=69) (ps:=[19,20]) (pa:=L8) (pb:=Xz) (args:=[vi i,vi m]) (s:= .done .ret) gok eok mixed 10000000 hK1 hK2 hlt (by simp [fKS]) (by simp [fL]) (by simp) (by simp) (by simp) ?_;clear hK1 hK2;unfold FA at ho;by_cases hm:m=0
 . rw [if_pos hm] at ho
   subst hm;have cb:=Pw s x hs hlo;cases hbs:Ep s x with
   | error b=>
     rw [hbs] at ho cb;simp only [Oy] at cb;have he:e=(b,0,0):=by cases ho;rfl
     subst he;have hbe:=TP hbs;have h54:=mR hbs;have e1:Iw x 0 s=s:=by unfold Iw;rw [if_pos rfl,hbs]
     have e2:FC i 0 (b,0,0)=(b,ev0):=by unfold FC;simp only;rw [if_neg h54]
     rw [e1,e2];simp only;by_cases h0:acc=[]
     . subst h0
       refine ⟨fun E hE hs=>?_⟩;unfold fL;rw [Aq,Au]
       generalize V.lr f 69 [19,20] L8 Xz=rc at hW hC ⊢
       simp [L8,BD];simp [Xz];refine AL [(10,23631488)] (by kernel_rfl) ?_;simp [inC,Nat.testBit,hx,f5,f6];refine CLa cb ?_;simp [AA,inC,Nat.testBit,f8,f9,hbe];refine ⟨trivial,by simp,lk [(8388609,8388609),(7340033,7340033),(1,1),(1048577,1048577),(2097153,2097153),(3145729,3145729),(4194305,4194305),(5242881,5242881),(0,0),(7,7)],?_⟩;simp [hW,hC,fKS,ev0]
     . refine ⟨fun E hE hs=>?_⟩
       unfold fL;rw [Ak h0,AZ h0]
       generalize V.lr f 69 [19,20] L8 Xz=rc at hW hC ⊢
       simp [L8,BD];simp [Xz];refine AL [(10,23631488)] (by kernel_rfl) ?_;simp [inC,Nat.testBit,hx,f5,f6];refine CLa cb ?_;simp [AA,inC,Nat.testBit,f8,f9,hbe];refine ⟨trivial,by simp,lk [(8388609,8388609),(7340033,7340033),(1,1),(1048577,1048577),(2097153,2097153),(3145729,3145729),(4194305,4194305),(5242881,5242881),(0,0),(7,7)],?_⟩;simp [hW,hC,fKS,ev0]
       all_goals first | exact Or.inl (List.all_eq_true.2 BU) | skip
   | ok t=>
     rw [hbs] at ho cb;simp only [Oy] at cb;simp only at ho;have hto:=ZC hs hlo hbs;have cm:=tR hS k r t x h1 h2 h3 hk hR hg hto hlo;rw [ho] at cm;simp only [RB] at cm;have e1:Iw x 0 s=t:=by unfold Iw;rw [if_pos rfl,hbs]
     rw [e1];rcases AK2 ho with ⟨h54,_⟩ | ⟨h9,k1,k2⟩
     . have e2:FC i 0 e=((54:Int),e.2.1,(i:Int),(0:Int),e.2.2):=by unfold FC;rw [h54,if_pos rfl];rfl
       rw [e2];rw [h54] at cm;simp only;by_cases h0:acc=[]
       . subst h0
         refine ⟨fun E hE hs=>?_⟩;unfold fL;rw [Aq,Au]
         generalize V.lr f 69 [19,20] L8 Xz=rc at hW hC ⊢
         simp [L8,BD];simp [Xz];refine AL [(10,23631488)] (by kernel_rfl) ?_;simp [inC,Nat.testBit,hx,f5,f6];refine CLa cb ?_;simp [AA,inC,Nat.testBit,f5];refine AL [(13,42505856),(14,43554432)] (by kernel_rfl) ?_;simp [inC,Nat.testBit,hx,f4,f5,f6];refine CLa cm ?_;simp [AA,inC,Nat.testBit,f8,f9];refine ⟨trivial,by simp,lk [(8388609,8388609),(7340033,7340033),(1,1),(1048577,1048577),(2097153,2097153),(3145729,3145729),(4194305,4194305),(5242881,5242881),(0,0),(7,7)],?_⟩;simp [hW,hC,fKS,ev0]
       . refine ⟨fun E hE hs=>?_⟩
         unfold fL;rw [Ak h0,AZ h0]
         generalize V.lr f 69 [19,20] L8 Xz=rc at hW hC ⊢
         simp [L8,BD];simp [Xz];refine AL [(10,23631488)] (by kernel_rfl) ?_;simp [inC,Nat.testBit,hx,f5,f6];refine CLa cb ?_;simp [AA,inC,Nat.testBit,f5];refine AL [(13,42505856),(14,43554432)] (by kernel_rfl) ?_;simp [inC,Nat.testBit,hx,f4,f5,f6];refine CLa cm ?_;simp [AA,inC,Nat.testBit,f8,f9];refine ⟨trivial,by simp,lk [(8388609,8388609),(7340033,7340033),(1,1),(1048577,1048577),(2097153,2097153),(3145729,3145729),(4194305,4194305),(5242881,5242881),(0,0),(7,7)],?_⟩;simp [hW,hC,fKS,ev0]
         all_goals first | exact Or.inl (List.all_eq_true.2 BU) | skip
     . have e2:FC i 0 e=(9,ev0):=by unfold FC;rw [h9,if_neg (by decide)]
       rw [e2];rw [h9,k1,k2] at cm;simp only;by_cases h0:acc=[]
       . subst h0
         refine ⟨fun E hE hs=>?_⟩;unfold fL;rw [Aq,Au]
         generalize V.lr f 69 [19,20] L8 Xz=rc at hW hC ⊢
         simp [L8,BD];simp [Xz];refine AL [(10,23631488)] (by kernel_rfl) ?_;simp [inC,Nat.testBit,hx,f5,f6];refine CLa cb ?_;simp [AA,inC,Nat.testBit,f5];refine AL [(13,42505856),(14,43554432)] (by kernel_rfl) ?_;simp [inC,Nat.testBit,hx,f4,f5,f6];refine CLa cm ?_;simp [AA,inC,Nat.testBit,f8,f9];refine ⟨trivial,by simp,lk [(8388609,8388609),(7340033,7340033),(1,1),(1048577,1048577),(2097153,2097153),(3145729,3145729),(4194305,4194305),(5242881,5242881),(0,0),(7,7)],?_⟩;simp [hW,hC,fKS,ev0]
       . refine ⟨fun E hE hs=>?_⟩
         unfold fL;rw [Ak h0,AZ h0]
         generalize V.lr f 69 [19,20] L8 Xz=rc at hW hC ⊢
         simp [L8,BD];simp [Xz];refine AL [(10,23631488)] (by kernel_rfl) ?_;simp [inC,Nat.testBit,hx,f5,f6];refine CLa cb ?_;simp [AA,inC,Nat.testBit,f5];refine AL [(13,42505856),(14,43554432)] (by kernel_rfl) ?_;simp [inC,Nat.testBit,hx,f4,f5,f6];refine CLa cm ?_;simp [AA,inC,Nat.testBit,f8,f9];refine ⟨trivial,by simp,lk [(8388609,8388609),(7340033,7340033),(1,1),(1048577,1048577),(2097153,2097153),(3145729,3145729),(4194305,4194305),(5242881,5242881),(0,0),(7,7)],?_⟩;simp [hW,hC,fKS,ev0]
         all_goals first | exact Or.inl (List.all_eq_true.2 BU) | skip
 . rw [if_neg hm] at ho
   have cm:=tR hS k r s x h1 h2 h3 hk hR hg hs hlo;rw [ho] at cm;simp only [RB] at cm;have e1:Iw x m s=s:=by unfold Iw;rw [if_neg hm]
   rw [e1];rcases AK2 ho with ⟨h54,_⟩ | ⟨h9,k1,k2⟩
   . have e2:FC i m e=((54:Int),e.2.1,(i:Int),(m:Int),e.2.2):=by unfold FC;rw [h54,if_pos rfl]
     rw [e2];rw [h54] at cm;simp only;by_cases h0:acc=[]
     . subst h0
       refine ⟨fun E hE hs=>?_⟩;unfold fL;rw [Aq,Au]
       generalize V.lr f 69 [19,20] L8 Xz=rc at hW hC ⊢
       simp [L8,BD];simp [Xz,hm];refine AL [(13,25728640),(14,26777216)] (by kernel_rfl) ?_;simp [inC,Nat.testBit,hx,f4,f5,f6];refine CLa cm ?_;simp [AA,inC,Nat.testBit,f8,f9];refine ⟨trivial,by simp,lk [(8388609,8388609),(7340033,7340033),(1,1),(1048577,1048577),(2097153,2097153),(3145729,3145729),(4194305,4194305),(5242881,5242881),(0,0),(7,7)],?_⟩;simp [hW,hC,fKS,ev0]
     . refine ⟨fun E hE hs=>?_⟩
       unfold fL;rw [Ak h0,AZ h0]
       generalize V.lr f 69 [19,20] L8 Xz=rc at hW hC ⊢
       simp [L8,BD];simp [Xz,hm];refine AL [(13,25728640),(14,26777216)] (by kernel_rfl) ?_;simp [inC,Nat.testBit,hx,f4,f5,f6];refine CLa cm ?_;simp [AA,inC,Nat.testBit,f8,f9];refine ⟨trivial,by simp,lk [(8388609,8388609),(7340033,7340033),(1,1),(1048577,1048577),(2097153,2097153),(3145729,3145729),(4194305,4194305),(5242881,5242881),(0,0),(7,7)],?_⟩;simp [hW,hC,fKS,ev0]
       all_goals first | exact Or.inl (List.all_eq_true.2 BU) | skip
   . have e2:FC i m e=(9,ev0):=by unfold FC;rw [h9,if_neg (by decide)]
     rw [e2];rw [h9,k1,k2] at cm;simp only;by_cases h0:acc=[]
     . subst h0
       refine ⟨fun E hE hs=>?_⟩;unfold fL;rw [Aq,Au]
       generalize V.lr f 69 [19,20] L8 Xz=rc at hW hC ⊢
       simp [L8,BD];simp [Xz,hm];refine AL [(13,25728640),(14,26777216)] (by kernel_rfl) ?_;simp [inC,Nat.testBit,hx,f4,f5,f6];refine CLa cm ?_;simp [AA,inC,Nat.testBit,f8,f9];refine ⟨trivial,by simp,lk [(8388609,8388609),(7340033,7340033),(1,1),(1048577,1048577),(2097153,2097153),(3145729,3145729),(4194305,4194305),(5242881,5242881),(0,0),(7,7)],?_⟩;simp [hW,hC,fKS,ev0]
     . refine ⟨fun E hE hs=>?_⟩
       unfold fL;rw [Ak h0,AZ h0]
       generalize V.lr f 69 [19,20] L8 Xz=rc at hW hC ⊢
       simp [L8,BD];simp [Xz,hm];refine AL [(13,25728640),(14,26777216)] (by kernel_rfl) ?_;simp [inC,Nat.testBit,hx,f4,f5,f6];refine CLa cm ?_;simp [AA,inC,Nat.testBit,f8,f9];refine ⟨trivial,by simp,lk [(8388609,8388609),(7340033,7340033),(1,1),(1048577,1048577),(2097153,2097153),(3145729,3145729),(4194305,4194305),(5242881,5242881),(0,0),(7,7)],?_⟩;simp [hW,hC,fKS,ev0]
       all_goals first | exact Or.inl (List.all_eq_true.2 BU) | skip
def F6 (a:Except (Int × Evt) (List Shp)):Int × Evt:=match a with | .ok _=>(0,ev0) | .error e=>e
theorem TS {k:Sky} {r:Rig} {l:List Leg} (hT:Va k r) (hl:∀ x∈l,BE x=true):∀ {im:List (Nat × Nat)} {s:Shp},A6 s=true->∀ n∈D6 k r l im s,A6 n=true
 | [],s,_,n,h=>by simp [D6] at h
 | (i,m)::rest,s,hs,n,h=>by
   unfold D6 at h;split at h
   . simp at h
   rename_i x hx;split at h
   . simp at h
   rename_i n1 h1;have h2:=Q7 hT hs (hl x (List.mem_of_getElem? hx)) h1;rcases List.mem_cons.1 h with rfl | h
   . exact h2
   . exact TS hT hl h2 n h
theorem fW {s:Shp} {ns:List Shp} (hs:A6 s=true) (hn:∀ n∈ns,A6 n=true) {j:Nat} (hj:j<=ns.length):A6 (DX s ns j)=true:=by
 unfold DX;split
 . exact hs
 . obtain ⟨n,hnn⟩:∃ n,ns[j-1]?= some n:=⟨_,List.getElem?_eq_getElem (by omega)⟩
   rw [hnn];exact hn n (List.mem_of_getElem? hnn)
theorem Vb {s n:Shp} {ns:List Shp} {j:Nat} (h:ns[j]?= some n):DX s ns (j+1)=n:=by
 unfold DX;rw [if_neg (by omega),Nat.add_sub_cancel,h];rfl
theorem fX (l:List Shp):∀ (a:Nat) (b:List V),(a,b)∈(0,[hdF 25 l 1])::ouF Ca l 1->∀ c∈b,AC (InB ((0,[hdF 25 l 1])::ouF Ca l 1)) AR c:=by
 by_cases h0:l=[]
 . subst h0;simp [Aq,Au]
 . rw [Ak h0,AZ h0]
   intro a b hab c hc;simp only [List.mem_cons,List.not_mem_nil,or_false,Prod.mk.injEq] at hab;rcases hab with ⟨rfl,rfl⟩ | ⟨rfl,rfl⟩
   . simp at hc;subst hc;simp
   . obtain ⟨d,_,rfl⟩:=List.mem_map.1 (show c∈List.map V.d (List.map Ca l).flatten from hc)
     simp
def fT (k:Sky) (r:Rig) (l:List Leg) (acc:List Shp) (s:Shp) (e:Evt) (er:Int):List (Nat × List V):=
 [(7340033,[.d (Bs l)]),(1,[D2 k r]),(1048577,shB s),(2097153,[.d (Bs l)]),(3145729,[.cl 41 [.lp 0 0]]),(4194305,evL e),(5242881,[vi er]),(0,[hdF 25 acc 7])]++ouF Ca acc 7
theorem Vc (k:Sky) (r:Rig) (l:List Leg) (f:Nat->V) (z:LSt) (acc:List Shp) (s:Shp) (e:Evt) (er:Int):fL k r l f z acc s e er=(8388609,[.lr f 69 [19,20] L8 Xz z])::fT k r l acc s e er:=rfl
theorem NG:fKS=8388609::[7340033,1,1048577,2097153,3145729,4194305,5242881,0]:=rfl
theorem pQ (hS:SortOk) (k:Sky) (r:Rig) (l:List Leg) (s:Shp) (hl:l.length<=100) (hok:∀ x∈l,BE x=true) (h1:k.s.length<=1000000) (h2:k.w.length<=1000000) (h3:r.reg.length<=1000000) (hk:BV k=true) (hR:CF r=true) (hg:Ey k r=true) (hs:A6 s=true):
   Cm prog 40 [D2 k r,Cl s (.d (AX s.gas.cs)), .d (Bs l), .cl 41 [.lp 0 0]] (lk [(0,[.d (.lit (.slice none 0 0))])]) [0] (.ret (.tup [Ys (F6 (Dt k r l (BN 0 l) s)).2,vi (F6 (Dt k r l (BN 0 l) s)).1])) (lk ([(0,[hdF 25 (D6 k r l (BN 0 l) s) 1])]++ouF Ca (D6 k r l (BN 0 l) s) 1)):=by
 have hT:Va k r:=⟨hk,Hy hR,hg⟩
 have hlen:=Kv (i:=0) hok
 have hmem:∀ p∈BN 0 l,∃ x,l[p.1]?= some x:=fun p hp=>by
   obtain ⟨x,_,h,_⟩:=zn hp;exact ⟨x,by simpa using h⟩
 have hend:=LQ (k:=k) (r:=r) (s:=s) hmem;have hrd:∀ {j:Nat} {n:Shp},(D6 k r l (BN 0 l) s)[j]?= some n->_:=fun h=>LP h
 have hnok:=TS hT hok (im:=BN 0 l) hs
 have hlb:(BN 0 l).length<=60000:=by
   have:=KA hok;omega
 obtain ⟨ns,hns⟩:∃ ns,D6 k r l (BN 0 l) s=ns:=⟨_,rfl⟩
 obtain ⟨FK,hFK⟩:∃ FK,Dt k r l (BN 0 l) s=FK:=⟨_,rfl⟩
 rw [hns] at hend hnok hrd ⊢;rw [hFK] at hend ⊢
 have hnl:ns.length<=(BN 0 l).length:=by
   rcases hend with ⟨_,h⟩ | ⟨i,m,x,e,h,_⟩
   . omega
   . have:=(List.getElem?_eq_some_iff.1 h).1;omega
 have hsj:∀ {j:Nat},j<=ns.length->A6 (DX s ns j)=true:=fun hj=>fW hs hnok hj
 refine Cm.by gok eok mixed 1 func40 c40 rfl (by simp [ntmps40]) (by simp) (A7.at (by simp)) (by simp) (by
   refine ⟨by simp,?_⟩;exact fun p hp c hc=>fX ns p.1 p.2 hp c hc) fun E hs' hE=>?_
 simp [p40];refine CLa (fn90 l) ?_;simp;have hnt:E.nt=69:=by rw [hE.1];exact ntmps40
 rw [<-JI (Γ:=tys) (eqs:=eqs)];obtain ⟨f,hf⟩:∃ f,f=upd (upd (upd (upd (upd (upd (upd (upd (Dn 0 [D2 k r,Cl s (.d (AX s.gas.cs)), .d (Bs l), .cl 41 [.lp 0 0]]) 4 (.lp 1 0)) 5 (.lp 1048577 0)) 6 (.lp 2097153 0)) 7 (.lp 3145729 0)) 8 (.lp 4194305 0)) 9 (.lp 5242881 0)) 17 (.d (Bs l))) 18 (.cl 133 [.lp 7340033 0]):=⟨_,rfl⟩
 have hfA:∀ t,AV (·∈fKS) AR (f t):=fun t=>by
   rw [hf];simp only [AY];split
   . intro c hc;simp at hc;subst hc;exact (by simp [fKS]:(7340033:Nat)∈fKS)
   split
   . exact trivial
   split
   . exact (by simp [fKS]:(5242881:Nat)∈fKS)
   split
   . exact (by simp [fKS]:(4194305:Nat)∈fKS)
   split
   . exact (by simp [fKS]:(3145729:Nat)∈fKS)
   split
   . exact (by simp [fKS]:(2097153:Nat)∈fKS)
   split
   . exact (by simp [fKS]:(1048577:Nat)∈fKS)
   split
   . exact (by simp [fKS]:(1:Nat)∈fKS)
   simp only [Dn];split
   . exact trivial
   split
   . intro c hc;simp at hc;rcases hc with rfl | rfl | rfl | rfl | rfl | rfl | rfl | rfl | rfl | rfl | rfl | rfl | rfl | rfl | rfl | rfl | rfl | rfl | rfl | rfl | rfl | rfl | rfl | rfl | rfl<;>exact trivial
   split
   . exact trivial
   split
   . intro c hc;simp at hc;subst hc;exact (by simp [fKS]:(0:Nat)∈fKS)
   . exact fun c hc=>by simp at hc
 have hFF:kV f:=⟨hfA,by rw [hf];simp,by rw [hf];simp,by rw [hf];simp,by rw [hf];simp,by rw [hf];simp,by rw [hf];simp⟩
 have f18:f 18= .cl 133 [.lp 7340033 0]:=by rw [hf];simp
 obtain ⟨_,f4,f5,f6,f7,f8,f9⟩:=id hFF;rw [<-hf];have hK:=fun z acc t e er=>Ol k r l f z acc t e er hfA
 have hN:∀ i∈fKS,i<1000000000:=by simp [fKS]
 have hX:∀ i:Nat,∀ x∈fXS (ns.take i),x<1048576:=fun i x hx=>by
   unfold fXS at hx;split at hx<;>simp at hx;omega
 have hrec:∀ z acc t e er,∃ fr nt ps pa pb jmp,lk (fL k r l f z acc t e er) 8388609=some [.lr fr nt ps pa pb jmp]/\ps.length=2:=fun z acc t e er=>⟨f,69,[19,20],L8,Xz,z,by simp [fL],rfl⟩
 have hbox:∀ z acc t e er,lk (fL k r l f z acc t e er) 7340033=some [.d (Bs l)]:=fun z acc t e er=>by simp [fL]
 have hround:∀ j i m,j<ns.length->(BN 0 l)[j]?= some (i,m)->Ym prog 8388609 [vi i,vi m] (lk (fL k r l f .ready (ns.take j) (DX s ns j) ev0 0)) fKS (.ret (vb true)) (lk (fL k r l f .ready (ns.take (j+1)) (DX s ns (j+1)) ev0 0)):=fun j i m hj him=>by
   obtain ⟨n,hn⟩:=gE hj;obtain ⟨i',m',x,e1,e2,e3⟩:=hrd hn;rw [him] at e1;cases e1;have:=VQ hS k r l f hFF (ns.take j) (DX s ns j) n i m x (by omega) (by rw [List.length_take];omega) h1 h2 h3 hk hR hg (hsj (by omega)) (hok x (List.mem_of_getElem? e2)) e2 e3;rw [Vb hn,List.take_add_one,hn];exact this
 rcases hend with ⟨hok1,hlen1⟩ | ⟨i,m,x,e,hm1,hm2,hm3,hm4⟩
 ·
   have c:=Jl l (by omega) hok fKS (fun j=>fXS (ns.take j)) 8388609 7340033 ns.length (fun _=>true) (fun j=>fL k r l f .ready (ns.take j) (DX s ns j) ev0 0) (by simp [fKS]) (by simp [fKS]) hN hX (by omega) (fun j _=>hK _ _ _ _ _) (fun j _=>hrec _ _ _ _ _) (fun j _=>hbox _ _ _ _ _) (fun _ _=>rfl) (Or.inl hlen1) (fun j i m hj him=>hround j i m hj him);have hK0:=hK .ready [] s ev0 0;have hKn:=hK .ready ns (DX s ns ns.length) ev0 0;have c0:fL k r l f .ready (ns.take 0) (DX s ns 0) ev0 0=fL k r l f .ready [] s ev0 0:=rfl;have cn:fL k r l f .ready (ns.take ns.length) (DX s ns ns.length) ev0 0=fL k r l f .ready ns (DX s ns ns.length) ev0 0:=by rw [List.take_length]
   rw [c0,cn,Vc,Vc,NG] at c;rw [Vc,NG] at hK0 hKn;have hFe:F6 FK=(0,ev0):=by rw [hok1];rfl
   rw [hFe];refine E3.keepX (fT k r l [] s ev0 0) (fT k r l ns (DX s ns ns.length) ev0 0) [7340033,1,1048577,2097153,3145729,4194305,5242881,0] (fXS []) (fXS ns) (.tup []) .ready ⟨hE.2,by rw [hnt];simp [AL4]⟩ (g:=133) (caps:=[.lp 7340033 0]) (by simp [f18]) (by rw [hnt];exact c) (by rw [hnt];exact hK0) (by rw [hnt];exact hKn) (fun x hx=>by have:=hX ns.length x (by rw [List.take_length];exact hx);exact this) (by simp [fXS]) (by simp [fXS,fT,Aq,Au,ev0]) (by simp) fun F h1 h2=>?_
   by_cases h0:ns=[]
   . subst h0
     have F0:=h1 (0,_) (by simp [fT,Aq,Au];rfl);have F8:=h1 (4194305,_) (by simp [fT,Aq,Au];rfl);have F9:=h1 (5242881,_) (by simp [fT,Aq,Au];rfl);simp [sg,BJ,DS,DR] at F0 F8 F9;rw [Aq,Au]
     show Ft 0 _ .normal _
     simp [f8,f9,F8,F9,AA];refine AB.by (lk [(0,0)]) ?_;simp [results40,F0,ev0,f8,f9]
   . have F0:=h1 (0,_) (by simp [fT,Ak h0,AZ h0];rfl)
     have F7:=h1 (7,_) (by simp [fT,Ak h0,AZ h0];rfl);have F8:=h1 (4194305,_) (by simp [fT,Ak h0,AZ h0];rfl);have F9:=h1 (5242881,_) (by simp [fT,Ak h0,AZ h0];rfl);simp [sg,BJ,DS,DR] at F0 F7 F8 F9;rw [Ak h0,AZ h0]
     show Ft 0 _ .normal _
     simp [f8,f9,F8,F9,AA];refine AB.by (lk [(0,0),(1,9437192)]) ?_;simp [results40,F0,F7,ev0,f8,f9]
     all_goals first | exact Or.inl (List.all_eq_true.2 BU) | skip
 . have hal:ns.length<(BN 0 l).length:=(List.getElem?_eq_some_iff.1 hm1).1
   obtain ⟨EZ,hEZ⟩:∃ EZ,FC i m e=EZ:=⟨_,rfl⟩
   have hFe:F6 FK=EZ:=by rw [hm4,hEZ];rfl
   rw [hFe];have hfail:=co hS k r l f hFF ns (DX s ns ns.length) i m x e (by omega) h1 h2 h3 hk hR hg (hsj (Nat.le_refl _)) (hok x (List.mem_of_getElem? hm2)) hm2 hm3;rw [hEZ] at hfail;obtain ⟨SF,hSF⟩:∃ SF,Iw x m (DX s ns ns.length)=SF:=⟨_,rfl⟩
   rw [hSF] at hfail;obtain ⟨LL,hLL⟩:∃ LL:Nat->List (Nat × List V),LL=fun j=>if j<=ns.length then fL k r l f .ready (ns.take j) (DX s ns j) ev0 0 else fL k r l f (.done .ret) ns SF EZ.2 EZ.1:=⟨_,rfl⟩
   have LLa:∀ j,j<=ns.length->LL j=fL k r l f .ready (ns.take j) (DX s ns j) ev0 0:=fun j hj=>by rw [hLL];simp only;rw [if_pos hj]
   have LLb:LL (ns.length+1)=fL k r l f (.done .ret) ns SF EZ.2 EZ.1:=by rw [hLL];simp only;rw [if_neg (by omega)]
   have tk:∀ j,ns.length<=j->ns.take j=ns:=fun j hj=>List.take_of_length_le hj
   have c:=Jl l (by omega) hok fKS (fun j=>fXS (ns.take j)) 8388609 7340033 (ns.length+1) (fun j=>decide (j<ns.length)) LL (by simp [fKS]) (by simp [fKS]) hN hX (by omega) (fun j hj=>by
       by_cases h:j<=ns.length
       . rw [LLa j h];exact hK _ _ _ _ _
       . rw [show j=ns.length+1 by omega,LLb,tk _ (by omega)];exact hK _ _ _ _ _) (fun j hj=>by
       rw [LLa j (by omega)];exact hrec _ _ _ _ _) (fun j hj=>by
       by_cases h:j<=ns.length
       . rw [LLa j h];exact hbox _ _ _ _ _
       . rw [show j=ns.length+1 by omega,LLb];exact hbox _ _ _ _ _) (fun j hj=>decide_eq_true (by omega)) (Or.inr ⟨by omega,decide_eq_false (by omega)⟩) (fun j i' m' hj him=>by
       by_cases h:j<ns.length
       . rw [LLa j (by omega),LLa (j+1) (by omega),decide_eq_true h];exact hround j i' m' h him
       . have e1:j=ns.length:=by omega
         subst e1;rw [hm1] at him;cases him;rw [LLa ns.length (Nat.le_refl _),LLb,decide_eq_false h,List.take_length];exact hfail)
   have hK0:=hK .ready [] s ev0 0;have hKn:=hK (.done .ret) ns SF EZ.2 EZ.1;have c0:LL 0=fL k r l f .ready [] s ev0 0:=by rw [LLa 0 (by omega)];rfl
   rw [c0,LLb,Vc,Vc,NG] at c;rw [Vc,NG] at hK0 hKn;refine E3.keepX (fT k r l [] s ev0 0) (fT k r l ns SF EZ.2 EZ.1) [7340033,1,1048577,2097153,3145729,4194305,5242881,0] (fXS []) (fXS ns) (.tup []) (.done .ret) ⟨hE.2,by rw [hnt];simp [AL4]⟩ (g:=133) (caps:=[.lp 7340033 0]) (by simp [f18]) (by rw [hnt];exact c) (by rw [hnt];exact hK0) (by rw [hnt];exact hKn) (fun x hx=>by have:=hX ns.length x (by rw [List.take_length];exact hx);exact this) (by simp [fXS]) (by simp [fXS,fT,Aq,Au,ev0]) (by simp) fun F h1 h2=>?_
   by_cases h0:ns=[]
   . subst h0
     have F0:=h1 (0,_) (by simp [fT,Aq,Au];rfl);have F8:=h1 (4194305,_) (by simp [fT,Aq,Au];rfl);have F9:=h1 (5242881,_) (by simp [fT,Aq,Au];rfl);simp [sg,BJ,DS,DR] at F0 F8 F9;rw [Aq,Au]
     show Ft 0 _ .ret _
     simp;refine AB.by (lk [(0,0)]) ?_;simp [results40,F0,F8,F9,f8,f9]
   . have F0:=h1 (0,_) (by simp [fT,Ak h0,AZ h0];rfl)
     have F7:=h1 (7,_) (by simp [fT,Ak h0,AZ h0];rfl);have F8:=h1 (4194305,_) (by simp [fT,Ak h0,AZ h0];rfl);have F9:=h1 (5242881,_) (by simp [fT,Ak h0,AZ h0];rfl);simp [sg,BJ,DS,DR] at F0 F7 F8 F9;rw [Ak h0,AZ h0]
     show Ft 0 _ .ret _
     simp;refine AB.by (lk [(0,0),(1,9437192)]) ?_;simp [results40,F0,F7,F8,F9,f8,f9]
     all_goals first | exact Or.inl (List.all_eq_true.2 BU) | skip
abbrev cD (l:List Shp):D:= .sl 25 (l.map Ca)
def Lp (a:Except (Int × Evt) (List Shp)):List Shp:=match a with | .ok ns=>ns | .error _=>[]
abbrev AFC (a:Except (Int × Evt) (List Shp)):V:= .tup [.d (cD (Lp a)),Ys (F6 a).2,vi (F6 a).1]
theorem ABc {k:Sky} {r:Rig} {s:Shp} {a b:Int} (ha:(if A6 s then (0:Int) else 52)=a) (hz:¬ JC k r s b=0):(¬ QG k r a b=0/\QG k r a b=JC k r s b)\/(BV k=true/\CF r=true/\a=0/\b=0/\Ey k r=false/\JC k r s b=2):=by
 unfold QG JC at*;unfold e0 e1;cases h1:BV k
 . left;simp
 . cases h2:CF r
   . left;simp
   . cases h3:A6 s
     . rw [h3] at ha;simp at ha;subst ha;left;simp
     . rw [h3] at ha;simp at ha;subst ha
       by_cases hb0:b=0
       . cases h4:Ey k r
         . right;simp [hb0]
         . rw [h1,h2,h3,h4,hb0] at hz;simp at hz
       . left;simp [hb0]
theorem Tv {l:List Leg} (h:C0 l=0):l.length<=20/\(∀ x∈l,BE x=true)/\Cv l<=600:=by
 unfold C0 at h;split at h
 . simp at h
 split at h
 . rename_i h1 h2
   split at h
   . simp at h
   . exact ⟨by omega,List.all_eq_true.1 h2,by omega⟩
 . simp at h
theorem mK (ID:Nat) (hI:2<=ID) (hS:SortOk) (k:Sky) (r:Rig) (l:List Leg) (s:Shp) (hl:l.length<=100) (hok:∀ x∈l,BE x=true) (h1:k.s.length<=1000000) (h2:k.w.length<=1000000) (h3:r.reg.length<=1000000) (hk:BV k=true) (hR:CF r=true) (hg:Ey k r=true) (hs:A6 s=true):
   Cm prog 40 [D2 k r,Cl s (.d (AX s.gas.cs)), .d (Bs l), .cl 41 [.lp ID 0]] (lk [(ID,[.d (.lit (.slice none 0 0))])]) [ID] (.ret (.tup [Ys (F6 (Dt k r l (BN 0 l) s)).2,vi (F6 (Dt k r l (BN 0 l) s)).1])) (lk ([(ID,[hdF 25 (D6 k r l (BN 0 l) s) 1])]++ouF Ca (D6 k r l (BN 0 l) s) 1)):=by
 have h:=pQ hS k r l s hl hok h1 h2 h3 hk hR hg hs
 generalize D6 k r l (BN 0 l) s=ns at*
 generalize F6 (Dt k r l (BN 0 l) s)=e at*
 have hr:∀ l:List Shp,(AH Ca l).map (BJ fun i=>if i=0 then ID else i)=AH Ca l:=fun l=>by
   simp [AH,List.map_flatten,Function.comp_def]
 have:=Cm.rename (fun i=>if i=0 then ID else i) 2 (by intro i j hi hj;split<;>split<;>omega) h (by simp [BW]) (by
   by_cases h0:ns=[]
   . subst h0;simp [BW,Aq,Au]
   . simp [BW,Ak h0,AZ h0]) (by simp)
 have hc:HR (fun i=>if i=0 then ID else i) (V.cl 41 [.lp 0 0])= .cl 41 [.lp ID 0]:=rfl;by_cases h0:ns=[]
 . subst h0
   rw [Aq,Au] at this ⊢;simpa [Ea,HW,hc] using this
 . rw [Ak h0,AZ h0] at this ⊢
   simpa [Ea,HW,hr,hc] using this
theorem qt (hS:SortOk) (k:Sky) (r:Rig) (s:Shp) (l:List Leg) (h1:k.s.length<=1000000) (h2:k.w.length<=1000000) (h3:r.reg.length<=1000000) (h4:s.gas.cs.length<=1000000) (h5:l.length<=1000000) (h6:∀ x∈l,x.acts.length<=1000000):Ct prog 11 [Eu k,Fj r,Cl s (.d (AX s.gas.cs)), .d (Bs l)] (.tup [hdF 25 (Lp (HA k r s l)) 0,Ys (F6 (HA k r s l)).2,vi (F6 (HA k r s l)).1]) (ouF Ca (Lp (HA k r s l)) 0):=by
 have c1:=AEM s (by omega);have c2:=fn39 l h5 h6;obtain ⟨a,ha⟩:∃ a:Int,(if A6 s then 0 else 52)=a:=⟨_,rfl⟩
 obtain ⟨b,hb⟩:∃ b:Int,C0 l=b:=⟨_,rfl⟩
 rw [ha] at c1;rw [hb] at c2;unfold HA;rw [hb];by_cases hz:JC k r s b=0
 . rw [if_pos hz]
   obtain ⟨hk,hR,hs,hb0,hg⟩:=MD hz;have ha0:a=0:=by rw [<-ha,hs];rfl
   subst ha0 hb0;obtain ⟨q1,q2,q3⟩:=Tv hb;have c3:=fd 12582912 hS k r h1 h2 h3 hk hR hg;have c4:=mK 22020096 (by omega) hS k r l s (by omega) q2 h1 h2 h3 hk hR hg hs
   have hmem:∀ p∈BN 0 l,∃ x,l[p.1]?= some x:=fun p hp=>by
     obtain ⟨x,_,h,_⟩:=zn hp;exact ⟨x,by simpa using h⟩
   have hend:=LQ (k:=k) (r:=r) (s:=s) hmem;have herr:=fun e=>NF (k:=k) (r:=r) (l:=l) (im:=BN 0 l) (s:=s) (e:=e) hmem
   generalize D6 k r l (BN 0 l) s=ns at*
   generalize Dt k r l (BN 0 l) s=FK at*
   rcases hend with ⟨e1,_⟩ | ⟨i,m,x,e,_,_,_,e4⟩
   . subst e1
     simp only [Lp,F6] at c4 ⊢;by_cases h0:ns=[]
     . subst h0
       rw [Aq,Au] at c4 ⊢;refine CB func11 c11 fun E hE=>?_
       simp [p11];refine AL [(7,12582912)] (by kernel_rfl) ?_;simp [inC,Nat.testBit];refine CLa c1 ?_;simp [inC,Nat.testBit];refine CLa c2 ?_;simp [AA,AM,inC,Nat.testBit];refine CDs c3 (by simp [wrL,inC,Nat.testBit]) ?_;simp;refine CRs c4 (by simp) ?_;simp [AA,ev0];apply RZ;simp [results11]
     . rw [Ak h0,AZ h0] at c4 ⊢
       refine CB func11 c11 fun E hE=>?_
       simp [p11];refine AL [(7,12582912)] (by kernel_rfl) ?_;simp [inC,Nat.testBit];refine CLa c1 ?_;simp [inC,Nat.testBit];refine CLa c2 ?_;simp [AA,AM,inC,Nat.testBit];refine CDs c3 (by simp [wrL,inC,Nat.testBit]) ?_;simp;refine CRs c4 (by simp) ?_;simp [AA,ev0];refine AB.by (lk [(0,27262977)]) ?_;simp [results11]
       all_goals first | exact Or.inl (List.all_eq_true.2 BU) | skip
   . have he:=(herr _ e4).1
     subst e4;simp only [Lp,F6,Aq,Au] at c4 ⊢
     generalize FC i m e=ee at*
     by_cases h0:ns=[]
     . subst h0
       rw [Aq,Au] at c4;refine CB func11 c11 fun E hE=>?_
       simp [p11];refine AL [(7,12582912)] (by kernel_rfl) ?_;simp [inC,Nat.testBit];refine CLa c1 ?_;simp [inC,Nat.testBit];refine CLa c2 ?_;simp [AA,AM,inC,Nat.testBit];refine CDs c3 (by simp [wrL,inC,Nat.testBit]) ?_;simp;refine CRs c4 (by simp) ?_;simp [AA,he];refine AL [(3,4194304)] (by kernel_rfl) ?_;simp [AA,inC,Nat.testBit];apply RZ;simp [results11]
     . rw [Ak h0,AZ h0] at c4
       refine CB func11 c11 fun E hE=>?_
       simp [p11];refine AL [(7,12582912)] (by kernel_rfl) ?_;simp [inC,Nat.testBit];refine CLa c1 ?_;simp [inC,Nat.testBit];refine CLa c2 ?_;simp [AA,AM,inC,Nat.testBit];refine CDs c3 (by simp [wrL,inC,Nat.testBit]) ?_;simp;refine CRs c4 (by simp) ?_;simp [AA,he];refine AL [(3,4194304)] (by kernel_rfl) ?_;simp [AA,inC,Nat.testBit];apply RZ;simp [results11]
 . rw [if_neg hz]
   simp only [Lp,F6,Aq,Au,ev0];rcases ABc ha hz with ⟨k1,k2⟩ | ⟨k1,k2,k3,k4,k5,k6⟩
   . have c3:=XK hS k r a b h1 h2 h3 k1
     rw [<-k2]
     generalize QG k r a b=e at*
     refine CB func11 c11 fun E hE=>?_
     simp [p11];refine AL [] (by kernel_rfl) ?_;simp [inC,Nat.testBit];refine CLa c1 ?_;simp [inC,Nat.testBit];refine CLa c2 ?_;simp [AA,AM,inC,Nat.testBit];refine CLb (c3) (by simp [Ap,Hcl,inC,Nat.testBit]) ?_;simp [AA,k1];apply RZ;simp [results11]
   . subst k3 k4
     have c3:=XM hS k r h1 h2 h3 k1 k2 k5;rw [k6];refine CB func11 c11 fun E hE=>?_
     simp [p11];refine AL [] (by kernel_rfl) ?_;simp [inC,Nat.testBit];refine CLa c1 ?_;simp [inC,Nat.testBit];refine CLa c2 ?_;simp [AA,AM,inC,Nat.testBit];refine CLb (c3) (by simp [Ap,Hcl,inC,Nat.testBit]) ?_;simp [AA];apply RZ;simp [results11]
theorem fn11 (hS:SortOk) (k:Sky) (r:Rig) (s:Shp) (l:List Leg) (h1:k.s.length<=1000000) (h2:k.w.length<=1000000) (h3:r.reg.length<=1000000) (h4:s.gas.cs.length<=1000000) (h5:l.length<=1000000) (h6:∀ x∈l,x.acts.length<=1000000):Ct prog 11 [Eu k,Fj r,Cl s (.d (AX s.gas.cs)), .d (Bs l)] (AFC (HA k r s l)) []:=by
 refine Cm.freeze (qt hS k r s l h1 h2 h3 h4 h5 h6) ?_;obtain ⟨ns,hns⟩:∃ ns,Lp (HA k r s l)=ns:=⟨_,rfl⟩
 unfold AFC;rw [hns];have z:∀ (H:Hp) (x:Int),FzC H (vi x) (vi x):=fun H x=>⟨_,rfl, .inl rfl⟩
 refine ⟨?_,⟨z _ _,z _ _,z _ _,z _ _,trivial⟩, .inl rfl,trivial⟩;by_cases h0:ns=[]
 . subst h0
   rw [Aq];exact .inr ⟨rfl,_,rfl⟩
 . rw [Ak h0,AZ h0]
   exact B0 (H:=lk [(0,AH Ca ns)]) (id:=0) WM (l:=ns) (by simp)
theorem fz_d {H:Hp} (d:D):FzC H (.d d) (.d d):=⟨d,rfl,by cases d<;>first | exact Or.inl rfl | rfl⟩
theorem Tf {H:Hp}:∀ ds:List D,AJ (FzC H) (ds.map .d) (ds.map .d)
 | []=>trivial
 | d::ds=>⟨fz_d d,Tf ds⟩
theorem lm {H:Hp} (k:Sky):Fz1 H (Eu k) (Eu k):=Tf [BF k.s,cT k.w]
theorem ln {H:Hp} (r:Rig):Fz1 H (Fj r) (Fj r):=Tf [An r.reg,di r.gl,di r.gh,di r.tank,di r.rsv,di r.lo,di r.hi]
theorem lq {H:Hp} (s:Shp):Fz1 H (Cl s (.d (AX s.gas.cs))) (Cl s (.d (AX s.gas.cs))):=Tf (Ca s)
theorem AQZ:∀ x:Nws,(nwL x).length=6:=fun _=>rfl
theorem AOo (i:Nat):toK (i+1)=toK i++[⟨(i/4:Nat),(i%4+1:Nat),0,0,((toV[i]?).getD (0,0)).1,((toV[i]?).getD (0,0)).2⟩]:=by
 unfold toK;rw [List.range_succ,List.map_append];rfl
theorem APf (i:Nat):(toK i).length=i+1:=by simp [toK]
abbrev toB:List V:=[vi 9990,vi 10010,vi 2790,vi 2810,vi (-5),vi 5,vi 0,vi 0,vi 8800,vi 8900,vi 2790,vi 2810,vi (-5),vi 5,vi 0,vi 0]
theorem AQ7:Ct prog 27 [] (.tup [.ls 0 0 2 2, .ls 1 0 9 6]) [(0,[vi 0,vi 0,vi 1000,vi 0]),(1,AH nwL (toK 8))]:=by
 refine CB func27 c27 fun E hE=>?_
 simp [p27,AA,AM];refine Al (α:=Nat) (fun i=>⟨AO [(2, .ls 0 0 (toK i).length 6),(16, .ls 1 0 8 2),(17,vi 8),(18,vi i)],lk [(0,AH nwL (toK i)),(1,toB)],2⟩) (fun i=>i<=8) (fun i=>8-i) 0 ?_ ?_ ?_
 . omega
 . refine AI.mk hE (lk [(0,4194304),(1,14680064)]) _ _ _ ?_ ?_ ?_ ?_ ?_<;>simp [AH,toK]
 . intro i hi
   have w:∀ k:Int,0<=k->k<=8->IntKind.wrap .i64 k=k:=fun k h1 h2=>AD (by omega) (by omega)
   have h9:i=0\/i=1\/i=2\/i=3\/i=4\/i=5\/i=6\/i=7\/i=8:=by omega
   have s1:=Aw AQZ (toK i);have s2:=E9 AQZ (toK i);have s3:=APf i;have s4:=AOo i;have m1:((toK i).length+1)*48<=140737488355328:=by omega
   have m2:(toK i).length+1<=9223372036854775807:=by omega
   rcases h9 with rfl | rfl | rfl | rfl | rfl | rfl | rfl | rfl | rfl
   . generalize toK 0=T at*
     have s5:List.take 6 (AH nwL T)=AH nwL T:=by rw [s3] at s2;exact s2
     simp [ABJ,AA,AM,s1,s3,s5,w];refine ⟨1,by omega,by omega,?_⟩;rw [show toK 1=_ from s4,IV];refine AI.mk hE (lk [(0,16777218),(1,1)]) _ _ _ ?_ ?_ ?_ ?_ ?_<;>simp [toV,s3]
   . generalize toK 1=T at*
     have s5:List.take 12 (AH nwL T)=AH nwL T:=by rw [s3] at s2;exact s2
     simp [ABJ,AA,AM,s1,s3,s5,w];refine ⟨2,by omega,by omega,?_⟩;rw [show toK 2=_ from s4,IV];refine AI.mk hE (lk [(0,16777218),(1,1)]) _ _ _ ?_ ?_ ?_ ?_ ?_<;>simp [toV,s3]
   . generalize toK 2=T at*
     have s5:List.take 18 (AH nwL T)=AH nwL T:=by rw [s3] at s2;exact s2
     simp [ABJ,AA,AM,s1,s3,s5,w];refine ⟨3,by omega,by omega,?_⟩;rw [show toK 3=_ from s4,IV];refine AI.mk hE (lk [(0,16777218),(1,1)]) _ _ _ ?_ ?_ ?_ ?_ ?_<;>simp [toV,s3]
   . generalize toK 3=T at*
     have s5:List.take 24 (AH nwL T)=AH nwL T:=by rw [s3] at s2;exact s2
     simp [ABJ,AA,AM,s1,s3,s5,w];refine ⟨4,by omega,by omega,?_⟩;rw [show toK 4=_ from s4,IV];refine AI.mk hE (lk [(0,16777218),(1,1)]) _ _ _ ?_ ?_ ?_ ?_ ?_<;>simp [toV,s3]
   . generalize toK 4=T at*
     have s5:List.take 30 (AH nwL T)=AH nwL T:=by rw [s3] at s2;exact s2
     simp [ABJ,AA,AM,s1,s3,s5,w];refine ⟨5,by omega,by omega,?_⟩;rw [show toK 5=_ from s4,IV];refine AI.mk hE (lk [(0,16777218),(1,1)]) _ _ _ ?_ ?_ ?_ ?_ ?_<;>simp [toV,s3]
   . generalize toK 5=T at*
     have s5:List.take 36 (AH nwL T)=AH nwL T:=by rw [s3] at s2;exact s2
     simp [ABJ,AA,AM,s1,s3,s5,w];refine ⟨6,by omega,by omega,?_⟩;rw [show toK 6=_ from s4,IV];refine AI.mk hE (lk [(0,16777218),(1,1)]) _ _ _ ?_ ?_ ?_ ?_ ?_<;>simp [toV,s3]
   . generalize toK 6=T at*
     have s5:List.take 42 (AH nwL T)=AH nwL T:=by rw [s3] at s2;exact s2
     simp [ABJ,AA,AM,s1,s3,s5,w];refine ⟨7,by omega,by omega,?_⟩;rw [show toK 7=_ from s4,IV];refine AI.mk hE (lk [(0,16777218),(1,1)]) _ _ _ ?_ ?_ ?_ ?_ ?_<;>simp [toV,s3]
   . generalize toK 7=T at*
     have s5:List.take 48 (AH nwL T)=AH nwL T:=by rw [s3] at s2;exact s2
     simp [ABJ,AA,AM,s1,s3,s5,w];refine ⟨8,by omega,by omega,?_⟩;rw [show toK 8=_ from s4,IV];refine AI.mk hE (lk [(0,16777218),(1,1)]) _ _ _ ?_ ?_ ?_ ?_ ?_<;>simp [toV,s3]
   . simp [ABJ,AA,AM]
     refine AB.by (lk [(0,3145730),(1,0)]) ?_;simp [results27,s3]
theorem fn27:Ct prog 27 [] (.tup [.d (ALO toP), .d (ALV (toK 8))]) []:=by
 refine Cm.freeze AQ7 ?_;have k1:=ANE (H:=lk [(0,[vi 0,vi 0,vi 1000,vi 0]),(1,AH nwL (toK 8))]) (b:=0) (f:=AO9) (sz:=2) (fun _=>rfl) (l:=toP) (by simp [AH,toP]);have k2:=ANE (H:=lk [(0,[vi 0,vi 0,vi 1000,vi 0]),(1,AH nwL (toK 8))]) (b:=1) AQZ (l:=toK 8) (by simp);exact ⟨k1,k2,trivial⟩
theorem fn24 (n:Int):Ct prog 24 [vi n] (vsp n n) []:=by
 refine CB func24 c24 fun E hE=>?_
 simp [p24,AA];apply RZ;simp [results24]
theorem AEB (a b:Int):Ct prog 19 [vi a,vi b] (Fj (plR a b)) []:=by
 refine Cm.freeze (?_:Ct prog 19 [vi a,vi b] (.agg [.ls 0 0 2 2,vi 0,vi 0,vi 0,vi 0,vi a,vi b]) [(0,AH spL plReg)]) ?_
 . refine CB func19 c19 fun E hE=>?_
   simp [p19,AA,AM];refine AB.by (lk [(0,3145728)]) ?_;simp [results19,AH,plReg]
 . have k1:=ANE (H:=lk [(0,AH spL plReg)]) (b:=0) (f:=spL) (sz:=2) (fun _=>rfl) (l:=plReg) (by simp)
   have z:∀ (H:Hp) (x:Int),FzC H (vi x) (vi x):=fun H x=>⟨_,rfl, .inl rfl⟩
   exact ⟨⟨_,rfl,k1⟩,z _ _,z _ _,z _ _,z _ _,z _ _,z _ _,trivial⟩
theorem RD.nilS {Im:Nat->Prop} {W:World} {v:Value} {sz:Nat} (h:RD Im W (.lit (.slice none 0 0)) v):RD Im W (.sl sz []) v:=by
 cases h;exact .sl sz [] none 0 (fun _ _=> .bool true) (by simp) (by simp) (by simp) (by simp) (by simp)
theorem RD.rows {Im:Nat->Prop} {W:World} {sz:Nat} {es es':List (List D)} {v:Value} (h:RD Im W (.sl sz es') v) (hl:es'.length=es.length) (hr:∀ (i:Nat) e e',es[i]?= some e->es'[i]?= some e'->e.length=e'.length/\∀ (j:Nat) x x',e[j]?= some x->e'[j]?= some x'->x'=x\/(x'= .lit (.slice none 0 0)/\∃ z,x= .sl z [])):RD Im W (.sl sz es) v:=by
 cases h with
 | sl _ _ ao cap vs hsz hlen hcap hm hv=>
   rw [hl];have get:∀ (i:Nat) e,es[i]?= some e->∃ e',es'[i]?= some e':=fun i e he=>⟨_,List.getElem?_eq_getElem (by rw [hl];exact (List.getElem?_eq_some_iff.1 he).1)⟩
   have getj:∀ (i:Nat) e e',es[i]?= some e->es'[i]?= some e'->∀ (j:Nat) x,e[j]?= some x->∃ x',e'[j]?= some x':=fun i e e' he he' j x hx=>⟨_,List.getElem?_eq_getElem (by rw [<-(hr i e e' he he').1];exact (List.getElem?_eq_some_iff.1 hx).1)⟩
   refine .sl sz es ao cap vs (fun e he=>?_) (by rw [<-hl];exact hlen) (by rw [<-hl];exact hcap) (fun i e he=>?_) fun i e he j x hx=>?_
   . obtain ⟨i,hi⟩:=List.getElem?_of_mem he
     obtain ⟨e',he'⟩:=get i e hi;rw [(hr i e e' hi he').1];exact hsz e' (List.mem_of_getElem? he')
   . obtain ⟨e',he'⟩:=get i e he
     obtain ⟨a,h1,h2,h3⟩:=hm i e' he';refine ⟨a,h1,h2,fun j x hx=>?_⟩;obtain ⟨x',hx'⟩:=getj i e e' he he' j x hx;exact h3 j x' hx'
   . obtain ⟨e',he'⟩:=get i e he
     obtain ⟨x',hx'⟩:=getj i e e' he he' j x hx;have:=hv i e' he' j x' hx';rcases (hr i e e' he he').2 j x x' hx hx' with h | ⟨h,z,hz⟩
     . rw [<-h];exact this
     . rw [h] at this
       rw [hz];exact RD.nilS this
theorem Cm.le {P:Program} {f:FuncId} {args args':List V} {Hin:Hp} {ks:List Nat} {res:Res} {H1:Hp} (h:Cm P f args Hin ks res H1) (hle:AJ (fun a' a=>∀ (G:Gh) (W:World) (v:Value),R2 G W a' v->R2 G W a v) args' args):Cm P f args' Hin ks res H1:=by
 refine ⟨h.1,fun G W xs him hargs hpre=>h.2 G W xs him ?_ hpre⟩
 exact AJ.of_get (by rw [<-hle.length,hargs.length]) fun i a x ha hx=>by
   obtain ⟨a',ha',hr⟩:=hle.get2 ha;obtain ⟨y,hy,hry⟩:=hargs.get ha';rw [hx] at hy;cases hy;exact hr G W _ hry
abbrev nuV (m v:Int):List V:=[vi m,vi v,vi v,vi 0,vi 0,vi 0,vi 0,vi 0,vi 0,vi 0,Nv]
theorem AQa {k:Sky} {r:Rig} {s:Shp} {m v:Int} {R:V} (h:Ct prog 11 [Eu k,Fj r,Cl s (.d (AX s.gas.cs)), .d (Bs [nuL m v])] R []) (b:Nat):Cm prog 11 [Eu k,Fj r,Cl s (.d (AX s.gas.cs)), .ls b 0 1 11] (lk [(b,nuV m v)]) [] (.ret R) (lk []):=by
 have h2:Ct prog 11 [Eu k,Fj r,Cl s (.d (AX s.gas.cs)), .d (.sl 11 [[di m,di v,di v,di 0,di 0,di 0,di 0,di 0,di 0,di 0, .lit (.slice none 0 0)]])] R []:=by
   refine Cm.le h ⟨fun _ _ _ h=>h,fun _ _ _ h=>h,fun _ _ _ h=>h,fun G W x hx=>?_,trivial⟩;refine RD.rows (es':=[[di m,di v,di v,di 0,di 0,di 0,di 0,di 0,di 0,di 0, .lit (.slice none 0 0)]]) hx rfl fun i e e' he he'=>?_
   cases i with
   | succ i=>simp at he
   | zero=>
     simp at he he';subst he he';refine ⟨rfl,fun j x x' h1 h2=>?_⟩;by_cases hj:j<10
     . left
       have hj10:j=0\/j=1\/j=2\/j=3\/j=4\/j=5\/j=6\/j=7\/j=8\/j=9:=by omega
       rcases hj10 with rfl | rfl | rfl | rfl | rfl | rfl | rfl | rfl | rfl | rfl<;>simp [nuL] at h1 h2<;>rw [<-h1,<-h2]
     . right
       have hl:=(List.getElem?_eq_some_iff.1 h1).1;have e:j=10:=by simp at hl;omega
       subst e;simp [nuL] at h1 h2;exact ⟨h2.symm,4,h1.symm⟩
 have hb:Bor (lk [(b,nuV m v)]) (.ls b 0 1 11) (.d (.sl 11 [[di m,di v,di v,di 0,di 0,di 0,di 0,di 0,di 0,di 0, .lit (.slice none 0 0)]])):=by
   rw [Bk];exact ⟨rfl,rfl,by simp,_,by simp [lk];rfl,rfl⟩
 exact Cm.give h2 ⟨lm k,ln r,lq s,hb,trivial⟩
theorem fn6 (hS:SortOk):Ct prog 6 [] (vb true) []:=by
 have c1:=fn27;have s1:=AQH toP ⟨0,0,0⟩ (toK 8) 10 0 (by decide) (by decide);have s2:=AQH toP ⟨0,0,0⟩ (toK 8) 10 10 (by decide) (by decide);rw [show ALT toP ⟨0,0,0⟩ (toK 8) 10 0=_ from AQq] at s1;rw [show ALT toP ⟨0,0,0⟩ (toK 8) 10 10=_ from AP2] at s2;have o:=fn24 100;have pl:=AEB 0 1000;have f:=fn11 hS adK (plR 0 1000) (nuS 0 0 100) [nuL 2 100] (by decide) (by decide) (by decide) (by decide) (by decide) (by decide);rw [AQt] at f;simp only [AFC,Lp,F6] at f;have f:=fun b=>AQa f b
 refine CB func6 c6 fun E hE=>?_
 simp [p6];refine CLa c1 ?_;simp;refine CLa s1 ?_;simp;refine CLa s2 ?_;simp;refine CLa o ?_;simp [AA];refine AL [(9,42991616),(16,49283072)] (by kernel_rfl) ?_;simp [AA,inC,Nat.testBit];refine CLa pl ?_;simp [inC,Nat.testBit];refine CLa o ?_;simp [AA,AM,inC,Nat.testBit];refine CDs (f 42991616) (by simp [wrL,inC,Nat.testBit,nuS,nuP,adK,plR]) ?_;simp [AA,inC,Nat.testBit,ev0,nuS,adL];apply RZ;simp [results6]
theorem ATc {G:Gh} {W:World} {a0 a1 a2 a3 a4 a5 a6 a7 a8 a9:V}:∀ {l:List Value},AJ (R1 G W) [a0,a1,a2,a3,a4,a5,a6,a7,a8,a9,Nv] l->AJ (R1 G W) [a0,a1,a2,a3,a4,a5,a6,a7,a8,a9, .d (JZ [])] l
 | [_,_,_,_,_,_,_,_,_,_,_],⟨h0,h1,h2,h3,h4,h5,h6,h7,h8,h9,h10,_⟩=>⟨h0,h1,h2,h3,h4,h5,h6,h7,h8,h9,RD.nilS (sz:=4) h10,trivial⟩
theorem ATF {a b c:V} {up:Int} {R:V} (h:Ct prog 20 [a,b,c,AKx (ex up)] R []):Ct prog 20 [a,b,c, .agg [vi 1,vi 0,vi 0,vi 0,vi 0,vi 0,vi up,vi 0,vi 0,vi 0,Nv]] R []:=
 Cm.le h ⟨fun _ _ _ h=>h,fun _ _ _ h=>h,fun _ _ _ h=>h,fun _ _ _ ⟨cv,e,hc⟩=>⟨cv,e,ATc hc⟩,trivial⟩
theorem fn4 (hS:SortOk) (k:Sky) (s:Shp) (h cl:Int) (hcl:0<=cl/\cl<256):Ct prog 4 [Eu k,Cl s (.d (AX s.gas.cs)),vi h, .d (.lit (.int .u8 cl))] (vb true) []:=by
 have d0:=fn6 hS;have g1:=fn14 k;have g2:=fn8 s;by_cases h1:24<k.s.length\/24<k.w.length
 . rw [show (decide (24<k.s.length)||decide (24<k.w.length))=true by simpa using h1] at g1
   refine CB func4 c4 fun E hE=>?_
   simp [p4];refine CLa d0 ?_;simp;refine CLa g1 ?_;simp;apply RZ;simp [results4]
 rw [show (decide (24<k.s.length)||decide (24<k.w.length))=false by simpa using h1] at g1;by_cases h2:20<s.gas.cs.length
 . rw [decide_eq_true h2] at g2
   refine CB func4 c4 fun E hE=>?_
   simp [p4];refine CLa d0 ?_;simp;refine CLa g1 ?_;simp;refine CLa g2 ?_;simp;apply RZ;simp [results4]
 rw [decide_eq_false h2] at g2;by_cases h3:h<s.hh
 . refine CB func4 c4 fun E hE=>?_
   simp [p4];refine CLa d0 ?_;simp;refine CLa g1 ?_;simp;refine CLa g2 ?_;simp [h3];apply RZ;simp [results4]
 have n1:k.s.length<=24:=by omega
 have n2:k.w.length<=24:=by omega
 have vt:=fn15 k s s.hl h (by omega) (by omega) (by omega);by_cases he:(vnA k s s.hl h).2=0
 case neg=>
   generalize (vnA k s s.hl h).2=er at*
   generalize (vnA k s s.hl h).1=A at*
   refine CB func4 c4 fun E hE=>?_
   simp [p4];refine CLa d0 ?_;simp;refine CLa g1 ?_;simp;refine CLa g2 ?_;simp [AA,h3];refine CLa vt ?_;simp [he];apply RZ;simp [results4]
 obtain ⟨k1,k2,k3⟩:=ALG he;obtain ⟨hk,hs⟩:=Yg k1;have hp:=CR hs;have sB:=GT hs
 have hAk:∀ x∈(vnA k s s.hl h).1,x.k=3:=fun x hx=>by
   rw [k3] at hx;obtain ⟨j,hj,c,_,hpos,rfl⟩:=ADH hx;rfl
 have hAl:(vnA k s s.hl h).1.length<=20:=by
   rw [k3];have:=AJL (a:=(atA k.s s.hl h).1) (l:=s.gas.cs) s.gas.cs.length;omega
 have hcm:=fun hn=>ATJ (k:=k) (s:=s) (h:=h) (by omega) he hn
 rw [he] at vt
 generalize (vnA k s s.hl h).1=A at*
 refine CB func4 c4 fun E hE=>?_
 simp [p4];refine CLa d0 ?_;simp;refine CLa g1 ?_;simp;refine CLa g2 ?_;simp [AA,h3];refine CLa vt ?_;simp;refine Al (α:=Nat) (fun i=>⟨AO [(2,vi h),(3, .d (.lit (.int .u8 cl))),(4, .lp 0 0),(5, .lp 1 0),(9,vb true),(10, .d (JZ A)),(54, .d (JZ A)),(55,vi A.length),(56,vi i)],lk [(0,[.d (BF k.s), .d (cT k.w)]),(1,[vi s.xl,vi s.xh,vi s.yl,vi s.yh,vi s.hl,vi s.hh,vi s.fl,vi s.fh,vi s.wl,vi s.wh,vi s.bl,vi s.bh,vi s.dry,vi s.bal,vi s.drp, .d (AX s.gas.cs),vi s.gas.bt,vi s.gas.ih,vi s.gas.ia,vi s.gas.vh,vi s.gas.va,vi s.gas.lh,vi s.gas.la,vi s.gas.ph,vi s.gas.pa])],2⟩) (fun i=>i<=A.length/\∀ j x,j<i->A[j]?= some x->x.n<=10000000) (fun i=>A.length-i) 0 ?_ ?_ ?_
 . exact ⟨by omega,fun j x hj=>by omega⟩
 . exact WK hE (lk [(0,0),(1,1048576)])
 . rintro i ⟨hi,hz⟩
   by_cases hl:i<A.length
   . obtain ⟨x,hx⟩:=gE hl
     have hI:(i:Int)<A.length:=by omega
     have hw:=@wz i (by omega);by_cases hb:10000000<x.n
     . simp [ATZ,hI,hx,hb,AA]
       apply RZ;simp [results4]
     . simp [ATZ,hI,hx,hb,hw,AA]
       refine ⟨i+1,⟨by omega,fun j y hj hy=>?_⟩,by omega,?_⟩
       . by_cases e:j=i
         . subst e;rw [hx] at hy;cases hy;omega
         . exact hz j y (by omega) hy
       . exact WK hE (lk [(0,0),(1,1)])
   . have hI:¬ (i:Int)<A.length:=by omega
     have e:i=A.length:=by omega
     obtain ⟨q,hq⟩:=hcm fun x hx=>by
       obtain ⟨j,hj⟩:=List.getElem?_of_mem hx;exact hz j x (by have:=(List.getElem?_eq_some_iff.1 hj).1;omega) hj
     obtain ⟨cs,bt,ih,ia,vh,va,lh,la,ph,pa⟩:=q;have hih:ih=s.gas.ih:=hq.ih;have hia:ia=s.gas.ia:=hq.ia;subst hih hia;have hpl:=ATl s.gas A hp (by omega) fun x hx=> .inl (hAk x hx)
     rw [hq.play] at hpl;have hqn:cs.length=s.gas.cs.length:=hq.n;have hck:=ALn ⟨cs,bt,s.gas.ih,s.gas.ia,vh,va,lh,la,ph,pa⟩ (by show cs.length<=_;omega);rw [hq.ok] at hck;have htp:=fn18 k {s with gas:=⟨cs,bt,s.gas.ih,s.gas.ia,vh,va,lh,la,ph,pa⟩} (by omega) (by omega) (by show cs.length<=_;omega);rw [hq.t0] at htp;have ht1:=hq.t1
     generalize (ey k {s with gas:=⟨cs,bt,s.gas.ih,s.gas.ia,vh,va,lh,la,ph,pa⟩}).1=T at htp ht1
     have hTh:¬ T<h:=by omega
     have hat:=qD k2;have hlen:=hat.ok.len;obtain ⟨x0,hx0⟩:∃ x,k.s[0]?= some x:=⟨_,List.getElem?_eq_getElem (by omega)⟩
     obtain ⟨z0,hz0⟩:∃ x,k.s[k.s.length-1]?= some x:=⟨_,List.getElem?_eq_getElem (by omega)⟩
     have hk0:¬ (k.s.length:Int)=0:=by omega
     have hk0':¬ k.s.length=0:=by omega
     have hkw:IntKind.wrap .i64 ((k.s.length:Int)-1)=((k.s.length-1:Nat):Int):=by rw [AD (by omega) (by omega)];omega
     have hki:((k.s.length-1:Nat):Int).toNat=k.s.length-1:=by omega
     have hk1:(0:Int)<k.s.length:=by omega
     have hk2:((k.s.length-1:Nat):Int)<k.s.length:=by omega
     have hk3:¬ k.s=[]:=fun e=>by rw [e] at hx0;simp at hx0
     have hh0:=sB.h;have hb2:=hat.inb.2 z0 hz0;have hb3:=hat.ok.at' z0 (List.mem_of_getElem? hz0);have hws:IntKind.wrap .i64 (h-s.hh)=h-s.hh:=AD (by omega) (by omega);have hwc:IntKind.wrap .i64 cl=cl:=AD (by omega) (by omega);have hst:=fn20 hS k (plR x0.h z0.h) {s with gas:=⟨cs,bt,s.gas.ih,s.gas.ia,vh,va,lh,la,ph,pa⟩} (ex (min cl (h-s.hh))) (by omega) (by omega) (by show plReg.length<=_;decide) (by show cs.length<=_;omega) (by show (0:Nat)<=_;omega);have hup:=hq.up (min cl (h-s.hh)) (by omega) (by omega) (by omega) x0.h z0.h (fun x hx=>by rw [hx0] at hx;cases hx;rfl) (fun x hx=>by rw [hz0] at hx;cases hx;rfl);have hpn:=AEB x0.h z0.h;have hwu:IntKind.wrap .i64 (s.hh+min cl (h-s.hh))=s.hh+min cl (h-s.hh):=AD (by omega) (by omega);rcases hup with ⟨ev,hup,e1,e2,e3⟩ | ⟨n,hup,o1,o2,o3,o4,o5,o6⟩
     . rw [hup] at hst
       simp only [RB] at hst;have hst:=ATF hst;simp [ATZ,hI];refine CLa hpl ?_;simp [AA];refine CLa hck ?_;simp [AA];refine CLa htp ?_;simp [hTh,hk0',hws,hwc,inC,Nat.testBit,hx0,hz0,hkw,hki];refine CLa hpn ?_;simp [AA];refine CLb (hst) (by simp [plR]) ?_;simp [AA,e1,e2,e3];apply RZ;simp [results4]
     . rw [hup] at hst
       simp only [RB] at hst;have hst:=ATF hst;have hcn:=ALn n.gas (by have:=CS o2;omega);rw [o2] at hcn;simp [ATZ,hI];refine CLa hpl ?_;simp [AA];refine CLa hck ?_;simp [AA];refine CLa htp ?_;simp [hTh,hk0',hws,hwc,inC,Nat.testBit,hx0,hz0,hkw,hki];refine CLa hpn ?_;simp [AA];refine CLb (hst) (by simp [plR]) ?_;simp [AA];refine CLa hcn ?_;simp [AA,o3,o4,o5,o6,hwu];apply RZ;simp [results4]
end Go.Proofs.Tryz
namespace Go.Psl
open Go.Shelf Go.RowKit Go.Lib Go.Sort
variable {P:Program} {ρ:Ren} {α:Type} [Inhabited α]
theorem dJ {W W':World} (hos:W'.os=W.os) (hta:W'.tape=W.tape) (hou:W'.output=W.output) (hdr:W.drawn<=W'.drawn) (hsz:W.heap.size<=W'.heap.size) (hb:∀ b,b<W.heap.size->W'.heap[b]?= W.heap[b]?):
   ∃ q os',W'=grow (W.drewN q) os':=by
 refine ⟨W'.drawn-W.drawn,W'.heap.extract W.heap.size W'.heap.size,?_⟩;obtain ⟨h,t,d,o,u⟩:=W;obtain ⟨h',t',d',o',u'⟩:=W';simp only at hos hta hou hdr hsz hb;subst hos hta hou;simp only [grow,World.drewN];congr 1
 . apply Array.ext_getElem?
   intro i;by_cases hi:i<h.size
   . rw [Array.getElem?_append_left hi,hb i hi]
   . rw [Array.getElem?_append_right (by omega),Array.getElem?_extract]
     split
     . congr 1;omega
     . rw [Array.getElem?_eq_none (by omega)]
 . omega
theorem Mg {enc:α->List Value} {k:Nat} (h0:0<k) (hk:∀ x,(enc x).length=k) (l:List α) (j:Nat) (hj:j<l.length*k):(l.flatMap enc)[j]?= some (flatK enc k l.toArray)[j]! :=by
 rw [get_flatK _ _ _ _ (by simpa using hj),List.flatMap_def,CI h0 _ (fun e he=>by obtain ⟨x,_,rfl⟩:=List.mem_map.1 he;exact hk x)];have h1:j/k<l.length:=by rw [Nat.div_lt_iff_lt_mul h0];exact hj
 have hm:j%k<k:=Nat.mod_lt _ h0;rw [List.getElem?_map,List.getElem?_eq_getElem h1];simp only [Option.map_some,Option.bind_some];have e1:l.toArray[j/k]! =l[j/k]:=by rw [getElem!_pos _ _ (by simpa using h1)];simp
 rw [e1,List.getElem?_eq_getElem (by rw [hk];exact hm),getElem!_pos _ _ (by rw [hk];exact hm)]
omit [Inhabited α] in
theorem N2 {enc:α->List Value} {k:Nat} (hk:∀ x,(enc x).length=k) (l:List α):(l.flatMap enc).length=l.length*k:=by
 rw [List.flatMap_def,B3 (sz:=k) _ (fun e he=>by obtain ⟨x,_,rfl⟩:=List.mem_map.1 he;exact hk x),List.length_map]
theorem Wo {G:Gh} {W:World} {vs:List Value} (h:∀ v∈vs,CU v=true):AJ (R1 G W) (vs.map cV) vs:=by
 induction vs with
 | nil=>trivial
 | cons v vs ih=>exact ⟨RD.lit v (h v (by simp)),ih fun x hx=>h x (by simp [hx])⟩
theorem APg {W:World}:GW (fun _=>False) W:=⟨fun _ h=>h.elim,{W with heap:= #[]},fun g hg=>by simp [AQk] at hg,fun k hk=>by simp at hk⟩
theorem P6 {g:Nat} {enc:α->List Value} {k:Nat} {cf:α->α->Int} (hflat:∀ x,∀ v∈enc x,CU v=true) (hcmp:∀ x y,Ct P g [.agg ((enc x).map cV), .agg ((enc y).map cV)] (.d (.lit (.int .i64 (cf x y)))) []) (blk off size:Nat) (w:World):Go.Proofs.CmpLays P g #[] enc k cf blk off size w:=by
 intro m os dk _ x y;refine ((hcmp x y).2 ⟨fun _=>0,fun _=>0,fun _=>true,fun _=>true,fun _=>False⟩ _ #[.agg (enc x).toArray, .agg (enc y).toArray] APg ⟨⟨_,rfl,Wo (hflat x)⟩,⟨_,rfl,Wo (hflat y)⟩,trivial⟩ ⟨nofun,fun i _ h=>by simp [InH] at h,nofun⟩).mono fun e W' ⟨G',hp⟩=>?_
 refine ⟨?_,dJ hp.os hp.tape hp.output hp.drawn hp.size fun b hb=>hp.block b hb fun ⟨_,h,_⟩=>by simp [InH] at h⟩;cases e with
 | returned v=>rw [Cg hp.rv]
 | _=>exact hp.rv.elim
theorem N3 (L:Go.Proofs.SlLaysF0.n6 P ρ) (hf:fF P (ρ.f 6)) (k:Nat) (h0:0<k) (aE:∀ w,(isAgg (ρ.t 24)).run P w= .ok true w) (zE:∀ w,(Go.sizeOf (ρ.t 24)).run P w= .ok k w) (enc:α->List Value) (hk:∀ x,(enc x).length=k) (hflat:∀ x,∀ v∈enc x,CU v=true) (cf:α->α->Int) (hO:SWO (Go.Proofs.ltOf cf)) (hT:∀ x y,(Go.Proofs.ltOf cf) x y=false->(Go.Proofs.ltOf cf) y x=false->x=y)
   (g:Nat) (eg:∀ args w,(callFunc g args).run P w= .ok (.enter g args) w) (hcmp:∀ x y,Ct P g [.agg ((enc x).map cV), .agg ((enc y).map cV)] (.d (.lit (.int .i64 (cf x y)))) []) (l:List α) (hl0:0<l.length) (hsz:l.length<4611686018427387904):
   Cm P (ρ.f 6) [.ls 0 0 l.length k, .d (.fn g [])] (lk [(0,(l.flatMap enc).map cV)]) [0] (.ret (.tup [])) (lk [(0,((l.mergeSort fun x y=>!(Go.Proofs.ltOf cf) y x).flatMap enc).map cV)]):=by
 refine ⟨hf,fun G W xs hGW hargs hpre=>?_⟩
 obtain ⟨v1,v2,rfl⟩:∃ v1 v2,xs= #[v1,v2]:=by
   have:=hargs.length;obtain ⟨xs⟩:=xs
   match xs,this with
   | [a,b],_=>exact ⟨a,b,rfl⟩
   | [],h=>simp at h
   | [_],h=>simp at h
   | _::_::_::_,h=>simp at h
 obtain ⟨h1,h2,_⟩:=hargs;obtain ⟨hIn,hph⟩:=hpre.st 0 (by simp);obtain ⟨hml,⟨_,h,_⟩ | ⟨hphl,o,cap,rfl,hcap,ho⟩⟩:=h1
 . omega
 obtain ⟨rfl,hbs0⟩:=ho (by omega)
 obtain ⟨cv,rfl,hcv⟩:∃ cv,v2= .func (.func g) #[] cv/\cv.size=0:=by
   cases h2 with
   | fn _ _ cv hl _=>exact ⟨cv,rfl,hl⟩
 obtain rfl:cv= #[]:=Array.eq_empty_of_size_eq_zero hcv;have hHB:=hpre.hb 0 _ rfl;obtain ⟨hnim,c,T,⟨fz,hb,hfz⟩,hbs,hcl,hcr,hca⟩:=hHB.read hphl;have hblk:G.β 0<W.heap.size:=(Array.getElem?_eq_some_iff.1 hb).1;have hfl:=N2 hk l;rw [List.length_map,hfl] at hcl hcr
 have hcell:∀ j,j<l.length*k->c[j]?= some (flatK enc k l.toArray)[j]! :=fun j hj=>by
   have h3:=Mg h0 hk l j hj;have h4:((l.flatMap enc).map cV)[j]?= some (cV (flatK enc k l.toArray)[j]!):=by rw [List.getElem?_map,h3];rfl
   obtain ⟨x,hx,hr⟩:=hcr.get h4;rw [List.getElem?_take,if_pos hj,Array.getElem?_toList] at hx;rw [hx,BO hr.r2.rv]
 have hH:HoldsK enc k W (G.β 0) 0 l.toArray:=fun j hj=>by
   have hj':j<l.length*k:=by simpa using hj
   refine ⟨?_,?_⟩
   . unfold World.cell?
     simp only [Nat.zero_add,hb,Option.isSome_none,Bool.false_eq_true,if_false];exact hcell j hj'
   . unfold World.frozen?
     simp [hb];omega
 have h1c:∀ x,∀ v∈enc x,v.oneCell'=true:=fun x v hv=>RD.oneCell (Im:=fun _=>True) (W:=W) (RD.lit v (hflat x v hv))
 have key:=Go.Proofs.AnyQ.slices_SortFunc_total L k aE zE enc hk h1c cf hO g #[] (G.β 0) 0 cap l.toArray W eg (P6 hflat hcmp _ _ _ _) hH hblk (by simpa using hsz) hT;have hperm:(l.mergeSort fun x y=>!(Go.Proofs.ltOf cf) y x).length=l.length:=List.length_mergeSort _
 generalize (l.mergeSort fun x y=>!(Go.Proofs.ltOf cf) y x)=l' at key hperm ⊢
 have key':Calls P (ρ.f 6) #[.slice (some ⟨G.β 0,0,none⟩) l.length cap, .func (.func g) #[] #[]] W fun e w'=>e= .returned (.tuple #[])/\∃ n os,w'=Go.Proofs.sortWorldK enc k W (G.β 0) 0 n l'.toArray os:=by simpa using key
 refine key'.mono fun e W' ⟨he,n,os,hW'⟩=>?_
 subst he
 have hlent:∀ b,Bm G (lk [(0,(l.flatMap enc).map cV)]) b->b=G.β 0:=fun b ⟨i,hi,_,hbi⟩=>by
   have:i=0:=by simp only [InH,lk] at hi;split at hi;assumption;cases hi
   rw [<-hbi,this]
 have hlent0:Bm G (lk [(0,(l.flatMap enc).map cV)]) (G.β 0):=⟨0,hIn,hph,rfl⟩
 have hheap:∀ b,b<W.heap.size->W'.heap[b]?= if b=G.β 0 then some (.cells (putCells id 0 (flatK enc k l'.toArray) c) T fz) else W.heap[b]?:= fun b hlt=>by
   rw [hW']
   show ((putRow id (Sort.ahead W n) (G.β 0) 0 (flatK enc k l'.toArray)).heap++os)[b]?= _
   rw [Array.getElem?_append_left (by simpa using hlt)]
   show (W.heap.modify (G.β 0) _)[b]?= _
   rw [Array.getElem?_modify];by_cases e:b=G.β 0
   . subst e
     simp [hb,onCells]
   . rw [if_neg (fun h=>e h.symm),if_neg e]
 have hsz':W.heap.size<=W'.heap.size:=by rw [hW'];exact Go.Proofs.size_sortWorldK_c enc k W (G.β 0) 0 n l'.toArray os
 refine ⟨G,⟨by rw [hW'];rfl,by rw [hW'];rfl,by rw [hW'];rfl,by rw [hW'];exact Nat.le_add_right _ _,hsz',fun b hlt hn=>?_,fun b hb=>⟨Nat.lt_of_lt_of_le (hGW.1 b hb) hsz', .inl hb⟩,fun _ h=>h,⟨#[],rfl,trivial⟩,fun _ h=>(by cases h),fun i cs hi=>?_,fun i j hi hj _ _ _=>?_,fun i hi _=>⟨rfl,rfl,(hpre.st i hi).2,rfl⟩⟩⟩
 . rw [hheap b hlt,if_neg (fun e:b=G.β 0=>hn (by rw [e];exact hlent0))]
 . have hi0:i=0/\cs=(l'.flatMap enc).map cV:=by
     simp only [lk] at hi;split at hi
     . rename_i e;cases hi;exact ⟨e,rfl⟩
     . cases hi
   obtain ⟨rfl,rfl⟩:=hi0;have hfl':=N2 hk l';refine ⟨.inr (.inl ⟨hphl.1,hphl.2,hnim,putCells id 0 (flatK enc k l'.toArray) c,T,by rw [hheap _ hblk,if_pos rfl];exact ⟨fz,rfl,by simpa [putCells] using hfz⟩,by simp [putCells,hbs],by simp [putCells,hfl',hperm];exact hcl,?_,?_⟩),fun _=> .inr hlent0,fun x hx=>?_⟩
   . refine AJ.of_get ?_ fun j x y hx hy=>?_
     . simp [putCells,hfl',hperm];omega
     . have hj:j<l'.length*k:=by
         have:=(List.getElem?_eq_some_iff.1 hx).1;simpa [hfl'] using this
       rw [List.getElem?_map,Mg h0 hk l' j hj] at hx;cases hx;rw [List.getElem?_take,List.length_map,hfl',if_pos hj,Array.getElem?_toList] at hy;have hjc:j<c.size:=by rw [hperm] at hj;omega
       simp only [putCells,Array.getElem?_mapIdx,Array.getElem?_eq_getElem hjc,Option.map_some,Nat.zero_le,true_and,Nat.zero_add,size_flatK,List.size_toArray,hj,if_true,Option.some.injEq,Nat.sub_zero,id] at hy;subst hy;have hm:=Mg h0 hk l' j hj;have hmem:=List.mem_of_getElem? hm;obtain ⟨a,_,ha⟩:=List.mem_flatMap.1 hmem;exact RD.lit _ (hflat a _ ha)
   . simp only [List.all_map,List.all_eq_true]
     intro v _;rfl
   . obtain ⟨v,_,rfl⟩:=List.mem_map.1 hx
     trivial
 . have e1:i=0:=by simp only [InH,lk] at hi;split at hi;assumption;cases hi
   have e2:j=0:=by simp only [InH,lk] at hj;split at hj;assumption;cases hj
   rw [e1,e2]
end Go.Psl
