/- Own lemmas, used by the last text. Conditions: those that each theorem states. -/
import Derived.Shelf.SlSortCmp.NoneTotal
import Derived.Test.YtnjclpglagcagaaGreatEcae
import Derived.Test.YtnjclpglagcagaaGreatEcag
import Derived.Test.YtnjclpglagcagaaGreatEcah
import Derived.Test.YtnjclpglagcagaaGreatEcai
import Derived.Test.YtnjclpglagcagaaGreatEcaj
import Derived.Test.YtnjclpglagcagaaGreatEcak
import Derived.Test.YtnjclpglagcagaaGreatEcal
import Derived.Test.YtnjclpglagcagaaGreatProg
set_option maxRecDepth 200000
set_option maxHeartbeats 8000000
namespace Go.Proofs.Tryz
open Go.Psl
open Go.Air
abbrev evV (k l m c:Int):V:= .agg [vi k,vi l,vi m,vi c]
def Jx (k:Sky) (r:Rig) (s:Shp) (l:Leg):V:=if (ER k r s l).1=0 then .tup [Cl (Cj k r s l) (.d (AX (Cj k r s l).gas.cs)),evV 0 0 0 0] else .tup [.agg shZ,evV (ER k r s l).1 0 0 (ER k r s l).2]
theorem fp (k:Sky) (r:Rig) (s:Shp) (l:Leg):AV (InB []) AR (Jx k r s l):=by
 unfold Jx;split<;>simp
theorem qG (hS:SortOk) (k:Sky) (r:Rig) (s:Shp) (l:Leg) (h1:k.s.length<=1000000) (h2:k.w.length<=1000000) (h3:r.reg.length<=1000000) (hk:BV k=true) (hR:CF r=true) (hg:Ey k r=true) (hs:A6 s=true) (hl:BE l=true):Ct prog 118 [D2 k r,Cl s (.d (AX s.gas.cs)),AKx l] (Jx k r s l) []:=by
 have sB:=GT hs;have sX:=AAb hs;have lB:=Mf hl;have rB:=Hy hR;have hW:=mV hk;have b1:=sB.h;have b2:=sB.f;have b3:=sB.w;have b4:=sX.b;have b5:=sX.x;have b6:=sX.y;have l1:=lB.u;have l2:=lB.b;have l3:=lB.x;have l4:=lB.y;have g1:=rB.g;have g2:=rB.t;have o:=jd sB lB;have wb:=kQ hW o;have ge:=Me l2 g1;have p0:0<=l.bl*r.gl:=Int.mul_nonneg (by omega) (by omega);have p1:l.bh*r.gh<=1000000*120:=Int.mul_le_mul (by omega) (by omega) (by omega) (by omega);have p2:l.bl*r.gl<=l.bh*r.gh:=Int.mul_le_mul (by omega) (by omega) (by omega) (by omega);have eg:(Ja (l.bl,l.bh) (r.gl,r.gh) (100,100)).1=DY r l:=rfl
 have gb:(0<=(DY r l).1/\(DY r l).1<=1200000)/\0<=(DY r l).2/\(DY r l).2<=1200001:=by
   rw [<-eg,ge];simp only;omega
 have c1:=AGK s.gas (CR hs);have c2:=yI s.hl s.hh l.ul l.uh (by omega);have c3:=yI s.bl s.bh l.bl l.bh (by omega);have c4:=zW (l.bl,l.bh) (r.gl,r.gh) (100,100)
 have c4':Ct prog 146 [vsp l.bl l.bh,vsp r.gl r.gh,vsp 100 100] (.tup [vsp (DY r l).1 (DY r l).2,vi 0]) []:=by
   unfold vse at c4;rw [eg,ge] at c4;exact c4
 have c5:=yI s.wl s.wh (DY r l).1 (DY r l).2 (by omega);have eh:mhS s l=(min s.hl (s.hl+l.ul),max s.hh (s.hh+l.uh)):=rfl
 have ew:Lg k.w (mhS s l)=0:=by
   unfold Lg;have:Dr k.w=true:=by unfold BV at hk;simp only [Bool.and_eq_true] at hk;exact hk.2
   rw [this,CT.2 (by rw [eh] at o ⊢;simp only at o ⊢;omega)];rfl
 have c6:=AVV k.w (mhS s l) h2;rw [ew,show Nn k.w (mhS s l)=(Jr k.w (mhS s l),Js k.w (mhS s l)) by unfold Nn;rw [ew];rfl] at c6;have c11:=fn53 k.s (mhS s l).1 (mhS s l).2 h1;obtain ⟨wx,hwx⟩:∃ wx,Jr k.w (mhS s l)=wx:=⟨_,rfl⟩
 obtain ⟨wy,hwy⟩:∃ wy,Js k.w (mhS s l)=wy:=⟨_,rfl⟩
 rw [hwx,hwy] at c6 wb;have c7:=yI l.axl l.axh wx.1 wx.2 (by omega);have c7':=rV (l.axl+wx.1) (l.axh+wx.2) (by omega);have c8:=yI s.xl s.xh (6*(l.axl+wx.1)) (6*(l.axh+wx.2)) (by omega);have c9:=yI l.ayl l.ayh wy.1 wy.2 (by omega);have c9':=rV (l.ayl+wy.1) (l.ayh+wy.2) (by omega);have c10:=yI s.yl s.yh (6*(l.ayl+wy.1)) (6*(l.ayh+wy.2)) (by omega)
 have en:Cj k r s l={s with
   xl:=s.xl+6*(l.axl+wx.1),xh:=s.xh+6*(l.axh+wx.2),yl:=s.yl+6*(l.ayl+wy.1),yh:=s.yh+6*(l.ayh+wy.2)
   hl:=s.hl+l.ul,hh:=s.hh+l.uh,fl:=s.fl-l.bh,fh:=s.fh-l.bl
   wl:=min (s.wl+(DY r l).1) r.tank,wh:=min (s.wh+(DY r l).2) r.tank
   bl:=s.bl+l.bl,bh:=s.bh+l.bh,gas:=tkQ s.gas}:=by unfold Cj;rw [hwx,hwy]
 obtain ⟨H,hH⟩:∃ H,mhS s l=H:=⟨_,rfl⟩
 obtain ⟨A,hA⟩:∃ A,(atA k.s (mhS s l).1 (mhS s l).2).1=A:=⟨_,rfl⟩
 obtain ⟨AE,hAE⟩:∃ AE,(atA k.s (mhS s l).1 (mhS s l).2).2=AE:=⟨_,rfl⟩
 have c11':Ct prog 53 [.d (BF k.s),vsp H.1 H.2] (.tup [Ox A,vi AE]) []:=by
   rw [<-hA,<-hAE,<-hH];exact c11
 have m1:min s.hl (s.hl+l.ul)=H.1:=by rw [<-hH];rfl
 have m2:max s.hh (s.hh+l.uh)=H.2:=by rw [<-hH];rfl
 rw [hH] at c6;have w1:IntKind.wrap .i64 (s.fl-l.bh)=s.fl-l.bh:=AD (by omega) (by omega);have w2:IntKind.wrap .i64 (s.fh-l.bl)=s.fh-l.bl:=AD (by omega) (by omega)
 generalize DY r l=G at*
 obtain ⟨N,hN⟩:∃ N,Cj k r s l=N:=⟨_,rfl⟩
 rw [hN] at en;have n1:s.xl+6*(l.axl+wx.1)=N.xl/\s.xh+6*(l.axh+wx.2)=N.xh/\s.yl+6*(l.ayl+wy.1)=N.yl/\s.yh+6*(l.ayh+wy.2)=N.yh:=by rw [en];exact ⟨rfl,rfl,rfl,rfl⟩
 have n2:s.hl+l.ul=N.hl/\s.hh+l.uh=N.hh/\s.fl-l.bh=N.fl/\s.fh-l.bl=N.fh:=by rw [en];exact ⟨rfl,rfl,rfl,rfl⟩
 have n3:min (s.wl+G.1) r.tank=N.wl/\min (s.wh+G.2) r.tank=N.wh/\s.bl+l.bl=N.bl/\s.bh+l.bh=N.bh:=by rw [en];exact ⟨rfl,rfl,rfl,rfl⟩
 have n4:tkQ s.gas=N.gas/\s.dry=N.dry/\s.bal=N.bal/\s.drp=N.drp:=by rw [en];exact ⟨rfl,rfl,rfl,rfl⟩
 clear en;obtain ⟨x1,x2,x3,x4⟩:=n1;obtain ⟨x5,x6,x7,x8⟩:=n2;obtain ⟨x9,x10,x11,x12⟩:=n3;obtain ⟨x13,x14,x15,x16⟩:=n4;obtain ⟨CX,hCX⟩:∃ CX,ixF (EK A) N.gas.cs=CX:=⟨_,rfl⟩
 obtain ⟨TR,hTR⟩:∃ TR,Il r.reg (N1 l) (hvS (KG s N) A)=TR:=⟨_,rfl⟩
 obtain ⟨FB,hFB⟩:∃ FB,UC N=FB:=⟨_,rfl⟩
 have hev:ER k r s l=if H.1<r.lo then (1,0) else if r.hi<H.2 then (2,0) else if 0<=CX then (3,CX) else if N.fl<r.rsv then (4,0) else if TR=false then (5,0) else if FB=false then (6,0) else (0,0):=by
   unfold ER;rw [hA,hH,hN,x13,hCX,hTR,hFB,x7]
 have hcel:∀ c∈N.gas.cs,B5 c:=by rw [<-x13];exact Dx (Md (CR hs))
 have hcl:N.gas.cs.length<=12:=by rw [<-x13];exact CS (Md (CR hs))
 have hair:¬ H.1<r.lo->¬ r.hi<H.2->Fx A:=fun q1 q2=>by
   rw [<-hA];rw [hH] at o ⊢;exact aU (jc hk hg (by omega) o (by omega))
 have d1:=wL k r H.1 H.2;have d2:=ASn k r H.1 H.2;have d4:=AEC k r N;have d6:=ASo N;rw [hFB] at d6
 have d3:¬ H.1<r.lo->¬ r.hi<H.2->Cm prog 150 [.d (.ref (Ca N)), .d (.ref (WX A)), .lp 8 0] (lk [(8,[vi 0])]) [8] (.ret (vb (decide (0<=CX)))) (lk [(8,[vi CX])]):=fun q1 q2=>by
   have:=Cm.rename (fun _=>8) 1 (by omega) (AED N A 0 hcel (by omega) (hair q1 q2)) (by simp [BW]) (by simp [BW]) (by simp);rw [hCX] at this;simpa [Ea,HW] using this
 have d5:¬ H.1<r.lo->¬ r.hi<H.2->¬ N.fl<r.rsv->Ct prog 154 [.d (.ref (Ca N)), .d (.ref (Ca s)), .d (.ref (Pi l)), .d (.ref [.ref (LI k r)]), .d (.ref (WX A))] (vb (!TR)) []:=fun q1 q2 q3=>by
   have v1:=rB.v;have v2:=rB.h
   have hbb:VU (KG s N):=by
     unfold KG;refine ⟨by simp only;omega,by simp only;omega,by simp only;omega,?_,?_,hcl,hcel⟩
     . simp only;rw [<-x14];exact sB.d
     . simp only;rw [<-x15];exact sB.b
   have:=ACk hS k r N s l A h3 lB hbb (hair q1 q2);rw [hTR] at this;exact this
 simp only [doV] at c1;obtain ⟨RV,hRV⟩:∃ RV,Jx k r s l=RV:=⟨_,rfl⟩
 have hav:AV (InB []) AR RV:=by rw [<-hRV];exact fp k r s l
 rw [hRV];refine Ct.by gok eok mixed func118 c118 rfl (by simp [ntmps118]) (by simp) (by simp [LD];exact hav) fun E hE=>?_
 simp [p118,AA];refine CLa c1 ?_;simp [AA];refine CLa c2 ?_;simp [AA,m1,m2,inC,Nat.testBit,w1,w2];refine CLa c3 ?_;simp [AA];refine AL [(13,80740352)] (by kernel_rfl) ?_;simp [AA,inC,Nat.testBit];refine CLa c4' ?_;simp [AA,inC,Nat.testBit];refine CLa c5 ?_;simp [AA];refine AL [(20,6291456),(23,6291456)] (by kernel_rfl) ?_;simp [AA,inC,Nat.testBit];refine AL [(11,125829120)] (by kernel_rfl) ?_;simp [inC,Nat.testBit];refine CLa c6 ?_;simp [AA,inC,Nat.testBit];refine CLa c7 ?_;simp [inC,Nat.testBit];refine CLa c7' ?_;simp [inC,Nat.testBit];refine CLa c8 ?_;simp [inC,Nat.testBit];refine CLa c9 ?_;simp [inC,Nat.testBit];refine CLa c9' ?_;simp [inC,Nat.testBit];refine CLa c10 ?_;simp [AA];refine AL [(11,164626432)] (by kernel_rfl) ?_;simp [inC,Nat.testBit];refine CLa c11' ?_;simp [AA,AM,inC,Nat.testBit];refine Al (α:=Nat) (fun j=>⟨AO [(3, .lp 0 0),(4, .lp 1 0),(5, .lp 2 0),(6, .lp 3 0),(7, .lp 4 0),(8, .lp 5 0),(9, .lp 6 0),(14, .lp 7 0),(16, .lp 8 0),(164, .ls 9 0 6 2),(165,vi 6),(166,vi j)],lk [(0,[D2 k r]),(1,shB s),(2,lgB l),(3,shZ),(4,[vi 0,vi 0,vi 0,vi 0]),(5,shB N),(6,[vi H.1,vi H.2]),(7,[vi A.pl,vi A.ph,vi A.tl,vi A.th]),(8,[vi (if j<=2 then 0 else CX)]),(9,[vi 1, .cl 148 [.lp 6 0, .lp 0 0],vi 2, .cl 149 [.lp 6 0, .lp 0 0],vi 3, .cl 150 [.lp 5 0, .lp 7 0, .lp 8 0],vi 4, .cl 153 [.lp 5 0, .lp 0 0],vi 5, .cl 154 [.lp 5 0, .lp 1 0, .lp 2 0, .lp 0 0, .lp 7 0],vi 6, .cl 158 [.lp 5 0]])],10⟩) (fun j=>j<=6/\(0<j->¬ H.1<r.lo)/\(1<j->¬ r.hi<H.2)/\(2<j->¬ 0<=CX)/\(3<j->¬ N.fl<r.rsv)/\(4<j->TR=true)/\(5<j->FB=true)) (fun j=>6-j) 0 ?_ ?_ ?_
 . omega
 . refine AI.mk hE (lk [(0,0),(1,1048576),(2,2097152),(3,3145728),(4,4194304),(5,6291456),(6,40894464),(7,164626432),(8,167772160),(9,181403648)]) _ _ _ ?_ ?_ ?_ ?_ ?_<;>simp [x1,x2,x3,x4,x5,x6,x7,x8,x9,x10,x11,x12,x13,x14,x15,x16]
 . rintro j ⟨hj,q1,q2,q3,q4,q5,q6⟩
   match j,hj,q1,q2,q3,q4,q5,q6 with
   | 0,_,q1,q2,q3,q4,q5,q6=>
     have z:IntKind.wrap .i64 1=1:=by decide
     by_cases t:H.1<r.lo
     . have e:ER k r s l=(1,0):=by rw [hev,if_pos t]
       simp [ALS,AA];refine CLa d1 ?_;simp [t];refine AL [(6,3)] (by kernel_rfl) ?_;simp [AA,inC,Nat.testBit];apply RZ;simp [results118,<-hRV,Jx,e]
     . simp [ALS,AA]
       refine CLa d1 ?_;simp [t,z];refine ⟨1,⟨by omega,fun _=>by omega,fun h=>absurd h (by omega),fun h=>absurd h (by omega),fun h=>absurd h (by omega),fun h=>absurd h (by omega),fun h=>absurd h (by omega)⟩,by omega,?_⟩;exact WK hE (lk [(0,0),(1,1),(2,2),(3,3),(4,4),(5,5),(6,6),(7,7),(8,8),(9,9)])
   | 1,_,q1,q2,q3,q4,q5,q6=>
     have q1:=q1 (by omega);have z:IntKind.wrap .i64 2=2:=by decide
     by_cases t:r.hi<H.2
     . have e:ER k r s l=(2,0):=by rw [hev,if_neg q1,if_pos t]
       simp [ALS,AA];refine CLa d2 ?_;simp [t];refine AL [(6,3)] (by kernel_rfl) ?_;simp [AA,inC,Nat.testBit];apply RZ;simp [results118,<-hRV,Jx,e]
     . simp [ALS,AA]
       refine CLa d2 ?_;simp [t,z];refine ⟨2,⟨by omega,fun _=>by omega,fun _=>by omega,fun h=>absurd h (by omega),fun h=>absurd h (by omega),fun h=>absurd h (by omega),fun h=>absurd h (by omega)⟩,by omega,?_⟩;exact WK hE (lk [(0,0),(1,1),(2,2),(3,3),(4,4),(5,5),(6,6),(7,7),(8,8),(9,9)])
   | 2,_,q1,q2,q3,q4,q5,q6=>
     have q1:=q1 (by omega);have q2:=q2 (by omega);have z:IntKind.wrap .i64 3=3:=by decide
     by_cases t:0<=CX
     . have e:ER k r s l=(3,CX):=by rw [hev,if_neg q1,if_neg q2,if_pos t]
       simp [ALS,AA];refine CRs (d3 q1 q2) (by simp) ?_;simp [t];refine AL [(6,3)] (by kernel_rfl) ?_;simp [AA,inC,Nat.testBit];apply RZ;simp [results118,<-hRV,Jx,e,Int.max_eq_left t]
     . simp [ALS,AA]
       refine CRs (d3 q1 q2) (by simp) ?_;simp [t,z];refine ⟨3,⟨by omega,fun _=>by omega,fun _=>by omega,fun _=>by omega,fun h=>absurd h (by omega),fun h=>absurd h (by omega),fun h=>absurd h (by omega)⟩,by omega,?_⟩;exact WK hE (lk [(0,0),(1,1),(2,2),(3,3),(4,4),(5,5),(6,6),(7,7),(8,8),(9,9)])
   | 3,_,q1,q2,q3,q4,q5,q6=>
     have q1:=q1 (by omega);have q2:=q2 (by omega);have q3:=q3 (by omega);have z:IntKind.wrap .i64 4=4:=by decide
     have mx:max CX 0=0:=by omega
     by_cases t:N.fl<r.rsv
     . have e:ER k r s l=(4,0):=by rw [hev,if_neg q1,if_neg q2,if_neg q3,if_pos t]
       simp [ALS,AA];refine CLa d4 ?_;simp [t];refine AL [(6,3)] (by kernel_rfl) ?_;simp [AA,inC,Nat.testBit];apply RZ;simp [results118,<-hRV,Jx,e,mx]
     . simp [ALS,AA]
       refine CLa d4 ?_;simp [t,z];refine ⟨4,⟨by omega,fun _=>by omega,fun _=>by omega,fun _=>by omega,fun _=>by omega,fun h=>absurd h (by omega),fun h=>absurd h (by omega)⟩,by omega,?_⟩;exact WK hE (lk [(0,0),(1,1),(2,2),(3,3),(4,4),(5,5),(6,6),(7,7),(8,8),(9,9)])
   | 4,_,q1,q2,q3,q4,q5,q6=>
     have q1:=q1 (by omega);have q2:=q2 (by omega);have q3:=q3 (by omega);have q4:=q4 (by omega);have z:IntKind.wrap .i64 5=5:=by decide
     have mx:max CX 0=0:=by omega
     by_cases t:TR=false
     . have e:ER k r s l=(5,0):=by rw [hev,if_neg q1,if_neg q2,if_neg q3,if_neg q4,if_pos t]
       simp [ALS,AA];refine CLa (d5 q1 q2 q4) ?_;simp [t];refine AL [(6,3)] (by kernel_rfl) ?_;simp [AA,inC,Nat.testBit];apply RZ;simp [results118,<-hRV,Jx,e,mx]
     . simp [ALS,AA]
       refine CLa (d5 q1 q2 q4) ?_;simp [t,z];refine ⟨5,⟨by omega,fun _=>by omega,fun _=>by omega,fun _=>by omega,fun _=>by omega,fun h=>absurd h (by omega)⟩,by omega,?_⟩;exact WK hE (lk [(0,0),(1,1),(2,2),(3,3),(4,4),(5,5),(6,6),(7,7),(8,8),(9,9)])
   | 5,_,q1,q2,q3,q4,q5,q6=>
     have q1:=q1 (by omega);have q2:=q2 (by omega);have q3:=q3 (by omega);have q4:=q4 (by omega);have q5:=q5 (by omega);have z:IntKind.wrap .i64 6=6:=by decide
     have mx:max CX 0=0:=by omega
     by_cases t:FB=false
     . have e:ER k r s l=(6,0):=by rw [hev,if_neg q1,if_neg q2,if_neg q3,if_neg q4,if_neg (by rw [q5];simp),if_pos t]
       simp [ALS,AA];refine CLa d6 ?_;simp [t];refine AL [(6,3)] (by kernel_rfl) ?_;simp [AA,inC,Nat.testBit];apply RZ;simp [results118,<-hRV,Jx,e,mx]
     . simp [ALS,AA]
       refine CLa d6 ?_;simp [t,z];refine ⟨6,⟨by omega,fun _=>by omega,fun _=>by omega,fun _=>by omega,fun _=>by omega,fun _=>q5⟩,by omega,?_⟩;exact WK hE (lk [(0,0),(1,1),(2,2),(3,3),(4,4),(5,5),(6,6),(7,7),(8,8),(9,9)])
   | 6,_,q1,q2,q3,q4,q5,q6=>
     have q1:=q1 (by omega);have q2:=q2 (by omega);have q3:=q3 (by omega);have q4:=q4 (by omega);have q5:=q5 (by omega);have q6:=q6 (by omega);have e:ER k r s l=(0,0):=by rw [hev,if_neg q1,if_neg q2,if_neg q3,if_neg q4,if_neg (by rw [q5];simp),if_neg (by rw [q6];simp)]
     simp [ALS,AA];apply RZ;simp [results118,<-hRV,Jx,e,hN]
   | j+7,hj,_,_,_,_,_,_=>omega
def RB (a:Except (Int × Int × Int) Shp):V:=match a with
 | .ok n=> .tup [Cl n (.d (AX n.gas.cs)),evV 0 0 0 0,vi 0]
 | .error e=> .tup [.agg shZ,evV e.2.1 0 0 e.2.2,vi e.1]
theorem tR (hS:SortOk) (k:Sky) (r:Rig) (s:Shp) (l:Leg) (h1:k.s.length<=1000000) (h2:k.w.length<=1000000) (h3:r.reg.length<=1000000) (hk:BV k=true) (hR:CF r=true) (hg:Ey k r=true) (hs:A6 s=true) (hl:BE l=true):Ct prog 68 [D2 k r,Cl s (.d (AX s.gas.cs)),AKx l] (RB (HK k r s l)) []:=by
 have c1:=qG hS k r s l h1 h2 h3 hk hR hg hs hl;unfold Jx at c1;unfold HK;by_cases hz:(ER k r s l).1=0
 . rw [if_pos hz] at c1 ⊢
   have ebh:s.bh+l.bh=(Cj k r s l).bh:=rfl;rw [ebh]
   generalize Cj k r s l=N at*
   by_cases hf:1000000000000<N.bh
   . rw [if_pos hf]
     simp only [RB];refine CB func68 c68 fun E hE=>?_
     simp [p68];refine CLa c1 ?_;simp [AA,hf];refine AL [(2,2097152)] (by kernel_rfl) ?_;simp [AA,inC,Nat.testBit];apply RZ;simp [results68]
   . rw [if_neg hf]
     simp only [RB];refine CB func68 c68 fun E hE=>?_
     simp [p68];refine CLa c1 ?_;simp [AA,hf];refine AL [(2,2097152)] (by kernel_rfl) ?_;simp [AA,inC,Nat.testBit];apply RZ;simp [results68]
 . rw [if_neg hz] at c1 ⊢
   simp only [RB]
   generalize ER k r s l=e at*
   refine CB func68 c68 fun E hE=>?_
   simp [p68];refine CLa c1 ?_;simp [AA,hz];refine AL [(2,2097152)] (by kernel_rfl) ?_;simp [AA,inC,Nat.testBit];apply RZ;simp [results68]
theorem kp (hS:SortOk) (k:Sky) (r:Rig) (h1:k.s.length<=1000000) (h2:k.w.length<=1000000) (h3:r.reg.length<=1000000) (hk:BV k=true) (hr:CF r=true) (hg:Ey k r=true):Cm prog 37 [Eu k,Fj r, .ls 0 0 2 1] (lk [(0,[vi 0,vi 0])]) [] (.ret (.tup [.lp 0 0,vi 0])) (lk [(0,(LI k r).map .d)]):=by
 have c1:=AFl k h1 h2;have c2:=AEE hS r (by omega);have c3:=SJ 0 0 0 0;rw [hk] at c1;rw [hr] at c2;have hl:=(Sr hk).len;obtain ⟨x,hx⟩:∃ x,k.s[0]?= some x:=⟨_,List.getElem?_eq_getElem (by omega)⟩
 obtain ⟨y,hy⟩:∃ y,k.s[k.s.length-1]?= some y:=⟨_,List.getElem?_eq_getElem (by omega)⟩
 have c4:=mM x.h y.h [r.lo,r.hi] (by simp);rw [XL (Hy hr) hx hy,hg] at c4;have w1:IntKind.wrap .i64 ((k.s.length:Int)-1)=((k.s.length-1:Nat):Int):=by rw [AD (by omega) (by omega)];omega
 have hI0:(0:Int)<k.s.length:=by omega
 obtain ⟨j,hj⟩:∃ j,k.s.length-1=j:=⟨_,rfl⟩
 rw [hj] at w1 hy;have hI1:(j:Int)<k.s.length:=by omega
 refine CM 1 func37 c37 fun E hs hE=>?_
 simp [p37,inC,Nat.testBit];refine CLa c1 ?_;simp [inC,Nat.testBit];refine CLa c2 ?_;simp [AA,AM];refine CLb (c3) (by simp [tM]) ?_;simp [AA,AM,inC,Nat.testBit,hx,hy,w1];refine CLb (c4) (by simp [Ap]) ?_;simp [AA];refine AB.by (lk [(0,40894465)]) ?_;simp [results37]
theorem fd (ID:Nat) (hS:SortOk) (k:Sky) (r:Rig) (h1:k.s.length<=1000000) (h2:k.w.length<=1000000) (h3:r.reg.length<=1000000) (hk:BV k=true) (hr:CF r=true) (hg:Ey k r=true):Cm prog 37 [Eu k,Fj r, .ls ID 0 2 1] (lk [(ID,[vi 0,vi 0])]) [] (.ret (.tup [D2 k r,vi 0])) (lk []):=by
 have h:=Cm.freeze (r':= .tup [D2 k r,vi 0]) (kp hS k r h1 h2 h3 hk hr hg) (by
   refine ⟨?_, .inl rfl,trivial⟩;exact ⟨_,rfl,by simp⟩)
 have h0:Cm prog 37 [Eu k,Fj r, .ls 0 0 2 1] (lk [(0,[vi 0,vi 0])]) [] (.ret (.tup [D2 k r,vi 0])) (lk []):=h;have:=Cm.rename (fun _=>ID) 1 (by omega) h0 (by simp [BW]) (by simp [BW]) (by simp);simpa [Ea,HW] using this
abbrev Ys (e:Evt):V:=evV e.1 e.2.1 e.2.2.1 e.2.2.2
def Ku (i m:Int) (a:Except (Int × Int × Int) Shp):V:=match a with
 | .ok n=> .tup [Cl n (.d (AX n.gas.cs)),evV 0 0 0 0,vi 0]
 | .error e=> .tup [.agg shZ,Ys (if e.1=54 then (e.2.1,i,m,e.2.2) else ev0),vi e.1]
theorem MD {k:Sky} {r:Rig} {s:Shp} {e:Int} (h:JC k r s e=0):BV k=true/\CF r=true/\A6 s=true/\e=0/\Ey k r=true:=by
 unfold JC at h;cases h1:BV k
 . rw [h1] at h;simp at h
 cases h2:CF r
 . rw [h1,h2] at h;simp at h
 cases h3:A6 s
 . rw [h1,h2,h3] at h;simp at h
 by_cases h4:e=0
 . cases h5:Ey k r
   . rw [h1,h2,h3,h5] at h;simp [h4] at h
   . exact ⟨rfl,rfl,rfl,h4,rfl⟩
 . rw [h1,h2,h3] at h;simp [h4] at h
theorem fn90 (l:List Leg):Ct prog 90 [.d (Bs l)] (.cl 133 [.lp 0 0]) [(0,[.d (Bs l)])]:=by
 refine CB func90 c90 fun E hE=>?_
 simp [p90];refine AB.by (lk [(0,0)]) ?_;simp [results90]
def Cw (l:List Leg) (i:Nat):Nat:=(BN 0 (l.take i)).length
theorem Iq:∀ (a b:List Leg) (i:Nat),BN i (a++b)=BN i a++BN (i+a.length) b
 | [],b,i=>rfl
 | x::a,b,i=>by
   show _++BN (i+1) (a++b)=(_++BN (i+1) a)++_
   rw [Iq a b (i+1),List.append_assoc,List.length_cons,show i+1+a.length=i+(a.length+1) by omega]
theorem MW (l:List Leg):Cw l 0=0:=rfl
theorem WO {l:List Leg} {i:Nat} {x:Leg} (h:l[i]?= some x):Cw l (i+1)=Cw l i+x.m.toNat:=by
 unfold Cw;rw [List.take_add_one,h,Iq];simp [BN]
theorem ACY (l:List Leg):Cw l l.length=(BN 0 l).length:=by unfold Cw;rw [List.take_length]
theorem iC {l:List Leg} {i:Nat}:Cw l i<=(BN 0 l).length:=by
 have:(BN 0 l).length=Cw l i+(BN (0+(l.take i).length) (l.drop i)).length:=by
   unfold Cw;rw [<-List.length_append,<-Iq,List.take_append_drop]
 omega
theorem iE {l:List Leg} {i m:Nat} {x:Leg} (h:l[i]?= some x) (hm:m<x.m.toNat):(BN 0 l)[Cw l i+m]?= some (i,m):=by
 have hi:=(List.getElem?_eq_some_iff.1 h).1
 have e:l=l.take i++(x::l.drop (i+1)):=by
   have:x::l.drop (i+1)=l.drop i:=by
     rw [List.drop_eq_getElem_cons hi];congr 1;rw [List.getElem?_eq_getElem hi] at h;exact (Option.some.inj h).symm
   rw [this,List.take_append_drop]
 have e2:BN 0 l=BN 0 (l.take i)++BN i (x::l.drop (i+1)):=by
   conv=>lhs;rw [e]
   rw [Iq,List.length_take,Nat.min_eq_left (by omega),Nat.zero_add]
 rw [e2,List.getElem?_append_right (by unfold Cw;omega)];unfold Cw;rw [Nat.add_sub_cancel_left]
 show ((List.range x.m.toNat).map (fun m=>(i,m))++_)[m]?= _
 rw [List.getElem?_append_left (by simpa using hm),List.getElem?_map,List.getElem?_range hm];rfl
theorem AI.restX {E:Ent} {ks xs:List Nat} {L:List (Nat × List V)} {st:St} (hs:∀ i,E.stab i↔i∈ks) (h:BT ks xs L) (hH:∀ i∈ks++xs,st.H i=lk L i) {n:Nat} (hn:∀ i∈ks++xs,i<n) (l:List (Nat × V)) (h1:CL (rid (ks++xs)) st.fr l) (h4:Bw n l):AI prog E st ⟨AO l,lk L,n⟩:=
 AI.mkM hs (rid (ks++xs)) l L n h1 (h.same.hp hH) h.same.inj h4 (h.ids hn) (IG (fun i hi=>hn i (List.mem_append_left _ hi)) fun i hi hs=>⟨Cr (List.mem_append_left _ hi),by rw [hH i (List.mem_append_left _ hi)];exact hs⟩)
theorem Jl (l:List Leg) (hl:l.length<=1000000) (hok:∀ x∈l,BE x=true) (KS:List Nat) (XS:Nat->List Nat) (k a M:Nat) (go:Nat->Bool) (L:Nat->List (Nat × List V)) (hk:k∈KS) (ha:a∈KS) (hN:∀ i∈KS,i<1000000000) (hX:∀ i,∀ x∈XS i,x<1048576) (hm:M<=(BN 0 l).length) (hL:∀ i,i<=M->BT KS (XS i) (L i))
   (hrec:∀ i,i<M->∃ fr nt ps pa pb jmp,lk (L i) k=some [.lr fr nt ps pa pb jmp]/\ps.length=2) (hbox:∀ i,i<=M->lk (L i) a=some [.d (Bs l)]) (hgo:∀ j,j+1<M->go j=true) (hend:M=(BN 0 l).length\/(0<M/\go (M-1)=false))
   (hY:∀ j i m,j<M->(BN 0 l)[j]?= some (i,m)->Ym prog k [vi i,vi m] (lk (L j)) KS (.ret (vb (go j))) (lk (L (j+1)))):
   Cm prog 133 [.yl k, .lp a 0] (lk (L 0)) KS (.ret (.tup [])) (lk (L M)):=by
 have hNX:∀ i,∀ x∈KS++XS i,x<1000000000:=fun i x hx=>by
   rcases List.mem_append.1 hx with h | h
   . exact hN x h
   . have:=hX i x h;omega
 refine Cm.by gok eok mixed 1000000000 func133 c133 rfl (by simp [ntmps133]) (by simp;exact ⟨hN k hk,hN a ha⟩) (A7.at ((hL 0 (by omega)).ids (hNX 0))) hN ⟨by simp,(hL M (Nat.le_refl _)).res⟩ fun E hs hE=>?_
 have haN:=hN a ha;have na:∀ x,1000000000<=x->¬ a=x:=fun x _=>by omega
 have la:∀ x,1000000000<=x->a<x:=fun x _=>by omega
 have b0:=hbox 0 (by omega);have rk:∀ i b,rx KS (XS i) b k=some k:=fun i b=>by simp [rx,hk]
 have ra:∀ i b,rx KS (XS i) b a=some a:=fun i b=>by simp [rx,ha]
 simp [p133,b0];refine Al (α:=Nat) (fun i=>⟨AO [(0, .yl k),(1, .lp a 0),(6, .d (Bs l)),(7,vi l.length),(8,vi i)],lk (L (Cw l i)),1000000000⟩) (fun i=>i<=l.length/\Cw l i<=M/\(Cw l i=M->M=(BN 0 l).length)) (fun i=>l.length-i) 0 ?_ ?_ ?_
 . rw [MW]
   exact ⟨by omega,by omega,fun e=>by omega⟩
 . rw [MW]
   refine AI.sameX hs (hL 0 (by omega)) rfl (hNX 0) _ ?_ ?_
   . simp [rid,hk,ha]
   . simp [hN k hk,hN a ha]
 . rintro i ⟨hi,hp,him⟩
   simp [LF];refine Bh (fun h=>?_) (fun h=>?_)
   . simp at h
     obtain ⟨x,hx⟩:=gE h;have hxm:=AL0 (hok x (List.mem_of_getElem? hx));have hpn:=WO hx;have hpl:=iC (l:=l) (i:=i+1);have hz:=@wz i (by omega);have hne0:∀ q∈KS++XS (Cw l i+0),¬ q=1004194304:=fun q hq e=>by have:=hNX (Cw l i+0) q hq;omega
     simp [hx,AA];refine Al (α:=Nat) (fun m=>⟨AO [(0, .yl k),(1, .lp a 0),(3,vi i),(6, .d (Bs l)),(7,vi l.length),(8,vi i),(14,vi x.m),(15,vi m)],lk (L (Cw l i+m)),1000000000⟩) (fun m=>m<=x.m.toNat/\Cw l i+m<=M/\(Cw l i+m=M->M=(BN 0 l).length)) (fun m=>x.m.toNat-m) 0 ?_ ?_ ?_
     . exact ⟨by omega,by omega,fun e=>him (by omega)⟩
     . refine AI.restX hs (hL _ (by omega)) (fun q hq=>?_) (hNX _) _ ?_ ?_
       . simp [hne0 q hq]
       . simp [rid,hk,ha]
       . simp [hN k hk,hN a ha]
     . rintro m ⟨hmi,hmp,hme⟩
       by_cases hmx:m<x.m.toNat
       . have hmI:(m:Int)<x.m:=by omega
         have hjl:Cw l i+m<(BN 0 l).length:=by omega
         have hj:Cw l i+m<M:=by
           rcases Nat.lt_or_ge (Cw l i+m) M with h9 | h9
           . exact h9
           . have:=hme (by omega);omega
         have hat:=iE hx hmx;obtain ⟨J,hJ⟩:∃ J,Cw l i+m=J:=⟨_,rfl⟩
         rw [hJ] at hat hj hjl;have hY':=hY J i m hj hat;obtain ⟨fr,nt,ps,pa,pb,jmp,hr1,hr2⟩:=hrec J hj;have hzm:=@wz m (by omega);have hbb:∀ q∈KS++XS J,q<1006291456:=fun q hq=>by have:=hNX J q hq;omega
         have hbk:∀ q∈KS,q<1006291456:=fun q hq=>by have:=hN q hq;omega
         rw [hJ];simp [JJ,hmI];refine Fp.keepX [vi i,vi m] (L J) (L (J+1)) KS (XS J) (XS (J+1)) _ hY' (hL J (by omega)) (hL (J+1) (by omega)) (hX _) ⟨fr,nt,ps,pa,pb,jmp,hr1,hr2⟩ (fun q hq=>rfl) (by simp) ?_;obtain ⟨F,hF⟩:∃ F,F=BI (lk (L J)) 1006291456 (lk (L J)) KS (lk (L (J+1))):=⟨_,rfl⟩
         have hFp:∀ p∈L (J+1),F (sg KS 1006291456 p.1)=some (p.2.map (BJ (sg KS 1006291456))):=fun p hp=>by rw [hF];exact Oe (hL J (by omega)) (hL (J+1) (by omega)) hbb hp
         rw [<-hF];cases hgi:go J
         . have e:J+1=M:=by
             by_cases hlt:J+1<M
             . rw [hgo J hlt] at hgi;cases hgi
             . omega
           simp;rw [<-e];exact Dc.keepX rfl (hL (J+1) (by omega)) hbk hFp
         . simp [hzm]
           refine ⟨m+1,⟨by omega,by omega,fun e=>?_⟩,by omega,?_⟩
           . rcases hend with h1 | ⟨_,h1⟩
             . exact h1
             . rw [show M-1=J by omega,hgi] at h1;cases h1
           . rw [show Cw l i+(m+1)=J+1 by omega]
             refine AI.keepX hs (hL (J+1) (by omega)) hbk hFp (hNX (J+1)) _ ?_ ?_
             . simp [rk,ra]
             . simp [hN k hk,hN a ha]
       . have em:m=x.m.toNat:=by omega
         have hmI:¬ (m:Int)<x.m:=by omega
         have e9:Cw l i+m=Cw l (i+1):=by omega
         have hbm:=hL (Cw l (i+1)) (by omega);rw [e9];simp [JJ,hmI,hz];refine ⟨i+1,⟨by omega,by omega,fun e=>hme (by omega)⟩,by omega,?_⟩;refine AI.sameX hs hbm rfl (hNX _) _ ?_ ?_
         . simp [rid,hk,ha]
         . simp [hN k hk,hN a ha]
   . simp at h
     have e:i=l.length:=by omega
     have e2:Cw l i=M:=by
       have:=ACY l;rw [<-e] at this;omega
     simp;rw [e2];exact Dc.sameX rfl (hL M (Nat.le_refl _)) rfl
theorem WM:∀ x:Shp,(Ca x).length=25:=fun _=>rfl
theorem mI (acc:List Shp) (n:Shp) (hl:acc.length<=100000):Cm prog 41 [Cl n (.d (AX n.gas.cs)), .lp 0 0] (lk ([(0,[hdF 25 acc 1])]++ouF Ca acc 1)) [0] (.ret (.tup [Cl n (.d (AX n.gas.cs)),vi 0])) (lk ([(0,[hdF 25 (acc++[n]) 1])]++ouF Ca (acc++[n]) 1)):=by
 by_cases hne:acc=[]
 . subst hne
   rw [Aq,Au,List.nil_append,Ak (by simp),AZ (by simp)];refine CM 2 func41 c41 fun E hs hE=>?_
   simp [p41,AA,AM];refine AB.by (lk [(0,0),(1,6291458)]) ?_;simp [results41,AH]
 . have hsl:=Aw WM acc
   have hwh:=E9 WM acc;have n1:(acc.length+1)*216<=140737488355328:=by omega
   have n2:acc.length+1<=9223372036854775807:=by omega
   rw [Ak hne,AZ hne,Ak (by simp),AZ (by simp),IV];refine CM 2 func41 c41 fun E hs hE=>?_
   simp [p41,AA,AM,hsl,hwh,n1,n2];refine AB.by (lk [(0,0),(1,6291458)]) ?_;simp [results41];refine Or.inl ?_;rw [List.all_append,List.all_eq_true.2 BU];rfl
def D6 (k:Sky) (r:Rig) (l:List Leg):List (Nat × Nat)->Shp->List Shp
 | [],_=>[]
 | (i,m)::rest,s=>match l[i]? with
   | none=>[]
   | some x=>match FA k r x m s with
     | .error _=>[]
     | .ok n=>n::D6 k r l rest n
def DX (s:Shp) (ns:List Shp) (j:Nat):Shp:=if j=0 then s else (ns[j-1]?).getD s
theorem MV {s n:Shp} {ns:List Shp} {j:Nat} (h:j<ns.length+1):DX s (n::ns) (j+1)=DX n ns j:=by
 unfold DX;cases j with
 | zero=>simp
 | succ j=>
   rw [if_neg (by omega),if_neg (by omega)];have h1:j<ns.length:=by omega
   simp [h1]
theorem LP {k:Sky} {r:Rig} {l:List Leg}:∀ {im:List (Nat × Nat)} {s:Shp} {j:Nat} {n:Shp},(D6 k r l im s)[j]?= some n->∃ i m x,im[j]?= some (i,m)/\l[i]?= some x/\FA k r x m (DX s (D6 k r l im s) j)= .ok n
 | [],s,j,n,h=>by simp [D6] at h
 | (i,m)::rest,s,j,n,h=>by
   unfold D6 at h ⊢;split at h
   . simp at h
   rename_i x hx;split at h
   . simp at h
   rename_i n1 h1;cases j with
   | zero=>
     simp at h;subst h;exact ⟨i,m,x,by simp,hx,by simpa [DX] using h1⟩
   | succ j=>
     have h2:(D6 k r l rest n1)[j]?= some n:=by simpa using h
     obtain ⟨i2,m2,x2,e1,e2,e3⟩:=LP h2;have hj:=(List.getElem?_eq_some_iff.1 h2).1;refine ⟨i2,m2,x2,by simpa using e1,e2,?_⟩;rw [MV (by omega)];exact e3
theorem LQ {k:Sky} {r:Rig} {l:List Leg}:∀ {im:List (Nat × Nat)} {s:Shp},(∀ p∈im,∃ x,l[p.1]?= some x)->(Dt k r l im s= .ok (D6 k r l im s)/\(D6 k r l im s).length=im.length)\/
   ∃ i m x e,im[(D6 k r l im s).length]?= some (i,m)/\l[i]?= some x/\FA k r x m (DX s (D6 k r l im s) (D6 k r l im s).length)= .error e/\Dt k r l im s= .error (FC i m e)
 | [],s,_=> .inl ⟨rfl,rfl⟩
 | (i,m)::rest,s,hm=>by
   obtain ⟨x,hx⟩:=hm (i,m) (by simp);simp only at hx;unfold D6 Dt;rw [hx];simp only;cases h1:FA k r x m s with
   | error e=>exact .inr ⟨i,m,x,e,by simp,hx,by simpa [DX] using h1,rfl⟩
   | ok n=>
     simp only;rcases LQ (im:=rest) (s:=n) (fun p hp=>hm p (by simp [hp])) with ⟨h2,h3⟩ | ⟨i2,m2,x2,e2,h2,h3,h4,h5⟩
     . left;rw [h2];exact ⟨rfl,by simp [h3]⟩
     . right
       rw [h5];refine ⟨i2,m2,x2,e2,by simpa using h2,h3,?_,rfl⟩;rw [List.length_cons,MV (by omega)];exact h4
def fKS:List Nat:=[8388609,7340033,1,1048577,2097153,3145729,4194305,5242881,0]
def fXS (acc:List Shp):List Nat:=if acc=[] then [] else [7]
abbrev evL (e:Evt):List V:=[vi e.1,vi e.2.1,vi e.2.2.1,vi e.2.2.2]
def fL (k:Sky) (r:Rig) (l:List Leg) (f:Nat->V) (z:LSt) (acc:List Shp) (s:Shp) (e:Evt) (er:Int):List (Nat × List V):=
 [(8388609,[.lr f 69 [19,20] Qp Xz z]),(7340033,[.d (Bs l)]),(1,[D2 k r]),(1048577,shB s),(2097153,[.d (Bs l)]),(3145729,[.cl 41 [.lp 0 0]]),(4194305,evL e),(5242881,[vi er]),(0,[hdF 25 acc 7])]++ouF Ca acc 7
theorem Ol (k:Sky) (r:Rig) (l:List Leg) (f:Nat->V) (z:LSt) (acc:List Shp) (s:Shp) (e:Evt) (er:Int) (hf:∀ t,AV (·∈fKS) AR (f t)):BT fKS (fXS acc) (fL k r l f z acc s e er):=by
 by_cases h0:acc=[]
 . subst h0
   refine ⟨rfl,by simp [fKS,fXS],?_⟩;intro q hq;simp only [fL,Aq,Au,List.append_nil,List.mem_cons,List.not_mem_nil,or_false] at hq;rcases hq with rfl | rfl | rfl | rfl | rfl | rfl | rfl | rfl | rfl
   . exact ⟨by simp,Or.inr (.inl ⟨_,_,_,_,_,_,rfl⟩),fun c hc=>by simp at hc;subst hc;exact hf⟩
   all_goals refine ⟨by simp,Or.inl rfl,fun c hc=>?_⟩
   all_goals simp only [List.mem_cons,List.not_mem_nil,or_false] at hc
   all_goals first
     | (subst hc;exact rfl)
     | (subst hc;simp [CX,W1,W0,rid,fKS,AJ,fXS])
     | (rcases hc with rfl | rfl | rfl | rfl<;>exact rfl)
     | (rcases hc with rfl | rfl | rfl | rfl | rfl | rfl | rfl | rfl | rfl | rfl | rfl | rfl | rfl | rfl | rfl | rfl | rfl | rfl | rfl | rfl | rfl | rfl | rfl | rfl | rfl<;>exact rfl)
 . have hx:fXS acc=[7]:=by simp [fXS,h0]
   rw [hx];refine ⟨by simp [fL,AZ h0,fKS],by simp [fKS],?_⟩;intro q hq;simp only [fL,Ak h0,AZ h0,List.mem_append,List.mem_cons,List.not_mem_nil,or_false] at hq;rcases hq with (rfl | rfl | rfl | rfl | rfl | rfl | rfl | rfl | rfl) | rfl
   . exact ⟨by simp,Or.inr (.inl ⟨_,_,_,_,_,_,rfl⟩),fun c hc=>by simp at hc;subst hc;exact hf⟩
   rotate_left 8
   . refine ⟨?_,Or.inl (List.all_eq_true.2 BU),fun c hc=>?_⟩
     . intro e
       have:=congrArg List.length e;rw [Aw WM] at this;cases acc with
       | nil=>exact h0 rfl
       | cons a t=>simp at this
     . obtain ⟨d,_,rfl⟩:=List.mem_map.1 (show c∈List.map V.d (List.map Ca acc).flatten from hc)
       exact rfl
   all_goals refine ⟨by simp,Or.inl rfl,fun c hc=>?_⟩
   all_goals simp only [List.mem_cons,List.not_mem_nil,or_false] at hc
   all_goals first
     | (subst hc;exact rfl)
     | (subst hc;simp [CX,W1,W0,rid,fKS,AJ])
     | (rcases hc with rfl | rfl | rfl | rfl<;>exact rfl)
     | (rcases hc with rfl | rfl | rfl | rfl | rfl | rfl | rfl | rfl | rfl | rfl | rfl | rfl | rfl | rfl | rfl | rfl | rfl | rfl | rfl | rfl | rfl | rfl | rfl | rfl | rfl<;>exact rfl)
theorem kU (acc:List Shp) (n:Shp) (hl:acc.length<=100000):Cm prog 41 [Cl n (.d (AX n.gas.cs)), .lp 0 0] (lk ([(0,[hdF 25 acc 7])]++ouF Ca acc 7)) [0] (.ret (.tup [Cl n (.d (AX n.gas.cs)),vi 0])) (lk ([(0,[hdF 25 (acc++[n]) 7])]++ouF Ca (acc++[n]) 7)):=by
 have hr:∀ l:List Shp,(AH Ca l).map (BJ fun i=>if i=0 then 0 else 7)=AH Ca l:=fun l=>by
   simp [AH,List.map_flatten,Function.comp_def]
 have h:=Cm.rename (fun i=>if i=0 then 0 else 7) 2 (by intro i j hi hj;split<;>split<;>omega) (mI acc n hl) (by
   by_cases h0:acc=[]
   . subst h0;simp [BW,Aq,Au]
   . simp [BW,Ak h0,AZ h0]) (by rw [Ak (by simp),AZ (by simp)];simp [BW]) (by simp)
 by_cases h0:acc=[]
 . subst h0
   rw [Aq,Au,List.nil_append,Ak (by simp),AZ (by simp)] at h ⊢;simpa [Ea,HW,hr] using h
 . rw [Ak h0,AZ h0,Ak (by simp),AZ (by simp)] at h ⊢
   simpa [Ea,HW,hr] using h
structure kV (f:Nat->V):Prop where
 av:∀ t,AV (·∈fKS) AR (f t)
 f4:f 4= .lp 1 0
 f5:f 5= .lp 1048577 0
 f6:f 6= .lp 2097153 0
 f7:f 7= .lp 3145729 0
 f8:f 8= .lp 4194305 0
 f9:f 9= .lp 5242881 0
theorem VQ (hS:SortOk) (k:Sky) (r:Rig) (l:List Leg) (f:Nat->V) (hF:kV f) (acc:List Shp) (s n:Shp) (i m:Nat) (x:Leg) (_:l.length<=1000000) (ha:acc.length<=100000) (h1:k.s.length<=1000000) (h2:k.w.length<=1000000) (h3:r.reg.length<=1000000) (hk:BV k=true) (hR:CF r=true) (hg:Ey k r=true) (hs:A6 s=true) (hlo:BE x=true) (hx:l[i]?= some x) (ho:FA k r x m s= .ok n):
   Ym prog 8388609 [vi i,vi m] (lk (fL k r l f .ready acc s ev0 0)) fKS (.ret (vb true)) (lk (fL k r l f .ready (acc++[n]) n ev0 0)):=by
 obtain ⟨hf,f4,f5,f6,f7,f8,f9⟩:=hF;have hil:=(List.getElem?_eq_some_iff.1 hx).1;have hiI:(i:Int)<l.length:=by omega
 have hK1:=Ol k r l f .ready acc s ev0 0 hf;have hK2:=Ol k r l f .ready (acc++[n]) n ev0 0 hf
 have hlt:∀ j∈fKS++fXS acc,j<10000000:=by
   intro j hj;simp only [fKS,fXS,List.mem_append,List.mem_cons,List.not_mem_nil,or_false] at hj;rcases hj with h | h
   . omega
   . split at h
     . simp at h
     . simp at h;omega
 have hW:∀ (y:Nat) z,WC (lk [(8388609,8388609),(7340033,7340033),(1,1),(1048577,1048577),(2097153,2097153),(3145729,3145729),(4194305,4194305),(5242881,5242881),(0,0),(7,y)]) (.lr f 69 [19,20] Qp Xz z) (.lr f 69 [19,20] Qp Xz z):=fun y z=>⟨rfl,fun t=>AV.mono (fun j hj=>by simp [fKS] at hj;rcases hj with rfl | rfl | rfl | rfl | rfl | rfl | rfl | rfl | rfl<;>simp [lk]) (fun _ h=>h) (hf t)⟩
 have hC:∀ z,Bv [.lr f 69 [19,20] Qp Xz z]:=fun z=>Or.inr (.inl ⟨_,_,_,_,_,_,rfl⟩)
 have ca:=kU acc n ha;refine Ym.ofX (k:=8388609) (fr:=f) (nt:=69) (ps:=[19,20]) (pa:=Qp) (pb:=Xz) (args:=[vi i,vi m]) (s:= .ready) gok eok mixed 10000000 hK1 hK2 hlt (by simp [fKS]) (by simp [fL]) (by simp) (by simp) (by simp) ?_;obtain ⟨t,ht,hmo,hnx⟩:=Ib.1 ho;have hto:=Ow hs hlo ht;have cm:=tR hS k r t x h1 h2 h3 hk hR hg hto hlo;rw [H2.2 ⟨hmo,hnx⟩] at cm;simp only [RB] at cm;by_cases hm:m=0
 . rw [if_pos hm] at ht
   subst hm;have cb:=Pw s x hs hlo;rw [ht] at cb;simp only [Oy] at cb;by_cases h0:acc=[]
   . subst h0
     rw [Aq,Au,List.nil_append,Ak (by simp),AZ (by simp)] at ca;refine ⟨fun E hE hs=>?_⟩;unfold fL;rw [Aq,Au,List.nil_append,Ak (by simp),AZ (by simp)]
     generalize V.lr f 69 [19,20] Qp Xz=rc at hW hC ⊢
     simp [Qp,BD];simp [Xz];refine AL [(10,23631488)] (by kernel_rfl) ?_;simp [inC,Nat.testBit,hx,f5,f6];refine CLa cb ?_;simp [AA,inC,Nat.testBit,f5];refine AL [(13,42505856),(14,43554432)] (by kernel_rfl) ?_;simp [inC,Nat.testBit,hx,f4,f5,f6];refine CLa cm ?_;simp [AA,inC,Nat.testBit,f7];refine CRs ca (by simp) ?_;simp [AA,f5];refine ⟨trivial,by simp,lk [(8388609,8388609),(7340033,7340033),(1,1),(1048577,1048577),(2097153,2097153),(3145729,3145729),(4194305,4194305),(5242881,5242881),(0,0),(7,51943047)],?_⟩;simp [hW,hC,fKS,AH]
   . have n1:AH Ca acc≠[]:=fun e=>by
       have:=congrArg List.length e;rw [Aw WM] at this;cases acc with
       | nil=>exact h0 rfl
       | cons a t=>simp at this
     rw [Ak h0,AZ h0,Ak (by simp),AZ (by simp)] at ca;refine ⟨fun E hE hs=>?_⟩;unfold fL;rw [Ak h0,AZ h0,Ak (by simp),AZ (by simp)]
     generalize V.lr f 69 [19,20] Qp Xz=rc at hW hC ⊢
     simp [Qp,BD];simp [Xz];refine AL [(10,23631488)] (by kernel_rfl) ?_;simp [inC,Nat.testBit,hx,f5,f6];refine CLa cb ?_;simp [AA,inC,Nat.testBit,f5];refine AL [(13,42505856),(14,43554432)] (by kernel_rfl) ?_;simp [inC,Nat.testBit,hx,f4,f5,f6];refine CLa cm ?_;simp [AA,inC,Nat.testBit,f7];refine CRs ca (by simp) ?_;simp [AA,f5];refine ⟨trivial,by simp,lk [(8388609,8388609),(7340033,7340033),(1,1),(1048577,1048577),(2097153,2097153),(3145729,3145729),(4194305,4194305),(5242881,5242881),(0,0),(7,51943047)],?_⟩;simp [hW,hC,fKS]
     all_goals first | exact Or.inl (List.all_eq_true.2 BU) | skip
 . rw [if_neg hm] at ht
   subst ht;by_cases h0:acc=[]
   . subst h0
     rw [Aq,Au,List.nil_append,Ak (by simp),AZ (by simp)] at ca;refine ⟨fun E hE hs=>?_⟩;unfold fL;rw [Aq,Au,List.nil_append,Ak (by simp),AZ (by simp)]
     generalize V.lr f 69 [19,20] Qp Xz=rc at hW hC ⊢
     simp [Qp,BD];simp [Xz,hm];refine AL [(13,25728640),(14,26777216)] (by kernel_rfl) ?_;simp [inC,Nat.testBit,hx,f4,f5,f6];refine CLa cm ?_;simp [AA,inC,Nat.testBit,f7];refine CRs ca (by simp) ?_;simp [AA,f5];refine ⟨trivial,by simp,lk [(8388609,8388609),(7340033,7340033),(1,1),(1048577,1048577),(2097153,2097153),(3145729,3145729),(4194305,4194305),(5242881,5242881),(0,0),(7,35165831)],?_⟩;simp [hW,hC,fKS,AH]
   . have n1:AH Ca acc≠[]:=fun e=>by
       have:=congrArg List.length e;rw [Aw WM] at this;cases acc with
       | nil=>exact h0 rfl
       | cons a t=>simp at this
     rw [Ak h0,AZ h0,Ak (by simp),AZ (by simp)] at ca;refine ⟨fun E hE hs=>?_⟩;unfold fL;rw [Ak h0,AZ h0,Ak (by simp),AZ (by simp)]
     generalize V.lr f 69 [19,20] Qp Xz=rc at hW hC ⊢
     simp [Qp,BD];simp [Xz,hm];refine AL [(13,25728640),(14,26777216)] (by kernel_rfl) ?_;simp [inC,Nat.testBit,hx,f4,f5,f6];refine CLa cm ?_;simp [AA,inC,Nat.testBit,f7];refine CRs ca (by simp) ?_;simp [AA,f5];refine ⟨trivial,by simp,lk [(8388609,8388609),(7340033,7340033),(1,1),(1048577,1048577),(2097153,2097153),(3145729,3145729),(4194305,4194305),(5242881,5242881),(0,0),(7,35165831)],?_⟩;simp [hW,hC,fKS]
     all_goals first | exact Or.inl (List.all_eq_true.2 BU) | skip
theorem T7:∀ {acts:List Act} {p:Plt} {i:Nat},¬ (B7 p acts i).2.2=54
 | [],p,i=>by simp [B7]
 | a::rr,p,i=>by
   unfold B7;cases hd:doS p a with
   | ok q=>exact T7
   | error e=>
     show ¬ e=54
     unfold doS vlS mvS at hd
     repeat' split at hd
     all_goals first | (have:=K8 hd;omega) | (cases hd;omega)
theorem mR {s:Shp} {x:Leg} {e:Int} (h:Ep s x= .error e):¬ e=54:=by
 unfold Ep at h;split at h
 . split at h
   . cases h;decide
   split at h
   . cases h;decide
   . cases h
 . cases h;exact T7
theorem AK2 {k:Sky} {r:Rig} {s:Shp} {x:Leg} {e:Int × Int × Int} (h:HK k r s x= .error e):(e.1=54/\True)\/(e.1=9/\e.2.1=0/\e.2.2=0):=by
 unfold HK at h;split at h
 . split at h
   . cases h;exact .inr ⟨rfl,rfl,rfl⟩
   . cases h
 . cases h;exact .inl ⟨rfl,trivial⟩
def Iw (x:Leg) (m:Nat) (s:Shp):Shp:=if m=0 then (match Ep s x with | .ok t=>t | .error _=>s) else s
theorem co (hS:SortOk) (k:Sky) (r:Rig) (l:List Leg) (f:Nat->V) (hF:kV f) (acc:List Shp) (s:Shp) (i m:Nat) (x:Leg) (e:Int × Int × Int) (_:l.length<=1000000) (h1:k.s.length<=1000000) (h2:k.w.length<=1000000) (h3:r.reg.length<=1000000) (hk:BV k=true) (hR:CF r=true) (hg:Ey k r=true) (hs:A6 s=true) (hlo:BE x=true) (hx:l[i]?= some x) (ho:FA k r x m s= .error e):
   Ym prog 8388609 [vi i,vi m] (lk (fL k r l f .ready acc s ev0 0)) fKS (.ret (vb false)) (lk (fL k r l f (.done .ret) acc (Iw x m s) (FC i m e).2 (FC i m e).1)):=by
 obtain ⟨hf,f4,f5,f6,f7,f8,f9⟩:=hF;have hil:=(List.getElem?_eq_some_iff.1 hx).1;have hiI:(i:Int)<l.length:=by omega
 have hK1:=Ol k r l f .ready acc s ev0 0 hf;have hK2:=Ol k r l f (.done .ret) acc (Iw x m s) (FC i m e).2 (FC i m e).1 hf
 have hlt:∀ j∈fKS++fXS acc,j<10000000:=by
   intro j hj;simp only [fKS,fXS,List.mem_append,List.mem_cons,List.not_mem_nil,or_false] at hj;rcases hj with h | h
   . omega
   . split at h
     . simp at h
     . simp at h;omega
 have hW:∀ (y:Nat) z,WC (lk [(8388609,8388609),(7340033,7340033),(1,1),(1048577,1048577),(2097153,2097153),(3145729,3145729),(4194305,4194305),(5242881,5242881),(0,0),(7,y)]) (.lr f 69 [19,20] Qp Xz z) (.lr f 69 [19,20] Qp Xz z):=fun y z=>⟨rfl,fun t=>AV.mono (fun j hj=>by simp [fKS] at hj;rcases hj with rfl | rfl | rfl | rfl | rfl | rfl | rfl | rfl | rfl<;>simp [lk]) (fun _ h=>h) (hf t)⟩
 have hC:∀ z,Bv [.lr f 69 [19,20] Qp Xz z]:=fun z=>Or.inr (.inl ⟨_,_,_,_,_,_,rfl⟩)
 refine Ym.ofX (k:=8388609) (fr:=f) (nt:=69) (ps:=[19,20]) (pa:=Qp) (pb:=Xz) (args:=[vi i,vi m]) (s:= .done .ret) gok eok mixed 10000000 hK1 hK2 hlt (by simp [fKS]) (by simp [fL]) (by simp) (by simp) (by simp) ?_;clear hK1 hK2;unfold FA at ho;by_cases hm:m=0
 . rw [if_pos hm] at ho
   subst hm;have cb:=Pw s x hs hlo;cases hbs:Ep s x with
   | error b=>
     rw [hbs] at ho cb;simp only [Oy] at cb;have he:e=(b,0,0):=by cases ho;rfl
     subst he;have hbe:=TP hbs;have h54:=mR hbs;have e1:Iw x 0 s=s:=by unfold Iw;rw [if_pos rfl,hbs]
     have e2:FC i 0 (b,0,0)=(b,ev0):=by unfold FC;simp only;rw [if_neg h54]
     rw [e1,e2];simp only;by_cases h0:acc=[]
     . subst h0
       refine ⟨fun E hE hs=>?_⟩;unfold fL;rw [Aq,Au]
       generalize V.lr f 69 [19,20] Qp Xz=rc at hW hC ⊢
       simp [Qp,BD];simp [Xz];refine AL [(10,23631488)] (by kernel_rfl) ?_;simp [inC,Nat.testBit,hx,f5,f6];refine CLa cb ?_;simp [AA,inC,Nat.testBit,f8,f9,hbe];refine ⟨trivial,by simp,lk [(8388609,8388609),(7340033,7340033),(1,1),(1048577,1048577),(2097153,2097153),(3145729,3145729),(4194305,4194305),(5242881,5242881),(0,0),(7,7)],?_⟩;simp [hW,hC,fKS,ev0]
     . refine ⟨fun E hE hs=>?_⟩
       unfold fL;rw [Ak h0,AZ h0]
       generalize V.lr f 69 [19,20] Qp Xz=rc at hW hC ⊢
       simp [Qp,BD];simp [Xz];refine AL [(10,23631488)] (by kernel_rfl) ?_;simp [inC,Nat.testBit,hx,f5,f6];refine CLa cb ?_;simp [AA,inC,Nat.testBit,f8,f9,hbe];refine ⟨trivial,by simp,lk [(8388609,8388609),(7340033,7340033),(1,1),(1048577,1048577),(2097153,2097153),(3145729,3145729),(4194305,4194305),(5242881,5242881),(0,0),(7,7)],?_⟩;simp [hW,hC,fKS,ev0]
       all_goals first | exact Or.inl (List.all_eq_true.2 BU) | skip
   | ok t=>
     rw [hbs] at ho cb;simp only [Oy] at cb;simp only at ho;have hto:=ZC hs hlo hbs;have cm:=tR hS k r t x h1 h2 h3 hk hR hg hto hlo;rw [ho] at cm;simp only [RB] at cm;have e1:Iw x 0 s=t:=by unfold Iw;rw [if_pos rfl,hbs]
     rw [e1];rcases AK2 ho with ⟨h54,_⟩ | ⟨h9,k1,k2⟩
     . have e2:FC i 0 e=((54:Int),e.2.1,(i:Int),(0:Int),e.2.2):=by unfold FC;rw [h54,if_pos rfl];rfl
       rw [e2];rw [h54] at cm;simp only;by_cases h0:acc=[]
       . subst h0
         refine ⟨fun E hE hs=>?_⟩;unfold fL;rw [Aq,Au]
         generalize V.lr f 69 [19,20] Qp Xz=rc at hW hC ⊢
         simp [Qp,BD];simp [Xz];refine AL [(10,23631488)] (by kernel_rfl) ?_;simp [inC,Nat.testBit,hx,f5,f6];refine CLa cb ?_;simp [AA,inC,Nat.testBit,f5];refine AL [(13,42505856),(14,43554432)] (by kernel_rfl) ?_;simp [inC,Nat.testBit,hx,f4,f5,f6];refine CLa cm ?_;simp [AA,inC,Nat.testBit,f8,f9];refine ⟨trivial,by simp,lk [(8388609,8388609),(7340033,7340033),(1,1),(1048577,1048577),(2097153,2097153),(3145729,3145729),(4194305,4194305),(5242881,5242881),(0,0),(7,7)],?_⟩;simp [hW,hC,fKS,ev0]
       . refine ⟨fun E hE hs=>?_⟩
         unfold fL;rw [Ak h0,AZ h0]
         generalize V.lr f 69 [19,20] Qp Xz=rc at hW hC ⊢
         simp [Qp,BD];simp [Xz];refine AL [(10,23631488)] (by kernel_rfl) ?_;simp [inC,Nat.testBit,hx,f5,f6];refine CLa cb ?_;simp [AA,inC,Nat.testBit,f5];refine AL [(13,42505856),(14,43554432)] (by kernel_rfl) ?_;simp [inC,Nat.testBit,hx,f4,f5,f6];refine CLa cm ?_;simp [AA,inC,Nat.testBit,f8,f9];refine ⟨trivial,by simp,lk [(8388609,8388609),(7340033,7340033),(1,1),(1048577,1048577),(2097153,2097153),(3145729,3145729),(4194305,4194305),(5242881,5242881),(0,0),(7,7)],?_⟩;simp [hW,hC,fKS,ev0]
         all_goals first | exact Or.inl (List.all_eq_true.2 BU) | skip
     . have e2:FC i 0 e=(9,ev0):=by unfold FC;rw [h9,if_neg (by decide)]
       rw [e2];rw [h9,k1,k2] at cm;simp only;by_cases h0:acc=[]
       . subst h0
         refine ⟨fun E hE hs=>?_⟩;unfold fL;rw [Aq,Au]
         generalize V.lr f 69 [19,20] Qp Xz=rc at hW hC ⊢
         simp [Qp,BD];simp [Xz];refine AL [(10,23631488)] (by kernel_rfl) ?_;simp [inC,Nat.testBit,hx,f5,f6];refine CLa cb ?_;simp [AA,inC,Nat.testBit,f5];refine AL [(13,42505856),(14,43554432)] (by kernel_rfl) ?_;simp [inC,Nat.testBit,hx,f4,f5,f6];refine CLa cm ?_;simp [AA,inC,Nat.testBit,f8,f9];refine ⟨trivial,by simp,lk [(8388609,8388609),(7340033,7340033),(1,1),(1048577,1048577),(2097153,2097153),(3145729,3145729),(4194305,4194305),(5242881,5242881),(0,0),(7,7)],?_⟩;simp [hW,hC,fKS,ev0]
       . refine ⟨fun E hE hs=>?_⟩
         unfold fL;rw [Ak h0,AZ h0]
         generalize V.lr f 69 [19,20] Qp Xz=rc at hW hC ⊢
         simp [Qp,BD];simp [Xz];refine AL [(10,23631488)] (by kernel_rfl) ?_;simp [inC,Nat.testBit,hx,f5,f6];refine CLa cb ?_;simp [AA,inC,Nat.testBit,f5];refine AL [(13,42505856),(14,43554432)] (by kernel_rfl) ?_;simp [inC,Nat.testBit,hx,f4,f5,f6];refine CLa cm ?_;simp [AA,inC,Nat.testBit,f8,f9];refine ⟨trivial,by simp,lk [(8388609,8388609),(7340033,7340033),(1,1),(1048577,1048577),(2097153,2097153),(3145729,3145729),(4194305,4194305),(5242881,5242881),(0,0),(7,7)],?_⟩;simp [hW,hC,fKS,ev0]
         all_goals first | exact Or.inl (List.all_eq_true.2 BU) | skip
 . rw [if_neg hm] at ho
   have cm:=tR hS k r s x h1 h2 h3 hk hR hg hs hlo;rw [ho] at cm;simp only [RB] at cm;have e1:Iw x m s=s:=by unfold Iw;rw [if_neg hm]
   rw [e1];rcases AK2 ho with ⟨h54,_⟩ | ⟨h9,k1,k2⟩
   . have e2:FC i m e=((54:Int),e.2.1,(i:Int),(m:Int),e.2.2):=by unfold FC;rw [h54,if_pos rfl]
     rw [e2];rw [h54] at cm;simp only;by_cases h0:acc=[]
     . subst h0
       refine ⟨fun E hE hs=>?_⟩;unfold fL;rw [Aq,Au]
       generalize V.lr f 69 [19,20] Qp Xz=rc at hW hC ⊢
       simp [Qp,BD];simp [Xz,hm];refine AL [(13,25728640),(14,26777216)] (by kernel_rfl) ?_;simp [inC,Nat.testBit,hx,f4,f5,f6];refine CLa cm ?_;simp [AA,inC,Nat.testBit,f8,f9];refine ⟨trivial,by simp,lk [(8388609,8388609),(7340033,7340033),(1,1),(1048577,1048577),(2097153,2097153),(3145729,3145729),(4194305,4194305),(5242881,5242881),(0,0),(7,7)],?_⟩;simp [hW,hC,fKS,ev0]
     . refine ⟨fun E hE hs=>?_⟩
       unfold fL;rw [Ak h0,AZ h0]
       generalize V.lr f 69 [19,20] Qp Xz=rc at hW hC ⊢
       simp [Qp,BD];simp [Xz,hm];refine AL [(13,25728640),(14,26777216)] (by kernel_rfl) ?_;simp [inC,Nat.testBit,hx,f4,f5,f6];refine CLa cm ?_;simp [AA,inC,Nat.testBit,f8,f9];refine ⟨trivial,by simp,lk [(8388609,8388609),(7340033,7340033),(1,1),(1048577,1048577),(2097153,2097153),(3145729,3145729),(4194305,4194305),(5242881,5242881),(0,0),(7,7)],?_⟩;simp [hW,hC,fKS,ev0]
       all_goals first | exact Or.inl (List.all_eq_true.2 BU) | skip
   . have e2:FC i m e=(9,ev0):=by unfold FC;rw [h9,if_neg (by decide)]
     rw [e2];rw [h9,k1,k2] at cm;simp only;by_cases h0:acc=[]
     . subst h0
       refine ⟨fun E hE hs=>?_⟩;unfold fL;rw [Aq,Au]
       generalize V.lr f 69 [19,20] Qp Xz=rc at hW hC ⊢
       simp [Qp,BD];simp [Xz,hm];refine AL [(13,25728640),(14,26777216)] (by kernel_rfl) ?_;simp [inC,Nat.testBit,hx,f4,f5,f6];refine CLa cm ?_;simp [AA,inC,Nat.testBit,f8,f9];refine ⟨trivial,by simp,lk [(8388609,8388609),(7340033,7340033),(1,1),(1048577,1048577),(2097153,2097153),(3145729,3145729),(4194305,4194305),(5242881,5242881),(0,0),(7,7)],?_⟩;simp [hW,hC,fKS,ev0]
     . refine ⟨fun E hE hs=>?_⟩
       unfold fL;rw [Ak h0,AZ h0]
       generalize V.lr f 69 [19,20] Qp Xz=rc at hW hC ⊢
       simp [Qp,BD];simp [Xz,hm];refine AL [(13,25728640),(14,26777216)] (by kernel_rfl) ?_;simp [inC,Nat.testBit,hx,f4,f5,f6];refine CLa cm ?_;simp [AA,inC,Nat.testBit,f8,f9];refine ⟨trivial,by simp,lk [(8388609,8388609),(7340033,7340033),(1,1),(1048577,1048577),(2097153,2097153),(3145729,3145729),(4194305,4194305),(5242881,5242881),(0,0),(7,7)],?_⟩;simp [hW,hC,fKS,ev0]
       all_goals first | exact Or.inl (List.all_eq_true.2 BU) | skip
def F6 (a:Except (Int × Evt) (List Shp)):Int × Evt:=match a with | .ok _=>(0,ev0) | .error e=>e
theorem TS {k:Sky} {r:Rig} {l:List Leg} (hT:Va k r) (hl:∀ x∈l,BE x=true):∀ {im:List (Nat × Nat)} {s:Shp},A6 s=true->∀ n∈D6 k r l im s,A6 n=true
 | [],s,_,n,h=>by simp [D6] at h
 | (i,m)::rest,s,hs,n,h=>by
   unfold D6 at h;split at h
   . simp at h
   rename_i x hx;split at h
   . simp at h
   rename_i n1 h1;have h2:=Q7 hT hs (hl x (List.mem_of_getElem? hx)) h1;rcases List.mem_cons.1 h with rfl | h
   . exact h2
   . exact TS hT hl h2 n h
theorem fW {s:Shp} {ns:List Shp} (hs:A6 s=true) (hn:∀ n∈ns,A6 n=true) {j:Nat} (hj:j<=ns.length):A6 (DX s ns j)=true:=by
 unfold DX;split
 . exact hs
 . obtain ⟨n,hnn⟩:∃ n,ns[j-1]?= some n:=⟨_,List.getElem?_eq_getElem (by omega)⟩
   rw [hnn];exact hn n (List.mem_of_getElem? hnn)
theorem Vb {s n:Shp} {ns:List Shp} {j:Nat} (h:ns[j]?= some n):DX s ns (j+1)=n:=by
 unfold DX;rw [if_neg (by omega),Nat.add_sub_cancel,h];rfl
theorem fX (l:List Shp):∀ (a:Nat) (b:List V),(a,b)∈(0,[hdF 25 l 1])::ouF Ca l 1->∀ c∈b,AC (InB ((0,[hdF 25 l 1])::ouF Ca l 1)) AR c:=by
 by_cases h0:l=[]
 . subst h0;simp [Aq,Au]
 . rw [Ak h0,AZ h0]
   intro a b hab c hc;simp only [List.mem_cons,List.not_mem_nil,or_false,Prod.mk.injEq] at hab;rcases hab with ⟨rfl,rfl⟩ | ⟨rfl,rfl⟩
   . simp at hc;subst hc;simp
   . obtain ⟨d,_,rfl⟩:=List.mem_map.1 (show c∈List.map V.d (List.map Ca l).flatten from hc)
     simp
def fT (k:Sky) (r:Rig) (l:List Leg) (acc:List Shp) (s:Shp) (e:Evt) (er:Int):List (Nat × List V):=
 [(7340033,[.d (Bs l)]),(1,[D2 k r]),(1048577,shB s),(2097153,[.d (Bs l)]),(3145729,[.cl 41 [.lp 0 0]]),(4194305,evL e),(5242881,[vi er]),(0,[hdF 25 acc 7])]++ouF Ca acc 7
theorem Vc (k:Sky) (r:Rig) (l:List Leg) (f:Nat->V) (z:LSt) (acc:List Shp) (s:Shp) (e:Evt) (er:Int):fL k r l f z acc s e er=(8388609,[.lr f 69 [19,20] Qp Xz z])::fT k r l acc s e er:=rfl
theorem NG:fKS=8388609::[7340033,1,1048577,2097153,3145729,4194305,5242881,0]:=rfl
theorem pQ (hS:SortOk) (k:Sky) (r:Rig) (l:List Leg) (s:Shp) (hl:l.length<=100) (hok:∀ x∈l,BE x=true) (h1:k.s.length<=1000000) (h2:k.w.length<=1000000) (h3:r.reg.length<=1000000) (hk:BV k=true) (hR:CF r=true) (hg:Ey k r=true) (hs:A6 s=true):
   Cm prog 40 [D2 k r,Cl s (.d (AX s.gas.cs)), .d (Bs l), .cl 41 [.lp 0 0]] (lk [(0,[.d (.lit (.slice none 0 0))])]) [0] (.ret (.tup [Ys (F6 (Dt k r l (BN 0 l) s)).2,vi (F6 (Dt k r l (BN 0 l) s)).1])) (lk ([(0,[hdF 25 (D6 k r l (BN 0 l) s) 1])]++ouF Ca (D6 k r l (BN 0 l) s) 1)):=by
 have hT:Va k r:=⟨hk,Hy hR,hg⟩
 have hlen:=Kv (i:=0) hok
 have hmem:∀ p∈BN 0 l,∃ x,l[p.1]?= some x:=fun p hp=>by
   obtain ⟨x,_,h,_⟩:=zn hp;exact ⟨x,by simpa using h⟩
 have hend:=LQ (k:=k) (r:=r) (s:=s) hmem;have hrd:∀ {j:Nat} {n:Shp},(D6 k r l (BN 0 l) s)[j]?= some n->_:=fun h=>LP h
 have hnok:=TS hT hok (im:=BN 0 l) hs
 have hlb:(BN 0 l).length<=60000:=by
   have:=KA hok;omega
 obtain ⟨ns,hns⟩:∃ ns,D6 k r l (BN 0 l) s=ns:=⟨_,rfl⟩
 obtain ⟨FK,hFK⟩:∃ FK,Dt k r l (BN 0 l) s=FK:=⟨_,rfl⟩
 rw [hns] at hend hnok hrd ⊢;rw [hFK] at hend ⊢
 have hnl:ns.length<=(BN 0 l).length:=by
   rcases hend with ⟨_,h⟩ | ⟨i,m,x,e,h,_⟩
   . omega
   . have:=(List.getElem?_eq_some_iff.1 h).1;omega
 have hsj:∀ {j:Nat},j<=ns.length->A6 (DX s ns j)=true:=fun hj=>fW hs hnok hj
 refine Cm.by gok eok mixed 1 func40 c40 rfl (by simp [ntmps40]) (by simp) (A7.at (by simp)) (by simp) (by
   refine ⟨by simp,?_⟩;exact fun p hp c hc=>fX ns p.1 p.2 hp c hc) fun E hs' hE=>?_
 simp [p40];refine CLa (fn90 l) ?_;simp;have hnt:E.nt=69:=by rw [hE.1];exact ntmps40
 rw [<-JI (Γ:=tys) (eqs:=eqs)];obtain ⟨f,hf⟩:∃ f,f=upd (upd (upd (upd (upd (upd (upd (upd (Dn 0 [D2 k r,Cl s (.d (AX s.gas.cs)), .d (Bs l), .cl 41 [.lp 0 0]]) 4 (.lp 1 0)) 5 (.lp 1048577 0)) 6 (.lp 2097153 0)) 7 (.lp 3145729 0)) 8 (.lp 4194305 0)) 9 (.lp 5242881 0)) 17 (.d (Bs l))) 18 (.cl 133 [.lp 7340033 0]):=⟨_,rfl⟩
 have hfA:∀ t,AV (·∈fKS) AR (f t):=fun t=>by
   rw [hf];simp only [AY];split
   . intro c hc;simp at hc;subst hc;exact (by simp [fKS]:(7340033:Nat)∈fKS)
   split
   . exact trivial
   split
   . exact (by simp [fKS]:(5242881:Nat)∈fKS)
   split
   . exact (by simp [fKS]:(4194305:Nat)∈fKS)
   split
   . exact (by simp [fKS]:(3145729:Nat)∈fKS)
   split
   . exact (by simp [fKS]:(2097153:Nat)∈fKS)
   split
   . exact (by simp [fKS]:(1048577:Nat)∈fKS)
   split
   . exact (by simp [fKS]:(1:Nat)∈fKS)
   simp only [Dn];split
   . exact trivial
   split
   . intro c hc;simp at hc;rcases hc with rfl | rfl | rfl | rfl | rfl | rfl | rfl | rfl | rfl | rfl | rfl | rfl | rfl | rfl | rfl | rfl | rfl | rfl | rfl | rfl | rfl | rfl | rfl | rfl | rfl<;>exact trivial
   split
   . exact trivial
   split
   . intro c hc;simp at hc;subst hc;exact (by simp [fKS]:(0:Nat)∈fKS)
   . exact fun c hc=>by simp at hc
 have hFF:kV f:=⟨hfA,by rw [hf];simp,by rw [hf];simp,by rw [hf];simp,by rw [hf];simp,by rw [hf];simp,by rw [hf];simp⟩
 have f18:f 18= .cl 133 [.lp 7340033 0]:=by rw [hf];simp
 obtain ⟨_,f4,f5,f6,f7,f8,f9⟩:=id hFF;rw [<-hf];have hK:=fun z acc t e er=>Ol k r l f z acc t e er hfA
 have hN:∀ i∈fKS,i<1000000000:=by simp [fKS]
 have hX:∀ i:Nat,∀ x∈fXS (ns.take i),x<1048576:=fun i x hx=>by
   unfold fXS at hx;split at hx<;>simp at hx;omega
 have hrec:∀ z acc t e er,∃ fr nt ps pa pb jmp,lk (fL k r l f z acc t e er) 8388609=some [.lr fr nt ps pa pb jmp]/\ps.length=2:=fun z acc t e er=>⟨f,69,[19,20],Qp,Xz,z,by simp [fL],rfl⟩
 have hbox:∀ z acc t e er,lk (fL k r l f z acc t e er) 7340033=some [.d (Bs l)]:=fun z acc t e er=>by simp [fL]
 have hround:∀ j i m,j<ns.length->(BN 0 l)[j]?= some (i,m)->Ym prog 8388609 [vi i,vi m] (lk (fL k r l f .ready (ns.take j) (DX s ns j) ev0 0)) fKS (.ret (vb true)) (lk (fL k r l f .ready (ns.take (j+1)) (DX s ns (j+1)) ev0 0)):=fun j i m hj him=>by
   obtain ⟨n,hn⟩:=gE hj;obtain ⟨i',m',x,e1,e2,e3⟩:=hrd hn;rw [him] at e1;cases e1;have:=VQ hS k r l f hFF (ns.take j) (DX s ns j) n i m x (by omega) (by rw [List.length_take];omega) h1 h2 h3 hk hR hg (hsj (by omega)) (hok x (List.mem_of_getElem? e2)) e2 e3;rw [Vb hn,List.take_add_one,hn];exact this
 rcases hend with ⟨hok1,hlen1⟩ | ⟨i,m,x,e,hm1,hm2,hm3,hm4⟩
 ·
   have c:=Jl l (by omega) hok fKS (fun j=>fXS (ns.take j)) 8388609 7340033 ns.length (fun _=>true) (fun j=>fL k r l f .ready (ns.take j) (DX s ns j) ev0 0) (by simp [fKS]) (by simp [fKS]) hN hX (by omega) (fun j _=>hK _ _ _ _ _) (fun j _=>hrec _ _ _ _ _) (fun j _=>hbox _ _ _ _ _) (fun _ _=>rfl) (Or.inl hlen1) (fun j i m hj him=>hround j i m hj him);have hK0:=hK .ready [] s ev0 0;have hKn:=hK .ready ns (DX s ns ns.length) ev0 0;have c0:fL k r l f .ready (ns.take 0) (DX s ns 0) ev0 0=fL k r l f .ready [] s ev0 0:=rfl;have cn:fL k r l f .ready (ns.take ns.length) (DX s ns ns.length) ev0 0=fL k r l f .ready ns (DX s ns ns.length) ev0 0:=by rw [List.take_length]
   rw [c0,cn,Vc,Vc,NG] at c;rw [Vc,NG] at hK0 hKn;have hFe:F6 FK=(0,ev0):=by rw [hok1];rfl
   rw [hFe];refine E3.keepX (fT k r l [] s ev0 0) (fT k r l ns (DX s ns ns.length) ev0 0) [7340033,1,1048577,2097153,3145729,4194305,5242881,0] (fXS []) (fXS ns) (.tup []) .ready ⟨hE.2,by rw [hnt];simp [AL4]⟩ (g:=133) (caps:=[.lp 7340033 0]) (by simp [f18]) (by rw [hnt];exact c) (by rw [hnt];exact hK0) (by rw [hnt];exact hKn) (fun x hx=>by have:=hX ns.length x (by rw [List.take_length];exact hx);exact this) (by simp [fXS]) (by simp [fXS,fT,Aq,Au,ev0]) (by simp) fun F h1 h2=>?_
   by_cases h0:ns=[]
   . subst h0
     have F0:=h1 (0,_) (by simp [fT,Aq,Au];rfl);have F8:=h1 (4194305,_) (by simp [fT,Aq,Au];rfl);have F9:=h1 (5242881,_) (by simp [fT,Aq,Au];rfl);simp [sg,BJ,DS,DR] at F0 F8 F9;rw [Aq,Au]
     show Ft 0 _ .normal _
     simp [f8,f9,F8,F9,AA];refine AB.by (lk [(0,0)]) ?_;simp [results40,F0,ev0,f8,f9]
   . have F0:=h1 (0,_) (by simp [fT,Ak h0,AZ h0];rfl)
     have F7:=h1 (7,_) (by simp [fT,Ak h0,AZ h0];rfl);have F8:=h1 (4194305,_) (by simp [fT,Ak h0,AZ h0];rfl);have F9:=h1 (5242881,_) (by simp [fT,Ak h0,AZ h0];rfl);simp [sg,BJ,DS,DR] at F0 F7 F8 F9;rw [Ak h0,AZ h0]
     show Ft 0 _ .normal _
     simp [f8,f9,F8,F9,AA];refine AB.by (lk [(0,0),(1,9437192)]) ?_;simp [results40,F0,F7,ev0,f8,f9]
     all_goals first | exact Or.inl (List.all_eq_true.2 BU) | skip
 . have hal:ns.length<(BN 0 l).length:=(List.getElem?_eq_some_iff.1 hm1).1
   obtain ⟨EZ,hEZ⟩:∃ EZ,FC i m e=EZ:=⟨_,rfl⟩
   have hFe:F6 FK=EZ:=by rw [hm4,hEZ];rfl
   rw [hFe];have hfail:=co hS k r l f hFF ns (DX s ns ns.length) i m x e (by omega) h1 h2 h3 hk hR hg (hsj (Nat.le_refl _)) (hok x (List.mem_of_getElem? hm2)) hm2 hm3;rw [hEZ] at hfail;obtain ⟨SF,hSF⟩:∃ SF,Iw x m (DX s ns ns.length)=SF:=⟨_,rfl⟩
   rw [hSF] at hfail;obtain ⟨LL,hLL⟩:∃ LL:Nat->List (Nat × List V),LL=fun j=>if j<=ns.length then fL k r l f .ready (ns.take j) (DX s ns j) ev0 0 else fL k r l f (.done .ret) ns SF EZ.2 EZ.1:=⟨_,rfl⟩
   have LLa:∀ j,j<=ns.length->LL j=fL k r l f .ready (ns.take j) (DX s ns j) ev0 0:=fun j hj=>by rw [hLL];simp only;rw [if_pos hj]
   have LLb:LL (ns.length+1)=fL k r l f (.done .ret) ns SF EZ.2 EZ.1:=by rw [hLL];simp only;rw [if_neg (by omega)]
   have tk:∀ j,ns.length<=j->ns.take j=ns:=fun j hj=>List.take_of_length_le hj
   have c:=Jl l (by omega) hok fKS (fun j=>fXS (ns.take j)) 8388609 7340033 (ns.length+1) (fun j=>decide (j<ns.length)) LL (by simp [fKS]) (by simp [fKS]) hN hX (by omega) (fun j hj=>by
       by_cases h:j<=ns.length
       . rw [LLa j h];exact hK _ _ _ _ _
       . rw [show j=ns.length+1 by omega,LLb,tk _ (by omega)];exact hK _ _ _ _ _) (fun j hj=>by
       rw [LLa j (by omega)];exact hrec _ _ _ _ _) (fun j hj=>by
       by_cases h:j<=ns.length
       . rw [LLa j h];exact hbox _ _ _ _ _
       . rw [show j=ns.length+1 by omega,LLb];exact hbox _ _ _ _ _) (fun j hj=>decide_eq_true (by omega)) (Or.inr ⟨by omega,decide_eq_false (by omega)⟩) (fun j i' m' hj him=>by
       by_cases h:j<ns.length
       . rw [LLa j (by omega),LLa (j+1) (by omega),decide_eq_true h];exact hround j i' m' h him
       . have e1:j=ns.length:=by omega
         subst e1;rw [hm1] at him;cases him;rw [LLa ns.length (Nat.le_refl _),LLb,decide_eq_false h,List.take_length];exact hfail)
   have hK0:=hK .ready [] s ev0 0;have hKn:=hK (.done .ret) ns SF EZ.2 EZ.1;have c0:LL 0=fL k r l f .ready [] s ev0 0:=by rw [LLa 0 (by omega)];rfl
   rw [c0,LLb,Vc,Vc,NG] at c;rw [Vc,NG] at hK0 hKn;refine E3.keepX (fT k r l [] s ev0 0) (fT k r l ns SF EZ.2 EZ.1) [7340033,1,1048577,2097153,3145729,4194305,5242881,0] (fXS []) (fXS ns) (.tup []) (.done .ret) ⟨hE.2,by rw [hnt];simp [AL4]⟩ (g:=133) (caps:=[.lp 7340033 0]) (by simp [f18]) (by rw [hnt];exact c) (by rw [hnt];exact hK0) (by rw [hnt];exact hKn) (fun x hx=>by have:=hX ns.length x (by rw [List.take_length];exact hx);exact this) (by simp [fXS]) (by simp [fXS,fT,Aq,Au,ev0]) (by simp) fun F h1 h2=>?_
   by_cases h0:ns=[]
   . subst h0
     have F0:=h1 (0,_) (by simp [fT,Aq,Au];rfl);have F8:=h1 (4194305,_) (by simp [fT,Aq,Au];rfl);have F9:=h1 (5242881,_) (by simp [fT,Aq,Au];rfl);simp [sg,BJ,DS,DR] at F0 F8 F9;rw [Aq,Au]
     show Ft 0 _ .ret _
     simp;refine AB.by (lk [(0,0)]) ?_;simp [results40,F0,F8,F9,f8,f9]
   . have F0:=h1 (0,_) (by simp [fT,Ak h0,AZ h0];rfl)
     have F7:=h1 (7,_) (by simp [fT,Ak h0,AZ h0];rfl);have F8:=h1 (4194305,_) (by simp [fT,Ak h0,AZ h0];rfl);have F9:=h1 (5242881,_) (by simp [fT,Ak h0,AZ h0];rfl);simp [sg,BJ,DS,DR] at F0 F7 F8 F9;rw [Ak h0,AZ h0]
     show Ft 0 _ .ret _
     simp;refine AB.by (lk [(0,0),(1,9437192)]) ?_;simp [results40,F0,F7,F8,F9,f8,f9]
     all_goals first | exact Or.inl (List.all_eq_true.2 BU) | skip
abbrev cD (l:List Shp):D:= .sl 25 (l.map Ca)
def Lp (a:Except (Int × Evt) (List Shp)):List Shp:=match a with | .ok ns=>ns | .error _=>[]
abbrev AFC (a:Except (Int × Evt) (List Shp)):V:= .tup [.d (cD (Lp a)),Ys (F6 a).2,vi (F6 a).1]
theorem ABc {k:Sky} {r:Rig} {s:Shp} {a b:Int} (ha:(if A6 s then (0:Int) else 52)=a) (hz:¬ JC k r s b=0):(¬ QG k r a b=0/\QG k r a b=JC k r s b)\/(BV k=true/\CF r=true/\a=0/\b=0/\Ey k r=false/\JC k r s b=2):=by
 unfold QG JC at*;unfold e0 e1;cases h1:BV k
 . left;simp
 . cases h2:CF r
   . left;simp
   . cases h3:A6 s
     . rw [h3] at ha;simp at ha;subst ha;left;simp
     . rw [h3] at ha;simp at ha;subst ha
       by_cases hb0:b=0
       . cases h4:Ey k r
         . right;simp [hb0]
         . rw [h1,h2,h3,h4,hb0] at hz;simp at hz
       . left;simp [hb0]
theorem Tv {l:List Leg} (h:C0 l=0):l.length<=20/\(∀ x∈l,BE x=true)/\Cv l<=600:=by
 unfold C0 at h;split at h
 . simp at h
 split at h
 . rename_i h1 h2
   split at h
   . simp at h
   . exact ⟨by omega,List.all_eq_true.1 h2,by omega⟩
 . simp at h
theorem mK (ID:Nat) (hI:2<=ID) (hS:SortOk) (k:Sky) (r:Rig) (l:List Leg) (s:Shp) (hl:l.length<=100) (hok:∀ x∈l,BE x=true) (h1:k.s.length<=1000000) (h2:k.w.length<=1000000) (h3:r.reg.length<=1000000) (hk:BV k=true) (hR:CF r=true) (hg:Ey k r=true) (hs:A6 s=true):
   Cm prog 40 [D2 k r,Cl s (.d (AX s.gas.cs)), .d (Bs l), .cl 41 [.lp ID 0]] (lk [(ID,[.d (.lit (.slice none 0 0))])]) [ID] (.ret (.tup [Ys (F6 (Dt k r l (BN 0 l) s)).2,vi (F6 (Dt k r l (BN 0 l) s)).1])) (lk ([(ID,[hdF 25 (D6 k r l (BN 0 l) s) 1])]++ouF Ca (D6 k r l (BN 0 l) s) 1)):=by
 have h:=pQ hS k r l s hl hok h1 h2 h3 hk hR hg hs
 generalize D6 k r l (BN 0 l) s=ns at*
 generalize F6 (Dt k r l (BN 0 l) s)=e at*
 have hr:∀ l:List Shp,(AH Ca l).map (BJ fun i=>if i=0 then ID else i)=AH Ca l:=fun l=>by
   simp [AH,List.map_flatten,Function.comp_def]
 have:=Cm.rename (fun i=>if i=0 then ID else i) 2 (by intro i j hi hj;split<;>split<;>omega) h (by simp [BW]) (by
   by_cases h0:ns=[]
   . subst h0;simp [BW,Aq,Au]
   . simp [BW,Ak h0,AZ h0]) (by simp)
 have hc:HR (fun i=>if i=0 then ID else i) (V.cl 41 [.lp 0 0])= .cl 41 [.lp ID 0]:=rfl;by_cases h0:ns=[]
 . subst h0
   rw [Aq,Au] at this ⊢;simpa [Ea,HW,hc] using this
 . rw [Ak h0,AZ h0] at this ⊢
   simpa [Ea,HW,hr,hc] using this
theorem qt (hS:SortOk) (k:Sky) (r:Rig) (s:Shp) (l:List Leg) (h1:k.s.length<=1000000) (h2:k.w.length<=1000000) (h3:r.reg.length<=1000000) (h4:s.gas.cs.length<=1000000) (h5:l.length<=1000000) (h6:∀ x∈l,x.acts.length<=1000000):Ct prog 11 [Eu k,Fj r,Cl s (.d (AX s.gas.cs)), .d (Bs l)] (.tup [hdF 25 (Lp (HA k r s l)) 0,Ys (F6 (HA k r s l)).2,vi (F6 (HA k r s l)).1]) (ouF Ca (Lp (HA k r s l)) 0):=by
 have c1:=fn38 s (by omega);have c2:=fn39 l h5 h6;obtain ⟨a,ha⟩:∃ a:Int,(if A6 s then 0 else 52)=a:=⟨_,rfl⟩
 obtain ⟨b,hb⟩:∃ b:Int,C0 l=b:=⟨_,rfl⟩
 rw [ha] at c1;rw [hb] at c2;unfold HA;rw [hb];by_cases hz:JC k r s b=0
 . rw [if_pos hz]
   obtain ⟨hk,hR,hs,hb0,hg⟩:=MD hz;have ha0:a=0:=by rw [<-ha,hs];rfl
   subst ha0 hb0;obtain ⟨q1,q2,q3⟩:=Tv hb;have c3:=fd 12582912 hS k r h1 h2 h3 hk hR hg;have c4:=mK 22020096 (by omega) hS k r l s (by omega) q2 h1 h2 h3 hk hR hg hs
   have hmem:∀ p∈BN 0 l,∃ x,l[p.1]?= some x:=fun p hp=>by
     obtain ⟨x,_,h,_⟩:=zn hp;exact ⟨x,by simpa using h⟩
   have hend:=LQ (k:=k) (r:=r) (s:=s) hmem;have herr:=fun e=>NF (k:=k) (r:=r) (l:=l) (im:=BN 0 l) (s:=s) (e:=e) hmem
   generalize D6 k r l (BN 0 l) s=ns at*
   generalize Dt k r l (BN 0 l) s=FK at*
   rcases hend with ⟨e1,_⟩ | ⟨i,m,x,e,_,_,_,e4⟩
   . subst e1
     simp only [Lp,F6] at c4 ⊢;by_cases h0:ns=[]
     . subst h0
       rw [Aq,Au] at c4 ⊢;refine CB func11 c11 fun E hE=>?_
       simp [p11];refine AL [(7,12582912)] (by kernel_rfl) ?_;simp [inC,Nat.testBit];refine CLa c1 ?_;simp [inC,Nat.testBit];refine CLa c2 ?_;simp [AA,AM,inC,Nat.testBit];refine CDs c3 (by simp [wrL,inC,Nat.testBit]) ?_;simp;refine CRs c4 (by simp) ?_;simp [AA,ev0];apply RZ;simp [results11]
     . rw [Ak h0,AZ h0] at c4 ⊢
       refine CB func11 c11 fun E hE=>?_
       simp [p11];refine AL [(7,12582912)] (by kernel_rfl) ?_;simp [inC,Nat.testBit];refine CLa c1 ?_;simp [inC,Nat.testBit];refine CLa c2 ?_;simp [AA,AM,inC,Nat.testBit];refine CDs c3 (by simp [wrL,inC,Nat.testBit]) ?_;simp;refine CRs c4 (by simp) ?_;simp [AA,ev0];refine AB.by (lk [(0,27262977)]) ?_;simp [results11]
       all_goals first | exact Or.inl (List.all_eq_true.2 BU) | skip
   . have he:=(herr _ e4).1
     subst e4;simp only [Lp,F6,Aq,Au] at c4 ⊢
     generalize FC i m e=ee at*
     by_cases h0:ns=[]
     . subst h0
       rw [Aq,Au] at c4;refine CB func11 c11 fun E hE=>?_
       simp [p11];refine AL [(7,12582912)] (by kernel_rfl) ?_;simp [inC,Nat.testBit];refine CLa c1 ?_;simp [inC,Nat.testBit];refine CLa c2 ?_;simp [AA,AM,inC,Nat.testBit];refine CDs c3 (by simp [wrL,inC,Nat.testBit]) ?_;simp;refine CRs c4 (by simp) ?_;simp [AA,he];refine AL [(3,4194304)] (by kernel_rfl) ?_;simp [AA,inC,Nat.testBit];apply RZ;simp [results11]
     . rw [Ak h0,AZ h0] at c4
       refine CB func11 c11 fun E hE=>?_
       simp [p11];refine AL [(7,12582912)] (by kernel_rfl) ?_;simp [inC,Nat.testBit];refine CLa c1 ?_;simp [inC,Nat.testBit];refine CLa c2 ?_;simp [AA,AM,inC,Nat.testBit];refine CDs c3 (by simp [wrL,inC,Nat.testBit]) ?_;simp;refine CRs c4 (by simp) ?_;simp [AA,he];refine AL [(3,4194304)] (by kernel_rfl) ?_;simp [AA,inC,Nat.testBit];apply RZ;simp [results11]
 . rw [if_neg hz]
   simp only [Lp,F6,Aq,Au,ev0];rcases ABc ha hz with ⟨k1,k2⟩ | ⟨k1,k2,k3,k4,k5,k6⟩
   . have c3:=XK hS k r a b h1 h2 h3 k1
     rw [<-k2]
     generalize QG k r a b=e at*
     refine CB func11 c11 fun E hE=>?_
     simp [p11];refine AL [] (by kernel_rfl) ?_;simp [inC,Nat.testBit];refine CLa c1 ?_;simp [inC,Nat.testBit];refine CLa c2 ?_;simp [AA,AM,inC,Nat.testBit];refine CLb (c3) (by simp [Ap,Hcl,inC,Nat.testBit]) ?_;simp [AA,k1];apply RZ;simp [results11]
   . subst k3 k4
     have c3:=XM hS k r h1 h2 h3 k1 k2 k5;rw [k6];refine CB func11 c11 fun E hE=>?_
     simp [p11];refine AL [] (by kernel_rfl) ?_;simp [inC,Nat.testBit];refine CLa c1 ?_;simp [inC,Nat.testBit];refine CLa c2 ?_;simp [AA,AM,inC,Nat.testBit];refine CLb (c3) (by simp [Ap,Hcl,inC,Nat.testBit]) ?_;simp [AA];apply RZ;simp [results11]
theorem fn11 (hS:SortOk) (k:Sky) (r:Rig) (s:Shp) (l:List Leg) (h1:k.s.length<=1000000) (h2:k.w.length<=1000000) (h3:r.reg.length<=1000000) (h4:s.gas.cs.length<=1000000) (h5:l.length<=1000000) (h6:∀ x∈l,x.acts.length<=1000000):Ct prog 11 [Eu k,Fj r,Cl s (.d (AX s.gas.cs)), .d (Bs l)] (AFC (HA k r s l)) []:=by
 refine Cm.freeze (qt hS k r s l h1 h2 h3 h4 h5 h6) ?_;obtain ⟨ns,hns⟩:∃ ns,Lp (HA k r s l)=ns:=⟨_,rfl⟩
 unfold AFC;rw [hns];have z:∀ (H:Hp) (x:Int),FzC H (vi x) (vi x):=fun H x=>⟨_,rfl, .inl rfl⟩
 refine ⟨?_,⟨z _ _,z _ _,z _ _,z _ _,trivial⟩, .inl rfl,trivial⟩;by_cases h0:ns=[]
 . subst h0
   rw [Aq];exact .inr ⟨rfl,_,rfl⟩
 . rw [Ak h0,AZ h0]
   exact B0 (H:=lk [(0,AH Ca ns)]) (id:=0) WM (l:=ns) (by simp)
theorem fz_d {H:Hp} (d:D):FzC H (.d d) (.d d):=⟨d,rfl,by cases d<;>first | exact Or.inl rfl | rfl⟩
theorem Tf {H:Hp}:∀ ds:List D,AJ (FzC H) (ds.map .d) (ds.map .d)
 | []=>trivial
 | d::ds=>⟨fz_d d,Tf ds⟩
theorem lm {H:Hp} (k:Sky):Fz1 H (Eu k) (Eu k):=Tf [BF k.s,cT k.w]
theorem ln {H:Hp} (r:Rig):Fz1 H (Fj r) (Fj r):=Tf [An r.reg,di r.gl,di r.gh,di r.tank,di r.rsv,di r.lo,di r.hi]
theorem lq {H:Hp} (s:Shp):Fz1 H (Cl s (.d (AX s.gas.cs))) (Cl s (.d (AX s.gas.cs))):=Tf (Ca s)
theorem AU3 (n:Int):Ct prog 24 [vi n] (vsp n n) []:=by
 refine CB func24 c24 fun E hE=>?_
 simp [p24,AA];apply RZ;simp [results24]
theorem fn19 (a b:Int):Ct prog 19 [vi a,vi b] (Fj (plR a b)) []:=by
 refine Cm.freeze (?_:Ct prog 19 [vi a,vi b] (.agg [.ls 0 0 2 2,vi 0,vi 0,vi 0,vi 0,vi a,vi b]) [(0,AH spL plReg)]) ?_
 . refine CB func19 c19 fun E hE=>?_
   simp [p19,AA,AM];refine AB.by (lk [(0,3145728)]) ?_;simp [results19,AH,plReg]
 . have k1:=ANE (H:=lk [(0,AH spL plReg)]) (b:=0) (f:=spL) (sz:=2) (fun _=>rfl) (l:=plReg) (by simp)
   have z:∀ (H:Hp) (x:Int),FzC H (vi x) (vi x):=fun H x=>⟨_,rfl, .inl rfl⟩
   exact ⟨⟨_,rfl,k1⟩,z _ _,z _ _,z _ _,z _ _,z _ _,z _ _,trivial⟩
theorem RD.nilS {Im:Nat->Prop} {W:World} {v:Value} {sz:Nat} (h:RD Im W (.lit (.slice none 0 0)) v):RD Im W (.sl sz []) v:=by
 cases h;exact .sl sz [] none 0 (fun _ _=> .bool true) (by simp) (by simp) (by simp) (by simp) (by simp)
theorem RD.rows {Im:Nat->Prop} {W:World} {sz:Nat} {es es':List (List D)} {v:Value} (h:RD Im W (.sl sz es') v) (hl:es'.length=es.length) (hr:∀ (i:Nat) e e',es[i]?= some e->es'[i]?= some e'->e.length=e'.length/\∀ (j:Nat) x x',e[j]?= some x->e'[j]?= some x'->x'=x\/(x'= .lit (.slice none 0 0)/\∃ z,x= .sl z [])):RD Im W (.sl sz es) v:=by
 cases h with
 | sl _ _ ao cap vs hsz hlen hcap hm hv=>
   rw [hl];have get:∀ (i:Nat) e,es[i]?= some e->∃ e',es'[i]?= some e':=fun i e he=>⟨_,List.getElem?_eq_getElem (by rw [hl];exact (List.getElem?_eq_some_iff.1 he).1)⟩
   have getj:∀ (i:Nat) e e',es[i]?= some e->es'[i]?= some e'->∀ (j:Nat) x,e[j]?= some x->∃ x',e'[j]?= some x':=fun i e e' he he' j x hx=>⟨_,List.getElem?_eq_getElem (by rw [<-(hr i e e' he he').1];exact (List.getElem?_eq_some_iff.1 hx).1)⟩
   refine .sl sz es ao cap vs (fun e he=>?_) (by rw [<-hl];exact hlen) (by rw [<-hl];exact hcap) (fun i e he=>?_) fun i e he j x hx=>?_
   . obtain ⟨i,hi⟩:=List.getElem?_of_mem he
     obtain ⟨e',he'⟩:=get i e hi;rw [(hr i e e' hi he').1];exact hsz e' (List.mem_of_getElem? he')
   . obtain ⟨e',he'⟩:=get i e he
     obtain ⟨a,h1,h2,h3⟩:=hm i e' he';refine ⟨a,h1,h2,fun j x hx=>?_⟩;obtain ⟨x',hx'⟩:=getj i e e' he he' j x hx;exact h3 j x' hx'
   . obtain ⟨e',he'⟩:=get i e he
     obtain ⟨x',hx'⟩:=getj i e e' he he' j x hx;have:=hv i e' he' j x' hx';rcases (hr i e e' he he').2 j x x' hx hx' with h | ⟨h,z,hz⟩
     . rw [<-h];exact this
     . rw [h] at this
       rw [hz];exact RD.nilS this
theorem Cm.le {P:Program} {f:FuncId} {args args':List V} {Hin:Hp} {ks:List Nat} {res:Res} {H1:Hp} (h:Cm P f args Hin ks res H1) (hle:AJ (fun a' a=>∀ (G:Gh) (W:World) (v:Value),R2 G W a' v->R2 G W a v) args' args):Cm P f args' Hin ks res H1:=by
 refine ⟨h.1,fun G W xs him hargs hpre=>h.2 G W xs him ?_ hpre⟩
 exact AJ.of_get (by rw [<-hle.length,hargs.length]) fun i a x ha hx=>by
   obtain ⟨a',ha',hr⟩:=hle.get2 ha;obtain ⟨y,hy,hry⟩:=hargs.get ha';rw [hx] at hy;cases hy;exact hr G W _ hry
abbrev nuV (m v:Int):List V:=[vi m,vi v,vi v,vi 0,vi 0,vi 0,vi 0,vi 0,vi 0,vi 0,Nv]
theorem AQa {k:Sky} {r:Rig} {s:Shp} {m v:Int} {R:V} (h:Ct prog 11 [Eu k,Fj r,Cl s (.d (AX s.gas.cs)), .d (Bs [nuL m v])] R []) (b:Nat):Cm prog 11 [Eu k,Fj r,Cl s (.d (AX s.gas.cs)), .ls b 0 1 11] (lk [(b,nuV m v)]) [] (.ret R) (lk []):=by
 have h2:Ct prog 11 [Eu k,Fj r,Cl s (.d (AX s.gas.cs)), .d (.sl 11 [[di m,di v,di v,di 0,di 0,di 0,di 0,di 0,di 0,di 0, .lit (.slice none 0 0)]])] R []:=by
   refine Cm.le h ⟨fun _ _ _ h=>h,fun _ _ _ h=>h,fun _ _ _ h=>h,fun G W x hx=>?_,trivial⟩;refine RD.rows (es':=[[di m,di v,di v,di 0,di 0,di 0,di 0,di 0,di 0,di 0, .lit (.slice none 0 0)]]) hx rfl fun i e e' he he'=>?_
   cases i with
   | succ i=>simp at he
   | zero=>
     simp at he he';subst he he';refine ⟨rfl,fun j x x' h1 h2=>?_⟩;by_cases hj:j<10
     . left
       have hj10:j=0\/j=1\/j=2\/j=3\/j=4\/j=5\/j=6\/j=7\/j=8\/j=9:=by omega
       rcases hj10 with rfl | rfl | rfl | rfl | rfl | rfl | rfl | rfl | rfl | rfl<;>simp [nuL] at h1 h2<;>rw [<-h1,<-h2]
     . right
       have hl:=(List.getElem?_eq_some_iff.1 h1).1;have e:j=10:=by simp at hl;omega
       subst e;simp [nuL] at h1 h2;exact ⟨h2.symm,4,h1.symm⟩
 have hb:Bor (lk [(b,nuV m v)]) (.ls b 0 1 11) (.d (.sl 11 [[di m,di v,di v,di 0,di 0,di 0,di 0,di 0,di 0,di 0, .lit (.slice none 0 0)]])):=by
   rw [Bk];exact ⟨rfl,rfl,by simp,_,by simp [lk];rfl,rfl⟩
 exact Cm.give h2 ⟨lm k,ln r,lq s,hb,trivial⟩
theorem AVS (l:List Gal):Ct prog 77 [.d (cT l)] (.agg [.ls 0 0 6 5, .d (cT l)]) [(0,AH A5 calmS)]:=by
 have o:=AU3 2500;refine CB func77 c77 fun E hE=>?_
 simp [p77,AA,AM];refine Al (α:=Nat) (fun i=>⟨AO [(2, .lp 0 0),(3, .lp 1 0),(8, .ls 2 0 6 1),(9,vi 6),(10,vi i)],lk [(0,[Nv,Nv]),(1,[if i=0 then Nv else .ls 3 0 i 5, .d (cT l)]),(2,[vi (-500),vi 1500,vi 3500,vi 5500,vi 7500,vi 9000]),(3,AH A5 (calmS.take i))],4⟩) (fun i=>i<=6) (fun i=>6-i) 0 ?_ ?_ ?_
 . omega
 . refine AI.mk hE (lk [(0,0),(1,3145728),(2,5242880)]) _ _ _ ?_ ?_ ?_ ?_ ?_<;>simp [AH]
 . intro i hi
   have w:∀ k:Int,0<=k->k<=8->IntKind.wrap .i64 k=k:=fun k h1 h2=>AD (by omega) (by omega)
   have h9:i=0\/i=1\/i=2\/i=3\/i=4\/i=5\/i=6:=by omega
   rcases h9 with rfl | rfl | rfl | rfl | rfl | rfl | rfl
   . simp [jL,AA,calmS,AH,A5]
     refine CLa o ?_;simp [AA,AM,w];refine ⟨1,by omega,by omega,?_⟩;exact WK hE (lk [(0,0),(1,1),(2,2),(3,11534340)])
   . simp [jL,AA,calmS,AH,A5]
     refine CLa o ?_;simp [AA,AM,w];refine ⟨2,by omega,by omega,?_⟩;exact WK hE (lk [(0,0),(1,1),(2,2),(3,11534340)])
   . simp [jL,AA,calmS,AH,A5]
     refine CLa o ?_;simp [AA,AM,w];refine ⟨3,by omega,by omega,?_⟩;exact WK hE (lk [(0,0),(1,1),(2,2),(3,11534340)])
   . simp [jL,AA,calmS,AH,A5]
     refine CLa o ?_;simp [AA,AM,w];refine ⟨4,by omega,by omega,?_⟩;exact WK hE (lk [(0,0),(1,1),(2,2),(3,11534340)])
   . simp [jL,AA,calmS,AH,A5]
     refine CLa o ?_;simp [AA,AM,w];refine ⟨5,by omega,by omega,?_⟩;exact WK hE (lk [(0,0),(1,1),(2,2),(3,11534340)])
   . simp [jL,AA,calmS,AH,A5]
     refine CLa o ?_;simp [AA,AM,w];refine ⟨6,by omega,by omega,?_⟩;exact WK hE (lk [(0,0),(1,1),(2,2),(3,11534340)])
   . simp [jL,AA]
     refine AB.by (lk [(0,3)]) ?_;simp [results77,calmS]
theorem fn77 (l:List Gal):Ct prog 77 [.d (cT l)] (Eu (G7 l)) []:=by
 refine Cm.freeze (AVS l) ?_;have k1:=ANE (H:=lk [(0,AH A5 calmS)]) (b:=0) hfl5 (l:=calmS) (by simp);exact ⟨⟨_,rfl,k1⟩,⟨_,rfl, .inl rfl⟩,trivial⟩
theorem AT4 (hS:SortOk) (l:List Gal) (sp h a b:Int) (n:Nat) (hl:Dr l=true) (hn:1<=n/\n<=50) (hx:Jr l (h,h)=(a,b)) (hy:Js l (h,h)=(0,0)) (hv:0<=sp/\sp<=1000) (hh: -500<=h/\h<=9000) (hab: -1000<=a/\a<=b/\b<=1000):
   Ct prog 25 [.d (cT l),vi sp,vi h,vi n] (.tup [Cl (ATm sp a b h n) (.d (AX [])),vi 0]) []:=by
 have c:=fn77 l;have pl:=fn19 (-500) 9000;have o1:=AU3 h;have o2:=AU3 sp;have hO:=L0 hl;have f:=fn11 hS (G7 l) (plR (-500) 9000) (nuS 0 0 h) [nuL n sp] (by show (6:Nat)<=_;omega) (by show l.length<=_;have:=hO.len;omega) (by decide) (by show (0:Nat)<=_;omega) (by simp) (by simp [nuL]);rw [AU2 hl hn hx hy hv hh hab] at f;simp only [AFC,Lp,F6] at f;have f:=fun b=>AQa f b
 have g1:=AUY (v:=sp) (a:=a) (b:=b) (h:=h) (n:=n);have g2:=AUN (v:=sp) (a:=a) (b:=b) (h:=h) hn.1
 generalize Ui sp a b h 0 n=T at*
 have w1:IntKind.wrap .i64 ((n:Int)-1)=((n-1:Nat):Int):=by rw [AD (by omega) (by omega)];omega
 have hI:((n-1:Nat):Int)<n:=by omega
 refine CB func25 c25 fun E hE=>?_
 simp [p25];refine CLa c ?_;simp;refine CLa pl ?_;simp;refine CLa o1 ?_;simp [AA];refine CLa o2 ?_;simp [AA,AM];refine CRs (f 13631488) (by simp [nuS,nuP,G7,plR]) ?_;simp [AA,g1,g2,ev0,w1];apply RZ;simp [results25,Ca,ATm,nuS,nuP]
end Go.Proofs.Tryz
namespace Go.Psl
variable {P:Program} {E:Ent}
theorem AI.trans {a b c:St} (h:AI P E a b) (g:AI P E b c):AI P E a c:=fun G x W hI=>by
 obtain ⟨G',h'⟩:=h G x W hI;exact g G' x W h'
def FzE (H:Hp) (v c:V):Prop:=c= .junk\/v=c\/Fz H v c
def FzK (H:Hp) (v c:V):Prop:=v=c\/FzC H v c
def AAa (H:Hp) (ids:List Nat):Hp:=fun i=>if i∈ids then H i else none
theorem FzK.one {G:Gh} {W:World} {H:Hp} (hB:∀ id cs,H id=some cs->HB G W id cs) (hin:De (fun _=>True) AR (fun i=>i) G W {G with Im:=Jw G H} W) {v c:V} {x:Value} (h:FzK H v c) (ha:A1 (fun _=>True) AR v) (hx:R1 G W v x):R1 {G with Im:=Jw G H} W c x:=by
 rcases h with rfl | ⟨y,rfl,hy⟩
 . exact hin.s1 ha hx
 . exact R0.r1 (fz0 hB hy (R2.rv (R1.r2 hx)))
theorem AI.frz (ids:List Nat) {f g:Nat->V} {H h:Hp} {n:Nat} (_:∀ i∈ids,¬ E.stab i) (hf:∀ t,FzE (AAa H ids) (f t) (g t)) (hh:∀ i cs',h i=some cs'->i ∉ ids/\∃ cs,H i=some cs/\AJ (FzK (AAa H ids)) cs cs'):AI P E ⟨f,H,n⟩ ⟨g,h,n⟩:=by
 intro G a W hI
 have hF:∀ id cs,AAa H ids id=some cs->id∈ids/\H id=some cs:=fun id cs e=>by
   unfold AAa at e;split at e
   . rename_i hi;exact ⟨hi,e⟩
   . cases e
 have hB:∀ id cs,AAa H ids id=some cs->HB G W id cs:=fun id cs e=>hI.hp id cs (hF id cs e).2
 have hin:De (fun _=>True) AR (fun i=>i) G W {G with Im:=Jw G (AAa H ids)} W:=⟨fun i _=>⟨rfl,rfl,rfl,rfl⟩,fun x v _ hx=>RD.mono hx fun b hb=>⟨.inl hb,rfl⟩⟩
 have hno:∀ id cs cs',h id=some cs'->H id=some cs->G.ph id=false->¬ G.Im (G.β id)->¬ Jw G (AAa H ids) (G.β id):=by
   rintro id cs cs' h1 h2 hp h3 (h4 | ⟨i,hi,hpi,he⟩)
   . exact h3 h4
   . obtain ⟨x,hx⟩:=Option.isSome_iff_exists.1 hi
     obtain ⟨h5,h6⟩:=hF i x hx;have:i=id:=hI.inj i id (by show (H i).isSome=true;rw [h6];rfl) (by show (H id).isSome=true;rw [h2];rfl) hpi hp he;subst this;exact (hh i cs' h1).1 h5
 refine ⟨{G with Im:=Jw G (AAa H ids)},{fr:=fun t=>?_,wf:=fun t=>?_,hp:=fun id cs' hid=>?_,wh:=fun id cs' hid=>?_,dom:=fun id hid=>?_,inj:=fun i j h1 h2=>?_,own:=fun i h1=>?_,im:=fun b hb=>?_,im0:=fun b hb=> .inl (hI.im0 b hb),keep:=hI.keep,stab:=fun i h1 h2=>?_,sU:=hI.sU,nt:=hI.nt,df:=?_,gl:=hI.gl.mono fun b hb=>⟨.inl hb,rfl⟩}⟩
 . have h1:=hI.fr t
   have h2:=hI.wf t;rcases hf t with h3 | h3 | h3
   . show RV _ W (g t) _
     rw [h3];trivial
   . show RV _ W (g t) _
     rw [<-h3];exact hin.sv (AV.mono (fun _ _=>trivial) (fun _ h=>h) h2) h1
   . exact ku hB h3 h1
 . rcases hf t with h3 | h3 | h3
   . show AV _ _ (g t)
     rw [h3];trivial
   . show AV _ _ (g t)
     rw [<-h3];exact hI.wf t
   . exact AV.mono (fun _ h=>h.elim) (fun _ h=>h) (pX h3)
 . obtain ⟨h1,cs,h2,h3⟩:=hh id cs' hid
   have hl:=h3.length;rcases hI.hp id cs h2 with ⟨h5,h6⟩ | ⟨h5,h0,h6,c,T,h7,h8,h9,h10,h11⟩ | ⟨h5,h0,h6,⟨hz,fr,nt,ps,pa,pb,jmp,rec,h7,h8,h9⟩ | ⟨hz,es,ms,ck,h7,h8,h9⟩ | ⟨hz,bx,bp,bv,h7,h8,h9,h10,h11⟩⟩
   . subst h6
     have:cs'=[]:=by cases cs' with | nil=>rfl | cons a l=>exact h3.elim
     exact .inl ⟨h5,this⟩
   . refine .inr (.inl ⟨h5,h0,hno id cs cs' hid h2 h5 h6,c,T,h7,h8,by omega,?_,?_⟩)
     . rw [<-hl]
       refine AJ.of_get (by rw [<-hl];exact h10.length) fun i y z hy hz=>?_
       obtain ⟨w,hw,hwy⟩:=h3.get2 hy;obtain ⟨u,hu,hwu⟩:=h10.get hw;rw [hz] at hu;cases hu;exact hwy.one hB hin (R1.ac hwu (AC.mono (fun _ _=>trivial) (fun _ h=>h) (hI.wh id cs h2 _ (List.mem_of_getElem? hw)))) hwu
     . refine List.all_eq_true.2 fun y hy=>?_
       obtain ⟨i,hi⟩:=List.getElem?_of_mem hy;obtain ⟨w,hw,hwy⟩:=h3.get2 hi;rcases hwy with rfl | ⟨d,rfl,_⟩
       . exact List.all_eq_true.1 h11 _ (List.mem_of_getElem? hw)
       . rfl
   . subst h7
     match cs',h3 with
     | [c0],h3=>
       rcases h3.1 with h4 | ⟨y,rfl,hy⟩
       . subst h4
         obtain ⟨q1,q2,q3,q4,q5,q6⟩:=h9;refine .inr (.inr ⟨h5,h0,hno id _ _ hid h2 h5 h6, .inl ⟨hz,fr,nt,ps,pa,pb,jmp,rec,rfl,h8,q1,q2,q3,q4,fun t=>?_,q6⟩⟩);have q7:AC _ AR (V.lr fr nt ps pa pb jmp):=hI.wh id _ h2 _ (by simp);exact hin.sv (AV.mono (fun _ _=>trivial) (fun _ h=>h) (q7 t)) (q5 t)
       . exact (show False from hy).elim
     | [],h3=>exact h3.elim
     | _::_::_,h3=>exact h3.2.elim
   . subst h7
     match cs',h3 with
     | [c0,c1],h3=>
       obtain ⟨h31,h32,_⟩:=h3
       have e0:c0=ACA es:=by
         rcases h31 with h4 | ⟨y,rfl,hy⟩
         . exact h4.symm
         . exact (show False from hy).elim
       have e1:c1= .d (.lit (.bool true)):=by
         rcases h32 with h4 | ⟨y,rfl,hy⟩
         . exact h4.symm
         . rcases hy with rfl | ⟨hy,_⟩
           . rfl
           . cases hy
       rw [e0,e1];exact .inr (.inr ⟨h5,h0,hno id _ _ hid h2 h5 h6, .inr (.inl ⟨hz,es,ms,ck,rfl,h8,h9.mono fun b hb=>⟨.inl hb,rfl⟩⟩)⟩)
     | [],h3=>exact h3.elim
     | [_],h3=>exact h3.2.elim
     | _::_::_::_,h3=>exact h3.2.2.elim
   . subst h7
     match cs',h3 with
     | [c0,c1],h3=>
       obtain ⟨h31,h32,_⟩:=h3
       have e1:c1= .d (.lit bp.m):=by
         rcases h32 with h4 | ⟨y,rfl,hy⟩
         . exact h4.symm
         . rcases hy with rfl | ⟨hy,_⟩
           . rfl
           . exact absurd (D.lit.inj hy) h9.m_ne
       rw [e1]
       have hcc:V.isCell c0=true:=by
         rcases h31 with rfl | ⟨d,rfl,_⟩
         . exact h11
         . rfl
       exact .inr (.inr ⟨h5,h0,hno id _ _ hid h2 h5 h6, .inr (.inr ⟨hz,c0,bp,bv,rfl,h8,h9,h31.one hB hin (R1.ac h10 (AC.mono (fun _ _=>trivial) (fun _ h=>h) (hI.wh id _ h2 bx (by simp)))) h10,hcc⟩)⟩)
     | [],h3=>exact h3.elim
     | [_],h3=>exact h3.2.elim
     | _::_::_::_,h3=>exact h3.2.2.elim
 . obtain ⟨h1,cs,h2,h3⟩:=hh id cs' hid
   intro c hc;obtain ⟨i,hi⟩:=List.getElem?_of_mem hc;obtain ⟨w,hw,hwy⟩:=h3.get2 hi;rcases hwy with rfl | ⟨d,rfl,_⟩
   . exact hI.wh id cs h2 _ (List.mem_of_getElem? hw)
   . trivial
 . obtain ⟨cs',hc⟩:=Option.isSome_iff_exists.1 hid
   obtain ⟨h1,cs,h2,h3⟩:=hh id cs' hc;exact hI.dom id (by show (H id).isSome=true;rw [h2];rfl)
 . obtain ⟨x,hx⟩:=Option.isSome_iff_exists.1 h1
   obtain ⟨y,hy⟩:=Option.isSome_iff_exists.1 h2;obtain ⟨_,cs,e1,_⟩:=hh i x hx;obtain ⟨_,ds,e2,_⟩:=hh j y hy;exact hI.inj i j (by show (H i).isSome=true;rw [e1];rfl) (by show (H j).isSome=true;rw [e2];rfl)
 . obtain ⟨x,hx⟩:=Option.isSome_iff_exists.1 h1
   obtain ⟨_,cs,e1,_⟩:=hh i x hx;exact hI.own i (by show (H i).isSome=true;rw [e1];rfl)
 . rcases hb with hb | ⟨i,hi,hp,rfl⟩
   . exact hI.im b hb
   . obtain ⟨x,hx⟩:=Option.isSome_iff_exists.1 hi
     obtain ⟨h5,h6⟩:=hF i x hx;exact ⟨(hI.hp i x h6).lt hp, .inr (hI.own i (by show (H i).isSome=true;rw [h6];rfl) hp)⟩
 . obtain ⟨x,hx⟩:=Option.isSome_iff_exists.1 h2
   obtain ⟨_,cs,e1,_⟩:=hh i x hx;exact hI.stab i h1 (by show (H i).isSome=true;rw [e1];rfl)
 . obtain ⟨ds,h1,h2⟩:=hI.df
   refine ⟨ds,h1,h2.nodup,fun D hD=>?_,h2.nm⟩;obtain ⟨h3,h4,h5⟩:=h2.at' D hD;refine ⟨h3,h4,?_⟩
   rintro (h6 | ⟨i,hi,hp,rfl⟩)
   . exact h5 h6
   . obtain ⟨x,hx⟩:=Option.isSome_iff_exists.1 hi
     exact (hI.hp i x (hF i x hx).2).kind hp h3
theorem AI.frzR (ids:List Nat) {f:Nat->V} {m:List (Nat × V)} {H:Hp} {h:List (Nat × List V)} {n:Nat} (hs:∀ i,¬ E.stab i) (hf:∀ p∈m,FzE (AAa H ids) (f p.1) p.2) (hh:∀ p∈h,p.1 ∉ ids/\∃ cs,H p.1=some cs/\AJ (FzK (AAa H ids)) cs p.2):AI P E ⟨f,H,n⟩ ⟨AO m,lk h,n⟩:=by
 refine AI.frz ids (fun i _=>hs i) (fun t=>?_) fun i cs' hi=>?_
 . show FzE _ _ ((lk m t).getD .junk)
   cases h1:lk m t with
   | none=>exact .inl rfl
   | some v=>
     have:∃ p∈m,p.1=t/\p.2=v:=by
       clear hf;induction m with
       | nil=>simp [lk] at h1
       | cons p r ih=>
         simp only [lk] at h1;split at h1
         . rename_i e;exact ⟨p,by simp,e.symm,Option.some.inj h1⟩
         . obtain ⟨q,hq,e⟩:=ih h1;exact ⟨q,by simp [hq],e⟩
     obtain ⟨p,hp,rfl,rfl⟩:=this;exact hf p hp
 . have:∃ p∈h,p.1=i/\p.2=cs':=by
     clear hh;induction h with
     | nil=>simp [lk] at hi
     | cons p r ih=>
       simp only [lk] at hi;split at hi
       . rename_i e;exact ⟨p,by simp,e.symm,Option.some.inj hi⟩
       . obtain ⟨q,hq,e⟩:=ih hi;exact ⟨q,by simp [hq],e⟩
   obtain ⟨p,hp,rfl,rfl⟩:=this;exact hh p hp
end Go.Psl
namespace Go.Proofs.Tryz
open Go.Psl
open Go.Air
theorem AUO (l:List Gal) (h a b:Int) (hl:Dr l=true) (hx:Jr l (h,h)=(a,b)) (hy:Js l (h,h)=(0,0)) (hh: -500<=h/\h<=9000):Ct prog 23 [.d (cT l),vsp h h] (.tup [wd4 a b 0 0,vi 0]) []:=by
 have hO:=L0 hl;have c:=AVV l (h,h) (by have:=hO.len;omega);have ho:okS (h,h)=true:=CT.2 (by simp only;omega);have e:Lg l (h,h)=0:=by unfold Lg;rw [hl,ho];rfl
 have e2:Nn l (h,h)=((a,b),0,0):=by unfold Nn;rw [if_pos e,hx,hy]
 rw [e,e2] at c;exact c
def exW:List Gal:=[⟨0,10,20,0,0,0⟩]
theorem fn21 (hS:SortOk):Ct prog 21 [] (vb true) []:=by
 have ok:Dr exW=true:=by decide+kernel
 have hx:Jr exW (300,300)=(10,20):=by decide+kernel
 have hy:Js exW (300,300)=(0,0):=by decide+kernel
 have f:=AT4 hS exW 100 300 10 20 10 ok (by omega) hx hy (by omega) (by omega) (by omega);have hw:=AUO exW 300 10 20 ok hx hy (by omega);have t1:=Nd exW 10 20 100 300 6600 (by simp [exW]) ok (by omega) (by omega) (by omega) (by omega) hw;have t2:=Nd exW 10 20 100 300 7200 (by simp [exW]) ok (by omega) (by omega) (by omega) (by omega) hw;rw [show ATu 10 20 100 6600= .tup [vsp 550 600,vi 0] from rfl] at t1;rw [show ATu 10 20 100 7200= .tup [vsp 600 655,vi 0] from rfl] at t2;rw [show ATm 100 10 20 300 10=nuS 6600 7200 300 from rfl] at f;refine Ct.byK 2 gok eok mixed func21 c21 rfl (by simp [ntmps21]) (by simp) (by simp [LD]) fun E hE hE2=>?_
 simp [p21,AA,AM,ADn,ADm];refine ⟨⟨AO [(1, .d (cT exW))],lk [],_⟩,AI.frzR [4194304] hE ?_ nofun,?_⟩
 . intro p hp
   obtain rfl:=List.mem_singleton.1 hp;refine .inr (.inr ?_);exact ANE (b:=4194304) (f:=galL) AQ5 (l:=exW) (by simp [exW,AH,galL,AAa])
 simp;refine CLb (f) (by simp) ?_;simp [AA,nuS,nuP];refine CLb (t1) (by simp) ?_;simp [AA];refine CLb (t2) (by simp) ?_;simp [AA];apply RZ;simp [results21]
def G4 (l:List Gal) (i:Nat):List Gal:=(l.take i).map eastG++l.drop i
theorem AU4 (l:List Gal):G4 l 0=l:=by simp [G4]
theorem AUS (l:List Gal):G4 l l.length=l.map eastG:=by simp [G4]
theorem ATs (l:List Gal) {i:Nat} (hi:i<=l.length):(G4 l i).length=l.length:=by simp [G4];omega
theorem ATz {l:List Gal} {i:Nat} {x:Gal} (h:l[i]?= some x):(G4 l i)[i]?= some x:=by
 have hl:=(List.getElem?_eq_some_iff.1 h).1;unfold G4;rw [List.getElem?_append_right (by rw [List.length_map,List.length_take];omega),List.length_map,List.length_take,List.getElem?_drop,show i+(i-min i l.length)=i by omega];exact h
theorem AUE {l:List Gal} {i:Nat} {x:Gal} (h:l[i]?= some x):(G4 l i).set i (eastG x)=G4 l (i+1):=by
 have hl:=(List.getElem?_eq_some_iff.1 h).1;have hx:=(List.getElem?_eq_some_iff.1 h).2;unfold G4;rw [List.set_append_right i _ (by simp;omega),List.length_map,List.length_take,show i-min i l.length=0 by omega,List.drop_eq_getElem_cons hl,List.take_add_one,h,hx];simp
theorem AUc {l:List Gal} {i:Nat} {x:Gal} (h:l[i]?= some x):AA (AA (AH galL (G4 l i)) (i*6+3) [vi 0,vi 0]) (i*6+5) [vi 0]=AH galL (G4 l (i+1)):=by
 have h0:=ATz h;have e1:AA (AH galL (G4 l i)) (i*6+3) [vi 0,vi 0]=AH galL ((G4 l i).set i ⟨x.h,x.xl,x.xh,0,0,x.g⟩):=Cq AQ5 (y:=⟨x.h,x.xl,x.xh,0,0,x.g⟩) (j:=3) (vs:=[di 0,di 0]) h0 (by simp) rfl
 have h1:((G4 l i).set i ⟨x.h,x.xl,x.xh,0,0,x.g⟩)[i]?= some ⟨x.h,x.xl,x.xh,0,0,x.g⟩:=by
   rw [List.getElem?_set_self ((List.getElem?_eq_some_iff.1 h0).1)]
 have e2:=Cq AQ5 (y:=eastG x) (j:=5) (vs:=[di 0]) h1 (by simp) rfl;rw [List.set_set,AUE h] at e2;rw [e1];exact e2
theorem AUd {l:List Gal} {i:Nat} {x:Gal} (h:l[i]?= some x):(AA (AH galL (G4 l i)) (i*6+1+2) [vi 0,vi 0]).length=l.length*6:=by
 have hl:=(List.getElem?_eq_some_iff.1 h).1;have h0:=ATz h;have e1:AA (AH galL (G4 l i)) (i*6+1+2) [vi 0,vi 0]=AH galL ((G4 l i).set i ⟨x.h,x.xl,x.xh,0,0,x.g⟩):=Cq AQ5 (y:=⟨x.h,x.xl,x.xh,0,0,x.g⟩) (j:=3) (vs:=[di 0,di 0]) h0 (by simp) rfl;rw [e1,Aw AQ5,List.length_set,ATs l (by omega)]
theorem AVQ {s f:Int} {n:Nat} (hs:1<=s/\s<=f/\f<=2000) (_:1<=n/\n<=50):hiT s (6*(n:Int)*s)=60*n/\loT f (6*(n:Int)*f)=60*n:=by
 unfold hiT loT;have e1:10*(6*(n:Int)*s)+s-1=s-1+60*n*s:=by grind
 have e2:10*(6*(n:Int)*f)=60*n*f:=by grind
 rw [e1,e2,Int.add_mul_ediv_right _ _ (by omega),Int.ediv_eq_zero_of_lt (by omega) (by omega),Int.mul_ediv_cancel _ (by omega)];omega
theorem AUe (l:List Gal):(List.map (List.map V.d ∘ galL) l).flatten=AH galL l:=by
 induction l with
 | nil=>rfl
 | cons a r ih=>rw [List.map_cons,List.flatten_cons,ih,CQ];rfl
theorem AUf (l:List Gal):(∀ x:V,x∈AH galL l->x.isCell=true)=True:=eq_true fun x hx=>by
 unfold AH at hx;obtain ⟨y,_,rfl⟩:=List.mem_map.1 hx;rfl
theorem fn5 (hS:SortOk) (l:List Gal) (sp h n:Int):Ct prog 5 [.d (cT l),vi sp,vi h,vi n] (vb true) []:=by
 have d0:=fn21 hS;by_cases h1:(24:Int)<l.length
 . refine Ct.byK 5 gok eok mixed func5 c5 rfl (by simp [ntmps5]) (by simp) (by simp [LD]) fun E hE hE2=>?_
   simp [p5,ADn,ADm];refine CLa d0 ?_;simp [h1];apply RZ;simp [results5]
 have d1:=ASI l (by omega);cases h2:Dr l
 . rw [h2] at d1
   refine Ct.byK 5 gok eok mixed func5 c5 rfl (by simp [ntmps5]) (by simp) (by simp [LD]) fun E hE hE2=>?_
   simp [p5,ADn,ADm];refine CLa d0 ?_;simp [h1];refine CLa d1 ?_;simp;apply RZ;simp [results5]
 rw [h2] at d1;by_cases h3:sp<1
 . refine Ct.byK 5 gok eok mixed func5 c5 rfl (by simp [ntmps5]) (by simp) (by simp [LD]) fun E hE hE2=>?_
   simp [p5,ADn,ADm];refine CLa d0 ?_;simp [h1];refine CLa d1 ?_;simp [h3];apply RZ;simp [results5]
 by_cases h4:1000<sp
 . refine Ct.byK 5 gok eok mixed func5 c5 rfl (by simp [ntmps5]) (by simp) (by simp [LD]) fun E hE hE2=>?_
   simp [p5,ADn,ADm];refine CLa d0 ?_;simp [h1];refine CLa d1 ?_;simp [h3,h4];apply RZ;simp [results5]
 by_cases h5:h < -500
 . refine Ct.byK 5 gok eok mixed func5 c5 rfl (by simp [ntmps5]) (by simp) (by simp [LD]) fun E hE hE2=>?_
   simp [p5,ADn,ADm];refine CLa d0 ?_;simp [h1];refine CLa d1 ?_;simp [h3,h4,h5];apply RZ;simp [results5]
 by_cases h6:9000<h
 . refine Ct.byK 5 gok eok mixed func5 c5 rfl (by simp [ntmps5]) (by simp) (by simp [LD]) fun E hE hE2=>?_
   simp [p5,ADn,ADm];refine CLa d0 ?_;simp [h1];refine CLa d1 ?_;simp [h3,h4,h5,h6];apply RZ;simp [results5]
 by_cases h7:n<1
 . refine Ct.byK 5 gok eok mixed func5 c5 rfl (by simp [ntmps5]) (by simp) (by simp [LD]) fun E hE hE2=>?_
   simp [p5,ADn,ADm];refine CLa d0 ?_;simp [h1];refine CLa d1 ?_;simp [h3,h4,h5,h6,h7];apply RZ;simp [results5]
 by_cases h8:50<n
 . refine Ct.byK 5 gok eok mixed func5 c5 rfl (by simp [ntmps5]) (by simp) (by simp [LD]) fun E hE hE2=>?_
   simp [p5,ADn,ADm];refine CLa d0 ?_;simp [h1];refine CLa d1 ?_;simp [h3,h4,h5,h6,h7,h8];apply RZ;simp [results5]
 have m1:l.length*48<=140737488355328:=by omega
 have m2:l.length<=9223372036854775807:=by omega
 obtain ⟨m,rfl⟩:∃ m:Nat,n=m:=⟨n.toNat,by omega⟩
 refine Ct.byK 5 gok eok mixed func5 c5 rfl (by simp [ntmps5]) (by simp) (by simp [LD]) fun E hE hE2=>?_
 simp [p5,ADn,ADm];refine CLa d0 ?_;simp [h1];refine CLa d1 ?_;simp [AM,h3,h4,h5,h6,h7,h8];rw [AUe];simp [AUf,m1,m2];refine Al (α:=Nat) (fun i=>⟨AO [(0, .ls 0 0 l.length 6),(1,vi sp),(2,vi h),(3,vi m),(9,vb true),(63,vi l.length),(64,vi i)],lk [(0,AH galL (G4 l i))],1⟩) (fun i=>i<=l.length) (fun i=>l.length-i) 0 ?_ ?_ ?_
 . omega
 . rw [AU4]
   exact WK hE (lk [(0,42991616)])
 . intro i hi
   by_cases hI:(i:Int)<l.length
   . obtain ⟨x,hx⟩:∃ x,l[i]?= some x:=⟨_,List.getElem?_eq_getElem (by omega)⟩
     have hw:=@wz i (by omega);have hlen:=Aw AQ5 (G4 l i);rw [ATs l hi] at hlen;have s0:i*6+1+2+2<=l.length*6/\i*6+5+1<=l.length*6:=by omega
     have hsl:=AUd hx;have hp:AA (AA (AH galL (G4 l i)) (i*6+1+2) [vi 0,vi 0]) (i*6+5) [vi 0]=AH galL (G4 l (i+1)):=AUc hx;simp [rh,hI,hw,hlen,s0,hsl,hp];refine ⟨i+1,by omega,by omega,?_⟩;exact WK hE (lk [(0,0)])
   . have hie:i=l.length:=by omega
     subst hie;rw [AUS];simp [rh];refine ⟨⟨AO [(0, .d (cT (l.map eastG))),(1,vi sp),(2,vi h),(3,vi m),(9,vb true)],lk [],_⟩,AI.frzR [0] hE ?_ nofun,?_⟩
     . intro p hp
       simp only [List.mem_cons,List.not_mem_nil,or_false] at hp;rcases hp with rfl | rfl | rfl | rfl | rfl
       . refine .inr (.inr ?_)
         have k:=ANE (b:=0) (f:=galL) (sz:=6) AQ5 (l:=l.map eastG) (H:=AAa (lk [(0,AH galL (l.map eastG))]) [0]) (by simp [AAa]);rw [List.length_map] at k;exact k
       . exact .inr (.inl (by simp))
       . exact .inr (.inl (by simp))
       . exact .inr (.inl (by simp))
       . exact .inr (.inl (by simp))
     have hok:=AVG h2;have hEW:=AU0 hok (AUz l) h;have hlen:(l.map eastG).length<=1000000:=by rw [List.length_map];omega
     generalize l.map eastG=L at*
     obtain ⟨hab,hy⟩:=hEW;obtain ⟨a,b,hx⟩:∃ a b,Jr L (h,h)=(a,b):=⟨_,_,rfl⟩
     rw [hx] at hab;simp only at hab;have hh: -500<=h/\h<=9000:=by omega
     have hs:1<=sp/\sp<=1000:=by omega
     have hm:1<=m/\m<=50:=by omega
     have c1:=AU3 h;have c2:=AUO L h a b hok hx hy hh;have c3:=AT4 hS L sp h a b m hok hm hx hy (by omega) hh hab;have b1:=AUQ (v:=sp) (c:=a) (m:=m) (by omega) (by omega) hm.2;have b2:=AUQ (v:=sp) (c:=b) (m:=m) (by omega) (by omega) hm.2;have w1:IntKind.wrap .i64 (6*(m:Int))=6*m:=AD (by omega) (by omega);have w2:IntKind.wrap .i64 (sp+a)=sp+a:=AD (by omega) (by omega);have w3:IntKind.wrap .i64 (sp+b)=sp+b:=AD (by omega) (by omega);have w4:IntKind.wrap .i64 (6*(m:Int)*(sp+a))=6*m*(sp+a):=AD (by omega) (by omega);have w5:IntKind.wrap .i64 (6*(m:Int)*(sp+b))=6*m*(sp+b):=AD (by omega) (by omega);have w6:IntKind.wrap .i64 (60*(m:Int))=60*m:=AD (by omega) (by omega);by_cases hz:sp+a<1
     . have c4:=Nd L a b sp h 0 hlen hok hab hs hh (by omega) c2
       unfold ATu at c4;rw [if_pos (by omega)] at c4;simp;refine CLa c1 ?_;simp;refine CLa c2 ?_;simp [AA];refine CLa c3 ?_;simp [AA,ATm,nuS,nuP,w1,w2,w3,w4,w5,hz];refine CLa c4 ?_;simp [AA];apply RZ;simp [results5]
     . have q0:0<6*(m:Int)*(sp+a):=Int.mul_pos (by omega) (by omega)
       have q1:6*(m:Int)*(sp+a)<=6*(m:Int)*(sp+b):=Int.mul_le_mul_of_nonneg_left (by omega) (by omega);have c4:=Nd L a b sp h (6*(m:Int)*(sp+a)) hlen hok hab hs hh (by omega) c2;have c5:=Nd L a b sp h (6*(m:Int)*(sp+b)) hlen hok hab hs hh (by omega) c2;obtain ⟨e1,e2⟩:=AVQ (s:=a+sp) (f:=b+sp) (n:=m) (by omega) hm;have e3:=AVM (s:=a+sp) (f:=b+sp) (m:=6*(m:Int)*(sp+a)) (by omega) (by omega);have e4:=AVM (s:=a+sp) (f:=b+sp) (m:=6*(m:Int)*(sp+b)) (by omega) (by omega);unfold ATu at c4 c5;rw [if_neg (by omega)] at c4 c5;rw [Int.add_comm a sp] at*;rw [Int.add_comm b sp] at*;rw [e1] at c4 e3;rw [e2] at c5 e4
       generalize loT (sp+b) (6*(m:Int)*(sp+a))=r1 at*
       generalize hiT (sp+a) (6*(m:Int)*(sp+b))=r2 at*
       have k1:r1<=60*(m:Int):=e3.2.1;have k2:60*(m:Int)<=r2:=e4.2.1;simp;refine CLa c1 ?_;simp;refine CLa c2 ?_;simp [AA];refine CLa c3 ?_;simp [AA,ATm,nuS,nuP,w1,w2,w3,w4,w5,hz];refine CLa c4 ?_;simp [AA];refine CLa c5 ?_;simp [AA,w6,k1,k2];apply RZ;simp [results5]
end Go.Proofs.Tryz
namespace Go.Psl
open Go.Shelf Go.RowKit Go.Lib Go.Sort
variable {P:Program} {ρ:Ren} {α:Type} [Inhabited α]
theorem dJ {W W':World} (hos:W'.os=W.os) (hta:W'.tape=W.tape) (hou:W'.output=W.output) (hdr:W.drawn<=W'.drawn) (hsz:W.heap.size<=W'.heap.size) (hb:∀ b,b<W.heap.size->W'.heap[b]?= W.heap[b]?):
   ∃ q os',W'=grow (W.drewN q) os':=by
 refine ⟨W'.drawn-W.drawn,W'.heap.extract W.heap.size W'.heap.size,?_⟩;obtain ⟨h,t,d,o,u⟩:=W;obtain ⟨h',t',d',o',u'⟩:=W';simp only at hos hta hou hdr hsz hb;subst hos hta hou;simp only [grow,World.drewN];congr 1
 . apply Array.ext_getElem?
   intro i;by_cases hi:i<h.size
   . rw [Array.getElem?_append_left hi,hb i hi]
   . rw [Array.getElem?_append_right (by omega),Array.getElem?_extract]
     split
     . congr 1;omega
     . rw [Array.getElem?_eq_none (by omega)]
 . omega
theorem Mg {enc:α->List Value} {k:Nat} (h0:0<k) (hk:∀ x,(enc x).length=k) (l:List α) (j:Nat) (hj:j<l.length*k):(l.flatMap enc)[j]?= some (flatK enc k l.toArray)[j]! :=by
 rw [get_flatK _ _ _ _ (by simpa using hj),List.flatMap_def,CI h0 _ (fun e he=>by obtain ⟨x,_,rfl⟩:=List.mem_map.1 he;exact hk x)];have h1:j/k<l.length:=by rw [Nat.div_lt_iff_lt_mul h0];exact hj
 have hm:j%k<k:=Nat.mod_lt _ h0;rw [List.getElem?_map,List.getElem?_eq_getElem h1];simp only [Option.map_some,Option.bind_some];have e1:l.toArray[j/k]! =l[j/k]:=by rw [getElem!_pos _ _ (by simpa using h1)];simp
 rw [e1,List.getElem?_eq_getElem (by rw [hk];exact hm),getElem!_pos _ _ (by rw [hk];exact hm)]
omit [Inhabited α] in
theorem N2 {enc:α->List Value} {k:Nat} (hk:∀ x,(enc x).length=k) (l:List α):(l.flatMap enc).length=l.length*k:=by
 rw [List.flatMap_def,B3 (sz:=k) _ (fun e he=>by obtain ⟨x,_,rfl⟩:=List.mem_map.1 he;exact hk x),List.length_map]
theorem Wo {G:Gh} {W:World} {vs:List Value} (h:∀ v∈vs,CU v=true):AJ (R1 G W) (vs.map cV) vs:=by
 induction vs with
 | nil=>trivial
 | cons v vs ih=>exact ⟨RD.lit v (h v (by simp)),ih fun x hx=>h x (by simp [hx])⟩
theorem APg {W:World}:GW (fun _=>False) W:=⟨fun _ h=>h.elim,{W with heap:= #[]},fun g hg=>by simp [AQk] at hg,fun k hk=>by simp at hk⟩
theorem P6 {g:Nat} {enc:α->List Value} {k:Nat} {cf:α->α->Int} (hflat:∀ x,∀ v∈enc x,CU v=true) (hcmp:∀ x y,Ct P g [.agg ((enc x).map cV), .agg ((enc y).map cV)] (.d (.lit (.int .i64 (cf x y)))) []) (blk off size:Nat) (w:World):Go.Proofs.CmpLays P g #[] enc k cf blk off size w:=by
 intro m os dk _ x y;refine ((hcmp x y).2 ⟨fun _=>0,fun _=>0,fun _=>true,fun _=>true,fun _=>False⟩ _ #[.agg (enc x).toArray, .agg (enc y).toArray] APg ⟨⟨_,rfl,Wo (hflat x)⟩,⟨_,rfl,Wo (hflat y)⟩,trivial⟩ ⟨nofun,fun i _ h=>by simp [InH] at h,nofun⟩).mono fun e W' ⟨G',hp⟩=>?_
 refine ⟨?_,dJ hp.os hp.tape hp.output hp.drawn hp.size fun b hb=>hp.block b hb fun ⟨_,h,_⟩=>by simp [InH] at h⟩;cases e with
 | returned v=>rw [Cg hp.rv]
 | _=>exact hp.rv.elim
theorem N3 (L:Go.Proofs.SlLaysF0.n6 P ρ) (hf:fF P (ρ.f 6)) (k:Nat) (h0:0<k) (aE:∀ w,(isAgg (ρ.t 24)).run P w= .ok true w) (zE:∀ w,(Go.sizeOf (ρ.t 24)).run P w= .ok k w) (enc:α->List Value) (hk:∀ x,(enc x).length=k) (hflat:∀ x,∀ v∈enc x,CU v=true) (cf:α->α->Int) (hO:SWO (Go.Proofs.ltOf cf)) (hT:∀ x y,(Go.Proofs.ltOf cf) x y=false->(Go.Proofs.ltOf cf) y x=false->x=y)
   (g:Nat) (eg:∀ args w,(callFunc g args).run P w= .ok (.enter g args) w) (hcmp:∀ x y,Ct P g [.agg ((enc x).map cV), .agg ((enc y).map cV)] (.d (.lit (.int .i64 (cf x y)))) []) (l:List α) (hl0:0<l.length) (hsz:l.length<4611686018427387904):
   Cm P (ρ.f 6) [.ls 0 0 l.length k, .d (.fn g [])] (lk [(0,(l.flatMap enc).map cV)]) [0] (.ret (.tup [])) (lk [(0,((l.mergeSort fun x y=>!(Go.Proofs.ltOf cf) y x).flatMap enc).map cV)]):=by
 refine ⟨hf,fun G W xs hGW hargs hpre=>?_⟩
 obtain ⟨v1,v2,rfl⟩:∃ v1 v2,xs= #[v1,v2]:=by
   have:=hargs.length;obtain ⟨xs⟩:=xs
   match xs,this with
   | [a,b],_=>exact ⟨a,b,rfl⟩
   | [],h=>simp at h
   | [_],h=>simp at h
   | _::_::_::_,h=>simp at h
 obtain ⟨h1,h2,_⟩:=hargs;obtain ⟨hIn,hph⟩:=hpre.st 0 (by simp);obtain ⟨hml,⟨_,h,_⟩ | ⟨hphl,o,cap,rfl,hcap,ho⟩⟩:=h1
 . omega
 obtain ⟨rfl,hbs0⟩:=ho (by omega)
 obtain ⟨cv,rfl,hcv⟩:∃ cv,v2= .func (.func g) #[] cv/\cv.size=0:=by
   cases h2 with
   | fn _ _ cv hl _=>exact ⟨cv,rfl,hl⟩
 obtain rfl:cv= #[]:=Array.eq_empty_of_size_eq_zero hcv;have hHB:=hpre.hb 0 _ rfl;obtain ⟨hnim,c,T,⟨fz,hb,hfz⟩,hbs,hcl,hcr,hca⟩:=hHB.read hphl;have hblk:G.β 0<W.heap.size:=(Array.getElem?_eq_some_iff.1 hb).1;have hfl:=N2 hk l;rw [List.length_map,hfl] at hcl hcr
 have hcell:∀ j,j<l.length*k->c[j]?= some (flatK enc k l.toArray)[j]! :=fun j hj=>by
   have h3:=Mg h0 hk l j hj;have h4:((l.flatMap enc).map cV)[j]?= some (cV (flatK enc k l.toArray)[j]!):=by rw [List.getElem?_map,h3];rfl
   obtain ⟨x,hx,hr⟩:=hcr.get h4;rw [List.getElem?_take,if_pos hj,Array.getElem?_toList] at hx;rw [hx,BO hr.r2.rv]
 have hH:HoldsK enc k W (G.β 0) 0 l.toArray:=fun j hj=>by
   have hj':j<l.length*k:=by simpa using hj
   refine ⟨?_,?_⟩
   . unfold World.cell?
     simp only [Nat.zero_add,hb,Option.isSome_none,Bool.false_eq_true,if_false];exact hcell j hj'
   . unfold World.frozen?
     simp [hb];omega
 have h1c:∀ x,∀ v∈enc x,v.oneCell'=true:=fun x v hv=>RD.oneCell (Im:=fun _=>True) (W:=W) (RD.lit v (hflat x v hv))
 have key:=Go.Proofs.AnyQ.slices_SortFunc_total L k aE zE enc hk h1c cf hO g #[] (G.β 0) 0 cap l.toArray W eg (P6 hflat hcmp _ _ _ _) hH hblk (by simpa using hsz) hT;have hperm:(l.mergeSort fun x y=>!(Go.Proofs.ltOf cf) y x).length=l.length:=List.length_mergeSort _
 generalize (l.mergeSort fun x y=>!(Go.Proofs.ltOf cf) y x)=l' at key hperm ⊢
 have key':Calls P (ρ.f 6) #[.slice (some ⟨G.β 0,0,none⟩) l.length cap, .func (.func g) #[] #[]] W fun e w'=>e= .returned (.tuple #[])/\∃ n os,w'=Go.Proofs.sortWorldK enc k W (G.β 0) 0 n l'.toArray os:=by simpa using key
 refine key'.mono fun e W' ⟨he,n,os,hW'⟩=>?_
 subst he
 have hlent:∀ b,Bm G (lk [(0,(l.flatMap enc).map cV)]) b->b=G.β 0:=fun b ⟨i,hi,_,hbi⟩=>by
   have:i=0:=by simp only [InH,lk] at hi;split at hi;assumption;cases hi
   rw [<-hbi,this]
 have hlent0:Bm G (lk [(0,(l.flatMap enc).map cV)]) (G.β 0):=⟨0,hIn,hph,rfl⟩
 have hheap:∀ b,b<W.heap.size->W'.heap[b]?= if b=G.β 0 then some (.cells (putCells id 0 (flatK enc k l'.toArray) c) T fz) else W.heap[b]?:= fun b hlt=>by
   rw [hW']
   show ((putRow id (Sort.ahead W n) (G.β 0) 0 (flatK enc k l'.toArray)).heap++os)[b]?= _
   rw [Array.getElem?_append_left (by simpa using hlt)]
   show (W.heap.modify (G.β 0) _)[b]?= _
   rw [Array.getElem?_modify];by_cases e:b=G.β 0
   . subst e
     simp [hb,onCells]
   . rw [if_neg (fun h=>e h.symm),if_neg e]
 have hsz':W.heap.size<=W'.heap.size:=by rw [hW'];exact Go.Proofs.size_sortWorldK_c enc k W (G.β 0) 0 n l'.toArray os
 refine ⟨G,⟨by rw [hW'];rfl,by rw [hW'];rfl,by rw [hW'];rfl,by rw [hW'];exact Nat.le_add_right _ _,hsz',fun b hlt hn=>?_,fun b hb=>⟨Nat.lt_of_lt_of_le (hGW.1 b hb) hsz', .inl hb⟩,fun _ h=>h,⟨#[],rfl,trivial⟩,fun _ h=>(by cases h),fun i cs hi=>?_,fun i j hi hj _ _ _=>?_,fun i hi _=>⟨rfl,rfl,(hpre.st i hi).2,rfl⟩⟩⟩
 . rw [hheap b hlt,if_neg (fun e:b=G.β 0=>hn (by rw [e];exact hlent0))]
 . have hi0:i=0/\cs=(l'.flatMap enc).map cV:=by
     simp only [lk] at hi;split at hi
     . rename_i e;cases hi;exact ⟨e,rfl⟩
     . cases hi
   obtain ⟨rfl,rfl⟩:=hi0;have hfl':=N2 hk l';refine ⟨.inr (.inl ⟨hphl.1,hphl.2,hnim,putCells id 0 (flatK enc k l'.toArray) c,T,by rw [hheap _ hblk,if_pos rfl];exact ⟨fz,rfl,by simpa [putCells] using hfz⟩,by simp [putCells,hbs],by simp [putCells,hfl',hperm];exact hcl,?_,?_⟩),fun _=> .inr hlent0,fun x hx=>?_⟩
   . refine AJ.of_get ?_ fun j x y hx hy=>?_
     . simp [putCells,hfl',hperm];omega
     . have hj:j<l'.length*k:=by
         have:=(List.getElem?_eq_some_iff.1 hx).1;simpa [hfl'] using this
       rw [List.getElem?_map,Mg h0 hk l' j hj] at hx;cases hx;rw [List.getElem?_take,List.length_map,hfl',if_pos hj,Array.getElem?_toList] at hy;have hjc:j<c.size:=by rw [hperm] at hj;omega
       simp only [putCells,Array.getElem?_mapIdx,Array.getElem?_eq_getElem hjc,Option.map_some,Nat.zero_le,true_and,Nat.zero_add,size_flatK,List.size_toArray,hj,if_true,Option.some.injEq,Nat.sub_zero,id] at hy;subst hy;have hm:=Mg h0 hk l' j hj;have hmem:=List.mem_of_getElem? hm;obtain ⟨a,_,ha⟩:=List.mem_flatMap.1 hmem;exact RD.lit _ (hflat a _ ha)
   . simp only [List.all_map,List.all_eq_true]
     intro v _;rfl
   . obtain ⟨v,_,rfl⟩:=List.mem_map.1 hx
     trivial
 . have e1:i=0:=by simp only [InH,lk] at hi;split at hi;assumption;cases hi
   have e2:j=0:=by simp only [InH,lk] at hj;split at hj;assumption;cases hj
   rw [e1,e2]
end Go.Psl
namespace Go.Proofs
def Tryz.sortL_ren:Go.Shelf.Ren:=⟨fun | 6=>179 | 15=>195 | 14=>194 | 28=>209 | 29=>210 | 20=>201 | 21=>202 | 22=>203 | 23=>204 | 24=>205 | 25=>206 | 26=>207 | 27=>208 | 46=>213 | 47=>214 | 48=>215 | 49=>216 | 50=>217 | 57=>218 | n=>n,fun | 22=>26 | 24=>149 | 25=>293 | 3=>3 | 39=>227 | 0=>0 | 53=>321 | 55=>296 | 4=>4 | 46=>315 | 45=>314 | 50=>254 | 5=>5 | 9=>9 | 66=>323 | 70=>327 | 76=>329 | 77=>330 | n=>n,fun | n=>n⟩
theorem Tryz.sortL:Go.Proofs.SlLaysF0.n6 Tryz.prog Tryz.sortL_ren:={
 mixed:=by kernel_rfl,
 f6:=⟨Tryz.f179.name,by decide,Tryz.func179.trans (congrArg some (by kernel_rfl))⟩,
 f14:=⟨Tryz.f194.name,by decide,Tryz.func194.trans (congrArg some (by kernel_rfl))⟩,
 f15:=Tryz.func195.trans (congrArg some (by kernel_rfl)),
 f20:=⟨Tryz.f201.name,by decide,Tryz.func201.trans (congrArg some (by kernel_rfl))⟩,
 f21:=⟨Tryz.f202.name,by decide,Tryz.func202.trans (congrArg some (by kernel_rfl))⟩,
 f22:=⟨Tryz.f203.name,by decide,Tryz.func203.trans (congrArg some (by kernel_rfl))⟩,
 f23:=⟨Tryz.f204.name,by decide,Tryz.func204.trans (congrArg some (by kernel_rfl))⟩,
 f24:=⟨Tryz.f205.name,by decide,Tryz.func205.trans (congrArg some (by kernel_rfl))⟩,
 f25:=⟨Tryz.f206.name,by decide,Tryz.func206.trans (congrArg some (by kernel_rfl))⟩,
 f26:=⟨Tryz.f207.name,by decide,Tryz.func207.trans (congrArg some (by kernel_rfl))⟩,
 f27:=⟨Tryz.f208.name,by decide,Tryz.func208.trans (congrArg some (by kernel_rfl))⟩,
 f28:=Tryz.func209.trans (congrArg some (by kernel_rfl)),
 f29:=Tryz.func210.trans (congrArg some (by kernel_rfl)),
 f46:=⟨Tryz.f213.name,by decide,Tryz.func213.trans (congrArg some (by kernel_rfl))⟩,
 f47:=Tryz.func214.trans (congrArg some (by kernel_rfl)),
 f48:=Tryz.func215.trans (congrArg some (by kernel_rfl)),
 f49:=⟨Tryz.f216.name,by decide,Tryz.func216.trans (congrArg some (by kernel_rfl))⟩,
 f50:=⟨Tryz.f217.name,by decide,Tryz.func217.trans (congrArg some (by kernel_rfl))⟩,
 f57:=⟨Tryz.f218.name,by decide,Tryz.func218.trans (congrArg some (by kernel_rfl))⟩,
 t0:=Tryz.underlying0,
 a0:=Tryz.isAgg0,
 z0:=Tryz.sizeOf0,
 v0:=Tryz.zeroValue0,
 t3:=Tryz.underlying3,
 a3:=Tryz.isAgg3,
 z3:=Tryz.sizeOf3,
 v3:=Tryz.zeroValue3,
 t4:=Tryz.underlying4,
 a4:=Tryz.isAgg4,
 z4:=Tryz.sizeOf4,
 v4:=Tryz.zeroValue4,
 t5:=Tryz.underlying5,
 a5:=Tryz.isAgg5,
 z5:=Tryz.sizeOf5,
 v5:=Tryz.zeroValue5,
 t9:=Tryz.underlying9,
 a9:=Tryz.isAgg9,
 z9:=Tryz.sizeOf9,
 v9:=Tryz.zeroValue9,
 t22:=Tryz.underlying26,
 a22:=Tryz.isAgg26,
 z22:=Tryz.sizeOf26,
 v22:=Tryz.zeroValue26,
 t25:=Tryz.underlying293,
 a25:=Tryz.isAgg293,
 z25:=Tryz.sizeOf293,
 v25:=Tryz.zeroValue293,
 t39:=Tryz.underlying227,
 a39:=Tryz.isAgg227,
 z39:=Tryz.sizeOf227,
 v39:=Tryz.zeroValue227,
 t45:=Tryz.underlying314,
 a45:=Tryz.isAgg314,
 z45:=Tryz.sizeOf314,
 v45:=Tryz.zeroValue314,
 t46:=Tryz.underlying315,
 a46:=Tryz.isAgg315,
 z46:=Tryz.sizeOf315,
 v46:=Tryz.zeroValue315,
 t50:=Tryz.underlying254,
 a50:=Tryz.isAgg254,
 z50:=Tryz.sizeOf254,
 v50:=Tryz.zeroValue254,
 t53:=Tryz.underlying321,
 a53:=Tryz.isAgg321,
 z53:=Tryz.sizeOf321,
 v53:=Tryz.zeroValue321,
 t55:=Tryz.underlying296,
 a55:=Tryz.isAgg296,
 z55:=Tryz.sizeOf296,
 v55:=Tryz.zeroValue296,
 t66:=Tryz.underlying323,
 a66:=Tryz.isAgg323,
 z66:=Tryz.sizeOf323,
 v66:=Tryz.zeroValue323,
 t70:=Tryz.underlying327,
 a70:=Tryz.isAgg327,
 z70:=Tryz.sizeOf327,
 v70:=Tryz.zeroValue327,
 t76:=Tryz.underlying329,
 a76:=Tryz.isAgg329,
 z76:=Tryz.sizeOf329,
 v76:=Tryz.zeroValue329,
 t77:=Tryz.underlying330,
 a77:=Tryz.isAgg330,
 z77:=Tryz.sizeOf330,
 v77:=Tryz.zeroValue330}
end Go.Proofs
namespace Go.Proofs.Tryz
open Go.Psl
def Yn (p:Int × Int):List Value:=[.int .i64 p.1, .int .i64 p.2]
theorem AMh (l:List (Int × Int)):(l.flatMap Yn).map cV=BC l:=by
 induction l with
 | nil=>rfl
 | cons a l ih=>
   rw [List.flatMap_cons,List.map_append,ih];rfl
theorem Kq (x y:Int × Int):Go.Proofs.ltOf Dw x y=true↔Go.Geo.lt x y:=by
 unfold Go.Proofs.ltOf;rw [decide_eq_true_eq,PX]
theorem ay (x y:Int × Int):Go.Proofs.ltOf Dw x y=false↔¬ Go.Geo.lt x y:=by
 rw [<-Kq];simp
theorem VT:Go.Sort.SWO (Go.Proofs.ltOf Dw) where
 irrefl x:=by rw [ay];exact Go.Geo.lt_irr x
 trans x y z h1 h2:=by rw [Kq] at*;exact Go.Geo.lt_trans h1 h2
 ntrans x y z h1 h2:=by rw [ay] at*;unfold Go.Geo.lt at*;omega
theorem kX:SortOk:=fun l h1 h2=>by
 have hcmp:∀ x y:Int × Int,Ct prog 180 [.agg ((Yn x).map cV), .agg ((Yn y).map cV)] (.d (.lit (.int .i64 (Dw x y)))) []:=fun x y=>jJ x y
 have h:=N3 Tryz.sortL ⟨_,func179,by kernel_rfl,by decide⟩ 2 (by omega) Tryz.isAgg149 Tryz.sizeOf149 Yn (fun _=>rfl) (fun x v hv=>by simp [Yn] at hv;rcases hv with rfl | rfl<;>rfl) Dw VT
   (fun x y a b=>by
     rw [ay] at a b;rcases Go.Geo.lt_tri x y with h | h | h
     . exact absurd h a
     . exact h
     . exact absurd h b) 180 (Go.Proofs.enters_of func180 (by kernel_rfl) rfl) hcmp l h1 (by omega)
 rw [AMh,AMh] at h;exact h
end Go.Proofs.Tryz
