/- Own lemmas, used by the last text. Conditions: those that each theorem states. -/
import Derived.Test.YtigekgfbcfbobaaGreatDgaf
import Derived.Test.YtigekgfbcfbobaaGreatDgai
import Derived.Test.YtigekgfbcfbobaaGreatDgaj
import Derived.Test.YtigekgfbcfbobaaGreatDgak
set_option maxRecDepth 200000
set_option maxHeartbeats 8000000
namespace Go.Proofs.Tryz
open Go.Psl
open Go.Air
abbrev evV (k l m c:Int):V:= .agg [vi k,vi l,vi m,vi c]
def Jx (k:Sky) (r:Rig) (s:Shp) (l:Leg):V:=if (ER k r s l).1=0 then .tup [Cl (Cj k r s l) (.d (AX (Cj k r s l).gas.cs)),evV 0 0 0 0] else .tup [.agg shZ,evV (ER k r s l).1 0 0 (ER k r s l).2]
theorem fp (k:Sky) (r:Rig) (s:Shp) (l:Leg):AV (InB []) AR (Jx k r s l):=by
 unfold Jx;split<;>simp
theorem pZ (hS:SortOk) (k:Sky) (r:Rig) (s:Shp) (l:Leg) (h1:k.s.length<=1000000) (h2:k.w.length<=1000000) (h3:r.reg.length<=1000000) (hk:BV k=true) (hR:CF r=true) (hg:Ey k r=true) (hs:A6 s=true) (hl:BE l=true):Ct prog 173 [D2 k r,Cl s (.d (AX s.gas.cs)),cF l] (Jx k r s l) []:=by
 have sB:=GT hs;have sX:=AAb hs;have lB:=Mf hl;have rB:=Hy hR;have hW:=mV hk;have b1:=sB.h;have b2:=sB.f;have b3:=sB.w;have b4:=sX.b;have b5:=sX.x;have b6:=sX.y;have l1:=lB.u;have l2:=lB.b;have l3:=lB.x;have l4:=lB.y;have g1:=rB.g;have g2:=rB.t;have o:=jd sB lB;have wb:=kQ hW o;have ge:=Me l2 g1;have p0:0<=l.bl*r.gl:=Int.mul_nonneg (by omega) (by omega);have p1:l.bh*r.gh<=1000000*120:=Int.mul_le_mul (by omega) (by omega) (by omega) (by omega);have p2:l.bl*r.gl<=l.bh*r.gh:=Int.mul_le_mul (by omega) (by omega) (by omega) (by omega);have eg:(Ja (l.bl,l.bh) (r.gl,r.gh) (100,100)).1=DY r l:=rfl
 have gb:(0<=(DY r l).1/\(DY r l).1<=1200000)/\0<=(DY r l).2/\(DY r l).2<=1200001:=by
   rw [<-eg,ge];simp only;omega
 have c1:=AGK s.gas (CR hs);have c2:=LH s.hl s.hh l.ul l.uh (by omega);have c3:=LH s.bl s.bh l.bl l.bh (by omega);have c4:=nv (l.bl,l.bh) (r.gl,r.gh) (100,100)
 have c4':Ct prog 236 [vsp l.bl l.bh,vsp r.gl r.gh,vsp 100 100] (.tup [vsp (DY r l).1 (DY r l).2,vi 0]) []:=by
   unfold vse at c4;rw [eg,ge] at c4;exact c4
 have c5:=LH s.wl s.wh (DY r l).1 (DY r l).2 (by omega);have eh:mhS s l=(min s.hl (s.hl+l.ul),max s.hh (s.hh+l.uh)):=rfl
 have ew:Lg k.w (mhS s l)=0:=by
   unfold Lg;have:Dr k.w=true:=by unfold BV at hk;simp only [Bool.and_eq_true] at hk;exact hk.2
   rw [this,CT.2 (by rw [eh] at o ⊢;simp only at o ⊢;omega)];rfl
 have c6:=fn50 k.w (mhS s l) h2;rw [ew,show Nn k.w (mhS s l)=(Jr k.w (mhS s l),Js k.w (mhS s l)) by unfold Nn;rw [ew];rfl] at c6;have c11:=pC k.s (mhS s l).1 (mhS s l).2 h1;obtain ⟨wx,hwx⟩:∃ wx,Jr k.w (mhS s l)=wx:=⟨_,rfl⟩
 obtain ⟨wy,hwy⟩:∃ wy,Js k.w (mhS s l)=wy:=⟨_,rfl⟩
 rw [hwx,hwy] at c6 wb;have c7:=LH l.axl l.axh wx.1 wx.2 (by omega);have c7':=jM (l.axl+wx.1) (l.axh+wx.2) (by omega);have c8:=LH s.xl s.xh (6*(l.axl+wx.1)) (6*(l.axh+wx.2)) (by omega);have c9:=LH l.ayl l.ayh wy.1 wy.2 (by omega);have c9':=jM (l.ayl+wy.1) (l.ayh+wy.2) (by omega);have c10:=LH s.yl s.yh (6*(l.ayl+wy.1)) (6*(l.ayh+wy.2)) (by omega)
 have en:Cj k r s l={s with
   xl:=s.xl+6*(l.axl+wx.1),xh:=s.xh+6*(l.axh+wx.2),yl:=s.yl+6*(l.ayl+wy.1),yh:=s.yh+6*(l.ayh+wy.2)
   hl:=s.hl+l.ul,hh:=s.hh+l.uh,fl:=s.fl-l.bh,fh:=s.fh-l.bl
   wl:=min (s.wl+(DY r l).1) r.tank,wh:=min (s.wh+(DY r l).2) r.tank
   bl:=s.bl+l.bl,bh:=s.bh+l.bh,gas:=tkQ s.gas}:=by unfold Cj;rw [hwx,hwy]
 obtain ⟨H,hH⟩:∃ H,mhS s l=H:=⟨_,rfl⟩
 obtain ⟨A,hA⟩:∃ A,(atA k.s (mhS s l).1 (mhS s l).2).1=A:=⟨_,rfl⟩
 obtain ⟨AE,hAE⟩:∃ AE,(atA k.s (mhS s l).1 (mhS s l).2).2=AE:=⟨_,rfl⟩
 have c11':Ct prog 56 [.d (BF k.s),vsp H.1 H.2] (.tup [Ox A,vi AE]) []:=by
   rw [<-hA,<-hAE,<-hH];exact c11
 have m1:min s.hl (s.hl+l.ul)=H.1:=by rw [<-hH];rfl
 have m2:max s.hh (s.hh+l.uh)=H.2:=by rw [<-hH];rfl
 rw [hH] at c6;have w1:IntKind.wrap .i64 (s.fl-l.bh)=s.fl-l.bh:=AD (by omega) (by omega);have w2:IntKind.wrap .i64 (s.fh-l.bl)=s.fh-l.bl:=AD (by omega) (by omega)
 generalize DY r l=G at*
 obtain ⟨N,hN⟩:∃ N,Cj k r s l=N:=⟨_,rfl⟩
 rw [hN] at en;have n1:s.xl+6*(l.axl+wx.1)=N.xl/\s.xh+6*(l.axh+wx.2)=N.xh/\s.yl+6*(l.ayl+wy.1)=N.yl/\s.yh+6*(l.ayh+wy.2)=N.yh:=by rw [en];exact ⟨rfl,rfl,rfl,rfl⟩
 have n2:s.hl+l.ul=N.hl/\s.hh+l.uh=N.hh/\s.fl-l.bh=N.fl/\s.fh-l.bl=N.fh:=by rw [en];exact ⟨rfl,rfl,rfl,rfl⟩
 have n3:min (s.wl+G.1) r.tank=N.wl/\min (s.wh+G.2) r.tank=N.wh/\s.bl+l.bl=N.bl/\s.bh+l.bh=N.bh:=by rw [en];exact ⟨rfl,rfl,rfl,rfl⟩
 have n4:tkQ s.gas=N.gas/\s.dry=N.dry/\s.bal=N.bal/\s.drp=N.drp:=by rw [en];exact ⟨rfl,rfl,rfl,rfl⟩
 clear en;obtain ⟨x1,x2,x3,x4⟩:=n1;obtain ⟨x5,x6,x7,x8⟩:=n2;obtain ⟨x9,x10,x11,x12⟩:=n3;obtain ⟨x13,x14,x15,x16⟩:=n4;obtain ⟨CX,hCX⟩:∃ CX,ixF (EK A) N.gas.cs=CX:=⟨_,rfl⟩
 obtain ⟨TR,hTR⟩:∃ TR,Il r.reg (N1 l) (hvS (KG s N) A)=TR:=⟨_,rfl⟩
 obtain ⟨FB,hFB⟩:∃ FB,UC N=FB:=⟨_,rfl⟩
 have hev:ER k r s l=if H.1<r.lo then (1,0) else if r.hi<H.2 then (2,0) else if 0<=CX then (3,CX) else if N.fl<r.rsv then (4,0) else if TR=false then (5,0) else if FB=false then (6,0) else (0,0):=by
   unfold ER;rw [hA,hH,hN,x13,hCX,hTR,hFB,x7]
 have hcel:∀ c∈N.gas.cs,B5 c:=by rw [<-x13];exact Dx (Md (CR hs))
 have hcl:N.gas.cs.length<=12:=by rw [<-x13];exact CS (Md (CR hs))
 have hair:¬ H.1<r.lo->¬ r.hi<H.2->Fx A:=fun q1 q2=>by
   rw [<-hA];rw [hH] at o ⊢;exact aU (jc hk hg (by omega) o (by omega))
 have d1:=qy k r H.1 H.2;have d2:=qz k r H.1 H.2;have d4:=ABU k r N;have d6:=q8 N;rw [hFB] at d6
 have d3:¬ H.1<r.lo->¬ r.hi<H.2->Cm prog 240 [.d (.ref (Ca N)), .d (.ref (WX A)), .lp 8 0] (lk [(8,[vi 0])]) [8] (.ret (vb (decide (0<=CX)))) (lk [(8,[vi CX])]):=fun q1 q2=>by
   have:=Cm.rename (fun _=>8) 1 (by omega) (rA N A 0 hcel (by omega) (hair q1 q2)) (by simp [BW]) (by simp [BW]) (by simp);rw [hCX] at this;simpa [Ea,HW] using this
 have d5:¬ H.1<r.lo->¬ r.hi<H.2->¬ N.fl<r.rsv->Ct prog 244 [.d (.ref (Ca N)), .d (.ref (Ca s)), .d (.ref (Pi l)), .d (.ref [.ref (LI k r)]), .d (.ref (WX A))] (vb (!TR)) []:=fun q1 q2 q3=>by
   have v1:=rB.v;have v2:=rB.h
   have hbb:VU (KG s N):=by
     unfold KG;refine ⟨by simp only;omega,by simp only;omega,by simp only;omega,?_,?_,hcl,hcel⟩
     . simp only;rw [<-x14];exact sB.d
     . simp only;rw [<-x15];exact sB.b
   have:=rC hS k r N s l A h3 lB hbb (hair q1 q2);rw [hTR] at this;exact this
 simp only [doV] at c1;obtain ⟨RV,hRV⟩:∃ RV,Jx k r s l=RV:=⟨_,rfl⟩
 have hav:AV (InB []) AR RV:=by rw [<-hRV];exact fp k r s l
 rw [hRV];refine Ct.by gok eok mixed func173 c173 rfl (by simp [ntmps173]) (by simp) (by simp [LD];exact hav) fun E hE=>?_
 simp [p173,AA];refine CLa c1 ?_;simp [AA];refine CLa c2 ?_;simp [AA,m1,m2,inC,Nat.testBit,w1,w2];refine CLa c3 ?_;simp [AA];refine AL [(13,80740352)] (by kernel_rfl) ?_;simp [AA,inC,Nat.testBit];refine CLa c4' ?_;simp [AA,inC,Nat.testBit];refine CLa c5 ?_;simp [AA];refine AL [(20,6291456),(23,6291456)] (by kernel_rfl) ?_;simp [AA,inC,Nat.testBit];refine AL [(11,125829120)] (by kernel_rfl) ?_;simp [inC,Nat.testBit];refine CLa c6 ?_;simp [AA,inC,Nat.testBit];refine CLa c7 ?_;simp [inC,Nat.testBit];refine CLa c7' ?_;simp [inC,Nat.testBit];refine CLa c8 ?_;simp [inC,Nat.testBit];refine CLa c9 ?_;simp [inC,Nat.testBit];refine CLa c9' ?_;simp [inC,Nat.testBit];refine CLa c10 ?_;simp [AA];refine AL [(11,164626432)] (by kernel_rfl) ?_;simp [inC,Nat.testBit];refine CLa c11' ?_;simp [AA,AM,inC,Nat.testBit];refine Al (α:=Nat) (fun j=>⟨AO [(3, .lp 0 0),(4, .lp 1 0),(5, .lp 2 0),(6, .lp 3 0),(7, .lp 4 0),(8, .lp 5 0),(9, .lp 6 0),(14, .lp 7 0),(16, .lp 8 0),(164, .ls 9 0 6 2),(165,vi 6),(166,vi j)],lk [(0,[D2 k r]),(1,shB s),(2,lgB l),(3,shZ),(4,[vi 0,vi 0,vi 0,vi 0]),(5,shB N),(6,[vi H.1,vi H.2]),(7,[vi A.pl,vi A.ph,vi A.tl,vi A.th]),(8,[vi (if j<=2 then 0 else CX)]),(9,[vi 1, .cl 238 [.lp 6 0, .lp 0 0],vi 2, .cl 239 [.lp 6 0, .lp 0 0],vi 3, .cl 240 [.lp 5 0, .lp 7 0, .lp 8 0],vi 4, .cl 243 [.lp 5 0, .lp 0 0],vi 5, .cl 244 [.lp 5 0, .lp 1 0, .lp 2 0, .lp 0 0, .lp 7 0],vi 6, .cl 246 [.lp 5 0]])],10⟩) (fun j=>j<=6/\(0<j->¬ H.1<r.lo)/\(1<j->¬ r.hi<H.2)/\(2<j->¬ 0<=CX)/\(3<j->¬ N.fl<r.rsv)/\(4<j->TR=true)/\(5<j->FB=true)) (fun j=>6-j) 0 ?_ ?_ ?_
 . omega
 . refine AI.mk hE (lk [(0,0),(1,1048576),(2,2097152),(3,3145728),(4,4194304),(5,6291456),(6,40894464),(7,164626432),(8,167772160),(9,181403648)]) _ _ _ ?_ ?_ ?_ ?_ ?_<;>simp [x1,x2,x3,x4,x5,x6,x7,x8,x9,x10,x11,x12,x13,x14,x15,x16]
 . rintro j ⟨hj,q1,q2,q3,q4,q5,q6⟩
   match j,hj,q1,q2,q3,q4,q5,q6 with
   | 0,_,q1,q2,q3,q4,q5,q6=>
     have z:IntKind.wrap .i64 1=1:=by decide
     by_cases t:H.1<r.lo
     . have e:ER k r s l=(1,0):=by rw [hev,if_pos t]
       simp [Cs,AA];refine CLa d1 ?_;simp [t];refine AL [(6,3)] (by kernel_rfl) ?_;simp [AA,inC,Nat.testBit];apply RZ;simp [results173,<-hRV,Jx,e]
     . simp [Cs,AA]
       refine CLa d1 ?_;simp [t,z];refine ⟨1,⟨by omega,fun _=>by omega,fun h=>absurd h (by omega),fun h=>absurd h (by omega),fun h=>absurd h (by omega),fun h=>absurd h (by omega),fun h=>absurd h (by omega)⟩,by omega,?_⟩;exact WK hE (lk [(0,0),(1,1),(2,2),(3,3),(4,4),(5,5),(6,6),(7,7),(8,8),(9,9)])
   | 1,_,q1,q2,q3,q4,q5,q6=>
     have q1:=q1 (by omega);have z:IntKind.wrap .i64 2=2:=by decide
     by_cases t:r.hi<H.2
     . have e:ER k r s l=(2,0):=by rw [hev,if_neg q1,if_pos t]
       simp [Cs,AA];refine CLa d2 ?_;simp [t];refine AL [(6,3)] (by kernel_rfl) ?_;simp [AA,inC,Nat.testBit];apply RZ;simp [results173,<-hRV,Jx,e]
     . simp [Cs,AA]
       refine CLa d2 ?_;simp [t,z];refine ⟨2,⟨by omega,fun _=>by omega,fun _=>by omega,fun h=>absurd h (by omega),fun h=>absurd h (by omega),fun h=>absurd h (by omega),fun h=>absurd h (by omega)⟩,by omega,?_⟩;exact WK hE (lk [(0,0),(1,1),(2,2),(3,3),(4,4),(5,5),(6,6),(7,7),(8,8),(9,9)])
   | 2,_,q1,q2,q3,q4,q5,q6=>
     have q1:=q1 (by omega);have q2:=q2 (by omega);have z:IntKind.wrap .i64 3=3:=by decide
     by_cases t:0<=CX
     . have e:ER k r s l=(3,CX):=by rw [hev,if_neg q1,if_neg q2,if_pos t]
       simp [Cs,AA];refine CRs (d3 q1 q2) (by simp) ?_;simp [t];refine AL [(6,3)] (by kernel_rfl) ?_;simp [AA,inC,Nat.testBit];apply RZ;simp [results173,<-hRV,Jx,e,Int.max_eq_left t]
     . simp [Cs,AA]
       refine CRs (d3 q1 q2) (by simp) ?_;simp [t,z];refine ⟨3,⟨by omega,fun _=>by omega,fun _=>by omega,fun _=>by omega,fun h=>absurd h (by omega),fun h=>absurd h (by omega),fun h=>absurd h (by omega)⟩,by omega,?_⟩;exact WK hE (lk [(0,0),(1,1),(2,2),(3,3),(4,4),(5,5),(6,6),(7,7),(8,8),(9,9)])
   | 3,_,q1,q2,q3,q4,q5,q6=>
     have q1:=q1 (by omega);have q2:=q2 (by omega);have q3:=q3 (by omega);have z:IntKind.wrap .i64 4=4:=by decide
     have mx:max CX 0=0:=by omega
     by_cases t:N.fl<r.rsv
     . have e:ER k r s l=(4,0):=by rw [hev,if_neg q1,if_neg q2,if_neg q3,if_pos t]
       simp [Cs,AA];refine CLa d4 ?_;simp [t];refine AL [(6,3)] (by kernel_rfl) ?_;simp [AA,inC,Nat.testBit];apply RZ;simp [results173,<-hRV,Jx,e,mx]
     . simp [Cs,AA]
       refine CLa d4 ?_;simp [t,z];refine ⟨4,⟨by omega,fun _=>by omega,fun _=>by omega,fun _=>by omega,fun _=>by omega,fun h=>absurd h (by omega),fun h=>absurd h (by omega)⟩,by omega,?_⟩;exact WK hE (lk [(0,0),(1,1),(2,2),(3,3),(4,4),(5,5),(6,6),(7,7),(8,8),(9,9)])
   | 4,_,q1,q2,q3,q4,q5,q6=>
     have q1:=q1 (by omega);have q2:=q2 (by omega);have q3:=q3 (by omega);have q4:=q4 (by omega);have z:IntKind.wrap .i64 5=5:=by decide
     have mx:max CX 0=0:=by omega
     by_cases t:TR=false
     . have e:ER k r s l=(5,0):=by rw [hev,if_neg q1,if_neg q2,if_neg q3,if_neg q4,if_pos t]
       simp [Cs,AA];refine CLa (d5 q1 q2 q4) ?_;simp [t];refine AL [(6,3)] (by kernel_rfl) ?_;simp [AA,inC,Nat.testBit];apply RZ;simp [results173,<-hRV,Jx,e,mx]
     . simp [Cs,AA]
       refine CLa (d5 q1 q2 q4) ?_;simp [t,z];refine ⟨5,⟨by omega,fun _=>by omega,fun _=>by omega,fun _=>by omega,fun _=>by omega,fun h=>absurd h (by omega)⟩,by omega,?_⟩;exact WK hE (lk [(0,0),(1,1),(2,2),(3,3),(4,4),(5,5),(6,6),(7,7),(8,8),(9,9)])
   | 5,_,q1,q2,q3,q4,q5,q6=>
     have q1:=q1 (by omega);have q2:=q2 (by omega);have q3:=q3 (by omega);have q4:=q4 (by omega);have q5:=q5 (by omega);have z:IntKind.wrap .i64 6=6:=by decide
     have mx:max CX 0=0:=by omega
     by_cases t:FB=false
     . have e:ER k r s l=(6,0):=by rw [hev,if_neg q1,if_neg q2,if_neg q3,if_neg q4,if_neg (by rw [q5];simp),if_pos t]
       simp [Cs,AA];refine CLa d6 ?_;simp [t];refine AL [(6,3)] (by kernel_rfl) ?_;simp [AA,inC,Nat.testBit];apply RZ;simp [results173,<-hRV,Jx,e,mx]
     . simp [Cs,AA]
       refine CLa d6 ?_;simp [t,z];refine ⟨6,⟨by omega,fun _=>by omega,fun _=>by omega,fun _=>by omega,fun _=>by omega,fun _=>q5⟩,by omega,?_⟩;exact WK hE (lk [(0,0),(1,1),(2,2),(3,3),(4,4),(5,5),(6,6),(7,7),(8,8),(9,9)])
   | 6,_,q1,q2,q3,q4,q5,q6=>
     have q1:=q1 (by omega);have q2:=q2 (by omega);have q3:=q3 (by omega);have q4:=q4 (by omega);have q5:=q5 (by omega);have q6:=q6 (by omega);have e:ER k r s l=(0,0):=by rw [hev,if_neg q1,if_neg q2,if_neg q3,if_neg q4,if_neg (by rw [q5];simp),if_neg (by rw [q6];simp)]
     simp [Cs,AA];apply RZ;simp [results173,<-hRV,Jx,e,hN]
   | j+7,hj,_,_,_,_,_,_=>omega
def RB (a:Except (Int × Int × Int) Shp):V:=match a with
 | .ok n=> .tup [Cl n (.d (AX n.gas.cs)),evV 0 0 0 0,vi 0]
 | .error e=> .tup [.agg shZ,evV e.2.1 0 0 e.2.2,vi e.1]
theorem ko (hS:SortOk) (k:Sky) (r:Rig) (s:Shp) (l:Leg) (h1:k.s.length<=1000000) (h2:k.w.length<=1000000) (h3:r.reg.length<=1000000) (hk:BV k=true) (hR:CF r=true) (hg:Ey k r=true) (hs:A6 s=true) (hl:BE l=true):Ct prog 99 [D2 k r,Cl s (.d (AX s.gas.cs)),cF l] (RB (HK k r s l)) []:=by
 have c1:=pZ hS k r s l h1 h2 h3 hk hR hg hs hl;unfold Jx at c1;unfold HK;by_cases hz:(ER k r s l).1=0
 . rw [if_pos hz] at c1 ⊢
   have ebh:s.bh+l.bh=(Cj k r s l).bh:=rfl;rw [ebh]
   generalize Cj k r s l=N at*
   by_cases hf:1000000000000<N.bh
   . rw [if_pos hf]
     simp only [RB];refine CB func99 c99 fun E hE=>?_
     simp [p99];refine CLa c1 ?_;simp [AA,hf];refine AL [(2,2097152)] (by kernel_rfl) ?_;simp [AA,inC,Nat.testBit];apply RZ;simp [results99]
   . rw [if_neg hf]
     simp only [RB];refine CB func99 c99 fun E hE=>?_
     simp [p99];refine CLa c1 ?_;simp [AA,hf];refine AL [(2,2097152)] (by kernel_rfl) ?_;simp [AA,inC,Nat.testBit];apply RZ;simp [results99]
 . rw [if_neg hz] at c1 ⊢
   simp only [RB]
   generalize ER k r s l=e at*
   refine CB func99 c99 fun E hE=>?_
   simp [p99];refine CLa c1 ?_;simp [AA,hz];refine AL [(2,2097152)] (by kernel_rfl) ?_;simp [AA,inC,Nat.testBit];apply RZ;simp [results99]
theorem kp (hS:SortOk) (k:Sky) (r:Rig) (h1:k.s.length<=1000000) (h2:k.w.length<=1000000) (h3:r.reg.length<=1000000) (hk:BV k=true) (hr:CF r=true) (hg:Ey k r=true):Cm prog 98 [Eu k,Fj r, .ls 0 0 2 1] (lk [(0,[vi 0,vi 0])]) [] (.ret (.tup [.lp 0 0,vi 0])) (lk [(0,(LI k r).map .d)]):=by
 have c1:=yy k h1 h2;have c2:=mH hS r (by omega);have c3:=SJ 0 0 0 0;rw [hk] at c1;rw [hr] at c2;have hl:=(Sr hk).len;obtain ⟨x,hx⟩:∃ x,k.s[0]?= some x:=⟨_,List.getElem?_eq_getElem (by omega)⟩
 obtain ⟨y,hy⟩:∃ y,k.s[k.s.length-1]?= some y:=⟨_,List.getElem?_eq_getElem (by omega)⟩
 have c4:=Pw x.h y.h [r.lo,r.hi] (by simp);rw [XL (Hy hr) hx hy,hg] at c4;have w1:IntKind.wrap .i64 ((k.s.length:Int)-1)=((k.s.length-1:Nat):Int):=by rw [AD (by omega) (by omega)];omega
 have hI0:(0:Int)<k.s.length:=by omega
 obtain ⟨j,hj⟩:∃ j,k.s.length-1=j:=⟨_,rfl⟩
 rw [hj] at w1 hy;have hI1:(j:Int)<k.s.length:=by omega
 refine CM 1 func98 c98 fun E hs hE=>?_
 simp [p98,inC,Nat.testBit];refine CLa c1 ?_;simp [inC,Nat.testBit];refine CLa c2 ?_;simp [AA,AM];refine CLb (c3) (by simp [tM]) ?_;simp [AA,AM,inC,Nat.testBit,hx,hy,w1];refine CLb (c4) (by simp [Ap]) ?_;simp [AA];refine AB.by (lk [(0,40894465)]) ?_;simp [results98]
theorem fd (ID:Nat) (hS:SortOk) (k:Sky) (r:Rig) (h1:k.s.length<=1000000) (h2:k.w.length<=1000000) (h3:r.reg.length<=1000000) (hk:BV k=true) (hr:CF r=true) (hg:Ey k r=true):Cm prog 98 [Eu k,Fj r, .ls ID 0 2 1] (lk [(ID,[vi 0,vi 0])]) [] (.ret (.tup [D2 k r,vi 0])) (lk []):=by
 have h:=Cm.freeze (r':= .tup [D2 k r,vi 0]) (kp hS k r h1 h2 h3 hk hr hg) (by
   refine ⟨?_, .inl rfl,trivial⟩;exact ⟨_,rfl,by simp⟩)
 have h0:Cm prog 98 [Eu k,Fj r, .ls 0 0 2 1] (lk [(0,[vi 0,vi 0])]) [] (.ret (.tup [D2 k r,vi 0])) (lk []):=h;have:=Cm.rename (fun _=>ID) 1 (by omega) h0 (by simp [BW]) (by simp [BW]) (by simp);simpa [Ea,HW] using this
abbrev Ys (e:Evt):V:=evV e.1 e.2.1 e.2.2.1 e.2.2.2
def Ku (i m:Int) (a:Except (Int × Int × Int) Shp):V:=match a with
 | .ok n=> .tup [Cl n (.d (AX n.gas.cs)),evV 0 0 0 0,vi 0]
 | .error e=> .tup [.agg shZ,Ys (if e.1=54 then (e.2.1,i,m,e.2.2) else ev0),vi e.1]
theorem MD {k:Sky} {r:Rig} {s:Shp} {e:Int} (h:JC k r s e=0):BV k=true/\CF r=true/\A6 s=true/\e=0/\Ey k r=true:=by
 unfold JC at h;cases h1:BV k
 . rw [h1] at h;simp at h
 cases h2:CF r
 . rw [h1,h2] at h;simp at h
 cases h3:A6 s
 . rw [h1,h2,h3] at h;simp at h
 by_cases h4:e=0
 . cases h5:Ey k r
   . rw [h1,h2,h3,h5] at h;simp [h4] at h
   . exact ⟨rfl,rfl,rfl,h4,rfl⟩
 . rw [h1,h2,h3] at h;simp [h4] at h
end Go.Proofs.Tryz
namespace Go.Psl
variable {P:Program} {Γ:Tys} {eqs:Eqs} {E:Ent}
def CX (ks xs:List Nat) (c:V):Prop:=match c with
 | .lr fr _ _ _ _ _=>∀ t,AV (·∈ks) AR (fr t)
 | c=>W1 (rid (ks++xs)) c c
structure BT (ks xs:List Nat) (L:List (Nat × List V)):Prop where
 names:L.map (·.1)=ks++xs
 nd:(ks++xs).Nodup
 cells:∀ p∈L,p.2≠[]/\Bv p.2/\∀ c∈p.2,CX ks xs c
section
variable {ks xs xs1:List Nat} {L L1:List (Nat × List V)}
theorem BT.lk (h:BT ks xs L) {p:Nat × List V} (hp:p∈L):Go.Psl.lk L p.1=some p.2:=AF8 (by rw [h.names];exact h.nd) p hp
theorem BT.mem (h:BT ks xs L) {p:Nat × List V} (hp:p∈L):p.1∈ks++xs:=by rw [<-h.names];exact List.mem_map.2 ⟨p,hp,rfl⟩
theorem BT.isIn (h:BT ks xs L) {i:Nat}:(Go.Psl.lk L i).isSome=true↔i∈ks++xs:=by
 constructor
 . intro hi
   obtain ⟨x,hx⟩:=Option.isSome_iff_exists.1 hi;exact h.mem (p:=(i,x)) (B4 hx)
 . intro hi
   rw [<-h.names] at hi;obtain ⟨p,hp,rfl⟩:=List.mem_map.1 hi;rw [h.lk hp];rfl
def rx (ks xs:List Nat) (b i:Nat):Option Nat:=if i∈ks then some i else if i∈xs then some (b+i) else none
theorem Lz {b i:Nat} (h:i∈ks++xs):rx ks xs b i=some (sg ks b i):=by
 unfold rx sg;by_cases hk:i∈ks
 . simp [hk]
 . rcases List.mem_append.1 h with h | h
   . exact absurd h hk
   . simp [hk,h]
theorem S4 {b:Nat} {c:V} (h:W0 (rid (ks++xs)) c c):W0 (rx ks xs b) (DR (sg ks b) c) c:=by
 cases c with
 | junk=>trivial
 | d x=>rfl
 | lp i o=>
   obtain ⟨j,hj,_⟩:=h;exact ⟨_,Lz (Dz hj).1,rfl⟩
 | ls i o l z=>
   unfold W0 at h;simp only at h;split at h
   . rename_i j hj
     simp only [W0,Lz (Dz hj).1];rfl
   . cases h.2
 | yl i=>
   obtain ⟨j,hj,_⟩:=h;exact ⟨_,Lz (Dz hj).1,rfl⟩
 | lr=>exact False.elim h
 | cl f cs=>exact False.elim h
 | agg cs=>exact False.elim h
 | tup cs=>exact False.elim h
theorem KZ {α:Type} {R:α->α->Prop} {f:α->α}:∀ {l:List α},(∀ x∈l,R (f x) x)->AJ R (l.map f) l
 | [],_=>trivial
 | a::l,h=>⟨h a (by simp),KZ fun x hx=>h x (List.mem_cons_of_mem _ hx)⟩
theorem ou {b:Nat} {c:V} (h:CX ks xs c):WC (rx ks xs b) (BJ (sg ks b) c) c:=by
 cases c with
 | lr fr nt ps pa pb jmp=>
   have h:∀ t,AV (·∈ks) AR (fr t):=h;refine ⟨?_,fun t=>AV.mono (fun i hi=>by simp [rx,hi]) (fun _ h=>h) (h t)⟩;simp only [BJ];congr 1
   funext t;exact R9 (h t) b
 | cl f cs=>
   obtain ⟨cs',e,h2⟩:=h;cases e;have h3:=GY h2;exact ⟨_,rfl,KZ fun x hx=>S4 (h3 x hx)⟩
 | junk=>trivial
 | d x=>rfl
 | lp i o=>exact S4 (c:= .lp i o) h
 | ls i o l z=>exact S4 (c:= .ls i o l z) h
 | yl i=>exact S4 (c:= .yl i) h
 | agg cs=>exact False.elim h
 | tup cs=>exact False.elim h
theorem Mw {c:V} (h:W1 (rid ks) c c):A1 (·∈ks) AR c:=by
 cases c with
 | cl f cs=>
   obtain ⟨cs',e,h2⟩:=h;cases e;exact fun c hc=>(FH (GY h2 c hc)).1
 | junk=>exact trivial
 | d x=>exact trivial
 | lp i o=>exact (FH (c:= .lp i o) h).1
 | ls i o l z=>exact (FH (c:= .ls i o l z) h).1
 | yl i=>exact (FH (c:= .yl i) h).1
 | lr=>exact False.elim h
 | agg cs=>exact False.elim h
 | tup cs=>exact False.elim h
theorem ie {c:V} (h:CX ks xs c):AC (·∈ks++xs) AR c:=by
 cases c with
 | lr fr nt ps pa pb jmp=>exact fun t=>AV.mono (fun i hi=>List.mem_append_left _ hi) (fun _ h=>h) (h t)
 | cl f cs=>exact Mw (c:= .cl f cs) h
 | junk=>exact trivial
 | d x=>exact trivial
 | lp i o=>exact Mw (c:= .lp i o) h
 | ls i o l z=>exact Mw (c:= .ls i o l z) h
 | yl i=>exact Mw (c:= .yl i) h
 | agg cs=>exact False.elim h
 | tup cs=>exact False.elim h
theorem BT.ids (h:BT ks xs L) {n:Nat} (hn:∀ i∈ks++xs,i<n):A7 n L:=by
 have key:∀ M:List (Nat × List V),(∀ p∈M,p∈L)->A7 n M:=by
   intro M;induction M with
   | nil=>intro _;trivial
   | cons p r ih=>
     intro hM;have hp:=hM p (by simp);exact ⟨hn _ (h.mem hp),fun c hc=>AC.mono hn (fun _ h=>h) (ie ((h.cells p hp).2.2 c hc)),ih fun q hq=>hM q (List.mem_cons_of_mem _ hq)⟩
 exact key L fun _ h=>h
theorem BT.res (h:BT ks xs L):∀ p∈L,∀ c∈p.2,AC (InB L) AR c:=fun p hp c hc=>AC.mono (fun _ hi=>h.isIn.2 hi) (fun _ h=>h) (ie ((h.cells p hp).2.2 c hc))
theorem Oe {H:Hp} {b:Nat} (hL:BT ks xs L) (hL1:BT ks xs1 L1) (hb:∀ i∈ks++xs,i<b) {p:Nat × List V} (hp:p∈L1):BI H b (Go.Psl.lk L) ks (Go.Psl.lk L1) (sg ks b p.1)=some (p.2.map (BJ (sg ks b))):=by
 have h1:=hL1.lk hp;by_cases hk:p.1∈ks
 . simp only [BI,sg,hk,if_true,h1,Option.map_some]
 . have e:sg ks b p.1=b+p.1:=by simp [sg,hk]
   have n1:¬ (b+p.1∈ks):=fun h=>by have:=hb _ (List.mem_append_left _ h);omega
   have n2:(Go.Psl.lk L (b+p.1)).isSome=false:=by
     cases hc:(Go.Psl.lk L (b+p.1)).isSome with
     | false=>rfl
     | true=>have:=hb _ (hL.isIn.1 hc);omega
   rw [e];simp only [BI,n1,if_false,n2,Bool.false_eq_true,Nat.le_add_right,if_true,Nat.add_sub_cancel_left,hk,h1]
theorem VL {H:Hp} {b:Nat} (hL:BT ks xs L) (_:BT ks xs1 L1) {i:Nat} (h1:i ∉ ks++xs) (h2:i<b):BI H b (Go.Psl.lk L) ks (Go.Psl.lk L1) i=H i:=by
 have n1:¬ i∈ks:=fun h=>h1 (List.mem_append_left _ h)
 have n2:(Go.Psl.lk L i).isSome=false:=by
   cases hc:(Go.Psl.lk L i).isSome with
   | false=>rfl
   | true=>exact absurd (hL.isIn.1 hc) h1
 simp only [BI,n1,if_false,n2,Bool.false_eq_true,show ¬ b<=i by omega]
theorem Og {H':Hp} {b:Nat} (hL1:BT ks xs1 L1) (hH:∀ p∈L1,H' (sg ks b p.1)=some (p.2.map (BJ (sg ks b)))):Ej (rx ks xs1 b) H' L1:=by
 have key:∀ M:List (Nat × List V),(∀ p∈M,p∈L1)->Ej (rx ks xs1 b) H' M:=by
   intro M;induction M with
   | nil=>intro _;trivial
   | cons p r ih=>
     intro hM;have hp:=hM p (by simp);obtain ⟨c1,c2,c3⟩:=hL1.cells p hp;refine ⟨?_,ih fun q hq=>hM q (List.mem_cons_of_mem _ hq)⟩;rw [Lz (hL1.mem hp)];exact ⟨⟨_,hH p hp,KZ fun c hc=>ou (c3 c hc)⟩,c2⟩
 exact key L1 fun _ h=>h
theorem Ya {b:Nat} (hL1:BT ks xs1 L1) (hb:∀ i∈ks,i<b):Bd (rx ks xs1 b) L1:=by
 have key:∀ M:List (Nat × List V),(∀ p∈M,p∈L1)->Bd (rx ks xs1 b) M:=by
   intro M;induction M with
   | nil=>intro _;trivial
   | cons p r ih=>
     intro hM;refine ⟨fun q hq=>?_,ih fun q hq=>hM q (List.mem_cons_of_mem _ hq)⟩;rw [Lz (hL1.mem (hM p (by simp))),Lz (hL1.mem (hM q (List.mem_cons_of_mem _ hq)))];by_cases e:q.1=p.1
     . exact Or.inr (Or.inr e)
     . refine Or.inr (Or.inl fun e'=>e ?_)
       have e':=Option.some.inj e';unfold sg at e';split at e'<;>split at e'
       . exact e'
       . rename_i h1 h2;have:=hb _ h1;omega
       . rename_i h1 h2;have:=hb _ h2;omega
       . omega
 exact key L1 fun _ h=>h
theorem S5 {H':Hp} {b:Nat} (_:BT ks xs1 L1) (hH:∀ p∈L1,H' (sg ks b p.1)=some (p.2.map (BJ (sg ks b)))):∀ i∈ks,(Go.Psl.lk L1 i).isSome=true->rx ks xs1 b i=some i/\(H' i).isSome=true:=fun i hi hs=>by
 obtain ⟨x,hx⟩:=Option.isSome_iff_exists.1 hs;have:=hH (i,x) (B4 hx);rw [show sg ks b i=i by simp [sg,hi]] at this;exact ⟨by simp [rx,hi],by rw [this];rfl⟩
theorem AAc {ρ:Nat->Option Nat} {H h:Hp}:∀ {M:List Nat},(∀ i∈M,(h i).isSome=true->ρ i=some i/\(H i).isSome=true)->DZ ρ H h M
 | [],_=>trivial
 | i::r,hM=>⟨hM i (by simp),AAc fun j hj=>hM j (List.mem_cons_of_mem _ hj)⟩
theorem IG {ρ:Nat->Option Nat} {H h:Hp} {n:Nat}:∀ {M:List Nat},(∀ i∈M,i<n)->(∀ i∈M,(h i).isSome=true->ρ i=some i/\(H i).isSome=true)->HD ρ H h n M
 | [],_,_=>trivial
 | i::r,hn,hM=>⟨hn i (by simp),hM i (by simp),IG (fun j hj=>hn j (List.mem_cons_of_mem _ hj)) fun j hj=>hM j (List.mem_cons_of_mem _ hj)⟩
theorem AI.keepX {st:St} {b:Nat} (hs:∀ i,E.stab i↔i∈ks) (h:BT ks xs1 L1) (hb:∀ i∈ks,i<b) (hH:∀ p∈L1,st.H (sg ks b p.1)=some (p.2.map (BJ (sg ks b)))) {n:Nat} (hn:∀ i∈ks++xs1,i<n) (l:List (Nat × V)) (h1:CL (rx ks xs1 b) st.fr l) (h4:Bw n l):AI P E st ⟨AO l,Go.Psl.lk L1,n⟩:=
 AI.mkM hs (rx ks xs1 b) l L1 n h1 (Og h hH) (Ya h hb) h4 (h.ids hn) (IG (fun i hi=>hn i (List.mem_append_left _ hi)) (S5 h hH))
theorem Dc.keepX {fn:Func} {st:St} {b:Nat} (hn:fn.results= #[]) (h:BT ks xs1 L1) (hb:∀ i∈ks,i<b) (hH:∀ p∈L1,st.H (sg ks b p.1)=some (p.2.map (BJ (sg ks b)))):Dc Γ fn ks (.tup []) L1 st:=
 ⟨[],rx ks xs1 b,by rw [hn];rfl,rfl,by simp,Og h hH,Ya h hb,AAc (S5 h hH)⟩
theorem Jd {H:Hp} {av args:List V} {res:Res} (hL:BT ks xs L) (hL1:BT ks xs1 L1) (hx:∀ i∈xs1,i<1048576) (hH:∀ i∈ks++xs,H i=Go.Psl.lk L i) (hb:AJ (Bor noH) av args):IB H av args (Go.Psl.lk L) ks res (Go.Psl.lk L1):=
 ⟨fun i cs h=>by rw [hH i (hL.isIn.1 (by rw [h];rfl)),h],fun i h hn=>by
   rcases List.mem_append.1 (hL1.isIn.1 h) with h | h
   . exact absurd h hn
   . exact hx i h,fun i hi=>by
   obtain ⟨x,hx⟩:=Option.isSome_iff_exists.1 (hL.isIn.2 (List.mem_append_left _ hi));exact ⟨x,hx,(hL.cells (i,x) (B4 hx)).1⟩,Or.inl hb⟩
theorem kO {c:V} (h:CX ks xs c):WC (rid (ks++xs)) c c:=by
 cases c with
 | lr fr nt ps pa pb jmp=>exact ⟨rfl,fun t=>AV.mono (fun i hi=>Cr (List.mem_append_left _ hi)) (fun _ h=>h) (h t)⟩
 | cl f cs=>exact h
 | junk=>exact h
 | d x=>exact h
 | lp i o=>exact h
 | ls i o l z=>exact h
 | yl i=>exact h
 | agg cs=>exact h
 | tup cs=>exact h
theorem BT.same (h:BT ks xs L):A4 (ks++xs) L:=⟨h.names,h.nd,fun p hp=>⟨(h.cells p hp).1,(h.cells p hp).2.1,fun c hc=>kO ((h.cells p hp).2.2 c hc)⟩⟩
theorem AI.sameX {st:St} (hs:∀ i,E.stab i↔i∈ks) (h:BT ks xs L) (hH:st.H=Go.Psl.lk L) {n:Nat} (hn:∀ i∈ks++xs,i<n) (l:List (Nat × V)) (h1:CL (rid (ks++xs)) st.fr l) (h4:Bw n l):AI P E st ⟨AO l,Go.Psl.lk L,n⟩:=
 AI.mkM hs (rid (ks++xs)) l L n h1 (h.same.hp fun i _=>by rw [hH]) h.same.inj h4 (h.ids hn) (IG (fun i hi=>hn i (List.mem_append_left _ hi)) fun i hi hs=>⟨Cr (List.mem_append_left _ hi),by rw [hH];exact hs⟩)
theorem Dc.sameX {fn:Func} {st:St} (hn:fn.results= #[]) (h:BT ks xs L) (hH:st.H=Go.Psl.lk L):Dc Γ fn ks (.tup []) L st:=
 ⟨[],rid (ks++xs),by rw [hn];rfl,rfl,by simp,h.same.hp fun i _=>by rw [hH],h.same.inj,AAc fun i hi hs=>⟨Cr (List.mem_append_left _ hi),by rw [hH];exact hs⟩⟩
theorem Fp.keepX {H:Hp} {b k:Nat} {av:List V} {Kc Kx:V->Hp->Prop} (args:List V) (L L1:List (Nat × List V)) (ks xs xs1:List Nat) (r:D) (hf:Ym P k args (Go.Psl.lk L) ks (.ret (.d r)) (Go.Psl.lk L1)) (hL:BT ks xs L) (hL1:BT ks xs1 L1) (hx:∀ i∈xs1,i<1048576)
   (hrec:∃ fr nt ps pa pb jmp,Go.Psl.lk L k=some [.lr fr nt ps pa pb jmp]/\ps.length=args.length) (hH:∀ i∈ks++xs,H i=Go.Psl.lk L i) (hb:AJ (Bor noH) av args) (hk:Kc (.d r) (BI H b (Go.Psl.lk L) ks (Go.Psl.lk L1))):Fp P none H H b k av Kc Kx:=
 ⟨rfl,args,Go.Psl.lk L,ks, .ret (.d r),Go.Psl.lk L1,_,⟨hf,hrec,Jd hL hL1 hx hH hb⟩,rfl,hk⟩
theorem Ym.ofX (hΓ:GOk P Γ) (hE:EB P eqs) (hm:P.follows .mixedOrders=true) {k:Nat} {fr:Nat->V} {nt:Nat} {ps:List Nat} {pa pb:PC} {args:List V} {s:LSt} (N:Nat)
   (hL:BT ks xs L) (hL1:BT ks xs1 L1) (hlt:∀ i∈ks++xs,i<N) (hkk:k∈ks) (hk:Go.Psl.lk L k=some [.lr fr nt ps pa pb .ready]) (hlen:ps.length=args.length) (hps:∀ p∈ps,p<nt) (hcl:∀ v∈args,A2 (· < N) AR v)
   (h:Rnd P Γ eqs k fr nt ps pa pb args (Go.Psl.lk L) ks s L1 N):Ym P k args (Go.Psl.lk L) ks (.ret (.d (.lit (.bool (FP s))))) (Go.Psl.lk L1):=
 Ym.of hΓ hE hm N hk hkk hlen hps hcl (A7.at (hL.ids hlt)) (fun i hi=>hlt i (List.mem_append_left _ hi)) hL1.res h.run
theorem E3.keepX {fo:Operand} {ps:List Nat} {pa pb:PC} {Q:Av->St->Prop} {f:Nat->V} {H:Hp} {n:Nat} {g:FuncId} {caps:List V} (L L1:List (Nat × List V)) (ks xs xs1:List Nat) (r:V) (jmp:LSt) (h0:E.rq) (hg:Be (evF f fo)=some (g,caps))
   (hf:Cm P g (.yl n::caps) (Go.Psl.lk ((n,[.lr f E.nt ps pa pb .ready])::L)) (n::ks) (.ret r) (Go.Psl.lk ((n,[.lr f E.nt ps pa pb jmp])::L1)))
   (hL:BT (n::ks) xs ((n,[.lr f E.nt ps pa pb .ready])::L)) (hL1:BT (n::ks) xs1 ((n,[.lr f E.nt ps pa pb jmp])::L1)) (hx:∀ i∈xs1,i<1048576) (hlt:∀ i∈ks++xs,i<n) (hH:∀ i∈ks++xs,H i=Go.Psl.lk L i) (hb:AJ (Bor noH) caps caps)
   (hq:∀ F:Hp,(∀ p∈L1,F (sg (n::ks) (n+1048576) p.1)=some (p.2.map (BJ (sg (n::ks) (n+1048576)))))->(∀ i,i ∉ ks++xs->i<n->F i=H i)->Sm Q ⟨f,F,n+2097152⟩ jmp):PW P Γ eqs E (.rangeF fo ps pa pb) Q ⟨f,H,n⟩:=by
 have hH':∀ i∈n::ks++xs,upd H n (some [.lr f E.nt ps pa pb .ready]) i=Go.Psl.lk ((n,[.lr f E.nt ps pa pb .ready])::L) i:=fun i hi=>by
   simp only [AY,Go.Psl.lk];by_cases e:i=n
   . simp [e]
   . simp only [e,if_false]
     rw [List.cons_append] at hi;rcases List.mem_cons.1 hi with h | h
     . exact absurd h e
     . exact hH i h
 have hbk:∀ i∈n::ks++xs,i<n+1048576:=fun i hi=>by
   rw [List.cons_append] at hi;rcases List.mem_cons.1 hi with h | h
   . omega
   . have:=hlt i h;omega
 refine ⟨h0,g,caps, .yl n::caps,_,n::ks, .ret r,_,hg,⟨hf,Jd hL hL1 hx hH' ⟨rfl,hb⟩⟩,by simp,jmp,by simp [Go.Psl.lk],?_⟩;refine hq _ (fun p hp=>?_) fun i hi hin=>?_
 . have hm:p.1∈ks++xs1:=by
     have:=hL1.names;simp only [List.map_cons,List.cons_append,List.cons.injEq,true_and] at this;rw [<-this];exact List.mem_map.2 ⟨p,hp,rfl⟩
   have hne:sg (n::ks) (n+1048576) p.1≠n:=fun e=>by
     have hnd:=hL1.nd;rw [List.cons_append] at hnd;have hnm:=(List.nodup_cons.1 hnd).1;unfold sg at e;split at e
     . rw [e] at hm;exact hnm hm
     . omega
   simp only [AY,hne,if_false];exact Oe hL hL1 hbk (List.mem_cons_of_mem _ hp)
 . have hne:i≠n:=by omega
   simp only [AY,hne,if_false];rw [VL hL hL1 (by rw [List.cons_append];intro h;rcases List.mem_cons.1 h with h | h;exact hne h;exact hi h) (by omega)];simp [AY,hne]
end
end Go.Psl
namespace Go.Proofs.Tryz
open Go.Psl
open Go.Air
theorem qu (l:List Leg):Ct prog 129 [.d (Bs l)] (.cl 205 [.lp 0 0]) [(0,[.d (Bs l)])]:=by
 refine CB func129 c129 fun E hE=>?_
 simp [p129];refine AB.by (lk [(0,0)]) ?_;simp [results129]
def Cw (l:List Leg) (i:Nat):Nat:=(BN 0 (l.take i)).length
theorem Iq:∀ (a b:List Leg) (i:Nat),BN i (a++b)=BN i a++BN (i+a.length) b
 | [],b,i=>rfl
 | x::a,b,i=>by
   show _++BN (i+1) (a++b)=(_++BN (i+1) a)++_
   rw [Iq a b (i+1),List.append_assoc,List.length_cons,show i+1+a.length=i+(a.length+1) by omega]
theorem MW (l:List Leg):Cw l 0=0:=rfl
theorem WO {l:List Leg} {i:Nat} {x:Leg} (h:l[i]?= some x):Cw l (i+1)=Cw l i+x.m.toNat:=by
 unfold Cw;rw [List.take_add_one,h,Iq];simp [BN]
theorem ACY (l:List Leg):Cw l l.length=(BN 0 l).length:=by unfold Cw;rw [List.take_length]
theorem iC {l:List Leg} {i:Nat}:Cw l i<=(BN 0 l).length:=by
 have:(BN 0 l).length=Cw l i+(BN (0+(l.take i).length) (l.drop i)).length:=by
   unfold Cw;rw [<-List.length_append,<-Iq,List.take_append_drop]
 omega
theorem iE {l:List Leg} {i m:Nat} {x:Leg} (h:l[i]?= some x) (hm:m<x.m.toNat):(BN 0 l)[Cw l i+m]?= some (i,m):=by
 have hi:=(List.getElem?_eq_some_iff.1 h).1
 have e:l=l.take i++(x::l.drop (i+1)):=by
   have:x::l.drop (i+1)=l.drop i:=by
     rw [List.drop_eq_getElem_cons hi];congr 1;rw [List.getElem?_eq_getElem hi] at h;exact (Option.some.inj h).symm
   rw [this,List.take_append_drop]
 have e2:BN 0 l=BN 0 (l.take i)++BN i (x::l.drop (i+1)):=by
   conv=>lhs;rw [e]
   rw [Iq,List.length_take,Nat.min_eq_left (by omega),Nat.zero_add]
 rw [e2,List.getElem?_append_right (by unfold Cw;omega)];unfold Cw;rw [Nat.add_sub_cancel_left]
 show ((List.range x.m.toNat).map (fun m=>(i,m))++_)[m]?= _
 rw [List.getElem?_append_left (by simpa using hm),List.getElem?_map,List.getElem?_range hm];rfl
theorem AI.restX {E:Ent} {ks xs:List Nat} {L:List (Nat × List V)} {st:St} (hs:∀ i,E.stab i↔i∈ks) (h:BT ks xs L) (hH:∀ i∈ks++xs,st.H i=lk L i) {n:Nat} (hn:∀ i∈ks++xs,i<n) (l:List (Nat × V)) (h1:CL (rid (ks++xs)) st.fr l) (h4:Bw n l):AI prog E st ⟨AO l,lk L,n⟩:=
 AI.mkM hs (rid (ks++xs)) l L n h1 (h.same.hp hH) h.same.inj h4 (h.ids hn) (IG (fun i hi=>hn i (List.mem_append_left _ hi)) fun i hi hs=>⟨Cr (List.mem_append_left _ hi),by rw [hH i (List.mem_append_left _ hi)];exact hs⟩)
theorem Jl (l:List Leg) (hl:l.length<=1000000) (hok:∀ x∈l,BE x=true) (KS:List Nat) (XS:Nat->List Nat) (k a M:Nat) (go:Nat->Bool) (L:Nat->List (Nat × List V)) (hk:k∈KS) (ha:a∈KS) (hN:∀ i∈KS,i<1000000000) (hX:∀ i,∀ x∈XS i,x<1048576) (hm:M<=(BN 0 l).length) (hL:∀ i,i<=M->BT KS (XS i) (L i))
   (hrec:∀ i,i<M->∃ fr nt ps pa pb jmp,lk (L i) k=some [.lr fr nt ps pa pb jmp]/\ps.length=2) (hbox:∀ i,i<=M->lk (L i) a=some [.d (Bs l)]) (hgo:∀ j,j+1<M->go j=true) (hend:M=(BN 0 l).length\/(0<M/\go (M-1)=false))
   (hY:∀ j i m,j<M->(BN 0 l)[j]?= some (i,m)->Ym prog k [vi i,vi m] (lk (L j)) KS (.ret (vb (go j))) (lk (L (j+1)))):
   Cm prog 205 [.yl k, .lp a 0] (lk (L 0)) KS (.ret (.tup [])) (lk (L M)):=by
 have hNX:∀ i,∀ x∈KS++XS i,x<1000000000:=fun i x hx=>by
   rcases List.mem_append.1 hx with h | h
   . exact hN x h
   . have:=hX i x h;omega
 refine Cm.by gok eok mixed 1000000000 func205 c205 rfl (by simp [ntmps205]) (by simp;exact ⟨hN k hk,hN a ha⟩) (A7.at ((hL 0 (by omega)).ids (hNX 0))) hN ⟨by simp,(hL M (Nat.le_refl _)).res⟩ fun E hs hE=>?_
 have haN:=hN a ha;have na:∀ x,1000000000<=x->¬ a=x:=fun x _=>by omega
 have la:∀ x,1000000000<=x->a<x:=fun x _=>by omega
 have b0:=hbox 0 (by omega);have rk:∀ i b,rx KS (XS i) b k=some k:=fun i b=>by simp [rx,hk]
 have ra:∀ i b,rx KS (XS i) b a=some a:=fun i b=>by simp [rx,ha]
 simp [p205,b0];refine Al (α:=Nat) (fun i=>⟨AO [(0, .yl k),(1, .lp a 0),(6, .d (Bs l)),(7,vi l.length),(8,vi i)],lk (L (Cw l i)),1000000000⟩) (fun i=>i<=l.length/\Cw l i<=M/\(Cw l i=M->M=(BN 0 l).length)) (fun i=>l.length-i) 0 ?_ ?_ ?_
 . rw [MW]
   exact ⟨by omega,by omega,fun e=>by omega⟩
 . rw [MW]
   refine AI.sameX hs (hL 0 (by omega)) rfl (hNX 0) _ ?_ ?_
   . simp [rid,hk,ha]
   . simp [hN k hk,hN a ha]
 . rintro i ⟨hi,hp,him⟩
   simp [bM];refine Bh (fun h=>?_) (fun h=>?_)
   . simp at h
     obtain ⟨x,hx⟩:=gE h;have hxm:=G5 (hok x (List.mem_of_getElem? hx));have hpn:=WO hx;have hpl:=iC (l:=l) (i:=i+1);have hz:=@wz i (by omega);have hne0:∀ q∈KS++XS (Cw l i+0),¬ q=1004194304:=fun q hq e=>by have:=hNX (Cw l i+0) q hq;omega
     simp [hx,AA];refine Al (α:=Nat) (fun m=>⟨AO [(0, .yl k),(1, .lp a 0),(3,vi i),(6, .d (Bs l)),(7,vi l.length),(8,vi i),(14,vi x.m),(15,vi m)],lk (L (Cw l i+m)),1000000000⟩) (fun m=>m<=x.m.toNat/\Cw l i+m<=M/\(Cw l i+m=M->M=(BN 0 l).length)) (fun m=>x.m.toNat-m) 0 ?_ ?_ ?_
     . exact ⟨by omega,by omega,fun e=>him (by omega)⟩
     . refine AI.restX hs (hL _ (by omega)) (fun q hq=>?_) (hNX _) _ ?_ ?_
       . simp [hne0 q hq]
       . simp [rid,hk,ha]
       . simp [hN k hk,hN a ha]
     . rintro m ⟨hmi,hmp,hme⟩
       by_cases hmx:m<x.m.toNat
       . have hmI:(m:Int)<x.m:=by omega
         have hjl:Cw l i+m<(BN 0 l).length:=by omega
         have hj:Cw l i+m<M:=by
           rcases Nat.lt_or_ge (Cw l i+m) M with h9 | h9
           . exact h9
           . have:=hme (by omega);omega
         have hat:=iE hx hmx;obtain ⟨J,hJ⟩:∃ J,Cw l i+m=J:=⟨_,rfl⟩
         rw [hJ] at hat hj hjl;have hY':=hY J i m hj hat;obtain ⟨fr,nt,ps,pa,pb,jmp,hr1,hr2⟩:=hrec J hj;have hzm:=@wz m (by omega);have hbb:∀ q∈KS++XS J,q<1006291456:=fun q hq=>by have:=hNX J q hq;omega
         have hbk:∀ q∈KS,q<1006291456:=fun q hq=>by have:=hN q hq;omega
         rw [hJ];simp [SH,hmI];refine Fp.keepX [vi i,vi m] (L J) (L (J+1)) KS (XS J) (XS (J+1)) _ hY' (hL J (by omega)) (hL (J+1) (by omega)) (hX _) ⟨fr,nt,ps,pa,pb,jmp,hr1,hr2⟩ (fun q hq=>rfl) (by simp) ?_;obtain ⟨F,hF⟩:∃ F,F=BI (lk (L J)) 1006291456 (lk (L J)) KS (lk (L (J+1))):=⟨_,rfl⟩
         have hFp:∀ p∈L (J+1),F (sg KS 1006291456 p.1)=some (p.2.map (BJ (sg KS 1006291456))):=fun p hp=>by rw [hF];exact Oe (hL J (by omega)) (hL (J+1) (by omega)) hbb hp
         rw [<-hF];cases hgi:go J
         . have e:J+1=M:=by
             by_cases hlt:J+1<M
             . rw [hgo J hlt] at hgi;cases hgi
             . omega
           simp;rw [<-e];exact Dc.keepX rfl (hL (J+1) (by omega)) hbk hFp
         . simp [hzm]
           refine ⟨m+1,⟨by omega,by omega,fun e=>?_⟩,by omega,?_⟩
           . rcases hend with h1 | ⟨_,h1⟩
             . exact h1
             . rw [show M-1=J by omega,hgi] at h1;cases h1
           . rw [show Cw l i+(m+1)=J+1 by omega]
             refine AI.keepX hs (hL (J+1) (by omega)) hbk hFp (hNX (J+1)) _ ?_ ?_
             . simp [rk,ra]
             . simp [hN k hk,hN a ha]
       . have em:m=x.m.toNat:=by omega
         have hmI:¬ (m:Int)<x.m:=by omega
         have e9:Cw l i+m=Cw l (i+1):=by omega
         have hbm:=hL (Cw l (i+1)) (by omega);rw [e9];simp [SH,hmI,hz];refine ⟨i+1,⟨by omega,by omega,fun e=>hme (by omega)⟩,by omega,?_⟩;refine AI.sameX hs hbm rfl (hNX _) _ ?_ ?_
         . simp [rid,hk,ha]
         . simp [hN k hk,hN a ha]
   . simp at h
     have e:i=l.length:=by omega
     have e2:Cw l i=M:=by
       have:=ACY l;rw [<-e] at this;omega
     simp;rw [e2];exact Dc.sameX rfl (hL M (Nat.le_refl _)) rfl
theorem WM:∀ x:Shp,(Ca x).length=25:=fun _=>rfl
theorem mI (acc:List Shp) (n:Shp) (hl:acc.length<=100000):Cm prog 104 [Cl n (.d (AX n.gas.cs)), .lp 0 0] (lk ([(0,[hdF 25 acc 1])]++ouF Ca acc 1)) [0] (.ret (.tup [Cl n (.d (AX n.gas.cs)),vi 0])) (lk ([(0,[hdF 25 (acc++[n]) 1])]++ouF Ca (acc++[n]) 1)):=by
 by_cases hne:acc=[]
 . subst hne
   rw [Aq,Au,List.nil_append,Ak (by simp),AZ (by simp)];refine CM 2 func104 qN fun E hs hE=>?_
   simp [p104,AA,AM];refine AB.by (lk [(0,0),(1,6291458)]) ?_;simp [results104,AH]
 . have hsl:=Aw WM acc
   have hwh:=E9 WM acc;have n1:(acc.length+1)*216<=140737488355328:=by omega
   have n2:acc.length+1<=9223372036854775807:=by omega
   rw [Ak hne,AZ hne,Ak (by simp),AZ (by simp),IV];refine CM 2 func104 qN fun E hs hE=>?_
   simp [p104,AA,AM,hsl,hwh,n1,n2];refine AB.by (lk [(0,0),(1,6291458)]) ?_;simp [results104];refine Or.inl ?_;rw [List.all_append,List.all_eq_true.2 BU];rfl
def D6 (k:Sky) (r:Rig) (l:List Leg):List (Nat × Nat)->Shp->List Shp
 | [],_=>[]
 | (i,m)::rest,s=>match l[i]? with
   | none=>[]
   | some x=>match FA k r x m s with
     | .error _=>[]
     | .ok n=>n::D6 k r l rest n
def DX (s:Shp) (ns:List Shp) (j:Nat):Shp:=if j=0 then s else (ns[j-1]?).getD s
theorem MV {s n:Shp} {ns:List Shp} {j:Nat} (h:j<ns.length+1):DX s (n::ns) (j+1)=DX n ns j:=by
 unfold DX;cases j with
 | zero=>simp
 | succ j=>
   rw [if_neg (by omega),if_neg (by omega)];have h1:j<ns.length:=by omega
   simp [h1]
theorem LP {k:Sky} {r:Rig} {l:List Leg}:∀ {im:List (Nat × Nat)} {s:Shp} {j:Nat} {n:Shp},(D6 k r l im s)[j]?= some n->∃ i m x,im[j]?= some (i,m)/\l[i]?= some x/\FA k r x m (DX s (D6 k r l im s) j)= .ok n
 | [],s,j,n,h=>by simp [D6] at h
 | (i,m)::rest,s,j,n,h=>by
   unfold D6 at h ⊢;split at h
   . simp at h
   rename_i x hx;split at h
   . simp at h
   rename_i n1 h1;cases j with
   | zero=>
     simp at h;subst h;exact ⟨i,m,x,by simp,hx,by simpa [DX] using h1⟩
   | succ j=>
     have h2:(D6 k r l rest n1)[j]?= some n:=by simpa using h
     obtain ⟨i2,m2,x2,e1,e2,e3⟩:=LP h2;have hj:=(List.getElem?_eq_some_iff.1 h2).1;refine ⟨i2,m2,x2,by simpa using e1,e2,?_⟩;rw [MV (by omega)];exact e3
theorem LQ {k:Sky} {r:Rig} {l:List Leg}:∀ {im:List (Nat × Nat)} {s:Shp},(∀ p∈im,∃ x,l[p.1]?= some x)->(Dt k r l im s= .ok (D6 k r l im s)/\(D6 k r l im s).length=im.length)\/
   ∃ i m x e,im[(D6 k r l im s).length]?= some (i,m)/\l[i]?= some x/\FA k r x m (DX s (D6 k r l im s) (D6 k r l im s).length)= .error e/\Dt k r l im s= .error (FC i m e)
 | [],s,_=> .inl ⟨rfl,rfl⟩
 | (i,m)::rest,s,hm=>by
   obtain ⟨x,hx⟩:=hm (i,m) (by simp);simp only at hx;unfold D6 Dt;rw [hx];simp only;cases h1:FA k r x m s with
   | error e=>exact .inr ⟨i,m,x,e,by simp,hx,by simpa [DX] using h1,rfl⟩
   | ok n=>
     simp only;rcases LQ (im:=rest) (s:=n) (fun p hp=>hm p (by simp [hp])) with ⟨h2,h3⟩ | ⟨i2,m2,x2,e2,h2,h3,h4,h5⟩
     . left;rw [h2];exact ⟨rfl,by simp [h3]⟩
     . right
       rw [h5];refine ⟨i2,m2,x2,e2,by simpa using h2,h3,?_,rfl⟩;rw [List.length_cons,MV (by omega)];exact h4
def fKS:List Nat:=[8388609,7340033,1,1048577,2097153,3145729,4194305,5242881,0]
def fXS (acc:List Shp):List Nat:=if acc=[] then [] else [7]
abbrev evL (e:Evt):List V:=[vi e.1,vi e.2.1,vi e.2.2.1,vi e.2.2.2]
def fL (k:Sky) (r:Rig) (l:List Leg) (f:Nat->V) (z:LSt) (acc:List Shp) (s:Shp) (e:Evt) (er:Int):List (Nat × List V):=
 [(8388609,[.lr f 69 [19,20] Az A3 z]),(7340033,[.d (Bs l)]),(1,[D2 k r]),(1048577,shB s),(2097153,[.d (Bs l)]),(3145729,[.cl 104 [.lp 0 0]]),(4194305,evL e),(5242881,[vi er]),(0,[hdF 25 acc 7])]++ouF Ca acc 7
theorem Ol (k:Sky) (r:Rig) (l:List Leg) (f:Nat->V) (z:LSt) (acc:List Shp) (s:Shp) (e:Evt) (er:Int) (hf:∀ t,AV (·∈fKS) AR (f t)):BT fKS (fXS acc) (fL k r l f z acc s e er):=by
 by_cases h0:acc=[]
 . subst h0
   refine ⟨rfl,by simp [fKS,fXS],?_⟩;intro q hq;simp only [fL,Aq,Au,List.append_nil,List.mem_cons,List.not_mem_nil,or_false] at hq;rcases hq with rfl | rfl | rfl | rfl | rfl | rfl | rfl | rfl | rfl
   . exact ⟨by simp,Or.inr ⟨_,_,_,_,_,_,rfl⟩,fun c hc=>by simp at hc;subst hc;exact hf⟩
   all_goals refine ⟨by simp,Or.inl rfl,fun c hc=>?_⟩
   all_goals simp only [List.mem_cons,List.not_mem_nil,or_false] at hc
   all_goals first
     | (subst hc;exact rfl)
     | (subst hc;simp [CX,W1,W0,rid,fKS,AJ,fXS])
     | (rcases hc with rfl | rfl | rfl | rfl<;>exact rfl)
     | (rcases hc with rfl | rfl | rfl | rfl | rfl | rfl | rfl | rfl | rfl | rfl | rfl | rfl | rfl | rfl | rfl | rfl | rfl | rfl | rfl | rfl | rfl | rfl | rfl | rfl | rfl<;>exact rfl)
 . have hx:fXS acc=[7]:=by simp [fXS,h0]
   rw [hx];refine ⟨by simp [fL,AZ h0,fKS],by simp [fKS],?_⟩;intro q hq;simp only [fL,Ak h0,AZ h0,List.mem_append,List.mem_cons,List.not_mem_nil,or_false] at hq;rcases hq with (rfl | rfl | rfl | rfl | rfl | rfl | rfl | rfl | rfl) | rfl
   . exact ⟨by simp,Or.inr ⟨_,_,_,_,_,_,rfl⟩,fun c hc=>by simp at hc;subst hc;exact hf⟩
   rotate_left 8
   . refine ⟨?_,Or.inl (List.all_eq_true.2 BU),fun c hc=>?_⟩
     . intro e
       have:=congrArg List.length e;rw [Aw WM] at this;cases acc with
       | nil=>exact h0 rfl
       | cons a t=>simp at this
     . obtain ⟨d,_,rfl⟩:=List.mem_map.1 (show c∈List.map V.d (List.map Ca acc).flatten from hc)
       exact rfl
   all_goals refine ⟨by simp,Or.inl rfl,fun c hc=>?_⟩
   all_goals simp only [List.mem_cons,List.not_mem_nil,or_false] at hc
   all_goals first
     | (subst hc;exact rfl)
     | (subst hc;simp [CX,W1,W0,rid,fKS,AJ])
     | (rcases hc with rfl | rfl | rfl | rfl<;>exact rfl)
     | (rcases hc with rfl | rfl | rfl | rfl | rfl | rfl | rfl | rfl | rfl | rfl | rfl | rfl | rfl | rfl | rfl | rfl | rfl | rfl | rfl | rfl | rfl | rfl | rfl | rfl | rfl<;>exact rfl)
theorem kU (acc:List Shp) (n:Shp) (hl:acc.length<=100000):Cm prog 104 [Cl n (.d (AX n.gas.cs)), .lp 0 0] (lk ([(0,[hdF 25 acc 7])]++ouF Ca acc 7)) [0] (.ret (.tup [Cl n (.d (AX n.gas.cs)),vi 0])) (lk ([(0,[hdF 25 (acc++[n]) 7])]++ouF Ca (acc++[n]) 7)):=by
 have hr:∀ l:List Shp,(AH Ca l).map (BJ fun i=>if i=0 then 0 else 7)=AH Ca l:=fun l=>by
   simp [AH,List.map_flatten,Function.comp_def]
 have h:=Cm.rename (fun i=>if i=0 then 0 else 7) 2 (by intro i j hi hj;split<;>split<;>omega) (mI acc n hl) (by
   by_cases h0:acc=[]
   . subst h0;simp [BW,Aq,Au]
   . simp [BW,Ak h0,AZ h0]) (by rw [Ak (by simp),AZ (by simp)];simp [BW]) (by simp)
 by_cases h0:acc=[]
 . subst h0
   rw [Aq,Au,List.nil_append,Ak (by simp),AZ (by simp)] at h ⊢;simpa [Ea,HW,hr] using h
 . rw [Ak h0,AZ h0,Ak (by simp),AZ (by simp)] at h ⊢
   simpa [Ea,HW,hr] using h
structure kV (f:Nat->V):Prop where
 av:∀ t,AV (·∈fKS) AR (f t)
 f4:f 4= .lp 1 0
 f5:f 5= .lp 1048577 0
 f6:f 6= .lp 2097153 0
 f7:f 7= .lp 3145729 0
 f8:f 8= .lp 4194305 0
 f9:f 9= .lp 5242881 0
theorem VQ (hS:SortOk) (k:Sky) (r:Rig) (l:List Leg) (f:Nat->V) (hF:kV f) (acc:List Shp) (s n:Shp) (i m:Nat) (x:Leg) (_:l.length<=1000000) (ha:acc.length<=100000) (h1:k.s.length<=1000000) (h2:k.w.length<=1000000) (h3:r.reg.length<=1000000) (hk:BV k=true) (hR:CF r=true) (hg:Ey k r=true) (hs:A6 s=true) (hlo:BE x=true) (hx:l[i]?= some x) (ho:FA k r x m s= .ok n):
   Ym prog 8388609 [vi i,vi m] (lk (fL k r l f .ready acc s ev0 0)) fKS (.ret (vb true)) (lk (fL k r l f .ready (acc++[n]) n ev0 0)):=by
 obtain ⟨hf,f4,f5,f6,f7,f8,f9⟩:=hF;have hil:=(List.getElem?_eq_some_iff.1 hx).1;have hiI:(i:Int)<l.length:=by omega
 have hK1:=Ol k r l f .ready acc s ev0 0 hf;have hK2:=Ol k r l f .ready (acc++[n]) n ev0 0 hf
 have hlt:∀ j∈fKS++fXS acc,j<10000000:=by
   intro j hj;simp only [fKS,fXS,List.mem_append,List.mem_cons,List.not_mem_nil,or_false] at hj;rcases hj with h | h
   . omega
   . split at h
     . simp at h
     . simp at h;omega
 have hW:∀ (y:Nat) z,WC (lk [(8388609,8388609),(7340033,7340033),(1,1),(1048577,1048577),(2097153,2097153),(3145729,3145729),(4194305,4194305),(5242881,5242881),(0,0),(7,y)]) (.lr f 69 [19,20] Az A3 z) (.lr f 69 [19,20] Az A3 z):=fun y z=>⟨rfl,fun t=>AV.mono (fun j hj=>by simp [fKS] at hj;rcases hj with rfl | rfl | rfl | rfl | rfl | rfl | rfl | rfl | rfl<;>simp [lk]) (fun _ h=>h) (hf t)⟩
 have hC:∀ z,Bv [.lr f 69 [19,20] Az A3 z]:=fun z=>Or.inr ⟨_,_,_,_,_,_,rfl⟩
 have ca:=kU acc n ha;refine Ym.ofX (k:=8388609) (fr:=f) (nt:=69) (ps:=[19,20]) (pa:=Az) (pb:=A3) (args:=[vi i,vi m]) (s:= .ready) gok eok mixed 10000000 hK1 hK2 hlt (by simp [fKS]) (by simp [fL]) (by simp) (by simp) (by simp) ?_;obtain ⟨t,ht,hmo,hnx⟩:=Ib.1 ho;have hto:=Ow hs hlo ht;have cm:=ko hS k r t x h1 h2 h3 hk hR hg hto hlo;rw [H2.2 ⟨hmo,hnx⟩] at cm;simp only [RB] at cm;by_cases hm:m=0
 . rw [if_pos hm] at ht
   subst hm;have cb:=pP s x hs hlo;rw [ht] at cb;simp only [Oy] at cb;by_cases h0:acc=[]
   . subst h0
     rw [Aq,Au,List.nil_append,Ak (by simp),AZ (by simp)] at ca;refine ⟨fun E hE hs=>?_⟩;unfold fL;rw [Aq,Au,List.nil_append,Ak (by simp),AZ (by simp)]
     generalize V.lr f 69 [19,20] Az A3=rc at hW hC ⊢
     simp [Az,BD];simp [A3];refine AL [(10,23631488)] (by kernel_rfl) ?_;simp [inC,Nat.testBit,hx,f5,f6];refine CLa cb ?_;simp [AA,inC,Nat.testBit,f5];refine AL [(13,42505856),(14,43554432)] (by kernel_rfl) ?_;simp [inC,Nat.testBit,hx,f4,f5,f6];refine CLa cm ?_;simp [AA,inC,Nat.testBit,f7];refine CRs ca (by simp) ?_;simp [AA,f5];refine ⟨trivial,by simp,lk [(8388609,8388609),(7340033,7340033),(1,1),(1048577,1048577),(2097153,2097153),(3145729,3145729),(4194305,4194305),(5242881,5242881),(0,0),(7,51943047)],?_⟩;simp [hW,hC,fKS,AH]
   . have n1:AH Ca acc≠[]:=fun e=>by
       have:=congrArg List.length e;rw [Aw WM] at this;cases acc with
       | nil=>exact h0 rfl
       | cons a t=>simp at this
     rw [Ak h0,AZ h0,Ak (by simp),AZ (by simp)] at ca;refine ⟨fun E hE hs=>?_⟩;unfold fL;rw [Ak h0,AZ h0,Ak (by simp),AZ (by simp)]
     generalize V.lr f 69 [19,20] Az A3=rc at hW hC ⊢
     simp [Az,BD];simp [A3];refine AL [(10,23631488)] (by kernel_rfl) ?_;simp [inC,Nat.testBit,hx,f5,f6];refine CLa cb ?_;simp [AA,inC,Nat.testBit,f5];refine AL [(13,42505856),(14,43554432)] (by kernel_rfl) ?_;simp [inC,Nat.testBit,hx,f4,f5,f6];refine CLa cm ?_;simp [AA,inC,Nat.testBit,f7];refine CRs ca (by simp) ?_;simp [AA,f5];refine ⟨trivial,by simp,lk [(8388609,8388609),(7340033,7340033),(1,1),(1048577,1048577),(2097153,2097153),(3145729,3145729),(4194305,4194305),(5242881,5242881),(0,0),(7,51943047)],?_⟩;simp [hW,hC,fKS]
     all_goals first | exact Or.inl (List.all_eq_true.2 BU) | skip
 . rw [if_neg hm] at ht
   subst ht;by_cases h0:acc=[]
   . subst h0
     rw [Aq,Au,List.nil_append,Ak (by simp),AZ (by simp)] at ca;refine ⟨fun E hE hs=>?_⟩;unfold fL;rw [Aq,Au,List.nil_append,Ak (by simp),AZ (by simp)]
     generalize V.lr f 69 [19,20] Az A3=rc at hW hC ⊢
     simp [Az,BD];simp [A3,hm];refine AL [(13,25728640),(14,26777216)] (by kernel_rfl) ?_;simp [inC,Nat.testBit,hx,f4,f5,f6];refine CLa cm ?_;simp [AA,inC,Nat.testBit,f7];refine CRs ca (by simp) ?_;simp [AA,f5];refine ⟨trivial,by simp,lk [(8388609,8388609),(7340033,7340033),(1,1),(1048577,1048577),(2097153,2097153),(3145729,3145729),(4194305,4194305),(5242881,5242881),(0,0),(7,35165831)],?_⟩;simp [hW,hC,fKS,AH]
   . have n1:AH Ca acc≠[]:=fun e=>by
       have:=congrArg List.length e;rw [Aw WM] at this;cases acc with
       | nil=>exact h0 rfl
       | cons a t=>simp at this
     rw [Ak h0,AZ h0,Ak (by simp),AZ (by simp)] at ca;refine ⟨fun E hE hs=>?_⟩;unfold fL;rw [Ak h0,AZ h0,Ak (by simp),AZ (by simp)]
     generalize V.lr f 69 [19,20] Az A3=rc at hW hC ⊢
     simp [Az,BD];simp [A3,hm];refine AL [(13,25728640),(14,26777216)] (by kernel_rfl) ?_;simp [inC,Nat.testBit,hx,f4,f5,f6];refine CLa cm ?_;simp [AA,inC,Nat.testBit,f7];refine CRs ca (by simp) ?_;simp [AA,f5];refine ⟨trivial,by simp,lk [(8388609,8388609),(7340033,7340033),(1,1),(1048577,1048577),(2097153,2097153),(3145729,3145729),(4194305,4194305),(5242881,5242881),(0,0),(7,35165831)],?_⟩;simp [hW,hC,fKS]
     all_goals first | exact Or.inl (List.all_eq_true.2 BU) | skip
theorem T7:∀ {acts:List Act} {p:Plt} {i:Nat},¬ (B7 p acts i).2.2=54
 | [],p,i=>by simp [B7]
 | a::rr,p,i=>by
   unfold B7;cases hd:doS p a with
   | ok q=>exact T7
   | error e=>
     show ¬ e=54
     unfold doS vlS mvS at hd
     repeat' split at hd
     all_goals first | (have:=K8 hd;omega) | (cases hd;omega)
theorem mR {s:Shp} {x:Leg} {e:Int} (h:Ep s x= .error e):¬ e=54:=by
 unfold Ep at h;split at h
 . split at h
   . cases h;decide
   split at h
   . cases h;decide
   . cases h
 . cases h;exact T7
theorem ck {k:Sky} {r:Rig} {s:Shp} {x:Leg} {e:Int × Int × Int} (h:HK k r s x= .error e):(e.1=54/\True)\/(e.1=9/\e.2.1=0/\e.2.2=0):=by
 unfold HK at h;split at h
 . split at h
   . cases h;exact .inr ⟨rfl,rfl,rfl⟩
   . cases h
 . cases h;exact .inl ⟨rfl,trivial⟩
def Iw (x:Leg) (m:Nat) (s:Shp):Shp:=if m=0 then (match Ep s x with | .ok t=>t | .error _=>s) else s
theorem co (hS:SortOk) (k:Sky) (r:Rig) (l:List Leg) (f:Nat->V) (hF:kV f) (acc:List Shp) (s:Shp) (i m:Nat) (x:Leg) (e:Int × Int × Int) (_:l.length<=1000000) (h1:k.s.length<=1000000) (h2:k.w.length<=1000000) (h3:r.reg.length<=1000000) (hk:BV k=true) (hR:CF r=true) (hg:Ey k r=true) (hs:A6 s=true) (hlo:BE x=true) (hx:l[i]?= some x) (ho:FA k r x m s= .error e):
   Ym prog 8388609 [vi i,vi m] (lk (fL k r l f .ready acc s ev0 0)) fKS (.ret (vb false)) (lk (fL k r l f (.done .ret) acc (Iw x m s) (FC i m e).2 (FC i m e).1)):=by
 obtain ⟨hf,f4,f5,f6,f7,f8,f9⟩:=hF;have hil:=(List.getElem?_eq_some_iff.1 hx).1;have hiI:(i:Int)<l.length:=by omega
 have hK1:=Ol k r l f .ready acc s ev0 0 hf;have hK2:=Ol k r l f (.done .ret) acc (Iw x m s) (FC i m e).2 (FC i m e).1 hf
 have hlt:∀ j∈fKS++fXS acc,j<10000000:=by
   intro j hj;simp only [fKS,fXS,List.mem_append,List.mem_cons,List.not_mem_nil,or_false] at hj;rcases hj with h | h
   . omega
   . split at h
     . simp at h
     . simp at h;omega
 have hW:∀ (y:Nat) z,WC (lk [(8388609,8388609),(7340033,7340033),(1,1),(1048577,1048577),(2097153,2097153),(3145729,3145729),(4194305,4194305),(5242881,5242881),(0,0),(7,y)]) (.lr f 69 [19,20] Az A3 z) (.lr f 69 [19,20] Az A3 z):=fun y z=>⟨rfl,fun t=>AV.mono (fun j hj=>by simp [fKS] at hj;rcases hj with rfl | rfl | rfl | rfl | rfl | rfl | rfl | rfl | rfl<;>simp [lk]) (fun _ h=>h) (hf t)⟩
 have hC:∀ z,Bv [.lr f 69 [19,20] Az A3 z]:=fun z=>Or.inr ⟨_,_,_,_,_,_,rfl⟩
 refine Ym.ofX (k:=8388609) (fr:=f) (nt:=69) (ps:=[19,20]) (pa:=Az) (pb:=A3) (args:=[vi i,vi m]) (s:= .done .ret) gok eok mixed 10000000 hK1 hK2 hlt (by simp [fKS]) (by simp [fL]) (by simp) (by simp) (by simp) ?_;clear hK1 hK2;unfold FA at ho;by_cases hm:m=0
 . rw [if_pos hm] at ho
   subst hm;have cb:=pP s x hs hlo;cases hbs:Ep s x with
   | error b=>
     rw [hbs] at ho cb;simp only [Oy] at cb;have he:e=(b,0,0):=by cases ho;rfl
     subst he;have hbe:=TP hbs;have h54:=mR hbs;have e1:Iw x 0 s=s:=by unfold Iw;rw [if_pos rfl,hbs]
     have e2:FC i 0 (b,0,0)=(b,ev0):=by unfold FC;simp only;rw [if_neg h54]
     rw [e1,e2];simp only;by_cases h0:acc=[]
     . subst h0
       refine ⟨fun E hE hs=>?_⟩;unfold fL;rw [Aq,Au]
       generalize V.lr f 69 [19,20] Az A3=rc at hW hC ⊢
       simp [Az,BD];simp [A3];refine AL [(10,23631488)] (by kernel_rfl) ?_;simp [inC,Nat.testBit,hx,f5,f6];refine CLa cb ?_;simp [AA,inC,Nat.testBit,f8,f9,hbe];refine ⟨trivial,by simp,lk [(8388609,8388609),(7340033,7340033),(1,1),(1048577,1048577),(2097153,2097153),(3145729,3145729),(4194305,4194305),(5242881,5242881),(0,0),(7,7)],?_⟩;simp [hW,hC,fKS,ev0]
     . refine ⟨fun E hE hs=>?_⟩
       unfold fL;rw [Ak h0,AZ h0]
       generalize V.lr f 69 [19,20] Az A3=rc at hW hC ⊢
       simp [Az,BD];simp [A3];refine AL [(10,23631488)] (by kernel_rfl) ?_;simp [inC,Nat.testBit,hx,f5,f6];refine CLa cb ?_;simp [AA,inC,Nat.testBit,f8,f9,hbe];refine ⟨trivial,by simp,lk [(8388609,8388609),(7340033,7340033),(1,1),(1048577,1048577),(2097153,2097153),(3145729,3145729),(4194305,4194305),(5242881,5242881),(0,0),(7,7)],?_⟩;simp [hW,hC,fKS,ev0]
       all_goals first | exact Or.inl (List.all_eq_true.2 BU) | skip
   | ok t=>
     rw [hbs] at ho cb;simp only [Oy] at cb;simp only at ho;have hto:=ZC hs hlo hbs;have cm:=ko hS k r t x h1 h2 h3 hk hR hg hto hlo;rw [ho] at cm;simp only [RB] at cm;have e1:Iw x 0 s=t:=by unfold Iw;rw [if_pos rfl,hbs]
     rw [e1];rcases ck ho with ⟨h54,_⟩ | ⟨h9,k1,k2⟩
     . have e2:FC i 0 e=((54:Int),e.2.1,(i:Int),(0:Int),e.2.2):=by unfold FC;rw [h54,if_pos rfl];rfl
       rw [e2];rw [h54] at cm;simp only;by_cases h0:acc=[]
       . subst h0
         refine ⟨fun E hE hs=>?_⟩;unfold fL;rw [Aq,Au]
         generalize V.lr f 69 [19,20] Az A3=rc at hW hC ⊢
         simp [Az,BD];simp [A3];refine AL [(10,23631488)] (by kernel_rfl) ?_;simp [inC,Nat.testBit,hx,f5,f6];refine CLa cb ?_;simp [AA,inC,Nat.testBit,f5];refine AL [(13,42505856),(14,43554432)] (by kernel_rfl) ?_;simp [inC,Nat.testBit,hx,f4,f5,f6];refine CLa cm ?_;simp [AA,inC,Nat.testBit,f8,f9];refine ⟨trivial,by simp,lk [(8388609,8388609),(7340033,7340033),(1,1),(1048577,1048577),(2097153,2097153),(3145729,3145729),(4194305,4194305),(5242881,5242881),(0,0),(7,7)],?_⟩;simp [hW,hC,fKS,ev0]
       . refine ⟨fun E hE hs=>?_⟩
         unfold fL;rw [Ak h0,AZ h0]
         generalize V.lr f 69 [19,20] Az A3=rc at hW hC ⊢
         simp [Az,BD];simp [A3];refine AL [(10,23631488)] (by kernel_rfl) ?_;simp [inC,Nat.testBit,hx,f5,f6];refine CLa cb ?_;simp [AA,inC,Nat.testBit,f5];refine AL [(13,42505856),(14,43554432)] (by kernel_rfl) ?_;simp [inC,Nat.testBit,hx,f4,f5,f6];refine CLa cm ?_;simp [AA,inC,Nat.testBit,f8,f9];refine ⟨trivial,by simp,lk [(8388609,8388609),(7340033,7340033),(1,1),(1048577,1048577),(2097153,2097153),(3145729,3145729),(4194305,4194305),(5242881,5242881),(0,0),(7,7)],?_⟩;simp [hW,hC,fKS,ev0]
         all_goals first | exact Or.inl (List.all_eq_true.2 BU) | skip
     . have e2:FC i 0 e=(9,ev0):=by unfold FC;rw [h9,if_neg (by decide)]
       rw [e2];rw [h9,k1,k2] at cm;simp only;by_cases h0:acc=[]
       . subst h0
         refine ⟨fun E hE hs=>?_⟩;unfold fL;rw [Aq,Au]
         generalize V.lr f 69 [19,20] Az A3=rc at hW hC ⊢
         simp [Az,BD];simp [A3];refine AL [(10,23631488)] (by kernel_rfl) ?_;simp [inC,Nat.testBit,hx,f5,f6];refine CLa cb ?_;simp [AA,inC,Nat.testBit,f5];refine AL [(13,42505856),(14,43554432)] (by kernel_rfl) ?_;simp [inC,Nat.testBit,hx,f4,f5,f6];refine CLa cm ?_;simp [AA,inC,Nat.testBit,f8,f9];refine ⟨trivial,by simp,lk [(8388609,8388609),(7340033,7340033),(1,1),(1048577,1048577),(2097153,2097153),(3145729,3145729),(4194305,4194305),(5242881,5242881),(0,0),(7,7)],?_⟩;simp [hW,hC,fKS,ev0]
       . refine ⟨fun E hE hs=>?_⟩
         unfold fL;rw [Ak h0,AZ h0]
         generalize V.lr f 69 [19,20] Az A3=rc at hW hC ⊢
         simp [Az,BD];simp [A3];refine AL [(10,23631488)] (by kernel_rfl) ?_;simp [inC,Nat.testBit,hx,f5,f6];refine CLa cb ?_;simp [AA,inC,Nat.testBit,f5];refine AL [(13,42505856),(14,43554432)] (by kernel_rfl) ?_;simp [inC,Nat.testBit,hx,f4,f5,f6];refine CLa cm ?_;simp [AA,inC,Nat.testBit,f8,f9];refine ⟨trivial,by simp,lk [(8388609,8388609),(7340033,7340033),(1,1),(1048577,1048577),(2097153,2097153),(3145729,3145729),(4194305,4194305),(5242881,5242881),(0,0),(7,7)],?_⟩;simp [hW,hC,fKS,ev0]
         all_goals first | exact Or.inl (List.all_eq_true.2 BU) | skip
 . rw [if_neg hm] at ho
   have cm:=ko hS k r s x h1 h2 h3 hk hR hg hs hlo;rw [ho] at cm;simp only [RB] at cm;have e1:Iw x m s=s:=by unfold Iw;rw [if_neg hm]
   rw [e1];rcases ck ho with ⟨h54,_⟩ | ⟨h9,k1,k2⟩
   . have e2:FC i m e=((54:Int),e.2.1,(i:Int),(m:Int),e.2.2):=by unfold FC;rw [h54,if_pos rfl]
     rw [e2];rw [h54] at cm;simp only;by_cases h0:acc=[]
     . subst h0
       refine ⟨fun E hE hs=>?_⟩;unfold fL;rw [Aq,Au]
       generalize V.lr f 69 [19,20] Az A3=rc at hW hC ⊢
       simp [Az,BD];simp [A3,hm];refine AL [(13,25728640),(14,26777216)] (by kernel_rfl) ?_;simp [inC,Nat.testBit,hx,f4,f5,f6];refine CLa cm ?_;simp [AA,inC,Nat.testBit,f8,f9];refine ⟨trivial,by simp,lk [(8388609,8388609),(7340033,7340033),(1,1),(1048577,1048577),(2097153,2097153),(3145729,3145729),(4194305,4194305),(5242881,5242881),(0,0),(7,7)],?_⟩;simp [hW,hC,fKS,ev0]
     . refine ⟨fun E hE hs=>?_⟩
       unfold fL;rw [Ak h0,AZ h0]
       generalize V.lr f 69 [19,20] Az A3=rc at hW hC ⊢
       simp [Az,BD];simp [A3,hm];refine AL [(13,25728640),(14,26777216)] (by kernel_rfl) ?_;simp [inC,Nat.testBit,hx,f4,f5,f6];refine CLa cm ?_;simp [AA,inC,Nat.testBit,f8,f9];refine ⟨trivial,by simp,lk [(8388609,8388609),(7340033,7340033),(1,1),(1048577,1048577),(2097153,2097153),(3145729,3145729),(4194305,4194305),(5242881,5242881),(0,0),(7,7)],?_⟩;simp [hW,hC,fKS,ev0]
       all_goals first | exact Or.inl (List.all_eq_true.2 BU) | skip
   . have e2:FC i m e=(9,ev0):=by unfold FC;rw [h9,if_neg (by decide)]
     rw [e2];rw [h9,k1,k2] at cm;simp only;by_cases h0:acc=[]
     . subst h0
       refine ⟨fun E hE hs=>?_⟩;unfold fL;rw [Aq,Au]
       generalize V.lr f 69 [19,20] Az A3=rc at hW hC ⊢
       simp [Az,BD];simp [A3,hm];refine AL [(13,25728640),(14,26777216)] (by kernel_rfl) ?_;simp [inC,Nat.testBit,hx,f4,f5,f6];refine CLa cm ?_;simp [AA,inC,Nat.testBit,f8,f9];refine ⟨trivial,by simp,lk [(8388609,8388609),(7340033,7340033),(1,1),(1048577,1048577),(2097153,2097153),(3145729,3145729),(4194305,4194305),(5242881,5242881),(0,0),(7,7)],?_⟩;simp [hW,hC,fKS,ev0]
     . refine ⟨fun E hE hs=>?_⟩
       unfold fL;rw [Ak h0,AZ h0]
       generalize V.lr f 69 [19,20] Az A3=rc at hW hC ⊢
       simp [Az,BD];simp [A3,hm];refine AL [(13,25728640),(14,26777216)] (by kernel_rfl) ?_;simp [inC,Nat.testBit,hx,f4,f5,f6];refine CLa cm ?_;simp [AA,inC,Nat.testBit,f8,f9];refine ⟨trivial,by simp,lk [(8388609,8388609),(7340033,7340033),(1,1),(1048577,1048577),(2097153,2097153),(3145729,3145729),(4194305,4194305),(5242881,5242881),(0,0),(7,7)],?_⟩;simp [hW,hC,fKS,ev0]
       all_goals first | exact Or.inl (List.all_eq_true.2 BU) | skip
def F6 (a:Except (Int × Evt) (List Shp)):Int × Evt:=match a with | .ok _=>(0,ev0) | .error e=>e
theorem TS {k:Sky} {r:Rig} {l:List Leg} (hT:Va k r) (hl:∀ x∈l,BE x=true):∀ {im:List (Nat × Nat)} {s:Shp},A6 s=true->∀ n∈D6 k r l im s,A6 n=true
 | [],s,_,n,h=>by simp [D6] at h
 | (i,m)::rest,s,hs,n,h=>by
   unfold D6 at h;split at h
   . simp at h
   rename_i x hx;split at h
   . simp at h
   rename_i n1 h1;have h2:=Q7 hT hs (hl x (List.mem_of_getElem? hx)) h1;rcases List.mem_cons.1 h with rfl | h
   . exact h2
   . exact TS hT hl h2 n h
theorem fW {s:Shp} {ns:List Shp} (hs:A6 s=true) (hn:∀ n∈ns,A6 n=true) {j:Nat} (hj:j<=ns.length):A6 (DX s ns j)=true:=by
 unfold DX;split
 . exact hs
 . obtain ⟨n,hnn⟩:∃ n,ns[j-1]?= some n:=⟨_,List.getElem?_eq_getElem (by omega)⟩
   rw [hnn];exact hn n (List.mem_of_getElem? hnn)
theorem Vb {s n:Shp} {ns:List Shp} {j:Nat} (h:ns[j]?= some n):DX s ns (j+1)=n:=by
 unfold DX;rw [if_neg (by omega),Nat.add_sub_cancel,h];rfl
theorem fX (l:List Shp):∀ (a:Nat) (b:List V),(a,b)∈(0,[hdF 25 l 1])::ouF Ca l 1->∀ c∈b,AC (InB ((0,[hdF 25 l 1])::ouF Ca l 1)) AR c:=by
 by_cases h0:l=[]
 . subst h0;simp [Aq,Au]
 . rw [Ak h0,AZ h0]
   intro a b hab c hc;simp only [List.mem_cons,List.not_mem_nil,or_false,Prod.mk.injEq] at hab;rcases hab with ⟨rfl,rfl⟩ | ⟨rfl,rfl⟩
   . simp at hc;subst hc;simp
   . obtain ⟨d,_,rfl⟩:=List.mem_map.1 (show c∈List.map V.d (List.map Ca l).flatten from hc)
     simp
def fT (k:Sky) (r:Rig) (l:List Leg) (acc:List Shp) (s:Shp) (e:Evt) (er:Int):List (Nat × List V):=
 [(7340033,[.d (Bs l)]),(1,[D2 k r]),(1048577,shB s),(2097153,[.d (Bs l)]),(3145729,[.cl 104 [.lp 0 0]]),(4194305,evL e),(5242881,[vi er]),(0,[hdF 25 acc 7])]++ouF Ca acc 7
theorem Vc (k:Sky) (r:Rig) (l:List Leg) (f:Nat->V) (z:LSt) (acc:List Shp) (s:Shp) (e:Evt) (er:Int):fL k r l f z acc s e er=(8388609,[.lr f 69 [19,20] Az A3 z])::fT k r l acc s e er:=rfl
theorem NG:fKS=8388609::[7340033,1,1048577,2097153,3145729,4194305,5242881,0]:=rfl
theorem pQ (hS:SortOk) (k:Sky) (r:Rig) (l:List Leg) (s:Shp) (hl:l.length<=100) (hok:∀ x∈l,BE x=true) (h1:k.s.length<=1000000) (h2:k.w.length<=1000000) (h3:r.reg.length<=1000000) (hk:BV k=true) (hR:CF r=true) (hg:Ey k r=true) (hs:A6 s=true):
   Cm prog 103 [D2 k r,Cl s (.d (AX s.gas.cs)), .d (Bs l), .cl 104 [.lp 0 0]] (lk [(0,[.d (.lit (.slice none 0 0))])]) [0] (.ret (.tup [Ys (F6 (Dt k r l (BN 0 l) s)).2,vi (F6 (Dt k r l (BN 0 l) s)).1])) (lk ([(0,[hdF 25 (D6 k r l (BN 0 l) s) 1])]++ouF Ca (D6 k r l (BN 0 l) s) 1)):=by
 have hT:Va k r:=⟨hk,Hy hR,hg⟩
 have hlen:=Kv (i:=0) hok
 have hmem:∀ p∈BN 0 l,∃ x,l[p.1]?= some x:=fun p hp=>by
   obtain ⟨x,_,h,_⟩:=ax hp;exact ⟨x,by simpa using h⟩
 have hend:=LQ (k:=k) (r:=r) (s:=s) hmem;have hrd:∀ {j:Nat} {n:Shp},(D6 k r l (BN 0 l) s)[j]?= some n->_:=fun h=>LP h
 have hnok:=TS hT hok (im:=BN 0 l) hs
 have hlb:(BN 0 l).length<=60000:=by
   have:=KA hok;omega
 obtain ⟨ns,hns⟩:∃ ns,D6 k r l (BN 0 l) s=ns:=⟨_,rfl⟩
 obtain ⟨FK,hFK⟩:∃ FK,Dt k r l (BN 0 l) s=FK:=⟨_,rfl⟩
 rw [hns] at hend hnok hrd ⊢;rw [hFK] at hend ⊢
 have hnl:ns.length<=(BN 0 l).length:=by
   rcases hend with ⟨_,h⟩ | ⟨i,m,x,e,h,_⟩
   . omega
   . have:=(List.getElem?_eq_some_iff.1 h).1;omega
 have hsj:∀ {j:Nat},j<=ns.length->A6 (DX s ns j)=true:=fun hj=>fW hs hnok hj
 refine Cm.by gok eok mixed 1 func103 AFN rfl (by simp [ntmps103]) (by simp) (A7.at (by simp)) (by simp) (by
   refine ⟨by simp,?_⟩;exact fun p hp c hc=>fX ns p.1 p.2 hp c hc) fun E hs' hE=>?_
 simp [p103];refine CLa (qu l) ?_;simp;have hnt:E.nt=69:=by rw [hE.1];exact ntmps103
 rw [<-JI (Γ:=tys) (eqs:=eqs)];obtain ⟨f,hf⟩:∃ f,f=upd (upd (upd (upd (upd (upd (upd (upd (Dn 0 [D2 k r,Cl s (.d (AX s.gas.cs)), .d (Bs l), .cl 104 [.lp 0 0]]) 4 (.lp 1 0)) 5 (.lp 1048577 0)) 6 (.lp 2097153 0)) 7 (.lp 3145729 0)) 8 (.lp 4194305 0)) 9 (.lp 5242881 0)) 17 (.d (Bs l))) 18 (.cl 205 [.lp 7340033 0]):=⟨_,rfl⟩
 have hfA:∀ t,AV (·∈fKS) AR (f t):=fun t=>by
   rw [hf];simp only [AY];split
   . intro c hc;simp at hc;subst hc;exact (by simp [fKS]:(7340033:Nat)∈fKS)
   split
   . exact trivial
   split
   . exact (by simp [fKS]:(5242881:Nat)∈fKS)
   split
   . exact (by simp [fKS]:(4194305:Nat)∈fKS)
   split
   . exact (by simp [fKS]:(3145729:Nat)∈fKS)
   split
   . exact (by simp [fKS]:(2097153:Nat)∈fKS)
   split
   . exact (by simp [fKS]:(1048577:Nat)∈fKS)
   split
   . exact (by simp [fKS]:(1:Nat)∈fKS)
   simp only [Dn];split
   . exact trivial
   split
   . intro c hc;simp at hc;rcases hc with rfl | rfl | rfl | rfl | rfl | rfl | rfl | rfl | rfl | rfl | rfl | rfl | rfl | rfl | rfl | rfl | rfl | rfl | rfl | rfl | rfl | rfl | rfl | rfl | rfl<;>exact trivial
   split
   . exact trivial
   split
   . intro c hc;simp at hc;subst hc;exact (by simp [fKS]:(0:Nat)∈fKS)
   . exact fun c hc=>by simp at hc
 have hFF:kV f:=⟨hfA,by rw [hf];simp,by rw [hf];simp,by rw [hf];simp,by rw [hf];simp,by rw [hf];simp,by rw [hf];simp⟩
 have f18:f 18= .cl 205 [.lp 7340033 0]:=by rw [hf];simp
 obtain ⟨_,f4,f5,f6,f7,f8,f9⟩:=id hFF;rw [<-hf];have hK:=fun z acc t e er=>Ol k r l f z acc t e er hfA
 have hN:∀ i∈fKS,i<1000000000:=by simp [fKS]
 have hX:∀ i:Nat,∀ x∈fXS (ns.take i),x<1048576:=fun i x hx=>by
   unfold fXS at hx;split at hx<;>simp at hx;omega
 have hrec:∀ z acc t e er,∃ fr nt ps pa pb jmp,lk (fL k r l f z acc t e er) 8388609=some [.lr fr nt ps pa pb jmp]/\ps.length=2:=fun z acc t e er=>⟨f,69,[19,20],Az,A3,z,by simp [fL],rfl⟩
 have hbox:∀ z acc t e er,lk (fL k r l f z acc t e er) 7340033=some [.d (Bs l)]:=fun z acc t e er=>by simp [fL]
 have hround:∀ j i m,j<ns.length->(BN 0 l)[j]?= some (i,m)->Ym prog 8388609 [vi i,vi m] (lk (fL k r l f .ready (ns.take j) (DX s ns j) ev0 0)) fKS (.ret (vb true)) (lk (fL k r l f .ready (ns.take (j+1)) (DX s ns (j+1)) ev0 0)):=fun j i m hj him=>by
   obtain ⟨n,hn⟩:=gE hj;obtain ⟨i',m',x,e1,e2,e3⟩:=hrd hn;rw [him] at e1;cases e1;have:=VQ hS k r l f hFF (ns.take j) (DX s ns j) n i m x (by omega) (by rw [List.length_take];omega) h1 h2 h3 hk hR hg (hsj (by omega)) (hok x (List.mem_of_getElem? e2)) e2 e3;rw [Vb hn,List.take_add_one,hn];exact this
 rcases hend with ⟨hok1,hlen1⟩ | ⟨i,m,x,e,hm1,hm2,hm3,hm4⟩
 ·
   have c:=Jl l (by omega) hok fKS (fun j=>fXS (ns.take j)) 8388609 7340033 ns.length (fun _=>true) (fun j=>fL k r l f .ready (ns.take j) (DX s ns j) ev0 0) (by simp [fKS]) (by simp [fKS]) hN hX (by omega) (fun j _=>hK _ _ _ _ _) (fun j _=>hrec _ _ _ _ _) (fun j _=>hbox _ _ _ _ _) (fun _ _=>rfl) (Or.inl hlen1) (fun j i m hj him=>hround j i m hj him);have hK0:=hK .ready [] s ev0 0;have hKn:=hK .ready ns (DX s ns ns.length) ev0 0;have c0:fL k r l f .ready (ns.take 0) (DX s ns 0) ev0 0=fL k r l f .ready [] s ev0 0:=rfl;have cn:fL k r l f .ready (ns.take ns.length) (DX s ns ns.length) ev0 0=fL k r l f .ready ns (DX s ns ns.length) ev0 0:=by rw [List.take_length]
   rw [c0,cn,Vc,Vc,NG] at c;rw [Vc,NG] at hK0 hKn;have hFe:F6 FK=(0,ev0):=by rw [hok1];rfl
   rw [hFe];refine E3.keepX (fT k r l [] s ev0 0) (fT k r l ns (DX s ns ns.length) ev0 0) [7340033,1,1048577,2097153,3145729,4194305,5242881,0] (fXS []) (fXS ns) (.tup []) .ready hE.2 (g:=205) (caps:=[.lp 7340033 0]) (by simp [f18]) (by rw [hnt];exact c) (by rw [hnt];exact hK0) (by rw [hnt];exact hKn) (fun x hx=>by have:=hX ns.length x (by rw [List.take_length];exact hx);exact this) (by simp [fXS]) (by simp [fXS,fT,Aq,Au,ev0]) (by simp) fun F h1 h2=>?_
   by_cases h0:ns=[]
   . subst h0
     have F0:=h1 (0,_) (by simp [fT,Aq,Au];rfl);have F8:=h1 (4194305,_) (by simp [fT,Aq,Au];rfl);have F9:=h1 (5242881,_) (by simp [fT,Aq,Au];rfl);simp [sg,BJ,DS,DR] at F0 F8 F9;rw [Aq,Au]
     show Ft 0 _ .normal _
     simp [f8,f9,F8,F9,AA];refine AB.by (lk [(0,0)]) ?_;simp [results103,F0,ev0,f8,f9]
   . have F0:=h1 (0,_) (by simp [fT,Ak h0,AZ h0];rfl)
     have F7:=h1 (7,_) (by simp [fT,Ak h0,AZ h0];rfl);have F8:=h1 (4194305,_) (by simp [fT,Ak h0,AZ h0];rfl);have F9:=h1 (5242881,_) (by simp [fT,Ak h0,AZ h0];rfl);simp [sg,BJ,DS,DR] at F0 F7 F8 F9;rw [Ak h0,AZ h0]
     show Ft 0 _ .normal _
     simp [f8,f9,F8,F9,AA];refine AB.by (lk [(0,0),(1,9437192)]) ?_;simp [results103,F0,F7,ev0,f8,f9]
     all_goals first | exact Or.inl (List.all_eq_true.2 BU) | skip
 . have hal:ns.length<(BN 0 l).length:=(List.getElem?_eq_some_iff.1 hm1).1
   obtain ⟨EZ,hEZ⟩:∃ EZ,FC i m e=EZ:=⟨_,rfl⟩
   have hFe:F6 FK=EZ:=by rw [hm4,hEZ];rfl
   rw [hFe];have hfail:=co hS k r l f hFF ns (DX s ns ns.length) i m x e (by omega) h1 h2 h3 hk hR hg (hsj (Nat.le_refl _)) (hok x (List.mem_of_getElem? hm2)) hm2 hm3;rw [hEZ] at hfail;obtain ⟨SF,hSF⟩:∃ SF,Iw x m (DX s ns ns.length)=SF:=⟨_,rfl⟩
   rw [hSF] at hfail;obtain ⟨LL,hLL⟩:∃ LL:Nat->List (Nat × List V),LL=fun j=>if j<=ns.length then fL k r l f .ready (ns.take j) (DX s ns j) ev0 0 else fL k r l f (.done .ret) ns SF EZ.2 EZ.1:=⟨_,rfl⟩
   have LLa:∀ j,j<=ns.length->LL j=fL k r l f .ready (ns.take j) (DX s ns j) ev0 0:=fun j hj=>by rw [hLL];simp only;rw [if_pos hj]
   have LLb:LL (ns.length+1)=fL k r l f (.done .ret) ns SF EZ.2 EZ.1:=by rw [hLL];simp only;rw [if_neg (by omega)]
   have tk:∀ j,ns.length<=j->ns.take j=ns:=fun j hj=>List.take_of_length_le hj
   have c:=Jl l (by omega) hok fKS (fun j=>fXS (ns.take j)) 8388609 7340033 (ns.length+1) (fun j=>decide (j<ns.length)) LL (by simp [fKS]) (by simp [fKS]) hN hX (by omega) (fun j hj=>by
       by_cases h:j<=ns.length
       . rw [LLa j h];exact hK _ _ _ _ _
       . rw [show j=ns.length+1 by omega,LLb,tk _ (by omega)];exact hK _ _ _ _ _) (fun j hj=>by
       rw [LLa j (by omega)];exact hrec _ _ _ _ _) (fun j hj=>by
       by_cases h:j<=ns.length
       . rw [LLa j h];exact hbox _ _ _ _ _
       . rw [show j=ns.length+1 by omega,LLb];exact hbox _ _ _ _ _) (fun j hj=>decide_eq_true (by omega)) (Or.inr ⟨by omega,decide_eq_false (by omega)⟩) (fun j i' m' hj him=>by
       by_cases h:j<ns.length
       . rw [LLa j (by omega),LLa (j+1) (by omega),decide_eq_true h];exact hround j i' m' h him
       . have e1:j=ns.length:=by omega
         subst e1;rw [hm1] at him;cases him;rw [LLa ns.length (Nat.le_refl _),LLb,decide_eq_false h,List.take_length];exact hfail)
   have hK0:=hK .ready [] s ev0 0;have hKn:=hK (.done .ret) ns SF EZ.2 EZ.1;have c0:LL 0=fL k r l f .ready [] s ev0 0:=by rw [LLa 0 (by omega)];rfl
   rw [c0,LLb,Vc,Vc,NG] at c;rw [Vc,NG] at hK0 hKn;refine E3.keepX (fT k r l [] s ev0 0) (fT k r l ns SF EZ.2 EZ.1) [7340033,1,1048577,2097153,3145729,4194305,5242881,0] (fXS []) (fXS ns) (.tup []) (.done .ret) hE.2 (g:=205) (caps:=[.lp 7340033 0]) (by simp [f18]) (by rw [hnt];exact c) (by rw [hnt];exact hK0) (by rw [hnt];exact hKn) (fun x hx=>by have:=hX ns.length x (by rw [List.take_length];exact hx);exact this) (by simp [fXS]) (by simp [fXS,fT,Aq,Au,ev0]) (by simp) fun F h1 h2=>?_
   by_cases h0:ns=[]
   . subst h0
     have F0:=h1 (0,_) (by simp [fT,Aq,Au];rfl);have F8:=h1 (4194305,_) (by simp [fT,Aq,Au];rfl);have F9:=h1 (5242881,_) (by simp [fT,Aq,Au];rfl);simp [sg,BJ,DS,DR] at F0 F8 F9;rw [Aq,Au]
     show Ft 0 _ .ret _
     simp;refine AB.by (lk [(0,0)]) ?_;simp [results103,F0,F8,F9,f8,f9]
   . have F0:=h1 (0,_) (by simp [fT,Ak h0,AZ h0];rfl)
     have F7:=h1 (7,_) (by simp [fT,Ak h0,AZ h0];rfl);have F8:=h1 (4194305,_) (by simp [fT,Ak h0,AZ h0];rfl);have F9:=h1 (5242881,_) (by simp [fT,Ak h0,AZ h0];rfl);simp [sg,BJ,DS,DR] at F0 F7 F8 F9;rw [Ak h0,AZ h0]
     show Ft 0 _ .ret _
     simp;refine AB.by (lk [(0,0),(1,9437192)]) ?_;simp [results103,F0,F7,F8,F9,f8,f9]
     all_goals first | exact Or.inl (List.all_eq_true.2 BU) | skip
abbrev cD (l:List Shp):D:= .sl 25 (l.map Ca)
def Lp (a:Except (Int × Evt) (List Shp)):List Shp:=match a with | .ok ns=>ns | .error _=>[]
abbrev AFC (a:Except (Int × Evt) (List Shp)):V:= .tup [.d (cD (Lp a)),Ys (F6 a).2,vi (F6 a).1]
theorem ABc {k:Sky} {r:Rig} {s:Shp} {a b:Int} (ha:(if A6 s then (0:Int) else 52)=a) (hz:¬ JC k r s b=0):(¬ QG k r a b=0/\QG k r a b=JC k r s b)\/(BV k=true/\CF r=true/\a=0/\b=0/\Ey k r=false/\JC k r s b=2):=by
 unfold QG JC at*;unfold e0 e1;cases h1:BV k
 . left;simp
 . cases h2:CF r
   . left;simp
   . cases h3:A6 s
     . rw [h3] at ha;simp at ha;subst ha;left;simp
     . rw [h3] at ha;simp at ha;subst ha
       by_cases hb0:b=0
       . cases h4:Ey k r
         . right;simp [hb0]
         . rw [h1,h2,h3,h4,hb0] at hz;simp at hz
       . left;simp [hb0]
theorem Tv {l:List Leg} (h:C0 l=0):l.length<=20/\(∀ x∈l,BE x=true)/\Cv l<=600:=by
 unfold C0 at h;split at h
 . simp at h
 split at h
 . rename_i h1 h2
   split at h
   . simp at h
   . exact ⟨by omega,List.all_eq_true.1 h2,by omega⟩
 . simp at h
theorem mK (ID:Nat) (hI:2<=ID) (hS:SortOk) (k:Sky) (r:Rig) (l:List Leg) (s:Shp) (hl:l.length<=100) (hok:∀ x∈l,BE x=true) (h1:k.s.length<=1000000) (h2:k.w.length<=1000000) (h3:r.reg.length<=1000000) (hk:BV k=true) (hR:CF r=true) (hg:Ey k r=true) (hs:A6 s=true):
   Cm prog 103 [D2 k r,Cl s (.d (AX s.gas.cs)), .d (Bs l), .cl 104 [.lp ID 0]] (lk [(ID,[.d (.lit (.slice none 0 0))])]) [ID] (.ret (.tup [Ys (F6 (Dt k r l (BN 0 l) s)).2,vi (F6 (Dt k r l (BN 0 l) s)).1])) (lk ([(ID,[hdF 25 (D6 k r l (BN 0 l) s) 1])]++ouF Ca (D6 k r l (BN 0 l) s) 1)):=by
 have h:=pQ hS k r l s hl hok h1 h2 h3 hk hR hg hs
 generalize D6 k r l (BN 0 l) s=ns at*
 generalize F6 (Dt k r l (BN 0 l) s)=e at*
 have hr:∀ l:List Shp,(AH Ca l).map (BJ fun i=>if i=0 then ID else i)=AH Ca l:=fun l=>by
   simp [AH,List.map_flatten,Function.comp_def]
 have:=Cm.rename (fun i=>if i=0 then ID else i) 2 (by intro i j hi hj;split<;>split<;>omega) h (by simp [BW]) (by
   by_cases h0:ns=[]
   . subst h0;simp [BW,Aq,Au]
   . simp [BW,Ak h0,AZ h0]) (by simp)
 have hc:HR (fun i=>if i=0 then ID else i) (V.cl 104 [.lp 0 0])= .cl 104 [.lp ID 0]:=rfl;by_cases h0:ns=[]
 . subst h0
   rw [Aq,Au] at this ⊢;simpa [Ea,HW,hc] using this
 . rw [Ak h0,AZ h0] at this ⊢
   simpa [Ea,HW,hr,hc] using this
theorem qt (hS:SortOk) (k:Sky) (r:Rig) (s:Shp) (l:List Leg) (h1:k.s.length<=1000000) (h2:k.w.length<=1000000) (h3:r.reg.length<=1000000) (h4:s.gas.cs.length<=1000000) (h5:l.length<=1000000) (h6:∀ x∈l,x.acts.length<=1000000):Ct prog 45 [Eu k,Fj r,Cl s (.d (AX s.gas.cs)), .d (Bs l)] (.tup [hdF 25 (Lp (HA k r s l)) 0,Ys (F6 (HA k r s l)).2,vi (F6 (HA k r s l)).1]) (ouF Ca (Lp (HA k r s l)) 0):=by
 have c1:=qF s (by omega);have c2:=AEM l h5 h6;obtain ⟨a,ha⟩:∃ a:Int,(if A6 s then 0 else 52)=a:=⟨_,rfl⟩
 obtain ⟨b,hb⟩:∃ b:Int,C0 l=b:=⟨_,rfl⟩
 rw [ha] at c1;rw [hb] at c2;unfold HA;rw [hb];by_cases hz:JC k r s b=0
 . rw [if_pos hz]
   obtain ⟨hk,hR,hs,hb0,hg⟩:=MD hz;have ha0:a=0:=by rw [<-ha,hs];rfl
   subst ha0 hb0;obtain ⟨q1,q2,q3⟩:=Tv hb;have c3:=fd 12582912 hS k r h1 h2 h3 hk hR hg;have c4:=mK 22020096 (by omega) hS k r l s (by omega) q2 h1 h2 h3 hk hR hg hs
   have hmem:∀ p∈BN 0 l,∃ x,l[p.1]?= some x:=fun p hp=>by
     obtain ⟨x,_,h,_⟩:=ax hp;exact ⟨x,by simpa using h⟩
   have hend:=LQ (k:=k) (r:=r) (s:=s) hmem;have herr:=fun e=>NF (k:=k) (r:=r) (l:=l) (im:=BN 0 l) (s:=s) (e:=e) hmem
   generalize D6 k r l (BN 0 l) s=ns at*
   generalize Dt k r l (BN 0 l) s=FK at*
   rcases hend with ⟨e1,_⟩ | ⟨i,m,x,e,_,_,_,e4⟩
   . subst e1
     simp only [Lp,F6] at c4 ⊢;by_cases h0:ns=[]
     . subst h0
       rw [Aq,Au] at c4 ⊢;refine CB func45 c45 fun E hE=>?_
       simp [p45];refine AL [(7,12582912)] (by kernel_rfl) ?_;simp [inC,Nat.testBit];refine CLa c1 ?_;simp [inC,Nat.testBit];refine CLa c2 ?_;simp [AA,AM,inC,Nat.testBit];refine CDs c3 (by simp [wrL,inC,Nat.testBit]) ?_;simp;refine CRs c4 (by simp) ?_;simp [AA,ev0];apply RZ;simp [results45]
     . rw [Ak h0,AZ h0] at c4 ⊢
       refine CB func45 c45 fun E hE=>?_
       simp [p45];refine AL [(7,12582912)] (by kernel_rfl) ?_;simp [inC,Nat.testBit];refine CLa c1 ?_;simp [inC,Nat.testBit];refine CLa c2 ?_;simp [AA,AM,inC,Nat.testBit];refine CDs c3 (by simp [wrL,inC,Nat.testBit]) ?_;simp;refine CRs c4 (by simp) ?_;simp [AA,ev0];refine AB.by (lk [(0,27262977)]) ?_;simp [results45]
       all_goals first | exact Or.inl (List.all_eq_true.2 BU) | skip
   . have he:=(herr _ e4).1
     subst e4;simp only [Lp,F6,Aq,Au] at c4 ⊢
     generalize FC i m e=ee at*
     by_cases h0:ns=[]
     . subst h0
       rw [Aq,Au] at c4;refine CB func45 c45 fun E hE=>?_
       simp [p45];refine AL [(7,12582912)] (by kernel_rfl) ?_;simp [inC,Nat.testBit];refine CLa c1 ?_;simp [inC,Nat.testBit];refine CLa c2 ?_;simp [AA,AM,inC,Nat.testBit];refine CDs c3 (by simp [wrL,inC,Nat.testBit]) ?_;simp;refine CRs c4 (by simp) ?_;simp [AA,he];refine AL [(3,4194304)] (by kernel_rfl) ?_;simp [AA,inC,Nat.testBit];apply RZ;simp [results45]
     . rw [Ak h0,AZ h0] at c4
       refine CB func45 c45 fun E hE=>?_
       simp [p45];refine AL [(7,12582912)] (by kernel_rfl) ?_;simp [inC,Nat.testBit];refine CLa c1 ?_;simp [inC,Nat.testBit];refine CLa c2 ?_;simp [AA,AM,inC,Nat.testBit];refine CDs c3 (by simp [wrL,inC,Nat.testBit]) ?_;simp;refine CRs c4 (by simp) ?_;simp [AA,he];refine AL [(3,4194304)] (by kernel_rfl) ?_;simp [AA,inC,Nat.testBit];apply RZ;simp [results45]
 . rw [if_neg hz]
   simp only [Lp,F6,Aq,Au,ev0];rcases ABc ha hz with ⟨k1,k2⟩ | ⟨k1,k2,k3,k4,k5,k6⟩
   . have c3:=XK hS k r a b h1 h2 h3 k1
     rw [<-k2]
     generalize QG k r a b=e at*
     refine CB func45 c45 fun E hE=>?_
     simp [p45];refine AL [] (by kernel_rfl) ?_;simp [inC,Nat.testBit];refine CLa c1 ?_;simp [inC,Nat.testBit];refine CLa c2 ?_;simp [AA,AM,inC,Nat.testBit];refine CLb (c3) (by simp [Ap,Hcl,inC,Nat.testBit]) ?_;simp [AA,k1];apply RZ;simp [results45]
   . subst k3 k4
     have c3:=XM hS k r h1 h2 h3 k1 k2 k5;rw [k6];refine CB func45 c45 fun E hE=>?_
     simp [p45];refine AL [] (by kernel_rfl) ?_;simp [inC,Nat.testBit];refine CLa c1 ?_;simp [inC,Nat.testBit];refine CLa c2 ?_;simp [AA,AM,inC,Nat.testBit];refine CLb (c3) (by simp [Ap,Hcl,inC,Nat.testBit]) ?_;simp [AA];apply RZ;simp [results45]
theorem mL (hS:SortOk) (k:Sky) (r:Rig) (s:Shp) (l:List Leg) (h1:k.s.length<=1000000) (h2:k.w.length<=1000000) (h3:r.reg.length<=1000000) (h4:s.gas.cs.length<=1000000) (h5:l.length<=1000000) (h6:∀ x∈l,x.acts.length<=1000000):Ct prog 45 [Eu k,Fj r,Cl s (.d (AX s.gas.cs)), .d (Bs l)] (AFC (HA k r s l)) []:=by
 refine Cm.freeze (qt hS k r s l h1 h2 h3 h4 h5 h6) ?_;obtain ⟨ns,hns⟩:∃ ns,Lp (HA k r s l)=ns:=⟨_,rfl⟩
 unfold AFC;rw [hns];have z:∀ (H:Hp) (x:Int),FzC H (vi x) (vi x):=fun H x=>⟨_,rfl, .inl rfl⟩
 refine ⟨?_,⟨z _ _,z _ _,z _ _,z _ _,trivial⟩, .inl rfl,trivial⟩;by_cases h0:ns=[]
 . subst h0
   rw [Aq];exact .inr ⟨rfl,_,rfl⟩
 . rw [Ak h0,AZ h0]
   exact B0 (H:=lk [(0,AH Ca ns)]) (id:=0) WM (l:=ns) (by simp)
def xb (k:Sky) (r:Rig) (l:List Leg):List (Nat × Nat)->Shp->List Shp->Int × Evt
 | [],_,_=>(0,ev0)
 | (i,m)::rest,s,cs=>match l[i]?,cs with
   | some x,c::cs=>match FA k r x m s with
     | .error e=>FC i m e
     | .ok n=>if Xo c n then xb k r l rest c cs else (8,ev0)
   | _,_=>(8,ev0)
theorem ACd {k:Sky} {r:Rig} {l:List Leg}:∀ {im:List (Nat × Nat)} {s:Shp} {cs:List Shp},(xb k r l im s cs).1=ACa k r l im s cs
 | [],s,cs=>by unfold xb ACa;rfl
 | (i,m)::rest,s,cs=>by
   unfold xb ACa;cases hx:l[i]? with
   | none=>rfl
   | some x=>
     cases cs with
     | nil=>rfl
     | cons c cs=>
       simp only;cases ho:FA k r x m s with
       | error e=>rfl
       | ok n=>
         simp only;split
         . exact ACd
         . rfl
def eN (s:Shp) (cs:List Shp) (j:Nat):Shp:=if j=0 then s else (cs[j-1]?).getD s
theorem ACh {s c:Shp} {cs:List Shp} {j:Nat} (h:cs[j]?= some c):eN s cs (j+1)=c:=by
 unfold eN;rw [if_neg (by omega),Nat.add_sub_cancel,h];rfl
theorem ACi {s c:Shp} {cs:List Shp} {j:Nat} (h:j<=cs.length):eN s (c::cs) (j+1)=eN c cs j:=by
 unfold eN;cases j with
 | zero=>simp
 | succ j=>
   rw [if_neg (by omega),if_neg (by omega)];have h1:j<cs.length:=by omega
   simp [h1]
theorem ACm {k:Sky} {r:Rig} {l:List Leg}:∀ {im:List (Nat × Nat)} {s:Shp} {cs:List Shp},(∀ p∈im,∃ x,l[p.1]?= some x)->im.length=cs.length->
   ∃ M,M<=im.length/\(∀ j,j<M->∃ i m x n c,im[j]?= some (i,m)/\l[i]?= some x/\cs[j]?= some c/\FA k r x m (eN s cs j)= .ok n/\Xo c n=true)/\
     ((M=im.length/\xb k r l im s cs=(0,ev0))\/
      (∃ i m x e,im[M]?= some (i,m)/\l[i]?= some x/\FA k r x m (eN s cs M)= .error e/\xb k r l im s cs=FC i m e)\/
      (∃ i m x n c,im[M]?= some (i,m)/\l[i]?= some x/\cs[M]?= some c/\FA k r x m (eN s cs M)= .ok n/\Xo c n=false/\xb k r l im s cs=(8,ev0)))
 | [],s,cs,_,_=>⟨0,Nat.le_refl _,fun j h=>absurd h (by omega), .inl ⟨rfl,rfl⟩⟩
 | (i,m)::rest,s,[],_,h=>by simp at h
 | (i,m)::rest,s,c::cs,hm,hlen=>by
   obtain ⟨x,hx⟩:=hm (i,m) (by simp);simp only at hx;have hl':rest.length=cs.length:=by simpa using hlen
   cases h1:FA k r x m s with
   | error e=>
     refine ⟨0,Nat.zero_le _,fun j h=>absurd h (by omega), .inr (.inl ⟨i,m,x,e,rfl,hx,h1,?_⟩)⟩;unfold xb;rw [hx];simp only;rw [h1]
   | ok n=>
     cases h2:Xo c n with
     | false=>
       refine ⟨0,Nat.zero_le _,fun j h=>absurd h (by omega), .inr (.inr ⟨i,m,x,n,c,rfl,hx,rfl,h1,h2,?_⟩)⟩;unfold xb;rw [hx];simp only;rw [h1];simp only;rw [h2];rfl
     | true=>
       have e0:xb k r l ((i,m)::rest) s (c::cs)=xb k r l rest c cs:=by
         conv=>lhs;unfold xb
         rw [hx];simp only;rw [h1];simp only;rw [h2,if_pos rfl]
       obtain ⟨M,hM,hr,hend⟩:=ACm (im:=rest) (s:=c) (cs:=cs) (fun p hp=>hm p (by simp [hp])) hl';refine ⟨M+1,by simpa using hM,fun j hj=>?_,?_⟩
       . cases j with
         | zero=>exact ⟨i,m,x,n,c,rfl,hx,rfl,h1,h2⟩
         | succ j=>
           obtain ⟨i',m',x',n',c',a1,a2,a3,a4,a5⟩:=hr j (by omega);refine ⟨i',m',x',n',c',by simpa using a1,a2,by simpa using a3,?_,a5⟩;rw [ACi (by omega)];exact a4
       . rw [e0,ACi (by omega)]
         rcases hend with ⟨a1,a2⟩ | ⟨i',m',x',e,a1,a2,a3,a4⟩ | ⟨i',m',x',n',c',a1,a2,a3,a4,a5,a6⟩
         . exact .inl ⟨by simp [a1],a2⟩
         . exact .inr (.inl ⟨i',m',x',e,by simpa using a1,a2,a3,a4⟩)
         . exact .inr (.inr ⟨i',m',x',n',c',by simpa using a1,a2,by simpa using a3,a4,a5,a6⟩)
theorem AD2 (cert:List Shp) (n c:Shp) (j:Nat) (hc:cert[j]?= some c) (hl:cert.length<=100000) (h:Xo c n=true) (h1:A6 c=true) (h2:A6 n=true):Cm prog 132 [Cl n (.d (AX n.gas.cs)), .lp 0 0, .lp 1 0] (lk [(0,[vi ((j:Int)-1)]),(1,[.d (cD cert)])]) [0,1] (.ret (.tup [Cl c (.d (AX c.gas.cs)),vi 0])) (lk [(0,[vi j]),(1,[.d (cD cert)])]):=by
 have d1:=AD9 c n h1 h2;rw [h] at d1;have hj:=(List.getElem?_eq_some_iff.1 hc).1;have hjI:(j:Int)<cert.length:=by omega
 have w:IntKind.wrap .i64 (j:Int)=(j:Int):=AD (by omega) (by omega);refine CM 2 func132 AEI fun E hs hE=>?_
 simp [p132,AA,w,inC,Nat.testBit,hc];refine CLa d1 ?_;simp [AA,hc];refine AB.by (lk [(0,0),(1,1)]) ?_;simp [results132]
theorem AD3 (cert:List Shp) (n c:Shp) (j:Nat) (hc:cert[j]?= some c) (hl:cert.length<=100000) (h:Xo c n=false) (h1:A6 c=true) (h2:A6 n=true):Cm prog 132 [Cl n (.d (AX n.gas.cs)), .lp 0 0, .lp 1 0] (lk [(0,[vi ((j:Int)-1)]),(1,[.d (cD cert)])]) [0,1] (.ret (.tup [.agg shZ,vi 8])) (lk [(0,[vi j]),(1,[.d (cD cert)])]):=by
 have d1:=AD9 c n h1 h2;rw [h] at d1;have hj:=(List.getElem?_eq_some_iff.1 hc).1;have hjI:(j:Int)<cert.length:=by omega
 have w:IntKind.wrap .i64 (j:Int)=(j:Int):=AD (by omega) (by omega);refine CM 2 func132 AEI fun E hs hE=>?_
 simp [p132,AA,w,inC,Nat.testBit,hc];refine CLa d1 ?_;simp [AA];refine AB.by (lk [(0,0),(1,1)]) ?_;simp [results132]
def cKS:List Nat:=[8388610,7340034,2,1048578,2097154,3145730,4194306,5242882,0,1]
def cL (k:Sky) (r:Rig) (l:List Leg) (cert:List Shp) (f:Nat->V) (z:LSt) (at':Int) (sb:List V) (e:Evt) (er:Int):List (Nat × List V):=
 [(8388610,[.lr f 69 [19,20] Az A3 z]),(7340034,[.d (Bs l)]),(2,[D2 k r]),(1048578,sb),(2097154,[.d (Bs l)]),(3145730,[.cl 132 [.lp 0 0, .lp 1 0]]),(4194306,evL e),(5242882,[vi er]),(0,[vi at']),(1,[.d (cD cert)])]
def SbD (sb:List V):Prop:=¬ sb=[]/\∀ c∈sb,∃ d,c=V.d d
theorem ADq {sb:List V} (h:SbD sb):Bv sb:=Or.inl (List.all_eq_true.2 fun c hc=>by obtain ⟨d,rfl⟩:=h.2 c hc;rfl)
theorem Qk (s:Shp):SbD (shB s):=⟨by simp,fun c hc=>by
 simp only [shB,List.mem_cons,List.not_mem_nil,or_false] at hc;rcases hc with rfl | rfl | rfl | rfl | rfl | rfl | rfl | rfl | rfl | rfl | rfl | rfl | rfl | rfl | rfl | rfl | rfl | rfl | rfl | rfl | rfl | rfl | rfl | rfl | rfl<;>exact ⟨_,rfl⟩⟩
theorem ADr:SbD shZ:=⟨by simp,fun c hc=>by
 simp only [shZ,List.mem_cons,List.not_mem_nil,or_false] at hc;rcases hc with rfl | rfl | rfl | rfl | rfl | rfl | rfl | rfl | rfl | rfl | rfl | rfl | rfl | rfl | rfl | rfl | rfl | rfl | rfl | rfl | rfl | rfl | rfl | rfl | rfl<;>exact ⟨_,rfl⟩⟩
theorem ACf (k:Sky) (r:Rig) (l:List Leg) (cert:List Shp) (f:Nat->V) (z:LSt) (at':Int) (sb:List V) (e:Evt) (er:Int) (hf:∀ t,AV (·∈cKS) AR (f t)) (hb:SbD sb):BT cKS [] (cL k r l cert f z at' sb e er):=by
 refine ⟨rfl,by simp [cKS],?_⟩;intro q hq;simp only [cL,List.mem_cons,List.not_mem_nil,or_false] at hq;rcases hq with rfl | rfl | rfl | rfl | rfl | rfl | rfl | rfl | rfl | rfl
 . exact ⟨by simp,Or.inr ⟨_,_,_,_,_,_,rfl⟩,fun c hc=>by simp at hc;subst hc;exact hf⟩
 rotate_left 2
 . refine ⟨by simpa using hb.1,ADq hb,fun c hc=>?_⟩
   obtain ⟨d,rfl⟩:=hb.2 c hc;exact rfl
 all_goals refine ⟨by simp,Or.inl rfl,fun c hc=>?_⟩
 all_goals simp only [List.mem_cons,List.not_mem_nil,or_false] at hc
 all_goals first
   | (subst hc;exact rfl)
   | (subst hc;simp [CX,W1,W0,rid,cKS,AJ])
   | (rcases hc with rfl | rfl | rfl | rfl<;>exact rfl)
structure ADz (f:Nat->V):Prop where
 av:∀ t,AV (·∈cKS) AR (f t)
 f4:f 4= .lp 2 0
 f5:f 5= .lp 1048578 0
 f6:f 6= .lp 2097154 0
 f7:f 7= .lp 3145730 0
 f8:f 8= .lp 4194306 0
 f9:f 9= .lp 5242882 0
theorem ADc (hS:SortOk) (k:Sky) (r:Rig) (l:List Leg) (cert:List Shp) (f:Nat->V) (hF:ADz f) (j:Nat) (s n c:Shp) (i m:Nat) (x:Leg) (_:l.length<=1000000) (hc:cert.length<=100000) (h1:k.s.length<=1000000) (h2:k.w.length<=1000000) (h3:r.reg.length<=1000000) (hk:BV k=true) (hR:CF r=true) (hg:Ey k r=true) (hs:A6 s=true) (hlo:BE x=true) (hx:l[i]?= some x) (hcj:cert[j]?= some c) (hco:A6 c=true) (hh:Xo c n=true) (ho:FA k r x m s= .ok n):
   Ym prog 8388610 [vi i,vi m] (lk (cL k r l cert f .ready ((j:Int)-1) (shB s) ev0 0)) cKS (.ret (vb true)) (lk (cL k r l cert f .ready j (shB c) ev0 0)):=by
 obtain ⟨hf,f4,f5,f6,f7,f8,f9⟩:=hF;have hil:=(List.getElem?_eq_some_iff.1 hx).1;have hiI:(i:Int)<l.length:=by omega
 have hlt:∀ j∈cKS++[],j<10000000:=by
   intro j hj;simp only [cKS,List.mem_append,List.mem_cons,List.not_mem_nil,or_false] at hj;omega
 have hW:∀ z,WC (lk [(8388610,8388610),(7340034,7340034),(2,2),(1048578,1048578),(2097154,2097154),(3145730,3145730),(4194306,4194306),(5242882,5242882),(0,0),(1,1)]) (.lr f 69 [19,20] Az A3 z) (.lr f 69 [19,20] Az A3 z):=fun z=>⟨rfl,fun t=>AV.mono (fun j hj=>by simp [cKS] at hj;rcases hj with rfl | rfl | rfl | rfl | rfl | rfl | rfl | rfl | rfl | rfl<;>simp [lk]) (fun _ h=>h) (hf t)⟩
 have hC:∀ z,Bv [.lr f 69 [19,20] Az A3 z]:=fun z=>Or.inr ⟨_,_,_,_,_,_,rfl⟩
 have hT:Va k r:=⟨hk,Hy hR,hg⟩
 have hno:=Q7 hT hs hlo ho;have hK1:=ACf k r l cert f .ready ((j:Int)-1) (shB s) ev0 0 hf (Qk s);have hK2:=ACf k r l cert f .ready j (shB c) ev0 0 hf (Qk c);have ca:=AD2 cert n c j hcj hc hh hco hno;refine Ym.ofX (k:=8388610) (fr:=f) (nt:=69) (ps:=[19,20]) (pa:=Az) (pb:=A3) (args:=[vi i,vi m]) (s:= .ready) gok eok mixed 10000000 hK1 hK2 hlt (by simp [cKS]) (by simp [cL]) (by simp) (by simp) (by simp) ?_;obtain ⟨t,ht,hmo,hnx⟩:=Ib.1 ho;have hto:=Ow hs hlo ht;have cm:=ko hS k r t x h1 h2 h3 hk hR hg hto hlo;rw [H2.2 ⟨hmo,hnx⟩] at cm;simp only [RB] at cm;by_cases hm:m=0
 . rw [if_pos hm] at ht
   subst hm;have cb:=pP s x hs hlo;rw [ht] at cb;simp only [Oy] at cb;refine ⟨fun E hE hs=>?_⟩;unfold cL
   generalize V.lr f 69 [19,20] Az A3=rc at hW hC ⊢
   simp [Az,BD];simp [A3];refine AL [(10,23631488)] (by kernel_rfl) ?_;simp [inC,Nat.testBit,hx,f5,f6];refine CLa cb ?_;simp [AA,inC,Nat.testBit,f5];refine AL [(13,42505856),(14,43554432)] (by kernel_rfl) ?_;simp [inC,Nat.testBit,hx,f4,f5,f6];refine CLa cm ?_;simp [AA,inC,Nat.testBit,f7];refine CRs ca (by simp) ?_;simp [AA,f5];refine ⟨trivial,by simp,lk [(8388610,8388610),(7340034,7340034),(2,2),(1048578,1048578),(2097154,2097154),(3145730,3145730),(4194306,4194306),(5242882,5242882),(0,0),(1,1)],?_⟩;simp [hW,hC,cKS,ev0]
 . rw [if_neg hm] at ht
   subst ht;refine ⟨fun E hE hs=>?_⟩;unfold cL
   generalize V.lr f 69 [19,20] Az A3=rc at hW hC ⊢
   simp [Az,BD];simp [A3,hm];refine AL [(13,25728640),(14,26777216)] (by kernel_rfl) ?_;simp [inC,Nat.testBit,hx,f4,f5,f6];refine CLa cm ?_;simp [AA,inC,Nat.testBit,f7];refine CRs ca (by simp) ?_;simp [AA,f5];refine ⟨trivial,by simp,lk [(8388610,8388610),(7340034,7340034),(2,2),(1048578,1048578),(2097154,2097154),(3145730,3145730),(4194306,4194306),(5242882,5242882),(0,0),(1,1)],?_⟩;simp [hW,hC,cKS,ev0]
theorem ADi (hS:SortOk) (k:Sky) (r:Rig) (l:List Leg) (cert:List Shp) (f:Nat->V) (hF:ADz f) (at':Int) (s:Shp) (i m:Nat) (x:Leg) (e:Int × Int × Int) (_:l.length<=1000000) (_:cert.length<=100000) (h1:k.s.length<=1000000) (h2:k.w.length<=1000000) (h3:r.reg.length<=1000000) (hk:BV k=true) (hR:CF r=true) (hg:Ey k r=true) (hs:A6 s=true) (hlo:BE x=true) (hx:l[i]?= some x) (ho:FA k r x m s= .error e):
   Ym prog 8388610 [vi i,vi m] (lk (cL k r l cert f .ready at' (shB s) ev0 0)) cKS (.ret (vb false)) (lk (cL k r l cert f (.done .ret) at' (shB (Iw x m s)) (FC i m e).2 (FC i m e).1)):=by
 obtain ⟨hf,f4,f5,f6,f7,f8,f9⟩:=hF;have hil:=(List.getElem?_eq_some_iff.1 hx).1;have hiI:(i:Int)<l.length:=by omega
 have hlt:∀ j∈cKS++[],j<10000000:=by
   intro j hj;simp only [cKS,List.mem_append,List.mem_cons,List.not_mem_nil,or_false] at hj;omega
 have hW:∀ z,WC (lk [(8388610,8388610),(7340034,7340034),(2,2),(1048578,1048578),(2097154,2097154),(3145730,3145730),(4194306,4194306),(5242882,5242882),(0,0),(1,1)]) (.lr f 69 [19,20] Az A3 z) (.lr f 69 [19,20] Az A3 z):=fun z=>⟨rfl,fun t=>AV.mono (fun j hj=>by simp [cKS] at hj;rcases hj with rfl | rfl | rfl | rfl | rfl | rfl | rfl | rfl | rfl | rfl<;>simp [lk]) (fun _ h=>h) (hf t)⟩
 have hC:∀ z,Bv [.lr f 69 [19,20] Az A3 z]:=fun z=>Or.inr ⟨_,_,_,_,_,_,rfl⟩
 have hK1:=ACf k r l cert f .ready at' (shB s) ev0 0 hf (Qk s);have hK2:=ACf k r l cert f (.done .ret) at' (shB (Iw x m s)) (FC i m e).2 (FC i m e).1 hf (Qk _);refine Ym.ofX (k:=8388610) (fr:=f) (nt:=69) (ps:=[19,20]) (pa:=Az) (pb:=A3) (args:=[vi i,vi m]) (s:= .done .ret) gok eok mixed 10000000 hK1 hK2 hlt (by simp [cKS]) (by simp [cL]) (by simp) (by simp) (by simp) ?_;clear hK1 hK2;unfold FA at ho;by_cases hm:m=0
 . rw [if_pos hm] at ho
   subst hm;have cb:=pP s x hs hlo;cases hbs:Ep s x with
   | error b=>
     rw [hbs] at ho cb;simp only [Oy] at cb;have he:e=(b,0,0):=by cases ho;rfl
     subst he;have hbe:=TP hbs;have h54:=mR hbs;have e1:Iw x 0 s=s:=by unfold Iw;rw [if_pos rfl,hbs]
     have e2:FC i 0 (b,0,0)=(b,ev0):=by unfold FC;simp only;rw [if_neg h54]
     rw [e1,e2];simp only;refine ⟨fun E hE hs=>?_⟩;unfold cL
     generalize V.lr f 69 [19,20] Az A3=rc at hW hC ⊢
     simp [Az,BD];simp [A3];refine AL [(10,23631488)] (by kernel_rfl) ?_;simp [inC,Nat.testBit,hx,f5,f6];refine CLa cb ?_;simp [AA,inC,Nat.testBit,f8,f9,hbe];refine ⟨trivial,by simp,lk [(8388610,8388610),(7340034,7340034),(2,2),(1048578,1048578),(2097154,2097154),(3145730,3145730),(4194306,4194306),(5242882,5242882),(0,0),(1,1)],?_⟩;simp [hW,hC,cKS,ev0]
   | ok t=>
     rw [hbs] at ho cb;simp only [Oy] at cb;simp only at ho;have hto:=ZC hs hlo hbs;have cm:=ko hS k r t x h1 h2 h3 hk hR hg hto hlo;rw [ho] at cm;simp only [RB] at cm;have e1:Iw x 0 s=t:=by unfold Iw;rw [if_pos rfl,hbs]
     rw [e1];rcases ck ho with ⟨h54,_⟩ | ⟨h9,k1,k2⟩
     . have e2:FC i 0 e=((54:Int),e.2.1,(i:Int),(0:Int),e.2.2):=by unfold FC;rw [h54,if_pos rfl];rfl
       rw [e2];rw [h54] at cm;simp only;refine ⟨fun E hE hs=>?_⟩;unfold cL
       generalize V.lr f 69 [19,20] Az A3=rc at hW hC ⊢
       simp [Az,BD];simp [A3];refine AL [(10,23631488)] (by kernel_rfl) ?_;simp [inC,Nat.testBit,hx,f5,f6];refine CLa cb ?_;simp [AA,inC,Nat.testBit,f5];refine AL [(13,42505856),(14,43554432)] (by kernel_rfl) ?_;simp [inC,Nat.testBit,hx,f4,f5,f6];refine CLa cm ?_;simp [AA,inC,Nat.testBit,f8,f9];refine ⟨trivial,by simp,lk [(8388610,8388610),(7340034,7340034),(2,2),(1048578,1048578),(2097154,2097154),(3145730,3145730),(4194306,4194306),(5242882,5242882),(0,0),(1,1)],?_⟩;simp [hW,hC,cKS,ev0]
     . have e2:FC i 0 e=(9,ev0):=by unfold FC;rw [h9,if_neg (by decide)]
       rw [e2];rw [h9,k1,k2] at cm;simp only;refine ⟨fun E hE hs=>?_⟩;unfold cL
       generalize V.lr f 69 [19,20] Az A3=rc at hW hC ⊢
       simp [Az,BD];simp [A3];refine AL [(10,23631488)] (by kernel_rfl) ?_;simp [inC,Nat.testBit,hx,f5,f6];refine CLa cb ?_;simp [AA,inC,Nat.testBit,f5];refine AL [(13,42505856),(14,43554432)] (by kernel_rfl) ?_;simp [inC,Nat.testBit,hx,f4,f5,f6];refine CLa cm ?_;simp [AA,inC,Nat.testBit,f8,f9];refine ⟨trivial,by simp,lk [(8388610,8388610),(7340034,7340034),(2,2),(1048578,1048578),(2097154,2097154),(3145730,3145730),(4194306,4194306),(5242882,5242882),(0,0),(1,1)],?_⟩;simp [hW,hC,cKS,ev0]
 . rw [if_neg hm] at ho
   have cm:=ko hS k r s x h1 h2 h3 hk hR hg hs hlo;rw [ho] at cm;simp only [RB] at cm;have e1:Iw x m s=s:=by unfold Iw;rw [if_neg hm]
   rw [e1];rcases ck ho with ⟨h54,_⟩ | ⟨h9,k1,k2⟩
   . have e2:FC i m e=((54:Int),e.2.1,(i:Int),(m:Int),e.2.2):=by unfold FC;rw [h54,if_pos rfl]
     rw [e2];rw [h54] at cm;simp only;refine ⟨fun E hE hs=>?_⟩;unfold cL
     generalize V.lr f 69 [19,20] Az A3=rc at hW hC ⊢
     simp [Az,BD];simp [A3,hm];refine AL [(13,25728640),(14,26777216)] (by kernel_rfl) ?_;simp [inC,Nat.testBit,hx,f4,f5,f6];refine CLa cm ?_;simp [AA,inC,Nat.testBit,f8,f9];refine ⟨trivial,by simp,lk [(8388610,8388610),(7340034,7340034),(2,2),(1048578,1048578),(2097154,2097154),(3145730,3145730),(4194306,4194306),(5242882,5242882),(0,0),(1,1)],?_⟩;simp [hW,hC,cKS,ev0]
   . have e2:FC i m e=(9,ev0):=by unfold FC;rw [h9,if_neg (by decide)]
     rw [e2];rw [h9,k1,k2] at cm;simp only;refine ⟨fun E hE hs=>?_⟩;unfold cL
     generalize V.lr f 69 [19,20] Az A3=rc at hW hC ⊢
     simp [Az,BD];simp [A3,hm];refine AL [(13,25728640),(14,26777216)] (by kernel_rfl) ?_;simp [inC,Nat.testBit,hx,f4,f5,f6];refine CLa cm ?_;simp [AA,inC,Nat.testBit,f8,f9];refine ⟨trivial,by simp,lk [(8388610,8388610),(7340034,7340034),(2,2),(1048578,1048578),(2097154,2097154),(3145730,3145730),(4194306,4194306),(5242882,5242882),(0,0),(1,1)],?_⟩;simp [hW,hC,cKS,ev0]
theorem ADv (hS:SortOk) (k:Sky) (r:Rig) (l:List Leg) (cert:List Shp) (f:Nat->V) (hF:ADz f) (j:Nat) (s n c:Shp) (i m:Nat) (x:Leg) (_:l.length<=1000000) (hc:cert.length<=100000) (h1:k.s.length<=1000000) (h2:k.w.length<=1000000) (h3:r.reg.length<=1000000) (hk:BV k=true) (hR:CF r=true) (hg:Ey k r=true) (hs:A6 s=true) (hlo:BE x=true) (hx:l[i]?= some x) (hcj:cert[j]?= some c) (hco:A6 c=true) (hh:Xo c n=false) (ho:FA k r x m s= .ok n):
   Ym prog 8388610 [vi i,vi m] (lk (cL k r l cert f .ready ((j:Int)-1) (shB s) ev0 0)) cKS (.ret (vb false)) (lk (cL k r l cert f (.done .ret) j shZ ev0 8)):=by
 obtain ⟨hf,f4,f5,f6,f7,f8,f9⟩:=hF;have hil:=(List.getElem?_eq_some_iff.1 hx).1;have hiI:(i:Int)<l.length:=by omega
 have hlt:∀ j∈cKS++[],j<10000000:=by
   intro j hj;simp only [cKS,List.mem_append,List.mem_cons,List.not_mem_nil,or_false] at hj;omega
 have hW:∀ z,WC (lk [(8388610,8388610),(7340034,7340034),(2,2),(1048578,1048578),(2097154,2097154),(3145730,3145730),(4194306,4194306),(5242882,5242882),(0,0),(1,1)]) (.lr f 69 [19,20] Az A3 z) (.lr f 69 [19,20] Az A3 z):=fun z=>⟨rfl,fun t=>AV.mono (fun j hj=>by simp [cKS] at hj;rcases hj with rfl | rfl | rfl | rfl | rfl | rfl | rfl | rfl | rfl | rfl<;>simp [lk]) (fun _ h=>h) (hf t)⟩
 have hC:∀ z,Bv [.lr f 69 [19,20] Az A3 z]:=fun z=>Or.inr ⟨_,_,_,_,_,_,rfl⟩
 have hT:Va k r:=⟨hk,Hy hR,hg⟩
 have hno:=Q7 hT hs hlo ho;have hK1:=ACf k r l cert f .ready ((j:Int)-1) (shB s) ev0 0 hf (Qk s);have hK2:=ACf k r l cert f (.done .ret) j shZ ev0 8 hf ADr;have ca:=AD3 cert n c j hcj hc hh hco hno;refine Ym.ofX (k:=8388610) (fr:=f) (nt:=69) (ps:=[19,20]) (pa:=Az) (pb:=A3) (args:=[vi i,vi m]) (s:= .done .ret) gok eok mixed 10000000 hK1 hK2 hlt (by simp [cKS]) (by simp [cL]) (by simp) (by simp) (by simp) ?_;obtain ⟨t,ht,hmo,hnx⟩:=Ib.1 ho;have hto:=Ow hs hlo ht;have cm:=ko hS k r t x h1 h2 h3 hk hR hg hto hlo;rw [H2.2 ⟨hmo,hnx⟩] at cm;simp only [RB] at cm;by_cases hm:m=0
 . rw [if_pos hm] at ht
   subst hm;have cb:=pP s x hs hlo;rw [ht] at cb;simp only [Oy] at cb;refine ⟨fun E hE hs=>?_⟩;unfold cL
   generalize V.lr f 69 [19,20] Az A3=rc at hW hC ⊢
   simp [Az,BD];simp [A3];refine AL [(10,23631488)] (by kernel_rfl) ?_;simp [inC,Nat.testBit,hx,f5,f6];refine CLa cb ?_;simp [AA,inC,Nat.testBit,f5];refine AL [(13,42505856),(14,43554432)] (by kernel_rfl) ?_;simp [inC,Nat.testBit,hx,f4,f5,f6];refine CLa cm ?_;simp [AA,inC,Nat.testBit,f7];refine CRs ca (by simp) ?_;simp [AA,f5,f8,f9];refine ⟨trivial,by simp,lk [(8388610,8388610),(7340034,7340034),(2,2),(1048578,1048578),(2097154,2097154),(3145730,3145730),(4194306,4194306),(5242882,5242882),(0,0),(1,1)],?_⟩;simp [hW,hC,cKS,ev0]
 . rw [if_neg hm] at ht
   subst ht;refine ⟨fun E hE hs=>?_⟩;unfold cL
   generalize V.lr f 69 [19,20] Az A3=rc at hW hC ⊢
   simp [Az,BD];simp [A3,hm];refine AL [(13,25728640),(14,26777216)] (by kernel_rfl) ?_;simp [inC,Nat.testBit,hx,f4,f5,f6];refine CLa cm ?_;simp [AA,inC,Nat.testBit,f7];refine CRs ca (by simp) ?_;simp [AA,f5,f8,f9];refine ⟨trivial,by simp,lk [(8388610,8388610),(7340034,7340034),(2,2),(1048578,1048578),(2097154,2097154),(3145730,3145730),(4194306,4194306),(5242882,5242882),(0,0),(1,1)],?_⟩;simp [hW,hC,cKS,ev0]
def cT (k:Sky) (r:Rig) (l:List Leg) (cert:List Shp) (at':Int) (sb:List V) (e:Evt) (er:Int):List (Nat × List V):=
 [(7340034,[.d (Bs l)]),(2,[D2 k r]),(1048578,sb),(2097154,[.d (Bs l)]),(3145730,[.cl 132 [.lp 0 0, .lp 1 0]]),(4194306,evL e),(5242882,[vi er]),(0,[vi at']),(1,[.d (cD cert)])]
theorem ACg (k:Sky) (r:Rig) (l:List Leg) (cert:List Shp) (f:Nat->V) (z:LSt) (at':Int) (sb:List V) (e:Evt) (er:Int):cL k r l cert f z at' sb e er=(8388610,[.lr f 69 [19,20] Az A3 z])::cT k r l cert at' sb e er:=rfl
theorem ACV:cKS=8388610::[7340034,2,1048578,2097154,3145730,4194306,5242882,0,1]:=rfl
theorem AD0 {s:Shp} {cs:List Shp} (hs:A6 s=true) (hn:∀ n∈cs,A6 n=true) {j:Nat} (hj:j<=cs.length):A6 (eN s cs j)=true:=by
 unfold eN;split
 . exact hs
 . obtain ⟨n,hnn⟩:∃ n,cs[j-1]?= some n:=⟨_,List.getElem?_eq_getElem (by omega)⟩
   rw [hnn];exact hn n (List.mem_of_getElem? hnn)
theorem AEO (hS:SortOk) (k:Sky) (r:Rig) (l:List Leg) (s:Shp) (cert:List Shp) (hl:l.length<=100) (hok:∀ x∈l,BE x=true) (h1:k.s.length<=1000000) (h2:k.w.length<=1000000) (h3:r.reg.length<=1000000) (hk:BV k=true) (hR:CF r=true) (hg:Ey k r=true) (hs:A6 s=true) (hcl:(BN 0 l).length=cert.length) (hco:∀ c∈cert,A6 c=true):
   ∃ q:Int,Cm prog 103 [D2 k r,Cl s (.d (AX s.gas.cs)), .d (Bs l), .cl 132 [.lp 0 0, .lp 1 0]] (lk [(0,[vi (-1)]),(1,[.d (cD cert)])]) [0,1] (.ret (.tup [Ys (xb k r l (BN 0 l) s cert).2,vi (xb k r l (BN 0 l) s cert).1])) (lk [(0,[vi q]),(1,[.d (cD cert)])]):=by
 have hlen:=Kv (i:=0) hok
 have hmem:∀ p∈BN 0 l,∃ x,l[p.1]?= some x:=fun p hp=>by
   obtain ⟨x,_,h,_⟩:=ax hp;exact ⟨x,by simpa using h⟩
 have hlb:(BN 0 l).length<=60000:=by
   have:=KA hok;omega
 obtain ⟨M,hM,hrd,hend⟩:=ACm (k:=k) (r:=r) (s:=s) hmem hcl;obtain ⟨AE,hAE⟩:∃ AE,xb k r l (BN 0 l) s cert=AE:=⟨_,rfl⟩
 rw [hAE] at hend ⊢;have hsj:∀ {j:Nat},j<=cert.length->A6 (eN s cert j)=true:=fun hj=>AD0 hs hco hj
 obtain ⟨q,hend⟩:∃ q:Int,((M=(BN 0 l).length/\AE=(0,ev0))/\q=(M:Int)-1)\/
      ((∃ i m x e,(BN 0 l)[M]?= some (i,m)/\l[i]?= some x/\FA k r x m (eN s cert M)= .error e/\AE=FC i m e)/\q=(M:Int)-1)\/
      ((∃ i m x n c,(BN 0 l)[M]?= some (i,m)/\l[i]?= some x/\cert[M]?= some c/\FA k r x m (eN s cert M)= .ok n/\Xo c n=false/\AE=(8,ev0))/\q=(M:Int)):=by
   rcases hend with h | h | h
   . exact ⟨_, .inl ⟨h,rfl⟩⟩
   . exact ⟨_, .inr (.inl ⟨h,rfl⟩)⟩
   . exact ⟨_, .inr (.inr ⟨h,rfl⟩)⟩
 refine ⟨q,?_⟩;refine CM 2 func103 AFN fun E hs' hE=>?_
 simp [p103];refine CLa (qu l) ?_;simp;have hnt:E.nt=69:=by rw [hE.1];exact ntmps103
 rw [<-JI (Γ:=tys) (eqs:=eqs)];obtain ⟨f,hf⟩:∃ f,f=upd (upd (upd (upd (upd (upd (upd (upd (Dn 0 [D2 k r,Cl s (.d (AX s.gas.cs)), .d (Bs l), .cl 132 [.lp 0 0, .lp 1 0]]) 4 (.lp 2 0)) 5 (.lp 1048578 0)) 6 (.lp 2097154 0)) 7 (.lp 3145730 0)) 8 (.lp 4194306 0)) 9 (.lp 5242882 0)) 17 (.d (Bs l))) 18 (.cl 205 [.lp 7340034 0]):=⟨_,rfl⟩
 have hfA:∀ t,AV (·∈cKS) AR (f t):=fun t=>by
   rw [hf];simp only [AY];split
   . intro c hc;simp at hc;subst hc;exact (by simp [cKS]:(7340034:Nat)∈cKS)
   split
   . exact trivial
   split
   . exact (by simp [cKS]:(5242882:Nat)∈cKS)
   split
   . exact (by simp [cKS]:(4194306:Nat)∈cKS)
   split
   . exact (by simp [cKS]:(3145730:Nat)∈cKS)
   split
   . exact (by simp [cKS]:(2097154:Nat)∈cKS)
   split
   . exact (by simp [cKS]:(1048578:Nat)∈cKS)
   split
   . exact (by simp [cKS]:(2:Nat)∈cKS)
   simp only [Dn];split
   . exact trivial
   split
   . intro c hc;simp at hc;rcases hc with rfl | rfl | rfl | rfl | rfl | rfl | rfl | rfl | rfl | rfl | rfl | rfl | rfl | rfl | rfl | rfl | rfl | rfl | rfl | rfl | rfl | rfl | rfl | rfl | rfl<;>exact trivial
   split
   . exact trivial
   split
   . intro c hc;simp at hc;rcases hc with rfl | rfl
     . exact (by simp [cKS]:(0:Nat)∈cKS)
     . exact (by simp [cKS]:(1:Nat)∈cKS)
   . exact fun c hc=>by simp at hc
 have hFF:ADz f:=⟨hfA,by rw [hf];simp,by rw [hf];simp,by rw [hf];simp,by rw [hf];simp,by rw [hf];simp,by rw [hf];simp⟩
 have f18:f 18= .cl 205 [.lp 7340034 0]:=by rw [hf];simp
 obtain ⟨_,f4,f5,f6,f7,f8,f9⟩:=id hFF;rw [<-hf];have hK:=fun z at' sb e er (h:SbD sb)=>ACf k r l cert f z at' sb e er hfA h
 have hN:∀ i∈cKS,i<1000000000:=by simp [cKS]
 have hX:∀ i:Nat,∀ x∈(fun _:Nat=>([]:List Nat)) i,x<1048576:=fun i x hx=>by simp at hx
 have hrec:∀ z at' sb e er,∃ fr nt ps pa pb jmp,lk (cL k r l cert f z at' sb e er) 8388610=some [.lr fr nt ps pa pb jmp]/\ps.length=2:=fun z at' sb e er=>⟨f,69,[19,20],Az,A3,z,by simp [cL],rfl⟩
 have hbox:∀ z at' sb e er,lk (cL k r l cert f z at' sb e er) 7340034=some [.d (Bs l)]:=fun z at' sb e er=>by simp [cL]
 have hround:∀ j i m,j<M->(BN 0 l)[j]?= some (i,m)->Ym prog 8388610 [vi i,vi m] (lk (cL k r l cert f .ready ((j:Int)-1) (shB (eN s cert j)) ev0 0)) cKS (.ret (vb true)) (lk (cL k r l cert f .ready (((j+1:Nat):Int)-1) (shB (eN s cert (j+1))) ev0 0)):=fun j i m hj him=>by
   obtain ⟨i',m',x,n,c,e1,e2,e3,e4,e5⟩:=hrd j hj;rw [him] at e1;cases e1;have:=ADc hS k r l cert f hFF j (eN s cert j) n c i m x (by omega) (by omega) h1 h2 h3 hk hR hg (hsj (by omega)) (hok x (List.mem_of_getElem? e2)) e2 e3 (hco c (List.mem_of_getElem? e3)) e5 e4;rw [ACh e3,show ((j+1:Nat):Int)-1=j by omega];exact this
 have hK0:=hK .ready (-1) (shB s) ev0 0 (Qk s);rw [ACg,ACV] at hK0;by_cases hMl:M=(BN 0 l).length
 . rcases hend with ⟨⟨_,hA⟩,rfl⟩ | ⟨⟨i,m,x,e,hm1,_⟩,_⟩ | ⟨⟨i,m,x,n,c,hm1,_⟩,_⟩
   rotate_left
   . have:=(List.getElem?_eq_some_iff.1 hm1).1;omega
   . have:=(List.getElem?_eq_some_iff.1 hm1).1;omega
   have c:=Jl l (by omega) hok cKS (fun _=>[]) 8388610 7340034 M (fun _=>true) (fun j=>cL k r l cert f .ready ((j:Int)-1) (shB (eN s cert j)) ev0 0) (by simp [cKS]) (by simp [cKS]) hN hX (by omega) (fun j _=>hK _ _ _ _ _ (Qk _)) (fun j _=>hrec _ _ _ _ _) (fun j _=>hbox _ _ _ _ _) (fun _ _=>rfl) (Or.inl hMl) (fun j i m hj him=>hround j i m hj him);have hKn:=hK .ready ((M:Int)-1) (shB (eN s cert M)) ev0 0 (Qk _);have c0:cL k r l cert f .ready (((0:Nat):Int)-1) (shB (eN s cert 0)) ev0 0=cL k r l cert f .ready (-1) (shB s) ev0 0:=rfl;rw [c0,ACg,ACg,ACV] at c;rw [ACg,ACV] at hKn;rw [hA];refine E3.keepX (cT k r l cert (-1) (shB s) ev0 0) (cT k r l cert ((M:Int)-1) (shB (eN s cert M)) ev0 0) [7340034,2,1048578,2097154,3145730,4194306,5242882,0,1] [] [] (.tup []) .ready hE.2 (g:=205) (caps:=[.lp 7340034 0]) (by simp [f18]) (by rw [hnt];exact c) (by rw [hnt];exact hK0) (by rw [hnt];exact hKn) (fun x hx=>by simp at hx) (by simp) (by simp [cT,ev0]) (by simp) fun F h1 h2=>?_
   have F0:=h1 (0,_) (by simp [cT];rfl);have F1:=h1 (1,_) (by simp [cT];rfl);have F8:=h1 (4194306,_) (by simp [cT];rfl);have F9:=h1 (5242882,_) (by simp [cT];rfl);simp [sg,BJ,DS,DR] at F0 F1 F8 F9
   show Ft 0 _ .normal _
   simp [f8,f9,F8,F9,AA];refine AB.by (lk [(0,0),(1,1)]) ?_;simp [results103,F0,F1,ev0,f8,f9]
 . have hMlt:M<(BN 0 l).length:=by omega
   have key:∀ (q:Int) (SF:List V) (hSF:SbD SF) (hfail:∀ i m,(BN 0 l)[M]?= some (i,m)->Ym prog 8388610 [vi i,vi m] (lk (cL k r l cert f .ready ((M:Int)-1) (shB (eN s cert M)) ev0 0)) cKS (.ret (vb false)) (lk (cL k r l cert f (.done .ret) q SF AE.2 AE.1))),
       Cm prog 205 [.yl 8388610, .lp 7340034 0] (lk (cL k r l cert f .ready (-1) (shB s) ev0 0)) cKS (.ret (.tup [])) (lk (cL k r l cert f (.done .ret) q SF AE.2 AE.1)):=fun q SF hSF hfail=>by
     obtain ⟨LL,hLL⟩:∃ LL:Nat->List (Nat × List V),LL=fun j=>if j<=M then cL k r l cert f .ready ((j:Int)-1) (shB (eN s cert j)) ev0 0 else cL k r l cert f (.done .ret) q SF AE.2 AE.1:=⟨_,rfl⟩
     have LLa:∀ j,j<=M->LL j=cL k r l cert f .ready ((j:Int)-1) (shB (eN s cert j)) ev0 0:=fun j hj=>by rw [hLL];simp only;rw [if_pos hj]
     have LLb:LL (M+1)=cL k r l cert f (.done .ret) q SF AE.2 AE.1:=by rw [hLL];simp only;rw [if_neg (by omega)]
     have c:=Jl l (by omega) hok cKS (fun _=>[]) 8388610 7340034 (M+1) (fun j=>decide (j<M)) LL (by simp [cKS]) (by simp [cKS]) hN hX (by omega) (fun j hj=>by
         by_cases h:j<=M
         . rw [LLa j h];exact hK _ _ _ _ _ (Qk _)
         . rw [show j=M+1 by omega,LLb];exact hK _ _ _ _ _ hSF) (fun j hj=>by
         rw [LLa j (by omega)];exact hrec _ _ _ _ _) (fun j hj=>by
         by_cases h:j<=M
         . rw [LLa j h];exact hbox _ _ _ _ _
         . rw [show j=M+1 by omega,LLb];exact hbox _ _ _ _ _) (fun j hj=>decide_eq_true (by omega)) (Or.inr ⟨by omega,decide_eq_false (by omega)⟩) (fun j i' m' hj him=>by
         by_cases h:j<M
         . rw [LLa j (by omega),LLa (j+1) (by omega),decide_eq_true h];exact hround j i' m' h him
         . have e1:j=M:=by omega
           subst e1;rw [LLa j (Nat.le_refl _),LLb,decide_eq_false h];exact hfail i' m' him)
     have c0:LL 0=cL k r l cert f .ready (-1) (shB s) ev0 0:=by rw [LLa 0 (by omega)];rfl
     rw [c0,LLb] at c;exact c
   rcases hend with ⟨⟨hM2,_⟩,_⟩ | ⟨⟨i,m,x,e,hm1,hm2,hm3,hA⟩,rfl⟩ | ⟨⟨i,m,x,n,c,hm1,hm2,hm4,hm3,hm5,hA⟩,rfl⟩
   . exact absurd hM2 hMl
   . obtain ⟨SF,hSF⟩:∃ SF,Iw x m (eN s cert M)=SF:=⟨_,rfl⟩
     have c:=key ((M:Int)-1) (shB SF) (Qk _) fun i' m' him=>by
       rw [hm1] at him;cases him;have:=ADi hS k r l cert f hFF ((M:Int)-1) (eN s cert M) i m x e (by omega) (by omega) h1 h2 h3 hk hR hg (hsj (by omega)) (hok x (List.mem_of_getElem? hm2)) hm2 hm3;rw [hSF,<-hA] at this;exact this
     have hKn:=hK (.done .ret) ((M:Int)-1) (shB SF) AE.2 AE.1 (Qk _);rw [ACg,ACg,ACV] at c;rw [ACg,ACV] at hKn;refine E3.keepX (cT k r l cert (-1) (shB s) ev0 0) (cT k r l cert ((M:Int)-1) (shB SF) AE.2 AE.1) [7340034,2,1048578,2097154,3145730,4194306,5242882,0,1] [] [] (.tup []) (.done .ret) hE.2 (g:=205) (caps:=[.lp 7340034 0]) (by simp [f18]) (by rw [hnt];exact c) (by rw [hnt];exact hK0) (by rw [hnt];exact hKn) (fun x hx=>by simp at hx) (by simp) (by simp [cT,ev0]) (by simp) fun F h1 h2=>?_
     have F0:=h1 (0,_) (by simp [cT];rfl);have F1:=h1 (1,_) (by simp [cT];rfl);have F8:=h1 (4194306,_) (by simp [cT];rfl);have F9:=h1 (5242882,_) (by simp [cT];rfl);simp [sg,BJ,DS,DR] at F0 F1 F8 F9
     show Ft 0 _ .ret _
     simp;refine AB.by (lk [(0,0),(1,1)]) ?_;simp [results103,F0,F1,F8,F9,f8,f9]
   . have c:=key M shZ ADr fun i' m' him=>by
       rw [hm1] at him;cases him;have:=ADv hS k r l cert f hFF M (eN s cert M) n c i m x (by omega) (by omega) h1 h2 h3 hk hR hg (hsj (by omega)) (hok x (List.mem_of_getElem? hm2)) hm2 hm4 (hco c (List.mem_of_getElem? hm4)) hm5 hm3;rw [hA];exact this
     have hKn:=hK (.done .ret) M shZ AE.2 AE.1 ADr;rw [ACg,ACg,ACV] at c;rw [ACg,ACV] at hKn;refine E3.keepX (cT k r l cert (-1) (shB s) ev0 0) (cT k r l cert (M:Int) shZ AE.2 AE.1) [7340034,2,1048578,2097154,3145730,4194306,5242882,0,1] [] [] (.tup []) (.done .ret) hE.2 (g:=205) (caps:=[.lp 7340034 0]) (by simp [f18]) (by rw [hnt];exact c) (by rw [hnt];exact hK0) (by rw [hnt];exact hKn) (fun x hx=>by simp at hx) (by simp) (by simp [cT,ev0]) (by simp) fun F h1 h2=>?_
     have F0:=h1 (0,_) (by simp [cT];rfl);have F1:=h1 (1,_) (by simp [cT];rfl);have F8:=h1 (4194306,_) (by simp [cT];rfl);have F9:=h1 (5242882,_) (by simp [cT];rfl);simp [sg,BJ,DS,DR] at F0 F1 F8 F9
     show Ft 0 _ .ret _
     simp;refine AB.by (lk [(0,0),(1,1)]) ?_;simp [results103,F0,F1,F8,F9,f8,f9]
end Go.Proofs.Tryz
