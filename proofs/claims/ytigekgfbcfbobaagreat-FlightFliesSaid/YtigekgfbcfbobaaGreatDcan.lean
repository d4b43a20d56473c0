/- Own lemmas, used by the last text. Conditions: those that each theorem states. -/
import Derived.Test.YtigekgfbcfbobaaGreatDcaj
import Derived.Test.YtigekgfbcfbobaaGreatDcal
import Derived.Test.YtigekgfbcfbobaaGreatDcam
set_option maxRecDepth 200000
set_option maxHeartbeats 8000000
namespace Go.Proofs.Tryz
open Go.Psl
open Go.Air
theorem tz {q:Plt} {n:Nat} {args:List V} (hn:q.cs.length=n) (h:Ct prog 172 args (.tup [Cy q (.ls 0 0 n 7),vi 0]) [(0,AH AP q.cs)]):Ct prog 172 args (doV (.ok q)) []:=by
 refine Cm.freeze h ?_;subst hn;have hb:Df (lk [(0,AH AP q.cs)]) (.ls 0 0 q.cs.length 7) (.d (AX q.cs)):=B0 (H:=lk [(0,AH AP q.cs)]) (id:=0) Nr (l:=q.cs) (by simp);have z:∀ x:Int,FzC (lk [(0,AH AP q.cs)]) (vi x) (vi x):=fun x=>⟨_,rfl, .inl rfl⟩
 exact ⟨⟨⟨_,rfl,hb⟩,z _,z _,z _,z _,z _,z _,z _,z _,z _,trivial⟩, .inl rfl,trivial⟩
theorem zH (p:Plt) (a:Act) (h:Ar p=true) (hk:a.k=3):Ct prog 172 [Cy p (.d (AX p.cs)),BZ a] (doV (doS p a)) []:=by
 have hl:=CS h;have hcs:=Dx h;have e:doS p a=vlS p a:=by simp [doS,h,hk]
 have d2:=xM p a (by omega) hk;rw [e];cases hx:inA p.cs.length a with
 | false=>
   have e2:vlS p a= .error 2:=by simp [vlS,hx]
   rw [hx] at d2;rw [e2];exact rZ p a 2 (by omega) h (by decide) d2
 | true=>
   obtain ⟨c,hc⟩:=Zm hx;have hi:=EQ.1 hx;rw [hx] at d2;by_cases hn:a.n<=c.he+c.ai
   . have ho:=y3 h hc (by omega) hn
     have e2:vlS p a= .ok (vlP p a c):=by simp [vlS,hx,hc,hn,Hm,ho]
     rw [e2];exact tz (by simp [vlP]) (vC p a c h hk hx d2 hc hn ho)
   . have e2:vlS p a= .error 6:=by simp [vlS,hx,hc,hn]
     rw [e2];exact vG p a c h hk hx d2 hc (by omega)
theorem zI (p:Plt) (a:Act) (h:Ar p=true) (hk:a.k=4):Ct prog 172 [Cy p (.d (AX p.cs)),BZ a] (doV (doS p a)) []:=by
 have hl:=CS h;have e:doS p a=mvS p a:=by simp [doS,h,hk]
 have d2:=xN p a (by omega) hk;rw [e];cases hx:inA p.cs.length a with
 | false=>
   have e2:mvS p a= .error 2:=by simp [mvS,hx]
   rw [hx] at d2;rw [e2];exact rZ p a 2 (by omega) h (by decide) d2
 | true=>
   cases ht:inT p.cs.length a with
   | false=>
     have e2:mvS p a= .error 2:=by simp [mvS,hx,ht]
     rw [hx,ht] at d2;rw [e2];exact rZ p a 2 (by omega) h (by decide) d2
   | true=>
     obtain ⟨c,hc⟩:=Zm hx;obtain ⟨g,hg⟩:=lE ht;rw [hx,ht] at d2;by_cases hn:a.n<=c.he+c.ai
     . cases ho:Ar (mvP p a c g) with
       | true=>
         have e2:mvS p a= .ok (mvP p a c g):=by simp [mvS,hx,ht,hc,hg,hn,Hm,ho]
         rw [e2];exact tz (by simp [mvP]) (vj p a c g h hk hx ht d2 hc hg hn ho)
       | false=>
         have e2:mvS p a= .error 9:=by simp [mvS,hx,ht,hc,hg,hn,Hm,ho]
         rw [e2];exact uj p a c g h hk hx ht d2 hc hg hn ho
     . have e2:mvS p a= .error 6:=by simp [mvS,hx,ht,hc,hg,hn]
       rw [e2];exact vH p a c h hk hx d2 hc (by omega)
theorem yY (p:Plt) (a:Act) (h:Ar p=true) (hk:a.k=3\/a.k=4):Ct prog 172 [Cy p (.d (AX p.cs)),BZ a] (doV (doS p a)) []:=by
 rcases hk with hk | hk
 . exact zH p a h hk
 . exact zI p a h hk
theorem tk_e {p:Plt} (he:p.cs=[]):tkQ p=p:=by
 unfold tkQ tkP tkH tkA;cases p;simp at he;simp [he]
theorem yZ (p:Plt) (h:Ar p=true):Ct prog 172 [Cy p (.d (AX p.cs)),BZ ⟨7,0,0,1⟩] (doV (.ok (tkQ p))) []:=by
 have hl:=CS h;have d2:=xL p ⟨7,0,0,1⟩ (by omega) rfl rfl;by_cases he:p.cs=[]
 . rw [tk_e he]
   exact xB p ⟨7,0,0,1⟩ h rfl rfl he d2
 . exact tz (by simp [tkQ]) (vB p ⟨7,0,0,1⟩ h rfl rfl he d2)
theorem o6 (p:Plt) (h:Ar p=true):Ct prog 128 [Cy p (.d (AX p.cs)),BZ ⟨7,0,0,1⟩] (doV (.ok (tkQ p))) []:=by
 have:=do_7 p ⟨7,0,0,1⟩ h rfl rfl;have e:doS p ⟨7,0,0,1⟩= .ok (tkQ p):=by simp [doS,h,Hm,Md h]
 rwa [e] at this
theorem xH (r:Except Int Shp):AV (InB []) AR (Oy r):=by
 cases r<;>simp [Oy]
abbrev shB (s:Shp):List V:=[vi s.xl,vi s.xh,vi s.yl,vi s.yh,vi s.hl,vi s.hh,vi s.fl,vi s.fh,vi s.wl,vi s.wh,vi s.bl,vi s.bh,vi s.dry,vi s.bal,vi s.drp, .d (AX s.gas.cs),vi s.gas.bt,vi s.gas.ih,vi s.gas.ia,vi s.gas.vh,vi s.gas.va,vi s.gas.lh,vi s.gas.la,vi s.gas.ph,vi s.gas.pa]
abbrev lgB (l:Leg):List V:=[vi l.m,vi l.axl,vi l.axh,vi l.ayl,vi l.ayh,vi l.ul,vi l.uh,vi l.bl,vi l.bh,vi l.dr, .d (JZ l.acts)]
theorem ABQ (s:Shp) (l:Leg) (hs:A6 s=true) (hl:BE l=true):Ct prog 97 [Cl s (.d (AX s.gas.cs)),g7 l] (Oy (Ep s l)) []:=by
 have q1:=Kz hl;have q2:=MF hs;have hp:=CR hs;have hpl:=CS hp;have d1:=vk s.gas (by omega);have w1:IntKind.wrap .i64 (s.drp+l.dr)=s.drp+l.dr:=AD (by omega) (by omega);have w2:IntKind.wrap .i64 (s.bal - l.dr)=s.bal - l.dr:=AD (by omega) (by omega);obtain ⟨R,hR⟩:∃ R,Ep s l=R:=⟨_,rfl⟩
 have hb:Ep s l=if (B7 s.gas l.acts 0).2.2=0 then
   (if s.bal < l.dr then .error 2 else if 1000000000000 < s.drp+l.dr then .error 9
     else .ok {s with gas:=(B7 s.gas l.acts 0).1,bal:=s.bal - l.dr,drp:=s.drp+l.dr})
   else .error (B7 s.gas l.acts 0).2.2:=rfl
 rw [hR] at hb ⊢;refine Ct.by gok eok mixed func97 c97 rfl (by simp [ntmps97]) (by simp) (by simp [LD];exact xH R) fun E hE=>?_
 simp [p97];refine CLa d1 ?_;simp [AA];refine Al (α:=Nat × Plt) (fun x=>⟨AO [(2, .lp 0 0),(3, .lp 1 0),(4, .lp 2 0),(6, .lp 3 0),(7,vi x.1)],lk [(0,shB s),(1,lgB l),(2,shZ),(3,plB x.2 (.d (AX x.2.cs)))],4⟩) (fun x=>x.1<=l.acts.length/\Ar x.2=true/\B7 x.2 (l.acts.drop x.1) x.1=B7 s.gas l.acts 0) (fun x=>l.acts.length - x.1) (0,s.gas) ?_ ?_ ?_
 . exact ⟨by simp,hp,by simp⟩
 . exact WK hE (lk [(0,0),(1,1048576),(2,2097152),(3,7340032)])
 . rintro ⟨i,q⟩ ⟨hi,hq,hr⟩
   simp only at hi hq hr;have w:IntKind.wrap .i64 ((i:Int)+1)=((i+1:Nat):Int):=by rw [AD (by omega) (by omega)];rfl
   by_cases hi2:i < l.acts.length
   . obtain ⟨a,ha⟩:=gE hi2
     have d3:=yY q a hq (q1.2.1 a (List.mem_of_getElem? ha))
     have e1:l.acts.drop i=a::l.acts.drop (i+1):=by
       rw [List.drop_eq_getElem_cons hi2];rw [List.getElem?_eq_getElem hi2] at ha;cases ha;rfl
     have hiI:(i:Int) < l.acts.length:=by omega
     rw [e1,B7] at hr;cases hd:doS q a with
     | ok q2=>
       rw [hd] at d3 hr;simp only [doV] at d3;have hq2:=Zn hd;simp [sk,hiI];refine AL [(11,15728644)] (by kernel_rfl) ?_;simp [ha,inC,Nat.testBit];refine CLa d3 ?_;simp [AA,w,inC,Nat.testBit];refine ⟨i+1,q2,⟨by omega,hq2,hr⟩,by omega,?_⟩;exact WK hE (lk [(0,0),(1,1),(2,2),(3,3)])
     | error e=>
       rw [hd] at d3 hr;simp only [doV] at d3;have he:=Tb hd;simp only at hr;rw [<-hr,if_neg he] at hb;simp [sk,hiI];refine AL [(11,15728644)] (by kernel_rfl) ?_;simp [ha,inC,Nat.testBit];refine CLa d3 ?_;simp [AA,he,inC,Nat.testBit];apply RZ;simp [results97,hb,Oy]
   . have e1:l.acts.drop i=[]:=List.drop_eq_nil_of_le (by omega)
     rw [e1,B7] at hr;rw [<-hr,if_pos rfl] at hb;have hiI:¬ (i:Int) < l.acts.length:=by omega
     by_cases h2:s.bal < l.dr
     . rw [if_pos h2] at hb
       simp [sk,AA,hiI,h2];apply RZ;simp [results97,hb,Oy]
     . rw [if_neg h2] at hb
       by_cases h3:1000000000000 < s.drp+l.dr
       . rw [if_pos h3] at hb
         simp [sk,AA,hiI,h2,w1,h3];apply RZ;simp [results97,hb,Oy]
       . rw [if_neg h3] at hb
         simp [sk,AA,hiI,h2,w1,w2,h3];apply RZ;simp [results97,hb,Oy]
abbrev WX (a:Atm):List D:=[di a.pl,di a.ph,di a.tl,di a.th]
theorem qy (k:Sky) (r:Rig) (a b:Int):Ct prog 238 [.d (.ref [di a,di b]), .d (.ref [.ref (LI k r)])] (vb (decide (a < r.lo))) []:=by
 refine CB func238 c238 fun E hE=>?_
 simp [p238];apply RZ;simp [results238]
theorem qz (k:Sky) (r:Rig) (a b:Int):Ct prog 239 [.d (.ref [di a,di b]), .d (.ref [.ref (LI k r)])] (vb (decide (r.hi < b))) []:=by
 refine CB func239 c239 fun E hE=>?_
 simp [p239];apply RZ;simp [results239]
theorem ABU (k:Sky) (r:Rig) (s:Shp):Ct prog 243 [.d (.ref (Ca s)), .d (.ref [.ref (LI k r)])] (vb (decide (s.fl < r.rsv))) []:=by
 refine CB func243 c243 fun E hE=>?_
 simp [p243];apply RZ;simp [results243]
theorem q8 (s:Shp):Ct prog 246 [.d (.ref (Ca s))] (vb (!UC s)) []:=by
 have c:=Lo (-10000000) 10000000 [(s.xl,s.xh),(s.yl,s.yh)] (by simp);simp only [List.all_cons,List.all_nil,Bool.and_true] at c;unfold UC
 generalize (spB (-10000000) 10000000 s.xl s.xh&&spB (-10000000) 10000000 s.yl s.yh)=b at*
 refine CB func246 c246 fun E hE=>?_
 simp [p246,AA,AM];refine CLb (c) (by simp [AQ]) ?_;simp;apply RZ;simp [results246]
theorem q9 (c:Cel) (a:Atm) (hc:B5 c) (ha:Fx a):Ct prog 242 [Ky c, .d (.ref (WX a))] (vb (EK a c)) []:=by
 have c1:=fn81 c a hc ha;unfold EK
 generalize decide (Lh c a=1)=b at*
 refine CB func242 c242 fun E hE=>?_
 simp [p242];refine CLa c1 ?_;simp;apply RZ;simp [results242]
theorem rA (s:Shp) (a:Atm) (x:Int) (hs:∀ c∈s.gas.cs,B5 c) (hl:s.gas.cs.length<=1000000) (ha:Fx a):Cm prog 240 [.d (.ref (Ca s)), .d (.ref (WX a)), .lp 0 0] (lk [(0,[vi x])]) [0] (.ret (vb (decide (0<=ixF (EK a) s.gas.cs)))) (lk [(0,[vi (ixF (EK a) s.gas.cs)])]):=by
 have c1:=qg s.gas.cs 242 [.ref (WX a)] (EK a) (by omega) fun c hc=>q9 c a (hs c hc) ha
 generalize ixF (EK a) s.gas.cs=n at*
 refine CM 1 func240 c240 fun E hs hE=>?_
 simp [p240];refine CLa c1 ?_;simp [AA];refine AB.by (lk [(0,0)]) ?_;simp [results240]
theorem rC (hS:SortOk) (k:Sky) (r:Rig) (n s:Shp) (l:Leg) (a:Atm) (hr:r.reg.length<=1000000) (hl:Wn l) (hb:VU (KG s n)) (ha:Fx a):Ct prog 244 [.d (.ref (Ca n)), .d (.ref (Ca s)), .d (.ref (Pi l)), .d (.ref [.ref (LI k r)]), .d (.ref (WX a))] (vb (!Il r.reg (N1 l) (hvS (KG s n) a))) []:=by
 have c1:=fn55 l.axl l.axh l.ayl l.ayh ⟨hl.x,hl.y⟩;have c2:=fn70 (KG s n) a hb ha;have c3:=qh hS k r (N1 l) (hvS (KG s n) a) hr;have c1':Ct prog 55 [wd4 l.axl l.axh l.ayl l.ayh] (.tup [vsp (N1 l).1 (N1 l).2,vi 0]) []:=c1
 generalize N1 l=sp at*
 generalize hvS (KG s n) a=hv at*
 generalize Il r.reg sp hv=b at*
 unfold KG at c2;simp only at c2;refine CB func244 c244 fun E hE=>?_
 simp [p244,AA];refine AL [(23,2097152),(25,2097152)] (by kernel_rfl) ?_;simp [AA,inC,Nat.testBit];refine CLa c1' ?_;simp [AA,inC,Nat.testBit];refine CLb (c2) (by first | (simp;done) | simp [Bk,CP,inC,Nat.testBit]) ?_;simp;refine CLa c3 ?_;simp;apply RZ;simp [results244]
abbrev evV (k l m c:Int):V:= .agg [vi k,vi l,vi m,vi c]
def Jx (k:Sky) (r:Rig) (s:Shp) (l:Leg):V:=if (ER k r s l).1=0 then .tup [Cl (Cj k r s l) (.d (AX (Cj k r s l).gas.cs)),evV 0 0 0 0] else .tup [.agg shZ,evV (ER k r s l).1 0 0 (ER k r s l).2]
theorem fp (k:Sky) (r:Rig) (s:Shp) (l:Leg):AV (InB []) AR (Jx k r s l):=by
 unfold Jx;split<;>simp
theorem pZ (hS:SortOk) (k:Sky) (r:Rig) (s:Shp) (l:Leg) (h1:k.s.length<=1000000) (h2:k.w.length<=1000000) (h3:r.reg.length<=1000000) (hk:BV k=true) (hR:CF r=true) (hg:Ey k r=true) (hs:A6 s=true) (hl:BE l=true):Ct prog 173 [D2 k r,Cl s (.d (AX s.gas.cs)),g7 l] (Jx k r s l) []:=by
 have sB:=GT hs;have sX:=AAb hs;have lB:=Mf hl;have rB:=Hy hR;have hW:=mV hk;have b1:=sB.h;have b2:=sB.f;have b3:=sB.w;have b4:=sX.b;have b5:=sX.x;have b6:=sX.y;have l1:=lB.u;have l2:=lB.b;have l3:=lB.x;have l4:=lB.y;have g1:=rB.g;have g2:=rB.t;have o:=jd sB lB;have wb:=kQ hW o;have ge:=Me l2 g1;have p0:0<=l.bl*r.gl:=Int.mul_nonneg (by omega) (by omega);have p1:l.bh*r.gh<=1000000*120:=Int.mul_le_mul (by omega) (by omega) (by omega) (by omega);have p2:l.bl*r.gl<=l.bh*r.gh:=Int.mul_le_mul (by omega) (by omega) (by omega) (by omega);have eg:(Ja (l.bl,l.bh) (r.gl,r.gh) (100,100)).1=DY r l:=rfl
 have gb:(0<=(DY r l).1/\(DY r l).1<=1200000)/\0<=(DY r l).2/\(DY r l).2<=1200001:=by
   rw [<-eg,ge];simp only;omega
 have c1:=o6 s.gas (CR hs);have c2:=LH s.hl s.hh l.ul l.uh (by omega);have c3:=LH s.bl s.bh l.bl l.bh (by omega);have c4:=nv (l.bl,l.bh) (r.gl,r.gh) (100,100)
 have c4':Ct prog 236 [vsp l.bl l.bh,vsp r.gl r.gh,vsp 100 100] (.tup [vsp (DY r l).1 (DY r l).2,vi 0]) []:=by
   unfold vse at c4;rw [eg,ge] at c4;exact c4
 have c5:=LH s.wl s.wh (DY r l).1 (DY r l).2 (by omega);have eh:mhS s l=(min s.hl (s.hl+l.ul),max s.hh (s.hh+l.uh)):=rfl
 have ew:Lg k.w (mhS s l)=0:=by
   unfold Lg;have:Dr k.w=true:=by unfold BV at hk;simp only [Bool.and_eq_true] at hk;exact hk.2
   rw [this,CT.2 (by rw [eh] at o ⊢;simp only at o ⊢;omega)];rfl
 have c6:=fn50 k.w (mhS s l) h2;rw [ew,show Nn k.w (mhS s l)=(Jr k.w (mhS s l),Js k.w (mhS s l)) by unfold Nn;rw [ew];rfl] at c6;have c11:=fn56 k.s (mhS s l).1 (mhS s l).2 h1;obtain ⟨wx,hwx⟩:∃ wx,Jr k.w (mhS s l)=wx:=⟨_,rfl⟩
 obtain ⟨wy,hwy⟩:∃ wy,Js k.w (mhS s l)=wy:=⟨_,rfl⟩
 rw [hwx,hwy] at c6 wb;have c7:=LH l.axl l.axh wx.1 wx.2 (by omega);have c7':=jM (l.axl+wx.1) (l.axh+wx.2) (by omega);have c8:=LH s.xl s.xh (6*(l.axl+wx.1)) (6*(l.axh+wx.2)) (by omega);have c9:=LH l.ayl l.ayh wy.1 wy.2 (by omega);have c9':=jM (l.ayl+wy.1) (l.ayh+wy.2) (by omega);have c10:=LH s.yl s.yh (6*(l.ayl+wy.1)) (6*(l.ayh+wy.2)) (by omega)
 have en:Cj k r s l={s with
   xl:=s.xl+6*(l.axl+wx.1),xh:=s.xh+6*(l.axh+wx.2),yl:=s.yl+6*(l.ayl+wy.1),yh:=s.yh+6*(l.ayh+wy.2)
   hl:=s.hl+l.ul,hh:=s.hh+l.uh,fl:=s.fl - l.bh,fh:=s.fh - l.bl
   wl:=min (s.wl+(DY r l).1) r.tank,wh:=min (s.wh+(DY r l).2) r.tank
   bl:=s.bl+l.bl,bh:=s.bh+l.bh,gas:=tkQ s.gas}:=by unfold Cj;rw [hwx,hwy]
 obtain ⟨H,hH⟩:∃ H,mhS s l=H:=⟨_,rfl⟩
 obtain ⟨A,hA⟩:∃ A,(atA k.s (mhS s l).1 (mhS s l).2).1=A:=⟨_,rfl⟩
 obtain ⟨AE,hAE⟩:∃ AE,(atA k.s (mhS s l).1 (mhS s l).2).2=AE:=⟨_,rfl⟩
 have c11':Ct prog 56 [.d (BF k.s),vsp H.1 H.2] (.tup [Ox A,vi AE]) []:=by
   rw [<-hA,<-hAE,<-hH];exact c11
 have m1:min s.hl (s.hl+l.ul)=H.1:=by rw [<-hH];rfl
 have m2:max s.hh (s.hh+l.uh)=H.2:=by rw [<-hH];rfl
 rw [hH] at c6;have w1:IntKind.wrap .i64 (s.fl - l.bh)=s.fl - l.bh:=AD (by omega) (by omega);have w2:IntKind.wrap .i64 (s.fh - l.bl)=s.fh - l.bl:=AD (by omega) (by omega)
 generalize DY r l=G at*
 obtain ⟨N,hN⟩:∃ N,Cj k r s l=N:=⟨_,rfl⟩
 rw [hN] at en;have n1:s.xl+6*(l.axl+wx.1)=N.xl/\s.xh+6*(l.axh+wx.2)=N.xh/\s.yl+6*(l.ayl+wy.1)=N.yl/\s.yh+6*(l.ayh+wy.2)=N.yh:=by rw [en];exact ⟨rfl,rfl,rfl,rfl⟩
 have n2:s.hl+l.ul=N.hl/\s.hh+l.uh=N.hh/\s.fl - l.bh=N.fl/\s.fh - l.bl=N.fh:=by rw [en];exact ⟨rfl,rfl,rfl,rfl⟩
 have n3:min (s.wl+G.1) r.tank=N.wl/\min (s.wh+G.2) r.tank=N.wh/\s.bl+l.bl=N.bl/\s.bh+l.bh=N.bh:=by rw [en];exact ⟨rfl,rfl,rfl,rfl⟩
 have n4:tkQ s.gas=N.gas/\s.dry=N.dry/\s.bal=N.bal/\s.drp=N.drp:=by rw [en];exact ⟨rfl,rfl,rfl,rfl⟩
 clear en;obtain ⟨x1,x2,x3,x4⟩:=n1;obtain ⟨x5,x6,x7,x8⟩:=n2;obtain ⟨x9,x10,x11,x12⟩:=n3;obtain ⟨x13,x14,x15,x16⟩:=n4;obtain ⟨CX,hCX⟩:∃ CX,ixF (EK A) N.gas.cs=CX:=⟨_,rfl⟩
 obtain ⟨TR,hTR⟩:∃ TR,Il r.reg (N1 l) (hvS (KG s N) A)=TR:=⟨_,rfl⟩
 obtain ⟨FB,hFB⟩:∃ FB,UC N=FB:=⟨_,rfl⟩
 have hev:ER k r s l=if H.1 < r.lo then (1,0) else if r.hi < H.2 then (2,0) else if 0<=CX then (3,CX) else if N.fl < r.rsv then (4,0) else if TR=false then (5,0) else if FB=false then (6,0) else (0,0):=by
   unfold ER;rw [hA,hH,hN,x13,hCX,hTR,hFB,x7]
 have hcel:∀ c∈N.gas.cs,B5 c:=by rw [<-x13];exact Dx (Md (CR hs))
 have hcl:N.gas.cs.length<=12:=by rw [<-x13];exact CS (Md (CR hs))
 have hair:¬ H.1 < r.lo->¬ r.hi < H.2->Fx A:=fun q1 q2=>by
   rw [<-hA];rw [hH] at o ⊢;exact aU (jc hk hg (by omega) o (by omega))
 have d1:=qy k r H.1 H.2;have d2:=qz k r H.1 H.2;have d4:=ABU k r N;have d6:=q8 N;rw [hFB] at d6
 have d3:¬ H.1 < r.lo->¬ r.hi < H.2->Cm prog 240 [.d (.ref (Ca N)), .d (.ref (WX A)), .lp 8 0] (lk [(8,[vi 0])]) [8] (.ret (vb (decide (0<=CX)))) (lk [(8,[vi CX])]):=fun q1 q2=>by
   have:=Cm.rename (fun _=>8) 1 (by omega) (rA N A 0 hcel (by omega) (hair q1 q2)) (by simp [BW]) (by simp [BW]) (by simp);rw [hCX] at this;simpa [Ea,HW] using this
 have d5:¬ H.1 < r.lo->¬ r.hi < H.2->¬ N.fl < r.rsv->Ct prog 244 [.d (.ref (Ca N)), .d (.ref (Ca s)), .d (.ref (Pi l)), .d (.ref [.ref (LI k r)]), .d (.ref (WX A))] (vb (!TR)) []:=fun q1 q2 q3=>by
   have v1:=rB.v;have v2:=rB.h
   have hbb:VU (KG s N):=by
     unfold KG;refine ⟨by simp only;omega,by simp only;omega,by simp only;omega,?_,?_,hcl,hcel⟩
     . simp only;rw [<-x14];exact sB.d
     . simp only;rw [<-x15];exact sB.b
   have:=rC hS k r N s l A h3 lB hbb (hair q1 q2);rw [hTR] at this;exact this
 simp only [doV] at c1;obtain ⟨RV,hRV⟩:∃ RV,Jx k r s l=RV:=⟨_,rfl⟩
 have hav:AV (InB []) AR RV:=by rw [<-hRV];exact fp k r s l
 rw [hRV];refine Ct.by gok eok mixed func173 c173 rfl (by simp [ntmps173]) (by simp) (by simp [LD];exact hav) fun E hE=>?_
 simp [p173,AA];refine CLa c1 ?_;simp [AA];refine CLa c2 ?_;simp [AA,m1,m2,inC,Nat.testBit,w1,w2];refine CLa c3 ?_;simp [AA];refine AL [(13,80740352)] (by kernel_rfl) ?_;simp [AA,inC,Nat.testBit];refine CLa c4' ?_;simp [AA,inC,Nat.testBit];refine CLa c5 ?_;simp [AA];refine AL [(20,6291456),(23,6291456)] (by kernel_rfl) ?_;simp [AA,inC,Nat.testBit];refine AL [(11,125829120)] (by kernel_rfl) ?_;simp [inC,Nat.testBit];refine CLa c6 ?_;simp [AA,inC,Nat.testBit];refine CLa c7 ?_;simp [inC,Nat.testBit];refine CLa c7' ?_;simp [inC,Nat.testBit];refine CLa c8 ?_;simp [inC,Nat.testBit];refine CLa c9 ?_;simp [inC,Nat.testBit];refine CLa c9' ?_;simp [inC,Nat.testBit];refine CLa c10 ?_;simp [AA];refine AL [(11,164626432)] (by kernel_rfl) ?_;simp [inC,Nat.testBit];refine CLa c11' ?_;simp [AA,AM,inC,Nat.testBit];refine Al (α:=Nat) (fun j=>⟨AO [(3, .lp 0 0),(4, .lp 1 0),(5, .lp 2 0),(6, .lp 3 0),(7, .lp 4 0),(8, .lp 5 0),(9, .lp 6 0),(14, .lp 7 0),(16, .lp 8 0),(164, .ls 9 0 6 2),(165,vi 6),(166,vi j)],lk [(0,[D2 k r]),(1,shB s),(2,lgB l),(3,shZ),(4,[vi 0,vi 0,vi 0,vi 0]),(5,shB N),(6,[vi H.1,vi H.2]),(7,[vi A.pl,vi A.ph,vi A.tl,vi A.th]),(8,[vi (if j<=2 then 0 else CX)]),(9,[vi 1, .cl 238 [.lp 6 0, .lp 0 0],vi 2, .cl 239 [.lp 6 0, .lp 0 0],vi 3, .cl 240 [.lp 5 0, .lp 7 0, .lp 8 0],vi 4, .cl 243 [.lp 5 0, .lp 0 0],vi 5, .cl 244 [.lp 5 0, .lp 1 0, .lp 2 0, .lp 0 0, .lp 7 0],vi 6, .cl 246 [.lp 5 0]])],10⟩) (fun j=>j<=6/\(0 < j->¬ H.1 < r.lo)/\(1 < j->¬ r.hi < H.2)/\(2 < j->¬ 0<=CX)/\(3 < j->¬ N.fl < r.rsv)/\(4 < j->TR=true)/\(5 < j->FB=true)) (fun j=>6 - j) 0 ?_ ?_ ?_
 . omega
 . refine AI.mk hE (lk [(0,0),(1,1048576),(2,2097152),(3,3145728),(4,4194304),(5,6291456),(6,40894464),(7,164626432),(8,167772160),(9,181403648)]) _ _ _ ?_ ?_ ?_ ?_ ?_<;>simp [x1,x2,x3,x4,x5,x6,x7,x8,x9,x10,x11,x12,x13,x14,x15,x16]
 . rintro j ⟨hj,q1,q2,q3,q4,q5,q6⟩
   match j,hj,q1,q2,q3,q4,q5,q6 with
   | 0,_,q1,q2,q3,q4,q5,q6=>
     have z:IntKind.wrap .i64 1=1:=by decide
     by_cases t:H.1 < r.lo
     . have e:ER k r s l=(1,0):=by rw [hev,if_pos t]
       simp [Cs,AA];refine CLa d1 ?_;simp [t];refine AL [(6,3)] (by kernel_rfl) ?_;simp [AA,inC,Nat.testBit];apply RZ;simp [results173,<-hRV,Jx,e]
     . simp [Cs,AA]
       refine CLa d1 ?_;simp [t,z];refine ⟨1,⟨by omega,fun _=>by omega,fun h=>absurd h (by omega),fun h=>absurd h (by omega),fun h=>absurd h (by omega),fun h=>absurd h (by omega),fun h=>absurd h (by omega)⟩,by omega,?_⟩;exact WK hE (lk [(0,0),(1,1),(2,2),(3,3),(4,4),(5,5),(6,6),(7,7),(8,8),(9,9)])
   | 1,_,q1,q2,q3,q4,q5,q6=>
     have q1:=q1 (by omega);have z:IntKind.wrap .i64 2=2:=by decide
     by_cases t:r.hi < H.2
     . have e:ER k r s l=(2,0):=by rw [hev,if_neg q1,if_pos t]
       simp [Cs,AA];refine CLa d2 ?_;simp [t];refine AL [(6,3)] (by kernel_rfl) ?_;simp [AA,inC,Nat.testBit];apply RZ;simp [results173,<-hRV,Jx,e]
     . simp [Cs,AA]
       refine CLa d2 ?_;simp [t,z];refine ⟨2,⟨by omega,fun _=>by omega,fun _=>by omega,fun h=>absurd h (by omega),fun h=>absurd h (by omega),fun h=>absurd h (by omega),fun h=>absurd h (by omega)⟩,by omega,?_⟩;exact WK hE (lk [(0,0),(1,1),(2,2),(3,3),(4,4),(5,5),(6,6),(7,7),(8,8),(9,9)])
   | 2,_,q1,q2,q3,q4,q5,q6=>
     have q1:=q1 (by omega);have q2:=q2 (by omega);have z:IntKind.wrap .i64 3=3:=by decide
     by_cases t:0<=CX
     . have e:ER k r s l=(3,CX):=by rw [hev,if_neg q1,if_neg q2,if_pos t]
       simp [Cs,AA];refine CRs (d3 q1 q2) (by simp) ?_;simp [t];refine AL [(6,3)] (by kernel_rfl) ?_;simp [AA,inC,Nat.testBit];apply RZ;simp [results173,<-hRV,Jx,e,Int.max_eq_left t]
     . simp [Cs,AA]
       refine CRs (d3 q1 q2) (by simp) ?_;simp [t,z];refine ⟨3,⟨by omega,fun _=>by omega,fun _=>by omega,fun _=>by omega,fun h=>absurd h (by omega),fun h=>absurd h (by omega),fun h=>absurd h (by omega)⟩,by omega,?_⟩;exact WK hE (lk [(0,0),(1,1),(2,2),(3,3),(4,4),(5,5),(6,6),(7,7),(8,8),(9,9)])
   | 3,_,q1,q2,q3,q4,q5,q6=>
     have q1:=q1 (by omega);have q2:=q2 (by omega);have q3:=q3 (by omega);have z:IntKind.wrap .i64 4=4:=by decide
     have mx:max CX 0=0:=by omega
     by_cases t:N.fl < r.rsv
     . have e:ER k r s l=(4,0):=by rw [hev,if_neg q1,if_neg q2,if_neg q3,if_pos t]
       simp [Cs,AA];refine CLa d4 ?_;simp [t];refine AL [(6,3)] (by kernel_rfl) ?_;simp [AA,inC,Nat.testBit];apply RZ;simp [results173,<-hRV,Jx,e,mx]
     . simp [Cs,AA]
       refine CLa d4 ?_;simp [t,z];refine ⟨4,⟨by omega,fun _=>by omega,fun _=>by omega,fun _=>by omega,fun _=>by omega,fun h=>absurd h (by omega),fun h=>absurd h (by omega)⟩,by omega,?_⟩;exact WK hE (lk [(0,0),(1,1),(2,2),(3,3),(4,4),(5,5),(6,6),(7,7),(8,8),(9,9)])
   | 4,_,q1,q2,q3,q4,q5,q6=>
     have q1:=q1 (by omega);have q2:=q2 (by omega);have q3:=q3 (by omega);have q4:=q4 (by omega);have z:IntKind.wrap .i64 5=5:=by decide
     have mx:max CX 0=0:=by omega
     by_cases t:TR=false
     . have e:ER k r s l=(5,0):=by rw [hev,if_neg q1,if_neg q2,if_neg q3,if_neg q4,if_pos t]
       simp [Cs,AA];refine CLa (d5 q1 q2 q4) ?_;simp [t];refine AL [(6,3)] (by kernel_rfl) ?_;simp [AA,inC,Nat.testBit];apply RZ;simp [results173,<-hRV,Jx,e,mx]
     . simp [Cs,AA]
       refine CLa (d5 q1 q2 q4) ?_;simp [t,z];refine ⟨5,⟨by omega,fun _=>by omega,fun _=>by omega,fun _=>by omega,fun _=>by omega,fun h=>absurd h (by omega)⟩,by omega,?_⟩;exact WK hE (lk [(0,0),(1,1),(2,2),(3,3),(4,4),(5,5),(6,6),(7,7),(8,8),(9,9)])
   | 5,_,q1,q2,q3,q4,q5,q6=>
     have q1:=q1 (by omega);have q2:=q2 (by omega);have q3:=q3 (by omega);have q4:=q4 (by omega);have q5:=q5 (by omega);have z:IntKind.wrap .i64 6=6:=by decide
     have mx:max CX 0=0:=by omega
     by_cases t:FB=false
     . have e:ER k r s l=(6,0):=by rw [hev,if_neg q1,if_neg q2,if_neg q3,if_neg q4,if_neg (by rw [q5];simp),if_pos t]
       simp [Cs,AA];refine CLa d6 ?_;simp [t];refine AL [(6,3)] (by kernel_rfl) ?_;simp [AA,inC,Nat.testBit];apply RZ;simp [results173,<-hRV,Jx,e,mx]
     . simp [Cs,AA]
       refine CLa d6 ?_;simp [t,z];refine ⟨6,⟨by omega,fun _=>by omega,fun _=>by omega,fun _=>by omega,fun _=>by omega,fun _=>q5⟩,by omega,?_⟩;exact WK hE (lk [(0,0),(1,1),(2,2),(3,3),(4,4),(5,5),(6,6),(7,7),(8,8),(9,9)])
   | 6,_,q1,q2,q3,q4,q5,q6=>
     have q1:=q1 (by omega);have q2:=q2 (by omega);have q3:=q3 (by omega);have q4:=q4 (by omega);have q5:=q5 (by omega);have q6:=q6 (by omega);have e:ER k r s l=(0,0):=by rw [hev,if_neg q1,if_neg q2,if_neg q3,if_neg q4,if_neg (by rw [q5];simp),if_neg (by rw [q6];simp)]
     simp [Cs,AA];apply RZ;simp [results173,<-hRV,Jx,e,hN]
   | j+7,hj,_,_,_,_,_,_=>omega
def RB (a:Except (Int × Int × Int) Shp):V:=match a with
 | .ok n=> .tup [Cl n (.d (AX n.gas.cs)),evV 0 0 0 0,vi 0]
 | .error e=> .tup [.agg shZ,evV e.2.1 0 0 e.2.2,vi e.1]
theorem ko (hS:SortOk) (k:Sky) (r:Rig) (s:Shp) (l:Leg) (h1:k.s.length<=1000000) (h2:k.w.length<=1000000) (h3:r.reg.length<=1000000) (hk:BV k=true) (hR:CF r=true) (hg:Ey k r=true) (hs:A6 s=true) (hl:BE l=true):Ct prog 99 [D2 k r,Cl s (.d (AX s.gas.cs)),g7 l] (RB (HK k r s l)) []:=by
 have c1:=pZ hS k r s l h1 h2 h3 hk hR hg hs hl;unfold Jx at c1;unfold HK;by_cases hz:(ER k r s l).1=0
 . rw [if_pos hz] at c1 ⊢
   have ebh:s.bh+l.bh=(Cj k r s l).bh:=rfl;rw [ebh]
   generalize Cj k r s l=N at*
   by_cases hf:1000000000000 < N.bh
   . rw [if_pos hf]
     simp only [RB];refine CB func99 c99 fun E hE=>?_
     simp [p99];refine CLa c1 ?_;simp [AA,hf];refine AL [(2,2097152)] (by kernel_rfl) ?_;simp [AA,inC,Nat.testBit];apply RZ;simp [results99]
   . rw [if_neg hf]
     simp only [RB];refine CB func99 c99 fun E hE=>?_
     simp [p99];refine CLa c1 ?_;simp [AA,hf];refine AL [(2,2097152)] (by kernel_rfl) ?_;simp [AA,inC,Nat.testBit];apply RZ;simp [results99]
 . rw [if_neg hz] at c1 ⊢
   simp only [RB]
   generalize ER k r s l=e at*
   refine CB func99 c99 fun E hE=>?_
   simp [p99];refine CLa c1 ?_;simp [AA,hz];refine AL [(2,2097152)] (by kernel_rfl) ?_;simp [AA,inC,Nat.testBit];apply RZ;simp [results99]
theorem kp (hS:SortOk) (k:Sky) (r:Rig) (h1:k.s.length<=1000000) (h2:k.w.length<=1000000) (h3:r.reg.length<=1000000) (hk:BV k=true) (hr:CF r=true) (hg:Ey k r=true):Cm prog 98 [Eu k,Fj r, .ls 0 0 2 1] (lk [(0,[vi 0,vi 0])]) [] (.ret (.tup [.lp 0 0,vi 0])) (lk [(0,(LI k r).map .d)]):=by
 have c1:=yy k h1 h2;have c2:=mH hS r (by omega);have c3:=SJ 0 0 0 0;rw [hk] at c1;rw [hr] at c2;have hl:=(Sr hk).len;obtain ⟨x,hx⟩:∃ x,k.s[0]?= some x:=⟨_,List.getElem?_eq_getElem (by omega)⟩
 obtain ⟨y,hy⟩:∃ y,k.s[k.s.length - 1]?= some y:=⟨_,List.getElem?_eq_getElem (by omega)⟩
 have c4:=Pw x.h y.h [r.lo,r.hi] (by simp);rw [XL (Hy hr) hx hy,hg] at c4;have w1:IntKind.wrap .i64 ((k.s.length:Int) - 1)=((k.s.length - 1:Nat):Int):=by rw [AD (by omega) (by omega)];omega
 have hI0:(0:Int) < k.s.length:=by omega
 obtain ⟨j,hj⟩:∃ j,k.s.length - 1=j:=⟨_,rfl⟩
 rw [hj] at w1 hy;have hI1:(j:Int) < k.s.length:=by omega
 refine CM 1 func98 c98 fun E hs hE=>?_
 simp [p98,inC,Nat.testBit];refine CLa c1 ?_;simp [inC,Nat.testBit];refine CLa c2 ?_;simp [AA,AM];refine CLb (c3) (by simp [tM]) ?_;simp [AA,AM,inC,Nat.testBit,hx,hy,w1];refine CLb (c4) (by simp [Ap]) ?_;simp [AA];refine AB.by (lk [(0,40894465)]) ?_;simp [results98]
theorem fd (ID:Nat) (hS:SortOk) (k:Sky) (r:Rig) (h1:k.s.length<=1000000) (h2:k.w.length<=1000000) (h3:r.reg.length<=1000000) (hk:BV k=true) (hr:CF r=true) (hg:Ey k r=true):Cm prog 98 [Eu k,Fj r, .ls ID 0 2 1] (lk [(ID,[vi 0,vi 0])]) [] (.ret (.tup [D2 k r,vi 0])) (lk []):=by
 have h:=Cm.freeze (r':= .tup [D2 k r,vi 0]) (kp hS k r h1 h2 h3 hk hr hg) (by
   refine ⟨?_, .inl rfl,trivial⟩;exact ⟨_,rfl,by simp⟩)
 have h0:Cm prog 98 [Eu k,Fj r, .ls 0 0 2 1] (lk [(0,[vi 0,vi 0])]) [] (.ret (.tup [D2 k r,vi 0])) (lk []):=h;have:=Cm.rename (fun _=>ID) 1 (by omega) h0 (by simp [BW]) (by simp [BW]) (by simp);simpa [Ea,HW] using this
def gA (w:List Gal) (A B i:Nat):Int:=rS ((w.take (min B i)).drop A)
theorem tq {w:List Gal} {A B i:Nat} {x:Gal} (hx:w[i]?= some x) (h1:A<=i) (h2:i < B):gA w A B (i+1)=max (gA w A B i) x.g:=by
 have hi:=(List.getElem?_eq_some_iff.1 hx).1;unfold gA;rw [Nat.min_eq_right (by omega),Nat.min_eq_right (by omega),List.take_add_one,hx];rw [List.drop_append_of_le_length (by simp;omega)];unfold rS;simp
theorem AAK {w:List Gal} {A B i:Nat} (h:i < A):gA w A B (i+1)=gA w A B i:=by
 unfold gA;rw [List.drop_eq_nil_of_le (by simp;omega),List.drop_eq_nil_of_le (by simp;omega)]
theorem AAL {w:List Gal} {A B i:Nat} (h:B<=i):gA w A B (i+1)=gA w A B i:=by
 unfold gA;rw [Nat.min_eq_left (by omega),Nat.min_eq_left (by omega)]
theorem xk {w:List Gal} {A B:Nat}:gA w A B 0=0:=by unfold gA;simp [rS]
theorem yz {w:List Gal} {h:Int × Int}:gA w (Qq w h.1 - 1) (upN w h.2+1) w.length=rO w h:=by
 unfold gA rO;congr 2;by_cases hc:upN w h.2+1<=w.length
 . rw [Nat.min_eq_left hc]
 . rw [Nat.min_eq_right (by omega),List.take_length,List.take_of_length_le (by omega)]
theorem AAM (l:List Gal) (h:Int × Int) (hW:OkW l) (hh:h.1<=h.2):Ct prog 284 [.d (C2 l),vsp h.1 h.2] (vi (rO l h)) []:=by
 have hlen:=hW.len;rw [<-yz];obtain ⟨A,hA⟩:∃ A,Qq l h.1 - 1=A:=⟨_,rfl⟩
 obtain ⟨B,hB⟩:∃ B,upN l h.2+1=B:=⟨_,rfl⟩
 rw [hA,hB];refine CB func284 c284 fun E hE=>?_
 simp [p284];refine Al (α:=Nat) (fun i=>⟨AO [(0, .d (C2 l)),(3, .lp 0 0),(5,vi (gA l A B i)),(6,vi i)],lk [(0,[vi h.1,vi h.2])],1⟩) (fun i=>i<=l.length) (fun i=>l.length - i) 0 ?_ ?_ ?_
 . omega
 . rw [xk]
   exact WK hE (lk [(0,0)])
 . intro i hi
   by_cases hil:i < l.length
   . obtain ⟨x,hx⟩:=gE hil
     have hz:=@wz i (by omega);have hI:(i:Int) < l.length:=by omega
     by_cases c1:x.h < h.1
     . have c1':¬ h.2 < x.h:=by omega
       have b2:i < B:=by
         apply Nat.lt_of_not_le;intro hc
         have:=Zh hW (hi:=h.2) (i:=i) (by omega) hx;omega
       by_cases hn:i+1 < l.length
       . obtain ⟨y,hy⟩:=gE hn
         obtain ⟨j,hj⟩:∃ j,i+1=j:=⟨_,rfl⟩
         rw [hj] at hz hy hn;have hN:(j:Int) < l.length:=by omega
         by_cases c2:y.h < h.1
         . have b1:i < A:=by
             apply Nat.lt_of_not_le;intro hc
             have:=ft hW (lo:=h.1) (i:=j) (by omega) hy;omega
           have nx:=AAK (w:=l) (B:=B) b1;rw [hj] at nx;simp [Xg,hI,hx,inC,Nat.testBit,c1,c1',hz,hN,hy,c2];refine ⟨j,by omega,by omega,?_⟩;rw [nx];exact WK hE (lk [(0,0)])
         . have b1:A<=i:=by
             apply Nat.le_of_not_lt;intro hc
             have:=Zg (lo:=h.1) (i:=j) (by omega) hy;omega
           have nx:=tq hx b1 b2;rw [hj] at nx;simp [Xg,hI,hx,inC,Nat.testBit,c1,c1',hz,hN,hy,c2];refine ⟨j,by omega,by omega,?_⟩;rw [nx];exact WK hE (lk [(0,0)])
       . have hN:¬ ((i+1:Nat):Int) < l.length:=by omega
         have b1:A<=i:=by have:Qq l h.1<=l.length:=JG;omega
         have nx:=tq hx b1 b2;obtain ⟨j,hj⟩:∃ j,i+1=j:=⟨_,rfl⟩
         rw [hj] at hz hN nx;simp [Xg,hI,hx,inC,Nat.testBit,c1,c1',hz,hN];refine ⟨j,by omega,by omega,?_⟩;rw [nx];exact WK hE (lk [(0,0)])
     . have b1:A<=i:=by
         apply Nat.le_of_not_lt;intro hc
         have:=Zg (lo:=h.1) (i:=i) (by omega) hx;omega
       by_cases c3:h.2 < x.h
       . by_cases h0:i=0
         . have b2:i < B:=by omega
           have nx:=tq hx b1 b2;have hp:¬ (0:Int) < i:=by omega
           have hp2:¬ 0 < i:=by omega
           simp [Xg,hI,hp2,hx,inC,Nat.testBit,c1,c3,hz];refine ⟨i+1,by omega,by omega,?_⟩;rw [nx];exact WK hE (lk [(0,0)])
         . obtain ⟨z,hzz⟩:∃ z,l[i - 1]?= some z:=⟨_,List.getElem?_eq_getElem (by omega)⟩
           have hw:IntKind.wrap .i64 ((i:Int) - 1)=((i - 1:Nat):Int):=by rw [AD (by omega) (by omega)];omega
           have hp:(0:Int) < i:=by omega
           have hp2:0 < i:=by omega
           obtain ⟨j,hj⟩:∃ j,i - 1=j:=⟨_,rfl⟩
           rw [hj] at hw hzz;have hJ:(j:Int) < l.length:=by omega
           by_cases c4:h.2 < z.h
           . have b2:B<=i:=by
               apply Nat.le_of_not_lt;intro hc
               have:=pd (hi:=h.2) (i:=j) (by omega) hzz;omega
             have nx:=AAL (w:=l) (A:=A) b2;simp [Xg,hI,hx,inC,Nat.testBit,c1,c3,hz,hw,hp2,hzz,c4];refine ⟨i+1,by omega,by omega,?_⟩;rw [nx];exact WK hE (lk [(0,0)])
           . have b2:i < B:=by
               apply Nat.lt_of_not_le;intro hc
               have:=Zh hW (hi:=h.2) (i:=j) (by omega) hzz;omega
             have nx:=tq hx b1 b2;simp [Xg,hI,hx,inC,Nat.testBit,c1,c3,hz,hw,hp2,hzz,c4];refine ⟨i+1,by omega,by omega,?_⟩;rw [nx];exact WK hE (lk [(0,0)])
       . have b2:i < B:=by
           apply Nat.lt_of_not_le;intro hc
           have:=Zh hW (hi:=h.2) (i:=i) (by omega) hx;omega
         have nx:=tq hx b1 b2;simp [Xg,hI,hx,inC,Nat.testBit,c1,c3,hz];refine ⟨i+1,by omega,by omega,?_⟩;rw [nx];exact WK hE (lk [(0,0)])
   . have e:i=l.length:=by omega
     have hn:¬ (i:Int) < l.length:=by omega
     subst e;simp [Xg];apply RZ;simp [results284]
theorem xm (l:List Gal) (h:Int × Int) (hw:OkW l) (hp:PkB l HG):Ct prog 285 [.d (C2 l),vsp h.1 h.2,vb true] (vsp (Fg HG l h).1 (Fg HG l h).2) []:=by
 have hl:=hw.len;obtain ⟨fa,hfa⟩:∃ x,l[0]?= some x:=⟨_,List.getElem?_eq_getElem (by omega)⟩
 obtain ⟨la,hla⟩:∃ x,l[l.length - 1]?= some x:=⟨_,List.getElem?_eq_getElem (by omega)⟩
 have kfa:(Dd HG l)[0]?= some (fa.h,HG fa):=by rw [EG,hfa];rfl
 have kln:=IH (pk:=HG) (w:=l);refine CB func285 AAB fun E hE=>?_
 simp [p285];refine Al (α:=Nat) (fun i=>⟨AO [(0, .d (C2 l)),(2,vb true),(4, .lp 0 0),(6, .lp 1 0),(7,hdF 3 (K6 HG l i) 2),(8,vi i)],lk ([(0,[vi h.1,vi h.2]),(1,[vi 0,vi 0])]++ouF knL (K6 HG l i) 2),3⟩) (fun i=>i<=l.length) (fun i=>l.length - i) 0 ?_ ?_ ?_
 . omega
 . rw [show K6 HG l 0=[] from rfl,Aq,Au]
   exact WK hE (lk [(0,0),(1,1048576)])
 . intro i hi
   by_cases hil:i < l.length
   . obtain ⟨x,hx⟩:=gE hil
     have hz:=@wz i (by omega);have hI:(i:Int) < l.length:=by omega
     have hnx:=Vl (pk:=HG) hx;have hO:(K6 HG l i).length<=1000000:=by unfold K6;simp;omega
     obtain ⟨O,hOe⟩:∃ O,K6 HG l i=O:=⟨_,rfl⟩
     rw [hOe] at hnx hO ⊢;by_cases hne:O=[]
     . subst hne
       rw [Aq,Au];simp [Xe,hI,hx,AA,AM,inC,Nat.testBit,hz];refine ⟨i+1,by omega,by omega,?_⟩;rw [hnx,Ak (by simp),AZ (by simp)];refine AI.mk hE (lk [(0,0),(1,1),(2,30408707)]) _ _ _ ?_ ?_ ?_ ?_ ?_<;>simp [AH,HG]
     . have hsl:=Aw hfk O
       have hwh:=E9 hfk O;have n1:(O.length+1)*24<=140737488355328:=by omega
       have n2:O.length+1<=9223372036854775807:=by omega
       rw [Ak hne,AZ hne];simp [Xe,hI,hx,AA,AM,hsl,hwh,inC,Nat.testBit,hz,n1,n2];refine ⟨i+1,by omega,by omega,?_⟩;rw [hnx,Ak (by simp),AZ (by simp),IV];refine AI.mk hE (lk [(0,0),(1,1),(2,30408707)]) _ _ _ ?_ ?_ ?_ ?_ ?_<;>simp [HG]
   . have e:i=l.length:=by omega
     have hn:¬ (i:Int) < l.length:=by omega
     have ek:K6 HG l i=Dd HG l:=by unfold K6 Dd;rw [e,List.take_length]
     have ene:Dd HG l≠[]:=by intro h0;rw [h0] at kln;simp at kln;omega
     obtain ⟨K,hK⟩:∃ K,Dd HG l=K:=⟨_,rfl⟩
     rw [hK] at kfa kln ek ene;have hsl:=Aw hfk K;rw [ek,Ak ene,AZ ene,kln];by_cases h2:2<=l.length
     . have e1:∀ z,min (max z fa.h) la.h=EA l z:=fun z=>by unfold EA;rw [hfa,hla]
       have c3:=wF K (EA l h.1,EA l h.2) (by omega)
       have e3:(Jy K (EA l h.1,EA l h.2)).1=Fg HG l h:=by
         rw [<-hK]
         match l,h2 with
         | a::b::r,_=>rfl
       unfold vse at c3;rw [e3] at c3
       have hb:∀ H:Hp,H 2=some (AH knL K)->Bor H (.ls 2 0 l.length 3) (.d (DA K)):=fun H hH=>by
         have:=B0 (H:=H) (id:=2) hfk (l:=K) hH;rw [kln] at this;exact this
       have w1:IntKind.wrap .i64 ((l.length:Int) - 1)=((l.length - 1:Nat):Int):=by rw [AD (by omega) (by omega)];omega
       have hne1:¬ l.length=1:=by omega
       have hne2:¬ (l.length:Int)=1:=by omega
       have hI0:(0:Int) < l.length:=by omega
       obtain ⟨j,hj⟩:∃ j,l.length - 1=j:=⟨_,rfl⟩
       rw [hj] at w1 hla;have hI1:(j:Int) < l.length:=by omega
       simp [Xe,hn,AA,hne2,w1,hfa,hla,e1];refine CLb (c3) (by simp [hb]) ?_;simp [AA];apply RZ;simp [results285]
     . have e1:l.length=1:=by omega
       have e2:Fg HG l h=HG fa:=by
         obtain ⟨x,rfl⟩:∃ x,l=[x]:=List.length_eq_one_iff.1 e1;cases hfa;rfl
       rw [e1] at kln;rw [kln] at hsl;obtain ⟨k0,hk0⟩:∃ k0,K=[k0]:=List.length_eq_one_iff.1 kln;subst hk0;cases kfa;have hi1:i=1:=by omega
       subst hi1;simp [Xe,AA,e1,AH];apply RZ;simp [results285,e2,HG]
theorem xn (l:List Gal) (h:Int × Int) (hw:OkW l) (hp:PkB l EY):Ct prog 285 [.d (C2 l),vsp h.1 h.2,vb false] (vsp (Fg EY l h).1 (Fg EY l h).2) []:=by
 have hl:=hw.len;obtain ⟨fa,hfa⟩:∃ x,l[0]?= some x:=⟨_,List.getElem?_eq_getElem (by omega)⟩
 obtain ⟨la,hla⟩:∃ x,l[l.length - 1]?= some x:=⟨_,List.getElem?_eq_getElem (by omega)⟩
 have kfa:(Dd EY l)[0]?= some (fa.h,EY fa):=by rw [EG,hfa];rfl
 have kln:=IH (pk:=EY) (w:=l);refine CB func285 AAB fun E hE=>?_
 simp [p285];refine Al (α:=Nat) (fun i=>⟨AO [(0, .d (C2 l)),(2,vb false),(4, .lp 0 0),(6, .lp 1 0),(7,hdF 3 (K6 EY l i) 2),(8,vi i)],lk ([(0,[vi h.1,vi h.2]),(1,[vi 0,vi 0])]++ouF knL (K6 EY l i) 2),3⟩) (fun i=>i<=l.length) (fun i=>l.length - i) 0 ?_ ?_ ?_
 . omega
 . rw [show K6 EY l 0=[] from rfl,Aq,Au]
   exact WK hE (lk [(0,0),(1,1048576)])
 . intro i hi
   by_cases hil:i < l.length
   . obtain ⟨x,hx⟩:=gE hil
     have hz:=@wz i (by omega);have hI:(i:Int) < l.length:=by omega
     have hnx:=Vl (pk:=EY) hx;have hO:(K6 EY l i).length<=1000000:=by unfold K6;simp;omega
     obtain ⟨O,hOe⟩:∃ O,K6 EY l i=O:=⟨_,rfl⟩
     rw [hOe] at hnx hO ⊢;by_cases hne:O=[]
     . subst hne
       rw [Aq,Au];simp [Xe,hI,hx,AA,AM,inC,Nat.testBit,hz];refine ⟨i+1,by omega,by omega,?_⟩;rw [hnx,Ak (by simp),AZ (by simp)];refine AI.mk hE (lk [(0,0),(1,1),(2,23068675)]) _ _ _ ?_ ?_ ?_ ?_ ?_<;>simp [AH,EY]
     . have hsl:=Aw hfk O
       have hwh:=E9 hfk O;have n1:(O.length+1)*24<=140737488355328:=by omega
       have n2:O.length+1<=9223372036854775807:=by omega
       rw [Ak hne,AZ hne];simp [Xe,hI,hx,AA,AM,hsl,hwh,inC,Nat.testBit,hz,n1,n2];refine ⟨i+1,by omega,by omega,?_⟩;rw [hnx,Ak (by simp),AZ (by simp),IV];refine AI.mk hE (lk [(0,0),(1,1),(2,23068675)]) _ _ _ ?_ ?_ ?_ ?_ ?_<;>simp [EY]
   . have e:i=l.length:=by omega
     have hn:¬ (i:Int) < l.length:=by omega
     have ek:K6 EY l i=Dd EY l:=by unfold K6 Dd;rw [e,List.take_length]
     have ene:Dd EY l≠[]:=by intro h0;rw [h0] at kln;simp at kln;omega
     obtain ⟨K,hK⟩:∃ K,Dd EY l=K:=⟨_,rfl⟩
     rw [hK] at kfa kln ek ene;have hsl:=Aw hfk K;rw [ek,Ak ene,AZ ene,kln];by_cases h2:2<=l.length
     . have e1:∀ z,min (max z fa.h) la.h=EA l z:=fun z=>by unfold EA;rw [hfa,hla]
       have c3:=wF K (EA l h.1,EA l h.2) (by omega)
       have e3:(Jy K (EA l h.1,EA l h.2)).1=Fg EY l h:=by
         rw [<-hK]
         match l,h2 with
         | a::b::r,_=>rfl
       unfold vse at c3;rw [e3] at c3
       have hb:∀ H:Hp,H 2=some (AH knL K)->Bor H (.ls 2 0 l.length 3) (.d (DA K)):=fun H hH=>by
         have:=B0 (H:=H) (id:=2) hfk (l:=K) hH;rw [kln] at this;exact this
       have w1:IntKind.wrap .i64 ((l.length:Int) - 1)=((l.length - 1:Nat):Int):=by rw [AD (by omega) (by omega)];omega
       have hne1:¬ l.length=1:=by omega
       have hne2:¬ (l.length:Int)=1:=by omega
       have hI0:(0:Int) < l.length:=by omega
       obtain ⟨j,hj⟩:∃ j,l.length - 1=j:=⟨_,rfl⟩
       rw [hj] at w1 hla;have hI1:(j:Int) < l.length:=by omega
       simp [Xe,hn,AA,hne2,w1,hfa,hla,e1];refine CLb (c3) (by simp [hb]) ?_;simp [AA];apply RZ;simp [results285]
     . have e1:l.length=1:=by omega
       have e2:Fg EY l h=EY fa:=by
         obtain ⟨x,rfl⟩:∃ x,l=[x]:=List.length_eq_one_iff.1 e1;cases hfa;rfl
       rw [e1] at kln;rw [kln] at hsl;obtain ⟨k0,hk0⟩:∃ k0,K=[k0]:=List.length_eq_one_iff.1 kln;subst hk0;cases kfa;have hi1:i=1:=by omega
       subst hi1;simp [Xe,AA,e1,AH];apply RZ;simp [results285,e2,EY]
theorem AAN (l:List Gal) (h:Int × Int) (hl:l.length<=1000000):Ct prog 253 [.d (C2 l),vsp h.1 h.2] (.tup [AAO (Nn l h),vi (Lg l h)]) []:=by
 have c1:=yP l hl;have c2:=yS h;cases hw:Dr l
 . rw [hw] at c1
   have e1:Lg l h=22:=by unfold Lg;rw [hw];rfl
   have e2:Nn l h=((0,0),0,0):=by unfold Nn;rw [e1];rfl
   rw [e1,e2];refine CB func253 yr fun E hE=>?_
   simp [p253];refine CLa c1 ?_;simp [AA];apply RZ;simp [results253]
 rw [hw] at c1;cases hs:okS h
 . rw [hs] at c2
   have e1:Lg l h=10:=by unfold Lg;rw [hw,hs];rfl
   have e2:Nn l h=((0,0),0,0):=by unfold Nn;rw [e1];rfl
   rw [e1,e2];refine CB func253 yr fun E hE=>?_
   simp [p253];refine CLa c1 ?_;simp;refine CLa c2 ?_;simp [AA];apply RZ;simp [results253]
 rw [hs] at c2;have hW:=L0 hw;have hlen:=hW.len;have hh:=(CT.1 hs).1;have e1:Lg l h=0:=by unfold Lg;rw [hw,hs];rfl
 have e2:Nn l h=(Jr l h,Js l h):=by unfold Nn;rw [e1];rfl
 rw [e1,e2];have g1:=Yb hW h;have sx:=Mz hW (pk:=HG) (fun x hx=>hW.x x hx) hh;have sy:=Mz hW (pk:=EY) (fun x hx=>hW.y x hx) hh;have c3:=AAM l h hW hh;have c4:=xm l h hW (fun x hx=>hW.x x hx);have c5:=xn l h hW (fun x hx=>hW.y x hx);unfold Jr Js
 generalize rO l h=g at*
 generalize Fg HG l h=u at*
 generalize Fg EY l h=v at*
 have w1:IntKind.wrap .i64 (u.1 - g)=u.1 - g:=AD (by omega) (by omega);have w2:IntKind.wrap .i64 (u.2+g)=u.2+g:=AD (by omega) (by omega);have w3:IntKind.wrap .i64 (v.1 - g)=v.1 - g:=AD (by omega) (by omega);have w4:IntKind.wrap .i64 (v.2+g)=v.2+g:=AD (by omega) (by omega);refine CB func253 yr fun E hE=>?_
 simp [p253];refine CLa c1 ?_;simp;refine CLa c2 ?_;simp;refine CLa c3 ?_;simp [inC,Nat.testBit];refine CLa c4 ?_;simp [inC,Nat.testBit];refine CLa c5 ?_;simp [AA,w1,w2,w3,w4];apply RZ;simp [results253]
theorem sK (a b c d t:Int) (ht:t=1\/t=6) (h:(-100000000000000<=a/\a<=100000000000000)/\(-100000000000000<=b/\b<=100000000000000)/\(-100000000000000<=c/\c<=100000000000000)/\ -100000000000000<=d/\d<=100000000000000):Ct prog 247 [vsp a b,vsp c d,vi t] (vsp (a+t*c) (b+t*d)) []:=by
 have w1:IntKind.wrap .i64 (t*c)=t*c:=by rcases ht with rfl | rfl<;>exact AD (by omega) (by omega)
 have w2:IntKind.wrap .i64 (t*d)=t*d:=by rcases ht with rfl | rfl<;>exact AD (by omega) (by omega)
 have w3:IntKind.wrap .i64 (a+t*c)=a+t*c:=by rcases ht with rfl | rfl<;>exact AD (by omega) (by omega)
 have w4:IntKind.wrap .i64 (b+t*d)=b+t*d:=by rcases ht with rfl | rfl<;>exact AD (by omega) (by omega)
 refine CB func247 c247 fun E hE=>?_
 simp [p247,AA,w1,w2,w3,w4];apply RZ;simp [results247]
theorem wQ (a b c d:Int):Ct prog 248 [vsp a b,vsp c d] (vsp (min a c) (max b d)) []:=by
 refine CB func248 c248 fun E hE=>?_
 simp [p248,AA];apply RZ;simp [results248]
theorem zi (a b n:Int):Ct prog 250 [vsp a b,vi n] (vsp (min a n) (min b n)) []:=by
 refine CB func250 c250 fun E hE=>?_
 simp [p250,AA];apply RZ;simp [results250]
theorem zj (r:List (Int × Int)) (s h:Int × Int) (hr:r.length<=1000000):Ct prog 252 [.d (An r),vsp s.1 s.2,vsp h.1 h.2] (vb (Il r s h)) []:=by
 have c1:=un r (s.1,h.1) (by omega);have c2:=un r (s.1,h.2) (by omega);have c3:=un r (s.2,h.1) (by omega);have c4:=un r (s.2,h.2) (by omega);have z0:IntKind.wrap .i64 0=0:=by decide
 have z1:IntKind.wrap .i64 1=1:=by decide
 have z2:IntKind.wrap .i64 2=2:=by decide
 have z3:IntKind.wrap .i64 3=3:=by decide
 have z4:IntKind.wrap .i64 4=4:=by decide
 have er:Il r s h=(inV r (s.1,h.1)&&inV r (s.2,h.1)&&inV r (s.1,h.2)&&inV r (s.2,h.2)):=by
   unfold Il;cases inV r (s.1,h.1)<;>cases inV r (s.1,h.2)<;>cases inV r (s.2,h.1)<;>cases inV r (s.2,h.2)<;>rfl
 rw [er]
 generalize inV r (s.1,h.1)=b1 at*
 generalize inV r (s.1,h.2)=b2 at*
 generalize inV r (s.2,h.1)=b3 at*
 generalize inV r (s.2,h.2)=b4 at*
 generalize Yj r=e at*
 simp only at c1 c2 c3 c4;refine CB func252 c252 fun E hE=>?_
 simp [p252];refine Al (α:=Nat) (fun j=>⟨AO [(0, .d (An r)),(4, .lp 0 0),(5, .lp 1 0),(7,vi j)],lk [(0,[vi s.1,vi s.2]),(1,[vi h.1,vi h.2])],2⟩) (fun j=>j<=4/\(0 < j->b1=true)/\(1 < j->b3=true)/\(2 < j->b2=true)/\(3 < j->b4=true)) (fun j=>4 - j) 0 ?_ ?_ ?_
 . omega
 . exact WK hE (lk [(0,0),(1,1048576)])
 . rintro j ⟨hj,g1,g2,g3,g4⟩
   match j,hj,g1,g2,g3,g4 with
   | 0,_,_,_,_,_=>
     simp [rj,AA,z0];refine CLa c1 ?_;cases b1
     . simp
       apply RZ;simp [results252]
     . simp [z1]
       refine ⟨1,by simp,by omega,?_⟩;exact WK hE (lk [(0,0),(1,1)])
   | 1,_,g1,_,_,_=>
     have g1:=g1 (by omega);subst g1;simp [rj,AA,z0];refine CLa c3 ?_;cases b3
     . simp
       apply RZ;simp [results252]
     . simp [z2]
       refine ⟨2,by simp,by omega,?_⟩;exact WK hE (lk [(0,0),(1,1)])
   | 2,_,g1,g2,_,_=>
     have g1:=g1 (by omega);have g2:=g2 (by omega);subst g1 g2;simp [rj,AA,z1];refine CLa c2 ?_;cases b2
     . simp
       apply RZ;simp [results252]
     . simp [z3]
       refine ⟨3,by simp,by omega,?_⟩;exact WK hE (lk [(0,0),(1,1)])
   | 3,_,g1,g2,g3,_=>
     have g1:=g1 (by omega);have g2:=g2 (by omega);have g3:=g3 (by omega);subst g1 g2 g3;simp [rj,AA,z1];refine CLa c4 ?_;cases b4
     . simp
       apply RZ;simp [results252]
     . simp [z4]
       refine ⟨4,by simp,by omega,?_⟩;exact WK hE (lk [(0,0),(1,1)])
   | 4,_,g1,g2,g3,g4=>
     have g1:=g1 (by omega);have g2:=g2 (by omega);have g3:=g3 (by omega);have g4:=g4 (by omega);subst g1 g2 g3 g4;simp [rj];apply RZ;simp [results252]
   | j+5,hj,_,_,_,_=>omega
def vc (k:Sky) (r:Rig) (s:Shp) (l:Leg):Shp:=
 if (ER k r s l).1=0\/(ER k r s l).1=6 then Cj k r s l
 else if (ER k r s l).1=5 then {Cj k r s l with xl:=s.xl,xh:=s.xh,yl:=s.yl,yh:=s.yh}
 else if (ER k r s l).1=4 then {Cj k r s l with xl:=s.xl,xh:=s.xh,yl:=s.yl,yh:=s.yh,wl:=s.wl,wh:=s.wh}
 else {s with hl:=s.hl+l.ul,hh:=s.hh+l.uh,gas:=tkQ s.gas}
theorem AAF (k:Sky) (r:Rig) (s:Shp) (l:Leg) (h1:k.s.length<=1000000) (h2:k.w.length<=1000000) (h3:r.reg.length<=1000000) (hk:BV k=true) (hR:CF r=true) (hg:Ey k r=true) (hs:A6 s=true) (hl:BE l=true):Ct prog 174 [Eu k,Fj r,Cl s (.d (AX s.gas.cs)),g7 l] (.tup [Cl (vc k r s l) (.d (AX (vc k r s l).gas.cs)),vi (ER k r s l).1,vi (ER k r s l).2]) []:=by
 have sB:=GT hs;have sX:=AAb hs;have lB:=Mf hl;have rB:=Hy hR;have hW:=mV hk;have b1:=sB.h;have b2:=sB.f;have b3:=sB.w;have b4:=sX.b;have b5:=sX.x;have b6:=sX.y;have l1:=lB.u;have l2:=lB.b;have l3:=lB.x;have l4:=lB.y;have g1:=rB.g;have g2:=rB.t;have o:=jd sB lB;have wb:=kQ hW o;have ge:=Me l2 g1;have p0:0<=l.bl*r.gl:=Int.mul_nonneg (by omega) (by omega);have p1:l.bh*r.gh<=1000000*120:=Int.mul_le_mul (by omega) (by omega) (by omega) (by omega);have p2:l.bl*r.gl<=l.bh*r.gh:=Int.mul_le_mul (by omega) (by omega) (by omega) (by omega);have eg:(Ja (l.bl,l.bh) (r.gl,r.gh) (100,100)).1=DY r l:=rfl
 have gb:(0<=(DY r l).1/\(DY r l).1<=1200000)/\0<=(DY r l).2/\(DY r l).2<=1200001:=by
   rw [<-eg,ge];simp only;omega
 have c1:=yZ s.gas (CR hs);have c2:=sK s.hl s.hh l.ul l.uh 1 (.inl rfl) (by omega);have c3:=sK s.bl s.bh l.bl l.bh 1 (.inl rfl) (by omega);simp only [Int.one_mul] at c2 c3;have c4:=AAJ (l.bl,l.bh) (r.gl,r.gh) (100,100)
 have c4':Ct prog 249 [vsp l.bl l.bh,vsp r.gl r.gh,vsp 100 100] (.tup [vsp (DY r l).1 (DY r l).2,vi 0]) []:=by
   rw [wt] at c4;unfold vse at c4;rw [eg,ge] at c4;exact c4
 have c5:=sK s.wl s.wh (DY r l).1 (DY r l).2 1 (.inl rfl) (by omega);have c5':=zi (s.wl+(DY r l).1) (s.wh+(DY r l).2) r.tank;simp only [Int.one_mul] at c5;have eh:mhS s l=(min s.hl (s.hl+l.ul),max s.hh (s.hh+l.uh)):=rfl;have ch:=wQ s.hl s.hh (s.hl+l.ul) (s.hh+l.uh)
 have ew:Lg k.w (mhS s l)=0:=by
   unfold Lg;have:Dr k.w=true:=by unfold BV at hk;simp only [Bool.and_eq_true] at hk;exact hk.2
   rw [this,CT.2 (by rw [eh] at o ⊢;simp only at o ⊢;omega)];rfl
 have c6:=AAN k.w (mhS s l) h2;rw [ew,show Nn k.w (mhS s l)=(Jr k.w (mhS s l),Js k.w (mhS s l)) by unfold Nn;rw [ew];rfl] at c6;have c11:=fn73 k.s (mhS s l).1 (mhS s l).2 h1;obtain ⟨wx,hwx⟩:∃ wx,Jr k.w (mhS s l)=wx:=⟨_,rfl⟩
 obtain ⟨wy,hwy⟩:∃ wy,Js k.w (mhS s l)=wy:=⟨_,rfl⟩
 rw [hwx,hwy] at c6 wb;have c7:=sK l.axl l.axh wx.1 wx.2 1 (.inl rfl) (by omega);have c8:=sK s.xl s.xh (l.axl+wx.1) (l.axh+wx.2) 6 (.inr rfl) (by omega);have c9:=sK l.ayl l.ayh wy.1 wy.2 1 (.inl rfl) (by omega);have c10:=sK s.yl s.yh (l.ayl+wy.1) (l.ayh+wy.2) 6 (.inr rfl) (by omega);simp only [Int.one_mul] at c7 c9
 have en:Cj k r s l={s with
   xl:=s.xl+6*(l.axl+wx.1),xh:=s.xh+6*(l.axh+wx.2),yl:=s.yl+6*(l.ayl+wy.1),yh:=s.yh+6*(l.ayh+wy.2)
   hl:=s.hl+l.ul,hh:=s.hh+l.uh,fl:=s.fl - l.bh,fh:=s.fh - l.bl
   wl:=min (s.wl+(DY r l).1) r.tank,wh:=min (s.wh+(DY r l).2) r.tank
   bl:=s.bl+l.bl,bh:=s.bh+l.bh,gas:=tkQ s.gas}:=by unfold Cj;rw [hwx,hwy]
 obtain ⟨H,hH⟩:∃ H,mhS s l=H:=⟨_,rfl⟩
 obtain ⟨A,hA⟩:∃ A,(atA k.s (mhS s l).1 (mhS s l).2).1=A:=⟨_,rfl⟩
 obtain ⟨AE,hAE⟩:∃ AE,(atA k.s (mhS s l).1 (mhS s l).2).2=AE:=⟨_,rfl⟩
 have c11':Ct prog 73 [.d (BF k.s),vsp H.1 H.2] (.tup [Ox A,vi AE]) []:=by
   rw [<-hA,<-hAE,<-hH];exact c11
 have m1:min s.hl (s.hl+l.ul)=H.1:=by rw [<-hH];rfl
 have m2:max s.hh (s.hh+l.uh)=H.2:=by rw [<-hH];rfl
 rw [m1,m2] at ch;rw [hH] at c6;have w1:IntKind.wrap .i64 (s.fl - l.bh)=s.fl - l.bh:=AD (by omega) (by omega);have w2:IntKind.wrap .i64 (s.fh - l.bl)=s.fh - l.bl:=AD (by omega) (by omega)
 generalize DY r l=G at*
 obtain ⟨N,hN⟩:∃ N,Cj k r s l=N:=⟨_,rfl⟩
 rw [hN] at en;have n1:s.xl+6*(l.axl+wx.1)=N.xl/\s.xh+6*(l.axh+wx.2)=N.xh/\s.yl+6*(l.ayl+wy.1)=N.yl/\s.yh+6*(l.ayh+wy.2)=N.yh:=by rw [en];exact ⟨rfl,rfl,rfl,rfl⟩
 have n2:s.hl+l.ul=N.hl/\s.hh+l.uh=N.hh/\s.fl - l.bh=N.fl/\s.fh - l.bl=N.fh:=by rw [en];exact ⟨rfl,rfl,rfl,rfl⟩
 have n3:min (s.wl+G.1) r.tank=N.wl/\min (s.wh+G.2) r.tank=N.wh/\s.bl+l.bl=N.bl/\s.bh+l.bh=N.bh:=by rw [en];exact ⟨rfl,rfl,rfl,rfl⟩
 have n4:tkQ s.gas=N.gas/\s.dry=N.dry/\s.bal=N.bal/\s.drp=N.drp:=by rw [en];exact ⟨rfl,rfl,rfl,rfl⟩
 clear en;obtain ⟨x1,x2,x3,x4⟩:=n1;obtain ⟨x5,x6,x7,x8⟩:=n2;obtain ⟨x9,x10,x11,x12⟩:=n3;obtain ⟨x13,x14,x15,x16⟩:=n4;obtain ⟨CX,hCX⟩:∃ CX,ixF (EK A) N.gas.cs=CX:=⟨_,rfl⟩
 obtain ⟨TR,hTR⟩:∃ TR,Il r.reg (N1 l) (hvS (KG s N) A)=TR:=⟨_,rfl⟩
 obtain ⟨FX,hFX⟩:∃ FX,spB (-10000000) 10000000 N.xl N.xh=FX:=⟨_,rfl⟩
 obtain ⟨FY,hFY⟩:∃ FY,spB (-10000000) 10000000 N.yl N.yh=FY:=⟨_,rfl⟩
 have hev:ER k r s l=if H.1 < r.lo then (1,0) else if r.hi < H.2 then (2,0) else if 0<=CX then (3,CX) else if N.fl < r.rsv then (4,0) else if TR=false then (5,0) else if (FX&&FY)=false then (6,0) else (0,0):=by
   unfold ER UC;rw [hA,hH,hN,x13,hCX,hTR,hFX,hFY,x7]
 have hcel:∀ c∈N.gas.cs,B5 c:=by rw [<-x13];exact Dx (Md (CR hs))
 have hcl:N.gas.cs.length<=12:=by rw [<-x13];exact CS (Md (CR hs))
 have hair:¬ H.1 < r.lo->¬ r.hi < H.2->Fx A:=fun q1 q2=>by
   rw [<-hA];rw [hH] at o ⊢;exact aU (jc hk hg (by omega) o (by omega))
 let M1:Shp:={s with hl:=N.hl,hh:=N.hh,gas:=N.gas}
 have d3:¬ H.1 < r.lo->¬ r.hi < H.2->Ct prog 82 [Cl M1 (.d (AX M1.gas.cs)),Ox A] (vi CX) []:=fun q1 q2=>by
   have v2:=rB.h;have hbb:VU M1:=⟨by simp only [M1];omega,by simp only [M1];omega,by simp only [M1];omega,sB.d,sB.b,hcl,hcel⟩
   have:=fn82 M1 A hbb (hair q1 q2);rw [<-hCX];exact this
 have cv:=AAI l.axl l.axh l.ayl l.ayh ⟨l3,l4⟩;have cv':Ct prog 251 [wd4 l.axl l.axh l.ayl l.ayh] (.tup [vsp (N1 l).1 (N1 l).2,vi 0]) []:=cv
 have d5:¬ H.1 < r.lo->¬ r.hi < H.2->¬ N.fl < r.rsv->Ct prog 74 [Cl {KG s N with xl:=s.xl,xh:=s.xh,yl:=s.yl,yh:=s.yh} (.d (AX N.gas.cs)),Ox A] (vsp (hvS (KG s N) A).1 (hvS (KG s N) A).2) []:=fun q1 q2 q3=>by
   have v1:=rB.v;have v2:=rB.h
   have hbb:VU {KG s N with xl:=s.xl,xh:=s.xh,yl:=s.yl,yh:=s.yh}:=by
     unfold KG;refine ⟨by simp only;omega,by simp only;omega,by simp only;omega,?_,?_,hcl,hcel⟩
     . simp only;rw [<-x14];exact sB.d
     . simp only;rw [<-x15];exact sB.b
   exact fn74 _ A hbb (hair q1 q2)
 have d6:=zj r.reg (N1 l) (hvS (KG s N) A) h3;rw [hTR] at d6;have cj1:=wQ s.fl s.fh N.fl N.fh;have cj2:=wQ s.wl s.wh N.wl N.wh;have mf1:min s.fl N.fl=N.fl:=by omega
 have mf2:max s.fh N.fh=s.fh:=by omega
 rw [mf1,mf2] at cj1;have cx:=S6 N.xl N.xh (-10000000) 10000000;have cy:=S6 N.yl N.yh (-10000000) 10000000;rw [hFX] at cx;rw [hFY] at cy;simp only [doV] at c1;rw [x13] at c1;rw [x5,x6] at c2 ch;rw [x11,x12] at c3;rw [x9,x10] at c5';rw [x1,x2] at c8;rw [x3,x4] at c10
 generalize hvS (KG s N) A=hv at*
 unfold KG at d5
 generalize N1 l=sp at*
 unfold vc;rw [hN,x5,x6,x13];obtain ⟨EV,hEV⟩:∃ EV,ER k r s l=EV:=⟨_,rfl⟩
 rw [hEV] at hev ⊢;simp only [M1] at d3;refine CB func174 c174 fun E hE=>?_
 simp [p174,AA];refine CLa c1 ?_;simp [AA];refine CLa c2 ?_;simp [AA];refine CLa ch ?_;simp [AA];by_cases t1:H.1 < r.lo
 . rw [if_pos t1] at hev
   simp [t1,AA];apply RZ;simp [results174,hev]
 rw [if_neg t1] at hev;simp [t1];by_cases t2:r.hi < H.2
 . rw [if_pos t2] at hev
   simp [t2,AA];apply RZ;simp [results174,hev]
 rw [if_neg t2] at hev;simp [t2];refine CLa c11' ?_;simp [AA];refine CLa (d3 t1 t2) ?_;simp;by_cases t3:0<=CX
 . rw [if_pos t3] at hev
   simp [t3,AA];apply RZ;simp [results174,hev]
 rw [if_neg t3] at hev;simp [t3,AA];have w1n:IntKind.wrap .i64 N.fl=N.fl:=by rw [<-x7];exact w1
 have w2n:IntKind.wrap .i64 N.fh=N.fh:=by rw [<-x8];exact w2
 simp [w1n,w2n,x7,x8];refine CLa c3 ?_;simp [AA];by_cases t4:N.fl < r.rsv
 . rw [if_pos t4] at hev
   simp [t4,AA];apply RZ;simp [results174,hev,<-x14,<-x15,<-x16]
 rw [if_neg t4] at hev;simp [t4,AA];refine CLa c4' ?_;simp [AA,inC,Nat.testBit];refine CLa c5 ?_;simp [inC,Nat.testBit];refine CLa c5' ?_;simp [AA];refine CLa cj1 ?_;simp [AA];refine CLa cj2 ?_;simp [AA];refine CLa cv' ?_;simp [AA,inC,Nat.testBit];refine CLb (d5 t1 t2 t4) (by first | (simp;done) | simp [x14,x15,x16]) ?_;simp;refine CLa d6 ?_;cases TR
 . simp at hev
   simp [AA];apply RZ;simp [results174,hev,<-x14,<-x15,<-x16]
 simp at hev;simp;refine CLa c6 ?_;simp [AA,inC,Nat.testBit];refine CLa c7 ?_;simp;refine CLa c8 ?_;simp [AA,inC,Nat.testBit];refine CLa c9 ?_;simp;refine CLa c10 ?_;simp [AA];refine CLa cx ?_;cases FX
 . simp at hev
   simp [AA];apply RZ;simp [results174,hev,<-x14,<-x15,<-x16]
 simp;refine CLa cy ?_;cases FY
 . simp at hev
   simp [AA];apply RZ;simp [results174,hev,<-x14,<-x15,<-x16]
 . simp at hev
   simp [AA];apply RZ;simp [results174,hev,<-x14,<-x15,<-x16]
abbrev Ys (e:Evt):V:=evV e.1 e.2.1 e.2.2.1 e.2.2.2
def Ku (i m:Int) (a:Except (Int × Int × Int) Shp):V:=match a with
 | .ok n=> .tup [Cl n (.d (AX n.gas.cs)),evV 0 0 0 0,vi 0]
 | .error e=> .tup [.agg shZ,Ys (if e.1=54 then (e.2.1,i,m,e.2.2) else ev0),vi e.1]
theorem wI {k:Sky} {r:Rig} {s:Shp} {l:Leg} (h:(ER k r s l).1=0):vc k r s l=Cj k r s l:=by
 unfold vc;rw [if_pos (.inl h)]
theorem zM (k:Sky) (r:Rig) (s:Shp) (l:Leg) (i m:Int) (h1:k.s.length<=1000000) (h2:k.w.length<=1000000) (h3:r.reg.length<=1000000) (hk:BV k=true) (hR:CF r=true) (hg:Ey k r=true) (hs:A6 s=true) (hl:BE l=true):Ct prog 102 [Eu k,Fj r,Cl s (.d (AX s.gas.cs)),g7 l,vi i,vi m] (Ku i m (HK k r s l)) []:=by
 have c1:=AAF k r s l h1 h2 h3 hk hR hg hs hl;unfold HK;by_cases hz:(ER k r s l).1=0
 . rw [wI hz] at c1
   rw [if_pos hz];have ebh:s.bh+l.bh=(Cj k r s l).bh:=rfl;rw [ebh]
   generalize Cj k r s l=N at*
   generalize ER k r s l=e at*
   by_cases hf:1000000000000 < N.bh
   . rw [if_pos hf]
     simp only [Ku,ev0,show ¬ (9:Int)=54 by omega,if_false];refine CB func102 yk fun E hE=>?_
     simp [p102];refine CLa c1 ?_;simp [AA,hf,hz];apply RZ;simp [results102]
   . rw [if_neg hf]
     simp only [Ku];refine CB func102 yk fun E hE=>?_
     simp [p102];refine CLa c1 ?_;simp [AA,hf,hz];apply RZ;simp [results102]
 . rw [if_neg hz]
   simp only [Ku,if_true]
   generalize vc k r s l=N at*
   generalize ER k r s l=e at*
   refine CB func102 yk fun E hE=>?_
   simp [p102];refine CLa c1 ?_;simp [AA,hz];apply RZ;simp [results102]
def sH (k:Sky) (r:Rig) (s:Shp):Int:=if BV k then (if CF r then (if A6 s then 0 else 52) else 51) else 50
theorem zN (k:Sky) (r:Rig) (s:Shp) (h1:k.s.length<=1000000) (h2:k.w.length<=1000000) (h3:r.reg.length<=1000000) (h4:s.gas.cs.length<=1000000):Ct prog 100 [Eu k,Fj r,Cl s (.d (AX s.gas.cs))] (vi (sH k r s)) []:=by
 have c1:=fn71 k h1 h2;have c2:=fn93 r (by omega);have c3:=fn37 s h4;unfold sH
 generalize BV k=b1 at*
 generalize CF r=b2 at*
 cases b1
 . refine CB func100 yj fun E hE=>?_
   simp [p100]
   repeat ((first | (refine CLt c1 ?_ ?_;focus (simp;done)) | (refine CLt c2 ?_ ?_;focus (simp;done)) | (refine CLt c3 ?_ ?_;focus (simp;done)));simp)
   apply RZ;simp [results100]
 . cases b2
   . refine CB func100 yj fun E hE=>?_
     simp [p100]
     repeat ((first | (refine CLt c1 ?_ ?_;focus (simp;done)) | (refine CLt c2 ?_ ?_;focus (simp;done)) | (refine CLt c3 ?_ ?_;focus (simp;done)));simp)
     apply RZ;simp [results100]
   . refine CB func100 yj fun E hE=>?_
     simp [p100]
     repeat ((first | (refine CLt c1 ?_ ?_;focus (simp;done)) | (refine CLt c2 ?_ ?_;focus (simp;done)) | (refine CLt c3 ?_ ?_;focus (simp;done)));simp)
     apply RZ;simp [results100]
theorem zO (k:Sky) (r:Rig) (hk:BV k=true):Ct prog 101 [Eu k,Fj r] (vb (Ey k r)) []:=by
 have hl:=(Sr hk).len;obtain ⟨x,hx⟩:∃ x,k.s[0]?= some x:=⟨_,List.getElem?_eq_getElem (by omega)⟩
 obtain ⟨y,hy⟩:∃ y,k.s[k.s.length - 1]?= some y:=⟨_,List.getElem?_eq_getElem (by omega)⟩
 have e:Ey k r=(decide (x.h<=r.lo)&&decide (r.hi<=y.h)):=by unfold Ey aj;rw [hx,hy]
 have w1:IntKind.wrap .i64 ((k.s.length:Int) - 1)=((k.s.length - 1:Nat):Int):=by rw [AD (by omega) (by omega)];omega
 have hI0:(0:Int) < k.s.length:=by omega
 obtain ⟨j,hj⟩:∃ j,k.s.length - 1=j:=⟨_,rfl⟩
 rw [hj] at w1 hy;have hI1:(j:Int) < k.s.length:=by omega
 rw [e];by_cases t:x.h<=r.lo
 . refine CB func101 zm fun E hE=>?_
   simp [p101,inC,Nat.testBit,hx,hy,w1,t];apply RZ;simp [results101]
 . refine CB func101 zm fun E hE=>?_
   simp [p101,inC,Nat.testBit,hx,t];apply RZ;simp [results101]
theorem MD {k:Sky} {r:Rig} {s:Shp} {e:Int} (h:JC k r s e=0):BV k=true/\CF r=true/\A6 s=true/\e=0/\Ey k r=true:=by
 unfold JC at h;cases h1:BV k
 . rw [h1] at h;simp at h
 cases h2:CF r
 . rw [h1,h2] at h;simp at h
 cases h3:A6 s
 . rw [h1,h2,h3] at h;simp at h
 by_cases h4:e=0
 . cases h5:Ey k r
   . rw [h1,h2,h3,h5] at h;simp [h4] at h
   . exact ⟨rfl,rfl,rfl,h4,rfl⟩
 . rw [h1,h2,h3] at h;simp [h4] at h
theorem zP {k:Sky} {r:Rig} {s:Shp} {e:Int}:JC k r s e=if sH k r s=0 then (if e=0 then (if Ey k r then 0 else 2) else e) else sH k r s:=by
 unfold JC sH;cases BV k<;>cases CF r<;>cases A6 s<;>simp
theorem xV {k:Sky} {r:Rig} {s:Shp} (h:sH k r s=0):BV k=true/\CF r=true/\A6 s=true:=by
 unfold sH at h;cases h1:BV k
 . rw [h1] at h;simp at h
 cases h2:CF r
 . rw [h1,h2] at h;simp at h
 cases h3:A6 s
 . rw [h1,h2,h3] at h;simp at h
 exact ⟨rfl,rfl,rfl⟩
end Go.Proofs.Tryz
namespace Go.Psl
variable {P:Program} {Γ:Tys} {eqs:Eqs} {E:Ent}
def CX (ks xs:List Nat) (c:V):Prop:=match c with
 | .lr fr _ _ _ _ _=>∀ t,AV (·∈ks) AR (fr t)
 | c=>W1 (rid (ks++xs)) c c
structure BT (ks xs:List Nat) (L:List (Nat × List V)):Prop where
 names:L.map (·.1)=ks++xs
 nd:(ks++xs).Nodup
 cells:∀ p∈L,p.2≠[]/\Bv p.2/\∀ c∈p.2,CX ks xs c
section
variable {ks xs xs1:List Nat} {L L1:List (Nat × List V)}
theorem BT.lk (h:BT ks xs L) {p:Nat × List V} (hp:p∈L):Go.Psl.lk L p.1=some p.2:=ay (by rw [h.names];exact h.nd) p hp
theorem BT.mem (h:BT ks xs L) {p:Nat × List V} (hp:p∈L):p.1∈ks++xs:=by rw [<-h.names];exact List.mem_map.2 ⟨p,hp,rfl⟩
theorem BT.isIn (h:BT ks xs L) {i:Nat}:(Go.Psl.lk L i).isSome=true↔i∈ks++xs:=by
 constructor
 . intro hi
   obtain ⟨x,hx⟩:=Option.isSome_iff_exists.1 hi;exact h.mem (p:=(i,x)) (B4 hx)
 . intro hi
   rw [<-h.names] at hi;obtain ⟨p,hp,rfl⟩:=List.mem_map.1 hi;rw [h.lk hp];rfl
def rx (ks xs:List Nat) (b i:Nat):Option Nat:=if i∈ks then some i else if i∈xs then some (b+i) else none
theorem Lz {b i:Nat} (h:i∈ks++xs):rx ks xs b i=some (sg ks b i):=by
 unfold rx sg;by_cases hk:i∈ks
 . simp [hk]
 . rcases List.mem_append.1 h with h | h
   . exact absurd h hk
   . simp [hk,h]
theorem S4 {b:Nat} {c:V} (h:W0 (rid (ks++xs)) c c):W0 (rx ks xs b) (DR (sg ks b) c) c:=by
 cases c with
 | junk=>trivial
 | d x=>rfl
 | lp i o=>
   obtain ⟨j,hj,_⟩:=h;exact ⟨_,Lz (Dz hj).1,rfl⟩
 | ls i o l z=>
   unfold W0 at h;simp only at h;split at h
   . rename_i j hj
     simp only [W0,Lz (Dz hj).1];rfl
   . cases h.2
 | yl i=>
   obtain ⟨j,hj,_⟩:=h;exact ⟨_,Lz (Dz hj).1,rfl⟩
 | lr=>exact False.elim h
 | cl f cs=>exact False.elim h
 | agg cs=>exact False.elim h
 | tup cs=>exact False.elim h
theorem KZ {α:Type} {R:α->α->Prop} {f:α->α}:∀ {l:List α},(∀ x∈l,R (f x) x)->AJ R (l.map f) l
 | [],_=>trivial
 | a::l,h=>⟨h a (by simp),KZ fun x hx=>h x (List.mem_cons_of_mem _ hx)⟩
theorem ou {b:Nat} {c:V} (h:CX ks xs c):WC (rx ks xs b) (BJ (sg ks b) c) c:=by
 cases c with
 | lr fr nt ps pa pb jmp=>
   have h:∀ t,AV (·∈ks) AR (fr t):=h;refine ⟨?_,fun t=>AV.mono (fun i hi=>by simp [rx,hi]) (fun _ h=>h) (h t)⟩;simp only [BJ];congr 1
   funext t;exact R9 (h t) b
 | cl f cs=>
   obtain ⟨cs',e,h2⟩:=h;cases e;have h3:=GY h2;exact ⟨_,rfl,KZ fun x hx=>S4 (h3 x hx)⟩
 | junk=>trivial
 | d x=>rfl
 | lp i o=>exact S4 (c:= .lp i o) h
 | ls i o l z=>exact S4 (c:= .ls i o l z) h
 | yl i=>exact S4 (c:= .yl i) h
 | agg cs=>exact False.elim h
 | tup cs=>exact False.elim h
theorem Mw {c:V} (h:W1 (rid ks) c c):A1 (·∈ks) AR c:=by
 cases c with
 | cl f cs=>
   obtain ⟨cs',e,h2⟩:=h;cases e;exact fun c hc=>(FH (GY h2 c hc)).1
 | junk=>exact trivial
 | d x=>exact trivial
 | lp i o=>exact (FH (c:= .lp i o) h).1
 | ls i o l z=>exact (FH (c:= .ls i o l z) h).1
 | yl i=>exact (FH (c:= .yl i) h).1
 | lr=>exact False.elim h
 | agg cs=>exact False.elim h
 | tup cs=>exact False.elim h
theorem ie {c:V} (h:CX ks xs c):AC (·∈ks++xs) AR c:=by
 cases c with
 | lr fr nt ps pa pb jmp=>exact fun t=>AV.mono (fun i hi=>List.mem_append_left _ hi) (fun _ h=>h) (h t)
 | cl f cs=>exact Mw (c:= .cl f cs) h
 | junk=>exact trivial
 | d x=>exact trivial
 | lp i o=>exact Mw (c:= .lp i o) h
 | ls i o l z=>exact Mw (c:= .ls i o l z) h
 | yl i=>exact Mw (c:= .yl i) h
 | agg cs=>exact False.elim h
 | tup cs=>exact False.elim h
theorem BT.ids (h:BT ks xs L) {n:Nat} (hn:∀ i∈ks++xs,i < n):A7 n L:=by
 have key:∀ M:List (Nat × List V),(∀ p∈M,p∈L)->A7 n M:=by
   intro M;induction M with
   | nil=>intro _;trivial
   | cons p r ih=>
     intro hM;have hp:=hM p (by simp);exact ⟨hn _ (h.mem hp),fun c hc=>AC.mono hn (fun _ h=>h) (ie ((h.cells p hp).2.2 c hc)),ih fun q hq=>hM q (List.mem_cons_of_mem _ hq)⟩
 exact key L fun _ h=>h
theorem BT.res (h:BT ks xs L):∀ p∈L,∀ c∈p.2,AC (InB L) AR c:=fun p hp c hc=>AC.mono (fun _ hi=>h.isIn.2 hi) (fun _ h=>h) (ie ((h.cells p hp).2.2 c hc))
theorem Oe {H:Hp} {b:Nat} (hL:BT ks xs L) (hL1:BT ks xs1 L1) (hb:∀ i∈ks++xs,i < b) {p:Nat × List V} (hp:p∈L1):BI H b (Go.Psl.lk L) ks (Go.Psl.lk L1) (sg ks b p.1)=some (p.2.map (BJ (sg ks b))):=by
 have h1:=hL1.lk hp;by_cases hk:p.1∈ks
 . simp only [BI,sg,hk,if_true,h1,Option.map_some]
 . have e:sg ks b p.1=b+p.1:=by simp [sg,hk]
   have n1:¬ (b+p.1∈ks):=fun h=>by have:=hb _ (List.mem_append_left _ h);omega
   have n2:(Go.Psl.lk L (b+p.1)).isSome=false:=by
     cases hc:(Go.Psl.lk L (b+p.1)).isSome with
     | false=>rfl
     | true=>have:=hb _ (hL.isIn.1 hc);omega
   rw [e];simp only [BI,n1,if_false,n2,Bool.false_eq_true,Nat.le_add_right,if_true,Nat.add_sub_cancel_left,hk,h1]
theorem VL {H:Hp} {b:Nat} (hL:BT ks xs L) (_:BT ks xs1 L1) {i:Nat} (h1:i ∉ ks++xs) (h2:i < b):BI H b (Go.Psl.lk L) ks (Go.Psl.lk L1) i=H i:=by
 have n1:¬ i∈ks:=fun h=>h1 (List.mem_append_left _ h)
 have n2:(Go.Psl.lk L i).isSome=false:=by
   cases hc:(Go.Psl.lk L i).isSome with
   | false=>rfl
   | true=>exact absurd (hL.isIn.1 hc) h1
 simp only [BI,n1,if_false,n2,Bool.false_eq_true,show ¬ b<=i by omega]
theorem Og {H':Hp} {b:Nat} (hL1:BT ks xs1 L1) (hH:∀ p∈L1,H' (sg ks b p.1)=some (p.2.map (BJ (sg ks b)))):Ej (rx ks xs1 b) H' L1:=by
 have key:∀ M:List (Nat × List V),(∀ p∈M,p∈L1)->Ej (rx ks xs1 b) H' M:=by
   intro M;induction M with
   | nil=>intro _;trivial
   | cons p r ih=>
     intro hM;have hp:=hM p (by simp);obtain ⟨c1,c2,c3⟩:=hL1.cells p hp;refine ⟨?_,ih fun q hq=>hM q (List.mem_cons_of_mem _ hq)⟩;rw [Lz (hL1.mem hp)];exact ⟨⟨_,hH p hp,KZ fun c hc=>ou (c3 c hc)⟩,c2⟩
 exact key L1 fun _ h=>h
theorem Ya {b:Nat} (hL1:BT ks xs1 L1) (hb:∀ i∈ks,i < b):Bd (rx ks xs1 b) L1:=by
 have key:∀ M:List (Nat × List V),(∀ p∈M,p∈L1)->Bd (rx ks xs1 b) M:=by
   intro M;induction M with
   | nil=>intro _;trivial
   | cons p r ih=>
     intro hM;refine ⟨fun q hq=>?_,ih fun q hq=>hM q (List.mem_cons_of_mem _ hq)⟩;rw [Lz (hL1.mem (hM p (by simp))),Lz (hL1.mem (hM q (List.mem_cons_of_mem _ hq)))];by_cases e:q.1=p.1
     . exact Or.inr (Or.inr e)
     . refine Or.inr (Or.inl fun e'=>e ?_)
       have e':=Option.some.inj e';unfold sg at e';split at e'<;>split at e'
       . exact e'
       . rename_i h1 h2;have:=hb _ h1;omega
       . rename_i h1 h2;have:=hb _ h2;omega
       . omega
 exact key L1 fun _ h=>h
theorem S5 {H':Hp} {b:Nat} (_:BT ks xs1 L1) (hH:∀ p∈L1,H' (sg ks b p.1)=some (p.2.map (BJ (sg ks b)))):∀ i∈ks,(Go.Psl.lk L1 i).isSome=true->rx ks xs1 b i=some i/\(H' i).isSome=true:=fun i hi hs=>by
 obtain ⟨x,hx⟩:=Option.isSome_iff_exists.1 hs;have:=hH (i,x) (B4 hx);rw [show sg ks b i=i by simp [sg,hi]] at this;exact ⟨by simp [rx,hi],by rw [this];rfl⟩
theorem AAc {ρ:Nat->Option Nat} {H h:Hp}:∀ {M:List Nat},(∀ i∈M,(h i).isSome=true->ρ i=some i/\(H i).isSome=true)->DZ ρ H h M
 | [],_=>trivial
 | i::r,hM=>⟨hM i (by simp),AAc fun j hj=>hM j (List.mem_cons_of_mem _ hj)⟩
theorem IG {ρ:Nat->Option Nat} {H h:Hp} {n:Nat}:∀ {M:List Nat},(∀ i∈M,i < n)->(∀ i∈M,(h i).isSome=true->ρ i=some i/\(H i).isSome=true)->HD ρ H h n M
 | [],_,_=>trivial
 | i::r,hn,hM=>⟨hn i (by simp),hM i (by simp),IG (fun j hj=>hn j (List.mem_cons_of_mem _ hj)) fun j hj=>hM j (List.mem_cons_of_mem _ hj)⟩
theorem AI.keepX {st:St} {b:Nat} (hs:∀ i,E.stab i↔i∈ks) (h:BT ks xs1 L1) (hb:∀ i∈ks,i < b) (hH:∀ p∈L1,st.H (sg ks b p.1)=some (p.2.map (BJ (sg ks b)))) {n:Nat} (hn:∀ i∈ks++xs1,i < n) (l:List (Nat × V)) (h1:CL (rx ks xs1 b) st.fr l) (h4:Bw n l):AI P E st ⟨AO l,Go.Psl.lk L1,n⟩:=
 AI.mkM hs (rx ks xs1 b) l L1 n h1 (Og h hH) (Ya h hb) h4 (h.ids hn) (IG (fun i hi=>hn i (List.mem_append_left _ hi)) (S5 h hH))
theorem Dc.keepX {fn:Func} {st:St} {b:Nat} (hn:fn.results= #[]) (h:BT ks xs1 L1) (hb:∀ i∈ks,i < b) (hH:∀ p∈L1,st.H (sg ks b p.1)=some (p.2.map (BJ (sg ks b)))):Dc Γ fn ks (.tup []) L1 st:=
 ⟨[],rx ks xs1 b,by rw [hn];rfl,rfl,by simp,Og h hH,Ya h hb,AAc (S5 h hH)⟩
theorem Jd {H:Hp} {av args:List V} {res:Res} (hL:BT ks xs L) (hL1:BT ks xs1 L1) (hx:∀ i∈xs1,i < 1048576) (hH:∀ i∈ks++xs,H i=Go.Psl.lk L i) (hb:AJ (Bor noH) av args):IB H av args (Go.Psl.lk L) ks res (Go.Psl.lk L1):=
 ⟨fun i cs h=>by rw [hH i (hL.isIn.1 (by rw [h];rfl)),h],fun i h hn=>by
   rcases List.mem_append.1 (hL1.isIn.1 h) with h | h
   . exact absurd h hn
   . exact hx i h,fun i hi=>by
   obtain ⟨x,hx⟩:=Option.isSome_iff_exists.1 (hL.isIn.2 (List.mem_append_left _ hi));exact ⟨x,hx,(hL.cells (i,x) (B4 hx)).1⟩,Or.inl hb⟩
theorem kO {c:V} (h:CX ks xs c):WC (rid (ks++xs)) c c:=by
 cases c with
 | lr fr nt ps pa pb jmp=>exact ⟨rfl,fun t=>AV.mono (fun i hi=>Cr (List.mem_append_left _ hi)) (fun _ h=>h) (h t)⟩
 | cl f cs=>exact h
 | junk=>exact h
 | d x=>exact h
 | lp i o=>exact h
 | ls i o l z=>exact h
 | yl i=>exact h
 | agg cs=>exact h
 | tup cs=>exact h
theorem BT.same (h:BT ks xs L):A4 (ks++xs) L:=⟨h.names,h.nd,fun p hp=>⟨(h.cells p hp).1,(h.cells p hp).2.1,fun c hc=>kO ((h.cells p hp).2.2 c hc)⟩⟩
theorem AI.sameX {st:St} (hs:∀ i,E.stab i↔i∈ks) (h:BT ks xs L) (hH:st.H=Go.Psl.lk L) {n:Nat} (hn:∀ i∈ks++xs,i < n) (l:List (Nat × V)) (h1:CL (rid (ks++xs)) st.fr l) (h4:Bw n l):AI P E st ⟨AO l,Go.Psl.lk L,n⟩:=
 AI.mkM hs (rid (ks++xs)) l L n h1 (h.same.hp fun i _=>by rw [hH]) h.same.inj h4 (h.ids hn) (IG (fun i hi=>hn i (List.mem_append_left _ hi)) fun i hi hs=>⟨Cr (List.mem_append_left _ hi),by rw [hH];exact hs⟩)
theorem Dc.sameX {fn:Func} {st:St} (hn:fn.results= #[]) (h:BT ks xs L) (hH:st.H=Go.Psl.lk L):Dc Γ fn ks (.tup []) L st:=
 ⟨[],rid (ks++xs),by rw [hn];rfl,rfl,by simp,h.same.hp fun i _=>by rw [hH],h.same.inj,AAc fun i hi hs=>⟨Cr (List.mem_append_left _ hi),by rw [hH];exact hs⟩⟩
theorem Fp.keepX {H:Hp} {b k:Nat} {av:List V} {Kc Kx:V->Hp->Prop} (args:List V) (L L1:List (Nat × List V)) (ks xs xs1:List Nat) (r:D) (hf:Ym P k args (Go.Psl.lk L) ks (.ret (.d r)) (Go.Psl.lk L1)) (hL:BT ks xs L) (hL1:BT ks xs1 L1) (hx:∀ i∈xs1,i < 1048576)
   (hrec:∃ fr nt ps pa pb jmp,Go.Psl.lk L k=some [.lr fr nt ps pa pb jmp]/\ps.length=args.length) (hH:∀ i∈ks++xs,H i=Go.Psl.lk L i) (hb:AJ (Bor noH) av args) (hk:Kc (.d r) (BI H b (Go.Psl.lk L) ks (Go.Psl.lk L1))):Fp P none H H b k av Kc Kx:=
 ⟨rfl,args,Go.Psl.lk L,ks, .ret (.d r),Go.Psl.lk L1,_,⟨hf,hrec,Jd hL hL1 hx hH hb⟩,rfl,hk⟩
theorem Ym.ofX (hΓ:GOk P Γ) (hE:EB P eqs) (hm:P.follows .mixedOrders=true) {k:Nat} {fr:Nat->V} {nt:Nat} {ps:List Nat} {pa pb:PC} {args:List V} {s:LSt} (N:Nat)
   (hL:BT ks xs L) (hL1:BT ks xs1 L1) (hlt:∀ i∈ks++xs,i < N) (hkk:k∈ks) (hk:Go.Psl.lk L k=some [.lr fr nt ps pa pb .ready]) (hlen:ps.length=args.length) (hps:∀ p∈ps,p < nt) (hcl:∀ v∈args,A2 (· < N) AR v)
   (h:Rnd P Γ eqs k fr nt ps pa pb args (Go.Psl.lk L) ks s L1 N):Ym P k args (Go.Psl.lk L) ks (.ret (.d (.lit (.bool (FP s))))) (Go.Psl.lk L1):=
 Ym.of hΓ hE hm N hk hkk hlen hps hcl (A7.at (hL.ids hlt)) (fun i hi=>hlt i (List.mem_append_left _ hi)) hL1.res h.run
theorem E3.keepX {fo:Operand} {ps:List Nat} {pa pb:PC} {Q:Av->St->Prop} {f:Nat->V} {H:Hp} {n:Nat} {g:FuncId} {caps:List V} (L L1:List (Nat × List V)) (ks xs xs1:List Nat) (r:V) (jmp:LSt) (h0:E.rq) (hg:Be (evF f fo)=some (g,caps))
   (hf:Cm P g (.yl n::caps) (Go.Psl.lk ((n,[.lr f E.nt ps pa pb .ready])::L)) (n::ks) (.ret r) (Go.Psl.lk ((n,[.lr f E.nt ps pa pb jmp])::L1)))
   (hL:BT (n::ks) xs ((n,[.lr f E.nt ps pa pb .ready])::L)) (hL1:BT (n::ks) xs1 ((n,[.lr f E.nt ps pa pb jmp])::L1)) (hx:∀ i∈xs1,i < 1048576) (hlt:∀ i∈ks++xs,i < n) (hH:∀ i∈ks++xs,H i=Go.Psl.lk L i) (hb:AJ (Bor noH) caps caps)
   (hq:∀ F:Hp,(∀ p∈L1,F (sg (n::ks) (n+1048576) p.1)=some (p.2.map (BJ (sg (n::ks) (n+1048576)))))->(∀ i,i ∉ ks++xs->i < n->F i=H i)->Sm Q ⟨f,F,n+2097152⟩ jmp):PW P Γ eqs E (.rangeF fo ps pa pb) Q ⟨f,H,n⟩:=by
 have hH':∀ i∈n::ks++xs,upd H n (some [.lr f E.nt ps pa pb .ready]) i=Go.Psl.lk ((n,[.lr f E.nt ps pa pb .ready])::L) i:=fun i hi=>by
   simp only [AY,Go.Psl.lk];by_cases e:i=n
   . simp [e]
   . simp only [e,if_false]
     rw [List.cons_append] at hi;rcases List.mem_cons.1 hi with h | h
     . exact absurd h e
     . exact hH i h
 have hbk:∀ i∈n::ks++xs,i < n+1048576:=fun i hi=>by
   rw [List.cons_append] at hi;rcases List.mem_cons.1 hi with h | h
   . omega
   . have:=hlt i h;omega
 refine ⟨h0,g,caps, .yl n::caps,_,n::ks, .ret r,_,hg,⟨hf,Jd hL hL1 hx hH' ⟨rfl,hb⟩⟩,by simp,jmp,by simp [Go.Psl.lk],?_⟩;refine hq _ (fun p hp=>?_) fun i hi hin=>?_
 . have hm:p.1∈ks++xs1:=by
     have:=hL1.names;simp only [List.map_cons,List.cons_append,List.cons.injEq,true_and] at this;rw [<-this];exact List.mem_map.2 ⟨p,hp,rfl⟩
   have hne:sg (n::ks) (n+1048576) p.1≠n:=fun e=>by
     have hnd:=hL1.nd;rw [List.cons_append] at hnd;have hnm:=(List.nodup_cons.1 hnd).1;unfold sg at e;split at e
     . rw [e] at hm;exact hnm hm
     . omega
   simp only [AY,hne,if_false];exact Oe hL hL1 hbk (List.mem_cons_of_mem _ hp)
 . have hne:i≠n:=by omega
   simp only [AY,hne,if_false];rw [VL hL hL1 (by rw [List.cons_append];intro h;rcases List.mem_cons.1 h with h | h;exact hne h;exact hi h) (by omega)];simp [AY,hne]
end
end Go.Psl
namespace Go.Proofs.Tryz
open Go.Psl
open Go.Air
theorem qu (l:List Leg):Ct prog 129 [.d (Bs l)] (.cl 205 [.lp 0 0]) [(0,[.d (Bs l)])]:=by
 refine CB func129 c129 fun E hE=>?_
 simp [p129];refine AB.by (lk [(0,0)]) ?_;simp [results129]
def Cw (l:List Leg) (i:Nat):Nat:=(BN 0 (l.take i)).length
theorem Iq:∀ (a b:List Leg) (i:Nat),BN i (a++b)=BN i a++BN (i+a.length) b
 | [],b,i=>rfl
 | x::a,b,i=>by
   show _++BN (i+1) (a++b)=(_++BN (i+1) a)++_
   rw [Iq a b (i+1),List.append_assoc,List.length_cons,show i+1+a.length=i+(a.length+1) by omega]
theorem MW (l:List Leg):Cw l 0=0:=rfl
theorem WO {l:List Leg} {i:Nat} {x:Leg} (h:l[i]?= some x):Cw l (i+1)=Cw l i+x.m.toNat:=by
 unfold Cw;rw [List.take_add_one,h,Iq];simp [BN]
theorem cG (l:List Leg):Cw l l.length=(BN 0 l).length:=by unfold Cw;rw [List.take_length]
theorem iC {l:List Leg} {i:Nat}:Cw l i<=(BN 0 l).length:=by
 have:(BN 0 l).length=Cw l i+(BN (0+(l.take i).length) (l.drop i)).length:=by
   unfold Cw;rw [<-List.length_append,<-Iq,List.take_append_drop]
 omega
theorem iE {l:List Leg} {i m:Nat} {x:Leg} (h:l[i]?= some x) (hm:m < x.m.toNat):(BN 0 l)[Cw l i+m]?= some (i,m):=by
 have hi:=(List.getElem?_eq_some_iff.1 h).1
 have e:l=l.take i++(x::l.drop (i+1)):=by
   have:x::l.drop (i+1)=l.drop i:=by
     rw [List.drop_eq_getElem_cons hi];congr 1;rw [List.getElem?_eq_getElem hi] at h;exact (Option.some.inj h).symm
   rw [this,List.take_append_drop]
 have e2:BN 0 l=BN 0 (l.take i)++BN i (x::l.drop (i+1)):=by
   conv=>lhs;rw [e]
   rw [Iq,List.length_take,Nat.min_eq_left (by omega),Nat.zero_add]
 rw [e2,List.getElem?_append_right (by unfold Cw;omega)];unfold Cw;rw [Nat.add_sub_cancel_left]
 show ((List.range x.m.toNat).map (fun m=>(i,m))++_)[m]?= _
 rw [List.getElem?_append_left (by simpa using hm),List.getElem?_map,List.getElem?_range hm];rfl
theorem AI.restX {E:Ent} {ks xs:List Nat} {L:List (Nat × List V)} {st:St} (hs:∀ i,E.stab i↔i∈ks) (h:BT ks xs L) (hH:∀ i∈ks++xs,st.H i=lk L i) {n:Nat} (hn:∀ i∈ks++xs,i < n) (l:List (Nat × V)) (h1:CL (rid (ks++xs)) st.fr l) (h4:Bw n l):AI prog E st ⟨AO l,lk L,n⟩:=
 AI.mkM hs (rid (ks++xs)) l L n h1 (h.same.hp hH) h.same.inj h4 (h.ids hn) (IG (fun i hi=>hn i (List.mem_append_left _ hi)) fun i hi hs=>⟨Cr (List.mem_append_left _ hi),by rw [hH i (List.mem_append_left _ hi)];exact hs⟩)
theorem Jl (l:List Leg) (hl:l.length<=1000000) (hok:∀ x∈l,BE x=true) (KS:List Nat) (XS:Nat->List Nat) (k a M:Nat) (go:Nat->Bool) (L:Nat->List (Nat × List V)) (hk:k∈KS) (ha:a∈KS) (hN:∀ i∈KS,i < 1000000000) (hX:∀ i,∀ x∈XS i,x < 1048576) (hm:M<=(BN 0 l).length) (hL:∀ i,i<=M->BT KS (XS i) (L i))
   (hrec:∀ i,i < M->∃ fr nt ps pa pb jmp,lk (L i) k=some [.lr fr nt ps pa pb jmp]/\ps.length=2) (hbox:∀ i,i<=M->lk (L i) a=some [.d (Bs l)]) (hgo:∀ j,j+1 < M->go j=true) (hend:M=(BN 0 l).length\/(0 < M/\go (M - 1)=false))
   (hY:∀ j i m,j < M->(BN 0 l)[j]?= some (i,m)->Ym prog k [vi i,vi m] (lk (L j)) KS (.ret (vb (go j))) (lk (L (j+1)))):
   Cm prog 205 [.yl k, .lp a 0] (lk (L 0)) KS (.ret (.tup [])) (lk (L M)):=by
 have hNX:∀ i,∀ x∈KS++XS i,x < 1000000000:=fun i x hx=>by
   rcases List.mem_append.1 hx with h | h
   . exact hN x h
   . have:=hX i x h;omega
 refine Cm.by gok eok mixed 1000000000 func205 c205 rfl (by simp [ntmps205]) (by simp;exact ⟨hN k hk,hN a ha⟩) (A7.at ((hL 0 (by omega)).ids (hNX 0))) hN ⟨by simp,(hL M (Nat.le_refl _)).res⟩ fun E hs hE=>?_
 have haN:=hN a ha;have na:∀ x,1000000000<=x->¬ a=x:=fun x _=>by omega
 have la:∀ x,1000000000<=x->a < x:=fun x _=>by omega
 have b0:=hbox 0 (by omega);have rk:∀ i b,rx KS (XS i) b k=some k:=fun i b=>by simp [rx,hk]
 have ra:∀ i b,rx KS (XS i) b a=some a:=fun i b=>by simp [rx,ha]
 simp [p205,b0];refine Al (α:=Nat) (fun i=>⟨AO [(0, .yl k),(1, .lp a 0),(6, .d (Bs l)),(7,vi l.length),(8,vi i)],lk (L (Cw l i)),1000000000⟩) (fun i=>i<=l.length/\Cw l i<=M/\(Cw l i=M->M=(BN 0 l).length)) (fun i=>l.length - i) 0 ?_ ?_ ?_
 . rw [MW]
   exact ⟨by omega,by omega,fun e=>by omega⟩
 . rw [MW]
   refine AI.sameX hs (hL 0 (by omega)) rfl (hNX 0) _ ?_ ?_
   . simp [rid,hk,ha]
   . simp [hN k hk,hN a ha]
 . rintro i ⟨hi,hp,him⟩
   simp [bM];refine Bh (fun h=>?_) (fun h=>?_)
   . simp at h
     obtain ⟨x,hx⟩:=gE h;have hxm:=G5 (hok x (List.mem_of_getElem? hx));have hpn:=WO hx;have hpl:=iC (l:=l) (i:=i+1);have hz:=@wz i (by omega);have hne0:∀ q∈KS++XS (Cw l i+0),¬ q=1004194304:=fun q hq e=>by have:=hNX (Cw l i+0) q hq;omega
     simp [hx,AA];refine Al (α:=Nat) (fun m=>⟨AO [(0, .yl k),(1, .lp a 0),(3,vi i),(6, .d (Bs l)),(7,vi l.length),(8,vi i),(14,vi x.m),(15,vi m)],lk (L (Cw l i+m)),1000000000⟩) (fun m=>m<=x.m.toNat/\Cw l i+m<=M/\(Cw l i+m=M->M=(BN 0 l).length)) (fun m=>x.m.toNat - m) 0 ?_ ?_ ?_
     . exact ⟨by omega,by omega,fun e=>him (by omega)⟩
     . refine AI.restX hs (hL _ (by omega)) (fun q hq=>?_) (hNX _) _ ?_ ?_
       . simp [hne0 q hq]
       . simp [rid,hk,ha]
       . simp [hN k hk,hN a ha]
     . rintro m ⟨hmi,hmp,hme⟩
       by_cases hmx:m < x.m.toNat
       . have hmI:(m:Int) < x.m:=by omega
         have hjl:Cw l i+m < (BN 0 l).length:=by omega
         have hj:Cw l i+m < M:=by
           rcases Nat.lt_or_ge (Cw l i+m) M with h9 | h9
           . exact h9
           . have:=hme (by omega);omega
         have hat:=iE hx hmx;obtain ⟨J,hJ⟩:∃ J,Cw l i+m=J:=⟨_,rfl⟩
         rw [hJ] at hat hj hjl;have hY':=hY J i m hj hat;obtain ⟨fr,nt,ps,pa,pb,jmp,hr1,hr2⟩:=hrec J hj;have hzm:=@wz m (by omega);have hbb:∀ q∈KS++XS J,q < 1006291456:=fun q hq=>by have:=hNX J q hq;omega
         have hbk:∀ q∈KS,q < 1006291456:=fun q hq=>by have:=hN q hq;omega
         rw [hJ];simp [SH,hmI];refine Fp.keepX [vi i,vi m] (L J) (L (J+1)) KS (XS J) (XS (J+1)) _ hY' (hL J (by omega)) (hL (J+1) (by omega)) (hX _) ⟨fr,nt,ps,pa,pb,jmp,hr1,hr2⟩ (fun q hq=>rfl) (by simp) ?_;obtain ⟨F,hF⟩:∃ F,F=BI (lk (L J)) 1006291456 (lk (L J)) KS (lk (L (J+1))):=⟨_,rfl⟩
         have hFp:∀ p∈L (J+1),F (sg KS 1006291456 p.1)=some (p.2.map (BJ (sg KS 1006291456))):=fun p hp=>by rw [hF];exact Oe (hL J (by omega)) (hL (J+1) (by omega)) hbb hp
         rw [<-hF];cases hgi:go J
         . have e:J+1=M:=by
             by_cases hlt:J+1 < M
             . rw [hgo J hlt] at hgi;cases hgi
             . omega
           simp;rw [<-e];exact Dc.keepX rfl (hL (J+1) (by omega)) hbk hFp
         . simp [hzm]
           refine ⟨m+1,⟨by omega,by omega,fun e=>?_⟩,by omega,?_⟩
           . rcases hend with h1 | ⟨_,h1⟩
             . exact h1
             . rw [show M - 1=J by omega,hgi] at h1;cases h1
           . rw [show Cw l i+(m+1)=J+1 by omega]
             refine AI.keepX hs (hL (J+1) (by omega)) hbk hFp (hNX (J+1)) _ ?_ ?_
             . simp [rk,ra]
             . simp [hN k hk,hN a ha]
       . have em:m=x.m.toNat:=by omega
         have hmI:¬ (m:Int) < x.m:=by omega
         have e9:Cw l i+m=Cw l (i+1):=by omega
         have hbm:=hL (Cw l (i+1)) (by omega);rw [e9];simp [SH,hmI,hz];refine ⟨i+1,⟨by omega,by omega,fun e=>hme (by omega)⟩,by omega,?_⟩;refine AI.sameX hs hbm rfl (hNX _) _ ?_ ?_
         . simp [rid,hk,ha]
         . simp [hN k hk,hN a ha]
   . simp at h
     have e:i=l.length:=by omega
     have e2:Cw l i=M:=by
       have:=cG l;rw [<-e] at this;omega
     simp;rw [e2];exact Dc.sameX rfl (hL M (Nat.le_refl _)) rfl
theorem WM:∀ x:Shp,(Ca x).length=25:=fun _=>rfl
theorem mI (acc:List Shp) (n:Shp) (hl:acc.length<=100000):Cm prog 104 [Cl n (.d (AX n.gas.cs)), .lp 0 0] (lk ([(0,[hdF 25 acc 1])]++ouF Ca acc 1)) [0] (.ret (.tup [Cl n (.d (AX n.gas.cs)),vi 0])) (lk ([(0,[hdF 25 (acc++[n]) 1])]++ouF Ca (acc++[n]) 1)):=by
 by_cases hne:acc=[]
 . subst hne
   rw [Aq,Au,List.nil_append,Ak (by simp),AZ (by simp)];refine CM 2 func104 qN fun E hs hE=>?_
   simp [p104,AA,AM];refine AB.by (lk [(0,0),(1,6291458)]) ?_;simp [results104,AH]
 . have hsl:=Aw WM acc
   have hwh:=E9 WM acc;have n1:(acc.length+1)*216<=140737488355328:=by omega
   have n2:acc.length+1<=9223372036854775807:=by omega
   rw [Ak hne,AZ hne,Ak (by simp),AZ (by simp),IV];refine CM 2 func104 qN fun E hs hE=>?_
   simp [p104,AA,AM,hsl,hwh,n1,n2];refine AB.by (lk [(0,0),(1,6291458)]) ?_;simp [results104];refine Or.inl ?_;rw [List.all_append,List.all_eq_true.2 BU];rfl
def D6 (k:Sky) (r:Rig) (l:List Leg):List (Nat × Nat)->Shp->List Shp
 | [],_=>[]
 | (i,m)::rest,s=>match l[i]? with
   | none=>[]
   | some x=>match FA k r x m s with
     | .error _=>[]
     | .ok n=>n::D6 k r l rest n
def DX (s:Shp) (ns:List Shp) (j:Nat):Shp:=if j=0 then s else (ns[j - 1]?).getD s
theorem MV {s n:Shp} {ns:List Shp} {j:Nat} (h:j < ns.length+1):DX s (n::ns) (j+1)=DX n ns j:=by
 unfold DX;cases j with
 | zero=>simp
 | succ j=>
   rw [if_neg (by omega),if_neg (by omega)];have h1:j < ns.length:=by omega
   simp [h1]
theorem LP {k:Sky} {r:Rig} {l:List Leg}:∀ {im:List (Nat × Nat)} {s:Shp} {j:Nat} {n:Shp},(D6 k r l im s)[j]?= some n->∃ i m x,im[j]?= some (i,m)/\l[i]?= some x/\FA k r x m (DX s (D6 k r l im s) j)= .ok n
 | [],s,j,n,h=>by simp [D6] at h
 | (i,m)::rest,s,j,n,h=>by
   unfold D6 at h ⊢;split at h
   . simp at h
   rename_i x hx;split at h
   . simp at h
   rename_i n1 h1;cases j with
   | zero=>
     simp at h;subst h;exact ⟨i,m,x,by simp,hx,by simpa [DX] using h1⟩
   | succ j=>
     have h2:(D6 k r l rest n1)[j]?= some n:=by simpa using h
     obtain ⟨i2,m2,x2,e1,e2,e3⟩:=LP h2;have hj:=(List.getElem?_eq_some_iff.1 h2).1;refine ⟨i2,m2,x2,by simpa using e1,e2,?_⟩;rw [MV (by omega)];exact e3
theorem LQ {k:Sky} {r:Rig} {l:List Leg}:∀ {im:List (Nat × Nat)} {s:Shp},(∀ p∈im,∃ x,l[p.1]?= some x)->(Dt k r l im s= .ok (D6 k r l im s)/\(D6 k r l im s).length=im.length)\/
   ∃ i m x e,im[(D6 k r l im s).length]?= some (i,m)/\l[i]?= some x/\FA k r x m (DX s (D6 k r l im s) (D6 k r l im s).length)= .error e/\Dt k r l im s= .error (FC i m e)
 | [],s,_=> .inl ⟨rfl,rfl⟩
 | (i,m)::rest,s,hm=>by
   obtain ⟨x,hx⟩:=hm (i,m) (by simp);simp only at hx;unfold D6 Dt;rw [hx];simp only;cases h1:FA k r x m s with
   | error e=>exact .inr ⟨i,m,x,e,by simp,hx,by simpa [DX] using h1,rfl⟩
   | ok n=>
     simp only;rcases LQ (im:=rest) (s:=n) (fun p hp=>hm p (by simp [hp])) with ⟨h2,h3⟩ | ⟨i2,m2,x2,e2,h2,h3,h4,h5⟩
     . left;rw [h2];exact ⟨rfl,by simp [h3]⟩
     . right
       rw [h5];refine ⟨i2,m2,x2,e2,by simpa using h2,h3,?_,rfl⟩;rw [List.length_cons,MV (by omega)];exact h4
def fKS:List Nat:=[8388609,7340033,1,1048577,2097153,3145729,4194305,5242881,0]
def fXS (acc:List Shp):List Nat:=if acc=[] then [] else [7]
abbrev evL (e:Evt):List V:=[vi e.1,vi e.2.1,vi e.2.2.1,vi e.2.2.2]
def fL (k:Sky) (r:Rig) (l:List Leg) (f:Nat->V) (z:LSt) (acc:List Shp) (s:Shp) (e:Evt) (er:Int):List (Nat × List V):=
 [(8388609,[.lr f 69 [19,20] Az A3 z]),(7340033,[.d (Bs l)]),(1,[D2 k r]),(1048577,shB s),(2097153,[.d (Bs l)]),(3145729,[.cl 104 [.lp 0 0]]),(4194305,evL e),(5242881,[vi er]),(0,[hdF 25 acc 7])]++ouF Ca acc 7
theorem Ol (k:Sky) (r:Rig) (l:List Leg) (f:Nat->V) (z:LSt) (acc:List Shp) (s:Shp) (e:Evt) (er:Int) (hf:∀ t,AV (·∈fKS) AR (f t)):BT fKS (fXS acc) (fL k r l f z acc s e er):=by
 by_cases h0:acc=[]
 . subst h0
   refine ⟨rfl,by simp [fKS,fXS],?_⟩;intro q hq;simp only [fL,Aq,Au,List.append_nil,List.mem_cons,List.not_mem_nil,or_false] at hq;rcases hq with rfl | rfl | rfl | rfl | rfl | rfl | rfl | rfl | rfl
   . exact ⟨by simp,Or.inr ⟨_,_,_,_,_,_,rfl⟩,fun c hc=>by simp at hc;subst hc;exact hf⟩
   all_goals refine ⟨by simp,Or.inl rfl,fun c hc=>?_⟩
   all_goals simp only [List.mem_cons,List.not_mem_nil,or_false] at hc
   all_goals first
     | (subst hc;exact rfl)
     | (subst hc;simp [CX,W1,W0,rid,fKS,AJ,fXS])
     | (rcases hc with rfl | rfl | rfl | rfl<;>exact rfl)
     | (rcases hc with rfl | rfl | rfl | rfl | rfl | rfl | rfl | rfl | rfl | rfl | rfl | rfl | rfl | rfl | rfl | rfl | rfl | rfl | rfl | rfl | rfl | rfl | rfl | rfl | rfl<;>exact rfl)
 . have hx:fXS acc=[7]:=by simp [fXS,h0]
   rw [hx];refine ⟨by simp [fL,AZ h0,fKS],by simp [fKS],?_⟩;intro q hq;simp only [fL,Ak h0,AZ h0,List.mem_append,List.mem_cons,List.not_mem_nil,or_false] at hq;rcases hq with (rfl | rfl | rfl | rfl | rfl | rfl | rfl | rfl | rfl) | rfl
   . exact ⟨by simp,Or.inr ⟨_,_,_,_,_,_,rfl⟩,fun c hc=>by simp at hc;subst hc;exact hf⟩
   rotate_left 8
   . refine ⟨?_,Or.inl (List.all_eq_true.2 BU),fun c hc=>?_⟩
     . intro e
       have:=congrArg List.length e;rw [Aw WM] at this;cases acc with
       | nil=>exact h0 rfl
       | cons a t=>simp at this
     . obtain ⟨d,_,rfl⟩:=List.mem_map.1 (show c∈List.map V.d (List.map Ca acc).flatten from hc)
       exact rfl
   all_goals refine ⟨by simp,Or.inl rfl,fun c hc=>?_⟩
   all_goals simp only [List.mem_cons,List.not_mem_nil,or_false] at hc
   all_goals first
     | (subst hc;exact rfl)
     | (subst hc;simp [CX,W1,W0,rid,fKS,AJ])
     | (rcases hc with rfl | rfl | rfl | rfl<;>exact rfl)
     | (rcases hc with rfl | rfl | rfl | rfl | rfl | rfl | rfl | rfl | rfl | rfl | rfl | rfl | rfl | rfl | rfl | rfl | rfl | rfl | rfl | rfl | rfl | rfl | rfl | rfl | rfl<;>exact rfl)
theorem kU (acc:List Shp) (n:Shp) (hl:acc.length<=100000):Cm prog 104 [Cl n (.d (AX n.gas.cs)), .lp 0 0] (lk ([(0,[hdF 25 acc 7])]++ouF Ca acc 7)) [0] (.ret (.tup [Cl n (.d (AX n.gas.cs)),vi 0])) (lk ([(0,[hdF 25 (acc++[n]) 7])]++ouF Ca (acc++[n]) 7)):=by
 have hr:∀ l:List Shp,(AH Ca l).map (BJ fun i=>if i=0 then 0 else 7)=AH Ca l:=fun l=>by
   simp [AH,List.map_flatten,Function.comp_def]
 have h:=Cm.rename (fun i=>if i=0 then 0 else 7) 2 (by intro i j hi hj;split<;>split<;>omega) (mI acc n hl) (by
   by_cases h0:acc=[]
   . subst h0;simp [BW,Aq,Au]
   . simp [BW,Ak h0,AZ h0]) (by rw [Ak (by simp),AZ (by simp)];simp [BW]) (by simp)
 by_cases h0:acc=[]
 . subst h0
   rw [Aq,Au,List.nil_append,Ak (by simp),AZ (by simp)] at h ⊢;simpa [Ea,HW,hr] using h
 . rw [Ak h0,AZ h0,Ak (by simp),AZ (by simp)] at h ⊢
   simpa [Ea,HW,hr] using h
structure kV (f:Nat->V):Prop where
 av:∀ t,AV (·∈fKS) AR (f t)
 f4:f 4= .lp 1 0
 f5:f 5= .lp 1048577 0
 f6:f 6= .lp 2097153 0
 f7:f 7= .lp 3145729 0
 f8:f 8= .lp 4194305 0
 f9:f 9= .lp 5242881 0
theorem VQ (hS:SortOk) (k:Sky) (r:Rig) (l:List Leg) (f:Nat->V) (hF:kV f) (acc:List Shp) (s n:Shp) (i m:Nat) (x:Leg) (_:l.length<=1000000) (ha:acc.length<=100000) (h1:k.s.length<=1000000) (h2:k.w.length<=1000000) (h3:r.reg.length<=1000000) (hk:BV k=true) (hR:CF r=true) (hg:Ey k r=true) (hs:A6 s=true) (hlo:BE x=true) (hx:l[i]?= some x) (ho:FA k r x m s= .ok n):
   Ym prog 8388609 [vi i,vi m] (lk (fL k r l f .ready acc s ev0 0)) fKS (.ret (vb true)) (lk (fL k r l f .ready (acc++[n]) n ev0 0)):=by
 obtain ⟨hf,f4,f5,f6,f7,f8,f9⟩:=hF;have hil:=(List.getElem?_eq_some_iff.1 hx).1;have hiI:(i:Int) < l.length:=by omega
 have hK1:=Ol k r l f .ready acc s ev0 0 hf;have hK2:=Ol k r l f .ready (acc++[n]) n ev0 0 hf
 have hlt:∀ j∈fKS++fXS acc,j < 10000000:=by
   intro j hj;simp only [fKS,fXS,List.mem_append,List.mem_cons,List.not_mem_nil,or_false] at hj;rcases hj with h | h
   . omega
   . split at h
     . simp at h
     . simp at h;omega
 have hW:∀ (y:Nat) z,WC (lk [(8388609,8388609),(7340033,7340033),(1,1),(1048577,1048577),(2097153,2097153),(3145729,3145729),(4194305,4194305),(5242881,5242881),(0,0),(7,y)]) (.lr f 69 [19,20] Az A3 z) (.lr f 69 [19,20] Az A3 z):=fun y z=>⟨rfl,fun t=>AV.mono (fun j hj=>by simp [fKS] at hj;rcases hj with rfl | rfl | rfl | rfl | rfl | rfl | rfl | rfl | rfl<;>simp [lk]) (fun _ h=>h) (hf t)⟩
 have hC:∀ z,Bv [.lr f 69 [19,20] Az A3 z]:=fun z=>Or.inr ⟨_,_,_,_,_,_,rfl⟩
 have ca:=kU acc n ha;refine Ym.ofX (k:=8388609) (fr:=f) (nt:=69) (ps:=[19,20]) (pa:=Az) (pb:=A3) (args:=[vi i,vi m]) (s:= .ready) gok eok mixed 10000000 hK1 hK2 hlt (by simp [fKS]) (by simp [fL]) (by simp) (by simp) (by simp) ?_;obtain ⟨t,ht,hmo,hnx⟩:=Ib.1 ho;have hto:=Ow hs hlo ht;have cm:=ko hS k r t x h1 h2 h3 hk hR hg hto hlo;rw [H2.2 ⟨hmo,hnx⟩] at cm;simp only [RB] at cm;by_cases hm:m=0
 . rw [if_pos hm] at ht
   subst hm;have cb:=pP s x hs hlo;rw [ht] at cb;simp only [Oy] at cb;by_cases h0:acc=[]
   . subst h0
     rw [Aq,Au,List.nil_append,Ak (by simp),AZ (by simp)] at ca;refine ⟨fun E hE hs=>?_⟩;unfold fL;rw [Aq,Au,List.nil_append,Ak (by simp),AZ (by simp)]
     generalize V.lr f 69 [19,20] Az A3=rc at hW hC ⊢
     simp [Az,BD];simp [A3];refine AL [(10,23631488)] (by kernel_rfl) ?_;simp [inC,Nat.testBit,hx,f5,f6];refine CLa cb ?_;simp [AA,inC,Nat.testBit,f5];refine AL [(13,42505856),(14,43554432)] (by kernel_rfl) ?_;simp [inC,Nat.testBit,hx,f4,f5,f6];refine CLa cm ?_;simp [AA,inC,Nat.testBit,f7];refine CRs ca (by simp) ?_;simp [AA,f5];refine ⟨trivial,by simp,lk [(8388609,8388609),(7340033,7340033),(1,1),(1048577,1048577),(2097153,2097153),(3145729,3145729),(4194305,4194305),(5242881,5242881),(0,0),(7,51943047)],?_⟩;simp [hW,hC,fKS,AH]
   . have n1:AH Ca acc≠[]:=fun e=>by
       have:=congrArg List.length e;rw [Aw WM] at this;cases acc with
       | nil=>exact h0 rfl
       | cons a t=>simp at this
     rw [Ak h0,AZ h0,Ak (by simp),AZ (by simp)] at ca;refine ⟨fun E hE hs=>?_⟩;unfold fL;rw [Ak h0,AZ h0,Ak (by simp),AZ (by simp)]
     generalize V.lr f 69 [19,20] Az A3=rc at hW hC ⊢
     simp [Az,BD];simp [A3];refine AL [(10,23631488)] (by kernel_rfl) ?_;simp [inC,Nat.testBit,hx,f5,f6];refine CLa cb ?_;simp [AA,inC,Nat.testBit,f5];refine AL [(13,42505856),(14,43554432)] (by kernel_rfl) ?_;simp [inC,Nat.testBit,hx,f4,f5,f6];refine CLa cm ?_;simp [AA,inC,Nat.testBit,f7];refine CRs ca (by simp) ?_;simp [AA,f5];refine ⟨trivial,by simp,lk [(8388609,8388609),(7340033,7340033),(1,1),(1048577,1048577),(2097153,2097153),(3145729,3145729),(4194305,4194305),(5242881,5242881),(0,0),(7,51943047)],?_⟩;simp [hW,hC,fKS]
     all_goals first | exact Or.inl (List.all_eq_true.2 BU) | skip
 . rw [if_neg hm] at ht
   subst ht;by_cases h0:acc=[]
   . subst h0
     rw [Aq,Au,List.nil_append,Ak (by simp),AZ (by simp)] at ca;refine ⟨fun E hE hs=>?_⟩;unfold fL;rw [Aq,Au,List.nil_append,Ak (by simp),AZ (by simp)]
     generalize V.lr f 69 [19,20] Az A3=rc at hW hC ⊢
     simp [Az,BD];simp [A3,hm];refine AL [(13,25728640),(14,26777216)] (by kernel_rfl) ?_;simp [inC,Nat.testBit,hx,f4,f5,f6];refine CLa cm ?_;simp [AA,inC,Nat.testBit,f7];refine CRs ca (by simp) ?_;simp [AA,f5];refine ⟨trivial,by simp,lk [(8388609,8388609),(7340033,7340033),(1,1),(1048577,1048577),(2097153,2097153),(3145729,3145729),(4194305,4194305),(5242881,5242881),(0,0),(7,35165831)],?_⟩;simp [hW,hC,fKS,AH]
   . have n1:AH Ca acc≠[]:=fun e=>by
       have:=congrArg List.length e;rw [Aw WM] at this;cases acc with
       | nil=>exact h0 rfl
       | cons a t=>simp at this
     rw [Ak h0,AZ h0,Ak (by simp),AZ (by simp)] at ca;refine ⟨fun E hE hs=>?_⟩;unfold fL;rw [Ak h0,AZ h0,Ak (by simp),AZ (by simp)]
     generalize V.lr f 69 [19,20] Az A3=rc at hW hC ⊢
     simp [Az,BD];simp [A3,hm];refine AL [(13,25728640),(14,26777216)] (by kernel_rfl) ?_;simp [inC,Nat.testBit,hx,f4,f5,f6];refine CLa cm ?_;simp [AA,inC,Nat.testBit,f7];refine CRs ca (by simp) ?_;simp [AA,f5];refine ⟨trivial,by simp,lk [(8388609,8388609),(7340033,7340033),(1,1),(1048577,1048577),(2097153,2097153),(3145729,3145729),(4194305,4194305),(5242881,5242881),(0,0),(7,35165831)],?_⟩;simp [hW,hC,fKS]
     all_goals first | exact Or.inl (List.all_eq_true.2 BU) | skip
theorem T7:∀ {acts:List Act} {p:Plt} {i:Nat},¬ (B7 p acts i).2.2=54
 | [],p,i=>by simp [B7]
 | a::rr,p,i=>by
   unfold B7;cases hd:doS p a with
   | ok q=>exact T7
   | error e=>
     show ¬ e=54
     unfold doS vlS mvS at hd
     repeat' split at hd
     all_goals first | (have:=K8 hd;omega) | (cases hd;omega)
theorem mR {s:Shp} {x:Leg} {e:Int} (h:Ep s x= .error e):¬ e=54:=by
 unfold Ep at h;split at h
 . split at h
   . cases h;decide
   split at h
   . cases h;decide
   . cases h
 . cases h;exact T7
theorem ck {k:Sky} {r:Rig} {s:Shp} {x:Leg} {e:Int × Int × Int} (h:HK k r s x= .error e):(e.1=54/\True)\/(e.1=9/\e.2.1=0/\e.2.2=0):=by
 unfold HK at h;split at h
 . split at h
   . cases h;exact .inr ⟨rfl,rfl,rfl⟩
   . cases h
 . cases h;exact .inl ⟨rfl,trivial⟩
def Iw (x:Leg) (m:Nat) (s:Shp):Shp:=if m=0 then (match Ep s x with | .ok t=>t | .error _=>s) else s
theorem co (hS:SortOk) (k:Sky) (r:Rig) (l:List Leg) (f:Nat->V) (hF:kV f) (acc:List Shp) (s:Shp) (i m:Nat) (x:Leg) (e:Int × Int × Int) (_:l.length<=1000000) (h1:k.s.length<=1000000) (h2:k.w.length<=1000000) (h3:r.reg.length<=1000000) (hk:BV k=true) (hR:CF r=true) (hg:Ey k r=true) (hs:A6 s=true) (hlo:BE x=true) (hx:l[i]?= some x) (ho:FA k r x m s= .error e):
   Ym prog 8388609 [vi i,vi m] (lk (fL k r l f .ready acc s ev0 0)) fKS (.ret (vb false)) (lk (fL k r l f (.done .ret) acc (Iw x m s) (FC i m e).2 (FC i m e).1)):=by
 obtain ⟨hf,f4,f5,f6,f7,f8,f9⟩:=hF;have hil:=(List.getElem?_eq_some_iff.1 hx).1;have hiI:(i:Int) < l.length:=by omega
 have hK1:=Ol k r l f .ready acc s ev0 0 hf;have hK2:=Ol k r l f (.done .ret) acc (Iw x m s) (FC i m e).2 (FC i m e).1 hf
 have hlt:∀ j∈fKS++fXS acc,j < 10000000:=by
   intro j hj;simp only [fKS,fXS,List.mem_append,List.mem_cons,List.not_mem_nil,or_false] at hj;rcases hj with h | h
   . omega
   . split at h
     . simp at h
     . simp at h;omega
 have hW:∀ (y:Nat) z,WC (lk [(8388609,8388609),(7340033,7340033),(1,1),(1048577,1048577),(2097153,2097153),(3145729,3145729),(4194305,4194305),(5242881,5242881),(0,0),(7,y)]) (.lr f 69 [19,20] Az A3 z) (.lr f 69 [19,20] Az A3 z):=fun y z=>⟨rfl,fun t=>AV.mono (fun j hj=>by simp [fKS] at hj;rcases hj with rfl | rfl | rfl | rfl | rfl | rfl | rfl | rfl | rfl<;>simp [lk]) (fun _ h=>h) (hf t)⟩
 have hC:∀ z,Bv [.lr f 69 [19,20] Az A3 z]:=fun z=>Or.inr ⟨_,_,_,_,_,_,rfl⟩
 refine Ym.ofX (k:=8388609) (fr:=f) (nt:=69) (ps:=[19,20]) (pa:=Az) (pb:=A3) (args:=[vi i,vi m]) (s:= .done .ret) gok eok mixed 10000000 hK1 hK2 hlt (by simp [fKS]) (by simp [fL]) (by simp) (by simp) (by simp) ?_;clear hK1 hK2;unfold FA at ho;by_cases hm:m=0
 . rw [if_pos hm] at ho
   subst hm;have cb:=pP s x hs hlo;cases hbs:Ep s x with
   | error b=>
     rw [hbs] at ho cb;simp only [Oy] at cb;have he:e=(b,0,0):=by cases ho;rfl
     subst he;have hbe:=TP hbs;have h54:=mR hbs;have e1:Iw x 0 s=s:=by unfold Iw;rw [if_pos rfl,hbs]
     have e2:FC i 0 (b,0,0)=(b,ev0):=by unfold FC;simp only;rw [if_neg h54]
     rw [e1,e2];simp only;by_cases h0:acc=[]
     . subst h0
       refine ⟨fun E hE hs=>?_⟩;unfold fL;rw [Aq,Au]
       generalize V.lr f 69 [19,20] Az A3=rc at hW hC ⊢
       simp [Az,BD];simp [A3];refine AL [(10,23631488)] (by kernel_rfl) ?_;simp [inC,Nat.testBit,hx,f5,f6];refine CLa cb ?_;simp [AA,inC,Nat.testBit,f8,f9,hbe];refine ⟨trivial,by simp,lk [(8388609,8388609),(7340033,7340033),(1,1),(1048577,1048577),(2097153,2097153),(3145729,3145729),(4194305,4194305),(5242881,5242881),(0,0),(7,7)],?_⟩;simp [hW,hC,fKS,ev0]
     . refine ⟨fun E hE hs=>?_⟩
       unfold fL;rw [Ak h0,AZ h0]
       generalize V.lr f 69 [19,20] Az A3=rc at hW hC ⊢
       simp [Az,BD];simp [A3];refine AL [(10,23631488)] (by kernel_rfl) ?_;simp [inC,Nat.testBit,hx,f5,f6];refine CLa cb ?_;simp [AA,inC,Nat.testBit,f8,f9,hbe];refine ⟨trivial,by simp,lk [(8388609,8388609),(7340033,7340033),(1,1),(1048577,1048577),(2097153,2097153),(3145729,3145729),(4194305,4194305),(5242881,5242881),(0,0),(7,7)],?_⟩;simp [hW,hC,fKS,ev0]
       all_goals first | exact Or.inl (List.all_eq_true.2 BU) | skip
   | ok t=>
     rw [hbs] at ho cb;simp only [Oy] at cb;simp only at ho;have hto:=ZC hs hlo hbs;have cm:=ko hS k r t x h1 h2 h3 hk hR hg hto hlo;rw [ho] at cm;simp only [RB] at cm;have e1:Iw x 0 s=t:=by unfold Iw;rw [if_pos rfl,hbs]
     rw [e1];rcases ck ho with ⟨h54,_⟩ | ⟨h9,k1,k2⟩
     . have e2:FC i 0 e=((54:Int),e.2.1,(i:Int),(0:Int),e.2.2):=by unfold FC;rw [h54,if_pos rfl];rfl
       rw [e2];rw [h54] at cm;simp only;by_cases h0:acc=[]
       . subst h0
         refine ⟨fun E hE hs=>?_⟩;unfold fL;rw [Aq,Au]
         generalize V.lr f 69 [19,20] Az A3=rc at hW hC ⊢
         simp [Az,BD];simp [A3];refine AL [(10,23631488)] (by kernel_rfl) ?_;simp [inC,Nat.testBit,hx,f5,f6];refine CLa cb ?_;simp [AA,inC,Nat.testBit,f5];refine AL [(13,42505856),(14,43554432)] (by kernel_rfl) ?_;simp [inC,Nat.testBit,hx,f4,f5,f6];refine CLa cm ?_;simp [AA,inC,Nat.testBit,f8,f9];refine ⟨trivial,by simp,lk [(8388609,8388609),(7340033,7340033),(1,1),(1048577,1048577),(2097153,2097153),(3145729,3145729),(4194305,4194305),(5242881,5242881),(0,0),(7,7)],?_⟩;simp [hW,hC,fKS,ev0]
       . refine ⟨fun E hE hs=>?_⟩
         unfold fL;rw [Ak h0,AZ h0]
         generalize V.lr f 69 [19,20] Az A3=rc at hW hC ⊢
         simp [Az,BD];simp [A3];refine AL [(10,23631488)] (by kernel_rfl) ?_;simp [inC,Nat.testBit,hx,f5,f6];refine CLa cb ?_;simp [AA,inC,Nat.testBit,f5];refine AL [(13,42505856),(14,43554432)] (by kernel_rfl) ?_;simp [inC,Nat.testBit,hx,f4,f5,f6];refine CLa cm ?_;simp [AA,inC,Nat.testBit,f8,f9];refine ⟨trivial,by simp,lk [(8388609,8388609),(7340033,7340033),(1,1),(1048577,1048577),(2097153,2097153),(3145729,3145729),(4194305,4194305),(5242881,5242881),(0,0),(7,7)],?_⟩;simp [hW,hC,fKS,ev0]
         all_goals first | exact Or.inl (List.all_eq_true.2 BU) | skip
     . have e2:FC i 0 e=(9,ev0):=by unfold FC;rw [h9,if_neg (by decide)]
       rw [e2];rw [h9,k1,k2] at cm;simp only;by_cases h0:acc=[]
       . subst h0
         refine ⟨fun E hE hs=>?_⟩;unfold fL;rw [Aq,Au]
         generalize V.lr f 69 [19,20] Az A3=rc at hW hC ⊢
         simp [Az,BD];simp [A3];refine AL [(10,23631488)] (by kernel_rfl) ?_;simp [inC,Nat.testBit,hx,f5,f6];refine CLa cb ?_;simp [AA,inC,Nat.testBit,f5];refine AL [(13,42505856),(14,43554432)] (by kernel_rfl) ?_;simp [inC,Nat.testBit,hx,f4,f5,f6];refine CLa cm ?_;simp [AA,inC,Nat.testBit,f8,f9];refine ⟨trivial,by simp,lk [(8388609,8388609),(7340033,7340033),(1,1),(1048577,1048577),(2097153,2097153),(3145729,3145729),(4194305,4194305),(5242881,5242881),(0,0),(7,7)],?_⟩;simp [hW,hC,fKS,ev0]
       . refine ⟨fun E hE hs=>?_⟩
         unfold fL;rw [Ak h0,AZ h0]
         generalize V.lr f 69 [19,20] Az A3=rc at hW hC ⊢
         simp [Az,BD];simp [A3];refine AL [(10,23631488)] (by kernel_rfl) ?_;simp [inC,Nat.testBit,hx,f5,f6];refine CLa cb ?_;simp [AA,inC,Nat.testBit,f5];refine AL [(13,42505856),(14,43554432)] (by kernel_rfl) ?_;simp [inC,Nat.testBit,hx,f4,f5,f6];refine CLa cm ?_;simp [AA,inC,Nat.testBit,f8,f9];refine ⟨trivial,by simp,lk [(8388609,8388609),(7340033,7340033),(1,1),(1048577,1048577),(2097153,2097153),(3145729,3145729),(4194305,4194305),(5242881,5242881),(0,0),(7,7)],?_⟩;simp [hW,hC,fKS,ev0]
         all_goals first | exact Or.inl (List.all_eq_true.2 BU) | skip
 . rw [if_neg hm] at ho
   have cm:=ko hS k r s x h1 h2 h3 hk hR hg hs hlo;rw [ho] at cm;simp only [RB] at cm;have e1:Iw x m s=s:=by unfold Iw;rw [if_neg hm]
   rw [e1];rcases ck ho with ⟨h54,_⟩ | ⟨h9,k1,k2⟩
   . have e2:FC i m e=((54:Int),e.2.1,(i:Int),(m:Int),e.2.2):=by unfold FC;rw [h54,if_pos rfl]
     rw [e2];rw [h54] at cm;simp only;by_cases h0:acc=[]
     . subst h0
       refine ⟨fun E hE hs=>?_⟩;unfold fL;rw [Aq,Au]
       generalize V.lr f 69 [19,20] Az A3=rc at hW hC ⊢
       simp [Az,BD];simp [A3,hm];refine AL [(13,25728640),(14,26777216)] (by kernel_rfl) ?_;simp [inC,Nat.testBit,hx,f4,f5,f6];refine CLa cm ?_;simp [AA,inC,Nat.testBit,f8,f9];refine ⟨trivial,by simp,lk [(8388609,8388609),(7340033,7340033),(1,1),(1048577,1048577),(2097153,2097153),(3145729,3145729),(4194305,4194305),(5242881,5242881),(0,0),(7,7)],?_⟩;simp [hW,hC,fKS,ev0]
     . refine ⟨fun E hE hs=>?_⟩
       unfold fL;rw [Ak h0,AZ h0]
       generalize V.lr f 69 [19,20] Az A3=rc at hW hC ⊢
       simp [Az,BD];simp [A3,hm];refine AL [(13,25728640),(14,26777216)] (by kernel_rfl) ?_;simp [inC,Nat.testBit,hx,f4,f5,f6];refine CLa cm ?_;simp [AA,inC,Nat.testBit,f8,f9];refine ⟨trivial,by simp,lk [(8388609,8388609),(7340033,7340033),(1,1),(1048577,1048577),(2097153,2097153),(3145729,3145729),(4194305,4194305),(5242881,5242881),(0,0),(7,7)],?_⟩;simp [hW,hC,fKS,ev0]
       all_goals first | exact Or.inl (List.all_eq_true.2 BU) | skip
   . have e2:FC i m e=(9,ev0):=by unfold FC;rw [h9,if_neg (by decide)]
     rw [e2];rw [h9,k1,k2] at cm;simp only;by_cases h0:acc=[]
     . subst h0
       refine ⟨fun E hE hs=>?_⟩;unfold fL;rw [Aq,Au]
       generalize V.lr f 69 [19,20] Az A3=rc at hW hC ⊢
       simp [Az,BD];simp [A3,hm];refine AL [(13,25728640),(14,26777216)] (by kernel_rfl) ?_;simp [inC,Nat.testBit,hx,f4,f5,f6];refine CLa cm ?_;simp [AA,inC,Nat.testBit,f8,f9];refine ⟨trivial,by simp,lk [(8388609,8388609),(7340033,7340033),(1,1),(1048577,1048577),(2097153,2097153),(3145729,3145729),(4194305,4194305),(5242881,5242881),(0,0),(7,7)],?_⟩;simp [hW,hC,fKS,ev0]
     . refine ⟨fun E hE hs=>?_⟩
       unfold fL;rw [Ak h0,AZ h0]
       generalize V.lr f 69 [19,20] Az A3=rc at hW hC ⊢
       simp [Az,BD];simp [A3,hm];refine AL [(13,25728640),(14,26777216)] (by kernel_rfl) ?_;simp [inC,Nat.testBit,hx,f4,f5,f6];refine CLa cm ?_;simp [AA,inC,Nat.testBit,f8,f9];refine ⟨trivial,by simp,lk [(8388609,8388609),(7340033,7340033),(1,1),(1048577,1048577),(2097153,2097153),(3145729,3145729),(4194305,4194305),(5242881,5242881),(0,0),(7,7)],?_⟩;simp [hW,hC,fKS,ev0]
       all_goals first | exact Or.inl (List.all_eq_true.2 BU) | skip
end Go.Proofs.Tryz
