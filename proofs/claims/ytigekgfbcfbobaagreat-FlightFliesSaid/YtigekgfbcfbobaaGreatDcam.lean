/- Own lemmas, used by the last text. Conditions: those that each theorem states. -/
import Derived.Test.YtigekgfbcfbobaaGreatDcaf
import Derived.Test.YtigekgfbcfbobaaGreatDcag
import Derived.Test.YtigekgfbcfbobaaGreatDcah
import Derived.Test.YtigekgfbcfbobaaGreatDcaj
import Derived.Test.YtigekgfbcfbobaaGreatDcak
import Derived.Test.YtigekgfbcfbobaaGreatDcal
set_option maxRecDepth 200000
set_option maxHeartbeats 8000000
namespace Go.Proofs.Tryz
open Go.Psl
open Go.Air
def mhS (s:Shp) (l:Leg):Int × Int:=(min s.hl (s.hl+l.ul),max s.hh (s.hh+l.uh))
def DY (r:Rig) (l:Leg):Int × Int:=(Ja (l.bl,l.bh) (r.gl,r.gh) (100,100)).1
def Cj (k:Sky) (r:Rig) (s:Shp) (l:Leg):Shp:=
 {s with
   xl:=s.xl+6*(l.axl+(Jr k.w (mhS s l)).1),xh:=s.xh+6*(l.axh+(Jr k.w (mhS s l)).2)
   yl:=s.yl+6*(l.ayl+(Js k.w (mhS s l)).1),yh:=s.yh+6*(l.ayh+(Js k.w (mhS s l)).2)
   hl:=s.hl+l.ul,hh:=s.hh+l.uh
   fl:=s.fl - l.bh,fh:=s.fh - l.bl
   wl:=min (s.wl+(DY r l).1) r.tank,wh:=min (s.wh+(DY r l).2) r.tank
   bl:=s.bl+l.bl,bh:=s.bh+l.bh
   gas:=tkQ s.gas}
def KG (s n:Shp):Shp:={n with fh:=s.fh,wl:=min s.wl n.wl,wh:=max s.wh n.wh}
def sqN (a b:Int):Int:=max (max 0 a) (-b)*max (max 0 a) (-b)
def sqF (a b:Int):Int:=max (-a) b*max (-a) b
def Nz (xl xh yl yh:Int):(Int × Int) × Int:=LB (sqN xl xh+sqN yl yh,sqF xl xh+sqF yl yh)
def N1 (l:Leg):Int × Int:=(Nz l.axl l.axh l.ayl l.ayh).1
def UC (n:Shp):Bool:=spB (-10000000) 10000000 n.xl n.xh&&spB (-10000000) 10000000 n.yl n.yh
def ER (k:Sky) (r:Rig) (s:Shp) (l:Leg):Int × Int:=
 if (mhS s l).1 < r.lo then (1,0) else if r.hi < (mhS s l).2 then (2,0)
 else if 0<=ixF (EK (atA k.s (mhS s l).1 (mhS s l).2).1) (tkQ s.gas).cs then (3,ixF (EK (atA k.s (mhS s l).1 (mhS s l).2).1) (tkQ s.gas).cs)
 else if s.fl - l.bh < r.rsv then (4,0)
 else if Il r.reg (N1 l) (hvS (KG s (Cj k r s l)) (atA k.s (mhS s l).1 (mhS s l).2).1)=false then (5,0)
 else if UC (Cj k r s l)=false then (6,0) else (0,0)
def HK (k:Sky) (r:Rig) (s:Shp) (l:Leg):Except (Int × Int × Int) Shp:=
 if (ER k r s l).1=0 then (if 1000000000000 < s.bh+l.bh then .error (9,0,0) else .ok (Cj k r s l)) else .error (54,ER k r s l)
theorem jY (cs:List Cel):heS (cs.map tkC)+(cs.map fun c=>BQ c (tkN c)).sum=heS cs:=by
 unfold heS;induction cs with
 | nil=>simp
 | cons c r ih=>
   have e:(tkC c).he=c.he - BQ c (tkN c):=rfl;simp only [List.map_cons,List.sum_cons];rw [e];omega
theorem jZ (cs:List Cel):aiS (cs.map tkC)+(cs.map fun c=>tkN c - BQ c (tkN c)).sum=aiS cs:=by
 unfold aiS;induction cs with
 | nil=>simp
 | cons c r ih=>
   have e:(tkC c).ai=c.ai - (tkN c - BQ c (tkN c)):=rfl;simp only [List.map_cons,List.sum_cons];rw [e];omega
theorem ja {c:Cel} (h:B5 c):B5 (tkC c):=by
 have h1:=SY h;have h2:=h.he;have h3:=h.ai;have h4:=cY h;unfold tkC I0;refine ⟨h.rm,by simp only;omega,by simp only;omega,h.w,h.lk,by simp only;omega⟩
theorem jb {l:List Cel} (h:∀ c∈l,B5 c):0<=heS l/\0<=aiS l:=by
 unfold heS aiS;induction l with
 | nil=>simp
 | cons c r ih=>
   have h1:=(h c (by simp)).he;have h2:=(h c (by simp)).ai;have:=ih fun x hx=>h x (by simp [hx])
   simp only [List.map_cons,List.sum_cons];omega
theorem Wl {p:Plt} (h:Ar p=true):p.bt+p.vh+p.lh+p.ph+heS p.cs=p.ih/\p.va+p.la+p.pa+aiS p.cs=p.ia:=by
 unfold Ar at h;simp only [Bool.and_eq_true,decide_eq_true_eq] at h;exact h.2
theorem Wm {p:Plt} (h:Ar p=true):0<=p.bt/\p.bt<=10000000:=by
 unfold Ar IR at h;simp only [Bool.and_eq_true] at h;have:=h.1.1.1.2;simp [rgB] at this;omega
theorem P4 {p:Plt} (h1:p.cs.length<=12) (h2:0<=p.bt/\p.bt<=10000000) (h3:∀ c∈p.cs,B5 c) (h4:p.bt+p.vh+p.lh+p.ph+heS p.cs=p.ih/\p.va+p.la+p.pa+aiS p.cs=p.ia) (hp:(0<=p.vh/\0<=p.va)/\(0<=p.lh/\0<=p.la)/\0<=p.ph/\0<=p.pa) (h5:p.ih<=1000000000000/\p.ia<=1000000000000):Ar p=true:=by
 have h6:=jb h3;unfold Ar IR;simp only [Bool.and_eq_true,decide_eq_true_eq];refine ⟨⟨⟨⟨h1,by simp [rgB];omega⟩,?_⟩,List.all_eq_true.2 fun c hc=>Dm.2 (h3 c hc)⟩,h4⟩;unfold Li bkB rgB;simp;omega
theorem Md {p:Plt} (h:Ar p=true):Ar (tkQ p)=true:=by
 have hl:=CS h;have hc:=Dx h;have he:=Wl h;have hb:=Wm h;obtain ⟨b1,b2,b3,b4,b5,b6,b7,b8⟩:=K9 (K7 h);have k1:=jY p.cs;have k2:=jZ p.cs;have k3:=SZ hc p.cs.length (Nat.le_refl _);have e1:tkH p.cs p.cs.length=(p.cs.map fun c=>BQ c (tkN c)).sum:=by unfold tkH;rw [List.take_length]
 have e2:tkA p.cs p.cs.length=(p.cs.map fun c=>tkN c - BQ c (tkN c)).sum:=by unfold tkA;rw [List.take_length]
 refine P4 (by simpa [tkQ] using hl) hb (fun c hcc=>?_) ?_ ?_ ?_
 . simp only [tkQ,List.mem_map] at hcc
   obtain ⟨x,hx,rfl⟩:=hcc;exact ja (hc x hx)
 . simp only [tkQ,tkP];omega
 . simp only [tkQ,tkP];omega
 . simp only [tkQ,tkP];omega
theorem GJ {x y:Int} (hx:0<=x/\x<=1000000) (hy:0<=y/\y<=120):Eg x y 100=(x*y / 100,(x*y+99) / 100):=by
 have h1:0<=x*y:=Int.mul_nonneg hx.1 hy.1;have h2:x*y<=1000000*120:=Int.mul_le_mul hx.2 hy.2 hy.1 (by omega);unfold Eg;rw [show max x (-x)=x by omega,show max y (-y)=y by omega,decide_eq_false (by omega:¬ x < 0),decide_eq_false (by omega:¬ y < 0)];unfold Da upS
 generalize x*y=z at*
 rw [if_pos (show z / 100 < 2199023255552 by omega)];simp only [bne_self_eq_false,Bool.false_eq_true,if_false];refine Prod.ext rfl ?_
 show (if 0 < z % 100 then z / 100+1 else z / 100)=(z+99) / 100
 split<;>omega
theorem Me {r:Rig} {l:Leg} (hl:0<=l.bl/\l.bl<=l.bh/\l.bh<=1000000) (hr:0<=r.gl/\r.gl<=r.gh/\r.gh<=120):Ja (l.bl,l.bh) (r.gl,r.gh) (100,100)=((l.bl*r.gl / 100,(l.bh*r.gh+99) / 100),0):=by
 have o1:okS (l.bl,l.bh)=true:=CT.2 (by simp only;omega);have o2:okS (r.gl,r.gh)=true:=CT.2 (by simp only;omega);have o3:okS (100,100)=true:=by decide
 have p0:0<=l.bl*r.gl:=Int.mul_nonneg (by omega) (by omega);have p1:l.bl*r.gl<=l.bh*r.gl:=Int.mul_le_mul_of_nonneg_right (by omega) (by omega);have p2:l.bl*r.gl<=l.bl*r.gh:=Int.mul_le_mul_of_nonneg_left (by omega) (by omega);have p3:l.bh*r.gl<=l.bh*r.gh:=Int.mul_le_mul_of_nonneg_left (by omega) (by omega);have p4:l.bl*r.gh<=l.bh*r.gh:=Int.mul_le_mul_of_nonneg_right (by omega) (by omega);have p5:l.bh*r.gh<=1000000*120:=Int.mul_le_mul (by omega) (by omega) (by omega) (by omega);unfold Ja;rw [o1,o2,o3];simp only [Bool.and_self,if_true,show ¬ (100:Int) < 1 by omega,if_false];unfold Lx HO Bu Xa;simp only [List.foldl_cons,List.foldl_nil,show ¬ ((0:Nat) % 2=1) by decide,show ((1:Nat) % 2=1) by decide,if_true,if_false,ite_self];rw [GJ (by omega) (by omega),GJ (by omega) (by omega),GJ (by omega) (by omega),GJ (by omega) (by omega)];simp only;unfold JH
 generalize l.bl*r.gl=a at*
 generalize l.bh*r.gl=b at*
 generalize l.bl*r.gh=c at*
 generalize l.bh*r.gh=d at*
 rw [if_neg (by simp only;omega)];simp only [Prod.mk.injEq,and_true];omega
structure P5 (r:Rig):Prop where
 g:0<=r.gl/\r.gl<=r.gh/\r.gh<=120
 t:0<=r.tank/\r.tank<=1000000000
 v:0<=r.rsv/\r.rsv<=1000000000
 h: -500<=r.lo/\r.lo<=r.hi/\r.hi<=9000
 r:C7 r.reg=true
theorem Hy {r:Rig} (h:CF r=true):P5 r:=by
 unfold CF at h;simp only [Bool.and_eq_true,CC] at h;obtain ⟨⟨⟨h1,h2⟩,h3⟩,h4⟩:=h;simp [rgB] at h2;exact ⟨h1,by omega,by omega,h3,h4⟩
structure Wn (l:Leg):Prop where
 m:1<=l.m/\l.m<=600
 x: -1000<=l.axl/\l.axl<=l.axh/\l.axh<=1000
 y: -1000<=l.ayl/\l.ayl<=l.ayh/\l.ayh<=1000
 u: -300<=l.ul/\l.ul<=l.uh/\l.uh<=300
 b:0<=l.bl/\l.bl<=l.bh/\l.bh<=1000000
theorem Mf {l:Leg} (h:BE l=true):Wn l:=by
 have hm:=G5 h;unfold BE at h;simp only [Bool.and_eq_true,CC] at h;exact ⟨hm,h.1.1.1.1.1.2.1,h.1.1.1.1.1.2.2,h.1.1.1.1.2,h.1.1.1.2⟩
structure mU (s:Shp):Prop where
 x: -10000000<=s.xl/\s.xl<=s.xh/\s.xh<=10000000
 y: -10000000<=s.yl/\s.yl<=s.yh/\s.yh<=10000000
 b:0<=s.bl/\s.bl<=s.bh/\s.bh<=1000000000000
 p:0<=s.drp/\s.drp<=1000000000000
theorem AAb {s:Shp} (h:A6 s=true):mU s:=by
 have hn:=MF h;unfold A6 at h;simp only [Bool.and_eq_true,CC] at h;exact ⟨h.1.1.1.1.1.1.1,h.1.1.1.1.1.1.2,h.1.1.1.2,hn.2⟩
theorem KH {s:Shp} (hb:VU s) (hx:mU s) (hg:Ar s.gas=true):A6 s=true:=by
 have h1:=hb.d;have h2:=hb.b;have h3:=hx.p;unfold A6;simp only [Bool.and_eq_true,CC];exact ⟨⟨⟨⟨⟨⟨⟨hx.x,hx.y⟩,hb.h⟩,hb.f,hb.w⟩,hx.b⟩,by simp [rgB];omega⟩,by simp [rgB];omega⟩,hg⟩
structure KI (k:Sky) (r:Rig) (s:Shp) (l:Leg):Prop where
 lo:r.lo<=(mhS s l).1
 hi:(mhS s l).2<=r.hi
 fit:∀ c∈(tkQ s.gas).cs,Lh c (atA k.s (mhS s l).1 (mhS s l).2).1=1
 rsv:r.rsv<=s.fl - l.bh
 trim:Il r.reg (N1 l) (hvS (KG s (Cj k r s l)) (atA k.s (mhS s l).1 (mhS s l).2).1)=true
 far:UC (Cj k r s l)=true
 full:s.bh+l.bh<=1000000000000
theorem Si {a:Atm} {cs:List Cel}:¬ 0<=ixF (EK a) cs↔∀ c∈cs,Lh c a=1:=by
 have h:=IZ (EK a) cs;by_cases h0:0<=ixF (EK a) cs
 . rw [decide_eq_true h0] at h
   obtain ⟨c,hc,hn⟩:=List.any_eq_true.1 h.symm;refine ⟨fun h=>absurd h0 h,fun h2=>?_⟩;have:=h2 c hc;unfold EK at hn;rw [decide_eq_true this] at hn;cases hn
 . rw [decide_eq_false h0] at h
   refine ⟨fun _ c hc=>?_,fun _=>h0⟩;have:=List.any_eq_false.1 h.symm c hc;unfold EK at this;by_cases he:Lh c a=1
   . exact he
   . rw [decide_eq_false he] at this;simp at this
theorem H2 {k:Sky} {r:Rig} {s n:Shp} {l:Leg}:HK k r s l= .ok n↔KI k r s l/\n=Cj k r s l:=by
 constructor
 . intro h
   unfold HK at h;split at h
   . rename_i he
     split at h
     . cases h
     . rename_i hf
       refine ⟨?_,(Except.ok.inj h).symm⟩;unfold ER at he;split at he
       . simp at he
       split at he
       . simp at he
       split at he
       . rename_i h3;simp at he
       split at he
       . simp at he
       split at he
       . simp at he
       split at he
       . simp at he
       rename_i h1 h2 h3 h4 h5 h6;exact ⟨by omega,by omega,Si.1 h3,by omega,by simpa using h5,by simpa using h6,by omega⟩
   . cases h
 . rintro ⟨h,rfl⟩
   have e:ER k r s l=(0,0):=by
     unfold ER;rw [if_neg (by have:=h.lo;omega),if_neg (by have:=h.hi;omega),if_neg (Si.2 h.fit),if_neg (by have:=h.rsv;omega),if_neg (by rw [h.trim];simp),if_neg (by rw [h.far];simp)]
   unfold HK;rw [e,if_pos rfl,if_neg (by have:=h.full;omega)]
def Ey (k:Sky) (r:Rig):Bool:=match k.s[0]? with
 | some x=>decide (x.h<=r.lo)&&decide (r.hi<=aj k.s)
 | none=>false
theorem jc {k:Sky} {r:Rig} (hk:BV k=true) (hr:Ey k r=true) {a b:Int} (h1:r.lo<=a) (h2:a<=b) (h3:b<=r.hi):yg k.s a b:=by
 unfold BV at hk;simp only [Bool.and_eq_true,decide_eq_true_eq] at hk
 have ho:OkS k.s:=by
   refine B8.1 ?_;have:=hk.1;unfold D3 at this;by_cases h:GC k.s=true
   . exact h
   . rw [if_neg h] at this;simp at this
 have hf:=(IQ ho).1 hk.1;have hl:=ho.len;obtain ⟨x,hx⟩:∃ x,k.s[0]?= some x:=⟨_,List.getElem?_eq_getElem (by omega)⟩
 obtain ⟨y,hy⟩:∃ y,k.s[k.s.length - 1]?= some y:=⟨_,List.getElem?_eq_getElem (by omega)⟩
 unfold Ey aj at hr;rw [hx,hy] at hr;simp only [Bool.and_eq_true,decide_eq_true_eq] at hr;exact ACP ho hf h2 (NU hx hy (by omega) (by omega)) (NU hx hy (by omega) (by omega))
theorem mV {k:Sky} (hk:BV k=true):OkW k.w:=by
 unfold BV at hk;simp only [Bool.and_eq_true] at hk;exact L0 hk.2
theorem jd {s:Shp} {l:Leg} (hs:VU s) (hl:Wn l):(mhS s l).1<=(mhS s l).2:=by
 have h1:=hs.h;have h2:=hl.u;unfold mhS;simp only;omega
theorem je {k:Sky} {r:Rig} {s:Shp} {l:Leg} (hr:P5 r) (hs:A6 s=true) (hl:Wn l) (h:KI k r s l):A6 (Cj k r s l)=true:=by
 have hb:=GT hs;have hx:=AAb hs;have b1:=hb.h;have b2:=hb.f;have b3:=hb.w;have b4:=hx.b;have g1:=hr.g;have g2:=hr.t;have g3:=hr.v;have g4:=hr.h;have l1:=hl.u;have l2:=hl.b;have m1:=h.lo;have m2:=h.hi;have m3:=h.rsv;have m4:=h.full;have hfar:=h.far;have ge:=Me l2 g1;have p0:0<=l.bl*r.gl:=Int.mul_nonneg (by omega) (by omega);have p1:l.bl*r.gl<=l.bh*r.gh:=Int.mul_le_mul (by omega) (by omega) (by omega) (by omega);unfold mhS at m1 m2;simp only at m1 m2;unfold UC at hfar;simp only [Bool.and_eq_true,CC] at hfar;have htk:=Md (CR hs);refine KH ⟨?_,?_,?_,hb.d,hb.b,CS htk,Dx htk⟩ ⟨hfar.1,hfar.2,?_,hx.p⟩ htk
 . unfold Cj;simp only;omega
 . unfold Cj;simp only;omega
 . unfold Cj DY;rw [ge];simp only;omega
 . unfold Cj;simp only;omega
structure dI (s t:Shp):Prop where
 x:WB (s.xl,s.xh) (t.xl,t.xh)
 y:WB (s.yl,s.yh) (t.yl,t.yh)
 h:WB (s.hl,s.hh) (t.hl,t.hh)
 f:WB (s.fl,s.fh) (t.fl,t.fh)
 w:WB (s.wl,s.wh) (t.wl,t.wh)
 b:WB (s.bl,s.bh) (t.bl,t.bh)
 dry:s.dry=t.dry
 bal:s.bal=t.bal
 drp:s.drp=t.drp
 gas:s.gas=t.gas
structure Wid (a b:Rig):Prop where
 reg:a.reg=b.reg
 gl:a.gl=b.gl
 gh:a.gh=b.gh
 tank:a.tank=b.tank
 rsv:a.rsv<=b.rsv
 lo:a.lo<=b.lo
 hi:b.hi<=a.hi
theorem zD {r:Int} (h:0<=r) (h2:r<=2097152):r*r<=4398046511104:=by
 have:=DE h2 h2 h (by omega);omega
theorem AAR (k:Nat):(2:Int) ^ (k+1) / 2=2 ^ k:=by rw [Int.pow_succ];omega
theorem um {k m:Nat} (h:k<=m):(2:Int) ^ k<=2 ^ m:=by
 have:2 ^ k<=2 ^ m:=Nat.pow_le_pow_right (by omega) h
 exact_mod_cast this
theorem vp (n:Int) (h:0<=n/\n<=1099511627776):Ct prog 310 [vi n] (vi (DL n)) []:=by
 refine CB func310 c310 fun E hE=>?_
 simp [p310];refine BL (α:=Nat × Int) 0 (fun _:Unit=>⟨AO [(3,vi (DL n))],lk [],0⟩) (fun _=>True) (fun x=>⟨AO [(0,vi n),(3,vi x.2),(4,vi (2 ^ x.1 / 2))],lk [],0⟩) (fun x=>x.1<=21/\0<=x.2/\x.2<=1048576/\sqG n x.1 x.2=DL n) (fun x=>x.1) (21,0) ?_ ?_ ?_ fun _ _=>?_
 . simp;rfl
 . exact WK hE (lk [])
 . rintro ⟨k,r⟩ ⟨h1,h2,h3,h4⟩
   simp only at h1 h2 h3 h4;cases k with
   | zero=>
     simp [tK];refine AI.mk hE (lk []) _ _ _ ?_ ?_ ?_ ?_ ?_<;>simp
     exact h4
   | succ k=>
     have hp:=LJ k;have hp2:(2:Int) ^ k<=2 ^ 20:=um (by omega);have hp3:(2:Int) ^ 20=1048576:=by decide
     have w1:IntKind.wrap .i64 (r+2 ^ k)=r+2 ^ k:=AD (by omega) (by omega);have b:=zD (r:=r+2 ^ k) (by omega) (by omega);have b0:=Int.mul_nonneg (show 0<=r+2 ^ k by omega) (show 0<=r+2 ^ k by omega);have w2:IntKind.wrap .i64 ((r+2 ^ k)*(r+2 ^ k))=(r+2 ^ k)*(r+2 ^ k):=AD (by omega) (by omega);have t:((2:Int) ^ k).tdiv 2=2 ^ k / 2:=Int.tdiv_eq_ediv_of_nonneg (by omega);have w3:IntKind.wrap .i64 (2 ^ k / 2)=2 ^ k / 2:=AD (by omega) (by omega);have hp':(0:Int) < 2 ^ k:=by omega
     simp only [sqG] at h4;by_cases hc:(r+2 ^ k)*(r+2 ^ k)<=n
     . rw [if_pos hc] at h4
       simp [tK,AAR,hp',w1,w2,t,w3,hc];refine ⟨k,r+2 ^ k,⟨by omega,by omega,?_,h4⟩,by omega,?_⟩
       . refine Int.not_lt.1 fun hlt=>?_
         have:=DE (show (1048577:Int)<=r+2 ^ k by omega) (show (1048577:Int)<=r+2 ^ k by omega) (by omega) (by omega);omega
       . exact WK hE (lk [])
     . rw [if_neg hc] at h4
       simp [tK,AAR,hp',w1,w2,t,w3,hc];refine ⟨k,r,⟨by omega,by omega,by omega,h4⟩,by omega,?_⟩;exact WK hE (lk [])
 . simp
   apply RZ;simp [results310]
theorem zF (a:Int × Int):Ct prog 282 [vsp a.1 a.2] (vse (LB a)) []:=by
 refine CB func282 c282 fun E hE=>?_
 simp [p282];refine CLa (rt a) ?_;by_cases h:okS a=true
 . have hh:=CT.1 h
   by_cases h1:a.1 < 0
   . simp [h,h1,AA]
     apply RZ;simp [results282,LB,h,h1]
   . simp [h,h1]
     refine CLa (vp a.2 (by omega)) ?_;have q:=PP a.2 (by omega);have ql:=V9 q (by omega);have m:=q.2.1;have m2:=Int.mul_nonneg q.1 q.1;have w:IntKind.wrap .i64 (DL a.2*DL a.2)=DL a.2*DL a.2:=AD (by omega) (by omega);have w2:IntKind.wrap .i64 (DL a.2+1)=DL a.2+1:=AD (by have:=q.1;omega) (by omega);by_cases hq:DL a.2*DL a.2 < a.2
     . have hn:¬ DL a.2*DL a.2=a.2:=by omega
       simp [w,w2,hq];refine CLa (vp a.1 (by omega)) ?_;simp [AA];apply RZ;simp [results282,LB,h,h1,hn]
     . have hn:DL a.2*DL a.2=a.2:=by omega
       simp [w,hq];refine CLa (vp a.1 (by omega)) ?_;simp [AA];apply RZ;simp [results282,LB,h,h1,hn]
 . simp [h,AA]
   apply RZ;simp [results282,LB,h]
def Qg (x y z:Int):Int × Bool:=if 0 < x / z/\4398046511104 / (x / z) < y then (4398046511104,false) else (min (x*y / z) 4398046511104,decide (x*y % z=0))
theorem uA (y:Int) (k:Nat) (_:0<=y):y / 2 ^ k=2*(y / 2 ^ (k+1))+y / 2 ^ k % 2:=by
 have e:y / 2 ^ (k+1)=y / 2 ^ k / 2:=by rw [Int.pow_succ,Int.ediv_ediv_of_nonneg (by have:=LJ k;omega)]
 rw [e];omega
theorem zL (x y z:Int) (hx:0<=x/\x<=1099511627776) (hy:0<=y/\y<=1099511627776) (hz:1<=z/\z<=1099511627776):Ct prog 308 [vi x,vi y,vi z] (.tup [vi (Qg x y z).1,vb (Qg x y z).2]) []:=by
 refine CB func308 c308 fun E hE=>?_
 have zn:¬ z=0:=by omega
 have t1:x.tdiv z=x / z:=Int.tdiv_eq_ediv_of_nonneg hx.1;have t2:x.tmod z=x % z:=Int.tmod_eq_emod_of_nonneg hx.1;obtain ⟨w,rest,hw,hrest⟩:∃ w rest:Int,x / z=w/\x % z=rest:=⟨_,_,rfl,rfl⟩
 have hxe:w*z+rest=x:=by rw [<-hw,<-hrest,Int.mul_comm];exact Int.mul_ediv_add_emod x z
 have r0:0<=rest:=by rw [<-hrest];exact Int.emod_nonneg _ zn
 have r1:rest < z:=by rw [<-hrest];exact Int.emod_lt_of_pos _ (by omega)
 have w0:0<=w:=by rw [<-hw];exact Int.ediv_nonneg hx.1 (by omega)
 have w1:w<=x:=by rw [<-hw];exact Int.ediv_le_self _ hx.1
 have k1:IntKind.wrap .i64 w=w:=AD (by omega) (by omega);have tm:(4398046511104:Int).tdiv w=4398046511104 / w:=Int.tdiv_eq_ediv_of_nonneg (by omega);have m0:0<=4398046511104 / w:=Int.ediv_nonneg (by omega) w0;have m1:4398046511104 / w<=4398046511104:=Int.ediv_le_self _ (by omega);have k2:IntKind.wrap .i64 (4398046511104 / w)=4398046511104 / w:=AD (by omega) (by omega);by_cases hc:0 < w/\4398046511104 / w < y
 . have wn:¬ w=0:=by omega
   simp [p308,zn,t1,t2,hw,hrest,k1,k2,tm,hc.1,hc.2,wn];apply RZ;simp [results308,Qg,hw,hc]
 . have hb:0<=w*y/\w*y<=4398046511104:=by
     refine ⟨Int.mul_nonneg w0 hy.1,?_⟩;by_cases h0:w=0
     . rw [h0];omega
     . have h1:y<=4398046511104 / w:=Int.not_lt.1 fun h=>hc ⟨by omega,h⟩
       rw [Int.le_ediv_iff_mul_le (by omega)] at h1;rw [Int.mul_comm];exact h1
   have hfin:∀ q r:Int,rest*y=q*z+r->0<=r->r < z->x*y / z=w*y+q/\x*y % z=r:=by
     intro q r he h0 h1
     have e:x*y=r+(w*y+q)*z:=by
       rw [<-hxe,Int.add_mul,Int.add_mul,he,Int.mul_right_comm];omega
     rw [e,Int.add_mul_ediv_right _ _ zn,Int.add_mul_emod_self_right,Int.ediv_eq_zero_of_lt h0 h1,Int.emod_eq_of_lt h0 h1];omega
   have hbq:∀ (k:Nat) (q r m:Int),rest*(y / 2 ^ k)=q*z+r->0<=r->q<=y / 2 ^ k:=by
     intro k q r m he h0;have h1:rest*(y / 2 ^ k)<=z*(y / 2 ^ k):=Int.mul_le_mul_of_nonneg_right (by omega) (Int.ediv_nonneg hy.1 (by have:=LJ k;omega));have h2:q*z<=y / 2 ^ k*z:=by rw [Int.mul_comm (y / 2 ^ k)];omega
     exact Int.le_of_mul_le_mul_right h2 (by omega)
   have hyk:∀ k:Nat,0<=y / 2 ^ k/\y / 2 ^ k<=1099511627776:=fun k=>⟨Int.ediv_nonneg hy.1 (by have:=LJ k;omega),by have:=Int.ediv_le_self (2 ^ k) hy.1;omega⟩
   rcases Decidable.em (0 < w) with hw0 | hw0
   case' inl=>
     have hc2:¬ 4398046511104 / w < y:=fun h=>hc ⟨hw0,h⟩
     have wn:¬ w=0:=by omega
     simp [p308,zn,t1,t2,hw,hrest,k1,k2,tm,hw0,hc2,wn]
   case' inr=>
     simp [p308,zn,t1,t2,hw,hrest,k1,hw0]
   all_goals
     refine BL (α:=Nat × Int × Int) 0 (fun p:Int × Int=>⟨AO [(1,vi y),(8,vi w),(10,vi p.1),(11,vi p.2)],lk [],0⟩) (fun p=>rest*y=p.1*z+p.2/\0<=p.1/\p.1<=1099511627776/\0<=p.2/\p.2 < z) (fun p=>⟨AO [(1,vi y),(2,vi z),(8,vi w),(9,vi rest),(10,vi p.2.1),(11,vi p.2.2),(12,vi (2 ^ p.1 / 2))],lk [],0⟩) (fun p=>p.1<=41/\rest*(y / 2 ^ p.1)=p.2.1*z+p.2.2/\0<=p.2.1/\0<=p.2.2/\p.2.2 < z) (fun p=>p.1) (41,0,0) ?_ ?_ ?_ fun p hp=>?_
     . have hp3:(2:Int) ^ 41=2199023255552:=by decide
       have e41:y / 2 ^ 41=0:=Int.ediv_eq_zero_of_lt hy.1 (by omega);simp only [e41];simp;omega
     . exact WK hE (lk [])
     . rintro ⟨k,q,r⟩ ⟨h1,h2,h3,h4,h5⟩
       simp only at h1 h2 h3 h4 h5;have b1:=hbq k q r 0 h2 h4;have b2:=hyk k;cases k with
       | zero=>
         have z0:(2:Int) ^ 0 / 2=0:=by decide
         simp [tJ];refine ⟨q,r,⟨by simpa using h2,h3,by omega,h4,h5⟩,?_⟩;exact WK hE (lk [])
       | succ k=>
         have hp:=LJ k;have hp':(0:Int) < 2 ^ k:=by omega
         have hs:=uA y k hy.1;have b3:=hyk k;have m0:=Int.emod_nonneg (y / 2 ^ k) (show (2:Int)≠0 by omega);have m1:=Int.emod_lt_of_pos (y / 2 ^ k) (show (0:Int) < 2 by omega);have td:y.tdiv (2 ^ k)=y / 2 ^ k:=Int.tdiv_eq_ediv_of_nonneg hy.1;have tm2:(y / 2 ^ k).tmod 2=y / 2 ^ k % 2:=Int.tmod_eq_emod_of_nonneg b3.1;have t2k:((2:Int) ^ k).tdiv 2=2 ^ k / 2:=Int.tdiv_eq_ediv_of_nonneg (by omega);have hp2:(2:Int) ^ k<=2 ^ 41:=um (by omega);have hp3:(2:Int) ^ 41=2199023255552:=by decide
         have u1:IntKind.wrap .i64 (2*q)=2*q:=AD (by omega) (by omega);have u2:IntKind.wrap .i64 (2*r)=2*r:=AD (by omega) (by omega);have u3:IntKind.wrap .i64 (2*r+rest)=2*r+rest:=AD (by omega) (by omega);have u4:IntKind.wrap .i64 (y / 2 ^ k)=y / 2 ^ k:=AD (by omega) (by omega);have u5:IntKind.wrap .i64 (y / 2 ^ k % 2)=y / 2 ^ k % 2:=AD (by omega) (by omega);have u6:IntKind.wrap .i64 (2 ^ k / 2)=2 ^ k / 2:=AD (by omega) (by omega);have hn:¬ (2:Int) ^ k=0:=by omega
         have e1:rest*(y / 2 ^ k)=2*(q*z+r)+rest*(y / 2 ^ k % 2):=by
           rw [<-h2,hs,Int.mul_add,Int.mul_left_comm];simp
         have hrs:y / 2 ^ k % 2=0\/y / 2 ^ k % 2=1:=by omega
         rcases hrs with hb1 | hb1<;>rw [hb1] at e1
         . have hb2:¬ y / 2 ^ k % 2=1:=by omega
           simp [tJ,AAR,hp',u1,u2,u4,td,tm2,hn,hb1];refine BL (α:=Int × Int) 2 (fun p:Int × Int=>⟨AO [(1,vi y),(2,vi z),(8,vi w),(9,vi rest),(10,vi p.1),(11,vi p.2),(12,vi (2 ^ k))],lk [],0⟩) (fun p=>rest*(y / 2 ^ k)=p.1*z+p.2/\0<=p.1/\0<=p.2/\p.2 < z) (fun p=>⟨AO [(1,vi y),(2,vi z),(8,vi w),(9,vi rest),(10,vi p.1),(11,vi p.2),(12,vi (2 ^ k))],lk [],0⟩) (fun p=>rest*(y / 2 ^ k)=p.1*z+p.2/\0<=p.1/\0<=p.2/\p.2<=4398046511104) (fun p=>p.2.toNat) (2*q,2*r) ?_ ?_ ?_ fun p hp=>?_
           . simp only
             refine ⟨?_,by omega,by omega,by omega⟩;rw [e1,Int.mul_assoc];omega
           . exact WK hE (lk [])
           . rintro ⟨q1,s1⟩ ⟨g1,g2,g3,g4⟩
             simp only at g1 g2 g3 g4;have b4:=hbq k q1 s1 0 g1 g3;by_cases hge:z<=s1
             . have v1:IntKind.wrap .i64 (s1 - z)=s1 - z:=AD (by omega) (by omega)
               have v2:IntKind.wrap .i64 (q1+1)=q1+1:=AD (by omega) (by omega);simp [sY,hge,v1,v2];refine ⟨q1+1,s1 - z,⟨?_,by omega,by omega,by omega⟩,by omega,?_⟩
               . rw [g1,Int.add_mul];omega
               . exact WK hE (lk [])
             . simp [sY,hge]
               refine ⟨q1,s1,⟨g1,g2,g3,by omega⟩,?_⟩;exact WK hE (lk [])
           . simp [t2k,u6]
             refine ⟨k,p.1,p.2,⟨by omega,hp.1,hp.2.1,hp.2.2.1,hp.2.2.2⟩,by omega,?_⟩;exact WK hE (lk [])
         . simp [tJ,AAR,hp',u1,u2,u3,u4,td,tm2,hn,hb1]
           refine BL (α:=Int × Int) 2 (fun p:Int × Int=>⟨AO [(1,vi y),(2,vi z),(8,vi w),(9,vi rest),(10,vi p.1),(11,vi p.2),(12,vi (2 ^ k))],lk [],0⟩) (fun p=>rest*(y / 2 ^ k)=p.1*z+p.2/\0<=p.1/\0<=p.2/\p.2 < z) (fun p=>⟨AO [(1,vi y),(2,vi z),(8,vi w),(9,vi rest),(10,vi p.1),(11,vi p.2),(12,vi (2 ^ k))],lk [],0⟩) (fun p=>rest*(y / 2 ^ k)=p.1*z+p.2/\0<=p.1/\0<=p.2/\p.2<=4398046511104) (fun p=>p.2.toNat) (2*q,2*r+rest) ?_ ?_ ?_ fun p hp=>?_
           . simp only
             refine ⟨?_,by omega,by omega,by omega⟩;rw [e1,Int.mul_assoc];omega
           . exact WK hE (lk [])
           . rintro ⟨q1,s1⟩ ⟨g1,g2,g3,g4⟩
             simp only at g1 g2 g3 g4;have b4:=hbq k q1 s1 0 g1 g3;by_cases hge:z<=s1
             . have v1:IntKind.wrap .i64 (s1 - z)=s1 - z:=AD (by omega) (by omega)
               have v2:IntKind.wrap .i64 (q1+1)=q1+1:=AD (by omega) (by omega);simp [sY,hge,v1,v2];refine ⟨q1+1,s1 - z,⟨?_,by omega,by omega,by omega⟩,by omega,?_⟩
               . rw [g1,Int.add_mul];omega
               . exact WK hE (lk [])
             . simp [sY,hge]
               refine ⟨q1,s1,⟨g1,g2,g3,by omega⟩,?_⟩;exact WK hE (lk [])
           . simp [t2k,u6]
             refine ⟨k,p.1,p.2,⟨by omega,hp.1,hp.2.1,hp.2.2.1,hp.2.2.2⟩,by omega,?_⟩;exact WK hE (lk [])
     . have hq:=hfin p.1 p.2 hp.1 hp.2.2.2.1 hp.2.2.2.2
       have hbw:IntKind.wrap .i64 (w*y)=w*y:=AD (by omega) (by omega);have hbq2:IntKind.wrap .i64 (w*y+p.1)=w*y+p.1:=AD (by omega) (by omega);simp [hbw,hbq2];apply RZ;simp [results308,Qg,hw,hc,hq.1,hq.2]
def ui (x y z:Int):Int × Int:=
 let q:=Qg (max x (-x)) (max y (-y)) z
 let u:=if q.2 then q.1 else q.1+1
 if (decide (x < 0)&&decide (0 < y))||(decide (0 < x)&&decide (y < 0)) then (-u, -q.1) else (q.1,u)
theorem tN (x y z:Int) (hx:0<=x) (hy:0<=y) (hz:1<=z):0<=(Qg x y z).1/\(Qg x y z).1<=4398046511104:=by
 unfold Qg;split
 . simp
 . have:=Int.ediv_nonneg (Int.mul_nonneg hx hy) (show 0<=z by omega)
   simp only;omega
theorem yR (x y z:Int) (hx: -1099511627776<=x/\x<=1099511627776) (hy: -1099511627776<=y/\y<=1099511627776) (hz:1<=z/\z<=1099511627776):Ct prog 278 [vi x,vi y,vi z] (.tup [vi (ui x y z).1,vi (ui x y z).2]) []:=by
 refine CB func278 c278 fun E hE=>?_
 simp [p278];refine CLa (yM x (by omega)) ?_;simp;refine CLa (yM y (by omega)) ?_;simp;refine AU.mk _ _ _ (zL (max x (-x)) (max y (-y)) z (by omega) (by omega) hz) (by first | (simp;done) | simp [Bk,CP]) (by simp) (by first | (left;simp;done) | (right;simp;done)) ?_;have b:=tN (max x (-x)) (max y (-y)) z (by omega) (by omega) hz.1
 generalize hq:Qg (max x (-x)) (max y (-y)) z=q at*
 obtain ⟨q1,q2⟩:=q;simp only at b;have w1:IntKind.wrap .i64 (q1+1)=q1+1:=AD (by omega) (by omega);have w2:IntKind.wrap .i64 (-(q1+1))= -(q1+1):=AD (by omega) (by omega);have w3:IntKind.wrap .i64 (-q1)= -q1:=AD (by omega) (by omega);cases q2<;>by_cases h1:x < 0<;>by_cases h2:0 < y<;>by_cases h3:0 < x<;>by_cases h4:y < 0<;>first | omega | skip
 all_goals
   simp [h1,h2,h3,h4,w1,w2,w3];apply RZ;simp [results278,ui,hq,h1,h2,h3,h4]
def S3 (a b c:Int × Int) (k:Nat):Int × Int:=ui (if k % 2=1 then a.2 else a.1) (if k / 2 % 2=1 then b.2 else b.1) (if k / 4=1 then c.2 else c.1)
def ru (a b c:Int × Int) (i:Nat):Int × Int:=(List.range i).foldl (fun s k=>Xa s (S3 a b c k)) (S3 a b c 0)
def rp (a b c:Int × Int):(Int × Int) × Int:=
 if okS a&&okS b&&okS c then (if c.1<=0 then ((0,0),12) else JH (ru a b c 8)) else ((0,0),10)
theorem wu {a b c:Int × Int} (ha:okS a=true) (hb:okS b=true) (hc:okS c=true) (h1:¬ c.1<=0) (k:Nat):Ct prog 278 [vi (if k % 2=1 then a.2 else a.1),vi (if k / 2 % 2=1 then b.2 else b.1),vi (if k / 4=1 then c.2 else c.1)] (.tup [vi (S3 a b c k).1,vi (S3 a b c k).2]) []:=by
 rw [CT] at ha hb hc;refine yR _ _ _ ?_ ?_ ?_<;>split<;>omega
theorem AAJ (a b c:Int × Int):Ct prog 249 [vsp a.1 a.2,vsp b.1 b.2,vsp c.1 c.2] (vse (rp a b c)) []:=by
 refine CB func249 c249 fun E hE=>?_
 simp [p249];refine CLa (rt a) ?_;by_cases ha:okS a=true
 . simp [ha]
   refine CLa (rt b) ?_;by_cases hb:okS b=true
   . simp [hb]
     refine CLa (rt c) ?_;by_cases hc:okS c=true
     . by_cases h1:c.1<=0
       . simp [hc,h1,AA]
         apply RZ;simp [results249,rp,ha,hb,hc,h1]
       . have ga:=CT.1 ha
         have gb:=CT.1 hb;have gc:=CT.1 hc;simp [hc,h1];refine CLa (yR a.1 b.1 c.1 (by omega) (by omega) (by omega)) ?_;simp;refine BL (α:=Nat) 0 (fun _:Unit=>⟨AO [(6, .lp 0 0),(8,vi (ru a b c 8).1),(9,vi (ru a b c 8).2)],lk [(0,[vi 0,vi 0])],1⟩) (fun _=>True) (fun i=>⟨AO [(3, .lp 1 0),(4, .lp 2 0),(5, .lp 3 0),(6, .lp 0 0),(8,vi (ru a b c i).1),(9,vi (ru a b c i).2),(10,vi i)],lk [(0,[vi 0,vi 0]),(1,[vi a.1,vi a.2]),(2,[vi b.1,vi b.2]),(3,[vi c.1,vi c.2])],4⟩) (fun i=>i<=8) (fun i=>8 - i) 0 ?_ ?_ ?_ fun _ _=>?_
         . simp
         . refine AI.mk hE (lk [(0,3145728),(1,0),(2,1048576),(3,2097152)]) _ _ _ ?_ ?_ ?_ ?_ ?_<;>simp [ru,S3]
         . intro i hi
           simp [wZ];by_cases hlt:i < 8
           . have hlt':(i:Int) < 8:=by omega
             have hz:IntKind.wrap .i64 ((i:Int)+1)=(i:Int)+1:=AD (by omega) (by omega);have t1:(i:Int).tmod 2=((i % 2:Nat):Int):=Int.tmod_eq_emod_of_nonneg (by omega);have t2:(i:Int).tdiv 2=((i / 2:Nat):Int):=Int.tdiv_eq_ediv_of_nonneg (by omega);have t3:((i / 2:Nat):Int).tmod 2=((i / 2 % 2:Nat):Int):=Int.tmod_eq_emod_of_nonneg (by omega);have t4:(i:Int).tdiv 4=((i / 4:Nat):Int):=Int.tdiv_eq_ediv_of_nonneg (by omega);have w1:IntKind.wrap .i64 ((i % 2:Nat):Int)=((i % 2:Nat):Int):=AD (by omega) (by omega);have w2:IntKind.wrap .i64 ((i / 2:Nat):Int)=((i / 2:Nat):Int):=AD (by omega) (by omega);have w3:IntKind.wrap .i64 ((i / 2 % 2:Nat):Int)=((i / 2 % 2:Nat):Int):=AD (by omega) (by omega);have w4:IntKind.wrap .i64 ((i / 4:Nat):Int)=((i / 4:Nat):Int):=AD (by omega) (by omega);have hacc:ru a b c (i+1)=Xa (ru a b c i) (S3 a b c i):=by simp [ru,List.range_succ]
             simp only [Int.natCast_ediv,Int.natCast_emod,Int.cast_ofNat_Int] at t1 t2 t3 t4 w1 w2 w3 w4;rcases Decidable.em (i % 2=1) with g1 | g1<;>rcases Decidable.em (i / 2 % 2=1) with g2 | g2<;>rcases Decidable.em (i / 4=1) with g3 | g3
             all_goals
               have k1:=congrArg (fun n:Nat=>(n:Int)) (show i % 2=i % 2 from rfl);have j1:((i:Int) % 2=1)=(i % 2=1):=by simp;omega
               have j2:((i:Int) / 2 % 2=1)=(i / 2 % 2=1):=by simp;omega
               have j3:((i:Int) / 4=1)=(i / 4=1):=by simp;omega
               clear k1;simp [hlt',t1,t2,t3,t4,w2,w4,j1,j2,j3,g1,g2,g3,Nat.testBit,inC];have q:=wu ha hb hc h1 i;simp [g1,g2,g3] at q;refine CLa q ?_;simp [hz];refine ⟨i+1,by omega,by omega,?_⟩;refine AI.mk hE (lk [(0,0),(1,1),(2,2),(3,3)]) _ _ _ ?_ ?_ ?_ ?_ ?_<;>simp [hacc,Xa]
           . have:i=8:=by omega
             subst this;simp;exact WK hE (lk [(0,0)])
         . simp
           refine CLa (AAQ (ru a b c 8)) ?_;simp [AA];apply RZ;simp [results249,rp,ha,hb,hc,h1]
     . simp [hc,AA]
       apply RZ;simp [results249,rp,ha,hb,hc]
   . simp [hb,AA]
     apply RZ;simp [results249,rp,ha,hb]
 . simp [ha,AA]
   apply RZ;simp [results249,rp,ha]
def vd (s:Int × Int):Prop:=s.1<= -2199023255552\/2199023255552<=s.2
theorem ve (x y z:Int) (hz:1<=z):ui x y z=Eg x y z\/(vd (ui x y z)/\vd (Eg x y z)):=by
 obtain ⟨X,hX⟩:∃ X,max x (-x)=X:=⟨_,rfl⟩
 obtain ⟨Y,hY⟩:∃ Y,max y (-y)=Y:=⟨_,rfl⟩
 have X0:0<=X:=by omega
 have Y0:0<=Y:=by omega
 have XY:0<=X*Y:=Int.mul_nonneg X0 Y0
 have c0:x=0\/y=0->X*Y=0:=by
   rintro (h | h)
   . have:X=0:=by omega
     rw [this];simp
   . have:Y=0:=by omega
     rw [this];simp
 have q0:0<=X*Y / z:=Int.ediv_nonneg XY (by omega);have m0:0<=X*Y % z:=Int.emod_nonneg _ (by omega);unfold ui Eg;rw [hX,hY];by_cases hP:X*Y / z < 2199023255552
 . have hc:¬ (0 < X / z/\4398046511104 / (X / z) < Y):=by
     rintro ⟨h1,h2⟩
     have h3:=(Int.ediv_lt_iff_lt_mul h1).1 h2
     have h4:X / z*Y<=X*Y / z:=by
       rw [Int.le_ediv_iff_mul_le (by omega),Int.mul_right_comm];exact Int.mul_le_mul_of_nonneg_right (Int.ediv_mul_le _ (by omega)) Y0
     rw [Int.mul_comm Y] at h3;omega
   have e1:Qg X Y z=(X*Y / z,decide (X*Y % z=0)):=by
     unfold Qg;rw [if_neg hc,Int.min_eq_left (by omega)]
   have e2:Da (X*Y) z=(X*Y / z,X*Y % z):=if_pos hP;left;rw [e1,e2];simp only [upS]
   have e3:(if decide (X*Y % z=0)=true then X*Y / z else X*Y / z+1)=(if 0 < X*Y % z then X*Y / z+1 else X*Y / z):=by
     by_cases h:X*Y % z=0
     . rw [if_pos (by simpa using h),if_neg (by omega)]
     . rw [if_neg (by simpa using h),if_pos (by omega)]
   rw [e3];by_cases hz0:x=0\/y=0
   . have:=c0 hz0
     rw [this];simp
   . by_cases hx:x < 0<;>by_cases hy:y < 0<;>simp [hx,hy,show ¬ (0 < x)↔x < 0 by omega]<;>intros<;>omega
 . have e2:Da (X*Y) z=(2199023255552,0):=if_neg hP
   have b:2199023255552<=(Qg X Y z).1:=by
     unfold Qg;split
     . simp
     . simp only;omega
   right;rw [e2]
   generalize Qg X Y z=q at b
   simp only [upS,vd];refine ⟨?_,?_⟩
   . split
     . left;split<;>simp only<;>omega
     . right;split<;>simp only<;>omega
   . split
     . left;simp
     . right;simp
theorem vf (l:List (Int × Int)):∀ s:Int × Int,(Bu s l).1<=s.1/\s.2<=(Bu s l).2/\∀ x∈l,(Bu s l).1<=x.1/\x.2<=(Bu s l).2:=by
 induction l with
 | nil=>intro s;simp [Bu]
 | cons a l ih=>
   intro s;have h:=ih (Xa s a);simp only [Bu,List.foldl_cons] at h ⊢;simp only [Xa] at h ⊢;refine ⟨by omega,by omega,fun x hx=>?_⟩;rcases List.mem_cons.1 hx with rfl | hx
   . omega
   . exact h.2.2 x hx
theorem sn {s:Int × Int} {l:List (Int × Int)} (h:∃ x∈s::l,vd x):JH (Bu s l)=((0,0),11):=by
 obtain ⟨x,hx,hf⟩:=h;have b:=vf l s
 have:(Bu s l).1<=x.1/\x.2<=(Bu s l).2:=by
   rcases List.mem_cons.1 hx with rfl | hx
   . exact ⟨b.1,b.2.1⟩
   . exact b.2.2 x hx
 unfold JH;rw [if_pos];rcases hf with h | h<;>omega
theorem xj (a b c:Int × Int):ru a b c 8=Bu (S3 a b c 0) [S3 a b c 1,S3 a b c 2,S3 a b c 3,S3 a b c 4,S3 a b c 5,S3 a b c 6,S3 a b c 7]:=by
 have e:Xa (S3 a b c 0) (S3 a b c 0)=S3 a b c 0:=by
   unfold Xa;simp
 simp [ru,Bu,List.range_succ,e]
theorem wt (a b c:Int × Int):rp a b c=Ja a b c:=by
 unfold rp Ja;by_cases h:(okS a&&okS b&&okS c)=true
 . rw [if_pos h,if_pos h]
   have h':=h;simp only [Bool.and_eq_true] at h';have gc:=CT.1 h'.2;by_cases h1:c.1 < 1
   . rw [if_pos h1,if_pos (by omega)]
   . rw [if_neg h1,if_neg (by omega),xj]
     have key:∀ k,S3 a b c k=HO a b c k\/(vd (S3 a b c k)/\vd (HO a b c k)):=fun k=>ve _ _ _ (by split<;>omega)
     by_cases hall:∀ k < 8,S3 a b c k=HO a b c k
     . simp only [Lx,hall 0 (by omega),hall 1 (by omega),hall 2 (by omega),hall 3 (by omega),hall 4 (by omega),hall 5 (by omega),hall 6 (by omega),hall 7 (by omega)]
     . simp only [Classical.not_forall] at hall
       obtain ⟨k,hk,hne⟩:=hall;have hf:=(key k).resolve_left hne;rw [sn,sn]
       . refine ⟨_,?_,hf.2⟩
         have:k=0\/k=1\/k=2\/k=3\/k=4\/k=5\/k=6\/k=7:=by omega
         rcases this with rfl | rfl | rfl | rfl | rfl | rfl | rfl | rfl<;>simp [Lx]
       . refine ⟨_,?_,hf.1⟩
         have:k=0\/k=1\/k=2\/k=3\/k=4\/k=5\/k=6\/k=7:=by omega
         rcases this with rfl | rfl | rfl | rfl | rfl | rfl | rfl | rfl<;>simp
 . rw [if_neg h,if_neg h]
theorem Ze {α:Type} {p:α->Bool}:∀ {l:List α} {i:Nat} {x:α},i < (l.takeWhile p).length->l[i]?= some x->p x=true
 | [],i,x,h,_=>by simp at h
 | a::r,i,x,h,hx=>by
   rw [List.takeWhile_cons] at h;by_cases ha:p a=true
   . rw [if_pos ha] at h
     cases i with
     | zero=>simp at hx;subst hx;exact ha
     | succ i=>exact Ze (l:=r) (by simpa using h) (by simpa using hx)
   . rw [if_neg ha] at h;simp at h
theorem Zf {α:Type} {p:α->Bool}:∀ {l:List α} {i:Nat} {x:α},(∀ (j k:Nat) (x y:α),j<=k->l[j]?= some x->l[k]?= some y->p y=true->p x=true)->(l.takeWhile p).length<=i->l[i]?= some x->p x=false
 | [],i,x,_,_,hx=>by simp at hx
 | a::r,i,x,hm,h,hx=>by
   rw [List.takeWhile_cons] at h;by_cases ha:p a=true
   . rw [if_pos ha] at h
     cases i with
     | zero=>simp at h
     | succ i=>exact Zf (l:=r) (fun j k x y hjk h1 h2=>hm (j+1) (k+1) x y (by omega) (by simpa using h1) (by simpa using h2)) (by simpa using h) (by simpa using hx)
   . cases hp:p x with
     | false=>rfl
     | true=>exact absurd (hm 0 i a x (by omega) (by simp) hx hp) ha
theorem RE {w:List Gal} (hw:OkW w) {i j:Nat} {x y:Gal} (h:i<=j) (hx:w[i]?= some x) (hy:w[j]?= some y):x.h<=y.h:=sC hw (j - i) i x y hx (by rw [show i+(j - i)=j by omega];exact hy)
theorem Zg {w:List Gal} {lo:Int} {i:Nat} {x:Gal} (h:i < Qq w lo) (hx:w[i]?= some x):x.h < lo:=by
 have:=Ze h hx;simpa using this
theorem ft {w:List Gal} (hw:OkW w) {lo:Int} {i:Nat} {x:Gal} (h:Qq w lo<=i) (hx:w[i]?= some x):lo<=x.h:=by
 have:=Zf (fun j k x y hjk h1 h2 h3=>by have:=RE hw hjk h1 h2;simp at h3 ⊢;omega) h hx;simp at this;omega
theorem pd {w:List Gal} {hi:Int} {i:Nat} {x:Gal} (h:i < upN w hi) (hx:w[i]?= some x):x.h<=hi:=by
 have:=Ze h hx;simpa using this
theorem Zh {w:List Gal} (hw:OkW w) {hi:Int} {i:Nat} {x:Gal} (h:upN w hi<=i) (hx:w[i]?= some x):hi < x.h:=by
 have:=Zf (fun j k x y hjk h1 h2 h3=>by have:=RE hw hjk h1 h2;simp at h3 ⊢;omega) h hx;simp at this;omega
theorem JG {α:Type} {p:α->Bool} {l:List α}:(l.takeWhile p).length<=l.length:=(List.takeWhile_sublist p).length_le
theorem pf (l:List Gal) (lo hi:Int) (i:Nat) (x:Gal) (hx:l[i]?= some x):Ct prog 106 [vi i, .d (.ref [C2 l]), .d (.ref [di lo,di hi])] (vb (decide (lo<=x.h))) []:=by
 have hil:i < l.length:=(List.getElem?_eq_some_iff.1 hx).1;refine CB func106 c106 fun E hE=>?_
 simp [p106,hx];apply RZ;simp [results106]
theorem pg (l:List Gal) (lo hi:Int) (i:Nat) (x:Gal) (hx:l[i]?= some x):Ct prog 107 [vi i, .d (.ref [C2 l]), .d (.ref [di lo,di hi])] (vb (decide (hi < x.h))) []:=by
 have hil:i < l.length:=(List.getElem?_eq_some_iff.1 hx).1;refine CB func107 c107 fun E hE=>?_
 simp [p107,hx];apply RZ;simp [results107]
theorem jA (a b g:Int) (h: -1000000<=a/\a<=1000000/\ -1000000<=b/\b<=1000000/\0<=g/\g<=1000000):Ct prog 108 [vsp a b, .d (.ref [di g])] (vsp (a - g) (b+g)) []:=by
 have w1:IntKind.wrap .i64 (a - g)=a - g:=AD (by omega) (by omega);have w2:IntKind.wrap .i64 (b+g)=b+g:=AD (by omega) (by omega);refine CB func108 c108 fun E hE=>?_
 simp [p108,w1,w2,AA];apply RZ;simp [results108]
abbrev wdV (x:Gal):V:= .agg [vi x.xl,vi x.xh,vi x.yl,vi x.yh]
theorem pi (x:Gal):Ct prog 110 [wdV x] (vsp (HG x).1 (HG x).2) []:=by
 refine CB func110 c110 fun E hE=>?_
 simp [p110,AA];apply RZ;simp [results110,HG]
theorem pj (x:Gal):Ct prog 111 [wdV x] (vsp (EY x).1 (EY x).2) []:=by
 refine CB func111 c111 fun E hE=>?_
 simp [p111,AA];apply RZ;simp [results111,EY]
theorem jB (z:Int) (a b:Kn):Ct prog 176 [vi z, .d (.ref (knL a)), .d (.ref (knL b))] (vi (min (max z a.1) b.1)) []:=by
 refine CB func176 c176 fun E hE=>?_
 simp [p176];apply RZ;simp [results176]
def K6 (pk:Gal->Int × Int) (l:List Gal) (i:Nat):List Kn:=(l.take i).map fun x=>(x.h,pk x)
theorem Vl {pk:Gal->Int × Int} {l:List Gal} {i:Nat} {x:Gal} (h:l[i]?= some x):K6 pk l (i+1)=K6 pk l i++[(x.h,pk x)]:=by
 unfold K6;rw [List.take_add_one,h];simp
abbrev wd4 (a b c d:Int):V:= .agg [vi a,vi b,vi c,vi d]
structure WdB (xl xh yl yh:Int):Prop where
 x: -1000<=xl/\xl<=xh/\xh<=1000
 y: -1000<=yl/\yl<=yh/\yh<=1000
theorem tM {H:Hp} {id:Nat} {a b c d:Int} (h:H id=some [vi a,vi b,vi c,vi d]):Bor H (.ls id 0 4 1) (.d (Ch [a,b,c,d])):=by
 rw [Bk];exact ⟨rfl,rfl,by simp,_,h,rfl⟩
theorem qs (xl xh yl yh:Int) (h:WdB xl xh yl yh):Ct prog 117 [wd4 xl xh yl yh] (vi 0) []:=by
 have h1:=h.x;have h2:=h.y;have c1:=OM (xl,xh);have c2:=OM (yl,yh);have c3:=Iu (-2000) 2000 [xl,xh,yl,yh] (by simp);rw [CT.2 (by simp only;omega)] at c1 c2;rw [show rgB (-2000) 2000 [xl,xh,yl,yh]=true by simp [rgB];omega] at c3;have z1:IntKind.wrap .i64 1=1:=by decide
 have z2:IntKind.wrap .i64 2=2:=by decide
 refine CB func117 c117 fun E hE=>?_
 simp [p117,AA];refine Al (α:=Nat) (fun k=>⟨AO [(1, .lp 0 0),(2,vi 0),(10,wd4 xl xh yl yh),(11,vi k)],lk [(0,[vi xl,vi xh,vi yl,vi yh])],1⟩) (fun k=>k<=2) (fun k=>2 - k) 0 ?_ ?_ ?_
 . omega
 . exact WK hE (lk [(0,0)])
 . intro k hk
   match k,hk with
   | 2,_=>
     simp [NZ,AA,AM];refine CLb (c3) (by simp [tM]) ?_;simp;apply RZ;simp [results117]
   | n+3,h=>omega
   | 0,_=>
     simp [NZ,AA];refine CLa c1 ?_;simp [z1];refine ⟨1,by omega,by omega,?_⟩;exact WK hE (lk [(0,0)])
   | 1,_=>
     simp [NZ,AA];refine CLa c2 ?_;simp [z2];refine ⟨2,by omega,by omega,?_⟩;exact WK hE (lk [(0,0)])
theorem Tu {a b:Int} (h: -1000<=a/\a<=b/\b<=1000):(0<=sqN a b/\sqN a b<=1000000)/\(0<=sqF a b/\sqF a b<=1000000)/\sqN a b<=sqF a b:=by
 unfold sqN sqF;have m1:0<=max (max 0 a) (-b):=by omega
 have m2:max (max 0 a) (-b)<=max (-a) b:=by omega
 have m3:max (-a) b<=1000:=by omega
 generalize max (max 0 a) (-b)=x at*
 generalize max (-a) b=y at*
 have e1:0<=x*x:=Int.mul_nonneg m1 m1;have e2:x*x<=y*y:=Int.mul_le_mul m2 m2 m1 (by omega);have e3:y*y<=1000*1000:=Int.mul_le_mul m3 m3 (by omega) (by omega);omega
theorem mJ {xl xh yl yh:Int} (h:WdB xl xh yl yh):(Nz xl xh yl yh).2=0:=by
 have q1:=Tu h.x;have q2:=Tu h.y;unfold Nz LB;rw [if_pos (CT.2 (by simp only;omega)),if_neg (by simp only;omega)]
def WN (xl xh yl yh:Int) (k:Nat):Int × Int:=if k=0 then (0,0) else if k=1 then (sqN xl xh,sqF xl xh) else (sqN xl xh+sqN yl yh,sqF xl xh+sqF yl yh)
theorem fn55 (xl xh yl yh:Int) (h:WdB xl xh yl yh):Ct prog 55 [wd4 xl xh yl yh] (.tup [vsp (Nz xl xh yl yh).1.1 (Nz xl xh yl yh).1.2,vi 0]) []:=by
 have h1:=h.x;have h2:=h.y;have c1:=qs xl xh yl yh h;have c2:=qG (sqN xl xh+sqN yl yh,sqF xl xh+sqF yl yh)
 have c2':Ct prog 118 [vsp (sqN xl xh+sqN yl yh) (sqF xl xh+sqF yl yh)] (.tup [vsp (Nz xl xh yl yh).1.1 (Nz xl xh yl yh).1.2,vi 0]) []:=by
   have e:=mJ h;unfold vse at c2;unfold Nz at e ⊢;rw [e] at c2;exact c2
 have q1:=Tu h1;have q2:=Tu h2;have z1:IntKind.wrap .i64 1=1:=by decide
 have z2:IntKind.wrap .i64 2=2:=by decide
 have w1:IntKind.wrap .i64 (-xl)= -xl:=AD (by omega) (by omega);have w2:IntKind.wrap .i64 (-xh)= -xh:=AD (by omega) (by omega);have w3:IntKind.wrap .i64 (-yl)= -yl:=AD (by omega) (by omega);have w4:IntKind.wrap .i64 (-yh)= -yh:=AD (by omega) (by omega);have w5:IntKind.wrap .i64 (max 0 (max xl (-xh))*max 0 (max xl (-xh)))=sqN xl xh:=by rw [show max 0 (max xl (-xh))=max (max 0 xl) (-xh) by omega];exact AD (by unfold sqN at q1;omega) (by unfold sqN at q1;omega)
 have w6:IntKind.wrap .i64 (max (-xl) xh*max (-xl) xh)=sqF xl xh:=AD (by unfold sqF at q1;omega) (by unfold sqF at q1;omega);have w7:IntKind.wrap .i64 (max 0 (max yl (-yh))*max 0 (max yl (-yh)))=sqN yl yh:=by rw [show max 0 (max yl (-yh))=max (max 0 yl) (-yh) by omega];exact AD (by unfold sqN at q2;omega) (by unfold sqN at q2;omega)
 have w8:IntKind.wrap .i64 (max (-yl) yh*max (-yl) yh)=sqF yl yh:=AD (by unfold sqF at q2;omega) (by unfold sqF at q2;omega);have w9:IntKind.wrap .i64 (sqN xl xh)=sqN xl xh:=AD (by omega) (by omega);have w10:IntKind.wrap .i64 (sqF xl xh)=sqF xl xh:=AD (by omega) (by omega);have w11:IntKind.wrap .i64 (sqN xl xh+sqN yl yh)=sqN xl xh+sqN yl yh:=AD (by omega) (by omega);have w12:IntKind.wrap .i64 (sqF xl xh+sqF yl yh)=sqF xl xh+sqF yl yh:=AD (by omega) (by omega);refine CB func55 c55 fun E hE=>?_
 simp [p55];refine CLa c1 ?_;simp [AA];refine Al (α:=Nat) (fun k=>⟨AO [(1, .lp 0 0),(2, .lp 1 0),(5, .lp 2 0),(20,wd4 xl xh yl yh),(21,vi k)],lk [(0,[vi xl,vi xh,vi yl,vi yh]),(1,[vi 0,vi 0]),(2,[vi (WN xl xh yl yh k).1,vi (WN xl xh yl yh k).2])],3⟩) (fun k=>k<=2) (fun k=>2 - k) 0 ?_ ?_ ?_
 . omega
 . refine AI.mk hE (lk [(0,0),(1,1048576),(2,8388608)]) _ _ _ ?_ ?_ ?_ ?_ ?_<;>simp [WN]
 . intro k hk
   match k,hk with
   | 2,_=>
     simp [Ti,WN];refine CLa c2' ?_;simp [AA];apply RZ;simp [results55]
   | n+3,h=>omega
   | 0,_=>
     simp [Ti,AA,WN,w1,w2,w5,w6,w9,w10,z1];refine ⟨1,by omega,by omega,?_⟩;exact WK hE (lk [(0,0),(1,1),(2,2)])
   | 1,_=>
     simp [Ti,AA,WN,w3,w4,w7,w8,w11,w12,z2];refine ⟨2,by omega,by omega,?_⟩;exact WK hE (lk [(0,0),(1,1),(2,2)])
theorem AAH (xl xh yl yh:Int) (h:WdB xl xh yl yh):Ct prog 280 [wd4 xl xh yl yh] (vi 0) []:=by
 have h1:=h.x;have h2:=h.y;have c1:=rt (xl,xh);have c2:=rt (yl,yh);have c3:=se xl xh (-2000) 2000;have c4:=se yl yh (-2000) 2000;rw [CT.2 (by simp only;omega)] at c1 c2;rw [CC.2 (by omega)] at c3 c4;refine CB func280 c280 fun E hE=>?_
 simp [p280]
 repeat ((first | (refine CLt c1 ?_ ?_;focus (simp;done)) | (refine CLt c2 ?_ ?_;focus (simp;done)) | (refine CLt c3 ?_ ?_;focus (simp;done)) | (refine CLt c4 ?_ ?_;focus (simp;done)));simp)
 apply RZ;simp [results280]
theorem yQ (a b:Int) (h: -1000<=a/\a<=b/\b<=1000):Ct prog 281 [vsp a b] (.tup [vi (sqN a b),vi (sqF a b)]) []:=by
 have q1:=Tu h;have w1:IntKind.wrap .i64 (-a)= -a:=AD (by omega) (by omega);have w2:IntKind.wrap .i64 (-b)= -b:=AD (by omega) (by omega);have m2:max b (-a)=max (-a) b:=by omega
 have w5:IntKind.wrap .i64 (max a (max (-b) 0)*max a (max (-b) 0))=sqN a b:=by rw [show max a (max (-b) 0)=max (max 0 a) (-b) by omega];exact AD (by unfold sqN at q1;omega) (by unfold sqN at q1;omega)
 have w6:IntKind.wrap .i64 (max (-a) b*max (-a) b)=sqF a b:=AD (by unfold sqF at q1;omega) (by unfold sqF at q1;omega);refine CB func281 c281 fun E hE=>?_
 simp [p281,w1,w2,m2,w5,w6];apply RZ;simp [results281]
theorem AAI (xl xh yl yh:Int) (h:WdB xl xh yl yh):Ct prog 251 [wd4 xl xh yl yh] (.tup [vsp (Nz xl xh yl yh).1.1 (Nz xl xh yl yh).1.2,vi 0]) []:=by
 have h1:=h.x;have h2:=h.y;have c1:=AAH xl xh yl yh h;have c2:=yQ xl xh h1;have c3:=yQ yl yh h2;have c4:=zF (sqN xl xh+sqN yl yh,sqF xl xh+sqF yl yh)
 have c4':Ct prog 282 [vsp (sqN xl xh+sqN yl yh) (sqF xl xh+sqF yl yh)] (.tup [vsp (Nz xl xh yl yh).1.1 (Nz xl xh yl yh).1.2,vi 0]) []:=by
   have e:=mJ h;unfold vse at c4;unfold Nz at e ⊢;rw [e] at c4;exact c4
 have q1:=Tu h1;have q2:=Tu h2;have w11:IntKind.wrap .i64 (sqN xl xh+sqN yl yh)=sqN xl xh+sqN yl yh:=AD (by omega) (by omega);have w12:IntKind.wrap .i64 (sqF xl xh+sqF yl yh)=sqF xl xh+sqF yl yh:=AD (by omega) (by omega);refine CB func251 c251 fun E hE=>?_
 simp [p251];refine CLa c1 ?_;simp;refine CLa c2 ?_;simp;refine CLa c3 ?_;simp [AA,w11,w12];refine CLa c4' ?_;simp [AA];apply RZ;simp [results251]
theorem jU (l:List Gal) (h:Int × Int) (g:FuncId) (pk:Gal->Int × Int) (hg:∀ x∈l,Ct prog g [wdV x] (vsp (pk x).1 (pk x).2) []) (hw:OkW l) (hp:PkB l pk):Ct prog 109 [.d (C2 l),vsp h.1 h.2, .d (.fn g [])] (vsp (Fg pk l h).1 (Fg pk l h).2) []:=by
 have hl:=hw.len;obtain ⟨fa,hfa⟩:∃ x,l[0]?= some x:=⟨_,List.getElem?_eq_getElem (by omega)⟩
 obtain ⟨la,hla⟩:∃ x,l[l.length - 1]?= some x:=⟨_,List.getElem?_eq_getElem (by omega)⟩
 have kfa:(Dd pk l)[0]?= some (fa.h,pk fa):=by rw [EG,hfa];rfl
 have kla:(Dd pk l)[l.length - 1]?= some (la.h,pk la):=by rw [EG,hla];rfl
 have kln:=IH (pk:=pk) (w:=l);refine CB func109 c109 fun E hE=>?_
 simp [p109];refine Al (α:=Nat) (fun i=>⟨AO [(0, .d (C2 l)),(2, .d (.fn g [])),(4, .lp 0 0),(6, .lp 1 0),(7,hdF 3 (K6 pk l i) 2),(15, .d (C2 l)),(16,vi l.length),(17,vi i)],lk ([(0,[vi h.1,vi h.2]),(1,[vi 0,vi 0])]++ouF knL (K6 pk l i) 2),3⟩) (fun i=>i<=l.length) (fun i=>l.length - i) 0 ?_ ?_ ?_
 . omega
 . rw [show K6 pk l 0=[] from rfl,Aq,Au]
   exact WK hE (lk [(0,0),(1,1048576)])
 . intro i hi
   by_cases hil:i < l.length
   . obtain ⟨x,hx⟩:=gE hil
     have hz:=@wz i (by omega);have hI:(i:Int) < l.length:=by omega
     have hnx:=Vl (pk:=pk) hx;have hO:(K6 pk l i).length<=1000000:=by unfold K6;simp;omega
     have cg:=hg x (List.mem_of_getElem? hx);obtain ⟨O,hOe⟩:∃ O,K6 pk l i=O:=⟨_,rfl⟩
     rw [hOe] at hnx hO ⊢;by_cases hne:O=[]
     . subst hne
       rw [Aq,Au];simp [NY,hI,hx,AA,inC,Nat.testBit];refine CLa cg ?_;simp [AA,AM,hz];refine ⟨i+1,by omega,by omega,?_⟩;rw [hnx,Ak (by simp),AZ (by simp)];refine AI.mk hE (lk [(0,0),(1,1),(2,14680067)]) _ _ _ ?_ ?_ ?_ ?_ ?_<;>simp [AH]
     . have hsl:=Aw hfk O
       have hwh:=E9 hfk O;have n1:(O.length+1)*24<=140737488355328:=by omega
       have n2:O.length+1<=9223372036854775807:=by omega
       rw [Ak hne,AZ hne];simp [NY,hI,hx,AA,inC,Nat.testBit];refine CLa cg ?_;simp [AA,AM,hz,hsl,hwh,n1,n2];refine ⟨i+1,by omega,by omega,?_⟩;rw [hnx,Ak (by simp),AZ (by simp),IV];exact WK hE (lk [(0,0),(1,1),(2,14680067)])
   . have e:i=l.length:=by omega
     have hn:¬ (i:Int) < l.length:=by omega
     have ek:K6 pk l i=Dd pk l:=by unfold K6 Dd;rw [e,List.take_length]
     have ene:Dd pk l≠[]:=by intro h0;rw [h0] at kln;simp at kln;omega
     obtain ⟨K,hK⟩:∃ K,Dd pk l=K:=⟨_,rfl⟩
     rw [hK] at kfa kla kln ek ene;have hsl:=Aw hfk K;have w1:IntKind.wrap .i64 ((l.length:Int) - 1)=((l.length - 1:Nat):Int):=by rw [AD (by omega) (by omega)];omega
     have hI0:0 < l.length:=by omega
     have hI2:l.length - 1 < l.length:=by omega
     have hI1:((l.length - 1:Nat):Int) < l.length:=by omega
     have s0:(l.length - 1)*3+3<=l.length*3:=by omega
     have s1:3<=l.length*3:=by omega
     have t0:List.take 3 (AH knL K)=(knL (fa.h,pk fa)).map .d:=by
       have:=Bg hfk (j:=0) (k:=3) kfa (by omega);simpa using this
     have t1:List.take 3 (List.drop ((l.length - 1)*3) (AH knL K))=(knL (la.h,pk la)).map .d:=by
       have:=Bg hfk (j:=0) (k:=3) kla (by omega);simpa using this
     rw [ek,Ak ene,AZ ene,kln];simp [NY,hn];refine AL [(11,10485763),(12,11534339)] (by kernel_rfl) ?_;simp [AA,inC,Nat.testBit,kln,hsl,w1,hI0,hI1,s0,s1,t0,t1];by_cases h2:2<=l.length
     . have hlt:¬ fa.h=la.h:=by
         obtain ⟨y,hy⟩:∃ y,l[1]?= some y:=⟨_,List.getElem?_eq_getElem (by omega)⟩
         have:=hw.step 0 fa y hfa hy;have:=RE hw (by omega:1<=l.length - 1) hy hla;omega
       have c1:=jB h.1 (fa.h,pk fa) (la.h,pk la);have c2:=jB h.2 (fa.h,pk fa) (la.h,pk la);have e1:∀ z,min (max z fa.h) la.h=EA l z:=fun z=>by unfold EA;rw [hfa,hla]
       simp only [e1] at c1 c2;have c3:=jR K (EA l h.1,EA l h.2) (by omega)
       have e3:(Jy K (EA l h.1,EA l h.2)).1=Fg pk l h:=by
         rw [<-hK]
         match l,h2 with
         | a::b::r,_=>rfl
       unfold vse at c3;rw [e3] at c3
       have hb:∀ H:Hp,H 2=some (AH knL K)->Bor H (.ls 2 0 l.length 3) (.d (DA K)):=fun H hH=>by
         have:=B0 (H:=H) (id:=2) hfk (l:=K) hH;rw [kln] at this;exact this
       simp [hlt];refine AL [(15,34603011)] (by kernel_rfl) ?_;simp [inC,Nat.testBit];refine CLa c1 ?_;simp [inC,Nat.testBit];refine CLa c2 ?_;simp [AA,inC,Nat.testBit];refine CLb (c3) (by simp [hb,Hcl,inC,Nat.testBit]) ?_;simp [AA,inC,Nat.testBit];apply RZ;simp [results109]
     . have e1:l.length - 1=0:=by omega
       rw [e1,hfa] at hla;cases hla
       have e2:Fg pk l h=pk fa:=by
         obtain ⟨x,rfl⟩:∃ x,l=[x]:=List.length_eq_one_iff.1 (by omega);cases hfa;rfl
       simp [AA];apply RZ;simp [results109,e2]
def Nn (w:List Gal) (h:Int × Int):(Int × Int) × Int × Int:=if Lg w h=0 then (Jr w h,Js w h) else ((0,0),0,0)
abbrev AAO (r:(Int × Int) × Int × Int):V:= .agg [vi r.1.1,vi r.1.2,vi r.2.1,vi r.2.2]
theorem WS {l:List Gal} {i:Nat} {x:Gal} (h:l[i]?= some x):rS (l.take (i+1))=max (rS (l.take i)) x.g:=by
 unfold rS;rw [List.take_add_one,h];simp
theorem fn50 (l:List Gal) (h:Int × Int) (hl:l.length<=1000000):Ct prog 50 [.d (C2 l),vsp h.1 h.2] (.tup [AAO (Nn l h),vi (Lg l h)]) []:=by
 have c1:=oz l hl;have c2:=OM h;cases hw:Dr l
 . rw [hw] at c1
   have e1:Lg l h=22:=by unfold Lg;rw [hw];rfl
   have e2:Nn l h=((0,0),0,0):=by unfold Nn;rw [e1];rfl
   rw [e1,e2];refine CB func50 c50 fun E hE=>?_
   simp [p50];refine CLa c1 ?_;simp [AA];apply RZ;simp [results50]
 rw [hw] at c1;cases hs:okS h
 . rw [hs] at c2
   have e1:Lg l h=10:=by unfold Lg;rw [hw,hs];rfl
   have e2:Nn l h=((0,0),0,0):=by unfold Nn;rw [e1];rfl
   rw [e1,e2];refine CB func50 c50 fun E hE=>?_
   simp [p50];refine CLa c1 ?_;simp;refine CLa c2 ?_;simp [AA];apply RZ;simp [results50]
 rw [hs] at c2;have hW:=L0 hw;have hlen:=hW.len;have hh:=(CT.1 hs).1;have e1:Lg l h=0:=by unfold Lg;rw [hw,hs];rfl
 have e2:Nn l h=(Jr l h,Js l h):=by unfold Nn;rw [e1];rfl
 rw [e1,e2];have g1:=Yb hW h;have sx:=Mz hW (pk:=HG) (fun x hx=>hW.x x hx) hh;have sy:=Mz hW (pk:=EY) (fun x hx=>hW.y x hx) hh
 have c3:Ct prog 77 [vi l.length, .d (.fn 106 [.ref [C2 l], .ref [di h.1,di h.2]])] (vi (Qq l h.1)) []:=by
   refine kw l.length (Qq l h.1) _ _ (fun i=>(l[i]?.map fun k=>decide (h.1<=k.h)).getD false) (by omega) (fun i hi=>?_) JG (fun i hi=>?_) (fun i hi hi2=>?_)
   . obtain ⟨k,hk⟩:∃ k,l[i]?= some k:=⟨l[i],by simp [hi]⟩
     rw [hk];exact pf l h.1 h.2 i k hk
   . have hil:i < l.length:=Nat.lt_of_lt_of_le hi JG
     obtain ⟨k,hk⟩:∃ k,l[i]?= some k:=⟨l[i],by simp [hil]⟩
     have:=Zg hi hk;simp [hk];omega
   . obtain ⟨k,hk⟩:∃ k,l[i]?= some k:=⟨l[i],by simp [hi2]⟩
     have:=ft hW hi hk;simp [hk];omega
 have c4:Ct prog 77 [vi l.length, .d (.fn 107 [.ref [C2 l], .ref [di h.1,di h.2]])] (vi (upN l h.2)) []:=by
   refine kw l.length (upN l h.2) _ _ (fun i=>(l[i]?.map fun k=>decide (h.2 < k.h)).getD false) (by omega) (fun i hi=>?_) JG (fun i hi=>?_) (fun i hi hi2=>?_)
   . obtain ⟨k,hk⟩:∃ k,l[i]?= some k:=⟨l[i],by simp [hi]⟩
     rw [hk];exact pg l h.1 h.2 i k hk
   . have hil:i < l.length:=Nat.lt_of_lt_of_le hi JG
     obtain ⟨k,hk⟩:∃ k,l[i]?= some k:=⟨l[i],by simp [hil]⟩
     have:=pd hi hk;simp [hk];omega
   . obtain ⟨k,hk⟩:∃ k,l[i]?= some k:=⟨l[i],by simp [hi2]⟩
     have:=Zh hW hi hk;simp [hk];omega
 have b1:Qq l h.1<=l.length:=JG;have b2:upN l h.2<=l.length:=JG;obtain ⟨F,hF⟩:∃ F,Qq l h.1=F:=⟨_,rfl⟩
 obtain ⟨U,hU⟩:∃ U,upN l h.2=U:=⟨_,rfl⟩
 have hFU:F - 1<=min (U+1) l.length:=by
   by_cases hc:F - 1<=U+1
   . omega
   . exfalso
     obtain ⟨k,hk⟩:∃ k,l[U]?= some k:=⟨l[U],by simp [show U < l.length by omega]⟩
     have q1:=Zg (w:=l) (lo:=h.1) (i:=U) (by omega) hk;have q2:=Zh hW (hi:=h.2) (i:=U) (by omega) hk;omega
 have hG:rO l h=rS ((l.take (min (U+1) l.length)).drop (F - 1)):=by
   unfold rO;rw [hF,hU];congr 2;by_cases hc:U+1<=l.length
   . rw [Nat.min_eq_left hc]
   . rw [Nat.min_eq_right (by omega),List.take_of_length_le (by omega),List.take_length]
 rw [hF] at c3;rw [hU] at c4;have w1:IntKind.wrap .i64 ((F:Int) - 1)=(F:Int) - 1:=AD (by omega) (by omega);have w2:IntKind.wrap .i64 ((U:Int)+1)=(U:Int)+1:=AD (by omega) (by omega);have m1:max ((F:Int) - 1) 0=((F - 1:Nat):Int):=by omega
 have m2:min ((U:Int)+1) (l.length:Int)=((min (U+1) l.length:Nat):Int):=by omega
 obtain ⟨B,hB⟩:∃ B,min (U+1) l.length=B:=⟨_,rfl⟩
 obtain ⟨A,hA⟩:∃ A,F - 1=A:=⟨_,rfl⟩
 rw [hB] at m2 hFU hG;rw [hA] at m1 hFU hG;have hBl:B<=l.length:=by omega
 obtain ⟨W,hWd⟩:∃ W,(l.take B).drop A=W:=⟨_,rfl⟩
 have hWl:B - A=W.length:=by rw [<-hWd];simp;omega
 have hWm:List.drop A (List.take B (List.map galL l))=W.map galL:=by rw [<-hWd];simp [List.map_drop,List.map_take]
 have hWle:W.length<=16:=by omega
 have hWg:∀ x∈W,0<=x.g/\x.g<=500:=fun x hx=>hW.g x (by rw [<-hWd] at hx;exact List.mem_of_mem_take (List.mem_of_mem_drop hx))
 rw [hWd] at hG;have d1:=jU l h 110 HG (fun x _=>pi x) hW (fun x hx=>hW.x x hx);have d2:=jU l h 111 EY (fun x _=>pj x) hW (fun x hx=>hW.y x hx);have d3:=jA (Fg HG l h).1 (Fg HG l h).2 (rO l h) (by omega);have d4:=jA (Fg EY l h).1 (Fg EY l h).2 (rO l h) (by omega);refine CB func50 c50 fun E hE=>?_
 simp [p50];refine CLa c1 ?_;simp;refine CLa c2 ?_;simp;refine CLa c3 ?_;simp;refine CLa c4 ?_;simp [AA,w1,w2,m1,m2,hFU,hBl,hWm];refine Al (α:=Nat) (fun i=>⟨AO [(2, .lp 0 0),(3, .lp 1 0),(4, .lp 2 0),(10, .lp 3 0),(43, .d (C2 W)),(44,vi W.length),(45,vi i)],lk [(0,[.d (C2 l)]),(1,[vi h.1,vi h.2]),(2,[vi 0,vi 0,vi 0,vi 0]),(3,[vi (rS (W.take i))])],4⟩) (fun i=>i<=W.length) (fun i=>W.length - i) 0 ?_ ?_ ?_
 . omega
 . refine AI.mk hE (lk [(0,0),(1,1048576),(2,2097152),(3,25165824)]) _ _ _ ?_ ?_ ?_ ?_ ?_<;>simp [rS]
 . intro i hi
   by_cases hil:i < W.length
   . obtain ⟨x,hx⟩:=gE hil
     have hz:=@wz i (by omega);have hI:(i:Int) < W.length:=by omega
     have hnx:=WS hx;simp [bC,hI,hx,AA,hz];refine ⟨i+1,by omega,by omega,?_⟩;rw [hnx];exact WK hE (lk [(0,0),(1,1),(2,2),(3,3)])
   . have e:i=W.length:=by omega
     have hn:¬ (i:Int) < W.length:=by omega
     have eT:rS (W.take i)=rO l h:=by rw [hG,e,List.take_length]
     rw [eT];simp [bC,hn,inC,Nat.testBit];refine CLa d1 ?_;simp [inC,Nat.testBit];refine CLa d3 ?_;simp [inC,Nat.testBit];refine CLa d2 ?_;simp;refine CLa d4 ?_;simp [AA];apply RZ;simp [results50,Jr,Js]
theorem qg (l:List Cel) (g:FuncId) (ds:List D) (q:Cel->Bool) (hl:l.length<=1000000000) (hg:∀ p∈l,Ct prog g (Ky p::ds.map .d) (vb (q p)) []):Ct prog 241 [.d (AX l), .d (.fn g ds)] (vi (ixF q l)) []:=by
 refine CB func241 c241 fun E hE=>?_
 simp [p241];refine Al (α:=Nat) (fun i=>⟨AO [(0, .d (AX l)),(1, .d (.fn g ds)),(7,vi l.length),(8,vi i)],lk [],0⟩) (fun i=>i<=l.length/\∀ j,j < i->(l[j]?).all (fun p=>!q p)=true) (fun i=>l.length - i) 0 ?_ ?_ ?_
 . exact ⟨by omega,fun j hj=>by omega⟩
 . exact WK hE (lk [])
 . rintro i ⟨hi,hg3⟩
   have hg2:∀ (j:Nat) (p:Cel),j < i->l[j]?= some p->q p=false:=fun j p hj hp=>by
     have:=hg3 j hj;rw [hp] at this;simpa using this
   have hz:=@wz i (by omega);simp [bT];refine Bh (fun h=>?_) (fun h=>?_)
   . simp at h
     obtain ⟨p,hp⟩:=gE h;simp [hp];refine CLa (hg p (List.mem_of_getElem? hp)) ?_;cases hq:q p
     . simp [hz]
       refine ⟨i+1,⟨by omega,fun j hj=>?_⟩,by omega,?_⟩
       . by_cases e:j=i
         . subst e;rw [hp];simp [hq]
         . exact hg3 j (by omega)
       . exact WK hE (lk [])
     . have e:ixF q l=i:=IY hp hq fun j y hj hy=>hg2 j y hj hy
       simp;apply RZ;simp [results241,e]
   . simp at h
     have e:ixF q l= -1:=IX fun j x hx=>hg2 j x (by have:=(List.getElem?_eq_some_iff.1 hx).1;omega) hx
     simp;apply RZ;simp [results241,e]
theorem LH (a b c d:Int) (h:(-100000000000000<=a/\a<=100000000000000)/\(-100000000000000<=b/\b<=100000000000000)/\(-100000000000000<=c/\c<=100000000000000)/\ -100000000000000<=d/\d<=100000000000000):Ct prog 235 [vsp a b,vsp c d] (vsp (a+c) (b+d)) []:=by
 have w1:IntKind.wrap .i64 (a+c)=a+c:=AD (by omega) (by omega);have w2:IntKind.wrap .i64 (b+d)=b+d:=AD (by omega) (by omega);refine CB func235 c235 fun E hE=>?_
 simp [p235,AA,w1,w2];apply RZ;simp [results235]
theorem jM (a b:Int) (h:(-100000000000000<=a/\a<=100000000000000)/\ -100000000000000<=b/\b<=100000000000000):Ct prog 237 [vsp a b] (vsp (6*a) (6*b)) []:=by
 have w1:IntKind.wrap .i64 (6*a)=6*a:=AD (by omega) (by omega);have w2:IntKind.wrap .i64 (6*b)=6*b:=AD (by omega) (by omega);refine CB func237 c237 fun E hE=>?_
 simp [p237,AA,w1,w2];apply RZ;simp [results237]
theorem SJ (a b c d:Int):Ct prog 69 [.d (Ch [a,b,c,d])] (vi (if a=0 then (if b=0 then (if c=0 then d else c) else b) else a)) []:=by
 have ww1:IntKind.wrap .i64 1=1:=by decide
 have ww2:IntKind.wrap .i64 2=2:=by decide
 have ww3:IntKind.wrap .i64 3=3:=by decide
 have ww4:IntKind.wrap .i64 4=4:=by decide
 refine CB func69 c69 fun E hE=>?_
 simp [p69];refine Al (α:=Nat) (fun k=>⟨AO [(5, .d (Ch [a,b,c,d])),(6,vi 4),(7,vi k)],lk [],0⟩) (fun k=>k<=4/\(0 < k->a=0)/\(1 < k->b=0)/\(2 < k->c=0)/\(3 < k->d=0)) (fun k=>4 - k) 0 ?_ ?_ ?_
 . omega
 . exact WK hE (lk [])
 . rintro i ⟨hi,h1,h2,h3,h4⟩
   match i,hi,h1,h2,h3,h4 with
   | 0,_,_,_,_,_=>
     by_cases h:a=0
     . simp [D1,h,ww1]
       refine ⟨1,⟨by omega,by omega⟩,by omega,?_⟩;exact WK hE (lk [])
     . simp [D1,h]
       apply RZ;simp [results69]
   | 1,_,h1,_,_,_=>
     have h1:=h1 (by omega);by_cases h:b=0
     . simp [D1,h,ww2]
       refine ⟨2,?_,by omega,?_⟩
       . simp [h1]
       exact WK hE (lk [])
     . simp [D1,h]
       apply RZ;simp [results69,h1]
   | 2,_,h1,h2,_,_=>
     have h1:=h1 (by omega);have h2:=h2 (by omega);by_cases h:c=0
     . simp [D1,h,ww3]
       refine ⟨3,?_,by omega,?_⟩
       . simp [h1,h2]
       exact WK hE (lk [])
     . simp [D1,h]
       apply RZ;simp [results69,h1,h2]
   | 3,_,h1,h2,h3,_=>
     have h1:=h1 (by omega);have h2:=h2 (by omega);have h3:=h3 (by omega);by_cases h:d=0
     . simp [D1,h,ww4]
       refine ⟨4,?_,by omega,?_⟩
       . simp [h1,h2,h3]
       exact WK hE (lk [])
     . simp [D1,h]
       apply RZ;simp [results69,h1,h2,h3]
   | 4,_,h1,h2,h3,h4=>
     have h1:=h1 (by omega);have h2:=h2 (by omega);have h3:=h3 (by omega);have h4:=h4 (by omega);simp [D1];apply RZ;simp [results69,h1,h2,h3,h4]
   | i+5,hi,_,_,_,_=>omega
abbrev LI (k:Sky) (r:Rig):List D:=[BF k.s,C2 k.w,An r.reg,di r.gl,di r.gh,di r.tank,di r.rsv,di r.lo,di r.hi]
abbrev D2 (k:Sky) (r:Rig):V:= .d (.ref (LI k r))
theorem qh (hS:SortOk) (k:Sky) (r:Rig) (s h:Int × Int) (hr:r.reg.length<=1000000):Ct prog 245 [D2 k r,vsp s.1 s.2,vsp h.1 h.2] (vb (Il r.reg s h)) []:=by
 have c1:=fE hS r.reg (s.1,h.1) (by omega);have c2:=fE hS r.reg (s.1,h.2) (by omega);have c3:=fE hS r.reg (s.2,h.1) (by omega);have c4:=fE hS r.reg (s.2,h.2) (by omega);have z1:IntKind.wrap .i64 1=1:=by decide
 have z2:IntKind.wrap .i64 2=2:=by decide
 unfold Il
 generalize inV r.reg (s.1,h.1)=b1 at*
 generalize inV r.reg (s.1,h.2)=b2 at*
 generalize inV r.reg (s.2,h.1)=b3 at*
 generalize inV r.reg (s.2,h.2)=b4 at*
 generalize Yj r.reg=e at*
 simp only at c1 c2 c3 c4;refine CB func245 c245 fun E hE=>?_
 simp [p245,AA];refine Al (α:=Nat) (fun i=>⟨AO [(0,D2 k r),(4, .lp 0 0),(5, .lp 1 0),(17, .agg [vi s.1,vi s.2]),(18,vi i)],lk [(0,[vi s.1,vi s.2]),(1,[vi h.1,vi h.2])],2⟩) (fun i=>i<=2/\(0 < i->b1=true/\b2=true)/\(1 < i->b3=true/\b4=true)) (fun i=>2 - i) 0 ?_ ?_ ?_
 . omega
 . exact WK hE (lk [(0,0),(1,1048576)])
 . rintro i ⟨hi,h1,h2⟩
   match i,hi,h1,h2 with
   | 0,_,_,_=>
     simp [tF,AA];refine Al (α:=Nat) (fun j=>⟨AO [(0,D2 k r),(4, .lp 0 0),(5, .lp 1 0),(8,vi s.1),(17, .agg [vi s.1,vi s.2]),(18,vi 0),(25, .agg [vi h.1,vi h.2]),(26,vi j)],lk [(0,[vi s.1,vi s.2]),(1,[vi h.1,vi h.2])],2⟩) (fun j=>j<=2/\(0 < j->b1=true)/\(1 < j->b2=true)) (fun j=>2 - j) 0 ?_ ?_ ?_
     . omega
     . exact WK hE (lk [(0,0),(1,1)])
     . rintro j ⟨hj,g1,g2⟩
       match j,hj,g1,g2 with
       | 0,_,_,_=>
         simp [Hs,AA];refine CLa c1 ?_;cases b1
         . simp
           apply RZ;simp [results245]
         . simp [z1]
           refine ⟨1,by simp,by omega,?_⟩;exact WK hE (lk [(0,0),(1,1)])
       | 1,_,g1,_=>
         have g1:=g1 (by omega);subst g1;simp [Hs,AA];refine CLa c2 ?_;cases b2
         . simp
           apply RZ;simp [results245]
         . simp [z2]
           refine ⟨2,by simp,by omega,?_⟩;exact WK hE (lk [(0,0),(1,1)])
       | 2,_,g1,g2=>
         have g1:=g1 (by omega);have g2:=g2 (by omega);simp [Hs,z1];refine ⟨1,by simp [g1,g2],by omega,?_⟩;exact WK hE (lk [(0,0),(1,1)])
       | j+3,hj,_,_=>omega
   | 1,_,h1,_=>
     obtain ⟨h3,h4⟩:=h1 (by omega);subst h3 h4;simp [tF,AA];refine Al (α:=Nat) (fun j=>⟨AO [(0,D2 k r),(4, .lp 0 0),(5, .lp 1 0),(8,vi s.2),(17, .agg [vi s.1,vi s.2]),(18,vi 1),(25, .agg [vi h.1,vi h.2]),(26,vi j)],lk [(0,[vi s.1,vi s.2]),(1,[vi h.1,vi h.2])],2⟩) (fun j=>j<=2/\(0 < j->b3=true)/\(1 < j->b4=true)) (fun j=>2 - j) 0 ?_ ?_ ?_
     . omega
     . exact WK hE (lk [(0,0),(1,1)])
     . rintro j ⟨hj,g1,g2⟩
       match j,hj,g1,g2 with
       | 0,_,_,_=>
         simp [Hs,AA];refine CLa c3 ?_;cases b3
         . simp
           apply RZ;simp [results245]
         . simp [z1]
           refine ⟨1,by simp,by omega,?_⟩;exact WK hE (lk [(0,0),(1,1)])
       | 1,_,g1,_=>
         have g1:=g1 (by omega);subst g1;simp [Hs,AA];refine CLa c4 ?_;cases b4
         . simp
           apply RZ;simp [results245]
         . simp [z2]
           refine ⟨2,by simp,by omega,?_⟩;exact WK hE (lk [(0,0),(1,1)])
       | 2,_,g1,g2=>
         have g1:=g1 (by omega);have g2:=g2 (by omega);simp [Hs,z2];refine ⟨2,by simp [g1,g2],by omega,?_⟩;exact WK hE (lk [(0,0),(1,1)])
       | j+3,hj,_,_=>omega
   | 2,_,h1,h2=>
     obtain ⟨h3,h4⟩:=h1 (by omega);obtain ⟨h5,h6⟩:=h2 (by omega);simp [tF];apply RZ;simp [results245,h3,h4,h5,h6]
   | i+3,hi,_,_=>omega
abbrev e0 (k:Sky):Int:=if BV k then 0 else 50
abbrev e1 (r:Rig):Int:=if CF r then 0 else 51
def QG (k:Sky) (r:Rig) (a b:Int):Int:=if e0 k=0 then (if e1 r=0 then (if a=0 then b else a) else e1 r) else e0 k
theorem XK (hS:SortOk) (k:Sky) (r:Rig) (a b:Int) (h1:k.s.length<=1000000) (h2:k.w.length<=1000000) (h3:r.reg.length<=1000000) (he:¬ QG k r a b=0):Ct prog 98 [Eu k,Fj r, .d (Ch [a,b])] (.tup [.d (.lit (.pointer none)),vi (QG k r a b)]) []:=by
 have c1:=yy k h1 h2;have c2:=mH hS r (by omega);have c3:=SJ (e0 k) (e1 r) a b;obtain ⟨e,hee⟩:∃ e,QG k r a b=e:=⟨_,rfl⟩
 have c3':Ct prog 69 [.d (Ch [e0 k,e1 r,a,b])] (vi e) []:=by rw [<-hee];exact c3
 rw [hee] at he ⊢;have c1':Ct prog 32 [Eu k] (vi (e0 k)) []:=c1;have c2':Ct prog 34 [Fj r] (vi (e1 r)) []:=c2
 generalize e0 k=x0 at*
 generalize e1 r=x1 at*
 refine CB func98 c98 fun E hE=>?_
 simp [p98,inC,Nat.testBit];refine CLa c1' ?_;simp [inC,Nat.testBit];refine CLa c2' ?_;simp [AA,AM];refine CLb (c3') (by simp [tM]) ?_;simp [he];apply RZ;simp [results98]
theorem XL {k:Sky} {r:Rig} (hr:P5 r) {x y:Lev} (hx:k.s[0]?= some x) (hy:k.s[k.s.length - 1]?= some y):rgB x.h y.h [r.lo,r.hi]=Ey k r:=by
 have h:=hr.h;unfold Ey aj rgB;rw [hx,hy];simp;rw [Bool.eq_iff_iff];simp;omega
theorem Sr {k:Sky} (h:BV k=true):OkS k.s:=by
 unfold BV at h;simp only [Bool.and_eq_true,decide_eq_true_eq] at h;refine B8.1 ?_;have:=h.1;unfold D3 at this;by_cases h:GC k.s=true
 . exact h
 . rw [if_neg h] at this;simp at this
theorem XM (hS:SortOk) (k:Sky) (r:Rig) (h1:k.s.length<=1000000) (h2:k.w.length<=1000000) (h3:r.reg.length<=1000000) (hk:BV k=true) (hr:CF r=true) (hg:Ey k r=false):Ct prog 98 [Eu k,Fj r, .d (Ch [0,0])] (.tup [.d (.lit (.pointer none)),vi 2]) []:=by
 have c1:=yy k h1 h2;have c2:=mH hS r (by omega);have c3:=SJ 0 0 0 0;rw [hk] at c1;rw [hr] at c2;have hl:=(Sr hk).len;obtain ⟨x,hx⟩:∃ x,k.s[0]?= some x:=⟨_,List.getElem?_eq_getElem (by omega)⟩
 obtain ⟨y,hy⟩:∃ y,k.s[k.s.length - 1]?= some y:=⟨_,List.getElem?_eq_getElem (by omega)⟩
 have c4:=Pw x.h y.h [r.lo,r.hi] (by simp);rw [XL (Hy hr) hx hy,hg] at c4;have w1:IntKind.wrap .i64 ((k.s.length:Int) - 1)=((k.s.length - 1:Nat):Int):=by rw [AD (by omega) (by omega)];omega
 have hI0:(0:Int) < k.s.length:=by omega
 obtain ⟨j,hj⟩:∃ j,k.s.length - 1=j:=⟨_,rfl⟩
 rw [hj] at w1 hy;have hI1:(j:Int) < k.s.length:=by omega
 refine CB func98 c98 fun E hE=>?_
 simp [p98,inC,Nat.testBit];refine CLa c1 ?_;simp [inC,Nat.testBit];refine CLa c2 ?_;simp [AA,AM];refine CLb (c3) (by simp [tM]) ?_;simp [AA,AM,inC,Nat.testBit,hx,hy,w1];refine CLb (c4) (by simp [Ap]) ?_;simp;apply RZ;simp [results98]
theorem yG (a b c d:Int) (h:(-2000000000000<=a/\a<=2000000000000)/\(-2000000000000<=b/\b<=2000000000000)/\(-2000000000000<=c/\c<=2000000000000)/\ -2000000000000<=d/\d<=2000000000000):Ct prog 233 [vsp a b,vsp c d] (vsp (a+c) (b+d)) []:=by
 have w1:IntKind.wrap .i64 (a+c)=a+c:=AD (by omega) (by omega);have w2:IntKind.wrap .i64 (b+d)=b+d:=AD (by omega) (by omega);refine CB func233 c233 fun E hE=>?_
 simp [p233,AA,w1,w2];apply RZ;simp [results233]
theorem sI (k:Int):Ct prog 231 [vu8 k] (vb (decide (k=3)||(decide (k=4)||decide (k=5)))) []:=by
 by_cases h3:k=3
 . refine CB func231 yq fun E hE=>?_
   simp [p231,h3];apply RZ;simp [results231]
 . by_cases h4:k=4
   . refine CB func231 yq fun E hE=>?_
     simp [p231,h4];apply RZ;simp [results231]
   . refine CB func231 yq fun E hE=>?_
     simp [p231,h3,h4];apply RZ;simp [results231]
theorem zR (c:Cel) (n:Int) (hb:B5 c) (hn:0<=n/\n<=c.he+c.ai) (h0:1<=c.he+c.ai):Ct prog 275 [Ky c,vi n] (vsp (BQ c n) (n - BQ c n)) []:=by
 have q1:=hb.he;have q2:=hb.ai;have hbd:=KE q1.1 q2.1 hn.1 hn.2;have hz:¬ c.he+c.ai=0:=by omega
 have m1:0<=n*c.he:=Int.mul_nonneg (by omega) (by omega);have m2:n*c.he<=20000000*10000000:=Int.mul_le_mul (by omega) (by omega) (by omega) (by omega);have hd:(n*c.he).tdiv (c.he+c.ai)=BQ c n:=Int.tdiv_eq_ediv_of_nonneg m1;have w2:IntKind.wrap .i64 (n*c.he)=n*c.he:=AD (by omega) (by omega);have w3:IntKind.wrap .i64 (BQ c n)=BQ c n:=AD (by omega) (by omega);have w5:IntKind.wrap .i64 (n - BQ c n)=n - BQ c n:=AD (by omega) (by omega);have c1:=rV c hb;unfold am at c1;refine CB func275 c275 fun E hE=>?_
 simp [p275,inC,Nat.testBit];refine CLa c1 ?_;simp [AA,hz,w2,hd,w3,w5];apply RZ;simp [results275]
theorem rR (p:Plt) (cs:List Cel) (i:Nat) (c:Cel) (n:Int) (_:cs.length<=1000000) (hc:cs[i]?= some c) (hb:B5 c) (hn:1<=n/\n<=c.he+c.ai):Cm prog 232 [Cy p (.ls 0 0 cs.length 7),vi i,vi n] (lk [(0,AH AP cs)]) [0] (.ret (vsp (BQ c n) (n - BQ c n))) (lk [(0,AH AP (cs.set i (I0 c n)))]):=by
 have q1:=hb.he;have q2:=hb.ai;have hbd:=KE q1.1 q2.1 (by omega:0<=n) hn.2;have c1:=zR c n hb (by omega) (by omega);have w4:IntKind.wrap .i64 (c.he - BQ c n)=c.he - BQ c n:=AD (by omega) (by omega);have w6:IntKind.wrap .i64 (c.ai - (n - BQ c n))=c.ai - (n - BQ c n):=AD (by omega) (by omega);have hil:=(List.getElem?_eq_some_iff.1 hc).1;have hiI:(i:Int) < cs.length:=by omega
 let k1:Cel:={c with he:=c.he - BQ c n}
 have hc1:(cs.set i k1)[i]?= some k1:=by simp [hil]
 have s0:i*7+7<=cs.length*7/\i*7+1+1<=cs.length*7/\i*7+2+1<=cs.length*7:=by omega
 have hsl:=Aw Nr cs;have hsl1:=Aw Nr (cs.set i k1)
 have t0:List.take 7 (List.drop (i*7) (AH AP cs))=(AP c).map .d:=by
   have:=Bg Nr (j:=0) (k:=7) hc (by omega);simpa using this
 have t1:List.take 1 (List.drop (i*7+1) (AH AP cs))=[vi c.he]:=Bg Nr (j:=1) (k:=1) hc (by omega);have e1:AA (AH AP cs) (i*7+1) [vi (c.he - BQ c n)]=AH AP (cs.set i k1):=Cq Nr (vs:=[di (c.he - BQ c n)]) hc (by simp) rfl;have t3:List.take 1 (List.drop (i*7+2) (AH AP (cs.set i k1)))=[vi c.ai]:=Bg Nr (x:=k1) (j:=2) (k:=1) hc1 (by omega)
 have e2:AA (AH AP (cs.set i k1)) (i*7+2) [vi (c.ai - (n - BQ c n))]=AH AP (cs.set i (I0 c n)):=by
   have:=Cq Nr (y:=I0 c n) (j:=2) (vs:=[di (c.ai - (n - BQ c n))]) hc1 (by simp) rfl;rw [List.set_set] at this;exact this
 refine CM 1 func232 c232 fun E hs hE=>?_
 simp [p232,hiI,t0,s0,hsl];refine CLa c1 ?_;simp [inC,Nat.testBit,hiI,t1,t3,e1,e2,s0,hsl,hsl1,w4,w6,lf];refine AB.by (lk [(0,0)]) ?_;simp [results232]
theorem xL (p:Plt) (a:Act) (hl:p.cs.length<=1000000) (hk:a.k=7) (hn:a.n=1):Ct prog 230 [Cy p (.d (AX p.cs)),BZ a] (vi 0) []:=by
 have c1:=Xd a.n 1 1000;have c2:=c1;have c3:=c1;have c4:=c1;have w:IntKind.wrap .i64 ((p.cs.length:Int) - 1)=(p.cs.length:Int) - 1:=AD (by omega) (by omega);rw [show rgB 1 1000 [a.n]=true from by rw [hn];decide] at c1;refine CB func230 ue fun E hE=>?_
 simp [p230,hk]
 repeat ((first | (refine CLt c1 ?_ ?_;focus (simp;done)) | (refine CLt c2 ?_ ?_;focus (simp;done)) | (refine CLt c3 ?_ ?_;focus (simp;done)) | (refine CLt c4 ?_ ?_;focus (simp;done)));simp)
 apply RZ;simp [results230]
theorem xM (p:Plt) (a:Act) (hl:p.cs.length<=1000000) (hk:a.k=3):Ct prog 230 [Cy p (.d (AX p.cs)),BZ a] (vi (if inA p.cs.length a then 0 else 2)) []:=by
 have c1:=Xd a.n 1 10000000;have c2:=Xd a.c 0 ((p.cs.length:Int) - 1);have c3:=c1;have c4:=c1;have w:IntKind.wrap .i64 ((p.cs.length:Int) - 1)=(p.cs.length:Int) - 1:=AD (by omega) (by omega);unfold inA
 generalize rgB 0 ((p.cs.length:Int) - 1) [a.c]=b1 at*
 generalize rgB 1 10000000 [a.n]=b2 at*
 cases b1
 . cases b2
   . simp only [Bool.and_false,Bool.false_eq_true,if_false]
     refine CB func230 ue fun E hE=>?_
     simp [p230,hk]
     repeat ((first | (refine CLt c1 ?_ ?_;focus (simp;done)) | (refine CLt c2 ?_ ?_;focus (simp;done)) | (refine CLt c3 ?_ ?_;focus (simp;done)) | (refine CLt c4 ?_ ?_;focus (simp;done)));simp)
     apply RZ;simp [results230]
   . simp only [Bool.and_true,Bool.false_eq_true,if_false]
     refine CB func230 ue fun E hE=>?_
     simp [p230,hk]
     repeat ((first | (refine CLt c1 ?_ ?_;focus (simp;done)) | (refine CLt c2 ?_ ?_;focus (simp;done)) | (refine CLt c3 ?_ ?_;focus (simp;done)) | (refine CLt c4 ?_ ?_;focus (simp;done)));simp [w])
     apply RZ;simp [results230]
 . cases b2
   . simp only [Bool.and_false,Bool.false_eq_true,if_false]
     refine CB func230 ue fun E hE=>?_
     simp [p230,hk]
     repeat ((first | (refine CLt c1 ?_ ?_;focus (simp;done)) | (refine CLt c2 ?_ ?_;focus (simp;done)) | (refine CLt c3 ?_ ?_;focus (simp;done)) | (refine CLt c4 ?_ ?_;focus (simp;done)));simp)
     apply RZ;simp [results230]
   . simp only [Bool.and_true,if_true]
     refine CB func230 ue fun E hE=>?_
     simp [p230,hk]
     repeat ((first | (refine CLt c1 ?_ ?_;focus (simp;done)) | (refine CLt c2 ?_ ?_;focus (simp;done)) | (refine CLt c3 ?_ ?_;focus (simp;done)) | (refine CLt c4 ?_ ?_;focus (simp;done)));simp [w])
     apply RZ;simp [results230]
theorem xN (p:Plt) (a:Act) (hl:p.cs.length<=1000000) (hk:a.k=4):Ct prog 230 [Cy p (.d (AX p.cs)),BZ a] (vi (if inA p.cs.length a&&inT p.cs.length a then 0 else 2)) []:=by
 have c1:=Xd a.n 1 10000000;have c2:=Xd a.c 0 ((p.cs.length:Int) - 1);have c3:=Xd a.t 0 ((p.cs.length:Int) - 1);have c4:=c1;have w:IntKind.wrap .i64 ((p.cs.length:Int) - 1)=(p.cs.length:Int) - 1:=AD (by omega) (by omega);unfold inA inT
 generalize rgB 0 ((p.cs.length:Int) - 1) [a.c]=b1 at*
 generalize rgB 0 ((p.cs.length:Int) - 1) [a.t]=b3 at*
 generalize rgB 1 10000000 [a.n]=b2 at*
 by_cases he:a.t=a.c
 . simp only [he,decide_true,Bool.not_true,Bool.and_false,Bool.false_eq_true,if_false]
   rw [he] at c3;cases b1<;>cases b2<;>cases b3
   all_goals
     refine CB func230 ue fun E hE=>?_
     simp [p230,hk]
     repeat ((first | (refine CLt c1 ?_ ?_;focus (simp;done)) | (refine CLt c2 ?_ ?_;focus (simp;done)) | (refine CLt c3 ?_ ?_;focus (simp;done)) | (refine CLt c4 ?_ ?_;focus (simp;done)));simp [w,he])
     apply RZ;simp [results230]
 . simp only [he,decide_false,Bool.not_false,Bool.and_true]
   cases b1<;>cases b2<;>cases b3
   all_goals simp only [Bool.and_true,Bool.and_false,Bool.false_eq_true,if_false,if_true]
   all_goals
     refine CB func230 ue fun E hE=>?_
     simp [p230,hk]
     repeat ((first | (refine CLt c1 ?_ ?_;focus (simp;done)) | (refine CLt c2 ?_ ?_;focus (simp;done)) | (refine CLt c3 ?_ ?_;focus (simp;done)) | (refine CLt c4 ?_ ?_;focus (simp;done)));simp [w,he])
     apply RZ;simp [results230]
theorem C6 {H:Hp} {a b c d:Nat}:Fi H (.ls a b c d) (.ls a b c d):=⟨rfl,rfl,rfl,rfl⟩
theorem spl6 (c0 c1 c2 c3 c4 c5 c6 c7 c8 c9 x y:V):AA [c0,c1,c2,c3,c4,c5,c6,c7,c8,c9] 6 [x,y]=[c0,c1,c2,c3,c4,c5,x,y,c8,c9]:=rfl
theorem vI (p:Plt) (cs:List Cel) (hl:cs.length<=12) (hne:cs≠[]) (hb:∀ c∈cs,B5 c) (hv:gd p.lh) (hw:gd p.la):
   Cm prog 234 [Cy p (.ls 0 0 cs.length 7)] (lk [(0,AH AP cs)]) [0] (.ret (Cy (tkP p cs cs.length) (.ls 0 0 cs.length 7))) (lk [(0,AH AP (cs.map tkC))]):=by
 have n1:=BG hne;refine CM 1 func234 zy fun E hs hE=>?_
 simp [p234];refine Al (α:=Nat) (fun i=>⟨AO [(1, .lp 1 0),(2, .lp 2 0),(3,vi i)],lk [(0,AH AP (tkL cs i)),(1,plB (tkP p cs i) (.ls 0 0 cs.length 7)),(2,plZ)],3⟩) (fun i=>i<=cs.length) (fun i=>cs.length - i) 0 ?_ ?_ ?_
 . omega
 . rw [cW]
   refine AI.mkM hs (lk [(0,0),(1,1),(2,1048577)]) _ _ _ ?_ ?_ ?_ ?_ ?_ ?_<;>simp [tkP,tkH,tkA]
 . intro i hi
   by_cases h:i < cs.length
   . obtain ⟨c,hc⟩:=gE h
     have hcb:=hb c (List.mem_of_getElem? hc);have hI:(i:Int) < cs.length:=by omega
     have hz:=@wz i (by omega);have b1:=cY hcb;have b2:=SY hcb;have b3:=SZ hb i hi;have q1:=hcb.he;have q2:=hcb.ai;have q3:=hcb.lk;have q4:=hcb.ow;have hLc:=mQ hc;have hLn:=cX hc;have hLl:=iP cs i;have hHn:=Pz hc;have hAn:=P2 hc
     generalize tkL cs i=L at*
     have d0:=rV c hcb;unfold am at d0;have w2:IntKind.wrap .i64 ((c.he+c.ai)*c.lk)=(c.he+c.ai)*c.lk:=AD (by omega) (by omega);have w3:IntKind.wrap .i64 (c.ow+(c.he+c.ai)*c.lk)=tkS c:=AD (by unfold tkS at b1;omega) (by unfold tkS at b1;omega);have hd:(tkS c).tdiv 1000000=tkN c:=Int.tdiv_eq_ediv_of_nonneg (by omega);have w4:IntKind.wrap .i64 (tkN c)=tkN c:=AD (by omega) (by omega);have hm:(tkS c).tmod 1000000=tkS c % 1000000:=Int.tmod_eq_emod_of_nonneg (by omega);have w5:IntKind.wrap .i64 (tkS c % 1000000)=tkS c % 1000000:=AD (by omega) (by omega);have hsl:=Aw Nr L;have s0:(i*7+7<=cs.length*7/\i*7+4+1<=cs.length*7)/\i*7+5+1<=cs.length*7/\i*7+6+1<=cs.length*7:=by omega
     have t0:List.take 7 (List.drop (i*7) (AH AP L))=(AP c).map .d:=by
       have:=Bg Nr (j:=0) (k:=7) hLc (by omega);simpa using this
     have t5:List.take 1 (List.drop (i*7+5) (AH AP L))=[vi c.lk]:=Bg Nr (x:=c) (j:=5) (k:=1) hLc (by omega);have t6:List.take 1 (List.drop (i*7+6) (AH AP L))=[vi c.ow]:=Bg Nr (x:=c) (j:=6) (k:=1) hLc (by omega);by_cases hp:1000000<=tkS c
     . have hp0:1<=tkN c:=by unfold tkN;omega
       have d3:=rR (tkP p cs i) L i c (tkN c) (by omega) hLc hcb ⟨hp0,b1.2.2.2⟩;have d4:=yG (p.lh+tkH cs i) (p.la+tkA cs i) (BQ c (tkN c)) (tkN c - BQ c (tkN c)) ⟨by omega,by omega,by omega,by omega⟩;obtain ⟨L2,hL2⟩:∃ L2,L.set i (I0 c (tkN c))=L2:=⟨_,rfl⟩
       rw [hL2,hLl] at d3;have hL2l:L2.length=cs.length:=by rw [<-hL2];simp [hLl]
       have hL2c:L2[i]?= some (I0 c (tkN c)):=by rw [<-hL2];simp [hLl,h]
       have hsl2:=Aw Nr L2
       have x2:AA (AH AP L2) (i*7+6) [vi (tkS c % 1000000)]=AH AP (L.set i (tkC c)):=by
         have:=Cq Nr (y:=tkC c) (j:=6) (vs:=[di (tkS c % 1000000)]) hL2c (by simp) rfl;rw [<-hL2,List.set_set,hL2] at this;exact this
       have n2:AH AP L≠[]:=BG (fun e=>by rw [e] at hLl;simp at hLl;omega);simp [sV,hI,inC,Nat.testBit,hLl,hsl,s0,t0,t5,t6];refine CLa d0 ?_;simp [inC,Nat.testBit,hI,hLl,hsl,s0,t5,w2,w3,hp];refine AL [(6,0)] (by kernel_rfl) ?_;simp [inC,Nat.testBit,hd,w4,tkP];refine CDs d3 (by simp [wrL,inC,Nat.testBit,n2,tkP,C6,BB]) ?_;simp;refine CLa d4 ?_;simp [hI,hL2l,hsl2,s0,x2,hm,hz,spl6];refine ⟨i+1,by omega,by omega,?_⟩;rw [hLn,hHn,hAn];refine AI.mkM hs (lk [(0,0),(1,1),(2,2)]) _ _ _ ?_ ?_ ?_ ?_ ?_ ?_<;>simp [Int.add_assoc]
     . have hN:tkN c=0:=by unfold tkN;omega
       have hS:tkS c % 1000000=tkS c:=by omega
       have hO:BQ c 0=0:=by unfold BQ;simp
       have x2:AA (AH AP L) (i*7+6) [vi (tkS c)]=AH AP (L.set i (tkC c)):=Cq Nr (y:=tkC c) (j:=6) (vs:=[di (tkS c)]) hLc (by simp) (by unfold tkC I0;rw [hN,hS,hO];simp);simp [sV,hI,inC,Nat.testBit,hLl,hsl,s0,t0,t5,t6];refine CLa d0 ?_;simp [inC,Nat.testBit,hI,hLl,hsl,s0,t5,w2,w3,hp,hm,hS,x2,hz,tkP];refine ⟨i+1,by omega,by omega,?_⟩;rw [hLn,hHn,hAn,hN,hO];exact WKM hs (lk [(0,0),(1,1),(2,2)])
   . have ei:i=cs.length:=by omega
     have hI:¬ (i:Int) < cs.length:=by omega
     subst ei;simp [sV,AA,iO];refine AB.by (lk [(0,0)]) ?_;simp [results234]
theorem wG (p:Plt):Ct prog 234 [Cy p (.d (AX []))] (Cy p (.d (AX []))) []:=by
 refine CB func234 zy fun E hE=>?_
 simp [p234];refine Al (α:=Nat) (fun i=>⟨AO [(1, .lp 1 0),(2, .lp 2 0),(3,vi i)],lk [(1,plB p (.d (AX []))),(2,plZ)],3⟩) (fun i=>i=0) (fun i=>0) 0 ?_ ?_ ?_
 . rfl
 . exact WK hE (lk [(1,0),(2,1048576)])
 . intro i hi
   subst hi;simp [sV,AA];apply RZ;simp [results234]
theorem rZ (p:Plt) (a:Act) (e:Int) (hl:p.cs.length<=1000000) (h:Ar p=true) (he:¬ e=0) (d2:Ct prog 230 [Cy p (.d (AX p.cs)),BZ a] (vi e) []):Ct prog 172 [Cy p (.d (AX p.cs)),BZ a] (.tup [.agg plZ,vi e]) []:=by
 have d1:=S2 p hl;rw [h] at d1;refine CB func172 tp fun E hE=>?_
 simp [p172];refine CLa d1 ?_;simp;refine CLa d2 ?_;simp [AA,he];apply RZ;simp [results172]
theorem vG (p:Plt) (a:Act) (c:Cel) (h:Ar p=true) (hk:a.k=3) (hin:inA p.cs.length a=true) (d2:Ct prog 230 [Cy p (.d (AX p.cs)),BZ a] (vi 0) []) (hc:p.cs[a.c.toNat]?= some c) (hn:c.he+c.ai < a.n):Ct prog 172 [Cy p (.d (AX p.cs)),BZ a] (.tup [.agg plZ,vi 6]) []:=by
 have hl:=CS h;have hcb:=Dx h c (List.mem_of_getElem? hc);have d1:=S2 p (by omega);have d3:=tR p (by omega);have d4:=sI 3;have d5:=rV c hcb;unfold am at d5;rw [h] at d1;have h1:=EQ.1 hin;obtain ⟨i,hi⟩:∃ i:Nat,a.c=i:=⟨a.c.toNat,by omega⟩
 have hit:a.c.toNat=i:=by omega
 rw [hit] at hc;have hI:(i:Int) < p.cs.length:=by omega
 have hil:i < p.cs.length:=by omega
 have hsl:=Aw Nr p.cs;have s0:i*7+7<=p.cs.length*7:=by omega
 have t0:List.take 7 (List.drop (i*7) (AH AP p.cs))=(AP c).map .d:=by
   have:=Bg Nr (j:=0) (k:=7) hc (by omega);simpa using this
 simp at d4;refine CB func172 tp fun E hE=>?_
 simp [p172];refine CLa d1 ?_;simp;refine CLa d2 ?_;simp;refine CLa d3 ?_;simp [AA,inC,Nat.testBit,hk];refine CLa d4 ?_;simp [inC,Nat.testBit,hi,hI,hsl,s0,t0];refine CLa d5 ?_;simp [AA,inC,Nat.testBit,hn];apply RZ;simp [results172]
theorem vH (p:Plt) (a:Act) (c:Cel) (h:Ar p=true) (hk:a.k=4) (hin:inA p.cs.length a=true) (d2:Ct prog 230 [Cy p (.d (AX p.cs)),BZ a] (vi 0) []) (hc:p.cs[a.c.toNat]?= some c) (hn:c.he+c.ai < a.n):Ct prog 172 [Cy p (.d (AX p.cs)),BZ a] (.tup [.agg plZ,vi 6]) []:=by
 have hl:=CS h;have hcb:=Dx h c (List.mem_of_getElem? hc);have d1:=S2 p (by omega);have d3:=tR p (by omega);have d4:=sI 4;have d5:=rV c hcb;unfold am at d5;rw [h] at d1;have h1:=EQ.1 hin;obtain ⟨i,hi⟩:∃ i:Nat,a.c=i:=⟨a.c.toNat,by omega⟩
 have hit:a.c.toNat=i:=by omega
 rw [hit] at hc;have hI:(i:Int) < p.cs.length:=by omega
 have hil:i < p.cs.length:=by omega
 have hsl:=Aw Nr p.cs;have s0:i*7+7<=p.cs.length*7:=by omega
 have t0:List.take 7 (List.drop (i*7) (AH AP p.cs))=(AP c).map .d:=by
   have:=Bg Nr (j:=0) (k:=7) hc (by omega);simpa using this
 simp at d4;refine CB func172 tp fun E hE=>?_
 simp [p172];refine CLa d1 ?_;simp;refine CLa d2 ?_;simp;refine CLa d3 ?_;simp [AA,inC,Nat.testBit,hk];refine CLa d4 ?_;simp [inC,Nat.testBit,hi,hI,hsl,s0,t0];refine CLa d5 ?_;simp [AA,inC,Nat.testBit,hn];apply RZ;simp [results172]
theorem yW {p:Plt} {cs ds:List Cel} {i n x y:Int} (h:Cm prog 232 [Cy p (.ls 0 0 cs.length 7),vi i,vi n] (lk [(0,AH AP cs)]) [0] (.ret (vsp x y)) (lk [(0,AH AP ds)])):Cm prog 232 [Cy p (.ls 14680064 0 cs.length 7),vi i,vi n] (lk [(14680064,AH AP cs)]) [14680064] (.ret (vsp x y)) (lk [(14680064,AH AP ds)]):=by
 have:=Cm.rename (fun _=>14680064) 1 (by omega) h (by simp [BW]) (by simp [BW]) (by simp);simpa [Ea,HW,Px] using this
theorem vC (p:Plt) (a:Act) (c:Cel) (h:Ar p=true) (hk:a.k=3) (hin:inA p.cs.length a=true) (d2:Ct prog 230 [Cy p (.d (AX p.cs)),BZ a] (vi 0) []) (hc:p.cs[a.c.toNat]?= some c) (hn:a.n<=c.he+c.ai) (ho:Ar (vlP p a c)=true):Ct prog 172 [Cy p (.d (AX p.cs)),BZ a] (.tup [Cy (vlP p a c) (.ls 0 0 p.cs.length 7),vi 0]) [(0,AH AP (vlP p a c).cs)]:=by
 have hl:=CS h;have hcb:=Dx h c (List.mem_of_getElem? hc);have d1:=S2 p (by omega);have d3:=tR p (by omega);have d4:=sI 3;have d5:=rV c hcb;unfold am at d5;rw [h] at d1;have h1:=EQ.1 hin;obtain ⟨i,hi⟩:∃ i:Nat,a.c=i:=⟨a.c.toNat,by omega⟩
 have hit:a.c.toNat=i:=by omega
 rw [hit] at hc;have hI:(i:Int) < p.cs.length:=by omega
 have hil:i < p.cs.length:=by omega
 have hsl:=Aw Nr p.cs;have s0:i*7+7<=p.cs.length*7:=by omega
 have t0:List.take 7 (List.drop (i*7) (AH AP p.cs))=(AP c).map .d:=by
   have:=Bg Nr (j:=0) (k:=7) hc (by omega);simpa using this
 simp at d4;refine CB func172 tp fun E hE=>?_
 simp [p172];refine CLa d1 ?_;simp;refine CLa d2 ?_;simp;refine CLa d3 ?_;simp [AA,inC,Nat.testBit,hk];refine CLa d4 ?_;simp [inC,Nat.testBit,hi,hI,hsl,s0,t0];refine CLa d5 ?_;have hn2:¬ c.he+c.ai < a.n:=by omega
 simp [inC,Nat.testBit,hn2];refine CLa d4 ?_;simp;have d6:=yW (rR p p.cs i c a.n (by omega) hc hcb ⟨h1.2.1,hn⟩);have n1:AH AP p.cs≠[]:=BG fun e=>by rw [e] at hil;simp at hil
 have bk:=K9 (K7 h);have q1:=hcb.he;have q2:=hcb.ai;have hbd:=KE q1.1 q2.1 (by omega:0<=a.n) hn;have d7:=yG p.vh p.va (BQ c a.n) (a.n - BQ c a.n) ⟨by omega,by omega,by omega,by omega⟩;have e1:(vlP p a c).cs=p.cs.set i (I0 c a.n):=by simp [vlP,hit]
 have d9:=S2 (vlP p a c) (by rw [e1];simp;omega);rw [ho] at d9
 have d8:List.take (p.cs.length*7) (AH AP (p.cs.set i (I0 c a.n)))=(List.map (List.map V.d ∘ AP) (p.cs.set i (I0 c a.n))).flatten:=by
   rw [List.take_of_length_le (by rw [Aw Nr];simp)];simp [AH,List.map_flatten]
 have d10:(∀ e:List D,e∈(List.map AP p.cs).set i (AP (I0 c a.n))->e.length=7)=True:=eq_true fun e he=>by
   rw [<-List.map_set] at he;obtain ⟨x,_,rfl⟩:=List.mem_map.1 he;rfl
 refine CRs d6 (by simp [n1,C6,BB]) ?_;simp [AA];refine CLa d7 ?_;simp [AA];refine CLb (d9) (by first | (simp;done) | simp [CP,d8,d10,vlP,hit]) ?_;simp [AA];refine AB.by (lk [(0,14680064)]) ?_;simp [results172,vlP,hit]
def BN:Nat->List Leg->List (Nat × Nat)
 | _,[]=>[]
 | i,x::r=>(List.range x.m.toNat).map (fun m=>(i,m))++BN (i+1) r
abbrev Evt:=Int × Int × Int × Int
def ev0:Evt:=(0,0,0,0)
def FA (k:Sky) (r:Rig) (x:Leg) (m:Nat) (s:Shp):Except (Int × Int × Int) Shp:=
 if m=0 then match Ep s x with
   | .ok t=>HK k r t x
   | .error e=> .error (e,0,0)
 else HK k r s x
def FC (i m:Nat) (e:Int × Int × Int):Int × Evt:=(e.1,if e.1=54 then (e.2.1,i,m,e.2.2) else ev0)
def Dt (k:Sky) (r:Rig) (l:List Leg):List (Nat × Nat)->Shp->Except (Int × Evt) (List Shp)
 | [],_=> .ok []
 | (i,m)::rest,s=>match l[i]? with
   | none=> .error (0,ev0)
   | some x=>match FA k r x m s with
     | .error e=> .error (FC i m e)
     | .ok n=>match Dt k r l rest n with
       | .error e=> .error e
       | .ok ns=> .ok (n::ns)
def JC (k:Sky) (r:Rig) (s:Shp) (le:Int):Int:=
 if BV k then (if CF r then (if A6 s then (if le=0 then (if Ey k r then 0 else 2) else le) else 52) else 51) else 50
def HA (k:Sky) (r:Rig) (s:Shp) (l:List Leg):Except (Int × Evt) (List Shp):=
 if JC k r s (C0 l)=0 then Dt k r l (BN 0 l) s else .error (JC k r s (C0 l),ev0)
theorem Ia:∀ {l:List Leg} {i:Nat} {p:Nat × Nat},p∈BN i l->∃ x,i<=p.1/\l[p.1 - i]?= some x/\(p.2:Int) < x.m
 | [],i,p,h=>by simp [BN] at h
 | y::r,i,p,h=>by
   unfold BN at h;rcases List.mem_append.1 h with h | h
   . simp only [List.mem_map,List.mem_range] at h
     obtain ⟨m,hm,rfl⟩:=h;exact ⟨y,Nat.le_refl _,by simp,by simp only;omega⟩
   . obtain ⟨x,h1,h2,h3⟩:=Ia h
     refine ⟨x,by omega,?_,h3⟩;rw [show p.1 - i=(p.1 - (i+1))+1 by omega,List.getElem?_cons_succ];exact h2
theorem Kv:∀ {l:List Leg} {i:Nat},(∀ x∈l,BE x=true)->((BN i l).length:Int)=Cv l
 | [],i,_=>by simp [BN,Cv]
 | y::r,i,h=>by
   have h1:=G5 (h y (by simp));have h2:=Kv (l:=r) (i:=i+1) fun x hx=>h x (by simp [hx])
   unfold Cv at h2 ⊢;unfold BN;simp only [List.length_append,List.length_map,List.length_range,List.map_cons,List.sum_cons];omega
structure Jt (p q:Plt):Prop where
 bt:q.bt=p.bt
 ih:q.ih=p.ih
 ia:q.ia=p.ia
 ph:q.ph=p.ph
 pa:q.pa=p.pa
 n:q.cs.length=p.cs.length
theorem Jt.refl (p:Plt):Jt p p:=⟨rfl,rfl,rfl,rfl,rfl,rfl⟩
theorem Jt.trans {p q r:Plt} (h:Jt p q) (g:Jt q r):Jt p r:=⟨g.bt.trans h.bt,g.ih.trans h.ih,g.ia.trans h.ia,g.ph.trans h.ph,g.pa.trans h.pa,g.n.trans h.n⟩
theorem ND {p q:Plt} (h:Hm p= .ok q):q=p:=by
 unfold Hm at h;split at h
 . exact (Except.ok.inj h).symm
 . cases h
theorem pL {p q:Plt} {a:Act} (h:doS p a= .ok q):Jt p q:=by
 unfold doS vlS mvS at h
 repeat' split at h
 all_goals first
   | (cases h;done)
   | (have e:=ND h;subst e;exact ⟨rfl,rfl,rfl,rfl,rfl,by simp [vlP]⟩)
   | (have e:=ND h;subst e;exact ⟨rfl,rfl,rfl,rfl,rfl,by simp [mvP]⟩)
   | (have e:=ND h;subst e;exact ⟨rfl,rfl,rfl,rfl,rfl,by simp [tkQ]⟩)
theorem Kw:∀ {acts:List Act} {p:Plt} {i:Nat},Ar p=true->(B7 p acts i).2.2=0->Ar (B7 p acts i).1=true/\Jt p (B7 p acts i).1
 | [],p,i,h,_=>⟨h,Jt.refl p⟩
 | a::r,p,i,h,he=>by
   unfold B7 at he ⊢;cases hd:doS p a with
   | ok q=>
     rw [hd] at he;simp only at he ⊢;have:=Kw (Zn hd) he;exact ⟨this.1,(pL hd).trans this.2⟩
   | error e=>
     rw [hd] at he;exact absurd he (Tb hd)
theorem NE {s t:Shp} {x:Leg}:Ep s x= .ok t↔((B7 s.gas x.acts 0).2.2=0/\x.dr<=s.bal/\s.drp+x.dr<=1000000000000)/\t={s with gas:=(B7 s.gas x.acts 0).1,bal:=s.bal - x.dr,drp:=s.drp+x.dr}:=by
 unfold Ep;constructor
 . intro h
   split at h
   . rename_i h1
     split at h
     . cases h
     split at h
     . cases h
     rename_i h2 h3;exact ⟨⟨h1,by omega,by omega⟩,(Except.ok.inj h).symm⟩
   . cases h
 . rintro ⟨⟨h1,h2,h3⟩,rfl⟩
   rw [if_pos h1,if_neg (by omega),if_neg (by omega)]
theorem ZC {s t:Shp} {x:Leg} (hs:A6 s=true) (hx:BE x=true) (h:Ep s x= .ok t):A6 t=true:=by
 obtain ⟨⟨h1,h2,h3⟩,rfl⟩:=NE.1 h;have hb:=GT hs;have hX:=AAb hs;have q:=Kz hx;have hp:=(Kw (CR hs) h1).1;have b1:=hb.b;have p1:=hX.p;exact KH ⟨hb.h,hb.f,hb.w,hb.d,by simp only;omega,CS hp,Dx hp⟩ ⟨hX.x,hX.y,hX.b,by simp only;omega⟩ hp
structure Va (k:Sky) (r:Rig):Prop where
 sky:BV k=true
 rig:P5 r
 rng:Ey k r=true
theorem Ib {k:Sky} {r:Rig} {x:Leg} {m:Nat} {s n:Shp}:FA k r x m s= .ok n↔∃ t,(if m=0 then Ep s x= .ok t else t=s)/\KI k r t x/\n=Cj k r t x:=by
 unfold FA;by_cases hm:m=0
 . rw [if_pos hm]
   constructor
   . intro h
     cases hb:Ep s x with
     | ok t=>rw [hb] at h;exact ⟨t,by rw [if_pos hm],H2.1 h⟩
     | error e=>rw [hb] at h;cases h
   . rintro ⟨t,h1,h2⟩
     rw [if_pos hm] at h1;rw [h1];exact H2.2 h2
 . rw [if_neg hm]
   constructor
   . intro h
     exact ⟨s,by rw [if_neg hm],H2.1 h⟩
   . rintro ⟨t,h1,h2⟩
     rw [if_neg hm] at h1;subst h1;exact H2.2 h2
theorem Ow {x:Leg} {m:Nat} {s t:Shp} (hs:A6 s=true) (hx:BE x=true) (h:if m=0 then Ep s x= .ok t else t=s):A6 t=true:=by
 by_cases hm:m=0
 . rw [if_pos hm] at h;exact ZC hs hx h
 . rw [if_neg hm] at h;subst h;exact hs
theorem Q7 {k:Sky} {r:Rig} (hT:Va k r) {x:Leg} {m:Nat} {s n:Shp} (hs:A6 s=true) (hx:BE x=true) (h:FA k r x m s= .ok n):A6 n=true:=by
 obtain ⟨t,h1,h2,rfl⟩:=Ib.1 h;exact je hT.rig (Ow hs hx h1) (Mf hx) h2
theorem dI.refl (s:Shp):dI s s:=by
 refine ⟨?_,?_,?_,?_,?_,?_,rfl,rfl,rfl,rfl⟩<;>exact ⟨Int.le_refl _,Int.le_refl _⟩
theorem Wid.refl (r:Rig):Wid r r:=⟨rfl,rfl,rfl,rfl,Int.le_refl _,Int.le_refl _,Int.le_refl _⟩
def fR:List Shp->List Shp->Prop
 | [],[]=>True
 | a::r,b::q=>dI a b/\fR r q
 | _,_=>False
theorem fR.at:∀ {a b:List Shp},fR a b->a.length=b.length/\∀ (i:Nat) (x y:Shp),a[i]?= some x->b[i]?= some y->dI x y
 | [],[],_=>⟨rfl,fun i x y h=>by simp at h⟩
 | a::r,b::q,h=>by
   obtain ⟨h1,h2⟩:=fR.at h.2;refine ⟨by simp [h1],fun i x y hx hy=>?_⟩;cases i with
   | zero=>simp at hx hy;subst hx hy;exact h.1
   | succ i=>exact h2 i x y (by simpa using hx) (by simpa using hy)
 | [],_::_,h=>h.elim
 | _::_,[],h=>h.elim
section
variable {k:Sky} {r:Rig} {l:List Leg}
theorem F5 {i m:Nat} {rest:List (Nat × Nat)} {s:Shp} {ns:List Shp}:Dt k r l ((i,m)::rest) s= .ok ns↔∃ x n q,l[i]?= some x/\FA k r x m s= .ok n/\Dt k r l rest n= .ok q/\ns=n::q:=by
 conv=>lhs;unfold Dt
 constructor
 . intro h
   split at h
   . cases h
   rename_i x hx;split at h
   . cases h
   rename_i n hn;split at h
   . cases h
   rename_i q hq;exact ⟨x,n,q,hx,hn,hq,(Except.ok.inj h).symm⟩
 . rintro ⟨x,n,q,hx,hn,hq,rfl⟩
   rw [hx];simp only;rw [hn];simp only;rw [hq]
theorem TM:∀ {im:List (Nat × Nat)} {s:Shp} {ns:List Shp},Dt k r l im s= .ok ns->ns.length=im.length
 | [],s,ns,h=>by cases h;rfl
 | (i,m)::rest,s,ns,h=>by
   obtain ⟨x,n,q,_,_,hq,rfl⟩:=F5.1 h;have:=TM hq;simp [this]
theorem ZD (hT:Va k r) (hl:∀ x∈l,BE x=true):∀ {im:List (Nat × Nat)} {s:Shp} {ns:List Shp},A6 s=true->Dt k r l im s= .ok ns->∀ n∈ns,A6 n=true
 | [],s,ns,_,h,n,hn=>by cases h;simp at hn
 | (i,m)::rest,s,ns,hs,h,n,hn=>by
   obtain ⟨x,n1,q,hx,h1,hq,rfl⟩:=F5.1 h;have h2:=Q7 hT hs (hl x (List.mem_of_getElem? hx)) h1;rcases List.mem_cons.1 hn with rfl | hn
   . exact h2
   . exact ZD hT hl h2 hq n hn
theorem TN {s:Shp} {x:Leg} {e:Int × Int × Int} (h:HK k r s x= .error e):¬ e.1=0:=by
 unfold HK at h;split at h
 . split at h
   . cases h;decide
   . cases h
 . cases h;simp
theorem TP {s:Shp} {x:Leg} {e:Int} (h:Ep s x= .error e):¬ e=0:=by
 unfold Ep at h;split at h
 . split at h
   . cases h;decide
   split at h
   . cases h;decide
   . cases h
 . rename_i h1;cases h;exact h1
theorem fU {s:Shp} {x:Leg} {m:Nat} {e:Int × Int × Int} (h:FA k r x m s= .error e):¬ e.1=0:=by
 unfold FA at h;split at h
 . split at h
   . exact TN h
   . rename_i e' he;cases h;exact TP he
 . exact TN h
theorem NF:∀ {im:List (Nat × Nat)} {s:Shp} {e:Int × Evt},(∀ p∈im,∃ x,l[p.1]?= some x)->Dt k r l im s= .error e->¬ e.1=0/\((e.1=54/\¬ e.2.1=0/\∃ p∈im,e.2.2.1=p.1/\e.2.2.2.1=p.2)\/(¬ e.1=54/\e.2=ev0))
 | [],s,e,_,h=>by cases h
 | (i,m)::rest,s,e,hm,h=>by
   unfold Dt at h;obtain ⟨x,hx⟩:=hm (i,m) (by simp);rw [hx] at h;simp only at h;split at h
   . rename_i e' he
     cases h;have h1:=fU he;refine ⟨h1,?_⟩;unfold FC;simp only;by_cases h5:e'.1=54
     . refine .inl ⟨h5,?_,(i,m),by simp,?_,?_⟩
       . rw [if_pos h5]
         have key:∀ t:Shp,HK k r t x= .error e'->¬ e'.2.1=0:=fun t ht=>by
           unfold HK at ht;split at ht
           . split at ht
             . cases ht;simp at h5
             . cases ht
           . rename_i hz;cases ht;exact hz
         have hbeg:∀ t:Shp,∀ e:Int,Ep t x= .error e->¬ e=54:=fun t e ht=>by
           have pe:∀ {acts:List Act} {p:Plt} {i:Nat},¬ (B7 p acts i).2.2=54:=by
             intro acts;induction acts with
             | nil=>intro p i;simp [B7]
             | cons a rr ih=>
               intro p i;unfold B7;cases hd:doS p a with
               | ok q=>exact ih
               | error e=>
                 show ¬ e=54
                 unfold doS vlS mvS at hd
                 repeat' split at hd
                 all_goals first | (have:=K8 hd;omega) | (cases hd;omega)
           unfold Ep at ht;split at ht
           . split at ht
             . cases ht;decide
             split at ht
             . cases ht;decide
             . cases ht
           . cases ht;exact pe
         unfold FA at he;split at he
         . split at he
           . exact key _ he
           . rename_i e2 he2;cases he;exact absurd h5 (hbeg _ _ he2)
         . exact key _ he
       . rw [if_pos h5]
       . rw [if_pos h5]
     . exact .inr ⟨h5,by rw [if_neg h5]⟩
   . rename_i n hn
     split at h
     . rename_i e' he
       cases h;obtain ⟨h1,h2⟩:=NF (fun p hp=>hm p (by simp [hp])) he;refine ⟨h1,?_⟩;rcases h2 with ⟨h2,h3,p,hp,h4⟩ | h2
       . exact .inl ⟨h2,h3,p,by simp [hp],h4⟩
       . exact .inr h2
     . cases h
structure JD (r:Rig) (s t:Shp) (n:Nat):Prop where
 drop:t.bal+t.drp=s.bal+s.drp
 lo:t.fl+t.bh=s.fl+s.bh
 hi:t.fh+t.bl=s.fh+s.bl
 dry:t.dry=s.dry
 gas:Jt s.gas t.gas
 burn:s.bh<=t.bh
 water:100*(t.wh - s.wh)<=(t.bh - s.bh)*r.gh+99*n
theorem JD.refl (r:Rig) (s:Shp):JD r s s 0:=⟨rfl,rfl,rfl,rfl,Jt.refl _,Int.le_refl _,by simp⟩
theorem JD.trans {r:Rig} {s t u:Shp} {n m:Nat} (h:JD r s t n) (g:JD r t u m):JD r s u (n+m):=by
 obtain ⟨a1,a2,a3,a4,a5,a6,a7⟩:=h;obtain ⟨b1,b2,b3,b4,b5,b6,b7⟩:=g;refine ⟨by omega,by omega,by omega,by omega,a5.trans b5,by omega,?_⟩;have e:(u.bh - s.bh)*r.gh=(u.bh - t.bh)*r.gh+(t.bh - s.bh)*r.gh:=by rw [<-Int.add_mul];congr 1;omega
 omega
end
end Go.Proofs.Tryz
namespace Go.Proofs.Tryz
open Go.Psl
open Go.Air
theorem tQ:∀ {l:List Int} {i:Nat} {x y:Int},l[i]?= some x->(l.set i y).sum=l.sum - x+y
 | [],i,x,y,h=>by simp at h
 | a::l,0,x,y,h=>by simp at h;subst h;simp;omega
 | a::l,i+1,x,y,h=>by
   have:=tQ (l:=l) (i:=i) (x:=x) (y:=y) (by simpa using h);simp only [List.set_cons_succ,List.sum_cons];omega
theorem xt {cs:List Cel} {i:Nat} {c d:Cel} (h:cs[i]?= some c):heS (cs.set i d)=heS cs - c.he+d.he:=by
 unfold heS;rw [List.map_set];exact tQ (by rw [List.getElem?_map,h];rfl)
theorem xu {cs:List Cel} {i:Nat} {c d:Cel} (h:cs[i]?= some c):aiS (cs.set i d)=aiS cs - c.ai+d.ai:=by
 unfold aiS;rw [List.map_set];exact tQ (by rw [List.getElem?_map,h];rfl)
theorem xv {c:Cel} {n:Int} (h:B5 c) (h0:0<=n) (h1:n<=am c):B5 (I0 c n):=by
 have q1:=h.he;have q2:=h.ai;have:=KE q1.1 q2.1 h0 h1;unfold I0;exact ⟨h.rm,by simp only;omega,by simp only;omega,h.w,h.lk,h.ow⟩
theorem y3 {p:Plt} {a:Act} {c:Cel} (h:Ar p=true) (hc:p.cs[a.c.toNat]?= some c) (h0:0<=a.n) (h1:a.n<=am c):Ar (vlP p a c)=true:=by
 have hl:=CS h;have hcs:=Dx h;have he:=Wl h;have hb:=Wm h;have hcb:=hcs c (List.mem_of_getElem? hc);have q1:=hcb.he;have q2:=hcb.ai;have ho:=KE q1.1 q2.1 h0 h1;obtain ⟨b1,b2,b3,b4,b5,b6,b7,b8⟩:=K9 (K7 h);refine P4 (by simpa [vlP] using hl) hb (fun d hd=>?_) ?_ ?_ ?_
 . simp only [vlP] at hd
   rcases List.mem_or_eq_of_mem_set hd with hd | rfl
   . exact hcs d hd
   . exact xv hcb h0 h1
 . simp only [vlP]
   rw [xt hc,xu hc];unfold I0;simp only;omega
 . simp only [vlP];omega
 . simp only [vlP];omega
theorem vj (p:Plt) (a:Act) (c e:Cel) (h:Ar p=true) (hk:a.k=4) (hin:inA p.cs.length a=true) (hto:inT p.cs.length a=true) (d2:Ct prog 230 [Cy p (.d (AX p.cs)),BZ a] (vi 0) []) (hc:p.cs[a.c.toNat]?= some c) (he:p.cs[a.t.toNat]?= some e) (hn:a.n<=c.he+c.ai) (ho:Ar (mvP p a c e)=true):Ct prog 172 [Cy p (.d (AX p.cs)),BZ a] (.tup [Cy (mvP p a c e) (.ls 0 0 p.cs.length 7),vi 0]) [(0,AH AP (mvP p a c e).cs)]:=by
 have hl:=CS h;have hcs:=Dx h;have hcb:=hcs c (List.mem_of_getElem? hc);have heb:=hcs e (List.mem_of_getElem? he);have d1:=S2 p (by omega);have d3:=tR p (by omega);have d4:=sI 4;have d5:=rV c hcb;unfold am at d5;rw [h] at d1;have h1:=EQ.1 hin;obtain ⟨i,hi⟩:∃ i:Nat,a.c=i:=⟨a.c.toNat,by omega⟩
 have hit:a.c.toNat=i:=by omega
 have hT:0<=a.t/\a.t < p.cs.length/\¬ a.t=a.c:=by
   unfold inT rgB at hto;simp at hto;omega
 obtain ⟨j,hj⟩:∃ j:Nat,a.t=j:=⟨a.t.toNat,by omega⟩
 have hjt:a.t.toNat=j:=by omega
 have ecs:(mvP p a c e).cs=(p.cs.set i (I0 c a.n)).set j (gg e (BQ c a.n) (a.n - BQ c a.n)):=by simp [mvP,hit,hjt]
 rw [hit] at hc;rw [hjt] at he;have hij:i≠j:=by omega
 have hI:(i:Int) < p.cs.length:=by omega
 have hil:i < p.cs.length:=by omega
 have hJ:(j:Int) < p.cs.length:=by omega
 have hjl:j < p.cs.length:=by omega
 have hsl:=Aw Nr p.cs;have s0:i*7+7<=p.cs.length*7:=by omega
 have t0:List.take 7 (List.drop (i*7) (AH AP p.cs))=(AP c).map .d:=by
   have:=Bg Nr (j:=0) (k:=7) hc (by omega);simpa using this
 simp at d4;have n1:AH AP p.cs≠[]:=BG fun e=>by rw [e] at hil;simp at hil
 have q1:=hcb.he;have q2:=hcb.ai;have q3:=heb.he;have q4:=heb.ai;have hbd:=KE q1.1 q2.1 (by omega:0<=a.n) hn;have d6:=yW (rR p p.cs i c a.n (by omega) hc hcb ⟨h1.2.1,hn⟩);obtain ⟨L,hL⟩:∃ L,p.cs.set i (I0 c a.n)=L:=⟨_,rfl⟩
 have hLl:L.length=p.cs.length:=by rw [<-hL];simp
 have heL:L[j]?= some e:=by rw [<-hL,List.getElem?_set_ne hij];exact he
 rw [hL] at d6 ecs;obtain ⟨x,hx⟩:∃ x,BQ c a.n=x:=⟨_,rfl⟩
 rw [hx] at d6 hbd ecs
 let e1:Cel:={e with he:=e.he+x}
 have he1:(L.set j e1)[j]?= some e1:=by simp [hLl,hjl]
 have hsl0:=Aw Nr L;have hsl1:=Aw Nr (L.set j e1);have s1:j*7+1+1<=p.cs.length*7/\j*7+2+1<=p.cs.length*7:=by omega
 have t1:List.take 1 (List.drop (j*7+1) (AH AP L))=[vi e.he]:=Bg Nr (x:=e) (j:=1) (k:=1) heL (by omega);have t2:List.take 1 (List.drop (j*7+2) (AH AP (L.set j e1)))=[vi e.ai]:=Bg Nr (x:=e1) (j:=2) (k:=1) he1 (by omega);have x1:AA (AH AP L) (j*7+1) [vi (e.he+x)]=AH AP (L.set j e1):=Cq Nr (vs:=[di (e.he+x)]) heL (by simp) rfl;obtain ⟨M,hM⟩:∃ M,L.set j (gg e x (a.n - x))=M:=⟨_,rfl⟩
 have hMl:M.length=p.cs.length:=by rw [<-hM];simp [hLl]
 have x2:AA (AH AP (L.set j e1)) (j*7+2) [vi (e.ai+(a.n - x))]=AH AP M:=by
   have:=Cq Nr (y:=gg e x (a.n - x)) (j:=2) (vs:=[di (e.ai+(a.n - x))]) he1 (by simp) rfl;rw [List.set_set,hM] at this;exact this
 rw [hM] at ecs;have hslM:=Aw Nr M;have w5:IntKind.wrap .i64 (e.he+x)=e.he+x:=AD (by omega) (by omega);have w6:IntKind.wrap .i64 (e.ai+(a.n - x))=e.ai+(a.n - x):=AD (by omega) (by omega);have d9:=S2 (mvP p a c e) (by rw [ecs];omega);rw [ho] at d9
 have d8:List.take (p.cs.length*7) (AH AP M)=(List.map (List.map V.d ∘ AP) M).flatten:=by
   rw [List.take_of_length_le (by rw [Aw Nr];omega)];simp [AH,List.map_flatten]
 have hn2:¬ c.he+c.ai < a.n:=by omega
 obtain ⟨mq,hmq⟩:∃ mq,mvP p a c e=mq:=⟨_,rfl⟩
 have mb:mq.bt=p.bt/\mq.ih=p.ih/\mq.ia=p.ia/\mq.vh=p.vh/\mq.va=p.va/\mq.lh=p.lh/\mq.la=p.la/\mq.ph=p.ph/\mq.pa=p.pa:=by rw [<-hmq];exact ⟨rfl,rfl,rfl,rfl,rfl,rfl,rfl,rfl,rfl⟩
 rw [hmq] at ecs d9 ⊢;obtain ⟨z1,z2,z3,z4,z5,z6,z7,z8,z9⟩:=mb;refine CB func172 tp fun E hE=>?_
 simp [p172];refine CLa d1 ?_;simp;refine CLa d2 ?_;simp;refine CLa d3 ?_;simp [AA,inC,Nat.testBit,hk];refine CLa d4 ?_;simp [inC,Nat.testBit,hi,hI,hsl,s0,t0];refine CLa d5 ?_;simp [inC,Nat.testBit,hn2];refine CLa d4 ?_;simp;refine CRs d6 (by simp [n1,C6,BB]) ?_;simp [hj,hJ,hLl,hsl0,hsl1,s1,t1,t2,x1,x2,w5,w6,lf,inC,Nat.testBit];refine CLb (d9) (by first | (simp;done) | simp [CP,d8,ecs,hMl,z1,z2,z3,z4,z5,z6,z7,z8,z9]) ?_;simp [AA];refine AB.by (lk [(0,14680064)]) ?_;simp [results172,ecs,z1,z2,z3,z4,z5,z6,z7,z8,z9]
theorem uj (p:Plt) (a:Act) (c e:Cel) (h:Ar p=true) (hk:a.k=4) (hin:inA p.cs.length a=true) (hto:inT p.cs.length a=true) (d2:Ct prog 230 [Cy p (.d (AX p.cs)),BZ a] (vi 0) []) (hc:p.cs[a.c.toNat]?= some c) (he:p.cs[a.t.toNat]?= some e) (hn:a.n<=c.he+c.ai) (ho:Ar (mvP p a c e)=false):Ct prog 172 [Cy p (.d (AX p.cs)),BZ a] (.tup [.agg plZ,vi 9]) []:=by
 have hl:=CS h;have hcs:=Dx h;have hcb:=hcs c (List.mem_of_getElem? hc);have heb:=hcs e (List.mem_of_getElem? he);have d1:=S2 p (by omega);have d3:=tR p (by omega);have d4:=sI 4;have d5:=rV c hcb;unfold am at d5;rw [h] at d1;have h1:=EQ.1 hin;obtain ⟨i,hi⟩:∃ i:Nat,a.c=i:=⟨a.c.toNat,by omega⟩
 have hit:a.c.toNat=i:=by omega
 have hT:0<=a.t/\a.t < p.cs.length/\¬ a.t=a.c:=by
   unfold inT rgB at hto;simp at hto;omega
 obtain ⟨j,hj⟩:∃ j:Nat,a.t=j:=⟨a.t.toNat,by omega⟩
 have hjt:a.t.toNat=j:=by omega
 have ecs:(mvP p a c e).cs=(p.cs.set i (I0 c a.n)).set j (gg e (BQ c a.n) (a.n - BQ c a.n)):=by simp [mvP,hit,hjt]
 rw [hit] at hc;rw [hjt] at he;have hij:i≠j:=by omega
 have hI:(i:Int) < p.cs.length:=by omega
 have hil:i < p.cs.length:=by omega
 have hJ:(j:Int) < p.cs.length:=by omega
 have hjl:j < p.cs.length:=by omega
 have hsl:=Aw Nr p.cs;have s0:i*7+7<=p.cs.length*7:=by omega
 have t0:List.take 7 (List.drop (i*7) (AH AP p.cs))=(AP c).map .d:=by
   have:=Bg Nr (j:=0) (k:=7) hc (by omega);simpa using this
 simp at d4;have n1:AH AP p.cs≠[]:=BG fun e=>by rw [e] at hil;simp at hil
 have q1:=hcb.he;have q2:=hcb.ai;have q3:=heb.he;have q4:=heb.ai;have hbd:=KE q1.1 q2.1 (by omega:0<=a.n) hn;have d6:=yW (rR p p.cs i c a.n (by omega) hc hcb ⟨h1.2.1,hn⟩);obtain ⟨L,hL⟩:∃ L,p.cs.set i (I0 c a.n)=L:=⟨_,rfl⟩
 have hLl:L.length=p.cs.length:=by rw [<-hL];simp
 have heL:L[j]?= some e:=by rw [<-hL,List.getElem?_set_ne hij];exact he
 rw [hL] at d6 ecs;obtain ⟨x,hx⟩:∃ x,BQ c a.n=x:=⟨_,rfl⟩
 rw [hx] at d6 hbd ecs
 let e1:Cel:={e with he:=e.he+x}
 have he1:(L.set j e1)[j]?= some e1:=by simp [hLl,hjl]
 have hsl0:=Aw Nr L;have hsl1:=Aw Nr (L.set j e1);have s1:j*7+1+1<=p.cs.length*7/\j*7+2+1<=p.cs.length*7:=by omega
 have t1:List.take 1 (List.drop (j*7+1) (AH AP L))=[vi e.he]:=Bg Nr (x:=e) (j:=1) (k:=1) heL (by omega);have t2:List.take 1 (List.drop (j*7+2) (AH AP (L.set j e1)))=[vi e.ai]:=Bg Nr (x:=e1) (j:=2) (k:=1) he1 (by omega);have x1:AA (AH AP L) (j*7+1) [vi (e.he+x)]=AH AP (L.set j e1):=Cq Nr (vs:=[di (e.he+x)]) heL (by simp) rfl;obtain ⟨M,hM⟩:∃ M,L.set j (gg e x (a.n - x))=M:=⟨_,rfl⟩
 have hMl:M.length=p.cs.length:=by rw [<-hM];simp [hLl]
 have x2:AA (AH AP (L.set j e1)) (j*7+2) [vi (e.ai+(a.n - x))]=AH AP M:=by
   have:=Cq Nr (y:=gg e x (a.n - x)) (j:=2) (vs:=[di (e.ai+(a.n - x))]) he1 (by simp) rfl;rw [List.set_set,hM] at this;exact this
 rw [hM] at ecs;have hslM:=Aw Nr M;have w5:IntKind.wrap .i64 (e.he+x)=e.he+x:=AD (by omega) (by omega);have w6:IntKind.wrap .i64 (e.ai+(a.n - x))=e.ai+(a.n - x):=AD (by omega) (by omega);have d9:=S2 (mvP p a c e) (by rw [ecs];omega);rw [ho] at d9
 have d8:List.take (p.cs.length*7) (AH AP M)=(List.map (List.map V.d ∘ AP) M).flatten:=by
   rw [List.take_of_length_le (by rw [Aw Nr];omega)];simp [AH,List.map_flatten]
 have hn2:¬ c.he+c.ai < a.n:=by omega
 obtain ⟨mq,hmq⟩:∃ mq,mvP p a c e=mq:=⟨_,rfl⟩
 have mb:mq.bt=p.bt/\mq.ih=p.ih/\mq.ia=p.ia/\mq.vh=p.vh/\mq.va=p.va/\mq.lh=p.lh/\mq.la=p.la/\mq.ph=p.ph/\mq.pa=p.pa:=by rw [<-hmq];exact ⟨rfl,rfl,rfl,rfl,rfl,rfl,rfl,rfl,rfl⟩
 rw [hmq] at ecs d9;obtain ⟨z1,z2,z3,z4,z5,z6,z7,z8,z9⟩:=mb;refine CB func172 tp fun E hE=>?_
 simp [p172];refine CLa d1 ?_;simp;refine CLa d2 ?_;simp;refine CLa d3 ?_;simp [AA,inC,Nat.testBit,hk];refine CLa d4 ?_;simp [inC,Nat.testBit,hi,hI,hsl,s0,t0];refine CLa d5 ?_;simp [inC,Nat.testBit,hn2];refine CLa d4 ?_;simp;refine CRs d6 (by simp [n1,C6,BB]) ?_;simp [hj,hJ,hLl,hsl0,hsl1,s1,t1,t2,x1,x2,w5,w6,lf,inC,Nat.testBit];refine CLb (d9) (by first | (simp;done) | simp [CP,d8,ecs,hMl,z1,z2,z3,z4,z5,z6,z7,z8,z9]) ?_;simp [AA];apply RZ;simp [results172]
theorem y5 {p q:Plt} {cs ds:List Cel} (h:Cm prog 234 [Cy p (.ls 0 0 cs.length 7)] (lk [(0,AH AP cs)]) [0] (.ret (Cy q (.ls 0 0 cs.length 7))) (lk [(0,AH AP ds)])):Cm prog 234 [Cy p (.ls 3 0 cs.length 7)] (lk [(3,AH AP cs)]) [3] (.ret (Cy q (.ls 3 0 cs.length 7))) (lk [(3,AH AP ds)]):=by
 have:=Cm.rename (fun _=>3) 1 (by omega) h (by simp [BW]) (by simp [BW]) (by simp);simpa [Ea,HW,Px] using this
def tkc (p:Plt) (k:Nat):Plt:=if k=0 then p else tkQ p
theorem vB (p:Plt) (a:Act) (h:Ar p=true) (hk:a.k=7) (hn:a.n=1) (hne:p.cs≠[]) (d2:Ct prog 230 [Cy p (.d (AX p.cs)),BZ a] (vi 0) []):Ct prog 172 [Cy p (.d (AX p.cs)),BZ a] (.tup [Cy (tkQ p) (.ls 0 0 p.cs.length 7),vi 0]) [(0,AH AP (tkQ p).cs)]:=by
 have hl:=CS h;have hcs:=Dx h;have d1:=S2 p (by omega);have d3:=tR p (by omega);have d4:=sI 7;obtain ⟨_,_,_,_,v1,v2,_⟩:=K9 (K7 h);have d5:=y5 (vI p p.cs hl hne hcs v1 v2);have hq:(tkQ p).cs.length=p.cs.length:=by simp [tkQ]
 have d6:=S2 (tkQ p) (by omega);rw [Md h] at d6
 have d8:List.take (p.cs.length*7) (AH AP (tkQ p).cs)=(List.map (List.map V.d ∘ AP) (tkQ p).cs).flatten:=by
   rw [<-hq,List.take_of_length_le (by rw [Aw Nr];omega)];simp [AH,List.map_flatten]
 have n1:AH AP p.cs≠[]:=BG hne;have n2:AH AP (tkQ p).cs≠[]:=BG fun e=>by rw [e] at hq;exact hne (List.eq_nil_of_length_eq_zero hq.symm)
 have z1:IntKind.wrap .i64 1=1:=by decide
 have e1:p.cs.map tkC=(tkQ p).cs:=rfl;have e2:∀ c,plB (tkP p p.cs p.cs.length) c=plB (tkQ p) c:=fun c=>rfl
 have e3:∀ c,Cy (tkP p p.cs p.cs.length) c=Cy (tkQ p) c:=fun c=>rfl
 rw [e1,e3] at d5;rw [h] at d1;simp at d4;refine CB func172 tp fun E hE=>?_
 simp [p172];refine CLa d1 ?_;simp;refine CLa d2 ?_;simp;refine CLa d3 ?_;simp [AA,inC,Nat.testBit,hk];refine CLa d4 ?_;simp;refine CLa d4 ?_;simp;refine Al (α:=Nat) (fun k=>⟨AO [(2, .lp 0 0),(3, .lp 1 0),(4, .lp 2 0),(7, .lp 4 0),(9,vi k)],lk [(0,plB p (.d (AX p.cs))),(1,[vu8 7,vi a.c,vi a.t,vi a.n]),(2,plZ),(3,AH AP (tkc p k).cs),(4,plB (tkc p k) (.ls 3 0 p.cs.length 7))],5⟩) (fun k=>k<=1) (fun k=>1 - k) 0 ?_ ?_ ?_
 . omega
 . simp only [tkc,if_true]
   exact WK hE (lk [(0,0),(1,1048576),(2,2097152),(3,14680064),(4,15728640)])
 . intro k hk1
   match k,hk1 with
   | 1,_=>
     simp only [tkc,show ¬ (1:Nat)=0 by omega,if_false];simp [sT,hn];refine CLb (d6) (by first | (simp;done) | simp [CP,d8,hq]) ?_;simp [AA];refine AB.by (lk [(0,3)]) ?_;simp [results172]
   | n+2,h=>omega
   | 0,_=>
     simp only [tkc,if_true];simp [sT,hn];refine CRs d5 (by simp [n1,C6,BB]) ?_;simp [AA,z1];refine ⟨1,by omega,by omega,?_⟩;simp only [show ¬ (1:Nat)=0 by omega,if_false];exact WK hE (lk [(0,0),(1,1),(2,2),(3,3),(4,4)])
theorem vk (p:Plt) (hl:p.cs.length<=1000000):Ct prog 68 [Cy p (.d (AX p.cs))] (Cy p (.d (AX p.cs))) []:=by
 refine Cm.freeze (tR p hl) ?_;have hb:Df (lk [(0,AH AP p.cs)]) (.ls 0 0 p.cs.length 7) (.d (AX p.cs)):=B0 (H:=lk [(0,AH AP p.cs)]) (id:=0) Nr (l:=p.cs) (by simp);have z:∀ x:Int,FzC (lk [(0,AH AP p.cs)]) (vi x) (vi x):=fun x=>⟨_,rfl, .inl rfl⟩
 exact ⟨⟨_,rfl,hb⟩,z _,z _,z _,z _,z _,z _,z _,z _,z _,trivial⟩
theorem xB (p:Plt) (a:Act) (h:Ar p=true) (hk:a.k=7) (hn:a.n=1) (he:p.cs=[]) (d2:Ct prog 230 [Cy p (.d (AX p.cs)),BZ a] (vi 0) []):Ct prog 172 [Cy p (.d (AX p.cs)),BZ a] (.tup [Cy p (.d (AX p.cs)),vi 0]) []:=by
 have d1:=S2 p (by rw [he];simp);have d3:=vk p (by rw [he];simp);have d4:=sI 7;have d5:=wG p;have z1:IntKind.wrap .i64 1=1:=by decide
 rw [h] at d1;rw [he] at d1 d2 d3 ⊢;simp at d4;refine CB func172 tp fun E hE=>?_
 simp [p172];refine CLa d1 ?_;simp;refine CLa d2 ?_;simp;refine CLa d3 ?_;simp [AA,inC,Nat.testBit,hk];refine CLa d4 ?_;simp;refine CLa d4 ?_;simp;refine Al (α:=Nat) (fun k=>⟨AO [(2, .lp 0 0),(3, .lp 1 0),(4, .lp 2 0),(7, .lp 4 0),(9,vi k)],lk [(0,plB p (.d (AX []))),(1,[vu8 7,vi a.c,vi a.t,vi a.n]),(2,plZ),(4,plB p (.d (AX [])))],5⟩) (fun k=>k<=1) (fun k=>1 - k) 0 ?_ ?_ ?_
 . omega
 . exact WK hE (lk [(0,0),(1,1048576),(2,2097152),(4,15728640)])
 . intro k hk1
   match k,hk1 with
   | 1,_=>
     simp [sT,hn];refine CLa d1 ?_;simp [AA];apply RZ;simp [results172]
   | n+2,h=>omega
   | 0,_=>
     simp [sT,hn];refine CLa d5 ?_;simp [AA,z1];refine ⟨1,by omega,by omega,?_⟩;exact WK hE (lk [(0,0),(1,1),(2,2),(4,4)])
end Go.Proofs.Tryz
