/- Own lemmas, used by the last text. Conditions: those that each theorem states. -/
import Derived.Test.YtigekgfbcfbobaaGreatDlaf
set_option maxRecDepth 200000
set_option maxHeartbeats 8000000
namespace Go.Psl
variable {Γ:Tys} {eqs:Eqs} {H:Hp} {t:TypeId} {b:Nat}
theorem ABd {p:Option Addr} {n c:Nat} {x:V}:Lr Γ H b t (.d (.lit (.slice p n c))) x=(Γ t).bind fun y=>match y.sh with
 | .slice e=>(Γ e).bind fun ye=>if ye.size=0\/Ei (.d (.lit (.slice p n c))) x=true then none else (cellsOf H ye.size x).bind fun nx=>if nx.2.all V.isCell then (if nx.1*ye.bytes<=Fh/\nx.1<=maxL then some (.ls b 0 nx.1 ye.size, .new b nx.2) else none) else none
 | _=>none:=AF rfl
theorem SR {D':D} {x:V}:Ei (.d D') x=false:=AF rfl
theorem iG {id len sz:Nat} {x:V}:Lr Γ H b t (.ls id 0 len sz) x=(Γ t).bind fun y=>match y.sh with
 | .slice e=>(Γ e).bind fun ye=>if ye.size=0\/Ei (.ls id 0 len sz) x=true then none else (cellsOf H ye.size x).bind fun nx=>if nx.2.all V.isCell then
     (if sz=ye.size then (H id).bind fun cs=>if len*sz<=cs.length/\(len+nx.1)*ye.bytes<=Fh/\len+nx.1<=maxL then some (.ls b 0 (len+nx.1) sz, .mov id b (cs.take (len*sz)++nx.2)) else none else none) else none
 | _=>none:=AF rfl
theorem WP {i o l z i' o' l' z':Nat}:Ei (.ls i o l z) (.ls i' o' l' z')=(i == i'):=AF rfl
theorem cI {i o l z:Nat} {x:D}:Ei (.ls i o l z) (.d x)=false:=AF rfl
theorem Pm {sz:Nat} {p:Option Addr} {n c:Nat}:cellsOf H sz (.d (.lit (.slice p n c)))=some (0,[]):=AF rfl
theorem SS {sz sz':Nat} {es:List (List D)}:cellsOf H sz (.d (.sl sz' es))=if sz=sz' then some (es.length,es.flatten.map .d) else none:=AF rfl
theorem ST {sz sz' id off len:Nat}:cellsOf H sz (.ls id off len sz')=if sz=sz' then (H id).bind fun cs=>if off+len*sz<=cs.length then some (len,(cs.drop off).take (len*sz)) else none else none:=AF rfl
theorem cJ:P8 []= .tup []:=AF rfl
theorem WQ {ρ:Nat->Option Nat}:WV ρ (.tup []) (.tup []):=by simp
attribute [simp] cJ WQ ABd iG WP cI SR Pm SS ST
theorem iH {ρ:Nat->Option Nat} (x:D):WC ρ (.d x) (.d x):=by simp
theorem G7 {ρ:Nat->Option Nat} {xs ys:List V}:∀ ds:List D,AJ (WC ρ) (ds.map .d++xs) (ds.map .d++ys)=AJ (WC ρ) xs ys
 | []=>rfl
 | d::ds=>by
   show (WC ρ (.d d) (.d d)/\AJ (WC ρ) (ds.map .d++xs) (ds.map .d++ys))=_
   rw [G7 ds];exact propext ⟨fun h=>h.2,fun h=>⟨iH d,h⟩⟩
theorem LR {ρ:Nat->Option Nat} (ds:List D):AJ (WC ρ) (ds.map .d) (ds.map .d)=True:=by
 have:=G7 (ρ:=ρ) (xs:=[]) (ys:=[]) ds;rw [List.append_nil] at this;rw [this];exact propext ⟨fun _=>trivial,fun _=>trivial⟩
theorem FO {xs:List V} {ds:List D} (h:xs.all V.isCell=true):Bv (ds.map .d++xs):=Or.inl (by
 rw [List.all_append,h,Bool.and_true,List.all_map,List.all_eq_true];intro x _;rfl)
theorem HJ {ds:List D}:Bv (ds.map .d):=Or.inl (by
 rw [List.all_map,List.all_eq_true];intro x _;rfl)
theorem iI {q:Nat->Prop} {ds:List D}:∀ c∈ds.map V.d,AC q AR c:=fun c h=>by
 simp only [List.mem_map] at h;obtain ⟨d,_,rfl⟩:=h;simp
theorem SV {ρ:Nat->Nat} {ds:List D}:ds.map (BJ ρ ∘ V.d)=ds.map V.d:=by
 apply List.map_congr_left;intro x _;rfl
attribute [simp] SV G7 LR FO HJ
end Go.Psl
namespace Go.Proofs.Tryz
open Go.Psl
theorem NK {x y M N:Int} (hx: -M<=x/\x<=M) (hy: -N<=y/\y<=N): -(M*N)<=x*y/\x*y<=M*N:=by
 have hN:0<=N:=by omega
 have hM:0<=M:=by omega
 have a1:M* -N= -(M*N):=Int.mul_neg M N;by_cases h:0<=x
 . have h1:=Int.mul_le_mul_of_nonneg_left hy.2 h
   have h2:=Int.mul_le_mul_of_nonneg_left hy.1 h;have h3:=Int.mul_le_mul_of_nonneg_right hx.2 hN;have h4:x* -N= -(x*N):=Int.mul_neg x N;omega
 . have h1:=Int.mul_le_mul_of_nonpos_left (show x<=0 by omega) hy.2
   have h2:=Int.mul_le_mul_of_nonpos_left (show x<=0 by omega) hy.1;have h3:=Int.mul_le_mul_of_nonneg_right hx.1 hN;have h4:x* -N= -(x*N):=Int.mul_neg x N;have h5: -M*N= -(M*N):=Int.neg_mul M N;omega
def bd (M:Int) (p:Int × Int):Prop:=(-M<=p.1/\p.1<=M)/\(-M<=p.2/\p.2<=M)
def DU (a b:Int × Int):Int × Int:=(b.1-a.1,b.2-a.2)
theorem NL {M N:Int} {a b:Int × Int} (ha:bd M a) (hb:bd M b) (h:N=2*M):bd N (DU a b):=by
 unfold bd DU at*;simp only;omega
theorem TW (a b:Int × Int) (ha:bd 1152921504606846976 a) (hb:bd 1152921504606846976 b):Ct prog 194 [vsp a.1 a.2,vsp b.1 b.2] (vsp (DU a b).1 (DU a b).2) []:=by
 refine CB func194 c194 fun E hE=>?_
 unfold bd at ha hb;have w1:IntKind.wrap .i64 (b.1-a.1)=b.1-a.1:=AD (by omega) (by omega);have w2:IntKind.wrap .i64 (b.2-a.2)=b.2-a.2:=AD (by omega) (by omega);simp [p194,w1,w2,AA];apply RZ;simp [results194,DU]
def TX (u v:Int × Int):Int:=u.1*v.2-u.2*v.1
theorem fk {M:Int} {u v:Int × Int} (hu:bd M u) (hv:bd M v):(-(M*M)<=u.1*v.2/\u.1*v.2<=M*M)/\(-(M*M)<=u.2*v.1/\u.2*v.1<=M*M):=⟨NK hu.1 hv.2,NK hu.2 hv.1⟩
theorem ix (u v:Int × Int) (hu:bd 2000000000 u) (hv:bd 2000000000 v):Ct prog 195 [vsp u.1 u.2,vsp v.1 v.2] (vi (TX u v)) []:=by
 refine CB func195 c195 fun E hE=>?_
 have hb:=fk hu hv;have w1:IntKind.wrap .i64 (u.1*v.2)=u.1*v.2:=AD (by omega) (by omega);have w2:IntKind.wrap .i64 (u.2*v.1)=u.2*v.1:=AD (by omega) (by omega);have w3:IntKind.wrap .i64 (u.1*v.2-u.2*v.1)=u.1*v.2-u.2*v.1:=AD (by omega) (by omega);simp [p195,w1,w2,w3];apply RZ;simp [results195,TX]
theorem iy (n:Int):Ct prog 302 [vi n] (vb false) []:=by
 refine CB func302 c302 fun E hE=>?_
 simp [p302];apply RZ;simp [results302]
def NM (a b:Int):Int:=if a<b then -1 else if b<a then 1 else 0
theorem iz (a b:Int):Ct prog 272 [vi a,vi b] (vi (NM a b)) []:=by
 refine CB func272 c272 fun E hE=>?_
 simp [p272];refine CLa (iy a) ?_;simp;refine CLa (iy b) ?_;simp;by_cases h:a<b
 . simp [h]
   apply RZ;simp [results272,NM,h]
 . by_cases h2:b<a
   . simp [h,h2]
     apply RZ;simp [results272,NM,h,h2]
   . simp [h,h2]
     apply RZ;simp [results272,NM,h,h2]
def orI:List Int->Int
 | []=>0
 | a::r=>if a=0 then orI r else a
abbrev Ch (l:List Int):D:= .sl 1 (l.map fun n=>[di n])
theorem kv (a b:Int):Ct prog 271 [.d (Ch [a,b])] (vi (orI [a,b])) []:=by
 refine CB func271 c271 fun E hE=>?_
 have hz:IntKind.wrap .i64 1=1:=by decide
 have hz2:IntKind.wrap .i64 2=2:=by decide
 simp [p271];refine Al (α:=Nat) (fun i=>⟨AO [(3,vi 0),(6, .d (Ch [a,b])),(7,vi 2),(8,vi i)],lk [],0⟩) (fun i=>i<=2/\(1<=i->a=0)/\(2<=i->b=0)) (fun i=>2-i) 0 ?_ ?_ ?_
 . simp
 . exact WK hE (lk [])
 . rintro i ⟨hi,h1,h2⟩
   simp [bX];obtain rfl | rfl | rfl:i=0\/i=1\/i=2:=by omega
   . by_cases h:a=0
     . simp [h,hz]
       refine ⟨1,by omega,by omega,?_⟩;exact WK hE (lk [])
     . simp [h]
       apply RZ;simp [results271,orI,h]
   . have ha:=h1 (by omega)
     by_cases h:b=0
     . simp [h,ha,hz2]
       refine ⟨2,by omega,by omega,?_⟩;exact WK hE (lk [])
     . simp [h,ha]
       apply RZ;simp [results271,orI,h]
   . have ha:=h1 (by omega)
     have hb:=h2 (by omega);simp [ha,hb];apply RZ;simp [results271,orI]
def Dw (a b:Int × Int):Int:=orI [NM a.1 b.1,NM a.2 b.2]
end Go.Proofs.Tryz
namespace Go.Air
structure Cel where
 rm:Int
 he:Int
 ai:Int
 wl:Int
 wh:Int
 lk:Int
 ow:Int
deriving DecidableEq,Inhabited
structure Atm where
 pl:Int
 ph:Int
 tl:Int
 th:Int
deriving DecidableEq,Inhabited
def rgB (lo hi:Int) (l:List Int):Bool:=l.all fun n=>decide (lo<=n)&&decide (n<=hi)
def spB (lo hi a b:Int):Bool:=rgB lo hi [a,b]&&decide (a<=b)
theorem CC {lo hi a b:Int}:spB lo hi a b=true↔lo<=a/\a<=b/\b<=hi:=by
 unfold spB rgB;simp;omega
def L3 (a:Atm):Bool:=spB 1000 12000 a.pl a.ph&&spB 1500 3500 a.tl a.th
def Je (c:Cel):Bool:=rgB 1 10000000 [c.rm]&&rgB 0 10000000 [c.he,c.ai]&&rgB 0 100000 [c.lk]&&rgB 0 999999 [c.ow]&&spB (-300) 300 c.wl c.wh
structure B5 (c:Cel):Prop where
 rm:1<=c.rm/\c.rm<=10000000
 he:0<=c.he/\c.he<=10000000
 ai:0<=c.ai/\c.ai<=10000000
 w: -300<=c.wl/\c.wl<=c.wh/\c.wh<=300
 lk:0<=c.lk/\c.lk<=100000
 ow:0<=c.ow/\c.ow<=999999
structure Fx (a:Atm):Prop where
 p:1000<=a.pl/\a.pl<=a.ph/\a.ph<=12000
 t:1500<=a.tl/\a.tl<=a.th/\a.th<=3500
theorem Dm {c:Cel}:Je c=true↔B5 c:=by
 unfold Je;simp only [Bool.and_eq_true,CC];unfold rgB;simp;constructor
 . rintro ⟨⟨⟨⟨h1,h2⟩,h3⟩,h4⟩,h5⟩;exact ⟨h1,by omega,by omega,h5,h3,by omega⟩
 . rintro ⟨h1,h2,h3,h4,h5,h6⟩;exact ⟨⟨⟨⟨h1,by omega⟩,h5⟩,by omega⟩,h4⟩
theorem VN {a:Atm}:L3 a=true↔Fx a:=by
 unfold L3;simp only [Bool.and_eq_true,CC];exact ⟨fun ⟨h1,h2⟩=>⟨h1,h2⟩,fun h=>⟨h.p,h.t⟩⟩
def am (c:Cel):Int:=c.he+c.ai
def fl (a b:Int):Int:=a/b
def ce (a b:Int):Int:= -(-a/b)
theorem ABy {a b:Int} (hb:0<b):fl a b=if a<0/\a.tmod b≠0 then a.tdiv b-1 else a.tdiv b:=by
 unfold fl;by_cases h:a<0
 . have e:a= -(-a):=by omega
   obtain ⟨x,rfl⟩:∃ x:Int,a= -x:=⟨-a,by omega⟩
   have hx:0<=x:=by omega
   rw [Int.neg_tdiv,Int.neg_tmod,Int.tdiv_eq_ediv_of_nonneg hx,Int.tmod_eq_emod_of_nonneg hx];have h1:=Int.mul_ediv_add_emod x b;have h2:=Int.emod_nonneg x (show b≠0 by omega);have h3:=Int.emod_lt_of_pos x hb
   have h4: -x/b=if x%b=0 then -(x/b) else -(x/b)-1:=by
     rw [Int.neg_ediv];have hs:b.sign=1:=Int.sign_eq_one_of_pos hb;rw [hs];by_cases hd:x%b=0
     . rw [if_pos (Int.dvd_of_emod_eq_zero hd),if_pos hd];omega
     . rw [if_neg (fun h=>hd (Int.emod_eq_zero_of_dvd h)),if_neg hd]
   rw [h4];by_cases hd:x%b=0
   . rw [if_pos hd,if_neg (by rw [hd];simp)]
   . rw [if_neg hd,if_pos ⟨by omega,by simpa using hd⟩]
 . rw [if_neg (by omega),Int.tdiv_eq_ediv_of_nonneg (by omega)]
def Bx (c:Cel) (a:Atm):Int × Int:=
 (min (fl (29*am c*c.wl) a.tl) (fl (29*am c*c.wl) a.th)+25*c.he,max (ce (29*am c*c.wh) a.tl) (ce (29*am c*c.wh) a.th)+25*c.he)
theorem S7 {a b d:Int} (hd:0<d) (h:a<=b):fl a d<=fl b d:=Int.ediv_le_ediv hd h
theorem S8 {a b d:Int} (hd:0<d) (h:a<=b):ce a d<=ce b d:=by
 have:=Int.ediv_le_ediv hd (show -b<= -a by omega);unfold ce;omega
theorem VO {c:Cel} {a:Atm} (hc:B5 c) (ha:Fx a):
   min (min (min (fl (29*am c*c.wl) a.tl) (fl (29*am c*c.wl) a.th)) (fl (29*am c*c.wh) a.tl)) (fl (29*am c*c.wh) a.th)=min (fl (29*am c*c.wl) a.tl) (fl (29*am c*c.wl) a.th)/\
   max (max (max (ce (29*am c*c.wl) a.tl) (ce (29*am c*c.wl) a.th)) (ce (29*am c*c.wh) a.tl)) (ce (29*am c*c.wh) a.th)=max (ce (29*am c*c.wh) a.tl) (ce (29*am c*c.wh) a.th):=by
 have h0:0<=29*am c:=by have:=hc.he;have:=hc.ai;unfold am;omega
 have hm:29*am c*c.wl<=29*am c*c.wh:=Int.mul_le_mul_of_nonneg_left hc.w.2.1 h0;have t:=ha.t;have k1:=S7 (d:=a.tl) (by omega) hm;have k2:=S7 (d:=a.th) (by omega) hm;have k3:=S8 (d:=a.tl) (by omega) hm;have k4:=S8 (d:=a.th) (by omega) hm;omega
def Lh (c:Cel) (a:Atm):Int:=if am c*(a.th+c.wh)<=c.rm*a.pl then 1 else if c.rm*a.ph<am c*(a.tl+c.wl) then 3 else 2
def Pe (c:Cel) (a:Atm):Int × Int:=(max (am c-fl (c.rm*a.ph) (a.tl+c.wl)) 0,max (am c-fl (c.rm*a.pl) (a.th+c.wh)) 0)
theorem ig {c:Cel} (h:B5 c):0<=am c/\am c<=20000000:=by have:=h.he;have:=h.ai;unfold am;omega
theorem sD {x y X Y:Int} (hx: -X<=x/\x<=X) (hy: -Y<=y/\y<=Y): -(X*Y)<=x*y/\x*y<=X*Y:=by
 have h1:0<=(X-x)*(Y+y):=Int.mul_nonneg (by omega) (by omega);have h2:0<=(X+x)*(Y-y):=Int.mul_nonneg (by omega) (by omega);have h3:0<=(X-x)*(Y-y):=Int.mul_nonneg (by omega) (by omega);have h4:0<=(X+x)*(Y+y):=Int.mul_nonneg (by omega) (by omega);have e1:(X-x)*(Y+y)=X*Y+X*y-x*Y-x*y:=by grind
 have e2:(X+x)*(Y-y)=X*Y-X*y+x*Y-x*y:=by grind
 have e3:(X-x)*(Y-y)=X*Y-X*y-x*Y+x*y:=by grind
 have e4:(X+x)*(Y+y)=X*Y+X*y+x*Y+x*y:=by grind
 omega
end Go.Air
namespace Go.Proofs.Tryz
open Go.Psl
open Go.Air
abbrev AP (c:Cel):List D:=[di c.rm,di c.he,di c.ai,di c.wl,di c.wh,di c.lk,di c.ow]
abbrev Ky (c:Cel):V:= .agg [vi c.rm,vi c.he,vi c.ai,vi c.wl,vi c.wh,vi c.lk,vi c.ow]
abbrev AX (l:List Cel):D:= .sl 7 (l.map AP)
abbrev Ox (a:Atm):V:= .agg [vi a.pl,vi a.ph,vi a.tl,vi a.th]
theorem ZH {lo hi:Int} {l:List Int} {i:Nat} {n:Int} (h:l[i]?= some n):rgB lo hi (l.take (i+1))=(rgB lo hi (l.take i)&&(decide (lo<=n)&&decide (n<=hi))):=by
 simp [rgB,List.take_add_one,h]
theorem TQ {lo hi:Int} {l:List Int} {i:Nat} {n:Int} (h:l[i]?= some n) (hb:n<lo\/hi<n):rgB lo hi l=false:=by
 unfold rgB;rw [List.all_eq_false];exact ⟨n,List.mem_of_getElem? h,by simp;omega⟩
theorem Bq (lo hi:Int) (l:List Int) (hl:l.length<=1000000):Ct prog 112 [vi lo,vi hi, .d (Ch l)] (vb (rgB lo hi l)) []:=by
 refine CB func112 c112 fun E hE=>?_
 simp [p112];refine Al (α:=Nat) (fun i=>⟨AO [(0,vi lo),(1,vi hi),(9, .d (Ch l)),(10,vi l.length),(11,vi i)],lk [],0⟩) (fun i=>i<=l.length/\rgB lo hi (l.take i)=true) (fun i=>l.length-i) 0 ?_ ?_ ?_
 . simp [rgB]
 . exact WK hE (lk [])
 . rintro i ⟨hi',hf⟩
   by_cases h:i<l.length
   . obtain ⟨n,hn⟩:=gE h
     have hz:=@wz i (by omega);have hI:(i:Int)<l.length:=by omega
     have hnx:=ZH (lo:=lo) (hi:=hi) hn;by_cases h1:n<lo
     . simp [sO,hI,hn,h1]
       apply RZ;simp [results112,TQ hn (Or.inl h1)]
     . by_cases h2:hi<n
       . simp [sO,hI,hn,h1,h2]
         apply RZ;simp [results112,TQ hn (Or.inr h2)]
       . simp [sO,hI,hn,h1,h2,hz]
         refine ⟨i+1,⟨by omega,by rw [hnx,hf];simp;omega⟩,by omega,?_⟩;exact WK hE (lk [])
   . have e:i=l.length:=by omega
     have hn:¬ (i:Int)<l.length:=by omega
     rw [e,List.take_length] at hf;simp [sO,hn];apply RZ;simp [results112,hf]
theorem AG {H:Hp} {id:Nat} {a:Int} (h:H id=some [vi a]):Bor H (.ls id 0 1 1) (.d (Ch [a])):=by
 rw [Bk];exact ⟨rfl,rfl,by simp,_,h,rfl⟩
theorem Ap {H:Hp} {id:Nat} {a b:Int} (h:H id=some [vi a,vi b]):Bor H (.ls id 0 2 1) (.d (Ch [a,b])):=by
 rw [Bk];exact ⟨rfl,rfl,by simp,_,h,rfl⟩
theorem ZI (lo hi a b:Int):Ct prog 179 [vsp a b,vi lo,vi hi] (vb (spB lo hi a b)) []:=by
 have c:=Bq lo hi [a,b] (by simp);refine CB func179 c179 fun E hE=>?_
 cases h:rgB lo hi [a,b]
 . rw [h] at c
   simp [p179,AA,AM];refine CLb (c) (by simp [Ap]) ?_;simp;apply RZ;simp [results179,spB,h]
 . rw [h] at c
   simp [p179,AA,AM];refine CLb (c) (by simp [Ap]) ?_;simp;apply RZ;simp [results179,spB,h]
theorem pN (a b:Int):Ct prog 257 [vsp a b] (vb (spB 1500 3500 a b)) []:=by
 refine CB func257 c257 fun E hE=>?_
 simp [p257];refine CLa (ZI 1500 3500 a b) ?_;simp;apply RZ;simp [results257]
theorem pO (a:Atm):Ct prog 191 [Ox a] (vi (if L3 a then 0 else 30)) []:=by
 have c1:=ZI 1000 12000 a.pl a.ph;have c2:=pN a.tl a.th;refine CB func191 c191 fun E hE=>?_
 cases h1:spB 1000 12000 a.pl a.ph
 . rw [h1] at c1
   simp [p191];refine CLa c1 ?_;simp;apply RZ;simp [results191,L3,h1]
 . rw [h1] at c1
   cases h2:spB 1500 3500 a.tl a.th
   . rw [h2] at c2
     simp [p191];refine CLa c1 ?_;simp;refine CLa c2 ?_;simp;apply RZ;simp [results191,L3,h1,h2]
   . rw [h2] at c2
     simp [p191];refine CLa c1 ?_;simp;refine CLa c2 ?_;simp;apply RZ;simp [results191,L3,h1,h2]
theorem ir (c:Cel):Ct prog 116 [Ky c] (vi (if Je c then 0 else 31)) []:=by
 have c1:=Bq 1 10000000 [c.rm] (by simp);have c2:=Bq 0 10000000 [c.he,c.ai] (by simp);have c3:=Bq 0 100000 [c.lk] (by simp);have c4:=Bq 0 999999 [c.ow] (by simp);have c5:=ZI (-300) 300 c.wl c.wh;have e:Je c=(rgB 1 10000000 [c.rm]&&rgB 0 10000000 [c.he,c.ai]&&rgB 0 100000 [c.lk]&&rgB 0 999999 [c.ow]&&spB (-300) 300 c.wl c.wh):=rfl
 generalize rgB 1 10000000 [c.rm]=b1 at*
 generalize rgB 0 10000000 [c.he,c.ai]=b2 at*
 generalize rgB 0 100000 [c.lk]=b3 at*
 generalize rgB 0 999999 [c.ow]=b4 at*
 generalize spB (-300) 300 c.wl c.wh=b5 at*
 rw [e];refine CB func116 c116 fun E hE=>?_
 cases b1<;>cases b2<;>cases b3<;>cases b4<;>cases b5<;>(
   simp [p116,AA,AM]
   repeat ((first | (refine CLt c1 ?_ ?_;focus (simp [AG];done)) | (refine CLt c2 ?_ ?_;focus (simp [Ap];done)) | (refine CLt c3 ?_ ?_;focus (simp [AG];done)) | (refine CLt c4 ?_ ?_;focus (simp [AG];done)) | (refine CLt c5 ?_ ?_;focus (simp;done)));simp [AA,AM])
   apply RZ;simp [results116])
end Go.Proofs.Tryz
namespace Go.Psl
variable {P:Program} {G:Gh} {W:World} {H:Hp}
def Jw (G:Gh) (H:Hp) (b:Nat):Prop:=G.Im b\/∃ i,InH H i/\G.ph i=false/\G.β i=b
theorem fz0 (hp:∀ id cs,H id=some cs->HB G W id cs) {v c:V} {x:Value} (hb:Df H v c) (hx:RV G W v x):R0 {G with Im:=Jw G H} W c x:=by
 have him:∀ b,G.Im b->Jw G H b/\W.heap[b]?= W.heap[b]?:= fun b hb=>⟨.inl hb,rfl⟩
 have hless:∀ i cs,H i=some cs->H i=some cs/\True:=fun i cs h=>by
   exact ⟨h,trivial⟩
 unfold Df at hb;split at hb
 . rename_i y z
   rcases hb with rfl | ⟨rfl,sz,rfl⟩
   . exact RD.mono (x:=y) hx him
   . have:=BO hx
     subst this;exact RD.sl sz [] none 0 (fun _ _=>undef) (by simp) (by simp [maxL]) (by simp) (by simp) (by simp)
 . rename_i id off len sz sz' es
   obtain ⟨rfl,hl,hes,cs,hh0,hcs⟩:=hb;obtain ⟨hh,hnin⟩:=hless _ _ hh0;obtain ⟨hml,⟨hph,h0,rfl⟩ | ⟨hph,o',cap,rfl,hcap,hoff⟩⟩:=hx
   . have:es=[]:=List.eq_nil_of_length_eq_zero (by omega)
     subst this;exact RD.sl sz' [] none 0 (fun _ _=>undef) (by simp) (by simp [maxL]) (by simp) (by simp) (by simp)
   . obtain ⟨_,c,T,hg,hbs,hcl,hcr,_⟩:=(hp id cs hh).read hph
     have hfl:=B3 es hes;have hlen:((cs.drop off).take (len*sz')).length=len*sz':=by rw [hcs,List.length_map,hfl,hl]
     have hfit:off+len*sz'<=cs.length\/len*sz'=0:=by simp at hlen;omega
     subst hl;refine RD.sl sz' es (some ⟨G.β id,o',none⟩) cap (fun i j=>c.toList.getD (off+i*sz'+j) undef) hes hml hcap (fun i e he=>⟨_,rfl, .inr ⟨id,by show (H id).isSome=true;rw [hh];rfl,hph.1,rfl⟩,fun j y hy=>?_⟩) (fun i e he j y hy=>?_)
     all_goals
       have hil:i<es.length:=(List.getElem?_eq_some_iff.1 he).1;have hel:=hes e (List.mem_of_getElem? he);have hjl:j<sz':=by have:=(List.getElem?_eq_some_iff.1 hy).1;omega
       have hij:i*sz'+j<es.length*sz':=by
         have:(i+1)*sz'<=es.length*sz':=Nat.mul_le_mul_right _ hil;rw [Nat.add_mul] at this;omega
       have hfit':off+es.length*sz'<=cs.length:=by omega
       have hcell:cs[off+(i*sz'+j)]?= some (.d y):=by
         have h1:((cs.drop off).take (es.length*sz'))[i*sz'+j]?= some (V.d y):=by
           rw [hcs,List.getElem?_map,CI (by omega) es hes];have e1:(i*sz'+j)/sz'=i:=by rw [Nat.add_comm,Nat.add_mul_div_right _ _ (by omega),Nat.div_eq_of_lt hjl];omega
           have e2:(i*sz'+j)%sz'=j:=by rw [Nat.add_comm,Nat.add_mul_mod_self_right,Nat.mod_eq_of_lt hjl]
           rw [e1,e2,he];simp [hy]
         rw [List.getElem?_take,if_pos hij,List.getElem?_drop] at h1;exact h1
       obtain ⟨u,hu,hru⟩:=hcr.get hcell;rw [List.getElem?_take] at hu;split at hu
       rotate_left
       . cases hu
     . obtain ⟨rfl,_⟩:=hoff (by omega)
       rw [Bc];simp only [World.cell?,hg];rw [Array.getElem?_toList] at hu
       have h2:c.toList.getD (o'+i*sz'+j) undef=u:=by
         rw [List.getD_eq_getElem?_getD,Array.getElem?_toList,show o'+i*sz'+j=o'+(i*sz'+j) by omega,hu];rfl
       rw [h2];simpa using hu
     . have h2:c.toList.getD (off+i*sz'+j) undef=u:=by
         rw [List.getD_eq_getElem?_getD,show off+i*sz'+j=off+(i*sz'+j) by omega,hu];rfl
       show RD _ _ y (c.toList.getD (off+i*sz'+j) undef)
       rw [h2];exact RD.mono (x:=y) hru him
 . rename_i id off ds
   obtain ⟨cs,hh0,hcs⟩:=hb;obtain ⟨hh,hnin⟩:=hless _ _ hh0;obtain ⟨hph,rfl⟩:(G.ph id=false/\G.lo id=false)/\x= .pointer (some ⟨G.β id,off,none⟩):=hx;obtain ⟨_,c,T,hg,hbs,hcl,hcr,_⟩:=(hp id cs hh).read hph
   have get:∀ (j:Nat) y,ds[j]?= some y->∃ u,c.toList[off+j]?= some u/\RD (Jw G H) W y u:=fun j y hy=>by
     have hj:=(List.getElem?_eq_some_iff.1 hy).1;have h1:((cs.drop off).take ds.length)[j]?= some (V.d y):=by rw [hcs,List.getElem?_map,hy];rfl
     rw [List.getElem?_take,if_pos hj,List.getElem?_drop] at h1;obtain ⟨u,hu,hru⟩:=hcr.get h1;rw [List.getElem?_take] at hu;split at hu
     . exact ⟨u,hu,RD.mono (x:=y) hru him⟩
     . cases hu
   refine RD.ref ds _ (fun j=>c.toList.getD (off+j) undef) (.inr ⟨id,by show (H id).isSome=true;rw [hh];rfl,hph.1,rfl⟩) (fun j y hy=>?_) (fun j y hy=>?_)
   . obtain ⟨u,hu,_⟩:=get j y hy
     rw [Bc,List.getD_eq_getElem?_getD,hu];simp only [World.cell?,hg];simpa using hu
   . obtain ⟨u,hu,hr⟩:=get j y hy
     rw [List.getD_eq_getElem?_getD,hu];exact hr
 . rename_i f caps g ds
   obtain ⟨rfl,rfl⟩:=hb;obtain ⟨cv,rfl,hcr⟩:=hx;have hl:=hcr.length;refine RD.fn f ds cv (by simpa using hl.symm) fun j y v hy hv=>?_
   have h1:(ds.map V.d)[j]?= some (V.d y):=by rw [List.getElem?_map,hy];rfl
   obtain ⟨u,hu,hru⟩:=hcr.get h1;rw [Array.getElem?_toList,hv] at hu;cases hu;exact RD.mono (x:=y) hru him
 . obtain ⟨rfl,rfl⟩:=hb;exact hx
 . obtain ⟨rfl,rfl,rfl,rfl⟩:=hb;exact hx
 . have hb:_=_:=hb;subst hb;exact hx
 . exact hb.elim
def FzC (H:Hp) (v c:V):Prop:=∃ y,c= .d y/\Df H v (.d y)
def FzR (H:Hp) (v c:V):Prop:=Df H v c\/∃ id off cs ds,v= .lp id off/\c= .d (.ref ds)/\H id=some cs/\AJ (fun c y=>Df H c (.d y)) ((cs.drop off).take ds.length) ds
theorem fz0r (hp:∀ id cs,H id=some cs->HB G W id cs) {v c:V} {x:Value} (hb:FzR H v c) (hx:RV G W v x):R0 {G with Im:=Jw G H} W c x:=by
 rcases hb with hb | ⟨id,off,cs,ds,rfl,rfl,hh,hcs⟩
 . exact fz0 hp hb hx
 obtain ⟨hph,rfl⟩:(G.ph id=false/\G.lo id=false)/\x= .pointer (some ⟨G.β id,off,none⟩):=hx;obtain ⟨_,c,T,hg,hbs,hcl,hcr,_⟩:=(hp id cs hh).read hph
 have get:∀ (j:Nat) y,ds[j]?= some y->∃ u,c.toList[off+j]?= some u/\RD (Jw G H) W y u:=fun j y hy=>by
   obtain ⟨v,hv,hvy⟩:=hcs.get2 hy;have hj:=(List.getElem?_eq_some_iff.1 hy).1;rw [List.getElem?_take,if_pos hj,List.getElem?_drop] at hv;obtain ⟨u,hu,hru⟩:=hcr.get hv;rw [List.getElem?_take] at hu;split at hu
   . exact ⟨u,hu,fz0 hp hvy (R2.rv (R1.r2 hru))⟩
   . cases hu
 refine RD.ref ds _ (fun j=>c.toList.getD (off+j) undef) (.inr ⟨id,by show (H id).isSome=true;rw [hh];rfl,hph.1,rfl⟩) (fun j y hy=>?_) (fun j y hy=>?_)
 . obtain ⟨u,hu,_⟩:=get j y hy
   rw [Bc,List.getD_eq_getElem?_getD,hu];simp only [World.cell?,hg];simpa using hu
 . obtain ⟨u,hu,hr⟩:=get j y hy
   rw [List.getD_eq_getElem?_getD,hu];exact hr
def Fz1 (H:Hp):V->V->Prop
 | .agg cs, .agg ds=>AJ (FzC H) cs ds
 | .cl f caps, .d (.fn g ds)=>f=g/\AJ (FzR H) caps (ds.map .d)
 | v, .d y=>Df H v (.d y)
 | _,_=>False
def Fz (H:Hp):V->V->Prop
 | .tup vs, .tup ws=>AJ (Fz1 H) vs ws
 | v,w=>Fz1 H v w
theorem fz1 (hp:∀ id cs,H id=some cs->HB G W id cs) {v c:V} {x:Value} (hb:Fz1 H v c) (hx:R2 G W v x):R2 {G with Im:=Jw G H} W c x:=by
 unfold Fz1 at hb;split at hb
 . rename_i cs ds
   obtain ⟨cv,rfl,hr⟩:=hx;refine ⟨cv,rfl,AJ.of_get (by rw [<-hb.length,hr.length]) fun i d z hd hz=>?_⟩;obtain ⟨c,hc,y,rfl,hy⟩:=hb.get2 hd;obtain ⟨u,hu,hru⟩:=hr.get hc;rw [hz] at hu;cases hu;exact R0.r1 (fz0 hp hy (R2.rv (R1.r2 hru)))
 . rename_i f caps g ds
   obtain ⟨rfl,hc⟩:=hb;obtain ⟨cv,rfl,hr⟩:=hx;have hl:cv.size=ds.length:=by have h1:=hc.length;have h2:=hr.length;simp at h1 h2;omega
   refine RD.fn f ds cv hl fun j y z hy hz=>?_
   obtain ⟨c,hcj,hcy⟩:=hc.get2 (show (ds.map V.d)[j]?= some (.d y) by rw [List.getElem?_map,hy];rfl);obtain ⟨u,hu,hru⟩:=hr.get hcj;rw [Array.getElem?_toList,hz] at hu;cases hu;exact fz0r hp hcy (R2.rv (R1.r2 (R0.r1 hru)))
 . refine R1.r2 (R0.r1 (fz0 hp hb (R2.rv hx)))
 . exact hb.elim
theorem Zc {v c:V} (hb:Fz1 H v c):A2 (fun _=>False) AR c:=by
 unfold Fz1 at hb;split at hb
 . rename_i cs ds
   intro d hd;obtain ⟨i,hi⟩:=List.getElem?_of_mem hd;obtain ⟨c,_,y,rfl,_⟩:=hb.get2 hi;trivial
 . trivial
 . trivial
 . exact hb.elim
theorem ku (hp:∀ id cs,H id=some cs->HB G W id cs) {v c:V} {x:Value} (hb:Fz H v c) (hx:RV G W v x):RV {G with Im:=Jw G H} W c x:=by
 unfold Fz at hb;split at hb
 . rename_i vs ws
   obtain ⟨cv,rfl,hr⟩:=hx;refine ⟨cv,rfl,AJ.of_get (by rw [<-hb.length,hr.length]) fun i y z hy hz=>?_⟩;obtain ⟨w,hw,hbw⟩:=hb.get2 hy;obtain ⟨u,hu,hru⟩:=hr.get hw;rw [hz] at hu;cases hu;exact fz1 hp hbw hru
 . refine R2.rv (fz1 hp hb ?_)
   cases v<;>first | exact hx | (exfalso;revert hb;cases c<;>simp [Fz1,Df];done)
theorem pX {v c:V} (hb:Fz H v c):AV (fun _=>False) AR c:=by
 unfold Fz at hb;split at hb
 . rename_i vs ws
   intro w hw;obtain ⟨i,hi⟩:=List.getElem?_of_mem hw;obtain ⟨u,_,hu⟩:=hb.get2 hi;exact Zc hu
 . have:=Zc hb
   cases c<;>first | exact this | (revert hb;simp [Fz1];done)
theorem Cm.freeze {f:FuncId} {args:List V} {Hin:Hp} {r r':V} {H1:Hp} (h:Cm P f args Hin [] (.ret r) H1) (hf:Fz H1 r r'):Cm P f args Hin [] (.ret r') (fun _=>none):=by
 refine ⟨h.1,fun G W xs him hargs hpre=>Calls.mono (h.2 G W xs him hargs hpre) fun e W' ⟨G',p⟩=>?_⟩;have hB:∀ id cs,H1 id=some cs->HB G' W' id cs:=fun id cs hid=>(p.hb id cs hid).1
 have hblk:∀ i,InH H1 i->G'.ph i=false->G'.β i<W'.heap.size:=fun i hi hph=>by
   cases hc:H1 i with
   | none=>simp [InH,hc] at hi
   | some cs=>
     rcases hB i cs hc with ⟨h1,_⟩ | ⟨_,_,_,c,T,h3,_⟩ | ⟨_,_,_,⟨_,fr,nt,ps,pa,pb,jmp,rec,_,h4,_⟩ | ⟨_,es,ms,ck,_,h4,_⟩⟩
     . rw [h1] at hph;cases hph
     . exact (Array.getElem?_eq_some_iff.1 h3).1
     . exact (Array.getElem?_eq_some_iff.1 h4).1
     . exact (Array.getElem?_eq_some_iff.1 h4).1
 refine ⟨{G' with Im:=Jw G' H1},p.os,p.tape,p.output,p.drawn,p.size,p.block,fun b hb=>?_,fun b hb=> .inl (p.im0 b hb),?_,?_,fun i cs h=>(by cases h),fun i j h=>(by simp [InH] at h),fun i h=>(by cases h)⟩
 . rcases hb with hb | ⟨i,hi,hph,rfl⟩
   . exact p.im b hb
   . refine ⟨hblk i hi hph, .inr ?_⟩
     cases hc:H1 i with
     | none=>simp [InH,hc] at hi
     | some cs=>exact (p.hb i cs hc).2.1 hph
 . have hrv:=p.rv
   cases e with
   | returned v=>exact ku hB hf hrv
   | _=>exact hrv.elim
 . show AV (InH fun _=>none) AR r'
   exact AV.mono (fun _ h=>h.elim) (fun _ h=>h) (pX hf)
end Go.Psl
namespace Go.Psl
variable {α:Type} {f:α->List D} {sz:Nat}
abbrev slD (f:α->List D) (sz:Nat) (l:List α):D:= .sl sz (l.map f)
def AH (f:α->List D) (l:List α):List V:=((l.map f).flatten).map .d
theorem ZA:AH f []=[]:=rfl
theorem CQ (x:α) (l:List α):AH f (x::l)=(f x).map .d++AH f l:=by simp [AH]
theorem ZB (l m:List α):AH f l++AH f m=AH f (l++m):=by simp [AH]
theorem IV (l:List α) (x:α):AH f (l++[x])=AH f l++(f x).map .d:=by simp [AH]
theorem BU {l:List α}:∀ v∈AH f l,v.isCell=true:=fun v hv=>by
 obtain ⟨y,_,rfl⟩:=List.mem_map.1 hv;rfl
theorem Aw (hf:∀ x,(f x).length=sz):∀ l:List α,(AH f l).length=l.length*sz
 | []=>by simp [ZA]
 | x::r=>by rw [CQ,List.length_append,List.length_map,hf,Aw hf r,List.length_cons,Nat.succ_mul];omega
theorem VY (hf:∀ x,(f x).length=sz) (l m:List α):(AH f (l++m)).take (l.length*sz)=AH f l:=by
 rw [<-ZB,List.take_left' (Aw hf l)]
theorem E9 (hf:∀ x,(f x).length=sz) (l:List α):(AH f l).take (l.length*sz)=AH f l:=by
 rw [<-Aw hf,List.take_length]
theorem GU (hf:∀ x,(f x).length=sz):∀ {l:List α} {i:Nat} {x:α},l[i]?= some x->∃ m,(AH f l).drop (i*sz)=(f x).map .d++m
 | [],_,_,h=>by simp at h
 | a::r,0,x,h=>by
   simp at h;subst h;exact ⟨AH f r,by rw [CQ];simp⟩
 | a::r,i+1,x,h=>by
   obtain ⟨m,hm⟩:=GU hf (l:=r) (i:=i) (x:=x) (by simpa using h);refine ⟨m,?_⟩;rw [CQ,Nat.succ_mul,Nat.add_comm (i*sz) sz,<-List.drop_drop,List.drop_left' (by rw [List.length_map,hf])];exact hm
theorem J2 (hf:∀ x,(f x).length=sz) {l:List α} {i:Nat} {x:α} (h:l[i]?= some x):((AH f l).drop (i*sz)).take sz=(f x).map .d:=by
 obtain ⟨m,hm⟩:=GU hf h;rw [hm,List.take_left' (by rw [List.length_map,hf])]
theorem Bg (hf:∀ x,(f x).length=sz) {l:List α} {i j k:Nat} {x:α} (h:l[i]?= some x) (hj:j+k<=sz):((AH f l).drop (i*sz+j)).take k=(((f x).drop j).take k).map .d:=by
 obtain ⟨m,hm⟩:=GU hf h;rw [<-List.drop_drop,hm,List.drop_append_of_le_length (by rw [List.length_map,hf];omega),List.take_append_of_le_length (by rw [List.length_drop,List.length_map,hf];omega),List.map_take,List.map_drop]
theorem Jg (hf:∀ x,(f x).length=sz) {l:List α} {i j:Nat} {x:α} {y:D} (h:l[i]?= some x) (hy:(f x)[j]?= some y):(AH f l)[i*sz+j]?= some (.d y):=by
 obtain ⟨m,hm⟩:=GU hf h;have hj:=(List.getElem?_eq_some_iff.1 hy).1;rw [<-List.getElem?_drop,hm,List.getElem?_append_left (by simpa using hj),List.getElem?_map,hy];rfl
theorem IW (_:∀ x,(f x).length=sz) {l:List α} {i:Nat} {x:α} (h:l[i]?= some x):i*sz+sz<=l.length*sz:=by
 have:=(List.getElem?_eq_some_iff.1 h).1;have:=Nat.mul_le_mul_right sz this;rw [Nat.succ_mul] at this;exact this
theorem Cq (hf:∀ x,(f x).length=sz):∀ {l:List α} {i:Nat} {x y:α} {j:Nat} {vs:List D},l[i]?= some x->j+vs.length<=sz->f y=(f x).take j++vs++(f x).drop (j+vs.length)->AA (AH f l) (i*sz+j) (vs.map .d)=AH f (l.set i y)
 | [],_,_,_,_,_,h,_,_=>by simp at h
 | a::r,0,x,y,j,vs,h,hj,hy=>by
   simp at h;subst h;have ha:((f a).map V.d).length=sz:=by rw [List.length_map,hf]
   rw [List.set_cons_zero,CQ,CQ,hy];unfold AA;rw [Nat.zero_mul,Nat.zero_add,List.take_append_of_le_length (by omega),List.length_map,List.drop_append_of_le_length (by omega)];simp [List.map_take,List.map_drop]
 | a::r,i+1,x,y,j,vs,h,hj,hy=>by
   have ih:=Cq hf (l:=r) (i:=i) (x:=x) (y:=y) (j:=j) (vs:=vs) (by simpa using h) hj hy;have ha:((f a).map V.d).length=sz:=by rw [List.length_map,hf]
   rw [List.set_cons_succ,CQ,CQ,<-ih];unfold AA;have e1:(i+1)*sz+j=((f a).map V.d).length+(i*sz+j):=by rw [ha,Nat.succ_mul];omega
   rw [e1,List.take_length_add_append,Nat.add_assoc,List.drop_length_add_append];simp
theorem VZ (hf:∀ x,(f x).length=sz) {H:Hp} {id:Nat} {l z:List α} (h:H id=some (AH f (l++z))):Bor H (.ls id 0 l.length sz) (.d (slD f sz l)):=by
 rw [Bk];refine ⟨rfl,by simp,fun e he=>?_,_,h,?_⟩
 . obtain ⟨k,_,rfl⟩:=List.mem_map.1 he;exact hf k
 . rw [List.drop_zero,VY hf];rfl
theorem B0 (hf:∀ x,(f x).length=sz) {H:Hp} {id:Nat} {l:List α} (h:H id=some (AH f l)):Bor H (.ls id 0 l.length sz) (.d (slD f sz l)):=
 VZ hf (z:=[]) (by rw [List.append_nil];exact h)
def hdF (sz:Nat) (l:List α) (b:Nat):V:=if l.isEmpty then .d (.lit (.slice none 0 0)) else .ls b 0 l.length sz
def ouF (f:α->List D) (l:List α) (b:Nat):List (Nat × List V):=if l.isEmpty then [] else [(b,AH f l)]
theorem Aq (b:Nat):hdF sz ([]:List α) b= .d (.lit (.slice none 0 0)):=rfl
theorem Au (b:Nat):ouF f [] b=[]:=rfl
theorem Ak {l:List α} (h:l≠[]) (b:Nat):hdF sz l b= .ls b 0 l.length sz:=by
 unfold hdF;cases l with
 | nil=>exact absurd rfl h
 | cons=>rfl
theorem AZ {l:List α} (h:l≠[]) (b:Nat):ouF f l b=[(b,AH f l)]:=by
 unfold ouF;cases l with
 | nil=>exact absurd rfl h
 | cons=>rfl
theorem AIo (hf:∀ x,(f x).length=sz) (l:List α):Fz1 (lk (ouF f l 0)) (hdF sz l 0) (.d (slD f sz l)):=by
 by_cases h:l=[]
 . subst h;exact Or.inr ⟨rfl,sz,rfl⟩
 . rw [Ak h,AZ h]
   have:Bor (lk [(0,AH f l)]) (.ls 0 0 l.length sz) (.d (slD f sz l)):=B0 hf (by simp);exact this
def ixF (q:α->Bool) (l:List α):Int:=match l.findIdx? q with | some i=>i | none=> -1
theorem IX {q:α->Bool} {l:List α} (h:∀ (j:Nat) (x:α),l[j]?= some x->q x=false):ixF q l= -1:=by
 unfold ixF
 have:l.findIdx? q=none:=by
   rw [List.findIdx?_eq_none_iff];intro p hp;obtain ⟨j,hj⟩:=List.getElem?_of_mem hp;exact h j p hj
 rw [this]
theorem IY {q:α->Bool} {l:List α} {i:Nat} {x:α} (hx:l[i]?= some x) (hq:q x=true) (h:∀ (j:Nat) (y:α),j<i->l[j]?= some y->q y=false):ixF q l=i:=by
 unfold ixF
 have:l.findIdx? q=some i:=by
   rw [List.findIdx?_eq_some_iff_getElem];obtain ⟨h1,h2⟩:=List.getElem?_eq_some_iff.1 hx;refine ⟨h1,by rw [h2];exact hq,fun j hj=>?_⟩;have:=h j l[j] hj (List.getElem?_eq_getElem (by omega));rw [this];simp
 rw [this]
theorem IZ (q:α->Bool) (l:List α):decide (0<=ixF q l)=l.any q:=by
 unfold ixF;cases h:l.findIdx? q with
 | none=>
   rw [List.findIdx?_eq_none_iff] at h;have h2:l.any q=false:=by rw [List.any_eq_false];intro x hx;rw [h x hx];simp
   rw [h2];rfl
 | some i=>
   rw [List.findIdx?_eq_some_iff_getElem] at h;obtain ⟨h1,h2,_⟩:=h;have:l.any q=true:=List.any_eq_true.2 ⟨_,List.getElem_mem h1,h2⟩;rw [this];simp
@[simp] theorem mT {ρ:Nat->Option Nat} {l:List α} {xs ys:List V}:AJ (WC ρ) (AH f l++xs) (AH f l++ys)=AJ (WC ρ) xs ys:=G7 _
@[simp] theorem ki {ρ:Nat->Option Nat} {l:List α}:AJ (WC ρ) (AH f l) (AH f l)=True:=LR _
@[simp] theorem pG {l:List α}:Bv (AH f l)=True:=eq_true HJ
@[simp] theorem pH {l:List α} {a b:D}:Bv (AH f l++[V.d a,V.d b])=True:=eq_true (FO rfl)
@[simp] theorem pI {l:List α} {a b c:D}:Bv (AH f l++[V.d a,V.d b,V.d c])=True:=eq_true (FO rfl)
@[simp] theorem AJC {l:List α} {a b c d:D}:Bv (AH f l++[V.d a,V.d b,V.d c,V.d d])=True:=eq_true (FO rfl)
theorem TL {l:List α} {p:Nat->Prop}:∀ c∈AH f l,AC p AR c:=fun c hc=>by
 obtain ⟨y,_,rfl⟩:=List.mem_map.1 hc;trivial
@[simp] theorem kj {l:List α} {p:Nat->Prop} {Q:V->Prop}:(∀ c,c∈AH f l\/Q c->AC p AR c)=∀ c,Q c->AC p AR c:=
 propext ⟨fun h c hc=>h c (Or.inr hc),fun h c hc=>hc.elim (TL c) (h c)⟩
@[simp] theorem pJ {l:List α} {p:Nat->Prop}:(∀ c,c∈AH f l->AC p AR c)=True:=eq_true TL
theorem Ou {l:List α} {p:Nat->Prop} (h:∀ x,∀ y∈f x,B9 y):∀ c∈AH f l,AC p B9 c:=fun c hc=>by
 obtain ⟨y,hy,rfl⟩:=List.mem_map.1 hc;obtain ⟨z,hz,hyz⟩:=List.mem_flatten.1 hy;obtain ⟨x,_,rfl⟩:=List.mem_map.1 hz;exact h x y hyz
@[simp] theorem pK {l:List α} (ρ:Nat->Nat):List.map (BJ ρ) (AH f l)=AH f l:=by
 unfold AH;rw [List.map_map];exact List.map_congr_left fun _ _=>rfl
theorem Ov {H:Hp}:∀ ds:List D,AJ (Bor H) (ds.map .d) (ds.map .d)
 | []=>by simp
 | d::ds=>by simp [Ov ds]
@[simp] theorem rN {H:Hp} (ds:List D):AJ (Bor H) (ds.map .d) (ds.map .d)=True:=eq_true (Ov ds)
end Go.Psl
namespace Go.Air
structure Lev where
 h:Int
 pl:Int
 ph:Int
 tl:Int
 th:Int
deriving DecidableEq,Inhabited
structure Lk (c w s:Int):Prop where
 s0:0<s
 sc:s<c
 cw:c<=w
def cdv (a b:Int):Int:=(a+b-1)/b
theorem K4 {a b k:Int} (hb:0<b):cdv a b<=k↔a<=k*b:=by
 unfold cdv;rw [show (a+b-1)/b<=k↔(a+b-1)/b<k+1 by omega,Int.ediv_lt_iff_lt_mul hb,Int.add_mul];omega
theorem K5 {a b k:Int} (hb:0<b):k<=cdv a b↔(k-1)*b<a:=by
 have:=K4 (a:=a) (k:=k-1) hb;omega
def CY (c s x:Int):Int:=x*(c-s)/c
def C9 (w s x:Int):Int:=cdv (x*w) (w+s)
def Cz (w s x:Int):Int:=x*(w+s)/w
def Ec (c s x:Int):Int:=cdv (x*c) (c-s)
section
variable {c w s:Int} (k:Lk c w s)
include k
theorem Lk.prod:(w+s)*(c-s)<=w*c:=by
 obtain ⟨h1,h2,h3⟩:=k;have e:(w+s)*(c-s)=w*c-s*(w-c)-s*s:=by grind
 have p1:0<=s*(w-c):=Int.mul_nonneg (by omega) (by omega);have p2:0<=s*s:=Int.mul_nonneg (by omega) (by omega);omega
theorem Lk.back1 {x:Int} (hx:0<=x):CY c s (Cz w s x)<=x:=by
 have hp:=k.prod;obtain ⟨h1,h2,h3⟩:=k;have hy:Cz w s x*w<=x*(w+s):=by unfold Cz;exact Int.ediv_mul_le _ (by omega)
 generalize Cz w s x=y at hy
 unfold CY
 have:y*(c-s)<=x*c:=by
   refine Int.le_of_mul_le_mul_left (a:=w) ?_ (by omega);have e1:w*(y*(c-s))=(y*w)*(c-s):=by grind
   have e2:(y*w)*(c-s)<=(x*(w+s))*(c-s):=Int.mul_le_mul_of_nonneg_right hy (by omega);have e3:(x*(w+s))*(c-s)=x*((w+s)*(c-s)):=by grind
   have e4:x*((w+s)*(c-s))<=x*(w*c):=Int.mul_le_mul_of_nonneg_left hp hx;have e5:x*(w*c)=w*(x*c):=by grind
   omega
 calc y*(c-s)/c<=(x*c)/c:=Int.ediv_le_ediv (by omega) this
   _=x:=Int.mul_ediv_cancel _ (by omega)
theorem Lk.back2 {x:Int} (hx:0<=x):x<=C9 w s (Ec c s x):=by
 have hp:=k.prod;obtain ⟨h1,h2,h3⟩:=k;have hy:x*c<=Ec c s x*(c-s):=by unfold Ec;exact (K4 (by omega)).1 (Int.le_refl _)
 generalize Ec c s x=y at hy
 unfold C9;rw [K5 (by omega)]
 have:x*(w+s)<=y*w:=by
   refine Int.le_of_mul_le_mul_left (a:=c-s) ?_ (by omega);have e1:(c-s)*(x*(w+s))=x*((w+s)*(c-s)):=by grind
   have e4:x*((w+s)*(c-s))<=x*(w*c):=Int.mul_le_mul_of_nonneg_left hp hx;have e5:x*(w*c)=(x*c)*w:=by grind
   have e6:(x*c)*w<=(y*(c-s))*w:=Int.mul_le_mul_of_nonneg_right hy (by omega);have e7:(y*(c-s))*w=(c-s)*(y*w):=by grind
   omega
 have:(x-1)*(w+s)=x*(w+s)-(w+s):=by rw [Int.sub_mul];omega
 omega
theorem Lk.pos1 {x:Int} (hx:0<=x):0<=Cz w s x:=Int.ediv_nonneg (Int.mul_nonneg hx (by have:=k.s0;have:=k.sc;have:=k.cw;omega)) (by have:=k.s0;have:=k.sc;have:=k.cw;omega)
theorem Lk.pos2 {x:Int} (hx:0<=x):0<=Ec c s x:=by
 obtain ⟨h1,h2,h3⟩:=k;unfold Ec;rw [K5 (by omega)];have:0<=x*c:=Int.mul_nonneg hx (by omega);omega
theorem Lk.pos3 {x:Int} (hx:0<=x):0<=C9 w s x:=by
 obtain ⟨h1,h2,h3⟩:=k;unfold C9;rw [K5 (by omega)];have:0<=x*w:=Int.mul_nonneg hx (by omega);omega
end
abbrev Tm:=Int->Int->Int × Int
def lc (T:Tm) (a b:Lev):Int:=1000000*(T a.h b.h).1
def lw (T:Tm) (a b:Lev):Int:=1000000*(T a.h b.h).2
def ls (a b:Lev):Int:=341632*(b.h-a.h)
def LkP (T:Tm) (a b:Lev):Prop:=Lk (lc T a b) (lw T a b) (ls a b)
def Lks (T:Tm):List Lev->Prop
 | a::b::r=>LkP T a b/\Lks T (b::r)
 | _=>True
def mt (b:Lev) (p:Int × Int):Lev:={b with pl:=max b.pl p.1,ph:=min b.ph p.2}
def cyu (T:Tm) (a b:Lev):Int × Int:=(CY (lc T a b) (ls a b) a.pl,C9 (lw T a b) (ls a b) a.ph)
def cyd (T:Tm) (a b:Lev):Int × Int:=(Cz (lw T a b) (ls a b) b.pl,Ec (lc T a b) (ls a b) b.ph)
def Sam (a b:Lev):Prop:=a.h=b.h/\a.tl=b.tl/\a.th=b.th
structure Le (a b:Lev):Prop where
 s:Sam a b
 lo:a.pl<=b.pl
 hi:b.ph<=a.ph
def Pos (a:Lev):Prop:=0<=a.pl/\0<=a.ph
def LeL:List Lev->List Lev->Prop
 | [],[]=>True
 | a::r,b::s=>Le a b/\LeL r s
 | _,_=>False
theorem Le.refl (a:Lev):Le a a:=⟨⟨rfl,rfl,rfl⟩,Int.le_refl _,Int.le_refl _⟩
theorem Le.trans {a b c:Lev} (h1:Le a b) (h2:Le b c):Le a c:=⟨⟨h1.s.1.trans h2.s.1,h1.s.2.1.trans h2.s.2.1,h1.s.2.2.trans h2.s.2.2⟩,Int.le_trans h1.lo h2.lo,Int.le_trans h2.hi h1.hi⟩
theorem Le.anti {a b:Lev} (h1:Le a b) (h2:Le b a):a=b:=by
 obtain ⟨⟨e1,e2,e3⟩,l1,l2⟩:=h1;obtain ⟨_,l3,l4⟩:=h2;cases a;cases b;simp_all;omega
theorem LeL.refl:∀ l:List Lev,LeL l l
 | []=>trivial
 | a::r=>⟨Le.refl a,LeL.refl r⟩
theorem LeL.trans:∀ {l m k:List Lev},LeL l m->LeL m k->LeL l k
 | [],[],[],_,_=>trivial
 | _::_,_::_,_::_,h1,h2=>⟨h1.1.trans h2.1,LeL.trans h1.2 h2.2⟩
 | [],_::_,_,h,_=>h.elim
 | _::_,[],_,h,_=>h.elim
 | _,[],_::_,_,h=>h.elim
 | _,_::_,[],_,h=>h.elim
theorem LeL.anti:∀ {l m:List Lev},LeL l m->LeL m l->l=m
 | [],[],_,_=>rfl
 | _::_,_::_,h1,h2=>by rw [h1.1.anti h2.1,LeL.anti h1.2 h2.2]
 | [],_::_,h,_=>h.elim
 | _::_,[],h,_=>h.elim
theorem LeL.len:∀ {l m:List Lev},LeL l m->l.length=m.length
 | [],[],_=>rfl
 | _::_,_::_,h=>by simp [LeL.len h.2]
 | [],_::_,h=>h.elim
 | _::_,[],h=>h.elim
theorem ZN {T:Tm} {a b a' b':Lev} (h1:Sam a a') (h2:Sam b b'):lc T a b=lc T a' b'/\lw T a b=lw T a' b'/\ls a b=ls a' b':=by
 unfold lc lw ls;rw [h1.1,h2.1];exact ⟨rfl,rfl,rfl⟩
theorem LkP.sam {T:Tm} {a b a' b':Lev} (h1:Sam a a') (h2:Sam b b') (h:LkP T a b):LkP T a' b':=by
 obtain ⟨e1,e2,e3⟩:=ZN (T:=T) h1 h2;unfold LkP at*
 rwa [<-e1,<-e2,<-e3]
theorem Lks.le {T:Tm}:∀ {l m:List Lev},LeL l m->Lks T l->Lks T m
 | [],[],_,_=>trivial
 | [_],[_],_,_=>trivial
 | _::b::r,_::b'::r',h,hk=>⟨hk.1.sam h.1.s h.2.1.s,Lks.le (l:=b::r) (m:=b'::r') h.2 hk.2⟩
 | [],_::_,h,_=>h.elim
 | _::_,[],h,_=>h.elim
 | [_],_::_::_,h,_=>h.2.elim
 | _::_::_,[_],h,_=>h.2.elim
theorem MI (b:Lev) (p:Int × Int):Le b (mt b p):=⟨⟨rfl,rfl,rfl⟩,by unfold mt;simp only;omega,by unfold mt;simp only;omega⟩
def upL (T:Tm):Lev->List Lev->List Lev
 | _,[]=>[]
 | a,b::r=>mt b (cyu T a b)::upL T (mt b (cyu T a b)) r
def Jv (T:Tm):List Lev->List Lev
 | []=>[]
 | a::r=>a::upL T a r
def dnC (T:Tm) (a:Lev):List Lev->List Lev
 | []=>[a]
 | b::r=>mt a (cyd T a b)::b::r
def dnS (T:Tm):List Lev->List Lev
 | []=>[]
 | a::r=>dnC T a (dnS T r)
def O4 (T:Tm) (l:List Lev):List Lev:=dnS T (Jv T l)
theorem ZO {T:Tm}:∀ (l:List Lev) (a:Lev),LeL l (upL T a l)
 | [],_=>trivial
 | b::r,_=>⟨MI b _,ZO r _⟩
theorem GX {T:Tm}:∀ l:List Lev,LeL l (Jv T l)
 | []=>trivial
 | a::r=>⟨Le.refl a,ZO r a⟩
theorem kn {T:Tm} (a:Lev):∀ r:List Lev,LeL (a::r) (dnC T a r)
 | []=>⟨Le.refl a,trivial⟩
 | _::_=>⟨MI a _,LeL.refl _⟩
theorem JE {T:Tm}:∀ l:List Lev,LeL l (dnS T l)
 | []=>trivial
 | a::r=>LeL.trans (m:=a::dnS T r) ⟨Le.refl a,JE r⟩ (kn a _)
theorem Es {T:Tm} (l:List Lev):LeL l (O4 T l):=LeL.trans (GX l) (JE _)
def Clo (T:Tm):List Lev->Prop
 | a::b::r=>(Le (mt b (cyu T a b)) b/\Le (mt a (cyd T a b)) a)/\Clo T (b::r)
 | _=>True
theorem Clo.tail {T:Tm} {a:Lev}:∀ {r:List Lev},Clo T (a::r)->Clo T r
 | [],_=>trivial
 | _::_,h=>h.2
theorem TU {b:Lev} {p:Int × Int} (h:Le (mt b p) b):mt b p=b:=h.anti (MI b p)
theorem ZP {T:Tm}:∀ (l:List Lev),Lks T l->(∀ x∈l,Pos x)->Jv T l=l->Clo T (dnS T l)/\∀ x∈dnS T l,Pos x
 | [],_,_,_=>⟨trivial,by simp [dnS]⟩
 | [a],_,hp,_=>⟨trivial,fun x hx=>hp x (by simpa [dnS,dnC] using hx)⟩
 | a::b::r,hk,hp,hu=>by
   have hu':mt b (cyu T a b)::upL T (mt b (cyu T a b)) r=b::r:=(List.cons.inj hu).2;have e1:mt b (cyu T a b)=b:=(List.cons.inj hu').1;rw [e1] at hu';have hu2:Jv T (b::r)=b::r:=by show b::upL T b r=_;rw [(List.cons.inj hu').2]
   obtain ⟨c1,p1⟩:=ZP (b::r) hk.2 (fun x hx=>hp x (by simp [List.mem_cons.1 hx])) hu2;have hd:=JE (T:=T) (b::r)
   show Clo T (dnC T a (dnS T (b::r)))/\_
   cases hb:dnS T (b::r) with
   | nil=>rw [hb] at hd;exact hd.elim
   | cons x R=>
     rw [hb] at hd c1 p1;have hbx:Le b x:=hd.1;have k:LkP T a x:=hk.1.sam ⟨rfl,rfl,rfl⟩ hbx.s;have pa:=hp a (by simp);have px:=p1 x (by simp);have ek:lc T (mt a (cyd T a x)) x=lc T a x/\lw T (mt a (cyd T a x)) x=lw T a x/\ls (mt a (cyd T a x)) x=ls a x:=⟨rfl,rfl,rfl⟩
     have ea:=ZN (T:=T) (a:=a) (a':=a) ⟨rfl,rfl,rfl⟩ hbx.s;refine ⟨⟨⟨?_,?_⟩,c1⟩,?_⟩
     ·
       have h1:CY (lc T a x) (ls a x) a.pl<=x.pl:=by
         have:=congrArg Lev.pl e1;unfold mt cyu at this;simp only at this;rw [ea.1,ea.2.2] at this;have:=hbx.lo;omega
       have h2:x.ph<=C9 (lw T a x) (ls a x) a.ph:=by
         have:=congrArg Lev.ph e1;unfold mt cyu at this;simp only at this;rw [ea.2.1,ea.2.2] at this;have:=hbx.hi;omega
       have h3:=k.back1 px.1;have h4:=k.back2 px.2;refine ⟨⟨rfl,rfl,rfl⟩,?_,?_⟩
       . show max x.pl (CY (lc T a x) (ls a x) (max a.pl (Cz (lw T a x) (ls a x) x.pl)))<=x.pl
         by_cases hm:a.pl<=Cz (lw T a x) (ls a x) x.pl
         . rw [show max a.pl (Cz (lw T a x) (ls a x) x.pl)=Cz (lw T a x) (ls a x) x.pl by omega];omega
         . rw [show max a.pl (Cz (lw T a x) (ls a x) x.pl)=a.pl by omega];omega
       . show x.ph<=min x.ph (C9 (lw T a x) (ls a x) (min a.ph (Ec (lc T a x) (ls a x) x.ph)))
         by_cases hm:a.ph<=Ec (lc T a x) (ls a x) x.ph
         . rw [show min a.ph (Ec (lc T a x) (ls a x) x.ph)=a.ph by omega];omega
         . rw [show min a.ph (Ec (lc T a x) (ls a x) x.ph)=Ec (lc T a x) (ls a x) x.ph by omega];omega
     . refine ⟨⟨rfl,rfl,rfl⟩,?_,?_⟩
       . show max (max a.pl (Cz (lw T a x) (ls a x) x.pl)) (Cz (lw T a x) (ls a x) x.pl)<=max a.pl (Cz (lw T a x) (ls a x) x.pl)
         omega
       . show min a.ph (Ec (lc T a x) (ls a x) x.ph)<=min (min a.ph (Ec (lc T a x) (ls a x) x.ph)) (Ec (lc T a x) (ls a x) x.ph)
         omega
     . intro y hy
       have hy':y∈dnC T a (dnS T (b::r)):=hy;rw [hb] at hy';rcases List.mem_cons.1 (show y∈mt a (cyd T a x)::x::R from hy') with rfl | hy
       . have q1:=k.pos1 px.1
         have q2:=k.pos2 px.2;unfold Pos mt cyd;simp only;unfold Pos at pa;omega
       . exact p1 y hy
theorem TV {T:Tm}:∀ (l:List Lev) (a:Lev),upL T a (upL T a l)=upL T a l
 | [],_=>rfl
 | b::r,a=>by
   have e:cyu T a (mt b (cyu T a b))=cyu T a b:=rfl
   have e2:mt (mt b (cyu T a b)) (cyu T a b)=mt b (cyu T a b):=by
     unfold mt;simp only [Lev.mk.injEq,true_and,and_true];omega
   show mt (mt b (cyu T a b)) (cyu T a (mt b (cyu T a b)))::upL T (mt (mt b (cyu T a b)) (cyu T a (mt b (cyu T a b)))) (upL T (mt b (cyu T a b)) r)=mt b (cyu T a b)::upL T (mt b (cyu T a b)) r
   rw [e,e2,TV r]
theorem Vi {T:Tm}:∀ l:List Lev,Jv T (Jv T l)=Jv T l
 | []=>rfl
 | a::r=>by show a::upL T a (upL T a r)=a::upL T a r;rw [TV]
theorem ZQ {T:Tm}:∀ (l:List Lev) (a:Lev),Lks T (a::l)->Pos a->(∀ x∈l,Pos x)->∀ x∈upL T a l,Pos x
 | [],_,_,_,_,x,hx=>by simp [upL] at hx
 | b::r,a,hk,ha,hp,x,hx=>by
   have pb:=hp b (by simp)
   have hb:Pos (mt b (cyu T a b)):=by
     have:=hk.1.pos3 ha.2;unfold Pos mt cyu at*;simp only at*;omega
   rcases List.mem_cons.1 (show x∈mt b (cyu T a b)::upL T (mt b (cyu T a b)) r from hx) with rfl | hx
   . exact hb
   . exact ZQ r _ (Lks.le (l:=b::r) ⟨MI b _,LeL.refl r⟩ hk.2) hb (fun y hy=>hp y (List.mem_cons_of_mem _ hy)) x hx
theorem NI {T:Tm} {l:List Lev} (hk:Lks T l) (hp:∀ x∈l,Pos x):Clo T (O4 T l)/\∀ x∈O4 T l,Pos x:=by
 unfold O4;refine ZP _ (Lks.le (GX l) hk) ?_ (Vi l);cases l with
 | nil=>simp [Jv]
 | cons a r=>
   intro x hx;rcases List.mem_cons.1 (show x∈a::upL T a r from hx) with rfl | hx
   . exact hp _ (by simp)
   . exact ZQ r a hk (hp a (by simp)) (fun y hy=>hp y (List.mem_cons_of_mem _ hy)) x hx
end Go.Air
namespace Go.Proofs.Tryz
open Go.Psl
open Go.Air
abbrev A5 (x:Lev):List D:=[di x.h,di x.pl,di x.ph,di x.tl,di x.th]
abbrev Wb (x:Lev):V:= .agg [vi x.h,vi x.pl,vi x.ph,vi x.tl,vi x.th]
abbrev BF (l:List Lev):D:= .sl 5 (l.map A5)
theorem hfl:∀ x:Lev,(A5 x).length=5:=fun _=>rfl
abbrev cr (p:Int × Int):V:= .agg [vi p.1,vi p.2]
theorem Sa {α:Type} (f:α->Bool) (l:List α):l.any (fun x=>!f x)=!l.all f:=by
 induction l with
 | nil=>rfl
 | cons a l ih=>simp [ih]
theorem rI (l:List Int) (g:FuncId) (ds:List D) (q:Int->Bool) (hl:l.length<=1000000000) (hg:∀ p∈l,Ct prog g (vi p::ds.map .d) (vb (q p)) []):Ct prog 219 [.d (Ch l), .d (.fn g ds)] (vi (ixF q l)) []:=by
 refine CB func219 c219 fun E hE=>?_
 simp [p219];refine Al (α:=Nat) (fun i=>⟨AO [(0, .d (Ch l)),(1, .d (.fn g ds)),(7,vi l.length),(8,vi i)],lk [],0⟩) (fun i=>i<=l.length/\∀ j,j<i->(l[j]?).all (fun p=>!q p)=true) (fun i=>l.length-i) 0 ?_ ?_ ?_
 . exact ⟨by omega,fun j hj=>by omega⟩
 . exact WK hE (lk [])
 . rintro i ⟨hi,hg3⟩
   have hg2:∀ (j:Nat) (p:Int),j<i->l[j]?= some p->q p=false:=fun j p hj hp=>by
     have:=hg3 j hj;rw [hp] at this;simpa using this
   have hz:=@wz i (by omega);simp [bN];refine Bh (fun h=>?_) (fun h=>?_)
   . simp at h
     obtain ⟨p,hp⟩:=gE h;simp [hp];refine CLa (hg p (List.mem_of_getElem? hp)) ?_;cases hq:q p
     . simp [hz]
       refine ⟨i+1,⟨by omega,fun j hj=>?_⟩,by omega,?_⟩
       . by_cases e:j=i
         . subst e;rw [hp];simp [hq]
         . exact hg3 j (by omega)
       . exact WK hE (lk [])
     . have e:ixF q l=i:=IY hp hq fun j y hj hy=>hg2 j y hj hy
       simp;apply RZ;simp [results219,e]
   . simp at h
     have e:ixF q l= -1:=IX fun j x hx=>hg2 j x (by have:=(List.getElem?_eq_some_iff.1 hx).1;omega) hx
     simp;apply RZ;simp [results219,e]
theorem jX (l:List Int) (g:FuncId) (ds:List D) (q:Int->Bool) (hl:l.length<=1000000000) (hg:∀ p∈l,Ct prog g (vi p::ds.map .d) (vb (q p)) []):Ct prog 165 [.d (Ch l), .d (.fn g ds)] (vb (l.any q)) []:=by
 refine CB func165 c165 fun E hE=>?_
 simp [p165];refine CLa (rI l g ds q hl hg) ?_;simp;apply RZ;simp [results165,<-IZ]
theorem rJ (l:List (Int × Int)) (g:FuncId) (ds:List D) (q:(Int × Int)->Bool) (hl:l.length<=1000000000) (hg:∀ p∈l,Ct prog g (cr p::ds.map .d) (vb (q p)) []):Ct prog 178 [.d (An l), .d (.fn g ds)] (vi (ixF q l)) []:=by
 refine CB func178 c178 fun E hE=>?_
 simp [p178];refine Al (α:=Nat) (fun i=>⟨AO [(0, .d (An l)),(1, .d (.fn g ds)),(7,vi l.length),(8,vi i)],lk [],0⟩) (fun i=>i<=l.length/\∀ j,j<i->(l[j]?).all (fun p=>!q p)=true) (fun i=>l.length-i) 0 ?_ ?_ ?_
 . exact ⟨by omega,fun j hj=>by omega⟩
 . exact WK hE (lk [])
 . rintro i ⟨hi,hg3⟩
   have hg2:∀ (j:Nat) (p:(Int × Int)),j<i->l[j]?= some p->q p=false:=fun j p hj hp=>by
     have:=hg3 j hj;rw [hp] at this;simpa using this
   have hz:=@wz i (by omega);simp [bK];refine Bh (fun h=>?_) (fun h=>?_)
   . simp at h
     obtain ⟨p,hp⟩:=gE h;simp [hp];refine CLa (hg p (List.mem_of_getElem? hp)) ?_;cases hq:q p
     . simp [hz]
       refine ⟨i+1,⟨by omega,fun j hj=>?_⟩,by omega,?_⟩
       . by_cases e:j=i
         . subst e;rw [hp];simp [hq]
         . exact hg3 j (by omega)
       . exact WK hE (lk [])
     . have e:ixF q l=i:=IY hp hq fun j y hj hy=>hg2 j y hj hy
       simp;apply RZ;simp [results178,e]
   . simp at h
     have e:ixF q l= -1:=IX fun j x hx=>hg2 j x (by have:=(List.getElem?_eq_some_iff.1 hx).1;omega) hx
     simp;apply RZ;simp [results178,e]
theorem rK (l:List (Int × Int)) (g:FuncId) (ds:List D) (q:(Int × Int)->Bool) (hl:l.length<=1000000000) (hg:∀ p∈l,Ct prog g (cr p::ds.map .d) (vb (q p)) []):Ct prog 113 [.d (An l), .d (.fn g ds)] (vb (l.any q)) []:=by
 refine CB func113 c113 fun E hE=>?_
 simp [p113];refine CLa (rJ l g ds q hl hg) ?_;simp;apply RZ;simp [results113,<-IZ]
theorem ct (l:List Lev) (g:FuncId) (ds:List D) (q:Lev->Bool) (hl:l.length<=1000000000) (hg:∀ p∈l,Ct prog g (Wb p::ds.map .d) (vb (q p)) []):Ct prog 160 [.d (BF l), .d (.fn g ds)] (vi (ixF q l)) []:=by
 refine CB func160 c160 fun E hE=>?_
 simp [p160];refine Al (α:=Nat) (fun i=>⟨AO [(0, .d (BF l)),(1, .d (.fn g ds)),(7,vi l.length),(8,vi i)],lk [],0⟩) (fun i=>i<=l.length/\∀ j,j<i->(l[j]?).all (fun p=>!q p)=true) (fun i=>l.length-i) 0 ?_ ?_ ?_
 . exact ⟨by omega,fun j hj=>by omega⟩
 . exact WK hE (lk [])
 . rintro i ⟨hi,hg3⟩
   have hg2:∀ (j:Nat) (p:Lev),j<i->l[j]?= some p->q p=false:=fun j p hj hp=>by
     have:=hg3 j hj;rw [hp] at this;simpa using this
   have hz:=@wz i (by omega);simp [bG];refine Bh (fun h=>?_) (fun h=>?_)
   . simp at h
     obtain ⟨p,hp⟩:=gE h;simp [hp];refine CLa (hg p (List.mem_of_getElem? hp)) ?_;cases hq:q p
     . simp [hz]
       refine ⟨i+1,⟨by omega,fun j hj=>?_⟩,by omega,?_⟩
       . by_cases e:j=i
         . subst e;rw [hp];simp [hq]
         . exact hg3 j (by omega)
       . exact WK hE (lk [])
     . have e:ixF q l=i:=IY hp hq fun j y hj hy=>hg2 j y hj hy
       simp;apply RZ;simp [results160,e]
   . simp at h
     have e:ixF q l= -1:=IX fun j x hx=>hg2 j x (by have:=(List.getElem?_eq_some_iff.1 hx).1;omega) hx
     simp;apply RZ;simp [results160,e]
theorem rL (l:List Lev) (g:FuncId) (ds:List D) (q:Lev->Bool) (hl:l.length<=1000000000) (hg:∀ p∈l,Ct prog g (Wb p::ds.map .d) (vb (q p)) []):Ct prog 184 [.d (BF l), .d (.fn g ds)] (vb (l.any q)) []:=by
 refine CB func184 c184 fun E hE=>?_
 simp [p184];refine CLa (ct l g ds q hl hg) ?_;simp;apply RZ;simp [results184,<-IZ]
theorem xA (l m:List Lev) (hl:l.length<=1000000000) (_:m.length<=1000000000):Ct prog 159 [.d (BF l), .d (BF m)] (vb (decide (l=m))) []:=by
 by_cases hlen:l.length=m.length
 case neg=>
   have hn:¬ (l.length:Int)=m.length:=by omega
   have hne:¬ l=m:=fun h=>hlen (by rw [h])
   refine CB func159 qU fun E hE=>?_
   simp [p159,hn];apply RZ;simp [results159,hne]
 refine CB func159 qU fun E hE=>?_
 simp [p159,hlen];refine Al (α:=Nat) (fun i=>⟨AO [(0, .d (BF l)),(1, .d (BF m)),(12,vi m.length),(13,vi i)],lk [],0⟩) (fun i=>i<=l.length/\l.take i=m.take i) (fun i=>l.length-i) 0 ?_ ?_ ?_
 . simp
 . exact WK hE (lk [])
 . rintro i ⟨hi,hg⟩
   have hz:IntKind.wrap .i64 ((i:Int)+1)=((i:Int)+1):=AD (by omega) (by omega);simp [bF];refine Bh (fun h=>?_) (fun h=>?_)
   . simp at h
     have hil:i<l.length:=by omega
     obtain ⟨a,ha⟩:∃ a,l[i]?= some a:=⟨l[i],by simp [hil]⟩
     obtain ⟨b,hb⟩:∃ b,m[i]?= some b:=⟨m[i],by simp [show i<m.length by omega]⟩
     by_cases hab:a=b
     . subst hab
       simp [ha,hb,hz];refine ⟨i+1,⟨by omega,by simp [List.take_add_one,hg,ha,hb]⟩,by omega,?_⟩;exact WK hE (lk [])
     . have hne:¬ l=m:=fun h=>by
         rw [h,hb] at ha;cases ha;exact hab rfl
       have hd:((!decide (a.h=b.h)||(!decide (a.pl=b.pl)||(!decide (a.ph=b.ph)||(!decide (a.tl=b.tl)||!decide (a.th=b.th))))))=true:=by
         cases a;cases b;simp at hab ⊢;omega
       simp [ha,hb,hd];apply RZ;simp [results159,hne]
   . simp at h
     have hil:i=l.length:=by omega
     have hlm:l=m:=by rw [hil,List.take_length,hlen,List.take_length] at hg;exact hg
     simp;apply RZ;simp [results159,hlm]
theorem UA (l:List Lev) (hl:l.length<=1000000000) (h0:l≠[]):Ct prog 155 [.d (BF l)] (.ls 0 0 l.length 5) [(0,AH A5 l)]:=by
 refine CB func155 c155 fun E hE=>?_
 obtain ⟨a,r,rfl⟩:=List.exists_cons_of_ne_nil h0;have hmx:(r.length+1)*40<=140737488355328/\r.length+1<=9223372036854775807:=by simp at hl;omega
 have e:BF (a::r)= .sl 5 (A5 a::r.map A5):=rfl;have ef:(r.map (List.map V.d ∘ A5)).flatten=AH A5 r:=by simp [AH,List.map_flatten]
 have hcl:(∀ x∈AH A5 r,x.isCell=true)=True:=eq_true BU;simp [p155,e,ef,hcl,AM,hmx];refine AB.by (lk [(0,5242880)]) ?_;simp [results155,CQ,hcl]
end Go.Proofs.Tryz
namespace Go.Air
def far:List Lev->List Lev->Nat
 | a::r,f::s=>(f.pl-a.pl).toNat+(a.ph-f.ph).toNat+far r s
 | _,_=>0
theorem WG {w s s' x:Int} (hw:0<w) (h0:0<=s') (h:s'<=s) (hx:0<=x):C9 w s x<=C9 w s' x:=by
 unfold C9;rw [K4 (by omega)];have h1:x*w<=cdv (x*w) (w+s')*(w+s'):=(K4 (by omega)).1 (Int.le_refl _)
 have h2:0<=cdv (x*w) (w+s'):=by
   rw [K5 (by omega)];have:0<=x*w:=Int.mul_nonneg hx (by omega);omega
 have h3:cdv (x*w) (w+s')*(w+s')<=cdv (x*w) (w+s')*(w+s):=Int.mul_le_mul_of_nonneg_left (by omega) h2;omega
theorem MN {c s s' x:Int} (hc:0<c) (h:s'<=s) (hx:0<=x):CY c s x<=CY c s' x:=
 Int.ediv_le_ediv hc (Int.mul_le_mul_of_nonneg_left (by omega) hx)
theorem Tn {c s x:Int} (hc:0<c) (h:0<=s) (hx:0<=x):CY c s x<=x:=by
 have h1:=MN hc h hx;have:CY c 0 x=x:=by unfold CY;rw [Int.sub_zero,Int.mul_ediv_cancel _ (by omega)]
 omega
theorem PZ {c s x:Int} (hc:0<c) (h:s<=c) (hx:0<=x):0<=CY c s x:=Int.ediv_nonneg (Int.mul_nonneg hx (by omega)) (by omega)
theorem xf {w s x:Int} (hw:0<w) (h:0<=s) (hx:0<=x):C9 w s x<=x:=by
 unfold C9;rw [K4 (by omega)];exact Int.mul_le_mul_of_nonneg_left (by omega) hx
theorem Tp {w s x:Int} (hw:0<w) (h:0<=s) (hx:0<=x):x<=Cz w s x:=by
 unfold Cz;rw [Int.le_ediv_iff_mul_le hw];exact Int.mul_le_mul_of_nonneg_left (by omega) hx
theorem g8 {c w s x y:Int} (k:Lk c w s) (hx:0<=x) (h:x<=y):CY c s x<=C9 w s y:=by
 have h1:Cz w s (CY c s x)<=x:=by
   have hp:=k.prod;obtain ⟨h1,h2,h3⟩:=k;have hy:CY c s x*c<=x*(c-s):=by unfold CY;exact Int.ediv_mul_le _ (by omega)
   have hz:0<=CY c s x:=PZ (by omega) (by omega) hx
   generalize CY c s x=z at*
   unfold Cz
   have:z*(w+s)<=x*w:=by
     refine Int.le_of_mul_le_mul_left (a:=c) ?_ (by omega);have e1:c*(z*(w+s))=(z*c)*(w+s):=by grind
     have e2:(z*c)*(w+s)<=(x*(c-s))*(w+s):=Int.mul_le_mul_of_nonneg_right hy (by omega);have e3:(x*(c-s))*(w+s)=x*((w+s)*(c-s)):=by grind
     have e4:x*((w+s)*(c-s))<=x*(w*c):=Int.mul_le_mul_of_nonneg_left hp hx;have e5:x*(w*c)=c*(x*w):=by grind
     omega
   calc z*(w+s)/w<=(x*w)/w:=Int.ediv_le_ediv (by omega) this
     _=x:=Int.mul_ediv_cancel _ (by omega)
 have hz:0<=CY c s x:=PZ (by have:=k.s0;have:=k.sc;omega) (by have:=k.sc;omega) hx;obtain ⟨q1,q2,q3⟩:=k;unfold C9;rw [K5 (by omega)]
 have h2:CY c s x*(w+s)<(x+1)*w:=by
   have:CY c s x*(w+s)/w<x+1:=by unfold Cz at h1;omega
   exact (Int.ediv_lt_iff_lt_mul (by omega)).1 this
 have e1:(x+1)*w=x*w+w:=by rw [Int.add_mul];omega
 have e2:(CY c s x-1)*(w+s)=CY c s x*(w+s)-(w+s):=by rw [Int.sub_mul];omega
 have e3:x*w<=y*w:=Int.mul_le_mul_of_nonneg_right h (by omega);omega
def prs (T:Tm):List Lev->Int->Int × Int
 | a::b::r,h=>if h<=a.h then (a.pl,a.ph) else if h<b.h then (max (CY (lc T a b) (341632*(h-a.h)) a.pl) b.pl,C9 (lw T a b) (341632*(h-a.h)) a.ph) else prs T (b::r) h
 | [a],_=>(a.pl,a.ph)
 | [],_=>(0,0)
structure LevB (x:Lev):Prop where
 lo:1000<=x.pl
 in':x.pl<=x.ph
 hi:x.ph<=12000
def Inc:List Lev->Prop
 | a::b::r=>a.h<b.h/\Inc (b::r)
 | _=>True
structure Snd (T:Tm) (l:List Lev):Prop where
 inc:Inc l
 lk:Lks T l
 clo:Clo T l
 lev:∀ x∈l,LevB x
theorem Snd.tail {T:Tm} {a b:Lev} {r:List Lev} (h:Snd T (a::b::r)):Snd T (b::r):=
 ⟨h.inc.2,h.lk.2,h.clo.2,fun x hx=>h.lev x (List.mem_cons_of_mem _ hx)⟩
theorem Tq {T:Tm} {a b:Lev} (k:LkP T a b) {h:Int} (h1:a.h<h) (h2:h<=b.h):Lk (lc T a b) (lw T a b) (341632*(h-a.h)):=by
 obtain ⟨q1,q2,q3⟩:=k;unfold ls at q1 q2;exact ⟨by omega,by omega,q3⟩
theorem Tr {T:Tm} {a b:Lev} {r:List Lev} (hs:Snd T (a::b::r)) {h:Int} (h1:a.h<h) (h2:h<b.h):
   b.pl<=max (CY (lc T a b) (341632*(h-a.h)) a.pl) b.pl/\max (CY (lc T a b) (341632*(h-a.h)) a.pl) b.pl<=a.pl/\max (CY (lc T a b) (341632*(h-a.h)) a.pl) b.pl<=C9 (lw T a b) (341632*(h-a.h)) a.ph/\C9 (lw T a b) (341632*(h-a.h)) a.ph<=a.ph:=by
 have la:=hs.lev a (by simp);have lb:=hs.lev b (by simp);have k:=Tq hs.lk.1 h1 (by omega);have k2:=hs.lk.1;have p1:=Tn (s:=341632*(h-a.h)) (show 0<lc T a b by have:=k.s0;have:=k.sc;omega) (by omega) (x:=a.pl) (by have:=la.lo;omega);have p2:=xf (s:=341632*(h-a.h)) (show 0<lw T a b by have:=k.s0;have:=k.sc;have:=k.cw;omega) (by omega) (x:=a.ph) (by have:=la.lo;have:=la.in';omega);have p3:=g8 k (x:=a.pl) (y:=a.ph) (by have:=la.lo;omega) la.in'
 have c1:b.pl<=a.pl:=by
   have:=hs.clo.1.2.lo
   have h3:Cz (lw T a b) (ls a b) b.pl<=a.pl:=by
     unfold mt cyd at this;simp only at this;omega
   have h4:=Tp (w:=lw T a b) (s:=ls a b) (x:=b.pl) (by have:=k2.s0;have:=k2.sc;have:=k2.cw;omega) (by have:=k2.s0;omega) (by have:=lb.lo;omega);omega
 have c2:b.pl<=C9 (lw T a b) (341632*(h-a.h)) a.ph:=by
   have:=hs.clo.1.1.hi
   have h3:b.ph<=C9 (lw T a b) (ls a b) a.ph:=by
     unfold mt cyu at this;simp only at this;omega
   have h4:=WG (w:=lw T a b) (s:=ls a b) (s':=341632*(h-a.h)) (x:=a.ph) (by have:=k.s0;have:=k.sc;have:=k.cw;omega) (by omega) (by unfold ls;omega) (by have:=la.lo;have:=la.in';omega);have:=lb.in';omega
 omega
theorem SL {T:Tm}:∀ {l:List Lev} (h:Int),Snd T l->l≠[]->1000<=(prs T l h).1/\(prs T l h).1<=(prs T l h).2/\(prs T l h).2<=12000
 | [a],h,hs,_=>by have:=hs.lev a (by simp);unfold prs;exact ⟨this.lo,this.in',this.hi⟩
 | a::b::r,h,hs,_=>by
   have la:=hs.lev a (by simp);have lb:=hs.lev b (by simp);unfold prs;by_cases h1:h<=a.h
   . rw [if_pos h1];exact ⟨la.lo,la.in',la.hi⟩
   . rw [if_neg h1]
     by_cases h2:h<b.h
     . rw [if_pos h2]
       have:=Tr hs (show a.h<h by omega) h2;have:=lb.lo;have:=la.hi;simp only;omega
     . rw [if_neg h2];exact SL h hs.tail (by simp)
 | [],_,_,h=>absurd rfl h
theorem JP {T:Tm}:∀ {l:List Lev} {a:Lev} (h:Int),Snd T (a::l)->(prs T (a::l) h).1<=a.pl
 | [],a,h,hs=>Int.le_refl _
 | b::r,a,h,hs=>by
   unfold prs;by_cases h1:h<=a.h
   . rw [if_pos h1];exact Int.le_refl _
   . rw [if_neg h1]
     by_cases h2:h<b.h
     . rw [if_pos h2]
       exact (Tr hs (show a.h<h by omega) h2).2.1
     . rw [if_neg h2]
       have:=JP h hs.tail;have lb:=hs.lev b (by simp);have k2:=hs.lk.1;have:=hs.clo.1.2.lo
       have h3:Cz (lw T a b) (ls a b) b.pl<=a.pl:=by
         unfold mt cyd at this;simp only at this;omega
       have h4:=Tp (w:=lw T a b) (s:=ls a b) (x:=b.pl) (by have:=k2.s0;have:=k2.sc;have:=k2.cw;omega) (by have:=k2.s0;omega) (by have:=lb.lo;omega);omega
theorem ADF {T:Tm}:∀ {l:List Lev} {h h':Int},Snd T l->h<=h'->(prs T l h').1<=(prs T l h).1
 | [],_,_,_,_=>Int.le_refl _
 | [_],_,_,_,_=>Int.le_refl _
 | a::b::r,h,h',hs,hh=>by
   by_cases h1:h<=a.h
   . have:=JP h' hs
     have e:prs T (a::b::r) h=(a.pl,a.ph):=by unfold prs;rw [if_pos h1]
     rw [e];exact this
   . have e1:∀ x,a.h<x->prs T (a::b::r) x=if x<b.h then (max (CY (lc T a b) (341632*(x-a.h)) a.pl) b.pl,C9 (lw T a b) (341632*(x-a.h)) a.ph) else prs T (b::r) x:=fun x hx=>by
       conv=>lhs;unfold prs
       rw [if_neg (by omega)]
     rw [e1 h (by omega),e1 h' (by omega)];by_cases h2:h' < b.h
     . rw [if_pos h2,if_pos (show h<b.h by omega)]
       have la:=hs.lev a (by simp);have k:=Tq hs.lk.1 (show a.h<h' by omega) (by omega);have:=MN (c:=lc T a b) (s:=341632*(h' - a.h)) (s':=341632*(h-a.h)) (x:=a.pl) (by have:=k.s0;have:=k.sc;omega) (by omega) (by have:=la.lo;omega);simp only;omega
     . rw [if_neg h2]
       by_cases h3:h<b.h
       . rw [if_pos h3]
         have:=JP h' hs.tail;simp only;omega
       . rw [if_neg h3];exact ADF hs.tail hh
def WH (T:Tm) (l:List Lev) (a b:Int):Atm:=⟨(prs T l b).1,(prs T l a).2,(T a b).1,(T a b).2⟩
theorem mD {T:Tm} {l:List Lev} (hs:Snd T l) (hne:l≠[]) {a b:Int} (hab:a<=b) (hT:1500<=(T a b).1/\(T a b).1<=(T a b).2/\(T a b).2<=3500):Fx (WH T l a b):=by
 have h1:=SL a hs hne;have h2:=SL b hs hne;have h3:=ADF hs hab;exact ⟨by unfold WH;simp only;omega,hT⟩
end Go.Air
namespace Go.Proofs.Tryz
open Go.Psl
open Go.Air
theorem u0 (lo hi:Int) (l:List Int):l.any (fun n=>decide (n<lo)||decide (hi<n))=!rgB lo hi l:=by
 unfold rgB;rw [<-Sa];congr 1
 funext n
 by_cases h1:n<lo<;>by_cases h2:hi<n<;>simp [h1,h2]<;>omega
theorem rD (lo hi n:Int):Ct prog 185 [vi n, .d (.ref [di lo]), .d (.ref [di hi])] (vb (decide (n<lo)||decide (hi<n))) []:=by
 by_cases h1:n<lo
 . refine CB func185 qa fun E hE=>?_
   simp [p185,h1];apply RZ;simp [results185]
 . refine CB func185 qa fun E hE=>?_
   simp [p185,h1];apply RZ;simp [results185]
theorem Iu (lo hi:Int) (l:List Int) (hl:l.length<=1000000):Ct prog 120 [vi lo,vi hi, .d (Ch l)] (vb (rgB lo hi l)) []:=by
 have c:=jX l 185 [.ref [di lo], .ref [di hi]] (fun n=>decide (n<lo)||decide (hi<n)) (by omega) fun n _=>rD lo hi n
 rw [u0] at c;refine CB func120 c120 fun E hE=>?_
 simp [p120];refine CLa c ?_;simp;apply RZ;simp [results120]
theorem rE (lo hi n:Int):Ct prog 166 [vi n, .d (.ref [di lo]), .d (.ref [di hi])] (vb (decide (n<lo)||decide (hi<n))) []:=by
 by_cases h1:n<lo
 . refine CB func166 qX fun E hE=>?_
   simp [p166,h1];apply RZ;simp [results166]
 . refine CB func166 qX fun E hE=>?_
   simp [p166,h1];apply RZ;simp [results166]
theorem Pw (lo hi:Int) (l:List Int) (hl:l.length<=1000000):Ct prog 91 [vi lo,vi hi, .d (Ch l)] (vb (rgB lo hi l)) []:=by
 have c:=jX l 166 [.ref [di lo], .ref [di hi]] (fun n=>decide (n<lo)||decide (hi<n)) (by omega) fun n _=>rE lo hi n
 rw [u0] at c;refine CB func91 c91 fun E hE=>?_
 simp [p91];refine CLa c ?_;simp;apply RZ;simp [results91]
theorem T6 (a b lo hi:Int):Ct prog 162 [vsp a b,vi lo,vi hi] (vb (spB lo hi a b)) []:=by
 have c:=Iu lo hi [a,b] (by simp);by_cases h:a<=b
 . have e:spB lo hi a b=rgB lo hi [a,b]:=by unfold spB;simp [h]
   refine CB func162 qV fun E hE=>?_
   simp [p162,AA,AM,h];refine CLb (c) (by simp [Ap]) ?_;simp;apply RZ;simp [results162,e]
 . have e:spB lo hi a b=false:=by unfold spB;simp [h]
   refine CB func162 qV fun E hE=>?_
   simp [p162,h];apply RZ;simp [results162,e]
def Dy (l:List Lev) (i:Nat):Bool:=match l[i]? with
 | some x=>rgB (-500) 9000 [x.h]&&(if i=0 then true else match l[i-1]? with | some y=>rgB 1 2000 [x.h-y.h] | none=>true)
 | none=>true
def Ij (x:Lev):Bool:=spB 1000 12000 x.pl x.ph&&spB 1500 3500 x.tl x.th
def FG (l:List Lev):Bool:=(List.range l.length).all (Dy l)&&rgB 2 16 [(l.length:Int)]
def GC (l:List Lev):Bool:=FG l&&l.all Ij
theorem PK {l:List Lev} {i:Nat} (hi:i<l.length) (h:Dy l i=false):FG l=false:=by
 unfold FG
 have:(List.range l.length).all (Dy l)=false:=by
   rw [List.all_eq_false];exact ⟨i,by simp [hi],by simp [h]⟩
 simp [this]
theorem Vv {l:List Lev} (h:∀ j,j<l.length->Dy l j=true):FG l=rgB 2 16 [(l.length:Int)]:=by
 unfold FG
 have:(List.range l.length).all (Dy l)=true:=by
   rw [List.all_eq_true];intro j hj;exact h j (by simpa using hj)
 simp [this]
theorem jI (x:Lev):Ct prog 183 [Wb x] (vi x.h) []:=by
 refine CB func183 c183 fun E hE=>?_
 simp [p183];apply RZ;simp [results183]
theorem qB (x:Lev):Ct prog 181 [Wb x] (vb (!Ij x)) []:=by
 have c1:=T6 x.pl x.ph 1000 12000;have c2:=T6 x.tl x.th 1500 3500;cases h1:spB 1000 12000 x.pl x.ph
 . rw [h1] at c1
   refine CB func181 qZ fun E hE=>?_
   simp [p181];refine CLa c1 ?_;simp;apply RZ;simp [results181,Ij,h1]
 . rw [h1] at c1
   refine CB func181 qZ fun E hE=>?_
   simp [p181];refine CLa c1 ?_;simp;refine CLa c2 ?_;simp;apply RZ;simp [results181,Ij,h1]
theorem qC (l:List Lev) (hl:l.length<=1000000):Ct prog 182 [.d (BF l), .d (.fn 183 [])] (vb (FG l)) []:=by
 refine CB func182 c182 fun E hE=>?_
 simp [p182];refine Al (α:=Nat) (fun i=>⟨AO [(0, .d (BF l)),(1, .d (.fn 183 [])),(8, .d (BF l)),(9,vi l.length),(10,vi i)],lk [],0⟩) (fun i=>i<=l.length/\∀ j,j<i->Dy l j=true) (fun i=>l.length-i) 0 ?_ ?_ ?_
 . exact ⟨by omega,fun j hj=>by omega⟩
 . exact WK hE (lk [])
 . rintro i ⟨hi,hg⟩
   by_cases h:i<l.length
   . obtain ⟨x,hx⟩:=gE h
     have hz:=@wz i (by omega);have hI:(i:Int)<l.length:=by omega
     have c1:=jI x;have c2:=Iu (-500) 9000 [x.h] (by simp);cases h1:rgB (-500) 9000 [x.h]
     . have hbad:=PK h (by unfold Dy;rw [hx];simp [h1])
       rw [h1] at c2;simp [JK,hI,hx,AA];refine CLa c1 ?_;simp [AA,AM];refine CLb (c2) (by simp [AG]) ?_;simp;apply RZ;simp [results182,hbad]
     . rw [h1] at c2
       by_cases h0:i=0
       . subst h0
         have hx0:l[0]?= some x:=hx;rw [List.getElem?_eq_getElem h] at hx;have hx':=Option.some.inj hx;simp [JK,h,hx',AA];refine CLa c1 ?_;simp [AA,AM];refine CLb (c2) (by simp [AG]) ?_;simp [show IntKind.wrap .i64 1=1 by decide];refine ⟨1,⟨by omega,fun j hj=>?_⟩,by omega,?_⟩
         . have:j=0:=by omega
           subst this;unfold Dy;rw [hx0];simp [h1]
         . exact WK hE (lk [])
       . obtain ⟨y,hy⟩:∃ y,l[i-1]?= some y:=⟨_,List.getElem?_eq_getElem (by omega)⟩
         have hw:IntKind.wrap .i64 ((i:Int)-1)=((i-1:Nat):Int):=by rw [AD (by omega) (by omega)];omega
         have hI0:0<i:=by omega
         have hxb: -500<=x.h/\x.h<=9000:=by simp [rgB] at h1;omega
         have hyb: -500<=y.h/\y.h<=9000:=by
           have:=hg (i-1) (by omega);unfold Dy at this;rw [hy] at this;simp [rgB] at this;omega
         have hwd:IntKind.wrap .i64 (x.h-y.h)=x.h-y.h:=AD (by omega) (by omega);have c3:=jI y;have c4:=Iu 1 2000 [x.h-y.h] (by simp);have e:Dy l i=rgB 1 2000 [x.h-y.h]:=by unfold Dy;rw [hx];simp [h1,h0,hy]
         cases h2:rgB 1 2000 [x.h-y.h]
         . rw [h2] at c4
           have hbad:=PK h (by rw [e,h2]);simp [JK,hI,hx,AA];refine CLa c1 ?_;simp [AA,AM];refine CLb (c2) (by simp [AG]) ?_;simp [hI0,hw,hy];refine CLa c3 ?_;simp [AA,AM,hwd];refine CLb (c4) (by simp [AG]) ?_;simp;apply RZ;simp [results182,hbad]
         . rw [h2] at c4
           simp [JK,hI,hx,AA];refine CLa c1 ?_;simp [AA,AM];refine CLb (c2) (by simp [AG]) ?_;simp [hI0,hw,hy];refine CLa c3 ?_;simp [AA,AM,hwd];refine CLb (c4) (by simp [AG]) ?_;simp [hz];refine ⟨i+1,⟨by omega,fun j hj=>?_⟩,by omega,?_⟩
           . by_cases hj2:j=i
             . subst hj2;rw [e,h2]
             . exact hg j (by omega)
           . exact WK hE (lk [])
   . have e:i=l.length:=by omega
     have hn:¬ (i:Int)<l.length:=by omega
     have c:=Iu 2 16 [(l.length:Int)] (by simp);have hall:=Vv (l:=l) (by rw [<-e];exact hg);simp [JK,hn,AA,AM];refine CLb (c) (by simp [AG]) ?_;simp;apply RZ;simp [results182,hall]
theorem Tc (l:List Lev) (hl:l.length<=1000000):Ct prog 119 [.d (BF l)] (vi (if GC l then 0 else 20)) []:=by
 have c1:=qC l hl;have c2:=rL l 181 [] (fun x=>!Ij x) (by omega) fun x _=>qB x
 rw [Sa] at c2;have e:GC l=(FG l&&l.all Ij):=rfl
 generalize FG l=b1 at*
 generalize l.all Ij=b2 at*
 rw [e]
 cases b1<;>cases b2<;>(
   refine CB func119 c119 fun E hE=>?_
   simp [p119]
   repeat ((first | (refine CLt c1 ?_ ?_;focus (simp;done)) | (refine CLt c2 ?_ ?_;focus (simp;done)));simp)
   apply RZ;simp [results119])
abbrev DA (l:List (Int × Int × Int)):D:= .sl 3 (l.map fun k=>[di k.1,di k.2.1,di k.2.2])
def okK (k:Int × Int × Int):Bool:=decide (-1073741824<=k.1)&&decide (k.1<=1073741824)&&decide (-1073741824<=k.2.1)&&decide (k.2.1<=k.2.2)&&decide (k.2.2<=1073741824)
def C3 (l:List (Int × Int × Int)) (i:Nat):Bool:=match l[i]? with
 | some k=>okK k&&(decide (i=0)||match l[i-1]? with | some p=>decide (p.1<k.1) | none=>true)
 | none=>true
def DV (l:List (Int × Int × Int)) (i:Nat):Bool:=(List.range i).all (C3 l)
def Ck (l:List (Int × Int × Int)):Bool:=decide (2<=l.length)&&decide (l.length<=32)&&DV l l.length
theorem Ji (l:List (Int × Int × Int)) (i:Nat):DV l (i+1)=(DV l i&&C3 l i):=by simp [DV,List.range_succ]
theorem Cf {l:List (Int × Int × Int)} {i:Nat} (h:i<l.length) (hb:C3 l i=false):DV l l.length=false:=by
 unfold DV;rw [List.all_eq_false];exact ⟨i,List.mem_range.2 h,by simp [hb]⟩
theorem FE {k:Int × Int × Int}:okK k=true↔ -1073741824<=k.1/\k.1<=1073741824/\ -1073741824<=k.2.1/\k.2.1<=k.2.2/\k.2.2<=1073741824:=by
 unfold okK;simp only [Bool.and_eq_true,decide_eq_true_eq];omega
theorem HZ {l:List (Int × Int × Int)} {k:Int × Int × Int} (h:l[0]?= some k):C3 l 0=okK k:=by simp [C3,h]
theorem FF {l:List (Int × Int × Int)} {i:Nat} {k p:Int × Int × Int} (h:l[i+1]?= some k) (hp:l[i]?= some p):C3 l (i+1)=(okK k&&decide (p.1<k.1)):=by simp [C3,h,hp]
theorem JF {k:Int × Int × Int} (h:min k.1 k.2.1 < -1073741824\/1073741824<max k.1 k.2.2\/k.2.2<k.2.1):okK k=false:=by
 have:¬ okK k=true:=by rw [FE];omega
 simpa using this
theorem pc (l:List (Int × Int × Int)) (hl:l.length<=1000000):Ct prog 254 [.d (DA l)] (vi (if Ck l then 0 else 13)) []:=by
 refine CB func254 c254 fun E hE=>?_
 by_cases h2:l.length<2
 . have h2':(l.length:Int)<2:=by omega
   simp [p254,h2'];apply RZ;simp [results254,Ck];omega
 by_cases h3:32<l.length
 . have h2':¬ (l.length:Int)<2:=by omega
   have h3':(32:Int)<l.length:=by omega
   simp [p254,h2',h3'];apply RZ;simp [results254,Ck];omega
 have h2':¬ (l.length:Int)<2:=by omega
 have h3':¬ (32:Int)<l.length:=by omega
 simp [p254,h2',h3'];refine Al (α:=Nat) (fun i=>⟨AO [(0, .d (DA l)),(13, .d (DA l)),(14,vi l.length),(15,vi i)],lk [],0⟩) (fun i=>i<=l.length/\DV l i=true) (fun i=>l.length-i) 0 ?_ ?_ ?_
 . simp [DV]
 . exact WK hE (lk [])
 . rintro i ⟨hi,hg⟩
   simp [bU];refine Bh (fun h=>?_) (fun h=>?_)
   . simp at h
     have hil:i<l.length:=by omega
     obtain ⟨k,hk⟩:∃ k,l[i]?= some k:=⟨l[i],by simp [hil]⟩
     by_cases h0:i=0
     . subst h0
       have e:C3 l 0=okK k:=HZ hk;have hz:IntKind.wrap .i64 1=1:=by decide
       by_cases c1:min k.1 k.2.1 < -1073741824
       . have hb:C3 l 0=false:=by simp [e,JF (Or.inl c1)]
         simp [hk,AA,c1];apply RZ;simp [results254,Ck,Cf hil hb]
       by_cases c2:1073741824<max k.1 k.2.2
       . have hb:C3 l 0=false:=by simp [e,JF (Or.inr (Or.inl c2))]
         simp [hk,AA,c1,c2];apply RZ;simp [results254,Ck,Cf hil hb]
       by_cases c3:k.2.2<k.2.1
       . have hb:C3 l 0=false:=by simp [e,JF (Or.inr (Or.inr c3))]
         simp [hk,AA,c1,c2,c3];apply RZ;simp [results254,Ck,Cf hil hb]
       have hk1:okK k=true:=by rw [FE];omega
       simp [hk,AA,c1,c2,c3,hz];refine ⟨1,⟨by omega,by rw [Ji,hg,e,hk1];rfl⟩,by omega,?_⟩;exact WK hE (lk [])
     . obtain ⟨j,hj⟩:∃ j,i=j+1:=⟨i-1,by omega⟩
       obtain ⟨p,hp⟩:∃ p,l[j]?= some p:=⟨l[j],by simp [show j<l.length by omega]⟩
       have e:C3 l i=(okK k&&decide (p.1<k.1)):=by subst hj;exact FF hk hp
       have hz:IntKind.wrap .i64 ((i:Int)+1)=(i:Int)+1:=AD (by omega) (by omega);have hz2:IntKind.wrap .i64 ((i:Int)-1)=(j:Int):=by rw [AD (by omega) (by omega)];omega
       have hpos:0<i:=by omega
       by_cases c1:min k.1 k.2.1 < -1073741824
       . have hb:C3 l i=false:=by simp [e,JF (Or.inl c1)]
         simp [hk,AA,c1];apply RZ;simp [results254,Ck,Cf hil hb]
       by_cases c2:1073741824<max k.1 k.2.2
       . have hb:C3 l i=false:=by simp [e,JF (Or.inr (Or.inl c2))]
         simp [hk,AA,c1,c2];apply RZ;simp [results254,Ck,Cf hil hb]
       by_cases c3:k.2.2<k.2.1
       . have hb:C3 l i=false:=by simp [e,JF (Or.inr (Or.inr c3))]
         simp [hk,AA,c1,c2,c3];apply RZ;simp [results254,Ck,Cf hil hb]
       have hk1:okK k=true:=by rw [FE];omega
       by_cases c4:k.1<=p.1
       . have hb:C3 l i=false:=by rw [e,decide_eq_false (by omega)];simp
         simp [hk,hp,AA,c1,c2,c3,c4,hz2,hpos];apply RZ;simp [results254,Ck,Cf hil hb]
       simp [hk,hp,AA,c1,c2,c3,c4,hz,hz2,hpos];refine ⟨i+1,⟨by omega,by rw [Ji,hg,e,hk1,decide_eq_true (by omega)];rfl⟩,by omega,?_⟩;exact WK hE (lk [])
   . simp at h
     have hil:i=l.length:=by omega
     subst hil;simp;apply RZ;simp [results254,Ck,hg];omega
theorem Zl {a b:Int} (hb:0<b):a.tdiv b=if 0<=a\/a%b=0 then a/b else a/b+1:=by
 rw [Int.tdiv_eq_ediv];by_cases h:0<=a\/b ∣ a
 . rw [if_pos h,if_pos]
   . simp
   . exact h.imp id Int.emod_eq_zero_of_dvd
 . rw [if_neg h,if_neg]
   . rw [Int.sign_eq_one_of_pos hb]
   . exact fun h2=>h (h2.imp id Int.dvd_of_emod_eq_zero)
theorem jF (a b:Int) (ha: -9223372036854775807<=a/\a<=9223372036854775807) (hb:1<=b) (hb2:b<=9223372036854775807):Ct prog 287 [vi a,vi b] (vi (a/b)) []:=by
 refine CB func287 c287 fun E hE=>?_
 have e:=Int.mul_ediv_add_emod a b;have m0:=Int.emod_nonneg a (show b≠0 by omega);have m1:=Int.emod_lt_of_pos a (show 0<b by omega);have t:=Zl (a:=a) (b:=b) (by omega)
 have q0: -9223372036854775807<=a/b:=by
   refine (Int.le_ediv_iff_mul_le (by omega)).2 ?_;have:=Int.mul_le_mul_of_nonneg_left hb (show (0:Int)<=9223372036854775807 by omega);omega
 have q1:a/b<=9223372036854775807:=by
   by_cases h0:0<=a
   . exact Int.le_trans (Int.ediv_le_self _ h0) ha.2
   . have:=Int.ediv_neg_of_neg_of_pos (show a<0 by omega) (show 0<b by omega)
     omega
 rw [Int.mul_comm] at e;have bn:¬ b=0:=by omega
 by_cases hc:0<=a\/a%b=0
 . rw [if_pos hc] at t
   have w1:IntKind.wrap .i64 (a/b)=a/b:=AD (by omega) (by omega);have w2:IntKind.wrap .i64 (a/b*b)=a/b*b:=AD (by omega) (by omega);have hn:¬ a<a/b*b:=by omega
   simp [p287,bn,t,w1,w2,hn];apply RZ;simp [results287]
 . rw [if_neg hc] at t
   have hneg:a<0:=by omega
   have q2:=Int.ediv_neg_of_neg_of_pos hneg (show 0<b by omega);have e2:(a/b+1)*b=a/b*b+b:=by rw [Int.add_mul];omega
   have e3:(a/b+1)*b<=0:=Int.mul_nonpos_of_nonpos_of_nonneg (by omega) (by omega);have w1:IntKind.wrap .i64 (a/b+1)=a/b+1:=AD (by omega) (by omega);have w2:IntKind.wrap .i64 ((a/b+1)*b)=(a/b+1)*b:=AD (by omega) (by omega);have hn:a<(a/b+1)*b:=by omega
   have w3:IntKind.wrap .i64 (a/b+1-1)=a/b:=by rw [AD (by omega) (by omega)];omega
   have w4:IntKind.wrap .i64 (a/b)=a/b:=AD (by omega) (by omega);simp [p287,bn,t,w1,w2,w4,hn];apply RZ;simp [results287]
theorem Zd {H:Hp} (x:D):Bor H (.d x) (.d x):=Or.inl rfl
@[simp] theorem fm {H:Hp}:∀ ds:List D,AJ (Bor H) (ds.map .d) (ds.map .d)
 | []=>trivial
 | x::ds=>⟨Zd x,fm ds⟩
theorem kw (n r:Nat) (f:FuncId) (ds:List D) (p:Nat->Bool) (hn:n<=1000000) (hp:∀ i:Nat,i<n->Ct prog f (vi i::ds.map .d) (vb (p i)) []) (hr:r<=n) (h0:∀ i,i<r->p i=false) (h1:∀ i,r<=i->i<n->p i=true):
   Ct prog 77 [vi n, .d (.fn f ds)] (vi r) []:=by
 refine CB func77 c77 fun E hE=>?_
 simp [p77];refine Al (α:=Nat × Nat) (fun x=>⟨AO [(1, .d (.fn f ds)),(5,vi x.1),(6,vi x.2)],lk [],0⟩) (fun x=>x.1<=r/\r<=x.2/\x.2<=n) (fun x=>x.2-x.1) (0,n) ?_ ?_ ?_
 . simp;omega
 . exact WK hE (lk [])
 . rintro ⟨lo,hi⟩ ⟨g1,g2,g3⟩
   simp only at g1 g2 g3;simp [jL];by_cases hlt:lo<hi
   . have e1:IntKind.wrap .i64 ((lo:Int)+hi)=(lo:Int)+hi:=AD (by omega) (by omega)
     obtain ⟨m,hm⟩:∃ m:Nat,m=(lo+hi)/2:=⟨_,rfl⟩
     have e2:IntKind.wrap .u64 ((lo:Int)+hi)=(lo:Int)+hi:=Ay (by omega) (by omega);have e3:IntKind.wrap .i64 (((lo:Int)+hi)/2)=(m:Int):=by rw [AD (by omega) (by omega)];omega
     have e4:IntKind.wrap .i64 ((m:Int)+1)=((m+1:Nat):Int):=by rw [AD (by omega) (by omega)];rfl
     simp only [Int.natCast_add,Int.cast_ofNat_Int] at e4;simp [hlt,e1,e2,e3];refine CLa (hp m (by omega)) ?_;cases hpm:p m with
     | true=>
       have:r<=m:=Nat.not_lt.1 fun h=>by rw [h0 m h] at hpm;cases hpm
       simp;refine ⟨lo,m,⟨by omega,by omega,by omega⟩,by omega,?_⟩;exact WK hE (lk [])
     | false=>
       have:m<r:=Nat.not_le.1 fun h=>by rw [h1 m h (by omega)] at hpm;cases hpm
       simp [e4];refine ⟨m+1,hi,⟨by omega,by omega,by omega⟩,by omega,?_⟩;exact WK hE (lk [])
   . have:lo=r:=by omega
     subst this;simp [hlt];apply RZ;simp [results77]
theorem mP {l:List (Int × Int × Int)} (h:Ck l=true):∀ (d i:Nat) (a b:Int × Int × Int),l[i]?= some a->l[i+d+1]?= some b->a.1<b.1:=by
 have hg:∀ i (k:Int × Int × Int),l[i]?= some k->C3 l i=true:=fun i k hk=>by
   simp only [Ck,Bool.and_eq_true,DV,List.all_eq_true] at h;refine h.2 i (List.mem_range.2 ?_);exact (List.getElem?_eq_some_iff.1 hk).1
 have hs:∀ (i:Nat) (a b:Int × Int × Int),l[i]?= some a->l[i+1]?= some b->a.1<b.1:=fun i a b ha hb=>by
   have:=hg (i+1) b hb;rw [FF hb ha] at this;simp only [Bool.and_eq_true,decide_eq_true_eq] at this;exact this.2
 intro d;induction d with
 | zero=>exact hs
 | succ d ih=>
   intro i a b ha hb
   obtain ⟨c,hc⟩:∃ c,l[i+d+1]?= some c:=by
     have:=(List.getElem?_eq_some_iff.1 hb).1;exact ⟨l[i+d+1],by simp⟩
   have h1:=ih i a c ha hc;have h2:=hs (i+d+1) c b hc hb;omega
theorem LT {l:List (Int × Int × Int)} (h:Ck l=true) {i j:Nat} {a b:Int × Int × Int} (ha:l[i]?= some a) (hb:l[j]?= some b) (hij:i<j):a.1<b.1:=
 mP h (j-i-1) i a b ha (by rw [show i+(j-i-1)+1=j by omega];exact hb)
theorem KB {l:List (Int × Int × Int)} (h:Ck l=true) {i:Nat} {k:Int × Int × Int} (hk:l[i]?= some k):okK k=true:=by
 simp only [Ck,Bool.and_eq_true,DV,List.all_eq_true] at h;have:=h.2 i (List.mem_range.2 (List.getElem?_eq_some_iff.1 hk).1);unfold C3 at this;rw [hk] at this;simp only [Bool.and_eq_true] at this;exact this.1
theorem Qm {l:List (Int × Int × Int)} (h:Ck l=true):2<=l.length/\l.length<=32:=by
 simp only [Ck,Bool.and_eq_true,decide_eq_true_eq] at h;exact h.1
def Fl (l:List (Int × Int × Int)) (x:Int):Nat:=(l.takeWhile fun k=>decide (k.1<=x)).length
theorem cK (l:List (Int × Int × Int)) (x:Int):Fl l x<=l.length:=by
 unfold Fl;exact (List.takeWhile_sublist _).length_le
theorem AAY:∀ (l:List (Int × Int × Int)) (x:Int) (i:Nat) (k:Int × Int × Int),l[i]?= some k->i<Fl l x->k.1<=x
 | [],_,_,_,h,_=>by simp at h
 | a::l,x,i,k,h,hi=>by
   unfold Fl at hi;by_cases hc:a.1<=x
   . cases i with
     | zero=>simp at h;subst h;exact hc
     | succ i=>
       simp [hc] at hi h;exact AAY l x i k h (by unfold Fl;exact hi)
   . simp [hc] at hi
theorem ADo:∀ (l:List (Int × Int × Int)) (x:Int) (k:Int × Int × Int),l[Fl l x]?= some k->x<k.1
 | [],_,_,h=>by simp at h
 | a::l,x,k,h=>by
   unfold Fl at h;by_cases hc:a.1<=x
   . simp [hc] at h
     exact ADo l x k (by unfold Fl;exact h)
   . simp [hc] at h
     subst h;omega
theorem KC {l:List (Int × Int × Int)} (ht:Ck l=true) {x:Int} {i:Nat} {k:Int × Int × Int} (hk:l[i]?= some k) (hi:Fl l x<=i):x<k.1:=by
 have hlt:=(List.getElem?_eq_some_iff.1 hk).1;obtain ⟨c,hc⟩:∃ c,l[Fl l x]?= some c:=⟨l[Fl l x],by simp⟩
 have h1:=ADo l x c hc;by_cases he:Fl l x=i
 . rw [he,hk] at hc;cases hc;exact h1
 . have:=LT ht hc hk (by omega)
   omega
def DB (l:List (Int × Int × Int)) (x:Int):Nat:=min (max (Fl l x) 1) (l.length-1)-1
def Ir (a b:Int × Int × Int) (x:Int):Int × Int:=(a.2.1+(x-a.1)*(b.2.1-a.2.1)/(b.1-a.1),a.2.2-(x-a.1)*(a.2.2-b.2.2)/(b.1-a.1))
def atS (l:List (Int × Int × Int)) (x:Int):Int × Int:=match l[DB l x]?,l[DB l x+1]? with
 | some a,some b=>Ir a b x
 | _,_=>(0,0)
theorem qx (l:List (Int × Int × Int)) (_:l.length<=1000000) (x:Int) (i:Nat) (k:Int × Int × Int) (hk:l[i]?= some k):Ct prog 286 [vi i, .d (.ref [DA l]), .d (.ref [di x])] (vb (decide (x<k.1))) []:=by
 refine CB func286 c286 fun E hE=>?_
 have hil:i<l.length:=(List.getElem?_eq_some_iff.1 hk).1;simp [p286,hk];apply RZ;simp [results286]
theorem It {m w n:Int} (hn:0<n) (h0:0<=m) (h1:m<=n) (hw: -2147483648<=w/\w<=2147483648): -2147483648<=m*w/n/\m*w/n<=2147483648:=by
 have b1:m*w<=2147483648*n:=by
   have h2:m*w<=m*2147483648:=Int.mul_le_mul_of_nonneg_left hw.2 h0;have h3:m*2147483648<=n*2147483648:=Int.mul_le_mul_of_nonneg_right h1 (by omega);omega
 have b2: -2147483648*n<=m*w:=by
   have h2:m* -2147483648<=m*w:=Int.mul_le_mul_of_nonneg_left hw.1 h0;have h3:n* -2147483648<=m* -2147483648:=Int.mul_le_mul_of_nonpos_right h1 (by omega);omega
 refine ⟨(Int.le_ediv_iff_mul_le hn).2 b2,?_⟩;have:=Int.ediv_le_ediv hn b1;rw [Int.mul_ediv_cancel _ (by omega)] at this;exact this
theorem Jm {m w:Int} (h0:0<=m) (h1:m<=2147483648) (hw: -2147483648<=w/\w<=2147483648): -4611686018427387904<=m*w/\m*w<=4611686018427387904:=by
 have h2:m*w<=m*2147483648:=Int.mul_le_mul_of_nonneg_left hw.2 h0;have h3:m* -2147483648<=m*w:=Int.mul_le_mul_of_nonneg_left hw.1 h0;omega
theorem jT (l:List (Int × Int × Int)) (x:Int) (ht:Ck l=true) (h0:∀ k,l[0]?= some k->k.1<=x) (h1:∀ k,l[l.length-1]?= some k->x<=k.1):Ct prog 256 [.d (DA l),vi x] (vsp (atS l x).1 (atS l x).2) []:=by
 have hlen:=Qm ht;have hc:=cK l x;have hs:DB l x+1<l.length:=by unfold DB;omega
 obtain ⟨a,ha⟩:∃ a,l[DB l x]?= some a:=⟨l[DB l x],by simp⟩
 obtain ⟨b,hb⟩:∃ b,l[DB l x+1]?= some b:=⟨l[DB l x+1],by simp⟩
 have hat:atS l x=Ir a b x:=by simp [atS,ha,hb]
 have oa:=FE.1 (KB ht ha);have ob:=FE.1 (KB ht hb);have hab:=LT ht ha hb (by omega)
 have hax:a.1<=x:=by
   by_cases hz:DB l x=0
   . rw [hz] at ha;exact h0 a ha
   . exact AAY l x _ a ha (by unfold DB at hz ⊢;omega)
 have hxb:x<=b.1:=by
   by_cases hz:DB l x+1=l.length-1
   . rw [hz] at hb;exact h1 b hb
   . have:=KC ht hb (x:=x) (by unfold DB at hz ⊢;omega)
     omega
 rw [hat];obtain ⟨s,hsg⟩:∃ s,DB l x=s:=⟨_,rfl⟩
 rw [hsg] at ha hb hs
 have hse:Ct prog 77 [vi l.length, .d (.fn 286 [.ref [DA l], .ref [di x]])] (vi (Fl l x)) []:=by
   refine kw l.length (Fl l x) _ _ (fun i=>(l[i]?.map fun k=>decide (x<k.1)).getD false) (by omega) (fun i hi=>?_) hc (fun i hi=>?_) (fun i hi hi2=>?_)
   . obtain ⟨k,hk⟩:∃ k,l[i]?= some k:=⟨l[i],by simp [hi]⟩
     rw [hk];exact qx l (by omega) x i k hk
   . obtain ⟨k,hk⟩:∃ k,l[i]?= some k:=⟨l[i],by simp [show i<l.length by omega]⟩
     have:=AAY l x i k hk hi;simp [hk];omega
   . obtain ⟨k,hk⟩:∃ k,l[i]?= some k:=⟨l[i],by simp [hi2]⟩
     have:=KC ht hk hi;simp [hk];omega
 refine CB func256 c256 fun E hE=>?_
 simp [p256];refine CLa hse ?_;obtain ⟨s1,hs1⟩:∃ s1,s1=s+1:=⟨_,rfl⟩
 rw [<-hs1] at hb;have w0:IntKind.wrap .i64 ((l.length:Int)-1)=(l.length:Int)-1:=AD (by omega) (by omega);have w1:IntKind.wrap .i64 ((s1:Int)-1)=(s:Int):=by rw [AD (by omega) (by omega)];omega
 have hmn:min (max (Fl l x:Int) 1) ((l.length:Int)-1)=(s1:Int):=by unfold DB at hsg;omega
 have w2:IntKind.wrap .i64 (x-a.1)=x-a.1:=AD (by omega) (by omega);have w3:IntKind.wrap .i64 (b.1-a.1)=b.1-a.1:=AD (by omega) (by omega);have w4:IntKind.wrap .i64 (b.2.1-a.2.1)=b.2.1-a.2.1:=AD (by omega) (by omega);have w5:IntKind.wrap .i64 (a.2.2-b.2.2)=a.2.2-b.2.2:=AD (by omega) (by omega);have b1:=Jm (m:=x-a.1) (w:=b.2.1-a.2.1) (by omega) (by omega) (by omega);have b2:=Jm (m:=x-a.1) (w:=a.2.2-b.2.2) (by omega) (by omega) (by omega);have c1:=It (n:=b.1-a.1) (m:=x-a.1) (w:=b.2.1-a.2.1) (by omega) (by omega) (by omega) (by omega);have c2:=It (n:=b.1-a.1) (m:=x-a.1) (w:=a.2.2-b.2.2) (by omega) (by omega) (by omega) (by omega);have w6:IntKind.wrap .i64 ((x-a.1)*(b.2.1-a.2.1))=(x-a.1)*(b.2.1-a.2.1):=AD (by omega) (by omega);have w7:IntKind.wrap .i64 ((x-a.1)*(a.2.2-b.2.2))=(x-a.1)*(a.2.2-b.2.2):=AD (by omega) (by omega);have w8:IntKind.wrap .i64 (a.2.1+(x-a.1)*(b.2.1-a.2.1)/(b.1-a.1))=a.2.1+(x-a.1)*(b.2.1-a.2.1)/(b.1-a.1):=AD (by omega) (by omega);have w9:IntKind.wrap .i64 (a.2.2-(x-a.1)*(a.2.2-b.2.2)/(b.1-a.1))=a.2.2-(x-a.1)*(a.2.2-b.2.2)/(b.1-a.1):=AD (by omega) (by omega);simp [w0,hmn];refine PG [(11,9),(12,10)] (by kernel_rfl) ?_;simp [w1,ha,hb,inC,Nat.testBit,AA,w2,w3,w4,w6];refine AU.mk _ _ _ (jF ((x-a.1)*(b.2.1-a.2.1)) (b.1-a.1) (by omega) (by omega) (by omega)) (by first | (simp;done) | simp [Bk,CP]) (by simp) (by first | (left;simp;done) | (right;simp;done)) ?_;simp [w8,w5,w7];refine AU.mk _ _ _ (jF ((x-a.1)*(a.2.2-b.2.2)) (b.1-a.1) (by omega) (by omega) (by omega)) (by first | (simp;done) | simp [Bk,CP]) (by simp) (by first | (left;simp;done) | (right;simp;done)) ?_;simp [w9,AA];apply RZ;simp [results256,Ir]
def Fk (l:List (Int × Int × Int)) (x:Int × Int) (i:Nat):Int × Int:=(l.take i).foldl (fun o k=>if x.1<k.1/\k.1<x.2 then Xa o k.2 else o) (Xa (atS l x.1) (atS l x.2))
theorem G6 {l:List (Int × Int × Int)} {x:Int × Int} {i:Nat} {k:Int × Int × Int} (hk:l[i]?= some k):Fk l x (i+1)=if x.1<k.1/\k.1<x.2 then Xa (Fk l x i) k.2 else Fk l x i:=by
 simp [Fk,List.take_add_one,hk]
def Jy (l:List (Int × Int × Int)) (x:Int × Int):(Int × Int) × Int:=
 if Ck l=true then
   if okS x=true then
     match l[0]?,l[l.length-1]? with
     | some a,some b=>if x.1<a.1\/b.1<x.2 then ((0,0),2) else (Fk l x l.length,0)
     | _,_=>((0,0),0)
   else ((0,0),10)
 else ((0,0),13)
theorem jR (l:List (Int × Int × Int)) (x:Int × Int) (hl:l.length<=1000000):Ct prog 177 [.d (DA l),vsp x.1 x.2] (vse (Jy l x)) []:=by
 refine CB func177 c177 fun E hE=>?_
 simp [p177];refine CLa (pc l hl) ?_;by_cases ht:Ck l=true
 . simp [ht]
   refine CLa (AJc x) ?_;by_cases hx:okS x=true
   . have hlen:=Qm ht
     obtain ⟨a,ha⟩:∃ a,l[0]?= some a:=⟨l[0],by simp⟩
     obtain ⟨e,he⟩:∃ e,e=l.length-1:=⟨_,rfl⟩
     obtain ⟨b,hb⟩:∃ b,l[e]?= some b:=⟨l[e],by simp [show e<l.length by omega]⟩
     have we:IntKind.wrap .i64 ((l.length:Int)-1)=(e:Int):=by rw [AD (by omega) (by omega)];omega
     by_cases c1:x.1<a.1
     . simp [hx,ha,c1,AA]
       apply RZ;simp [results177,Jy,ht,hx,ha,<-he,hb,c1]
     by_cases c2:b.1<x.2
     . simp [hx,ha,hb,c1,c2,we,AA]
       apply RZ;simp [results177,Jy,ht,hx,ha,<-he,hb,c1,c2]
     have hxx:=CT.1 hx;have hlast:∀ k,l[l.length-1]?= some k->x.2<=k.1:=fun k hk=>by rw [<-he,hb] at hk;cases hk;omega
     have hfirst:∀ k,l[0]?= some k->k.1<=x.1:=fun k hk=>by rw [ha] at hk;cases hk;omega
     simp [hx,ha,hb,c1,c2,we];refine CLa (jT l x.1 ht hfirst (fun k hk=>by have:=hlast k hk;omega)) ?_;simp [inC,Nat.testBit];refine CLa (jT l x.2 ht (fun k hk=>by have:=hfirst k hk;omega) hlast) ?_;simp [inC,Nat.testBit,AA,AM];refine CLb (Wj (atS l x.1) [atS l x.2] (by simp)) (by first | (simp;done) | simp [Bk,inC,Nat.testBit]) ?_;simp [AA];refine BL (α:=Nat) 0 (fun _:Unit=>⟨AO [(4, .lp 0 0),(8, .lp 1 0)],lk [(0,[vi 0,vi 0]),(1,[vi (Fk l x l.length).1,vi (Fk l x l.length).2])],2⟩) (fun _=>True) (fun i=>⟨AO [(3, .lp 2 0),(4, .lp 0 0),(8, .lp 1 0),(53, .d (DA l)),(54,vi l.length),(55,vi i)],lk [(0,[vi 0,vi 0]),(1,[vi (Fk l x i).1,vi (Fk l x i).2]),(2,[vi x.1,vi x.2])],3⟩) (fun i=>i<=l.length) (fun i=>l.length-i) 0 ?_ ?_ ?_ fun _ _=>?_
     . simp
     . refine AI.mk hE (lk [(0,1048576),(1,44040192),(2,0)]) _ _ _ ?_ ?_ ?_ ?_ ?_<;>simp [Fk,Bu]
     . intro i hi
       simp [bJ];refine Bh (fun h=>?_) (fun h=>?_)
       . simp at h
         obtain ⟨k,hk⟩:∃ k,l[i]?= some k:=⟨l[i],by simp [h]⟩
         have hz:IntKind.wrap .i64 ((i:Int)+1)=(i:Int)+1:=AD (by omega) (by omega);by_cases d1:x.1<k.1
         . by_cases d2:k.1<x.2
           . simp [hk,d1,d2,AA,AM]
             refine CLb (Wj (Fk l x i) [k.2] (by simp)) (by first | (simp;done) | simp [Bk]) ?_;simp [hz,AA];refine ⟨i+1,by omega,by omega,?_⟩;refine AI.mk hE (lk [(0,0),(1,1),(2,2)]) _ _ _ ?_ ?_ ?_ ?_ ?_<;>simp [G6 hk,Bu,d1,d2]
           . simp [hk,d1,d2,hz,AA]
             refine ⟨i+1,by omega,by omega,?_⟩;refine AI.mk hE (lk [(0,0),(1,1),(2,2)]) _ _ _ ?_ ?_ ?_ ?_ ?_<;>simp [G6 hk,d2]
         . simp [hk,d1,hz,AA]
           refine ⟨i+1,by omega,by omega,?_⟩;refine AI.mk hE (lk [(0,0),(1,1),(2,2)]) _ _ _ ?_ ?_ ?_ ?_ ?_<;>simp [G6 hk,d1]
       . simp at h
         have hil:i=l.length:=by omega
         subst hil;simp;exact WK hE (lk [(0,0),(1,1)])
     . simp [AA]
       apply RZ;simp [results177,Jy,ht,hx,ha,<-he,hb,c1,c2]
   . simp [hx,AA]
     apply RZ;simp [results177,Jy,ht,hx]
 . simp [ht,AA]
   apply RZ;simp [results177,Jy,ht]
abbrev knL (k:Int × Int × Int):List D:=[di k.1,di k.2.1,di k.2.2]
theorem hfk:∀ k:Int × Int × Int,(knL k).length=3:=fun _=>rfl
def knOf (x:Lev):Int × Int × Int:=(x.h,x.tl,x.th)
def knT (l:List Lev):List (Int × Int × Int):=l.map knOf
def tmS (k:List (Int × Int × Int)):Tm:=fun a b=>(Jy k (min a b,max a b)).1
def LS (l:List Lev) (i:Nat):List (Int × Int × Int):=(l.take i).map knOf
theorem WR {l:List Lev} {i:Nat} {x:Lev} (h:l[i]?= some x):LS l (i+1)=LS l i++[knOf x]:=by
 unfold LS;rw [List.take_add_one,h];simp
theorem iJ (l:List Lev) (hl:l.length<=1000000) (h0:l≠[]):Ct prog 122 [.d (BF l)] (.cl 189 [.lp 0 0]) [(0,[.ls 1 0 l.length 3]),(1,AH knL (knT l))]:=by
 refine CB func122 c122 fun E hE=>?_
 simp [p122];refine Al (α:=Nat) (fun i=>⟨AO [(3, .lp 0 0),(6, .d (BF l)),(7,vi l.length),(8,vi i)],lk ([(0,[hdF 3 (LS l i) 1])]++ouF knL (LS l i) 1),2⟩) (fun i=>i<=l.length) (fun i=>l.length-i) 0 ?_ ?_ ?_
 . omega
 . rw [show LS l 0=[] from rfl,Aq,Au]
   exact WK hE (lk [(0,1048576)])
 . intro i hi
   by_cases h:i<l.length
   . obtain ⟨x,hx⟩:=gE h
     have hz:=@wz i (by omega);have hI:(i:Int)<l.length:=by omega
     have hnx:=WR hx;have hO:(LS l i).length<=1000000:=by unfold LS;simp;omega
     obtain ⟨O,hOe⟩:∃ O,LS l i=O:=⟨_,rfl⟩
     rw [hOe] at hnx hO ⊢;by_cases hne:O=[]
     . subst hne
       rw [Aq,Au];simp [s9,hI,hx,AA,AM,hz];refine ⟨i+1,by omega,by omega,?_⟩;rw [hnx,Ak (by simp),AZ (by simp)];refine AI.mk hE (lk [(0,0),(1,12582914)]) _ _ _ ?_ ?_ ?_ ?_ ?_<;>simp [AH,knOf]
     . have hsl:=Aw hfk O
       have hwh:=E9 hfk O;have n1:(O.length+1)*24<=140737488355328:=by omega
       have n2:O.length+1<=9223372036854775807:=by omega
       rw [Ak hne,AZ hne];simp [s9,hI,hx,AA,AM,hz,hsl,hwh,n1,n2];refine ⟨i+1,by omega,by omega,?_⟩;rw [hnx,Ak (by simp),AZ (by simp),IV];refine AI.mk hE (lk [(0,0),(1,12582914)]) _ _ _ ?_ ?_ ?_ ?_ ?_<;>simp [knOf]
   . have e:i=l.length:=by omega
     have hn:¬ (i:Int)<l.length:=by omega
     have ek:LS l i=knT l:=by unfold LS knT;rw [e,List.take_length]
     have ene:knT l≠[]:=by unfold knT;simpa using h0
     have ekl:(knT l).length=l.length:=by unfold knT;simp
     rw [ek,Ak ene,AZ ene,ekl];simp [s9,hn];refine AB.by (lk [(0,0),(1,1)]) ?_;simp [results122]
theorem Tw (l:List Lev) (hl:l.length<=1000000) (h0:l≠[]):Ct prog 122 [.d (BF l)] (.d (.fn 189 [.ref [DA (knT l)]])) []:=by
 refine Cm.freeze (iJ l hl h0) ?_;have ekl:(knT l).length=l.length:=by unfold knT;simp
 refine ⟨rfl,Or.inr ⟨0,0,_,[DA (knT l)],rfl,rfl,rfl,?_,trivial⟩,trivial⟩;have:Bor (lk [(0,[.ls 1 0 (knT l).length 3]),(1,AH knL (knT l))]) (.ls 1 0 (knT l).length 3) (.d (slD knL 3 (knT l))):=B0 hfk (by simp);rw [ekl] at this;exact this
theorem Tx (k:List (Int × Int × Int)) (a b:Int) (hk:k.length<=1000000):Ct prog 189 [vi a,vi b, .d (.ref [DA k])] (vsp (tmS k a b).1 (tmS k a b).2) []:=by
 have c:=jR k (min a b,max a b) hk;refine CB func189 c189 fun E hE=>?_
 simp [p189,AA];refine CLa c ?_;simp [AA];apply RZ;simp [results189,tmS]
theorem kS {l:List (Int × Int × Int)} {x:Int} (ht:Ck l=true) (h0:∀ k,l[0]?= some k->k.1<=x) (h1:∀ k,l[l.length-1]?= some k->x<=k.1):
   ∃ a b:Int × Int × Int,l[DB l x]?= some a/\l[DB l x+1]?= some b/\DB l x+1<l.length/\atS l x=Ir a b x/\okK a=true/\okK b=true/\a.1<b.1/\a.1<=x/\x<=b.1/\1<=Fl l x:=by
 have hlen:=Qm ht;have hc:=cK l x;have hs:DB l x+1<l.length:=by unfold DB;omega
 obtain ⟨a,ha⟩:∃ a,l[DB l x]?= some a:=⟨l[DB l x],by simp⟩
 obtain ⟨b,hb⟩:∃ b,l[DB l x+1]?= some b:=⟨l[DB l x+1],by simp⟩
 have hc1:1<=Fl l x:=Nat.not_lt.1 fun h=>by
   obtain ⟨k,hk⟩:∃ k,l[0]?= some k:=⟨l[0],by simp⟩
   have h2:=KC ht hk (x:=x) (by omega);have h3:=h0 k hk;omega
 refine ⟨a,b,ha,hb,hs,by simp [atS,ha,hb],KB ht ha,KB ht hb,LT ht ha hb (by omega),?_,?_,hc1⟩
 . by_cases hz:DB l x=0
   . rw [hz] at ha;exact h0 a ha
   . exact AAY l x _ a ha (by unfold DB at hz ⊢;omega)
 . by_cases hz:DB l x+1=l.length-1
   . rw [hz] at hb;exact h1 b hb
   . have:=KC ht hb (x:=x) (by unfold DB at hz ⊢;omega)
     omega
abbrev Kn:=Int × Int × Int
theorem XE {d m n:Int} (hn:0<n) (h0:0<=d) (h1:d<=n):min 0 m<=d*m/n:=by
 rw [Int.le_ediv_iff_mul_le hn];by_cases hm:0<=m
 . rw [show min 0 m=0 by omega,Int.zero_mul]
   exact Int.mul_nonneg h0 hm
 . rw [show min 0 m=m by omega,Int.mul_comm d]
   exact Int.mul_le_mul_of_nonpos_left (by omega) (by omega)
theorem mY {a k:Kn} {x:Int} (hlt:a.1<k.1) (h1:a.1<=x) (h2:x<=k.1) (oa:a.2.1<=a.2.2) (ok:k.2.1<=k.2.2):min a.2.1 k.2.1<=(Ir a k x).1/\(Ir a k x).1<=(Ir a k x).2/\(Ir a k x).2<=max a.2.2 k.2.2:=by
 have hn:0<k.1-a.1:=by omega
 have d1:=Int.ediv_mul_le ((x-a.1)*(k.2.1-a.2.1)) (show k.1-a.1≠0 by omega);have d2:=Int.ediv_mul_le ((x-a.1)*(a.2.2-k.2.2)) (show k.1-a.1≠0 by omega);have k1:=XE (m:=k.2.1-a.2.1) hn (show 0<=x-a.1 by omega) (by omega);have k2:=XE (m:=a.2.2-k.2.2) hn (show 0<=x-a.1 by omega) (by omega);unfold Ir;simp only;obtain ⟨n,hne⟩:∃ n,k.1-a.1=n:=⟨_,rfl⟩
 obtain ⟨d,hde⟩:∃ d,x-a.1=d:=⟨_,rfl⟩
 rw [hne,hde] at d1 d2 k1 k2;rw [hne,hde];have hd:0<=d/\d<=n:=by omega
 have hn':0<n:=by omega
 obtain ⟨p,hp⟩:∃ p,d*(k.2.1-a.2.1)/n=p:=⟨_,rfl⟩
 obtain ⟨q,hq⟩:∃ q,d*(a.2.2-k.2.2)/n=q:=⟨_,rfl⟩
 rw [hp] at d1 k1;rw [hq] at d2 k2;rw [hp,hq];refine ⟨by omega,?_,by omega⟩;have e1:0<=(a.2.2-a.2.1)*(n-d):=Int.mul_nonneg (by omega) (by omega);have e2:0<=(k.2.2-k.2.1)*d:=Int.mul_nonneg (by omega) (by omega)
 have e3:(p+q)*n<=(a.2.2-a.2.1)*n:=by
   have e4:d*(k.2.1-a.2.1)+d*(a.2.2-k.2.2)=(a.2.2-a.2.1)*n-(a.2.2-a.2.1)*(n-d)-(k.2.2-k.2.1)*d:=by grind
   rw [Int.add_mul];omega
 have:=Int.le_of_mul_le_mul_right e3 hn';omega
section
variable {l:List Kn} (ht:Ck l=true)
def inR (l:List Kn) (x:Int):Prop:=(∀ k,l[0]?= some k->k.1<=x)/\∀ k,l[l.length-1]?= some k->x<=k.1
theorem QE {l:List Kn} {x:Int × Int} {L M:Int} (h1:L<=(atS l x.1).1/\(atS l x.1).1<=(atS l x.1).2/\(atS l x.1).2<=M) (h2:L<=(atS l x.2).1/\(atS l x.2).1<=(atS l x.2).2/\(atS l x.2).2<=M) (h3:∀ k∈l,L<=k.2.1/\k.2.1<=k.2.2/\k.2.2<=M):∀ i,i<=l.length->L<=(Fk l x i).1/\(Fk l x i).1<=(Fk l x i).2/\(Fk l x i).2<=M
 | 0,_=>by unfold Fk Xa;simp;omega
 | i+1,hi=>by
   obtain ⟨c,hc⟩:∃ c,l[i]?= some c:=⟨_,List.getElem?_eq_getElem (by omega)⟩
   have ih:=QE h1 h2 h3 i (by omega);rw [G6 hc];split
   . have:=h3 c (List.mem_of_getElem? hc)
     unfold Xa;simp only;omega
   . exact ih
include ht in
theorem Sn {x:Int} (hx:inR l x) {L M:Int} (h3:∀ k∈l,L<=k.2.1/\k.2.1<=k.2.2/\k.2.2<=M):L<=(atS l x).1/\(atS l x).1<=(atS l x).2/\(atS l x).2<=M:=by
 obtain ⟨a,k,ha,hk,_,e,_,_,hlt,h1,h2,_⟩:=kS ht hx.1 hx.2;have o1:=h3 a (List.mem_of_getElem? ha);have o2:=h3 k (List.mem_of_getElem? hk);have:=mY hlt h1 h2 o1.2.1 o2.2.1;rw [e];omega
end
end Go.Proofs.Tryz
namespace Go.Proofs.Tryz
open Go.Psl
open Go.Air
theorem fu {a b:Int} (ha: -4000000000000000000<=a/\a<=4000000000000000000): -4000000000000000000<=a.tdiv b/\a.tdiv b<=4000000000000000000:=by
 have:(a.tdiv b).natAbs<=a.natAbs:=by rw [Int.natAbs_tdiv];exact Nat.div_le_self _ _
 omega
theorem Zi (a b:Int) (ha: -4000000000000000000<=a/\a<=4000000000000000000) (hb:0<b):Ct prog 144 [vsp a b] (vi (fl a b)) []:=by
 have hz:¬ b=0:=by omega
 have hq:=fu (b:=b) ha;have w1:IntKind.wrap .i64 (a.tdiv b)=a.tdiv b:=AD (by omega) (by omega);have w2:IntKind.wrap .i64 (a.tdiv b-1)=a.tdiv b-1:=AD (by omega) (by omega);have e:=ABy (a:=a) hb;refine CB func144 c144 fun E hE=>?_
 by_cases h1:a<0
 . by_cases h2:a.tmod b=0
   . rw [if_neg (by simp [h2])] at e
     simp [p144,h1,h2,hz,w1];apply RZ;simp [results144,e]
   . rw [if_pos ⟨h1,h2⟩] at e
     simp [p144,h1,h2,hz,w1,w2];apply RZ;simp [results144,e]
 . rw [if_neg (by simp [h1])] at e
   simp [p144,h1,hz,w1];apply RZ;simp [results144,e]
theorem pm {a b:Int} (ha: -3000000000000000000<=a/\a<=3000000000000000000) (hb:0<b): -4000000000000000000<=fl a b/\fl a b<=4000000000000000000:=by
 have:(a.tdiv b).natAbs<=a.natAbs:=by rw [Int.natAbs_tdiv];exact Nat.div_le_self _ _
 rw [ABy hb];split<;>omega
theorem jC (a b:Int) (ha: -3000000000000000000<=a/\a<=3000000000000000000) (hb:0<b):Ct prog 192 [vsp a b] (vi (ce a b)) []:=by
 have w1:IntKind.wrap .i64 (-a)= -a:=AD (by omega) (by omega);have hf:=pm (a:= -a) (b:=b) (by omega) hb;have w2:IntKind.wrap .i64 (-fl (-a) b)= -fl (-a) b:=AD (by omega) (by omega);refine CB func192 c192 fun E hE=>?_
 simp [p192,AA,w1];refine CLa (Zi (-a) b (by omega) hb) ?_;simp [w2];apply RZ;simp [results192,ce,fl]
def rSp (r:Int × Int):Int × Int:=(fl r.1 r.2,ce r.1 r.2)
def Ed (r:Int × Int) (l:List (Int × Int)):Int × Int:=Bu (rSp r) (l.map rSp)
def okR (r:Int × Int):Prop:=(-3000000000000000000<=r.1/\r.1<=3000000000000000000)/\0<r.2
theorem O8 {r:Int × Int} {l:List (Int × Int)} {i:Nat} {s:Int × Int} (h:l[i]?= some s):Ed r (l.take (i+1))=Xa (Ed r (l.take i)) (rSp s):=by
 unfold Ed;rw [List.map_take,List.map_take,Hw (s:=rSp s) (by rw [List.getElem?_map,h];rfl)]
theorem pn (r:Int × Int) (l:List (Int × Int)) (hl:l.length<=1000000) (hr:okR r) (ho:∀ q∈l,okR q):Ct prog 124 [.d (An (r::l))] (vsp (Ed r l).1 (Ed r l).2) []:=by
 have c1:=Zi r.1 r.2 (by have:=hr.1;omega) hr.2;have c2:=jC r.1 r.2 hr.1 hr.2;have h0:(1:Int)<=(l.length:Int)+1:=by omega
 refine CB func124 c124 fun E hE=>?_
 simp [p124,inC,Nat.testBit];refine CLa c1 ?_;simp [inC,Nat.testBit];refine CLa c2 ?_;simp [AA,h0];refine Al (α:=Nat) (fun i=>⟨AO [(2, .lp 0 0),(3, .lp 1 0),(16, .d (An l)),(17,vi l.length),(18,vi i)],lk [(0,[vi 0,vi 0]),(1,[vi (Ed r (l.take i)).1,vi (Ed r (l.take i)).2])],2⟩) (fun i=>i<=l.length) (fun i=>l.length-i) 0 ?_ ?_ ?_
 . simp
 . refine AI.mk hE (lk [(0,0),(1,10485760)]) _ _ _ ?_ ?_ ?_ ?_ ?_<;>simp [Ed,Bu,rSp]
   exact List.take_of_length_le (by simp)
 . intro i hi
   by_cases h:i<l.length
   . obtain ⟨q,hq⟩:=gE h
     have hz:=@wz i (by omega);have hI:(i:Int)<l.length:=by omega
     have hqo:=ho q (List.mem_of_getElem? hq);have d1:=Zi q.1 q.2 (by have:=hqo.1;omega) hqo.2;have d2:=jC q.1 q.2 hqo.1 hqo.2;simp [SA,hI,hq,AA];refine AL [(11,1)] (by kernel_rfl) ?_;simp [inC,Nat.testBit];refine CLa d1 ?_;simp [inC,Nat.testBit];refine CLa d2 ?_;simp [AA,hz,inC,Nat.testBit];refine ⟨i+1,by omega,by omega,?_⟩;refine AI.mk hE (lk [(0,0),(1,1)]) _ _ _ ?_ ?_ ?_ ?_ ?_<;>simp [O8 hq,Xa,rSp]
   . have e:i=l.length:=by omega
     have hn:¬ (i:Int)<l.length:=by omega
     rw [e,List.take_length];simp [SA,AA];apply RZ;simp [results124]
theorem J4 {x X y Y:Int} (hx:0<=x/\x<=X) (hy:0<=y/\y<=Y):0<=x*y/\x*y<=X*Y:=
 ⟨Int.mul_nonneg hx.1 hy.1,Int.mul_le_mul hx.2 hy.2 hy.1 (by omega)⟩
theorem J5 {a b:Int} (ha:0<=a):a.tdiv b=a/b:=Int.tdiv_eq_ediv_of_nonneg ha
theorem NJ {a b M:Int} (ha:0<=a/\a<=M) (hb:0<b):0<=a/b/\a/b<=M:=by
 refine ⟨Int.ediv_nonneg ha.1 (by omega),?_⟩;have:=Int.ediv_le_self b ha.1;omega
theorem O6 (x y c tl th:Int) (hx:0<=x/\x<=400000000) (hy:0<=y/\y<=400000000) (hc:0<c/\c<=2000) (ht:1500<=tl/\tl<=th/\th<=3500):Ct prog 158 [vsp x y,vi c,vsp tl th] (vsp (CY (1000000*tl) (341632*c) x) (C9 (1000000*th) (341632*c) y)) []:=by
 have hc1:=hc.1;have hm:max c (-c)=c:=by omega
 obtain ⟨A,hA⟩:∃ A,1000000*tl=A:=⟨_,rfl⟩
 obtain ⟨B,hB⟩:∃ B,1000000*th=B:=⟨_,rfl⟩
 obtain ⟨S,hS⟩:∃ S,341632*c=S:=⟨_,rfl⟩
 have w0:IntKind.wrap .i64 (-c)= -c:=AD (by omega) (by omega);have w1:IntKind.wrap .i64 S=S:=AD (by omega) (by omega);have w2:IntKind.wrap .i64 A=A:=AD (by omega) (by omega);have w3:IntKind.wrap .i64 B=B:=AD (by omega) (by omega);have w4:IntKind.wrap .i64 (A-S)=A-S:=AD (by omega) (by omega);have m1:=J4 (x:=x) (y:=A-S) (X:=400000000) (Y:=3500000000) hx (by omega);have m2:=J4 (x:=y) (y:=B) (X:=400000000) (Y:=3500000000) hy (by omega);have w5:IntKind.wrap .i64 (x*(A-S))=x*(A-S):=AD (by omega) (by omega);have w6:IntKind.wrap .i64 (y*B)=y*B:=AD (by omega) (by omega);have w7:IntKind.wrap .i64 (y*B+B)=y*B+B:=AD (by omega) (by omega);have w8:IntKind.wrap .i64 (y*B+B+S)=y*B+B+S:=AD (by omega) (by omega);have w9:IntKind.wrap .i64 (y*B+B+S-1)=y*B+B+S-1:=AD (by omega) (by omega);have w10:IntKind.wrap .i64 (B+S)=B+S:=AD (by omega) (by omega);have t1:(x*(A-S)).tdiv A=x*(A-S)/A:=J5 m1.1;have t2:(y*B+B+S-1).tdiv (B+S)=(y*B+B+S-1)/(B+S):=J5 (by omega);have d1:=NJ (a:=x*(A-S)) (b:=A) m1 (by omega);have d2:=NJ (a:=y*B+B+S-1) (b:=B+S) (M:=2000000000000000000) (by omega) (by omega);have w11:IntKind.wrap .i64 (x*(A-S)/A)=x*(A-S)/A:=AD (by omega) (by omega);have w12:IntKind.wrap .i64 ((y*B+B+S-1)/(B+S))=(y*B+B+S-1)/(B+S):=AD (by omega) (by omega);have z1:¬ A=0:=by omega
 have z2:¬ B+S=0:=by omega
 have e1:CY A S x=x*(A-S)/A:=rfl;have e2:C9 B S y=(y*B+B+S-1)/(B+S):=by unfold C9 cdv;rw [show y*B+(B+S)-1=y*B+B+S-1 by omega]
 refine CB func158 qT fun E hE=>?_
 simp [p158,AA,inC,Nat.testBit,hc1,hm,hA,hB,hS,w0,w1,w2,w3,w4,w5,w6,w7,w8,w9,w10,w11,w12,t1,t2,z1,z2];apply RZ;simp [results158,e1,e2]
theorem ZY (x y c tl th:Int) (hx:0<=x/\x<=400000000) (hy:0<=y/\y<=400000000) (hc:0<c/\c<=2000) (ht:1500<=tl/\tl<=th/\th<=3500):Ct prog 158 [vsp x y,vi (-c),vsp tl th] (vsp (Cz (1000000*th) (341632*c) x) (Ec (1000000*tl) (341632*c) y)) []:=by
 have hc1:¬ c<0:=by omega
 have hm:max (-c) c=c:=by omega
 obtain ⟨A,hA⟩:∃ A,1000000*tl=A:=⟨_,rfl⟩
 obtain ⟨B,hB⟩:∃ B,1000000*th=B:=⟨_,rfl⟩
 obtain ⟨S,hS⟩:∃ S,341632*c=S:=⟨_,rfl⟩
 have w0:IntKind.wrap .i64 c=c:=AD (by omega) (by omega);have w1:IntKind.wrap .i64 S=S:=AD (by omega) (by omega);have w2:IntKind.wrap .i64 A=A:=AD (by omega) (by omega);have w3:IntKind.wrap .i64 B=B:=AD (by omega) (by omega);have w4:IntKind.wrap .i64 (B+S)=B+S:=AD (by omega) (by omega);have m1:=J4 (x:=x) (y:=B+S) (X:=400000000) (Y:=5000000000) hx (by omega);have m2:=J4 (x:=y) (y:=A) (X:=400000000) (Y:=3500000000) hy (by omega);have w5:IntKind.wrap .i64 (x*(B+S))=x*(B+S):=AD (by omega) (by omega);have w6:IntKind.wrap .i64 (y*A)=y*A:=AD (by omega) (by omega);have w7:IntKind.wrap .i64 (y*A+A)=y*A+A:=AD (by omega) (by omega);have w8:IntKind.wrap .i64 (y*A+A-S)=y*A+A-S:=AD (by omega) (by omega);have w9:IntKind.wrap .i64 (y*A+A-S-1)=y*A+A-S-1:=AD (by omega) (by omega);have w10:IntKind.wrap .i64 (A-S)=A-S:=AD (by omega) (by omega);have t1:(x*(B+S)).tdiv B=x*(B+S)/B:=J5 m1.1;have t2:(y*A+A-S-1).tdiv (A-S)=(y*A+A-S-1)/(A-S):=J5 (by omega);have d1:=NJ (a:=x*(B+S)) (b:=B) m1 (by omega);have d2:=NJ (a:=y*A+A-S-1) (b:=A-S) (M:=2000000000000000000) (by omega) (by omega);have w11:IntKind.wrap .i64 (x*(B+S)/B)=x*(B+S)/B:=AD (by omega) (by omega);have w12:IntKind.wrap .i64 ((y*A+A-S-1)/(A-S))=(y*A+A-S-1)/(A-S):=AD (by omega) (by omega);have z1:¬ B=0:=by omega
 have z2:¬ A-S=0:=by omega
 have e1:Cz B S x=x*(B+S)/B:=rfl;have e2:Ec A S y=(y*A+A-S-1)/(A-S):=by unfold Ec cdv;rw [show y*A+(A-S)-1=y*A+A-S-1 by omega]
 refine CB func158 qT fun E hE=>?_
 simp [p158,AA,inC,Nat.testBit,hc1,hm,hA,hB,hS,w0,w1,w2,w3,w4,w5,w6,w7,w8,w9,w10,w11,w12,t1,t2,z1,z2];apply RZ;simp [results158,e1,e2]
def Vj (a b c d:Int):Nat->Int × Int
 | 0=>(a,b)
 | 1=>(a,b)
 | _=>(max a c,min b d)
theorem iw (a b c d:Int):Ct prog 157 [.d (An [(a,b),(c,d)])] (vsp (max a c) (min b d)) []:=by
 have ww1:IntKind.wrap .i64 1=1:=by decide
 have ww2:IntKind.wrap .i64 2=2:=by decide
 refine CB func157 c157 fun E hE=>?_
 simp [p157,AA];refine Al (α:=Nat) (fun k=>⟨AO [(2, .lp 0 0),(3, .lp 1 0),(9, .d (An [(a,b),(c,d)])),(10,vi 2),(11,vi k)],lk [(0,[vi 0,vi 0]),(1,[vi (Vj a b c d k).1,vi (Vj a b c d k).2])],2⟩) (fun k=>k<=2) (fun k=>2-k) 0 ?_ ?_ ?_
 . omega
 . skip
   refine AI.mk hE (lk [(0,0),(1,4194304)]) _ _ _ ?_ ?_ ?_ ?_ ?_<;>simp [Vj]
 . intro i hi
   match i,hi with
   | 0,_=>
     simp [tC,AA,Vj];refine AL [(11,1)] (by kernel_rfl) ?_;simp [AA,inC,Nat.testBit,ww1];refine ⟨1,by omega,by omega,?_⟩;exact WK hE (lk [(0,0),(1,1)])
   | 1,_=>
     simp [tC,AA,Vj];refine AL [(11,1)] (by kernel_rfl) ?_;simp [AA,inC,Nat.testBit,ww2];refine ⟨2,by omega,by omega,?_⟩;exact WK hE (lk [(0,0),(1,1)])
   | 2,_=>
     simp [tC,AA,Vj];apply RZ;simp [results157]
   | i+3,hi=>omega
theorem O5 (k:List (Int × Int × Int)) (a b:Int):tmS k a b=tmS k b a:=by
 unfold tmS;rw [Int.min_comm,Int.max_comm]
abbrev thD (k:List (Int × Int × Int)):D:= .fn 189 [.ref [DA k]]
structure TmB (T:Tm) (a b:Int):Prop where
 p:1500<=(T a b).1/\(T a b).1<=(T a b).2/\(T a b).2<=3500
structure PrB (x:Lev):Prop where
 l:0<=x.pl/\x.pl<=400000000
 h:0<=x.ph/\x.ph<=400000000
theorem AQ {H:Hp} {id:Nat} {a b c d:Int} (h:H id=some [vi a,vi b,vi c,vi d]):Bor H (.ls id 0 2 2) (.d (An [(a,b),(c,d)])):=by
 rw [Bk];exact ⟨rfl,rfl,by simp,_,h,rfl⟩
theorem fb (l:List Lev) (k:List (Int × Int × Int)) (i j:Nat) (a b:Lev) (hk:k.length<=1000000) (_:l.length<=1000000) (ha:l[i]?= some a) (hb:l[j]?= some b) (hd:0<b.h-a.h/\b.h-a.h<=2000) (_: -500<=a.h/\a.h<=9000) (hp:PrB a) (hT:TmB (tmS k) a.h b.h):Cm prog 156 [vi j,vi i, .lp 0 0, .d (.ref [thD k])] (lk [(0,[.ls 1 0 l.length 5]),(1,AH A5 l)]) [0,1] (.ret (.tup [])) (lk [(0,[.ls 1 0 l.length 5]),(1,AH A5 (l.set j (mt b (cyu (tmS k) a b))))]):=by
 have c1:=Tx k a.h b.h hk
 skip
 have c2:=O6 a.pl a.ph (b.h-a.h) (tmS k a.h b.h).1 (tmS k a.h b.h).2 hp.l hp.h hd hT.p;have c3:=iw b.pl b.ph (CY (1000000*(tmS k a.h b.h).1) (341632*(b.h-a.h)) a.pl) (C9 (1000000*(tmS k a.h b.h).2) (341632*(b.h-a.h)) a.ph);have w:IntKind.wrap .i64 (b.h-a.h)=b.h-a.h:=AD (by omega) (by omega);have hil:=(List.getElem?_eq_some_iff.1 ha).1;have hjl:=(List.getElem?_eq_some_iff.1 hb).1;have hI:(i:Int)<l.length:=by omega
 have hJ:(j:Int)<l.length:=by omega
 have e1:List.take 5 (List.drop (i*5) (AH A5 l))=[vi a.h,vi a.pl,vi a.ph,vi a.tl,vi a.th]:=J2 hfl ha;have e2:List.take 5 (List.drop (j*5) (AH A5 l))=[vi b.h,vi b.pl,vi b.ph,vi b.tl,vi b.th]:=J2 hfl hb;have f1:=IW hfl ha;have f2:=IW hfl hb;have f3:j*5+1+2<=l.length*5:=by omega
 have hsl:=Aw hfl l;have e3:AA (AH A5 l) (j*5+1) [vi (max b.pl (CY (1000000*(tmS k a.h b.h).1) (341632*(b.h-a.h)) a.pl)),vi (min b.ph (C9 (1000000*(tmS k a.h b.h).2) (341632*(b.h-a.h)) a.ph))]=AH A5 (l.set j (mt b (cyu (tmS k) a b))):=Cq hfl (vs:=[di (max b.pl (CY (1000000*(tmS k a.h b.h).1) (341632*(b.h-a.h)) a.pl)),di (min b.ph (C9 (1000000*(tmS k a.h b.h).2) (341632*(b.h-a.h)) a.ph))]) hb (by simp) rfl;refine CM 2 func156 qS fun E hs hE=>?_
 simp [p156];refine AL [(10,8388610)] (by kernel_rfl) ?_;simp [AA,hI,hJ,e1,e2,hsl,f1,f2,inC,Nat.testBit];refine CLa c1 ?_;simp [inC,Nat.testBit,w];refine CLa c2 ?_;simp [AA,AM];refine CLb (c3) (by simp [AQ,inC,Nat.testBit]) ?_;simp [hJ,e3,hsl,f3];refine AB.by (lk [(0,0),(1,1)]) ?_;simp [results156]
theorem ZT (a b:Int): -(a-b)=b-a:=by omega
theorem fc (l:List Lev) (k:List (Int × Int × Int)) (i j:Nat) (a b:Lev) (hk:k.length<=1000000) (_:l.length<=1000000) (ha:l[i]?= some a) (hb:l[j]?= some b) (hd:0<a.h-b.h/\a.h-b.h<=2000) (_: -500<=a.h/\a.h<=9000) (hp:PrB a) (hT:TmB (tmS k) a.h b.h):Cm prog 156 [vi j,vi i, .lp 0 0, .d (.ref [thD k])] (lk [(0,[.ls 1 0 l.length 5]),(1,AH A5 l)]) [0,1] (.ret (.tup [])) (lk [(0,[.ls 1 0 l.length 5]),(1,AH A5 (l.set j (mt b (cyd (tmS k) b a))))]):=by
 have c1:=Tx k a.h b.h hk;rw [O5 k a.h b.h] at c1;have c2:=(ZT a.h b.h) ▸ ZY a.pl a.ph (a.h-b.h) (tmS k b.h a.h).1 (tmS k b.h a.h).2 hp.l hp.h hd (O5 k b.h a.h ▸ hT.p);have c3:=iw b.pl b.ph (Cz (1000000*(tmS k b.h a.h).2) (341632*(a.h-b.h)) a.pl) (Ec (1000000*(tmS k b.h a.h).1) (341632*(a.h-b.h)) a.ph);have w:IntKind.wrap .i64 (b.h-a.h)=b.h-a.h:=AD (by omega) (by omega);have hil:=(List.getElem?_eq_some_iff.1 ha).1;have hjl:=(List.getElem?_eq_some_iff.1 hb).1;have hI:(i:Int)<l.length:=by omega
 have hJ:(j:Int)<l.length:=by omega
 have e1:List.take 5 (List.drop (i*5) (AH A5 l))=[vi a.h,vi a.pl,vi a.ph,vi a.tl,vi a.th]:=J2 hfl ha;have e2:List.take 5 (List.drop (j*5) (AH A5 l))=[vi b.h,vi b.pl,vi b.ph,vi b.tl,vi b.th]:=J2 hfl hb;have f1:=IW hfl ha;have f2:=IW hfl hb;have f3:j*5+1+2<=l.length*5:=by omega
 have hsl:=Aw hfl l;have e3:AA (AH A5 l) (j*5+1) [vi (max b.pl (Cz (1000000*(tmS k b.h a.h).2) (341632*(a.h-b.h)) a.pl)),vi (min b.ph (Ec (1000000*(tmS k b.h a.h).1) (341632*(a.h-b.h)) a.ph))]=AH A5 (l.set j (mt b (cyd (tmS k) b a))):=Cq hfl (vs:=[di (max b.pl (Cz (1000000*(tmS k b.h a.h).2) (341632*(a.h-b.h)) a.pl)),di (min b.ph (Ec (1000000*(tmS k b.h a.h).1) (341632*(a.h-b.h)) a.ph))]) hb (by simp) rfl;refine CM 2 func156 qS fun E hs hE=>?_
 simp [p156];refine AL [(10,8388610)] (by kernel_rfl) ?_;simp [AA,hI,hJ,e1,e2,hsl,f1,f2,inC,Nat.testBit];refine CLa c1 ?_;simp [inC,Nat.testBit,w];refine CLa c2 ?_;simp [AA,AM];refine CLb (c3) (by simp [AQ,inC,Nat.testBit]) ?_;simp [hJ,e3,hsl,f3];refine AB.by (lk [(0,0),(1,1)]) ?_;simp [results156]
end Go.Proofs.Tryz
