/- Own lemmas, used by the last text. Conditions: those that each theorem states. -/
import Derived.Test.YtigekgfbcfbobaaGreatDbaf
import Derived.Test.YtigekgfbcfbobaaGreatDbag
import Derived.Test.YtigekgfbcfbobaaGreatDbah
import Derived.Test.YtigekgfbcfbobaaGreatDbaj
import Derived.Test.YtigekgfbcfbobaaGreatDbak
import Derived.Test.YtigekgfbcfbobaaGreatDbal
set_option maxRecDepth 200000
set_option maxHeartbeats 8000000
namespace Go.Proofs.Tryz
open Go.Psl
def ui (x y z:Int):Int × Int:=
 let q:=Qg (max x (-x)) (max y (-y)) z
 let u:=if q.2 then q.1 else q.1+1
 if (decide (x < 0)&&decide (0 < y))||(decide (0 < x)&&decide (y < 0)) then (-u, -q.1) else (q.1,u)
theorem tN (x y z:Int) (hx:0<=x) (hy:0<=y) (hz:1<=z):0<=(Qg x y z).1/\(Qg x y z).1<=4398046511104:=by
 unfold Qg;split
 . simp
 . have:=Int.ediv_nonneg (Int.mul_nonneg hx hy) (show 0<=z by omega)
   simp only;omega
theorem yR (x y z:Int) (hx: -1099511627776<=x/\x<=1099511627776) (hy: -1099511627776<=y/\y<=1099511627776) (hz:1<=z/\z<=1099511627776):Ct prog 278 [vi x,vi y,vi z] (.tup [vi (ui x y z).1,vi (ui x y z).2]) []:=by
 refine CB func278 c278 fun E hE=>?_
 simp [p278];refine CLa (yM x (by omega)) ?_;simp;refine CLa (yM y (by omega)) ?_;simp;refine AU.mk _ _ _ (zL (max x (-x)) (max y (-y)) z (by omega) (by omega) hz) (by first | (simp;done) | simp [Bk,CP]) (by simp) (by first | (left;simp;done) | (right;simp;done)) ?_;have b:=tN (max x (-x)) (max y (-y)) z (by omega) (by omega) hz.1
 generalize hq:Qg (max x (-x)) (max y (-y)) z=q at*
 obtain ⟨q1,q2⟩:=q;simp only at b;have w1:IntKind.wrap .i64 (q1+1)=q1+1:=AD (by omega) (by omega);have w2:IntKind.wrap .i64 (-(q1+1))= -(q1+1):=AD (by omega) (by omega);have w3:IntKind.wrap .i64 (-q1)= -q1:=AD (by omega) (by omega);cases q2<;>by_cases h1:x < 0<;>by_cases h2:0 < y<;>by_cases h3:0 < x<;>by_cases h4:y < 0<;>first | omega | skip
 all_goals
   simp [h1,h2,h3,h4,w1,w2,w3];apply RZ;simp [results278,ui,hq,h1,h2,h3,h4]
def S3 (a b c:Int × Int) (k:Nat):Int × Int:=ui (if k % 2=1 then a.2 else a.1) (if k / 2 % 2=1 then b.2 else b.1) (if k / 4=1 then c.2 else c.1)
def ru (a b c:Int × Int) (i:Nat):Int × Int:=(List.range i).foldl (fun s k=>F7 s (S3 a b c k)) (S3 a b c 0)
def rp (a b c:Int × Int):(Int × Int) × Int:=
 if okS a&&okS b&&okS c then (if c.1<=0 then ((0,0),12) else JH (ru a b c 8)) else ((0,0),10)
theorem wu {a b c:Int × Int} (ha:okS a=true) (hb:okS b=true) (hc:okS c=true) (h1:¬ c.1<=0) (k:Nat):Ct prog 278 [vi (if k % 2=1 then a.2 else a.1),vi (if k / 2 % 2=1 then b.2 else b.1),vi (if k / 4=1 then c.2 else c.1)] (.tup [vi (S3 a b c k).1,vi (S3 a b c k).2]) []:=by
 rw [CT] at ha hb hc;refine yR _ _ _ ?_ ?_ ?_<;>split<;>omega
theorem AAJ (a b c:Int × Int):Ct prog 249 [vsp a.1 a.2,vsp b.1 b.2,vsp c.1 c.2] (vse (rp a b c)) []:=by
 refine CB func249 c249 fun E hE=>?_
 simp [p249];refine CLa (rt a) ?_;by_cases ha:okS a=true
 . simp [ha]
   refine CLa (rt b) ?_;by_cases hb:okS b=true
   . simp [hb]
     refine CLa (rt c) ?_;by_cases hc:okS c=true
     . by_cases h1:c.1<=0
       . simp [hc,h1,AA]
         apply RZ;simp [results249,rp,ha,hb,hc,h1]
       . have ga:=CT.1 ha
         have gb:=CT.1 hb;have gc:=CT.1 hc;simp [hc,h1];refine CLa (yR a.1 b.1 c.1 (by omega) (by omega) (by omega)) ?_;simp;refine BL (α:=Nat) 0 (fun _:Unit=>⟨AO [(6, .lp 0 0),(8,vi (ru a b c 8).1),(9,vi (ru a b c 8).2)],lk [(0,[vi 0,vi 0])],1⟩) (fun _=>True) (fun i=>⟨AO [(3, .lp 1 0),(4, .lp 2 0),(5, .lp 3 0),(6, .lp 0 0),(8,vi (ru a b c i).1),(9,vi (ru a b c i).2),(10,vi i)],lk [(0,[vi 0,vi 0]),(1,[vi a.1,vi a.2]),(2,[vi b.1,vi b.2]),(3,[vi c.1,vi c.2])],4⟩) (fun i=>i<=8) (fun i=>8 - i) 0 ?_ ?_ ?_ fun _ _=>?_
         . simp
         . refine AI.mk hE (lk [(0,3145728),(1,0),(2,1048576),(3,2097152)]) _ _ _ ?_ ?_ ?_ ?_ ?_<;>simp [ru,S3]
         . intro i hi
           simp [wZ];by_cases hlt:i < 8
           . have hlt':(i:Int) < 8:=by omega
             have hz:IntKind.wrap .i64 ((i:Int)+1)=(i:Int)+1:=AD (by omega) (by omega);have t1:(i:Int).tmod 2=((i % 2:Nat):Int):=Int.tmod_eq_emod_of_nonneg (by omega);have t2:(i:Int).tdiv 2=((i / 2:Nat):Int):=Int.tdiv_eq_ediv_of_nonneg (by omega);have t3:((i / 2:Nat):Int).tmod 2=((i / 2 % 2:Nat):Int):=Int.tmod_eq_emod_of_nonneg (by omega);have t4:(i:Int).tdiv 4=((i / 4:Nat):Int):=Int.tdiv_eq_ediv_of_nonneg (by omega);have w1:IntKind.wrap .i64 ((i % 2:Nat):Int)=((i % 2:Nat):Int):=AD (by omega) (by omega);have w2:IntKind.wrap .i64 ((i / 2:Nat):Int)=((i / 2:Nat):Int):=AD (by omega) (by omega);have w3:IntKind.wrap .i64 ((i / 2 % 2:Nat):Int)=((i / 2 % 2:Nat):Int):=AD (by omega) (by omega);have w4:IntKind.wrap .i64 ((i / 4:Nat):Int)=((i / 4:Nat):Int):=AD (by omega) (by omega);have hacc:ru a b c (i+1)=F7 (ru a b c i) (S3 a b c i):=by simp [ru,List.range_succ]
             simp only [Int.natCast_ediv,Int.natCast_emod,Int.cast_ofNat_Int] at t1 t2 t3 t4 w1 w2 w3 w4;rcases Decidable.em (i % 2=1) with g1 | g1<;>rcases Decidable.em (i / 2 % 2=1) with g2 | g2<;>rcases Decidable.em (i / 4=1) with g3 | g3
             all_goals
               have k1:=congrArg (fun n:Nat=>(n:Int)) (show i % 2=i % 2 from rfl);have j1:((i:Int) % 2=1)=(i % 2=1):=by simp;omega
               have j2:((i:Int) / 2 % 2=1)=(i / 2 % 2=1):=by simp;omega
               have j3:((i:Int) / 4=1)=(i / 4=1):=by simp;omega
               clear k1;simp [hlt',t1,t2,t3,t4,w2,w4,j1,j2,j3,g1,g2,g3,Nat.testBit,inC];have q:=wu ha hb hc h1 i;simp [g1,g2,g3] at q;refine CLa q ?_;simp [hz];refine ⟨i+1,by omega,by omega,?_⟩;refine AI.mk hE (lk [(0,0),(1,1),(2,2),(3,3)]) _ _ _ ?_ ?_ ?_ ?_ ?_<;>simp [hacc,F7]
           . have:i=8:=by omega
             subst this;simp;exact WK hE (lk [(0,0)])
         . simp
           refine CLa (AAQ (ru a b c 8)) ?_;simp [AA];apply RZ;simp [results249,rp,ha,hb,hc,h1]
     . simp [hc,AA]
       apply RZ;simp [results249,rp,ha,hb,hc]
   . simp [hb,AA]
     apply RZ;simp [results249,rp,ha,hb]
 . simp [ha,AA]
   apply RZ;simp [results249,rp,ha]
def vd (s:Int × Int):Prop:=s.1<= -2199023255552\/2199023255552<=s.2
theorem ve (x y z:Int) (hz:1<=z):ui x y z=Eg x y z\/(vd (ui x y z)/\vd (Eg x y z)):=by
 obtain ⟨X,hX⟩:∃ X,max x (-x)=X:=⟨_,rfl⟩
 obtain ⟨Y,hY⟩:∃ Y,max y (-y)=Y:=⟨_,rfl⟩
 have X0:0<=X:=by omega
 have Y0:0<=Y:=by omega
 have XY:0<=X*Y:=Int.mul_nonneg X0 Y0
 have c0:x=0\/y=0->X*Y=0:=by
   rintro (h | h)
   . have:X=0:=by omega
     rw [this];simp
   . have:Y=0:=by omega
     rw [this];simp
 have q0:0<=X*Y / z:=Int.ediv_nonneg XY (by omega);have m0:0<=X*Y % z:=Int.emod_nonneg _ (by omega);unfold ui Eg;rw [hX,hY];by_cases hP:X*Y / z < 2199023255552
 . have hc:¬ (0 < X / z/\4398046511104 / (X / z) < Y):=by
     rintro ⟨h1,h2⟩
     have h3:=(Int.ediv_lt_iff_lt_mul h1).1 h2
     have h4:X / z*Y<=X*Y / z:=by
       rw [Int.le_ediv_iff_mul_le (by omega),Int.mul_right_comm];exact Int.mul_le_mul_of_nonneg_right (Int.ediv_mul_le _ (by omega)) Y0
     rw [Int.mul_comm Y] at h3;omega
   have e1:Qg X Y z=(X*Y / z,decide (X*Y % z=0)):=by
     unfold Qg;rw [if_neg hc,Int.min_eq_left (by omega)]
   have e2:Da (X*Y) z=(X*Y / z,X*Y % z):=if_pos hP;left;rw [e1,e2];simp only [upS]
   have e3:(if decide (X*Y % z=0)=true then X*Y / z else X*Y / z+1)=(if 0 < X*Y % z then X*Y / z+1 else X*Y / z):=by
     by_cases h:X*Y % z=0
     . rw [if_pos (by simpa using h),if_neg (by omega)]
     . rw [if_neg (by simpa using h),if_pos (by omega)]
   rw [e3];by_cases hz0:x=0\/y=0
   . have:=c0 hz0
     rw [this];simp
   . by_cases hx:x < 0<;>by_cases hy:y < 0<;>simp [hx,hy,show ¬ (0 < x)↔x < 0 by omega]<;>intros<;>omega
 . have e2:Da (X*Y) z=(2199023255552,0):=if_neg hP
   have b:2199023255552<=(Qg X Y z).1:=by
     unfold Qg;split
     . simp
     . simp only;omega
   right;rw [e2]
   generalize Qg X Y z=q at b
   simp only [upS,vd];refine ⟨?_,?_⟩
   . split
     . left;split<;>simp only<;>omega
     . right;split<;>simp only<;>omega
   . split
     . left;simp
     . right;simp
theorem vf (l:List (Int × Int)):∀ s:Int × Int,(Bu s l).1<=s.1/\s.2<=(Bu s l).2/\∀ x∈l,(Bu s l).1<=x.1/\x.2<=(Bu s l).2:=by
 induction l with
 | nil=>intro s;simp [Bu]
 | cons a l ih=>
   intro s;have h:=ih (F7 s a);simp only [Bu,List.foldl_cons] at h ⊢;simp only [F7] at h ⊢;refine ⟨by omega,by omega,fun x hx=>?_⟩;rcases List.mem_cons.1 hx with rfl | hx
   . omega
   . exact h.2.2 x hx
theorem sn {s:Int × Int} {l:List (Int × Int)} (h:∃ x∈s::l,vd x):JH (Bu s l)=((0,0),11):=by
 obtain ⟨x,hx,hf⟩:=h;have b:=vf l s
 have:(Bu s l).1<=x.1/\x.2<=(Bu s l).2:=by
   rcases List.mem_cons.1 hx with rfl | hx
   . exact ⟨b.1,b.2.1⟩
   . exact b.2.2 x hx
 unfold JH;rw [if_pos];rcases hf with h | h<;>omega
theorem xj (a b c:Int × Int):ru a b c 8=Bu (S3 a b c 0) [S3 a b c 1,S3 a b c 2,S3 a b c 3,S3 a b c 4,S3 a b c 5,S3 a b c 6,S3 a b c 7]:=by
 have e:F7 (S3 a b c 0) (S3 a b c 0)=S3 a b c 0:=by
   unfold F7;simp
 simp [ru,Bu,List.range_succ,e]
theorem wt (a b c:Int × Int):rp a b c=Ja a b c:=by
 unfold rp Ja;by_cases h:(okS a&&okS b&&okS c)=true
 . rw [if_pos h,if_pos h]
   have h':=h;simp only [Bool.and_eq_true] at h';have gc:=CT.1 h'.2;by_cases h1:c.1 < 1
   . rw [if_pos h1,if_pos (by omega)]
   . rw [if_neg h1,if_neg (by omega),xj]
     have key:∀ k,S3 a b c k=HO a b c k\/(vd (S3 a b c k)/\vd (HO a b c k)):=fun k=>ve _ _ _ (by split<;>omega)
     by_cases hall:∀ k < 8,S3 a b c k=HO a b c k
     . simp only [Lx,hall 0 (by omega),hall 1 (by omega),hall 2 (by omega),hall 3 (by omega),hall 4 (by omega),hall 5 (by omega),hall 6 (by omega),hall 7 (by omega)]
     . simp only [Classical.not_forall] at hall
       obtain ⟨k,hk,hne⟩:=hall;have hf:=(key k).resolve_left hne;rw [sn,sn]
       . refine ⟨_,?_,hf.2⟩
         have:k=0\/k=1\/k=2\/k=3\/k=4\/k=5\/k=6\/k=7:=by omega
         rcases this with rfl | rfl | rfl | rfl | rfl | rfl | rfl | rfl<;>simp [Lx]
       . refine ⟨_,?_,hf.1⟩
         have:k=0\/k=1\/k=2\/k=3\/k=4\/k=5\/k=6\/k=7:=by omega
         rcases this with rfl | rfl | rfl | rfl | rfl | rfl | rfl | rfl<;>simp
 . rw [if_neg h,if_neg h]
open Go.Air
theorem Ze {α:Type} {p:α->Bool}:∀ {l:List α} {i:Nat} {x:α},i < (l.takeWhile p).length->l[i]?= some x->p x=true
 | [],i,x,h,_=>by simp at h
 | a::r,i,x,h,hx=>by
   rw [List.takeWhile_cons] at h;by_cases ha:p a=true
   . rw [if_pos ha] at h
     cases i with
     | zero=>simp at hx;subst hx;exact ha
     | succ i=>exact Ze (l:=r) (by simpa using h) (by simpa using hx)
   . rw [if_neg ha] at h;simp at h
theorem Zf {α:Type} {p:α->Bool}:∀ {l:List α} {i:Nat} {x:α},(∀ (j k:Nat) (x y:α),j<=k->l[j]?= some x->l[k]?= some y->p y=true->p x=true)->(l.takeWhile p).length<=i->l[i]?= some x->p x=false
 | [],i,x,_,_,hx=>by simp at hx
 | a::r,i,x,hm,h,hx=>by
   rw [List.takeWhile_cons] at h;by_cases ha:p a=true
   . rw [if_pos ha] at h
     cases i with
     | zero=>simp at h
     | succ i=>exact Zf (l:=r) (fun j k x y hjk h1 h2=>hm (j+1) (k+1) x y (by omega) (by simpa using h1) (by simpa using h2)) (by simpa using h) (by simpa using hx)
   . cases hp:p x with
     | false=>rfl
     | true=>exact absurd (hm 0 i a x (by omega) (by simp) hx hp) ha
theorem RE {w:List Gal} (hw:OkW w) {i j:Nat} {x y:Gal} (h:i<=j) (hx:w[i]?= some x) (hy:w[j]?= some y):x.h<=y.h:=sC hw (j - i) i x y hx (by rw [show i+(j - i)=j by omega];exact hy)
theorem Zg {w:List Gal} {lo:Int} {i:Nat} {x:Gal} (h:i < Qq w lo) (hx:w[i]?= some x):x.h < lo:=by
 have:=Ze h hx;simpa using this
theorem ft {w:List Gal} (hw:OkW w) {lo:Int} {i:Nat} {x:Gal} (h:Qq w lo<=i) (hx:w[i]?= some x):lo<=x.h:=by
 have:=Zf (fun j k x y hjk h1 h2 h3=>by have:=RE hw hjk h1 h2;simp at h3 ⊢;omega) h hx;simp at this;omega
theorem pd {w:List Gal} {hi:Int} {i:Nat} {x:Gal} (h:i < upN w hi) (hx:w[i]?= some x):x.h<=hi:=by
 have:=Ze h hx;simpa using this
theorem Zh {w:List Gal} (hw:OkW w) {hi:Int} {i:Nat} {x:Gal} (h:upN w hi<=i) (hx:w[i]?= some x):hi < x.h:=by
 have:=Zf (fun j k x y hjk h1 h2 h3=>by have:=RE hw hjk h1 h2;simp at h3 ⊢;omega) h hx;simp at this;omega
theorem JG {α:Type} {p:α->Bool} {l:List α}:(l.takeWhile p).length<=l.length:=(List.takeWhile_sublist p).length_le
theorem pf (l:List Gal) (lo hi:Int) (i:Nat) (x:Gal) (hx:l[i]?= some x):Ct prog 106 [vi i, .d (.ref [C2 l]), .d (.ref [di lo,di hi])] (vb (decide (lo<=x.h))) []:=by
 have hil:i < l.length:=(List.getElem?_eq_some_iff.1 hx).1;refine CB func106 c106 fun E hE=>?_
 simp [p106,hx];apply RZ;simp [results106]
theorem pg (l:List Gal) (lo hi:Int) (i:Nat) (x:Gal) (hx:l[i]?= some x):Ct prog 107 [vi i, .d (.ref [C2 l]), .d (.ref [di lo,di hi])] (vb (decide (hi < x.h))) []:=by
 have hil:i < l.length:=(List.getElem?_eq_some_iff.1 hx).1;refine CB func107 c107 fun E hE=>?_
 simp [p107,hx];apply RZ;simp [results107]
theorem jA (a b g:Int) (h: -1000000<=a/\a<=1000000/\ -1000000<=b/\b<=1000000/\0<=g/\g<=1000000):Ct prog 108 [vsp a b, .d (.ref [di g])] (vsp (a - g) (b+g)) []:=by
 have w1:IntKind.wrap .i64 (a - g)=a - g:=AD (by omega) (by omega);have w2:IntKind.wrap .i64 (b+g)=b+g:=AD (by omega) (by omega);refine CB func108 c108 fun E hE=>?_
 simp [p108,w1,w2,AA];apply RZ;simp [results108]
abbrev wdV (x:Gal):V:= .agg [vi x.xl,vi x.xh,vi x.yl,vi x.yh]
theorem pi (x:Gal):Ct prog 110 [wdV x] (vsp (HG x).1 (HG x).2) []:=by
 refine CB func110 c110 fun E hE=>?_
 simp [p110,AA];apply RZ;simp [results110,HG]
theorem pj (x:Gal):Ct prog 111 [wdV x] (vsp (EY x).1 (EY x).2) []:=by
 refine CB func111 c111 fun E hE=>?_
 simp [p111,AA];apply RZ;simp [results111,EY]
theorem jB (z:Int) (a b:Kn):Ct prog 176 [vi z, .d (.ref (knL a)), .d (.ref (knL b))] (vi (min (max z a.1) b.1)) []:=by
 refine CB func176 c176 fun E hE=>?_
 simp [p176];apply RZ;simp [results176]
def K6 (pk:Gal->Int × Int) (l:List Gal) (i:Nat):List Kn:=(l.take i).map fun x=>(x.h,pk x)
theorem Vl {pk:Gal->Int × Int} {l:List Gal} {i:Nat} {x:Gal} (h:l[i]?= some x):K6 pk l (i+1)=K6 pk l i++[(x.h,pk x)]:=by
 unfold K6;rw [List.take_add_one,h];simp
abbrev wd4 (a b c d:Int):V:= .agg [vi a,vi b,vi c,vi d]
structure WdB (xl xh yl yh:Int):Prop where
 x: -1000<=xl/\xl<=xh/\xh<=1000
 y: -1000<=yl/\yl<=yh/\yh<=1000
theorem tM {H:Hp} {id:Nat} {a b c d:Int} (h:H id=some [vi a,vi b,vi c,vi d]):Bor H (.ls id 0 4 1) (.d (Ch [a,b,c,d])):=by
 rw [Bk];exact ⟨rfl,rfl,by simp,_,h,rfl⟩
theorem qs (xl xh yl yh:Int) (h:WdB xl xh yl yh):Ct prog 117 [wd4 xl xh yl yh] (vi 0) []:=by
 have h1:=h.x;have h2:=h.y;have c1:=OM (xl,xh);have c2:=OM (yl,yh);have c3:=Iu (-2000) 2000 [xl,xh,yl,yh] (by simp);rw [CT.2 (by simp only;omega)] at c1 c2;rw [show rgB (-2000) 2000 [xl,xh,yl,yh]=true by simp [rgB];omega] at c3;have z1:IntKind.wrap .i64 1=1:=by decide
 have z2:IntKind.wrap .i64 2=2:=by decide
 refine CB func117 c117 fun E hE=>?_
 simp [p117,AA];refine Al (α:=Nat) (fun k=>⟨AO [(1, .lp 0 0),(2,vi 0),(10,wd4 xl xh yl yh),(11,vi k)],lk [(0,[vi xl,vi xh,vi yl,vi yh])],1⟩) (fun k=>k<=2) (fun k=>2 - k) 0 ?_ ?_ ?_
 . omega
 . exact WK hE (lk [(0,0)])
 . intro k hk
   match k,hk with
   | 2,_=>
     simp [NZ,AA,AM];refine CLb (c3) (by simp [tM]) ?_;simp;apply RZ;simp [results117]
   | n+3,h=>omega
   | 0,_=>
     simp [NZ,AA];refine CLa c1 ?_;simp [z1];refine ⟨1,by omega,by omega,?_⟩;exact WK hE (lk [(0,0)])
   | 1,_=>
     simp [NZ,AA];refine CLa c2 ?_;simp [z2];refine ⟨2,by omega,by omega,?_⟩;exact WK hE (lk [(0,0)])
theorem Tu {a b:Int} (h: -1000<=a/\a<=b/\b<=1000):(0<=sqN a b/\sqN a b<=1000000)/\(0<=sqF a b/\sqF a b<=1000000)/\sqN a b<=sqF a b:=by
 unfold sqN sqF;have m1:0<=max (max 0 a) (-b):=by omega
 have m2:max (max 0 a) (-b)<=max (-a) b:=by omega
 have m3:max (-a) b<=1000:=by omega
 generalize max (max 0 a) (-b)=x at*
 generalize max (-a) b=y at*
 have e1:0<=x*x:=Int.mul_nonneg m1 m1;have e2:x*x<=y*y:=Int.mul_le_mul m2 m2 m1 (by omega);have e3:y*y<=1000*1000:=Int.mul_le_mul m3 m3 (by omega) (by omega);omega
theorem mJ {xl xh yl yh:Int} (h:WdB xl xh yl yh):(Nz xl xh yl yh).2=0:=by
 have q1:=Tu h.x;have q2:=Tu h.y;unfold Nz LB;rw [if_pos (CT.2 (by simp only;omega)),if_neg (by simp only;omega)]
def WN (xl xh yl yh:Int) (k:Nat):Int × Int:=if k=0 then (0,0) else if k=1 then (sqN xl xh,sqF xl xh) else (sqN xl xh+sqN yl yh,sqF xl xh+sqF yl yh)
theorem fn55 (xl xh yl yh:Int) (h:WdB xl xh yl yh):Ct prog 55 [wd4 xl xh yl yh] (.tup [vsp (Nz xl xh yl yh).1.1 (Nz xl xh yl yh).1.2,vi 0]) []:=by
 have h1:=h.x;have h2:=h.y;have c1:=qs xl xh yl yh h;have c2:=qG (sqN xl xh+sqN yl yh,sqF xl xh+sqF yl yh)
 have c2':Ct prog 118 [vsp (sqN xl xh+sqN yl yh) (sqF xl xh+sqF yl yh)] (.tup [vsp (Nz xl xh yl yh).1.1 (Nz xl xh yl yh).1.2,vi 0]) []:=by
   have e:=mJ h;unfold vse at c2;unfold Nz at e ⊢;rw [e] at c2;exact c2
 have q1:=Tu h1;have q2:=Tu h2;have z1:IntKind.wrap .i64 1=1:=by decide
 have z2:IntKind.wrap .i64 2=2:=by decide
 have w1:IntKind.wrap .i64 (-xl)= -xl:=AD (by omega) (by omega);have w2:IntKind.wrap .i64 (-xh)= -xh:=AD (by omega) (by omega);have w3:IntKind.wrap .i64 (-yl)= -yl:=AD (by omega) (by omega);have w4:IntKind.wrap .i64 (-yh)= -yh:=AD (by omega) (by omega);have w5:IntKind.wrap .i64 (max 0 (max xl (-xh))*max 0 (max xl (-xh)))=sqN xl xh:=by rw [show max 0 (max xl (-xh))=max (max 0 xl) (-xh) by omega];exact AD (by unfold sqN at q1;omega) (by unfold sqN at q1;omega)
 have w6:IntKind.wrap .i64 (max (-xl) xh*max (-xl) xh)=sqF xl xh:=AD (by unfold sqF at q1;omega) (by unfold sqF at q1;omega);have w7:IntKind.wrap .i64 (max 0 (max yl (-yh))*max 0 (max yl (-yh)))=sqN yl yh:=by rw [show max 0 (max yl (-yh))=max (max 0 yl) (-yh) by omega];exact AD (by unfold sqN at q2;omega) (by unfold sqN at q2;omega)
 have w8:IntKind.wrap .i64 (max (-yl) yh*max (-yl) yh)=sqF yl yh:=AD (by unfold sqF at q2;omega) (by unfold sqF at q2;omega);have w9:IntKind.wrap .i64 (sqN xl xh)=sqN xl xh:=AD (by omega) (by omega);have w10:IntKind.wrap .i64 (sqF xl xh)=sqF xl xh:=AD (by omega) (by omega);have w11:IntKind.wrap .i64 (sqN xl xh+sqN yl yh)=sqN xl xh+sqN yl yh:=AD (by omega) (by omega);have w12:IntKind.wrap .i64 (sqF xl xh+sqF yl yh)=sqF xl xh+sqF yl yh:=AD (by omega) (by omega);refine CB func55 c55 fun E hE=>?_
 simp [p55];refine CLa c1 ?_;simp [AA];refine Al (α:=Nat) (fun k=>⟨AO [(1, .lp 0 0),(2, .lp 1 0),(5, .lp 2 0),(20,wd4 xl xh yl yh),(21,vi k)],lk [(0,[vi xl,vi xh,vi yl,vi yh]),(1,[vi 0,vi 0]),(2,[vi (WN xl xh yl yh k).1,vi (WN xl xh yl yh k).2])],3⟩) (fun k=>k<=2) (fun k=>2 - k) 0 ?_ ?_ ?_
 . omega
 . refine AI.mk hE (lk [(0,0),(1,1048576),(2,8388608)]) _ _ _ ?_ ?_ ?_ ?_ ?_<;>simp [WN]
 . intro k hk
   match k,hk with
   | 2,_=>
     simp [Ti,WN];refine CLa c2' ?_;simp [AA];apply RZ;simp [results55]
   | n+3,h=>omega
   | 0,_=>
     simp [Ti,AA,WN,w1,w2,w5,w6,w9,w10,z1];refine ⟨1,by omega,by omega,?_⟩;exact WK hE (lk [(0,0),(1,1),(2,2)])
   | 1,_=>
     simp [Ti,AA,WN,w3,w4,w7,w8,w11,w12,z2];refine ⟨2,by omega,by omega,?_⟩;exact WK hE (lk [(0,0),(1,1),(2,2)])
theorem AAH (xl xh yl yh:Int) (h:WdB xl xh yl yh):Ct prog 280 [wd4 xl xh yl yh] (vi 0) []:=by
 have h1:=h.x;have h2:=h.y;have c1:=rt (xl,xh);have c2:=rt (yl,yh);have c3:=se xl xh (-2000) 2000;have c4:=se yl yh (-2000) 2000;rw [CT.2 (by simp only;omega)] at c1 c2;rw [CC.2 (by omega)] at c3 c4;refine CB func280 c280 fun E hE=>?_
 simp [p280]
 repeat ((first | (refine CLt c1 ?_ ?_;focus (simp;done)) | (refine CLt c2 ?_ ?_;focus (simp;done)) | (refine CLt c3 ?_ ?_;focus (simp;done)) | (refine CLt c4 ?_ ?_;focus (simp;done)));simp)
 apply RZ;simp [results280]
theorem yQ (a b:Int) (h: -1000<=a/\a<=b/\b<=1000):Ct prog 281 [vsp a b] (.tup [vi (sqN a b),vi (sqF a b)]) []:=by
 have q1:=Tu h;have w1:IntKind.wrap .i64 (-a)= -a:=AD (by omega) (by omega);have w2:IntKind.wrap .i64 (-b)= -b:=AD (by omega) (by omega);have m2:max b (-a)=max (-a) b:=by omega
 have w5:IntKind.wrap .i64 (max a (max (-b) 0)*max a (max (-b) 0))=sqN a b:=by rw [show max a (max (-b) 0)=max (max 0 a) (-b) by omega];exact AD (by unfold sqN at q1;omega) (by unfold sqN at q1;omega)
 have w6:IntKind.wrap .i64 (max (-a) b*max (-a) b)=sqF a b:=AD (by unfold sqF at q1;omega) (by unfold sqF at q1;omega);refine CB func281 c281 fun E hE=>?_
 simp [p281,w1,w2,m2,w5,w6];apply RZ;simp [results281]
theorem AAI (xl xh yl yh:Int) (h:WdB xl xh yl yh):Ct prog 251 [wd4 xl xh yl yh] (.tup [vsp (Nz xl xh yl yh).1.1 (Nz xl xh yl yh).1.2,vi 0]) []:=by
 have h1:=h.x;have h2:=h.y;have c1:=AAH xl xh yl yh h;have c2:=yQ xl xh h1;have c3:=yQ yl yh h2;have c4:=zF (sqN xl xh+sqN yl yh,sqF xl xh+sqF yl yh)
 have c4':Ct prog 282 [vsp (sqN xl xh+sqN yl yh) (sqF xl xh+sqF yl yh)] (.tup [vsp (Nz xl xh yl yh).1.1 (Nz xl xh yl yh).1.2,vi 0]) []:=by
   have e:=mJ h;unfold vse at c4;unfold Nz at e ⊢;rw [e] at c4;exact c4
 have q1:=Tu h1;have q2:=Tu h2;have w11:IntKind.wrap .i64 (sqN xl xh+sqN yl yh)=sqN xl xh+sqN yl yh:=AD (by omega) (by omega);have w12:IntKind.wrap .i64 (sqF xl xh+sqF yl yh)=sqF xl xh+sqF yl yh:=AD (by omega) (by omega);refine CB func251 c251 fun E hE=>?_
 simp [p251];refine CLa c1 ?_;simp;refine CLa c2 ?_;simp;refine CLa c3 ?_;simp [AA,w11,w12];refine CLa c4' ?_;simp [AA];apply RZ;simp [results251]
theorem jU (l:List Gal) (h:Int × Int) (g:FuncId) (pk:Gal->Int × Int) (hg:∀ x∈l,Ct prog g [wdV x] (vsp (pk x).1 (pk x).2) []) (hw:OkW l) (hp:PkB l pk):Ct prog 109 [.d (C2 l),vsp h.1 h.2, .d (.fn g [])] (vsp (Fg pk l h).1 (Fg pk l h).2) []:=by
 have hl:=hw.len;obtain ⟨fa,hfa⟩:∃ x,l[0]?= some x:=⟨_,List.getElem?_eq_getElem (by omega)⟩
 obtain ⟨la,hla⟩:∃ x,l[l.length - 1]?= some x:=⟨_,List.getElem?_eq_getElem (by omega)⟩
 have kfa:(Dd pk l)[0]?= some (fa.h,pk fa):=by rw [EG,hfa];rfl
 have kla:(Dd pk l)[l.length - 1]?= some (la.h,pk la):=by rw [EG,hla];rfl
 have kln:=IH (pk:=pk) (w:=l);refine CB func109 c109 fun E hE=>?_
 simp [p109];refine Al (α:=Nat) (fun i=>⟨AO [(0, .d (C2 l)),(2, .d (.fn g [])),(4, .lp 0 0),(6, .lp 1 0),(7,hdF 3 (K6 pk l i) 2),(15, .d (C2 l)),(16,vi l.length),(17,vi i)],lk ([(0,[vi h.1,vi h.2]),(1,[vi 0,vi 0])]++ouF knL (K6 pk l i) 2),3⟩) (fun i=>i<=l.length) (fun i=>l.length - i) 0 ?_ ?_ ?_
 . omega
 . rw [show K6 pk l 0=[] from rfl,Aq,Au]
   exact WK hE (lk [(0,0),(1,1048576)])
 . intro i hi
   by_cases hil:i < l.length
   . obtain ⟨x,hx⟩:=gE hil
     have hz:=@wz i (by omega);have hI:(i:Int) < l.length:=by omega
     have hnx:=Vl (pk:=pk) hx;have hO:(K6 pk l i).length<=1000000:=by unfold K6;simp;omega
     have cg:=hg x (List.mem_of_getElem? hx);obtain ⟨O,hOe⟩:∃ O,K6 pk l i=O:=⟨_,rfl⟩
     rw [hOe] at hnx hO ⊢;by_cases hne:O=[]
     . subst hne
       rw [Aq,Au];simp [NY,hI,hx,AA,inC,Nat.testBit];refine CLa cg ?_;simp [AA,AM,hz];refine ⟨i+1,by omega,by omega,?_⟩;rw [hnx,Ak (by simp),AZ (by simp)];refine AI.mk hE (lk [(0,0),(1,1),(2,14680067)]) _ _ _ ?_ ?_ ?_ ?_ ?_<;>simp [AH]
     . have hsl:=Aw hfk O
       have hwh:=E9 hfk O;have n1:(O.length+1)*24<=140737488355328:=by omega
       have n2:O.length+1<=9223372036854775807:=by omega
       rw [Ak hne,AZ hne];simp [NY,hI,hx,AA,inC,Nat.testBit];refine CLa cg ?_;simp [AA,AM,hz,hsl,hwh,n1,n2];refine ⟨i+1,by omega,by omega,?_⟩;rw [hnx,Ak (by simp),AZ (by simp),IV];exact WK hE (lk [(0,0),(1,1),(2,14680067)])
   . have e:i=l.length:=by omega
     have hn:¬ (i:Int) < l.length:=by omega
     have ek:K6 pk l i=Dd pk l:=by unfold K6 Dd;rw [e,List.take_length]
     have ene:Dd pk l≠[]:=by intro h0;rw [h0] at kln;simp at kln;omega
     obtain ⟨K,hK⟩:∃ K,Dd pk l=K:=⟨_,rfl⟩
     rw [hK] at kfa kla kln ek ene;have hsl:=Aw hfk K;have w1:IntKind.wrap .i64 ((l.length:Int) - 1)=((l.length - 1:Nat):Int):=by rw [AD (by omega) (by omega)];omega
     have hI0:0 < l.length:=by omega
     have hI2:l.length - 1 < l.length:=by omega
     have hI1:((l.length - 1:Nat):Int) < l.length:=by omega
     have s0:(l.length - 1)*3+3<=l.length*3:=by omega
     have s1:3<=l.length*3:=by omega
     have t0:List.take 3 (AH knL K)=(knL (fa.h,pk fa)).map .d:=by
       have:=Bg hfk (j:=0) (k:=3) kfa (by omega);simpa using this
     have t1:List.take 3 (List.drop ((l.length - 1)*3) (AH knL K))=(knL (la.h,pk la)).map .d:=by
       have:=Bg hfk (j:=0) (k:=3) kla (by omega);simpa using this
     rw [ek,Ak ene,AZ ene,kln];simp [NY,hn];refine AL [(11,10485763),(12,11534339)] (by kernel_rfl) ?_;simp [AA,inC,Nat.testBit,kln,hsl,w1,hI0,hI1,s0,s1,t0,t1];by_cases h2:2<=l.length
     . have hlt:¬ fa.h=la.h:=by
         obtain ⟨y,hy⟩:∃ y,l[1]?= some y:=⟨_,List.getElem?_eq_getElem (by omega)⟩
         have:=hw.step 0 fa y hfa hy;have:=RE hw (by omega:1<=l.length - 1) hy hla;omega
       have c1:=jB h.1 (fa.h,pk fa) (la.h,pk la);have c2:=jB h.2 (fa.h,pk fa) (la.h,pk la);have e1:∀ z,min (max z fa.h) la.h=EA l z:=fun z=>by unfold EA;rw [hfa,hla]
       simp only [e1] at c1 c2;have c3:=jR K (EA l h.1,EA l h.2) (by omega)
       have e3:(Jy K (EA l h.1,EA l h.2)).1=Fg pk l h:=by
         rw [<-hK]
         match l,h2 with
         | a::b::r,_=>rfl
       unfold vse at c3;rw [e3] at c3
       have hb:∀ H:Hp,H 2=some (AH knL K)->Bor H (.ls 2 0 l.length 3) (.d (DA K)):=fun H hH=>by
         have:=B0 (H:=H) (id:=2) hfk (l:=K) hH;rw [kln] at this;exact this
       simp [hlt];refine AL [(15,34603011)] (by kernel_rfl) ?_;simp [inC,Nat.testBit];refine CLa c1 ?_;simp [inC,Nat.testBit];refine CLa c2 ?_;simp [AA,inC,Nat.testBit];refine CLb (c3) (by simp [hb,Hcl,inC,Nat.testBit]) ?_;simp [AA,inC,Nat.testBit];apply RZ;simp [results109]
     . have e1:l.length - 1=0:=by omega
       rw [e1,hfa] at hla;cases hla
       have e2:Fg pk l h=pk fa:=by
         obtain ⟨x,rfl⟩:∃ x,l=[x]:=List.length_eq_one_iff.1 (by omega);cases hfa;rfl
       simp [AA];apply RZ;simp [results109,e2]
def Nn (w:List Gal) (h:Int × Int):(Int × Int) × Int × Int:=if Lg w h=0 then (Jr w h,Js w h) else ((0,0),0,0)
abbrev AAO (r:(Int × Int) × Int × Int):V:= .agg [vi r.1.1,vi r.1.2,vi r.2.1,vi r.2.2]
theorem WS {l:List Gal} {i:Nat} {x:Gal} (h:l[i]?= some x):rS (l.take (i+1))=max (rS (l.take i)) x.g:=by
 unfold rS;rw [List.take_add_one,h];simp
theorem AAP (l:List Gal) (h:Int × Int) (hl:l.length<=1000000):Ct prog 50 [.d (C2 l),vsp h.1 h.2] (.tup [AAO (Nn l h),vi (Lg l h)]) []:=by
 have c1:=oz l hl;have c2:=OM h;cases hw:Dr l
 . rw [hw] at c1
   have e1:Lg l h=22:=by unfold Lg;rw [hw];rfl
   have e2:Nn l h=((0,0),0,0):=by unfold Nn;rw [e1];rfl
   rw [e1,e2];refine CB func50 c50 fun E hE=>?_
   simp [p50];refine CLa c1 ?_;simp [AA];apply RZ;simp [results50]
 rw [hw] at c1;cases hs:okS h
 . rw [hs] at c2
   have e1:Lg l h=10:=by unfold Lg;rw [hw,hs];rfl
   have e2:Nn l h=((0,0),0,0):=by unfold Nn;rw [e1];rfl
   rw [e1,e2];refine CB func50 c50 fun E hE=>?_
   simp [p50];refine CLa c1 ?_;simp;refine CLa c2 ?_;simp [AA];apply RZ;simp [results50]
 rw [hs] at c2;have hW:=L0 hw;have hlen:=hW.len;have hh:=(CT.1 hs).1;have e1:Lg l h=0:=by unfold Lg;rw [hw,hs];rfl
 have e2:Nn l h=(Jr l h,Js l h):=by unfold Nn;rw [e1];rfl
 rw [e1,e2];have g1:=Yb hW h;have sx:=Mz hW (pk:=HG) (fun x hx=>hW.x x hx) hh;have sy:=Mz hW (pk:=EY) (fun x hx=>hW.y x hx) hh
 have c3:Ct prog 77 [vi l.length, .d (.fn 106 [.ref [C2 l], .ref [di h.1,di h.2]])] (vi (Qq l h.1)) []:=by
   refine kw l.length (Qq l h.1) _ _ (fun i=>(l[i]?.map fun k=>decide (h.1<=k.h)).getD false) (by omega) (fun i hi=>?_) JG (fun i hi=>?_) (fun i hi hi2=>?_)
   . obtain ⟨k,hk⟩:∃ k,l[i]?= some k:=⟨l[i],by simp [hi]⟩
     rw [hk];exact pf l h.1 h.2 i k hk
   . have hil:i < l.length:=Nat.lt_of_lt_of_le hi JG
     obtain ⟨k,hk⟩:∃ k,l[i]?= some k:=⟨l[i],by simp [hil]⟩
     have:=Zg hi hk;simp [hk];omega
   . obtain ⟨k,hk⟩:∃ k,l[i]?= some k:=⟨l[i],by simp [hi2]⟩
     have:=ft hW hi hk;simp [hk];omega
 have c4:Ct prog 77 [vi l.length, .d (.fn 107 [.ref [C2 l], .ref [di h.1,di h.2]])] (vi (upN l h.2)) []:=by
   refine kw l.length (upN l h.2) _ _ (fun i=>(l[i]?.map fun k=>decide (h.2 < k.h)).getD false) (by omega) (fun i hi=>?_) JG (fun i hi=>?_) (fun i hi hi2=>?_)
   . obtain ⟨k,hk⟩:∃ k,l[i]?= some k:=⟨l[i],by simp [hi]⟩
     rw [hk];exact pg l h.1 h.2 i k hk
   . have hil:i < l.length:=Nat.lt_of_lt_of_le hi JG
     obtain ⟨k,hk⟩:∃ k,l[i]?= some k:=⟨l[i],by simp [hil]⟩
     have:=pd hi hk;simp [hk];omega
   . obtain ⟨k,hk⟩:∃ k,l[i]?= some k:=⟨l[i],by simp [hi2]⟩
     have:=Zh hW hi hk;simp [hk];omega
 have b1:Qq l h.1<=l.length:=JG;have b2:upN l h.2<=l.length:=JG;obtain ⟨F,hF⟩:∃ F,Qq l h.1=F:=⟨_,rfl⟩
 obtain ⟨U,hU⟩:∃ U,upN l h.2=U:=⟨_,rfl⟩
 have hFU:F - 1<=min (U+1) l.length:=by
   by_cases hc:F - 1<=U+1
   . omega
   . exfalso
     obtain ⟨k,hk⟩:∃ k,l[U]?= some k:=⟨l[U],by simp [show U < l.length by omega]⟩
     have q1:=Zg (w:=l) (lo:=h.1) (i:=U) (by omega) hk;have q2:=Zh hW (hi:=h.2) (i:=U) (by omega) hk;omega
 have hG:rO l h=rS ((l.take (min (U+1) l.length)).drop (F - 1)):=by
   unfold rO;rw [hF,hU];congr 2;by_cases hc:U+1<=l.length
   . rw [Nat.min_eq_left hc]
   . rw [Nat.min_eq_right (by omega),List.take_of_length_le (by omega),List.take_length]
 rw [hF] at c3;rw [hU] at c4;have w1:IntKind.wrap .i64 ((F:Int) - 1)=(F:Int) - 1:=AD (by omega) (by omega);have w2:IntKind.wrap .i64 ((U:Int)+1)=(U:Int)+1:=AD (by omega) (by omega);have m1:max ((F:Int) - 1) 0=((F - 1:Nat):Int):=by omega
 have m2:min ((U:Int)+1) (l.length:Int)=((min (U+1) l.length:Nat):Int):=by omega
 obtain ⟨B,hB⟩:∃ B,min (U+1) l.length=B:=⟨_,rfl⟩
 obtain ⟨A,hA⟩:∃ A,F - 1=A:=⟨_,rfl⟩
 rw [hB] at m2 hFU hG;rw [hA] at m1 hFU hG;have hBl:B<=l.length:=by omega
 obtain ⟨W,hWd⟩:∃ W,(l.take B).drop A=W:=⟨_,rfl⟩
 have hWl:B - A=W.length:=by rw [<-hWd];simp;omega
 have hWm:List.drop A (List.take B (List.map galL l))=W.map galL:=by rw [<-hWd];simp [List.map_drop,List.map_take]
 have hWle:W.length<=16:=by omega
 have hWg:∀ x∈W,0<=x.g/\x.g<=500:=fun x hx=>hW.g x (by rw [<-hWd] at hx;exact List.mem_of_mem_take (List.mem_of_mem_drop hx))
 rw [hWd] at hG;have d1:=jU l h 110 HG (fun x _=>pi x) hW (fun x hx=>hW.x x hx);have d2:=jU l h 111 EY (fun x _=>pj x) hW (fun x hx=>hW.y x hx);have d3:=jA (Fg HG l h).1 (Fg HG l h).2 (rO l h) (by omega);have d4:=jA (Fg EY l h).1 (Fg EY l h).2 (rO l h) (by omega);refine CB func50 c50 fun E hE=>?_
 simp [p50];refine CLa c1 ?_;simp;refine CLa c2 ?_;simp;refine CLa c3 ?_;simp;refine CLa c4 ?_;simp [AA,w1,w2,m1,m2,hFU,hBl,hWm];refine Al (α:=Nat) (fun i=>⟨AO [(2, .lp 0 0),(3, .lp 1 0),(4, .lp 2 0),(10, .lp 3 0),(43, .d (C2 W)),(44,vi W.length),(45,vi i)],lk [(0,[.d (C2 l)]),(1,[vi h.1,vi h.2]),(2,[vi 0,vi 0,vi 0,vi 0]),(3,[vi (rS (W.take i))])],4⟩) (fun i=>i<=W.length) (fun i=>W.length - i) 0 ?_ ?_ ?_
 . omega
 . refine AI.mk hE (lk [(0,0),(1,1048576),(2,2097152),(3,25165824)]) _ _ _ ?_ ?_ ?_ ?_ ?_<;>simp [rS]
 . intro i hi
   by_cases hil:i < W.length
   . obtain ⟨x,hx⟩:=gE hil
     have hz:=@wz i (by omega);have hI:(i:Int) < W.length:=by omega
     have hnx:=WS hx;simp [bC,hI,hx,AA,hz];refine ⟨i+1,by omega,by omega,?_⟩;rw [hnx];exact WK hE (lk [(0,0),(1,1),(2,2),(3,3)])
   . have e:i=W.length:=by omega
     have hn:¬ (i:Int) < W.length:=by omega
     have eT:rS (W.take i)=rO l h:=by rw [hG,e,List.take_length]
     rw [eT];simp [bC,hn,inC,Nat.testBit];refine CLa d1 ?_;simp [inC,Nat.testBit];refine CLa d3 ?_;simp [inC,Nat.testBit];refine CLa d2 ?_;simp;refine CLa d4 ?_;simp [AA];apply RZ;simp [results50,Jr,Js]
theorem qg (l:List Cel) (g:FuncId) (ds:List D) (q:Cel->Bool) (hl:l.length<=1000000000) (hg:∀ p∈l,Ct prog g (Ky p::ds.map .d) (vb (q p)) []):Ct prog 241 [.d (AX l), .d (.fn g ds)] (vi (ixF q l)) []:=by
 refine CB func241 c241 fun E hE=>?_
 simp [p241];refine Al (α:=Nat) (fun i=>⟨AO [(0, .d (AX l)),(1, .d (.fn g ds)),(7,vi l.length),(8,vi i)],lk [],0⟩) (fun i=>i<=l.length/\∀ j,j < i->(l[j]?).all (fun p=>!q p)=true) (fun i=>l.length - i) 0 ?_ ?_ ?_
 . exact ⟨by omega,fun j hj=>by omega⟩
 . exact WK hE (lk [])
 . rintro i ⟨hi,hg3⟩
   have hg2:∀ (j:Nat) (p:Cel),j < i->l[j]?= some p->q p=false:=fun j p hj hp=>by
     have:=hg3 j hj;rw [hp] at this;simpa using this
   have hz:=@wz i (by omega);simp [bT];refine Bh (fun h=>?_) (fun h=>?_)
   . simp at h
     obtain ⟨p,hp⟩:=gE h;simp [hp];refine CLa (hg p (List.mem_of_getElem? hp)) ?_;cases hq:q p
     . simp [hz]
       refine ⟨i+1,⟨by omega,fun j hj=>?_⟩,by omega,?_⟩
       . by_cases e:j=i
         . subst e;rw [hp];simp [hq]
         . exact hg3 j (by omega)
       . exact WK hE (lk [])
     . have e:ixF q l=i:=IY hp hq fun j y hj hy=>hg2 j y hj hy
       simp;apply RZ;simp [results241,e]
   . simp at h
     have e:ixF q l= -1:=IX fun j x hx=>hg2 j x (by have:=(List.getElem?_eq_some_iff.1 hx).1;omega) hx
     simp;apply RZ;simp [results241,e]
theorem LH (a b c d:Int) (h:(-100000000000000<=a/\a<=100000000000000)/\(-100000000000000<=b/\b<=100000000000000)/\(-100000000000000<=c/\c<=100000000000000)/\ -100000000000000<=d/\d<=100000000000000):Ct prog 235 [vsp a b,vsp c d] (vsp (a+c) (b+d)) []:=by
 have w1:IntKind.wrap .i64 (a+c)=a+c:=AD (by omega) (by omega);have w2:IntKind.wrap .i64 (b+d)=b+d:=AD (by omega) (by omega);refine CB func235 c235 fun E hE=>?_
 simp [p235,AA,w1,w2];apply RZ;simp [results235]
theorem jM (a b:Int) (h:(-100000000000000<=a/\a<=100000000000000)/\ -100000000000000<=b/\b<=100000000000000):Ct prog 237 [vsp a b] (vsp (6*a) (6*b)) []:=by
 have w1:IntKind.wrap .i64 (6*a)=6*a:=AD (by omega) (by omega);have w2:IntKind.wrap .i64 (6*b)=6*b:=AD (by omega) (by omega);refine CB func237 c237 fun E hE=>?_
 simp [p237,AA,w1,w2];apply RZ;simp [results237]
theorem SJ (a b c d:Int):Ct prog 69 [.d (Ch [a,b,c,d])] (vi (if a=0 then (if b=0 then (if c=0 then d else c) else b) else a)) []:=by
 have ww1:IntKind.wrap .i64 1=1:=by decide
 have ww2:IntKind.wrap .i64 2=2:=by decide
 have ww3:IntKind.wrap .i64 3=3:=by decide
 have ww4:IntKind.wrap .i64 4=4:=by decide
 refine CB func69 c69 fun E hE=>?_
 simp [p69];refine Al (α:=Nat) (fun k=>⟨AO [(5, .d (Ch [a,b,c,d])),(6,vi 4),(7,vi k)],lk [],0⟩) (fun k=>k<=4/\(0 < k->a=0)/\(1 < k->b=0)/\(2 < k->c=0)/\(3 < k->d=0)) (fun k=>4 - k) 0 ?_ ?_ ?_
 . omega
 . exact WK hE (lk [])
 . rintro i ⟨hi,h1,h2,h3,h4⟩
   match i,hi,h1,h2,h3,h4 with
   | 0,_,_,_,_,_=>
     by_cases h:a=0
     . simp [D1,h,ww1]
       refine ⟨1,⟨by omega,by omega⟩,by omega,?_⟩;exact WK hE (lk [])
     . simp [D1,h]
       apply RZ;simp [results69]
   | 1,_,h1,_,_,_=>
     have h1:=h1 (by omega);by_cases h:b=0
     . simp [D1,h,ww2]
       refine ⟨2,?_,by omega,?_⟩
       . simp [h1]
       exact WK hE (lk [])
     . simp [D1,h]
       apply RZ;simp [results69,h1]
   | 2,_,h1,h2,_,_=>
     have h1:=h1 (by omega);have h2:=h2 (by omega);by_cases h:c=0
     . simp [D1,h,ww3]
       refine ⟨3,?_,by omega,?_⟩
       . simp [h1,h2]
       exact WK hE (lk [])
     . simp [D1,h]
       apply RZ;simp [results69,h1,h2]
   | 3,_,h1,h2,h3,_=>
     have h1:=h1 (by omega);have h2:=h2 (by omega);have h3:=h3 (by omega);by_cases h:d=0
     . simp [D1,h,ww4]
       refine ⟨4,?_,by omega,?_⟩
       . simp [h1,h2,h3]
       exact WK hE (lk [])
     . simp [D1,h]
       apply RZ;simp [results69,h1,h2,h3]
   | 4,_,h1,h2,h3,h4=>
     have h1:=h1 (by omega);have h2:=h2 (by omega);have h3:=h3 (by omega);have h4:=h4 (by omega);simp [D1];apply RZ;simp [results69,h1,h2,h3,h4]
   | i+5,hi,_,_,_,_=>omega
abbrev LI (k:Sky) (r:Rig):List D:=[BF k.s,C2 k.w,An r.reg,di r.gl,di r.gh,di r.tank,di r.rsv,di r.lo,di r.hi]
abbrev D2 (k:Sky) (r:Rig):V:= .d (.ref (LI k r))
theorem qh (hS:SortOk) (k:Sky) (r:Rig) (s h:Int × Int) (hr:r.reg.length<=1000000):Ct prog 245 [D2 k r,vsp s.1 s.2,vsp h.1 h.2] (vb (Il r.reg s h)) []:=by
 have c1:=fE hS r.reg (s.1,h.1) (by omega);have c2:=fE hS r.reg (s.1,h.2) (by omega);have c3:=fE hS r.reg (s.2,h.1) (by omega);have c4:=fE hS r.reg (s.2,h.2) (by omega);have z1:IntKind.wrap .i64 1=1:=by decide
 have z2:IntKind.wrap .i64 2=2:=by decide
 unfold Il
 generalize inV r.reg (s.1,h.1)=b1 at*
 generalize inV r.reg (s.1,h.2)=b2 at*
 generalize inV r.reg (s.2,h.1)=b3 at*
 generalize inV r.reg (s.2,h.2)=b4 at*
 generalize Yj r.reg=e at*
 simp only at c1 c2 c3 c4;refine CB func245 c245 fun E hE=>?_
 simp [p245,AA];refine Al (α:=Nat) (fun i=>⟨AO [(0,D2 k r),(4, .lp 0 0),(5, .lp 1 0),(17, .agg [vi s.1,vi s.2]),(18,vi i)],lk [(0,[vi s.1,vi s.2]),(1,[vi h.1,vi h.2])],2⟩) (fun i=>i<=2/\(0 < i->b1=true/\b2=true)/\(1 < i->b3=true/\b4=true)) (fun i=>2 - i) 0 ?_ ?_ ?_
 . omega
 . exact WK hE (lk [(0,0),(1,1048576)])
 . rintro i ⟨hi,h1,h2⟩
   match i,hi,h1,h2 with
   | 0,_,_,_=>
     simp [tF,AA];refine Al (α:=Nat) (fun j=>⟨AO [(0,D2 k r),(4, .lp 0 0),(5, .lp 1 0),(8,vi s.1),(17, .agg [vi s.1,vi s.2]),(18,vi 0),(25, .agg [vi h.1,vi h.2]),(26,vi j)],lk [(0,[vi s.1,vi s.2]),(1,[vi h.1,vi h.2])],2⟩) (fun j=>j<=2/\(0 < j->b1=true)/\(1 < j->b2=true)) (fun j=>2 - j) 0 ?_ ?_ ?_
     . omega
     . exact WK hE (lk [(0,0),(1,1)])
     . rintro j ⟨hj,g1,g2⟩
       match j,hj,g1,g2 with
       | 0,_,_,_=>
         simp [Hs,AA];refine CLa c1 ?_;cases b1
         . simp
           apply RZ;simp [results245]
         . simp [z1]
           refine ⟨1,by simp,by omega,?_⟩;exact WK hE (lk [(0,0),(1,1)])
       | 1,_,g1,_=>
         have g1:=g1 (by omega);subst g1;simp [Hs,AA];refine CLa c2 ?_;cases b2
         . simp
           apply RZ;simp [results245]
         . simp [z2]
           refine ⟨2,by simp,by omega,?_⟩;exact WK hE (lk [(0,0),(1,1)])
       | 2,_,g1,g2=>
         have g1:=g1 (by omega);have g2:=g2 (by omega);simp [Hs,z1];refine ⟨1,by simp [g1,g2],by omega,?_⟩;exact WK hE (lk [(0,0),(1,1)])
       | j+3,hj,_,_=>omega
   | 1,_,h1,_=>
     obtain ⟨h3,h4⟩:=h1 (by omega);subst h3 h4;simp [tF,AA];refine Al (α:=Nat) (fun j=>⟨AO [(0,D2 k r),(4, .lp 0 0),(5, .lp 1 0),(8,vi s.2),(17, .agg [vi s.1,vi s.2]),(18,vi 1),(25, .agg [vi h.1,vi h.2]),(26,vi j)],lk [(0,[vi s.1,vi s.2]),(1,[vi h.1,vi h.2])],2⟩) (fun j=>j<=2/\(0 < j->b3=true)/\(1 < j->b4=true)) (fun j=>2 - j) 0 ?_ ?_ ?_
     . omega
     . exact WK hE (lk [(0,0),(1,1)])
     . rintro j ⟨hj,g1,g2⟩
       match j,hj,g1,g2 with
       | 0,_,_,_=>
         simp [Hs,AA];refine CLa c3 ?_;cases b3
         . simp
           apply RZ;simp [results245]
         . simp [z1]
           refine ⟨1,by simp,by omega,?_⟩;exact WK hE (lk [(0,0),(1,1)])
       | 1,_,g1,_=>
         have g1:=g1 (by omega);subst g1;simp [Hs,AA];refine CLa c4 ?_;cases b4
         . simp
           apply RZ;simp [results245]
         . simp [z2]
           refine ⟨2,by simp,by omega,?_⟩;exact WK hE (lk [(0,0),(1,1)])
       | 2,_,g1,g2=>
         have g1:=g1 (by omega);have g2:=g2 (by omega);simp [Hs,z2];refine ⟨2,by simp [g1,g2],by omega,?_⟩;exact WK hE (lk [(0,0),(1,1)])
       | j+3,hj,_,_=>omega
   | 2,_,h1,h2=>
     obtain ⟨h3,h4⟩:=h1 (by omega);obtain ⟨h5,h6⟩:=h2 (by omega);simp [tF];apply RZ;simp [results245,h3,h4,h5,h6]
   | i+3,hi,_,_=>omega
abbrev e0 (k:Sky):Int:=if BV k then 0 else 50
abbrev e1 (r:Rig):Int:=if CF r then 0 else 51
def QG (k:Sky) (r:Rig) (a b:Int):Int:=if e0 k=0 then (if e1 r=0 then (if a=0 then b else a) else e1 r) else e0 k
theorem XK (hS:SortOk) (k:Sky) (r:Rig) (a b:Int) (h1:k.s.length<=1000000) (h2:k.w.length<=1000000) (h3:r.reg.length<=1000000) (he:¬ QG k r a b=0):Ct prog 98 [Eu k,Fj r, .d (Ch [a,b])] (.tup [.d (.lit (.pointer none)),vi (QG k r a b)]) []:=by
 have c1:=yy k h1 h2;have c2:=mH hS r (by omega);have c3:=SJ (e0 k) (e1 r) a b;obtain ⟨e,hee⟩:∃ e,QG k r a b=e:=⟨_,rfl⟩
 have c3':Ct prog 69 [.d (Ch [e0 k,e1 r,a,b])] (vi e) []:=by rw [<-hee];exact c3
 rw [hee] at he ⊢;have c1':Ct prog 32 [Eu k] (vi (e0 k)) []:=c1;have c2':Ct prog 34 [Fj r] (vi (e1 r)) []:=c2
 generalize e0 k=x0 at*
 generalize e1 r=x1 at*
 refine CB func98 c98 fun E hE=>?_
 simp [p98,inC,Nat.testBit];refine CLa c1' ?_;simp [inC,Nat.testBit];refine CLa c2' ?_;simp [AA,AM];refine CLb (c3') (by simp [tM]) ?_;simp [he];apply RZ;simp [results98]
theorem XL {k:Sky} {r:Rig} (hr:P5 r) {x y:Lev} (hx:k.s[0]?= some x) (hy:k.s[k.s.length - 1]?= some y):rgB x.h y.h [r.lo,r.hi]=Ey k r:=by
 have h:=hr.h;unfold Ey aj rgB;rw [hx,hy];simp;rw [Bool.eq_iff_iff];simp;omega
theorem Sr {k:Sky} (h:BV k=true):OkS k.s:=by
 unfold BV at h;simp only [Bool.and_eq_true,decide_eq_true_eq] at h;refine B8.1 ?_;have:=h.1;unfold D3 at this;by_cases h:GC k.s=true
 . exact h
 . rw [if_neg h] at this;simp at this
theorem XM (hS:SortOk) (k:Sky) (r:Rig) (h1:k.s.length<=1000000) (h2:k.w.length<=1000000) (h3:r.reg.length<=1000000) (hk:BV k=true) (hr:CF r=true) (hg:Ey k r=false):Ct prog 98 [Eu k,Fj r, .d (Ch [0,0])] (.tup [.d (.lit (.pointer none)),vi 2]) []:=by
 have c1:=yy k h1 h2;have c2:=mH hS r (by omega);have c3:=SJ 0 0 0 0;rw [hk] at c1;rw [hr] at c2;have hl:=(Sr hk).len;obtain ⟨x,hx⟩:∃ x,k.s[0]?= some x:=⟨_,List.getElem?_eq_getElem (by omega)⟩
 obtain ⟨y,hy⟩:∃ y,k.s[k.s.length - 1]?= some y:=⟨_,List.getElem?_eq_getElem (by omega)⟩
 have c4:=Pw x.h y.h [r.lo,r.hi] (by simp);rw [XL (Hy hr) hx hy,hg] at c4;have w1:IntKind.wrap .i64 ((k.s.length:Int) - 1)=((k.s.length - 1:Nat):Int):=by rw [AD (by omega) (by omega)];omega
 have hI0:(0:Int) < k.s.length:=by omega
 obtain ⟨j,hj⟩:∃ j,k.s.length - 1=j:=⟨_,rfl⟩
 rw [hj] at w1 hy;have hI1:(j:Int) < k.s.length:=by omega
 refine CB func98 c98 fun E hE=>?_
 simp [p98,inC,Nat.testBit];refine CLa c1 ?_;simp [inC,Nat.testBit];refine CLa c2 ?_;simp [AA,AM];refine CLb (c3) (by simp [tM]) ?_;simp [AA,AM,inC,Nat.testBit,hx,hy,w1];refine CLb (c4) (by simp [Ap]) ?_;simp;apply RZ;simp [results98]
theorem yG (a b c d:Int) (h:(-2000000000000<=a/\a<=2000000000000)/\(-2000000000000<=b/\b<=2000000000000)/\(-2000000000000<=c/\c<=2000000000000)/\ -2000000000000<=d/\d<=2000000000000):Ct prog 233 [vsp a b,vsp c d] (vsp (a+c) (b+d)) []:=by
 have w1:IntKind.wrap .i64 (a+c)=a+c:=AD (by omega) (by omega);have w2:IntKind.wrap .i64 (b+d)=b+d:=AD (by omega) (by omega);refine CB func233 c233 fun E hE=>?_
 simp [p233,AA,w1,w2];apply RZ;simp [results233]
theorem sI (k:Int):Ct prog 231 [vu8 k] (vb (decide (k=3)||(decide (k=4)||decide (k=5)))) []:=by
 by_cases h3:k=3
 . refine CB func231 yq fun E hE=>?_
   simp [p231,h3];apply RZ;simp [results231]
 . by_cases h4:k=4
   . refine CB func231 yq fun E hE=>?_
     simp [p231,h4];apply RZ;simp [results231]
   . refine CB func231 yq fun E hE=>?_
     simp [p231,h3,h4];apply RZ;simp [results231]
theorem zR (c:Cel) (n:Int) (hb:B5 c) (hn:0<=n/\n<=c.he+c.ai) (h0:1<=c.he+c.ai):Ct prog 275 [Ky c,vi n] (vsp (BQ c n) (n - BQ c n)) []:=by
 have q1:=hb.he;have q2:=hb.ai;have hbd:=KE q1.1 q2.1 hn.1 hn.2;have hz:¬ c.he+c.ai=0:=by omega
 have m1:0<=n*c.he:=Int.mul_nonneg (by omega) (by omega);have m2:n*c.he<=20000000*10000000:=Int.mul_le_mul (by omega) (by omega) (by omega) (by omega);have hd:(n*c.he).tdiv (c.he+c.ai)=BQ c n:=Int.tdiv_eq_ediv_of_nonneg m1;have w2:IntKind.wrap .i64 (n*c.he)=n*c.he:=AD (by omega) (by omega);have w3:IntKind.wrap .i64 (BQ c n)=BQ c n:=AD (by omega) (by omega);have w5:IntKind.wrap .i64 (n - BQ c n)=n - BQ c n:=AD (by omega) (by omega);have c1:=rV c hb;unfold am at c1;refine CB func275 c275 fun E hE=>?_
 simp [p275,inC,Nat.testBit];refine CLa c1 ?_;simp [AA,hz,w2,hd,w3,w5];apply RZ;simp [results275]
theorem rR (p:Plt) (cs:List Cel) (i:Nat) (c:Cel) (n:Int) (_:cs.length<=1000000) (hc:cs[i]?= some c) (hb:B5 c) (hn:1<=n/\n<=c.he+c.ai):Cm prog 232 [Cy p (.ls 0 0 cs.length 7),vi i,vi n] (lk [(0,AH AP cs)]) [0] (.ret (vsp (BQ c n) (n - BQ c n))) (lk [(0,AH AP (cs.set i (I0 c n)))]):=by
 have q1:=hb.he;have q2:=hb.ai;have hbd:=KE q1.1 q2.1 (by omega:0<=n) hn.2;have c1:=zR c n hb (by omega) (by omega);have w4:IntKind.wrap .i64 (c.he - BQ c n)=c.he - BQ c n:=AD (by omega) (by omega);have w6:IntKind.wrap .i64 (c.ai - (n - BQ c n))=c.ai - (n - BQ c n):=AD (by omega) (by omega);have hil:=(List.getElem?_eq_some_iff.1 hc).1;have hiI:(i:Int) < cs.length:=by omega
 let k1:Cel:={c with he:=c.he - BQ c n}
 have hc1:(cs.set i k1)[i]?= some k1:=by simp [hil]
 have s0:i*7+7<=cs.length*7/\i*7+1+1<=cs.length*7/\i*7+2+1<=cs.length*7:=by omega
 have hsl:=Aw EZ cs;have hsl1:=Aw EZ (cs.set i k1)
 have t0:List.take 7 (List.drop (i*7) (AH AP cs))=(AP c).map .d:=by
   have:=Bg EZ (j:=0) (k:=7) hc (by omega);simpa using this
 have t1:List.take 1 (List.drop (i*7+1) (AH AP cs))=[vi c.he]:=Bg EZ (j:=1) (k:=1) hc (by omega);have e1:AA (AH AP cs) (i*7+1) [vi (c.he - BQ c n)]=AH AP (cs.set i k1):=Cq EZ (vs:=[di (c.he - BQ c n)]) hc (by simp) rfl;have t3:List.take 1 (List.drop (i*7+2) (AH AP (cs.set i k1)))=[vi c.ai]:=Bg EZ (x:=k1) (j:=2) (k:=1) hc1 (by omega)
 have e2:AA (AH AP (cs.set i k1)) (i*7+2) [vi (c.ai - (n - BQ c n))]=AH AP (cs.set i (I0 c n)):=by
   have:=Cq EZ (y:=I0 c n) (j:=2) (vs:=[di (c.ai - (n - BQ c n))]) hc1 (by simp) rfl;rw [List.set_set] at this;exact this
 refine CM 1 func232 c232 fun E hs hE=>?_
 simp [p232,hiI,t0,s0,hsl];refine CLa c1 ?_;simp [inC,Nat.testBit,hiI,t1,t3,e1,e2,s0,hsl,hsl1,w4,w6,lf];refine AB.by (lk [(0,0)]) ?_;simp [results232]
theorem xL (p:Plt) (a:Act) (hl:p.cs.length<=1000000) (hk:a.k=7) (hn:a.n=1):Ct prog 230 [Cy p (.d (AX p.cs)),BZ a] (vi 0) []:=by
 have c1:=LL a.n 1 1000;have c2:=c1;have c3:=c1;have c4:=c1;have w:IntKind.wrap .i64 ((p.cs.length:Int) - 1)=(p.cs.length:Int) - 1:=AD (by omega) (by omega);rw [show rgB 1 1000 [a.n]=true from by rw [hn];decide] at c1;refine CB func230 ue fun E hE=>?_
 simp [p230,hk]
 repeat ((first | (refine CLt c1 ?_ ?_;focus (simp;done)) | (refine CLt c2 ?_ ?_;focus (simp;done)) | (refine CLt c3 ?_ ?_;focus (simp;done)) | (refine CLt c4 ?_ ?_;focus (simp;done)));simp)
 apply RZ;simp [results230]
theorem xM (p:Plt) (a:Act) (hl:p.cs.length<=1000000) (hk:a.k=3):Ct prog 230 [Cy p (.d (AX p.cs)),BZ a] (vi (if inA p.cs.length a then 0 else 2)) []:=by
 have c1:=LL a.n 1 10000000;have c2:=LL a.c 0 ((p.cs.length:Int) - 1);have c3:=c1;have c4:=c1;have w:IntKind.wrap .i64 ((p.cs.length:Int) - 1)=(p.cs.length:Int) - 1:=AD (by omega) (by omega);unfold inA
 generalize rgB 0 ((p.cs.length:Int) - 1) [a.c]=b1 at*
 generalize rgB 1 10000000 [a.n]=b2 at*
 cases b1
 . cases b2
   . simp only [Bool.and_false,Bool.false_eq_true,if_false]
     refine CB func230 ue fun E hE=>?_
     simp [p230,hk]
     repeat ((first | (refine CLt c1 ?_ ?_;focus (simp;done)) | (refine CLt c2 ?_ ?_;focus (simp;done)) | (refine CLt c3 ?_ ?_;focus (simp;done)) | (refine CLt c4 ?_ ?_;focus (simp;done)));simp)
     apply RZ;simp [results230]
   . simp only [Bool.and_true,Bool.false_eq_true,if_false]
     refine CB func230 ue fun E hE=>?_
     simp [p230,hk]
     repeat ((first | (refine CLt c1 ?_ ?_;focus (simp;done)) | (refine CLt c2 ?_ ?_;focus (simp;done)) | (refine CLt c3 ?_ ?_;focus (simp;done)) | (refine CLt c4 ?_ ?_;focus (simp;done)));simp [w])
     apply RZ;simp [results230]
 . cases b2
   . simp only [Bool.and_false,Bool.false_eq_true,if_false]
     refine CB func230 ue fun E hE=>?_
     simp [p230,hk]
     repeat ((first | (refine CLt c1 ?_ ?_;focus (simp;done)) | (refine CLt c2 ?_ ?_;focus (simp;done)) | (refine CLt c3 ?_ ?_;focus (simp;done)) | (refine CLt c4 ?_ ?_;focus (simp;done)));simp)
     apply RZ;simp [results230]
   . simp only [Bool.and_true,if_true]
     refine CB func230 ue fun E hE=>?_
     simp [p230,hk]
     repeat ((first | (refine CLt c1 ?_ ?_;focus (simp;done)) | (refine CLt c2 ?_ ?_;focus (simp;done)) | (refine CLt c3 ?_ ?_;focus (simp;done)) | (refine CLt c4 ?_ ?_;focus (simp;done)));simp [w])
     apply RZ;simp [results230]
theorem xN (p:Plt) (a:Act) (hl:p.cs.length<=1000000) (hk:a.k=4):Ct prog 230 [Cy p (.d (AX p.cs)),BZ a] (vi (if inA p.cs.length a&&inT p.cs.length a then 0 else 2)) []:=by
 have c1:=LL a.n 1 10000000;have c2:=LL a.c 0 ((p.cs.length:Int) - 1);have c3:=LL a.t 0 ((p.cs.length:Int) - 1);have c4:=c1;have w:IntKind.wrap .i64 ((p.cs.length:Int) - 1)=(p.cs.length:Int) - 1:=AD (by omega) (by omega);unfold inA inT
 generalize rgB 0 ((p.cs.length:Int) - 1) [a.c]=b1 at*
 generalize rgB 0 ((p.cs.length:Int) - 1) [a.t]=b3 at*
 generalize rgB 1 10000000 [a.n]=b2 at*
 by_cases he:a.t=a.c
 . simp only [he,decide_true,Bool.not_true,Bool.and_false,Bool.false_eq_true,if_false]
   rw [he] at c3;cases b1<;>cases b2<;>cases b3
   all_goals
     refine CB func230 ue fun E hE=>?_
     simp [p230,hk]
     repeat ((first | (refine CLt c1 ?_ ?_;focus (simp;done)) | (refine CLt c2 ?_ ?_;focus (simp;done)) | (refine CLt c3 ?_ ?_;focus (simp;done)) | (refine CLt c4 ?_ ?_;focus (simp;done)));simp [w,he])
     apply RZ;simp [results230]
 . simp only [he,decide_false,Bool.not_false,Bool.and_true]
   cases b1<;>cases b2<;>cases b3
   all_goals simp only [Bool.and_true,Bool.and_false,Bool.false_eq_true,if_false,if_true]
   all_goals
     refine CB func230 ue fun E hE=>?_
     simp [p230,hk]
     repeat ((first | (refine CLt c1 ?_ ?_;focus (simp;done)) | (refine CLt c2 ?_ ?_;focus (simp;done)) | (refine CLt c3 ?_ ?_;focus (simp;done)) | (refine CLt c4 ?_ ?_;focus (simp;done)));simp [w,he])
     apply RZ;simp [results230]
theorem C6 {H:Hp} {a b c d:Nat}:Fi H (.ls a b c d) (.ls a b c d):=⟨rfl,rfl,rfl,rfl⟩
theorem spl6 (c0 c1 c2 c3 c4 c5 c6 c7 c8 c9 x y:V):AA [c0,c1,c2,c3,c4,c5,c6,c7,c8,c9] 6 [x,y]=[c0,c1,c2,c3,c4,c5,x,y,c8,c9]:=rfl
theorem vI (p:Plt) (cs:List Cel) (hl:cs.length<=12) (hne:cs≠[]) (hb:∀ c∈cs,B5 c) (hv:gd p.lh) (hw:gd p.la):
   Cm prog 234 [Cy p (.ls 0 0 cs.length 7)] (lk [(0,AH AP cs)]) [0] (.ret (Cy (tkP p cs cs.length) (.ls 0 0 cs.length 7))) (lk [(0,AH AP (cs.map tkC))]):=by
 have n1:=BG hne;refine CM 1 func234 zy fun E hs hE=>?_
 simp [p234];refine Al (α:=Nat) (fun i=>⟨AO [(1, .lp 1 0),(2, .lp 2 0),(3,vi i)],lk [(0,AH AP (tkL cs i)),(1,plB (tkP p cs i) (.ls 0 0 cs.length 7)),(2,plZ)],3⟩) (fun i=>i<=cs.length) (fun i=>cs.length - i) 0 ?_ ?_ ?_
 . omega
 . rw [cW]
   refine AI.mkM hs (lk [(0,0),(1,1),(2,1048577)]) _ _ _ ?_ ?_ ?_ ?_ ?_ ?_<;>simp [tkP,tkH,tkA]
 . intro i hi
   by_cases h:i < cs.length
   . obtain ⟨c,hc⟩:=gE h
     have hcb:=hb c (List.mem_of_getElem? hc);have hI:(i:Int) < cs.length:=by omega
     have hz:=@wz i (by omega);have b1:=cY hcb;have b2:=SY hcb;have b3:=SZ hb i hi;have q1:=hcb.he;have q2:=hcb.ai;have q3:=hcb.lk;have q4:=hcb.ow;have hLc:=mQ hc;have hLn:=cX hc;have hLl:=iP cs i;have hHn:=Pz hc;have hAn:=P2 hc
     generalize tkL cs i=L at*
     have d0:=rV c hcb;unfold am at d0;have w2:IntKind.wrap .i64 ((c.he+c.ai)*c.lk)=(c.he+c.ai)*c.lk:=AD (by omega) (by omega);have w3:IntKind.wrap .i64 (c.ow+(c.he+c.ai)*c.lk)=tkS c:=AD (by unfold tkS at b1;omega) (by unfold tkS at b1;omega);have hd:(tkS c).tdiv 1000000=tkN c:=Int.tdiv_eq_ediv_of_nonneg (by omega);have w4:IntKind.wrap .i64 (tkN c)=tkN c:=AD (by omega) (by omega);have hm:(tkS c).tmod 1000000=tkS c % 1000000:=Int.tmod_eq_emod_of_nonneg (by omega);have w5:IntKind.wrap .i64 (tkS c % 1000000)=tkS c % 1000000:=AD (by omega) (by omega);have hsl:=Aw EZ L;have s0:(i*7+7<=cs.length*7/\i*7+4+1<=cs.length*7)/\i*7+5+1<=cs.length*7/\i*7+6+1<=cs.length*7:=by omega
     have t0:List.take 7 (List.drop (i*7) (AH AP L))=(AP c).map .d:=by
       have:=Bg EZ (j:=0) (k:=7) hLc (by omega);simpa using this
     have t5:List.take 1 (List.drop (i*7+5) (AH AP L))=[vi c.lk]:=Bg EZ (x:=c) (j:=5) (k:=1) hLc (by omega);have t6:List.take 1 (List.drop (i*7+6) (AH AP L))=[vi c.ow]:=Bg EZ (x:=c) (j:=6) (k:=1) hLc (by omega);by_cases hp:1000000<=tkS c
     . have hp0:1<=tkN c:=by unfold tkN;omega
       have d3:=rR (tkP p cs i) L i c (tkN c) (by omega) hLc hcb ⟨hp0,b1.2.2.2⟩;have d4:=yG (p.lh+tkH cs i) (p.la+tkA cs i) (BQ c (tkN c)) (tkN c - BQ c (tkN c)) ⟨by omega,by omega,by omega,by omega⟩;obtain ⟨L2,hL2⟩:∃ L2,L.set i (I0 c (tkN c))=L2:=⟨_,rfl⟩
       rw [hL2,hLl] at d3;have hL2l:L2.length=cs.length:=by rw [<-hL2];simp [hLl]
       have hL2c:L2[i]?= some (I0 c (tkN c)):=by rw [<-hL2];simp [hLl,h]
       have hsl2:=Aw EZ L2
       have x2:AA (AH AP L2) (i*7+6) [vi (tkS c % 1000000)]=AH AP (L.set i (tkC c)):=by
         have:=Cq EZ (y:=tkC c) (j:=6) (vs:=[di (tkS c % 1000000)]) hL2c (by simp) rfl;rw [<-hL2,List.set_set,hL2] at this;exact this
       have n2:AH AP L≠[]:=BG (fun e=>by rw [e] at hLl;simp at hLl;omega);simp [sV,hI,inC,Nat.testBit,hLl,hsl,s0,t0,t5,t6];refine CLa d0 ?_;simp [inC,Nat.testBit,hI,hLl,hsl,s0,t5,w2,w3,hp];refine AL [(6,0)] (by kernel_rfl) ?_;simp [inC,Nat.testBit,hd,w4,tkP];refine CDs d3 (by simp [wrL,inC,Nat.testBit,n2,tkP,C6,BB]) ?_;simp;refine CLa d4 ?_;simp [hI,hL2l,hsl2,s0,x2,hm,hz,spl6];refine ⟨i+1,by omega,by omega,?_⟩;rw [hLn,hHn,hAn];refine AI.mkM hs (lk [(0,0),(1,1),(2,2)]) _ _ _ ?_ ?_ ?_ ?_ ?_ ?_<;>simp [Int.add_assoc]
     . have hN:tkN c=0:=by unfold tkN;omega
       have hS:tkS c % 1000000=tkS c:=by omega
       have hO:BQ c 0=0:=by unfold BQ;simp
       have x2:AA (AH AP L) (i*7+6) [vi (tkS c)]=AH AP (L.set i (tkC c)):=Cq EZ (y:=tkC c) (j:=6) (vs:=[di (tkS c)]) hLc (by simp) (by unfold tkC I0;rw [hN,hS,hO];simp);simp [sV,hI,inC,Nat.testBit,hLl,hsl,s0,t0,t5,t6];refine CLa d0 ?_;simp [inC,Nat.testBit,hI,hLl,hsl,s0,t5,w2,w3,hp,hm,hS,x2,hz,tkP];refine ⟨i+1,by omega,by omega,?_⟩;rw [hLn,hHn,hAn,hN,hO];exact WKM hs (lk [(0,0),(1,1),(2,2)])
   . have ei:i=cs.length:=by omega
     have hI:¬ (i:Int) < cs.length:=by omega
     subst ei;simp [sV,AA,iO];refine AB.by (lk [(0,0)]) ?_;simp [results234]
theorem wG (p:Plt):Ct prog 234 [Cy p (.d (AX []))] (Cy p (.d (AX []))) []:=by
 refine CB func234 zy fun E hE=>?_
 simp [p234];refine Al (α:=Nat) (fun i=>⟨AO [(1, .lp 1 0),(2, .lp 2 0),(3,vi i)],lk [(1,plB p (.d (AX []))),(2,plZ)],3⟩) (fun i=>i=0) (fun i=>0) 0 ?_ ?_ ?_
 . rfl
 . exact WK hE (lk [(1,0),(2,1048576)])
 . intro i hi
   subst hi;simp [sV,AA];apply RZ;simp [results234]
theorem rZ (p:Plt) (a:Act) (e:Int) (hl:p.cs.length<=1000000) (h:Ar p=true) (he:¬ e=0) (d2:Ct prog 230 [Cy p (.d (AX p.cs)),BZ a] (vi e) []):Ct prog 172 [Cy p (.d (AX p.cs)),BZ a] (.tup [.agg plZ,vi e]) []:=by
 have d1:=S2 p hl;rw [h] at d1;refine CB func172 tp fun E hE=>?_
 simp [p172];refine CLa d1 ?_;simp;refine CLa d2 ?_;simp [AA,he];apply RZ;simp [results172]
theorem vG (p:Plt) (a:Act) (c:Cel) (h:Ar p=true) (hk:a.k=3) (hin:inA p.cs.length a=true) (d2:Ct prog 230 [Cy p (.d (AX p.cs)),BZ a] (vi 0) []) (hc:p.cs[a.c.toNat]?= some c) (hn:c.he+c.ai < a.n):Ct prog 172 [Cy p (.d (AX p.cs)),BZ a] (.tup [.agg plZ,vi 6]) []:=by
 have hl:=CS h;have hcb:=Dx h c (List.mem_of_getElem? hc);have d1:=S2 p (by omega);have d3:=tR p (by omega);have d4:=sI 3;have d5:=rV c hcb;unfold am at d5;rw [h] at d1;have h1:=EQ.1 hin;obtain ⟨i,hi⟩:∃ i:Nat,a.c=i:=⟨a.c.toNat,by omega⟩
 have hit:a.c.toNat=i:=by omega
 rw [hit] at hc;have hI:(i:Int) < p.cs.length:=by omega
 have hil:i < p.cs.length:=by omega
 have hsl:=Aw EZ p.cs;have s0:i*7+7<=p.cs.length*7:=by omega
 have t0:List.take 7 (List.drop (i*7) (AH AP p.cs))=(AP c).map .d:=by
   have:=Bg EZ (j:=0) (k:=7) hc (by omega);simpa using this
 simp at d4;refine CB func172 tp fun E hE=>?_
 simp [p172];refine CLa d1 ?_;simp;refine CLa d2 ?_;simp;refine CLa d3 ?_;simp [AA,inC,Nat.testBit,hk];refine CLa d4 ?_;simp [inC,Nat.testBit,hi,hI,hsl,s0,t0];refine CLa d5 ?_;simp [AA,inC,Nat.testBit,hn];apply RZ;simp [results172]
theorem vH (p:Plt) (a:Act) (c:Cel) (h:Ar p=true) (hk:a.k=4) (hin:inA p.cs.length a=true) (d2:Ct prog 230 [Cy p (.d (AX p.cs)),BZ a] (vi 0) []) (hc:p.cs[a.c.toNat]?= some c) (hn:c.he+c.ai < a.n):Ct prog 172 [Cy p (.d (AX p.cs)),BZ a] (.tup [.agg plZ,vi 6]) []:=by
 have hl:=CS h;have hcb:=Dx h c (List.mem_of_getElem? hc);have d1:=S2 p (by omega);have d3:=tR p (by omega);have d4:=sI 4;have d5:=rV c hcb;unfold am at d5;rw [h] at d1;have h1:=EQ.1 hin;obtain ⟨i,hi⟩:∃ i:Nat,a.c=i:=⟨a.c.toNat,by omega⟩
 have hit:a.c.toNat=i:=by omega
 rw [hit] at hc;have hI:(i:Int) < p.cs.length:=by omega
 have hil:i < p.cs.length:=by omega
 have hsl:=Aw EZ p.cs;have s0:i*7+7<=p.cs.length*7:=by omega
 have t0:List.take 7 (List.drop (i*7) (AH AP p.cs))=(AP c).map .d:=by
   have:=Bg EZ (j:=0) (k:=7) hc (by omega);simpa using this
 simp at d4;refine CB func172 tp fun E hE=>?_
 simp [p172];refine CLa d1 ?_;simp;refine CLa d2 ?_;simp;refine CLa d3 ?_;simp [AA,inC,Nat.testBit,hk];refine CLa d4 ?_;simp [inC,Nat.testBit,hi,hI,hsl,s0,t0];refine CLa d5 ?_;simp [AA,inC,Nat.testBit,hn];apply RZ;simp [results172]
theorem yW {p:Plt} {cs ds:List Cel} {i n x y:Int} (h:Cm prog 232 [Cy p (.ls 0 0 cs.length 7),vi i,vi n] (lk [(0,AH AP cs)]) [0] (.ret (vsp x y)) (lk [(0,AH AP ds)])):Cm prog 232 [Cy p (.ls 14680064 0 cs.length 7),vi i,vi n] (lk [(14680064,AH AP cs)]) [14680064] (.ret (vsp x y)) (lk [(14680064,AH AP ds)]):=by
 have:=Cm.rename (fun _=>14680064) 1 (by omega) h (by simp [BW]) (by simp [BW]) (by simp);simpa [Ea,HW,Px] using this
theorem vC (p:Plt) (a:Act) (c:Cel) (h:Ar p=true) (hk:a.k=3) (hin:inA p.cs.length a=true) (d2:Ct prog 230 [Cy p (.d (AX p.cs)),BZ a] (vi 0) []) (hc:p.cs[a.c.toNat]?= some c) (hn:a.n<=c.he+c.ai) (ho:Ar (vlP p a c)=true):Ct prog 172 [Cy p (.d (AX p.cs)),BZ a] (.tup [Cy (vlP p a c) (.ls 0 0 p.cs.length 7),vi 0]) [(0,AH AP (vlP p a c).cs)]:=by
 have hl:=CS h;have hcb:=Dx h c (List.mem_of_getElem? hc);have d1:=S2 p (by omega);have d3:=tR p (by omega);have d4:=sI 3;have d5:=rV c hcb;unfold am at d5;rw [h] at d1;have h1:=EQ.1 hin;obtain ⟨i,hi⟩:∃ i:Nat,a.c=i:=⟨a.c.toNat,by omega⟩
 have hit:a.c.toNat=i:=by omega
 rw [hit] at hc;have hI:(i:Int) < p.cs.length:=by omega
 have hil:i < p.cs.length:=by omega
 have hsl:=Aw EZ p.cs;have s0:i*7+7<=p.cs.length*7:=by omega
 have t0:List.take 7 (List.drop (i*7) (AH AP p.cs))=(AP c).map .d:=by
   have:=Bg EZ (j:=0) (k:=7) hc (by omega);simpa using this
 simp at d4;refine CB func172 tp fun E hE=>?_
 simp [p172];refine CLa d1 ?_;simp;refine CLa d2 ?_;simp;refine CLa d3 ?_;simp [AA,inC,Nat.testBit,hk];refine CLa d4 ?_;simp [inC,Nat.testBit,hi,hI,hsl,s0,t0];refine CLa d5 ?_;have hn2:¬ c.he+c.ai < a.n:=by omega
 simp [inC,Nat.testBit,hn2];refine CLa d4 ?_;simp;have d6:=yW (rR p p.cs i c a.n (by omega) hc hcb ⟨h1.2.1,hn⟩);have n1:AH AP p.cs≠[]:=BG fun e=>by rw [e] at hil;simp at hil
 have bk:=K9 (K7 h);have q1:=hcb.he;have q2:=hcb.ai;have hbd:=KE q1.1 q2.1 (by omega:0<=a.n) hn;have d7:=yG p.vh p.va (BQ c a.n) (a.n - BQ c a.n) ⟨by omega,by omega,by omega,by omega⟩;have e1:(vlP p a c).cs=p.cs.set i (I0 c a.n):=by simp [vlP,hit]
 have d9:=S2 (vlP p a c) (by rw [e1];simp;omega);rw [ho] at d9
 have d8:List.take (p.cs.length*7) (AH AP (p.cs.set i (I0 c a.n)))=(List.map (List.map V.d ∘ AP) (p.cs.set i (I0 c a.n))).flatten:=by
   rw [List.take_of_length_le (by rw [Aw EZ];simp)];simp [AH,List.map_flatten]
 have d10:(∀ e:List D,e∈(List.map AP p.cs).set i (AP (I0 c a.n))->e.length=7)=True:=eq_true fun e he=>by
   rw [<-List.map_set] at he;obtain ⟨x,_,rfl⟩:=List.mem_map.1 he;rfl
 refine CRs d6 (by simp [n1,C6,BB]) ?_;simp [AA];refine CLa d7 ?_;simp [AA];refine CLb (d9) (by first | (simp;done) | simp [CP,d8,d10,vlP,hit]) ?_;simp [AA];refine AB.by (lk [(0,14680064)]) ?_;simp [results172,vlP,hit]
abbrev Evt:=Int × Int × Int × Int
def ev0:Evt:=(0,0,0,0)
def JC (k:Sky) (r:Rig) (s:Shp) (le:Int):Int:=
 if BV k then (if CF r then (if A6 s then (if le=0 then (if Ey k r then 0 else 2) else le) else 52) else 51) else 50
def cC (k:Sky) (r:Rig) (s:Shp) (x:Leg):Except (Int × Int × Int) Shp:=
 if JC k r s (if BE x then 0 else 53)=0 then HK k r s x else .error (JC k r s (if BE x then 0 else 53),0,0)
structure Jt (p q:Plt):Prop where
 bt:q.bt=p.bt
 ih:q.ih=p.ih
 ia:q.ia=p.ia
 ph:q.ph=p.ph
 pa:q.pa=p.pa
 n:q.cs.length=p.cs.length
theorem Jt.refl (p:Plt):Jt p p:=⟨rfl,rfl,rfl,rfl,rfl,rfl⟩
theorem Jt.trans {p q r:Plt} (h:Jt p q) (g:Jt q r):Jt p r:=⟨g.bt.trans h.bt,g.ih.trans h.ih,g.ia.trans h.ia,g.ph.trans h.ph,g.pa.trans h.pa,g.n.trans h.n⟩
theorem ND {p q:Plt} (h:Hm p= .ok q):q=p:=by
 unfold Hm at h;split at h
 . exact (Except.ok.inj h).symm
 . cases h
theorem pL {p q:Plt} {a:Act} (h:doS p a= .ok q):Jt p q:=by
 unfold doS vlS mvS at h
 repeat' split at h
 all_goals first
   | (cases h;done)
   | (have e:=ND h;subst e;exact ⟨rfl,rfl,rfl,rfl,rfl,by simp [vlP]⟩)
   | (have e:=ND h;subst e;exact ⟨rfl,rfl,rfl,rfl,rfl,by simp [mvP]⟩)
   | (have e:=ND h;subst e;exact ⟨rfl,rfl,rfl,rfl,rfl,by simp [tkQ]⟩)
theorem Kw:∀ {acts:List Act} {p:Plt} {i:Nat},Ar p=true->(B7 p acts i).2.2=0->Ar (B7 p acts i).1=true/\Jt p (B7 p acts i).1
 | [],p,i,h,_=>⟨h,Jt.refl p⟩
 | a::r,p,i,h,he=>by
   unfold B7 at he ⊢;cases hd:doS p a with
   | ok q=>
     rw [hd] at he;simp only at he ⊢;have:=Kw (Zn hd) he;exact ⟨this.1,(pL hd).trans this.2⟩
   | error e=>
     rw [hd] at he;exact absurd he (Tb hd)
theorem NE {s t:Shp} {x:Leg}:Ep s x= .ok t↔((B7 s.gas x.acts 0).2.2=0/\x.dr<=s.bal/\s.drp+x.dr<=1000000000000)/\t={s with gas:=(B7 s.gas x.acts 0).1,bal:=s.bal - x.dr,drp:=s.drp+x.dr}:=by
 unfold Ep;constructor
 . intro h
   split at h
   . rename_i h1
     split at h
     . cases h
     split at h
     . cases h
     rename_i h2 h3;exact ⟨⟨h1,by omega,by omega⟩,(Except.ok.inj h).symm⟩
   . cases h
 . rintro ⟨⟨h1,h2,h3⟩,rfl⟩
   rw [if_pos h1,if_neg (by omega),if_neg (by omega)]
theorem ZC {s t:Shp} {x:Leg} (hs:A6 s=true) (hx:BE x=true) (h:Ep s x= .ok t):A6 t=true:=by
 obtain ⟨⟨h1,h2,h3⟩,rfl⟩:=NE.1 h;have hb:=GT hs;have hX:=AAb hs;have q:=Kz hx;have hp:=(Kw (CR hs) h1).1;have b1:=hb.b;have p1:=hX.p;exact KH ⟨hb.h,hb.f,hb.w,hb.d,by simp only;omega,CS hp,Dx hp⟩ ⟨hX.x,hX.y,hX.b,by simp only;omega⟩ hp
theorem dI.refl (s:Shp):dI s s:=by
 refine ⟨?_,?_,?_,?_,?_,?_,rfl,rfl,rfl,rfl⟩<;>exact ⟨Int.le_refl _,Int.le_refl _⟩
theorem Wid.refl (r:Rig):Wid r r:=⟨rfl,rfl,rfl,rfl,Int.le_refl _,Int.le_refl _,Int.le_refl _⟩
def fR:List Shp->List Shp->Prop
 | [],[]=>True
 | a::r,b::q=>dI a b/\fR r q
 | _,_=>False
theorem fR.at:∀ {a b:List Shp},fR a b->a.length=b.length/\∀ (i:Nat) (x y:Shp),a[i]?= some x->b[i]?= some y->dI x y
 | [],[],_=>⟨rfl,fun i x y h=>by simp at h⟩
 | a::r,b::q,h=>by
   obtain ⟨h1,h2⟩:=fR.at h.2;refine ⟨by simp [h1],fun i x y hx hy=>?_⟩;cases i with
   | zero=>simp at hx hy;subst hx hy;exact h.1
   | succ i=>exact h2 i x y (by simpa using hx) (by simpa using hy)
 | [],_::_,h=>h.elim
 | _::_,[],h=>h.elim
section
variable {k:Sky} {r:Rig} {l:List Leg}
structure JD (r:Rig) (s t:Shp) (n:Nat):Prop where
 drop:t.bal+t.drp=s.bal+s.drp
 lo:t.fl+t.bh=s.fl+s.bh
 hi:t.fh+t.bl=s.fh+s.bl
 dry:t.dry=s.dry
 gas:Jt s.gas t.gas
 burn:s.bh<=t.bh
 water:100*(t.wh - s.wh)<=(t.bh - s.bh)*r.gh+99*n
theorem JD.refl (r:Rig) (s:Shp):JD r s s 0:=⟨rfl,rfl,rfl,rfl,Jt.refl _,Int.le_refl _,by simp⟩
theorem JD.trans {r:Rig} {s t u:Shp} {n m:Nat} (h:JD r s t n) (g:JD r t u m):JD r s u (n+m):=by
 obtain ⟨a1,a2,a3,a4,a5,a6,a7⟩:=h;obtain ⟨b1,b2,b3,b4,b5,b6,b7⟩:=g;refine ⟨by omega,by omega,by omega,by omega,a5.trans b5,by omega,?_⟩;have e:(u.bh - s.bh)*r.gh=(u.bh - t.bh)*r.gh+(t.bh - s.bh)*r.gh:=by rw [<-Int.add_mul];congr 1;omega
 omega
end
end Go.Proofs.Tryz
namespace Go.Proofs.Tryz
open Go.Psl
open Go.Air
theorem tQ:∀ {l:List Int} {i:Nat} {x y:Int},l[i]?= some x->(l.set i y).sum=l.sum - x+y
 | [],i,x,y,h=>by simp at h
 | a::l,0,x,y,h=>by simp at h;subst h;simp;omega
 | a::l,i+1,x,y,h=>by
   have:=tQ (l:=l) (i:=i) (x:=x) (y:=y) (by simpa using h);simp only [List.set_cons_succ,List.sum_cons];omega
theorem xt {cs:List Cel} {i:Nat} {c d:Cel} (h:cs[i]?= some c):heS (cs.set i d)=heS cs - c.he+d.he:=by
 unfold heS;rw [List.map_set];exact tQ (by rw [List.getElem?_map,h];rfl)
theorem xu {cs:List Cel} {i:Nat} {c d:Cel} (h:cs[i]?= some c):aiS (cs.set i d)=aiS cs - c.ai+d.ai:=by
 unfold aiS;rw [List.map_set];exact tQ (by rw [List.getElem?_map,h];rfl)
theorem xv {c:Cel} {n:Int} (h:B5 c) (h0:0<=n) (h1:n<=am c):B5 (I0 c n):=by
 have q1:=h.he;have q2:=h.ai;have:=KE q1.1 q2.1 h0 h1;unfold I0;exact ⟨h.rm,by simp only;omega,by simp only;omega,h.w,h.lk,h.ow⟩
theorem y3 {p:Plt} {a:Act} {c:Cel} (h:Ar p=true) (hc:p.cs[a.c.toNat]?= some c) (h0:0<=a.n) (h1:a.n<=am c):Ar (vlP p a c)=true:=by
 have hl:=CS h;have hcs:=Dx h;have he:=Wl h;have hb:=Wm h;have hcb:=hcs c (List.mem_of_getElem? hc);have q1:=hcb.he;have q2:=hcb.ai;have ho:=KE q1.1 q2.1 h0 h1;obtain ⟨b1,b2,b3,b4,b5,b6,b7,b8⟩:=K9 (K7 h);refine P4 (by simpa [vlP] using hl) hb (fun d hd=>?_) ?_ ?_ ?_
 . simp only [vlP] at hd
   rcases List.mem_or_eq_of_mem_set hd with hd | rfl
   . exact hcs d hd
   . exact xv hcb h0 h1
 . simp only [vlP]
   rw [xt hc,xu hc];unfold I0;simp only;omega
 . simp only [vlP];omega
 . simp only [vlP];omega
theorem vj (p:Plt) (a:Act) (c e:Cel) (h:Ar p=true) (hk:a.k=4) (hin:inA p.cs.length a=true) (hto:inT p.cs.length a=true) (d2:Ct prog 230 [Cy p (.d (AX p.cs)),BZ a] (vi 0) []) (hc:p.cs[a.c.toNat]?= some c) (he:p.cs[a.t.toNat]?= some e) (hn:a.n<=c.he+c.ai) (ho:Ar (mvP p a c e)=true):Ct prog 172 [Cy p (.d (AX p.cs)),BZ a] (.tup [Cy (mvP p a c e) (.ls 0 0 p.cs.length 7),vi 0]) [(0,AH AP (mvP p a c e).cs)]:=by
 have hl:=CS h;have hcs:=Dx h;have hcb:=hcs c (List.mem_of_getElem? hc);have heb:=hcs e (List.mem_of_getElem? he);have d1:=S2 p (by omega);have d3:=tR p (by omega);have d4:=sI 4;have d5:=rV c hcb;unfold am at d5;rw [h] at d1;have h1:=EQ.1 hin;obtain ⟨i,hi⟩:∃ i:Nat,a.c=i:=⟨a.c.toNat,by omega⟩
 have hit:a.c.toNat=i:=by omega
 have hT:0<=a.t/\a.t < p.cs.length/\¬ a.t=a.c:=by
   unfold inT rgB at hto;simp at hto;omega
 obtain ⟨j,hj⟩:∃ j:Nat,a.t=j:=⟨a.t.toNat,by omega⟩
 have hjt:a.t.toNat=j:=by omega
 have ecs:(mvP p a c e).cs=(p.cs.set i (I0 c a.n)).set j (gg e (BQ c a.n) (a.n - BQ c a.n)):=by simp [mvP,hit,hjt]
 rw [hit] at hc;rw [hjt] at he;have hij:i≠j:=by omega
 have hI:(i:Int) < p.cs.length:=by omega
 have hil:i < p.cs.length:=by omega
 have hJ:(j:Int) < p.cs.length:=by omega
 have hjl:j < p.cs.length:=by omega
 have hsl:=Aw EZ p.cs;have s0:i*7+7<=p.cs.length*7:=by omega
 have t0:List.take 7 (List.drop (i*7) (AH AP p.cs))=(AP c).map .d:=by
   have:=Bg EZ (j:=0) (k:=7) hc (by omega);simpa using this
 simp at d4;have n1:AH AP p.cs≠[]:=BG fun e=>by rw [e] at hil;simp at hil
 have q1:=hcb.he;have q2:=hcb.ai;have q3:=heb.he;have q4:=heb.ai;have hbd:=KE q1.1 q2.1 (by omega:0<=a.n) hn;have d6:=yW (rR p p.cs i c a.n (by omega) hc hcb ⟨h1.2.1,hn⟩);obtain ⟨L,hL⟩:∃ L,p.cs.set i (I0 c a.n)=L:=⟨_,rfl⟩
 have hLl:L.length=p.cs.length:=by rw [<-hL];simp
 have heL:L[j]?= some e:=by rw [<-hL,List.getElem?_set_ne hij];exact he
 rw [hL] at d6 ecs;obtain ⟨x,hx⟩:∃ x,BQ c a.n=x:=⟨_,rfl⟩
 rw [hx] at d6 hbd ecs
 let e1:Cel:={e with he:=e.he+x}
 have he1:(L.set j e1)[j]?= some e1:=by simp [hLl,hjl]
 have hsl0:=Aw EZ L;have hsl1:=Aw EZ (L.set j e1);have s1:j*7+1+1<=p.cs.length*7/\j*7+2+1<=p.cs.length*7:=by omega
 have t1:List.take 1 (List.drop (j*7+1) (AH AP L))=[vi e.he]:=Bg EZ (x:=e) (j:=1) (k:=1) heL (by omega);have t2:List.take 1 (List.drop (j*7+2) (AH AP (L.set j e1)))=[vi e.ai]:=Bg EZ (x:=e1) (j:=2) (k:=1) he1 (by omega);have x1:AA (AH AP L) (j*7+1) [vi (e.he+x)]=AH AP (L.set j e1):=Cq EZ (vs:=[di (e.he+x)]) heL (by simp) rfl;obtain ⟨M,hM⟩:∃ M,L.set j (gg e x (a.n - x))=M:=⟨_,rfl⟩
 have hMl:M.length=p.cs.length:=by rw [<-hM];simp [hLl]
 have x2:AA (AH AP (L.set j e1)) (j*7+2) [vi (e.ai+(a.n - x))]=AH AP M:=by
   have:=Cq EZ (y:=gg e x (a.n - x)) (j:=2) (vs:=[di (e.ai+(a.n - x))]) he1 (by simp) rfl;rw [List.set_set,hM] at this;exact this
 rw [hM] at ecs;have hslM:=Aw EZ M;have w5:IntKind.wrap .i64 (e.he+x)=e.he+x:=AD (by omega) (by omega);have w6:IntKind.wrap .i64 (e.ai+(a.n - x))=e.ai+(a.n - x):=AD (by omega) (by omega);have d9:=S2 (mvP p a c e) (by rw [ecs];omega);rw [ho] at d9
 have d8:List.take (p.cs.length*7) (AH AP M)=(List.map (List.map V.d ∘ AP) M).flatten:=by
   rw [List.take_of_length_le (by rw [Aw EZ];omega)];simp [AH,List.map_flatten]
 have hn2:¬ c.he+c.ai < a.n:=by omega
 obtain ⟨mq,hmq⟩:∃ mq,mvP p a c e=mq:=⟨_,rfl⟩
 have mb:mq.bt=p.bt/\mq.ih=p.ih/\mq.ia=p.ia/\mq.vh=p.vh/\mq.va=p.va/\mq.lh=p.lh/\mq.la=p.la/\mq.ph=p.ph/\mq.pa=p.pa:=by rw [<-hmq];exact ⟨rfl,rfl,rfl,rfl,rfl,rfl,rfl,rfl,rfl⟩
 rw [hmq] at ecs d9 ⊢;obtain ⟨z1,z2,z3,z4,z5,z6,z7,z8,z9⟩:=mb;refine CB func172 tp fun E hE=>?_
 simp [p172];refine CLa d1 ?_;simp;refine CLa d2 ?_;simp;refine CLa d3 ?_;simp [AA,inC,Nat.testBit,hk];refine CLa d4 ?_;simp [inC,Nat.testBit,hi,hI,hsl,s0,t0];refine CLa d5 ?_;simp [inC,Nat.testBit,hn2];refine CLa d4 ?_;simp;refine CRs d6 (by simp [n1,C6,BB]) ?_;simp [hj,hJ,hLl,hsl0,hsl1,s1,t1,t2,x1,x2,w5,w6,lf,inC,Nat.testBit];refine CLb (d9) (by first | (simp;done) | simp [CP,d8,ecs,hMl,z1,z2,z3,z4,z5,z6,z7,z8,z9]) ?_;simp [AA];refine AB.by (lk [(0,14680064)]) ?_;simp [results172,ecs,z1,z2,z3,z4,z5,z6,z7,z8,z9]
theorem uj (p:Plt) (a:Act) (c e:Cel) (h:Ar p=true) (hk:a.k=4) (hin:inA p.cs.length a=true) (hto:inT p.cs.length a=true) (d2:Ct prog 230 [Cy p (.d (AX p.cs)),BZ a] (vi 0) []) (hc:p.cs[a.c.toNat]?= some c) (he:p.cs[a.t.toNat]?= some e) (hn:a.n<=c.he+c.ai) (ho:Ar (mvP p a c e)=false):Ct prog 172 [Cy p (.d (AX p.cs)),BZ a] (.tup [.agg plZ,vi 9]) []:=by
 have hl:=CS h;have hcs:=Dx h;have hcb:=hcs c (List.mem_of_getElem? hc);have heb:=hcs e (List.mem_of_getElem? he);have d1:=S2 p (by omega);have d3:=tR p (by omega);have d4:=sI 4;have d5:=rV c hcb;unfold am at d5;rw [h] at d1;have h1:=EQ.1 hin;obtain ⟨i,hi⟩:∃ i:Nat,a.c=i:=⟨a.c.toNat,by omega⟩
 have hit:a.c.toNat=i:=by omega
 have hT:0<=a.t/\a.t < p.cs.length/\¬ a.t=a.c:=by
   unfold inT rgB at hto;simp at hto;omega
 obtain ⟨j,hj⟩:∃ j:Nat,a.t=j:=⟨a.t.toNat,by omega⟩
 have hjt:a.t.toNat=j:=by omega
 have ecs:(mvP p a c e).cs=(p.cs.set i (I0 c a.n)).set j (gg e (BQ c a.n) (a.n - BQ c a.n)):=by simp [mvP,hit,hjt]
 rw [hit] at hc;rw [hjt] at he;have hij:i≠j:=by omega
 have hI:(i:Int) < p.cs.length:=by omega
 have hil:i < p.cs.length:=by omega
 have hJ:(j:Int) < p.cs.length:=by omega
 have hjl:j < p.cs.length:=by omega
 have hsl:=Aw EZ p.cs;have s0:i*7+7<=p.cs.length*7:=by omega
 have t0:List.take 7 (List.drop (i*7) (AH AP p.cs))=(AP c).map .d:=by
   have:=Bg EZ (j:=0) (k:=7) hc (by omega);simpa using this
 simp at d4;have n1:AH AP p.cs≠[]:=BG fun e=>by rw [e] at hil;simp at hil
 have q1:=hcb.he;have q2:=hcb.ai;have q3:=heb.he;have q4:=heb.ai;have hbd:=KE q1.1 q2.1 (by omega:0<=a.n) hn;have d6:=yW (rR p p.cs i c a.n (by omega) hc hcb ⟨h1.2.1,hn⟩);obtain ⟨L,hL⟩:∃ L,p.cs.set i (I0 c a.n)=L:=⟨_,rfl⟩
 have hLl:L.length=p.cs.length:=by rw [<-hL];simp
 have heL:L[j]?= some e:=by rw [<-hL,List.getElem?_set_ne hij];exact he
 rw [hL] at d6 ecs;obtain ⟨x,hx⟩:∃ x,BQ c a.n=x:=⟨_,rfl⟩
 rw [hx] at d6 hbd ecs
 let e1:Cel:={e with he:=e.he+x}
 have he1:(L.set j e1)[j]?= some e1:=by simp [hLl,hjl]
 have hsl0:=Aw EZ L;have hsl1:=Aw EZ (L.set j e1);have s1:j*7+1+1<=p.cs.length*7/\j*7+2+1<=p.cs.length*7:=by omega
 have t1:List.take 1 (List.drop (j*7+1) (AH AP L))=[vi e.he]:=Bg EZ (x:=e) (j:=1) (k:=1) heL (by omega);have t2:List.take 1 (List.drop (j*7+2) (AH AP (L.set j e1)))=[vi e.ai]:=Bg EZ (x:=e1) (j:=2) (k:=1) he1 (by omega);have x1:AA (AH AP L) (j*7+1) [vi (e.he+x)]=AH AP (L.set j e1):=Cq EZ (vs:=[di (e.he+x)]) heL (by simp) rfl;obtain ⟨M,hM⟩:∃ M,L.set j (gg e x (a.n - x))=M:=⟨_,rfl⟩
 have hMl:M.length=p.cs.length:=by rw [<-hM];simp [hLl]
 have x2:AA (AH AP (L.set j e1)) (j*7+2) [vi (e.ai+(a.n - x))]=AH AP M:=by
   have:=Cq EZ (y:=gg e x (a.n - x)) (j:=2) (vs:=[di (e.ai+(a.n - x))]) he1 (by simp) rfl;rw [List.set_set,hM] at this;exact this
 rw [hM] at ecs;have hslM:=Aw EZ M;have w5:IntKind.wrap .i64 (e.he+x)=e.he+x:=AD (by omega) (by omega);have w6:IntKind.wrap .i64 (e.ai+(a.n - x))=e.ai+(a.n - x):=AD (by omega) (by omega);have d9:=S2 (mvP p a c e) (by rw [ecs];omega);rw [ho] at d9
 have d8:List.take (p.cs.length*7) (AH AP M)=(List.map (List.map V.d ∘ AP) M).flatten:=by
   rw [List.take_of_length_le (by rw [Aw EZ];omega)];simp [AH,List.map_flatten]
 have hn2:¬ c.he+c.ai < a.n:=by omega
 obtain ⟨mq,hmq⟩:∃ mq,mvP p a c e=mq:=⟨_,rfl⟩
 have mb:mq.bt=p.bt/\mq.ih=p.ih/\mq.ia=p.ia/\mq.vh=p.vh/\mq.va=p.va/\mq.lh=p.lh/\mq.la=p.la/\mq.ph=p.ph/\mq.pa=p.pa:=by rw [<-hmq];exact ⟨rfl,rfl,rfl,rfl,rfl,rfl,rfl,rfl,rfl⟩
 rw [hmq] at ecs d9;obtain ⟨z1,z2,z3,z4,z5,z6,z7,z8,z9⟩:=mb;refine CB func172 tp fun E hE=>?_
 simp [p172];refine CLa d1 ?_;simp;refine CLa d2 ?_;simp;refine CLa d3 ?_;simp [AA,inC,Nat.testBit,hk];refine CLa d4 ?_;simp [inC,Nat.testBit,hi,hI,hsl,s0,t0];refine CLa d5 ?_;simp [inC,Nat.testBit,hn2];refine CLa d4 ?_;simp;refine CRs d6 (by simp [n1,C6,BB]) ?_;simp [hj,hJ,hLl,hsl0,hsl1,s1,t1,t2,x1,x2,w5,w6,lf,inC,Nat.testBit];refine CLb (d9) (by first | (simp;done) | simp [CP,d8,ecs,hMl,z1,z2,z3,z4,z5,z6,z7,z8,z9]) ?_;simp [AA];apply RZ;simp [results172]
theorem y5 {p q:Plt} {cs ds:List Cel} (h:Cm prog 234 [Cy p (.ls 0 0 cs.length 7)] (lk [(0,AH AP cs)]) [0] (.ret (Cy q (.ls 0 0 cs.length 7))) (lk [(0,AH AP ds)])):Cm prog 234 [Cy p (.ls 3 0 cs.length 7)] (lk [(3,AH AP cs)]) [3] (.ret (Cy q (.ls 3 0 cs.length 7))) (lk [(3,AH AP ds)]):=by
 have:=Cm.rename (fun _=>3) 1 (by omega) h (by simp [BW]) (by simp [BW]) (by simp);simpa [Ea,HW,Px] using this
def tkc (p:Plt) (k:Nat):Plt:=if k=0 then p else tkQ p
theorem vB (p:Plt) (a:Act) (h:Ar p=true) (hk:a.k=7) (hn:a.n=1) (hne:p.cs≠[]) (d2:Ct prog 230 [Cy p (.d (AX p.cs)),BZ a] (vi 0) []):Ct prog 172 [Cy p (.d (AX p.cs)),BZ a] (.tup [Cy (tkQ p) (.ls 0 0 p.cs.length 7),vi 0]) [(0,AH AP (tkQ p).cs)]:=by
 have hl:=CS h;have hcs:=Dx h;have d1:=S2 p (by omega);have d3:=tR p (by omega);have d4:=sI 7;obtain ⟨_,_,_,_,v1,v2,_⟩:=K9 (K7 h);have d5:=y5 (vI p p.cs hl hne hcs v1 v2);have hq:(tkQ p).cs.length=p.cs.length:=by simp [tkQ]
 have d6:=S2 (tkQ p) (by omega);rw [Md h] at d6
 have d8:List.take (p.cs.length*7) (AH AP (tkQ p).cs)=(List.map (List.map V.d ∘ AP) (tkQ p).cs).flatten:=by
   rw [<-hq,List.take_of_length_le (by rw [Aw EZ];omega)];simp [AH,List.map_flatten]
 have n1:AH AP p.cs≠[]:=BG hne;have n2:AH AP (tkQ p).cs≠[]:=BG fun e=>by rw [e] at hq;exact hne (List.eq_nil_of_length_eq_zero hq.symm)
 have z1:IntKind.wrap .i64 1=1:=by decide
 have e1:p.cs.map tkC=(tkQ p).cs:=rfl;have e2:∀ c,plB (tkP p p.cs p.cs.length) c=plB (tkQ p) c:=fun c=>rfl
 have e3:∀ c,Cy (tkP p p.cs p.cs.length) c=Cy (tkQ p) c:=fun c=>rfl
 rw [e1,e3] at d5;rw [h] at d1;simp at d4;refine CB func172 tp fun E hE=>?_
 simp [p172];refine CLa d1 ?_;simp;refine CLa d2 ?_;simp;refine CLa d3 ?_;simp [AA,inC,Nat.testBit,hk];refine CLa d4 ?_;simp;refine CLa d4 ?_;simp;refine Al (α:=Nat) (fun k=>⟨AO [(2, .lp 0 0),(3, .lp 1 0),(4, .lp 2 0),(7, .lp 4 0),(9,vi k)],lk [(0,plB p (.d (AX p.cs))),(1,[vu8 7,vi a.c,vi a.t,vi a.n]),(2,plZ),(3,AH AP (tkc p k).cs),(4,plB (tkc p k) (.ls 3 0 p.cs.length 7))],5⟩) (fun k=>k<=1) (fun k=>1 - k) 0 ?_ ?_ ?_
 . omega
 . simp only [tkc,if_true]
   exact WK hE (lk [(0,0),(1,1048576),(2,2097152),(3,14680064),(4,15728640)])
 . intro k hk1
   match k,hk1 with
   | 1,_=>
     simp only [tkc,show ¬ (1:Nat)=0 by omega,if_false];simp [sT,hn];refine CLb (d6) (by first | (simp;done) | simp [CP,d8,hq]) ?_;simp [AA];refine AB.by (lk [(0,3)]) ?_;simp [results172]
   | n+2,h=>omega
   | 0,_=>
     simp only [tkc,if_true];simp [sT,hn];refine CRs d5 (by simp [n1,C6,BB]) ?_;simp [AA,z1];refine ⟨1,by omega,by omega,?_⟩;simp only [show ¬ (1:Nat)=0 by omega,if_false];exact WK hE (lk [(0,0),(1,1),(2,2),(3,3),(4,4)])
theorem vk (p:Plt) (hl:p.cs.length<=1000000):Ct prog 68 [Cy p (.d (AX p.cs))] (Cy p (.d (AX p.cs))) []:=by
 refine Cm.freeze (tR p hl) ?_;have hb:Df (lk [(0,AH AP p.cs)]) (.ls 0 0 p.cs.length 7) (.d (AX p.cs)):=B0 (H:=lk [(0,AH AP p.cs)]) (id:=0) EZ (l:=p.cs) (by simp);have z:∀ x:Int,FzC (lk [(0,AH AP p.cs)]) (vi x) (vi x):=fun x=>⟨_,rfl, .inl rfl⟩
 exact ⟨⟨_,rfl,hb⟩,z _,z _,z _,z _,z _,z _,z _,z _,z _,trivial⟩
theorem xB (p:Plt) (a:Act) (h:Ar p=true) (hk:a.k=7) (hn:a.n=1) (he:p.cs=[]) (d2:Ct prog 230 [Cy p (.d (AX p.cs)),BZ a] (vi 0) []):Ct prog 172 [Cy p (.d (AX p.cs)),BZ a] (.tup [Cy p (.d (AX p.cs)),vi 0]) []:=by
 have d1:=S2 p (by rw [he];simp);have d3:=vk p (by rw [he];simp);have d4:=sI 7;have d5:=wG p;have z1:IntKind.wrap .i64 1=1:=by decide
 rw [h] at d1;rw [he] at d1 d2 d3 ⊢;simp at d4;refine CB func172 tp fun E hE=>?_
 simp [p172];refine CLa d1 ?_;simp;refine CLa d2 ?_;simp;refine CLa d3 ?_;simp [AA,inC,Nat.testBit,hk];refine CLa d4 ?_;simp;refine CLa d4 ?_;simp;refine Al (α:=Nat) (fun k=>⟨AO [(2, .lp 0 0),(3, .lp 1 0),(4, .lp 2 0),(7, .lp 4 0),(9,vi k)],lk [(0,plB p (.d (AX []))),(1,[vu8 7,vi a.c,vi a.t,vi a.n]),(2,plZ),(4,plB p (.d (AX [])))],5⟩) (fun k=>k<=1) (fun k=>1 - k) 0 ?_ ?_ ?_
 . omega
 . exact WK hE (lk [(0,0),(1,1048576),(2,2097152),(4,15728640)])
 . intro k hk1
   match k,hk1 with
   | 1,_=>
     simp [sT,hn];refine CLa d1 ?_;simp [AA];apply RZ;simp [results172]
   | n+2,h=>omega
   | 0,_=>
     simp [sT,hn];refine CLa d5 ?_;simp [AA,z1];refine ⟨1,by omega,by omega,?_⟩;exact WK hE (lk [(0,0),(1,1),(2,2),(4,4)])
theorem tz {q:Plt} {n:Nat} {args:List V} (hn:q.cs.length=n) (h:Ct prog 172 args (.tup [Cy q (.ls 0 0 n 7),vi 0]) [(0,AH AP q.cs)]):Ct prog 172 args (doV (.ok q)) []:=by
 refine Cm.freeze h ?_;subst hn;have hb:Df (lk [(0,AH AP q.cs)]) (.ls 0 0 q.cs.length 7) (.d (AX q.cs)):=B0 (H:=lk [(0,AH AP q.cs)]) (id:=0) EZ (l:=q.cs) (by simp);have z:∀ x:Int,FzC (lk [(0,AH AP q.cs)]) (vi x) (vi x):=fun x=>⟨_,rfl, .inl rfl⟩
 exact ⟨⟨⟨_,rfl,hb⟩,z _,z _,z _,z _,z _,z _,z _,z _,z _,trivial⟩, .inl rfl,trivial⟩
theorem zH (p:Plt) (a:Act) (h:Ar p=true) (hk:a.k=3):Ct prog 172 [Cy p (.d (AX p.cs)),BZ a] (doV (doS p a)) []:=by
 have hl:=CS h;have hcs:=Dx h;have e:doS p a=vlS p a:=by simp [doS,h,hk]
 have d2:=xM p a (by omega) hk;rw [e];cases hx:inA p.cs.length a with
 | false=>
   have e2:vlS p a= .error 2:=by simp [vlS,hx]
   rw [hx] at d2;rw [e2];exact rZ p a 2 (by omega) h (by decide) d2
 | true=>
   obtain ⟨c,hc⟩:=Zm hx;have hi:=EQ.1 hx;rw [hx] at d2;by_cases hn:a.n<=c.he+c.ai
   . have ho:=y3 h hc (by omega) hn
     have e2:vlS p a= .ok (vlP p a c):=by simp [vlS,hx,hc,hn,Hm,ho]
     rw [e2];exact tz (by simp [vlP]) (vC p a c h hk hx d2 hc hn ho)
   . have e2:vlS p a= .error 6:=by simp [vlS,hx,hc,hn]
     rw [e2];exact vG p a c h hk hx d2 hc (by omega)
theorem zI (p:Plt) (a:Act) (h:Ar p=true) (hk:a.k=4):Ct prog 172 [Cy p (.d (AX p.cs)),BZ a] (doV (doS p a)) []:=by
 have hl:=CS h;have e:doS p a=mvS p a:=by simp [doS,h,hk]
 have d2:=xN p a (by omega) hk;rw [e];cases hx:inA p.cs.length a with
 | false=>
   have e2:mvS p a= .error 2:=by simp [mvS,hx]
   rw [hx] at d2;rw [e2];exact rZ p a 2 (by omega) h (by decide) d2
 | true=>
   cases ht:inT p.cs.length a with
   | false=>
     have e2:mvS p a= .error 2:=by simp [mvS,hx,ht]
     rw [hx,ht] at d2;rw [e2];exact rZ p a 2 (by omega) h (by decide) d2
   | true=>
     obtain ⟨c,hc⟩:=Zm hx;obtain ⟨g,hg⟩:=lE ht;rw [hx,ht] at d2;by_cases hn:a.n<=c.he+c.ai
     . cases ho:Ar (mvP p a c g) with
       | true=>
         have e2:mvS p a= .ok (mvP p a c g):=by simp [mvS,hx,ht,hc,hg,hn,Hm,ho]
         rw [e2];exact tz (by simp [mvP]) (vj p a c g h hk hx ht d2 hc hg hn ho)
       | false=>
         have e2:mvS p a= .error 9:=by simp [mvS,hx,ht,hc,hg,hn,Hm,ho]
         rw [e2];exact uj p a c g h hk hx ht d2 hc hg hn ho
     . have e2:mvS p a= .error 6:=by simp [mvS,hx,ht,hc,hg,hn]
       rw [e2];exact vH p a c h hk hx d2 hc (by omega)
theorem yY (p:Plt) (a:Act) (h:Ar p=true) (hk:a.k=3\/a.k=4):Ct prog 172 [Cy p (.d (AX p.cs)),BZ a] (doV (doS p a)) []:=by
 rcases hk with hk | hk
 . exact zH p a h hk
 . exact zI p a h hk
theorem tk_e {p:Plt} (he:p.cs=[]):tkQ p=p:=by
 unfold tkQ tkP tkH tkA;cases p;simp at he;simp [he]
theorem yZ (p:Plt) (h:Ar p=true):Ct prog 172 [Cy p (.d (AX p.cs)),BZ ⟨7,0,0,1⟩] (doV (.ok (tkQ p))) []:=by
 have hl:=CS h;have d2:=xL p ⟨7,0,0,1⟩ (by omega) rfl rfl;by_cases he:p.cs=[]
 . rw [tk_e he]
   exact xB p ⟨7,0,0,1⟩ h rfl rfl he d2
 . exact tz (by simp [tkQ]) (vB p ⟨7,0,0,1⟩ h rfl rfl he d2)
theorem o6 (p:Plt) (h:Ar p=true):Ct prog 128 [Cy p (.d (AX p.cs)),BZ ⟨7,0,0,1⟩] (doV (.ok (tkQ p))) []:=by
 have:=do_7 p ⟨7,0,0,1⟩ h rfl rfl;have e:doS p ⟨7,0,0,1⟩= .ok (tkQ p):=by simp [doS,h,Hm,Md h]
 rwa [e] at this
theorem xH (r:Except Int Shp):AV (InB []) AR (Oy r):=by
 cases r<;>simp [Oy]
abbrev shB (s:Shp):List V:=[vi s.xl,vi s.xh,vi s.yl,vi s.yh,vi s.hl,vi s.hh,vi s.fl,vi s.fh,vi s.wl,vi s.wh,vi s.bl,vi s.bh,vi s.dry,vi s.bal,vi s.drp, .d (AX s.gas.cs),vi s.gas.bt,vi s.gas.ih,vi s.gas.ia,vi s.gas.vh,vi s.gas.va,vi s.gas.lh,vi s.gas.la,vi s.gas.ph,vi s.gas.pa]
abbrev lgB (l:Leg):List V:=[vi l.m,vi l.axl,vi l.axh,vi l.ayl,vi l.ayh,vi l.ul,vi l.uh,vi l.bl,vi l.bh,vi l.dr, .d (JZ l.acts)]
theorem fn97 (s:Shp) (l:Leg) (hs:A6 s=true) (hl:BE l=true):Ct prog 97 [Cl s (.d (AX s.gas.cs)),Xf l] (Oy (Ep s l)) []:=by
 have q1:=Kz hl;have q2:=MF hs;have hp:=CR hs;have hpl:=CS hp;have d1:=vk s.gas (by omega);have w1:IntKind.wrap .i64 (s.drp+l.dr)=s.drp+l.dr:=AD (by omega) (by omega);have w2:IntKind.wrap .i64 (s.bal - l.dr)=s.bal - l.dr:=AD (by omega) (by omega);obtain ⟨R,hR⟩:∃ R,Ep s l=R:=⟨_,rfl⟩
 have hb:Ep s l=if (B7 s.gas l.acts 0).2.2=0 then
   (if s.bal < l.dr then .error 2 else if 1000000000000 < s.drp+l.dr then .error 9
     else .ok {s with gas:=(B7 s.gas l.acts 0).1,bal:=s.bal - l.dr,drp:=s.drp+l.dr})
   else .error (B7 s.gas l.acts 0).2.2:=rfl
 rw [hR] at hb ⊢;refine Ct.by gok eok mixed func97 c97 rfl (by simp [ntmps97]) (by simp) (by simp [FK];exact xH R) fun E hE=>?_
 simp [p97];refine CLa d1 ?_;simp [AA];refine Al (α:=Nat × Plt) (fun x=>⟨AO [(2, .lp 0 0),(3, .lp 1 0),(4, .lp 2 0),(6, .lp 3 0),(7,vi x.1)],lk [(0,shB s),(1,lgB l),(2,shZ),(3,plB x.2 (.d (AX x.2.cs)))],4⟩) (fun x=>x.1<=l.acts.length/\Ar x.2=true/\B7 x.2 (l.acts.drop x.1) x.1=B7 s.gas l.acts 0) (fun x=>l.acts.length - x.1) (0,s.gas) ?_ ?_ ?_
 . exact ⟨by simp,hp,by simp⟩
 . exact WK hE (lk [(0,0),(1,1048576),(2,2097152),(3,7340032)])
 . rintro ⟨i,q⟩ ⟨hi,hq,hr⟩
   simp only at hi hq hr;have w:IntKind.wrap .i64 ((i:Int)+1)=((i+1:Nat):Int):=by rw [AD (by omega) (by omega)];rfl
   by_cases hi2:i < l.acts.length
   . obtain ⟨a,ha⟩:=gE hi2
     have d3:=yY q a hq (q1.2.1 a (List.mem_of_getElem? ha))
     have e1:l.acts.drop i=a::l.acts.drop (i+1):=by
       rw [List.drop_eq_getElem_cons hi2];rw [List.getElem?_eq_getElem hi2] at ha;cases ha;rfl
     have hiI:(i:Int) < l.acts.length:=by omega
     rw [e1,B7] at hr;cases hd:doS q a with
     | ok q2=>
       rw [hd] at d3 hr;simp only [doV] at d3;have hq2:=Zn hd;simp [sk,hiI];refine AL [(11,15728644)] (by kernel_rfl) ?_;simp [ha,inC,Nat.testBit];refine CLa d3 ?_;simp [AA,w,inC,Nat.testBit];refine ⟨i+1,q2,⟨by omega,hq2,hr⟩,by omega,?_⟩;exact WK hE (lk [(0,0),(1,1),(2,2),(3,3)])
     | error e=>
       rw [hd] at d3 hr;simp only [doV] at d3;have he:=Tb hd;simp only at hr;rw [<-hr,if_neg he] at hb;simp [sk,hiI];refine AL [(11,15728644)] (by kernel_rfl) ?_;simp [ha,inC,Nat.testBit];refine CLa d3 ?_;simp [AA,he,inC,Nat.testBit];apply RZ;simp [results97,hb,Oy]
   . have e1:l.acts.drop i=[]:=List.drop_eq_nil_of_le (by omega)
     rw [e1,B7] at hr;rw [<-hr,if_pos rfl] at hb;have hiI:¬ (i:Int) < l.acts.length:=by omega
     by_cases h2:s.bal < l.dr
     . rw [if_pos h2] at hb
       simp [sk,AA,hiI,h2];apply RZ;simp [results97,hb,Oy]
     . rw [if_neg h2] at hb
       by_cases h3:1000000000000 < s.drp+l.dr
       . rw [if_pos h3] at hb
         simp [sk,AA,hiI,h2,w1,h3];apply RZ;simp [results97,hb,Oy]
       . rw [if_neg h3] at hb
         simp [sk,AA,hiI,h2,w1,w2,h3];apply RZ;simp [results97,hb,Oy]
theorem fn41 (s:Shp) (l:Leg) (h1:s.gas.cs.length<=1000000) (h2:l.acts.length<=1000000):Ct prog 41 [Cl s (.d (AX s.gas.cs)),Xf l] (Oy (rX s l)) []:=by
 have c1:=zG s h1;have c2:=ya l (by omega);cases hs:A6 s
 . have e:rX s l= .error 52:=by unfold rX;simp [hs]
   rw [hs] at c1;rw [e];simp only [Oy];refine CB func41 c41 fun E hE=>?_
   simp [p41];refine CLa c1 ?_;simp [AA];apply RZ;simp [results41]
 . rw [hs] at c1
   cases hg:BE l
   . have e:rX s l= .error 53:=by unfold rX;simp [hs,hg]
     rw [hg] at c2;rw [e];simp only [Oy];refine CB func41 c41 fun E hE=>?_
     simp [p41];refine CLa c1 ?_;simp;refine CLa c2 ?_;simp [AA];apply RZ;simp [results41]
   . have e:rX s l=Ep s l:=by unfold rX;simp [hs,hg]
     have c3:=fn97 s l hs hg;rw [hg] at c2;rw [e];cases hb:Ep s l with
     | ok t=>
       rw [hb] at c3;simp only [Oy] at c3 ⊢;refine CB func41 c41 fun E hE=>?_
       simp [p41];refine CLa c1 ?_;simp;refine CLa c2 ?_;simp;refine CLa c3 ?_;simp [AA];apply RZ;simp [results41]
     | error e=>
       rw [hb] at c3;simp only [Oy] at c3 ⊢;refine CB func41 c41 fun E hE=>?_
       simp [p41];refine CLa c1 ?_;simp;refine CLa c2 ?_;simp;refine CLa c3 ?_;simp [AA];apply RZ;simp [results41]
abbrev WX (a:Atm):List D:=[di a.pl,di a.ph,di a.tl,di a.th]
theorem qy (k:Sky) (r:Rig) (a b:Int):Ct prog 238 [.d (.ref [di a,di b]), .d (.ref [.ref (LI k r)])] (vb (decide (a < r.lo))) []:=by
 refine CB func238 c238 fun E hE=>?_
 simp [p238];apply RZ;simp [results238]
theorem qz (k:Sky) (r:Rig) (a b:Int):Ct prog 239 [.d (.ref [di a,di b]), .d (.ref [.ref (LI k r)])] (vb (decide (r.hi < b))) []:=by
 refine CB func239 c239 fun E hE=>?_
 simp [p239];apply RZ;simp [results239]
theorem ABU (k:Sky) (r:Rig) (s:Shp):Ct prog 243 [.d (.ref (Ca s)), .d (.ref [.ref (LI k r)])] (vb (decide (s.fl < r.rsv))) []:=by
 refine CB func243 c243 fun E hE=>?_
 simp [p243];apply RZ;simp [results243]
theorem q8 (s:Shp):Ct prog 246 [.d (.ref (Ca s))] (vb (!UC s)) []:=by
 have c:=Lo (-10000000) 10000000 [(s.xl,s.xh),(s.yl,s.yh)] (by simp);simp only [List.all_cons,List.all_nil,Bool.and_true] at c;unfold UC
 generalize (spB (-10000000) 10000000 s.xl s.xh&&spB (-10000000) 10000000 s.yl s.yh)=b at*
 refine CB func246 c246 fun E hE=>?_
 simp [p246,AA,AM];refine CLb (c) (by simp [AQ]) ?_;simp;apply RZ;simp [results246]
theorem q9 (c:Cel) (a:Atm) (hc:B5 c) (ha:Fx a):Ct prog 242 [Ky c, .d (.ref (WX a))] (vb (EK a c)) []:=by
 have c1:=fn81 c a hc ha;unfold EK
 generalize decide (Lh c a=1)=b at*
 refine CB func242 c242 fun E hE=>?_
 simp [p242];refine CLa c1 ?_;simp;apply RZ;simp [results242]
theorem rA (s:Shp) (a:Atm) (x:Int) (hs:∀ c∈s.gas.cs,B5 c) (hl:s.gas.cs.length<=1000000) (ha:Fx a):Cm prog 240 [.d (.ref (Ca s)), .d (.ref (WX a)), .lp 0 0] (lk [(0,[vi x])]) [0] (.ret (vb (decide (0<=ixF (EK a) s.gas.cs)))) (lk [(0,[vi (ixF (EK a) s.gas.cs)])]):=by
 have c1:=qg s.gas.cs 242 [.ref (WX a)] (EK a) (by omega) fun c hc=>q9 c a (hs c hc) ha
 generalize ixF (EK a) s.gas.cs=n at*
 refine CM 1 func240 AAA fun E hs hE=>?_
 simp [p240];refine CLa c1 ?_;simp [AA];refine AB.by (lk [(0,0)]) ?_;simp [results240]
theorem rC (hS:SortOk) (k:Sky) (r:Rig) (n s:Shp) (l:Leg) (a:Atm) (hr:r.reg.length<=1000000) (hl:Wn l) (hb:VU (KG s n)) (ha:Fx a):Ct prog 244 [.d (.ref (Ca n)), .d (.ref (Ca s)), .d (.ref (Pi l)), .d (.ref [.ref (LI k r)]), .d (.ref (WX a))] (vb (!Il r.reg (N1 l) (hvS (KG s n) a))) []:=by
 have c1:=fn55 l.axl l.axh l.ayl l.ayh ⟨hl.x,hl.y⟩;have c2:=fn70 (KG s n) a hb ha;have c3:=qh hS k r (N1 l) (hvS (KG s n) a) hr;have c1':Ct prog 55 [wd4 l.axl l.axh l.ayl l.ayh] (.tup [vsp (N1 l).1 (N1 l).2,vi 0]) []:=c1
 generalize N1 l=sp at*
 generalize hvS (KG s n) a=hv at*
 generalize Il r.reg sp hv=b at*
 unfold KG at c2;simp only at c2;refine CB func244 c244 fun E hE=>?_
 simp [p244,AA];refine AL [(23,2097152),(25,2097152)] (by kernel_rfl) ?_;simp [AA,inC,Nat.testBit];refine CLa c1' ?_;simp [AA,inC,Nat.testBit];refine CLb (c2) (by first | (simp;done) | simp [Bk,CP,inC,Nat.testBit]) ?_;simp;refine CLa c3 ?_;simp;apply RZ;simp [results244]
abbrev evV (k l m c:Int):V:= .agg [vi k,vi l,vi m,vi c]
def Jx (k:Sky) (r:Rig) (s:Shp) (l:Leg):V:=if (ER k r s l).1=0 then .tup [Cl (Cj k r s l) (.d (AX (Cj k r s l).gas.cs)),evV 0 0 0 0] else .tup [.agg shZ,evV (ER k r s l).1 0 0 (ER k r s l).2]
theorem fp (k:Sky) (r:Rig) (s:Shp) (l:Leg):AV (InB []) AR (Jx k r s l):=by
 unfold Jx;split<;>simp
theorem pZ (hS:SortOk) (k:Sky) (r:Rig) (s:Shp) (l:Leg) (h1:k.s.length<=1000000) (h2:k.w.length<=1000000) (h3:r.reg.length<=1000000) (hk:BV k=true) (hR:CF r=true) (hg:Ey k r=true) (hs:A6 s=true) (hl:BE l=true):Ct prog 173 [D2 k r,Cl s (.d (AX s.gas.cs)),Xf l] (Jx k r s l) []:=by
 have sB:=GT hs;have sX:=AAb hs;have lB:=Mf hl;have rB:=Hy hR;have hW:=mV hk;have b1:=sB.h;have b2:=sB.f;have b3:=sB.w;have b4:=sX.b;have b5:=sX.x;have b6:=sX.y;have l1:=lB.u;have l2:=lB.b;have l3:=lB.x;have l4:=lB.y;have g1:=rB.g;have g2:=rB.t;have o:=jd sB lB;have wb:=kQ hW o;have ge:=Me l2 g1;have p0:0<=l.bl*r.gl:=Int.mul_nonneg (by omega) (by omega);have p1:l.bh*r.gh<=1000000*120:=Int.mul_le_mul (by omega) (by omega) (by omega) (by omega);have p2:l.bl*r.gl<=l.bh*r.gh:=Int.mul_le_mul (by omega) (by omega) (by omega) (by omega);have eg:(Ja (l.bl,l.bh) (r.gl,r.gh) (100,100)).1=DY r l:=rfl
 have gb:(0<=(DY r l).1/\(DY r l).1<=1200000)/\0<=(DY r l).2/\(DY r l).2<=1200001:=by
   rw [<-eg,ge];simp only;omega
 have c1:=o6 s.gas (CR hs);have c2:=LH s.hl s.hh l.ul l.uh (by omega);have c3:=LH s.bl s.bh l.bl l.bh (by omega);have c4:=nv (l.bl,l.bh) (r.gl,r.gh) (100,100)
 have c4':Ct prog 236 [vsp l.bl l.bh,vsp r.gl r.gh,vsp 100 100] (.tup [vsp (DY r l).1 (DY r l).2,vi 0]) []:=by
   unfold vse at c4;rw [eg,ge] at c4;exact c4
 have c5:=LH s.wl s.wh (DY r l).1 (DY r l).2 (by omega);have eh:mhS s l=(min s.hl (s.hl+l.ul),max s.hh (s.hh+l.uh)):=rfl
 have ew:Lg k.w (mhS s l)=0:=by
   unfold Lg;have:Dr k.w=true:=by unfold BV at hk;simp only [Bool.and_eq_true] at hk;exact hk.2
   rw [this,CT.2 (by rw [eh] at o ⊢;simp only at o ⊢;omega)];rfl
 have c6:=AAP k.w (mhS s l) h2;rw [ew,show Nn k.w (mhS s l)=(Jr k.w (mhS s l),Js k.w (mhS s l)) by unfold Nn;rw [ew];rfl] at c6;have c11:=pC k.s (mhS s l).1 (mhS s l).2 h1;obtain ⟨wx,hwx⟩:∃ wx,Jr k.w (mhS s l)=wx:=⟨_,rfl⟩
 obtain ⟨wy,hwy⟩:∃ wy,Js k.w (mhS s l)=wy:=⟨_,rfl⟩
 rw [hwx,hwy] at c6 wb;have c7:=LH l.axl l.axh wx.1 wx.2 (by omega);have c7':=jM (l.axl+wx.1) (l.axh+wx.2) (by omega);have c8:=LH s.xl s.xh (6*(l.axl+wx.1)) (6*(l.axh+wx.2)) (by omega);have c9:=LH l.ayl l.ayh wy.1 wy.2 (by omega);have c9':=jM (l.ayl+wy.1) (l.ayh+wy.2) (by omega);have c10:=LH s.yl s.yh (6*(l.ayl+wy.1)) (6*(l.ayh+wy.2)) (by omega)
 have en:Cj k r s l={s with
   xl:=s.xl+6*(l.axl+wx.1),xh:=s.xh+6*(l.axh+wx.2),yl:=s.yl+6*(l.ayl+wy.1),yh:=s.yh+6*(l.ayh+wy.2)
   hl:=s.hl+l.ul,hh:=s.hh+l.uh,fl:=s.fl - l.bh,fh:=s.fh - l.bl
   wl:=min (s.wl+(DY r l).1) r.tank,wh:=min (s.wh+(DY r l).2) r.tank
   bl:=s.bl+l.bl,bh:=s.bh+l.bh,gas:=tkQ s.gas}:=by unfold Cj;rw [hwx,hwy]
 obtain ⟨H,hH⟩:∃ H,mhS s l=H:=⟨_,rfl⟩
 obtain ⟨A,hA⟩:∃ A,(atA k.s (mhS s l).1 (mhS s l).2).1=A:=⟨_,rfl⟩
 obtain ⟨AE,hAE⟩:∃ AE,(atA k.s (mhS s l).1 (mhS s l).2).2=AE:=⟨_,rfl⟩
 have c11':Ct prog 56 [.d (BF k.s),vsp H.1 H.2] (.tup [Ox A,vi AE]) []:=by
   rw [<-hA,<-hAE,<-hH];exact c11
 have m1:min s.hl (s.hl+l.ul)=H.1:=by rw [<-hH];rfl
 have m2:max s.hh (s.hh+l.uh)=H.2:=by rw [<-hH];rfl
 rw [hH] at c6;have w1:IntKind.wrap .i64 (s.fl - l.bh)=s.fl - l.bh:=AD (by omega) (by omega);have w2:IntKind.wrap .i64 (s.fh - l.bl)=s.fh - l.bl:=AD (by omega) (by omega)
 generalize DY r l=G at*
 obtain ⟨N,hN⟩:∃ N,Cj k r s l=N:=⟨_,rfl⟩
 rw [hN] at en;have n1:s.xl+6*(l.axl+wx.1)=N.xl/\s.xh+6*(l.axh+wx.2)=N.xh/\s.yl+6*(l.ayl+wy.1)=N.yl/\s.yh+6*(l.ayh+wy.2)=N.yh:=by rw [en];exact ⟨rfl,rfl,rfl,rfl⟩
 have n2:s.hl+l.ul=N.hl/\s.hh+l.uh=N.hh/\s.fl - l.bh=N.fl/\s.fh - l.bl=N.fh:=by rw [en];exact ⟨rfl,rfl,rfl,rfl⟩
 have n3:min (s.wl+G.1) r.tank=N.wl/\min (s.wh+G.2) r.tank=N.wh/\s.bl+l.bl=N.bl/\s.bh+l.bh=N.bh:=by rw [en];exact ⟨rfl,rfl,rfl,rfl⟩
 have n4:tkQ s.gas=N.gas/\s.dry=N.dry/\s.bal=N.bal/\s.drp=N.drp:=by rw [en];exact ⟨rfl,rfl,rfl,rfl⟩
 clear en;obtain ⟨x1,x2,x3,x4⟩:=n1;obtain ⟨x5,x6,x7,x8⟩:=n2;obtain ⟨x9,x10,x11,x12⟩:=n3;obtain ⟨x13,x14,x15,x16⟩:=n4;obtain ⟨CX,hCX⟩:∃ CX,ixF (EK A) N.gas.cs=CX:=⟨_,rfl⟩
 obtain ⟨TR,hTR⟩:∃ TR,Il r.reg (N1 l) (hvS (KG s N) A)=TR:=⟨_,rfl⟩
 obtain ⟨FB,hFB⟩:∃ FB,UC N=FB:=⟨_,rfl⟩
 have hev:ER k r s l=if H.1 < r.lo then (1,0) else if r.hi < H.2 then (2,0) else if 0<=CX then (3,CX) else if N.fl < r.rsv then (4,0) else if TR=false then (5,0) else if FB=false then (6,0) else (0,0):=by
   unfold ER;rw [hA,hH,hN,x13,hCX,hTR,hFB,x7]
 have hcel:∀ c∈N.gas.cs,B5 c:=by rw [<-x13];exact Dx (Md (CR hs))
 have hcl:N.gas.cs.length<=12:=by rw [<-x13];exact CS (Md (CR hs))
 have hair:¬ H.1 < r.lo->¬ r.hi < H.2->Fx A:=fun q1 q2=>by
   rw [<-hA];rw [hH] at o ⊢;exact aU (jc hk hg (by omega) o (by omega))
 have d1:=qy k r H.1 H.2;have d2:=qz k r H.1 H.2;have d4:=ABU k r N;have d6:=q8 N;rw [hFB] at d6
 have d3:¬ H.1 < r.lo->¬ r.hi < H.2->Cm prog 240 [.d (.ref (Ca N)), .d (.ref (WX A)), .lp 8 0] (lk [(8,[vi 0])]) [8] (.ret (vb (decide (0<=CX)))) (lk [(8,[vi CX])]):=fun q1 q2=>by
   have:=Cm.rename (fun _=>8) 1 (by omega) (rA N A 0 hcel (by omega) (hair q1 q2)) (by simp [BW]) (by simp [BW]) (by simp);rw [hCX] at this;simpa [Ea,HW] using this
 have d5:¬ H.1 < r.lo->¬ r.hi < H.2->¬ N.fl < r.rsv->Ct prog 244 [.d (.ref (Ca N)), .d (.ref (Ca s)), .d (.ref (Pi l)), .d (.ref [.ref (LI k r)]), .d (.ref (WX A))] (vb (!TR)) []:=fun q1 q2 q3=>by
   have v1:=rB.v;have v2:=rB.h
   have hbb:VU (KG s N):=by
     unfold KG;refine ⟨by simp only;omega,by simp only;omega,by simp only;omega,?_,?_,hcl,hcel⟩
     . simp only;rw [<-x14];exact sB.d
     . simp only;rw [<-x15];exact sB.b
   have:=rC hS k r N s l A h3 lB hbb (hair q1 q2);rw [hTR] at this;exact this
 simp only [doV] at c1;obtain ⟨RV,hRV⟩:∃ RV,Jx k r s l=RV:=⟨_,rfl⟩
 have hav:AV (InB []) AR RV:=by rw [<-hRV];exact fp k r s l
 rw [hRV];refine Ct.by gok eok mixed func173 zt rfl (by simp [ntmps173]) (by simp) (by simp [FK];exact hav) fun E hE=>?_
 simp [p173,AA];refine CLa c1 ?_;simp [AA];refine CLa c2 ?_;simp [AA,m1,m2,inC,Nat.testBit,w1,w2];refine CLa c3 ?_;simp [AA];refine AL [(13,80740352)] (by kernel_rfl) ?_;simp [AA,inC,Nat.testBit];refine CLa c4' ?_;simp [AA,inC,Nat.testBit];refine CLa c5 ?_;simp [AA];refine AL [(20,6291456),(23,6291456)] (by kernel_rfl) ?_;simp [AA,inC,Nat.testBit];refine AL [(11,125829120)] (by kernel_rfl) ?_;simp [inC,Nat.testBit];refine CLa c6 ?_;simp [AA,inC,Nat.testBit];refine CLa c7 ?_;simp [inC,Nat.testBit];refine CLa c7' ?_;simp [inC,Nat.testBit];refine CLa c8 ?_;simp [inC,Nat.testBit];refine CLa c9 ?_;simp [inC,Nat.testBit];refine CLa c9' ?_;simp [inC,Nat.testBit];refine CLa c10 ?_;simp [AA];refine AL [(11,164626432)] (by kernel_rfl) ?_;simp [inC,Nat.testBit];refine CLa c11' ?_;simp [AA,AM,inC,Nat.testBit];refine Al (α:=Nat) (fun j=>⟨AO [(3, .lp 0 0),(4, .lp 1 0),(5, .lp 2 0),(6, .lp 3 0),(7, .lp 4 0),(8, .lp 5 0),(9, .lp 6 0),(14, .lp 7 0),(16, .lp 8 0),(164, .ls 9 0 6 2),(165,vi 6),(166,vi j)],lk [(0,[D2 k r]),(1,shB s),(2,lgB l),(3,shZ),(4,[vi 0,vi 0,vi 0,vi 0]),(5,shB N),(6,[vi H.1,vi H.2]),(7,[vi A.pl,vi A.ph,vi A.tl,vi A.th]),(8,[vi (if j<=2 then 0 else CX)]),(9,[vi 1, .cl 238 [.lp 6 0, .lp 0 0],vi 2, .cl 239 [.lp 6 0, .lp 0 0],vi 3, .cl 240 [.lp 5 0, .lp 7 0, .lp 8 0],vi 4, .cl 243 [.lp 5 0, .lp 0 0],vi 5, .cl 244 [.lp 5 0, .lp 1 0, .lp 2 0, .lp 0 0, .lp 7 0],vi 6, .cl 246 [.lp 5 0]])],10⟩) (fun j=>j<=6/\(0 < j->¬ H.1 < r.lo)/\(1 < j->¬ r.hi < H.2)/\(2 < j->¬ 0<=CX)/\(3 < j->¬ N.fl < r.rsv)/\(4 < j->TR=true)/\(5 < j->FB=true)) (fun j=>6 - j) 0 ?_ ?_ ?_
 . omega
 . refine AI.mk hE (lk [(0,0),(1,1048576),(2,2097152),(3,3145728),(4,4194304),(5,6291456),(6,40894464),(7,164626432),(8,167772160),(9,181403648)]) _ _ _ ?_ ?_ ?_ ?_ ?_<;>simp [x1,x2,x3,x4,x5,x6,x7,x8,x9,x10,x11,x12,x13,x14,x15,x16]
 . rintro j ⟨hj,q1,q2,q3,q4,q5,q6⟩
   match j,hj,q1,q2,q3,q4,q5,q6 with
   | 0,_,q1,q2,q3,q4,q5,q6=>
     have z:IntKind.wrap .i64 1=1:=by decide
     by_cases t:H.1 < r.lo
     . have e:ER k r s l=(1,0):=by rw [hev,if_pos t]
       simp [Cs,AA];refine CLa d1 ?_;simp [t];refine AL [(6,3)] (by kernel_rfl) ?_;simp [AA,inC,Nat.testBit];apply RZ;simp [results173,<-hRV,Jx,e]
     . simp [Cs,AA]
       refine CLa d1 ?_;simp [t,z];refine ⟨1,⟨by omega,fun _=>by omega,fun h=>absurd h (by omega),fun h=>absurd h (by omega),fun h=>absurd h (by omega),fun h=>absurd h (by omega),fun h=>absurd h (by omega)⟩,by omega,?_⟩;exact WK hE (lk [(0,0),(1,1),(2,2),(3,3),(4,4),(5,5),(6,6),(7,7),(8,8),(9,9)])
   | 1,_,q1,q2,q3,q4,q5,q6=>
     have q1:=q1 (by omega);have z:IntKind.wrap .i64 2=2:=by decide
     by_cases t:r.hi < H.2
     . have e:ER k r s l=(2,0):=by rw [hev,if_neg q1,if_pos t]
       simp [Cs,AA];refine CLa d2 ?_;simp [t];refine AL [(6,3)] (by kernel_rfl) ?_;simp [AA,inC,Nat.testBit];apply RZ;simp [results173,<-hRV,Jx,e]
     . simp [Cs,AA]
       refine CLa d2 ?_;simp [t,z];refine ⟨2,⟨by omega,fun _=>by omega,fun _=>by omega,fun h=>absurd h (by omega),fun h=>absurd h (by omega),fun h=>absurd h (by omega),fun h=>absurd h (by omega)⟩,by omega,?_⟩;exact WK hE (lk [(0,0),(1,1),(2,2),(3,3),(4,4),(5,5),(6,6),(7,7),(8,8),(9,9)])
   | 2,_,q1,q2,q3,q4,q5,q6=>
     have q1:=q1 (by omega);have q2:=q2 (by omega);have z:IntKind.wrap .i64 3=3:=by decide
     by_cases t:0<=CX
     . have e:ER k r s l=(3,CX):=by rw [hev,if_neg q1,if_neg q2,if_pos t]
       simp [Cs,AA];refine CRs (d3 q1 q2) (by simp) ?_;simp [t];refine AL [(6,3)] (by kernel_rfl) ?_;simp [AA,inC,Nat.testBit];apply RZ;simp [results173,<-hRV,Jx,e,Int.max_eq_left t]
     . simp [Cs,AA]
       refine CRs (d3 q1 q2) (by simp) ?_;simp [t,z];refine ⟨3,⟨by omega,fun _=>by omega,fun _=>by omega,fun _=>by omega,fun h=>absurd h (by omega),fun h=>absurd h (by omega),fun h=>absurd h (by omega)⟩,by omega,?_⟩;exact WK hE (lk [(0,0),(1,1),(2,2),(3,3),(4,4),(5,5),(6,6),(7,7),(8,8),(9,9)])
   | 3,_,q1,q2,q3,q4,q5,q6=>
     have q1:=q1 (by omega);have q2:=q2 (by omega);have q3:=q3 (by omega);have z:IntKind.wrap .i64 4=4:=by decide
     have mx:max CX 0=0:=by omega
     by_cases t:N.fl < r.rsv
     . have e:ER k r s l=(4,0):=by rw [hev,if_neg q1,if_neg q2,if_neg q3,if_pos t]
       simp [Cs,AA];refine CLa d4 ?_;simp [t];refine AL [(6,3)] (by kernel_rfl) ?_;simp [AA,inC,Nat.testBit];apply RZ;simp [results173,<-hRV,Jx,e,mx]
     . simp [Cs,AA]
       refine CLa d4 ?_;simp [t,z];refine ⟨4,⟨by omega,fun _=>by omega,fun _=>by omega,fun _=>by omega,fun _=>by omega,fun h=>absurd h (by omega),fun h=>absurd h (by omega)⟩,by omega,?_⟩;exact WK hE (lk [(0,0),(1,1),(2,2),(3,3),(4,4),(5,5),(6,6),(7,7),(8,8),(9,9)])
   | 4,_,q1,q2,q3,q4,q5,q6=>
     have q1:=q1 (by omega);have q2:=q2 (by omega);have q3:=q3 (by omega);have q4:=q4 (by omega);have z:IntKind.wrap .i64 5=5:=by decide
     have mx:max CX 0=0:=by omega
     by_cases t:TR=false
     . have e:ER k r s l=(5,0):=by rw [hev,if_neg q1,if_neg q2,if_neg q3,if_neg q4,if_pos t]
       simp [Cs,AA];refine CLa (d5 q1 q2 q4) ?_;simp [t];refine AL [(6,3)] (by kernel_rfl) ?_;simp [AA,inC,Nat.testBit];apply RZ;simp [results173,<-hRV,Jx,e,mx]
     . simp [Cs,AA]
       refine CLa (d5 q1 q2 q4) ?_;simp [t,z];refine ⟨5,⟨by omega,fun _=>by omega,fun _=>by omega,fun _=>by omega,fun _=>by omega,fun h=>absurd h (by omega)⟩,by omega,?_⟩;exact WK hE (lk [(0,0),(1,1),(2,2),(3,3),(4,4),(5,5),(6,6),(7,7),(8,8),(9,9)])
   | 5,_,q1,q2,q3,q4,q5,q6=>
     have q1:=q1 (by omega);have q2:=q2 (by omega);have q3:=q3 (by omega);have q4:=q4 (by omega);have q5:=q5 (by omega);have z:IntKind.wrap .i64 6=6:=by decide
     have mx:max CX 0=0:=by omega
     by_cases t:FB=false
     . have e:ER k r s l=(6,0):=by rw [hev,if_neg q1,if_neg q2,if_neg q3,if_neg q4,if_neg (by rw [q5];simp),if_pos t]
       simp [Cs,AA];refine CLa d6 ?_;simp [t];refine AL [(6,3)] (by kernel_rfl) ?_;simp [AA,inC,Nat.testBit];apply RZ;simp [results173,<-hRV,Jx,e,mx]
     . simp [Cs,AA]
       refine CLa d6 ?_;simp [t,z];refine ⟨6,⟨by omega,fun _=>by omega,fun _=>by omega,fun _=>by omega,fun _=>by omega,fun _=>q5⟩,by omega,?_⟩;exact WK hE (lk [(0,0),(1,1),(2,2),(3,3),(4,4),(5,5),(6,6),(7,7),(8,8),(9,9)])
   | 6,_,q1,q2,q3,q4,q5,q6=>
     have q1:=q1 (by omega);have q2:=q2 (by omega);have q3:=q3 (by omega);have q4:=q4 (by omega);have q5:=q5 (by omega);have q6:=q6 (by omega);have e:ER k r s l=(0,0):=by rw [hev,if_neg q1,if_neg q2,if_neg q3,if_neg q4,if_neg (by rw [q5];simp),if_neg (by rw [q6];simp)]
     simp [Cs,AA];apply RZ;simp [results173,<-hRV,Jx,e,hN]
   | j+7,hj,_,_,_,_,_,_=>omega
def RB (a:Except (Int × Int × Int) Shp):V:=match a with
 | .ok n=> .tup [Cl n (.d (AX n.gas.cs)),evV 0 0 0 0,vi 0]
 | .error e=> .tup [.agg shZ,evV e.2.1 0 0 e.2.2,vi e.1]
theorem fn99 (hS:SortOk) (k:Sky) (r:Rig) (s:Shp) (l:Leg) (h1:k.s.length<=1000000) (h2:k.w.length<=1000000) (h3:r.reg.length<=1000000) (hk:BV k=true) (hR:CF r=true) (hg:Ey k r=true) (hs:A6 s=true) (hl:BE l=true):Ct prog 99 [D2 k r,Cl s (.d (AX s.gas.cs)),Xf l] (RB (HK k r s l)) []:=by
 have c1:=pZ hS k r s l h1 h2 h3 hk hR hg hs hl;unfold Jx at c1;unfold HK;by_cases hz:(ER k r s l).1=0
 . rw [if_pos hz] at c1 ⊢
   have ebh:s.bh+l.bh=(Cj k r s l).bh:=rfl;rw [ebh]
   generalize Cj k r s l=N at*
   by_cases hf:1000000000000 < N.bh
   . rw [if_pos hf]
     simp only [RB];refine CB func99 c99 fun E hE=>?_
     simp [p99];refine CLa c1 ?_;simp [AA,hf];refine AL [(2,2097152)] (by kernel_rfl) ?_;simp [AA,inC,Nat.testBit];apply RZ;simp [results99]
   . rw [if_neg hf]
     simp only [RB];refine CB func99 c99 fun E hE=>?_
     simp [p99];refine CLa c1 ?_;simp [AA,hf];refine AL [(2,2097152)] (by kernel_rfl) ?_;simp [AA,inC,Nat.testBit];apply RZ;simp [results99]
 . rw [if_neg hz] at c1 ⊢
   simp only [RB]
   generalize ER k r s l=e at*
   refine CB func99 c99 fun E hE=>?_
   simp [p99];refine CLa c1 ?_;simp [AA,hz];refine AL [(2,2097152)] (by kernel_rfl) ?_;simp [AA,inC,Nat.testBit];apply RZ;simp [results99]
theorem kp (hS:SortOk) (k:Sky) (r:Rig) (h1:k.s.length<=1000000) (h2:k.w.length<=1000000) (h3:r.reg.length<=1000000) (hk:BV k=true) (hr:CF r=true) (hg:Ey k r=true):Cm prog 98 [Eu k,Fj r, .ls 0 0 2 1] (lk [(0,[vi 0,vi 0])]) [] (.ret (.tup [.lp 0 0,vi 0])) (lk [(0,(LI k r).map .d)]):=by
 have c1:=yy k h1 h2;have c2:=mH hS r (by omega);have c3:=SJ 0 0 0 0;rw [hk] at c1;rw [hr] at c2;have hl:=(Sr hk).len;obtain ⟨x,hx⟩:∃ x,k.s[0]?= some x:=⟨_,List.getElem?_eq_getElem (by omega)⟩
 obtain ⟨y,hy⟩:∃ y,k.s[k.s.length - 1]?= some y:=⟨_,List.getElem?_eq_getElem (by omega)⟩
 have c4:=Pw x.h y.h [r.lo,r.hi] (by simp);rw [XL (Hy hr) hx hy,hg] at c4;have w1:IntKind.wrap .i64 ((k.s.length:Int) - 1)=((k.s.length - 1:Nat):Int):=by rw [AD (by omega) (by omega)];omega
 have hI0:(0:Int) < k.s.length:=by omega
 obtain ⟨j,hj⟩:∃ j,k.s.length - 1=j:=⟨_,rfl⟩
 rw [hj] at w1 hy;have hI1:(j:Int) < k.s.length:=by omega
 refine CM 1 func98 c98 fun E hs hE=>?_
 simp [p98,inC,Nat.testBit];refine CLa c1 ?_;simp [inC,Nat.testBit];refine CLa c2 ?_;simp [AA,AM];refine CLb (c3) (by simp [tM]) ?_;simp [AA,AM,inC,Nat.testBit,hx,hy,w1];refine CLb (c4) (by simp [Ap]) ?_;simp [AA];refine AB.by (lk [(0,40894465)]) ?_;simp [results98]
theorem fd (ID:Nat) (hS:SortOk) (k:Sky) (r:Rig) (h1:k.s.length<=1000000) (h2:k.w.length<=1000000) (h3:r.reg.length<=1000000) (hk:BV k=true) (hr:CF r=true) (hg:Ey k r=true):Cm prog 98 [Eu k,Fj r, .ls ID 0 2 1] (lk [(ID,[vi 0,vi 0])]) [] (.ret (.tup [D2 k r,vi 0])) (lk []):=by
 have h:=Cm.freeze (r':= .tup [D2 k r,vi 0]) (kp hS k r h1 h2 h3 hk hr hg) (by
   refine ⟨?_, .inl rfl,trivial⟩;exact ⟨_,rfl,by simp⟩)
 have h0:Cm prog 98 [Eu k,Fj r, .ls 0 0 2 1] (lk [(0,[vi 0,vi 0])]) [] (.ret (.tup [D2 k r,vi 0])) (lk []):=h;have:=Cm.rename (fun _=>ID) 1 (by omega) h0 (by simp [BW]) (by simp [BW]) (by simp);simpa [Ea,HW] using this
theorem fn42 (hS:SortOk) (k:Sky) (r:Rig) (s:Shp) (l:Leg) (h1:k.s.length<=1000000) (h2:k.w.length<=1000000) (h3:r.reg.length<=1000000) (h4:s.gas.cs.length<=1000000) (h5:l.acts.length<=1000000):Ct prog 42 [Eu k,Fj r,Cl s (.d (AX s.gas.cs)),Xf l] (RB (cC k r s l)) []:=by
 have c1:=qF s (by omega);have c2:=xg l (by omega);obtain ⟨a,ha⟩:∃ a:Int,(if A6 s then 0 else 52)=a:=⟨_,rfl⟩
 obtain ⟨b,hb⟩:∃ b:Int,(if BE l then 0 else 53)=b:=⟨_,rfl⟩
 rw [ha] at c1;rw [hb] at c2;unfold cC;rw [hb];by_cases hz:JC k r s b=0
 . rw [if_pos hz]
   unfold JC at hz
   have hk:BV k=true:=by
     cases h:BV k
     . rw [h] at hz;simp at hz
     . rfl
   rw [hk,if_pos rfl] at hz
   have hR:CF r=true:=by
     cases h:CF r
     . rw [h] at hz;simp at hz
     . rfl
   rw [hR,if_pos rfl] at hz
   have hs:A6 s=true:=by
     cases h:A6 s
     . rw [h] at hz;simp at hz
     . rfl
   rw [hs,if_pos rfl] at hz
   have hb0:b=0:=by
     by_cases h:b=0
     . exact h
     . rw [if_neg h] at hz;exact absurd hz h
   rw [if_pos hb0] at hz
   have hg:Ey k r=true:=by
     cases h:Ey k r
     . rw [h] at hz;simp at hz
     . rfl
   have hl:BE l=true:=by
     cases h:BE l
     . rw [h] at hb;simp at hb;omega
     . rfl
   have ha0:a=0:=by rw [<-ha,hs];rfl
   subst ha0 hb0;have c3:=fd 13631488 hS k r h1 h2 h3 hk hR hg;have c4:=fn99 hS k r s l h1 h2 h3 hk hR hg hs hl;cases hm:HK k r s l with
   | ok n=>
     rw [hm] at c4;simp only [RB] at c4 ⊢;refine CB func42 c42 fun E hE=>?_
     simp [p42];refine AL [(7,13631488)] (by kernel_rfl) ?_;simp [inC,Nat.testBit];refine CLa c1 ?_;simp [inC,Nat.testBit];refine CLa c2 ?_;simp [AA,AM,inC,Nat.testBit];refine CDs c3 (by simp [wrL,inC,Nat.testBit]) ?_;simp;refine CLa c4 ?_;simp [AA];apply RZ;simp [results42]
   | error e=>
     rw [hm] at c4;simp only [RB] at c4 ⊢;refine CB func42 c42 fun E hE=>?_
     simp [p42];refine AL [(7,13631488)] (by kernel_rfl) ?_;simp [inC,Nat.testBit];refine CLa c1 ?_;simp [inC,Nat.testBit];refine CLa c2 ?_;simp [AA,AM,inC,Nat.testBit];refine CDs c3 (by simp [wrL,inC,Nat.testBit]) ?_;simp;refine CLa c4 ?_;simp [AA];apply RZ;simp [results42]
 . rw [if_neg hz]
   simp only [RB]
   have key:(¬ QG k r a b=0/\QG k r a b=JC k r s b)\/(BV k=true/\CF r=true/\a=0/\b=0/\Ey k r=false/\JC k r s b=2):=by
     unfold QG JC at*;unfold e0 e1;cases h1:BV k
     . left;simp
     . cases h2:CF r
       . left;simp
       . cases h3:A6 s
         . rw [h3] at ha;simp at ha;subst ha;left;simp
         . rw [h3] at ha;simp at ha;subst ha
           by_cases hb0:b=0
           . cases h4:Ey k r
             . right;simp [hb0]
             . rw [h1,h2,h3,h4,hb0] at hz;simp at hz
           . left;simp [hb0]
   rcases key with ⟨k1,k2⟩ | ⟨k1,k2,k3,k4,k5,k6⟩
   . have c3:=XK hS k r a b h1 h2 h3 k1
     rw [<-k2]
     generalize QG k r a b=e at*
     refine CB func42 c42 fun E hE=>?_
     simp [p42];refine AL [] (by kernel_rfl) ?_;simp [inC,Nat.testBit];refine CLa c1 ?_;simp [inC,Nat.testBit];refine CLa c2 ?_;simp [AA,AM,inC,Nat.testBit];refine CLb (c3) (by simp [Ap,Hcl,inC,Nat.testBit]) ?_;simp [AA,k1];apply RZ;simp [results42]
   . subst k3 k4
     have c3:=XM hS k r h1 h2 h3 k1 k2 k5;rw [k6];refine CB func42 c42 fun E hE=>?_
     simp [p42];refine AL [] (by kernel_rfl) ?_;simp [inC,Nat.testBit];refine CLa c1 ?_;simp [inC,Nat.testBit];refine CLa c2 ?_;simp [AA,AM,inC,Nat.testBit];refine CLb (c3) (by simp [Ap,Hcl,inC,Nat.testBit]) ?_;simp [AA];apply RZ;simp [results42]
end Go.Proofs.Tryz
