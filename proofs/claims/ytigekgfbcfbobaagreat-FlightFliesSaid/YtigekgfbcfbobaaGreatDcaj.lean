/- Own lemmas, used by the last text. Conditions: those that each theorem states. -/
import Derived.Test.YtigekgfbcfbobaaGreatDcaf
import Derived.Test.YtigekgfbcfbobaaGreatDcah
import Derived.Test.YtigekgfbcfbobaaGreatDcai
set_option maxRecDepth 200000
set_option maxHeartbeats 8000000
namespace Go.Proofs.Tryz
open Go.Psl
theorem bg {u v D:Int} (hD:0 < D) (hu:u < D) (hv:v < 4294967296):(u*4294967296+v) / D < 4294967296:=by
 rw [Int.ediv_lt_iff_lt_mul hD];have:u*4294967296+4294967296<=4294967296*D:=by omega
 omega
theorem LJ (s:Nat):(1:Int)<=2 ^ s:=by
 have:0 < 2 ^ s:=Nat.pow_pos (by omega)
 exact_mod_cast this
theorem WF (s t n:Nat) (h:s+t=n):(2:Int) ^ s*2 ^ t=2 ^ n:=by rw [<-h,Int.pow_add]
theorem bj (lo y:Int) (hlo:0<=lo/\lo<=18446744073709551615) (hy:1<=y/\y<=18446744073709551615):Ct prog 307 [vu 0,vu lo,vu y] (.tup [vu (lo / y),vu (lo % y)]) []:=by
 refine CB func307 qf fun E hE=>?_
 have h1:(y == 0)=false:=by simp;omega
 have h2:decide (y<=0)=false:=by simp;omega
 have h3:¬ y=0:=by omega
 have h5:¬ y<=0:=by omega
 have q0:0<=lo / y:=Int.ediv_nonneg hlo.1 (by omega);have q1:lo / y<=lo:=Int.ediv_le_self _ hlo.1;have e1:lo.tdiv y=lo / y:=Int.tdiv_eq_ediv_of_nonneg hlo.1;have e2:lo.tmod y=lo % y:=Int.tmod_eq_emod_of_nonneg hlo.1;have e3:IntKind.wrap .u64 (lo / y)=lo / y:=Ay q0 (by omega);simp [p307,h3,h5,e1,e2,e3];apply RZ;simp [results307]
theorem jO (hi lo y:Int) (hhi:1<=hi/\hi < y) (hlo:0<=lo/\lo<=18446744073709551615) (hy:y<=18446744073709551615):Ct prog 307 [vu hi,vu lo,vu y] (.tup [vu ((hi*18446744073709551616+lo) / y),vu ((hi*18446744073709551616+lo) % y)]) []:=by
 refine CB func307 qf fun E hE=>?_
 have h3:¬ y=0:=by omega
 have h5:¬ y<=hi:=by omega
 have h6:¬ hi=0:=by omega
 simp [p307,h3,h5,h6];refine CLa (ox y (by omega)) ?_;obtain ⟨b1,b2,b3⟩:=II y (by omega);obtain ⟨b4,b5⟩:=Oh y (by omega) hy;obtain ⟨S,hS,hS2⟩:∃ S:Nat,64 - Bp y=S/\S<=63:=⟨(64 - Bp y).toNat,by omega,by omega⟩
 obtain ⟨T,hT⟩:∃ T:Nat,S+T=64:=⟨64 - S,by omega⟩
 have p1:(2:Int) ^ S*2 ^ T=18446744073709551616:=by rw [WF S T 64 hT];rfl
 have p2:=LJ S;have p3:=LJ T;have w1:IntKind.wrap .u64 (S:Int)=S:=Ay (by omega) (by omega);have w2:IntKind.wrap .u64 (64 - (S:Int))=T:=by rw [Ay (by omega) (by omega)];omega
 have eL:(Bp y).toNat=T:=by omega
 have eL1:(2:Int) ^ (Bp y - 1).toNat*2=2 ^ T:=by
   obtain ⟨T',rfl⟩:∃ T',T=T'+1:=⟨T - 1,by omega⟩
   rw [show (Bp y - 1).toNat=T' by omega,Int.pow_succ]
 rw [eL] at b2;have d1:y*2 ^ S < 18446744073709551616:=by rw [<-p1,Int.mul_comm];exact Int.mul_lt_mul_of_pos_left b2 (by omega)
 have d2:9223372036854775808<=y*2 ^ S:=by
   have:2 ^ T*2 ^ S<=y*2*2 ^ S:=Int.mul_le_mul_of_nonneg_right (by omega) (by omega);rw [Int.mul_comm (2 ^ T),p1] at this;have e:y*2*2 ^ S=2*(y*2 ^ S):=by rw [Int.mul_comm y 2,Int.mul_assoc]
   omega
 have d3:hi*2 ^ S+2 ^ S<=y*2 ^ S:=by
   have:(hi+1)*2 ^ S<=y*2 ^ S:=Int.mul_le_mul_of_nonneg_right (by omega) (by omega);rw [Int.add_mul,Int.one_mul] at this;exact this
 have d4:0<=hi*2 ^ S:=Int.mul_nonneg (by omega) (by omega)
 obtain ⟨lh,ll,hl,l1,l2,l3,l4⟩:∃ lh ll:Int,lo=lh*2 ^ T+ll/\0<=lh/\lh < 2 ^ S/\0<=ll/\ll < 2 ^ T:=by
   refine ⟨lo / 2 ^ T,lo % 2 ^ T,by rw [Int.mul_comm];exact (Int.mul_ediv_add_emod lo (2 ^ T)).symm,Int.ediv_nonneg hlo.1 (by omega),?_,Int.emod_nonneg _ (by omega),Int.emod_lt_of_pos _ (by omega)⟩;rw [Int.ediv_lt_iff_lt_mul (by omega),p1];omega
 have l5:lo / 2 ^ T=lh:=by
   rw [hl,Int.add_comm,Int.add_mul_ediv_right _ _ (by omega),Int.ediv_eq_zero_of_lt l3 l4];omega
 have l6:lo*2 ^ S=lh*18446744073709551616+ll*2 ^ S:=by
   rw [hl,Int.add_mul,Int.mul_assoc,Int.mul_comm (2 ^ T),p1]
 have l7:ll*2 ^ S+2 ^ S<=18446744073709551616:=by
   have:(ll+1)*2 ^ S<=2 ^ T*2 ^ S:=Int.mul_le_mul_of_nonneg_right (by omega) (by omega);rw [Int.add_mul,Int.one_mul,Int.mul_comm (2 ^ T),p1] at this;exact this
 have l8:0<=ll*2 ^ S:=Int.mul_nonneg l3 (by omega)
 have hU:(hi*18446744073709551616+lo)*2 ^ S=(hi*2 ^ S+lh)*18446744073709551616+ll*2 ^ S:=by
   rw [Int.add_mul,l6,Int.add_mul,Int.mul_right_comm];omega
 have hor:bits .or .u64 (hi*2 ^ S) lh=hi*2 ^ S+lh:=kl S (by omega) l1 l2 (by omega);have v1:IntKind.wrap .u64 (y*2 ^ S)=y*2 ^ S:=Ay (by omega) (by omega);have v2:IntKind.wrap .u64 (hi*2 ^ S)=hi*2 ^ S:=Ay (by omega) (by omega);have v3:IntKind.wrap .u64 (lo*2 ^ S)=ll*2 ^ S:=by rw [Bl,l6];omega
 have c1:(0:Int)<=S/\(S:Int)<=64:=by omega
 have c2:(0:Int)<=T/\(T:Int)<=64:=by omega
 have hN:∀ q r,(hi*18446744073709551616+lo)*2 ^ S=q*(y*2 ^ S)+r->0<=r->r < y*2 ^ S->q=(hi*18446744073709551616+lo) / y/\r / 2 ^ S=(hi*18446744073709551616+lo) % y:=fun q r h1 h2 h3=>by
   generalize hi*18446744073709551616+lo=N at*
   have hq:q=N / y:=by
     have e:N*2 ^ S / (y*2 ^ S)=N / y:=Int.mul_ediv_mul_of_pos_left _ _ (by omega);rw [<-e,h1,Int.add_comm,Int.add_mul_ediv_right _ _ (by omega),Int.ediv_eq_zero_of_lt h2 h3];omega
   refine ⟨hq,?_⟩;have e2:N*2 ^ S=(q*y)*2 ^ S+r:=by rw [h1,Int.mul_assoc]
   have e3:r=(N - q*y)*2 ^ S:=by rw [Int.sub_mul];omega
   rw [e3,Int.mul_ediv_cancel _ (by omega),hq,Int.emod_def,Int.mul_comm]
 simp [hS,w1,w2,c1.1,c1.2,c2.1,c2.2,v1,v2,v3,l5,hor]
 generalize y*2 ^ S=D at*
 generalize hu:hi*2 ^ S+lh=u at*
 generalize ll*2 ^ S=w at*
 have m1:bits .and .u64 D 4294967295=D % 4294967296:=GA (by omega) (by omega);have m2:bits .and .u64 w 4294967295=w % 4294967296:=GA (by omega) (by omega);obtain ⟨y1,y0,hy1,hy0⟩:∃ y1 y0:Int,D / 4294967296=y1/\D % 4294967296=y0:=⟨_,_,rfl,rfl⟩
 obtain ⟨w1',w0,hw1,hw0⟩:∃ w1 w0:Int,w / 4294967296=w1/\w % 4294967296=w0:=⟨_,_,rfl,rfl⟩
 have hDe:D=y1*4294967296+y0:=by omega
 have hy1n:¬ y1=0:=by omega
 have hu0:0<=u:=by omega
 have huD:u < D:=by omega
 have td:∀ a:Int,0<=a->a.tdiv y1=a / y1:=fun a ha=>Int.tdiv_eq_ediv_of_nonneg ha
 have dv:∀ a:Int,0<=a->0<=a / y1/\a / y1<=a/\a / y1*y1+a % y1=a/\0<=a % y1/\a % y1 < y1:=fun a ha=>⟨Int.ediv_nonneg ha (by omega),Int.ediv_le_self _ ha,by rw [Int.mul_comm];exact Int.mul_ediv_add_emod a y1,Int.emod_nonneg _ hy1n,Int.emod_lt_of_pos _ (by omega)⟩
 have dq:∀ a v:Int,0<=a->0<=v->v < 4294967296->(a*4294967296+v) / D<=a / y1:=fun a v ha hv hv'=>by
   obtain ⟨z1,z2,z3,z4,z5⟩:=dv a ha
   have hlt:(a*4294967296+v) / D < a / y1+1:=by
     rw [Int.ediv_lt_iff_lt_mul (by omega),hDe]
     have e:(a / y1+1)*(y1*4294967296+y0)=(a / y1*y1)*4294967296+y1*4294967296+(a / y1+1)*y0:=by
       rw [Int.add_mul,Int.one_mul,Int.mul_add,<-Int.mul_assoc,Int.add_mul,Int.one_mul];omega
     have:0<=(a / y1+1)*y0:=Int.mul_nonneg (by omega) (by omega);omega
   omega
 obtain ⟨z1,z2,z3,z4,z5⟩:=dv u hu0;have k1:IntKind.wrap .u64 (u / y1)=u / y1:=Ay z1 (by omega);have k2:IntKind.wrap .u64 (u / y1*y1)=u / y1*y1:=Ay (Int.mul_nonneg z1 (by omega)) (by omega);have k3:IntKind.wrap .u64 (u - u / y1*y1)=u - u / y1*y1:=Ay (by omega) (by omega);simp [m1,m2,hy1,hy0,hw1,hw0,hy1n,td u hu0,k1,k2,k3]
 have loopy:∀ a v:Int,0<=a->a < D->0<=v->v < 4294967296->∃ Q:Int,Q=(a*4294967296+v) / D/\0<=Q/\Q < 4294967296/\Q*D<=a*4294967296+v/\a*4294967296+v < Q*D+D/\Q<=a / y1/\
     (∀ q r,Q<=q->q*y1+r=a->4294967296<=q\/4294967296*r+v < q*y0->Q<=q - 1)/\(∀ q r,Q<=q->q*y1+r=a->q*y0<=4294967296*r+v->q=Q)/\(∀ q r,0<=q->q*y1+r=a->4294967296<=r->q*y0<=4294967296*r+v):=fun a v ha haD hv hv'=>by
   refine ⟨_,rfl,Int.ediv_nonneg (by omega) (by omega),bg (by omega) haD hv',Int.ediv_mul_le _ (by omega),?_,dq a v ha hv hv',fun q r h1 h2 h3=>?_,fun q r h1 h2 h3=>?_,fun q r h1 h2 h3=>?_⟩
   . have:=Int.lt_ediv_add_one_mul_self (a*4294967296+v) (show 0 < D by omega)
     rw [Int.add_mul,Int.one_mul] at this;exact this
   . rw [hDe] at h1 ⊢
     exact Q8 (by omega) (by omega) (by omega) (by omega) ha (by omega) hv hv' h1 h2 h3
   . rw [hDe] at h1 ⊢
     exact Q9 (by omega) (by omega) (by omega) h1 h2 h3
   . exact O0 (by omega) (by omega) (by omega) h1 (by omega:a < y1*4294967296+y0) hv h2 h3
 obtain ⟨Q1,_,a1,a2,a3,a4,a5,st1,dn1,br1⟩:=loopy u w1' hu0 huD (by omega) (by omega)
 refine BL (α:=Int × Int) 0 (fun _:Unit=>⟨AO [(2,vu D),(8,vu S),(9,vu y1),(10,vu y0),(11,vu u),(13,vu w1'),(14,vu w0),(15,vu Q1)],lk [],0⟩) (fun _=>True) (fun x=>⟨AO [(2,vu D),(8,vu S),(9,vu y1),(10,vu y0),(11,vu u),(13,vu w1'),(14,vu w0),(15,vu x.1),(16,vu x.2)],lk [],0⟩)
   (fun x=>Q1<=x.1/\x.1*y1+x.2=u/\0<=x.2/\x.2 < 4294967296/\x.1<=u) (fun x=>x.1.toNat) (u / y1,u - u / y1*y1) ?_ ?_ ?_ fun _ _=>?_
 . exact ⟨a5,by simp only;omega,by simp only;omega,by simp only;omega,z2⟩
 . exact WK hE (fun _=>none)
 . rintro ⟨q,r⟩ ⟨i1,i2,i3,i4,i5⟩
   simp only at i1 i2 i3 i4 i5;have step:=st1 q r i1 i2;have g1:IntKind.wrap .u64 (r+y1)=r+y1:=Ay (by omega) (by omega);have g2:(q - 1)*y1+(r+y1)=u:=by rw [Int.sub_mul];omega
   have go:Q1<=q - 1->IntKind.wrap .u64 (q - 1)=q - 1:=fun h=>Ay (by omega) (by omega)
   by_cases hc1:4294967296<=q
   . have h1:=step (.inl hc1)
     by_cases hb:4294967296<=r+y1
     . have:=dn1 _ _ h1 g2 (br1 _ _ (by omega) g2 hb)
       simp [JL,hc1,go h1,g1,hb];refine AI.mk hE (fun _=>none) _ _ _ ?_ ?_ ?_ ?_ ?_<;>simp [this]
     . simp [JL,hc1,go h1,g1,hb]
       refine ⟨q - 1,r+y1,⟨h1,g2,by omega,by omega,by omega⟩,by omega,?_⟩;exact WK hE (fun _=>none)
   . have n1:0<=q*y0:=Int.mul_nonneg (by omega) (by omega)
     have n2:q*y0<=4294967295*4294967295:=DE (by omega) (by omega) (by omega) (by omega);have j1:IntKind.wrap .u64 (q*y0)=q*y0:=Ay n1 (by omega);have j2:IntKind.wrap .u64 (4294967296*r)=4294967296*r:=Ay (by omega) (by omega);have j3:IntKind.wrap .u64 (4294967296*r+w1')=4294967296*r+w1':=Ay (by omega) (by omega);by_cases hc2:4294967296*r+w1' < q*y0
     . have h1:=step (.inr hc2)
       by_cases hb:4294967296<=r+y1
       . have:=dn1 _ _ h1 g2 (br1 _ _ (by omega) g2 hb)
         simp [JL,hc1,hc2,j1,j2,j3,go h1,g1,hb];refine AI.mk hE (fun _=>none) _ _ _ ?_ ?_ ?_ ?_ ?_<;>simp [this]
       . simp [JL,hc1,hc2,j1,j2,j3,go h1,g1,hb]
         refine ⟨q - 1,r+y1,⟨h1,g2,by omega,by omega,by omega⟩,by omega,?_⟩;exact WK hE (fun _=>none)
     . have:=dn1 _ _ i1 i2 (by omega)
       simp [JL,hc1,hc2,j1,j2,j3];refine AI.mk hE (fun _=>none) _ _ _ ?_ ?_ ?_ ?_ ?_<;>simp [this]
 obtain ⟨R,hR⟩:∃ R:Int,R=u*4294967296+w1' - Q1*D:=⟨_,rfl⟩
 have k4:IntKind.wrap .u64 (IntKind.wrap .u64 (IntKind.wrap .u64 (u*4294967296)+w1') - IntKind.wrap .u64 (Q1*D))=R:=by
   rw [Bl,Bl,Bl,Bl];omega
 have hR0:0<=R/\R < D:=by omega
 obtain ⟨x1,x2,x3,x4,x5⟩:=dv R hR0.1;have k5:IntKind.wrap .u64 (R / y1)=R / y1:=Ay x1 (by omega);have k6:IntKind.wrap .u64 (R / y1*y1)=R / y1*y1:=Ay (Int.mul_nonneg x1 (by omega)) (by omega);have k7:IntKind.wrap .u64 (R - R / y1*y1)=R - R / y1*y1:=Ay (by omega) (by omega);simp [k4,hy1n,td R hR0.1,k5,k6,k7];obtain ⟨Q0,_,c1,c2,c3,c4,c5,st0,dn0,br0⟩:=loopy R w0 hR0.1 hR0.2 (by omega) (by omega)
 refine BL (α:=Int × Int) 2 (fun _:Unit=>⟨AO [(2,vu D),(8,vu S),(14,vu w0),(15,vu Q1),(17,vu R),(18,vu Q0)],lk [],0⟩) (fun _=>True) (fun x=>⟨AO [(2,vu D),(8,vu S),(9,vu y1),(10,vu y0),(14,vu w0),(15,vu Q1),(17,vu R),(18,vu x.1),(16,vu x.2)],lk [],0⟩)
   (fun x=>Q0<=x.1/\x.1*y1+x.2=R/\0<=x.2/\x.2 < 4294967296/\x.1<=R) (fun x=>x.1.toNat) (R / y1,R - R / y1*y1) ?_ ?_ ?_ fun _ _=>?_
 . exact ⟨c5,by simp only;omega,by simp only;omega,by simp only;omega,x2⟩
 . exact WK hE (fun _=>none)
 . rintro ⟨q,r⟩ ⟨i1,i2,i3,i4,i5⟩
   simp only at i1 i2 i3 i4 i5;have step:=st0 q r i1 i2;have g1:IntKind.wrap .u64 (r+y1)=r+y1:=Ay (by omega) (by omega);have g2:(q - 1)*y1+(r+y1)=R:=by rw [Int.sub_mul];omega
   have go:Q0<=q - 1->IntKind.wrap .u64 (q - 1)=q - 1:=fun h=>Ay (by omega) (by omega)
   by_cases hc1:4294967296<=q
   . have h1:=step (.inl hc1)
     by_cases hb:4294967296<=r+y1
     . have:=dn0 _ _ h1 g2 (br0 _ _ (by omega) g2 hb)
       simp [JM,hc1,go h1,g1,hb];refine AI.mk hE (fun _=>none) _ _ _ ?_ ?_ ?_ ?_ ?_<;>simp [this]
     . simp [JM,hc1,go h1,g1,hb]
       refine ⟨q - 1,r+y1,⟨h1,g2,by omega,by omega,by omega⟩,by omega,?_⟩;exact WK hE (fun _=>none)
   . have n1:0<=q*y0:=Int.mul_nonneg (by omega) (by omega)
     have n2:q*y0<=4294967295*4294967295:=DE (by omega) (by omega) (by omega) (by omega);have j1:IntKind.wrap .u64 (q*y0)=q*y0:=Ay n1 (by omega);have j2:IntKind.wrap .u64 (4294967296*r)=4294967296*r:=Ay (by omega) (by omega);have j3:IntKind.wrap .u64 (4294967296*r+w0)=4294967296*r+w0:=Ay (by omega) (by omega);by_cases hc2:4294967296*r+w0 < q*y0
     . have h1:=step (.inr hc2)
       by_cases hb:4294967296<=r+y1
       . have:=dn0 _ _ h1 g2 (br0 _ _ (by omega) g2 hb)
         simp [JM,hc1,hc2,j1,j2,j3,go h1,g1,hb];refine AI.mk hE (fun _=>none) _ _ _ ?_ ?_ ?_ ?_ ?_<;>simp [this]
       . simp [JM,hc1,hc2,j1,j2,j3,go h1,g1,hb]
         refine ⟨q - 1,r+y1,⟨h1,g2,by omega,by omega,by omega⟩,by omega,?_⟩;exact WK hE (fun _=>none)
     . have:=dn0 _ _ i1 i2 (by omega)
       simp [JM,hc1,hc2,j1,j2,j3];refine AI.mk hE (fun _=>none) _ _ _ ?_ ?_ ?_ ?_ ?_<;>simp [this]
 obtain ⟨R0,hR0'⟩:∃ R0:Int,R0=R*4294967296+w0 - Q0*D:=⟨_,rfl⟩
 have k8:IntKind.wrap .u64 (IntKind.wrap .u64 (IntKind.wrap .u64 (R*4294967296)+w0) - IntKind.wrap .u64 (Q0*D))=R0:=by
   rw [Bl,Bl,Bl,Bl];omega
 have k9:IntKind.wrap .u64 (Q1*4294967296)=Q1*4294967296:=Ay (by omega) (by omega);have k10:IntKind.wrap .u64 (Q1*4294967296+Q0)=Q1*4294967296+Q0:=Ay (by omega) (by omega);have e5:(Q1*4294967296+Q0)*D=(Q1*D)*4294967296+Q0*D:=by rw [Int.add_mul,Int.mul_right_comm]
 obtain ⟨n1,n2⟩:=hN (Q1*4294967296+Q0) R0 (by rw [hU,e5];omega) (by omega) (by omega);simp [k8,k9,k10,show (0:Int)<=S by omega,show (S:Int)<=64 by omega];apply RZ;simp [results307,n1,n2]
def Da (P z:Int):Int × Int:=if P / z < 2199023255552 then (P / z,P % z) else (2199023255552,0)
def upS (q:Int × Int):Int:=if 0 < q.2 then q.1+1 else q.1
def Eg (x y z:Int):Int × Int:=
 let q:=Da (max x (-x)*max y (-y)) z
 if decide (x < 0) != decide (y < 0) then (-(upS q), -q.1) else (q.1,upS q)
theorem Nm {P z:Int} (hP:0<=P) (hz:1<=z):0<=(Da P z).1/\(Da P z).1<=2199023255552:=by
 have:=Int.ediv_nonneg hP (show 0<=z by omega);unfold Da;split<;>simp<;>omega
theorem mN {x y:Int} (hx: -1099511627776<=x/\x<=1099511627776) (hy: -1099511627776<=y/\y<=1099511627776):0<=max x (-x)*max y (-y)/\max x (-x)*max y (-y)<=1208925819614629174706176:=by
 refine ⟨Int.mul_nonneg (by omega) (by omega),?_⟩;have:=DE (a:=max x (-x)) (b:=max y (-y)) (c:=1099511627776) (d:=1099511627776) (by omega) (by omega) (by omega) (by omega);omega
theorem qv (x y z:Int) (hx: -1099511627776<=x/\x<=1099511627776) (hy: -1099511627776<=y/\y<=1099511627776) (hz:1<=z/\z<=1099511627776):Ct prog 276 [vi x,vi y,vi z] (vsp (Eg x y z).1 (Eg x y z).2) []:=by
 refine CB func276 c276 fun E hE=>?_
 simp [p276];refine CLa (iv x (by omega)) ?_;simp;refine CLa (iv y (by omega)) ?_;simp;refine AU.mk _ _ _ (nr (max x (-x)) (max y (-y)) (by omega) (by omega)) (by first | (simp;done) | simp [Bk,CP]) (by simp) (by first | (left;simp;done) | (right;simp;done)) ?_;obtain ⟨P0,P1⟩:=mN hx hy
 generalize hP:max x (-x)*max y (-y)=P at*
 have wz:IntKind.wrap .u64 z=z:=Ay (by omega) (by omega);have hmod:0<=P % 18446744073709551616/\P % 18446744073709551616<=18446744073709551615:=by omega
 have hP2:P / 18446744073709551616*18446744073709551616+P % 18446744073709551616=P:=by omega
 obtain ⟨b0,b1⟩:=Nm P0 hz.1;have b2:0<=P / z:=Int.ediv_nonneg P0 (by omega);have w1:IntKind.wrap .i64 (Da P z).1=(Da P z).1:=AD (by omega) (by omega);have w2:IntKind.wrap .i64 ((Da P z).1+1)=(Da P z).1+1:=AD (by omega) (by omega);have w3:IntKind.wrap .i64 (-((Da P z).1+1))= -((Da P z).1+1):=AD (by omega) (by omega);have w4:IntKind.wrap .i64 (-(Da P z).1)= -(Da P z).1:=AD (by omega) (by omega);by_cases hh:P / 18446744073709551616 < z
 . by_cases hq:P / z < 2199023255552
   . have eS:Da P z=(P / z,P % z):=if_pos hq
     have r0:0<=P % z:=Int.emod_nonneg _ (by omega);rw [eS] at w1 w2 w3 w4;simp only at w1 w2 w3 w4;by_cases h0:P / 18446744073709551616=0
     . have e0:P % 18446744073709551616=P:=by omega
       simp [wz,h0,e0,show (0:Int) < z by omega];refine CLa (bj P z (by omega) (by omega)) ?_;by_cases hr:0 < P % z<;>by_cases hsx:x < 0<;>by_cases hsy:y < 0<;>simp [hq,hr,hsx,hsy,w1,w2,w3,w4,AA]
       all_goals
         apply RZ;simp [results276,Eg,hP,eS,upS,hr,hsx,hsy]
     . simp [wz,hh]
       refine CLa (jO (P / 18446744073709551616) (P % 18446744073709551616) z (by omega) hmod (by omega)) ?_;rw [hP2];by_cases hr:0 < P % z<;>by_cases hsx:x < 0<;>by_cases hsy:y < 0<;>simp [hq,hr,hsx,hsy,w1,w2,w3,w4,AA]
       all_goals
         apply RZ;simp [results276,Eg,hP,eS,upS,hr,hsx,hsy]
   . have eS:Da P z=(2199023255552,0):=if_neg hq
     by_cases h0:P / 18446744073709551616=0
     . have e0:P % 18446744073709551616=P:=by omega
       simp [wz,h0,e0,show (0:Int) < z by omega];refine CLa (bj P z (by omega) (by omega)) ?_;by_cases hsx:x < 0<;>by_cases hsy:y < 0<;>simp [hq,hsx,hsy,AA,AD]
       all_goals
         apply RZ;simp [results276,Eg,hP,eS,upS,hsx,hsy]
     . simp [wz,hh]
       refine CLa (jO (P / 18446744073709551616) (P % 18446744073709551616) z (by omega) hmod (by omega)) ?_;rw [hP2];by_cases hsx:x < 0<;>by_cases hsy:y < 0<;>simp [hq,hsx,hsy,AA,AD]
       all_goals
         apply RZ;simp [results276,Eg,hP,eS,upS,hsx,hsy]
 . have hq:¬ P / z < 2199023255552:=by
     have:2199023255552<=P / z:=by
       rw [Int.le_ediv_iff_mul_le (by omega)];omega
     omega
   have eS:Da P z=(2199023255552,0):=if_neg hq;by_cases hsx:x < 0<;>by_cases hsy:y < 0<;>simp [wz,hh,hsx,hsy,AA,AD]
   all_goals
     apply RZ;simp [results276,Eg,hP,eS,upS,hsx,hsy]
def HO (a b c:Int × Int) (k:Nat):Int × Int:=Eg (if k % 2=1 then a.2 else a.1) (if k / 2 % 2=1 then b.2 else b.1) (if k / 4=1 then c.2 else c.1)
def Lx (a b c:Int × Int):List (Int × Int):=[HO a b c 1,HO a b c 2,HO a b c 3,HO a b c 4,HO a b c 5,HO a b c 6,HO a b c 7]
def Ja (a b c:Int × Int):(Int × Int) × Int:=
 if okS a&&okS b&&okS c then (if c.1 < 1 then ((0,0),12) else JH (Bu (HO a b c 0) (Lx a b c))) else ((0,0),10)
def EU (a b c:Int × Int) (i k:Nat):List V:=if k < i then [vi (HO a b c k).1,vi (HO a b c k).2] else [vi 0,vi 0]
def Dq (a b c:Int × Int) (i:Nat):List V:=EU a b c i 0++EU a b c i 1++EU a b c i 2++EU a b c i 3++EU a b c i 4++EU a b c i 5++EU a b c i 6++EU a b c i 7
theorem UM (a b c:Int × Int) (i:Nat):(Dq a b c i).length=16:=by
 have h:∀ k,(EU a b c i k).length=2:=fun k=>by unfold EU;split<;>rfl
 simp [Dq,h]
theorem CH {a b c:Int × Int} (ha:okS a=true) (hb:okS b=true) (hc:okS c=true) (h1:¬ c.1 < 1) (k:Nat):Ct prog 276 [vi (if k % 2=1 then a.2 else a.1),vi (if k / 2 % 2=1 then b.2 else b.1),vi (if k / 4=1 then c.2 else c.1)] (vsp (HO a b c k).1 (HO a b c k).2) []:=by
 rw [CT] at ha hb hc;refine qv _ _ _ ?_ ?_ ?_<;>split<;>omega
theorem nv (a b c:Int × Int):Ct prog 236 [vsp a.1 a.2,vsp b.1 b.2,vsp c.1 c.2] (vse (Ja a b c)) []:=by
 refine CB func236 c236 fun E hE=>?_
 simp [p236,AM,AA];refine CLb (YZ [a,b,c] (by simp)) (by first | (simp;done) | simp [Bk]) ?_;by_cases h:(okS a&&okS b&&okS c)=true
 . have hf:Co [a,b,c]=true:=by simpa [Co,Bool.and_assoc] using h
   have h':=h;simp only [Bool.and_eq_true] at h';obtain ⟨⟨ha,hb⟩,hc⟩:=h';by_cases h1:c.1 < 1
   . simp [hf,h1,AA]
     apply RZ;simp [results236,Ja,h,h1]
   . simp [hf,h1]
     refine BL (α:=Nat) 1 (fun _:Unit=>⟨AO [(6, .lp 0 0),(8, .lp 1 0)],lk [(0,[vi 0,vi 0]),(1,Dq a b c 8)],2⟩) (fun _=>True) (fun i=>⟨AO [(3, .lp 2 0),(4, .lp 3 0),(5, .lp 4 0),(6, .lp 0 0),(8, .lp 1 0),(26,vi i)],lk [(0,[vi 0,vi 0]),(1,Dq a b c i),(2,[vi a.1,vi a.2]),(3,[vi b.1,vi b.2]),(4,[vi c.1,vi c.2])],5⟩) (fun i=>i<=8) (fun i=>8 - i) 0 ?_ ?_ ?_ fun _ _=>?_
     . simp
     . refine AI.mk hE (lk [(0,3145728),(1,16777216),(2,0),(3,1048576),(4,2097152)]) _ _ _ ?_ ?_ ?_ ?_ ?_<;>simp [Dq,EU]
     . intro i hi
       simp [bS];by_cases hlt:i < 8
       . have hlt':(i:Int) < 8:=by omega
         have hz:IntKind.wrap .i64 ((i:Int)+1)=(i:Int)+1:=AD (by omega) (by omega);simp [hlt'];refine PG [(18,15),(19,16)] (by kernel_rfl) ?_;have e0:bits .and .i64 0 1=0:=by decide
         have e1:bits .and .i64 1 1=1:=by decide
         have e2:bits .and .i64 2 1=0:=by decide
         have e3:bits .and .i64 3 1=1:=by decide
         have e4:bits .and .i64 4 1=0:=by decide
         have e5:bits .and .i64 5 1=1:=by decide
         have e6:bits .and .i64 6 1=0:=by decide
         have e7:bits .and .i64 7 1=1:=by decide
         simp [inC,Nat.testBit,AA];have s0:=CH ha hb hc h1 0;have s1:=CH ha hb hc h1 1;have s2:=CH ha hb hc h1 2;have s3:=CH ha hb hc h1 3;have s4:=CH ha hb hc h1 4;have s5:=CH ha hb hc h1 5;have s6:=CH ha hb hc h1 6;have s7:=CH ha hb hc h1 7;simp at s0 s1 s2 s3 s4 s5 s6 s7;have hi8:i=0\/i=1\/i=2\/i=3\/i=4\/i=5\/i=6\/i=7:=by omega
         rcases hi8 with rfl | rfl | rfl | rfl | rfl | rfl | rfl | rfl
         . simp [e0]
           refine CLa s0 ?_;simp [Dq,EU,AA,AD];refine ⟨1,by omega,by omega,?_⟩;exact WK hE (lk [(0,0),(1,1),(2,2),(3,3),(4,4)])
         . simp [e0,e1]
           refine CLa s1 ?_;simp [Dq,EU,AA,AD];refine ⟨2,by omega,by omega,?_⟩;exact WK hE (lk [(0,0),(1,1),(2,2),(3,3),(4,4)])
         . simp [e1,e2]
           refine CLa s2 ?_;simp [Dq,EU,AA,AD];refine ⟨3,by omega,by omega,?_⟩;exact WK hE (lk [(0,0),(1,1),(2,2),(3,3),(4,4)])
         . simp [e1,e3]
           refine CLa s3 ?_;simp [Dq,EU,AA,AD];refine ⟨4,by omega,by omega,?_⟩;exact WK hE (lk [(0,0),(1,1),(2,2),(3,3),(4,4)])
         . simp [e2,e4]
           refine CLa s4 ?_;simp [Dq,EU,AA,AD];refine ⟨5,by omega,by omega,?_⟩;exact WK hE (lk [(0,0),(1,1),(2,2),(3,3),(4,4)])
         . simp [e2,e5]
           refine CLa s5 ?_;simp [Dq,EU,AA,AD];refine ⟨6,by omega,by omega,?_⟩;exact WK hE (lk [(0,0),(1,1),(2,2),(3,3),(4,4)])
         . simp [e3,e6]
           refine CLa s6 ?_;simp [Dq,EU,AA,AD];refine ⟨7,by omega,by omega,?_⟩;exact WK hE (lk [(0,0),(1,1),(2,2),(3,3),(4,4)])
         . simp [e3,e7]
           refine CLa s7 ?_;simp [Dq,EU,AA,AD];refine ⟨8,by omega,by omega,?_⟩;exact WK hE (lk [(0,0),(1,1),(2,2),(3,3),(4,4)])
       . have:i=8:=by omega
         subst this;simp;refine AI.mk hE (lk [(0,0),(1,1)]) _ _ _ ?_ ?_ ?_ ?_ ?_<;>simp [Dq,EU]
     . simp [UM]
       refine CLb (Wj (HO a b c 0) (Lx a b c) (by simp [Lx])) (by first | (simp;done) | simp [Bk,Lx,Dq,EU]) ?_;simp;refine AU.mk _ _ _ (pp (Bu (HO a b c 0) (Lx a b c))) (by first | (simp;done) | simp [Bk,CP]) (by simp) (by first | (left;simp;done) | (right;simp;done)) ?_;simp [AA];apply RZ;simp [results236,Ja,h,h1]
 . have hf:Co [a,b,c]=false:=by simpa [Co,Bool.and_assoc] using h
   simp [hf,AA];apply RZ;simp [results236,Ja,h]
def sqG (n:Int):Nat->Int->Int
 | 0,r=>r
 | k+1,r=>sqG n k (if (r+2 ^ k)*(r+2 ^ k)<=n then r+2 ^ k else r)
def DL (n:Int):Int:=sqG n 21 0
def LA (n r:Int):Prop:=0<=r/\r*r<=n/\n < (r+1)*(r+1)
theorem NW (n:Int):∀ (k:Nat) (r:Int),0<=r->r*r<=n->n < (r+2 ^ k)*(r+2 ^ k)->LA n (sqG n k r)
 | 0,r,h0,h1,h2=>⟨h0,h1,by simp only [sqG];simpa using h2⟩
 | k+1,r,h0,h1,h2=>by
   have hp:(1:Int)<=2 ^ k:=LJ k;have e:(2:Int) ^ (k+1)=2 ^ k+2 ^ k:=by rw [Int.pow_succ];omega
   simp only [sqG];split
   . rename_i h
     exact NW n k _ (by omega) h (by rw [e,<-Int.add_assoc] at h2;exact h2)
   . rename_i h
     exact NW n k _ h0 h1 (by omega)
theorem PN {n r s:Int} (h1:LA n r) (h2:LA n s):r=s:=by
 obtain ⟨a1,a2,a3⟩:=h1;obtain ⟨b1,b2,b3⟩:=h2
 have key:∀ p q:Int,0<=p->0<=q->p*p<=n->n < (q+1)*(q+1)->p<=q:=fun p q hp hq h h'=>by
   refine Int.not_lt.1 fun hlt=>?_
   have:(q+1)*(q+1)<=p*p:=DE (by omega) (by omega) (by omega) (by omega);omega
 have:=key r s a1 b1 a2 b3;have:=key s r b1 a1 b2 a3;omega
theorem PP (n:Int) (h:0<=n/\n<=1099511627776):LA n (DL n):=NW n 21 0 (by omega) (by omega) (by simp;omega)
theorem V9 {n r:Int} (h:LA n r) (hn:n<=1099511627776):r<=1048576:=by
 refine Int.not_lt.1 fun hlt=>?_
 have:(1048577:Int)*1048577<=r*r:=DE (by omega) (by omega) (by omega) (by omega);have:=h.2.1;omega
theorem jJ (n:Int) (h:0<=n/\n<=1099511627776):Ct prog 180 [vi n] (vi (DL n)) []:=by
 refine CB func180 c180 fun E hE=>?_
 simp [p180];refine BL (α:=Int × Int) 0 (fun _:Unit=>⟨AO [(3,vi (DL n))],lk [],0⟩) (fun _=>True) (fun x=>⟨AO [(0,vi n),(3,vi x.1),(4,vi x.2)],lk [],0⟩) (fun x=>0<=x.1/\x.1 < x.2/\x.2<=1048577/\x.1*x.1<=n/\n < x.2*x.2) (fun x=>(x.2 - x.1).toNat) (0,1048577) ?_ ?_ ?_ fun _ _=>?_
 . simp;omega
 . exact WK hE (lk [])
 . rintro ⟨lo,hi⟩ ⟨h1,h2,h3,h4,h5⟩
   simp only at h1 h2 h3 h4 h5;have w1:IntKind.wrap .i64 (hi - lo)=hi - lo:=AD (by omega) (by omega);have w2:IntKind.wrap .i64 (lo+hi)=lo+hi:=AD (by omega) (by omega);have t:(lo+hi).tdiv 2=(lo+hi) / 2:=Int.tdiv_eq_ediv_of_nonneg (by omega);have w3:IntKind.wrap .i64 ((lo+hi) / 2)=(lo+hi) / 2:=AD (by omega) (by omega);have m0:0<=(lo+hi) / 2:=by omega
   have m1:(lo+hi) / 2*((lo+hi) / 2)<=1048577*1048577:=DE (by omega) (by omega) m0 (by omega);have m2:=Int.mul_nonneg m0 m0;have w4:IntKind.wrap .i64 ((lo+hi) / 2*((lo+hi) / 2))=(lo+hi) / 2*((lo+hi) / 2):=AD (by omega) (by omega);by_cases hc:1 < hi - lo
   . by_cases hm:(lo+hi) / 2*((lo+hi) / 2)<=n
     . simp [tD,w1,w2,t,w3,w4,hc,hm]
       refine ⟨(lo+hi) / 2,hi,⟨m0,by omega,h3,hm,h5⟩,by omega,?_⟩;exact WK hE (lk [])
     . simp [tD,w1,w2,t,w3,w4,hc,hm]
       refine ⟨lo,(lo+hi) / 2,⟨h1,by omega,by omega,h4,by omega⟩,by omega,?_⟩;exact WK hE (lk [])
   . have e:hi=lo+1:=by omega
     have:lo=DL n:=PN ⟨h1,h4,by rw [<-e];exact h5⟩ (PP n h);simp [tD,w1,hc];refine AI.mk hE (lk []) _ _ _ ?_ ?_ ?_ ?_ ?_<;>simp [this]
 . simp
   apply RZ;simp [results180]
def LB (a:Int × Int):(Int × Int) × Int:=
 if okS a then (if a.1 < 0 then ((0,0),2) else ((DL a.1,if DL a.2*DL a.2=a.2 then DL a.2 else DL a.2+1),0)) else ((0,0),10)
theorem qG (a:Int × Int):Ct prog 118 [vsp a.1 a.2] (vse (LB a)) []:=by
 refine CB func118 c118 fun E hE=>?_
 simp [p118,AM,AA];refine CLb (YZ [a] (by simp)) (by first | (simp;done) | simp [Bk]) ?_;by_cases h:okS a=true
 . have hf:Co [a]=true:=by simpa [Co] using h
   have hh:=CT.1 h;by_cases h1:a.1 < 0
   . simp [hf,h1,AA]
     apply RZ;simp [results118,LB,h,h1]
   . simp [hf,h1,inC,Nat.testBit]
     refine CLa (jJ a.1 (by omega)) ?_;simp [inC,Nat.testBit];refine CLa (jJ a.2 (by omega)) ?_;have q:=PP a.2 (by omega);have ql:=V9 q (by omega);have m:=q.2.1;have m2:=Int.mul_nonneg q.1 q.1;have w:IntKind.wrap .i64 (DL a.2*DL a.2)=DL a.2*DL a.2:=AD (by omega) (by omega);have w2:IntKind.wrap .i64 (DL a.2+1)=DL a.2+1:=AD (by have:=q.1;omega) (by omega);have wa:IntKind.wrap .i64 a.2=a.2:=AD (by omega) (by omega);by_cases hq:DL a.2*DL a.2=a.2
     . simp [AA,wa,hq]
       apply RZ;simp [results118,LB,h,h1,hq]
     . simp [AA,w,w2,hq]
       apply RZ;simp [results118,LB,h,h1,hq]
 . have hf:Co [a]=false:=by simpa [Co] using h
   simp [hf,AA];apply RZ;simp [results118,LB,h]
theorem xY (l:List (Int × Int)):(l.map fun s=>[di s.1,di s.2]).flatten=spD l:=rfl
theorem xZ {l:List (Int × Int)}:∀ x∈spD l,B9 x:=fun x h=>by
 simp only [spD,List.mem_flatMap] at h;obtain ⟨s,_,h⟩:=h;simp at h;rcases h with rfl | rfl<;>exact ⟨_,rfl⟩
theorem vW {H:Hp} {id:Nat} {l:List (Int × Int)} {p:Int × Int} (h:H id=some (BC l++[vi p.1,vi p.2])):Bor H (.ls id 0 (l.length+1) 2) (.d (An (l++[p]))):=by
 rw [Bk];refine ⟨rfl,by simp,fun e he=>?_,_,h,?_⟩
 . simp only [List.mem_map] at he
   obtain ⟨k,_,rfl⟩:=he;rfl
 . rw [xY,bZ,List.drop_zero,List.take_of_length_le (by simp;omega)]
   simp
open Go.Geo (cross CV chainR Bo)
def leC (x y:Int × Int):Bool:=!decide (Dw y x < 0)
theorem PX {x y:Int × Int}:Dw x y < 0↔Go.Geo.lt x y:=by
 unfold Dw orI orI orI NM Go.Geo.lt;by_cases h1:x.1 < y.1
 . simp [h1]
 . by_cases h2:y.1 < x.1
   . simp [h1,h2];omega
   . by_cases h3:x.2 < y.2
     . simp [h1,h2,h3];omega
     . by_cases h4:y.2 < x.2
       . simp [h1,h2,h3,h4]
       . simp [h1,h2,h3,h4]
theorem GZ {x y:Int × Int}:leC x y=true↔¬ Go.Geo.lt y x:=by unfold leC;rw [Bool.not_eq_true',decide_eq_false_iff_not,PX]
theorem WD (a b c:Int × Int) (h1:leC a b=true) (h2:leC b c=true):leC a c=true:=by
 rw [GZ] at*;unfold Go.Geo.lt at*;omega
theorem WE (a b:Int × Int):(leC a b||leC b a)=true:=by
 rw [Bool.or_eq_true,GZ,GZ];unfold Go.Geo.lt;omega
theorem PY (l:List (Int × Int)):(DK l).Pairwise fun x y=>leC x y=true:=List.pairwise_mergeSort WD WE l
theorem qi {l:List (Int × Int)} (h:l.Pairwise fun x y=>leC x y=true):Go.Geo.Sorted (ddC l):=by
 have key:∀ (l d:List (Int × Int)),l.Pairwise (fun x y=>leC x y=true)->Go.Geo.Sorted d->(∀ x∈d,∀ y∈l,leC x y=true)->Go.Geo.Sorted (l.foldl DQ d):=by
   intro l;induction l with
   | nil=>intro d _ h _;exact h
   | cons a l ih=>
     intro d hl hd hx;rw [List.foldl_cons];have hl':=List.pairwise_cons.1 hl;unfold DQ;by_cases h:d.getLast?= some a
     . rw [if_pos h]
       exact ih d hl'.2 hd fun x hx' y hy=>hx x hx' y (by simp [hy])
     . rw [if_neg h]
       refine ih _ hl'.2 ?_ fun x hx' y hy=>?_
       . unfold Go.Geo.Sorted
         rw [List.pairwise_append];refine ⟨hd,List.pairwise_singleton _ _,fun x hxd y hy=>?_⟩;rw [List.mem_singleton.1 hy];have h1:=GZ.1 (hx x hxd a (by simp));rcases Go.Geo.lt_tri x a with h2 | h2 | h2
         . exact h2
         . exfalso
           subst h2;rcases List.eq_nil_or_concat d with rfl | ⟨d',z,rfl⟩
           . simp at hxd
           . rw [List.concat_eq_append] at*
             have hz:=GZ.1 (hx z (by simp) x (by simp));have hne:z≠x:=fun e=>h (by rw [e];simp)
             have hxd':x∈d':=by
               rcases List.mem_append.1 hxd with h | h
               . exact h
               . exact absurd (List.mem_singleton.1 h).symm hne
             have:=(List.pairwise_append.1 hd).2.2 x hxd' z (by simp);exact hz this
         . exact absurd h2 h1
       . rcases List.mem_append.1 hx' with h | h
         . exact hx x h y (by simp [hy])
         . rw [List.mem_singleton.1 h];exact hl'.1 y hy
 exact key l [] h List.Pairwise.nil (by simp)
theorem JN (l:List (Int × Int)):Go.Geo.Sorted (ddC (DK l)):=qi (PY l)
instance (l:List (Int × Int)):Decidable (l.Pairwise fun x y=>leC x y=true):=inferInstance
theorem L7 {H:Hp} {id:Nat} {cs:List V} (l:List (Int × Int)) (h:H id=some cs) (hc:cs=BC l):Bor H (.ls id 0 l.length 2) (.d (An l)):=by
 rw [Bk];refine ⟨rfl,by simp,fun e he=>?_,_,h,?_⟩
 . simp only [List.mem_map] at he
   obtain ⟨k,_,rfl⟩:=he;rfl
 . rw [Om,hc,List.drop_zero,List.take_of_length_le (by simp)]
theorem wM {a b c:Int × Int} (ha:bd 536870912 a) (hb:bd 536870912 b) (hc:bd 536870912 c):(-1152921504606846976<=(b.1 - a.1)*(c.2 - a.2)/\(b.1 - a.1)*(c.2 - a.2)<=1152921504606846976)/\(-1152921504606846976<=(b.2 - a.2)*(c.1 - a.1)/\(b.2 - a.2)*(c.1 - a.1)<=1152921504606846976):=by
 unfold bd at*;have h1:=NK (M:=1073741824) (N:=1073741824) (x:=b.1 - a.1) (y:=c.2 - a.2) (by omega) (by omega);have h2:=NK (M:=1073741824) (N:=1073741824) (x:=b.2 - a.2) (y:=c.1 - a.1) (by omega) (by omega);omega
theorem yK (a b c:Int × Int) (ha:bd 536870912 a) (hb:bd 536870912 b) (hc:bd 536870912 c):Ct prog 304 [vsp a.1 a.2,vsp b.1 b.2,vsp c.1 c.2] (vi (Go.Geo.cross a b c)) []:=by
 refine CB func304 c304 fun E hE=>?_
 have h:=wM ha hb hc;unfold bd at ha hb hc;have w1:IntKind.wrap .i64 (b.1 - a.1)=b.1 - a.1:=AD (by omega) (by omega);have w2:IntKind.wrap .i64 (c.2 - a.2)=c.2 - a.2:=AD (by omega) (by omega);have w3:IntKind.wrap .i64 (b.2 - a.2)=b.2 - a.2:=AD (by omega) (by omega);have w4:IntKind.wrap .i64 (c.1 - a.1)=c.1 - a.1:=AD (by omega) (by omega);have w5:IntKind.wrap .i64 ((b.1 - a.1)*(c.2 - a.2))=(b.1 - a.1)*(c.2 - a.2):=AD (by omega) (by omega);have w6:IntKind.wrap .i64 ((b.2 - a.2)*(c.1 - a.1))=(b.2 - a.2)*(c.1 - a.1):=AD (by omega) (by omega);have w7:IntKind.wrap .i64 ((b.1 - a.1)*(c.2 - a.2) - (b.2 - a.2)*(c.1 - a.1))=(b.1 - a.1)*(c.2 - a.2) - (b.2 - a.2)*(c.1 - a.1):=AD (by omega) (by omega);simp [p304,w1,w2,w3,w4,w5,w6,w7];apply RZ;simp [results304,Go.Geo.cross]
def ltB (a b:Int × Int):Bool:=decide (a.1 < b.1)||(decide (a.1=b.1)&&decide (a.2 < b.2))
theorem uu {a b:Int × Int}:ltB a b=true↔Go.Geo.lt a b:=by unfold ltB Go.Geo.lt;simp
theorem zX (a b:Int × Int):Ct prog 303 [vsp a.1 a.2,vsp b.1 b.2] (vb (ltB a b)) []:=by
 rcases Int.lt_trichotomy a.1 b.1 with h | h | h
 . refine CB func303 yv fun E hE=>?_
   simp [p303,h];apply RZ;simp [results303,ltB,h]
 . have h1:¬ a.1 < b.1:=by omega
   refine CB func303 yv fun E hE=>?_
   simp [p303,h];apply RZ;simp [results303,ltB,h]
 . have h1:¬ a.1 < b.1:=by omega
   have h2:¬ a.1=b.1:=by omega
   refine CB func303 yv fun E hE=>?_
   simp [p303,h1,h2];apply RZ;simp [results303,ltB,h1,h2]
theorem sa {l m:List (Int × Int)} (hl:Go.Geo.Sorted l) (hm:Go.Geo.Sorted m) (h:∀ x,x∈l↔x∈m):l=m:=by
 have hd1:l.Nodup:=hl.imp fun h e=>by subst e;exact Go.Geo.lt_irr _ h
 have hd2:m.Nodup:=hm.imp fun h e=>by subst e;exact Go.Geo.lt_irr _ h
 have hp:l.Perm m:=(List.perm_ext_iff_of_nodup hd1 hd2).2 h;exact hp.eq_of_pairwise (fun a b _ _ h1 h2=>absurd (Go.Geo.lt_trans h1 h2) (Go.Geo.lt_irr _)) hl hm
theorem vJ {l m:List (Int × Int)} (hm:Go.Geo.Sorted m) (h:∀ x,x∈m↔x∈l):m=ddC (DK l):=
 sa hm (JN l) fun x=>by rw [h,Su,Lw]
theorem Gx {O:List (Int × Int)} (h:O≠[]) (b:Nat):AAV O b=[(b,BC O)]:=by
 unfold AAV;cases O with
 | nil=>exact absurd rfl h
 | cons a l=>rfl
theorem tS {out:List (Int × Int)} {p:Int × Int} {j:Nat} (hs:Go.Geo.Sorted out) (hj:j<=out.length) (h1:∀ m q,j<=m->out[m]?= some q->Go.Geo.lt p q) (h2:∀ q,0 < j->out[j - 1]?= some q->¬ Go.Geo.lt p q):
   (∀ q,0 < j->out[j - 1]?= some q->q≠p->Go.Geo.Sorted (out.take j++p::out.drop j))/\(j=0->Go.Geo.Sorted (p::out)):=by
 have hd:∀ y∈out.drop j,Go.Geo.lt p y:=fun y hy=>by
   obtain ⟨m,hm⟩:=List.getElem?_of_mem hy;rw [List.getElem?_drop] at hm;exact h1 _ y (by omega) hm
 constructor
 . intro q h0 hq hne
   have hqp:Go.Geo.lt q p:=by
     rcases Go.Geo.lt_tri q p with h | h | h
     . exact h
     . exact absurd h hne
     . exact absurd h (h2 q h0 hq)
   have ht:∀ x∈out.take j,Go.Geo.lt x p:=fun x hx=>by
     obtain ⟨m,hm⟩:=List.getElem?_of_mem hx;rw [List.getElem?_take] at hm;split at hm
     . rename_i hmj
       by_cases e:m=j - 1
       . rw [e] at hm;rw [hq] at hm;cases hm;exact hqp
       . have hmm:=(List.getElem?_eq_some_iff.1 hm)
         have hqq:=(List.getElem?_eq_some_iff.1 hq)
         have:=List.pairwise_iff_getElem.1 hs m (j - 1) hmm.1 hqq.1 (by omega);rw [hmm.2,hqq.2] at this;exact Go.Geo.lt_trans this hqp
     . cases hm
   refine List.pairwise_append.2 ⟨hs.sublist (List.take_sublist j out),?_,fun x hx y hy=>?_⟩
   . exact List.pairwise_cons.2 ⟨hd,hs.sublist (List.drop_sublist j out)⟩
   . rcases List.mem_cons.1 hy with rfl | hy
     . exact ht x hx
     . exact Go.Geo.lt_trans (ht x hx) (hd y hy)
 . intro h0
   subst h0;exact List.pairwise_cons.2 ⟨fun y hy=>hd y (by simpa using hy),hs⟩
theorem sq {l out:List (Int × Int)} {i j:Nat} {p:Int × Int} (hp:l[i]?= some p) (hm:∀ x,x∈out↔x∈l.take i):∀ x,x∈out.take j++p::out.drop j↔x∈l.take (i+1):=fun x=>by
 rw [List.take_add_one,hp];simp only [List.mem_append,List.mem_cons,Option.toList_some,List.not_mem_nil,or_false];rw [<-hm];have:x∈out↔x∈out.take j\/x∈out.drop j:=by rw [<-List.mem_append,List.take_append_drop]
 rw [this];constructor
 . rintro (h | h | h)
   . exact Or.inl (Or.inl h)
   . exact Or.inr h
   . exact Or.inl (Or.inr h)
 . rintro ((h | h) | h)
   . exact Or.inl h
   . exact Or.inr (Or.inr h)
   . exact Or.inr (Or.inl h)
theorem vo {l out:List (Int × Int)} {i:Nat} {p:Int × Int} (hp:l[i]?= some p) (hm:∀ x,x∈out↔x∈l.take i) (h:p∈out):∀ x,x∈out↔x∈l.take (i+1):=fun x=>by
 rw [List.take_add_one,hp];simp only [List.mem_append,Option.toList_some,List.mem_singleton];rw [<-hm];constructor
 . exact Or.inl
 . rintro (h2 | rfl)
   . exact h2
   . exact h
def xC (out:List (Int × Int)) (p:Int × Int) (k:Nat):Prop:=k<=out.length/\∀ m q,k<=m->out[m]?= some q->Go.Geo.lt p q
def zC (out:List (Int × Int)) (p:Int × Int) (k:Nat):Prop:=xC out p k/\∀ q,0 < k->out[k - 1]?= some q->¬ Go.Geo.lt p q
theorem yV (l out:List (Int × Int)) (i:Nat) (p:Int × Int) (hp:l[i]?= some p) (_:l.length<=100000) (_:out≠[]) (ho:out.length<=100000) {E:Ent} (hE:∀ i,¬ E.stab i) {Q:Av->St->Prop}:∀ j:Nat,xC out p j->PW prog tys eqs E tH
   (DP (fun st'=>∃ k,xC out p k/\k < j/\AI prog E st' ⟨AO [(0, .d (An l)),(3, .ls 0 0 out.length 2),(4,vi i),(5,vi k)],lk [(0,BC out)],1⟩)
     (exC prog E Q 2 (fun k:Nat=>⟨AO [(0, .d (An l)),(3, .ls 0 0 out.length 2),(4,vi i),(5,vi k)],lk [(0,BC out)],1⟩) (fun k=>zC out p k)))
   ⟨AO [(0, .d (An l)),(3, .ls 0 0 out.length 2),(4,vi i),(5,vi j)],lk [(0,BC out)],1⟩:=by
 intro j hjp;obtain ⟨hj,hjq⟩:=hjp;simp [tH];by_cases h0:0 < j
 . obtain ⟨q,hq⟩:∃ q,out[j - 1]?= some q:=⟨_,List.getElem?_eq_getElem (by omega)⟩
   have hw:IntKind.wrap .i64 ((j:Int) - 1)=((j - 1:Nat):Int):=by rw [AD (by omega) (by omega)];omega
   have cq:=Cp hq;have q1:(j - 1)*2+2<=out.length*2:=by omega
   have hjl:j - 1 < out.length:=by omega
   have d1:=zX p q;obtain ⟨B,hB⟩:∃ B,ltB p q=B:=⟨_,rfl⟩
   rw [hB] at d1;simp [h0,hp,hw,cq,q1,hjl,inC,Nat.testBit];refine CLa d1 ?_;cases B
   . simp
     refine ⟨j,⟨⟨hj,hjq⟩,fun q' _ hq' h=>?_⟩,?_⟩
     . rw [hq] at hq';cases hq'
       rw [uu.2 h] at hB;cases hB
     . exact WK hE (lk [(0,0)])
   . simp [hw]
     refine ⟨j - 1,⟨by omega,fun m q' hm hq'=>?_⟩,by omega,?_⟩
     . by_cases e:m=j - 1
       . subst e;rw [hq] at hq';cases hq';exact uu.1 hB
       . exact hjq m q' (by omega) hq'
     . exact WK hE (lk [(0,0)])
 . simp [h0]
   refine ⟨j,⟨⟨hj,hjq⟩,fun q' h'=>absurd h' h0⟩,?_⟩;exact WK hE (lk [(0,0)])
theorem rT (out:List (Int × Int)) (k:Nat) (g:Int × Int) (h:k<=out.length):(out.take k++g::out.drop k).length=out.length+1:=by
 simp;omega
theorem sw {out:List (Int × Int)} {k:Nat} {g:Int × Int} (q:Int × Int) (h:k<=out.length):(out.take k++g::out.drop k).set k q=out.take k++q::out.drop k:=by
 have e:(out.take k).length=k:=by simp;omega
 rw [List.set_append_right _ _ (by omega),e,Nat.sub_self,List.set_cons_zero]
theorem wH {out:List (Int × Int)} {k:Nat} {q:Int × Int} (hq:out[k]?= some q):out.take (k+1)++q::out.drop (k+1)=out.take k++q::out.drop k:=by
 rw [List.take_add_one,hq,List.drop_eq_getElem_cons (List.getElem?_eq_some_iff.1 hq).1,(List.getElem?_eq_some_iff.1 hq).2];simp
theorem xU {out:List (Int × Int)} {k m:Nat} {g:Int × Int} (hm:m < k):(out.take k++g::out.drop k)[m]?= out[m]?\/ out.length<=m:=by
 by_cases h:m < out.length
 . left
   rw [List.getElem?_append_left (by simp;omega),List.getElem?_take,if_pos hm]
 . right;omega
theorem sf (l out:List (Int × Int)) (i at':Nat) (ho:out.length<=100000) {E:Ent} (hE:∀ i,¬ E.stab i) {Q:Av->St->Prop}:∀ x:Nat × (Int × Int),(at'<=x.1/\x.1<=out.length)->PW prog tys eqs E sW
   (DP (fun st'=>∃ y:Nat × (Int × Int),(at'<=y.1/\y.1<=out.length)/\y.1 < x.1/\AI prog E st' ⟨AO [(0, .d (An l)),(3, .ls 0 0 (out.length+1) 2),(4,vi i),(5,vi at'),(6,vi y.1)],lk [(0,BC (out.take y.1++y.2::out.drop y.1))],1⟩)
     (exC prog E Q 4 (fun g:Int × Int=>⟨AO [(0, .d (An l)),(3, .ls 0 0 (out.length+1) 2),(4,vi i),(5,vi at')],lk [(0,BC (out.take at'++g::out.drop at'))],1⟩) (fun _=>at'<=out.length)))
   ⟨AO [(0, .d (An l)),(3, .ls 0 0 (out.length+1) 2),(4,vi i),(5,vi at'),(6,vi x.1)],lk [(0,BC (out.take x.1++x.2::out.drop x.1))],1⟩:=by
 rintro ⟨k,g⟩ ⟨h1,h2⟩
 simp only at h1 h2 ⊢;by_cases hk:at' < k
 . obtain ⟨j,rfl⟩:∃ j,k=j+1:=⟨k - 1,by omega⟩
   obtain ⟨q,hq⟩:∃ q,out[j]?= some q:=⟨_,List.getElem?_eq_getElem (by omega)⟩
   have hM:(out.take (j+1)++g::out.drop (j+1))[j]?= some q:=by
     rcases xU (out:=out) (g:=g) (show j < j+1 by omega) with h | h
     . rw [h];exact hq
     . omega
   have hlen:=rT out (j+1) g h2;have hset:=sw (g:=g) q h2;rw [wH hq] at hset;obtain ⟨M,hMM⟩:∃ M,out.take (j+1)++g::out.drop (j+1)=M:=⟨_,rfl⟩
   rw [hMM] at hM hlen hset ⊢;have cq:=Cp hM;have cs:=I9 (l:=M) q (i:=j+1) (by omega);rw [hset] at cs;obtain ⟨k,hkk⟩:∃ k,k=j+1:=⟨_,rfl⟩
   rw [<-hkk] at cs ⊢;have w1:IntKind.wrap .i64 ((k:Int) - 1)=(j:Int):=by rw [AD (by omega) (by omega)];omega
   have hsl:=Di M;rw [hlen] at hsl;have q1:j*2+2<=(out.length+1)*2:=by omega
   have q2:k*2+2<=(out.length+1)*2:=by omega
   have q3:j < out.length+1:=by omega
   have q4:k < out.length+1:=by omega
   have hak:at' < k:=by omega
   have q3i:(j:Int) < (out.length:Int)+1:=by omega
   have q4i:(k:Int) < (out.length:Int)+1:=by omega
   simp [sW,hak,w1,cq,cs,hsl,q1,q2,q3i,q4i];refine ⟨j,⟨by omega,by omega⟩,by omega,q.1,q.2,?_⟩;exact WK hE (lk [(0,0)])
 . have e:k=at':=by omega
   subst e;simp [sW];refine ⟨h2,g.1,g.2,?_⟩;exact WK hE (lk [(0,0)])
def qj (l:List (Int × Int × Int)) (i:Nat) (a k:Int × Int × Int) (x:Int):Prop:=l[i]?= some a/\l[i+1]?= some k/\a.1<=x/\x<=k.1/\(i=0\/a.1 < x)
section
variable {l:List (Int × Int × Int)} (ht:Ck l=true) {i:Nat} {a k:Int × Int × Int} {x:Int} (h:qj l i a k x) {u v:Int} (hu:a.2.1<=u/\u<=a.2.2) (hv:k.2.1<=v/\v<=k.2.2)
def qk (y:Int × Int):Int:=max y.1 (-1073741825)
def jP (y:Int × Int):Int:=min y.2 1073741825
def isIn (y:Int × Int) (num den:Int):Prop:=qk y<=1073741825/\ -1073741825<=jP y/\qk y*den<=num/\num<=jP y*den
end
end Go.Proofs.Tryz
namespace Go.Proofs.Tryz
open Go.Psl
theorem wv (out:List (Int × Int)):Fz1 (lk (AAV out 0)) (Ju out 0) (.d (An out)):=by
 rcases List.eq_nil_or_concat out with rfl | ⟨l,p,rfl⟩
 . exact Or.inr ⟨rfl,2,rfl⟩
 . rw [List.concat_eq_append]
   have h:=vW (H:=lk (AAV (l++[p]) 0)) (id:=0) (l:=l) (p:=p) (by simp);have e:Ju (l++[p]) 0= .ls 0 0 (l.length+1) 2:=by simp
   rw [e];exact h
def srtI (l:List (Int × Int)) (x:Nat × List (Int × Int)):Prop:=x.1<=l.length/\x.2.length<=x.1/\Go.Geo.Sorted x.2/\∀ q,q∈x.2↔q∈l.take x.1
theorem wD (l:List (Int × Int)) (hl:l.length<=100000):Ct prog 273 [.d (An l)] (Ju (ddC (DK l)) 0) (AAV (ddC (DK l)) 0):=by
 refine Ct.by gok eok mixed func273 c273 rfl (by simp [ntmps273]) (by simp) ?_ fun E hE=>?_
 . rcases CO (ddC (DK l)) with h | ⟨o,x,h⟩
   . rw [h];simp [LD]
   . rw [h];simp [LD]
     rintro c (⟨a,_,rfl⟩ | rfl | rfl)<;>simp
 simp [p273];refine BL (α:=Nat × List (Int × Int)) 0 (fun _:Unit=>⟨AO [(3,Ju (ddC (DK l)) 0)],lk (AAV (ddC (DK l)) 0),1⟩) (fun _=>True) (fun x=>⟨AO [(0, .d (An l)),(3,Ju x.2 0),(4,vi x.1)],lk (AAV x.2 0),1⟩) (srtI l) (fun x=>l.length - x.1) (0,[]) ?_ ?_ ?_ fun _ _=>?_
 . exact ⟨by simp,by simp,List.Pairwise.nil,fun q=>by simp⟩
 . exact WK hE (lk [])
 . rintro ⟨i,out⟩ hI
   obtain ⟨h1,h2,h3,h4⟩:=hI;simp only at h1 h2 h3 h4;simp [wg];refine Bh (fun h=>?_) (fun h=>?_)
   . simp at h
     obtain ⟨p,hp⟩:=gE h;have hz:=@wz i (by omega);by_cases hne:out=[]
     . subst hne
       have wl:IntKind.wrap .i64 0=0:=by decide
       simp;refine BL (α:=Unit) 2 (fun _:Unit=>⟨AO [(0, .d (An l)),(3, .d (.lit (.slice none 0 0))),(4,vi i),(5,vi 0)],lk [],0⟩) (fun _=>True) (fun _=>⟨AO [(0, .d (An l)),(3, .d (.lit (.slice none 0 0))),(4,vi i),(5,vi 0)],lk [],0⟩) (fun _=>True) (fun _=>0) () ?_ ?_ ?_ fun _ _=>?_
       . trivial
       . exact WK hE (lk [])
       . intro _ _
         simp [tH];exact WK hE (lk [])
       . simp [AA,AM]
         refine BL (α:=Nat × (Int × Int)) 4 (fun g:Int × Int=>⟨AO [(0, .d (An l)),(3, .ls 0 0 1 2),(4,vi i),(5,vi 0)],lk [(0,[vi g.1,vi g.2])],1⟩) (fun _=>True) (fun _=>⟨AO [(0, .d (An l)),(3, .ls 0 0 1 2),(4,vi i),(5,vi 0),(6,vi 0)],lk [(0,[vi 0,vi 0])],1⟩) (fun _=>True) (fun x=>x.1) (0,((0:Int),(0:Int))) ?_ ?_ ?_ fun g _=>?_
         . trivial
         . refine AI.mk hE (lk [(0,17825792)]) _ _ _ ?_ ?_ ?_ ?_ ?_<;>simp [wl]
         . intro _ _
           simp [sW];refine ⟨0,0,?_⟩;exact WK hE (lk [(0,0)])
         . simp [hp,hz,AA]
           refine ⟨i+1,[p],⟨by simp only;omega,by simp only [List.length_singleton];omega,List.pairwise_singleton _ _,sq (j:=0) hp h4⟩,by omega,?_⟩;rw [GP (by simp),Gx (by simp),show BC [p]=[vi p.1,vi p.2] from rfl];exact WK hE (lk [(0,0)])
     . rw [GP hne,Gx hne]
       simp;refine BL (α:=Nat) 2 (fun k:Nat=>⟨AO [(0, .d (An l)),(3, .ls 0 0 out.length 2),(4,vi i),(5,vi k)],lk [(0,BC out)],1⟩) (fun k=>zC out p k) (fun k=>⟨AO [(0, .d (An l)),(3, .ls 0 0 out.length 2),(4,vi i),(5,vi k)],lk [(0,BC out)],1⟩) (fun k=>xC out p k) (fun k=>k) out.length ?_ ?_ ?_ fun j hj=>?_
       . exact ⟨Nat.le_refl _,fun m q hm hq=>by have:=(List.getElem?_eq_some_iff.1 hq).1;omega⟩
       . exact WK hE (lk [(0,0)])
       . exact yV l out i p hp hl hne (by omega) hE
       . obtain ⟨⟨hj1,hj2⟩,hj3⟩:=hj
         by_cases h0:0 < j
         . obtain ⟨q,hq⟩:∃ q,out[j - 1]?= some q:=⟨_,List.getElem?_eq_getElem (by omega)⟩
           have hw:IntKind.wrap .i64 ((j:Int) - 1)=((j - 1:Nat):Int):=by rw [AD (by omega) (by omega)];omega
           have cq:=Cp hq;have q1:(j - 1)*2+2<=out.length*2:=by omega
           have hjl:j - 1 < out.length:=by omega
           by_cases hqp:q.1=p.1/\q.2=p.2
           . have hqp':q=p:=by ext;exact hqp.1;exact hqp.2
             simp [h0,hp,hw,cq,q1,hjl,hqp,hz,inC,Nat.testBit];refine ⟨i+1,out,⟨by simp only;omega,by simp only;omega,h3,vo hp h4 (by rw [<-hqp'];exact List.mem_of_getElem? hq)⟩,by omega,?_⟩;rw [GP hne,Gx hne];exact WK hE (lk [(0,0)])
           . have hb:(decide (q.1=p.1)&&decide (q.2=p.2))=false:=by rw [Bool.and_eq_false_iff];simp only [decide_eq_false_iff_not];omega
             have hsl:=Di out;have htk:List.take (out.length*2) (BC out)=BC out:=List.take_of_length_le (by simp);have n1:(out.length+1)*16<=140737488355328:=by omega
             have n2:out.length+1<=9223372036854775807:=by omega
             simp [h0,hp,hw,cq,q1,hjl,hb,hsl,htk,n1,n2,inC,Nat.testBit,AA,AM];refine BL (α:=Nat × (Int × Int)) 4 (fun g:Int × Int=>⟨AO [(0, .d (An l)),(3, .ls 0 0 (out.length+1) 2),(4,vi i),(5,vi j)],lk [(0,BC (out.take j++g::out.drop j))],1⟩) (fun _=>j<=out.length) (fun x=>⟨AO [(0, .d (An l)),(3, .ls 0 0 (out.length+1) 2),(4,vi i),(5,vi j),(6,vi x.1)],lk [(0,BC (out.take x.1++x.2::out.drop x.1))],1⟩) (fun x=>j<=x.1/\x.1<=out.length) (fun x=>x.1) (out.length,((0:Int),(0:Int))) ?_ ?_ ?_ fun g hg=>?_
             . exact ⟨hj1,Nat.le_refl _⟩
             . have wl:IntKind.wrap .i64 (out.length:Int)=out.length:=AD (by omega) (by omega)
               simp only [List.take_length,List.drop_length,Sj];refine AI.mk hE (lk [(0,17825793)]) _ _ _ ?_ ?_ ?_ ?_ ?_<;>simp [wl]
               rintro c (⟨a,_,rfl⟩ | rfl)<;>simp
             . exact sf l out i j (by omega) hE
             . have hset:=sw (g:=g) p hj1
               have hlen:=rT out j g hj1;obtain ⟨M,hMM⟩:∃ M,out.take j++g::out.drop j=M:=⟨_,rfl⟩
               rw [hMM] at hset hlen ⊢;have cs:=I9 (l:=M) p (i:=j) (by omega);rw [hset] at cs;have hml:=Di M;rw [hlen] at hml;have q3:j < out.length+1:=by omega
               have q3i:(j:Int) < (out.length:Int)+1:=by omega
               have q2:j*2+2<=(out.length+1)*2:=by omega
               simp [hp,q3i,q2,hml,cs,hz];have hN:out.take j++p::out.drop j≠[]:=by simp
               have hNl:=rT out j p hj1;refine ⟨i+1,out.take j++p::out.drop j,⟨by simp only;omega,by simp only;omega,(tS h3 hj1 hj2 hj3).1 q h0 hq (fun e=>hqp ⟨by rw [e],by rw [e]⟩),sq hp h4⟩,by omega,?_⟩;rw [GP hN,Gx hN,hNl];exact WK hE (lk [(0,0)])
         . have hj0:j=0:=by omega
           have hsl:=Di out;have htk:List.take (out.length*2) (BC out)=BC out:=List.take_of_length_le (by simp);have n1:(out.length+1)*16<=140737488355328:=by omega
           have n2:out.length+1<=9223372036854775807:=by omega
           simp [h0,hsl,htk,n1,n2,AA,AM];refine BL (α:=Nat × (Int × Int)) 4 (fun g:Int × Int=>⟨AO [(0, .d (An l)),(3, .ls 0 0 (out.length+1) 2),(4,vi i),(5,vi j)],lk [(0,BC (out.take j++g::out.drop j))],1⟩) (fun _=>j<=out.length) (fun x=>⟨AO [(0, .d (An l)),(3, .ls 0 0 (out.length+1) 2),(4,vi i),(5,vi j),(6,vi x.1)],lk [(0,BC (out.take x.1++x.2::out.drop x.1))],1⟩) (fun x=>j<=x.1/\x.1<=out.length) (fun x=>x.1) (out.length,((0:Int),(0:Int))) ?_ ?_ ?_ fun g hg=>?_
           . exact ⟨hj1,Nat.le_refl _⟩
           . have wl:IntKind.wrap .i64 (out.length:Int)=out.length:=AD (by omega) (by omega)
             simp only [List.take_length,List.drop_length,Sj];refine AI.mk hE (lk [(0,17825793)]) _ _ _ ?_ ?_ ?_ ?_ ?_<;>simp [wl]
             rintro c (⟨a,_,rfl⟩ | rfl)<;>simp
           . exact sf l out i j (by omega) hE
           . have hset:=sw (g:=g) p hj1
             have hlen:=rT out j g hj1;obtain ⟨M,hMM⟩:∃ M,out.take j++g::out.drop j=M:=⟨_,rfl⟩
             rw [hMM] at hset hlen ⊢;have cs:=I9 (l:=M) p (i:=j) (by omega);rw [hset] at cs;have hml:=Di M;rw [hlen] at hml;have q3:j < out.length+1:=by omega
             have q3i:(j:Int) < (out.length:Int)+1:=by omega
             have q2:j*2+2<=(out.length+1)*2:=by omega
             simp [hp,q3i,q2,hml,cs,hz];have hN:out.take j++p::out.drop j≠[]:=by simp
             have hNl:=rT out j p hj1;refine ⟨i+1,out.take j++p::out.drop j,⟨by simp only;omega,by simp only;omega,(by rw [hj0];simpa using (tS h3 hj1 hj2 hj3).2 hj0),sq hp h4⟩,by omega,?_⟩;rw [GP hN,Gx hN,hNl];exact WK hE (lk [(0,0)])
   . simp at h
     have e:i=l.length:=by omega
     have ht:out=ddC (DK l):=vJ h3 (by rw [e] at h4;simpa using h4);rw [<-ht];simp;rcases CO out with h | ⟨o,x,h⟩
     . rw [h]
       exact WK hE (lk [])
     . rw [h]
       refine AI.mk hE (lk [(0,0)]) _ _ _ ?_ ?_ ?_ ?_ ?_<;>simp
       rintro c (⟨a,_,rfl⟩ | rfl | rfl)<;>simp
 . simp
   rcases CO (ddC (DK l)) with h | ⟨o,x,h⟩
   . rw [h]
     apply RZ;simp [results273]
   . rw [h]
     refine AB.by (lk [(0,0)]) ?_;simp [results273]
theorem yD (l:List (Int × Int)) (hl:l.length<=100000):Ct prog 273 [.d (An l)] (.d (An (ddC (DK l)))) []:=by
 refine Cm.freeze (wD l hl) ?_;have h:=wv (ddC (DK l));unfold Fz;split
 . rename_i e _;rcases CO (ddC (DK l)) with h2 | ⟨o,x,h2⟩<;>rw [h2] at e<;>simp at e
 . exact h
open Go.Geo (cross chainR)
theorem xG (l:List (Int × Int)) (i:Nat) (p:Int × Int) (hp:l[i]?= some p) (hpm:bd 536870912 p) (st0:List (Int × Int)) {E:Ent} (hE:∀ i,¬ E.stab i) {Q:Av->St->Prop}:∀ x:List (Int × Int) × List (Int × Int),(Fo x.1 p=Fo st0 p/\x.1.length<=100000/\∀ q∈x.1,bd 536870912 q)->PW prog tys eqs E tI
   (DP (fun st'=>∃ y:List (Int × Int) × List (Int × Int),(Fo y.1 p=Fo st0 p/\y.1.length<=100000/\∀ q∈y.1,bd 536870912 q)/\y.1.length < x.1.length/\AI prog E st' ⟨AO [(0, .d (An l)),(3,Ju y.1.reverse 0),(4,vi i)],lk (Ld y.1.reverse y.2 0),1⟩)
     (exC prog E Q 2 (fun z:List (Int × Int)=>⟨AO [(0, .d (An l)),(3,Ju (Fo st0 p).reverse 0),(4,vi i)],lk (Ld (Fo st0 p).reverse z 0),1⟩) (fun _=>True)))
   ⟨AO [(0, .d (An l)),(3,Ju x.1.reverse 0),(4,vi i)],lk (Ld x.1.reverse x.2 0),1⟩:=by
 rintro ⟨st,z⟩ ⟨hpop,hlen,hm⟩
 simp only at hpop hlen hm ⊢;by_cases h2s:st.length < 2
 . have hps:Fo st0 p=st:=by
     rw [<-hpop]
     match st,h2s with
     | [],_=>rfl
     | [_],_=>rfl
     | _::_::_,h=>simp at h;omega
   rw [hps];obtain ⟨O,hO⟩:∃ O,st.reverse=O:=⟨_,rfl⟩
   have hOl:O.length=st.length:=by rw [<-hO];simp
   rw [hO];have hlt:¬ ((1:Int) < (O.length:Int)):=by omega
   have hlt':¬ (1 < O.length):=by omega
   simp [tI,OL,hlt];refine ⟨z,?_⟩;obtain rfl | ⟨b0,x0,rfl⟩:=CO O
   . exact WK hE (lk [])
   . rw [CN]
     exact WK hE (lk [(0,0)])
 . obtain ⟨b,a,r,rfl⟩:∃ b a r,st=b::a::r:=by
     match st,h2s with
     | b::a::r,_=>exact ⟨b,a,r,rfl⟩
     | [],h=>simp at h
     | [_],h=>simp at h
   have ba:=hm a (by simp);have bb:=hm b (by simp);obtain ⟨m,hmm⟩:∃ m,m=r.length:=⟨_,rfl⟩
   obtain ⟨m1,hm1⟩:∃ m1,m1=m+1:=⟨_,rfl⟩
   obtain ⟨O,hO⟩:∃ O,(b::a::r).reverse=O:=⟨_,rfl⟩
   have hO2:O=r.reverse++[a]++[b]:=by rw [<-hO];simp
   have hO3:(a::r).reverse=r.reverse++[a]:=by simp
   obtain ⟨N,hN⟩:∃ N,O.length=N:=⟨_,rfl⟩
   have hNm:N=m+2:=by rw [<-hN,hO2,hmm];simp
   have hOne:O≠[]:=by rw [hO2];simp
   have ha':(O++z)[m]?= some a:=by
     rw [hO2,hmm];simp only [List.append_assoc];rw [List.getElem?_append_right (by simp),List.length_reverse,Nat.sub_self];rfl
   have hb':(O++z)[m1]?= some b:=by
     rw [hO2,hm1,hmm];simp only [List.append_assoc];rw [List.getElem?_append_right (by simp),List.length_reverse,show r.length+1 - r.length=1 by omega];rfl
   have ca:=Cp ha';have cb:=Cp hb';obtain ⟨ds,hds⟩:∃ ds,spD (O++z)=ds:=⟨_,rfl⟩
   have hdsl:N*2<=ds.length:=by rw [<-hds,Di,List.length_append,hN];omega
   rw [hds] at ca cb;rw [hO,GP hOne,GQ hOne,hN,show BC (O++z)=ds.map V.d by rw [<-hds]];have w2:IntKind.wrap .i64 ((N:Int) - 2)=(m:Int):=by simp at hlen;rw [AD (by omega) (by omega)];omega
   have w3:IntKind.wrap .i64 ((N:Int) - 1)=(m1:Int):=by simp at hlen;rw [AD (by omega) (by omega)];omega
   have hlt:(1:Int) < (N:Int):=by omega
   have hlt':1 < N:=by omega
   have l1:m < N:=by omega
   have l2:m1 < N:=by omega
   have l3:m*2+2<=ds.length:=by omega
   have l4:m1*2+2<=ds.length:=by omega
   have l5:m1<=N:=by omega
   simp [tI,hlt,hp,inC,Nat.testBit,w2,w3,l1,l2,l3,l4,ca,cb];refine CLa (yK a b p ba bb hpm) ?_;by_cases hc:cross a b p<=0
   . simp [hc,w3,l5]
     refine ⟨a::r,⟨by rw [<-hpop,OA,if_pos hc],by simp at hlen ⊢;omega,fun q1 q2 hq=>hm (q1,q2) (List.mem_cons_of_mem _ hq)⟩,by simp,[b]++z,?_⟩;rw [hO3,En,CN,show BC (r.reverse++[a]++([b]++z))=ds.map V.d by rw [<-hds,hO2];simp];refine AI.mk hE (lk [(0,0)]) _ _ _ ?_ ?_ ?_ ?_ ?_<;>simp
     omega
   . have hps:Fo st0 p=b::a::r:=by rw [<-hpop,OA,if_neg hc]
     rw [hps,hO,GP hOne,hN];simp [hc];refine ⟨z,?_⟩;rw [GQ hOne,show BC (O++z)=ds.map V.d by rw [<-hds]];exact WK hE (lk [(0,0)])
theorem tX (l:List (Int × Int)) (hl:l.length<=100000) (hbd:∀ q∈l,bd 536870912 q):Ct prog 274 [.d (An l)] (Ju (chainR l).reverse 0) (Ld (chainR l).reverse [] 0):=by
 refine Ct.by gok eok mixed func274 c274 rfl (by simp [ntmps274]) (by simp) ?_ fun E hE=>?_
 . rcases CO (chainR l).reverse with h | ⟨o,x,h⟩
   . rw [h];simp [LD,Ld]
   . rw [h,CN];simp [LD]
 have hst0:chainR (l.take 0)=[]:=by simp [chainR]
 have hcl:=fun i=>Ez (l.take i)
 have hcm:∀ i,∀ q∈chainR (l.take i),bd 536870912 q:=fun i q hq=>hbd q (List.mem_of_mem_take (QA q hq))
 simp [p274];refine BL (α:=Nat) 0 (fun _:Unit=>⟨AO [(3,Ju (chainR l).reverse 0)],lk (Ld (chainR l).reverse [] 0),1⟩) (fun _=>True) (fun i=>⟨AO [(0, .d (An l)),(3,Ju (chainR (l.take i)).reverse 0),(4,vi i)],lk (Ld (chainR (l.take i)).reverse [] 0),1⟩) (fun i=>i<=l.length) (fun i=>l.length - i) 0 ?_ ?_ ?_ fun _ _=>?_
 . simp
 . rw [hst0]
   refine AI.mk hE (lk []) _ _ _ ?_ ?_ ?_ ?_ ?_<;>simp [Ld]
 . intro i hi
   simp [wi];refine Bh (fun h=>?_) (fun h=>?_)
   . simp at h
     obtain ⟨p,hp⟩:=gE h;have hpm:=hbd p (List.mem_of_getElem? hp);have w1:=@wz i (by omega);have hct:=QB hp;have hci:=hcl i;have hcmi:=hcm i;obtain ⟨st0,hst⟩:∃ st0,chainR (l.take i)=st0:=⟨_,rfl⟩
     rw [hst] at hct hci hcmi ⊢;have hl0:st0.length<=100000:=by simp at hci;omega
     simp;refine BL (α:=List (Int × Int) × List (Int × Int)) 2 (fun z:List (Int × Int)=>⟨AO [(0, .d (An l)),(3,Ju (Fo st0 p).reverse 0),(4,vi i)],lk (Ld (Fo st0 p).reverse z 0),1⟩) (fun _=>True) (fun x=>⟨AO [(0, .d (An l)),(3,Ju x.1.reverse 0),(4,vi i)],lk (Ld x.1.reverse x.2 0),1⟩) (fun x=>Fo x.1 p=Fo st0 p/\x.1.length<=100000/\∀ q∈x.1,bd 536870912 q) (fun x=>x.1.length) (st0,[]) ?_ ?_ ?_ fun zz _=>?_
     . exact ⟨rfl,hl0,hcmi⟩
     . obtain e | ⟨b0,x0,e⟩:=CO st0.reverse<;>simp only [e]
       . refine AI.mk hE (lk []) _ _ _ ?_ ?_ ?_ ?_ ?_<;>simp [Ld]
       . rw [CN]
         exact WK hE (lk [(0,0)])
     . exact xG l i p hp hpm st0 hE
     . have hpl:=KK p st0
       obtain ⟨O,hO⟩:∃ O,(Fo st0 p).reverse=O:=⟨_,rfl⟩
       have hOl:O.length<=200000:=by rw [<-hO];simp;omega
       have hnx:(chainR (l.take (i+1))).reverse=O++[p]:=by rw [hct,<-hO];simp
       rw [hO];have fin:BC (O++[p])=(spD O).map V.d++[vi p.1,vi p.2]:=Sj p O;obtain rfl | ⟨o,x,rfl⟩:=CO O
       . simp [hp,AM,AA,w1]
         refine ⟨i+1,by omega,by omega,?_⟩;rw [hnx,En,CN,List.append_nil,fin];exact WK hE (lk [(0,6291457)])
       . have htk:=KL (o++[x]) zz
         have hdl3:=Di (o++[x]++zz);have hOne:o++[x]≠[]:=by simp
         obtain ⟨N,hN⟩:∃ N,(o++[x]).length=N:=⟨_,rfl⟩
         have hdo:=Di (o++[x]);rw [List.length_append,hN] at hdl3;rw [hN] at htk hOl hdo;rw [GP hOne,GQ hOne,hN];have hcc:BC (o++[x]++zz)=List.map V.d (spD (o++[x]++zz)):=rfl;rw [hcc]
         generalize spD (o++[x]++zz)=ds at htk hdl3 ⊢
         generalize spD (o++[x])=eo at fin htk hdo
         have hfit:N*2<=ds.length/\(N+1)*16<=140737488355328/\N+1<=9223372036854775807:=by omega
         simp [hp,AM,AA,w1,hfit,htk];refine ⟨i+1,by omega,by omega,?_⟩;rw [hnx,En,CN,List.append_nil,fin,hN];refine AI.mk hE (lk [(0,6291457)]) _ _ _ ?_ ?_ ?_ ?_ ?_<;>simp
         rintro c (⟨a,_,rfl⟩ | rfl | rfl)<;>simp
   . simp at h
     have e:l.take i=l:=List.take_of_length_le h;rw [e];simp;rcases CO (chainR l).reverse with h | ⟨o,x,h⟩
     . simp only [h]
       refine AI.mk hE (lk []) _ _ _ ?_ ?_ ?_ ?_ ?_<;>simp [Ld]
     . simp only [h]
       rw [CN];exact WK hE (lk [(0,0)])
 . rcases CO (chainR l).reverse with h | ⟨o,x,h⟩
   . simp only [h]
     simp;apply RZ;simp [results274]
   . simp only [h]
     rw [CN];simp;refine AB.by (lk [(0,0)]) ?_;simp [results274]
theorem xi (out z:List (Int × Int)):Fz1 (lk (Ld out z 0)) (Ju out 0) (.d (An out)):=by
 by_cases h:out=[]
 . subst h;exact Or.inr ⟨rfl,2,rfl⟩
 . rw [GP h,GQ h]
   exact fD (z:=z) (by simp [lk])
theorem wr {P:Program} {f:FuncId} {args:List V} {out z:List (Int × Int)} (h:Ct P f args (Ju out 0) (Ld out z 0)):Ct P f args (.d (An out)) []:=by
 refine Cm.freeze h ?_;have h1:=xi out z;unfold Fz;split
 . rename_i e _;rcases CO out with h2 | ⟨o,x,h2⟩<;>rw [h2] at e<;>simp at e
 . exact h1
theorem AAG (l:List (Int × Int)) (hl:l.length<=100000) (hbd:∀ q∈l,bd 536870912 q):Ct prog 274 [.d (An l)] (.d (An (chainR l).reverse)) []:=wr (tX l hl hbd)
open Go.Geo (cross chainR Bo)
theorem vn (s:List (Int × Int)) (hl:s.length<=100000) {E:Ent} (hE:∀ i,¬ E.stab i) {Q:Av->St->Prop}:∀ k:Nat,k<=s.length->PW prog tys eqs E ri
   (DP (fun st'=>∃ j,j<=s.length/\s.length - j < s.length - k/\AI prog E st' ⟨AO [(3, .d (An s)),(4,Ju (s.reverse.take j) 0),(5,vi ((s.length:Int) - 1 - j))],lk (AAV (s.reverse.take j) 0),1⟩)
     (exC prog E Q 0 (fun _:Unit=>⟨AO [(3, .d (An s)),(4,Ju s.reverse 0)],lk (AAV s.reverse 0),1⟩) (fun _=>True)))
   ⟨AO [(3, .d (An s)),(4,Ju (s.reverse.take k) 0),(5,vi ((s.length:Int) - 1 - k))],lk (AAV (s.reverse.take k) 0),1⟩:=by
 intro k hk;by_cases h:k < s.length
 . obtain ⟨e,he⟩:∃ e,e=s.length - 1 - k:=⟨_,rfl⟩
   have hee:(s.length:Int) - 1 - k=(e:Int):=by omega
   obtain ⟨p,hp⟩:∃ p,s[e]?= some p:=⟨_,List.getElem?_eq_getElem (by omega)⟩
   have hrp:s.reverse[k]?= some p:=by rw [List.getElem?_reverse h,<-he];exact hp
   have hnx:s.reverse.take (k+1)=s.reverse.take k++[p]:=by rw [List.take_add_one,hrp];rfl
   have w1:IntKind.wrap .i64 ((e:Int) - 1)=(s.length:Int) - 1 - ((k+1:Nat):Int):=by rw [AD (by omega) (by omega)];omega
   have hol:(s.reverse.take k).length=k:=by simp;omega
   rw [hee];obtain ⟨O,hO⟩:∃ O,s.reverse.take k=O:=⟨_,rfl⟩
   rw [hO] at hnx hol ⊢;have fin:BC (O++[p])=(spD O).map V.d++[vi p.1,vi p.2]:=Sj p O;by_cases hne:O=[]
   . subst hne
     simp [ri,hp,AM,AA,w1];refine ⟨k+1,by omega,by omega,?_⟩;rw [hnx,GP (by simp),Gx (by simp),fin];exact WK hE (lk [(0,8388609)])
   . have hsl:=Di O
     have htk:List.take (O.length*2) (BC O)=BC O:=List.take_of_length_le (by simp);have n1:(O.length+1)*16<=140737488355328:=by omega
     have n2:O.length+1<=9223372036854775807:=by omega
     rw [GP hne,Gx hne];simp [ri,hp,AM,AA,w1,hsl,htk,n1,n2];refine ⟨k+1,by omega,by omega,?_⟩;rw [hnx,GP (by simp),Gx (by simp),fin];refine AI.mk hE (lk [(0,8388609)]) _ _ _ ?_ ?_ ?_ ?_ ?_<;>simp
     rintro c (⟨a,_,rfl⟩ | rfl | rfl)<;>simp
 . have e:k=s.length:=by omega
   have hneg:(s.length:Int) - 1 - k= -1:=by omega
   have hrev:s.reverse.take k=s.reverse:=List.take_of_length_le (by simp;omega);rw [hneg,hrev];rcases CO s.reverse with h | ⟨o,x,h⟩
   . simp only [h]
     simp [ri];exact WK hE (lk [])
   . simp only [h]
     simp [ri];refine AI.mk hE (lk [(0,0)]) _ _ _ ?_ ?_ ?_ ?_ ?_<;>simp
     rintro c (⟨a,_,rfl⟩ | rfl | rfl)<;>simp
theorem vZ (l:List (Int × Int)) (hl:l.length<=100000) (h3:(ddC (DK l)).length < 3):Ct prog 229 [.d (An l)] (.d (An (Fb l))) []:=by
 have c1:=yD l hl;have e:Fb l=ddC (DK l):=by unfold Fb Bo;rw [if_pos h3]
 rw [e]
 generalize ddC (DK l)=s at*
 have h3':(s.length:Int) < 3:=by omega
 refine CB func229 zx fun E hE=>?_
 simp [p229];refine CLa c1 ?_;simp [h3'];apply RZ;simp [results229]
theorem wm (l:List (Int × Int)) (hl:l.length<=100000) (hbd:∀ q∈l,bd 536870912 q) (h3:¬ (ddC (DK l)).length < 3):Ct prog 229 [.d (An l)] (Ju (Fb l) 0) (Ld (Fb l) [] 0):=by
 have c1:=yD l hl;have e:Fb l=(chainR (ddC (DK l))).tail.reverse++(chainR (ddC (DK l)).reverse).tail.reverse:=by unfold Fb Bo;rw [if_neg h3]
 have hsl:(ddC (DK l)).length<=l.length:=by
   have:=I6 (DK l) (DK l).length;rw [List.take_length,El] at this;exact this
 have hsb:∀ q∈ddC (DK l),bd 536870912 q:=fun q hq=>hbd q (by rwa [Su,Lw] at hq)
 obtain ⟨s,hs⟩:∃ s,ddC (DK l)=s:=⟨_,rfl⟩
 have hso:Go.Geo.Sorted s:=by rw [<-hs];exact JN l
 rw [hs] at c1 e h3 hsl hsb;obtain ⟨f,g,lo,up,_,_,_,hlo,hup,_,hupl⟩:=Go.Geo.chains hso (by omega)
 obtain ⟨mid,hmid⟩:∃ mid,up.reverse=g::mid:=by
   have:up.reverse.head?= some g:=by rw [List.head?_reverse];exact hupl
   cases hr:up.reverse with
   | nil=>rw [hr] at this;simp at this
   | cons a r=>rw [hr] at this;simp at this;subst this;exact ⟨r,rfl⟩
 have e2:Fb l=(chainR s).reverse++mid:=by rw [e,hlo,hup];simp [hmid]
 have e3:(chainR s.reverse).reverse=g::(mid++[f]):=by rw [hup,List.reverse_cons,hmid];rfl
 have c2:=AAG s (by omega) hsb;have c3:=tX s.reverse (by simp;omega) (fun q hq=>hsb q (List.mem_reverse.1 hq));rw [e3,GP (by simp),GQ (by simp),List.append_nil] at c3;have h3':¬ (s.length:Int) < 3:=by omega
 have w1:IntKind.wrap .i64 ((s.length:Int) - 1)=(s.length:Int) - 1:=AD (by omega) (by omega);have hne:s.reverse≠[]:=by intro h;rw [List.reverse_eq_nil_iff] at h;rw [h] at h3;simp at h3
 refine Ct.by gok eok mixed func229 zx rfl (by simp [ntmps229]) (by simp) ?_ fun E hE=>?_
 . rw [e2,hlo,GP (by simp),GQ (by simp)];simp [LD]
 simp [p229];refine CLa c1 ?_;simp [h3',w1];refine BL (α:=Nat) 0 (fun _:Unit=>⟨AO [(3, .d (An s)),(4,Ju s.reverse 0)],lk (AAV s.reverse 0),1⟩) (fun _=>True) (fun j=>⟨AO [(3, .d (An s)),(4,Ju (s.reverse.take j) 0),(5,vi ((s.length:Int) - 1 - j))],lk (AAV (s.reverse.take j) 0),1⟩) (fun j=>j<=s.length) (fun j=>s.length - j) 0 ?_ ?_ ?_ fun _ _=>?_
 . simp
 . simp only [List.take_zero]
   exact WK hE (lk [])
 . exact vn s (by omega) hE
 . rw [GP hne,Gx hne]
   simp;refine CLa c2 ?_;simp
   have hbor:∀ H:Hp,H 0=some (BC s.reverse)->Bor H (.ls 0 0 s.length 2) (.d (An s.reverse)):=fun H h=>by
     have:=fD (H:=H) (id:=0) (l:=s.reverse) (z:=[]) (by rw [List.append_nil];exact h)
     rwa [List.length_reverse] at this
   refine AU.mk _ _ _ c3 (by refine ⟨hbor _ (by simp),trivial⟩) (by simp) (by right;simp;exact fun a h=>xZ a h) ?_;obtain ⟨LO,hLO⟩:∃ LO,(chainR s).reverse=LO:=⟨_,rfl⟩
   have hLOn:LO≠[]:=by rw [<-hLO,hlo];simp
   have hcl:=Ez s;have hcu:=Ez s.reverse;rw [hLO] at e2 ⊢;have hLOl:LO.length<=100000:=by rw [<-hLO];simp;omega
   have hml:mid.length<=100000:=by
     have:(g::(mid++[f])).length=(chainR s.reverse).length:=by rw [<-e3];simp
     simp at this hcu;omega
   have hfl:(List.map (List.map V.d ∘ fun s:Int × Int=>[di s.1,di s.2]) LO).flatten=BC LO:=by
     show _=(spD LO).map V.d
     unfold spD;rw [List.map_flatMap,List.flatMap_def];rfl
   have hcell:∀ x:V,x∈BC LO->x.isCell=true:=fun x hx=>by
     obtain ⟨y,_,rfl⟩:=List.mem_map.1 hx;rfl
   have n1:LO.length*16<=140737488355328:=by omega
   have n2:LO.length<=9223372036854775807:=by omega
   have w2:IntKind.wrap .i64 ((mid.length:Int)+1)=((mid.length+1:Nat):Int):=by rw [AD (by omega) (by omega)];omega
   have hcut:List.take (mid.length*2) (List.drop 2 (List.map V.d (spD (g::(mid++[f])))))=BC mid:=KL mid [f];have hcut2:2+mid.length*2<=(mid.length+1+1)*2:=by omega
   have hcm:∀ x:V,x∈BC mid->x.isCell=true:=fun x hx=>by
     obtain ⟨y,_,rfl⟩:=List.mem_map.1 hx;rfl
   have w4:(1:Int)<=(mid.length:Int)+1:=by omega
   have w3:(0:Int)<=(mid.length:Int)+1/\(mid.length:Int)<=(mid.length:Int)+1:=by omega
   have hfit:LO.length*2<=(BC LO).length/\(LO.length+mid.length)*16<=140737488355328/\LO.length+mid.length<=9223372036854775807:=by simp;omega
   simp;refine AL [(2,6291457)] (by kernel_rfl) ?_;simp [inC,Nat.testBit,AM,hfl,n1,n2,w2,w3,w4,hfit,hcut,hcut2];have hne2:LO++mid≠[]:=by simp [hLOn]
   have htk:List.take (LO.length*2) (BC LO)=BC LO:=List.take_of_length_le (by simp)
   have happ:BC LO++BC mid=BC (LO++mid):=by
     show (spD LO).map V.d++(spD mid).map V.d=(spD (LO++mid)).map V.d
     rw [<-List.map_append];unfold spD;rw [List.flatMap_append]
   rw [e2,GP hne2,GQ hne2,List.append_nil,List.length_append,htk,happ];refine AB.by (lk [(0,14680065)]) ?_;simp [results229]
theorem AAE (l:List (Int × Int)) (hl:l.length<=100000) (hbd:∀ q∈l,bd 536870912 q):Ct prog 229 [.d (An l)] (.d (An (Fb l))) []:=by
 by_cases h3:(ddC (DK l)).length < 3
 . exact vZ l hl h3
 . exact wr (wm l hl hbd h3)
theorem yb {p:Int × Int}:okC p=((decide (-268435456<=p.1)&&decide (p.1<=268435456))&&(decide (-268435456<=p.2)&&decide (p.2<=268435456))):=by
 rw [Bool.eq_iff_iff,NH];simp only [bd,Bool.and_eq_true,decide_eq_true_eq]
theorem yE (l:List (Int × Int)) (hl:l.length<=1000000000):Ct prog 227 [.d (An l)] (vb (EJ l)) []:=by
 refine CB func227 c227 fun E hE=>?_
 simp [p227];refine Al (α:=Nat) (fun i=>⟨AO [(0, .d (An l)),(3,vi i)],lk [],0⟩) (fun i=>i<=l.length/\EJ (l.take i)=true) (fun i=>l.length - i) 0 ?_ ?_ ?_
 . simp [EJ]
 . exact WK hE (lk [])
 . rintro i ⟨hi,hg⟩
   have hz:IntKind.wrap .i64 ((i:Int)+1)=((i:Int)+1):=AD (by omega) (by omega);simp [wX];refine Bh (fun h=>?_) (fun h=>?_)
   . simp at h
     have hil:i < l.length:=by omega
     obtain ⟨p,hp⟩:∃ p,l[i]?= some p:=⟨l[i],by simp [hil]⟩
     obtain ⟨b1,hb1⟩:∃ b1,(decide (-268435456<=p.1)&&decide (p.1<=268435456))=b1:=⟨_,rfl⟩
     have hb:=yb (p:=p);rw [hb1] at hb;simp [hp];refine CLa (Xb p.1 (-268435456) 268435456) ?_;rw [hb1];cases b1
     . simp
       apply RZ;simp [results227,Jh hp hb]
     . simp [hp]
       refine CLa (Xb p.2 (-268435456) 268435456) ?_;rw [Bool.true_and] at hb;rw [<-hb];cases hc:okC p
       . simp
         apply RZ;simp [results227,Jh hp hc]
       . simp [hz]
         refine ⟨i+1,⟨by omega,by rw [RA hp,hg,hc];rfl⟩,by omega,?_⟩;exact WK hE (lk [])
   . simp at h
     have hil:i=l.length:=by omega
     subst hil;rw [List.take_length] at hg;simp;apply RZ;simp [results227,hg]
theorem xT (r:List (Int × Int)):C7 r=((decide ((1:Int)<=r.length)&&decide ((r.length:Int)<=64))&&EJ r&&decide (Fb r=r)):=by
 unfold C7;rw [decide_eq_decide.2 (show 1<=r.length↔(1:Int)<=r.length by omega),decide_eq_decide.2 (show r.length<=64↔(r.length:Int)<=64 by omega)]
theorem yF (r:List (Int × Int)) (hr:r.length<=1000000000):Ct prog 169 [.d (An r)] (vb (C7 r)) []:=by
 refine CB func169 c169 fun E hE=>?_
 have e:=xT r;obtain ⟨b1,hb1⟩:∃ b1,(decide ((1:Int)<=r.length)&&decide ((r.length:Int)<=64))=b1:=⟨_,rfl⟩
 rw [hb1] at e;simp [p169];refine CLa (Xb (r.length:Int) 1 64) ?_;rw [hb1];cases b1
 . simp
   apply RZ;simp [results169,e]
 . simp only [Bool.and_eq_true,decide_eq_true_eq] at hb1
   simp;refine CLa (yE r hr) ?_;cases hn:EJ r
   . rw [hn] at e
     simp;apply RZ;simp [results169,e]
   . rw [hn] at e
     have hpl:=VM r;simp;refine CLa (AAE r (by omega) (fC hn)) ?_;simp;refine CLa (y9 (Fb r) r (by omega) hr) ?_;simp;apply RZ;simp [results169,e]
end Go.Proofs.Tryz
namespace Go.Geo
def box (a b p:C):Prop:=(min a.1 b.1<=p.1/\p.1<=max a.1 b.1)/\min a.2 b.2<=p.2/\p.2<=max a.2 b.2
def InR (r:List C) (p:C):Prop:=(∀ e∈cyc r,0<=cross e.1 e.2 p)/\(2 < r.length\/∃ a b,r.head?= some a/\r.getLast?= some b/\box a b p)
theorem dR {a b p:C} (hab:lt a b) (h1:le a p) (h2:le p b) (hc:cross a b p=0):box a b p:=by
 unfold box;unfold le lt at h1 h2;unfold lt at hab;unfold cross at hc;rcases hab with hab | ⟨h3,h4⟩
 . have k1:0<=p.1 - a.1:=by omega
   have k2:0<=b.1 - p.1:=by omega
   have e1:(b.1 - a.1)*(p.2 - a.2)=(b.2 - a.2)*(p.1 - a.1):=by omega
   have e2:(b.1 - a.1)*(b.2 - p.2)=(b.2 - a.2)*(b.1 - p.1):=by grind
   rcases Int.le_total a.2 b.2 with h | h
   . have q1:=Int.mul_nonneg (show 0<=b.2 - a.2 by omega) k1
     have q2:=Int.mul_nonneg (show 0<=b.2 - a.2 by omega) k2;have:=C8 (show 0 < b.1 - a.1 by omega) (by rw [e1];exact q1);have:=C8 (show 0 < b.1 - a.1 by omega) (by rw [e2];exact q2);omega
   . have q1:=Int.mul_nonneg (show 0<=a.2 - b.2 by omega) k1
     have q2:=Int.mul_nonneg (show 0<=a.2 - b.2 by omega) k2
     have:=C8 (y:=a.2 - p.2) (show 0 < b.1 - a.1 by omega) (by
      have:(b.1 - a.1)*(a.2 - p.2)=(a.2 - b.2)*(p.1 - a.1):=by grind
      rw [this];exact q1)
     have:=C8 (y:=p.2 - b.2) (show 0 < b.1 - a.1 by omega) (by
      have:(b.1 - a.1)*(p.2 - b.2)=(a.2 - b.2)*(b.1 - p.1):=by grind
      rw [this];exact q2)
     omega
 . omega
theorem hull_two {l:List C} (h:Sorted l) (h3:¬ l.length < 3) (hn:¬ 5<=(chainR l).length+(chainR l.reverse).length):∃ f g,l.head?= some f/\l.getLast?= some g/\lt f g/\Bo l=[f,g]/\chainR l=[g,f]/\chainR l.reverse=[f,g]:=by
 obtain ⟨f,g,lo,up,hf,hg,hfg,e1,e2,b1,b2⟩:=chains h (by omega)
 have hgl:lt f g:=by
   rcases lt_tri f g with h1 | h1 | h1
   . exact h1
   . exact absurd h1 hfg
   . exact absurd h1 (Dh h hf g (List.mem_of_getLast? hg))
 refine ⟨f,g,hf,hg,hgl,?_⟩;rw [e1,e2] at hn;unfold Bo;rw [if_neg h3,e1,e2]
 match lo,up,b1,b2,hn with
 | [x],[y],b1,b2,_=>simp at b1 b2;subst b1;subst b2;exact ⟨rfl,rfl,rfl⟩
 | [],_,b1,_,_=>simp at b1
 | _,[],_,b2,_=>simp at b2
 | _::_::_,_::_,_,_,hn=>simp at hn;omega
 | [_],_::_::_,_,_,hn=>simp at hn;omega
theorem hull_len {l:List C} (h3:¬ l.length < 3):(Bo l).length+2=(chainR l).length - 1+((chainR l.reverse).length - 1)+2:=by
 unfold Bo;rw [if_neg h3];simp
theorem chain_len2 {l:List C} (h:Sorted l) (h2:2<=l.length):2<=(chainR l).length/\2<=(chainR l.reverse).length:=by
 obtain ⟨f,g,lo,up,hf,hg,hfg,e1,e2,b1,b2⟩:=chains h h2;rw [e1,e2];constructor
 . cases lo with | nil=>simp at b1 | cons=>simp
 . cases up with | nil=>simp at b2 | cons=>simp
theorem hull_in {l:List C} (h:Sorted l):∀ q∈l,InR (Bo l) q:=by
 intro q hq;by_cases h3:l.length < 3
 . have e:Bo l=l:=by unfold Bo;rw [if_pos h3]
   rw [e]
   match l,h3,h,hq with
   | [],_,_,hq=>simp at hq
   | [a],_,_,hq=>
     simp at hq;subst hq;refine ⟨fun e he=>?_,Or.inr ⟨q,q,rfl,rfl,by unfold box;omega⟩⟩;simp [cyc,steps] at he;subst he;rw [cross_self];omega
   | [a,b],_,h,hq=>
     refine ⟨fun e he=>?_,Or.inr ⟨a,b,rfl,rfl,?_⟩⟩
     . simp [cyc,steps] at he
       simp at hq;rcases he with rfl | rfl<;>rcases hq with rfl | rfl<;>simp only [cross_self,cross_self2]<;>omega
     . simp at hq
       rcases hq with rfl | rfl<;>(unfold box;omega)
   | _::_::_::_,h3,_,_=>simp at h3;omega
 . have hl:=UN h (by omega)
   refine ⟨fun e he=>hl e he q hq,?_⟩;have hlen:=hull_len h3;have h22:=chain_len2 h (by omega);by_cases hn:5<=(chainR l).length+(chainR l.reverse).length
   . left;omega
   . right
     obtain ⟨f,g,hf,hg,hfg,e,_⟩:=hull_two h h3 hn;refine ⟨f,g,by rw [e];rfl,by rw [e];rfl,?_⟩;have c1:=hl (f,g) (by rw [e];simp [cyc,steps]) q hq;have c2:=hl (g,f) (by rw [e];simp [cyc,steps]) q hq;simp only at c1 c2;rw [cross_swap2] at c2
     have hlast:le q g:=by
       have hs:=Ks h;have:=Dh hs (f:=neg g) (by rw [List.head?_map,List.head?_reverse,hg];rfl) (neg q) (List.mem_map.2 ⟨q,List.mem_reverse.2 hq,rfl⟩);intro hlt;exact this (Qy.2 hlt)
     exact dR hfg (Dh h hf q hq) hlast (by omega)
theorem Eb.mono {d d':List C} (hd:∀ q∈d',q∈d):∀ {st:List C},Eb d st->Eb d' st
 | [],_=>trivial
 | [_],_=>trivial
 | [_,_],h=>⟨h.1,fun q hq=>h.2 q (hd q hq)⟩
 | _::_::_::_,h=>⟨h.1,h.2.1,fun q hq=>h.2.2.1 q (hd q hq),Eb.mono hd h.2.2.2⟩
def dot (d v:C):Int:=d.1*v.1+d.2*v.2
def T (w v:C):C:=(-(xp w v), -(dot w v))
theorem MG:∀ l:List C,(steps l).length=l.length - 1
 | []=>rfl
 | [_]=>rfl
 | _::b::r=>by simp only [steps,List.length_cons];rw [MG (b::r)];simp
theorem O3:∀ (l:List C) (i:Nat) (a b:C),l[i]?= some a->l[i+1]?= some b->(steps l)[i]?= some (a,b)
 | [],_,_,_,h,_=>by simp at h
 | [_],i,_,_,_,h=>by simp at h
 | x::y::r,0,a,b,h1,h2=>by simp at h1 h2;subst h1;subst h2;rfl
 | x::y::r,i+1,a,b,h1,h2=>by
   simp only [steps,List.getElem?_cons_succ] at h1 h2 ⊢;exact O3 (y::r) i a b h1 h2
theorem cyc_len (r:List C):(cyc r).length=r.length:=by
 cases r with
 | nil=>rfl
 | cons a t=>simp only [cyc];rw [MG];simp
theorem cyc_at {r:List C} {i j:Nat} {a b:C} (ha:r[i]?= some a) (hj:j=(i+1) % r.length) (hb:r[j]?= some b):(cyc r)[i]?= some (a,b):=by
 cases r with
 | nil=>simp at ha
 | cons x t=>
   have hi:=(List.getElem?_eq_some_iff.1 ha).1;simp only [cyc];refine O3 _ i a b ?_ ?_
   . rw [List.getElem?_append_left hi];exact ha
   . by_cases h:i+1 < (x::t).length
     . rw [Nat.mod_eq_of_lt h] at hj
       subst hj;rw [List.getElem?_append_left h];exact hb
     . have e:i+1=(x::t).length:=by omega
       rw [e,Nat.mod_self] at hj;subst hj;simp at hb;subst hb;rw [e,List.getElem?_append_right (Nat.le_refl _),Nat.sub_self];rfl
theorem MH:∀ {l:List C} {e:C × C},e∈steps l->e.1∈l/\e.2∈l
 | [],_,h=>by simp [steps] at h
 | [_],_,h=>by simp [steps] at h
 | a::b::r,e,h=>by
   simp only [steps,List.mem_cons] at h;rcases h with rfl | h
   . simp
   . have:=MH (l:=b::r) h
     exact ⟨List.mem_cons_of_mem _ this.1,List.mem_cons_of_mem _ this.2⟩
theorem cyc_mem {r:List C} {e:C × C} (h:e∈cyc r):e.1∈r/\e.2∈r:=by
 cases r with
 | nil=>simp [cyc] at h
 | cons a t=>
   simp only [cyc] at h;have:=MH h;simp only [List.mem_append,List.mem_cons,List.not_mem_nil,or_false] at this ⊢;constructor
   . rcases this.1 with h | h;exact h;exact Or.inl h
   . rcases this.2 with h | h;exact h;exact Or.inl h
end Go.Geo
namespace Go.Proofs.Tryz
open Go.Psl
open Go.Geo (cross cyc InR box)
def ZU (p:Int × Int) (es:List ((Int × Int) × (Int × Int))):Bool:=es.all fun e=>decide (0<=cross e.1 e.2 p)
theorem ua {p:Int × Int} {es:List ((Int × Int) × (Int × Int))} {i:Nat} {e:(Int × Int) × (Int × Int)} (h:es[i]?= some e):ZU p (es.take (i+1))=(ZU p (es.take i)&&decide (0<=cross e.1 e.2 p)):=by
 unfold ZU;rw [List.take_add_one,h,List.all_append];simp
theorem wP {p:Int × Int} {es:List ((Int × Int) × (Int × Int))} {i:Nat} {e:(Int × Int) × (Int × Int)} (h:es[i]?= some e) (hc:cross e.1 e.2 p < 0):ZU p es=false:=by
 unfold ZU;rw [List.all_eq_false];exact ⟨e,List.mem_of_getElem? h,by simp;omega⟩
theorem MJ {p:Int × Int} {es:List ((Int × Int) × (Int × Int))}:ZU p es=true↔∀ e∈es,0<=cross e.1 e.2 p:=by
 unfold ZU;simp [List.all_eq_true]
def ZV (n lo hi:Int):Bool:=decide (lo<=n)&&decide (n<=hi)
def Lj (r:List (Int × Int)) (p:Int × Int):Bool:=match r with
 | []=>false
 | [a]=>decide (a=p)
 | a::b::t=>ZU p (cyc r)&&(decide (0 < t.length)||(ZV p.1 a.1 b.1&&ZV p.2 (min a.2 b.2) (max a.2 b.2)))
theorem zd (r:List (Int × Int)) (p:Int × Int) (h1:1<=r.length) (hl:r.length<=1000000) (hr:∀ q∈r,bd 536870912 q) (hp:bd 536870912 p):Ct prog 311 [.d (An r),vsp p.1 p.2] (vb (Lj r p)) []:=by
 match r,h1,hl,hr with
 | [],h1,_,_=>simp at h1
 | [a],_,_,_=>
   have e:Lj [a] p=(decide (a.1=p.1)&&decide (a.2=p.2)):=by
     unfold Lj;rw [Bool.eq_iff_iff];simp [Prod.ext_iff]
   refine CB func311 AAC fun E hE=>?_
   simp [p311,inC,Nat.testBit];apply RZ;simp [results311,e]
 | a::b::t,_,hl,hr=>
   obtain ⟨n,hn⟩:∃ n,(a::b::t).length=n:=⟨_,rfl⟩
   have hn2:2<=n:=by rw [<-hn];simp
   have e:Lj (a::b::t) p=(ZU p (cyc (a::b::t))&&(decide ((2:Int) < n)||(ZV p.1 a.1 b.1&&ZV p.2 (min a.2 b.2) (max a.2 b.2)))):=by
     show (ZU p (cyc (a::b::t))&&(decide (0 < t.length)||(ZV p.1 a.1 b.1&&ZV p.2 (min a.2 b.2) (max a.2 b.2))))=_
     rw [decide_eq_decide.2 (show 0 < t.length↔(2:Int) < n by rw [<-hn];simp;omega)]
   have g0:(a::b::t)[0]?= some a:=rfl;have g1:(a::b::t)[1]?= some b:=rfl;obtain ⟨R,hR⟩:∃ R,a::b::t=R:=⟨_,rfl⟩
   rw [hR] at hn e g0 g1 hr hl ⊢;rw [hn] at hl;have hn1:¬ (n:Int)=1:=by omega
   have hcl:=Go.Geo.cyc_len R;refine CB func311 AAC fun E hE=>?_
   simp [p311,hn,hn1];refine Al (α:=Nat) (fun i=>⟨AO [(0, .d (An R)),(3, .lp 0 0),(5,vi i)],lk [(0,[vi p.1,vi p.2])],1⟩) (fun i=>i<=n/\ZU p ((cyc R).take i)=true) (fun i=>n - i) 0 ?_ ?_ ?_
   . simp [ZU]
   . exact WK hE (lk [(0,0)])
   . rintro i ⟨hi,hg⟩
     simp [wj,hn];refine Bh (fun h=>?_) (fun h=>?_)
     . simp at h
       have hil:i < R.length:=by omega
       have hz:=@wz i (by omega);obtain ⟨x,hx⟩:∃ x,R[i]?= some x:=⟨R[i],by simp [hil]⟩
       obtain ⟨j,hj⟩:∃ j,j=(i+1) % n:=⟨_,rfl⟩
       have hjn:j < n:=by rw [hj];exact Nat.mod_lt _ (by omega)
       obtain ⟨y,hy⟩:∃ y,R[j]?= some y:=⟨R[j],by simp [show j < R.length by omega]⟩
       have hcy:=Go.Geo.cyc_at hx (by rw [hn];exact hj) hy;obtain ⟨i1,hi1⟩:∃ i1,i1=i+1:=⟨_,rfl⟩
       rw [<-hi1] at hz hj;have q1:(0:Int)<=(i1:Int).tmod (n:Int):=Int.natCast_nonneg (i1 % n);have q2:((i1:Int).tmod (n:Int)).toNat=j:=by rw [hj];rfl
       have hnz:¬ (n:Int)=0:=by omega
       have hnz':¬ n=0:=by omega
       have c:=yK x y p (hr x (List.mem_of_getElem? hx)) (hr y (List.mem_of_getElem? hy)) hp;simp [hx,hz,hn,inC,Nat.testBit,hnz',q1,q2,hy];refine CLa c ?_;by_cases hc:cross x y p < 0
       . simp [hc]
         apply RZ;simp [results311,e,wP hcy hc]
       . simp [hc,hz]
         refine ⟨i1,⟨by omega,by rw [hi1,ua hcy,hg,decide_eq_true (by simp only;omega)];rfl⟩,by omega,?_⟩;exact WK hE (lk [(0,0)])
     . simp at h
       have ein:i=n:=by omega
       have hg2:ZU p (cyc R)=true:=by rw [ein,<-hn,<-hcl,List.take_length] at hg;exact hg
       rw [hg2] at e;by_cases h3:(2:Int) < n
       . rw [decide_eq_true h3] at e
         simp [hn,h3];apply RZ;simp [results311,e]
       . rw [decide_eq_false h3] at e
         have d1:=Xb p.1 a.1 b.1;have d2:=Xb p.2 (min a.2 b.2) (max a.2 b.2);obtain ⟨B,hB⟩:∃ B,ZV p.1 a.1 b.1=B:=⟨_,rfl⟩
         obtain ⟨B2,hB2⟩:∃ B2,ZV p.2 (min a.2 b.2) (max a.2 b.2)=B2:=⟨_,rfl⟩
         rw [hB,hB2] at e;rw [show (decide (a.1<=p.1)&&decide (p.1<=b.1))=B from hB] at d1;rw [show (decide (min a.2 b.2<=p.2)&&decide (p.2<=max a.2 b.2))=B2 from hB2] at d2;have hn0i:(0:Int) < (n:Int)/\(1:Int) < (n:Int):=by omega
         simp [inC,Nat.testBit,hn,h3,g0,g1];refine CLa d1 ?_;cases B
         . simp
           apply RZ;simp [results311,e]
         . simp [inC,Nat.testBit,g0,g1]
           refine CLa d2 ?_;cases B2
           . simp
             apply RZ;simp [results311,e]
           . simp
             apply RZ;simp [results311,e]
end Go.Proofs.Tryz
namespace Go.Psl
variable {P:Program} {Γ:Tys} {eqs:Eqs} {E:Ent}
def rid (ks:List Nat) (i:Nat):Option Nat:=if i∈ks then some i else none
structure A4 (ks:List Nat) (L:List (Nat × List V)):Prop where
 names:L.map (·.1)=ks
 nd:ks.Nodup
 cells:∀ p∈L,p.2≠[]/\Bv p.2/\∀ c∈p.2,WC (rid ks) c c
theorem Cr {ks:List Nat} {i:Nat} (h:i∈ks):rid ks i=some i:=by simp [rid,h]
theorem ay:∀ {L:List (Nat × List V)},(L.map (·.1)).Nodup->∀ p∈L,lk L p.1=some p.2
 | [],_,p,hp=>by simp at hp
 | q::r,hn,p,hp=>by
   simp only [List.map_cons,List.nodup_cons] at hn;simp only [lk];rcases List.mem_cons.1 hp with rfl | hp
   . simp
   . have:p.1≠q.1:=fun e=>hn.1 (e ▸ List.mem_map.2 ⟨p,hp,rfl⟩)
     rw [if_neg this];exact ay hn.2 p hp
section
variable {ks:List Nat} {L L1:List (Nat × List V)}
theorem A4.lk (h:A4 ks L) {p:Nat × List V} (hp:p∈L):Go.Psl.lk L p.1=some p.2:=ay (by rw [h.names];exact h.nd) p hp
theorem A4.mem (h:A4 ks L) {p:Nat × List V} (hp:p∈L):p.1∈ks:=by rw [<-h.names];exact List.mem_map.2 ⟨p,hp,rfl⟩
theorem A4.isIn (h:A4 ks L) {i:Nat}:(Go.Psl.lk L i).isSome=true↔i∈ks:=by
 constructor
 . intro hi
   obtain ⟨x,hx⟩:=Option.isSome_iff_exists.1 hi;exact h.mem (p:=(i,x)) (B4 hx)
 . intro hi
   rw [<-h.names] at hi;obtain ⟨p,hp,rfl⟩:=List.mem_map.1 hi;rw [h.lk hp];rfl
theorem Dz {i j:Nat} (h:rid ks i=some j):i∈ks/\j=i:=by
 unfold rid at h;split at h
 . cases h;exact ⟨by assumption,rfl⟩
 . cases h
theorem FH {c:V} (h:W0 (rid ks) c c):A0 (·∈ks) AR c/\∀ b,DR (sg ks b) c=c:=by
 cases c with
 | junk=>exact ⟨trivial,fun _=>rfl⟩
 | d x=>exact ⟨trivial,fun _=>rfl⟩
 | lp i o=>
   obtain ⟨j,hj,_⟩:=h;have hi:=(Dz hj).1;exact ⟨hi,fun b=>by simp [DR,sg,hi]⟩
 | ls i o l z=>
   unfold W0 at h;simp only at h;split at h
   . rename_i j hj
     have hi:=(Dz hj).1;exact ⟨hi,fun b=>by simp [DR,sg,hi]⟩
   . cases h.2
 | yl i=>
   obtain ⟨j,hj,_⟩:=h;have hi:=(Dz hj).1;exact ⟨hi,fun b=>by simp [DR,sg,hi]⟩
 | lr=>exact False.elim h
 | cl f cs=>exact ⟨trivial,fun _=>rfl⟩
 | agg cs=>exact ⟨trivial,fun _=>rfl⟩
 | tup cs=>exact ⟨trivial,fun _=>rfl⟩
theorem Et {α:Type} {f:α->α}:∀ {l:List α},(∀ x∈l,f x=x)->l.map f=l
 | [],_=>rfl
 | a::l,h=>by rw [List.map_cons,h a (by simp),Et fun x hx=>h x (List.mem_cons_of_mem _ hx)]
theorem GY {α:Type} {R:α->α->Prop}:∀ {l:List α},AJ R l l->∀ x∈l,R x x
 | [],_,_,hx=>by simp at hx
 | a::l,h,x,hx=>by
   rcases List.mem_cons.1 hx with rfl | hx
   . exact h.1
   . exact GY h.2 x hx
theorem MM {α:Type} {R:α->α->Prop}:∀ {l:List α},(∀ x∈l,R x x)->AJ R l l
 | [],_=>trivial
 | a::l,h=>⟨h a (by simp),MM fun x hx=>h x (List.mem_cons_of_mem _ hx)⟩
theorem FI {c:V} (h:A0 (·∈ks) AR c) (b:Nat):DR (sg ks b) c=c:=by
 cases c<;>first | rfl | (have h2:_∈ks:=h;simp [DR,sg,h2]) | exact False.elim h
theorem FJ {c:V} (h:A1 (·∈ks) AR c) (b:Nat):DS (sg ks b) c=c:=by
 cases c with
 | cl f cs=>simp only [DS];rw [Et fun x hx=>FI (h x hx) b]
 | junk=>exact FI (ks:=ks) (c:= .junk) h b
 | d x=>exact FI (ks:=ks) (c:= .d x) h b
 | lp i o=>exact FI (ks:=ks) (c:= .lp i o) h b
 | ls i o l z=>exact FI (ks:=ks) (c:= .ls i o l z) h b
 | yl i=>exact FI (ks:=ks) (c:= .yl i) h b
 | lr f n p pa pb j=>exact FI (ks:=ks) (c:= .lr f n p pa pb j) h b
 | agg cs=>exact FI (ks:=ks) (c:= .agg cs) h b
 | tup cs=>exact FI (ks:=ks) (c:= .tup cs) h b
theorem FL {c:V} (h:A2 (·∈ks) AR c) (b:Nat):HR (sg ks b) c=c:=by
 cases c with
 | agg cs=>simp only [HR];rw [Et fun x hx=>FJ (h x hx) b]
 | junk=>exact FJ (ks:=ks) (c:= .junk) h b
 | d x=>exact FJ (ks:=ks) (c:= .d x) h b
 | lp i o=>exact FJ (ks:=ks) (c:= .lp i o) h b
 | ls i o l z=>exact FJ (ks:=ks) (c:= .ls i o l z) h b
 | yl i=>exact FJ (ks:=ks) (c:= .yl i) h b
 | lr f n p pa pb j=>exact FJ (ks:=ks) (c:= .lr f n p pa pb j) h b
 | cl f cs=>exact FJ (ks:=ks) (c:= .cl f cs) h b
 | tup cs=>exact FJ (ks:=ks) (c:= .tup cs) h b
theorem R9 {c:V} (h:AV (·∈ks) AR c) (b:Nat):ren (sg ks b) c=c:=by
 cases c with
 | tup cs=>simp only [ren];rw [Et fun x hx=>FL (h x hx) b]
 | junk=>exact FL (ks:=ks) (c:= .junk) h b
 | d x=>exact FL (ks:=ks) (c:= .d x) h b
 | lp i o=>exact FL (ks:=ks) (c:= .lp i o) h b
 | ls i o l z=>exact FL (ks:=ks) (c:= .ls i o l z) h b
 | yl i=>exact FL (ks:=ks) (c:= .yl i) h b
 | lr f n p pa pb j=>exact FL (ks:=ks) (c:= .lr f n p pa pb j) h b
 | cl f cs=>exact FL (ks:=ks) (c:= .cl f cs) h b
 | agg cs=>exact FL (ks:=ks) (c:= .agg cs) h b
theorem bB {c:V} (h:WC (rid ks) c c):AC (·∈ks) AR c/\∀ b,BJ (sg ks b) c=c:=by
 cases c with
 | lr fr nt ps pa pb jmp=>
   have h2:∀ t,AV (·∈ks) AR (fr t):=fun t=>AV.mono (fun i hi=>(Dz hi).1) (fun _ h=>h) (h.2 t)
   refine ⟨h2,fun b=>?_⟩;simp only [BJ];congr 1
   funext t;exact R9 (h2 t) b
 | cl f cs=>
   obtain ⟨cs',e,h2⟩:=h;cases e;have h3:=GY h2;exact ⟨fun c hc=>(FH (h3 c hc)).1,fun b=>by simp only [BJ,DS];rw [Et fun x hx=>(FH (h3 x hx)).2 b]⟩
 | junk=>exact ⟨trivial,fun _=>rfl⟩
 | d x=>exact ⟨trivial,fun _=>rfl⟩
 | lp i o=>exact FH (c:= .lp i o) h
 | ls i o l z=>exact FH (c:= .ls i o l z) h
 | yl i=>exact FH (c:= .yl i) h
 | agg cs=>exact False.elim h
 | tup cs=>exact False.elim h
theorem A4.ac (h:A4 ks L) {p:Nat × List V} (hp:p∈L):∀ c∈p.2,AC (·∈ks) AR c:=fun c hc=>(bB ((h.cells p hp).2.2 c hc)).1
theorem A4.hp (h:A4 ks L) {H:Hp} (hH:∀ i∈ks,H i=Go.Psl.lk L i):Ej (rid ks) H L:=by
 have key:∀ M:List (Nat × List V),(∀ p∈M,p∈L)->Ej (rid ks) H M:=by
   intro M;induction M with
   | nil=>intro _;trivial
   | cons p r ih=>
     intro hM;have hp:=hM p (by simp);have hm:=h.mem hp;obtain ⟨c1,c2,c3⟩:=h.cells p hp;refine ⟨?_,ih fun q hq=>hM q (List.mem_cons_of_mem _ hq)⟩;rw [Cr hm];exact ⟨⟨p.2,by rw [hH _ hm,h.lk hp],MM c3⟩,c2⟩
 exact key L fun _ h=>h
theorem A4.inj (h:A4 ks L):Bd (rid ks) L:=by
 have key:∀ M:List (Nat × List V),(∀ p∈M,p∈L)->Bd (rid ks) M:=by
   intro M;induction M with
   | nil=>intro _;trivial
   | cons p r ih=>
     intro hM;refine ⟨fun q hq=>?_,ih fun q hq=>hM q (List.mem_cons_of_mem _ hq)⟩;have h1:=h.mem (hM p (by simp));have h2:=h.mem (hM q (List.mem_cons_of_mem _ hq));rw [Cr h1,Cr h2];by_cases e:q.1=p.1
     . exact Or.inr (Or.inr e)
     . exact Or.inr (Or.inl fun e'=>e (Option.some.inj e'))
 exact key L fun _ h=>h
theorem A4.stab (_:A4 ks L) {H:Hp} (hH:∀ i∈ks,H i=Go.Psl.lk L i):DZ (rid ks) H (Go.Psl.lk L) ks:=by
 have key:∀ M:List Nat,(∀ i∈M,i∈ks)->DZ (rid ks) H (Go.Psl.lk L) M:=by
   intro M;induction M with
   | nil=>intro _;trivial
   | cons i r ih=>
     intro hM;have hi:=hM i (by simp);exact ⟨fun hs=>⟨Cr hi,by rw [hH i hi];exact hs⟩,ih fun j hj=>hM j (List.mem_cons_of_mem _ hj)⟩
 exact key ks fun _ h=>h
theorem A4.stabW (_:A4 ks L) {H:Hp} (hH:∀ i∈ks,H i=Go.Psl.lk L i) {n:Nat} (hn:∀ i∈ks,i < n):HD (rid ks) H (Go.Psl.lk L) n ks:=by
 have key:∀ M:List Nat,(∀ i∈M,i∈ks)->HD (rid ks) H (Go.Psl.lk L) n M:=by
   intro M;induction M with
   | nil=>intro _;trivial
   | cons i r ih=>
     intro hM;have hi:=hM i (by simp);exact ⟨hn i hi,fun hs=>⟨Cr hi,by rw [hH i hi];exact hs⟩,ih fun j hj=>hM j (List.mem_cons_of_mem _ hj)⟩
 exact key ks fun _ h=>h
theorem A4.ids (h:A4 ks L) {n:Nat} (hn:∀ i∈ks,i < n):A7 n L:=by
 have key:∀ M:List (Nat × List V),(∀ p∈M,p∈L)->A7 n M:=by
   intro M;induction M with
   | nil=>intro _;trivial
   | cons p r ih=>
     intro hM;have hp:=hM p (by simp);exact ⟨hn _ (h.mem hp),fun c hc=>AC.mono hn (fun _ h=>h) (h.ac hp c hc),ih fun q hq=>hM q (List.mem_cons_of_mem _ hq)⟩
 exact key L fun _ h=>h
theorem A4.res (h:A4 ks L):∀ p∈L,∀ c∈p.2,AC (InB L) AR c:=fun _ hp c hc=>AC.mono (fun _ hi=>h.isIn.2 hi) (fun _ h=>h) (h.ac hp c hc)
theorem AI.keep {st:St} (hs:∀ i,E.stab i↔i∈ks) (h:A4 ks L) (hH:∀ i∈ks,st.H i=Go.Psl.lk L i) {n:Nat} (hn:∀ i∈ks,i < n) (l:List (Nat × V)) (h1:CL (rid ks) st.fr l) (h4:Bw n l):AI P E st ⟨AO l,Go.Psl.lk L,n⟩:=
 AI.mkM hs (rid ks) l L n h1 (h.hp hH) h.inj h4 (h.ids hn) (h.stabW hH hn)
theorem Hn {H:Hp} {b:Nat} (hL:A4 ks L) (hL1:A4 ks L1):BI H b (Go.Psl.lk L) ks (Go.Psl.lk L1)=fun i=>if i∈ks then Go.Psl.lk L1 i else H i:=by
 funext i
 unfold BI;by_cases hi:i∈ks
 . simp only [hi,if_true]
   have h1:=hL1.isIn.2 hi;obtain ⟨x,hx⟩:=Option.isSome_iff_exists.1 h1;rw [hx];have hm:=hL1.cells (i,x) (B4 hx);simp only [Option.map_some];rw [Et fun c hc=>(bB (hm.2.2 c hc)).2 b]
 . simp only [hi,if_false]
   have h2:(Go.Psl.lk L i).isSome=false:=by
     cases hc:(Go.Psl.lk L i).isSome with
     | false=>rfl
     | true=>exact absurd (hL.isIn.1 hc) hi
   rw [h2];simp only [Bool.false_eq_true,if_false];split
   . split
     . rfl
     . rename_i hn
       have h3:Go.Psl.lk L1 (i - b)=none:=by
         cases hc:Go.Psl.lk L1 (i - b) with
         | none=>rfl
         | some x=>exact absurd (hL1.isIn.1 (by rw [hc];rfl)) hn
       rw [h3]
   . rfl
theorem Hq {H:Hp} {av args:List V} {res:Res} (hL:A4 ks L) (hL1:A4 ks L1) (hH:∀ i∈ks,H i=Go.Psl.lk L i) (hb:AJ (Bor noH) av args):IB H av args (Go.Psl.lk L) ks res (Go.Psl.lk L1):=
 ⟨fun i cs h=>by rw [hH i (hL.isIn.1 (by rw [h];rfl)),h],fun i h hn=>absurd (hL1.isIn.1 h) hn,fun i hi=>by
   obtain ⟨x,hx⟩:=Option.isSome_iff_exists.1 (hL.isIn.2 hi);exact ⟨x,hx,(hL.cells (i,x) (B4 hx)).1⟩,Or.inl hb⟩
theorem Fp.keep {H:Hp} {b k:Nat} {av:List V} {Kc Kx:V->Hp->Prop} (args:List V) (L L1:List (Nat × List V)) (ks:List Nat) (r:D) (hf:Ym P k args (Go.Psl.lk L) ks (.ret (.d r)) (Go.Psl.lk L1)) (hL:A4 ks L) (hL1:A4 ks L1)
   (hrec:∃ fr nt ps pa pb jmp,Go.Psl.lk L k=some [.lr fr nt ps pa pb jmp]/\ps.length=args.length) (hH:∀ i∈ks,H i=Go.Psl.lk L i) (hb:AJ (Bor noH) av args) (hk:Kc (.d r) (fun i=>if i∈ks then Go.Psl.lk L1 i else H i)):Fp P none H H b k av Kc Kx:=
 ⟨rfl,args,Go.Psl.lk L,ks, .ret (.d r),Go.Psl.lk L1,_,⟨hf,hrec,Hq hL hL1 hH hb⟩,(Hn hL hL1).symm,hk⟩
theorem AU.keep {H:Hp} {b:Nat} {g:FuncId} {av:List V} {Kc Kx:V->Hp->Prop} (args:List V) (L L1:List (Nat × List V)) (ks:List Nat) (r:V) (hf:Cm P g args (Go.Psl.lk L) ks (.ret r) (Go.Psl.lk L1)) (hL:A4 ks L) (hL1:A4 ks L1) (hr:AV (·∈ks) AR r)
   (hH:∀ i∈ks,H i=Go.Psl.lk L i) (hb:AJ (Bor noH) av args) (hk:Kc r (fun i=>if i∈ks then Go.Psl.lk L1 i else H i)):AU P none H H b g av Kc Kx:=
 ⟨args,Go.Psl.lk L,ks, .ret r,Go.Psl.lk L1,_,⟨hf,Hq hL hL1 hH hb⟩,trivial,(Hn hL hL1).symm,by show Kc (ren (sg ks b) r) _;rw [R9 hr];exact hk⟩
theorem Dc.keep {fn:Func} {st:St} (hn:fn.results= #[]) (h:A4 ks L) (hH:∀ i∈ks,st.H i=Go.Psl.lk L i):Dc Γ fn ks (.tup []) L st:=
 ⟨[],rid ks,by rw [hn];rfl,rfl,by simp,h.hp hH,h.inj,h.stab hH⟩
theorem E3.keep {fo:Operand} {ps:List Nat} {pa pb:PC} {Q:Av->St->Prop} {f:Nat->V} {H:Hp} {n:Nat} {g:FuncId} {caps:List V} (L L1:List (Nat × List V)) (ks:List Nat) (r:V) (jmp:LSt) (h0:E.rq) (hg:Be (evF f fo)=some (g,caps))
   (hf:Cm P g (.yl n::caps) (Go.Psl.lk ((n,[.lr f E.nt ps pa pb .ready])::L)) (n::ks) (.ret r) (Go.Psl.lk ((n,[.lr f E.nt ps pa pb jmp])::L1)))
   (hL:A4 (n::ks) ((n,[.lr f E.nt ps pa pb .ready])::L)) (hL1:A4 (n::ks) ((n,[.lr f E.nt ps pa pb jmp])::L1)) (hH:∀ i∈ks,H i=Go.Psl.lk L i) (hb:AJ (Bor noH) caps caps)
   (hq:Sm Q ⟨f,fun i=>if i=n then none else if i∈ks then Go.Psl.lk L1 i else H i,n+2097152⟩ jmp):PW P Γ eqs E (.rangeF fo ps pa pb) Q ⟨f,H,n⟩:=by
 have hH':∀ i∈n::ks,upd H n (some [.lr f E.nt ps pa pb .ready]) i=Go.Psl.lk ((n,[.lr f E.nt ps pa pb .ready])::L) i:=fun i hi=>by
   simp only [AY,Go.Psl.lk];by_cases e:i=n
   . simp [e]
   . simp only [e,if_false]
     rcases List.mem_cons.1 hi with h | h
     . exact absurd h e
     . exact hH i h
 refine ⟨h0,g,caps, .yl n::caps,_,n::ks, .ret r,_,hg,⟨hf,Hq hL hL1 hH' ⟨rfl,hb⟩⟩,by simp,jmp,by simp [Go.Psl.lk],?_⟩
 have e:upd (BI (upd H n (some [.lr f E.nt ps pa pb .ready])) (n+1048576) (Go.Psl.lk ((n,[.lr f E.nt ps pa pb .ready])::L)) (n::ks) (Go.Psl.lk ((n,[.lr f E.nt ps pa pb jmp])::L1))) n none=fun i=>if i=n then none else if i∈ks then Go.Psl.lk L1 i else H i:=by
   rw [Hn hL hL1]
   funext i
   simp only [AY];by_cases h:i=n
   . simp [h]
   . simp [h,Go.Psl.lk]
 show Sm Q ⟨f,upd (BI _ _ _ _ _) n none,n+2097152⟩ jmp
 rw [e];exact hq
theorem Hu.keep {k:Nat} {rc:LSt->V} {s:LSt} {st:St} (h:A4 ks L) (hb:st.H k=some [rc .busy]) (hH:∀ i∈ks,upd st.H k (some [rc s]) i=Go.Psl.lk L i):Hu k rc s ks L st:=
 ⟨hb,rid ks,h.hp hH,h.inj,h.stab hH⟩
end
structure Rnd (P:Program) (Γ:Tys) (eqs:Eqs) (k:Nat) (fr:Nat->V) (nt:Nat) (ps:List Nat) (pa pb:PC) (args:List V) (Hin:Hp) (ks:List Nat) (s:LSt) (H1:List (Nat × List V)) (N:Nat):Prop where
 run:∀ E:Ent,E.nt=nt->(∀ i,E.stab i↔i∈ks)->PW P Γ eqs E pa (DP (fun st=>st.H k=some [.lr fr nt ps pa pb .ready]/\PW P Γ eqs E pb (rH k (.lr fr nt ps pa pb) s ks H1) ⟨st.fr,upd st.H k (some [.lr fr nt ps pa pb .busy]),st.nx⟩) (fun _ _=>False)) ⟨BD fr ps args,Hin,N⟩
theorem Ym.ofR (hΓ:GOk P Γ) (hE:EB P eqs) (hm:P.follows .mixedOrders=true) {k:Nat} {fr:Nat->V} {nt:Nat} {ps:List Nat} {pa pb:PC} {args:List V} {ks:List Nat} {s:LSt} {L L1:List (Nat × List V)} (N:Nat)
   (hL:A4 ks L) (hL1:A4 ks L1) (hlt:∀ i∈ks,i < N) (hk:lk L k=some [.lr fr nt ps pa pb .ready]) (hlen:ps.length=args.length) (hps:∀ p∈ps,p < nt) (hcl:∀ v∈args,A2 (· < N) AR v)
   (h:Rnd P Γ eqs k fr nt ps pa pb args (lk L) ks s L1 N):Ym P k args (lk L) ks (.ret (.d (.lit (.bool (FP s))))) (lk L1):=
 Ym.of hΓ hE hm N hk (hL.isIn.1 (by rw [hk];rfl)) hlen hps hcl (A7.at (hL.ids hlt)) hlt hL1.res h.run
end Go.Psl
namespace Go.Proofs.Tryz
open Go.Psl
open Go.Geo (cross cyc InR box)
theorem qE (r:List (Int × Int)):Ct prog 193 [.d (An r)] (.cl 258 [.lp 0 0]) [(0,[.d (An r)])]:=by
 refine CB func193 c193 fun E hE=>?_
 simp [p193];refine AB.by (lk [(0,0)]) ?_;simp [results193]
theorem MK (r:List (Int × Int)) (hl:r.length<=1000000) (KS:List Nat) (k a m:Nat) (go:Nat->Bool) (L:Nat->List (Nat × List V)) (hk:k∈KS) (ha:a∈KS) (hN:∀ i∈KS,i < 1000000000) (hm:m<=r.length) (hL:∀ i,i<=m->A4 KS (L i))
   (hrec:∀ i,i < m->∃ fr nt ps pa pb jmp,lk (L i) k=some [.lr fr nt ps pa pb jmp]/\ps.length=2) (hbox:∀ i,i<=m->lk (L i) a=some [.d (An r)]) (hgo:∀ j,j+1 < m->go j=true) (hend:m=r.length\/(0 < m/\go (m - 1)=false))
   (hY:∀ i x y,i < m->(cyc r)[i]?= some (x,y)->Ym prog k [vsp x.1 x.2,vsp y.1 y.2] (lk (L i)) KS (.ret (vb (go i))) (lk (L (i+1)))):
   Cm prog 258 [.yl k, .lp a 0] (lk (L 0)) KS (.ret (.tup [])) (lk (L m)):=by
 refine Cm.by gok eok mixed 1000000000 func258 c258 rfl (by simp [ntmps258]) (by simp;exact ⟨hN k hk,hN a ha⟩) (A7.at ((hL 0 (by omega)).ids hN)) hN ⟨by simp,(hL m (Nat.le_refl _)).res⟩ fun E hs hE=>?_
 have haN:=hN a ha;have na:∀ x,1000000000<=x->¬ a=x:=fun x _=>by omega
 have la:∀ x,1000000000<=x->a < x:=fun x _=>by omega
 have b0:=hbox 0 (by omega);simp [p258,b0];refine Al (α:=Nat) (fun i=>⟨AO [(0, .yl k),(1, .lp a 0),(5, .d (An r)),(6,vi r.length),(7,vi i)],lk (L i),1000000000⟩) (fun i=>i<=m/\(i=m->m=r.length)) (fun i=>m - i) 0 ?_ ?_ ?_
 . omega
 . refine AI.keep hs (hL 0 (by omega)) (fun i _=>by simp) hN _ ?_ ?_
   . simp [Cr hk,Cr ha]
   . simp [hN k hk,hN a ha]
 . rintro i ⟨hi,him⟩
   simp [bW];refine Bh (fun h=>?_) (fun h=>?_)
   . simp at h
     have him2:i < m:=by omega
     have bi:=hbox i hi;obtain ⟨x,hx⟩:=gE h;obtain ⟨n,hn⟩:∃ n,r.length=n:=⟨_,rfl⟩
     rw [hn] at h hl hm him hend;obtain ⟨j,hj⟩:∃ j,j=(i+1) % n:=⟨_,rfl⟩
     have hjn:j < n:=by rw [hj];exact Nat.mod_lt _ (by omega)
     obtain ⟨y,hy⟩:∃ y,r[j]?= some y:=⟨r[j],by simp [show j < r.length by omega]⟩
     have hcy:=Go.Geo.cyc_at hx (by rw [hn];exact hj) hy;have hY':=hY i x y him2 hcy;obtain ⟨fr,nt,ps,pa,pb,jmp,hr1,hr2⟩:=hrec i him2;obtain ⟨i1,hi1⟩:∃ i1,i1=i+1:=⟨_,rfl⟩
     have hz:IntKind.wrap .i64 ((i:Int)+1)=(i1:Int):=by rw [AD (by omega) (by omega)];omega
     rw [<-hi1] at hj hY';have q1:(0:Int)<=(i1:Int).tmod (n:Int):=Int.natCast_nonneg (i1 % n);have q2:((i1:Int).tmod (n:Int)).toNat=j:=by rw [hj];rfl
     have hnz:¬ (n:Int)=0:=by omega
     have hnz':¬ n=0:=by omega
     simp [hx,hz,hn,inC,Nat.testBit,AA,bi,na,la,hnz',q1,q2,hy];have hne:∀ q∈KS,¬ q=1004194304:=fun q hq e=>by have:=hN q hq;omega
     refine Fp.keep [vsp x.1 x.2,vsp y.1 y.2] (L i) (L i1) KS _ hY' (hL i hi) (hL i1 (by omega)) ⟨fr,nt,ps,pa,pb,jmp,hr1,hr2⟩ (fun q hq=>by simp [hne q hq]) (by simp) ?_;cases hgi:go i
     . have e:i1=m:=by
         by_cases hlt:i+1 < m
         . rw [hgo i hlt] at hgi;cases hgi
         . omega
       simp;refine Dc.keep rfl (hL m (Nat.le_refl _)) fun q hq=>by simp [hq,e]
     . simp [hz]
       refine ⟨i1,⟨by omega,fun e=>?_⟩,by omega,?_⟩
       . rcases hend with h1 | ⟨_,h1⟩
         . exact h1
         . rw [show m - 1=i by omega,hgi] at h1;cases h1
       . refine AI.keep hs (hL i1 (by omega)) (fun q hq=>by simp [hq]) hN _ ?_ ?_
         . simp [Cr hk,Cr ha]
         . simp [hN k hk,hN a ha]
   . simp at h
     have e:i=m:=by omega
     subst e;simp;exact Dc.keep rfl (hL i (Nat.le_refl _)) fun i _=>by simp
def onS (u v:Int × Int):Bool:=decide (0<=v.1*u.1)&&(decide (0<=v.2*u.2)&&(decide (v.1*v.1<=u.1*u.1)&&decide (v.2*v.2<=u.2*u.2)))
def Ee (sm:Bool) (p:Int × Int) (e:(Int × Int) × (Int × Int)):Bool:=decide (cross e.1 e.2 p < 0)||(decide (cross e.1 e.2 p=0)&&(sm&&!onS (DU e.1 e.2) (DU e.1 p)))
def EC (sm:Bool) (p:Int × Int) (e:(Int × Int) × (Int × Int)):Option Bool:=if e.1.1=p.1/\e.1.2=p.2 then some true else if Ee sm p e then some false else none
def smS (r:List (Int × Int)):Bool:=decide ((r.length:Int) < 3)
def Ll (r:List (Int × Int)) (p:Int × Int):Bool:=((cyc r).findSome? (EC (smS r) p)).getD (decide ((1:Int) < r.length))
def hKS:List Nat:=[5242880,4194304,0,1048576,2097152]
def hL (r:List (Int × Int)) (p:Int × Int) (f:Nat->V) (s:LSt) (v:Bool):List (Nat × List V):=[(5242880,[.lr f 83 [12,13] Ba Bb s]),(4194304,[.d (An r)]),(0,[.d (An r)]),(1048576,[vi p.1,vi p.2]),(2097152,[vb v])]
def hAft (r:List (Int × Int)) (p:Int × Int) (f:Nat->V) (o:Option Bool):List (Nat × List V):=match o with | none=>hL r p f .ready false | some v=>hL r p f (.done .ret) v
theorem jG (r:List (Int × Int)) (p:Int × Int) (f:Nat->V) (s:LSt) (v:Bool) (hf:∀ t,AV (·∈hKS) AR (f t)):A4 hKS (hL r p f s v):=by
 refine ⟨rfl,by decide,?_⟩;intro q hq;simp only [hL,List.mem_cons,List.not_mem_nil,or_false] at hq;have hw:WC (rid hKS) (.lr f 83 [12,13] Ba Bb s) (.lr f 83 [12,13] Ba Bb s):=⟨rfl,fun t=>AV.mono (fun i hi=>Cr hi) (fun _ h=>h) (hf t)⟩
 rcases hq with rfl | rfl | rfl | rfl | rfl
 . exact ⟨by simp,Or.inr ⟨_,_,_,_,_,_,rfl⟩,fun c hc=>by simp at hc;subst hc;exact hw⟩
 all_goals exact ⟨by simp,Or.inl rfl,fun c hc=>by simp at hc;first | (subst hc;exact rfl) | (rcases hc with rfl | rfl<;>exact rfl)⟩
theorem Vm (r:List (Int × Int)) (p:Int × Int) (f:Nat->V) (hf:∀ t,AV (·∈hKS) AR (f t)) (f2:f 2= .lp 0 0) (f3:f 3= .lp 1048576 0) (f4:f 4= .lp 2097152 0) (_:r.length<=1000000) (hp:bd 268435456 p) (a b:Int × Int) (ba:bd 268435456 a) (bb:bd 268435456 b):
   Ym prog 5242880 [vsp a.1 a.2,vsp b.1 b.2] (lk (hL r p f .ready false)) hKS (.ret (vb (EC (smS r) p (a,b)).isNone)) (lk (hAft r p f (EC (smS r) p (a,b)))):=by
 have hK:=fun s v=>jG r p f s v hf
 have hlt:∀ i∈hKS,i < 10000000:=by simp [hKS]
 have key:∀ (s:LSt) (v:Bool),Rnd prog tys eqs 5242880 f 83 [12,13] Ba Bb [vsp a.1 a.2,vsp b.1 b.2] (lk (hL r p f .ready false)) hKS s (hL r p f s v) 10000000->Ym prog 5242880 [vsp a.1 a.2,vsp b.1 b.2] (lk (hL r p f .ready false)) hKS (.ret (.d (.lit (.bool (FP s))))) (lk (hL r p f s v)):=fun s v h=>
   Ym.ofR gok eok mixed 10000000 (hK .ready false) (hK s v) hlt (by simp [hL]) (by simp) (by simp) (by simp) h
 by_cases h1:a.1=p.1/\a.2=p.2
 . have e:EC (smS r) p (a,b)=some true:=by unfold EC;rw [if_pos h1]
   rw [e];refine key (.done .ret) true ⟨fun E hE hs=>?_⟩;have hKK:=hK (.done .ret) true;simp only [hL] at hKK ⊢
   generalize V.lr f 83 [12,13] Ba Bb=rc at hKK ⊢
   simp [Ba,BD,AA];simp [Bb,h1,f3,f4,AA];refine ⟨trivial,Hu.keep hKK ?_ ?_⟩
   . simp
   . simp [hKS]
 . have c1:=TW a b (GM ba (by omega)) (GM bb (by omega))
   have c2:=TW a p (GM ba (by omega)) (GM hp (by omega));have bu:bd 536870912 (DU a b):=NL ba bb rfl;have bv:bd 536870912 (DU a p):=NL ba hp rfl;have c3:=ix (DU a b) (DU a p) (GM bu (by omega)) (GM bv (by omega));have ht:TX (DU a b) (DU a p)=cross a b p:=rfl;rw [ht] at c3;have e0:EC (smS r) p (a,b)=if Ee (smS r) p (a,b) then some false else none:=by unfold EC;rw [if_neg h1]
   obtain ⟨u,hu⟩:∃ u,DU a b=u:=⟨_,rfl⟩
   obtain ⟨v,hv⟩:∃ v,DU a p=v:=⟨_,rfl⟩
   have eb:Ee (smS r) p (a,b)=(decide (cross a b p < 0)||(decide (cross a b p=0)&&(smS r&&!onS u v))):=by unfold Ee;rw [hu,hv]
   rw [hu] at c1 c3 bu;rw [hv] at c2 c3 bv;obtain ⟨t,ht⟩:∃ t,cross a b p=t:=⟨_,rfl⟩
   rw [ht] at c3 eb;have ne:¬ (a.1=p.1/\a.2=p.2):=h1;have nb:(decide (a.1=p.1)&&decide (a.2=p.2))=false:=by rw [<-Bool.not_eq_true,Bool.and_eq_true,decide_eq_true_eq,decide_eq_true_eq];exact h1
   by_cases t1:t < 0
   . have e:EC (smS r) p (a,b)=some false:=by rw [e0,eb,decide_eq_true t1];rfl
     rw [e];refine key (.done .ret) false ⟨fun E hE hs=>?_⟩;have hKK:=hK (.done .ret) false;simp only [hL] at hKK ⊢
     generalize V.lr f 83 [12,13] Ba Bb=rc at hKK ⊢
     simp [Ba,BD,AA];simp [Bb,nb,f3,inC,Nat.testBit];refine CLa c1 ?_;simp [f3,inC,Nat.testBit];refine CLa c2 ?_;simp [AA];refine CLa c3 ?_;simp [t1,f4,AA];refine ⟨trivial,Hu.keep hKK (by simp) (by simp [hKS])⟩
   by_cases t0:t=0
   case neg=>
     have e:EC (smS r) p (a,b)=none:=by rw [e0,eb,decide_eq_false t1,decide_eq_false t0];rfl
     rw [e];refine key .ready false ⟨fun E hE hs=>?_⟩;have hKK:=hK .ready false;simp only [hL] at hKK ⊢
     generalize V.lr f 83 [12,13] Ba Bb=rc at hKK ⊢
     simp [Ba,BD,AA];simp [Bb,nb,f3,inC,Nat.testBit];refine CLa c1 ?_;simp [f3,inC,Nat.testBit];refine CLa c2 ?_;simp [AA];refine CLa c3 ?_;simp [t1,t0];refine ⟨trivial,Hu.keep hKK (by simp) (by simp [hKS])⟩
   subst t0;by_cases sm:(r.length:Int) < 3
   case neg=>
     have e:EC (smS r) p (a,b)=none:=by rw [e0,eb];unfold smS;rw [decide_eq_false sm];rfl
     rw [e];refine key .ready false ⟨fun E hE hs=>?_⟩;have hKK:=hK .ready false;simp only [hL] at hKK ⊢
     generalize V.lr f 83 [12,13] Ba Bb=rc at hKK ⊢
     simp [Ba,BD,AA];simp [Bb,nb,f3,inC,Nat.testBit];refine CLa c1 ?_;simp [f3,inC,Nat.testBit];refine CLa c2 ?_;simp [AA];refine CLa c3 ?_;simp [sm,f2];refine ⟨trivial,Hu.keep hKK (by simp) (by simp [hKS])⟩
   have eb2:Ee (smS r) p (a,b)=!onS u v:=by rw [eb];unfold smS;rw [decide_eq_true sm];simp
   rw [eb2] at e0
   have mb:∀ x y:Int,(-536870912<=x/\x<=536870912)->(-536870912<=y/\y<=536870912)->IntKind.wrap .i64 (x*y)=x*y:=fun x y hx hy=>by
     have:=NK hx hy;exact AD (by omega) (by omega)
   have w1:=mb v.1 u.1 bv.1 bu.1;have w2:=mb v.2 u.2 bv.2 bu.2;have w3:=mb v.1 v.1 bv.1 bv.1;have w4:=mb u.1 u.1 bu.1 bu.1;have w5:=mb v.2 v.2 bv.2 bv.2;have w6:=mb u.2 u.2 bu.2 bu.2;by_cases g1:0<=v.1*u.1
   case neg=>
     have e:EC (smS r) p (a,b)=some false:=by rw [e0];unfold onS;rw [decide_eq_false g1];rfl
     rw [e];refine key (.done .ret) false ⟨fun E hE hs=>?_⟩;have hKK:=hK (.done .ret) false;simp only [hL] at hKK ⊢
     generalize V.lr f 83 [12,13] Ba Bb=rc at hKK ⊢
     simp [Ba,BD,AA];simp [Bb,nb,f3,inC,Nat.testBit];refine CLa c1 ?_;simp [f3,inC,Nat.testBit];refine CLa c2 ?_;simp [AA];refine CLa c3 ?_;simp [sm,f2,f4,w1,g1,AA];refine ⟨trivial,Hu.keep hKK (by simp) (by simp [hKS])⟩
   by_cases g2:0<=v.2*u.2
   case neg=>
     have e:EC (smS r) p (a,b)=some false:=by rw [e0];unfold onS;rw [decide_eq_true g1,decide_eq_false g2];rfl
     rw [e];refine key (.done .ret) false ⟨fun E hE hs=>?_⟩;have hKK:=hK (.done .ret) false;simp only [hL] at hKK ⊢
     generalize V.lr f 83 [12,13] Ba Bb=rc at hKK ⊢
     simp [Ba,BD,AA];simp [Bb,nb,f3,inC,Nat.testBit];refine CLa c1 ?_;simp [f3,inC,Nat.testBit];refine CLa c2 ?_;simp [AA];refine CLa c3 ?_;simp [sm,f2,f4,w1,w2,g1,g2,AA];refine ⟨trivial,Hu.keep hKK (by simp) (by simp [hKS])⟩
   by_cases g3:v.1*v.1<=u.1*u.1
   case neg=>
     have e:EC (smS r) p (a,b)=some false:=by rw [e0];unfold onS;rw [decide_eq_true g1,decide_eq_true g2,decide_eq_false g3];rfl
     rw [e];refine key (.done .ret) false ⟨fun E hE hs=>?_⟩;have hKK:=hK (.done .ret) false;simp only [hL] at hKK ⊢
     generalize V.lr f 83 [12,13] Ba Bb=rc at hKK ⊢
     simp [Ba,BD,AA];simp [Bb,nb,f3,inC,Nat.testBit];refine CLa c1 ?_;simp [f3,inC,Nat.testBit];refine CLa c2 ?_;simp [AA];refine CLa c3 ?_;simp [sm,f2,f4,w1,w2,w3,w4,g1,g2,g3,AA];refine ⟨trivial,Hu.keep hKK (by simp) (by simp [hKS])⟩
   by_cases g4:v.2*v.2<=u.2*u.2
   case neg=>
     have e:EC (smS r) p (a,b)=some false:=by rw [e0];unfold onS;rw [decide_eq_true g1,decide_eq_true g2,decide_eq_true g3,decide_eq_false g4];rfl
     rw [e];refine key (.done .ret) false ⟨fun E hE hs=>?_⟩;have hKK:=hK (.done .ret) false;simp only [hL] at hKK ⊢
     generalize V.lr f 83 [12,13] Ba Bb=rc at hKK ⊢
     simp [Ba,BD,AA];simp [Bb,nb,f3,inC,Nat.testBit];refine CLa c1 ?_;simp [f3,inC,Nat.testBit];refine CLa c2 ?_;simp [AA];refine CLa c3 ?_;simp [sm,f2,f4,w1,w2,w3,w4,w5,w6,g1,g2,g3,g4,AA];refine ⟨trivial,Hu.keep hKK (by simp) (by simp [hKS])⟩
   have e:EC (smS r) p (a,b)=none:=by rw [e0];unfold onS;rw [decide_eq_true g1,decide_eq_true g2,decide_eq_true g3,decide_eq_true g4];rfl
   rw [e];refine key .ready false ⟨fun E hE hs=>?_⟩;have hKK:=hK .ready false;simp only [hL] at hKK ⊢
   generalize V.lr f 83 [12,13] Ba Bb=rc at hKK ⊢
   simp [Ba,BD,AA];simp [Bb,nb,f3,inC,Nat.testBit];refine CLa c1 ?_;simp [f3,inC,Nat.testBit];refine CLa c2 ?_;simp [AA];refine CLa c3 ?_;simp [sm,f2,w1,w2,w3,w4,w5,w6,g1,g2,g3,g4];refine ⟨trivial,Hu.keep hKK (by simp) (by simp [hKS])⟩
end Go.Proofs.Tryz
