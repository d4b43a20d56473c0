/- Own lemmas, used by the last text. Conditions: those that each theorem states. -/
import Derived.RecoverIn
import Derived.Test.YtigekgfbcfbobaaGreatDlae
import Derived.Test.YtigekgfbcfbobaaGreatDlaf
import Derived.Test.YtigekgfbcfbobaaGreatDlag
import Derived.Test.YtigekgfbcfbobaaGreatDlah
import Derived.Test.YtigekgfbcfbobaaGreatDlai
set_option maxRecDepth 200000
set_option maxHeartbeats 8000000
namespace Go.Proofs.Tryz
open Go.Psl
def Bp (x:Int):Int:=if x=0 then 0 else (Nat.log2 x.toNat:Int)+1
theorem Qr (n k:Nat) (h:2^k<=n):Nat.log2 n=Nat.log2 (n/2^k)+k:=by
 induction k generalizing n with
 | zero=>simp
 | succ k ih=>
   have h2:2<=n:=by
     have:2^1<=2^(k+1):=Nat.pow_le_pow_right (by omega) (by omega);omega
   have h1:Nat.log2 n=Nat.log2 (n/2)+1:=by rw [Nat.log2_def];simp [h2]
   rw [h1,ih (n/2) (by rw [Nat.pow_succ] at h;omega),Nat.div_div_eq_div_mul,Nat.pow_succ,Nat.mul_comm 2];omega
theorem Fv (x:Int) (k:Nat) (h:2^k<=x):Bp (x/2^k)+k=Bp x:=by
 obtain ⟨n,rfl⟩:=Int.eq_ofNat_of_zero_le (show 0<=x from Int.le_trans (Int.pow_nonneg (by decide)) h);have h':2^k<=n:=by exact_mod_cast h
 have hp:0<2^k:=Nat.pow_pos (by omega);have e:((n:Int)/2^k)=((n/2^k:Nat):Int):=by push_cast;rfl
 have h1:1<=n/2^k:=by rw [Nat.le_div_iff_mul_le hp];omega
 rw [e];unfold Bp;rw [if_neg (by omega),if_neg (by omega)];simp only [Int.toNat_natCast];rw [Qr n k h'];omega
theorem II (x:Int) (h:1<=x):2^(Bp x-1).toNat<=x/\x<2^(Bp x).toNat/\1<=Bp x:=by
 obtain ⟨n,rfl⟩:=Int.eq_ofNat_of_zero_le (show 0<=x by omega);unfold Bp;rw [if_neg (by omega)];have e1:(((Nat.log2 (n:Int).toNat:Nat):Int)+1-1).toNat=Nat.log2 n:=by simp
 have e2:(((Nat.log2 (n:Int).toNat:Nat):Int)+1).toNat=Nat.log2 n+1:=by simp
 rw [e1,e2];have h1:=Nat.log2_self_le (n:=n) (by omega);have h2:=Nat.lt_log2_self (n:=n);refine ⟨by exact_mod_cast h1,by exact_mod_cast h2,by omega⟩
theorem Ye:∀ m:Fin 256,(⟨#[0,1,2,2,3,3,3,3,4,4,4,4,4,4,4,4,5,5,5,5,5,5,5,5,5,5,5,5,5,5,5,5,6,6,6,6,6,6,6,6,6,6,6,6,6,6,6,6,6,6,6,6,6,6,6,6,6,6,6,6,6,6,6,6,7,7,7,7,7,7,7,7,7,7,7,7,7,7,7,7,7,7,7,7,7,7,7,7,7,7,7,7,7,7,7,7,7,7,7,7,7,7,7,7,7,7,7,7,7,7,7,7,7,7,7,7,7,7,7,7,7,7,7,7,7,7,7,7,8,8,8,8,8,8,8,8,8,8,8,8,8,8,8,8,8,8,8,8,8,8,8,8,8,8,8,8,8,8,8,8,8,8,8,8,8,8,8,8,8,8,8,8,8,8,8,8,8,8,8,8,8,8,8,8,8,8,8,8,8,8,8,8,8,8,8,8,8,8,8,8,8,8,8,8,8,8,8,8,8,8,8,8,8,8,8,8,8,8,8,8,8,8,8,8,8,8,8,8,8,8,8,8,8,8,8,8,8,8,8,8,8,8,8,8,8,8,8,8,8,8,8,8,8,8,8,8]⟩:ByteArray)[m.val]?.map (·.toNat)=some (Bp m.val).toNat:=by decide+kernel
theorem fA (n:Nat) (h:n<256):∃ b,(⟨#[0,1,2,2,3,3,3,3,4,4,4,4,4,4,4,4,5,5,5,5,5,5,5,5,5,5,5,5,5,5,5,5,6,6,6,6,6,6,6,6,6,6,6,6,6,6,6,6,6,6,6,6,6,6,6,6,6,6,6,6,6,6,6,6,7,7,7,7,7,7,7,7,7,7,7,7,7,7,7,7,7,7,7,7,7,7,7,7,7,7,7,7,7,7,7,7,7,7,7,7,7,7,7,7,7,7,7,7,7,7,7,7,7,7,7,7,7,7,7,7,7,7,7,7,7,7,7,7,8,8,8,8,8,8,8,8,8,8,8,8,8,8,8,8,8,8,8,8,8,8,8,8,8,8,8,8,8,8,8,8,8,8,8,8,8,8,8,8,8,8,8,8,8,8,8,8,8,8,8,8,8,8,8,8,8,8,8,8,8,8,8,8,8,8,8,8,8,8,8,8,8,8,8,8,8,8,8,8,8,8,8,8,8,8,8,8,8,8,8,8,8,8,8,8,8,8,8,8,8,8,8,8,8,8,8,8,8,8,8,8,8,8,8,8,8,8,8,8,8,8,8,8,8,8,8,8]⟩:ByteArray)[n]?= some b/\(b.toNat:Int)=Bp n:=by
 have:=Ye ⟨n,h⟩;simp only [Option.map_eq_some_iff] at this;obtain ⟨b,h1,h2⟩:=this;refine ⟨b,h1,?_⟩;rw [h2];have:0<=Bp n:=by unfold Bp;split<;>omega
 omega
theorem ov (x:Int) (hx:0<=x/\x<=18446744073709551615):Ct prog 301 [vu x] (vi (Bp x)) []:=by
 refine CB func301 c301 fun E hE=>?_
 have fin:∀ (y c:Int),0<=y->y<256->0<=c->c<=56->Bp y+c=Bp x->∃ b,(⟨#[0,1,2,2,3,3,3,3,4,4,4,4,4,4,4,4,5,5,5,5,5,5,5,5,5,5,5,5,5,5,5,5,6,6,6,6,6,6,6,6,6,6,6,6,6,6,6,6,6,6,6,6,6,6,6,6,6,6,6,6,6,6,6,6,7,7,7,7,7,7,7,7,7,7,7,7,7,7,7,7,7,7,7,7,7,7,7,7,7,7,7,7,7,7,7,7,7,7,7,7,7,7,7,7,7,7,7,7,7,7,7,7,7,7,7,7,7,7,7,7,7,7,7,7,7,7,7,7,8,8,8,8,8,8,8,8,8,8,8,8,8,8,8,8,8,8,8,8,8,8,8,8,8,8,8,8,8,8,8,8,8,8,8,8,8,8,8,8,8,8,8,8,8,8,8,8,8,8,8,8,8,8,8,8,8,8,8,8,8,8,8,8,8,8,8,8,8,8,8,8,8,8,8,8,8,8,8,8,8,8,8,8,8,8,8,8,8,8,8,8,8,8,8,8,8,8,8,8,8,8,8,8,8,8,8,8,8,8,8,8,8,8,8,8,8,8,8,8,8,8,8,8,8,8,8,8]⟩:ByteArray)[y.toNat]?= some b/\IntKind.wrap .u8 y=y/\IntKind.wrap .i64 (b.toNat:Int)=(b.toNat:Int)/\IntKind.wrap .i64 (c+(b.toNat:Int))=Bp x/\0<=y:=fun y c h0 h1 h2 h3 h4=>by
   obtain ⟨b,q1,q2⟩:=fA y.toNat (by omega);have hb:(b.toNat:Int)<256:=by have:=b.toNat_lt;omega
   rw [Int.toNat_of_nonneg h0] at q2;exact ⟨b,q1,by simp [IntKind.wrap,IntKind.bits,IntKind.signed];omega,AD (by omega) (by omega),by rw [AD (by omega) (by omega)];omega,h0⟩
 have e16:IntKind.wrap .i64 16=16:=by decide
 have e8:IntKind.wrap .i64 8=8:=by decide
 have e48:IntKind.wrap .i64 48=48:=by decide
 have e40:IntKind.wrap .i64 40=40:=by decide
 have e24:IntKind.wrap .i64 24=24:=by decide
 have e56:IntKind.wrap .i64 56=56:=by decide
 have s8:=fun (y:Int) (h:256<=y)=>Fv y 8 (by simpa using h)
 have s16:=fun (y:Int) (h:65536<=y)=>Fv y 16 (by simpa using h)
 have s32:=fun (y:Int) (h:4294967296<=y)=>Fv y 32 (by simpa using h)
 simp at s8 s16 s32;by_cases h1:4294967296<=x
 . have q1:=s32 x h1
   by_cases h2:65536<=x/4294967296
   . have q2:=s16 _ h2
     by_cases h3:256<=x/4294967296/65536
     . have q3:=s8 _ h3
       obtain ⟨b,r1,r2,r3,r4,r0⟩:=fin (x/4294967296/65536/256) 56 (by omega) (by omega) (by omega) (by omega) (by omega);simp [p301,h1,h2,h3,r0,r1,r2,r3,e48,e56];apply RZ;simp [results301,r4]
     . obtain ⟨b,r1,r2,r3,r4,r0⟩:=fin (x/4294967296/65536) 48 (by omega) (by omega) (by omega) (by omega) (by omega)
       simp [p301,h1,h2,h3,r0,r1,r2,r3,e48];apply RZ;simp [results301,r4]
   . by_cases h3:256<=x/4294967296
     . have q3:=s8 _ h3
       obtain ⟨b,r1,r2,r3,r4,r0⟩:=fin (x/4294967296/256) 40 (by omega) (by omega) (by omega) (by omega) (by omega);simp [p301,h1,h2,h3,r0,r1,r2,r3,e40];apply RZ;simp [results301,r4]
     . obtain ⟨b,r1,r2,r3,r4,r0⟩:=fin (x/4294967296) 32 (by omega) (by omega) (by omega) (by omega) (by omega)
       simp [p301,h1,h2,h3,r0,r1,r2,r3];apply RZ;simp [results301,r4]
 . by_cases h2:65536<=x
   . have q2:=s16 _ h2
     by_cases h3:256<=x/65536
     . have q3:=s8 _ h3
       obtain ⟨b,r1,r2,r3,r4,r0⟩:=fin (x/65536/256) 24 (by omega) (by omega) (by omega) (by omega) (by omega);simp [p301,h1,h2,h3,r0,r1,r2,r3,e16,e24];apply RZ;simp [results301,r4]
     . obtain ⟨b,r1,r2,r3,r4,r0⟩:=fin (x/65536) 16 (by omega) (by omega) (by omega) (by omega) (by omega)
       simp [p301,h1,h2,h3,r0,r1,r2,r3,e16];apply RZ;simp [results301,r4]
   . by_cases h3:256<=x
     . have q3:=s8 _ h3
       obtain ⟨b,r1,r2,r3,r4,r0⟩:=fin (x/256) 8 (by omega) (by omega) (by omega) (by omega) (by omega);simp [p301,h1,h2,h3,r0,r1,r2,r3,e8];apply RZ;simp [results301,r4]
     . obtain ⟨b,r1,r2,r3,r4,r0⟩:=fin x 0 (by omega) (by omega) (by omega) (by omega) (by omega)
       rw [Int.zero_add,r3] at r4;simp [p301,h1,h2,h3,r0,r1,r2,r3];apply RZ;simp [results301,r4]
theorem Oh (x:Int) (h0:0<=x) (h1:x<=18446744073709551615):0<=Bp x/\Bp x<=64:=by
 by_cases h:x=0
 . subst h;decide
 . obtain ⟨q1,q2,q3⟩:=II x (by omega)
   refine ⟨by omega,?_⟩
   have:¬ 65<=Bp x:=fun hh=>by
     have h2:(2:Int)^64<=2^(Bp x-1).toNat:=by
       have:2^64<=2^(Bp x-1).toNat:=Nat.pow_le_pow_right (by omega) (by omega)
       exact_mod_cast this
     have:(2:Int)^64=18446744073709551616:=by decide
     omega
   omega
theorem ox (x:Int) (hx:0<=x/\x<=18446744073709551615):Ct prog 317 [vu x] (vi (64-Bp x)) []:=by
 refine CB func317 c317 fun E hE=>?_
 simp [p317];refine CLa (ov x hx) ?_;have:=Oh x hx.1 hx.2;have e:IntKind.wrap .i64 (64-Bp x)=64-Bp x:=AD (by omega) (by omega);simp [e];apply RZ;simp [results317]
theorem bg {u v D:Int} (hD:0<D) (hu:u<D) (hv:v<4294967296):(u*4294967296+v)/D<4294967296:=by
 rw [Int.ediv_lt_iff_lt_mul hD];have:u*4294967296+4294967296<=4294967296*D:=by omega
 omega
theorem LJ (s:Nat):(1:Int)<=2^s:=by
 have:0<2^s:=Nat.pow_pos (by omega)
 exact_mod_cast this
theorem WF (s t n:Nat) (h:s+t=n):(2:Int)^s*2^t=2^n:=by rw [<-h,Int.pow_add]
theorem bj (lo y:Int) (hlo:0<=lo/\lo<=18446744073709551615) (hy:1<=y/\y<=18446744073709551615):Ct prog 307 [vu 0,vu lo,vu y] (.tup [vu (lo/y),vu (lo%y)]) []:=by
 refine CB func307 qf fun E hE=>?_
 have h1:(y == 0)=false:=by simp;omega
 have h2:decide (y<=0)=false:=by simp;omega
 have h3:¬ y=0:=by omega
 have h5:¬ y<=0:=by omega
 have q0:0<=lo/y:=Int.ediv_nonneg hlo.1 (by omega);have q1:lo/y<=lo:=Int.ediv_le_self _ hlo.1;have e1:lo.tdiv y=lo/y:=Int.tdiv_eq_ediv_of_nonneg hlo.1;have e2:lo.tmod y=lo%y:=Int.tmod_eq_emod_of_nonneg hlo.1;have e3:IntKind.wrap .u64 (lo/y)=lo/y:=Ay q0 (by omega);simp [p307,h3,h5,e1,e2,e3];apply RZ;simp [results307]
theorem jO (hi lo y:Int) (hhi:1<=hi/\hi<y) (hlo:0<=lo/\lo<=18446744073709551615) (hy:y<=18446744073709551615):Ct prog 307 [vu hi,vu lo,vu y] (.tup [vu ((hi*18446744073709551616+lo)/y),vu ((hi*18446744073709551616+lo)%y)]) []:=by
 refine CB func307 qf fun E hE=>?_
 have h3:¬ y=0:=by omega
 have h5:¬ y<=hi:=by omega
 have h6:¬ hi=0:=by omega
 simp [p307,h3,h5,h6];refine CLa (ox y (by omega)) ?_;obtain ⟨b1,b2,b3⟩:=II y (by omega);obtain ⟨b4,b5⟩:=Oh y (by omega) hy;obtain ⟨S,hS,hS2⟩:∃ S:Nat,64-Bp y=S/\S<=63:=⟨(64-Bp y).toNat,by omega,by omega⟩
 obtain ⟨T,hT⟩:∃ T:Nat,S+T=64:=⟨64-S,by omega⟩
 have p1:(2:Int)^S*2^T=18446744073709551616:=by rw [WF S T 64 hT];rfl
 have p2:=LJ S;have p3:=LJ T;have w1:IntKind.wrap .u64 (S:Int)=S:=Ay (by omega) (by omega);have w2:IntKind.wrap .u64 (64-(S:Int))=T:=by rw [Ay (by omega) (by omega)];omega
 have eL:(Bp y).toNat=T:=by omega
 have eL1:(2:Int)^(Bp y-1).toNat*2=2^T:=by
   obtain ⟨T',rfl⟩:∃ T',T=T'+1:=⟨T-1,by omega⟩
   rw [show (Bp y-1).toNat=T' by omega,Int.pow_succ]
 rw [eL] at b2;have d1:y*2^S<18446744073709551616:=by rw [<-p1,Int.mul_comm];exact Int.mul_lt_mul_of_pos_left b2 (by omega)
 have d2:9223372036854775808<=y*2^S:=by
   have:2^T*2^S<=y*2*2^S:=Int.mul_le_mul_of_nonneg_right (by omega) (by omega);rw [Int.mul_comm (2^T),p1] at this;have e:y*2*2^S=2*(y*2^S):=by rw [Int.mul_comm y 2,Int.mul_assoc]
   omega
 have d3:hi*2^S+2^S<=y*2^S:=by
   have:(hi+1)*2^S<=y*2^S:=Int.mul_le_mul_of_nonneg_right (by omega) (by omega);rw [Int.add_mul,Int.one_mul] at this;exact this
 have d4:0<=hi*2^S:=Int.mul_nonneg (by omega) (by omega)
 obtain ⟨lh,ll,hl,l1,l2,l3,l4⟩:∃ lh ll:Int,lo=lh*2^T+ll/\0<=lh/\lh<2^S/\0<=ll/\ll<2^T:=by
   refine ⟨lo/2^T,lo%2^T,by rw [Int.mul_comm];exact (Int.mul_ediv_add_emod lo (2^T)).symm,Int.ediv_nonneg hlo.1 (by omega),?_,Int.emod_nonneg _ (by omega),Int.emod_lt_of_pos _ (by omega)⟩;rw [Int.ediv_lt_iff_lt_mul (by omega),p1];omega
 have l5:lo/2^T=lh:=by
   rw [hl,Int.add_comm,Int.add_mul_ediv_right _ _ (by omega),Int.ediv_eq_zero_of_lt l3 l4];omega
 have l6:lo*2^S=lh*18446744073709551616+ll*2^S:=by
   rw [hl,Int.add_mul,Int.mul_assoc,Int.mul_comm (2^T),p1]
 have l7:ll*2^S+2^S<=18446744073709551616:=by
   have:(ll+1)*2^S<=2^T*2^S:=Int.mul_le_mul_of_nonneg_right (by omega) (by omega);rw [Int.add_mul,Int.one_mul,Int.mul_comm (2^T),p1] at this;exact this
 have l8:0<=ll*2^S:=Int.mul_nonneg l3 (by omega)
 have hU:(hi*18446744073709551616+lo)*2^S=(hi*2^S+lh)*18446744073709551616+ll*2^S:=by
   rw [Int.add_mul,l6,Int.add_mul,Int.mul_right_comm];omega
 have hor:bits .or .u64 (hi*2^S) lh=hi*2^S+lh:=kl S (by omega) l1 l2 (by omega);have v1:IntKind.wrap .u64 (y*2^S)=y*2^S:=Ay (by omega) (by omega);have v2:IntKind.wrap .u64 (hi*2^S)=hi*2^S:=Ay (by omega) (by omega);have v3:IntKind.wrap .u64 (lo*2^S)=ll*2^S:=by rw [Bl,l6];omega
 have c1:(0:Int)<=S/\(S:Int)<=64:=by omega
 have c2:(0:Int)<=T/\(T:Int)<=64:=by omega
 have hN:∀ q r,(hi*18446744073709551616+lo)*2^S=q*(y*2^S)+r->0<=r->r<y*2^S->q=(hi*18446744073709551616+lo)/y/\r/2^S=(hi*18446744073709551616+lo)%y:=fun q r h1 h2 h3=>by
   generalize hi*18446744073709551616+lo=N at*
   have hq:q=N/y:=by
     have e:N*2^S/(y*2^S)=N/y:=Int.mul_ediv_mul_of_pos_left _ _ (by omega);rw [<-e,h1,Int.add_comm,Int.add_mul_ediv_right _ _ (by omega),Int.ediv_eq_zero_of_lt h2 h3];omega
   refine ⟨hq,?_⟩;have e2:N*2^S=(q*y)*2^S+r:=by rw [h1,Int.mul_assoc]
   have e3:r=(N-q*y)*2^S:=by rw [Int.sub_mul];omega
   rw [e3,Int.mul_ediv_cancel _ (by omega),hq,Int.emod_def,Int.mul_comm]
 simp [hS,w1,w2,c1.1,c1.2,c2.1,c2.2,v1,v2,v3,l5,hor]
 generalize y*2^S=D at*
 generalize hu:hi*2^S+lh=u at*
 generalize ll*2^S=w at*
 have m1:bits .and .u64 D 4294967295=D%4294967296:=GA (by omega) (by omega);have m2:bits .and .u64 w 4294967295=w%4294967296:=GA (by omega) (by omega);obtain ⟨y1,y0,hy1,hy0⟩:∃ y1 y0:Int,D/4294967296=y1/\D%4294967296=y0:=⟨_,_,rfl,rfl⟩
 obtain ⟨w1',w0,hw1,hw0⟩:∃ w1 w0:Int,w/4294967296=w1/\w%4294967296=w0:=⟨_,_,rfl,rfl⟩
 have hDe:D=y1*4294967296+y0:=by omega
 have hy1n:¬ y1=0:=by omega
 have hu0:0<=u:=by omega
 have huD:u<D:=by omega
 have td:∀ a:Int,0<=a->a.tdiv y1=a/y1:=fun a ha=>Int.tdiv_eq_ediv_of_nonneg ha
 have dv:∀ a:Int,0<=a->0<=a/y1/\a/y1<=a/\a/y1*y1+a%y1=a/\0<=a%y1/\a%y1<y1:=fun a ha=>⟨Int.ediv_nonneg ha (by omega),Int.ediv_le_self _ ha,by rw [Int.mul_comm];exact Int.mul_ediv_add_emod a y1,Int.emod_nonneg _ hy1n,Int.emod_lt_of_pos _ (by omega)⟩
 have dq:∀ a v:Int,0<=a->0<=v->v<4294967296->(a*4294967296+v)/D<=a/y1:=fun a v ha hv hv'=>by
   obtain ⟨z1,z2,z3,z4,z5⟩:=dv a ha
   have hlt:(a*4294967296+v)/D<a/y1+1:=by
     rw [Int.ediv_lt_iff_lt_mul (by omega),hDe]
     have e:(a/y1+1)*(y1*4294967296+y0)=(a/y1*y1)*4294967296+y1*4294967296+(a/y1+1)*y0:=by
       rw [Int.add_mul,Int.one_mul,Int.mul_add,<-Int.mul_assoc,Int.add_mul,Int.one_mul];omega
     have:0<=(a/y1+1)*y0:=Int.mul_nonneg (by omega) (by omega);omega
   omega
 obtain ⟨z1,z2,z3,z4,z5⟩:=dv u hu0;have k1:IntKind.wrap .u64 (u/y1)=u/y1:=Ay z1 (by omega);have k2:IntKind.wrap .u64 (u/y1*y1)=u/y1*y1:=Ay (Int.mul_nonneg z1 (by omega)) (by omega);have k3:IntKind.wrap .u64 (u-u/y1*y1)=u-u/y1*y1:=Ay (by omega) (by omega);simp [m1,m2,hy1,hy0,hw1,hw0,hy1n,td u hu0,k1,k2,k3]
 have loopy:∀ a v:Int,0<=a->a<D->0<=v->v<4294967296->∃ Q:Int,Q=(a*4294967296+v)/D/\0<=Q/\Q<4294967296/\Q*D<=a*4294967296+v/\a*4294967296+v<Q*D+D/\Q<=a/y1/\
     (∀ q r,Q<=q->q*y1+r=a->4294967296<=q\/4294967296*r+v<q*y0->Q<=q-1)/\(∀ q r,Q<=q->q*y1+r=a->q*y0<=4294967296*r+v->q=Q)/\(∀ q r,0<=q->q*y1+r=a->4294967296<=r->q*y0<=4294967296*r+v):=fun a v ha haD hv hv'=>by
   refine ⟨_,rfl,Int.ediv_nonneg (by omega) (by omega),bg (by omega) haD hv',Int.ediv_mul_le _ (by omega),?_,dq a v ha hv hv',fun q r h1 h2 h3=>?_,fun q r h1 h2 h3=>?_,fun q r h1 h2 h3=>?_⟩
   . have:=Int.lt_ediv_add_one_mul_self (a*4294967296+v) (show 0<D by omega)
     rw [Int.add_mul,Int.one_mul] at this;exact this
   . rw [hDe] at h1 ⊢
     exact Q8 (by omega) (by omega) (by omega) (by omega) ha (by omega) hv hv' h1 h2 h3
   . rw [hDe] at h1 ⊢
     exact Q9 (by omega) (by omega) (by omega) h1 h2 h3
   . exact O0 (by omega) (by omega) (by omega) h1 (by omega:a<y1*4294967296+y0) hv h2 h3
 obtain ⟨Q1,_,a1,a2,a3,a4,a5,st1,dn1,br1⟩:=loopy u w1' hu0 huD (by omega) (by omega)
 refine BL (α:=Int × Int) 0 (fun _:Unit=>⟨AO [(2,vu D),(8,vu S),(9,vu y1),(10,vu y0),(11,vu u),(13,vu w1'),(14,vu w0),(15,vu Q1)],lk [],0⟩) (fun _=>True) (fun x=>⟨AO [(2,vu D),(8,vu S),(9,vu y1),(10,vu y0),(11,vu u),(13,vu w1'),(14,vu w0),(15,vu x.1),(16,vu x.2)],lk [],0⟩)
   (fun x=>Q1<=x.1/\x.1*y1+x.2=u/\0<=x.2/\x.2<4294967296/\x.1<=u) (fun x=>x.1.toNat) (u/y1,u-u/y1*y1) ?_ ?_ ?_ fun _ _=>?_
 . exact ⟨a5,by simp only;omega,by simp only;omega,by simp only;omega,z2⟩
 . exact WK hE (fun _=>none)
 . rintro ⟨q,r⟩ ⟨i1,i2,i3,i4,i5⟩
   simp only at i1 i2 i3 i4 i5;have step:=st1 q r i1 i2;have g1:IntKind.wrap .u64 (r+y1)=r+y1:=Ay (by omega) (by omega);have g2:(q-1)*y1+(r+y1)=u:=by rw [Int.sub_mul];omega
   have go:Q1<=q-1->IntKind.wrap .u64 (q-1)=q-1:=fun h=>Ay (by omega) (by omega)
   by_cases hc1:4294967296<=q
   . have h1:=step (.inl hc1)
     by_cases hb:4294967296<=r+y1
     . have:=dn1 _ _ h1 g2 (br1 _ _ (by omega) g2 hb)
       simp [JL,hc1,go h1,g1,hb];refine AI.mk hE (fun _=>none) _ _ _ ?_ ?_ ?_ ?_ ?_<;>simp [this]
     . simp [JL,hc1,go h1,g1,hb]
       refine ⟨q-1,r+y1,⟨h1,g2,by omega,by omega,by omega⟩,by omega,?_⟩;exact WK hE (fun _=>none)
   . have n1:0<=q*y0:=Int.mul_nonneg (by omega) (by omega)
     have n2:q*y0<=4294967295*4294967295:=DE (by omega) (by omega) (by omega) (by omega);have j1:IntKind.wrap .u64 (q*y0)=q*y0:=Ay n1 (by omega);have j2:IntKind.wrap .u64 (4294967296*r)=4294967296*r:=Ay (by omega) (by omega);have j3:IntKind.wrap .u64 (4294967296*r+w1')=4294967296*r+w1':=Ay (by omega) (by omega);by_cases hc2:4294967296*r+w1' < q*y0
     . have h1:=step (.inr hc2)
       by_cases hb:4294967296<=r+y1
       . have:=dn1 _ _ h1 g2 (br1 _ _ (by omega) g2 hb)
         simp [JL,hc1,hc2,j1,j2,j3,go h1,g1,hb];refine AI.mk hE (fun _=>none) _ _ _ ?_ ?_ ?_ ?_ ?_<;>simp [this]
       . simp [JL,hc1,hc2,j1,j2,j3,go h1,g1,hb]
         refine ⟨q-1,r+y1,⟨h1,g2,by omega,by omega,by omega⟩,by omega,?_⟩;exact WK hE (fun _=>none)
     . have:=dn1 _ _ i1 i2 (by omega)
       simp [JL,hc1,hc2,j1,j2,j3];refine AI.mk hE (fun _=>none) _ _ _ ?_ ?_ ?_ ?_ ?_<;>simp [this]
 obtain ⟨R,hR⟩:∃ R:Int,R=u*4294967296+w1' - Q1*D:=⟨_,rfl⟩
 have k4:IntKind.wrap .u64 (IntKind.wrap .u64 (IntKind.wrap .u64 (u*4294967296)+w1')-IntKind.wrap .u64 (Q1*D))=R:=by
   rw [Bl,Bl,Bl,Bl];omega
 have hR0:0<=R/\R<D:=by omega
 obtain ⟨x1,x2,x3,x4,x5⟩:=dv R hR0.1;have k5:IntKind.wrap .u64 (R/y1)=R/y1:=Ay x1 (by omega);have k6:IntKind.wrap .u64 (R/y1*y1)=R/y1*y1:=Ay (Int.mul_nonneg x1 (by omega)) (by omega);have k7:IntKind.wrap .u64 (R-R/y1*y1)=R-R/y1*y1:=Ay (by omega) (by omega);simp [k4,hy1n,td R hR0.1,k5,k6,k7];obtain ⟨Q0,_,c1,c2,c3,c4,c5,st0,dn0,br0⟩:=loopy R w0 hR0.1 hR0.2 (by omega) (by omega)
 refine BL (α:=Int × Int) 2 (fun _:Unit=>⟨AO [(2,vu D),(8,vu S),(14,vu w0),(15,vu Q1),(17,vu R),(18,vu Q0)],lk [],0⟩) (fun _=>True) (fun x=>⟨AO [(2,vu D),(8,vu S),(9,vu y1),(10,vu y0),(14,vu w0),(15,vu Q1),(17,vu R),(18,vu x.1),(16,vu x.2)],lk [],0⟩)
   (fun x=>Q0<=x.1/\x.1*y1+x.2=R/\0<=x.2/\x.2<4294967296/\x.1<=R) (fun x=>x.1.toNat) (R/y1,R-R/y1*y1) ?_ ?_ ?_ fun _ _=>?_
 . exact ⟨c5,by simp only;omega,by simp only;omega,by simp only;omega,x2⟩
 . exact WK hE (fun _=>none)
 . rintro ⟨q,r⟩ ⟨i1,i2,i3,i4,i5⟩
   simp only at i1 i2 i3 i4 i5;have step:=st0 q r i1 i2;have g1:IntKind.wrap .u64 (r+y1)=r+y1:=Ay (by omega) (by omega);have g2:(q-1)*y1+(r+y1)=R:=by rw [Int.sub_mul];omega
   have go:Q0<=q-1->IntKind.wrap .u64 (q-1)=q-1:=fun h=>Ay (by omega) (by omega)
   by_cases hc1:4294967296<=q
   . have h1:=step (.inl hc1)
     by_cases hb:4294967296<=r+y1
     . have:=dn0 _ _ h1 g2 (br0 _ _ (by omega) g2 hb)
       simp [JM,hc1,go h1,g1,hb];refine AI.mk hE (fun _=>none) _ _ _ ?_ ?_ ?_ ?_ ?_<;>simp [this]
     . simp [JM,hc1,go h1,g1,hb]
       refine ⟨q-1,r+y1,⟨h1,g2,by omega,by omega,by omega⟩,by omega,?_⟩;exact WK hE (fun _=>none)
   . have n1:0<=q*y0:=Int.mul_nonneg (by omega) (by omega)
     have n2:q*y0<=4294967295*4294967295:=DE (by omega) (by omega) (by omega) (by omega);have j1:IntKind.wrap .u64 (q*y0)=q*y0:=Ay n1 (by omega);have j2:IntKind.wrap .u64 (4294967296*r)=4294967296*r:=Ay (by omega) (by omega);have j3:IntKind.wrap .u64 (4294967296*r+w0)=4294967296*r+w0:=Ay (by omega) (by omega);by_cases hc2:4294967296*r+w0<q*y0
     . have h1:=step (.inr hc2)
       by_cases hb:4294967296<=r+y1
       . have:=dn0 _ _ h1 g2 (br0 _ _ (by omega) g2 hb)
         simp [JM,hc1,hc2,j1,j2,j3,go h1,g1,hb];refine AI.mk hE (fun _=>none) _ _ _ ?_ ?_ ?_ ?_ ?_<;>simp [this]
       . simp [JM,hc1,hc2,j1,j2,j3,go h1,g1,hb]
         refine ⟨q-1,r+y1,⟨h1,g2,by omega,by omega,by omega⟩,by omega,?_⟩;exact WK hE (fun _=>none)
     . have:=dn0 _ _ i1 i2 (by omega)
       simp [JM,hc1,hc2,j1,j2,j3];refine AI.mk hE (fun _=>none) _ _ _ ?_ ?_ ?_ ?_ ?_<;>simp [this]
 obtain ⟨R0,hR0'⟩:∃ R0:Int,R0=R*4294967296+w0-Q0*D:=⟨_,rfl⟩
 have k8:IntKind.wrap .u64 (IntKind.wrap .u64 (IntKind.wrap .u64 (R*4294967296)+w0)-IntKind.wrap .u64 (Q0*D))=R0:=by
   rw [Bl,Bl,Bl,Bl];omega
 have k9:IntKind.wrap .u64 (Q1*4294967296)=Q1*4294967296:=Ay (by omega) (by omega);have k10:IntKind.wrap .u64 (Q1*4294967296+Q0)=Q1*4294967296+Q0:=Ay (by omega) (by omega);have e5:(Q1*4294967296+Q0)*D=(Q1*D)*4294967296+Q0*D:=by rw [Int.add_mul,Int.mul_right_comm]
 obtain ⟨n1,n2⟩:=hN (Q1*4294967296+Q0) R0 (by rw [hU,e5];omega) (by omega) (by omega);simp [k8,k9,k10,show (0:Int)<=S by omega,show (S:Int)<=64 by omega];apply RZ;simp [results307,n1,n2]
def Da (P z:Int):Int × Int:=if P/z<2199023255552 then (P/z,P%z) else (2199023255552,0)
def upS (q:Int × Int):Int:=if 0<q.2 then q.1+1 else q.1
def Eg (x y z:Int):Int × Int:=
 let q:=Da (max x (-x)*max y (-y)) z
 if decide (x<0) != decide (y<0) then (-(upS q), -q.1) else (q.1,upS q)
theorem Nm {P z:Int} (hP:0<=P) (hz:1<=z):0<=(Da P z).1/\(Da P z).1<=2199023255552:=by
 have:=Int.ediv_nonneg hP (show 0<=z by omega);unfold Da;split<;>simp<;>omega
theorem AIG {x y:Int} (hx: -1099511627776<=x/\x<=1099511627776) (hy: -1099511627776<=y/\y<=1099511627776):0<=max x (-x)*max y (-y)/\max x (-x)*max y (-y)<=1208925819614629174706176:=by
 refine ⟨Int.mul_nonneg (by omega) (by omega),?_⟩;have:=DE (a:=max x (-x)) (b:=max y (-y)) (c:=1099511627776) (d:=1099511627776) (by omega) (by omega) (by omega) (by omega);omega
theorem qv (x y z:Int) (hx: -1099511627776<=x/\x<=1099511627776) (hy: -1099511627776<=y/\y<=1099511627776) (hz:1<=z/\z<=1099511627776):Ct prog 276 [vi x,vi y,vi z] (vsp (Eg x y z).1 (Eg x y z).2) []:=by
 refine CB func276 c276 fun E hE=>?_
 simp [p276];refine CLa (iv x (by omega)) ?_;simp;refine CLa (iv y (by omega)) ?_;simp;refine AU.mk _ _ _ (nr (max x (-x)) (max y (-y)) (by omega) (by omega)) (by first | (simp;done) | simp [Bk,CP]) (by simp) (by first | (left;simp;done) | (right;simp;done)) ?_;obtain ⟨P0,P1⟩:=AIG hx hy
 generalize hP:max x (-x)*max y (-y)=P at*
 have wz:IntKind.wrap .u64 z=z:=Ay (by omega) (by omega);have hmod:0<=P%18446744073709551616/\P%18446744073709551616<=18446744073709551615:=by omega
 have hP2:P/18446744073709551616*18446744073709551616+P%18446744073709551616=P:=by omega
 obtain ⟨b0,b1⟩:=Nm P0 hz.1;have b2:0<=P/z:=Int.ediv_nonneg P0 (by omega);have w1:IntKind.wrap .i64 (Da P z).1=(Da P z).1:=AD (by omega) (by omega);have w2:IntKind.wrap .i64 ((Da P z).1+1)=(Da P z).1+1:=AD (by omega) (by omega);have w3:IntKind.wrap .i64 (-((Da P z).1+1))= -((Da P z).1+1):=AD (by omega) (by omega);have w4:IntKind.wrap .i64 (-(Da P z).1)= -(Da P z).1:=AD (by omega) (by omega);by_cases hh:P/18446744073709551616<z
 . by_cases hq:P/z<2199023255552
   . have eS:Da P z=(P/z,P%z):=if_pos hq
     have r0:0<=P%z:=Int.emod_nonneg _ (by omega);rw [eS] at w1 w2 w3 w4;simp only at w1 w2 w3 w4;by_cases h0:P/18446744073709551616=0
     . have e0:P%18446744073709551616=P:=by omega
       simp [wz,h0,e0,show (0:Int)<z by omega];refine CLa (bj P z (by omega) (by omega)) ?_;by_cases hr:0<P%z<;>by_cases hsx:x<0<;>by_cases hsy:y<0<;>simp [hq,hr,hsx,hsy,w1,w2,w3,w4,AA]
       all_goals
         apply RZ;simp [results276,Eg,hP,eS,upS,hr,hsx,hsy]
     . simp [wz,hh]
       refine CLa (jO (P/18446744073709551616) (P%18446744073709551616) z (by omega) hmod (by omega)) ?_;rw [hP2];by_cases hr:0<P%z<;>by_cases hsx:x<0<;>by_cases hsy:y<0<;>simp [hq,hr,hsx,hsy,w1,w2,w3,w4,AA]
       all_goals
         apply RZ;simp [results276,Eg,hP,eS,upS,hr,hsx,hsy]
   . have eS:Da P z=(2199023255552,0):=if_neg hq
     by_cases h0:P/18446744073709551616=0
     . have e0:P%18446744073709551616=P:=by omega
       simp [wz,h0,e0,show (0:Int)<z by omega];refine CLa (bj P z (by omega) (by omega)) ?_;by_cases hsx:x<0<;>by_cases hsy:y<0<;>simp [hq,hsx,hsy,AA,AD]
       all_goals
         apply RZ;simp [results276,Eg,hP,eS,upS,hsx,hsy]
     . simp [wz,hh]
       refine CLa (jO (P/18446744073709551616) (P%18446744073709551616) z (by omega) hmod (by omega)) ?_;rw [hP2];by_cases hsx:x<0<;>by_cases hsy:y<0<;>simp [hq,hsx,hsy,AA,AD]
       all_goals
         apply RZ;simp [results276,Eg,hP,eS,upS,hsx,hsy]
 . have hq:¬ P/z<2199023255552:=by
     have:2199023255552<=P/z:=by
       rw [Int.le_ediv_iff_mul_le (by omega)];omega
     omega
   have eS:Da P z=(2199023255552,0):=if_neg hq;by_cases hsx:x<0<;>by_cases hsy:y<0<;>simp [wz,hh,hsx,hsy,AA,AD]
   all_goals
     apply RZ;simp [results276,Eg,hP,eS,upS,hsx,hsy]
def HO (a b c:Int × Int) (k:Nat):Int × Int:=Eg (if k%2=1 then a.2 else a.1) (if k/2%2=1 then b.2 else b.1) (if k/4=1 then c.2 else c.1)
def Lx (a b c:Int × Int):List (Int × Int):=[HO a b c 1,HO a b c 2,HO a b c 3,HO a b c 4,HO a b c 5,HO a b c 6,HO a b c 7]
def Ja (a b c:Int × Int):(Int × Int) × Int:=
 if okS a&&okS b&&okS c then (if c.1<1 then ((0,0),12) else JH (Bu (HO a b c 0) (Lx a b c))) else ((0,0),10)
def EU (a b c:Int × Int) (i k:Nat):List V:=if k<i then [vi (HO a b c k).1,vi (HO a b c k).2] else [vi 0,vi 0]
def Dq (a b c:Int × Int) (i:Nat):List V:=EU a b c i 0++EU a b c i 1++EU a b c i 2++EU a b c i 3++EU a b c i 4++EU a b c i 5++EU a b c i 6++EU a b c i 7
theorem UM (a b c:Int × Int) (i:Nat):(Dq a b c i).length=16:=by
 have h:∀ k,(EU a b c i k).length=2:=fun k=>by unfold EU;split<;>rfl
 simp [Dq,h]
theorem CH {a b c:Int × Int} (ha:okS a=true) (hb:okS b=true) (hc:okS c=true) (h1:¬ c.1<1) (k:Nat):Ct prog 276 [vi (if k%2=1 then a.2 else a.1),vi (if k/2%2=1 then b.2 else b.1),vi (if k/4=1 then c.2 else c.1)] (vsp (HO a b c k).1 (HO a b c k).2) []:=by
 rw [CT] at ha hb hc;refine qv _ _ _ ?_ ?_ ?_<;>split<;>omega
theorem nv (a b c:Int × Int):Ct prog 236 [vsp a.1 a.2,vsp b.1 b.2,vsp c.1 c.2] (vse (Ja a b c)) []:=by
 refine CB func236 c236 fun E hE=>?_
 simp [p236,AM,AA];refine CLb (YZ [a,b,c] (by simp)) (by first | (simp;done) | simp [Bk]) ?_;by_cases h:(okS a&&okS b&&okS c)=true
 . have hf:Co [a,b,c]=true:=by simpa [Co,Bool.and_assoc] using h
   have h':=h;simp only [Bool.and_eq_true] at h';obtain ⟨⟨ha,hb⟩,hc⟩:=h';by_cases h1:c.1<1
   . simp [hf,h1,AA]
     apply RZ;simp [results236,Ja,h,h1]
   . simp [hf,h1]
     refine BL (α:=Nat) 1 (fun _:Unit=>⟨AO [(6, .lp 0 0),(8, .lp 1 0)],lk [(0,[vi 0,vi 0]),(1,Dq a b c 8)],2⟩) (fun _=>True) (fun i=>⟨AO [(3, .lp 2 0),(4, .lp 3 0),(5, .lp 4 0),(6, .lp 0 0),(8, .lp 1 0),(26,vi i)],lk [(0,[vi 0,vi 0]),(1,Dq a b c i),(2,[vi a.1,vi a.2]),(3,[vi b.1,vi b.2]),(4,[vi c.1,vi c.2])],5⟩) (fun i=>i<=8) (fun i=>8-i) 0 ?_ ?_ ?_ fun _ _=>?_
     . simp
     . refine AI.mk hE (lk [(0,3145728),(1,16777216),(2,0),(3,1048576),(4,2097152)]) _ _ _ ?_ ?_ ?_ ?_ ?_<;>simp [Dq,EU]
     . intro i hi
       simp [bS];by_cases hlt:i<8
       . have hlt':(i:Int)<8:=by omega
         have hz:IntKind.wrap .i64 ((i:Int)+1)=(i:Int)+1:=AD (by omega) (by omega);simp [hlt'];refine PG [(18,15),(19,16)] (by kernel_rfl) ?_;have e0:bits .and .i64 0 1=0:=by decide
         have e1:bits .and .i64 1 1=1:=by decide
         have e2:bits .and .i64 2 1=0:=by decide
         have e3:bits .and .i64 3 1=1:=by decide
         have e4:bits .and .i64 4 1=0:=by decide
         have e5:bits .and .i64 5 1=1:=by decide
         have e6:bits .and .i64 6 1=0:=by decide
         have e7:bits .and .i64 7 1=1:=by decide
         simp [inC,Nat.testBit,AA];have s0:=CH ha hb hc h1 0;have s1:=CH ha hb hc h1 1;have s2:=CH ha hb hc h1 2;have s3:=CH ha hb hc h1 3;have s4:=CH ha hb hc h1 4;have s5:=CH ha hb hc h1 5;have s6:=CH ha hb hc h1 6;have s7:=CH ha hb hc h1 7;simp at s0 s1 s2 s3 s4 s5 s6 s7;have hi8:i=0\/i=1\/i=2\/i=3\/i=4\/i=5\/i=6\/i=7:=by omega
         rcases hi8 with rfl | rfl | rfl | rfl | rfl | rfl | rfl | rfl
         . simp [e0]
           refine CLa s0 ?_;simp [Dq,EU,AA,AD];refine ⟨1,by omega,by omega,?_⟩;exact WK hE (lk [(0,0),(1,1),(2,2),(3,3),(4,4)])
         . simp [e0,e1]
           refine CLa s1 ?_;simp [Dq,EU,AA,AD];refine ⟨2,by omega,by omega,?_⟩;exact WK hE (lk [(0,0),(1,1),(2,2),(3,3),(4,4)])
         . simp [e1,e2]
           refine CLa s2 ?_;simp [Dq,EU,AA,AD];refine ⟨3,by omega,by omega,?_⟩;exact WK hE (lk [(0,0),(1,1),(2,2),(3,3),(4,4)])
         . simp [e1,e3]
           refine CLa s3 ?_;simp [Dq,EU,AA,AD];refine ⟨4,by omega,by omega,?_⟩;exact WK hE (lk [(0,0),(1,1),(2,2),(3,3),(4,4)])
         . simp [e2,e4]
           refine CLa s4 ?_;simp [Dq,EU,AA,AD];refine ⟨5,by omega,by omega,?_⟩;exact WK hE (lk [(0,0),(1,1),(2,2),(3,3),(4,4)])
         . simp [e2,e5]
           refine CLa s5 ?_;simp [Dq,EU,AA,AD];refine ⟨6,by omega,by omega,?_⟩;exact WK hE (lk [(0,0),(1,1),(2,2),(3,3),(4,4)])
         . simp [e3,e6]
           refine CLa s6 ?_;simp [Dq,EU,AA,AD];refine ⟨7,by omega,by omega,?_⟩;exact WK hE (lk [(0,0),(1,1),(2,2),(3,3),(4,4)])
         . simp [e3,e7]
           refine CLa s7 ?_;simp [Dq,EU,AA,AD];refine ⟨8,by omega,by omega,?_⟩;exact WK hE (lk [(0,0),(1,1),(2,2),(3,3),(4,4)])
       . have:i=8:=by omega
         subst this;simp;refine AI.mk hE (lk [(0,0),(1,1)]) _ _ _ ?_ ?_ ?_ ?_ ?_<;>simp [Dq,EU]
     . simp [UM]
       refine CLb (Wj (HO a b c 0) (Lx a b c) (by simp [Lx])) (by first | (simp;done) | simp [Bk,Lx,Dq,EU]) ?_;simp;refine AU.mk _ _ _ (pp (Bu (HO a b c 0) (Lx a b c))) (by first | (simp;done) | simp [Bk,CP]) (by simp) (by first | (left;simp;done) | (right;simp;done)) ?_;simp [AA];apply RZ;simp [results236,Ja,h,h1]
 . have hf:Co [a,b,c]=false:=by simpa [Co,Bool.and_assoc] using h
   simp [hf,AA];apply RZ;simp [results236,Ja,h]
def sqG (n:Int):Nat->Int->Int
 | 0,r=>r
 | k+1,r=>sqG n k (if (r+2^k)*(r+2^k)<=n then r+2^k else r)
def DL (n:Int):Int:=sqG n 21 0
def LA (n r:Int):Prop:=0<=r/\r*r<=n/\n<(r+1)*(r+1)
theorem NW (n:Int):∀ (k:Nat) (r:Int),0<=r->r*r<=n->n<(r+2^k)*(r+2^k)->LA n (sqG n k r)
 | 0,r,h0,h1,h2=>⟨h0,h1,by simp only [sqG];simpa using h2⟩
 | k+1,r,h0,h1,h2=>by
   have hp:(1:Int)<=2^k:=LJ k;have e:(2:Int)^(k+1)=2^k+2^k:=by rw [Int.pow_succ];omega
   simp only [sqG];split
   . rename_i h
     exact NW n k _ (by omega) h (by rw [e,<-Int.add_assoc] at h2;exact h2)
   . rename_i h
     exact NW n k _ h0 h1 (by omega)
theorem PN {n r s:Int} (h1:LA n r) (h2:LA n s):r=s:=by
 obtain ⟨a1,a2,a3⟩:=h1;obtain ⟨b1,b2,b3⟩:=h2
 have key:∀ p q:Int,0<=p->0<=q->p*p<=n->n<(q+1)*(q+1)->p<=q:=fun p q hp hq h h'=>by
   refine Int.not_lt.1 fun hlt=>?_
   have:(q+1)*(q+1)<=p*p:=DE (by omega) (by omega) (by omega) (by omega);omega
 have:=key r s a1 b1 a2 b3;have:=key s r b1 a1 b2 a3;omega
theorem PP (n:Int) (h:0<=n/\n<=1099511627776):LA n (DL n):=NW n 21 0 (by omega) (by omega) (by simp;omega)
theorem V9 {n r:Int} (h:LA n r) (hn:n<=1099511627776):r<=1048576:=by
 refine Int.not_lt.1 fun hlt=>?_
 have:(1048577:Int)*1048577<=r*r:=DE (by omega) (by omega) (by omega) (by omega);have:=h.2.1;omega
theorem jJ (n:Int) (h:0<=n/\n<=1099511627776):Ct prog 180 [vi n] (vi (DL n)) []:=by
 refine CB func180 c180 fun E hE=>?_
 simp [p180];refine BL (α:=Int × Int) 0 (fun _:Unit=>⟨AO [(3,vi (DL n))],lk [],0⟩) (fun _=>True) (fun x=>⟨AO [(0,vi n),(3,vi x.1),(4,vi x.2)],lk [],0⟩) (fun x=>0<=x.1/\x.1<x.2/\x.2<=1048577/\x.1*x.1<=n/\n<x.2*x.2) (fun x=>(x.2-x.1).toNat) (0,1048577) ?_ ?_ ?_ fun _ _=>?_
 . simp;omega
 . exact WK hE (lk [])
 . rintro ⟨lo,hi⟩ ⟨h1,h2,h3,h4,h5⟩
   simp only at h1 h2 h3 h4 h5;have w1:IntKind.wrap .i64 (hi-lo)=hi-lo:=AD (by omega) (by omega);have w2:IntKind.wrap .i64 (lo+hi)=lo+hi:=AD (by omega) (by omega);have t:(lo+hi).tdiv 2=(lo+hi)/2:=Int.tdiv_eq_ediv_of_nonneg (by omega);have w3:IntKind.wrap .i64 ((lo+hi)/2)=(lo+hi)/2:=AD (by omega) (by omega);have m0:0<=(lo+hi)/2:=by omega
   have m1:(lo+hi)/2*((lo+hi)/2)<=1048577*1048577:=DE (by omega) (by omega) m0 (by omega);have m2:=Int.mul_nonneg m0 m0;have w4:IntKind.wrap .i64 ((lo+hi)/2*((lo+hi)/2))=(lo+hi)/2*((lo+hi)/2):=AD (by omega) (by omega);by_cases hc:1<hi-lo
   . by_cases hm:(lo+hi)/2*((lo+hi)/2)<=n
     . simp [tD,w1,w2,t,w3,w4,hc,hm]
       refine ⟨(lo+hi)/2,hi,⟨m0,by omega,h3,hm,h5⟩,by omega,?_⟩;exact WK hE (lk [])
     . simp [tD,w1,w2,t,w3,w4,hc,hm]
       refine ⟨lo,(lo+hi)/2,⟨h1,by omega,by omega,h4,by omega⟩,by omega,?_⟩;exact WK hE (lk [])
   . have e:hi=lo+1:=by omega
     have:lo=DL n:=PN ⟨h1,h4,by rw [<-e];exact h5⟩ (PP n h);simp [tD,w1,hc];refine AI.mk hE (lk []) _ _ _ ?_ ?_ ?_ ?_ ?_<;>simp [this]
 . simp
   apply RZ;simp [results180]
def LB (a:Int × Int):(Int × Int) × Int:=
 if okS a then (if a.1<0 then ((0,0),2) else ((DL a.1,if DL a.2*DL a.2=a.2 then DL a.2 else DL a.2+1),0)) else ((0,0),10)
theorem qG (a:Int × Int):Ct prog 118 [vsp a.1 a.2] (vse (LB a)) []:=by
 refine CB func118 c118 fun E hE=>?_
 simp [p118,AM,AA];refine CLb (YZ [a] (by simp)) (by first | (simp;done) | simp [Bk]) ?_;by_cases h:okS a=true
 . have hf:Co [a]=true:=by simpa [Co] using h
   have hh:=CT.1 h;by_cases h1:a.1<0
   . simp [hf,h1,AA]
     apply RZ;simp [results118,LB,h,h1]
   . simp [hf,h1,inC,Nat.testBit]
     refine CLa (jJ a.1 (by omega)) ?_;simp [inC,Nat.testBit];refine CLa (jJ a.2 (by omega)) ?_;have q:=PP a.2 (by omega);have ql:=V9 q (by omega);have m:=q.2.1;have m2:=Int.mul_nonneg q.1 q.1;have w:IntKind.wrap .i64 (DL a.2*DL a.2)=DL a.2*DL a.2:=AD (by omega) (by omega);have w2:IntKind.wrap .i64 (DL a.2+1)=DL a.2+1:=AD (by have:=q.1;omega) (by omega);have wa:IntKind.wrap .i64 a.2=a.2:=AD (by omega) (by omega);by_cases hq:DL a.2*DL a.2=a.2
     . simp [AA,wa,hq]
       apply RZ;simp [results118,LB,h,h1,hq]
     . simp [AA,w,w2,hq]
       apply RZ;simp [results118,LB,h,h1,hq]
 . have hf:Co [a]=false:=by simpa [Co] using h
   simp [hf,AA];apply RZ;simp [results118,LB,h]
open Go.Geo (Ao CV chainR Bo)
def leC (x y:Int × Int):Bool:=!decide (Dw y x<0)
theorem PX {x y:Int × Int}:Dw x y<0↔Go.Geo.lt x y:=by
 unfold Dw orI orI orI NM Go.Geo.lt;by_cases h1:x.1<y.1
 . simp [h1]
 . by_cases h2:y.1<x.1
   . simp [h1,h2];omega
   . by_cases h3:x.2<y.2
     . simp [h1,h2,h3];omega
     . by_cases h4:y.2<x.2
       . simp [h1,h2,h3,h4]
       . simp [h1,h2,h3,h4]
theorem GZ {x y:Int × Int}:leC x y=true↔¬ Go.Geo.lt y x:=by unfold leC;rw [Bool.not_eq_true',decide_eq_false_iff_not,PX]
theorem WD (a b c:Int × Int) (h1:leC a b=true) (h2:leC b c=true):leC a c=true:=by
 rw [GZ] at*;unfold Go.Geo.lt at*;omega
theorem WE (a b:Int × Int):(leC a b||leC b a)=true:=by
 rw [Bool.or_eq_true,GZ,GZ];unfold Go.Geo.lt;omega
theorem bc {a b:Int × Int} (h1:leC a b=true) (h2:leC b a=true):a=b:=by
 rw [GZ] at*;unfold Go.Geo.lt at*
 ext<;>omega
theorem PY (l:List (Int × Int)):(DK l).Pairwise fun x y=>leC x y=true:=List.pairwise_mergeSort WD WE l
theorem be {l m:List (Int × Int)} (hp:m.Perm l) (hs:m.Pairwise fun x y=>leC x y=true):DK l=m:=
 List.Perm.eq_of_pairwise (le:=fun x y=>leC x y=true) (fun _ _ _ _ h1 h2=>bc h1 h2) (PY l) hs ((List.mergeSort_perm l _).trans hp.symm)
theorem qi {l:List (Int × Int)} (h:l.Pairwise fun x y=>leC x y=true):Go.Geo.Sorted (ddC l):=by
 have key:∀ (l d:List (Int × Int)),l.Pairwise (fun x y=>leC x y=true)->Go.Geo.Sorted d->(∀ x∈d,∀ y∈l,leC x y=true)->Go.Geo.Sorted (l.foldl DQ d):=by
   intro l;induction l with
   | nil=>intro d _ h _;exact h
   | cons a l ih=>
     intro d hl hd hx;rw [List.foldl_cons];have hl':=List.pairwise_cons.1 hl;unfold DQ;by_cases h:d.getLast?= some a
     . rw [if_pos h]
       exact ih d hl'.2 hd fun x hx' y hy=>hx x hx' y (by simp [hy])
     . rw [if_neg h]
       refine ih _ hl'.2 ?_ fun x hx' y hy=>?_
       . unfold Go.Geo.Sorted
         rw [List.pairwise_append];refine ⟨hd,List.pairwise_singleton _ _,fun x hxd y hy=>?_⟩;rw [List.mem_singleton.1 hy];have h1:=GZ.1 (hx x hxd a (by simp));rcases Go.Geo.lt_tri x a with h2 | h2 | h2
         . exact h2
         . exfalso
           subst h2;rcases List.eq_nil_or_concat d with rfl | ⟨d',z,rfl⟩
           . simp at hxd
           . rw [List.concat_eq_append] at*
             have hz:=GZ.1 (hx z (by simp) x (by simp));have hne:z≠x:=fun e=>h (by rw [e];simp)
             have hxd':x∈d':=by
               rcases List.mem_append.1 hxd with h | h
               . exact h
               . exact absurd (List.mem_singleton.1 h).symm hne
             have:=(List.pairwise_append.1 hd).2.2 x hxd' z (by simp);exact hz this
         . exact absurd h2 h1
       . rcases List.mem_append.1 hx' with h | h
         . exact hx x h y (by simp [hy])
         . rw [List.mem_singleton.1 h];exact hl'.1 y hy
 exact key l [] h List.Pairwise.nil (by simp)
theorem JN (l:List (Int × Int)):Go.Geo.Sorted (ddC (DK l)):=qi (PY l)
instance (l:List (Int × Int)):Decidable (l.Pairwise fun x y=>leC x y=true):=inferInstance
theorem bf {l m:List (Int × Int)} (hp:m.Perm l) (hs:m.Pairwise fun x y=>leC x y=true):Fb l=Bo (ddC m):=by unfold Fb;rw [be hp hs]
theorem z6 {H:Hp} {id:Nat} {cs:List V} (l:List (Int × Int)) (h:H id=some cs) (hc:cs=BC l):Bor H (.ls id 0 l.length 2) (.d (An l)):=by
 rw [Bk];refine ⟨rfl,by simp,fun e he=>?_,_,h,?_⟩
 . simp only [List.mem_map] at he
   obtain ⟨k,_,rfl⟩:=he;rfl
 . rw [Om,hc,List.drop_zero,List.take_of_length_le (by simp)]
def qj (l:List (Int × Int × Int)) (i:Nat) (a k:Int × Int × Int) (x:Int):Prop:=l[i]?= some a/\l[i+1]?= some k/\a.1<=x/\x<=k.1/\(i=0\/a.1<x)
section
variable {l:List (Int × Int × Int)} (ht:Ck l=true) {i:Nat} {a k:Int × Int × Int} {x:Int} (h:qj l i a k x) {u v:Int} (hu:a.2.1<=u/\u<=a.2.2) (hv:k.2.1<=v/\v<=k.2.2)
def qk (y:Int × Int):Int:=max y.1 (-1073741825)
def jP (y:Int × Int):Int:=min y.2 1073741825
def isIn (y:Int × Int) (num den:Int):Prop:=qk y<=1073741825/\ -1073741825<=jP y/\qk y*den<=num/\num<=jP y*den
end
end Go.Proofs.Tryz
namespace Go.Geo
def box (a b p:C):Prop:=(min a.1 b.1<=p.1/\p.1<=max a.1 b.1)/\min a.2 b.2<=p.2/\p.2<=max a.2 b.2
def InR (r:List C) (p:C):Prop:=(∀ e∈cyc r,0<=Ao e.1 e.2 p)/\(2<r.length\/∃ a b,r.head?= some a/\r.getLast?= some b/\box a b p)
theorem dR {a b p:C} (hab:lt a b) (h1:le a p) (h2:le p b) (hc:Ao a b p=0):box a b p:=by
 unfold box;unfold le lt at h1 h2;unfold lt at hab;unfold Ao at hc;rcases hab with hab | ⟨h3,h4⟩
 . have k1:0<=p.1-a.1:=by omega
   have k2:0<=b.1-p.1:=by omega
   have e1:(b.1-a.1)*(p.2-a.2)=(b.2-a.2)*(p.1-a.1):=by omega
   have e2:(b.1-a.1)*(b.2-p.2)=(b.2-a.2)*(b.1-p.1):=by grind
   rcases Int.le_total a.2 b.2 with h | h
   . have q1:=Int.mul_nonneg (show 0<=b.2-a.2 by omega) k1
     have q2:=Int.mul_nonneg (show 0<=b.2-a.2 by omega) k2;have:=C8 (show 0<b.1-a.1 by omega) (by rw [e1];exact q1);have:=C8 (show 0<b.1-a.1 by omega) (by rw [e2];exact q2);omega
   . have q1:=Int.mul_nonneg (show 0<=a.2-b.2 by omega) k1
     have q2:=Int.mul_nonneg (show 0<=a.2-b.2 by omega) k2
     have:=C8 (y:=a.2-p.2) (show 0<b.1-a.1 by omega) (by
      have:(b.1-a.1)*(a.2-p.2)=(a.2-b.2)*(p.1-a.1):=by grind
      rw [this];exact q1)
     have:=C8 (y:=p.2-b.2) (show 0<b.1-a.1 by omega) (by
      have:(b.1-a.1)*(p.2-b.2)=(a.2-b.2)*(b.1-p.1):=by grind
      rw [this];exact q2)
     omega
 . omega
theorem hull_two {l:List C} (h:Sorted l) (h3:¬ l.length<3) (hn:¬ 5<=(chainR l).length+(chainR l.reverse).length):∃ f g,l.head?= some f/\l.getLast?= some g/\lt f g/\Bo l=[f,g]/\chainR l=[g,f]/\chainR l.reverse=[f,g]:=by
 obtain ⟨f,g,lo,up,hf,hg,hfg,e1,e2,b1,b2⟩:=Q2 h (by omega)
 have hgl:lt f g:=by
   rcases lt_tri f g with h1 | h1 | h1
   . exact h1
   . exact absurd h1 hfg
   . exact absurd h1 (Dh h hf g (List.mem_of_getLast? hg))
 refine ⟨f,g,hf,hg,hgl,?_⟩;rw [e1,e2] at hn;unfold Bo;rw [if_neg h3,e1,e2]
 match lo,up,b1,b2,hn with
 | [x],[y],b1,b2,_=>simp at b1 b2;subst b1;subst b2;exact ⟨rfl,rfl,rfl⟩
 | [],_,b1,_,_=>simp at b1
 | _,[],_,b2,_=>simp at b2
 | _::_::_,_::_,_,_,hn=>simp at hn;omega
 | [_],_::_::_,_,_,hn=>simp at hn;omega
theorem hull_len {l:List C} (h3:¬ l.length<3):(Bo l).length+2=(chainR l).length-1+((chainR l.reverse).length-1)+2:=by
 unfold Bo;rw [if_neg h3];simp
theorem chain_len2 {l:List C} (h:Sorted l) (h2:2<=l.length):2<=(chainR l).length/\2<=(chainR l.reverse).length:=by
 obtain ⟨f,g,lo,up,hf,hg,hfg,e1,e2,b1,b2⟩:=Q2 h h2;rw [e1,e2];constructor
 . cases lo with | nil=>simp at b1 | cons=>simp
 . cases up with | nil=>simp at b2 | cons=>simp
theorem hull_in {l:List C} (h:Sorted l):∀ q∈l,InR (Bo l) q:=by
 intro q hq;by_cases h3:l.length<3
 . have e:Bo l=l:=by unfold Bo;rw [if_pos h3]
   rw [e]
   match l,h3,h,hq with
   | [],_,_,hq=>simp at hq
   | [a],_,_,hq=>
     simp at hq;subst hq;refine ⟨fun e he=>?_,Or.inr ⟨q,q,rfl,rfl,by unfold box;omega⟩⟩;simp [cyc,steps] at he;subst he;rw [cross_self];omega
   | [a,b],_,h,hq=>
     refine ⟨fun e he=>?_,Or.inr ⟨a,b,rfl,rfl,?_⟩⟩
     . simp [cyc,steps] at he
       simp at hq;rcases he with rfl | rfl<;>rcases hq with rfl | rfl<;>simp only [cross_self,cross_self2]<;>omega
     . simp at hq
       rcases hq with rfl | rfl<;>(unfold box;omega)
   | _::_::_::_,h3,_,_=>simp at h3;omega
 . have hl:=UN h (by omega)
   refine ⟨fun e he=>hl e he q hq,?_⟩;have hlen:=hull_len h3;have h22:=chain_len2 h (by omega);by_cases hn:5<=(chainR l).length+(chainR l.reverse).length
   . left;omega
   . right
     obtain ⟨f,g,hf,hg,hfg,e,_⟩:=hull_two h h3 hn;refine ⟨f,g,by rw [e];rfl,by rw [e];rfl,?_⟩;have c1:=hl (f,g) (by rw [e];simp [cyc,steps]) q hq;have c2:=hl (g,f) (by rw [e];simp [cyc,steps]) q hq;simp only at c1 c2;rw [cross_swap2] at c2
     have hlast:le q g:=by
       have hs:=Ks h;have:=Dh hs (f:=neg g) (by rw [List.head?_map,List.head?_reverse,hg];rfl) (neg q) (List.mem_map.2 ⟨q,List.mem_reverse.2 hq,rfl⟩);intro hlt;exact this (Qy.2 hlt)
     exact dR hfg (Dh h hf q hq) hlast (by omega)
theorem Eb.mono {d d':List C} (hd:∀ q∈d',q∈d):∀ {st:List C},Eb d st->Eb d' st
 | [],_=>trivial
 | [_],_=>trivial
 | [_,_],h=>⟨h.1,fun q hq=>h.2 q (hd q hq)⟩
 | _::_::_::_,h=>⟨h.1,h.2.1,fun q hq=>h.2.2.1 q (hd q hq),Eb.mono hd h.2.2.2⟩
def dot (d v:C):Int:=d.1*v.1+d.2*v.2
def T (w v:C):C:=(-(xp w v), -(dot w v))
theorem MG:∀ l:List C,(steps l).length=l.length-1
 | []=>rfl
 | [_]=>rfl
 | _::b::r=>by simp only [steps,List.length_cons];rw [MG (b::r)];simp
theorem O3:∀ (l:List C) (i:Nat) (a b:C),l[i]?= some a->l[i+1]?= some b->(steps l)[i]?= some (a,b)
 | [],_,_,_,h,_=>by simp at h
 | [_],i,_,_,_,h=>by simp at h
 | x::y::r,0,a,b,h1,h2=>by simp at h1 h2;subst h1;subst h2;rfl
 | x::y::r,i+1,a,b,h1,h2=>by
   simp only [steps,List.getElem?_cons_succ] at h1 h2 ⊢;exact O3 (y::r) i a b h1 h2
theorem cyc_len (r:List C):(cyc r).length=r.length:=by
 cases r with
 | nil=>rfl
 | cons a t=>simp only [cyc];rw [MG];simp
theorem cyc_at {r:List C} {i j:Nat} {a b:C} (ha:r[i]?= some a) (hj:j=(i+1)%r.length) (hb:r[j]?= some b):(cyc r)[i]?= some (a,b):=by
 cases r with
 | nil=>simp at ha
 | cons x t=>
   have hi:=(List.getElem?_eq_some_iff.1 ha).1;simp only [cyc];refine O3 _ i a b ?_ ?_
   . rw [List.getElem?_append_left hi];exact ha
   . by_cases h:i+1<(x::t).length
     . rw [Nat.mod_eq_of_lt h] at hj
       subst hj;rw [List.getElem?_append_left h];exact hb
     . have e:i+1=(x::t).length:=by omega
       rw [e,Nat.mod_self] at hj;subst hj;simp at hb;subst hb;rw [e,List.getElem?_append_right (Nat.le_refl _),Nat.sub_self];rfl
theorem MH:∀ {l:List C} {e:C × C},e∈steps l->e.1∈l/\e.2∈l
 | [],_,h=>by simp [steps] at h
 | [_],_,h=>by simp [steps] at h
 | a::b::r,e,h=>by
   simp only [steps,List.mem_cons] at h;rcases h with rfl | h
   . simp
   . have:=MH (l:=b::r) h
     exact ⟨List.mem_cons_of_mem _ this.1,List.mem_cons_of_mem _ this.2⟩
theorem cyc_mem {r:List C} {e:C × C} (h:e∈cyc r):e.1∈r/\e.2∈r:=by
 cases r with
 | nil=>simp [cyc] at h
 | cons a t=>
   simp only [cyc] at h;have:=MH h;simp only [List.mem_append,List.mem_cons,List.not_mem_nil,or_false] at this ⊢;constructor
   . rcases this.1 with h | h;exact h;exact Or.inl h
   . rcases this.2 with h | h;exact h;exact Or.inl h
end Go.Geo
namespace Go.Proofs.Tryz
open Go.Psl
open Go.Geo (Ao cyc InR box)
def ZU (p:Int × Int) (es:List ((Int × Int) × (Int × Int))):Bool:=es.all fun e=>decide (0<=Ao e.1 e.2 p)
theorem MJ {p:Int × Int} {es:List ((Int × Int) × (Int × Int))}:ZU p es=true↔∀ e∈es,0<=Ao e.1 e.2 p:=by
 unfold ZU;simp [List.all_eq_true]
def ZV (n lo hi:Int):Bool:=decide (lo<=n)&&decide (n<=hi)
def Lj (r:List (Int × Int)) (p:Int × Int):Bool:=match r with
 | []=>false
 | [a]=>decide (a=p)
 | a::b::t=>ZU p (cyc r)&&(decide (0<t.length)||(ZV p.1 a.1 b.1&&ZV p.2 (min a.2 b.2) (max a.2 b.2)))
end Go.Proofs.Tryz
namespace Go.Psl
variable {P:Program} {Γ:Tys} {eqs:Eqs} {E:Ent}
def rid (ks:List Nat) (i:Nat):Option Nat:=if i∈ks then some i else none
structure A4 (ks:List Nat) (L:List (Nat × List V)):Prop where
 names:L.map (·.1)=ks
 nd:ks.Nodup
 cells:∀ p∈L,p.2≠[]/\Bv p.2/\∀ c∈p.2,WC (rid ks) c c
theorem Cr {ks:List Nat} {i:Nat} (h:i∈ks):rid ks i=some i:=by simp [rid,h]
theorem AF8:∀ {L:List (Nat × List V)},(L.map (·.1)).Nodup->∀ p∈L,lk L p.1=some p.2
 | [],_,p,hp=>by simp at hp
 | q::r,hn,p,hp=>by
   simp only [List.map_cons,List.nodup_cons] at hn;simp only [lk];rcases List.mem_cons.1 hp with rfl | hp
   . simp
   . have:p.1≠q.1:=fun e=>hn.1 (e ▸ List.mem_map.2 ⟨p,hp,rfl⟩)
     rw [if_neg this];exact AF8 hn.2 p hp
section
variable {ks:List Nat} {L L1:List (Nat × List V)}
theorem A4.lk (h:A4 ks L) {p:Nat × List V} (hp:p∈L):Go.Psl.lk L p.1=some p.2:=AF8 (by rw [h.names];exact h.nd) p hp
theorem A4.mem (h:A4 ks L) {p:Nat × List V} (hp:p∈L):p.1∈ks:=by rw [<-h.names];exact List.mem_map.2 ⟨p,hp,rfl⟩
theorem A4.isIn (h:A4 ks L) {i:Nat}:(Go.Psl.lk L i).isSome=true↔i∈ks:=by
 constructor
 . intro hi
   obtain ⟨x,hx⟩:=Option.isSome_iff_exists.1 hi;exact h.mem (p:=(i,x)) (B4 hx)
 . intro hi
   rw [<-h.names] at hi;obtain ⟨p,hp,rfl⟩:=List.mem_map.1 hi;rw [h.lk hp];rfl
theorem Dz {i j:Nat} (h:rid ks i=some j):i∈ks/\j=i:=by
 unfold rid at h;split at h
 . cases h;exact ⟨by assumption,rfl⟩
 . cases h
theorem FH {c:V} (h:W0 (rid ks) c c):A0 (·∈ks) AR c/\∀ b,DR (sg ks b) c=c:=by
 cases c with
 | junk=>exact ⟨trivial,fun _=>rfl⟩
 | d x=>exact ⟨trivial,fun _=>rfl⟩
 | lp i o=>
   obtain ⟨j,hj,_⟩:=h;have hi:=(Dz hj).1;exact ⟨hi,fun b=>by simp [DR,sg,hi]⟩
 | ls i o l z=>
   unfold W0 at h;simp only at h;split at h
   . rename_i j hj
     have hi:=(Dz hj).1;exact ⟨hi,fun b=>by simp [DR,sg,hi]⟩
   . cases h.2
 | yl i=>
   obtain ⟨j,hj,_⟩:=h;have hi:=(Dz hj).1;exact ⟨hi,fun b=>by simp [DR,sg,hi]⟩
 | lr=>exact False.elim h
 | cl f cs=>exact ⟨trivial,fun _=>rfl⟩
 | agg cs=>exact ⟨trivial,fun _=>rfl⟩
 | tup cs=>exact ⟨trivial,fun _=>rfl⟩
theorem Et {α:Type} {f:α->α}:∀ {l:List α},(∀ x∈l,f x=x)->l.map f=l
 | [],_=>rfl
 | a::l,h=>by rw [List.map_cons,h a (by simp),Et fun x hx=>h x (List.mem_cons_of_mem _ hx)]
theorem GY {α:Type} {R:α->α->Prop}:∀ {l:List α},AJ R l l->∀ x∈l,R x x
 | [],_,_,hx=>by simp at hx
 | a::l,h,x,hx=>by
   rcases List.mem_cons.1 hx with rfl | hx
   . exact h.1
   . exact GY h.2 x hx
theorem MM {α:Type} {R:α->α->Prop}:∀ {l:List α},(∀ x∈l,R x x)->AJ R l l
 | [],_=>trivial
 | a::l,h=>⟨h a (by simp),MM fun x hx=>h x (List.mem_cons_of_mem _ hx)⟩
theorem FI {c:V} (h:A0 (·∈ks) AR c) (b:Nat):DR (sg ks b) c=c:=by
 cases c<;>first | rfl | (have h2:_∈ks:=h;simp [DR,sg,h2]) | exact False.elim h
theorem FJ {c:V} (h:A1 (·∈ks) AR c) (b:Nat):DS (sg ks b) c=c:=by
 cases c with
 | cl f cs=>simp only [DS];rw [Et fun x hx=>FI (h x hx) b]
 | junk=>exact FI (ks:=ks) (c:= .junk) h b
 | d x=>exact FI (ks:=ks) (c:= .d x) h b
 | lp i o=>exact FI (ks:=ks) (c:= .lp i o) h b
 | ls i o l z=>exact FI (ks:=ks) (c:= .ls i o l z) h b
 | yl i=>exact FI (ks:=ks) (c:= .yl i) h b
 | lr f n p pa pb j=>exact FI (ks:=ks) (c:= .lr f n p pa pb j) h b
 | agg cs=>exact FI (ks:=ks) (c:= .agg cs) h b
 | tup cs=>exact FI (ks:=ks) (c:= .tup cs) h b
theorem FL {c:V} (h:A2 (·∈ks) AR c) (b:Nat):HR (sg ks b) c=c:=by
 cases c with
 | agg cs=>simp only [HR];rw [Et fun x hx=>FJ (h x hx) b]
 | junk=>exact FJ (ks:=ks) (c:= .junk) h b
 | d x=>exact FJ (ks:=ks) (c:= .d x) h b
 | lp i o=>exact FJ (ks:=ks) (c:= .lp i o) h b
 | ls i o l z=>exact FJ (ks:=ks) (c:= .ls i o l z) h b
 | yl i=>exact FJ (ks:=ks) (c:= .yl i) h b
 | lr f n p pa pb j=>exact FJ (ks:=ks) (c:= .lr f n p pa pb j) h b
 | cl f cs=>exact FJ (ks:=ks) (c:= .cl f cs) h b
 | tup cs=>exact FJ (ks:=ks) (c:= .tup cs) h b
theorem R9 {c:V} (h:AV (·∈ks) AR c) (b:Nat):ren (sg ks b) c=c:=by
 cases c with
 | tup cs=>simp only [ren];rw [Et fun x hx=>FL (h x hx) b]
 | junk=>exact FL (ks:=ks) (c:= .junk) h b
 | d x=>exact FL (ks:=ks) (c:= .d x) h b
 | lp i o=>exact FL (ks:=ks) (c:= .lp i o) h b
 | ls i o l z=>exact FL (ks:=ks) (c:= .ls i o l z) h b
 | yl i=>exact FL (ks:=ks) (c:= .yl i) h b
 | lr f n p pa pb j=>exact FL (ks:=ks) (c:= .lr f n p pa pb j) h b
 | cl f cs=>exact FL (ks:=ks) (c:= .cl f cs) h b
 | agg cs=>exact FL (ks:=ks) (c:= .agg cs) h b
theorem bB {c:V} (h:WC (rid ks) c c):AC (·∈ks) AR c/\∀ b,BJ (sg ks b) c=c:=by
 cases c with
 | lr fr nt ps pa pb jmp=>
   have h2:∀ t,AV (·∈ks) AR (fr t):=fun t=>AV.mono (fun i hi=>(Dz hi).1) (fun _ h=>h) (h.2 t)
   refine ⟨h2,fun b=>?_⟩;simp only [BJ];congr 1
   funext t;exact R9 (h2 t) b
 | cl f cs=>
   obtain ⟨cs',e,h2⟩:=h;cases e;have h3:=GY h2;exact ⟨fun c hc=>(FH (h3 c hc)).1,fun b=>by simp only [BJ,DS];rw [Et fun x hx=>(FH (h3 x hx)).2 b]⟩
 | junk=>exact ⟨trivial,fun _=>rfl⟩
 | d x=>exact ⟨trivial,fun _=>rfl⟩
 | lp i o=>exact FH (c:= .lp i o) h
 | ls i o l z=>exact FH (c:= .ls i o l z) h
 | yl i=>exact FH (c:= .yl i) h
 | agg cs=>exact False.elim h
 | tup cs=>exact False.elim h
theorem A4.ac (h:A4 ks L) {p:Nat × List V} (hp:p∈L):∀ c∈p.2,AC (·∈ks) AR c:=fun c hc=>(bB ((h.cells p hp).2.2 c hc)).1
theorem A4.hp (h:A4 ks L) {H:Hp} (hH:∀ i∈ks,H i=Go.Psl.lk L i):Ej (rid ks) H L:=by
 have key:∀ M:List (Nat × List V),(∀ p∈M,p∈L)->Ej (rid ks) H M:=by
   intro M;induction M with
   | nil=>intro _;trivial
   | cons p r ih=>
     intro hM;have hp:=hM p (by simp);have hm:=h.mem hp;obtain ⟨c1,c2,c3⟩:=h.cells p hp;refine ⟨?_,ih fun q hq=>hM q (List.mem_cons_of_mem _ hq)⟩;rw [Cr hm];exact ⟨⟨p.2,by rw [hH _ hm,h.lk hp],MM c3⟩,c2⟩
 exact key L fun _ h=>h
theorem A4.inj (h:A4 ks L):Bd (rid ks) L:=by
 have key:∀ M:List (Nat × List V),(∀ p∈M,p∈L)->Bd (rid ks) M:=by
   intro M;induction M with
   | nil=>intro _;trivial
   | cons p r ih=>
     intro hM;refine ⟨fun q hq=>?_,ih fun q hq=>hM q (List.mem_cons_of_mem _ hq)⟩;have h1:=h.mem (hM p (by simp));have h2:=h.mem (hM q (List.mem_cons_of_mem _ hq));rw [Cr h1,Cr h2];by_cases e:q.1=p.1
     . exact Or.inr (Or.inr e)
     . exact Or.inr (Or.inl fun e'=>e (Option.some.inj e'))
 exact key L fun _ h=>h
theorem A4.stab (_:A4 ks L) {H:Hp} (hH:∀ i∈ks,H i=Go.Psl.lk L i):DZ (rid ks) H (Go.Psl.lk L) ks:=by
 have key:∀ M:List Nat,(∀ i∈M,i∈ks)->DZ (rid ks) H (Go.Psl.lk L) M:=by
   intro M;induction M with
   | nil=>intro _;trivial
   | cons i r ih=>
     intro hM;have hi:=hM i (by simp);exact ⟨fun hs=>⟨Cr hi,by rw [hH i hi];exact hs⟩,ih fun j hj=>hM j (List.mem_cons_of_mem _ hj)⟩
 exact key ks fun _ h=>h
theorem A4.stabW (_:A4 ks L) {H:Hp} (hH:∀ i∈ks,H i=Go.Psl.lk L i) {n:Nat} (hn:∀ i∈ks,i<n):HD (rid ks) H (Go.Psl.lk L) n ks:=by
 have key:∀ M:List Nat,(∀ i∈M,i∈ks)->HD (rid ks) H (Go.Psl.lk L) n M:=by
   intro M;induction M with
   | nil=>intro _;trivial
   | cons i r ih=>
     intro hM;have hi:=hM i (by simp);exact ⟨hn i hi,fun hs=>⟨Cr hi,by rw [hH i hi];exact hs⟩,ih fun j hj=>hM j (List.mem_cons_of_mem _ hj)⟩
 exact key ks fun _ h=>h
theorem A4.ids (h:A4 ks L) {n:Nat} (hn:∀ i∈ks,i<n):A7 n L:=by
 have key:∀ M:List (Nat × List V),(∀ p∈M,p∈L)->A7 n M:=by
   intro M;induction M with
   | nil=>intro _;trivial
   | cons p r ih=>
     intro hM;have hp:=hM p (by simp);exact ⟨hn _ (h.mem hp),fun c hc=>AC.mono hn (fun _ h=>h) (h.ac hp c hc),ih fun q hq=>hM q (List.mem_cons_of_mem _ hq)⟩
 exact key L fun _ h=>h
theorem A4.res (h:A4 ks L):∀ p∈L,∀ c∈p.2,AC (InB L) AR c:=fun _ hp c hc=>AC.mono (fun _ hi=>h.isIn.2 hi) (fun _ h=>h) (h.ac hp c hc)
theorem AI.keep {st:St} (hs:∀ i,E.stab i↔i∈ks) (h:A4 ks L) (hH:∀ i∈ks,st.H i=Go.Psl.lk L i) {n:Nat} (hn:∀ i∈ks,i<n) (l:List (Nat × V)) (h1:CL (rid ks) st.fr l) (h4:Bw n l):AI P E st ⟨AO l,Go.Psl.lk L,n⟩:=
 AI.mkM hs (rid ks) l L n h1 (h.hp hH) h.inj h4 (h.ids hn) (h.stabW hH hn)
theorem Hn {H:Hp} {b:Nat} (hL:A4 ks L) (hL1:A4 ks L1):BI H b (Go.Psl.lk L) ks (Go.Psl.lk L1)=fun i=>if i∈ks then Go.Psl.lk L1 i else H i:=by
 funext i
 unfold BI;by_cases hi:i∈ks
 . simp only [hi,if_true]
   have h1:=hL1.isIn.2 hi;obtain ⟨x,hx⟩:=Option.isSome_iff_exists.1 h1;rw [hx];have hm:=hL1.cells (i,x) (B4 hx);simp only [Option.map_some];rw [Et fun c hc=>(bB (hm.2.2 c hc)).2 b]
 . simp only [hi,if_false]
   have h2:(Go.Psl.lk L i).isSome=false:=by
     cases hc:(Go.Psl.lk L i).isSome with
     | false=>rfl
     | true=>exact absurd (hL.isIn.1 hc) hi
   rw [h2];simp only [Bool.false_eq_true,if_false];split
   . split
     . rfl
     . rename_i hn
       have h3:Go.Psl.lk L1 (i-b)=none:=by
         cases hc:Go.Psl.lk L1 (i-b) with
         | none=>rfl
         | some x=>exact absurd (hL1.isIn.1 (by rw [hc];rfl)) hn
       rw [h3]
   . rfl
theorem Hq {H:Hp} {av args:List V} {res:Res} (hL:A4 ks L) (hL1:A4 ks L1) (hH:∀ i∈ks,H i=Go.Psl.lk L i) (hb:AJ (Bor noH) av args):IB H av args (Go.Psl.lk L) ks res (Go.Psl.lk L1):=
 ⟨fun i cs h=>by rw [hH i (hL.isIn.1 (by rw [h];rfl)),h],fun i h hn=>absurd (hL1.isIn.1 h) hn,fun i hi=>by
   obtain ⟨x,hx⟩:=Option.isSome_iff_exists.1 (hL.isIn.2 hi);exact ⟨x,hx,(hL.cells (i,x) (B4 hx)).1⟩,Or.inl hb⟩
theorem Fp.keep {H:Hp} {b k:Nat} {av:List V} {Kc Kx:V->Hp->Prop} (args:List V) (L L1:List (Nat × List V)) (ks:List Nat) (r:D) (hf:Ym P k args (Go.Psl.lk L) ks (.ret (.d r)) (Go.Psl.lk L1)) (hL:A4 ks L) (hL1:A4 ks L1)
   (hrec:∃ fr nt ps pa pb jmp,Go.Psl.lk L k=some [.lr fr nt ps pa pb jmp]/\ps.length=args.length) (hH:∀ i∈ks,H i=Go.Psl.lk L i) (hb:AJ (Bor noH) av args) (hk:Kc (.d r) (fun i=>if i∈ks then Go.Psl.lk L1 i else H i)):Fp P none H H b k av Kc Kx:=
 ⟨rfl,args,Go.Psl.lk L,ks, .ret (.d r),Go.Psl.lk L1,_,⟨hf,hrec,Hq hL hL1 hH hb⟩,(Hn hL hL1).symm,hk⟩
theorem AU.keep {H:Hp} {b:Nat} {g:FuncId} {av:List V} {Kc Kx:V->Hp->Prop} (args:List V) (L L1:List (Nat × List V)) (ks:List Nat) (r:V) (hf:Cm P g args (Go.Psl.lk L) ks (.ret r) (Go.Psl.lk L1)) (hL:A4 ks L) (hL1:A4 ks L1) (hr:AV (·∈ks) AR r)
   (hH:∀ i∈ks,H i=Go.Psl.lk L i) (hb:AJ (Bor noH) av args) (hk:Kc r (fun i=>if i∈ks then Go.Psl.lk L1 i else H i)):AU P none H H b g av Kc Kx:=
 ⟨args,Go.Psl.lk L,ks, .ret r,Go.Psl.lk L1,_,⟨hf,Hq hL hL1 hH hb⟩,trivial,(Hn hL hL1).symm,by show Kc (ren (sg ks b) r) _;rw [R9 hr];exact hk⟩
theorem Dc.keep {fn:Func} {st:St} (hn:fn.results= #[]) (h:A4 ks L) (hH:∀ i∈ks,st.H i=Go.Psl.lk L i):Dc Γ fn ks (.tup []) L st:=
 ⟨[],rid ks,by rw [hn];rfl,rfl,by simp,h.hp hH,h.inj,h.stab hH⟩
theorem E3.keep {fo:Operand} {ps:List Nat} {pa pb:PC} {Q:Av->St->Prop} {f:Nat->V} {H:Hp} {n:Nat} {g:FuncId} {caps:List V} (L L1:List (Nat × List V)) (ks:List Nat) (r:V) (jmp:LSt) (h0:E.rq) (hg:Be (evF f fo)=some (g,caps))
   (hf:Cm P g (.yl n::caps) (Go.Psl.lk ((n,[.lr f E.nt ps pa pb .ready])::L)) (n::ks) (.ret r) (Go.Psl.lk ((n,[.lr f E.nt ps pa pb jmp])::L1)))
   (hL:A4 (n::ks) ((n,[.lr f E.nt ps pa pb .ready])::L)) (hL1:A4 (n::ks) ((n,[.lr f E.nt ps pa pb jmp])::L1)) (hH:∀ i∈ks,H i=Go.Psl.lk L i) (hb:AJ (Bor noH) caps caps)
   (hq:Sm Q ⟨f,fun i=>if i=n then none else if i∈ks then Go.Psl.lk L1 i else H i,n+2097152⟩ jmp):PW P Γ eqs E (.rangeF fo ps pa pb) Q ⟨f,H,n⟩:=by
 have hH':∀ i∈n::ks,upd H n (some [.lr f E.nt ps pa pb .ready]) i=Go.Psl.lk ((n,[.lr f E.nt ps pa pb .ready])::L) i:=fun i hi=>by
   simp only [AY,Go.Psl.lk];by_cases e:i=n
   . simp [e]
   . simp only [e,if_false]
     rcases List.mem_cons.1 hi with h | h
     . exact absurd h e
     . exact hH i h
 refine ⟨h0,g,caps, .yl n::caps,_,n::ks, .ret r,_,hg,⟨hf,Hq hL hL1 hH' ⟨rfl,hb⟩⟩,by simp,jmp,by simp [Go.Psl.lk],?_⟩
 have e:upd (BI (upd H n (some [.lr f E.nt ps pa pb .ready])) (n+1048576) (Go.Psl.lk ((n,[.lr f E.nt ps pa pb .ready])::L)) (n::ks) (Go.Psl.lk ((n,[.lr f E.nt ps pa pb jmp])::L1))) n none=fun i=>if i=n then none else if i∈ks then Go.Psl.lk L1 i else H i:=by
   rw [Hn hL hL1]
   funext i
   simp only [AY];by_cases h:i=n
   . simp [h]
   . simp [h,Go.Psl.lk]
 show Sm Q ⟨f,upd (BI _ _ _ _ _) n none,n+2097152⟩ jmp
 rw [e];exact hq
theorem Hu.keep {k:Nat} {rc:LSt->V} {s:LSt} {st:St} (h:A4 ks L) (hb:st.H k=some [rc .busy]) (hH:∀ i∈ks,upd st.H k (some [rc s]) i=Go.Psl.lk L i):Hu k rc s ks L st:=
 ⟨hb,rid ks,h.hp hH,h.inj,h.stab hH⟩
end
structure Rnd (P:Program) (Γ:Tys) (eqs:Eqs) (k:Nat) (fr:Nat->V) (nt:Nat) (ps:List Nat) (pa pb:PC) (args:List V) (Hin:Hp) (ks:List Nat) (s:LSt) (H1:List (Nat × List V)) (N:Nat):Prop where
 run:∀ E:Ent,E.nt=nt->(∀ i,E.stab i↔i∈ks)->PW P Γ eqs E pa (DP (fun st=>st.H k=some [.lr fr nt ps pa pb .ready]/\PW P Γ eqs E pb (rH k (.lr fr nt ps pa pb) s ks H1) ⟨st.fr,upd st.H k (some [.lr fr nt ps pa pb .busy]),st.nx⟩) (fun _ _=>False)) ⟨BD fr ps args,Hin,N⟩
theorem Ym.ofR (hΓ:GOk P Γ) (hE:EB P eqs) (hm:P.follows .mixedOrders=true) {k:Nat} {fr:Nat->V} {nt:Nat} {ps:List Nat} {pa pb:PC} {args:List V} {ks:List Nat} {s:LSt} {L L1:List (Nat × List V)} (N:Nat)
   (hL:A4 ks L) (hL1:A4 ks L1) (hlt:∀ i∈ks,i<N) (hk:lk L k=some [.lr fr nt ps pa pb .ready]) (hlen:ps.length=args.length) (hps:∀ p∈ps,p<nt) (hcl:∀ v∈args,A2 (· < N) AR v)
   (h:Rnd P Γ eqs k fr nt ps pa pb args (lk L) ks s L1 N):Ym P k args (lk L) ks (.ret (.d (.lit (.bool (FP s))))) (lk L1):=
 Ym.of hΓ hE hm N hk (hL.isIn.1 (by rw [hk];rfl)) hlen hps hcl (A7.at (hL.ids hlt)) hlt hL1.res h.run
end Go.Psl
namespace Go.Proofs.Tryz
open Go.Psl
open Go.Geo (Ao cyc InR box)
theorem qE (r:List (Int × Int)):Ct prog 193 [.d (An r)] (.cl 258 [.lp 0 0]) [(0,[.d (An r)])]:=by
 refine CB func193 c193 fun E hE=>?_
 simp [p193];refine AB.by (lk [(0,0)]) ?_;simp [results193]
theorem MK (r:List (Int × Int)) (hl:r.length<=1000000) (KS:List Nat) (k a m:Nat) (go:Nat->Bool) (L:Nat->List (Nat × List V)) (hk:k∈KS) (ha:a∈KS) (hN:∀ i∈KS,i<1000000000) (hm:m<=r.length) (hL:∀ i,i<=m->A4 KS (L i))
   (hrec:∀ i,i<m->∃ fr nt ps pa pb jmp,lk (L i) k=some [.lr fr nt ps pa pb jmp]/\ps.length=2) (hbox:∀ i,i<=m->lk (L i) a=some [.d (An r)]) (hgo:∀ j,j+1<m->go j=true) (hend:m=r.length\/(0<m/\go (m-1)=false))
   (hY:∀ i x y,i<m->(cyc r)[i]?= some (x,y)->Ym prog k [vsp x.1 x.2,vsp y.1 y.2] (lk (L i)) KS (.ret (vb (go i))) (lk (L (i+1)))):
   Cm prog 258 [.yl k, .lp a 0] (lk (L 0)) KS (.ret (.tup [])) (lk (L m)):=by
 refine Cm.by gok eok mixed 1000000000 func258 c258 rfl (by simp [ntmps258]) (by simp;exact ⟨hN k hk,hN a ha⟩) (A7.at ((hL 0 (by omega)).ids hN)) hN ⟨by simp,(hL m (Nat.le_refl _)).res⟩ fun E hs hE=>?_
 have haN:=hN a ha;have na:∀ x,1000000000<=x->¬ a=x:=fun x _=>by omega
 have la:∀ x,1000000000<=x->a<x:=fun x _=>by omega
 have b0:=hbox 0 (by omega);simp [p258,b0];refine Al (α:=Nat) (fun i=>⟨AO [(0, .yl k),(1, .lp a 0),(5, .d (An r)),(6,vi r.length),(7,vi i)],lk (L i),1000000000⟩) (fun i=>i<=m/\(i=m->m=r.length)) (fun i=>m-i) 0 ?_ ?_ ?_
 . omega
 . refine AI.keep hs (hL 0 (by omega)) (fun i _=>by simp) hN _ ?_ ?_
   . simp [Cr hk,Cr ha]
   . simp [hN k hk,hN a ha]
 . rintro i ⟨hi,him⟩
   simp [bW];refine Bh (fun h=>?_) (fun h=>?_)
   . simp at h
     have him2:i<m:=by omega
     have bi:=hbox i hi;obtain ⟨x,hx⟩:=gE h;obtain ⟨n,hn⟩:∃ n,r.length=n:=⟨_,rfl⟩
     rw [hn] at h hl hm him hend;obtain ⟨j,hj⟩:∃ j,j=(i+1)%n:=⟨_,rfl⟩
     have hjn:j<n:=by rw [hj];exact Nat.mod_lt _ (by omega)
     obtain ⟨y,hy⟩:∃ y,r[j]?= some y:=⟨r[j],by simp [show j<r.length by omega]⟩
     have hcy:=Go.Geo.cyc_at hx (by rw [hn];exact hj) hy;have hY':=hY i x y him2 hcy;obtain ⟨fr,nt,ps,pa,pb,jmp,hr1,hr2⟩:=hrec i him2;obtain ⟨i1,hi1⟩:∃ i1,i1=i+1:=⟨_,rfl⟩
     have hz:IntKind.wrap .i64 ((i:Int)+1)=(i1:Int):=by rw [AD (by omega) (by omega)];omega
     rw [<-hi1] at hj hY';have q1:(0:Int)<=(i1:Int).tmod (n:Int):=Int.natCast_nonneg (i1%n);have q2:((i1:Int).tmod (n:Int)).toNat=j:=by rw [hj];rfl
     have hnz:¬ (n:Int)=0:=by omega
     have hnz':¬ n=0:=by omega
     simp [hx,hz,hn,inC,Nat.testBit,AA,bi,na,la,hnz',q1,q2,hy];have hne:∀ q∈KS,¬ q=1004194304:=fun q hq e=>by have:=hN q hq;omega
     refine Fp.keep [vsp x.1 x.2,vsp y.1 y.2] (L i) (L i1) KS _ hY' (hL i hi) (hL i1 (by omega)) ⟨fr,nt,ps,pa,pb,jmp,hr1,hr2⟩ (fun q hq=>by simp [hne q hq]) (by simp) ?_;cases hgi:go i
     . have e:i1=m:=by
         by_cases hlt:i+1<m
         . rw [hgo i hlt] at hgi;cases hgi
         . omega
       simp;refine Dc.keep rfl (hL m (Nat.le_refl _)) fun q hq=>by simp [hq,e]
     . simp [hz]
       refine ⟨i1,⟨by omega,fun e=>?_⟩,by omega,?_⟩
       . rcases hend with h1 | ⟨_,h1⟩
         . exact h1
         . rw [show m-1=i by omega,hgi] at h1;cases h1
       . refine AI.keep hs (hL i1 (by omega)) (fun q hq=>by simp [hq]) hN _ ?_ ?_
         . simp [Cr hk,Cr ha]
         . simp [hN k hk,hN a ha]
   . simp at h
     have e:i=m:=by omega
     subst e;simp;exact Dc.keep rfl (hL i (Nat.le_refl _)) fun i _=>by simp
def onS (u v:Int × Int):Bool:=decide (0<=v.1*u.1)&&(decide (0<=v.2*u.2)&&(decide (v.1*v.1<=u.1*u.1)&&decide (v.2*v.2<=u.2*u.2)))
def Ee (sm:Bool) (p:Int × Int) (e:(Int × Int) × (Int × Int)):Bool:=decide (Ao e.1 e.2 p<0)||(decide (Ao e.1 e.2 p=0)&&(sm&&!onS (DU e.1 e.2) (DU e.1 p)))
def EC (sm:Bool) (p:Int × Int) (e:(Int × Int) × (Int × Int)):Option Bool:=if e.1.1=p.1/\e.1.2=p.2 then some true else if Ee sm p e then some false else none
def smS (r:List (Int × Int)):Bool:=decide ((r.length:Int)<3)
def Ll (r:List (Int × Int)) (p:Int × Int):Bool:=((cyc r).findSome? (EC (smS r) p)).getD (decide ((1:Int)<r.length))
def hKS:List Nat:=[5242880,4194304,0,1048576,2097152]
def hL (r:List (Int × Int)) (p:Int × Int) (f:Nat->V) (s:LSt) (v:Bool):List (Nat × List V):=[(5242880,[.lr f 83 [12,13] Ba Bb s]),(4194304,[.d (An r)]),(0,[.d (An r)]),(1048576,[vi p.1,vi p.2]),(2097152,[vb v])]
def hAft (r:List (Int × Int)) (p:Int × Int) (f:Nat->V) (o:Option Bool):List (Nat × List V):=match o with | none=>hL r p f .ready false | some v=>hL r p f (.done .ret) v
theorem jG (r:List (Int × Int)) (p:Int × Int) (f:Nat->V) (s:LSt) (v:Bool) (hf:∀ t,AV (·∈hKS) AR (f t)):A4 hKS (hL r p f s v):=by
 refine ⟨rfl,by decide,?_⟩;intro q hq;simp only [hL,List.mem_cons,List.not_mem_nil,or_false] at hq;have hw:WC (rid hKS) (.lr f 83 [12,13] Ba Bb s) (.lr f 83 [12,13] Ba Bb s):=⟨rfl,fun t=>AV.mono (fun i hi=>Cr hi) (fun _ h=>h) (hf t)⟩
 rcases hq with rfl | rfl | rfl | rfl | rfl
 . exact ⟨by simp,Or.inr (.inl ⟨_,_,_,_,_,_,rfl⟩),fun c hc=>by simp at hc;subst hc;exact hw⟩
 all_goals exact ⟨by simp,Or.inl rfl,fun c hc=>by simp at hc;first | (subst hc;exact rfl) | (rcases hc with rfl | rfl<;>exact rfl)⟩
theorem Vm (r:List (Int × Int)) (p:Int × Int) (f:Nat->V) (hf:∀ t,AV (·∈hKS) AR (f t)) (f2:f 2= .lp 0 0) (f3:f 3= .lp 1048576 0) (f4:f 4= .lp 2097152 0) (_:r.length<=1000000) (hp:bd 268435456 p) (a b:Int × Int) (ba:bd 268435456 a) (bb:bd 268435456 b):
   Ym prog 5242880 [vsp a.1 a.2,vsp b.1 b.2] (lk (hL r p f .ready false)) hKS (.ret (vb (EC (smS r) p (a,b)).isNone)) (lk (hAft r p f (EC (smS r) p (a,b)))):=by
 have hK:=fun s v=>jG r p f s v hf
 have hlt:∀ i∈hKS,i<10000000:=by simp [hKS]
 have key:∀ (s:LSt) (v:Bool),Rnd prog tys eqs 5242880 f 83 [12,13] Ba Bb [vsp a.1 a.2,vsp b.1 b.2] (lk (hL r p f .ready false)) hKS s (hL r p f s v) 10000000->Ym prog 5242880 [vsp a.1 a.2,vsp b.1 b.2] (lk (hL r p f .ready false)) hKS (.ret (.d (.lit (.bool (FP s))))) (lk (hL r p f s v)):=fun s v h=>
   Ym.ofR gok eok mixed 10000000 (hK .ready false) (hK s v) hlt (by simp [hL]) (by simp) (by simp) (by simp) h
 by_cases h1:a.1=p.1/\a.2=p.2
 . have e:EC (smS r) p (a,b)=some true:=by unfold EC;rw [if_pos h1]
   rw [e];refine key (.done .ret) true ⟨fun E hE hs=>?_⟩;have hKK:=hK (.done .ret) true;simp only [hL] at hKK ⊢
   generalize V.lr f 83 [12,13] Ba Bb=rc at hKK ⊢
   simp [Ba,BD,AA];simp [Bb,h1,f3,f4,AA];refine ⟨trivial,Hu.keep hKK ?_ ?_⟩
   . simp
   . simp [hKS]
 . have c1:=TW a b (GM ba (by omega)) (GM bb (by omega))
   have c2:=TW a p (GM ba (by omega)) (GM hp (by omega));have bu:bd 536870912 (DU a b):=NL ba bb rfl;have bv:bd 536870912 (DU a p):=NL ba hp rfl;have c3:=ix (DU a b) (DU a p) (GM bu (by omega)) (GM bv (by omega));have ht:TX (DU a b) (DU a p)=Ao a b p:=rfl;rw [ht] at c3;have e0:EC (smS r) p (a,b)=if Ee (smS r) p (a,b) then some false else none:=by unfold EC;rw [if_neg h1]
   obtain ⟨u,hu⟩:∃ u,DU a b=u:=⟨_,rfl⟩
   obtain ⟨v,hv⟩:∃ v,DU a p=v:=⟨_,rfl⟩
   have eb:Ee (smS r) p (a,b)=(decide (Ao a b p<0)||(decide (Ao a b p=0)&&(smS r&&!onS u v))):=by unfold Ee;rw [hu,hv]
   rw [hu] at c1 c3 bu;rw [hv] at c2 c3 bv;obtain ⟨t,ht⟩:∃ t,Ao a b p=t:=⟨_,rfl⟩
   rw [ht] at c3 eb;have ne:¬ (a.1=p.1/\a.2=p.2):=h1;have nb:(decide (a.1=p.1)&&decide (a.2=p.2))=false:=by rw [<-Bool.not_eq_true,Bool.and_eq_true,decide_eq_true_eq,decide_eq_true_eq];exact h1
   by_cases t1:t<0
   . have e:EC (smS r) p (a,b)=some false:=by rw [e0,eb,decide_eq_true t1];rfl
     rw [e];refine key (.done .ret) false ⟨fun E hE hs=>?_⟩;have hKK:=hK (.done .ret) false;simp only [hL] at hKK ⊢
     generalize V.lr f 83 [12,13] Ba Bb=rc at hKK ⊢
     simp [Ba,BD,AA];simp [Bb,nb,f3,inC,Nat.testBit];refine CLa c1 ?_;simp [f3,inC,Nat.testBit];refine CLa c2 ?_;simp [AA];refine CLa c3 ?_;simp [t1,f4,AA];refine ⟨trivial,Hu.keep hKK (by simp) (by simp [hKS])⟩
   by_cases t0:t=0
   case neg=>
     have e:EC (smS r) p (a,b)=none:=by rw [e0,eb,decide_eq_false t1,decide_eq_false t0];rfl
     rw [e];refine key .ready false ⟨fun E hE hs=>?_⟩;have hKK:=hK .ready false;simp only [hL] at hKK ⊢
     generalize V.lr f 83 [12,13] Ba Bb=rc at hKK ⊢
     simp [Ba,BD,AA];simp [Bb,nb,f3,inC,Nat.testBit];refine CLa c1 ?_;simp [f3,inC,Nat.testBit];refine CLa c2 ?_;simp [AA];refine CLa c3 ?_;simp [t1,t0];refine ⟨trivial,Hu.keep hKK (by simp) (by simp [hKS])⟩
   subst t0;by_cases sm:(r.length:Int)<3
   case neg=>
     have e:EC (smS r) p (a,b)=none:=by rw [e0,eb];unfold smS;rw [decide_eq_false sm];rfl
     rw [e];refine key .ready false ⟨fun E hE hs=>?_⟩;have hKK:=hK .ready false;simp only [hL] at hKK ⊢
     generalize V.lr f 83 [12,13] Ba Bb=rc at hKK ⊢
     simp [Ba,BD,AA];simp [Bb,nb,f3,inC,Nat.testBit];refine CLa c1 ?_;simp [f3,inC,Nat.testBit];refine CLa c2 ?_;simp [AA];refine CLa c3 ?_;simp [sm,f2];refine ⟨trivial,Hu.keep hKK (by simp) (by simp [hKS])⟩
   have eb2:Ee (smS r) p (a,b)=!onS u v:=by rw [eb];unfold smS;rw [decide_eq_true sm];simp
   rw [eb2] at e0
   have mb:∀ x y:Int,(-536870912<=x/\x<=536870912)->(-536870912<=y/\y<=536870912)->IntKind.wrap .i64 (x*y)=x*y:=fun x y hx hy=>by
     have:=NK hx hy;exact AD (by omega) (by omega)
   have w1:=mb v.1 u.1 bv.1 bu.1;have w2:=mb v.2 u.2 bv.2 bu.2;have w3:=mb v.1 v.1 bv.1 bv.1;have w4:=mb u.1 u.1 bu.1 bu.1;have w5:=mb v.2 v.2 bv.2 bv.2;have w6:=mb u.2 u.2 bu.2 bu.2;by_cases g1:0<=v.1*u.1
   case neg=>
     have e:EC (smS r) p (a,b)=some false:=by rw [e0];unfold onS;rw [decide_eq_false g1];rfl
     rw [e];refine key (.done .ret) false ⟨fun E hE hs=>?_⟩;have hKK:=hK (.done .ret) false;simp only [hL] at hKK ⊢
     generalize V.lr f 83 [12,13] Ba Bb=rc at hKK ⊢
     simp [Ba,BD,AA];simp [Bb,nb,f3,inC,Nat.testBit];refine CLa c1 ?_;simp [f3,inC,Nat.testBit];refine CLa c2 ?_;simp [AA];refine CLa c3 ?_;simp [sm,f2,f4,w1,g1,AA];refine ⟨trivial,Hu.keep hKK (by simp) (by simp [hKS])⟩
   by_cases g2:0<=v.2*u.2
   case neg=>
     have e:EC (smS r) p (a,b)=some false:=by rw [e0];unfold onS;rw [decide_eq_true g1,decide_eq_false g2];rfl
     rw [e];refine key (.done .ret) false ⟨fun E hE hs=>?_⟩;have hKK:=hK (.done .ret) false;simp only [hL] at hKK ⊢
     generalize V.lr f 83 [12,13] Ba Bb=rc at hKK ⊢
     simp [Ba,BD,AA];simp [Bb,nb,f3,inC,Nat.testBit];refine CLa c1 ?_;simp [f3,inC,Nat.testBit];refine CLa c2 ?_;simp [AA];refine CLa c3 ?_;simp [sm,f2,f4,w1,w2,g1,g2,AA];refine ⟨trivial,Hu.keep hKK (by simp) (by simp [hKS])⟩
   by_cases g3:v.1*v.1<=u.1*u.1
   case neg=>
     have e:EC (smS r) p (a,b)=some false:=by rw [e0];unfold onS;rw [decide_eq_true g1,decide_eq_true g2,decide_eq_false g3];rfl
     rw [e];refine key (.done .ret) false ⟨fun E hE hs=>?_⟩;have hKK:=hK (.done .ret) false;simp only [hL] at hKK ⊢
     generalize V.lr f 83 [12,13] Ba Bb=rc at hKK ⊢
     simp [Ba,BD,AA];simp [Bb,nb,f3,inC,Nat.testBit];refine CLa c1 ?_;simp [f3,inC,Nat.testBit];refine CLa c2 ?_;simp [AA];refine CLa c3 ?_;simp [sm,f2,f4,w1,w2,w3,w4,g1,g2,g3,AA];refine ⟨trivial,Hu.keep hKK (by simp) (by simp [hKS])⟩
   by_cases g4:v.2*v.2<=u.2*u.2
   case neg=>
     have e:EC (smS r) p (a,b)=some false:=by rw [e0];unfold onS;rw [decide_eq_true g1,decide_eq_true g2,decide_eq_true g3,decide_eq_false g4];rfl
     rw [e];refine key (.done .ret) false ⟨fun E hE hs=>?_⟩;have hKK:=hK (.done .ret) false;simp only [hL] at hKK ⊢
     generalize V.lr f 83 [12,13] Ba Bb=rc at hKK ⊢
     simp [Ba,BD,AA];simp [Bb,nb,f3,inC,Nat.testBit];refine CLa c1 ?_;simp [f3,inC,Nat.testBit];refine CLa c2 ?_;simp [AA];refine CLa c3 ?_;simp [sm,f2,f4,w1,w2,w3,w4,w5,w6,g1,g2,g3,g4,AA];refine ⟨trivial,Hu.keep hKK (by simp) (by simp [hKS])⟩
   have e:EC (smS r) p (a,b)=none:=by rw [e0];unfold onS;rw [decide_eq_true g1,decide_eq_true g2,decide_eq_true g3,decide_eq_true g4];rfl
   rw [e];refine key .ready false ⟨fun E hE hs=>?_⟩;have hKK:=hK .ready false;simp only [hL] at hKK ⊢
   generalize V.lr f 83 [12,13] Ba Bb=rc at hKK ⊢
   simp [Ba,BD,AA];simp [Bb,nb,f3,inC,Nat.testBit];refine CLa c1 ?_;simp [f3,inC,Nat.testBit];refine CLa c2 ?_;simp [AA];refine CLa c3 ?_;simp [sm,f2,w1,w2,w3,w4,w5,w6,g1,g2,g3,g4];refine ⟨trivial,Hu.keep hKK (by simp) (by simp [hKS])⟩
theorem Pj {α β:Type} {f:α->Option β} {l:List α} {v:β} (h:l.findSome? f=some v):∃ (j:Nat) (e:α),l[j]?= some e/\f e=some v/\∀ (i:Nat) (e':α),i<j->l[i]?= some e'->f e'=none:=by
 obtain ⟨l1,a,l2,rfl,h1,h2⟩:=List.findSome?_eq_some_iff.1 h;refine ⟨l1.length,a,by simp,h1,fun i e' hi he=>?_⟩;rw [List.getElem?_append_left hi] at he;exact h2 e' (List.mem_of_getElem? he)
theorem qr (r:List (Int × Int)) (p:Int × Int) (hl:r.length<=1000000) (hr:∀ q∈r,bd 268435456 q) (hp:bd 268435456 p):Ct prog 126 [.d (An r),vsp p.1 p.2] (vb (Ll r p)) []:=by
 refine Ct.byR gok eok mixed func126 c126 rfl (by simp [ntmps126]) (by simp) (by simp [LD]) fun E hE hE2=>?_
 simp [p126];refine CLa (qE r) ?_;simp;have hnt:E.nt=83:=by rw [hE2.1];exact ntmps126
 rw [<-JI (Γ:=tys) (eqs:=eqs)];obtain ⟨f,hf⟩:∃ f,f=upd (upd (upd (upd (upd (Dn 0 [V.d (An r),vsp p.1 p.2]) 2 (V.lp 0 0)) 3 (V.lp 1048576 0)) 4 (V.lp 2097152 0)) 10 (V.d (An r))) 11 (V.cl 258 [V.lp 4194304 0]):=⟨_,rfl⟩
 have hfA:∀ t,AV (·∈hKS) AR (f t):=fun t=>by
   rw [hf];simp only [AY];split
   . intro c hc;simp at hc;subst hc;exact (by simp [hKS]:(4194304:Nat)∈hKS)
   . split
     . exact trivial
     . split
       . exact (by simp [hKS]:(2097152:Nat)∈hKS)
       . split
         . exact (by simp [hKS]:(1048576:Nat)∈hKS)
         . split
           . exact (by simp [hKS]:(0:Nat)∈hKS)
           . simp only [Dn]
             split
             . exact trivial
             . split
               . intro c hc;simp at hc;rcases hc with rfl | rfl<;>exact trivial
               . exact fun c hc=>by simp at hc
 have f2:f 2= .lp 0 0:=by rw [hf];simp
 have f3:f 3= .lp 1048576 0:=by rw [hf];simp
 have f4:f 4= .lp 2097152 0:=by rw [hf];simp
 have f11:f 11= .cl 258 [.lp 4194304 0]:=by rw [hf];simp
 rw [<-hf];have hN:∀ i∈hKS,i<1000000000:=by simp [hKS]
 have hK:=fun s v=>jG r p f s v hfA
 have hcl:=Go.Geo.cyc_len r;have round:∀ x y,(x,y)∈cyc r->_:=fun x y hxy=>Vm r p f hfA f2 f3 f4 hl hp x y (hr x (Go.Geo.cyc_mem hxy).1) (hr y (Go.Geo.cyc_mem hxy).2)
 have rec0:∀ s v,∃ fr nt ps pa pb jmp,lk (hL r p f s v) 5242880=some [.lr fr nt ps pa pb jmp]/\ps.length=2:=fun s v=>⟨f,83,[12,13],Ba,Bb,s,by simp [hL],rfl⟩
 have box0:∀ s v,lk (hL r p f s v) 4194304=some [.d (An r)]:=fun s v=>by simp [hL]
 cases hfs:(cyc r).findSome? (EC (smS r) p) with
 | none=>
   have e:Ll r p=decide ((1:Int)<r.length):=by unfold Ll;rw [hfs];rfl
   have c:=MK r hl hKS 5242880 4194304 r.length (fun _=>true) (fun _=>hL r p f .ready false) (by simp [hKS]) (by simp [hKS]) hN (Nat.le_refl _) (fun _ _=>hK .ready false) (fun _ _=>rec0 _ _) (fun _ _=>box0 _ _) (fun _ _=>rfl) (Or.inl rfl) (fun i x y hi hcy=>by
     have h1:=round x y (List.mem_of_getElem? hcy);have h2:EC (smS r) p (x,y)=none:=List.findSome?_eq_none_iff.1 hfs _ (List.mem_of_getElem? hcy);rw [h2] at h1;exact h1)
   refine E3.keep (hL r p f .ready false).tail (hL r p f .ready false).tail [4194304,0,1048576,2097152] (.tup []) .ready hE2.2 (g:=258) (caps:=[.lp 4194304 0]) (by simp [f11]) (by rw [hnt];exact c) (by rw [hnt];exact hK .ready false) (by rw [hnt];exact hK .ready false) (by simp [hL]) (by simp) ?_
   show Ft 0 _ .normal _
   simp [hL,f2,f4];apply RZ;simp [results126,f4,e,AA]
 | some v=>
   have e:Ll r p=v:=by unfold Ll;rw [hfs];rfl
   obtain ⟨j,e0,h1,h2,h3⟩:=Pj hfs;have hj:=(List.getElem?_eq_some_iff.1 h1).1;rw [hcl] at hj
   have c:=MK r hl hKS 5242880 4194304 (j+1) (fun i=>decide (i≠j)) (fun i=>if i<=j then hL r p f .ready false else hL r p f (.done .ret) v) (by simp [hKS]) (by simp [hKS]) hN (by omega)
     (fun i _=>by show A4 hKS (if i<=j then hL r p f .ready false else hL r p f (.done .ret) v);split<;>exact hK _ _)
     (fun i _=>by show ∃ fr nt ps pa pb jmp,lk (if i<=j then hL r p f .ready false else hL r p f (.done .ret) v) 5242880=some [.lr fr nt ps pa pb jmp]/\ps.length=2;split<;>exact rec0 _ _)
     (fun i _=>by show lk (if i<=j then hL r p f .ready false else hL r p f (.done .ret) v) 4194304=_;split<;>exact box0 _ _)
     (fun i hi=>decide_eq_true (by omega)) (Or.inr ⟨by omega,decide_eq_false (by omega)⟩) (fun i x y hi hcy=>by
       have r1:=round x y (List.mem_of_getElem? hcy);by_cases hij:i=j
       . subst hij
         rw [h1] at hcy;cases hcy;rw [h2] at r1;simp only [Nat.le_refl,if_true,show ¬ i+1<=i by omega,if_false,ne_eq,not_true_eq_false,decide_false];exact r1
       . have h4:=h3 i (x,y) (by omega) hcy
         rw [h4] at r1;simp only [show i<=j by omega,show i+1<=j by omega,if_true,ne_eq,hij,not_false_eq_true,decide_true];exact r1)
   simp only [Nat.zero_le,if_true,show ¬ j+1<=j by omega,if_false] at c;refine E3.keep (hL r p f .ready false).tail (hL r p f (.done .ret) v).tail [4194304,0,1048576,2097152] (.tup []) (.done .ret) hE2.2 (g:=258) (caps:=[.lp 4194304 0]) (by simp [f11]) (by rw [hnt];exact c) (by rw [hnt];exact hK .ready false) (by rw [hnt];exact hK (.done .ret) v) (by simp [hL]) (by simp) ?_
   show Ft 0 _ .ret _
   simp [hL];apply RZ;simp [results126,f4,e]
open Go.Geo (Ao cyc InR box Bo)
theorem aW {u v:Int}:(0<=v*u/\v*v<=u*u)↔(min 0 u<=v/\v<=max 0 u):=by
 rcases Int.lt_trichotomy u 0 with hu | hu | hu
 . constructor
   . rintro ⟨h1,h2⟩
     have a:v<=0:=by
       apply Int.not_lt.1;intro h
       have:=Int.mul_neg_of_pos_of_neg h hu;omega
     have b:u<=v:=by
       apply Int.not_lt.1;intro h
       have h3:=Int.mul_pos_of_neg_of_neg (show v-u<0 by omega) (show v+u<0 by omega);have e:(v-u)*(v+u)=v*v-u*u:=by grind
       omega
     omega
   . intro ⟨h1,h2⟩
     have a:=Int.mul_nonneg_of_nonpos_of_nonpos (show v<=0 by omega) (show u<=0 by omega);have b:=Int.mul_nonneg (show 0<=v-u by omega) (show 0<= -(v+u) by omega);have e:(v-u)* -(v+u)=u*u-v*v:=by grind
     omega
 . subst hu
   constructor
   . rintro ⟨_,h2⟩
     have:v=0:=by
       rcases Int.lt_trichotomy v 0 with h | h | h
       . have:=Int.mul_pos_of_neg_of_neg h h;omega
       . exact h
       . have:=Int.mul_pos h h;omega
     omega
   . rintro ⟨h1,h2⟩
     have:v=0:=by omega
     subst this;simp
 . constructor
   . rintro ⟨h1,h2⟩
     have a:0<=v:=by
       apply Int.not_lt.1;intro h
       have:=Int.mul_neg_of_neg_of_pos h hu;omega
     have b:v<=u:=by
       apply Int.not_lt.1;intro h
       have h3:=Int.mul_pos (show 0<v-u by omega) (show 0<v+u by omega);have e:(v-u)*(v+u)=v*v-u*u:=by grind
       omega
     omega
   . intro ⟨h1,h2⟩
     have a:=Int.mul_nonneg (show 0<=v by omega) (show 0<=u by omega);have b:=Int.mul_nonneg (show 0<=u-v by omega) (show 0<=u+v by omega);have e:(u-v)*(u+v)=u*u-v*v:=by grind
     omega
theorem J6 {a b p:Int × Int}:onS (DU a b) (DU a p)=true↔box a b p:=by
 unfold onS;simp only [Bool.and_eq_true,decide_eq_true_eq];have h1:=@aW (b.1-a.1) (p.1-a.1);have h2:=@aW (b.2-a.2) (p.2-a.2);unfold box
 show (0<=(p.1-a.1)*(b.1-a.1)/\0<=(p.2-a.2)*(b.2-a.2)/\(p.1-a.1)*(p.1-a.1)<=(b.1-a.1)*(b.1-a.1)/\(p.2-a.2)*(p.2-a.2)<=(b.2-a.2)*(b.2-a.2))↔_
 constructor
 . rintro ⟨q1,q2,q3,q4⟩
   have:=h1.1 ⟨q1,q3⟩;have:=h2.1 ⟨q2,q4⟩;omega
 . intro h
   obtain ⟨q1,q3⟩:=h1.2 (by omega);obtain ⟨q2,q4⟩:=h2.2 (by omega);exact ⟨q1,q2,q3,q4⟩
theorem aX {a b p:Int × Int}:box a b p↔box b a p:=by unfold box;omega
theorem PL {r:List (Int × Int)} (h:C7 r=true):r=Bo (ddC (DK r))/\r≠[]:=by
 unfold C7 at h;simp only [Bool.and_eq_true,decide_eq_true_eq] at h;refine ⟨h.2.symm,fun e=>?_⟩;rw [e] at h;simp at h
theorem aY {l:List (Int × Int)} (hs:Go.Geo.Sorted l) {a b:Int × Int} (h:Bo l=[a,b]):Go.Geo.lt a b:=by
 by_cases h3:l.length<3
 . have e:Bo l=l:=by unfold Bo;rw [if_pos h3]
   rw [h] at e;rw [<-e] at hs;exact (List.pairwise_cons.1 hs).1 b (by simp)
 . by_cases hn:5<=(Go.Geo.chainR l).length+(Go.Geo.chainR l.reverse).length
   . have:=Go.Geo.hull_len h3
     have h2:=Go.Geo.chain_len2 hs (by omega);rw [h] at this;simp at this;omega
   . obtain ⟨f,g,_,_,hfg,e,_⟩:=Go.Geo.hull_two hs h3 hn
     rw [h] at e;cases e;exact hfg
theorem aZ {a p:Int × Int}:InR [a] p↔a=p:=by
 constructor
 . rintro ⟨_,h⟩
   obtain ⟨x,y,h1,h2,hb⟩:∃ x y,[a].head?= some x/\[a].getLast?= some y/\box x y p:=by simpa using h
   simp at h1 h2;subst h1;subst h2;unfold box at hb
   ext<;>omega
 . rintro rfl
   refine ⟨fun e he=>?_,Or.inr ⟨a,a,rfl,rfl,by unfold box;omega⟩⟩;simp [cyc,Go.Geo.steps] at he;subst he;rw [Go.Geo.cross_self];omega
theorem AH2 {a b p:Int × Int}:InR [a,b] p↔Ao a b p=0/\box a b p:=by
 constructor
 . rintro ⟨hc,h⟩
   obtain ⟨x,y,h1,h2,hb⟩:∃ x y,[a,b].head?= some x/\[a,b].getLast?= some y/\box x y p:=by simpa using h
   simp at h1 h2;subst h1;subst h2;have c1:=hc (a,b) (by simp [cyc,Go.Geo.steps]);have c2:=hc (b,a) (by simp [cyc,Go.Geo.steps]);simp only at c1 c2;rw [Go.Geo.cross_swap2] at c2;exact ⟨by omega,hb⟩
 . rintro ⟨hc,hb⟩
   refine ⟨fun e he=>?_,Or.inr ⟨a,b,rfl,rfl,hb⟩⟩;simp [cyc,Go.Geo.steps] at he;rcases he with rfl | rfl
   . simp only;omega
   . simp only;rw [Go.Geo.cross_swap2];omega
theorem ae {r:List (Int × Int)} (h:C7 r=true) (p:Int × Int):Lj r p=true↔InR r p:=by
 obtain ⟨hr,hne⟩:=PL h
 match r,hne,hr with
 | [],hne,_=>exact absurd rfl hne
 | [a],_,_=>rw [aZ];unfold Lj;simp
 | [a,b],_,hr=>
   have hlt:=aY (JN _) hr.symm;rw [AH2];unfold Lj;simp only [Bool.and_eq_true,Bool.or_eq_true,MJ];have e:cyc [a,b]=[(a,b),(b,a)]:=rfl;rw [e];simp only [List.mem_cons,List.not_mem_nil,or_false,forall_eq_or_imp,forall_eq];rw [Go.Geo.cross_swap2 b a p]
   have hw:(ZV p.1 a.1 b.1=true/\ZV p.2 (min a.2 b.2) (max a.2 b.2)=true)↔box a b p:=by
     unfold ZV box Go.Geo.lt at*;simp only [Bool.and_eq_true,decide_eq_true_eq];omega
   rw [hw];simp;omega
 | a::b::c::t,_,_=>
   unfold Lj InR;simp [MJ]
theorem af {r:List (Int × Int)} (h:C7 r=true) (p:Int × Int):Ll r p=true↔InR r p:=by
 obtain ⟨hr,hne⟩:=PL h
 have hcorner:∀ q∈r,InR r q:=fun q hq=>by
   rw [hr] at hq ⊢;exact Go.Geo.hull_in (JN _) q (Go.Geo.hull_sub (JN _) q hq)
 match r,hne,hcorner,hr with
 | [],hne,_,_=>exact absurd rfl hne
 | [a],_,_,_=>
   rw [aZ];have e:cyc [a]=[(a,a)]:=rfl;unfold Ll;rw [e];simp only [List.findSome?_cons,List.findSome?_nil,EC];by_cases h1:a.1=p.1/\a.2=p.2
   . rw [if_pos h1]
     have:a=p:=by ext;exact h1.1;exact h1.2
     simp [this]
   . rw [if_neg h1]
     have hb:Ee (smS [a]) p (a,a)=true:=by
       unfold Ee
       have:onS (DU a a) (DU a p)=false:=by
         rw [<-Bool.not_eq_true,J6];intro hb;unfold box at hb;exact h1 (by omega)
       rw [show Ao (a,a).1 (a,a).2 p=0 from Go.Geo.cross_self3 a p];simp only;rw [this];rfl
     rw [hb];simp;intro e;exact h1 (by rw [e];exact ⟨rfl,rfl⟩)
 | [a,b],_,hcorner,hr=>
   have e:cyc [a,b]=[(a,b),(b,a)]:=rfl;have hsm:smS [a,b]=true:=rfl;unfold Ll;rw [e,hsm];simp only [List.findSome?_cons,List.findSome?_nil,EC];by_cases h1:a.1=p.1/\a.2=p.2
   . rw [if_pos h1]
     have:a=p:=by ext;exact h1.1;exact h1.2
     subst this;simp;exact hcorner a (by simp)
   rw [if_neg h1,AH2];have hsw:=Go.Geo.cross_swap2 b a p;rcases Int.lt_trichotomy (Ao a b p) 0 with hc | hc | hc
   . have hb:Ee true p (a,b)=true:=by unfold Ee;rw [decide_eq_true hc];rfl
     rw [hb];simp;intro h;omega
   . by_cases hbx:box a b p
     . have hb:Ee true p (a,b)=false:=by unfold Ee;rw [J6.2 hbx];simp;omega
       rw [hb];simp only [Bool.false_eq_true,if_false];by_cases h2:b.1=p.1/\b.2=p.2
       . rw [if_pos h2];simp [hc,hbx]
       . rw [if_neg h2]
         have hb2:Ee true p (b,a)=false:=by unfold Ee;rw [J6.2 (aX.1 hbx)];simp;omega
         rw [hb2];simp [hc,hbx]
     . have hb:Ee true p (a,b)=true:=by
         unfold Ee;have:onS (DU a b) (DU a p)=false:=by rw [<-Bool.not_eq_true,J6];exact hbx
         simp only;rw [this,hc];rfl
       rw [hb];simp [hbx]
   . have hb:Ee true p (a,b)=false:=by unfold Ee;simp;omega
     rw [hb];simp only [Bool.false_eq_true,if_false]
     have h2:¬ (b.1=p.1/\b.2=p.2):=fun h2=>by
       have:b=p:=by ext;exact h2.1;exact h2.2
       rw [this,Go.Geo.cross_self2] at hc;omega
     rw [if_neg h2];have hb2:Ee true p (b,a)=true:=by unfold Ee;rw [decide_eq_true (p:=Ao (b,a).1 (b,a).2 p<0) (by simp only;omega)];rfl
     rw [hb2];simp;intro h;omega
 | a::b::c::t,_,hcorner,hr=>
   obtain ⟨R,hR⟩:∃ R,a::b::c::t=R:=⟨_,rfl⟩
   have hl:2<R.length:=by rw [<-hR];simp
   rw [hR] at hcorner ⊢;have hsm:smS R=false:=by unfold smS;rw [decide_eq_false (by omega)]
   have hin:InR R p↔∀ e∈cyc R,0<=Ao e.1 e.2 p:=⟨fun h=>h.1,fun h=>⟨h,Or.inl hl⟩⟩
   unfold Ll;rw [hsm];cases hf:(cyc R).findSome? (EC false p) with
   | none=>
     have:=List.findSome?_eq_none_iff.1 hf;simp only [Option.getD_none,decide_eq_true_eq];refine ⟨fun _=>hin.2 fun e he=>?_,fun _=>by omega⟩;have h1:=this e he;unfold EC at h1;split at h1
     . cases h1
     . split at h1
       . cases h1
       . rename_i h2
         unfold Ee at h2;simp at h2;exact h2
   | some v=>
     obtain ⟨l1,e,l2,h1,h2,_⟩:=List.findSome?_eq_some_iff.1 hf;have he:e∈cyc R:=by rw [h1];simp
     simp only [Option.getD_some];unfold EC at h2;split at h2
     . rename_i h3
       cases h2;have:e.1=p:=by ext;exact h3.1;exact h3.2
       simp only [true_iff];rw [<-this];exact hcorner _ (Go.Geo.cyc_mem he).1
     . split at h2
       . rename_i h4
         cases h2;unfold Ee at h4;simp at h4;simp only [Bool.false_eq_true,false_iff,hin];intro h5;have:=h5 e he;omega
       . cases h2
theorem gf {r:List (Int × Int)} (h:C7 r=true) (p:Int × Int):Ll r p=Lj r p:=by
 rw [Bool.eq_iff_iff,af h,ae h]
def inV (r:List (Int × Int)) (p:Int × Int):Bool:=C7 r&&(okC p&&Lj r p)
def Yj (r:List (Int × Int)):Int:=if C7 r then 0 else 14
theorem Yk (p:Int × Int):EJ [p]=okC p:=by simp [EJ]
theorem kW {H:Hp} {id:Nat} {p:Int × Int} (h:H id=some [vi p.1,vi p.2]):Bor H (.ls id 0 1 2) (.d (An [p])):=z6 [p] h rfl
theorem fE (hS:SortOk) (r:List (Int × Int)) (p:Int × Int) (hr:r.length<=1000000000):Ct prog 59 [.d (An r),vsp p.1 p.2] (.tup [vb (inV r p),vi (Yj r)]) []:=by
 refine CB func59 c59 fun E hE=>?_
 simp [p59];refine CLa (oy hS r hr) ?_;cases h1:C7 r
 . simp
   apply RZ;simp [results59,inV,Yj,h1]
 . have hb:=dM h1
   have hlen:=Ws h1;simp [AA,AM];refine CLb (iu [p] (by simp)) (by simp [kW]) ?_;rw [Yk];cases h2:okC p
   . simp
     apply RZ;simp [results59,inV,Yj,h1,h2]
   . simp
     refine CLa (qr r p (by omega) hb (NH.1 h2)) ?_;rw [gf h1];simp;apply RZ;simp [results59,inV,Yj,h1,h2]
end Go.Proofs.Tryz
namespace Go.Proofs.Tryz
open Go.Psl
open Go.Air
def WB (a b:Int × Int):Prop:=b.1<=a.1/\a.2<=b.2
section
variable {l:List Kn} (ht:Ck l=true)
end
end Go.Proofs.Tryz
namespace Go.Air
end Go.Air
namespace Go.Proofs.Tryz
open Go.Psl
open Go.Air
def Il (r:List (Int × Int)) (s h:Int × Int):Bool:=inV r (s.1,h.1)&&inV r (s.1,h.2)&&inV r (s.2,h.1)&&inV r (s.2,h.2)
end Go.Proofs.Tryz
namespace Go.Proofs.Tryz
open Go.Psl
open Go.Air
structure OkW (w:List Gal):Prop where
 len:1<=w.length/\w.length<=16
 at':∀ x∈w, -500<=x.h/\x.h<=9000
 g:∀ x∈w,0<=x.g/\x.g<=500
 x:∀ x∈w, -1000<=x.xl/\x.xl<=x.xh/\x.xh<=1000
 y:∀ x∈w, -1000<=x.yl/\x.yl<=x.yh/\x.yh<=1000
 step:∀ (i:Nat) (x y:Gal),w[i]?= some x->w[i+1]?= some y->x.h<y.h
theorem L0 {w:List Gal}:Dr w=true->OkW w:=by
 unfold Dr;simp only [Bool.and_eq_true,List.all_eq_true]
 rintro ⟨h1,h2⟩
 have hg:∀ i x,w[i]?= some x->AAU w i=true:=fun i x hx=>h2 i (by simp [(List.getElem?_eq_some_iff.1 hx).1])
 have hb:∀ x∈w,((-500<=x.h/\x.h<=9000)/\0<=x.g/\x.g<=500)/\(-1000<=x.xl/\x.xl<=x.xh/\x.xh<=1000)/\ -1000<=x.yl/\x.yl<=x.yh/\x.yh<=1000:=fun x hx=>by
   obtain ⟨i,hi⟩:=List.getElem?_of_mem hx;have:=hg i x hi;unfold AAU at this;rw [hi] at this;simp only [Bool.and_eq_true,CC] at this;obtain ⟨⟨⟨⟨q1,_⟩,q2⟩,q3⟩,q4⟩:=this;simp [rgB] at q1 q2;omega
 refine ⟨by simp [rgB] at h1;omega,fun x hx=>(hb x hx).1.1,fun x hx=>(hb x hx).1.2,fun x hx=>(hb x hx).2.1,fun x hx=>(hb x hx).2.2,fun i x y hx hy=>?_⟩;have:=hg (i+1) y hy;unfold AAU at this;rw [hy] at this;simp [hx] at this;omega
def Dd (pk:Gal->Int × Int) (w:List Gal):List Kn:=w.map fun x=>(x.h,pk x)
def HG (x:Gal):Int × Int:=(x.xl,x.xh)
def EY (x:Gal):Int × Int:=(x.yl,x.yh)
theorem EG {pk:Gal->Int × Int} {w:List Gal} {i:Nat}:(Dd pk w)[i]?= (w[i]?).map fun x=>(x.h,pk x):=by unfold Dd;rw [List.getElem?_map]
theorem IH {pk:Gal->Int × Int} {w:List Gal}:(Dd pk w).length=w.length:=by unfold Dd;simp
def EA (w:List Gal) (z:Int):Int:=match w[0]?,w[w.length-1]? with
 | some a,some b=>min (max z a.h) b.h
 | _,_=>z
def Fg (pk:Gal->Int × Int) (w:List Gal) (h:Int × Int):Int × Int:=match w with
 | []=>(0,0)
 | [x]=>pk x
 | _=>(Jy (Dd pk w) (EA w h.1,EA w h.2)).1
def Qq (w:List Gal) (lo:Int):Nat:=(w.takeWhile fun x=>decide (x.h<lo)).length
def upN (w:List Gal) (hi:Int):Nat:=(w.takeWhile fun x=>decide (x.h<=hi)).length
def rS (l:List Gal):Int:=l.foldl (fun m x=>max m x.g) 0
def rO (w:List Gal) (h:Int × Int):Int:=rS ((w.take (upN w h.2+1)).drop (Qq w h.1-1))
def Jr (w:List Gal) (h:Int × Int):Int × Int:=((Fg HG w h).1-rO w h,(Fg HG w h).2+rO w h)
def Js (w:List Gal) (h:Int × Int):Int × Int:=((Fg EY w h).1-rO w h,(Fg EY w h).2+rO w h)
def Lg (w:List Gal) (h:Int × Int):Int:=if Dr w then (if okS h then 0 else 10) else 22
theorem Mx:∀ {l:List Gal} {a m:Int},l.foldl (fun m x=>max m x.g) a<=m↔a<=m/\∀ x∈l,x.g<=m
 | [],a,m=>by simp
 | c::l,a,m=>by
   rw [List.foldl_cons,Mx];simp only [List.mem_cons,forall_eq_or_imp];constructor
   . rintro ⟨h1,h2⟩;exact ⟨by omega,by omega,h2⟩
   . rintro ⟨h1,h2,h3⟩;exact ⟨by omega,h3⟩
theorem ex {l:List Gal}:0<=rS l/\∀ x∈l,x.g<=rS l:=Mx.1 (Int.le_refl (rS l))
theorem ey {w:List Gal} {f t:Nat} {x:Gal}:x∈(w.take (t+1)).drop f↔∃ i,(f<=i/\i<=t)/\w[i]?= some x:=by
 constructor
 . intro h
   obtain ⟨i,hi⟩:=List.getElem?_of_mem h;rw [List.getElem?_drop] at hi;have h2:=(List.getElem?_eq_some_iff.1 hi).1;rw [List.length_take] at h2;rw [List.getElem?_take_of_lt (by omega)] at hi;exact ⟨f+i,by omega,hi⟩
 . rintro ⟨i,hi,hx⟩
   refine List.mem_of_getElem? (i:=i-f) ?_;rw [List.getElem?_drop,show f+(i-f)=i by omega,List.getElem?_take_of_lt (by omega)];exact hx
theorem Yb {w:List Gal} (hw:OkW w) (h:Int × Int):0<=rO w h/\rO w h<=500:=by
 refine ⟨ex.1,Mx.2 ⟨by omega,fun x hx=>?_⟩⟩;obtain ⟨i,_,hx⟩:=ey.1 hx;exact (hw.g x (List.mem_of_getElem? hx)).2
def PkB (w:List Gal) (pk:Gal->Int × Int):Prop:=∀ x∈w, -1000<=(pk x).1/\(pk x).1<=(pk x).2/\(pk x).2<=1000
theorem AG4 {w:List Gal} (hw:OkW w) {pk:Gal->Int × Int} (hp:PkB w pk) (h2:2<=w.length):Ck (Dd pk w)=true:=by
 unfold Ck;have hl:=hw.len;simp only [Bool.and_eq_true,decide_eq_true_eq,IH];refine ⟨⟨by omega,by omega⟩,?_⟩;unfold DV;rw [List.all_eq_true];intro i hi;have hi':i<w.length:=by simpa using hi
 obtain ⟨x,hx⟩:=gE hi';have hxm:=List.mem_of_getElem? hx;have b1:=hp x hxm;have b2:=hw.at' x hxm;have kx:(Dd pk w)[i]?= some (x.h,pk x):=by rw [EG,hx];rfl
 have ok:okK (x.h,pk x)=true:=by
   rw [FE];simp only;omega
 cases i with
 | zero=>rw [HZ kx,ok]
 | succ i=>
   obtain ⟨y,hy⟩:∃ y,w[i]?= some y:=⟨_,List.getElem?_eq_getElem (by omega)⟩
   have ky:(Dd pk w)[i]?= some (y.h,pk y):=by rw [EG,hy];rfl
   have:=hw.step i y x hy hx;rw [FF kx ky,ok];simp;omega
theorem Yc {w:List Gal} (hw:OkW w) (z:Int): -500<=EA w z/\EA w z<=9000:=by
 have hl:=hw.len;obtain ⟨x,hx⟩:∃ x,w[0]?= some x:=⟨_,List.getElem?_eq_getElem (by omega)⟩
 obtain ⟨y,hy⟩:∃ y,w[w.length-1]?= some y:=⟨_,List.getElem?_eq_getElem (by omega)⟩
 have b1:=hw.at' x (List.mem_of_getElem? hx);have b2:=hw.at' y (List.mem_of_getElem? hy);unfold EA;rw [hx,hy];simp only;omega
theorem sC {w:List Gal} (hw:OkW w):∀ (j i:Nat) (x y:Gal),w[i]?= some x->w[i+j]?= some y->x.h<=y.h
 | 0,i,x,y,hx,hy=>by rw [Nat.add_zero,hx] at hy;cases hy;omega
 | j+1,i,x,y,hx,hy=>by
   have hl:=(List.getElem?_eq_some_iff.1 hy).1;obtain ⟨z,hz⟩:∃ z,w[i+j]?= some z:=⟨_,List.getElem?_eq_getElem (by omega)⟩
   have:=sC hw j i x z hx hz;have:=hw.step (i+j) z y hz hy;omega
theorem My {w:List Gal} (hw:OkW w) {pk:Gal->Int × Int} (z:Int):inR (Dd pk w) (EA w z):=by
 have hl:=hw.len;obtain ⟨x,hx⟩:∃ x,w[0]?= some x:=⟨_,List.getElem?_eq_getElem (by omega)⟩
 obtain ⟨y,hy⟩:∃ y,w[w.length-1]?= some y:=⟨_,List.getElem?_eq_getElem (by omega)⟩
 have hm:=sC hw (w.length-1) 0 x y hx (by rw [Nat.zero_add];exact hy);unfold EA;rw [hx,hy];simp only;refine ⟨fun k hk=>?_,fun k hk=>?_⟩
 . rw [EG,hx] at hk;cases hk;simp only;omega
 . rw [EG,IH,hy] at hk;cases hk;simp only;omega
theorem Yd {w:List Gal} {y z:Int} (h:y<=z):EA w y<=EA w z:=by
 unfold EA;split
 . omega
 . exact h
theorem kP {w:List Gal} (hw:OkW w) {pk:Gal->Int × Int} (hp:PkB w pk) (h2:2<=w.length) {h:Int × Int} (hh:h.1<=h.2):Fg pk w h=Fk (Dd pk w) (EA w h.1,EA w h.2) (Dd pk w).length:=by
 have e:Fg pk w h=(Jy (Dd pk w) (EA w h.1,EA w h.2)).1:=by
   match w,h2 with
   | a::b::r,_=>rfl
 obtain ⟨x,hx⟩:∃ x,w[0]?= some x:=⟨_,List.getElem?_eq_getElem (by omega)⟩
 obtain ⟨y,hy⟩:∃ y,w[w.length-1]?= some y:=⟨_,List.getElem?_eq_getElem (by omega)⟩
 have kx:(Dd pk w)[0]?= some (x.h,pk x):=by rw [EG,hx];rfl
 have ky:(Dd pk w)[(Dd pk w).length-1]?= some (y.h,pk y):=by rw [EG,IH,hy];rfl
 have c1:=Yc hw h.1;have c2:=Yc hw h.2;have c3:=Yd (w:=w) hh;have i1:=(My hw (pk:=pk) h.1).1 _ kx;have i2:=(My hw (pk:=pk) h.2).2 _ ky;rw [e];unfold Jy;rw [if_pos (AG4 hw hp h2),if_pos (CT.2 (by simp only;omega)),kx,ky];simp only at i1 i2 ⊢;rw [if_neg (by omega)]
theorem Mz {w:List Gal} (hw:OkW w) {pk:Gal->Int × Int} (hp:PkB w pk) {h:Int × Int} (hh:h.1<=h.2): -1000<=(Fg pk w h).1/\(Fg pk w h).1<=(Fg pk w h).2/\(Fg pk w h).2<=1000:=by
 have hl:=hw.len;by_cases h2:2<=w.length
 . rw [kP hw hp h2 hh]
   have hk:∀ k∈Dd pk w, -1000<=k.2.1/\k.2.1<=k.2.2/\k.2.2<=1000:=fun k hk=>by
     unfold Dd at hk;obtain ⟨x,hx,rfl⟩:=List.mem_map.1 hk;exact hp x hx
   have n1:=Sn (AG4 hw hp h2) (My hw h.1) hk;have n2:=Sn (AG4 hw hp h2) (My hw h.2) hk;exact QE (l:=Dd pk w) (x:=(EA w h.1,EA w h.2)) n1 n2 hk _ (Nat.le_refl _)
 . obtain ⟨x,rfl⟩:∃ x,w=[x]:=List.length_eq_one_iff.1 (by omega)
   exact hp x (by simp)
theorem kQ {w:List Gal} (hw:OkW w) {h:Int × Int} (hh:h.1<=h.2):(-1500<=(Jr w h).1/\(Jr w h).1<=(Jr w h).2/\(Jr w h).2<=1500)/\ -1500<=(Js w h).1/\(Js w h).1<=(Js w h).2/\(Js w h).2<=1500:=by
 have g:=Yb hw h;have x:=Mz hw (pk:=HG) (fun x hx=>hw.x x hx) hh;have y:=Mz hw (pk:=EY) (fun x hx=>hw.y x hx) hh;unfold Jr Js;simp only;omega
def EK (a:Atm) (c:Cel):Bool:=!decide (Lh c a=1)
theorem fn19 (s:Shp):Ct prog 19 [Cl s (.d (AX s.gas.cs))] (vb (decide (20<s.gas.cs.length))) []:=by
 have e:decide ((20:Int)<s.gas.cs.length)=decide (20<s.gas.cs.length):=decide_eq_decide.2 (by omega);refine CB func19 c19 fun E hE=>?_
 simp [p19];apply RZ;simp [results19,e]
theorem fn18 (k:Sky):Ct prog 18 [Eu k] (vb (decide (24<k.s.length)||decide (24<k.w.length))) []:=by
 have e:decide ((24:Int)<k.w.length)=decide (24<k.w.length):=decide_eq_decide.2 (by omega);by_cases h:24<k.s.length
 . have hI:(24:Int)<k.s.length:=by omega
   refine CB func18 c18 fun E hE=>?_
   simp [p18,hI];apply RZ;simp [results18,h]
 . have hI:¬ (24:Int)<k.s.length:=by omega
   refine CB func18 c18 fun E hE=>?_
   simp [p18,hI];apply RZ;simp [results18,h,e]
end Go.Proofs.Tryz
namespace Go.Psl
variable {P:Program} {Γ:Tys} {eqs:Eqs} {E:Ent}
def RL (G:Gh) (W:World):Option V->FrameMode->Prop
 | none,u=>u= .returning
 | some v,u=>∃ x,u= .panicking [{v:=x,recovered:=false}]/\RV G W v x
def CmD (P:Program) (f:FuncId) (args:List V) (Hin:Hp) (ks:List Nat) (m:Option V) (H1:Hp):Prop:=
 fF P f/\∀ (G:Gh) (W:World) (xs:Array Value) (u:FrameMode),(∀ b,G.Im b->b<W.heap.size)->AJ (R2 G W) args xs.toList->Qu G W Hin ks->RL G W m u->
   CallsDIn Fence.wide 0 P f xs u W fun e u' W'=>settle u'= .returning/\(∃ v,e= .returned v)/\∃ G',sG G W Hin ks (.ret (.tup [])) H1 e W' G'
def NV:Option V->V
 | none=> .d (.lit .nilIface)
 | some v=>v
theorem ML {fn:Func} {args:List V} {N:Nat} {G:Gh} {W:World} {xs:Array Value} (hcl:∀ v∈args,A2 (· < N) AR v) (hargs:AJ (R2 G W) args xs.toList):
   (∀ t,RV G W (Dn 0 args t) ((xs++Array.replicate (fn.ntmps-xs.size) undef).getD t undef))/\∀ t,AV (· < N) AR (Dn 0 args t):=by
 have hl:args.length=xs.size:=by have:=hargs.length;simpa using this
 refine ⟨fun t=>?_,fun t=>?_⟩
 . rw [H5,if_pos (Nat.zero_le t),Nat.sub_zero,Array.getD_eq_getD_getElem?]
   by_cases ht:t<xs.size
   . rw [Array.getElem?_append_left ht,Array.getElem?_eq_getElem ht]
     have h1:args[t]?= some args[t]:=List.getElem?_eq_getElem (by omega);obtain ⟨x,hx,hrx⟩:=hargs.get h1;rw [h1]
     have:x=xs[t]:=by
       rw [Array.getElem?_toList,Array.getElem?_eq_getElem ht] at hx;cases hx;rfl
     subst this;exact hrx.rv
   . rw [List.getElem?_eq_none (by omega),Array.getElem?_append_right (by omega)]
     have:((Array.replicate (fn.ntmps-xs.size) undef)[t-xs.size]?).getD undef=undef:=by
       rw [Array.getElem?_replicate];split<;>rfl
     rw [this];exact EL
 . rw [H5,if_pos (Nat.zero_le t),Nat.sub_zero]
   cases h1:args[t]? with
   | none=>intro c hc;cases hc
   | some v=>
     obtain ⟨x,_,hx⟩:=hargs.get h1;exact hx.av (hcl v (List.mem_of_getElem? h1))
theorem CmD.by (hΓ:GOk P Γ) (hE:EB P eqs) (hm:P.follows .mixedOrders=true) {f:FuncId} {fn:Func} {id:Nat} {o1 o2:Oper} {rest:Code} {p:PC} {t3 t2:Nat} {args:List V} {Hin:Hp} {ks:List Nat} {m:Option V} {H1:List (Nat × List V)} (N:Nat)
   (hf:P.funcs[f]?= some fn) (hb:fn.body=some (.seq (.region id #[o1,o2] false) rest)) (hname:(fn.name == "runtime.NumGoroutine")=false)
   (g1:o1.guard=none) (g2:o2.guard=none) (d1:o1.dst=some t3) (d2:o2.dst=some t2) (r1:∀ ρ W,(execOp ρ o1).run P W= .ok .recover W) (r2:∀ ρ W,(execOp ρ o2).run P W= .ok (.value (ρ (.tmp t3))) W) (n3:t3<fn.ntmps) (n2:t2<fn.ntmps)
   (hc:AK fn.ntmps rest=some p) (hn:args.length<=fn.ntmps) (hcl:∀ v∈args,A2 (· < N) AR v) (hrv:AV (· < N) AR (NV m)) (hids:H3 N Hin) (hks:∀ i∈ks,i<N) (hri:LD (.tup []) H1)
   (h:∀ E:Ent,(∀ i,E.stab i↔i∈ks)->PW P Γ eqs E p (Mh Γ fn ks (.ret (.tup [])) H1) ⟨Am (Am (Dn 0 args) (some t3) (NV m)) (some t2) (NV m),Hin,N⟩):CmD P f args Hin ks m (lk H1):=by
 refine ⟨⟨fn,hf,by rw [hb];rfl,hname⟩,fun G W xs u hGW hargs hpre hu=>?_⟩;obtain ⟨hfr,hwf⟩:=ML (fn:=fn) hcl hargs;have hl:args.length=xs.size:=by have:=hargs.length;simpa using this
 have hsz:(xs++Array.replicate (fn.ntmps-xs.size) undef).size=fn.ntmps:=by simp;omega
 have hI:=Inv.startN (nt:=fn.ntmps) (rd:=none) (nm:=true) hGW hpre hids hks (tmps:=xs++Array.replicate (fn.ntmps-xs.size) undef) hfr hwf (by rw [hsz];exact Nat.le_refl _);refine callsDIn_of_wpSIn hf hb trivial fun c₀ cs hc0=>?_
 refine wpSIn_seq (wpSIn_region ?_)
 have tail:∀ (x:Value) (c1:Frame) (u':FrameMode),RV G W (NV m) x->c1={c₀ with mode:=u'}->settle u'= .returning->
     Exit.thenS (rest.wpSIn Fence.wide 0 P (bodyPostS P fn c₀ cs fun e u' W'=>settle u'= .returning/\(∃ v,e= .returned v)/\∃ G',sG G W Hin ks (.ret (.tup [])) (lk H1) e W' G')) (bodyPostS P fn c₀ cs fun e u' W'=>settle u'= .returning/\(∃ v,e= .returned v)/\∃ G',sG G W Hin ks (.ret (.tup [])) (lk H1) e W' G') .normal
       ((({tmps:=xs++Array.replicate (fn.ntmps-xs.size) undef,defers:=[]}:Act).put (some t3) x).put (some t2) x) (c1::cs) W:=by
   intro x c1 u' hx hc1 hu';refine wpSIn_of_wpIn rfl ?_;have hI1:=(hI.slot hx hrv (some t3) (fun d hd=>by cases hd;exact n3)).slot (v:=NV m) (x:=x) hx hrv (some t2) (fun d hd=>by cases hd;exact n2);refine wpIn_mono (PW.sound hΓ hE hm rest p hc _ _ (h _ (fun _=>Iff.rfl)) G _ W hI1) fun e a' W' ⟨y,st',G',hI',hy,_,hq⟩=>?_
   have hbase:W=W/\G.Im=G.Im/\(∀ b,Bm G Hin b↔Bm G Hin b)/\∀ i,i∈ks->i∈ks/\G.β i=G.β i/\G.bs i=G.bs i/\G.lo i=G.lo i:=⟨rfl,rfl,fun _=>Iff.rfl,fun _ h=>⟨h,rfl,rfl,rfl⟩⟩
   obtain ⟨ds,hd,hmk⟩:=hI'.df;have hd0:ds=[]:=hmk.nm rfl;subst hd0
   have fin:Dc Γ fn ks (.tup []) H1 st'->bodyPostS P fn c₀ cs (fun e u' W'=>settle u'= .returning/\(∃ v,e= .returned v)/\∃ G',sG G W Hin ks (.ret (.tup [])) (lk H1) e W' G') .ret a' (c1::cs) W':=fun hq=>by
     obtain ⟨ρ,v,hv,hr,h4,h5,h6⟩:=H6 hΓ hI' hq;exact ⟨hd,u',by rw [hc1],v,hv,hu',⟨v,rfl⟩,_,GK (res:= .ret (.tup [])) hbase hri hI' h4 h5 h6 (e:= .returned v) hr⟩
   cases e<;>cases y<;>first | exact fin hq | exact hq.elim | exact False.elim hy
 rw [show List.range (#[o1,o2]:Array Oper).size=[0,1] from rfl];simp only [wpOpsSIn];have w1:Region.wanted o1 (yielded #[o1,o2] (xs++Array.replicate (fn.ntmps-xs.size) undef))=true:=by simp [Region.wanted,g1]
 have w2:∀ T,Region.wanted o2 (yielded #[o1,o2] T)=true:=fun T=>by simp [Region.wanted,g2]
 have e1:(#[o1,o2]:Array Oper)[0]?= some o1:=rfl;have e2:(#[o1,o2]:Array Oper)[1]?= some o2:=rfl
 have ev:∀ x:Value,((({tmps:=xs++Array.replicate (fn.ntmps-xs.size) undef,defers:=[]}:Act).put (some t3) x).eval (.tmp t3))=x:=fun x=>by
   simp [Act.put,Act.eval,Array.getD_eq_getD_getElem?,hsz,n3]
 rw [e1];refine ⟨fun _ _=>trivial,?_⟩;simp only [w1,if_true,r1];cases m with
 | none=>
   have hmode:c₀.mode= .returning:=hc0.trans hu;have hrec:recoverD (c₀::cs)=none:=by simp [recoverD,hmode]
   simp only [hrec,e2];refine ⟨fun _ _=>trivial,?_⟩;simp only [w2,if_true,r2,d1,d2,ev];exact tail .nilIface c₀ .returning (.lit _ rfl) (by rw [<-hmode]) rfl
 | some v=>
   obtain ⟨x,hx,hrx⟩:=hu;have hmode:c₀.mode= .panicking [{v:=x,recovered:=false}]:=hc0.trans hx;have hrec:recoverD (c₀::cs)=some (x,{c₀ with mode:= .panicking [{v:=x,recovered:=true}]}::cs):=by simp [recoverD,hmode]
   simp only [hrec,e2];refine ⟨fun _ _=>trivial,?_⟩;simp only [w2,if_true,r2,d1,d2,ev];exact tail x _ _ hrx rfl rfl
end Go.Psl
