/- Own lemmas, used by the last text. Conditions: those that each theorem states. -/
import Derived.Test.YtnjclpglagcagaaGreatEcag
set_option maxRecDepth 200000
set_option maxHeartbeats 8000000
namespace Go.Proofs.Tryz
open Go.Psl
theorem Zl {a b:Int} (hb:0<b):a.tdiv b=if 0<=a\/a%b=0 then a/b else a/b+1:=by
 rw [Int.tdiv_eq_ediv];by_cases h:0<=a\/b ∣ a
 . rw [if_pos h,if_pos]
   . simp
   . exact h.imp id Int.emod_eq_zero_of_dvd
 . rw [if_neg h,if_neg]
   . rw [Int.sign_eq_one_of_pos hb]
   . exact fun h2=>h (h2.imp id Int.dvd_of_emod_eq_zero)
theorem yF (a b:Int) (ha: -9223372036854775807<=a/\a<=9223372036854775807) (hb:1<=b) (hb2:b<=9223372036854775807):Ct prog 169 [vi a,vi b] (vi (a/b)) []:=by
 refine CB func169 c169 fun E hE=>?_
 have e:=Int.mul_ediv_add_emod a b;have m0:=Int.emod_nonneg a (show b≠0 by omega);have m1:=Int.emod_lt_of_pos a (show 0<b by omega);have t:=Zl (a:=a) (b:=b) (by omega)
 have q0: -9223372036854775807<=a/b:=by
   refine (Int.le_ediv_iff_mul_le (by omega)).2 ?_;have:=Int.mul_le_mul_of_nonneg_left hb (show (0:Int)<=9223372036854775807 by omega);omega
 have q1:a/b<=9223372036854775807:=by
   by_cases h0:0<=a
   . exact Int.le_trans (Int.ediv_le_self _ h0) ha.2
   . have:=Int.ediv_neg_of_neg_of_pos (show a<0 by omega) (show 0<b by omega)
     omega
 rw [Int.mul_comm] at e;have bn:¬ b=0:=by omega
 by_cases hc:0<=a\/a%b=0
 . rw [if_pos hc] at t
   have w1:IntKind.wrap .i64 (a/b)=a/b:=AD (by omega) (by omega);have w2:IntKind.wrap .i64 (a/b*b)=a/b*b:=AD (by omega) (by omega);have hn:¬ a<a/b*b:=by omega
   simp [p169,bn,t,w1,w2,hn];apply RZ;simp [results169]
 . rw [if_neg hc] at t
   have hneg:a<0:=by omega
   have q2:=Int.ediv_neg_of_neg_of_pos hneg (show 0<b by omega);have e2:(a/b+1)*b=a/b*b+b:=by rw [Int.add_mul];omega
   have e3:(a/b+1)*b<=0:=Int.mul_nonpos_of_nonpos_of_nonneg (by omega) (by omega);have w1:IntKind.wrap .i64 (a/b+1)=a/b+1:=AD (by omega) (by omega);have w2:IntKind.wrap .i64 ((a/b+1)*b)=(a/b+1)*b:=AD (by omega) (by omega);have hn:a<(a/b+1)*b:=by omega
   have w3:IntKind.wrap .i64 (a/b+1-1)=a/b:=by rw [AD (by omega) (by omega)];omega
   have w4:IntKind.wrap .i64 (a/b)=a/b:=AD (by omega) (by omega);simp [p169,bn,t,w1,w2,w4,hn];apply RZ;simp [results169]
theorem Zd {H:Hp} (x:D):Bor H (.d x) (.d x):=Or.inl rfl
@[simp] theorem fm {H:Hp}:∀ ds:List D,AJ (Bor H) (ds.map .d) (ds.map .d)
 | []=>trivial
 | x::ds=>⟨Zd x,fm ds⟩
theorem AFO (n r:Nat) (f:FuncId) (ds:List D) (p:Nat->Bool) (hn:n<=1000000) (hp:∀ i:Nat,i<n->Ct prog f (vi i::ds.map .d) (vb (p i)) []) (hr:r<=n) (h0:∀ i,i<r->p i=false) (h1:∀ i,r<=i->i<n->p i=true):
   Ct prog 62 [vi n, .d (.fn f ds)] (vi r) []:=by
 refine CB func62 c62 fun E hE=>?_
 simp [p62];refine Al (α:=Nat × Nat) (fun x=>⟨AO [(1, .d (.fn f ds)),(5,vi x.1),(6,vi x.2)],lk [],0⟩) (fun x=>x.1<=r/\r<=x.2/\x.2<=n) (fun x=>x.2-x.1) (0,n) ?_ ?_ ?_
 . simp;omega
 . exact WK hE (lk [])
 . rintro ⟨lo,hi⟩ ⟨g1,g2,g3⟩
   simp only at g1 g2 g3;simp [ACT];by_cases hlt:lo<hi
   . have e1:IntKind.wrap .i64 ((lo:Int)+hi)=(lo:Int)+hi:=AD (by omega) (by omega)
     obtain ⟨m,hm⟩:∃ m:Nat,m=(lo+hi)/2:=⟨_,rfl⟩
     have e2:IntKind.wrap .u64 ((lo:Int)+hi)=(lo:Int)+hi:=Ay (by omega) (by omega);have e3:IntKind.wrap .i64 (((lo:Int)+hi)/2)=(m:Int):=by rw [AD (by omega) (by omega)];omega
     have e4:IntKind.wrap .i64 ((m:Int)+1)=((m+1:Nat):Int):=by rw [AD (by omega) (by omega)];rfl
     simp only [Int.natCast_add,Int.cast_ofNat_Int] at e4;simp [hlt,e1,e2,e3];refine CLa (hp m (by omega)) ?_;cases hpm:p m with
     | true=>
       have:r<=m:=Nat.not_lt.1 fun h=>by rw [h0 m h] at hpm;cases hpm
       simp;refine ⟨lo,m,⟨by omega,by omega,by omega⟩,by omega,?_⟩;exact WK hE (lk [])
     | false=>
       have:m<r:=Nat.not_le.1 fun h=>by rw [h1 m h (by omega)] at hpm;cases hpm
       simp [e4];refine ⟨m+1,hi,⟨by omega,by omega,by omega⟩,by omega,?_⟩;exact WK hE (lk [])
   . have:lo=r:=by omega
     subst this;simp [hlt];apply RZ;simp [results62]
theorem mP {l:List (Int × Int × Int)} (h:Ck l=true):∀ (d i:Nat) (a b:Int × Int × Int),l[i]?= some a->l[i+d+1]?= some b->a.1<b.1:=by
 have hg:∀ i (k:Int × Int × Int),l[i]?= some k->C3 l i=true:=fun i k hk=>by
   simp only [Ck,Bool.and_eq_true,DV,List.all_eq_true] at h;refine h.2 i (List.mem_range.2 ?_);exact (List.getElem?_eq_some_iff.1 hk).1
 have hs:∀ (i:Nat) (a b:Int × Int × Int),l[i]?= some a->l[i+1]?= some b->a.1<b.1:=fun i a b ha hb=>by
   have:=hg (i+1) b hb;rw [FF hb ha] at this;simp only [Bool.and_eq_true,decide_eq_true_eq] at this;exact this.2
 intro d;induction d with
 | zero=>exact hs
 | succ d ih=>
   intro i a b ha hb
   obtain ⟨c,hc⟩:∃ c,l[i+d+1]?= some c:=by
     have:=(List.getElem?_eq_some_iff.1 hb).1;exact ⟨l[i+d+1],by simp⟩
   have h1:=ih i a c ha hc;have h2:=hs (i+d+1) c b hc hb;omega
theorem LT {l:List (Int × Int × Int)} (h:Ck l=true) {i j:Nat} {a b:Int × Int × Int} (ha:l[i]?= some a) (hb:l[j]?= some b) (hij:i<j):a.1<b.1:=
 mP h (j-i-1) i a b ha (by rw [show i+(j-i-1)+1=j by omega];exact hb)
theorem KB {l:List (Int × Int × Int)} (h:Ck l=true) {i:Nat} {k:Int × Int × Int} (hk:l[i]?= some k):okK k=true:=by
 simp only [Ck,Bool.and_eq_true,DV,List.all_eq_true] at h;have:=h.2 i (List.mem_range.2 (List.getElem?_eq_some_iff.1 hk).1);unfold C3 at this;rw [hk] at this;simp only [Bool.and_eq_true] at this;exact this.1
theorem Qm {l:List (Int × Int × Int)} (h:Ck l=true):2<=l.length/\l.length<=32:=by
 simp only [Ck,Bool.and_eq_true,decide_eq_true_eq] at h;exact h.1
def Fl (l:List (Int × Int × Int)) (x:Int):Nat:=(l.takeWhile fun k=>decide (k.1<=x)).length
theorem cK (l:List (Int × Int × Int)) (x:Int):Fl l x<=l.length:=by
 unfold Fl;exact (List.takeWhile_sublist _).length_le
theorem AAY:∀ (l:List (Int × Int × Int)) (x:Int) (i:Nat) (k:Int × Int × Int),l[i]?= some k->i<Fl l x->k.1<=x
 | [],_,_,_,h,_=>by simp at h
 | a::l,x,i,k,h,hi=>by
   unfold Fl at hi;by_cases hc:a.1<=x
   . cases i with
     | zero=>simp at h;subst h;exact hc
     | succ i=>
       simp [hc] at hi h;exact AAY l x i k h (by unfold Fl;exact hi)
   . simp [hc] at hi
theorem ADo:∀ (l:List (Int × Int × Int)) (x:Int) (k:Int × Int × Int),l[Fl l x]?= some k->x<k.1
 | [],_,_,h=>by simp at h
 | a::l,x,k,h=>by
   unfold Fl at h;by_cases hc:a.1<=x
   . simp [hc] at h
     exact ADo l x k (by unfold Fl;exact h)
   . simp [hc] at h
     subst h;omega
theorem KC {l:List (Int × Int × Int)} (ht:Ck l=true) {x:Int} {i:Nat} {k:Int × Int × Int} (hk:l[i]?= some k) (hi:Fl l x<=i):x<k.1:=by
 have hlt:=(List.getElem?_eq_some_iff.1 hk).1;obtain ⟨c,hc⟩:∃ c,l[Fl l x]?= some c:=⟨l[Fl l x],by simp⟩
 have h1:=ADo l x c hc;by_cases he:Fl l x=i
 . rw [he,hk] at hc;cases hc;exact h1
 . have:=LT ht hc hk (by omega)
   omega
def DB (l:List (Int × Int × Int)) (x:Int):Nat:=min (max (Fl l x) 1) (l.length-1)-1
def Ir (a b:Int × Int × Int) (x:Int):Int × Int:=(a.2.1+(x-a.1)*(b.2.1-a.2.1)/(b.1-a.1),a.2.2-(x-a.1)*(a.2.2-b.2.2)/(b.1-a.1))
def atS (l:List (Int × Int × Int)) (x:Int):Int × Int:=match l[DB l x]?,l[DB l x+1]? with
 | some a,some b=>Ir a b x
 | _,_=>(0,0)
theorem nu (l:List (Int × Int × Int)) (_:l.length<=1000000) (x:Int) (i:Nat) (k:Int × Int × Int) (hk:l[i]?= some k):Ct prog 168 [vi i, .d (.ref [DA l]), .d (.ref [di x])] (vb (decide (x<k.1))) []:=by
 refine CB func168 c168 fun E hE=>?_
 have hil:i<l.length:=(List.getElem?_eq_some_iff.1 hk).1;simp [p168,hk];apply RZ;simp [results168]
theorem It {m w n:Int} (hn:0<n) (h0:0<=m) (h1:m<=n) (hw: -2147483648<=w/\w<=2147483648): -2147483648<=m*w/n/\m*w/n<=2147483648:=by
 have b1:m*w<=2147483648*n:=by
   have h2:m*w<=m*2147483648:=Int.mul_le_mul_of_nonneg_left hw.2 h0;have h3:m*2147483648<=n*2147483648:=Int.mul_le_mul_of_nonneg_right h1 (by omega);omega
 have b2: -2147483648*n<=m*w:=by
   have h2:m* -2147483648<=m*w:=Int.mul_le_mul_of_nonneg_left hw.1 h0;have h3:n* -2147483648<=m* -2147483648:=Int.mul_le_mul_of_nonpos_right h1 (by omega);omega
 refine ⟨(Int.le_ediv_iff_mul_le hn).2 b2,?_⟩;have:=Int.ediv_le_ediv hn b1;rw [Int.mul_ediv_cancel _ (by omega)] at this;exact this
theorem Jm {m w:Int} (h0:0<=m) (h1:m<=2147483648) (hw: -2147483648<=w/\w<=2147483648): -4611686018427387904<=m*w/\m*w<=4611686018427387904:=by
 have h2:m*w<=m*2147483648:=Int.mul_le_mul_of_nonneg_left hw.2 h0;have h3:m* -2147483648<=m*w:=Int.mul_le_mul_of_nonneg_left hw.1 h0;omega
theorem S6 (l:List (Int × Int × Int)) (x:Int) (ht:Ck l=true) (h0:∀ k,l[0]?= some k->k.1<=x) (h1:∀ k,l[l.length-1]?= some k->x<=k.1):Ct prog 136 [.d (DA l),vi x] (vsp (atS l x).1 (atS l x).2) []:=by
 have hlen:=Qm ht;have hc:=cK l x;have hs:DB l x+1<l.length:=by unfold DB;omega
 obtain ⟨a,ha⟩:∃ a,l[DB l x]?= some a:=⟨l[DB l x],by simp⟩
 obtain ⟨b,hb⟩:∃ b,l[DB l x+1]?= some b:=⟨l[DB l x+1],by simp⟩
 have hat:atS l x=Ir a b x:=by simp [atS,ha,hb]
 have oa:=FE.1 (KB ht ha);have ob:=FE.1 (KB ht hb);have hab:=LT ht ha hb (by omega)
 have hax:a.1<=x:=by
   by_cases hz:DB l x=0
   . rw [hz] at ha;exact h0 a ha
   . exact AAY l x _ a ha (by unfold DB at hz ⊢;omega)
 have hxb:x<=b.1:=by
   by_cases hz:DB l x+1=l.length-1
   . rw [hz] at hb;exact h1 b hb
   . have:=KC ht hb (x:=x) (by unfold DB at hz ⊢;omega)
     omega
 rw [hat];obtain ⟨s,hsg⟩:∃ s,DB l x=s:=⟨_,rfl⟩
 rw [hsg] at ha hb hs
 have hse:Ct prog 62 [vi l.length, .d (.fn 168 [.ref [DA l], .ref [di x]])] (vi (Fl l x)) []:=by
   refine AFO l.length (Fl l x) _ _ (fun i=>(l[i]?.map fun k=>decide (x<k.1)).getD false) (by omega) (fun i hi=>?_) hc (fun i hi=>?_) (fun i hi hi2=>?_)
   . obtain ⟨k,hk⟩:∃ k,l[i]?= some k:=⟨l[i],by simp [hi]⟩
     rw [hk];exact nu l (by omega) x i k hk
   . obtain ⟨k,hk⟩:∃ k,l[i]?= some k:=⟨l[i],by simp [show i<l.length by omega]⟩
     have:=AAY l x i k hk hi;simp [hk];omega
   . obtain ⟨k,hk⟩:∃ k,l[i]?= some k:=⟨l[i],by simp [hi2]⟩
     have:=KC ht hk hi;simp [hk];omega
 refine CB func136 c136 fun E hE=>?_
 simp [p136];refine CLa hse ?_;obtain ⟨s1,hs1⟩:∃ s1,s1=s+1:=⟨_,rfl⟩
 rw [<-hs1] at hb;have w0:IntKind.wrap .i64 ((l.length:Int)-1)=(l.length:Int)-1:=AD (by omega) (by omega);have w1:IntKind.wrap .i64 ((s1:Int)-1)=(s:Int):=by rw [AD (by omega) (by omega)];omega
 have hmn:min (max (Fl l x:Int) 1) ((l.length:Int)-1)=(s1:Int):=by unfold DB at hsg;omega
 have w2:IntKind.wrap .i64 (x-a.1)=x-a.1:=AD (by omega) (by omega);have w3:IntKind.wrap .i64 (b.1-a.1)=b.1-a.1:=AD (by omega) (by omega);have w4:IntKind.wrap .i64 (b.2.1-a.2.1)=b.2.1-a.2.1:=AD (by omega) (by omega);have w5:IntKind.wrap .i64 (a.2.2-b.2.2)=a.2.2-b.2.2:=AD (by omega) (by omega);have b1:=Jm (m:=x-a.1) (w:=b.2.1-a.2.1) (by omega) (by omega) (by omega);have b2:=Jm (m:=x-a.1) (w:=a.2.2-b.2.2) (by omega) (by omega) (by omega);have c1:=It (n:=b.1-a.1) (m:=x-a.1) (w:=b.2.1-a.2.1) (by omega) (by omega) (by omega) (by omega);have c2:=It (n:=b.1-a.1) (m:=x-a.1) (w:=a.2.2-b.2.2) (by omega) (by omega) (by omega) (by omega);have w6:IntKind.wrap .i64 ((x-a.1)*(b.2.1-a.2.1))=(x-a.1)*(b.2.1-a.2.1):=AD (by omega) (by omega);have w7:IntKind.wrap .i64 ((x-a.1)*(a.2.2-b.2.2))=(x-a.1)*(a.2.2-b.2.2):=AD (by omega) (by omega);have w8:IntKind.wrap .i64 (a.2.1+(x-a.1)*(b.2.1-a.2.1)/(b.1-a.1))=a.2.1+(x-a.1)*(b.2.1-a.2.1)/(b.1-a.1):=AD (by omega) (by omega);have w9:IntKind.wrap .i64 (a.2.2-(x-a.1)*(a.2.2-b.2.2)/(b.1-a.1))=a.2.2-(x-a.1)*(a.2.2-b.2.2)/(b.1-a.1):=AD (by omega) (by omega);simp [w0,hmn];refine PG [(11,9),(12,10)] (by kernel_rfl) ?_;simp [w1,ha,hb,inC,Nat.testBit,AA,w2,w3,w4,w6];refine AU.mk _ _ _ (yF ((x-a.1)*(b.2.1-a.2.1)) (b.1-a.1) (by omega) (by omega) (by omega)) (by first | (simp;done) | simp [Bk,CP]) (by simp) (by first | (left;simp;done) | (right;simp;done)) ?_;simp [w8,w5,w7];refine AU.mk _ _ _ (yF ((x-a.1)*(a.2.2-b.2.2)) (b.1-a.1) (by omega) (by omega) (by omega)) (by first | (simp;done) | simp [Bk,CP]) (by simp) (by first | (left;simp;done) | (right;simp;done)) ?_;simp [w9,AA];apply RZ;simp [results136,Ir]
def Fk (l:List (Int × Int × Int)) (x:Int × Int) (i:Nat):Int × Int:=(l.take i).foldl (fun o k=>if x.1<k.1/\k.1<x.2 then Xa o k.2 else o) (Xa (atS l x.1) (atS l x.2))
theorem ALM {l:List (Int × Int × Int)} {x:Int × Int} {i:Nat} {k:Int × Int × Int} (hk:l[i]?= some k):Fk l x (i+1)=if x.1<k.1/\k.1<x.2 then Xa (Fk l x i) k.2 else Fk l x i:=by
 simp [Fk,List.take_add_one,hk]
def Jy (l:List (Int × Int × Int)) (x:Int × Int):(Int × Int) × Int:=
 if Ck l=true then
   if okS x=true then
     match l[0]?,l[l.length-1]? with
     | some a,some b=>if x.1<a.1\/b.1<x.2 then ((0,0),2) else (Fk l x l.length,0)
     | _,_=>((0,0),0)
   else ((0,0),10)
 else ((0,0),13)
theorem ABQ (l:List (Int × Int × Int)) (x:Int × Int) (hl:l.length<=1000000):Ct prog 97 [.d (DA l),vsp x.1 x.2] (vse (Jy l x)) []:=by
 refine CB func97 c97 fun E hE=>?_
 simp [p97];refine CLa (xw l hl) ?_;by_cases ht:Ck l=true
 . simp [ht]
   refine CLa (pA x) ?_;by_cases hx:okS x=true
   . have hlen:=Qm ht
     obtain ⟨a,ha⟩:∃ a,l[0]?= some a:=⟨l[0],by simp⟩
     obtain ⟨e,he⟩:∃ e,e=l.length-1:=⟨_,rfl⟩
     obtain ⟨b,hb⟩:∃ b,l[e]?= some b:=⟨l[e],by simp [show e<l.length by omega]⟩
     have we:IntKind.wrap .i64 ((l.length:Int)-1)=(e:Int):=by rw [AD (by omega) (by omega)];omega
     by_cases c1:x.1<a.1
     . simp [hx,ha,c1,AA]
       apply RZ;simp [results97,Jy,ht,hx,ha,<-he,hb,c1]
     by_cases c2:b.1<x.2
     . simp [hx,ha,hb,c1,c2,we,AA]
       apply RZ;simp [results97,Jy,ht,hx,ha,<-he,hb,c1,c2]
     have hxx:=CT.1 hx;have hlast:∀ k,l[l.length-1]?= some k->x.2<=k.1:=fun k hk=>by rw [<-he,hb] at hk;cases hk;omega
     have hfirst:∀ k,l[0]?= some k->k.1<=x.1:=fun k hk=>by rw [ha] at hk;cases hk;omega
     simp [hx,ha,hb,c1,c2,we];refine CLa (S6 l x.1 ht hfirst (fun k hk=>by have:=hlast k hk;omega)) ?_;simp [inC,Nat.testBit];refine CLa (S6 l x.2 ht (fun k hk=>by have:=hfirst k hk;omega) hlast) ?_;simp [inC,Nat.testBit,AA,AM];refine CLb (yP (atS l x.1) [atS l x.2] (by simp)) (by first | (simp;done) | simp [Bk,inC,Nat.testBit]) ?_;simp [AA];refine BL (α:=Nat) 0 (fun _:Unit=>⟨AO [(4, .lp 0 0),(8, .lp 1 0)],lk [(0,[vi 0,vi 0]),(1,[vi (Fk l x l.length).1,vi (Fk l x l.length).2])],2⟩) (fun _=>True) (fun i=>⟨AO [(3, .lp 2 0),(4, .lp 0 0),(8, .lp 1 0),(53, .d (DA l)),(54,vi l.length),(55,vi i)],lk [(0,[vi 0,vi 0]),(1,[vi (Fk l x i).1,vi (Fk l x i).2]),(2,[vi x.1,vi x.2])],3⟩) (fun i=>i<=l.length) (fun i=>l.length-i) 0 ?_ ?_ ?_ fun _ _=>?_
     . simp
     . refine AI.mk hE (lk [(0,1048576),(1,44040192),(2,0)]) _ _ _ ?_ ?_ ?_ ?_ ?_<;>simp [Fk,ALK]
     . intro i hi
       simp [AQW];refine Bh (fun h=>?_) (fun h=>?_)
       . simp at h
         obtain ⟨k,hk⟩:∃ k,l[i]?= some k:=⟨l[i],by simp [h]⟩
         have hz:IntKind.wrap .i64 ((i:Int)+1)=(i:Int)+1:=AD (by omega) (by omega);by_cases d1:x.1<k.1
         . by_cases d2:k.1<x.2
           . simp [hk,d1,d2,AA,AM]
             refine CLb (yP (Fk l x i) [k.2] (by simp)) (by first | (simp;done) | simp [Bk]) ?_;simp [hz,AA];refine ⟨i+1,by omega,by omega,?_⟩;refine AI.mk hE (lk [(0,0),(1,1),(2,2)]) _ _ _ ?_ ?_ ?_ ?_ ?_<;>simp [ALM hk,ALK,d1,d2]
           . simp [hk,d1,d2,hz,AA]
             refine ⟨i+1,by omega,by omega,?_⟩;refine AI.mk hE (lk [(0,0),(1,1),(2,2)]) _ _ _ ?_ ?_ ?_ ?_ ?_<;>simp [ALM hk,d2]
         . simp [hk,d1,hz,AA]
           refine ⟨i+1,by omega,by omega,?_⟩;refine AI.mk hE (lk [(0,0),(1,1),(2,2)]) _ _ _ ?_ ?_ ?_ ?_ ?_<;>simp [ALM hk,d1]
       . simp at h
         have hil:i=l.length:=by omega
         subst hil;simp;exact WK hE (lk [(0,0),(1,1)])
     . simp [AA]
       apply RZ;simp [results97,Jy,ht,hx,ha,<-he,hb,c1,c2]
   . simp [hx,AA]
     apply RZ;simp [results97,Jy,ht,hx]
 . simp [ht,AA]
   apply RZ;simp [results97,Jy,ht]
open Go.Air
abbrev knL (k:Int × Int × Int):List D:=[di k.1,di k.2.1,di k.2.2]
theorem hfk:∀ k:Int × Int × Int,(knL k).length=3:=fun _=>rfl
def knOf (x:Lev):Int × Int × Int:=(x.h,x.tl,x.th)
def knT (l:List Lev):List (Int × Int × Int):=l.map knOf
def tmS (k:List (Int × Int × Int)):Tm:=fun a b=>(Jy k (min a b,max a b)).1
def LS (l:List Lev) (i:Nat):List (Int × Int × Int):=(l.take i).map knOf
theorem WR {l:List Lev} {i:Nat} {x:Lev} (h:l[i]?= some x):LS l (i+1)=LS l i++[knOf x]:=by
 unfold LS;rw [List.take_add_one,h];simp
theorem iJ (l:List Lev) (hl:l.length<=1000000) (h0:l≠[]):Ct prog 44 [.d (BF l)] (.cl 96 [.lp 0 0]) [(0,[.ls 1 0 l.length 3]),(1,AH knL (knT l))]:=by
 refine CB func44 c44 fun E hE=>?_
 simp [p44];refine Al (α:=Nat) (fun i=>⟨AO [(3, .lp 0 0),(6, .d (BF l)),(7,vi l.length),(8,vi i)],lk ([(0,[hdF 3 (LS l i) 1])]++ouF knL (LS l i) 1),2⟩) (fun i=>i<=l.length) (fun i=>l.length-i) 0 ?_ ?_ ?_
 . omega
 . rw [show LS l 0=[] from rfl,Aq,Au]
   exact WK hE (lk [(0,1048576)])
 . intro i hi
   by_cases h:i<l.length
   . obtain ⟨x,hx⟩:=gE h
     have hz:=@wz i (by omega);have hI:(i:Int)<l.length:=by omega
     have hnx:=WR hx;have hO:(LS l i).length<=1000000:=by unfold LS;simp;omega
     obtain ⟨O,hOe⟩:∃ O,LS l i=O:=⟨_,rfl⟩
     rw [hOe] at hnx hO ⊢;by_cases hne:O=[]
     . subst hne
       rw [Aq,Au];simp [AAg,hI,hx,AA,AM,hz];refine ⟨i+1,by omega,by omega,?_⟩;rw [hnx,Ak (by simp),AZ (by simp)];refine AI.mk hE (lk [(0,0),(1,12582914)]) _ _ _ ?_ ?_ ?_ ?_ ?_<;>simp [AH,knOf]
     . have hsl:=Aw hfk O
       have hwh:=E9 hfk O;have n1:(O.length+1)*24<=140737488355328:=by omega
       have n2:O.length+1<=9223372036854775807:=by omega
       rw [Ak hne,AZ hne];simp [AAg,hI,hx,AA,AM,hz,hsl,hwh,n1,n2];refine ⟨i+1,by omega,by omega,?_⟩;rw [hnx,Ak (by simp),AZ (by simp),IV];refine AI.mk hE (lk [(0,0),(1,12582914)]) _ _ _ ?_ ?_ ?_ ?_ ?_<;>simp [knOf]
   . have e:i=l.length:=by omega
     have hn:¬ (i:Int)<l.length:=by omega
     have ek:LS l i=knT l:=by unfold LS knT;rw [e,List.take_length]
     have ene:knT l≠[]:=by unfold knT;simpa using h0
     have ekl:(knT l).length=l.length:=by unfold knT;simp
     rw [ek,Ak ene,AZ ene,ekl];simp [AAg,hn];refine AB.by (lk [(0,0),(1,1)]) ?_;simp [results44]
theorem AQF (l:List Lev) (hl:l.length<=1000000) (h0:l≠[]):Ct prog 44 [.d (BF l)] (.d (.fn 96 [.ref [DA (knT l)]])) []:=by
 refine Cm.freeze (iJ l hl h0) ?_;have ekl:(knT l).length=l.length:=by unfold knT;simp
 refine ⟨rfl,Or.inr ⟨0,0,_,[DA (knT l)],rfl,rfl,rfl,?_,trivial⟩,trivial⟩;have:Bor (lk [(0,[.ls 1 0 (knT l).length 3]),(1,AH knL (knT l))]) (.ls 1 0 (knT l).length 3) (.d (slD knL 3 (knT l))):=B0 hfk (by simp);rw [ekl] at this;exact this
theorem pP (k:List (Int × Int × Int)) (a b:Int) (hk:k.length<=1000000):Ct prog 96 [vi a,vi b, .d (.ref [DA k])] (vsp (tmS k a b).1 (tmS k a b).2) []:=by
 have c:=ABQ k (min a b,max a b) hk;refine CB func96 c96 fun E hE=>?_
 simp [p96,AA];refine CLa c ?_;simp [AA];apply RZ;simp [results96,tmS]
theorem kS {l:List (Int × Int × Int)} {x:Int} (ht:Ck l=true) (h0:∀ k,l[0]?= some k->k.1<=x) (h1:∀ k,l[l.length-1]?= some k->x<=k.1):
   ∃ a b:Int × Int × Int,l[DB l x]?= some a/\l[DB l x+1]?= some b/\DB l x+1<l.length/\atS l x=Ir a b x/\okK a=true/\okK b=true/\a.1<b.1/\a.1<=x/\x<=b.1/\1<=Fl l x:=by
 have hlen:=Qm ht;have hc:=cK l x;have hs:DB l x+1<l.length:=by unfold DB;omega
 obtain ⟨a,ha⟩:∃ a,l[DB l x]?= some a:=⟨l[DB l x],by simp⟩
 obtain ⟨b,hb⟩:∃ b,l[DB l x+1]?= some b:=⟨l[DB l x+1],by simp⟩
 have hc1:1<=Fl l x:=Nat.not_lt.1 fun h=>by
   obtain ⟨k,hk⟩:∃ k,l[0]?= some k:=⟨l[0],by simp⟩
   have h2:=KC ht hk (x:=x) (by omega);have h3:=h0 k hk;omega
 refine ⟨a,b,ha,hb,hs,by simp [atS,ha,hb],KB ht ha,KB ht hb,LT ht ha hb (by omega),?_,?_,hc1⟩
 . by_cases hz:DB l x=0
   . rw [hz] at ha;exact h0 a ha
   . exact AAY l x _ a ha (by unfold DB at hz ⊢;omega)
 . by_cases hz:DB l x+1=l.length-1
   . rw [hz] at hb;exact h1 b hb
   . have:=KC ht hb (x:=x) (by unfold DB at hz ⊢;omega)
     omega
abbrev Kn:=Int × Int × Int
theorem XE {d m n:Int} (hn:0<n) (h0:0<=d) (h1:d<=n):min 0 m<=d*m/n:=by
 rw [Int.le_ediv_iff_mul_le hn];by_cases hm:0<=m
 . rw [show min 0 m=0 by omega,Int.zero_mul]
   exact Int.mul_nonneg h0 hm
 . rw [show min 0 m=m by omega,Int.mul_comm d]
   exact Int.mul_le_mul_of_nonpos_left (by omega) (by omega)
theorem mY {a k:Kn} {x:Int} (hlt:a.1<k.1) (h1:a.1<=x) (h2:x<=k.1) (oa:a.2.1<=a.2.2) (ok:k.2.1<=k.2.2):min a.2.1 k.2.1<=(Ir a k x).1/\(Ir a k x).1<=(Ir a k x).2/\(Ir a k x).2<=max a.2.2 k.2.2:=by
 have hn:0<k.1-a.1:=by omega
 have d1:=Int.ediv_mul_le ((x-a.1)*(k.2.1-a.2.1)) (show k.1-a.1≠0 by omega);have d2:=Int.ediv_mul_le ((x-a.1)*(a.2.2-k.2.2)) (show k.1-a.1≠0 by omega);have k1:=XE (m:=k.2.1-a.2.1) hn (show 0<=x-a.1 by omega) (by omega);have k2:=XE (m:=a.2.2-k.2.2) hn (show 0<=x-a.1 by omega) (by omega);unfold Ir;simp only;obtain ⟨n,hne⟩:∃ n,k.1-a.1=n:=⟨_,rfl⟩
 obtain ⟨d,hde⟩:∃ d,x-a.1=d:=⟨_,rfl⟩
 rw [hne,hde] at d1 d2 k1 k2;rw [hne,hde];have hd:0<=d/\d<=n:=by omega
 have hn':0<n:=by omega
 obtain ⟨p,hp⟩:∃ p,d*(k.2.1-a.2.1)/n=p:=⟨_,rfl⟩
 obtain ⟨q,hq⟩:∃ q,d*(a.2.2-k.2.2)/n=q:=⟨_,rfl⟩
 rw [hp] at d1 k1;rw [hq] at d2 k2;rw [hp,hq];refine ⟨by omega,?_,by omega⟩;have e1:0<=(a.2.2-a.2.1)*(n-d):=Int.mul_nonneg (by omega) (by omega);have e2:0<=(k.2.2-k.2.1)*d:=Int.mul_nonneg (by omega) (by omega)
 have e3:(p+q)*n<=(a.2.2-a.2.1)*n:=by
   have e4:d*(k.2.1-a.2.1)+d*(a.2.2-k.2.2)=(a.2.2-a.2.1)*n-(a.2.2-a.2.1)*(n-d)-(k.2.2-k.2.1)*d:=by grind
   rw [Int.add_mul];omega
 have:=Int.le_of_mul_le_mul_right e3 hn';omega
section
variable {l:List Kn} (ht:Ck l=true)
def inR (l:List Kn) (x:Int):Prop:=(∀ k,l[0]?= some k->k.1<=x)/\∀ k,l[l.length-1]?= some k->x<=k.1
theorem QE {l:List Kn} {x:Int × Int} {L M:Int} (h1:L<=(atS l x.1).1/\(atS l x.1).1<=(atS l x.1).2/\(atS l x.1).2<=M) (h2:L<=(atS l x.2).1/\(atS l x.2).1<=(atS l x.2).2/\(atS l x.2).2<=M) (h3:∀ k∈l,L<=k.2.1/\k.2.1<=k.2.2/\k.2.2<=M):∀ i,i<=l.length->L<=(Fk l x i).1/\(Fk l x i).1<=(Fk l x i).2/\(Fk l x i).2<=M
 | 0,_=>by unfold Fk Xa;simp;omega
 | i+1,hi=>by
   obtain ⟨c,hc⟩:∃ c,l[i]?= some c:=⟨_,List.getElem?_eq_getElem (by omega)⟩
   have ih:=QE h1 h2 h3 i (by omega);rw [ALM hc];split
   . have:=h3 c (List.mem_of_getElem? hc)
     unfold Xa;simp only;omega
   . exact ih
include ht in
theorem Sn {x:Int} (hx:inR l x) {L M:Int} (h3:∀ k∈l,L<=k.2.1/\k.2.1<=k.2.2/\k.2.2<=M):L<=(atS l x).1/\(atS l x).1<=(atS l x).2/\(atS l x).2<=M:=by
 obtain ⟨a,k,ha,hk,_,e,_,_,hlt,h1,h2,_⟩:=kS ht hx.1 hx.2;have o1:=h3 a (List.mem_of_getElem? ha);have o2:=h3 k (List.mem_of_getElem? hk);have:=mY hlt h1 h2 o1.2.1 o2.2.1;rw [e];omega
end
end Go.Proofs.Tryz
namespace Go.Proofs.Tryz
open Go.Psl
open Go.Air
theorem fu {a b:Int} (ha: -4000000000000000000<=a/\a<=4000000000000000000): -4000000000000000000<=a.tdiv b/\a.tdiv b<=4000000000000000000:=by
 have:(a.tdiv b).natAbs<=a.natAbs:=by rw [Int.natAbs_tdiv];exact Nat.div_le_self _ _
 omega
theorem AO8 (a b:Int) (ha: -4000000000000000000<=a/\a<=4000000000000000000) (hb:0<b):Ct prog 103 [vsp a b] (vi (fl a b)) []:=by
 have hz:¬ b=0:=by omega
 have hq:=fu (b:=b) ha;have w1:IntKind.wrap .i64 (a.tdiv b)=a.tdiv b:=AD (by omega) (by omega);have w2:IntKind.wrap .i64 (a.tdiv b-1)=a.tdiv b-1:=AD (by omega) (by omega);have e:=ABy (a:=a) hb;refine CB func103 c103 fun E hE=>?_
 by_cases h1:a<0
 . by_cases h2:a.tmod b=0
   . rw [if_neg (by simp [h2])] at e
     simp [p103,h1,h2,hz,w1];apply RZ;simp [results103,e]
   . rw [if_pos ⟨h1,h2⟩] at e
     simp [p103,h1,h2,hz,w1,w2];apply RZ;simp [results103,e]
 . rw [if_neg (by simp [h1])] at e
   simp [p103,h1,hz,w1];apply RZ;simp [results103,e]
theorem pm {a b:Int} (ha: -3000000000000000000<=a/\a<=3000000000000000000) (hb:0<b): -4000000000000000000<=fl a b/\fl a b<=4000000000000000000:=by
 have:(a.tdiv b).natAbs<=a.natAbs:=by rw [Int.natAbs_tdiv];exact Nat.div_le_self _ _
 rw [ABy hb];split<;>omega
theorem AQR (a b:Int) (ha: -3000000000000000000<=a/\a<=3000000000000000000) (hb:0<b):Ct prog 200 [vsp a b] (vi (ce a b)) []:=by
 have w1:IntKind.wrap .i64 (-a)= -a:=AD (by omega) (by omega);have hf:=pm (a:= -a) (b:=b) (by omega) hb;have w2:IntKind.wrap .i64 (-fl (-a) b)= -fl (-a) b:=AD (by omega) (by omega);refine CB func200 c200 fun E hE=>?_
 simp [p200,AA,w1];refine CLa (AO8 (-a) b (by omega) hb) ?_;simp [w2];apply RZ;simp [results200,ce,fl]
def rSp (r:Int × Int):Int × Int:=(fl r.1 r.2,ce r.1 r.2)
def Ed (r:Int × Int) (l:List (Int × Int)):Int × Int:=ALK (rSp r) (l.map rSp)
def okR (r:Int × Int):Prop:=(-3000000000000000000<=r.1/\r.1<=3000000000000000000)/\0<r.2
theorem O8 {r:Int × Int} {l:List (Int × Int)} {i:Nat} {s:Int × Int} (h:l[i]?= some s):Ed r (l.take (i+1))=Xa (Ed r (l.take i)) (rSp s):=by
 unfold Ed;rw [List.map_take,List.map_take,Hw (s:=rSp s) (by rw [List.getElem?_map,h];rfl)]
theorem qw (r:Int × Int) (l:List (Int × Int)) (hl:l.length<=1000000) (hr:okR r) (ho:∀ q∈l,okR q):Ct prog 190 [.d (An (r::l))] (vsp (Ed r l).1 (Ed r l).2) []:=by
 have c1:=AO8 r.1 r.2 (by have:=hr.1;omega) hr.2;have c2:=AQR r.1 r.2 hr.1 hr.2;have h0:(1:Int)<=(l.length:Int)+1:=by omega
 refine CB func190 c190 fun E hE=>?_
 simp [p190,inC,Nat.testBit];refine CLa c1 ?_;simp [inC,Nat.testBit];refine CLa c2 ?_;simp [AA,h0];refine Al (α:=Nat) (fun i=>⟨AO [(2, .lp 0 0),(3, .lp 1 0),(16, .d (An l)),(17,vi l.length),(18,vi i)],lk [(0,[vi 0,vi 0]),(1,[vi (Ed r (l.take i)).1,vi (Ed r (l.take i)).2])],2⟩) (fun i=>i<=l.length) (fun i=>l.length-i) 0 ?_ ?_ ?_
 . simp
 . refine AI.mk hE (lk [(0,0),(1,10485760)]) _ _ _ ?_ ?_ ?_ ?_ ?_<;>simp [Ed,ALK,rSp]
   exact List.take_of_length_le (by simp)
 . intro i hi
   by_cases h:i<l.length
   . obtain ⟨q,hq⟩:=gE h
     have hz:=@wz i (by omega);have hI:(i:Int)<l.length:=by omega
     have hqo:=ho q (List.mem_of_getElem? hq);have d1:=AO8 q.1 q.2 (by have:=hqo.1;omega) hqo.2;have d2:=AQR q.1 q.2 hqo.1 hqo.2;simp [ANl,hI,hq,AA];refine AL [(11,1)] (by kernel_rfl) ?_;simp [inC,Nat.testBit];refine CLa d1 ?_;simp [inC,Nat.testBit];refine CLa d2 ?_;simp [AA,hz,inC,Nat.testBit];refine ⟨i+1,by omega,by omega,?_⟩;refine AI.mk hE (lk [(0,0),(1,1)]) _ _ _ ?_ ?_ ?_ ?_ ?_<;>simp [O8 hq,Xa,rSp]
   . have e:i=l.length:=by omega
     have hn:¬ (i:Int)<l.length:=by omega
     rw [e,List.take_length];simp [ANl,AA];apply RZ;simp [results190]
theorem J4 {x X y Y:Int} (hx:0<=x/\x<=X) (hy:0<=y/\y<=Y):0<=x*y/\x*y<=X*Y:=
 ⟨Int.mul_nonneg hx.1 hy.1,Int.mul_le_mul hx.2 hy.2 hy.1 (by omega)⟩
theorem J5 {a b:Int} (ha:0<=a):a.tdiv b=a/b:=Int.tdiv_eq_ediv_of_nonneg ha
theorem NJ {a b M:Int} (ha:0<=a/\a<=M) (hb:0<b):0<=a/b/\a/b<=M:=by
 refine ⟨Int.ediv_nonneg ha.1 (by omega),?_⟩;have:=Int.ediv_le_self b ha.1;omega
theorem O6 (x y c tl th:Int) (hx:0<=x/\x<=400000000) (hy:0<=y/\y<=400000000) (hc:0<c/\c<=2000) (ht:1500<=tl/\tl<=th/\th<=3500):Ct prog 46 [vsp x y,vi c,vsp tl th] (vsp (CY (1000000*tl) (341632*c) x) (C9 (1000000*th) (341632*c) y)) []:=by
 have hc1:=hc.1;have hm:max c (-c)=c:=by omega
 obtain ⟨A,hA⟩:∃ A,1000000*tl=A:=⟨_,rfl⟩
 obtain ⟨B,hB⟩:∃ B,1000000*th=B:=⟨_,rfl⟩
 obtain ⟨S,hS⟩:∃ S,341632*c=S:=⟨_,rfl⟩
 have w0:IntKind.wrap .i64 (-c)= -c:=AD (by omega) (by omega);have w1:IntKind.wrap .i64 S=S:=AD (by omega) (by omega);have w2:IntKind.wrap .i64 A=A:=AD (by omega) (by omega);have w3:IntKind.wrap .i64 B=B:=AD (by omega) (by omega);have w4:IntKind.wrap .i64 (A-S)=A-S:=AD (by omega) (by omega);have m1:=J4 (x:=x) (y:=A-S) (X:=400000000) (Y:=3500000000) hx (by omega);have m2:=J4 (x:=y) (y:=B) (X:=400000000) (Y:=3500000000) hy (by omega);have w5:IntKind.wrap .i64 (x*(A-S))=x*(A-S):=AD (by omega) (by omega);have w6:IntKind.wrap .i64 (y*B)=y*B:=AD (by omega) (by omega);have w7:IntKind.wrap .i64 (y*B+B)=y*B+B:=AD (by omega) (by omega);have w8:IntKind.wrap .i64 (y*B+B+S)=y*B+B+S:=AD (by omega) (by omega);have w9:IntKind.wrap .i64 (y*B+B+S-1)=y*B+B+S-1:=AD (by omega) (by omega);have w10:IntKind.wrap .i64 (B+S)=B+S:=AD (by omega) (by omega);have t1:(x*(A-S)).tdiv A=x*(A-S)/A:=J5 m1.1;have t2:(y*B+B+S-1).tdiv (B+S)=(y*B+B+S-1)/(B+S):=J5 (by omega);have d1:=NJ (a:=x*(A-S)) (b:=A) m1 (by omega);have d2:=NJ (a:=y*B+B+S-1) (b:=B+S) (M:=2000000000000000000) (by omega) (by omega);have w11:IntKind.wrap .i64 (x*(A-S)/A)=x*(A-S)/A:=AD (by omega) (by omega);have w12:IntKind.wrap .i64 ((y*B+B+S-1)/(B+S))=(y*B+B+S-1)/(B+S):=AD (by omega) (by omega);have z1:¬ A=0:=by omega
 have z2:¬ B+S=0:=by omega
 have e1:CY A S x=x*(A-S)/A:=rfl;have e2:C9 B S y=(y*B+B+S-1)/(B+S):=by unfold C9 cdv;rw [show y*B+(B+S)-1=y*B+B+S-1 by omega]
 refine CB func46 c46 fun E hE=>?_
 simp [p46,AA,inC,Nat.testBit,hc1,hm,hA,hB,hS,w0,w1,w2,w3,w4,w5,w6,w7,w8,w9,w10,w11,w12,t1,t2,z1,z2];apply RZ;simp [results46,e1,e2]
theorem ZY (x y c tl th:Int) (hx:0<=x/\x<=400000000) (hy:0<=y/\y<=400000000) (hc:0<c/\c<=2000) (ht:1500<=tl/\tl<=th/\th<=3500):Ct prog 46 [vsp x y,vi (-c),vsp tl th] (vsp (Cz (1000000*th) (341632*c) x) (Ec (1000000*tl) (341632*c) y)) []:=by
 have hc1:¬ c<0:=by omega
 have hm:max (-c) c=c:=by omega
 obtain ⟨A,hA⟩:∃ A,1000000*tl=A:=⟨_,rfl⟩
 obtain ⟨B,hB⟩:∃ B,1000000*th=B:=⟨_,rfl⟩
 obtain ⟨S,hS⟩:∃ S,341632*c=S:=⟨_,rfl⟩
 have w0:IntKind.wrap .i64 c=c:=AD (by omega) (by omega);have w1:IntKind.wrap .i64 S=S:=AD (by omega) (by omega);have w2:IntKind.wrap .i64 A=A:=AD (by omega) (by omega);have w3:IntKind.wrap .i64 B=B:=AD (by omega) (by omega);have w4:IntKind.wrap .i64 (B+S)=B+S:=AD (by omega) (by omega);have m1:=J4 (x:=x) (y:=B+S) (X:=400000000) (Y:=5000000000) hx (by omega);have m2:=J4 (x:=y) (y:=A) (X:=400000000) (Y:=3500000000) hy (by omega);have w5:IntKind.wrap .i64 (x*(B+S))=x*(B+S):=AD (by omega) (by omega);have w6:IntKind.wrap .i64 (y*A)=y*A:=AD (by omega) (by omega);have w7:IntKind.wrap .i64 (y*A+A)=y*A+A:=AD (by omega) (by omega);have w8:IntKind.wrap .i64 (y*A+A-S)=y*A+A-S:=AD (by omega) (by omega);have w9:IntKind.wrap .i64 (y*A+A-S-1)=y*A+A-S-1:=AD (by omega) (by omega);have w10:IntKind.wrap .i64 (A-S)=A-S:=AD (by omega) (by omega);have t1:(x*(B+S)).tdiv B=x*(B+S)/B:=J5 m1.1;have t2:(y*A+A-S-1).tdiv (A-S)=(y*A+A-S-1)/(A-S):=J5 (by omega);have d1:=NJ (a:=x*(B+S)) (b:=B) m1 (by omega);have d2:=NJ (a:=y*A+A-S-1) (b:=A-S) (M:=2000000000000000000) (by omega) (by omega);have w11:IntKind.wrap .i64 (x*(B+S)/B)=x*(B+S)/B:=AD (by omega) (by omega);have w12:IntKind.wrap .i64 ((y*A+A-S-1)/(A-S))=(y*A+A-S-1)/(A-S):=AD (by omega) (by omega);have z1:¬ B=0:=by omega
 have z2:¬ A-S=0:=by omega
 have e1:Cz B S x=x*(B+S)/B:=rfl;have e2:Ec A S y=(y*A+A-S-1)/(A-S):=by unfold Ec cdv;rw [show y*A+(A-S)-1=y*A+A-S-1 by omega]
 refine CB func46 c46 fun E hE=>?_
 simp [p46,AA,inC,Nat.testBit,hc1,hm,hA,hB,hS,w0,w1,w2,w3,w4,w5,w6,w7,w8,w9,w10,w11,w12,t1,t2,z1,z2];apply RZ;simp [results46,e1,e2]
def Vj (a b c d:Int):Nat->Int × Int
 | 0=>(a,b)
 | 1=>(a,b)
 | _=>(max a c,min b d)
theorem qF (a b c d:Int):Ct prog 36 [.d (An [(a,b),(c,d)])] (vsp (max a c) (min b d)) []:=by
 have ww1:IntKind.wrap .i64 1=1:=by decide
 have ww2:IntKind.wrap .i64 2=2:=by decide
 refine CB func36 c36 fun E hE=>?_
 simp [p36,AA];refine Al (α:=Nat) (fun k=>⟨AO [(2, .lp 0 0),(3, .lp 1 0),(9, .d (An [(a,b),(c,d)])),(10,vi 2),(11,vi k)],lk [(0,[vi 0,vi 0]),(1,[vi (Vj a b c d k).1,vi (Vj a b c d k).2])],2⟩) (fun k=>k<=2) (fun k=>2-k) 0 ?_ ?_ ?_
 . omega
 . skip
   refine AI.mk hE (lk [(0,0),(1,4194304)]) _ _ _ ?_ ?_ ?_ ?_ ?_<;>simp [Vj]
 . intro i hi
   match i,hi with
   | 0,_=>
     simp [AMk,AA,Vj];refine AL [(11,1)] (by kernel_rfl) ?_;simp [AA,inC,Nat.testBit,ww1];refine ⟨1,by omega,by omega,?_⟩;exact WK hE (lk [(0,0),(1,1)])
   | 1,_=>
     simp [AMk,AA,Vj];refine AL [(11,1)] (by kernel_rfl) ?_;simp [AA,inC,Nat.testBit,ww2];refine ⟨2,by omega,by omega,?_⟩;exact WK hE (lk [(0,0),(1,1)])
   | 2,_=>
     simp [AMk,AA,Vj];apply RZ;simp [results36]
   | i+3,hi=>omega
theorem O5 (k:List (Int × Int × Int)) (a b:Int):tmS k a b=tmS k b a:=by
 unfold tmS;rw [Int.min_comm,Int.max_comm]
abbrev thD (k:List (Int × Int × Int)):D:= .fn 96 [.ref [DA k]]
structure TmB (T:Tm) (a b:Int):Prop where
 p:1500<=(T a b).1/\(T a b).1<=(T a b).2/\(T a b).2<=3500
structure PrB (x:Lev):Prop where
 l:0<=x.pl/\x.pl<=400000000
 h:0<=x.ph/\x.ph<=400000000
theorem AQ {H:Hp} {id:Nat} {a b c d:Int} (h:H id=some [vi a,vi b,vi c,vi d]):Bor H (.ls id 0 2 2) (.d (An [(a,b),(c,d)])):=by
 rw [Bk];exact ⟨rfl,rfl,by simp,_,h,rfl⟩
theorem fb (l:List Lev) (k:List (Int × Int × Int)) (i j:Nat) (a b:Lev) (hk:k.length<=1000000) (_:l.length<=1000000) (ha:l[i]?= some a) (hb:l[j]?= some b) (hd:0<b.h-a.h/\b.h-a.h<=2000) (_: -500<=a.h/\a.h<=9000) (hp:PrB a) (hT:TmB (tmS k) a.h b.h):Cm prog 45 [vi j,vi i, .lp 0 0, .d (.ref [thD k])] (lk [(0,[.ls 1 0 l.length 5]),(1,AH A5 l)]) [0,1] (.ret (.tup [])) (lk [(0,[.ls 1 0 l.length 5]),(1,AH A5 (l.set j (mt b (cyu (tmS k) a b))))]):=by
 have c1:=pP k a.h b.h hk
 skip
 have c2:=O6 a.pl a.ph (b.h-a.h) (tmS k a.h b.h).1 (tmS k a.h b.h).2 hp.l hp.h hd hT.p;have c3:=qF b.pl b.ph (CY (1000000*(tmS k a.h b.h).1) (341632*(b.h-a.h)) a.pl) (C9 (1000000*(tmS k a.h b.h).2) (341632*(b.h-a.h)) a.ph);have w:IntKind.wrap .i64 (b.h-a.h)=b.h-a.h:=AD (by omega) (by omega);have hil:=(List.getElem?_eq_some_iff.1 ha).1;have hjl:=(List.getElem?_eq_some_iff.1 hb).1;have hI:(i:Int)<l.length:=by omega
 have hJ:(j:Int)<l.length:=by omega
 have e1:List.take 5 (List.drop (i*5) (AH A5 l))=[vi a.h,vi a.pl,vi a.ph,vi a.tl,vi a.th]:=J2 hfl ha;have e2:List.take 5 (List.drop (j*5) (AH A5 l))=[vi b.h,vi b.pl,vi b.ph,vi b.tl,vi b.th]:=J2 hfl hb;have f1:=IW hfl ha;have f2:=IW hfl hb;have f3:j*5+1+2<=l.length*5:=by omega
 have hsl:=Aw hfl l;have e3:AA (AH A5 l) (j*5+1) [vi (max b.pl (CY (1000000*(tmS k a.h b.h).1) (341632*(b.h-a.h)) a.pl)),vi (min b.ph (C9 (1000000*(tmS k a.h b.h).2) (341632*(b.h-a.h)) a.ph))]=AH A5 (l.set j (mt b (cyu (tmS k) a b))):=Cq hfl (vs:=[di (max b.pl (CY (1000000*(tmS k a.h b.h).1) (341632*(b.h-a.h)) a.pl)),di (min b.ph (C9 (1000000*(tmS k a.h b.h).2) (341632*(b.h-a.h)) a.ph))]) hb (by simp) rfl;refine CM 2 func45 c45 fun E hs hE=>?_
 simp [p45];refine AL [(10,8388610)] (by kernel_rfl) ?_;simp [AA,hI,hJ,e1,e2,hsl,f1,f2,inC,Nat.testBit];refine CLa c1 ?_;simp [inC,Nat.testBit,w];refine CLa c2 ?_;simp [AA,AM];refine CLb (c3) (by simp [AQ,inC,Nat.testBit]) ?_;simp [hJ,e3,hsl,f3];refine AB.by (lk [(0,0),(1,1)]) ?_;simp [results45]
theorem ZT (a b:Int): -(a-b)=b-a:=by omega
theorem fc (l:List Lev) (k:List (Int × Int × Int)) (i j:Nat) (a b:Lev) (hk:k.length<=1000000) (_:l.length<=1000000) (ha:l[i]?= some a) (hb:l[j]?= some b) (hd:0<a.h-b.h/\a.h-b.h<=2000) (_: -500<=a.h/\a.h<=9000) (hp:PrB a) (hT:TmB (tmS k) a.h b.h):Cm prog 45 [vi j,vi i, .lp 0 0, .d (.ref [thD k])] (lk [(0,[.ls 1 0 l.length 5]),(1,AH A5 l)]) [0,1] (.ret (.tup [])) (lk [(0,[.ls 1 0 l.length 5]),(1,AH A5 (l.set j (mt b (cyd (tmS k) b a))))]):=by
 have c1:=pP k a.h b.h hk;rw [O5 k a.h b.h] at c1;have c2:=(ZT a.h b.h) ▸ ZY a.pl a.ph (a.h-b.h) (tmS k b.h a.h).1 (tmS k b.h a.h).2 hp.l hp.h hd (O5 k b.h a.h ▸ hT.p);have c3:=qF b.pl b.ph (Cz (1000000*(tmS k b.h a.h).2) (341632*(a.h-b.h)) a.pl) (Ec (1000000*(tmS k b.h a.h).1) (341632*(a.h-b.h)) a.ph);have w:IntKind.wrap .i64 (b.h-a.h)=b.h-a.h:=AD (by omega) (by omega);have hil:=(List.getElem?_eq_some_iff.1 ha).1;have hjl:=(List.getElem?_eq_some_iff.1 hb).1;have hI:(i:Int)<l.length:=by omega
 have hJ:(j:Int)<l.length:=by omega
 have e1:List.take 5 (List.drop (i*5) (AH A5 l))=[vi a.h,vi a.pl,vi a.ph,vi a.tl,vi a.th]:=J2 hfl ha;have e2:List.take 5 (List.drop (j*5) (AH A5 l))=[vi b.h,vi b.pl,vi b.ph,vi b.tl,vi b.th]:=J2 hfl hb;have f1:=IW hfl ha;have f2:=IW hfl hb;have f3:j*5+1+2<=l.length*5:=by omega
 have hsl:=Aw hfl l;have e3:AA (AH A5 l) (j*5+1) [vi (max b.pl (Cz (1000000*(tmS k b.h a.h).2) (341632*(a.h-b.h)) a.pl)),vi (min b.ph (Ec (1000000*(tmS k b.h a.h).1) (341632*(a.h-b.h)) a.ph))]=AH A5 (l.set j (mt b (cyd (tmS k) b a))):=Cq hfl (vs:=[di (max b.pl (Cz (1000000*(tmS k b.h a.h).2) (341632*(a.h-b.h)) a.pl)),di (min b.ph (Ec (1000000*(tmS k b.h a.h).1) (341632*(a.h-b.h)) a.ph))]) hb (by simp) rfl;refine CM 2 func45 c45 fun E hs hE=>?_
 simp [p45];refine AL [(10,8388610)] (by kernel_rfl) ?_;simp [AA,hI,hJ,e1,e2,hsl,f1,f2,inC,Nat.testBit];refine CLa c1 ?_;simp [inC,Nat.testBit,w];refine CLa c2 ?_;simp [AA,AM];refine CLb (c3) (by simp [AQ,inC,Nat.testBit]) ?_;simp [hJ,e3,hsl,f3];refine AB.by (lk [(0,0),(1,1)]) ?_;simp [results45]
structure OkS (l:List Lev):Prop where
 len:2<=l.length/\l.length<=16
 lev:∀ x∈l,(1000<=x.pl/\x.pl<=x.ph/\x.ph<=12000)/\1500<=x.tl/\x.tl<=x.th/\x.th<=3500
 at':∀ x∈l, -500<=x.h/\x.h<=9000
 step:∀ (i:Nat) (x y:Lev),l[i]?= some x->l[i+1]?= some y->1<=y.h-x.h/\y.h-x.h<=2000
theorem B8 {l:List Lev}:GC l=true↔OkS l:=by
 unfold GC FG;simp only [Bool.and_eq_true,List.all_eq_true];constructor
 . rintro ⟨⟨h1,h2⟩,h3⟩
   have hs:∀ i,i<l.length->Dy l i=true:=fun i hi=>h1 i (by simp [hi])
   refine ⟨?_,?_,?_,?_⟩
   . simp [rgB] at h2;omega
   . intro x hx
     have:=h3 x hx;unfold Ij at this;rw [Bool.and_eq_true,CC,CC] at this;exact this
   . intro x hx
     obtain ⟨i,hi⟩:=List.getElem?_of_mem hx;have:=hs i (List.getElem?_eq_some_iff.1 hi).1;unfold Dy at this;rw [hi] at this;simp [rgB] at this;omega
   . intro i x y hx hy
     have:=hs (i+1) (List.getElem?_eq_some_iff.1 hy).1;unfold Dy at this;rw [hy] at this;simp [rgB,hx] at this;omega
 . rintro ⟨h1,h2,h3,h4⟩
   refine ⟨⟨?_,?_⟩,?_⟩
   . intro i hi
     have hi':i<l.length:=by simpa using hi
     obtain ⟨x,hx⟩:=gE hi';have b1:=h3 x (List.mem_of_getElem? hx);unfold Dy;rw [hx];by_cases h0:i=0
     . simp [rgB,h0];omega
     . obtain ⟨y,hy⟩:∃ y,l[i-1]?= some y:=⟨_,List.getElem?_eq_getElem (by omega)⟩
       have:=h4 (i-1) y x hy (by rw [show i-1+1=i by omega];exact hx);simp [rgB,h0,hy];omega
   . simp [rgB];omega
   . intro x hx
     unfold Ij;rw [Bool.and_eq_true,CC,CC];exact h2 x hx
theorem JA {l:List Lev} {i:Nat}:(knT l)[i]?= (l[i]?).map knOf:=by unfold knT;rw [List.getElem?_map]
theorem Dg {l:List Lev}:(knT l).length=l.length:=by unfold knT;simp
theorem NC {l:List Lev} (h:OkS l):Ck (knT l)=true:=by
 unfold Ck;have hl:=h.len;simp only [Bool.and_eq_true,decide_eq_true_eq,Dg];refine ⟨⟨by omega,by omega⟩,?_⟩;unfold DV;rw [List.all_eq_true];intro i hi;have hi':i<l.length:=by simpa using hi
 obtain ⟨x,hx⟩:=gE hi';have hxm:=List.mem_of_getElem? hx;have b1:=h.lev x hxm;have b2:=h.at' x hxm;have kx:(knT l)[i]?= some (knOf x):=by rw [JA,hx];rfl
 have ok:okK (knOf x)=true:=by
   rw [FE];unfold knOf;simp only;omega
 cases i with
 | zero=>rw [HZ kx,ok]
 | succ i=>
   obtain ⟨y,hy⟩:∃ y,l[i]?= some y:=⟨_,List.getElem?_eq_getElem (by omega)⟩
   have ky:(knT l)[i]?= some (knOf y):=by rw [JA,hy];rfl
   have:=h.step i y x hy hx;rw [FF kx ky,ok];unfold knOf;simp;omega
def E8 (l:List Lev) (x:Int):Prop:=(∀ k,l[0]?= some k->k.h<=x)/\∀ k,l[l.length-1]?= some k->x<=k.h
theorem AMi {l:List Lev} {x:Int} (h:E8 l x):inR (knT l) x:=by
 refine ⟨fun k hk=>?_,fun k hk=>?_⟩
 . rw [JA] at hk
   cases h0:l[0]? with
   | none=>rw [h0] at hk;cases hk
   | some y=>rw [h0] at hk;cases hk;exact h.1 y h0
 . rw [JA,Dg] at hk
   cases h0:l[l.length-1]? with
   | none=>rw [h0] at hk;cases hk
   | some y=>rw [h0] at hk;cases hk;exact h.2 y h0
theorem kc {l:List Lev} (h:OkS l) {a b:Int} (ha:E8 l a) (hb:E8 l b):tmS (knT l) a b=Fk (knT l) (min a b,max a b) (knT l).length:=by
 have hl:=h.len;obtain ⟨x,hx⟩:∃ x,l[0]?= some x:=⟨_,List.getElem?_eq_getElem (by omega)⟩
 obtain ⟨y,hy⟩:∃ y,l[l.length-1]?= some y:=⟨_,List.getElem?_eq_getElem (by omega)⟩
 have kx:(knT l)[0]?= some (knOf x):=by rw [JA,hx];rfl
 have ky:(knT l)[(knT l).length-1]?= some (knOf y):=by rw [JA,Dg,hy];rfl
 have b1:=h.at' x (List.mem_of_getElem? hx);have b2:=h.at' y (List.mem_of_getElem? hy);have q1:=ha.1 x hx;have q2:=ha.2 y hy;have q3:=hb.1 x hx;have q4:=hb.2 y hy;unfold tmS Jy;rw [if_pos (NC h),if_pos (CT.2 (by simp only;omega)),kx,ky];simp only;rw [if_neg (by unfold knOf;simp only;omega)]
theorem Q5 {l:List Lev} (h:OkS l):∀ k∈knT l,1500<=k.2.1/\k.2.1<=k.2.2/\k.2.2<=3500:=fun k hk=>by
 unfold knT at hk;obtain ⟨x,hx,rfl⟩:=List.mem_map.1 hk;have:=(h.lev x hx).2;unfold knOf;simp only;omega
theorem ABo {l:List Lev} {a b:Int} (ha:E8 l a) (hb:E8 l b):E8 l (min a b)/\E8 l (max a b):=by
 refine ⟨⟨fun k hk=>?_,fun k hk=>?_⟩,fun k hk=>?_,fun k hk=>?_⟩
 . have:=ha.1 k hk;have:=hb.1 k hk;omega
 . have:=ha.2 k hk;have:=hb.2 k hk;omega
 . have:=ha.1 k hk;have:=hb.1 k hk;omega
 . have:=ha.2 k hk;have:=hb.2 k hk;omega
theorem Oq {l:List Lev} (h:OkS l) {a b:Int} (ha:E8 l a) (hb:E8 l b):TmB (tmS (knT l)) a b:=by
 refine ⟨?_⟩;rw [kc h ha hb];have ⟨m1,m2⟩:=ABo ha hb;have n1:=Sn (NC h) (AMi m1) (Q5 h);have n2:=Sn (NC h) (AMi m2) (Q5 h);exact QE (l:=knT l) (x:=(min a b,max a b)) n1 n2 (Q5 h) (knT l).length (Nat.le_refl _)
end Go.Proofs.Tryz
namespace Go.Psl
variable {P:Program} {G:Gh} {W:World}
def Gh.cmp (G:Gh) (σ:Nat->Nat):Gh:=⟨fun i=>G.β (σ i),fun i=>G.bs (σ i),fun i=>G.ph (σ i),fun i=>G.lo (σ i),G.Im⟩
theorem kZ {σ:Nat->Nat} {v:V} {x:Value} (h:R0 G W (DR σ v) x):R0 (G.cmp σ) W v x:=by cases v<;>exact h
theorem IP {S S':V->Value->Prop} {r:V->V} (h:∀ v x,S (r v) x->S' v x) {cs:List V} {xs:List Value} (ha:AJ S (cs.map r) xs):AJ S' cs xs:=
 (AJ.map_left.1 ha).mono fun c _ x hx=>h c x hx
theorem Q4 {σ:Nat->Nat} {v:V} {x:Value} (h:R1 G W (DS σ v) x):R1 (G.cmp σ) W v x:=by
 cases v with
 | cl f caps=>obtain ⟨cv,hx,hc⟩:=h;exact ⟨cv,hx,IP (fun v x=>kZ) hc⟩
 | _=>exact h
theorem M9 {σ:Nat->Nat} {v:V} {x:Value} (h:R2 G W (HR σ v) x):R2 (G.cmp σ) W v x:=by
 cases v with
 | agg cs=>obtain ⟨cv,hx,hc⟩:=h;exact ⟨cv,hx,IP (fun v x=>Q4) hc⟩
 | cl f caps=>exact Q4 (v:= .cl f caps) h
 | _=>exact h
theorem ka {σ:Nat->Nat} {v:V} {x:Value} (h:RV G W (ren σ v) x):RV (G.cmp σ) W v x:=by
 cases v with
 | tup cs=>obtain ⟨cv,hx,hc⟩:=h;exact ⟨cv,hx,IP (fun v x=>M9) hc⟩
 | agg cs=>exact M9 (v:= .agg cs) h
 | cl f caps=>exact M9 (v:= .cl f caps) h
 | _=>exact h
theorem NA {σ:Nat->Nat} {v:V} (h:V.isCell (BJ σ v)=true):V.isCell v=true:=by
 cases v<;>first | rfl | (simp [BJ,DS,DR,V.isCell] at h;done)
theorem AKh {σ:Nat->Nat} {es:List (Value × Bool × List D)} {t:Nat} {v:V} (h:ren σ v=mq es t):v=mq es t:=by
 unfold mq at*;split at h
 . cases v with
   | agg cs=>
     simp only [ren,HR,V.agg.injEq] at h;congr 1;refine List.ext_getElem? fun i=>?_
     have:=congrArg (fun l=>l[i]?) h;simp only [List.getElem?_map] at this ⊢;cases hc:cs[i]? with
     | none=>rw [hc] at this;exact this
     | some c=>
       rw [hc] at this;rename_i e _;cases he:e.2.2[i]? with
       | none=>rw [he] at this;cases this
       | some x=>
         rw [he] at this;simp only [Option.map_some,Option.some.injEq] at this ⊢;cases c<;>simp [DS,DR] at this ⊢
         exact this
   | _=>simp [ren,HR,DS,DR] at h
 . cases v<;>simp [ren,HR,DS,DR] at h ⊢
theorem kb {σ:Nat->Nat} {i:Nat} {cs:List V} (h:HB G W (σ i) (cs.map (BJ σ))):HB (G.cmp σ) W i cs:=by
 rcases h with ⟨h1,h2⟩ | ⟨h1,h0,h2,c,T,h3,h4,h5,h6,h7⟩ | ⟨h1,h0,h2,⟨hz,fr,nt,ps,pa,pb,jmp,rec,h3,h4,h5⟩ | ⟨hz,es,ms,ck,h3,h4,h5⟩ | ⟨hz,bx,bp,bv,h3,h4,h5,h6,h7⟩⟩
 . exact .inl ⟨h1,List.map_eq_nil_iff.1 h2⟩
 . have hcell:∀ v∈cs,V.isCell v=true:=fun v hv=>NA (List.all_eq_true.1 h7 _ (List.mem_map.2 ⟨v,hv,rfl⟩))
   have hmap:cs.map (BJ σ)=cs.map (DS σ):=List.map_congr_left fun c hc=>L4 (hcell c hc)
   rw [hmap] at h5 h6;refine .inr (.inl ⟨h1,h0,h2,c,T,h3,h4,by simpa using h5,?_,List.all_eq_true.2 hcell⟩);rw [List.length_map] at h6;exact IP (fun v x=>Q4) h6
 . obtain ⟨c,rfl,hc⟩:∃ c,cs=[c]/\BJ σ c= .lr fr nt ps pa pb jmp:=by
     match cs,h3 with
     | [c],h3=>simp at h3;exact ⟨c,rfl,h3⟩
     | [],h3=>simp at h3
     | _::_::_,h3=>simp at h3
   cases c with
   | lr fr0 nt0 ps0 pa0 pb0 jmp0=>
     simp only [BJ,V.lr.injEq] at hc;obtain ⟨rfl,rfl,rfl,rfl,rfl,rfl⟩:=hc;obtain ⟨q1,q2,q3,q4,q5,q6⟩:=h5;exact .inr (.inr ⟨h1,h0,h2, .inl ⟨hz,fr0,_,_,_,_,_,rec,rfl,h4,q1,q2,q3,q4,fun t=>ka (q5 t),q6⟩⟩)
   | _=>simp [BJ,DS,DR] at hc
 . refine .inr (.inr ⟨h1,h0,h2, .inr (.inl ⟨hz,es,ms,ck,?_,h4,h5⟩)⟩)
   match cs,h3 with
   | [c,d],h3=>
     simp only [List.map_cons,List.map_nil,Qo,List.cons.injEq,and_true] at h3;obtain ⟨e1,e2⟩:=h3
     have d1:d= .d (.lit (.bool true)):=by
       cases d<;>simp [BJ,DS,DR] at e2 ⊢
       exact e2
     have c1:c=ACA es:=by
       cases c with
       | lr fr nt ps pa pb jmp=>
         simp only [BJ,ACA,V.lr.injEq] at e1;obtain ⟨e0,rfl,rfl,rfl,rfl,rfl⟩:=e1;unfold ACA;congr 1
         funext t
         have:=congrFun e0 t;exact AKh this
       | _=>simp [BJ,DS,DR,ACA] at e1
     rw [c1,d1];rfl
   | [],h3=>simp [Qo] at h3
   | [_],h3=>simp [Qo] at h3
   | _::_::_::_,h3=>simp [Qo] at h3
 . match cs,h3 with
   | [c,d],h3=>
     simp only [List.map_cons,List.map_nil,List.cons.injEq,and_true] at h3;obtain ⟨e1,e2⟩:=h3
     have d1:d= .d (.lit bp.m):=by
       cases d<;>simp [BJ,DS,DR] at e2 ⊢
       exact e2
     subst e1;have hc:=NA h7;rw [L4 hc] at h6;rw [d1];exact .inr (.inr ⟨h1,h0,h2, .inr (.inr ⟨hz,c,bp,bv,rfl,h4,h5,Q4 h6,hc⟩)⟩)
   | [],h3=>simp at h3
   | [_],h3=>simp at h3
   | _::_::_::_,h3=>simp at h3
def Ea (σ:Nat->Nat) (L:List (Nat × List V)):List (Nat × List V):=L.map fun p=>(σ p.1,p.2.map (BJ σ))
theorem Kt {σ:Nat->Nat} {K:Nat} (hinj:∀ i j,i<K->j<K->σ i=σ j->i=j):∀ {L:List (Nat × List V)} {i:Nat},BW K L->i<K->lk (Ea σ L) (σ i)=(lk L i).map (·.map (BJ σ))
 | [],_,_,_=>rfl
 | p::r,i,hL,hi=>by
   simp only [Ea,List.map_cons,lk];by_cases h:i=p.1
   . subst h;simp
   . rw [if_neg h,if_neg (fun e=>h (hinj _ _ hi hL.1 e))]
     exact Kt hinj hL.2 hi
theorem E7 {σ:Nat->Nat} {K:Nat} (hinj:∀ i j,i<K->j<K->σ i=σ j->i=j) {L:List (Nat × List V)} {j:Nat} {cs':List V} (hL:BW K L) (h:lk (Ea σ L) j=some cs'):∃ i cs,i<K/\j=σ i/\lk L i=some cs/\cs'=cs.map (BJ σ):=by
 have hm:=B4 h;simp only [Ea,List.mem_map] at hm;obtain ⟨p,hp,e⟩:=hm
 have hlt:p.1<K:=by
   have:∀ {L:List (Nat × List V)},BW K L->p∈L->p.1<K:=by
     intro L;induction L with
     | nil=>intro _ h;cases h
     | cons q r ih=>
       intro h h2;rcases List.mem_cons.1 h2 with rfl | h2
       . exact h.1
       . exact ih h.2 h2
   exact this hL hp
 have hj:j=σ p.1:=by cases e;rfl
 rw [hj,Kt hinj hL hlt,Option.map_eq_some_iff] at h;obtain ⟨cs,h1,h2⟩:=h;exact ⟨p.1,cs,hlt,hj,h1,h2.symm⟩
theorem Cm.rename (σ:Nat->Nat) (K:Nat) (hinj:∀ i j,i<K->j<K->σ i=σ j->i=j) {f:FuncId} {args:List V} {L:List (Nat × List V)} {ks:List Nat} {res:Res} {L1:List (Nat × List V)} (h:Cm P f args (lk L) ks res (lk L1)) (hL:BW K L) (hL1:BW K L1) (hks:∀ i∈ks,i<K):
   Cm P f (args.map (HR σ)) (lk (Ea σ L)) (ks.map σ) (HW σ res) (lk (Ea σ L1)):=by
 refine ⟨h.1,fun G W xs hGW hargs hpre=>?_⟩;have hIn:∀ i,i<K->(InH (lk (Ea σ L)) (σ i)↔InH (lk L) i):=fun i hi=>by unfold InH;rw [Kt hinj hL hi];simp
 have hIn1:∀ i,i<K->(InH (lk (Ea σ L1)) (σ i)↔InH (lk L1) i):=fun i hi=>by unfold InH;rw [Kt hinj hL1 hi];simp
 have hlent:∀ b,Bm (G.cmp σ) (lk L) b->Bm G (lk (Ea σ L)) b:=fun b ⟨i,hi,hp,he⟩=>⟨σ i,(hIn i (Fq hL hi)).2 hi,hp,he⟩
 have hlent':∀ b,Bm G (lk (Ea σ L)) b->Bm (G.cmp σ) (lk L) b:=fun b ⟨j,hj,hp,he⟩=>by
   obtain ⟨cs',hcs⟩:=Option.isSome_iff_exists.1 hj;obtain ⟨i,cs,hi,rfl,h1,_⟩:=E7 hinj hL hcs;exact ⟨i,by unfold InH;rw [h1];rfl,hp,he⟩
 have hpre':ANh (G.cmp σ) W (lk L) ks:=by
   refine ⟨fun i cs hi=>kb (hpre.hb (σ i) _ ?_),fun i j hi hj hpi hpj he=>?_,fun i hi=>?_⟩
   . rw [Kt hinj hL (Fq hL (by unfold InH;rw [hi];rfl)),hi];rfl
   . have li:=Fq hL hi;have lj:=Fq hL hj
     exact hinj i j li lj (hpre.inj _ _ ((hIn i li).2 hi) ((hIn j lj).2 hj) hpi hpj he)
   . obtain ⟨h1,h2⟩:=hpre.st (σ i) (List.mem_map.2 ⟨i,hi,rfl⟩)
     exact ⟨(hIn i (hks i hi)).1 h1,h2⟩
 refine (h.2 (G.cmp σ) W xs hGW (IP (fun v x=>M9) hargs) hpre').mono fun e W' ⟨G1,hp⟩=>?_
 obtain ⟨τ,hτ⟩:∃ τ:Nat->Nat,∀ i,i<K->τ (σ i)=i:=by
   refine ⟨fun j=>if hj:∃ i,i<K/\σ i=j then hj.choose else 0,fun i hi=>?_⟩;have hj:∃ i',i' < K/\σ i'=σ i:=⟨i,hi,rfl⟩
   simp only [dif_pos hj];exact hinj _ _ hj.choose_spec.1 hi hj.choose_spec.2
 have hint:De (InH (lk L1)) AR σ G1 W' (G1.cmp τ) W':=⟨fun i hi=>by
   have:=hτ i (Fq hL1 hi);simp only [Gh.cmp,this,and_self],fun _ _ _ h=>h⟩
 refine ⟨G1.cmp τ,⟨hp.os,hp.tape,hp.output,hp.drawn,hp.size,fun b hb hl=>hp.block b hb (fun h=>hl (hlent b h)),fun b hb=>?_,fun b hb=>hp.im0 b hb,HV.into hint hp.wf hp.rv,?_,?_,?_,?_⟩⟩
 . obtain ⟨h1,h2⟩:=hp.im b hb
   exact ⟨h1,h2.imp id (Or.imp id (hlent b))⟩
 . cases res with
   | ret r=>exact AV.ren (fun i hi=>(hIn1 i (Fq hL1 hi)).2 hi) hp.wf
   | pan r=>exact AV.ren (fun i hi=>(hIn1 i (Fq hL1 hi)).2 hi) hp.wf
 . intro j cs' hj
   obtain ⟨i,cs,hi,rfl,h1,rfl⟩:=E7 hinj hL1 hj;have hin:InH (lk L1) i:=by unfold InH;rw [h1];rfl
   obtain ⟨q1,q2,q3⟩:=hp.hb i cs h1;refine ⟨hint.hb hin q3 q1 (fun hph=>q1.nim hph),fun hph=>?_,fun c hc=>?_⟩
   . simp only [Gh.cmp,hτ i hi] at hph ⊢
     exact (q2 hph).imp id (hlent _)
   . obtain ⟨c0,hc0,rfl⟩:=List.mem_map.1 hc
     exact AC.ren (fun i hi=>(hIn1 i (Fq hL1 hi)).2 hi) (q3 c0 hc0)
 . intro j j' hj hj' hpj hpj' he
   obtain ⟨x,hx⟩:=Option.isSome_iff_exists.1 hj;obtain ⟨y,hy⟩:=Option.isSome_iff_exists.1 hj';obtain ⟨i,cs,hi,rfl,h1,_⟩:=E7 hinj hL1 hx;obtain ⟨i',cs',hi',rfl,h1',_⟩:=E7 hinj hL1 hy;simp only [Gh.cmp,hτ i hi,hτ i' hi'] at hpj hpj' he;rw [hp.inj i i' (by unfold InH;rw [h1];rfl) (by unfold InH;rw [h1'];rfl) hpj hpj' he]
 . intro j hj hin
   obtain ⟨i,hi,rfl⟩:=List.mem_map.1 hj;have:=hp.st i hi ((hIn1 i (hks i hi)).1 hin);simp only [Gh.cmp,hτ i (hks i hi)] at this ⊢;exact this
theorem NB {ks:List Nat} {L1:List (Nat × List V)} (hi:∀ p∈L1,p.1∈ks\/p.1<1048576) {i:Nat} (h:InH (lk L1) i) (hn:i ∉ ks):i<1048576:=by
 obtain ⟨x,hx⟩:=Option.isSome_iff_exists.1 h;rcases hi _ (B4 hx) with h | h
 . exact absurd h hn
 . exact h
theorem AU.mkR {H:Hp} {b:Nat} {g:FuncId} {az:List V} {Kc Kx:V->Hp->Prop} (args:List V) (L:List (Nat × List V)) (ks:List Nat) (res:Res) (L1:List (Nat × List V)) (hf:Cm P g args (lk L) ks res (lk L1)) (hin:Fr H L) (hi:∀ p∈L1,p.1∈ks\/p.1<1048576) (hks:Jq b L L1 ks) (hL:∀ p∈L,p.1<b)
   (hb:AJ (Bor noH) az args\/(AJ (Bor (E0 H L)) az args/\AV (InH (lk L1)) B9 res.v/\Em (InH (lk L1)) L1)) (hk:ES res (sg ks b) (I2 (E0 H L) ks b L1) Kc Kx):AU P none H H b g az Kc Kx:=by
 have hL':∀ i,InH (lk L) i->i<b:=fun i h=>by
   obtain ⟨x,hx⟩:=Option.isSome_iff_exists.1 h;exact hL _ (B4 hx)
 refine ⟨args,lk L,ks,res,lk L1,_,⟨hf,hin.at,fun i h hn=>NB hi h hn,fun i h=>(hks.at i h).2.2,hb.imp id fun h=>⟨?_,E6 h.2.1 h.2.2⟩⟩,trivial,(E1 H ks b L L1 hks hL').symm,hk⟩;have:EE H (lk L)=E0 H L:=by funext i;rw [H7];rfl
 rw [this];exact h.1
def wrL (ws:List (Nat × Nat)) (k b:Nat) (ks:List Nat) (L1:List (Nat × List V)):List (Nat × List V)->Prop
 | []=>True
 | p::r=>((k,p.1)∈ws\/(p.1∈ks/\(lk L1 p.1).map (·.map (BJ (sg ks b)))=some p.2))/\wrL ws k b ks L1 r
theorem wrL.at {ws:List (Nat × Nat)} {k b:Nat} {ks:List Nat} {L1:List (Nat × List V)}:∀ {L:List (Nat × List V)},wrL ws k b ks L1 L->∀ i cs,lk L i=some cs->(k,i)∈ws\/(i∈ks/\(lk L1 i).map (·.map (BJ (sg ks b)))=some cs)
 | [],_,i,cs,h=>by simp [lk] at h
 | p::r,hw,i,cs,h=>by
   simp only [lk] at h;split at h
   . rename_i e;cases h;rw [e];exact hw.1
   . exact hw.2.at i cs h
theorem AU.mkD {ws:List (Nat × Nat)} {k:Nat} {Hr H:Hp} {b:Nat} {g:FuncId} {az:List V} {Kc Kx:V->Hp->Prop} (args:List V) (L:List (Nat × List V)) (ks:List Nat) (res:Res) (L1:List (Nat × List V)) (hf:Cm P g args (lk L) ks res (lk L1)) (hin:Fr Hr L) (hi:∀ p∈L1,p.1∈ks\/p.1<1048576) (hks:Jq b L L1 ks) (hL:∀ p∈L,p.1<b)
   (hb:AJ (Bor noH) az args\/(AJ (Bor (E0 Hr L)) az args/\AV (InH (lk L1)) B9 res.v/\Em (InH (lk L1)) L1)) (hw:∀ r,res= .ret r->wrL ws k b ks L1 L) (hp:∀ r,res= .pan r->∃ D,r= .d D) (hk:ES res (sg ks b) (I2 (E0 H L) ks b L1) Kc Kx):AU P (some (ws,k)) Hr H b g az Kc Kx:=by
 have hL':∀ i,InH (lk L) i->i<b:=fun i h=>by
   obtain ⟨x,hx⟩:=Option.isSome_iff_exists.1 h;exact hL _ (B4 hx)
 refine ⟨args,lk L,ks,res,lk L1,_,⟨hf,hin.at,fun i h hn=>NB hi h hn,fun i h=>(hks.at i h).2.2,hb.imp id fun h=>⟨?_,E6 h.2.1 h.2.2⟩⟩,⟨fun r hr i hc=>?_,hp⟩,(E1 H ks b L L1 hks hL').symm,hk⟩
 . have:EE Hr (lk L)=E0 Hr L:=by funext i;rw [H7];rfl
   rw [this];exact h.1
 . rcases hc with ⟨h1,h2⟩ | ⟨h1,h2⟩
   . obtain ⟨_,_,h3⟩:=hks.at i h1
     obtain ⟨cs,hcs,_⟩:=h3;rcases (hw r hr).at i cs hcs with h | ⟨_,h⟩
     . exact h
     . exact absurd (h.trans hcs.symm) h2
   . obtain ⟨cs,hcs⟩:=Option.isSome_iff_exists.1 h2
     rcases (hw r hr).at i cs hcs with h | ⟨h,_⟩
     . exact h
     . exact absurd h h1
section
variable {P:Program} {Hr H:Hp} {b:Nat} {g:FuncId} {az:List V} {Kc Kx:V->Hp->Prop} {args:List V} {L:List (Nat × List V)} {ks:List Nat} {res:Res} {L1:List (Nat × List V)}
theorem CRs (hf:Cm P g args (lk L) ks res (lk L1)) (h:Fr H L/\(∀ p∈L1,p.1∈ks\/p.1<1048576)/\Jq b L L1 ks/\(∀ p∈L,p.1<b)/\(AJ (Bor noH) az args\/(AJ (Bor (E0 H L)) az args/\AV (InH (lk L1)) B9 res.v/\Em (InH (lk L1)) L1))) (hk:ES res (sg ks b) (I2 (E0 H L) ks b L1) Kc Kx):AU P none H H b g az Kc Kx:=
 AU.mkR args L ks res L1 hf h.1 h.2.1 h.2.2.1 h.2.2.2.1 h.2.2.2.2 hk
theorem CDs {ws:List (Nat × Nat)} {k:Nat} (hf:Cm P g args (lk L) ks res (lk L1)) (h:(Fr Hr L/\(∀ p∈L1,p.1∈ks\/p.1<1048576)/\Jq b L L1 ks/\(∀ p∈L,p.1<b)/\(AJ (Bor noH) az args\/(AJ (Bor (E0 Hr L)) az args/\AV (InH (lk L1)) B9 res.v/\Em (InH (lk L1)) L1)))/\match res with | .ret _=>wrL ws k b ks L1 L | .pan r=>∃ D,r= .d D) (hk:ES res (sg ks b) (I2 (E0 H L) ks b L1) Kc Kx):AU P (some (ws,k)) Hr H b g az Kc Kx:=
 AU.mkD args L ks res L1 hf h.1.1 h.1.2.1 h.1.2.2.1 h.1.2.2.2.1 h.1.2.2.2.2 (fun _ e=>by have:=h.2;subst e;exact this) (fun _ e=>by have:=h.2;subst e;exact this) hk
end
end Go.Psl
namespace Go.Proofs.Tryz
open Go.Psl
open Go.Air
def StU (k:List (Int × Int × Int)) (n:Nat) (S:Nat->List Lev):Prop:=∀ i,i+1<n->∃ a b,(S i)[i]?= some a/\(S i)[i+1]?= some b/\(0<b.h-a.h/\b.h-a.h<=2000)/\(-500<=a.h/\a.h<=9000)/\PrB a/\TmB (tmS k) a.h b.h/\S (i+1)=(S i).set (i+1) (mt b (cyu (tmS k) a b))
def StD (k:List (Int × Int × Int)) (n:Nat) (S:Nat->List Lev):Prop:=∀ i,i+1<n->∃ a b,(S (i+1))[i+1]?= some a/\(S (i+1))[i]?= some b/\(0<a.h-b.h/\a.h-b.h<=2000)/\(-500<=a.h/\a.h<=9000)/\PrB a/\TmB (tmS k) a.h b.h/\S i=(S (i+1)).set i (mt b (cyd (tmS k) b a))
theorem KD {l:List Lev} {p:Nat->Prop}:(∀ c,c∈AH A5 l->AC p B9 c)=True:=eq_true (Ou fun x y hy=>by
 simp only [List.mem_cons,List.not_mem_nil,or_false] at hy;rcases hy with rfl | rfl | rfl | rfl | rfl<;>exact ⟨_,rfl⟩)
theorem Tz {l:List Lev} (h:l.length≠0):AH A5 l≠[]:=fun h2=>by
 have:=congrArg List.length h2;rw [Aw hfl] at this;simp only [List.length_nil] at this;omega
theorem MX (k:List (Int × Int × Int)) (W:List Lev) (n:Nat) (S:Nat->List Lev) (hk:k.length<=1000000) (hn:2<=n/\n<=1000000) (hlen:∀ i,(S i).length=n) (hS:StU k n S) {E:Ent} (hE:∀ i,¬ E.stab i) {Q:Av->St->Prop}:∀ i:Nat,i<=n-1->PW prog tys eqs E AN5
   (DP (fun st'=>∃ j,j<=n-1/\n-1-j<n-1-i/\AI prog E st' ⟨AO [(6, .lp 0 0),(8, .cl 45 [.lp 0 0, .lp 2 0]),(9, .ls 3 0 n 5),(31,vi ((n:Int)-1)),(32,vi j)],lk [(0,[.ls 1 0 n 5]),(2,[.d (thD k)]),(3,AH A5 W),(1,AH A5 (S j))],4⟩)
     (exC prog E Q 2 (fun _:Unit=>⟨AO [(6, .lp 0 0),(8, .cl 45 [.lp 0 0, .lp 2 0]),(9, .ls 3 0 n 5)],lk [(0,[.ls 1 0 n 5]),(2,[.d (thD k)]),(3,AH A5 W),(1,AH A5 (S (n-1)))],4⟩) (fun _=>True)))
   ⟨AO [(6, .lp 0 0),(8, .cl 45 [.lp 0 0, .lp 2 0]),(9, .ls 3 0 n 5),(31,vi ((n:Int)-1)),(32,vi i)],lk [(0,[.ls 1 0 n 5]),(2,[.d (thD k)]),(3,AH A5 W),(1,AH A5 (S i))],4⟩:=by
 intro i hi;by_cases h:i+1<n
 . obtain ⟨a,b,ha,hb,h1,h2,h3,h4,h5⟩:=hS i h
   have c:=fb (S i) k i (i+1) a b hk (by rw [hlen];omega) ha hb h1 h2 h3 h4;have n1:=Tz (l:=S i) (by rw [hlen];omega);rw [<-h5,hlen] at c;have hz:=@wz i (by omega);have hI:(i:Int)<(n:Int)-1:=by omega
   simp [AN5,hI,hz];have hcast:((i+1:Nat):Int)=(i:Int)+1:=by omega
   rw [hcast] at c;refine CRs c (by simp [n1,KD]) ?_;simp [hz];refine ⟨i+1,by omega,by omega,?_⟩;exact WK hE (lk [(0,0),(1,1),(2,2),(3,3)])
 . have e:i=n-1:=by omega
   subst e;have hI:¬ ((n-1:Nat):Int)<(n:Int)-1:=by omega
   simp [AN5,hI];exact WK hE (lk [(0,0),(1,1),(2,2),(3,3)])
theorem MY (k:List (Int × Int × Int)) (W:List Lev) (n:Nat) (S:Nat->List Lev) (hk:k.length<=1000000) (hn:2<=n/\n<=1000000) (hlen:∀ i,(S i).length=n) (hS:StD k n S) {E:Ent} (hE:∀ i,¬ E.stab i) {Q:Av->St->Prop}:∀ i:Nat,i<=n-1->PW prog tys eqs E AN6
   (DP (fun st'=>∃ j,j<=n-1/\j<i/\AI prog E st' ⟨AO [(6, .lp 0 0),(8, .cl 45 [.lp 0 0, .lp 2 0]),(9, .ls 3 0 n 5),(11,vi j)],lk [(0,[.ls 1 0 n 5]),(2,[.d (thD k)]),(3,AH A5 W),(1,AH A5 (S j))],4⟩)
     (exC prog E Q 4 (fun _:Unit=>⟨AO [(6, .lp 0 0),(8, .cl 45 [.lp 0 0, .lp 2 0]),(9, .ls 3 0 n 5)],lk [(0,[.ls 1 0 n 5]),(2,[.d (thD k)]),(3,AH A5 W),(1,AH A5 (S 0))],4⟩) (fun _=>True)))
   ⟨AO [(6, .lp 0 0),(8, .cl 45 [.lp 0 0, .lp 2 0]),(9, .ls 3 0 n 5),(11,vi i)],lk [(0,[.ls 1 0 n 5]),(2,[.d (thD k)]),(3,AH A5 W),(1,AH A5 (S i))],4⟩:=by
 intro i hi;by_cases h:0<i
 . obtain ⟨j,rfl⟩:∃ j,i=j+1:=⟨i-1,by omega⟩
   obtain ⟨a,b,ha,hb,h1,h2,h3,h4,h5⟩:=hS j (by omega);have c:=fc (S (j+1)) k (j+1) j a b hk (by rw [hlen];omega) ha hb h1 h2 h3 h4;have n1:=Tz (l:=S (j+1)) (by rw [hlen];omega);rw [<-h5,hlen] at c;have hz:IntKind.wrap .i64 (((j+1:Nat):Int)-1)=(j:Int):=by rw [AD (by omega) (by omega)];omega
   have hz2:IntKind.wrap .i64 (j:Int)=(j:Int):=AD (by omega) (by omega);have hI:(0:Int)<(j:Int)+1:=by omega
   have hcast:((j+1:Nat):Int)=(j:Int)+1:=by omega
   rw [hcast] at c;simp [AN6,hI,hz2];refine CRs c (by simp [n1,KD]) ?_;simp [hz2];refine ⟨j,by omega,by omega,?_⟩;exact WK hE (lk [(0,0),(1,1),(2,2),(3,3)])
 . have e:i=0:=by omega
   subst e;simp [AN6];exact WK hE (lk [(0,0),(1,1),(2,2),(3,3)])
def upK (T:Tm):Nat->List Lev->List Lev
 | 0,l=>l
 | i+1,a::b::r=>a::upK T i (mt b (cyu T a b)::r)
 | _+1,l=>l
theorem Oi {a b:Lev} (h:Le a b) (r:List Lev):LeL (a::r) (b::r):=⟨h,LeL.refl r⟩
theorem M3 (T:Tm):∀ (i:Nat) (l:List Lev),LeL l (upK T i l)
 | 0,l=>LeL.refl l
 | _+1,[]=>trivial
 | _+1,[a]=>⟨Le.refl a,trivial⟩
 | i+1,a::b::r=>⟨Le.refl a,LeL.trans (Oi (MI b _) r) (M3 T i _)⟩
theorem Oj (T:Tm):∀ (i:Nat) (l:List Lev) (a b:Lev),(upK T i l)[i]?= some a->(upK T i l)[i+1]?= some b->upK T (i+1) l=(upK T i l).set (i+1) (mt b (cyu T a b))
 | 0,[],_,_,h,_=>by simp [upK] at h
 | 0,[x],_,_,_,h=>by simp [upK] at h
 | 0,x::y::r,a,b,ha,hb=>by
   simp [upK] at ha hb;subst ha hb;rfl
 | i+1,[],_,_,h,_=>by simp [upK] at h
 | i+1,[x],_,_,_,h=>by simp [upK] at h
 | i+1,x::y::r,a,b,ha,hb=>by
   have h1:upK T (i+1) (x::y::r)=x::upK T i (mt y (cyu T x y)::r):=rfl;have h2:upK T (i+1+1) (x::y::r)=x::upK T (i+1) (mt y (cyu T x y)::r):=rfl;rw [h1] at ha hb;rw [h1,h2,List.set_cons_succ];rw [Oj T i _ a b (by simpa using ha) (by simpa using hb)]
theorem Jz (T:Tm):∀ (i:Nat) (l:List Lev),l.length<=i+1->upK T i l=Jv T l
 | 0,[],_=>rfl
 | 0,[a],_=>rfl
 | 0,_::_::_,h=>by simp at h
 | i+1,[],_=>rfl
 | i+1,[a],_=>rfl
 | i+1,a::b::r,h=>by
   show a::upK T i (mt b (cyu T a b)::r)=a::mt b (cyu T a b)::upL T (mt b (cyu T a b)) r
   rw [Jz T i _ (by simpa using h)];rfl
def Pb (M:Int) (x:Lev):Prop:=(0<=x.pl/\x.pl<=M)/\0<=x.ph/\x.ph<=12000
theorem Pb.up {T:Tm} {M:Int} {a b:Lev} (hk:LkP T a b) (ha:Pb M a) (hb:Pb M b):Pb M (mt b (cyu T a b)):=by
 have h1:=Tn (c:=lc T a b) (s:=ls a b) (x:=a.pl) (by have:=hk.s0;have:=hk.sc;omega) (by have:=hk.s0;omega) ha.1.1;have h2:=Lk.pos3 hk (x:=a.ph) ha.2.1;have h3:=ha.1;have h4:=hb.1;have h5:=hb.2;unfold Pb Air.mt cyu;simp only;omega
theorem AUm {w s x:Int} (hw:0<w) (hs:s<=w) (hx:0<=x):Cz w s x<=2*x:=by
 unfold Cz
 have h1:x*(w+s)<=2*x*w:=by
   have:x*(w+s)<=x*(w+w):=Int.mul_le_mul_of_nonneg_left (by omega) hx;have e:x*(w+w)=2*x*w:=by grind
   omega
 have h2:=Int.ediv_le_ediv hw h1;rw [Int.mul_ediv_cancel _ (by omega)] at h2;exact h2
theorem Pb.dn {T:Tm} {M N:Int} {a b:Lev} (hk:LkP T a b) (ha:Pb N a) (hb:Pb M b) (hM:N<=2*M):Pb (2*M) (mt a (cyd T a b)):=by
 have q1:=hk.s0;have q2:=hk.sc;have q3:=hk.cw;have h1:=AUm (w:=lw T a b) (s:=ls a b) (x:=b.pl) (by omega) (by omega) hb.1.1;have h2:=Lk.pos2 hk (x:=b.ph) hb.2.1;have h3:=ha.1;have h4:=hb.1;have h5:=ha.2;unfold Pb Air.mt cyd;simp only;omega
theorem ANJ {T:Tm} {M:Int}:∀ (i:Nat) (l:List Lev),Lks T l->(∀ x∈l,Pb M x)->∀ x∈upK T i l,Pb M x
 | 0,l,_,h,x,hx=>h x hx
 | i+1,[],_,h,x,hx=>h x hx
 | i+1,[a],_,h,x,hx=>h x hx
 | i+1,a::b::r,hk,h,x,hx=>by
   have hx':x=a\/x∈upK T i (mt b (cyu T a b)::r):=by simpa [upK] using hx
   rcases hx' with rfl | hx'
   . exact h _ (by simp)
   . refine ANJ i _ (Lks.le (Oi (MI b _) r) hk.2) ?_ x hx'
     intro y hy;rcases List.mem_cons.1 hy with rfl | hy
     . exact Pb.up hk.1 (h a (by simp)) (h b (by simp))
     . exact h y (by simp [hy])
def dnK (T:Tm):Nat->List Lev->List Lev
 | 0,l=>dnS T l
 | i+1,a::r=>a::dnK T i r
 | _+1,[]=>[]
theorem M4 (T:Tm):∀ (i:Nat) (l:List Lev),LeL l (dnK T i l)
 | 0,l=>JE l
 | _+1,[]=>trivial
 | i+1,a::r=>⟨Le.refl a,M4 T i r⟩
theorem sE (T:Tm):∀ (i:Nat) (l:List Lev),l.length<=i+1->dnK T i l=l
 | 0,[],_=>rfl
 | 0,[a],_=>rfl
 | 0,_::_::_,h=>by simp at h
 | i+1,[],_=>rfl
 | i+1,a::r,h=>by
   show a::dnK T i r=a::r
   rw [sE T i r (by simpa using h)]
theorem Ok (T:Tm):∀ (j:Nat) (l:List Lev) (a b:Lev),(dnK T (j+1) l)[j+1]?= some a->(dnK T (j+1) l)[j]?= some b->dnK T j l=(dnK T (j+1) l).set j (mt b (cyd T b a))
 | 0,[],_,_,h,_=>by simp [dnK] at h
 | 0,x::r,a,b,ha,hb=>by
   have h1:dnK T 1 (x::r)=x::dnS T r:=rfl;rw [h1] at ha hb ⊢;have hbx:x=b:=by simpa using hb
   subst hbx;have ha':(dnS T r)[0]?= some a:=by simpa using ha
   cases hd:dnS T r with
   | nil=>rw [hd] at ha';cases ha'
   | cons y s=>
     rw [hd] at ha';cases ha'
     show dnC T x (dnS T r)=_
     rw [hd];rfl
 | j+1,[],_,_,h,_=>by simp [dnK] at h
 | j+1,x::r,a,b,ha,hb=>by
   have h1:dnK T (j+1+1) (x::r)=x::dnK T (j+1) r:=rfl;rw [h1] at ha hb ⊢
   show x::dnK T j r=_
   rw [List.set_cons_succ,<-Ok T j r a b (by simpa using ha) (by simpa using hb)]
theorem AUn {T:Tm} {M:Int} (hM:0<=M):∀ (l:List Lev) (n:Nat),l.length<=n+1->Lks T l->(∀ x∈l,Pb M x)->∀ x∈dnS T l,Pb (M*2^n) x
 | [],_,_,_,_,x,hx=>by simp [dnS] at hx
 | [a],n,_,_,h,x,hx=>by
   have e:x=a:=by simpa [dnS,dnC] using hx
   subst e;have:=h x (by simp)
   have p:(1:Int)<=2^n:=by
     have:=Nat.one_le_two_pow (n:=n)
     exact_mod_cast this
   have q:M*1<=M*2^n:=Int.mul_le_mul_of_nonneg_left p hM;have h1:=this.1;have h2:=this.2;unfold Pb;omega
 | a::b::r,0,h,_,_,_,_=>by simp at h
 | a::b::r,n+1,hl,hk,h,x,hx=>by
   have ih:=AUn hM (b::r) n (by simpa using hl) hk.2 fun y hy=>h y (by simp [List.mem_cons.1 hy])
   have p:(1:Int)<=2^n:=by
     have:=Nat.one_le_two_pow (n:=n)
     exact_mod_cast this
   have q:M*1<=M*2^n:=Int.mul_le_mul_of_nonneg_left p hM;have e2:M*2^(n+1)=2*(M*2^n):=by rw [Int.pow_succ];grind
   rw [e2];cases hd:dnS T (b::r) with
   | nil=>
     have:=(JE (T:=T) (b::r)).len;rw [hd] at this;simp at this
   | cons y s=>
     rw [hd] at ih
     have hx':x=mt a (cyd T a y)\/x∈y::s:=by
       have:x∈dnC T a (dnS T (b::r)):=hx;rw [hd] at this;exact List.mem_cons.1 this
     rcases hx' with rfl | hx'
     . have hle:=JE (T:=T) (b::r)
       rw [hd] at hle;refine Pb.dn (LkP.sam ⟨rfl,rfl,rfl⟩ hle.1.s hk.1) (h a (by simp)) (ih y (by simp)) (by omega)
     . have:=ih x hx'
       have h1:=this.1;have h2:=this.2;unfold Pb;omega
theorem Qt {T:Tm} {M:Int} (hM:0<=M) {n:Nat}:∀ (i:Nat) (l:List Lev),l.length<=n+1->Lks T l->(∀ x∈l,Pb M x)->∀ x∈dnK T i l,Pb (M*2^n) x
 | 0,l,hl,hk,h,x,hx=>AUn hM l n hl hk h x hx
 | i+1,[],_,_,_,x,hx=>by simp [dnK] at hx
 | i+1,a::r,hl,hk,h,x,hx=>by
   have p:(1:Int)<=2^n:=by
     have:=Nat.one_le_two_pow (n:=n)
     exact_mod_cast this
   have q:M*1<=M*2^n:=Int.mul_le_mul_of_nonneg_left p hM;have hx':x=a\/x∈dnK T i r:=by simpa [dnK] using hx
   have hk2:Lks T r:=by cases r with | nil=>trivial | cons b s=>exact hk.2
   rcases hx' with rfl | hx'
   . have:=h x (by simp)
     have h1:=this.1;have h2:=this.2;unfold Pb;omega
   . exact Qt hM i r (by simp at hl;omega) hk2 (fun y hy=>h y (by simp [hy])) x hx'
theorem EM:∀ {l m:List Lev},LeL l m->∀ (i:Nat) (y:Lev),m[i]?= some y->∃ x,l[i]?= some x/\Le x y
 | [],[],_,i,y,h=>by simp at h
 | [],_::_,h,_,_,_=>h.elim
 | _::_,[],h,_,_,_=>h.elim
 | a::l,b::m,h,0,y,hy=>by simp at hy;subst hy;exact ⟨a,rfl,h.1⟩
 | a::l,b::m,h,i+1,y,hy=>by
   obtain ⟨x,hx,hl⟩:=EM h.2 i y (by simpa using hy);exact ⟨x,by simpa using hx,hl⟩
theorem OkS.mono {l:List Lev} (h:OkS l):∀ (d i:Nat) (x y:Lev),l[i]?= some x->l[i+d]?= some y->x.h<=y.h
 | 0,i,x,y,hx,hy=>by
   rw [Nat.add_zero,hx] at hy;cases hy;omega
 | d+1,i,x,y,hx,hy=>by
   obtain ⟨z,hz⟩:∃ z,l[i+d]?= some z:=⟨_,List.getElem?_eq_getElem (by have:=(List.getElem?_eq_some_iff.1 hy).1;omega)⟩
   have h1:=h.mono d i x z hx hz;have h2:=h.step (i+d) z y hz hy;omega
theorem OkS.inS {l:List Lev} (h:OkS l) {i:Nat} {x:Lev} (hx:l[i]?= some x):E8 l x.h:=by
 have hi:=(List.getElem?_eq_some_iff.1 hx).1;refine ⟨fun k hk=>h.mono i 0 k x hk (by rw [Nat.zero_add];exact hx),fun k hk=>h.mono (l.length-1-i) i x k hx (by rw [show i+(l.length-1-i)=l.length-1 by omega];exact hk)⟩
theorem cM {T:Tm}:∀ {l:List Lev},(∀ (i:Nat) (x y:Lev),l[i]?= some x->l[i+1]?= some y->LkP T x y)->Lks T l
 | [],_=>trivial
 | [_],_=>trivial
 | a::b::r,h=>⟨h 0 a b rfl rfl,cM fun i x y hx hy=>h (i+1) x y (by simpa using hx) (by simpa using hy)⟩
theorem OkS.lks {l:List Lev} (h:OkS l):Lks (tmS (knT l)) l:=by
 refine cM fun i x y hx hy=>?_
 have ht:=(Oq h (h.inS hx) (h.inS hy)).p;have hs:=h.step i x y hx hy;unfold LkP lc lw ls;exact ⟨by omega,by omega,by omega⟩
theorem OkS.pos {l:List Lev} (h:OkS l):∀ x∈l,Pos x:=fun x hx=>by
 have:=(h.lev x hx).1;unfold Pos;omega
theorem OkS.pb {l:List Lev} (h:OkS l):∀ x∈l,Pb 12000 x:=fun x hx=>by
 have:=(h.lev x hx).1;unfold Pb;omega
theorem Pb.pr {x:Lev} {M:Int} (h:Pb M x) (hM:M<=400000000):PrB x:=by
 have h1:=h.1;have h2:=h.2;exact ⟨by omega,by omega⟩
theorem cN {l:List Lev} (h:OkS l) {S:Nat->List Lev} (hle:∀ i,LeL l (S i)) (hpb:∀ i,∀ x∈S i,Pb 393216000 x) (hnx:∀ i a b,(S i)[i]?= some a->(S i)[i+1]?= some b->S (i+1)=(S i).set (i+1) (mt b (cyu (tmS (knT l)) a b))):StU (knT l) l.length S:=by
 intro i hi;have hlen:=(hle i).len;obtain ⟨a,ha⟩:∃ a,(S i)[i]?= some a:=⟨_,List.getElem?_eq_getElem (by omega)⟩
 obtain ⟨b,hb⟩:∃ b,(S i)[i+1]?= some b:=⟨_,List.getElem?_eq_getElem (by omega)⟩
 obtain ⟨x,hx,lx⟩:=EM (hle i) i a ha;obtain ⟨y,hy,ly⟩:=EM (hle i) (i+1) b hb;have hs:=h.step i x y hx hy;have hr:=h.at' x (List.mem_of_getElem? hx);have ht:=Oq h (h.inS hx) (h.inS hy);have e1:=lx.s.1;have e2:=ly.s.1;rw [e1,e2] at ht;exact ⟨a,b,ha,hb,by omega,by omega,(hpb i a (List.mem_of_getElem? ha)).pr (by omega),ht,hnx i a b ha hb⟩
theorem cO {l:List Lev} (h:OkS l) {S:Nat->List Lev} (hle:∀ i,LeL l (S i)) (hpb:∀ i,∀ x∈S i,Pb 393216000 x) (hnx:∀ i a b,(S (i+1))[i+1]?= some a->(S (i+1))[i]?= some b->S i=(S (i+1)).set i (mt b (cyd (tmS (knT l)) b a))):StD (knT l) l.length S:=by
 intro i hi;have hlen:=(hle (i+1)).len;obtain ⟨a,ha⟩:∃ a,(S (i+1))[i+1]?= some a:=⟨_,List.getElem?_eq_getElem (by omega)⟩
 obtain ⟨b,hb⟩:∃ b,(S (i+1))[i]?= some b:=⟨_,List.getElem?_eq_getElem (by omega)⟩
 obtain ⟨x,hx,lx⟩:=EM (hle (i+1)) (i+1) a ha;obtain ⟨y,hy,ly⟩:=EM (hle (i+1)) i b hb;have hs:=h.step i y x hy hx;have hr:=h.at' x (List.mem_of_getElem? hx);have ht:=Oq h (h.inS hx) (h.inS hy);have e1:=lx.s.1;have e2:=ly.s.1;rw [e1,e2] at ht;exact ⟨a,b,ha,hb,by omega,by omega,(hpb (i+1) a (List.mem_of_getElem? ha)).pr (by omega),ht,hnx i a b ha hb⟩
theorem SW {T:Tm}:∀ {l:List Lev},Clo T l->∀ (i:Nat) (a b:Lev),l[i]?= some a->l[i+1]?= some b->mt b (cyu T a b)=b/\mt a (cyd T a b)=a
 | [],_,_,_,_,h,_=>by simp at h
 | [_],_,_,_,_,_,h=>by simp at h
 | x::y::r,h,0,a,b,ha,hb=>by
   simp at ha hb;subst ha hb;exact ⟨TU h.1.1,TU h.1.2⟩
 | x::y::r,h,i+1,a,b,ha,hb=>SW h.2 i a b (by simpa using ha) (by simpa using hb)
theorem Pn {α:Type} {l:List α} {i:Nat} {x:α} (h:l[i]?= some x):l.set i x=l:=by
 obtain ⟨hi,rfl⟩:=List.getElem?_eq_some_iff.1 h;exact List.set_getElem_self hi
abbrev swp (l:List Lev):List Lev:=O4 (tmS (knT l)) l
theorem Ew {T:Tm} {l:List Lev}:(Jv T l).length=l.length:=(GX l).len.symm
theorem Dj {l:List Lev}:(swp l).length=l.length:=(Es l).len.symm
section
variable {l:List Lev} (h:OkS l)
include h
theorem Po:StU (knT l) l.length (fun i=>upK (tmS (knT l)) i l):=
 cN h (fun i=>M3 _ i l) (fun i x hx=>by
   have:=ANJ i l h.lks h.pb x hx;have h1:=this.1;have h2:=this.2;unfold Pb;omega) fun i a b ha hb=>Oj _ i l a b ha hb
theorem jV:∀ x∈Jv (tmS (knT l)) l,Pb 12000 x:=fun x hx=>by
 rw [<-Jz _ l.length l (by omega)] at hx;exact ANJ _ l h.lks h.pb x hx
theorem Pp:StD (knT l) l.length (fun i=>dnK (tmS (knT l)) i (Jv (tmS (knT l)) l)):=
 cO h (fun i=>LeL.trans (GX l) (M4 _ i _)) (fun i x hx=>by
   have:=Qt (n:=15) (M:=12000) (by omega) i _ (by rw [Ew];have:=h.len;omega) (Lks.le (GX l) h.lks) (jV h) x hx;simpa using this) fun i a b ha hb=>Ok _ i _ a b ha hb
theorem Ns:Clo (tmS (knT l)) (swp l):=(NI h.lks h.pos).1
theorem AK1:∀ x∈swp l,Pb 393216000 x:=fun x hx=>by
 have:=Qt (n:=15) (M:=12000) (by omega) 0 _ (by rw [Ew];have:=h.len;omega) (Lks.le (GX l) h.lks) (jV h) x hx;simpa using this
theorem Pq:StU (knT l) l.length (fun _=>swp l):=
 cN h (fun _=>Es l) (fun _=>AK1 h) fun i a b ha hb=>by
   rw [(SW (Ns h) i a b ha hb).1,Pn hb]
theorem Ps:StD (knT l) l.length (fun _=>swp l):=
 cO h (fun _=>Es l) (fun _=>AK1 h) fun i a b ha hb=>by
   rw [(SW (Ns h) i b a hb ha).2,Pn hb]
end
end Go.Proofs.Tryz
namespace Go.Proofs.Tryz
open Go.Psl
open Go.Air
theorem ASk (x:Lev):Ct prog 49 [Wb x] (vb (decide (x.ph<x.pl))) []:=by
 refine CB func49 c49 fun E hE=>?_
 simp [p49];apply RZ;simp [results49]
def D3 (l:List Lev):List Lev × Int × Int:=
 if GC l then (if 0<=ixF (fun x:Lev=>decide (x.ph<x.pl)) (swp l) then ([],ixF (fun x:Lev=>decide (x.ph<x.pl)) (swp l),21) else (swp l,0,0)) else ([],0,20)
abbrev gz (r:List Lev × Int × Int):V:= .tup [.d (BF r.1),vi r.2.1,vi r.2.2]
theorem SK (l:List Lev) (hl:l.length<=1000000) (h:GC l=false):Ct prog 12 [.d (BF l)] (.tup [.d (.lit (.slice none 0 0)),vi 0,vi 20]) []:=by
 have c1:=AP0 l hl;rw [h] at c1;refine CB func12 c12 fun E hE=>?_
 simp [p12];refine CLa c1 ?_;simp;apply RZ;simp [results12]
theorem mC {ws:List Lev} (h:ws=[]):∀ H:Hp,Bor H (.d (.lit (.slice none 0 0))) (.d (BF ws)):=fun H=>by
 subst h;exact Or.inr ⟨rfl,5,rfl⟩
theorem JO {ws:List Lev} {n:Nat} {b:Nat} (h:ws.length=n):∀ H:Hp,H b=some (AH A5 ws)->Bor H (.ls b 0 n 5) (.d (BF ws)):=fun H hh=>by
 subst h;exact B0 (f:=A5) hfl (l:=ws) hh
theorem Io (l:List Lev) (h:OkS l) (m:List Lev) (SU SD:Nat->List Lev) (hlm:m.length=l.length) (hU:StU (knT l) l.length SU) (hD:StD (knT l) l.length SD) (lU:∀ i,(SU i).length=l.length) (lD:∀ i,(SD i).length=l.length) (e0:SU 0=m) (e1:SU (l.length-1)=SD (l.length-1)) (e2:SD 0=swp l) (ws:List Lev) (hws:ws=[]) (hd:decide (ws=m)=false) (k:Nat) (hk:k<2) {E:Ent} (hE:∀ i,¬ E.stab i) (C:Nat->St) (hC:C (k+1)=⟨AO [(6, .lp 0 0),(8, .cl 45 [.lp 0 0, .lp 2 0]),(9, .ls 3 0 l.length 5)],lk [(0,[.ls 1 0 l.length 5]),(2,[.d (thD (knT l))]),(1,AH A5 (swp l)),(3,AH A5 m)],4⟩) {Q:Av->St->Prop}:PW prog tys eqs E AMX
   (DP (fun st'=>∃ j,j<=2/\2-j<2-k/\AI prog E st' (C j)) Q)
   ⟨AO [(6, .lp 0 0),(8, .cl 45 [.lp 0 0, .lp 2 0]),(9, .d (.lit (.slice none 0 0)))],lk [(0,[.ls 1 0 l.length 5]),(2,[.d (thD (knT l))]),(1,AH A5 m)],3⟩:=by
 have bw:=mC hws;have hlen:=h.len;have c1:=AQ1 ws m (by first | (rw [hws];simp;done) | omega) (by omega);rw [hd] at c1;have hm0:m≠[]:=by intro e;rw [e] at hlm;simp at hlm;omega
 have c2:=AQG m (by omega) hm0;rw [hlm] at c2
 have bm:∀ H:Hp,H 1=some (AH A5 m)->Bor H (.ls 1 0 l.length 5) (.d (BF m)):=fun H hh=>by
   have:=B0 (f:=A5) hfl (l:=m) hh;rw [hlm] at this;exact this
 have hn1:IntKind.wrap .i64 ((l.length:Int)-1)=(l.length:Int)-1:=AD (by omega) (by omega);simp [AMX];refine CLb (c1) (by simp [bw,bm]) ?_;simp;refine AU.mk _ _ _ (c2) (by simp [bm]) (by simp) (by first | (left;simp;done) | (right;simp;done) | (right;simp;exact of_eq_true KD)) ?_;simp [hn1];refine BL (α:=Nat) 2 (fun _:Unit=>⟨AO [(6, .lp 0 0),(8, .cl 45 [.lp 0 0, .lp 2 0]),(9, .ls 3 0 l.length 5)],lk [(0,[.ls 1 0 l.length 5]),(2,[.d (thD (knT l))]),(3,AH A5 m),(1,AH A5 (SU (l.length-1)))],4⟩) (fun _=>True) (fun j=>⟨AO [(6, .lp 0 0),(8, .cl 45 [.lp 0 0, .lp 2 0]),(9, .ls 3 0 l.length 5),(31,vi ((l.length:Int)-1)),(32,vi j)],lk [(0,[.ls 1 0 l.length 5]),(2,[.d (thD (knT l))]),(3,AH A5 m),(1,AH A5 (SU j))],4⟩) (fun j=>j<=l.length-1) (fun j=>l.length-1-j) 0 ?_ ?_ (MX (knT l) m l.length SU (by rw [Dg];omega) (by omega) lU hU hE) fun _ _=>?_
 . omega
 . rw [e0]
   exact WK hE (lk [(0,0),(1,1),(2,2),(3,5242883)])
 . simp [hn1]
   refine BL (α:=Nat) 4 (fun _:Unit=>⟨AO [(6, .lp 0 0),(8, .cl 45 [.lp 0 0, .lp 2 0]),(9, .ls 3 0 l.length 5)],lk [(0,[.ls 1 0 l.length 5]),(2,[.d (thD (knT l))]),(3,AH A5 m),(1,AH A5 (SD 0))],4⟩) (fun _=>True) (fun j=>⟨AO [(6, .lp 0 0),(8, .cl 45 [.lp 0 0, .lp 2 0]),(9, .ls 3 0 l.length 5),(11,vi j)],lk [(0,[.ls 1 0 l.length 5]),(2,[.d (thD (knT l))]),(3,AH A5 m),(1,AH A5 (SD j))],4⟩) (fun j=>j<=l.length-1) (fun j=>j) (l.length-1) ?_ ?_ (MY (knT l) m l.length SD (by rw [Dg];omega) (by omega) lD hD hE) fun _ _=>?_
   . omega
   . rw [<-e1]
     have hc:((l.length-1:Nat):Int)=(l.length:Int)-1:=by omega
     rw [hc];exact WK hE (lk [(0,0),(1,1),(2,2),(3,3)])
   . rw [e2]
     simp;refine ⟨k+1,by omega,by omega,?_⟩;rw [hC];exact WK hE (lk [(0,0),(1,1),(2,2),(3,3)])
theorem Jj (l:List Lev) (h:OkS l) (m:List Lev) (SU SD:Nat->List Lev) (hlm:m.length=l.length) (hU:StU (knT l) l.length SU) (hD:StD (knT l) l.length SD) (lU:∀ i,(SU i).length=l.length) (lD:∀ i,(SD i).length=l.length) (e0:SU 0=m) (e1:SU (l.length-1)=SD (l.length-1)) (e2:SD 0=swp l) (ws:List Lev) (hws:ws.length=l.length) (hd:decide (ws=m)=false) (k:Nat) (hk:k<2) {E:Ent} (hE:∀ i,¬ E.stab i) (C:Nat->St) (hC:C (k+1)=⟨AO [(6, .lp 0 0),(8, .cl 45 [.lp 0 0, .lp 2 0]),(9, .ls 3 0 l.length 5)],lk [(0,[.ls 1 0 l.length 5]),(2,[.d (thD (knT l))]),(1,AH A5 (swp l)),(3,AH A5 m)],4⟩) {Q:Av->St->Prop}:PW prog tys eqs E AMX
   (DP (fun st'=>∃ j,j<=2/\2-j<2-k/\AI prog E st' (C j)) Q)
   ⟨AO [(6, .lp 0 0),(8, .cl 45 [.lp 0 0, .lp 2 0]),(9, .ls 3 0 l.length 5)],lk [(0,[.ls 1 0 l.length 5]),(2,[.d (thD (knT l))]),(1,AH A5 m),(3,AH A5 ws)],4⟩:=by
 have bw:=JO (b:=3) hws;have hlen:=h.len;have c1:=AQ1 ws m (by first | (rw [hws];simp;done) | omega) (by omega);rw [hd] at c1;have hm0:m≠[]:=by intro e;rw [e] at hlm;simp at hlm;omega
 have c2:=AQG m (by omega) hm0;rw [hlm] at c2
 have bm:∀ H:Hp,H 1=some (AH A5 m)->Bor H (.ls 1 0 l.length 5) (.d (BF m)):=fun H hh=>by
   have:=B0 (f:=A5) hfl (l:=m) hh;rw [hlm] at this;exact this
 have hn1:IntKind.wrap .i64 ((l.length:Int)-1)=(l.length:Int)-1:=AD (by omega) (by omega);simp [AMX];refine CLb (c1) (by simp [bw,bm]) ?_;simp;refine AU.mk _ _ _ (c2) (by simp [bm]) (by simp) (by first | (left;simp;done) | (right;simp;done) | (right;simp;exact of_eq_true KD)) ?_;simp [hn1];refine BL (α:=Nat) 2 (fun _:Unit=>⟨AO [(6, .lp 0 0),(8, .cl 45 [.lp 0 0, .lp 2 0]),(9, .ls 3 0 l.length 5)],lk [(0,[.ls 1 0 l.length 5]),(2,[.d (thD (knT l))]),(3,AH A5 m),(1,AH A5 (SU (l.length-1)))],4⟩) (fun _=>True) (fun j=>⟨AO [(6, .lp 0 0),(8, .cl 45 [.lp 0 0, .lp 2 0]),(9, .ls 3 0 l.length 5),(31,vi ((l.length:Int)-1)),(32,vi j)],lk [(0,[.ls 1 0 l.length 5]),(2,[.d (thD (knT l))]),(3,AH A5 m),(1,AH A5 (SU j))],4⟩) (fun j=>j<=l.length-1) (fun j=>l.length-1-j) 0 ?_ ?_ (MX (knT l) m l.length SU (by rw [Dg];omega) (by omega) lU hU hE) fun _ _=>?_
 . omega
 . rw [e0]
   exact WK hE (lk [(0,0),(1,1),(2,2),(3,5242884)])
 . simp [hn1]
   refine BL (α:=Nat) 4 (fun _:Unit=>⟨AO [(6, .lp 0 0),(8, .cl 45 [.lp 0 0, .lp 2 0]),(9, .ls 3 0 l.length 5)],lk [(0,[.ls 1 0 l.length 5]),(2,[.d (thD (knT l))]),(3,AH A5 m),(1,AH A5 (SD 0))],4⟩) (fun _=>True) (fun j=>⟨AO [(6, .lp 0 0),(8, .cl 45 [.lp 0 0, .lp 2 0]),(9, .ls 3 0 l.length 5),(11,vi j)],lk [(0,[.ls 1 0 l.length 5]),(2,[.d (thD (knT l))]),(3,AH A5 m),(1,AH A5 (SD j))],4⟩) (fun j=>j<=l.length-1) (fun j=>j) (l.length-1) ?_ ?_ (MY (knT l) m l.length SD (by rw [Dg];omega) (by omega) lD hD hE) fun _ _=>?_
   . omega
   . rw [<-e1]
     have hc:((l.length-1:Nat):Int)=(l.length:Int)-1:=by omega
     rw [hc];exact WK hE (lk [(0,0),(1,1),(2,2),(3,3)])
   . rw [e2]
     simp;refine ⟨k+1,by omega,by omega,?_⟩;rw [hC];exact WK hE (lk [(0,0),(1,1),(2,2),(3,3)])
abbrev unf (x:Lev):Bool:=decide (x.ph<x.pl)
def Pk (l:List Lev):Nat->St
 | 0=>⟨AO [(6, .lp 0 0),(8, .cl 45 [.lp 0 0, .lp 2 0]),(9, .d (.lit (.slice none 0 0)))],lk [(0,[.ls 1 0 l.length 5]),(2,[.d (thD (knT l))]),(1,AH A5 l)],3⟩
 | 1=>⟨AO [(6, .lp 0 0),(8, .cl 45 [.lp 0 0, .lp 2 0]),(9, .ls 3 0 l.length 5)],lk [(0,[.ls 1 0 l.length 5]),(2,[.d (thD (knT l))]),(1,AH A5 (swp l)),(3,AH A5 l)],4⟩
 | _=>⟨AO [(6, .lp 0 0),(8, .cl 45 [.lp 0 0, .lp 2 0]),(9, .ls 3 0 l.length 5)],lk [(0,[.ls 1 0 l.length 5]),(2,[.d (thD (knT l))]),(1,AH A5 (swp l)),(3,AH A5 (swp l))],4⟩
theorem FN (l:List Lev) (h:OkS l) (ws:List Lev) (hws:ws=swp l) (_:Nat) {E:Ent} (hE:∀ i,¬ E.stab i) {Q:Av->St->Prop} {S:St->Prop}:PW prog tys eqs E AMX
   (DP S (exC prog E Q 0 (fun _:Unit=>⟨AO [(6, .lp 0 0),(8, .cl 45 [.lp 0 0, .lp 2 0])],lk [(0,[.ls 1 0 l.length 5]),(2,[.d (thD (knT l))]),(1,AH A5 (swp l))],3⟩) (fun _=>True)))
   ⟨AO [(6, .lp 0 0),(8, .cl 45 [.lp 0 0, .lp 2 0]),(9, .ls 3 0 l.length 5)],lk [(0,[.ls 1 0 l.length 5]),(2,[.d (thD (knT l))]),(1,AH A5 (swp l)),(3,AH A5 ws)],4⟩:=by
 have hlen:=h.len;subst hws;have hl2:=Dj (l:=l);have c1:=AQ1 (swp l) (swp l) (by omega) (by omega);have bw:=JO (b:=3) hl2;have bm:=JO (b:=1) hl2;simp only [decide_true] at c1;simp [AMX];refine CLb (c1) (by simp [bw,bm]) ?_;simp;exact WK hE (lk [(0,0),(1,1),(2,2)])
theorem tP (l:List Lev) (h:OkS l) (hq:0<=ixF unf (swp l)):Ct prog 12 [.d (BF l)] (.tup [.d (.lit (.slice none 0 0)),vi (ixF unf (swp l)),vi 21]) []:=by
 have hlen:=h.len;have h0:l≠[]:=by intro e;rw [e] at hlen;simp at hlen
 have hl2:=Dj (l:=l);have c1:=AP0 l (by omega);rw [B8.2 h] at c1;have c2:=AQG l (by omega) h0;have c3:=AQF l (by omega) h0;have c4:=AB1 (swp l) 49 [] unf (by omega) fun x _=>ASk x
 have bm:=JO (b:=1) hl2;refine CB func12 c12 fun E hE=>?_
 simp [p12];refine CLa c1 ?_;simp;refine CLa c2 ?_;simp;refine CLa c3 ?_;simp [AA];refine BL (α:=Nat) 0 (fun _:Unit=>⟨AO [(6, .lp 0 0),(8, .cl 45 [.lp 0 0, .lp 2 0])],lk [(0,[.ls 1 0 l.length 5]),(2,[.d (thD (knT l))]),(1,AH A5 (swp l))],3⟩) (fun _=>True) (Pk l) (fun k=>k<=2) (fun k=>2-k) 0 ?_ ?_ ?_ fun _ _=>?_
 . omega
 . unfold Pk
   exact WK hE (lk [(0,12582912),(1,9437184),(2,13631488)])
 . intro k hk
   match k,hk with
   | 0,_=>
     exact Io l h l _ _ rfl (Po h) (Pp h) (fun i=>(M3 _ i l).len.symm) (fun i=>by rw [<-(M4 _ i _).len,Ew]) rfl (by
       show upK _ _ l=dnK _ _ _
       rw [Jz _ _ _ (by omega),sE _ _ _ (by rw [Ew];omega)]) rfl [] rfl (by simpa using h0) 0 (by omega) hE (Pk l) rfl
   | 1,_=>
     by_cases he:l=swp l
     . exact FN l h l he 1 hE
     . exact Jj l h (swp l) _ _ hl2 (Pq h) (Ps h) (fun _=>hl2) (fun _=>hl2) rfl rfl rfl l rfl (by simpa using he) 1 (by omega) hE (Pk l) rfl
   | 2,_=>exact FN l h (swp l) rfl 2 hE
   | k+3,hk=>omega
 . simp
   refine CLb (c4) (by simp [bm]) ?_;simp [hq];apply RZ;simp [results12]
theorem SQ (l:List Lev) (h:OkS l) (hq:¬ 0<=ixF unf (swp l)):Ct prog 12 [.d (BF l)] (.tup [.ls 0 0 l.length 5,vi 0,vi 0]) [(0,AH A5 (swp l))]:=by
 have hlen:=h.len;have h0:l≠[]:=by intro e;rw [e] at hlen;simp at hlen
 have hl2:=Dj (l:=l);have c1:=AP0 l (by omega);rw [B8.2 h] at c1;have c2:=AQG l (by omega) h0;have c3:=AQF l (by omega) h0;have c4:=AB1 (swp l) 49 [] unf (by omega) fun x _=>ASk x
 have bm:=JO (b:=1) hl2;refine CB func12 c12 fun E hE=>?_
 simp [p12];refine CLa c1 ?_;simp;refine CLa c2 ?_;simp;refine CLa c3 ?_;simp [AA];refine BL (α:=Nat) 0 (fun _:Unit=>⟨AO [(6, .lp 0 0),(8, .cl 45 [.lp 0 0, .lp 2 0])],lk [(0,[.ls 1 0 l.length 5]),(2,[.d (thD (knT l))]),(1,AH A5 (swp l))],3⟩) (fun _=>True) (Pk l) (fun k=>k<=2) (fun k=>2-k) 0 ?_ ?_ ?_ fun _ _=>?_
 . omega
 . unfold Pk
   exact WK hE (lk [(0,12582912),(1,9437184),(2,13631488)])
 . intro k hk
   match k,hk with
   | 0,_=>
     exact Io l h l _ _ rfl (Po h) (Pp h) (fun i=>(M3 _ i l).len.symm) (fun i=>by rw [<-(M4 _ i _).len,Ew]) rfl (by
       show upK _ _ l=dnK _ _ _
       rw [Jz _ _ _ (by omega),sE _ _ _ (by rw [Ew];omega)]) rfl [] rfl (by simpa using h0) 0 (by omega) hE (Pk l) rfl
   | 1,_=>
     by_cases he:l=swp l
     . exact FN l h l he 1 hE
     . exact Jj l h (swp l) _ _ hl2 (Pq h) (Ps h) (fun _=>hl2) (fun _=>hl2) rfl rfl rfl l rfl (by simpa using he) 1 (by omega) hE (Pk l) rfl
   | 2,_=>exact FN l h (swp l) rfl 2 hE
   | k+3,hk=>omega
 . simp
   refine CLb (c4) (by simp [bm]) ?_;simp [hq];refine AB.by (lk [(0,1)]) ?_;simp [results12]
theorem AQE (l:List Lev) (hl:l.length<=1000000):Ct prog 12 [.d (BF l)] (gz (D3 l)) []:=by
 cases h:GC l
 . refine Cm.freeze (SK l hl h) ?_
   unfold D3;rw [h];exact ⟨Or.inr ⟨rfl,5,rfl⟩,Or.inl rfl,Or.inl rfl,trivial⟩
 . have ho:=B8.1 h
   by_cases hq:0<=ixF unf (swp l)
   . refine Cm.freeze (tP l ho hq) ?_
     unfold D3;rw [h,if_pos rfl,if_pos hq];exact ⟨Or.inr ⟨rfl,5,rfl⟩,Or.inl rfl,Or.inl rfl,trivial⟩
   . refine Cm.freeze (SQ l ho hq) ?_
     unfold D3;rw [h,if_pos rfl,if_neg hq];refine ⟨?_,Or.inl rfl,Or.inl rfl,trivial⟩;have:=JO (ws:=swp l) (b:=0) (Dj (l:=l)) (lk [(0,AH A5 (swp l))]) (by simp);exact this
theorem yS (x:Lev) (h:Int) (hw:IntKind.wrap .i64 (x.h-h)=x.h-h):Ct prog 140 [Wb x,vi h] (vi (x.h-h)) []:=by
 refine CB func140 c140 fun E hE=>?_
 simp [p140,hw];apply RZ;simp [results140]
def Ii (s:List Lev) (h:Int):Nat:=(s.takeWhile fun x=>decide (x.h<h)).length
def RF (s:List Lev) (h:Int):Bool:=match s[Ii s h]? with
 | some x=>decide (x.h=h)
 | none=>false
theorem Zj (s:List Lev) (h:Int):Ii s h<=s.length:=by
 unfold Ii;exact (List.takeWhile_sublist _).length_le
theorem NN:∀ (s:List Lev) (h:Int) (i:Nat) (x:Lev),s[i]?= some x->i<Ii s h->x.h<h
 | [],_,_,_,hx,_=>by simp at hx
 | a::s,h,i,x,hx,hi=>by
   unfold Ii at hi;by_cases hc:a.h<h
   . cases i with
     | zero=>simp at hx;subst hx;exact hc
     | succ i=>
       simp [hc] at hi hx;exact NN s h i x hx (by unfold Ii;exact hi)
   . simp [hc] at hi
theorem Zk:∀ (s:List Lev) (h:Int) (x:Lev),s[Ii s h]?= some x->h<=x.h
 | [],_,_,hx=>by simp at hx
 | a::s,h,x,hx=>by
   unfold Ii at hx;by_cases hc:a.h<h
   . simp [hc] at hx
     exact Zk s h x (by unfold Ii;exact hx)
   . simp [hc] at hx
     subst hx;omega
theorem u9 (s:List Lev) (h:Int) (hl:s.length<=1000000) (hb:∀ x∈s,IntKind.wrap .i64 (x.h-h)=x.h-h) (hm:∀ (i:Nat) (x:Lev),s[i]?= some x->Ii s h<=i->h<=x.h):Ct prog 139 [.d (BF s),vi h, .d (.fn 140 [])] (.tup [vi (Ii s h),vb (RF s h)]) []:=by
 have hp:=Zj s h;obtain ⟨r,hr⟩:∃ r,Ii s h=r:=⟨_,rfl⟩
 have hmf:∀ (i:Nat) (x:Lev),s[i]?= some x->i<r->x.h<h:=fun i x hx hi=>NN s h i x hx (by omega)
 have hh:RF s h=match s[r]? with | some x=>decide (x.h=h) | none=>false:=by unfold RF;rw [hr]
 rw [hr] at hp hm;rw [hr,hh];refine CB func139 c139 fun E hE=>?_
 simp [p139];refine Al (α:=Nat × Nat) (fun x=>⟨AO [(0, .d (BF s)),(1,vi h),(2, .d (.fn 140 [])),(8,vi s.length),(9,vi x.1),(10,vi x.2)],lk [],0⟩) (fun x=>x.1<=r/\r<=x.2/\x.2<=s.length) (fun x=>x.2-x.1) (0,s.length) ?_ ?_ ?_
 . simp;omega
 . exact WK hE (lk [])
 . rintro ⟨lo,hi⟩ ⟨g1,g2,g3⟩
   simp only at g1 g2 g3;simp [Xl];by_cases hlt:lo<hi
   . have e1:IntKind.wrap .i64 ((lo:Int)+hi)=(lo:Int)+hi:=AD (by omega) (by omega)
     obtain ⟨m,hm'⟩:∃ m:Nat,m=(lo+hi)/2:=⟨_,rfl⟩
     have e2:IntKind.wrap .u64 ((lo:Int)+hi)=(lo:Int)+hi:=Ay (by omega) (by omega);have e3:IntKind.wrap .i64 (((lo:Int)+hi)/2)=(m:Int):=by rw [AD (by omega) (by omega)];omega
     have e4:IntKind.wrap .i64 ((m:Int)+1)=((m+1:Nat):Int):=by rw [AD (by omega) (by omega)];rfl
     simp only [Int.natCast_add,Int.cast_ofNat_Int] at e4;obtain ⟨x,hx⟩:∃ x,s[m]?= some x:=⟨_,List.getElem?_eq_getElem (by omega)⟩
     have c:=yS x h (hb x (List.mem_of_getElem? hx));have hml:(m:Int)<s.length:=by omega
     simp [hlt,e1,e2,e3,hx];refine CLa c ?_;by_cases hpm:x.h-h<0
     . have:m<r:=Nat.not_le.1 fun h=>by have:=hm m x hx h;omega
       simp [hpm,e4];refine ⟨m+1,hi,⟨by omega,by omega,by omega⟩,by omega,?_⟩;exact WK hE (lk [])
     . have:r<=m:=Nat.not_lt.1 fun h=>by have:=hmf m x hx h;omega
       simp [hpm];refine ⟨lo,m,⟨by omega,by omega,by omega⟩,by omega,?_⟩;exact WK hE (lk [])
   . have:lo=r:=by omega
     subst this;by_cases hlr:lo<s.length
     . obtain ⟨x,hx⟩:=gE hlr
       have c:=yS x h (hb x (List.mem_of_getElem? hx));have hlr':(lo:Int)<s.length:=by omega
       have ez:decide (x.h-h=0)=decide (x.h=h):=decide_eq_decide.2 (by omega);simp [hlt,hlr',hx];refine CLa c ?_;simp [ez];apply RZ;simp [results139]
     . have hn:¬ (lo:Int)<s.length:=by omega
       have hx:s[lo]?= none:=List.getElem?_eq_none (by omega);simp [hlt,hn,hx];apply RZ;simp [results139]
theorem TY {T:Tm} {x:Int}:∀ (i:Nat) (s:List Lev) (y:Lev),s[i]?= some y->y.h=x->(∀ (j:Nat) (z:Lev),j<i->s[j]?= some z->z.h<x)->prs T s x=(y.pl,y.ph)
 | _,[],_,h,_,_=>by simp at h
 | 0,[c],y,h,_,_=>by simp at h;subst h;rfl
 | 0,c::d::r,y,h,e,_=>by
   simp at h;subst h;unfold prs;rw [if_pos (by omega)]
 | i+1,[c],y,h,_,_=>by simp at h
 | i+1,c::d::r,y,h,e,hj=>by
   have h1:=hj 0 c (by omega) rfl
   have h2:d.h<=x:=by
     cases i with
     | zero=>simp at h;subst h;omega
     | succ i=>have:=hj 1 d (by omega) rfl;omega
   unfold prs;rw [if_neg (by omega),if_neg (by omega)];exact TY i (d::r) y (by simpa using h) e fun j z hji hz=>hj (j+1) z (by omega) (by simpa using hz)
theorem TZ {T:Tm} {x:Int}:∀ (i:Nat) (s:List Lev) (a b:Lev),s[i]?= some a->s[i+1]?= some b->x<b.h->(∀ (j:Nat) (z:Lev),j<=i->s[j]?= some z->z.h<x)->prs T s x=(max (CY (lc T a b) (341632*(x-a.h)) a.pl) b.pl,C9 (lw T a b) (341632*(x-a.h)) a.ph)
 | _,[],_,_,h,_,_,_=>by simp at h
 | 0,[c],_,_,_,h,_,_=>by simp at h
 | 0,c::d::r,a,b,ha,hb,hx,hj=>by
   simp at ha hb;subst ha hb;have h1:=hj 0 c (by omega) rfl;unfold prs;rw [if_neg (by omega),if_pos hx]
 | i+1,[c],_,_,h,_,_,_=>by simp at h
 | i+1,c::d::r,a,b,ha,hb,hx,hj=>by
   have h1:=hj 0 c (by omega) rfl;have h2:=hj 1 d (by omega) rfl;unfold prs;rw [if_neg (by omega),if_neg (by omega)];exact TZ i (d::r) a b (by simpa using ha) (by simpa using hb) hx fun j z hji hz=>hj (j+1) z (by omega) (by simpa using hz)
theorem AQS (s:List Lev) (x:Int) (h:OkS s) (hx:E8 s x):Ct prog 138 [vi x, .d (.ref [BF s]), .d (.ref [thD (knT s)])] (vsp (prs (tmS (knT s)) s x).1 (prs (tmS (knT s)) s x).2) []:=by
 have hlen:=h.len;have hp:=Zj s x;obtain ⟨e0,he0⟩:∃ e0,s[0]?= some e0:=⟨_,List.getElem?_eq_getElem (by omega)⟩
 obtain ⟨e1,he1⟩:∃ e1,s[s.length-1]?= some e1:=⟨_,List.getElem?_eq_getElem (by omega)⟩
 have hx0:=hx.1 e0 he0;have hx1:=hx.2 e1 he1;have hb0:=h.at' e0 (List.mem_of_getElem? he0);have hb1:=h.at' e1 (List.mem_of_getElem? he1)
 have hlt:Ii s x<s.length:=Nat.not_le.1 fun hge=>by
   have:=NN s x (s.length-1) e1 he1 (by omega);omega
 obtain ⟨r,hr⟩:∃ r,Ii s x=r:=⟨_,rfl⟩
 rw [hr] at hlt;obtain ⟨b,hb⟩:=gE hlt;have hbx:x<=b.h:=Zk s x b (by rw [hr];exact hb);have hin:∀ (j:Nat) (z:Lev),j<r->s[j]?= some z->z.h<x:=fun j z hj hz=>NN s x j z hz (by omega)
 have c1:=u9 s x (by omega) (fun y hy=>by have:=h.at' y hy;exact AD (by omega) (by omega)) (fun i y hy hi=>by
   have:=h.mono (i-r) r b y hb (by rw [show r+(i-r)=i by omega];exact hy);omega)
 have hbb:=h.lev b (List.mem_of_getElem? hb);have hbh:=h.at' b (List.mem_of_getElem? hb);have hI:(r:Int)<s.length:=by omega
 rw [hr] at c1;by_cases hit:b.h=x
 . have hh:RF s x=true:=by unfold RF;rw [hr,hb];simpa using hit
   rw [hh] at c1;rw [TY r s b hb hit hin];refine CB func138 uc fun E hE=>?_
   simp [p138];refine CLa c1 ?_;simp [AA,hb];apply RZ;simp [results138]
 . have hh:RF s x=false:=by unfold RF;rw [hr,hb];simpa using hit
   rw [hh] at c1
   have hr1:1<=r:=Nat.not_lt.1 fun h0=>by
     have:r=0:=by omega
     subst this;rw [he0] at hb;cases hb;omega
   obtain ⟨q,hq⟩:∃ q,r=q+1:=⟨r-1,by omega⟩
   obtain ⟨a,ha⟩:∃ a,s[q]?= some a:=⟨_,List.getElem?_eq_getElem (by omega)⟩
   rw [TZ q s a b ha (by rw [<-hq];exact hb) (by omega) fun j z hj hz=>hin j z (by omega) hz];have hax:=hin q a (by omega) ha;have hs:=h.step q a b ha (by rw [<-hq];exact hb);have hal:=(h.lev a (List.mem_of_getElem? ha)).1;have hah:=h.at' a (List.mem_of_getElem? ha);have ht:=(Oq h (h.inS ha) (h.inS hb)).p;have hw:IntKind.wrap .i64 ((r:Int)-1)=(q:Int):=by rw [AD (by omega) (by omega)];omega
   have hw2:IntKind.wrap .i64 (x-a.h)=x-a.h:=AD (by omega) (by omega);have hQ:(q:Int)<s.length:=by omega
   have c2:=pP (knT s) a.h b.h (by rw [Dg];omega);have c3:=O6 a.pl a.ph (x-a.h) (tmS (knT s) a.h b.h).1 (tmS (knT s) a.h b.h).2 (by omega) (by omega) (by omega) ht;refine CB func138 uc fun E hE=>?_
   simp [p138];refine CLa c1 ?_;simp;refine AL [(11,19922944)] (by kernel_rfl) ?_;simp [AA,ha,hb,hw,hw2,inC,Nat.testBit];refine CLa c2 ?_;simp [inC,Nat.testBit];refine CLa c3 ?_;simp [AA];apply RZ;simp [results138,lc,lw]
theorem Yt:∀ {l m:List Lev},LeL l m->knT l=knT m
 | [],[],_=>rfl
 | [],_::_,h=>h.elim
 | _::_,[],h=>h.elim
 | a::l,b::m,h=>by
   unfold knT;rw [List.map_cons,List.map_cons];have:=Yt h.2;unfold knT at this;rw [this];have e:knOf a=knOf b:=by unfold knOf;rw [h.1.s.1,h.1.s.2.1,h.1.s.2.2]
   rw [e]
theorem TF (l:List Lev):knT (swp l)=knT l:=(Yt (Es l)).symm
theorem fI {l:List Lev} (h:¬ 0<=ixF unf l):∀ x∈l,x.pl<=x.ph:=fun x hx=>by
 have h1:=IZ unf l;rw [decide_eq_false h] at h1;have:=(List.any_eq_false.1 h1.symm) x hx;simp at this;omega
theorem Yu {l:List Lev} (h:OkS l) (hf:¬ 0<=ixF unf (swp l)):OkS (swp l):=by
 have hle:=Es (T:=tmS (knT l)) l;have key:∀ (i:Nat) (y:Lev),(swp l)[i]?= some y->∃ x,l[i]?= some x/\Le x y:=fun i y hy=>EM hle i y hy
 refine ⟨by rw [Dj];exact h.len,fun y hy=>?_,fun y hy=>?_,fun i a b ha hb=>?_⟩
 . obtain ⟨i,hi⟩:=List.getElem?_of_mem hy
   obtain ⟨x,hx,q⟩:=key i y hi;have h1:=h.lev x (List.mem_of_getElem? hx);have h2:=fI hf y hy;have h3:=q.lo;have h4:=q.hi;have h5:=q.s.2.1;have h6:=q.s.2.2;omega
 . obtain ⟨i,hi⟩:=List.getElem?_of_mem hy
   obtain ⟨x,hx,q⟩:=key i y hi;have h1:=h.at' x (List.mem_of_getElem? hx);have h5:=q.s.1;omega
 . obtain ⟨x,hx,q⟩:=key i a ha
   obtain ⟨y,hy,q'⟩:=key (i+1) b hb;have h1:=h.step i x y hx hy;have h5:=q.s.1;have h6:=q'.s.1;omega
theorem TG {l:List Lev} {x:Int} (h:E8 l x):E8 (swp l) x:=by
 have hle:=Es (T:=tmS (knT l)) l;refine ⟨fun k hk=>?_,fun k hk=>?_⟩
 . obtain ⟨y,hy,q⟩:=EM hle 0 k hk
   have:=h.1 y hy;have:=q.s.1;omega
 . rw [Dj] at hk
   obtain ⟨y,hy,q⟩:=EM hle _ k hk;have:=h.2 y hy;have:=q.s.1;omega
theorem Yv (l:List Lev) (hl:l.length<=1000000) (h:¬ (D3 l).2.2=0):Ct prog 101 [.d (BF l)] (.tup [.d (.lit .nilFunc),vi (D3 l).2.2]) []:=by
 have c:=AQE l hl;unfold gz at c
 generalize (D3 l).2.2=e at*
 generalize (D3 l).2.1=i at*
 generalize (D3 l).1=s at*
 refine CB func101 zm fun E hE=>?_
 simp [p101];refine CLa c ?_;simp [AA,h];apply RZ;simp [results101]
theorem pB (l:List Lev) (h:OkS l) (hf:¬ 0<=ixF unf (swp l)):Ct prog 101 [.d (BF l)] (.tup [.cl 138 [.lp 0 0, .lp 1 0],vi 0]) [(0,[.d (BF (swp l))]),(1,[.d (thD (knT (swp l)))])]:=by
 have hlen:=h.len;have c:=AQE l (by omega);have hS:D3 l=(swp l,0,0):=by unfold D3;rw [B8.2 h,if_pos rfl,if_neg hf]
 rw [hS] at c;unfold gz at c;simp only at c;have c2:=AQF (swp l) (by rw [Dj];omega) (by intro e;have:=Dj (l:=l);rw [e] at this;simp at this;omega);refine CB func101 zm fun E hE=>?_
 simp [p101];refine CLa c ?_;simp [AA];refine CLa c2 ?_;simp [AA];refine AB.by (lk [(0,0),(1,16777216)]) ?_;simp [results101]
theorem VV (l:List Lev) (h:OkS l) (hf:¬ 0<=ixF unf (swp l)):Ct prog 101 [.d (BF l)] (.tup [.d (.fn 138 [.ref [BF (swp l)], .ref [thD (knT (swp l))]]),vi 0]) []:=by
 refine Cm.freeze (pB l h hf) ?_;exact ⟨⟨rfl,Or.inl ⟨_,rfl,rfl⟩,Or.inl ⟨_,rfl,rfl⟩,trivial⟩,Or.inl rfl,trivial⟩
def atA (l:List Lev) (a b:Int):Atm × Int:=
 if GC l then
   if okS (a,b) then
     match l[0]?,l[l.length-1]? with
     | some x,some y=>
       if rgB x.h y.h [a,b] then
         if (D3 l).2.2=0 then (WH (tmS (knT l)) (swp l) a b,0) else (⟨0,0,0,0⟩,(D3 l).2.2)
       else (⟨0,0,0,0⟩,2)
     | _,_=>(⟨0,0,0,0⟩,2)
   else (⟨0,0,0,0⟩,10)
 else (⟨0,0,0,0⟩,20)
abbrev atV (r:Atm × Int):V:= .tup [Ox r.1,vi r.2]
theorem IQ {l:List Lev} (h:OkS l):(D3 l).2.2=0↔¬ 0<=ixF unf (swp l):=by
 unfold D3;rw [B8.2 h,if_pos rfl];by_cases hq:0<=ixF unf (swp l)
 . rw [if_pos hq];simp [hq]
 . rw [if_neg hq];simp [hq]
theorem fn53 (l:List Lev) (a b:Int) (hl:l.length<=1000000):Ct prog 53 [.d (BF l),vsp a b] (atV (atA l a b)) []:=by
 have c1:=AP0 l hl;cases hk:GC l
 . rw [hk] at c1
   have e:atA l a b=(⟨0,0,0,0⟩,20):=by unfold atA;rw [hk];rfl
   rw [e];refine CB func53 c53 fun E hE=>?_
   simp [p53];refine CLa c1 ?_;simp [AA];apply RZ;simp [results53]
 rw [hk] at c1;have h:=B8.1 hk;have hlen:=h.len;have c2:=pA (a,b);cases hs:okS (a,b)
 . rw [hs] at c2
   have e:atA l a b=(⟨0,0,0,0⟩,10):=by unfold atA;rw [hk,hs];rfl
   rw [e];refine CB func53 c53 fun E hE=>?_
   simp [p53];refine CLa c1 ?_;simp;refine CLa c2 ?_;simp [AA];apply RZ;simp [results53]
 rw [hs] at c2;obtain ⟨x,hx⟩:∃ x,l[0]?= some x:=⟨_,List.getElem?_eq_getElem (by omega)⟩
 obtain ⟨n,hn⟩:∃ n,n=l.length-1:=⟨_,rfl⟩
 obtain ⟨y,hy⟩:∃ y,l[n]?= some y:=⟨_,List.getElem?_eq_getElem (by omega)⟩
 have hw:IntKind.wrap .i64 ((l.length:Int)-1)=(n:Int):=by rw [AD (by omega) (by omega)];omega
 have hI0:(0:Int)<l.length:=by omega
 have hI:(n:Int)<l.length:=by omega
 have c3:=mH x.h y.h [a,b] (by simp)
 have ea:atA l a b=if rgB x.h y.h [a,b] then (if (D3 l).2.2=0 then (WH (tmS (knT l)) (swp l) a b,0) else (⟨0,0,0,0⟩,(D3 l).2.2)) else (⟨0,0,0,0⟩,2):=by
   unfold atA;rw [hk,hs,hx,<-hn,hy];rfl
 cases hr:rgB x.h y.h [a,b]
 . rw [hr] at c3 ea
   rw [ea];refine CB func53 c53 fun E hE=>?_
   simp [p53];refine CLa c1 ?_;simp;refine CLa c2 ?_;simp [AA,AM,hx,hy,hw,inC,Nat.testBit];refine CLb (c3) (by simp [Ap]) ?_;simp [AA];apply RZ;simp [results53]
 rw [hr] at c3 ea;by_cases hz:(D3 l).2.2=0
 . rw [if_pos rfl,if_pos hz] at ea
   rw [ea];have hf:=(IQ h).1 hz;have c4:=VV l h hf;have hso:=Yu h hf
   have hins:∀ z,(z=a\/z=b)->E8 l z:=fun z hzz=>by
     have hq:(x.h<=a/\a<=y.h)/\x.h<=b/\b<=y.h:=by simp [rgB] at hr;omega
     refine ⟨fun k hk'=>?_,fun k hk'=>?_⟩
     . rw [hx] at hk';cases hk';rcases hzz with rfl | rfl<;>omega
     . rw [<-hn,hy] at hk';cases hk';rcases hzz with rfl | rfl<;>omega
   have c5:=AQS (swp l) b hso (TG (hins b (Or.inr rfl)));have c6:=AQS (swp l) a hso (TG (hins a (Or.inl rfl)));have c7:=AQF l hl (by intro e;rw [e] at hlen;simp at hlen);have c8:=pP (knT l) a b (by rw [Dg];omega);rw [TF] at c4 c5 c6;refine CB func53 c53 fun E hE=>?_
   simp [p53];refine CLa c1 ?_;simp;refine CLa c2 ?_;simp [AA,AM,hx,hy,hw,inC,Nat.testBit];refine CLb (c3) (by simp [Ap]) ?_;simp;refine CLa c4 ?_;simp [inC,Nat.testBit];refine CLa c5 ?_;simp [inC,Nat.testBit];refine CLa c6 ?_;simp [AA,inC,Nat.testBit];refine CLa c7 ?_;simp [inC,Nat.testBit];refine CLa c8 ?_;simp [AA];apply RZ;simp [results53,WH]
 . rw [if_pos rfl,if_neg hz] at ea
   rw [ea];have c4:=Yv l hl hz;refine CB func53 c53 fun E hE=>?_
   simp [p53];refine CLa c1 ?_;simp;refine CLa c2 ?_;simp [AA,AM,hx,hy,hw,inC,Nat.testBit];refine CLb (c3) (by simp [Ap]) ?_;simp;refine CLa c4 ?_;simp [AA,hz];apply RZ;simp [results53]
structure Gal where
 h:Int
 xl:Int
 xh:Int
 yl:Int
 yh:Int
 g:Int
deriving DecidableEq
abbrev galL (x:Gal):List D:=[di x.h,di x.xl,di x.xh,di x.yl,di x.yh,di x.g]
abbrev cT (l:List Gal):D:= .sl 6 (l.map galL)
theorem hfg:∀ x:Gal,(galL x).length=6:=fun _=>rfl
def AAU (l:List Gal) (i:Nat):Bool:=match l[i]? with
 | some x=>rgB (-500) 9000 [x.h]&&(if i=0 then true else match l[i-1]? with | some y=>decide (y.h<x.h) | none=>true)&&rgB 0 500 [x.g]&&spB (-1000) 1000 x.xl x.xh&&spB (-1000) 1000 x.yl x.yh
 | none=>true
def Dr (l:List Gal):Bool:=rgB 1 16 [(l.length:Int)]&&(List.range l.length).all (AAU l)
theorem Fw {l:List Gal} {i:Nat} (hi:i<l.length) (h:AAU l i=false):Dr l=false:=by
 unfold Dr
 have:(List.range l.length).all (AAU l)=false:=by
   rw [List.all_eq_false];exact ⟨i,by simp [hi],by simp [h]⟩
 simp [this]
theorem ASI (l:List Gal) (hl:l.length<=1000000):Ct prog 22 [.d (cT l)] (vi (if Dr l then 0 else 22)) []:=by
 have c1:=mH 1 16 [(l.length:Int)] (by simp);cases hn:rgB 1 16 [(l.length:Int)]
 . rw [hn] at c1
   have hbad:Dr l=false:=by unfold Dr;simp [hn]
   refine CB func22 c22 fun E hE=>?_
   simp [p22,AA,AM];refine CLb (c1) (by simp [AG]) ?_;simp;apply RZ;simp [results22,hbad]
 rw [hn] at c1;refine CB func22 c22 fun E hE=>?_
 simp [p22,AA,AM];refine CLb (c1) (by simp [AG]) ?_;simp;refine Al (α:=Nat) (fun i=>⟨AO [(0, .d (cT l)),(10, .d (cT l)),(11,vi l.length),(12,vi i)],lk [],0⟩) (fun i=>i<=l.length/\∀ j,j<i->AAU l j=true) (fun i=>l.length-i) 0 ?_ ?_ ?_
 . exact ⟨by omega,fun j hj=>by omega⟩
 . exact WK hE (lk [])
 . rintro i ⟨hi,hg⟩
   by_cases h:i<l.length
   . obtain ⟨x,hx⟩:=gE h
     have hz:=@wz i (by omega);have hI:(i:Int)<l.length:=by omega
     have c2:=mH (-500) 9000 [x.h] (by simp);have c3:=mH 0 500 [x.g] (by simp);have c4:=xe x.xl x.xh (-1000) 1000;have c5:=xe x.yl x.yh (-1000) 1000;have eg:AAU l i=(rgB (-500) 9000 [x.h]&&(if i=0 then true else match l[i-1]? with | some y=>decide (y.h<x.h) | none=>true)&&rgB 0 500 [x.g]&&spB (-1000) 1000 x.xl x.xh&&spB (-1000) 1000 x.yl x.yh):=by unfold AAU;rw [hx]
     have fin:AAU l i=true->∀ j,j<i+1->AAU l j=true:=fun he j hj=>by
       by_cases e:j=i
       . rw [e];exact he
       . exact hg j (by omega)
     generalize rgB (-500) 9000 [x.h]=b1 at*
     generalize rgB 0 500 [x.g]=b2 at*
     generalize spB (-1000) 1000 x.xl x.xh=b3 at*
     generalize spB (-1000) 1000 x.yl x.yh=b4 at*
     cases b1
     . have hbad:=Fw h (by rw [eg];rfl)
       simp [AL7,hI,hx,AA,AM,inC,Nat.testBit];refine CLb (c2) (by simp [AG,inC,Nat.testBit]) ?_;simp;apply RZ;simp [results22,hbad]
     . by_cases h0:i=0
       . rw [if_pos h0] at eg
         have hI0:¬ 0<i:=by omega
         cases b2
         . have hbad:=Fw h (by rw [eg];rfl)
           simp [AL7,hI,hx,AA,AM,inC,Nat.testBit];refine CLb (c2) (by simp [AG,inC,Nat.testBit]) ?_;simp [AA,AM,hI0];refine CLb (c3) (by simp [AG]) ?_;simp;apply RZ;simp [results22,hbad]
         . cases b3
           . have hbad:=Fw h (by rw [eg];rfl)
             simp [AL7,hI,hx,AA,AM,inC,Nat.testBit];refine CLb (c2) (by simp [AG,inC,Nat.testBit]) ?_;simp [AA,AM,hI0];refine CLb (c3) (by simp [AG]) ?_;simp;refine CLa c4 ?_;simp;apply RZ;simp [results22,hbad]
           . simp [AL7,hI,hx,AA,AM,inC,Nat.testBit]
             refine CLb (c2) (by simp [AG,inC,Nat.testBit]) ?_;simp [AA,AM,hI0];refine CLb (c3) (by simp [AG]) ?_;simp;refine CLa c4 ?_;simp;refine CLa c5 ?_;cases b4
             . have hbad:=Fw h (by rw [eg];rfl)
               simp;apply RZ;simp [results22,hbad]
             . have hok:=fin (by rw [eg];rfl)
               simp [hz];refine ⟨i+1,⟨by omega,hok⟩,by omega,?_⟩;exact WK hE (lk [])
       . obtain ⟨y,hy⟩:∃ y,l[i-1]?= some y:=⟨_,List.getElem?_eq_getElem (by omega)⟩
         have hw:IntKind.wrap .i64 ((i:Int)-1)=((i-1:Nat):Int):=by rw [AD (by omega) (by omega)];omega
         have hI0:0<i:=by omega
         rw [if_neg h0,hy] at eg;simp only at eg;by_cases hc:x.h<=y.h
         . have hbad:=Fw h (by rw [eg,decide_eq_false (by omega)];simp)
           simp [AL7,hI,hx,AA,AM,inC,Nat.testBit];refine CLb (c2) (by simp [AG,inC,Nat.testBit]) ?_;simp [hI0,hw,hy,hc,inC,Nat.testBit];apply RZ;simp [results22,hbad]
         . rw [decide_eq_true (by omega:y.h<x.h)] at eg
           cases b2
           . have hbad:=Fw h (by rw [eg];rfl)
             simp [AL7,hI,hx,AA,AM,inC,Nat.testBit];refine CLb (c2) (by simp [AG,inC,Nat.testBit]) ?_;simp [AA,AM,hI0,hw,hy,hc,inC,Nat.testBit];refine CLb (c3) (by simp [AG]) ?_;simp;apply RZ;simp [results22,hbad]
           . cases b3
             . have hbad:=Fw h (by rw [eg];rfl)
               simp [AL7,hI,hx,AA,AM,inC,Nat.testBit];refine CLb (c2) (by simp [AG,inC,Nat.testBit]) ?_;simp [AA,AM,hI0,hw,hy,hc,inC,Nat.testBit];refine CLb (c3) (by simp [AG]) ?_;simp;refine CLa c4 ?_;simp;apply RZ;simp [results22,hbad]
             . simp [AL7,hI,hx,AA,AM,inC,Nat.testBit]
               refine CLb (c2) (by simp [AG,inC,Nat.testBit]) ?_;simp [AA,AM,hI0,hw,hy,hc,inC,Nat.testBit];refine CLb (c3) (by simp [AG]) ?_;simp;refine CLa c4 ?_;simp;refine CLa c5 ?_;cases b4
               . have hbad:=Fw h (by rw [eg];rfl)
                 simp;apply RZ;simp [results22,hbad]
               . have hok:=fin (by rw [eg];rfl)
                 simp [hz];refine ⟨i+1,⟨by omega,hok⟩,by omega,?_⟩;exact WK hE (lk [])
   . have e:i=l.length:=by omega
     have hnn:¬ (i:Int)<l.length:=by omega
     have hall:Dr l=true:=by
       unfold Dr;rw [hn,Bool.true_and,List.all_eq_true];intro j hj
       exact hg j (by
        have:j<l.length:=by simpa using hj
        omega)
     simp [AL7,hnn];apply RZ;simp [results22,hall]
structure Plt where
 cs:List Cel
 bt:Int
 ih:Int
 ia:Int
 vh:Int
 va:Int
 lh:Int
 la:Int
 ph:Int
 pa:Int
deriving DecidableEq
abbrev Cy (p:Plt) (c:V):V:= .agg [c,vi p.bt,vi p.ih,vi p.ia,vi p.vh,vi p.va,vi p.lh,vi p.la,vi p.ph,vi p.pa]
abbrev bkB (p:Int × Int):Bool:=rgB 0 1000000000000 [p.1,p.2]
def Li (p:Plt):List (Int × Int):=[(p.ih,p.ia),(p.vh,p.va),(p.lh,p.la),(p.ph,p.pa)]
def heS (l:List Cel):Int:=(l.map (·.he)).sum
def aiS (l:List Cel):Int:=(l.map (·.ai)).sum
def IR (p:Plt):Bool:=decide (p.cs.length<=12)&&rgB 0 10000000 [p.bt]&&(Li p).all bkB
def Ar (p:Plt):Bool:=IR p&&p.cs.all Je&&decide (p.bt+p.vh+p.lh+p.ph+heS p.cs=p.ih/\p.va+p.la+p.pa+aiS p.cs=p.ia)
theorem Yz {l:List Cel} {i:Nat} {c:Cel} (h:l[i]?= some c):heS (l.take (i+1))=heS (l.take i)+c.he:=by
 unfold heS;rw [List.take_add_one,h];simp
theorem tY {l:List Cel} {i:Nat} {c:Cel} (h:l[i]?= some c):aiS (l.take (i+1))=aiS (l.take i)+c.ai:=by
 unfold aiS;rw [List.take_add_one,h];simp
theorem Y1:∀ {l:List Cel},(∀ c∈l,B5 c)->0<=heS l/\heS l<=l.length*10000000
 | [],_=>by simp [heS]
 | c::l,h=>by
   have h1:=(h c (by simp)).he;have h2:=Y1 (l:=l) fun x hx=>h x (by simp [hx])
   unfold heS at h2 ⊢;simp only [List.map_cons,List.sum_cons,List.length_cons];omega
theorem Y2:∀ {l:List Cel},(∀ c∈l,B5 c)->0<=aiS l/\aiS l<=l.length*10000000
 | [],_=>by simp [aiS]
 | c::l,h=>by
   have h1:=(h c (by simp)).ai;have h2:=Y2 (l:=l) fun x hx=>h x (by simp [hx])
   unfold aiS at h2 ⊢;simp only [List.map_cons,List.sum_cons,List.length_cons];omega
theorem ACR (a b c d:Int) (h1:IntKind.wrap .i64 (a+c)=a+c) (h2:IntKind.wrap .i64 (b+d)=b+d):Ct prog 60 [vsp a b,vsp c d] (vsp (a+c) (b+d)) []:=by
 refine CB func60 c60 fun E hE=>?_
 simp [p60,AA,h1,h2];apply RZ;simp [results60]
theorem fn59 (p:Int × Int):Ct prog 59 [cr p] (vb (!bkB p)) []:=by
 have c1:=ALU 0 1000000000000 [p.1,p.2] (by simp);refine CB func59 c59 fun E hE=>?_
 simp [p59,AA,AM];refine CLb (c1) (by simp [Ap]) ?_;simp;apply RZ;simp [results59]
end Go.Proofs.Tryz
