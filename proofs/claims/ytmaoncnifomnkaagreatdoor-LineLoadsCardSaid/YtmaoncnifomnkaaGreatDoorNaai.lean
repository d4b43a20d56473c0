/- Own lemmas, used by the last text. Conditions: those that each theorem states. -/
import Derived.Test.YtmaoncnifomnkaaGreatDoorNaaf
import Derived.Test.YtmaoncnifomnkaaGreatDoorNaag
import Derived.Test.YtmaoncnifomnkaaGreatDoorNaah
import Derived.Test.YtmaoncnifomnkaaGreatDoorRows
set_option maxRecDepth 200000
set_option maxHeartbeats 8000000
namespace Go.Proofs.Tryz
open Go.Psl
open Go.Air
def upK (T:Tm):Nat->List Lev->List Lev
 | 0,l=>l
 | i+1,a::b::r=>a::upK T i (mt b (cyu T a b)::r)
 | _+1,l=>l
theorem AWt {a b:Lev} (h:Le a b) (r:List Lev):LeL (a::r) (b::r):=⟨h,LeL.refl r⟩
theorem M3 (T:Tm):∀ (i:Nat) (l:List Lev),LeL l (upK T i l)
 | 0,l=>LeL.refl l
 | _+1,[]=>trivial
 | _+1,[a]=>⟨Le.refl a,trivial⟩
 | i+1,a::b::r=>⟨Le.refl a,LeL.trans (AWt (MI b _) r) (M3 T i _)⟩
theorem AWu (T:Tm):∀ (i:Nat) (l:List Lev) (a b:Lev),(upK T i l)[i]?= some a->(upK T i l)[i+1]?= some b->upK T (i+1) l=(upK T i l).set (i+1) (mt b (cyu T a b))
 | 0,[],_,_,h,_=>by simp [upK] at h
 | 0,[x],_,_,_,h=>by simp [upK] at h
 | 0,x::y::r,a,b,ha,hb=>by
   simp [upK] at ha hb;subst ha hb;rfl
 | i+1,[],_,_,h,_=>by simp [upK] at h
 | i+1,[x],_,_,_,h=>by simp [upK] at h
 | i+1,x::y::r,a,b,ha,hb=>by
   have h1:upK T (i+1) (x::y::r)=x::upK T i (mt y (cyu T x y)::r):=rfl;have h2:upK T (i+1+1) (x::y::r)=x::upK T (i+1) (mt y (cyu T x y)::r):=rfl;rw [h1] at ha hb;rw [h1,h2,List.set_cons_succ];rw [AWu T i _ a b (by simpa using ha) (by simpa using hb)]
theorem Jz (T:Tm):∀ (i:Nat) (l:List Lev),l.length<=i+1->upK T i l=Jv T l
 | 0,[],_=>rfl
 | 0,[a],_=>rfl
 | 0,_::_::_,h=>by simp at h
 | i+1,[],_=>rfl
 | i+1,[a],_=>rfl
 | i+1,a::b::r,h=>by
   show a::upK T i (mt b (cyu T a b)::r)=a::mt b (cyu T a b)::upL T (mt b (cyu T a b)) r
   rw [Jz T i _ (by simpa using h)];rfl
def Pb (M:Int) (x:Lev):Prop:=(0<=x.pl/\x.pl<=M)/\0<=x.ph/\x.ph<=12000
theorem Pb.up {T:Tm} {M:Int} {a b:Lev} (hk:LkP T a b) (ha:Pb M a) (hb:Pb M b):Pb M (mt b (cyu T a b)):=by
 have h1:=Tn (c:=lc T a b) (s:=ls a b) (x:=a.pl) (by have:=hk.s0;have:=hk.sc;omega) (by have:=hk.s0;omega) ha.1.1;have h2:=Lk.pos3 hk (x:=a.ph) ha.2.1;have h3:=ha.1;have h4:=hb.1;have h5:=hb.2;unfold Pb Air.mt cyu;simp only;omega
theorem AUm {w s x:Int} (hw:0<w) (hs:s<=w) (hx:0<=x):Cz w s x<=2*x:=by
 unfold Cz
 have h1:x*(w+s)<=2*x*w:=by
   have:x*(w+s)<=x*(w+w):=Int.mul_le_mul_of_nonneg_left (by omega) hx;have e:x*(w+w)=2*x*w:=by grind
   omega
 have h2:=Int.ediv_le_ediv hw h1;rw [Int.mul_ediv_cancel _ (by omega)] at h2;exact h2
theorem Pb.dn {T:Tm} {M N:Int} {a b:Lev} (hk:LkP T a b) (ha:Pb N a) (hb:Pb M b) (hM:N<=2*M):Pb (2*M) (mt a (cyd T a b)):=by
 have q1:=hk.s0;have q2:=hk.sc;have q3:=hk.cw;have h1:=AUm (w:=lw T a b) (s:=ls a b) (x:=b.pl) (by omega) (by omega) hb.1.1;have h2:=Lk.pos2 hk (x:=b.ph) hb.2.1;have h3:=ha.1;have h4:=hb.1;have h5:=ha.2;unfold Pb Air.mt cyd;simp only;omega
theorem ANJ {T:Tm} {M:Int}:∀ (i:Nat) (l:List Lev),Lks T l->(∀ x∈l,Pb M x)->∀ x∈upK T i l,Pb M x
 | 0,l,_,h,x,hx=>h x hx
 | i+1,[],_,h,x,hx=>h x hx
 | i+1,[a],_,h,x,hx=>h x hx
 | i+1,a::b::r,hk,h,x,hx=>by
   have hx':x=a\/x∈upK T i (mt b (cyu T a b)::r):=by simpa [upK] using hx
   rcases hx' with rfl | hx'
   . exact h _ (by simp)
   . refine ANJ i _ (Lks.le (AWt (MI b _) r) hk.2) ?_ x hx'
     intro y hy;rcases List.mem_cons.1 hy with rfl | hy
     . exact Pb.up hk.1 (h a (by simp)) (h b (by simp))
     . exact h y (by simp [hy])
def dnK (T:Tm):Nat->List Lev->List Lev
 | 0,l=>dnS T l
 | i+1,a::r=>a::dnK T i r
 | _+1,[]=>[]
theorem M4 (T:Tm):∀ (i:Nat) (l:List Lev),LeL l (dnK T i l)
 | 0,l=>JE l
 | _+1,[]=>trivial
 | i+1,a::r=>⟨Le.refl a,M4 T i r⟩
theorem sE (T:Tm):∀ (i:Nat) (l:List Lev),l.length<=i+1->dnK T i l=l
 | 0,[],_=>rfl
 | 0,[a],_=>rfl
 | 0,_::_::_,h=>by simp at h
 | i+1,[],_=>rfl
 | i+1,a::r,h=>by
   show a::dnK T i r=a::r
   rw [sE T i r (by simpa using h)]
theorem AWv (T:Tm):∀ (j:Nat) (l:List Lev) (a b:Lev),(dnK T (j+1) l)[j+1]?= some a->(dnK T (j+1) l)[j]?= some b->dnK T j l=(dnK T (j+1) l).set j (mt b (cyd T b a))
 | 0,[],_,_,h,_=>by simp [dnK] at h
 | 0,x::r,a,b,ha,hb=>by
   have h1:dnK T 1 (x::r)=x::dnS T r:=rfl;rw [h1] at ha hb ⊢;have hbx:x=b:=by simpa using hb
   subst hbx;have ha':(dnS T r)[0]?= some a:=by simpa using ha
   cases hd:dnS T r with
   | nil=>rw [hd] at ha';cases ha'
   | cons y s=>
     rw [hd] at ha';cases ha'
     show dnC T x (dnS T r)=_
     rw [hd];rfl
 | j+1,[],_,_,h,_=>by simp [dnK] at h
 | j+1,x::r,a,b,ha,hb=>by
   have h1:dnK T (j+1+1) (x::r)=x::dnK T (j+1) r:=rfl;rw [h1] at ha hb ⊢
   show x::dnK T j r=_
   rw [List.set_cons_succ,<-AWv T j r a b (by simpa using ha) (by simpa using hb)]
theorem AUn {T:Tm} {M:Int} (hM:0<=M):∀ (l:List Lev) (n:Nat),l.length<=n+1->Lks T l->(∀ x∈l,Pb M x)->∀ x∈dnS T l,Pb (M*2^n) x
 | [],_,_,_,_,x,hx=>by simp [dnS] at hx
 | [a],n,_,_,h,x,hx=>by
   have e:x=a:=by simpa [dnS,dnC] using hx
   subst e;have:=h x (by simp)
   have p:(1:Int)<=2^n:=by
     have:=Nat.one_le_two_pow (n:=n)
     exact_mod_cast this
   have q:M*1<=M*2^n:=Int.mul_le_mul_of_nonneg_left p hM;have h1:=this.1;have h2:=this.2;unfold Pb;omega
 | a::b::r,0,h,_,_,_,_=>by simp at h
 | a::b::r,n+1,hl,hk,h,x,hx=>by
   have ih:=AUn hM (b::r) n (by simpa using hl) hk.2 fun y hy=>h y (by simp [List.mem_cons.1 hy])
   have p:(1:Int)<=2^n:=by
     have:=Nat.one_le_two_pow (n:=n)
     exact_mod_cast this
   have q:M*1<=M*2^n:=Int.mul_le_mul_of_nonneg_left p hM;have e2:M*2^(n+1)=2*(M*2^n):=by rw [Int.pow_succ];grind
   rw [e2];cases hd:dnS T (b::r) with
   | nil=>
     have:=(JE (T:=T) (b::r)).len;rw [hd] at this;simp at this
   | cons y s=>
     rw [hd] at ih
     have hx':x=mt a (cyd T a y)\/x∈y::s:=by
       have:x∈dnC T a (dnS T (b::r)):=hx;rw [hd] at this;exact List.mem_cons.1 this
     rcases hx' with rfl | hx'
     . have hle:=JE (T:=T) (b::r)
       rw [hd] at hle;refine Pb.dn (LkP.sam ⟨rfl,rfl,rfl⟩ hle.1.s hk.1) (h a (by simp)) (ih y (by simp)) (by omega)
     . have:=ih x hx'
       have h1:=this.1;have h2:=this.2;unfold Pb;omega
theorem Qt {T:Tm} {M:Int} (hM:0<=M) {n:Nat}:∀ (i:Nat) (l:List Lev),l.length<=n+1->Lks T l->(∀ x∈l,Pb M x)->∀ x∈dnK T i l,Pb (M*2^n) x
 | 0,l,hl,hk,h,x,hx=>AUn hM l n hl hk h x hx
 | i+1,[],_,_,_,x,hx=>by simp [dnK] at hx
 | i+1,a::r,hl,hk,h,x,hx=>by
   have p:(1:Int)<=2^n:=by
     have:=Nat.one_le_two_pow (n:=n)
     exact_mod_cast this
   have q:M*1<=M*2^n:=Int.mul_le_mul_of_nonneg_left p hM;have hx':x=a\/x∈dnK T i r:=by simpa [dnK] using hx
   have hk2:Lks T r:=by cases r with | nil=>trivial | cons b s=>exact hk.2
   rcases hx' with rfl | hx'
   . have:=h x (by simp)
     have h1:=this.1;have h2:=this.2;unfold Pb;omega
   . exact Qt hM i r (by simp at hl;omega) hk2 (fun y hy=>h y (by simp [hy])) x hx'
theorem EM:∀ {l m:List Lev},LeL l m->∀ (i:Nat) (y:Lev),m[i]?= some y->∃ x,l[i]?= some x/\Le x y
 | [],[],_,i,y,h=>by simp at h
 | [],_::_,h,_,_,_=>h.elim
 | _::_,[],h,_,_,_=>h.elim
 | a::l,b::m,h,0,y,hy=>by simp at hy;subst hy;exact ⟨a,rfl,h.1⟩
 | a::l,b::m,h,i+1,y,hy=>by
   obtain ⟨x,hx,hl⟩:=EM h.2 i y (by simpa using hy);exact ⟨x,by simpa using hx,hl⟩
theorem OkS.mono {l:List Lev} (h:OkS l):∀ (d i:Nat) (x y:Lev),l[i]?= some x->l[i+d]?= some y->x.h<=y.h
 | 0,i,x,y,hx,hy=>by
   rw [Nat.add_zero,hx] at hy;cases hy;omega
 | d+1,i,x,y,hx,hy=>by
   obtain ⟨z,hz⟩:∃ z,l[i+d]?= some z:=⟨_,List.getElem?_eq_getElem (by have:=(List.getElem?_eq_some_iff.1 hy).1;omega)⟩
   have h1:=h.mono d i x z hx hz;have h2:=h.step (i+d) z y hz hy;omega
theorem OkS.inS {l:List Lev} (h:OkS l) {i:Nat} {x:Lev} (hx:l[i]?= some x):E8 l x.h:=by
 have hi:=(List.getElem?_eq_some_iff.1 hx).1;refine ⟨fun k hk=>h.mono i 0 k x hk (by rw [Nat.zero_add];exact hx),fun k hk=>h.mono (l.length-1-i) i x k hx (by rw [show i+(l.length-1-i)=l.length-1 by omega];exact hk)⟩
theorem cM {T:Tm}:∀ {l:List Lev},(∀ (i:Nat) (x y:Lev),l[i]?= some x->l[i+1]?= some y->LkP T x y)->Lks T l
 | [],_=>trivial
 | [_],_=>trivial
 | a::b::r,h=>⟨h 0 a b rfl rfl,cM fun i x y hx hy=>h (i+1) x y (by simpa using hx) (by simpa using hy)⟩
theorem OkS.lks {l:List Lev} (h:OkS l):Lks (tmS (knT l)) l:=by
 refine cM fun i x y hx hy=>?_
 have ht:=(Oq h (h.inS hx) (h.inS hy)).p;have hs:=h.step i x y hx hy;unfold LkP lc lw ls;exact ⟨by omega,by omega,by omega⟩
theorem OkS.pos {l:List Lev} (h:OkS l):∀ x∈l,Pos x:=fun x hx=>by
 have:=(h.lev x hx).1;unfold Pos;omega
theorem OkS.pb {l:List Lev} (h:OkS l):∀ x∈l,Pb 12000 x:=fun x hx=>by
 have:=(h.lev x hx).1;unfold Pb;omega
theorem Pb.pr {x:Lev} {M:Int} (h:Pb M x) (hM:M<=400000000):PrB x:=by
 have h1:=h.1;have h2:=h.2;exact ⟨by omega,by omega⟩
theorem cN {l:List Lev} (h:OkS l) {S:Nat->List Lev} (hle:∀ i,LeL l (S i)) (hpb:∀ i,∀ x∈S i,Pb 393216000 x) (hnx:∀ i a b,(S i)[i]?= some a->(S i)[i+1]?= some b->S (i+1)=(S i).set (i+1) (mt b (cyu (tmS (knT l)) a b))):StU (knT l) l.length S:=by
 intro i hi;have hlen:=(hle i).len;obtain ⟨a,ha⟩:∃ a,(S i)[i]?= some a:=⟨_,List.getElem?_eq_getElem (by omega)⟩
 obtain ⟨b,hb⟩:∃ b,(S i)[i+1]?= some b:=⟨_,List.getElem?_eq_getElem (by omega)⟩
 obtain ⟨x,hx,lx⟩:=EM (hle i) i a ha;obtain ⟨y,hy,ly⟩:=EM (hle i) (i+1) b hb;have hs:=h.step i x y hx hy;have hr:=h.at' x (List.mem_of_getElem? hx);have ht:=Oq h (h.inS hx) (h.inS hy);have e1:=lx.s.1;have e2:=ly.s.1;rw [e1,e2] at ht;exact ⟨a,b,ha,hb,by omega,by omega,(hpb i a (List.mem_of_getElem? ha)).pr (by omega),ht,hnx i a b ha hb⟩
theorem cO {l:List Lev} (h:OkS l) {S:Nat->List Lev} (hle:∀ i,LeL l (S i)) (hpb:∀ i,∀ x∈S i,Pb 393216000 x) (hnx:∀ i a b,(S (i+1))[i+1]?= some a->(S (i+1))[i]?= some b->S i=(S (i+1)).set i (mt b (cyd (tmS (knT l)) b a))):StD (knT l) l.length S:=by
 intro i hi;have hlen:=(hle (i+1)).len;obtain ⟨a,ha⟩:∃ a,(S (i+1))[i+1]?= some a:=⟨_,List.getElem?_eq_getElem (by omega)⟩
 obtain ⟨b,hb⟩:∃ b,(S (i+1))[i]?= some b:=⟨_,List.getElem?_eq_getElem (by omega)⟩
 obtain ⟨x,hx,lx⟩:=EM (hle (i+1)) (i+1) a ha;obtain ⟨y,hy,ly⟩:=EM (hle (i+1)) i b hb;have hs:=h.step i y x hy hx;have hr:=h.at' x (List.mem_of_getElem? hx);have ht:=Oq h (h.inS hx) (h.inS hy);have e1:=lx.s.1;have e2:=ly.s.1;rw [e1,e2] at ht;exact ⟨a,b,ha,hb,by omega,by omega,(hpb (i+1) a (List.mem_of_getElem? ha)).pr (by omega),ht,hnx i a b ha hb⟩
theorem SW {T:Tm}:∀ {l:List Lev},Clo T l->∀ (i:Nat) (a b:Lev),l[i]?= some a->l[i+1]?= some b->mt b (cyu T a b)=b/\mt a (cyd T a b)=a
 | [],_,_,_,_,h,_=>by simp at h
 | [_],_,_,_,_,_,h=>by simp at h
 | x::y::r,h,0,a,b,ha,hb=>by
   simp at ha hb;subst ha hb;exact ⟨TU h.1.1,TU h.1.2⟩
 | x::y::r,h,i+1,a,b,ha,hb=>SW h.2 i a b (by simpa using ha) (by simpa using hb)
theorem Pn {α:Type} {l:List α} {i:Nat} {x:α} (h:l[i]?= some x):l.set i x=l:=by
 obtain ⟨hi,rfl⟩:=List.getElem?_eq_some_iff.1 h;exact List.set_getElem_self hi
abbrev swp (l:List Lev):List Lev:=O4 (tmS (knT l)) l
theorem Ew {T:Tm} {l:List Lev}:(Jv T l).length=l.length:=(GX l).len.symm
theorem Dj {l:List Lev}:(swp l).length=l.length:=(Es l).len.symm
section
variable {l:List Lev} (h:OkS l)
include h
theorem Po:StU (knT l) l.length (fun i=>upK (tmS (knT l)) i l):=
 cN h (fun i=>M3 _ i l) (fun i x hx=>by
   have:=ANJ i l h.lks h.pb x hx;have h1:=this.1;have h2:=this.2;unfold Pb;omega) fun i a b ha hb=>AWu _ i l a b ha hb
theorem jV:∀ x∈Jv (tmS (knT l)) l,Pb 12000 x:=fun x hx=>by
 rw [<-Jz _ l.length l (by omega)] at hx;exact ANJ _ l h.lks h.pb x hx
theorem Pp:StD (knT l) l.length (fun i=>dnK (tmS (knT l)) i (Jv (tmS (knT l)) l)):=
 cO h (fun i=>LeL.trans (GX l) (M4 _ i _)) (fun i x hx=>by
   have:=Qt (n:=15) (M:=12000) (by omega) i _ (by rw [Ew];have:=h.len;omega) (Lks.le (GX l) h.lks) (jV h) x hx;simpa using this) fun i a b ha hb=>AWv _ i _ a b ha hb
theorem Ns:Clo (tmS (knT l)) (swp l):=(NI h.lks h.pos).1
theorem AK1:∀ x∈swp l,Pb 393216000 x:=fun x hx=>by
 have:=Qt (n:=15) (M:=12000) (by omega) 0 _ (by rw [Ew];have:=h.len;omega) (Lks.le (GX l) h.lks) (jV h) x hx;simpa using this
theorem Pq:StU (knT l) l.length (fun _=>swp l):=
 cN h (fun _=>Es l) (fun _=>AK1 h) fun i a b ha hb=>by
   rw [(SW (Ns h) i a b ha hb).1,Pn hb]
theorem Ps:StD (knT l) l.length (fun _=>swp l):=
 cO h (fun _=>Es l) (fun _=>AK1 h) fun i a b ha hb=>by
   rw [(SW (Ns h) i b a hb ha).2,Pn hb]
end
end Go.Proofs.Tryz
namespace Go.Proofs.Tryz
open Go.Psl
open Go.Air
theorem ASj (x:Lev):Ct prog 156 [AYH x] (vb (decide (x.ph<x.pl))) []:=by
 refine CB func156 c156 fun E hE=>?_
 simp [p156];apply RZ;simp [results156]
def D3 (l:List Lev):List Lev × Int × Int:=
 if GC l then (if 0<=ixF (fun x:Lev=>decide (x.ph<x.pl)) (swp l) then ([],ixF (fun x:Lev=>decide (x.ph<x.pl)) (swp l),21) else (swp l,0,0)) else ([],0,20)
abbrev gz (r:List Lev × Int × Int):V:= .tup [.d (BF r.1),vi r.2.1,vi r.2.2]
theorem SK (l:List Lev) (hl:l.length<=1000000) (h:GC l=false):Ct prog 73 [.d (BF l)] (.tup [.d (.lit (.slice none 0 0)),vi 0,vi 20]) []:=by
 have c1:=zN l hl;rw [h] at c1;refine CB func73 c73 fun E hE=>?_
 simp [p73];refine CLa c1 ?_;simp;apply RZ;simp [results73]
theorem mC {ws:List Lev} (h:ws=[]):∀ H:Hp,Bor H (.d (.lit (.slice none 0 0))) (.d (BF ws)):=fun H=>by
 subst h;exact Or.inr ⟨rfl,5,rfl⟩
theorem JO {ws:List Lev} {n:Nat} {b:Nat} (h:ws.length=n):∀ H:Hp,H b=some (AH A5 ws)->Bor H (.ls b 0 n 5) (.d (BF ws)):=fun H hh=>by
 subst h;exact B0 (f:=A5) hfl (l:=ws) hh
theorem Io (l:List Lev) (h:OkS l) (m:List Lev) (SU SD:Nat->List Lev) (hlm:m.length=l.length) (hU:StU (knT l) l.length SU) (hD:StD (knT l) l.length SD) (lU:∀ i,(SU i).length=l.length) (lD:∀ i,(SD i).length=l.length) (e0:SU 0=m) (e1:SU (l.length-1)=SD (l.length-1)) (e2:SD 0=swp l) (ws:List Lev) (hws:ws=[]) (hd:decide (ws=m)=false) (k:Nat) (hk:k<2) {E:Ent} (hE:∀ i,¬ E.stab i) (C:Nat->St) (hC:C (k+1)=⟨AO [(6, .lp 0 0),(8, .cl 151 [.lp 0 0, .lp 2 0]),(9, .ls 3 0 l.length 5)],lk [(0,[.ls 1 0 l.length 5]),(2,[.d (thD (knT l))]),(1,AH A5 (swp l)),(3,AH A5 m)],4⟩) {Q:Av->St->Prop}:PW prog tys eqs E AVp
   (DP (fun st'=>∃ j,j<=2/\2-j<2-k/\AI prog E st' (C j)) Q)
   ⟨AO [(6, .lp 0 0),(8, .cl 151 [.lp 0 0, .lp 2 0]),(9, .d (.lit (.slice none 0 0)))],lk [(0,[.ls 1 0 l.length 5]),(2,[.d (thD (knT l))]),(1,AH A5 m)],3⟩:=by
 have bw:=mC hws;have hlen:=h.len;have c1:=ACk ws m (by first | (rw [hws];simp;done) | omega) (by omega);rw [hd] at c1;have hm0:m≠[]:=by intro e;rw [e] at hlm;simp at hlm;omega
 have c2:=AED m (by omega) hm0;rw [hlm] at c2
 have bm:∀ H:Hp,H 1=some (AH A5 m)->Bor H (.ls 1 0 l.length 5) (.d (BF m)):=fun H hh=>by
   have:=B0 (f:=A5) hfl (l:=m) hh;rw [hlm] at this;exact this
 have hn1:IntKind.wrap .i64 ((l.length:Int)-1)=(l.length:Int)-1:=AD (by omega) (by omega);simp [AVp];refine CLb (c1) (by simp [bw,bm]) ?_;simp;refine AU.mk _ _ _ (c2) (by simp [bm]) (by simp) (by first | (left;simp;done) | (right;simp;done) | (right;simp;exact of_eq_true KD)) ?_;simp [hn1];refine BL (α:=Nat) 2 (fun _:Unit=>⟨AO [(6, .lp 0 0),(8, .cl 151 [.lp 0 0, .lp 2 0]),(9, .ls 3 0 l.length 5)],lk [(0,[.ls 1 0 l.length 5]),(2,[.d (thD (knT l))]),(3,AH A5 m),(1,AH A5 (SU (l.length-1)))],4⟩) (fun _=>True) (fun j=>⟨AO [(6, .lp 0 0),(8, .cl 151 [.lp 0 0, .lp 2 0]),(9, .ls 3 0 l.length 5),(31,vi ((l.length:Int)-1)),(32,vi j)],lk [(0,[.ls 1 0 l.length 5]),(2,[.d (thD (knT l))]),(3,AH A5 m),(1,AH A5 (SU j))],4⟩) (fun j=>j<=l.length-1) (fun j=>l.length-1-j) 0 ?_ ?_ (MX (knT l) m l.length SU (by rw [Dg];omega) (by omega) lU hU hE) fun _ _=>?_
 . omega
 . rw [e0]
   exact WK hE (lk [(0,0),(1,1),(2,2),(3,5242883)])
 . simp [hn1]
   refine BL (α:=Nat) 4 (fun _:Unit=>⟨AO [(6, .lp 0 0),(8, .cl 151 [.lp 0 0, .lp 2 0]),(9, .ls 3 0 l.length 5)],lk [(0,[.ls 1 0 l.length 5]),(2,[.d (thD (knT l))]),(3,AH A5 m),(1,AH A5 (SD 0))],4⟩) (fun _=>True) (fun j=>⟨AO [(6, .lp 0 0),(8, .cl 151 [.lp 0 0, .lp 2 0]),(9, .ls 3 0 l.length 5),(11,vi j)],lk [(0,[.ls 1 0 l.length 5]),(2,[.d (thD (knT l))]),(3,AH A5 m),(1,AH A5 (SD j))],4⟩) (fun j=>j<=l.length-1) (fun j=>j) (l.length-1) ?_ ?_ (MY (knT l) m l.length SD (by rw [Dg];omega) (by omega) lD hD hE) fun _ _=>?_
   . omega
   . rw [<-e1]
     have hc:((l.length-1:Nat):Int)=(l.length:Int)-1:=by omega
     rw [hc];exact WK hE (lk [(0,0),(1,1),(2,2),(3,3)])
   . rw [e2]
     simp;refine ⟨k+1,by omega,by omega,?_⟩;rw [hC];exact WK hE (lk [(0,0),(1,1),(2,2),(3,3)])
theorem Jj (l:List Lev) (h:OkS l) (m:List Lev) (SU SD:Nat->List Lev) (hlm:m.length=l.length) (hU:StU (knT l) l.length SU) (hD:StD (knT l) l.length SD) (lU:∀ i,(SU i).length=l.length) (lD:∀ i,(SD i).length=l.length) (e0:SU 0=m) (e1:SU (l.length-1)=SD (l.length-1)) (e2:SD 0=swp l) (ws:List Lev) (hws:ws.length=l.length) (hd:decide (ws=m)=false) (k:Nat) (hk:k<2) {E:Ent} (hE:∀ i,¬ E.stab i) (C:Nat->St) (hC:C (k+1)=⟨AO [(6, .lp 0 0),(8, .cl 151 [.lp 0 0, .lp 2 0]),(9, .ls 3 0 l.length 5)],lk [(0,[.ls 1 0 l.length 5]),(2,[.d (thD (knT l))]),(1,AH A5 (swp l)),(3,AH A5 m)],4⟩) {Q:Av->St->Prop}:PW prog tys eqs E AVp
   (DP (fun st'=>∃ j,j<=2/\2-j<2-k/\AI prog E st' (C j)) Q)
   ⟨AO [(6, .lp 0 0),(8, .cl 151 [.lp 0 0, .lp 2 0]),(9, .ls 3 0 l.length 5)],lk [(0,[.ls 1 0 l.length 5]),(2,[.d (thD (knT l))]),(1,AH A5 m),(3,AH A5 ws)],4⟩:=by
 have bw:=JO (b:=3) hws;have hlen:=h.len;have c1:=ACk ws m (by first | (rw [hws];simp;done) | omega) (by omega);rw [hd] at c1;have hm0:m≠[]:=by intro e;rw [e] at hlm;simp at hlm;omega
 have c2:=AED m (by omega) hm0;rw [hlm] at c2
 have bm:∀ H:Hp,H 1=some (AH A5 m)->Bor H (.ls 1 0 l.length 5) (.d (BF m)):=fun H hh=>by
   have:=B0 (f:=A5) hfl (l:=m) hh;rw [hlm] at this;exact this
 have hn1:IntKind.wrap .i64 ((l.length:Int)-1)=(l.length:Int)-1:=AD (by omega) (by omega);simp [AVp];refine CLb (c1) (by simp [bw,bm]) ?_;simp;refine AU.mk _ _ _ (c2) (by simp [bm]) (by simp) (by first | (left;simp;done) | (right;simp;done) | (right;simp;exact of_eq_true KD)) ?_;simp [hn1];refine BL (α:=Nat) 2 (fun _:Unit=>⟨AO [(6, .lp 0 0),(8, .cl 151 [.lp 0 0, .lp 2 0]),(9, .ls 3 0 l.length 5)],lk [(0,[.ls 1 0 l.length 5]),(2,[.d (thD (knT l))]),(3,AH A5 m),(1,AH A5 (SU (l.length-1)))],4⟩) (fun _=>True) (fun j=>⟨AO [(6, .lp 0 0),(8, .cl 151 [.lp 0 0, .lp 2 0]),(9, .ls 3 0 l.length 5),(31,vi ((l.length:Int)-1)),(32,vi j)],lk [(0,[.ls 1 0 l.length 5]),(2,[.d (thD (knT l))]),(3,AH A5 m),(1,AH A5 (SU j))],4⟩) (fun j=>j<=l.length-1) (fun j=>l.length-1-j) 0 ?_ ?_ (MX (knT l) m l.length SU (by rw [Dg];omega) (by omega) lU hU hE) fun _ _=>?_
 . omega
 . rw [e0]
   exact WK hE (lk [(0,0),(1,1),(2,2),(3,5242884)])
 . simp [hn1]
   refine BL (α:=Nat) 4 (fun _:Unit=>⟨AO [(6, .lp 0 0),(8, .cl 151 [.lp 0 0, .lp 2 0]),(9, .ls 3 0 l.length 5)],lk [(0,[.ls 1 0 l.length 5]),(2,[.d (thD (knT l))]),(3,AH A5 m),(1,AH A5 (SD 0))],4⟩) (fun _=>True) (fun j=>⟨AO [(6, .lp 0 0),(8, .cl 151 [.lp 0 0, .lp 2 0]),(9, .ls 3 0 l.length 5),(11,vi j)],lk [(0,[.ls 1 0 l.length 5]),(2,[.d (thD (knT l))]),(3,AH A5 m),(1,AH A5 (SD j))],4⟩) (fun j=>j<=l.length-1) (fun j=>j) (l.length-1) ?_ ?_ (MY (knT l) m l.length SD (by rw [Dg];omega) (by omega) lD hD hE) fun _ _=>?_
   . omega
   . rw [<-e1]
     have hc:((l.length-1:Nat):Int)=(l.length:Int)-1:=by omega
     rw [hc];exact WK hE (lk [(0,0),(1,1),(2,2),(3,3)])
   . rw [e2]
     simp;refine ⟨k+1,by omega,by omega,?_⟩;rw [hC];exact WK hE (lk [(0,0),(1,1),(2,2),(3,3)])
abbrev unf (x:Lev):Bool:=decide (x.ph<x.pl)
def Pk (l:List Lev):Nat->St
 | 0=>⟨AO [(6, .lp 0 0),(8, .cl 151 [.lp 0 0, .lp 2 0]),(9, .d (.lit (.slice none 0 0)))],lk [(0,[.ls 1 0 l.length 5]),(2,[.d (thD (knT l))]),(1,AH A5 l)],3⟩
 | 1=>⟨AO [(6, .lp 0 0),(8, .cl 151 [.lp 0 0, .lp 2 0]),(9, .ls 3 0 l.length 5)],lk [(0,[.ls 1 0 l.length 5]),(2,[.d (thD (knT l))]),(1,AH A5 (swp l)),(3,AH A5 l)],4⟩
 | _=>⟨AO [(6, .lp 0 0),(8, .cl 151 [.lp 0 0, .lp 2 0]),(9, .ls 3 0 l.length 5)],lk [(0,[.ls 1 0 l.length 5]),(2,[.d (thD (knT l))]),(1,AH A5 (swp l)),(3,AH A5 (swp l))],4⟩
theorem FN (l:List Lev) (h:OkS l) (ws:List Lev) (hws:ws=swp l) (_:Nat) {E:Ent} (hE:∀ i,¬ E.stab i) {Q:Av->St->Prop} {S:St->Prop}:PW prog tys eqs E AVp
   (DP S (exC prog E Q 0 (fun _:Unit=>⟨AO [(6, .lp 0 0),(8, .cl 151 [.lp 0 0, .lp 2 0])],lk [(0,[.ls 1 0 l.length 5]),(2,[.d (thD (knT l))]),(1,AH A5 (swp l))],3⟩) (fun _=>True)))
   ⟨AO [(6, .lp 0 0),(8, .cl 151 [.lp 0 0, .lp 2 0]),(9, .ls 3 0 l.length 5)],lk [(0,[.ls 1 0 l.length 5]),(2,[.d (thD (knT l))]),(1,AH A5 (swp l)),(3,AH A5 ws)],4⟩:=by
 have hlen:=h.len;subst hws;have hl2:=Dj (l:=l);have c1:=ACk (swp l) (swp l) (by omega) (by omega);have bw:=JO (b:=3) hl2;have bm:=JO (b:=1) hl2;simp only [decide_true] at c1;simp [AVp];refine CLb (c1) (by simp [bw,bm]) ?_;simp;exact WK hE (lk [(0,0),(1,1),(2,2)])
theorem tP (l:List Lev) (h:OkS l) (hq:0<=ixF unf (swp l)):Ct prog 73 [.d (BF l)] (.tup [.d (.lit (.slice none 0 0)),vi (ixF unf (swp l)),vi 21]) []:=by
 have hlen:=h.len;have h0:l≠[]:=by intro e;rw [e] at hlen;simp at hlen
 have hl2:=Dj (l:=l);have c1:=zN l (by omega);rw [B8.2 h] at c1;have c2:=AED l (by omega) h0;have c3:=AXr l (by omega) h0;have c4:=UA (swp l) 156 [] unf (by omega) fun x _=>ASj x
 have bm:=JO (b:=1) hl2;refine CB func73 c73 fun E hE=>?_
 simp [p73];refine CLa c1 ?_;simp;refine CLa c2 ?_;simp;refine CLa c3 ?_;simp [AA];refine BL (α:=Nat) 0 (fun _:Unit=>⟨AO [(6, .lp 0 0),(8, .cl 151 [.lp 0 0, .lp 2 0])],lk [(0,[.ls 1 0 l.length 5]),(2,[.d (thD (knT l))]),(1,AH A5 (swp l))],3⟩) (fun _=>True) (Pk l) (fun k=>k<=2) (fun k=>2-k) 0 ?_ ?_ ?_ fun _ _=>?_
 . omega
 . unfold Pk
   exact WK hE (lk [(0,12582912),(1,9437184),(2,13631488)])
 . intro k hk
   match k,hk with
   | 0,_=>
     exact Io l h l _ _ rfl (Po h) (Pp h) (fun i=>(M3 _ i l).len.symm) (fun i=>by rw [<-(M4 _ i _).len,Ew]) rfl (by
       show upK _ _ l=dnK _ _ _
       rw [Jz _ _ _ (by omega),sE _ _ _ (by rw [Ew];omega)]) rfl [] rfl (by simpa using h0) 0 (by omega) hE (Pk l) rfl
   | 1,_=>
     by_cases he:l=swp l
     . exact FN l h l he 1 hE
     . exact Jj l h (swp l) _ _ hl2 (Pq h) (Ps h) (fun _=>hl2) (fun _=>hl2) rfl rfl rfl l rfl (by simpa using he) 1 (by omega) hE (Pk l) rfl
   | 2,_=>exact FN l h (swp l) rfl 2 hE
   | k+3,hk=>omega
 . simp
   refine CLb (c4) (by simp [bm]) ?_;simp [hq];apply RZ;simp [results73]
theorem SQ (l:List Lev) (h:OkS l) (hq:¬ 0<=ixF unf (swp l)):Ct prog 73 [.d (BF l)] (.tup [.ls 0 0 l.length 5,vi 0,vi 0]) [(0,AH A5 (swp l))]:=by
 have hlen:=h.len;have h0:l≠[]:=by intro e;rw [e] at hlen;simp at hlen
 have hl2:=Dj (l:=l);have c1:=zN l (by omega);rw [B8.2 h] at c1;have c2:=AED l (by omega) h0;have c3:=AXr l (by omega) h0;have c4:=UA (swp l) 156 [] unf (by omega) fun x _=>ASj x
 have bm:=JO (b:=1) hl2;refine CB func73 c73 fun E hE=>?_
 simp [p73];refine CLa c1 ?_;simp;refine CLa c2 ?_;simp;refine CLa c3 ?_;simp [AA];refine BL (α:=Nat) 0 (fun _:Unit=>⟨AO [(6, .lp 0 0),(8, .cl 151 [.lp 0 0, .lp 2 0])],lk [(0,[.ls 1 0 l.length 5]),(2,[.d (thD (knT l))]),(1,AH A5 (swp l))],3⟩) (fun _=>True) (Pk l) (fun k=>k<=2) (fun k=>2-k) 0 ?_ ?_ ?_ fun _ _=>?_
 . omega
 . unfold Pk
   exact WK hE (lk [(0,12582912),(1,9437184),(2,13631488)])
 . intro k hk
   match k,hk with
   | 0,_=>
     exact Io l h l _ _ rfl (Po h) (Pp h) (fun i=>(M3 _ i l).len.symm) (fun i=>by rw [<-(M4 _ i _).len,Ew]) rfl (by
       show upK _ _ l=dnK _ _ _
       rw [Jz _ _ _ (by omega),sE _ _ _ (by rw [Ew];omega)]) rfl [] rfl (by simpa using h0) 0 (by omega) hE (Pk l) rfl
   | 1,_=>
     by_cases he:l=swp l
     . exact FN l h l he 1 hE
     . exact Jj l h (swp l) _ _ hl2 (Pq h) (Ps h) (fun _=>hl2) (fun _=>hl2) rfl rfl rfl l rfl (by simpa using he) 1 (by omega) hE (Pk l) rfl
   | 2,_=>exact FN l h (swp l) rfl 2 hE
   | k+3,hk=>omega
 . simp
   refine CLb (c4) (by simp [bm]) ?_;simp [hq];refine AB.by (lk [(0,1)]) ?_;simp [results73]
theorem ASV (l:List Lev) (hl:l.length<=1000000):Ct prog 73 [.d (BF l)] (gz (D3 l)) []:=by
 cases h:GC l
 . refine Cm.freeze (SK l hl h) ?_
   unfold D3;rw [h];exact ⟨Or.inr ⟨rfl,5,rfl⟩,Or.inl rfl,Or.inl rfl,trivial⟩
 . have ho:=B8.1 h
   by_cases hq:0<=ixF unf (swp l)
   . refine Cm.freeze (tP l ho hq) ?_
     unfold D3;rw [h,if_pos rfl,if_pos hq];exact ⟨Or.inr ⟨rfl,5,rfl⟩,Or.inl rfl,Or.inl rfl,trivial⟩
   . refine Cm.freeze (SQ l ho hq) ?_
     unfold D3;rw [h,if_pos rfl,if_neg hq];refine ⟨?_,Or.inl rfl,Or.inl rfl,trivial⟩;have:=JO (ws:=swp l) (b:=0) (Dj (l:=l)) (lk [(0,AH A5 (swp l))]) (by simp);exact this
theorem qC (x:Lev) (h:Int) (hw:IntKind.wrap .i64 (x.h-h)=x.h-h):Ct prog 182 [AYH x,vi h] (vi (x.h-h)) []:=by
 refine CB func182 c182 fun E hE=>?_
 simp [p182,hw];apply RZ;simp [results182]
def Ii (s:List Lev) (h:Int):Nat:=(s.takeWhile fun x=>decide (x.h<h)).length
def RF (s:List Lev) (h:Int):Bool:=match s[Ii s h]? with
 | some x=>decide (x.h=h)
 | none=>false
theorem Zj (s:List Lev) (h:Int):Ii s h<=s.length:=by
 unfold Ii;exact (List.takeWhile_sublist _).length_le
theorem NN:∀ (s:List Lev) (h:Int) (i:Nat) (x:Lev),s[i]?= some x->i<Ii s h->x.h<h
 | [],_,_,_,hx,_=>by simp at hx
 | a::s,h,i,x,hx,hi=>by
   unfold Ii at hi;by_cases hc:a.h<h
   . cases i with
     | zero=>simp at hx;subst hx;exact hc
     | succ i=>
       simp [hc] at hi hx;exact NN s h i x hx (by unfold Ii;exact hi)
   . simp [hc] at hi
theorem Zk:∀ (s:List Lev) (h:Int) (x:Lev),s[Ii s h]?= some x->h<=x.h
 | [],_,_,hx=>by simp at hx
 | a::s,h,x,hx=>by
   unfold Ii at hx;by_cases hc:a.h<h
   . simp [hc] at hx
     exact Zk s h x (by unfold Ii;exact hx)
   . simp [hc] at hx
     subst hx;omega
theorem qB (s:List Lev) (h:Int) (hl:s.length<=1000000) (hb:∀ x∈s,IntKind.wrap .i64 (x.h-h)=x.h-h) (hm:∀ (i:Nat) (x:Lev),s[i]?= some x->Ii s h<=i->h<=x.h):Ct prog 181 [.d (BF s),vi h, .d (.fn 182 [])] (.tup [vi (Ii s h),vb (RF s h)]) []:=by
 have hp:=Zj s h;obtain ⟨r,hr⟩:∃ r,Ii s h=r:=⟨_,rfl⟩
 have hmf:∀ (i:Nat) (x:Lev),s[i]?= some x->i<r->x.h<h:=fun i x hx hi=>NN s h i x hx (by omega)
 have hh:RF s h=match s[r]? with | some x=>decide (x.h=h) | none=>false:=by unfold RF;rw [hr]
 rw [hr] at hp hm;rw [hr,hh];refine CB func181 c181 fun E hE=>?_
 simp [p181];refine Al (α:=Nat × Nat) (fun x=>⟨AO [(0, .d (BF s)),(1,vi h),(2, .d (.fn 182 [])),(8,vi s.length),(9,vi x.1),(10,vi x.2)],lk [],0⟩) (fun x=>x.1<=r/\r<=x.2/\x.2<=s.length) (fun x=>x.2-x.1) (0,s.length) ?_ ?_ ?_
 . simp;omega
 . exact WK hE (lk [])
 . rintro ⟨lo,hi⟩ ⟨g1,g2,g3⟩
   simp only at g1 g2 g3;simp [APN];by_cases hlt:lo<hi
   . have e1:IntKind.wrap .i64 ((lo:Int)+hi)=(lo:Int)+hi:=AD (by omega) (by omega)
     obtain ⟨m,hm'⟩:∃ m:Nat,m=(lo+hi)/2:=⟨_,rfl⟩
     have e2:IntKind.wrap .u64 ((lo:Int)+hi)=(lo:Int)+hi:=Ay (by omega) (by omega);have e3:IntKind.wrap .i64 (((lo:Int)+hi)/2)=(m:Int):=by rw [AD (by omega) (by omega)];omega
     have e4:IntKind.wrap .i64 ((m:Int)+1)=((m+1:Nat):Int):=by rw [AD (by omega) (by omega)];rfl
     simp only [Int.natCast_add,Int.cast_ofNat_Int] at e4;obtain ⟨x,hx⟩:∃ x,s[m]?= some x:=⟨_,List.getElem?_eq_getElem (by omega)⟩
     have c:=qC x h (hb x (List.mem_of_getElem? hx));have hml:(m:Int)<s.length:=by omega
     simp [hlt,e1,e2,e3,hx];refine CLa c ?_;by_cases hpm:x.h-h<0
     . have:m<r:=Nat.not_le.1 fun h=>by have:=hm m x hx h;omega
       simp [hpm,e4];refine ⟨m+1,hi,⟨by omega,by omega,by omega⟩,by omega,?_⟩;exact WK hE (lk [])
     . have:r<=m:=Nat.not_lt.1 fun h=>by have:=hmf m x hx h;omega
       simp [hpm];refine ⟨lo,m,⟨by omega,by omega,by omega⟩,by omega,?_⟩;exact WK hE (lk [])
   . have:lo=r:=by omega
     subst this;by_cases hlr:lo<s.length
     . obtain ⟨x,hx⟩:=gE hlr
       have c:=qC x h (hb x (List.mem_of_getElem? hx));have hlr':(lo:Int)<s.length:=by omega
       have ez:decide (x.h-h=0)=decide (x.h=h):=decide_eq_decide.2 (by omega);simp [hlt,hlr',hx];refine CLa c ?_;simp [ez];apply RZ;simp [results181]
     . have hn:¬ (lo:Int)<s.length:=by omega
       have hx:s[lo]?= none:=List.getElem?_eq_none (by omega);simp [hlt,hn,hx];apply RZ;simp [results181]
theorem TY {T:Tm} {x:Int}:∀ (i:Nat) (s:List Lev) (y:Lev),s[i]?= some y->y.h=x->(∀ (j:Nat) (z:Lev),j<i->s[j]?= some z->z.h<x)->prs T s x=(y.pl,y.ph)
 | _,[],_,h,_,_=>by simp at h
 | 0,[c],y,h,_,_=>by simp at h;subst h;rfl
 | 0,c::d::r,y,h,e,_=>by
   simp at h;subst h;unfold prs;rw [if_pos (by omega)]
 | i+1,[c],y,h,_,_=>by simp at h
 | i+1,c::d::r,y,h,e,hj=>by
   have h1:=hj 0 c (by omega) rfl
   have h2:d.h<=x:=by
     cases i with
     | zero=>simp at h;subst h;omega
     | succ i=>have:=hj 1 d (by omega) rfl;omega
   unfold prs;rw [if_neg (by omega),if_neg (by omega)];exact TY i (d::r) y (by simpa using h) e fun j z hji hz=>hj (j+1) z (by omega) (by simpa using hz)
theorem TZ {T:Tm} {x:Int}:∀ (i:Nat) (s:List Lev) (a b:Lev),s[i]?= some a->s[i+1]?= some b->x<b.h->(∀ (j:Nat) (z:Lev),j<=i->s[j]?= some z->z.h<x)->prs T s x=(max (CY (lc T a b) (341632*(x-a.h)) a.pl) b.pl,C9 (lw T a b) (341632*(x-a.h)) a.ph)
 | _,[],_,_,h,_,_,_=>by simp at h
 | 0,[c],_,_,_,h,_,_=>by simp at h
 | 0,c::d::r,a,b,ha,hb,hx,hj=>by
   simp at ha hb;subst ha hb;have h1:=hj 0 c (by omega) rfl;unfold prs;rw [if_neg (by omega),if_pos hx]
 | i+1,[c],_,_,h,_,_,_=>by simp at h
 | i+1,c::d::r,a,b,ha,hb,hx,hj=>by
   have h1:=hj 0 c (by omega) rfl;have h2:=hj 1 d (by omega) rfl;unfold prs;rw [if_neg (by omega),if_neg (by omega)];exact TZ i (d::r) a b (by simpa using ha) (by simpa using hb) hx fun j z hji hz=>hj (j+1) z (by omega) (by simpa using hz)
theorem jJ (s:List Lev) (x:Int) (h:OkS s) (hx:E8 s x):Ct prog 180 [vi x, .d (.ref [BF s]), .d (.ref [thD (knT s)])] (vsp (prs (tmS (knT s)) s x).1 (prs (tmS (knT s)) s x).2) []:=by
 have hlen:=h.len;have hp:=Zj s x;obtain ⟨e0,he0⟩:∃ e0,s[0]?= some e0:=⟨_,List.getElem?_eq_getElem (by omega)⟩
 obtain ⟨e1,he1⟩:∃ e1,s[s.length-1]?= some e1:=⟨_,List.getElem?_eq_getElem (by omega)⟩
 have hx0:=hx.1 e0 he0;have hx1:=hx.2 e1 he1;have hb0:=h.at' e0 (List.mem_of_getElem? he0);have hb1:=h.at' e1 (List.mem_of_getElem? he1)
 have hlt:Ii s x<s.length:=Nat.not_le.1 fun hge=>by
   have:=NN s x (s.length-1) e1 he1 (by omega);omega
 obtain ⟨r,hr⟩:∃ r,Ii s x=r:=⟨_,rfl⟩
 rw [hr] at hlt;obtain ⟨b,hb⟩:=gE hlt;have hbx:x<=b.h:=Zk s x b (by rw [hr];exact hb);have hin:∀ (j:Nat) (z:Lev),j<r->s[j]?= some z->z.h<x:=fun j z hj hz=>NN s x j z hz (by omega)
 have c1:=qB s x (by omega) (fun y hy=>by have:=h.at' y hy;exact AD (by omega) (by omega)) (fun i y hy hi=>by
   have:=h.mono (i-r) r b y hb (by rw [show r+(i-r)=i by omega];exact hy);omega)
 have hbb:=h.lev b (List.mem_of_getElem? hb);have hbh:=h.at' b (List.mem_of_getElem? hb);have hI:(r:Int)<s.length:=by omega
 rw [hr] at c1;by_cases hit:b.h=x
 . have hh:RF s x=true:=by unfold RF;rw [hr,hb];simpa using hit
   rw [hh] at c1;rw [TY r s b hb hit hin];refine CB func180 Acc fun E hE=>?_
   simp [p180];refine CLa c1 ?_;simp [AA,hb];apply RZ;simp [results180]
 . have hh:RF s x=false:=by unfold RF;rw [hr,hb];simpa using hit
   rw [hh] at c1
   have hr1:1<=r:=Nat.not_lt.1 fun h0=>by
     have:r=0:=by omega
     subst this;rw [he0] at hb;cases hb;omega
   obtain ⟨q,hq⟩:∃ q,r=q+1:=⟨r-1,by omega⟩
   obtain ⟨a,ha⟩:∃ a,s[q]?= some a:=⟨_,List.getElem?_eq_getElem (by omega)⟩
   rw [TZ q s a b ha (by rw [<-hq];exact hb) (by omega) fun j z hj hz=>hin j z (by omega) hz];have hax:=hin q a (by omega) ha;have hs:=h.step q a b ha (by rw [<-hq];exact hb);have hal:=(h.lev a (List.mem_of_getElem? ha)).1;have hah:=h.at' a (List.mem_of_getElem? ha);have ht:=(Oq h (h.inS ha) (h.inS hb)).p;have hw:IntKind.wrap .i64 ((r:Int)-1)=(q:Int):=by rw [AD (by omega) (by omega)];omega
   have hw2:IntKind.wrap .i64 (x-a.h)=x-a.h:=AD (by omega) (by omega);have hQ:(q:Int)<s.length:=by omega
   have c2:=jI (knT s) a.h b.h (by rw [Dg];omega);have c3:=O6 a.pl a.ph (x-a.h) (tmS (knT s) a.h b.h).1 (tmS (knT s) a.h b.h).2 (by omega) (by omega) (by omega) ht;refine CB func180 Acc fun E hE=>?_
   simp [p180];refine CLa c1 ?_;simp;refine AL [(11,19922944)] (by kernel_rfl) ?_;simp [AA,ha,hb,hw,hw2,inC,Nat.testBit];refine CLa c2 ?_;simp [inC,Nat.testBit];refine CLa c3 ?_;simp [AA];apply RZ;simp [results180,lc,lw]
theorem Yt:∀ {l m:List Lev},LeL l m->knT l=knT m
 | [],[],_=>rfl
 | [],_::_,h=>h.elim
 | _::_,[],h=>h.elim
 | a::l,b::m,h=>by
   unfold knT;rw [List.map_cons,List.map_cons];have:=Yt h.2;unfold knT at this;rw [this];have e:knOf a=knOf b:=by unfold knOf;rw [h.1.s.1,h.1.s.2.1,h.1.s.2.2]
   rw [e]
theorem TF (l:List Lev):knT (swp l)=knT l:=(Yt (Es l)).symm
theorem fI {l:List Lev} (h:¬ 0<=ixF unf l):∀ x∈l,x.pl<=x.ph:=fun x hx=>by
 have h1:=IZ unf l;rw [decide_eq_false h] at h1;have:=(List.any_eq_false.1 h1.symm) x hx;simp at this;omega
theorem Yu {l:List Lev} (h:OkS l) (hf:¬ 0<=ixF unf (swp l)):OkS (swp l):=by
 have hle:=Es (T:=tmS (knT l)) l;have key:∀ (i:Nat) (y:Lev),(swp l)[i]?= some y->∃ x,l[i]?= some x/\Le x y:=fun i y hy=>EM hle i y hy
 refine ⟨by rw [Dj];exact h.len,fun y hy=>?_,fun y hy=>?_,fun i a b ha hb=>?_⟩
 . obtain ⟨i,hi⟩:=List.getElem?_of_mem hy
   obtain ⟨x,hx,q⟩:=key i y hi;have h1:=h.lev x (List.mem_of_getElem? hx);have h2:=fI hf y hy;have h3:=q.lo;have h4:=q.hi;have h5:=q.s.2.1;have h6:=q.s.2.2;omega
 . obtain ⟨i,hi⟩:=List.getElem?_of_mem hy
   obtain ⟨x,hx,q⟩:=key i y hi;have h1:=h.at' x (List.mem_of_getElem? hx);have h5:=q.s.1;omega
 . obtain ⟨x,hx,q⟩:=key i a ha
   obtain ⟨y,hy,q'⟩:=key (i+1) b hb;have h1:=h.step i x y hx hy;have h5:=q.s.1;have h6:=q'.s.1;omega
theorem TG {l:List Lev} {x:Int} (h:E8 l x):E8 (swp l) x:=by
 have hle:=Es (T:=tmS (knT l)) l;refine ⟨fun k hk=>?_,fun k hk=>?_⟩
 . obtain ⟨y,hy,q⟩:=EM hle 0 k hk
   have:=h.1 y hy;have:=q.s.1;omega
 . rw [Dj] at hk
   obtain ⟨y,hy,q⟩:=EM hle _ k hk;have:=h.2 y hy;have:=q.s.1;omega
theorem Yv (l:List Lev) (hl:l.length<=1000000) (h:¬ (D3 l).2.2=0):Ct prog 103 [.d (BF l)] (.tup [.d (.lit .nilFunc),vi (D3 l).2.2]) []:=by
 have c:=ASV l hl;unfold gz at c
 generalize (D3 l).2.2=e at*
 generalize (D3 l).2.1=i at*
 generalize (D3 l).1=s at*
 refine CB func103 AFN fun E hE=>?_
 simp [p103];refine CLa c ?_;simp [AA,h];apply RZ;simp [results103]
theorem pB (l:List Lev) (h:OkS l) (hf:¬ 0<=ixF unf (swp l)):Ct prog 103 [.d (BF l)] (.tup [.cl 180 [.lp 0 0, .lp 1 0],vi 0]) [(0,[.d (BF (swp l))]),(1,[.d (thD (knT (swp l)))])]:=by
 have hlen:=h.len;have c:=ASV l (by omega);have hS:D3 l=(swp l,0,0):=by unfold D3;rw [B8.2 h,if_pos rfl,if_neg hf]
 rw [hS] at c;unfold gz at c;simp only at c;have c2:=AXr (swp l) (by rw [Dj];omega) (by intro e;have:=Dj (l:=l);rw [e] at this;simp at this;omega);refine CB func103 AFN fun E hE=>?_
 simp [p103];refine CLa c ?_;simp [AA];refine CLa c2 ?_;simp [AA];refine AB.by (lk [(0,0),(1,16777216)]) ?_;simp [results103]
theorem VV (l:List Lev) (h:OkS l) (hf:¬ 0<=ixF unf (swp l)):Ct prog 103 [.d (BF l)] (.tup [.d (.fn 180 [.ref [BF (swp l)], .ref [thD (knT (swp l))]]),vi 0]) []:=by
 refine Cm.freeze (pB l h hf) ?_;exact ⟨⟨rfl,Or.inl ⟨_,rfl,rfl⟩,Or.inl ⟨_,rfl,rfl⟩,trivial⟩,Or.inl rfl,trivial⟩
def atA (l:List Lev) (a b:Int):Atm × Int:=
 if GC l then
   if okS (a,b) then
     match l[0]?,l[l.length-1]? with
     | some x,some y=>
       if rgB x.h y.h [a,b] then
         if (D3 l).2.2=0 then (WH (tmS (knT l)) (swp l) a b,0) else (⟨0,0,0,0⟩,(D3 l).2.2)
       else (⟨0,0,0,0⟩,2)
     | _,_=>(⟨0,0,0,0⟩,2)
   else (⟨0,0,0,0⟩,10)
 else (⟨0,0,0,0⟩,20)
abbrev atV (r:Atm × Int):V:= .tup [Ox r.1,vi r.2]
theorem IQ {l:List Lev} (h:OkS l):(D3 l).2.2=0↔¬ 0<=ixF unf (swp l):=by
 unfold D3;rw [B8.2 h,if_pos rfl];by_cases hq:0<=ixF unf (swp l)
 . rw [if_pos hq];simp [hq]
 . rw [if_neg hq];simp [hq]
theorem fn49 (l:List Lev) (a b:Int) (hl:l.length<=1000000):Ct prog 49 [.d (BF l),vsp a b] (atV (atA l a b)) []:=by
 have c1:=zN l hl;cases hk:GC l
 . rw [hk] at c1
   have e:atA l a b=(⟨0,0,0,0⟩,20):=by unfold atA;rw [hk];rfl
   rw [e];refine CB func49 c49 fun E hE=>?_
   simp [p49];refine CLa c1 ?_;simp [AA];apply RZ;simp [results49]
 rw [hk] at c1;have h:=B8.1 hk;have hlen:=h.len;have c2:=zO (a,b);cases hs:okS (a,b)
 . rw [hs] at c2
   have e:atA l a b=(⟨0,0,0,0⟩,10):=by unfold atA;rw [hk,hs];rfl
   rw [e];refine CB func49 c49 fun E hE=>?_
   simp [p49];refine CLa c1 ?_;simp;refine CLa c2 ?_;simp [AA];apply RZ;simp [results49]
 rw [hs] at c2;obtain ⟨x,hx⟩:∃ x,l[0]?= some x:=⟨_,List.getElem?_eq_getElem (by omega)⟩
 obtain ⟨n,hn⟩:∃ n,n=l.length-1:=⟨_,rfl⟩
 obtain ⟨y,hy⟩:∃ y,l[n]?= some y:=⟨_,List.getElem?_eq_getElem (by omega)⟩
 have hw:IntKind.wrap .i64 ((l.length:Int)-1)=(n:Int):=by rw [AD (by omega) (by omega)];omega
 have hI0:(0:Int)<l.length:=by omega
 have hI:(n:Int)<l.length:=by omega
 have c3:=zM x.h y.h [a,b] (by simp)
 have ea:atA l a b=if rgB x.h y.h [a,b] then (if (D3 l).2.2=0 then (WH (tmS (knT l)) (swp l) a b,0) else (⟨0,0,0,0⟩,(D3 l).2.2)) else (⟨0,0,0,0⟩,2):=by
   unfold atA;rw [hk,hs,hx,<-hn,hy];rfl
 cases hr:rgB x.h y.h [a,b]
 . rw [hr] at c3 ea
   rw [ea];refine CB func49 c49 fun E hE=>?_
   simp [p49];refine CLa c1 ?_;simp;refine CLa c2 ?_;simp [AA,AM,hx,hy,hw,inC,Nat.testBit];refine CLb (c3) (by simp [Ap]) ?_;simp [AA];apply RZ;simp [results49]
 rw [hr] at c3 ea;by_cases hz:(D3 l).2.2=0
 . rw [if_pos rfl,if_pos hz] at ea
   rw [ea];have hf:=(IQ h).1 hz;have c4:=VV l h hf;have hso:=Yu h hf
   have hins:∀ z,(z=a\/z=b)->E8 l z:=fun z hzz=>by
     have hq:(x.h<=a/\a<=y.h)/\x.h<=b/\b<=y.h:=by simp [rgB] at hr;omega
     refine ⟨fun k hk'=>?_,fun k hk'=>?_⟩
     . rw [hx] at hk';cases hk';rcases hzz with rfl | rfl<;>omega
     . rw [<-hn,hy] at hk';cases hk';rcases hzz with rfl | rfl<;>omega
   have c5:=jJ (swp l) b hso (TG (hins b (Or.inr rfl)));have c6:=jJ (swp l) a hso (TG (hins a (Or.inl rfl)));have c7:=AXr l hl (by intro e;rw [e] at hlen;simp at hlen);have c8:=jI (knT l) a b (by rw [Dg];omega);rw [TF] at c4 c5 c6;refine CB func49 c49 fun E hE=>?_
   simp [p49];refine CLa c1 ?_;simp;refine CLa c2 ?_;simp [AA,AM,hx,hy,hw,inC,Nat.testBit];refine CLb (c3) (by simp [Ap]) ?_;simp;refine CLa c4 ?_;simp [inC,Nat.testBit];refine CLa c5 ?_;simp [inC,Nat.testBit];refine CLa c6 ?_;simp [AA,inC,Nat.testBit];refine CLa c7 ?_;simp [inC,Nat.testBit];refine CLa c8 ?_;simp [AA];apply RZ;simp [results49,WH]
 . rw [if_pos rfl,if_neg hz] at ea
   rw [ea];have c4:=Yv l hl hz;refine CB func49 c49 fun E hE=>?_
   simp [p49];refine CLa c1 ?_;simp;refine CLa c2 ?_;simp [AA,AM,hx,hy,hw,inC,Nat.testBit];refine CLb (c3) (by simp [Ap]) ?_;simp;refine CLa c4 ?_;simp [AA,hz];apply RZ;simp [results49]
structure Gal where
 h:Int
 xl:Int
 xh:Int
 yl:Int
 yh:Int
 g:Int
deriving DecidableEq
abbrev AZk (x:Gal):List D:=[di x.h,di x.xl,di x.xh,di x.yl,di x.yh,di x.g]
abbrev cT (l:List Gal):D:= .sl 6 (l.map AZk)
theorem hfg:∀ x:Gal,(AZk x).length=6:=fun _=>rfl
def AAU (l:List Gal) (i:Nat):Bool:=match l[i]? with
 | some x=>rgB (-500) 9000 [x.h]&&(if i=0 then true else match l[i-1]? with | some y=>decide (y.h<x.h) | none=>true)&&rgB 0 500 [x.g]&&spB (-1000) 1000 x.xl x.xh&&spB (-1000) 1000 x.yl x.yh
 | none=>true
def Dr (l:List Gal):Bool:=rgB 1 16 [(l.length:Int)]&&(List.range l.length).all (AAU l)
theorem Fw {l:List Gal} {i:Nat} (hi:i<l.length) (h:AAU l i=false):Dr l=false:=by
 unfold Dr
 have:(List.range l.length).all (AAU l)=false:=by
   rw [List.all_eq_false];exact ⟨i,by simp [hi],by simp [h]⟩
 simp [this]
theorem fn74 (l:List Gal) (hl:l.length<=1000000):Ct prog 74 [.d (cT l)] (vi (if Dr l then 0 else 22)) []:=by
 have c1:=zM 1 16 [(l.length:Int)] (by simp);cases hn:rgB 1 16 [(l.length:Int)]
 . rw [hn] at c1
   have hbad:Dr l=false:=by unfold Dr;simp [hn]
   refine CB func74 c74 fun E hE=>?_
   simp [p74,AA,AM];refine CLb (c1) (by simp [AG]) ?_;simp;apply RZ;simp [results74,hbad]
 rw [hn] at c1;refine CB func74 c74 fun E hE=>?_
 simp [p74,AA,AM];refine CLb (c1) (by simp [AG]) ?_;simp;refine Al (α:=Nat) (fun i=>⟨AO [(0, .d (cT l)),(10, .d (cT l)),(11,vi l.length),(12,vi i)],lk [],0⟩) (fun i=>i<=l.length/\∀ j,j<i->AAU l j=true) (fun i=>l.length-i) 0 ?_ ?_ ?_
 . exact ⟨by omega,fun j hj=>by omega⟩
 . exact WK hE (lk [])
 . rintro i ⟨hi,hg⟩
   by_cases h:i<l.length
   . obtain ⟨x,hx⟩:=gE h
     have hz:=@wz i (by omega);have hI:(i:Int)<l.length:=by omega
     have c2:=zM (-500) 9000 [x.h] (by simp);have c3:=zM 0 500 [x.g] (by simp);have c4:=iw x.xl x.xh (-1000) 1000;have c5:=iw x.yl x.yh (-1000) 1000;have eg:AAU l i=(rgB (-500) 9000 [x.h]&&(if i=0 then true else match l[i-1]? with | some y=>decide (y.h<x.h) | none=>true)&&rgB 0 500 [x.g]&&spB (-1000) 1000 x.xl x.xh&&spB (-1000) 1000 x.yl x.yh):=by unfold AAU;rw [hx]
     have fin:AAU l i=true->∀ j,j<i+1->AAU l j=true:=fun he j hj=>by
       by_cases e:j=i
       . rw [e];exact he
       . exact hg j (by omega)
     generalize rgB (-500) 9000 [x.h]=b1 at*
     generalize rgB 0 500 [x.g]=b2 at*
     generalize spB (-1000) 1000 x.xl x.xh=b3 at*
     generalize spB (-1000) 1000 x.yl x.yh=b4 at*
     cases b1
     . have hbad:=Fw h (by rw [eg];rfl)
       simp [wU,hI,hx,AA,AM,inC,Nat.testBit];refine CLb (c2) (by simp [AG,inC,Nat.testBit]) ?_;simp;apply RZ;simp [results74,hbad]
     . by_cases h0:i=0
       . rw [if_pos h0] at eg
         have hI0:¬ 0<i:=by omega
         cases b2
         . have hbad:=Fw h (by rw [eg];rfl)
           simp [wU,hI,hx,AA,AM,inC,Nat.testBit];refine CLb (c2) (by simp [AG,inC,Nat.testBit]) ?_;simp [AA,AM,hI0];refine CLb (c3) (by simp [AG]) ?_;simp;apply RZ;simp [results74,hbad]
         . cases b3
           . have hbad:=Fw h (by rw [eg];rfl)
             simp [wU,hI,hx,AA,AM,inC,Nat.testBit];refine CLb (c2) (by simp [AG,inC,Nat.testBit]) ?_;simp [AA,AM,hI0];refine CLb (c3) (by simp [AG]) ?_;simp;refine CLa c4 ?_;simp;apply RZ;simp [results74,hbad]
           . simp [wU,hI,hx,AA,AM,inC,Nat.testBit]
             refine CLb (c2) (by simp [AG,inC,Nat.testBit]) ?_;simp [AA,AM,hI0];refine CLb (c3) (by simp [AG]) ?_;simp;refine CLa c4 ?_;simp;refine CLa c5 ?_;cases b4
             . have hbad:=Fw h (by rw [eg];rfl)
               simp;apply RZ;simp [results74,hbad]
             . have hok:=fin (by rw [eg];rfl)
               simp [hz];refine ⟨i+1,⟨by omega,hok⟩,by omega,?_⟩;exact WK hE (lk [])
       . obtain ⟨y,hy⟩:∃ y,l[i-1]?= some y:=⟨_,List.getElem?_eq_getElem (by omega)⟩
         have hw:IntKind.wrap .i64 ((i:Int)-1)=((i-1:Nat):Int):=by rw [AD (by omega) (by omega)];omega
         have hI0:0<i:=by omega
         rw [if_neg h0,hy] at eg;simp only at eg;by_cases hc:x.h<=y.h
         . have hbad:=Fw h (by rw [eg,decide_eq_false (by omega)];simp)
           simp [wU,hI,hx,AA,AM,inC,Nat.testBit];refine CLb (c2) (by simp [AG,inC,Nat.testBit]) ?_;simp [hI0,hw,hy,hc,inC,Nat.testBit];apply RZ;simp [results74,hbad]
         . rw [decide_eq_true (by omega:y.h<x.h)] at eg
           cases b2
           . have hbad:=Fw h (by rw [eg];rfl)
             simp [wU,hI,hx,AA,AM,inC,Nat.testBit];refine CLb (c2) (by simp [AG,inC,Nat.testBit]) ?_;simp [AA,AM,hI0,hw,hy,hc,inC,Nat.testBit];refine CLb (c3) (by simp [AG]) ?_;simp;apply RZ;simp [results74,hbad]
           . cases b3
             . have hbad:=Fw h (by rw [eg];rfl)
               simp [wU,hI,hx,AA,AM,inC,Nat.testBit];refine CLb (c2) (by simp [AG,inC,Nat.testBit]) ?_;simp [AA,AM,hI0,hw,hy,hc,inC,Nat.testBit];refine CLb (c3) (by simp [AG]) ?_;simp;refine CLa c4 ?_;simp;apply RZ;simp [results74,hbad]
             . simp [wU,hI,hx,AA,AM,inC,Nat.testBit]
               refine CLb (c2) (by simp [AG,inC,Nat.testBit]) ?_;simp [AA,AM,hI0,hw,hy,hc,inC,Nat.testBit];refine CLb (c3) (by simp [AG]) ?_;simp;refine CLa c4 ?_;simp;refine CLa c5 ?_;cases b4
               . have hbad:=Fw h (by rw [eg];rfl)
                 simp;apply RZ;simp [results74,hbad]
               . have hok:=fin (by rw [eg];rfl)
                 simp [hz];refine ⟨i+1,⟨by omega,hok⟩,by omega,?_⟩;exact WK hE (lk [])
   . have e:i=l.length:=by omega
     have hnn:¬ (i:Int)<l.length:=by omega
     have hall:Dr l=true:=by
       unfold Dr;rw [hn,Bool.true_and,List.all_eq_true];intro j hj
       exact hg j (by
        have:j<l.length:=by simpa using hj
        omega)
     simp [wU,hnn];apply RZ;simp [results74,hall]
structure Plt where
 cs:List Cel
 bt:Int
 ih:Int
 ia:Int
 vh:Int
 va:Int
 lh:Int
 la:Int
 ph:Int
 pa:Int
deriving DecidableEq
abbrev AWy (p:Plt) (c:V):V:= .agg [c,vi p.bt,vi p.ih,vi p.ia,vi p.vh,vi p.va,vi p.lh,vi p.la,vi p.ph,vi p.pa]
abbrev bkB (p:Int × Int):Bool:=rgB 0 1000000000000 [p.1,p.2]
def Li (p:Plt):List (Int × Int):=[(p.ih,p.ia),(p.vh,p.va),(p.lh,p.la),(p.ph,p.pa)]
def heS (l:List Cel):Int:=(l.map (·.he)).sum
def aiS (l:List Cel):Int:=(l.map (·.ai)).sum
def IR (p:Plt):Bool:=decide (p.cs.length<=12)&&rgB 0 10000000 [p.bt]&&(Li p).all bkB
def Ar (p:Plt):Bool:=IR p&&p.cs.all Je&&decide (p.bt+p.vh+p.lh+p.ph+heS p.cs=p.ih/\p.va+p.la+p.pa+aiS p.cs=p.ia)
theorem Yz {l:List Cel} {i:Nat} {c:Cel} (h:l[i]?= some c):heS (l.take (i+1))=heS (l.take i)+c.he:=by
 unfold heS;rw [List.take_add_one,h];simp
theorem tY {l:List Cel} {i:Nat} {c:Cel} (h:l[i]?= some c):aiS (l.take (i+1))=aiS (l.take i)+c.ai:=by
 unfold aiS;rw [List.take_add_one,h];simp
theorem Y1:∀ {l:List Cel},(∀ c∈l,B5 c)->0<=heS l/\heS l<=l.length*10000000
 | [],_=>by simp [heS]
 | c::l,h=>by
   have h1:=(h c (by simp)).he;have h2:=Y1 (l:=l) fun x hx=>h x (by simp [hx])
   unfold heS at h2 ⊢;simp only [List.map_cons,List.sum_cons,List.length_cons];omega
theorem Y2:∀ {l:List Cel},(∀ c∈l,B5 c)->0<=aiS l/\aiS l<=l.length*10000000
 | [],_=>by simp [aiS]
 | c::l,h=>by
   have h1:=(h c (by simp)).ai;have h2:=Y2 (l:=l) fun x hx=>h x (by simp [hx])
   unfold aiS at h2 ⊢;simp only [List.map_cons,List.sum_cons,List.length_cons];omega
theorem wL (a b c d:Int) (h1:IntKind.wrap .i64 (a+c)=a+c) (h2:IntKind.wrap .i64 (b+d)=b+d):Ct prog 148 [vsp a b,vsp c d] (vsp (a+c) (b+d)) []:=by
 refine CB func148 c148 fun E hE=>?_
 simp [p148,AA,h1,h2];apply RZ;simp [results148]
theorem rV (p:Int × Int):Ct prog 147 [sy p] (vb (!bkB p)) []:=by
 have c1:=yI 0 1000000000000 [p.1,p.2] (by simp);refine CB func147 c147 fun E hE=>?_
 simp [p147,AA,AM];refine CLb (c1) (by simp [Ap]) ?_;simp;apply RZ;simp [results147]
def bkI (p:Plt):Nat->Int × Int
 | 0=>(p.bt,0)
 | 1=>(p.bt+p.vh,p.va)
 | 2=>(p.bt+p.vh+p.lh,p.va+p.la)
 | _=>(p.bt+p.vh+p.lh+p.ph,p.va+p.la+p.pa)
theorem AY0 {H:Hp} {id:Nat} {p:Plt} (h:H id=some [vi p.ih,vi p.ia,vi p.vh,vi p.va,vi p.lh,vi p.la,vi p.ph,vi p.pa]):Bor H (.ls id 0 4 2) (.d (An (Li p))):=by
 rw [Bk];exact ⟨rfl,rfl,by simp [Li],_,h,rfl⟩
theorem K9 {p:Plt} (h:(Li p).all bkB=true):(0<=p.ih/\p.ih<=1000000000000)/\(0<=p.ia/\p.ia<=1000000000000)/\(0<=p.vh/\p.vh<=1000000000000)/\(0<=p.va/\p.va<=1000000000000)/\(0<=p.lh/\p.lh<=1000000000000)/\(0<=p.la/\p.la<=1000000000000)/\(0<=p.ph/\p.ph<=1000000000000)/\(0<=p.pa/\p.pa<=1000000000000):=by
 unfold Li at h;simp [rgB] at h;omega
theorem Vy (p:Plt) (hl:p.cs.length<=12) (hb:IR p=true) {E:Ent} (hE:∀ i,¬ E.stab i):∀ i:Nat,(i<=p.cs.length/\∀ c∈p.cs.take i,B5 c)->PW prog tys eqs E AW7
   (DP (fun st'=>∃ k,(k<=p.cs.length/\∀ c∈p.cs.take k,B5 c)/\p.cs.length-k<p.cs.length-i/\AI prog E st' ⟨AO [(1, .lp 0 0),(4, .lp 2 0),(48, .d (AX p.cs)),(49,vi p.cs.length),(50,vi k)],lk [(0,[.d (AX p.cs),vi p.bt,vi p.ih,vi p.ia,vi p.vh,vi p.va,vi p.lh,vi p.la,vi p.ph,vi p.pa]),(2,[vi ((bkI p 3).1+heS (p.cs.take k)),vi ((bkI p 3).2+aiS (p.cs.take k))])],3⟩)
     (exC prog E (dL tys f72 (vi (if Ar p then 0 else 32)) []) 2 (fun _:Unit=>⟨AO [(1, .lp 0 0),(4, .lp 2 0)],lk [(0,[.d (AX p.cs),vi p.bt,vi p.ih,vi p.ia,vi p.vh,vi p.va,vi p.lh,vi p.la,vi p.ph,vi p.pa]),(2,[vi ((bkI p 3).1+heS p.cs),vi ((bkI p 3).2+aiS p.cs)])],3⟩) (fun _=>∀ c∈p.cs,B5 c)))
   ⟨AO [(1, .lp 0 0),(4, .lp 2 0),(48, .d (AX p.cs)),(49,vi p.cs.length),(50,vi i)],lk [(0,[.d (AX p.cs),vi p.bt,vi p.ih,vi p.ia,vi p.vh,vi p.va,vi p.lh,vi p.la,vi p.ph,vi p.pa]),(2,[vi ((bkI p 3).1+heS (p.cs.take i)),vi ((bkI p 3).2+aiS (p.cs.take i))])],3⟩:=by
 rintro i ⟨hi,hcs⟩
 have hbk:=K9 (p:=p) (by unfold IR at hb;simp at hb;simpa using hb.2);have hbt:0<=p.bt/\p.bt<=10000000:=by unfold IR at hb;simp [rgB] at hb;omega
 by_cases h:i<p.cs.length
 . obtain ⟨c,hc⟩:=gE h
   have hz:=@wz i (by omega);have hI:(i:Int)<p.cs.length:=by omega
   have c1:=ASn c;cases hok:Je c
   . have hbad:Ar p=false:=by
       unfold Ar
       have:p.cs.all Je=false:=by
         rw [List.all_eq_false];exact ⟨c,List.mem_of_getElem? hc,by simp [hok]⟩
       simp [this]
     rw [hok] at c1;simp [AW7,hI,hc,AA];refine CLa c1 ?_;simp;apply RZ;simp [results72,hbad]
   . rw [hok] at c1
     have hcb:=Dm.1 hok;have hx:=hcb.he;have hy:=hcb.ai;have e1:=Yz hc;have e2:=tY hc;have b1:=Y1 hcs;have b2:=Y2 hcs;have hlen:((p.cs.take i).length:Int)<=12:=by simp;omega
     obtain ⟨X,hX⟩:∃ X,(bkI p 3).1+heS (p.cs.take i)=X:=⟨_,rfl⟩
     obtain ⟨Y,hY⟩:∃ Y,(bkI p 3).2+aiS (p.cs.take i)=Y:=⟨_,rfl⟩
     have q1:(bkI p 3).1=p.bt+p.vh+p.lh+p.ph:=rfl;have q2:(bkI p 3).2=p.va+p.la+p.pa:=rfl;have c2:=wL X Y c.he c.ai (AD (by omega) (by omega)) (AD (by omega) (by omega));have z1:(bkI p 3).1+heS (p.cs.take (i+1))=X+c.he:=by omega
     have z2:(bkI p 3).2+aiS (p.cs.take (i+1))=Y+c.ai:=by omega
     rw [hX,hY];simp [AW7,hI,hc,AA];refine CLa c1 ?_;simp [AA];refine CLa c2 ?_;simp [AA,hz];refine ⟨i+1,⟨by omega,?_⟩,by omega,?_⟩
     . intro d hd
       rw [List.take_add_one,hc] at hd;simp only [List.mem_append,Option.toList_some,List.mem_singleton] at hd;rcases hd with hd | rfl
       . exact hcs d hd
       . exact hcb
     . rw [z1,z2]
       exact WK hE (lk [(0,0),(2,2)])
 . have e:i=p.cs.length:=by omega
   rw [e,List.take_length] at hcs;rw [e,List.take_length];simp [AW7];refine ⟨hcs,?_⟩;exact WK hE (lk [(0,0),(2,2)])
theorem fn72 (p:Plt) (hl:p.cs.length<=1000000000):Ct prog 72 [AWy p (.d (AX p.cs))] (vi (if Ar p then 0 else 32)) []:=by
 have c1:=yI 0 10000000 [p.bt] (by simp);have c2:=zW (Li p) 147 [] (fun x=>!bkB x) (by simp [Li]) fun x _=>rV x
 rw [Sa] at c2;by_cases hlen:p.cs.length<=12
 case neg=>
   have hI:(12:Int)<p.cs.length:=by omega
   have hbad:Ar p=false:=by simp [Ar,IR,hlen]
   refine CB func72 c72 fun E hE=>?_
   simp [p72,AA,AM,hI];apply RZ;simp [results72,hbad]
 have hI:¬ (12:Int)<p.cs.length:=by omega
 have hI2:(p.cs.length:Int)<=12:=by omega
 cases h1:rgB 0 10000000 [p.bt]
 . have hbad:Ar p=false:=by simp [Ar,IR,h1]
   rw [h1] at c1;refine CB func72 c72 fun E hE=>?_
   simp [p72,AA,AM,hI];refine CLb (c1) (by simp [AG]) ?_;simp;apply RZ;simp [results72,hbad]
 rw [h1] at c1;cases h2:(Li p).all bkB
 . have hbad:Ar p=false:=by simp [Ar,IR,h2]
   rw [h2] at c2;refine CB func72 c72 fun E hE=>?_
   simp [p72,AA,AM,hI];refine CLb (c1) (by simp [AG]) ?_;simp;refine CLb (c2) (by simp [AY0]) ?_;simp;apply RZ;simp [results72,hbad]
 rw [h2] at c2;have hb:IR p=true:=by simp [IR,hlen,h1,h2]
 have hbk:=K9 h2;have hbt:0<=p.bt/\p.bt<=10000000:=by simp [rgB] at h1;omega
 have ww1:IntKind.wrap .i64 1=1:=by decide
 have ww2:IntKind.wrap .i64 2=2:=by decide
 have ww3:IntKind.wrap .i64 3=3:=by decide
 refine CB func72 c72 fun E hE=>?_
 simp [p72,AA,AM,hI];refine CLb (c1) (by simp [AG]) ?_;simp;refine CLb (c2) (by simp [AY0]) ?_;simp [AA];refine BL (α:=Nat) 0 (fun _:Unit=>⟨AO [(1, .lp 0 0),(4, .lp 2 0)],lk [(0,[.d (AX p.cs),vi p.bt,vi p.ih,vi p.ia,vi p.vh,vi p.va,vi p.lh,vi p.la,vi p.ph,vi p.pa]),(2,[vi (bkI p 3).1,vi (bkI p 3).2])],3⟩) (fun _=>True) (fun k=>⟨AO [(1, .lp 0 0),(4, .lp 2 0),(37, .ls 1 2 3 2),(38,vi 3),(39,vi k)],lk [(0,[.d (AX p.cs),vi p.bt,vi p.ih,vi p.ia,vi p.vh,vi p.va,vi p.lh,vi p.la,vi p.ph,vi p.pa]),(1,[vi p.ih,vi p.ia,vi p.vh,vi p.va,vi p.lh,vi p.la,vi p.ph,vi p.pa]),(2,[vi (bkI p k).1,vi (bkI p k).2])],3⟩) (fun k=>k<=3) (fun k=>3-k) 0 ?_ ?_ ?_ fun _ _=>?_
 . omega
 . refine AI.mk hE (lk [(0,0),(1,10485760),(2,31457280)]) _ _ _ ?_ ?_ ?_ ?_ ?_<;>simp [bkI]
 . intro i hi
   match i,hi with
   | 0,_=>
     have d:=wL p.bt 0 p.vh p.va (AD (by omega) (by omega)) (AD (by omega) (by omega));simp [AW6,AA,bkI];refine CLa d ?_;simp [AA];refine ⟨1,by omega,by omega,?_⟩;refine AI.mk hE (lk [(0,0),(1,1),(2,2)]) _ _ _ ?_ ?_ ?_ ?_ ?_<;>simp [ww1]
   | 1,_=>
     have d:=wL (p.bt+p.vh) p.va p.lh p.la (AD (by omega) (by omega)) (AD (by omega) (by omega));simp [AW6,AA,bkI];refine CLa d ?_;simp [AA];refine ⟨2,by omega,by omega,?_⟩;refine AI.mk hE (lk [(0,0),(1,1),(2,2)]) _ _ _ ?_ ?_ ?_ ?_ ?_<;>simp [ww2]
   | 2,_=>
     have d:=wL (p.bt+p.vh+p.lh) (p.va+p.la) p.ph p.pa (AD (by omega) (by omega)) (AD (by omega) (by omega));simp [AW6,AA,bkI];refine CLa d ?_;simp [AA];refine ⟨3,by omega,by omega,?_⟩;refine AI.mk hE (lk [(0,0),(1,1),(2,2)]) _ _ _ ?_ ?_ ?_ ?_ ?_<;>simp [ww3]
   | 3,_=>
     simp [AW6];exact WK hE (lk [(0,0),(2,2)])
   | i+4,hi=>omega
 . simp
   refine BL (α:=Nat) 2 (fun _:Unit=>⟨AO [(1, .lp 0 0),(4, .lp 2 0)],lk [(0,[.d (AX p.cs),vi p.bt,vi p.ih,vi p.ia,vi p.vh,vi p.va,vi p.lh,vi p.la,vi p.ph,vi p.pa]),(2,[vi ((bkI p 3).1+heS p.cs),vi ((bkI p 3).2+aiS p.cs)])],3⟩) (fun _=>∀ c∈p.cs,B5 c) (fun k=>⟨AO [(1, .lp 0 0),(4, .lp 2 0),(48, .d (AX p.cs)),(49,vi p.cs.length),(50,vi k)],lk [(0,[.d (AX p.cs),vi p.bt,vi p.ih,vi p.ia,vi p.vh,vi p.va,vi p.lh,vi p.la,vi p.ph,vi p.pa]),(2,[vi ((bkI p 3).1+heS (p.cs.take k)),vi ((bkI p 3).2+aiS (p.cs.take k))])],3⟩) (fun k=>k<=p.cs.length/\∀ c∈p.cs.take k,B5 c) (fun k=>p.cs.length-k) 0 ?_ ?_ (Vy p hlen hb hE) fun _ hcs=>?_
   . simp
   . refine AI.mk hE (lk [(0,0),(2,2)]) _ _ _ ?_ ?_ ?_ ?_ ?_<;>simp [heS,aiS]
   . have hall:p.cs.all Je=true:=by
       rw [List.all_eq_true];exact fun c hc=>Dm.2 (hcs c hc)
     have q1:(bkI p 3).1=p.bt+p.vh+p.lh+p.ph:=rfl;have q2:(bkI p 3).2=p.va+p.la+p.pa:=rfl;rw [q1,q2];have e:Ar p=decide (p.bt+p.vh+p.lh+p.ph+heS p.cs=p.ih/\p.va+p.la+p.pa+aiS p.cs=p.ia):=by simp [Ar,hb,hall]
     by_cases hq:p.bt+p.vh+p.lh+p.ph+heS p.cs=p.ih/\p.va+p.la+p.pa+aiS p.cs=p.ia
     . rw [decide_eq_true hq] at e
       simp [hq];apply RZ;simp [results72,e]
     . rw [decide_eq_false hq] at e
       have hd:(!decide (p.bt+p.vh+p.lh+p.ph+heS p.cs=p.ih)||!decide (p.va+p.la+p.pa+aiS p.cs=p.ia))=true:=by simp;omega
       simp [hd];apply RZ;simp [results72,e]
theorem tu (l:List (Int × Int)) (g:FuncId) (ds:List D) (q:(Int × Int)->Bool) (hl:l.length<=1000000000) (hg:∀ p∈l,Ct prog g (vsp p.1 p.2::ds.map .d) (vb (q p)) []):Ct prog 142 [.d (An l), .d (.fn g ds)] (vb (l.all q)) []:=by
 refine CB func142 c142 fun E hE=>?_
 simp [p142];refine Al (α:=Nat) (fun i=>⟨AO [(1, .d (.fn g ds)),(7, .d (An l)),(8,vi l.length),(9,vi i)],lk [],0⟩) (fun i=>i<=l.length/\∀ j,j<i->(l[j]?).all q=true) (fun i=>l.length-i) 0 ?_ ?_ ?_
 . exact ⟨by omega,fun j hj=>by omega⟩
 . exact WK hE (lk [])
 . rintro i ⟨hi,hg3⟩
   have hz:=@wz i (by omega);by_cases h:i<l.length
   . have hI:(i:Int)<l.length:=by omega
     obtain ⟨p,hp⟩:=gE h;simp [tB,hI,hp,AA];refine CLa (hg p (List.mem_of_getElem? hp)) ?_;cases hq:q p
     . have e:l.all q=false:=by rw [List.all_eq_false];exact ⟨p,List.mem_of_getElem? hp,by simp [hq]⟩
       simp;apply RZ;simp [results142,e]
     . simp [hz]
       refine ⟨i+1,⟨by omega,fun j hj=>?_⟩,by omega,?_⟩
       . by_cases e:j=i
         . subst e;rw [hp];simp [hq]
         . exact hg3 j (by omega)
       . exact WK hE (lk [])
   . have hI:¬ (i:Int)<l.length:=by omega
     have e:l.all q=true:=by
       rw [List.all_eq_true];intro x hx;obtain ⟨j,hj⟩:=List.getElem?_of_mem hx;have:=hg3 j (by have:=(List.getElem?_eq_some_iff.1 hj).1;omega);rw [hj] at this;simpa using this
     simp [tB,hI];apply RZ;simp [results142,e]
theorem zb (lo hi:Int) (s:Int × Int):Ct prog 143 [vsp s.1 s.2, .d (.ref [di lo]), .d (.ref [di hi])] (vb (spB lo hi s.1 s.2)) []:=by
 have c:=AaH lo hi [s.1,s.2] (by simp);by_cases h:s.1<=s.2
 . have e:spB lo hi s.1 s.2=rgB lo hi [s.1,s.2]:=by unfold spB;simp [h]
   refine CB func143 AQA fun E hE=>?_
   simp [p143,AA,AM,h];refine CLb (c) (by simp [Ap]) ?_;simp;apply RZ;simp [results143,e]
 . have e:spB lo hi s.1 s.2=false:=by unfold spB;simp [h]
   refine CB func143 AQA fun E hE=>?_
   simp [p143,h];apply RZ;simp [results143,e]
theorem pA (lo hi:Int) (l:List (Int × Int)) (hl:l.length<=1000000):Ct prog 70 [vi lo,vi hi, .d (An l)] (vb (l.all fun s=>spB lo hi s.1 s.2)) []:=by
 have c:=tu l 143 [.ref [di lo], .ref [di hi]] (fun s=>spB lo hi s.1 s.2) (by omega) fun s _=>zb lo hi s
 refine CB func70 c70 fun E hE=>?_
 simp [p70];refine CLa c ?_;simp;apply RZ;simp [results70]
structure Sky where
 s:List Lev
 w:List Gal
abbrev Eu (k:Sky):V:= .agg [.d (BF k.s), .d (cT k.w)]
def BV (k:Sky):Bool:=decide ((D3 k.s).2.2=0)&&Dr k.w
theorem fn37 (k:Sky) (h1:k.s.length<=1000000) (h2:k.w.length<=1000000):Ct prog 37 [Eu k] (vi (if BV k then 0 else 50)) []:=by
 have c1:=ASV k.s h1;have c2:=fn74 k.w h2;have e:BV k=(decide ((D3 k.s).2.2=0)&&Dr k.w):=rfl;unfold gz at c1
 generalize (D3 k.s).2.2=er at*
 by_cases h:er=0
 . cases hw:Dr k.w
   . rw [hw] at c2 e
     refine CB func37 c37 fun E hE=>?_
     simp [p37];refine CLa c1 ?_;simp [h];refine CLa c2 ?_;simp;apply RZ;simp [results37,e]
   . rw [hw] at c2 e
     refine CB func37 c37 fun E hE=>?_
     simp [p37];refine CLa c1 ?_;simp [h];refine CLa c2 ?_;simp;apply RZ;simp [results37,e,h]
 . refine CB func37 c37 fun E hE=>?_
   simp [p37];refine CLa c1 ?_;simp [h];apply RZ;simp [results37,e,h]
structure Shp where
 xl:Int
 xh:Int
 yl:Int
 yh:Int
 hl:Int
 hh:Int
 fl:Int
 fh:Int
 wl:Int
 wh:Int
 bl:Int
 bh:Int
 dry:Int
 bal:Int
 drp:Int
 gas:Plt
abbrev AW3 (s:Shp) (c:V):V:= .agg [vi s.xl,vi s.xh,vi s.yl,vi s.yh,vi s.hl,vi s.hh,vi s.fl,vi s.fh,vi s.wl,vi s.wh,vi s.bl,vi s.bh,vi s.dry,vi s.bal,vi s.drp,c,vi s.gas.bt,vi s.gas.ih,vi s.gas.ia,vi s.gas.vh,vi s.gas.va,vi s.gas.lh,vi s.gas.la,vi s.gas.ph,vi s.gas.pa]
def A6 (s:Shp):Bool:=(spB (-10000000) 10000000 s.xl s.xh&&spB (-10000000) 10000000 s.yl s.yh)&&spB (-500) 9000 s.hl s.hh&&(spB 0 1000000000 s.fl s.fh&&spB 0 1000000000 s.wl s.wh)&&spB 0 1000000000000 s.bl s.bh&&rgB 0 1000000000 [s.dry,s.bal]&&rgB 0 1000000000000 [s.drp]&&Ar s.gas
theorem AN {H:Hp} {id:Nat} {a b:Int} (h:H id=some [vi a,vi b]):Bor H (.ls id 0 1 2) (.d (An [(a,b)])):=by
 rw [Bk];exact ⟨rfl,rfl,by simp,_,h,rfl⟩
theorem fn36 (s:Shp) (hl:s.gas.cs.length<=1000000000):Ct prog 36 [AW3 s (.d (AX s.gas.cs))] (vi (if A6 s then 0 else 52)) []:=by
 have c1:=pA (-10000000) 10000000 [(s.xl,s.xh),(s.yl,s.yh)] (by simp);have c2:=pA (-500) 9000 [(s.hl,s.hh)] (by simp);have c3:=pA 0 1000000000 [(s.fl,s.fh),(s.wl,s.wh)] (by simp);have c4:=pA 0 1000000000000 [(s.bl,s.bh)] (by simp);have c5:=AaH 0 1000000000 [s.dry,s.bal] (by simp);have c6:=AaH 0 1000000000000 [s.drp] (by simp);have c7:=fn72 s.gas hl;simp only [List.all_cons,List.all_nil,Bool.and_true] at c1 c2 c3 c4;have e:A6 s=((spB (-10000000) 10000000 s.xl s.xh&&spB (-10000000) 10000000 s.yl s.yh)&&spB (-500) 9000 s.hl s.hh&&(spB 0 1000000000 s.fl s.fh&&spB 0 1000000000 s.wl s.wh)&&spB 0 1000000000000 s.bl s.bh&&rgB 0 1000000000 [s.dry,s.bal]&&rgB 0 1000000000000 [s.drp]&&Ar s.gas):=rfl
 generalize (spB (-10000000) 10000000 s.xl s.xh&&spB (-10000000) 10000000 s.yl s.yh)=b1 at*
 generalize spB (-500) 9000 s.hl s.hh=b2 at*
 generalize (spB 0 1000000000 s.fl s.fh&&spB 0 1000000000 s.wl s.wh)=b3 at*
 generalize spB 0 1000000000000 s.bl s.bh=b4 at*
 generalize rgB 0 1000000000 [s.dry,s.bal]=b5 at*
 generalize rgB 0 1000000000000 [s.drp]=b6 at*
 generalize Ar s.gas=b7 at*
 rw [e];cases b1
 . refine CB func36 c36 fun E hE=>?_
   simp [p36,AA,AM]
   repeat ((first | (refine CLt c1 ?_ ?_;focus (simp [AQ];done)) | (refine CLt c2 ?_ ?_;focus (simp [AG,Ap,AN,AQ];done)) | (refine CLt c3 ?_ ?_;focus (simp [AG,Ap,AN,AQ];done)) | (refine CLt c4 ?_ ?_;focus (simp [AG,Ap,AN,AQ];done)) | (refine CLt c5 ?_ ?_;focus (simp [AG,Ap,AN,AQ];done)) | (refine CLt c6 ?_ ?_;focus (simp [AG,Ap,AN,AQ];done)) | (refine CLt c7 ?_ ?_;focus (simp [AG,Ap,AN,AQ];done)));simp)
   apply RZ;simp [results36]
 cases b2
 . refine CB func36 c36 fun E hE=>?_
   simp [p36,AA,AM]
   repeat ((first | (refine CLt c1 ?_ ?_;focus (simp [AQ];done)) | (refine CLt c2 ?_ ?_;focus (simp [AN];done)) | (refine CLt c3 ?_ ?_;focus (simp [AG,Ap,AN,AQ];done)) | (refine CLt c4 ?_ ?_;focus (simp [AG,Ap,AN,AQ];done)) | (refine CLt c5 ?_ ?_;focus (simp [AG,Ap,AN,AQ];done)) | (refine CLt c6 ?_ ?_;focus (simp [AG,Ap,AN,AQ];done)) | (refine CLt c7 ?_ ?_;focus (simp [AG,Ap,AN,AQ];done)));simp [AA,AM])
   apply RZ;simp [results36]
 cases b3
 . refine CB func36 c36 fun E hE=>?_
   simp [p36,AA,AM]
   repeat ((first | (refine CLt c1 ?_ ?_;focus (simp [AQ];done)) | (refine CLt c2 ?_ ?_;focus (simp [AN];done)) | (refine CLt c3 ?_ ?_;focus (simp [AQ];done)) | (refine CLt c4 ?_ ?_;focus (simp [AG,Ap,AN,AQ];done)) | (refine CLt c5 ?_ ?_;focus (simp [AG,Ap,AN,AQ];done)) | (refine CLt c6 ?_ ?_;focus (simp [AG,Ap,AN,AQ];done)) | (refine CLt c7 ?_ ?_;focus (simp [AG,Ap,AN,AQ];done)));simp [AA,AM])
   apply RZ;simp [results36]
 cases b4
 . refine CB func36 c36 fun E hE=>?_
   simp [p36,AA,AM]
   repeat ((first | (refine CLt c1 ?_ ?_;focus (simp [AQ];done)) | (refine CLt c2 ?_ ?_;focus (simp [AN];done)) | (refine CLt c3 ?_ ?_;focus (simp [AQ];done)) | (refine CLt c4 ?_ ?_;focus (simp [AN];done)) | (refine CLt c5 ?_ ?_;focus (simp [AG,Ap,AN,AQ];done)) | (refine CLt c6 ?_ ?_;focus (simp [AG,Ap,AN,AQ];done)) | (refine CLt c7 ?_ ?_;focus (simp [AG,Ap,AN,AQ];done)));simp [AA,AM])
   apply RZ;simp [results36]
 cases b5
 . refine CB func36 c36 fun E hE=>?_
   simp [p36,AA,AM]
   repeat ((first | (refine CLt c1 ?_ ?_;focus (simp [AQ];done)) | (refine CLt c2 ?_ ?_;focus (simp [AN];done)) | (refine CLt c3 ?_ ?_;focus (simp [AQ];done)) | (refine CLt c4 ?_ ?_;focus (simp [AN];done)) | (refine CLt c5 ?_ ?_;focus (simp [Ap];done)) | (refine CLt c6 ?_ ?_;focus (simp [AG,Ap,AN,AQ];done)) | (refine CLt c7 ?_ ?_;focus (simp [AG,Ap,AN,AQ];done)));simp [AA,AM])
   apply RZ;simp [results36]
 cases b6
 . refine CB func36 c36 fun E hE=>?_
   simp [p36,AA,AM]
   repeat ((first | (refine CLt c1 ?_ ?_;focus (simp [AQ];done)) | (refine CLt c2 ?_ ?_;focus (simp [AN];done)) | (refine CLt c3 ?_ ?_;focus (simp [AQ];done)) | (refine CLt c4 ?_ ?_;focus (simp [AN];done)) | (refine CLt c5 ?_ ?_;focus (simp [Ap];done)) | (refine CLt c6 ?_ ?_;focus (simp [AG];done)) | (refine CLt c7 ?_ ?_;focus (simp [AG,Ap,AN,AQ];done)));simp [AA,AM])
   apply RZ;simp [results36]
 cases b7
 . refine CB func36 c36 fun E hE=>?_
   simp [p36,AA,AM]
   repeat ((first | (refine CLt c1 ?_ ?_;focus (simp [AQ];done)) | (refine CLt c2 ?_ ?_;focus (simp [AN];done)) | (refine CLt c3 ?_ ?_;focus (simp [AQ];done)) | (refine CLt c4 ?_ ?_;focus (simp [AN];done)) | (refine CLt c5 ?_ ?_;focus (simp [Ap];done)) | (refine CLt c6 ?_ ?_;focus (simp [AG];done)) | (refine CLt c7 ?_ ?_;focus (simp;done)));simp [AA,AM])
   apply RZ;simp [results36]
 . refine CB func36 c36 fun E hE=>?_
   simp [p36,AA,AM]
   repeat ((first | (refine CLt c1 ?_ ?_;focus (simp [AQ];done)) | (refine CLt c2 ?_ ?_;focus (simp [AN];done)) | (refine CLt c3 ?_ ?_;focus (simp [AQ];done)) | (refine CLt c4 ?_ ?_;focus (simp [AN];done)) | (refine CLt c5 ?_ ?_;focus (simp [Ap];done)) | (refine CLt c6 ?_ ?_;focus (simp [AG];done)) | (refine CLt c7 ?_ ?_;focus (simp;done)));simp [AA,AM])
   apply RZ;simp [results36]
theorem rD (a b c d:Int) (h: -100000<=a/\a<=100000) (h1: -100000<=b/\b<=100000) (h2: -100000<=c/\c<=100000) (h3: -100000<=d/\d<=100000):Ct prog 185 [vsp a b,vsp c d] (vsp (a+c) (b+d)) []:=by
 have w1:IntKind.wrap .i64 (a+c)=a+c:=AD (by omega) (by omega);have w2:IntKind.wrap .i64 (b+d)=b+d:=AD (by omega) (by omega);refine CB func185 c185 fun E hE=>?_
 simp [p185,AA,w1,w2];apply RZ;simp [results185]
abbrev Aam (c:Cel) (a:Atm):V:= .agg [vi c.rm,vi c.he,vi c.ai,vi c.wl,vi c.wh,vi c.lk,vi c.ow,vi a.pl,vi a.ph,vi a.tl,vi a.th,vi (am c),vi (a.tl+c.wl),vi (a.th+c.wh)]
theorem AJc (c:Cel) (a:Atm) (hc:B5 c) (ha:Fx a):Ct prog 105 [Ky c,Ox a] (.tup [Aam c a,vi 0]) []:=by
 have c1:=ASn c;have c2:=jD a;rw [Dm.2 hc] at c1;rw [VN.2 ha] at c2;have h1:=hc.he;have h2:=hc.ai;have h3:=hc.w;have h4:=ha.t;have c3:=rD a.tl a.th c.wl c.wh (by omega) (by omega) (by omega) (by omega);have w:IntKind.wrap .i64 (c.he+c.ai)=am c:=by unfold am;exact AD (by omega) (by omega)
 refine CB func105 c105 fun E hE=>?_
 simp [p105];refine CLa c1 ?_;simp [w,inC,Nat.testBit];refine CLa c3 ?_;simp [AA,inC,Nat.testBit];refine CLa c2 ?_;simp [AA];apply RZ;simp [results105]
theorem mO {c:Cel} {a:Atm} (hc:B5 c) (ha:Fx a):(0<=am c*(a.th+c.wh)/\am c*(a.th+c.wh)<=1000000000000)/\(0<=am c*(a.tl+c.wl)/\am c*(a.tl+c.wl)<=1000000000000)/\(0<=c.rm*a.pl/\c.rm*a.pl<=1000000000000)/\0<=c.rm*a.ph/\c.rm*a.ph<=1000000000000:=by
 have h1:=ig hc;have h2:=hc.w;have h3:=ha.t;have h4:=ha.p;have h5:=hc.rm;have m1:=sD (x:=am c) (y:=a.th+c.wh) (X:=20000000) (Y:=5000) (by omega) (by omega);have m2:=sD (x:=am c) (y:=a.tl+c.wl) (X:=20000000) (Y:=5000) (by omega) (by omega);have m3:=sD (x:=c.rm) (y:=a.pl) (X:=10000000) (Y:=12000) (by omega) (by omega);have m4:=sD (x:=c.rm) (y:=a.ph) (X:=10000000) (Y:=12000) (by omega) (by omega);have p1:0<=am c*(a.th+c.wh):=Int.mul_nonneg h1.1 (by omega);have p2:0<=am c*(a.tl+c.wl):=Int.mul_nonneg h1.1 (by omega);have p3:0<=c.rm*a.pl:=Int.mul_nonneg (by omega) (by omega);have p4:0<=c.rm*a.ph:=Int.mul_nonneg (by omega) (by omega);omega
abbrev vu8 (n:Int):V:= .d (.lit (.int .u8 n))
theorem fn60 (c:Cel) (a:Atm) (hc:B5 c) (ha:Fx a):Ct prog 60 [Ky c,Ox a] (.tup [vu8 (Lh c a),vi 0]) []:=by
 have c1:=AJc c a hc ha;have b:=mO hc ha;have w1:IntKind.wrap .i64 (am c*(a.th+c.wh))=am c*(a.th+c.wh):=AD (by omega) (by omega);have w2:IntKind.wrap .i64 (am c*(a.tl+c.wl))=am c*(a.tl+c.wl):=AD (by omega) (by omega);have w3:IntKind.wrap .i64 (c.rm*a.pl)=c.rm*a.pl:=AD (by omega) (by omega);have w4:IntKind.wrap .i64 (c.rm*a.ph)=c.rm*a.ph:=AD (by omega) (by omega);by_cases h1:am c*(a.th+c.wh)<=c.rm*a.pl
 . refine CB func60 c60 fun E hE=>?_
   simp [p60];refine CLa c1 ?_;simp [AA,w1,w3,h1];apply RZ;simp [results60,Lh,h1]
 . by_cases h2:c.rm*a.ph<am c*(a.tl+c.wl)
   . refine CB func60 c60 fun E hE=>?_
     simp [p60];refine CLa c1 ?_;simp [AA,w1,w2,w3,w4,h1,h2];apply RZ;simp [results60,Lh,h1,h2]
   . refine CB func60 c60 fun E hE=>?_
     simp [p60];refine CLa c1 ?_;simp [AA,w1,w2,w3,w4,h1,h2];apply RZ;simp [results60,Lh,h1,h2]
abbrev prL (r:Int × Int):List D:=[di r.1,di r.2]
def Bj (c:Cel) (w:Int) (t:Int):Int × Int:=(29*am c*w,t)
theorem KP {c:Cel} (hc:B5 c) {w:Int} (hw: -300<=w/\w<=300):(-1000000000<=29*am c/\29*am c<=1000000000)/\ -1000000000000<=29*am c*w/\29*am c*w<=1000000000000:=by
 have h1:=ig hc;have:=sD (x:=29*am c) (y:=w) (X:=1000000000) (Y:=300) (by omega) (by omega);omega
def ET (c:Cel) (a:Atm) (w:Int) (B:List (Int × Int)) (k:Nat):List (Int × Int):=B++([a.tl,a.th].take k).map (Bj c w)
theorem UI {c:Cel} {a:Atm} {w t:Int} {B:List (Int × Int)} {j:Nat} (h:[a.tl,a.th][j]?= some t):ET c a w B (j+1)=ET c a w B j++[Bj c w t]:=by
 unfold ET;rw [List.take_add_one,h];simp
theorem hfp:∀ r:Int × Int,(prL r).length=2:=fun _=>rfl
theorem dQ (c:Cel) (a:Atm) (hc:B5 c) (w:Int) (hw: -300<=w/\w<=300) (B:List (Int × Int)) (hB:B.length<=100) (i:Nat) {E:Ent} (hE:∀ i,¬ E.stab i) {Q:Av->St->Prop}:∀ j:Nat,j<=2->PW prog tys eqs E AWC
   (DP (fun st'=>∃ k,k<=2/\2-k<2-j/\AI prog E st' ⟨AO [(2, .lp 0 0),(3, .lp 1 0),(4, .lp 2 0),(6, .lp 3 0),(31, .ls 4 0 2 1),(32,vi 2),(33,vi i),(10,vi w),(43, .ls 5 0 2 1),(44,vi 2),(45,vi k),(8,hdF 2 (ET c a w B k) 6)],lk ([(0,[vi c.rm,vi c.he,vi c.ai,vi c.wl,vi c.wh,vi c.lk,vi c.ow]),(1,[vi a.pl,vi a.ph,vi a.tl,vi a.th]),(2,[vi 0,vi 0]),(3,[vi c.rm,vi c.he,vi c.ai,vi c.wl,vi c.wh,vi c.lk,vi c.ow,vi a.pl,vi a.ph,vi a.tl,vi a.th,vi (am c),vi (a.tl+c.wl),vi (a.th+c.wh)]),(4,[vi c.wl,vi c.wh]),(5,[vi a.tl,vi a.th])]++ouF prL (ET c a w B k) 6),7⟩)
     (exC prog E Q 2 (fun _:Unit=>⟨AO [(2, .lp 0 0),(3, .lp 1 0),(4, .lp 2 0),(6, .lp 3 0),(31, .ls 4 0 2 1),(32,vi 2),(33,vi i),(8,hdF 2 (B++[Bj c w a.tl,Bj c w a.th]) 6)],lk ([(0,[vi c.rm,vi c.he,vi c.ai,vi c.wl,vi c.wh,vi c.lk,vi c.ow]),(1,[vi a.pl,vi a.ph,vi a.tl,vi a.th]),(2,[vi 0,vi 0]),(3,[vi c.rm,vi c.he,vi c.ai,vi c.wl,vi c.wh,vi c.lk,vi c.ow,vi a.pl,vi a.ph,vi a.tl,vi a.th,vi (am c),vi (a.tl+c.wl),vi (a.th+c.wh)]),(4,[vi c.wl,vi c.wh])]++ouF prL (B++[Bj c w a.tl,Bj c w a.th]) 6),7⟩) (fun _=>True)))
   ⟨AO [(2, .lp 0 0),(3, .lp 1 0),(4, .lp 2 0),(6, .lp 3 0),(31, .ls 4 0 2 1),(32,vi 2),(33,vi i),(10,vi w),(43, .ls 5 0 2 1),(44,vi 2),(45,vi j),(8,hdF 2 (ET c a w B j) 6)],lk ([(0,[vi c.rm,vi c.he,vi c.ai,vi c.wl,vi c.wh,vi c.lk,vi c.ow]),(1,[vi a.pl,vi a.ph,vi a.tl,vi a.th]),(2,[vi 0,vi 0]),(3,[vi c.rm,vi c.he,vi c.ai,vi c.wl,vi c.wh,vi c.lk,vi c.ow,vi a.pl,vi a.ph,vi a.tl,vi a.th,vi (am c),vi (a.tl+c.wl),vi (a.th+c.wh)]),(4,[vi c.wl,vi c.wh]),(5,[vi a.tl,vi a.th])]++ouF prL (ET c a w B j) 6),7⟩:=by
 have hb:=KP hc hw;have w1:IntKind.wrap .i64 (29*am c)=29*am c:=AD (by omega) (by omega);have w2:IntKind.wrap .i64 (29*am c*w)=29*am c*w:=AD (by omega) (by omega)
 have step:∀ (j:Nat) (t:Int) (O:List (Int × Int)),O.length<=200->[a.tl,a.th][j]?= some t->ET c a w B j=O->ET c a w B (j+1)=O++[Bj c w t]->PW prog tys eqs E AWC
   (DP (fun st'=>∃ k,k<=2/\2-k<2-j/\AI prog E st' ⟨AO [(2, .lp 0 0),(3, .lp 1 0),(4, .lp 2 0),(6, .lp 3 0),(31, .ls 4 0 2 1),(32,vi 2),(33,vi i),(10,vi w),(43, .ls 5 0 2 1),(44,vi 2),(45,vi k),(8,hdF 2 (ET c a w B k) 6)],lk ([(0,[vi c.rm,vi c.he,vi c.ai,vi c.wl,vi c.wh,vi c.lk,vi c.ow]),(1,[vi a.pl,vi a.ph,vi a.tl,vi a.th]),(2,[vi 0,vi 0]),(3,[vi c.rm,vi c.he,vi c.ai,vi c.wl,vi c.wh,vi c.lk,vi c.ow,vi a.pl,vi a.ph,vi a.tl,vi a.th,vi (am c),vi (a.tl+c.wl),vi (a.th+c.wh)]),(4,[vi c.wl,vi c.wh]),(5,[vi a.tl,vi a.th])]++ouF prL (ET c a w B k) 6),7⟩)
     (exC prog E Q 2 (fun _:Unit=>⟨AO [(2, .lp 0 0),(3, .lp 1 0),(4, .lp 2 0),(6, .lp 3 0),(31, .ls 4 0 2 1),(32,vi 2),(33,vi i),(8,hdF 2 (B++[Bj c w a.tl,Bj c w a.th]) 6)],lk ([(0,[vi c.rm,vi c.he,vi c.ai,vi c.wl,vi c.wh,vi c.lk,vi c.ow]),(1,[vi a.pl,vi a.ph,vi a.tl,vi a.th]),(2,[vi 0,vi 0]),(3,[vi c.rm,vi c.he,vi c.ai,vi c.wl,vi c.wh,vi c.lk,vi c.ow,vi a.pl,vi a.ph,vi a.tl,vi a.th,vi (am c),vi (a.tl+c.wl),vi (a.th+c.wh)]),(4,[vi c.wl,vi c.wh])]++ouF prL (B++[Bj c w a.tl,Bj c w a.th]) 6),7⟩) (fun _=>True)))
   ⟨AO [(2, .lp 0 0),(3, .lp 1 0),(4, .lp 2 0),(6, .lp 3 0),(31, .ls 4 0 2 1),(32,vi 2),(33,vi i),(10,vi w),(43, .ls 5 0 2 1),(44,vi 2),(45,vi j),(8,hdF 2 O 6)],lk ([(0,[vi c.rm,vi c.he,vi c.ai,vi c.wl,vi c.wh,vi c.lk,vi c.ow]),(1,[vi a.pl,vi a.ph,vi a.tl,vi a.th]),(2,[vi 0,vi 0]),(3,[vi c.rm,vi c.he,vi c.ai,vi c.wl,vi c.wh,vi c.lk,vi c.ow,vi a.pl,vi a.ph,vi a.tl,vi a.th,vi (am c),vi (a.tl+c.wl),vi (a.th+c.wh)]),(4,[vi c.wl,vi c.wh]),(5,[vi a.tl,vi a.th])]++ouF prL O 6),7⟩:=by
   intro j t O hO ht _ hnx;have hj:j<2:=by have:=(List.getElem?_eq_some_iff.1 ht).1;simpa using this
   have hz:=@wz j (by omega);have hI:(j:Int)<2:=by omega
   have hj1:j<=1:=by omega
   have hcel:([vi a.tl,vi a.th]:List V)[j]?= some (vi t):=by
     have:([vi a.tl,vi a.th]:List V)=[a.tl,a.th].map vi:=rfl;rw [this,List.getElem?_map,ht];rfl
   have hcel2:([vi a.tl,vi a.th]:List V).drop j=vi t::([vi a.tl,vi a.th]:List V).drop (j+1):=by
     rw [List.drop_eq_getElem?_toList_append,hcel];rfl
   have hk:(2:Nat)-(j+1)<2-j:=by omega
   by_cases hne:O=[]
   . subst hne
     rw [Aq,Au];simp [AWC,hI,hj1,hcel2,AA,AM,w1,w2,hz];refine ⟨j+1,by omega,hk,?_⟩;rw [hnx,Ak (by simp),AZ (by simp)];refine AI.mk hE (lk [(0,0),(1,1),(2,2),(3,3),(4,4),(5,5),(6,13631495)]) _ _ _ ?_ ?_ ?_ ?_ ?_<;>simp [AH,Bj]
   . have hsl:=Aw hfp O
     have hwh:=E9 hfp O;have n1:(O.length+1)*16<=140737488355328:=by omega
     have n2:O.length+1<=9223372036854775807:=by omega
     rw [Ak hne,AZ hne];simp [AWC,hI,hj1,hcel2,AA,AM,w1,w2,hz,hsl,hwh,n1,n2];refine ⟨j+1,by omega,hk,?_⟩;rw [hnx,Ak (by simp),AZ (by simp),IV];refine AI.mk hE (lk [(0,0),(1,1),(2,2),(3,3),(4,4),(5,5),(6,13631495)]) _ _ _ ?_ ?_ ?_ ?_ ?_<;>simp [Bj]
 intro j hj;rcases Nat.lt_or_ge j 2 with h2 | h2
 . obtain ⟨t,ht⟩:∃ t,[a.tl,a.th][j]?= some t:=⟨_,List.getElem?_eq_getElem (by simpa using h2)⟩
   exact step j t (ET c a w B j) (by unfold ET;simp;omega) ht rfl (UI ht)
 . have e:j=2:=by omega
   subst e;have e2:ET c a w B 2=B++[Bj c w a.tl,Bj c w a.th]:=rfl;rw [e2,Ak (by simp),AZ (by simp)];simp [AWC];exact WK hE (lk [(0,0),(1,1),(2,2),(3,3),(4,4),(6,6)])
def CG (c:Cel) (a:Atm) (i:Nat):List (Int × Int):=([c.wl,c.wh].take i).flatMap fun w=>[Bj c w a.tl,Bj c w a.th]
theorem UJ {c:Cel} {a:Atm} {w:Int} {i:Nat} (h:[c.wl,c.wh][i]?= some w):CG c a (i+1)=CG c a i++[Bj c w a.tl,Bj c w a.th]:=by
 unfold CG;rw [List.take_add_one,h];simp
theorem XH {c:Cel} {a:Atm} (i:Nat):(CG c a i).length<=4:=by
 match i with
 | 0=>simp [CG]
 | 1=>simp [CG]
 | i+2=>simp [CG]
theorem XI (c:Cel) (a:Atm) (hc:B5 c) {E:Ent} (hE:∀ i,¬ E.stab i) {Q:Av->St->Prop}:∀ i:Nat,i<=2->PW prog tys eqs E AW5
   (DP (fun st'=>∃ k,k<=2/\2-k<2-i/\AI prog E st' ⟨AO [(2, .lp 0 0),(3, .lp 1 0),(4, .lp 2 0),(6, .lp 3 0),(31, .ls 4 0 2 1),(32,vi 2),(33,vi k),(8,hdF 2 (CG c a k) 6)],lk ([(0,[vi c.rm,vi c.he,vi c.ai,vi c.wl,vi c.wh,vi c.lk,vi c.ow]),(1,[vi a.pl,vi a.ph,vi a.tl,vi a.th]),(2,[vi 0,vi 0]),(3,[vi c.rm,vi c.he,vi c.ai,vi c.wl,vi c.wh,vi c.lk,vi c.ow,vi a.pl,vi a.ph,vi a.tl,vi a.th,vi (am c),vi (a.tl+c.wl),vi (a.th+c.wh)]),(4,[vi c.wl,vi c.wh])]++ouF prL (CG c a k) 6),7⟩)
     (exC prog E Q 0 (fun _:Unit=>⟨AO [(2, .lp 0 0),(3, .lp 1 0),(4, .lp 2 0),(8, .ls 3 0 4 2)],lk [(0,[vi c.rm,vi c.he,vi c.ai,vi c.wl,vi c.wh,vi c.lk,vi c.ow]),(1,[vi a.pl,vi a.ph,vi a.tl,vi a.th]),(2,[vi 0,vi 0]),(3,AH prL (CG c a 2))],4⟩) (fun _=>True)))
   ⟨AO [(2, .lp 0 0),(3, .lp 1 0),(4, .lp 2 0),(6, .lp 3 0),(31, .ls 4 0 2 1),(32,vi 2),(33,vi i),(8,hdF 2 (CG c a i) 6)],lk ([(0,[vi c.rm,vi c.he,vi c.ai,vi c.wl,vi c.wh,vi c.lk,vi c.ow]),(1,[vi a.pl,vi a.ph,vi a.tl,vi a.th]),(2,[vi 0,vi 0]),(3,[vi c.rm,vi c.he,vi c.ai,vi c.wl,vi c.wh,vi c.lk,vi c.ow,vi a.pl,vi a.ph,vi a.tl,vi a.th,vi (am c),vi (a.tl+c.wl),vi (a.th+c.wh)]),(4,[vi c.wl,vi c.wh])]++ouF prL (CG c a i) 6),7⟩:=by
 intro i hi;rcases Nat.lt_or_ge i 2 with h2 | h2
 . obtain ⟨w,hw⟩:∃ w,[c.wl,c.wh][i]?= some w:=⟨_,List.getElem?_eq_getElem (by simpa using h2)⟩
   have hwm:=List.mem_of_getElem? hw
   have hwb: -300<=w/\w<=300:=by
     have:=hc.w;simp at hwm;rcases hwm with rfl | rfl<;>omega
   have hz:=@wz i (by omega);have hI:(i:Int)<2:=by omega
   have hj1:i<=1:=by omega
   have hcel:([vi c.wl,vi c.wh]:List V)[i]?= some (vi w):=by
     have:([vi c.wl,vi c.wh]:List V)=[c.wl,c.wh].map vi:=rfl;rw [this,List.getElem?_map,hw];rfl
   have hcel2:([vi c.wl,vi c.wh]:List V).drop i=vi w::([vi c.wl,vi c.wh]:List V).drop (i+1):=by
     rw [List.drop_eq_getElem?_toList_append,hcel];rfl
   have hk:(2:Nat)-(i+1)<2-i:=by omega
   have hnx:=UJ (a:=a) hw;have hB:=XH (c:=c) (a:=a) i;obtain ⟨B,hBe⟩:∃ B,CG c a i=B:=⟨_,rfl⟩
   rw [hBe] at hnx hB ⊢;have hin:=fun (Q:Av->St->Prop)=>dQ (Q:=Q) c a hc w hwb B (by omega) i hE
   by_cases hne:B=[]
   . subst hne
     rw [Aq,Au];simp [AW5,hI,hj1,hcel2,AA,AM];refine BL (α:=Nat) 2 (fun _:Unit=>⟨AO [(2, .lp 0 0),(3, .lp 1 0),(4, .lp 2 0),(6, .lp 3 0),(31, .ls 4 0 2 1),(32,vi 2),(33,vi i),(8,hdF 2 ([]++[Bj c w a.tl,Bj c w a.th]) 6)],lk ([(0,[vi c.rm,vi c.he,vi c.ai,vi c.wl,vi c.wh,vi c.lk,vi c.ow]),(1,[vi a.pl,vi a.ph,vi a.tl,vi a.th]),(2,[vi 0,vi 0]),(3,[vi c.rm,vi c.he,vi c.ai,vi c.wl,vi c.wh,vi c.lk,vi c.ow,vi a.pl,vi a.ph,vi a.tl,vi a.th,vi (am c),vi (a.tl+c.wl),vi (a.th+c.wh)]),(4,[vi c.wl,vi c.wh])]++ouF prL ([]++[Bj c w a.tl,Bj c w a.th]) 6),7⟩) (fun _=>True) (fun k=>⟨AO [(2, .lp 0 0),(3, .lp 1 0),(4, .lp 2 0),(6, .lp 3 0),(31, .ls 4 0 2 1),(32,vi 2),(33,vi i),(10,vi w),(43, .ls 5 0 2 1),(44,vi 2),(45,vi k),(8,hdF 2 (ET c a w [] k) 6)],lk ([(0,[vi c.rm,vi c.he,vi c.ai,vi c.wl,vi c.wh,vi c.lk,vi c.ow]),(1,[vi a.pl,vi a.ph,vi a.tl,vi a.th]),(2,[vi 0,vi 0]),(3,[vi c.rm,vi c.he,vi c.ai,vi c.wl,vi c.wh,vi c.lk,vi c.ow,vi a.pl,vi a.ph,vi a.tl,vi a.th,vi (am c),vi (a.tl+c.wl),vi (a.th+c.wh)]),(4,[vi c.wl,vi c.wh]),(5,[vi a.tl,vi a.th])]++ouF prL (ET c a w [] k) 6),7⟩) (fun k=>k<=2) (fun k=>2-k) 0 ?_ ?_ (hin _) fun _ _=>?_
     . omega
     . rw [show ET c a w [] 0=[] from rfl,Aq,Au]
       exact WK hE (lk [(0,0),(1,1),(2,2),(3,3),(4,4),(5,10485767)])
     . rw [Ak (by simp),AZ (by simp)]
       simp [hz];refine ⟨i+1,by omega,hk,?_⟩;rw [hnx,Ak (by simp),AZ (by simp)];exact WK hE (lk [(0,0),(1,1),(2,2),(3,3),(4,4),(6,6)])
   . rw [Ak hne,AZ hne]
     simp [AW5,hI,hj1,hcel2,AA,AM];refine BL (α:=Nat) 2 (fun _:Unit=>⟨AO [(2, .lp 0 0),(3, .lp 1 0),(4, .lp 2 0),(6, .lp 3 0),(31, .ls 4 0 2 1),(32,vi 2),(33,vi i),(8,hdF 2 (B++[Bj c w a.tl,Bj c w a.th]) 6)],lk ([(0,[vi c.rm,vi c.he,vi c.ai,vi c.wl,vi c.wh,vi c.lk,vi c.ow]),(1,[vi a.pl,vi a.ph,vi a.tl,vi a.th]),(2,[vi 0,vi 0]),(3,[vi c.rm,vi c.he,vi c.ai,vi c.wl,vi c.wh,vi c.lk,vi c.ow,vi a.pl,vi a.ph,vi a.tl,vi a.th,vi (am c),vi (a.tl+c.wl),vi (a.th+c.wh)]),(4,[vi c.wl,vi c.wh])]++ouF prL (B++[Bj c w a.tl,Bj c w a.th]) 6),7⟩) (fun _=>True) (fun k=>⟨AO [(2, .lp 0 0),(3, .lp 1 0),(4, .lp 2 0),(6, .lp 3 0),(31, .ls 4 0 2 1),(32,vi 2),(33,vi i),(10,vi w),(43, .ls 5 0 2 1),(44,vi 2),(45,vi k),(8,hdF 2 (ET c a w B k) 6)],lk ([(0,[vi c.rm,vi c.he,vi c.ai,vi c.wl,vi c.wh,vi c.lk,vi c.ow]),(1,[vi a.pl,vi a.ph,vi a.tl,vi a.th]),(2,[vi 0,vi 0]),(3,[vi c.rm,vi c.he,vi c.ai,vi c.wl,vi c.wh,vi c.lk,vi c.ow,vi a.pl,vi a.ph,vi a.tl,vi a.th,vi (am c),vi (a.tl+c.wl),vi (a.th+c.wh)]),(4,[vi c.wl,vi c.wh]),(5,[vi a.tl,vi a.th])]++ouF prL (ET c a w B k) 6),7⟩) (fun k=>k<=2) (fun k=>2-k) 0 ?_ ?_ (hin _) fun _ _=>?_
     . omega
     . rw [show ET c a w B 0=B by simp [ET],Ak hne,AZ hne]
       exact WK hE (lk [(0,0),(1,1),(2,2),(3,3),(4,4),(5,10485767),(6,6)])
     . rw [Ak (by simp),AZ (by simp)]
       simp [hz];refine ⟨i+1,by omega,hk,?_⟩;rw [hnx,Ak (by simp),AZ (by simp)];exact WK hE (lk [(0,0),(1,1),(2,2),(3,3),(4,4),(6,6)])
 . have e:i=2:=by omega
   subst e;have e2:(CG c a 2).length=4:=rfl;rw [Ak (by simp [CG]),AZ (by simp [CG]),e2];simp [AW5];exact WK hE (lk [(0,0),(1,1),(2,2),(3,6)])
theorem O7 {c:Cel} {a:Atm} (hc:B5 c) (ha:Fx a):Yd (Bj c c.wl a.tl) [Bj c c.wl a.th,Bj c c.wh a.tl,Bj c c.wh a.th]=((Bx c a).1-25*c.he,(Bx c a).2-25*c.he):=by
 obtain ⟨h1,h2⟩:=VO hc ha;unfold Yd ALK rSp Bj Bx;simp only [List.map_cons,List.map_nil,List.foldl_cons,List.foldl_nil,Xa];rw [h1,h2]
 ext<;>simp only<;>omega
theorem fn52 (c:Cel) (a:Atm) (hc:B5 c) (ha:Fx a):Ct prog 52 [Ky c,Ox a] (.tup [vsp (Bx c a).1 (Bx c a).2,vi 0]) []:=by
 have c1:=AJc c a hc ha;have t:=ha.t;have wb:=hc.w;have k1:=(KP hc (w:=c.wl) (by omega)).2;have k2:=(KP hc (w:=c.wh) (by omega)).2
 have okr:∀ w t',(w=c.wl\/w=c.wh)->(t'=a.tl\/t'=a.th)->okR (Bj c w t'):=fun w t' h1 h2=>by
   unfold okR Bj;rcases h1 with rfl | rfl<;>rcases h2 with rfl | rfl<;>simp only<;>omega
 have c2:=pf (Bj c c.wl a.tl) [Bj c c.wl a.th,Bj c c.wh a.tl,Bj c c.wh a.th] (by simp) (okr _ _ (Or.inl rfl) (Or.inl rfl)) (fun q hq=>by
   simp only [List.mem_cons,List.not_mem_nil,or_false] at hq;rcases hq with rfl | rfl | rfl
   . exact okr _ _ (Or.inl rfl) (Or.inr rfl)
   . exact okr _ _ (Or.inr rfl) (Or.inl rfl)
   . exact okr _ _ (Or.inr rfl) (Or.inr rfl))
 rw [O7 hc ha] at c2;have e4:CG c a 2=[Bj c c.wl a.tl,Bj c c.wl a.th,Bj c c.wh a.tl,Bj c c.wh a.th]:=rfl
 have bnd: -10000000000000<=(Bx c a).1-25*c.he/\(Bx c a).1-25*c.he<=10000000000000/\ -10000000000000<=(Bx c a).2-25*c.he/\(Bx c a).2-25*c.he<=10000000000000:=by
   have q:∀ x t',(-1000000000000<=x/\x<=1000000000000)->(0<t')-> -1000000000000<=fl x t'/\fl x t'<=1000000000000:=fun x t' hx ht=>by
     unfold fl;refine ⟨?_,?_⟩
     . rw [Int.le_ediv_iff_mul_le ht]
       have:(-1000000000000:Int)*t'<= -1000000000000*1:=Int.mul_le_mul_of_nonpos_left (by omega) (by omega);omega
     . have h3:x/t' < 1000000000001:=by
         rw [Int.ediv_lt_iff_lt_mul ht];have:(1000000000001:Int)*1<=1000000000001*t':=Int.mul_le_mul_of_nonneg_left (by omega) (by omega);omega
       omega
   have q1:=q _ a.tl k1 (by omega);have q2:=q _ a.th k1 (by omega);have q3:=q (-(29*am c*c.wh)) a.tl (by omega) (by omega);have q4:=q (-(29*am c*c.wh)) a.th (by omega) (by omega);unfold Bx ce;unfold fl at q1 q2 q3 q4 ⊢;simp only;omega
 have he:=hc.he;have w0:IntKind.wrap .i64 (25*c.he)=25*c.he:=AD (by omega) (by omega);have w1:IntKind.wrap .i64 (Bx c a).1=(Bx c a).1:=AD (by omega) (by omega);have w2:IntKind.wrap .i64 (Bx c a).2=(Bx c a).2:=AD (by omega) (by omega);have hb4:∀ H:Hp,H 3=some (AH prL (CG c a 2))->Bor H (.ls 3 0 4 2) (.d (An [Bj c c.wl a.tl,Bj c c.wl a.th,Bj c c.wh a.tl,Bj c c.wh a.th])):=fun H h=>B0 (f:=prL) hfp (l:=CG c a 2) h
 refine CB func52 c52 fun E hE=>?_
 simp [p52];refine CLa c1 ?_;simp [AA,AM];refine BL (α:=Nat) 0 (fun _:Unit=>⟨AO [(2, .lp 0 0),(3, .lp 1 0),(4, .lp 2 0),(8, .ls 3 0 4 2)],lk [(0,[vi c.rm,vi c.he,vi c.ai,vi c.wl,vi c.wh,vi c.lk,vi c.ow]),(1,[vi a.pl,vi a.ph,vi a.tl,vi a.th]),(2,[vi 0,vi 0]),(3,AH prL (CG c a 2))],4⟩) (fun _=>True) (fun k=>⟨AO [(2, .lp 0 0),(3, .lp 1 0),(4, .lp 2 0),(6, .lp 3 0),(31, .ls 4 0 2 1),(32,vi 2),(33,vi k),(8,hdF 2 (CG c a k) 6)],lk ([(0,[vi c.rm,vi c.he,vi c.ai,vi c.wl,vi c.wh,vi c.lk,vi c.ow]),(1,[vi a.pl,vi a.ph,vi a.tl,vi a.th]),(2,[vi 0,vi 0]),(3,[vi c.rm,vi c.he,vi c.ai,vi c.wl,vi c.wh,vi c.lk,vi c.ow,vi a.pl,vi a.ph,vi a.tl,vi a.th,vi (am c),vi (a.tl+c.wl),vi (a.th+c.wh)]),(4,[vi c.wl,vi c.wh])]++ouF prL (CG c a k) 6),7⟩) (fun k=>k<=2) (fun k=>2-k) 0 ?_ ?_ (XI c a hc hE) fun _ _=>?_
 . omega
 . rw [show CG c a 0=[] from rfl,Aq,Au]
   exact WK hE (lk [(0,0),(1,1048576),(2,2097152),(3,10485760),(4,23068672)])
 . simp
   refine AL [(6,5242884)] (by kernel_rfl) ?_;simp [inC,Nat.testBit];refine CLb (c2) (by simp [hb4]) ?_;simp [AA,inC,Nat.testBit,w0,w1,w2];apply RZ;simp [results52]
theorem TE {c:Cel} {a:Atm} (hc:B5 c) (ha:Fx a):(-10000000000000<=(Bx c a).1/\(Bx c a).1<=10000000000000)/\ -10000000000000<=(Bx c a).2/\(Bx c a).2<=10000000000000:=by
 have t:=ha.t;have wb:=hc.w;have he:=hc.he;have k1:=(KP hc (w:=c.wl) (by omega)).2;have k2:=(KP hc (w:=c.wh) (by omega)).2
 have q:∀ x t',(-1000000000000<=x/\x<=1000000000000)->(0<t')-> -1000000000000<=fl x t'/\fl x t'<=1000000000000:=fun x t' hx ht=>by
   unfold fl;refine ⟨?_,?_⟩
   . rw [Int.le_ediv_iff_mul_le ht]
     have:(-1000000000000:Int)*t'<= -1000000000000*1:=Int.mul_le_mul_of_nonpos_left (by omega) (by omega);omega
   . have h3:x/t' < 1000000000001:=by
       rw [Int.ediv_lt_iff_lt_mul ht];have:(1000000000001:Int)*1<=1000000000001*t':=Int.mul_le_mul_of_nonneg_left (by omega) (by omega);omega
     omega
 have q1:=q _ a.tl k1 (by omega);have q2:=q _ a.th k1 (by omega);have q3:=q (-(29*am c*c.wh)) a.tl (by omega) (by omega);have q4:=q (-(29*am c*c.wh)) a.th (by omega) (by omega);unfold Bx ce;unfold fl at q1 q2 q3 q4 ⊢;simp only;omega
structure VU (s:Shp):Prop where
 h: -500<=s.hl/\s.hl<=s.hh/\s.hh<=9000
 f:0<=s.fl/\s.fl<=s.fh/\s.fh<=1000000000
 w:0<=s.wl/\s.wl<=s.wh/\s.wh<=1000000000
 d:0<=s.dry/\s.dry<=1000000000
 b:0<=s.bal/\s.bal<=1000000000
 n:s.gas.cs.length<=12
 c:∀ c∈s.gas.cs,B5 c
theorem GT {s:Shp} (h:A6 s=true):VU s:=by
 unfold A6 Ar IR at h;simp only [Bool.and_eq_true,CC,List.all_eq_true,decide_eq_true_eq] at h;obtain ⟨⟨⟨⟨⟨⟨h1,h2⟩,h3⟩,h4⟩,h5⟩,h6⟩,⟨⟨⟨h7,h8⟩,h9⟩,h10⟩,h11⟩:=h;have h5':(0<=s.dry/\s.dry<=1000000000)/\0<=s.bal/\s.bal<=1000000000:=by simpa [rgB] using h5
 exact ⟨h2,h3.1,h3.2,h5'.1,h5'.2,h7,fun c hc=>Dm.1 (h10 c hc)⟩
theorem aR:∀ {l:List Lev},(∀ (i:Nat) (x y:Lev),l[i]?= some x->l[i+1]?= some y->x.h<y.h)->Inc l
 | [],_=>trivial
 | [_],_=>trivial
 | a::b::r,h=>⟨h 0 a b rfl rfl,aR fun i x y hx hy=>h (i+1) x y (by simpa using hx) (by simpa using hy)⟩
theorem gZ {l:List Lev} (h:OkS l) (hf:¬ 0<=ixF unf (swp l)):Snd (tmS (knT l)) (swp l):=by
 have ho:=Yu h hf;have hk:=ho.lks;rw [TF] at hk;refine ⟨aR fun i x y hx hy=>by have:=ho.step i x y hx hy;omega,hk,Ns h,fun x hx=>?_⟩;have:=(ho.lev x hx).1;exact ⟨this.1,this.2.1,this.2.2⟩
theorem ld {l:List Lev} (h:OkS l):swp l≠[]:=by
 intro e;have:=Dj (l:=l);rw [e] at this;have:=h.len;simp at*;omega
structure yg (l:List Lev) (a b:Int):Prop where
 ok:OkS l
 fit:¬ 0<=ixF unf (swp l)
 ab:a<=b
 ina:E8 l a
 inb:E8 l b
 eq:atA l a b=(WH (tmS (knT l)) (swp l) a b,0)
theorem NU {l:List Lev} {x y:Lev} {z:Int} (hx:l[0]?= some x) (hy:l[l.length-1]?= some y) (h1:x.h<=z) (h2:z<=y.h):E8 l z:=by
 refine ⟨fun k hk=>?_,fun k hk=>?_⟩
 . rw [hx] at hk;cases hk;exact h1
 . rw [hy] at hk;cases hk;exact h2
theorem Td {lo hi a b:Int}:rgB lo hi [a,b]=true↔(lo<=a/\a<=hi)/\lo<=b/\b<=hi:=by simp [rgB]
theorem qD {l:List Lev} {a b:Int} (h:(atA l a b).2=0):yg l a b:=by
 unfold atA at h;split at h
 . rename_i h1
   split at h
   . rename_i h2
     split at h
     . rename_i x y hx hy
       split at h
       . rename_i h3
         split at h
         . rename_i h4
           have ho:=B8.1 h1;have hr:=Td.1 h3;have hs:=CT.1 h2;refine ⟨ho,(IQ ho).1 h4,hs.1,NU hx hy hr.1.1 hr.1.2,NU hx hy hr.2.1 hr.2.2,?_⟩;unfold atA;rw [if_pos h1,if_pos h2,hx,hy];simp only;rw [if_pos h3,if_pos h4]
         . rename_i h4;exact absurd h h4
       . simp at h
     . simp at h
   . simp at h
 . simp at h
theorem aU {l:List Lev} {a b:Int} (h:yg l a b):Fx (atA l a b).1:=by
 rw [h.eq];exact mD (gZ h.ok h.fit) (ld h.ok) h.ab (Oq h.ok h.ina h.inb).p
structure Act where
 k:Int
 c:Int
 t:Int
 n:Int
deriving DecidableEq
abbrev shpR (s:Shp):List D:=[di s.xl,di s.xh,di s.yl,di s.yh,di s.hl,di s.hh,di s.fl,di s.fh,di s.wl,di s.wh,di s.bl,di s.bh,di s.dry,di s.bal,di s.drp,AX s.gas.cs,di s.gas.bt,di s.gas.ih,di s.gas.ia,di s.gas.vh,di s.gas.va,di s.gas.lh,di s.gas.la,di s.gas.ph,di s.gas.pa]
end Go.Proofs.Tryz
namespace Go.Proofs.YtmaoncnifomnkaaGreatDoor
open Go.Joins Go.ChangeShapes Go.WideShapes Go.ChangeAt Go.RowKit Go.Psl
theorem Tryz.own:ownKnob Tryz.prog.godebug=none:=by kernel_rfl
theorem Tryz.laidOut:laidOutB Tryz.prog=true:=by kernel_rfl
theorem all_map {α β:Type} {f:α->β}:∀ {es:List β},(∀ x∈es,∃ k,x=f k)->∃ t:List α,es=t.map f
 | [],_=>⟨[],rfl⟩
 | e::es,h=>by
   obtain ⟨k,hk⟩:=h e (by simp);obtain ⟨t,ht⟩:=all_map (f:=f) (es:=es) fun x hx=>h x (by simp [hx])
   exact ⟨k::t,by rw [ht,hk];rfl⟩
theorem BM {n:Nat} {ds:List D} (h:Sh' Tryz.prog (n+1) 3 ds):∃ i:Int,ds=[.lit (.int .i64 i)]:=by
 simp only [Sh',Tryz.underlying3] at h;obtain ⟨i,h,_⟩:=h;exact ⟨i,h⟩
theorem CD {n:Nat} {ds:List D} (h:Sh' Tryz.prog (n+2) 23 ds):∃ k:Int × Int,ds=[.lit (.int .i64 k.1), .lit (.int .i64 k.2)]:=by
 rw [Sh',Tryz.underlying23] at h;obtain ⟨a,r,rfl,h1,b,r2,rfl,h2,rfl⟩:=h;obtain ⟨i,rfl⟩:=BM h1;obtain ⟨j,rfl⟩:=BM h2;exact ⟨(i,j),rfl⟩
theorem J0 {n:Nat} {ds:List D} (h:Sh' Tryz.prog (n+2) 26 ds):∃ k:Int × Int,ds=[.lit (.int .i64 k.1), .lit (.int .i64 k.2)]:=by
 rw [Sh',Tryz.underlying26] at h;obtain ⟨a,r,rfl,h1,b,r2,rfl,h2,rfl⟩:=h;obtain ⟨i,rfl⟩:=BM h1;obtain ⟨j,rfl⟩:=BM h2;exact ⟨(i,j),rfl⟩
theorem TJ {n:Nat} {ds:List D} (h:Sh' Tryz.prog (n+3) 45 ds):∃ k:(Int × Int) × Int × Int,ds=[.lit (.int .i64 k.1.1), .lit (.int .i64 k.1.2), .lit (.int .i64 k.2.1), .lit (.int .i64 k.2.2)]:=by
 rw [Sh',Tryz.underlying45] at h;obtain ⟨a,r,rfl,h1,b,r2,rfl,h2,rfl⟩:=h;obtain ⟨i,rfl⟩:=CD h1;obtain ⟨j,rfl⟩:=CD h2;exact ⟨(i,j),rfl⟩
theorem ke {n:Nat} {ds:List D} (h:Sh' Tryz.prog (n+3) 142 ds):∃ k:Go.Air.Lev,ds=Tryz.A5 k:=by
 rw [Sh',Tryz.underlying142] at h;obtain ⟨a,r,rfl,h1,b,r2,rfl,h2,c,r3,rfl,h3,rfl⟩:=h;obtain ⟨i,rfl⟩:=BM h1;obtain ⟨j,rfl⟩:=CD h2;obtain ⟨k,rfl⟩:=CD h3;exact ⟨⟨i,j.1,j.2,k.1,k.2⟩,rfl⟩
theorem kf {n:Nat} {ds:List D} (h:Sh' Tryz.prog (n+4) 144 ds):∃ k:Tryz.Gal,ds=Tryz.AZk k:=by
 rw [Sh',Tryz.underlying144] at h;obtain ⟨a,r,rfl,h1,b,r2,rfl,h2,c,r3,rfl,h3,rfl⟩:=h;obtain ⟨i,rfl⟩:=BM h1;obtain ⟨j,rfl⟩:=TJ h2;obtain ⟨k,rfl⟩:=BM h3;exact ⟨⟨i,j.1.1,j.1.2,j.2.1,j.2.2,k⟩,rfl⟩
theorem AZz {n:Nat} {ds:List D} (h:Sh' Tryz.prog (n+3) 115 ds):∃ k:Go.Air.Cel,ds=Tryz.AP k:=by
 rw [Sh',Tryz.underlying115] at h;obtain ⟨a,r,rfl,h1,b,r2,rfl,h2,c,r3,rfl,h3,d,r4,rfl,h4,e,r5,rfl,h5,f,r6,rfl,h6,rfl⟩:=h;obtain ⟨i1,rfl⟩:=BM h1;obtain ⟨i2,rfl⟩:=BM h2;obtain ⟨i3,rfl⟩:=BM h3;obtain ⟨i4,rfl⟩:=CD h4;obtain ⟨i5,rfl⟩:=BM h5;obtain ⟨i6,rfl⟩:=BM h6;exact ⟨⟨i1,i2,i3,i4.1,i4.2,i5,i6⟩,rfl⟩
theorem AYo:Tryz.prog.cellsOf 142=5:=by kernel_rfl
theorem fM {n:Nat} {ds:List D} (h:Sh' Tryz.prog (n+4) 31 ds):∃ t:List Go.Air.Lev,ds=[.sl 5 (t.map Tryz.A5)]:=by
 rw [Sh',Tryz.underlying31] at h;obtain ⟨es,rfl,_,h⟩:=h;obtain ⟨t,rfl⟩:=all_map fun x hx=>ke (h x hx)
 exact ⟨t,by rw [AYo]⟩
theorem AYp:Tryz.prog.cellsOf 144=6:=by kernel_rfl
theorem fN {n:Nat} {ds:List D} (h:Sh' Tryz.prog (n+5) 32 ds):∃ t:List Tryz.Gal,ds=[.sl 6 (t.map Tryz.AZk)]:=by
 rw [Sh',Tryz.underlying32] at h;obtain ⟨es,rfl,_,h⟩:=h;obtain ⟨t,rfl⟩:=all_map fun x hx=>kf (h x hx)
 exact ⟨t,by rw [AYp]⟩
theorem AYq:Tryz.prog.cellsOf 115=7:=by kernel_rfl
theorem Y6 {n:Nat} {ds:List D} (h:Sh' Tryz.prog (n+4) 24 ds):∃ t:List Go.Air.Cel,ds=[.sl 7 (t.map Tryz.AP)]:=by
 rw [Sh',Tryz.underlying24] at h;obtain ⟨es,rfl,_,h⟩:=h;obtain ⟨t,rfl⟩:=all_map fun x hx=>AZz (h x hx)
 exact ⟨t,by rw [AYq]⟩
theorem Y7 {n:Nat} {ds:List D} (h:Sh' Tryz.prog (n+5) 28 ds):∃ p:Tryz.Plt,ds=[Tryz.AX p.cs, .lit (.int .i64 p.bt), .lit (.int .i64 p.ih), .lit (.int .i64 p.ia), .lit (.int .i64 p.vh), .lit (.int .i64 p.va), .lit (.int .i64 p.lh), .lit (.int .i64 p.la), .lit (.int .i64 p.ph), .lit (.int .i64 p.pa)]:=by
 rw [Sh',Tryz.underlying28] at h;obtain ⟨a,r,rfl,h1,b,r2,rfl,h2,c,r3,rfl,h3,d,r4,rfl,h4,e,r5,rfl,h5,f,r6,rfl,h6,rfl⟩:=h;obtain ⟨i1,rfl⟩:=Y6 h1;obtain ⟨i2,rfl⟩:=BM h2;obtain ⟨i3,rfl⟩:=J0 h3;obtain ⟨i4,rfl⟩:=J0 h4;obtain ⟨i5,rfl⟩:=J0 h5;obtain ⟨i6,rfl⟩:=J0 h6;exact ⟨⟨i1,i2,i3.1,i3.2,i4.1,i4.2,i5.1,i5.2,i6.1,i6.2⟩,rfl⟩
theorem fP {n:Nat} {ds:List D} (h:Sh' Tryz.prog (n+6) 30 ds):∃ s:Tryz.Shp,ds=Tryz.shpR s:=by
 rw [Sh',Tryz.underlying30] at h;obtain ⟨a1,r1,rfl,h1,a2,r2,rfl,h2,a3,r3,rfl,h3,a4,r4,rfl,h4,a5,r5,rfl,h5,a6,r6,rfl,h6,a7,r7,rfl,h7,a8,r8,rfl,h8,a9,r9,rfl,h9,a0,r0,rfl,h0,rfl⟩:=h;obtain ⟨i1,rfl⟩:=CD h1;obtain ⟨i2,rfl⟩:=CD h2;obtain ⟨i3,rfl⟩:=CD h3;obtain ⟨i4,rfl⟩:=CD h4;obtain ⟨i5,rfl⟩:=CD h5;obtain ⟨i6,rfl⟩:=CD h6;obtain ⟨i7,rfl⟩:=BM h7;obtain ⟨i8,rfl⟩:=BM h8;obtain ⟨i9,rfl⟩:=BM h9;obtain ⟨p,rfl⟩:=Y7 h0;exact ⟨⟨i1.1,i1.2,i2.1,i2.2,i3.1,i3.2,i4.1,i4.2,i5.1,i5.2,i6.1,i6.2,i7,i8,i9,p⟩,rfl⟩
theorem kg {n:Nat} {ds:List D} (h:Sh' Tryz.prog (n+6) 34 ds):∃ k:Tryz.Sky,ds=[Tryz.BF k.s,Tryz.cT k.w]:=by
 rw [Sh',Tryz.underlying34] at h;obtain ⟨a,r,rfl,h1,b,r2,rfl,h2,rfl⟩:=h;obtain ⟨i,rfl⟩:=fM h1;obtain ⟨j,rfl⟩:=fN h2;exact ⟨⟨i,j⟩,rfl⟩
theorem Y8 {G:Gh} {W:World}:∀ {ds:List D} {cv:List Value},AJ (RD G.Im W) ds cv->AJ (R1 G W) (ds.map V.d) cv
 | [],[],_=>trivial
 | _::_,_::_,h=>⟨h.1,Y8 h.2⟩
abbrev GW (W:World):Gh:=⟨fun _=>0,fun _=>0,fun _=>true,fun _=>true,InW W⟩
theorem HX {H:Type} {enc:TypeId × Value->H} {W:World} {base:Nat} {v:Value} {d:DataW H} {p:List MemPlace} {t:TypeId} {fs:Array Field} {n:Nat} (hu:Tryz.prog.underlying t=some (.struct fs)) (hp:E5 Tryz.prog n t=true)
   (hval:Value.okWide Tryz.prog W .any base t v) (h:DataW.Trod enc Tryz.prog W 0 (fun _=>true) true t v d p):∃ ds:List D,Sh' Tryz.prog n t ds/\R2 (GW W) W (.agg (ds.map .d)) v:=by
 obtain ⟨m,hm⟩:=h;obtain ⟨cs,rfl,_⟩:=okWide_struct hu hval;obtain ⟨ds,h1,h2⟩:=HQ n t hp m _ _ hm;exact ⟨ds,h1,_,rfl,Y8 h2⟩
end Go.Proofs.YtmaoncnifomnkaaGreatDoor
namespace Go.Proofs.Tryz
open Go.Psl
theorem fZ {H:Hp} {id:Nat} {a b:Int} (h:H id=some [vi a,vi b]):Bor H (.ls id 0 2 1) (.d (Qw [a,b])):=by
 rw [Bk];exact ⟨rfl,rfl,by simp,_,h,rfl⟩
theorem AAE (a b:Int × Int):Ct prog 229 [vsp a.1 a.2,vsp b.1 b.2] (vi (Dw a b)) []:=by
 refine CB func229 c229 fun E hE=>?_
 simp [p229,inC,Nat.testBit];refine CLa (un a.1 b.1) ?_;simp [inC,Nat.testBit];refine CLa (un a.2 b.2) ?_;simp [AA,AM];refine CLb (Aaw (NM a.1 b.1) (NM a.2 b.2)) (by simp [fZ]) ?_;simp;apply RZ;simp [results229,Dw]
def okC (p:Int × Int):Bool:=decide (max p.1 p.2<=268435456)&&decide (-268435456<=min p.1 p.2)
theorem NH {p:Int × Int}:okC p=true↔bd 268435456 p:=by
 unfold okC bd;simp only [Bool.and_eq_true,decide_eq_true_eq];omega
def EJ (l:List (Int × Int)):Bool:=l.all okC
theorem RA {l:List (Int × Int)} {i:Nat} {s:Int × Int} (hs:l[i]?= some s):EJ (l.take (i+1))=(EJ (l.take i)&&okC s):=by
 simp [EJ,List.take_add_one,hs]
theorem Jh {l:List (Int × Int)} {i:Nat} {s:Int × Int} (hs:l[i]?= some s) (h:okC s=false):EJ l=false:=by
 unfold EJ;rw [List.all_eq_false];exact ⟨s,List.mem_of_getElem? hs,by simp [h]⟩
theorem ASo (l:List (Int × Int)) (hl:l.length<=1000000000):Ct prog 158 [.d (An l)] (vb (EJ l)) []:=by
 refine CB func158 c158 fun E hE=>?_
 simp [p158];refine Al (α:=Nat) (fun i=>⟨AO [(5, .d (An l)),(6,vi l.length),(7,vi i)],lk [],0⟩) (fun i=>i<=l.length/\EJ (l.take i)=true) (fun i=>l.length-i) 0 ?_ ?_ ?_
 . simp [EJ]
 . exact WK hE (lk [])
 . rintro i ⟨hi,hg⟩
   have hz:IntKind.wrap .i64 ((i:Int)+1)=((i:Int)+1):=AD (by omega) (by omega);simp [AY5];refine DW (fun h=>?_) (fun h=>?_)
   . simp at h
     have hil:i<l.length:=by omega
     obtain ⟨p,hp⟩:∃ p,l[i]?= some p:=⟨l[i],by simp [hil]⟩
     by_cases h1:268435456<max p.1 p.2
     . have hb:okC p=false:=by unfold okC;rw [decide_eq_false (by omega)];rfl
       simp [hp,h1,AA];apply RZ;simp [results158,Jh hp hb]
     by_cases h2:min p.1 p.2 < -268435456
     . have hb:okC p=false:=by unfold okC;rw [decide_eq_false (p:= -268435456<=min p.1 p.2) (by omega)];simp
       simp [hp,h1,h2,AA];apply RZ;simp [results158,Jh hp hb]
     have hb:okC p=true:=by unfold okC;simp only [Bool.and_eq_true,decide_eq_true_eq];omega
     simp [hp,h1,h2,hz,AA];refine ⟨i+1,⟨by omega,by rw [RA hp,hg,hb];rfl⟩,by omega,?_⟩;exact WK hE (lk [])
   . simp at h
     have hil:i=l.length:=by omega
     subst hil;rw [List.take_length] at hg;simp;apply RZ;simp [results158,hg]
theorem xA (l m:List (Int × Int)) (hl:l.length<=1000000000) (_:m.length<=1000000000):Ct prog 159 [.d (An l), .d (An m)] (vb (decide (l=m))) []:=by
 refine CB func159 c159 fun E hE=>?_
 by_cases hlen:l.length=m.length
 case neg=>
   have hn:¬ (l.length:Int)=m.length:=by omega
   have hne:¬ l=m:=fun h=>hlen (by rw [h])
   simp [p159,hn];apply RZ;simp [results159,hne]
 simp [p159,hlen];refine Al (α:=Nat) (fun i=>⟨AO [(0, .d (An l)),(1, .d (An m)),(12,vi m.length),(13,vi i)],lk [],0⟩) (fun i=>i<=l.length/\l.take i=m.take i) (fun i=>l.length-i) 0 ?_ ?_ ?_
 . simp
 . exact WK hE (lk [])
 . rintro i ⟨hi,hg⟩
   have hz:IntKind.wrap .i64 ((i:Int)+1)=((i:Int)+1):=AD (by omega) (by omega);simp [bF];refine DW (fun h=>?_) (fun h=>?_)
   . simp at h
     have hil:i<l.length:=by omega
     obtain ⟨a,ha⟩:∃ a,l[i]?= some a:=⟨l[i],by simp [hil]⟩
     obtain ⟨b,hb⟩:∃ b,m[i]?= some b:=⟨m[i],by simp [show i<m.length by omega]⟩
     by_cases h1:a.1=b.1/\a.2=b.2
     . have hab:a=b:=by ext;exact h1.1;exact h1.2
       simp [ha,hb,h1,hz];refine ⟨i+1,⟨by omega,by simp [List.take_add_one,hg,ha,hb,hab]⟩,by omega,?_⟩;exact WK hE (lk [])
     . have hne:¬ l=m:=fun h=>by
         rw [h,hb] at ha;cases ha;exact h1 ⟨rfl,rfl⟩
       have hd:(!decide (a.1=b.1)||!decide (a.2=b.2))=true:=by simp;omega
       simp [ha,hb,hd];apply RZ;simp [results159,hne]
   . simp at h
     have hil:i=l.length:=by omega
     have hlm:l=m:=by rw [hil,List.take_length,hlen,List.take_length] at hg;exact hg
     simp;apply RZ;simp [results159,hlm]
def spD (l:List (Int × Int)):List D:=l.flatMap fun s=>[di s.1,di s.2]
abbrev BC (l:List (Int × Int)):List V:=(spD l).map .d
@[simp] theorem Di (l:List (Int × Int)):(spD l).length=l.length*2:=by
 induction l with
 | nil=>rfl
 | cons a l ih=>simp [spD] at ih ⊢;omega
theorem bZ (l:List (Int × Int)) (p:Int × Int):spD (l++[p])=spD l++[di p.1,di p.2]:=by simp [spD]
abbrev v3 (a b c:Int):V:= .agg [vi a,vi b,vi c]
def Ju (out:List (Int × Int)) (b:Nat):V:=if out.isEmpty then .d (.lit (.slice none 0 0)) else .ls b 0 out.length 2
def AAV (out:List (Int × Int)) (b:Nat):List (Nat × List V):=if out.isEmpty then [] else [(b,BC out)]
@[simp] theorem AG1 (b:Nat):Ju [] b= .d (.lit (.slice none 0 0)):=rfl
@[simp] theorem Rx (l:List (Int × Int)) (p:Int × Int) (b:Nat):Ju (l++[p]) b= .ls b 0 (l.length+1) 2:=by simp [Ju]
@[simp] theorem zJ (b:Nat):AAV [] b=[]:=rfl
@[simp] theorem y4 (l:List (Int × Int)) (p:Int × Int) (b:Nat):AAV (l++[p]) b=[(b,BC l++[vi p.1,vi p.2])]:=by simp [AAV,BC,bZ]
@[simp] theorem AG2 (p:Int × Int) (b:Nat):Ju [p] b= .ls b 0 1 2:=rfl
@[simp] theorem zK (p:Int × Int) (b:Nat):AAV [p] b=[(b,[vi p.1,vi p.2])]:=rfl
@[simp] theorem rM:spD []=[]:=rfl
theorem Eo (p:Int × Int) (l:List (Int × Int)):spD (p::l)=di p.1::di p.2::spD l:=rfl
theorem fG (l m:List (Int × Int)):spD (l++m)=spD l++spD m:=by simp [spD]
theorem Yo:∀ {l:List (Int × Int)} {i:Nat} {p:Int × Int},l[i]?= some p->((spD l).drop (i*2)).take 2=[di p.1,di p.2]
 | [],i,p,h=>by simp at h
 | a::l,0,p,h=>by simp at h;subst h;rfl
 | a::l,i+1,p,h=>by
   simp at h;rw [show (i+1)*2=i*2+2 by omega,Eo,List.drop_succ_cons,List.drop_succ_cons];exact Yo h
theorem KS {l:List (Int × Int)} {i:Nat} {p:Int × Int} (h:l[i]?= some p):List.take 2 (List.drop (i*2) (List.map V.d (spD l)))=[vi p.1,vi p.2]:=by
 rw [<-List.map_drop,<-List.map_take,Yo h];rfl
theorem TC:∀ {l:List (Int × Int)} {i:Nat} (p:Int × Int),i<l.length->(spD l).take (i*2)++[di p.1,di p.2]++(spD l).drop (i*2+2)=spD (l.set i p)
 | [],i,p,h=>by simp at h
 | a::l,0,p,h=>rfl
 | a::l,i+1,p,h=>by
   have:=TC (l:=l) (i:=i) p (by simpa using h);rw [show (i+1)*2=i*2+1+1 by omega,Eo,List.take_succ_cons,List.take_succ_cons,List.set_cons_succ,Eo,<-this];simp [List.drop_succ_cons]
theorem I9 {l:List (Int × Int)} {i:Nat} (p:Int × Int) (h:i<l.length):AA (List.map V.d (spD l)) (i*2) [vi p.1,vi p.2]=List.map V.d (spD (l.set i p)):=by
 unfold AA;rw [<-TC p h,List.map_append,List.map_append,List.map_take,List.map_drop];rfl
theorem AYj (l:List (Int × Int)):(l.map fun s=>[di s.1,di s.2]).flatten=spD l:=rfl
theorem yE (l:List (Int × Int)) (hl:l.length<=1000000000) (h0:l≠[]):Ct prog 227 [.d (An l)] (.ls 0 0 l.length 2) [(0,BC l)]:=by
 refine CB func227 c227 fun E hE=>?_
 obtain ⟨a,r,rfl⟩:=List.exists_cons_of_ne_nil h0;have hmx:(r.length+1)*16<=140737488355328/\r.length+1<=9223372036854775807:=by simp at hl;omega
 have e:An (a::r)= .sl 2 ([di a.1,di a.2]::r.map fun s=>[di s.1,di s.2]):=rfl;have ef:(r.map fun s=>[di s.1,di s.2]).flatten=spD r:=rfl;simp [p227,e,ef,AM,hmx];refine AB.by (lk [(0,5242880)]) ?_;have ec:BC (a::r)=V.d (di a.1)::V.d (di a.2)::(spD r).map .d:=rfl;simp [results227,ec]
def HC (l:List (Int × Int)):Nat->List (Int × Int)
 | 0=>l
 | i+1=>((HC l i).set i (l.getD (l.length-1-i) (0,0))).set (l.length-1-i) (l.getD i (0,0))
theorem GB (l:List (Int × Int)):∀ i,(HC l i).length=l.length
 | 0=>rfl
 | i+1=>by simp [HC,GB l i]
theorem J3 (l:List (Int × Int)):∀ i,2*i<=l.length->∀ k,k<l.length->(HC l i)[k]?= if k<i\/l.length-i<=k then l[l.length-1-k]? else l[k]?
 | 0,_,k,hk=>by simp [HC];omega
 | i+1,h,k,hk=>by
   have ih:=J3 l i (by omega) k hk
   have g:∀ j,j<l.length->some (l.getD j (0,0))=l[j]?:= fun j hj=>by
     rw [List.getD_eq_getElem?_getD,List.getElem?_eq_getElem hj];rfl
   simp only [HC];by_cases h1:k=l.length-1-i
   . subst h1
     rw [List.getElem?_set_self (by simp [GB];omega),g i (by omega),if_pos (by omega)];congr 1;omega
   . rw [List.getElem?_set_ne (by omega)]
     by_cases h2:k=i
     . subst h2
       rw [List.getElem?_set_self (by simp [GB];omega),g _ (by omega),if_pos (by omega)]
     . rw [List.getElem?_set_ne (by omega),ih]
       by_cases h3:k<i\/l.length-i<=k
       . rw [if_pos h3,if_pos (by omega)]
       . rw [if_neg h3,if_neg (by omega)]
theorem ZW {l:List (Int × Int)} {i:Nat} (h:2*i<=l.length) (h2:l.length<=2*i+1):HC l i=l.reverse:=by
 apply List.ext_getElem?;intro k;by_cases hk:k<l.length
 . rw [J3 l i h k hk,List.getElem?_reverse hk]
   by_cases h3:k<i\/l.length-i<=k
   . rw [if_pos h3]
   . rw [if_neg h3];congr 1;omega
 . rw [List.getElem?_eq_none (by rw [GB];omega),List.getElem?_eq_none (by rw [List.length_reverse];omega)]
theorem Ab3 (l z:List (Int × Int)) (hl:l.length<=1000000000):Cm prog 234 [.ls 0 0 l.length 2] (lk [(0,BC (l++z))]) [0] (.ret (.tup [])) (lk [(0,BC (l.reverse++z))]):=by
 refine Cm.by gok eok mixed 1 func234 c234 rfl (by simp [ntmps234]) (by simp) (A7.at ?_) (by simp) ?_ fun E hE hs=>?_
 . simp
 . simp [LD]
 have w0:IntKind.wrap .i64 ((l.length:Int)-1)=(l.length:Int)-1:=AD (by omega) (by omega);simp [p234,w0];refine Al (α:=Nat) (fun i=>⟨AO [(0, .ls 0 0 l.length 2),(2,vi i),(3,vi ((l.length:Int)-1-i))],lk [(0,BC (HC l i++z))],1⟩) (fun i=>2*i<=l.length) (fun i=>l.length-i) 0 ?_ ?_ ?_
 . simp
 . refine AI.mkM hE (lk [(0,0)]) _ _ _ ?_ ?_ ?_ ?_ ?_ ?_<;>simp [HC]
 . intro i hi
   simp [sV];by_cases h:(i:Int)<(l.length:Int)-1-i
   . obtain ⟨j,hj⟩:∃ j,j=l.length-1-i:=⟨_,rfl⟩
     have hj':(l.length:Int)-1-i=(j:Int):=by omega
     obtain ⟨a,ha⟩:∃ a,l[i]?= some a:=⟨l[i],by simp [show i<l.length by omega]⟩
     obtain ⟨b,hb⟩:∃ b,l[j]?= some b:=⟨l[j],by simp [show j<l.length by omega]⟩
     have hlen:=GB l i;have ha':(HC l i++z)[i]?= some a:=by rw [List.getElem?_append_left (by omega),J3 l i hi i (by omega),if_neg (by omega),ha]
     have hb':(HC l i++z)[j]?= some b:=by rw [List.getElem?_append_left (by omega),J3 l i hi j (by omega),if_neg (by omega),hb]
     have hnx:((HC l i++z).set i b).set j a=HC l (i+1)++z:=by
       have e1:l.getD i (0,0)=a:=by rw [List.getD_eq_getElem?_getD,ha];rfl
       have e2:l.getD j (0,0)=b:=by rw [List.getD_eq_getElem?_getD,hb];rfl
       rw [HC,<-hj,e1,e2,List.set_append_left _ _ (by omega),List.set_append_left _ _ (by simp;omega)]
     generalize HC l i++z=L at ha' hb' hnx ⊢
     have hL1:=(List.getElem?_eq_some_iff.1 ha').1;have hL2:=(List.getElem?_eq_some_iff.1 hb').1;have ca:=KS ha';have cb:=KS hb';have s1:=I9 b hL1;have s2:=I9 (l:=L.set i b) a (i:=j) (by simpa using hL2);rw [hnx] at s2;have hdl:=Di L;have hdl2:=Di (L.set i b);have q1:i*2+2<=L.length*2:=by omega
     have q2:j*2+2<=L.length*2:=by omega
     have z1:=@wz i (by omega);have z2:IntKind.wrap .i64 ((j:Int)-1)=(j:Int)-1:=AD (by omega) (by omega);have i1:i<l.length:=by omega
     have j1:j<l.length:=by omega
     have hij:i<j:=by omega
     rw [hj'];simp [hij];refine AL [(13,0)] (by kernel_rfl) ?_;simp [inC,Nat.testBit,i1,j1,q1,q2,ca,cb,s1,s2,z1,z2];refine ⟨i+1,by omega,by omega,?_⟩;refine AI.mkM hE (lk [(0,0)]) _ _ _ ?_ ?_ ?_ ?_ ?_ ?_<;>simp
     omega
   . simp [h]
     have he:HC l i=l.reverse:=ZW hi (by omega);refine AB.by (lk [(0,0)]) ?_;simp [results234,he]
end Go.Proofs.Tryz
