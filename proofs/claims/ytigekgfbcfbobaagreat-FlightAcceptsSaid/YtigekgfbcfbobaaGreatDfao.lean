/- Own lemmas, used by the last text. Conditions: those that each theorem states. -/
import Derived.Shelf.SlSortCmp.NoneTotal
import Derived.Test.YtigekgfbcfbobaaGreatDfad
import Derived.Test.YtigekgfbcfbobaaGreatDfae
import Derived.Test.YtigekgfbcfbobaaGreatDfaf
import Derived.Test.YtigekgfbcfbobaaGreatDfag
import Derived.Test.YtigekgfbcfbobaaGreatDfah
import Derived.Test.YtigekgfbcfbobaaGreatDfaj
import Derived.Test.YtigekgfbcfbobaaGreatDfam
import Derived.Test.YtigekgfbcfbobaaGreatDfan
import Derived.Test.YtigekgfbcfbobaaGreatProg
set_option maxRecDepth 200000
set_option maxHeartbeats 8000000
namespace Go.Proofs.Tryz
open Go.Psl
open Go.Air
structure AccI (k:Sky) (r:Rig) (l:List Leg) (s:Shp) (cert:List Shp) (M:Nat) (A:Int):Prop where
 le:M<=(BN 0 l).length
 key:∀ (i m:Nat) (x:Leg),l[i]?= some x->m<x.m.toNat->Cw l i+m<=M->
   (Cw l i+m<M/\∃ n c,cert[Cw l i+m]?= some c/\FA k r x m (F7 s cert (Cw l i+m))= .ok n/\Xo c n=true)\/
   (∃ e,FA k r x m (F7 s cert (Cw l i+m))= .error e/\A=e.1)\/
   (∃ n c,cert[Cw l i+m]?= some c/\FA k r x m (F7 s cert (Cw l i+m))= .ok n/\Xo c n=false/\A=8)
 all':Cw l l.length<=M->A=0
theorem AEA {k:Sky} {r:Rig} {l:List Leg} {s:Shp} {cert:List Shp} (hcl:(BN 0 l).length=cert.length):∃ M,AccI k r l s cert M (ACa k r l (BN 0 l) s cert):=by
 have hmem:∀ p∈BN 0 l,∃ x,l[p.1]?= some x:=fun p hp=>by
   obtain ⟨x,_,h,_⟩:=ax hp;exact ⟨x,by simpa using h⟩
 obtain ⟨M,hM,hrd,hend⟩:=ACm (k:=k) (r:=r) (s:=s) hmem hcl;refine ⟨M,hM,fun i m x hx hm hj=>?_,fun h=>?_⟩
 . have hat:=iE hx hm
   by_cases h:Cw l i+m<M
   . obtain ⟨i',m',x',n,c,e1,e2,e3,e4,e5⟩:=hrd _ h
     rw [hat] at e1;cases e1;rw [hx] at e2;cases e2;exact .inl ⟨h,n,c,e3,e4,e5⟩
   . have e:Cw l i+m=M:=by omega
     rw [e] at hat ⊢;rcases hend with ⟨h1,_⟩ | ⟨i',m',x',er,e1,e2,e3,e4⟩ | ⟨i',m',x',n,c,e1,e2,e3,e4,e5,e6⟩
     . have:=(List.getElem?_eq_some_iff.1 hat).1;omega
     . rw [hat] at e1
       cases e1;rw [hx] at e2;cases e2;refine .inr (.inl ⟨er,e3,?_⟩);rw [<-ACd,e4];rfl
     . rw [hat] at e1
       cases e1;rw [hx] at e2;cases e2;refine .inr (.inr ⟨n,c,e3,e4,e5,?_⟩);rw [<-ACd,e6]
 . rw [ACY] at h
   rcases hend with ⟨h1,h2⟩ | ⟨i',m',x',er,e1,_⟩ | ⟨i',m',x',n,c,e1,_⟩
   . rw [<-ACd,h2]
   . have:=(List.getElem?_eq_some_iff.1 e1).1;omega
   . have:=(List.getElem?_eq_some_iff.1 e1).1;omega
theorem ADZ (k:Sky) (r:Rig) (s:Shp) (l:List Leg) (cert:List Shp) (h1:k.s.length<=1000000) (h2:k.w.length<=1000000) (h3:r.reg.length<=1000000) (hl:l.length<=100) (hok:∀ x∈l,BE x=true) (hk:BV k=true) (hR:CF r=true) (hg:Ey k r=true) (hs:A6 s=true) (hc:C0 l=0) (_:cert.length<=100000) (hcs:∀ c∈cert,c.gas.cs.length<=1000000):Ct prog 63 [Eu k,Fj r,Cl s (.d (AX s.gas.cs)), .d (Bs l), .d (cD cert)] (vi (if decide ((cert.length:Int)=Cv l)&&cert.all A6 then ACa k r l (BN 0 l) s cert else 8)) []:=by
 have hT:Va k r:=⟨hk,Hy hR,hg⟩
 have c1:=zN k r s h1 h2 h3 (by have:=CS (CR hs);omega);have c2:=ABR l (by omega) fun x hx=>by have:=(Kz (hok x hx)).1;omega
 have c3:=zO k r hk;rw [show sH k r s=0 by unfold sH;rw [hk,hR,hs];rfl] at c1;rw [hc] at c2;rw [hg] at c3;have hlen:=Kv (i:=0) hok;obtain ⟨_,_,hsum⟩:=Tv hc;obtain ⟨N,hN⟩:∃ N,(BN 0 l).length=N:=⟨_,rfl⟩
 have hNb:N<=600:=by omega
 obtain ⟨R,hR'⟩:∃ R,(if decide ((cert.length:Int)=Cv l)&&cert.all A6 then ACa k r l (BN 0 l) s cert else 8)=R:=⟨_,rfl⟩
 rw [hR'];rw [<-hlen,hN] at hR';by_cases hcN:(cert.length:Int)=N
 . refine CB func63 c63 fun E hE=>?_
   simp [p63];refine CLa c1 ?_;simp;refine CLa c2 ?_;simp;refine CLa c3 ?_;simp;refine Al (α:=Nat) (fun i=>⟨AO [(3, .d (Bs l)),(4, .d (cD cert)),(5, .lp 0 0),(6, .lp 1 0),(7, .lp 2 0),(13,vi (Cw l i:Nat)),(14,vi i)],lk [(0,skB k),(1,ABG r),(2,shB s)],3⟩) (fun i=>i<=l.length) (fun i=>l.length-i) 0 ?_ ?_ ?_
   . omega
   . rw [MW]
     exact WK hE (lk [(0,0),(1,1048576),(2,2097152)])
   . intro i hi
     by_cases h:i<l.length
     . obtain ⟨x,hx⟩:=gE h
       have hxm:=G5 (hok x (List.mem_of_getElem? hx));have hpn:=WO hx;have hpl:=iC (l:=l) (i:=i+1);have hI:(i:Int)<l.length:=by omega
       have hz:=@wz i (by omega);have hw:IntKind.wrap .i64 ((Cw l i:Int)+x.m)=(Cw l (i+1):Nat):=by rw [AD (by omega) (by omega)];omega
       simp [ADD,hI,hx,hz,hw];refine ⟨i+1,by omega,by omega,?_⟩;exact WK hE (lk [(0,0),(1,1),(2,2)])
     . have hI:¬ (i:Int)<l.length:=by omega
       have ei:i=l.length:=by omega
       have eN:(Cw l i:Nat)=N:=by rw [ei,ACY];exact hN
       rw [eN];simp [ADD,hI,hcN];refine Al (α:=Nat) (fun j=>⟨AO [(3, .d (Bs l)),(4, .d (cD cert)),(5, .lp 0 0),(6, .lp 1 0),(7, .lp 2 0),(13,vi N),(15,vi j)],lk [(0,skB k),(1,ABG r),(2,shB s)],3⟩) (fun j=>j<=N/\∀ q c,q<j->cert[q]?= some c->A6 c=true) (fun j=>N-j) 0 ?_ ?_ ?_
       . exact ⟨by omega,fun q c hq=>absurd hq (by omega)⟩
       . exact WK hE (lk [(0,0),(1,1),(2,2)])
       . rintro j ⟨hj,hall⟩
         by_cases hjN:j<N
         . obtain ⟨c,hcj⟩:∃ c,cert[j]?= some c:=⟨_,List.getElem?_eq_getElem (by omega)⟩
           have hjI:(j:Int)<N:=by omega
           have hjc:(j:Int)<cert.length:=by omega
           have hzj:=@wz j (by omega);have cS:=zG c (hcs c (List.mem_of_getElem? hcj));cases hco:A6 c with
           | false=>
             rw [hco] at cS
             have e:R=8:=by
               have:cert.all A6=false:=by rw [List.all_eq_false];exact ⟨c,List.mem_of_getElem? hcj,by simp [hco]⟩
               rw [<-hR',this,Bool.and_false,if_neg (by simp)]
             simp [ADV,hjI,hcj];refine CLa cS ?_;simp;apply RZ;simp [results63,e]
           | true=>
             rw [hco] at cS;simp [ADV,hjI,hcj];refine CLa cS ?_;simp [hzj];refine ⟨j+1,⟨by omega,fun q c' hq hc'=>?_⟩,by omega,?_⟩
             . by_cases e:q=j
               . subst e;rw [hcj] at hc';cases hc';exact hco
               . exact hall q c' (by omega) hc'
             . exact WK hE (lk [(0,0),(1,1),(2,2)])
         . have hjI:¬ (j:Int)<N:=by omega
           have hco:∀ c∈cert,A6 c=true:=fun c hc=>by
             obtain ⟨q,hq⟩:=List.getElem?_of_mem hc;have:=(List.getElem?_eq_some_iff.1 hq).1;exact hall q c (by omega) hq
           have e:ACa k r l (BN 0 l) s cert=R:=by rw [<-hR',List.all_eq_true.2 hco,decide_eq_true hcN];rfl
           obtain ⟨M,hI0⟩:=AEA (k:=k) (r:=r) (s:=s) (l:=l) (cert:=cert) (by omega);rw [e] at hI0
           have hsj:∀ {q:Nat},q<=cert.length->A6 (F7 s cert q)=true:=fun {q} hq=>by
             unfold F7;split
             . exact hs
             . obtain ⟨n,hnn⟩:∃ n,cert[q-1]?= some n:=⟨_,List.getElem?_eq_getElem (by omega)⟩
               rw [hnn];exact hco n (List.mem_of_getElem? hnn)
           have hMc:M<=cert.length:=by have:=hI0.le;omega
           clear h hI ei eN hi i;simp [ADV,hjI];refine Al (α:=Nat) (fun i=>⟨AO [(3, .d (Bs l)),(4, .d (cD cert)),(5, .lp 0 0),(6, .lp 1 0),(7, .lp 2 0),(16,vi (Cw l i:Nat)),(17,vi i)],lk [(0,skB k),(1,ABG r),(2,shB (F7 s cert (Cw l i)))],3⟩) (fun i=>i<=l.length/\Cw l i<=M) (fun i=>l.length-i) 0 ?_ ?_ ?_
           . exact ⟨by omega,by rw [MW];omega⟩
           . rw [MW,show F7 s cert 0=s from rfl]
             exact WK hE (lk [(0,0),(1,1),(2,2)])
           . rintro i ⟨hi,hp⟩
             by_cases h:i<l.length
             . obtain ⟨x,hx⟩:=gE h
               have hxo:=hok x (List.mem_of_getElem? hx);have hxm:=G5 hxo;have hpn:=WO hx;have hI:(i:Int)<l.length:=by omega
               have hz:=@wz i (by omega);have hso:=hsj (Nat.le_trans hp hMc);have cb:=fn97 (F7 s cert (Cw l i)) x hso hxo;cases hb:Ep (F7 s cert (Cw l i)) x with
               | error b=>
                 rw [hb] at cb;simp only [Oy] at cb;have hbe:=TP hb
                 have hE:R=b:=by
                   rcases hI0.key i 0 x hx (by omega) hp with ⟨_,n,c,_,h2,_⟩ | ⟨e,h1,h2⟩ | ⟨n,c,_,h2,_⟩
                   . rw [Nat.add_zero,AAT hb] at h2;cases h2
                   . rw [Nat.add_zero,AAT hb] at h1
                     cases h1;exact h2
                   . rw [Nat.add_zero,AAT hb] at h2;cases h2
                 simp [ADW,hI];refine AL [(10,13631491)] (by kernel_rfl) ?_;simp [inC,Nat.testBit,hx];refine CLa cb ?_;simp [AA,inC,Nat.testBit,hbe];apply RZ;simp [results63,hE]
               | ok t=>
                 rw [hb] at cb;simp only [Oy] at cb;have hto:=ZC hso hxo hb;simp [ADW,hI];refine AL [(10,13631491)] (by kernel_rfl) ?_;simp [inC,Nat.testBit,hx];refine CLa cb ?_;simp [AA,inC,Nat.testBit];refine Al (α:=Nat) (fun m=>⟨AO [(3, .d (Bs l)),(4, .d (cD cert)),(5, .lp 0 0),(6, .lp 1 0),(7, .lp 2 0),(16,vi (Cw l i+m:Nat)),(17,vi i),(20,vi m)],lk [(0,skB k),(1,ABG r),(2,shB (if m=0 then t else F7 s cert (Cw l i+m)))],3⟩) (fun m=>m<=x.m.toNat/\Cw l i+m<=M) (fun m=>x.m.toNat-m) 0 ?_ ?_ ?_
                 . exact ⟨by omega,by omega⟩
                 . rw [Nat.add_zero,if_pos rfl]
                   exact WK hE (lk [(0,0),(1,1),(2,2)])
                 . rintro m ⟨hm1,hm2⟩
                   by_cases hm:m<x.m.toNat
                   . have hmI:(m:Int)<x.m:=by omega
                     have hzm:=@wz m (by omega)
                     have hsm:A6 (if m=0 then t else F7 s cert (Cw l i+m))=true:=by
                       split
                       . exact hto
                       . exact hsj (by omega)
                     have cm:=zM k r (if m=0 then t else F7 s cert (Cw l i+m)) x i m h1 h2 h3 hk hR hg hsm hxo;have ho:=AAf (k:=k) (r:=r) (x:=x) (m:=m) (s:=F7 s cert (Cw l i+m)) (t:=t) (fun e=>by rw [e,Nat.add_zero];exact hb);rw [<-ho] at cm;have hno:∀ n,FA k r x m (F7 s cert (Cw l i+m))= .ok n->A6 n=true:=fun n hn=>Q7 hT (hsj (by omega)) hxo hn
                     generalize (if m=0 then t else F7 s cert (Cw l i+m))=sg at*
                     have hnx:∀ c,cert[Cw l i+m]?= some c->F7 s cert (Cw l i+(m+1))=c:=fun c hc=>by rw [<-Nat.add_assoc];exact ACh hc
                     have kk:=hI0.key i m x hx hm hm2;obtain ⟨J,hJ⟩:∃ J,Cw l i+m=J:=⟨_,rfl⟩
                     rw [hJ] at kk hno hnx hm2 cm ⊢;have hJc:(Cw l i:Int)+((m:Int)+1)=(J:Int)+1:=by omega
                     have hzJ:IntKind.wrap .i64 ((J:Int)+1)=(J:Int)+1:=AD (by omega) (by omega);rcases kk with ⟨hlt,n,c,hcc,h8,h9⟩ | ⟨e,h8,h9⟩ | ⟨n,c,hcc,h8,h9,hA⟩
                     . rw [h8] at cm
                       simp only [Ku] at cm;have hJl:=(List.getElem?_eq_some_iff.1 hcc).1;have hJI:(J:Int)<cert.length:=by omega
                       have ch:=AEE c n (hcs c (List.mem_of_getElem? hcc)) (by have:=CS (CR (hno n h8));omega);rw [h9] at ch;simp [ADE,hx,hmI];refine AL [(16,22020099),(17,23068675)] (by kernel_rfl) ?_;simp [inC,Nat.testBit,hx];refine CLa cm ?_;simp [AA,inC,Nat.testBit,hcc];refine CLa ch ?_;simp [AA,hcc,hzJ,hzm];refine ⟨m+1,⟨by omega,by omega⟩,by omega,?_⟩;rw [hnx c hcc,if_neg (by omega)];refine AI.mk hE (lk [(0,0),(1,1),(2,2)]) _ _ _ ?_ ?_ ?_ ?_ ?_<;>simp [hJc]
                     . rw [h8] at cm
                       simp only [Ku] at cm;have hee:=fU h8;simp [ADE,hx,hmI];refine AL [(16,22020099),(17,23068675)] (by kernel_rfl) ?_;simp [inC,Nat.testBit,hx];refine CLa cm ?_;simp [AA,inC,Nat.testBit,hee];apply RZ;simp [results63,h9]
                     . rw [h8] at cm
                       simp only [Ku] at cm;have hJl:=(List.getElem?_eq_some_iff.1 hcc).1;have hJI:(J:Int)<cert.length:=by omega
                       have ch:=AEE c n (hcs c (List.mem_of_getElem? hcc)) (by have:=CS (CR (hno n h8));omega);rw [h9] at ch;simp [ADE,hx,hmI];refine AL [(16,22020099),(17,23068675)] (by kernel_rfl) ?_;simp [inC,Nat.testBit,hx];refine CLa cm ?_;simp [AA,inC,Nat.testBit,hcc];refine CLa ch ?_;simp;apply RZ;simp [results63,hA]
                   . have em:m=x.m.toNat:=by omega
                     have hmI:¬ (m:Int)<x.m:=by omega
                     have e9:Cw l i+m=Cw l (i+1):=by omega
                     rw [if_neg (show ¬ m=0 by omega),e9];simp [ADE,hx,hmI,hz];refine ⟨i+1,⟨by omega,by omega⟩,by omega,?_⟩;exact WK hE (lk [(0,0),(1,1),(2,2)])
             . have ei:i=l.length:=by omega
               have hI:¬ (i:Int)<l.length:=by omega
               have e0:=hI0.all' (by rw [<-ei];exact hp);simp [ADW,hI];apply RZ;simp [results63,e0]
 . have e:R=8:=by rw [<-hR',decide_eq_false hcN,Bool.false_and,if_neg (by simp)]
   refine CB func63 c63 fun E hE=>?_
   simp [p63];refine CLa c1 ?_;simp;refine CLa c2 ?_;simp;refine CLa c3 ?_;simp;refine Al (α:=Nat) (fun i=>⟨AO [(3, .d (Bs l)),(4, .d (cD cert)),(5, .lp 0 0),(6, .lp 1 0),(7, .lp 2 0),(13,vi (Cw l i:Nat)),(14,vi i)],lk [(0,skB k),(1,ABG r),(2,shB s)],3⟩) (fun i=>i<=l.length) (fun i=>l.length-i) 0 ?_ ?_ ?_
   . omega
   . rw [MW]
     exact WK hE (lk [(0,0),(1,1048576),(2,2097152)])
   . intro i hi
     by_cases h:i<l.length
     . obtain ⟨x,hx⟩:=gE h
       have hxm:=G5 (hok x (List.mem_of_getElem? hx));have hpn:=WO hx;have hpl:=iC (l:=l) (i:=i+1);have hI:(i:Int)<l.length:=by omega
       have hz:=@wz i (by omega);have hw:IntKind.wrap .i64 ((Cw l i:Int)+x.m)=(Cw l (i+1):Nat):=by rw [AD (by omega) (by omega)];omega
       simp [ADD,hI,hx,hz,hw];refine ⟨i+1,by omega,by omega,?_⟩;exact WK hE (lk [(0,0),(1,1),(2,2)])
     . have hI:¬ (i:Int)<l.length:=by omega
       have ei:i=l.length:=by omega
       have eN:(Cw l i:Nat)=N:=by rw [ei,ACY];exact hN
       rw [eN];simp [ADD,hI,hcN];apply RZ;simp [results63,e]
theorem fn63 (k:Sky) (r:Rig) (s:Shp) (l:List Leg) (cert:List Shp) (h1:k.s.length<=1000000) (h2:k.w.length<=1000000) (h3:r.reg.length<=1000000) (h4:s.gas.cs.length<=1000000) (h5:l.length<=1000000) (h6:∀ x∈l,x.acts.length<=1000000) (hcn:cert.length<=100000) (hcs:∀ c∈cert,c.gas.cs.length<=1000000):Ct prog 63 [Eu k,Fj r,Cl s (.d (AX s.gas.cs)), .d (Bs l), .d (cD cert)] (vi (ADh k r s l cert)) []:=by
 unfold ADh;by_cases hz:JC k r s (C0 l)=0
 . rw [if_pos hz]
   obtain ⟨hk,hR,hs,hb0,hg⟩:=MD hz;obtain ⟨q1,q2,q3⟩:=Tv hb0;exact ADZ k r s l cert h1 h2 h3 (by omega) q2 hk hR hg hs hb0 hcn hcs
 . rw [if_neg hz]
   have c1:=zN k r s h1 h2 h3 h4;have c2:=ABR l h5 h6;rw [zP] at hz ⊢;by_cases ha:sH k r s=0
   . rw [if_pos ha] at hz ⊢
     rw [ha] at c1;obtain ⟨hk,hR,hs⟩:=xV ha;by_cases hb:C0 l=0
     . rw [if_pos hb] at hz ⊢
       rw [hb] at c2;have c3:=zO k r hk;cases hg:Ey k r
       . rw [hg] at c3
         refine CB func63 c63 fun E hE=>?_
         simp [p63];refine CLa c1 ?_;simp;refine CLa c2 ?_;simp;refine CLa c3 ?_;simp;apply RZ;simp [results63]
       . rw [hg] at hz;simp at hz
     . rw [if_neg hb] at hz ⊢
       generalize C0 l=b at*
       refine CB func63 c63 fun E hE=>?_
       simp [p63];refine CLa c1 ?_;simp;refine CLa c2 ?_;simp [hb];apply RZ;simp [results63]
   . rw [if_neg ha] at hz ⊢
     generalize sH k r s=b at*
     refine CB func63 c63 fun E hE=>?_
     simp [p63];refine CLa c1 ?_;simp [ha];apply RZ;simp [results63]
theorem AD2 (cert:List Shp) (n c:Shp) (j:Nat) (hc:cert[j]?= some c) (hl:cert.length<=100000) (h:Xo c n=true) (h1:A6 c=true) (h2:A6 n=true):Cm prog 132 [Cl n (.d (AX n.gas.cs)), .lp 0 0, .lp 1 0] (lk [(0,[vi ((j:Int)-1)]),(1,[.d (cD cert)])]) [0,1] (.ret (.tup [Cl c (.d (AX c.gas.cs)),vi 0])) (lk [(0,[vi j]),(1,[.d (cD cert)])]):=by
 have d1:=AD9 c n h1 h2;rw [h] at d1;have hj:=(List.getElem?_eq_some_iff.1 hc).1;have hjI:(j:Int)<cert.length:=by omega
 have w:IntKind.wrap .i64 (j:Int)=(j:Int):=AD (by omega) (by omega);refine CM 2 func132 AEI fun E hs hE=>?_
 simp [p132,AA,w,inC,Nat.testBit,hc];refine CLa d1 ?_;simp [AA,hc];refine AB.by (lk [(0,0),(1,1)]) ?_;simp [results132]
theorem AD3 (cert:List Shp) (n c:Shp) (j:Nat) (hc:cert[j]?= some c) (hl:cert.length<=100000) (h:Xo c n=false) (h1:A6 c=true) (h2:A6 n=true):Cm prog 132 [Cl n (.d (AX n.gas.cs)), .lp 0 0, .lp 1 0] (lk [(0,[vi ((j:Int)-1)]),(1,[.d (cD cert)])]) [0,1] (.ret (.tup [.agg shZ,vi 8])) (lk [(0,[vi j]),(1,[.d (cD cert)])]):=by
 have d1:=AD9 c n h1 h2;rw [h] at d1;have hj:=(List.getElem?_eq_some_iff.1 hc).1;have hjI:(j:Int)<cert.length:=by omega
 have w:IntKind.wrap .i64 (j:Int)=(j:Int):=AD (by omega) (by omega);refine CM 2 func132 AEI fun E hs hE=>?_
 simp [p132,AA,w,inC,Nat.testBit,hc];refine CLa d1 ?_;simp [AA];refine AB.by (lk [(0,0),(1,1)]) ?_;simp [results132]
def cKS:List Nat:=[8388610,7340034,2,1048578,2097154,3145730,4194306,5242882,0,1]
def cL (k:Sky) (r:Rig) (l:List Leg) (cert:List Shp) (f:Nat->V) (z:LSt) (at':Int) (sb:List V) (e:Evt) (er:Int):List (Nat × List V):=
 [(8388610,[.lr f 69 [19,20] Az A3 z]),(7340034,[.d (Bs l)]),(2,[D2 k r]),(1048578,sb),(2097154,[.d (Bs l)]),(3145730,[.cl 132 [.lp 0 0, .lp 1 0]]),(4194306,evL e),(5242882,[vi er]),(0,[vi at']),(1,[.d (cD cert)])]
def SbD (sb:List V):Prop:=¬ sb=[]/\∀ c∈sb,∃ d,c=V.d d
theorem ADq {sb:List V} (h:SbD sb):Bv sb:=Or.inl (List.all_eq_true.2 fun c hc=>by obtain ⟨d,rfl⟩:=h.2 c hc;rfl)
theorem Qk (s:Shp):SbD (shB s):=⟨by simp,fun c hc=>by
 simp only [shB,List.mem_cons,List.not_mem_nil,or_false] at hc;rcases hc with rfl | rfl | rfl | rfl | rfl | rfl | rfl | rfl | rfl | rfl | rfl | rfl | rfl | rfl | rfl | rfl | rfl | rfl | rfl | rfl | rfl | rfl | rfl | rfl | rfl<;>exact ⟨_,rfl⟩⟩
theorem ADr:SbD shZ:=⟨by simp,fun c hc=>by
 simp only [shZ,List.mem_cons,List.not_mem_nil,or_false] at hc;rcases hc with rfl | rfl | rfl | rfl | rfl | rfl | rfl | rfl | rfl | rfl | rfl | rfl | rfl | rfl | rfl | rfl | rfl | rfl | rfl | rfl | rfl | rfl | rfl | rfl | rfl<;>exact ⟨_,rfl⟩⟩
theorem ACf (k:Sky) (r:Rig) (l:List Leg) (cert:List Shp) (f:Nat->V) (z:LSt) (at':Int) (sb:List V) (e:Evt) (er:Int) (hf:∀ t,AV (·∈cKS) AR (f t)) (hb:SbD sb):BT cKS [] (cL k r l cert f z at' sb e er):=by
 refine ⟨rfl,by simp [cKS],?_⟩;intro q hq;simp only [cL,List.mem_cons,List.not_mem_nil,or_false] at hq;rcases hq with rfl | rfl | rfl | rfl | rfl | rfl | rfl | rfl | rfl | rfl
 . exact ⟨by simp,Or.inr ⟨_,_,_,_,_,_,rfl⟩,fun c hc=>by simp at hc;subst hc;exact hf⟩
 rotate_left 2
 . refine ⟨by simpa using hb.1,ADq hb,fun c hc=>?_⟩
   obtain ⟨d,rfl⟩:=hb.2 c hc;exact rfl
 all_goals refine ⟨by simp,Or.inl rfl,fun c hc=>?_⟩
 all_goals simp only [List.mem_cons,List.not_mem_nil,or_false] at hc
 all_goals first
   | (subst hc;exact rfl)
   | (subst hc;simp [CX,W1,W0,rid,cKS,AJ])
   | (rcases hc with rfl | rfl | rfl | rfl<;>exact rfl)
structure ADz (f:Nat->V):Prop where
 av:∀ t,AV (·∈cKS) AR (f t)
 f4:f 4= .lp 2 0
 f5:f 5= .lp 1048578 0
 f6:f 6= .lp 2097154 0
 f7:f 7= .lp 3145730 0
 f8:f 8= .lp 4194306 0
 f9:f 9= .lp 5242882 0
theorem ADc (hS:SortOk) (k:Sky) (r:Rig) (l:List Leg) (cert:List Shp) (f:Nat->V) (hF:ADz f) (j:Nat) (s n c:Shp) (i m:Nat) (x:Leg) (_:l.length<=1000000) (hc:cert.length<=100000) (h1:k.s.length<=1000000) (h2:k.w.length<=1000000) (h3:r.reg.length<=1000000) (hk:BV k=true) (hR:CF r=true) (hg:Ey k r=true) (hs:A6 s=true) (hlo:BE x=true) (hx:l[i]?= some x) (hcj:cert[j]?= some c) (hco:A6 c=true) (hh:Xo c n=true) (ho:FA k r x m s= .ok n):
   Ym prog 8388610 [vi i,vi m] (lk (cL k r l cert f .ready ((j:Int)-1) (shB s) ev0 0)) cKS (.ret (vb true)) (lk (cL k r l cert f .ready j (shB c) ev0 0)):=by
 obtain ⟨hf,f4,f5,f6,f7,f8,f9⟩:=hF;have hil:=(List.getElem?_eq_some_iff.1 hx).1;have hiI:(i:Int)<l.length:=by omega
 have hlt:∀ j∈cKS++[],j<10000000:=by
   intro j hj;simp only [cKS,List.mem_append,List.mem_cons,List.not_mem_nil,or_false] at hj;omega
 have hW:∀ z,WC (lk [(8388610,8388610),(7340034,7340034),(2,2),(1048578,1048578),(2097154,2097154),(3145730,3145730),(4194306,4194306),(5242882,5242882),(0,0),(1,1)]) (.lr f 69 [19,20] Az A3 z) (.lr f 69 [19,20] Az A3 z):=fun z=>⟨rfl,fun t=>AV.mono (fun j hj=>by simp [cKS] at hj;rcases hj with rfl | rfl | rfl | rfl | rfl | rfl | rfl | rfl | rfl | rfl<;>simp [lk]) (fun _ h=>h) (hf t)⟩
 have hC:∀ z,Bv [.lr f 69 [19,20] Az A3 z]:=fun z=>Or.inr ⟨_,_,_,_,_,_,rfl⟩
 have hT:Va k r:=⟨hk,Hy hR,hg⟩
 have hno:=Q7 hT hs hlo ho;have hK1:=ACf k r l cert f .ready ((j:Int)-1) (shB s) ev0 0 hf (Qk s);have hK2:=ACf k r l cert f .ready j (shB c) ev0 0 hf (Qk c);have ca:=AD2 cert n c j hcj hc hh hco hno;refine Ym.ofX (k:=8388610) (fr:=f) (nt:=69) (ps:=[19,20]) (pa:=Az) (pb:=A3) (args:=[vi i,vi m]) (s:= .ready) gok eok mixed 10000000 hK1 hK2 hlt (by simp [cKS]) (by simp [cL]) (by simp) (by simp) (by simp) ?_;obtain ⟨t,ht,hmo,hnx⟩:=Ib.1 ho;have hto:=Ow hs hlo ht;have cm:=ko hS k r t x h1 h2 h3 hk hR hg hto hlo;rw [H2.2 ⟨hmo,hnx⟩] at cm;simp only [RB] at cm;by_cases hm:m=0
 . rw [if_pos hm] at ht
   subst hm;have cb:=pP s x hs hlo;rw [ht] at cb;simp only [Oy] at cb;refine ⟨fun E hE hs=>?_⟩;unfold cL
   generalize V.lr f 69 [19,20] Az A3=rc at hW hC ⊢
   simp [Az,BD];simp [A3];refine AL [(10,23631488)] (by kernel_rfl) ?_;simp [inC,Nat.testBit,hx,f5,f6];refine CLa cb ?_;simp [AA,inC,Nat.testBit,f5];refine AL [(13,42505856),(14,43554432)] (by kernel_rfl) ?_;simp [inC,Nat.testBit,hx,f4,f5,f6];refine CLa cm ?_;simp [AA,inC,Nat.testBit,f7];refine CRs ca (by simp) ?_;simp [AA,f5];refine ⟨trivial,by simp,lk [(8388610,8388610),(7340034,7340034),(2,2),(1048578,1048578),(2097154,2097154),(3145730,3145730),(4194306,4194306),(5242882,5242882),(0,0),(1,1)],?_⟩;simp [hW,hC,cKS,ev0]
 . rw [if_neg hm] at ht
   subst ht;refine ⟨fun E hE hs=>?_⟩;unfold cL
   generalize V.lr f 69 [19,20] Az A3=rc at hW hC ⊢
   simp [Az,BD];simp [A3,hm];refine AL [(13,25728640),(14,26777216)] (by kernel_rfl) ?_;simp [inC,Nat.testBit,hx,f4,f5,f6];refine CLa cm ?_;simp [AA,inC,Nat.testBit,f7];refine CRs ca (by simp) ?_;simp [AA,f5];refine ⟨trivial,by simp,lk [(8388610,8388610),(7340034,7340034),(2,2),(1048578,1048578),(2097154,2097154),(3145730,3145730),(4194306,4194306),(5242882,5242882),(0,0),(1,1)],?_⟩;simp [hW,hC,cKS,ev0]
theorem ADi (hS:SortOk) (k:Sky) (r:Rig) (l:List Leg) (cert:List Shp) (f:Nat->V) (hF:ADz f) (at':Int) (s:Shp) (i m:Nat) (x:Leg) (e:Int × Int × Int) (_:l.length<=1000000) (_:cert.length<=100000) (h1:k.s.length<=1000000) (h2:k.w.length<=1000000) (h3:r.reg.length<=1000000) (hk:BV k=true) (hR:CF r=true) (hg:Ey k r=true) (hs:A6 s=true) (hlo:BE x=true) (hx:l[i]?= some x) (ho:FA k r x m s= .error e):
   Ym prog 8388610 [vi i,vi m] (lk (cL k r l cert f .ready at' (shB s) ev0 0)) cKS (.ret (vb false)) (lk (cL k r l cert f (.done .ret) at' (shB (Iw x m s)) (FC i m e).2 (FC i m e).1)):=by
 obtain ⟨hf,f4,f5,f6,f7,f8,f9⟩:=hF;have hil:=(List.getElem?_eq_some_iff.1 hx).1;have hiI:(i:Int)<l.length:=by omega
 have hlt:∀ j∈cKS++[],j<10000000:=by
   intro j hj;simp only [cKS,List.mem_append,List.mem_cons,List.not_mem_nil,or_false] at hj;omega
 have hW:∀ z,WC (lk [(8388610,8388610),(7340034,7340034),(2,2),(1048578,1048578),(2097154,2097154),(3145730,3145730),(4194306,4194306),(5242882,5242882),(0,0),(1,1)]) (.lr f 69 [19,20] Az A3 z) (.lr f 69 [19,20] Az A3 z):=fun z=>⟨rfl,fun t=>AV.mono (fun j hj=>by simp [cKS] at hj;rcases hj with rfl | rfl | rfl | rfl | rfl | rfl | rfl | rfl | rfl | rfl<;>simp [lk]) (fun _ h=>h) (hf t)⟩
 have hC:∀ z,Bv [.lr f 69 [19,20] Az A3 z]:=fun z=>Or.inr ⟨_,_,_,_,_,_,rfl⟩
 have hK1:=ACf k r l cert f .ready at' (shB s) ev0 0 hf (Qk s);have hK2:=ACf k r l cert f (.done .ret) at' (shB (Iw x m s)) (FC i m e).2 (FC i m e).1 hf (Qk _);refine Ym.ofX (k:=8388610) (fr:=f) (nt:=69) (ps:=[19,20]) (pa:=Az) (pb:=A3) (args:=[vi i,vi m]) (s:= .done .ret) gok eok mixed 10000000 hK1 hK2 hlt (by simp [cKS]) (by simp [cL]) (by simp) (by simp) (by simp) ?_;clear hK1 hK2;unfold FA at ho;by_cases hm:m=0
 . rw [if_pos hm] at ho
   subst hm;have cb:=pP s x hs hlo;cases hbs:Ep s x with
   | error b=>
     rw [hbs] at ho cb;simp only [Oy] at cb;have he:e=(b,0,0):=by cases ho;rfl
     subst he;have hbe:=TP hbs;have h54:=mR hbs;have e1:Iw x 0 s=s:=by unfold Iw;rw [if_pos rfl,hbs]
     have e2:FC i 0 (b,0,0)=(b,ev0):=by unfold FC;simp only;rw [if_neg h54]
     rw [e1,e2];simp only;refine ⟨fun E hE hs=>?_⟩;unfold cL
     generalize V.lr f 69 [19,20] Az A3=rc at hW hC ⊢
     simp [Az,BD];simp [A3];refine AL [(10,23631488)] (by kernel_rfl) ?_;simp [inC,Nat.testBit,hx,f5,f6];refine CLa cb ?_;simp [AA,inC,Nat.testBit,f8,f9,hbe];refine ⟨trivial,by simp,lk [(8388610,8388610),(7340034,7340034),(2,2),(1048578,1048578),(2097154,2097154),(3145730,3145730),(4194306,4194306),(5242882,5242882),(0,0),(1,1)],?_⟩;simp [hW,hC,cKS,ev0]
   | ok t=>
     rw [hbs] at ho cb;simp only [Oy] at cb;simp only at ho;have hto:=ZC hs hlo hbs;have cm:=ko hS k r t x h1 h2 h3 hk hR hg hto hlo;rw [ho] at cm;simp only [RB] at cm;have e1:Iw x 0 s=t:=by unfold Iw;rw [if_pos rfl,hbs]
     rw [e1];rcases ck ho with ⟨h54,_⟩ | ⟨h9,k1,k2⟩
     . have e2:FC i 0 e=((54:Int),e.2.1,(i:Int),(0:Int),e.2.2):=by unfold FC;rw [h54,if_pos rfl];rfl
       rw [e2];rw [h54] at cm;simp only;refine ⟨fun E hE hs=>?_⟩;unfold cL
       generalize V.lr f 69 [19,20] Az A3=rc at hW hC ⊢
       simp [Az,BD];simp [A3];refine AL [(10,23631488)] (by kernel_rfl) ?_;simp [inC,Nat.testBit,hx,f5,f6];refine CLa cb ?_;simp [AA,inC,Nat.testBit,f5];refine AL [(13,42505856),(14,43554432)] (by kernel_rfl) ?_;simp [inC,Nat.testBit,hx,f4,f5,f6];refine CLa cm ?_;simp [AA,inC,Nat.testBit,f8,f9];refine ⟨trivial,by simp,lk [(8388610,8388610),(7340034,7340034),(2,2),(1048578,1048578),(2097154,2097154),(3145730,3145730),(4194306,4194306),(5242882,5242882),(0,0),(1,1)],?_⟩;simp [hW,hC,cKS,ev0]
     . have e2:FC i 0 e=(9,ev0):=by unfold FC;rw [h9,if_neg (by decide)]
       rw [e2];rw [h9,k1,k2] at cm;simp only;refine ⟨fun E hE hs=>?_⟩;unfold cL
       generalize V.lr f 69 [19,20] Az A3=rc at hW hC ⊢
       simp [Az,BD];simp [A3];refine AL [(10,23631488)] (by kernel_rfl) ?_;simp [inC,Nat.testBit,hx,f5,f6];refine CLa cb ?_;simp [AA,inC,Nat.testBit,f5];refine AL [(13,42505856),(14,43554432)] (by kernel_rfl) ?_;simp [inC,Nat.testBit,hx,f4,f5,f6];refine CLa cm ?_;simp [AA,inC,Nat.testBit,f8,f9];refine ⟨trivial,by simp,lk [(8388610,8388610),(7340034,7340034),(2,2),(1048578,1048578),(2097154,2097154),(3145730,3145730),(4194306,4194306),(5242882,5242882),(0,0),(1,1)],?_⟩;simp [hW,hC,cKS,ev0]
 . rw [if_neg hm] at ho
   have cm:=ko hS k r s x h1 h2 h3 hk hR hg hs hlo;rw [ho] at cm;simp only [RB] at cm;have e1:Iw x m s=s:=by unfold Iw;rw [if_neg hm]
   rw [e1];rcases ck ho with ⟨h54,_⟩ | ⟨h9,k1,k2⟩
   . have e2:FC i m e=((54:Int),e.2.1,(i:Int),(m:Int),e.2.2):=by unfold FC;rw [h54,if_pos rfl]
     rw [e2];rw [h54] at cm;simp only;refine ⟨fun E hE hs=>?_⟩;unfold cL
     generalize V.lr f 69 [19,20] Az A3=rc at hW hC ⊢
     simp [Az,BD];simp [A3,hm];refine AL [(13,25728640),(14,26777216)] (by kernel_rfl) ?_;simp [inC,Nat.testBit,hx,f4,f5,f6];refine CLa cm ?_;simp [AA,inC,Nat.testBit,f8,f9];refine ⟨trivial,by simp,lk [(8388610,8388610),(7340034,7340034),(2,2),(1048578,1048578),(2097154,2097154),(3145730,3145730),(4194306,4194306),(5242882,5242882),(0,0),(1,1)],?_⟩;simp [hW,hC,cKS,ev0]
   . have e2:FC i m e=(9,ev0):=by unfold FC;rw [h9,if_neg (by decide)]
     rw [e2];rw [h9,k1,k2] at cm;simp only;refine ⟨fun E hE hs=>?_⟩;unfold cL
     generalize V.lr f 69 [19,20] Az A3=rc at hW hC ⊢
     simp [Az,BD];simp [A3,hm];refine AL [(13,25728640),(14,26777216)] (by kernel_rfl) ?_;simp [inC,Nat.testBit,hx,f4,f5,f6];refine CLa cm ?_;simp [AA,inC,Nat.testBit,f8,f9];refine ⟨trivial,by simp,lk [(8388610,8388610),(7340034,7340034),(2,2),(1048578,1048578),(2097154,2097154),(3145730,3145730),(4194306,4194306),(5242882,5242882),(0,0),(1,1)],?_⟩;simp [hW,hC,cKS,ev0]
theorem ADv (hS:SortOk) (k:Sky) (r:Rig) (l:List Leg) (cert:List Shp) (f:Nat->V) (hF:ADz f) (j:Nat) (s n c:Shp) (i m:Nat) (x:Leg) (_:l.length<=1000000) (hc:cert.length<=100000) (h1:k.s.length<=1000000) (h2:k.w.length<=1000000) (h3:r.reg.length<=1000000) (hk:BV k=true) (hR:CF r=true) (hg:Ey k r=true) (hs:A6 s=true) (hlo:BE x=true) (hx:l[i]?= some x) (hcj:cert[j]?= some c) (hco:A6 c=true) (hh:Xo c n=false) (ho:FA k r x m s= .ok n):
   Ym prog 8388610 [vi i,vi m] (lk (cL k r l cert f .ready ((j:Int)-1) (shB s) ev0 0)) cKS (.ret (vb false)) (lk (cL k r l cert f (.done .ret) j shZ ev0 8)):=by
 obtain ⟨hf,f4,f5,f6,f7,f8,f9⟩:=hF;have hil:=(List.getElem?_eq_some_iff.1 hx).1;have hiI:(i:Int)<l.length:=by omega
 have hlt:∀ j∈cKS++[],j<10000000:=by
   intro j hj;simp only [cKS,List.mem_append,List.mem_cons,List.not_mem_nil,or_false] at hj;omega
 have hW:∀ z,WC (lk [(8388610,8388610),(7340034,7340034),(2,2),(1048578,1048578),(2097154,2097154),(3145730,3145730),(4194306,4194306),(5242882,5242882),(0,0),(1,1)]) (.lr f 69 [19,20] Az A3 z) (.lr f 69 [19,20] Az A3 z):=fun z=>⟨rfl,fun t=>AV.mono (fun j hj=>by simp [cKS] at hj;rcases hj with rfl | rfl | rfl | rfl | rfl | rfl | rfl | rfl | rfl | rfl<;>simp [lk]) (fun _ h=>h) (hf t)⟩
 have hC:∀ z,Bv [.lr f 69 [19,20] Az A3 z]:=fun z=>Or.inr ⟨_,_,_,_,_,_,rfl⟩
 have hT:Va k r:=⟨hk,Hy hR,hg⟩
 have hno:=Q7 hT hs hlo ho;have hK1:=ACf k r l cert f .ready ((j:Int)-1) (shB s) ev0 0 hf (Qk s);have hK2:=ACf k r l cert f (.done .ret) j shZ ev0 8 hf ADr;have ca:=AD3 cert n c j hcj hc hh hco hno;refine Ym.ofX (k:=8388610) (fr:=f) (nt:=69) (ps:=[19,20]) (pa:=Az) (pb:=A3) (args:=[vi i,vi m]) (s:= .done .ret) gok eok mixed 10000000 hK1 hK2 hlt (by simp [cKS]) (by simp [cL]) (by simp) (by simp) (by simp) ?_;obtain ⟨t,ht,hmo,hnx⟩:=Ib.1 ho;have hto:=Ow hs hlo ht;have cm:=ko hS k r t x h1 h2 h3 hk hR hg hto hlo;rw [H2.2 ⟨hmo,hnx⟩] at cm;simp only [RB] at cm;by_cases hm:m=0
 . rw [if_pos hm] at ht
   subst hm;have cb:=pP s x hs hlo;rw [ht] at cb;simp only [Oy] at cb;refine ⟨fun E hE hs=>?_⟩;unfold cL
   generalize V.lr f 69 [19,20] Az A3=rc at hW hC ⊢
   simp [Az,BD];simp [A3];refine AL [(10,23631488)] (by kernel_rfl) ?_;simp [inC,Nat.testBit,hx,f5,f6];refine CLa cb ?_;simp [AA,inC,Nat.testBit,f5];refine AL [(13,42505856),(14,43554432)] (by kernel_rfl) ?_;simp [inC,Nat.testBit,hx,f4,f5,f6];refine CLa cm ?_;simp [AA,inC,Nat.testBit,f7];refine CRs ca (by simp) ?_;simp [AA,f5,f8,f9];refine ⟨trivial,by simp,lk [(8388610,8388610),(7340034,7340034),(2,2),(1048578,1048578),(2097154,2097154),(3145730,3145730),(4194306,4194306),(5242882,5242882),(0,0),(1,1)],?_⟩;simp [hW,hC,cKS,ev0]
 . rw [if_neg hm] at ht
   subst ht;refine ⟨fun E hE hs=>?_⟩;unfold cL
   generalize V.lr f 69 [19,20] Az A3=rc at hW hC ⊢
   simp [Az,BD];simp [A3,hm];refine AL [(13,25728640),(14,26777216)] (by kernel_rfl) ?_;simp [inC,Nat.testBit,hx,f4,f5,f6];refine CLa cm ?_;simp [AA,inC,Nat.testBit,f7];refine CRs ca (by simp) ?_;simp [AA,f5,f8,f9];refine ⟨trivial,by simp,lk [(8388610,8388610),(7340034,7340034),(2,2),(1048578,1048578),(2097154,2097154),(3145730,3145730),(4194306,4194306),(5242882,5242882),(0,0),(1,1)],?_⟩;simp [hW,hC,cKS,ev0]
def cT (k:Sky) (r:Rig) (l:List Leg) (cert:List Shp) (at':Int) (sb:List V) (e:Evt) (er:Int):List (Nat × List V):=
 [(7340034,[.d (Bs l)]),(2,[D2 k r]),(1048578,sb),(2097154,[.d (Bs l)]),(3145730,[.cl 132 [.lp 0 0, .lp 1 0]]),(4194306,evL e),(5242882,[vi er]),(0,[vi at']),(1,[.d (cD cert)])]
theorem ACg (k:Sky) (r:Rig) (l:List Leg) (cert:List Shp) (f:Nat->V) (z:LSt) (at':Int) (sb:List V) (e:Evt) (er:Int):cL k r l cert f z at' sb e er=(8388610,[.lr f 69 [19,20] Az A3 z])::cT k r l cert at' sb e er:=rfl
theorem ACV:cKS=8388610::[7340034,2,1048578,2097154,3145730,4194306,5242882,0,1]:=rfl
theorem AD0 {s:Shp} {cs:List Shp} (hs:A6 s=true) (hn:∀ n∈cs,A6 n=true) {j:Nat} (hj:j<=cs.length):A6 (F7 s cs j)=true:=by
 unfold F7;split
 . exact hs
 . obtain ⟨n,hnn⟩:∃ n,cs[j-1]?= some n:=⟨_,List.getElem?_eq_getElem (by omega)⟩
   rw [hnn];exact hn n (List.mem_of_getElem? hnn)
theorem AEO (hS:SortOk) (k:Sky) (r:Rig) (l:List Leg) (s:Shp) (cert:List Shp) (hl:l.length<=100) (hok:∀ x∈l,BE x=true) (h1:k.s.length<=1000000) (h2:k.w.length<=1000000) (h3:r.reg.length<=1000000) (hk:BV k=true) (hR:CF r=true) (hg:Ey k r=true) (hs:A6 s=true) (hcl:(BN 0 l).length=cert.length) (hco:∀ c∈cert,A6 c=true):
   ∃ q:Int,Cm prog 103 [D2 k r,Cl s (.d (AX s.gas.cs)), .d (Bs l), .cl 132 [.lp 0 0, .lp 1 0]] (lk [(0,[vi (-1)]),(1,[.d (cD cert)])]) [0,1] (.ret (.tup [Ys (xb k r l (BN 0 l) s cert).2,vi (xb k r l (BN 0 l) s cert).1])) (lk [(0,[vi q]),(1,[.d (cD cert)])]):=by
 have hlen:=Kv (i:=0) hok
 have hmem:∀ p∈BN 0 l,∃ x,l[p.1]?= some x:=fun p hp=>by
   obtain ⟨x,_,h,_⟩:=ax hp;exact ⟨x,by simpa using h⟩
 have hlb:(BN 0 l).length<=60000:=by
   have:=KA hok;omega
 obtain ⟨M,hM,hrd,hend⟩:=ACm (k:=k) (r:=r) (s:=s) hmem hcl;obtain ⟨AE,hAE⟩:∃ AE,xb k r l (BN 0 l) s cert=AE:=⟨_,rfl⟩
 rw [hAE] at hend ⊢;have hsj:∀ {j:Nat},j<=cert.length->A6 (F7 s cert j)=true:=fun hj=>AD0 hs hco hj
 obtain ⟨q,hend⟩:∃ q:Int,((M=(BN 0 l).length/\AE=(0,ev0))/\q=(M:Int)-1)\/
      ((∃ i m x e,(BN 0 l)[M]?= some (i,m)/\l[i]?= some x/\FA k r x m (F7 s cert M)= .error e/\AE=FC i m e)/\q=(M:Int)-1)\/
      ((∃ i m x n c,(BN 0 l)[M]?= some (i,m)/\l[i]?= some x/\cert[M]?= some c/\FA k r x m (F7 s cert M)= .ok n/\Xo c n=false/\AE=(8,ev0))/\q=(M:Int)):=by
   rcases hend with h | h | h
   . exact ⟨_, .inl ⟨h,rfl⟩⟩
   . exact ⟨_, .inr (.inl ⟨h,rfl⟩)⟩
   . exact ⟨_, .inr (.inr ⟨h,rfl⟩)⟩
 refine ⟨q,?_⟩;refine CM 2 func103 c103 fun E hs' hE=>?_
 simp [p103];refine CLa (qu l) ?_;simp;have hnt:E.nt=69:=by rw [hE.1];exact ntmps103
 rw [<-JI (Γ:=tys) (eqs:=eqs)];obtain ⟨f,hf⟩:∃ f,f=upd (upd (upd (upd (upd (upd (upd (upd (Dn 0 [D2 k r,Cl s (.d (AX s.gas.cs)), .d (Bs l), .cl 132 [.lp 0 0, .lp 1 0]]) 4 (.lp 2 0)) 5 (.lp 1048578 0)) 6 (.lp 2097154 0)) 7 (.lp 3145730 0)) 8 (.lp 4194306 0)) 9 (.lp 5242882 0)) 17 (.d (Bs l))) 18 (.cl 205 [.lp 7340034 0]):=⟨_,rfl⟩
 have hfA:∀ t,AV (·∈cKS) AR (f t):=fun t=>by
   rw [hf];simp only [AY];split
   . intro c hc;simp at hc;subst hc;exact (by simp [cKS]:(7340034:Nat)∈cKS)
   split
   . exact trivial
   split
   . exact (by simp [cKS]:(5242882:Nat)∈cKS)
   split
   . exact (by simp [cKS]:(4194306:Nat)∈cKS)
   split
   . exact (by simp [cKS]:(3145730:Nat)∈cKS)
   split
   . exact (by simp [cKS]:(2097154:Nat)∈cKS)
   split
   . exact (by simp [cKS]:(1048578:Nat)∈cKS)
   split
   . exact (by simp [cKS]:(2:Nat)∈cKS)
   simp only [Dn];split
   . exact trivial
   split
   . intro c hc;simp at hc;rcases hc with rfl | rfl | rfl | rfl | rfl | rfl | rfl | rfl | rfl | rfl | rfl | rfl | rfl | rfl | rfl | rfl | rfl | rfl | rfl | rfl | rfl | rfl | rfl | rfl | rfl<;>exact trivial
   split
   . exact trivial
   split
   . intro c hc;simp at hc;rcases hc with rfl | rfl
     . exact (by simp [cKS]:(0:Nat)∈cKS)
     . exact (by simp [cKS]:(1:Nat)∈cKS)
   . exact fun c hc=>by simp at hc
 have hFF:ADz f:=⟨hfA,by rw [hf];simp,by rw [hf];simp,by rw [hf];simp,by rw [hf];simp,by rw [hf];simp,by rw [hf];simp⟩
 have f18:f 18= .cl 205 [.lp 7340034 0]:=by rw [hf];simp
 obtain ⟨_,f4,f5,f6,f7,f8,f9⟩:=id hFF;rw [<-hf];have hK:=fun z at' sb e er (h:SbD sb)=>ACf k r l cert f z at' sb e er hfA h
 have hN:∀ i∈cKS,i<1000000000:=by simp [cKS]
 have hX:∀ i:Nat,∀ x∈(fun _:Nat=>([]:List Nat)) i,x<1048576:=fun i x hx=>by simp at hx
 have hrec:∀ z at' sb e er,∃ fr nt ps pa pb jmp,lk (cL k r l cert f z at' sb e er) 8388610=some [.lr fr nt ps pa pb jmp]/\ps.length=2:=fun z at' sb e er=>⟨f,69,[19,20],Az,A3,z,by simp [cL],rfl⟩
 have hbox:∀ z at' sb e er,lk (cL k r l cert f z at' sb e er) 7340034=some [.d (Bs l)]:=fun z at' sb e er=>by simp [cL]
 have hround:∀ j i m,j<M->(BN 0 l)[j]?= some (i,m)->Ym prog 8388610 [vi i,vi m] (lk (cL k r l cert f .ready ((j:Int)-1) (shB (F7 s cert j)) ev0 0)) cKS (.ret (vb true)) (lk (cL k r l cert f .ready (((j+1:Nat):Int)-1) (shB (F7 s cert (j+1))) ev0 0)):=fun j i m hj him=>by
   obtain ⟨i',m',x,n,c,e1,e2,e3,e4,e5⟩:=hrd j hj;rw [him] at e1;cases e1;have:=ADc hS k r l cert f hFF j (F7 s cert j) n c i m x (by omega) (by omega) h1 h2 h3 hk hR hg (hsj (by omega)) (hok x (List.mem_of_getElem? e2)) e2 e3 (hco c (List.mem_of_getElem? e3)) e5 e4;rw [ACh e3,show ((j+1:Nat):Int)-1=j by omega];exact this
 have hK0:=hK .ready (-1) (shB s) ev0 0 (Qk s);rw [ACg,ACV] at hK0;by_cases hMl:M=(BN 0 l).length
 . rcases hend with ⟨⟨_,hA⟩,rfl⟩ | ⟨⟨i,m,x,e,hm1,_⟩,_⟩ | ⟨⟨i,m,x,n,c,hm1,_⟩,_⟩
   rotate_left
   . have:=(List.getElem?_eq_some_iff.1 hm1).1;omega
   . have:=(List.getElem?_eq_some_iff.1 hm1).1;omega
   have c:=Jl l (by omega) hok cKS (fun _=>[]) 8388610 7340034 M (fun _=>true) (fun j=>cL k r l cert f .ready ((j:Int)-1) (shB (F7 s cert j)) ev0 0) (by simp [cKS]) (by simp [cKS]) hN hX (by omega) (fun j _=>hK _ _ _ _ _ (Qk _)) (fun j _=>hrec _ _ _ _ _) (fun j _=>hbox _ _ _ _ _) (fun _ _=>rfl) (Or.inl hMl) (fun j i m hj him=>hround j i m hj him);have hKn:=hK .ready ((M:Int)-1) (shB (F7 s cert M)) ev0 0 (Qk _);have c0:cL k r l cert f .ready (((0:Nat):Int)-1) (shB (F7 s cert 0)) ev0 0=cL k r l cert f .ready (-1) (shB s) ev0 0:=rfl;rw [c0,ACg,ACg,ACV] at c;rw [ACg,ACV] at hKn;rw [hA];refine E3.keepX (cT k r l cert (-1) (shB s) ev0 0) (cT k r l cert ((M:Int)-1) (shB (F7 s cert M)) ev0 0) [7340034,2,1048578,2097154,3145730,4194306,5242882,0,1] [] [] (.tup []) .ready hE.2 (g:=205) (caps:=[.lp 7340034 0]) (by simp [f18]) (by rw [hnt];exact c) (by rw [hnt];exact hK0) (by rw [hnt];exact hKn) (fun x hx=>by simp at hx) (by simp) (by simp [cT,ev0]) (by simp) fun F h1 h2=>?_
   have F0:=h1 (0,_) (by simp [cT];rfl);have F1:=h1 (1,_) (by simp [cT];rfl);have F8:=h1 (4194306,_) (by simp [cT];rfl);have F9:=h1 (5242882,_) (by simp [cT];rfl);simp [sg,BJ,DS,DR] at F0 F1 F8 F9
   show Ft 0 _ .normal _
   simp [f8,f9,F8,F9,AA];refine AB.by (lk [(0,0),(1,1)]) ?_;simp [results103,F0,F1,ev0,f8,f9]
 . have hMlt:M<(BN 0 l).length:=by omega
   have key:∀ (q:Int) (SF:List V) (hSF:SbD SF) (hfail:∀ i m,(BN 0 l)[M]?= some (i,m)->Ym prog 8388610 [vi i,vi m] (lk (cL k r l cert f .ready ((M:Int)-1) (shB (F7 s cert M)) ev0 0)) cKS (.ret (vb false)) (lk (cL k r l cert f (.done .ret) q SF AE.2 AE.1))),
       Cm prog 205 [.yl 8388610, .lp 7340034 0] (lk (cL k r l cert f .ready (-1) (shB s) ev0 0)) cKS (.ret (.tup [])) (lk (cL k r l cert f (.done .ret) q SF AE.2 AE.1)):=fun q SF hSF hfail=>by
     obtain ⟨LL,hLL⟩:∃ LL:Nat->List (Nat × List V),LL=fun j=>if j<=M then cL k r l cert f .ready ((j:Int)-1) (shB (F7 s cert j)) ev0 0 else cL k r l cert f (.done .ret) q SF AE.2 AE.1:=⟨_,rfl⟩
     have LLa:∀ j,j<=M->LL j=cL k r l cert f .ready ((j:Int)-1) (shB (F7 s cert j)) ev0 0:=fun j hj=>by rw [hLL];simp only;rw [if_pos hj]
     have LLb:LL (M+1)=cL k r l cert f (.done .ret) q SF AE.2 AE.1:=by rw [hLL];simp only;rw [if_neg (by omega)]
     have c:=Jl l (by omega) hok cKS (fun _=>[]) 8388610 7340034 (M+1) (fun j=>decide (j<M)) LL (by simp [cKS]) (by simp [cKS]) hN hX (by omega) (fun j hj=>by
         by_cases h:j<=M
         . rw [LLa j h];exact hK _ _ _ _ _ (Qk _)
         . rw [show j=M+1 by omega,LLb];exact hK _ _ _ _ _ hSF) (fun j hj=>by
         rw [LLa j (by omega)];exact hrec _ _ _ _ _) (fun j hj=>by
         by_cases h:j<=M
         . rw [LLa j h];exact hbox _ _ _ _ _
         . rw [show j=M+1 by omega,LLb];exact hbox _ _ _ _ _) (fun j hj=>decide_eq_true (by omega)) (Or.inr ⟨by omega,decide_eq_false (by omega)⟩) (fun j i' m' hj him=>by
         by_cases h:j<M
         . rw [LLa j (by omega),LLa (j+1) (by omega),decide_eq_true h];exact hround j i' m' h him
         . have e1:j=M:=by omega
           subst e1;rw [LLa j (Nat.le_refl _),LLb,decide_eq_false h];exact hfail i' m' him)
     have c0:LL 0=cL k r l cert f .ready (-1) (shB s) ev0 0:=by rw [LLa 0 (by omega)];rfl
     rw [c0,LLb] at c;exact c
   rcases hend with ⟨⟨hM2,_⟩,_⟩ | ⟨⟨i,m,x,e,hm1,hm2,hm3,hA⟩,rfl⟩ | ⟨⟨i,m,x,n,c,hm1,hm2,hm4,hm3,hm5,hA⟩,rfl⟩
   . exact absurd hM2 hMl
   . obtain ⟨SF,hSF⟩:∃ SF,Iw x m (F7 s cert M)=SF:=⟨_,rfl⟩
     have c:=key ((M:Int)-1) (shB SF) (Qk _) fun i' m' him=>by
       rw [hm1] at him;cases him;have:=ADi hS k r l cert f hFF ((M:Int)-1) (F7 s cert M) i m x e (by omega) (by omega) h1 h2 h3 hk hR hg (hsj (by omega)) (hok x (List.mem_of_getElem? hm2)) hm2 hm3;rw [hSF,<-hA] at this;exact this
     have hKn:=hK (.done .ret) ((M:Int)-1) (shB SF) AE.2 AE.1 (Qk _);rw [ACg,ACg,ACV] at c;rw [ACg,ACV] at hKn;refine E3.keepX (cT k r l cert (-1) (shB s) ev0 0) (cT k r l cert ((M:Int)-1) (shB SF) AE.2 AE.1) [7340034,2,1048578,2097154,3145730,4194306,5242882,0,1] [] [] (.tup []) (.done .ret) hE.2 (g:=205) (caps:=[.lp 7340034 0]) (by simp [f18]) (by rw [hnt];exact c) (by rw [hnt];exact hK0) (by rw [hnt];exact hKn) (fun x hx=>by simp at hx) (by simp) (by simp [cT,ev0]) (by simp) fun F h1 h2=>?_
     have F0:=h1 (0,_) (by simp [cT];rfl);have F1:=h1 (1,_) (by simp [cT];rfl);have F8:=h1 (4194306,_) (by simp [cT];rfl);have F9:=h1 (5242882,_) (by simp [cT];rfl);simp [sg,BJ,DS,DR] at F0 F1 F8 F9
     show Ft 0 _ .ret _
     simp;refine AB.by (lk [(0,0),(1,1)]) ?_;simp [results103,F0,F1,F8,F9,f8,f9]
   . have c:=key M shZ ADr fun i' m' him=>by
       rw [hm1] at him;cases him;have:=ADv hS k r l cert f hFF M (F7 s cert M) n c i m x (by omega) (by omega) h1 h2 h3 hk hR hg (hsj (by omega)) (hok x (List.mem_of_getElem? hm2)) hm2 hm4 (hco c (List.mem_of_getElem? hm4)) hm5 hm3;rw [hA];exact this
     have hKn:=hK (.done .ret) M shZ AE.2 AE.1 ADr;rw [ACg,ACg,ACV] at c;rw [ACg,ACV] at hKn;refine E3.keepX (cT k r l cert (-1) (shB s) ev0 0) (cT k r l cert (M:Int) shZ AE.2 AE.1) [7340034,2,1048578,2097154,3145730,4194306,5242882,0,1] [] [] (.tup []) (.done .ret) hE.2 (g:=205) (caps:=[.lp 7340034 0]) (by simp [f18]) (by rw [hnt];exact c) (by rw [hnt];exact hK0) (by rw [hnt];exact hKn) (fun x hx=>by simp at hx) (by simp) (by simp [cT,ev0]) (by simp) fun F h1 h2=>?_
     have F0:=h1 (0,_) (by simp [cT];rfl);have F1:=h1 (1,_) (by simp [cT];rfl);have F8:=h1 (4194306,_) (by simp [cT];rfl);have F9:=h1 (5242882,_) (by simp [cT];rfl);simp [sg,BJ,DS,DR] at F0 F1 F8 F9
     show Ft 0 _ .ret _
     simp;refine AB.by (lk [(0,0),(1,1)]) ?_;simp [results103,F0,F1,F8,F9,f8,f9]
end Go.Proofs.Tryz
namespace Go.Psl
variable {P:Program} {Γ:Tys} {eqs:Eqs} {E:Ent}
def PWk (P:Program) (Γ:Tys) (eqs:Eqs) (E:Ent):Nat->PC->(Av->St->Prop)->St->Prop
 | 0,p,Q,st=>∃ st',AI P E st st'/\PW P Γ eqs E p Q st'
 | n+1, .seq a b,Q,st=>PW P Γ eqs E a (DP (fun st=>PWk P Γ eqs E n b Q st) Q) st
 | _+1,_,_,_=>False
theorem ADm {p:PC} {Q:Av->St->Prop} {st:St}:PWk P Γ eqs E 0 p Q st=∃ st',AI P E st st'/\PW P Γ eqs E p Q st':=AF rfl
theorem ADn {n:Nat} {a b:PC} {Q:Av->St->Prop} {st:St}:PWk P Γ eqs E (n+1) (.seq a b) Q st=PW P Γ eqs E a (DP (fun st=>PWk P Γ eqs E n b Q st) Q) st:=AF rfl
theorem PWk.sound (hΓ:GOk P Γ) (hE:EB P eqs) (hm:P.follows .mixedOrders=true):∀ (n:Nat) (c:Code) (p:PC),AK E.nt c=some p->∀ (Q:Av->St->Prop) (st:St),PWk P Γ eqs E n p Q st->AW P E c Q st
 | 0,c,p,hc,Q,st,⟨st',hw,h⟩=>AW.weak hw (PW.sound hΓ hE hm c p hc Q st' h)
 | n+1,c,p,hc,Q,st,h=>by
   cases c with
   | seq a b=>
     simp only [AK,Option.bind_eq_some_iff,Option.map_eq_some_iff] at hc;obtain ⟨x,hx,y,hy,rfl⟩:=hc;refine AW.seq (AW.mono (PW.sound hΓ hE hm a x hx _ _ h) fun e st hq=>?_);cases e with
     | normal=>exact PWk.sound hΓ hE hm n b y hy Q st hq
     | _=>exact hq
   | region id ops draw=>
     exfalso;cases draw with
     | false=>
       simp only [AK,Bool.false_eq_true,if_false,Option.ite_none_right_eq_some,Option.some.injEq] at hc;obtain ⟨hd,rfl⟩:=hc;exact h
     | true=>
       simp only [AK,if_true,Option.ite_none_right_eq_some,Option.some.injEq] at hc;obtain ⟨hd,rfl⟩:=hc;revert h;unfold M8;split<;>exact fun h=>h
   | cond c a b=>
     simp only [AK,Option.bind_eq_some_iff,Option.map_eq_some_iff] at hc;obtain ⟨x,hx,y,hy,rfl⟩:=hc;exact False.elim h
   | block id a=>
     simp only [AK,Option.map_eq_some_iff] at hc;obtain ⟨x,hx,rfl⟩:=hc;exact False.elim h
   | loop a=>
     simp only [AK,Option.map_eq_some_iff] at hc;obtain ⟨x,hx,rfl⟩:=hc;exact False.elim h
   | rangeFunc fo ps a b=>
     simp only [AK,Option.bind_eq_some_iff,Option.map_eq_some_iff] at hc;obtain ⟨x,hx,y,hy,rfl⟩:=hc;exact False.elim h
   | skip=>cases hc;exact False.elim h
   | ret=>cases hc;exact False.elim h
   | exit id=>cases hc;exact False.elim h
   | _=>cases hc
theorem Cm.byK {f:FuncId} {fn:Func} {p:PC} {args:List V} {Hin:Hp} {ks:List Nat} {res:Res} {H1:List (Nat × List V)} (n:Nat) (hΓ:GOk P Γ) (hE:EB P eqs) (hm:P.follows .mixedOrders=true) (N:Nat) (hf:P.funcs[f]?= some fn) (hc:fn.body.bind (AK fn.ntmps)=some p) (hname:(fn.name == "runtime.NumGoroutine")=false)
   (hn:args.length<=fn.ntmps) (hcl:∀ v∈args,A2 (· < N) AR v) (hids:H3 N Hin) (hks:∀ i∈ks,i<N) (hri:LD res.v H1) (h:∀ E:Ent,(∀ i,E.stab i↔i∈ks)->E.nt=fn.ntmps/\E.rq->PWk P Γ eqs E n p (Mh Γ fn ks res H1) ⟨Dn 0 args,Hin,N⟩):Cm P f args Hin ks res (lk H1):=by
 cases hb:fn.body with
 | none=>rw [hb] at hc;cases hc
 | some c=>rw [hb] at hc;exact Cm.intro hΓ N hf hb hname hn hcl hids hks hri fun E hE' hs hrd=>PWk.sound hΓ hE hm n c p (by rw [hE'];exact hc) _ _ (h E hs ⟨hE',hrd⟩)
theorem Ct.byK {f:FuncId} {fn:Func} {p:PC} {args:List V} {r:V} {H1:List (Nat × List V)} (n:Nat) (hΓ:GOk P Γ) (hE:EB P eqs) (hm:P.follows .mixedOrders=true) (hf:P.funcs[f]?= some fn) (hc:fn.body.bind (AK fn.ntmps)=some p) (hname:(fn.name == "runtime.NumGoroutine")=false)
   (hn:args.length<=fn.ntmps) (hcl:∀ v∈args,I8 v) (hri:LD r H1) (h:∀ E:Ent,(∀ i,¬ E.stab i)->E.nt=fn.ntmps/\E.rq->PWk P Γ eqs E n p (dL Γ fn r H1) ⟨Dn 0 args,fun _=>none,0⟩):Ct P f args r H1:=
 Cm.byK n hΓ hE hm 0 hf hc hname hn (fun v hv=>A2.mono (fun _ h=>h.elim) (fun _ h=>h) (hcl v hv)) nofun nofun hri fun E hs hn=>h E (fun i hi=>by have:=(hs i).1 hi;cases this) hn
end Go.Psl
namespace Go.Proofs.Tryz
open Go.Psl
open Go.Air
theorem AEF (l:List Shp) (g:FuncId) (ds:List D) (q:Shp->Bool) (hl:l.length<=1000000000) (hg:∀ p∈l,Ct prog g (Cl p (.d (AX p.gas.cs))::ds.map .d) (vb (q p)) []):Ct prog 130 [.d (cD l), .d (.fn g ds)] (vb (l.all q)) []:=by
 refine CB func130 c130 fun E hE=>?_
 simp [p130];refine Al (α:=Nat) (fun i=>⟨AO [(1, .d (.fn g ds)),(7, .d (cD l)),(8,vi l.length),(9,vi i)],lk [],0⟩) (fun i=>i<=l.length/\∀ j,j<i->(l[j]?).all q=true) (fun i=>l.length-i) 0 ?_ ?_ ?_
 . exact ⟨by omega,fun j hj=>by omega⟩
 . exact WK hE (lk [])
 . rintro i ⟨hi,hg3⟩
   have hz:=@wz i (by omega);by_cases h:i<l.length
   . have hI:(i:Int)<l.length:=by omega
     obtain ⟨p,hp⟩:=gE h;simp [ADT,hI,hp,AA];refine CLa (hg p (List.mem_of_getElem? hp)) ?_;cases hq:q p
     . have e:l.all q=false:=by rw [List.all_eq_false];exact ⟨p,List.mem_of_getElem? hp,by simp [hq]⟩
       simp;apply RZ;simp [results130,e]
     . simp [hz]
       refine ⟨i+1,⟨by omega,fun j hj=>?_⟩,by omega,?_⟩
       . by_cases e:j=i
         . subst e;rw [hp];simp [hq]
         . exact hg3 j (by omega)
       . exact WK hE (lk [])
   . have hI:¬ (i:Int)<l.length:=by omega
     have e:l.all q=true:=by
       rw [List.all_eq_true];intro x hx;obtain ⟨j,hj⟩:=List.getElem?_of_mem hx;have:=hg3 j (by have:=(List.getElem?_eq_some_iff.1 hj).1;omega);rw [hj] at this;simpa using this
     simp [ADT,hI];apply RZ;simp [results130,e]
theorem AEG (s:Shp) (h:s.gas.cs.length<=1000000):Ct prog 131 [Cl s (.d (AX s.gas.cs))] (vb (A6 s)) []:=by
 have c1:=qF s (by omega)
 generalize A6 s=b at*
 cases b
 . refine CB func131 AEH fun E hE=>?_
   simp [p131];refine CLa c1 ?_;simp;apply RZ;simp [results131]
 . refine CB func131 AEH fun E hE=>?_
   simp [p131];refine CLa c1 ?_;simp;apply RZ;simp [results131]
def nKS:List Nat:=[2097155,1048579,0,1,2]
def nL (l:List Leg) (s:Shp) (cert:List Shp) (f:Nat->V) (z:LSt) (j:Int):List (Nat × List V):=
 [(2097155,[.lr f 53 [31,32] ACT ACU z]),(1048579,[.d (Bs l)]),(0,shB s),(1,[.d (cD cert)]),(2,[vi j])]
def nT (l:List Leg) (s:Shp) (cert:List Shp) (j:Int):List (Nat × List V):=
 [(1048579,[.d (Bs l)]),(0,shB s),(1,[.d (cD cert)]),(2,[vi j])]
theorem AD4 (l:List Leg) (s:Shp) (cert:List Shp) (f:Nat->V) (z:LSt) (j:Int):nL l s cert f z j=(2097155,[.lr f 53 [31,32] ACT ACU z])::nT l s cert j:=rfl
theorem ADl:nKS=2097155::[1048579,0,1,2]:=rfl
theorem ADC (l:List Leg) (s:Shp) (cert:List Shp) (f:Nat->V) (z:LSt) (j:Int) (hf:∀ t,AV (·∈nKS) AR (f t)):BT nKS [] (nL l s cert f z j):=by
 refine ⟨rfl,by simp [nKS],?_⟩;intro q hq;simp only [nL,List.mem_cons,List.not_mem_nil,or_false] at hq;rcases hq with rfl | rfl | rfl | rfl | rfl
 . exact ⟨by simp,Or.inr ⟨_,_,_,_,_,_,rfl⟩,fun c hc=>by simp at hc;subst hc;exact hf⟩
 rotate_left 1
 . refine ⟨by simp,ADq (Qk s),fun c hc=>?_⟩
   obtain ⟨d,rfl⟩:=(Qk s).2 c hc;exact rfl
 all_goals refine ⟨by simp,Or.inl rfl,fun c hc=>?_⟩
 all_goals simp only [List.mem_cons,List.not_mem_nil,or_false] at hc
 all_goals (subst hc;exact rfl)
theorem ADb (l:List Leg) (s:Shp) (cert:List Shp) (f:Nat->V) (hf:∀ t,AV (·∈nKS) AR (f t)) (f13:f 13= .lp 2 0) (j i m:Nat) (hj:j<=100000):
   Ym prog 2097155 [vi i,vi m] (lk (nL l s cert f .ready j)) nKS (.ret (vb true)) (lk (nL l s cert f .ready (j+1:Nat))):=by
 have hK1:=ADC l s cert f .ready j hf;have hK2:=ADC l s cert f .ready (j+1:Nat) hf
 have hlt:∀ j∈nKS++[],j<10000000:=by
   intro j hj;simp only [nKS,List.mem_append,List.mem_cons,List.not_mem_nil,or_false] at hj;omega
 have hW:∀ z,WC (lk [(2097155,2097155),(1048579,1048579),(0,0),(1,1),(2,2)]) (.lr f 53 [31,32] ACT ACU z) (.lr f 53 [31,32] ACT ACU z):=fun z=>⟨rfl,fun t=>AV.mono (fun j hj=>by simp [nKS] at hj;rcases hj with rfl | rfl | rfl | rfl | rfl<;>simp [lk]) (fun _ h=>h) (hf t)⟩
 have hC:∀ z,Bv [.lr f 53 [31,32] ACT ACU z]:=fun z=>Or.inr ⟨_,_,_,_,_,_,rfl⟩
 have w:=@wz j (by omega);refine Ym.ofX (k:=2097155) (fr:=f) (nt:=53) (ps:=[31,32]) (pa:=ACT) (pb:=ACU) (args:=[vi i,vi m]) (s:= .ready) gok eok mixed 10000000 hK1 hK2 hlt (by simp [nKS]) (by simp [nL]) (by simp) (by simp) (by simp) ?_;refine ⟨fun E hE hs=>?_⟩;unfold nL
 generalize V.lr f 53 [31,32] ACT ACU=rc at hW hC ⊢
 simp [ACT,BD];simp [ACU,f13,AA,w];refine ⟨trivial,by simp,lk [(2097155,2097155),(1048579,1048579),(0,0),(1,1),(2,2)],?_⟩;simp [hW,hC,nKS]
theorem AD5 (IA IC:Nat) (hI:IA≠IC) (hS:SortOk) (k:Sky) (r:Rig) (l:List Leg) (s:Shp) (cert:List Shp) (hl:l.length<=100) (hok:∀ x∈l,BE x=true) (h1:k.s.length<=1000000) (h2:k.w.length<=1000000) (h3:r.reg.length<=1000000) (hk:BV k=true) (hR:CF r=true) (hg:Ey k r=true) (hs:A6 s=true) (hcl:(BN 0 l).length=cert.length) (hco:∀ c∈cert,A6 c=true):
   ∃ q:Int,Cm prog 103 [D2 k r,Cl s (.d (AX s.gas.cs)), .d (Bs l), .cl 132 [.lp IA 0, .lp IC 0]] (lk [(IA,[vi (-1)]),(IC,[.d (cD cert)])]) [IA,IC] (.ret (.tup [Ys (xb k r l (BN 0 l) s cert).2,vi (ACa k r l (BN 0 l) s cert)])) (lk [(IA,[vi q]),(IC,[.d (cD cert)])]):=by
 obtain ⟨q,h⟩:=AEO hS k r l s cert hl hok h1 h2 h3 hk hR hg hs hcl hco;rw [ACd] at h;refine ⟨q,?_⟩;have:=Cm.rename (fun i=>if i=0 then IA else IC) 2 (by intro i j hi hj;split<;>split<;>omega) h (by simp [BW]) (by simp [BW]) (by simp);have hc:HR (fun i=>if i=0 then IA else IC) (V.cl 132 [.lp 0 0, .lp 1 0])= .cl 132 [.lp IA 0, .lp IC 0]:=rfl;simpa [Ea,HW,hc] using this
theorem AD6 (hS:SortOk) (k:Sky) (r:Rig) (s:Shp) (l:List Leg) (cert:List Shp) (h1:k.s.length<=1000000) (h2:k.w.length<=1000000) (h3:r.reg.length<=1000000) (h4:s.gas.cs.length<=1000000) (h5:l.length<=1000000) (h6:∀ x∈l,x.acts.length<=1000000) (hz:¬ JC k r s (C0 l)=0):Ct prog 62 [Eu k,Fj r,Cl s (.d (AX s.gas.cs)), .d (Bs l), .d (cD cert)] (vi (JC k r s (C0 l))) []:=by
 have c1:=qF s (by omega);have c2:=AEM l h5 h6;obtain ⟨a,ha⟩:∃ a:Int,(if A6 s then 0 else 52)=a:=⟨_,rfl⟩
 obtain ⟨b,hb⟩:∃ b:Int,C0 l=b:=⟨_,rfl⟩
 rw [ha] at c1;rw [hb] at c2 hz ⊢;rcases ABc ha hz with ⟨k1,k2⟩ | ⟨k1,k2,k3,k4,k5,k6⟩
 . have c3:=XK hS k r a b h1 h2 h3 k1
   rw [<-k2]
   generalize QG k r a b=e at*
   refine CB func62 c62 fun E hE=>?_
   simp [p62];refine AL [] (by kernel_rfl) ?_;simp [inC,Nat.testBit];refine CLa c1 ?_;simp [inC,Nat.testBit];refine CLa c2 ?_;simp [AA,AM,inC,Nat.testBit];refine CLb (c3) (by simp [Ap,Hcl,inC,Nat.testBit]) ?_;simp [k1];apply RZ;simp [results62]
 . subst k3 k4
   have c3:=XM hS k r h1 h2 h3 k1 k2 k5;rw [k6];refine CB func62 c62 fun E hE=>?_
   simp [p62];refine AL [] (by kernel_rfl) ?_;simp [inC,Nat.testBit];refine CLa c1 ?_;simp [inC,Nat.testBit];refine CLa c2 ?_;simp [AA,AM,inC,Nat.testBit];refine CLb (c3) (by simp [Ap,Hcl,inC,Nat.testBit]) ?_;simp;apply RZ;simp [results62]
theorem ADy (hS:SortOk) (k:Sky) (r:Rig) (s:Shp) (l:List Leg) (cert:List Shp) (h1:k.s.length<=1000000) (h2:k.w.length<=1000000) (h3:r.reg.length<=1000000) (h5:l.length<=1000000) (h6:∀ x∈l,x.acts.length<=1000000) (hcn:cert.length<=100000) (hcs:∀ c∈cert,c.gas.cs.length<=1000000) (hz:JC k r s (C0 l)=0):Ct prog 62 [Eu k,Fj r,Cl s (.d (AX s.gas.cs)), .d (Bs l), .d (cD cert)] (vi (if decide ((cert.length:Int)=Cv l)&&cert.all A6 then ACa k r l (BN 0 l) s cert else 8)) []:=by
 obtain ⟨hk,hR,hs,hb0,hg⟩:=MD hz;obtain ⟨q1,q2,q3⟩:=Tv hb0;have c1:=qF s (by have:=CS (CR hs);omega);have c2:=AEM l h5 h6;rw [hs] at c1;rw [hb0] at c2;have c3:=fd 11534336 hS k r h1 h2 h3 hk hR hg;have hlen:=Kv (i:=0) q2;have c5:=AEF cert 131 [] A6 (by omega) fun c hc=>AEG c (hcs c hc)
 obtain ⟨R,hR'⟩:∃ R,(if decide ((cert.length:Int)=Cv l)&&cert.all A6 then ACa k r l (BN 0 l) s cert else 8)=R:=⟨_,rfl⟩
 rw [hR'];refine Ct.byK 4 gok eok mixed func62 c62 rfl (by simp [ntmps62]) (by simp) (by simp [LD]) fun E hE hE2=>?_
 simp [p62,ADn,ADm];refine AL [(7,11534336)] (by kernel_rfl) ?_;simp [inC,Nat.testBit];refine CLa c1 ?_;simp [inC,Nat.testBit];refine CLa c2 ?_;simp [AA,AM,inC,Nat.testBit];refine CDs c3 (by simp [wrL,inC,Nat.testBit]) ?_;simp [AA];refine ⟨⟨AO [(3, .d (Bs l)),(7, .lp 0 0),(9, .lp 1 0),(11,D2 k r),(13, .lp 2 0)],lk [(0,shB s),(1,[.d (cD cert)]),(2,[vi 0])],3⟩,?_,?_⟩
 . exact WK hE (lk [(0,2097152),(1,3145728),(2,20971520)])
 simp;refine CLa (qu l) ?_;simp;have hnt:E.nt=53:=by rw [hE2.1];exact ntmps62
 rw [<-JI (Γ:=tys) (eqs:=eqs)];obtain ⟨f,hf⟩:∃ f,f=upd (upd (AO [(3, .d (Bs l)),(7, .lp 0 0),(9, .lp 1 0),(11,D2 k r),(13, .lp 2 0)]) 29 (.d (Bs l))) 30 (.cl 205 [.lp 1048579 0]):=⟨_,rfl⟩
 have hfA:∀ t,AV (·∈nKS) AR (f t):=fun t=>by
   rw [hf];simp only [AY];split
   . intro c hc;simp at hc;subst hc;exact (by simp [nKS]:(1048579:Nat)∈nKS)
   split
   . exact trivial
   show AV _ _ ((lk [(3,V.d (Bs l)),(7, .lp 0 0),(9, .lp 1 0),(11,D2 k r),(13, .lp 2 0)] t).getD .junk)
   simp only [lk];split
   . exact trivial
   split
   . exact (by simp [nKS]:(0:Nat)∈nKS)
   split
   . exact (by simp [nKS]:(1:Nat)∈nKS)
   split
   . exact trivial
   split
   . exact (by simp [nKS]:(2:Nat)∈nKS)
   . exact trivial
 have f13:f 13= .lp 2 0:=by rw [hf];simp
 have f30:f 30= .cl 205 [.lp 1048579 0]:=by rw [hf];simp
 have f9:f 9= .lp 1 0:=by rw [hf];simp
 have f7:f 7= .lp 0 0:=by rw [hf];simp
 have f3:f 3= .d (Bs l):=by rw [hf];simp
 have f11:f 11=D2 k r:=by rw [hf];simp
 rw [<-hf];have hlb:(BN 0 l).length<=60000:=by omega
 have hN:∀ i∈nKS,i<1000000000:=by simp [nKS]
 have hX:∀ i:Nat,∀ x∈(fun _:Nat=>([]:List Nat)) i,x<1048576:=fun i x hx=>by simp at hx
 have c:=Jl l (by omega) q2 nKS (fun _=>[]) 2097155 1048579 (BN 0 l).length (fun _=>true) (fun j=>nL l s cert f .ready j) (by simp [nKS]) (by simp [nKS]) hN hX (Nat.le_refl _) (fun j _=>ADC l s cert f .ready j hfA) (fun j _=>⟨f,53,[31,32],ACT,ACU, .ready,by simp [nL],rfl⟩) (fun j _=>by simp [nL]) (fun _ _=>rfl) (Or.inl rfl) (fun j i m hj him=>ADb l s cert f hfA f13 j i m (by omega));obtain ⟨N,hNN⟩:∃ N,(BN 0 l).length=N:=⟨_,rfl⟩
 rw [hNN] at c hlen hlb;have hK0:=ADC l s cert f .ready ((0:Nat):Int) hfA;have hKn:=ADC l s cert f .ready (N:Int) hfA;rw [AD4,AD4,ADl] at c;rw [AD4,ADl] at hK0 hKn;refine E3.keepX (nT l s cert ((0:Nat):Int)) (nT l s cert N) [1048579,0,1,2] [] [] (.tup []) .ready hE2.2 (g:=205) (caps:=[.lp 1048579 0]) (by simp [f30]) (by rw [hnt];exact c) (by rw [hnt];exact hK0) (by rw [hnt];exact hKn) (fun x hx=>by simp at hx) (by simp) (by simp [nT]) (by simp) fun F h1 h2=>?_
 have F0:=h1 (0,_) (by simp [nT];rfl);have F1:=h1 (1,_) (by simp [nT];rfl);have F2:=h1 (2,_) (by simp [nT];rfl);simp [sg,BJ,DS,DR] at F0 F1 F2
 show Ft 0 _ .normal _
 by_cases hcN:(cert.length:Int)=N
 . cases hall:cert.all A6 with
   | false=>
     rw [hall] at c5;have e:R=8:=by rw [<-hR',hall,Bool.and_false,if_neg (by simp)]
     simp [f13,f9,F1,F2,hcN];refine CLa c5 ?_;simp;apply RZ;simp [results62,e]
   | true=>
     rw [hall] at c5;have e:ACa k r l (BN 0 l) s cert=R:=by rw [<-hR',hall,<-hlen,decide_eq_true hcN];rfl
     obtain ⟨q,c6⟩:=AD5 13631491 1 (by omega) hS k r l s cert (by omega) q2 (by omega) (by omega) (by omega) hk hR hg hs (by omega) fun c hc=>List.all_eq_true.1 hall c hc
     rw [e] at c6;simp [f13,f9,F1,F2,hcN];refine CLa c5 ?_;simp [f9,f7,f3,f11,F0,AA];refine CRs c6 (by simp [F1]) ?_;simp;apply RZ;simp [results62]
 . have e:R=8:=by rw [<-hR',<-hlen,decide_eq_false hcN,Bool.false_and,if_neg (by simp)]
   simp [f13,f9,F1,F2,hcN];apply RZ;simp [results62,e]
theorem fn62 (hS:SortOk) (k:Sky) (r:Rig) (s:Shp) (l:List Leg) (cert:List Shp) (h1:k.s.length<=1000000) (h2:k.w.length<=1000000) (h3:r.reg.length<=1000000) (h4:s.gas.cs.length<=1000000) (h5:l.length<=1000000) (h6:∀ x∈l,x.acts.length<=1000000) (hcn:cert.length<=100000) (hcs:∀ c∈cert,c.gas.cs.length<=1000000):Ct prog 62 [Eu k,Fj r,Cl s (.d (AX s.gas.cs)), .d (Bs l), .d (cD cert)] (vi (ADh k r s l cert)) []:=by
 unfold ADh;by_cases hz:JC k r s (C0 l)=0
 . rw [if_pos hz]
   exact ADy hS k r s l cert h1 h2 h3 h5 h6 hcn hcs hz
 . rw [if_neg hz]
   exact AD6 hS k r s l cert h1 h2 h3 h4 h5 h6 hz
theorem fn13 (hS:SortOk) (k:Sky) (r:Rig) (s:Shp) (l:List Leg) (cert:List Shp):Ct prog 13 [Eu k,Fj r,Cl s (.d (AX s.gas.cs)), .d (Bs l), .d (cD cert)] (vb true) []:=by
 have d1:=fn29 k r s l;by_cases hn:(80:Int)<cert.length
 . cases hg:grA k r s l
   all_goals
     rw [hg] at d1;refine CB func13 c13 fun E hE=>?_
     simp [p13];refine CLa d1 ?_;simp [hn];apply RZ;simp [results13]
 cases hg:grA k r s l
 case true=>
   rw [hg] at d1;refine CB func13 c13 fun E hE=>?_
   simp [p13];refine CLa d1 ?_;simp;apply RZ;simp [results13]
 rw [hg] at d1;obtain ⟨⟨g1,g2⟩,g3,g4,g5,g6⟩:=l0 hg;refine CB func13 c13 fun E hE=>?_
 simp [p13];refine CLa d1 ?_;simp [hn];refine Al (α:=Nat) (fun i=>⟨AO [(3, .d (Bs l)),(4, .d (cD cert)),(5, .lp 0 0),(6, .lp 1 0),(7, .lp 2 0),(23,vi cert.length),(24,vi i)],lk [(0,[.d (BF k.s), .d (C2 k.w)]),(1,[.d (An r.reg),vi r.gl,vi r.gh,vi r.tank,vi r.rsv,vi r.lo,vi r.hi]),(2,shB s)],3⟩) (fun i=>i<=cert.length/\∀ j c,j<i->cert[j]?= some c->c.gas.cs.length<=20) (fun i=>cert.length-i) 0 ?_ ?_ ?_
 . exact ⟨by omega,fun j c h=>absurd h (by omega)⟩
 . exact WK hE (lk [(0,0),(1,1048576),(2,2097152)])
 . rintro i ⟨hi,hall⟩
   by_cases h:i<cert.length
   . obtain ⟨c,hc⟩:=gE h
     have hI:(i:Int)<cert.length:=by omega
     have hz:=@wz i (by omega);have cG:=AEB c;cases hb:decide (20<c.gas.cs.length) with
     | true=>
       rw [hb] at cG;simp [ADU,hI,hc];refine CLa cG ?_;simp;apply RZ;simp [results13]
     | false=>
       rw [hb] at cG;simp only [decide_eq_false_iff_not] at hb;simp [ADU,hI,hc];refine CLa cG ?_;simp [hz];refine ⟨i+1,⟨by omega,fun j c' hj hc'=>?_⟩,by omega,?_⟩
       . by_cases e:j=i
         . subst e;rw [hc] at hc';cases hc';omega
         . exact hall j c' (by omega) hc'
       . exact WK hE (lk [(0,0),(1,1),(2,2)])
   . have hI:¬ (i:Int)<cert.length:=by omega
     have hcs:∀ c∈cert,c.gas.cs.length<=1000000:=fun c hc=>by
       obtain ⟨j,hj⟩:=List.getElem?_of_mem hc;have:=(List.getElem?_eq_some_iff.1 hj).1;have:=hall j c (by omega) hj;omega
     have a1:=fn62 hS k r s l cert (by omega) (by omega) (by omega) (by omega) (by omega) (fun x hx=>by have:=g6 x hx;omega) (by omega) hcs;have a2:=fn63 k r s l cert (by omega) (by omega) (by omega) (by omega) (by omega) (fun x hx=>by have:=g6 x hx;omega) (by omega) hcs
     generalize ADh k r s l cert=A at*
     simp [ADU,hI,inC,Nat.testBit];refine CLa a1 ?_;simp [inC,Nat.testBit];refine CLa a2 ?_;simp;apply RZ;simp [results13]
end Go.Proofs.Tryz
namespace Go.Psl
open Go.Shelf Go.RowKit Go.Lib Go.Sort
variable {P:Program} {ρ:Ren} {α:Type} [Inhabited α]
theorem dJ {W W':World} (hos:W'.os=W.os) (hta:W'.tape=W.tape) (hou:W'.output=W.output) (hdr:W.drawn<=W'.drawn) (hsz:W.heap.size<=W'.heap.size) (hb:∀ b,b<W.heap.size->W'.heap[b]?= W.heap[b]?):
   ∃ q os',W'=grow (W.drewN q) os':=by
 refine ⟨W'.drawn-W.drawn,W'.heap.extract W.heap.size W'.heap.size,?_⟩;obtain ⟨h,t,d,o,u⟩:=W;obtain ⟨h',t',d',o',u'⟩:=W';simp only at hos hta hou hdr hsz hb;subst hos hta hou;simp only [grow,World.drewN];congr 1
 . apply Array.ext_getElem?
   intro i;by_cases hi:i<h.size
   . rw [Array.getElem?_append_left hi,hb i hi]
   . rw [Array.getElem?_append_right (by omega),Array.getElem?_extract]
     split
     . congr 1;omega
     . rw [Array.getElem?_eq_none (by omega)]
 . omega
theorem Mg {enc:α->List Value} {k:Nat} (h0:0<k) (hk:∀ x,(enc x).length=k) (l:List α) (j:Nat) (hj:j<l.length*k):(l.flatMap enc)[j]?= some (flatK enc k l.toArray)[j]! :=by
 rw [get_flatK _ _ _ _ (by simpa using hj),List.flatMap_def,CI h0 _ (fun e he=>by obtain ⟨x,_,rfl⟩:=List.mem_map.1 he;exact hk x)];have h1:j/k<l.length:=by rw [Nat.div_lt_iff_lt_mul h0];exact hj
 have hm:j%k<k:=Nat.mod_lt _ h0;rw [List.getElem?_map,List.getElem?_eq_getElem h1];simp only [Option.map_some,Option.bind_some];have e1:l.toArray[j/k]! =l[j/k]:=by rw [getElem!_pos _ _ (by simpa using h1)];simp
 rw [e1,List.getElem?_eq_getElem (by rw [hk];exact hm),getElem!_pos _ _ (by rw [hk];exact hm)]
omit [Inhabited α] in
theorem N2 {enc:α->List Value} {k:Nat} (hk:∀ x,(enc x).length=k) (l:List α):(l.flatMap enc).length=l.length*k:=by
 rw [List.flatMap_def,B3 (sz:=k) _ (fun e he=>by obtain ⟨x,_,rfl⟩:=List.mem_map.1 he;exact hk x),List.length_map]
theorem Wo {G:Gh} {W:World} {vs:List Value} (h:∀ v∈vs,CU v=true):AJ (R1 G W) (vs.map cV) vs:=by
 induction vs with
 | nil=>trivial
 | cons v vs ih=>exact ⟨RD.lit v (h v (by simp)),ih fun x hx=>h x (by simp [hx])⟩
theorem P6 {g:Nat} {enc:α->List Value} {k:Nat} {cf:α->α->Int} (hflat:∀ x,∀ v∈enc x,CU v=true) (hcmp:∀ x y,Ct P g [.agg ((enc x).map cV), .agg ((enc y).map cV)] (.d (.lit (.int .i64 (cf x y)))) []) (blk off size:Nat) (w:World):Go.Proofs.CmpLays P g #[] enc k cf blk off size w:=by
 intro m os dk _ x y;refine ((hcmp x y).2 ⟨fun _=>0,fun _=>0,fun _=>true,fun _=>true,fun _=>False⟩ _ #[.agg (enc x).toArray, .agg (enc y).toArray] (fun _ h=>h.elim) ⟨⟨_,rfl,Wo (hflat x)⟩,⟨_,rfl,Wo (hflat y)⟩,trivial⟩ ⟨nofun,fun i _ h=>by simp [InH] at h,nofun⟩).mono fun e W' ⟨G',hp⟩=>?_
 refine ⟨?_,dJ hp.os hp.tape hp.output hp.drawn hp.size fun b hb=>hp.block b hb fun ⟨_,h,_⟩=>by simp [InH] at h⟩;cases e with
 | returned v=>rw [Cg hp.rv]
 | _=>exact hp.rv.elim
theorem N3 (L:Go.Proofs.SlLaysF0.n6 P ρ) (hf:fF P (ρ.f 6)) (k:Nat) (h0:0<k) (aE:∀ w,(isAgg (ρ.t 24)).run P w= .ok true w) (zE:∀ w,(Go.sizeOf (ρ.t 24)).run P w= .ok k w) (enc:α->List Value) (hk:∀ x,(enc x).length=k) (hflat:∀ x,∀ v∈enc x,CU v=true) (cf:α->α->Int) (hO:SWO (Go.Proofs.ltOf cf)) (hT:∀ x y,(Go.Proofs.ltOf cf) x y=false->(Go.Proofs.ltOf cf) y x=false->x=y)
   (g:Nat) (eg:∀ args w,(callFunc g args).run P w= .ok (.enter g args) w) (hcmp:∀ x y,Ct P g [.agg ((enc x).map cV), .agg ((enc y).map cV)] (.d (.lit (.int .i64 (cf x y)))) []) (l:List α) (hl0:0<l.length) (hsz:l.length<4611686018427387904):
   Cm P (ρ.f 6) [.ls 0 0 l.length k, .d (.fn g [])] (lk [(0,(l.flatMap enc).map cV)]) [0] (.ret (.tup [])) (lk [(0,((l.mergeSort fun x y=>!(Go.Proofs.ltOf cf) y x).flatMap enc).map cV)]):=by
 refine ⟨hf,fun G W xs hGW hargs hpre=>?_⟩
 obtain ⟨v1,v2,rfl⟩:∃ v1 v2,xs= #[v1,v2]:=by
   have:=hargs.length;obtain ⟨xs⟩:=xs
   match xs,this with
   | [a,b],_=>exact ⟨a,b,rfl⟩
   | [],h=>simp at h
   | [_],h=>simp at h
   | _::_::_::_,h=>simp at h
 obtain ⟨h1,h2,_⟩:=hargs;obtain ⟨hIn,hph⟩:=hpre.st 0 (by simp);obtain ⟨hml,⟨_,h,_⟩ | ⟨hphl,o,cap,rfl,hcap,ho⟩⟩:=h1
 . omega
 obtain ⟨rfl,hbs0⟩:=ho (by omega)
 obtain ⟨cv,rfl,hcv⟩:∃ cv,v2= .func (.func g) #[] cv/\cv.size=0:=by
   cases h2 with
   | fn _ _ cv hl _=>exact ⟨cv,rfl,hl⟩
 obtain rfl:cv= #[]:=Array.eq_empty_of_size_eq_zero hcv;have hHB:=hpre.hb 0 _ rfl;obtain ⟨hnim,c,T,hb,hbs,hcl,hcr,hca⟩:=hHB.read hphl;have hblk:G.β 0<W.heap.size:=(Array.getElem?_eq_some_iff.1 hb).1;have hfl:=N2 hk l;rw [List.length_map,hfl] at hcl hcr
 have hcell:∀ j,j<l.length*k->c[j]?= some (flatK enc k l.toArray)[j]! :=fun j hj=>by
   have h3:=Mg h0 hk l j hj;have h4:((l.flatMap enc).map cV)[j]?= some (cV (flatK enc k l.toArray)[j]!):=by rw [List.getElem?_map,h3];rfl
   obtain ⟨x,hx,hr⟩:=hcr.get h4;rw [List.getElem?_take,if_pos hj,Array.getElem?_toList] at hx;rw [hx,BO hr.r2.rv]
 have hH:HoldsK enc k W (G.β 0) 0 l.toArray:=fun j hj=>by
   have hj':j<l.length*k:=by simpa using hj
   refine ⟨?_,?_⟩
   . unfold World.cell?
     simp only [Nat.zero_add,hb,Option.isSome_none,Bool.false_eq_true,if_false];exact hcell j hj'
   . unfold World.frozen?
     simp [hb]
 have h1c:∀ x,∀ v∈enc x,v.oneCell'=true:=fun x v hv=>RD.oneCell (Im:=fun _=>True) (W:=W) (RD.lit v (hflat x v hv))
 have key:=Go.Proofs.AnyQ.slices_SortFunc_total L k aE zE enc hk h1c cf hO g #[] (G.β 0) 0 cap l.toArray W eg (P6 hflat hcmp _ _ _ _) hH hblk (by simpa using hsz) hT;have hperm:(l.mergeSort fun x y=>!(Go.Proofs.ltOf cf) y x).length=l.length:=List.length_mergeSort _
 generalize (l.mergeSort fun x y=>!(Go.Proofs.ltOf cf) y x)=l' at key hperm ⊢
 have key':Calls P (ρ.f 6) #[.slice (some ⟨G.β 0,0,none⟩) l.length cap, .func (.func g) #[] #[]] W fun e w'=>e= .returned (.tuple #[])/\∃ n os,w'=Go.Proofs.sortWorldK enc k W (G.β 0) 0 n l'.toArray os:=by simpa using key
 refine key'.mono fun e W' ⟨he,n,os,hW'⟩=>?_
 subst he
 have hlent:∀ b,Bm G (lk [(0,(l.flatMap enc).map cV)]) b->b=G.β 0:=fun b ⟨i,hi,_,hbi⟩=>by
   have:i=0:=by simp only [InH,lk] at hi;split at hi;assumption;cases hi
   rw [<-hbi,this]
 have hlent0:Bm G (lk [(0,(l.flatMap enc).map cV)]) (G.β 0):=⟨0,hIn,hph,rfl⟩
 have hheap:∀ b,b<W.heap.size->W'.heap[b]?= if b=G.β 0 then some (.cells (putCells id 0 (flatK enc k l'.toArray) c) T (0,0)) else W.heap[b]?:= fun b hlt=>by
   rw [hW']
   show ((putRow id (Sort.ahead W n) (G.β 0) 0 (flatK enc k l'.toArray)).heap++os)[b]?= _
   rw [Array.getElem?_append_left (by simpa using hlt)]
   show (W.heap.modify (G.β 0) _)[b]?= _
   rw [Array.getElem?_modify];by_cases e:b=G.β 0
   . subst e
     simp [hb,onCells]
   . rw [if_neg (fun h=>e h.symm),if_neg e]
 have hsz':W.heap.size<=W'.heap.size:=by rw [hW'];exact Go.Proofs.size_sortWorldK_c enc k W (G.β 0) 0 n l'.toArray os
 refine ⟨G,⟨by rw [hW'];rfl,by rw [hW'];rfl,by rw [hW'];rfl,by rw [hW'];exact Nat.le_add_right _ _,hsz',fun b hlt hn=>?_,fun b hb=>⟨Nat.lt_of_lt_of_le (hGW b hb) hsz', .inl hb⟩,fun _ h=>h,⟨#[],rfl,trivial⟩,fun _ h=>(by cases h),fun i cs hi=>?_,fun i j hi hj _ _ _=>?_,fun i hi _=>⟨rfl,rfl,(hpre.st i hi).2,rfl⟩⟩⟩
 . rw [hheap b hlt,if_neg (fun e:b=G.β 0=>hn (by rw [e];exact hlent0))]
 . have hi0:i=0/\cs=(l'.flatMap enc).map cV:=by
     simp only [lk] at hi;split at hi
     . rename_i e;cases hi;exact ⟨e,rfl⟩
     . cases hi
   obtain ⟨rfl,rfl⟩:=hi0;have hfl':=N2 hk l';refine ⟨.inr (.inl ⟨hphl.1,hphl.2,hnim,_,T,by rw [hheap _ hblk,if_pos rfl],by simp [putCells,hbs],by simp [putCells,hfl',hperm];exact hcl,?_,?_⟩),fun _=> .inr hlent0,fun x hx=>?_⟩
   . refine AJ.of_get ?_ fun j x y hx hy=>?_
     . simp [putCells,hfl',hperm];omega
     . have hj:j<l'.length*k:=by
         have:=(List.getElem?_eq_some_iff.1 hx).1;simpa [hfl'] using this
       rw [List.getElem?_map,Mg h0 hk l' j hj] at hx;cases hx;rw [List.getElem?_take,List.length_map,hfl',if_pos hj,Array.getElem?_toList] at hy;have hjc:j<c.size:=by rw [hperm] at hj;omega
       simp only [putCells,Array.getElem?_mapIdx,Array.getElem?_eq_getElem hjc,Option.map_some,Nat.zero_le,true_and,Nat.zero_add,size_flatK,List.size_toArray,hj,if_true,Option.some.injEq,Nat.sub_zero,id] at hy;subst hy;have hm:=Mg h0 hk l' j hj;have hmem:=List.mem_of_getElem? hm;obtain ⟨a,_,ha⟩:=List.mem_flatMap.1 hmem;exact RD.lit _ (hflat a _ ha)
   . simp only [List.all_map,List.all_eq_true]
     intro v _;rfl
   . obtain ⟨v,_,rfl⟩:=List.mem_map.1 hx
     trivial
 . have e1:i=0:=by simp only [InH,lk] at hi;split at hi;assumption;cases hi
   have e2:j=0:=by simp only [InH,lk] at hj;split at hj;assumption;cases hj
   rw [e1,e2]
end Go.Psl
namespace Go.Proofs
def Tryz.sortL_ren:Go.Shelf.Ren:=⟨fun | 6=>221 | 15=>270 | 14=>269 | 28=>300 | 29=>301 | 20=>292 | 21=>293 | 22=>294 | 23=>295 | 24=>296 | 25=>297 | 26=>298 | 27=>299 | 46=>312 | 47=>313 | 48=>314 | 49=>315 | 50=>316 | 57=>318 | n=>n,fun | 22=>55 | 24=>122 | 25=>275 | 3=>3 | 39=>222 | 0=>0 | 53=>339 | 55=>341 | 4=>4 | 46=>333 | 45=>332 | 50=>266 | 5=>5 | 9=>9 | 66=>348 | 70=>352 | 76=>356 | 77=>50 | n=>n,fun | n=>n⟩
theorem Tryz.sortL:Go.Proofs.SlLaysF0.n6 Tryz.prog Tryz.sortL_ren:={
 mixed:=by kernel_rfl,
 f6:=⟨Tryz.f221.name,by decide,Tryz.func221.trans (congrArg some (by kernel_rfl))⟩,
 f14:=⟨Tryz.f269.name,by decide,Tryz.func269.trans (congrArg some (by kernel_rfl))⟩,
 f15:=Tryz.func270.trans (congrArg some (by kernel_rfl)),
 f20:=⟨Tryz.f292.name,by decide,Tryz.func292.trans (congrArg some (by kernel_rfl))⟩,
 f21:=⟨Tryz.f293.name,by decide,Tryz.func293.trans (congrArg some (by kernel_rfl))⟩,
 f22:=⟨Tryz.f294.name,by decide,Tryz.func294.trans (congrArg some (by kernel_rfl))⟩,
 f23:=⟨Tryz.f295.name,by decide,Tryz.func295.trans (congrArg some (by kernel_rfl))⟩,
 f24:=⟨Tryz.f296.name,by decide,Tryz.func296.trans (congrArg some (by kernel_rfl))⟩,
 f25:=⟨Tryz.f297.name,by decide,Tryz.func297.trans (congrArg some (by kernel_rfl))⟩,
 f26:=⟨Tryz.f298.name,by decide,Tryz.func298.trans (congrArg some (by kernel_rfl))⟩,
 f27:=⟨Tryz.f299.name,by decide,Tryz.func299.trans (congrArg some (by kernel_rfl))⟩,
 f28:=Tryz.func300.trans (congrArg some (by kernel_rfl)),
 f29:=Tryz.func301.trans (congrArg some (by kernel_rfl)),
 f46:=⟨Tryz.f312.name,by decide,Tryz.func312.trans (congrArg some (by kernel_rfl))⟩,
 f47:=Tryz.func313.trans (congrArg some (by kernel_rfl)),
 f48:=Tryz.func314.trans (congrArg some (by kernel_rfl)),
 f49:=⟨Tryz.f315.name,by decide,Tryz.func315.trans (congrArg some (by kernel_rfl))⟩,
 f50:=⟨Tryz.f316.name,by decide,Tryz.func316.trans (congrArg some (by kernel_rfl))⟩,
 f57:=⟨Tryz.f318.name,by decide,Tryz.func318.trans (congrArg some (by kernel_rfl))⟩,
 t0:=Tryz.underlying0,
 a0:=Tryz.isAgg0,
 z0:=Tryz.sizeOf0,
 v0:=Tryz.zeroValue0,
 t3:=Tryz.underlying3,
 a3:=Tryz.isAgg3,
 z3:=Tryz.sizeOf3,
 v3:=Tryz.zeroValue3,
 t4:=Tryz.underlying4,
 a4:=Tryz.isAgg4,
 z4:=Tryz.sizeOf4,
 v4:=Tryz.zeroValue4,
 t5:=Tryz.underlying5,
 a5:=Tryz.isAgg5,
 z5:=Tryz.sizeOf5,
 v5:=Tryz.zeroValue5,
 t9:=Tryz.underlying9,
 a9:=Tryz.isAgg9,
 z9:=Tryz.sizeOf9,
 v9:=Tryz.zeroValue9,
 t22:=Tryz.underlying55,
 a22:=Tryz.isAgg55,
 z22:=Tryz.sizeOf55,
 v22:=Tryz.zeroValue55,
 t25:=Tryz.underlying275,
 a25:=Tryz.isAgg275,
 z25:=Tryz.sizeOf275,
 v25:=Tryz.zeroValue275,
 t39:=Tryz.underlying222,
 a39:=Tryz.isAgg222,
 z39:=Tryz.sizeOf222,
 v39:=Tryz.zeroValue222,
 t45:=Tryz.underlying332,
 a45:=Tryz.isAgg332,
 z45:=Tryz.sizeOf332,
 v45:=Tryz.zeroValue332,
 t46:=Tryz.underlying333,
 a46:=Tryz.isAgg333,
 z46:=Tryz.sizeOf333,
 v46:=Tryz.zeroValue333,
 t50:=Tryz.underlying266,
 a50:=Tryz.isAgg266,
 z50:=Tryz.sizeOf266,
 v50:=Tryz.zeroValue266,
 t53:=Tryz.underlying339,
 a53:=Tryz.isAgg339,
 z53:=Tryz.sizeOf339,
 v53:=Tryz.zeroValue339,
 t55:=Tryz.underlying341,
 a55:=Tryz.isAgg341,
 z55:=Tryz.sizeOf341,
 v55:=Tryz.zeroValue341,
 t66:=Tryz.underlying348,
 a66:=Tryz.isAgg348,
 z66:=Tryz.sizeOf348,
 v66:=Tryz.zeroValue348,
 t70:=Tryz.underlying352,
 a70:=Tryz.isAgg352,
 z70:=Tryz.sizeOf352,
 v70:=Tryz.zeroValue352,
 t76:=Tryz.underlying356,
 a76:=Tryz.isAgg356,
 z76:=Tryz.sizeOf356,
 v76:=Tryz.zeroValue356,
 t77:=Tryz.underlying50,
 a77:=Tryz.isAgg50,
 z77:=Tryz.sizeOf50,
 v77:=Tryz.zeroValue50}
end Go.Proofs
namespace Go.Proofs.Tryz
open Go.Psl
def Yn (p:Int × Int):List Value:=[.int .i64 p.1, .int .i64 p.2]
theorem L8 (l:List (Int × Int)):(l.flatMap Yn).map cV=BC l:=by
 induction l with
 | nil=>rfl
 | cons a l ih=>
   rw [List.flatMap_cons,List.map_append,ih];rfl
theorem Kq (x y:Int × Int):Go.Proofs.ltOf Dw x y=true↔Go.Geo.lt x y:=by
 unfold Go.Proofs.ltOf;rw [decide_eq_true_eq,PX]
theorem Xu (x y:Int × Int):Go.Proofs.ltOf Dw x y=false↔¬ Go.Geo.lt x y:=by
 rw [<-Kq];simp
theorem VT:Go.Sort.SWO (Go.Proofs.ltOf Dw) where
 irrefl x:=by rw [Xu];exact Go.Geo.lt_irr x
 trans x y z h1 h2:=by rw [Kq] at*;exact Go.Geo.lt_trans h1 h2
 ntrans x y z h1 h2:=by rw [Xu] at*;unfold Go.Geo.lt at*;omega
theorem kX:SortOk:=fun l h1 h2=>by
 have hcmp:∀ x y:Int × Int,Ct prog 222 [.agg ((Yn x).map cV), .agg ((Yn y).map cV)] (.d (.lit (.int .i64 (Dw x y)))) []:=fun x y=>pR x y
 have h:=N3 Tryz.sortL ⟨_,func221,by kernel_rfl,by decide⟩ 2 (by omega) Tryz.isAgg122 Tryz.sizeOf122 Yn (fun _=>rfl) (fun x v hv=>by simp [Yn] at hv;rcases hv with rfl | rfl<;>rfl) Dw VT
   (fun x y a b=>by
     rw [Xu] at a b;rcases Go.Geo.lt_tri x y with h | h | h
     . exact absurd h a
     . exact h
     . exact absurd h b) 222 (Go.Proofs.enters_of func222 (by kernel_rfl) rfl) hcmp l h1 (by omega)
 rw [L8,L8] at h;exact h
end Go.Proofs.Tryz
