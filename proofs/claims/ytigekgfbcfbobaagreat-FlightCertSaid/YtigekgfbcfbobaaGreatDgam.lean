/- Own lemmas, used by the last text. Conditions: those that each theorem states. -/
import Derived.Shelf.SlSortCmp.NoneTotal
import Derived.Test.YtigekgfbcfbobaaGreatDgad
import Derived.Test.YtigekgfbcfbobaaGreatDgae
import Derived.Test.YtigekgfbcfbobaaGreatDgaf
import Derived.Test.YtigekgfbcfbobaaGreatDgag
import Derived.Test.YtigekgfbcfbobaaGreatDgah
import Derived.Test.YtigekgfbcfbobaaGreatDgai
import Derived.Test.YtigekgfbcfbobaaGreatDgaj
import Derived.Test.YtigekgfbcfbobaaGreatDgak
import Derived.Test.YtigekgfbcfbobaaGreatDgal
import Derived.Test.YtigekgfbcfbobaaGreatProg
set_option maxRecDepth 200000
set_option maxHeartbeats 8000000
namespace Go.Psl
variable {P:Program} {Γ:Tys} {eqs:Eqs} {E:Ent}
def PWk (P:Program) (Γ:Tys) (eqs:Eqs) (E:Ent):Nat->PC->(Av->St->Prop)->St->Prop
 | 0,p,Q,st=>∃ st',AI P E st st'/\PW P Γ eqs E p Q st'
 | n+1, .seq a b,Q,st=>PW P Γ eqs E a (DP (fun st=>PWk P Γ eqs E n b Q st) Q) st
 | _+1,_,_,_=>False
theorem ADm {p:PC} {Q:Av->St->Prop} {st:St}:PWk P Γ eqs E 0 p Q st=∃ st',AI P E st st'/\PW P Γ eqs E p Q st':=AF rfl
theorem ADn {n:Nat} {a b:PC} {Q:Av->St->Prop} {st:St}:PWk P Γ eqs E (n+1) (.seq a b) Q st=PW P Γ eqs E a (DP (fun st=>PWk P Γ eqs E n b Q st) Q) st:=AF rfl
theorem PWk.sound (hΓ:GOk P Γ) (hE:EB P eqs) (hm:P.follows .mixedOrders=true):∀ (n:Nat) (c:Code) (p:PC),AK E.nt c=some p->∀ (Q:Av->St->Prop) (st:St),PWk P Γ eqs E n p Q st->AW P E c Q st
 | 0,c,p,hc,Q,st,⟨st',hw,h⟩=>AW.weak hw (PW.sound hΓ hE hm c p hc Q st' h)
 | n+1,c,p,hc,Q,st,h=>by
   cases c with
   | seq a b=>
     simp only [AK,Option.bind_eq_some_iff,Option.map_eq_some_iff] at hc;obtain ⟨x,hx,y,hy,rfl⟩:=hc;refine AW.seq (AW.mono (PW.sound hΓ hE hm a x hx _ _ h) fun e st hq=>?_);cases e with
     | normal=>exact PWk.sound hΓ hE hm n b y hy Q st hq
     | _=>exact hq
   | region id ops draw=>
     exfalso;cases draw with
     | false=>
       simp only [AK,Bool.false_eq_true,if_false,Option.ite_none_right_eq_some,Option.some.injEq] at hc;obtain ⟨hd,rfl⟩:=hc;exact h
     | true=>
       simp only [AK,if_true,Option.ite_none_right_eq_some,Option.some.injEq] at hc;obtain ⟨hd,rfl⟩:=hc;revert h;unfold M8;split<;>exact fun h=>h
   | cond c a b=>
     simp only [AK,Option.bind_eq_some_iff,Option.map_eq_some_iff] at hc;obtain ⟨x,hx,y,hy,rfl⟩:=hc;exact False.elim h
   | block id a=>
     simp only [AK,Option.map_eq_some_iff] at hc;obtain ⟨x,hx,rfl⟩:=hc;exact False.elim h
   | loop a=>
     simp only [AK,Option.map_eq_some_iff] at hc;obtain ⟨x,hx,rfl⟩:=hc;exact False.elim h
   | rangeFunc fo ps a b=>
     simp only [AK,Option.bind_eq_some_iff,Option.map_eq_some_iff] at hc;obtain ⟨x,hx,y,hy,rfl⟩:=hc;exact False.elim h
   | skip=>cases hc;exact False.elim h
   | ret=>cases hc;exact False.elim h
   | exit id=>cases hc;exact False.elim h
   | _=>cases hc
theorem Cm.byK {f:FuncId} {fn:Func} {p:PC} {args:List V} {Hin:Hp} {ks:List Nat} {res:Res} {H1:List (Nat × List V)} (n:Nat) (hΓ:GOk P Γ) (hE:EB P eqs) (hm:P.follows .mixedOrders=true) (N:Nat) (hf:P.funcs[f]?= some fn) (hc:fn.body.bind (AK fn.ntmps)=some p) (hname:(fn.name == "runtime.NumGoroutine")=false)
   (hn:args.length<=fn.ntmps) (hcl:∀ v∈args,A2 (· < N) AR v) (hids:H3 N Hin) (hks:∀ i∈ks,i<N) (hri:LD res.v H1) (h:∀ E:Ent,(∀ i,E.stab i↔i∈ks)->E.nt=fn.ntmps/\E.rq->PWk P Γ eqs E n p (Mh Γ fn ks res H1) ⟨Dn 0 args,Hin,N⟩):Cm P f args Hin ks res (lk H1):=by
 cases hb:fn.body with
 | none=>rw [hb] at hc;cases hc
 | some c=>rw [hb] at hc;exact Cm.intro hΓ N hf hb hname hn hcl hids hks hri fun E hE' hs hrd=>PWk.sound hΓ hE hm n c p (by rw [hE'];exact hc) _ _ (h E hs ⟨hE',hrd⟩)
theorem Ct.byK {f:FuncId} {fn:Func} {p:PC} {args:List V} {r:V} {H1:List (Nat × List V)} (n:Nat) (hΓ:GOk P Γ) (hE:EB P eqs) (hm:P.follows .mixedOrders=true) (hf:P.funcs[f]?= some fn) (hc:fn.body.bind (AK fn.ntmps)=some p) (hname:(fn.name == "runtime.NumGoroutine")=false)
   (hn:args.length<=fn.ntmps) (hcl:∀ v∈args,I8 v) (hri:LD r H1) (h:∀ E:Ent,(∀ i,¬ E.stab i)->E.nt=fn.ntmps/\E.rq->PWk P Γ eqs E n p (dL Γ fn r H1) ⟨Dn 0 args,fun _=>none,0⟩):Ct P f args r H1:=
 Cm.byK n hΓ hE hm 0 hf hc hname hn (fun v hv=>A2.mono (fun _ h=>h.elim) (fun _ h=>h) (hcl v hv)) nofun nofun hri fun E hs hn=>h E (fun i hi=>by have:=(hs i).1 hi;cases this) hn
end Go.Psl
namespace Go.Proofs.Tryz
open Go.Psl
open Go.Air
theorem AEF (l:List Shp) (g:FuncId) (ds:List D) (q:Shp->Bool) (hl:l.length<=1000000000) (hg:∀ p∈l,Ct prog g (Cl p (.d (AX p.gas.cs))::ds.map .d) (vb (q p)) []):Ct prog 130 [.d (cD l), .d (.fn g ds)] (vb (l.all q)) []:=by
 refine CB func130 c130 fun E hE=>?_
 simp [p130];refine Al (α:=Nat) (fun i=>⟨AO [(1, .d (.fn g ds)),(7, .d (cD l)),(8,vi l.length),(9,vi i)],lk [],0⟩) (fun i=>i<=l.length/\∀ j,j<i->(l[j]?).all q=true) (fun i=>l.length-i) 0 ?_ ?_ ?_
 . exact ⟨by omega,fun j hj=>by omega⟩
 . exact WK hE (lk [])
 . rintro i ⟨hi,hg3⟩
   have hz:=@wz i (by omega);by_cases h:i<l.length
   . have hI:(i:Int)<l.length:=by omega
     obtain ⟨p,hp⟩:=gE h;simp [ADT,hI,hp,AA];refine CLa (hg p (List.mem_of_getElem? hp)) ?_;cases hq:q p
     . have e:l.all q=false:=by rw [List.all_eq_false];exact ⟨p,List.mem_of_getElem? hp,by simp [hq]⟩
       simp;apply RZ;simp [results130,e]
     . simp [hz]
       refine ⟨i+1,⟨by omega,fun j hj=>?_⟩,by omega,?_⟩
       . by_cases e:j=i
         . subst e;rw [hp];simp [hq]
         . exact hg3 j (by omega)
       . exact WK hE (lk [])
   . have hI:¬ (i:Int)<l.length:=by omega
     have e:l.all q=true:=by
       rw [List.all_eq_true];intro x hx;obtain ⟨j,hj⟩:=List.getElem?_of_mem hx;have:=hg3 j (by have:=(List.getElem?_eq_some_iff.1 hj).1;omega);rw [hj] at this;simpa using this
     simp [ADT,hI];apply RZ;simp [results130,e]
theorem AEG (s:Shp) (h:s.gas.cs.length<=1000000):Ct prog 131 [Cl s (.d (AX s.gas.cs))] (vb (A6 s)) []:=by
 have c1:=qF s (by omega)
 generalize A6 s=b at*
 cases b
 . refine CB func131 AEH fun E hE=>?_
   simp [p131];refine CLa c1 ?_;simp;apply RZ;simp [results131]
 . refine CB func131 AEH fun E hE=>?_
   simp [p131];refine CLa c1 ?_;simp;apply RZ;simp [results131]
def nKS:List Nat:=[2097155,1048579,0,1,2]
def nL (l:List Leg) (s:Shp) (cert:List Shp) (f:Nat->V) (z:LSt) (j:Int):List (Nat × List V):=
 [(2097155,[.lr f 53 [31,32] ACT ACU z]),(1048579,[.d (Bs l)]),(0,shB s),(1,[.d (cD cert)]),(2,[vi j])]
def nT (l:List Leg) (s:Shp) (cert:List Shp) (j:Int):List (Nat × List V):=
 [(1048579,[.d (Bs l)]),(0,shB s),(1,[.d (cD cert)]),(2,[vi j])]
theorem AD4 (l:List Leg) (s:Shp) (cert:List Shp) (f:Nat->V) (z:LSt) (j:Int):nL l s cert f z j=(2097155,[.lr f 53 [31,32] ACT ACU z])::nT l s cert j:=rfl
theorem ADl:nKS=2097155::[1048579,0,1,2]:=rfl
theorem ADC (l:List Leg) (s:Shp) (cert:List Shp) (f:Nat->V) (z:LSt) (j:Int) (hf:∀ t,AV (·∈nKS) AR (f t)):BT nKS [] (nL l s cert f z j):=by
 refine ⟨rfl,by simp [nKS],?_⟩;intro q hq;simp only [nL,List.mem_cons,List.not_mem_nil,or_false] at hq;rcases hq with rfl | rfl | rfl | rfl | rfl
 . exact ⟨by simp,Or.inr ⟨_,_,_,_,_,_,rfl⟩,fun c hc=>by simp at hc;subst hc;exact hf⟩
 rotate_left 1
 . refine ⟨by simp,ADq (Qk s),fun c hc=>?_⟩
   obtain ⟨d,rfl⟩:=(Qk s).2 c hc;exact rfl
 all_goals refine ⟨by simp,Or.inl rfl,fun c hc=>?_⟩
 all_goals simp only [List.mem_cons,List.not_mem_nil,or_false] at hc
 all_goals (subst hc;exact rfl)
theorem ADb (l:List Leg) (s:Shp) (cert:List Shp) (f:Nat->V) (hf:∀ t,AV (·∈nKS) AR (f t)) (f13:f 13= .lp 2 0) (j i m:Nat) (hj:j<=100000):
   Ym prog 2097155 [vi i,vi m] (lk (nL l s cert f .ready j)) nKS (.ret (vb true)) (lk (nL l s cert f .ready (j+1:Nat))):=by
 have hK1:=ADC l s cert f .ready j hf;have hK2:=ADC l s cert f .ready (j+1:Nat) hf
 have hlt:∀ j∈nKS++[],j<10000000:=by
   intro j hj;simp only [nKS,List.mem_append,List.mem_cons,List.not_mem_nil,or_false] at hj;omega
 have hW:∀ z,WC (lk [(2097155,2097155),(1048579,1048579),(0,0),(1,1),(2,2)]) (.lr f 53 [31,32] ACT ACU z) (.lr f 53 [31,32] ACT ACU z):=fun z=>⟨rfl,fun t=>AV.mono (fun j hj=>by simp [nKS] at hj;rcases hj with rfl | rfl | rfl | rfl | rfl<;>simp [lk]) (fun _ h=>h) (hf t)⟩
 have hC:∀ z,Bv [.lr f 53 [31,32] ACT ACU z]:=fun z=>Or.inr ⟨_,_,_,_,_,_,rfl⟩
 have w:=@wz j (by omega);refine Ym.ofX (k:=2097155) (fr:=f) (nt:=53) (ps:=[31,32]) (pa:=ACT) (pb:=ACU) (args:=[vi i,vi m]) (s:= .ready) gok eok mixed 10000000 hK1 hK2 hlt (by simp [nKS]) (by simp [nL]) (by simp) (by simp) (by simp) ?_;refine ⟨fun E hE hs=>?_⟩;unfold nL
 generalize V.lr f 53 [31,32] ACT ACU=rc at hW hC ⊢
 simp [ACT,BD];simp [ACU,f13,AA,w];refine ⟨trivial,by simp,lk [(2097155,2097155),(1048579,1048579),(0,0),(1,1),(2,2)],?_⟩;simp [hW,hC,nKS]
theorem AD5 (IA IC:Nat) (hI:IA≠IC) (hS:SortOk) (k:Sky) (r:Rig) (l:List Leg) (s:Shp) (cert:List Shp) (hl:l.length<=100) (hok:∀ x∈l,BE x=true) (h1:k.s.length<=1000000) (h2:k.w.length<=1000000) (h3:r.reg.length<=1000000) (hk:BV k=true) (hR:CF r=true) (hg:Ey k r=true) (hs:A6 s=true) (hcl:(BN 0 l).length=cert.length) (hco:∀ c∈cert,A6 c=true):
   ∃ q:Int,Cm prog 103 [D2 k r,Cl s (.d (AX s.gas.cs)), .d (Bs l), .cl 132 [.lp IA 0, .lp IC 0]] (lk [(IA,[vi (-1)]),(IC,[.d (cD cert)])]) [IA,IC] (.ret (.tup [Ys (xb k r l (BN 0 l) s cert).2,vi (ACa k r l (BN 0 l) s cert)])) (lk [(IA,[vi q]),(IC,[.d (cD cert)])]):=by
 obtain ⟨q,h⟩:=AEO hS k r l s cert hl hok h1 h2 h3 hk hR hg hs hcl hco;rw [ACd] at h;refine ⟨q,?_⟩;have:=Cm.rename (fun i=>if i=0 then IA else IC) 2 (by intro i j hi hj;split<;>split<;>omega) h (by simp [BW]) (by simp [BW]) (by simp);have hc:HR (fun i=>if i=0 then IA else IC) (V.cl 132 [.lp 0 0, .lp 1 0])= .cl 132 [.lp IA 0, .lp IC 0]:=rfl;simpa [Ea,HW,hc] using this
theorem AD6 (hS:SortOk) (k:Sky) (r:Rig) (s:Shp) (l:List Leg) (cert:List Shp) (h1:k.s.length<=1000000) (h2:k.w.length<=1000000) (h3:r.reg.length<=1000000) (h4:s.gas.cs.length<=1000000) (h5:l.length<=1000000) (h6:∀ x∈l,x.acts.length<=1000000) (hz:¬ JC k r s (C0 l)=0):Ct prog 62 [Eu k,Fj r,Cl s (.d (AX s.gas.cs)), .d (Bs l), .d (cD cert)] (vi (JC k r s (C0 l))) []:=by
 have c1:=qF s (by omega);have c2:=AEM l h5 h6;obtain ⟨a,ha⟩:∃ a:Int,(if A6 s then 0 else 52)=a:=⟨_,rfl⟩
 obtain ⟨b,hb⟩:∃ b:Int,C0 l=b:=⟨_,rfl⟩
 rw [ha] at c1;rw [hb] at c2 hz ⊢;rcases ABc ha hz with ⟨k1,k2⟩ | ⟨k1,k2,k3,k4,k5,k6⟩
 . have c3:=XK hS k r a b h1 h2 h3 k1
   rw [<-k2]
   generalize QG k r a b=e at*
   refine CB func62 c62 fun E hE=>?_
   simp [p62];refine AL [] (by kernel_rfl) ?_;simp [inC,Nat.testBit];refine CLa c1 ?_;simp [inC,Nat.testBit];refine CLa c2 ?_;simp [AA,AM,inC,Nat.testBit];refine CLb (c3) (by simp [Ap,Hcl,inC,Nat.testBit]) ?_;simp [k1];apply RZ;simp [results62]
 . subst k3 k4
   have c3:=XM hS k r h1 h2 h3 k1 k2 k5;rw [k6];refine CB func62 c62 fun E hE=>?_
   simp [p62];refine AL [] (by kernel_rfl) ?_;simp [inC,Nat.testBit];refine CLa c1 ?_;simp [inC,Nat.testBit];refine CLa c2 ?_;simp [AA,AM,inC,Nat.testBit];refine CLb (c3) (by simp [Ap,Hcl,inC,Nat.testBit]) ?_;simp;apply RZ;simp [results62]
theorem ADy (hS:SortOk) (k:Sky) (r:Rig) (s:Shp) (l:List Leg) (cert:List Shp) (h1:k.s.length<=1000000) (h2:k.w.length<=1000000) (h3:r.reg.length<=1000000) (h5:l.length<=1000000) (h6:∀ x∈l,x.acts.length<=1000000) (hcn:cert.length<=100000) (hcs:∀ c∈cert,c.gas.cs.length<=1000000) (hz:JC k r s (C0 l)=0):Ct prog 62 [Eu k,Fj r,Cl s (.d (AX s.gas.cs)), .d (Bs l), .d (cD cert)] (vi (if decide ((cert.length:Int)=Cv l)&&cert.all A6 then ACa k r l (BN 0 l) s cert else 8)) []:=by
 obtain ⟨hk,hR,hs,hb0,hg⟩:=MD hz;obtain ⟨q1,q2,q3⟩:=Tv hb0;have c1:=qF s (by have:=CS (CR hs);omega);have c2:=AEM l h5 h6;rw [hs] at c1;rw [hb0] at c2;have c3:=fd 11534336 hS k r h1 h2 h3 hk hR hg;have hlen:=Kv (i:=0) q2;have c5:=AEF cert 131 [] A6 (by omega) fun c hc=>AEG c (hcs c hc)
 obtain ⟨R,hR'⟩:∃ R,(if decide ((cert.length:Int)=Cv l)&&cert.all A6 then ACa k r l (BN 0 l) s cert else 8)=R:=⟨_,rfl⟩
 rw [hR'];refine Ct.byK 4 gok eok mixed func62 c62 rfl (by simp [ntmps62]) (by simp) (by simp [LD]) fun E hE hE2=>?_
 simp [p62,ADn,ADm];refine AL [(7,11534336)] (by kernel_rfl) ?_;simp [inC,Nat.testBit];refine CLa c1 ?_;simp [inC,Nat.testBit];refine CLa c2 ?_;simp [AA,AM,inC,Nat.testBit];refine CDs c3 (by simp [wrL,inC,Nat.testBit]) ?_;simp [AA];refine ⟨⟨AO [(3, .d (Bs l)),(7, .lp 0 0),(9, .lp 1 0),(11,D2 k r),(13, .lp 2 0)],lk [(0,shB s),(1,[.d (cD cert)]),(2,[vi 0])],3⟩,?_,?_⟩
 . exact WK hE (lk [(0,2097152),(1,3145728),(2,20971520)])
 simp;refine CLa (qu l) ?_;simp;have hnt:E.nt=53:=by rw [hE2.1];exact ntmps62
 rw [<-JI (Γ:=tys) (eqs:=eqs)];obtain ⟨f,hf⟩:∃ f,f=upd (upd (AO [(3, .d (Bs l)),(7, .lp 0 0),(9, .lp 1 0),(11,D2 k r),(13, .lp 2 0)]) 29 (.d (Bs l))) 30 (.cl 205 [.lp 1048579 0]):=⟨_,rfl⟩
 have hfA:∀ t,AV (·∈nKS) AR (f t):=fun t=>by
   rw [hf];simp only [AY];split
   . intro c hc;simp at hc;subst hc;exact (by simp [nKS]:(1048579:Nat)∈nKS)
   split
   . exact trivial
   show AV _ _ ((lk [(3,V.d (Bs l)),(7, .lp 0 0),(9, .lp 1 0),(11,D2 k r),(13, .lp 2 0)] t).getD .junk)
   simp only [lk];split
   . exact trivial
   split
   . exact (by simp [nKS]:(0:Nat)∈nKS)
   split
   . exact (by simp [nKS]:(1:Nat)∈nKS)
   split
   . exact trivial
   split
   . exact (by simp [nKS]:(2:Nat)∈nKS)
   . exact trivial
 have f13:f 13= .lp 2 0:=by rw [hf];simp
 have f30:f 30= .cl 205 [.lp 1048579 0]:=by rw [hf];simp
 have f9:f 9= .lp 1 0:=by rw [hf];simp
 have f7:f 7= .lp 0 0:=by rw [hf];simp
 have f3:f 3= .d (Bs l):=by rw [hf];simp
 have f11:f 11=D2 k r:=by rw [hf];simp
 rw [<-hf];have hlb:(BN 0 l).length<=60000:=by omega
 have hN:∀ i∈nKS,i<1000000000:=by simp [nKS]
 have hX:∀ i:Nat,∀ x∈(fun _:Nat=>([]:List Nat)) i,x<1048576:=fun i x hx=>by simp at hx
 have c:=Jl l (by omega) q2 nKS (fun _=>[]) 2097155 1048579 (BN 0 l).length (fun _=>true) (fun j=>nL l s cert f .ready j) (by simp [nKS]) (by simp [nKS]) hN hX (Nat.le_refl _) (fun j _=>ADC l s cert f .ready j hfA) (fun j _=>⟨f,53,[31,32],ACT,ACU, .ready,by simp [nL],rfl⟩) (fun j _=>by simp [nL]) (fun _ _=>rfl) (Or.inl rfl) (fun j i m hj him=>ADb l s cert f hfA f13 j i m (by omega));obtain ⟨N,hNN⟩:∃ N,(BN 0 l).length=N:=⟨_,rfl⟩
 rw [hNN] at c hlen hlb;have hK0:=ADC l s cert f .ready ((0:Nat):Int) hfA;have hKn:=ADC l s cert f .ready (N:Int) hfA;rw [AD4,AD4,ADl] at c;rw [AD4,ADl] at hK0 hKn;refine E3.keepX (nT l s cert ((0:Nat):Int)) (nT l s cert N) [1048579,0,1,2] [] [] (.tup []) .ready hE2.2 (g:=205) (caps:=[.lp 1048579 0]) (by simp [f30]) (by rw [hnt];exact c) (by rw [hnt];exact hK0) (by rw [hnt];exact hKn) (fun x hx=>by simp at hx) (by simp) (by simp [nT]) (by simp) fun F h1 h2=>?_
 have F0:=h1 (0,_) (by simp [nT];rfl);have F1:=h1 (1,_) (by simp [nT];rfl);have F2:=h1 (2,_) (by simp [nT];rfl);simp [sg,BJ,DS,DR] at F0 F1 F2
 show Ft 0 _ .normal _
 by_cases hcN:(cert.length:Int)=N
 . cases hall:cert.all A6 with
   | false=>
     rw [hall] at c5;have e:R=8:=by rw [<-hR',hall,Bool.and_false,if_neg (by simp)]
     simp [f13,f9,F1,F2,hcN];refine CLa c5 ?_;simp;apply RZ;simp [results62,e]
   | true=>
     rw [hall] at c5;have e:ACa k r l (BN 0 l) s cert=R:=by rw [<-hR',hall,<-hlen,decide_eq_true hcN];rfl
     obtain ⟨q,c6⟩:=AD5 13631491 1 (by omega) hS k r l s cert (by omega) q2 (by omega) (by omega) (by omega) hk hR hg hs (by omega) fun c hc=>List.all_eq_true.1 hall c hc
     rw [e] at c6;simp [f13,f9,F1,F2,hcN];refine CLa c5 ?_;simp [f9,f7,f3,f11,F0,AA];refine CRs c6 (by simp [F1]) ?_;simp;apply RZ;simp [results62]
 . have e:R=8:=by rw [<-hR',<-hlen,decide_eq_false hcN,Bool.false_and,if_neg (by simp)]
   simp [f13,f9,F1,F2,hcN];apply RZ;simp [results62,e]
theorem AFO (hS:SortOk) (k:Sky) (r:Rig) (s:Shp) (l:List Leg) (cert:List Shp) (h1:k.s.length<=1000000) (h2:k.w.length<=1000000) (h3:r.reg.length<=1000000) (h4:s.gas.cs.length<=1000000) (h5:l.length<=1000000) (h6:∀ x∈l,x.acts.length<=1000000) (hcn:cert.length<=100000) (hcs:∀ c∈cert,c.gas.cs.length<=1000000):Ct prog 62 [Eu k,Fj r,Cl s (.d (AX s.gas.cs)), .d (Bs l), .d (cD cert)] (vi (ADh k r s l cert)) []:=by
 unfold ADh;by_cases hz:JC k r s (C0 l)=0
 . rw [if_pos hz]
   exact ADy hS k r s l cert h1 h2 h3 h5 h6 hcn hcs hz
 . rw [if_neg hz]
   exact AD6 hS k r s l cert h1 h2 h3 h4 h5 h6 hz
def B1:Sky:=⟨[⟨0,10000,10000,2800,2800⟩,⟨1000,8850,8853,2800,2800⟩],[⟨0,10,20,0,0,0⟩]⟩
def exReg:List (Int × Int):=[(0, -2000),(200, -2000),(200,2000),(0,2000)]
def DM:Rig:=⟨exReg,50,100,30,100,0,900⟩
def Tg:Plt:=⟨[⟨70,220,0,0,0,0,0⟩],0,220,0,0,0,0,0,0,0⟩
def CZ:Shp:=⟨0,0,0,0,100,100,1000,1000,0,0,0,0,4000,500,0,Tg⟩
def exLeg:Leg:=⟨2,100,100,0,0,40,60,10,20,100,[]⟩
def exA:Shp:=⟨660,720,0,0,140,160,980,990,5,20,10,20,4000,400,100,Tg⟩
def exB:Shp:=⟨1320,1440,0,0,180,220,960,980,10,30,20,40,4000,400,100,Tg⟩
theorem gm:Fb exReg=exReg:=by
 rw [bf (m:=[(0, -2000),(0,2000),(200, -2000),(200,2000)]) (by decide+kernel) (by decide+kernel)];decide+kernel
theorem R8:C7 exReg=true:=by
 unfold C7;rw [gm];decide+kernel
theorem au:BV B1=true:=by decide+kernel
theorem qH:hvA B1 CZ=((0,0),0):=by decide+kernel
theorem Th:A6 CZ=true:=by decide+kernel
theorem lu:CF DM=true:=by
 unfold CF;rw [show DM.reg=exReg from rfl,R8];decide+kernel
def HH:Rig:={DM with hi:=219}
theorem AGC:CF HH=true:=by
 unfold CF;rw [show HH.reg=exReg from rfl,R8];decide+kernel
theorem NX (s h:Int × Int) (hh:(okC (s.1,h.1)&&Lj exReg (s.1,h.1))&&(okC (s.1,h.2)&&Lj exReg (s.1,h.2))&&(okC (s.2,h.1)&&Lj exReg (s.2,h.1))&&(okC (s.2,h.2)&&Lj exReg (s.2,h.2))=true):Il exReg s h=true:=by
 unfold Il inV;rw [R8];simpa using hh
def exT:Shp:={CZ with bal:=400,drp:=100}
theorem aw:Ep CZ exLeg= .ok exT:=NE.2 ⟨by decide+kernel,rfl⟩
theorem gp:KI B1 DM exT exLeg:=⟨by decide+kernel,by decide+kernel,by decide+kernel,by decide+kernel,NX _ _ (by decide+kernel),by decide+kernel,by decide+kernel⟩
theorem AFK:exA=Cj B1 DM exT exLeg:=by kernel_rfl
theorem gr:KI B1 DM exA exLeg:=⟨by decide+kernel,by decide+kernel,by decide+kernel,by decide+kernel,NX _ _ (by decide+kernel),by decide+kernel,by decide+kernel⟩
theorem gt:exB=Cj B1 DM exA exLeg:=by kernel_rfl
theorem gu:KI B1 HH exT exLeg:=⟨by decide+kernel,by decide+kernel,by decide+kernel,by decide+kernel,NX _ _ (by decide+kernel),by decide+kernel,by decide+kernel⟩
theorem gv:exA=Cj B1 HH exT exLeg:=by kernel_rfl
theorem gw:HK B1 HH exA exLeg= .error (54,2,0):=by
 have e:ER B1 HH exA exLeg=(2,0):=by
   unfold ER;rw [if_neg (by decide+kernel),if_pos (by decide+kernel)]
 unfold HK;rw [e,if_neg (by decide)]
theorem AF7 {r:Rig} {s t:Shp} (hb:Ep s exLeg= .ok t) {n:Shp} (h:KI B1 r t exLeg) (hn:n=Cj B1 r t exLeg):FA B1 r exLeg 0 s= .ok n:=Ib.2 ⟨t,by rw [if_pos rfl];exact hb,h,hn⟩
theorem lv:HA B1 DM CZ [exLeg]= .ok [exA,exB]:=by
 have h0:JC B1 DM CZ (C0 [exLeg])=0:=by
   unfold JC;rw [au,lu,Th];decide+kernel
 unfold HA;rw [if_pos h0,show BN 0 [exLeg]=[(0,0),(0,1)] from rfl];exact F5.2 ⟨exLeg,exA,[exB],rfl,AF7 aw gp AFK,F5.2 ⟨exLeg,exB,[],rfl,Ib.2 ⟨exA,by rw [if_neg (by decide)],gr,gt⟩,rfl,rfl⟩,rfl⟩
theorem lz:HA B1 HH CZ [exLeg]= .error (54,2,0,1,0):=by
 have h0:JC B1 HH CZ (C0 [exLeg])=0:=by
   unfold JC;rw [au,AGC,Th];decide+kernel
 have e1:=AF7 aw gu gv;have e2:FA B1 HH exLeg 1 exA= .error (54,2,0):=by unfold FA;rw [if_neg (by decide)];exact gw
 unfold HA;rw [if_pos h0,show BN 0 [exLeg]=[(0,0),(0,1)] from rfl];unfold Dt;rw [show ([exLeg]:List Leg)[0]?= some exLeg from rfl];simp only;rw [e1];simp only;unfold Dt;rw [show ([exLeg]:List Leg)[0]?= some exLeg from rfl];simp only;rw [e2];rfl
theorem ZM (lo hi:Int):Ct prog 51 [vi lo,vi hi] (vsp lo hi) []:=by
 refine CB func51 c51 fun E hE=>?_
 simp [p51,AA];apply RZ;simp [results51]
theorem pT:Ct prog 66 [] (.agg [.ls 0 0 2 5, .ls 1 0 1 6]) [(0,AH A5 B1.s),(1,AH galL B1.w)]:=by
 have sp:=ZM
 show Ct prog 66 [] (.agg [.ls 0 0 2 5, .ls 1 0 1 6]) [(0,[vi 0,vi 10000,vi 10000,vi 2800,vi 2800,vi 1000,vi 8850,vi 8853,vi 2800,vi 2800]),(1,[vi 0,vi 10,vi 20,vi 0,vi 0,vi 0])]
 refine CB func66 c66 fun E hE=>?_
 simp [p66]
 repeat ((first | (refine CLt (sp 10000 10000) ?_ ?_;(focus (simp;done))) | (refine CLt (sp 2800 2800) ?_ ?_;(focus (simp;done))) | (refine CLt (sp 8850 8853) ?_ ?_;(focus (simp;done))) | (refine CLt (sp 10 20) ?_ ?_;(focus (simp;done))));simp [AA,AM])
 refine AB.by (lk [(0,7340032),(1,11534336)]) ?_;simp [results66]
theorem fn66:Ct prog 66 [] (Eu B1) []:=by
 refine Cm.freeze pT ?_;exact ⟨⟨_,rfl,B0 (f:=A5) (fun _=>rfl) (l:=B1.s) (by simp)⟩,⟨_,rfl,B0 (f:=galL) (fun _=>rfl) (l:=B1.w) (by simp)⟩,trivial⟩
theorem pU:Ct prog 67 [] (.agg [.ls 0 0 4 2,vi 50,vi 100,vi 30,vi 100,vi 0,vi 900]) [(0,[vi 0,vi (-2000),vi 200,vi (-2000),vi 200,vi 2000,vi 0,vi 2000])]:=by
 have sp:=ZM;refine CB func67 c67 fun E hE=>?_
 simp [p67,AA,AM]
 repeat ((first | (refine CLt (sp 50 100) ?_ ?_;(focus (simp;done))));simp [AA])
 refine AB.by (lk [(0,5242880)]) ?_;simp [results67]
theorem fn67:Ct prog 67 [] (Fj DM) []:=by
 refine Cm.freeze pU ?_;have z:∀ (H:Hp) (x:Int),FzC H (vi x) (vi x):=fun H x=>⟨_,rfl, .inl rfl⟩
 exact ⟨⟨_,rfl,ay exReg rfl rfl⟩,z _ _,z _ _,z _ _,z _ _,z _ _,z _ _,trivial⟩
theorem km:Ct prog 64 [] (Cl CZ (.ls 0 0 1 7)) [(0,[vi 70,vi 220,vi 0,vi 0,vi 0,vi 0,vi 0])]:=by
 have sp:=ZM
 show Ct prog 64 [] (.agg [vi 0,vi 0,vi 0,vi 0,vi 100,vi 100,vi 1000,vi 1000,vi 0,vi 0,vi 0,vi 0,vi 4000,vi 500,vi 0, .ls 0 0 1 7,vi 0,vi 220,vi 0,vi 0,vi 0,vi 0,vi 0,vi 0,vi 0]) _
 refine CB func64 c64 fun E hE=>?_
 simp [p64]
 repeat ((first | (refine CLt (sp 100 100) ?_ ?_;(focus (simp;done))) | (refine CLt (sp 1000 1000) ?_ ?_;(focus (simp;done))));simp [AA,AM])
 refine AB.by (lk [(0,4194304)]) ?_;simp [results64]
theorem fn64:Ct prog 64 [] (Cl CZ (.d (AX CZ.gas.cs))) []:=by
 refine Cm.freeze km ?_;have z:∀ (H:Hp) (x:Int),FzC H (vi x) (vi x):=fun H x=>⟨_,rfl, .inl rfl⟩
 exact ⟨z _ _,z _ _,z _ _,z _ _,z _ _,z _ _,z _ _,z _ _,z _ _,z _ _,z _ _,z _ _,z _ _,z _ _,z _ _,⟨_,rfl,B0 (f:=AP) Nr (l:=Tg.cs) rfl⟩,z _ _,z _ _,z _ _,z _ _,z _ _,z _ _,z _ _,z _ _,z _ _,trivial⟩
theorem pV:Ct prog 65 [] (.agg [vi 2,vi 100,vi 100,vi 0,vi 0,vi 40,vi 60,vi 10,vi 20,vi 100, .d (.lit (.slice none 0 0))]) []:=by
 have sp:=ZM;refine CB func65 c65 fun E hE=>?_
 simp [p65]
 repeat ((first | (refine CLt (sp 100 100) ?_ ?_;(focus (simp;done))) | (refine CLt (sp 40 60) ?_ ?_;(focus (simp;done))) | (refine CLt (sp 10 20) ?_ ?_;(focus (simp;done))));simp [AA])
 apply RZ;simp [results65]
theorem fn65:Ct prog 65 [] (cF exLeg) []:=by
 refine Cm.freeze pV ?_;have z:∀ (H:Hp) (x:Int),FzC H (vi x) (vi x):=fun H x=>⟨_,rfl, .inl rfl⟩
 exact ⟨z _ _,z _ _,z _ _,z _ _,z _ _,z _ _,z _ _,z _ _,z _ _,z _ _,⟨_,rfl, .inr ⟨rfl,_,rfl⟩⟩,trivial⟩
end Go.Proofs.Tryz
namespace Go.Psl
variable {P:Program}
theorem Cm.give {f:FuncId} {args args':List V} {Hin:Hp} {res:Res} {H1:Hp} (h:Cm P f args (fun _=>none) [] res H1) (hf:AJ (Fz1 Hin) args' args):Cm P f args' Hin [] res H1:=by
 refine ⟨h.1,fun G W xs him hargs hpre=>?_⟩
 have him':∀ b,Jw G Hin b->b<W.heap.size:=fun b hb=>by
   rcases hb with hb | ⟨i,hi,hph,rfl⟩
   . exact him b hb
   . cases hc:Hin i with
     | none=>simp [InH,hc] at hi
     | some cs=>
       rcases hpre.hb i cs hc with ⟨h1,_⟩ | ⟨_,_,_,c,T,h3,_⟩ | ⟨_,_,_,fr,nt,ps,pa,pb,jmp,rec,_,h4,_⟩
       . rw [h1] at hph;cases hph
       . exact (Array.getElem?_eq_some_iff.1 h3).1
       . exact (Array.getElem?_eq_some_iff.1 h4).1
 have hargs':AJ (R2 {G with Im:=Jw G Hin} W) args xs.toList:=AJ.of_get (by rw [<-hf.length,hargs.length]) fun i a x ha hx=>by
   obtain ⟨a',ha',hr⟩:=hf.get2 ha;obtain ⟨y,hy,hry⟩:=hargs.get ha';rw [hx] at hy;cases hy;exact fz1 hpre.hb hr hry
 have hno:∀ b,¬ Bm {G with Im:=Jw G Hin} (fun _=>none) b:=fun b ⟨i,hi,_⟩=>by simp [InH] at hi
 refine Calls.mono (h.2 {G with Im:=Jw G Hin} W xs him' hargs' ⟨fun i cs hc=>(by cases hc),fun i j hi=>(by simp [InH] at hi),fun i hi=>(by cases hi)⟩) fun e W' ⟨G',p⟩=>?_
 refine ⟨G',p.os,p.tape,p.output,p.drawn,p.size,fun b hb _=>p.block b hb (hno b),fun b hb=>?_,fun b hb=>p.im0 b (.inl hb),p.rv,p.wf,fun i cs hc=>?_,p.inj,fun i hi=>(by cases hi)⟩
 . obtain ⟨h1,h2⟩:=p.im b hb
   refine ⟨h1,?_⟩;rcases h2 with (h2 | ⟨i,hi,hph,rfl⟩) | h2 | h2
   . exact .inl h2
   . exact .inr (.inr ⟨i,hi,hph,rfl⟩)
   . exact .inr (.inl h2)
   . exact absurd h2 (hno b)
 . obtain ⟨h1,h2,h3⟩:=p.hb i cs hc
   refine ⟨h1,fun hp=>?_,h3⟩;rcases h2 hp with h2 | h2
   . exact .inl h2
   . exact absurd h2 (hno _)
end Go.Psl
namespace Go.Proofs.Tryz
open Go.Psl
open Go.Air
abbrev lgV (l:Leg):List V:=[vi l.m,vi l.axl,vi l.axh,vi l.ayl,vi l.ayh,vi l.ul,vi l.uh,vi l.bl,vi l.bh,vi l.dr, .d (JZ l.acts)]
theorem ar {l:Leg}:∀ (H:Hp) (b:Nat),H b=some (lgV l)->Bor H (.ls b 0 1 11) (.d (Bs [l])):=fun _ _ hh=>B0 (f:=Pi) (fun _=>rfl) (l:=[l]) hh
theorem fz_d {H:Hp} (d:D):FzC H (.d d) (.d d):=⟨d,rfl,by cases d<;>first | exact Or.inl rfl | rfl⟩
theorem Tf {H:Hp}:∀ ds:List D,AJ (FzC H) (ds.map .d) (ds.map .d)
 | []=>trivial
 | d::ds=>⟨fz_d d,Tf ds⟩
theorem lm {H:Hp} (k:Sky):Fz1 H (Eu k) (Eu k):=Tf [BF k.s,C2 k.w]
theorem ln {H:Hp} (r:Rig):Fz1 H (Fj r) (Fj r):=Tf [An r.reg,di r.gl,di r.gh,di r.tank,di r.rsv,di r.lo,di r.hi]
theorem lq {H:Hp} (s:Shp):Fz1 H (Cl s (.d (AX s.gas.cs))) (Cl s (.d (AX s.gas.cs))):=Tf (Ca s)
theorem gk {H:Hp} {b:Nat} {l:Leg} (h:H b=some (lgV l)):Fz1 H (.ls b 0 1 11) (.d (Bs [l])):=ar H b h
theorem PM {k:Sky} {r:Rig} {s:Shp} {l:Leg} {R:V} (h:Ct prog 45 [Eu k,Fj r,Cl s (.d (AX s.gas.cs)), .d (Bs [l])] R []) (b:Nat):Cm prog 45 [Eu k,Fj r,Cl s (.d (AX s.gas.cs)), .ls b 0 1 11] (lk [(b,lgV l)]) [] (.ret R) (lk []):=
 Cm.give h ⟨lm k,ln r,lq s,gk (by simp [lk]),trivial⟩
theorem fn48 (hS:SortOk):Ct prog 48 [] (vb true) []:=by
 have sp:=ZM;have e1:=fn66;have e2:=fn67;have e3:=fn64;have e4:=fn65;have d1:=fn21 B1 CZ (by decide) (by decide) (by decide);have d2:=mL hS B1 DM CZ [exLeg] (by decide) (by decide) (by decide) (by decide) (by decide) (by decide);have d3:=mL hS B1 HH CZ [exLeg] (by decide) (by decide) (by decide) (by decide) (by decide) (by decide);rw [qH] at d1;rw [lv] at d2;rw [lz] at d3;simp only [AFC,Lp,F6] at d2 d3;have d3:Cm prog 45 [Eu B1, .agg [.d (An DM.reg),vi DM.gl,vi DM.gh,vi DM.tank,vi DM.rsv,vi DM.lo,vi 219],Cl CZ (.d (AX CZ.gas.cs)), .ls 34603008 0 1 11] (lk [(34603008,lgV exLeg)]) [] _ _:=PM d3 34603008;refine CB func48 c48 fun E hE=>?_
 simp [p48]
 repeat ((first | (refine CLt e1 ?_ ?_;focus (simp;done)) | (refine CLt e2 ?_ ?_;focus (simp;done)) | (refine CLt e3 ?_ ?_;focus (simp;done)) | (refine CLt e4 ?_ ?_;focus (simp;done)) | (refine CLt d1 ?_ ?_;focus (simp;done)));simp [AA,AM])
 refine CRs (PM d2 14680064) (by simp) ?_;simp [AA]
 repeat ((first | (refine CLt e1 ?_ ?_;focus (simp;done)) | (refine CLt e2 ?_ ?_;focus (simp;done)) | (refine CLt e3 ?_ ?_;focus (simp;done)) | (refine CLt e4 ?_ ?_;focus (simp;done)));simp [AA])
 refine AL [(5,34603008),(12,40894464)] (by kernel_rfl) ?_;simp [inC,Nat.testBit];refine CLa e1 ?_;simp [inC,Nat.testBit];refine CLa e3 ?_;simp [inC,Nat.testBit];refine CLa e4 ?_;simp [AA,AM,inC,Nat.testBit];refine CDs d3 (by simp [wrL,inC,Nat.testBit]) ?_;simp [AA,inC,Nat.testBit];refine CLa (sp 0 0) ?_;simp [AA,inC,Nat.testBit,ev0];refine AL [(8,82837504)] (by kernel_rfl) ?_;simp [AA,inC,Nat.testBit]
 repeat ((first | (refine CLt (sp 660 720) ?_ ?_;(focus (simp;done))) | (refine CLt (sp 0 0) ?_ ?_;(focus (simp;done))) | (refine CLt (sp 140 160) ?_ ?_;(focus (simp;done))) | (refine CLt (sp 980 990) ?_ ?_;(focus (simp;done))) | (refine CLt (sp 5 20) ?_ ?_;(focus (simp;done))) | (refine CLt (sp 10 20) ?_ ?_;(focus (simp;done))) | (refine CLt (sp 1320 1440) ?_ ?_;(focus (simp;done))) | (refine CLt (sp 180 220) ?_ ?_;(focus (simp;done))) | (refine CLt (sp 960 980) ?_ ?_;(focus (simp;done))) | (refine CLt (sp 10 30) ?_ ?_;(focus (simp;done))) | (refine CLt (sp 20 40) ?_ ?_;(focus (simp;done))));simp [inC,Nat.testBit,exA,exB])
 apply RZ;simp [results48]
theorem iT {k:Sky} {r:Rig} {s:Shp} {l:List Leg} {e:Int × Evt} (h:HA k r s l= .error e):¬ e.1=0:=by
 unfold HA at h;split at h
 . rename_i hz
   exact (NF (fun p hp=>by
     obtain ⟨x,_,h,_⟩:=ax hp;exact ⟨x,by simpa using h⟩) h).1
 . rename_i hz;cases h;exact hz
theorem cj {k:Sky} {r:Rig} {s:Shp} {l:List Leg} {ns:List Shp} (h:HA k r s l= .ok ns):Va k r/\A6 s=true/\(∀ x∈l,BE x=true)/\(l.length<=20/\Cv l<=600)/\CF r=true/\Dt k r l (BN 0 l) s= .ok ns:=by
 unfold HA at h;split at h
 . rename_i hz
   obtain ⟨h1,h2,h3,h4,h5⟩:=MD hz;obtain ⟨q1,q2,q3⟩:=Tv h4;exact ⟨⟨h1,Hy h2,h5⟩,h3,q2,⟨q1,q3⟩,h2,h⟩
 . cases h
theorem AFB {k:Sky} {r:Rig} {s:Shp} {l:List Leg} {cert:List Shp} (h:ADh k r s l cert=0):JC k r s (C0 l)=0/\(cert.length:Int)=Cv l/\cert.all A6=true/\ACa k r l (BN 0 l) s cert=0:=by
 unfold ADh at h;by_cases hz:JC k r s (C0 l)=0
 . rw [if_pos hz] at h
   cases h1:(decide ((cert.length:Int)=Cv l)&&cert.all A6) with
   | false=>rw [h1] at h;simp at h
   | true=>
     rw [h1] at h;simp only [Bool.and_eq_true,decide_eq_true_eq] at h1;exact ⟨hz,h1.1,h1.2,by simpa using h⟩
 . rw [if_neg hz] at h;exact absurd h hz
theorem AET {k:Sky} {r:Rig} {s:Shp} {l:List Leg} {cert:List Shp} (h:ADh k r s l cert=0):∃ ns,HA k r s l= .ok ns/\fR ns cert/\∀ c∈cert,A6 c=true:=by
 obtain ⟨hz,h1,h2,h3⟩:=AFB h;obtain ⟨hk,hR,hs,hb0,hg⟩:=MD hz;obtain ⟨q1,q2,q3⟩:=Tv hb0;have hlen:=Kv (i:=0) q2;have hco:=List.all_eq_true.1 h2;obtain ⟨ss,e1,e2⟩:=AE5 ⟨hk,Hy hR,hg⟩ q2 hs hs (dI.refl s) hco (by omega) h3;exact ⟨ss,by unfold HA;rw [if_pos hz];exact e1,e2,hco⟩
theorem AFL {k:Sky} {r:Rig} {s:Shp} {l:List Leg} {ns:List Shp} (h:HA k r s l= .ok ns):ADh k r s l ns=0:=by
 obtain ⟨hT,hs,hl,⟨l1,l2⟩,hR,hK⟩:=cj h
 have hz:JC k r s (C0 l)=0:=by
   by_cases hz:JC k r s (C0 l)=0
   . exact hz
   . unfold HA at h;rw [if_neg hz] at h;cases h
 have hlen:=TM hK;have hml:=Kv (i:=0) hl;have hok:=ZD hT hl hs hK;unfold ADh;rw [if_pos hz,decide_eq_true (by omega:(ns.length:Int)=Cv l),List.all_eq_true.2 hok];simp [AEV hK]
theorem fn16 (hS:SortOk) (k:Sky) (r:Rig) (s:Shp) (l:List Leg) (cert:List Shp):Ct prog 16 [Eu k,Fj r,Cl s (.d (AX s.gas.cs)), .d (Bs l), .d (cD cert)] (vb true) []:=by
 have d0:=fn48 hS;have d1:=fn29 k r s l;by_cases hn:(80:Int)<cert.length
 . cases hg:grA k r s l
   all_goals
     rw [hg] at d1;refine CB func16 c16 fun E hE=>?_
     simp [p16];refine CLa d0 ?_;simp;refine CLa d1 ?_;simp [hn];apply RZ;simp [results16]
 cases hg:grA k r s l
 case true=>
   rw [hg] at d1;refine CB func16 c16 fun E hE=>?_
   simp [p16];refine CLa d0 ?_;simp;refine CLa d1 ?_;simp;apply RZ;simp [results16]
 rw [hg] at d1;obtain ⟨⟨g1,g2⟩,g3,g4,g5,g6⟩:=l0 hg;refine CB func16 c16 fun E hE=>?_
 simp [p16];refine CLa d0 ?_;simp;refine CLa d1 ?_;simp [hn];refine Al (α:=Nat) (fun i=>⟨AO [(3, .d (Bs l)),(4, .d (cD cert)),(5, .lp 0 0),(6, .lp 1 0),(7, .lp 2 0),(11,vb true),(37,vi cert.length),(38,vi i)],lk [(0,[.d (BF k.s), .d (C2 k.w)]),(1,[.d (An r.reg),vi r.gl,vi r.gh,vi r.tank,vi r.rsv,vi r.lo,vi r.hi]),(2,shB s)],3⟩) (fun i=>i<=cert.length/\∀ j c,j<i->cert[j]?= some c->c.gas.cs.length<=20) (fun i=>cert.length-i) 0 ?_ ?_ ?_
 . exact ⟨by omega,fun j c h=>absurd h (by omega)⟩
 . exact WK hE (lk [(0,0),(1,1048576),(2,2097152)])
 . rintro i ⟨hi,hall⟩
   by_cases h:i<cert.length
   . obtain ⟨c,hc⟩:=gE h
     have hI:(i:Int)<cert.length:=by omega
     have hz:=@wz i (by omega);have cG:=AEB c;cases hb:decide (20<c.gas.cs.length) with
     | true=>
       rw [hb] at cG;simp [AES,hI,hc];refine CLa cG ?_;simp;apply RZ;simp [results16]
     | false=>
       rw [hb] at cG;simp only [decide_eq_false_iff_not] at hb;simp [AES,hI,hc];refine CLa cG ?_;simp [hz];refine ⟨i+1,⟨by omega,fun j c' hj hc'=>?_⟩,by omega,?_⟩
       . by_cases e:j=i
         . subst e;rw [hc] at hc';cases hc';omega
         . exact hall j c' (by omega) hc'
       . exact WK hE (lk [(0,0),(1,1),(2,2)])
   . have hI:¬ (i:Int)<cert.length:=by omega
     have hcs:∀ c∈cert,c.gas.cs.length<=20:=fun c hc=>by
       obtain ⟨j,hj⟩:=List.getElem?_of_mem hc;have:=(List.getElem?_eq_some_iff.1 hj).1;exact hall j c (by omega) hj
     have d2:=mL hS k r s l (by omega) (by omega) (by omega) (by omega) (by omega) fun x hx=>by have:=g6 x hx;omega
     have a1:=AFO hS k r s l cert (by omega) (by omega) (by omega) (by omega) (by omega) (fun x hx=>by have:=g6 x hx;omega) (by omega) (fun c hc=>by have:=hcs c hc;omega);cases hf:HA k r s l with
     | error e=>
       have he:=iT hf
       have hA:¬ ADh k r s l cert=0:=fun h0=>by
         obtain ⟨ns,e1,_⟩:=AET h0;rw [hf] at e1;cases e1
       rw [hf] at d2;simp only [AFC,Lp,F6] at d2
       generalize ADh k r s l cert=A at*
       simp [AES,hI];refine CLa d2 ?_;simp [AA];refine CLa a1 ?_;simp [he,hA];apply RZ;simp [results16]
     | ok ns=>
       rw [hf] at d2;simp only [AFC,Lp,F6] at d2;obtain ⟨hT,hs,hl,⟨l1,l2⟩,hR,hK⟩:=cj hf;have hlen:=TM hK;have hml:=Kv (i:=0) hl;have hok:=ZD hT hl hs hK;have hnl:ns.length<=600:=by omega
       have a2:=AFO hS k r s l ns (by omega) (by omega) (by omega) (by omega) (by omega) (fun x hx=>by have:=g6 x hx;omega) (by omega) (fun c hc=>by have:=CS (CR (hok c hc));omega);rw [AFL hf] at a2;by_cases hA:ADh k r s l cert=0
       . obtain ⟨ns',e1,e2,e3⟩:=AET hA
         rw [hf] at e1;cases e1;obtain ⟨e4,e5⟩:=e2.at;rw [hA] at a1;simp [AES,hI];refine CLa d2 ?_;simp [AA];refine CLa a1 ?_;simp;refine CLa a2 ?_;simp [e4];refine Al (α:=Nat) (fun i=>⟨AO [(4, .d (cD cert)),(11,vb true),(13, .d (cD ns)),(86,vi cert.length),(87,vi i)],lk [],0⟩) (fun i=>i<=cert.length) (fun i=>cert.length-i) 0 ?_ ?_ ?_
         . omega
         . exact WK hE (lk [])
         . intro j hj
           by_cases hjl:j<cert.length
           . obtain ⟨c,hc⟩:=gE hjl
             obtain ⟨n,hn'⟩:∃ n,ns[j]?= some n:=⟨_,List.getElem?_eq_getElem (by omega)⟩
             have hjI:(j:Int)<cert.length:=by omega
             have hjN:(j:Int)<ns.length:=by omega
             have hz:=@wz j (by omega);have hno:=hok n (List.mem_of_getElem? hn');have hco:=e3 c (List.mem_of_getElem? hc);have cH:=fn30 c n (by have:=CS (CR hco);omega) (by have:=CS (CR hno);omega)
             have hh:AEs c n=(true,0):=by
               unfold AEs;rw [hco,hno,AEU.2 (e5 j n c hn' hc)];rfl
             rw [hh] at cH;simp [AFA,hjI,hc,hn',inC,Nat.testBit];refine CLa cH ?_;simp [hz];refine ⟨j+1,by omega,by omega,?_⟩;exact WK hE (lk [])
           . have hjI:¬ (j:Int)<cert.length:=by omega
             simp [AFA,hjI];apply RZ;simp [results16]
       . generalize ADh k r s l cert=A at*
         simp [AES,hI];refine CLa d2 ?_;simp [AA];refine CLa a1 ?_;simp;refine CLa a2 ?_;simp [hA];apply RZ;simp [results16]
end Go.Proofs.Tryz
namespace Go.Psl
open Go.Shelf Go.RowKit Go.Lib Go.Sort
variable {P:Program} {ρ:Ren} {α:Type} [Inhabited α]
theorem dJ {W W':World} (hos:W'.os=W.os) (hta:W'.tape=W.tape) (hou:W'.output=W.output) (hdr:W.drawn<=W'.drawn) (hsz:W.heap.size<=W'.heap.size) (hb:∀ b,b<W.heap.size->W'.heap[b]?= W.heap[b]?):
   ∃ q os',W'=grow (W.drewN q) os':=by
 refine ⟨W'.drawn-W.drawn,W'.heap.extract W.heap.size W'.heap.size,?_⟩;obtain ⟨h,t,d,o,u⟩:=W;obtain ⟨h',t',d',o',u'⟩:=W';simp only at hos hta hou hdr hsz hb;subst hos hta hou;simp only [grow,World.drewN];congr 1
 . apply Array.ext_getElem?
   intro i;by_cases hi:i<h.size
   . rw [Array.getElem?_append_left hi,hb i hi]
   . rw [Array.getElem?_append_right (by omega),Array.getElem?_extract]
     split
     . congr 1;omega
     . rw [Array.getElem?_eq_none (by omega)]
 . omega
theorem Mg {enc:α->List Value} {k:Nat} (h0:0<k) (hk:∀ x,(enc x).length=k) (l:List α) (j:Nat) (hj:j<l.length*k):(l.flatMap enc)[j]?= some (flatK enc k l.toArray)[j]! :=by
 rw [get_flatK _ _ _ _ (by simpa using hj),List.flatMap_def,CI h0 _ (fun e he=>by obtain ⟨x,_,rfl⟩:=List.mem_map.1 he;exact hk x)];have h1:j/k<l.length:=by rw [Nat.div_lt_iff_lt_mul h0];exact hj
 have hm:j%k<k:=Nat.mod_lt _ h0;rw [List.getElem?_map,List.getElem?_eq_getElem h1];simp only [Option.map_some,Option.bind_some];have e1:l.toArray[j/k]! =l[j/k]:=by rw [getElem!_pos _ _ (by simpa using h1)];simp
 rw [e1,List.getElem?_eq_getElem (by rw [hk];exact hm),getElem!_pos _ _ (by rw [hk];exact hm)]
omit [Inhabited α] in
theorem N2 {enc:α->List Value} {k:Nat} (hk:∀ x,(enc x).length=k) (l:List α):(l.flatMap enc).length=l.length*k:=by
 rw [List.flatMap_def,B3 (sz:=k) _ (fun e he=>by obtain ⟨x,_,rfl⟩:=List.mem_map.1 he;exact hk x),List.length_map]
theorem Wo {G:Gh} {W:World} {vs:List Value} (h:∀ v∈vs,CU v=true):AJ (R1 G W) (vs.map cV) vs:=by
 induction vs with
 | nil=>trivial
 | cons v vs ih=>exact ⟨RD.lit v (h v (by simp)),ih fun x hx=>h x (by simp [hx])⟩
theorem P6 {g:Nat} {enc:α->List Value} {k:Nat} {cf:α->α->Int} (hflat:∀ x,∀ v∈enc x,CU v=true) (hcmp:∀ x y,Ct P g [.agg ((enc x).map cV), .agg ((enc y).map cV)] (.d (.lit (.int .i64 (cf x y)))) []) (blk off size:Nat) (w:World):Go.Proofs.CmpLays P g #[] enc k cf blk off size w:=by
 intro m os dk _ x y;refine ((hcmp x y).2 ⟨fun _=>0,fun _=>0,fun _=>true,fun _=>true,fun _=>False⟩ _ #[.agg (enc x).toArray, .agg (enc y).toArray] (fun _ h=>h.elim) ⟨⟨_,rfl,Wo (hflat x)⟩,⟨_,rfl,Wo (hflat y)⟩,trivial⟩ ⟨nofun,fun i _ h=>by simp [InH] at h,nofun⟩).mono fun e W' ⟨G',hp⟩=>?_
 refine ⟨?_,dJ hp.os hp.tape hp.output hp.drawn hp.size fun b hb=>hp.block b hb fun ⟨_,h,_⟩=>by simp [InH] at h⟩;cases e with
 | returned v=>rw [Cg hp.rv]
 | _=>exact hp.rv.elim
theorem N3 (L:Go.Proofs.SlLaysF0.n6 P ρ) (hf:fF P (ρ.f 6)) (k:Nat) (h0:0<k) (aE:∀ w,(isAgg (ρ.t 24)).run P w= .ok true w) (zE:∀ w,(Go.sizeOf (ρ.t 24)).run P w= .ok k w) (enc:α->List Value) (hk:∀ x,(enc x).length=k) (hflat:∀ x,∀ v∈enc x,CU v=true) (cf:α->α->Int) (hO:SWO (Go.Proofs.ltOf cf)) (hT:∀ x y,(Go.Proofs.ltOf cf) x y=false->(Go.Proofs.ltOf cf) y x=false->x=y)
   (g:Nat) (eg:∀ args w,(callFunc g args).run P w= .ok (.enter g args) w) (hcmp:∀ x y,Ct P g [.agg ((enc x).map cV), .agg ((enc y).map cV)] (.d (.lit (.int .i64 (cf x y)))) []) (l:List α) (hl0:0<l.length) (hsz:l.length<4611686018427387904):
   Cm P (ρ.f 6) [.ls 0 0 l.length k, .d (.fn g [])] (lk [(0,(l.flatMap enc).map cV)]) [0] (.ret (.tup [])) (lk [(0,((l.mergeSort fun x y=>!(Go.Proofs.ltOf cf) y x).flatMap enc).map cV)]):=by
 refine ⟨hf,fun G W xs hGW hargs hpre=>?_⟩
 obtain ⟨v1,v2,rfl⟩:∃ v1 v2,xs= #[v1,v2]:=by
   have:=hargs.length;obtain ⟨xs⟩:=xs
   match xs,this with
   | [a,b],_=>exact ⟨a,b,rfl⟩
   | [],h=>simp at h
   | [_],h=>simp at h
   | _::_::_::_,h=>simp at h
 obtain ⟨h1,h2,_⟩:=hargs;obtain ⟨hIn,hph⟩:=hpre.st 0 (by simp);obtain ⟨hml,⟨_,h,_⟩ | ⟨hphl,o,cap,rfl,hcap,ho⟩⟩:=h1
 . omega
 obtain ⟨rfl,hbs0⟩:=ho (by omega)
 obtain ⟨cv,rfl,hcv⟩:∃ cv,v2= .func (.func g) #[] cv/\cv.size=0:=by
   cases h2 with
   | fn _ _ cv hl _=>exact ⟨cv,rfl,hl⟩
 obtain rfl:cv= #[]:=Array.eq_empty_of_size_eq_zero hcv;have hHB:=hpre.hb 0 _ rfl;obtain ⟨hnim,c,T,hb,hbs,hcl,hcr,hca⟩:=hHB.read hphl;have hblk:G.β 0<W.heap.size:=(Array.getElem?_eq_some_iff.1 hb).1;have hfl:=N2 hk l;rw [List.length_map,hfl] at hcl hcr
 have hcell:∀ j,j<l.length*k->c[j]?= some (flatK enc k l.toArray)[j]! :=fun j hj=>by
   have h3:=Mg h0 hk l j hj;have h4:((l.flatMap enc).map cV)[j]?= some (cV (flatK enc k l.toArray)[j]!):=by rw [List.getElem?_map,h3];rfl
   obtain ⟨x,hx,hr⟩:=hcr.get h4;rw [List.getElem?_take,if_pos hj,Array.getElem?_toList] at hx;rw [hx,BO hr.r2.rv]
 have hH:HoldsK enc k W (G.β 0) 0 l.toArray:=fun j hj=>by
   have hj':j<l.length*k:=by simpa using hj
   refine ⟨?_,?_⟩
   . unfold World.cell?
     simp only [Nat.zero_add,hb,Option.isSome_none,Bool.false_eq_true,if_false];exact hcell j hj'
   . unfold World.frozen?
     simp [hb]
 have h1c:∀ x,∀ v∈enc x,v.oneCell'=true:=fun x v hv=>RD.oneCell (Im:=fun _=>True) (W:=W) (RD.lit v (hflat x v hv))
 have key:=Go.Proofs.AnyQ.slices_SortFunc_total L k aE zE enc hk h1c cf hO g #[] (G.β 0) 0 cap l.toArray W eg (P6 hflat hcmp _ _ _ _) hH hblk (by simpa using hsz) hT;have hperm:(l.mergeSort fun x y=>!(Go.Proofs.ltOf cf) y x).length=l.length:=List.length_mergeSort _
 generalize (l.mergeSort fun x y=>!(Go.Proofs.ltOf cf) y x)=l' at key hperm ⊢
 have key':Calls P (ρ.f 6) #[.slice (some ⟨G.β 0,0,none⟩) l.length cap, .func (.func g) #[] #[]] W fun e w'=>e= .returned (.tuple #[])/\∃ n os,w'=Go.Proofs.sortWorldK enc k W (G.β 0) 0 n l'.toArray os:=by simpa using key
 refine key'.mono fun e W' ⟨he,n,os,hW'⟩=>?_
 subst he
 have hlent:∀ b,Bm G (lk [(0,(l.flatMap enc).map cV)]) b->b=G.β 0:=fun b ⟨i,hi,_,hbi⟩=>by
   have:i=0:=by simp only [InH,lk] at hi;split at hi;assumption;cases hi
   rw [<-hbi,this]
 have hlent0:Bm G (lk [(0,(l.flatMap enc).map cV)]) (G.β 0):=⟨0,hIn,hph,rfl⟩
 have hheap:∀ b,b<W.heap.size->W'.heap[b]?= if b=G.β 0 then some (.cells (putCells id 0 (flatK enc k l'.toArray) c) T (0,0)) else W.heap[b]?:= fun b hlt=>by
   rw [hW']
   show ((putRow id (Sort.ahead W n) (G.β 0) 0 (flatK enc k l'.toArray)).heap++os)[b]?= _
   rw [Array.getElem?_append_left (by simpa using hlt)]
   show (W.heap.modify (G.β 0) _)[b]?= _
   rw [Array.getElem?_modify];by_cases e:b=G.β 0
   . subst e
     simp [hb,onCells]
   . rw [if_neg (fun h=>e h.symm),if_neg e]
 have hsz':W.heap.size<=W'.heap.size:=by rw [hW'];exact Go.Proofs.size_sortWorldK_c enc k W (G.β 0) 0 n l'.toArray os
 refine ⟨G,⟨by rw [hW'];rfl,by rw [hW'];rfl,by rw [hW'];rfl,by rw [hW'];exact Nat.le_add_right _ _,hsz',fun b hlt hn=>?_,fun b hb=>⟨Nat.lt_of_lt_of_le (hGW b hb) hsz', .inl hb⟩,fun _ h=>h,⟨#[],rfl,trivial⟩,fun _ h=>(by cases h),fun i cs hi=>?_,fun i j hi hj _ _ _=>?_,fun i hi _=>⟨rfl,rfl,(hpre.st i hi).2,rfl⟩⟩⟩
 . rw [hheap b hlt,if_neg (fun e:b=G.β 0=>hn (by rw [e];exact hlent0))]
 . have hi0:i=0/\cs=(l'.flatMap enc).map cV:=by
     simp only [lk] at hi;split at hi
     . rename_i e;cases hi;exact ⟨e,rfl⟩
     . cases hi
   obtain ⟨rfl,rfl⟩:=hi0;have hfl':=N2 hk l';refine ⟨.inr (.inl ⟨hphl.1,hphl.2,hnim,_,T,by rw [hheap _ hblk,if_pos rfl],by simp [putCells,hbs],by simp [putCells,hfl',hperm];exact hcl,?_,?_⟩),fun _=> .inr hlent0,fun x hx=>?_⟩
   . refine AJ.of_get ?_ fun j x y hx hy=>?_
     . simp [putCells,hfl',hperm];omega
     . have hj:j<l'.length*k:=by
         have:=(List.getElem?_eq_some_iff.1 hx).1;simpa [hfl'] using this
       rw [List.getElem?_map,Mg h0 hk l' j hj] at hx;cases hx;rw [List.getElem?_take,List.length_map,hfl',if_pos hj,Array.getElem?_toList] at hy;have hjc:j<c.size:=by rw [hperm] at hj;omega
       simp only [putCells,Array.getElem?_mapIdx,Array.getElem?_eq_getElem hjc,Option.map_some,Nat.zero_le,true_and,Nat.zero_add,size_flatK,List.size_toArray,hj,if_true,Option.some.injEq,Nat.sub_zero,id] at hy;subst hy;have hm:=Mg h0 hk l' j hj;have hmem:=List.mem_of_getElem? hm;obtain ⟨a,_,ha⟩:=List.mem_flatMap.1 hmem;exact RD.lit _ (hflat a _ ha)
   . simp only [List.all_map,List.all_eq_true]
     intro v _;rfl
   . obtain ⟨v,_,rfl⟩:=List.mem_map.1 hx
     trivial
 . have e1:i=0:=by simp only [InH,lk] at hi;split at hi;assumption;cases hi
   have e2:j=0:=by simp only [InH,lk] at hj;split at hj;assumption;cases hj
   rw [e1,e2]
end Go.Psl
namespace Go.Proofs
def Tryz.sortL_ren:Go.Shelf.Ren:=⟨fun | 6=>221 | 15=>270 | 14=>269 | 28=>300 | 29=>301 | 20=>292 | 21=>293 | 22=>294 | 23=>295 | 24=>296 | 25=>297 | 26=>298 | 27=>299 | 46=>312 | 47=>313 | 48=>314 | 49=>315 | 50=>316 | 57=>318 | n=>n,fun | 22=>55 | 24=>122 | 25=>275 | 3=>3 | 39=>222 | 0=>0 | 53=>339 | 55=>341 | 4=>4 | 46=>333 | 45=>332 | 50=>266 | 5=>5 | 9=>9 | 66=>348 | 70=>352 | 76=>356 | 77=>50 | n=>n,fun | n=>n⟩
theorem Tryz.sortL:Go.Proofs.SlLaysF0.n6 Tryz.prog Tryz.sortL_ren:={
 mixed:=by kernel_rfl,
 f6:=⟨Tryz.f221.name,by decide,Tryz.func221.trans (congrArg some (by kernel_rfl))⟩,
 f14:=⟨Tryz.f269.name,by decide,Tryz.func269.trans (congrArg some (by kernel_rfl))⟩,
 f15:=Tryz.func270.trans (congrArg some (by kernel_rfl)),
 f20:=⟨Tryz.f292.name,by decide,Tryz.func292.trans (congrArg some (by kernel_rfl))⟩,
 f21:=⟨Tryz.f293.name,by decide,Tryz.func293.trans (congrArg some (by kernel_rfl))⟩,
 f22:=⟨Tryz.f294.name,by decide,Tryz.func294.trans (congrArg some (by kernel_rfl))⟩,
 f23:=⟨Tryz.f295.name,by decide,Tryz.func295.trans (congrArg some (by kernel_rfl))⟩,
 f24:=⟨Tryz.f296.name,by decide,Tryz.func296.trans (congrArg some (by kernel_rfl))⟩,
 f25:=⟨Tryz.f297.name,by decide,Tryz.func297.trans (congrArg some (by kernel_rfl))⟩,
 f26:=⟨Tryz.f298.name,by decide,Tryz.func298.trans (congrArg some (by kernel_rfl))⟩,
 f27:=⟨Tryz.f299.name,by decide,Tryz.func299.trans (congrArg some (by kernel_rfl))⟩,
 f28:=Tryz.func300.trans (congrArg some (by kernel_rfl)),
 f29:=Tryz.func301.trans (congrArg some (by kernel_rfl)),
 f46:=⟨Tryz.f312.name,by decide,Tryz.func312.trans (congrArg some (by kernel_rfl))⟩,
 f47:=Tryz.func313.trans (congrArg some (by kernel_rfl)),
 f48:=Tryz.func314.trans (congrArg some (by kernel_rfl)),
 f49:=⟨Tryz.f315.name,by decide,Tryz.func315.trans (congrArg some (by kernel_rfl))⟩,
 f50:=⟨Tryz.f316.name,by decide,Tryz.func316.trans (congrArg some (by kernel_rfl))⟩,
 f57:=⟨Tryz.f318.name,by decide,Tryz.func318.trans (congrArg some (by kernel_rfl))⟩,
 t0:=Tryz.underlying0,
 a0:=Tryz.isAgg0,
 z0:=Tryz.sizeOf0,
 v0:=Tryz.zeroValue0,
 t3:=Tryz.underlying3,
 a3:=Tryz.isAgg3,
 z3:=Tryz.sizeOf3,
 v3:=Tryz.zeroValue3,
 t4:=Tryz.underlying4,
 a4:=Tryz.isAgg4,
 z4:=Tryz.sizeOf4,
 v4:=Tryz.zeroValue4,
 t5:=Tryz.underlying5,
 a5:=Tryz.isAgg5,
 z5:=Tryz.sizeOf5,
 v5:=Tryz.zeroValue5,
 t9:=Tryz.underlying9,
 a9:=Tryz.isAgg9,
 z9:=Tryz.sizeOf9,
 v9:=Tryz.zeroValue9,
 t22:=Tryz.underlying55,
 a22:=Tryz.isAgg55,
 z22:=Tryz.sizeOf55,
 v22:=Tryz.zeroValue55,
 t25:=Tryz.underlying275,
 a25:=Tryz.isAgg275,
 z25:=Tryz.sizeOf275,
 v25:=Tryz.zeroValue275,
 t39:=Tryz.underlying222,
 a39:=Tryz.isAgg222,
 z39:=Tryz.sizeOf222,
 v39:=Tryz.zeroValue222,
 t45:=Tryz.underlying332,
 a45:=Tryz.isAgg332,
 z45:=Tryz.sizeOf332,
 v45:=Tryz.zeroValue332,
 t46:=Tryz.underlying333,
 a46:=Tryz.isAgg333,
 z46:=Tryz.sizeOf333,
 v46:=Tryz.zeroValue333,
 t50:=Tryz.underlying266,
 a50:=Tryz.isAgg266,
 z50:=Tryz.sizeOf266,
 v50:=Tryz.zeroValue266,
 t53:=Tryz.underlying339,
 a53:=Tryz.isAgg339,
 z53:=Tryz.sizeOf339,
 v53:=Tryz.zeroValue339,
 t55:=Tryz.underlying341,
 a55:=Tryz.isAgg341,
 z55:=Tryz.sizeOf341,
 v55:=Tryz.zeroValue341,
 t66:=Tryz.underlying348,
 a66:=Tryz.isAgg348,
 z66:=Tryz.sizeOf348,
 v66:=Tryz.zeroValue348,
 t70:=Tryz.underlying352,
 a70:=Tryz.isAgg352,
 z70:=Tryz.sizeOf352,
 v70:=Tryz.zeroValue352,
 t76:=Tryz.underlying356,
 a76:=Tryz.isAgg356,
 z76:=Tryz.sizeOf356,
 v76:=Tryz.zeroValue356,
 t77:=Tryz.underlying50,
 a77:=Tryz.isAgg50,
 z77:=Tryz.sizeOf50,
 v77:=Tryz.zeroValue50}
end Go.Proofs
namespace Go.Proofs.Tryz
open Go.Psl
def Yn (p:Int × Int):List Value:=[.int .i64 p.1, .int .i64 p.2]
theorem L8 (l:List (Int × Int)):(l.flatMap Yn).map cV=BC l:=by
 induction l with
 | nil=>rfl
 | cons a l ih=>
   rw [List.flatMap_cons,List.map_append,ih];rfl
theorem Kq (x y:Int × Int):Go.Proofs.ltOf Dw x y=true↔Go.Geo.lt x y:=by
 unfold Go.Proofs.ltOf;rw [decide_eq_true_eq,PX]
theorem Xu (x y:Int × Int):Go.Proofs.ltOf Dw x y=false↔¬ Go.Geo.lt x y:=by
 rw [<-Kq];simp
theorem VT:Go.Sort.SWO (Go.Proofs.ltOf Dw) where
 irrefl x:=by rw [Xu];exact Go.Geo.lt_irr x
 trans x y z h1 h2:=by rw [Kq] at*;exact Go.Geo.lt_trans h1 h2
 ntrans x y z h1 h2:=by rw [Xu] at*;unfold Go.Geo.lt at*;omega
theorem kX:SortOk:=fun l h1 h2=>by
 have hcmp:∀ x y:Int × Int,Ct prog 222 [.agg ((Yn x).map cV), .agg ((Yn y).map cV)] (.d (.lit (.int .i64 (Dw x y)))) []:=fun x y=>pR x y
 have h:=N3 Tryz.sortL ⟨_,func221,by kernel_rfl,by decide⟩ 2 (by omega) Tryz.isAgg122 Tryz.sizeOf122 Yn (fun _=>rfl) (fun x v hv=>by simp [Yn] at hv;rcases hv with rfl | rfl<;>rfl) Dw VT
   (fun x y a b=>by
     rw [Xu] at a b;rcases Go.Geo.lt_tri x y with h | h | h
     . exact absurd h a
     . exact h
     . exact absurd h b) 222 (Go.Proofs.enters_of func222 (by kernel_rfl) rfl) hcmp l h1 (by omega)
 rw [L8,L8] at h;exact h
end Go.Proofs.Tryz
