/- Own lemmas, used by the last text. Conditions: those that each theorem states. -/
import Derived.Shelf.SlSortCmp.NoneTotal
import Derived.Test.YtigekgfbcfbobaaGreatDdag
import Derived.Test.YtigekgfbcfbobaaGreatDdai
import Derived.Test.YtigekgfbcfbobaaGreatDdak
import Derived.Test.YtigekgfbcfbobaaGreatProg
set_option maxRecDepth 200000
set_option maxHeartbeats 8000000
namespace Go.Psl
variable {P:Program} {Γ:Tys} {eqs:Eqs} {E:Ent}
def CX (ks xs:List Nat) (c:V):Prop:=match c with
 | .lr fr _ _ _ _ _=>∀ t,AV (·∈ks) AR (fr t)
 | c=>W1 (rid (ks++xs)) c c
structure BT (ks xs:List Nat) (L:List (Nat × List V)):Prop where
 names:L.map (·.1)=ks++xs
 nd:(ks++xs).Nodup
 cells:∀ p∈L,p.2≠[]/\Bv p.2/\∀ c∈p.2,CX ks xs c
section
variable {ks xs xs1:List Nat} {L L1:List (Nat × List V)}
theorem BT.lk (h:BT ks xs L) {p:Nat × List V} (hp:p∈L):Go.Psl.lk L p.1=some p.2:=ay (by rw [h.names];exact h.nd) p hp
theorem BT.mem (h:BT ks xs L) {p:Nat × List V} (hp:p∈L):p.1∈ks++xs:=by rw [<-h.names];exact List.mem_map.2 ⟨p,hp,rfl⟩
theorem BT.isIn (h:BT ks xs L) {i:Nat}:(Go.Psl.lk L i).isSome=true↔i∈ks++xs:=by
 constructor
 . intro hi
   obtain ⟨x,hx⟩:=Option.isSome_iff_exists.1 hi;exact h.mem (p:=(i,x)) (B4 hx)
 . intro hi
   rw [<-h.names] at hi;obtain ⟨p,hp,rfl⟩:=List.mem_map.1 hi;rw [h.lk hp];rfl
def rx (ks xs:List Nat) (b i:Nat):Option Nat:=if i∈ks then some i else if i∈xs then some (b+i) else none
theorem Lz {b i:Nat} (h:i∈ks++xs):rx ks xs b i=some (sg ks b i):=by
 unfold rx sg;by_cases hk:i∈ks
 . simp [hk]
 . rcases List.mem_append.1 h with h | h
   . exact absurd h hk
   . simp [hk,h]
theorem S4 {b:Nat} {c:V} (h:W0 (rid (ks++xs)) c c):W0 (rx ks xs b) (DR (sg ks b) c) c:=by
 cases c with
 | junk=>trivial
 | d x=>rfl
 | lp i o=>
   obtain ⟨j,hj,_⟩:=h;exact ⟨_,Lz (Dz hj).1,rfl⟩
 | ls i o l z=>
   unfold W0 at h;simp only at h;split at h
   . rename_i j hj
     simp only [W0,Lz (Dz hj).1];rfl
   . cases h.2
 | yl i=>
   obtain ⟨j,hj,_⟩:=h;exact ⟨_,Lz (Dz hj).1,rfl⟩
 | lr=>exact False.elim h
 | cl f cs=>exact False.elim h
 | agg cs=>exact False.elim h
 | tup cs=>exact False.elim h
theorem KZ {α:Type} {R:α->α->Prop} {f:α->α}:∀ {l:List α},(∀ x∈l,R (f x) x)->AJ R (l.map f) l
 | [],_=>trivial
 | a::l,h=>⟨h a (by simp),KZ fun x hx=>h x (List.mem_cons_of_mem _ hx)⟩
theorem ou {b:Nat} {c:V} (h:CX ks xs c):WC (rx ks xs b) (BJ (sg ks b) c) c:=by
 cases c with
 | lr fr nt ps pa pb jmp=>
   have h:∀ t,AV (·∈ks) AR (fr t):=h;refine ⟨?_,fun t=>AV.mono (fun i hi=>by simp [rx,hi]) (fun _ h=>h) (h t)⟩;simp only [BJ];congr 1
   funext t;exact R9 (h t) b
 | cl f cs=>
   obtain ⟨cs',e,h2⟩:=h;cases e;have h3:=GY h2;exact ⟨_,rfl,KZ fun x hx=>S4 (h3 x hx)⟩
 | junk=>trivial
 | d x=>rfl
 | lp i o=>exact S4 (c:= .lp i o) h
 | ls i o l z=>exact S4 (c:= .ls i o l z) h
 | yl i=>exact S4 (c:= .yl i) h
 | agg cs=>exact False.elim h
 | tup cs=>exact False.elim h
theorem Mw {c:V} (h:W1 (rid ks) c c):A1 (·∈ks) AR c:=by
 cases c with
 | cl f cs=>
   obtain ⟨cs',e,h2⟩:=h;cases e;exact fun c hc=>(FH (GY h2 c hc)).1
 | junk=>exact trivial
 | d x=>exact trivial
 | lp i o=>exact (FH (c:= .lp i o) h).1
 | ls i o l z=>exact (FH (c:= .ls i o l z) h).1
 | yl i=>exact (FH (c:= .yl i) h).1
 | lr=>exact False.elim h
 | agg cs=>exact False.elim h
 | tup cs=>exact False.elim h
theorem ie {c:V} (h:CX ks xs c):AC (·∈ks++xs) AR c:=by
 cases c with
 | lr fr nt ps pa pb jmp=>exact fun t=>AV.mono (fun i hi=>List.mem_append_left _ hi) (fun _ h=>h) (h t)
 | cl f cs=>exact Mw (c:= .cl f cs) h
 | junk=>exact trivial
 | d x=>exact trivial
 | lp i o=>exact Mw (c:= .lp i o) h
 | ls i o l z=>exact Mw (c:= .ls i o l z) h
 | yl i=>exact Mw (c:= .yl i) h
 | agg cs=>exact False.elim h
 | tup cs=>exact False.elim h
theorem BT.ids (h:BT ks xs L) {n:Nat} (hn:∀ i∈ks++xs,i < n):A7 n L:=by
 have key:∀ M:List (Nat × List V),(∀ p∈M,p∈L)->A7 n M:=by
   intro M;induction M with
   | nil=>intro _;trivial
   | cons p r ih=>
     intro hM;have hp:=hM p (by simp);exact ⟨hn _ (h.mem hp),fun c hc=>AC.mono hn (fun _ h=>h) (ie ((h.cells p hp).2.2 c hc)),ih fun q hq=>hM q (List.mem_cons_of_mem _ hq)⟩
 exact key L fun _ h=>h
theorem BT.res (h:BT ks xs L):∀ p∈L,∀ c∈p.2,AC (InB L) AR c:=fun p hp c hc=>AC.mono (fun _ hi=>h.isIn.2 hi) (fun _ h=>h) (ie ((h.cells p hp).2.2 c hc))
theorem Oe {H:Hp} {b:Nat} (hL:BT ks xs L) (hL1:BT ks xs1 L1) (hb:∀ i∈ks++xs,i < b) {p:Nat × List V} (hp:p∈L1):BI H b (Go.Psl.lk L) ks (Go.Psl.lk L1) (sg ks b p.1)=some (p.2.map (BJ (sg ks b))):=by
 have h1:=hL1.lk hp;by_cases hk:p.1∈ks
 . simp only [BI,sg,hk,if_true,h1,Option.map_some]
 . have e:sg ks b p.1=b+p.1:=by simp [sg,hk]
   have n1:¬ (b+p.1∈ks):=fun h=>by have:=hb _ (List.mem_append_left _ h);omega
   have n2:(Go.Psl.lk L (b+p.1)).isSome=false:=by
     cases hc:(Go.Psl.lk L (b+p.1)).isSome with
     | false=>rfl
     | true=>have:=hb _ (hL.isIn.1 hc);omega
   rw [e];simp only [BI,n1,if_false,n2,Bool.false_eq_true,Nat.le_add_right,if_true,Nat.add_sub_cancel_left,hk,h1]
theorem VL {H:Hp} {b:Nat} (hL:BT ks xs L) (_:BT ks xs1 L1) {i:Nat} (h1:i ∉ ks++xs) (h2:i < b):BI H b (Go.Psl.lk L) ks (Go.Psl.lk L1) i=H i:=by
 have n1:¬ i∈ks:=fun h=>h1 (List.mem_append_left _ h)
 have n2:(Go.Psl.lk L i).isSome=false:=by
   cases hc:(Go.Psl.lk L i).isSome with
   | false=>rfl
   | true=>exact absurd (hL.isIn.1 hc) h1
 simp only [BI,n1,if_false,n2,Bool.false_eq_true,show ¬ b<=i by omega]
theorem Og {H':Hp} {b:Nat} (hL1:BT ks xs1 L1) (hH:∀ p∈L1,H' (sg ks b p.1)=some (p.2.map (BJ (sg ks b)))):Ej (rx ks xs1 b) H' L1:=by
 have key:∀ M:List (Nat × List V),(∀ p∈M,p∈L1)->Ej (rx ks xs1 b) H' M:=by
   intro M;induction M with
   | nil=>intro _;trivial
   | cons p r ih=>
     intro hM;have hp:=hM p (by simp);obtain ⟨c1,c2,c3⟩:=hL1.cells p hp;refine ⟨?_,ih fun q hq=>hM q (List.mem_cons_of_mem _ hq)⟩;rw [Lz (hL1.mem hp)];exact ⟨⟨_,hH p hp,KZ fun c hc=>ou (c3 c hc)⟩,c2⟩
 exact key L1 fun _ h=>h
theorem Ya {b:Nat} (hL1:BT ks xs1 L1) (hb:∀ i∈ks,i < b):Bd (rx ks xs1 b) L1:=by
 have key:∀ M:List (Nat × List V),(∀ p∈M,p∈L1)->Bd (rx ks xs1 b) M:=by
   intro M;induction M with
   | nil=>intro _;trivial
   | cons p r ih=>
     intro hM;refine ⟨fun q hq=>?_,ih fun q hq=>hM q (List.mem_cons_of_mem _ hq)⟩;rw [Lz (hL1.mem (hM p (by simp))),Lz (hL1.mem (hM q (List.mem_cons_of_mem _ hq)))];by_cases e:q.1=p.1
     . exact Or.inr (Or.inr e)
     . refine Or.inr (Or.inl fun e'=>e ?_)
       have e':=Option.some.inj e';unfold sg at e';split at e'<;>split at e'
       . exact e'
       . rename_i h1 h2;have:=hb _ h1;omega
       . rename_i h1 h2;have:=hb _ h2;omega
       . omega
 exact key L1 fun _ h=>h
theorem S5 {H':Hp} {b:Nat} (_:BT ks xs1 L1) (hH:∀ p∈L1,H' (sg ks b p.1)=some (p.2.map (BJ (sg ks b)))):∀ i∈ks,(Go.Psl.lk L1 i).isSome=true->rx ks xs1 b i=some i/\(H' i).isSome=true:=fun i hi hs=>by
 obtain ⟨x,hx⟩:=Option.isSome_iff_exists.1 hs;have:=hH (i,x) (B4 hx);rw [show sg ks b i=i by simp [sg,hi]] at this;exact ⟨by simp [rx,hi],by rw [this];rfl⟩
theorem AAc {ρ:Nat->Option Nat} {H h:Hp}:∀ {M:List Nat},(∀ i∈M,(h i).isSome=true->ρ i=some i/\(H i).isSome=true)->DZ ρ H h M
 | [],_=>trivial
 | i::r,hM=>⟨hM i (by simp),AAc fun j hj=>hM j (List.mem_cons_of_mem _ hj)⟩
theorem IG {ρ:Nat->Option Nat} {H h:Hp} {n:Nat}:∀ {M:List Nat},(∀ i∈M,i < n)->(∀ i∈M,(h i).isSome=true->ρ i=some i/\(H i).isSome=true)->HD ρ H h n M
 | [],_,_=>trivial
 | i::r,hn,hM=>⟨hn i (by simp),hM i (by simp),IG (fun j hj=>hn j (List.mem_cons_of_mem _ hj)) fun j hj=>hM j (List.mem_cons_of_mem _ hj)⟩
theorem AI.keepX {st:St} {b:Nat} (hs:∀ i,E.stab i↔i∈ks) (h:BT ks xs1 L1) (hb:∀ i∈ks,i < b) (hH:∀ p∈L1,st.H (sg ks b p.1)=some (p.2.map (BJ (sg ks b)))) {n:Nat} (hn:∀ i∈ks++xs1,i < n) (l:List (Nat × V)) (h1:CL (rx ks xs1 b) st.fr l) (h4:Bw n l):AI P E st ⟨AO l,Go.Psl.lk L1,n⟩:=
 AI.mkM hs (rx ks xs1 b) l L1 n h1 (Og h hH) (Ya h hb) h4 (h.ids hn) (IG (fun i hi=>hn i (List.mem_append_left _ hi)) (S5 h hH))
theorem Dc.keepX {fn:Func} {st:St} {b:Nat} (hn:fn.results= #[]) (h:BT ks xs1 L1) (hb:∀ i∈ks,i < b) (hH:∀ p∈L1,st.H (sg ks b p.1)=some (p.2.map (BJ (sg ks b)))):Dc Γ fn ks (.tup []) L1 st:=
 ⟨[],rx ks xs1 b,by rw [hn];rfl,rfl,by simp,Og h hH,Ya h hb,AAc (S5 h hH)⟩
theorem Jd {H:Hp} {av args:List V} {res:Res} (hL:BT ks xs L) (hL1:BT ks xs1 L1) (hx:∀ i∈xs1,i < 1048576) (hH:∀ i∈ks++xs,H i=Go.Psl.lk L i) (hb:AJ (Bor noH) av args):IB H av args (Go.Psl.lk L) ks res (Go.Psl.lk L1):=
 ⟨fun i cs h=>by rw [hH i (hL.isIn.1 (by rw [h];rfl)),h],fun i h hn=>by
   rcases List.mem_append.1 (hL1.isIn.1 h) with h | h
   . exact absurd h hn
   . exact hx i h,fun i hi=>by
   obtain ⟨x,hx⟩:=Option.isSome_iff_exists.1 (hL.isIn.2 (List.mem_append_left _ hi));exact ⟨x,hx,(hL.cells (i,x) (B4 hx)).1⟩,Or.inl hb⟩
theorem kO {c:V} (h:CX ks xs c):WC (rid (ks++xs)) c c:=by
 cases c with
 | lr fr nt ps pa pb jmp=>exact ⟨rfl,fun t=>AV.mono (fun i hi=>Cr (List.mem_append_left _ hi)) (fun _ h=>h) (h t)⟩
 | cl f cs=>exact h
 | junk=>exact h
 | d x=>exact h
 | lp i o=>exact h
 | ls i o l z=>exact h
 | yl i=>exact h
 | agg cs=>exact h
 | tup cs=>exact h
theorem BT.same (h:BT ks xs L):A4 (ks++xs) L:=⟨h.names,h.nd,fun p hp=>⟨(h.cells p hp).1,(h.cells p hp).2.1,fun c hc=>kO ((h.cells p hp).2.2 c hc)⟩⟩
theorem AI.sameX {st:St} (hs:∀ i,E.stab i↔i∈ks) (h:BT ks xs L) (hH:st.H=Go.Psl.lk L) {n:Nat} (hn:∀ i∈ks++xs,i < n) (l:List (Nat × V)) (h1:CL (rid (ks++xs)) st.fr l) (h4:Bw n l):AI P E st ⟨AO l,Go.Psl.lk L,n⟩:=
 AI.mkM hs (rid (ks++xs)) l L n h1 (h.same.hp fun i _=>by rw [hH]) h.same.inj h4 (h.ids hn) (IG (fun i hi=>hn i (List.mem_append_left _ hi)) fun i hi hs=>⟨Cr (List.mem_append_left _ hi),by rw [hH];exact hs⟩)
theorem Dc.sameX {fn:Func} {st:St} (hn:fn.results= #[]) (h:BT ks xs L) (hH:st.H=Go.Psl.lk L):Dc Γ fn ks (.tup []) L st:=
 ⟨[],rid (ks++xs),by rw [hn];rfl,rfl,by simp,h.same.hp fun i _=>by rw [hH],h.same.inj,AAc fun i hi hs=>⟨Cr (List.mem_append_left _ hi),by rw [hH];exact hs⟩⟩
theorem Fp.keepX {H:Hp} {b k:Nat} {av:List V} {Kc Kx:V->Hp->Prop} (args:List V) (L L1:List (Nat × List V)) (ks xs xs1:List Nat) (r:D) (hf:Ym P k args (Go.Psl.lk L) ks (.ret (.d r)) (Go.Psl.lk L1)) (hL:BT ks xs L) (hL1:BT ks xs1 L1) (hx:∀ i∈xs1,i < 1048576)
   (hrec:∃ fr nt ps pa pb jmp,Go.Psl.lk L k=some [.lr fr nt ps pa pb jmp]/\ps.length=args.length) (hH:∀ i∈ks++xs,H i=Go.Psl.lk L i) (hb:AJ (Bor noH) av args) (hk:Kc (.d r) (BI H b (Go.Psl.lk L) ks (Go.Psl.lk L1))):Fp P none H H b k av Kc Kx:=
 ⟨rfl,args,Go.Psl.lk L,ks, .ret (.d r),Go.Psl.lk L1,_,⟨hf,hrec,Jd hL hL1 hx hH hb⟩,rfl,hk⟩
theorem Ym.ofX (hΓ:GOk P Γ) (hE:EB P eqs) (hm:P.follows .mixedOrders=true) {k:Nat} {fr:Nat->V} {nt:Nat} {ps:List Nat} {pa pb:PC} {args:List V} {s:LSt} (N:Nat)
   (hL:BT ks xs L) (hL1:BT ks xs1 L1) (hlt:∀ i∈ks++xs,i < N) (hkk:k∈ks) (hk:Go.Psl.lk L k=some [.lr fr nt ps pa pb .ready]) (hlen:ps.length=args.length) (hps:∀ p∈ps,p < nt) (hcl:∀ v∈args,A2 (· < N) AR v)
   (h:Rnd P Γ eqs k fr nt ps pa pb args (Go.Psl.lk L) ks s L1 N):Ym P k args (Go.Psl.lk L) ks (.ret (.d (.lit (.bool (FP s))))) (Go.Psl.lk L1):=
 Ym.of hΓ hE hm N hk hkk hlen hps hcl (A7.at (hL.ids hlt)) (fun i hi=>hlt i (List.mem_append_left _ hi)) hL1.res h.run
theorem E3.keepX {fo:Operand} {ps:List Nat} {pa pb:PC} {Q:Av->St->Prop} {f:Nat->V} {H:Hp} {n:Nat} {g:FuncId} {caps:List V} (L L1:List (Nat × List V)) (ks xs xs1:List Nat) (r:V) (jmp:LSt) (h0:E.rq) (hg:Be (evF f fo)=some (g,caps))
   (hf:Cm P g (.yl n::caps) (Go.Psl.lk ((n,[.lr f E.nt ps pa pb .ready])::L)) (n::ks) (.ret r) (Go.Psl.lk ((n,[.lr f E.nt ps pa pb jmp])::L1)))
   (hL:BT (n::ks) xs ((n,[.lr f E.nt ps pa pb .ready])::L)) (hL1:BT (n::ks) xs1 ((n,[.lr f E.nt ps pa pb jmp])::L1)) (hx:∀ i∈xs1,i < 1048576) (hlt:∀ i∈ks++xs,i < n) (hH:∀ i∈ks++xs,H i=Go.Psl.lk L i) (hb:AJ (Bor noH) caps caps)
   (hq:∀ F:Hp,(∀ p∈L1,F (sg (n::ks) (n+1048576) p.1)=some (p.2.map (BJ (sg (n::ks) (n+1048576)))))->(∀ i,i ∉ ks++xs->i < n->F i=H i)->Sm Q ⟨f,F,n+2097152⟩ jmp):PW P Γ eqs E (.rangeF fo ps pa pb) Q ⟨f,H,n⟩:=by
 have hH':∀ i∈n::ks++xs,upd H n (some [.lr f E.nt ps pa pb .ready]) i=Go.Psl.lk ((n,[.lr f E.nt ps pa pb .ready])::L) i:=fun i hi=>by
   simp only [AY,Go.Psl.lk];by_cases e:i=n
   . simp [e]
   . simp only [e,if_false]
     rw [List.cons_append] at hi;rcases List.mem_cons.1 hi with h | h
     . exact absurd h e
     . exact hH i h
 have hbk:∀ i∈n::ks++xs,i < n+1048576:=fun i hi=>by
   rw [List.cons_append] at hi;rcases List.mem_cons.1 hi with h | h
   . omega
   . have:=hlt i h;omega
 refine ⟨h0,g,caps, .yl n::caps,_,n::ks, .ret r,_,hg,⟨hf,Jd hL hL1 hx hH' ⟨rfl,hb⟩⟩,by simp,jmp,by simp [Go.Psl.lk],?_⟩;refine hq _ (fun p hp=>?_) fun i hi hin=>?_
 . have hm:p.1∈ks++xs1:=by
     have:=hL1.names;simp only [List.map_cons,List.cons_append,List.cons.injEq,true_and] at this;rw [<-this];exact List.mem_map.2 ⟨p,hp,rfl⟩
   have hne:sg (n::ks) (n+1048576) p.1≠n:=fun e=>by
     have hnd:=hL1.nd;rw [List.cons_append] at hnd;have hnm:=(List.nodup_cons.1 hnd).1;unfold sg at e;split at e
     . rw [e] at hm;exact hnm hm
     . omega
   simp only [AY,hne,if_false];exact Oe hL hL1 hbk (List.mem_cons_of_mem _ hp)
 . have hne:i≠n:=by omega
   simp only [AY,hne,if_false];rw [VL hL hL1 (by rw [List.cons_append];intro h;rcases List.mem_cons.1 h with h | h;exact hne h;exact hi h) (by omega)];simp [AY,hne]
end
end Go.Psl
namespace Go.Proofs.Tryz
open Go.Psl
open Go.Air
theorem qu (l:List Leg):Ct prog 129 [.d (Bs l)] (.cl 205 [.lp 0 0]) [(0,[.d (Bs l)])]:=by
 refine CB func129 c129 fun E hE=>?_
 simp [p129];refine AB.by (lk [(0,0)]) ?_;simp [results129]
def Cw (l:List Leg) (i:Nat):Nat:=(BN 0 (l.take i)).length
theorem Iq:∀ (a b:List Leg) (i:Nat),BN i (a++b)=BN i a++BN (i+a.length) b
 | [],b,i=>rfl
 | x::a,b,i=>by
   show _++BN (i+1) (a++b)=(_++BN (i+1) a)++_
   rw [Iq a b (i+1),List.append_assoc,List.length_cons,show i+1+a.length=i+(a.length+1) by omega]
theorem MW (l:List Leg):Cw l 0=0:=rfl
theorem WO {l:List Leg} {i:Nat} {x:Leg} (h:l[i]?= some x):Cw l (i+1)=Cw l i+x.m.toNat:=by
 unfold Cw;rw [List.take_add_one,h,Iq];simp [BN]
theorem cG (l:List Leg):Cw l l.length=(BN 0 l).length:=by unfold Cw;rw [List.take_length]
theorem iC {l:List Leg} {i:Nat}:Cw l i<=(BN 0 l).length:=by
 have:(BN 0 l).length=Cw l i+(BN (0+(l.take i).length) (l.drop i)).length:=by
   unfold Cw;rw [<-List.length_append,<-Iq,List.take_append_drop]
 omega
theorem iE {l:List Leg} {i m:Nat} {x:Leg} (h:l[i]?= some x) (hm:m < x.m.toNat):(BN 0 l)[Cw l i+m]?= some (i,m):=by
 have hi:=(List.getElem?_eq_some_iff.1 h).1
 have e:l=l.take i++(x::l.drop (i+1)):=by
   have:x::l.drop (i+1)=l.drop i:=by
     rw [List.drop_eq_getElem_cons hi];congr 1;rw [List.getElem?_eq_getElem hi] at h;exact (Option.some.inj h).symm
   rw [this,List.take_append_drop]
 have e2:BN 0 l=BN 0 (l.take i)++BN i (x::l.drop (i+1)):=by
   conv=>lhs;rw [e]
   rw [Iq,List.length_take,Nat.min_eq_left (by omega),Nat.zero_add]
 rw [e2,List.getElem?_append_right (by unfold Cw;omega)];unfold Cw;rw [Nat.add_sub_cancel_left]
 show ((List.range x.m.toNat).map (fun m=>(i,m))++_)[m]?= _
 rw [List.getElem?_append_left (by simpa using hm),List.getElem?_map,List.getElem?_range hm];rfl
theorem AI.restX {E:Ent} {ks xs:List Nat} {L:List (Nat × List V)} {st:St} (hs:∀ i,E.stab i↔i∈ks) (h:BT ks xs L) (hH:∀ i∈ks++xs,st.H i=lk L i) {n:Nat} (hn:∀ i∈ks++xs,i < n) (l:List (Nat × V)) (h1:CL (rid (ks++xs)) st.fr l) (h4:Bw n l):AI prog E st ⟨AO l,lk L,n⟩:=
 AI.mkM hs (rid (ks++xs)) l L n h1 (h.same.hp hH) h.same.inj h4 (h.ids hn) (IG (fun i hi=>hn i (List.mem_append_left _ hi)) fun i hi hs=>⟨Cr (List.mem_append_left _ hi),by rw [hH i (List.mem_append_left _ hi)];exact hs⟩)
theorem Jl (l:List Leg) (hl:l.length<=1000000) (hok:∀ x∈l,BE x=true) (KS:List Nat) (XS:Nat->List Nat) (k a M:Nat) (go:Nat->Bool) (L:Nat->List (Nat × List V)) (hk:k∈KS) (ha:a∈KS) (hN:∀ i∈KS,i < 1000000000) (hX:∀ i,∀ x∈XS i,x < 1048576) (hm:M<=(BN 0 l).length) (hL:∀ i,i<=M->BT KS (XS i) (L i))
   (hrec:∀ i,i < M->∃ fr nt ps pa pb jmp,lk (L i) k=some [.lr fr nt ps pa pb jmp]/\ps.length=2) (hbox:∀ i,i<=M->lk (L i) a=some [.d (Bs l)]) (hgo:∀ j,j+1 < M->go j=true) (hend:M=(BN 0 l).length\/(0 < M/\go (M - 1)=false))
   (hY:∀ j i m,j < M->(BN 0 l)[j]?= some (i,m)->Ym prog k [vi i,vi m] (lk (L j)) KS (.ret (vb (go j))) (lk (L (j+1)))):
   Cm prog 205 [.yl k, .lp a 0] (lk (L 0)) KS (.ret (.tup [])) (lk (L M)):=by
 have hNX:∀ i,∀ x∈KS++XS i,x < 1000000000:=fun i x hx=>by
   rcases List.mem_append.1 hx with h | h
   . exact hN x h
   . have:=hX i x h;omega
 refine Cm.by gok eok mixed 1000000000 func205 c205 rfl (by simp [ntmps205]) (by simp;exact ⟨hN k hk,hN a ha⟩) (A7.at ((hL 0 (by omega)).ids (hNX 0))) hN ⟨by simp,(hL M (Nat.le_refl _)).res⟩ fun E hs hE=>?_
 have haN:=hN a ha;have na:∀ x,1000000000<=x->¬ a=x:=fun x _=>by omega
 have la:∀ x,1000000000<=x->a < x:=fun x _=>by omega
 have b0:=hbox 0 (by omega);have rk:∀ i b,rx KS (XS i) b k=some k:=fun i b=>by simp [rx,hk]
 have ra:∀ i b,rx KS (XS i) b a=some a:=fun i b=>by simp [rx,ha]
 simp [p205,b0];refine Al (α:=Nat) (fun i=>⟨AO [(0, .yl k),(1, .lp a 0),(6, .d (Bs l)),(7,vi l.length),(8,vi i)],lk (L (Cw l i)),1000000000⟩) (fun i=>i<=l.length/\Cw l i<=M/\(Cw l i=M->M=(BN 0 l).length)) (fun i=>l.length - i) 0 ?_ ?_ ?_
 . rw [MW]
   exact ⟨by omega,by omega,fun e=>by omega⟩
 . rw [MW]
   refine AI.sameX hs (hL 0 (by omega)) rfl (hNX 0) _ ?_ ?_
   . simp [rid,hk,ha]
   . simp [hN k hk,hN a ha]
 . rintro i ⟨hi,hp,him⟩
   simp [bM];refine Bh (fun h=>?_) (fun h=>?_)
   . simp at h
     obtain ⟨x,hx⟩:=gE h;have hxm:=G5 (hok x (List.mem_of_getElem? hx));have hpn:=WO hx;have hpl:=iC (l:=l) (i:=i+1);have hz:=@wz i (by omega);have hne0:∀ q∈KS++XS (Cw l i+0),¬ q=1004194304:=fun q hq e=>by have:=hNX (Cw l i+0) q hq;omega
     simp [hx,AA];refine Al (α:=Nat) (fun m=>⟨AO [(0, .yl k),(1, .lp a 0),(3,vi i),(6, .d (Bs l)),(7,vi l.length),(8,vi i),(14,vi x.m),(15,vi m)],lk (L (Cw l i+m)),1000000000⟩) (fun m=>m<=x.m.toNat/\Cw l i+m<=M/\(Cw l i+m=M->M=(BN 0 l).length)) (fun m=>x.m.toNat - m) 0 ?_ ?_ ?_
     . exact ⟨by omega,by omega,fun e=>him (by omega)⟩
     . refine AI.restX hs (hL _ (by omega)) (fun q hq=>?_) (hNX _) _ ?_ ?_
       . simp [hne0 q hq]
       . simp [rid,hk,ha]
       . simp [hN k hk,hN a ha]
     . rintro m ⟨hmi,hmp,hme⟩
       by_cases hmx:m < x.m.toNat
       . have hmI:(m:Int) < x.m:=by omega
         have hjl:Cw l i+m < (BN 0 l).length:=by omega
         have hj:Cw l i+m < M:=by
           rcases Nat.lt_or_ge (Cw l i+m) M with h9 | h9
           . exact h9
           . have:=hme (by omega);omega
         have hat:=iE hx hmx;obtain ⟨J,hJ⟩:∃ J,Cw l i+m=J:=⟨_,rfl⟩
         rw [hJ] at hat hj hjl;have hY':=hY J i m hj hat;obtain ⟨fr,nt,ps,pa,pb,jmp,hr1,hr2⟩:=hrec J hj;have hzm:=@wz m (by omega);have hbb:∀ q∈KS++XS J,q < 1006291456:=fun q hq=>by have:=hNX J q hq;omega
         have hbk:∀ q∈KS,q < 1006291456:=fun q hq=>by have:=hN q hq;omega
         rw [hJ];simp [SH,hmI];refine Fp.keepX [vi i,vi m] (L J) (L (J+1)) KS (XS J) (XS (J+1)) _ hY' (hL J (by omega)) (hL (J+1) (by omega)) (hX _) ⟨fr,nt,ps,pa,pb,jmp,hr1,hr2⟩ (fun q hq=>rfl) (by simp) ?_;obtain ⟨F,hF⟩:∃ F,F=BI (lk (L J)) 1006291456 (lk (L J)) KS (lk (L (J+1))):=⟨_,rfl⟩
         have hFp:∀ p∈L (J+1),F (sg KS 1006291456 p.1)=some (p.2.map (BJ (sg KS 1006291456))):=fun p hp=>by rw [hF];exact Oe (hL J (by omega)) (hL (J+1) (by omega)) hbb hp
         rw [<-hF];cases hgi:go J
         . have e:J+1=M:=by
             by_cases hlt:J+1 < M
             . rw [hgo J hlt] at hgi;cases hgi
             . omega
           simp;rw [<-e];exact Dc.keepX rfl (hL (J+1) (by omega)) hbk hFp
         . simp [hzm]
           refine ⟨m+1,⟨by omega,by omega,fun e=>?_⟩,by omega,?_⟩
           . rcases hend with h1 | ⟨_,h1⟩
             . exact h1
             . rw [show M - 1=J by omega,hgi] at h1;cases h1
           . rw [show Cw l i+(m+1)=J+1 by omega]
             refine AI.keepX hs (hL (J+1) (by omega)) hbk hFp (hNX (J+1)) _ ?_ ?_
             . simp [rk,ra]
             . simp [hN k hk,hN a ha]
       . have em:m=x.m.toNat:=by omega
         have hmI:¬ (m:Int) < x.m:=by omega
         have e9:Cw l i+m=Cw l (i+1):=by omega
         have hbm:=hL (Cw l (i+1)) (by omega);rw [e9];simp [SH,hmI,hz];refine ⟨i+1,⟨by omega,by omega,fun e=>hme (by omega)⟩,by omega,?_⟩;refine AI.sameX hs hbm rfl (hNX _) _ ?_ ?_
         . simp [rid,hk,ha]
         . simp [hN k hk,hN a ha]
   . simp at h
     have e:i=l.length:=by omega
     have e2:Cw l i=M:=by
       have:=cG l;rw [<-e] at this;omega
     simp;rw [e2];exact Dc.sameX rfl (hL M (Nat.le_refl _)) rfl
theorem WM:∀ x:Shp,(Ca x).length=25:=fun _=>rfl
theorem mI (acc:List Shp) (n:Shp) (hl:acc.length<=100000):Cm prog 104 [Cl n (.d (AX n.gas.cs)), .lp 0 0] (lk ([(0,[hdF 25 acc 1])]++ouF Ca acc 1)) [0] (.ret (.tup [Cl n (.d (AX n.gas.cs)),vi 0])) (lk ([(0,[hdF 25 (acc++[n]) 1])]++ouF Ca (acc++[n]) 1)):=by
 by_cases hne:acc=[]
 . subst hne
   rw [Aq,Au,List.nil_append,Ak (by simp),AZ (by simp)];refine CM 2 func104 qN fun E hs hE=>?_
   simp [p104,AA,AM];refine AB.by (lk [(0,0),(1,6291458)]) ?_;simp [results104,AH]
 . have hsl:=Aw WM acc
   have hwh:=E9 WM acc;have n1:(acc.length+1)*216<=140737488355328:=by omega
   have n2:acc.length+1<=9223372036854775807:=by omega
   rw [Ak hne,AZ hne,Ak (by simp),AZ (by simp),IV];refine CM 2 func104 qN fun E hs hE=>?_
   simp [p104,AA,AM,hsl,hwh,n1,n2];refine AB.by (lk [(0,0),(1,6291458)]) ?_;simp [results104];refine Or.inl ?_;rw [List.all_append,List.all_eq_true.2 BU];rfl
def D6 (k:Sky) (r:Rig) (l:List Leg):List (Nat × Nat)->Shp->List Shp
 | [],_=>[]
 | (i,m)::rest,s=>match l[i]? with
   | none=>[]
   | some x=>match FA k r x m s with
     | .error _=>[]
     | .ok n=>n::D6 k r l rest n
def DX (s:Shp) (ns:List Shp) (j:Nat):Shp:=if j=0 then s else (ns[j - 1]?).getD s
theorem MV {s n:Shp} {ns:List Shp} {j:Nat} (h:j < ns.length+1):DX s (n::ns) (j+1)=DX n ns j:=by
 unfold DX;cases j with
 | zero=>simp
 | succ j=>
   rw [if_neg (by omega),if_neg (by omega)];have h1:j < ns.length:=by omega
   simp [h1]
theorem LP {k:Sky} {r:Rig} {l:List Leg}:∀ {im:List (Nat × Nat)} {s:Shp} {j:Nat} {n:Shp},(D6 k r l im s)[j]?= some n->∃ i m x,im[j]?= some (i,m)/\l[i]?= some x/\FA k r x m (DX s (D6 k r l im s) j)= .ok n
 | [],s,j,n,h=>by simp [D6] at h
 | (i,m)::rest,s,j,n,h=>by
   unfold D6 at h ⊢;split at h
   . simp at h
   rename_i x hx;split at h
   . simp at h
   rename_i n1 h1;cases j with
   | zero=>
     simp at h;subst h;exact ⟨i,m,x,by simp,hx,by simpa [DX] using h1⟩
   | succ j=>
     have h2:(D6 k r l rest n1)[j]?= some n:=by simpa using h
     obtain ⟨i2,m2,x2,e1,e2,e3⟩:=LP h2;have hj:=(List.getElem?_eq_some_iff.1 h2).1;refine ⟨i2,m2,x2,by simpa using e1,e2,?_⟩;rw [MV (by omega)];exact e3
theorem LQ {k:Sky} {r:Rig} {l:List Leg}:∀ {im:List (Nat × Nat)} {s:Shp},(∀ p∈im,∃ x,l[p.1]?= some x)->(Dt k r l im s= .ok (D6 k r l im s)/\(D6 k r l im s).length=im.length)\/
   ∃ i m x e,im[(D6 k r l im s).length]?= some (i,m)/\l[i]?= some x/\FA k r x m (DX s (D6 k r l im s) (D6 k r l im s).length)= .error e/\Dt k r l im s= .error (FC i m e)
 | [],s,_=> .inl ⟨rfl,rfl⟩
 | (i,m)::rest,s,hm=>by
   obtain ⟨x,hx⟩:=hm (i,m) (by simp);simp only at hx;unfold D6 Dt;rw [hx];simp only;cases h1:FA k r x m s with
   | error e=>exact .inr ⟨i,m,x,e,by simp,hx,by simpa [DX] using h1,rfl⟩
   | ok n=>
     simp only;rcases LQ (im:=rest) (s:=n) (fun p hp=>hm p (by simp [hp])) with ⟨h2,h3⟩ | ⟨i2,m2,x2,e2,h2,h3,h4,h5⟩
     . left;rw [h2];exact ⟨rfl,by simp [h3]⟩
     . right
       rw [h5];refine ⟨i2,m2,x2,e2,by simpa using h2,h3,?_,rfl⟩;rw [List.length_cons,MV (by omega)];exact h4
def fKS:List Nat:=[8388609,7340033,1,1048577,2097153,3145729,4194305,5242881,0]
def fXS (acc:List Shp):List Nat:=if acc=[] then [] else [7]
abbrev evL (e:Evt):List V:=[vi e.1,vi e.2.1,vi e.2.2.1,vi e.2.2.2]
def fL (k:Sky) (r:Rig) (l:List Leg) (f:Nat->V) (z:LSt) (acc:List Shp) (s:Shp) (e:Evt) (er:Int):List (Nat × List V):=
 [(8388609,[.lr f 69 [19,20] Az A3 z]),(7340033,[.d (Bs l)]),(1,[D2 k r]),(1048577,shB s),(2097153,[.d (Bs l)]),(3145729,[.cl 104 [.lp 0 0]]),(4194305,evL e),(5242881,[vi er]),(0,[hdF 25 acc 7])]++ouF Ca acc 7
theorem Ol (k:Sky) (r:Rig) (l:List Leg) (f:Nat->V) (z:LSt) (acc:List Shp) (s:Shp) (e:Evt) (er:Int) (hf:∀ t,AV (·∈fKS) AR (f t)):BT fKS (fXS acc) (fL k r l f z acc s e er):=by
 by_cases h0:acc=[]
 . subst h0
   refine ⟨rfl,by simp [fKS,fXS],?_⟩;intro q hq;simp only [fL,Aq,Au,List.append_nil,List.mem_cons,List.not_mem_nil,or_false] at hq;rcases hq with rfl | rfl | rfl | rfl | rfl | rfl | rfl | rfl | rfl
   . exact ⟨by simp,Or.inr ⟨_,_,_,_,_,_,rfl⟩,fun c hc=>by simp at hc;subst hc;exact hf⟩
   all_goals refine ⟨by simp,Or.inl rfl,fun c hc=>?_⟩
   all_goals simp only [List.mem_cons,List.not_mem_nil,or_false] at hc
   all_goals first
     | (subst hc;exact rfl)
     | (subst hc;simp [CX,W1,W0,rid,fKS,AJ,fXS])
     | (rcases hc with rfl | rfl | rfl | rfl<;>exact rfl)
     | (rcases hc with rfl | rfl | rfl | rfl | rfl | rfl | rfl | rfl | rfl | rfl | rfl | rfl | rfl | rfl | rfl | rfl | rfl | rfl | rfl | rfl | rfl | rfl | rfl | rfl | rfl<;>exact rfl)
 . have hx:fXS acc=[7]:=by simp [fXS,h0]
   rw [hx];refine ⟨by simp [fL,AZ h0,fKS],by simp [fKS],?_⟩;intro q hq;simp only [fL,Ak h0,AZ h0,List.mem_append,List.mem_cons,List.not_mem_nil,or_false] at hq;rcases hq with (rfl | rfl | rfl | rfl | rfl | rfl | rfl | rfl | rfl) | rfl
   . exact ⟨by simp,Or.inr ⟨_,_,_,_,_,_,rfl⟩,fun c hc=>by simp at hc;subst hc;exact hf⟩
   rotate_left 8
   . refine ⟨?_,Or.inl (List.all_eq_true.2 BU),fun c hc=>?_⟩
     . intro e
       have:=congrArg List.length e;rw [Aw WM] at this;cases acc with
       | nil=>exact h0 rfl
       | cons a t=>simp at this
     . obtain ⟨d,_,rfl⟩:=List.mem_map.1 (show c∈List.map V.d (List.map Ca acc).flatten from hc)
       exact rfl
   all_goals refine ⟨by simp,Or.inl rfl,fun c hc=>?_⟩
   all_goals simp only [List.mem_cons,List.not_mem_nil,or_false] at hc
   all_goals first
     | (subst hc;exact rfl)
     | (subst hc;simp [CX,W1,W0,rid,fKS,AJ])
     | (rcases hc with rfl | rfl | rfl | rfl<;>exact rfl)
     | (rcases hc with rfl | rfl | rfl | rfl | rfl | rfl | rfl | rfl | rfl | rfl | rfl | rfl | rfl | rfl | rfl | rfl | rfl | rfl | rfl | rfl | rfl | rfl | rfl | rfl | rfl<;>exact rfl)
theorem kU (acc:List Shp) (n:Shp) (hl:acc.length<=100000):Cm prog 104 [Cl n (.d (AX n.gas.cs)), .lp 0 0] (lk ([(0,[hdF 25 acc 7])]++ouF Ca acc 7)) [0] (.ret (.tup [Cl n (.d (AX n.gas.cs)),vi 0])) (lk ([(0,[hdF 25 (acc++[n]) 7])]++ouF Ca (acc++[n]) 7)):=by
 have hr:∀ l:List Shp,(AH Ca l).map (BJ fun i=>if i=0 then 0 else 7)=AH Ca l:=fun l=>by
   simp [AH,List.map_flatten,Function.comp_def]
 have h:=Cm.rename (fun i=>if i=0 then 0 else 7) 2 (by intro i j hi hj;split<;>split<;>omega) (mI acc n hl) (by
   by_cases h0:acc=[]
   . subst h0;simp [BW,Aq,Au]
   . simp [BW,Ak h0,AZ h0]) (by rw [Ak (by simp),AZ (by simp)];simp [BW]) (by simp)
 by_cases h0:acc=[]
 . subst h0
   rw [Aq,Au,List.nil_append,Ak (by simp),AZ (by simp)] at h ⊢;simpa [Ea,HW,hr] using h
 . rw [Ak h0,AZ h0,Ak (by simp),AZ (by simp)] at h ⊢
   simpa [Ea,HW,hr] using h
structure kV (f:Nat->V):Prop where
 av:∀ t,AV (·∈fKS) AR (f t)
 f4:f 4= .lp 1 0
 f5:f 5= .lp 1048577 0
 f6:f 6= .lp 2097153 0
 f7:f 7= .lp 3145729 0
 f8:f 8= .lp 4194305 0
 f9:f 9= .lp 5242881 0
theorem VQ (hS:SortOk) (k:Sky) (r:Rig) (l:List Leg) (f:Nat->V) (hF:kV f) (acc:List Shp) (s n:Shp) (i m:Nat) (x:Leg) (_:l.length<=1000000) (ha:acc.length<=100000) (h1:k.s.length<=1000000) (h2:k.w.length<=1000000) (h3:r.reg.length<=1000000) (hk:BV k=true) (hR:CF r=true) (hg:Ey k r=true) (hs:A6 s=true) (hlo:BE x=true) (hx:l[i]?= some x) (ho:FA k r x m s= .ok n):
   Ym prog 8388609 [vi i,vi m] (lk (fL k r l f .ready acc s ev0 0)) fKS (.ret (vb true)) (lk (fL k r l f .ready (acc++[n]) n ev0 0)):=by
 obtain ⟨hf,f4,f5,f6,f7,f8,f9⟩:=hF;have hil:=(List.getElem?_eq_some_iff.1 hx).1;have hiI:(i:Int) < l.length:=by omega
 have hK1:=Ol k r l f .ready acc s ev0 0 hf;have hK2:=Ol k r l f .ready (acc++[n]) n ev0 0 hf
 have hlt:∀ j∈fKS++fXS acc,j < 10000000:=by
   intro j hj;simp only [fKS,fXS,List.mem_append,List.mem_cons,List.not_mem_nil,or_false] at hj;rcases hj with h | h
   . omega
   . split at h
     . simp at h
     . simp at h;omega
 have hW:∀ (y:Nat) z,WC (lk [(8388609,8388609),(7340033,7340033),(1,1),(1048577,1048577),(2097153,2097153),(3145729,3145729),(4194305,4194305),(5242881,5242881),(0,0),(7,y)]) (.lr f 69 [19,20] Az A3 z) (.lr f 69 [19,20] Az A3 z):=fun y z=>⟨rfl,fun t=>AV.mono (fun j hj=>by simp [fKS] at hj;rcases hj with rfl | rfl | rfl | rfl | rfl | rfl | rfl | rfl | rfl<;>simp [lk]) (fun _ h=>h) (hf t)⟩
 have hC:∀ z,Bv [.lr f 69 [19,20] Az A3 z]:=fun z=>Or.inr ⟨_,_,_,_,_,_,rfl⟩
 have ca:=kU acc n ha;refine Ym.ofX (k:=8388609) (fr:=f) (nt:=69) (ps:=[19,20]) (pa:=Az) (pb:=A3) (args:=[vi i,vi m]) (s:= .ready) gok eok mixed 10000000 hK1 hK2 hlt (by simp [fKS]) (by simp [fL]) (by simp) (by simp) (by simp) ?_;obtain ⟨t,ht,hmo,hnx⟩:=Ib.1 ho;have hto:=Ow hs hlo ht;have cm:=ko hS k r t x h1 h2 h3 hk hR hg hto hlo;rw [H2.2 ⟨hmo,hnx⟩] at cm;simp only [RB] at cm;by_cases hm:m=0
 . rw [if_pos hm] at ht
   subst hm;have cb:=pP s x hs hlo;rw [ht] at cb;simp only [Oy] at cb;by_cases h0:acc=[]
   . subst h0
     rw [Aq,Au,List.nil_append,Ak (by simp),AZ (by simp)] at ca;refine ⟨fun E hE hs=>?_⟩;unfold fL;rw [Aq,Au,List.nil_append,Ak (by simp),AZ (by simp)]
     generalize V.lr f 69 [19,20] Az A3=rc at hW hC ⊢
     simp [Az,BD];simp [A3];refine AL [(10,23631488)] (by kernel_rfl) ?_;simp [inC,Nat.testBit,hx,f5,f6];refine CLa cb ?_;simp [AA,inC,Nat.testBit,f5];refine AL [(13,42505856),(14,43554432)] (by kernel_rfl) ?_;simp [inC,Nat.testBit,hx,f4,f5,f6];refine CLa cm ?_;simp [AA,inC,Nat.testBit,f7];refine CRs ca (by simp) ?_;simp [AA,f5];refine ⟨trivial,by simp,lk [(8388609,8388609),(7340033,7340033),(1,1),(1048577,1048577),(2097153,2097153),(3145729,3145729),(4194305,4194305),(5242881,5242881),(0,0),(7,51943047)],?_⟩;simp [hW,hC,fKS,AH]
   . have n1:AH Ca acc≠[]:=fun e=>by
       have:=congrArg List.length e;rw [Aw WM] at this;cases acc with
       | nil=>exact h0 rfl
       | cons a t=>simp at this
     rw [Ak h0,AZ h0,Ak (by simp),AZ (by simp)] at ca;refine ⟨fun E hE hs=>?_⟩;unfold fL;rw [Ak h0,AZ h0,Ak (by simp),AZ (by simp)]
     generalize V.lr f 69 [19,20] Az A3=rc at hW hC ⊢
     simp [Az,BD];simp [A3];refine AL [(10,23631488)] (by kernel_rfl) ?_;simp [inC,Nat.testBit,hx,f5,f6];refine CLa cb ?_;simp [AA,inC,Nat.testBit,f5];refine AL [(13,42505856),(14,43554432)] (by kernel_rfl) ?_;simp [inC,Nat.testBit,hx,f4,f5,f6];refine CLa cm ?_;simp [AA,inC,Nat.testBit,f7];refine CRs ca (by simp) ?_;simp [AA,f5];refine ⟨trivial,by simp,lk [(8388609,8388609),(7340033,7340033),(1,1),(1048577,1048577),(2097153,2097153),(3145729,3145729),(4194305,4194305),(5242881,5242881),(0,0),(7,51943047)],?_⟩;simp [hW,hC,fKS]
     all_goals first | exact Or.inl (List.all_eq_true.2 BU) | skip
 . rw [if_neg hm] at ht
   subst ht;by_cases h0:acc=[]
   . subst h0
     rw [Aq,Au,List.nil_append,Ak (by simp),AZ (by simp)] at ca;refine ⟨fun E hE hs=>?_⟩;unfold fL;rw [Aq,Au,List.nil_append,Ak (by simp),AZ (by simp)]
     generalize V.lr f 69 [19,20] Az A3=rc at hW hC ⊢
     simp [Az,BD];simp [A3,hm];refine AL [(13,25728640),(14,26777216)] (by kernel_rfl) ?_;simp [inC,Nat.testBit,hx,f4,f5,f6];refine CLa cm ?_;simp [AA,inC,Nat.testBit,f7];refine CRs ca (by simp) ?_;simp [AA,f5];refine ⟨trivial,by simp,lk [(8388609,8388609),(7340033,7340033),(1,1),(1048577,1048577),(2097153,2097153),(3145729,3145729),(4194305,4194305),(5242881,5242881),(0,0),(7,35165831)],?_⟩;simp [hW,hC,fKS,AH]
   . have n1:AH Ca acc≠[]:=fun e=>by
       have:=congrArg List.length e;rw [Aw WM] at this;cases acc with
       | nil=>exact h0 rfl
       | cons a t=>simp at this
     rw [Ak h0,AZ h0,Ak (by simp),AZ (by simp)] at ca;refine ⟨fun E hE hs=>?_⟩;unfold fL;rw [Ak h0,AZ h0,Ak (by simp),AZ (by simp)]
     generalize V.lr f 69 [19,20] Az A3=rc at hW hC ⊢
     simp [Az,BD];simp [A3,hm];refine AL [(13,25728640),(14,26777216)] (by kernel_rfl) ?_;simp [inC,Nat.testBit,hx,f4,f5,f6];refine CLa cm ?_;simp [AA,inC,Nat.testBit,f7];refine CRs ca (by simp) ?_;simp [AA,f5];refine ⟨trivial,by simp,lk [(8388609,8388609),(7340033,7340033),(1,1),(1048577,1048577),(2097153,2097153),(3145729,3145729),(4194305,4194305),(5242881,5242881),(0,0),(7,35165831)],?_⟩;simp [hW,hC,fKS]
     all_goals first | exact Or.inl (List.all_eq_true.2 BU) | skip
theorem T7:∀ {acts:List Act} {p:Plt} {i:Nat},¬ (B7 p acts i).2.2=54
 | [],p,i=>by simp [B7]
 | a::rr,p,i=>by
   unfold B7;cases hd:doS p a with
   | ok q=>exact T7
   | error e=>
     show ¬ e=54
     unfold doS vlS mvS at hd
     repeat' split at hd
     all_goals first | (have:=K8 hd;omega) | (cases hd;omega)
theorem mR {s:Shp} {x:Leg} {e:Int} (h:Ep s x= .error e):¬ e=54:=by
 unfold Ep at h;split at h
 . split at h
   . cases h;decide
   split at h
   . cases h;decide
   . cases h
 . cases h;exact T7
theorem ck {k:Sky} {r:Rig} {s:Shp} {x:Leg} {e:Int × Int × Int} (h:HK k r s x= .error e):(e.1=54/\True)\/(e.1=9/\e.2.1=0/\e.2.2=0):=by
 unfold HK at h;split at h
 . split at h
   . cases h;exact .inr ⟨rfl,rfl,rfl⟩
   . cases h
 . cases h;exact .inl ⟨rfl,trivial⟩
def Iw (x:Leg) (m:Nat) (s:Shp):Shp:=if m=0 then (match Ep s x with | .ok t=>t | .error _=>s) else s
theorem co (hS:SortOk) (k:Sky) (r:Rig) (l:List Leg) (f:Nat->V) (hF:kV f) (acc:List Shp) (s:Shp) (i m:Nat) (x:Leg) (e:Int × Int × Int) (_:l.length<=1000000) (h1:k.s.length<=1000000) (h2:k.w.length<=1000000) (h3:r.reg.length<=1000000) (hk:BV k=true) (hR:CF r=true) (hg:Ey k r=true) (hs:A6 s=true) (hlo:BE x=true) (hx:l[i]?= some x) (ho:FA k r x m s= .error e):
   Ym prog 8388609 [vi i,vi m] (lk (fL k r l f .ready acc s ev0 0)) fKS (.ret (vb false)) (lk (fL k r l f (.done .ret) acc (Iw x m s) (FC i m e).2 (FC i m e).1)):=by
 obtain ⟨hf,f4,f5,f6,f7,f8,f9⟩:=hF;have hil:=(List.getElem?_eq_some_iff.1 hx).1;have hiI:(i:Int) < l.length:=by omega
 have hK1:=Ol k r l f .ready acc s ev0 0 hf;have hK2:=Ol k r l f (.done .ret) acc (Iw x m s) (FC i m e).2 (FC i m e).1 hf
 have hlt:∀ j∈fKS++fXS acc,j < 10000000:=by
   intro j hj;simp only [fKS,fXS,List.mem_append,List.mem_cons,List.not_mem_nil,or_false] at hj;rcases hj with h | h
   . omega
   . split at h
     . simp at h
     . simp at h;omega
 have hW:∀ (y:Nat) z,WC (lk [(8388609,8388609),(7340033,7340033),(1,1),(1048577,1048577),(2097153,2097153),(3145729,3145729),(4194305,4194305),(5242881,5242881),(0,0),(7,y)]) (.lr f 69 [19,20] Az A3 z) (.lr f 69 [19,20] Az A3 z):=fun y z=>⟨rfl,fun t=>AV.mono (fun j hj=>by simp [fKS] at hj;rcases hj with rfl | rfl | rfl | rfl | rfl | rfl | rfl | rfl | rfl<;>simp [lk]) (fun _ h=>h) (hf t)⟩
 have hC:∀ z,Bv [.lr f 69 [19,20] Az A3 z]:=fun z=>Or.inr ⟨_,_,_,_,_,_,rfl⟩
 refine Ym.ofX (k:=8388609) (fr:=f) (nt:=69) (ps:=[19,20]) (pa:=Az) (pb:=A3) (args:=[vi i,vi m]) (s:= .done .ret) gok eok mixed 10000000 hK1 hK2 hlt (by simp [fKS]) (by simp [fL]) (by simp) (by simp) (by simp) ?_;clear hK1 hK2;unfold FA at ho;by_cases hm:m=0
 . rw [if_pos hm] at ho
   subst hm;have cb:=pP s x hs hlo;cases hbs:Ep s x with
   | error b=>
     rw [hbs] at ho cb;simp only [Oy] at cb;have he:e=(b,0,0):=by cases ho;rfl
     subst he;have hbe:=TP hbs;have h54:=mR hbs;have e1:Iw x 0 s=s:=by unfold Iw;rw [if_pos rfl,hbs]
     have e2:FC i 0 (b,0,0)=(b,ev0):=by unfold FC;simp only;rw [if_neg h54]
     rw [e1,e2];simp only;by_cases h0:acc=[]
     . subst h0
       refine ⟨fun E hE hs=>?_⟩;unfold fL;rw [Aq,Au]
       generalize V.lr f 69 [19,20] Az A3=rc at hW hC ⊢
       simp [Az,BD];simp [A3];refine AL [(10,23631488)] (by kernel_rfl) ?_;simp [inC,Nat.testBit,hx,f5,f6];refine CLa cb ?_;simp [AA,inC,Nat.testBit,f8,f9,hbe];refine ⟨trivial,by simp,lk [(8388609,8388609),(7340033,7340033),(1,1),(1048577,1048577),(2097153,2097153),(3145729,3145729),(4194305,4194305),(5242881,5242881),(0,0),(7,7)],?_⟩;simp [hW,hC,fKS,ev0]
     . refine ⟨fun E hE hs=>?_⟩
       unfold fL;rw [Ak h0,AZ h0]
       generalize V.lr f 69 [19,20] Az A3=rc at hW hC ⊢
       simp [Az,BD];simp [A3];refine AL [(10,23631488)] (by kernel_rfl) ?_;simp [inC,Nat.testBit,hx,f5,f6];refine CLa cb ?_;simp [AA,inC,Nat.testBit,f8,f9,hbe];refine ⟨trivial,by simp,lk [(8388609,8388609),(7340033,7340033),(1,1),(1048577,1048577),(2097153,2097153),(3145729,3145729),(4194305,4194305),(5242881,5242881),(0,0),(7,7)],?_⟩;simp [hW,hC,fKS,ev0]
       all_goals first | exact Or.inl (List.all_eq_true.2 BU) | skip
   | ok t=>
     rw [hbs] at ho cb;simp only [Oy] at cb;simp only at ho;have hto:=ZC hs hlo hbs;have cm:=ko hS k r t x h1 h2 h3 hk hR hg hto hlo;rw [ho] at cm;simp only [RB] at cm;have e1:Iw x 0 s=t:=by unfold Iw;rw [if_pos rfl,hbs]
     rw [e1];rcases ck ho with ⟨h54,_⟩ | ⟨h9,k1,k2⟩
     . have e2:FC i 0 e=((54:Int),e.2.1,(i:Int),(0:Int),e.2.2):=by unfold FC;rw [h54,if_pos rfl];rfl
       rw [e2];rw [h54] at cm;simp only;by_cases h0:acc=[]
       . subst h0
         refine ⟨fun E hE hs=>?_⟩;unfold fL;rw [Aq,Au]
         generalize V.lr f 69 [19,20] Az A3=rc at hW hC ⊢
         simp [Az,BD];simp [A3];refine AL [(10,23631488)] (by kernel_rfl) ?_;simp [inC,Nat.testBit,hx,f5,f6];refine CLa cb ?_;simp [AA,inC,Nat.testBit,f5];refine AL [(13,42505856),(14,43554432)] (by kernel_rfl) ?_;simp [inC,Nat.testBit,hx,f4,f5,f6];refine CLa cm ?_;simp [AA,inC,Nat.testBit,f8,f9];refine ⟨trivial,by simp,lk [(8388609,8388609),(7340033,7340033),(1,1),(1048577,1048577),(2097153,2097153),(3145729,3145729),(4194305,4194305),(5242881,5242881),(0,0),(7,7)],?_⟩;simp [hW,hC,fKS,ev0]
       . refine ⟨fun E hE hs=>?_⟩
         unfold fL;rw [Ak h0,AZ h0]
         generalize V.lr f 69 [19,20] Az A3=rc at hW hC ⊢
         simp [Az,BD];simp [A3];refine AL [(10,23631488)] (by kernel_rfl) ?_;simp [inC,Nat.testBit,hx,f5,f6];refine CLa cb ?_;simp [AA,inC,Nat.testBit,f5];refine AL [(13,42505856),(14,43554432)] (by kernel_rfl) ?_;simp [inC,Nat.testBit,hx,f4,f5,f6];refine CLa cm ?_;simp [AA,inC,Nat.testBit,f8,f9];refine ⟨trivial,by simp,lk [(8388609,8388609),(7340033,7340033),(1,1),(1048577,1048577),(2097153,2097153),(3145729,3145729),(4194305,4194305),(5242881,5242881),(0,0),(7,7)],?_⟩;simp [hW,hC,fKS,ev0]
         all_goals first | exact Or.inl (List.all_eq_true.2 BU) | skip
     . have e2:FC i 0 e=(9,ev0):=by unfold FC;rw [h9,if_neg (by decide)]
       rw [e2];rw [h9,k1,k2] at cm;simp only;by_cases h0:acc=[]
       . subst h0
         refine ⟨fun E hE hs=>?_⟩;unfold fL;rw [Aq,Au]
         generalize V.lr f 69 [19,20] Az A3=rc at hW hC ⊢
         simp [Az,BD];simp [A3];refine AL [(10,23631488)] (by kernel_rfl) ?_;simp [inC,Nat.testBit,hx,f5,f6];refine CLa cb ?_;simp [AA,inC,Nat.testBit,f5];refine AL [(13,42505856),(14,43554432)] (by kernel_rfl) ?_;simp [inC,Nat.testBit,hx,f4,f5,f6];refine CLa cm ?_;simp [AA,inC,Nat.testBit,f8,f9];refine ⟨trivial,by simp,lk [(8388609,8388609),(7340033,7340033),(1,1),(1048577,1048577),(2097153,2097153),(3145729,3145729),(4194305,4194305),(5242881,5242881),(0,0),(7,7)],?_⟩;simp [hW,hC,fKS,ev0]
       . refine ⟨fun E hE hs=>?_⟩
         unfold fL;rw [Ak h0,AZ h0]
         generalize V.lr f 69 [19,20] Az A3=rc at hW hC ⊢
         simp [Az,BD];simp [A3];refine AL [(10,23631488)] (by kernel_rfl) ?_;simp [inC,Nat.testBit,hx,f5,f6];refine CLa cb ?_;simp [AA,inC,Nat.testBit,f5];refine AL [(13,42505856),(14,43554432)] (by kernel_rfl) ?_;simp [inC,Nat.testBit,hx,f4,f5,f6];refine CLa cm ?_;simp [AA,inC,Nat.testBit,f8,f9];refine ⟨trivial,by simp,lk [(8388609,8388609),(7340033,7340033),(1,1),(1048577,1048577),(2097153,2097153),(3145729,3145729),(4194305,4194305),(5242881,5242881),(0,0),(7,7)],?_⟩;simp [hW,hC,fKS,ev0]
         all_goals first | exact Or.inl (List.all_eq_true.2 BU) | skip
 . rw [if_neg hm] at ho
   have cm:=ko hS k r s x h1 h2 h3 hk hR hg hs hlo;rw [ho] at cm;simp only [RB] at cm;have e1:Iw x m s=s:=by unfold Iw;rw [if_neg hm]
   rw [e1];rcases ck ho with ⟨h54,_⟩ | ⟨h9,k1,k2⟩
   . have e2:FC i m e=((54:Int),e.2.1,(i:Int),(m:Int),e.2.2):=by unfold FC;rw [h54,if_pos rfl]
     rw [e2];rw [h54] at cm;simp only;by_cases h0:acc=[]
     . subst h0
       refine ⟨fun E hE hs=>?_⟩;unfold fL;rw [Aq,Au]
       generalize V.lr f 69 [19,20] Az A3=rc at hW hC ⊢
       simp [Az,BD];simp [A3,hm];refine AL [(13,25728640),(14,26777216)] (by kernel_rfl) ?_;simp [inC,Nat.testBit,hx,f4,f5,f6];refine CLa cm ?_;simp [AA,inC,Nat.testBit,f8,f9];refine ⟨trivial,by simp,lk [(8388609,8388609),(7340033,7340033),(1,1),(1048577,1048577),(2097153,2097153),(3145729,3145729),(4194305,4194305),(5242881,5242881),(0,0),(7,7)],?_⟩;simp [hW,hC,fKS,ev0]
     . refine ⟨fun E hE hs=>?_⟩
       unfold fL;rw [Ak h0,AZ h0]
       generalize V.lr f 69 [19,20] Az A3=rc at hW hC ⊢
       simp [Az,BD];simp [A3,hm];refine AL [(13,25728640),(14,26777216)] (by kernel_rfl) ?_;simp [inC,Nat.testBit,hx,f4,f5,f6];refine CLa cm ?_;simp [AA,inC,Nat.testBit,f8,f9];refine ⟨trivial,by simp,lk [(8388609,8388609),(7340033,7340033),(1,1),(1048577,1048577),(2097153,2097153),(3145729,3145729),(4194305,4194305),(5242881,5242881),(0,0),(7,7)],?_⟩;simp [hW,hC,fKS,ev0]
       all_goals first | exact Or.inl (List.all_eq_true.2 BU) | skip
   . have e2:FC i m e=(9,ev0):=by unfold FC;rw [h9,if_neg (by decide)]
     rw [e2];rw [h9,k1,k2] at cm;simp only;by_cases h0:acc=[]
     . subst h0
       refine ⟨fun E hE hs=>?_⟩;unfold fL;rw [Aq,Au]
       generalize V.lr f 69 [19,20] Az A3=rc at hW hC ⊢
       simp [Az,BD];simp [A3,hm];refine AL [(13,25728640),(14,26777216)] (by kernel_rfl) ?_;simp [inC,Nat.testBit,hx,f4,f5,f6];refine CLa cm ?_;simp [AA,inC,Nat.testBit,f8,f9];refine ⟨trivial,by simp,lk [(8388609,8388609),(7340033,7340033),(1,1),(1048577,1048577),(2097153,2097153),(3145729,3145729),(4194305,4194305),(5242881,5242881),(0,0),(7,7)],?_⟩;simp [hW,hC,fKS,ev0]
     . refine ⟨fun E hE hs=>?_⟩
       unfold fL;rw [Ak h0,AZ h0]
       generalize V.lr f 69 [19,20] Az A3=rc at hW hC ⊢
       simp [Az,BD];simp [A3,hm];refine AL [(13,25728640),(14,26777216)] (by kernel_rfl) ?_;simp [inC,Nat.testBit,hx,f4,f5,f6];refine CLa cm ?_;simp [AA,inC,Nat.testBit,f8,f9];refine ⟨trivial,by simp,lk [(8388609,8388609),(7340033,7340033),(1,1),(1048577,1048577),(2097153,2097153),(3145729,3145729),(4194305,4194305),(5242881,5242881),(0,0),(7,7)],?_⟩;simp [hW,hC,fKS,ev0]
       all_goals first | exact Or.inl (List.all_eq_true.2 BU) | skip
def F6 (a:Except (Int × Evt) (List Shp)):Int × Evt:=match a with | .ok _=>(0,ev0) | .error e=>e
theorem TS {k:Sky} {r:Rig} {l:List Leg} (hT:Va k r) (hl:∀ x∈l,BE x=true):∀ {im:List (Nat × Nat)} {s:Shp},A6 s=true->∀ n∈D6 k r l im s,A6 n=true
 | [],s,_,n,h=>by simp [D6] at h
 | (i,m)::rest,s,hs,n,h=>by
   unfold D6 at h;split at h
   . simp at h
   rename_i x hx;split at h
   . simp at h
   rename_i n1 h1;have h2:=Q7 hT hs (hl x (List.mem_of_getElem? hx)) h1;rcases List.mem_cons.1 h with rfl | h
   . exact h2
   . exact TS hT hl h2 n h
theorem fW {s:Shp} {ns:List Shp} (hs:A6 s=true) (hn:∀ n∈ns,A6 n=true) {j:Nat} (hj:j<=ns.length):A6 (DX s ns j)=true:=by
 unfold DX;split
 . exact hs
 . obtain ⟨n,hnn⟩:∃ n,ns[j - 1]?= some n:=⟨_,List.getElem?_eq_getElem (by omega)⟩
   rw [hnn];exact hn n (List.mem_of_getElem? hnn)
theorem Vb {s n:Shp} {ns:List Shp} {j:Nat} (h:ns[j]?= some n):DX s ns (j+1)=n:=by
 unfold DX;rw [if_neg (by omega),Nat.add_sub_cancel,h];rfl
theorem fX (l:List Shp):∀ (a:Nat) (b:List V),(a,b)∈(0,[hdF 25 l 1])::ouF Ca l 1->∀ c∈b,AC (InB ((0,[hdF 25 l 1])::ouF Ca l 1)) AR c:=by
 by_cases h0:l=[]
 . subst h0;simp [Aq,Au]
 . rw [Ak h0,AZ h0]
   intro a b hab c hc;simp only [List.mem_cons,List.not_mem_nil,or_false,Prod.mk.injEq] at hab;rcases hab with ⟨rfl,rfl⟩ | ⟨rfl,rfl⟩
   . simp at hc;subst hc;simp
   . obtain ⟨d,_,rfl⟩:=List.mem_map.1 (show c∈List.map V.d (List.map Ca l).flatten from hc)
     simp
def fT (k:Sky) (r:Rig) (l:List Leg) (acc:List Shp) (s:Shp) (e:Evt) (er:Int):List (Nat × List V):=
 [(7340033,[.d (Bs l)]),(1,[D2 k r]),(1048577,shB s),(2097153,[.d (Bs l)]),(3145729,[.cl 104 [.lp 0 0]]),(4194305,evL e),(5242881,[vi er]),(0,[hdF 25 acc 7])]++ouF Ca acc 7
theorem Vc (k:Sky) (r:Rig) (l:List Leg) (f:Nat->V) (z:LSt) (acc:List Shp) (s:Shp) (e:Evt) (er:Int):fL k r l f z acc s e er=(8388609,[.lr f 69 [19,20] Az A3 z])::fT k r l acc s e er:=rfl
theorem NG:fKS=8388609::[7340033,1,1048577,2097153,3145729,4194305,5242881,0]:=rfl
theorem pQ (hS:SortOk) (k:Sky) (r:Rig) (l:List Leg) (s:Shp) (hl:l.length<=100) (hok:∀ x∈l,BE x=true) (h1:k.s.length<=1000000) (h2:k.w.length<=1000000) (h3:r.reg.length<=1000000) (hk:BV k=true) (hR:CF r=true) (hg:Ey k r=true) (hs:A6 s=true):
   Cm prog 103 [D2 k r,Cl s (.d (AX s.gas.cs)), .d (Bs l), .cl 104 [.lp 0 0]] (lk [(0,[.d (.lit (.slice none 0 0))])]) [0] (.ret (.tup [Ys (F6 (Dt k r l (BN 0 l) s)).2,vi (F6 (Dt k r l (BN 0 l) s)).1])) (lk ([(0,[hdF 25 (D6 k r l (BN 0 l) s) 1])]++ouF Ca (D6 k r l (BN 0 l) s) 1)):=by
 have hT:Va k r:=⟨hk,Hy hR,hg⟩
 have hlen:=Kv (i:=0) hok
 have hmem:∀ p∈BN 0 l,∃ x,l[p.1]?= some x:=fun p hp=>by
   obtain ⟨x,_,h,_⟩:=Ia hp;exact ⟨x,by simpa using h⟩
 have hend:=LQ (k:=k) (r:=r) (s:=s) hmem;have hrd:∀ {j:Nat} {n:Shp},(D6 k r l (BN 0 l) s)[j]?= some n->_:=fun h=>LP h
 have hnok:=TS hT hok (im:=BN 0 l) hs
 have hlb:(BN 0 l).length<=60000:=by
   have:=KA hok;omega
 obtain ⟨ns,hns⟩:∃ ns,D6 k r l (BN 0 l) s=ns:=⟨_,rfl⟩
 obtain ⟨FK,hFK⟩:∃ FK,Dt k r l (BN 0 l) s=FK:=⟨_,rfl⟩
 rw [hns] at hend hnok hrd ⊢;rw [hFK] at hend ⊢
 have hnl:ns.length<=(BN 0 l).length:=by
   rcases hend with ⟨_,h⟩ | ⟨i,m,x,e,h,_⟩
   . omega
   . have:=(List.getElem?_eq_some_iff.1 h).1;omega
 have hsj:∀ {j:Nat},j<=ns.length->A6 (DX s ns j)=true:=fun hj=>fW hs hnok hj
 refine Cm.by gok eok mixed 1 func103 c103 rfl (by simp [ntmps103]) (by simp) (A7.at (by simp)) (by simp) (by
   refine ⟨by simp,?_⟩;exact fun p hp c hc=>fX ns p.1 p.2 hp c hc) fun E hs' hE=>?_
 simp [p103];refine CLa (qu l) ?_;simp;have hnt:E.nt=69:=by rw [hE.1];exact ntmps103
 rw [<-JI (Γ:=tys) (eqs:=eqs)];obtain ⟨f,hf⟩:∃ f,f=upd (upd (upd (upd (upd (upd (upd (upd (Dn 0 [D2 k r,Cl s (.d (AX s.gas.cs)), .d (Bs l), .cl 104 [.lp 0 0]]) 4 (.lp 1 0)) 5 (.lp 1048577 0)) 6 (.lp 2097153 0)) 7 (.lp 3145729 0)) 8 (.lp 4194305 0)) 9 (.lp 5242881 0)) 17 (.d (Bs l))) 18 (.cl 205 [.lp 7340033 0]):=⟨_,rfl⟩
 have hfA:∀ t,AV (·∈fKS) AR (f t):=fun t=>by
   rw [hf];simp only [AY];split
   . intro c hc;simp at hc;subst hc;exact (by simp [fKS]:(7340033:Nat)∈fKS)
   split
   . exact trivial
   split
   . exact (by simp [fKS]:(5242881:Nat)∈fKS)
   split
   . exact (by simp [fKS]:(4194305:Nat)∈fKS)
   split
   . exact (by simp [fKS]:(3145729:Nat)∈fKS)
   split
   . exact (by simp [fKS]:(2097153:Nat)∈fKS)
   split
   . exact (by simp [fKS]:(1048577:Nat)∈fKS)
   split
   . exact (by simp [fKS]:(1:Nat)∈fKS)
   simp only [Dn];split
   . exact trivial
   split
   . intro c hc;simp at hc;rcases hc with rfl | rfl | rfl | rfl | rfl | rfl | rfl | rfl | rfl | rfl | rfl | rfl | rfl | rfl | rfl | rfl | rfl | rfl | rfl | rfl | rfl | rfl | rfl | rfl | rfl<;>exact trivial
   split
   . exact trivial
   split
   . intro c hc;simp at hc;subst hc;exact (by simp [fKS]:(0:Nat)∈fKS)
   . exact fun c hc=>by simp at hc
 have hFF:kV f:=⟨hfA,by rw [hf];simp,by rw [hf];simp,by rw [hf];simp,by rw [hf];simp,by rw [hf];simp,by rw [hf];simp⟩
 have f18:f 18= .cl 205 [.lp 7340033 0]:=by rw [hf];simp
 obtain ⟨_,f4,f5,f6,f7,f8,f9⟩:=id hFF;rw [<-hf];have hK:=fun z acc t e er=>Ol k r l f z acc t e er hfA
 have hN:∀ i∈fKS,i < 1000000000:=by simp [fKS]
 have hX:∀ i:Nat,∀ x∈fXS (ns.take i),x < 1048576:=fun i x hx=>by
   unfold fXS at hx;split at hx<;>simp at hx;omega
 have hrec:∀ z acc t e er,∃ fr nt ps pa pb jmp,lk (fL k r l f z acc t e er) 8388609=some [.lr fr nt ps pa pb jmp]/\ps.length=2:=fun z acc t e er=>⟨f,69,[19,20],Az,A3,z,by simp [fL],rfl⟩
 have hbox:∀ z acc t e er,lk (fL k r l f z acc t e er) 7340033=some [.d (Bs l)]:=fun z acc t e er=>by simp [fL]
 have hround:∀ j i m,j < ns.length->(BN 0 l)[j]?= some (i,m)->Ym prog 8388609 [vi i,vi m] (lk (fL k r l f .ready (ns.take j) (DX s ns j) ev0 0)) fKS (.ret (vb true)) (lk (fL k r l f .ready (ns.take (j+1)) (DX s ns (j+1)) ev0 0)):=fun j i m hj him=>by
   obtain ⟨n,hn⟩:=gE hj;obtain ⟨i',m',x,e1,e2,e3⟩:=hrd hn;rw [him] at e1;cases e1;have:=VQ hS k r l f hFF (ns.take j) (DX s ns j) n i m x (by omega) (by rw [List.length_take];omega) h1 h2 h3 hk hR hg (hsj (by omega)) (hok x (List.mem_of_getElem? e2)) e2 e3;rw [Vb hn,List.take_add_one,hn];exact this
 rcases hend with ⟨hok1,hlen1⟩ | ⟨i,m,x,e,hm1,hm2,hm3,hm4⟩
 ·
   have c:=Jl l (by omega) hok fKS (fun j=>fXS (ns.take j)) 8388609 7340033 ns.length (fun _=>true) (fun j=>fL k r l f .ready (ns.take j) (DX s ns j) ev0 0) (by simp [fKS]) (by simp [fKS]) hN hX (by omega) (fun j _=>hK _ _ _ _ _) (fun j _=>hrec _ _ _ _ _) (fun j _=>hbox _ _ _ _ _) (fun _ _=>rfl) (Or.inl hlen1) (fun j i m hj him=>hround j i m hj him);have hK0:=hK .ready [] s ev0 0;have hKn:=hK .ready ns (DX s ns ns.length) ev0 0;have c0:fL k r l f .ready (ns.take 0) (DX s ns 0) ev0 0=fL k r l f .ready [] s ev0 0:=rfl;have cn:fL k r l f .ready (ns.take ns.length) (DX s ns ns.length) ev0 0=fL k r l f .ready ns (DX s ns ns.length) ev0 0:=by rw [List.take_length]
   rw [c0,cn,Vc,Vc,NG] at c;rw [Vc,NG] at hK0 hKn;have hFe:F6 FK=(0,ev0):=by rw [hok1];rfl
   rw [hFe];refine E3.keepX (fT k r l [] s ev0 0) (fT k r l ns (DX s ns ns.length) ev0 0) [7340033,1,1048577,2097153,3145729,4194305,5242881,0] (fXS []) (fXS ns) (.tup []) .ready hE.2 (g:=205) (caps:=[.lp 7340033 0]) (by simp [f18]) (by rw [hnt];exact c) (by rw [hnt];exact hK0) (by rw [hnt];exact hKn) (fun x hx=>by have:=hX ns.length x (by rw [List.take_length];exact hx);exact this) (by simp [fXS]) (by simp [fXS,fT,Aq,Au,ev0]) (by simp) fun F h1 h2=>?_
   by_cases h0:ns=[]
   . subst h0
     have F0:=h1 (0,_) (by simp [fT,Aq,Au];rfl);have F8:=h1 (4194305,_) (by simp [fT,Aq,Au];rfl);have F9:=h1 (5242881,_) (by simp [fT,Aq,Au];rfl);simp [sg,BJ,DS,DR] at F0 F8 F9;rw [Aq,Au]
     show Ft 0 _ .normal _
     simp [f8,f9,F8,F9,AA];refine AB.by (lk [(0,0)]) ?_;simp [results103,F0,ev0,f8,f9]
   . have F0:=h1 (0,_) (by simp [fT,Ak h0,AZ h0];rfl)
     have F7:=h1 (7,_) (by simp [fT,Ak h0,AZ h0];rfl);have F8:=h1 (4194305,_) (by simp [fT,Ak h0,AZ h0];rfl);have F9:=h1 (5242881,_) (by simp [fT,Ak h0,AZ h0];rfl);simp [sg,BJ,DS,DR] at F0 F7 F8 F9;rw [Ak h0,AZ h0]
     show Ft 0 _ .normal _
     simp [f8,f9,F8,F9,AA];refine AB.by (lk [(0,0),(1,9437192)]) ?_;simp [results103,F0,F7,ev0,f8,f9]
     all_goals first | exact Or.inl (List.all_eq_true.2 BU) | skip
 . have hal:ns.length < (BN 0 l).length:=(List.getElem?_eq_some_iff.1 hm1).1
   obtain ⟨EZ,hEZ⟩:∃ EZ,FC i m e=EZ:=⟨_,rfl⟩
   have hFe:F6 FK=EZ:=by rw [hm4,hEZ];rfl
   rw [hFe];have hfail:=co hS k r l f hFF ns (DX s ns ns.length) i m x e (by omega) h1 h2 h3 hk hR hg (hsj (Nat.le_refl _)) (hok x (List.mem_of_getElem? hm2)) hm2 hm3;rw [hEZ] at hfail;obtain ⟨SF,hSF⟩:∃ SF,Iw x m (DX s ns ns.length)=SF:=⟨_,rfl⟩
   rw [hSF] at hfail;obtain ⟨LL,hLL⟩:∃ LL:Nat->List (Nat × List V),LL=fun j=>if j<=ns.length then fL k r l f .ready (ns.take j) (DX s ns j) ev0 0 else fL k r l f (.done .ret) ns SF EZ.2 EZ.1:=⟨_,rfl⟩
   have LLa:∀ j,j<=ns.length->LL j=fL k r l f .ready (ns.take j) (DX s ns j) ev0 0:=fun j hj=>by rw [hLL];simp only;rw [if_pos hj]
   have LLb:LL (ns.length+1)=fL k r l f (.done .ret) ns SF EZ.2 EZ.1:=by rw [hLL];simp only;rw [if_neg (by omega)]
   have tk:∀ j,ns.length<=j->ns.take j=ns:=fun j hj=>List.take_of_length_le hj
   have c:=Jl l (by omega) hok fKS (fun j=>fXS (ns.take j)) 8388609 7340033 (ns.length+1) (fun j=>decide (j < ns.length)) LL (by simp [fKS]) (by simp [fKS]) hN hX (by omega) (fun j hj=>by
       by_cases h:j<=ns.length
       . rw [LLa j h];exact hK _ _ _ _ _
       . rw [show j=ns.length+1 by omega,LLb,tk _ (by omega)];exact hK _ _ _ _ _) (fun j hj=>by
       rw [LLa j (by omega)];exact hrec _ _ _ _ _) (fun j hj=>by
       by_cases h:j<=ns.length
       . rw [LLa j h];exact hbox _ _ _ _ _
       . rw [show j=ns.length+1 by omega,LLb];exact hbox _ _ _ _ _) (fun j hj=>decide_eq_true (by omega)) (Or.inr ⟨by omega,decide_eq_false (by omega)⟩) (fun j i' m' hj him=>by
       by_cases h:j < ns.length
       . rw [LLa j (by omega),LLa (j+1) (by omega),decide_eq_true h];exact hround j i' m' h him
       . have e1:j=ns.length:=by omega
         subst e1;rw [hm1] at him;cases him;rw [LLa ns.length (Nat.le_refl _),LLb,decide_eq_false h,List.take_length];exact hfail)
   have hK0:=hK .ready [] s ev0 0;have hKn:=hK (.done .ret) ns SF EZ.2 EZ.1;have c0:LL 0=fL k r l f .ready [] s ev0 0:=by rw [LLa 0 (by omega)];rfl
   rw [c0,LLb,Vc,Vc,NG] at c;rw [Vc,NG] at hK0 hKn;refine E3.keepX (fT k r l [] s ev0 0) (fT k r l ns SF EZ.2 EZ.1) [7340033,1,1048577,2097153,3145729,4194305,5242881,0] (fXS []) (fXS ns) (.tup []) (.done .ret) hE.2 (g:=205) (caps:=[.lp 7340033 0]) (by simp [f18]) (by rw [hnt];exact c) (by rw [hnt];exact hK0) (by rw [hnt];exact hKn) (fun x hx=>by have:=hX ns.length x (by rw [List.take_length];exact hx);exact this) (by simp [fXS]) (by simp [fXS,fT,Aq,Au,ev0]) (by simp) fun F h1 h2=>?_
   by_cases h0:ns=[]
   . subst h0
     have F0:=h1 (0,_) (by simp [fT,Aq,Au];rfl);have F8:=h1 (4194305,_) (by simp [fT,Aq,Au];rfl);have F9:=h1 (5242881,_) (by simp [fT,Aq,Au];rfl);simp [sg,BJ,DS,DR] at F0 F8 F9;rw [Aq,Au]
     show Ft 0 _ .ret _
     simp;refine AB.by (lk [(0,0)]) ?_;simp [results103,F0,F8,F9,f8,f9]
   . have F0:=h1 (0,_) (by simp [fT,Ak h0,AZ h0];rfl)
     have F7:=h1 (7,_) (by simp [fT,Ak h0,AZ h0];rfl);have F8:=h1 (4194305,_) (by simp [fT,Ak h0,AZ h0];rfl);have F9:=h1 (5242881,_) (by simp [fT,Ak h0,AZ h0];rfl);simp [sg,BJ,DS,DR] at F0 F7 F8 F9;rw [Ak h0,AZ h0]
     show Ft 0 _ .ret _
     simp;refine AB.by (lk [(0,0),(1,9437192)]) ?_;simp [results103,F0,F7,F8,F9,f8,f9]
     all_goals first | exact Or.inl (List.all_eq_true.2 BU) | skip
abbrev cD (l:List Shp):D:= .sl 25 (l.map Ca)
def Lp (a:Except (Int × Evt) (List Shp)):List Shp:=match a with | .ok ns=>ns | .error _=>[]
abbrev cE (a:Except (Int × Evt) (List Shp)):V:= .tup [.d (cD (Lp a)),Ys (F6 a).2,vi (F6 a).1]
theorem ABc {k:Sky} {r:Rig} {s:Shp} {a b:Int} (ha:(if A6 s then (0:Int) else 52)=a) (hz:¬ JC k r s b=0):(¬ QG k r a b=0/\QG k r a b=JC k r s b)\/(BV k=true/\CF r=true/\a=0/\b=0/\Ey k r=false/\JC k r s b=2):=by
 unfold QG JC at*;unfold e0 e1;cases h1:BV k
 . left;simp
 . cases h2:CF r
   . left;simp
   . cases h3:A6 s
     . rw [h3] at ha;simp at ha;subst ha;left;simp
     . rw [h3] at ha;simp at ha;subst ha
       by_cases hb0:b=0
       . cases h4:Ey k r
         . right;simp [hb0]
         . rw [h1,h2,h3,h4,hb0] at hz;simp at hz
       . left;simp [hb0]
theorem Tv {l:List Leg} (h:C0 l=0):l.length<=20/\(∀ x∈l,BE x=true)/\Cv l<=600:=by
 unfold C0 at h;split at h
 . simp at h
 split at h
 . rename_i h1 h2
   split at h
   . simp at h
   . exact ⟨by omega,List.all_eq_true.1 h2,by omega⟩
 . simp at h
theorem mK (ID:Nat) (hI:2<=ID) (hS:SortOk) (k:Sky) (r:Rig) (l:List Leg) (s:Shp) (hl:l.length<=100) (hok:∀ x∈l,BE x=true) (h1:k.s.length<=1000000) (h2:k.w.length<=1000000) (h3:r.reg.length<=1000000) (hk:BV k=true) (hR:CF r=true) (hg:Ey k r=true) (hs:A6 s=true):
   Cm prog 103 [D2 k r,Cl s (.d (AX s.gas.cs)), .d (Bs l), .cl 104 [.lp ID 0]] (lk [(ID,[.d (.lit (.slice none 0 0))])]) [ID] (.ret (.tup [Ys (F6 (Dt k r l (BN 0 l) s)).2,vi (F6 (Dt k r l (BN 0 l) s)).1])) (lk ([(ID,[hdF 25 (D6 k r l (BN 0 l) s) 1])]++ouF Ca (D6 k r l (BN 0 l) s) 1)):=by
 have h:=pQ hS k r l s hl hok h1 h2 h3 hk hR hg hs
 generalize D6 k r l (BN 0 l) s=ns at*
 generalize F6 (Dt k r l (BN 0 l) s)=e at*
 have hr:∀ l:List Shp,(AH Ca l).map (BJ fun i=>if i=0 then ID else i)=AH Ca l:=fun l=>by
   simp [AH,List.map_flatten,Function.comp_def]
 have:=Cm.rename (fun i=>if i=0 then ID else i) 2 (by intro i j hi hj;split<;>split<;>omega) h (by simp [BW]) (by
   by_cases h0:ns=[]
   . subst h0;simp [BW,Aq,Au]
   . simp [BW,Ak h0,AZ h0]) (by simp)
 have hc:HR (fun i=>if i=0 then ID else i) (V.cl 104 [.lp 0 0])= .cl 104 [.lp ID 0]:=rfl;by_cases h0:ns=[]
 . subst h0
   rw [Aq,Au] at this ⊢;simpa [Ea,HW,hc] using this
 . rw [Ak h0,AZ h0] at this ⊢
   simpa [Ea,HW,hr,hc] using this
theorem qt (hS:SortOk) (k:Sky) (r:Rig) (s:Shp) (l:List Leg) (h1:k.s.length<=1000000) (h2:k.w.length<=1000000) (h3:r.reg.length<=1000000) (h4:s.gas.cs.length<=1000000) (h5:l.length<=1000000) (h6:∀ x∈l,x.acts.length<=1000000):Ct prog 45 [Eu k,Fj r,Cl s (.d (AX s.gas.cs)), .d (Bs l)] (.tup [hdF 25 (Lp (HA k r s l)) 0,Ys (F6 (HA k r s l)).2,vi (F6 (HA k r s l)).1]) (ouF Ca (Lp (HA k r s l)) 0):=by
 have c1:=qF s (by omega);have c2:=fn38 l h5 h6;obtain ⟨a,ha⟩:∃ a:Int,(if A6 s then 0 else 52)=a:=⟨_,rfl⟩
 obtain ⟨b,hb⟩:∃ b:Int,C0 l=b:=⟨_,rfl⟩
 rw [ha] at c1;rw [hb] at c2;unfold HA;rw [hb];by_cases hz:JC k r s b=0
 . rw [if_pos hz]
   obtain ⟨hk,hR,hs,hb0,hg⟩:=MD hz;have ha0:a=0:=by rw [<-ha,hs];rfl
   subst ha0 hb0;obtain ⟨q1,q2,q3⟩:=Tv hb;have c3:=fd 12582912 hS k r h1 h2 h3 hk hR hg;have c4:=mK 22020096 (by omega) hS k r l s (by omega) q2 h1 h2 h3 hk hR hg hs
   have hmem:∀ p∈BN 0 l,∃ x,l[p.1]?= some x:=fun p hp=>by
     obtain ⟨x,_,h,_⟩:=Ia hp;exact ⟨x,by simpa using h⟩
   have hend:=LQ (k:=k) (r:=r) (s:=s) hmem;have herr:=fun e=>NF (k:=k) (r:=r) (l:=l) (im:=BN 0 l) (s:=s) (e:=e) hmem
   generalize D6 k r l (BN 0 l) s=ns at*
   generalize Dt k r l (BN 0 l) s=FK at*
   rcases hend with ⟨e1,_⟩ | ⟨i,m,x,e,_,_,_,e4⟩
   . subst e1
     simp only [Lp,F6] at c4 ⊢;by_cases h0:ns=[]
     . subst h0
       rw [Aq,Au] at c4 ⊢;refine CB func45 c45 fun E hE=>?_
       simp [p45];refine AL [(7,12582912)] (by kernel_rfl) ?_;simp [inC,Nat.testBit];refine CLa c1 ?_;simp [inC,Nat.testBit];refine CLa c2 ?_;simp [AA,AM,inC,Nat.testBit];refine CDs c3 (by simp [wrL,inC,Nat.testBit]) ?_;simp;refine CRs c4 (by simp) ?_;simp [AA,ev0];apply RZ;simp [results45]
     . rw [Ak h0,AZ h0] at c4 ⊢
       refine CB func45 c45 fun E hE=>?_
       simp [p45];refine AL [(7,12582912)] (by kernel_rfl) ?_;simp [inC,Nat.testBit];refine CLa c1 ?_;simp [inC,Nat.testBit];refine CLa c2 ?_;simp [AA,AM,inC,Nat.testBit];refine CDs c3 (by simp [wrL,inC,Nat.testBit]) ?_;simp;refine CRs c4 (by simp) ?_;simp [AA,ev0];refine AB.by (lk [(0,27262977)]) ?_;simp [results45]
       all_goals first | exact Or.inl (List.all_eq_true.2 BU) | skip
   . have he:=(herr _ e4).1
     subst e4;simp only [Lp,F6,Aq,Au] at c4 ⊢
     generalize FC i m e=ee at*
     by_cases h0:ns=[]
     . subst h0
       rw [Aq,Au] at c4;refine CB func45 c45 fun E hE=>?_
       simp [p45];refine AL [(7,12582912)] (by kernel_rfl) ?_;simp [inC,Nat.testBit];refine CLa c1 ?_;simp [inC,Nat.testBit];refine CLa c2 ?_;simp [AA,AM,inC,Nat.testBit];refine CDs c3 (by simp [wrL,inC,Nat.testBit]) ?_;simp;refine CRs c4 (by simp) ?_;simp [AA,he];refine AL [(3,4194304)] (by kernel_rfl) ?_;simp [AA,inC,Nat.testBit];apply RZ;simp [results45]
     . rw [Ak h0,AZ h0] at c4
       refine CB func45 c45 fun E hE=>?_
       simp [p45];refine AL [(7,12582912)] (by kernel_rfl) ?_;simp [inC,Nat.testBit];refine CLa c1 ?_;simp [inC,Nat.testBit];refine CLa c2 ?_;simp [AA,AM,inC,Nat.testBit];refine CDs c3 (by simp [wrL,inC,Nat.testBit]) ?_;simp;refine CRs c4 (by simp) ?_;simp [AA,he];refine AL [(3,4194304)] (by kernel_rfl) ?_;simp [AA,inC,Nat.testBit];apply RZ;simp [results45]
 . rw [if_neg hz]
   simp only [Lp,F6,Aq,Au,ev0];rcases ABc ha hz with ⟨k1,k2⟩ | ⟨k1,k2,k3,k4,k5,k6⟩
   . have c3:=XK hS k r a b h1 h2 h3 k1
     rw [<-k2]
     generalize QG k r a b=e at*
     refine CB func45 c45 fun E hE=>?_
     simp [p45];refine AL [] (by kernel_rfl) ?_;simp [inC,Nat.testBit];refine CLa c1 ?_;simp [inC,Nat.testBit];refine CLa c2 ?_;simp [AA,AM,inC,Nat.testBit];refine CLb (c3) (by simp [Ap,Hcl,inC,Nat.testBit]) ?_;simp [AA,k1];apply RZ;simp [results45]
   . subst k3 k4
     have c3:=XM hS k r h1 h2 h3 k1 k2 k5;rw [k6];refine CB func45 c45 fun E hE=>?_
     simp [p45];refine AL [] (by kernel_rfl) ?_;simp [inC,Nat.testBit];refine CLa c1 ?_;simp [inC,Nat.testBit];refine CLa c2 ?_;simp [AA,AM,inC,Nat.testBit];refine CLb (c3) (by simp [Ap,Hcl,inC,Nat.testBit]) ?_;simp [AA];apply RZ;simp [results45]
theorem mL (hS:SortOk) (k:Sky) (r:Rig) (s:Shp) (l:List Leg) (h1:k.s.length<=1000000) (h2:k.w.length<=1000000) (h3:r.reg.length<=1000000) (h4:s.gas.cs.length<=1000000) (h5:l.length<=1000000) (h6:∀ x∈l,x.acts.length<=1000000):Ct prog 45 [Eu k,Fj r,Cl s (.d (AX s.gas.cs)), .d (Bs l)] (cE (HA k r s l)) []:=by
 refine Cm.freeze (qt hS k r s l h1 h2 h3 h4 h5 h6) ?_;obtain ⟨ns,hns⟩:∃ ns,Lp (HA k r s l)=ns:=⟨_,rfl⟩
 unfold cE;rw [hns];have z:∀ (H:Hp) (x:Int),FzC H (vi x) (vi x):=fun H x=>⟨_,rfl, .inl rfl⟩
 refine ⟨?_,⟨z _ _,z _ _,z _ _,z _ _,trivial⟩, .inl rfl,trivial⟩;by_cases h0:ns=[]
 . subst h0
   rw [Aq];exact .inr ⟨rfl,_,rfl⟩
 . rw [Ak h0,AZ h0]
   exact B0 (H:=lk [(0,AH Ca ns)]) (id:=0) WM (l:=ns) (by simp)
abbrev lgV (l:Leg):List V:=[vi l.m,vi l.axl,vi l.axh,vi l.ayl,vi l.ayh,vi l.ul,vi l.uh,vi l.bl,vi l.bh,vi l.dr, .d (JZ l.acts)]
theorem ar {l:Leg}:∀ (H:Hp) (b:Nat),H b=some (lgV l)->Bor H (.ls b 0 1 11) (.d (Bs [l])):=fun _ _ hh=>B0 (f:=Pi) (fun _=>rfl) (l:=[l]) hh
theorem fz_d {H:Hp} (d:D):FzC H (.d d) (.d d):=⟨d,rfl,by cases d<;>first | exact Or.inl rfl | rfl⟩
theorem Tf {H:Hp}:∀ ds:List D,AJ (FzC H) (ds.map .d) (ds.map .d)
 | []=>trivial
 | d::ds=>⟨fz_d d,Tf ds⟩
theorem lm {H:Hp} (k:Sky):Fz1 H (Eu k) (Eu k):=Tf [BF k.s,C2 k.w]
theorem ln {H:Hp} (r:Rig):Fz1 H (Fj r) (Fj r):=Tf [An r.reg,di r.gl,di r.gh,di r.tank,di r.rsv,di r.lo,di r.hi]
theorem lq {H:Hp} (s:Shp):Fz1 H (Cl s (.d (AX s.gas.cs))) (Cl s (.d (AX s.gas.cs))):=Tf (Ca s)
theorem gk {H:Hp} {b:Nat} {l:Leg} (h:H b=some (lgV l)):Fz1 H (.ls b 0 1 11) (.d (Bs [l])):=ar H b h
theorem PM {k:Sky} {r:Rig} {s:Shp} {l:Leg} {R:V} (h:Ct prog 45 [Eu k,Fj r,Cl s (.d (AX s.gas.cs)), .d (Bs [l])] R []) (b:Nat):Cm prog 45 [Eu k,Fj r,Cl s (.d (AX s.gas.cs)), .ls b 0 1 11] (lk [(b,lgV l)]) [] (.ret R) (lk []):=
 Cm.give h ⟨lm k,ln r,lq s,gk (by simp [lk]),trivial⟩
theorem AB1 (hS:SortOk):Ct prog 48 [] (vb true) []:=by
 have sp:=ZM;have e1:=fn66;have e2:=fn67;have e3:=fn64;have e4:=fn65;have d1:=ABz B1 CZ (by decide) (by decide) (by decide);have d2:=mL hS B1 DM CZ [exLeg] (by decide) (by decide) (by decide) (by decide) (by decide) (by decide);have d3:=mL hS B1 HH CZ [exLeg] (by decide) (by decide) (by decide) (by decide) (by decide) (by decide);rw [qH] at d1;rw [lv] at d2;rw [lz] at d3;simp only [cE,Lp,F6] at d2 d3;have d3:Cm prog 45 [Eu B1, .agg [.d (An DM.reg),vi DM.gl,vi DM.gh,vi DM.tank,vi DM.rsv,vi DM.lo,vi 219],Cl CZ (.d (AX CZ.gas.cs)), .ls 34603008 0 1 11] (lk [(34603008,lgV exLeg)]) [] _ _:=PM d3 34603008;refine CB func48 c48 fun E hE=>?_
 simp [p48]
 repeat ((first | (refine CLt e1 ?_ ?_;focus (simp;done)) | (refine CLt e2 ?_ ?_;focus (simp;done)) | (refine CLt e3 ?_ ?_;focus (simp;done)) | (refine CLt e4 ?_ ?_;focus (simp;done)) | (refine CLt d1 ?_ ?_;focus (simp;done)));simp [AA,AM])
 refine CRs (PM d2 14680064) (by simp) ?_;simp [AA]
 repeat ((first | (refine CLt e1 ?_ ?_;focus (simp;done)) | (refine CLt e2 ?_ ?_;focus (simp;done)) | (refine CLt e3 ?_ ?_;focus (simp;done)) | (refine CLt e4 ?_ ?_;focus (simp;done)));simp [AA])
 refine AL [(5,34603008),(12,40894464)] (by kernel_rfl) ?_;simp [inC,Nat.testBit];refine CLa e1 ?_;simp [inC,Nat.testBit];refine CLa e3 ?_;simp [inC,Nat.testBit];refine CLa e4 ?_;simp [AA,AM,inC,Nat.testBit];refine CDs d3 (by simp [wrL,inC,Nat.testBit]) ?_;simp [AA,inC,Nat.testBit];refine CLa (sp 0 0) ?_;simp [AA,inC,Nat.testBit,ev0];refine AL [(8,82837504)] (by kernel_rfl) ?_;simp [AA,inC,Nat.testBit]
 repeat ((first | (refine CLt (sp 660 720) ?_ ?_;(focus (simp;done))) | (refine CLt (sp 0 0) ?_ ?_;(focus (simp;done))) | (refine CLt (sp 140 160) ?_ ?_;(focus (simp;done))) | (refine CLt (sp 980 990) ?_ ?_;(focus (simp;done))) | (refine CLt (sp 5 20) ?_ ?_;(focus (simp;done))) | (refine CLt (sp 10 20) ?_ ?_;(focus (simp;done))) | (refine CLt (sp 1320 1440) ?_ ?_;(focus (simp;done))) | (refine CLt (sp 180 220) ?_ ?_;(focus (simp;done))) | (refine CLt (sp 960 980) ?_ ?_;(focus (simp;done))) | (refine CLt (sp 10 30) ?_ ?_;(focus (simp;done))) | (refine CLt (sp 20 40) ?_ ?_;(focus (simp;done))));simp [inC,Nat.testBit,exA,exB])
 apply RZ;simp [results48]
def Y0 (c:Cel) (a:Atm):Int × Int:=Ed (am c*(a.tl+c.wl),a.ph) [(am c*(a.th+c.wh),a.pl)]
theorem ABh {c:Cel} {a:Atm} (hc:B5 c) (ha:Fx a) (h:Lh c a=1):(Y0 c a).2<=c.rm:=by
 have t:=ha.t;have w:=hc.w;have p:=ha.p;have r:=hc.rm;have am1:=(ig hc).1
 have h1:am c*(a.th+c.wh)<=c.rm*a.pl:=by
   unfold Lh at h;split at h
   . assumption
   . split at h<;>omega
 have h2:am c*(a.tl+c.wl)<=am c*(a.th+c.wh):=Int.mul_le_mul_of_nonneg_left (by omega) am1;have h3:c.rm*a.pl<=c.rm*a.ph:=Int.mul_le_mul_of_nonneg_left (by omega) (by omega)
 have e1:ce (am c*(a.tl+c.wl)) a.ph<=c.rm:=by
   unfold ce
   have: -c.rm<= -(am c*(a.tl+c.wl)) / a.ph:=by
     rw [Int.le_ediv_iff_mul_le (by omega)];rw [Int.neg_mul];omega
   omega
 have e2:ce (am c*(a.th+c.wh)) a.pl<=c.rm:=by
   unfold ce
   have: -c.rm<= -(am c*(a.th+c.wh)) / a.pl:=by
     rw [Int.le_ediv_iff_mul_le (by omega)];rw [Int.neg_mul];omega
   omega
 unfold Y0 Ed rSp Bu Xa;simp only [List.map_cons,List.map_nil,List.foldl_cons,List.foldl_nil];omega
theorem fn57 (c:Cel) (a:Atm) (hc:B5 c) (ha:Fx a):Ct prog 57 [Ky c,Ox a] (.tup [vsp (Y0 c a).1 (Y0 c a).2,vi 0]) []:=by
 have c1:=jS c a hc ha;have h1:=ig hc;have h2:=hc.w;have h3:=ha.t;have h4:=ha.p;have m1:=sD (x:=am c) (y:=a.tl+c.wl) (X:=20000000) (Y:=4000) (by omega) (by omega);have m2:=sD (x:=am c) (y:=a.th+c.wh) (X:=20000000) (Y:=4000) (by omega) (by omega);have w3:IntKind.wrap .i64 (am c*(a.tl+c.wl))=am c*(a.tl+c.wl):=AD (by omega) (by omega);have w4:IntKind.wrap .i64 (am c*(a.th+c.wh))=am c*(a.th+c.wh):=AD (by omega) (by omega)
 have d1:=pn (am c*(a.tl+c.wl),a.ph) [(am c*(a.th+c.wh),a.pl)] (by simp) ⟨by simp only;omega,by simp only;omega⟩ (fun q hq=>by
   simp at hq;subst hq;exact ⟨by simp only;omega,by simp only;omega⟩)
 unfold Y0
 generalize Ed (am c*(a.tl+c.wl),a.ph) [(am c*(a.th+c.wh),a.pl)]=R at*
 refine CB func57 c57 fun E hE=>?_
 simp [p57];refine CLa c1 ?_;simp [AA,AM,w3,w4];refine CLb (d1) (by simp [AQ]) ?_;simp [AA];apply RZ;simp [results57]
abbrev skB (k:Sky):List V:=[.d (BF k.s), .d (C2 k.w)]
abbrev ABG (r:Rig):List V:=[.d (An r.reg),vi r.gl,vi r.gh,vi r.tank,vi r.rsv,vi r.lo,vi r.hi]
theorem cj {k:Sky} {r:Rig} {s:Shp} {l:List Leg} {ns:List Shp} (h:HA k r s l= .ok ns):Va k r/\A6 s=true/\(∀ x∈l,BE x=true)/\(l.length<=20/\Cv l<=600)/\CF r=true/\Dt k r l (BN 0 l) s= .ok ns:=by
 unfold HA at h;split at h
 . rename_i hz
   obtain ⟨h1,h2,h3,h4,h5⟩:=MD hz;obtain ⟨q1,q2,q3⟩:=Tv h4;exact ⟨⟨h1,Hy h2,h5⟩,h3,q2,⟨q1,q3⟩,h2,h⟩
 . cases h
theorem ABe {k:Sky} {r:Rig} {s:Shp} {l:List Leg} {e:Int × Evt} (h:HA k r s l= .error e):¬ e.1=0/\((e.1=54/\¬ e.2.1=0/\∃ (i m:Nat) (x:Leg),e.2.2.1=i/\e.2.2.2.1=m/\l[i]?= some x/\(m:Int) < x.m)\/(¬ e.1=54/\e.2=ev0)):=by
 unfold HA at h;split at h
 . rename_i hz
   have hm:∀ p∈BN 0 l,∃ x,l[p.1]?= some x:=fun p hp=>by
     obtain ⟨x,_,h,_⟩:=Ia hp;exact ⟨x,by simpa using h⟩
   obtain ⟨h1,h2⟩:=NF hm h;refine ⟨h1,?_⟩;rcases h2 with ⟨a,b,p,hp,c,d⟩ | h2
   . obtain ⟨x,_,hx,hxm⟩:=Ia hp
     exact .inl ⟨a,b,p.1,p.2,x,c,d,by simpa using hx,hxm⟩
   . exact .inr h2
 . rename_i hz
   cases h;refine ⟨hz, .inr ⟨?_,rfl⟩⟩;unfold JC C0
   repeat' split
   all_goals simp
theorem ABf (hS:SortOk) (k:Sky) (r:Rig) (s:Shp) (l:List Leg) (e:Int × Evt) (hg:grA k r s l=false) (hf:HA k r s l= .error e):Ct prog 10 [Eu k,Fj r,Cl s (.d (AX s.gas.cs)), .d (Bs l)] (vb true) []:=by
 have d0:=AB1 hS;have d1:=AB2 k r s l;rw [hg] at d1;obtain ⟨⟨g1,g2⟩,g3,g4,g5,g6⟩:=l0 hg;have d2:=mL hS k r s l (by omega) (by omega) (by omega) (by omega) (by omega) fun x hx=>by have:=g6 x hx;omega
 obtain ⟨he,h2⟩:=ABe hf;rw [hf] at d2;simp only [cE,Lp,F6] at d2;obtain ⟨a,kd,lg,mn,cl⟩:=e;simp only at d2 he h2;rcases h2 with ⟨q1,q2,i,m,x,q3,q4,q5,q6⟩ | ⟨q1,q2⟩
 . subst q1 q3 q4
   have hI:(i:Int) < l.length:=by have:=(List.getElem?_eq_some_iff.1 q5).1;omega
   refine CB func10 c10 fun E hE=>?_
   simp [p10];refine CLa d0 ?_;simp;refine CLa d1 ?_;simp;refine CLa d2 ?_;simp [AA];simp [inC,Nat.testBit,q2,q5,q6,hI];apply RZ;simp [results10]
 . cases q2
   refine CB func10 c10 fun E hE=>?_
   simp [p10];refine CLa d0 ?_;simp;refine CLa d1 ?_;simp;refine CLa d2 ?_;simp [AA];simp [inC,Nat.testBit,q1,he];apply RZ;simp [results10]
theorem Ka {r:List (Int × Int)} (h:C7 r=true):Yj r=0:=by unfold Yj;rw [h];rfl
theorem tm {r:List (Int × Int)} {s h:Int × Int} (q:Il r s h=true):inV r (s.1,h.1)=true/\inV r (s.1,h.2)=true/\inV r (s.2,h.1)=true/\inV r (s.2,h.2)=true:=by
 unfold Il at q;simp only [Bool.and_eq_true] at q;obtain ⟨⟨⟨a,b⟩,c⟩,d⟩:=q;exact ⟨a,b,c,d⟩
theorem fn10 (hS:SortOk) (k:Sky) (r:Rig) (s:Shp) (l:List Leg):Ct prog 10 [Eu k,Fj r,Cl s (.d (AX s.gas.cs)), .d (Bs l)] (vb true) []:=by
 have d0:=AB1 hS;have d1:=AB2 k r s l;cases hg:grA k r s l
 case true=>
   rw [hg] at d1;refine CB func10 c10 fun E hE=>?_
   simp [p10];refine CLa d0 ?_;simp;refine CLa d1 ?_;simp;apply RZ;simp [results10]
 cases hf:HA k r s l with
 | error e=>exact ABf hS k r s l e hg hf
 | ok ns=>
   rw [hg] at d1;obtain ⟨⟨g1,g2⟩,g3,g4,g5,g6⟩:=l0 hg;have d2:=mL hS k r s l (by omega) (by omega) (by omega) (by omega) (by omega) fun x hx=>by have:=g6 x hx;omega
   rw [hf] at d2;simp only [cE,Lp,F6] at d2;obtain ⟨hT,hs,hl,⟨l1,l2⟩,hR,hK⟩:=cj hf;have hlen:=TM hK;have hml:=Kv (i:=0) hl;have hok:=ZD hT hl hs hK;have hkept:=Ki hT hl hs hK;have hnl:ns.length<=600:=by omega
   have hpl:=cG l;refine CB func10 c10 fun E hE=>?_
   simp [p10];refine CLa d0 ?_;simp;refine CLa d1 ?_;simp;refine CLa d2 ?_;simp [AA];refine Al (α:=Nat) (fun i=>⟨AO [(4, .lp 0 0),(5, .lp 1 0),(6, .lp 2 0),(9,vb true),(10, .d (cD ns)),(98, .d (Bs l)),(99,vi l.length),(100,vi i),(13,vi (Cw l i))],lk [(0,skB k),(1,ABG r),(2,shB s)],3⟩) (fun i=>i<=l.length) (fun i=>l.length - i) 0 ?_ ?_ ?_
   . omega
   . rw [MW]
     exact WK hE (lk [(0,0),(1,1048576),(2,2097152)])
   . intro i hi
     by_cases h:i < l.length
     . obtain ⟨x,hx⟩:=gE h
       have hxo:=hl x (List.mem_of_getElem? hx);have hxm:=G5 hxo;have xB:=Mf hxo;have hpn:=WO hx;have hple:=iC (l:=l) (i:=i+1);have hI:(i:Int) < l.length:=by omega
       have hz:=@wz i (by omega);have cS:Ct prog 55 [wd4 x.axl x.axh x.ayl x.ayh] (.tup [vsp (N1 x).1 (N1 x).2,vi 0]) []:=AB3 x.axl x.axh x.ayl x.ayh ⟨xB.x,xB.y⟩
       generalize hsp:N1 x=sp at*
       simp [qM,hI,hx,AA];refine CLa cS ?_;simp [AA];refine Al (α:=Nat) (fun m=>⟨AO [(4, .lp 0 0),(5, .lp 1 0),(6, .lp 2 0),(9,vb true),(10, .d (cD ns)),(98, .d (Bs l)),(99,vi l.length),(100,vi i),(13,vi (Cw l i+m:Nat)),(16, .lp 3 0),(113,vi x.m),(114,vi m)],lk [(0,skB k),(1,ABG r),(2,shB s),(3,[vi sp.1,vi sp.2])],4⟩) (fun m=>m<=x.m.toNat) (fun m=>x.m.toNat - m) 0 ?_ ?_ ?_
       . omega
       . exact WK hE (lk [(0,0),(1,1),(2,2),(3,11534339)])
       . intro m hm
         by_cases hmx:m < x.m.toNat
         . have hmI:(m:Int) < x.m:=by omega
           have hzm:=@wz m (by omega);have hat:=iE hx hmx;obtain ⟨J,hJ⟩:∃ J,Cw l i+m=J:=⟨_,rfl⟩
           have hJc:(Cw l i:Int)+((m:Int)+1)=(J:Int)+1:=by omega
           rw [hJ] at hat ⊢;have hJl:J < ns.length:=by have:=(List.getElem?_eq_some_iff.1 hat).1;omega
           have hJI:(J:Int) < ns.length:=by omega
           have hJN:¬ (ns.length:Int)<=J:=by omega
           have hzJ:=@wz J (by omega);obtain ⟨n,hn⟩:=gE hJl;obtain ⟨x',hx',hk'⟩:=hkept J n (i,m) hn hat;rw [hx] at hx';cases hx';have hno:=hok n (List.mem_of_getElem? hn);have nB:=GT hno;obtain ⟨v1,v2,v3,v4,v5,v6,v7⟩:=hk';rw [hsp] at v7;have cA:=pC k.s n.hl n.hh (by omega);have cH:=ABz k n (by omega) (by omega) (by have:=nB.n;omega);have cC:=qF n (by have:=nB.n;omega);have hask:M2 k n=0:=by unfold M2;rw [hT.sky,hno];rfl
           have hat0:(atA k.s n.hl n.hh).2=0:=by rw [v5.eq]
           have hAir:=aU v5;have hhv:hvA k n=(hvS n (atA k.s n.hl n.hh).1,0):=by unfold hvA;rw [if_pos hask,if_pos hat0]
           rw [hhv] at cH;unfold atV at cA;rw [hat0] at cA;rw [hno] at cC;unfold vse at cH
           generalize (atA k.s n.hl n.hh).1=A at*
           generalize hvS n A=hv at*
           obtain ⟨t1,t2,t3,t4⟩:=tm v7;have u1:¬ n.hl < r.lo:=by omega
           have u2:¬ r.hi < n.hh:=by omega
           have u3:¬ n.fl < r.rsv:=by omega
           have u4:¬ r.tank < n.wh:=by omega
           have i1:=fE hS r.reg (sp.1,hv.1) (by omega);have i2:=fE hS r.reg (sp.1,hv.2) (by omega);have i3:=fE hS r.reg (sp.2,hv.1) (by omega);have i4:=fE hS r.reg (sp.2,hv.2) (by omega);rw [t1,Ka hT.rig.r] at i1;rw [t2,Ka hT.rig.r] at i2;rw [t3,Ka hT.rig.r] at i3;rw [t4,Ka hT.rig.r] at i4;simp [qL,hmI,hJN,hn,hzJ,AA];refine CLa cA ?_;simp [AA];refine CLa cH ?_;simp [AA];refine CLa cC ?_;simp [u1,u2,u3,u4];refine Al (α:=Nat) (fun q=>⟨AO [(4, .lp 0 0),(5, .lp 1 0),(6, .lp 2 0),(9,vb true),(10, .d (cD ns)),(98, .d (Bs l)),(99,vi l.length),(100,vi i),(13,vi (J+1:Nat)),(16, .lp 3 0),(113,vi x.m),(114,vi m),(19, .lp 4 0),(21, .lp 5 0),(185, .d (AX n.gas.cs)),(186,vi n.gas.cs.length),(187,vi q)],lk [(0,skB k),(1,ABG r),(2,shB s),(3,[vi sp.1,vi sp.2]),(4,[vi A.pl,vi A.ph,vi A.tl,vi A.th]),(5,[vi hv.1,vi hv.2])],6⟩) (fun q=>q<=n.gas.cs.length) (fun q=>n.gas.cs.length - q) 0 ?_ ?_ ?_
           . omega
           . exact WK hE (lk [(0,0),(1,1),(2,2),(3,3),(4,23068676),(5,32505860)])
           . intro q hq
             by_cases hqc:q < n.gas.cs.length
             . obtain ⟨c,hc⟩:=gE hqc
               have hqI:(q:Int) < n.gas.cs.length:=by omega
               have hqn:=nB.n;have hzq:=@wz q (by omega);have hcm:=List.mem_of_getElem? hc;have hcb:=nB.c c hcm;have hfit:=v6 c hcm;have hvol:=ABh hcb hAir hfit;have cV:=fn57 c A hcb hAir;have cF:=AB4 c A hcb hAir;rw [hfit] at cF;have u5:¬ c.rm < (Y0 c A).2:=by omega
               generalize Y0 c A=vv at*
               simp [qI,hqI,hc,AA];refine CLa cV ?_;simp [AA];refine CLa cF ?_;simp [u5,hzq];refine ⟨q+1,by omega,by omega,?_⟩;exact WK hE (lk [(0,0),(1,1),(2,2),(3,3),(4,4),(5,5)])
             . have hqI:¬ (q:Int) < n.gas.cs.length:=by omega
               simp [qI,hqI,AA,AM];have z1:IntKind.wrap .i64 1=1:=by decide
               have z2:IntKind.wrap .i64 2=2:=by decide
               refine Al (α:=Nat) (fun j=>⟨AO [(4, .lp 0 0),(5, .lp 1 0),(6, .lp 2 0),(9,vb true),(10, .d (cD ns)),(98, .d (Bs l)),(99,vi l.length),(100,vi i),(13,vi (J+1:Nat)),(16, .lp 3 0),(113,vi x.m),(114,vi m),(21, .lp 4 0),(225, .ls 5 0 2 1),(226,vi 2),(227,vi j)],lk [(0,skB k),(1,ABG r),(2,shB s),(3,[vi sp.1,vi sp.2]),(4,[vi hv.1,vi hv.2]),(5,[vi sp.1,vi sp.2])],6⟩) (fun j=>j<=2) (fun j=>2 - j) 0 ?_ ?_ ?_
               . omega
               . exact WK hE (lk [(0,0),(1,1),(2,2),(3,3),(4,5),(5,5242886)])
               . intro j hj
                 match j,hj with
                 | 0,_=>
                   simp [qK,AA,AM];refine Al (α:=Nat) (fun y=>⟨AO [(4, .lp 0 0),(5, .lp 1 0),(6, .lp 2 0),(9,vb true),(10, .d (cD ns)),(98, .d (Bs l)),(99,vi l.length),(100,vi i),(13,vi (J+1:Nat)),(16, .lp 3 0),(113,vi x.m),(114,vi m),(21, .lp 4 0),(225, .ls 5 0 2 1),(226,vi 2),(227,vi 0),(30,vi sp.1),(235, .ls 6 0 2 1),(236,vi 2),(237,vi y)],lk [(0,skB k),(1,ABG r),(2,shB s),(3,[vi sp.1,vi sp.2]),(4,[vi hv.1,vi hv.2]),(5,[vi sp.1,vi sp.2]),(6,[vi hv.1,vi hv.2])],7⟩) (fun y=>y<=2) (fun y=>2 - y) 0 ?_ ?_ ?_
                   . omega
                   . exact WK hE (lk [(0,0),(1,1),(2,2),(3,3),(4,4),(5,5),(6,8388614)])
                   . intro y hy
                     match y,hy with
                     | 0,_=>
                       simp [qJ,AA];refine CLa i1 ?_;simp [z1];refine ⟨1,by omega,by omega,?_⟩;exact WK hE (lk [(0,0),(1,1),(2,2),(3,3),(4,4),(5,5),(6,6)])
                     | 1,_=>
                       simp [qJ,AA];refine CLa i2 ?_;simp [z2];refine ⟨2,by omega,by omega,?_⟩;exact WK hE (lk [(0,0),(1,1),(2,2),(3,3),(4,4),(5,5),(6,6)])
                     | 2,_=>
                       simp [qJ,z1];refine ⟨1,by omega,by omega,?_⟩;exact WK hE (lk [(0,0),(1,1),(2,2),(3,3),(4,4),(5,5)])
                     | y+3,hy=>omega
                 | 1,_=>
                   simp [qK,AA,AM];refine Al (α:=Nat) (fun y=>⟨AO [(4, .lp 0 0),(5, .lp 1 0),(6, .lp 2 0),(9,vb true),(10, .d (cD ns)),(98, .d (Bs l)),(99,vi l.length),(100,vi i),(13,vi (J+1:Nat)),(16, .lp 3 0),(113,vi x.m),(114,vi m),(21, .lp 4 0),(225, .ls 5 0 2 1),(226,vi 2),(227,vi 1),(30,vi sp.2),(235, .ls 6 0 2 1),(236,vi 2),(237,vi y)],lk [(0,skB k),(1,ABG r),(2,shB s),(3,[vi sp.1,vi sp.2]),(4,[vi hv.1,vi hv.2]),(5,[vi sp.1,vi sp.2]),(6,[vi hv.1,vi hv.2])],7⟩) (fun y=>y<=2) (fun y=>2 - y) 0 ?_ ?_ ?_
                   . omega
                   . exact WK hE (lk [(0,0),(1,1),(2,2),(3,3),(4,4),(5,5),(6,8388614)])
                   . intro y hy
                     match y,hy with
                     | 0,_=>
                       simp [qJ,AA];refine CLa i3 ?_;simp [z1];refine ⟨1,by omega,by omega,?_⟩;exact WK hE (lk [(0,0),(1,1),(2,2),(3,3),(4,4),(5,5),(6,6)])
                     | 1,_=>
                       simp [qJ,AA];refine CLa i4 ?_;simp [z2];refine ⟨2,by omega,by omega,?_⟩;exact WK hE (lk [(0,0),(1,1),(2,2),(3,3),(4,4),(5,5),(6,6)])
                     | 2,_=>
                       simp [qJ,z2];refine ⟨2,by omega,by omega,?_⟩;exact WK hE (lk [(0,0),(1,1),(2,2),(3,3),(4,4),(5,5)])
                     | y+3,hy=>omega
                 | 2,_=>
                   simp [qK,hzm];refine ⟨m+1,by omega,by omega,?_⟩;refine AI.mk hE (lk [(0,0),(1,1),(2,2),(3,3)]) _ _ _ ?_ ?_ ?_ ?_ ?_<;>simp [hJc]
                 | j+3,hj=>omega
         . have hmI:¬ (m:Int) < x.m:=by omega
           have e9:Cw l i+m=Cw l (i+1):=by omega
           rw [e9];simp [qL,hmI,hz];refine ⟨i+1,by omega,by omega,?_⟩;exact WK hE (lk [(0,0),(1,1),(2,2)])
     . have ei:i=l.length:=by omega
       have hI:¬ (i:Int) < l.length:=by omega
       have e1:Cw l i=ns.length:=by rw [ei];omega
       simp [qM,hI,e1];apply RZ;simp [results10]
end Go.Proofs.Tryz
namespace Go.Psl
open Go.Shelf Go.RowKit Go.Lib Go.Sort
variable {P:Program} {ρ:Ren} {α:Type} [Inhabited α]
theorem dJ {W W':World} (hos:W'.os=W.os) (hta:W'.tape=W.tape) (hou:W'.output=W.output) (hdr:W.drawn<=W'.drawn) (hsz:W.heap.size<=W'.heap.size) (hb:∀ b,b < W.heap.size->W'.heap[b]?= W.heap[b]?):
   ∃ q os',W'=grow (W.drewN q) os':=by
 refine ⟨W'.drawn - W.drawn,W'.heap.extract W.heap.size W'.heap.size,?_⟩;obtain ⟨h,t,d,o,u⟩:=W;obtain ⟨h',t',d',o',u'⟩:=W';simp only at hos hta hou hdr hsz hb;subst hos hta hou;simp only [grow,World.drewN];congr 1
 . apply Array.ext_getElem?
   intro i;by_cases hi:i < h.size
   . rw [Array.getElem?_append_left hi,hb i hi]
   . rw [Array.getElem?_append_right (by omega),Array.getElem?_extract]
     split
     . congr 1;omega
     . rw [Array.getElem?_eq_none (by omega)]
 . omega
theorem Mg {enc:α->List Value} {k:Nat} (h0:0 < k) (hk:∀ x,(enc x).length=k) (l:List α) (j:Nat) (hj:j < l.length*k):(l.flatMap enc)[j]?= some (flatK enc k l.toArray)[j]! :=by
 rw [get_flatK _ _ _ _ (by simpa using hj),List.flatMap_def,CI h0 _ (fun e he=>by obtain ⟨x,_,rfl⟩:=List.mem_map.1 he;exact hk x)];have h1:j / k < l.length:=by rw [Nat.div_lt_iff_lt_mul h0];exact hj
 have hm:j % k < k:=Nat.mod_lt _ h0;rw [List.getElem?_map,List.getElem?_eq_getElem h1];simp only [Option.map_some,Option.bind_some];have e1:l.toArray[j / k]! =l[j / k]:=by rw [getElem!_pos _ _ (by simpa using h1)];simp
 rw [e1,List.getElem?_eq_getElem (by rw [hk];exact hm),getElem!_pos _ _ (by rw [hk];exact hm)]
omit [Inhabited α] in
theorem N2 {enc:α->List Value} {k:Nat} (hk:∀ x,(enc x).length=k) (l:List α):(l.flatMap enc).length=l.length*k:=by
 rw [List.flatMap_def,B3 (sz:=k) _ (fun e he=>by obtain ⟨x,_,rfl⟩:=List.mem_map.1 he;exact hk x),List.length_map]
theorem Wo {G:Gh} {W:World} {vs:List Value} (h:∀ v∈vs,CU v=true):AJ (R1 G W) (vs.map cV) vs:=by
 induction vs with
 | nil=>trivial
 | cons v vs ih=>exact ⟨RD.lit v (h v (by simp)),ih fun x hx=>h x (by simp [hx])⟩
theorem P6 {g:Nat} {enc:α->List Value} {k:Nat} {cf:α->α->Int} (hflat:∀ x,∀ v∈enc x,CU v=true) (hcmp:∀ x y,Ct P g [.agg ((enc x).map cV), .agg ((enc y).map cV)] (.d (.lit (.int .i64 (cf x y)))) []) (blk off size:Nat) (w:World):Go.Proofs.CmpLays P g #[] enc k cf blk off size w:=by
 intro m os dk _ x y;refine ((hcmp x y).2 ⟨fun _=>0,fun _=>0,fun _=>true,fun _=>true,fun _=>False⟩ _ #[.agg (enc x).toArray, .agg (enc y).toArray] (fun _ h=>h.elim) ⟨⟨_,rfl,Wo (hflat x)⟩,⟨_,rfl,Wo (hflat y)⟩,trivial⟩ ⟨nofun,fun i _ h=>by simp [InH] at h,nofun⟩).mono fun e W' ⟨G',hp⟩=>?_
 refine ⟨?_,dJ hp.os hp.tape hp.output hp.drawn hp.size fun b hb=>hp.block b hb fun ⟨_,h,_⟩=>by simp [InH] at h⟩;cases e with
 | returned v=>rw [Cg hp.rv]
 | _=>exact hp.rv.elim
theorem N3 (L:Go.Proofs.SlLaysF0.n6 P ρ) (hf:fF P (ρ.f 6)) (k:Nat) (h0:0 < k) (aE:∀ w,(isAgg (ρ.t 24)).run P w= .ok true w) (zE:∀ w,(Go.sizeOf (ρ.t 24)).run P w= .ok k w) (enc:α->List Value) (hk:∀ x,(enc x).length=k) (hflat:∀ x,∀ v∈enc x,CU v=true) (cf:α->α->Int) (hO:SWO (Go.Proofs.ltOf cf)) (hT:∀ x y,(Go.Proofs.ltOf cf) x y=false->(Go.Proofs.ltOf cf) y x=false->x=y)
   (g:Nat) (eg:∀ args w,(callFunc g args).run P w= .ok (.enter g args) w) (hcmp:∀ x y,Ct P g [.agg ((enc x).map cV), .agg ((enc y).map cV)] (.d (.lit (.int .i64 (cf x y)))) []) (l:List α) (hl0:0 < l.length) (hsz:l.length < 4611686018427387904):
   Cm P (ρ.f 6) [.ls 0 0 l.length k, .d (.fn g [])] (lk [(0,(l.flatMap enc).map cV)]) [0] (.ret (.tup [])) (lk [(0,((l.mergeSort fun x y=>!(Go.Proofs.ltOf cf) y x).flatMap enc).map cV)]):=by
 refine ⟨hf,fun G W xs hGW hargs hpre=>?_⟩
 obtain ⟨v1,v2,rfl⟩:∃ v1 v2,xs= #[v1,v2]:=by
   have:=hargs.length;obtain ⟨xs⟩:=xs
   match xs,this with
   | [a,b],_=>exact ⟨a,b,rfl⟩
   | [],h=>simp at h
   | [_],h=>simp at h
   | _::_::_::_,h=>simp at h
 obtain ⟨h1,h2,_⟩:=hargs;obtain ⟨hIn,hph⟩:=hpre.st 0 (by simp);obtain ⟨hml,⟨_,h,_⟩ | ⟨hphl,o,cap,rfl,hcap,ho⟩⟩:=h1
 . omega
 obtain ⟨rfl,hbs0⟩:=ho (by omega)
 obtain ⟨cv,rfl,hcv⟩:∃ cv,v2= .func (.func g) #[] cv/\cv.size=0:=by
   cases h2 with
   | fn _ _ cv hl _=>exact ⟨cv,rfl,hl⟩
 obtain rfl:cv= #[]:=Array.eq_empty_of_size_eq_zero hcv;have hHB:=hpre.hb 0 _ rfl;obtain ⟨hnim,c,T,hb,hbs,hcl,hcr,hca⟩:=hHB.read hphl;have hblk:G.β 0 < W.heap.size:=(Array.getElem?_eq_some_iff.1 hb).1;have hfl:=N2 hk l;rw [List.length_map,hfl] at hcl hcr
 have hcell:∀ j,j < l.length*k->c[j]?= some (flatK enc k l.toArray)[j]! :=fun j hj=>by
   have h3:=Mg h0 hk l j hj;have h4:((l.flatMap enc).map cV)[j]?= some (cV (flatK enc k l.toArray)[j]!):=by rw [List.getElem?_map,h3];rfl
   obtain ⟨x,hx,hr⟩:=hcr.get h4;rw [List.getElem?_take,if_pos hj,Array.getElem?_toList] at hx;rw [hx,BO hr.r2.rv]
 have hH:HoldsK enc k W (G.β 0) 0 l.toArray:=fun j hj=>by
   have hj':j < l.length*k:=by simpa using hj
   refine ⟨?_,?_⟩
   . unfold World.cell?
     simp only [Nat.zero_add,hb,Option.isSome_none,Bool.false_eq_true,if_false];exact hcell j hj'
   . unfold World.frozen?
     simp [hb]
 have h1c:∀ x,∀ v∈enc x,v.oneCell'=true:=fun x v hv=>RD.oneCell (Im:=fun _=>True) (W:=W) (RD.lit v (hflat x v hv))
 have key:=Go.Proofs.AnyQ.slices_SortFunc_total L k aE zE enc hk h1c cf hO g #[] (G.β 0) 0 cap l.toArray W eg (P6 hflat hcmp _ _ _ _) hH hblk (by simpa using hsz) hT;have hperm:(l.mergeSort fun x y=>!(Go.Proofs.ltOf cf) y x).length=l.length:=List.length_mergeSort _
 generalize (l.mergeSort fun x y=>!(Go.Proofs.ltOf cf) y x)=l' at key hperm ⊢
 have key':Calls P (ρ.f 6) #[.slice (some ⟨G.β 0,0,none⟩) l.length cap, .func (.func g) #[] #[]] W fun e w'=>e= .returned (.tuple #[])/\∃ n os,w'=Go.Proofs.sortWorldK enc k W (G.β 0) 0 n l'.toArray os:=by simpa using key
 refine key'.mono fun e W' ⟨he,n,os,hW'⟩=>?_
 subst he
 have hlent:∀ b,Bm G (lk [(0,(l.flatMap enc).map cV)]) b->b=G.β 0:=fun b ⟨i,hi,_,hbi⟩=>by
   have:i=0:=by simp only [InH,lk] at hi;split at hi;assumption;cases hi
   rw [<-hbi,this]
 have hlent0:Bm G (lk [(0,(l.flatMap enc).map cV)]) (G.β 0):=⟨0,hIn,hph,rfl⟩
 have hheap:∀ b,b < W.heap.size->W'.heap[b]?= if b=G.β 0 then some (.cells (putCells id 0 (flatK enc k l'.toArray) c) T (0,0)) else W.heap[b]?:= fun b hlt=>by
   rw [hW']
   show ((putRow id (Sort.ahead W n) (G.β 0) 0 (flatK enc k l'.toArray)).heap++os)[b]?= _
   rw [Array.getElem?_append_left (by simpa using hlt)]
   show (W.heap.modify (G.β 0) _)[b]?= _
   rw [Array.getElem?_modify];by_cases e:b=G.β 0
   . subst e
     simp [hb,onCells]
   . rw [if_neg (fun h=>e h.symm),if_neg e]
 have hsz':W.heap.size<=W'.heap.size:=by rw [hW'];exact Go.Proofs.size_sortWorldK_c enc k W (G.β 0) 0 n l'.toArray os
 refine ⟨G,⟨by rw [hW'];rfl,by rw [hW'];rfl,by rw [hW'];rfl,by rw [hW'];exact Nat.le_add_right _ _,hsz',fun b hlt hn=>?_,fun b hb=>⟨Nat.lt_of_lt_of_le (hGW b hb) hsz', .inl hb⟩,fun _ h=>h,⟨#[],rfl,trivial⟩,fun _ h=>(by cases h),fun i cs hi=>?_,fun i j hi hj _ _ _=>?_,fun i hi _=>⟨rfl,rfl,(hpre.st i hi).2,rfl⟩⟩⟩
 . rw [hheap b hlt,if_neg (fun e:b=G.β 0=>hn (by rw [e];exact hlent0))]
 . have hi0:i=0/\cs=(l'.flatMap enc).map cV:=by
     simp only [lk] at hi;split at hi
     . rename_i e;cases hi;exact ⟨e,rfl⟩
     . cases hi
   obtain ⟨rfl,rfl⟩:=hi0;have hfl':=N2 hk l';refine ⟨.inr (.inl ⟨hphl.1,hphl.2,hnim,_,T,by rw [hheap _ hblk,if_pos rfl],by simp [putCells,hbs],by simp [putCells,hfl',hperm];exact hcl,?_,?_⟩),fun _=> .inr hlent0,fun x hx=>?_⟩
   . refine AJ.of_get ?_ fun j x y hx hy=>?_
     . simp [putCells,hfl',hperm];omega
     . have hj:j < l'.length*k:=by
         have:=(List.getElem?_eq_some_iff.1 hx).1;simpa [hfl'] using this
       rw [List.getElem?_map,Mg h0 hk l' j hj] at hx;cases hx;rw [List.getElem?_take,List.length_map,hfl',if_pos hj,Array.getElem?_toList] at hy;have hjc:j < c.size:=by rw [hperm] at hj;omega
       simp only [putCells,Array.getElem?_mapIdx,Array.getElem?_eq_getElem hjc,Option.map_some,Nat.zero_le,true_and,Nat.zero_add,size_flatK,List.size_toArray,hj,if_true,Option.some.injEq,Nat.sub_zero,id] at hy;subst hy;have hm:=Mg h0 hk l' j hj;have hmem:=List.mem_of_getElem? hm;obtain ⟨a,_,ha⟩:=List.mem_flatMap.1 hmem;exact RD.lit _ (hflat a _ ha)
   . simp only [List.all_map,List.all_eq_true]
     intro v _;rfl
   . obtain ⟨v,_,rfl⟩:=List.mem_map.1 hx
     trivial
 . have e1:i=0:=by simp only [InH,lk] at hi;split at hi;assumption;cases hi
   have e2:j=0:=by simp only [InH,lk] at hj;split at hj;assumption;cases hj
   rw [e1,e2]
end Go.Psl
namespace Go.Proofs
def Tryz.sortL_ren:Go.Shelf.Ren:=⟨fun | 6=>221 | 15=>270 | 14=>269 | 28=>300 | 29=>301 | 20=>292 | 21=>293 | 22=>294 | 23=>295 | 24=>296 | 25=>297 | 26=>298 | 27=>299 | 46=>312 | 47=>313 | 48=>314 | 49=>315 | 50=>316 | 57=>318 | n=>n,fun | 22=>55 | 24=>122 | 25=>275 | 3=>3 | 39=>222 | 0=>0 | 53=>339 | 55=>341 | 4=>4 | 46=>333 | 45=>332 | 50=>266 | 5=>5 | 9=>9 | 66=>348 | 70=>352 | 76=>356 | 77=>50 | n=>n,fun | n=>n⟩
theorem Tryz.sortL:Go.Proofs.SlLaysF0.n6 Tryz.prog Tryz.sortL_ren:={
 mixed:=by kernel_rfl,
 f6:=⟨Tryz.f221.name,by decide,Tryz.func221.trans (congrArg some (by kernel_rfl))⟩,
 f14:=⟨Tryz.f269.name,by decide,Tryz.func269.trans (congrArg some (by kernel_rfl))⟩,
 f15:=Tryz.func270.trans (congrArg some (by kernel_rfl)),
 f20:=⟨Tryz.f292.name,by decide,Tryz.func292.trans (congrArg some (by kernel_rfl))⟩,
 f21:=⟨Tryz.f293.name,by decide,Tryz.func293.trans (congrArg some (by kernel_rfl))⟩,
 f22:=⟨Tryz.f294.name,by decide,Tryz.func294.trans (congrArg some (by kernel_rfl))⟩,
 f23:=⟨Tryz.f295.name,by decide,Tryz.func295.trans (congrArg some (by kernel_rfl))⟩,
 f24:=⟨Tryz.f296.name,by decide,Tryz.func296.trans (congrArg some (by kernel_rfl))⟩,
 f25:=⟨Tryz.f297.name,by decide,Tryz.func297.trans (congrArg some (by kernel_rfl))⟩,
 f26:=⟨Tryz.f298.name,by decide,Tryz.func298.trans (congrArg some (by kernel_rfl))⟩,
 f27:=⟨Tryz.f299.name,by decide,Tryz.func299.trans (congrArg some (by kernel_rfl))⟩,
 f28:=Tryz.func300.trans (congrArg some (by kernel_rfl)),
 f29:=Tryz.func301.trans (congrArg some (by kernel_rfl)),
 f46:=⟨Tryz.f312.name,by decide,Tryz.func312.trans (congrArg some (by kernel_rfl))⟩,
 f47:=Tryz.func313.trans (congrArg some (by kernel_rfl)),
 f48:=Tryz.func314.trans (congrArg some (by kernel_rfl)),
 f49:=⟨Tryz.f315.name,by decide,Tryz.func315.trans (congrArg some (by kernel_rfl))⟩,
 f50:=⟨Tryz.f316.name,by decide,Tryz.func316.trans (congrArg some (by kernel_rfl))⟩,
 f57:=⟨Tryz.f318.name,by decide,Tryz.func318.trans (congrArg some (by kernel_rfl))⟩,
 t0:=Tryz.underlying0,
 a0:=Tryz.isAgg0,
 z0:=Tryz.sizeOf0,
 v0:=Tryz.zeroValue0,
 t3:=Tryz.underlying3,
 a3:=Tryz.isAgg3,
 z3:=Tryz.sizeOf3,
 v3:=Tryz.zeroValue3,
 t4:=Tryz.underlying4,
 a4:=Tryz.isAgg4,
 z4:=Tryz.sizeOf4,
 v4:=Tryz.zeroValue4,
 t5:=Tryz.underlying5,
 a5:=Tryz.isAgg5,
 z5:=Tryz.sizeOf5,
 v5:=Tryz.zeroValue5,
 t9:=Tryz.underlying9,
 a9:=Tryz.isAgg9,
 z9:=Tryz.sizeOf9,
 v9:=Tryz.zeroValue9,
 t22:=Tryz.underlying55,
 a22:=Tryz.isAgg55,
 z22:=Tryz.sizeOf55,
 v22:=Tryz.zeroValue55,
 t25:=Tryz.underlying275,
 a25:=Tryz.isAgg275,
 z25:=Tryz.sizeOf275,
 v25:=Tryz.zeroValue275,
 t39:=Tryz.underlying222,
 a39:=Tryz.isAgg222,
 z39:=Tryz.sizeOf222,
 v39:=Tryz.zeroValue222,
 t45:=Tryz.underlying332,
 a45:=Tryz.isAgg332,
 z45:=Tryz.sizeOf332,
 v45:=Tryz.zeroValue332,
 t46:=Tryz.underlying333,
 a46:=Tryz.isAgg333,
 z46:=Tryz.sizeOf333,
 v46:=Tryz.zeroValue333,
 t50:=Tryz.underlying266,
 a50:=Tryz.isAgg266,
 z50:=Tryz.sizeOf266,
 v50:=Tryz.zeroValue266,
 t53:=Tryz.underlying339,
 a53:=Tryz.isAgg339,
 z53:=Tryz.sizeOf339,
 v53:=Tryz.zeroValue339,
 t55:=Tryz.underlying341,
 a55:=Tryz.isAgg341,
 z55:=Tryz.sizeOf341,
 v55:=Tryz.zeroValue341,
 t66:=Tryz.underlying348,
 a66:=Tryz.isAgg348,
 z66:=Tryz.sizeOf348,
 v66:=Tryz.zeroValue348,
 t70:=Tryz.underlying352,
 a70:=Tryz.isAgg352,
 z70:=Tryz.sizeOf352,
 v70:=Tryz.zeroValue352,
 t76:=Tryz.underlying356,
 a76:=Tryz.isAgg356,
 z76:=Tryz.sizeOf356,
 v76:=Tryz.zeroValue356,
 t77:=Tryz.underlying50,
 a77:=Tryz.isAgg50,
 z77:=Tryz.sizeOf50,
 v77:=Tryz.zeroValue50}
end Go.Proofs
namespace Go.Proofs.Tryz
open Go.Psl
def Yn (p:Int × Int):List Value:=[.int .i64 p.1, .int .i64 p.2]
theorem L8 (l:List (Int × Int)):(l.flatMap Yn).map cV=BC l:=by
 induction l with
 | nil=>rfl
 | cons a l ih=>
   rw [List.flatMap_cons,List.map_append,ih];rfl
theorem Kq (x y:Int × Int):Go.Proofs.ltOf Dw x y=true↔Go.Geo.lt x y:=by
 unfold Go.Proofs.ltOf;rw [decide_eq_true_eq,PX]
theorem F2 (x y:Int × Int):Go.Proofs.ltOf Dw x y=false↔¬ Go.Geo.lt x y:=by
 rw [<-Kq];simp
theorem VT:Go.Sort.SWO (Go.Proofs.ltOf Dw) where
 irrefl x:=by rw [F2];exact Go.Geo.lt_irr x
 trans x y z h1 h2:=by rw [Kq] at*;exact Go.Geo.lt_trans h1 h2
 ntrans x y z h1 h2:=by rw [F2] at*;unfold Go.Geo.lt at*;omega
theorem kX:SortOk:=fun l h1 h2=>by
 have hcmp:∀ x y:Int × Int,Ct prog 222 [.agg ((Yn x).map cV), .agg ((Yn y).map cV)] (.d (.lit (.int .i64 (Dw x y)))) []:=fun x y=>pR x y
 have h:=N3 Tryz.sortL ⟨_,func221,by kernel_rfl,by decide⟩ 2 (by omega) Tryz.isAgg122 Tryz.sizeOf122 Yn (fun _=>rfl) (fun x v hv=>by simp [Yn] at hv;rcases hv with rfl | rfl<;>rfl) Dw VT
   (fun x y a b=>by
     rw [F2] at a b;rcases Go.Geo.lt_tri x y with h | h | h
     . exact absurd h a
     . exact h
     . exact absurd h b) 222 (Go.Proofs.enters_of func222 (by kernel_rfl) rfl) hcmp l h1 (by omega)
 rw [L8,L8] at h;exact h
end Go.Proofs.Tryz
