/- Own lemmas, used by the last text. Conditions: those that each theorem states. -/
import Derived.Test.YtnjclpglagcagaaGreatEbae
import Derived.Test.YtnjclpglagcagaaGreatEbaf
import Derived.Test.YtnjclpglagcagaaGreatEbag
import Derived.Test.YtnjclpglagcagaaGreatEbah
import Derived.Test.YtnjclpglagcagaaGreatEbaj
set_option maxRecDepth 200000
set_option maxHeartbeats 8000000
namespace Go.Psl
variable {P:Program} {Γ:Tys} {eqs:Eqs} {E:Ent}
def CX (ks xs:List Nat) (c:V):Prop:=match c with
 | .lr fr _ _ _ _ _=>∀ t,AV (·∈ks) AR (fr t)
 | c=>W1 (rid (ks++xs)) c c
structure BT (ks xs:List Nat) (L:List (Nat × List V)):Prop where
 names:L.map (·.1)=ks++xs
 nd:(ks++xs).Nodup
 cells:∀ p∈L,p.2≠[]/\Bv p.2/\∀ c∈p.2,CX ks xs c
section
variable {ks xs xs1:List Nat} {L L1:List (Nat × List V)}
theorem BT.lk (h:BT ks xs L) {p:Nat × List V} (hp:p∈L):Go.Psl.lk L p.1=some p.2:=AF8 (by rw [h.names];exact h.nd) p hp
theorem BT.mem (h:BT ks xs L) {p:Nat × List V} (hp:p∈L):p.1∈ks++xs:=by rw [<-h.names];exact List.mem_map.2 ⟨p,hp,rfl⟩
theorem BT.isIn (h:BT ks xs L) {i:Nat}:(Go.Psl.lk L i).isSome=true↔i∈ks++xs:=by
 constructor
 . intro hi
   obtain ⟨x,hx⟩:=Option.isSome_iff_exists.1 hi;exact h.mem (p:=(i,x)) (B4 hx)
 . intro hi
   rw [<-h.names] at hi;obtain ⟨p,hp,rfl⟩:=List.mem_map.1 hi;rw [h.lk hp];rfl
def rx (ks xs:List Nat) (b i:Nat):Option Nat:=if i∈ks then some i else if i∈xs then some (b+i) else none
theorem Lz {b i:Nat} (h:i∈ks++xs):rx ks xs b i=some (sg ks b i):=by
 unfold rx sg;by_cases hk:i∈ks
 . simp [hk]
 . rcases List.mem_append.1 h with h | h
   . exact absurd h hk
   . simp [hk,h]
theorem S4 {b:Nat} {c:V} (h:W0 (rid (ks++xs)) c c):W0 (rx ks xs b) (DR (sg ks b) c) c:=by
 cases c with
 | junk=>trivial
 | d x=>rfl
 | lp i o=>
   obtain ⟨j,hj,_⟩:=h;exact ⟨_,Lz (Dz hj).1,rfl⟩
 | ls i o l z=>
   unfold W0 at h;simp only at h;split at h
   . rename_i j hj
     simp only [W0,Lz (Dz hj).1];rfl
   . cases h.2
 | yl i=>
   obtain ⟨j,hj,_⟩:=h;exact ⟨_,Lz (Dz hj).1,rfl⟩
 | lr=>exact False.elim h
 | cl f cs=>exact False.elim h
 | agg cs=>exact False.elim h
 | tup cs=>exact False.elim h
theorem KZ {α:Type} {R:α->α->Prop} {f:α->α}:∀ {l:List α},(∀ x∈l,R (f x) x)->AJ R (l.map f) l
 | [],_=>trivial
 | a::l,h=>⟨h a (by simp),KZ fun x hx=>h x (List.mem_cons_of_mem _ hx)⟩
theorem ou {b:Nat} {c:V} (h:CX ks xs c):WC (rx ks xs b) (BJ (sg ks b) c) c:=by
 cases c with
 | lr fr nt ps pa pb jmp=>
   have h:∀ t,AV (·∈ks) AR (fr t):=h;refine ⟨?_,fun t=>AV.mono (fun i hi=>by simp [rx,hi]) (fun _ h=>h) (h t)⟩;simp only [BJ];congr 1
   funext t;exact R9 (h t) b
 | cl f cs=>
   obtain ⟨cs',e,h2⟩:=h;cases e;have h3:=GY h2;exact ⟨_,rfl,KZ fun x hx=>S4 (h3 x hx)⟩
 | junk=>trivial
 | d x=>rfl
 | lp i o=>exact S4 (c:= .lp i o) h
 | ls i o l z=>exact S4 (c:= .ls i o l z) h
 | yl i=>exact S4 (c:= .yl i) h
 | agg cs=>exact False.elim h
 | tup cs=>exact False.elim h
theorem Mw {c:V} (h:W1 (rid ks) c c):A1 (·∈ks) AR c:=by
 cases c with
 | cl f cs=>
   obtain ⟨cs',e,h2⟩:=h;cases e;exact fun c hc=>(FH (GY h2 c hc)).1
 | junk=>exact trivial
 | d x=>exact trivial
 | lp i o=>exact (FH (c:= .lp i o) h).1
 | ls i o l z=>exact (FH (c:= .ls i o l z) h).1
 | yl i=>exact (FH (c:= .yl i) h).1
 | lr=>exact False.elim h
 | agg cs=>exact False.elim h
 | tup cs=>exact False.elim h
theorem ie {c:V} (h:CX ks xs c):AC (·∈ks++xs) AR c:=by
 cases c with
 | lr fr nt ps pa pb jmp=>exact fun t=>AV.mono (fun i hi=>List.mem_append_left _ hi) (fun _ h=>h) (h t)
 | cl f cs=>exact Mw (c:= .cl f cs) h
 | junk=>exact trivial
 | d x=>exact trivial
 | lp i o=>exact Mw (c:= .lp i o) h
 | ls i o l z=>exact Mw (c:= .ls i o l z) h
 | yl i=>exact Mw (c:= .yl i) h
 | agg cs=>exact False.elim h
 | tup cs=>exact False.elim h
theorem BT.ids (h:BT ks xs L) {n:Nat} (hn:∀ i∈ks++xs,i<n):A7 n L:=by
 have key:∀ M:List (Nat × List V),(∀ p∈M,p∈L)->A7 n M:=by
   intro M;induction M with
   | nil=>intro _;trivial
   | cons p r ih=>
     intro hM;have hp:=hM p (by simp);exact ⟨hn _ (h.mem hp),fun c hc=>AC.mono hn (fun _ h=>h) (ie ((h.cells p hp).2.2 c hc)),ih fun q hq=>hM q (List.mem_cons_of_mem _ hq)⟩
 exact key L fun _ h=>h
theorem BT.res (h:BT ks xs L):∀ p∈L,∀ c∈p.2,AC (InB L) AR c:=fun p hp c hc=>AC.mono (fun _ hi=>h.isIn.2 hi) (fun _ h=>h) (ie ((h.cells p hp).2.2 c hc))
theorem Oe {H:Hp} {b:Nat} (hL:BT ks xs L) (hL1:BT ks xs1 L1) (hb:∀ i∈ks++xs,i<b) {p:Nat × List V} (hp:p∈L1):BI H b (Go.Psl.lk L) ks (Go.Psl.lk L1) (sg ks b p.1)=some (p.2.map (BJ (sg ks b))):=by
 have h1:=hL1.lk hp;by_cases hk:p.1∈ks
 . simp only [BI,sg,hk,if_true,h1,Option.map_some]
 . have e:sg ks b p.1=b+p.1:=by simp [sg,hk]
   have n1:¬ (b+p.1∈ks):=fun h=>by have:=hb _ (List.mem_append_left _ h);omega
   have n2:(Go.Psl.lk L (b+p.1)).isSome=false:=by
     cases hc:(Go.Psl.lk L (b+p.1)).isSome with
     | false=>rfl
     | true=>have:=hb _ (hL.isIn.1 hc);omega
   rw [e];simp only [BI,n1,if_false,n2,Bool.false_eq_true,Nat.le_add_right,if_true,Nat.add_sub_cancel_left,hk,h1]
theorem VL {H:Hp} {b:Nat} (hL:BT ks xs L) (_:BT ks xs1 L1) {i:Nat} (h1:i ∉ ks++xs) (h2:i<b):BI H b (Go.Psl.lk L) ks (Go.Psl.lk L1) i=H i:=by
 have n1:¬ i∈ks:=fun h=>h1 (List.mem_append_left _ h)
 have n2:(Go.Psl.lk L i).isSome=false:=by
   cases hc:(Go.Psl.lk L i).isSome with
   | false=>rfl
   | true=>exact absurd (hL.isIn.1 hc) h1
 simp only [BI,n1,if_false,n2,Bool.false_eq_true,show ¬ b<=i by omega]
theorem Og {H':Hp} {b:Nat} (hL1:BT ks xs1 L1) (hH:∀ p∈L1,H' (sg ks b p.1)=some (p.2.map (BJ (sg ks b)))):Ej (rx ks xs1 b) H' L1:=by
 have key:∀ M:List (Nat × List V),(∀ p∈M,p∈L1)->Ej (rx ks xs1 b) H' M:=by
   intro M;induction M with
   | nil=>intro _;trivial
   | cons p r ih=>
     intro hM;have hp:=hM p (by simp);obtain ⟨c1,c2,c3⟩:=hL1.cells p hp;refine ⟨?_,ih fun q hq=>hM q (List.mem_cons_of_mem _ hq)⟩;rw [Lz (hL1.mem hp)];exact ⟨⟨_,hH p hp,KZ fun c hc=>ou (c3 c hc)⟩,c2⟩
 exact key L1 fun _ h=>h
theorem Ya {b:Nat} (hL1:BT ks xs1 L1) (hb:∀ i∈ks,i<b):Bd (rx ks xs1 b) L1:=by
 have key:∀ M:List (Nat × List V),(∀ p∈M,p∈L1)->Bd (rx ks xs1 b) M:=by
   intro M;induction M with
   | nil=>intro _;trivial
   | cons p r ih=>
     intro hM;refine ⟨fun q hq=>?_,ih fun q hq=>hM q (List.mem_cons_of_mem _ hq)⟩;rw [Lz (hL1.mem (hM p (by simp))),Lz (hL1.mem (hM q (List.mem_cons_of_mem _ hq)))];by_cases e:q.1=p.1
     . exact Or.inr (Or.inr e)
     . refine Or.inr (Or.inl fun e'=>e ?_)
       have e':=Option.some.inj e';unfold sg at e';split at e'<;>split at e'
       . exact e'
       . rename_i h1 h2;have:=hb _ h1;omega
       . rename_i h1 h2;have:=hb _ h2;omega
       . omega
 exact key L1 fun _ h=>h
theorem S5 {H':Hp} {b:Nat} (_:BT ks xs1 L1) (hH:∀ p∈L1,H' (sg ks b p.1)=some (p.2.map (BJ (sg ks b)))):∀ i∈ks,(Go.Psl.lk L1 i).isSome=true->rx ks xs1 b i=some i/\(H' i).isSome=true:=fun i hi hs=>by
 obtain ⟨x,hx⟩:=Option.isSome_iff_exists.1 hs;have:=hH (i,x) (B4 hx);rw [show sg ks b i=i by simp [sg,hi]] at this;exact ⟨by simp [rx,hi],by rw [this];rfl⟩
theorem AAc {ρ:Nat->Option Nat} {H h:Hp}:∀ {M:List Nat},(∀ i∈M,(h i).isSome=true->ρ i=some i/\(H i).isSome=true)->DZ ρ H h M
 | [],_=>trivial
 | i::r,hM=>⟨hM i (by simp),AAc fun j hj=>hM j (List.mem_cons_of_mem _ hj)⟩
theorem IG {ρ:Nat->Option Nat} {H h:Hp} {n:Nat}:∀ {M:List Nat},(∀ i∈M,i<n)->(∀ i∈M,(h i).isSome=true->ρ i=some i/\(H i).isSome=true)->HD ρ H h n M
 | [],_,_=>trivial
 | i::r,hn,hM=>⟨hn i (by simp),hM i (by simp),IG (fun j hj=>hn j (List.mem_cons_of_mem _ hj)) fun j hj=>hM j (List.mem_cons_of_mem _ hj)⟩
theorem AI.keepX {st:St} {b:Nat} (hs:∀ i,E.stab i↔i∈ks) (h:BT ks xs1 L1) (hb:∀ i∈ks,i<b) (hH:∀ p∈L1,st.H (sg ks b p.1)=some (p.2.map (BJ (sg ks b)))) {n:Nat} (hn:∀ i∈ks++xs1,i<n) (l:List (Nat × V)) (h1:CL (rx ks xs1 b) st.fr l) (h4:Bw n l):AI P E st ⟨AO l,Go.Psl.lk L1,n⟩:=
 AI.mkM hs (rx ks xs1 b) l L1 n h1 (Og h hH) (Ya h hb) h4 (h.ids hn) (IG (fun i hi=>hn i (List.mem_append_left _ hi)) (S5 h hH))
theorem Dc.keepX {fn:Func} {st:St} {b:Nat} (hn:fn.results= #[]) (h:BT ks xs1 L1) (hb:∀ i∈ks,i<b) (hH:∀ p∈L1,st.H (sg ks b p.1)=some (p.2.map (BJ (sg ks b)))):Dc Γ fn ks (.tup []) L1 st:=
 ⟨[],rx ks xs1 b,by rw [hn];rfl,rfl,by simp,Og h hH,Ya h hb,AAc (S5 h hH)⟩
theorem Jd {H:Hp} {av args:List V} {res:Res} (hL:BT ks xs L) (hL1:BT ks xs1 L1) (hx:∀ i∈xs1,i<1048576) (hH:∀ i∈ks++xs,H i=Go.Psl.lk L i) (hb:AJ (Bor noH) av args):IB H av args (Go.Psl.lk L) ks res (Go.Psl.lk L1):=
 ⟨fun i cs h=>by rw [hH i (hL.isIn.1 (by rw [h];rfl)),h],fun i h hn=>by
   rcases List.mem_append.1 (hL1.isIn.1 h) with h | h
   . exact absurd h hn
   . exact hx i h,fun i hi=>by
   obtain ⟨x,hx⟩:=Option.isSome_iff_exists.1 (hL.isIn.2 (List.mem_append_left _ hi));exact ⟨x,hx,(hL.cells (i,x) (B4 hx)).1⟩,Or.inl hb⟩
theorem kO {c:V} (h:CX ks xs c):WC (rid (ks++xs)) c c:=by
 cases c with
 | lr fr nt ps pa pb jmp=>exact ⟨rfl,fun t=>AV.mono (fun i hi=>Cr (List.mem_append_left _ hi)) (fun _ h=>h) (h t)⟩
 | cl f cs=>exact h
 | junk=>exact h
 | d x=>exact h
 | lp i o=>exact h
 | ls i o l z=>exact h
 | yl i=>exact h
 | agg cs=>exact h
 | tup cs=>exact h
theorem BT.same (h:BT ks xs L):A4 (ks++xs) L:=⟨h.names,h.nd,fun p hp=>⟨(h.cells p hp).1,(h.cells p hp).2.1,fun c hc=>kO ((h.cells p hp).2.2 c hc)⟩⟩
theorem AI.sameX {st:St} (hs:∀ i,E.stab i↔i∈ks) (h:BT ks xs L) (hH:st.H=Go.Psl.lk L) {n:Nat} (hn:∀ i∈ks++xs,i<n) (l:List (Nat × V)) (h1:CL (rid (ks++xs)) st.fr l) (h4:Bw n l):AI P E st ⟨AO l,Go.Psl.lk L,n⟩:=
 AI.mkM hs (rid (ks++xs)) l L n h1 (h.same.hp fun i _=>by rw [hH]) h.same.inj h4 (h.ids hn) (IG (fun i hi=>hn i (List.mem_append_left _ hi)) fun i hi hs=>⟨Cr (List.mem_append_left _ hi),by rw [hH];exact hs⟩)
theorem Dc.sameX {fn:Func} {st:St} (hn:fn.results= #[]) (h:BT ks xs L) (hH:st.H=Go.Psl.lk L):Dc Γ fn ks (.tup []) L st:=
 ⟨[],rid (ks++xs),by rw [hn];rfl,rfl,by simp,h.same.hp fun i _=>by rw [hH],h.same.inj,AAc fun i hi hs=>⟨Cr (List.mem_append_left _ hi),by rw [hH];exact hs⟩⟩
theorem Fp.keepX {H:Hp} {b k:Nat} {av:List V} {Kc Kx:V->Hp->Prop} (args:List V) (L L1:List (Nat × List V)) (ks xs xs1:List Nat) (r:D) (hf:Ym P k args (Go.Psl.lk L) ks (.ret (.d r)) (Go.Psl.lk L1)) (hL:BT ks xs L) (hL1:BT ks xs1 L1) (hx:∀ i∈xs1,i<1048576)
   (hrec:∃ fr nt ps pa pb jmp,Go.Psl.lk L k=some [.lr fr nt ps pa pb jmp]/\ps.length=args.length) (hH:∀ i∈ks++xs,H i=Go.Psl.lk L i) (hb:AJ (Bor noH) av args) (hk:Kc (.d r) (BI H b (Go.Psl.lk L) ks (Go.Psl.lk L1))):Fp P none H H b k av Kc Kx:=
 ⟨rfl,args,Go.Psl.lk L,ks, .ret (.d r),Go.Psl.lk L1,_,⟨hf,hrec,Jd hL hL1 hx hH hb⟩,rfl,hk⟩
theorem Ym.ofX (hΓ:GOk P Γ) (hE:EB P eqs) (hm:P.follows .mixedOrders=true) {k:Nat} {fr:Nat->V} {nt:Nat} {ps:List Nat} {pa pb:PC} {args:List V} {s:LSt} (N:Nat)
   (hL:BT ks xs L) (hL1:BT ks xs1 L1) (hlt:∀ i∈ks++xs,i<N) (hkk:k∈ks) (hk:Go.Psl.lk L k=some [.lr fr nt ps pa pb .ready]) (hlen:ps.length=args.length) (hps:∀ p∈ps,p<nt) (hcl:∀ v∈args,A2 (· < N) AR v)
   (h:Rnd P Γ eqs k fr nt ps pa pb args (Go.Psl.lk L) ks s L1 N):Ym P k args (Go.Psl.lk L) ks (.ret (.d (.lit (.bool (FP s))))) (Go.Psl.lk L1):=
 Ym.of hΓ hE hm N hk hkk hlen hps hcl (A7.at (hL.ids hlt)) (fun i hi=>hlt i (List.mem_append_left _ hi)) hL1.res fun E h1 h2 _=>h.run E h1 h2
structure RndN (P:Program) (Γ:Tys) (eqs:Eqs) (k:Nat) (fr:Nat->V) (nt:Nat) (ps:List Nat) (pa pb:PC) (args:List V) (Hin:Hp) (ks:List Nat) (s:LSt) (H1:List (Nat × List V)) (N:Nat):Prop where
 run:∀ E:Ent,E.nt=nt->(∀ i,E.stab i↔i∈ks)->E.rd=some (E.β0 k)->PW P Γ eqs E pa (DP (fun st=>st.H k=some [.lr fr nt ps pa pb .ready]/\PW P Γ eqs E pb (rH k (.lr fr nt ps pa pb) s ks H1) ⟨st.fr,upd st.H k (some [.lr fr nt ps pa pb .busy]),st.nx⟩) (fun _ _=>False)) ⟨BD fr ps args,Hin,N⟩
theorem Ym.ofXN (hΓ:GOk P Γ) (hE:EB P eqs) (hm:P.follows .mixedOrders=true) {k:Nat} {fr:Nat->V} {nt:Nat} {ps:List Nat} {pa pb:PC} {args:List V} {s:LSt} (N:Nat)
   (hL:BT ks xs L) (hL1:BT ks xs1 L1) (hlt:∀ i∈ks++xs,i<N) (hkk:k∈ks) (hk:Go.Psl.lk L k=some [.lr fr nt ps pa pb .ready]) (hlen:ps.length=args.length) (hps:∀ p∈ps,p<nt) (hcl:∀ v∈args,A2 (· < N) AR v)
   (h:RndN P Γ eqs k fr nt ps pa pb args (Go.Psl.lk L) ks s L1 N):Ym P k args (Go.Psl.lk L) ks (.ret (.d (.lit (.bool (FP s))))) (Go.Psl.lk L1):=
 Ym.of hΓ hE hm N hk hkk hlen hps hcl (A7.at (hL.ids hlt)) (fun i hi=>hlt i (List.mem_append_left _ hi)) hL1.res h.run
theorem E3.keepXN {fo:Operand} {ps:List Nat} {pa pb:PC} {Q:Av->St->Prop} {f:Nat->V} {H:Hp} {n:Nat} {g:FuncId} {caps:List V} (L L1:List (Nat × List V)) (ks xs xs1:List Nat) (r:V) (jmp:LSt) (h0:E.rqN H/\E.nt≠AL4) (hg:Be (evF f fo)=some (g,caps))
   (hf:Cm P g (.yl n::caps) (Go.Psl.lk ((n,[.lr f E.nt ps pa pb .ready])::L)) (n::ks) (.ret r) (Go.Psl.lk ((n,[.lr f E.nt ps pa pb jmp])::L1)))
   (hL:BT (n::ks) xs ((n,[.lr f E.nt ps pa pb .ready])::L)) (hL1:BT (n::ks) xs1 ((n,[.lr f E.nt ps pa pb jmp])::L1)) (hx:∀ i∈xs1,i<1048576) (hlt:∀ i∈ks++xs,i<n) (hH:∀ i∈ks++xs,H i=Go.Psl.lk L i) (hb:AJ (Bor noH) caps caps)
   (hq:∀ F:Hp,(∀ p∈L1,F (sg (n::ks) (n+1048576) p.1)=some (p.2.map (BJ (sg (n::ks) (n+1048576)))))->(∀ i,i ∉ ks++xs->i<n->F i=H i)->Sm Q ⟨f,F,n+2097152⟩ jmp):PW P Γ eqs E (.rangeF fo ps pa pb) Q ⟨f,H,n⟩:=by
 have hH':∀ i∈n::ks++xs,upd H n (some [.lr f E.nt ps pa pb .ready]) i=Go.Psl.lk ((n,[.lr f E.nt ps pa pb .ready])::L) i:=fun i hi=>by
   simp only [AY,Go.Psl.lk];by_cases e:i=n
   . simp [e]
   . simp only [e,if_false]
     rw [List.cons_append] at hi;rcases List.mem_cons.1 hi with h | h
     . exact absurd h e
     . exact hH i h
 have hbk:∀ i∈n::ks++xs,i<n+1048576:=fun i hi=>by
   rw [List.cons_append] at hi;rcases List.mem_cons.1 hi with h | h
   . omega
   . have:=hlt i h;omega
 refine ⟨h0,g,caps, .yl n::caps,_,n::ks, .ret r,_,hg,⟨hf,Jd hL hL1 hx hH' ⟨rfl,hb⟩⟩,by simp,jmp,by simp [Go.Psl.lk],?_⟩;refine hq _ (fun p hp=>?_) fun i hi hin=>?_
 . have hm:p.1∈ks++xs1:=by
     have:=hL1.names;simp only [List.map_cons,List.cons_append,List.cons.injEq,true_and] at this;rw [<-this];exact List.mem_map.2 ⟨p,hp,rfl⟩
   have hne:sg (n::ks) (n+1048576) p.1≠n:=fun e=>by
     have hnd:=hL1.nd;rw [List.cons_append] at hnd;have hnm:=(List.nodup_cons.1 hnd).1;unfold sg at e;split at e
     . rw [e] at hm;exact hnm hm
     . omega
   simp only [AY,hne,if_false];exact Oe hL hL1 hbk (List.mem_cons_of_mem _ hp)
 . have hne:i≠n:=by omega
   simp only [AY,hne,if_false];rw [VL hL hL1 (by rw [List.cons_append];intro h;rcases List.mem_cons.1 h with h | h;exact hne h;exact hi h) (by omega)];simp [AY,hne]
theorem E3.keepX {fo:Operand} {ps:List Nat} {pa pb:PC} {Q:Av->St->Prop} {f:Nat->V} {H:Hp} {n:Nat} {g:FuncId} {caps:List V} (L L1:List (Nat × List V)) (ks xs xs1:List Nat) (r:V) (jmp:LSt) (h0:E.rq/\E.nt≠AL4) (hg:Be (evF f fo)=some (g,caps))
   (hf:Cm P g (.yl n::caps) (Go.Psl.lk ((n,[.lr f E.nt ps pa pb .ready])::L)) (n::ks) (.ret r) (Go.Psl.lk ((n,[.lr f E.nt ps pa pb jmp])::L1)))
   (hL:BT (n::ks) xs ((n,[.lr f E.nt ps pa pb .ready])::L)) (hL1:BT (n::ks) xs1 ((n,[.lr f E.nt ps pa pb jmp])::L1)) (hx:∀ i∈xs1,i<1048576) (hlt:∀ i∈ks++xs,i<n) (hH:∀ i∈ks++xs,H i=Go.Psl.lk L i) (hb:AJ (Bor noH) caps caps)
   (hq:∀ F:Hp,(∀ p∈L1,F (sg (n::ks) (n+1048576) p.1)=some (p.2.map (BJ (sg (n::ks) (n+1048576)))))->(∀ i,i ∉ ks++xs->i<n->F i=H i)->Sm Q ⟨f,F,n+2097152⟩ jmp):PW P Γ eqs E (.rangeF fo ps pa pb) Q ⟨f,H,n⟩:=
 E3.keepXN L L1 ks xs xs1 r jmp ⟨.inl h0.1,h0.2⟩ hg hf hL hL1 hx hlt hH hb hq
end
end Go.Psl
namespace Go.Psl
variable {P:Program} {Γ:Tys} {eqs:Eqs} {E:Ent}
def PWk (P:Program) (Γ:Tys) (eqs:Eqs) (E:Ent):Nat->PC->(Av->St->Prop)->St->Prop
 | 0,p,Q,st=>∃ st',AI P E st st'/\PW P Γ eqs E p Q st'
 | n+1, .seq a b,Q,st=>PW P Γ eqs E a (DP (fun st=>PWk P Γ eqs E n b Q st) Q) st
 | _+1,_,_,_=>False
theorem PWk.sound (hΓ:GOk P Γ) (hE:EB P eqs) (hm:P.follows .mixedOrders=true):∀ (n:Nat) (c:Code) (p:PC),AK E.nt c=some p->∀ (Q:Av->St->Prop) (st:St),PWk P Γ eqs E n p Q st->AW P E c Q st
 | 0,c,p,hc,Q,st,⟨st',hw,h⟩=>AW.weak hw (PW.sound hΓ hE hm c p hc Q st' h)
 | n+1,c,p,hc,Q,st,h=>by
   cases c with
   | seq a b=>
     simp only [AK,Option.bind_eq_some_iff,Option.map_eq_some_iff] at hc;obtain ⟨x,hx,y,hy,rfl⟩:=hc;refine AW.seq (AW.mono (PW.sound hΓ hE hm a x hx _ _ h) fun e st hq=>?_);cases e with
     | normal=>exact PWk.sound hΓ hE hm n b y hy Q st hq
     | _=>exact hq
   | region id ops draw=>
     exfalso;cases draw with
     | false=>
       simp only [AK,Bool.false_eq_true,if_false,Option.ite_none_right_eq_some,Option.some.injEq] at hc;obtain ⟨hd,rfl⟩:=hc;exact h
     | true=>
       simp only [AK,if_true,Option.ite_none_right_eq_some,Option.some.injEq] at hc;obtain ⟨hd,rfl⟩:=hc;revert h;unfold M8;split<;>exact fun h=>h
   | cond c a b=>
     simp only [AK,Option.bind_eq_some_iff,Option.map_eq_some_iff] at hc;obtain ⟨x,hx,y,hy,rfl⟩:=hc;exact False.elim h
   | block id a=>
     simp only [AK,Option.map_eq_some_iff] at hc;obtain ⟨x,hx,rfl⟩:=hc;exact False.elim h
   | loop a=>
     simp only [AK,Option.map_eq_some_iff] at hc;obtain ⟨x,hx,rfl⟩:=hc;exact False.elim h
   | rangeFunc fo ps a b=>
     simp only [AK,Option.bind_eq_some_iff,Option.map_eq_some_iff] at hc;obtain ⟨x,hx,y,hy,rfl⟩:=hc;exact False.elim h
   | skip=>cases hc;exact False.elim h
   | ret=>cases hc;exact False.elim h
   | exit id=>cases hc;exact False.elim h
   | _=>cases hc
end Go.Psl
namespace Go.Psl
variable {P:Program}
theorem Cm.give {f:FuncId} {args args':List V} {Hin:Hp} {res:Res} {H1:Hp} (h:Cm P f args (fun _=>none) [] res H1) (hf:AJ (Fz1 Hin) args' args):Cm P f args' Hin [] res H1:=by
 refine ⟨h.1,fun G W xs him hargs hpre=>?_⟩
 have him'0:∀ b,Jw G Hin b->b<W.heap.size:=fun b hb=>by
   rcases hb with hb | ⟨i,hi,hph,rfl⟩
   . exact him.1 b hb
   . cases hc:Hin i with
     | none=>simp [InH,hc] at hi
     | some cs=>
       rcases hpre.hb i cs hc with ⟨h1,_⟩ | ⟨_,_,_,c,T,h3,_⟩ | ⟨_,_,_,⟨_,fr,nt,ps,pa,pb,jmp,rec,_,h4,_⟩ | ⟨_,es,ms,ck,_,h4,_⟩ | ⟨_,bx,bp,bv,_,h4,_⟩⟩
       . rw [h1] at hph;cases hph
       . exact (Array.getElem?_eq_some_iff.1 h3.choose_spec.1).1
       . exact (Array.getElem?_eq_some_iff.1 h4).1
       . exact (Array.getElem?_eq_some_iff.1 h4).1
       . exact (Array.getElem?_eq_some_iff.1 h4).1
 have him':GW (Jw G Hin) W:=⟨him'0,him.2.mono fun b hb=>⟨.inl hb,rfl⟩⟩
 have hargs':AJ (R2 {G with Im:=Jw G Hin} W) args xs.toList:=AJ.of_get (by rw [<-hf.length,hargs.length]) fun i a x ha hx=>by
   obtain ⟨a',ha',hr⟩:=hf.get2 ha;obtain ⟨y,hy,hry⟩:=hargs.get ha';rw [hx] at hy;cases hy;exact fz1 hpre.hb hr hry
 have hno:∀ b,¬ Bm {G with Im:=Jw G Hin} (fun _=>none) b:=fun b ⟨i,hi,_⟩=>by simp [InH] at hi
 refine Calls.mono (h.2 {G with Im:=Jw G Hin} W xs him' hargs' ⟨fun i cs hc=>(by cases hc),fun i j hi=>(by simp [InH] at hi),fun i hi=>(by cases hi)⟩) fun e W' ⟨G',p⟩=>?_
 refine ⟨G',p.os,p.tape,p.output,p.drawn,p.size,fun b hb _=>p.block b hb (hno b),fun b hb=>?_,fun b hb=>p.im0 b (.inl hb),p.rv,p.wf,fun i cs hc=>?_,p.inj,fun i hi=>(by cases hi)⟩
 . obtain ⟨h1,h2⟩:=p.im b hb
   refine ⟨h1,?_⟩;rcases h2 with (h2 | ⟨i,hi,hph,rfl⟩) | h2 | h2
   . exact .inl h2
   . exact .inr (.inr ⟨i,hi,hph,rfl⟩)
   . exact .inr (.inl h2)
   . exact absurd h2 (hno b)
 . obtain ⟨h1,h2,h3⟩:=p.hb i cs hc
   refine ⟨h1,fun hp=>?_,h3⟩;rcases h2 hp with h2 | h2
   . exact .inl h2
   . exact absurd h2 (hno _)
end Go.Psl
namespace Go.Air
structure Nws where
 po:Int
 ki:Int
 se:Int
 ca:Int
 lo:Int
 hi:Int
deriving DecidableEq,Inhabited
structure Rts where
 p:Int
 t:Int
 w:Int
def ALy (r:Rts) (k:Int):Int:=if k=1 then r.p else if k=2 then r.t else r.w
def ALk (po ki nw:Int) (x:Nws):Bool:=decide (x.po=po)&&decide (x.ki=ki)&&decide (x.ca<=nw)
def C2 (po ki nw:Int):Nat->List Nws->List (Nat × Nws)
 | _,[]=>[]
 | i,x::l=>if ALk po ki nw x then (i,x)::C2 po ki nw (i+1) l else C2 po ki nw (i+1) l
def ALb (po ki nw:Int) (l:List Nws) (i:Nat):Nat:=((l.take i).filter (ALk po ki nw)).length
def ALN (r:Rts) (x:Nws) (at_:Int):Int:=ALy r x.ki*max (at_-x.se) (x.se-at_)
def ALJ (r:Rts) (x:Nws) (at_:Int):Int × Int:=(x.lo-ALN r x at_,x.hi+ALN r x at_)
theorem AMA {po ki nw:Int} {l:List Nws}:ALb po ki nw l 0=0:=rfl
theorem ANq {po ki nw:Int} {l:List Nws} {i:Nat} {x:Nws} (h:l[i]?= some x):ALb po ki nw l (i+1)=ALb po ki nw l i+if ALk po ki nw x then 1 else 0:=by
 unfold ALb;rw [List.take_add_one,h,List.filter_append,List.length_append]
 show _+([x].filter _).length=_
 rw [List.filter_cons];split<;>rfl
theorem AL2 {po ki nw:Int}:∀ (l:List Nws) (i:Nat),(C2 po ki nw i l).length=(l.filter (ALk po ki nw)).length
 | [],_=>rfl
 | x::l,i=>by
   rw [C2,List.filter_cons];split
   . rw [List.length_cons,List.length_cons,AL2 l]
   . exact AL2 l _
theorem AOn {po ki nw:Int} (l:List Nws) (j:Nat):ALb po ki nw l l.length=(C2 po ki nw j l).length:=by
 unfold ALb;rw [List.take_length,AL2]
theorem AND {po ki nw:Int}:∀ {l:List Nws} {i j:Nat} {x:Nws},l[i]?= some x->ALk po ki nw x=true->(C2 po ki nw j l)[ALb po ki nw l i]?= some (j+i,x)
 | [],_,_,_,h,_=>by simp at h
 | y::l,0,j,x,h,hx=>by
   simp at h;subst h;rw [AMA,C2,if_pos hx];rfl
 | y::l,i+1,j,x,h,hx=>by
   have ih:=AND (l:=l) (i:=i) (j:=j+1) (by simpa using h) hx
   have e:ALb po ki nw (y::l) (i+1)=(if ALk po ki nw y then 1 else 0)+ALb po ki nw l i:=by
     unfold ALb;rw [List.take_succ_cons,List.filter_cons];split<;>simp;omega
   rw [e,C2];split
   . rw [Nat.add_comm 1,List.getElem?_cons_succ,ih,show j+1+i=j+(i+1) by omega]
   . rw [Nat.zero_add,ih,show j+1+i=j+(i+1) by omega]
theorem ALp {po ki nw:Int}:∀ {l:List Nws} {j i:Nat} {x:Nws},(i,x)∈C2 po ki nw j l->j<=i/\l[i-j]?= some x/\ALk po ki nw x=true
 | [],_,_,_,h=>by cases h
 | y::l,j,i,x,h=>by
   rw [C2] at h;split at h
   . rcases List.mem_cons.1 h with h | h
     . cases h
       exact ⟨Nat.le_refl _,by simp,by assumption⟩
     . obtain ⟨h1,h2,h3⟩:=ALp h
       refine ⟨by omega,?_,h3⟩;rw [show i-j=i-(j+1)+1 by omega,List.getElem?_cons_succ,h2]
   . obtain ⟨h1,h2,h3⟩:=ALp h
     refine ⟨by omega,?_,h3⟩;rw [show i-j=i-(j+1)+1 by omega,List.getElem?_cons_succ,h2]
end Go.Air
namespace Go.Proofs.Tryz
open Go.Psl
open Go.Air
abbrev nwL (x:Nws):List D:=[di x.po,di x.ki,di x.se,di x.ca,di x.lo,di x.hi]
abbrev nwV (x:Nws):V:= .agg [vi x.po,vi x.ki,vi x.se,vi x.ca,vi x.lo,vi x.hi]
abbrev ALV (l:List Nws):D:= .sl 6 (l.map nwL)
abbrev cF (l:List Nws) (r:Rts):D:= .ref [ALV l,di 0,di r.p,di r.t,di r.w,di r.w]
theorem AQg (d:D) (po ki nw:Int):Ct prog 84 [.d d,vi po,vi ki,vi nw] (.cl 128 [.lp 0 0, .lp 1 0, .lp 2 0, .lp 3 0]) [(0,[.d d]),(1,[vi po]),(2,[vi ki]),(3,[vi nw])]:=by
 refine CB func84 c84 fun E hE=>?_
 simp [p84];refine AB.by (lk [(0,0),(1,1048576),(2,2097152),(3,3145728)]) ?_;simp [results84]
theorem AMG {P:Program} {E:Ent} {ks xs:List Nat} {L:List (Nat × List V)} {st:St} (hs:∀ i,E.stab i↔i∈ks) (h:BT ks xs L) (hH:∀ i∈ks++xs,st.H i=lk L i) {n:Nat} (hn:∀ i∈ks++xs,i<n) (l:List (Nat × V)) (h1:CL (rid (ks++xs)) st.fr l) (h4:Bw n l):AI P E st ⟨AO l,lk L,n⟩:=
 AI.mkM hs (rid (ks++xs)) l L n h1 (h.same.hp hH) h.same.inj h4 (h.ids hn) (IG (fun i hi=>hn i (List.mem_append_left _ hi)) fun i hi hs=>⟨Cr (List.mem_append_left _ hi),by rw [hH i (List.mem_append_left _ hi)];exact hs⟩)
theorem ALv (ns:List Nws) (r:Rts) (hl:ns.length<=1000000) (po ki nw:Int) (KS:List Nat) (XS:Nat->List Nat) (k b0 b1 b2 b3 m:Nat) (go:Nat->Bool) (L:Nat->List (Nat × List V)) (hk:k∈KS) (h0:b0∈KS) (h1:b1∈KS) (h2:b2∈KS) (h3:b3∈KS) (hN:∀ i∈KS,i<1000000000) (hX:∀ i,∀ x∈XS i,x<1048576) (hL:∀ i,i<=m->BT KS (XS i) (L i))
   (hrec:∀ i,i<=m->∃ fr nt ps pa pb jmp,lk (L i) k=some [.lr fr nt ps pa pb jmp]/\ps.length=2) (hb0:∀ i,i<=m->lk (L i) b0=some [.d (cF ns r)]) (hb1:∀ i,i<=m->lk (L i) b1=some [vi po]) (hb2:∀ i,i<=m->lk (L i) b2=some [vi ki]) (hb3:∀ i,i<=m->lk (L i) b3=some [vi nw])
   (hm:m<=(C2 po ki nw 0 ns).length) (hgo:∀ j,j+1<m->go j=true) (hend:m=(C2 po ki nw 0 ns).length/\(0<m->go (m-1)=true)\/(0<m/\go (m-1)=false))
   (hY:∀ j i x,j<m->(C2 po ki nw 0 ns)[j]?= some (i,x)->Ym prog k [vi i,nwV x] (lk (L j)) KS (.ret (vb (go j))) (lk (L (j+1)))):
   Cm prog 128 [.yl k, .lp b0 0, .lp b1 0, .lp b2 0, .lp b3 0] (lk (L 0)) KS (.ret (.tup [])) (lk (L m)):=by
 have hNX:∀ i,∀ x∈KS++XS i,x<1000000000:=fun i x hx=>by
   rcases List.mem_append.1 hx with h | h
   . exact hN x h
   . have:=hX i x h;omega
 refine Cm.by gok eok mixed 1000000000 func128 c128 rfl (by simp [ntmps128]) (by simp;exact ⟨hN k hk,hN b0 h0,hN b1 h1,hN b2 h2,hN b3 h3⟩) (A7.at ((hL 0 (by omega)).ids (hNX 0))) hN ⟨by simp,(hL _ (Nat.le_refl _)).res⟩ fun E hs hE=>?_
 have q0:=hN b0 h0;have q1:=hN b1 h1;have q2:=hN b2 h2;have q3:=hN b3 h3;have rk:∀ i b x,x∈KS->rx KS (XS i) b x=some x:=fun i b x hx=>by simp [rx,hx]
 have c0:=hb0 0 (by omega);have hca:=AOn (po:=po) (ki:=ki) (nw:=nw) ns 0;simp [p128,c0];refine Al (α:=Nat) (fun i=>⟨AO [(0, .yl k),(1, .lp b0 0),(2, .lp b1 0),(3, .lp b2 0),(4, .lp b3 0),(11, .d (ALV ns)),(12,vi ns.length),(13,vi i)],lk (L (ALb po ki nw ns i)),1000000000⟩) (fun i=>i<=ns.length/\ALb po ki nw ns i<=m/\(ALb po ki nw ns i=m->m=(C2 po ki nw 0 ns).length)) (fun i=>ns.length-i) 0 ?_ ?_ ?_
 . rw [AMA]
   refine ⟨by omega,by omega,fun e=>?_⟩;rcases hend with h | h
   . exact h.1
   . omega
 . rw [AMA]
   refine AI.sameX hs (hL 0 (by omega)) rfl (hNX 0) _ ?_ ?_
   . simp [rid,hk,h0,h1,h2,h3]
   . simp [hN k hk,q0,q1,q2,q3]
 . rintro i ⟨hi,hcm,hce⟩
   have hz:=@wz i (by omega);have d1:=hb1 _ hcm;have d2:=hb2 _ hcm;have d3:=hb3 _ hcm;by_cases h:i<ns.length
   . obtain ⟨x,hx⟩:=gE h
     have hI:(i:Int)<ns.length:=by omega
     have hcs:=ANq (po:=po) (ki:=ki) (nw:=nw) hx;have na:∀ b:Nat,b<1000000000->∀ z,1000000000<=z->¬ b=z:=fun b hb z hz=>by omega
     cases hh:ALk po ki nw x with
     | false=>
       rw [hh] at hcs;simp at hcs;rw [ALk] at hh;by_cases e1:x.po=po
       . by_cases e2:x.ki=ki
         . have e3:¬ x.ca<=nw:=by simpa [e1,e2] using hh
           simp [AMI,hI,hx,d1,d2,d3,e1,e2,e3,na b1 q1,na b2 q2,na b3 q3,AA,hz];refine ⟨i+1,⟨by omega,by rw [hcs];exact hcm,by rw [hcs];exact hce⟩,by omega,?_⟩;rw [hcs];refine AMG hs (hL _ hcm) (fun q hq=>?_) (hNX _) _ ?_ ?_
           . have:=hNX _ q hq
             have hq2:q≠1004194304:=by omega
             simp [hq2]
           . simp [rid,hk,h0,h1,h2,h3]
           . simp [hN k hk,q0,q1,q2,q3]
         . simp [AMI,hI,hx,d1,d2,e1,e2,na b1 q1,na b2 q2,AA,hz]
           refine ⟨i+1,⟨by omega,by rw [hcs];exact hcm,by rw [hcs];exact hce⟩,by omega,?_⟩;rw [hcs];refine AMG hs (hL _ hcm) (fun q hq=>?_) (hNX _) _ ?_ ?_
           . have:=hNX _ q hq
             have hq2:q≠1004194304:=by omega
             simp [hq2]
           . simp [rid,hk,h0,h1,h2,h3]
           . simp [hN k hk,q0,q1,q2,q3]
       . simp [AMI,hI,hx,d1,e1,na b1 q1,AA,hz]
         refine ⟨i+1,⟨by omega,by rw [hcs];exact hcm,by rw [hcs];exact hce⟩,by omega,?_⟩;rw [hcs];refine AMG hs (hL _ hcm) (fun q hq=>?_) (hNX _) _ ?_ ?_
         . have:=hNX _ q hq
           have hq2:q≠1004194304:=by omega
           simp [hq2]
         . simp [rid,hk,h0,h1,h2,h3]
         . simp [hN k hk,q0,q1,q2,q3]
     | true=>
       rw [hh,if_pos rfl] at hcs;simp only [ALk,Bool.and_eq_true,decide_eq_true_eq] at hh;obtain ⟨⟨e1,e2⟩,e3⟩:=hh;simp [AMI,hI,hx,d1,d2,d3,e1,e2,e3,na b1 q1,na b2 q2,na b3 q3,AA];have hat:=AND (po:=po) (ki:=ki) (nw:=nw) (j:=0) hx (by simp [ALk,e1,e2,e3]);rw [Nat.zero_add] at hat
       have hlt:ALb po ki nw ns i<m:=by
         rcases Nat.lt_or_ge (ALb po ki nw ns i) m with h | h
         . exact h
         . have:=hce (by omega)
           have:=(List.getElem?_eq_some_iff.1 hat).1;omega
       have hY':=hY _ i x hlt hat;obtain ⟨fr,nt,ps,pa,pb,jmp,hr1,hr2⟩:=hrec _ hcm
       generalize hc:ALb po ki nw ns i=c at*
       have hL1:=hL (c+1) hlt;have hbb:∀ q∈KS++XS c,q<1028311552:=fun q hq=>by have:=hNX c q hq;omega
       have hbk:∀ q∈KS,q<1028311552:=fun q hq=>by have:=hN q hq;omega
       refine Fp.keepX [vi i,nwV x] (L c) (L (c+1)) KS (XS c) (XS (c+1)) _ hY' (hL c hcm) hL1 (hX _) ⟨fr,nt,ps,pa,pb,jmp,hr1,hr2⟩ (fun q hq=>?_) (by simp [e1,e2]) ?_
       . have:=hNX _ q hq
         have hq2:q≠1004194304:=by omega
         simp [hq2]
       . cases hg:go c with
         | true=>
           simp [hz];refine ⟨i+1,⟨by omega,by rw [hcs];omega,fun e=>?_⟩,by omega,?_⟩
           . rcases hend with h | h
             . exact h.1
             . rw [hcs] at e
               rw [<-e,show c+1-1=c by omega,hg] at h;simp at h
           . rw [hcs]
             refine AI.keepX (b:=1028311552) hs hL1 hbk (fun p hp=>Oe (hL c hcm) hL1 hbb hp) (hNX _) _ ?_ ?_
             . simp [rk,hk,h0,h1,h2,h3]
             . simp [hN k hk,q0,q1,q2,q3]
         | false=>
           have hm1:m=c+1:=by
             rcases Nat.lt_or_ge (c+1) m with h | h
             . rw [hgo c h] at hg;cases hg
             . omega
           simp;rw [hm1];exact Dc.keepX rfl hL1 hbk (fun p hp=>Oe (hL c hcm) hL1 hbb hp)
   . have hI:¬ (i:Int)<ns.length:=by omega
     have e:i=ns.length:=by omega
     simp [AMI,hI]
     have hmc:ALb po ki nw ns i=m:=by
       rw [e] at hcm ⊢;omega
     rw [hmc];exact Dc.sameX rfl (hL m (Nat.le_refl _)) rfl
end Go.Proofs.Tryz
namespace Go.Air
structure OkN (x:Nws):Prop where
 po:0<=x.po/\x.po<=15
 ki:1<=x.ki/\x.ki<=4
 tm:0<=x.se/\x.se<=x.ca/\x.ca<=1000000
 v: -12000<=x.lo/\x.lo<=x.hi/\x.hi<=12000
structure OkR (r:Rts):Prop where
 p:0<=r.p/\r.p<=100
 t:0<=r.t/\r.t<=100
 w:0<=r.w/\r.w<=100
theorem AOC {r:Rts} (h:OkR r) (k:Int):0<=ALy r k/\ALy r k<=100:=by
 unfold ALy;split
 . exact h.p
 . split
   . exact h.t
   . exact h.w
theorem AOD {r:Rts} (h:OkR r) {x:Nws} (hx:OkN x) {t:Int} (ht:0<=t/\t<=1000000):0<=ALN r x t/\ALN r x t<=100000000:=by
 have h1:=AOC h x.ki;have h2:=hx.tm;unfold ALN;have h3:0<=max (t-x.se) (x.se-t)/\max (t-x.se) (x.se-t)<=1000000:=by omega
 exact ⟨Int.mul_nonneg h1.1 h3.1,Int.le_trans (Int.mul_le_mul h1.2 h3.2 h3.1 (by omega)) (by omega)⟩
def ALc (s:Int × Int) (l:List (Int × Int)):Int × Int:=l.foldl (fun a x=>(max a.1 x.1,min a.2 x.2)) s
def AMB (l:List (Int × Int)):Int × Int:=ALc (l.headD (0,0)) l
end Go.Air
namespace Go.Proofs.Tryz
open Go.Psl
open Go.Air
theorem ASE (ns:List Nws) (r:Rts) (hr:OkR r) (x:Nws) (hx:OkN x) (t:Int) (ht:0<=t/\t<=1000000):Ct prog 85 [.d (cF ns r),nwV x,vi t] (vsp (ALJ r x t).1 (ALJ r x t).2) []:=by
 have hw:=AOD hr hx ht;have h2:=hx.tm;have h3:=hx.v;have hk:=hx.ki;have w1:IntKind.wrap .i64 (t-x.se)=t-x.se:=AD (by omega) (by omega);have w2:IntKind.wrap .i64 (x.se-t)=x.se-t:=AD (by omega) (by omega);have w3:IntKind.wrap .i64 (ALN r x t)=ALN r x t:=AD (by omega) (by omega);have w4:IntKind.wrap .i64 (x.lo-ALN r x t)=x.lo-ALN r x t:=AD (by omega) (by omega);have w5:IntKind.wrap .i64 (x.hi+ALN r x t)=x.hi+ALN r x t:=AD (by omega) (by omega);have hk4:x.ki=1\/x.ki=2\/x.ki=3\/x.ki=4:=by omega
 rcases hk4 with h | h | h | h
 . have e5:r.p*max (t-x.se) (x.se-t)=ALN r x t:=by unfold ALN ALy;rw [if_pos h]
   refine CB func85 c85 fun E hE=>?_
   simp [p85,h,AA,inC,Nat.testBit,w1,w2,e5,w3,w4,w5];apply RZ;simp [results85,ALJ]
 . have e5:r.t*max (t-x.se) (x.se-t)=ALN r x t:=by unfold ALN ALy;rw [if_neg (by omega),if_pos h]
   refine CB func85 c85 fun E hE=>?_
   simp [p85,h,AA,inC,Nat.testBit,w1,w2,e5,w3,w4,w5];apply RZ;simp [results85,ALJ]
 . have e5:r.w*max (t-x.se) (x.se-t)=ALN r x t:=by unfold ALN ALy;rw [if_neg (by omega),if_neg (by omega)]
   refine CB func85 c85 fun E hE=>?_
   simp [p85,h,AA,inC,Nat.testBit,w1,w2,e5,w3,w4,w5];apply RZ;simp [results85,ALJ]
 . have e5:r.w*max (t-x.se) (x.se-t)=ALN r x t:=by unfold ALN ALy;rw [if_neg (by omega),if_neg (by omega)]
   refine CB func85 c85 fun E hE=>?_
   simp [p85,h,AA,inC,Nat.testBit,w1,w2,e5,w3,w4,w5];apply RZ;simp [results85,ALJ]
theorem AOu {s:Int × Int} {l:List (Int × Int)} {i:Nat} {x:Int × Int} (h:l[i]?= some x):ALc s (l.take (i+1))=(max (ALc s (l.take i)).1 x.1,min (ALc s (l.take i)).2 x.2):=by
 unfold ALc;rw [List.take_add_one,h,List.foldl_append];rfl
theorem AMq (l:List (Int × Int)) (h0:l≠[]) (hl:l.length<=1000000):Ct prog 36 [.d (An l)] (vsp (AMB l).1 (AMB l).2) []:=by
 obtain ⟨s,rest,e⟩:=List.exists_cons_of_ne_nil h0;have hs:l[0]?= some s:=by rw [e];rfl
 have hd:l.headD (0,0)=s:=by rw [e];rfl
 have hL:0<l.length:=by rw [e];simp
 have hs0:l[0]=s:=by simp [e]
 unfold AMB;rw [hd];refine CB func36 c36 fun E hE=>?_
 simp [p36,hL,AA];refine Al (α:=Nat) (fun k=>⟨AO [(2, .lp 0 0),(3, .lp 1 0),(9, .d (An l)),(10,vi l.length),(11,vi k)],lk [(0,[vi 0,vi 0]),(1,[vi (ALc s (l.take k)).1,vi (ALc s (l.take k)).2])],2⟩) (fun k=>k<=l.length) (fun k=>l.length-k) 0 ?_ ?_ ?_
 . omega
 . have e0:ALc s (l.take 0)=s:=rfl
   rw [e0];refine AI.mk hE (lk [(0,0),(1,4194304)]) _ _ _ ?_ ?_ ?_ ?_ ?_<;>simp [hs0]
 . intro i hi
   have hz:=@wz i (by omega);by_cases h:i<l.length
   . obtain ⟨x,hx⟩:=gE h
     have hI:(i:Int)<l.length:=by omega
     have ht:=AOu (s:=s) hx;simp [AMk,hI,hx,AA];refine AL [(11,1)] (by kernel_rfl) ?_;simp [AA,inC,Nat.testBit,hz];refine ⟨i+1,by omega,by omega,?_⟩;rw [ht];exact WK hE (lk [(0,0),(1,1)])
   . have hI:¬ (i:Int)<l.length:=by omega
     obtain rfl:i=l.length:=by omega
     simp [AMk,AA];apply RZ;simp [results36]
end Go.Proofs.Tryz
namespace Go.Proofs.Tryz
open Go.Psl
open Go.Air
abbrev spL (s:Int × Int):List D:=[di s.1,di s.2]
theorem AQh:∀ x:Int × Int,(spL x).length=2:=fun _=>rfl
def kKS:List Nat:=[10485760,9437184,9437185,9437186,9437187,0,1048576,2097152,4194304]
def kXS (st:List (Int × Int)):List Nat:=if st=[] then [] else [7]
def kHd (st:List (Int × Int)):V:=if st=[] then .d (.lit (.slice none 0 0)) else .ls 7 0 st.length 2
def kBk (st:List (Int × Int)):List (Nat × List V):=if st=[] then [] else [(7,AH spL st)]
structure KnD where
 ns:List Nws
 r:Rts
 po:Int
 ki:Int
 t:Int
 nw:Int
def kL (d:KnD) (f:Nat->V) (z:LSt) (st:List (Int × Int)):List (Nat × List V):=(10485760,[.lr f 49 [23,24] ALt ALu z])::(9437184,[.d (cF d.ns d.r)])::(9437185,[vi d.po])::(9437186,[vi d.ki])::(9437187,[vi d.nw])::(0,[.d (cF d.ns d.r)])::(1048576,[vi d.t])::(2097152,[vi 0,vi 0])::(4194304,[kHd st])::kBk st
theorem AM2 (d:KnD) (f:Nat->V) (z:LSt) (st:List (Int × Int)) (hf:∀ t,AV (·∈kKS) AR (f t)):BT kKS (kXS st) (kL d f z st):=by
 have hd:∀ (ks xs:List Nat) (x:D),CX ks xs (.d x):=fun _ _ _=>rfl
 by_cases h:st=[]
 . refine ⟨by simp [kL,kBk,kXS,kKS,h],by simp [kXS,kKS,h],?_⟩
   intro q hq;simp only [kL,kBk,h,if_true,List.mem_cons,List.not_mem_nil,or_false] at hq;rcases hq with rfl | rfl | rfl | rfl | rfl | rfl | rfl | rfl | rfl
   . exact ⟨by simp,Or.inr (.inl ⟨_,_,_,_,_,_,rfl⟩),fun c hc=>by simp at hc;subst hc;exact hf⟩
   all_goals refine ⟨by simp,Or.inl rfl,fun c hc=>?_⟩
   all_goals simp only [List.mem_cons,List.not_mem_nil,or_false] at hc
   all_goals first | (subst hc;first | exact rfl | (simp only [kHd,if_true];exact rfl)) | (rcases hc with rfl | rfl<;>exact rfl)
 . refine ⟨by simp [kL,kBk,kXS,kKS,h],by simp [kXS,kKS,h],?_⟩
   intro q hq;simp only [kL,kBk,h,if_false,List.mem_cons,List.not_mem_nil,or_false] at hq;rcases hq with rfl | rfl | rfl | rfl | rfl | rfl | rfl | rfl | rfl | rfl
   . exact ⟨by simp,Or.inr (.inl ⟨_,_,_,_,_,_,rfl⟩),fun c hc=>by simp at hc;subst hc;exact hf⟩
   . exact ⟨by simp,Or.inl rfl,fun c hc=>by simp at hc;subst hc;exact rfl⟩
   . exact ⟨by simp,Or.inl rfl,fun c hc=>by simp at hc;subst hc;exact rfl⟩
   . exact ⟨by simp,Or.inl rfl,fun c hc=>by simp at hc;subst hc;exact rfl⟩
   . exact ⟨by simp,Or.inl rfl,fun c hc=>by simp at hc;subst hc;exact rfl⟩
   . exact ⟨by simp,Or.inl rfl,fun c hc=>by simp at hc;subst hc;exact rfl⟩
   . exact ⟨by simp,Or.inl rfl,fun c hc=>by simp at hc;subst hc;exact rfl⟩
   . exact ⟨by simp,Or.inl rfl,fun c hc=>by simp at hc;subst hc;exact rfl⟩
   . refine ⟨by simp,Or.inl (by simp [kHd,h]),fun c hc=>?_⟩
     simp only [List.mem_cons,List.not_mem_nil,or_false] at hc;subst hc;simp [CX,kHd,h,W1,W0,rid,kXS,kKS]
   . obtain ⟨a,t,e⟩:=List.exists_cons_of_ne_nil h
     refine ⟨by rw [e,CQ];simp,Or.inl (List.all_eq_true.2 fun c hc=>by obtain ⟨y,_,rfl⟩:=List.mem_map.1 (show c∈List.map V.d (List.map spL st).flatten from hc);rfl),fun c hc=>?_⟩;obtain ⟨y,_,rfl⟩:=List.mem_map.1 (show c∈List.map V.d (List.map spL st).flatten from hc);exact rfl
structure KnF (f:Nat->V):Prop where
 av:∀ t,AV (·∈kKS) AR (f t)
 f5:f 5= .lp 0 0
 f8:f 8= .lp 1048576 0
 f12:f 12= .lp 4194304 0
structure KnO (d:KnD):Prop where
 r:OkR d.r
 n:∀ x∈d.ns,OkN x
 l:d.ns.length<=1000
 t:0<=d.t/\d.t<=1000000
theorem AQi (s:Int × Int):AH spL [s]=[vi s.1,vi s.2]:=by simp [AH]
theorem AO4 (d:KnD) (hd:KnO d) (f:Nat->V) (hF:KnF f) (i:Nat) (x:Nws) (hx:OkN x) (st:List (Int × Int)) (hst:st.length<=1000):
   Ym prog 10485760 [vi i,nwV x] (lk (kL d f .ready st)) kKS (.ret (vb true)) (lk (kL d f .ready (st++[ALJ d.r x d.t]))):=by
 obtain ⟨hf,f5,f8,f12⟩:=hF
 have hlt:∀ j∈kKS++kXS st,j<11534336:=by
   intro j hj;simp only [kKS,kXS,List.mem_append,List.mem_cons,List.not_mem_nil,or_false] at hj;split at hj<;>simp at hj<;>omega
 have hW:∀ z (ρ:Nat->Option Nat),(∀ j∈kKS,ρ j=some j)->WC ρ (.lr f 49 [23,24] ALt ALu z) (.lr f 49 [23,24] ALt ALu z):=fun z ρ hρ=>⟨rfl,fun t=>AV.mono (fun j hj=>hρ j hj) (fun _ h=>h) (hf t)⟩
 have hC:∀ z,Bv [.lr f 49 [23,24] ALt ALu z]:=fun z=>Or.inr (.inl ⟨_,_,_,_,_,_,rfl⟩)
 have cs:=ASE d.ns d.r hd.r x hx d.t hd.t;refine Ym.ofX (k:=10485760) (fr:=f) (nt:=49) (ps:=[23,24]) (pa:=ALt) (pb:=ALu) (args:=[vi i,nwV x]) (s:= .ready) gok eok mixed 11534336 (AM2 d f .ready st hf) (AM2 d f .ready _ hf) hlt (by simp [kKS]) (by simp [kL]) (by simp) (by simp) (by simp) ?_;have hne:¬ (st++[ALJ d.r x d.t]=[]):=by simp
 have hsl:=Aw AQh st;have hwh:=E9 AQh st;have n1:(st.length+1)*16<=140737488355328:=by omega
 have n2:st.length<=9223372036854775806:=by omega
 generalize ALJ d.r x d.t=s at cs hne ⊢
 by_cases he:st=[]
 . refine ⟨fun E hE hs=>?_⟩
   unfold kL;simp only [he,kBk,kHd,if_true,if_false,List.nil_append,List.cons_ne_nil]
   generalize V.lr f 49 [23,24] ALt ALu=rc at hW hC ⊢
   simp [ALt,BD,AA];simp [ALu,f5,f8,f12,inC,Nat.testBit];refine CLb (cs) (by first | (simp;done) | simp [Bk,CP,inC,Nat.testBit]) ?_;simp [f12,AA,AM];have hW2:=hW .ready (lk [(10485760,10485760),(9437184,9437184),(9437185,9437185),(9437186,9437186),(9437187,9437187),(0,0),(1048576,1048576),(2097152,2097152),(4194304,4194304),(7,19922944)]) (by intro j hj;simp only [kKS,List.mem_cons,List.not_mem_nil,or_false] at hj;rcases hj with rfl | rfl | rfl | rfl | rfl | rfl | rfl | rfl | rfl<;>rfl);refine ⟨trivial,by simp,lk [(10485760,10485760),(9437184,9437184),(9437185,9437185),(9437186,9437186),(9437187,9437187),(0,0),(1048576,1048576),(2097152,2097152),(4194304,4194304),(7,19922944)],?_⟩;simp [hW2,hC,kKS,AQi]
 . refine ⟨fun E hE hs=>?_⟩
   unfold kL;simp only [he,hne,kBk,kHd,if_false]
   generalize V.lr f 49 [23,24] ALt ALu=rc at hW hC ⊢
   simp [ALt,BD,AA];simp [ALu,f5,f8,f12,inC,Nat.testBit];refine CLb (cs) (by first | (simp;done) | simp [Bk,CP,inC,Nat.testBit]) ?_;simp [f12,AA,AM,hsl,hwh,n1,n2];have hW2:=hW .ready (lk [(10485760,10485760),(9437184,9437184),(9437185,9437185),(9437186,9437186),(9437187,9437187),(0,0),(1048576,1048576),(2097152,2097152),(4194304,4194304),(7,19922944)]) (by intro j hj;simp only [kKS,List.mem_cons,List.not_mem_nil,or_false] at hj;rcases hj with rfl | rfl | rfl | rfl | rfl | rfl | rfl | rfl | rfl<;>rfl);refine ⟨trivial,by simp,lk [(10485760,10485760),(9437184,9437184),(9437185,9437185),(9437186,9437186),(9437187,9437187),(0,0),(1048576,1048576),(2097152,2097152),(4194304,4194304),(7,19922944)],?_⟩;simp [hW2,hC,kKS,IV]
def AQI (r:Rts) (x y:Nws):Int × Int:=(max (ALJ r x y.se).1 y.lo,min (ALJ r x y.se).2 y.hi)
def AMC (r:Rts) (x y:Nat × Nws):Bool:=decide (x.1<y.1)&&decide ((AQI r x.2 y.2).2<(AQI r x.2 y.2).1)
def ALs (r:Rts) (S:List (Nat × Nws)):Option (Nat × Nat):=S.findSome? fun x=>(S.find? fun y=>AMC r x y).map fun y=>(x.1,y.1)
def AL8:Option (Nat × Nat)->V
 | none=> .tup [vi 0,vi 0,vb false]
 | some p=> .tup [vi p.1,vi p.2,vb true]
def ALd (r:Rts) (S:List (Nat × Nws)) (t:Int):(Int × Int) × Int:=if S=[] then ((0,0),6) else if (ALs r S).isSome then ((0,0),24) else (AMB (S.map fun x=>ALJ r x.2 t),0)
def AMH (d:KnD) (j:Nat):List (Int × Int):=((C2 d.po d.ki d.nw 0 d.ns).take j).map fun x=>ALJ d.r x.2 d.t
theorem AQJ (d:KnD) (f:Nat->V) (z:LSt) (st:List (Int × Int)):kL d f z st=(10485760,[.lr f 49 [23,24] ALt ALu z])::((9437184,[.d (cF d.ns d.r)])::(9437185,[vi d.po])::(9437186,[vi d.ki])::(9437187,[vi d.nw])::(0,[.d (cF d.ns d.r)])::(1048576,[vi d.t])::(2097152,[vi 0,vi 0])::(4194304,[kHd st])::kBk st):=rfl
theorem APu (d:KnD) (hd:KnO d) (hc:Ct prog 86 [.d (cF d.ns d.r),vi d.po,vi d.ki,vi d.nw] (AL8 (ALs d.r (C2 d.po d.ki d.nw 0 d.ns))) []):Ct prog 35 [.d (cF d.ns d.r),vi d.po,vi d.ki,vi d.t,vi d.nw] (.tup [vsp (ALd d.r (C2 d.po d.ki d.nw 0 d.ns) d.t).1.1 (ALd d.r (C2 d.po d.ki d.nw 0 d.ns) d.t).1.2,vi (ALd d.r (C2 d.po d.ki d.nw 0 d.ns) d.t).2]) []:=by
 have c1:=AQg (cF d.ns d.r) d.po d.ki d.nw;obtain ⟨S,hS⟩:∃ S,S=C2 d.po d.ki d.nw 0 d.ns:=⟨_,rfl⟩
 refine Ct.byR gok eok mixed func35 c35 rfl (by simp [ntmps35]) (by simp) (by simp [LD]) fun E hE hnt'=>?_
 simp [p35];refine CLa c1 ?_;simp;have hnt:E.nt=49:=by rw [hnt'.1];exact ntmps35
 rw [<-JI (Γ:=tys) (eqs:=eqs)];obtain ⟨f,hf⟩:∃ f,f=upd (upd (upd (upd (upd (upd (upd (upd (upd (upd (Dn 0 [V.d (cF d.ns d.r),vi d.po,vi d.ki,vi d.t,vi d.nw]) 5 (V.lp 0 0)) 8 (V.lp 1048576 0)) 10 (V.lp 2097152 0)) 11 (V.d (D.lit (Value.int IntKind.i64 0)))) 12 (V.lp 4194304 0)) 18 (V.d (cF d.ns d.r))) 19 (vi d.po)) 20 (vi d.ki)) 21 (vi d.nw)) 22 (V.cl 128 [V.lp 9437184 0,V.lp 9437185 0,V.lp 9437186 0,V.lp 9437187 0]):=⟨_,rfl⟩
 have hfA:∀ t,AV (·∈kKS) AR (f t):=fun t=>by
   rw [hf];simp only [AY];split
   . intro c hc
     simp only [List.mem_cons,List.not_mem_nil,or_false] at hc;rcases hc with rfl | rfl | rfl | rfl
     . exact (by simp [kKS]:(9437184:Nat)∈kKS)
     . exact (by simp [kKS]:(9437185:Nat)∈kKS)
     . exact (by simp [kKS]:(9437186:Nat)∈kKS)
     . exact (by simp [kKS]:(9437187:Nat)∈kKS)
   repeat (split;· first | exact trivial | (show (_:Nat)∈kKS;simp [kKS]))
   simp only [Dn]
   repeat (split;· exact trivial)
   exact fun c hc=>by simp at hc
 have hFF:KnF f:=⟨hfA,by rw [hf];simp,by rw [hf];simp,by rw [hf];simp⟩
 have f22:f 22= .cl 128 [.lp 9437184 0, .lp 9437185 0, .lp 9437186 0, .lp 9437187 0]:=by rw [hf];simp
 have f10:f 10= .lp 2097152 0:=by rw [hf];simp
 have fa:f 1=vi d.po/\f 2=vi d.ki/\f 4=vi d.nw:=by rw [hf];simp [Dn]
 rw [<-hf]
 have hSl:(C2 d.po d.ki d.nw 0 d.ns).length<=1000:=by
   rw [AL2];exact Nat.le_trans (List.length_filter_le _ _) hd.l
 have hst:∀ j,(AMH d j).length<=1000:=fun j=>by
   unfold AMH;rw [List.length_map,List.length_take];omega
 have hsucc:∀ j i x,(C2 d.po d.ki d.nw 0 d.ns)[j]?= some (i,x)->AMH d (j+1)=AMH d j++[ALJ d.r x d.t]:=fun j i x h=>by
   unfold AMH;rw [List.take_add_one,h,List.map_append];rfl
 have hmem:∀ j i x,(C2 d.po d.ki d.nw 0 d.ns)[j]?= some (i,x)->OkN x:=fun j i x h=>by
   obtain ⟨_,h2,_⟩:=ALp (List.mem_of_getElem? h);exact hd.n x (List.mem_of_getElem? h2)
 have hrun:=ALv d.ns d.r (by have:=hd.l;omega) d.po d.ki d.nw kKS (fun j=>kXS (AMH d j)) 10485760 9437184 9437185 9437186 9437187 (C2 d.po d.ki d.nw 0 d.ns).length (fun _=>true) (fun j=>kL d f .ready (AMH d j)) (by simp [kKS]) (by simp [kKS]) (by simp [kKS]) (by simp [kKS]) (by simp [kKS]) (by simp [kKS]) (fun i x hx=>by simp only [kXS] at hx;split at hx<;>simp at hx;omega) (fun i _=>AM2 d f .ready _ hfA)
   (fun i _=>⟨f,49,[23,24],ALt,ALu, .ready,by simp [kL],rfl⟩) (fun i _=>by simp [kL]) (fun i _=>by simp [kL]) (fun i _=>by simp [kL]) (fun i _=>by simp [kL]) (Nat.le_refl _) (fun _ _=>rfl) (.inl ⟨rfl,fun _=>rfl⟩)
   (fun j i x hj h=>by
     have:=AO4 d hd f hFF i x (hmem j i x h) (AMH d j) (hst j);rw [<-hsucc j i x h] at this;exact this)
 have e0:AMH d 0=[]:=rfl;have en:AMH d (C2 d.po d.ki d.nw 0 d.ns).length=(C2 d.po d.ki d.nw 0 d.ns).map fun x=>ALJ d.r x.2 d.t:=by unfold AMH;rw [List.take_length]
 have hK0:=AM2 d f .ready [] hfA;have hKn:=AM2 d f .ready (AMH d (C2 d.po d.ki d.nw 0 d.ns).length) hfA;rw [e0] at hrun;rw [AQJ] at hK0 hKn;simp only [AQJ] at hrun;have hlen:=hst (C2 d.po d.ki d.nw 0 d.ns).length
 generalize AMH d (C2 d.po d.ki d.nw 0 d.ns).length=T at hrun hKn en hlen
 refine E3.keepX ((9437184,[.d (cF d.ns d.r)])::(9437185,[vi d.po])::(9437186,[vi d.ki])::(9437187,[vi d.nw])::(0,[.d (cF d.ns d.r)])::(1048576,[vi d.t])::(2097152,[vi 0,vi 0])::(4194304,[kHd []])::kBk []) ((9437184,[.d (cF d.ns d.r)])::(9437185,[vi d.po])::(9437186,[vi d.ki])::(9437187,[vi d.nw])::(0,[.d (cF d.ns d.r)])::(1048576,[vi d.t])::(2097152,[vi 0,vi 0])::(4194304,[kHd T])::kBk T) [9437184,9437185,9437186,9437187,0,1048576,2097152,4194304] [] (kXS T) (.tup []) .ready ⟨hnt'.2,by rw [hnt];simp [AL4]⟩ (g:=128) (caps:=[.lp 9437184 0, .lp 9437185 0, .lp 9437186 0, .lp 9437187 0]) (by simp [f22]) (by rw [hnt];exact hrun) (by rw [hnt];exact hK0) (by rw [hnt];exact hKn) (fun x hx=>by simp only [kXS] at hx;split at hx<;>simp at hx;omega) (by simp) (by simp [kBk,kHd]) (by simp) fun F g1 g2=>?_
 have F0:=g1 (0,[.d (cF d.ns d.r)]) (by simp);have FR:=g1 (2097152,[vi 0,vi 0]) (by simp);have FL:=g1 (4194304,[kHd T]) (by simp);simp [BJ,DS,DR,sg] at F0 FR;obtain ⟨_,f5,f8,f12⟩:=id hFF;obtain ⟨f1,f2,f4⟩:=fa
 generalize C2 d.po d.ki d.nw 0 d.ns=S at en hc ⊢
 by_cases h0:S=[]
 . have hT:T=[]:=by rw [en,h0];rfl
   subst h0;subst hT;simp only [kHd,if_true] at FL;simp [BJ,DS,DR,sg] at FL
   show Ft 0 _ .normal _
   simp [f12,f10,FL,FR,AA];apply RZ;simp [results35,f10,ALd]
 . have hT:¬ T=[]:=by rw [en];simpa using h0
   have F7:=g1 (7,AH spL T) (by simp [kBk,hT]);simp only [kHd,hT,if_false] at FL;have e7:sg [10485760,9437184,9437185,9437186,9437187,0,1048576,2097152,4194304] (10485760+1048576) 7=11534343:=by simp [sg]
   have e7':List.map (BJ (sg [10485760,9437184,9437185,9437186,9437187,0,1048576,2097152,4194304] (10485760+1048576))) (AH spL T)=AH spL T:=by unfold AH;rw [List.map_map,SV]
   simp only [e7,e7'] at F7;simp [BJ,DS,DR,sg] at FL;have hTl:T.length≠0:=fun e=>hT (List.length_eq_zero_iff.1 e)
   have hTi:¬ ((T.length:Int)=0):=by omega
   have ct:=AMq T hT (by omega);have hb:∀ H:Hp,H 11534343=some (AH spL T)->Bor H (.ls 11534343 0 T.length 2) (.d (An T)):=fun H hh=>B0 (f:=spL) AQh (l:=T) hh
   cases hcn:ALs d.r S with
   | none=>
     rw [hcn] at hc;simp only [AL8] at hc
     show Ft 0 _ .normal _
     simp [f12,f5,FL,F0,f1,f2,f4,hT];refine CLa hc ?_;simp [f12,FL];refine CLb (ct) (by simp [hb,F7]) ?_;simp [f10,FR,AA];apply RZ;simp [results35,f10,ALd,h0,hcn,en]
   | some p=>
     rw [hcn] at hc;simp only [AL8] at hc
     show Ft 0 _ .normal _
     simp [f12,f5,FL,F0,f1,f2,f4,hT];refine CLa hc ?_;simp [f10,FR,AA];apply RZ;simp [results35,f10,ALd,h0,hcn]
structure CnD where
 ns:List Nws
 r:Rts
 po:Int
 ki:Int
 nw:Int
structure CnO (d:CnD):Prop where
 r:OkR d.r
 n:∀ x∈d.ns,OkN x
 l:d.ns.length<=1000
def AL5:List Nat:=[11534336,11534337,11534338,11534339,0,1048576,2097152,3145728,4194304,5242880,6291456]
def cKS:List Nat:=[12582912,11534336,11534337,11534338,11534339,0,1048576,2097152,3145728,4194304,5242880,6291456]
def ALP (o:Option (Nat × Nat)):List (Nat × List V):=match o with
 | none=>[(4194304,[vi 0]),(5242880,[vi 0]),(6291456,[vb false])]
 | some p=>[(4194304,[vi p.1]),(5242880,[vi p.2]),(6291456,[vb true])]
def cL (d:CnD) (f:Nat->V) (z:LSt) (o:Option (Nat × Nat)):List (Nat × List V):=(12582912,[.lr f 51 [21,22] Xv ALg z])::(11534336,[.d (cF d.ns d.r)])::(11534337,[vi d.po])::(11534338,[vi d.ki])::(11534339,[vi d.nw])::(0,[.d (cF d.ns d.r)])::(1048576,[vi d.po])::(2097152,[vi d.ki])::(3145728,[vi d.nw])::ALP o
theorem ACf (d:CnD) (f:Nat->V) (z:LSt) (o:Option (Nat × Nat)) (hf:∀ t,AV (·∈AL5) AR (f t)):BT cKS [] (cL d f z o):=by
 have hs:∀ i∈AL5,i∈cKS:=by decide
 cases o with
 | none=>
   refine ⟨by simp [cL,ALP,cKS],by simp [cKS],?_⟩;intro q hq;simp only [cL,ALP,List.mem_cons,List.not_mem_nil,or_false] at hq;rcases hq with rfl | rfl | rfl | rfl | rfl | rfl | rfl | rfl | rfl | rfl | rfl | rfl
   . exact ⟨by simp,Or.inr (.inl ⟨_,_,_,_,_,_,rfl⟩),fun c hc=>by simp at hc;subst hc;exact fun t=>AV.mono hs (fun _ h=>h) (hf t)⟩
   all_goals exact ⟨by simp,Or.inl rfl,fun c hc=>by simp at hc;subst hc;exact rfl⟩
 | some p=>
   refine ⟨by simp [cL,ALP,cKS],by simp [cKS],?_⟩;intro q hq;simp only [cL,ALP,List.mem_cons,List.not_mem_nil,or_false] at hq;rcases hq with rfl | rfl | rfl | rfl | rfl | rfl | rfl | rfl | rfl | rfl | rfl | rfl
   . exact ⟨by simp,Or.inr (.inl ⟨_,_,_,_,_,_,rfl⟩),fun c hc=>by simp at hc;subst hc;exact fun t=>AV.mono hs (fun _ h=>h) (hf t)⟩
   all_goals exact ⟨by simp,Or.inl rfl,fun c hc=>by simp at hc;subst hc;exact rfl⟩
structure CnF (f:Nat->V):Prop where
 av:∀ t,AV (·∈AL5) AR (f t)
 f4:f 4= .lp 0 0
 f5:f 5= .lp 1048576 0
 f6:f 6= .lp 2097152 0
 f7:f 7= .lp 3145728 0
 f8:f 8= .lp 4194304 0
 f9:f 9= .lp 5242880 0
 f10:f 10= .lp 6291456 0
def eKS:List Nat:=[23068672,22020096,22020097,22020098,22020099,11534336,11534337,11534338,11534339,0,1048576,2097152,3145728,4194304,5242880,6291456,13631488,15728640]
def AL6:List Nat:=[22020096,22020097,22020098,22020099,11534336,11534337,11534338,11534339,0,1048576,2097152,3145728,4194304,5242880,6291456,13631488,15728640]
def eL (d:CnD) (f:Nat->V) (i:Nat) (x:Nws) (z:LSt) (o:Option (Nat × Nat)):List (Nat × List V):=(23068672,[.lr f 51 [28,29] ALe ALf z])::(22020096,[.d (cF d.ns d.r)])::(22020097,[vi d.po])::(22020098,[vi d.ki])::(22020099,[vi d.nw])::(11534336,[.d (cF d.ns d.r)])::(11534337,[vi d.po])::(11534338,[vi d.ki])::(11534339,[vi d.nw])::(0,[.d (cF d.ns d.r)])::(1048576,[vi d.po])::(2097152,[vi d.ki])::(3145728,[vi d.nw])::(ALP o++[(13631488,[vi i]),(15728640,[vi x.po,vi x.ki,vi x.se,vi x.ca,vi x.lo,vi x.hi])])
theorem AM4 (d:CnD) (f:Nat->V) (i:Nat) (x:Nws) (z:LSt) (o:Option (Nat × Nat)) (hf:∀ t,AV (·∈AL6) AR (f t)):BT eKS [] (eL d f i x z o):=by
 have hs:∀ i∈AL6,i∈eKS:=by decide
 cases o with
 | none=>
   refine ⟨by simp [eL,ALP,eKS],by simp [eKS],?_⟩;intro q hq;simp only [eL,ALP,List.cons_append,List.nil_append,List.mem_cons,List.not_mem_nil,or_false] at hq;rcases hq with rfl | rfl | rfl | rfl | rfl | rfl | rfl | rfl | rfl | rfl | rfl | rfl | rfl | rfl | rfl | rfl | rfl | rfl
   . exact ⟨by simp,Or.inr (.inl ⟨_,_,_,_,_,_,rfl⟩),fun c hc=>by simp at hc;subst hc;exact fun t=>AV.mono hs (fun _ h=>h) (hf t)⟩
   all_goals exact ⟨by simp,Or.inl rfl,fun c hc=>by simp at hc;first | (subst hc;exact rfl) | (rcases hc with rfl | rfl | rfl | rfl | rfl | rfl<;>exact rfl)⟩
 | some p=>
   refine ⟨by simp [eL,ALP,eKS],by simp [eKS],?_⟩;intro q hq;simp only [eL,ALP,List.cons_append,List.nil_append,List.mem_cons,List.not_mem_nil,or_false] at hq;rcases hq with rfl | rfl | rfl | rfl | rfl | rfl | rfl | rfl | rfl | rfl | rfl | rfl | rfl | rfl | rfl | rfl | rfl | rfl
   . exact ⟨by simp,Or.inr (.inl ⟨_,_,_,_,_,_,rfl⟩),fun c hc=>by simp at hc;subst hc;exact fun t=>AV.mono hs (fun _ h=>h) (hf t)⟩
   all_goals exact ⟨by simp,Or.inl rfl,fun c hc=>by simp at hc;first | (subst hc;exact rfl) | (rcases hc with rfl | rfl | rfl | rfl | rfl | rfl<;>exact rfl)⟩
structure EnF (f:Nat->V):Prop where
 av:∀ t,AV (·∈AL6) AR (f t)
 f4:f 4= .lp 0 0
 f8:f 8= .lp 4194304 0
 f9:f 9= .lp 5242880 0
 f10:f 10= .lp 6291456 0
 f11:f 11= .lp 13631488 0
 f12:f 12= .lp 15728640 0
theorem APC (d:CnD) (hd:CnO d) (f:Nat->V) (hF:EnF f) (i:Nat) (x:Nws) (hx:OkN x) (k:Nat) (y:Nws) (hy:OkN y):Ym prog 23068672 [vi k,nwV y] (lk (eL d f i x .ready none)) eKS (.ret (vb (!AMC d.r (i,x) (k,y)))) (lk (eL d f i x (if AMC d.r (i,x) (k,y) then .done .ret else .ready) (if AMC d.r (i,x) (k,y) then some (i,k) else none))):=by
 obtain ⟨hf,f4,f8,f9,f10,f11,f12⟩:=hF;have hlt:∀ j∈eKS++[],j<24117248:=by decide
 have hsub:∀ i∈AL6,i∈eKS:=by decide
 have hW:∀ z (ρ:Nat->Option Nat),(∀ j∈eKS,ρ j=some j)->WC ρ (.lr f 51 [28,29] ALe ALf z) (.lr f 51 [28,29] ALe ALf z):=fun z ρ hρ=>⟨rfl,fun t=>AV.mono (fun j hj=>hρ j (hsub j hj)) (fun _ h=>h) (hf t)⟩
 have hC:∀ z,Bv [.lr f 51 [28,29] ALe ALf z]:=fun z=>Or.inr (.inl ⟨_,_,_,_,_,_,rfl⟩)
 have hyt:=hy.tm;have cs:=ASE d.ns d.r hd.r x hx y.se (by omega);have ct:=qF (ALJ d.r x y.se).1 (ALJ d.r x y.se).2 y.lo y.hi
 have key:∀ (s:LSt) (o:Option (Nat × Nat)),Rnd prog tys eqs 23068672 f 51 [28,29] ALe ALf [vi k,nwV y] (lk (eL d f i x .ready none)) eKS s (eL d f i x s o) 24117248->Ym prog 23068672 [vi k,nwV y] (lk (eL d f i x .ready none)) eKS (.ret (.d (.lit (.bool (FP s))))) (lk (eL d f i x s o)):=fun s o h=>
   Ym.ofX gok eok mixed 24117248 (AM4 d f i x .ready none hf) (AM4 d f i x s o hf) hlt (by simp [eKS]) (by simp [eL]) (by simp) (by simp) (by simp) h
 have hbe:AMC d.r (i,x) (k,y)=(decide (i<k)&&decide (min (ALJ d.r x y.se).2 y.hi<max (ALJ d.r x y.se).1 y.lo)):=rfl
 generalize ALJ d.r x y.se=s at cs ct hbe
 by_cases h1:i<k
 . by_cases h2:min s.2 y.hi<max s.1 y.lo
   . rw [hbe,decide_eq_true h1,decide_eq_true h2]
     refine key (.done .ret) (some (i,k)) ?_;refine ⟨fun E hE hs=>?_⟩;unfold eL;simp only [ALP,List.cons_append,List.nil_append]
     generalize V.lr f 51 [28,29] ALe ALf=rc at hW hC ⊢
     simp [ALe,BD,AA];simp [ALf,f4,f12,inC,Nat.testBit];refine CLb (cs) (by first | (simp;done) | simp [Bk,CP,inC,Nat.testBit]) ?_;simp [AA,AM,inC,Nat.testBit];refine CLb (ct) (by first | (simp;done) | simp [Bk,inC,Nat.testBit]) ?_;simp [f8,f9,f10,f11,AA,h1,h2];have hW2:=hW (.done .ret) (fun j=>some j) (fun _ _=>rfl);refine ⟨trivial,by simp,fun j=>some j,?_⟩;simp [hW2,hC,eKS]
   . rw [hbe,decide_eq_true h1,decide_eq_false h2]
     refine key .ready none ?_;refine ⟨fun E hE hs=>?_⟩;unfold eL;simp only [ALP,List.cons_append,List.nil_append]
     generalize V.lr f 51 [28,29] ALe ALf=rc at hW hC ⊢
     simp [ALe,BD,AA];simp [ALf,f4,f12,inC,Nat.testBit];refine CLb (cs) (by first | (simp;done) | simp [Bk,CP,inC,Nat.testBit]) ?_;simp [AA,AM,inC,Nat.testBit];refine CLb (ct) (by first | (simp;done) | simp [Bk,inC,Nat.testBit]) ?_;simp [f11,AA,h1,h2];have hW2:=hW .ready (fun j=>some j) (fun _ _=>rfl);refine ⟨trivial,by simp,fun j=>some j,?_⟩;simp [hW2,hC,eKS]
 . rw [hbe,decide_eq_false h1]
   refine key .ready none ?_;refine ⟨fun E hE hs=>?_⟩;unfold eL;simp only [ALP,List.cons_append,List.nil_append]
   generalize V.lr f 51 [28,29] ALe ALf=rc at hW hC ⊢
   simp [ALe,BD,AA];simp [ALf,f4,f12,inC,Nat.testBit];refine CLb (cs) (by first | (simp;done) | simp [Bk,CP,inC,Nat.testBit]) ?_;simp [AA,AM,inC,Nat.testBit];refine CLb (ct) (by first | (simp;done) | simp [Bk,inC,Nat.testBit]) ?_;simp [f11,AA,h1];have hW2:=hW .ready (fun j=>some j) (fun _ _=>rfl);refine ⟨trivial,by simp,fun j=>some j,?_⟩;simp [hW2,hC,eKS]
theorem AQT (d:CnD) (f:Nat->V) (i:Nat) (x:Nws) (z:LSt) (o:Option (Nat × Nat)):eL d f i x z o=(23068672,[.lr f 51 [28,29] ALe ALf z])::((22020096,[.d (cF d.ns d.r)])::(22020097,[vi d.po])::(22020098,[vi d.ki])::(22020099,[vi d.nw])::(11534336,[.d (cF d.ns d.r)])::(11534337,[vi d.po])::(11534338,[vi d.ki])::(11534339,[vi d.nw])::(0,[.d (cF d.ns d.r)])::(1048576,[vi d.po])::(2097152,[vi d.ki])::(3145728,[vi d.nw])::(ALP o++[(13631488,[vi i]),(15728640,[vi x.po,vi x.ki,vi x.se,vi x.ca,vi x.lo,vi x.hi])])):=rfl
def ALo (d:CnD) (i:Nat) (x:Nws):Option (Nat × Nat):=((C2 d.po d.ki d.nw 0 d.ns).find? fun y=>AMC d.r (i,x) y).map fun y=>(i,y.1)
def zOf (o:Option (Nat × Nat)):LSt:=if o.isSome then .done .ret else .ready
theorem AQu (d:CnD) (hd:CnO d) (f:Nat->V) (hF:EnF f) (i:Nat) (x:Nws) (hx:OkN x):Cm prog 128 [.yl 23068672, .lp 22020096 0, .lp 22020097 0, .lp 22020098 0, .lp 22020099 0] (lk (eL d f i x .ready none)) eKS (.ret (.tup [])) (lk (eL d f i x (zOf (ALo d i x)) (ALo d i x))):=by
 have hmem:∀ (j k:Nat) (y:Nws),(C2 d.po d.ki d.nw 0 d.ns)[j]?= some (k,y)->OkN y:=fun j k y h=>by
   obtain ⟨_,h2,_⟩:=ALp (List.mem_of_getElem? h);exact hd.n y (List.mem_of_getElem? h2)
 have hR:=fun (j k:Nat) (y:Nws) (h:(C2 d.po d.ki d.nw 0 d.ns)[j]?= some (k,y))=>APC d hd f hF i x hx k y (hmem j k y h)
 have hK:=fun z o=>AM4 d f i x z o hF.av
 have hl:=hd.l;cases hfd:(C2 d.po d.ki d.nw 0 d.ns).find? fun y=>AMC d.r (i,x) y with
 | none=>
   have e:ALo d i x=none:=by unfold ALo;rw [hfd];rfl
   rw [e];have hno:=List.find?_eq_none.1 hfd
   exact ALv d.ns d.r (by omega) d.po d.ki d.nw eKS (fun _=>[]) 23068672 22020096 22020097 22020098 22020099 (C2 d.po d.ki d.nw 0 d.ns).length (fun _=>true) (fun _=>eL d f i x .ready none) (by simp [eKS]) (by simp [eKS]) (by simp [eKS]) (by simp [eKS]) (by simp [eKS]) (by simp [eKS]) (fun _ _ h=>by cases h) (fun _ _=>hK .ready none)
     (fun _ _=>⟨f,51,[28,29],ALe,ALf, .ready,by simp [eL],rfl⟩) (fun _ _=>by simp [eL]) (fun _ _=>by simp [eL]) (fun _ _=>by simp [eL]) (fun _ _=>by simp [eL]) (Nat.le_refl _) (fun _ _=>rfl) (.inl ⟨rfl,fun _=>rfl⟩)
     (fun j k y _ h=>by
       have h1:=hR j k y h;have h2:AMC d.r (i,x) (k,y)=false:=by simpa using hno _ (List.mem_of_getElem? h)
       rw [h2] at h1;exact h1)
 | some q=>
   obtain ⟨hq,A,B,hAB,hA⟩:=List.find?_eq_some_iff_append.1 hfd;have e:ALo d i x=some (i,q.1):=by unfold ALo;rw [hfd];rfl
   rw [e];have hlt:∀ j:Nat,(C2 d.po d.ki d.nw 0 d.ns)[j]?= (A++q::B)[j]?:= fun j=>by rw [hAB]
   have hSl:(C2 d.po d.ki d.nw 0 d.ns).length=A.length+1+B.length:=by rw [hAB];simp;omega
   have hrun:=ALv d.ns d.r (by omega) d.po d.ki d.nw eKS (fun _=>[]) 23068672 22020096 22020097 22020098 22020099 (A.length+1) (fun j=>decide (j≠A.length)) (fun j=>if j<=A.length then eL d f i x .ready none else eL d f i x (.done .ret) (some (i,q.1))) (by simp [eKS]) (by simp [eKS]) (by simp [eKS]) (by simp [eKS]) (by simp [eKS]) (by simp [eKS]) (fun _ _ h=>by cases h) (fun j _=>by split;exact hK .ready none;exact hK _ _)
     (fun j _=>by split;exact ⟨f,51,[28,29],ALe,ALf, .ready,by simp [eL],rfl⟩;exact ⟨f,51,[28,29],ALe,ALf, .done .ret,by simp [eL],rfl⟩) (fun j _=>by split<;>simp [eL]) (fun j _=>by split<;>simp [eL]) (fun j _=>by split<;>simp [eL]) (fun j _=>by split<;>simp [eL]) (by omega) (fun j hj=>by simp;omega) (.inr ⟨by omega,by simp⟩)
     (fun j k y hj h=>by
       have h1:=hR j k y h;rw [hlt] at h;by_cases hjA:j=A.length
       . rw [hjA,List.getElem?_append_right (Nat.le_refl _),Nat.sub_self] at h
         simp at h;subst h;rw [hq] at h1;rw [if_pos (by omega),if_neg (by omega)];simp only [hjA,ne_eq,not_true_eq_false,decide_false];exact h1
       . rw [List.getElem?_append_left (by omega)] at h
         have h2:AMC d.r (i,x) (k,y)=false:=by simpa using hA _ (List.mem_of_getElem? h)
         rw [h2] at h1;rw [if_pos (by omega),if_pos (by omega),decide_eq_true hjA];exact h1)
   rw [if_pos (Nat.zero_le _),if_neg (by omega)] at hrun;exact hrun
theorem APD (d:CnD) (hd:CnO d) (f:Nat->V) (hF:CnF f) (i:Nat) (x:Nws) (hx:OkN x):Ym prog 12582912 [vi i,nwV x] (lk (cL d f .ready none)) cKS (.ret (vb (ALo d i x).isNone)) (lk (cL d f (zOf (ALo d i x)) (ALo d i x))):=by
 obtain ⟨hf,f4,f5,f6,f7,f8,f9,f10⟩:=hF;have hlt:∀ j∈cKS++[],j<13631488:=by decide
 have c1:=AQg (cF d.ns d.r) d.po d.ki d.nw
 have hgo:(ALo d i x).isNone=FP (zOf (ALo d i x)):=by
   unfold zOf;cases ALo d i x<;>rfl
 rw [hgo];refine Ym.ofXN (k:=12582912) (fr:=f) (nt:=51) (ps:=[21,22]) (pa:=Xv) (pb:=ALg) (args:=[vi i,nwV x]) (s:=zOf (ALo d i x)) gok eok mixed 13631488 (ACf d f .ready none hf) (ACf d f _ _ hf) hlt (by simp [cKS]) (by simp [cL]) (by simp) (by simp) (by simp) ?_;refine ⟨fun E hE hs hrd=>?_⟩;unfold cL;simp only [show ALP none=[(4194304,[vi 0]),(5242880,[vi 0]),(6291456,[vb false])] from rfl];have hrcb:∃ g nt ps pa pb,∀ z,V.lr f 51 [21,22] Xv ALg z=V.lr g nt ps pa pb z:=⟨f,_,_,_,_,fun _=>rfl⟩
 have hsub:∀ i∈AL5,i∈cKS:=by decide
 have hW:∀ z (ρ:Nat->Option Nat),(∀ j∈cKS,ρ j=some j)->WC ρ (.lr f 51 [21,22] Xv ALg z) (.lr f 51 [21,22] Xv ALg z):=fun z ρ hρ=>⟨rfl,fun t=>AV.mono (fun j hj=>hρ j (hsub j hj)) (fun _ h=>h) (hf t)⟩
 have hC:∀ z,Bv [.lr f 51 [21,22] Xv ALg z]:=fun z=>Or.inr (.inl ⟨_,_,_,_,_,_,rfl⟩)
 generalize hrc:V.lr f 51 [21,22] Xv ALg=rc at hW hC ⊢
 simp [Xv,BD,AA];simp [ALg,f4,f5,f6,f7];refine CLa c1 ?_;simp;rw [<-JI (Γ:=tys) (eqs:=eqs)];obtain ⟨f2,hf2⟩:∃ f2,f2=upd (upd (upd (upd (upd (upd (upd (upd (upd f 21 (vi i)) 22 (nwV x)) 11 (V.lp 13631488 0)) 12 (V.lp 15728640 0)) 23 (V.d (cF d.ns d.r))) 24 (vi d.po)) 25 (vi d.ki)) 26 (vi d.nw)) 27 (V.cl 128 [V.lp 22020096 0,V.lp 22020097 0,V.lp 22020098 0,V.lp 22020099 0]):=⟨_,rfl⟩
 have hfA:∀ t,AV (·∈AL6) AR (f2 t):=fun t=>by
   rw [hf2];simp only [AY];split
   . intro c hc
     simp only [List.mem_cons,List.not_mem_nil,or_false] at hc;rcases hc with rfl | rfl | rfl | rfl
     . exact (by simp [AL6]:(22020096:Nat)∈AL6)
     . exact (by simp [AL6]:(22020097:Nat)∈AL6)
     . exact (by simp [AL6]:(22020098:Nat)∈AL6)
     . exact (by simp [AL6]:(22020099:Nat)∈AL6)
   repeat (split;· first | exact trivial | (show (_:Nat)∈AL6;simp [AL6]) | (intro c hc;simp at hc;rcases hc with rfl | rfl | rfl | rfl | rfl | rfl<;>exact trivial))
   exact AV.mono (by decide:∀ i∈AL5,i∈AL6) (fun _ h=>h) (hf t)
 have hFF:EnF f2:=⟨hfA,by rw [hf2];simp [f4],by rw [hf2];simp [f8],by rw [hf2];simp [f9],by rw [hf2];simp [f10],by rw [hf2];simp,by rw [hf2];simp⟩
 have f27:f2 27= .cl 128 [.lp 22020096 0, .lp 22020097 0, .lp 22020098 0, .lp 22020099 0]:=by rw [hf2];simp
 rw [<-hf2];have hrun:=AQu d hd f2 hFF i x hx;have hK0:=AM4 d f2 i x .ready none hfA;have hKn:=AM4 d f2 i x (zOf (ALo d i x)) (ALo d i x) hfA;rw [AQT] at hK0 hKn;simp only [AQT] at hrun
 generalize ALo d i x=o at hrun hKn ⊢
 have hbusy:rc .busy= .lr f 51 [21,22] Xv ALg .busy:=by rw [<-hrc]
 refine E3.keepXN ((22020096,[.d (cF d.ns d.r)])::(22020097,[vi d.po])::(22020098,[vi d.ki])::(22020099,[vi d.nw])::(11534336,[.d (cF d.ns d.r)])::(11534337,[vi d.po])::(11534338,[vi d.ki])::(11534339,[vi d.nw])::(0,[.d (cF d.ns d.r)])::(1048576,[vi d.po])::(2097152,[vi d.ki])::(3145728,[vi d.nw])::(ALP none++[(13631488,[vi i]),(15728640,[vi x.po,vi x.ki,vi x.se,vi x.ca,vi x.lo,vi x.hi])])) ((22020096,[.d (cF d.ns d.r)])::(22020097,[vi d.po])::(22020098,[vi d.ki])::(22020099,[vi d.nw])::(11534336,[.d (cF d.ns d.r)])::(11534337,[vi d.po])::(11534338,[vi d.ki])::(11534339,[vi d.nw])::(0,[.d (cF d.ns d.r)])::(1048576,[vi d.po])::(2097152,[vi d.ki])::(3145728,[vi d.nw])::(ALP o++[(13631488,[vi i]),(15728640,[vi x.po,vi x.ki,vi x.se,vi x.ca,vi x.lo,vi x.hi])])) [22020096,22020097,22020098,22020099,11534336,11534337,11534338,11534339,0,1048576,2097152,3145728,4194304,5242880,6291456,13631488,15728640] [] [] (.tup []) (zOf o) ⟨.inr ⟨12582912,f,51,[21,22],Xv,ALg, .busy,hrd,(hs 12582912).2 (by simp [cKS]),by simp [hbusy]⟩,by rw [hE];simp [AL4]⟩ (g:=128) (caps:=[.lp 22020096 0, .lp 22020097 0, .lp 22020098 0, .lp 22020099 0]) (by simp [f27]) (by rw [hE];exact hrun) (by rw [hE];exact hK0) (by rw [hE];exact hKn) (fun x hx=>by cases hx) (by simp) (by simp [ALP]) (by simp) fun F g1 g2=>?_
 have FR:=g2 12582912 (by simp) (by simp);simp at FR;have G0:=g1 (11534336,[.d (cF d.ns d.r)]) (by simp);have G1:=g1 (11534337,[vi d.po]) (by simp);have G2:=g1 (11534338,[vi d.ki]) (by simp);have G3:=g1 (11534339,[vi d.nw]) (by simp);have G4:=g1 (0,[.d (cF d.ns d.r)]) (by simp);have G5:=g1 (1048576,[vi d.po]) (by simp);have G6:=g1 (2097152,[vi d.ki]) (by simp);have G7:=g1 (3145728,[vi d.nw]) (by simp);simp [BJ,DS,DR,sg] at G0 G1 G2 G3 G4 G5 G6 G7;cases o with
 | none=>
   have K1:=g1 (4194304,[vi 0]) (by simp [ALP]);have K2:=g1 (5242880,[vi 0]) (by simp [ALP]);have K3:=g1 (6291456,[vb false]) (by simp [ALP]);simp [BJ,DS,DR,sg] at K1 K2 K3;have hW2:=hW (zOf none) (fun j=>some j) (fun _ _=>rfl)
   show Ft 2 _ .normal _
   simp [ALP];refine ⟨trivial,by simp [FR],fun j=>some j,?_⟩;simp [hW2,hC,cKS,G0,G1,G2,G3,G4,G5,G6,G7,K1,K2,K3]
 | some p=>
   have K1:=g1 (4194304,[vi p.1]) (by simp [ALP]);have K2:=g1 (5242880,[vi p.2]) (by simp [ALP]);have K3:=g1 (6291456,[vb true]) (by simp [ALP]);simp [BJ,DS,DR,sg] at K1 K2 K3;have hW2:=hW (zOf (some p)) (fun j=>some j) (fun _ _=>rfl)
   show Ft 2 _ .ret _
   simp [ALP];refine ⟨trivial,by simp [FR],fun j=>some j,?_⟩;simp [hW2,hC,cKS,G0,G1,G2,G3,G4,G5,G6,G7,K1,K2,K3]
theorem APa {p:Nat->Prop} {q:D->Prop} {f:Nat->V} {k:Nat} {v:V} (hv:AV p q v) (hf:∀ t,AV p q (f t)):∀ t,AV p q (upd f k v t):=fun t=>by
 rw [AY];split
 . exact hv
 . exact hf t
theorem AQX (d:CnD) (f:Nat->V) (z:LSt) (o:Option (Nat × Nat)):cL d f z o=(12582912,[.lr f 51 [21,22] Xv ALg z])::((11534336,[.d (cF d.ns d.r)])::(11534337,[vi d.po])::(11534338,[vi d.ki])::(11534339,[vi d.nw])::(0,[.d (cF d.ns d.r)])::(1048576,[vi d.po])::(2097152,[vi d.ki])::(3145728,[vi d.nw])::ALP o):=rfl
theorem AQ0 (d:CnD) (hd:CnO d) (f:Nat->V) (hF:CnF f):Cm prog 128 [.yl 12582912, .lp 11534336 0, .lp 11534337 0, .lp 11534338 0, .lp 11534339 0] (lk (cL d f .ready none)) cKS (.ret (.tup [])) (lk (cL d f (zOf (ALs d.r (C2 d.po d.ki d.nw 0 d.ns))) (ALs d.r (C2 d.po d.ki d.nw 0 d.ns)))):=by
 have hmem:∀ (j k:Nat) (y:Nws),(C2 d.po d.ki d.nw 0 d.ns)[j]?= some (k,y)->OkN y:=fun j k y h=>by
   obtain ⟨_,h2,_⟩:=ALp (List.mem_of_getElem? h);exact hd.n y (List.mem_of_getElem? h2)
 have hR:=fun (j k:Nat) (y:Nws) (h:(C2 d.po d.ki d.nw 0 d.ns)[j]?= some (k,y))=>APD d hd f hF k y (hmem j k y h)
 have hK:=fun z o=>ACf d f z o hF.av
 have hl:=hd.l;have hcn:ALs d.r (C2 d.po d.ki d.nw 0 d.ns)=(C2 d.po d.ki d.nw 0 d.ns).findSome? fun x=>ALo d x.1 x.2:=rfl
 rw [hcn];cases hfd:(C2 d.po d.ki d.nw 0 d.ns).findSome? fun x=>ALo d x.1 x.2 with
 | none=>
   have hno:=List.findSome?_eq_none_iff.1 hfd
   exact ALv d.ns d.r (by omega) d.po d.ki d.nw cKS (fun _=>[]) 12582912 11534336 11534337 11534338 11534339 (C2 d.po d.ki d.nw 0 d.ns).length (fun _=>true) (fun _=>cL d f .ready none) (by simp [cKS]) (by simp [cKS]) (by simp [cKS]) (by simp [cKS]) (by simp [cKS]) (by simp [cKS]) (fun _ _ h=>by cases h) (fun _ _=>hK .ready none)
     (fun _ _=>⟨f,51,[21,22],Xv,ALg, .ready,by simp [cL],rfl⟩) (fun _ _=>by simp [cL]) (fun _ _=>by simp [cL]) (fun _ _=>by simp [cL]) (fun _ _=>by simp [cL]) (Nat.le_refl _) (fun _ _=>rfl) (.inl ⟨rfl,fun _=>rfl⟩)
     (fun j k y _ h=>by
       have h1:=hR j k y h;have h2:ALo d k y=none:=hno _ (List.mem_of_getElem? h);rw [h2] at h1;exact h1)
 | some p=>
   obtain ⟨A,q,B,hAB,hq,hA⟩:=List.findSome?_eq_some_iff.1 hfd;have hlt:∀ j:Nat,(C2 d.po d.ki d.nw 0 d.ns)[j]?= (A++q::B)[j]?:= fun j=>by rw [hAB]
   have hSl:(C2 d.po d.ki d.nw 0 d.ns).length=A.length+1+B.length:=by rw [hAB];simp;omega
   have hrun:=ALv d.ns d.r (by omega) d.po d.ki d.nw cKS (fun _=>[]) 12582912 11534336 11534337 11534338 11534339 (A.length+1) (fun j=>decide (j≠A.length)) (fun j=>if j<=A.length then cL d f .ready none else cL d f (.done .ret) (some p)) (by simp [cKS]) (by simp [cKS]) (by simp [cKS]) (by simp [cKS]) (by simp [cKS]) (by simp [cKS]) (fun _ _ h=>by cases h) (fun j _=>by split;exact hK .ready none;exact hK _ _)
     (fun j _=>by split;exact ⟨f,51,[21,22],Xv,ALg, .ready,by simp [cL],rfl⟩;exact ⟨f,51,[21,22],Xv,ALg, .done .ret,by simp [cL],rfl⟩) (fun j _=>by split<;>simp [cL]) (fun j _=>by split<;>simp [cL]) (fun j _=>by split<;>simp [cL]) (fun j _=>by split<;>simp [cL]) (by omega) (fun j hj=>by simp;omega) (.inr ⟨by omega,by simp⟩)
     (fun j k y hj h=>by
       have h1:=hR j k y h;rw [hlt] at h;by_cases hjA:j=A.length
       . rw [hjA,List.getElem?_append_right (Nat.le_refl _),Nat.sub_self] at h
         simp at h;subst h;rw [hq] at h1;rw [if_pos (by omega),if_neg (by omega)];simp only [hjA,ne_eq,not_true_eq_false,decide_false];exact h1
       . rw [List.getElem?_append_left (by omega)] at h
         have h2:ALo d k y=none:=hA _ (List.mem_of_getElem? h);rw [h2] at h1;rw [if_pos (by omega),if_pos (by omega),decide_eq_true hjA];exact h1)
   rw [if_pos (Nat.zero_le _),if_neg (by omega)] at hrun;exact hrun
theorem fn86 (d:CnD) (hd:CnO d):Ct prog 86 [.d (cF d.ns d.r),vi d.po,vi d.ki,vi d.nw] (AL8 (ALs d.r (C2 d.po d.ki d.nw 0 d.ns))) []:=by
 have c1:=AQg (cF d.ns d.r) d.po d.ki d.nw;refine Ct.byR gok eok mixed func86 c86 rfl (by simp [ntmps86]) (by simp) (by cases ALs d.r (C2 d.po d.ki d.nw 0 d.ns)<;>simp [LD,AL8]) fun E hE hnt'=>?_
 simp [p86];refine CLa c1 ?_;simp;have hnt:E.nt=51:=by rw [hnt'.1];exact ntmps86
 rw [<-JI (Γ:=tys) (eqs:=eqs)];obtain ⟨f,hf⟩:∃ f,f=upd (upd (upd (upd (upd (upd (upd (upd (upd (upd (upd (upd (Dn 0 [V.d (cF d.ns d.r),vi d.po,vi d.ki,vi d.nw]) 4 (V.lp 0 0)) 5 (V.lp 1048576 0)) 6 (V.lp 2097152 0)) 7 (V.lp 3145728 0)) 8 (V.lp 4194304 0)) 9 (V.lp 5242880 0)) 10 (V.lp 6291456 0)) 16 (V.d (cF d.ns d.r))) 17 (V.d (D.lit (Value.int IntKind.i64 d.po)))) 18 (V.d (D.lit (Value.int IntKind.i64 d.ki)))) 19 (V.d (D.lit (Value.int IntKind.i64 d.nw)))) 20 (V.cl 128 [V.lp 11534336 0,V.lp 11534337 0,V.lp 11534338 0,V.lp 11534339 0]):=⟨_,rfl⟩
 have hfA:∀ t,AV (·∈AL5) AR (f t):=by
   rw [hf];refine APa (fun c hc=>?_) ?_
   . simp only [List.mem_cons,List.not_mem_nil,or_false] at hc
     rcases hc with rfl | rfl | rfl | rfl
     . exact (by simp [AL5]:(11534336:Nat)∈AL5)
     . exact (by simp [AL5]:(11534337:Nat)∈AL5)
     . exact (by simp [AL5]:(11534338:Nat)∈AL5)
     . exact (by simp [AL5]:(11534339:Nat)∈AL5)
   repeat (refine APa (by first | exact trivial | (show (_:Nat)∈AL5;simp [AL5])) ?_)
   intro t;simp only [Dn]
   repeat (split;· exact trivial)
   exact fun c hc=>by simp at hc
 have hFF:CnF f:=⟨hfA,by rw [hf];simp,by rw [hf];simp,by rw [hf];simp,by rw [hf];simp,by rw [hf];simp,by rw [hf];simp,by rw [hf];simp⟩
 have f20:f 20= .cl 128 [.lp 11534336 0, .lp 11534337 0, .lp 11534338 0, .lp 11534339 0]:=by rw [hf];simp
 obtain ⟨_,_,_,_,_,f8,f9,f10⟩:=id hFF;rw [<-hf];have hrun:=AQ0 d hd f hFF;have hK0:=ACf d f .ready none hfA;have hKn:=ACf d f (zOf (ALs d.r (C2 d.po d.ki d.nw 0 d.ns))) (ALs d.r (C2 d.po d.ki d.nw 0 d.ns)) hfA;rw [AQX] at hK0 hKn;simp only [AQX] at hrun
 generalize ALs d.r (C2 d.po d.ki d.nw 0 d.ns)=o at hrun hKn ⊢
 refine E3.keepX ((11534336,[.d (cF d.ns d.r)])::(11534337,[vi d.po])::(11534338,[vi d.ki])::(11534339,[vi d.nw])::(0,[.d (cF d.ns d.r)])::(1048576,[vi d.po])::(2097152,[vi d.ki])::(3145728,[vi d.nw])::ALP none) ((11534336,[.d (cF d.ns d.r)])::(11534337,[vi d.po])::(11534338,[vi d.ki])::(11534339,[vi d.nw])::(0,[.d (cF d.ns d.r)])::(1048576,[vi d.po])::(2097152,[vi d.ki])::(3145728,[vi d.nw])::ALP o) [11534336,11534337,11534338,11534339,0,1048576,2097152,3145728,4194304,5242880,6291456] [] [] (.tup []) (zOf o) ⟨hnt'.2,by rw [hnt];simp [AL4]⟩ (g:=128) (caps:=[.lp 11534336 0, .lp 11534337 0, .lp 11534338 0, .lp 11534339 0]) (by simp [f20]) (by rw [hnt];exact hrun) (by rw [hnt];exact hK0) (by rw [hnt];exact hKn) (fun x hx=>by cases hx) (by simp) (by simp [ALP]) (by simp) fun F g1 g2=>?_
 cases o with
 | none=>
   have K1:=g1 (4194304,[vi 0]) (by simp [ALP]);have K2:=g1 (5242880,[vi 0]) (by simp [ALP]);have K3:=g1 (6291456,[vb false]) (by simp [ALP]);simp [BJ,DS,DR,sg] at K1 K2 K3
   show Ft 0 _ .normal _
   simp [f8,f9,f10,K1,K2,K3,AA];apply RZ;simp [results86,f8,f9,f10,AL8]
 | some p=>
   have K1:=g1 (4194304,[vi p.1]) (by simp [ALP]);have K2:=g1 (5242880,[vi p.2]) (by simp [ALP]);have K3:=g1 (6291456,[vb true]) (by simp [ALP]);simp [BJ,DS,DR,sg] at K1 K2 K3
   show Ft 0 _ .ret _
   simp;apply RZ;simp [results86,f8,f9,f10,K1,K2,K3,AL8]
theorem fn35 (d:KnD) (hd:KnO d):Ct prog 35 [.d (cF d.ns d.r),vi d.po,vi d.ki,vi d.t,vi d.nw] (.tup [vsp (ALd d.r (C2 d.po d.ki d.nw 0 d.ns) d.t).1.1 (ALd d.r (C2 d.po d.ki d.nw 0 d.ns) d.t).1.2,vi (ALd d.r (C2 d.po d.ki d.nw 0 d.ns) d.t).2]) []:=
 APu d hd (fn86 ⟨d.ns,d.r,d.po,d.ki,d.nw⟩ ⟨hd.r,hd.n,hd.l⟩)
end Go.Proofs.Tryz
namespace Go.Air
structure Pst where
 h:Int
 g:Int
deriving DecidableEq,Inhabited
end Go.Air
namespace Go.Proofs.Tryz
open Go.Psl
open Go.Air
abbrev AO9 (x:Pst):List D:=[di x.h,di x.g]
abbrev AP1 (x:Pst):V:= .agg [vi x.h,vi x.g]
abbrev ALO (l:List Pst):D:= .sl 2 (l.map AO9)
def ALh (l:List Pst) (i:Nat):Bool:=match l[i]? with
 | some x=>rgB (-500) 9000 [x.h]&&(if i=0 then true else match l[i-1]? with | some y=>rgB 1 2000 [x.h-y.h] | none=>true)
 | none=>true
def AMR (l:List Pst):Bool:=(List.range l.length).all (ALh l)&&rgB 2 16 [(l.length:Int)]
theorem AN3 {l:List Pst} {i:Nat} (hi:i<l.length) (h:ALh l i=false):AMR l=false:=by
 unfold AMR
 have:(List.range l.length).all (ALh l)=false:=by
   rw [List.all_eq_false];exact ⟨i,by simp [hi],by simp [h]⟩
 simp [this]
theorem APA {l:List Pst} (h:∀ j,j<l.length->ALh l j=true):AMR l=rgB 2 16 [(l.length:Int)]:=by
 unfold AMR
 have:(List.range l.length).all (ALh l)=true:=by
   rw [List.all_eq_true];intro j hj;exact h j (by simpa using hj)
 simp [this]
theorem ASY (x:Pst):Ct prog 31 [AP1 x] (vi x.h) []:=by
 refine CB func31 c31 fun E hE=>?_
 simp [p31];apply RZ;simp [results31]
theorem ASZ (x:Pst):Ct prog 33 [AP1 x] (vb (!rgB 0 500 [x.g])) []:=by
 have c:=mH 0 500 [x.g] (by simp);refine CB func33 c33 fun E hE=>?_
 simp [p33,AA,AM];refine CLb (c) (by simp [AG]) ?_;simp;apply RZ;simp [results33]
theorem fn81 (l:List Pst) (g:FuncId) (ds:List D) (q:Pst->Bool) (hl:l.length<=1000000000) (hg:∀ p∈l,Ct prog g (AP1 p::ds.map .d) (vb (q p)) []):Ct prog 81 [.d (ALO l), .d (.fn g ds)] (vi (ixF q l)) []:=by
 refine CB func81 c81 fun E hE=>?_
 simp [p81];refine Al (α:=Nat) (fun i=>⟨AO [(0, .d (ALO l)),(1, .d (.fn g ds)),(7,vi l.length),(8,vi i)],lk [],0⟩) (fun i=>i<=l.length/\∀ j,j<i->(l[j]?).all (fun p=>!q p)=true) (fun i=>l.length-i) 0 ?_ ?_ ?_
 . exact ⟨by omega,fun j hj=>by omega⟩
 . exact WK hE (lk [])
 . rintro i ⟨hi,hg3⟩
   have hg2:∀ (j:Nat) (p:Pst),j<i->l[j]?= some p->q p=false:=fun j p hj hp=>by
     have:=hg3 j hj;rw [hp] at this;simpa using this
   have hz:=@wz i (by omega);simp [AQV];refine Bh (fun h=>?_) (fun h=>?_)
   . simp at h
     obtain ⟨p,hp⟩:=gE h;simp [hp];refine CLa (hg p (List.mem_of_getElem? hp)) ?_;cases hq:q p
     . simp [hz]
       refine ⟨i+1,⟨by omega,fun j hj=>?_⟩,by omega,?_⟩
       . by_cases e:j=i
         . subst e;rw [hp];simp [hq]
         . exact hg3 j (by omega)
       . exact WK hE (lk [])
     . have e:ixF q l=i:=IY hp hq fun j y hj hy=>hg2 j y hj hy
       simp;apply RZ;simp [results81,e]
   . simp at h
     have e:ixF q l= -1:=IX fun j x hx=>hg2 j x (by have:=(List.getElem?_eq_some_iff.1 hx).1;omega) hx
     simp;apply RZ;simp [results81,e]
theorem yy (l:List Pst) (g:FuncId) (ds:List D) (q:Pst->Bool) (hl:l.length<=1000000000) (hg:∀ p∈l,Ct prog g (AP1 p::ds.map .d) (vb (q p)) []):Ct prog 32 [.d (ALO l), .d (.fn g ds)] (vb (l.any q)) []:=by
 refine CB func32 c32 fun E hE=>?_
 simp [p32];refine CLa (fn81 l g ds q hl hg) ?_;simp;apply RZ;simp [results32,<-IZ]
theorem ASa (l:List Pst) (hl:l.length<=1000000):Ct prog 30 [.d (ALO l), .d (.fn 31 [])] (vb (AMR l)) []:=by
 refine CB func30 c30 fun E hE=>?_
 simp [p30];refine Al (α:=Nat) (fun i=>⟨AO [(0, .d (ALO l)),(1, .d (.fn 31 [])),(8, .d (ALO l)),(9,vi l.length),(10,vi i)],lk [],0⟩) (fun i=>i<=l.length/\∀ j,j<i->ALh l j=true) (fun i=>l.length-i) 0 ?_ ?_ ?_
 . exact ⟨by omega,fun j hj=>by omega⟩
 . exact WK hE (lk [])
 . rintro i ⟨hi,hg⟩
   by_cases h:i<l.length
   . obtain ⟨x,hx⟩:=gE h
     have hz:=@wz i (by omega);have hI:(i:Int)<l.length:=by omega
     have c1:=ASY x;have c2:=mH (-500) 9000 [x.h] (by simp);cases h1:rgB (-500) 9000 [x.h]
     . have hbad:=AN3 h (by unfold ALh;rw [hx];simp [h1])
       rw [h1] at c2;simp [AMj,hI,hx,AA];refine CLa c1 ?_;simp [AA,AM];refine CLb (c2) (by simp [AG]) ?_;simp;apply RZ;simp [results30,hbad]
     . rw [h1] at c2
       by_cases h0:i=0
       . subst h0
         have hx0:l[0]?= some x:=hx;rw [List.getElem?_eq_getElem h] at hx;have hx':=Option.some.inj hx;simp [AMj,h,hx',AA];refine CLa c1 ?_;simp [AA,AM];refine CLb (c2) (by simp [AG]) ?_;simp [show IntKind.wrap .i64 1=1 by decide];refine ⟨1,⟨by omega,fun j hj=>?_⟩,by omega,?_⟩
         . have:j=0:=by omega
           subst this;unfold ALh;rw [hx0];simp [h1]
         . exact WK hE (lk [])
       . obtain ⟨y,hy⟩:∃ y,l[i-1]?= some y:=⟨_,List.getElem?_eq_getElem (by omega)⟩
         have hw:IntKind.wrap .i64 ((i:Int)-1)=((i-1:Nat):Int):=by rw [AD (by omega) (by omega)];omega
         have hI0:0<i:=by omega
         have hxb: -500<=x.h/\x.h<=9000:=by simp [rgB] at h1;omega
         have hyb: -500<=y.h/\y.h<=9000:=by
           have:=hg (i-1) (by omega);unfold ALh at this;rw [hy] at this;simp [rgB] at this;omega
         have hwd:IntKind.wrap .i64 (x.h-y.h)=x.h-y.h:=AD (by omega) (by omega);have c3:=ASY y;have c4:=mH 1 2000 [x.h-y.h] (by simp);have e:ALh l i=rgB 1 2000 [x.h-y.h]:=by unfold ALh;rw [hx];simp [h1,h0,hy]
         cases h2:rgB 1 2000 [x.h-y.h]
         . rw [h2] at c4
           have hbad:=AN3 h (by rw [e,h2]);simp [AMj,hI,hx,AA];refine CLa c1 ?_;simp [AA,AM];refine CLb (c2) (by simp [AG]) ?_;simp [hI0,hw,hy];refine CLa c3 ?_;simp [AA,AM,hwd];refine CLb (c4) (by simp [AG]) ?_;simp;apply RZ;simp [results30,hbad]
         . rw [h2] at c4
           simp [AMj,hI,hx,AA];refine CLa c1 ?_;simp [AA,AM];refine CLb (c2) (by simp [AG]) ?_;simp [hI0,hw,hy];refine CLa c3 ?_;simp [AA,AM,hwd];refine CLb (c4) (by simp [AG]) ?_;simp [hz];refine ⟨i+1,⟨by omega,fun j hj=>?_⟩,by omega,?_⟩
           . by_cases hj2:j=i
             . subst hj2;rw [e,h2]
             . exact hg j (by omega)
           . exact WK hE (lk [])
   . have e:i=l.length:=by omega
     have hn:¬ (i:Int)<l.length:=by omega
     have c:=mH 2 16 [(l.length:Int)] (by simp);have hall:=APA (l:=l) (by rw [<-e];exact hg);simp [AMj,hn,AA,AM];refine CLb (c) (by simp [AG]) ?_;simp;apply RZ;simp [results30,hall]
end Go.Proofs.Tryz
namespace Go.Proofs.Tryz
open Go.Psl
open Go.Air
def AMS (x:Nws):Bool:=rgB 0 15 [x.po]&&rgB 1 4 [x.ki]&&rgB 0 1000000 [x.se,x.ca]&&decide (x.se<=x.ca)&&spB (-12000) 12000 x.lo x.hi
def AL3 (l:List Nws):Int:=if 100<l.length then 4 else if l.all AMS then 0 else 23
theorem AQd {x:Nws} (h:AMS x=true):OkN x:=by
 simp only [AMS,Bool.and_eq_true,decide_eq_true_eq,CC] at h;obtain ⟨⟨⟨⟨h1,h2⟩,h3⟩,h4⟩,h5⟩:=h;simp [rgB] at h1 h2 h3;exact ⟨by omega,by omega,by omega,by omega⟩
theorem ASF (l:List Nws) (hl:l.length<=1000000):Ct prog 80 [.d (ALV l)] (vi (AL3 l)) []:=by
 by_cases h100:100<l.length
 . have h':(100:Int)<l.length:=by omega
   refine CB func80 c80 fun E hE=>?_
   simp [p80,h'];apply RZ;simp [results80,AL3,h100]
 have h':¬ (100:Int)<l.length:=by omega
 refine CB func80 c80 fun E hE=>?_
 simp [p80,h'];refine Al (α:=Nat) (fun i=>⟨AO [(8, .d (ALV l)),(9,vi l.length),(10,vi i)],lk [],0⟩) (fun i=>i<=l.length/\∀ j,j<i->(l[j]?).all AMS=true) (fun i=>l.length-i) 0 ?_ ?_ ?_
 . exact ⟨by omega,fun j hj=>by omega⟩
 . exact WK hE (lk [])
 . rintro i ⟨hi,hg⟩
   have hz:=@wz i (by omega);by_cases h:i<l.length
   . obtain ⟨x,hx⟩:=gE h
     have hI:(i:Int)<l.length:=by omega
     have c1:=mH 0 15 [x.po] (by simp);have c2:=mH 1 4 [x.ki] (by simp);have c3:=mH 0 1000000 [x.se,x.ca] (by simp);have c4:=xe x.lo x.hi (-12000) 12000
     have hb:AMS x=false->AL3 l=23:=fun h=>by
       unfold AL3;rw [if_neg h100,if_neg];simp only [Bool.not_eq_true];exact List.all_eq_false.2 ⟨x,List.mem_of_getElem? hx,by simp [h]⟩
     cases h1:rgB 0 15 [x.po] with
     | false=>
       have hbad:=hb (by simp [AMS,h1]);rw [h1] at c1;simp [AMP,hI,hx,AA,AM];refine CLb (c1) (by simp [AG]) ?_;simp;apply RZ;simp [results80,hbad]
     | true=>
       rw [h1] at c1;cases h2:rgB 1 4 [x.ki] with
       | false=>
         have hbad:=hb (by simp [AMS,h2]);rw [h2] at c2;simp [AMP,hI,hx,AA,AM];refine CLb (c1) (by simp [AG]) ?_;simp [AA,AM];refine CLb (c2) (by simp [AG]) ?_;simp;apply RZ;simp [results80,hbad]
       | true=>
         rw [h2] at c2;cases h3:rgB 0 1000000 [x.se,x.ca] with
         | false=>
           have hbad:=hb (by simp [AMS,h3]);rw [h3] at c3;simp [AMP,hI,hx,AA,AM];refine CLb (c1) (by simp [AG]) ?_;simp [AA,AM];refine CLb (c2) (by simp [AG]) ?_;simp [AA,AM];refine CLb (c3) (by simp [Ap]) ?_;simp;apply RZ;simp [results80,hbad]
         | true=>
           rw [h3] at c3;by_cases h4:x.se<=x.ca
           . have h4':¬ x.ca<x.se:=by omega
             cases h5:spB (-12000) 12000 x.lo x.hi with
             | false=>
               have hbad:=hb (by simp [AMS,h5]);rw [h5] at c4;simp [AMP,hI,hx,AA,AM];refine CLb (c1) (by simp [AG]) ?_;simp [AA,AM];refine CLb (c2) (by simp [AG]) ?_;simp [AA,AM];refine CLb (c3) (by simp [Ap]) ?_;simp [h4'];refine CLa c4 ?_;simp;apply RZ;simp [results80,hbad]
             | true=>
               rw [h5] at c4;simp [AMP,hI,hx,AA,AM];refine CLb (c1) (by simp [AG]) ?_;simp [AA,AM];refine CLb (c2) (by simp [AG]) ?_;simp [AA,AM];refine CLb (c3) (by simp [Ap]) ?_;simp [h4'];refine CLa c4 ?_;simp [hz];refine ⟨i+1,⟨by omega,fun j hj=>?_⟩,by omega,?_⟩
               . by_cases e:j=i
                 . subst e;rw [hx];simp [AMS,h1,h2,h3,h4,h5]
                 . exact hg j (by omega)
               . exact WK hE (lk [])
           . have h4':x.ca<x.se:=by omega
             have hbad:=hb (by simp [AMS,h4]);simp [AMP,hI,hx,AA,AM];refine CLb (c1) (by simp [AG]) ?_;simp [AA,AM];refine CLb (c2) (by simp [AG]) ?_;simp [AA,AM];refine CLb (c3) (by simp [Ap]) ?_;simp [h4'];apply RZ;simp [results80,hbad]
   . have hI:¬ (i:Int)<l.length:=by omega
     have hok:AL3 l=0:=by
       unfold AL3;rw [if_neg h100,if_pos];refine List.all_eq_true.2 fun x hx=>?_
       obtain ⟨j,hj⟩:=List.getElem?_of_mem hx;have:=hg j (by have:=(List.getElem?_eq_some_iff.1 hj).1;omega);rw [hj] at this;exact this
     simp [AMP,hI];apply RZ;simp [results80,hok]
def ALW (r:Rts) (l:List Nws) (t nw:Int):Int:=if AL3 l≠0 then AL3 l else if rgB 0 100 [r.p,r.t,r.w]&&rgB 0 1000000 [t,nw] then 0 else 2
theorem ANG {H:Hp} {id:Nat} {a b c:Int} (h:H id=some [vi a,vi b,vi c]):Bor H (.ls id 0 3 1) (.d (Ch [a,b,c])):=by
 simp [Bk,h]
abbrev AMT (r:Rts):V:= .agg [vi r.p,vi r.t,vi r.w]
theorem AN2 (r:Rts) (l:List Nws) (t nw:Int) (hl:l.length<=1000000) (h:ALW r l t nw=0):Ct prog 29 [AMT r, .d (ALV l),vi 0,vi 1, .d (Ch [t,nw])] (.tup [.d (cF l r),vi 0]) []:=by
 have c0:=ASF l hl
 have hc:AL3 l=0:=by
   unfold ALW at h;by_cases e:AL3 l=0
   . exact e
   . rw [if_pos e] at h;exact absurd h e
 have h2:(rgB 0 100 [r.p,r.t,r.w]&&rgB 0 1000000 [t,nw])=true:=by
   unfold ALW at h;rw [if_neg (by simp [hc])] at h;cases e:(rgB 0 100 [r.p,r.t,r.w]&&rgB 0 1000000 [t,nw]) with
   | true=>rfl
   | false=>rw [e] at h;simp at h
 rw [Bool.and_eq_true] at h2;rw [hc] at c0;have c1:=mH 0 100 [r.p,r.t,r.w] (by simp);have c2:=mH 0 15 [0] (by simp);have c3:=mH 1 4 [1] (by simp);have c4:=mH 0 1000000 [t,nw] (by simp);rw [h2.1] at c1;rw [h2.2] at c4;rw [show rgB 0 15 [0]=true by decide] at c2;rw [show rgB 1 4 [1]=true by decide] at c3;refine Cm.freeze (?_:Ct prog 29 [AMT r, .d (ALV l),vi 0,vi 1, .d (Ch [t,nw])] (.tup [.lp 0 0,vi 0]) [(0,[.d (ALV l),vi 0,vi r.p,vi r.t,vi r.w,vi r.w])]) ?_
 . refine CB func29 c29 fun E hE=>?_
   simp [p29];refine CLa c0 ?_;simp [AA,AM];refine CLb (c1) (by simp [ANG]) ?_;simp [AA,AM];refine CLb (c2) (by simp [AG]) ?_;simp [AA,AM];refine CLb (c3) (by simp [AG]) ?_;simp;refine CLa c4 ?_;simp [AA];refine AB.by (lk [(0,47185920)]) ?_;simp [results29]
 . exact ⟨⟨[.d (ALV l),vi 0,vi r.p,vi r.t,vi r.w,vi r.w],rfl,rfl⟩, .inl rfl,trivial⟩
theorem APp (r:Rts) (l:List Nws) (t nw:Int) (hl:l.length<=1000000) (h:ALW r l t nw≠0):Ct prog 29 [AMT r, .d (ALV l),vi 0,vi 1, .d (Ch [t,nw])] (.tup [.d (.lit (.pointer none)),vi (ALW r l t nw)]) []:=by
 have c0:=ASF l hl;have c1:=mH 0 100 [r.p,r.t,r.w] (by simp);have c2:=mH 0 15 [0] (by simp);have c3:=mH 1 4 [1] (by simp);have c4:=mH 0 1000000 [t,nw] (by simp);rw [show rgB 0 15 [0]=true by decide] at c2;rw [show rgB 1 4 [1]=true by decide] at c3;by_cases hc:AL3 l=0
 case neg=>
   have e:ALW r l t nw=AL3 l:=by unfold ALW;rw [if_pos hc]
   rw [e];refine CB func29 c29 fun E hE=>?_
   simp [p29];refine CLa c0 ?_;simp [hc];apply RZ;simp [results29]
 cases h1:rgB 0 100 [r.p,r.t,r.w] with
 | false=>
   have e:ALW r l t nw=2:=by unfold ALW;rw [if_neg (by simp [hc]),h1];rfl
   rw [hc] at c0;rw [h1] at c1;rw [e];refine CB func29 c29 fun E hE=>?_
   simp [p29];refine CLa c0 ?_;simp [AA,AM];refine CLb (c1) (by simp [ANG]) ?_;simp;apply RZ;simp [results29]
 | true=>
   cases h2:rgB 0 1000000 [t,nw] with
   | true=>exact absurd (by unfold ALW;rw [if_neg (by simp [hc]),h1,h2];rfl) h
   | false=>
     have e:ALW r l t nw=2:=by unfold ALW;rw [if_neg (by simp [hc]),h1,h2];rfl
     rw [hc] at c0;rw [h1] at c1;rw [h2] at c4;rw [e];refine CB func29 c29 fun E hE=>?_
     simp [p29];refine CLa c0 ?_;simp [AA,AM];refine CLb (c1) (by simp [ANG]) ?_;simp [AA,AM];refine CLb (c2) (by simp [AG]) ?_;simp [AA,AM];refine CLb (c3) (by simp [AG]) ?_;simp;refine CLa c4 ?_;simp;apply RZ;simp [results29]
structure SnD where
 ns:List Nws
 r:Rts
 t:Int
 nw:Int
def y3 (k:Nat):Int × Int:=if k=1 then (1000,12000) else if k=2 then (1500,3500) else (-1000,1000)
def knP (d:SnD) (i k:Nat):(Int × Int) × Int:=ALd d.r (C2 i k d.nw 0 d.ns) d.t
def knE (d:SnD) (i k:Nat):Int:=(knP d i k).2
def knV (d:SnD) (i k:Nat):Int × Int:=(max (knP d i k).1.1 (y3 k).1,min (knP d i k).1.2 (y3 k).2)
def ALQ (d:SnD) (i:Nat):Int:=if knE d i 1≠0 then knE d i 1 else if knE d i 2≠0 then knE d i 2 else if knE d i 3≠0 then knE d i 3 else knE d i 4
def ufK (d:SnD) (i:Nat):Nat->Bool->Bool
 | 0,u=>u
 | k+1,u=>ufK d i k u||decide ((knV d i (k+1)).2<(knV d i (k+1)).1)
def ufA (d:SnD):Nat->Bool
 | 0=>false
 | i+1=>ufK d i 4 (ufA d i)
def lvK (d:SnD) (p:List Pst):Nat->List Lev
 | 0=>[]
 | i+1=>lvK d p i++match p[i]? with
   | some x=>[⟨x.h,(knV d i 1).1,(knV d i 1).2,(knV d i 2).1,(knV d i 2).2⟩]
   | none=>[]
def glK (d:SnD) (p:List Pst):Nat->List Gal
 | 0=>[]
 | i+1=>glK d p i++match p[i]? with
   | some x=>[⟨x.h,(knV d i 3).1,(knV d i 3).2,(knV d i 4).1,(knV d i 4).2,x.g⟩]
   | none=>[]
theorem ALw {d:SnD} {p:List Pst} {i:Nat} {x:Pst} (h:p[i]?= some x):lvK d p (i+1)=lvK d p i++[⟨x.h,(knV d i 1).1,(knV d i 1).2,(knV d i 2).1,(knV d i 2).2⟩]:=by
 show lvK d p i++_=_
 rw [h]
theorem ALx {d:SnD} {p:List Pst} {i:Nat} {x:Pst} (h:p[i]?= some x):glK d p (i+1)=glK d p i++[⟨x.h,(knV d i 3).1,(knV d i 3).2,(knV d i 4).1,(knV d i 4).2,x.g⟩]:=by
 show glK d p i++_=_
 rw [h]
theorem ALY {d:SnD} {p:List Pst}:∀ {i:Nat},i<=p.length->(lvK d p i).length=i
 | 0,_=>rfl
 | i+1,h=>by
   obtain ⟨x,hx⟩:∃ x,p[i]?= some x:=⟨_,List.getElem?_eq_getElem (by omega)⟩
   rw [ALw hx,List.length_append,ALY (by omega)];rfl
theorem ALZ {d:SnD} {p:List Pst}:∀ {i:Nat},i<=p.length->(glK d p i).length=i
 | 0,_=>rfl
 | i+1,h=>by
   obtain ⟨x,hx⟩:∃ x,p[i]?= some x:=⟨_,List.getElem?_eq_getElem (by omega)⟩
   rw [ALx hx,List.length_append,ALZ (by omega)];rfl
structure SnO (d:SnD):Prop where
 r:OkR d.r
 n:∀ x∈d.ns,OkN x
 l:d.ns.length<=1000
 t:0<=d.t/\d.t<=1000000
def vA (d:SnD) (i k j:Nat):Int × Int:=if j<=k then knV d i j else (0,0)
abbrev vB (d:SnD) (i k:Nat):List V:=[vi 0,vi 0,vi (vA d i k 1).1,vi (vA d i k 1).2,vi (vA d i k 2).1,vi (vA d i k 2).2,vi (vA d i k 3).1,vi (vA d i k 3).2,vi (vA d i k 4).1,vi (vA d i k 4).2]
abbrev AMa:List V:=[vi 0,vi 0,vi 1000,vi 12000,vi 1500,vi 3500,vi (-1000),vi 1000,vi (-1000),vi 1000]
theorem ALa (d:SnD) (hd:SnO d) (i k:Nat):Ct prog 35 [.d (cF d.ns d.r),vi i,vi k,vi d.t,vi d.nw] (.tup [vsp (knP d i k).1.1 (knP d i k).1.2,vi (knE d i k)]) []:=
 fn35 ⟨d.ns,d.r,i,k,d.t,d.nw⟩ ⟨hd.r,hd.n,hd.l,hd.t⟩
theorem ALj {d:SnD} {i k:Nat} (hk:k<=3) (hz:∀ j,1<=j->j<=k->knE d i j=0) (h:knE d i (k+1)≠0):ALQ d i=knE d i (k+1):=by
 unfold ALQ;have hk4:k=0\/k=1\/k=2\/k=3:=by omega
 rcases hk4 with rfl | rfl | rfl | rfl
 . rw [if_pos h]
 . rw [if_neg (by simp [hz 1]),if_pos h]
 . rw [if_neg (by simp [hz 1]),if_neg (by simp [hz 2]),if_pos h]
 . rw [if_neg (by simp [hz 1]),if_neg (by simp [hz 2]),if_neg (by simp [hz 3])]
theorem AMm {d:SnD} {i:Nat} (hz:∀ j,1<=j->j<=4->knE d i j=0):ALQ d i=0:=by
 unfold ALQ;rw [if_neg (by simp [hz 1]),if_neg (by simp [hz 2]),if_neg (by simp [hz 3]),hz 4 (by omega) (by omega)]
structure NoV (e:Int) (st:St):Prop where
 a:st.fr 10= .d (.lit (.slice none 0 0))
 b:st.fr 11= .d (.lit (.slice none 0 0))
 c:st.fr 12=vi e
theorem AQB (d:SnD) (hd:SnO d) (p:List Pst) (i:Nat) (x:Pst) (u:Bool) {E:Ent} (hE:∀ i,¬ E.stab i) {Q:Av->St->Prop} (hQ:∀ e st,e=ALQ d i->e≠0->NoV e st->Q .ret st) (k:Nat) (hk:k<=4) (hz:∀ j,1<=j->j<=k->knE d i j=0):PW prog tys eqs E qI
   (DP (fun st'=>∃ y,(y<=4/\∀ j,1<=j->j<=y->knE d i j=0)/\4-y<4-k/\AI prog E st' ⟨AO [(3,vi d.t),(4,vi d.nw),(13, .d (cF d.ns d.r)),(15, .lp 1 0),(16, .d (.lit (.slice none 0 0))),(17, .d (.lit (.slice none 0 0))),(18,vb (ufK d i y u)),(19,vi i),(20, .lp 4 0),(21, .lp 5 0),(22,vi (y+1:Nat)),(54, .d (ALO p)),(55,vi p.length),(56,vi i)],lk [(1,AMa),(4,[vi x.h,vi x.g]),(5,vB d i y)],6⟩)
     (exC prog E Q 2 (fun _:Unit=>⟨AO [(3,vi d.t),(4,vi d.nw),(13, .d (cF d.ns d.r)),(15, .lp 1 0),(16, .d (.lit (.slice none 0 0))),(17, .d (.lit (.slice none 0 0))),(18,vb (ufK d i 4 u)),(20, .lp 4 0),(21, .lp 5 0),(54, .d (ALO p)),(55,vi p.length),(56,vi i)],lk [(1,AMa),(4,[vi x.h,vi x.g]),(5,vB d i 4)],6⟩) (fun _=>∀ j,1<=j->j<=4->knE d i j=0)))
   ⟨AO [(3,vi d.t),(4,vi d.nw),(13, .d (cF d.ns d.r)),(15, .lp 1 0),(16, .d (.lit (.slice none 0 0))),(17, .d (.lit (.slice none 0 0))),(18,vb (ufK d i k u)),(19,vi i),(20, .lp 4 0),(21, .lp 5 0),(22,vi (k+1:Nat)),(54, .d (ALO p)),(55,vi p.length),(56,vi i)],lk [(1,AMa),(4,[vi x.h,vi x.g]),(5,vB d i k)],6⟩:=by
 have hk5:k=0\/k=1\/k=2\/k=3\/k=4:=by omega
 rcases hk5 with rfl | rfl | rfl | rfl | rfl
 . have ck:=ALa d hd i 1
   have ct:=qF (knP d i 1).1.1 (knP d i 1).1.2 (y3 1).1 (y3 1).2;have e1:max (knP d i 1).1.1 (y3 1).1=(knV d i 1).1:=rfl;have e2:min (knP d i 1).1.2 (y3 1).2=(knV d i 1).2:=rfl;rw [e1,e2] at ct;have hlim:y3 1=(1000,12000):=rfl;rw [hlim] at ct;have hw:IntKind.wrap .i64 2=2:=AD (by omega) (by omega);by_cases he:knE d i 1=0
   . rw [he] at ck
     have hu:ufK d i 1 u=(ufK d i 0 u||decide ((knV d i 1).2<(knV d i 1).1)):=rfl
     have hz1:∀ j,1<=j->j<=1->knE d i j=0:=fun j h1 h2=>by
       by_cases e:j=1
       . rw [e];exact he
       . exact hz j h1 (by omega)
     simp [qI];refine CLa ck ?_;simp [AA,AM,inC,Nat.testBit];refine CLb (ct) (by first | (simp;done) | simp [Bk,inC,Nat.testBit]) ?_;cases huK:ufK d i 0 u with
     | true=>
       rw [huK] at hu;simp [AA,vA,hw];refine ⟨1,⟨by omega,hz1⟩,by omega,?_⟩;rw [hu];refine AI.mk hE (lk [(1,1),(4,4),(5,5)]) _ _ _ ?_ ?_ ?_ ?_ ?_<;>simp [vA]
     | false=>
       rw [huK] at hu;simp [AA,inC,Nat.testBit,vA,hw];refine ⟨1,⟨by omega,hz1⟩,by omega,?_⟩;rw [hu];refine AI.mk hE (lk [(1,1),(4,4),(5,5)]) _ _ _ ?_ ?_ ?_ ?_ ?_<;>simp [vA]
   . simp [qI]
     refine CLa ck ?_;simp [AA,he];exact hQ _ _ (ALj (k:=0) (by omega) hz he).symm he ⟨by simp,by simp,by simp⟩
 . have ck:=ALa d hd i 2
   have ct:=qF (knP d i 2).1.1 (knP d i 2).1.2 (y3 2).1 (y3 2).2;have e1:max (knP d i 2).1.1 (y3 2).1=(knV d i 2).1:=rfl;have e2:min (knP d i 2).1.2 (y3 2).2=(knV d i 2).2:=rfl;rw [e1,e2] at ct;have hlim:y3 2=(1500,3500):=rfl;rw [hlim] at ct;have hw:IntKind.wrap .i64 3=3:=AD (by omega) (by omega);by_cases he:knE d i 2=0
   . rw [he] at ck
     have hu:ufK d i 2 u=(ufK d i 1 u||decide ((knV d i 2).2<(knV d i 2).1)):=rfl
     have hz1:∀ j,1<=j->j<=2->knE d i j=0:=fun j h1 h2=>by
       by_cases e:j=2
       . rw [e];exact he
       . exact hz j h1 (by omega)
     simp [qI];refine CLa ck ?_;simp [AA,AM,inC,Nat.testBit];refine CLb (ct) (by first | (simp;done) | simp [Bk,inC,Nat.testBit]) ?_;cases huK:ufK d i 1 u with
     | true=>
       rw [huK] at hu;simp [AA,vA,hw];refine ⟨2,⟨by omega,hz1⟩,by omega,?_⟩;rw [hu];refine AI.mk hE (lk [(1,1),(4,4),(5,5)]) _ _ _ ?_ ?_ ?_ ?_ ?_<;>simp [vA]
     | false=>
       rw [huK] at hu;simp [AA,inC,Nat.testBit,vA,hw];refine ⟨2,⟨by omega,hz1⟩,by omega,?_⟩;rw [hu];refine AI.mk hE (lk [(1,1),(4,4),(5,5)]) _ _ _ ?_ ?_ ?_ ?_ ?_<;>simp [vA]
   . simp [qI]
     refine CLa ck ?_;simp [AA,he];exact hQ _ _ (ALj (k:=1) (by omega) hz he).symm he ⟨by simp,by simp,by simp⟩
 . have ck:=ALa d hd i 3
   have ct:=qF (knP d i 3).1.1 (knP d i 3).1.2 (y3 3).1 (y3 3).2;have e1:max (knP d i 3).1.1 (y3 3).1=(knV d i 3).1:=rfl;have e2:min (knP d i 3).1.2 (y3 3).2=(knV d i 3).2:=rfl;rw [e1,e2] at ct;have hlim:y3 3=(-1000,1000):=rfl;rw [hlim] at ct;have hw:IntKind.wrap .i64 4=4:=AD (by omega) (by omega);by_cases he:knE d i 3=0
   . rw [he] at ck
     have hu:ufK d i 3 u=(ufK d i 2 u||decide ((knV d i 3).2<(knV d i 3).1)):=rfl
     have hz1:∀ j,1<=j->j<=3->knE d i j=0:=fun j h1 h2=>by
       by_cases e:j=3
       . rw [e];exact he
       . exact hz j h1 (by omega)
     simp [qI];refine CLa ck ?_;simp [AA,AM,inC,Nat.testBit];refine CLb (ct) (by first | (simp;done) | simp [Bk,inC,Nat.testBit]) ?_;cases huK:ufK d i 2 u with
     | true=>
       rw [huK] at hu;simp [AA,vA,hw];refine ⟨3,⟨by omega,hz1⟩,by omega,?_⟩;rw [hu];refine AI.mk hE (lk [(1,1),(4,4),(5,5)]) _ _ _ ?_ ?_ ?_ ?_ ?_<;>simp [vA]
     | false=>
       rw [huK] at hu;simp [AA,inC,Nat.testBit,vA,hw];refine ⟨3,⟨by omega,hz1⟩,by omega,?_⟩;rw [hu];refine AI.mk hE (lk [(1,1),(4,4),(5,5)]) _ _ _ ?_ ?_ ?_ ?_ ?_<;>simp [vA]
   . simp [qI]
     refine CLa ck ?_;simp [AA,he];exact hQ _ _ (ALj (k:=2) (by omega) hz he).symm he ⟨by simp,by simp,by simp⟩
 . have ck:=ALa d hd i 4
   have ct:=qF (knP d i 4).1.1 (knP d i 4).1.2 (y3 4).1 (y3 4).2;have e1:max (knP d i 4).1.1 (y3 4).1=(knV d i 4).1:=rfl;have e2:min (knP d i 4).1.2 (y3 4).2=(knV d i 4).2:=rfl;rw [e1,e2] at ct;have hlim:y3 4=(-1000,1000):=rfl;rw [hlim] at ct;have hw:IntKind.wrap .i64 5=5:=AD (by omega) (by omega);by_cases he:knE d i 4=0
   . rw [he] at ck
     have hu:ufK d i 4 u=(ufK d i 3 u||decide ((knV d i 4).2<(knV d i 4).1)):=rfl
     have hz1:∀ j,1<=j->j<=4->knE d i j=0:=fun j h1 h2=>by
       by_cases e:j=4
       . rw [e];exact he
       . exact hz j h1 (by omega)
     simp [qI];refine CLa ck ?_;simp [AA,AM,inC,Nat.testBit];refine CLb (ct) (by first | (simp;done) | simp [Bk,inC,Nat.testBit]) ?_;cases huK:ufK d i 3 u with
     | true=>
       rw [huK] at hu;simp [AA,vA,hw];refine ⟨4,⟨by omega,hz1⟩,by omega,?_⟩;rw [hu];refine AI.mk hE (lk [(1,1),(4,4),(5,5)]) _ _ _ ?_ ?_ ?_ ?_ ?_<;>simp [vA]
     | false=>
       rw [huK] at hu;simp [AA,inC,Nat.testBit,vA,hw];refine ⟨4,⟨by omega,hz1⟩,by omega,?_⟩;rw [hu];refine AI.mk hE (lk [(1,1),(4,4),(5,5)]) _ _ _ ?_ ?_ ?_ ?_ ?_<;>simp [vA]
   . simp [qI]
     refine CLa ck ?_;simp [AA,he];exact hQ _ _ (ALj (k:=3) (by omega) hz he).symm he ⟨by simp,by simp,by simp⟩
 . simp [qI]
   refine ⟨hz,?_⟩;exact WK hE (lk [(1,1),(4,4),(5,5)])
theorem AQC (d:SnD) (hd:SnO d) (p:List Pst) (i:Nat) (x:Pst) (u:Bool) (L:List Lev) (G:List Gal) {E:Ent} (hE:∀ i,¬ E.stab i) {Q:Av->St->Prop} (hQ:∀ e st,e=ALQ d i->e≠0->NoV e st->Q .ret st) (k:Nat) (hk:k<=4) (hz:∀ j,1<=j->j<=k->knE d i j=0):PW prog tys eqs E qI
   (DP (fun st'=>∃ y,(y<=4/\∀ j,1<=j->j<=y->knE d i j=0)/\4-y<4-k/\AI prog E st' ⟨AO [(3,vi d.t),(4,vi d.nw),(13, .d (cF d.ns d.r)),(15, .lp 1 0),(16, .ls 2 0 L.length 5),(17, .ls 3 0 G.length 6),(18,vb (ufK d i y u)),(19,vi i),(20, .lp 4 0),(21, .lp 5 0),(22,vi (y+1:Nat)),(54, .d (ALO p)),(55,vi p.length),(56,vi i)],lk [(1,AMa),(4,[vi x.h,vi x.g]),(5,vB d i y),(2,AH A5 L),(3,AH galL G)],6⟩)
     (exC prog E Q 2 (fun _:Unit=>⟨AO [(3,vi d.t),(4,vi d.nw),(13, .d (cF d.ns d.r)),(15, .lp 1 0),(16, .ls 2 0 L.length 5),(17, .ls 3 0 G.length 6),(18,vb (ufK d i 4 u)),(20, .lp 4 0),(21, .lp 5 0),(54, .d (ALO p)),(55,vi p.length),(56,vi i)],lk [(1,AMa),(4,[vi x.h,vi x.g]),(5,vB d i 4),(2,AH A5 L),(3,AH galL G)],6⟩) (fun _=>∀ j,1<=j->j<=4->knE d i j=0)))
   ⟨AO [(3,vi d.t),(4,vi d.nw),(13, .d (cF d.ns d.r)),(15, .lp 1 0),(16, .ls 2 0 L.length 5),(17, .ls 3 0 G.length 6),(18,vb (ufK d i k u)),(19,vi i),(20, .lp 4 0),(21, .lp 5 0),(22,vi (k+1:Nat)),(54, .d (ALO p)),(55,vi p.length),(56,vi i)],lk [(1,AMa),(4,[vi x.h,vi x.g]),(5,vB d i k),(2,AH A5 L),(3,AH galL G)],6⟩:=by
 have hk5:k=0\/k=1\/k=2\/k=3\/k=4:=by omega
 rcases hk5 with rfl | rfl | rfl | rfl | rfl
 . have ck:=ALa d hd i 1
   have ct:=qF (knP d i 1).1.1 (knP d i 1).1.2 (y3 1).1 (y3 1).2;have e1:max (knP d i 1).1.1 (y3 1).1=(knV d i 1).1:=rfl;have e2:min (knP d i 1).1.2 (y3 1).2=(knV d i 1).2:=rfl;rw [e1,e2] at ct;have hlim:y3 1=(1000,12000):=rfl;rw [hlim] at ct;have hw:IntKind.wrap .i64 2=2:=AD (by omega) (by omega);by_cases he:knE d i 1=0
   . rw [he] at ck
     have hu:ufK d i 1 u=(ufK d i 0 u||decide ((knV d i 1).2<(knV d i 1).1)):=rfl
     have hz1:∀ j,1<=j->j<=1->knE d i j=0:=fun j h1 h2=>by
       by_cases e:j=1
       . rw [e];exact he
       . exact hz j h1 (by omega)
     simp [qI];refine CLa ck ?_;simp [AA,AM,inC,Nat.testBit];refine CLb (ct) (by first | (simp;done) | simp [Bk,inC,Nat.testBit]) ?_;cases huK:ufK d i 0 u with
     | true=>
       rw [huK] at hu;simp [AA,vA,hw];refine ⟨1,⟨by omega,hz1⟩,by omega,?_⟩;rw [hu];refine AI.mk hE (lk [(1,1),(4,4),(5,5),(2,2),(3,3)]) _ _ _ ?_ ?_ ?_ ?_ ?_<;>simp [vA]
     | false=>
       rw [huK] at hu;simp [AA,inC,Nat.testBit,vA,hw];refine ⟨1,⟨by omega,hz1⟩,by omega,?_⟩;rw [hu];refine AI.mk hE (lk [(1,1),(4,4),(5,5),(2,2),(3,3)]) _ _ _ ?_ ?_ ?_ ?_ ?_<;>simp [vA]
   . simp [qI]
     refine CLa ck ?_;simp [AA,he];exact hQ _ _ (ALj (k:=0) (by omega) hz he).symm he ⟨by simp,by simp,by simp⟩
 . have ck:=ALa d hd i 2
   have ct:=qF (knP d i 2).1.1 (knP d i 2).1.2 (y3 2).1 (y3 2).2;have e1:max (knP d i 2).1.1 (y3 2).1=(knV d i 2).1:=rfl;have e2:min (knP d i 2).1.2 (y3 2).2=(knV d i 2).2:=rfl;rw [e1,e2] at ct;have hlim:y3 2=(1500,3500):=rfl;rw [hlim] at ct;have hw:IntKind.wrap .i64 3=3:=AD (by omega) (by omega);by_cases he:knE d i 2=0
   . rw [he] at ck
     have hu:ufK d i 2 u=(ufK d i 1 u||decide ((knV d i 2).2<(knV d i 2).1)):=rfl
     have hz1:∀ j,1<=j->j<=2->knE d i j=0:=fun j h1 h2=>by
       by_cases e:j=2
       . rw [e];exact he
       . exact hz j h1 (by omega)
     simp [qI];refine CLa ck ?_;simp [AA,AM,inC,Nat.testBit];refine CLb (ct) (by first | (simp;done) | simp [Bk,inC,Nat.testBit]) ?_;cases huK:ufK d i 1 u with
     | true=>
       rw [huK] at hu;simp [AA,vA,hw];refine ⟨2,⟨by omega,hz1⟩,by omega,?_⟩;rw [hu];refine AI.mk hE (lk [(1,1),(4,4),(5,5),(2,2),(3,3)]) _ _ _ ?_ ?_ ?_ ?_ ?_<;>simp [vA]
     | false=>
       rw [huK] at hu;simp [AA,inC,Nat.testBit,vA,hw];refine ⟨2,⟨by omega,hz1⟩,by omega,?_⟩;rw [hu];refine AI.mk hE (lk [(1,1),(4,4),(5,5),(2,2),(3,3)]) _ _ _ ?_ ?_ ?_ ?_ ?_<;>simp [vA]
   . simp [qI]
     refine CLa ck ?_;simp [AA,he];exact hQ _ _ (ALj (k:=1) (by omega) hz he).symm he ⟨by simp,by simp,by simp⟩
 . have ck:=ALa d hd i 3
   have ct:=qF (knP d i 3).1.1 (knP d i 3).1.2 (y3 3).1 (y3 3).2;have e1:max (knP d i 3).1.1 (y3 3).1=(knV d i 3).1:=rfl;have e2:min (knP d i 3).1.2 (y3 3).2=(knV d i 3).2:=rfl;rw [e1,e2] at ct;have hlim:y3 3=(-1000,1000):=rfl;rw [hlim] at ct;have hw:IntKind.wrap .i64 4=4:=AD (by omega) (by omega);by_cases he:knE d i 3=0
   . rw [he] at ck
     have hu:ufK d i 3 u=(ufK d i 2 u||decide ((knV d i 3).2<(knV d i 3).1)):=rfl
     have hz1:∀ j,1<=j->j<=3->knE d i j=0:=fun j h1 h2=>by
       by_cases e:j=3
       . rw [e];exact he
       . exact hz j h1 (by omega)
     simp [qI];refine CLa ck ?_;simp [AA,AM,inC,Nat.testBit];refine CLb (ct) (by first | (simp;done) | simp [Bk,inC,Nat.testBit]) ?_;cases huK:ufK d i 2 u with
     | true=>
       rw [huK] at hu;simp [AA,vA,hw];refine ⟨3,⟨by omega,hz1⟩,by omega,?_⟩;rw [hu];refine AI.mk hE (lk [(1,1),(4,4),(5,5),(2,2),(3,3)]) _ _ _ ?_ ?_ ?_ ?_ ?_<;>simp [vA]
     | false=>
       rw [huK] at hu;simp [AA,inC,Nat.testBit,vA,hw];refine ⟨3,⟨by omega,hz1⟩,by omega,?_⟩;rw [hu];refine AI.mk hE (lk [(1,1),(4,4),(5,5),(2,2),(3,3)]) _ _ _ ?_ ?_ ?_ ?_ ?_<;>simp [vA]
   . simp [qI]
     refine CLa ck ?_;simp [AA,he];exact hQ _ _ (ALj (k:=2) (by omega) hz he).symm he ⟨by simp,by simp,by simp⟩
 . have ck:=ALa d hd i 4
   have ct:=qF (knP d i 4).1.1 (knP d i 4).1.2 (y3 4).1 (y3 4).2;have e1:max (knP d i 4).1.1 (y3 4).1=(knV d i 4).1:=rfl;have e2:min (knP d i 4).1.2 (y3 4).2=(knV d i 4).2:=rfl;rw [e1,e2] at ct;have hlim:y3 4=(-1000,1000):=rfl;rw [hlim] at ct;have hw:IntKind.wrap .i64 5=5:=AD (by omega) (by omega);by_cases he:knE d i 4=0
   . rw [he] at ck
     have hu:ufK d i 4 u=(ufK d i 3 u||decide ((knV d i 4).2<(knV d i 4).1)):=rfl
     have hz1:∀ j,1<=j->j<=4->knE d i j=0:=fun j h1 h2=>by
       by_cases e:j=4
       . rw [e];exact he
       . exact hz j h1 (by omega)
     simp [qI];refine CLa ck ?_;simp [AA,AM,inC,Nat.testBit];refine CLb (ct) (by first | (simp;done) | simp [Bk,inC,Nat.testBit]) ?_;cases huK:ufK d i 3 u with
     | true=>
       rw [huK] at hu;simp [AA,vA,hw];refine ⟨4,⟨by omega,hz1⟩,by omega,?_⟩;rw [hu];refine AI.mk hE (lk [(1,1),(4,4),(5,5),(2,2),(3,3)]) _ _ _ ?_ ?_ ?_ ?_ ?_<;>simp [vA]
     | false=>
       rw [huK] at hu;simp [AA,inC,Nat.testBit,vA,hw];refine ⟨4,⟨by omega,hz1⟩,by omega,?_⟩;rw [hu];refine AI.mk hE (lk [(1,1),(4,4),(5,5),(2,2),(3,3)]) _ _ _ ?_ ?_ ?_ ?_ ?_<;>simp [vA]
   . simp [qI]
     refine CLa ck ?_;simp [AA,he];exact hQ _ _ (ALj (k:=3) (by omega) hz he).symm he ⟨by simp,by simp,by simp⟩
 . simp [qI]
   refine ⟨hz,?_⟩;exact WK hE (lk [(1,1),(4,4),(5,5),(2,2),(3,3)])
end Go.Proofs.Tryz
